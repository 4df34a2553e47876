/- The contracts of the library's functions on lists that the call owns: slices.Contains, slices.Sort, strings.Join, slices.ContainsFunc, slices.SortFunc, and of the three closures of tag.Parse. -/
import Derived.Test.YtjlfchnnhglbjaaGreatNext
import Derived.Sort.OwnSorted
import Derived.Lib.OwnBridge
set_option linter.unusedVariables false
set_option linter.unusedSimpArgs false
namespace Go.Proofs.YtjlfchnnhglbjaaGreat
open Go.RowKit Go.Lib Go.Sort


/-- a pair's two cells -/
def enc2 (p : Str × Str) : List Value := [S p.1, S p.2]
def flat2 (l : List (Str × Str)) : List Value := l.flatMap enc2
theorem flat2_len (l : List (Str × Str)) : (flat2 l).length = l.length * 2 := by
  induction l with
  | nil => rfl
  | cons a r ih => simp only [flat2, List.flatMap_cons, List.length_append, List.length_cons] at ih ⊢; rw [ih]; simp [enc2]; omega
theorem flat2_get (l : List (Str × Str)) (j i : Nat) (h : j < l.length) (hi : i < 2) : (flat2 l)[j * 2 + i]? = (enc2 l[j])[i]? := by
  induction l generalizing j with
  | nil => simp at h
  | cons a r ih =>
    simp only [flat2, List.flatMap_cons]
    cases j with
    | zero => rw [List.getElem?_append_left (by simp [enc2]; omega)]; simp
    | succ j =>
      rw [List.getElem?_append_right (by simp [enc2]; omega)]
      have := ih j (by simpa using h)
      simp only [flat2] at this
      simp only [enc2, List.length_cons, List.length_nil] at this ⊢
      rw [show (j + 1) * 2 + i - (0 + 1 + 1) = j * 2 + i by omega, this]; rfl

/-- a slice of texts that the call owns; a slice of pairs -/
def OwnS (w : World) (B : Nat) (v : Value) (l : List Str) : Prop := w.ownsRow B 9 1 v l.length (l.map S)
def OwnP (w : World) (B : Nat) (v : Value) (l : List (Str × Str)) : Prop := w.ownsRow B 48 2 v l.length (flat2 l)

theorem OwnS.shape {w : World} {B : Nat} {v : Value} {l : List Str} (h : OwnS w B v l) : (v = .slice none 0 0 ∧ l = []) ∨
    ∃ g cap cur, v = .slice (some ⟨g, 0, none⟩) l.length cap ∧ B ≤ g ∧ w.heap[g]? = some (.cells cur 9 (0, 0)) ∧ l.length ≤ cap ∧ cap ≤ maxLen ∧ cur.size = cap * 1 ∧ cur.toList.take l.length = l.map S := by
  rcases h.2 with ⟨h1, h2⟩ | ⟨g, cap, cur, h1, h2, h3, h4, h5, h6, h7⟩
  · exact Or.inl ⟨h1, List.eq_nil_of_length_eq_zero h2⟩
  · exact Or.inr ⟨g, cap, cur, h1, h2, h3, h4, h5, h6, by simpa using h7⟩
theorem OwnP.shape {w : World} {B : Nat} {v : Value} {l : List (Str × Str)} (h : OwnP w B v l) : (v = .slice none 0 0 ∧ l = []) ∨
    ∃ g cap cur, v = .slice (some ⟨g, 0, none⟩) l.length cap ∧ B ≤ g ∧ w.heap[g]? = some (.cells cur 48 (0, 0)) ∧ l.length ≤ cap ∧ cap ≤ maxLen ∧ cur.size = cap * 2 ∧ cur.toList.take (l.length * 2) = flat2 l := by
  rcases h.2 with ⟨h1, h2⟩ | ⟨g, cap, cur, h1, h2, h3, h4, h5, h6, h7⟩
  · exact Or.inl ⟨h1, List.eq_nil_of_length_eq_zero h2⟩
  · exact Or.inr ⟨g, cap, cur, h1, h2, h3, h4, h5, h6, h7⟩

theorem cells_at {w : World} {g : Nat} {cur : Array Value} {t : TypeId} {xs : List Value} {n : Nat} (hg : w.heap[g]? = some (.cells cur t (0, 0))) (ht : cur.toList.take n = xs) (j : Nat) (v : Value) (hv : xs[j]? = some v) : w.cell? ⟨g, j, none⟩ = some v := by
  rw [cell_of_row _ _ _ _ _ _ hg]
  rw [← ht, List.getElem?_take] at hv
  split at hv
  · simpa using hv
  · cases hv

def bas (l : List Str) : List ByteArray := l.map fun x => ⟨x.toArray⟩
theorem bas_get (l : List Str) (j : Nat) (h : j < l.length) : (bas l).getD j ByteArray.empty = ⟨(l[j]).toArray⟩ := by
  simp [bas, List.getD, h]

theorem contains_own (w : World) (B : Nat) (v : Value) (l : List Str) (x : Str) (h : OwnS w B v l) :
    Calls Tryz.prog 110 #[v, S x] w fun e w' => e = .returned (.bool (l.contains x)) ∧ w' = w := by
  rcases h.shape with ⟨rfl, rfl⟩ | ⟨g, cap, cur, rfl, hB, hg, hn, hm, hs, ht⟩
  · exact Tryz.slices_Contains_string_empty none 0 ⟨x.toArray⟩ w
  · have hlen : (bas l).length = l.length := by simp [bas]
    have hc := Tryz.slices_Contains_string g 0 l.length cap (bas l) ⟨x.toArray⟩ w (by omega) (by unfold maxLen at hm; omega) (fun j hj => by
      have hj' : j < l.length := by omega
      rw [Nat.zero_add, bas_get l j hj']
      exact cells_at hg ht j _ (by simp [hj', S]))
    refine hc.mono fun e w' hh => ⟨?_, hh.2⟩
    rw [hh.1]
    congr 2
    rw [List.take_of_length_le (by omega), Bool.eq_iff_iff, Lib.containsS_iff]
    simp only [bas, List.mem_map, List.contains_iff_mem]
    constructor
    · rintro ⟨a, ha, hax⟩
      have : a = x := by have := congrArg (fun b : ByteArray => b.data.toList) hax; simpa using this
      rwa [← this]
    · exact fun hx => ⟨x, hx, rfl⟩

theorem sort_own (w : World) (B : Nat) (v : Value) (l : List Str) (h : OwnS w B v l) (hl : l.length ≤ 1000) :
    Calls Tryz.prog 58 #[v] w fun e w' => e = .returned (.tuple #[]) ∧ OwnS w' B v (l.mergeSort fun x y => decide (x ≤ y)) ∧ w.grownBy w' v.ownBlock := by
  rcases h.shape with ⟨rfl, rfl⟩ | ⟨g, cap, cur, rfl, hB, hg, hn, hm, hs, ht⟩
  · exact (Tryz.slices_Sort_string_none none 0 w).mono fun e w' hh => ⟨hh.1, by rw [hh.2]; simpa using h, by rw [hh.2]; exact ⟨rfl, rfl, rfl, Nat.le_refl _, fun _ _ _ => rfl⟩⟩
  · have hH : Holds encStr w g 0 l.toArray := holds_of_block hg (by rw [ht]; rfl)
    refine (Tryz.slices_Sort_string g 0 cap l w hH (lt_of_block hg) (by omega)).mono fun e w' hh => ⟨hh.1, ?_⟩
    obtain ⟨n, os, rfl⟩ := hh.2
    refine ⟨?_, grownBy_sorted _⟩
    have := ownsRow_sorted (n := n) (os := os) (ss := l) (ts := l.mergeSort fun x y => decide (x ≤ y)) (by simp) hB hg hn hm hs
    unfold OwnS
    rw [List.length_mergeSort]
    exact this

theorem join_own (w : World) (B : Nat) (v : Value) (l : List Str) (h : OwnS w B v l) (hl : l.length ≤ 1000000) (hb : (Lib.join l [45]).length ≤ 140737488355328) :
    Calls Tryz.prog 115 #[v, S [45]] w fun e w' => e = .returned (S (Lib.join l [45])) ∧ Below w.heap.size w w' := by
  rcases h.shape with ⟨rfl, rfl⟩ | ⟨g, cap, cur, rfl, hB, hg, hn, hm, hs, ht⟩
  · exact (Tryz.strings_Join_none none 0 ⟨#[45]⟩ w).mono fun e w' hh => ⟨hh.1, hh.2 ▸ Below.refl _ _⟩
  · have e1 : (bas l).map (·.data.toList) = l := by simp [bas, Function.comp_def]
    have hlen : (bas l).length = l.length := by simp [bas]
    have hj := Tryz.strings_Join g 0 cap (bas l) ⟨#[45]⟩ w (fun j x hx => by
      rw [Nat.zero_add]
      refine cells_at hg ht j _ ?_
      simp only [bas, List.getElem?_map] at hx ⊢
      cases hq : l[j]? with
      | none => rw [hq] at hx; cases hx
      | some y => rw [hq] at hx; simp at hx; subst hx; rfl) (lt_of_block hg) (by omega) (by omega) (by rw [e1]; exact hb)
    rw [e1, hlen] at hj
    exact hj


set_option maxHeartbeats 1000000 in
/-- the closure of slices.ContainsFunc: has a pair the key? -/
theorem key_closure (bk : Nat) (key : Str) (x : Str × Str) (W : World) (hk : W.cell? ⟨bk, 0, none⟩ = some (S key)) (hb : bk < W.heap.size) :
    Calls Tryz.prog 113 #[.agg #[S x.1, S x.2], .pointer (some ⟨bk, 0, none⟩)] W fun e w' => e = .returned (.bool (x.1 == key)) ∧ Below W.heap.size W w' := by
  unfold S at hk ⊢
  go_enter Tryz.func113, Tryz.ntmps113
  go_wp2
  all_goals go_ret
  all_goals refine ⟨ret_bool ?_, ?_⟩
  all_goals first | exact (Below.refl _ _).alloc (Nat.le_refl _) _ | simp [Lib.toList_data]

theorem key_pred (w : World) (bk : Nat) (key : Str) (hk : w.heap[bk]? = some (.cells #[S key] 9 (0, 0))) :
    PredBelow Tryz.prog 113 #[.pointer (some ⟨bk, 0, none⟩)] (fun x => .agg (enc2 x).toArray) (fun x => x.1 == key) w := by
  intro W x hb
  have hlt := lt_of_block hk
  have h := key_closure bk key x W ((hb.cell (p := ⟨bk, 0, none⟩) hlt).trans (cell_of_one hk)) (Nat.lt_of_lt_of_le hlt hb.size)
  exact h.mono fun e w' hh => ⟨hh.1, hb.then hh.2⟩

set_option maxHeartbeats 1000000 in
theorem indexFunc_nil (lb : Array Value) (w : World) :
    Calls Tryz.prog 159 #[.slice none 0 0, .func (.func 113) #[] lb] w fun e w' => e = .returned (.int .i64 (-1)) ∧ w' = w := by
  go_enter Tryz.func159, Tryz.ntmps159
  go_wp2
  refine wp_loop_rounds 1 ?_
  rw [rounds_succ]
  go_wp2
  go_ret
  exact ⟨rfl, rfl⟩
theorem containsFunc_nil (lb : Array Value) (w : World) :
    Calls Tryz.prog 112 #[.slice none 0 0, .func (.func 113) #[] lb] w fun e w' => e = .returned (.bool false) ∧ w' = w := by
  go_enter Tryz.func112, Tryz.ntmps112
  go_wp2_with (go_at_call 159; refine (indexFunc_nil _ _).mono ?_; rintro e w' ⟨rfl, rfl⟩)
  go_ret
  exact ⟨rfl, rfl⟩

theorem pair_cells {w : World} {g : Nat} {cur : Array Value} {l : List (Str × Str)} (hg : w.heap[g]? = some (.cells cur 48 (0, 0))) (ht : cur.toList.take (l.length * 2) = flat2 l) :
    ∀ j, j < l.length → ∀ i v, (enc2 l[j]!)[i]? = some v → w.cell? ⟨g, 0 + j * 2 + i, none⟩ = some v := by
  intro j hj i v hv
  have hi : i < 2 := by have := (List.getElem?_eq_some_iff.1 hv).1; simpa [enc2] using this
  rw [Nat.zero_add]
  refine cells_at hg ht _ _ ?_
  rw [flat2_get l j i hj hi]
  rwa [getElem!_pos l j hj] at hv

theorem hasKey_own (w : World) (B : Nat) (v : Value) (l : List (Str × Str)) (bk : Nat) (key : Str) (h : OwnP w B v l) (hk : w.heap[bk]? = some (.cells #[S key] 9 (0, 0))) :
    Calls Tryz.prog 112 #[v, .func (.func 113) #[] #[.pointer (some ⟨bk, 0, none⟩)]] w fun e w' => e = .returned (.bool (l.any fun p => p.1 == key)) ∧ Below w.heap.size w w' := by
  have eg : ∀ args w, (callFunc 113 args).run Tryz.prog w = .ok (.enter 113 args) w := enters_of Tryz.func113 (by kernel_rfl) rfl
  rcases h.shape with ⟨rfl, rfl⟩ | ⟨g, cap, cur, rfl, hB, hg, hn, hm, hs, ht⟩
  · exact (containsFunc_nil _ w).mono fun e w' hh => ⟨hh.1, hh.2 ▸ Below.refl _ _⟩
  · have hc := AnyQ.slices_ContainsFunc Tryz.cfPair 2 Tryz.isAgg48 Tryz.sizeOf48 enc2 (fun _ => rfl) (fun x => x.1 == key) 113 #[.pointer (some ⟨bk, 0, none⟩)] eg g 0 l.length cap l w (key_pred w bk key hk) (Nat.le_refl _) (by unfold maxLen at hm; omega) (lt_of_block hg) (pair_cells hg ht)
    change Calls Tryz.prog 112 _ _ _ at hc
    rw [List.take_length] at hc
    exact hc

set_option maxHeartbeats 1000000 in
/-- the closure of slices.SortFunc: which key comes first? -/
theorem cmp_closure (x y : Str × Str) (W : World) : Calls Tryz.prog 116 #[.agg #[S x.1, S x.2], .agg #[S y.1, S y.2]] W fun e w' => e = .returned (.int .i64 (Lib.compareBytes x.1 y.1)) ∧ ∃ q os', w' = grow (W.drewN q) os' := by
  have hcon := fun W' => Tryz.strings_Compare ⟨x.1.toArray⟩ ⟨y.1.toArray⟩ W'
  change ∀ W', Calls _ _ _ _ fun e w' => e = .returned (.int .i64 (Lib.compareBytes x.1 y.1)) ∧ _ at hcon
  generalize Lib.compareBytes x.1 y.1 = r at hcon ⊢
  unfold S
  go_enter Tryz.func116, Tryz.ntmps116
  go_wp2_with (go_at_call 40; refine (hcon _).mono ?_; rintro e w' ⟨rfl, rfl⟩)
  go_ret
  exact ⟨rfl, 0, _, by rw [alloc_eq_grow, alloc_eq_grow, grow_grow]; rfl⟩

def cmpK (x y : Str × Str) : Int := Lib.compareBytes x.1 y.1

theorem cb_lt : ∀ a b : Str, (Lib.compareBytes a b < 0) ↔ a < b
  | [], [] => by simp [Lib.compareBytes]
  | [], b :: ys => by simp [Lib.compareBytes]
  | a :: xs, [] => by simp [Lib.compareBytes]
  | a :: xs, b :: ys => by
    unfold Lib.compareBytes
    rw [List.cons_lt_cons_iff]
    by_cases h1 : a < b
    · simp [h1]
    · by_cases h2 : b < a
      · have h3 : ¬ a = b := fun e => by subst e; exact h1 h2
        simp [h1, h2, h3]
      · have h3 : a = b := UInt8.le_antisymm (UInt8.not_lt.1 h2) (UInt8.not_lt.1 h1)
        simp only [h1, h2, if_false, h3, true_and, false_or]
        simpa using cb_lt xs ys

theorem swo : SWO (ltOf cmpK) := by
  have e : ∀ x y, ltOf cmpK x y = decide (x.1 < y.1) := fun x y => by
    show decide (Lib.compareBytes x.1 y.1 < 0) = _
    exact decide_eq_decide.2 (cb_lt _ _)
  refine ⟨fun x => ?_, fun x y z h1 h2 => ?_, fun x y z h1 h2 => ?_⟩
  · rw [e]; simp
  · rw [e] at *; simp only [decide_eq_true_eq] at *; exact List.lt_trans h1 h2
  · rw [e] at *; simp only [decide_eq_false_iff_not] at *; exact fun h => by
      have a1 := List.not_lt.1 h1
      have a2 := List.not_lt.1 h2
      exact absurd (List.le_trans a2 a1) (List.not_le.2 h)

theorem cmpLays (blk off size : Nat) (w : World) : CmpLays Tryz.prog 116 #[] enc2 2 cmpK blk off size w :=
  fun _ _ _ _ x y => cmp_closure x y _

theorem flat2_arr (l : List (Str × Str)) : (flatK enc2 2 l.toArray).toList = flat2 l := by
  apply List.ext_getElem?
  intro t
  by_cases h : t < l.length * 2
  · have h2 := get_flatK enc2 2 l.toArray t (by simpa using h)
    rw [getElem!_pos (flatK enc2 2 l.toArray) t (by simpa using h)] at h2
    rw [Array.getElem?_toList, Array.getElem?_eq_getElem (by simpa using h), h2]
    have hq : t / 2 < l.length := by omega
    have e : t = t / 2 * 2 + t % 2 := by omega
    have := flat2_get l (t / 2) (t % 2) hq (by omega)
    rw [← e] at this
    rw [this, getElem!_pos l.toArray (t / 2) (by simpa using hq)]
    have hm : t % 2 < (enc2 l[t / 2]).length := by simp [enc2]; omega
    rw [List.getElem?_eq_getElem hm]
    simp only [List.getElem_toArray]
    rw [getElem!_pos (enc2 l[t / 2]) (t % 2) hm]
  · rw [List.getElem?_eq_none (by simp; omega), List.getElem?_eq_none (by rw [flat2_len]; omega)]

theorem holdsK_of {w : World} {g : Nat} {cur : Array Value} {l : List (Str × Str)} (hg : w.heap[g]? = some (.cells cur 48 (0, 0))) (ht : cur.toList.take (l.length * 2) = flat2 l) : HoldsK enc2 2 w g 0 l.toArray := by
  intro j hj
  have hj2 : j < l.length * 2 := by simpa using hj
  rw [Nat.zero_add, frozen_of_row _ _ _ _ _ hg]
  refine ⟨cells_at hg ht j _ ?_, rfl⟩
  rw [getElem!_pos _ j hj, ← flat2_arr]
  simp [hj2]

theorem take_putCells2 (cur : Array Value) (l : List (Str × Str)) (h : l.length * 2 ≤ cur.size) : (putCells id 0 (flatK enc2 2 l.toArray) cur).toList.take (l.length * 2) = flat2 l := by
  rw [← flat2_arr]
  apply List.ext_getElem?
  intro j
  by_cases hj : j < l.length * 2
  · rw [List.getElem?_take_of_lt hj, Array.getElem?_toList]
    simp [putCells, hj, show j < cur.size by omega]
  · rw [List.getElem?_take_eq_none (by omega), List.getElem?_eq_none (by simp; omega)]

theorem sortPairs_own (w : World) (B : Nat) (v : Value) (l : List (Str × Str)) (h : OwnP w B v l) (hl : l.length ≤ 1000) (h0 : l ≠ []) :
    Calls Tryz.prog 38 #[v, .func (.func 116) #[] #[]] w fun e w' => e = .returned (.tuple #[]) ∧
      (∃ l' : List (Str × Str), l'.Perm l ∧ l'.Pairwise (fun a b => ¬ b.1 < a.1) ∧ OwnP w' B v l') ∧ w.grownBy w' v.ownBlock := by
  have eg : ∀ args w, (callFunc 116 args).run Tryz.prog w = .ok (.enter 116 args) w := enters_of Tryz.func116 (by kernel_rfl) rfl
  rcases h.shape with ⟨rfl, rfl⟩ | ⟨g, cap, cur, rfl, hB, hg, hn, hm, hs, ht⟩
  · exact absurd rfl h0
  · have hc := AnyQ.slices_SortFunc Tryz.sfPair 2 Tryz.isAgg48 Tryz.sizeOf48 enc2 (fun _ => rfl) (fun x v hv => by simp [enc2] at hv; rcases hv with rfl | rfl <;> rfl) cmpK swo 116 #[] g 0 cap l.toArray w eg (cmpLays g 0 _ w) (holdsK_of hg ht) (lt_of_block hg) (by simp; omega)
    change Calls Tryz.prog 38 _ _ _ at hc
    refine hc.mono fun e w' hh => ⟨hh.1, ?_⟩
    obtain ⟨d', n, os, hp, hsd, rfl⟩ := hh.2
    have hsz : d'.size = l.length := by simpa using hp.1
    have hperm : d'.toList.Perm l := by
      have := hp.2.2
      simp only [List.size_toArray] at this
      rw [← hsz] at this
      have ht' : List.take l.length d'.toList = d'.toList := List.take_of_length_le (by simp [hsz])
      simpa [hsz, ht'] using this
    refine ⟨⟨d'.toList, hperm, ?_, ?_⟩, ?_⟩
    · rw [List.pairwise_iff_getElem]
      intro i j hi hj hij
      have := hsd i j (Nat.zero_le _) hij (by simp at hj ⊢; omega)
      rw [getElem!_pos _ i (by simpa using hi), getElem!_pos _ j (by simpa using hj)] at this
      intro hlt
      have h2 : ltOf cmpK d'[j] d'[i] = true := by
        show decide (Lib.compareBytes _ _ < 0) = true
        exact decide_eq_true ((cb_lt _ _).2 (by simpa using hlt))
      rw [this] at h2; cases h2
    · have hlen : d'.toList.length = l.length := hperm.length_eq
      refine ⟨flat2_len _, Or.inr ⟨g, cap, putCells id 0 (flatK enc2 2 d') cur, by rw [hlen], hB, ?_, by omega, hm, by simpa [putCells] using hs, ?_⟩⟩
      · unfold sortWorldK putRowK
        rw [heap_grow_old _ _ (by simpa using lt_of_block hg)]
        simp [putRow, mapBlock, Sort.ahead, Array.getElem?_modify, hg, onCells]
      · have := take_putCells2 cur d'.toList (by rw [hlen, hs]; omega)
        simpa using this
    · refine ⟨rfl, rfl, rfl, by simp [sortWorldK, putRowK], fun k hk hne => ?_⟩
      unfold sortWorldK putRowK
      rw [heap_grow_old _ _ (by simpa using hk)]
      have : g ≠ k := fun e => hne (by rw [e]; rfl)
      simp [putRow, mapBlock, Sort.ahead, Array.getElem?_modify, this]
end Go.Proofs.YtjlfchnnhglbjaaGreat
