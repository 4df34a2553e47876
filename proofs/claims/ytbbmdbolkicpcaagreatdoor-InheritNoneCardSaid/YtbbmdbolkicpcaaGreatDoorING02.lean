/- Lists, State, Frame, Wrong, Kinds -/
import Derived.Test.YtbbmdbolkicpcaaGreatDoorING01
import Derived.Sort.OwnSorted
import Derived.Lib.OwnBridge
set_option linter.unusedVariables false
set_option linter.unusedSimpArgs false
namespace Go.Proofs.YtbbmdbolkicpcaaGreatDoor
open Go.RowKit Go.Lib Go.Sort
def enc2 (p : Str × Str) : List Value := [S p.1, S p.2]
def flat2 (l : List (Str × Str)) : List Value := l.flatMap enc2
theorem flat2_len (l : List (Str × Str)) : (flat2 l).length = l.length * 2 := by
 induction l with
 | nil => rfl
 | cons a r ih => simp only [flat2, List.flatMap_cons, List.length_append, List.length_cons] at ih ⊢; rw [ih]; simp [enc2]; omega
theorem flat2_get (l : List (Str × Str)) (j i : Nat) (h : j < l.length) (hi : i < 2) : (flat2 l)[j * 2 + i]? = (enc2 l[j])[i]? := by
 induction l generalizing j with
 | nil => simp at h
 | cons a r ih =>
  simp only [flat2, List.flatMap_cons]
  cases j with
  | zero => rw [List.getElem?_append_left (by simp [enc2]; omega)]; simp
  | succ j =>
   rw [List.getElem?_append_right (by simp [enc2]; omega)]
   have := ih j (by simpa using h)
   simp only [flat2] at this
   simp only [enc2, List.length_cons, List.length_nil] at this ⊢
   rw [show (j + 1) * 2 + i - (0 + 1 + 1) = j * 2 + i by omega, this]; rfl
def OwnS (w : World) (B : Nat) (v : Value) (l : List Str) : Prop := w.ownsRow B 9 1 v l.length (l.map S)
def OwnP (w : World) (B : Nat) (v : Value) (l : List (Str × Str)) : Prop := w.ownsRow B 76 2 v l.length (flat2 l)
theorem OwnS.shape {w : World} {B : Nat} {v : Value} {l : List Str} (h : OwnS w B v l) : (v = .slice none 0 0 ∧ l = []) ∨
  ∃ g cap cur, v = .slice (some ⟨g, 0, none⟩) l.length cap ∧ B ≤ g ∧ w.heap[g]? = some (.cells cur 9 (0, 0)) ∧ l.length ≤ cap ∧ cap ≤ maxLen ∧ cur.size = cap * 1 ∧ cur.toList.take l.length = l.map S := by
 rcases h.2 with ⟨h1, h2⟩ | ⟨g, cap, cur, h1, h2, h3, h4, h5, h6, h7⟩
 ·exact Or.inl ⟨h1, List.eq_nil_of_length_eq_zero h2⟩
 ·exact Or.inr ⟨g, cap, cur, h1, h2, h3, h4, h5, h6, by simpa using h7⟩
theorem OwnP.shape {w : World} {B : Nat} {v : Value} {l : List (Str × Str)} (h : OwnP w B v l) : (v = .slice none 0 0 ∧ l = []) ∨
  ∃ g cap cur, v = .slice (some ⟨g, 0, none⟩) l.length cap ∧ B ≤ g ∧ w.heap[g]? = some (.cells cur 76 (0, 0)) ∧ l.length ≤ cap ∧ cap ≤ maxLen ∧ cur.size = cap * 2 ∧ cur.toList.take (l.length * 2) = flat2 l := by
 rcases h.2 with ⟨h1, h2⟩ | ⟨g, cap, cur, h1, h2, h3, h4, h5, h6, h7⟩
 ·exact Or.inl ⟨h1, List.eq_nil_of_length_eq_zero h2⟩
 ·exact Or.inr ⟨g, cap, cur, h1, h2, h3, h4, h5, h6, h7⟩
theorem cells_at {w : World} {g : Nat} {cur : Array Value} {t : TypeId} {xs : List Value} {n : Nat} (hg : w.heap[g]? = some (.cells cur t (0, 0))) (ht : cur.toList.take n = xs) (j : Nat) (v : Value) (hv : xs[j]? = some v) : w.cell? ⟨g, j, none⟩ = some v := by
 rw [cell_of_row _ _ _ _ _ _ hg]
 rw [← ht, List.getElem?_take] at hv
 split at hv
 ·simpa using hv
 ·cases hv
def bas (l : List Str) : List ByteArray := l.map fun x => ⟨x.toArray⟩
theorem bas_get (l : List Str) (j : Nat) (h : j < l.length) : (bas l).getD j ByteArray.empty = ⟨(l[j]).toArray⟩ := by
 simp [bas, List.getD, h]
theorem contains_own (w : World) (B : Nat) (v : Value) (l : List Str) (x : Str) (h : OwnS w B v l) :
  Calls Tryz.prog 128 #[v, S x] w fun e w' => e = .returned (.bool (l.contains x)) ∧ w' = w := by
 rcases h.shape with ⟨rfl, rfl⟩ | ⟨g, cap, cur, rfl, hB, hg, hn, hm, hs, ht⟩
 ·exact Tryz.slices_Contains_string_empty none 0 ⟨x.toArray⟩ w
 ·have hlen : (bas l).length = l.length := by simp [bas]
  have hc := Tryz.slices_Contains_string g 0 l.length cap (bas l) ⟨x.toArray⟩ w (by omega) (by unfold maxLen at hm; omega) (fun j hj => by
   have hj' : j < l.length := by omega
   rw [Nat.zero_add, bas_get l j hj']
   exact cells_at hg ht j _ (by simp [hj', S]))
  refine hc.mono fun e w' hh => ⟨?_, hh.2⟩
  rw [hh.1]
  congr 2
  rw [List.take_of_length_le (by omega), Bool.eq_iff_iff, Lib.containsS_iff]
  simp only [bas, List.mem_map, List.contains_iff_mem]
  constructor
  ·rintro ⟨a, ha, hax⟩
   have : a = x := by have := congrArg (fun b : ByteArray => b.data.toList) hax; simpa using this
   rwa [← this]
  ·exact fun hx => ⟨x, hx, rfl⟩
theorem sort_own (w : World) (B : Nat) (v : Value) (l : List Str) (h : OwnS w B v l) (hl : l.length ≤ 1000) :
  Calls Tryz.prog 80 #[v] w fun e w' => e = .returned (.tuple #[]) ∧ OwnS w' B v (l.mergeSort fun x y => decide (x ≤ y)) ∧ w.grownBy w' v.ownBlock := by
 rcases h.shape with ⟨rfl, rfl⟩ | ⟨g, cap, cur, rfl, hB, hg, hn, hm, hs, ht⟩
 ·exact (Tryz.slices_Sort_string_none none 0 w).mono fun e w' hh => ⟨hh.1, by rw [hh.2]; simpa using h, by rw [hh.2]; exact ⟨rfl, rfl, rfl, Nat.le_refl _, fun _ _ _ => rfl⟩⟩
 ·have hH : Holds encStr w g 0 l.toArray := holds_of_block hg (by rw [ht]; rfl)
  refine (Tryz.slices_Sort_string g 0 cap l w hH (lt_of_block hg) (by omega)).mono fun e w' hh => ⟨hh.1, ?_⟩
  obtain ⟨n, os, rfl⟩ := hh.2
  refine ⟨?_, grownBy_sorted _⟩
  have := ownsRow_sorted (n := n) (os := os) (ss := l) (ts := l.mergeSort fun x y => decide (x ≤ y)) (by simp) hB hg hn hm hs
  unfold OwnS
  rw [List.length_mergeSort]
  exact this
theorem join_own (w : World) (B : Nat) (v : Value) (l : List Str) (h : OwnS w B v l) (hl : l.length ≤ 1000000) (hb : (Lib.join l [45]).length ≤ 140737488355328) :
  Calls Tryz.prog 116 #[v, S [45]] w fun e w' => e = .returned (S (Lib.join l [45])) ∧ Below w.heap.size w w' := by
 rcases h.shape with ⟨rfl, rfl⟩ | ⟨g, cap, cur, rfl, hB, hg, hn, hm, hs, ht⟩
 ·exact (Tryz.strings_Join_none none 0 ⟨#[45]⟩ w).mono fun e w' hh => ⟨hh.1, hh.2 ▸ Below.refl _ _⟩
 ·have e1 : (bas l).map (·.data.toList) = l := by simp [bas, Function.comp_def]
  have hlen : (bas l).length = l.length := by simp [bas]
  have hj := Tryz.strings_Join g 0 cap (bas l) ⟨#[45]⟩ w (fun j x hx => by
   rw [Nat.zero_add]
   refine cells_at hg ht j _ ?_
   simp only [bas, List.getElem?_map] at hx ⊢
   cases hq : l[j]? with
   | none => rw [hq] at hx; cases hx
   | some y => rw [hq] at hx; simp at hx; subst hx; rfl) (lt_of_block hg) (by omega) (by omega) (by rw [e1]; exact hb)
  rw [e1, hlen] at hj
  exact hj
set_option maxHeartbeats 1000000 in
theorem key_closure (bk : Nat) (key : Str) (x : Str × Str) (W : World) (hk : W.cell? ⟨bk, 0, none⟩ = some (S key)) (hb : bk < W.heap.size) :
  Calls Tryz.prog 130 #[.agg #[S x.1, S x.2], .pointer (some ⟨bk, 0, none⟩)] W fun e w' => e = .returned (.bool (x.1 == key)) ∧ Below W.heap.size W w' := by
 unfold S at hk ⊢
 go_enter Tryz.func130, Tryz.ntmps130
 go_wp2
 all_goals go_ret
 all_goals refine ⟨ret_bool ?_, ?_⟩
 all_goals first | exact (Below.refl _ _).alloc (Nat.le_refl _) _ | simp [Lib.toList_data]
theorem key_pred (w : World) (bk : Nat) (key : Str) (hk : w.heap[bk]? = some (.cells #[S key] 9 (0, 0))) :
  PredBelow Tryz.prog 130 #[.pointer (some ⟨bk, 0, none⟩)] (fun x => .agg (enc2 x).toArray) (fun x => x.1 == key) w := by
 intro W x hb
 have hlt := lt_of_block hk
 have h := key_closure bk key x W ((hb.cell (p := ⟨bk, 0, none⟩) hlt).trans (cell_of_one hk)) (Nat.lt_of_lt_of_le hlt hb.size)
 exact h.mono fun e w' hh => ⟨hh.1, hb.then hh.2⟩
set_option maxHeartbeats 1000000 in
theorem indexFunc_nil (lb : Array Value) (w : World) :
  Calls Tryz.prog 102 #[.slice none 0 0, .func (.func 130) #[] lb] w fun e w' => e = .returned (.int .i64 (-1)) ∧ w' = w := by
 go_enter Tryz.func102, Tryz.ntmps102
 go_wp2
 refine wp_loop_rounds 1 ?_
 rw [rounds_succ]
 go_wp2
 go_ret
 exact ⟨rfl, rfl⟩
theorem containsFunc_nil (lb : Array Value) (w : World) :
  Calls Tryz.prog 63 #[.slice none 0 0, .func (.func 130) #[] lb] w fun e w' => e = .returned (.bool false) ∧ w' = w := by
 go_enter Tryz.func63, Tryz.ntmps63
 go_wp2_with (go_at_call 102; refine (indexFunc_nil _ _).mono ?_; rintro e w' ⟨rfl, rfl⟩)
 go_ret
 exact ⟨rfl, rfl⟩
theorem pair_cells {w : World} {g : Nat} {cur : Array Value} {l : List (Str × Str)} (hg : w.heap[g]? = some (.cells cur 76 (0, 0))) (ht : cur.toList.take (l.length * 2) = flat2 l) :
  ∀ j, j < l.length → ∀ i v, (enc2 l[j]!)[i]? = some v → w.cell? ⟨g, 0 + j * 2 + i, none⟩ = some v := by
 intro j hj i v hv
 have hi : i < 2 := by have := (List.getElem?_eq_some_iff.1 hv).1; simpa [enc2] using this
 rw [Nat.zero_add]
 refine cells_at hg ht _ _ ?_
 rw [flat2_get l j i hj hi]
 rwa [getElem!_pos l j hj] at hv
theorem hasKey_own (w : World) (B : Nat) (v : Value) (l : List (Str × Str)) (bk : Nat) (key : Str) (h : OwnP w B v l) (hk : w.heap[bk]? = some (.cells #[S key] 9 (0, 0))) :
  Calls Tryz.prog 63 #[v, .func (.func 130) #[] #[.pointer (some ⟨bk, 0, none⟩)]] w fun e w' => e = .returned (.bool (l.any fun p => p.1 == key)) ∧ Below w.heap.size w w' := by
 have eg : ∀ args w, (callFunc 130 args).run Tryz.prog w = .ok (.enter 130 args) w := enters_of Tryz.func130 (by kernel_rfl) rfl
 rcases h.shape with ⟨rfl, rfl⟩ | ⟨g, cap, cur, rfl, hB, hg, hn, hm, hs, ht⟩
 ·exact (containsFunc_nil _ w).mono fun e w' hh => ⟨hh.1, hh.2 ▸ Below.refl _ _⟩
 ·have hc := AnyQ.slices_ContainsFunc Tryz.cfPair 2 Tryz.isAgg76 Tryz.sizeOf76 enc2 (fun _ => rfl) (fun x => x.1 == key) 130 #[.pointer (some ⟨bk, 0, none⟩)] eg g 0 l.length cap l w (key_pred w bk key hk) (Nat.le_refl _) (by unfold maxLen at hm; omega) (lt_of_block hg) (pair_cells hg ht)
  change Calls Tryz.prog 63 _ _ _ at hc
  rw [List.take_length] at hc
  exact hc
set_option maxHeartbeats 1000000 in
theorem cmp_closure (x y : Str × Str) (W : World) : Calls Tryz.prog 132 #[.agg #[S x.1, S x.2], .agg #[S y.1, S y.2]] W fun e w' => e = .returned (.int .i64 (Lib.compareBytes x.1 y.1)) ∧ ∃ q os', w' = grow (W.drewN q) os' := by
 have hcon := fun W' => Tryz.strings_Compare ⟨x.1.toArray⟩ ⟨y.1.toArray⟩ W'
 change ∀ W', Calls _ _ _ _ fun e w' => e = .returned (.int .i64 (Lib.compareBytes x.1 y.1)) ∧ _ at hcon
 generalize Lib.compareBytes x.1 y.1 = r at hcon ⊢
 unfold S
 go_enter Tryz.func132, Tryz.ntmps132
 go_wp2_with (go_at_call 59; refine (hcon _).mono ?_; rintro e w' ⟨rfl, rfl⟩)
 go_ret
 exact ⟨rfl, 0, _, by rw [alloc_eq_grow, alloc_eq_grow, grow_grow]; rfl⟩
def cmpK (x y : Str × Str) : Int := Lib.compareBytes x.1 y.1
theorem cb_lt : ∀ a b : Str, (Lib.compareBytes a b < 0) ↔ a < b
 | [], [] => by simp [Lib.compareBytes]
 | [], b :: ys => by simp [Lib.compareBytes]
 | a :: xs, [] => by simp [Lib.compareBytes]
 | a :: xs, b :: ys => by
  unfold Lib.compareBytes
  rw [List.cons_lt_cons_iff]
  by_cases h1 : a < b
  ·simp [h1]
  ·by_cases h2 : b < a
   ·have h3 : ¬ a = b := fun e => by subst e; exact h1 h2
    simp [h1, h2, h3]
   ·have h3 : a = b := UInt8.le_antisymm (UInt8.not_lt.1 h2) (UInt8.not_lt.1 h1)
    simp only [h1, h2, if_false, h3, true_and, false_or]
    simpa using cb_lt xs ys
theorem swo : SWO (ltOf cmpK) := by
 have e : ∀ x y, ltOf cmpK x y = decide (x.1 < y.1) := fun x y => by
  show decide (Lib.compareBytes x.1 y.1 < 0) = _
  exact decide_eq_decide.2 (cb_lt _ _)
 refine ⟨fun x => ?_, fun x y z h1 h2 => ?_, fun x y z h1 h2 => ?_⟩
 ·rw [e]; simp
 ·rw [e] at *; simp only [decide_eq_true_eq] at *; exact List.lt_trans h1 h2
 ·rw [e] at *; simp only [decide_eq_false_iff_not] at *; exact fun h => by
   have a1 := List.not_lt.1 h1
   have a2 := List.not_lt.1 h2
   exact absurd (List.le_trans a2 a1) (List.not_le.2 h)
theorem cmpLays (blk off size : Nat) (w : World) : CmpLays Tryz.prog 132 #[] enc2 2 cmpK blk off size w :=
 fun _ _ _ _ x y => cmp_closure x y _
theorem flat2_arr (l : List (Str × Str)) : (flatK enc2 2 l.toArray).toList = flat2 l := by
 apply List.ext_getElem?
 intro t
 by_cases h : t < l.length * 2
 ·have h2 := get_flatK enc2 2 l.toArray t (by simpa using h)
  rw [getElem!_pos (flatK enc2 2 l.toArray) t (by simpa using h)] at h2
  rw [Array.getElem?_toList, Array.getElem?_eq_getElem (by simpa using h), h2]
  have hq : t / 2 < l.length := by omega
  have e : t = t / 2 * 2 + t % 2 := by omega
  have := flat2_get l (t / 2) (t % 2) hq (by omega)
  rw [← e] at this
  rw [this, getElem!_pos l.toArray (t / 2) (by simpa using hq)]
  have hm : t % 2 < (enc2 l[t / 2]).length := by simp [enc2]; omega
  rw [List.getElem?_eq_getElem hm]
  simp only [List.getElem_toArray]
  rw [getElem!_pos (enc2 l[t / 2]) (t % 2) hm]
 ·rw [List.getElem?_eq_none (by simp; omega), List.getElem?_eq_none (by rw [flat2_len]; omega)]
theorem holdsK_of {w : World} {g : Nat} {cur : Array Value} {l : List (Str × Str)} (hg : w.heap[g]? = some (.cells cur 76 (0, 0))) (ht : cur.toList.take (l.length * 2) = flat2 l) : HoldsK enc2 2 w g 0 l.toArray := by
 intro j hj
 have hj2 : j < l.length * 2 := by simpa using hj
 rw [Nat.zero_add, frozen_of_row _ _ _ _ _ hg]
 refine ⟨cells_at hg ht j _ ?_, rfl⟩
 rw [getElem!_pos _ j hj, ← flat2_arr]
 simp [hj2]
theorem take_putCells2 (cur : Array Value) (l : List (Str × Str)) (h : l.length * 2 ≤ cur.size) : (putCells id 0 (flatK enc2 2 l.toArray) cur).toList.take (l.length * 2) = flat2 l := by
 rw [← flat2_arr]
 apply List.ext_getElem?
 intro j
 by_cases hj : j < l.length * 2
 ·rw [List.getElem?_take_of_lt hj, Array.getElem?_toList]
  simp [putCells, hj, show j < cur.size by omega]
 ·rw [List.getElem?_take_eq_none (by omega), List.getElem?_eq_none (by simp; omega)]
theorem sortPairs_own (w : World) (B : Nat) (v : Value) (l : List (Str × Str)) (h : OwnP w B v l) (hl : l.length ≤ 1000) (h0 : l ≠ []) :
  Calls Tryz.prog 57 #[v, .func (.func 132) #[] #[]] w fun e w' => e = .returned (.tuple #[]) ∧
   (∃ l' : List (Str × Str), l'.Perm l ∧ l'.Pairwise (fun a b => ¬ b.1 < a.1) ∧ OwnP w' B v l') ∧ w.grownBy w' v.ownBlock := by
 have eg : ∀ args w, (callFunc 132 args).run Tryz.prog w = .ok (.enter 132 args) w := enters_of Tryz.func132 (by kernel_rfl) rfl
 rcases h.shape with ⟨rfl, rfl⟩ | ⟨g, cap, cur, rfl, hB, hg, hn, hm, hs, ht⟩
 ·exact absurd rfl h0
 ·have hc := AnyQ.slices_SortFunc Tryz.sfPair 2 Tryz.isAgg76 Tryz.sizeOf76 enc2 (fun _ => rfl) (fun x v hv => by simp [enc2] at hv; rcases hv with rfl | rfl <;> rfl) cmpK swo 132 #[] g 0 cap l.toArray w eg (cmpLays g 0 _ w) (holdsK_of hg ht) (lt_of_block hg) (by simp; omega)
  change Calls Tryz.prog 57 _ _ _ at hc
  refine hc.mono fun e w' hh => ⟨hh.1, ?_⟩
  obtain ⟨d', n, os, hp, hsd, rfl⟩ := hh.2
  have hsz : d'.size = l.length := by simpa using hp.1
  have hperm : d'.toList.Perm l := by
   have := hp.2.2
   simp only [List.size_toArray] at this
   rw [← hsz] at this
   have ht' : List.take l.length d'.toList = d'.toList := List.take_of_length_le (by simp [hsz])
   simpa [hsz, ht'] using this
  refine ⟨⟨d'.toList, hperm, ?_, ?_⟩, ?_⟩
  ·rw [List.pairwise_iff_getElem]
   intro i j hi hj hij
   have := hsd i j (Nat.zero_le _) hij (by simp at hj ⊢; omega)
   rw [getElem!_pos _ i (by simpa using hi), getElem!_pos _ j (by simpa using hj)] at this
   intro hlt
   have h2 : ltOf cmpK d'[j] d'[i] = true := by
    show decide (Lib.compareBytes _ _ < 0) = true
    exact decide_eq_true ((cb_lt _ _).2 (by simpa using hlt))
   rw [this] at h2; cases h2
  ·have hlen : d'.toList.length = l.length := hperm.length_eq
   refine ⟨flat2_len _, Or.inr ⟨g, cap, putCells id 0 (flatK enc2 2 d') cur, by rw [hlen], hB, ?_, by omega, hm, by simpa [putCells] using hs, ?_⟩⟩
   ·unfold sortWorldK putRowK
    rw [heap_grow_old _ _ (by simpa using lt_of_block hg)]
    simp [putRow, mapBlock, Sort.ahead, Array.getElem?_modify, hg, onCells]
   ·have := take_putCells2 cur d'.toList (by rw [hlen, hs]; omega)
    simpa using this
  ·refine ⟨rfl, rfl, rfl, by simp [sortWorldK, putRowK], fun k hk hne => ?_⟩
   unfold sortWorldK putRowK
   rw [heap_grow_old _ _ (by simpa using hk)]
   have : g ≠ k := fun e => hne (by rw [e]; rfl)
   simp [putRow, mapBlock, Sort.ahead, Array.getElem?_modify, this]
end Go.Proofs.YtbbmdbolkicpcaaGreatDoor
namespace Go
def Exit.jumps (J : Nat → Act → World → Prop) (Q : Exit → Act → World → Prop) : Exit → Act → World → Prop
 | .goto l, a, w => J l a w
 | e, a, w => Q e a w
theorem wp_scope_labels {P : Program} {a : Act} {w : World} {Q : Exit → Act → World → Prop} {c : Code} (J : Nat → Nat → Act → World → Prop)
  (first : c.wp P (Exit.jumps (fun l a w => ∃ n, J l n a w) Q) a w)
  (pass : ∀ l n a w, J l n a w → ∃ rest, findLabel c l = some rest ∧ rest.wp P (Exit.jumps (fun l' a' w' => ∃ n', n' < n ∧ J l' n' a' w') Q) a w) : (Code.scope c).wp P Q a w := by
 intro b k cs
 have key : ∀ n l a w rest, J l n a w → findLabel c l = some rest → ∃ e a' w', Q e a' w' ∧ Arrives P (lone (b.at a (.code rest :: .inScope c :: k)) cs w) b k cs e a' w' := by
  intro n
  induction n using Nat.strongRecOn with
  | _ n ih =>
   intro l a w rest hJ hf
   obtain ⟨rest', hf', hp⟩ := pass l n a w hJ
   rw [hf] at hf'
   injection hf' with hf'
   subst hf'
   obtain ⟨e, a₁, w₁, hq, harr⟩ := hp b (.inScope c :: k) cs
   cases e with
   | normal => exact ⟨.normal, a₁, w₁, hq, Steps.trans harr (.one step_inScope)⟩
   | exit id => exact ⟨.exit id, a₁, w₁, hq, fun k' hk => harr k' (by simp [exitTo, hk])⟩
   | goto l' =>
    obtain ⟨n', hlt, hJ'⟩ := hq
    obtain ⟨rest2, hf2, _⟩ := pass l' n' a₁ w₁ hJ'
    have hg : gotoIn l' (.inScope c :: k) = some (.code rest2 :: .inScope c :: k) := by simp [gotoIn, hf2]
    obtain ⟨e₂, a₂, w₂, hq₂, harr₂⟩ := ih n' hlt l' a₁ w₁ rest2 hJ' hf2
    exact ⟨e₂, a₂, w₂, hq₂, .of_steps (harr _ hg) harr₂⟩
   | ret => exact ⟨_, a₁, w₁, hq, harr⟩
   | panic ch => exact ⟨_, a₁, w₁, hq, harr⟩
   | outgrown => exact ⟨_, a₁, w₁, hq, harr⟩
 obtain ⟨e, a₁, w₁, hq, harr⟩ := first b (.inScope c :: k) cs
 cases e with
 | normal => exact ⟨.normal, a₁, w₁, hq, .head step_scope (Steps.trans harr (.one step_inScope))⟩
 | exit id => exact ⟨.exit id, a₁, w₁, hq, fun k' hk => .head step_scope (harr k' (by simp [exitTo, hk]))⟩
 | goto l' =>
  obtain ⟨n', hJ'⟩ := hq
  obtain ⟨rest2, hf2, _⟩ := pass l' n' a₁ w₁ hJ'
  have hg : gotoIn l' (.inScope c :: k) = some (.code rest2 :: .inScope c :: k) := by simp [gotoIn, hf2]
  obtain ⟨e₂, a₂, w₂, hq₂, harr₂⟩ := key n' l' a₁ w₁ rest2 hJ' hf2
  exact ⟨e₂, a₂, w₂, hq₂, .of_steps (.head step_scope (harr _ hg)) harr₂⟩
 | ret => exact ⟨_, a₁, w₁, hq, .of_steps (.one step_scope) harr⟩
 | panic ch => exact ⟨_, a₁, w₁, hq, .of_steps (.one step_scope) harr⟩
 | outgrown => exact ⟨_, a₁, w₁, hq, .of_steps (.one step_scope) harr⟩
end Go
namespace Go.Proofs.YtbbmdbolkicpcaaGreatDoor
open Go.RowKit Go.Lib Go.Sort
def vnil : Value := .slice none 0 0
def tagCells (t : Tg) (vv kv : Value) : Array Value := #[S t.lang, S t.script, S t.region, vv, kv]
structure St (B Br Bp : Nat) (w0 w : World) (vv kv : Value) (t : Tg) (r : Rd) : Prop where
 bel : Below B w0 w
 h0 : w.heap[B]? = some (.cells (tagCells Tg.zero vnil vnil) 113 (0, 0))
 h1 : w.heap[B + 1]? = some (.cells #[.int .i64 0, .int .i64 0] 77 (0, 0))
 ht : w.heap[B + 2]? = some (.cells (tagCells t vv kv) 113 (0, 0))
 hr : w.heap[Br]? = some (.cells (rdr r.rest r.pos r.sub true r.fin) 185 (0, 0))
 hp : w.heap[Bp]? = some (.cells #[.pointer (some ⟨Br, 0, none⟩)] 183 (0, 0))
 os : OwnS w B vv t.vars
 op : OwnP w B kv t.keys
 lo : B + 3 ≤ Br
theorem own_type {w : World} {base : Nat} {e : TypeId} {size : Nat} {v : Value} {n : Nat} {xs : List Value} (h : w.ownsRow base e size v n xs) {b : Nat} {cs : Array Value} {t : TypeId} (hb : w.heap[b]? = some (.cells cs t (0, 0))) (hne : e ≠ t) : v.ownBlock ≠ some b := by
 rcases h.2 with ⟨rfl, _⟩ | ⟨g, cap, cur, rfl, _, hg, _⟩
 ·simp [Value.ownBlock]
 ·simp only [Value.ownBlock]
  intro e
  injection e with e
  rw [e, hb] at hg
  injection hg with hg
  injection hg with _ h2 _
  exact hne h2.symm
theorem grown_of_below {w w1 : World} (h : Below w.heap.size w w1) : w.grownBy w1 none := ⟨h.os, h.tape, h.output, h.size, fun k hk _ => h.block k hk⟩
theorem own_below {w w1 : World} {base : Nat} {e : TypeId} {size : Nat} {v : Value} {n : Nat} {xs : List Value} (h : w.ownsRow base e size v n xs) (hb : Below w.heap.size w w1) : w1.ownsRow base e size v n xs :=
 h.kept (grown_of_below hb) (by cases v.ownBlock <;> simp)
section
variable {B Br Bp : Nat} {w0 w w1 : World} {vv kv : Value} {t : Tg} {r : Rd}
theorem St.below (st : St B Br Bp w0 w vv kv t r) (h : Below w.heap.size w w1) : St B Br Bp w0 w1 vv kv t r := by
 have k : ∀ b o, w.heap[b]? = some o → w1.heap[b]? = some o := fun b o hb => by rw [h.block b (lt_of_block hb)]; exact hb
 have hB : B ≤ w.heap.size := Nat.le_of_lt (lt_of_block st.h0)
 exact ⟨st.bel.trans (h.mono hB), k _ _ st.h0, k _ _ st.h1, k _ _ st.ht, k _ _ st.hr, k _ _ st.hp, own_below st.os h, own_below st.op h, st.lo⟩
theorem St.drew (st : St B Br Bp w0 w vv kv t r) : St B Br Bp w0 w.drew vv kv t r :=
 ⟨st.bel.drew, st.h0, st.h1, st.ht, st.hr, st.hp, st.os, st.op, st.lo⟩
theorem ne_of_types {w : World} {a b : Nat} {c d : Array Value} {e f : TypeId} (h : w.heap[a]? = some (.cells c e (0, 0))) (k : w.heap[b]? = some (.cells d f (0, 0))) (hne : e ≠ f) : a ≠ b := by
 intro e1; subst e1; rw [h] at k; injection k with k; injection k with _ k2 _; exact hne k2
theorem St.read (st : St B Br Bp w0 w vv kv t r) {r' : Rd} (h : w1.heap[Br]? = some (.cells (rdr r'.rest r'.pos r'.sub true r'.fin) 185 (0, 0)) ∧ Only Br w w1) : St B Br Bp w0 w1 vv kv t r' := by
 obtain ⟨h, ho⟩ := h
 have k : ∀ b o, w.heap[b]? = some o → b ≠ Br → w1.heap[b]? = some o := fun b o hb hne => by rw [ho.block b (lt_of_block hb) (fun e => hne (Option.some.inj e))]; exact hb
 have hB : B ≤ w.heap.size := Nat.le_of_lt (lt_of_block st.h0)
 have lo := st.lo
 refine ⟨st.bel.grown ho hB (fun k hk => by injection hk with hk; omega), k _ _ st.h0 (by omega), k _ _ st.h1 (by omega), k _ _ st.ht (by omega), h, k _ _ st.hp (ne_of_types st.hp st.hr (by decide)), ?_, ?_, lo⟩
 ·exact World.ownsRow.kept st.os ho (Or.inr (own_type st.os st.hr (by decide)))
 ·exact World.ownsRow.kept st.op ho (Or.inr (own_type st.op st.hr (by decide)))
theorem St.set (st : St B Br Bp w0 w vv kv t r) (i : Nat) (x : Value) {t' : Tg} {vv' kv' : Value} (hc : (tagCells t vv kv).setIfInBounds i x = tagCells t' vv' kv')
  (os : OwnS w B vv' t'.vars) (op : OwnP w B kv' t'.keys) : St B Br Bp w0 (w.setCell ⟨B + 2, i, none⟩ x) vv' kv' t' r := by
 have hB : B ≤ w.heap.size := Nat.le_of_lt (lt_of_block st.h0)
 have lo := st.lo
 have k : ∀ b o, w.heap[b]? = some o → b ≠ B + 2 → (w.setCell ⟨B + 2, i, none⟩ x).heap[b]? = some o := fun b o hb hne => by rw [heap_setCell_other _ _ _ _ hne]; exact hb
 refine ⟨st.bel.setCell (by simp) _, k _ _ st.h0 (by omega), k _ _ st.h1 (by omega), ?_, k _ _ st.hr (by omega), k _ _ st.hp (ne_of_types st.hp st.ht (by decide)), ?_, ?_, lo⟩
 ·rw [heap_setCell_same _ _ _ _ _ _ st.ht, hc]
 ·exact ownsRow_setCell_other os (own_type os st.ht (by decide)) _
 ·exact ownsRow_setCell_other op (own_type op st.ht (by decide)) _
theorem St.grown (st : St B Br Bp w0 w vv kv t r) {b : Option Nat} (h : w.grownBy w1 b) (hlo : ∀ k, b = some k → B ≤ k) (hne : ∀ k cs e, b = some k → w.heap[k]? = some (.cells cs e (0, 0)) → e = 9 ∨ e = 76)
  {vv' kv' : Value} {t' : Tg} (hc : tagCells t vv kv = tagCells t' vv' kv') (os : OwnS w1 B vv' t'.vars) (op : OwnP w1 B kv' t'.keys) : St B Br Bp w0 w1 vv' kv' t' r := by
 have hB : B ≤ w.heap.size := Nat.le_of_lt (lt_of_block st.h0)
 have k : ∀ (b1 : Nat) (cs : Array Value) (e : TypeId), w.heap[b1]? = some (.cells cs e (0, 0)) → e ≠ 9 → e ≠ 76 → w1.heap[b1]? = some (.cells cs e (0, 0)) := fun b1 cs e hb n1 n2 => by
  rw [h.block b1 (lt_of_block hb) (fun e1 => by
   rcases hne b1 cs e e1.symm hb with h1 | h1
   ·exact n1 h1
   ·exact n2 h1)]
  exact hb
 refine ⟨st.bel.grown h hB hlo, k _ _ _ st.h0 (by decide) (by decide), k _ _ _ st.h1 (by decide) (by decide), ?_, k _ _ _ st.hr (by decide) (by decide), k _ _ _ st.hp (by decide) (by decide), os, op, st.lo⟩
 rw [← hc]
 exact k _ _ _ st.ht (by decide) (by decide)
theorem own_ne {w : World} {B : Nat} {l1 : List Str} {l2 : List (Str × Str)} (a : OwnS w B vv l1) (b : OwnP w B kv l2) : (vv.ownBlock = none ∨ vv.ownBlock ≠ kv.ownBlock) ∧ (kv.ownBlock = none ∨ kv.ownBlock ≠ vv.ownBlock) := by
 rcases b.shape with ⟨rfl, _⟩ | ⟨g, cap, cur, rfl, _, hg, _⟩
 ·refine ⟨?_, Or.inl rfl⟩
  cases h : vv.ownBlock with
  | none => exact Or.inl rfl
  | some x => exact Or.inr (by simp [Value.ownBlock])
 ·have h := own_type a hg (by decide)
  exact ⟨Or.inr h, Or.inr (fun e => h e.symm)⟩
theorem own_kind {w : World} {base : Nat} {e : TypeId} {size : Nat} {v : Value} {n : Nat} {xs : List Value} (h : w.ownsRow base e size v n xs) : ∀ (k : Nat) (cs : Array Value) (e' : TypeId), v.ownBlock = some k → w.heap[k]? = some (.cells cs e' (0, 0)) → e' = e := by
 intro k cs e' hk hb
 rcases h.2 with ⟨rfl, _⟩ | ⟨g, cap, cur, rfl, _, hg, _⟩
 ·simp [Value.ownBlock] at hk
 ·simp only [Value.ownBlock] at hk
  injection hk with hk
  rw [hk, hb] at hg
  injection hg with hg
  injection hg
theorem own_sliceS {l : List Str} (h : OwnS w B vv l) : ∃ ao cp, vv = .slice ao l.length cp := by
 rcases h.shape with ⟨rfl, rfl⟩ | ⟨g, cap, cur, rfl, _⟩
 ·exact ⟨none, 0, rfl⟩
 ·exact ⟨_, _, rfl⟩
theorem own_sliceP {l : List (Str × Str)} (h : OwnP w B kv l) : ∃ ao cp, kv = .slice ao l.length cp := by
 rcases h.shape with ⟨rfl, rfl⟩ | ⟨g, cap, cur, rfl, _⟩
 ·exact ⟨none, 0, rfl⟩
 ·exact ⟨_, _, rfl⟩
theorem St.sortP (st : St B Br Bp w0 w vv kv t r) {l : List (Str × Str)} (op : OwnP w1 B kv l) (h : w.grownBy w1 kv.ownBlock) : St B Br Bp w0 w1 vv kv { t with keys := l } r :=
 st.grown h (fun k hk => (World.ownsRow.lt st.op k hk).1) (fun k cs e hk hb => Or.inr (own_kind st.op k cs e hk hb)) rfl (World.ownsRow.kept st.os h (own_ne st.os st.op).1) op
theorem St.sortS (st : St B Br Bp w0 w vv kv t r) {l : List Str} (os : OwnS w1 B vv l) (h : w.grownBy w1 vv.ownBlock) : St B Br Bp w0 w1 vv kv { t with vars := l } r :=
 st.grown h (fun k hk => (World.ownsRow.lt st.os k hk).1) (fun k cs e hk hb => Or.inl (own_kind st.os k cs e hk hb)) rfl os (World.ownsRow.kept st.op h (own_ne st.os st.op).2)
theorem St.app (st : St B Br Bp w0 w vv kv t r) {b : Option Nat} (h : w.grownBy w1 b) (hlo : ∀ k, b = some k → B ≤ k) (hne : ∀ (k : Nat) (cs : Array Value) (e : TypeId), b = some k → w.heap[k]? = some (.cells cs e (0, 0)) → e = 9 ∨ e = 76)
  (i : Nat) (x : Value) {vv' kv' : Value} {t' : Tg} (hc : (tagCells t vv kv).setIfInBounds i x = tagCells t' vv' kv') (os : OwnS w1 B vv' t'.vars) (op : OwnP w1 B kv' t'.keys) : St B Br Bp w0 (w1.setCell ⟨B + 2, i, none⟩ x) vv' kv' t' r := by
 have hB : B ≤ w.heap.size := Nat.le_of_lt (lt_of_block st.h0)
 have lo := st.lo
 have k : ∀ (b1 : Nat) (cs : Array Value) (e : TypeId), w.heap[b1]? = some (.cells cs e (0, 0)) → e ≠ 9 → e ≠ 76 → w1.heap[b1]? = some (.cells cs e (0, 0)) := fun b1 cs e hb n1 n2 => by
  rw [h.block b1 (lt_of_block hb) (fun e1 => by
   rcases hne b1 cs e e1.symm hb with h1 | h1
   ·exact n1 h1
   ·exact n2 h1)]
  exact hb
 have k2 : ∀ (b1 : Nat) (cs : Array Value) (e : TypeId), w.heap[b1]? = some (.cells cs e (0, 0)) → e ≠ 9 → e ≠ 76 → b1 ≠ B + 2 → (w1.setCell ⟨B + 2, i, none⟩ x).heap[b1]? = some (.cells cs e (0, 0)) := fun b1 cs e hb n1 n2 n3 => by
  rw [heap_setCell_other _ _ _ _ n3]; exact k b1 cs e hb n1 n2
 have ht1 := k _ _ _ st.ht (by decide) (by decide)
 refine ⟨(st.bel.grown h hB hlo).setCell (by simp) _, k2 _ _ _ st.h0 (by decide) (by decide) (by omega), k2 _ _ _ st.h1 (by decide) (by decide) (by omega), ?_, k2 _ _ _ st.hr (by decide) (by decide) (by omega), k2 _ _ _ st.hp (by decide) (by decide) (ne_of_types st.hp st.ht (by decide)), ?_, ?_, lo⟩
 ·rw [heap_setCell_same _ _ _ _ _ _ ht1, hc]
 ·exact ownsRow_setCell_other os (own_type os ht1 (by decide)) _
 ·exact ownsRow_setCell_other op (own_type op ht1 (by decide)) _
theorem St.appP (st : St B Br Bp w0 w vv kv t r) {l : List (Str × Str)} {kv' : Value} (op : OwnP w1 B kv' l) (h : w.grownBy w1 kv.ownBlock) : St B Br Bp w0 (w1.setCell ⟨B + 2, 4, none⟩ kv') vv kv' { t with keys := l } r :=
 st.app h (fun k hk => (World.ownsRow.lt st.op k hk).1) (fun k cs e hk hb => Or.inr (own_kind st.op k cs e hk hb)) 4 kv' (by simp [tagCells]) (World.ownsRow.kept st.os h (own_ne st.os st.op).1) op
theorem St.appS (st : St B Br Bp w0 w vv kv t r) {l : List Str} {vv' : Value} (os : OwnS w1 B vv' l) (h : w.grownBy w1 vv.ownBlock) : St B Br Bp w0 (w1.setCell ⟨B + 2, 3, none⟩ vv') vv' kv { t with vars := l } r :=
 st.app h (fun k hk => (World.ownsRow.lt st.os k hk).1) (fun k cs e hk hb => Or.inl (own_kind st.os k cs e hk hb)) 3 vv' (by simp [tagCells]) os (World.ownsRow.kept st.op h (own_ne st.os st.op).2)
structure Low (B Br Bp B2 : Nat) (vv kv : Value) : Prop where
 a : B + 2 < B2
 b : Br < B2
 c : Bp < B2
 v : ∀ k, vv.ownBlock = some k → k < B2
 k : ∀ k, kv.ownBlock = some k → k < B2
theorem St.low (st : St B Br Bp w0 w vv kv t r) : Low B Br Bp w.heap.size vv kv :=
 ⟨lt_of_block st.ht, lt_of_block st.hr, lt_of_block st.hp, fun k hk => (World.ownsRow.lt st.os k hk).2, fun k hk => (World.ownsRow.lt st.op k hk).2⟩
theorem own_low {w w1 : World} {base B2 : Nat} {e : TypeId} {size : Nat} {v : Value} {n : Nat} {xs : List Value} (h : w.ownsRow base e size v n xs) (hv : ∀ k, v.ownBlock = some k → k < B2) (hb : Below B2 w w1) : w1.ownsRow base e size v n xs := by
 refine ⟨h.1, ?_⟩
 rcases h.2 with h1 | ⟨g, cap, cur, rfl, h2, h3, h4⟩
 ·exact Or.inl h1
 ·exact Or.inr ⟨g, cap, cur, rfl, h2, by rw [hb.block g (hv g rfl)]; exact h3, h4⟩
theorem St.above (st : St B Br Bp w0 w vv kv t r) {B2 : Nat} (l : Low B Br Bp B2 vv kv) (h : Below B2 w w1) : St B Br Bp w0 w1 vv kv t r := by
 have la := l.a
 have k : ∀ b o, b < B2 → w.heap[b]? = some o → w1.heap[b]? = some o := fun b o hl hb => by rw [h.block b hl]; exact hb
 exact ⟨st.bel.trans (h.mono (by omega)), k _ _ (by omega) st.h0, k _ _ (by omega) st.h1, k _ _ (by omega) st.ht, k _ _ l.b st.hr, k _ _ l.c st.hp, own_low st.os l.v h, own_low st.op l.k h, st.lo⟩
theorem St.next (st : St B Br Bp w0 w vv kv t r) (hall : r.all ≤ 128) : Calls Tryz.prog 121 #[.pointer (some ⟨Br, 0, none⟩)] w fun e w' => e = .returned (.tuple #[]) ∧ (w'.heap[Br]? = some (.cells (rdr r.next.rest r.next.pos r.next.sub true r.next.fin) 185 (0, 0)) ∧ Only Br w w') := by
 have h := st.hr
 unfold Rd.all at hall
 unfold Rd.next
 cases hr : r.rest with
 | nil => rw [hr] at h; exact next_end Br r.pos r.sub true r.fin w (by omega) (by omega) h
 | cons c l => rw [hr] at h hall; exact next_more Br c l r.pos r.sub r.fin w (by simp at hall; omega) (by omega) (by omega) h
theorem St.cp (st : St B Br Bp w0 w vv kv t r) : w.cell? ⟨Bp, 0, none⟩ = some (.pointer (some ⟨Br, 0, none⟩)) := cell_of_one st.hp
theorem St.cr1 (st : St B Br Bp w0 w vv kv t r) : w.cell? ⟨Br, 1, none⟩ = some (.int .i64 r.pos) := by rw [cell_of_row _ _ _ _ _ _ st.hr]; rfl
theorem St.cr2 (st : St B Br Bp w0 w vv kv t r) : w.cell? ⟨Br, 2, none⟩ = some (.string ⟨r.sub.toArray⟩) := by rw [cell_of_row _ _ _ _ _ _ st.hr]; rfl
theorem St.cr4 (st : St B Br Bp w0 w vv kv t r) : w.cell? ⟨Br, 4, none⟩ = some (.bool r.fin) := by rw [cell_of_row _ _ _ _ _ _ st.hr]; rfl
theorem St.ct0 (st : St B Br Bp w0 w vv kv t r) : w.cell? ⟨B + 2, 0, none⟩ = some (.string ⟨t.lang.toArray⟩) := by rw [cell_of_row _ _ _ _ _ _ st.ht]; rfl
theorem St.ct1 (st : St B Br Bp w0 w vv kv t r) : w.cell? ⟨B + 2, 1, none⟩ = some (.string ⟨t.script.toArray⟩) := by rw [cell_of_row _ _ _ _ _ _ st.ht]; rfl
theorem St.ct2 (st : St B Br Bp w0 w vv kv t r) : w.cell? ⟨B + 2, 2, none⟩ = some (.string ⟨t.region.toArray⟩) := by rw [cell_of_row _ _ _ _ _ _ st.ht]; rfl
theorem St.ct3 (st : St B Br Bp w0 w vv kv t r) : w.cell? ⟨B + 2, 3, none⟩ = some vv := by rw [cell_of_row _ _ _ _ _ _ st.ht]; rfl
theorem St.ct4 (st : St B Br Bp w0 w vv kv t r) : w.cell? ⟨B + 2, 4, none⟩ = some kv := by rw [cell_of_row _ _ _ _ _ _ st.ht]; rfl
theorem St.z0 (st : St B Br Bp w0 w vv kv t r) : w.cell? ⟨B, 0, none⟩ = some (.string ⟨#[]⟩) := by rw [cell_of_row _ _ _ _ _ _ st.h0]; rfl
theorem St.z1 (st : St B Br Bp w0 w vv kv t r) : w.cell? ⟨B, 1, none⟩ = some (.string ⟨#[]⟩) := by rw [cell_of_row _ _ _ _ _ _ st.h0]; rfl
theorem St.z2 (st : St B Br Bp w0 w vv kv t r) : w.cell? ⟨B, 2, none⟩ = some (.string ⟨#[]⟩) := by rw [cell_of_row _ _ _ _ _ _ st.h0]; rfl
theorem St.z3 (st : St B Br Bp w0 w vv kv t r) : w.cell? ⟨B, 3, none⟩ = some (.slice none 0 0) := by rw [cell_of_row _ _ _ _ _ _ st.h0]; rfl
theorem St.z4 (st : St B Br Bp w0 w vv kv t r) : w.cell? ⟨B, 4, none⟩ = some (.slice none 0 0) := by rw [cell_of_row _ _ _ _ _ _ st.h0]; rfl
theorem St.fz (st : St B Br Bp w0 w vv kv t r) (j : Nat) : w.frozen? ⟨B, j, none⟩ = false := frozen_of_row _ _ _ _ _ st.h0
theorem St.y0 (st : St B Br Bp w0 w vv kv t r) : w.cell? ⟨B + 1, 0, none⟩ = some (.int .i64 0) := by rw [cell_of_row _ _ _ _ _ _ st.h1]; rfl
theorem St.y1 (st : St B Br Bp w0 w vv kv t r) : w.cell? ⟨B + 1, 1, none⟩ = some (.int .i64 0) := by rw [cell_of_row _ _ _ _ _ _ st.h1]; rfl
theorem St.fy (st : St B Br Bp w0 w vv kv t r) (j : Nat) : w.frozen? ⟨B + 1, j, none⟩ = false := frozen_of_row _ _ _ _ _ st.h1
theorem St.ft (st : St B Br Bp w0 w vv kv t r) (j : Nat) : w.frozen? ⟨B + 2, j, none⟩ = false := frozen_of_row _ _ _ _ _ st.ht
end
def Parsed (B : Nat) (w0 : World) (x : Res) (e : Ending) (w' : World) : Prop :=
 ∃ vv kv, e = .returned (.tuple #[.agg (tagCells x.tag vv kv), .agg #[.int .i64 x.err, .int .i64 x.pos]]) ∧ OwnS w' B vv x.tag.vars ∧ OwnP w' B kv x.tag.keys ∧ Below B w0 w'
theorem infoS : (Tryz.prog.info? 9).map (fun i => (i.zero, i.size, i.bytes)) = some (some (.string ⟨#[]⟩), 1, 16) := by kernel_rfl
theorem infoP : (Tryz.prog.info? 76).map (fun i => (i.zero, i.size, i.bytes)) = some (some (.agg #[.string ⟨#[]⟩, .string ⟨#[]⟩]), 2, 32) := by kernel_rfl
theorem own_cast {w : World} {base : Nat} {e : TypeId} {size : Nat} {v : Value} {n m : Nat} {xs ys : List Value} (h : w.ownsRow base e size v n xs) (hn : m = n) (hx : ys = xs) : w.ownsRow base e size v m ys := by rw [hn, hx]; exact h
theorem nodup_snoc {l : List (Str × Str)} {key v : Str} (h : (l.any fun p => p.1 == key) = false) (hn : (l.map (·.1)).Nodup) : ((l ++ [(key, v)]).map (·.1)).Nodup := by
 rw [List.map_append, List.nodup_append]
 refine ⟨hn, by simp, fun a ha b hb => ?_⟩
 simp only [List.map_cons, List.map_nil, List.mem_singleton] at hb
 subst hb
 obtain ⟨p, hp, rfl⟩ := List.mem_map.1 ha
 have := List.any_eq_false.1 h p hp
 simpa using this
end Go.Proofs.YtbbmdbolkicpcaaGreatDoor
namespace Go.Proofs.YtbbmdbolkicpcaaGreatDoor
open Go.RowKit Go.Lib Go.Sort
theorem list_lit (n : Nat) (l : List Value) (h : l.length = n) : l = (List.range n).map fun i => l.getD i undef := by
 apply List.ext_getElem?
 intro i
 by_cases hi : i < n
 ·simp [hi, h]
 ·rw [List.getElem?_eq_none (by omega), List.getElem?_eq_none (by simp; omega)]
set_option maxRecDepth 100000 in
theorem frame_lit (t : Array Value) (h : t.size = 213) : ∃ u : Nat → Value, (∀ i, t.getD i undef = u i) ∧ t = #[u 0, u 1, u 2, u 3, u 4, u 5, u 6, u 7, u 8, u 9, u 10, u 11, u 12, u 13, u 14, u 15, u 16, u 17, u 18, u 19, u 20, u 21, u 22, u 23, u 24, u 25, u 26, u 27, u 28, u 29, u 30, u 31, u 32, u 33, u 34, u 35, u 36, u 37, u 38, u 39, u 40, u 41, u 42, u 43, u 44, u 45, u 46, u 47, u 48, u 49, u 50, u 51, u 52, u 53, u 54, u 55, u 56, u 57, u 58, u 59, u 60, u 61, u 62, u 63, u 64, u 65, u 66, u 67, u 68, u 69, u 70, u 71, u 72, u 73, u 74, u 75, u 76, u 77, u 78, u 79, u 80, u 81, u 82, u 83, u 84, u 85, u 86, u 87, u 88, u 89, u 90, u 91, u 92, u 93, u 94, u 95, u 96, u 97, u 98, u 99, u 100, u 101, u 102, u 103, u 104, u 105, u 106, u 107, u 108, u 109, u 110, u 111, u 112, u 113, u 114, u 115, u 116, u 117, u 118, u 119, u 120, u 121, u 122, u 123, u 124, u 125, u 126, u 127, u 128, u 129, u 130, u 131, u 132, u 133, u 134, u 135, u 136, u 137, u 138, u 139, u 140, u 141, u 142, u 143, u 144, u 145, u 146, u 147, u 148, u 149, u 150, u 151, u 152, u 153, u 154, u 155, u 156, u 157, u 158, u 159, u 160, u 161, u 162, u 163, u 164, u 165, u 166, u 167, u 168, u 169, u 170, u 171, u 172, u 173, u 174, u 175, u 176, u 177, u 178, u 179, u 180, u 181, u 182, u 183, u 184, u 185, u 186, u 187, u 188, u 189, u 190, u 191, u 192, u 193, u 194, u 195, u 196, u 197, u 198, u 199, u 200, u 201, u 202, u 203, u 204, u 205, u 206, u 207, u 208, u 209, u 210, u 211, u 212] := by
 refine ⟨fun i => t.getD i undef, fun _ => rfl, ?_⟩
 have e := list_lit 213 t.toList (by simpa using h)
 have e2 : t = ⟨(List.range 213).map fun i => t.toList.getD i undef⟩ := by
  rw [← e]
 have e3 : ∀ i, t.toList.getD i undef = t.getD i undef := fun i => by simp [Array.getD_eq_getD_getElem?]
 simp only [e3] at e2
 exact e2
structure Fr (s : ByteArray) (B Bp : Nat) (a : Act) : Prop where
 d : a.defers = []
 n : a.tmps.size = 213
 s0 : a.tmps.getD 0 undef = .string s
 s2 : a.tmps.getD 2 undef = .pointer (some ⟨B, 0, none⟩)
 s3 : a.tmps.getD 3 undef = .pointer (some ⟨B + 1, 0, none⟩)
 s4 : a.tmps.getD 4 undef = .pointer (some ⟨B + 2, 0, none⟩)
 s5 : a.tmps.getD 5 undef = .pointer (some ⟨Bp, 0, none⟩)
 s6 : a.tmps.getD 6 undef = .func (.func 120) #[] #[.pointer (some ⟨Bp, 0, none⟩)]
theorem Fr.lit {s : ByteArray} {B Bp : Nat} {a : Act} (h : Fr s B Bp a) : ∃ u : Nat → Value, a = { tmps := #[.string s, u 1, .pointer (some ⟨B, 0, none⟩), .pointer (some ⟨B + 1, 0, none⟩), .pointer (some ⟨B + 2, 0, none⟩), .pointer (some ⟨Bp, 0, none⟩), .func (.func 120) #[] #[.pointer (some ⟨Bp, 0, none⟩)], u 7, u 8, u 9, u 10, u 11, u 12, u 13, u 14, u 15, u 16, u 17, u 18, u 19, u 20, u 21, u 22, u 23, u 24, u 25, u 26, u 27, u 28, u 29, u 30, u 31, u 32, u 33, u 34, u 35, u 36, u 37, u 38, u 39, u 40, u 41, u 42, u 43, u 44, u 45, u 46, u 47, u 48, u 49, u 50, u 51, u 52, u 53, u 54, u 55, u 56, u 57, u 58, u 59, u 60, u 61, u 62, u 63, u 64, u 65, u 66, u 67, u 68, u 69, u 70, u 71, u 72, u 73, u 74, u 75, u 76, u 77, u 78, u 79, u 80, u 81, u 82, u 83, u 84, u 85, u 86, u 87, u 88, u 89, u 90, u 91, u 92, u 93, u 94, u 95, u 96, u 97, u 98, u 99, u 100, u 101, u 102, u 103, u 104, u 105, u 106, u 107, u 108, u 109, u 110, u 111, u 112, u 113, u 114, u 115, u 116, u 117, u 118, u 119, u 120, u 121, u 122, u 123, u 124, u 125, u 126, u 127, u 128, u 129, u 130, u 131, u 132, u 133, u 134, u 135, u 136, u 137, u 138, u 139, u 140, u 141, u 142, u 143, u 144, u 145, u 146, u 147, u 148, u 149, u 150, u 151, u 152, u 153, u 154, u 155, u 156, u 157, u 158, u 159, u 160, u 161, u 162, u 163, u 164, u 165, u 166, u 167, u 168, u 169, u 170, u 171, u 172, u 173, u 174, u 175, u 176, u 177, u 178, u 179, u 180, u 181, u 182, u 183, u 184, u 185, u 186, u 187, u 188, u 189, u 190, u 191, u 192, u 193, u 194, u 195, u 196, u 197, u 198, u 199, u 200, u 201, u 202, u 203, u 204, u 205, u 206, u 207, u 208, u 209, u 210, u 211, u 212], defers := [] } := by
 obtain ⟨t, d⟩ := a
 obtain ⟨hd, hn, h0, h2, h3, h4, h5, h6⟩ := h
 simp only at hd hn h0 h2 h3 h4 h5 h6
 obtain ⟨u, hu, e⟩ := frame_lit t hn
 rw [hu] at h0 h2 h3 h4 h5 h6
 refine ⟨u, ?_⟩
 rw [h0, h2, h3, h4, h5, h6] at e
 rw [e, hd]
end Go.Proofs.YtbbmdbolkicpcaaGreatDoor
namespace Go.Proofs.YtbbmdbolkicpcaaGreatDoor
open Go.RowKit Go.Lib Go.Sort
set_option maxHeartbeats 1000000 in
theorem wrong_any (e : Int) (bp br : Nat) (pos : Nat) (w : World) (hp : w.cell? ⟨bp, 0, none⟩ = some (.pointer (some ⟨br, 0, none⟩))) (hr : w.cell? ⟨br, 1, none⟩ = some (.int .i64 pos)) :
  Calls Tryz.prog 120 #[.int .i64 e, .pointer (some ⟨bp, 0, none⟩)] w fun en w' => en = .returned (.tuple #[.agg #[.string ⟨#[]⟩, .string ⟨#[]⟩, .string ⟨#[]⟩, .slice none 0 0, .slice none 0 0], .agg #[.int .i64 e, .int .i64 pos]]) ∧ Below w.heap.size w w' := by
 have b1 := World.block_lt_of_cell? w _ hp
 have b2 := World.block_lt_of_cell? w _ hr
 go_enter Tryz.func120, Tryz.ntmps120
 go_wp2
 go_region
 go_wp2
 exact bodyPost_ret (v := .tuple #[.agg #[.string ⟨#[]⟩, .string ⟨#[]⟩, .string ⟨#[]⟩, .slice none 0 0, .slice none 0 0], .agg #[.int .i64 e, .int .i64 pos]]) (by simp [results, Tryz.results120, go_sem]) rfl ⟨rfl, (((Below.refl _ _).alloc (Nat.le_refl _) _).alloc (by simp) _).drew⟩
def retW (w : World) (B : Nat) (x : Res) (vv kv : Value) : World :=
 ((((((w.setCell ⟨B, 0, none⟩ (S x.tag.lang)).setCell ⟨B, 1, none⟩ (S x.tag.script)).setCell ⟨B, 2, none⟩ (S x.tag.region)).setCell ⟨B, 3, none⟩ vv).setCell ⟨B, 4, none⟩ kv).setCell ⟨B + 1, 0, none⟩ (.int .i64 x.err)).setCell ⟨B + 1, 1, none⟩ (.int .i64 x.pos)
theorem own_set {w : World} {base : Nat} {e : TypeId} {size : Nat} {v : Value} {n : Nat} {xs : List Value} (h : w.ownsRow base e size v n xs) {b : Nat} (hb : v.ownBlock ≠ some b) (i : Nat) (u : Value) : (w.setCell ⟨b, i, none⟩ u).ownsRow base e size v n xs :=
 ownsRow_setCell_other h hb u
theorem ret_core {B : Nat} {w0 w : World} (st_bel : Below B w0 w) (st_h0 : w.heap[B]? = some (.cells (tagCells Tg.zero vnil vnil) 113 (0, 0))) (st_h1 : w.heap[B + 1]? = some (.cells #[.int .i64 0, .int .i64 0] 77 (0, 0))) (x : Res) (vv' kv' : Value) {a : Act} {Jx : Nat → Act → World → Prop} (hd : a.defers = [])
  (h2 : a.tmps.getD 2 undef = .pointer (some ⟨B, 0, none⟩)) (h3 : a.tmps.getD 3 undef = .pointer (some ⟨B + 1, 0, none⟩)) (os : OwnS w B vv' x.tag.vars) (op : OwnP w B kv' x.tag.keys) :
  Exit.jumps Jx (bodyPost Tryz.prog Tryz.f92 (Parsed B w0 x)) Exit.ret a (retW w B x vv' kv') := by
 have n1 : vv'.ownBlock ≠ some B := own_type os st_h0 (by decide)
 have n2 : kv'.ownBlock ≠ some B := own_type op st_h0 (by decide)
 have n3 : vv'.ownBlock ≠ some (B + 1) := own_type os st_h1 (by decide)
 have n4 : kv'.ownBlock ≠ some (B + 1) := own_type op st_h1 (by decide)
 have hB : (retW w B x vv' kv').heap[B]? = some (.cells (tagCells x.tag vv' kv') 113 (0, 0)) := by
  unfold retW
  rw [heap_setCell_other _ _ _ _ (by simp), heap_setCell_other _ _ _ _ (by simp), heap_setCell_same _ _ _ _ _ _ (heap_setCell_same _ _ _ _ _ _ (heap_setCell_same _ _ _ _ _ _ (heap_setCell_same _ _ _ _ _ _ (heap_setCell_same _ _ _ _ _ _ st_h0))))]
  simp [tagCells]
 have hS : (retW w B x vv' kv').heap[B + 1]? = some (.cells #[.int .i64 x.err, .int .i64 x.pos] 77 (0, 0)) := by
  unfold retW
  rw [heap_setCell_same _ _ _ _ _ _ (heap_setCell_same _ _ _ _ _ _ (by
   rw [heap_setCell_other _ _ _ _ (by simp), heap_setCell_other _ _ _ _ (by simp), heap_setCell_other _ _ _ _ (by simp), heap_setCell_other _ _ _ _ (by simp), heap_setCell_other _ _ _ _ (by simp)]
   exact st_h1))]
  simp
 have os' : OwnS (retW w B x vv' kv') B vv' x.tag.vars := own_set (own_set (own_set (own_set (own_set (own_set (own_set os n1 _ _) n1 _ _) n1 _ _) n1 _ _) n1 _ _) n3 _ _) n3 _ _
 have op' : OwnP (retW w B x vv' kv') B kv' x.tag.keys := own_set (own_set (own_set (own_set (own_set (own_set (own_set op n2 _ _) n2 _ _) n2 _ _) n2 _ _) n2 _ _) n4 _ _) n4 _ _
 have bel : Below B w0 (retW w B x vv' kv') := ((((((st_bel.setCell (by simp) _).setCell (by simp) _).setCell (by simp) _).setCell (by simp) _).setCell (by simp) _).setCell (by simp) _).setCell (by simp) _
 generalize retW w B x vv' kv' = W at *
 have c0 : W.cell? ⟨B, 0, none⟩ = some (S x.tag.lang) := by rw [cell_of_row _ _ _ _ _ _ hB]; rfl
 have c1 : W.cell? ⟨B, 1, none⟩ = some (S x.tag.script) := by rw [cell_of_row _ _ _ _ _ _ hB]; rfl
 have c2 : W.cell? ⟨B, 2, none⟩ = some (S x.tag.region) := by rw [cell_of_row _ _ _ _ _ _ hB]; rfl
 have c3 : W.cell? ⟨B, 3, none⟩ = some vv' := by rw [cell_of_row _ _ _ _ _ _ hB]; rfl
 have c4 : W.cell? ⟨B, 4, none⟩ = some kv' := by rw [cell_of_row _ _ _ _ _ _ hB]; rfl
 have e0 : W.cell? ⟨B + 1, 0, none⟩ = some (.int .i64 x.err) := by rw [cell_of_row _ _ _ _ _ _ hS]; rfl
 have e1 : W.cell? ⟨B + 1, 1, none⟩ = some (.int .i64 x.pos) := by rw [cell_of_row _ _ _ _ _ _ hS]; rfl
 simp only [Exit.jumps]
 refine bodyPost_ret (v := .tuple #[.agg (tagCells x.tag vv' kv'), .agg #[.int .i64 x.err, .int .i64 x.pos]]) ?_ hd ⟨vv', kv', rfl, os', op', bel⟩
 obtain ⟨tmps, defers⟩ := a
 simp only [Array.getD_eq_getD_getElem?] at h2 h3
 simp [results, Tryz.results92, go_sem, h2, h3, c0, c1, c2, c3, c4, e0, e1, tagCells]
theorem ret_all {B Br Bp : Nat} {w0 w : World} {vv kv : Value} {t : Tg} {r : Rd} (st : St B Br Bp w0 w vv kv t r) (x : Res) (vv' kv' : Value) {a : Act} {Jx : Nat → Act → World → Prop} (hd : a.defers = [])
  (h2 : a.tmps.getD 2 undef = .pointer (some ⟨B, 0, none⟩)) (h3 : a.tmps.getD 3 undef = .pointer (some ⟨B + 1, 0, none⟩)) (os : OwnS w B vv' x.tag.vars) (op : OwnP w B kv' x.tag.keys) :
  Exit.jumps Jx (bodyPost Tryz.prog Tryz.f92 (Parsed B w0 x)) Exit.ret a (retW w B x vv' kv') :=
 ret_core st.bel st.h0 st.h1 x vv' kv' hd h2 h3 os op
end Go.Proofs.YtbbmdbolkicpcaaGreatDoor
namespace Go.Proofs.YtbbmdbolkicpcaaGreatDoor
open Go.RowKit
set_option maxHeartbeats 1000000 in
theorem letters_any (s : ByteArray) (n : Nat) (w : World) (hs : s.size ≤ 1000) (hn : n ≤ 1000) :
  Calls Tryz.prog 170 #[.string s, .int .i64 n] w fun e w' => e = .returned (.bool (lettersB s.data.toList n)) ∧ w' = w := by
 have h := Letters_any s w hs
 generalize hb : allB letB s.data.toList = b at *
 have HB := hid hb
 clear hb
 by_cases hq : s.size = n
 ·have hq' : ((s.size : Int) == (n : Int)) = true := by simp [hq]
  have HQ := hid hq
  clear hq
  go_enter Tryz.func170, Tryz.ntmps170
  go_wp2_with (go_at_call 169; refine h.mono ?_; rintro e w' ⟨rfl, rfl⟩)
  all_goals go_ret
  all_goals exact ⟨ret_bool (by simp [lettersB, HB.out, HQ.out]), rfl⟩
 ·have hq' : ((s.size : Int) == (n : Int)) = false := by simp; omega
  have HQ := hid hq
  clear hq
  go_enter Tryz.func170, Tryz.ntmps170
  go_wp2_with (go_at_call 169; refine h.mono ?_; rintro e w' ⟨rfl, rfl⟩)
  all_goals go_ret
  all_goals exact ⟨ret_bool (by simp [lettersB, HQ.out]), rfl⟩
set_option maxHeartbeats 1000000 in
theorem isLanguage_any (s : ByteArray) (w : World) (hs : s.size ≤ 1000) :
  Calls Tryz.prog 122 #[.string s] w fun e w' => e = .returned (.bool (isLang s.data.toList)) ∧ w' = w := by
 have h := Letters_any s w hs
 have hl : s.data.toList.length = s.size := by simp
 generalize hb : allB letB s.data.toList = b at *
 have HB := hid hb
 have HL := hid hl
 clear hb hl
 go_enter Tryz.func122, Tryz.ntmps122
 go_wp2_with (go_at_call 169; refine h.mono ?_; rintro e w' ⟨rfl, rfl⟩)
 all_goals go_ret
 all_goals refine ⟨ret_bool ?_, rfl⟩
 all_goals unfold isLang
 all_goals rw [HB.out, HL.out]
 all_goals simp only [*, Bool.true_and, Bool.false_and]
 all_goals rw [Bool.eq_iff_iff]
 all_goals simp
 all_goals omega
theorem isScript_any (s : ByteArray) (w : World) (hs : s.size ≤ 1000) :
  Calls Tryz.prog 123 #[.string s] w fun e w' => e = .returned (.bool (isScript s.data.toList)) ∧ w' = w := by
 have h := letters_any s 4 w hs (by omega)
 unfold isScript
 generalize lettersB s.data.toList 4 = b at *
 go_enter Tryz.func123, Tryz.ntmps123
 go_wp2_with (go_at_call 170; refine h.mono ?_; rintro e w' ⟨rfl, rfl⟩)
 go_ret
 exact ⟨rfl, rfl⟩
set_option maxHeartbeats 1000000 in
theorem isRegion_any (s : ByteArray) (w : World) (hs : s.size ≤ 1000) :
  Calls Tryz.prog 125 #[.string s] w fun e w' => e = .returned (.bool (isRegion s.data.toList)) ∧ w' = w := by
 have h := letters_any s 2 w hs (by omega)
 have h2 := Digits_any s w hs
 have hl : s.data.toList.length = s.size := by simp
 generalize hb : lettersB s.data.toList 2 = b at *
 generalize hd : allB digB s.data.toList = d at *
 have HB := hid hb
 have HD := hid hd
 have HL := hid hl
 clear hb hl hd
 go_enter Tryz.func125, Tryz.ntmps125
 go_wp2_with (first | (go_at_call 170; refine h.mono ?_; rintro e w' ⟨rfl, rfl⟩) | (go_at_call 171; refine h2.mono ?_; rintro e w' ⟨rfl, rfl⟩))
 all_goals go_ret
 all_goals refine ⟨ret_bool ?_, rfl⟩
 all_goals unfold isRegion
 all_goals rw [HB.out, HL.out, HD.out]
 all_goals simp only [*, Bool.true_or, Bool.false_or]
 all_goals try rw [Bool.eq_iff_iff]
 all_goals simp
 all_goals try omega
theorem extract_one (s : ByteArray) (k : Nat) (h : k < s.size) : (s.extract k (k + 1)).data.toList = [s[k]] := by
 rw [Lib.extract_data, Nat.add_sub_cancel_left]
 have hk : k < s.data.toList.length := by simpa using h
 rw [List.drop_eq_getElem_cons hk]
 rfl
theorem extract_one_size (s : ByteArray) (k : Nat) (h : k < s.size) : (s.extract k (k + 1)).size = 1 := by
 rw [Lib.size_eq, extract_one s k h]; rfl
def mixC (c : UInt8) : Bool := letB c || digB c
theorem mixed_out {s : ByteArray} {lo hi : Nat} (h : ¬ (lo ≤ s.size ∧ s.size ≤ hi)) : mixedB s.data.toList lo hi = false := by
 have hl : s.data.toList.length = s.size := by simp
 unfold mixedB
 rw [hl]
 by_cases h1 : lo ≤ s.size
 ·have h2 : ¬ s.size ≤ hi := fun x => h ⟨h1, x⟩
  simp [h2]
 ·simp [h1]
theorem mixed_yes {s : ByteArray} {lo hi k : Nat} (h1 : lo ≤ s.size) (h2 : s.size ≤ hi) (hk : ¬ k < s.size) (ha : (s.data.toList.take k).all mixC = true) : mixedB s.data.toList lo hi = true := by
 have hl : s.data.toList.length = s.size := by simp
 rw [List.take_of_length_le (by omega)] at ha
 unfold mixedB
 rw [hl]
 simp only [h1, h2, decide_true, Bool.true_and]
 exact ha
theorem mixed_no {s : ByteArray} {lo hi k : Nat} (h : k < s.size) (ha : mixC s[k] = false) : mixedB s.data.toList lo hi = false := by
 have hm : s[k] ∈ s.data.toList := by
  have : s[k] = s.data.toList[k]'(by simpa using h) := rfl
  rw [this]; exact List.getElem_mem _
 have : (s.data.toList.all fun c => letB c || digB c) = false := List.all_eq_false.2 ⟨_, hm, by have := ha; simp [mixC] at this; simp [this]⟩
 unfold mixedB
 rw [this]
 simp
set_option maxHeartbeats 1000000 in
theorem mixed_any (s : ByteArray) (lo hi : Nat) (w : World) (hs : s.size ≤ 1000) (hlo : lo ≤ 1000) (hhi : hi ≤ 1000) :
  Calls Tryz.prog 172 #[.string s, .int .i64 lo, .int .i64 hi] w fun e w' => e = .returned (.bool (mixedB s.data.toList lo hi)) ∧ w' = w := by
 by_cases h1 : lo ≤ s.size
 ·by_cases h2 : s.size ≤ hi
  ·have hd1 : decide (s.size < lo) = false := by simp; omega
   have hd2 : decide (hi < s.size) = false := by simp; omega
   go_enter Tryz.func172, Tryz.ntmps172
   go_wp2
   go_loop [7] (fun i => ∃ k : Nat, k ≤ s.size ∧ i = .int .i64 k ∧ (s.data.toList.take k).all mixC = true) (fun i => s.size - (intOf i).toNat)
   case atStart => exact ⟨0, Nat.zero_le _, rfl, by simp⟩
   case round =>
    obtain ⟨k, hk, rfl, hall⟩ := hrel
    have HA := hid hall
    clear hall
    by_cases hlt : k < s.size
    ·have HS := hid (all_take_succ mixC s k hlt)
     have h3 := Letters_any (s.extract k (k + 1)) w (by rw [extract_one_size s k hlt]; omega)
     have h4 := Digits_any (s.extract k (k + 1)) w (by rw [extract_one_size s k hlt]; omega)
     rw [extract_one s k hlt, allB_one] at h3 h4
     have HM : Hid (mixC s[k] = (letB s[k] || digB s[k])) := rfl
     have HN := hid (fun x => mixed_no (lo := lo) (hi := hi) hlt x)
     generalize letB s[k] = b1 at *
     generalize digB s[k] = b2 at *
     go_wp2_with (first | (go_at_call 169; refine h3.mono ?_; rintro e w' ⟨rfl, rfl⟩) | (go_at_call 171; refine h4.mono ?_; rintro e w' ⟨rfl, rfl⟩))
     ·have e1 : b1 = true := by assumption
      go_round
      case rel => exact ⟨k + 1, by omega, by go_num, by rw [HS.out, HA.out, HM.out, e1]; rfl⟩
      case measure => simp [intOf]; omega
     ·have e1 : ¬ b1 = true := by assumption
      have e2 : (!b2) = true := by assumption
      go_ret
      exact ⟨ret_bool (HN.out (by rw [HM.out]; simp at e1 e2; simp [e1, e2])).symm, rfl⟩
     ·have e2 : (!b2) = false := by assumption
      go_round
      case rel => exact ⟨k + 1, by omega, by go_num, by rw [HS.out, HA.out, HM.out]; simp at e2; simp [e2]⟩
      case measure => simp [intOf]; omega
    ·go_wp2
     go_ret
     exact ⟨ret_bool (mixed_yes h1 h2 hlt HA.out).symm, rfl⟩
  ·have hm := hid (mixed_out (s := s) (lo := lo) (hi := hi) (fun x => h2 x.2))
   go_enter Tryz.func172, Tryz.ntmps172
   go_wp2
   go_ret
   exact ⟨ret_bool hm.out.symm, rfl⟩
 ·have hm := hid (mixed_out (s := s) (lo := lo) (hi := hi) (fun x => h1 x.1))
  go_enter Tryz.func172, Tryz.ntmps172
  go_wp2
  go_ret
  exact ⟨ret_bool hm.out.symm, rfl⟩
theorem isType_any (s : ByteArray) (w : World) (hs : s.size ≤ 1000) :
  Calls Tryz.prog 131 #[.string s] w fun e w' => e = .returned (.bool (isType s.data.toList)) ∧ w' = w := by
 have h := mixed_any s 3 8 w hs (by omega) (by omega)
 unfold isType
 generalize mixedB s.data.toList 3 8 = b at *
 go_enter Tryz.func131, Tryz.ntmps131
 go_wp2_with (go_at_call 172; refine h.mono ?_; rintro e w' ⟨rfl, rfl⟩)
 go_ret
 exact ⟨rfl, rfl⟩
theorem mixed_two {l : List UInt8} {lo hi : Nat} (h : mixedB l lo hi = true) : lo ≤ l.length ∧ l.length ≤ hi := by
 simp only [mixedB, Bool.and_eq_true, decide_eq_true_eq] at h
 exact ⟨h.1, h.2.1⟩
set_option maxHeartbeats 1000000 in
theorem isKey_any (s : ByteArray) (w : World) (hs : s.size ≤ 1000) :
  Calls Tryz.prog 129 #[.string s] w fun e w' => e = .returned (.bool (isKey s.data.toList)) ∧ w' = w := by
 have h := mixed_any s 2 2 w hs (by omega) (by omega)
 cases hb : mixedB s.data.toList 2 2
 ·have hk : isKey s.data.toList = false := by simp [isKey, hb]
  rw [hb] at h
  rw [hk]
  clear hk hb
  go_enter Tryz.func129, Tryz.ntmps129
  go_wp2_with (go_at_call 172; refine h.mono ?_; rintro e w' ⟨rfl, rfl⟩)
  go_ret
  exact ⟨rfl, rfl⟩
 ·have hl : s.size = 2 := by have := mixed_two hb; rw [← Lib.size_eq] at this; omega
  have hk : isKey s.data.toList = allB letB (s.data.toList.drop 1) := by simp [isKey, hb]
  have h1 : 1 ≤ s.size := by omega
  have h2 := Letters_any (s.extract 1 s.size) w (by rw [Lib.size_eq, Lib.extract_data]; simp; omega)
  rw [hb] at h
  rw [hk]
  have e1 : (s.extract 1 s.size).data.toList = s.data.toList.drop 1 := by
   rw [Lib.extract_data, List.take_of_length_le]; simp
  rw [e1] at h2
  generalize allB letB (s.data.toList.drop 1) = b at *
  clear hk hb hl e1
  go_enter Tryz.func129, Tryz.ntmps129
  go_wp2_with (first | (go_at_call 172; refine h.mono ?_; rintro e w' ⟨rfl, rfl⟩) | (go_at_call 169; refine h2.mono ?_; rintro e w' ⟨rfl, rfl⟩))
  go_ret
  exact ⟨rfl, rfl⟩
set_option maxHeartbeats 1000000 in
theorem isVariant_any (s : ByteArray) (w : World) (hs : s.size ≤ 1000) :
  Calls Tryz.prog 127 #[.string s] w fun e w' => e = .returned (.bool (isVariant s.data.toList)) ∧ w' = w := by
 have h := mixed_any s 5 8 w hs (by omega) (by omega)
 have h' := mixed_any s 4 4 w hs (by omega) (by omega)
 cases hb : mixedB s.data.toList 5 8
 ·cases hc : mixedB s.data.toList 4 4
  ·have hk : isVariant s.data.toList = false := by simp [isVariant, hb, hc]
   rw [hb] at h
   rw [hc] at h'
   rw [hk]
   clear hk hb hc
   go_enter Tryz.func127, Tryz.ntmps127
   go_wp2_with fail
   refine h.mono ?_
   rintro e w' ⟨rfl, rfl⟩
   go_wp2_with fail
   refine h'.mono ?_
   rintro e w' ⟨rfl, rfl⟩
   go_wp2_with fail
   go_ret
   exact ⟨rfl, rfl⟩
  ·have hl : s.size = 4 := by have := mixed_two hc; rw [← Lib.size_eq] at this; omega
   have hk : isVariant s.data.toList = allB digB (s.data.toList.take 1) := by simp [isVariant, hb, hc]
   have h1 : 1 ≤ s.size := by omega
   have h2 := Digits_any (s.extract 0 1) w (by rw [Lib.size_eq, Lib.extract_data]; simp; omega)
   rw [hb] at h
   rw [hc] at h'
   rw [hk]
   have e1 : (s.extract 0 1).data.toList = s.data.toList.take 1 := by
    rw [Lib.extract_data]; simp
   rw [e1] at h2
   generalize allB digB (s.data.toList.take 1) = b at *
   clear hk hb hc hl e1
   go_enter Tryz.func127, Tryz.ntmps127
   go_wp2_with fail
   refine h.mono ?_
   rintro e w' ⟨rfl, rfl⟩
   go_wp2_with fail
   refine h'.mono ?_
   rintro e w' ⟨rfl, rfl⟩
   go_wp2_with fail
   refine h2.mono ?_
   rintro e w' ⟨rfl, rfl⟩
   go_wp2_with fail
   go_ret
   exact ⟨rfl, rfl⟩
 ·have hk : isVariant s.data.toList = true := by simp [isVariant, hb]
  rw [hb] at h
  rw [hk]
  clear hk hb h'
  go_enter Tryz.func127, Tryz.ntmps127
  go_wp2_with fail
  refine h.mono ?_
  rintro e w' ⟨rfl, rfl⟩
  go_wp2_with fail
  go_ret
  exact ⟨rfl, rfl⟩
end Go.Proofs.YtbbmdbolkicpcaaGreatDoor
