/- The contract of tag.Same. -/
import Derived.Test.YtjlfchnnhglbjaaGreatParse
import Derived.Test.YtjlfchnnhglbjaaGreatWriteP
set_option linter.unusedVariables false
set_option linter.unusedSimpArgs false
namespace Go.Proofs.YtjlfchnnhglbjaaGreat
open Go.RowKit Go.Lib Go.Sort

/-- a slice of texts that can be read; a slice of pairs -/
def RdS (w : World) (v : Value) (l : List Str) : Prop :=
  ∃ ao cp, v = .slice ao l.length cp ∧ (l.length ≤ 9223372036854775807 ∧ (ao = none → l = [] ∧ cp = 0)) ∧ (l ≠ [] → ∃ b off, ao = some ⟨b, off, none⟩ ∧ b < w.heap.size ∧ ∀ j x, l[j]? = some x → w.cell? ⟨b, off + j, none⟩ = some (S x))
def RdP (w : World) (v : Value) (l : List (Str × Str)) : Prop :=
  ∃ ao cp, v = .slice ao l.length cp ∧ (l.length ≤ 9223372036854775807 ∧ (ao = none → l = [] ∧ cp = 0)) ∧ (l ≠ [] → ∃ b off, ao = some ⟨b, off, none⟩ ∧ b < w.heap.size ∧ ∀ j i x, (hj : j < l.length) → (enc2 l[j])[i]? = some x → w.cell? ⟨b, off + j * 2 + i, none⟩ = some x)

theorem OwnS.rd {w : World} {B : Nat} {v : Value} {l : List Str} (h : OwnS w B v l) : RdS w v l := by
  rcases h.shape with ⟨rfl, rfl⟩ | ⟨g, cap, cur, rfl, hB, hg, hn, hm, hs, ht⟩
  · exact ⟨none, 0, rfl, by simp, fun h => absurd rfl h⟩
  · refine ⟨_, _, rfl, ⟨by unfold maxLen at hm; omega, fun e => by cases e⟩, fun _ => ⟨g, 0, rfl, lt_of_block hg, fun j x hx => ?_⟩⟩
    rw [Nat.zero_add]
    exact cells_at hg ht j _ (by simp [hx])
theorem OwnP.rd {w : World} {B : Nat} {v : Value} {l : List (Str × Str)} (h : OwnP w B v l) : RdP w v l := by
  rcases h.shape with ⟨rfl, rfl⟩ | ⟨g, cap, cur, rfl, hB, hg, hn, hm, hs, ht⟩
  · exact ⟨none, 0, rfl, by simp, fun h => absurd rfl h⟩
  · refine ⟨_, _, rfl, ⟨by unfold maxLen at hm; omega, fun e => by cases e⟩, fun _ => ⟨g, 0, rfl, lt_of_block hg, fun j i x hj hx => ?_⟩⟩
    exact pair_cells hg ht j hj i x (by rw [getElem!_pos l j hj]; exact hx)
theorem RdS.nil (w : World) : RdS w vnil [] := ⟨none, 0, rfl, by simp, fun h => absurd rfl h⟩
theorem RdP.nil (w : World) : RdP w vnil [] := ⟨none, 0, rfl, by simp, fun h => absurd rfl h⟩
theorem RdS.below {w w1 : World} {v : Value} {l : List Str} (h : RdS w v l) (hb : Below w.heap.size w w1) : RdS w1 v l := by
  obtain ⟨ao, cp, hv, hl, hr⟩ := h
  refine ⟨ao, cp, hv, hl, fun hne => ?_⟩
  obtain ⟨b, off, ha, hlt, hc⟩ := hr hne
  exact ⟨b, off, ha, Nat.lt_of_lt_of_le hlt hb.size, fun j x hx => (hb.cell (p := ⟨b, off + j, none⟩) hlt).trans (hc j x hx)⟩
theorem RdP.below {w w1 : World} {v : Value} {l : List (Str × Str)} (h : RdP w v l) (hb : Below w.heap.size w w1) : RdP w1 v l := by
  obtain ⟨ao, cp, hv, hl, hr⟩ := h
  refine ⟨ao, cp, hv, hl, fun hne => ?_⟩
  obtain ⟨b, off, ha, hlt, hc⟩ := hr hne
  exact ⟨b, off, ha, Nat.lt_of_lt_of_le hlt hb.size, fun j i x hj hx => (hb.cell (p := ⟨b, off + j * 2 + i, none⟩) hlt).trans (hc j i x hj hx)⟩

theorem ba_inj {a b : Str} (h : (⟨a.toArray⟩ : ByteArray) = ⟨b.toArray⟩) : a = b := by
  have := congrArg (fun b : ByteArray => b.data.toList) h
  simpa using this
theorem bas_inj {l m : List Str} : bas l = bas m ↔ l = m := by
  constructor
  · intro h
    induction l generalizing m with
    | nil => cases m with | nil => rfl | cons a r => simp [bas] at h
    | cons a r ih =>
      cases m with
      | nil => simp [bas] at h
      | cons b q =>
        simp only [bas, List.map_cons, List.cons.injEq] at h
        have h2 := ih (m := q) (by simpa [bas] using h.2)
        have h3 : a = b := ba_inj h.1
        rw [h2, h3]
  · intro h; rw [h]

theorem eqS_any (w : World) (v v' : Value) (l m : List Str) (h : RdS w v l) (h' : RdS w v' m) :
    Calls Tryz.prog 163 #[v, v'] w fun e w' => e = .returned (.bool (decide (l = m))) ∧ Below w.heap.size w w' := by
  obtain ⟨ao, cp, rfl, hl, hr⟩ := h
  obtain ⟨ao', cp', rfl, hl', hr'⟩ := h'
  have hlA := hl.1
  have hlB := hl'.1
  by_cases hlen : l.length = m.length
  · by_cases hn : l = []
    · subst hn
      have hm : m = [] := List.eq_nil_of_length_eq_zero hlen.symm
      subst hm
      exact (Tryz.slices_Equal_string_empty ao ao' cp 0 cp' w (by omega)).mono fun e w' hh => ⟨hh.1, hh.2 ▸ Below.refl _ _⟩
    · have hm : m ≠ [] := fun e => hn (List.eq_nil_of_length_eq_zero (by rw [hlen, e]; rfl))
      obtain ⟨b, off, rfl, hb, hc⟩ := hr hn
      obtain ⟨b', off', rfl, hb', hc'⟩ := hr' hm
      have lb : ∀ x : List Str, (bas x).length = x.length := fun x => by simp [bas]
      have hcall := Tryz.slices_Equal_string b off l.length cp b' off' m.length cp' (bas l) (bas m) w (by rw [lb]; exact Nat.le_refl _) (by rw [lb]; exact Nat.le_refl _) hlA hlB
        (fun j hj => by rw [lb] at hj; rw [bas_get l j hj]; exact hc j _ (List.getElem?_eq_getElem hj)) (fun j hj => by rw [lb] at hj; rw [bas_get m j hj]; exact hc' j _ (List.getElem?_eq_getElem hj))
      refine hcall.mono fun e w' hh => ⟨?_, ?_⟩
      · rw [hh.1, List.take_of_length_le (by rw [lb]; exact Nat.le_refl _), List.take_of_length_le (by rw [lb]; exact Nat.le_refl _)]
        exact ret_bool (decide_eq_decide.2 bas_inj)
      · obtain ⟨q, rfl⟩ := hh.2; exact below_drewN (Below.refl _ _) q
  · have hne : l ≠ m := fun e => hlen (by rw [e])
    exact (Tryz.slices_Equal_string_lens ao ao' l.length cp m.length cp' w hlen).mono fun e w' hh => ⟨by rw [hh.1]; exact ret_bool (decide_eq_false hne).symm, hh.2 ▸ Below.refl _ _⟩

theorem neqPair : NeqAt Tryz.prog 48 (fun x => .agg (enc2 x).toArray) (fun x y : Str × Str => decide (x = y)) := by
  refine ⟨fun x y w => ?_, GuardAt.agg _ (by kernel_rfl)⟩
  have u3 := Tryz.underlying9
  have a3 := Tryz.isAgg9
  have z3 := Tryz.sizeOf9
  have hS : Tryz.prog.underlying 48 = some (.struct (Tryz.prog.fieldsOf 48)) := by kernel_rfl
  have hp : Tryz.prog.stoodInHeld 48 = false := by kernel_rfl
  simp only [enc2, S]
  rw [run_neq_struct, show (10000 : Nat) = 9999 + 1 from rfl, run_equalIn_agg w 9999 48 _ _ hS hp]
  simp only [Program.fieldsOf, Tryz.underlying48]
  go_simp
  obtain ⟨x1, x2⟩ := x
  obtain ⟨y1, y2⟩ := y
  by_cases h1 : x1 = y1 <;> by_cases h2 : x2 = y2 <;> simp [h1, h2]

theorem allEq_pairs : ∀ l m : List (Str × Str), Lib.allEq (fun x y => decide (x = y)) l m = decide (l = m)
  | [], [] => rfl
  | [], b :: m => rfl
  | a :: l, [] => rfl
  | a :: l, b :: m => by
    have ih := allEq_pairs l m
    simp only [Lib.allEq] at ih ⊢
    rw [ih]
    by_cases h1 : a = b <;> by_cases h2 : l = m <;> simp [h1, h2]

theorem eqP_any (w : World) (v v' : Value) (l m : List (Str × Str)) (h : RdP w v l) (h' : RdP w v' m) :
    Calls Tryz.prog 92 #[v, v'] w fun e w' => e = .returned (.bool (decide (l = m))) ∧ Below w.heap.size w w' := by
  obtain ⟨ao, cp, rfl, hl, hr⟩ := h
  obtain ⟨ao', cp', rfl, hl', hr'⟩ := h'
  have hlA := hl.1
  have hlB := hl'.1
  by_cases hlen : l.length = m.length
  · by_cases hn : l = []
    · subst hn
      have hm : m = [] := List.eq_nil_of_length_eq_zero hlen.symm
      subst hm
      simp only [List.length_nil]
      go_enter Tryz.func92, Tryz.ntmps92
      go_wp2
      refine wp_loop_rounds 1 ?_
      rw [rounds_succ]
      go_wp2
      go_ret
      exact ⟨rfl, Below.refl _ _⟩
    · have hm : m ≠ [] := fun e => hn (List.eq_nil_of_length_eq_zero (by rw [hlen, e]; rfl))
      obtain ⟨b, off, rfl, hb, hc⟩ := hr hn
      obtain ⟨b', off', rfl, hb', hc'⟩ := hr' hm
      have hcall := AnyQ.slices_Equal Tryz.eqPair 2 Tryz.isAgg48 Tryz.sizeOf48 enc2 (fun _ => rfl) _ neqPair b off l.length cp b' off' m.length cp' l m w (Nat.le_refl _) (Nat.le_refl _) hlA hlB
        (fun j hj i v hv => hc j i v hj (by rw [getElem!_pos l j hj] at hv; exact hv)) (fun j hj i v hv => hc' j i v hj (by rw [getElem!_pos m j hj] at hv; exact hv))
      change Calls Tryz.prog 92 _ _ _ at hcall
      rw [List.take_length, List.take_length, allEq_pairs] at hcall
      exact hcall.mono fun e w' hh => ⟨hh.1, by obtain ⟨q, rfl⟩ := hh.2; exact below_drewN (Below.refl _ _) q⟩
  · have hne : l ≠ m := fun e => hlen (by rw [e])
    have hb : ((l.length : Int) != (m.length : Int)) = true := by rw [bne_iff_ne]; omega
    have HN := hid (decide_eq_false hne : decide (l = m) = false)
    clear hne hlen hr hr'
    go_enter Tryz.func92, Tryz.ntmps92
    go_wp2
    go_ret
    exact ⟨by rw [HN.out]; rfl, Below.refl _ _⟩

/-- a tag that can be read -/
def RdT (w : World) (v : Value) (t : Tg) : Prop := ∃ vv kv, v = .agg (tagCells t vv kv) ∧ RdS w vv t.vars ∧ RdP w kv t.keys
theorem RdT.below {w w1 : World} {v : Value} {t : Tg} (h : RdT w v t) (hb : Below w.heap.size w w1) : RdT w1 v t := by
  obtain ⟨vv, kv, hv, h1, h2⟩ := h
  exact ⟨vv, kv, hv, h1.below hb, h2.below hb⟩
theorem RdT.zero (w : World) : RdT w (.agg (tagCells Tg.zero vnil vnil)) Tg.zero := ⟨vnil, vnil, rfl, RdS.nil w, RdP.nil w⟩

theorem below2 (w : World) (A B : Obj) : Below w.heap.size w ((w.alloc A).alloc B) := ((Below.refl _ _).alloc (Nat.le_refl _) _).alloc (by simp) _

set_option maxHeartbeats 4000000 in
theorem same_any (w : World) (v v' : Value) (a b : Tg) (h : RdT w v a) (h' : RdT w v' b) :
    Calls Tryz.prog 117 #[v, v'] w fun e w' => e = .returned (.bool (sameB a b)) ∧ Below w.heap.size w w' := by
  obtain ⟨va, ka, rfl, h1, h2⟩ := h
  obtain ⟨vb, kb, rfl, h3, h4⟩ := h'
  have E1 := hid (fun W (hb : Below w.heap.size w W) => eqS_any W va vb a.vars b.vars (h1.below hb) (h3.below hb))
  have E2 := hid (fun W (hb : Below w.heap.size w W) => eqP_any W ka kb a.keys b.keys (h2.below hb) (h4.below hb))
  obtain ⟨_, _, rfl, _, _⟩ := h1
  obtain ⟨_, _, rfl, _, _⟩ := h2
  obtain ⟨_, _, rfl, _, _⟩ := h3
  obtain ⟨_, _, rfl, _, _⟩ := h4
  unfold sameB
  simp only [tagCells, S]
  generalize decide (a.vars = b.vars) = d1 at *
  generalize decide (a.keys = b.keys) = d2 at *
  go_enter Tryz.func117, Tryz.ntmps117
  go_wp2_with fail
  · refine (E1.out _ (below2 _ _ _)).mono ?_
    rintro e w2 ⟨rfl, hb⟩
    have d4 := (hb.cell (p := ⟨w.heap.size, 4, none⟩) (by simp; omega)).trans (cell_of_row _ _ _ _ _ _ (heap_alloc2_old _ _ _))
    have d5 := (hb.cell (p := ⟨w.heap.size + 1, 4, none⟩) (by simp)).trans (cell_of_row _ _ _ _ _ _ (heap_alloc2_new _ _ _))
    have d4' : w2.cell? ⟨w.heap.size, 4, none⟩ = some (.slice _ _ _) := d4
    have d5' : w2.cell? ⟨w.heap.size + 1, 4, none⟩ = some (.slice _ _ _) := d5
    have hb2 := hid (Below.then (below2 _ _ _) hb)
    clear d4 d5 hb E1
    cases d1
    · go_wp2_with fail
      go_ret
      exact ⟨ret_bool (by simp), hb2.out⟩
    · go_wp2_with fail
      refine (E2.out _ hb2.out).mono ?_
      rintro e w3 ⟨rfl, hb3⟩
      go_wp2_with fail
      go_ret
      exact ⟨ret_bool (by simp [*]), hb2.out.then hb3⟩
  all_goals go_ret
  all_goals exact ⟨ret_bool (by simp [*]), ((Below.refl _ _).alloc (Nat.le_refl _) _).alloc (by simp) _⟩
end Go.Proofs.YtjlfchnnhglbjaaGreat
