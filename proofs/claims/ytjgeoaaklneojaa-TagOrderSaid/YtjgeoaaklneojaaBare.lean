/- The contracts of slices.Clone at []string and of tag.Bare. -/
import Derived.Test.YtjgeoaaklneojaaName
import Derived.Test.YtjgeoaaklneojaaBoxes
set_option linter.unusedVariables false
set_option linter.unusedSimpArgs false
namespace Go.Proofs.Ytjgeoaaklneojaa
open Go.RowKit Go.Lib Go.Sort

theorem clone_any (w : World) (v : Value) (l : List Str) (h : RdS w v l) (hl : l.length ≤ 1000) :
    Calls Try.prog 35 #[v] w fun e w' => ∃ v', e = .returned v' ∧ OwnS w' w.heap.size v' l ∧ Below w.heap.size w w' := by
  obtain ⟨ao, cp, rfl, hl1, hr⟩ := h
  cases ao with
  | none =>
    obtain ⟨rfl, rfl⟩ := hl1.2 rfl
    exact (Try.slices_Clone_string_nil 0 0 w).mono fun e w' hh => ⟨_, hh.1, World.ownsRow_nil _ _ _ _, hh.2 ▸ Below.refl _ _⟩
  | some a =>
    by_cases hn : l = []
    · subst hn
      exact (Try.slices_Clone_string_zero a cp w).mono fun e w' ⟨v', h1, h2, _, h3⟩ => ⟨v', h1, h2, h3⟩
    · obtain ⟨b, off, he, hlt, hc⟩ := hr hn
      obtain rfl : a = ⟨b, off, none⟩ := Option.some.inj he
      have lb : (bas l).length = l.length := by simp [bas]
      refine (Try.slices_Clone_string b off l.length cp (bas l) w (by rw [lb]; exact Nat.le_refl _) (by omega) (fun j hj => ?_)).mono fun e w' ⟨v', h1, h2, _, h3⟩ => ⟨v', h1, ?_, h3⟩
      · rw [lb] at hj
        rw [bas_get l j hj]
        exact hc j _ (List.getElem?_eq_getElem hj)
      · refine own_cast h2 rfl ?_
        rw [List.take_of_length_le (by rw [lb]; exact Nat.le_refl _)]
        simp [bas, S]

/-- what tag.Bare hands back: a tag, and the error -/
def BareOut (w : World) (t : Tg) (e : Ending) (w' : World) : Prop :=
  ∃ v, e = .returned (.tuple #[v, .int .i64 (checkF t)]) ∧ RdT w' v (if checkF t = 0 then bareT t else Tg.zero) ∧ Below w.heap.size w w'

set_option maxRecDepth 100000 in
set_option maxHeartbeats 8000000 in
theorem bare_any (w : World) (v : Value) (t : Tg) (h : RdT w v t) (hv : t.vars.length ≤ 1000) (hk : t.keys.length ≤ 1000) (hj : (writeF t).length ≤ 140737488355328) :
    Calls Try.prog 9 #[v] w fun e w' => BareOut w t e w' := by
  have C1 := hid (fun W (hb : Below w.heap.size w W) => check_any W v t (h.below hb) hv hk hj)
  obtain ⟨vv, kv, rfl, hS, hP⟩ := h
  have W1 := hid (fun W (hb : Below w.heap.size w W) => clone_any W vv t.vars (hS.below hb) hv)
  obtain ⟨av, cv, rfl, _, _⟩ := hS
  obtain ⟨ak, ck, rfl, _, _⟩ := hP
  clear hj
  unfold BareOut
  generalize hq : checkF t = q at *
  simp only [tagCells, S, vnil] at W1 C1 ⊢
  have hb0 : Below w.heap.size w ((w.alloc (.cells #[.string ⟨t.lang.toArray⟩, .string ⟨t.script.toArray⟩, .string ⟨t.region.toArray⟩, .slice av t.vars.length cv, .slice ak t.keys.length ck] 28)).alloc (.cells #[.string ⟨#[]⟩, .string ⟨#[]⟩, .string ⟨#[]⟩, .slice none 0 0, .slice none 0 0] 28)) := below2 _ _ _
  have hx0 : ((w.alloc (.cells #[.string ⟨t.lang.toArray⟩, .string ⟨t.script.toArray⟩, .string ⟨t.region.toArray⟩, .slice av t.vars.length cv, .slice ak t.keys.length ck] 28)).alloc (.cells #[.string ⟨#[]⟩, .string ⟨#[]⟩, .string ⟨#[]⟩, .slice none 0 0, .slice none 0 0] 28)).heap[w.heap.size]? = some (.cells #[.string ⟨t.lang.toArray⟩, .string ⟨t.script.toArray⟩, .string ⟨t.region.toArray⟩, .slice av t.vars.length cv, .slice ak t.keys.length ck] 28 (0, 0)) := heap_alloc2_old _ _ _
  have hz0 : ((w.alloc (.cells #[.string ⟨t.lang.toArray⟩, .string ⟨t.script.toArray⟩, .string ⟨t.region.toArray⟩, .slice av t.vars.length cv, .slice ak t.keys.length ck] 28)).alloc (.cells #[.string ⟨#[]⟩, .string ⟨#[]⟩, .string ⟨#[]⟩, .slice none 0 0, .slice none 0 0] 28)).heap[w.heap.size + 1]? = some (.cells #[.string ⟨#[]⟩, .string ⟨#[]⟩, .string ⟨#[]⟩, .slice none 0 0, .slice none 0 0] 28 (0, 0)) := heap_alloc2_new _ _ _
  have HX0 := hid hx0
  have HZ0 := hid hz0
  have HB0 := hid hb0
  clear hx0 hb0 hz0
  go_enter Try.func9, Try.ntmps9
  go_wp2_with fail
  refine (C1.out _ HB0.out).mono ?_
  rintro e w1 ⟨rfl, hb1⟩
  have hw1 := HB0.out.then hb1
  have hx1 : w1.heap[w.heap.size]? = some (.cells #[.string ⟨t.lang.toArray⟩, .string ⟨t.script.toArray⟩, .string ⟨t.region.toArray⟩, .slice av t.vars.length cv, .slice ak t.keys.length ck] 28 (0, 0)) := by
    rw [hb1.block w.heap.size (by simp; omega)]; exact HX0.out
  have hz1 : w1.heap[w.heap.size + 1]? = some (.cells #[.string ⟨#[]⟩, .string ⟨#[]⟩, .string ⟨#[]⟩, .slice none 0 0, .slice none 0 0] 28 (0, 0)) := by
    rw [hb1.block (w.heap.size + 1) (by simp)]; exact HZ0.out
  obtain ⟨c0, c1, c2, c3, c4⟩ := box_cells hx1
  obtain ⟨d0, d1, d2, d3, d4⟩ := box_cells hz1
  have hsz := lt_of_block hx1
  have hsz1 := lt_of_block hz1
  have HW := hid hw1
  have HX1 := hid hx1
  have HZ1 := hid hz1
  clear hb1 hw1 hx1 hz1 HX0 HZ0 HB0 C1
  have fz0 := frozen_of_row w1 (w.heap.size + 1) 0 _ _ HZ1.out
  have fz1 := frozen_of_row w1 (w.heap.size + 1) 1 _ _ HZ1.out
  have fz2 := frozen_of_row w1 (w.heap.size + 1) 2 _ _ HZ1.out
  have fz3 := frozen_of_row w1 (w.heap.size + 1) 3 _ _ HZ1.out
  have fz4 := frozen_of_row w1 (w.heap.size + 1) 4 _ _ HZ1.out
  by_cases h0 : q = 0
  · subst h0
    have hfz := frozen_of_row w1 w.heap.size 4 _ _ HX1.out
    have hfz3 := frozen_of_row w1 w.heap.size 3 _ _ HX1.out
    go_wp2_with fail
    refine (W1.out _ HW.out).mono ?_
    rintro e w2 ⟨vn, rfl, on, hb2⟩
    have hw2 := HW.out.then hb2
    have hx2 : w2.heap[w.heap.size]? = some _ := (hb2.block w.heap.size hsz).trans HX1.out
    have hz2 : w2.heap[w.heap.size + 1]? = some _ := (hb2.block (w.heap.size + 1) hsz1).trans HZ1.out
    have hs2 := hb2.size
    obtain ⟨an, cn, rfl⟩ := own_sliceS on
    have hno : ∀ b, b < w1.heap.size → (Value.slice an t.vars.length cn).ownBlock ≠ some b := fun b hb e => by have := (World.ownsRow.lt on b e).1; omega
    clear c0 c1 c2 c3 c4 d0 d1 d2 d3 d4 fz0 fz1 fz2 fz3 fz4 hfz hfz3 hb2
    obtain ⟨c0, c1, c2, c3, c4⟩ := box_cells hx2
    obtain ⟨d0, d1, d2, d3, d4⟩ := box_cells hz2
    have hsx := lt_of_block hx2
    have hsz2 := lt_of_block hz2
    have hfz := frozen_of_row w2 w.heap.size 4 _ _ hx2
    have hfz3 := frozen_of_row w2 w.heap.size 3 _ _ hx2
    have fz0 := frozen_of_row w2 (w.heap.size + 1) 0 _ _ hz2
    have fz1 := frozen_of_row w2 (w.heap.size + 1) 1 _ _ hz2
    have fz2 := frozen_of_row w2 (w.heap.size + 1) 2 _ _ hz2
    have fz3 := frozen_of_row w2 (w.heap.size + 1) 3 _ _ hz2
    have fz4 := frozen_of_row w2 (w.heap.size + 1) 4 _ _ hz2
    have HX2 := hid hx2
    have HZ2 := hid hz2
    have ON := hid on
    have HW2 := hid hw2
    have HNO := hid hno
    clear hx2 hz2 on hw2 hno HX1 HZ1 HW
    go_wp2_with fail
    clear c0 c1 c2 c3 c4 d0 d1 d2 d3 d4 fz0 fz1 fz2 fz3 fz4 hfz hfz3
    have hz3 : ((w2.setCell ⟨w.heap.size, 3, none⟩ (.slice an t.vars.length cn)).setCell ⟨w.heap.size, 4, none⟩ (.slice none 0 0)).heap[w.heap.size + 1]? = some (.cells #[.string ⟨#[]⟩, .string ⟨#[]⟩, .string ⟨#[]⟩, .slice none 0 0, .slice none 0 0] 28 (0, 0)) := by
      rw [heap_setCell_other _ _ _ _ (by simp), heap_setCell_other _ _ _ _ (by simp)]; exact HZ2.out
    have on3 := own_set (own_set ON.out (HNO.out w.heap.size hsz) 3 (.slice an t.vars.length cn)) (HNO.out w.heap.size hsz) 4 (.slice none 0 0)
    have hw3 := (HW2.out.setCell (p := ⟨w.heap.size, 3, none⟩) (Nat.le_refl _) (.slice an t.vars.length cn)).setCell (p := ⟨w.heap.size, 4, none⟩) (Nat.le_refl _) (.slice none 0 0)
    generalize (w2.setCell ⟨w.heap.size, 3, none⟩ (.slice an t.vars.length cn)).setCell ⟨w.heap.size, 4, none⟩ (.slice none 0 0) = w3 at *
    have hr := P5_row (.string ⟨t.lang.toArray⟩) (.string ⟨t.script.toArray⟩) (.string ⟨t.region.toArray⟩) (.slice an t.vars.length cn) (.slice none 0 0) hz3
    have hw := P5_below (.string ⟨t.lang.toArray⟩) (.string ⟨t.script.toArray⟩) (.string ⟨t.region.toArray⟩) (.slice an t.vars.length cn) (.slice none 0 0) hw3 (Nat.le_succ w.heap.size)
    have on4 := P5_own (.string ⟨t.lang.toArray⟩) (.string ⟨t.script.toArray⟩) (.string ⟨t.region.toArray⟩) (.slice an t.vars.length cn) (.slice none 0 0) on3 (HNO.out _ hsz1)
    change bodyPost _ _ _ _ _ (P5 w3 (w.heap.size + 1) (.string ⟨t.lang.toArray⟩) (.string ⟨t.script.toArray⟩) (.string ⟨t.region.toArray⟩) (.slice an t.vars.length cn) (.slice none 0 0))
    generalize P5 w3 (w.heap.size + 1) (.string ⟨t.lang.toArray⟩) (.string ⟨t.script.toArray⟩) (.string ⟨t.region.toArray⟩) (.slice an t.vars.length cn) (.slice none 0 0) = W at *
    obtain ⟨d0, d1, d2, d3, d4⟩ := box_cells hr
    refine bodyPost_ret (v := .tuple #[.agg #[.string ⟨t.lang.toArray⟩, .string ⟨t.script.toArray⟩, .string ⟨t.region.toArray⟩, .slice an t.vars.length cn, .slice none 0 0], .int .i64 0]) (by simp [results, Try.results9, go_sem, d0, d1, d2, d3, d4]) rfl ⟨_, rfl, ?_, hw⟩
    exact ⟨.slice an t.vars.length cn, vnil, rfl, OwnS.rd on4, RdP.nil W⟩
  · have hb : (q != 0) = true := by rw [bne_iff_ne]; exact h0
    go_wp2_with fail
    have hr := P5_row (.string ⟨#[]⟩) (.string ⟨#[]⟩) (.string ⟨#[]⟩) (.slice none 0 0) (.slice none 0 0) HZ1.out
    have hw := P5_below (.string ⟨#[]⟩) (.string ⟨#[]⟩) (.string ⟨#[]⟩) (.slice none 0 0) (.slice none 0 0) HW.out (Nat.le_succ w.heap.size)
    clear c0 c1 c2 c3 c4 d0 d1 d2 d3 d4 fz0 fz1 fz2 fz3 fz4
    change bodyPost _ _ _ _ _ (P5 w1 (w.heap.size + 1) (.string ⟨#[]⟩) (.string ⟨#[]⟩) (.string ⟨#[]⟩) (.slice none 0 0) (.slice none 0 0))
    generalize P5 w1 (w.heap.size + 1) (.string ⟨#[]⟩) (.string ⟨#[]⟩) (.string ⟨#[]⟩) (.slice none 0 0) (.slice none 0 0) = W at *
    obtain ⟨d0, d1, d2, d3, d4⟩ := box_cells hr
    refine bodyPost_ret (v := .tuple #[.agg #[.string ⟨#[]⟩, .string ⟨#[]⟩, .string ⟨#[]⟩, .slice none 0 0, .slice none 0 0], .int .i64 q]) (by simp [results, Try.results9, go_sem, d0, d1, d2, d3, d4]) rfl ⟨_, rfl, ?_, hw⟩
    exact RdT.zero W
end Go.Proofs.Ytjgeoaaklneojaa
