/- The contracts of likely's small functions: of, full, key, read. -/
import Derived.Test.YtlmgmifaknlolaaGreatPrint
import Derived.Test.YtlmgmifaknlolaaGreatBoxes
import Derived.Test.YtlmgmifaknlolaaGreatLkMem
import Derived.Deep.RegionHeld3
set_option linter.unusedVariables false
set_option linter.unusedSimpArgs false
namespace Go.Proofs.YtlmgmifaknlolaaGreat
open Go.RowKit Go.Lib Go.Sort

/-- three cells stored one by one -/
def P3 (w : World) (b : Nat) (a0 a1 a2 : Value) : World := ((w.setCell ⟨b, 0, none⟩ a0).setCell ⟨b, 1, none⟩ a1).setCell ⟨b, 2, none⟩ a2
theorem P3_row {w : World} {b : Nat} {z0 z1 z2 : Value} (a0 a1 a2 : Value) (h : w.heap[b]? = some (.cells #[z0, z1, z2] 57 (0, 0))) : (P3 w b a0 a1 a2).heap[b]? = some (.cells #[a0, a1, a2] 57 (0, 0)) := by
  unfold P3
  rw [heap_setCell_same _ _ _ _ _ _ (heap_setCell_same _ _ _ _ _ _ (heap_setCell_same _ _ _ _ _ _ h))]
  simp
theorem P3_other {w : World} {b c : Nat} (a0 a1 a2 : Value) (h : c ≠ b) : (P3 w b a0 a1 a2).heap[c]? = w.heap[c]? := by
  unfold P3
  rw [heap_setCell_other _ _ _ _ h, heap_setCell_other _ _ _ _ h, heap_setCell_other _ _ _ _ h]
theorem P3_below {B b : Nat} {w0 w : World} (a0 a1 a2 : Value) (h : Below B w0 w) (hb : B ≤ b) : Below B w0 (P3 w b a0 a1 a2) :=
  ((h.setCell (by simpa using hb) _).setCell (by simpa using hb) _).setCell (by simpa using hb) _
theorem box3_cells {W : World} {b : Nat} {a0 a1 a2 : Value} (h : W.heap[b]? = some (.cells #[a0, a1, a2] 57 (0, 0))) :
    W.cell? ⟨b, 0, none⟩ = some a0 ∧ W.cell? ⟨b, 1, none⟩ = some a1 ∧ W.cell? ⟨b, 2, none⟩ = some a2 :=
  ⟨cell_of_row _ _ _ _ _ _ h, cell_of_row _ _ _ _ _ _ h, cell_of_row _ _ _ _ _ _ h⟩

set_option maxRecDepth 100000 in
set_option maxHeartbeats 8000000 in
theorem of_any (w : World) (v : Value) (t : Tg) (h : RdT w v t) :
    Calls Tryz.prog 31 #[v] w fun e w' => e = .returned (ptV (ptOf t)) ∧ Below w.heap.size w w' := by
  obtain ⟨vv, kv, rfl, hS, hP⟩ := h
  obtain ⟨av, cv, rfl, _, _⟩ := hS
  obtain ⟨ak, ck, rfl, _, _⟩ := hP
  simp only [tagCells, S]
  have HB0 := hid (below2 w (.cells #[.string ⟨t.lang.toArray⟩, .string ⟨t.script.toArray⟩, .string ⟨t.region.toArray⟩, .slice av t.vars.length cv, .slice ak t.keys.length ck] 25) (.cells #[.string ⟨#[]⟩, .string ⟨#[]⟩, .string ⟨#[]⟩] 57))
  have HX0 := hid (heap_alloc2_old w (.cells #[.string ⟨t.lang.toArray⟩, .string ⟨t.script.toArray⟩, .string ⟨t.region.toArray⟩, .slice av t.vars.length cv, .slice ak t.keys.length ck] 25) (.cells #[.string ⟨#[]⟩, .string ⟨#[]⟩, .string ⟨#[]⟩] 57))
  have HZ0 := hid (heap_alloc2_new w (.cells #[.string ⟨t.lang.toArray⟩, .string ⟨t.script.toArray⟩, .string ⟨t.region.toArray⟩, .slice av t.vars.length cv, .slice ak t.keys.length ck] 25) (.cells #[.string ⟨#[]⟩, .string ⟨#[]⟩, .string ⟨#[]⟩] 57))
  go_enter Tryz.func31, Tryz.ntmps31
  go_upto_region 1 with (fail)
  generalize (w.alloc (.cells #[.string ⟨t.lang.toArray⟩, .string ⟨t.script.toArray⟩, .string ⟨t.region.toArray⟩, .slice av t.vars.length cv, .slice ak t.keys.length ck] 25)).alloc (.cells #[.string ⟨#[]⟩, .string ⟨#[]⟩, .string ⟨#[]⟩] 57) = w0 at *
  obtain ⟨c0, c1, c2, c3, c4⟩ := box_cells HX0.out
  obtain ⟨d0, d1, d2⟩ := box3_cells HZ0.out
  have hsz := lt_of_block HX0.out
  have hsz1 := lt_of_block HZ0.out
  have fz0 := frozen_of_row w0 (w.heap.size + 1) 0 _ _ HZ0.out
  have fz1 := frozen_of_row w0 (w.heap.size + 1) 1 _ _ HZ0.out
  have fz2 := frozen_of_row w0 (w.heap.size + 1) 2 _ _ HZ0.out
  go_wp2_with fail
  have hr := P3_row (.string ⟨t.lang.toArray⟩) (.string ⟨t.script.toArray⟩) (.string ⟨t.region.toArray⟩) HZ0.out
  have hw := P3_below (.string ⟨t.lang.toArray⟩) (.string ⟨t.script.toArray⟩) (.string ⟨t.region.toArray⟩) HB0.out (Nat.le_succ w.heap.size)
  clear c0 c1 c2 c3 c4 d0 d1 d2 fz0 fz1 fz2
  change bodyPost _ _ _ _ _ (P3 w0 (w.heap.size + 1) (.string ⟨t.lang.toArray⟩) (.string ⟨t.script.toArray⟩) (.string ⟨t.region.toArray⟩))
  generalize P3 w0 (w.heap.size + 1) (.string ⟨t.lang.toArray⟩) (.string ⟨t.script.toArray⟩) (.string ⟨t.region.toArray⟩) = W at *
  obtain ⟨d0, d1, d2⟩ := box3_cells hr
  exact bodyPost_ret (v := ptV (ptOf t)) (by simp [results, Tryz.results31, go_sem, d0, d1, d2, ptV, ptOf, S]) rfl ⟨rfl, hw⟩

set_option maxRecDepth 100000 in
set_option maxHeartbeats 8000000 in
theorem full_any (w : World) (p : Pt) :
    Calls Tryz.prog 34 #[ptV p] w fun e w' => e = .returned (.bool (decide p.full)) ∧ Below w.heap.size w w' := by
  obtain ⟨a, b, c⟩ := p
  have HB0 := hid (show Below w.heap.size w (w.alloc (.cells #[.string ⟨a.toArray⟩, .string ⟨b.toArray⟩, .string ⟨c.toArray⟩] 57)) from (Below.refl _ _).alloc (Nat.le_refl _) _)
  have HX0 := hid (heap_alloc_new w (.cells #[.string ⟨a.toArray⟩, .string ⟨b.toArray⟩, .string ⟨c.toArray⟩] 57))
  have HF := hid (show (decide (Pt.full ⟨a, b, c⟩)) = (!List.isEmpty a && !List.isEmpty b && !List.isEmpty c) by
    unfold Pt.full
    cases a <;> cases b <;> cases c <;> simp)
  simp only [ptV, S]
  go_enter Tryz.func34, Tryz.ntmps34
  go_upto_region 1 with (fail)
  generalize w.alloc (.cells #[.string ⟨a.toArray⟩, .string ⟨b.toArray⟩, .string ⟨c.toArray⟩] 57) = w0 at *
  obtain ⟨c0, c1, c2⟩ := box3_cells HX0.out
  have hsz := lt_of_block HX0.out
  go_wp2_with fail
  all_goals go_ret
  all_goals exact ⟨by rw [HF.out]; simp_all, HB0.out⟩

set_option maxRecDepth 100000 in
set_option maxHeartbeats 8000000 in
theorem key_any (w : World) (p : Pt) (hj : (writeF p.tag).length ≤ 140737488355328) :
    Calls Tryz.prog 38 #[ptV p] w fun e w' => e = .returned (.string ⟨(ptKey p).toArray⟩) ∧ Below w.heap.size w w' := by
  have PR := hid (fun W => print_any W (.agg (tagCells p.tag vnil vnil)) p.tag ⟨_, _, rfl, RdS.nil W, RdP.nil W⟩ (by simp [Pt.tag]) (by simp [Pt.tag]) hj)
  simp only [strErr] at PR
  unfold ptKey
  generalize printF p.tag = q at *
  obtain ⟨k, er⟩ := q
  obtain ⟨a, b, c⟩ := p
  clear hj
  simp only [Pt.tag, tagCells, S, vnil] at PR
  have HB0 := hid (show Below w.heap.size w (w.alloc (.cells #[.string ⟨a.toArray⟩, .string ⟨b.toArray⟩, .string ⟨c.toArray⟩] 57)) from (Below.refl _ _).alloc (Nat.le_refl _) _)
  have HX0 := hid (heap_alloc_new w (.cells #[.string ⟨a.toArray⟩, .string ⟨b.toArray⟩, .string ⟨c.toArray⟩] 57))
  simp only [ptV, S]
  go_enter Tryz.func38, Tryz.ntmps38
  go_upto_region 1 with (fail)
  generalize w.alloc (.cells #[.string ⟨a.toArray⟩, .string ⟨b.toArray⟩, .string ⟨c.toArray⟩] 57) = w0 at *
  obtain ⟨c0, c1, c2⟩ := box3_cells HX0.out
  have hsz := lt_of_block HX0.out
  go_wp2_with fail
  refine (PR.out _).mono ?_
  rintro e w1 ⟨rfl, hb1⟩
  have HB1 := hid (HB0.out.then hb1)
  clear hb1 c0 c1 c2
  go_wp2_with fail
  go_ret
  exact ⟨rfl, HB1.out⟩

end Go.Proofs.YtlmgmifaknlolaaGreat
