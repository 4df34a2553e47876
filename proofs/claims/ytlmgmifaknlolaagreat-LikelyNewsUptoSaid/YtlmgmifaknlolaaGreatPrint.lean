/- The contracts of tag.Print and tag.Name. -/
import Derived.Test.YtlmgmifaknlolaaGreatBoxC
set_option linter.unusedVariables false
set_option linter.unusedSimpArgs false
namespace Go.Proofs.YtlmgmifaknlolaaGreat
open Go.RowKit Go.Lib Go.Sort

set_option maxRecDepth 100000 in
set_option maxHeartbeats 8000000 in
theorem print_any (w : World) (v : Value) (t : Tg) (h : RdT w v t) (hv : t.vars.length ≤ 1000) (hk : t.keys.length ≤ 1000) (hj : (writeF t).length ≤ 140737488355328) :
    Calls Tryz.prog 63 #[v] w fun e w' => e = .returned (strErr (printF t)) ∧ Below w.heap.size w w' := by
  have W1 := hid (fun W (hb : Below w.heap.size w W) => write_any W v t (h.below hb) hv hk hj)
  have C1 := hid (fun W (hb : Below w.heap.size w W) => check_any W v t (h.below hb) hv hk hj)
  obtain ⟨vv, kv, rfl, hS, hP⟩ := h
  obtain ⟨av, cv, rfl, _, _⟩ := hS
  obtain ⟨ak, ck, rfl, _, _⟩ := hP
  clear hj
  unfold printF strErr
  generalize hq : checkF t = q at *
  generalize hs : writeF t = s at *
  simp only [tagCells, S] at W1 C1 ⊢
  have hb0 : Below w.heap.size w (w.alloc (.cells #[.string ⟨t.lang.toArray⟩, .string ⟨t.script.toArray⟩, .string ⟨t.region.toArray⟩, .slice av t.vars.length cv, .slice ak t.keys.length ck] 25)) := (Below.refl _ _).alloc (Nat.le_refl _) _
  have hx0 : (w.alloc (.cells #[.string ⟨t.lang.toArray⟩, .string ⟨t.script.toArray⟩, .string ⟨t.region.toArray⟩, .slice av t.vars.length cv, .slice ak t.keys.length ck] 25)).heap[w.heap.size]? = some (.cells #[.string ⟨t.lang.toArray⟩, .string ⟨t.script.toArray⟩, .string ⟨t.region.toArray⟩, .slice av t.vars.length cv, .slice ak t.keys.length ck] 25 (0, 0)) := heap_alloc_new w _
  have HX0 := hid hx0
  have HB0 := hid hb0
  clear hx0 hb0
  go_enter Tryz.func63, Tryz.ntmps63
  go_wp2_with fail
  refine (C1.out _ HB0.out).mono ?_
  rintro e w1 ⟨rfl, hb1⟩
  have hw1 := HB0.out.then hb1
  have hx1 : w1.heap[w.heap.size]? = some (.cells #[.string ⟨t.lang.toArray⟩, .string ⟨t.script.toArray⟩, .string ⟨t.region.toArray⟩, .slice av t.vars.length cv, .slice ak t.keys.length ck] 25 (0, 0)) := by
    rw [hb1.block w.heap.size (by simp)]; exact HX0.out
  obtain ⟨c0, c1, c2, c3, c4⟩ := box_cells hx1
  have hsz := lt_of_block hx1
  have HW := hid hw1
  clear hb1 hw1 hx1 HX0 HB0 C1
  by_cases h0 : q = 0
  · subst h0
    go_wp2_with fail
    refine (W1.out _ HW.out).mono ?_
    rintro e w2 ⟨rfl, hb2⟩
    have hw2 := HW.out.then hb2
    clear hb2 W1 c0 c1 c2 c3 c4
    go_wp2_with fail
    exact bodyPost_ret (v := .tuple #[.string ⟨s.toArray⟩, .int .i64 0]) (by simp [results, Tryz.results63, go_sem]) rfl ⟨by simp, hw2⟩
  · have hb : (q != 0) = true := by rw [bne_iff_ne]; exact h0
    go_wp2_with fail
    exact bodyPost_ret (v := .tuple #[.string ⟨#[]⟩, .int .i64 q]) (by simp [results, Tryz.results63, go_sem]) rfl ⟨by simp [h0], HW.out⟩
end Go.Proofs.YtlmgmifaknlolaaGreat
