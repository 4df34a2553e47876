/- The contracts of tag.Name. -/
import Derived.Test.YtjlfchnnhglbjaaGreatBoxC
set_option linter.unusedVariables false
set_option linter.unusedSimpArgs false
namespace Go.Proofs.YtjlfchnnhglbjaaGreat
open Go.RowKit Go.Lib Go.Sort


set_option maxRecDepth 100000 in
set_option maxHeartbeats 8000000 in
theorem name_any (w : World) (v : Value) (t : Tg) (h : RdT w v t) (hv : t.vars.length ≤ 1000) (hk : t.keys.length ≤ 1000) (hj : (writeF t).length ≤ 140737488355328) (hj2 : (writeF { t with keys := [] }).length ≤ 140737488355328) :
    Calls Tryz.prog 52 #[v] w fun e w' => e = .returned (strErr (nameF t)) ∧ Below w.heap.size w w' := by
  have C1 := hid (fun W (hb : Below w.heap.size w W) => check_any W v t (h.below hb) hv hk hj)
  obtain ⟨vv, kv, rfl, hS, hP⟩ := h
  have W1 := hid (fun W (hb : Below w.heap.size w W) => write_any W (.agg (tagCells { t with keys := [] } vv vnil)) { t with keys := [] } ⟨vv, vnil, rfl, hS.below hb, RdP.nil W⟩ hv (Nat.zero_le _) hj2)
  obtain ⟨av, cv, rfl, _, _⟩ := hS
  obtain ⟨ak, ck, rfl, _, _⟩ := hP
  clear hj hj2
  unfold nameF strErr nameOf
  generalize hq : checkF t = q at *
  generalize hs : writeF { t with keys := [] } = s at *
  simp only [tagCells, S, vnil] at W1 C1 ⊢
  have hb0 : Below w.heap.size w (w.alloc (.cells #[.string ⟨t.lang.toArray⟩, .string ⟨t.script.toArray⟩, .string ⟨t.region.toArray⟩, .slice av t.vars.length cv, .slice ak t.keys.length ck] 108)) := (Below.refl _ _).alloc (Nat.le_refl _) _
  have hx0 : (w.alloc (.cells #[.string ⟨t.lang.toArray⟩, .string ⟨t.script.toArray⟩, .string ⟨t.region.toArray⟩, .slice av t.vars.length cv, .slice ak t.keys.length ck] 108)).heap[w.heap.size]? = some (.cells #[.string ⟨t.lang.toArray⟩, .string ⟨t.script.toArray⟩, .string ⟨t.region.toArray⟩, .slice av t.vars.length cv, .slice ak t.keys.length ck] 108 (0, 0)) := heap_alloc_new w _
  have HX0 := hid hx0
  have HB0 := hid hb0
  clear hx0 hb0
  go_enter Tryz.func52, Tryz.ntmps52
  go_wp2_with fail
  refine (C1.out _ HB0.out).mono ?_
  rintro e w1 ⟨rfl, hb1⟩
  have hw1 := HB0.out.then hb1
  have hx1 : w1.heap[w.heap.size]? = some (.cells #[.string ⟨t.lang.toArray⟩, .string ⟨t.script.toArray⟩, .string ⟨t.region.toArray⟩, .slice av t.vars.length cv, .slice ak t.keys.length ck] 108 (0, 0)) := by
    rw [hb1.block w.heap.size (by simp)]; exact HX0.out
  obtain ⟨c0, c1, c2, c3, c4⟩ := box_cells hx1
  have hsz := lt_of_block hx1
  have HW := hid hw1
  have HX1 := hid hx1
  clear hb1 hw1 hx1 HX0 HB0 C1
  by_cases h0 : q = 0
  · subst h0
    have hfz := frozen_of_row w1 w.heap.size 4 _ _ HX1.out
    go_wp2_with fail
    have hw2 := HW.out.setCell (p := ⟨w.heap.size, 4, none⟩) (Nat.le_refl _) (.slice none 0 0)
    refine (W1.out _ hw2).mono ?_
    rintro e w2 ⟨rfl, hb2⟩
    have hw3 := hw2.then hb2
    clear hb2 hw2 W1 c0 c1 c2 c3 c4
    by_cases hu : s = [117, 110, 100]
    · have hub : (s != [117, 110, 100]) = false := by rw [hu]; rfl
      have hub2 : (s == [117, 110, 100]) = true := by rw [hu]; rfl
      have hu2 : s = tUnd := hu
      clear hu
      go_wp2_with fail
      exact bodyPost_ret (v := .tuple #[.string ⟨tRoot.toArray⟩, .int .i64 0]) (by simp [results, Tryz.results52, go_sem, tRoot]) rfl ⟨by simp [hu2], hw3⟩
    · have hub : (s != [117, 110, 100]) = true := by rw [bne_iff_ne]; exact hu
      have hub2 : (s == [117, 110, 100]) = false := by rw [beq_eq_false_iff_ne]; exact hu
      have hu2 : ¬ s = tUnd := hu
      clear hu
      go_wp2_with fail
      exact bodyPost_ret (v := .tuple #[.string ⟨s.toArray⟩, .int .i64 0]) (by simp [results, Tryz.results52, go_sem]) rfl ⟨by simp [hu2], hw3⟩
  · have hb : (q != 0) = true := by rw [bne_iff_ne]; exact h0
    go_wp2_with fail
    exact bodyPost_ret (v := .tuple #[.string ⟨#[]⟩, .int .i64 q]) (by simp [results, Tryz.results52, go_sem]) rfl ⟨by simp [h0], HW.out⟩
end Go.Proofs.YtjlfchnnhglbjaaGreat
