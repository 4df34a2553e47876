/- The contracts of tag.Check, Print, Name, Named, Bare. -/
import Derived.Test.YtjlfchnnhglbjaaGreatWrite
set_option linter.unusedVariables false
set_option linter.unusedSimpArgs false
namespace Go.Proofs.YtjlfchnnhglbjaaGreat
open Go.RowKit Go.Lib Go.Sort


set_option maxRecDepth 100000 in
set_option maxHeartbeats 8000000 in
theorem check_any (w : World) (v : Value) (t : Tg) (h : RdT w v t) (hv : t.vars.length ≤ 1000) (hk : t.keys.length ≤ 1000) (hj : (writeF t).length ≤ 140737488355328) :
    Calls Tryz.prog 72 #[v] w fun e w' => e = .returned (.int .i64 (checkF t)) ∧ Below w.heap.size w w' := by
  have W1 := hid (fun W (hb : Below w.heap.size w W) => write_any W v t (h.below hb) hv hk hj)
  have HT := hid h
  have HJ := hid hj
  obtain ⟨vv, kv, rfl, hS, hP⟩ := h
  obtain ⟨av, cv, rfl, _, _⟩ := hS
  obtain ⟨ak, ck, rfl, _, _⟩ := hP
  unfold checkF
  obtain ⟨s, hs⟩ : ∃ x, x = writeF t := ⟨_, rfl⟩
  rw [← hs] at HJ ⊢
  rw [← hs] at W1
  obtain ⟨x, hx⟩ : ∃ k, k = parseF s := ⟨_, rfl⟩
  rw [← hx]
  simp only [tagCells, S] at W1 HT ⊢
  have HX := hid hx
  clear hs hx hj
  go_enter Tryz.func72, Tryz.ntmps72
  go_wp2_with fail
  have hb0 : Below w.heap.size w (w.alloc (.cells #[.string ⟨t.lang.toArray⟩, .string ⟨t.script.toArray⟩, .string ⟨t.region.toArray⟩, .slice av t.vars.length cv, .slice ak t.keys.length ck] 108)) := (Below.refl _ _).alloc (Nat.le_refl _) _
  refine (W1.out _ hb0).mono ?_
  rintro e w1 ⟨rfl, hb1⟩
  have hx1 : w1.heap[w.heap.size]? = some (.cells #[.string ⟨t.lang.toArray⟩, .string ⟨t.script.toArray⟩, .string ⟨t.region.toArray⟩, .slice av t.vars.length cv, .slice ak t.keys.length ck] 108 (0, 0)) := by
    rw [hb1.block w.heap.size (by simp)]; exact heap_alloc_new w _
  have hw1 := hb0.then hb1
  clear hb0 hb1
  go_wp2_with fail
  have hp := parse_any ⟨s.toArray⟩ w1 (by rw [Lib.size_eq]; have := HJ.out; unfold maxLen; simp; omega)
  rw [show (⟨s.toArray⟩ : ByteArray).data.toList = s from rfl, ← HX.out] at hp
  refine hp.mono ?_
  rintro e w2 ⟨vv2, kv2, rfl, o1, o2, hb2⟩
  obtain ⟨av2, cv2, rfl⟩ := own_sliceS o1
  obtain ⟨ak2, ck2, rfl⟩ := own_sliceP o2
  have hw2 := hw1.then hb2
  have hx2 : w2.heap[w.heap.size]? = some (.cells #[.string ⟨t.lang.toArray⟩, .string ⟨t.script.toArray⟩, .string ⟨t.region.toArray⟩, .slice av t.vars.length cv, .slice ak t.keys.length ck] 108 (0, 0)) := by
    rw [hb2.block w.heap.size (lt_of_block hx1)]; exact hx1
  have hsz2 := lt_of_block hx2
  have RB := hid (show RdT w2 (.agg (tagCells x.tag (.slice av2 x.tag.vars.length cv2) (.slice ak2 x.tag.keys.length ck2))) x.tag from ⟨_, _, rfl, o1.rd, o2.rd⟩)
  have HW := hid hw2
  have HX2 := hid hx2
  clear o1 o2 hb2 hx1 hw1 hp hx2 hw2 W1
  simp only [tagCells, S] at RB ⊢
  by_cases he : x.err = 0
  · have c0 : w2.cell? ⟨w.heap.size, 0, none⟩ = some _ := cell_of_row _ _ _ _ _ _ HX2.out
    have c1 : w2.cell? ⟨w.heap.size, 1, none⟩ = some _ := cell_of_row _ _ _ _ _ _ HX2.out
    have c2 : w2.cell? ⟨w.heap.size, 2, none⟩ = some _ := cell_of_row _ _ _ _ _ _ HX2.out
    have c3 : w2.cell? ⟨w.heap.size, 3, none⟩ = some (.slice av t.vars.length cv) := cell_of_row _ _ _ _ _ _ HX2.out
    have c4 : w2.cell? ⟨w.heap.size, 4, none⟩ = some (.slice ak t.keys.length ck) := cell_of_row _ _ _ _ _ _ HX2.out
    rw [he]
    have HE := hid he
    clear he
    have hb4 := below2 w2 (.cells #[.string ⟨x.tag.lang.toArray⟩, .string ⟨x.tag.script.toArray⟩, .string ⟨x.tag.region.toArray⟩, .slice av2 x.tag.vars.length cv2, .slice ak2 x.tag.keys.length ck2] 108) (.cells #[.int .i64 ((0 : Nat) : Int), .int .i64 (x.pos : Int)] 99)
    have hw4 := HW.out.then hb4
    have hs := same_any _ _ _ x.tag t (RB.out.below hb4) (HT.out.below hw4)
    have HS := hid hs
    have HW4 := hid hw4
    clear hb4 hs hw4
    generalize hq : sameB x.tag t = q at HS ⊢
    go_wp2_with fail
    refine HS.out.mono ?_
    rintro e w5 ⟨rfl, hb5⟩
    have hw5 := HW4.out.then hb5
    clear HS hb5
    cases q
    · go_wp2_with fail
      all_goals go_ret
      all_goals exact ⟨by simp, hw5⟩
    · go_wp2_with fail
      all_goals go_ret
      all_goals exact ⟨by simp [HE.out], hw5⟩
  · have he2 : (x.err != 0) = true := by rw [bne_iff_ne]; exact he
    have he3 : ((x.err : Int) != 0) = true := by rw [bne_iff_ne]; omega
    go_wp2_with fail
    go_ret
    exact ⟨rfl, HW.out.then (below2 _ _ _)⟩
end Go.Proofs.YtjlfchnnhglbjaaGreat
