/- The contract of the law's wakes. -/
import Derived.Test.YtjgeoaaklneojaaGreatName
set_option linter.unusedVariables false
set_option linter.unusedSimpArgs false
namespace Go.Proofs.YtjgeoaaklneojaaGreat
open Go.RowKit Go.Lib Go.Sort

def wkText : Str := [97, 114, 95, 108, 97, 116, 110, 45, 117, 45, 110, 117, 45, 97, 114, 97, 98, 45, 99, 97]
def wkTag : Tg := ⟨[97, 114], [76, 97, 116, 110], [], [], [([99, 97], []), ([110, 117], [97, 114, 97, 98])]⟩
def wkOut : Str := [97, 114, 45, 76, 97, 116, 110, 45, 117, 45, 99, 97, 45, 110, 117, 45, 97, 114, 97, 98]
theorem wk_s1 : srtK [([110, 117], [97, 114, 97, 98]), ([99, 97], [])] = [([99, 97], []), ([110, 117], [97, 114, 97, 98])] := by
  have h : leK ([110, 117], [97, 114, 97, 98]) ([99, 97], []) = false := by decide +kernel
  unfold srtK
  simp [List.mergeSort, List.merge, h]
theorem wk_s2 : srtK [([99, 97], []), ([110, 117], [97, 114, 97, 98])] = [([99, 97], []), ([110, 117], [97, 114, 97, 98])] := by
  have h : leK ([99, 97], []) ([110, 117], [97, 114, 97, 98]) = true := by decide +kernel
  unfold srtK
  simp [List.mergeSort, List.merge, h]
theorem wk_p1 : parseF wkText = ⟨⟨[97, 114], [76, 97, 116, 110], [], srtS [], srtK [([110, 117], [97, 114, 97, 98]), ([99, 97], [])]⟩, 0, 0⟩ := by kernel_rfl
theorem wk_p2 : parseF wkOut = ⟨⟨[97, 114], [76, 97, 116, 110], [], srtS [], srtK [([99, 97], []), ([110, 117], [97, 114, 97, 98])]⟩, 0, 0⟩ := by kernel_rfl
theorem wk_parse : parseF wkText = ⟨wkTag, 0, 0⟩ := by rw [wk_p1, wk_s1, show srtS [] = [] from by simp [srtS]]; rfl
theorem wk_write : writeF wkTag = wkOut := by decide +kernel
theorem wk_back : parseF wkOut = ⟨wkTag, 0, 0⟩ := by rw [wk_p2, wk_s2, show srtS [] = [] from by simp [srtS]]; rfl
theorem wk_print : printF wkTag = (wkOut, 0) := by
  have hc : checkF wkTag = 0 := by
    unfold checkF
    rw [wk_write, wk_back]
    decide +kernel
  unfold printF
  rw [if_pos hc, wk_write]

set_option maxRecDepth 100000 in
set_option maxHeartbeats 8000000 in
theorem wakes_any (w : World) : Calls Tryz.prog 5 #[] w fun e w' => e = .returned (.bool true) ∧ Below w.heap.size w w' := by
  go_enter Tryz.func5, Tryz.ntmps5
  go_wp2_with fail
  have hp := parse_any ⟨wkText.toArray⟩ w (by decide +kernel)
  rw [show (⟨wkText.toArray⟩ : ByteArray).data.toList = wkText from rfl, wk_parse] at hp
  refine hp.mono ?_
  rintro e w1 ⟨vv, kv, rfl, o1, o2, hb1⟩
  have rt : RdT w1 (.agg (tagCells wkTag vv kv)) wkTag := ⟨vv, kv, rfl, o1.rd, o2.rd⟩
  obtain ⟨av, cv, rfl⟩ := own_sliceS o1
  obtain ⟨ak, ck, rfl⟩ := own_sliceP o2
  clear hp o1 o2
  have P1 := hid (fun W (hb : Below w1.heap.size w1 W) => print_any W _ wkTag (rt.below hb) (by decide) (by decide) (by rw [wk_write]; decide))
  rw [wk_print] at P1
  have HB := hid hb1
  clear rt hb1
  simp only [tagCells, S, wkTag, strErr, wkOut] at P1 ⊢
  go_wp2_with fail
  refine (P1.out _ (below2 _ _ _)).mono ?_
  rintro e w2 ⟨rfl, hb2⟩
  have hr : w2.heap[w1.heap.size + 1]? = some (.cells #[.int .i64 0, .int .i64 0] 29 (0, 0)) := (hb2.block _ (by simp)).trans (heap_alloc2_new _ _ _)
  have c0 : w2.cell? ⟨w1.heap.size + 1, 0, none⟩ = some (.int .i64 0) := cell_of_row _ _ _ _ _ _ hr
  have c1 : w2.cell? ⟨w1.heap.size + 1, 1, none⟩ = some (.int .i64 0) := cell_of_row _ _ _ _ _ _ hr
  have hw2 := hid (HB.out.then ((below2 w1 (.cells #[.string ⟨#[97, 114]⟩, .string ⟨#[76, 97, 116, 110]⟩, .string ⟨#[]⟩, .slice av 0 cv, .slice ak 2 ck] 26) (.cells #[.int .i64 0, .int .i64 0] 29)).then hb2))
  have hsz := lt_of_block hr
  clear hr hb2 P1 HB
  go_wp2_with fail
  go_ret
  exact ⟨rfl, hw2.out⟩
end Go.Proofs.YtjgeoaaklneojaaGreat
