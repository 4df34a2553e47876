/- The walk of the law TagParses. -/
import Derived.Test.YtjgeoaaklneojaaGreatWakes
import Derived.Test.YtjgeoaaklneojaaGreatRefParse
import Derived.Test.YtjgeoaaklneojaaGreatRefEq
import Derived.Test.YtjgeoaaklneojaaGreatRefSame
set_option linter.unusedVariables false
set_option linter.unusedSimpArgs false
namespace Go.Proofs.YtjgeoaaklneojaaGreat
open Go.RowKit Go.Lib Go.Sort

set_option maxRecDepth 100000 in
set_option maxHeartbeats 8000000 in
theorem parses_any (s : ByteArray) (w : World) (hs : s.size ≤ maxLen) :
    Calls Tryz.prog 3 #[.string s] w fun e w' => e = .returned (.bool true) ∧ Below w.heap.size w w' := by
  have PA := hid (fun W => parse_any s W hs)
  have RP := hid (fun W => rparse_any s W hs)
  rw [ref_eq] at RP
  generalize hx : parseF s.data.toList = x at *
  clear hx
  go_enter Tryz.func3, Tryz.ntmps3
  go_wp2_with fail
  refine (wakes_any _).mono ?_
  rintro e w1 ⟨rfl, hb1⟩
  go_wp2_with fail
  refine (PA.out _).mono ?_
  rintro e w2 ⟨vv, kv, rfl, o1, o2, hb2⟩
  obtain ⟨av, cv, rfl⟩ := own_sliceS o1
  obtain ⟨ak, ck, rfl⟩ := own_sliceP o2
  have HR := hid (show RdT w2 (.agg (tagCells x.tag (.slice av x.tag.vars.length cv) (.slice ak x.tag.keys.length ck))) x.tag from ⟨_, _, rfl, o1.rd, o2.rd⟩)
  simp only [tagCells, S] at HR ⊢
  have HW := hid (hb1.then hb2)
  clear o1 o2 PA hb1 hb2
  have hb3 := below2 w2 (.cells #[.string ⟨x.tag.lang.toArray⟩, .string ⟨x.tag.script.toArray⟩, .string ⟨x.tag.region.toArray⟩, .slice av x.tag.vars.length cv, .slice ak x.tag.keys.length ck] 26) (.cells #[.int .i64 (x.err : Int), .int .i64 (x.pos : Int)] 29)
  have HB3 := hid hb3
  have HT3 := hid (heap_alloc2_old w2 (.cells #[.string ⟨x.tag.lang.toArray⟩, .string ⟨x.tag.script.toArray⟩, .string ⟨x.tag.region.toArray⟩, .slice av x.tag.vars.length cv, .slice ak x.tag.keys.length ck] 26) (.cells #[.int .i64 (x.err : Int), .int .i64 (x.pos : Int)] 29))
  have HS3 := hid (heap_alloc2_new w2 (.cells #[.string ⟨x.tag.lang.toArray⟩, .string ⟨x.tag.script.toArray⟩, .string ⟨x.tag.region.toArray⟩, .slice av x.tag.vars.length cv, .slice ak x.tag.keys.length ck] 26) (.cells #[.int .i64 (x.err : Int), .int .i64 (x.pos : Int)] 29))
  clear hb3
  go_wp2_with fail
  refine (RP.out _).mono ?_
  rintro e w4 ⟨vv4, kv4, rfl, r1, r2, hb4⟩
  have HA4 := hid (show RdT w4 (.agg (tagCells x.tag vv4 kv4)) x.tag from ⟨_, _, rfl, r1, r2⟩)
  obtain ⟨av4, cv4, rfl, _, _⟩ := r1
  obtain ⟨ak4, ck4, rfl, _, _⟩ := r2
  simp only [tagCells, S] at HA4 ⊢
  have HT4 := hid ((hb4.block _ (lt_of_block HT3.out)).trans HT3.out)
  have HS4 := hid ((hb4.block _ (lt_of_block HS3.out)).trans HS3.out)
  have HB4 := hid (HB3.out.then hb4)
  clear hb4 HT3 HS3 HB3
  have hb5 := below2 w4 (.cells #[.string ⟨x.tag.lang.toArray⟩, .string ⟨x.tag.script.toArray⟩, .string ⟨x.tag.region.toArray⟩, .slice av4 x.tag.vars.length cv4, .slice ak4 x.tag.keys.length ck4] 26) (.cells #[.int .i64 (x.err : Int), .int .i64 (x.pos : Int)] 29)
  have SM := hid (rsame_any _ _ _ x.tag x.tag (HR.out.below (HB4.out.then hb5)) (HA4.out.below hb5))
  rw [sameB_refl] at SM
  have HB5 := hid (HB4.out.then hb5)
  have hltT := lt_of_block HT4.out
  have hltS := lt_of_block HS4.out
  obtain ⟨c0, c1, c2, c3, c4⟩ := box_cells HT4.out
  have n0 : w4.cell? ⟨w2.heap.size + 1, 0, none⟩ = some (.int .i64 (x.err : Int)) := by rw [cell_of_row _ _ _ _ _ _ HS4.out]; rfl
  have n1 : w4.cell? ⟨w2.heap.size + 1, 1, none⟩ = some (.int .i64 (x.pos : Int)) := by rw [cell_of_row _ _ _ _ _ _ HS4.out]; rfl
  clear hb5
  go_wp2_with fail
  refine SM.out.mono ?_
  rintro e w6 ⟨rfl, hb6⟩
  go_wp2_with fail
  go_ret
  exact ⟨rfl, HW.out.then (HB5.out.then hb6)⟩
end Go.Proofs.YtjgeoaaklneojaaGreat
