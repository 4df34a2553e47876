/- The contract of the law's same, and the walk of the law LikelyNone. -/
import Derived.Test.YtlmgmifaknlolaaGreatLkWakes
import Derived.Test.YtlmgmifaknlolaaGreatRefSame
set_option linter.unusedVariables false
set_option linter.unusedSimpArgs false
namespace Go.Proofs.YtlmgmifaknlolaaGreat
open Go.RowKit Go.Lib Go.Sort Go.Maps

set_option maxRecDepth 100000 in
set_option maxHeartbeats 8000000 in
theorem lsame_any (w : World) (va vb : Value) (a b : Tg) (ha : RdT w va a) (hb : RdT w vb b) :
    Calls Tryz.prog 16 #[va, vb] w fun e w' => e = .returned (.bool (sameB a b)) ∧ Below w.heap.size w w' := by
  have RS := hid (fun W (h : Below w.heap.size w W) => rsame_any W va vb a b (ha.below h) (hb.below h))
  obtain ⟨vv, kv, rfl, ⟨av, cv, rfl, hav, hsa⟩, ⟨ak, ck, rfl, hak, hpa⟩⟩ := ha
  obtain ⟨vv2, kv2, rfl, ⟨bv, dv, rfl, hbv, hsb⟩, ⟨bk, dk, rfl, hbk, hpb⟩⟩ := hb
  have HB0 := hid (below2 w (.cells (tagCells a (.slice av a.vars.length cv) (.slice ak a.keys.length ck)) 25) (.cells (tagCells b (.slice bv b.vars.length dv) (.slice bk b.keys.length dk)) 25))
  have HA0 := hid (heap_alloc2_old w (.cells (tagCells a (.slice av a.vars.length cv) (.slice ak a.keys.length ck)) 25) (.cells (tagCells b (.slice bv b.vars.length dv) (.slice bk b.keys.length dk)) 25))
  have HX0 := hid (heap_alloc2_new w (.cells (tagCells a (.slice av a.vars.length cv) (.slice ak a.keys.length ck)) 25) (.cells (tagCells b (.slice bv b.vars.length dv) (.slice bk b.keys.length dk)) 25))
  clear hav hsa hak hpa hbv hsb hbk hpb
  generalize hq : sameB a b = q at *
  clear hq
  simp only [tagCells, S] at *
  go_enter Tryz.func16, Tryz.ntmps16
  go_upto_region 1 with (fail)
  generalize ((w.alloc (.cells #[.string ⟨a.lang.toArray⟩, .string ⟨a.script.toArray⟩, .string ⟨a.region.toArray⟩, .slice av a.vars.length cv, .slice ak a.keys.length ck] 25)).alloc (.cells #[.string ⟨b.lang.toArray⟩, .string ⟨b.script.toArray⟩, .string ⟨b.region.toArray⟩, .slice bv b.vars.length dv, .slice bk b.keys.length dk] 25)) = w0 at *
  obtain ⟨c0, c1, c2, c3, c4⟩ := box_cells HA0.out
  obtain ⟨d0, d1, d2, d3, d4⟩ := box_cells HX0.out
  have ltx := lt_of_block HX0.out
  have lta := lt_of_block HA0.out
  go_wp2_with fail
  refine (RS.out _ HB0.out).mono ?_
  rintro e w1 ⟨rfl, hb1⟩
  go_wp2_with fail
  go_ret
  exact ⟨rfl, HB0.out.then hb1⟩

/-- a tag in a box that stands -/
theorem tag_row {w : World} {B b : Nat} {t : Tg} {a c : Option Addr} {n m : Nat} (own : OwnT w B (.agg #[.string ⟨t.lang.toArray⟩, .string ⟨t.script.toArray⟩, .string ⟨t.region.toArray⟩, .slice a t.vars.length n, .slice c t.keys.length m]) t) : RdT w (.agg #[.string ⟨t.lang.toArray⟩, .string ⟨t.script.toArray⟩, .string ⟨t.region.toArray⟩, .slice a t.vars.length n, .slice c t.keys.length m]) t := own.rd

set_option maxRecDepth 100000 in
set_option maxHeartbeats 8000000 in
theorem none_any (w : World) (va : Value) (t : Tg) (hT : RdT w va t) :
    Calls Tryz.prog 7 #[va] w fun e w' => e = .returned (.bool true) ∧ Below w.heap.size w w' := by
  have AD := hid (fun W (h : Below w.heap.size w W) => tadd_nil W va t (hT.below h))
  have RM := hid (fun W (h : Below w.heap.size w W) => trem_nil W va t (hT.below h))
  obtain ⟨vv, kv, rfl, hS, hP⟩ := hT
  obtain ⟨av, cv, rfl, _, _⟩ := hS
  obtain ⟨ak, ck, rfl, _, _⟩ := hP
  have HB0 := hid ((Below.refl w.heap.size w).alloc (Nat.le_refl _) (.cells #[.string ⟨t.lang.toArray⟩, .string ⟨t.script.toArray⟩, .string ⟨t.region.toArray⟩, .slice av t.vars.length cv, .slice ak t.keys.length ck] 25))
  have HX0 := hid (heap_alloc_new w (.cells #[.string ⟨t.lang.toArray⟩, .string ⟨t.script.toArray⟩, .string ⟨t.region.toArray⟩, .slice av t.vars.length cv, .slice ak t.keys.length ck] 25))
  simp only [tagCells, S] at *
  go_enter Tryz.func7, Tryz.ntmps7
  go_upto_region 1 with (fail)
  generalize w.alloc (.cells #[.string ⟨t.lang.toArray⟩, .string ⟨t.script.toArray⟩, .string ⟨t.region.toArray⟩, .slice av t.vars.length cv, .slice ak t.keys.length ck] 25) = w0 at *
  go_wp2_with fail
  refine (lwakes_any _).mono ?_
  rintro e w1 ⟨rfl, hb1⟩
  have HB1 := hid (HB0.out.then hb1)
  have HX1 := hid ((hb1.block _ (lt_of_block HX0.out)).trans HX0.out)
  clear hb1 HB0 HX0
  obtain ⟨c0, c1, c2, c3, c4⟩ := box_cells HX1.out
  have ltx := lt_of_block HX1.out
  go_wp2_with fail
  refine (AD.out _ HB1.out).mono ?_
  rintro e w2 ⟨v', rfl, own2, hb2⟩
  have HB2 := hid (HB1.out.then hb2)
  have HX2 := hid ((hb2.block _ (lt_of_block HX1.out)).trans HX1.out)
  obtain ⟨a1, e1, a2, e2, rfl⟩ := own2.shape
  have R2 := hid own2.rd
  clear hb2 HB1 HX1 own2 c0 c1 c2 c3 c4 ltx
  have R2' : Hid (RdT w2 (.agg #[.string ⟨#[]⟩, .string ⟨#[]⟩, .string ⟨#[]⟩, .slice a1 0 e1, .slice a2 0 e2]) Tg.zero) := R2
  clear R2
  simp only [Tg.zero]
  go_upto_region 5 with fail
  have HX3 := hid (heap_alloc_new w2 (.cells #[.string ⟨#[]⟩, .string ⟨#[]⟩, .string ⟨#[]⟩, .slice a1 0 e1, .slice a2 0 e2] 25))
  have hb3 : Below w2.heap.size w2 (w2.alloc (.cells #[.string ⟨#[]⟩, .string ⟨#[]⟩, .string ⟨#[]⟩, .slice a1 0 e1, .slice a2 0 e2] 25)) := (Below.refl _ _).alloc (Nat.le_refl _) _
  generalize w2.alloc (.cells #[.string ⟨#[]⟩, .string ⟨#[]⟩, .string ⟨#[]⟩, .slice a1 0 e1, .slice a2 0 e2] 25) = w3 at *
  have HB3 := hid (HB2.out.then hb3)
  have HT3 := hid ((hb3.block _ (lt_of_block HX2.out)).trans HX2.out)
  have R3 := hid (R2'.out.below hb3)
  clear hb3 HB2 HX2 R2'
  obtain ⟨c0, c1, c2, c3, c4⟩ := box_cells HT3.out
  have ltx := lt_of_block HT3.out
  go_wp2_with fail
  refine (RM.out _ HB3.out).mono ?_
  rintro e w4 ⟨v', rfl, own4, hb4⟩
  have HB4 := hid (HB3.out.then hb4)
  have HX4 := hid ((hb4.block _ (lt_of_block HX3.out)).trans HX3.out)
  have R4 := hid (R3.out.below hb4)
  obtain ⟨b1, g1, b2, g2, rfl⟩ := own4.shape
  have Q4 : Hid (RdT w4 (.agg #[.string ⟨#[]⟩, .string ⟨#[]⟩, .string ⟨#[]⟩, .slice b1 0 g1, .slice b2 0 g2]) Tg.zero) := hid own4.rd
  clear hb4 HB3 HX3 R3 own4 c0 c1 c2 c3 c4 ltx HT3
  simp only [Tg.zero]
  go_upto_region 6 with fail
  have HY5 := hid (heap_alloc_new w4 (.cells #[.string ⟨#[]⟩, .string ⟨#[]⟩, .string ⟨#[]⟩, .slice b1 0 g1, .slice b2 0 g2] 25))
  have hb5 : Below w4.heap.size w4 (w4.alloc (.cells #[.string ⟨#[]⟩, .string ⟨#[]⟩, .string ⟨#[]⟩, .slice b1 0 g1, .slice b2 0 g2] 25)) := (Below.refl _ _).alloc (Nat.le_refl _) _
  generalize w4.alloc (.cells #[.string ⟨#[]⟩, .string ⟨#[]⟩, .string ⟨#[]⟩, .slice b1 0 g1, .slice b2 0 g2] 25) = w5 at *
  have HB5 := hid (HB4.out.then hb5)
  have HX5 := hid ((hb5.block _ (lt_of_block HX4.out)).trans HX4.out)
  have R5 := hid (R4.out.below hb5)
  have Q5 := hid (Q4.out.below hb5)
  clear hb5 HB4 HX4 R4 Q4
  obtain ⟨c0, c1, c2, c3, c4⟩ := box_cells HX5.out
  obtain ⟨d0, d1, d2, d3, d4⟩ := box_cells HY5.out
  have ltx := lt_of_block HX5.out
  have lty := lt_of_block HY5.out
  have SA := hid (lsame_any w5 _ (.agg (tagCells Tg.zero vnil vnil)) _ _ R5.out (RdT.zero w5))
  have SB := hid (fun W (h : Below w5.heap.size w5 W) => lsame_any W _ (.agg (tagCells Tg.zero vnil vnil)) _ _ (Q5.out.below h) (RdT.zero W))
  rw [show sameB Tg.zero Tg.zero = true from rfl] at SA SB
  go_wp2_with fail
  refine SA.out.mono ?_
  rintro e w6 ⟨rfl, hb6⟩
  have HB6 := hid (HB5.out.then hb6)
  have HY6 := hid ((hb6.block _ (lt_of_block HY5.out)).trans HY5.out)
  have SB6 := hid (SB.out w6 hb6)
  clear hb6 SB SA HB5 c0 c1 c2 c3 c4 d0 d1 d2 d3 d4 ltx lty
  obtain ⟨d0, d1, d2, d3, d4⟩ := box_cells HY6.out
  have lty := lt_of_block HY6.out
  go_wp2_with fail
  refine SB6.out.mono ?_
  rintro e w7 ⟨rfl, hb7⟩
  have HB7 := hid (HB6.out.then hb7)
  clear hb7 HB6
  go_wp2_with fail
  refine (tsaid_nil _).mono ?_
  rintro e w8 ⟨rfl, hb8⟩
  go_wp2_with fail
  go_ret
  exact ⟨rfl, HB7.out.then hb8⟩
end Go.Proofs.YtlmgmifaknlolaaGreat
