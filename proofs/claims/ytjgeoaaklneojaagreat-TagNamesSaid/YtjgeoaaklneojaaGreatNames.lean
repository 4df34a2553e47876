/- The walk of the law TagNames. (printed by wip/gen_names.py) -/
import Derived.Test.YtjgeoaaklneojaaGreatWakes
import Derived.Test.YtjgeoaaklneojaaGreatNamed
import Derived.Test.YtjgeoaaklneojaaGreatRefParse
import Derived.Test.YtjgeoaaklneojaaGreatRefEq
import Derived.Test.YtjgeoaaklneojaaGreatRefName
import Derived.Deep.RegionHeld3
set_option linter.unusedVariables false
set_option linter.unusedSimpArgs false
namespace Go.Proofs.YtjgeoaaklneojaaGreat
open Go.RowKit Go.Lib Go.Sort

theorem named_ref (l : Str) : namedB l = ((parseF l).err == 0 && (nameOf (printB (parseF l).tag) == l)) := by
  unfold namedB
  by_cases h : (parseF l).err = 0
  · have hg := good_of l h
    rw [good_name _ hg, printB_bare _ hg]; rfl
  · rw [beq_eq_false_iff_ne.2 h]; rfl

/-- what the last row of the law reads: four tags' boxes, in a world that goes on from W8 -/
abbrev NamesS (W8 : World) (p q r t : Nat) (c0 c1 c2 c3 c4 d0 d1 d2 d3 d4 e0 e1 e2 e3 e4 f0 f1 f2 f3 f4 : Value) (W : World) : Prop :=
  W.cell? ⟨p, 0, none⟩ = some c0 ∧ W.cell? ⟨p, 1, none⟩ = some c1 ∧ W.cell? ⟨p, 2, none⟩ = some c2 ∧ W.cell? ⟨p, 3, none⟩ = some c3 ∧ W.cell? ⟨p, 4, none⟩ = some c4 ∧ W.cell? ⟨q, 0, none⟩ = some d0 ∧ W.cell? ⟨q, 1, none⟩ = some d1 ∧ W.cell? ⟨q, 2, none⟩ = some d2 ∧ W.cell? ⟨q, 3, none⟩ = some d3 ∧ W.cell? ⟨q, 4, none⟩ = some d4 ∧ W.cell? ⟨r, 0, none⟩ = some e0 ∧ W.cell? ⟨r, 1, none⟩ = some e1 ∧ W.cell? ⟨r, 2, none⟩ = some e2 ∧ W.cell? ⟨r, 3, none⟩ = some e3 ∧ W.cell? ⟨r, 4, none⟩ = some e4 ∧ W.cell? ⟨t, 0, none⟩ = some f0 ∧ W.cell? ⟨t, 1, none⟩ = some f1 ∧ W.cell? ⟨t, 2, none⟩ = some f2 ∧ W.cell? ⟨t, 3, none⟩ = some f3 ∧ W.cell? ⟨t, 4, none⟩ = some f4 ∧ Below W8.heap.size W8 W
theorem names_keep {W8 : World} {p q r t : Nat} {c0 c1 c2 c3 c4 d0 d1 d2 d3 d4 e0 e1 e2 e3 e4 f0 f1 f2 f3 f4 : Value}
    (h0 : W8.heap[p]? = some (.cells #[c0, c1, c2, c3, c4] 26 (0, 0))) (h1 : W8.heap[q]? = some (.cells #[d0, d1, d2, d3, d4] 26 (0, 0)))
    (h2 : W8.heap[r]? = some (.cells #[e0, e1, e2, e3, e4] 26 (0, 0))) (h3 : W8.heap[t]? = some (.cells #[f0, f1, f2, f3, f4] 26 (0, 0)))
    (W : World) (hb : Below W8.heap.size W8 W) : NamesS W8 p q r t c0 c1 c2 c3 c4 d0 d1 d2 d3 d4 e0 e1 e2 e3 e4 f0 f1 f2 f3 f4 W := by
  obtain ⟨a0, a1, a2, a3, a4⟩ := box_cells ((hb.block _ (lt_of_block h0)).trans h0)
  obtain ⟨b0, b1, b2, b3, b4⟩ := box_cells ((hb.block _ (lt_of_block h1)).trans h1)
  obtain ⟨g0, g1, g2, g3, g4⟩ := box_cells ((hb.block _ (lt_of_block h2)).trans h2)
  obtain ⟨k0, k1, k2, k3, k4⟩ := box_cells ((hb.block _ (lt_of_block h3)).trans h3)
  exact ⟨a0, a1, a2, a3, a4, b0, b1, b2, b3, b4, g0, g1, g2, g3, g4, k0, k1, k2, k3, k4, hb⟩
theorem names_last {W8 : World} {p q r t : Nat} {c0 c1 c2 c3 c4 d0 d1 d2 d3 d4 e0 e1 e2 e3 e4 f0 f1 f2 f3 f4 : Value} {W : World} (h : NamesS W8 p q r t c0 c1 c2 c3 c4 d0 d1 d2 d3 d4 e0 e1 e2 e3 e4 f0 f1 f2 f3 f4 W) : Below W8.heap.size W8 W := by
  obtain ⟨_, _, _, _, _, _, _, _, _, _, _, _, _, _, _, _, _, _, _, _, hb⟩ := h; exact hb

set_option maxRecDepth 100000 in
set_option maxHeartbeats 16000000 in
theorem names_any (s : ByteArray) (va vb : Value) (a b : Tg) (w : World) (hs : s.size ≤ maxLen) (ha : RdT w va a) (hb : RdT w vb b) :
    Calls Tryz.prog 4 #[.string s, va, vb] w fun e w' => e = .returned (.bool true) ∧ Below w.heap.size w w' := by
  obtain ⟨l, rfl⟩ : ∃ l : Str, s = ⟨l.toArray⟩ := ⟨s.data.toList, rfl⟩
  have NM := hid (fun W => named_any l W (by rw [Lib.size_eq] at hs; exact hs))
  have RP := hid (fun W => rparse_any ⟨l.toArray⟩ W hs)
  rw [ref_eq] at RP
  rw [show (⟨l.toArray⟩ : ByteArray).data.toList = l from rfl] at RP
  have his := named_ref l
  have hgood := good_of l
  have hnt : namedT l = if namedB l = true then (parseF l).tag else Tg.zero := rfl
  simp only [NamedOut] at NM
  generalize namedT l = nt at *
  generalize namedB l = is at *
  generalize hx : parseF l = x at *
  clear hx
  have HRA := hid ha
  have HRB := hid hb
  obtain ⟨vv, kv, rfl, ⟨av, cv, rfl, _, _⟩, ⟨ak, ck, rfl, _, _⟩⟩ := ha
  obtain ⟨vv2, kv2, rfl, ⟨bv, dv, rfl, _, _⟩, ⟨bk, dk, rfl, _, _⟩⟩ := hb
  simp only [tagCells, S] at HRA HRB ⊢
  have hb0 := below2 w (.cells #[.string ⟨a.lang.toArray⟩, .string ⟨a.script.toArray⟩, .string ⟨a.region.toArray⟩, .slice av a.vars.length cv, .slice ak a.keys.length ck] 26) (.cells #[.string ⟨b.lang.toArray⟩, .string ⟨b.script.toArray⟩, .string ⟨b.region.toArray⟩, .slice bv b.vars.length dv, .slice bk b.keys.length dk] 26)
  have HA0 := hid (heap_alloc2_old w (.cells #[.string ⟨a.lang.toArray⟩, .string ⟨a.script.toArray⟩, .string ⟨a.region.toArray⟩, .slice av a.vars.length cv, .slice ak a.keys.length ck] 26) (.cells #[.string ⟨b.lang.toArray⟩, .string ⟨b.script.toArray⟩, .string ⟨b.region.toArray⟩, .slice bv b.vars.length dv, .slice bk b.keys.length dk] 26))
  have HB0 := hid (heap_alloc2_new w (.cells #[.string ⟨a.lang.toArray⟩, .string ⟨a.script.toArray⟩, .string ⟨a.region.toArray⟩, .slice av a.vars.length cv, .slice ak a.keys.length ck] 26) (.cells #[.string ⟨b.lang.toArray⟩, .string ⟨b.script.toArray⟩, .string ⟨b.region.toArray⟩, .slice bv b.vars.length dv, .slice bk b.keys.length dk] 26))
  have HW0 := hid hb0
  have HIS := hid his
  have HNT := hid hnt
  have HG := hid hgood
  clear hb0 his hnt hgood
  go_enter Tryz.func4, Tryz.ntmps4
  go_wp2_with fail
  refine (wakes_any _).mono ?_
  rintro e w1 ⟨rfl, hb1⟩
  have HA1 := hid ((hb1.block _ (lt_of_block HA0.out)).trans HA0.out)
  have HB1 := hid ((hb1.block _ (lt_of_block HB0.out)).trans HB0.out)
  have HW1 := hid (HW0.out.then hb1)
  clear HA0 HB0 HW0 hb1
  go_wp2_with fail
  refine (NM.out _).mono ?_
  rintro e w2 ⟨v2, rfl, hv2, hb2⟩
  have HR2 := hid hv2
  obtain ⟨vv3, kv3, rfl, ⟨ev, gv, rfl, _, _⟩, ⟨ek, gk2, rfl, _, _⟩⟩ := hv2
  simp only [tagCells, S] at HR2 ⊢
  have HA2 := hid ((hb2.block _ (lt_of_block HA1.out)).trans HA1.out)
  have HB2 := hid ((hb2.block _ (lt_of_block HB1.out)).trans HB1.out)
  have HW2 := hid (HW1.out.then hb2)
  clear HA1 HB1 HW1 hb2 NM
  have hb3 : Below w2.heap.size w2 (w2.alloc (.cells #[.string ⟨nt.lang.toArray⟩, .string ⟨nt.script.toArray⟩, .string ⟨nt.region.toArray⟩, .slice ev nt.vars.length gv, .slice ek nt.keys.length gk2] 26)) := (Below.refl _ _).alloc (Nat.le_refl _) _
  have HN3 := hid (heap_alloc_new w2 (.cells #[.string ⟨nt.lang.toArray⟩, .string ⟨nt.script.toArray⟩, .string ⟨nt.region.toArray⟩, .slice ev nt.vars.length gv, .slice ek nt.keys.length gk2] 26))
  have HA3 := hid ((hb3.block _ (lt_of_block HA2.out)).trans HA2.out)
  have HB3 := hid ((hb3.block _ (lt_of_block HB2.out)).trans HB2.out)
  have HW3 := hid (HW2.out.then hb3)
  have HB23 := hid hb3
  clear hb3 HA2 HB2
  go_wp2_with fail
  refine (RP.out _).mono ?_
  rintro e w4 ⟨vv4, kv4, rfl, r1, r2, hb4⟩
  have HR4 := hid (show RdT w4 (.agg (tagCells x.tag vv4 kv4)) x.tag from ⟨_, _, rfl, r1, r2⟩)
  obtain ⟨fv, hv, rfl, _, _⟩ := r1
  obtain ⟨fk, hk, rfl, _, _⟩ := r2
  simp only [tagCells, S] at HR4 ⊢
  have HA4 := hid ((hb4.block _ (lt_of_block HA3.out)).trans HA3.out)
  have HB4 := hid ((hb4.block _ (lt_of_block HB3.out)).trans HB3.out)
  have HN4 := hid ((hb4.block _ (lt_of_block HN3.out)).trans HN3.out)
  have HW4 := hid (HW3.out.then hb4)
  have LA4 := hid (lt_of_block HA4.out)
  have LB4 := hid (lt_of_block HB4.out)
  have LN4 := hid (lt_of_block HN4.out)
  have HB24 := hid (HB23.out.then hb4)
  clear HA3 HB3 HN3 HW3 HB23 hb4 RP
  have hb5 := below2 w4 (.cells #[.string ⟨x.tag.lang.toArray⟩, .string ⟨x.tag.script.toArray⟩, .string ⟨x.tag.region.toArray⟩, .slice fv x.tag.vars.length hv, .slice fk x.tag.keys.length hk] 26) (.cells #[.int .i64 (x.err : Int), .int .i64 (x.pos : Int)] 29)
  have H95 := hid (heap_alloc2_old w4 (.cells #[.string ⟨x.tag.lang.toArray⟩, .string ⟨x.tag.script.toArray⟩, .string ⟨x.tag.region.toArray⟩, .slice fv x.tag.vars.length hv, .slice fk x.tag.keys.length hk] 26) (.cells #[.int .i64 (x.err : Int), .int .i64 (x.pos : Int)] 29))
  have HA5 := hid ((hb5.block _ (lt_of_block HA4.out)).trans HA4.out)
  have HB5 := hid ((hb5.block _ (lt_of_block HB4.out)).trans HB4.out)
  have HN5 := hid ((hb5.block _ (lt_of_block HN4.out)).trans HN4.out)
  have HW5 := hid (HW4.out.then hb5)
  have HB45 := hid hb5
  clear hb5
  by_cases he : x.err = 0
  · have hg := HG.out he
    clear HA4 HB4 HN4
    have N1 := hid (fun W (hb : Below w4.heap.size w4 W) => rname_any W _ x.tag (HR4.out.below hb) (printB_len _ hg))
    have his2 : is = (nameOf (printB x.tag) == l) := by rw [HIS.out, he]; rfl
    generalize nameOf (printB x.tag) = nm at *
    have e0 : (x.err == 0) = true := by rw [he]; rfl
    have HIS2 := hid his2
    rw [he] at H95 HA5 HB5 HN5 HW5 HB45 ⊢
    clear hg his2 HIS HG
    obtain ⟨c0, c1, c2, c3, c4⟩ := box_cells H95.out
    have hst := lt_of_block H95.out
    go_wp2_with fail
    refine (N1.out _ HB45.out).mono ?_
    rintro e w6 ⟨rfl, hb6⟩
    clear c0 c1 c2 c3 c4 hst
    have H96 := hid ((hb6.block _ (lt_of_block H95.out)).trans H95.out)
    have HA6 := hid ((hb6.block _ (lt_of_block HA5.out)).trans HA5.out)
    have HB6 := hid ((hb6.block _ (lt_of_block HB5.out)).trans HB5.out)
    have HN6 := hid ((hb6.block _ (lt_of_block HN5.out)).trans HN5.out)
    have HW6 := hid (HW5.out.then hb6)
    have HB46 := hid (HB45.out.then hb6)
    clear H95 HA5 HB5 HN5 HW5 HB45 hb6 N1
    by_cases hn : nm = l
    · have hub : (nm == l) = true := by rw [hn]; simp
      have hub2 : (nm != l) = false := by rw [hn]; simp
      have hi : is = true := by rw [HIS2.out]; exact hub
      have hnt : nt = x.tag := by rw [HNT.out, if_pos hi]
      clear HIS2 HNT hn
      go_wp2_with fail
      subst hnt
      subst hi
      have H9 := H96
      have HA := HA6
      have HB := HB6
      have HN := HN6
      have HW := HW6
      have HB4 := HB46
      clear H96 HA6 HB6 HN6 HW6 HB46
      have HR9 := HR4
      have KS := hid (fun W hb => names_keep HA.out HB.out HN.out H9.out W hb)
      have KR9 : Hid (∀ W, NamesS w6 (w.heap.size) (w.heap.size + 1) (w2.heap.size) (w4.heap.size) (.string ⟨a.lang.toArray⟩) (.string ⟨a.script.toArray⟩) (.string ⟨a.region.toArray⟩) (.slice av a.vars.length cv) (.slice ak a.keys.length ck) (.string ⟨b.lang.toArray⟩) (.string ⟨b.script.toArray⟩) (.string ⟨b.region.toArray⟩) (.slice bv b.vars.length dv) (.slice bk b.keys.length dk) (.string ⟨x.tag.lang.toArray⟩) (.string ⟨x.tag.script.toArray⟩) (.string ⟨x.tag.region.toArray⟩) (.slice ev x.tag.vars.length gv) (.slice ek x.tag.keys.length gk2) (.string ⟨x.tag.lang.toArray⟩) (.string ⟨x.tag.script.toArray⟩) (.string ⟨x.tag.region.toArray⟩) (.slice fv x.tag.vars.length hv) (.slice fk x.tag.keys.length hk) W → Calls Tryz.prog 8 #[.agg #[.string ⟨x.tag.lang.toArray⟩, .string ⟨x.tag.script.toArray⟩, .string ⟨x.tag.region.toArray⟩, .slice ev x.tag.vars.length gv, .slice ek x.tag.keys.length gk2], .agg #[.string ⟨x.tag.lang.toArray⟩, .string ⟨x.tag.script.toArray⟩, .string ⟨x.tag.region.toArray⟩, .slice fv x.tag.vars.length hv, .slice fk x.tag.keys.length hk]] W (fun e w' => e = .returned (.bool true) ∧ NamesS w6 (w.heap.size) (w.heap.size + 1) (w2.heap.size) (w4.heap.size) (.string ⟨a.lang.toArray⟩) (.string ⟨a.script.toArray⟩) (.string ⟨a.region.toArray⟩) (.slice av a.vars.length cv) (.slice ak a.keys.length ck) (.string ⟨b.lang.toArray⟩) (.string ⟨b.script.toArray⟩) (.string ⟨b.region.toArray⟩) (.slice bv b.vars.length dv) (.slice bk b.keys.length dk) (.string ⟨x.tag.lang.toArray⟩) (.string ⟨x.tag.script.toArray⟩) (.string ⟨x.tag.region.toArray⟩) (.slice ev x.tag.vars.length gv) (.slice ek x.tag.keys.length gk2) (.string ⟨x.tag.lang.toArray⟩) (.string ⟨x.tag.script.toArray⟩) (.string ⟨x.tag.region.toArray⟩) (.slice fv x.tag.vars.length hv) (.slice fk x.tag.keys.length hk) w')) := fun W h => by
        have hb := names_last h
        refine (rsame_any W _ _ x.tag x.tag ((HR2.out.below (HB24.out.then HB4.out)).below hb) ((HR9.out.below HB4.out).below hb)).mono ?_
        rintro e w' ⟨rfl, hb'⟩
        exact ⟨by rw [sameB_refl], KS.out w' (hb.then hb')⟩
      have KAB : Hid (∀ W, NamesS w6 (w.heap.size) (w.heap.size + 1) (w2.heap.size) (w4.heap.size) (.string ⟨a.lang.toArray⟩) (.string ⟨a.script.toArray⟩) (.string ⟨a.region.toArray⟩) (.slice av a.vars.length cv) (.slice ak a.keys.length ck) (.string ⟨b.lang.toArray⟩) (.string ⟨b.script.toArray⟩) (.string ⟨b.region.toArray⟩) (.slice bv b.vars.length dv) (.slice bk b.keys.length dk) (.string ⟨x.tag.lang.toArray⟩) (.string ⟨x.tag.script.toArray⟩) (.string ⟨x.tag.region.toArray⟩) (.slice ev x.tag.vars.length gv) (.slice ek x.tag.keys.length gk2) (.string ⟨x.tag.lang.toArray⟩) (.string ⟨x.tag.script.toArray⟩) (.string ⟨x.tag.region.toArray⟩) (.slice fv x.tag.vars.length hv) (.slice fk x.tag.keys.length hk) W → Calls Tryz.prog 8 #[.agg #[.string ⟨a.lang.toArray⟩, .string ⟨a.script.toArray⟩, .string ⟨a.region.toArray⟩, .slice av a.vars.length cv, .slice ak a.keys.length ck], .agg #[.string ⟨b.lang.toArray⟩, .string ⟨b.script.toArray⟩, .string ⟨b.region.toArray⟩, .slice bv b.vars.length dv, .slice bk b.keys.length dk]] W (fun e w' => e = .returned (.bool (sameB a b)) ∧ NamesS w6 (w.heap.size) (w.heap.size + 1) (w2.heap.size) (w4.heap.size) (.string ⟨a.lang.toArray⟩) (.string ⟨a.script.toArray⟩) (.string ⟨a.region.toArray⟩) (.slice av a.vars.length cv) (.slice ak a.keys.length ck) (.string ⟨b.lang.toArray⟩) (.string ⟨b.script.toArray⟩) (.string ⟨b.region.toArray⟩) (.slice bv b.vars.length dv) (.slice bk b.keys.length dk) (.string ⟨x.tag.lang.toArray⟩) (.string ⟨x.tag.script.toArray⟩) (.string ⟨x.tag.region.toArray⟩) (.slice ev x.tag.vars.length gv) (.slice ek x.tag.keys.length gk2) (.string ⟨x.tag.lang.toArray⟩) (.string ⟨x.tag.script.toArray⟩) (.string ⟨x.tag.region.toArray⟩) (.slice fv x.tag.vars.length hv) (.slice fk x.tag.keys.length hk) w')) := fun W h => by
        have hb := names_last h
        refine (rsame_any W _ _ a b ((HRA.out.below HW.out).below hb) ((HRB.out.below HW.out).below hb)).mono ?_
        rintro e w' ⟨rfl, hb'⟩
        exact ⟨rfl, KS.out w' (hb.then hb')⟩
      have TAB : Hid (∀ W, NamesS w6 (w.heap.size) (w.heap.size + 1) (w2.heap.size) (w4.heap.size) (.string ⟨a.lang.toArray⟩) (.string ⟨a.script.toArray⟩) (.string ⟨a.region.toArray⟩) (.slice av a.vars.length cv) (.slice ak a.keys.length ck) (.string ⟨b.lang.toArray⟩) (.string ⟨b.script.toArray⟩) (.string ⟨b.region.toArray⟩) (.slice bv b.vars.length dv) (.slice bk b.keys.length dk) (.string ⟨x.tag.lang.toArray⟩) (.string ⟨x.tag.script.toArray⟩) (.string ⟨x.tag.region.toArray⟩) (.slice ev x.tag.vars.length gv) (.slice ek x.tag.keys.length gk2) (.string ⟨x.tag.lang.toArray⟩) (.string ⟨x.tag.script.toArray⟩) (.string ⟨x.tag.region.toArray⟩) (.slice fv x.tag.vars.length hv) (.slice fk x.tag.keys.length hk) W → Calls Tryz.prog 11 #[.agg #[.string ⟨a.lang.toArray⟩, .string ⟨a.script.toArray⟩, .string ⟨a.region.toArray⟩, .slice av a.vars.length cv, .slice ak a.keys.length ck], .agg #[.string ⟨b.lang.toArray⟩, .string ⟨b.script.toArray⟩, .string ⟨b.region.toArray⟩, .slice bv b.vars.length dv, .slice bk b.keys.length dk]] W (fun e w' => e = .returned (.bool (sameB a b)) ∧ NamesS w6 (w.heap.size) (w.heap.size + 1) (w2.heap.size) (w4.heap.size) (.string ⟨a.lang.toArray⟩) (.string ⟨a.script.toArray⟩) (.string ⟨a.region.toArray⟩) (.slice av a.vars.length cv) (.slice ak a.keys.length ck) (.string ⟨b.lang.toArray⟩) (.string ⟨b.script.toArray⟩) (.string ⟨b.region.toArray⟩) (.slice bv b.vars.length dv) (.slice bk b.keys.length dk) (.string ⟨x.tag.lang.toArray⟩) (.string ⟨x.tag.script.toArray⟩) (.string ⟨x.tag.region.toArray⟩) (.slice ev x.tag.vars.length gv) (.slice ek x.tag.keys.length gk2) (.string ⟨x.tag.lang.toArray⟩) (.string ⟨x.tag.script.toArray⟩) (.string ⟨x.tag.region.toArray⟩) (.slice fv x.tag.vars.length hv) (.slice fk x.tag.keys.length hk) w')) := fun W h => by
        have hb := names_last h
        refine (same_any W _ _ a b ((HRA.out.below HW.out).below hb) ((HRB.out.below HW.out).below hb)).mono ?_
        rintro e w' ⟨rfl, hb'⟩
        exact ⟨rfl, KS.out w' (hb.then hb')⟩
      have TAA : Hid (∀ W, NamesS w6 (w.heap.size) (w.heap.size + 1) (w2.heap.size) (w4.heap.size) (.string ⟨a.lang.toArray⟩) (.string ⟨a.script.toArray⟩) (.string ⟨a.region.toArray⟩) (.slice av a.vars.length cv) (.slice ak a.keys.length ck) (.string ⟨b.lang.toArray⟩) (.string ⟨b.script.toArray⟩) (.string ⟨b.region.toArray⟩) (.slice bv b.vars.length dv) (.slice bk b.keys.length dk) (.string ⟨x.tag.lang.toArray⟩) (.string ⟨x.tag.script.toArray⟩) (.string ⟨x.tag.region.toArray⟩) (.slice ev x.tag.vars.length gv) (.slice ek x.tag.keys.length gk2) (.string ⟨x.tag.lang.toArray⟩) (.string ⟨x.tag.script.toArray⟩) (.string ⟨x.tag.region.toArray⟩) (.slice fv x.tag.vars.length hv) (.slice fk x.tag.keys.length hk) W → Calls Tryz.prog 11 #[.agg #[.string ⟨a.lang.toArray⟩, .string ⟨a.script.toArray⟩, .string ⟨a.region.toArray⟩, .slice av a.vars.length cv, .slice ak a.keys.length ck], .agg #[.string ⟨a.lang.toArray⟩, .string ⟨a.script.toArray⟩, .string ⟨a.region.toArray⟩, .slice av a.vars.length cv, .slice ak a.keys.length ck]] W (fun e w' => e = .returned (.bool true) ∧ NamesS w6 (w.heap.size) (w.heap.size + 1) (w2.heap.size) (w4.heap.size) (.string ⟨a.lang.toArray⟩) (.string ⟨a.script.toArray⟩) (.string ⟨a.region.toArray⟩) (.slice av a.vars.length cv) (.slice ak a.keys.length ck) (.string ⟨b.lang.toArray⟩) (.string ⟨b.script.toArray⟩) (.string ⟨b.region.toArray⟩) (.slice bv b.vars.length dv) (.slice bk b.keys.length dk) (.string ⟨x.tag.lang.toArray⟩) (.string ⟨x.tag.script.toArray⟩) (.string ⟨x.tag.region.toArray⟩) (.slice ev x.tag.vars.length gv) (.slice ek x.tag.keys.length gk2) (.string ⟨x.tag.lang.toArray⟩) (.string ⟨x.tag.script.toArray⟩) (.string ⟨x.tag.region.toArray⟩) (.slice fv x.tag.vars.length hv) (.slice fk x.tag.keys.length hk) w')) := fun W h => by
        have hb := names_last h
        refine (same_any W _ _ a a ((HRA.out.below HW.out).below hb) ((HRA.out.below HW.out).below hb)).mono ?_
        rintro e w' ⟨rfl, hb'⟩
        exact ⟨by rw [sameB_refl], KS.out w' (hb.then hb')⟩
      generalize sameB a b = q at *
      have S0 := KS.out w6.drew ((Below.refl _ _).drew)
      clear HA HB HN H9 HRA HRB HR2 HR9 HR4 HB4 HB24 LA4 LB4 LN4 KS
      go_region_held3 (fun W => W.cell? ⟨w.heap.size, 0, none⟩ = some (.string ⟨a.lang.toArray⟩) ∧ W.cell? ⟨w.heap.size, 1, none⟩ = some (.string ⟨a.script.toArray⟩) ∧ W.cell? ⟨w.heap.size, 2, none⟩ = some (.string ⟨a.region.toArray⟩) ∧ W.cell? ⟨w.heap.size, 3, none⟩ = some (.slice av a.vars.length cv) ∧ W.cell? ⟨w.heap.size, 4, none⟩ = some (.slice ak a.keys.length ck) ∧ W.cell? ⟨w.heap.size + 1, 0, none⟩ = some (.string ⟨b.lang.toArray⟩) ∧ W.cell? ⟨w.heap.size + 1, 1, none⟩ = some (.string ⟨b.script.toArray⟩) ∧ W.cell? ⟨w.heap.size + 1, 2, none⟩ = some (.string ⟨b.region.toArray⟩) ∧ W.cell? ⟨w.heap.size + 1, 3, none⟩ = some (.slice bv b.vars.length dv) ∧ W.cell? ⟨w.heap.size + 1, 4, none⟩ = some (.slice bk b.keys.length dk) ∧ W.cell? ⟨w2.heap.size, 0, none⟩ = some (.string ⟨x.tag.lang.toArray⟩) ∧ W.cell? ⟨w2.heap.size, 1, none⟩ = some (.string ⟨x.tag.script.toArray⟩) ∧ W.cell? ⟨w2.heap.size, 2, none⟩ = some (.string ⟨x.tag.region.toArray⟩) ∧ W.cell? ⟨w2.heap.size, 3, none⟩ = some (.slice ev x.tag.vars.length gv) ∧ W.cell? ⟨w2.heap.size, 4, none⟩ = some (.slice ek x.tag.keys.length gk2) ∧ W.cell? ⟨w4.heap.size, 0, none⟩ = some (.string ⟨x.tag.lang.toArray⟩) ∧ W.cell? ⟨w4.heap.size, 1, none⟩ = some (.string ⟨x.tag.script.toArray⟩) ∧ W.cell? ⟨w4.heap.size, 2, none⟩ = some (.string ⟨x.tag.region.toArray⟩) ∧ W.cell? ⟨w4.heap.size, 3, none⟩ = some (.slice fv x.tag.vars.length hv) ∧ W.cell? ⟨w4.heap.size, 4, none⟩ = some (.slice fk x.tag.keys.length hk) ∧ Below w6.heap.size w6 W) (first | assumption) (first | (go_at_call 8; (with_reducible refine (KR9.out _ (by assumption)).mono ?_); rintro e w' ⟨rfl, hs⟩) | (go_at_call 8; (with_reducible refine (KAB.out _ (by assumption)).mono ?_); rintro e w' ⟨rfl, hs⟩) | (go_at_call 11; (with_reducible refine (TAB.out _ (by assumption)).mono ?_); rintro e w' ⟨rfl, hs⟩) | (go_at_call 11; (with_reducible refine (TAA.out _ (by assumption)).mono ?_); rintro e w' ⟨rfl, hs⟩))
      all_goals go_wp2_with fail
      all_goals (go_ret; exact ⟨by first | rfl | simp, HW.out.then (names_last ‹_›)⟩)
    · have hub : (nm == l) = false := by rw [beq_eq_false_iff_ne]; exact hn
      have hub2 : (nm != l) = true := by rw [bne_iff_ne]; exact hn
      have hi : is = false := by rw [HIS2.out]; exact hub
      have hnt : nt = Tg.zero := by rw [HNT.out, if_neg (by rw [hi]; simp)]
      clear HIS2 HNT hn
      obtain ⟨c0, c1, c2, c3, c4⟩ := box_cells H96.out
      have fz0 := frozen_of_row _ w4.heap.size 0 _ _ H96.out
      have fz1 := frozen_of_row _ w4.heap.size 1 _ _ H96.out
      have fz2 := frozen_of_row _ w4.heap.size 2 _ _ H96.out
      have fz3 := frozen_of_row _ w4.heap.size 3 _ _ H96.out
      have fz4 := frozen_of_row _ w4.heap.size 4 _ _ H96.out
      have hst := lt_of_block H96.out
      go_wp2_with fail
      clear fz0 fz1 fz2 fz3 fz4 hst c0 c1 c2 c3 c4
      have h9 := P5_row (.string ⟨#[]⟩) (.string ⟨#[]⟩) (.string ⟨#[]⟩) (.slice none 0 0) (.slice none 0 0) H96.out
      have hw9 := P5_below (.string ⟨#[]⟩) (.string ⟨#[]⟩) (.string ⟨#[]⟩) (.slice none 0 0) (.slice none 0 0) HW6.out (b := w4.heap.size) (Nat.le_of_lt LA4.out)
      have hb9 := P5_below (.string ⟨#[]⟩) (.string ⟨#[]⟩) (.string ⟨#[]⟩) (.slice none 0 0) (.slice none 0 0) HB46.out (b := w4.heap.size) (Nat.le_refl _)
      have hq : Below w4.heap.size (w6) (P5 (w6) w4.heap.size (.string ⟨#[]⟩) (.string ⟨#[]⟩) (.string ⟨#[]⟩) (.slice none 0 0) (.slice none 0 0)) := P5_below (.string ⟨#[]⟩) (.string ⟨#[]⟩) (.string ⟨#[]⟩) (.slice none 0 0) (.slice none 0 0) (Below.refl _ _) (Nat.le_refl _)
      have ha9 := (hq.block _ LA4.out).trans HA6.out
      have hb9b := (hq.block _ LB4.out).trans HB6.out
      have hn9 := (hq.block _ LN4.out).trans HN6.out
      simp only [P5] at h9 hw9 hb9 ha9 hb9b hn9
      clear hq H96 HA6 HB6 HN6 HW6 HB46
      generalize (((((w6.setCell ⟨w4.heap.size, 0, none⟩ (.string ⟨#[]⟩)).setCell ⟨w4.heap.size, 1, none⟩ (.string ⟨#[]⟩)).setCell ⟨w4.heap.size, 2, none⟩ (.string ⟨#[]⟩)).setCell ⟨w4.heap.size, 3, none⟩ (.slice none 0 0)).setCell ⟨w4.heap.size, 4, none⟩ (.slice none 0 0)) = W8 at *
      have H9 := hid h9
      have HA := hid ha9
      have HB := hid hb9b
      have HN := hid hn9
      have HW := hid hw9
      have HB4 := hid hb9
      clear h9 hw9 hb9 ha9 hb9b hn9
      subst hnt
      subst hi
      have HR9 := hid (RdT.zero w4)
      simp only [tagCells, S, vnil] at HR9
      have KS := hid (fun W hb => names_keep HA.out HB.out HN.out H9.out W hb)
      have KR9 : Hid (∀ W, NamesS W8 (w.heap.size) (w.heap.size + 1) (w2.heap.size) (w4.heap.size) (.string ⟨a.lang.toArray⟩) (.string ⟨a.script.toArray⟩) (.string ⟨a.region.toArray⟩) (.slice av a.vars.length cv) (.slice ak a.keys.length ck) (.string ⟨b.lang.toArray⟩) (.string ⟨b.script.toArray⟩) (.string ⟨b.region.toArray⟩) (.slice bv b.vars.length dv) (.slice bk b.keys.length dk) (.string ⟨Tg.zero.lang.toArray⟩) (.string ⟨Tg.zero.script.toArray⟩) (.string ⟨Tg.zero.region.toArray⟩) (.slice ev Tg.zero.vars.length gv) (.slice ek Tg.zero.keys.length gk2) (.string ⟨#[]⟩) (.string ⟨#[]⟩) (.string ⟨#[]⟩) (.slice none 0 0) (.slice none 0 0) W → Calls Tryz.prog 8 #[.agg #[.string ⟨Tg.zero.lang.toArray⟩, .string ⟨Tg.zero.script.toArray⟩, .string ⟨Tg.zero.region.toArray⟩, .slice ev Tg.zero.vars.length gv, .slice ek Tg.zero.keys.length gk2], .agg #[.string ⟨#[]⟩, .string ⟨#[]⟩, .string ⟨#[]⟩, .slice none 0 0, .slice none 0 0]] W (fun e w' => e = .returned (.bool true) ∧ NamesS W8 (w.heap.size) (w.heap.size + 1) (w2.heap.size) (w4.heap.size) (.string ⟨a.lang.toArray⟩) (.string ⟨a.script.toArray⟩) (.string ⟨a.region.toArray⟩) (.slice av a.vars.length cv) (.slice ak a.keys.length ck) (.string ⟨b.lang.toArray⟩) (.string ⟨b.script.toArray⟩) (.string ⟨b.region.toArray⟩) (.slice bv b.vars.length dv) (.slice bk b.keys.length dk) (.string ⟨Tg.zero.lang.toArray⟩) (.string ⟨Tg.zero.script.toArray⟩) (.string ⟨Tg.zero.region.toArray⟩) (.slice ev Tg.zero.vars.length gv) (.slice ek Tg.zero.keys.length gk2) (.string ⟨#[]⟩) (.string ⟨#[]⟩) (.string ⟨#[]⟩) (.slice none 0 0) (.slice none 0 0) w')) := fun W h => by
        have hb := names_last h
        refine (rsame_any W _ _ Tg.zero Tg.zero ((HR2.out.below (HB24.out.then HB4.out)).below hb) ((HR9.out.below HB4.out).below hb)).mono ?_
        rintro e w' ⟨rfl, hb'⟩
        exact ⟨by rw [sameB_refl], KS.out w' (hb.then hb')⟩
      have KAB : Hid (∀ W, NamesS W8 (w.heap.size) (w.heap.size + 1) (w2.heap.size) (w4.heap.size) (.string ⟨a.lang.toArray⟩) (.string ⟨a.script.toArray⟩) (.string ⟨a.region.toArray⟩) (.slice av a.vars.length cv) (.slice ak a.keys.length ck) (.string ⟨b.lang.toArray⟩) (.string ⟨b.script.toArray⟩) (.string ⟨b.region.toArray⟩) (.slice bv b.vars.length dv) (.slice bk b.keys.length dk) (.string ⟨Tg.zero.lang.toArray⟩) (.string ⟨Tg.zero.script.toArray⟩) (.string ⟨Tg.zero.region.toArray⟩) (.slice ev Tg.zero.vars.length gv) (.slice ek Tg.zero.keys.length gk2) (.string ⟨#[]⟩) (.string ⟨#[]⟩) (.string ⟨#[]⟩) (.slice none 0 0) (.slice none 0 0) W → Calls Tryz.prog 8 #[.agg #[.string ⟨a.lang.toArray⟩, .string ⟨a.script.toArray⟩, .string ⟨a.region.toArray⟩, .slice av a.vars.length cv, .slice ak a.keys.length ck], .agg #[.string ⟨b.lang.toArray⟩, .string ⟨b.script.toArray⟩, .string ⟨b.region.toArray⟩, .slice bv b.vars.length dv, .slice bk b.keys.length dk]] W (fun e w' => e = .returned (.bool (sameB a b)) ∧ NamesS W8 (w.heap.size) (w.heap.size + 1) (w2.heap.size) (w4.heap.size) (.string ⟨a.lang.toArray⟩) (.string ⟨a.script.toArray⟩) (.string ⟨a.region.toArray⟩) (.slice av a.vars.length cv) (.slice ak a.keys.length ck) (.string ⟨b.lang.toArray⟩) (.string ⟨b.script.toArray⟩) (.string ⟨b.region.toArray⟩) (.slice bv b.vars.length dv) (.slice bk b.keys.length dk) (.string ⟨Tg.zero.lang.toArray⟩) (.string ⟨Tg.zero.script.toArray⟩) (.string ⟨Tg.zero.region.toArray⟩) (.slice ev Tg.zero.vars.length gv) (.slice ek Tg.zero.keys.length gk2) (.string ⟨#[]⟩) (.string ⟨#[]⟩) (.string ⟨#[]⟩) (.slice none 0 0) (.slice none 0 0) w')) := fun W h => by
        have hb := names_last h
        refine (rsame_any W _ _ a b ((HRA.out.below HW.out).below hb) ((HRB.out.below HW.out).below hb)).mono ?_
        rintro e w' ⟨rfl, hb'⟩
        exact ⟨rfl, KS.out w' (hb.then hb')⟩
      have TAB : Hid (∀ W, NamesS W8 (w.heap.size) (w.heap.size + 1) (w2.heap.size) (w4.heap.size) (.string ⟨a.lang.toArray⟩) (.string ⟨a.script.toArray⟩) (.string ⟨a.region.toArray⟩) (.slice av a.vars.length cv) (.slice ak a.keys.length ck) (.string ⟨b.lang.toArray⟩) (.string ⟨b.script.toArray⟩) (.string ⟨b.region.toArray⟩) (.slice bv b.vars.length dv) (.slice bk b.keys.length dk) (.string ⟨Tg.zero.lang.toArray⟩) (.string ⟨Tg.zero.script.toArray⟩) (.string ⟨Tg.zero.region.toArray⟩) (.slice ev Tg.zero.vars.length gv) (.slice ek Tg.zero.keys.length gk2) (.string ⟨#[]⟩) (.string ⟨#[]⟩) (.string ⟨#[]⟩) (.slice none 0 0) (.slice none 0 0) W → Calls Tryz.prog 11 #[.agg #[.string ⟨a.lang.toArray⟩, .string ⟨a.script.toArray⟩, .string ⟨a.region.toArray⟩, .slice av a.vars.length cv, .slice ak a.keys.length ck], .agg #[.string ⟨b.lang.toArray⟩, .string ⟨b.script.toArray⟩, .string ⟨b.region.toArray⟩, .slice bv b.vars.length dv, .slice bk b.keys.length dk]] W (fun e w' => e = .returned (.bool (sameB a b)) ∧ NamesS W8 (w.heap.size) (w.heap.size + 1) (w2.heap.size) (w4.heap.size) (.string ⟨a.lang.toArray⟩) (.string ⟨a.script.toArray⟩) (.string ⟨a.region.toArray⟩) (.slice av a.vars.length cv) (.slice ak a.keys.length ck) (.string ⟨b.lang.toArray⟩) (.string ⟨b.script.toArray⟩) (.string ⟨b.region.toArray⟩) (.slice bv b.vars.length dv) (.slice bk b.keys.length dk) (.string ⟨Tg.zero.lang.toArray⟩) (.string ⟨Tg.zero.script.toArray⟩) (.string ⟨Tg.zero.region.toArray⟩) (.slice ev Tg.zero.vars.length gv) (.slice ek Tg.zero.keys.length gk2) (.string ⟨#[]⟩) (.string ⟨#[]⟩) (.string ⟨#[]⟩) (.slice none 0 0) (.slice none 0 0) w')) := fun W h => by
        have hb := names_last h
        refine (same_any W _ _ a b ((HRA.out.below HW.out).below hb) ((HRB.out.below HW.out).below hb)).mono ?_
        rintro e w' ⟨rfl, hb'⟩
        exact ⟨rfl, KS.out w' (hb.then hb')⟩
      have TAA : Hid (∀ W, NamesS W8 (w.heap.size) (w.heap.size + 1) (w2.heap.size) (w4.heap.size) (.string ⟨a.lang.toArray⟩) (.string ⟨a.script.toArray⟩) (.string ⟨a.region.toArray⟩) (.slice av a.vars.length cv) (.slice ak a.keys.length ck) (.string ⟨b.lang.toArray⟩) (.string ⟨b.script.toArray⟩) (.string ⟨b.region.toArray⟩) (.slice bv b.vars.length dv) (.slice bk b.keys.length dk) (.string ⟨Tg.zero.lang.toArray⟩) (.string ⟨Tg.zero.script.toArray⟩) (.string ⟨Tg.zero.region.toArray⟩) (.slice ev Tg.zero.vars.length gv) (.slice ek Tg.zero.keys.length gk2) (.string ⟨#[]⟩) (.string ⟨#[]⟩) (.string ⟨#[]⟩) (.slice none 0 0) (.slice none 0 0) W → Calls Tryz.prog 11 #[.agg #[.string ⟨a.lang.toArray⟩, .string ⟨a.script.toArray⟩, .string ⟨a.region.toArray⟩, .slice av a.vars.length cv, .slice ak a.keys.length ck], .agg #[.string ⟨a.lang.toArray⟩, .string ⟨a.script.toArray⟩, .string ⟨a.region.toArray⟩, .slice av a.vars.length cv, .slice ak a.keys.length ck]] W (fun e w' => e = .returned (.bool true) ∧ NamesS W8 (w.heap.size) (w.heap.size + 1) (w2.heap.size) (w4.heap.size) (.string ⟨a.lang.toArray⟩) (.string ⟨a.script.toArray⟩) (.string ⟨a.region.toArray⟩) (.slice av a.vars.length cv) (.slice ak a.keys.length ck) (.string ⟨b.lang.toArray⟩) (.string ⟨b.script.toArray⟩) (.string ⟨b.region.toArray⟩) (.slice bv b.vars.length dv) (.slice bk b.keys.length dk) (.string ⟨Tg.zero.lang.toArray⟩) (.string ⟨Tg.zero.script.toArray⟩) (.string ⟨Tg.zero.region.toArray⟩) (.slice ev Tg.zero.vars.length gv) (.slice ek Tg.zero.keys.length gk2) (.string ⟨#[]⟩) (.string ⟨#[]⟩) (.string ⟨#[]⟩) (.slice none 0 0) (.slice none 0 0) w')) := fun W h => by
        have hb := names_last h
        refine (same_any W _ _ a a ((HRA.out.below HW.out).below hb) ((HRA.out.below HW.out).below hb)).mono ?_
        rintro e w' ⟨rfl, hb'⟩
        exact ⟨by rw [sameB_refl], KS.out w' (hb.then hb')⟩
      generalize sameB a b = q at *
      have S0 := KS.out W8.drew ((Below.refl _ _).drew)
      clear HA HB HN H9 HRA HRB HR2 HR9 HR4 HB4 HB24 LA4 LB4 LN4 KS
      go_region_held3 (fun W => W.cell? ⟨w.heap.size, 0, none⟩ = some (.string ⟨a.lang.toArray⟩) ∧ W.cell? ⟨w.heap.size, 1, none⟩ = some (.string ⟨a.script.toArray⟩) ∧ W.cell? ⟨w.heap.size, 2, none⟩ = some (.string ⟨a.region.toArray⟩) ∧ W.cell? ⟨w.heap.size, 3, none⟩ = some (.slice av a.vars.length cv) ∧ W.cell? ⟨w.heap.size, 4, none⟩ = some (.slice ak a.keys.length ck) ∧ W.cell? ⟨w.heap.size + 1, 0, none⟩ = some (.string ⟨b.lang.toArray⟩) ∧ W.cell? ⟨w.heap.size + 1, 1, none⟩ = some (.string ⟨b.script.toArray⟩) ∧ W.cell? ⟨w.heap.size + 1, 2, none⟩ = some (.string ⟨b.region.toArray⟩) ∧ W.cell? ⟨w.heap.size + 1, 3, none⟩ = some (.slice bv b.vars.length dv) ∧ W.cell? ⟨w.heap.size + 1, 4, none⟩ = some (.slice bk b.keys.length dk) ∧ W.cell? ⟨w2.heap.size, 0, none⟩ = some (.string ⟨Tg.zero.lang.toArray⟩) ∧ W.cell? ⟨w2.heap.size, 1, none⟩ = some (.string ⟨Tg.zero.script.toArray⟩) ∧ W.cell? ⟨w2.heap.size, 2, none⟩ = some (.string ⟨Tg.zero.region.toArray⟩) ∧ W.cell? ⟨w2.heap.size, 3, none⟩ = some (.slice ev Tg.zero.vars.length gv) ∧ W.cell? ⟨w2.heap.size, 4, none⟩ = some (.slice ek Tg.zero.keys.length gk2) ∧ W.cell? ⟨w4.heap.size, 0, none⟩ = some (.string ⟨#[]⟩) ∧ W.cell? ⟨w4.heap.size, 1, none⟩ = some (.string ⟨#[]⟩) ∧ W.cell? ⟨w4.heap.size, 2, none⟩ = some (.string ⟨#[]⟩) ∧ W.cell? ⟨w4.heap.size, 3, none⟩ = some (.slice none 0 0) ∧ W.cell? ⟨w4.heap.size, 4, none⟩ = some (.slice none 0 0) ∧ Below W8.heap.size W8 W) (first | assumption) (first | (go_at_call 8; (with_reducible refine (KR9.out _ (by assumption)).mono ?_); rintro e w' ⟨rfl, hs⟩) | (go_at_call 8; (with_reducible refine (KAB.out _ (by assumption)).mono ?_); rintro e w' ⟨rfl, hs⟩) | (go_at_call 11; (with_reducible refine (TAB.out _ (by assumption)).mono ?_); rintro e w' ⟨rfl, hs⟩) | (go_at_call 11; (with_reducible refine (TAA.out _ (by assumption)).mono ?_); rintro e w' ⟨rfl, hs⟩))
      all_goals go_wp2_with fail
      all_goals (go_ret; exact ⟨by first | rfl | simp, HW.out.then (names_last ‹_›)⟩)
  · have heb : (x.err != 0) = true := by rw [bne_iff_ne]; exact he
    have heb3 : ((x.err : Int) != 0) = true := by rw [bne_iff_ne]; omega
    have heb2 : (x.err == 0) = false := by rw [beq_eq_false_iff_ne]; exact he
    have heb4 : ((x.err : Int) == 0) = false := by rw [beq_eq_false_iff_ne]; omega
    have hi : is = false := by rw [HIS.out, heb2]; rfl
    have hnt : nt = Tg.zero := by rw [HNT.out, if_neg (by rw [hi]; simp)]
    clear HIS HNT HG
    have H96 := H95
    have HA6 := HA5
    have HB6 := HB5
    have HN6 := HN5
    have HW6 := HW5
    have HB46 := HB45
    clear H95 HA5 HB5 HN5 HW5 HB45 he
    obtain ⟨c0, c1, c2, c3, c4⟩ := box_cells H96.out
    have fz0 := frozen_of_row _ w4.heap.size 0 _ _ H96.out
    have fz1 := frozen_of_row _ w4.heap.size 1 _ _ H96.out
    have fz2 := frozen_of_row _ w4.heap.size 2 _ _ H96.out
    have fz3 := frozen_of_row _ w4.heap.size 3 _ _ H96.out
    have fz4 := frozen_of_row _ w4.heap.size 4 _ _ H96.out
    have hst := lt_of_block H96.out
    go_wp2_with fail
    clear fz0 fz1 fz2 fz3 fz4 hst c0 c1 c2 c3 c4
    have hb9 := below2 w4 (.cells #[.string ⟨#[]⟩, .string ⟨#[]⟩, .string ⟨#[]⟩, .slice none 0 0, .slice none 0 0] 26) (.cells #[.int .i64 (x.err : Int), .int .i64 (x.pos : Int)] 29)
    have h9 := heap_alloc2_old w4 (.cells #[.string ⟨#[]⟩, .string ⟨#[]⟩, .string ⟨#[]⟩, .slice none 0 0, .slice none 0 0] 26) (.cells #[.int .i64 (x.err : Int), .int .i64 (x.pos : Int)] 29)
    have ha9 := (hb9.block _ LA4.out).trans HA4.out
    have hb9b := (hb9.block _ LB4.out).trans HB4.out
    have hn9 := (hb9.block _ LN4.out).trans HN4.out
    have hw9 := HW4.out.then hb9
    clear H96 HA6 HB6 HN6 HW6 HB46 HA4 HB4 HN4
    generalize ((w4.alloc (.cells #[.string ⟨#[]⟩, .string ⟨#[]⟩, .string ⟨#[]⟩, .slice none 0 0, .slice none 0 0] 26)).alloc (.cells #[.int .i64 (x.err : Int), .int .i64 (x.pos : Int)] 29)) = W8 at *
    have H9 := hid h9
    have HA := hid ha9
    have HB := hid hb9b
    have HN := hid hn9
    have HW := hid hw9
    have HB4 := hid hb9
    clear h9 hw9 hb9 ha9 hb9b hn9
    subst hnt
    subst hi
    have HR9 := hid (RdT.zero w4)
    simp only [tagCells, S, vnil] at HR9
    have KS := hid (fun W hb => names_keep HA.out HB.out HN.out H9.out W hb)
    have KR9 : Hid (∀ W, NamesS W8 (w.heap.size) (w.heap.size + 1) (w2.heap.size) (w4.heap.size) (.string ⟨a.lang.toArray⟩) (.string ⟨a.script.toArray⟩) (.string ⟨a.region.toArray⟩) (.slice av a.vars.length cv) (.slice ak a.keys.length ck) (.string ⟨b.lang.toArray⟩) (.string ⟨b.script.toArray⟩) (.string ⟨b.region.toArray⟩) (.slice bv b.vars.length dv) (.slice bk b.keys.length dk) (.string ⟨Tg.zero.lang.toArray⟩) (.string ⟨Tg.zero.script.toArray⟩) (.string ⟨Tg.zero.region.toArray⟩) (.slice ev Tg.zero.vars.length gv) (.slice ek Tg.zero.keys.length gk2) (.string ⟨#[]⟩) (.string ⟨#[]⟩) (.string ⟨#[]⟩) (.slice none 0 0) (.slice none 0 0) W → Calls Tryz.prog 8 #[.agg #[.string ⟨Tg.zero.lang.toArray⟩, .string ⟨Tg.zero.script.toArray⟩, .string ⟨Tg.zero.region.toArray⟩, .slice ev Tg.zero.vars.length gv, .slice ek Tg.zero.keys.length gk2], .agg #[.string ⟨#[]⟩, .string ⟨#[]⟩, .string ⟨#[]⟩, .slice none 0 0, .slice none 0 0]] W (fun e w' => e = .returned (.bool true) ∧ NamesS W8 (w.heap.size) (w.heap.size + 1) (w2.heap.size) (w4.heap.size) (.string ⟨a.lang.toArray⟩) (.string ⟨a.script.toArray⟩) (.string ⟨a.region.toArray⟩) (.slice av a.vars.length cv) (.slice ak a.keys.length ck) (.string ⟨b.lang.toArray⟩) (.string ⟨b.script.toArray⟩) (.string ⟨b.region.toArray⟩) (.slice bv b.vars.length dv) (.slice bk b.keys.length dk) (.string ⟨Tg.zero.lang.toArray⟩) (.string ⟨Tg.zero.script.toArray⟩) (.string ⟨Tg.zero.region.toArray⟩) (.slice ev Tg.zero.vars.length gv) (.slice ek Tg.zero.keys.length gk2) (.string ⟨#[]⟩) (.string ⟨#[]⟩) (.string ⟨#[]⟩) (.slice none 0 0) (.slice none 0 0) w')) := fun W h => by
      have hb := names_last h
      refine (rsame_any W _ _ Tg.zero Tg.zero ((HR2.out.below (HB24.out.then HB4.out)).below hb) ((HR9.out.below HB4.out).below hb)).mono ?_
      rintro e w' ⟨rfl, hb'⟩
      exact ⟨by rw [sameB_refl], KS.out w' (hb.then hb')⟩
    have KAB : Hid (∀ W, NamesS W8 (w.heap.size) (w.heap.size + 1) (w2.heap.size) (w4.heap.size) (.string ⟨a.lang.toArray⟩) (.string ⟨a.script.toArray⟩) (.string ⟨a.region.toArray⟩) (.slice av a.vars.length cv) (.slice ak a.keys.length ck) (.string ⟨b.lang.toArray⟩) (.string ⟨b.script.toArray⟩) (.string ⟨b.region.toArray⟩) (.slice bv b.vars.length dv) (.slice bk b.keys.length dk) (.string ⟨Tg.zero.lang.toArray⟩) (.string ⟨Tg.zero.script.toArray⟩) (.string ⟨Tg.zero.region.toArray⟩) (.slice ev Tg.zero.vars.length gv) (.slice ek Tg.zero.keys.length gk2) (.string ⟨#[]⟩) (.string ⟨#[]⟩) (.string ⟨#[]⟩) (.slice none 0 0) (.slice none 0 0) W → Calls Tryz.prog 8 #[.agg #[.string ⟨a.lang.toArray⟩, .string ⟨a.script.toArray⟩, .string ⟨a.region.toArray⟩, .slice av a.vars.length cv, .slice ak a.keys.length ck], .agg #[.string ⟨b.lang.toArray⟩, .string ⟨b.script.toArray⟩, .string ⟨b.region.toArray⟩, .slice bv b.vars.length dv, .slice bk b.keys.length dk]] W (fun e w' => e = .returned (.bool (sameB a b)) ∧ NamesS W8 (w.heap.size) (w.heap.size + 1) (w2.heap.size) (w4.heap.size) (.string ⟨a.lang.toArray⟩) (.string ⟨a.script.toArray⟩) (.string ⟨a.region.toArray⟩) (.slice av a.vars.length cv) (.slice ak a.keys.length ck) (.string ⟨b.lang.toArray⟩) (.string ⟨b.script.toArray⟩) (.string ⟨b.region.toArray⟩) (.slice bv b.vars.length dv) (.slice bk b.keys.length dk) (.string ⟨Tg.zero.lang.toArray⟩) (.string ⟨Tg.zero.script.toArray⟩) (.string ⟨Tg.zero.region.toArray⟩) (.slice ev Tg.zero.vars.length gv) (.slice ek Tg.zero.keys.length gk2) (.string ⟨#[]⟩) (.string ⟨#[]⟩) (.string ⟨#[]⟩) (.slice none 0 0) (.slice none 0 0) w')) := fun W h => by
      have hb := names_last h
      refine (rsame_any W _ _ a b ((HRA.out.below HW.out).below hb) ((HRB.out.below HW.out).below hb)).mono ?_
      rintro e w' ⟨rfl, hb'⟩
      exact ⟨rfl, KS.out w' (hb.then hb')⟩
    have TAB : Hid (∀ W, NamesS W8 (w.heap.size) (w.heap.size + 1) (w2.heap.size) (w4.heap.size) (.string ⟨a.lang.toArray⟩) (.string ⟨a.script.toArray⟩) (.string ⟨a.region.toArray⟩) (.slice av a.vars.length cv) (.slice ak a.keys.length ck) (.string ⟨b.lang.toArray⟩) (.string ⟨b.script.toArray⟩) (.string ⟨b.region.toArray⟩) (.slice bv b.vars.length dv) (.slice bk b.keys.length dk) (.string ⟨Tg.zero.lang.toArray⟩) (.string ⟨Tg.zero.script.toArray⟩) (.string ⟨Tg.zero.region.toArray⟩) (.slice ev Tg.zero.vars.length gv) (.slice ek Tg.zero.keys.length gk2) (.string ⟨#[]⟩) (.string ⟨#[]⟩) (.string ⟨#[]⟩) (.slice none 0 0) (.slice none 0 0) W → Calls Tryz.prog 11 #[.agg #[.string ⟨a.lang.toArray⟩, .string ⟨a.script.toArray⟩, .string ⟨a.region.toArray⟩, .slice av a.vars.length cv, .slice ak a.keys.length ck], .agg #[.string ⟨b.lang.toArray⟩, .string ⟨b.script.toArray⟩, .string ⟨b.region.toArray⟩, .slice bv b.vars.length dv, .slice bk b.keys.length dk]] W (fun e w' => e = .returned (.bool (sameB a b)) ∧ NamesS W8 (w.heap.size) (w.heap.size + 1) (w2.heap.size) (w4.heap.size) (.string ⟨a.lang.toArray⟩) (.string ⟨a.script.toArray⟩) (.string ⟨a.region.toArray⟩) (.slice av a.vars.length cv) (.slice ak a.keys.length ck) (.string ⟨b.lang.toArray⟩) (.string ⟨b.script.toArray⟩) (.string ⟨b.region.toArray⟩) (.slice bv b.vars.length dv) (.slice bk b.keys.length dk) (.string ⟨Tg.zero.lang.toArray⟩) (.string ⟨Tg.zero.script.toArray⟩) (.string ⟨Tg.zero.region.toArray⟩) (.slice ev Tg.zero.vars.length gv) (.slice ek Tg.zero.keys.length gk2) (.string ⟨#[]⟩) (.string ⟨#[]⟩) (.string ⟨#[]⟩) (.slice none 0 0) (.slice none 0 0) w')) := fun W h => by
      have hb := names_last h
      refine (same_any W _ _ a b ((HRA.out.below HW.out).below hb) ((HRB.out.below HW.out).below hb)).mono ?_
      rintro e w' ⟨rfl, hb'⟩
      exact ⟨rfl, KS.out w' (hb.then hb')⟩
    have TAA : Hid (∀ W, NamesS W8 (w.heap.size) (w.heap.size + 1) (w2.heap.size) (w4.heap.size) (.string ⟨a.lang.toArray⟩) (.string ⟨a.script.toArray⟩) (.string ⟨a.region.toArray⟩) (.slice av a.vars.length cv) (.slice ak a.keys.length ck) (.string ⟨b.lang.toArray⟩) (.string ⟨b.script.toArray⟩) (.string ⟨b.region.toArray⟩) (.slice bv b.vars.length dv) (.slice bk b.keys.length dk) (.string ⟨Tg.zero.lang.toArray⟩) (.string ⟨Tg.zero.script.toArray⟩) (.string ⟨Tg.zero.region.toArray⟩) (.slice ev Tg.zero.vars.length gv) (.slice ek Tg.zero.keys.length gk2) (.string ⟨#[]⟩) (.string ⟨#[]⟩) (.string ⟨#[]⟩) (.slice none 0 0) (.slice none 0 0) W → Calls Tryz.prog 11 #[.agg #[.string ⟨a.lang.toArray⟩, .string ⟨a.script.toArray⟩, .string ⟨a.region.toArray⟩, .slice av a.vars.length cv, .slice ak a.keys.length ck], .agg #[.string ⟨a.lang.toArray⟩, .string ⟨a.script.toArray⟩, .string ⟨a.region.toArray⟩, .slice av a.vars.length cv, .slice ak a.keys.length ck]] W (fun e w' => e = .returned (.bool true) ∧ NamesS W8 (w.heap.size) (w.heap.size + 1) (w2.heap.size) (w4.heap.size) (.string ⟨a.lang.toArray⟩) (.string ⟨a.script.toArray⟩) (.string ⟨a.region.toArray⟩) (.slice av a.vars.length cv) (.slice ak a.keys.length ck) (.string ⟨b.lang.toArray⟩) (.string ⟨b.script.toArray⟩) (.string ⟨b.region.toArray⟩) (.slice bv b.vars.length dv) (.slice bk b.keys.length dk) (.string ⟨Tg.zero.lang.toArray⟩) (.string ⟨Tg.zero.script.toArray⟩) (.string ⟨Tg.zero.region.toArray⟩) (.slice ev Tg.zero.vars.length gv) (.slice ek Tg.zero.keys.length gk2) (.string ⟨#[]⟩) (.string ⟨#[]⟩) (.string ⟨#[]⟩) (.slice none 0 0) (.slice none 0 0) w')) := fun W h => by
      have hb := names_last h
      refine (same_any W _ _ a a ((HRA.out.below HW.out).below hb) ((HRA.out.below HW.out).below hb)).mono ?_
      rintro e w' ⟨rfl, hb'⟩
      exact ⟨by rw [sameB_refl], KS.out w' (hb.then hb')⟩
    generalize sameB a b = q at *
    have S0 := KS.out W8.drew ((Below.refl _ _).drew)
    clear HA HB HN H9 HRA HRB HR2 HR9 HR4 HB4 HB24 LA4 LB4 LN4 KS
    go_region_held3 (fun W => W.cell? ⟨w.heap.size, 0, none⟩ = some (.string ⟨a.lang.toArray⟩) ∧ W.cell? ⟨w.heap.size, 1, none⟩ = some (.string ⟨a.script.toArray⟩) ∧ W.cell? ⟨w.heap.size, 2, none⟩ = some (.string ⟨a.region.toArray⟩) ∧ W.cell? ⟨w.heap.size, 3, none⟩ = some (.slice av a.vars.length cv) ∧ W.cell? ⟨w.heap.size, 4, none⟩ = some (.slice ak a.keys.length ck) ∧ W.cell? ⟨w.heap.size + 1, 0, none⟩ = some (.string ⟨b.lang.toArray⟩) ∧ W.cell? ⟨w.heap.size + 1, 1, none⟩ = some (.string ⟨b.script.toArray⟩) ∧ W.cell? ⟨w.heap.size + 1, 2, none⟩ = some (.string ⟨b.region.toArray⟩) ∧ W.cell? ⟨w.heap.size + 1, 3, none⟩ = some (.slice bv b.vars.length dv) ∧ W.cell? ⟨w.heap.size + 1, 4, none⟩ = some (.slice bk b.keys.length dk) ∧ W.cell? ⟨w2.heap.size, 0, none⟩ = some (.string ⟨Tg.zero.lang.toArray⟩) ∧ W.cell? ⟨w2.heap.size, 1, none⟩ = some (.string ⟨Tg.zero.script.toArray⟩) ∧ W.cell? ⟨w2.heap.size, 2, none⟩ = some (.string ⟨Tg.zero.region.toArray⟩) ∧ W.cell? ⟨w2.heap.size, 3, none⟩ = some (.slice ev Tg.zero.vars.length gv) ∧ W.cell? ⟨w2.heap.size, 4, none⟩ = some (.slice ek Tg.zero.keys.length gk2) ∧ W.cell? ⟨w4.heap.size, 0, none⟩ = some (.string ⟨#[]⟩) ∧ W.cell? ⟨w4.heap.size, 1, none⟩ = some (.string ⟨#[]⟩) ∧ W.cell? ⟨w4.heap.size, 2, none⟩ = some (.string ⟨#[]⟩) ∧ W.cell? ⟨w4.heap.size, 3, none⟩ = some (.slice none 0 0) ∧ W.cell? ⟨w4.heap.size, 4, none⟩ = some (.slice none 0 0) ∧ Below W8.heap.size W8 W) (first | assumption) (first | (go_at_call 8; (with_reducible refine (KR9.out _ (by assumption)).mono ?_); rintro e w' ⟨rfl, hs⟩) | (go_at_call 8; (with_reducible refine (KAB.out _ (by assumption)).mono ?_); rintro e w' ⟨rfl, hs⟩) | (go_at_call 11; (with_reducible refine (TAB.out _ (by assumption)).mono ?_); rintro e w' ⟨rfl, hs⟩) | (go_at_call 11; (with_reducible refine (TAA.out _ (by assumption)).mono ?_); rintro e w' ⟨rfl, hs⟩))
    all_goals go_wp2_with fail
    all_goals (go_ret; exact ⟨by first | rfl | simp, HW.out.then (names_last ‹_›)⟩)
end Go.Proofs.YtjgeoaaklneojaaGreat

