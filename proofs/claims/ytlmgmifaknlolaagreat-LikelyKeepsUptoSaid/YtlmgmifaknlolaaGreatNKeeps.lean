/- Several texts in one: LkKeeps, LikelyKeeps. (joined by wip/merge.py) -/
import Derived.Test.YtlmgmifaknlolaaGreatNE
import Derived.Deep.LoopGhost
import Derived.Deep.CutBlock
import Derived.Test.YtlmgmifaknlolaaGreatRows
import Derived.WalkKit
import Derived.ProofKit
import Derived.OpenShut
import Derived.ShutString
import Derived.ChangeOld
import Derived.ChangeSlices
import Derived.ChangeArms
import Derived.Below

/- The walk of the law LikelyKeeps. -/
set_option linter.unusedVariables false
set_option linter.unusedSimpArgs false
namespace Go.Proofs.YtlmgmifaknlolaaGreat
open Go.RowKit Go.Lib Go.Sort Go.Maps

set_option maxRecDepth 100000 in
theorem index32_0 (w : World) (a0 a1 a2 a3 a4 a5 : Str) : (Instr.index 40 (.agg #[.string ⟨a0.toArray⟩, .string ⟨a1.toArray⟩, .string ⟨a2.toArray⟩, .string ⟨a3.toArray⟩, .string ⟨a4.toArray⟩, .string ⟨a5.toArray⟩]) (.int .i64 0)).run Tryz.prog w = .ok (.agg #[.string ⟨a0.toArray⟩, .string ⟨a1.toArray⟩]) w := by kernel_rfl
set_option maxRecDepth 100000 in
theorem index32_1 (w : World) (a0 a1 a2 a3 a4 a5 : Str) : (Instr.index 40 (.agg #[.string ⟨a0.toArray⟩, .string ⟨a1.toArray⟩, .string ⟨a2.toArray⟩, .string ⟨a3.toArray⟩, .string ⟨a4.toArray⟩, .string ⟨a5.toArray⟩]) (.int .i64 1)).run Tryz.prog w = .ok (.agg #[.string ⟨a2.toArray⟩, .string ⟨a3.toArray⟩]) w := by kernel_rfl
set_option maxRecDepth 100000 in
theorem index32_2 (w : World) (a0 a1 a2 a3 a4 a5 : Str) : (Instr.index 40 (.agg #[.string ⟨a0.toArray⟩, .string ⟨a1.toArray⟩, .string ⟨a2.toArray⟩, .string ⟨a3.toArray⟩, .string ⟨a4.toArray⟩, .string ⟨a5.toArray⟩]) (.int .i64 2)).run Tryz.prog w = .ok (.agg #[.string ⟨a4.toArray⟩, .string ⟨a5.toArray⟩]) w := by kernel_rfl

set_option maxRecDepth 100000 in
set_option maxHeartbeats 16000000 in
theorem keeps_law (w : World) (va v : Value) (D : List (Str × Str)) (t : Tg) (hl : RdP w va D) (hp : PSz D) (hT : RdTc w v t) (hz : szT t ≤ 1000000000) :
    Calls Tryz.prog 5 #[va, v] w fun e w' => e = .returned (.bool true) ∧ Below w.heap.size w w' := by
  obtain ⟨av, cv, ak, ck, rfl, hS, hP, hcv, hck⟩ := hT
  have HT := hid (RdTc.short ⟨av, cv, ak, ck, rfl, hS, hP, hcv, hck⟩)
  have HL := hid hl
  have HP := hid hp
  have HZ := hid (Nat.le_trans (short_sz t) hz)
  have HV := hid (short_vars t)
  have HK := hid (short_keys t)
  clear hp hz hS hP
  have ST0 := hid (show LawS0 w t (.slice av t.vars.length cv) (.slice ak t.keys.length ck) (w.alloc (.cells (tagCells t (.slice av t.vars.length cv) (.slice ak t.keys.length ck)) 25)) from ⟨heap_alloc_new w _, (Below.refl _ _).alloc (Nat.le_refl _) _⟩)
  obtain ⟨ao, cp, rfl, _, _⟩ := hl
  simp only [tagCells, S] at ST0 HT ⊢
  go_enter Tryz.func5, Tryz.ntmps5
  go_upto_region 1 with fail
  generalize w.alloc (.cells #[.string ⟨t.lang.toArray⟩, .string ⟨t.script.toArray⟩, .string ⟨t.region.toArray⟩, .slice av t.vars.length cv, .slice ak t.keys.length ck] 25) = w0 at *
  go_wp2_with fail
  refine (lwakes_any _).mono ?_
  rintro e w1 ⟨rfl, hb1⟩
  have ST1 := hid (ST0.out.below hb1)
  clear hb1 ST0
  go_upto_region 3 with fail
  have CA := hid (fun W (h : LawS0 w t (.slice av t.vars.length cv) (.slice ak t.keys.length ck) W) => cut_at h HL.out HP.out)
  have SA := hid (fun W (h : LawS0 w t (.slice av t.vars.length cv) (.slice ak t.keys.length ck) W) => short_at h hcv hck)
  have s1d : LawS0 w t (.slice av t.vars.length cv) (.slice ak t.keys.length ck) w1.drew := ⟨ST1.out.bt, ST1.out.bel.drew⟩
  obtain ⟨c0, c1, c2, c3, c4⟩ := box_cells ST1.out.bt
  have lt0 := lt_of_block ST1.out.bt
  simp only [S] at c0 c1 c2 CA SA
  generalize hn1 : (t.vars.take 12).length = n1 at *
  generalize hn2 : (t.keys.take 20).length = n2 at *
  go_cut [0] from 15 to 18 (fun vx wx => ∃ a c, vx = .slice a (cutF D).length c ∧ LawSt w D (shortF t) (.slice av n1 cv) (.slice ak n2 ck) vx wx)
  case first =>
    go_region_with (first
      | (go_at_call 10; (with_reducible refine (CA.out _ (by assumption)).mono ?_); rintro e wC ⟨a1, e1, rfl, oC, sC, x0, x1, x2, x3, x4⟩)
      | (go_at_call 11; (with_reducible refine (SA.out _ (by assumption)).mono ?_); rintro e wS ⟨rfl, kS, sS, ⟨y0, y1, y2, y3, y4⟩, z0, z1, z2, z3, z4, lS⟩))
    all_goals
      go_wp2_with fail
      go_meet
      have he := law_end sS (kS D _ oC)
      rw [hn1, hn2] at he
      exact ⟨a1, e1, rfl, he⟩
  case rest =>
    obtain ⟨a1, e1, rfl, st⟩ := hcut
    have ST2 := hid st
    clear st CA SA s1d c0 c1 c2 c3 c4 lt0 ST1
    go_wp2_with fail
    refine (made_any wc a1 e1 (cutF D) ST2.out.own.rd (own_capP ST2.out.own) (cut_sz D) (Nat.le_trans (cut_len D) (by decide))).mono ?_
    rintro e w3 ⟨vc, rfl, hm, hb3⟩
    have ST3 := hid (ST2.out.below hb3)
    clear hb3 ST2
    rcases hm with ⟨hbad, hC⟩ | ⟨hbad, rfl⟩
    · have HC := hid hC
      have HGD := hid (goodD_of (badL_ok hbad).1)
      have HSD := hid (badL_ok hbad).2
      obtain ⟨bc, bm, nn, rfl, _, _, _⟩ := hC
      clear hbad
      have AD3 := hid (fun W (hb : Below w3.heap.size w3 W) => tadd_any W _ _ (dOf (cutF D)) (shortF t) (HC.out.below hb) (HT.out.rd.below (ST3.out.bel.then hb)) HV.out HK.out HZ.out HGD.out)
      have RM3 := hid (fun W (hb : Below w3.heap.size w3 W) => trem_any W _ _ (dOf (cutF D)) (shortF t) (HC.out.below hb) (HT.out.rd.below (ST3.out.bel.then hb)) HV.out HK.out HZ.out HGD.out)
      generalize shortF t = u at *
      have HA0 := hid (show ∀ q, addT (dOf (cutF D)) u = q → addT (dOf (cutF D)) u = q from fun _ h => h)
      obtain ⟨c0, c1, c2, c3, c4⟩ := box_cells ST3.out.bt
      have lt0 := lt_of_block ST3.out.bt
      simp only [S] at c0 c1 c2
      go_wp2_with fail
      refine (AD3.out _ (Below.refl _ _)).mono ?_
      rintro e w4 ⟨v', rfl, own4, hb4⟩
      clear AD3
      generalize hq : addT (dOf (cutF D)) u = q at *
      have HA := hid hq
      obtain ⟨m, ok⟩ := q
      clear hq HA0
      simp only at own4 ⊢
      obtain ⟨b1, g1, b2, g2, rfl⟩ := own4.shape
      have ST4 := hid (ST3.out.below hb4)
      have HU4 := hid hb4
      clear own4 hb4 c0 c1 c2 c3 c4 lt0 ST3
      go_upto_region 8 with fail
      have HX5 := hid (heap_alloc_new w4 (.cells #[.string ⟨m.lang.toArray⟩, .string ⟨m.script.toArray⟩, .string ⟨m.region.toArray⟩, .slice b1 m.vars.length g1, .slice b2 m.keys.length g2] 25))
      have hb5 : Below w4.heap.size w4 (w4.alloc (.cells #[.string ⟨m.lang.toArray⟩, .string ⟨m.script.toArray⟩, .string ⟨m.region.toArray⟩, .slice b1 m.vars.length g1, .slice b2 m.keys.length g2] 25)) := (Below.refl _ _).alloc (Nat.le_refl _) _
      generalize w4.alloc (.cells #[.string ⟨m.lang.toArray⟩, .string ⟨m.script.toArray⟩, .string ⟨m.region.toArray⟩, .slice b1 m.vars.length g1, .slice b2 m.keys.length g2] 25) = w5 at *
      have ST5 := hid (ST4.out.below hb5)
      have HU5 := hid (HU4.out.then hb5)
      clear hb5 ST4 HU4
      go_upto_if 33 with fail
      go_cut [] from 34 to 68 (fun wx => LawSt w D u (.slice av n1 cv) (.slice ak n2 ck) (.slice a1 (cutF D).length e1) wx ∧ Below w3.heap.size w3 wx ∧ wx.heap[w4.heap.size]? = some (.cells #[.string ⟨m.lang.toArray⟩, .string ⟨m.script.toArray⟩, .string ⟨m.region.toArray⟩, .slice b1 m.vars.length g1, .slice b2 m.keys.length g2] 25 (0, 0)))
      case first =>
       cases ok with
       | false =>
         go_wp2_with fail
         go_meet
         case rel => exact ⟨ST5.out, HU5.out, HX5.out⟩
       | true =>
        have HKA := hid (keeps_add HSD.out HA.out)
        obtain ⟨c0, c1, c2, c3, c4⟩ := box_cells ST5.out.bt
        obtain ⟨d0, d1, d2, d3, d4⟩ := box_cells HX5.out
        have lt0 := lt_of_block ST5.out.bt
        have ltx := lt_of_block HX5.out
        simp only [S] at c0 c1 c2
        go_wp2_with fail
        clear c0 c1 c2 c3 c4 d0 d1 d2 d3 d4 lt0 ltx
        go_loopg [50] 3 (fun g vi wx => ∃ n : Nat, n ≤ 3 ∧ 3 ≤ n + g ∧ vi = .int .i64 n ∧ LawSt w D u (.slice av n1 cv) (.slice ak n2 ck) (.slice a1 (cutF D).length e1) wx ∧ Below w3.heap.size w3 wx ∧ wx.heap[w4.heap.size]? = some (.cells #[.string ⟨m.lang.toArray⟩, .string ⟨m.script.toArray⟩, .string ⟨m.region.toArray⟩, .slice b1 m.vars.length g1, .slice b2 m.keys.length g2] 25 (0, 0)))
        case atStart => exact ⟨0, by omega, by omega, rfl, ST5.out, HU5.out, HX5.out⟩
        case round =>
         obtain ⟨n, hn, hg, hvi, st, hu, hx⟩ := hrel
         rename World => w6
         have ST6 := hid st
         have HU6 := hid hu
         have HX6 := hid hx
         have HG := hid hg
         clear st hu hx hg ST5 HU5 HX5
         rcases (by omega : n = 0 ∨ n = 1 ∨ n = 2 ∨ n = 3) with rfl | rfl | rfl | rfl
         · have hvi0 : _ = Value.int .i64 0 := hvi
           subst hvi0
           have hix := index32_0 w6 u.lang m.lang u.script m.script u.region m.region
           go_upto_region 12 with fail
           have HP7 := hid (heap_alloc_new w6 (.cells #[.string ⟨u.lang.toArray⟩, .string ⟨m.lang.toArray⟩] 39))
           have hb7 : Below w6.heap.size w6 (w6.alloc (.cells #[.string ⟨u.lang.toArray⟩, .string ⟨m.lang.toArray⟩] 39)) := (Below.refl _ _).alloc (Nat.le_refl _) _
           generalize w6.alloc (.cells #[.string ⟨u.lang.toArray⟩, .string ⟨m.lang.toArray⟩] 39) = w7 at *
           have ST7 := hid (ST6.out.below hb7)
           have HX7 := hid ((hb7.block _ (lt_of_block HX6.out)).trans HX6.out)
           have HU7 := hid (HU6.out.then hb7)
           clear hb7 hix ST6 HX6 HU6
           have x0 : w7.cell? ⟨w6.heap.size, 0, none⟩ = some (.string ⟨u.lang.toArray⟩) := by rw [cell_of_row _ _ _ _ _ _ HP7.out]; rfl
           have x1 : w7.cell? ⟨w6.heap.size, 1, none⟩ = some (.string ⟨m.lang.toArray⟩) := by rw [cell_of_row _ _ _ _ _ _ HP7.out]; rfl
           have ltp := lt_of_block HP7.out
           have q0 : List.isEmpty m.lang = false := isEmpty_no (HKA.out.1.1)
           by_cases hx : u.lang = []
           · have p0 : List.isEmpty u.lang = true := by rw [hx]; rfl
             clear hx
             go_wp2_with fail
             go_roundg (gk - 1)
             case measure => have := HG.out; omega
             case rel => exact ⟨1, by omega, by have := HG.out; omega, rfl, ST7.out, HU7.out, HX7.out⟩
           · have p0 : List.isEmpty u.lang = false := isEmpty_no hx
             have hxy : (u.lang == m.lang) = true := by rw [HKA.out.2.1 hx]; simp
             clear hx
             go_wp2_with fail
             go_roundg (gk - 1)
             case measure => have := HG.out; omega
             case rel => exact ⟨1, by omega, by have := HG.out; omega, rfl, ST7.out, HU7.out, HX7.out⟩
         · have hvi1 : _ = Value.int .i64 1 := hvi
           subst hvi1
           have hix := index32_1 w6 u.lang m.lang u.script m.script u.region m.region
           go_upto_region 12 with fail
           have HP7 := hid (heap_alloc_new w6 (.cells #[.string ⟨u.script.toArray⟩, .string ⟨m.script.toArray⟩] 39))
           have hb7 : Below w6.heap.size w6 (w6.alloc (.cells #[.string ⟨u.script.toArray⟩, .string ⟨m.script.toArray⟩] 39)) := (Below.refl _ _).alloc (Nat.le_refl _) _
           generalize w6.alloc (.cells #[.string ⟨u.script.toArray⟩, .string ⟨m.script.toArray⟩] 39) = w7 at *
           have ST7 := hid (ST6.out.below hb7)
           have HX7 := hid ((hb7.block _ (lt_of_block HX6.out)).trans HX6.out)
           have HU7 := hid (HU6.out.then hb7)
           clear hb7 hix ST6 HX6 HU6
           have x0 : w7.cell? ⟨w6.heap.size, 0, none⟩ = some (.string ⟨u.script.toArray⟩) := by rw [cell_of_row _ _ _ _ _ _ HP7.out]; rfl
           have x1 : w7.cell? ⟨w6.heap.size, 1, none⟩ = some (.string ⟨m.script.toArray⟩) := by rw [cell_of_row _ _ _ _ _ _ HP7.out]; rfl
           have ltp := lt_of_block HP7.out
           have q0 : List.isEmpty m.script = false := isEmpty_no (HKA.out.1.2.1)
           by_cases hx : u.script = []
           · have p0 : List.isEmpty u.script = true := by rw [hx]; rfl
             clear hx
             go_wp2_with fail
             go_roundg (gk - 1)
             case measure => have := HG.out; omega
             case rel => exact ⟨2, by omega, by have := HG.out; omega, rfl, ST7.out, HU7.out, HX7.out⟩
           · have p0 : List.isEmpty u.script = false := isEmpty_no hx
             have hxy : (u.script == m.script) = true := by rw [HKA.out.2.2.1 hx]; simp
             clear hx
             go_wp2_with fail
             go_roundg (gk - 1)
             case measure => have := HG.out; omega
             case rel => exact ⟨2, by omega, by have := HG.out; omega, rfl, ST7.out, HU7.out, HX7.out⟩
         · have hvi2 : _ = Value.int .i64 2 := hvi
           subst hvi2
           have hix := index32_2 w6 u.lang m.lang u.script m.script u.region m.region
           go_upto_region 12 with fail
           have HP7 := hid (heap_alloc_new w6 (.cells #[.string ⟨u.region.toArray⟩, .string ⟨m.region.toArray⟩] 39))
           have hb7 : Below w6.heap.size w6 (w6.alloc (.cells #[.string ⟨u.region.toArray⟩, .string ⟨m.region.toArray⟩] 39)) := (Below.refl _ _).alloc (Nat.le_refl _) _
           generalize w6.alloc (.cells #[.string ⟨u.region.toArray⟩, .string ⟨m.region.toArray⟩] 39) = w7 at *
           have ST7 := hid (ST6.out.below hb7)
           have HX7 := hid ((hb7.block _ (lt_of_block HX6.out)).trans HX6.out)
           have HU7 := hid (HU6.out.then hb7)
           clear hb7 hix ST6 HX6 HU6
           have x0 : w7.cell? ⟨w6.heap.size, 0, none⟩ = some (.string ⟨u.region.toArray⟩) := by rw [cell_of_row _ _ _ _ _ _ HP7.out]; rfl
           have x1 : w7.cell? ⟨w6.heap.size, 1, none⟩ = some (.string ⟨m.region.toArray⟩) := by rw [cell_of_row _ _ _ _ _ _ HP7.out]; rfl
           have ltp := lt_of_block HP7.out
           have q0 : List.isEmpty m.region = false := isEmpty_no (HKA.out.1.2.2)
           by_cases hx : u.region = []
           · have p0 : List.isEmpty u.region = true := by rw [hx]; rfl
             clear hx
             go_wp2_with fail
             go_roundg (gk - 1)
             case measure => have := HG.out; omega
             case rel => exact ⟨3, by omega, by have := HG.out; omega, rfl, ST7.out, HU7.out, HX7.out⟩
           · have p0 : List.isEmpty u.region = false := isEmpty_no hx
             have hxy : (u.region == m.region) = true := by rw [HKA.out.2.2.2 hx]; simp
             clear hx
             go_wp2_with fail
             go_roundg (gk - 1)
             case measure => have := HG.out; omega
             case rel => exact ⟨3, by omega, by have := HG.out; omega, rfl, ST7.out, HU7.out, HX7.out⟩
         · have hvi3 : _ = Value.int .i64 3 := hvi
           subst hvi3
           go_wp2_with fail
           go_meet
           case rel => exact ⟨ST6.out, HU6.out, HX6.out⟩
      case rest =>
       obtain ⟨st, hu, hx⟩ := hcut
       have ST6 := hid st
       have HU6 := hid hu
       have HX6 := hid hx
       clear st hu hx ST5 HU5 HX5
       obtain ⟨c0, c1, c2, c3, c4⟩ := box_cells ST6.out.bt
       have lt0 := lt_of_block ST6.out.bt
       simp only [S] at c0 c1 c2
       go_wp2_with fail
       refine (RM3.out _ HU6.out).mono ?_
       rintro e w8 ⟨v', rfl, own8, hb8⟩
       clear RM3
       generalize hq : removeT (dOf (cutF D)) u = q at *
       have HR := hid hq
       obtain ⟨nn, is⟩ := q
       clear hq
       obtain rfl := keeps_ok HA.out HR.out
       simp only at own8 ⊢
       obtain ⟨b3, g3, b4, g4, rfl⟩ := own8.shape
       have ST8 := hid (ST6.out.below hb8)
       have HX8 := hid ((hb8.block _ (lt_of_block HX6.out)).trans HX6.out)
       clear own8 hb8 c0 c1 c2 c3 c4 lt0 ST6 HX6
       go_upto_region 16 with fail
       have HN9 := hid (heap_alloc_new w8 (.cells #[.string ⟨nn.lang.toArray⟩, .string ⟨nn.script.toArray⟩, .string ⟨nn.region.toArray⟩, .slice b3 nn.vars.length g3, .slice b4 nn.keys.length g4] 25))
       have hb9 : Below w8.heap.size w8 (w8.alloc (.cells #[.string ⟨nn.lang.toArray⟩, .string ⟨nn.script.toArray⟩, .string ⟨nn.region.toArray⟩, .slice b3 nn.vars.length g3, .slice b4 nn.keys.length g4] 25)) := (Below.refl _ _).alloc (Nat.le_refl _) _
       generalize w8.alloc (.cells #[.string ⟨nn.lang.toArray⟩, .string ⟨nn.script.toArray⟩, .string ⟨nn.region.toArray⟩, .slice b3 nn.vars.length g3, .slice b4 nn.keys.length g4] 25) = w9 at *
       have ST9 := hid (ST8.out.below hb9)
       have HX9 := hid ((hb9.block _ (lt_of_block HX8.out)).trans HX8.out)
       clear hb9 ST8 HX8
       obtain ⟨d0, d1, d2, d3, d4⟩ := box_cells HX9.out
       obtain ⟨e0, e1', e2, e3, e4⟩ := box_cells HN9.out
       have ltx := lt_of_block HX9.out
       have ltn := lt_of_block HN9.out
       cases is with
       | false =>
         go_wp2_with fail
         go_ret
         exact ⟨rfl, ST9.out.bel⟩
       | true =>
         obtain ⟨k0, k1, k2⟩ := keeps_remove HA.out HR.out
         have x0 : (nn.lang == m.lang) = true := by rw [k0]; simp
         by_cases h1 : nn.script = []
         · have p1' : List.isEmpty nn.script = true := by rw [h1]; rfl
           by_cases h2 : nn.region = []
           · have p2 : List.isEmpty nn.region = true := by rw [h2]; rfl
             clear k0 k1 k2 h1 h2
             go_wp2_with fail
             go_ret
             exact ⟨rfl, ST9.out.bel⟩
           · have p2 : List.isEmpty nn.region = false := isEmpty_no h2
             have x2 : (nn.region == m.region) = true := by rw [k2.resolve_left h2]; simp
             clear k0 k1 k2 h1 h2
             go_wp2_with fail
             go_ret
             exact ⟨rfl, ST9.out.bel⟩
         · have p1' : List.isEmpty nn.script = false := isEmpty_no h1
           have x1 : (nn.script == m.script) = true := by rw [k1.resolve_left h1]; simp
           by_cases h2 : nn.region = []
           · have p2 : List.isEmpty nn.region = true := by rw [h2]; rfl
             clear k0 k1 k2 h1 h2
             go_wp2_with fail
             go_ret
             exact ⟨rfl, ST9.out.bel⟩
           · have p2 : List.isEmpty nn.region = false := isEmpty_no h2
             have x2 : (nn.region == m.region) = true := by rw [k2.resolve_left h2]; simp
             clear k0 k1 k2 h1 h2
             go_wp2_with fail
             go_ret
             exact ⟨rfl, ST9.out.bel⟩
    · go_wp2_with fail
      go_ret
      exact ⟨rfl, ST3.out.bel⟩
end Go.Proofs.YtlmgmifaknlolaaGreat

/- LikelyKeeps: what a tag has it keeps when parts are added, and what is left has no part that it would not have, for every list of pairs and every tag. Condition: what came in is of bulk at most 1048576 (the form's own bound). -/
namespace Go.Proofs.YtlmgmifaknlolaaGreat
open Go.ChangeShapes Go.WideShapes Go.ChangeAt Go.RowKit
open Go.ChangeMaps (open_string shut_string)
set_option linter.unusedVariables false

theorem own : ownKnob Tryz.prog.godebug = none := by kernel_rfl

set_option maxRecDepth 100000 in
theorem lifted (os : Os) (started : os.Started) (H : Type) (enc : TypeId × Value → H) (F : Stop.Interp) :
    ReturnsInHanded {} Tryz.checked os 5 .any ((Rows.OpenSpec.upto Rows.likelyKeepsSpec).pre6 enc Tryz.prog Tryz.f5 Rows.likelyKeepsUptoRow.domain false) (((Rows.OpenSpec.upto Rows.likelyKeepsSpec).at F).post enc Tryz.prog Tryz.f5 false true false false) := by
  refine returnsInHanded_of_cond (C := Tryz.checked) (s := Rows.OpenSpec.upto Rows.likelyKeepsSpec) (k := Rows.uptoSmall) rfl own started (by kernel_rfl) Tryz.func5
    (OpenSpec.witness (enc := enc) (C := Tryz.checked) (s := Rows.OpenSpec.upto Rows.likelyKeepsSpec) (k := Rows.uptoSmall) rfl false ⟨#[], #[.slice none 0 0, .agg #[.string ByteArray.empty, .string ByteArray.empty, .string ByteArray.empty, .slice none 0 0, .slice none 0 0]], []⟩ 8 (by kernel_rfl) (by kernel_rfl) (by kernel_rfl)
      (x := ([.nil, .agg [.lit (.string []), .lit (.string []), .lit (.string []), .nil, .nil]], [], [])) (by kernel_rfl) rfl (by kernel_rfl)) ?_
  intro W base args ds gs before hval0 hW _ hk _
  have hval : ∀ (j : Nat) t v, Tryz.f5.params[j]? = some t → args[j]? = some v → Value.okWide Tryz.prog W .any base t v := hval0
  have hW' := hW
  obtain ⟨p, q, hA0, hV, rfl, hfz, hnd⟩ := hW
  have hA : DataW.TrodAll enc Tryz.prog W 0 (fun _ => true) true Tryz.f5.params.toList args.toList ds p := hA0
  rw [Tryz.params5] at hA hval
  obtain ⟨v0, vs0, d0, ds0, p0, q0, hargs, rfl, rfl, h0, r0⟩ := trodAll_cons hA
  obtain ⟨v1, vs1, d1, ds1, p1, q1, rfl, rfl, rfl, h1, r1⟩ := trodAll_cons r0
  obtain ⟨rfl, rfl, rfl⟩ := trodAll_nil r1
  obtain rfl : args = #[v0, v1] := by cases args; simp_all
  obtain ⟨rfl, rfl⟩ := trodVars_none hV
  obtain ⟨a0, len0, cap0, rfl⟩ := okWide_slice Tryz.underlying22 (hval 0 22 v0 rfl rfl)
  have k0 := h0
  have k1 := h1
  have lt0 : ∀ x ∈ p0, x.block < W.heap.size := by obtain ⟨m, hm⟩ := k0; exact DataW.trod_lt m _ _ _ hm
  have lt1 : ∀ x ∈ p1, x.block < W.heap.size := by obtain ⟨m, hm⟩ := k1; exact DataW.trod_lt m _ _ _ hm
  obtain ⟨l, rd, psz⟩ : ∃ l, RdP W (.slice a0 len0 cap0) l ∧ PSz l := by
    obtain ⟨fuel, hf⟩ := h0
    obtain ⟨ao, n, cp, l, e, rd, _, psz, _⟩ := open_rdP2 hf
    rw [← List.head_eq_of_cons_eq e] at rd
    exact ⟨l, rd, psz⟩
  obtain ⟨t1, rd1, sz1⟩ := open_tag2 (hval 1 25 v1 rfl rfl) h1
  have hz : szT t1 ≤ 1000000000 := by
    have hb : Rows.uptoBulkAll [d0, d1] ≤ 1048576 := of_decide_eq_true hk
    simp only [Rows.uptoBulkAll] at hb
    omega
  clear hA0 hval0
  refine (keeps_law W _ v1 l t1 rd psz rd1 hz).mono fun e W' ⟨he, bel⟩ => ?_
  subst he
  exact ⟨_, rfl, _, _, _, [], _, [], hW', trodAll_mk1 (shut_bool Tryz.underlying4 _), (trodAll_cons_mk (Below.trod laidOut (by kernel_rfl) (of_decide_eq_true (by kernel_rfl)) k0 bel lt0) (trodAll_cons_mk (Below.trod laidOut (by kernel_rfl) (of_decide_eq_true (by kernel_rfl)) k1 bel lt1) trodAll_mk0)), rfl, bel.frame _, fun h => by cases h⟩

/-- the statement -/
theorem likelyKeepsUpto : Rows.LikelyKeepsUptoSaid :=
  OpenClaim.holds_of_cond 5 Tryz.f5 rfl rfl rfl rfl rfl rfl rfl ⟨rfl, rfl, rfl, rfl, rfl⟩ rfl rfl rfl rfl rfl (by kernel_rfl) Tryz.func5 (by kernel_rfl)
    (of_decide_eq_true (by kernel_rfl)) (by unfold Func.isWrapper; first | (rw [if_pos (by decide +kernel)]; kernel_rfl) | (rw [if_neg (by decide +kernel)]; exact ⟨rfl, rfl⟩))
    (fun os started H enc _ F => lifted os started H enc F)
#print axioms likelyKeepsUpto
end Go.Proofs.YtlmgmifaknlolaaGreat
