/- Several texts in one: LkAdds, LikelyAdds. (joined by wip/merge.py) -/
import Derived.Test.YtlmgmifaknlolaaGreatNE
import Derived.Test.YtlmgmifaknlolaaGreatNF
import Derived.Test.YtlmgmifaknlolaaGreatNC
import Derived.Deep.LoopGhost
import Derived.Deep.CutBlock
import Derived.Test.YtlmgmifaknlolaaGreatRows
import Derived.WalkKit
import Derived.ProofKit
import Derived.OpenShut
import Derived.ShutString
import Derived.ChangeOld
import Derived.ChangeSlices
import Derived.ChangeArms
import Derived.Below

/- The walk of the law LikelyAdds. (printed by wip/gen_lklaw.py) -/
set_option linter.unusedVariables false
set_option linter.unusedSimpArgs false
namespace Go.Proofs.YtlmgmifaknlolaaGreat
open Go.RowKit Go.Lib Go.Sort Go.Maps

set_option maxRecDepth 100000 in
set_option maxHeartbeats 16000000 in
theorem adds_law (w : World) (va v : Value) (D : List (Str × Str)) (t : Tg) (hl : RdP w va D) (hp : PSz D) (hT : RdTc w v t) (hz : szT t ≤ 50000000) :
    Calls Tryz.prog 3 #[va, v] w fun e w' => e = .returned (.bool true) ∧ Below w.heap.size w w' := by
  obtain ⟨av, cv, ak, ck, rfl, hS, hP, hcv, hck⟩ := hT
  have HT := hid (RdTc.short ⟨av, cv, ak, ck, rfl, hS, hP, hcv, hck⟩)
  have HL := hid hl
  have HP := hid hp
  have HZ := hid (Nat.le_trans (short_sz t) hz)
  have HV := hid (short_vars t)
  have HK := hid (short_keys t)
  clear hp hz hS hP
  have ST0 := hid (show LawS0 w t (.slice av t.vars.length cv) (.slice ak t.keys.length ck) (w.alloc (.cells (tagCells t (.slice av t.vars.length cv) (.slice ak t.keys.length ck)) 25)) from ⟨heap_alloc_new w _, (Below.refl _ _).alloc (Nat.le_refl _) _⟩)
  obtain ⟨ao, cp, rfl, _, _⟩ := hl
  simp only [tagCells, S] at ST0 HT ⊢
  go_enter Tryz.func3, Tryz.ntmps3
  go_upto_region 1 with fail
  generalize w.alloc (.cells #[.string ⟨t.lang.toArray⟩, .string ⟨t.script.toArray⟩, .string ⟨t.region.toArray⟩, .slice av t.vars.length cv, .slice ak t.keys.length ck] 25) = w0 at *
  go_wp2_with fail
  refine (lwakes_any _).mono ?_
  rintro e w1 ⟨rfl, hb1⟩
  have ST1 := hid (ST0.out.below hb1)
  clear hb1 ST0
  go_upto_region 3 with fail
  have CA := hid (fun W (h : LawS0 w t (.slice av t.vars.length cv) (.slice ak t.keys.length ck) W) => cut_at h HL.out HP.out)
  have SA := hid (fun W (h : LawS0 w t (.slice av t.vars.length cv) (.slice ak t.keys.length ck) W) => short_at h hcv hck)
  have s1d : LawS0 w t (.slice av t.vars.length cv) (.slice ak t.keys.length ck) w1.drew := ⟨ST1.out.bt, ST1.out.bel.drew⟩
  obtain ⟨c0, c1, c2, c3, c4⟩ := box_cells ST1.out.bt
  have lt0 := lt_of_block ST1.out.bt
  simp only [S] at c0 c1 c2 CA SA
  generalize hn1 : (t.vars.take 12).length = n1 at *
  generalize hn2 : (t.keys.take 20).length = n2 at *
  go_cut [0] from 15 to 18 (fun vx wx => ∃ a c, vx = .slice a (cutF D).length c ∧ LawSt w D (shortF t) (.slice av n1 cv) (.slice ak n2 ck) vx wx)
  case first =>
    go_region_with (first
      | (go_at_call 10; (with_reducible refine (CA.out _ (by assumption)).mono ?_); rintro e wC ⟨a1, e1, rfl, oC, sC, x0, x1, x2, x3, x4⟩)
      | (go_at_call 11; (with_reducible refine (SA.out _ (by assumption)).mono ?_); rintro e wS ⟨rfl, kS, sS, ⟨y0, y1, y2, y3, y4⟩, z0, z1, z2, z3, z4, lS⟩))
    all_goals
      go_wp2_with fail
      go_meet
      have he := law_end sS (kS D _ oC)
      rw [hn1, hn2] at he
      exact ⟨a1, e1, rfl, he⟩
  case rest =>
    obtain ⟨a1, e1, rfl, st⟩ := hcut
    have ST2 := hid st
    clear st CA SA s1d c0 c1 c2 c3 c4 lt0 ST1
    go_wp2_with fail
    refine (made_any wc a1 e1 (cutF D) ST2.out.own.rd (own_capP ST2.out.own) (cut_sz D) (Nat.le_trans (cut_len D) (by decide))).mono ?_
    rintro e w3 ⟨vc, rfl, hm, hb3⟩
    have ST3 := hid (ST2.out.below hb3)
    clear hb3 ST2
    rcases hm with ⟨hbad, hC⟩ | ⟨hbad, rfl⟩
    · have HC := hid hC
      have HGD := hid (goodD_of (badL_ok hbad).1)
      have HSD := hid (badL_ok hbad).2
      obtain ⟨bc, bm, nn, rfl, _, _, _⟩ := hC
      have HBD := hid hbad
      clear hbad
      have HRDT := hid HT.out.rd
      generalize shortF t = u at *
      have HOKS := hid (badL_ok HBD.out).1
      have RA := hid (fun W (hb : Below w.heap.size w W) (h : RdP W (.slice a1 (cutF D).length e1) (cutF D)) => radd_ok W _ a1 e1 (cutF D) u h (cut_sz D) (Nat.le_trans (cut_len D) (by decide)) (HRDT.out.below hb) (addOk_of HOKS.out HV.out HK.out (Nat.le_trans HZ.out (by decide))))
      rw [addRF_eq HOKS.out] at RA
      have CO := hid (fun W (hb : Below w.heap.size w W) => rcopy_any W _ u (HRDT.out.below hb) HV.out HK.out)
      have AD := hid (fun W v (h : LkRd W (.pointer (some ⟨bc, 0, none⟩)) (dOf (cutF D))) (hT : RdT W v u) => tadd_any W _ v (dOf (cutF D)) u h hT HV.out HK.out (Nat.le_trans HZ.out (by decide)) HGD.out)
      have HRDU := hid (fun W (hb : Below w.heap.size w W) => HRDT.out.below hb)
      have VK := hid (addT_vk (dOf (cutF D)) HV.out HK.out)
      have HRD3 := hid ST3.out.own.rd
      have RA3 := hid (RA.out w3 ST3.out.bel HRD3.out)
      have FU := hid (fun W (hb : Below w.heap.size w W) => lfull_any W _ u (HRDT.out.below hb) HV.out HK.out (Nat.le_trans HZ.out (by decide)))
      have RR := hid (fun W (hb : Below w.heap.size w W) => rright_any W _ u (HRDT.out.below hb) (Nat.le_trans (printR_le u) (Nat.le_trans HZ.out (by decide))))
      clear HRDT HSD HBD HOKS RA HRD3
      simp only [tagCells] at *
      obtain ⟨x0, x1, x2, x3, x4⟩ := box_cells ST3.out.bt
      have lt0 := lt_of_block ST3.out.bt
      simp only [S] at x0 x1 x2
      go_wp2_with fail
      with_reducible refine RA3.out.mono ?_
      rintro e w4 ⟨v4, rfl, own4, hb4⟩
      generalize hq : addT (dOf (cutF D)) u = q at *
      clear hq
      obtain ⟨m, ok⟩ := q
      simp only at own4 VK ⊢
      obtain ⟨b1, g1, b2, g2, rfl⟩ := own4.shape
      clear x0 x1 x2 x3 x4 lt0 RA3
      go_upto_region 8 with fail
      have BX5 := hid (heap_alloc_new w4 (.cells #[.string ⟨m.lang.toArray⟩, .string ⟨m.script.toArray⟩, .string ⟨m.region.toArray⟩, .slice b1 m.vars.length g1, .slice b2 m.keys.length g2] 25))
      have hb5 : Below w4.heap.size w4 (w4.alloc (.cells #[.string ⟨m.lang.toArray⟩, .string ⟨m.script.toArray⟩, .string ⟨m.region.toArray⟩, .slice b1 m.vars.length g1, .slice b2 m.keys.length g2] 25)) := (Below.refl _ _).alloc (Nat.le_refl _) _
      generalize w4.alloc (.cells #[.string ⟨m.lang.toArray⟩, .string ⟨m.script.toArray⟩, .string ⟨m.region.toArray⟩, .slice b1 m.vars.length g1, .slice b2 m.keys.length g2] 25) = w5 at *
      have HBT := hid (hb4.then hb5)
      have ST5 := hid (ST3.out.below HBT.out)
      have HC5 := hid (HC.out.below HBT.out)
      have RD5 := hid (own4.rd.below hb5)
      clear own4 hb4 hb5 HC ST3 HBT
      go_wp2_with fail
      go_loopg [9] 2 (fun g vi W => ∃ n : Nat, n ≤ 2 ∧ 2 ≤ n + g ∧ vi = .int .i64 n ∧ Below w5.heap.size w5 W)
      case atStart => exact ⟨0, by omega, by omega, rfl, Below.refl _ _⟩
      case round =>
        obtain ⟨n, hn, hg, rfl, hb⟩ := hrel
        rename World => w6
        have HG := hid hg
        have HB6 := hid hb
        clear hg hb
        have ST6 := hid (ST5.out.below HB6.out)
        obtain ⟨x0, x1, x2, x3, x4⟩ := box_cells ST6.out.bt
        have lt0 := lt_of_block ST6.out.bt
        simp only [S] at x0 x1 x2
        by_cases hlt : n < 2
        · have hni : (n : Int) < 2 := by omega
          have hn0 : (0 : Int) ≤ (n : Int) := by omega
          go_wp2_with fail
          with_reducible refine (CO.out _ ST6.out.bel).mono ?_
          rintro e w7 ⟨v7, rfl, own7, hb7⟩
          obtain ⟨b3, g3, b4, g4, rfl⟩ := own7.shape
          clear x0 x1 x2 x3 x4 lt0
          go_upto_region 12 with fail
          have BO8 := hid (heap_alloc_new w7 (.cells #[.string ⟨u.lang.toArray⟩, .string ⟨u.script.toArray⟩, .string ⟨u.region.toArray⟩, .slice b3 u.vars.length g3, .slice b4 u.keys.length g4] 25))
          have hb8 : Below w7.heap.size w7 (w7.alloc (.cells #[.string ⟨u.lang.toArray⟩, .string ⟨u.script.toArray⟩, .string ⟨u.region.toArray⟩, .slice b3 u.vars.length g3, .slice b4 u.keys.length g4] 25)) := (Below.refl _ _).alloc (Nat.le_refl _) _
          generalize w7.alloc (.cells #[.string ⟨u.lang.toArray⟩, .string ⟨u.script.toArray⟩, .string ⟨u.region.toArray⟩, .slice b3 u.vars.length g3, .slice b4 u.keys.length g4] 25) = w8 at *
          have HB8 := hid (HB6.out.trans ((hb7.then hb8).mono HB6.out.size))
          have OW8 := hid (own7.rd.below hb8)
          clear own7 hb7 hb8 HB6 ST6
          have HC8 := hid (HC5.out.below HB8.out)
          have ST8 := hid (ST5.out.below HB8.out)
          obtain ⟨d0, d1, d2, d3, d4⟩ := box_cells BO8.out
          have lt1 := lt_of_block BO8.out
          go_wp2_with fail
          with_reducible refine (AD.out _ _ HC8.out OW8.out).mono ?_
          rintro e w9 ⟨v9, rfl, own9, hb9⟩
          simp only at own9 ⊢
          obtain ⟨b5, g5, b6, g6, rfl⟩ := own9.shape
          clear d0 d1 d2 d3 d4 lt1
          go_upto_region 13 with fail
          have BG10 := hid (heap_alloc_new w9 (.cells #[.string ⟨m.lang.toArray⟩, .string ⟨m.script.toArray⟩, .string ⟨m.region.toArray⟩, .slice b5 m.vars.length g5, .slice b6 m.keys.length g6] 25))
          have hb10 : Below w9.heap.size w9 (w9.alloc (.cells #[.string ⟨m.lang.toArray⟩, .string ⟨m.script.toArray⟩, .string ⟨m.region.toArray⟩, .slice b5 m.vars.length g5, .slice b6 m.keys.length g6] 25)) := (Below.refl _ _).alloc (Nat.le_refl _) _
          generalize w9.alloc (.cells #[.string ⟨m.lang.toArray⟩, .string ⟨m.script.toArray⟩, .string ⟨m.region.toArray⟩, .slice b5 m.vars.length g5, .slice b6 m.keys.length g6] 25) = w10 at *
          have HT10 := hid (hb9.then hb10)
          have BO10 := hid ((HT10.out.block _ (lt_of_block BO8.out)).trans BO8.out)
          have OW10 := hid (OW8.out.below HT10.out)
          have GO10 := hid (own9.below hb10)
          have HB10 := hid (HB8.out.trans (HT10.out.mono HB8.out.size))
          have L8 := hid (HT10.out.size)
          clear own9 hb9 hb10 HC8 ST8
          have RD10 := hid (RD5.out.below HB10.out)
          have BX10 := hid ((HB10.out.block _ (lt_of_block BX5.out)).trans BX5.out)
          have SM1 := hid (lsame_any w10 _ _ m m GO10.out.rd RD10.out)
          rw [sameB_refl] at SM1
          obtain ⟨d0, d1, d2, d3, d4⟩ := box_cells BG10.out
          obtain ⟨c0, c1, c2, c3, c4⟩ := box_cells BX10.out
          have lt1 := lt_of_block BG10.out
          have lt2 := lt_of_block BX10.out
          go_upto_region 13 with fail
          go_cut [53] from 45 to 54 (fun o wx => o = .bool false ∧ Below w10.heap.size w10 wx)
          case first =>
            cases ok
            all_goals
              go_wp2_with fail
              with_reducible refine SM1.out.mono ?_
              rintro e w11 ⟨rfl, hb11⟩
              go_wp2_with fail
              go_meet
              case rel => exact ⟨rfl, hb11⟩
          case rest =>
            obtain ⟨rfl, hb11⟩ := hcut
            generalize wc = w11 at *
            have BO11 := hid ((hb11.block _ (lt_of_block BO10.out)).trans BO10.out)
            have BG11 := hid ((hb11.block _ (lt_of_block BG10.out)).trans BG10.out)
            have OW11 := hid (OW10.out.below hb11)
            have GO11 := hid (GO10.out.below hb11)
            have HB11 := hid (HB10.out.trans (hb11.mono HB10.out.size))
            have HT11 := hid (HT10.out.trans (hb11.mono HT10.out.size))
            have LL11 := hid (Nat.le_trans L8.out hb11.size)
            clear hb11 BO10 BG10 OW10 GO10 HB10 HT10 L8 RD10 BX10 SM1 c0 c1 c2 c3 c4 d0 d1 d2 d3 d4 lt1 lt2
            have SP := hid (spoil_any w11 _ m w8.heap.size GO11.out LL11.out VK.out.1 VK.out.2)
            obtain ⟨d0, d1, d2, d3, d4⟩ := box_cells BG11.out
            have lt1 := lt_of_block BG11.out
            go_wp2_with fail
            with_reducible refine SP.out.mono ?_
            rintro e w12 ⟨rfl, hb12⟩
            have HT12 := hid (HT11.out.trans hb12)
            have BO12 := hid ((HT12.out.block _ (lt_of_block BO8.out)).trans BO8.out)
            have OW12 := hid (OW8.out.below HT12.out)
            have HB12 := hid (HB8.out.trans (HT12.out.mono HB8.out.size))
            clear hb12 HT11 BO11 BG11 OW11 GO11 HB11 LL11 SP d0 d1 d2 d3 d4 lt1 HT12 BO8 OW8 HB8
            have ST12 := hid (ST5.out.below HB12.out)
            have SM2 := hid (lsame_any w12 _ _ u u OW12.out (HRDU.out w12 ST12.out.bel))
            rw [sameB_refl] at SM2
            obtain ⟨d0, d1, d2, d3, d4⟩ := box_cells BO12.out
            have lt1 := lt_of_block BO12.out
            obtain ⟨x0, x1, x2, x3, x4⟩ := box_cells ST12.out.bt
            have lt0 := lt_of_block ST12.out.bt
            simp only [S] at x0 x1 x2
            go_wp2_with fail
            with_reducible refine SM2.out.mono ?_
            rintro e w13 ⟨rfl, hb13⟩
            go_wp2_with fail
            go_roundg (gk - 1)
            case measure => have := HG.out; omega
            case rel => exact ⟨n + 1, by omega, by have := HG.out; omega, by simp, HB12.out.trans (hb13.mono HB12.out.size)⟩
        · have hnl : n = 2 := by omega
          subst hnl
          clear hlt
          have KF := hid (fun W (h : (W.cell? ⟨w.heap.size, 0, none⟩ = some (.string ⟨u.lang.toArray⟩) ∧ W.cell? ⟨w.heap.size, 1, none⟩ = some (.string ⟨u.script.toArray⟩) ∧ W.cell? ⟨w.heap.size, 2, none⟩ = some (.string ⟨u.region.toArray⟩) ∧ W.cell? ⟨w.heap.size, 3, none⟩ = some (.slice av n1 cv) ∧ W.cell? ⟨w.heap.size, 4, none⟩ = some (.slice ak n2 ck) ∧ LawSt w D u (.slice av n1 cv) (.slice ak n2 ck) (.slice a1 (cutF D).length e1) W)) => (FU.out W h.2.2.2.2.2.bel).mono (R' := fun e w' => e = .returned (.bool (decide (checkF u = 0 ∧ (ptOf u).full))) ∧ (w'.cell? ⟨w.heap.size, 0, none⟩ = some (.string ⟨u.lang.toArray⟩) ∧ w'.cell? ⟨w.heap.size, 1, none⟩ = some (.string ⟨u.script.toArray⟩) ∧ w'.cell? ⟨w.heap.size, 2, none⟩ = some (.string ⟨u.region.toArray⟩) ∧ w'.cell? ⟨w.heap.size, 3, none⟩ = some (.slice av n1 cv) ∧ w'.cell? ⟨w.heap.size, 4, none⟩ = some (.slice ak n2 ck) ∧ LawSt w D u (.slice av n1 cv) (.slice ak n2 ck) (.slice a1 (cutF D).length e1) w')) (by
            rintro e w' ⟨rfl, hb'⟩
            have h2 := h.2.2.2.2.2.below hb'
            obtain ⟨z0, z1, z2, z3, z4⟩ := box_cells h2.bt
            exact ⟨rfl, z0, z1, z2, z3, z4, h2⟩))
          have KR := hid (fun W (h : (W.cell? ⟨w.heap.size, 0, none⟩ = some (.string ⟨u.lang.toArray⟩) ∧ W.cell? ⟨w.heap.size, 1, none⟩ = some (.string ⟨u.script.toArray⟩) ∧ W.cell? ⟨w.heap.size, 2, none⟩ = some (.string ⟨u.region.toArray⟩) ∧ W.cell? ⟨w.heap.size, 3, none⟩ = some (.slice av n1 cv) ∧ W.cell? ⟨w.heap.size, 4, none⟩ = some (.slice ak n2 ck) ∧ LawSt w D u (.slice av n1 cv) (.slice ak n2 ck) (.slice a1 (cutF D).length e1) W)) => (RR.out W h.2.2.2.2.2.bel).mono (R' := fun e w' => e = .returned (.bool (rightF u)) ∧ (w'.cell? ⟨w.heap.size, 0, none⟩ = some (.string ⟨u.lang.toArray⟩) ∧ w'.cell? ⟨w.heap.size, 1, none⟩ = some (.string ⟨u.script.toArray⟩) ∧ w'.cell? ⟨w.heap.size, 2, none⟩ = some (.string ⟨u.region.toArray⟩) ∧ w'.cell? ⟨w.heap.size, 3, none⟩ = some (.slice av n1 cv) ∧ w'.cell? ⟨w.heap.size, 4, none⟩ = some (.slice ak n2 ck) ∧ LawSt w D u (.slice av n1 cv) (.slice ak n2 ck) (.slice a1 (cutF D).length e1) w')) (by
            rintro e w' ⟨rfl, hb'⟩
            have h2 := h.2.2.2.2.2.below hb'
            obtain ⟨z0, z1, z2, z3, z4⟩ := box_cells h2.bt
            exact ⟨rfl, z0, z1, z2, z3, z4, h2⟩))
          have S0 : (w6.drew.cell? ⟨w.heap.size, 0, none⟩ = some (.string ⟨u.lang.toArray⟩) ∧ w6.drew.cell? ⟨w.heap.size, 1, none⟩ = some (.string ⟨u.script.toArray⟩) ∧ w6.drew.cell? ⟨w.heap.size, 2, none⟩ = some (.string ⟨u.region.toArray⟩) ∧ w6.drew.cell? ⟨w.heap.size, 3, none⟩ = some (.slice av n1 cv) ∧ w6.drew.cell? ⟨w.heap.size, 4, none⟩ = some (.slice ak n2 ck) ∧ LawSt w D u (.slice av n1 cv) (.slice ak n2 ck) (.slice a1 (cutF D).length e1) w6.drew) := ⟨x0, x1, x2, x3, x4, ⟨ST6.out.own, ST6.out.bt, ST6.out.bel.drew⟩⟩
          clear HC5 ST5 BX5 RD5 CO AD HRDU VK HB6 HG HGD HV HK HZ HL HP HT
          go_upto_region 18 with fail
          go_cut [4] from 60 to 80 (fun o wx => o = .bool true ∧ Below w.heap.size w wx)
          case first =>
            by_cases hr : rightF u = true
            · have hc : checkF u = 0 := by rw [right_eq] at hr; simpa using hr
              by_cases q0 : u.lang = []
              · have p0 : List.isEmpty u.lang = true := by rw [q0]; rfl
                have hfb : decide (checkF u = 0 ∧ (ptOf u).full) = false := decide_eq_false (fun e => e.2.1 q0)
                rw [hfb] at KF
                rw [hr] at KR
                clear FU RR hr hc q0 hfb
                
                first
                  | (go_region_with (first
                  | (go_at_call 18; (with_reducible refine (KF.out _ (by assumption)).mono ?_); rintro e wF ⟨rfl, sF⟩; obtain ⟨yf0, yf1, yf2, yf3, yf4, yf5⟩ := id sF)
                  | (go_at_call 19; (with_reducible refine (KR.out _ (by assumption)).mono ?_); rintro e wR ⟨rfl, sR⟩; obtain ⟨yr0, yr1, yr2, yr3, yr4, yr5⟩ := id sR)))
                  | fail "region"
                all_goals
                  go_wp2_with fail
                  go_meet
                  exact ⟨rfl, by first | exact sF.2.2.2.2.2.bel | exact sR.2.2.2.2.2.bel⟩
              · have p0 : List.isEmpty u.lang = false := isEmpty_no q0
                by_cases q1 : u.script = []
                · have p1 : List.isEmpty u.script = true := by rw [q1]; rfl
                  have hfb : decide (checkF u = 0 ∧ (ptOf u).full) = false := decide_eq_false (fun e => e.2.2.1 q1)
                  rw [hfb] at KF
                  rw [hr] at KR
                  clear FU RR hr hc q0 q1 hfb
                  
                  first
                    | (go_region_with (first
                    | (go_at_call 18; (with_reducible refine (KF.out _ (by assumption)).mono ?_); rintro e wF ⟨rfl, sF⟩; obtain ⟨yf0, yf1, yf2, yf3, yf4, yf5⟩ := id sF)
                    | (go_at_call 19; (with_reducible refine (KR.out _ (by assumption)).mono ?_); rintro e wR ⟨rfl, sR⟩; obtain ⟨yr0, yr1, yr2, yr3, yr4, yr5⟩ := id sR)))
                    | fail "region"
                  all_goals
                    go_wp2_with fail
                    go_meet
                    exact ⟨rfl, by first | exact sF.2.2.2.2.2.bel | exact sR.2.2.2.2.2.bel⟩
                · have p1 : List.isEmpty u.script = false := isEmpty_no q1
                  by_cases q2 : u.region = []
                  · have p2 : List.isEmpty u.region = true := by rw [q2]; rfl
                    have hfb : decide (checkF u = 0 ∧ (ptOf u).full) = false := decide_eq_false (fun e => e.2.2.2 q2)
                    rw [hfb] at KF
                    rw [hr] at KR
                    clear FU RR hr hc q0 q1 q2 hfb
                    
                    first
                      | (go_region_with (first
                      | (go_at_call 18; (with_reducible refine (KF.out _ (by assumption)).mono ?_); rintro e wF ⟨rfl, sF⟩; obtain ⟨yf0, yf1, yf2, yf3, yf4, yf5⟩ := id sF)
                      | (go_at_call 19; (with_reducible refine (KR.out _ (by assumption)).mono ?_); rintro e wR ⟨rfl, sR⟩; obtain ⟨yr0, yr1, yr2, yr3, yr4, yr5⟩ := id sR)))
                      | fail "region"
                    all_goals
                      go_wp2_with fail
                      go_meet
                      exact ⟨rfl, by first | exact sF.2.2.2.2.2.bel | exact sR.2.2.2.2.2.bel⟩
                  · have p2 : List.isEmpty u.region = false := isEmpty_no q2
                    have hfb : decide (checkF u = 0 ∧ (ptOf u).full) = true := decide_eq_true ⟨hc, q0, q1, q2⟩
                    rw [hfb] at KF
                    rw [hr] at KR
                    clear FU RR hr hc q0 q1 q2 hfb
                    
                    first
                      | (go_region_with (first
                      | (go_at_call 18; (with_reducible refine (KF.out _ (by assumption)).mono ?_); rintro e wF ⟨rfl, sF⟩; obtain ⟨yf0, yf1, yf2, yf3, yf4, yf5⟩ := id sF)
                      | (go_at_call 19; (with_reducible refine (KR.out _ (by assumption)).mono ?_); rintro e wR ⟨rfl, sR⟩; obtain ⟨yr0, yr1, yr2, yr3, yr4, yr5⟩ := id sR)))
                      | fail "region"
                    all_goals
                      go_wp2_with fail
                      go_meet
                      exact ⟨rfl, by first | exact sF.2.2.2.2.2.bel | exact sR.2.2.2.2.2.bel⟩
            · have hr : rightF u = false := by simpa using hr
              have hc : checkF u ≠ 0 := by intro e; rw [right_eq, e] at hr; cases hr
              have hfb : decide (checkF u = 0 ∧ (ptOf u).full) = false := decide_eq_false (fun e => hc e.1)
              rw [hfb] at KF
              rw [hr] at KR
              clear FU RR hr hc hfb
              
              first
                | (go_region_with (first
                | (go_at_call 18; (with_reducible refine (KF.out _ (by assumption)).mono ?_); rintro e wF ⟨rfl, sF⟩; obtain ⟨yf0, yf1, yf2, yf3, yf4, yf5⟩ := id sF)
                | (go_at_call 19; (with_reducible refine (KR.out _ (by assumption)).mono ?_); rintro e wR ⟨rfl, sR⟩; obtain ⟨yr0, yr1, yr2, yr3, yr4, yr5⟩ := id sR)))
                | fail "region"
              all_goals
                go_wp2_with fail
                go_meet
                exact ⟨rfl, by first | exact sF.2.2.2.2.2.bel | exact sR.2.2.2.2.2.bel⟩
          case rest =>
            obtain ⟨rfl, hbe⟩ := hcut
            go_wp2_with fail
            go_ret
            exact ⟨rfl, hbe⟩
    · go_wp2_with fail
      go_ret
      exact ⟨rfl, ST3.out.bel⟩
end Go.Proofs.YtlmgmifaknlolaaGreat

/- LikelyAdds: the parts that go without saying are added to a tag, or it is told that there are none, for every list of pairs and every tag. Condition: what came in is of bulk at most 1048576 (the form's own bound). -/
namespace Go.Proofs.YtlmgmifaknlolaaGreat
open Go.ChangeShapes Go.WideShapes Go.ChangeAt Go.RowKit
open Go.ChangeMaps (open_string shut_string)
set_option linter.unusedVariables false

theorem own : ownKnob Tryz.prog.godebug = none := by kernel_rfl

set_option maxRecDepth 100000 in
theorem lifted (os : Os) (started : os.Started) (H : Type) (enc : TypeId × Value → H) (F : Stop.Interp) :
    ReturnsInHanded {} Tryz.checked os 3 .any ((Rows.OpenSpec.upto Rows.likelyAddsSpec).pre6 enc Tryz.prog Tryz.f3 Rows.likelyAddsUptoRow.domain false) (((Rows.OpenSpec.upto Rows.likelyAddsSpec).at F).post enc Tryz.prog Tryz.f3 false true false false) := by
  refine returnsInHanded_of_cond (C := Tryz.checked) (s := Rows.OpenSpec.upto Rows.likelyAddsSpec) (k := Rows.uptoSmall) rfl own started (by kernel_rfl) Tryz.func3
    (OpenSpec.witness (enc := enc) (C := Tryz.checked) (s := Rows.OpenSpec.upto Rows.likelyAddsSpec) (k := Rows.uptoSmall) rfl false ⟨#[], #[.slice none 0 0, .agg #[.string ByteArray.empty, .string ByteArray.empty, .string ByteArray.empty, .slice none 0 0, .slice none 0 0]], []⟩ 8 (by kernel_rfl) (by kernel_rfl) (by kernel_rfl)
      (x := ([.nil, .agg [.lit (.string []), .lit (.string []), .lit (.string []), .nil, .nil]], [], [])) (by kernel_rfl) rfl (by kernel_rfl)) ?_
  intro W base args ds gs before hval0 hW _ hk _
  have hval : ∀ (j : Nat) t v, Tryz.f3.params[j]? = some t → args[j]? = some v → Value.okWide Tryz.prog W .any base t v := hval0
  have hW' := hW
  obtain ⟨p, q, hA0, hV, rfl, hfz, hnd⟩ := hW
  have hA : DataW.TrodAll enc Tryz.prog W 0 (fun _ => true) true Tryz.f3.params.toList args.toList ds p := hA0
  rw [Tryz.params3] at hA hval
  obtain ⟨v0, vs0, d0, ds0, p0, q0, hargs, rfl, rfl, h0, r0⟩ := trodAll_cons hA
  obtain ⟨v1, vs1, d1, ds1, p1, q1, rfl, rfl, rfl, h1, r1⟩ := trodAll_cons r0
  obtain ⟨rfl, rfl, rfl⟩ := trodAll_nil r1
  obtain rfl : args = #[v0, v1] := by cases args; simp_all
  obtain ⟨rfl, rfl⟩ := trodVars_none hV
  obtain ⟨a0, len0, cap0, rfl⟩ := okWide_slice Tryz.underlying22 (hval 0 22 v0 rfl rfl)
  have k0 := h0
  have k1 := h1
  have lt0 : ∀ x ∈ p0, x.block < W.heap.size := by obtain ⟨m, hm⟩ := k0; exact DataW.trod_lt m _ _ _ hm
  have lt1 : ∀ x ∈ p1, x.block < W.heap.size := by obtain ⟨m, hm⟩ := k1; exact DataW.trod_lt m _ _ _ hm
  obtain ⟨l, rd, psz⟩ : ∃ l, RdP W (.slice a0 len0 cap0) l ∧ PSz l := by
    obtain ⟨fuel, hf⟩ := h0
    obtain ⟨ao, n, cp, l, e, rd, _, psz, _⟩ := open_rdP2 hf
    rw [← List.head_eq_of_cons_eq e] at rd
    exact ⟨l, rd, psz⟩
  obtain ⟨t1, rd1, sz1⟩ := open_tag2 (hval 1 25 v1 rfl rfl) h1
  have hz : szT t1 ≤ 50000000 := by
    have hb : Rows.uptoBulkAll [d0, d1] ≤ 1048576 := of_decide_eq_true hk
    simp only [Rows.uptoBulkAll] at hb
    omega
  clear hA0 hval0
  refine (adds_law W _ v1 l t1 rd psz rd1 hz).mono fun e W' ⟨he, bel⟩ => ?_
  subst he
  exact ⟨_, rfl, _, _, _, [], _, [], hW', trodAll_mk1 (shut_bool Tryz.underlying4 _), (trodAll_cons_mk (Below.trod laidOut (by kernel_rfl) (of_decide_eq_true (by kernel_rfl)) k0 bel lt0) (trodAll_cons_mk (Below.trod laidOut (by kernel_rfl) (of_decide_eq_true (by kernel_rfl)) k1 bel lt1) trodAll_mk0)), rfl, bel.frame _, fun h => by cases h⟩

/-- the statement -/
theorem likelyAddsUpto : Rows.LikelyAddsUptoSaid :=
  OpenClaim.holds_of_cond 3 Tryz.f3 rfl rfl rfl rfl rfl rfl rfl ⟨rfl, rfl, rfl, rfl, rfl⟩ rfl rfl rfl rfl rfl (by kernel_rfl) Tryz.func3 (by kernel_rfl)
    (of_decide_eq_true (by kernel_rfl)) (by unfold Func.isWrapper; first | (rw [if_pos (by decide +kernel)]; kernel_rfl) | (rw [if_neg (by decide +kernel)]; exact ⟨rfl, rfl⟩))
    (fun os started H enc _ F => lifted os started H enc F)
#print axioms likelyAddsUpto
end Go.Proofs.YtlmgmifaknlolaaGreat
