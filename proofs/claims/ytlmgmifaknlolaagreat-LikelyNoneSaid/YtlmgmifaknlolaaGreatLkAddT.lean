/- The contract of likely.Likely.Add. -/
import Derived.Test.YtlmgmifaknlolaaGreatLkTag
set_option linter.unusedVariables false
set_option linter.unusedSimpArgs false
namespace Go.Proofs.YtlmgmifaknlolaaGreat
open Go.RowKit Go.Lib Go.Sort

/-- Add's and Remove's answer at the end of a drawn region: the tag itself -/
theorem ret5 {w W : World} {t : Tg} {vv kv : Value} (st : AdSt w t vv kv W) : W.cell? ⟨w.heap.size + 1, 0, none⟩ = some (.string ⟨#[]⟩) ∧ W.cell? ⟨w.heap.size + 1, 1, none⟩ = some (.string ⟨#[]⟩) ∧ W.cell? ⟨w.heap.size + 1, 2, none⟩ = some (.string ⟨#[]⟩) ∧ W.cell? ⟨w.heap.size + 1, 3, none⟩ = some (.slice none 0 0) ∧ W.cell? ⟨w.heap.size + 1, 4, none⟩ = some (.slice none 0 0) ∧
    W.frozen? ⟨w.heap.size + 1, 0, none⟩ = false ∧ W.frozen? ⟨w.heap.size + 1, 1, none⟩ = false ∧ W.frozen? ⟨w.heap.size + 1, 2, none⟩ = false ∧ W.frozen? ⟨w.heap.size + 1, 3, none⟩ = false ∧ W.frozen? ⟨w.heap.size + 1, 4, none⟩ = false ∧ w.heap.size + 1 < W.heap.size ∧ w.heap.size < W.heap.size :=
  ⟨st.z0, st.z1, st.z2, st.z3, st.z4, st.fz 0, st.fz 1, st.fz 2, st.fz 3, st.fz 4, st.lz, st.lt⟩

/-- what of and with give where the tag itself is handed back: the region's cells anew -/
theorem of_held {w W : World} {t : Tg} {av ak : Option Addr} {cv ck : Nat} (st : AdSt w t (.slice av t.vars.length cv) (.slice ak t.keys.length ck) W) :
    Calls Tryz.prog 31 #[.agg #[.string ⟨t.lang.toArray⟩, .string ⟨t.script.toArray⟩, .string ⟨t.region.toArray⟩, .slice av t.vars.length cv, .slice ak t.keys.length ck]] W fun e w' => e = .returned (.agg #[.string ⟨t.lang.toArray⟩, .string ⟨t.script.toArray⟩, .string ⟨t.region.toArray⟩]) ∧ AdSt w t (.slice av t.vars.length cv) (.slice ak t.keys.length ck) w' ∧ w'.cell? ⟨w.heap.size + 1, 0, none⟩ = some (.string ⟨#[]⟩) ∧ w'.cell? ⟨w.heap.size + 1, 1, none⟩ = some (.string ⟨#[]⟩) ∧ w'.cell? ⟨w.heap.size + 1, 2, none⟩ = some (.string ⟨#[]⟩) ∧ w'.cell? ⟨w.heap.size + 1, 3, none⟩ = some (.slice none 0 0) ∧ w'.cell? ⟨w.heap.size + 1, 4, none⟩ = some (.slice none 0 0) ∧ w'.frozen? ⟨w.heap.size + 1, 0, none⟩ = false ∧ w'.frozen? ⟨w.heap.size + 1, 1, none⟩ = false ∧ w'.frozen? ⟨w.heap.size + 1, 2, none⟩ = false ∧ w'.frozen? ⟨w.heap.size + 1, 3, none⟩ = false ∧ w'.frozen? ⟨w.heap.size + 1, 4, none⟩ = false ∧ w.heap.size + 1 < w'.heap.size ∧ w.heap.size < w'.heap.size ∧ w'.cell? ⟨w.heap.size, 0, none⟩ = some (.string ⟨t.lang.toArray⟩) ∧ w'.cell? ⟨w.heap.size, 1, none⟩ = some (.string ⟨t.script.toArray⟩) ∧ w'.cell? ⟨w.heap.size, 2, none⟩ = some (.string ⟨t.region.toArray⟩) ∧ w'.cell? ⟨w.heap.size, 3, none⟩ = some (.slice av t.vars.length cv) ∧ w'.cell? ⟨w.heap.size, 4, none⟩ = some (.slice ak t.keys.length ck) :=
  (of_any W (.agg #[.string ⟨t.lang.toArray⟩, .string ⟨t.script.toArray⟩, .string ⟨t.region.toArray⟩, .slice av t.vars.length cv, .slice ak t.keys.length ck]) t st.rd).mono (by
    rintro e w' ⟨rfl, hb⟩
    have s2 := st.below hb
    exact ⟨rfl, s2, s2.z0, s2.z1, s2.z2, s2.z3, s2.z4, s2.fz 0, s2.fz 1, s2.fz 2, s2.fz 3, s2.fz 4, s2.lz, s2.lt, s2.c0, s2.c1, s2.c2, s2.c3, s2.c4⟩)
theorem with_held {w W : World} {t : Tg} {av ak : Option Addr} {cv ck : Nat} (st : AdSt w t (.slice av t.vars.length cv) (.slice ak t.keys.length ck) W) (hv : t.vars.length ≤ 1000) (hk : t.keys.length ≤ 1000) :
    Calls Tryz.prog 32 #[.agg #[.string ⟨t.lang.toArray⟩, .string ⟨t.script.toArray⟩, .string ⟨t.region.toArray⟩, .slice av t.vars.length cv, .slice ak t.keys.length ck], .agg #[.string ⟨t.lang.toArray⟩, .string ⟨t.script.toArray⟩, .string ⟨t.region.toArray⟩]] W fun e w' => ∃ a1 e1 a2 e2, e = .returned (.agg #[.string ⟨t.lang.toArray⟩, .string ⟨t.script.toArray⟩, .string ⟨t.region.toArray⟩, .slice a1 t.vars.length e1, .slice a2 t.keys.length e2]) ∧
      OwnT w' (w.heap.size + 2) (.agg #[.string ⟨t.lang.toArray⟩, .string ⟨t.script.toArray⟩, .string ⟨t.region.toArray⟩, .slice a1 t.vars.length e1, .slice a2 t.keys.length e2]) t ∧ AdSt w t (.slice av t.vars.length cv) (.slice ak t.keys.length ck) w' ∧ w'.cell? ⟨w.heap.size + 1, 0, none⟩ = some (.string ⟨#[]⟩) ∧ w'.cell? ⟨w.heap.size + 1, 1, none⟩ = some (.string ⟨#[]⟩) ∧ w'.cell? ⟨w.heap.size + 1, 2, none⟩ = some (.string ⟨#[]⟩) ∧ w'.cell? ⟨w.heap.size + 1, 3, none⟩ = some (.slice none 0 0) ∧ w'.cell? ⟨w.heap.size + 1, 4, none⟩ = some (.slice none 0 0) ∧ w'.frozen? ⟨w.heap.size + 1, 0, none⟩ = false ∧ w'.frozen? ⟨w.heap.size + 1, 1, none⟩ = false ∧ w'.frozen? ⟨w.heap.size + 1, 2, none⟩ = false ∧ w'.frozen? ⟨w.heap.size + 1, 3, none⟩ = false ∧ w'.frozen? ⟨w.heap.size + 1, 4, none⟩ = false ∧ w.heap.size + 1 < w'.heap.size ∧ w.heap.size < w'.heap.size ∧ w'.cell? ⟨w.heap.size, 0, none⟩ = some (.string ⟨t.lang.toArray⟩) ∧ w'.cell? ⟨w.heap.size, 1, none⟩ = some (.string ⟨t.script.toArray⟩) ∧ w'.cell? ⟨w.heap.size, 2, none⟩ = some (.string ⟨t.region.toArray⟩) ∧ w'.cell? ⟨w.heap.size, 3, none⟩ = some (.slice av t.vars.length cv) ∧ w'.cell? ⟨w.heap.size, 4, none⟩ = some (.slice ak t.keys.length ck) :=
  (with_any W (.agg #[.string ⟨t.lang.toArray⟩, .string ⟨t.script.toArray⟩, .string ⟨t.region.toArray⟩, .slice av t.vars.length cv, .slice ak t.keys.length ck]) t (ptOf t) st.rd hv hk).mono (by
    rintro e w' ⟨v', rfl, own, hb⟩
    have s2 := st.below hb
    obtain ⟨a1, e1, a2, e2, rfl⟩ := own.shape
    exact ⟨a1, e1, a2, e2, rfl, own.mono (by have := st.lz; omega), s2, s2.z0, s2.z1, s2.z2, s2.z3, s2.z4, s2.fz 0, s2.fz 1, s2.fz 2, s2.fz 3, s2.fz 4, s2.lz, s2.lt, s2.c0, s2.c1, s2.c2, s2.c3, s2.c4⟩)

set_option maxRecDepth 100000 in
set_option maxHeartbeats 16000000 in
theorem tadd_any (w : World) (v va : Value) (D : List (Pt × Pt)) (t : Tg) (hL : LkRd w v D) (hT : RdT w va t) (hv : t.vars.length ≤ 1000) (hk : t.keys.length ≤ 1000) (hz : szT t ≤ 1000000000) (hD : goodD D) :
    Calls Tryz.prog 15 #[v, va] w fun e w' => TagOut w (addT D t) e w' := by
  obtain ⟨vv, kv, rfl, hS, hP⟩ := hT
  have HL := hid hL
  have ST0 := hid (AdSt.start hS hP)
  have CK := hid (fun W (st : AdSt w t vv kv W) => check_any W (.agg (tagCells t vv kv)) t st.rd hv hk (Nat.le_trans (write_le t) (by omega)))
  have OF := hid (fun W (st : AdSt w t vv kv W) => of_any W (.agg (tagCells t vv kv)) t st.rd)
  have AD := hid (fun W (st : AdSt w t vv kv W) => add_any W v D (ptOf t) (hL.below st.bel) (szT_pt hz))
  have WI := hid (fun W p (st : AdSt w t vv kv W) => with_any W (.agg (tagCells t vv kv)) t p st.rd hv hk)
  have CM := hid (fun W B v' (h : OwnT W B v' (withT t (addP D (ptOf t)).1)) => check_any W v' _ h.rd hv hk (Nat.le_trans (write_le _) (Nat.le_trans (szT_with hD t) (by omega))))
  have HWO := hid (with_of t)
  obtain ⟨bc, bm, n, rfl, _, _, _⟩ := hL
  obtain ⟨av, cv, rfl, _, _⟩ := hS
  obtain ⟨ak, ck, rfl, _, _⟩ := hP
  clear hz hD
  simp only [vnil] at ST0
  go_enter Tryz.func15, Tryz.ntmps15
  simp only [tagCells, S, Tg.zero, ptV] at *
  go_upto_region 1 with (fail)
  generalize ((w.alloc (.cells #[.string ⟨t.lang.toArray⟩, .string ⟨t.script.toArray⟩, .string ⟨t.region.toArray⟩, .slice av t.vars.length cv, .slice ak t.keys.length ck] 25)).alloc (.cells #[.string ⟨#[]⟩, .string ⟨#[]⟩, .string ⟨#[]⟩, .slice none 0 0, .slice none 0 0] 25)) = w0 at *
  have c0 := ST0.out.c0
  have c1 := ST0.out.c1
  have c2 := ST0.out.c2
  have c3 := ST0.out.c3
  have c4 := ST0.out.c4
  have lt0 := ST0.out.lt
  go_wp2_with fail
  refine (CK.out _ ST0.out).mono ?_
  rintro e w1 ⟨rfl, hb1⟩
  have ST1 := hid (ST0.out.below hb1)
  clear c0 c1 c2 c3 c4 lt0 ST0 hb1
  have c0 := ST1.out.c0
  have c1 := ST1.out.c1
  have c2 := ST1.out.c2
  have c3 := ST1.out.c3
  have c4 := ST1.out.c4
  obtain ⟨z0, z1, z2, z3, z4, fz0, fz1, fz2, fz3, fz4, lz, lt0⟩ := ret5 ST1.out
  by_cases h0 : checkF t = 0
  · rw [h0]
    have H0 := hid h0
    clear h0
    go_wp2_with fail
    refine (OF.out _ ST1.out).mono ?_
    rintro e w2 ⟨rfl, hb2⟩
    have ST2 := hid (ST1.out.below hb2)
    clear c0 c1 c2 c3 c4 z0 z1 z2 z3 z4 fz0 fz1 fz2 fz3 fz4 lz lt0 ST1 hb2
    go_wp2_with fail
    refine (AD.out _ ST2.out).mono ?_
    rintro e w3 ⟨rfl, hb3⟩
    have ST3 := hid (ST2.out.below hb3)
    generalize hm : addP D (ptOf t) = r at *
    have HM := hid hm
    obtain ⟨⟨ml, ms, mr⟩, ok⟩ := r
    clear hm hb3 ST2
    simp only
    go_upto_region 4 with fail
    have HB4 := hid (show Below w3.heap.size w3 (w3.alloc (.cells #[.string ⟨ml.toArray⟩, .string ⟨ms.toArray⟩, .string ⟨mr.toArray⟩] 57)) from (Below.refl _ _).alloc (Nat.le_refl _) _)
    have HP4 := hid (heap_alloc_new w3 (.cells #[.string ⟨ml.toArray⟩, .string ⟨ms.toArray⟩, .string ⟨mr.toArray⟩] 57))
    generalize w3.alloc (.cells #[.string ⟨ml.toArray⟩, .string ⟨ms.toArray⟩, .string ⟨mr.toArray⟩] 57) = w4 at *
    have ST4 := hid (ST3.out.below HB4.out)
    have WI4 := hid (WI.out w4 ⟨ml, ms, mr⟩ ST4.out)
    simp only [ptV, S] at WI4
    have c0 := ST4.out.c0
    have c1 := ST4.out.c1
    have c2 := ST4.out.c2
    have c3 := ST4.out.c3
    have c4 := ST4.out.c4
    have lt0 := ST4.out.lt
    obtain ⟨p0, p1, p2⟩ := box3_cells HP4.out
    have ltp := lt_of_block HP4.out
    go_wp2_with fail
    refine WI4.out.mono ?_
    rintro e w5 ⟨v', rfl, own5, hb5⟩
    have ST5 := hid (ST4.out.below hb5)
    have h45 : w.heap.size + 1 < w4.heap.size := ST4.out.lz
    have H45 := hid h45
    obtain ⟨a1, e1, a2, e2, rfl⟩ := own5.shape
    have OW5 := hid own5
    clear c0 c1 c2 c3 c4 lt0 p0 p1 p2 ltp hb5 own5 WI4 h45 ST3 HB4 HP4
    simp only [withT] at *
    go_upto_region 5 with fail
    have HB6 := hid (show Below w5.heap.size w5 (w5.alloc (.cells #[.string ⟨ml.toArray⟩, .string ⟨ms.toArray⟩, .string ⟨mr.toArray⟩, .slice a1 t.vars.length e1, .slice a2 t.keys.length e2] 25)) from (Below.refl _ _).alloc (Nat.le_refl _) _)
    have HX6 := hid (heap_alloc_new w5 (.cells #[.string ⟨ml.toArray⟩, .string ⟨ms.toArray⟩, .string ⟨mr.toArray⟩, .slice a1 t.vars.length e1, .slice a2 t.keys.length e2] 25))
    generalize w5.alloc (.cells #[.string ⟨ml.toArray⟩, .string ⟨ms.toArray⟩, .string ⟨mr.toArray⟩, .slice a1 t.vars.length e1, .slice a2 t.keys.length e2] 25) = w6 at *
    have ST6 := hid (ST5.out.below HB6.out)
    have OW6 := hid (OW5.out.below HB6.out)
    clear ST5 HB6 OW5 ST4
    obtain ⟨d0, d1, d2, d3, d4⟩ := box_cells HX6.out
    have ltx := lt_of_block HX6.out
    obtain ⟨z0, z1, z2, z3, z4, fz0, fz1, fz2, fz3, fz4, lz, lt0⟩ := ret5 ST6.out
    cases ok with
    | false =>
      have HA := hid (add_none H0.out HM.out)
      go_wp2_with fail
      change bodyPost _ _ _ _ _ (P5 w6 (w.heap.size + 1) (.string ⟨ml.toArray⟩) (.string ⟨ms.toArray⟩) (.string ⟨mr.toArray⟩) (.slice a1 t.vars.length e1) (.slice a2 t.keys.length e2))
      exact addT_ret (t' := withT t ⟨ml, ms, mr⟩) ST6.out H45.out false HA.out OW6.out rfl rfl rfl
    | true =>
      have CM6 := hid (CM.out w6 _ _ OW6.out)
      go_wp2_with fail
      refine CM6.out.mono ?_
      rintro e w7 ⟨rfl, hb7⟩
      have ST7 := hid (ST6.out.below hb7)
      have OW7 := hid (OW6.out.below hb7)
      have HX7 := hid ((hb7.block _ (lt_of_block HX6.out)).trans HX6.out)
      clear d0 d1 d2 d3 d4 ltx z0 z1 z2 z3 z4 fz0 fz1 fz2 fz3 fz4 lz lt0 CM6 CM hb7 ST6 OW6 HX6
      obtain ⟨z0, z1, z2, z3, z4, fz0, fz1, fz2, fz3, fz4, lz, lt0⟩ := ret5 ST7.out
      by_cases hcm : checkF (withT t ⟨ml, ms, mr⟩) = 0
      · have HA := hid (add_yes H0.out HM.out hcm)
        simp only [withT] at hcm
        rw [hcm]
        obtain ⟨d0, d1, d2, d3, d4⟩ := box_cells HX7.out
        have ltx := lt_of_block HX7.out
        clear hcm
        go_wp2_with fail
        change bodyPost _ _ _ _ _ (P5 w7 (w.heap.size + 1) (.string ⟨ml.toArray⟩) (.string ⟨ms.toArray⟩) (.string ⟨mr.toArray⟩) (.slice a1 t.vars.length e1) (.slice a2 t.keys.length e2))
        exact addT_ret (t' := withT t ⟨ml, ms, mr⟩) ST7.out H45.out true HA.out OW7.out rfl rfl rfl
      · have HA := hid (add_no H0.out HM.out hcm)
        simp only [withT] at hcm
        have hcb : (checkF { lang := ml, script := ms, region := mr, vars := t.vars, keys := t.keys } == 0) = false := by rw [beq_eq_false_iff_ne]; exact hcm
        clear hcm z0 z1 z2 z3 z4 fz0 fz1 fz2 fz3 fz4 lz lt0
        go_upto_region 7 with fail
        have st7d : AdSt w t (.slice av t.vars.length cv) (.slice ak t.keys.length ck) w7.drew := ST7.out.drew
        have S0 : w7.drew.cell? ⟨w.heap.size, 0, none⟩ = some (.string ⟨t.lang.toArray⟩) ∧ w7.drew.cell? ⟨w.heap.size, 1, none⟩ = some (.string ⟨t.script.toArray⟩) ∧ w7.drew.cell? ⟨w.heap.size, 2, none⟩ = some (.string ⟨t.region.toArray⟩) ∧ w7.drew.cell? ⟨w.heap.size, 3, none⟩ = some (.slice av t.vars.length cv) ∧ w7.drew.cell? ⟨w.heap.size, 4, none⟩ = some (.slice ak t.keys.length ck) := ⟨st7d.c0, st7d.c1, st7d.c2, st7d.c3, st7d.c4⟩
        have hn1 : w.heap.size + 1 ≠ w.heap.size := by omega
        go_region_held3 (fun W => W.cell? ⟨w.heap.size, 0, none⟩ = some (.string ⟨t.lang.toArray⟩) ∧ W.cell? ⟨w.heap.size, 1, none⟩ = some (.string ⟨t.script.toArray⟩) ∧ W.cell? ⟨w.heap.size, 2, none⟩ = some (.string ⟨t.region.toArray⟩) ∧ W.cell? ⟨w.heap.size, 3, none⟩ = some (.slice av t.vars.length cv) ∧ W.cell? ⟨w.heap.size, 4, none⟩ = some (.slice ak t.keys.length ck)) (first | with_reducible assumption | simp [cell_far hn1, hsP]) (first
          | (go_at_call 31; (with_reducible refine (of_held (by assumption)).mono ?_); rintro e wS ⟨rfl, sS, ys0, ys1, ys2, ys3, ys4, ys5, ys6, ys7, ys8, ys9, ys10, ys11, hsS⟩)
          | (go_at_call 32; (with_reducible refine (with_held (by assumption) hv hk).mono ?_); rintro e wP ⟨b1, g1, b2, g2, rfl, oP, sP, yp0, yp1, yp2, yp3, yp4, yp5, yp6, yp7, yp8, yp9, yp10, yp11, hsP⟩))
        go_wp2_with fail
        change bodyPost _ _ _ _ _ (P5 wP (w.heap.size + 1) (.string ⟨t.lang.toArray⟩) (.string ⟨t.script.toArray⟩) (.string ⟨t.region.toArray⟩) (.slice b1 t.vars.length g1) (.slice b2 t.keys.length g2))
        exact addT_ret (t' := t) sP (B := w.heap.size + 2) (by omega) false HA.out oP rfl rfl rfl
  · have HA := hid (add_chk (D := D) h0)
    have hb : (checkF t != 0) = true := by rw [bne_iff_ne]; exact h0
    clear h0
    go_wp2_with fail
    change bodyPost _ _ _ _ _ (P5 w1 (w.heap.size + 1) (.string ⟨#[]⟩) (.string ⟨#[]⟩) (.string ⟨#[]⟩) (.slice none 0 0) (.slice none 0 0))
    exact addT_ret (t' := Tg.zero) ST1.out (B := w.heap.size + 2) (by omega) false HA.out (ca := none) (cb := none) (na := 0) (nb := 0) (OwnT.zero _ _) rfl rfl rfl
end Go.Proofs.YtlmgmifaknlolaaGreat
