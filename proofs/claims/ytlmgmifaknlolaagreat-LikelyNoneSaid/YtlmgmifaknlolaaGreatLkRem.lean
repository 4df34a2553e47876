/- The contract of likely.Likely.Remove. -/
import Derived.Test.YtlmgmifaknlolaaGreatLkAddT
import Derived.Deep.CutBlock
import Derived.Deep.LoopGhost
set_option linter.unusedVariables false
set_option linter.unusedSimpArgs false
namespace Go.Proofs.YtlmgmifaknlolaaGreat
open Go.RowKit Go.Lib Go.Sort

/-- the way out of Remove -/
theorem remT_ret {w W : World} {t t' : Tg} {vv kv : Value} {r : Tg × Bool} (st : AdSt w t vv kv W) {B : Nat} (hB : w.heap.size + 1 < B) (b : Bool) (hr : r = (t', b)) {ca cb : Option Addr} {na nb : Nat}
    (own : OwnT W B (.agg #[.string ⟨t'.lang.toArray⟩, .string ⟨t'.script.toArray⟩, .string ⟨t'.region.toArray⟩, .slice ca t'.vars.length na, .slice cb t'.keys.length nb]) t') {a : Act} (hd : a.defers = [])
    (h4 : a.tmps.getD 4 undef = .pointer (some ⟨w.heap.size + 1, 0, none⟩)) (h5 : a.tmps.getD 5 undef = .bool b) :
    bodyPost Tryz.prog Tryz.f21 (TagOut w r) Exit.ret a (P5 W (w.heap.size + 1) (.string ⟨t'.lang.toArray⟩) (.string ⟨t'.script.toArray⟩) (.string ⟨t'.region.toArray⟩) (.slice ca t'.vars.length na) (.slice cb t'.keys.length nb)) := by
  have hrow := P5_row (.string ⟨t'.lang.toArray⟩) (.string ⟨t'.script.toArray⟩) (.string ⟨t'.region.toArray⟩) (.slice ca t'.vars.length na) (.slice cb t'.keys.length nb) st.bz
  have hw := P5_below (.string ⟨t'.lang.toArray⟩) (.string ⟨t'.script.toArray⟩) (.string ⟨t'.region.toArray⟩) (.slice ca t'.vars.length na) (.slice cb t'.keys.length nb) st.bel (Nat.le_succ w.heap.size)
  have ho := (own.p5 hB (.string ⟨t'.lang.toArray⟩) (.string ⟨t'.script.toArray⟩) (.string ⟨t'.region.toArray⟩) (.slice ca t'.vars.length na) (.slice cb t'.keys.length nb)).mono (C := w.heap.size) (by omega)
  generalize P5 W (w.heap.size + 1) (.string ⟨t'.lang.toArray⟩) (.string ⟨t'.script.toArray⟩) (.string ⟨t'.region.toArray⟩) (.slice ca t'.vars.length na) (.slice cb t'.keys.length nb) = V at *
  obtain ⟨d0, d1, d2, d3, d4⟩ := box_cells hrow
  subst hr
  refine bodyPost_ret (v := .tuple #[.agg #[.string ⟨t'.lang.toArray⟩, .string ⟨t'.script.toArray⟩, .string ⟨t'.region.toArray⟩, .slice ca t'.vars.length na, .slice cb t'.keys.length nb], .bool b]) ?_ hd ⟨_, rfl, ho, hw⟩
  obtain ⟨tmps, defers⟩ := a
  simp only [Array.getD_eq_getD_getElem?] at h4 h5
  simp [results, Tryz.results21, go_sem, h4, h5, d0, d1, d2, d3, d4]

theorem rem_chk {D : List (Pt × Pt)} {t : Tg} (h : checkF t ≠ 0) : removeT D t = (Tg.zero, false) := if_pos h
theorem rem_none {D : List (Pt × Pt)} {t : Tg} {m : Pt} (h : checkF t = 0) (ha : addP D (ptOf t) = (m, false)) : removeT D t = (t, false) := by
  unfold removeT; rw [if_neg (by omega), ha, if_pos (Or.inl rfl)]
theorem rem_no {D : List (Pt × Pt)} {t : Tg} {m : Pt} (h : checkF t = 0) (ha : addP D (ptOf t) = (m, true)) (hm : checkF (withT t m) ≠ 0) : removeT D t = (t, false) := by
  unfold removeT; rw [if_neg (by omega), ha, if_pos (Or.inr hm)]
theorem rem_yes {D : List (Pt × Pt)} {t : Tg} {m : Pt} (h : checkF t = 0) (ha : addP D (ptOf t) = (m, true)) (hm : checkF (withT t m) = 0) : removeT D t = (withT t (leastP D m), true) := by
  unfold removeT; rw [if_neg (by omega), ha, if_neg (by rintro (e | e); · cases e
                                                        · exact e hm)]
def leftN (m : Pt) : Nat → Pt
  | 0 => ⟨m.l, [], []⟩
  | 1 => ⟨m.l, [], m.r⟩
  | _ => ⟨m.l, m.s, []⟩
theorem least_hit {D : List (Pt × Pt)} {m : Pt} {n : Nat} (hn : n < 3) (hno : ∀ j, j < n → addP D (leftN m j) ≠ (m, true)) (h : addP D (leftN m n) = (m, true)) : leastP D m = leftN m n := by
  unfold leastP leftKeys
  match n, hn with
  | 0, _ => rw [List.find?_cons_of_pos (by simpa [leftN] using h)]; rfl
  | 1, _ => rw [List.find?_cons_of_neg (by simpa [leftN] using hno 0 (by omega)), List.find?_cons_of_pos (by simpa [leftN] using h)]; rfl
  | 2, _ => rw [List.find?_cons_of_neg (by simpa [leftN] using hno 0 (by omega)), List.find?_cons_of_neg (by simpa [leftN] using hno 1 (by omega)), List.find?_cons_of_pos (by simpa [leftN] using h)]; rfl
theorem least_end {D : List (Pt × Pt)} {m : Pt} (hno : ∀ j, j < 3 → addP D (leftN m j) ≠ (m, true)) : leastP D m = m := by
  unfold leastP leftKeys
  rw [List.find?_cons_of_neg (by simpa [leftN] using hno 0 (by omega)), List.find?_cons_of_neg (by simpa [leftN] using hno 1 (by omega)), List.find?_cons_of_neg (by simpa [leftN] using hno 2 (by omega))]; rfl
theorem left_step {D : List (Pt × Pt)} {m : Pt} {n : Nat} (h : ∀ j, j < n → addP D (leftN m j) ≠ (m, true)) (hn : addP D (leftN m n) ≠ (m, true)) : ∀ j, j < n + 1 → addP D (leftN m j) ≠ (m, true) := by
  intro j hj
  by_cases e : j = n
  · rw [e]; exact hn
  · exact h j (by omega)
set_option maxRecDepth 100000 in
theorem index_0 (w : World) (a0 a1 a2 a3 a4 a5 a6 a7 a8 : Str) : (Instr.index 67 (.agg #[.string ⟨a0.toArray⟩, .string ⟨a1.toArray⟩, .string ⟨a2.toArray⟩, .string ⟨a3.toArray⟩, .string ⟨a4.toArray⟩, .string ⟨a5.toArray⟩, .string ⟨a6.toArray⟩, .string ⟨a7.toArray⟩, .string ⟨a8.toArray⟩]) (.int .i64 0)).run Tryz.prog w = .ok (.agg #[.string ⟨a0.toArray⟩, .string ⟨a1.toArray⟩, .string ⟨a2.toArray⟩]) w := by kernel_rfl
set_option maxRecDepth 100000 in
theorem index_1 (w : World) (a0 a1 a2 a3 a4 a5 a6 a7 a8 : Str) : (Instr.index 67 (.agg #[.string ⟨a0.toArray⟩, .string ⟨a1.toArray⟩, .string ⟨a2.toArray⟩, .string ⟨a3.toArray⟩, .string ⟨a4.toArray⟩, .string ⟨a5.toArray⟩, .string ⟨a6.toArray⟩, .string ⟨a7.toArray⟩, .string ⟨a8.toArray⟩]) (.int .i64 1)).run Tryz.prog w = .ok (.agg #[.string ⟨a3.toArray⟩, .string ⟨a4.toArray⟩, .string ⟨a5.toArray⟩]) w := by kernel_rfl
set_option maxRecDepth 100000 in
theorem index_2 (w : World) (a0 a1 a2 a3 a4 a5 a6 a7 a8 : Str) : (Instr.index 67 (.agg #[.string ⟨a0.toArray⟩, .string ⟨a1.toArray⟩, .string ⟨a2.toArray⟩, .string ⟨a3.toArray⟩, .string ⟨a4.toArray⟩, .string ⟨a5.toArray⟩, .string ⟨a6.toArray⟩, .string ⟨a7.toArray⟩, .string ⟨a8.toArray⟩]) (.int .i64 2)).run Tryz.prog w = .ok (.agg #[.string ⟨a6.toArray⟩, .string ⟨a7.toArray⟩, .string ⟨a8.toArray⟩]) w := by kernel_rfl
theorem leftN_sz {m : Pt} (h : PtSz m) (n : Nat) : PtSz (leftN m n) := by
  obtain ⟨h1, h2, h3⟩ := h
  have h0 : ([] : Str).length ≤ maxLen := Nat.zero_le _
  match n with
  | 0 => exact ⟨h1, h0, h0⟩
  | 1 => exact ⟨h1, h0, h3⟩
  | n + 2 => exact ⟨h1, h2, h0⟩

theorem addP_sz {D : List (Pt × Pt)} (hD : goodD D) {t : Tg} (hz : szT t ≤ 1000000000) : PtSz (addP D (ptOf t)).1 := by
  obtain ⟨h1, h2, h3⟩ := addP_lens hD (ptOf t)
  unfold szT at hz
  unfold PtSz maxLen
  simp only [ptOf] at h1 h2 h3 ⊢
  omega

set_option maxRecDepth 100000 in
set_option maxHeartbeats 16000000 in
theorem trem_any (w : World) (v va : Value) (D : List (Pt × Pt)) (t : Tg) (hL : LkRd w v D) (hT : RdT w va t) (hv : t.vars.length ≤ 1000) (hk : t.keys.length ≤ 1000) (hz : szT t ≤ 1000000000) (hD : goodD D) :
    Calls Tryz.prog 21 #[v, va] w fun e w' => TagOut w (removeT D t) e w' := by
  obtain ⟨vv, kv, rfl, hS, hP⟩ := hT
  have HL := hid hL
  have ST0 := hid (AdSt.start hS hP)
  have CK := hid (fun W (st : AdSt w t vv kv W) => check_any W (.agg (tagCells t vv kv)) t st.rd hv hk (Nat.le_trans (write_le t) (by omega)))
  have OF := hid (fun W (st : AdSt w t vv kv W) => of_any W (.agg (tagCells t vv kv)) t st.rd)
  have AD2 := hid (fun W p (st : AdSt w t vv kv W) (hp : PtSz p) => add_any W v D p (hL.below st.bel) hp)
  have PM := hid (addP_sz hD hz)
  have AD := hid (fun W (st : AdSt w t vv kv W) => add_any W v D (ptOf t) (hL.below st.bel) (szT_pt hz))
  have WI := hid (fun W p (st : AdSt w t vv kv W) => with_any W (.agg (tagCells t vv kv)) t p st.rd hv hk)
  have CM := hid (fun W B v' (h : OwnT W B v' (withT t (addP D (ptOf t)).1)) => check_any W v' _ h.rd hv hk (Nat.le_trans (write_le _) (Nat.le_trans (szT_with hD t) (by omega))))
  have HWO := hid (with_of t)
  obtain ⟨bc, bm, n, rfl, _, _, _⟩ := hL
  obtain ⟨av, cv, rfl, _, _⟩ := hS
  obtain ⟨ak, ck, rfl, _, _⟩ := hP
  clear hz hD
  simp only [vnil] at ST0
  go_enter Tryz.func21, Tryz.ntmps21
  simp only [tagCells, S, Tg.zero, ptV] at *
  go_upto_region 1 with (fail)
  generalize ((w.alloc (.cells #[.string ⟨t.lang.toArray⟩, .string ⟨t.script.toArray⟩, .string ⟨t.region.toArray⟩, .slice av t.vars.length cv, .slice ak t.keys.length ck] 25)).alloc (.cells #[.string ⟨#[]⟩, .string ⟨#[]⟩, .string ⟨#[]⟩, .slice none 0 0, .slice none 0 0] 25)) = w0 at *
  have c0 := ST0.out.c0
  have c1 := ST0.out.c1
  have c2 := ST0.out.c2
  have c3 := ST0.out.c3
  have c4 := ST0.out.c4
  have lt0 := ST0.out.lt
  go_wp2_with fail
  refine (CK.out _ ST0.out).mono ?_
  rintro e w1 ⟨rfl, hb1⟩
  have ST1 := hid (ST0.out.below hb1)
  clear c0 c1 c2 c3 c4 lt0 ST0 hb1
  have c0 := ST1.out.c0
  have c1 := ST1.out.c1
  have c2 := ST1.out.c2
  have c3 := ST1.out.c3
  have c4 := ST1.out.c4
  obtain ⟨z0, z1, z2, z3, z4, fz0, fz1, fz2, fz3, fz4, lz, lt0⟩ := ret5 ST1.out
  by_cases h0 : checkF t = 0
  · rw [h0]
    have H0 := hid h0
    clear h0
    go_wp2_with fail
    refine (OF.out _ ST1.out).mono ?_
    rintro e w2 ⟨rfl, hb2⟩
    have ST2 := hid (ST1.out.below hb2)
    clear c0 c1 c2 c3 c4 z0 z1 z2 z3 z4 fz0 fz1 fz2 fz3 fz4 lz lt0 ST1 hb2
    go_wp2_with fail
    refine (AD.out _ ST2.out).mono ?_
    rintro e w3 ⟨rfl, hb3⟩
    have ST3 := hid (ST2.out.below hb3)
    generalize hm : addP D (ptOf t) = r at *
    have HM := hid hm
    obtain ⟨⟨ml, ms, mr⟩, ok⟩ := r
    clear hm hb3 ST2
    simp only
    go_upto_region 4 with fail
    have HB4 := hid (show Below w3.heap.size w3 (w3.alloc (.cells #[.string ⟨ml.toArray⟩, .string ⟨ms.toArray⟩, .string ⟨mr.toArray⟩] 57)) from (Below.refl _ _).alloc (Nat.le_refl _) _)
    have HP4 := hid (heap_alloc_new w3 (.cells #[.string ⟨ml.toArray⟩, .string ⟨ms.toArray⟩, .string ⟨mr.toArray⟩] 57))
    generalize w3.alloc (.cells #[.string ⟨ml.toArray⟩, .string ⟨ms.toArray⟩, .string ⟨mr.toArray⟩] 57) = w4 at *
    have ST4 := hid (ST3.out.below HB4.out)
    have WI4 := hid (WI.out w4 ⟨ml, ms, mr⟩ ST4.out)
    simp only [ptV, S] at WI4
    have c0 := ST4.out.c0
    have c1 := ST4.out.c1
    have c2 := ST4.out.c2
    have c3 := ST4.out.c3
    have c4 := ST4.out.c4
    have lt0 := ST4.out.lt
    obtain ⟨p0, p1, p2⟩ := box3_cells HP4.out
    have ltp := lt_of_block HP4.out
    cases ok with
    | false =>
      have HA := hid (rem_none H0.out HM.out)
      go_upto_region 5 with fail
      have std : AdSt w t (.slice av t.vars.length cv) (.slice ak t.keys.length ck) w4.drew := ST4.out.drew
      have S0 : w4.drew.cell? ⟨w.heap.size, 0, none⟩ = some (.string ⟨t.lang.toArray⟩) ∧ w4.drew.cell? ⟨w.heap.size, 1, none⟩ = some (.string ⟨t.script.toArray⟩) ∧ w4.drew.cell? ⟨w.heap.size, 2, none⟩ = some (.string ⟨t.region.toArray⟩) ∧ w4.drew.cell? ⟨w.heap.size, 3, none⟩ = some (.slice av t.vars.length cv) ∧ w4.drew.cell? ⟨w.heap.size, 4, none⟩ = some (.slice ak t.keys.length ck) := ⟨std.c0, std.c1, std.c2, std.c3, std.c4⟩
      have hn1 : w.heap.size + 1 ≠ w.heap.size := by omega
      go_region_held3 (fun W => W.cell? ⟨w.heap.size, 0, none⟩ = some (.string ⟨t.lang.toArray⟩) ∧ W.cell? ⟨w.heap.size, 1, none⟩ = some (.string ⟨t.script.toArray⟩) ∧ W.cell? ⟨w.heap.size, 2, none⟩ = some (.string ⟨t.region.toArray⟩) ∧ W.cell? ⟨w.heap.size, 3, none⟩ = some (.slice av t.vars.length cv) ∧ W.cell? ⟨w.heap.size, 4, none⟩ = some (.slice ak t.keys.length ck)) (first | with_reducible assumption | simp [cell_far hn1, hsP]) (first
        | (go_at_call 31; (with_reducible refine (of_held (by assumption)).mono ?_); rintro e wS ⟨rfl, sS, ys0, ys1, ys2, ys3, ys4, ys5, ys6, ys7, ys8, ys9, ys10, ys11, hsS⟩)
        | (go_at_call 32; (with_reducible refine (with_held (by assumption) hv hk).mono ?_); rintro e wP ⟨b1, g1, b2, g2, rfl, oP, sP, yp0, yp1, yp2, yp3, yp4, yp5, yp6, yp7, yp8, yp9, yp10, yp11, hsP⟩))
      go_wp2_with fail
      change bodyPost _ _ _ _ _ (P5 wP (w.heap.size + 1) (.string ⟨t.lang.toArray⟩) (.string ⟨t.script.toArray⟩) (.string ⟨t.region.toArray⟩) (.slice b1 t.vars.length g1) (.slice b2 t.keys.length g2))
      exact remT_ret (t' := t) sP (B := w.heap.size + 2) (by omega) false HA.out oP rfl rfl rfl
    | true =>
      go_wp2_with fail
      refine WI4.out.mono ?_
      rintro e w5 ⟨v', rfl, own5, hb5⟩
      have ST5 := hid (ST4.out.below hb5)
      have HP5 := hid ((hb5.block _ (lt_of_block HP4.out)).trans HP4.out)
      obtain ⟨a1, e1, a2, e2, rfl⟩ := own5.shape
      have CM5 := hid (CM.out w5 _ _ own5)
      clear c0 c1 c2 c3 c4 lt0 p0 p1 p2 ltp hb5 own5 WI4 ST3 HB4 HP4 CM
      simp only [withT] at CM5 ⊢
      go_wp2_with fail
      refine CM5.out.mono ?_
      rintro e w7 ⟨rfl, hb7⟩
      have ST7 := hid (ST5.out.below hb7)
      have HP7 := hid ((hb7.block _ (lt_of_block HP5.out)).trans HP5.out)
      clear CM5 hb7 ST5 HP5
      by_cases hcm : checkF (withT t ⟨ml, ms, mr⟩) = 0
      · have HA := hid (rem_yes H0.out HM.out hcm)
        simp only [withT] at hcm
        rw [hcm]
        clear hcm
        obtain ⟨p0, p1, p2⟩ := box3_cells HP7.out
        have ltp := lt_of_block HP7.out
        go_wp2_with fail
        go_loopg [54] 3 (fun g vi W => ∃ n : Nat, n ≤ 3 ∧ 3 ≤ n + g ∧ vi = .int .i64 n ∧ (∀ j, j < n → addP D (leftN ⟨ml, ms, mr⟩ j) ≠ (⟨ml, ms, mr⟩, true)) ∧ AdSt w t (.slice av t.vars.length cv) (.slice ak t.keys.length ck) W ∧ W.heap[w3.heap.size]? = some (.cells #[.string ⟨ml.toArray⟩, .string ⟨ms.toArray⟩, .string ⟨mr.toArray⟩] 57 (0, 0)))
        case atStart => exact ⟨0, by omega, by omega, rfl, fun j hj => by omega, ST7.out, HP7.out⟩
        case round =>
         obtain ⟨n, hn, hg, hvi, hno, st, hp⟩ := hrel
         rename World => w2
         have ST2 := hid st
         have HP2 := hid hp
         have HG := hid hg
         have HNO := hid hno
         clear st hp hg hno ST7 HP7 p0 p1 p2 ltp
         rcases (by omega : n = 0 ∨ n = 1 ∨ n = 2 ∨ n = 3) with rfl | rfl | rfl | rfl
         · -- round 0
           have hvi0 : _ = Value.int .i64 0 := hvi
           subst hvi0
           have hix := index_0 w2 ml [] [] ml [] mr ml ms []
           go_upto_region 9 with fail
           clear hix
           have HB8 := hid (show Below w2.heap.size w2 (w2.alloc (.cells #[.string ⟨ml.toArray⟩, .string ⟨#[]⟩, .string ⟨#[]⟩] 57)) from (Below.refl _ _).alloc (Nat.le_refl _) _)
           have HK8 := hid (heap_alloc_new w2 (.cells #[.string ⟨ml.toArray⟩, .string ⟨#[]⟩, .string ⟨#[]⟩] 57))
           generalize w2.alloc (.cells #[.string ⟨ml.toArray⟩, .string ⟨#[]⟩, .string ⟨#[]⟩] 57) = w8 at *
           have ST8 := hid (ST2.out.below HB8.out)
           have HP8 := hid ((HB8.out.block _ (lt_of_block HP2.out)).trans HP2.out)
           have AD8 := hid (AD2.out w8 (leftN ⟨ml, ms, mr⟩ 0) ST8.out (leftN_sz PM.out 0))
           simp only [leftN, ptV, S] at AD8
           obtain ⟨k0, k1, k2⟩ := box3_cells HK8.out
           have ltk := lt_of_block HK8.out
           clear HB8
           go_wp2_with fail
           refine AD8.out.mono ?_
           rintro e w9 ⟨rfl, hb9⟩
           have ST9 := hid (ST8.out.below hb9)
           have HP9 := hid ((hb9.block _ (lt_of_block HP8.out)).trans HP8.out)
           have HK9 := hid ((hb9.block _ (lt_of_block HK8.out)).trans HK8.out)
           clear hb9 k0 k1 k2 ltk AD8 ST8 HP8 HK8 ST2 HP2
           generalize hq : addP D ⟨ml, [], []⟩ = r at *
           have HQ := hid (show addP D (leftN ⟨ml, ms, mr⟩ 0) = r from hq)
           obtain ⟨⟨ql, qs, qr⟩, ok2⟩ := r
           clear hq
           simp only
           go_upto_region 10 with fail
           have HB10 := hid (show Below w9.heap.size w9 (w9.alloc (.cells #[.string ⟨ql.toArray⟩, .string ⟨qs.toArray⟩, .string ⟨qr.toArray⟩] 57)) from (Below.refl _ _).alloc (Nat.le_refl _) _)
           have HX10 := hid (heap_alloc_new w9 (.cells #[.string ⟨ql.toArray⟩, .string ⟨qs.toArray⟩, .string ⟨qr.toArray⟩] 57))
           generalize w9.alloc (.cells #[.string ⟨ql.toArray⟩, .string ⟨qs.toArray⟩, .string ⟨qr.toArray⟩] 57) = w10 at *
           have ST10 := hid (ST9.out.below HB10.out)
           have HP10 := hid ((HB10.out.block _ (lt_of_block HP9.out)).trans HP9.out)
           have HK10 := hid ((HB10.out.block _ (lt_of_block HK9.out)).trans HK9.out)
           clear HB10 ST9 HP9 HK9
           obtain ⟨p0, p1, p2⟩ := box3_cells HP10.out
           obtain ⟨q0, q1, q2⟩ := box3_cells HX10.out
           have ltp := lt_of_block HP10.out
           have ltq := lt_of_block HX10.out
           cases ok2 with
           | false =>
             go_wp2_with fail
             go_roundg (gk - 1)
             case measure => have := HG.out; omega
             case rel => exact ⟨1, by omega, by have := HG.out; omega, rfl, left_step HNO.out (by rw [HQ.out]; simp), ST10.out, HP10.out⟩
           | true =>
             by_cases hqm : (⟨ql, qs, qr⟩ : Pt) = ⟨ml, ms, mr⟩
             · obtain ⟨rfl, rfl, rfl⟩ := Pt.mk.inj hqm
               have HLE := hid (least_hit (by omega) HNO.out HQ.out)
               clear hqm
               obtain ⟨k0, k1, k2⟩ := box3_cells HK10.out
               have ltk := lt_of_block HK10.out
               have c0 := ST10.out.c0
               have c1 := ST10.out.c1
               have c2 := ST10.out.c2
               have c3 := ST10.out.c3
               have c4 := ST10.out.c4
               have lt0 := ST10.out.lt
               have WI10 := hid (WI.out w10 (leftN ⟨ql, qs, qr⟩ 0) ST10.out)
               simp only [leftN, ptV, S] at WI10
               go_wp2_with fail
               refine WI10.out.mono ?_
               rintro e w11 ⟨v', rfl, own11, hb11⟩
               have ST11 := hid (ST10.out.below hb11)
               have HLT := hid (show w.heap.size + 1 < w10.heap.size from ST10.out.lz)
               obtain ⟨b1, g1, b2, g2, rfl⟩ := own11.shape
               have OW11 := hid own11
               clear hb11 own11 WI10 c0 c1 c2 c3 c4
               obtain ⟨z0, z1, z2, z3, z4, fz0, fz1, fz2, fz3, fz4, lz, lt0⟩ := ret5 ST11.out
               simp only [withT, leftN]
               go_wp2_with fail
               try simp only [Exit.inBlock, Exit.then]
               try rw [Exit.noGoto_ret]
               change bodyPost _ _ _ _ _ (P5 w11 (w.heap.size + 1) (.string ⟨ql.toArray⟩) (.string ⟨#[]⟩) (.string ⟨#[]⟩) (.slice b1 t.vars.length g1) (.slice b2 t.keys.length g2))
               exact remT_ret (t' := withT t ⟨ql, [], []⟩) ST11.out HLT.out true (by rw [HA.out, HLE.out]; try rfl) OW11.out rfl rfl rfl
             · have hqn : ¬ (ql = ml ∧ qs = ms ∧ qr = mr) := fun e => hqm (by rw [e.1, e.2.1, e.2.2])
               have HQM := hid hqm
               clear hqm
               obtain ⟨k0, k1, k2⟩ := box3_cells HK10.out
               have ltk := lt_of_block HK10.out
               have c0 := ST10.out.c0
               have c1 := ST10.out.c1
               have c2 := ST10.out.c2
               have c3 := ST10.out.c3
               have c4 := ST10.out.c4
               have lt0 := ST10.out.lt
               go_wp2_with fail
               all_goals first | exact absurd (⟨by assumption, by assumption, by assumption⟩ : ql = ml ∧ qs = ms ∧ qr = mr) hqn | go_roundg (gk - 1)
               all_goals first
                 | (have := HG.out; omega)
                 | exact ⟨1, by omega, by have := HG.out; omega, rfl, left_step HNO.out (by rw [HQ.out]; exact fun e => HQM.out (Prod.mk.inj e).1), ST10.out, HP10.out⟩
         · -- round 1
           have hvi1 : _ = Value.int .i64 1 := hvi
           subst hvi1
           have hix := index_1 w2 ml [] [] ml [] mr ml ms []
           go_upto_region 9 with fail
           clear hix
           have HB8 := hid (show Below w2.heap.size w2 (w2.alloc (.cells #[.string ⟨ml.toArray⟩, .string ⟨#[]⟩, .string ⟨mr.toArray⟩] 57)) from (Below.refl _ _).alloc (Nat.le_refl _) _)
           have HK8 := hid (heap_alloc_new w2 (.cells #[.string ⟨ml.toArray⟩, .string ⟨#[]⟩, .string ⟨mr.toArray⟩] 57))
           generalize w2.alloc (.cells #[.string ⟨ml.toArray⟩, .string ⟨#[]⟩, .string ⟨mr.toArray⟩] 57) = w8 at *
           have ST8 := hid (ST2.out.below HB8.out)
           have HP8 := hid ((HB8.out.block _ (lt_of_block HP2.out)).trans HP2.out)
           have AD8 := hid (AD2.out w8 (leftN ⟨ml, ms, mr⟩ 1) ST8.out (leftN_sz PM.out 1))
           simp only [leftN, ptV, S] at AD8
           obtain ⟨k0, k1, k2⟩ := box3_cells HK8.out
           have ltk := lt_of_block HK8.out
           clear HB8
           go_wp2_with fail
           refine AD8.out.mono ?_
           rintro e w9 ⟨rfl, hb9⟩
           have ST9 := hid (ST8.out.below hb9)
           have HP9 := hid ((hb9.block _ (lt_of_block HP8.out)).trans HP8.out)
           have HK9 := hid ((hb9.block _ (lt_of_block HK8.out)).trans HK8.out)
           clear hb9 k0 k1 k2 ltk AD8 ST8 HP8 HK8 ST2 HP2
           generalize hq : addP D ⟨ml, [], mr⟩ = r at *
           have HQ := hid (show addP D (leftN ⟨ml, ms, mr⟩ 1) = r from hq)
           obtain ⟨⟨ql, qs, qr⟩, ok2⟩ := r
           clear hq
           simp only
           go_upto_region 10 with fail
           have HB10 := hid (show Below w9.heap.size w9 (w9.alloc (.cells #[.string ⟨ql.toArray⟩, .string ⟨qs.toArray⟩, .string ⟨qr.toArray⟩] 57)) from (Below.refl _ _).alloc (Nat.le_refl _) _)
           have HX10 := hid (heap_alloc_new w9 (.cells #[.string ⟨ql.toArray⟩, .string ⟨qs.toArray⟩, .string ⟨qr.toArray⟩] 57))
           generalize w9.alloc (.cells #[.string ⟨ql.toArray⟩, .string ⟨qs.toArray⟩, .string ⟨qr.toArray⟩] 57) = w10 at *
           have ST10 := hid (ST9.out.below HB10.out)
           have HP10 := hid ((HB10.out.block _ (lt_of_block HP9.out)).trans HP9.out)
           have HK10 := hid ((HB10.out.block _ (lt_of_block HK9.out)).trans HK9.out)
           clear HB10 ST9 HP9 HK9
           obtain ⟨p0, p1, p2⟩ := box3_cells HP10.out
           obtain ⟨q0, q1, q2⟩ := box3_cells HX10.out
           have ltp := lt_of_block HP10.out
           have ltq := lt_of_block HX10.out
           cases ok2 with
           | false =>
             go_wp2_with fail
             go_roundg (gk - 1)
             case measure => have := HG.out; omega
             case rel => exact ⟨2, by omega, by have := HG.out; omega, rfl, left_step HNO.out (by rw [HQ.out]; simp), ST10.out, HP10.out⟩
           | true =>
             by_cases hqm : (⟨ql, qs, qr⟩ : Pt) = ⟨ml, ms, mr⟩
             · obtain ⟨rfl, rfl, rfl⟩ := Pt.mk.inj hqm
               have HLE := hid (least_hit (by omega) HNO.out HQ.out)
               clear hqm
               obtain ⟨k0, k1, k2⟩ := box3_cells HK10.out
               have ltk := lt_of_block HK10.out
               have c0 := ST10.out.c0
               have c1 := ST10.out.c1
               have c2 := ST10.out.c2
               have c3 := ST10.out.c3
               have c4 := ST10.out.c4
               have lt0 := ST10.out.lt
               have WI10 := hid (WI.out w10 (leftN ⟨ql, qs, qr⟩ 1) ST10.out)
               simp only [leftN, ptV, S] at WI10
               go_wp2_with fail
               refine WI10.out.mono ?_
               rintro e w11 ⟨v', rfl, own11, hb11⟩
               have ST11 := hid (ST10.out.below hb11)
               have HLT := hid (show w.heap.size + 1 < w10.heap.size from ST10.out.lz)
               obtain ⟨b1, g1, b2, g2, rfl⟩ := own11.shape
               have OW11 := hid own11
               clear hb11 own11 WI10 c0 c1 c2 c3 c4
               obtain ⟨z0, z1, z2, z3, z4, fz0, fz1, fz2, fz3, fz4, lz, lt0⟩ := ret5 ST11.out
               simp only [withT, leftN]
               go_wp2_with fail
               try simp only [Exit.inBlock, Exit.then]
               try rw [Exit.noGoto_ret]
               change bodyPost _ _ _ _ _ (P5 w11 (w.heap.size + 1) (.string ⟨ql.toArray⟩) (.string ⟨#[]⟩) (.string ⟨qr.toArray⟩) (.slice b1 t.vars.length g1) (.slice b2 t.keys.length g2))
               exact remT_ret (t' := withT t ⟨ql, [], qr⟩) ST11.out HLT.out true (by rw [HA.out, HLE.out]; try rfl) OW11.out rfl rfl rfl
             · have hqn : ¬ (ql = ml ∧ qs = ms ∧ qr = mr) := fun e => hqm (by rw [e.1, e.2.1, e.2.2])
               have HQM := hid hqm
               clear hqm
               obtain ⟨k0, k1, k2⟩ := box3_cells HK10.out
               have ltk := lt_of_block HK10.out
               have c0 := ST10.out.c0
               have c1 := ST10.out.c1
               have c2 := ST10.out.c2
               have c3 := ST10.out.c3
               have c4 := ST10.out.c4
               have lt0 := ST10.out.lt
               go_wp2_with fail
               all_goals first | exact absurd (⟨by assumption, by assumption, by assumption⟩ : ql = ml ∧ qs = ms ∧ qr = mr) hqn | go_roundg (gk - 1)
               all_goals first
                 | (have := HG.out; omega)
                 | exact ⟨2, by omega, by have := HG.out; omega, rfl, left_step HNO.out (by rw [HQ.out]; exact fun e => HQM.out (Prod.mk.inj e).1), ST10.out, HP10.out⟩
         · -- round 2
           have hvi2 : _ = Value.int .i64 2 := hvi
           subst hvi2
           have hix := index_2 w2 ml [] [] ml [] mr ml ms []
           go_upto_region 9 with fail
           clear hix
           have HB8 := hid (show Below w2.heap.size w2 (w2.alloc (.cells #[.string ⟨ml.toArray⟩, .string ⟨ms.toArray⟩, .string ⟨#[]⟩] 57)) from (Below.refl _ _).alloc (Nat.le_refl _) _)
           have HK8 := hid (heap_alloc_new w2 (.cells #[.string ⟨ml.toArray⟩, .string ⟨ms.toArray⟩, .string ⟨#[]⟩] 57))
           generalize w2.alloc (.cells #[.string ⟨ml.toArray⟩, .string ⟨ms.toArray⟩, .string ⟨#[]⟩] 57) = w8 at *
           have ST8 := hid (ST2.out.below HB8.out)
           have HP8 := hid ((HB8.out.block _ (lt_of_block HP2.out)).trans HP2.out)
           have AD8 := hid (AD2.out w8 (leftN ⟨ml, ms, mr⟩ 2) ST8.out (leftN_sz PM.out 2))
           simp only [leftN, ptV, S] at AD8
           obtain ⟨k0, k1, k2⟩ := box3_cells HK8.out
           have ltk := lt_of_block HK8.out
           clear HB8
           go_wp2_with fail
           refine AD8.out.mono ?_
           rintro e w9 ⟨rfl, hb9⟩
           have ST9 := hid (ST8.out.below hb9)
           have HP9 := hid ((hb9.block _ (lt_of_block HP8.out)).trans HP8.out)
           have HK9 := hid ((hb9.block _ (lt_of_block HK8.out)).trans HK8.out)
           clear hb9 k0 k1 k2 ltk AD8 ST8 HP8 HK8 ST2 HP2
           generalize hq : addP D ⟨ml, ms, []⟩ = r at *
           have HQ := hid (show addP D (leftN ⟨ml, ms, mr⟩ 2) = r from hq)
           obtain ⟨⟨ql, qs, qr⟩, ok2⟩ := r
           clear hq
           simp only
           go_upto_region 10 with fail
           have HB10 := hid (show Below w9.heap.size w9 (w9.alloc (.cells #[.string ⟨ql.toArray⟩, .string ⟨qs.toArray⟩, .string ⟨qr.toArray⟩] 57)) from (Below.refl _ _).alloc (Nat.le_refl _) _)
           have HX10 := hid (heap_alloc_new w9 (.cells #[.string ⟨ql.toArray⟩, .string ⟨qs.toArray⟩, .string ⟨qr.toArray⟩] 57))
           generalize w9.alloc (.cells #[.string ⟨ql.toArray⟩, .string ⟨qs.toArray⟩, .string ⟨qr.toArray⟩] 57) = w10 at *
           have ST10 := hid (ST9.out.below HB10.out)
           have HP10 := hid ((HB10.out.block _ (lt_of_block HP9.out)).trans HP9.out)
           have HK10 := hid ((HB10.out.block _ (lt_of_block HK9.out)).trans HK9.out)
           clear HB10 ST9 HP9 HK9
           obtain ⟨p0, p1, p2⟩ := box3_cells HP10.out
           obtain ⟨q0, q1, q2⟩ := box3_cells HX10.out
           have ltp := lt_of_block HP10.out
           have ltq := lt_of_block HX10.out
           cases ok2 with
           | false =>
             go_wp2_with fail
             go_roundg (gk - 1)
             case measure => have := HG.out; omega
             case rel => exact ⟨3, by omega, by have := HG.out; omega, rfl, left_step HNO.out (by rw [HQ.out]; simp), ST10.out, HP10.out⟩
           | true =>
             by_cases hqm : (⟨ql, qs, qr⟩ : Pt) = ⟨ml, ms, mr⟩
             · obtain ⟨rfl, rfl, rfl⟩ := Pt.mk.inj hqm
               have HLE := hid (least_hit (by omega) HNO.out HQ.out)
               clear hqm
               obtain ⟨k0, k1, k2⟩ := box3_cells HK10.out
               have ltk := lt_of_block HK10.out
               have c0 := ST10.out.c0
               have c1 := ST10.out.c1
               have c2 := ST10.out.c2
               have c3 := ST10.out.c3
               have c4 := ST10.out.c4
               have lt0 := ST10.out.lt
               have WI10 := hid (WI.out w10 (leftN ⟨ql, qs, qr⟩ 2) ST10.out)
               simp only [leftN, ptV, S] at WI10
               go_wp2_with fail
               refine WI10.out.mono ?_
               rintro e w11 ⟨v', rfl, own11, hb11⟩
               have ST11 := hid (ST10.out.below hb11)
               have HLT := hid (show w.heap.size + 1 < w10.heap.size from ST10.out.lz)
               obtain ⟨b1, g1, b2, g2, rfl⟩ := own11.shape
               have OW11 := hid own11
               clear hb11 own11 WI10 c0 c1 c2 c3 c4
               obtain ⟨z0, z1, z2, z3, z4, fz0, fz1, fz2, fz3, fz4, lz, lt0⟩ := ret5 ST11.out
               simp only [withT, leftN]
               go_wp2_with fail
               try simp only [Exit.inBlock, Exit.then]
               try rw [Exit.noGoto_ret]
               change bodyPost _ _ _ _ _ (P5 w11 (w.heap.size + 1) (.string ⟨ql.toArray⟩) (.string ⟨qs.toArray⟩) (.string ⟨#[]⟩) (.slice b1 t.vars.length g1) (.slice b2 t.keys.length g2))
               exact remT_ret (t' := withT t ⟨ql, qs, []⟩) ST11.out HLT.out true (by rw [HA.out, HLE.out]; try rfl) OW11.out rfl rfl rfl
             · have hqn : ¬ (ql = ml ∧ qs = ms ∧ qr = mr) := fun e => hqm (by rw [e.1, e.2.1, e.2.2])
               have HQM := hid hqm
               clear hqm
               obtain ⟨k0, k1, k2⟩ := box3_cells HK10.out
               have ltk := lt_of_block HK10.out
               have c0 := ST10.out.c0
               have c1 := ST10.out.c1
               have c2 := ST10.out.c2
               have c3 := ST10.out.c3
               have c4 := ST10.out.c4
               have lt0 := ST10.out.lt
               go_wp2_with fail
               all_goals first | exact absurd (⟨by assumption, by assumption, by assumption⟩ : ql = ml ∧ qs = ms ∧ qr = mr) hqn | go_roundg (gk - 1)
               all_goals first
                 | (have := HG.out; omega)
                 | exact ⟨3, by omega, by have := HG.out; omega, rfl, left_step HNO.out (by rw [HQ.out]; exact fun e => HQM.out (Prod.mk.inj e).1), ST10.out, HP10.out⟩
         · -- the end
           have hvi3 : _ = Value.int .i64 3 := hvi
           subst hvi3
           have HLE := hid (least_end HNO.out)
           obtain ⟨p0, p1, p2⟩ := box3_cells HP2.out
           have ltp := lt_of_block HP2.out
           have c0 := ST2.out.c0
           have c1 := ST2.out.c1
           have c2 := ST2.out.c2
           have c3 := ST2.out.c3
           have c4 := ST2.out.c4
           have lt0 := ST2.out.lt
           have WI2 := hid (WI.out w2 ⟨ml, ms, mr⟩ ST2.out)
           simp only [ptV, S] at WI2
           go_wp2_with fail
           refine WI2.out.mono ?_
           rintro e w11 ⟨v', rfl, own11, hb11⟩
           have ST11 := hid (ST2.out.below hb11)
           have HLT := hid (show w.heap.size + 1 < w2.heap.size from ST2.out.lz)
           obtain ⟨b1, g1, b2, g2, rfl⟩ := own11.shape
           have OW11 := hid own11
           clear hb11 own11 WI2 c0 c1 c2 c3 c4
           obtain ⟨z0, z1, z2, z3, z4, fz0, fz1, fz2, fz3, fz4, lz, lt0⟩ := ret5 ST11.out
           simp only [withT, leftN]
           go_wp2_with fail
           try simp only [Exit.inBlock, Exit.then]
           try rw [Exit.noGoto_ret]
           change bodyPost _ _ _ _ _ (P5 w11 (w.heap.size + 1) (.string ⟨ml.toArray⟩) (.string ⟨ms.toArray⟩) (.string ⟨mr.toArray⟩) (.slice b1 t.vars.length g1) (.slice b2 t.keys.length g2))
           exact remT_ret (t' := withT t ⟨ml, ms, mr⟩) ST11.out HLT.out true (by rw [HA.out, HLE.out]; try rfl) OW11.out rfl rfl rfl
      · have HA := hid (rem_no H0.out HM.out hcm)
        simp only [withT] at hcm
        have hcb : (checkF { lang := ml, script := ms, region := mr, vars := t.vars, keys := t.keys } != 0) = true := by rw [bne_iff_ne]; exact hcm
        clear hcm
        go_upto_region 5 with fail
        have std : AdSt w t (.slice av t.vars.length cv) (.slice ak t.keys.length ck) w7.drew := ST7.out.drew
        have S0 : w7.drew.cell? ⟨w.heap.size, 0, none⟩ = some (.string ⟨t.lang.toArray⟩) ∧ w7.drew.cell? ⟨w.heap.size, 1, none⟩ = some (.string ⟨t.script.toArray⟩) ∧ w7.drew.cell? ⟨w.heap.size, 2, none⟩ = some (.string ⟨t.region.toArray⟩) ∧ w7.drew.cell? ⟨w.heap.size, 3, none⟩ = some (.slice av t.vars.length cv) ∧ w7.drew.cell? ⟨w.heap.size, 4, none⟩ = some (.slice ak t.keys.length ck) := ⟨std.c0, std.c1, std.c2, std.c3, std.c4⟩
        have hn1 : w.heap.size + 1 ≠ w.heap.size := by omega
        go_region_held3 (fun W => W.cell? ⟨w.heap.size, 0, none⟩ = some (.string ⟨t.lang.toArray⟩) ∧ W.cell? ⟨w.heap.size, 1, none⟩ = some (.string ⟨t.script.toArray⟩) ∧ W.cell? ⟨w.heap.size, 2, none⟩ = some (.string ⟨t.region.toArray⟩) ∧ W.cell? ⟨w.heap.size, 3, none⟩ = some (.slice av t.vars.length cv) ∧ W.cell? ⟨w.heap.size, 4, none⟩ = some (.slice ak t.keys.length ck)) (first | with_reducible assumption | simp [cell_far hn1, hsP]) (first
          | (go_at_call 31; (with_reducible refine (of_held (by assumption)).mono ?_); rintro e wS ⟨rfl, sS, ys0, ys1, ys2, ys3, ys4, ys5, ys6, ys7, ys8, ys9, ys10, ys11, hsS⟩)
          | (go_at_call 32; (with_reducible refine (with_held (by assumption) hv hk).mono ?_); rintro e wP ⟨b1, g1, b2, g2, rfl, oP, sP, yp0, yp1, yp2, yp3, yp4, yp5, yp6, yp7, yp8, yp9, yp10, yp11, hsP⟩))
        go_wp2_with fail
        change bodyPost _ _ _ _ _ (P5 wP (w.heap.size + 1) (.string ⟨t.lang.toArray⟩) (.string ⟨t.script.toArray⟩) (.string ⟨t.region.toArray⟩) (.slice b1 t.vars.length g1) (.slice b2 t.keys.length g2))
        exact remT_ret (t' := t) sP (B := w.heap.size + 2) (by omega) false HA.out oP rfl rfl rfl
  · have HA := hid (rem_chk (D := D) h0)
    have hb : (checkF t != 0) = true := by rw [bne_iff_ne]; exact h0
    clear h0
    go_wp2_with fail
    change bodyPost _ _ _ _ _ (P5 w1 (w.heap.size + 1) (.string ⟨#[]⟩) (.string ⟨#[]⟩) (.string ⟨#[]⟩) (.slice none 0 0) (.slice none 0 0))
    exact remT_ret (t' := Tg.zero) ST1.out (B := w.heap.size + 2) (by omega) false HA.out (ca := none) (cb := none) (na := 0) (nb := 0) (OwnT.zero _ _) rfl rfl rfl
end Go.Proofs.YtlmgmifaknlolaaGreat
