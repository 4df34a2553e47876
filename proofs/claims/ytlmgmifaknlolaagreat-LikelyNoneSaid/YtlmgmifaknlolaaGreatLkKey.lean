/- The contract of likely.read. -/
import Derived.Test.YtlmgmifaknlolaaGreatLkRead
set_option linter.unusedVariables false
set_option linter.unusedSimpArgs false
namespace Go.Proofs.YtlmgmifaknlolaaGreat
open Go.RowKit Go.Lib Go.Sort

set_option maxRecDepth 100000 in
set_option maxHeartbeats 8000000 in
theorem read_any (w : World) (k : Str) (hk : k.length ≤ maxLen) :
    Calls Tryz.prog 37 #[.string ⟨k.toArray⟩] w fun e w' => e = .returned (.tuple #[ptV (ptRead k).1, .bool (ptRead k).2]) ∧ Below w.heap.size w w' := by
  have PA := hid (fun W => parse_any ⟨k.toArray⟩ W (by rw [Lib.size_eq]; exact hk))
  rw [show (⟨k.toArray⟩ : ByteArray).data.toList = k from rfl] at PA
  have hgood := good_of k
  have hrd : ∀ x, parseF k = x → ptRead k = if x.err ≠ 0 ∨ x.tag.vars ≠ [] ∨ x.tag.keys ≠ [] then (Pt.zero, false) else (ptOf x.tag, ptKey (ptOf x.tag) == k) := fun x hx => by rw [← hx]; rfl
  generalize hx : parseF k = x at *
  have HRD := hid (hrd x rfl)
  clear hrd
  clear hx
  have hb0 : Below w.heap.size w (w.alloc (.cells #[.string ⟨#[]⟩, .string ⟨#[]⟩, .string ⟨#[]⟩] 57)) := (Below.refl _ _).alloc (Nat.le_refl _) _
  have hz0 : (w.alloc (.cells #[.string ⟨#[]⟩, .string ⟨#[]⟩, .string ⟨#[]⟩] 57)).heap[w.heap.size]? = some (.cells #[.string ⟨#[]⟩, .string ⟨#[]⟩, .string ⟨#[]⟩] 57 (0, 0)) := heap_alloc_new w _
  have HB0 := hid hb0
  have HZ0 := hid hz0
  clear hb0 hz0
  go_enter Tryz.func37, Tryz.ntmps37
  go_wp2_with fail
  refine (PA.out _).mono ?_
  rintro e w1 ⟨vv, kv, rfl, o1, o2, hb1⟩
  obtain ⟨av, cv, rfl⟩ := own_sliceS o1
  obtain ⟨ak, ck, rfl⟩ := own_sliceP o2
  simp only [tagCells, S]
  have HR := hid (show RdT w1 (.agg (tagCells x.tag (.slice av x.tag.vars.length cv) (.slice ak x.tag.keys.length ck))) x.tag from ⟨_, _, rfl, o1.rd, o2.rd⟩)
  simp only [tagCells, S] at HR
  have HZ1 := hid ((hb1.block _ (lt_of_block HZ0.out)).trans HZ0.out)
  have HB1 := hid (HB0.out.then hb1)
  clear o1 o2 hb1 HZ0 HB0 PA
  go_upto_region 2 with (fail)
  have HB2 := hid (below2 w1 (.cells #[.string ⟨x.tag.lang.toArray⟩, .string ⟨x.tag.script.toArray⟩, .string ⟨x.tag.region.toArray⟩, .slice av x.tag.vars.length cv, .slice ak x.tag.keys.length ck] 25) (.cells #[.int .i64 (x.err : Int), .int .i64 (x.pos : Int)] 62))
  have HT2 := hid (heap_alloc2_old w1 (.cells #[.string ⟨x.tag.lang.toArray⟩, .string ⟨x.tag.script.toArray⟩, .string ⟨x.tag.region.toArray⟩, .slice av x.tag.vars.length cv, .slice ak x.tag.keys.length ck] 25) (.cells #[.int .i64 (x.err : Int), .int .i64 (x.pos : Int)] 62))
  have HS2 := hid (heap_alloc2_new w1 (.cells #[.string ⟨x.tag.lang.toArray⟩, .string ⟨x.tag.script.toArray⟩, .string ⟨x.tag.region.toArray⟩, .slice av x.tag.vars.length cv, .slice ak x.tag.keys.length ck] 25) (.cells #[.int .i64 (x.err : Int), .int .i64 (x.pos : Int)] 62))
  generalize (w1.alloc (.cells #[.string ⟨x.tag.lang.toArray⟩, .string ⟨x.tag.script.toArray⟩, .string ⟨x.tag.region.toArray⟩, .slice av x.tag.vars.length cv, .slice ak x.tag.keys.length ck] 25)).alloc (.cells #[.int .i64 (x.err : Int), .int .i64 (x.pos : Int)] 62) = w2 at *
  have HZ2 := hid ((HB2.out.block _ (lt_of_block HZ1.out)).trans HZ1.out)
  have HW2 := hid (HB1.out.then HB2.out)
  have HR2 := hid (HR.out.below HB2.out)
  clear HZ1 HB1 HB2 HR
  obtain ⟨c0, c1, c2, c3, c4⟩ := box_cells HT2.out
  obtain ⟨d0, d1, d2⟩ := box3_cells HZ2.out
  have hsz := lt_of_block HT2.out
  have hsz1 := lt_of_block HZ2.out
  have hsz2 := lt_of_block HS2.out
  have e0 : w2.cell? ⟨w1.heap.size + 1, 0, none⟩ = some (.int .i64 (x.err : Int)) := by rw [cell_of_row _ _ _ _ _ _ HS2.out]; rfl
  have fz0 := frozen_of_row w2 w.heap.size 0 _ _ HZ2.out
  have fz1 := frozen_of_row w2 w.heap.size 1 _ _ HZ2.out
  have fz2 := frozen_of_row w2 w.heap.size 2 _ _ HZ2.out
  by_cases hbad : x.err ≠ 0 ∨ x.tag.vars ≠ [] ∨ x.tag.keys ≠ []
  · have HQ := hid (show ptRead k = (Pt.zero, false) by rw [HRD.out, if_pos hbad])
    have hend : ∀ (a : Act) (hd : a.defers = []) (h2 : a.tmps.getD 2 undef = .pointer (some ⟨w.heap.size, 0, none⟩)) (h3 : a.tmps.getD 3 undef = .bool false),
        bodyPost Tryz.prog Tryz.f37 (fun e w' => e = .returned (.tuple #[ptV (ptRead k).1, .bool (ptRead k).2]) ∧ Below w.heap.size w w') Exit.ret a (P3 w2 w.heap.size (.string ⟨#[]⟩) (.string ⟨#[]⟩) (.string ⟨#[]⟩)) := fun a hd h2 h3 => by
      have hr := P3_row (.string ⟨#[]⟩) (.string ⟨#[]⟩) (.string ⟨#[]⟩) HZ2.out
      have hw := P3_below (.string ⟨#[]⟩) (.string ⟨#[]⟩) (.string ⟨#[]⟩) HW2.out (Nat.le_refl w.heap.size)
      generalize P3 w2 w.heap.size (.string ⟨#[]⟩) (.string ⟨#[]⟩) (.string ⟨#[]⟩) = W at *
      obtain ⟨d0, d1, d2⟩ := box3_cells hr
      refine bodyPost_ret (v := .tuple #[.agg #[.string ⟨#[]⟩, .string ⟨#[]⟩, .string ⟨#[]⟩], .bool false]) ?_ hd ⟨by rw [HQ.out]; rfl, hw⟩
      obtain ⟨tmps, defers⟩ := a
      simp only [Array.getD_eq_getD_getElem?] at h2 h3
      simp [results, Tryz.results37, go_sem, h2, h3, d0, d1, d2]
    have HEND := hid hend
    clear hend
    by_cases he : x.err = 0
    · rw [he] at e0
      by_cases hv : x.tag.vars = []
      · have hkk : x.tag.keys ≠ [] := by
          rcases hbad with h | h | h
          · exact absurd he h
          · exact absurd hv h
          · exact h
        rw [hv] at c3
        simp only [List.length_nil] at c3
        have hk0 : (0 : Int) < (x.tag.keys.length : Int) := by have := List.length_pos_iff.2 hkk; omega
        clear hbad he hv hkk HT2 HR2
        go_wp2_with fail
        exact HEND.out _ rfl rfl rfl
      · have hv0 : (0 : Int) < (x.tag.vars.length : Int) := by have := List.length_pos_iff.2 hv; omega
        have hv1 : 0 < x.tag.vars.length := List.length_pos_iff.2 hv
        clear hbad he hv HT2 HR2
        go_wp2_with fail
        all_goals first | exact HEND.out _ rfl rfl rfl | (exfalso; omega)
    · have heb : ((x.err : Int) != 0) = true := by rw [bne_iff_ne]; omega
      clear hbad he HT2 HR2
      go_wp2_with fail
      exact HEND.out _ rfl rfl rfl
  · have he : x.err = 0 := by apply Classical.byContradiction; intro e; exact hbad (Or.inl e)
    have hv : x.tag.vars = [] := by apply Classical.byContradiction; intro e; exact hbad (Or.inr (Or.inl e))
    have hkk : x.tag.keys = [] := by apply Classical.byContradiction; intro e; exact hbad (Or.inr (Or.inr e))
    have HQ := hid (show ptRead k = (ptOf x.tag, ptKey (ptOf x.tag) == k) by rw [HRD.out, if_neg hbad])
    have hg := hgood he
    have hpt := pt_tag hv hkk
    have OF := hid (fun W (hb : Below w2.heap.size w2 W) => of_any W _ _ (HR2.out.below hb))
    have KY := hid (fun W => key_any W (ptOf x.tag) (by rw [hpt]; have := hg.write; omega))
    clear hbad hpt hg hgood HRD
    obtain ⟨⟨tl, ts, tr, tv, tk⟩, er, pos⟩ := x
    simp only at he hv hkk
    subst he hv hkk
    simp only [List.length_nil, ptOf] at *
    generalize ptKey ⟨tl, ts, tr⟩ = s at *
    simp only [ptV, S] at OF KY
    go_wp2_with fail
    refine (OF.out _ (Below.refl _ _)).mono ?_
    rintro e w3 ⟨rfl, hb3⟩
    have HZ3 := hid ((hb3.block _ hsz1).trans HZ2.out)
    have HW3 := hid (HW2.out.then hb3)
    clear c0 c1 c2 c3 c4 d0 d1 d2 e0 fz0 fz1 fz2 hsz hsz1 hsz2 hb3 HZ2 HW2 HR2 HT2 HS2
    go_upto_region 5 with (fail)
    have HB4 := hid (show Below w3.heap.size w3 (w3.alloc (.cells #[.string ⟨tl.toArray⟩, .string ⟨ts.toArray⟩, .string ⟨tr.toArray⟩] 57)) from (Below.refl _ _).alloc (Nat.le_refl _) _)
    have HX4 := hid (heap_alloc_new w3 (.cells #[.string ⟨tl.toArray⟩, .string ⟨ts.toArray⟩, .string ⟨tr.toArray⟩] 57))
    generalize w3.alloc (.cells #[.string ⟨tl.toArray⟩, .string ⟨ts.toArray⟩, .string ⟨tr.toArray⟩] 57) = w4 at *
    have HZ4 := hid ((HB4.out.block _ (lt_of_block HZ3.out)).trans HZ3.out)
    have HW4 := hid (HW3.out.then HB4.out)
    have K1 := hid (fun W (hb : Below w4.heap.size w4 W) => ((KY.out W).mono (by
      rintro e w' ⟨rfl, hb'⟩
      have h3 := hb.then hb'
      have hr := (h3.block _ (lt_of_block HZ4.out)).trans HZ4.out
      have hx := (h3.block _ (lt_of_block HX4.out)).trans HX4.out
      obtain ⟨c0, c1, c2⟩ := box3_cells hx
      obtain ⟨d0, d1, d2⟩ := box3_cells hr
      exact ⟨rfl, h3, c0, c1, c2, d0, d1, d2, frozen_of_row w' _ 0 _ _ hr, frozen_of_row w' _ 1 _ _ hr, frozen_of_row w' _ 2 _ _ hr, lt_of_block hr, lt_of_block hx, hr⟩) : Calls Tryz.prog 38 _ W fun e w' => e = .returned (.string ⟨s.toArray⟩) ∧ Below w4.heap.size w4 w' ∧ w'.cell? ⟨w3.heap.size, 0, none⟩ = some (.string ⟨tl.toArray⟩) ∧ w'.cell? ⟨w3.heap.size, 1, none⟩ = some (.string ⟨ts.toArray⟩) ∧ w'.cell? ⟨w3.heap.size, 2, none⟩ = some (.string ⟨tr.toArray⟩) ∧
        w'.cell? ⟨w.heap.size, 0, none⟩ = some (.string ⟨#[]⟩) ∧ w'.cell? ⟨w.heap.size, 1, none⟩ = some (.string ⟨#[]⟩) ∧ w'.cell? ⟨w.heap.size, 2, none⟩ = some (.string ⟨#[]⟩) ∧ w'.frozen? ⟨w.heap.size, 0, none⟩ = false ∧ w'.frozen? ⟨w.heap.size, 1, none⟩ = false ∧ w'.frozen? ⟨w.heap.size, 2, none⟩ = false ∧ w.heap.size < w'.heap.size ∧ w3.heap.size < w'.heap.size ∧ w'.heap[w.heap.size]? = some (.cells #[.string ⟨#[]⟩, .string ⟨#[]⟩, .string ⟨#[]⟩] 57 (0, 0))))
    have K2 := hid (K1.out w4.drew (Below.refl _ _).drew)
    obtain ⟨c0, c1, c2⟩ := box3_cells HX4.out
    obtain ⟨d0, d1, d2⟩ := box3_cells HZ4.out
    have hszx := lt_of_block HX4.out
    have hszz := lt_of_block HZ4.out
    go_region_with (first | (go_at_call 38; (refine K2.out.mono ?_); rintro e w' ⟨rfl, hb', c0', c1', c2', d0', d1', d2', f0', f1', f2', z0', z1', hr'⟩))
    all_goals go_wp2_with fail
    all_goals
      have hr := P3_row (.string ⟨tl.toArray⟩) (.string ⟨ts.toArray⟩) (.string ⟨tr.toArray⟩) hr'
      have hw := P3_below (.string ⟨tl.toArray⟩) (.string ⟨ts.toArray⟩) (.string ⟨tr.toArray⟩) (HW4.out.then hb') (Nat.le_refl w.heap.size)
      clear c0 c1 c2 d0 d1 d2 c0' c1' c2' d0' d1' d2' f0' f1' f2' hr'
      change bodyPost _ _ _ _ _ (P3 w' w.heap.size (.string ⟨tl.toArray⟩) (.string ⟨ts.toArray⟩) (.string ⟨tr.toArray⟩))
      generalize P3 w' w.heap.size (.string ⟨tl.toArray⟩) (.string ⟨ts.toArray⟩) (.string ⟨tr.toArray⟩) = W at *
      obtain ⟨d0, d1, d2⟩ := box3_cells hr
      exact bodyPost_ret (v := .tuple #[.agg #[.string ⟨tl.toArray⟩, .string ⟨ts.toArray⟩, .string ⟨tr.toArray⟩], .bool (s == k)]) (by simp [results, Tryz.results37, go_sem, d0, d1, d2]) rfl ⟨by rw [HQ.out]; rfl, hw⟩
end Go.Proofs.YtlmgmifaknlolaaGreat
