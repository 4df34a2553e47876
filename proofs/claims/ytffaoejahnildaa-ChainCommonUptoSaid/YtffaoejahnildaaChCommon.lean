/- The walk of the law ChainCommon. -/
import Derived.Test.YtffaoejahnildaaChEnds
set_option linter.unusedVariables false
set_option linter.unusedSimpArgs false
namespace Go.Proofs.Ytffaoejahnildaa
open Go.RowKit Go.Lib Go.Sort Go.Maps

set_option maxRecDepth 100000 in
set_option maxHeartbeats 16000000 in
theorem common_law (w : World) (va : Value) (D : List (Str × Str)) (a b : Str) (hl : RdP w va D) (hp : PSz D) (hsz : D.length ≤ 1000000000) (ha : a.length ≤ maxLen) (hb : b.length ≤ maxLen) :
    Calls Try.prog 5 #[va, .string ⟨a.toArray⟩, .string ⟨b.toArray⟩] w fun e w' => e = .returned (.bool true) ∧ Below w.heap.size w w' := by
  have HL := hid hl
  obtain ⟨ao, cp, rfl, hlen, _⟩ := hl
  have NW := hid (fun W v (h : RdP W v D) => new_any W v D h hp (by omega))
  have HSZ := hid (show ([] : List (Str × Str)).length + D.length ≤ 1000000000000 by simp; omega)
  have HSZ2 := hid (show D.length ≤ 10000000000 by omega)
  clear hp hsz
  go_enter Try.func5, Try.ntmps5
  go_wp2_with fail
  refine (lwakes_any _).mono ?_
  rintro e w1 ⟨rfl, hb1⟩
  have HB1 := hid hb1
  have hb2 : Below w1.heap.size w1 (w1.alloc (.cells (flat2 []).toArray 33)) := (Below.refl _ _).alloc (Nat.le_refl _) _
  have HO2 := hid (fresh_ownP w1 [] w1.heap.size (Nat.le_refl _) (by decide))
  have HR2 := hid (HL.out.below (HB1.out.then hb2))
  have HB2 := hid (HB1.out.then hb2)
  have HSS := hid (show w1.heap.size ≤ (w1.alloc (.cells (flat2 []).toArray 33)).heap.size by simp)
  have HU2 := hid hb2
  clear hb1 hb2
  go_wp2_with (at_builtin; refine wpList_appP rfl (.tmp 17) (.tmp 18) rfl w1.heap.size _ _ [] D rfl HO2.out rfl HR2.out HSZ.out HSS.out ?_; intro v3 w3 own3 gr3 mv3)
  have HR3 := hid own3.rd
  have HB3 := hid (HB1.out.then (HU2.out.grown gr3 HSS.out (fun j hj => by cases hj; exact Nat.le_refl _)))
  rw [List.nil_append] at HR3
  clear own3 gr3 mv3 HO2 HR2 HB2 HU2
  refine (NW.out _ _ HR3.out).mono ?_
  rintro e w4 ⟨er, i, vc, rfl, ho, h0, h1, hb4⟩
  have HB4 := hid (HB3.out.then hb4)
  have HNO := hid ho
  have H0 := hid h0
  have H1 := hid h1
  have hb5 : Below w4.heap.size w4 (w4.alloc (.cells #[.int .i64 (er : Int), .int .i64 (i : Int)] 27)) := (Below.refl _ _).alloc (Nat.le_refl _) _
  have HB5 := hid (HB4.out.then hb5)
  have HU5 := hid hb5
  clear ho h0 h1 hb4 hb5
  by_cases her : er = 0
  · subst her
    have HC := hid (H0.out rfl)
    obtain ⟨hsd, hrg, _, hi0⟩ := new_ok HNO.out
    subst hi0
    have HSD := hid hsd
    obtain ⟨bc, bm, n0, rfl, _, _, _⟩ := HC.out
    obtain ⟨x, hx⟩ := chain_ex HNO.out a
    obtain ⟨y, hy⟩ := chain_ex HNO.out b
    have HX := hid hx
    have HY := hid hy
    have CH := hid (fun W (hb : Below w4.heap.size w4 W) (t : Str) (m : List Str) (ht : ChainIs D t m) (htl : t.length ≤ maxLen) => chain_any W _ D t m (HC.out.below hb) HSD.out ht htl HSZ2.out)
    have AB := hid (fun W (hb : Below w4.heap.size w4 W) (a t : Str) (m : List Str) (ht : ChainIs D t m) (htl : t.length ≤ maxLen) => above_any W _ D a t m (HC.out.below hb) HSD.out ht htl HSZ2.out)
    have CM := hid (fun W (hb2 : Below w4.heap.size w4 W) => common_any W _ D a b x y (HC.out.below hb2) HSD.out HX.out HY.out ha hb HSZ2.out)
    have c0 : (w4.alloc (.cells #[.int .i64 0, .int .i64 0] 27)).cell? ⟨w4.heap.size, 0, none⟩ = some (.int .i64 0) := by rw [cell_of_row _ _ _ _ _ _ (heap_alloc_new w4 _)]; rfl
    clear hsd hrg hx hy H0 H1
    obtain ⟨c, hc⟩ : ∃ c, c = firstIn x y := ⟨_, rfl⟩
    rw [← hc] at CM
    have HCC := hid hc
    clear hc
    go_wp2_with fail
    refine (CM.out _ HU5.out).mono ?_
    rintro e w6 ⟨rfl, hb6⟩
    have HB6 := hid (HB5.out.then hb6)
    have HU6 := hid (HU5.out.then hb6)
    clear hb6 c0 CM
    go_wp2_with fail
    refine (CH.out _ HU6.out a x HX.out ha).mono ?_
    rintro e w7 ⟨vx, rfl, ownx, hb7⟩
    have HB7 := hid (HB6.out.then hb7)
    have HU7 := hid (HU6.out.then hb7)
    have HOX := hid ownx
    clear hb7 ownx
    go_wp2_with fail
    refine (CH.out _ HU7.out b y HY.out hb).mono ?_
    rintro e w8 ⟨vy, rfl, owny, hb8⟩
    have HB8 := hid (HB7.out.then hb8)
    have HU8 := hid (HU7.out.then hb8)
    have HOX8 := hid (own_below HOX.out hb8)
    obtain ⟨yg, yc, rfl⟩ := own_sliceS owny
    clear hb8 owny HOX CH
    have hrest : Hid (x ≠ [] → y ≠ [] → namedB c = true ∧ c ∈ x ∧ c ∈ y ∧ ∃ z, ChainIs D c z ∧ ∀ t, t ∈ x → t ∈ y → t ∈ z) := fun h1 h2 => by
      rcases HX.out with ⟨hn1, hu1⟩ | ⟨_, rfl⟩
      · rcases HY.out with ⟨hn2, hu2⟩ | ⟨_, rfl⟩
        · obtain ⟨p, q, hp, hcy, _⟩ := first_parts ⟨tRoot, up_mem_root hu1, up_mem_root hu2⟩
          have hcx : firstIn x y ∈ x := by
            have h9 : firstIn x y ∈ p ++ firstIn x y :: q := List.mem_append_right _ List.mem_cons_self
            rw [← hp] at h9
            exact h9
          have hcn := up_named HSD.out hn1 hu1 _ hcx
          obtain ⟨z, hz⟩ := chain_ex HNO.out (firstIn x y)
          rw [HCC.out]
          refine ⟨hcn, hcx, hcy, z, hz, fun t ht1 ht2 => ?_⟩
          rcases hz with ⟨_, hz⟩ | ⟨hz, _⟩
          · exact first_above hu1 (up_mem_root hu2) hz ht1 ht2
          · rw [hcn] at hz; cases hz
        · exact absurd rfl h2
      · exact absurd rfl h1
    by_cases hx0 : x = []
    · have hz1 : ((x.length : Int) == 0) = true := by rw [hx0]; rfl
      have hce : (c == []) = true := by rw [HCC.out, hx0]; rfl
      obtain ⟨xg, xc, rfl⟩ := own_sliceS HOX8.out
      clear hx0
      go_wp2_with fail
      go_ret
      exact ⟨rfl, HB8.out⟩
    · have hxl : 0 < x.length := List.length_pos_iff.2 hx0
      have hz1 : ((x.length : Int) == 0) = false := by rw [beq_eq_false_iff_ne]; omega
      by_cases hy0 : y = []
      · have hz2 : ((y.length : Int) == 0) = true := by rw [hy0]; rfl
        have hce : (c == []) = true := by
          rw [HCC.out]; unfold firstIn
          rw [hy0, List.find?_eq_none.2 (by simp)]; rfl
        obtain ⟨xg, xc, rfl⟩ := own_sliceS HOX8.out
        clear hx0 hxl hy0
        go_wp2_with fail
        go_ret
        exact ⟨rfl, HB8.out⟩
      · have hyl : 0 < y.length := List.length_pos_iff.2 hy0
        have hz2 : ((y.length : Int) == 0) = false := by rw [beq_eq_false_iff_ne]; omega
        obtain ⟨hcn, hcx, hcy, z, hz, hall⟩ := hrest.out hx0 hy0
        obtain ⟨g, cap, rfl, hg, hlc, hcm, hcells⟩ := own_at HOX8.out hx0
        have HCL := hid hcells
        have hlm : x.length ≤ 9223372036854775807 := by unfold maxLen at hcm; omega
        have hcl : c.length ≤ maxLen := Nat.le_trans (named_len hcn) (by decide)
        have KA := hid (fun W (hb2 : Below w4.heap.size w4 W) => AB.out W hb2 c a x HX.out ha)
        have KB := hid (fun W (hb2 : Below w4.heap.size w4 W) t => AB.out W hb2 t b y HY.out hb)
        have KZ := hid (fun W (hb2 : Below w4.heap.size w4 W) t => AB.out W hb2 t c z hz hcl)
        have HALL := hid hall
        have hda : decide (c ∈ x) = true := by simp [hcx]
        have hdb : decide (c ∈ y) = true := by simp [hcy]
        have HDA := hid hda
        have HDB := hid hdb
        clear hx0 hxl hy0 hyl hcn hcx hcy hz hall hcells hrest hcm hcl AB hda hdb
        go_wp2_with fail
        refine (KA.out _ HU8.out).mono ?_
        rintro e w9 ⟨rfl, hb9⟩
        rw [HDA.out]
        have HB9 := hid (HB8.out.then hb9)
        have HU9 := hid (HU8.out.then hb9)
        have HV9 := hid hb9
        clear hb9
        go_wp2_with fail
        refine (KB.out _ HU9.out c).mono ?_
        rintro e w10 ⟨rfl, hb10⟩
        rw [HDB.out]
        have HB10 := hid (HB9.out.then hb10)
        have HU10 := hid (HU9.out.then hb10)
        have HV10 := hid (HV9.out.then hb10)
        clear hb10 KA
        go_wp2_with fail
        go_loopg [60] x.length (fun g' vi W => ∃ n : Nat, n ≤ x.length ∧ x.length ≤ n + g' ∧ vi = .int .i64 n ∧ Below w10.heap.size w10 W)
        case atStart => exact ⟨0, Nat.zero_le _, by omega, rfl, Below.refl _ _⟩
        case round =>
          obtain ⟨n, hn, hg2, rfl, hb11⟩ := hrel
          rename World => w11
          have HG := hid hg2
          have HB11 := hid hb11
          clear hg2 hb11
          by_cases hlt : n < x.length
          · obtain ⟨t, ht⟩ : ∃ t, t = x[n]'hlt := ⟨_, rfl⟩
            have q1 : w11.cell? ⟨g, n, none⟩ = some (S t) := ((HV10.out.then HB11.out).cell (p := ⟨g, n, none⟩) hg).trans (HCL.out n t (by rw [ht, List.getElem?_eq_getElem hlt]))
            rw [S] at q1
            have HTX := hid (show t ∈ x by rw [ht]; exact List.getElem_mem hlt)
            have hni : (n : Int) < (x.length : Int) := by omega
            have hn0 : (0 : Int) ≤ (n : Int) := by omega
            clear ht
            go_wp2_with fail
            refine (KB.out _ (HU10.out.then HB11.out) t).mono ?_
            rintro e w12 ⟨rfl, hb12⟩
            have HB12 := hid (HB11.out.then hb12)
            clear hb12 q1
            by_cases hty : t ∈ y
            · have hdy : decide (t ∈ y) = true := by simp [hty]
              rw [hdy]
              have HTZ := hid (show decide (t ∈ z) = true by have := HALL.out t HTX.out hty; simp [this])
              clear hty hdy
              go_wp2_with fail
              refine (KZ.out _ (HU10.out.then HB12.out) t).mono ?_
              rintro e w13 ⟨rfl, hb13⟩
              rw [HTZ.out]
              have HB13 := hid (HB12.out.then hb13)
              clear hb13
              go_wp2_with fail
              go_roundg (gk - 1)
              case measure => have := HG.out; omega
              case rel => exact ⟨n + 1, by omega, by have := HG.out; omega, by simp, HB13.out⟩
            · have hdy : decide (t ∈ y) = false := by simp [hty]
              rw [hdy]
              clear hty hdy
              go_wp2_with fail
              go_roundg (gk - 1)
              case measure => have := HG.out; omega
              case rel => exact ⟨n + 1, by omega, by have := HG.out; omega, by simp, HB12.out⟩
          · go_wp2_with fail
            go_ret
            exact ⟨rfl, HB10.out.then HB11.out⟩
  · have hvc := H1.out her
    subst hvc
    have heb : ((er : Int) != 0) = true := by rw [bne_iff_ne]; omega
    have heb2 : ((er : Int) == 0) = false := by rw [beq_eq_false_iff_ne]; omega
    have c0 : (w4.alloc (.cells #[.int .i64 (er : Int), .int .i64 (i : Int)] 27)).cell? ⟨w4.heap.size, 0, none⟩ = some (.int .i64 (er : Int)) := by rw [cell_of_row _ _ _ _ _ _ (heap_alloc_new w4 _)]; rfl
    clear her H0 H1
    go_wp2_with fail
    go_ret
    exact ⟨rfl, HB5.out⟩
end Go.Proofs.Ytffaoejahnildaa
