/- Several texts in one: ChTells, ChainTells. (joined by wip/merge.py) -/
import Derived.Test.YtffaoejahnildaaGreatMF
import Derived.Test.YtffaoejahnildaaGreatMD
import Derived.Test.YtffaoejahnildaaGreatRows
import Derived.Test.YtffaoejahnildaaGreatMB
import Derived.WalkKit
import Derived.ProofKit
import Derived.OpenShut
import Derived.ShutString
import Derived.ChangeOld
import Derived.ChangeSlices
import Derived.ChangeArms
import Derived.Below

/- The walk of the law ChainTells. -/
set_option linter.unusedVariables false
set_option linter.unusedSimpArgs false
namespace Go.Proofs.YtffaoejahnildaaGreat
open Go.RowKit Go.Lib Go.Sort Go.Maps

theorem field0 (x y : Int) (w : World) : (Instr.field 26 (.agg #[.int .i64 x, .int .i64 y]) 0).run Tryz.prog w = .ok (.int .i64 x) w := by kernel_rfl
theorem named_ne {s : Str} (h : namedB s = true) : s ≠ [] := by
  obtain ⟨_, hg, _, hn⟩ := named_facts h
  intro e
  have hn2 : nameOf (writeF (tagOf s)) = [] := hn.trans e
  rw [write_R _ hg.canon] at hn2
  unfold nameOf at hn2
  split at hn2
  · cases hn2
  · unfold partsR at hn2
    rw [join_jt] at hn2
    exact head_ne _ (List.append_eq_nil_iff.1 hn2).1
theorem tells_short {D : List (Str × Str)} {a : Str} {x : List Str} (h0 : NewOut D 0 0) (hx : ChainIs D a x) (hl : x.length < 2) : parentF D a = ([], false) ∧ plainF a = ([], false) := by
  obtain ⟨hs, _, _, _⟩ := new_ok h0
  have hno : ¬ (namedB a = true ∧ a ≠ tRoot) := by
    rintro ⟨h1, h2⟩
    rcases hx with ⟨_, hu⟩ | ⟨h, _⟩
    · have h3 : 0 < x.length := List.length_pos_iff.2 (up_ne hu)
      have h4 : x[0]'h3 = a := by obtain ⟨r, rfl⟩ := up_head hu; rfl
      obtain ⟨h5, _⟩ := up_next hu 0 h3 (by rw [h4]; exact h2)
      omega
    · rw [h1] at h; cases h
  have hp := plain_no hno
  have hlk : look D a = none := look_none.2 fun p hp e => hno ⟨e ▸ (hs p hp).1, e ▸ (hs p hp).2.2⟩
  exact ⟨by unfold parentF; rw [hlk]; exact hp, hp⟩
theorem tells_long {D : List (Str × Str)} {a : Str} {x : List Str} (hx : ChainIs D a x) (hl : ¬ x.length < 2) : ∃ y, x[1]? = some y ∧ parentF D a = (y, true) ∧ namedB a = true ∧ a ≠ tRoot ∧ ∃ q, plainF a = (q, true) := by
  rcases hx with ⟨hn, hu⟩ | ⟨_, rfl⟩
  · have h3 : 0 < x.length := by omega
    have h4 : x[0]'h3 = a := by obtain ⟨r, rfl⟩ := up_head hu; rfl
    have hr : a ≠ tRoot := fun e => by have := up_end hu 0 h3 (by rw [h4]; exact e); omega
    obtain ⟨h5, h6⟩ := up_next hu 0 h3 (by rw [h4]; exact hr)
    rw [h4] at h6
    obtain ⟨q, hq, _⟩ := plain_ok hn hr
    exact ⟨_, List.getElem?_eq_getElem (by omega), step_parent h6, hn, hr, q, hq⟩
  · simp at hl
theorem first_step {x y : List Str} {n : Nat} {s : Str} (hn : n < x.length) (hs : s = x[n]) : firstIn (x.take (n + 1)) y = if (x.take n).find? (fun t => decide (t ∈ y)) = none then (if s ∈ y then s else []) else firstIn (x.take n) y := by
  have : x.take (n + 1) = x.take n ++ [s] := by rw [List.take_add_one, List.getElem?_eq_getElem hn, hs]; rfl
  unfold firstIn
  rw [this, List.find?_append]
  cases h : (x.take n).find? (fun t => decide (t ∈ y)) with
  | none => by_cases hy : s ∈ y <;> simp [hy]
  | some u => simp
theorem first_nil {x y : List Str} {n : Nat} (hne : ∀ s ∈ x, s ≠ []) : (x.take n).find? (fun t => decide (t ∈ y)) = none ↔ firstIn (x.take n) y = [] := by
  unfold firstIn
  cases h : (x.take n).find? (fun t => decide (t ∈ y)) with
  | none => simp
  | some u =>
    simp
    exact hne u (List.mem_of_mem_take (List.mem_of_find?_eq_some h))

set_option maxRecDepth 100000 in
set_option maxHeartbeats 16000000 in
theorem tells_law (w : World) (a0 : Option Addr) (cap0 : Nat) (D : List (Str × Str)) (a b : Str) (hl : RdP w (.slice a0 D.length cap0) D) (hcap : D.length ≤ cap0) (hp : PSz D) (ha : a.length ≤ maxLen) (hb : b.length ≤ maxLen) :
    Calls Tryz.prog 3 #[.slice a0 D.length cap0, .string ⟨a.toArray⟩, .string ⟨b.toArray⟩] w fun e w' => e = .returned (.bool true) ∧ Below w.heap.size w w' := by
  have HL := hid hl
  have HP := hid hp
  have HCAP := hid hcap
  have hfd := field0
  clear hl hp hcap
  go_enter Tryz.func3, Tryz.ntmps3
  go_wp2_with fail
  refine (lwakes_any _).mono ?_
  rintro e w1 ⟨rfl, hb1⟩
  have HB1 := hid hb1
  clear hb1
  by_cases h60 : (60 : Int) < (D.length : Int)
  · go_wp2_with fail
    go_ret
    exact ⟨rfl, HB1.out⟩
  · have HN60 := hid (show D.length ≤ 60 by omega)
    have RF := hid (rfault_any w1 a0 cap0 D (HL.out.below HB1.out) HCAP.out HP.out HN60.out)
    go_wp2_with fail
    refine RF.out.mono ?_
    rintro e w2 ⟨er, i, rfl, ho, hb2⟩
    have HB2 := hid (HB1.out.then hb2)
    have HNO := hid ho
    clear hb2 ho RF
    by_cases her : er = 0
    · subst her
      obtain ⟨hsd, _, _, hi0⟩ := new_ok HNO.out
      subst hi0
      have HSD := hid hsd
      have hb3 : Below w2.heap.size w2 (w2.alloc (.cells (flat2 []).toArray 44)) := (Below.refl _ _).alloc (Nat.le_refl _) _
      have HO3 := hid (fresh_ownP w2 [] w2.heap.size (Nat.le_refl _) (by decide))
      have HR3 := hid (HL.out.below (HB2.out.then hb3))
      have HSS := hid (show w2.heap.size ≤ (w2.alloc (.cells (flat2 []).toArray 44)).heap.size by simp)
      have HU3 := hid hb3
      have HSZ := hid (show ([] : List (Str × Str)).length + D.length ≤ 1000000000000 by have := HN60.out; simp; omega)
      have HSZ2 := hid (show D.length ≤ 10000000000 by have := HN60.out; omega)
      clear hb3 hsd
      go_wp2_with (at_builtin; refine wpList_appP rfl (.tmp 30) (.tmp 31) rfl w2.heap.size _ _ [] D rfl HO3.out rfl HR3.out HSZ.out HSS.out ?_; intro v3 w3 own3 gr3 mv3)
      have HR4 := hid own3.rd
      have HB3 := hid (HB2.out.then (HU3.out.grown gr3 HSS.out (fun j hj => by cases hj; exact Nat.le_refl _)))
      rw [List.nil_append] at HR4
      clear own3 gr3 mv3 HO3 HR3 HU3
      refine (new_any w3 _ D HR4.out HP.out HSZ2.out).mono ?_
      rintro e w4 ⟨er2, i2, vc, rfl, ho2, h02, h12, hb4⟩
      obtain ⟨rfl, rfl⟩ := new_one HNO.out ho2
      have HB4 := hid (HB3.out.then hb4)
      have HC := hid (h02 rfl)
      obtain ⟨bc, bm, n0, rfl, _, _, _⟩ := HC.out
      obtain ⟨x, hx⟩ := chain_ex HNO.out a
      obtain ⟨y, hy⟩ := chain_ex HNO.out b
      have HX := hid hx
      have HY := hid hy
      have hb5 : Below w4.heap.size w4 (w4.alloc (.cells #[.int .i64 0, .int .i64 0] 26)) := (Below.refl _ _).alloc (Nat.le_refl _) _
      have c0 : (w4.alloc (.cells #[.int .i64 0, .int .i64 0] 26)).cell? ⟨w4.heap.size, 0, none⟩ = some (.int .i64 0) := by rw [cell_of_row _ _ _ _ _ _ (heap_alloc_new w4 _)]; rfl
      have HB5 := hid (HB4.out.then hb5)
      have HU5 := hid hb5
      have RC := hid (fun W (hb2 : Below w.heap.size w W) (s : Str) (l : List Str) (hl : ChainIs D s l) (hs : s.length ≤ maxLen) => rchain_any W _ D s l (HL.out.below hb2) HSD.out hl hs HSZ2.out)
      have CH := hid (fun W (hb2 : Below w4.heap.size w4 W) => chain_any W _ D a x (HC.out.below hb2) HSD.out HX.out ha HSZ2.out)
      have AB := hid (fun W (hb2 : Below w4.heap.size w4 W) => above_any W _ D a b y (HC.out.below hb2) HSD.out HY.out hb HSZ2.out)
      have CM := hid (fun W (hb2 : Below w4.heap.size w4 W) => common_any W _ D a b x y (HC.out.below hb2) HSD.out HX.out HY.out ha hb HSZ2.out)
      have PR := hid (fun W (hb2 : Below w4.heap.size w4 W) => parent_any W _ D a (HC.out.below hb2) ha)
      have PLN := hid (fun W => plain_any a W ha)
      clear ho2 h02 h12 hb4 hb5 hx hy
      go_wp2_with fail
      refine (RC.out _ HB5.out a x HX.out ha).mono ?_
      rintro e w6 ⟨vx, rfl, ownx, hb6⟩
      have HB6 := hid (HB5.out.then hb6)
      have HU6 := hid (HU5.out.then hb6)
      have HX6 := hid ownx.rd
      obtain ⟨xg, xc, rfl⟩ := own_sliceS ownx
      clear ownx hb6 c0
      go_wp2_with fail
      refine (RC.out _ HB6.out b y HY.out hb).mono ?_
      rintro e w7 ⟨vy, rfl, owny, hb7⟩
      have HB7 := hid (HB6.out.then hb7)
      have HU7 := hid (HU6.out.then hb7)
      have HX7 := hid (HX6.out.below hb7)
      have HY7 := hid owny.rd
      obtain ⟨yg, yc, rfl⟩ := own_sliceS owny
      clear owny hb7 HX6 RC
      have HNE := hid (show ∀ s ∈ x, s ≠ [] from fun s hs => by
        rcases HX.out with ⟨hn, hu⟩ | ⟨_, h⟩
        · exact named_ne (up_named HSD.out hn hu s hs)
        · rw [h] at hs; cases hs)
      have hlx : x.length ≤ 9223372036854775807 := by obtain ⟨_, _, _, hl, _⟩ := HX7.out; exact hl.1
      go_wp2_with fail
      go_loopg [47, 11] x.length (fun g' vi vc W => ∃ n : Nat, n ≤ x.length ∧ x.length ≤ n + g' ∧ vi = .int .i64 n ∧ vc = .string ⟨(firstIn (x.take n) y).toArray⟩ ∧ Below w7.heap.size w7 W)
      case atStart => exact ⟨0, Nat.zero_le _, by omega, rfl, rfl, Below.refl _ _⟩
      case round =>
        obtain ⟨n, hn, hg, rfl, rfl, hb8⟩ := hrel
        rename World => w8
        have HG := hid hg
        have HB8 := hid hb8
        clear hg hb8
        by_cases hlt : n < x.length
        · have hne : x ≠ [] := by intro e; rw [e] at hlt; simp at hlt
          have HX8 := hid (HX7.out.below HB8.out)
          obtain ⟨ao, cp, hv, _, hr⟩ := HX8.out
          injection hv with e1 e2 e3
          subst e1 e3
          obtain ⟨p1, o1, rfl, hp1, hc1⟩ := hr hne
          obtain ⟨t, ht⟩ : ∃ t, t = x[n]'hlt := ⟨_, rfl⟩
          have q1 := hc1 n t (by rw [List.getElem?_eq_getElem hlt, ht])
          rw [S] at q1
          have HST := hid (first_step (y := y) hlt ht)
          have HFN := hid (first_nil (y := y) (n := n) HNE.out)
          have hni : (n : Int) < (x.length : Int) := by omega
          have hn0 : (0 : Int) ≤ (n : Int) := by omega
          have RH := hid (rhas11_any w8 _ y t (HY7.out.below HB8.out))
          generalize firstIn (x.take n) y = c at *
          clear hc1 hr hne ht
          by_cases hc : c = []
          · have hub : (c == []) = true := by rw [hc]; rfl
            have hnone := HFN.out.2 hc
            by_cases hty : t ∈ y
            · have hdy : decide (t ∈ y) = true := by simp [hty]
              have HF := hid (show firstIn (x.take (n + 1)) y = t by rw [HST.out, if_pos hnone, if_pos hty])
              rw [hdy] at RH
              clear hc hnone hty hdy
              go_wp2_with fail
              refine RH.out.mono ?_
              rintro e w9 ⟨rfl, hb9⟩
              have HB9 := hid (HB8.out.then hb9)
              clear hb9 RH q1
              go_wp2_with fail
              go_roundg (gk - 1)
              case measure => have := HG.out; omega
              case rel => exact ⟨n + 1, by omega, by have := HG.out; omega, by simp, by rw [HF.out], HB9.out⟩
            · have hdy : decide (t ∈ y) = false := by simp [hty]
              have HF := hid (show firstIn (x.take (n + 1)) y = c by rw [HST.out, if_pos hnone, if_neg hty, hc])
              rw [hdy] at RH
              clear hc hnone hty hdy
              go_wp2_with fail
              refine RH.out.mono ?_
              rintro e w9 ⟨rfl, hb9⟩
              have HB9 := hid (HB8.out.then hb9)
              clear hb9 RH q1
              go_wp2_with fail
              go_roundg (gk - 1)
              case measure => have := HG.out; omega
              case rel => exact ⟨n + 1, by omega, by have := HG.out; omega, by simp, by rw [HF.out], HB9.out⟩
          · have hub : (c == []) = false := by rw [beq_eq_false_iff_ne]; exact hc
            have HF := hid (show firstIn (x.take (n + 1)) y = c by rw [HST.out, if_neg (fun h => hc (HFN.out.1 h))])
            clear hc RH
            go_wp2_with fail
            go_roundg (gk - 1)
            case measure => have := HG.out; omega
            case rel => exact ⟨n + 1, by omega, by have := HG.out; omega, by simp, by rw [HF.out], HB8.out⟩
        · have hxn : x.take n = x := List.take_of_length_le (by omega)
          rw [hxn]
          clear hxn
          have HFE := hid (show firstIn x y = firstIn x y from rfl)
          obtain ⟨c, hc⟩ : ∃ c, c = firstIn x y := ⟨_, rfl⟩
          rw [← hc] at CM ⊢
          have HU8 := hid (HU7.out.then HB8.out)
          have HX8 := hid (HX7.out.below HB8.out)
          have HY8 := hid (HY7.out.below HB8.out)
          have HW8 := hid (HB7.out.then HB8.out)
          clear hc HFE HX7 HY7 HB8
          by_cases hs2 : x.length < 2
          · obtain ⟨hpa, hpl⟩ := tells_short HNO.out HX.out hs2
            rw [hpa] at PR
            rw [hpl] at PLN
            have hsi : (x.length : Int) < 2 := by omega
            clear hpa hpl hs2
            go_wp2_with fail
            refine (PR.out _ HU8.out).mono ?_
            rintro e w9 ⟨rfl, hb9⟩
            have HB9 := hid hb9
            clear hb9
            go_wp2_with fail
            refine (PLN.out _).mono ?_
            rintro e w10 ⟨rfl, hb10⟩
            have HUn := hid ((HU8.out.then HB9.out).then hb10)
            have HWn := hid ((HW8.out.then HB9.out).then hb10)
            have HXn := hid ((HX8.out.below HB9.out).below hb10)
            have HYn := hid ((HY8.out.below HB9.out).below hb10)
            clear hb10 HB9 PR PLN
            go_wp2_with fail
            refine (CH.out _ HUn.out).mono ?_
            rintro e w12 ⟨vv, rfl, own, hb12⟩
            have HS12 := hid (lsame_any w12 vv _ x own.rd (HXn.out.below hb12))
            have HU12 := hid (HUn.out.then hb12)
            have HW12 := hid (HWn.out.then hb12)
            have HY12 := hid (HYn.out.below hb12)
            obtain ⟨vg, vcp, rfl⟩ := own_sliceS own
            clear own hb12 CH
            go_wp2_with fail
            refine HS12.out.mono ?_
            rintro e w13 ⟨rfl, hb13⟩
            have HU13 := hid (HU12.out.then hb13)
            have HW13 := hid (HW12.out.then hb13)
            have HY13 := hid (HY12.out.below hb13)
            clear hb13 HS12
            go_wp2_with fail
            refine (AB.out _ HU13.out).mono ?_
            rintro e w14 ⟨rfl, hb14⟩
            have HU14 := hid (HU13.out.then hb14)
            have HW14 := hid (HW13.out.then hb14)
            have RH := hid (rhas11_any w14 _ y a (HY13.out.below hb14))
            generalize decide (a ∈ y) = ay at *
            clear hb14 AB
            go_wp2_with fail
            refine RH.out.mono ?_
            rintro e w15 ⟨rfl, hb15⟩
            have HU15 := hid (HU14.out.then hb15)
            have HW15 := hid (HW14.out.then hb15)
            have hcc : (c == c) = true := by simp
            have hay : (ay == ay) = true := by simp
            clear hb15 RH
            go_wp2_with fail
            refine (CM.out _ HU15.out).mono ?_
            rintro e w16 ⟨rfl, hb16⟩
            go_wp2_with fail
            go_ret
            exact ⟨rfl, HW15.out.then hb16⟩
          · obtain ⟨u, hu1, hpa, han, har, q, hpl⟩ := tells_long HX.out hs2
            rw [hpa] at PR
            have RPL := hid (fun W => rplain_any a W han har)
            rw [hpl] at PLN RPL
            have hsi : ¬ (x.length : Int) < 2 := by omega
            have hsi1 : (1 : Int) < (x.length : Int) := by omega
            have hne : x ≠ [] := by intro e; rw [e] at hs2; simp at hs2
            have HU1 := hid hu1
            clear hpa hpl hs2 hu1 han har
            go_wp2_with fail
            refine (PR.out _ HU8.out).mono ?_
            rintro e w9 ⟨rfl, hb9⟩
            have HB9 := hid hb9
            clear hb9
            go_wp2_with fail
            refine (PLN.out _).mono ?_
            rintro e w10 ⟨rfl, hb10⟩
            have HU10 := hid ((HU8.out.then HB9.out).then hb10)
            have HW10 := hid ((HW8.out.then HB9.out).then hb10)
            have HX10 := hid ((HX8.out.below HB9.out).below hb10)
            have HY10 := hid ((HY8.out.below HB9.out).below hb10)
            clear hb10 HB9 PR PLN
            obtain ⟨ao, cp, hv, _, hr⟩ := HX10.out
            injection hv with e1 e2 e3
            subst e1 e3
            obtain ⟨p1, o1, rfl, hp1, hc1⟩ := hr hne
            have q1 := hc1 1 u HU1.out
            rw [S] at q1
            have huu : (u != u) = false := by simp
            have hqq : (q != q) = false := by simp
            have huu2 : (u == u) = true := by simp
            have hqq2 : (q == q) = true := by simp
            clear hc1 hr hne
            go_wp2_with fail
            refine (RPL.out _).mono ?_
            rintro e w11 ⟨rfl, hb11⟩
            have HUn := hid (HU10.out.then hb11)
            have HWn := hid (HW10.out.then hb11)
            have HXn := hid (HX10.out.below hb11)
            have HYn := hid (HY10.out.below hb11)
            clear hb11 q1 RPL
            go_wp2_with fail
            refine (CH.out _ HUn.out).mono ?_
            rintro e w12 ⟨vv, rfl, own, hb12⟩
            have HS12 := hid (lsame_any w12 vv _ x own.rd (HXn.out.below hb12))
            have HU12 := hid (HUn.out.then hb12)
            have HW12 := hid (HWn.out.then hb12)
            have HY12 := hid (HYn.out.below hb12)
            obtain ⟨vg, vcp, rfl⟩ := own_sliceS own
            clear own hb12 CH
            go_wp2_with fail
            refine HS12.out.mono ?_
            rintro e w13 ⟨rfl, hb13⟩
            have HU13 := hid (HU12.out.then hb13)
            have HW13 := hid (HW12.out.then hb13)
            have HY13 := hid (HY12.out.below hb13)
            clear hb13 HS12
            go_wp2_with fail
            refine (AB.out _ HU13.out).mono ?_
            rintro e w14 ⟨rfl, hb14⟩
            have HU14 := hid (HU13.out.then hb14)
            have HW14 := hid (HW13.out.then hb14)
            have RH := hid (rhas11_any w14 _ y a (HY13.out.below hb14))
            generalize decide (a ∈ y) = ay at *
            clear hb14 AB
            go_wp2_with fail
            refine RH.out.mono ?_
            rintro e w15 ⟨rfl, hb15⟩
            have HU15 := hid (HU14.out.then hb15)
            have HW15 := hid (HW14.out.then hb15)
            have hcc : (c == c) = true := by simp
            have hay : (ay == ay) = true := by simp
            clear hb15 RH
            go_wp2_with fail
            refine (CM.out _ HU15.out).mono ?_
            rintro e w16 ⟨rfl, hb16⟩
            go_wp2_with fail
            go_ret
            exact ⟨rfl, HW15.out.then hb16⟩
    · have heb : ((er : Int) != 0) = true := by rw [bne_iff_ne]; omega
      have heb2 : ((er : Int) == 0) = false := by rw [beq_eq_false_iff_ne]; omega
      clear her
      go_wp2_with fail
      go_ret
      exact ⟨rfl, HB2.out⟩
end Go.Proofs.YtffaoejahnildaaGreat

/- ChainTells: parents, chains, what stands above and what is common are what the reference says, for every list of pairs and every two texts. No condition. -/
namespace Go.Proofs.YtffaoejahnildaaGreat
open Go.ChangeShapes Go.WideShapes Go.ChangeAt Go.RowKit
open Go.ChangeMaps (open_string shut_string)
set_option linter.unusedVariables false

theorem own : ownKnob Tryz.prog.godebug = none := by kernel_rfl
theorem laidOut : laidOutB Tryz.prog = true := by kernel_rfl

set_option maxRecDepth 100000 in
theorem lifted (os : Os) (started : os.Started) (H : Type) (enc : TypeId × Value → H) :
    ReturnsInHanded {} Tryz.checked os 3 .any (Rows.chainTellsSpec.pre6 enc Tryz.prog Tryz.f3 Rows.chainTellsRow.domain false) (Rows.chainTellsSpec.post enc Tryz.prog Tryz.f3 false true false false) := by
  refine returnsInHanded_of_change (C := Tryz.checked) own started (by kernel_rfl) Tryz.func3
    (ChangeSpec.witness6 (enc := enc) (C := Tryz.checked) false ⟨#[], #[.slice none 0 0, .string ByteArray.empty, .string ByteArray.empty], []⟩ 8 (by kernel_rfl) (by kernel_rfl) (by kernel_rfl) (by kernel_rfl)) ?_
  intro W base args ds gs before hval0 hW hcnd _
  have hval : ∀ (j : Nat) t v, Tryz.f3.params[j]? = some t → args[j]? = some v → Value.okWide Tryz.prog W .any base t v := hval0
  have hW' := hW
  obtain ⟨p, q, hA0, hV, rfl, hfz, hnd⟩ := hW
  have hA : DataW.TrodAll enc Tryz.prog W 0 (fun _ => true) true Tryz.f3.params.toList args.toList ds p := hA0
  rw [Tryz.params3] at hA hval
  obtain ⟨v0, vs0, d0, ds0, p0, q0, hargs, rfl, rfl, h0, r0⟩ := trodAll_cons hA
  obtain ⟨v1, vs1, d1, ds1, p1, q1, rfl, rfl, rfl, h1, r1⟩ := trodAll_cons r0
  obtain ⟨v2, vs2, d2, ds2, p2, q2, rfl, rfl, rfl, h2, r2⟩ := trodAll_cons r1
  obtain ⟨rfl, rfl, rfl⟩ := trodAll_nil r2
  obtain rfl : args = #[v0, v1, v2] := by cases args; simp_all
  obtain ⟨rfl, rfl⟩ := trodVars_none hV
  obtain ⟨a0, len0, cap0, rfl⟩ := okWide_slice Tryz.underlying22 (hval 0 22 v0 rfl rfl)
  have k0 := h0
  have lt0 : ∀ x ∈ p0, x.block < W.heap.size := by obtain ⟨m, hm⟩ := k0; exact DataW.trod_lt m _ _ _ hm
  obtain ⟨l, rd, psz, hcap⟩ : ∃ l, RdP W (.slice a0 len0 cap0) l ∧ PSz l ∧ len0 ≤ cap0 := by
    obtain ⟨fuel, hf⟩ := h0
    have hc := open_cap hf
    obtain ⟨v, l, e, rd, _, psz, hd⟩ := open_rdP hf
    rw [← List.head_eq_of_cons_eq e] at rd
    exact ⟨l, rd, psz, hc⟩
  obtain rfl : len0 = l.length := by obtain ⟨_, _, e, _⟩ := rd; injection e
  obtain ⟨a1, rfl, rfl, rfl, w1⟩ := open_string Tryz.underlying9 (hval 1 9 v1 rfl rfl) h1
  obtain ⟨a2, rfl, rfl, rfl, w2⟩ := open_string Tryz.underlying9 (hval 2 9 v2 rfl rfl) h2
  clear hA0 hval0
  obtain ⟨b1, rfl⟩ : ∃ b : Str, a1 = ⟨b.toArray⟩ := ⟨a1.data.toList, rfl⟩
  have u1 : b1.length ≤ maxLen := by rw [Lib.size_eq] at w1; exact w1
  obtain ⟨b2, rfl⟩ : ∃ b : Str, a2 = ⟨b.toArray⟩ := ⟨a2.data.toList, rfl⟩
  have u2 : b2.length ≤ maxLen := by rw [Lib.size_eq] at w2; exact w2
  refine (tells_law W a0 cap0 l b1 b2 rd hcap psz u1 u2).mono fun e W' ⟨he, bel⟩ => ?_
  subst he
  exact ⟨_, rfl, _, _, _, [], _, [], hW', trodAll_mk1 (shut_bool Tryz.underlying4 _), (trodAll_cons_mk (Below.trod laidOut (by kernel_rfl) (of_decide_eq_true (by kernel_rfl)) k0 bel lt0) (trodAll_cons_mk (shut_string Tryz.underlying9 w1) (trodAll_cons_mk (shut_string Tryz.underlying9 w2) trodAll_mk0))), rfl, bel.frame _, fun h => by cases h⟩

theorem over : Rows.chainTellsRow.holds Tryz.pinned (OpenSpec.ofChange Rows.chainTellsSpec) :=
  OpenClaim.holds_of_wide 3 Tryz.f3 rfl rfl rfl rfl rfl rfl rfl ⟨rfl, rfl, rfl, rfl, rfl⟩ rfl rfl rfl rfl rfl (by kernel_rfl) Tryz.func3 (by kernel_rfl)
    (of_decide_eq_true (by kernel_rfl)) (by unfold Func.isWrapper; first | (rw [if_pos (by decide +kernel)]; kernel_rfl) | (rw [if_neg (by decide +kernel)]; exact ⟨rfl, rfl⟩))
    (fun os started H enc _ => lifted os started H enc)

/-- the statement -/
theorem chainTells : Rows.ChainTellsSaid := over
#print axioms chainTells
end Go.Proofs.YtffaoejahnildaaGreat
