/- The contract of the reference's Kinds. -/
import Derived.Test.YtjlfchnnhglbjaaGreatRefKinds
set_option linter.unusedVariables false
set_option linter.unusedSimpArgs false
namespace Go.Proofs.YtjlfchnnhglbjaaGreat
open Go.RowKit

theorem dig_pos (c : UInt8) : digB c = true ↔ (48 ≤ (c.toNat : Int) ∧ (c.toNat : Int) ≤ 57) := by rw [digB_int]; simp
theorem take_one (s : ByteArray) (h : 0 < s.size) : s.data.toList.take 1 = [s[0]] := by
  have := take_more s 0 h
  simpa using this
theorem drop_one (s : ByteArray) (h : s.size = 2) : s.data.toList.drop 1 = [s[1]] := by
  rw [List.drop_eq_getElem_cons (by simpa using (by omega : 1 < s.size)), List.drop_of_length_le (by simp; omega)]
  rfl
theorem let_of_mix {s : ByteArray} (h : mixL s.data.toList = true) (h1 : 1 < s.size) : letB s[1] = !digB s[1] := by
  have hm : s[1] ∈ s.data.toList := by
    have : s[1] = s.data.toList[1]'(by simpa using h1) := rfl
    rw [this]; exact List.getElem_mem _
  have h2 := List.all_eq_true.1 h _ hm
  have h3 := dig_let s[1]
  cases hd : digB s[1]
  · rw [hd, Bool.or_false] at h2; rw [h2]; rfl
  · rw [h3 hd]; rfl

set_option maxHeartbeats 4000000 in
theorem rKinds_any (s : ByteArray) (w : World) (hs : s.size ≤ 1000) :
    Calls Tryz.prog 124 #[.string s] w fun e w' => e = .returned (.int .i64 (kindsF s.data.toList : Nat)) ∧ Below w.heap.size w w' := by
  have h1 := rcount_any s w hs
  have h2 := hid (fun W => rLow_any s W hs)
  have hl : s.data.toList.length = s.size := by simp
  cases hm : mixL s.data.toList
  · have hk := kinds_not hm
    unfold countV at h1
    rw [hm] at h1
    rw [hk]
    clear hm hk
    go_enter Tryz.func124, Tryz.ntmps124
    go_wp2_with fail
    refine h1.mono ?_
    rintro e w' ⟨rfl, rfl⟩
    go_wp2_with fail
    go_ret
    exact ⟨rfl, Below.refl _ _⟩
  · by_cases h0 : s.size = 0
    · have hnil : s.data.toList = [] := List.eq_nil_of_length_eq_zero (by omega)
      unfold countV at h1
      rw [hm] at h1
      rw [hnil] at h1 ⊢
      clear hm
      go_enter Tryz.func124, Tryz.ntmps124
      go_wp2_with fail
      refine h1.mono ?_
      rintro e w' ⟨rfl, rfl⟩
      go_wp2_with fail
      go_ret
      exact ⟨rfl, Below.refl _ _⟩
    · have hnil : s.data.toList ≠ [] := fun e => h0 (by rw [← hl, e]; rfl)
      have hk := kinds_yes hm hnil
      unfold countV at h1
      rw [hm] at h1
      have hc1 : s.data.toList.countP letB ≤ 1000 := by have := List.countP_le_length (p := letB) (l := s.data.toList); omega
      have hc2 : s.data.toList.countP digB ≤ 1000 := by have := List.countP_le_length (p := digB) (l := s.data.toList); omega
      have hu : s.size ≠ 1 → (lower s.data.toList == [117]) = false := fun hne => by
        rw [beq_eq_false_iff_ne]; intro he
        have := congrArg List.length he
        rw [lower_length, hl] at this
        exact hne (by simpa using this)
      rw [hl] at hk
      have HM := hid hm
      clear hm
      generalize hlo : lower s.data.toList = lo at *
      generalize s.data.toList.countP letB = nl at *
      generalize s.data.toList.countP digB = nd at *
      have H2 := h2
      clear h2
      rcases (by omega : s.size = 1 ∨ s.size = 2 ∨ s.size = 3 ∨ s.size = 4 ∨ (5 ≤ s.size ∧ s.size ≤ 8) ∨ 9 ≤ s.size) with hn | hn | hn | hn | ⟨hn, hn2⟩ | hn
      · have hk1 : kindsF s.data.toList = fl (lo == [117]) 32 := by rw [hk, hn]; simp [fl]
        rw [hk1]
        clear hk hk1 hlo hu h0 hnil
        by_cases hu : lo = [117]
        · have hub : (lo == [117]) = true := by rw [hu]; rfl
          clear hu
          go_enter Tryz.func124, Tryz.ntmps124
          go_wp2_with fail
          refine h1.mono ?_
          rintro e w' ⟨rfl, rfl⟩
          go_wp2_with fail
          all_goals (refine (H2.out _).mono ?_; rintro e w2 ⟨rfl, hb2⟩)
          all_goals go_wp2_with fail
          all_goals go_ret
          all_goals refine ⟨?_, hb2⟩
          all_goals first | (exfalso; omega) | (simp [fl, *]; done) | (simp [fl, *]; decide) | (simp [fl, *]; rw [if_neg (by omega)]; decide) | (simp [fl, *]; rw [if_pos (by omega)]; decide)
        · have hub : (lo == [117]) = false := by rw [beq_eq_false_iff_ne]; exact hu
          clear hu
          go_enter Tryz.func124, Tryz.ntmps124
          go_wp2_with fail
          refine h1.mono ?_
          rintro e w' ⟨rfl, rfl⟩
          go_wp2_with fail
          all_goals (refine (H2.out _).mono ?_; rintro e w2 ⟨rfl, hb2⟩)
          all_goals go_wp2_with fail
          all_goals go_ret
          all_goals refine ⟨?_, hb2⟩
          all_goals first | (exfalso; omega) | (simp [fl, *]; done) | (simp [fl, *]; decide) | (simp [fl, *]; rw [if_neg (by omega)]; decide) | (simp [fl, *]; rw [if_pos (by omega)]; decide)
      · have hk1 : kindsF s.data.toList = fl (decide (nd = 0)) 2 + fl (decide (nd = 0)) 8 + fl (!digB s[1]) 64 := by rw [hk, hu (by omega), drop_one s hn, allB_one, let_of_mix HM.out (by omega)]; simp [fl, hn]
        have hu2 : (lo == [117]) = false := hu (by omega)
        rw [hk1, digB_int]
        have hx0 : 0 ≤ (s[1].toNat : Int) := by omega
        clear hk hk1 hlo hu h0 hnil
        generalize hx : (s[1].toNat : Int) = x at *
        go_enter Tryz.func124, Tryz.ntmps124
        go_wp2_with fail
        refine h1.mono ?_
        rintro e w' ⟨rfl, rfl⟩
        go_wp2_with fail
        all_goals (refine (H2.out _).mono ?_; rintro e w2 ⟨rfl, hb2⟩)
        all_goals go_wp2_with fail
        all_goals go_ret
        all_goals refine ⟨?_, hb2⟩
        all_goals first | (exfalso; omega) | (simp [fl, *]; done) | (simp [fl, *]; decide) | (simp [fl, *]; rw [if_neg (by omega)]; decide) | (simp [fl, *]; rw [if_pos (by omega)]; decide)
      · have hk1 : kindsF s.data.toList = fl (decide (nd = 0)) 2 + fl (decide (nl = 0)) 8 + 128 := by rw [hk, hu (by omega), hn]; simp [fl]
        have hu2 : (lo == [117]) = false := hu (by omega)
        rw [hk1]
        clear hk hk1 hlo hu h0 hnil
        go_enter Tryz.func124, Tryz.ntmps124
        go_wp2_with fail
        refine h1.mono ?_
        rintro e w' ⟨rfl, rfl⟩
        go_wp2_with fail
        all_goals (refine (H2.out _).mono ?_; rintro e w2 ⟨rfl, hb2⟩)
        all_goals go_wp2_with fail
        all_goals go_ret
        all_goals refine ⟨?_, hb2⟩
        all_goals first | (exfalso; omega) | (simp [fl, *]; done) | (simp [fl, *]; decide) | (simp [fl, *]; rw [if_neg (by omega)]; decide) | (simp [fl, *]; rw [if_pos (by omega)]; decide)
      · have hk1 : kindsF s.data.toList = fl (decide (nd = 0)) 4 + fl (digB s[0]) 16 + 128 := by rw [hk, hu (by omega), take_one s (by omega), allB_one]; simp [fl, hn]
        have hu2 : (lo == [117]) = false := hu (by omega)
        rw [hk1, digB_int]
        have hx0 : 0 ≤ (s[0].toNat : Int) := by omega
        clear hk hk1 hlo hu h0 hnil
        generalize hx : (s[0].toNat : Int) = x at *
        go_enter Tryz.func124, Tryz.ntmps124
        go_wp2_with fail
        refine h1.mono ?_
        rintro e w' ⟨rfl, rfl⟩
        go_wp2_with fail
        all_goals (refine (H2.out _).mono ?_; rintro e w2 ⟨rfl, hb2⟩)
        all_goals go_wp2_with fail
        all_goals go_ret
        all_goals refine ⟨?_, hb2⟩
        all_goals first | (exfalso; omega) | (simp [fl, *]; done) | (simp [fl, *]; decide) | (simp [fl, *]; rw [if_neg (by omega)]; decide) | (simp [fl, *]; rw [if_pos (by omega)]; decide)
      · have hz0 : ((s.size : Int) == 0) = false := by rw [beq_eq_false_iff_ne]; omega
        have hz2 : ((s.size : Int) == 2) = false := by rw [beq_eq_false_iff_ne]; omega
        have hz3 : ((s.size : Int) == 3) = false := by rw [beq_eq_false_iff_ne]; omega
        have hz4 : ((s.size : Int) == 4) = false := by rw [beq_eq_false_iff_ne]; omega
        have hk1 : kindsF s.data.toList = fl (decide (nd = 0)) 2 + 16 + 128 := by rw [hk, hu (by omega)]; simp [fl, hn, hn2, show ¬ s.size = 2 by omega, show ¬ s.size = 3 by omega, show ¬ s.size = 4 by omega, show 3 ≤ s.size by omega, show ¬ s.size ≤ 2 by omega]
        have hu2 : (lo == [117]) = false := hu (by omega)
        rw [hk1]
        clear hk hk1 hlo hu h0 hnil
        go_enter Tryz.func124, Tryz.ntmps124
        go_wp2_with fail
        refine h1.mono ?_
        rintro e w' ⟨rfl, rfl⟩
        go_wp2_with fail
        all_goals (refine (H2.out _).mono ?_; rintro e w2 ⟨rfl, hb2⟩)
        all_goals go_wp2_with fail
        all_goals go_ret
        all_goals refine ⟨?_, hb2⟩
        all_goals first | (exfalso; omega) | (simp [fl, *]; done) | (simp [fl, *]; decide) | (simp [fl, *]; rw [if_neg (by omega)]; decide) | (simp [fl, *]; rw [if_pos (by omega)]; decide)
      · have hz0 : ((s.size : Int) == 0) = false := by rw [beq_eq_false_iff_ne]; omega
        have hz2 : ((s.size : Int) == 2) = false := by rw [beq_eq_false_iff_ne]; omega
        have hz3 : ((s.size : Int) == 3) = false := by rw [beq_eq_false_iff_ne]; omega
        have hz4 : ((s.size : Int) == 4) = false := by rw [beq_eq_false_iff_ne]; omega
        have hk1 : kindsF s.data.toList = 0 := by rw [hk, hu (by omega)]; simp [fl, show ¬ s.size = 2 by omega, show ¬ s.size = 3 by omega, show ¬ s.size = 4 by omega, show ¬ s.size ≤ 8 by omega, show ¬ s.size ≤ 2 by omega, show ¬ s.size ≤ 4 by omega]
        have hu2 : (lo == [117]) = false := hu (by omega)
        rw [hk1]
        clear hk hk1 hlo hu h0 hnil
        go_enter Tryz.func124, Tryz.ntmps124
        go_wp2_with fail
        refine h1.mono ?_
        rintro e w' ⟨rfl, rfl⟩
        go_wp2_with fail
        all_goals (refine (H2.out _).mono ?_; rintro e w2 ⟨rfl, hb2⟩)
        all_goals go_wp2_with fail
        all_goals go_ret
        all_goals refine ⟨?_, hb2⟩
        all_goals first | (exfalso; omega) | (simp [fl, *]; done) | (simp [fl, *]; decide) | (simp [fl, *]; rw [if_neg (by omega)]; decide) | (simp [fl, *]; rw [if_pos (by omega)]; decide)
end Go.Proofs.YtjlfchnnhglbjaaGreat
