/- The contracts of the tests on subtags: mixed, letters, isLanguage, isScript, isRegion, isVariant, isKey, isType. -/
import Derived.Test.YtjlfchnnhglbjaaGreatUtf
set_option linter.unusedVariables false
set_option linter.unusedSimpArgs false
namespace Go.Proofs.YtjlfchnnhglbjaaGreat
open Go.RowKit

set_option maxHeartbeats 1000000 in
theorem letters_any (s : ByteArray) (n : Nat) (w : World) (hs : s.size ≤ 1000) (hn : n ≤ 1000) :
    Calls Tryz.prog 155 #[.string s, .int .i64 n] w fun e w' => e = .returned (.bool (lettersB s.data.toList n)) ∧ w' = w := by
  have h := Letters_any s w hs
  generalize hb : allB letB s.data.toList = b at *
  have HB := hid hb
  clear hb
  by_cases hq : s.size = n
  · have hq' : ((s.size : Int) == (n : Int)) = true := by simp [hq]
    have HQ := hid hq
    clear hq
    go_enter Tryz.func155, Tryz.ntmps155
    go_wp2_with (go_at_call 154; refine h.mono ?_; rintro e w' ⟨rfl, rfl⟩)
    all_goals go_ret
    all_goals exact ⟨ret_bool (by simp [lettersB, HB.out, HQ.out]), rfl⟩
  · have hq' : ((s.size : Int) == (n : Int)) = false := by simp; omega
    have HQ := hid hq
    clear hq
    go_enter Tryz.func155, Tryz.ntmps155
    go_wp2_with (go_at_call 154; refine h.mono ?_; rintro e w' ⟨rfl, rfl⟩)
    all_goals go_ret
    all_goals exact ⟨ret_bool (by simp [lettersB, HQ.out]), rfl⟩

set_option maxHeartbeats 1000000 in
theorem isLanguage_any (s : ByteArray) (w : World) (hs : s.size ≤ 1000) :
    Calls Tryz.prog 104 #[.string s] w fun e w' => e = .returned (.bool (isLang s.data.toList)) ∧ w' = w := by
  have h := Letters_any s w hs
  have hl : s.data.toList.length = s.size := by simp
  generalize hb : allB letB s.data.toList = b at *
  have HB := hid hb
  have HL := hid hl
  clear hb hl
  go_enter Tryz.func104, Tryz.ntmps104
  go_wp2_with (go_at_call 154; refine h.mono ?_; rintro e w' ⟨rfl, rfl⟩)
  all_goals go_ret
  all_goals refine ⟨ret_bool ?_, rfl⟩
  all_goals unfold isLang
  all_goals rw [HB.out, HL.out]
  all_goals simp only [*, Bool.true_and, Bool.false_and]
  all_goals rw [Bool.eq_iff_iff]
  all_goals simp
  all_goals omega

theorem isScript_any (s : ByteArray) (w : World) (hs : s.size ≤ 1000) :
    Calls Tryz.prog 105 #[.string s] w fun e w' => e = .returned (.bool (isScript s.data.toList)) ∧ w' = w := by
  have h := letters_any s 4 w hs (by omega)
  unfold isScript
  generalize lettersB s.data.toList 4 = b at *
  go_enter Tryz.func105, Tryz.ntmps105
  go_wp2_with (go_at_call 155; refine h.mono ?_; rintro e w' ⟨rfl, rfl⟩)
  go_ret
  exact ⟨rfl, rfl⟩

set_option maxHeartbeats 1000000 in
theorem isRegion_any (s : ByteArray) (w : World) (hs : s.size ≤ 1000) :
    Calls Tryz.prog 107 #[.string s] w fun e w' => e = .returned (.bool (isRegion s.data.toList)) ∧ w' = w := by
  have h := letters_any s 2 w hs (by omega)
  have h2 := Digits_any s w hs
  have hl : s.data.toList.length = s.size := by simp
  generalize hb : lettersB s.data.toList 2 = b at *
  generalize hd : allB digB s.data.toList = d at *
  have HB := hid hb
  have HD := hid hd
  have HL := hid hl
  clear hb hl hd
  go_enter Tryz.func107, Tryz.ntmps107
  go_wp2_with (first | (go_at_call 155; refine h.mono ?_; rintro e w' ⟨rfl, rfl⟩) | (go_at_call 156; refine h2.mono ?_; rintro e w' ⟨rfl, rfl⟩))
  all_goals go_ret
  all_goals refine ⟨ret_bool ?_, rfl⟩
  all_goals unfold isRegion
  all_goals rw [HB.out, HL.out, HD.out]
  all_goals simp only [*, Bool.true_or, Bool.false_or]
  all_goals try rw [Bool.eq_iff_iff]
  all_goals simp
  all_goals try omega

theorem extract_one (s : ByteArray) (k : Nat) (h : k < s.size) : (s.extract k (k + 1)).data.toList = [s[k]] := by
  rw [Lib.extract_data, Nat.add_sub_cancel_left]
  have hk : k < s.data.toList.length := by simpa using h
  rw [List.drop_eq_getElem_cons hk]
  rfl
theorem extract_one_size (s : ByteArray) (k : Nat) (h : k < s.size) : (s.extract k (k + 1)).size = 1 := by
  rw [Lib.size_eq, extract_one s k h]; rfl

/-- what the loop of 'mixed' has seen -/
def mixC (c : UInt8) : Bool := letB c || digB c
theorem mixed_out {s : ByteArray} {lo hi : Nat} (h : ¬ (lo ≤ s.size ∧ s.size ≤ hi)) : mixedB s.data.toList lo hi = false := by
  have hl : s.data.toList.length = s.size := by simp
  unfold mixedB
  rw [hl]
  by_cases h1 : lo ≤ s.size
  · have h2 : ¬ s.size ≤ hi := fun x => h ⟨h1, x⟩
    simp [h2]
  · simp [h1]
theorem mixed_yes {s : ByteArray} {lo hi k : Nat} (h1 : lo ≤ s.size) (h2 : s.size ≤ hi) (hk : ¬ k < s.size) (ha : (s.data.toList.take k).all mixC = true) : mixedB s.data.toList lo hi = true := by
  have hl : s.data.toList.length = s.size := by simp
  rw [List.take_of_length_le (by omega)] at ha
  unfold mixedB
  rw [hl]
  simp only [h1, h2, decide_true, Bool.true_and]
  exact ha
theorem mixed_no {s : ByteArray} {lo hi k : Nat} (h : k < s.size) (ha : mixC s[k] = false) : mixedB s.data.toList lo hi = false := by
  have hm : s[k] ∈ s.data.toList := by
    have : s[k] = s.data.toList[k]'(by simpa using h) := rfl
    rw [this]; exact List.getElem_mem _
  have : (s.data.toList.all fun c => letB c || digB c) = false := List.all_eq_false.2 ⟨_, hm, by have := ha; simp [mixC] at this; simp [this]⟩
  unfold mixedB
  rw [this]
  simp

set_option maxHeartbeats 1000000 in
theorem mixed_any (s : ByteArray) (lo hi : Nat) (w : World) (hs : s.size ≤ 1000) (hlo : lo ≤ 1000) (hhi : hi ≤ 1000) :
    Calls Tryz.prog 157 #[.string s, .int .i64 lo, .int .i64 hi] w fun e w' => e = .returned (.bool (mixedB s.data.toList lo hi)) ∧ w' = w := by
  by_cases h1 : lo ≤ s.size
  · by_cases h2 : s.size ≤ hi
    · have hd1 : decide (s.size < lo) = false := by simp; omega
      have hd2 : decide (hi < s.size) = false := by simp; omega
      go_enter Tryz.func157, Tryz.ntmps157
      go_wp2
      go_loop [7] (fun i => ∃ k : Nat, k ≤ s.size ∧ i = .int .i64 k ∧ (s.data.toList.take k).all mixC = true) (fun i => s.size - (intOf i).toNat)
      case atStart => exact ⟨0, Nat.zero_le _, rfl, by simp⟩
      case round =>
        obtain ⟨k, hk, rfl, hall⟩ := hrel
        have HA := hid hall
        clear hall
        by_cases hlt : k < s.size
        · have HS := hid (all_take_succ mixC s k hlt)
          have h3 := Letters_any (s.extract k (k + 1)) w (by rw [extract_one_size s k hlt]; omega)
          have h4 := Digits_any (s.extract k (k + 1)) w (by rw [extract_one_size s k hlt]; omega)
          rw [extract_one s k hlt, allB_one] at h3 h4
          have HM : Hid (mixC s[k] = (letB s[k] || digB s[k])) := rfl
          have HN := hid (fun x => mixed_no (lo := lo) (hi := hi) hlt x)
          generalize letB s[k] = b1 at *
          generalize digB s[k] = b2 at *
          go_wp2_with (first | (go_at_call 154; refine h3.mono ?_; rintro e w' ⟨rfl, rfl⟩) | (go_at_call 156; refine h4.mono ?_; rintro e w' ⟨rfl, rfl⟩))
          · have e1 : b1 = true := by assumption
            go_round
            case rel => exact ⟨k + 1, by omega, by go_num, by rw [HS.out, HA.out, HM.out, e1]; rfl⟩
            case measure => simp [intOf]; omega
          · have e1 : ¬ b1 = true := by assumption
            have e2 : (!b2) = true := by assumption
            go_ret
            exact ⟨ret_bool (HN.out (by rw [HM.out]; simp at e1 e2; simp [e1, e2])).symm, rfl⟩
          · have e2 : (!b2) = false := by assumption
            go_round
            case rel => exact ⟨k + 1, by omega, by go_num, by rw [HS.out, HA.out, HM.out]; simp at e2; simp [e2]⟩
            case measure => simp [intOf]; omega
        · go_wp2
          go_ret
          exact ⟨ret_bool (mixed_yes h1 h2 hlt HA.out).symm, rfl⟩
    · have hm := hid (mixed_out (s := s) (lo := lo) (hi := hi) (fun x => h2 x.2))
      go_enter Tryz.func157, Tryz.ntmps157
      go_wp2
      go_ret
      exact ⟨ret_bool hm.out.symm, rfl⟩
  · have hm := hid (mixed_out (s := s) (lo := lo) (hi := hi) (fun x => h1 x.1))
    go_enter Tryz.func157, Tryz.ntmps157
    go_wp2
    go_ret
    exact ⟨ret_bool hm.out.symm, rfl⟩

theorem isType_any (s : ByteArray) (w : World) (hs : s.size ≤ 1000) :
    Calls Tryz.prog 114 #[.string s] w fun e w' => e = .returned (.bool (isType s.data.toList)) ∧ w' = w := by
  have h := mixed_any s 3 8 w hs (by omega) (by omega)
  unfold isType
  generalize mixedB s.data.toList 3 8 = b at *
  go_enter Tryz.func114, Tryz.ntmps114
  go_wp2_with (go_at_call 157; refine h.mono ?_; rintro e w' ⟨rfl, rfl⟩)
  go_ret
  exact ⟨rfl, rfl⟩

theorem mixed_two {l : List UInt8} {lo hi : Nat} (h : mixedB l lo hi = true) : lo ≤ l.length ∧ l.length ≤ hi := by
  simp only [mixedB, Bool.and_eq_true, decide_eq_true_eq] at h
  exact ⟨h.1, h.2.1⟩

set_option maxHeartbeats 1000000 in
theorem isKey_any (s : ByteArray) (w : World) (hs : s.size ≤ 1000) :
    Calls Tryz.prog 111 #[.string s] w fun e w' => e = .returned (.bool (isKey s.data.toList)) ∧ w' = w := by
  have h := mixed_any s 2 2 w hs (by omega) (by omega)
  cases hb : mixedB s.data.toList 2 2
  · have hk : isKey s.data.toList = false := by simp [isKey, hb]
    rw [hb] at h
    rw [hk]
    clear hk hb
    go_enter Tryz.func111, Tryz.ntmps111
    go_wp2_with (go_at_call 157; refine h.mono ?_; rintro e w' ⟨rfl, rfl⟩)
    go_ret
    exact ⟨rfl, rfl⟩
  · have hl : s.size = 2 := by have := mixed_two hb; rw [← Lib.size_eq] at this; omega
    have hk : isKey s.data.toList = allB letB (s.data.toList.drop 1) := by simp [isKey, hb]
    have h1 : 1 ≤ s.size := by omega
    have h2 := Letters_any (s.extract 1 s.size) w (by rw [Lib.size_eq, Lib.extract_data]; simp; omega)
    rw [hb] at h
    rw [hk]
    have e1 : (s.extract 1 s.size).data.toList = s.data.toList.drop 1 := by
      rw [Lib.extract_data, List.take_of_length_le]; simp
    rw [e1] at h2
    generalize allB letB (s.data.toList.drop 1) = b at *
    clear hk hb hl e1
    go_enter Tryz.func111, Tryz.ntmps111
    go_wp2_with (first | (go_at_call 157; refine h.mono ?_; rintro e w' ⟨rfl, rfl⟩) | (go_at_call 154; refine h2.mono ?_; rintro e w' ⟨rfl, rfl⟩))
    go_ret
    exact ⟨rfl, rfl⟩

set_option maxHeartbeats 1000000 in
theorem isVariant_any (s : ByteArray) (w : World) (hs : s.size ≤ 1000) :
    Calls Tryz.prog 109 #[.string s] w fun e w' => e = .returned (.bool (isVariant s.data.toList)) ∧ w' = w := by
  have h := mixed_any s 5 8 w hs (by omega) (by omega)
  have h' := mixed_any s 4 4 w hs (by omega) (by omega)
  cases hb : mixedB s.data.toList 5 8
  · cases hc : mixedB s.data.toList 4 4
    · have hk : isVariant s.data.toList = false := by simp [isVariant, hb, hc]
      rw [hb] at h
      rw [hc] at h'
      rw [hk]
      clear hk hb hc
      go_enter Tryz.func109, Tryz.ntmps109
      go_wp2_with fail
      refine h.mono ?_
      rintro e w' ⟨rfl, rfl⟩
      go_wp2_with fail
      refine h'.mono ?_
      rintro e w' ⟨rfl, rfl⟩
      go_wp2_with fail
      go_ret
      exact ⟨rfl, rfl⟩
    · have hl : s.size = 4 := by have := mixed_two hc; rw [← Lib.size_eq] at this; omega
      have hk : isVariant s.data.toList = allB digB (s.data.toList.take 1) := by simp [isVariant, hb, hc]
      have h1 : 1 ≤ s.size := by omega
      have h2 := Digits_any (s.extract 0 1) w (by rw [Lib.size_eq, Lib.extract_data]; simp; omega)
      rw [hb] at h
      rw [hc] at h'
      rw [hk]
      have e1 : (s.extract 0 1).data.toList = s.data.toList.take 1 := by
        rw [Lib.extract_data]; simp
      rw [e1] at h2
      generalize allB digB (s.data.toList.take 1) = b at *
      clear hk hb hc hl e1
      go_enter Tryz.func109, Tryz.ntmps109
      go_wp2_with fail
      refine h.mono ?_
      rintro e w' ⟨rfl, rfl⟩
      go_wp2_with fail
      refine h'.mono ?_
      rintro e w' ⟨rfl, rfl⟩
      go_wp2_with fail
      refine h2.mono ?_
      rintro e w' ⟨rfl, rfl⟩
      go_wp2_with fail
      go_ret
      exact ⟨rfl, rfl⟩
  · have hk : isVariant s.data.toList = true := by simp [isVariant, hb]
    rw [hb] at h
    rw [hk]
    clear hk hb h'
    go_enter Tryz.func109, Tryz.ntmps109
    go_wp2_with fail
    refine h.mono ?_
    rintro e w' ⟨rfl, rfl⟩
    go_wp2_with fail
    go_ret
    exact ⟨rfl, rfl⟩
end Go.Proofs.YtjlfchnnhglbjaaGreat
