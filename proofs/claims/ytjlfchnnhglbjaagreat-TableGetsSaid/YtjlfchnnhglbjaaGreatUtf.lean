/- The contracts of package utf: letter, digit, all, Letters, Digits, turn, Lower, Upper, Title: each for a text of at most a thousand bytes. -/
import Derived.Test.YtjlfchnnhglbjaaGreatProg
import Derived.Test.YtjlfchnnhglbjaaGreatPure
import Derived.WalkKit
import Derived.WalkLawsBesides
import Derived.WalkSpells

set_option linter.unusedVariables false
set_option linter.unusedSimpArgs false
namespace Go.Proofs.YtjlfchnnhglbjaaGreat
open Go.RowKit

theorem hid {p : Prop} (h : p) : Hid p := h
theorem ret_bool {a b : Bool} (h : a = b) : Ending.returned (.bool a) = .returned (.bool b) := by rw [h]

theorem or32 (c : UInt8) : bits BinOp.or IntKind.u8 (c.toNat : Int) 32 = ((c ||| 32).toNat : Int) := by
  revert c; apply forall_byte; decide +kernel
theorem letB_int (c : UInt8) : letB c = (decide (97 ≤ ((c ||| 32).toNat : Int)) && decide (((c ||| 32).toNat : Int) ≤ 122)) := by
  revert c; apply forall_byte; decide +kernel
theorem digB_int (c : UInt8) : digB c = (decide (48 ≤ (c.toNat : Int)) && decide ((c.toNat : Int) ≤ 57)) := by
  revert c; apply forall_byte; decide +kernel

theorem digit_n (n : Int) (w : World) (h0 : 0 ≤ n) (h1 : n < 256) :
    Calls Tryz.prog 186 #[.int .u8 n] w fun e w' => e = .returned (.bool (decide (48 ≤ n) && decide (n ≤ 57))) ∧ w' = w := by
  go_enter Tryz.func186, Tryz.ntmps186
  go_wp2
  all_goals go_ret
  all_goals exact ⟨ret_bool (by first | (simp [*]; done) | (simp; omega)), rfl⟩

theorem letter_n (n : Int) (w : World) (h0 : 0 ≤ n) (h1 : n < 256) :
    Calls Tryz.prog 185 #[.int .u8 n] w fun e w' => e = .returned (.bool (decide (97 ≤ bits BinOp.or IntKind.u8 n 32) && decide (bits BinOp.or IntKind.u8 n 32 ≤ 122))) ∧ w' = w := by
  go_enter Tryz.func185, Tryz.ntmps185
  go_wp2
  all_goals go_ret
  all_goals exact ⟨ret_bool (by first | (simp [*]; done) | (simp; omega)), rfl⟩

theorem digit_any (c : UInt8) (w : World) :
    Calls Tryz.prog 186 #[.int .u8 (c.toNat : Int)] w fun e w' => e = .returned (.bool (digB c)) ∧ w' = w :=
  (digit_n c.toNat w (by omega) (by have := c.toNat_lt; omega)).mono fun _ _ h => ⟨h.1.trans (ret_bool (digB_int c).symm), h.2⟩
theorem letter_any (c : UInt8) (w : World) :
    Calls Tryz.prog 185 #[.int .u8 (c.toNat : Int)] w fun e w' => e = .returned (.bool (letB c)) ∧ w' = w :=
  (letter_n c.toNat w (by omega) (by have := c.toNat_lt; omega)).mono fun _ _ h => ⟨h.1.trans (ret_bool (by rw [letB_int, or32])), h.2⟩

/-- what a loop over the bytes has seen -/
theorem all_take_succ (p : UInt8 → Bool) (s : ByteArray) (k : Nat) (h : k < s.size) : (s.data.toList.take (k + 1)).all p = ((s.data.toList.take k).all p && p s[k]) := by
  rw [List.take_succ_eq_append_getElem (by simpa using h), List.all_append]; simp; rfl
theorem allB_yes {p : UInt8 → Bool} {s : ByteArray} {k : Nat} (hk : k ≤ s.size) (h : ¬ k < s.size) (ha : (s.data.toList.take k).all p = true) : allB p s.data.toList = !s.data.toList.isEmpty := by
  rw [List.take_of_length_le (by simp; omega)] at ha
  simp [allB, ha]
theorem allB_no {p : UInt8 → Bool} {s : ByteArray} {k : Nat} (h : k < s.size) (ha : p s[k] = false) : allB p s.data.toList = false := by
  have hm : s[k] ∈ s.data.toList := by
    have : s[k] = s.data.toList[k]'(by simpa using h) := rfl
    rw [this]; exact List.getElem_mem _
  have : s.data.toList.all p = false := List.all_eq_false.2 ⟨_, hm, by simp [ha]⟩
  simp [allB, this]

set_option maxHeartbeats 400000 in
theorem allLetter_any (s : ByteArray) (w : World) (hs : s.size ≤ 1000) :
    Calls Tryz.prog 184 #[.string s, .func (.func 185) #[] #[]] w fun e w' => e = .returned (.bool (allB letB s.data.toList)) ∧ w' = w := by
  go_enter Tryz.func184, Tryz.ntmps184
  go_wp2
  go_loop [5, 8] (fun _ i => ∃ k : Nat, k ≤ s.size ∧ i = .int .i64 k ∧ (s.data.toList.take k).all letB = true) (fun _ i => s.size - (intOf i).toNat)
  case atStart => exact ⟨0, Nat.zero_le _, rfl, by simp⟩
  case round =>
    obtain ⟨k, hk, rfl, hall⟩ := hrel
    have HA := hid hall
    clear hall
    by_cases hlt : k < s.size
    · have HS := hid (all_take_succ letB s k hlt)
      cases hp : letB s[k]
      · have HP := hid hp
        have hgk : ∀ W, Calls Tryz.prog 185 #[.int .u8 (s[k].toNat : Int)] W fun e w' => e = .returned (.bool false) ∧ w' = W := fun W => hp ▸ letter_any s[k] W
        clear hp
        go_wp2_with (go_at_call 185; refine (hgk _).mono ?_; rintro e w' ⟨rfl, rfl⟩)
        go_ret
        exact ⟨ret_bool (allB_no hlt HP.out).symm, rfl⟩
      · have HP := hid hp
        have hgk : ∀ W, Calls Tryz.prog 185 #[.int .u8 (s[k].toNat : Int)] W fun e w' => e = .returned (.bool true) ∧ w' = W := fun W => hp ▸ letter_any s[k] W
        clear hp
        go_wp2_with (go_at_call 185; refine (hgk _).mono ?_; rintro e w' ⟨rfl, rfl⟩)
        go_round
        case rel => exact ⟨k + 1, by omega, by go_num, by rw [HS.out, HA.out, HP.out]; rfl⟩
        case measure => simp [intOf]; omega
    · go_wp2
      go_ret
      exact ⟨ret_bool (by rw [allB_yes hk hlt HA.out, Lib.toList_data]), rfl⟩

set_option maxHeartbeats 400000 in
theorem allDigit_any (s : ByteArray) (w : World) (hs : s.size ≤ 1000) :
    Calls Tryz.prog 184 #[.string s, .func (.func 186) #[] #[]] w fun e w' => e = .returned (.bool (allB digB s.data.toList)) ∧ w' = w := by
  go_enter Tryz.func184, Tryz.ntmps184
  go_wp2
  go_loop [5, 8] (fun _ i => ∃ k : Nat, k ≤ s.size ∧ i = .int .i64 k ∧ (s.data.toList.take k).all digB = true) (fun _ i => s.size - (intOf i).toNat)
  case atStart => exact ⟨0, Nat.zero_le _, rfl, by simp⟩
  case round =>
    obtain ⟨k, hk, rfl, hall⟩ := hrel
    have HA := hid hall
    clear hall
    by_cases hlt : k < s.size
    · have HS := hid (all_take_succ digB s k hlt)
      cases hp : digB s[k]
      · have HP := hid hp
        have hgk : ∀ W, Calls Tryz.prog 186 #[.int .u8 (s[k].toNat : Int)] W fun e w' => e = .returned (.bool false) ∧ w' = W := fun W => hp ▸ digit_any s[k] W
        clear hp
        go_wp2_with (go_at_call 186; refine (hgk _).mono ?_; rintro e w' ⟨rfl, rfl⟩)
        go_ret
        exact ⟨ret_bool (allB_no hlt HP.out).symm, rfl⟩
      · have HP := hid hp
        have hgk : ∀ W, Calls Tryz.prog 186 #[.int .u8 (s[k].toNat : Int)] W fun e w' => e = .returned (.bool true) ∧ w' = W := fun W => hp ▸ digit_any s[k] W
        clear hp
        go_wp2_with (go_at_call 186; refine (hgk _).mono ?_; rintro e w' ⟨rfl, rfl⟩)
        go_round
        case rel => exact ⟨k + 1, by omega, by go_num, by rw [HS.out, HA.out, HP.out]; rfl⟩
        case measure => simp [intOf]; omega
    · go_wp2
      go_ret
      exact ⟨ret_bool (by rw [allB_yes hk hlt HA.out, Lib.toList_data]), rfl⟩

theorem Letters_any (s : ByteArray) (w : World) (hs : s.size ≤ 1000) :
    Calls Tryz.prog 154 #[.string s] w fun e w' => e = .returned (.bool (allB letB s.data.toList)) ∧ w' = w := by
  have h := allLetter_any s w hs
  generalize allB letB s.data.toList = b at *
  go_enter Tryz.func154, Tryz.ntmps154
  go_wp2_with (go_at_call 184; refine h.mono ?_; rintro e w' ⟨rfl, rfl⟩)
  go_ret
  exact ⟨rfl, rfl⟩

theorem Digits_any (s : ByteArray) (w : World) (hs : s.size ≤ 1000) :
    Calls Tryz.prog 156 #[.string s] w fun e w' => e = .returned (.bool (allB digB s.data.toList)) ∧ w' = w := by
  have h := allDigit_any s w hs
  generalize allB digB s.data.toList = b at *
  go_enter Tryz.func156, Tryz.ntmps156
  go_wp2_with (go_at_call 184; refine h.mono ?_; rintro e w' ⟨rfl, rfl⟩)
  go_ret
  exact ⟨rfl, rfl⟩
end Go.Proofs.YtjlfchnnhglbjaaGreat
