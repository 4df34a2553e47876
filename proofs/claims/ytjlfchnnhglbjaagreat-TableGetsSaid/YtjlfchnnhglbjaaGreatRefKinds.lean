/- The contracts of the reference's count and Kinds. -/
import Derived.Test.YtjlfchnnhglbjaaGreatRefLow
import Derived.Test.YtjlfchnnhglbjaaGreatCanonE
import Derived.Deep.LoopGhost
set_option linter.unusedVariables false
set_option linter.unusedSimpArgs false
namespace Go.Proofs.YtjlfchnnhglbjaaGreat
open Go.RowKit

theorem let_int (c : UInt8) : letB c = ((decide (97 ≤ (c.toNat : Int)) && decide ((c.toNat : Int) ≤ 122)) || (decide (65 ≤ (c.toNat : Int)) && decide ((c.toNat : Int) ≤ 90))) := all_bytes (p := fun c => letB c = ((decide (97 ≤ (c.toNat : Int)) && decide ((c.toNat : Int) ≤ 122)) || (decide (65 ≤ (c.toNat : Int)) && decide ((c.toNat : Int) ≤ 90)))) (by decide +kernel) c
def mixL (l : Str) : Bool := l.all fun c => letB c || digB c
/-- what the reference's count hands back -/
def countV (l : Str) : Value := if mixL l = true then .tuple #[.int .i64 (l.countP letB : Nat), .int .i64 (l.countP digB : Nat)] else .tuple #[.int .i64 (-1), .int .i64 (-1)]
theorem take_more (s : ByteArray) (k : Nat) (h : k < s.size) : s.data.toList.take (k + 1) = s.data.toList.take k ++ [s[k]] := by
  rw [List.take_succ_eq_append_getElem (by simpa using h)]; simp; rfl

set_option maxHeartbeats 1000000 in
theorem rcount_any (s : ByteArray) (w : World) (hs : s.size ≤ 1000) :
    Calls Tryz.prog 166 #[.string s] w fun e w' => e = .returned (countV s.data.toList) ∧ w' = w := by
  go_enter Tryz.func166, Tryz.ntmps166
  go_wp2
  go_loopg [4, 5, 6] s.size (fun g vl vd vi W => ∃ k : Nat, k ≤ s.size ∧ s.size ≤ k + g ∧ vl = .int .i64 ((s.data.toList.take k).countP letB : Nat) ∧ vd = .int .i64 ((s.data.toList.take k).countP digB : Nat) ∧ vi = .int .i64 k ∧ mixL (s.data.toList.take k) = true ∧ W = w)
  case atStart => exact ⟨0, Nat.zero_le _, by omega, by simp, by simp, rfl, by simp [mixL], rfl⟩
  case round =>
    obtain ⟨k, hk, hg, rfl, rfl, rfl, hm, rfl⟩ := hrel
    have HG := hid hg
    have hc1 : (s.data.toList.take k).countP letB ≤ 1000 := by have := List.countP_le_length (p := letB) (l := s.data.toList.take k); simp at this; omega
    have hc2 : (s.data.toList.take k).countP digB ≤ 1000 := by have := List.countP_le_length (p := digB) (l := s.data.toList.take k); simp at this; omega
    clear hg
    by_cases hlt : k < s.size
    · have ht := take_more s k hlt
      have HL := hid (show ∀ b, letB s[k] = b → (s.data.toList.take (k + 1)).countP letB = (s.data.toList.take k).countP letB + (if b = true then 1 else 0) from fun b hb => by rw [ht, List.countP_append, ← hb]; simp [List.countP_cons])
      have HD := hid (show ∀ b, digB s[k] = b → (s.data.toList.take (k + 1)).countP digB = (s.data.toList.take k).countP digB + (if b = true then 1 else 0) from fun b hb => by rw [ht, List.countP_append, ← hb]; simp [List.countP_cons])
      have HM := hid (show (letB s[k] || digB s[k]) = true → mixL (s.data.toList.take (k + 1)) = true from fun h => by rw [ht]; unfold mixL at *; rw [List.all_append, hm]; simpa using h)
      have HN := hid (show (letB s[k] || digB s[k]) = false → mixL s.data.toList = false from fun h => by
        refine List.all_eq_false.2 ⟨s[k], ?_, by simp [h]⟩
        have : s[k] = s.data.toList[k]'(by simpa using hlt) := rfl
        rw [this]; exact List.getElem_mem _)
      have H1 := hid (let_int s[k])
      have H2 := hid (digB_int s[k])
      have H3 := hid (dig_let s[k])
      have hb : (s[k].toNat : Int) < 256 := by have := s[k].toNat_lt; omega
      have hb0 : 0 ≤ (s[k].toNat : Int) := by omega
      clear hm ht
      generalize (s.data.toList.take k).countP letB = nl at *
      generalize (s.data.toList.take k).countP digB = nd at *
      generalize hn : (s[k].toNat : Int) = n at *
      by_cases h1 : (97 ≤ n ∧ n ≤ 122) ∨ (65 ≤ n ∧ n ≤ 90)
      · have hl : letB s[k] = true := by rw [H1.out]; simpa using h1
        have hd : digB s[k] = false := by cases hq : digB s[k] with
          | false => rfl
          | true => rw [H3.out hq] at hl; cases hl
        have e1 := hid (HL.out _ hl)
        have e2 := hid (HD.out _ hd)
        have e3 := hid (HM.out (by rw [hl]; rfl))
        clear hl hd
        go_wp2
        all_goals go_roundg (gk - 1)
        all_goals first
          | (have := HG.out; omega)
          | exact ⟨k + 1, by omega, by have := HG.out; omega, by rw [e1.out]; simp, by rw [e2.out]; simp, by simp, e3.out, rfl⟩
      · have hl : letB s[k] = false := by rw [H1.out]; simpa using h1
        by_cases h2 : 48 ≤ n ∧ n ≤ 57
        · have hd : digB s[k] = true := by rw [H2.out]; simpa using h2
          have e1 := hid (HL.out _ hl)
          have e2 := hid (HD.out _ hd)
          have e3 := hid (HM.out (by rw [hd]; simp))
          clear hl hd
          go_wp2
          all_goals go_roundg (gk - 1)
          all_goals first
            | (have := HG.out; omega)
            | exact ⟨k + 1, by omega, by have := HG.out; omega, by rw [e1.out]; simp, by rw [e2.out]; simp, by simp, e3.out, rfl⟩
        · have hd : digB s[k] = false := by rw [H2.out]; simpa using h2
          have e3 := hid (HN.out (by rw [hl, hd]; rfl))
          clear hl hd
          go_wp2
          all_goals exact bodyPost_ret (v := .tuple #[.int .i64 (-1), .int .i64 (-1)]) (by simp [results, Tryz.results166, go_sem]) rfl ⟨by unfold countV; rw [e3.out]; rfl, rfl⟩
    · have ht : s.data.toList.take k = s.data.toList := List.take_of_length_le (by simp; omega)
      rw [ht] at hm ⊢
      have HM := hid hm
      clear hm
      go_wp2
      exact bodyPost_ret (v := .tuple #[.int .i64 (s.data.toList.countP letB : Nat), .int .i64 (s.data.toList.countP digB : Nat)]) (by simp [results, Tryz.results166, go_sem]) rfl ⟨by unfold countV; rw [HM.out]; rfl, rfl⟩

/-- the reference's kinds, put together -/
def fl (b : Bool) (n : Nat) : Nat := if b = true then n else 0
def kindsF (l : Str) : Nat := fl (isLang l) 2 + fl (isScript l) 4 + fl (isRegion l) 8 + fl (isVariant l) 16 + fl (lower l == [117]) 32 + fl (isKey l) 64 + fl (isType l) 128
theorem mix_split : ∀ (l : Str), mixL l = true → l.countP letB + l.countP digB = l.length
  | [], _ => rfl
  | c :: l, h => by
    have h1 : (letB c || digB c) = true ∧ mixL l = true := by simpa [mixL] using h
    have ih := mix_split l h1.2
    have h2 := dig_let c
    rw [List.countP_cons, List.countP_cons, List.length_cons]
    cases hl : letB c <;> cases hd : digB c
    · rw [hl, hd] at h1; simp at h1
    · simp; omega
    · simp; omega
    · rw [h2 hd] at hl; cases hl
theorem all_let {l : Str} (h : mixL l = true) (h0 : l ≠ []) : allB letB l = decide (l.countP digB = 0) := by
  rw [allB_ne _ _ h0]
  have hs := mix_split l h
  rw [Bool.eq_iff_iff, decide_eq_true_eq, List.all_eq_true]
  constructor
  · intro ha
    have := List.countP_eq_length.2 ha
    omega
  · intro h0
    exact List.countP_eq_length.1 (by omega)
theorem all_dig {l : Str} (h : mixL l = true) (h0 : l ≠ []) : allB digB l = decide (l.countP letB = 0) := by
  rw [allB_ne _ _ h0]
  have hs := mix_split l h
  rw [Bool.eq_iff_iff, decide_eq_true_eq, List.all_eq_true]
  constructor
  · intro ha
    have := List.countP_eq_length.2 ha
    omega
  · intro h0
    exact List.countP_eq_length.1 (by omega)
theorem mixedB_mix {l : Str} (h : mixL l = true) (a b : Nat) : mixedB l a b = (decide (a ≤ l.length) && decide (l.length ≤ b)) := by
  unfold mixedB
  rw [show (l.all fun c => letB c || digB c) = true from h, Bool.and_true]
theorem mixedB_not {l : Str} (h : mixL l = false) (a b : Nat) : mixedB l a b = false := by
  unfold mixedB
  rw [show (l.all fun c => letB c || digB c) = false from h, Bool.and_false, Bool.and_false]
theorem allL_not {l : Str} (h : mixL l = false) : allB letB l = false := by
  by_cases ha : allB letB l = true
  · unfold allB at ha
    simp only [Bool.and_eq_true, List.all_eq_true] at ha
    rw [show mixL l = true from List.all_eq_true.2 fun c hc => by rw [ha.1 c hc]; rfl] at h
    cases h
  · simpa using ha
theorem allD_not {l : Str} (h : mixL l = false) : allB digB l = false := by
  by_cases ha : allB digB l = true
  · unfold allB at ha
    simp only [Bool.and_eq_true, List.all_eq_true] at ha
    rw [show mixL l = true from List.all_eq_true.2 fun c hc => by rw [ha.1 c hc]; simp] at h
    cases h
  · simpa using ha
theorem low_u {l : Str} (h : lower l = [117]) : l = [117] ∨ l = [85] := by
  have h1 := congrArg List.length h
  rw [lower_length] at h1
  match l, h1 with
  | [c], _ =>
    have h2 : lowB c = 117 := by simpa [lower] using h
    have := all_bytes (p := fun c => lowB c = 117 → c = 117 ∨ c = 85) (by decide +kernel) c h2
    rcases this with rfl | rfl
    · exact Or.inl rfl
    · exact Or.inr rfl
theorem kinds_not {l : Str} (h : mixL l = false) : kindsF l = 0 := by
  have hu : (lower l == [117]) = false := by
    rw [beq_eq_false_iff_ne]
    intro he
    rcases low_u he with rfl | rfl <;> revert h <;> decide
  unfold kindsF
  rw [hu]
  unfold isLang isScript isRegion isVariant isKey isType lettersB
  rw [mixedB_not h, mixedB_not h, mixedB_not h, mixedB_not h, allL_not h, allD_not h]
  simp [fl]
theorem kinds_yes {l : Str} (h : mixL l = true) (h0 : l ≠ []) : kindsF l =
    fl (decide (l.countP digB = 0) && (l.length == 2 || l.length == 3 || (decide (5 ≤ l.length) && decide (l.length ≤ 8)))) 2 +
    fl (l.length == 4 && decide (l.countP digB = 0)) 4 +
    fl ((l.length == 2 && decide (l.countP digB = 0)) || (l.length == 3 && decide (l.countP letB = 0))) 8 +
    fl ((decide (5 ≤ l.length) && decide (l.length ≤ 8)) || (decide (4 ≤ l.length) && decide (l.length ≤ 4) && allB digB (l.take 1))) 16 +
    fl (lower l == [117]) 32 + fl ((decide (2 ≤ l.length) && decide (l.length ≤ 2)) && allB letB (l.drop 1)) 64 + fl (decide (3 ≤ l.length) && decide (l.length ≤ 8)) 128 := by
  unfold kindsF isLang isScript isRegion isVariant isKey isType lettersB
  rw [mixedB_mix h, mixedB_mix h, mixedB_mix h, mixedB_mix h, all_let h h0, all_dig h h0]
end Go.Proofs.YtjlfchnnhglbjaaGreat
