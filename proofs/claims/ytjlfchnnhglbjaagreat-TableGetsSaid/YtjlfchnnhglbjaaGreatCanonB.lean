/- Which tags tag.Parse yields: no program in sight. -/
import Derived.Test.YtjlfchnnhglbjaaGreatCanonA
set_option linter.unusedVariables false
set_option linter.unusedSimpArgs false
namespace Go.Proofs.YtjlfchnnhglbjaaGreat

theorem low_low (c : UInt8) : lowB (lowB c) = lowB c := all_bytes (p := fun c => lowB (lowB c) = lowB c) (by decide +kernel) c
theorem upp_upp (c : UInt8) : uppB (uppB c) = uppB c := all_bytes (p := fun c => uppB (uppB c) = uppB c) (by decide +kernel) c
theorem cls_low (c : UInt8) : cls (lowB c) = cls c := all_bytes (p := fun c => cls (lowB c) = cls c) (by decide +kernel) c
theorem cls_upp (c : UInt8) : cls (uppB c) = cls c := all_bytes (p := fun c => cls (uppB c) = cls c) (by decide +kernel) c
theorem mix_noSep (c : UInt8) : (letB c || digB c) = true → noSep c = true := all_bytes (p := fun c => (letB c || digB c) = true → noSep c = true) (by decide +kernel) c
theorem let_noSep (c : UInt8) : letB c = true → noSep c = true := fun h => mix_noSep c (by rw [h]; rfl)
theorem dig_noSep (c : UInt8) : digB c = true → noSep c = true := fun h => mix_noSep c (by rw [h]; simp)

theorem lower_lower (l : Str) : lower (lower l) = lower l := by
  unfold lower; rw [List.map_map]; exact List.map_congr_left fun c _ => low_low c
theorem upper_upper (l : Str) : upper (upper l) = upper l := by
  unfold upper; rw [List.map_map]; exact List.map_congr_left fun c _ => upp_upp c
theorem title_title (l : Str) : title (title l) = title l := by
  cases l with
  | nil => rfl
  | cons c l =>
    show upper ((title (c :: l)).take 1) ++ lower ((title (c :: l)).drop 1) = _
    have : title (c :: l) = uppB c :: lower l := rfl
    rw [this]
    show upper [uppB c] ++ lower (lower l) = _
    rw [lower_lower]
    simp [upper, upp_upp]
theorem lower_map (l : Str) : (lower l).map cls = l.map cls := by
  unfold lower; rw [List.map_map]; exact List.map_congr_left fun c _ => cls_low c
theorem upper_map (l : Str) : (upper l).map cls = l.map cls := by
  unfold upper; rw [List.map_map]; exact List.map_congr_left fun c _ => cls_upp c
theorem title_map (l : Str) : (title l).map cls = l.map cls := by
  unfold title
  rw [List.map_append, upper_map, lower_map, ← List.map_append, List.take_append_drop]
theorem isKey_lower (l : Str) : isKey (lower l) = isKey l := by rw [← isKey_cls, lower_map, isKey_cls]
theorem isType_lower (l : Str) : isType (lower l) = isType l := by rw [← isType_cls, lower_map, isType_cls]
theorem isVariant_lower (l : Str) : isVariant (lower l) = isVariant l := by rw [← isVariant_cls, lower_map, isVariant_cls]
theorem isLang_lower (l : Str) : isLang (lower l) = isLang l := by rw [← isLang_cls, lower_map, isLang_cls]
theorem isRegion_upper (l : Str) : isRegion (upper l) = isRegion l := by rw [← isRegion_cls, upper_map, isRegion_cls]
theorem isScript_title (l : Str) : isScript (title l) = isScript l := by rw [← isScript_cls, title_map, isScript_cls]

theorem mixed_clean {l : Str} {a b : Nat} (h : mixedB l a b = true) : clean l ∧ a ≤ l.length ∧ l.length ≤ b := by
  unfold mixedB at h
  simp only [Bool.and_eq_true, decide_eq_true_eq] at h
  exact ⟨fun c hc => mix_noSep c (List.all_eq_true.1 h.2.2 c hc), h.1, h.2.1⟩
theorem allB_clean {p : UInt8 → Bool} (hp : ∀ c, p c = true → noSep c = true) {l : Str} (h : allB p l = true) : clean l := by
  unfold allB at h
  simp only [Bool.and_eq_true] at h
  exact fun c hc => hp c (List.all_eq_true.1 h.1 c hc)
theorem type_clean {l : Str} (h : isType l = true) : clean l ∧ 3 ≤ l.length ∧ l.length ≤ 8 := mixed_clean h
theorem key_clean {l : Str} (h : isKey l = true) : clean l ∧ l.length = 2 := by
  unfold isKey at h
  simp only [Bool.and_eq_true] at h
  obtain ⟨h1, h2, h3⟩ := mixed_clean h.1
  exact ⟨h1, by omega⟩
theorem variant_clean {l : Str} (h : isVariant l = true) : clean l ∧ 4 ≤ l.length ∧ l.length ≤ 8 := by
  unfold isVariant at h
  simp only [Bool.or_eq_true, Bool.and_eq_true] at h
  rcases h with h | h
  · obtain ⟨h1, h2, h3⟩ := mixed_clean h; exact ⟨h1, by omega, h3⟩
  · obtain ⟨h1, h2, h3⟩ := mixed_clean h.1; exact ⟨h1, h2, by omega⟩
theorem script_clean {l : Str} (h : isScript l = true) : clean l ∧ l.length = 4 := by
  unfold isScript lettersB at h
  simp only [Bool.and_eq_true, beq_iff_eq] at h
  exact ⟨allB_clean let_noSep h.2, h.1⟩
theorem region_clean {l : Str} (h : isRegion l = true) : clean l ∧ (l.length = 2 ∨ l.length = 3) := by
  unfold isRegion lettersB at h
  simp only [Bool.or_eq_true, Bool.and_eq_true, beq_iff_eq] at h
  rcases h with h | h
  · exact ⟨allB_clean let_noSep h.2, Or.inl h.1⟩
  · exact ⟨allB_clean dig_noSep h.2, Or.inr h.1⟩
theorem lang_clean {l : Str} (h : isLang l = true) : clean l ∧ (l.length = 2 ∨ l.length = 3 ∨ (5 ≤ l.length ∧ l.length ≤ 8)) := by
  unfold isLang at h
  simp only [Bool.or_eq_true, Bool.and_eq_true, beq_iff_eq, decide_eq_true_eq] at h
  refine ⟨allB_clean let_noSep h.1, ?_⟩
  rcases h.2 with (h | h) | h
  · exact Or.inl h
  · exact Or.inr (Or.inl h)
  · exact Or.inr (Or.inr h)
end Go.Proofs.YtjlfchnnhglbjaaGreat
