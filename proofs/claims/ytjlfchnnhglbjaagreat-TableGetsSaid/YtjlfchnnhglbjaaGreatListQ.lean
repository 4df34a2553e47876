/- tag.Parse over bytes and over subtags are one: no program in sight. -/
import Derived.Test.YtjlfchnnhglbjaaGreatListP
set_option linter.unusedVariables false
set_option linter.unusedSimpArgs false
namespace Go.Proofs.YtjlfchnnhglbjaaGreat

theorem isType_nil : isType [] = false := by decide
theorem isKey_nil : isKey [] = false := by decide
theorem isVariant_nil : isVariant [] = false := by decide
theorem isRegion_nil : isRegion [] = false := by decide
theorem isScript_nil : isScript [] = false := by decide
theorem isLang_nil : isLang [] = false := by decide

theorem rest_next (r : Rd) : r.next.rest.length ≤ r.rest.length := by
  have := Rd.next_all r
  unfold Rd.next
  cases r.rest with
  | nil => simp
  | cons c l => have := take_drop_len l; simp; omega
theorem types_L : ∀ (n : Nat) (r : Rd) (acc : List Str), r.ok → (r.rest.length + 2 ≤ n ∨ (isType r.sub = false ∧ 1 ≤ n)) →
    (types n r acc).1 = acc ++ (r.subs.takeWhile isType).map lower ∧ (types n r acc).2.subs = r.subs.dropWhile isType ∧ (types n r acc).2.ok ∧ (types n r acc).2.rest.length ≤ r.rest.length
  | 0, r, acc, h, hm => by rcases hm with h | h <;> omega
  | n + 1, r, acc, h, hm => by
    unfold types
    rcases fin_cases r h with ⟨hf, hs, hb⟩ | ⟨hf, ps, hs, hn⟩
    · rw [hb, hs]
      simp only [isType_nil, Bool.false_eq_true, if_false, List.takeWhile_nil, List.dropWhile_nil, List.map_nil, List.append_nil]
      exact ⟨trivial, hs, h, Nat.le_refl _⟩
    · by_cases hq : isType r.sub = true
      · have hm2 : r.rest.length + 2 ≤ n + 1 := by
          rcases hm with h | h
          · exact h
          · rw [hq] at h; cases h.1
        obtain ⟨h1, h2, h3, h4⟩ := types_L n r.next (acc ++ [lower r.sub]) (ok_next r h) (types_inv hm2)
        rw [if_pos hq, h1, h2, hs, hn]
        refine ⟨by simp [List.takeWhile_cons, hq], by simp [List.dropWhile_cons, hq], h3, Nat.le_trans h4 (rest_next r)⟩
      · have hq2 : isType r.sub = false := by simpa using hq
        rw [if_neg hq, hs]
        refine ⟨by simp [List.takeWhile_cons, hq2], by simp [List.dropWhile_cons, hq2, hs], h, Nat.le_refl _⟩

theorem keys_L : ∀ (n : Nat) (t : Tg) (r : Rd), r.ok → r.rest.length ≤ 128 → 17 ≤ n + t.keys.length → t.keys.length ≤ 16 → okR (keysF n t r) = keysL n t r.subs
  | 0, t, r, h, hl, hn, hk => by omega
  | n + 1, t, r, h, hl, hn, hk => by
    unfold keysF
    rcases fin_cases r h with ⟨hf, hs, hb⟩ | ⟨hf, ps, hs, hnx⟩
    · rw [hb, hs, isKey_nil, hf]
      simp [keysL, okR]
    · rw [hs, hf]
      simp only [keysL]
      by_cases hq : isKey r.sub = true
      · simp only [hq, if_true]
        by_cases hd : (t.keys.any fun p => p.1 == lower r.sub) = true
        · rw [if_pos hd, if_pos hd]; exact okR_bad _ _ (by decide)
        · rw [if_neg hd, if_neg hd]
          by_cases h16 : t.keys.length = 16
          · rw [if_pos h16, if_pos h16]; exact okR_bad _ _ (by decide)
          · rw [if_neg h16, if_neg h16]
            obtain ⟨h1, h2, h3, h4⟩ := types_L 130 r.next [] (ok_next r h) (Or.inl (by have := rest_next r; omega))
            rw [keys_L n { t with keys := t.keys ++ [(lower r.sub, value (types 130 r.next []).1)] } (types 130 r.next []).2 h3 (by have := rest_next r; omega) (by simp; omega) (by simp; omega), h2, h1, hnx]
            rfl
      · simp only [hq]
        simp only [Bool.false_eq_true, if_false]
        exact okR_bad _ _ (by decide)

theorem tail_L (t : Tg) (r : Rd) (h : r.ok) (hl : r.rest.length ≤ 128) (hk : t.keys = []) : okR (tailF t r) = tailL t r.subs := by
  unfold tailF
  rcases fin_cases r h with ⟨hf, hs, hb⟩ | ⟨hf, ps, hs, hnx⟩
  · rw [hs, hf]; simp [tailL, okR]
  · rw [hs, hf]
    simp only [Bool.false_eq_true, if_false]
    simp only [tailL]
    by_cases hu : lower r.sub = [117]
    · rw [if_pos hu, if_pos hu]
      have hl2 := rest_next r
      rcases fin_cases r.next (ok_next r h) with ⟨hf2, hs2, hb2⟩ | ⟨hf2, qs, hs2, hn2⟩
      · rw [hb2, isKey_nil, ← hnx, hs2]
        simp only [Bool.false_eq_true, if_false]
        exact okR_bad _ _ (by decide)
      · rw [← hnx, hs2]
        by_cases hq : isKey r.next.sub = true
        · rw [if_pos hq]
          simp only [hq, if_true]
          rw [keys_L 17 { t with vars := srtS t.vars } r.next (ok_next r h) (by omega) (by simp) (by simp [hk]), hs2]
        · rw [if_neg hq]
          simp only [hq]
          exact okR_bad _ _ (by decide)
    · rw [if_neg hu, if_neg hu]; exact okR_bad _ _ (by decide)

theorem vars_L : ∀ (n : Nat) (t : Tg) (r : Rd), r.ok → r.rest.length ≤ 128 → 9 ≤ n + t.vars.length → t.vars.length ≤ 8 → t.keys = [] → okR (varsF n t r) = varsL n t r.subs
  | 0, t, r, h, hl, hn, hv, hk => by omega
  | n + 1, t, r, h, hl, hn, hv, hk => by
    unfold varsF
    rcases fin_cases r h with ⟨hf, hs, hb⟩ | ⟨hf, ps, hs, hnx⟩
    · rw [hb, isVariant_nil, hs]
      simp only [Bool.false_eq_true, if_false, varsL]
      rw [tail_L t r h hl hk, hs]
    · rw [hs]
      simp only [varsL]
      by_cases hq : isVariant r.sub = true
      · rw [if_pos hq, if_pos hq]
        by_cases hd : t.vars.contains (lower r.sub) = true
        · rw [if_pos hd, if_pos hd]; exact okR_bad _ _ (by decide)
        · rw [if_neg hd, if_neg hd]
          by_cases h8 : t.vars.length = 8
          · rw [if_pos h8, if_pos h8]; exact okR_bad _ _ (by decide)
          · rw [if_neg h8, if_neg h8, vars_L n { t with vars := t.vars ++ [lower r.sub] } r.next (ok_next r h) (by have := rest_next r; omega) (by simp; omega) (by simp; omega) hk, hnx]
      · rw [if_neg hq, if_neg hq, tail_L t r h hl hk, hs]
theorem region_L (t : Tg) (r : Rd) (h : r.ok) (hl : r.rest.length ≤ 128) (hv : t.vars = []) (hk : t.keys = []) : okR (regionF t r) = regionL t r.subs := by
  unfold regionF
  have hl2 := rest_next r
  rcases fin_cases r h with ⟨hf, hs, hb⟩ | ⟨hf, ps, hs, hnx⟩
  · rw [hb, isRegion_nil, hs]
    simp only [Bool.false_eq_true, if_false, regionL]
    rw [vars_L 9 t r h hl (by omega) (by simp [hv]) hk, hs]
  · rw [hs]
    simp only [regionL]
    by_cases hq : isRegion r.sub = true
    · rw [if_pos hq, if_pos hq, vars_L 9 { t with region := upper r.sub } r.next (ok_next r h) (by omega) (by simp) (by simp [hv]) hk, hnx]
    · rw [if_neg hq, if_neg hq, vars_L 9 t r h hl (by omega) (by simp [hv]) hk, hs]
theorem script_L (t : Tg) (r : Rd) (h : r.ok) (hl : r.rest.length ≤ 128) (hv : t.vars = []) (hk : t.keys = []) : okR (scriptF t r) = scriptL t r.subs := by
  unfold scriptF
  have hl2 := rest_next r
  rcases fin_cases r h with ⟨hf, hs, hb⟩ | ⟨hf, ps, hs, hnx⟩
  · rw [hb, isScript_nil, hs]
    simp only [Bool.false_eq_true, if_false, scriptL]
    rw [region_L t r h hl hv hk, hs]
  · rw [hs]
    simp only [scriptL]
    by_cases hq : isScript r.sub = true
    · rw [if_pos hq, if_pos hq, region_L { t with script := title r.sub } r.next (ok_next r h) (by omega) hv hk, hnx]
    · rw [if_neg hq, if_neg hq, region_L t r h hl hv hk, hs]
/-- the whole -/
theorem parse_L (s : Str) : okR (parseF s) = if 128 < s.length then none else if lower s = tRoot then some Tg.zero else parseL (Rd.first s).subs := by
  unfold parseF
  by_cases h1 : 128 < s.length
  · rw [if_pos h1, if_pos h1]; rfl
  · rw [if_neg h1, if_neg h1]
    by_cases h2 : lower s = tRoot
    · rw [if_pos h2, if_pos h2]; rfl
    · rw [if_neg h2, if_neg h2]
      have ha := Rd.first_all s
      have hl2 := rest_next (Rd.first s)
      unfold Rd.all at ha
      rcases fin_cases _ (ok_first s) with ⟨hf, hs, hb⟩ | ⟨hf, ps, hs, hnx⟩
      · rw [hb, isLang_nil, hs]
        simp only [Bool.false_eq_true, if_false, parseL]
        exact okR_bad _ _ (by decide)
      · rw [hs]
        simp only [parseL]
        by_cases hq : isLang (Rd.first s).sub = true
        · rw [if_pos hq, if_pos hq, script_L _ _ (ok_next _ (ok_first s)) (by omega) rfl rfl, hnx]
        · rw [if_neg hq, if_neg hq]; exact okR_bad _ _ (by decide)
end Go.Proofs.YtjlfchnnhglbjaaGreat
