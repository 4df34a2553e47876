/- What holds of a tag that tag.Parse yields: no program in sight. -/
import Derived.Test.YtjlfchnnhglbjaaGreatCanonB
set_option linter.unusedVariables false
set_option linter.unusedSimpArgs false
namespace Go.Proofs.YtjlfchnnhglbjaaGreat

/-- the subtags of a value; of a keyword -/
def vparts (v : Str) : List Str := if v = [] then [] else (Rd.first v).subs
def kparts (p : Str × Str) : List Str := p.1 :: vparts p.2
def ValOK (v : Str) : Prop := ∃ ts : List Str, (∀ x ∈ ts, isType x = true ∧ lower x = x) ∧ v = value ts
def KeyOK (p : Str × Str) : Prop := isKey p.1 = true ∧ lower p.1 = p.1 ∧ ValOK p.2
def KeysOK (l : List (Str × Str)) : Prop := (l.map (·.1)).Nodup ∧ (∀ p ∈ l, KeyOK p) ∧ l.length ≤ 16
def VarsOK (l : List Str) : Prop := l.Nodup ∧ (∀ v ∈ l, isVariant v = true ∧ lower v = v) ∧ l.length ≤ 8

theorem value_cases (ts : List Str) : value ts = [] ∨ (value ts = Lib.join ts [45] ∧ ts ≠ [] ∧ value ts ≠ []) := by
  unfold value
  by_cases h : Lib.join ts [45] = tTrue
  · rw [if_pos h]; exact Or.inl rfl
  · rw [if_neg h]
    by_cases h2 : Lib.join ts [45] = []
    · exact Or.inl h2
    · exact Or.inr ⟨rfl, fun e => h2 (by rw [e]; rfl), h2⟩
theorem vparts_value (ts : List Str) (h : ∀ x ∈ ts, isType x = true) : vparts (value ts) = if value ts = [] then [] else ts := by
  unfold vparts
  by_cases h0 : value ts = []
  · rw [if_pos h0, if_pos h0]
  · rw [if_neg h0, if_neg h0]
    rcases value_cases ts with h1 | ⟨h1, h2, h3⟩
    · exact absurd h1 h0
    · rw [h1]
      cases ts with
      | nil => exact absurd rfl h2
      | cons x xs =>
        refine subs_join x xs ?_ fun q hq => (type_clean (h q hq)).1
        have := (type_clean (h x (List.mem_cons_self))).2.1
        rintro rfl
        simp at this
theorem sz_value (ts : List Str) (h : ∀ x ∈ ts, isType x = true) : sz (vparts (value ts)) ≤ sz ts := by
  rw [vparts_value ts h]
  split
  · exact Nat.zero_le _
  · exact Nat.le_refl _
theorem takeWhile_mem {p : Str → Bool} : ∀ (l : List Str), ∀ x ∈ l.takeWhile p, p x = true
  | [], x, h => by simp at h
  | a :: l, x, h => by
    rw [List.takeWhile_cons] at h
    split at h
    · rcases List.mem_cons.1 h with rfl | h
      · assumption
      · exact takeWhile_mem l x h
    · simp at h
theorem sz_take_drop (p : Str → Bool) (l : List Str) : sz (l.takeWhile p) + sz (l.dropWhile p) = sz l := by
  rw [← sz_append, List.takeWhile_append_dropWhile]

theorem nodup_snoc' {l : List (Str × Str)} {key v : Str} (h : ¬ (l.any fun p => p.1 == key) = true) (hn : (l.map (·.1)).Nodup) : ((l ++ [(key, v)]).map (·.1)).Nodup := by
  rw [List.map_append, List.nodup_append]
  refine ⟨hn, by simp, fun a ha b hb => ?_⟩
  simp only [List.map_cons, List.map_nil, List.mem_singleton] at hb
  subst hb
  rintro rfl
  obtain ⟨p, hp, rfl⟩ := List.mem_map.1 ha
  exact h (List.any_eq_true.2 ⟨p, hp, by simp⟩)
theorem keys_fact : ∀ (n : Nat) (t t' : Tg) (ps : List Str), keysL n t ps = some t' → KeysOK t.keys →
    ∃ ks, t' = { t with keys := srtK (t.keys ++ ks) } ∧ KeysOK (t.keys ++ ks) ∧ sz (ks.flatMap kparts) ≤ sz ps
  | 0, t, t', ps, h, _ => by simp [keysL] at h
  | n + 1, t, t', [], h, hk => by
    simp only [keysL, Option.some.injEq] at h
    exact ⟨[], by rw [← h, List.append_nil], by rw [List.append_nil]; exact hk, by simp [sz_nil]⟩
  | n + 1, t, t', x :: ps, h, hk => by
    simp only [keysL] at h
    by_cases hq : isKey x = true
    · rw [if_pos hq] at h
      by_cases hd : (t.keys.any fun p => p.1 == lower x) = true
      · rw [if_pos hd] at h; cases h
      · rw [if_neg hd] at h
        by_cases h16 : t.keys.length = 16
        · rw [if_pos h16] at h; cases h
        · rw [if_neg h16] at h
          have hty : ∀ y ∈ (ps.takeWhile isType).map lower, isType y = true ∧ lower y = y := by
            intro y hy
            obtain ⟨z, hz, rfl⟩ := List.mem_map.1 hy
            exact ⟨by rw [isType_lower]; exact takeWhile_mem ps z hz, lower_lower z⟩
          have hok : KeyOK (lower x, value ((ps.takeWhile isType).map lower)) := ⟨by rw [isKey_lower]; exact hq, lower_lower x, _, hty, rfl⟩
          have hk2 : KeysOK (t.keys ++ [(lower x, value ((ps.takeWhile isType).map lower))]) := by
            refine ⟨nodup_snoc' hd hk.1, fun p hp => ?_, by have := hk.2.2; simp; omega⟩
            rcases List.mem_append.1 hp with hp | hp
            · exact hk.2.1 p hp
            · rw [List.mem_singleton.1 hp]; exact hok
          obtain ⟨ks, h1, h2, h3⟩ := keys_fact n _ t' _ h hk2
          refine ⟨(lower x, value ((ps.takeWhile isType).map lower)) :: ks, ?_, ?_, ?_⟩
          · rw [h1]; simp
          · simpa using h2
          · rw [List.flatMap_cons, sz_append, sz_cons]
            have := sz_take_drop isType ps
            have h4 := sz_value ((ps.takeWhile isType).map lower) fun y hy => (hty y hy).1
            rw [sz_lower] at h4
            rw [show kparts (lower x, value ((ps.takeWhile isType).map lower)) = lower x :: vparts (value ((ps.takeWhile isType).map lower)) from rfl, sz_cons, lower_length]
            omega
    · rw [if_neg hq] at h; cases h
end Go.Proofs.YtjlfchnnhglbjaaGreat
