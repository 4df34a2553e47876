/- What holds of a tag that tag.Parse yields, the whole: no program in sight. -/
import Derived.Test.YtjlfchnnhglbjaaGreatCanonC
set_option linter.unusedVariables false
set_option linter.unusedSimpArgs false
namespace Go.Proofs.YtjlfchnnhglbjaaGreat

theorem KeysOK.nil : KeysOK [] := ⟨by simp, by simp, by simp⟩
theorem VarsOK.nil : VarsOK [] := ⟨by simp, by simp, by simp⟩
theorem srtS_perm (l : List Str) : (srtS l).Perm l := List.mergeSort_perm l _
theorem srtS_sorted (l : List Str) : (srtS l).Pairwise (fun a b => decide (a ≤ b) = true) :=
  List.pairwise_mergeSort (fun a b c h1 h2 => by simp only [decide_eq_true_eq] at *; exact List.le_trans h1 h2) (fun a b => by simp only [Bool.or_eq_true, decide_eq_true_eq]; exact List.le_total _ _) l
theorem srtS_srtS (l : List Str) : srtS (srtS l) = srtS l := List.mergeSort_of_pairwise (srtS_sorted l)
theorem KeysOK.srt {l : List (Str × Str)} (h : KeysOK l) : KeysOK (srtK l) :=
  ⟨((srtK_perm l).map _).nodup_iff.2 h.1, fun p hp => h.2.1 p ((srtK_perm l).mem_iff.1 hp), by rw [(srtK_perm l).length_eq]; exact h.2.2⟩
theorem VarsOK.srt {l : List Str} (h : VarsOK l) : VarsOK (srtS l) :=
  ⟨(srtS_perm l).nodup_iff.2 h.1, fun p hp => h.2.1 p ((srtS_perm l).mem_iff.1 hp), by rw [(srtS_perm l).length_eq]; exact h.2.2⟩
theorem srtK_srtK {l : List (Str × Str)} (h : KeysOK l) : srtK (srtK l) = srtK l :=
  (srtK_one (srtK l) (srtK l) (List.Perm.refl _) h.srt.1 (srtK_sorted l)).symm

def kuParts (ks : List (Str × Str)) : List Str := uPart ks ++ ks.flatMap kparts
theorem sz_kuParts (ks : List (Str × Str)) : sz (kuParts ks) ≤ 2 + sz (ks.flatMap kparts) := by
  unfold kuParts uPart
  split
  · simp [sz_nil]
  · rw [sz_append, sz_cons, sz_nil]; simp

theorem tail_fact (t t' : Tg) (ps : List Str) (h : tailL t ps = some t') (hk : t.keys = []) : ∃ ks, t' = { t with vars := srtS t.vars, keys := srtK ks } ∧ KeysOK ks ∧ sz (kuParts ks) ≤ sz ps := by
  cases ps with
  | nil =>
    simp only [tailL, Option.some.injEq] at h
    exact ⟨[], by rw [← h, hk]; simp [srtK], KeysOK.nil, by simp [kuParts, uPart, sz_nil]⟩
  | cons x ps =>
    simp only [tailL] at h
    by_cases hu : lower x = [117]
    · rw [if_pos hu] at h
      cases ps with
      | nil => cases h
      | cons y qs =>
        simp only at h
        by_cases hq : isKey y = true
        · rw [if_pos hq] at h
          obtain ⟨ks, h1, h2, h3⟩ := keys_fact 17 _ t' _ h (by simp only [hk]; exact KeysOK.nil)
          simp only [hk, List.nil_append] at h1 h2
          have hx : x.length = 1 := by rw [← lower_length, hu]; rfl
          exact ⟨ks, h1, h2, by have := sz_kuParts ks; rw [sz_cons, hx]; omega⟩
        · rw [if_neg hq] at h; cases h
    · rw [if_neg hu] at h; cases h
theorem vars_fact : ∀ (n : Nat) (t t' : Tg) (ps : List Str), varsL n t ps = some t' → t.keys = [] → VarsOK t.vars →
    ∃ vs ks, t' = { t with vars := srtS (t.vars ++ vs), keys := srtK ks } ∧ VarsOK (t.vars ++ vs) ∧ KeysOK ks ∧ sz (vs ++ kuParts ks) ≤ sz ps
  | 0, t, t', ps, h, _, _ => by simp [varsL] at h
  | n + 1, t, t', [], h, hk, hv => by
    simp only [varsL] at h
    obtain ⟨ks, h1, h2, h3⟩ := tail_fact t t' [] h hk
    exact ⟨[], ks, by rw [List.append_nil]; exact h1, by rw [List.append_nil]; exact hv, h2, h3⟩
  | n + 1, t, t', x :: ps, h, hk, hv => by
    simp only [varsL] at h
    by_cases hq : isVariant x = true
    · rw [if_pos hq] at h
      by_cases hd : t.vars.contains (lower x) = true
      · rw [if_pos hd] at h; cases h
      · rw [if_neg hd] at h
        by_cases h8 : t.vars.length = 8
        · rw [if_pos h8] at h; cases h
        · rw [if_neg h8] at h
          have hv2 : VarsOK (t.vars ++ [lower x]) := by
            refine ⟨?_, fun p hp => ?_, by have := hv.2.2; simp; omega⟩
            · rw [List.nodup_append]
              refine ⟨hv.1, by simp, fun a ha b hb => ?_⟩
              rw [List.mem_singleton] at hb
              subst hb
              rintro rfl
              exact hd (List.contains_iff_mem.2 ha)
            · rcases List.mem_append.1 hp with hp | hp
              · exact hv.2.1 p hp
              · rw [List.mem_singleton.1 hp]; exact ⟨by rw [isVariant_lower]; exact hq, lower_lower x⟩
          obtain ⟨vs, ks, h1, h2, h3, h4⟩ := vars_fact n _ t' _ h hk hv2
          refine ⟨lower x :: vs, ks, ?_, ?_, h3, ?_⟩
          · rw [h1]; simp
          · simpa using h2
          · rw [List.cons_append, sz_cons, sz_cons, lower_length]; omega
    · rw [if_neg hq] at h
      obtain ⟨ks, h1, h2, h3⟩ := tail_fact t t' (x :: ps) h hk
      exact ⟨[], ks, by rw [List.append_nil]; exact h1, by rw [List.append_nil]; exact hv, h2, h3⟩

def opt (s : Str) : List Str := if s = [] then [] else [s]
theorem opt_nil : opt [] = [] := rfl
theorem sz_opt (s : Str) : sz (opt s) ≤ s.length + 1 := by
  unfold opt
  split
  · exact Nat.zero_le _
  · rw [sz_cons, sz_nil]; simp

theorem region_fact (t t' : Tg) (ps : List Str) (h : regionL t ps = some t') (hk : t.keys = []) (hv : t.vars = []) (hr : t.region = []) :
    ∃ rg vs ks, t' = { t with region := rg, vars := srtS vs, keys := srtK ks } ∧ (rg = [] ∨ (isRegion rg = true ∧ upper rg = rg)) ∧ VarsOK vs ∧ KeysOK ks ∧ sz (opt rg ++ vs ++ kuParts ks) ≤ sz ps := by
  have hnil : ∀ ps, varsL 9 t ps = some t' → ∃ rg vs ks, t' = { t with region := rg, vars := srtS vs, keys := srtK ks } ∧ (rg = [] ∨ (isRegion rg = true ∧ upper rg = rg)) ∧ VarsOK vs ∧ KeysOK ks ∧ sz (opt rg ++ vs ++ kuParts ks) ≤ sz ps := by
    intro ps h
    obtain ⟨vs, ks, h1, h2, h3, h4⟩ := vars_fact 9 t t' ps h hk (by rw [hv]; exact VarsOK.nil)
    simp only [hv, List.nil_append] at h1 h2
    exact ⟨[], vs, ks, by rw [h1, ← hr], Or.inl rfl, h2, h3, by rw [opt_nil]; exact h4⟩
  cases ps with
  | nil => exact hnil [] h
  | cons x ps =>
    simp only [regionL] at h
    by_cases hq : isRegion x = true
    · rw [if_pos hq] at h
      obtain ⟨vs, ks, h1, h2, h3, h4⟩ := vars_fact 9 _ t' ps h hk (by simp only [hv]; exact VarsOK.nil)
      simp only [hv, List.nil_append] at h1 h2
      refine ⟨upper x, vs, ks, h1, Or.inr ⟨by rw [isRegion_upper]; exact hq, upper_upper x⟩, h2, h3, ?_⟩
      have := sz_opt (upper x)
      rw [upper_length] at this
      rw [List.append_assoc, sz_append, sz_cons]
      omega
    · rw [if_neg hq] at h
      exact hnil (x :: ps) h
theorem script_fact (t t' : Tg) (ps : List Str) (h : scriptL t ps = some t') (hk : t.keys = []) (hv : t.vars = []) (hr : t.region = []) (hs : t.script = []) :
    ∃ sc rg vs ks, t' = { t with script := sc, region := rg, vars := srtS vs, keys := srtK ks } ∧ (sc = [] ∨ (isScript sc = true ∧ title sc = sc)) ∧ (rg = [] ∨ (isRegion rg = true ∧ upper rg = rg)) ∧ VarsOK vs ∧ KeysOK ks ∧ sz (opt sc ++ opt rg ++ vs ++ kuParts ks) ≤ sz ps := by
  have hnil : ∀ ps, regionL t ps = some t' → ∃ sc rg vs ks, t' = { t with script := sc, region := rg, vars := srtS vs, keys := srtK ks } ∧ (sc = [] ∨ (isScript sc = true ∧ title sc = sc)) ∧ (rg = [] ∨ (isRegion rg = true ∧ upper rg = rg)) ∧ VarsOK vs ∧ KeysOK ks ∧ sz (opt sc ++ opt rg ++ vs ++ kuParts ks) ≤ sz ps := by
    intro ps h
    obtain ⟨rg, vs, ks, h1, h2, h3, h4, h5⟩ := region_fact t t' ps h hk hv hr
    exact ⟨[], rg, vs, ks, by rw [h1, ← hs], Or.inl rfl, h2, h3, h4, by rw [opt_nil]; exact h5⟩
  cases ps with
  | nil => exact hnil [] h
  | cons x ps =>
    simp only [scriptL] at h
    by_cases hq : isScript x = true
    · rw [if_pos hq] at h
      obtain ⟨rg, vs, ks, h1, h2, h3, h4, h5⟩ := region_fact _ t' ps h hk hv hr
      refine ⟨title x, rg, vs, ks, h1, Or.inr ⟨by rw [isScript_title]; exact hq, title_title x⟩, h2, h3, h4, ?_⟩
      have := sz_opt (title x)
      rw [title_length] at this
      rw [List.append_assoc, List.append_assoc, sz_append, sz_cons, ← List.append_assoc]
      omega
    · rw [if_neg hq] at h
      exact hnil (x :: ps) h

structure Canon (t : Tg) : Prop where
  lang : t.lang = [] ∨ (isLang t.lang = true ∧ lower t.lang = t.lang ∧ t.lang ≠ tUnd)
  script : t.script = [] ∨ (isScript t.script = true ∧ title t.script = t.script)
  region : t.region = [] ∨ (isRegion t.region = true ∧ upper t.region = t.region)
  vars : VarsOK t.vars
  vsort : srtS t.vars = t.vars
  keys : KeysOK t.keys
  ksort : srtK t.keys = t.keys
def partsR (t : Tg) : List Str := headPart t.lang :: (opt t.script ++ opt t.region ++ t.vars ++ kuParts t.keys)
theorem sz_ku_perm {a b : List (Str × Str)} (h : a.Perm b) : sz (kuParts a) = sz (kuParts b) := by
  unfold kuParts
  rw [sz_append, sz_append, sz_perm (h.flatMap_right kparts)]
  congr 2
  unfold uPart
  have := h.length_eq
  by_cases ha : a = []
  · subst ha
    have hb : b = [] := List.eq_nil_of_length_eq_zero (by simpa using this.symm)
    rw [hb]
  · have hb : b ≠ [] := fun e => ha (List.eq_nil_of_length_eq_zero (by rw [this, e]; rfl))
    rw [if_neg ha, if_neg hb]
theorem parse_fact (t : Tg) (ps : List Str) (h : parseL ps = some t) : Canon t ∧ sz (partsR t) ≤ sz ps := by
  cases ps with
  | nil => cases h
  | cons x ps =>
    simp only [parseL] at h
    by_cases hq : isLang x = true
    · rw [if_pos hq] at h
      obtain ⟨sc, rg, vs, ks, h1, h2, h3, h4, h5, h6⟩ := script_fact _ t ps h rfl rfl rfl rfl
      subst h1
      refine ⟨⟨?_, h2, h3, h4.srt, srtS_srtS vs, h5.srt, srtK_srtK h5⟩, ?_⟩
      · show langOf x = [] ∨ _
        unfold langOf
        by_cases hu : lower x = tUnd
        · rw [if_pos hu]; exact Or.inl rfl
        · rw [if_neg hu]; exact Or.inr ⟨by rw [isLang_lower]; exact hq, lower_lower x, hu⟩
      · have hl : (headPart (langOf x)).length = x.length := by
          unfold langOf headPart
          by_cases hu : lower x = tUnd
          · rw [if_pos hu, if_pos rfl, ← hu, lower_length]
          · rw [if_neg hu, if_neg, lower_length]
            intro e
            have e2 := congrArg List.length e
            rw [lower_length] at e2
            have e3 := (lang_clean hq).2
            simp only [List.length_nil] at e2
            omega
        show sz (headPart (langOf x) :: (opt sc ++ opt rg ++ srtS vs ++ kuParts (srtK ks))) ≤ _
        rw [sz_cons, sz_cons, hl, sz_append, sz_append, sz_perm (srtS_perm vs), sz_ku_perm (srtK_perm ks)]
        rw [sz_append, sz_append] at h6
        omega
    · rw [if_neg hq] at h; cases h
end Go.Proofs.YtjlfchnnhglbjaaGreat
