/- Tags of texts that may be: they are checked, printed and named; no program in sight. -/
import Derived.Test.YtjlfchnnhglbjaaGreatCanonE
set_option linter.unusedVariables false
set_option linter.unusedSimpArgs false
namespace Go.Proofs.YtjlfchnnhglbjaaGreat

/-- a result that stands well: what is no error has no place, and what is wrong has no tag -/
def Fine (x : Res) : Prop := (x.err = 0 → x.pos = 0) ∧ (x.err ≠ 0 → x.tag = Tg.zero)
theorem fine_bad {e : Nat} {r : Rd} (h : e ≠ 0) : Fine (bad e r) := ⟨fun h2 => absurd h2 h, fun _ => rfl⟩
theorem fine_ok (t : Tg) : Fine ⟨t, 0, 0⟩ := ⟨fun _ => rfl, fun h => absurd rfl h⟩
theorem keys_fine : ∀ (n : Nat) (t : Tg) (r : Rd), 17 ≤ n + t.keys.length → t.keys.length ≤ 16 → Fine (keysF n t r)
  | 0, t, r, hn, hk => by omega
  | n + 1, t, r, hn, hk => by
    unfold keysF
    split
    · split
      · exact fine_bad (by decide)
      · split
        · exact fine_bad (by decide)
        · exact keys_fine n _ _ (by simp; omega) (by simp; omega)
    · split
      · exact fine_ok _
      · exact fine_bad (by decide)
theorem tail_fine (t : Tg) (r : Rd) (hk : t.keys = []) : Fine (tailF t r) := by
  unfold tailF
  split
  · exact fine_ok _
  · split
    · split
      · exact keys_fine 17 _ _ (by simp) (by simp [hk])
      · exact fine_bad (by decide)
    · exact fine_bad (by decide)
theorem vars_fine : ∀ (n : Nat) (t : Tg) (r : Rd), 9 ≤ n + t.vars.length → t.vars.length ≤ 8 → t.keys = [] → Fine (varsF n t r)
  | 0, t, r, hn, hk, _ => by omega
  | n + 1, t, r, hn, hk, h0 => by
    unfold varsF
    split
    · split
      · exact fine_bad (by decide)
      · split
        · exact fine_bad (by decide)
        · exact vars_fine n _ _ (by simp; omega) (by simp; omega) h0
    · exact tail_fine t r h0
theorem region_fine (t : Tg) (r : Rd) (h1 : t.vars = []) (h2 : t.keys = []) : Fine (regionF t r) := by
  unfold regionF
  split
  · exact vars_fine 9 _ _ (by simp) (by simp [h1]) h2
  · exact vars_fine 9 _ _ (by omega) (by simp [h1]) h2
theorem script_fine (t : Tg) (r : Rd) (h1 : t.vars = []) (h2 : t.keys = []) : Fine (scriptF t r) := by
  unfold scriptF
  split
  · exact region_fine _ _ h1 h2
  · exact region_fine _ _ h1 h2
theorem parse_fine (s : Str) : Fine (parseF s) := by
  unfold parseF
  split
  · exact ⟨fun h => by simp at h, fun _ => rfl⟩
  · split
    · exact fine_ok _
    · split
      · exact script_fine _ _ rfl rfl
      · exact fine_bad (by decide)

/-- a tag that may be -/
structure Good (t : Tg) : Prop where
  canon : Canon t
  short : sz (partsR t) ≤ 129
theorem srtK_nil : srtK [] = [] := by simp [srtK]
theorem srtS_nil : srtS [] = [] := by simp [srtS]
theorem canon_zero : Canon Tg.zero := ⟨Or.inl rfl, Or.inl rfl, Or.inl rfl, VarsOK.nil, srtS_nil, KeysOK.nil, srtK_nil⟩
theorem Good.zero : Good Tg.zero := ⟨canon_zero, by decide⟩
theorem Good.vars {t : Tg} (h : Good t) : t.vars.length ≤ 8 := h.canon.vars.2.2
theorem Good.keys {t : Tg} (h : Good t) : t.keys.length ≤ 16 := h.canon.keys.2.2
theorem Good.write {t : Tg} (h : Good t) : (writeF t).length ≤ 128 := by
  rw [write_R t h.canon]
  have := h.short
  have h2 := join_sz (headPart t.lang) (opt t.script ++ opt t.region ++ t.vars ++ kuParts t.keys)
  unfold partsR at this ⊢
  omega
theorem Good.bare {t : Tg} (h : Good t) : Good (bareT t) := by
  refine ⟨⟨h.canon.lang, h.canon.script, h.canon.region, h.canon.vars, h.canon.vsort, KeysOK.nil, srtK_nil⟩, ?_⟩
  have := h.short
  unfold partsR at this ⊢
  show sz (headPart t.lang :: (opt t.script ++ opt t.region ++ t.vars ++ kuParts [])) ≤ 129
  rw [sz_cons, sz_append] at *
  have : sz (kuParts []) = 0 := rfl
  omega
theorem good_of (s : Str) (h : (parseF s).err = 0) : Good (parseF s).tag := by
  have h1 := parse_L s
  unfold okR at h1
  rw [if_pos h] at h1
  by_cases h2 : 128 < s.length
  · rw [if_pos h2] at h1; cases h1
  · rw [if_neg h2] at h1
    by_cases h3 : lower s = tRoot
    · rw [if_pos h3] at h1
      rw [Option.some.inj h1]
      exact Good.zero
    · rw [if_neg h3] at h1
      obtain ⟨h4, h5⟩ := parse_fact _ _ h1.symm
      refine ⟨h4, ?_⟩
      by_cases hs : s = []
      · subst hs; cases h1
      · rw [subs_sz s hs] at h5
        omega
theorem not_root (p : Str) (ps : List Str) (h : isLang p = true) : ¬ lower (Lib.join (p :: ps) [45]) = tRoot := by
  intro he
  rw [join_jt] at he
  cases ps with
  | nil =>
    rw [jt_nil, List.append_nil] at he
    have h1 := (lang_clean h).2
    have h2 := congrArg List.length he
    rw [lower_length] at h2
    have : tRoot.length = 4 := rfl
    omega
  | cons q qs =>
    rw [jt_cons] at he
    have : (45 : UInt8) ∈ lower (p ++ 45 :: (q ++ jt qs)) := by
      unfold lower
      exact List.mem_map.2 ⟨45, by simp, by decide⟩
    rw [he] at this
    revert this
    decide
/-- a tag that may be, its keywords in any order, is read as itself -/
theorem good_read (t : Tg) (h : Good t) (ks : List (Str × Str)) (hp : ks.Perm t.keys) : parseF (Lib.join (partsK t ks) [45]) = ⟨t, 0, 0⟩ := by
  have hk : KeysOK ks := ⟨(hp.map _).nodup_iff.2 h.canon.keys.1, fun p hq => h.canon.keys.2.1 p (hp.mem_iff.1 hq), by rw [hp.length_eq]; exact h.canon.keys.2.2⟩
  have h1 := parse_L (Lib.join (partsK t ks) [45])
  have h2 := parts_back t h.canon ks hk
  have h3 : (Rd.first (Lib.join (partsK t ks) [45])).subs = partsK t ks := subs_join _ _ (head_ne _) (clean_K t h.canon ks hk.2.1)
  have h4 : (Lib.join (partsK t ks) [45]).length ≤ 128 := by
    have h5 := join_sz (headPart t.lang) (opt t.script ++ opt t.region ++ t.vars ++ kuParts ks)
    have h6 := h.short
    unfold partsR at h6
    unfold partsK
    rw [sz_cons, sz_append, sz_ku_perm hp] at h5
    rw [sz_cons, sz_append] at h6
    omega
  have h5 : ¬ lower (Lib.join (partsK t ks) [45]) = tRoot := by
    refine not_root _ _ ?_
    unfold headPart
    by_cases h0 : t.lang = []
    · rw [if_pos h0]; decide
    · rw [if_neg h0]; exact (h.canon.lang.resolve_left h0).1
  have h6 : srtK ks = t.keys := by
    rw [← h.canon.ksort]
    have hs := srtK_sorted t.keys
    exact (srtK_one ks (srtK t.keys) ((srtK_perm _).trans hp.symm) hk.1 hs).symm
  rw [if_neg (by omega), if_neg h5, h3, h2, h6] at h1
  have h7 := parse_fine (Lib.join (partsK t ks) [45])
  unfold okR at h1
  by_cases he : (parseF (Lib.join (partsK t ks) [45])).err = 0
  · rw [if_pos he] at h1
    have h8 := h7.1 he
    have h9 := Option.some.inj h1
    generalize parseF (Lib.join (partsK t ks) [45]) = x at *
    cases x
    simp only at *
    rw [he, h8, h9]
  · rw [if_neg he] at h1; cases h1
theorem good_back (t : Tg) (h : Good t) : parseF (writeF t) = ⟨t, 0, 0⟩ := by
  rw [write_R t h.canon]; exact good_read t h t.keys (List.Perm.refl _)
theorem good_check (t : Tg) (h : Good t) : checkF t = 0 := by
  unfold checkF
  rw [good_back t h, if_neg]
  simp [sameB_refl]
theorem good_print (t : Tg) (h : Good t) : printF t = (writeF t, 0) := by
  unfold printF; rw [if_pos (good_check t h)]
theorem good_name (t : Tg) (h : Good t) : nameF t = (nameOf (writeF (bareT t)), 0) := by
  unfold nameF; rw [if_pos (good_check t h)]; rfl
/-- the name of a tag is read as the tag without keywords -/
theorem good_nameRead (t : Tg) (h : Good t) : parseF (nameOf (writeF (bareT t))) = ⟨bareT t, 0, 0⟩ := by
  unfold nameOf
  by_cases hu : writeF (bareT t) = tUnd
  · rw [if_pos hu]
    have h1 := good_back _ h.bare
    have h2 := good_back _ Good.zero
    have h3 : writeF Tg.zero = tUnd := by decide
    rw [hu] at h1
    rw [h3, h1] at h2
    rw [h2]
    rfl
  · rw [if_neg hu]
    exact good_back _ h.bare

/-- what tag.Named hands back -/
def namedB (n : Str) : Bool := (parseF n).err == 0 && ((nameF (parseF n).tag).2 == 0 && (nameF (parseF n).tag).1 == n)
theorem good_named (t : Tg) (h : Good t) : namedB (nameOf (writeF (bareT t))) = true := by
  unfold namedB
  rw [good_nameRead t h, good_name _ h.bare]
  simp [bareT]
end Go.Proofs.YtjlfchnnhglbjaaGreat
