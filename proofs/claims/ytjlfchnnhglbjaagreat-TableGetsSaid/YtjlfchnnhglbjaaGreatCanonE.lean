/- A tag that tag.Parse yields is printed and read as itself: no program in sight. -/
import Derived.Test.YtjlfchnnhglbjaaGreatCanonD
set_option linter.unusedVariables false
set_option linter.unusedSimpArgs false
namespace Go.Proofs.YtjlfchnnhglbjaaGreat

/-- the subtags of a tag, its keywords in any order -/
def partsK (t : Tg) (ks : List (Str × Str)) : List Str := headPart t.lang :: (opt t.script ++ opt t.region ++ t.vars ++ kuParts ks)
theorem partsR_K (t : Tg) : partsR t = partsK t t.keys := rfl

theorem vparts_ok {v : Str} (h : ValOK v) : (∀ x ∈ vparts v, isType x = true) ∧ value ((vparts v).map lower) = v ∧ (v ≠ [] → jt (vparts v) = 45 :: v) := by
  obtain ⟨ts, h1, rfl⟩ := h
  have hm : ts.map lower = ts := by
    conv => rhs; rw [← List.map_id ts]
    exact List.map_congr_left fun x hx => (h1 x hx).2
  rw [vparts_value ts fun x hx => (h1 x hx).1]
  by_cases h0 : value ts = []
  · rw [if_pos h0]
    exact ⟨by simp, by rw [h0]; decide, fun h => absurd h0 h⟩
  · rw [if_neg h0, hm]
    refine ⟨fun x hx => (h1 x hx).1, rfl, fun _ => ?_⟩
    rcases value_cases ts with h2 | ⟨h2, h3, h4⟩
    · exact absurd h2 h0
    · rw [h2]
      cases ts with
      | nil => exact absurd rfl h3
      | cons x xs => rw [join_jt, jt_cons]
theorem jt_pair {p : Str × Str} (h : KeyOK p) : jt (pairParts p) = jt (kparts p) := by
  unfold pairParts kparts
  by_cases h0 : p.2 = []
  · rw [if_pos h0, h0]; rfl
  · rw [if_neg h0, jt_cons, jt_cons, jt_cons, jt_nil, (vparts_ok h.2.2).2.2 h0, List.append_nil]
theorem jt_pairs : ∀ (ks : List (Str × Str)), (∀ p ∈ ks, KeyOK p) → jt (ks.flatMap pairParts) = jt (ks.flatMap kparts)
  | [], _ => rfl
  | p :: ks, h => by
    rw [List.flatMap_cons, List.flatMap_cons, jt_append, jt_append, jt_pair (h p (List.mem_cons_self)), jt_pairs ks fun q hq => h q (List.mem_cons_of_mem _ hq)]
theorem full_vars : ∀ (l : List Str), (∀ v ∈ l, isVariant v = true ∧ lower v = v) → l.filter full = l := by
  intro l h
  refine List.filter_eq_self.2 fun v hv => ?_
  have := (variant_clean (h v hv).1).2.1
  unfold full
  cases v with
  | nil => simp at this
  | cons => rfl
theorem full_opt (s : Str) : [s].filter full = opt s := by
  unfold opt full
  cases s <;> rfl
theorem head_ne (l : Str) : headPart l ≠ [] := by
  unfold headPart
  split
  · decide
  · assumption
/-- a tag's print with its keywords in any order -/
theorem write_K (t : Tg) (h : Canon t) (ks : List (Str × Str)) (hk : ∀ p ∈ ks, KeyOK p) :
    Lib.join (partsA t ([t.script, t.region] ++ t.vars) ++ (uPart ks ++ ks.flatMap pairParts)) [45] = Lib.join (partsK t ks) [45] := by
  unfold partsA partsK kuParts
  rw [List.cons_append, join_jt, join_jt]
  congr 1
  rw [List.filter_append, full_vars _ h.vars.2.1, show [t.script, t.region] = [t.script] ++ [t.region] from rfl, List.filter_append, full_opt, full_opt]
  simp only [jt_append]
  rw [jt_pairs ks hk]
theorem write_R (t : Tg) (h : Canon t) : writeF t = Lib.join (partsR t) [45] := write_K t h t.keys h.keys.2.1

theorem clean_opt {s : Str} (h : s = [] ∨ clean s) : ∀ q ∈ opt s, clean q := by
  intro q hq
  unfold opt at hq
  split at hq
  · simp at hq
  · rw [List.mem_singleton.1 hq]
    exact h.resolve_left (by assumption)
theorem clean_kparts {p : Str × Str} (h : KeyOK p) : ∀ q ∈ kparts p, clean q := by
  intro q hq
  rcases List.mem_cons.1 hq with rfl | hq
  · exact (key_clean h.1).1
  · exact (type_clean ((vparts_ok h.2.2).1 q hq)).1
theorem clean_K (t : Tg) (h : Canon t) (ks : List (Str × Str)) (hk : ∀ p ∈ ks, KeyOK p) : ∀ q ∈ partsK t ks, clean q := by
  intro q hq
  unfold partsK kuParts at hq
  rcases List.mem_cons.1 hq with rfl | hq
  · unfold headPart
    by_cases h0 : t.lang = []
    · rw [if_pos h0]; unfold clean; decide
    · rw [if_neg h0]
      exact (lang_clean (h.lang.resolve_left h0).1).1
  · simp only [List.mem_append, List.mem_flatMap] at hq
    rcases hq with ((hq | hq) | hq) | (hq | ⟨p, hp, hq⟩)
    · exact clean_opt (h.script.imp id fun h => (script_clean h.1).1) q hq
    · exact clean_opt (h.region.imp id fun h => (region_clean h.1).1) q hq
    · exact (variant_clean (h.vars.2.1 q hq).1).1
    · unfold uPart at hq
      split at hq
      · simp at hq
      · rw [List.mem_singleton.1 hq]; unfold clean; decide
    · exact clean_kparts (hk p hp) q hq

/-! reading the subtags again -/
theorem key_not_type {l : Str} (h : isKey l = true) : isType l = false := by
  by_cases ht : isType l = true
  · have h1 := (type_clean ht).2.1
    have h2 := (key_clean h).2
    omega
  · simpa using ht
theorem takeWhile_app {p : Str → Bool} (a b : List Str) (ha : ∀ x ∈ a, p x = true) (hb : ∀ x ∈ b.head?, p x = false) : (a ++ b).takeWhile p = a ∧ (a ++ b).dropWhile p = b := by
  induction a with
  | nil =>
    cases b with
    | nil => exact ⟨rfl, rfl⟩
    | cons y b =>
      have := hb y rfl
      simp [List.takeWhile_cons, List.dropWhile_cons, this]
  | cons x a ih =>
    have h1 := ha x (List.mem_cons_self)
    obtain ⟨h2, h3⟩ := ih fun y hy => ha y (List.mem_cons_of_mem _ hy)
    simp [List.takeWhile_cons, List.dropWhile_cons, h1, h2, h3]
theorem keys_back : ∀ (n : Nat) (ks : List (Str × Str)) (t : Tg), KeysOK (t.keys ++ ks) → 17 ≤ n + t.keys.length → keysL n t (ks.flatMap kparts) = some { t with keys := srtK (t.keys ++ ks) }
  | 0, ks, t, h, hn => by have := h.2.2; simp at this; omega
  | n + 1, [], t, h, hn => by simp [keysL]
  | n + 1, p :: ks, t, h, hn => by
    have hp : KeyOK p := h.2.1 p (by simp)
    have hty := vparts_ok hp.2.2
    rw [List.flatMap_cons]
    show keysL (n + 1) t (p.1 :: (vparts p.2 ++ ks.flatMap kparts)) = _
    have hb : ∀ x ∈ (ks.flatMap kparts).head?, isType x = false := by
      cases ks with
      | nil => simp
      | cons q ks =>
        intro x hx
        rw [List.flatMap_cons] at hx
        have : q.1 = x := by simpa [kparts] using hx
        rw [← this]
        exact key_not_type (h.2.1 q (by simp)).1
    obtain ⟨h1, h2⟩ := takeWhile_app (vparts p.2) (ks.flatMap kparts) hty.1 hb
    simp only [keysL]
    have hd : ¬ (t.keys.any fun q => q.1 == lower p.1) = true := by
      intro hh
      obtain ⟨q, hq, he⟩ := List.any_eq_true.1 hh
      rw [hp.2.1] at he
      have hn1 := h.1
      rw [List.map_append, List.nodup_append] at hn1
      exact hn1.2.2 q.1 (List.mem_map.2 ⟨q, hq, rfl⟩) p.1 (by simp) (by simpa using he)
    have hl := h.2.2
    simp only [List.length_append, List.length_cons] at hl
    rw [if_pos hp.1, if_neg hd, if_neg (by omega), h1, h2, hty.2.1, hp.2.1]
    rw [keys_back n ks { t with keys := t.keys ++ [(p.1, p.2)] } (by simpa using h) (by simp; omega)]
    simp
theorem tail_back (ks : List (Str × Str)) (t : Tg) (hk : t.keys = []) (h : KeysOK ks) : tailL t (kuParts ks) = some { t with vars := srtS t.vars, keys := srtK ks } := by
  unfold kuParts uPart
  cases ks with
  | nil =>
    rw [if_pos rfl]
    simp only [List.flatMap_nil, List.append_nil, tailL]
    simp [srtK, hk]
  | cons p ks =>
    rw [if_neg (by simp), List.flatMap_cons]
    show tailL t ([117] :: (p.1 :: (vparts p.2 ++ ks.flatMap kparts))) = _
    simp only [tailL]
    rw [if_pos (by decide), if_pos (h.2.1 p (List.mem_cons_self)).1]
    have := keys_back 17 (p :: ks) { t with vars := srtS t.vars } (by simpa [hk] using h) (by simp)
    rw [List.flatMap_cons] at this
    refine Eq.trans this ?_
    simp [hk]
theorem ku_head (ks : List (Str × Str)) : ∀ x ∈ (kuParts ks).head?, x = [117] := by
  unfold kuParts uPart
  cases ks with
  | nil => simp
  | cons p ks => intro x hx; rw [if_neg (by simp)] at hx; simpa using hx.symm
theorem vars_skip (n : Nat) (t : Tg) (ps : List Str) (h : ∀ x ∈ ps.head?, isVariant x = false) : varsL (n + 1) t ps = tailL t ps := by
  cases ps with
  | nil => rfl
  | cons x ps => simp only [varsL]; rw [if_neg (by rw [h x rfl]; decide)]
theorem vars_back : ∀ (n : Nat) (vs : List Str) (ks : List (Str × Str)) (t : Tg), t.keys = [] → KeysOK ks → VarsOK (t.vars ++ vs) → 9 ≤ n + t.vars.length →
    varsL n t (vs ++ kuParts ks) = some { t with vars := srtS (t.vars ++ vs), keys := srtK ks }
  | 0, vs, ks, t, _, _, h, hn => by have := h.2.2; simp at this; omega
  | n + 1, [], ks, t, hk, h, hv, hn => by
    rw [List.nil_append, vars_skip n t _ (fun x hx => by rw [ku_head ks x hx]; decide), tail_back ks t hk h, List.append_nil]
  | n + 1, v :: vs, ks, t, hk, h, hv, hn => by
    have hp := hv.2.1 v (by simp)
    have hl := hv.2.2
    simp only [List.length_append, List.length_cons] at hl
    have hd : ¬ t.vars.contains (lower v) = true := by
      intro hh
      rw [hp.2] at hh
      have hn1 := hv.1
      rw [List.nodup_append] at hn1
      exact hn1.2.2 v (List.contains_iff_mem.1 hh) v (by simp) rfl
    rw [List.cons_append]
    simp only [varsL]
    rw [if_pos hp.1, if_neg hd, if_neg (by omega), hp.2]
    rw [vars_back n vs ks { t with vars := t.vars ++ [v] } hk h (by simpa using hv) (by simp; omega)]
    simp
theorem dig_let (c : UInt8) : digB c = true → letB c = false := all_bytes (p := fun c => digB c = true → letB c = false) (by decide +kernel) c
theorem variant_not_script {l : Str} (h : isVariant l = true) : isScript l = false := by
  by_cases hs : isScript l = true
  · have h4 := (script_clean hs).2
    unfold isVariant at h
    simp only [Bool.or_eq_true, Bool.and_eq_true] at h
    rcases h with h | h
    · have := (mixed_clean h).2.1; omega
    · exfalso
      cases l with
      | nil => simp at h4
      | cons c l =>
        have hc : digB c = true := by have := h.2; simpa [allB] using this
        unfold isScript lettersB allB at hs
        simp only [Bool.and_eq_true, List.all_cons] at hs
        rw [dig_let c hc] at hs
        simp at hs
  · simpa using hs
theorem variant_not_region {l : Str} (h : isVariant l = true) : isRegion l = false := by
  by_cases hs : isRegion l = true
  · have h4 := (region_clean hs).2
    have := (variant_clean h).2.1
    omega
  · simpa using hs
theorem region_not_script {l : Str} (h : isRegion l = true) : isScript l = false := by
  by_cases hs : isScript l = true
  · have h4 := (script_clean hs).2
    have := (region_clean h).2
    omega
  · simpa using hs
theorem vk_head (vs : List Str) (ks : List (Str × Str)) : ∀ x ∈ (vs ++ kuParts ks).head?, x ∈ vs ∨ x = [117] := by
  cases vs with
  | nil => intro x hx; exact Or.inr (ku_head ks x hx)
  | cons v vs => intro x hx; left; have : v = x := by simpa using hx
                 rw [← this]; simp
theorem region_back (rg : Str) (vs : List Str) (ks : List (Str × Str)) (t : Tg) (hr : rg = [] ∨ (isRegion rg = true ∧ upper rg = rg)) (h0 : t.region = []) (h1 : t.vars = []) (h2 : t.keys = []) (hk : KeysOK ks) (hv : VarsOK vs) :
    regionL t (opt rg ++ vs ++ kuParts ks) = some { t with region := rg, vars := srtS vs, keys := srtK ks } := by
  unfold opt
  by_cases hn : rg = []
  · rw [if_pos hn, List.nil_append]
    have hskip : regionL t (vs ++ kuParts ks) = varsL 9 t (vs ++ kuParts ks) := by
      have hh := vk_head vs ks
      cases hl : vs ++ kuParts ks with
      | nil => rfl
      | cons x ps =>
        rw [hl] at hh
        have : isRegion x = false := by
          rcases hh x rfl with h | h
          · exact variant_not_region (hv.2.1 x h).1
          · rw [h]; decide
        simp only [regionL]
        rw [if_neg (by rw [this]; decide)]
    rw [hskip, vars_back 9 vs ks t h2 hk (by rw [h1]; exact hv) (by omega), h1, hn, List.nil_append, ← h0]
  · rw [if_neg hn]
    have hr2 := hr.resolve_left hn
    show regionL t (rg :: (vs ++ kuParts ks)) = _
    simp only [regionL]
    rw [if_pos hr2.1, hr2.2, vars_back 9 vs ks { t with region := rg } h2 hk (by simp only [h1]; exact hv) (by simp)]
    simp [h1]
theorem script_back (sc rg : Str) (vs : List Str) (ks : List (Str × Str)) (t : Tg) (hs : sc = [] ∨ (isScript sc = true ∧ title sc = sc)) (hr : rg = [] ∨ (isRegion rg = true ∧ upper rg = rg)) (h3 : t.script = []) (h0 : t.region = []) (h1 : t.vars = []) (h2 : t.keys = []) (hk : KeysOK ks) (hv : VarsOK vs) :
    scriptL t (opt sc ++ opt rg ++ vs ++ kuParts ks) = some { t with script := sc, region := rg, vars := srtS vs, keys := srtK ks } := by
  by_cases hn : sc = []
  · rw [show opt sc = [] by rw [hn]; rfl, List.nil_append]
    have hskip : scriptL t (opt rg ++ vs ++ kuParts ks) = regionL t (opt rg ++ vs ++ kuParts ks) := by
      have hh : ∀ x ∈ (opt rg ++ vs ++ kuParts ks).head?, isScript x = false := by
        by_cases hg : rg = []
        · rw [show opt rg = [] by rw [hg]; rfl, List.nil_append]
          intro x hx
          rcases vk_head vs ks x hx with h | h
          · exact variant_not_script (hv.2.1 x h).1
          · rw [h]; decide
        · rw [show opt rg = [rg] by unfold opt; rw [if_neg hg]]
          intro x hx
          have : rg = x := by simpa using hx
          rw [← this]
          exact region_not_script (hr.resolve_left hg).1
      cases hl : opt rg ++ vs ++ kuParts ks with
      | nil => rfl
      | cons x ps =>
        rw [hl] at hh
        simp only [scriptL]
        rw [if_neg (by rw [hh x rfl]; decide)]
    rw [hskip, region_back rg vs ks t hr h0 h1 h2 hk hv, hn, ← h3]
  · rw [show opt sc = [sc] by unfold opt; rw [if_neg hn]]
    have hs2 := hs.resolve_left hn
    show scriptL t (sc :: (opt rg ++ vs ++ kuParts ks)) = _
    simp only [scriptL]
    rw [if_pos hs2.1, hs2.2, region_back rg vs ks { t with script := sc } hr h0 h1 h2 hk hv]
/-- the whole: a tag's subtags, its keywords in any order, are read as the tag -/
theorem parts_back (t : Tg) (h : Canon t) (ks : List (Str × Str)) (hk : KeysOK ks) : parseL (partsK t ks) = some { t with keys := srtK ks } := by
  unfold partsK
  simp only [parseL]
  have hl : isLang (headPart t.lang) = true ∧ langOf (headPart t.lang) = t.lang := by
    unfold headPart
    by_cases h0 : t.lang = []
    · rw [if_pos h0, h0]; decide
    · rw [if_neg h0]
      obtain ⟨h1, h2, h3⟩ := h.lang.resolve_left h0
      refine ⟨h1, ?_⟩
      unfold langOf
      rw [h2, if_neg h3]
  rw [if_pos hl.1, hl.2, script_back t.script t.region t.vars ks _ h.script h.region rfl rfl rfl rfl hk h.vars, h.vsort]
end Go.Proofs.YtjlfchnnhglbjaaGreat
