/- CanonF, ChainP, TableP, TbSt, App, TbRow, TbPut, TableQ -/
import Derived.Test.YtbbmdbolkicpcaaGreatDoorING04
import Derived.Test.YtbbmdbolkicpcaaGreatDoorING03
import Derived.Laws.AppendOwnNone
import Derived.Laws.OwnMore
import Derived.BigQuiet
set_option linter.unusedVariables false
set_option linter.unusedSimpArgs false
namespace Go.Proofs.YtbbmdbolkicpcaaGreatDoor
def Fine (x : Res) : Prop := (x.err = 0 → x.pos = 0) ∧ (x.err ≠ 0 → x.tag = Tg.zero)
theorem fine_bad {e : Nat} {r : Rd} (h : e ≠ 0) : Fine (bad e r) := ⟨fun h2 => absurd h2 h, fun _ => rfl⟩
theorem fine_ok (t : Tg) : Fine ⟨t, 0, 0⟩ := ⟨fun _ => rfl, fun h => absurd rfl h⟩
theorem keys_fine : ∀ (n : Nat) (t : Tg) (r : Rd), 17 ≤ n + t.keys.length → t.keys.length ≤ 16 → Fine (keysF n t r)
 | 0, t, r, hn, hk => by omega
 | n + 1, t, r, hn, hk => by
  unfold keysF
  split
  ·split
   ·exact fine_bad (by decide)
   ·split
    ·exact fine_bad (by decide)
    ·exact keys_fine n _ _ (by simp; omega) (by simp; omega)
  ·split
   ·exact fine_ok _
   ·exact fine_bad (by decide)
theorem tail_fine (t : Tg) (r : Rd) (hk : t.keys = []) : Fine (tailF t r) := by
 unfold tailF
 split
 ·exact fine_ok _
 ·split
  ·split
   ·exact keys_fine 17 _ _ (by simp) (by simp [hk])
   ·exact fine_bad (by decide)
  ·exact fine_bad (by decide)
theorem vars_fine : ∀ (n : Nat) (t : Tg) (r : Rd), 9 ≤ n + t.vars.length → t.vars.length ≤ 8 → t.keys = [] → Fine (varsF n t r)
 | 0, t, r, hn, hk, _ => by omega
 | n + 1, t, r, hn, hk, h0 => by
  unfold varsF
  split
  ·split
   ·exact fine_bad (by decide)
   ·split
    ·exact fine_bad (by decide)
    ·exact vars_fine n _ _ (by simp; omega) (by simp; omega) h0
  ·exact tail_fine t r h0
theorem region_fine (t : Tg) (r : Rd) (h1 : t.vars = []) (h2 : t.keys = []) : Fine (regionF t r) := by
 unfold regionF
 split
 ·exact vars_fine 9 _ _ (by simp) (by simp [h1]) h2
 ·exact vars_fine 9 _ _ (by omega) (by simp [h1]) h2
theorem script_fine (t : Tg) (r : Rd) (h1 : t.vars = []) (h2 : t.keys = []) : Fine (scriptF t r) := by
 unfold scriptF
 split
 ·exact region_fine _ _ h1 h2
 ·exact region_fine _ _ h1 h2
theorem parse_fine (s : Str) : Fine (parseF s) := by
 unfold parseF
 split
 ·exact ⟨fun h => by simp at h, fun _ => rfl⟩
 ·split
  ·exact fine_ok _
  ·split
   ·exact script_fine _ _ rfl rfl
   ·exact fine_bad (by decide)
structure Good (t : Tg) : Prop where
 canon : Canon t
 short : sz (partsR t) ≤ 129
theorem srtK_nil : srtK [] = [] := by simp [srtK]
theorem srtS_nil : srtS [] = [] := by simp [srtS]
theorem canon_zero : Canon Tg.zero := ⟨Or.inl rfl, Or.inl rfl, Or.inl rfl, VarsOK.nil, srtS_nil, KeysOK.nil, srtK_nil⟩
theorem Good.zero : Good Tg.zero := ⟨canon_zero, by decide⟩
theorem Good.vars {t : Tg} (h : Good t) : t.vars.length ≤ 8 := h.canon.vars.2.2
theorem Good.keys {t : Tg} (h : Good t) : t.keys.length ≤ 16 := h.canon.keys.2.2
theorem Good.write {t : Tg} (h : Good t) : (writeF t).length ≤ 128 := by
 rw [write_R t h.canon]
 have := h.short
 have h2 := join_sz (headPart t.lang) (opt t.script ++ opt t.region ++ t.vars ++ kuParts t.keys)
 unfold partsR at this ⊢
 omega
theorem Good.bare {t : Tg} (h : Good t) : Good (bareT t) := by
 refine ⟨⟨h.canon.lang, h.canon.script, h.canon.region, h.canon.vars, h.canon.vsort, KeysOK.nil, srtK_nil⟩, ?_⟩
 have := h.short
 unfold partsR at this ⊢
 show sz (headPart t.lang :: (opt t.script ++ opt t.region ++ t.vars ++ kuParts [])) ≤ 129
 rw [sz_cons, sz_append] at *
 have : sz (kuParts []) = 0 := rfl
 omega
theorem good_of (s : Str) (h : (parseF s).err = 0) : Good (parseF s).tag := by
 have h1 := parse_L s
 unfold okR at h1
 rw [if_pos h] at h1
 by_cases h2 : 128 < s.length
 ·rw [if_pos h2] at h1; cases h1
 ·rw [if_neg h2] at h1
  by_cases h3 : lower s = tRoot
  ·rw [if_pos h3] at h1
   rw [Option.some.inj h1]
   exact Good.zero
  ·rw [if_neg h3] at h1
   obtain ⟨h4, h5⟩ := parse_fact _ _ h1.symm
   refine ⟨h4, ?_⟩
   by_cases hs : s = []
   ·subst hs; cases h1
   ·rw [subs_sz s hs] at h5
    omega
theorem not_root (p : Str) (ps : List Str) (h : isLang p = true) : ¬ lower (Lib.join (p :: ps) [45]) = tRoot := by
 intro he
 rw [join_jt] at he
 cases ps with
 | nil =>
  rw [jt_nil, List.append_nil] at he
  have h1 := (lang_clean h).2
  have h2 := congrArg List.length he
  rw [lower_length] at h2
  have : tRoot.length = 4 := rfl
  omega
 | cons q qs =>
  rw [jt_cons] at he
  have : (45 : UInt8) ∈ lower (p ++ 45 :: (q ++ jt qs)) := by
   unfold lower
   exact List.mem_map.2 ⟨45, by simp, by decide⟩
  rw [he] at this
  revert this
  decide
theorem good_read (t : Tg) (h : Good t) (ks : List (Str × Str)) (hp : ks.Perm t.keys) : parseF (Lib.join (partsK t ks) [45]) = ⟨t, 0, 0⟩ := by
 have hk : KeysOK ks := ⟨(hp.map _).nodup_iff.2 h.canon.keys.1, fun p hq => h.canon.keys.2.1 p (hp.mem_iff.1 hq), by rw [hp.length_eq]; exact h.canon.keys.2.2⟩
 have h1 := parse_L (Lib.join (partsK t ks) [45])
 have h2 := parts_back t h.canon ks hk
 have h3 : (Rd.first (Lib.join (partsK t ks) [45])).subs = partsK t ks := subs_join _ _ (head_ne _) (clean_K t h.canon ks hk.2.1)
 have h4 : (Lib.join (partsK t ks) [45]).length ≤ 128 := by
  have h5 := join_sz (headPart t.lang) (opt t.script ++ opt t.region ++ t.vars ++ kuParts ks)
  have h6 := h.short
  unfold partsR at h6
  unfold partsK
  rw [sz_cons, sz_append, sz_ku_perm hp] at h5
  rw [sz_cons, sz_append] at h6
  omega
 have h5 : ¬ lower (Lib.join (partsK t ks) [45]) = tRoot := by
  refine not_root _ _ ?_
  unfold headPart
  by_cases h0 : t.lang = []
  ·rw [if_pos h0]; decide
  ·rw [if_neg h0]; exact (h.canon.lang.resolve_left h0).1
 have h6 : srtK ks = t.keys := by
  rw [← h.canon.ksort]
  have hs := srtK_sorted t.keys
  exact (srtK_one ks (srtK t.keys) ((srtK_perm _).trans hp.symm) hk.1 hs).symm
 rw [if_neg (by omega), if_neg h5, h3, h2, h6] at h1
 have h7 := parse_fine (Lib.join (partsK t ks) [45])
 unfold okR at h1
 by_cases he : (parseF (Lib.join (partsK t ks) [45])).err = 0
 ·rw [if_pos he] at h1
  have h8 := h7.1 he
  have h9 := Option.some.inj h1
  generalize parseF (Lib.join (partsK t ks) [45]) = x at *
  cases x
  simp only at *
  rw [he, h8, h9]
 ·rw [if_neg he] at h1; cases h1
theorem good_back (t : Tg) (h : Good t) : parseF (writeF t) = ⟨t, 0, 0⟩ := by
 rw [write_R t h.canon]; exact good_read t h t.keys (List.Perm.refl _)
theorem good_check (t : Tg) (h : Good t) : checkF t = 0 := by
 unfold checkF
 rw [good_back t h, if_neg]
 simp [sameB_refl]
theorem good_name (t : Tg) (h : Good t) : nameF t = (nameOf (writeF (bareT t)), 0) := by
 unfold nameF; rw [if_pos (good_check t h)]; rfl
theorem good_nameRead (t : Tg) (h : Good t) : parseF (nameOf (writeF (bareT t))) = ⟨bareT t, 0, 0⟩ := by
 unfold nameOf
 by_cases hu : writeF (bareT t) = tUnd
 ·rw [if_pos hu]
  have h1 := good_back _ h.bare
  have h2 := good_back _ Good.zero
  have h3 : writeF Tg.zero = tUnd := by decide
  rw [hu] at h1
  rw [h3, h1] at h2
  rw [h2]
  rfl
 ·rw [if_neg hu]
  exact good_back _ h.bare
def namedB (n : Str) : Bool := (parseF n).err == 0 && ((nameF (parseF n).tag).2 == 0 && (nameF (parseF n).tag).1 == n)
theorem good_named (t : Tg) (h : Good t) : namedB (nameOf (writeF (bareT t))) = true := by
 unfold namedB
 rw [good_nameRead t h, good_name _ h.bare]
 simp [bareT]
end Go.Proofs.YtbbmdbolkicpcaaGreatDoor
namespace Go.Proofs.YtbbmdbolkicpcaaGreatDoor
def plainT (t : Tg) : Tg :=
 if t.vars ≠ [] then { t with vars := t.vars.take (t.vars.length - 1) } else if t.region ≠ [] then { t with region := [] } else if t.script ≠ [] then { t with script := [] } else { t with lang := [] }
def lack (s : Str) : Nat := if s = [] then 0 else 1
def depth (t : Tg) : Nat := t.vars.length + (lack t.region + (lack t.script + lack t.lang))
def tagOf (s : Str) : Tg := (parseF s).tag
def depthS (s : Str) : Nat := depth (tagOf s)
def plainF (s : Str) : Str × Bool := if namedB s = true ∧ s ≠ tRoot then ((nameF (plainT (tagOf s))).1, (nameF (plainT (tagOf s))).2 == 0) else ([], false)
theorem named_facts {s : Str} (h : namedB s = true) : (parseF s).err = 0 ∧ Good (tagOf s) ∧ (tagOf s).keys = [] ∧ nameOf (writeF (tagOf s)) = s := by
 unfold namedB at h
 rw [Bool.and_eq_true, Bool.and_eq_true, beq_iff_eq, beq_iff_eq, beq_iff_eq] at h
 obtain ⟨h1, h2, h3⟩ := h
 have hg := good_of s h1
 rw [good_name _ hg] at h3
 simp only at h3
 have h4 := good_nameRead _ hg
 rw [h3] at h4
 have h5 : tagOf s = bareT (tagOf s) := by
  show (parseF s).tag = bareT (parseF s).tag
  have := congrArg Res.tag h4
  exact this
 refine ⟨h1, hg, by rw [h5]; rfl, ?_⟩
 rw [h5]
 exact h3
theorem good_lang {t : Tg} (h : Good t) (hk : t.keys = []) (hs : t.script = []) (hr : t.region = []) (hv : t.vars = []) : Good { t with lang := [] } := by
 refine ⟨⟨Or.inl rfl, h.canon.script, h.canon.region, h.canon.vars, h.canon.vsort, h.canon.keys, h.canon.ksort⟩, ?_⟩
 unfold partsR
 simp only [hk, hs, hr, hv, opt_nil]
 decide
theorem good_plainT {t : Tg} (h : Good t) (hk : t.keys = []) : Good (plainT t) ∧ (plainT t).keys = [] := by
 have hp := h.short
 unfold partsR at hp
 rw [sz_cons, sz_append, sz_append, sz_append] at hp
 unfold plainT
 by_cases h1 : t.vars = []
 ·rw [if_neg (by simp [h1])]
  by_cases h2 : t.region = []
  ·rw [if_neg (by simp [h2])]
   by_cases h3 : t.script = []
   ·rw [if_neg (by simp [h3])]
    exact ⟨good_lang h hk h3 h2 h1, hk⟩
   ·rw [if_pos h3]
    refine ⟨⟨⟨h.canon.lang, Or.inl rfl, h.canon.region, h.canon.vars, h.canon.vsort, h.canon.keys, h.canon.ksort⟩, ?_⟩, hk⟩
    unfold partsR
    rw [sz_cons, sz_append, sz_append, sz_append]
    simp only [opt_nil, sz_nil]
    omega
  ·rw [if_pos h2]
   refine ⟨⟨⟨h.canon.lang, h.canon.script, Or.inl rfl, h.canon.vars, h.canon.vsort, h.canon.keys, h.canon.ksort⟩, ?_⟩, hk⟩
   unfold partsR
   rw [sz_cons, sz_append, sz_append, sz_append]
   simp only [opt_nil, sz_nil]
   omega
 ·rw [if_pos h1]
  have hd := List.take_append_drop (t.vars.length - 1) t.vars
  have hz : sz (t.vars.take (t.vars.length - 1)) ≤ sz t.vars := by
   conv => rhs; rw [← hd, sz_append]
   omega
  have hv := h.canon.vars
  have hs : srtS (t.vars.take (t.vars.length - 1)) = t.vars.take (t.vars.length - 1) := by
   have h5 := srtS_sorted t.vars
   rw [h.canon.vsort] at h5
   exact List.mergeSort_of_pairwise (h5.sublist (List.take_sublist _ _))
  refine ⟨⟨⟨h.canon.lang, h.canon.script, h.canon.region, ⟨hv.1.sublist (List.take_sublist _ _), fun v hm => hv.2.1 v (List.mem_of_mem_take hm), ?_⟩, hs, h.canon.keys, h.canon.ksort⟩, ?_⟩, hk⟩
  ·have := hv.2.2; rw [List.length_take]; omega
  ·unfold partsR
   rw [sz_cons, sz_append, sz_append, sz_append]
   simp only
   omega
theorem lack_pos {s : Str} (h : s ≠ []) : lack s = 1 := if_neg h
theorem lack_nil : lack [] = 0 := rfl
theorem depth_plainT {t : Tg} (h : depth t ≠ 0) : depth (plainT t) + 1 = depth t := by
 unfold plainT
 by_cases h1 : t.vars = []
 ·rw [if_neg (by simp [h1])]
  by_cases h2 : t.region = []
  ·rw [if_neg (by simp [h2])]
   by_cases h3 : t.script = []
   ·rw [if_neg (by simp [h3])]
    unfold depth at h ⊢
    simp only [h1, h2, h3, lack_nil, List.length_nil] at h ⊢
    by_cases h4 : t.lang = []
    ·rw [h4] at h; exact absurd rfl h
    ·rw [lack_pos h4]
   ·rw [if_pos h3]
    unfold depth
    simp only [lack_nil, lack_pos h3]
    omega
  ·rw [if_pos h2]
   unfold depth
   simp only [lack_nil, lack_pos h2]
   omega
 ·rw [if_pos h1]
  have : 0 < t.vars.length := List.length_pos_iff.2 h1
  unfold depth
  simp only [List.length_take]
  omega
theorem depth_zero {t : Tg} (h : depth t = 0) (hk : t.keys = []) : t = Tg.zero := by
  unfold depth at h
  have h1 : t.vars = [] := List.length_eq_zero_iff.1 (by omega)
  have h2 : t.region = [] := by by_cases e : t.region = []; · exact e
                                · rw [lack_pos e] at h; omega
  have h3 : t.script = [] := by by_cases e : t.script = []; · exact e
                                · rw [lack_pos e] at h; omega
  have h4 : t.lang = [] := by by_cases e : t.lang = []; · exact e
                              · rw [lack_pos e] at h; omega
  cases t
  simp only at *
  subst h1; subst h2; subst h3; subst h4; subst hk; rfl
theorem depth_le {s : Str} (h : namedB s = true) : depthS s ≤ 11 := by
 have := (named_facts h).2.1.vars
 have hl : ∀ x : Str, lack x ≤ 1 := fun x => by unfold lack; split <;> omega
 have h1 := hl (tagOf s).region
 have h2 := hl (tagOf s).script
 have h3 := hl (tagOf s).lang
 unfold depthS depth
 omega
theorem root_name : nameOf (writeF (bareT Tg.zero)) = tRoot := by decide
theorem named_root : namedB tRoot = true := by rw [← root_name]; exact good_named _ Good.zero
theorem depth_root {s : Str} (h : namedB s = true) (hd : depthS s = 0) : s = tRoot := by
 obtain ⟨_, _, hk, hn⟩ := named_facts h
 rw [depth_zero hd hk] at hn
 rw [← hn]; exact root_name
theorem plain_ok {s : Str} (h : namedB s = true) (hr : s ≠ tRoot) : ∃ p, plainF s = (p, true) ∧ namedB p = true ∧ depthS p + 1 = depthS s := by
 obtain ⟨_, hg, hk, hn⟩ := named_facts h
 obtain ⟨hg2, hk2⟩ := good_plainT hg hk
 refine ⟨nameOf (writeF (bareT (plainT (tagOf s)))), ?_, good_named _ hg2, ?_⟩
 ·unfold plainF
  rw [if_pos ⟨h, hr⟩, good_name _ hg2]; rfl
 ·have hq : tagOf (nameOf (writeF (bareT (plainT (tagOf s))))) = bareT (plainT (tagOf s)) := congrArg Res.tag (good_nameRead _ hg2)
  unfold depthS
  rw [hq]
  have hd : depth (tagOf s) ≠ 0 := fun e => hr (depth_root h e)
  have := depth_plainT hd
  rw [← this]; rfl
theorem plain_no {s : Str} (h : ¬ (namedB s = true ∧ s ≠ tRoot)) : plainF s = ([], false) := by unfold plainF; rw [if_neg h]
def look : List (Str × Str) → Str → Option Str
 | [], _ => none
 | p :: l, k => if p.1 = k then some p.2 else look l k
theorem look_mem {l : List (Str × Str)} {k v : Str} (h : look l k = some v) : (k, v) ∈ l := by
 induction l with
 | nil => cases h
 | cons p l ih =>
  unfold look at h
  split at h
  ·rename_i hk
   subst hk
   cases h
   exact List.mem_cons_self
  ·exact List.mem_cons_of_mem _ (ih h)
theorem look_append (l m : List (Str × Str)) (k : Str) : look (l ++ m) k = (look l k).or (look m k) := by
 induction l with
 | nil => simp [look]
 | cons p l ih => rw [List.cons_append, look, look]; split <;> simp_all
def parentF (D : List (Str × Str)) (s : Str) : Str × Bool := match look D s with
 | some p => (p, true)
 | none => plainF s
def stepF (D : List (Str × Str)) (s : Str) : Option Str := if (parentF D s).2 = true then some (parentF D s).1 else none
def iter (D : List (Str × Str)) : Nat → Str → Option Str
 | 0, s => some s
 | n + 1, s => (iter D n s).bind (stepF D)
theorem iter_add (D : List (Str × Str)) (m n : Nat) (s : Str) : iter D (m + n) s = (iter D m s).bind (iter D n) := by
 induction n with
 | zero => simp [iter]
 | succ n ih => rw [← Nat.add_assoc, iter, ih]; cases iter D m s <;> simp [iter]
def saidOK (D : List (Str × Str)) : Prop := ∀ p ∈ D, namedB p.1 = true ∧ namedB p.2 = true ∧ p.1 ≠ tRoot
theorem step_named {D : List (Str × Str)} (hD : saidOK D) {s t : Str} (h : stepF D s = some t) : namedB t = true := by
 unfold stepF parentF at h
 cases hl : look D s with
 | some p => rw [hl] at h; simp at h; subst h; exact (hD _ (look_mem hl)).2.1
 | none =>
  rw [hl] at h
  simp only at h
  by_cases hp : namedB s = true ∧ s ≠ tRoot
  ·obtain ⟨p, h1, h2, _⟩ := plain_ok hp.1 hp.2
   rw [h1] at h
   simp at h
   subst h; exact h2
  ·rw [plain_no hp] at h; simp at h
theorem step_some {D : List (Str × Str)} (hD : saidOK D) {s : Str} (h : namedB s = true) (hr : s ≠ tRoot) : ∃ t, stepF D s = some t := by
 unfold stepF parentF
 cases hl : look D s with
 | some p => exact ⟨p, rfl⟩
 | none =>
  obtain ⟨p, h1, _⟩ := plain_ok h hr
  exact ⟨p, by simp only; rw [h1]; rfl⟩
theorem step_depth {D : List (Str × Str)} {s t : Str} (hl : look D s = none) (h : stepF D s = some t) : depthS t + 1 = depthS s := by
 unfold stepF parentF at h
 rw [hl] at h
 simp only at h
 by_cases hp : namedB s = true ∧ s ≠ tRoot
 ·obtain ⟨p, h1, _, h3⟩ := plain_ok hp.1 hp.2
  rw [h1] at h
  simp at h
  subst h; exact h3
 ·rw [plain_no hp] at h; simp at h
def tower : Nat → Str → List Str
 | 0, s => [s]
 | n + 1, s => s :: (if (plainF s).2 = true then tower n (plainF s).1 else [])
theorem tower_self (n : Nat) (s : Str) : s ∈ tower n s := by cases n <;> simp [tower]
theorem tower_len : ∀ (n : Nat) (s : Str), (tower n s).length ≤ n + 1
 | 0, s => by simp [tower]
 | n + 1, s => by
  rw [tower, List.length_cons]
  split
  ·have := tower_len n (plainF s).1; omega
  ·simp
theorem tower_step : ∀ (n : Nat) (s x : Str), namedB s = true → depthS s ≤ n → x ∈ tower n s → (plainF x).2 = true → (plainF x).1 ∈ tower n s
 | 0, s, x, hs, hd, hx, hp => by
  simp [tower] at hx
  subst hx
  rw [plain_no (fun h => h.2 (depth_root hs (by omega)))] at hp
  cases hp
 | n + 1, s, x, hs, hd, hx, hp => by
  rw [tower] at hx ⊢
  by_cases h : namedB s = true ∧ s ≠ tRoot
  ·obtain ⟨p, h1, h2, h3⟩ := plain_ok h.1 h.2
   rw [h1] at hx ⊢
   simp only [if_true] at hx ⊢
   rcases List.mem_cons.1 hx with rfl | hx
   ·rw [h1]; exact List.mem_cons_of_mem _ (tower_self _ _)
   ·exact List.mem_cons_of_mem _ (tower_step n p x h2 (by omega) hx hp)
  ·rw [plain_no h] at hx ⊢
   simp at hx
   subst hx
   rw [plain_no h] at hp
   cases hp
def reach (D : List (Str × Str)) (s : Str) : List Str := (s :: D.map (·.2)).flatMap (tower 11)
theorem reach_len (D : List (Str × Str)) (s : Str) : (reach D s).length ≤ 12 * (D.length + 1) := by
 unfold reach
 have h : ∀ l : List Str, (l.flatMap (tower 11)).length ≤ 12 * l.length := by
  intro l
  induction l with
  | nil => simp
  | cons x l ih => rw [List.flatMap_cons, List.length_append, List.length_cons]; have := tower_len 11 x; omega
 have := h (s :: D.map (·.2))
 simpa using this
theorem reach_self (D : List (Str × Str)) (s : Str) : s ∈ reach D s := by
 unfold reach; rw [List.flatMap_cons]; exact List.mem_append_left _ (tower_self _ _)
theorem reach_step {D : List (Str × Str)} (hD : saidOK D) {s x y : Str} (hs : namedB s = true) (hx : x ∈ reach D s) (h : stepF D x = some y) : y ∈ reach D s := by
 unfold reach at hx ⊢
 unfold stepF parentF at h
 cases hl : look D x with
 | some p =>
  rw [hl] at h
  simp at h
  subst h
  refine List.mem_flatMap.2 ⟨p, List.mem_cons_of_mem _ (List.mem_map.2 ⟨_, look_mem hl, rfl⟩), tower_self _ _⟩
 | none =>
  rw [hl] at h
  simp only at h
  split at h
  ·rename_i hp
   cases h
   obtain ⟨z, hz, hx2⟩ := List.mem_flatMap.1 hx
   have hzn : namedB z = true := by
    rcases List.mem_cons.1 hz with rfl | hz
    ·exact hs
    ·obtain ⟨q, hq, rfl⟩ := List.mem_map.1 hz
     exact (hD q hq).2.1
   exact List.mem_flatMap.2 ⟨z, hz, tower_step 11 z x hzn (depth_le hzn) hx2 hp⟩
  ·cases h
theorem iter_reach {D : List (Str × Str)} (hD : saidOK D) {s : Str} (hs : namedB s = true) : ∀ (n : Nat) (x : Str), iter D n s = some x → x ∈ reach D s
 | 0, x, h => by cases h; exact reach_self D s
 | n + 1, x, h => by
  rw [iter, Option.bind_eq_some_iff] at h
  obtain ⟨y, h1, h2⟩ := h
  exact reach_step hD hs (iter_reach hD hs n y h1) h2
theorem iter_named {D : List (Str × Str)} (hD : saidOK D) {s : Str} (hs : namedB s = true) : ∀ (n : Nat) (x : Str), iter D n s = some x → namedB x = true
 | 0, x, h => by cases h; exact hs
 | n + 1, x, h => by
  rw [iter, Option.bind_eq_some_iff] at h
  obtain ⟨y, h1, h2⟩ := h
  exact step_named hD h2
theorem nodup_le : ∀ (l R : List Str), l.Nodup → (∀ x ∈ l, x ∈ R) → l.length ≤ R.length
 | [], R, _, _ => Nat.zero_le _
 | x :: l, R, hn, hs => by
  rw [List.nodup_cons] at hn
  have hx := hs x List.mem_cons_self
  have h2 := nodup_le l (R.erase x) hn.2 fun y hy => (List.mem_erase_of_ne (fun e => hn.1 (by rw [← e]; exact hy))).2 (hs y (List.mem_cons_of_mem _ hy))
  rw [List.length_erase_of_mem hx] at h2
  have : 0 < R.length := List.length_pos_of_mem hx
  rw [List.length_cons]; omega
theorem twice (f : Nat → Str) (R : List Str) (h : ∀ n, f n ∈ R) : ∃ i p, f (i + (p + 1)) = f i := by
 by_cases hc : ((List.range (R.length + 1)).map f).Nodup
 ·have := nodup_le _ R hc (fun x hx => by obtain ⟨i, _, rfl⟩ := List.mem_map.1 hx; exact h i)
  simp at this
  omega
 ·by_cases hall : ∀ i j, i < j → f j ≠ f i
  ·exfalso
   apply hc
   have : List.Pairwise (fun a b : Nat => a < b) (List.range (R.length + 1)) := List.pairwise_lt_range
   exact List.Pairwise.map f (fun a b hab => Ne.symm (hall a b hab)) this
  ·have : ∃ i j, i < j ∧ f j = f i := by
    apply Classical.byContradiction
    intro hn
    exact hall fun i j hij he => hn ⟨i, j, hij, he⟩
   obtain ⟨i, j, hij, he⟩ := this
   exact ⟨i, j - i - 1, by rw [show i + (j - i - 1 + 1) = j by omega]; exact he⟩
def ringP (D : List (Str × Str)) (k : Str) : Prop := ∃ n, iter D (n + 1) k = some k
theorem ends {D : List (Str × Str)} (hD : saidOK D) (hr : ∀ p ∈ D, ¬ ringP D p.1) {s : Str} (hs : namedB s = true) : ∃ n, iter D n s = some tRoot := by
 apply Classical.byContradiction
 intro hn
 have hno : ∀ n, iter D n s ≠ some tRoot := fun n e => hn ⟨n, e⟩
 have hall : ∀ n, ∃ x, iter D n s = some x := by
  intro n
  induction n with
  | zero => exact ⟨s, rfl⟩
  | succ n ih =>
   obtain ⟨x, hx⟩ := ih
   have hxr : x ≠ tRoot := fun e => hno n (by rw [hx, e])
   obtain ⟨t, ht⟩ := step_some hD (iter_named hD hs n x hx) hxr
   exact ⟨t, by rw [iter, hx]; exact ht⟩
 obtain ⟨f, hf⟩ : ∃ f : Nat → Str, ∀ n, iter D n s = some (f n) := ⟨fun n => (hall n).choose, fun n => (hall n).choose_spec⟩
 obtain ⟨i, p, hip⟩ := twice f (reach D s) (fun n => iter_reach hD hs n _ (hf n))
 have hgo : ∀ m n, iter D n (f m) = some (f (m + n)) := fun m n => by
  have := iter_add D m n s
  rw [hf, hf] at this
  exact this.symm
 by_cases hc : ∃ q v, look D (f (i + q)) = some v
 ·obtain ⟨q, v, hq⟩ := hc
  refine hr _ (look_mem hq) ⟨p, ?_⟩
  show iter D (p + 1) (f (i + q)) = some (f (i + q))
  rw [hgo]
  have h1 := hgo (i + (p + 1)) q
  rw [hip, hgo] at h1
  rw [show i + q + (p + 1) = i + (p + 1) + q by omega]
  exact h1.symm
 ·have hlook : ∀ q, look D (f (i + q)) = none := by
   intro q
   cases h : look D (f (i + q)) with
   | none => rfl
   | some v => exact absurd ⟨q, v, h⟩ hc
  have hd : ∀ q, depthS (f (i + q)) + q = depthS (f i) := by
   intro q
   induction q with
   | zero => rfl
   | succ q ih =>
    have h1 := hgo (i + q) 1
    have h2 : stepF D (f (i + q)) = some (f (i + q + 1)) := by simpa [iter] using h1
    have h3 := step_depth (hlook q) h2
    have h4 : depthS (f (i + (q + 1))) = depthS (f (i + q + 1)) := rfl
    omega
  have := hd (p + 1)
  rw [hip] at this
  omega
def Up (D : List (Str × Str)) : Str → List Str → Prop
 | _, [] => False
 | s, [x] => x = s ∧ s = tRoot
 | s, x :: y :: l => x = s ∧ s ≠ tRoot ∧ stepF D s = some y ∧ Up D y (y :: l)
theorem up_root (D : List (Str × Str)) : Up D tRoot [tRoot] := ⟨rfl, rfl⟩
theorem up_head {D : List (Str × Str)} : ∀ {l : List Str} {s : Str}, Up D s l → ∃ r, l = s :: r
 | [], _, h => h.elim
 | [x], s, h => ⟨[], by rw [h.1]⟩
 | x :: y :: l, s, h => ⟨y :: l, by rw [h.1]⟩
theorem up_cons {D : List (Str × Str)} {s t : Str} {l : List Str} (hr : s ≠ tRoot) (h : stepF D s = some t) (hl : Up D t l) : Up D s (s :: l) := by
 obtain ⟨r, rfl⟩ := up_head hl
 exact ⟨rfl, hr, h, hl⟩
theorem up_of_iter {D : List (Str × Str)} (hD : saidOK D) : ∀ (n : Nat) (s : Str), iter D n s = some tRoot → ∃ l, Up D s l
 | 0, s, h => by cases h; exact ⟨_, up_root D⟩
 | n + 1, s, h => by
  by_cases hr : s = tRoot
  ·subst hr; exact ⟨_, up_root D⟩
  ·rw [show n + 1 = 1 + n by omega, iter_add, Option.bind_eq_some_iff] at h
   obtain ⟨t, h1, h2⟩ := h
   obtain ⟨l, hl⟩ := up_of_iter hD n t h2
   exact ⟨_, up_cons hr (by simpa [iter] using h1) hl⟩
theorem up_ex {D : List (Str × Str)} (hD : saidOK D) (hr : ∀ p ∈ D, ¬ ringP D p.1) {s : Str} (hs : namedB s = true) : ∃ l, Up D s l := by
 obtain ⟨n, hn⟩ := ends hD hr hs
 exact up_of_iter hD n s hn
theorem up_one {D : List (Str × Str)} : ∀ {l m : List Str} {s : Str}, Up D s l → Up D s m → l = m
 | [], _, _, h, _ => h.elim
 | [x], m, s, h, h2 => by
  match m, h2 with
  | [y], h2 => rw [h.1, h2.1]
  | y :: z :: m, h2 => exact absurd h.2 h2.2.1
 | x :: y :: l, m, s, h, h2 => by
  match m, h2 with
  | [z], h2 => exact absurd h2.2 h.2.1
  | z :: u :: m, h2 =>
   have h3 := h.2.2.1
   rw [h2.2.2.1] at h3
   cases h3
   rw [h.1, h2.1, up_one h.2.2.2 h2.2.2.2]
theorem up_drop {D : List (Str × Str)} : ∀ {l : List Str} {s : Str} (i : Nat) (hi : i < l.length), Up D s l → Up D l[i] (l.drop i)
 | [], _, _, hi, h => h.elim
 | [x], s, 0, hi, h => by simpa [h.1] using h
 | [x], s, i + 1, hi, h => by simp at hi
 | x :: y :: l, s, 0, hi, h => by
  have := h.1
  subst this
  exact h
 | x :: y :: l, s, i + 1, hi, h => by
  have := up_drop i (by simpa using hi) h.2.2.2
  simpa using this
theorem up_named {D : List (Str × Str)} (hD : saidOK D) : ∀ {l : List Str} {s : Str}, namedB s = true → Up D s l → ∀ x ∈ l, namedB x = true
 | [], _, _, h, _, _ => h.elim
 | [x], s, hs, h, z, hz => by
  have := h.1
  subst this
  rw [List.mem_singleton.1 hz]; exact hs
 | x :: y :: l, s, hs, h, z, hz => by
  have := h.1
  subst this
  rcases List.mem_cons.1 hz with rfl | hz
  ·exact hs
  ·exact up_named hD (step_named hD h.2.2.1) h.2.2.2 z hz
theorem up_nodup {D : List (Str × Str)} {l : List Str} {s : Str} (h : Up D s l) : ∀ i j, (hj : j < l.length) → (hij : i < j) → l[i] ≠ l[j] := by
 intro i j hj hij he
 have h1 := up_drop i (by omega) h
 have h2 := up_drop j hj h
 rw [he] at h1
 have h3 := congrArg List.length (up_one h1 h2)
 simp only [List.length_drop] at h3
 omega
def badAt (done : List (Str × Str)) : List (Str × Str) → Option (Nat × Nat)
 | [] => none
 | p :: r => if (namedB p.1 = true ∧ namedB p.2 = true) ∧ p.1 ≠ tRoot then (if look done p.1 = none then badAt (done ++ [p]) r else some (211, done.length)) else some (2, done.length)
theorem bad_none {done r : List (Str × Str)} (h : badAt done r = none) (hd : saidOK done) : saidOK (done ++ r) := by
 induction r generalizing done with
 | nil => rw [List.append_nil]; exact hd
 | cons p r ih =>
  unfold badAt at h
  split at h
  ·rename_i hp
   split at h
   ·have := ih h (fun q hq => by
     rcases List.mem_append.1 hq with hq | hq
     ·exact hd q hq
     ·rw [List.mem_singleton.1 hq]; exact ⟨hp.1.1, hp.1.2, hp.2⟩)
    rw [List.append_assoc] at this
    exact this
   ·cases h
  ·cases h
def NewOut (l : List (Str × Str)) (e i : Nat) : Prop :=
 (badAt [] l = some (e, i)) ∨ (badAt [] l = none ∧ e = 210 ∧ (∃ p, l[i]? = some p ∧ ringP l p.1) ∧ ∀ j p, j < i → l[j]? = some p → ¬ ringP l p.1) ∨ (badAt [] l = none ∧ e = 0 ∧ i = 0 ∧ ∀ p ∈ l, ¬ ringP l p.1)
end Go.Proofs.YtbbmdbolkicpcaaGreatDoor
namespace Go.Proofs.YtbbmdbolkicpcaaGreatDoor
open Go.Lib
structure Itm where
 path : Str
 value : Str
 alias' : Bool
 draft : Str
 at' : Int
structure Dc where
 loc : Str
 supp : Bool
 items : List Itm
structure Rw where
 loc : Str
 path : Str
 text : Str
 file : Nat
 at' : Int
structure Tb where
 rows : List Rw
 als : List Rw
 names : List Str
 paths : List Str
def Tb.zero : Tb := ⟨[], [], [], []⟩
def findR (l : List Rw) (loc path : Str) : Option Rw := l.find? (fun r => r.loc == loc && r.path == path)
structure Wrg where
 err : Nat
 file : Int
 at' : Int
def Wrg.ok : Wrg := ⟨0, 0, 0⟩
def itemF (t : Tb) (loc : Str) (f : Nat) (x : Itm) : Nat × Tb :=
 if x.path = [] ∨ pathB x.path = false then (2, t)
 else if x.alias' = true ∧ loc ≠ tRoot then (221, t)
 else if x.alias' = true then
  match findR t.als loc x.path with
  | some r => if r.text = x.value then (0, t) else (220, t)
  | none => (0, { t with als := t.als ++ [⟨loc, x.path, x.value, f, x.at'⟩] })
 else
  match findR t.rows loc x.path with
  | some r => if r.text = x.value then (0, t) else (220, t)
  | none =>
   if x.path ∈ t.paths then (0, { t with rows := t.rows ++ [⟨loc, x.path, x.value, f, x.at'⟩] })
   else if t.paths.length = 16384 then (3, t)
   else (0, { t with rows := t.rows ++ [⟨loc, x.path, x.value, f, x.at'⟩], paths := t.paths ++ [x.path] })
def itemsF (loc : Str) (f : Nat) : Tb → List Itm → Option (Nat × Int) × Tb
 | t, [] => (none, t)
 | t, x :: r => match itemF t loc f x with
  | (0, t') => itemsF loc f t' r
  | (e, t') => (some (e, x.at'), t')
def headF (t : Tb) (d : Dc) : Nat × Tb :=
 if (d.supp = true ∧ d.loc ≠ []) ∨ (d.supp = false ∧ namedB d.loc = false) then (2, t)
 else if d.supp = true ∨ d.loc ∈ t.names then (0, t)
 else if t.names.length = 512 then (3, t)
 else (0, { t with names := t.names ++ [d.loc] })
def docsF : Nat → Tb → List Dc → Wrg × Tb
 | _, t, [] => (Wrg.ok, t)
 | f, t, d :: r => match headF t d with
  | (0, t1) => match itemsF d.loc f t1 d.items with
   | (none, t2) => docsF (f + 1) t2 r
   | (some (e, a), t2) => (⟨e, f, a⟩, t2)
  | (e, t1) => (⟨e, f, 0⟩, t1)
def newF (l : List Dc) : Wrg × Tb := docsF 0 Tb.zero l
end Go.Proofs.YtbbmdbolkicpcaaGreatDoor
namespace Go.Proofs.YtbbmdbolkicpcaaGreatDoor
open Go.RowKit Go.Lib Go.Sort Go.Maps Go.WideMaps
def sdOf (r : Rw) : Str × Int × Int := (r.text, (r.file : Int), r.at')
def sdL (l : List Rw) : List (Str × (Str × Int × Int)) := l.map fun r => (r.path, sdOf r)
def rowsOf (t : Tb) (loc : Str) : List Rw := t.rows.filter (fun r => r.loc == loc)
theorem look_sd (l : List Rw) (k : Str) : lookE (sdL l) k = (l.find? (fun r => r.path == k)).map sdOf := by
 unfold lookE sdL
 rw [List.find?_map, Option.map_map]; rfl
theorem look_rows (t : Tb) (loc path : Str) : lookE (sdL (rowsOf t loc)) path = (findR t.rows loc path).map sdOf := by
 rw [look_sd, rowsOf, findR, List.find?_filter]
 congr 2
 funext r
 rw [Bool.eq_iff_iff]
 simp
theorem look_als {l : List Rw} (h : ∀ r ∈ l, r.loc = tRoot) (path : Str) : lookE (sdL l) path = (findR l tRoot path).map sdOf := by
 rw [look_sd]
 congr 1
 unfold findR
 induction l with
 | nil => rfl
 | cons r l ih =>
  have hr := h r (List.mem_cons_self ..)
  rw [List.find?_cons, List.find?_cons, hr, ih (fun x hx => h x (List.mem_cons_of_mem _ hx))]
  simp
structure TbAt (W : World) (Bt bv ba bn bp N : Nat) (V : List (Str × Nat)) (t : Tb) : Prop where
 box : W.heap[Bt]? = some (.cells #[.map (some bv), .map (some ba), .map (some bn), .map (some bp)] 93 (0, 0))
 vals : OwnE elMp W bv N (mpL V)
 als : OwnE elSd W ba N (sdL t.als)
 names : OwnE elBo W bn N (setL t.names)
 paths : OwnE elBo W bp N (setL t.paths)
 each : ∀ p ∈ V, OwnE elSd W p.2 N (sdL (rowsOf t p.1))
 keys : (V.map (·.1)).Nodup
 has : ∀ r ∈ t.rows, r.loc ∈ V.map (·.1)
 root : ∀ r ∈ t.als, r.loc = tRoot
 apart : (bv :: ba :: bn :: bp :: V.map (·.2)).Nodup
section
variable {W W' : World} {Bt bv ba bn bp N : Nat} {V : List (Str × Nat)} {t : Tb} {α : Type} {E : El α} {b n c : Nat} {L : List (Str × α)}
theorem OwnE.kept (h : OwnE E W b n L) (gr : W.grownBy W' (some c)) (ne : b ≠ c) : OwnE E W' b n L := h.block (gr.block b h.lt (by simpa using ne))
theorem box_kept {cs : Array Value} {ty : TypeId} (hb : W.heap[Bt]? = some (.cells cs ty (0, 0))) (h : OwnE E W c n L) (gr : W.grownBy W' (some c)) : W'.heap[Bt]? = some (.cells cs ty (0, 0)) := by
 have ne : Bt ≠ c := by
  rintro rfl
  obtain ⟨es, ck, hm⟩ := h.isMap
  rw [hb] at hm; cases hm
 rw [gr.block Bt (Array.getElem?_eq_some_iff.1 hb).1 (by simpa using ne)]; exact hb
theorem TbAt.below (h : TbAt W Bt bv ba bn bp N V t) (hb : Below W.heap.size W W') : TbAt W' Bt bv ba bn bp N V t :=
 ⟨(hb.block _ (Array.getElem?_eq_some_iff.1 h.box).1).trans h.box, h.vals.below hb, h.als.below hb, h.names.below hb, h.paths.below hb, fun p hp => (h.each p hp).below hb, h.keys, h.has, h.root, h.apart⟩
theorem TbAt.mono {N' : Nat} (h : TbAt W Bt bv ba bn bp N V t) (hn : N ≤ N') : TbAt W Bt bv ba bn bp N' V t :=
 ⟨h.box, h.vals.mono hn, h.als.mono hn, h.names.mono hn, h.paths.mono hn, fun p hp => (h.each p hp).mono hn, h.keys, h.has, h.root, h.apart⟩
theorem TbAt.lo (h : TbAt W Bt bv ba bn bp N V t) : bv ≠ ba ∧ bv ≠ bn ∧ bv ≠ bp ∧ ba ≠ bn ∧ ba ≠ bp ∧ bn ≠ bp ∧ ∀ p ∈ V, p.2 ≠ bv ∧ p.2 ≠ ba ∧ p.2 ≠ bn ∧ p.2 ≠ bp := by
 have ha := h.apart
 simp only [List.nodup_cons, List.mem_cons, not_or] at ha
 obtain ⟨⟨h1, h2, h3, h4⟩, ⟨h5, h6, h7⟩, ⟨h8, h9⟩, h10, _⟩ := ha
 refine ⟨h1, h2, h3, h5, h6, h8, fun p hp => ?_⟩
 have hm : p.2 ∈ V.map (·.2) := List.mem_map.2 ⟨p, hp, rfl⟩
 exact ⟨fun e => h4 (e ▸ hm), fun e => h7 (e ▸ hm), fun e => h9 (e ▸ hm), fun e => h10 (e ▸ hm)⟩
theorem TbAt.addPath (h : TbAt W Bt bv ba bn bp N V t) {ps : List Str} (o : OwnE elBo W' bp (N + 1) (setL ps)) (gr : W.grownBy W' (some bp)) : TbAt W' Bt bv ba bn bp (N + 1) V { t with paths := ps } := by
 obtain ⟨h1, h2, h3, h5, h6, h8, hV⟩ := h.lo
 have hN : N ≤ N + 1 := Nat.le_succ N
 exact ⟨box_kept h.box h.paths gr, (h.vals.kept gr h3).mono hN, (h.als.kept gr h6).mono hN, (h.names.kept gr h8).mono hN, o, fun p hp => ((h.each p hp).kept gr (hV p hp).2.2.2).mono hN, h.keys, h.has, h.root, h.apart⟩
theorem TbAt.addName (h : TbAt W Bt bv ba bn bp N V t) {ns : List Str} (o : OwnE elBo W' bn (N + 1) (setL ns)) (gr : W.grownBy W' (some bn)) : TbAt W' Bt bv ba bn bp (N + 1) V { t with names := ns } := by
 obtain ⟨h1, h2, h3, h5, h6, h8, hV⟩ := h.lo
 have hN : N ≤ N + 1 := Nat.le_succ N
 exact ⟨box_kept h.box h.names gr, (h.vals.kept gr h2).mono hN, (h.als.kept gr h5).mono hN, o, (h.paths.kept gr (Ne.symm h8)).mono hN, fun p hp => ((h.each p hp).kept gr (hV p hp).2.2.1).mono hN, h.keys, h.has, h.root, h.apart⟩
theorem TbAt.addRow (h : TbAt W Bt bv ba bn bp N V t) (r : Rw) {b : Nat} (hp : (r.loc, b) ∈ V) (o : OwnE elSd W' b (N + 1) (sdL (rowsOf t r.loc) ++ [(r.path, sdOf r)])) (gr : W.grownBy W' (some b)) : TbAt W' Bt bv ba bn bp (N + 1) V { t with rows := t.rows ++ [r] } := by
 obtain ⟨h1, h2, h3, h5, h6, h8, hV⟩ := h.lo
 obtain ⟨v1, v2, v3, v4⟩ := hV _ hp
 have hN : N ≤ N + 1 := Nat.le_succ N
 have ho := h.each _ hp
 have hap := h.apart
 refine ⟨box_kept h.box ho gr, (h.vals.kept gr (Ne.symm v1)).mono hN, (h.als.kept gr (Ne.symm v2)).mono hN, (h.names.kept gr (Ne.symm v3)).mono hN, (h.paths.kept gr (Ne.symm v4)).mono hN, fun p hq => ?_, h.keys, fun x hx => ?_, h.root, h.apart⟩
 ·by_cases e : p.1 = r.loc
  ·have : p = (r.loc, b) := by
    have hk := h.keys
    have i1 := lookE_is hk hq
    have i2 := lookE_is hk hp
    rw [e, i2] at i1
    cases i1
    obtain ⟨x, y⟩ := p
    simp only at e ⊢
    rw [e]
   subst this
   rw [show rowsOf { t with rows := t.rows ++ [r] } r.loc = rowsOf t r.loc ++ [r] by simp [rowsOf], show sdL (rowsOf t r.loc ++ [r]) = sdL (rowsOf t r.loc) ++ [(r.path, sdOf r)] by simp [sdL]]
   exact o
  ·have hne : p.2 ≠ b := by
    intro e2
    have hnd : (V.map (·.2)).Nodup := by
     simp only [List.nodup_cons] at hap
     exact hap.2.2.2.2
    exact e (by
     have := (List.pairwise_map.1 hnd)
     obtain ⟨i, hi, hpi⟩ := List.getElem_of_mem hq
     obtain ⟨j, hj, hpj⟩ := List.getElem_of_mem hp
     by_cases hij : i = j
     ·subst hij; rw [← hpi, hpj]
     ·exfalso
      have key : ∀ (i j : Nat) (hi : i < V.length) (hj : j < V.length), i < j → V[i].2 ≠ V[j].2 := fun i j hi hj hlt => (List.pairwise_iff_getElem.1 this) i j hi hj hlt
      rcases Nat.lt_or_gt_of_ne hij with hl | hl
      ·exact key i j hi hj hl (by rw [hpi, hpj]; exact e2)
      ·exact key j i hj hi hl (by rw [hpi, hpj]; exact e2.symm))
   rw [show rowsOf { t with rows := t.rows ++ [r] } p.1 = rowsOf t p.1 by simp [rowsOf, Ne.symm e]]
   exact ((h.each p hq).kept gr hne).mono hN
 ·rcases List.mem_append.1 hx with hx | hx
  ·exact h.has x hx
  ·rw [List.mem_singleton.1 hx]; exact List.mem_map.2 ⟨_, hp, rfl⟩
theorem TbAt.addMap (h : TbAt W Bt bv ba bn bp N V t) (loc : Str) (hno : lookE V loc = none) (o : OwnE elMp W' bv (N + 1) (mpL V ++ [(loc, some W.heap.size)])) (gr : (W.alloc (.map #[] 0)).grownBy W' (some bv)) : TbAt W' Bt bv ba bn bp (N + 1) (V ++ [(loc, W.heap.size)]) t := by
 have ha : Below W.heap.size W (W.alloc (.map #[] 0)) := (Below.refl _ _).alloc (Nat.le_refl _) _
 have h' := h.below ha
 obtain ⟨h1, h2, h3, h5, h6, h8, hV⟩ := h.lo
 have hN : N ≤ N + 1 := Nat.le_succ N
 have hnl := lookE_none.1 hno
 have lv := h.vals.lt
 refine ⟨box_kept h'.box h'.vals gr, by rw [mpL_append]; exact o, (h'.als.kept gr (Ne.symm h1)).mono hN, (h'.names.kept gr (Ne.symm h2)).mono hN, (h'.paths.kept gr (Ne.symm h3)).mono hN, fun p hp => ?_, ?_, fun r hr => ?_, h.root, ?_⟩
 ·rcases List.mem_append.1 hp with hp | hp
  ·exact ((h'.each p hp).kept gr (hV p hp).1).mono hN
  ·rw [List.mem_singleton.1 hp]
   have he : rowsOf t loc = [] := by
    unfold rowsOf
    rw [List.filter_eq_nil_iff]
    intro r hr e
    obtain ⟨q, hq, he⟩ := List.mem_map.1 (h.has r hr)
    have : r.loc = loc := by simpa using e
    exact hnl q hq (he.trans this)
   show OwnE elSd W' W.heap.size (N + 1) (sdL (rowsOf t loc))
   rw [he]
   exact ((OwnE.made elSd W).kept gr (by omega)).mono (Nat.zero_le _)
 ·rw [List.map_append, List.nodup_append]
  refine ⟨h.keys, by simp, fun a ha' b hb => ?_⟩
  obtain ⟨q, hq, rfl⟩ := List.mem_map.1 ha'
  simp only [List.map_cons, List.map_nil, List.mem_singleton] at hb
  rw [hb]; exact hnl q hq
 ·rw [List.map_append]; exact List.mem_append.2 (Or.inl (h.has r hr))
 ·have hap := h.apart
  have hlt : ∀ x ∈ bv :: ba :: bn :: bp :: V.map (·.2), x < W.heap.size := by
   intro x hx
   simp only [List.mem_cons] at hx
   rcases hx with rfl | rfl | rfl | rfl | hx
   ·exact lv
   ·exact h.als.lt
   ·exact h.names.lt
   ·exact h.paths.lt
   ·obtain ⟨q, hq, rfl⟩ := List.mem_map.1 hx
    exact (h.each q hq).lt
  rw [List.map_append, show bv :: ba :: bn :: bp :: (V.map (·.2) ++ [(loc, W.heap.size)].map (·.2)) = (bv :: ba :: bn :: bp :: V.map (·.2)) ++ [W.heap.size] by simp, List.nodup_append]
  refine ⟨hap, by simp, fun x hx y hy => ?_⟩
  rw [List.mem_singleton.1 hy]
  have := hlt x hx
  omega
end
end Go.Proofs.YtbbmdbolkicpcaaGreatDoor
namespace Go.Proofs.YtbbmdbolkicpcaaGreatDoor
open Go.RowKit Go.Lib Go.Sort
def Moved (w : World) (v v' : Value) : Prop := v'.ownBlock = v.ownBlock ∨ ∃ k, v'.ownBlock = some k ∧ w.heap.size ≤ k
theorem run_app {P : Program} (w : World) (base : Nat) (t ty e : TypeId) (i : TypeInfo) (z : Value) (size bytes : Nat) (ht : P.underlying t = some (.slice e)) (hi : P.info? e = some i) (hz : i.zero = some z)
  (hsize : i.size = size) (hby : i.bytes = bytes) (hzs : z.cells.size = size) (hsz : 0 < size)
  (v : Value) (n : Nat) (xs : List Value) (hown : w.ownsRow base e size v n xs)
  (a : Addr) (m c : Nat) (news : List Value) (hl : news.length = m * size) (hnews : ∀ j u, news[j]? = some u → w.cell? (a.add j) = some u) (h1 : ∀ u ∈ news, u.oneCell' = true)
  (h63 : n + m ≤ maxLen) (hbytes : (n + m) * bytes ≤ 140737488355328) (hbase : base ≤ w.heap.size) :
  ∃ v' w', (Builtin.append_ #[t, t] ty #[v, .slice (some a) m c]).run P w = .ok v' w' ∧ w'.ownsRow base e size v' (n + m) (xs ++ news) ∧ w.grownBy w' v.ownBlock ∧ Moved w v v' := by
 obtain ⟨v', w', hr, h2, h3, h4⟩ := run_append_own (P := P) w base t ty e i z size bytes ht hi hz hsize hby hzs hsz v n xs hown a m c news hl hnews h1 h63 hbytes hbase
 refine ⟨v', w', hr, h2, h3, ?_⟩
 subst hsize
 subst hby
 rcases hown.2 with ⟨rfl, rfl⟩ | ⟨g, cap, cur, rfl, hbg, hg, hnc, hcm, hcs, htake⟩
 ·by_cases hm : m = 0
  ·left; rw [h4.2 ⟨rfl, hm⟩]
  ·have hr2 := run_append_nil (P := P) w t ty e i z ht hi hz a m c news hl hnews (by omega) (by unfold maxLen at h63; omega) (by simp only [Nat.zero_add] at hbytes; omega)
   rw [hr] at hr2
   injection hr2 with e1 e2
   right
   exact ⟨w.heap.size, by rw [e1]; rfl, Nat.le_refl _⟩
 ·by_cases hroom : n + m ≤ cap
  ·have hfit : n * i.size + news.length ≤ cur.size := by rw [hl, hcs, ← Nat.add_mul]; exact Nat.mul_le_mul_right _ hroom
   have hr2 := run_append_room (P := P) w t ty e i ht hi g n cap cur hg a m c news hl hnews h1 hroom hfit
   rw [hr] at hr2
   injection hr2 with e1 e2
   left
   rw [e1]; rfl
  ·have holds : ∀ j u, xs[j]? = some u → w.cell? ((⟨g, 0, none⟩ : Addr).add j) = some u := hown.cells (g := g) rfl
   have hr2 := run_append_grow (P := P) w t ty e i z ht hi hz ⟨g, 0, none⟩ n cap xs hown.1 holds a m c news hl hnews (by omega) (by unfold maxLen at h63; omega) (growslice_fits (by omega) hbytes)
   rw [hr] at hr2
   injection hr2 with e1 e2
   right
   exact ⟨w.heap.size, by rw [e1]; rfl, Nat.le_refl _⟩
theorem wpList_app {P : Program} {w : World} {ops : Array Oper} {rest : List Oper} {o : Oper} {a : Act} {Q : Exit → Act → World → Prop} (hgd : o.guard = none) (s x : Operand) (t : TypeId)
  (ho : o.op = .call { callee := .builtin .append, args := #[s, x], argTypes := #[t, t] })
  (base : Nat) (e : TypeId) (i : TypeInfo) (z : Value) (size bytes : Nat) (ht : P.underlying t = some (.slice e)) (hi : P.info? e = some i) (hz : i.zero = some z)
  (hsize : i.size = size) (hby : i.bytes = bytes) (hzs : z.cells.size = size) (hsz : 0 < size)
  (v : Value) (n : Nat) (xs : List Value) (hs : a.eval s = v) (hown : w.ownsRow base e size v n xs)
  (ad : Addr) (m c : Nat) (news : List Value) (hx : a.eval x = .slice (some ad) m c) (hl : news.length = m * size) (hnews : ∀ j u, news[j]? = some u → w.cell? (ad.add j) = some u) (h1 : ∀ u ∈ news, u.oneCell' = true)
  (h63 : n + m ≤ maxLen) (hbytes : (n + m) * bytes ≤ 140737488355328) (hbase : base ≤ w.heap.size)
  (h : ∀ v' w', w'.ownsRow base e size v' (n + m) (xs ++ news) → w.grownBy w' v.ownBlock → Moved w v v' → wpList P ops Q rest (a.put o.dst v') w') : wpList P ops Q (o :: rest) a w := by
 refine wpList_plain hgd fun _ hK => ?_
 obtain ⟨v', w', hr, h2, h3, h4⟩ := run_app (P := P) w base t o.type e i z size bytes ht hi hz hsize hby hzs hsz v n xs hown ad m c news hl hnews h1 h63 hbytes hbase
 unfold Oper.wp execOp
 simp only [ho, resolve, invoke, builtin, Sem.run_bind, Sem.run_pure, Result.andThen_ok, List.map_toArray, List.map_cons, List.map_nil, hs, hx, hr]
 exact hK _ _ (h v' w' h2 h3 h4)
theorem wpList_pushS {w : World} {ops : Array Oper} {rest : List Oper} {o : Oper} {a : Act} {Q : Exit → Act → World → Prop} (hgd : o.guard = none) (s x : Operand)
  (ho : o.op = .call { callee := .builtin .append, args := #[s, x], argTypes := #[36, 36] })
  (B : Nat) (v : Value) (l : List Str) (y : Str) (hs : a.eval s = v) (hown : OwnS w B v l) (hx : a.eval x = .slice (some ⟨w.heap.size, 0, none⟩) 1 1) (hl : l.length ≤ 1000000) (hB : B ≤ w.heap.size)
  (h : ∀ v' w', OwnS w' B v' (l ++ [y]) → w.grownBy w' v.ownBlock → Moved w v v' → wpList Tryz.prog ops Q rest (a.put o.dst v') w') :
  wpList Tryz.prog ops Q (o :: rest) a (w.alloc (.cells #[.string ⟨y.toArray⟩] 9)) := by
 obtain ⟨i0, hi, hz0, hz1, hz2⟩ := info_parts infoS
 refine wpList_app hgd s x 36 ho B 9 i0 (.string ⟨#[]⟩) 1 16 Tryz.underlying36 hi hz0 hz1 hz2 rfl (by decide) v l.length (l.map S) hs (World.ownsRow.alloc hown _) ⟨w.heap.size, 0, none⟩ 1 1 [.string ⟨y.toArray⟩] hx rfl (cell_one_new _ _ _) (fun u hu => by simp at hu; subst hu; rfl) (by unfold maxLen; omega) (by omega) (by simp; omega) ?_
 intro v' w' own gr mv
 refine h v' w' (own_cast own (by simp) (by simp [S])) ⟨gr.os, gr.tape, gr.output, Nat.le_trans (by simp) gr.size, fun k hk hne => ?_⟩ ?_
 ·rw [gr.block k (by simp; omega) hne]; exact heap_alloc_old _ _ hk
 ·rcases mv with m | ⟨k, h1, h2⟩
  ·exact Or.inl m
  ·exact Or.inr ⟨k, h1, by simp at h2; omega⟩
end Go.Proofs.YtbbmdbolkicpcaaGreatDoor
namespace Go.Proofs.YtbbmdbolkicpcaaGreatDoor
open Go.RowKit Go.Lib Go.Sort
structure Enc (α : Type) (k : Nat) where
 enc : α → List Value
 len : ∀ x, (enc x).length = k
 one : ∀ x, ∀ u ∈ enc x, u.oneCell' = true
section
variable {α : Type} {k : Nat} {E : Enc α k}
def flatL (E : Enc α k) (l : List α) : List Value := l.flatMap E.enc
theorem flatL_len (E : Enc α k) : ∀ l : List α, (flatL E l).length = l.length * k
 | [] => by simp [flatL]
 | a :: r => by
  have := flatL_len E r
  simp only [flatL, List.flatMap_cons, List.length_append, List.length_cons] at this ⊢
  rw [this, E.len, Nat.succ_mul, Nat.add_comm]
theorem flatL_append (E : Enc α k) (l m : List α) : flatL E (l ++ m) = flatL E l ++ flatL E m := by simp [flatL]
theorem flatL_get (E : Enc α k) : ∀ (l : List α) (j i : Nat) (h : j < l.length) (hi : i < k), (flatL E l)[j * k + i]? = (E.enc (l[j]'h))[i]?
 | [], j, i, h, hi => by simp at h
 | a :: r, 0, i, h, hi => by
  simp only [flatL, List.flatMap_cons, Nat.zero_mul, Nat.zero_add]
  rw [List.getElem?_append_left (by rw [E.len]; exact hi)]; rfl
 | a :: r, j + 1, i, h, hi => by
  have ih := flatL_get E r j i (by simpa using h) hi
  simp only [flatL, List.flatMap_cons] at ih ⊢
  rw [List.getElem?_append_right (by rw [E.len, Nat.succ_mul]; omega), E.len, show (j + 1) * k + i - k = j * k + i by rw [Nat.succ_mul]; omega, ih]
  rfl
theorem flatL_set (E : Enc α k) : ∀ (l : List α) (j i : Nat) (h : j < l.length) (hi : i < k) (u : Value) (y : α), E.enc y = (E.enc (l[j]'h)).set i u → (flatL E l).set (j * k + i) u = flatL E (l.set j y)
 | [], j, i, h, hi, u, y, he => by simp at h
 | a :: r, 0, i, h, hi, u, y, he => by
  simp only [flatL, List.flatMap_cons, Nat.zero_mul, Nat.zero_add, List.set_cons_zero]
  rw [List.set_append_left _ _ (by rw [E.len]; exact hi), he]; rfl
 | a :: r, j + 1, i, h, hi, u, y, he => by
  have ih := flatL_set E r j i (by simpa using h) hi u y he
  simp only [flatL, List.flatMap_cons, List.set_cons_succ] at ih ⊢
  rw [List.set_append_right _ _ (by rw [E.len, Nat.succ_mul]; omega), E.len, show (j + 1) * k + i - k = j * k + i by rw [Nat.succ_mul]; omega, ih]
def RdL (E : Enc α k) (w : World) (v : Value) (l : List α) : Prop :=
 ∃ ao cp, v = .slice ao l.length cp ∧ (l.length ≤ cp ∧ l.length ≤ 9223372036854775807 ∧ (ao = none → l = [] ∧ cp = 0)) ∧
  (l ≠ [] → ∃ b off, ao = some ⟨b, off, none⟩ ∧ b < w.heap.size ∧ ∀ j i x, (hj : j < l.length) → (E.enc (l[j]'hj))[i]? = some x → w.cell? ⟨b, off + j * k + i, none⟩ = some x)
def OwnL (E : Enc α k) (ty : TypeId) (w : World) (B : Nat) (v : Value) (l : List α) : Prop := w.ownsRow B ty k v l.length (flatL E l)
variable {w w' : World} {v : Value} {l : List α} {B : Nat} {ty : TypeId}
theorem RdL.nil (E : Enc α k) (w : World) : RdL E w (.slice none 0 0) [] := ⟨none, 0, rfl, by simp, fun h => absurd rfl h⟩
theorem RdL.below (h : RdL E w v l) (hb : Below w.heap.size w w') : RdL E w' v l := by
 obtain ⟨ao, cp, hv, hl, hr⟩ := h
 refine ⟨ao, cp, hv, hl, fun hne => ?_⟩
 obtain ⟨b, off, ha, hlt, hc⟩ := hr hne
 exact ⟨b, off, ha, Nat.lt_of_lt_of_le hlt hb.size, fun j i x hj hx => (hb.cell (p := ⟨b, off + j * k + i, none⟩) hlt).trans (hc j i x hj hx)⟩
theorem RdL.slice (h : RdL E w v l) : ∃ ao cp, v = .slice ao l.length cp ∧ l.length ≤ cp := by obtain ⟨ao, cp, hv, hl, _⟩ := h; exact ⟨ao, cp, hv, hl.1⟩
theorem OwnL.shape (h : OwnL E ty w B v l) : (v = .slice none 0 0 ∧ l = []) ∨
  ∃ g cap cur, v = .slice (some ⟨g, 0, none⟩) l.length cap ∧ B ≤ g ∧ w.heap[g]? = some (.cells cur ty (0, 0)) ∧ l.length ≤ cap ∧ cap ≤ maxLen ∧ cur.size = cap * k ∧ cur.toList.take (l.length * k) = flatL E l := by
 rcases h.2 with ⟨h1, h2⟩ | ⟨g, cap, cur, h1, h2, h3, h4, h5, h6, h7⟩
 ·exact Or.inl ⟨h1, List.eq_nil_of_length_eq_zero h2⟩
 ·exact Or.inr ⟨g, cap, cur, h1, h2, h3, h4, h5, h6, h7⟩
theorem OwnL.slice (h : OwnL E ty w B v l) : ∃ ao cp, v = .slice ao l.length cp ∧ l.length ≤ cp := by
 rcases h.shape with ⟨rfl, rfl⟩ | ⟨g, cap, cur, rfl, _, _, hn, _⟩
 ·exact ⟨none, 0, rfl, Nat.le_refl _⟩
 ·exact ⟨_, cap, rfl, hn⟩
theorem OwnL.rd (h : OwnL E ty w B v l) : RdL E w v l := by
 rcases h.shape with ⟨rfl, rfl⟩ | ⟨g, cap, cur, rfl, hB, hg, hn, hm, hs, ht⟩
 ·exact RdL.nil E w
 ·refine ⟨_, _, rfl, ⟨hn, by unfold maxLen at hm; omega, fun e => by cases e⟩, fun _ => ⟨g, 0, rfl, lt_of_block hg, fun j i x hj hx => ?_⟩⟩
  have hi : i < k := by have := (List.getElem?_eq_some_iff.1 hx).1; rwa [E.len] at this
  rw [Nat.zero_add]
  exact cells_at hg ht _ _ (by rw [flatL_get E l j i hj hi]; exact hx)
theorem OwnL.nil (E : Enc α k) (ty : TypeId) (w : World) (B : Nat) : OwnL E ty w B (.slice none 0 0) [] := World.ownsRow_nil _ _ _ _
theorem OwnL.below (h : OwnL E ty w B v l) (hb : Below w.heap.size w w') : OwnL E ty w' B v l := own_below h hb
theorem OwnL.mono {C : Nat} (h : OwnL E ty w B v l) (hc : C ≤ B) : OwnL E ty w C v l := by
 unfold OwnL World.ownsRow at *
 refine ⟨h.1, ?_⟩
 rcases h.2 with h | ⟨g, cap, cur, h1, h2, h3⟩
 ·exact Or.inl h
 ·exact Or.inr ⟨g, cap, cur, h1, Nat.le_trans hc h2, h3⟩
theorem OwnL.row {g m c : Nat} (h : OwnL E ty w B (.slice (some ⟨g, 0, none⟩) m c) l) : ∃ cur, w.heap[g]? = some (.cells cur ty (0, 0)) := by
 rcases h.2 with ⟨h1, _⟩ | ⟨g', cap, cur, h1, _, hg, _⟩
 ·cases h1
 ·simp only [Value.slice.injEq, Option.some.injEq, Addr.mk.injEq, and_true, true_and] at h1
  obtain ⟨rfl, _⟩ := h1
  exact ⟨cur, hg⟩
theorem OwnL.some' {n c : Nat} {a : Option Addr} (h : OwnL E ty w B (.slice a n c) l) (hne : l ≠ []) : ∃ g, a = some ⟨g, 0, none⟩ := by
 rcases h.shape with ⟨_, e⟩ | ⟨g, cap, cur, e, _⟩
 ·exact absurd e hne
 ·cases e; exact ⟨g, rfl⟩
theorem OwnL.cell {g m c : Nat} (h : OwnL E ty w B (.slice (some ⟨g, 0, none⟩) m c) l) (j i : Nat) (x : Value) (hj : j < l.length) (hx : (E.enc (l[j]'hj))[i]? = some x) :
  w.cell? ⟨g, j * k + i, none⟩ = some x ∧ w.frozen? ⟨g, j * k + i, none⟩ = false ∧ g < w.heap.size := by
 rcases h.shape with ⟨e, rfl⟩ | ⟨g', cap, cur, e, hB, hg, hn, hm, hs, ht⟩
 ·cases e
 ·cases e
  have hi : i < k := by have := (List.getElem?_eq_some_iff.1 hx).1; rwa [E.len] at this
  exact ⟨cells_at hg ht _ _ (by rw [flatL_get E l j i hj hi]; exact hx), frozen_of_row w g _ _ _ hg, lt_of_block hg⟩
theorem OwnL.set {g c m : Nat} {l2 : List α} (h : OwnL E ty w B (.slice (some ⟨g, 0, none⟩) m c) l) (hm : m = l.length) (j i : Nat) (hj : j < l.length) (hi : i < k) (u : Value) (y : α) (hy : E.enc y = (E.enc (l[j]'hj)).set i u) (hl2 : l.set j y = l2) :
  OwnL E ty (w.setCell ⟨g, j * k + i, none⟩ u) B (.slice (some ⟨g, 0, none⟩) m c) l2 := by
 subst hm
 have := (World.ownsRow.stored h (j * k + i) u).1
 rw [flatL_set E l j i hj hi u y hy, hl2] at this
 exact own_cast this (by rw [← hl2, List.length_set]) rfl
theorem cells_new (w : World) (cs : Array Value) (e : TypeId) (j : Nat) (u : Value) (h : cs.toList[j]? = some u) : (w.alloc (.cells cs e)).cell? ((⟨w.heap.size, 0, none⟩ : Addr).add j) = some u := by
 have hx := cell_of_row _ _ j _ _ _ (heap_alloc_new w (.cells cs e))
 have hadd : ((⟨w.heap.size, 0, none⟩ : Addr).add j) = ⟨w.heap.size, j, none⟩ := by
  unfold Addr.add
  split
  ·next e => subst e; rfl
  ·simp
 rw [hadd, hx]
 simpa using h
theorem wpList_pushL {ops : Array Oper} {rest : List Oper} {o : Oper} {a : Act} {Q : Exit → Act → World → Prop} (hgd : o.guard = none) (s x : Operand) {t : TypeId}
  (ho : o.op = .call { callee := .builtin .append, args := #[s, x], argTypes := #[t, t] })
  {z : Value} {bytes : Nat} (ht : Tryz.prog.underlying t = some (.slice ty)) (hinf : (Tryz.prog.info? ty).map (fun i => (i.zero, i.size, i.bytes)) = some (some z, k, bytes)) (hzs : z.cells.size = k) (hk : 0 < k)
  (B : Nat) (v : Value) (l : List α) (y : α) (hs : a.eval s = v) (hown : OwnL E ty w B v l) (hx : a.eval x = .slice (some ⟨w.heap.size, 0, none⟩) 1 1) (hl : l.length + 1 ≤ maxLen) (hl2 : (l.length + 1) * bytes ≤ 140737488355328) (hB : B ≤ w.heap.size) (cs : Array Value) (hcs : cs.toList = E.enc y)
  (h : ∀ v' w', OwnL E ty w' B v' (l ++ [y]) → w.grownBy w' v.ownBlock → Moved w v v' → wpList Tryz.prog ops Q rest (a.put o.dst v') w') :
  wpList Tryz.prog ops Q (o :: rest) a (w.alloc (.cells cs ty)) := by
 obtain ⟨i0, hi, hz0, hz1, hz2⟩ := info_parts hinf
 refine wpList_app hgd s x t ho B ty i0 z k bytes ht hi hz0 hz1 hz2 hzs hk v l.length (flatL E l) hs (World.ownsRow.alloc hown _) ⟨w.heap.size, 0, none⟩ 1 1 (E.enc y) hx (by rw [E.len, Nat.one_mul]) (fun j u hu => cells_new w cs ty j u (by rw [hcs]; exact hu)) (E.one y) hl hl2 (by simp; omega) ?_
 intro v' w' own gr mv
 refine h v' w' (own_cast own (by simp) (by rw [flatL_append]; simp [flatL])) ⟨gr.os, gr.tape, gr.output, Nat.le_trans (by simp) gr.size, fun k hk hne => ?_⟩ ?_
 ·rw [gr.block k (by simp; omega) hne]; exact heap_alloc_old _ _ hk
 ·rcases mv with m | ⟨k, h1, h2⟩
  ·exact Or.inl m
  ·exact Or.inr ⟨k, h1, by simp at h2; omega⟩
end
end Go.Proofs.YtbbmdbolkicpcaaGreatDoor
namespace Go.Proofs.YtbbmdbolkicpcaaGreatDoor
open Go.RowKit Go.Lib Go.Sort Go.Maps Go.WideMaps
section
variable {α : Type} {E : El α} {w : World} {b n : Nat} {L : List (Str × α)} {ops : Array Oper} {rest : List Oper} {o : Oper} {a : Act} {Q : Exit → Act → World → Prop} {mt e : TypeId}
theorem wpList_lookE (h : OwnE E w b n L) (hu : Tryz.prog.underlying mt = some (.map 9 e)) {x0 : α} (hz : ∀ W : World, (zeroValue e).run Tryz.prog W = .ok (E.v x0) W) (hg : o.guard = none) (m x : Operand) (hop : o.op = Op.lookup mt m x true) (hm : a.eval m = .map (some b)) (k : Str) (hx : a.eval x = .string ⟨k.toArray⟩) (hk : k.length ≤ maxLen)
  (v : Value) (q : Bool) (hv : E.v ((lookE L k).getD x0) = v) (hq : (lookE L k).isSome = q)
  (hK : wpList Tryz.prog ops Q rest (a.put o.dst (.tuple #[v, .bool q])) w) : wpList Tryz.prog ops Q (o :: rest) a w := by
 refine wpList_plain hg fun K' hK' => ?_
 have hrun := h.look_ok hu hz k hk
 rw [hv, hq] at hrun
 unfold Oper.wp
 simp [execOp, hop, hm, hx, hrun, Result.andThen]
 exact hK' _ _ hK
theorem wpList_lookE1 (h : OwnE E w b n L) (hu : Tryz.prog.underlying mt = some (.map 9 e)) {x0 : α} (hz : ∀ W : World, (zeroValue e).run Tryz.prog W = .ok (E.v x0) W) (hg : o.guard = none) (m x : Operand) (hop : o.op = Op.lookup mt m x false) (hm : a.eval m = .map (some b)) (k : Str) (hx : a.eval x = .string ⟨k.toArray⟩) (hk : k.length ≤ maxLen)
  (v : Value) (hv : E.v ((lookE L k).getD x0) = v)
  (hK : wpList Tryz.prog ops Q rest (a.put o.dst v) w) : wpList Tryz.prog ops Q (o :: rest) a w := by
 refine wpList_plain hg fun K' hK' => ?_
 have hrun := h.look hu hz k hk
 rw [hv] at hrun
 unfold Oper.wp
 simp [execOp, hop, hm, hx, hrun, Result.andThen]
 exact hK' _ _ hK
theorem wpList_sayE (h : OwnE E w b n L) (hn : n < maxLen) (hu : Tryz.prog.underlying mt = some (.map 9 e)) (hg : o.guard = none) (m x v : Operand) (hop : o.op = Op.mapUpdate mt m x v) (hm : a.eval m = .map (some b)) (k : Str) (hx : a.eval x = .string ⟨k.toArray⟩) (hk : k.length ≤ maxLen) (y : α) (hv : a.eval v = E.v y) (hno : lookE L k = none)
  (hK : ∀ w', OwnE E w' b (n + 1) (L ++ [(k, y)]) → w.grownBy w' (some b) → wpList Tryz.prog ops Q rest (a.put o.dst undef) w') : wpList Tryz.prog ops Q (o :: rest) a w := by
 refine wpList_plain hg fun K' hK' => ?_
 obtain ⟨w', hrun, ho, hgr⟩ := h.say hn hu k y hk hno
 unfold Oper.wp
 simp [execOp, hop, hm, hx, hv, hrun, Result.andThen]
 exact hK' _ _ (hK w' ho hgr)
end
theorem zeroSd (W : World) : (zeroValue 96).run Tryz.prog W = .ok (elSd.v ([], 0, 0)) W := by kernel_rfl
theorem zeroBo (W : World) : (zeroValue 4).run Tryz.prog W = .ok (elBo.v false) W := by kernel_rfl
theorem zeroMap (W : World) : (zeroValue 91).run Tryz.prog W = .ok (elMp.v none) W := by kernel_rfl
theorem box3_cells {W : World} {B : Nat} {a b c : Value} {ty : TypeId} (h : W.heap[B]? = some (.cells #[a, b, c] ty (0, 0))) :
  W.cell? ⟨B, 0, none⟩ = some a ∧ W.cell? ⟨B, 1, none⟩ = some b ∧ W.cell? ⟨B, 2, none⟩ = some c ∧ B < W.heap.size :=
 ⟨by rw [cell_of_row _ _ _ _ _ _ h]; rfl, by rw [cell_of_row _ _ _ _ _ _ h]; rfl, by rw [cell_of_row _ _ _ _ _ _ h]; rfl, lt_of_block h⟩
theorem grown_from {w w1 w2 : World} {b : Nat} (h : Below w.heap.size w w1) (g : w1.grownBy w2 (some b)) (ht : w1.tape = w.tape) : w.grownBy w2 (some b) :=
 ⟨g.os.trans h.os, g.tape.trans ht, g.output.trans h.output, Nat.le_trans h.size g.size, fun k hk hne => by rw [g.block k (Nat.lt_of_lt_of_le hk h.size) hne]; exact h.block k hk⟩
theorem grown_below {w w1 : World} {b : Nat} (h : Below w.heap.size w w1) (ht : w1.tape = w.tape) : w.grownBy w1 (some b) := ⟨h.os, ht, h.output, h.size, fun k hk _ => h.block k hk⟩
def putL (L : List (Str × (Str × Int × Int))) (k : Str) (x : Str × Int × Int) : List (Str × (Str × Int × Int)) := match lookE L k with | none => L ++ [(k, x)] | some _ => L
def putR (L : List (Str × (Str × Int × Int))) (k : Str) (s : Str) : Bool := match lookE L k with | none => true | some y => y.1 == s
theorem put_any (w : World) (b N : Nat) (L : List (Str × (Str × Int × Int))) (key : Str) (xt : Str) (xf xa : Int) (h : OwnE elSd w b N L) (hN : N < maxLen) (hk : key.length ≤ maxLen) :
  Calls Tryz.prog 93 #[.map (some b), .string ⟨key.toArray⟩, .agg #[.string ⟨xt.toArray⟩, .int .i64 xf, .int .i64 xa]] w fun e w' => e = .returned (.bool (putR L key xt)) ∧ OwnE elSd w' b (N + 1) (putL L key (xt, xf, xa)) ∧ w.grownBy w' (some b) := by
 have hb1 : Below w.heap.size w (w.alloc (.cells #[.string ⟨xt.toArray⟩, .int .i64 xf, .int .i64 xa] 96)) := (Below.refl _ _).alloc (Nat.le_refl _) _
 have HB1 := hid hb1
 have F1 := hid (heap_alloc_new w (.cells #[.string ⟨xt.toArray⟩, .int .i64 xf, .int .i64 xa] 96))
 have HT1 := hid (show (w.alloc (.cells #[.string ⟨xt.toArray⟩, .int .i64 xf, .int .i64 xa] 96)).tape = w.tape from rfl)
 have HO1 := hid (h.below hb1)
 clear hb1
 cases hlk : lookE L key with
 | some y =>
  obtain ⟨yt, yf, ya⟩ := y
  have HLK := hid hlk
  clear hlk
  go_enter Tryz.func93, Tryz.ntmps93
  go_upto_region 1 with fail
  generalize w.alloc (.cells #[.string ⟨xt.toArray⟩, .int .i64 xf, .int .i64 xa] 96) = w1 at *
  go_upto_region 2 with (at_lookup; refine wpList_lookE (E := elSd) HO1.out Tryz.underlying91 zeroSd rfl _ _ rfl rfl key rfl hk (.agg #[.string ⟨yt.toArray⟩, .int .i64 yf, .int .i64 ya]) true (by rw [HLK.out]; rfl) (by rw [HLK.out]; rfl) ?_)
  have hb2 : Below w1.heap.size w1 (w1.alloc (.cells #[.string ⟨yt.toArray⟩, .int .i64 yf, .int .i64 ya] 96)) := (Below.refl _ _).alloc (Nat.le_refl _) _
  have F2 := hid (heap_alloc_new w1 (.cells #[.string ⟨yt.toArray⟩, .int .i64 yf, .int .i64 ya] 96))
  have HT2 := hid (show (w1.alloc (.cells #[.string ⟨yt.toArray⟩, .int .i64 yf, .int .i64 ya] 96)).tape = w.tape from HT1.out)
  have HB2 := hid hb2
  clear hb2
  generalize w1.alloc (.cells #[.string ⟨yt.toArray⟩, .int .i64 yf, .int .i64 ya] 96) = w2 at *
  have HB := hid (HB1.out.then HB2.out)
  obtain ⟨x0, x1, x2, xl⟩ := box3_cells ((HB2.out.block _ (lt_of_block F1.out)).trans F1.out)
  obtain ⟨y0, y1, y2, yl⟩ := box3_cells F2.out
  go_wp2_with fail
  exact bodyPost_ret (v := .bool (yt == xt)) (by simp [results, Tryz.results93, go_sem]) rfl ⟨by unfold putR; rw [HLK.out], by unfold putL; rw [HLK.out]; exact (h.below HB.out).mono (Nat.le_succ N), grown_below HB.out HT2.out⟩
 | none =>
  have HLK := hid hlk
  clear hlk
  go_enter Tryz.func93, Tryz.ntmps93
  go_upto_region 1 with fail
  generalize w.alloc (.cells #[.string ⟨xt.toArray⟩, .int .i64 xf, .int .i64 xa] 96) = w1 at *
  go_upto_region 2 with (at_lookup; refine wpList_lookE (E := elSd) HO1.out Tryz.underlying91 zeroSd rfl _ _ rfl rfl key rfl hk (.agg #[.string ⟨#[]⟩, .int .i64 0, .int .i64 0]) false (by rw [HLK.out]; rfl) (by rw [HLK.out]; rfl) ?_)
  have hb2 : Below w1.heap.size w1 (w1.alloc (.cells #[.string ⟨#[]⟩, .int .i64 0, .int .i64 0] 96)) := (Below.refl _ _).alloc (Nat.le_refl _) _
  have F2 := hid (heap_alloc_new w1 (.cells #[.string ⟨#[]⟩, .int .i64 0, .int .i64 0] 96))
  have HT2 := hid (show (w1.alloc (.cells #[.string ⟨#[]⟩, .int .i64 0, .int .i64 0] 96)).tape = w.tape from HT1.out)
  have HB2 := hid hb2
  clear hb2
  generalize w1.alloc (.cells #[.string ⟨#[]⟩, .int .i64 0, .int .i64 0] 96) = w2 at *
  have HB := hid (HB1.out.then HB2.out)
  have HO2 := hid (HO1.out.below HB2.out)
  obtain ⟨x0, x1, x2, xl⟩ := box3_cells ((HB2.out.block _ (lt_of_block F1.out)).trans F1.out)
  go_wp2_with (at_mapUpdate; refine wpList_sayE (E := elSd) HO2.out hN Tryz.underlying91 rfl _ _ _ rfl rfl key rfl hk (xt, xf, xa) rfl HLK.out ?_; intro w3 ho3 hg3; have HO3 := hid ho3; have HG3 := hid (grown_from HB.out hg3 HT2.out); clear ho3 hg3)
  exact bodyPost_ret (v := .bool true) (by simp [results, Tryz.results93, go_sem]) rfl ⟨by unfold putR; rw [HLK.out], by unfold putL; rw [HLK.out]; exact HO3.out, HG3.out⟩
end Go.Proofs.YtbbmdbolkicpcaaGreatDoor
namespace Go.Proofs.YtbbmdbolkicpcaaGreatDoor
open Go.Lib
structure TbOk (t : Tb) : Prop where
 names : t.names.Nodup
 paths : t.paths.Nodup
 n512 : t.names.length ≤ 512
 p16 : t.paths.length ≤ 16384
 rows : (t.rows.map fun r => (r.loc, r.path)).Nodup
 als : (t.als.map fun r => r.path).Nodup
 root : ∀ r ∈ t.als, r.loc = tRoot
 rp : ∀ r ∈ t.rows, r.path ∈ t.paths
 pr : ∀ p ∈ t.paths, ∃ r ∈ t.rows, r.path = p
theorem TbOk.zero : TbOk Tb.zero := ⟨by simp [Tb.zero], by simp [Tb.zero], by simp [Tb.zero], by simp [Tb.zero], by simp [Tb.zero], by simp [Tb.zero], by simp [Tb.zero], by simp [Tb.zero], by simp [Tb.zero]⟩
theorem findR_none {l : List Rw} {loc path : Str} : findR l loc path = none ↔ ∀ r ∈ l, ¬ (r.loc = loc ∧ r.path = path) := by
 unfold findR
 rw [List.find?_eq_none]
 simp
theorem rows_more {l : List Rw} (h : (l.map fun r => (r.loc, r.path)).Nodup) {r : Rw} (hn : findR l r.loc r.path = none) : ((l ++ [r]).map fun r => (r.loc, r.path)).Nodup := by
 rw [List.map_append, List.nodup_append]
 refine ⟨h, by simp, fun a ha b hb e => ?_⟩
 obtain ⟨x, hx, rfl⟩ := List.mem_map.1 ha
 simp only [List.map_cons, List.map_nil, List.mem_singleton] at hb
 subst hb
 exact findR_none.1 hn x hx (Prod.mk.inj e)
theorem item_ok {t : Tb} (h : TbOk t) (loc : Str) (f : Nat) (x : Itm) : TbOk (itemF t loc f x).2 := by
 unfold itemF
 split
 ·exact h
 split
 ·exact h
 split
 ·rename_i h1 h2 h3
  have hl : loc = tRoot := by
   by_cases e : loc = tRoot
   ·exact e
   ·exact absurd ⟨h3, e⟩ h2
  split
  ·split <;> exact h
  ·rename_i hf
   refine ⟨h.names, h.paths, h.n512, h.p16, h.rows, ?_, fun r hr => ?_, h.rp, h.pr⟩
   ·show ((t.als ++ [(⟨loc, x.path, x.value, f, x.at'⟩ : Rw)]).map fun (r : Rw) => r.path).Nodup
    rw [List.map_append, List.nodup_append]
    refine ⟨h.als, by simp, fun a ha b hb e => ?_⟩
    obtain ⟨y, hy, rfl⟩ := List.mem_map.1 ha
    simp only [List.map_cons, List.map_nil, List.mem_singleton] at hb
    subst hb
    exact findR_none.1 hf y hy ⟨(h.root y hy).trans hl.symm, e⟩
   ·rcases List.mem_append.1 hr with hr | hr
    ·exact h.root r hr
    ·rw [List.mem_singleton.1 hr]; exact hl
 ·split
  ·split <;> exact h
  ·rename_i hf
   split
   ·rename_i hp
    refine ⟨h.names, h.paths, h.n512, h.p16, rows_more h.rows hf, h.als, h.root, fun r hr => ?_, fun p hp => ?_⟩
    ·rcases List.mem_append.1 hr with hr | hr
     ·exact h.rp r hr
     ·rw [List.mem_singleton.1 hr]; exact hp
    ·obtain ⟨r, hr, e⟩ := h.pr p hp
     exact ⟨r, List.mem_append.2 (Or.inl hr), e⟩
   ·split
    ·exact h
    ·rename_i hp hn
     refine ⟨h.names, ?_, h.n512, ?_, rows_more h.rows hf, h.als, h.root, fun r hr => ?_, fun p hp => ?_⟩
     ·show (t.paths ++ [x.path]).Nodup
      rw [List.nodup_append]
      exact ⟨h.paths, by simp, fun a ha b hb e => hp (by rw [List.mem_singleton.1 hb] at e; exact e ▸ ha)⟩
     ·show (t.paths ++ [x.path]).length ≤ 16384
      have := h.p16
      rw [List.length_append, List.length_singleton]; omega
     ·rcases List.mem_append.1 hr with hr | hr
      ·exact List.mem_append.2 (Or.inl (h.rp r hr))
      ·rw [List.mem_singleton.1 hr]; exact List.mem_append.2 (Or.inr (by simp))
     ·rcases List.mem_append.1 hp with hp | hp
      ·obtain ⟨r, hr, e⟩ := h.pr p hp
       exact ⟨r, List.mem_append.2 (Or.inl hr), e⟩
      ·exact ⟨_, List.mem_append.2 (Or.inr (List.mem_singleton.2 rfl)), (List.mem_singleton.1 hp).symm⟩
theorem head_tb {t : Tb} (h : TbOk t) (d : Dc) : TbOk (headF t d).2 := by
 unfold headF
 split
 ·exact h
 split
 ·exact h
 rename_i h1 h2
 split
 ·exact h
 ·rename_i h3
  refine ⟨?_, h.paths, ?_, h.p16, h.rows, h.als, h.root, h.rp, h.pr⟩
  ·show (t.names ++ [d.loc]).Nodup
   rw [List.nodup_append]
   exact ⟨h.names, by simp, fun a ha b hb e => h2 (Or.inr (by rw [List.mem_singleton.1 hb] at e; exact e ▸ ha))⟩
  ·show (t.names ++ [d.loc]).length ≤ 512
   have := h.n512
   rw [List.length_append, List.length_singleton]; omega
end Go.Proofs.YtbbmdbolkicpcaaGreatDoor
