/- Likely, the plain law, third part: the reference's answers are the program's. No program in sight. -/
import Derived.Test.YtlmgmifaknlolaaGreatLikelyQ
set_option linter.unusedVariables false
set_option linter.unusedSimpArgs false
namespace Go.Proofs.YtlmgmifaknlolaaGreat

theorem sameB_eq {a b : Tg} (h : sameB a b = true) : a = b := by
  unfold sameB at h
  simp only [Bool.and_eq_true, beq_iff_eq, decide_eq_true_eq] at h
  obtain ⟨h1, h2, h3, h4, h5⟩ := h
  cases a; cases b
  simp only at *
  subst h1 h2 h3 h4 h5
  rfl
theorem check_good {t : Tg} (h : checkF t = 0) : Good t := by
  unfold checkF at h
  by_cases hc : (parseF (writeF t)).err ≠ 0 ∨ sameB (parseF (writeF t)).tag t = false
  · rw [if_pos hc] at h; cases h
  · have he : (parseF (writeF t)).err = 0 := by apply Classical.byContradiction; intro e; exact hc (Or.inl e)
    have hs : sameB (parseF (writeF t)).tag t = true := by
      cases hq : sameB (parseF (writeF t)).tag t with
      | true => rfl
      | false => exact absurd (Or.inr hq) hc
    rw [← sameB_eq hs]
    exact good_of _ he
theorem check_iff (t : Tg) : checkF t = 0 ↔ Good t := ⟨check_good, good_check t⟩
/-- the reference's print, whatever the tag has -/
def printR (t : Tg) : Str := headPart t.lang ++ jt (opt t.script ++ opt t.region ++ t.vars ++ uPart t.keys ++ t.keys.flatMap pairParts)
def rightF (t : Tg) : Bool := decide (∀ v ∈ t.vars, v ≠ []) && ((parseF (printR t)).err == 0 && sameB (parseF (printR t)).tag t)
theorem full_ne : ∀ (l : List Str), (∀ v ∈ l, v ≠ []) → l.filter full = l := by
  intro l h
  refine List.filter_eq_self.2 fun v hv => ?_
  have := h v hv
  unfold full
  cases v with
  | nil => exact absurd rfl this
  | cons => rfl
theorem print_write {t : Tg} (h : ∀ v ∈ t.vars, v ≠ []) : printR t = writeF t := by
  unfold printR writeF parts partsA
  rw [List.cons_append, join_jt, List.filter_append, full_ne _ h, show [t.script, t.region] = [t.script] ++ [t.region] from rfl, List.filter_append, full_opt, full_opt]
  simp only [List.append_assoc]
theorem good_vars {t : Tg} (h : Good t) : ∀ v ∈ t.vars, v ≠ [] := fun v hv e => by
  have := (variant_clean (h.canon.vars.2.1 v hv).1).2.1
  rw [e] at this
  simp at this
theorem right_eq (t : Tg) : rightF t = (checkF t == 0) := by
  unfold rightF
  by_cases hv : ∀ v ∈ t.vars, v ≠ []
  · rw [print_write hv, decide_eq_true hv, Bool.true_and]
    unfold checkF
    by_cases he : (parseF (writeF t)).err = 0
    · cases hs : sameB (parseF (writeF t)).tag t with
      | true => rw [if_neg (by simp [he])]; simp [he]
      | false => rw [if_pos (Or.inr rfl)]; simp
    · rw [if_pos (Or.inl he)]; simp [he]
  · rw [decide_eq_false hv, Bool.false_and]
    symm
    rw [beq_eq_false_iff_ne]
    exact fun e => hv (good_vars (check_good e))
theorem right_good {t : Tg} (h : Good t) : rightF t = true := by rw [right_eq, good_check t h]; rfl

/-- parts of a good tag are good -/
theorem good_sub {t : Tg} (h : Good t) {a b c : Str} (ha : a = t.lang ∨ a = []) (hb : b = t.script ∨ b = []) (hc : c = t.region ∨ c = []) : Good (Pt.tag ⟨a, b, c⟩) := by
  have hs := h.short
  unfold partsR at hs
  rw [sz_cons, sz_append, sz_append, sz_append] at hs
  have e1 : sz (opt b) ≤ sz (opt t.script) := by
    rcases hb with rfl | rfl
    · exact Nat.le_refl _
    · rw [opt_nil, sz_nil]; exact Nat.zero_le _
  have e2 : sz (opt c) ≤ sz (opt t.region) := by
    rcases hc with rfl | rfl
    · exact Nat.le_refl _
    · rw [opt_nil, sz_nil]; exact Nat.zero_le _
  rcases ha with rfl | rfl
  · refine ⟨⟨h.canon.lang, ?_, ?_, VarsOK.nil, srtS_nil, KeysOK.nil, srtK_nil⟩, ?_⟩
    · rcases hb with rfl | rfl
      · exact h.canon.script
      · exact Or.inl rfl
    · rcases hc with rfl | rfl
      · exact h.canon.region
      · exact Or.inl rfl
    · show sz (headPart t.lang :: (opt b ++ opt c ++ [] ++ kuParts [])) ≤ 129
      rw [sz_cons, sz_append, sz_append, sz_append]
      have : sz (kuParts []) = 0 := rfl
      rw [sz_nil]
      omega
  · refine ⟨⟨Or.inl rfl, ?_, ?_, VarsOK.nil, srtS_nil, KeysOK.nil, srtK_nil⟩, ?_⟩
    · rcases hb with rfl | rfl
      · exact h.canon.script
      · exact Or.inl rfl
    · rcases hc with rfl | rfl
      · exact h.canon.region
      · exact Or.inl rfl
    · show sz (headPart [] :: (opt b ++ opt c ++ [] ++ kuParts [])) ≤ 129
      rw [sz_cons, sz_append, sz_append, sz_append]
      have : sz (kuParts []) = 0 := rfl
      rw [sz_nil]
      have h3 : (headPart []).length = 3 := rfl
      have h4 : (opt b) = [] ∨ (opt b).length = 1 := by unfold opt; split <;> simp
      have e1' : sz (opt b) ≤ 5 := by
        rcases hb with rfl | rfl
        · unfold opt
          split
          · rw [sz_nil]; omega
          · rename_i hne
            have := (script_clean (h.canon.script.resolve_left hne).1).2
            rw [sz_cons, sz_nil]
            omega
        · rw [opt_nil, sz_nil]; omega
      have e2' : sz (opt c) ≤ 4 := by
        rcases hc with rfl | rfl
        · unfold opt
          split
          · rw [sz_nil]; omega
          · rename_i hne
            have := (region_clean (h.canon.region.resolve_left hne).1).2
            rw [sz_cons, sz_nil]
            omega
        · rw [opt_nil, sz_nil]; omega
      omega
theorem try_good {t : Tg} (h : Good t) : ∀ k ∈ tryKeys (ptOf t), Good k.tag := by
  intro k hk
  unfold tryKeys at hk
  simp only [List.mem_append] at hk
  rcases hk with hk | hk | hk | hk | hk
  · split at hk
    · rw [List.mem_singleton.1 hk]; exact good_sub h (Or.inl rfl) (Or.inl rfl) (Or.inl rfl)
    · cases hk
  · split at hk
    · rw [List.mem_singleton.1 hk]; exact good_sub h (Or.inl rfl) (Or.inr rfl) (Or.inl rfl)
    · cases hk
  · split at hk
    · rw [List.mem_singleton.1 hk]; exact good_sub h (Or.inl rfl) (Or.inl rfl) (Or.inr rfl)
    · cases hk
  · rw [List.mem_singleton.1 hk]; exact good_sub h (Or.inl rfl) (Or.inr rfl) (Or.inr rfl)
  · split at hk
    · rw [List.mem_singleton.1 hk]; exact good_sub h (Or.inr rfl) (Or.inl rfl) (Or.inr rfl)
    · cases hk

/-- the reference's keys, and what it finds of them -/
def keysRF (t : Tg) : List Str := (tryKeys (ptOf t)).map ptKeyR
def findKeys (l : List (Str × Str)) : List Str → Option Tg
  | [] => none
  | k :: ks => if (findR l k).2 = true then some (findR l k).1 else findKeys l ks
def addRF (l : List (Str × Str)) (t : Tg) : Tg × Bool :=
  if rightF t = false then (Tg.zero, false) else
  if t.lang ≠ [] ∧ t.script ≠ [] ∧ t.region ≠ [] then (t, true) else
  match findKeys l (keysRF t) with
  | some x => if rightF (withT t (fillP (ptOf t) (ptOf x))) = false then (t, false) else (withT t (fillP (ptOf t) (ptOf x)), true)
  | none => (t, false)
theorem findKeys_eq {l : List (Str × Str)} (hl : ∀ y ∈ l, okP y) : ∀ ks : List Pt, (∀ k ∈ ks, Good k.tag) → findKeys l (ks.map ptKeyR) = (findP (dOf l) ks).map Pt.tag
  | [], _ => rfl
  | k :: ks, h => by
    rw [List.map_cons, findKeys, findP, findR_eq hl (h k List.mem_cons_self)]
    cases hk : lookP (dOf l) k with
    | some q => simp
    | none => simpa using findKeys_eq hl ks fun y hy => h y (List.mem_cons_of_mem _ hy)
theorem addRF_eq {l : List (Str × Str)} (hl : ∀ y ∈ l, okP y) (t : Tg) : addRF l t = addT (dOf l) t := by
  unfold addRF addT
  rw [right_eq]
  by_cases hc : checkF t = 0
  · rw [if_neg (show ¬ ((checkF t == 0) = false) by simp [hc]), if_neg (show ¬ (checkF t ≠ 0) from fun e => e hc)]
    by_cases hf : (ptOf t).full
    · have : addP (dOf l) (ptOf t) = (ptOf t, true) := if_pos hf
      rw [if_pos (show t.lang ≠ [] ∧ t.script ≠ [] ∧ t.region ≠ [] from hf), this]
      rw [if_pos (Or.inr (show checkF (withT t (ptOf t)) = 0 from hc))]
      rfl
    · rw [if_neg (show ¬ (t.lang ≠ [] ∧ t.script ≠ [] ∧ t.region ≠ []) from hf)]
      unfold keysRF
      rw [findKeys_eq hl _ (try_good (check_good hc))]
      unfold addP
      rw [if_neg hf]
      cases hq : findP (dOf l) (tryKeys (ptOf t)) with
      | none => simp; rfl
      | some q =>
        simp only [Option.map_some]
        rw [show ptOf q.tag = q from rfl, right_eq]
        by_cases hg : checkF (withT t (fillP (ptOf t) q)) = 0
        · rw [if_neg (show ¬ ((checkF (withT t (fillP (ptOf t) q)) == 0) = false) by simp [hg]), if_pos (Or.inr hg)]
        · rw [if_pos (show (checkF (withT t (fillP (ptOf t) q)) == 0) = false by simp [hg]), if_neg (by rintro (e | e); cases e; exact hg e)]
  · rw [if_pos (show (checkF t == 0) = false by simp [hc]), if_pos (show checkF t ≠ 0 from hc)]
/-- the reference's Remove -/
def removeRF (l : List (Str × Str)) (t : Tg) : Tg × Bool :=
  if rightF t = false then (Tg.zero, false) else
  if (addRF l t).2 = false then (t, false) else
  match (leftKeys (ptOf (addRF l t).1) ++ [ptOf (addRF l t).1]).find? (fun p => (addRF l p.tag).2 && decide (ptOf (addRF l p.tag).1 = ptOf (addRF l t).1)) with
  | some p => (withT t p, true)
  | none => ((addRF l t).1, true)
theorem good_with {t : Tg} {p : Pt} (h : Good (withT t p)) : Good p.tag := good_sub h (Or.inl rfl) (Or.inl rfl) (Or.inl rfl)
theorem add_tag {D : List (Pt × Pt)} {p m : Pt} (hp : Good p.tag) (hm : Good m.tag) : ((addT D p.tag).2 && decide (ptOf (addT D p.tag).1 = m)) = decide (addP D p = (m, true)) := by
  unfold addT
  rw [if_neg (by simp [good_check _ hp])]
  rw [show ptOf p.tag = p from rfl]
  cases ha : addP D p with
  | mk q ok =>
    cases ok with
    | false => simp
    | true =>
      by_cases hq : q = m
      · subst hq
        rw [show withT p.tag q = q.tag from rfl, if_pos (Or.inr (good_check _ hm))]
        simp [ptOf, Pt.tag]
      · by_cases hc : checkF (withT p.tag q) = 0
        · rw [if_pos (Or.inr hc)]
          rw [show ptOf (withT p.tag q) = q from rfl]
          simp
        · rw [if_neg (by rintro (e | e); cases e; exact hc e)]
          simp [hq]
theorem left_good {m : Pt} (h : Good m.tag) : ∀ p ∈ leftKeys m ++ [m], Good p.tag := by
  intro p hp
  simp only [leftKeys, List.mem_append, List.mem_cons, List.not_mem_nil, or_false] at hp
  rcases hp with (rfl | rfl | rfl) | rfl
  · exact good_sub h (Or.inl rfl) (Or.inr rfl) (Or.inr rfl)
  · exact good_sub h (Or.inl rfl) (Or.inr rfl) (Or.inl rfl)
  · exact good_sub h (Or.inl rfl) (Or.inl rfl) (Or.inr rfl)
  · exact h
theorem find_congr {α : Type} {p q : α → Bool} : ∀ {l : List α}, (∀ x ∈ l, p x = q x) → l.find? p = l.find? q
  | [], _ => rfl
  | x :: l, h => by
    rw [List.find?_cons, List.find?_cons, h x List.mem_cons_self, find_congr fun y hy => h y (List.mem_cons_of_mem _ hy)]
theorem removeRF_eq {l : List (Str × Str)} (hl : ∀ y ∈ l, okP y) (hD : saidP (dOf l)) (t : Tg) : removeRF l t = removeT (dOf l) t := by
  unfold removeRF removeT
  rw [addRF_eq hl, right_eq]
  simp only [addRF_eq hl]
  by_cases hc : checkF t = 0
  · rw [if_neg (show ¬ ((checkF t == 0) = false) by simp [hc]), if_neg (show ¬ (checkF t ≠ 0) from fun e => e hc)]
    cases ha : addP (dOf l) (ptOf t) with
    | mk m ok =>
      cases ok with
      | false =>
        have h1 : addT (dOf l) t = (withT t m, false) := by unfold addT; rw [if_neg (show ¬ (checkF t ≠ 0) from fun e => e hc), ha, if_pos (Or.inl rfl)]
        rw [h1, if_pos rfl, if_pos (Or.inl rfl)]
      | true =>
        by_cases hm : checkF (withT t m) = 0
        · have h1 : addT (dOf l) t = (withT t m, true) := by unfold addT; rw [if_neg (show ¬ (checkF t ≠ 0) from fun e => e hc), ha, if_pos (Or.inr hm)]
          rw [h1, if_neg (show ¬ ((withT t m, true).2 = false) from fun e => by cases e), if_neg (by rintro (e | e); cases e; exact e hm)]
          have hg : Good m.tag := good_with (check_good hm)
          simp only
          rw [show ptOf (withT t m) = m from rfl]
          rw [find_congr (q := fun p => decide (addP (dOf l) p = (m, true))) fun p hp => add_tag (left_good hg p hp) hg]
          unfold leastP
          rw [List.find?_append]
          cases hq : (leftKeys m).find? (fun p => decide (addP (dOf l) p = (m, true))) with
          | some p => rfl
          | none =>
            have hfull : addP (dOf l) m = (m, true) := if_pos (addP_full hD ha)
            simp [List.find?_cons, hfull]
        · have h1 : addT (dOf l) t = (t, false) := by unfold addT; rw [if_neg (show ¬ (checkF t ≠ 0) from fun e => e hc), ha, if_neg (by rintro (e | e); cases e; exact hm e)]
          rw [h1, if_pos rfl, if_pos (Or.inr hm)]
  · rw [if_pos (show (checkF t == 0) = false by simp [hc]), if_pos (show checkF t ≠ 0 from hc)]
end Go.Proofs.YtlmgmifaknlolaaGreat
