/- Likely, the plain law: what goes without saying. No program in sight. -/
import Derived.Test.YtlmgmifaknlolaaGreatCanonF
set_option linter.unusedVariables false
set_option linter.unusedSimpArgs false
namespace Go.Proofs.YtlmgmifaknlolaaGreat

/-- a tag's language, script and region -/
structure Pt where
  l : Str
  s : Str
  r : Str
deriving DecidableEq
def Pt.zero : Pt := ⟨[], [], []⟩
def Pt.full (p : Pt) : Prop := p.l ≠ [] ∧ p.s ≠ [] ∧ p.r ≠ []
instance (p : Pt) : Decidable p.full := by unfold Pt.full; infer_instance
def Pt.tag (p : Pt) : Tg := ⟨p.l, p.s, p.r, [], []⟩
def ptOf (t : Tg) : Pt := ⟨t.lang, t.script, t.region⟩
/-- the printed form of parts -/
def ptKey (p : Pt) : Str := (printF p.tag).1
/-- the parts of a key -/
def ptRead (k : Str) : Pt × Bool := if (parseF k).err ≠ 0 ∨ (parseF k).tag.vars ≠ [] ∨ (parseF k).tag.keys ≠ [] then (Pt.zero, false) else (ptOf (parseF k).tag, ptKey (ptOf (parseF k).tag) == k)
/-- the key in the reference's words -/
def ptKeyR (p : Pt) : Str := headPart p.l ++ jt (opt p.s ++ opt p.r)

theorem pt_tag {t : Tg} (hv : t.vars = []) (hk : t.keys = []) : (ptOf t).tag = t := by
  cases t; simp only at hv hk; subst hv; subst hk; rfl
theorem key_good {p : Pt} (h : Good p.tag) : ptKey p = ptKeyR p := by
  unfold ptKey ptKeyR
  rw [good_print _ h]
  show writeF p.tag = _
  rw [write_R _ h.canon, partsR_K]
  unfold partsK
  rw [join_jt]
  show headPart p.l ++ jt (opt p.s ++ opt p.r ++ [] ++ kuParts []) = _
  rw [show kuParts ([] : List (Str × Str)) = [] from rfl, List.append_nil, List.append_nil]
theorem key_back {p : Pt} (h : Good p.tag) : ptRead (ptKey p) = (p, true) := by
  have h1 : ptKey p = writeF p.tag := by unfold ptKey; rw [good_print _ h]
  have h2 := good_back _ h
  rw [← h1] at h2
  unfold ptRead
  rw [h2, if_neg (by simp [Pt.tag])]
  simp [ptOf, Pt.tag]
theorem read_ok {k : Str} {p : Pt} (h : ptRead k = (p, true)) : Good p.tag ∧ ptKey p = k ∧ parseF k = ⟨p.tag, 0, (parseF k).pos⟩ := by
  unfold ptRead at h
  split at h
  · cases h
  · rename_i hn
    have he : (parseF k).err = 0 := by
      apply Classical.byContradiction; intro e; exact hn (Or.inl e)
    have hv : (parseF k).tag.vars = [] := by
      apply Classical.byContradiction; intro e; exact hn (Or.inr (Or.inl e))
    have hk : (parseF k).tag.keys = [] := by
      apply Classical.byContradiction; intro e; exact hn (Or.inr (Or.inr e))
    have hg := good_of k he
    have ht := pt_tag hv hk
    obtain ⟨h1, h2⟩ := Prod.mk.inj h
    subst h1
    rw [ht]
    refine ⟨hg, by simpa using h2, ?_⟩
    generalize parseF k = x at *
    cases x
    simp only at *
    subst he
    rfl
/-- the reference's reading of a key is the same -/
theorem read_ref (k : Str) : ptRead k = if (parseF k).err ≠ 0 ∨ (parseF k).tag.vars ≠ [] ∨ (parseF k).tag.keys ≠ [] then (Pt.zero, false) else (ptOf (parseF k).tag, ptKeyR (ptOf (parseF k).tag) == k) := by
  unfold ptRead
  split
  · rfl
  · rename_i hn
    have he : (parseF k).err = 0 := by
      apply Classical.byContradiction; intro e; exact hn (Or.inl e)
    have hv : (parseF k).tag.vars = [] := by
      apply Classical.byContradiction; intro e; exact hn (Or.inr (Or.inl e))
    have hk : (parseF k).tag.keys = [] := by
      apply Classical.byContradiction; intro e; exact hn (Or.inr (Or.inr e))
    rw [key_good (by rw [pt_tag hv hk]; exact good_of k he)]

/-- what is said of parts -/
def lookP : List (Pt × Pt) → Pt → Option Pt
  | [], _ => none
  | x :: D, p => if x.1 = p then some x.2 else lookP D p
theorem lookP_mem {D : List (Pt × Pt)} {p q : Pt} (h : lookP D p = some q) : (p, q) ∈ D := by
  induction D with
  | nil => cases h
  | cons x D ih =>
    unfold lookP at h
    split at h
    · rename_i hk
      subst hk
      cases h
      exact List.mem_cons_self
    · exact List.mem_cons_of_mem _ (ih h)
theorem lookP_none {D : List (Pt × Pt)} {p : Pt} : lookP D p = none ↔ ∀ x ∈ D, x.1 ≠ p := by
  induction D with
  | nil => simp [lookP]
  | cons x D ih => rw [lookP]; split <;> simp_all
theorem lookP_append (D E : List (Pt × Pt)) (p : Pt) : lookP (D ++ E) p = (lookP D p).or (lookP E p) := by
  induction D with
  | nil => simp [lookP]
  | cons x D ih => rw [List.cons_append, lookP, lookP]; split <;> simp_all
/-- with keys that differ, what is said is the same in any order -/
theorem lookP_is {D : List (Pt × Pt)} (hd : D.Pairwise (fun a b => a.1 ≠ b.1)) {x : Pt × Pt} (hx : x ∈ D) : lookP D x.1 = some x.2 := by
  induction D with
  | nil => cases hx
  | cons y D ih =>
    rw [List.pairwise_cons] at hd
    rw [lookP]
    rcases List.mem_cons.1 hx with rfl | hx
    · simp
    · rw [if_neg (hd.1 x hx), ih hd.2 hx]
theorem lookP_perm {D E : List (Pt × Pt)} (hd : D.Pairwise (fun a b => a.1 ≠ b.1)) (hp : E.Perm D) (p : Pt) : lookP E p = lookP D p := by
  have he : E.Pairwise (fun a b => a.1 ≠ b.1) := (hp.pairwise_iff (fun h => Ne.symm h)).2 hd
  cases h : lookP E p with
  | some q =>
    have := lookP_is hd (hp.mem_iff.1 (lookP_mem h))
    exact this.symm
  | none =>
    cases h2 : lookP D p with
    | none => rfl
    | some q =>
      have := lookP_is he (hp.mem_iff.2 (lookP_mem h2))
      rw [h] at this
      cases this

/-- the keys that are tried, in order -/
def tryKeys (p : Pt) : List Pt :=
  (if p.s ≠ [] ∧ p.r ≠ [] then [p] else []) ++ ((if p.r ≠ [] then [⟨p.l, [], p.r⟩] else []) ++ ((if p.s ≠ [] then [⟨p.l, p.s, []⟩] else []) ++ ([⟨p.l, [], []⟩] ++ (if p.s ≠ [] then [⟨[], p.s, []⟩] else []))))
def orStr (a b : Str) : Str := if a = [] then b else a
def fillP (p q : Pt) : Pt := ⟨orStr p.l q.l, orStr p.s q.s, orStr p.r q.r⟩
def findP (D : List (Pt × Pt)) : List Pt → Option Pt
  | [] => none
  | k :: ks => match lookP D k with
    | some q => some q
    | none => findP D ks
/-- parts with those that are likely -/
def addP (D : List (Pt × Pt)) (p : Pt) : Pt × Bool := if p.full then (p, true) else match findP D (tryKeys p) with
  | some q => (fillP p q, true)
  | none => (p, false)
theorem findP_mem {D : List (Pt × Pt)} {ks : List Pt} {q : Pt} (h : findP D ks = some q) : ∃ k ∈ ks, (k, q) ∈ D := by
  induction ks with
  | nil => cases h
  | cons k ks ih =>
    unfold findP at h
    cases hl : lookP D k with
    | some y => rw [hl] at h; cases h; exact ⟨k, List.mem_cons_self, lookP_mem hl⟩
    | none => rw [hl] at h; obtain ⟨k2, h1, h2⟩ := ih h; exact ⟨k2, List.mem_cons_of_mem _ h1, h2⟩
theorem orStr_keeps (a b : Str) : a ≠ [] → orStr a b = a := fun h => if_neg h
theorem orStr_ne {a b : Str} (h : b ≠ []) : orStr a b ≠ [] := by unfold orStr; split <;> assumption
/-- what is said leads to full parts -/
def saidP (D : List (Pt × Pt)) : Prop := (∀ x ∈ D, x.2.full) ∧ D.Pairwise (fun a b => a.1 ≠ b.1)
theorem addP_full {D : List (Pt × Pt)} (hD : saidP D) {p q : Pt} (h : addP D p = (q, true)) : q.full := by
  unfold addP at h
  split at h
  · rename_i hf; cases h; exact hf
  · cases hf : findP D (tryKeys p) with
    | none => rw [hf] at h; simp at h
    | some y =>
      rw [hf] at h
      simp at h
      subst h
      obtain ⟨k, _, hk⟩ := findP_mem hf
      obtain ⟨h1, h2, h3⟩ := hD.1 _ hk
      exact ⟨orStr_ne h1, orStr_ne h2, orStr_ne h3⟩
theorem addP_keeps {D : List (Pt × Pt)} {p q : Pt} {ok : Bool} (h : addP D p = (q, ok)) : (p.l ≠ [] → q.l = p.l) ∧ (p.s ≠ [] → q.s = p.s) ∧ (p.r ≠ [] → q.r = p.r) := by
  unfold addP at h
  split at h
  · cases h; exact ⟨fun _ => rfl, fun _ => rfl, fun _ => rfl⟩
  · cases hf : findP D (tryKeys p) with
    | none => rw [hf] at h; cases h; exact ⟨fun _ => rfl, fun _ => rfl, fun _ => rfl⟩
    | some y => rw [hf] at h; cases h; exact ⟨orStr_keeps _ _, orStr_keeps _ _, orStr_keeps _ _⟩
theorem addP_no {D : List (Pt × Pt)} {p q : Pt} (h : addP D p = (q, false)) : q = p := by
  unfold addP at h
  split at h
  · cases h
  · cases hf : findP D (tryKeys p) with
    | none => rw [hf] at h; cases h; rfl
    | some y => rw [hf] at h; cases h
theorem findP_same {D E : List (Pt × Pt)} (h : ∀ p, lookP D p = lookP E p) (ks : List Pt) : findP D ks = findP E ks := by
  induction ks with
  | nil => rfl
  | cons k ks ih => unfold findP; rw [h, ih]
theorem addP_same {D E : List (Pt × Pt)} (h : ∀ p, lookP D p = lookP E p) (p : Pt) : addP D p = addP E p := by
  unfold addP; rw [findP_same h]

/-- a tag with other parts -/
def withT (t : Tg) (p : Pt) : Tg := { t with lang := p.l, script := p.s, region := p.r }
theorem with_of (t : Tg) : withT t (ptOf t) = t := rfl
/-- a tag with its likely parts -/
def addT (D : List (Pt × Pt)) (t : Tg) : Tg × Bool :=
  if checkF t ≠ 0 then (Tg.zero, false) else
  if (addP D (ptOf t)).2 = false ∨ checkF (withT t (addP D (ptOf t)).1) = 0 then (withT t (addP D (ptOf t)).1, (addP D (ptOf t)).2) else (t, false)
/-- the parts that may stand for m, in order -/
def leftKeys (m : Pt) : List Pt := [⟨m.l, [], []⟩, ⟨m.l, [], m.r⟩, ⟨m.l, m.s, []⟩]
def leastP (D : List (Pt × Pt)) (m : Pt) : Pt := ((leftKeys m).find? (fun p => decide (addP D p = (m, true)))).getD m
/-- a tag without what goes without saying -/
def removeT (D : List (Pt × Pt)) (t : Tg) : Tg × Bool :=
  if checkF t ≠ 0 then (Tg.zero, false) else
  if (addP D (ptOf t)).2 = false ∨ checkF (withT t (addP D (ptOf t)).1) ≠ 0 then (t, false) else (withT t (leastP D (addP D (ptOf t)).1), true)
theorem least_parts (D : List (Pt × Pt)) (m : Pt) : (leastP D m).l = m.l ∧ ((leastP D m).s = [] ∨ (leastP D m).s = m.s) ∧ ((leastP D m).r = [] ∨ (leastP D m).r = m.r) := by
  unfold leastP
  cases h : (leftKeys m).find? (fun p => decide (addP D p = (m, true))) with
  | none => exact ⟨rfl, Or.inr rfl, Or.inr rfl⟩
  | some q =>
    have := List.mem_of_find?_eq_some h
    simp only [leftKeys, List.mem_cons, List.not_mem_nil, or_false] at this
    rcases this with rfl | rfl | rfl
    · exact ⟨rfl, Or.inl rfl, Or.inl rfl⟩
    · exact ⟨rfl, Or.inl rfl, Or.inr rfl⟩
    · exact ⟨rfl, Or.inr rfl, Or.inl rfl⟩
/-- LikelyKeeps: both tell the same -/
theorem keeps_ok {D : List (Pt × Pt)} {t m n : Tg} {ok is : Bool} (h : addT D t = (m, ok)) (h2 : removeT D t = (n, is)) : is = ok := by
  unfold addT at h
  unfold removeT at h2
  by_cases hc : checkF t ≠ 0
  · rw [if_pos hc] at h h2
    cases h; cases h2; rfl
  · rw [if_neg hc] at h h2
    by_cases ha : (addP D (ptOf t)).2 = false
    · rw [if_pos (Or.inl ha)] at h h2
      rw [ha] at h
      cases h; cases h2; rfl
    · have hat : (addP D (ptOf t)).2 = true := by simpa using ha
      by_cases hm : checkF (withT t (addP D (ptOf t)).1) = 0
      · rw [if_pos (Or.inr hm), hat] at h
        rw [if_neg (fun e => e.elim ha (fun e => e hm))] at h2
        cases h; cases h2; rfl
      · rw [if_neg (fun e => e.elim ha hm)] at h
        rw [if_pos (Or.inr hm)] at h2
        cases h; cases h2; rfl
theorem keeps_add {D : List (Pt × Pt)} (hD : saidP D) {t m : Tg} (h : addT D t = (m, true)) : (ptOf m).full ∧ (t.lang ≠ [] → m.lang = t.lang) ∧ (t.script ≠ [] → m.script = t.script) ∧ (t.region ≠ [] → m.region = t.region) := by
  unfold addT at h
  split at h
  · cases h
  · split at h
    · cases ha : addP D (ptOf t) with
      | mk q ok =>
        rw [ha] at h
        obtain ⟨h1, h2⟩ := Prod.mk.inj h
        simp only at h1 h2
        subst h1 h2
        exact ⟨addP_full hD ha, addP_keeps ha⟩
    · cases h
theorem keeps_remove {D : List (Pt × Pt)} {t m n : Tg} (h : addT D t = (m, true)) (h2 : removeT D t = (n, true)) : n.lang = m.lang ∧ (n.script = [] ∨ n.script = m.script) ∧ (n.region = [] ∨ n.region = m.region) := by
  unfold addT at h
  unfold removeT at h2
  split at h
  · cases h
  · rename_i hc
    rw [if_neg hc] at h2
    split at h2
    · cases h2
    · obtain ⟨h3, _⟩ := Prod.mk.inj h2
      subst h3
      split at h
      · obtain ⟨h4, _⟩ := Prod.mk.inj h
        subst h4
        exact least_parts D _
      · cases h
end Go.Proofs.YtlmgmifaknlolaaGreat
