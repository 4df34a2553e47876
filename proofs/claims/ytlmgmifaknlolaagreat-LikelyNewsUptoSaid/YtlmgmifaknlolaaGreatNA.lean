/- Several texts in one: LikelyP, LikelyQ, LikelyR, LikelyS. (joined by wip/merge.py) -/
import Derived.Test.YtlmgmifaknlolaaGreatCanonF

/- Likely, the plain law: what goes without saying. No program in sight. -/
set_option linter.unusedVariables false
set_option linter.unusedSimpArgs false
namespace Go.Proofs.YtlmgmifaknlolaaGreat

/-- a tag's language, script and region -/
structure Pt where
  l : Str
  s : Str
  r : Str
deriving DecidableEq
def Pt.zero : Pt := ⟨[], [], []⟩
def Pt.full (p : Pt) : Prop := p.l ≠ [] ∧ p.s ≠ [] ∧ p.r ≠ []
instance (p : Pt) : Decidable p.full := by unfold Pt.full; infer_instance
def Pt.tag (p : Pt) : Tg := ⟨p.l, p.s, p.r, [], []⟩
def ptOf (t : Tg) : Pt := ⟨t.lang, t.script, t.region⟩
/-- the printed form of parts -/
def ptKey (p : Pt) : Str := (printF p.tag).1
/-- the parts of a key -/
def ptRead (k : Str) : Pt × Bool := if (parseF k).err ≠ 0 ∨ (parseF k).tag.vars ≠ [] ∨ (parseF k).tag.keys ≠ [] then (Pt.zero, false) else (ptOf (parseF k).tag, ptKey (ptOf (parseF k).tag) == k)
/-- the key in the reference's words -/
def ptKeyR (p : Pt) : Str := headPart p.l ++ jt (opt p.s ++ opt p.r)

theorem pt_tag {t : Tg} (hv : t.vars = []) (hk : t.keys = []) : (ptOf t).tag = t := by
  cases t; simp only at hv hk; subst hv; subst hk; rfl
theorem key_good {p : Pt} (h : Good p.tag) : ptKey p = ptKeyR p := by
  unfold ptKey ptKeyR
  rw [good_print _ h]
  show writeF p.tag = _
  rw [write_R _ h.canon, partsR_K]
  unfold partsK
  rw [join_jt]
  show headPart p.l ++ jt (opt p.s ++ opt p.r ++ [] ++ kuParts []) = _
  rw [show kuParts ([] : List (Str × Str)) = [] from rfl, List.append_nil, List.append_nil]
theorem key_back {p : Pt} (h : Good p.tag) : ptRead (ptKey p) = (p, true) := by
  have h1 : ptKey p = writeF p.tag := by unfold ptKey; rw [good_print _ h]
  have h2 := good_back _ h
  rw [← h1] at h2
  unfold ptRead
  rw [h2, if_neg (by simp [Pt.tag])]
  simp [ptOf, Pt.tag]
theorem read_ok {k : Str} {p : Pt} (h : ptRead k = (p, true)) : Good p.tag ∧ ptKey p = k ∧ parseF k = ⟨p.tag, 0, (parseF k).pos⟩ := by
  unfold ptRead at h
  split at h
  · cases h
  · rename_i hn
    have he : (parseF k).err = 0 := by
      apply Classical.byContradiction; intro e; exact hn (Or.inl e)
    have hv : (parseF k).tag.vars = [] := by
      apply Classical.byContradiction; intro e; exact hn (Or.inr (Or.inl e))
    have hk : (parseF k).tag.keys = [] := by
      apply Classical.byContradiction; intro e; exact hn (Or.inr (Or.inr e))
    have hg := good_of k he
    have ht := pt_tag hv hk
    obtain ⟨h1, h2⟩ := Prod.mk.inj h
    subst h1
    rw [ht]
    refine ⟨hg, by simpa using h2, ?_⟩
    generalize parseF k = x at *
    cases x
    simp only at *
    subst he
    rfl
/-- the reference's reading of a key is the same -/
theorem read_ref (k : Str) : ptRead k = if (parseF k).err ≠ 0 ∨ (parseF k).tag.vars ≠ [] ∨ (parseF k).tag.keys ≠ [] then (Pt.zero, false) else (ptOf (parseF k).tag, ptKeyR (ptOf (parseF k).tag) == k) := by
  unfold ptRead
  split
  · rfl
  · rename_i hn
    have he : (parseF k).err = 0 := by
      apply Classical.byContradiction; intro e; exact hn (Or.inl e)
    have hv : (parseF k).tag.vars = [] := by
      apply Classical.byContradiction; intro e; exact hn (Or.inr (Or.inl e))
    have hk : (parseF k).tag.keys = [] := by
      apply Classical.byContradiction; intro e; exact hn (Or.inr (Or.inr e))
    rw [key_good (by rw [pt_tag hv hk]; exact good_of k he)]

/-- what is said of parts -/
def lookP : List (Pt × Pt) → Pt → Option Pt
  | [], _ => none
  | x :: D, p => if x.1 = p then some x.2 else lookP D p
theorem lookP_mem {D : List (Pt × Pt)} {p q : Pt} (h : lookP D p = some q) : (p, q) ∈ D := by
  induction D with
  | nil => cases h
  | cons x D ih =>
    unfold lookP at h
    split at h
    · rename_i hk
      subst hk
      cases h
      exact List.mem_cons_self
    · exact List.mem_cons_of_mem _ (ih h)
theorem lookP_none {D : List (Pt × Pt)} {p : Pt} : lookP D p = none ↔ ∀ x ∈ D, x.1 ≠ p := by
  induction D with
  | nil => simp [lookP]
  | cons x D ih => rw [lookP]; split <;> simp_all
theorem lookP_append (D E : List (Pt × Pt)) (p : Pt) : lookP (D ++ E) p = (lookP D p).or (lookP E p) := by
  induction D with
  | nil => simp [lookP]
  | cons x D ih => rw [List.cons_append, lookP, lookP]; split <;> simp_all
/-- with keys that differ, what is said is the same in any order -/
theorem lookP_is {D : List (Pt × Pt)} (hd : D.Pairwise (fun a b => a.1 ≠ b.1)) {x : Pt × Pt} (hx : x ∈ D) : lookP D x.1 = some x.2 := by
  induction D with
  | nil => cases hx
  | cons y D ih =>
    rw [List.pairwise_cons] at hd
    rw [lookP]
    rcases List.mem_cons.1 hx with rfl | hx
    · simp
    · rw [if_neg (hd.1 x hx), ih hd.2 hx]
theorem lookP_perm {D E : List (Pt × Pt)} (hd : D.Pairwise (fun a b => a.1 ≠ b.1)) (hp : E.Perm D) (p : Pt) : lookP E p = lookP D p := by
  have he : E.Pairwise (fun a b => a.1 ≠ b.1) := (hp.pairwise_iff (fun h => Ne.symm h)).2 hd
  cases h : lookP E p with
  | some q =>
    have := lookP_is hd (hp.mem_iff.1 (lookP_mem h))
    exact this.symm
  | none =>
    cases h2 : lookP D p with
    | none => rfl
    | some q =>
      have := lookP_is he (hp.mem_iff.2 (lookP_mem h2))
      rw [h] at this
      cases this

/-- the keys that are tried, in order -/
def tryKeys (p : Pt) : List Pt :=
  (if p.s ≠ [] ∧ p.r ≠ [] then [p] else []) ++ ((if p.r ≠ [] then [⟨p.l, [], p.r⟩] else []) ++ ((if p.s ≠ [] then [⟨p.l, p.s, []⟩] else []) ++ ([⟨p.l, [], []⟩] ++ (if p.s ≠ [] then [⟨[], p.s, []⟩] else []))))
def orStr (a b : Str) : Str := if a = [] then b else a
def fillP (p q : Pt) : Pt := ⟨orStr p.l q.l, orStr p.s q.s, orStr p.r q.r⟩
def findP (D : List (Pt × Pt)) : List Pt → Option Pt
  | [] => none
  | k :: ks => match lookP D k with
    | some q => some q
    | none => findP D ks
/-- parts with those that are likely -/
def addP (D : List (Pt × Pt)) (p : Pt) : Pt × Bool := if p.full then (p, true) else match findP D (tryKeys p) with
  | some q => (fillP p q, true)
  | none => (p, false)
theorem findP_mem {D : List (Pt × Pt)} {ks : List Pt} {q : Pt} (h : findP D ks = some q) : ∃ k ∈ ks, (k, q) ∈ D := by
  induction ks with
  | nil => cases h
  | cons k ks ih =>
    unfold findP at h
    cases hl : lookP D k with
    | some y => rw [hl] at h; cases h; exact ⟨k, List.mem_cons_self, lookP_mem hl⟩
    | none => rw [hl] at h; obtain ⟨k2, h1, h2⟩ := ih h; exact ⟨k2, List.mem_cons_of_mem _ h1, h2⟩
theorem orStr_keeps (a b : Str) : a ≠ [] → orStr a b = a := fun h => if_neg h
theorem orStr_ne {a b : Str} (h : b ≠ []) : orStr a b ≠ [] := by unfold orStr; split <;> assumption
/-- what is said leads to full parts -/
def saidP (D : List (Pt × Pt)) : Prop := (∀ x ∈ D, x.2.full) ∧ D.Pairwise (fun a b => a.1 ≠ b.1)
theorem addP_full {D : List (Pt × Pt)} (hD : saidP D) {p q : Pt} (h : addP D p = (q, true)) : q.full := by
  unfold addP at h
  split at h
  · rename_i hf; cases h; exact hf
  · cases hf : findP D (tryKeys p) with
    | none => rw [hf] at h; simp at h
    | some y =>
      rw [hf] at h
      simp at h
      subst h
      obtain ⟨k, _, hk⟩ := findP_mem hf
      obtain ⟨h1, h2, h3⟩ := hD.1 _ hk
      exact ⟨orStr_ne h1, orStr_ne h2, orStr_ne h3⟩
theorem addP_keeps {D : List (Pt × Pt)} {p q : Pt} {ok : Bool} (h : addP D p = (q, ok)) : (p.l ≠ [] → q.l = p.l) ∧ (p.s ≠ [] → q.s = p.s) ∧ (p.r ≠ [] → q.r = p.r) := by
  unfold addP at h
  split at h
  · cases h; exact ⟨fun _ => rfl, fun _ => rfl, fun _ => rfl⟩
  · cases hf : findP D (tryKeys p) with
    | none => rw [hf] at h; cases h; exact ⟨fun _ => rfl, fun _ => rfl, fun _ => rfl⟩
    | some y => rw [hf] at h; cases h; exact ⟨orStr_keeps _ _, orStr_keeps _ _, orStr_keeps _ _⟩
theorem addP_no {D : List (Pt × Pt)} {p q : Pt} (h : addP D p = (q, false)) : q = p := by
  unfold addP at h
  split at h
  · cases h
  · cases hf : findP D (tryKeys p) with
    | none => rw [hf] at h; cases h; rfl
    | some y => rw [hf] at h; cases h
theorem findP_same {D E : List (Pt × Pt)} (h : ∀ p, lookP D p = lookP E p) (ks : List Pt) : findP D ks = findP E ks := by
  induction ks with
  | nil => rfl
  | cons k ks ih => unfold findP; rw [h, ih]
theorem addP_same {D E : List (Pt × Pt)} (h : ∀ p, lookP D p = lookP E p) (p : Pt) : addP D p = addP E p := by
  unfold addP; rw [findP_same h]

/-- a tag with other parts -/
def withT (t : Tg) (p : Pt) : Tg := { t with lang := p.l, script := p.s, region := p.r }
theorem with_of (t : Tg) : withT t (ptOf t) = t := rfl
/-- a tag with its likely parts -/
def addT (D : List (Pt × Pt)) (t : Tg) : Tg × Bool :=
  if checkF t ≠ 0 then (Tg.zero, false) else
  if (addP D (ptOf t)).2 = false ∨ checkF (withT t (addP D (ptOf t)).1) = 0 then (withT t (addP D (ptOf t)).1, (addP D (ptOf t)).2) else (t, false)
/-- the parts that may stand for m, in order -/
def leftKeys (m : Pt) : List Pt := [⟨m.l, [], []⟩, ⟨m.l, [], m.r⟩, ⟨m.l, m.s, []⟩]
def leastP (D : List (Pt × Pt)) (m : Pt) : Pt := ((leftKeys m).find? (fun p => decide (addP D p = (m, true)))).getD m
/-- a tag without what goes without saying -/
def removeT (D : List (Pt × Pt)) (t : Tg) : Tg × Bool :=
  if checkF t ≠ 0 then (Tg.zero, false) else
  if (addP D (ptOf t)).2 = false ∨ checkF (withT t (addP D (ptOf t)).1) ≠ 0 then (t, false) else (withT t (leastP D (addP D (ptOf t)).1), true)
theorem least_parts (D : List (Pt × Pt)) (m : Pt) : (leastP D m).l = m.l ∧ ((leastP D m).s = [] ∨ (leastP D m).s = m.s) ∧ ((leastP D m).r = [] ∨ (leastP D m).r = m.r) := by
  unfold leastP
  cases h : (leftKeys m).find? (fun p => decide (addP D p = (m, true))) with
  | none => exact ⟨rfl, Or.inr rfl, Or.inr rfl⟩
  | some q =>
    have := List.mem_of_find?_eq_some h
    simp only [leftKeys, List.mem_cons, List.not_mem_nil, or_false] at this
    rcases this with rfl | rfl | rfl
    · exact ⟨rfl, Or.inl rfl, Or.inl rfl⟩
    · exact ⟨rfl, Or.inl rfl, Or.inr rfl⟩
    · exact ⟨rfl, Or.inr rfl, Or.inl rfl⟩
/-- LikelyKeeps: both tell the same -/
theorem keeps_ok {D : List (Pt × Pt)} {t m n : Tg} {ok is : Bool} (h : addT D t = (m, ok)) (h2 : removeT D t = (n, is)) : is = ok := by
  unfold addT at h
  unfold removeT at h2
  by_cases hc : checkF t ≠ 0
  · rw [if_pos hc] at h h2
    cases h; cases h2; rfl
  · rw [if_neg hc] at h h2
    by_cases ha : (addP D (ptOf t)).2 = false
    · rw [if_pos (Or.inl ha)] at h h2
      rw [ha] at h
      cases h; cases h2; rfl
    · have hat : (addP D (ptOf t)).2 = true := by simpa using ha
      by_cases hm : checkF (withT t (addP D (ptOf t)).1) = 0
      · rw [if_pos (Or.inr hm), hat] at h
        rw [if_neg (fun e => e.elim ha (fun e => e hm))] at h2
        cases h; cases h2; rfl
      · rw [if_neg (fun e => e.elim ha hm)] at h
        rw [if_pos (Or.inr hm)] at h2
        cases h; cases h2; rfl
theorem keeps_add {D : List (Pt × Pt)} (hD : saidP D) {t m : Tg} (h : addT D t = (m, true)) : (ptOf m).full ∧ (t.lang ≠ [] → m.lang = t.lang) ∧ (t.script ≠ [] → m.script = t.script) ∧ (t.region ≠ [] → m.region = t.region) := by
  unfold addT at h
  split at h
  · cases h
  · split at h
    · cases ha : addP D (ptOf t) with
      | mk q ok =>
        rw [ha] at h
        obtain ⟨h1, h2⟩ := Prod.mk.inj h
        simp only at h1 h2
        subst h1 h2
        exact ⟨addP_full hD ha, addP_keeps ha⟩
    · cases h
theorem keeps_remove {D : List (Pt × Pt)} {t m n : Tg} (h : addT D t = (m, true)) (h2 : removeT D t = (n, true)) : n.lang = m.lang ∧ (n.script = [] ∨ n.script = m.script) ∧ (n.region = [] ∨ n.region = m.region) := by
  unfold addT at h
  unfold removeT at h2
  split at h
  · cases h
  · rename_i hc
    rw [if_neg hc] at h2
    split at h2
    · cases h2
    · obtain ⟨h3, _⟩ := Prod.mk.inj h2
      subst h3
      split at h
      · obtain ⟨h4, _⟩ := Prod.mk.inj h
        subst h4
        exact least_parts D _
      · cases h
end Go.Proofs.YtlmgmifaknlolaaGreat

/- Likely, the plain law, second part: which pairs may be said, and what the reference finds. No program in sight. -/
set_option linter.unusedVariables false
set_option linter.unusedSimpArgs false
namespace Go.Proofs.YtlmgmifaknlolaaGreat

def entryP (x : Str × Str) : Pt × Pt := ((ptRead x.1).1, (ptRead x.2).1)
def okP (x : Str × Str) : Prop := (ptRead x.1).2 = true ∧ (ptRead x.2).2 = true ∧ (ptRead x.2).1.full
instance (x : Str × Str) : Decidable (okP x) := by unfold okP; infer_instance
def dOf (l : List (Str × Str)) : List (Pt × Pt) := l.map entryP
theorem dOf_len (l : List (Str × Str)) : (dOf l).length = l.length := List.length_map _
/-- what is wrong with what is said: the error and the place -/
def badL (D : List (Pt × Pt)) : List (Str × Str) → Option (Nat × Nat)
  | [] => none
  | x :: l => if okP x then (if lookP D (entryP x).1 = none then badL (D ++ [entryP x]) l else some (211, D.length)) else some (200, D.length)
theorem dOf_take {l : List (Str × Str)} {n : Nat} (h : n < l.length) : dOf (l.take (n + 1)) = dOf (l.take n) ++ [entryP l[n]] := by
  unfold dOf
  rw [List.take_add_one, List.getElem?_eq_getElem h, List.map_append]
  rfl
theorem badL_step {l : List (Str × Str)} {n : Nat} (h : n < l.length) : badL (dOf (l.take n)) (l.drop n) =
    if okP l[n] then (if lookP (dOf (l.take n)) (entryP l[n]).1 = none then badL (dOf (l.take (n + 1))) (l.drop (n + 1)) else some (211, n)) else some (200, n) := by
  have hl : (dOf (l.take n)).length = n := by rw [dOf_len, List.length_take]; omega
  rw [List.drop_eq_getElem_cons h, badL, dOf_take h, hl]
theorem badL_end (l : List (Str × Str)) : badL (dOf (l.take l.length)) (l.drop l.length) = none := by
  rw [List.drop_length]; rfl
theorem badL_none {D : List (Pt × Pt)} {l : List (Str × Str)} (h : badL D l = none) (hd : saidP D) : (∀ x ∈ l, okP x) ∧ saidP (D ++ dOf l) := by
  induction l generalizing D with
  | nil => exact ⟨fun x hx => (by cases hx), by unfold dOf; rw [List.map_nil, List.append_nil]; exact hd⟩
  | cons x l ih =>
    unfold badL at h
    split at h
    · rename_i hx
      split at h
      · rename_i hlk
        have hd2 : saidP (D ++ [entryP x]) := by
          refine ⟨fun y hy => ?_, ?_⟩
          · rcases List.mem_append.1 hy with hy | hy
            · exact hd.1 y hy
            · rw [List.mem_singleton.1 hy]; exact hx.2.2
          · rw [List.pairwise_append]
            refine ⟨hd.2, List.pairwise_singleton _ _, fun a ha b hb => ?_⟩
            rw [List.mem_singleton.1 hb]
            exact lookP_none.1 hlk a ha
        obtain ⟨h1, h2⟩ := ih h hd2
        refine ⟨fun y hy => ?_, ?_⟩
        · rcases List.mem_cons.1 hy with rfl | hy
          · exact hx
          · exact h1 y hy
        · rw [List.append_assoc] at h2
          exact h2
      · cases h
    · cases h
theorem badL_ok {l : List (Str × Str)} (h : badL [] l = none) : (∀ x ∈ l, okP x) ∧ saidP (dOf l) := badL_none (D := []) h ⟨fun x hx => (by cases hx), List.Pairwise.nil⟩
theorem badL_err {D : List (Pt × Pt)} {l : List (Str × Str)} {e i : Nat} (h : badL D l = some (e, i)) : e = 200 ∨ e = 211 := by
  induction l generalizing D with
  | nil => cases h
  | cons x l ih =>
    unfold badL at h
    split at h
    · split at h
      · exact ih h
      · cases h; exact Or.inr rfl
    · cases h; exact Or.inl rfl

/-- a key that may be is one with its parts -/
theorem key_one {a b : Str} (ha : (ptRead a).2 = true) (hb : (ptRead b).2 = true) : (ptRead a).1 = (ptRead b).1 ↔ a = b := by
  constructor
  · intro h
    have h1 := (read_ok (p := (ptRead a).1) (k := a) (by rw [← ha])).2.1
    have h2 := (read_ok (p := (ptRead b).1) (k := b) (by rw [← hb])).2.1
    rw [← h1, ← h2, h]
  · rintro rfl; rfl
theorem look_key {l : List (Str × Str)} (hl : ∀ y ∈ l, okP y) {x : Str × Str} (hx : okP x) : lookP (dOf l) (entryP x).1 = none ↔ ∀ q ∈ l, q.1 ≠ x.1 := by
  rw [lookP_none]
  unfold dOf
  constructor
  · intro h q hq e
    refine h (entryP q) (List.mem_map.2 ⟨q, hq, rfl⟩) ?_
    exact (key_one (hl q hq).1 hx.1).2 e
  · intro h y hy
    obtain ⟨q, hq, rfl⟩ := List.mem_map.1 hy
    intro e
    exact h q hq ((key_one (hl q hq).1 hx.1).1 e)

/-- the reference's tag of a key -/
def bareR (k : Str) : Tg × Bool := if (parseF k).err ≠ 0 ∨ (parseF k).tag.vars ≠ [] ∨ (parseF k).tag.keys ≠ [] ∨ ptKeyR (ptOf (parseF k).tag) ≠ k then (Tg.zero, false) else ((parseF k).tag, true)
theorem bareR_eq (k : Str) : (bareR k).2 = (ptRead k).2 ∧ ((ptRead k).2 = true → (bareR k).1 = (ptRead k).1.tag) := by
  rw [read_ref]
  unfold bareR
  by_cases h : (parseF k).err ≠ 0 ∨ (parseF k).tag.vars ≠ [] ∨ (parseF k).tag.keys ≠ []
  · rw [if_pos h, if_pos (by rcases h with h | h | h; exact Or.inl h; exact Or.inr (Or.inl h); exact Or.inr (Or.inr (Or.inl h)))]
    exact ⟨rfl, fun e => by cases e⟩
  · rw [if_neg h]
    by_cases h2 : ptKeyR (ptOf (parseF k).tag) = k
    · rw [if_neg (by rintro (e | e | e | e); exact h (Or.inl e); exact h (Or.inr (Or.inl e)); exact h (Or.inr (Or.inr e)); exact e h2)]
      refine ⟨by simp [h2], fun _ => ?_⟩
      have hv : (parseF k).tag.vars = [] := by apply Classical.byContradiction; intro e; exact h (Or.inr (Or.inl e))
      have hk : (parseF k).tag.keys = [] := by apply Classical.byContradiction; intro e; exact h (Or.inr (Or.inr e))
      exact (pt_tag hv hk).symm
    · rw [if_pos (Or.inr (Or.inr (Or.inr h2)))]
      exact ⟨by simp [h2], fun e => by simp [h2] at e⟩
/-- a pair that may be said, in the reference's words -/
theorem okP_ref (x : Str × Str) : okP x ↔ (bareR x.1).2 = true ∧ (bareR x.2).2 = true ∧ (bareR x.2).1.lang ≠ [] ∧ (bareR x.2).1.script ≠ [] ∧ (bareR x.2).1.region ≠ [] := by
  unfold okP
  rw [(bareR_eq x.1).1, (bareR_eq x.2).1]
  constructor
  · rintro ⟨h1, h2, h3⟩
    rw [(bareR_eq x.2).2 h2]
    exact ⟨h1, h2, h3.1, h3.2.1, h3.2.2⟩
  · rintro ⟨h1, h2, h3⟩
    rw [(bareR_eq x.2).2 h2] at h3
    exact ⟨h1, h2, h3⟩
/-- the reference's words on what is wrong -/
def badR (done : List (Str × Str)) : List (Str × Str) → Option (Nat × Nat)
  | [] => none
  | x :: l => if okP x then (if (∀ q ∈ done, q.1 ≠ x.1) then badR (done ++ [x]) l else some (211, done.length)) else some (200, done.length)
theorem badR_eq (done l : List (Str × Str)) (h : ∀ y ∈ done, okP y) : badR done l = badL (dOf done) l := by
  induction l generalizing done with
  | nil => rfl
  | cons x l ih =>
    unfold badR badL
    by_cases hx : okP x
    · rw [if_pos hx, if_pos hx, dOf_len]
      by_cases hk : ∀ q ∈ done, q.1 ≠ x.1
      · rw [if_pos hk, if_pos ((look_key h hx).2 hk), ih (done ++ [x]) (fun y hy => by
          rcases List.mem_append.1 hy with hy | hy
          · exact h y hy
          · rw [List.mem_singleton.1 hy]; exact hx)]
        unfold dOf
        rw [List.map_append]; rfl
      · rw [if_neg hk, if_neg (fun e => hk ((look_key h hx).1 e))]
    · rw [if_neg hx, if_neg hx, dOf_len]
theorem badR_step {l : List (Str × Str)} {n : Nat} (h : n < l.length) : badR (l.take n) (l.drop n) =
    if okP l[n] then (if ∀ q ∈ l.take n, q.1 ≠ (l[n]).1 then badR (l.take (n + 1)) (l.drop (n + 1)) else some (211, n)) else some (200, n) := by
  have hl : (l.take n).length = n := by rw [List.length_take]; omega
  rw [List.drop_eq_getElem_cons h, badR, hl, List.take_add_one, List.getElem?_eq_getElem h]
  rfl
/-- what the reference finds of a key -/
def findR (l : List (Str × Str)) (k : Str) : Tg × Bool := match l.find? (fun p => p.1 == k) with
  | some p => bareR p.2
  | none => (Tg.zero, false)
theorem findR_eq {l : List (Str × Str)} (hl : ∀ y ∈ l, okP y) {p : Pt} (hp : Good p.tag) : findR l (ptKeyR p) = match lookP (dOf l) p with
    | some q => (q.tag, true)
    | none => (Tg.zero, false) := by
  unfold findR
  have hb := key_back hp
  rw [key_good hp] at hb
  have hb1 : (ptRead (ptKeyR p)).1 = p := by rw [hb]
  have hb2 : (ptRead (ptKeyR p)).2 = true := by rw [hb]
  induction l with
  | nil => rfl
  | cons x l ih =>
    have hx := hl x List.mem_cons_self
    rw [List.find?_cons]
    unfold dOf
    rw [List.map_cons, lookP]
    by_cases hk : x.1 = ptKeyR p
    · rw [show (x.1 == ptKeyR p) = true by rw [hk]; simp]
      have : (entryP x).1 = p := by
        show (ptRead x.1).1 = p
        rw [hk, hb1]
      rw [if_pos this]
      have h2 := bareR_eq x.2
      show bareR x.2 = ((entryP x).2.tag, true)
      exact Prod.ext (h2.2 hx.2.1) (h2.1.trans hx.2.1)
    · rw [show (x.1 == ptKeyR p) = false by simp [hk]]
      have : (entryP x).1 ≠ p := by
        show (ptRead x.1).1 ≠ p
        intro e
        exact hk ((key_one hx.1 hb2).1 (by rw [e, hb1]))
      rw [if_neg this]
      exact ih fun y hy => hl y (List.mem_cons_of_mem _ hy)
end Go.Proofs.YtlmgmifaknlolaaGreat

/- Likely, the plain law, third part: the reference's answers are the program's. No program in sight. -/
set_option linter.unusedVariables false
set_option linter.unusedSimpArgs false
namespace Go.Proofs.YtlmgmifaknlolaaGreat

theorem sameB_eq {a b : Tg} (h : sameB a b = true) : a = b := by
  unfold sameB at h
  simp only [Bool.and_eq_true, beq_iff_eq, decide_eq_true_eq] at h
  obtain ⟨h1, h2, h3, h4, h5⟩ := h
  cases a; cases b
  simp only at *
  subst h1 h2 h3 h4 h5
  rfl
theorem check_good {t : Tg} (h : checkF t = 0) : Good t := by
  unfold checkF at h
  by_cases hc : (parseF (writeF t)).err ≠ 0 ∨ sameB (parseF (writeF t)).tag t = false
  · rw [if_pos hc] at h; cases h
  · have he : (parseF (writeF t)).err = 0 := by apply Classical.byContradiction; intro e; exact hc (Or.inl e)
    have hs : sameB (parseF (writeF t)).tag t = true := by
      cases hq : sameB (parseF (writeF t)).tag t with
      | true => rfl
      | false => exact absurd (Or.inr hq) hc
    rw [← sameB_eq hs]
    exact good_of _ he
theorem check_iff (t : Tg) : checkF t = 0 ↔ Good t := ⟨check_good, good_check t⟩
/-- the reference's print, whatever the tag has -/
def printR (t : Tg) : Str := headPart t.lang ++ jt (opt t.script ++ opt t.region ++ t.vars ++ uPart t.keys ++ t.keys.flatMap pairParts)
def rightF (t : Tg) : Bool := decide (∀ v ∈ t.vars, v ≠ []) && ((parseF (printR t)).err == 0 && sameB (parseF (printR t)).tag t)
theorem full_ne : ∀ (l : List Str), (∀ v ∈ l, v ≠ []) → l.filter full = l := by
  intro l h
  refine List.filter_eq_self.2 fun v hv => ?_
  have := h v hv
  unfold full
  cases v with
  | nil => exact absurd rfl this
  | cons => rfl
theorem print_write {t : Tg} (h : ∀ v ∈ t.vars, v ≠ []) : printR t = writeF t := by
  unfold printR writeF parts partsA
  rw [List.cons_append, join_jt, List.filter_append, full_ne _ h, show [t.script, t.region] = [t.script] ++ [t.region] from rfl, List.filter_append, full_opt, full_opt]
  simp only [List.append_assoc]
theorem good_vars {t : Tg} (h : Good t) : ∀ v ∈ t.vars, v ≠ [] := fun v hv e => by
  have := (variant_clean (h.canon.vars.2.1 v hv).1).2.1
  rw [e] at this
  simp at this
theorem right_eq (t : Tg) : rightF t = (checkF t == 0) := by
  unfold rightF
  by_cases hv : ∀ v ∈ t.vars, v ≠ []
  · rw [print_write hv, decide_eq_true hv, Bool.true_and]
    unfold checkF
    by_cases he : (parseF (writeF t)).err = 0
    · cases hs : sameB (parseF (writeF t)).tag t with
      | true => rw [if_neg (by simp [he])]; simp [he]
      | false => rw [if_pos (Or.inr rfl)]; simp
    · rw [if_pos (Or.inl he)]; simp [he]
  · rw [decide_eq_false hv, Bool.false_and]
    symm
    rw [beq_eq_false_iff_ne]
    exact fun e => hv (good_vars (check_good e))
theorem right_good {t : Tg} (h : Good t) : rightF t = true := by rw [right_eq, good_check t h]; rfl

/-- parts of a good tag are good -/
theorem good_sub {t : Tg} (h : Good t) {a b c : Str} (ha : a = t.lang ∨ a = []) (hb : b = t.script ∨ b = []) (hc : c = t.region ∨ c = []) : Good (Pt.tag ⟨a, b, c⟩) := by
  have hs := h.short
  unfold partsR at hs
  rw [sz_cons, sz_append, sz_append, sz_append] at hs
  have e1 : sz (opt b) ≤ sz (opt t.script) := by
    rcases hb with rfl | rfl
    · exact Nat.le_refl _
    · rw [opt_nil, sz_nil]; exact Nat.zero_le _
  have e2 : sz (opt c) ≤ sz (opt t.region) := by
    rcases hc with rfl | rfl
    · exact Nat.le_refl _
    · rw [opt_nil, sz_nil]; exact Nat.zero_le _
  rcases ha with rfl | rfl
  · refine ⟨⟨h.canon.lang, ?_, ?_, VarsOK.nil, srtS_nil, KeysOK.nil, srtK_nil⟩, ?_⟩
    · rcases hb with rfl | rfl
      · exact h.canon.script
      · exact Or.inl rfl
    · rcases hc with rfl | rfl
      · exact h.canon.region
      · exact Or.inl rfl
    · show sz (headPart t.lang :: (opt b ++ opt c ++ [] ++ kuParts [])) ≤ 129
      rw [sz_cons, sz_append, sz_append, sz_append]
      have : sz (kuParts []) = 0 := rfl
      rw [sz_nil]
      omega
  · refine ⟨⟨Or.inl rfl, ?_, ?_, VarsOK.nil, srtS_nil, KeysOK.nil, srtK_nil⟩, ?_⟩
    · rcases hb with rfl | rfl
      · exact h.canon.script
      · exact Or.inl rfl
    · rcases hc with rfl | rfl
      · exact h.canon.region
      · exact Or.inl rfl
    · show sz (headPart [] :: (opt b ++ opt c ++ [] ++ kuParts [])) ≤ 129
      rw [sz_cons, sz_append, sz_append, sz_append]
      have : sz (kuParts []) = 0 := rfl
      rw [sz_nil]
      have h3 : (headPart []).length = 3 := rfl
      have h4 : (opt b) = [] ∨ (opt b).length = 1 := by unfold opt; split <;> simp
      have e1' : sz (opt b) ≤ 5 := by
        rcases hb with rfl | rfl
        · unfold opt
          split
          · rw [sz_nil]; omega
          · rename_i hne
            have := (script_clean (h.canon.script.resolve_left hne).1).2
            rw [sz_cons, sz_nil]
            omega
        · rw [opt_nil, sz_nil]; omega
      have e2' : sz (opt c) ≤ 4 := by
        rcases hc with rfl | rfl
        · unfold opt
          split
          · rw [sz_nil]; omega
          · rename_i hne
            have := (region_clean (h.canon.region.resolve_left hne).1).2
            rw [sz_cons, sz_nil]
            omega
        · rw [opt_nil, sz_nil]; omega
      omega
theorem try_good {t : Tg} (h : Good t) : ∀ k ∈ tryKeys (ptOf t), Good k.tag := by
  intro k hk
  unfold tryKeys at hk
  simp only [List.mem_append] at hk
  rcases hk with hk | hk | hk | hk | hk
  · split at hk
    · rw [List.mem_singleton.1 hk]; exact good_sub h (Or.inl rfl) (Or.inl rfl) (Or.inl rfl)
    · cases hk
  · split at hk
    · rw [List.mem_singleton.1 hk]; exact good_sub h (Or.inl rfl) (Or.inr rfl) (Or.inl rfl)
    · cases hk
  · split at hk
    · rw [List.mem_singleton.1 hk]; exact good_sub h (Or.inl rfl) (Or.inl rfl) (Or.inr rfl)
    · cases hk
  · rw [List.mem_singleton.1 hk]; exact good_sub h (Or.inl rfl) (Or.inr rfl) (Or.inr rfl)
  · split at hk
    · rw [List.mem_singleton.1 hk]; exact good_sub h (Or.inr rfl) (Or.inl rfl) (Or.inr rfl)
    · cases hk

/-- the reference's keys, and what it finds of them -/
def keysRF (t : Tg) : List Str := (tryKeys (ptOf t)).map ptKeyR
def findKeys (l : List (Str × Str)) : List Str → Option Tg
  | [] => none
  | k :: ks => if (findR l k).2 = true then some (findR l k).1 else findKeys l ks
def addRF (l : List (Str × Str)) (t : Tg) : Tg × Bool :=
  if rightF t = false then (Tg.zero, false) else
  if t.lang ≠ [] ∧ t.script ≠ [] ∧ t.region ≠ [] then (t, true) else
  match findKeys l (keysRF t) with
  | some x => if rightF (withT t (fillP (ptOf t) (ptOf x))) = false then (t, false) else (withT t (fillP (ptOf t) (ptOf x)), true)
  | none => (t, false)
theorem findKeys_eq {l : List (Str × Str)} (hl : ∀ y ∈ l, okP y) : ∀ ks : List Pt, (∀ k ∈ ks, Good k.tag) → findKeys l (ks.map ptKeyR) = (findP (dOf l) ks).map Pt.tag
  | [], _ => rfl
  | k :: ks, h => by
    rw [List.map_cons, findKeys, findP, findR_eq hl (h k List.mem_cons_self)]
    cases hk : lookP (dOf l) k with
    | some q => simp
    | none => simpa using findKeys_eq hl ks fun y hy => h y (List.mem_cons_of_mem _ hy)
theorem addRF_eq {l : List (Str × Str)} (hl : ∀ y ∈ l, okP y) (t : Tg) : addRF l t = addT (dOf l) t := by
  unfold addRF addT
  rw [right_eq]
  by_cases hc : checkF t = 0
  · rw [if_neg (show ¬ ((checkF t == 0) = false) by simp [hc]), if_neg (show ¬ (checkF t ≠ 0) from fun e => e hc)]
    by_cases hf : (ptOf t).full
    · have : addP (dOf l) (ptOf t) = (ptOf t, true) := if_pos hf
      rw [if_pos (show t.lang ≠ [] ∧ t.script ≠ [] ∧ t.region ≠ [] from hf), this]
      rw [if_pos (Or.inr (show checkF (withT t (ptOf t)) = 0 from hc))]
      rfl
    · rw [if_neg (show ¬ (t.lang ≠ [] ∧ t.script ≠ [] ∧ t.region ≠ []) from hf)]
      unfold keysRF
      rw [findKeys_eq hl _ (try_good (check_good hc))]
      unfold addP
      rw [if_neg hf]
      cases hq : findP (dOf l) (tryKeys (ptOf t)) with
      | none => simp; rfl
      | some q =>
        simp only [Option.map_some]
        rw [show ptOf q.tag = q from rfl, right_eq]
        by_cases hg : checkF (withT t (fillP (ptOf t) q)) = 0
        · rw [if_neg (show ¬ ((checkF (withT t (fillP (ptOf t) q)) == 0) = false) by simp [hg]), if_pos (Or.inr hg)]
        · rw [if_pos (show (checkF (withT t (fillP (ptOf t) q)) == 0) = false by simp [hg]), if_neg (by rintro (e | e); cases e; exact hg e)]
  · rw [if_pos (show (checkF t == 0) = false by simp [hc]), if_pos (show checkF t ≠ 0 from hc)]
/-- the reference's Remove -/
def removeRF (l : List (Str × Str)) (t : Tg) : Tg × Bool :=
  if rightF t = false then (Tg.zero, false) else
  if (addRF l t).2 = false then (t, false) else
  match (leftKeys (ptOf (addRF l t).1) ++ [ptOf (addRF l t).1]).find? (fun p => (addRF l p.tag).2 && decide (ptOf (addRF l p.tag).1 = ptOf (addRF l t).1)) with
  | some p => (withT t p, true)
  | none => ((addRF l t).1, true)
theorem good_with {t : Tg} {p : Pt} (h : Good (withT t p)) : Good p.tag := good_sub h (Or.inl rfl) (Or.inl rfl) (Or.inl rfl)
theorem add_tag {D : List (Pt × Pt)} {p m : Pt} (hp : Good p.tag) (hm : Good m.tag) : ((addT D p.tag).2 && decide (ptOf (addT D p.tag).1 = m)) = decide (addP D p = (m, true)) := by
  unfold addT
  rw [if_neg (by simp [good_check _ hp])]
  rw [show ptOf p.tag = p from rfl]
  cases ha : addP D p with
  | mk q ok =>
    cases ok with
    | false => simp
    | true =>
      by_cases hq : q = m
      · subst hq
        rw [show withT p.tag q = q.tag from rfl, if_pos (Or.inr (good_check _ hm))]
        simp [ptOf, Pt.tag]
      · by_cases hc : checkF (withT p.tag q) = 0
        · rw [if_pos (Or.inr hc)]
          rw [show ptOf (withT p.tag q) = q from rfl]
          simp
        · rw [if_neg (by rintro (e | e); cases e; exact hc e)]
          simp [hq]
theorem left_good {m : Pt} (h : Good m.tag) : ∀ p ∈ leftKeys m ++ [m], Good p.tag := by
  intro p hp
  simp only [leftKeys, List.mem_append, List.mem_cons, List.not_mem_nil, or_false] at hp
  rcases hp with (rfl | rfl | rfl) | rfl
  · exact good_sub h (Or.inl rfl) (Or.inr rfl) (Or.inr rfl)
  · exact good_sub h (Or.inl rfl) (Or.inr rfl) (Or.inl rfl)
  · exact good_sub h (Or.inl rfl) (Or.inl rfl) (Or.inr rfl)
  · exact h
theorem find_congr {α : Type} {p q : α → Bool} : ∀ {l : List α}, (∀ x ∈ l, p x = q x) → l.find? p = l.find? q
  | [], _ => rfl
  | x :: l, h => by
    rw [List.find?_cons, List.find?_cons, h x List.mem_cons_self, find_congr fun y hy => h y (List.mem_cons_of_mem _ hy)]
theorem removeRF_eq {l : List (Str × Str)} (hl : ∀ y ∈ l, okP y) (hD : saidP (dOf l)) (t : Tg) : removeRF l t = removeT (dOf l) t := by
  unfold removeRF removeT
  rw [addRF_eq hl, right_eq]
  simp only [addRF_eq hl]
  by_cases hc : checkF t = 0
  · rw [if_neg (show ¬ ((checkF t == 0) = false) by simp [hc]), if_neg (show ¬ (checkF t ≠ 0) from fun e => e hc)]
    cases ha : addP (dOf l) (ptOf t) with
    | mk m ok =>
      cases ok with
      | false =>
        have h1 : addT (dOf l) t = (withT t m, false) := by unfold addT; rw [if_neg (show ¬ (checkF t ≠ 0) from fun e => e hc), ha, if_pos (Or.inl rfl)]
        rw [h1, if_pos rfl, if_pos (Or.inl rfl)]
      | true =>
        by_cases hm : checkF (withT t m) = 0
        · have h1 : addT (dOf l) t = (withT t m, true) := by unfold addT; rw [if_neg (show ¬ (checkF t ≠ 0) from fun e => e hc), ha, if_pos (Or.inr hm)]
          rw [h1, if_neg (show ¬ ((withT t m, true).2 = false) from fun e => by cases e), if_neg (by rintro (e | e); cases e; exact e hm)]
          have hg : Good m.tag := good_with (check_good hm)
          simp only
          rw [show ptOf (withT t m) = m from rfl]
          rw [find_congr (q := fun p => decide (addP (dOf l) p = (m, true))) fun p hp => add_tag (left_good hg p hp) hg]
          unfold leastP
          rw [List.find?_append]
          cases hq : (leftKeys m).find? (fun p => decide (addP (dOf l) p = (m, true))) with
          | some p => rfl
          | none =>
            have hfull : addP (dOf l) m = (m, true) := if_pos (addP_full hD ha)
            simp [List.find?_cons, hfull]
        · have h1 : addT (dOf l) t = (t, false) := by unfold addT; rw [if_neg (show ¬ (checkF t ≠ 0) from fun e => e hc), ha, if_neg (by rintro (e | e); cases e; exact hm e)]
          rw [h1, if_pos rfl, if_pos (Or.inr hm)]
  · rw [if_pos (show (checkF t == 0) = false by simp [hc]), if_pos (show checkF t ≠ 0 from hc)]
end Go.Proofs.YtlmgmifaknlolaaGreat

/- Likely, the plain law, fourth part: what was said is told again, in any order. No program in sight. -/
set_option linter.unusedVariables false
set_option linter.unusedSimpArgs false
namespace Go.Proofs.YtlmgmifaknlolaaGreat

theorem badL_of {D : List (Pt × Pt)} {l : List (Str × Str)} (h1 : ∀ x ∈ l, okP x) (h2 : saidP (D ++ dOf l)) : badL D l = none := by
  induction l generalizing D with
  | nil => rfl
  | cons x l ih =>
    unfold badL
    have hlk : lookP D (entryP x).1 = none := lookP_none.2 (fun y hy => (List.pairwise_append.1 h2.2).2.2 y hy (entryP x) (by simp [dOf]))
    rw [if_pos (h1 x List.mem_cons_self), if_pos hlk]
    refine ih (fun y hy => h1 y (List.mem_cons_of_mem _ hy)) ?_
    rw [List.append_assoc]; exact h2
theorem saidP_perm {D E : List (Pt × Pt)} (h : saidP D) (hp : E.Perm D) : saidP E :=
  ⟨fun x hx => h.1 x (hp.mem_iff.1 hx), (hp.pairwise_iff (fun h => Ne.symm h)).2 h.2⟩
theorem bad_perm {l m : List (Str × Str)} (h : badL [] l = none) (hp : m.Perm l) : badL [] m = none := by
  obtain ⟨h1, h2⟩ := badL_ok h
  exact badL_of (D := []) (fun x hx => h1 x (hp.mem_iff.1 hx)) (saidP_perm h2 (hp.map entryP))
theorem look_same {l m : List (Str × Str)} (h : badL [] l = none) (hp : m.Perm l) (p : Pt) : lookP (dOf m) p = lookP (dOf l) p := lookP_perm (badL_ok h).2.2 (hp.map entryP) p
theorem addT_same {D E : List (Pt × Pt)} (h : ∀ p, lookP D p = lookP E p) (t : Tg) : addT D t = addT E t := by unfold addT; rw [addP_same h]
theorem addT_perm {l m : List (Str × Str)} (h : badL [] l = none) (hp : m.Perm l) (t : Tg) : addT (dOf m) t = addT (dOf l) t := addT_same (look_same h hp) t
/-- the pairs that are told -/
def toldP (D : List (Pt × Pt)) : List (Str × Str) := D.map fun x => (ptKey x.1, ptKey x.2)
theorem told_back {l : List (Str × Str)} (h : ∀ x ∈ l, okP x) : toldP (dOf l) = l := by
  unfold toldP dOf
  rw [List.map_map]
  refine (List.map_congr_left fun x hx => ?_).trans (List.map_id l)
  obtain ⟨h1, h2, _⟩ := h x hx
  have e1 := (read_ok (p := (ptRead x.1).1) (k := x.1) (by rw [← h1])).2.1
  have e2 := (read_ok (p := (ptRead x.2).1) (k := x.2) (by rw [← h2])).2.1
  show (ptKey (ptRead x.1).1, ptKey (ptRead x.2).1) = id x
  rw [e1, e2]; rfl
/-- the keys of what is said differ -/
theorem keys_nodup {l : List (Str × Str)} (h : badL [] l = none) : (l.map (·.1)).Nodup := by
  obtain ⟨h1, h2⟩ := badL_ok h
  have h3 := h2.2
  unfold dOf at h3
  rw [List.pairwise_map] at h3
  unfold List.Nodup
  rw [List.pairwise_map]
  exact h3.imp_of_mem (fun {a b} ha hb hne e => hne ((key_one (h1 a ha).1 (h1 b hb).1).2 e))
/-- told in order: what was said, by its keys -/
theorem told_srt {l m : List (Str × Str)} (h : badL [] l = none) (hp : m.Perm (toldP (dOf l))) (hs : m.Pairwise (fun a b => ¬ b.1 < a.1)) : m = srtK l := by
  rw [told_back (badL_ok h).1] at hp
  exact srtK_one l m hp (keys_nodup h) hs
theorem srt_bad {l : List (Str × Str)} (h : badL [] l = none) : badL [] (srtK l) = none := bad_perm h (srtK_perm l)
theorem rev_bad {l : List (Str × Str)} (h : badL [] l = none) : badL [] l.reverse = none := bad_perm h (List.reverse_perm l)
end Go.Proofs.YtlmgmifaknlolaaGreat
