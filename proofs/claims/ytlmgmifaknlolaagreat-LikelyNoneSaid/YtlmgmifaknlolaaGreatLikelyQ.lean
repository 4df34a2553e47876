/- Likely, the plain law, second part: which pairs may be said, and what the reference finds. No program in sight. -/
import Derived.Test.YtlmgmifaknlolaaGreatLikelyP
set_option linter.unusedVariables false
set_option linter.unusedSimpArgs false
namespace Go.Proofs.YtlmgmifaknlolaaGreat

def entryP (x : Str × Str) : Pt × Pt := ((ptRead x.1).1, (ptRead x.2).1)
def okP (x : Str × Str) : Prop := (ptRead x.1).2 = true ∧ (ptRead x.2).2 = true ∧ (ptRead x.2).1.full
instance (x : Str × Str) : Decidable (okP x) := by unfold okP; infer_instance
def dOf (l : List (Str × Str)) : List (Pt × Pt) := l.map entryP
theorem dOf_len (l : List (Str × Str)) : (dOf l).length = l.length := List.length_map _
/-- what is wrong with what is said: the error and the place -/
def badL (D : List (Pt × Pt)) : List (Str × Str) → Option (Nat × Nat)
  | [] => none
  | x :: l => if okP x then (if lookP D (entryP x).1 = none then badL (D ++ [entryP x]) l else some (211, D.length)) else some (200, D.length)
theorem dOf_take {l : List (Str × Str)} {n : Nat} (h : n < l.length) : dOf (l.take (n + 1)) = dOf (l.take n) ++ [entryP l[n]] := by
  unfold dOf
  rw [List.take_add_one, List.getElem?_eq_getElem h, List.map_append]
  rfl
theorem badL_step {l : List (Str × Str)} {n : Nat} (h : n < l.length) : badL (dOf (l.take n)) (l.drop n) =
    if okP l[n] then (if lookP (dOf (l.take n)) (entryP l[n]).1 = none then badL (dOf (l.take (n + 1))) (l.drop (n + 1)) else some (211, n)) else some (200, n) := by
  have hl : (dOf (l.take n)).length = n := by rw [dOf_len, List.length_take]; omega
  rw [List.drop_eq_getElem_cons h, badL, dOf_take h, hl]
theorem badL_end (l : List (Str × Str)) : badL (dOf (l.take l.length)) (l.drop l.length) = none := by
  rw [List.drop_length]; rfl
theorem badL_none {D : List (Pt × Pt)} {l : List (Str × Str)} (h : badL D l = none) (hd : saidP D) : (∀ x ∈ l, okP x) ∧ saidP (D ++ dOf l) := by
  induction l generalizing D with
  | nil => exact ⟨fun x hx => (by cases hx), by unfold dOf; rw [List.map_nil, List.append_nil]; exact hd⟩
  | cons x l ih =>
    unfold badL at h
    split at h
    · rename_i hx
      split at h
      · rename_i hlk
        have hd2 : saidP (D ++ [entryP x]) := by
          refine ⟨fun y hy => ?_, ?_⟩
          · rcases List.mem_append.1 hy with hy | hy
            · exact hd.1 y hy
            · rw [List.mem_singleton.1 hy]; exact hx.2.2
          · rw [List.pairwise_append]
            refine ⟨hd.2, List.pairwise_singleton _ _, fun a ha b hb => ?_⟩
            rw [List.mem_singleton.1 hb]
            exact lookP_none.1 hlk a ha
        obtain ⟨h1, h2⟩ := ih h hd2
        refine ⟨fun y hy => ?_, ?_⟩
        · rcases List.mem_cons.1 hy with rfl | hy
          · exact hx
          · exact h1 y hy
        · rw [List.append_assoc] at h2
          exact h2
      · cases h
    · cases h
theorem badL_ok {l : List (Str × Str)} (h : badL [] l = none) : (∀ x ∈ l, okP x) ∧ saidP (dOf l) := badL_none (D := []) h ⟨fun x hx => (by cases hx), List.Pairwise.nil⟩
theorem badL_err {D : List (Pt × Pt)} {l : List (Str × Str)} {e i : Nat} (h : badL D l = some (e, i)) : e = 200 ∨ e = 211 := by
  induction l generalizing D with
  | nil => cases h
  | cons x l ih =>
    unfold badL at h
    split at h
    · split at h
      · exact ih h
      · cases h; exact Or.inr rfl
    · cases h; exact Or.inl rfl

/-- a key that may be is one with its parts -/
theorem key_one {a b : Str} (ha : (ptRead a).2 = true) (hb : (ptRead b).2 = true) : (ptRead a).1 = (ptRead b).1 ↔ a = b := by
  constructor
  · intro h
    have h1 := (read_ok (p := (ptRead a).1) (k := a) (by rw [← ha])).2.1
    have h2 := (read_ok (p := (ptRead b).1) (k := b) (by rw [← hb])).2.1
    rw [← h1, ← h2, h]
  · rintro rfl; rfl
theorem look_key {l : List (Str × Str)} (hl : ∀ y ∈ l, okP y) {x : Str × Str} (hx : okP x) : lookP (dOf l) (entryP x).1 = none ↔ ∀ q ∈ l, q.1 ≠ x.1 := by
  rw [lookP_none]
  unfold dOf
  constructor
  · intro h q hq e
    refine h (entryP q) (List.mem_map.2 ⟨q, hq, rfl⟩) ?_
    exact (key_one (hl q hq).1 hx.1).2 e
  · intro h y hy
    obtain ⟨q, hq, rfl⟩ := List.mem_map.1 hy
    intro e
    exact h q hq ((key_one (hl q hq).1 hx.1).1 e)

/-- the reference's tag of a key -/
def bareR (k : Str) : Tg × Bool := if (parseF k).err ≠ 0 ∨ (parseF k).tag.vars ≠ [] ∨ (parseF k).tag.keys ≠ [] ∨ ptKeyR (ptOf (parseF k).tag) ≠ k then (Tg.zero, false) else ((parseF k).tag, true)
theorem bareR_eq (k : Str) : (bareR k).2 = (ptRead k).2 ∧ ((ptRead k).2 = true → (bareR k).1 = (ptRead k).1.tag) := by
  rw [read_ref]
  unfold bareR
  by_cases h : (parseF k).err ≠ 0 ∨ (parseF k).tag.vars ≠ [] ∨ (parseF k).tag.keys ≠ []
  · rw [if_pos h, if_pos (by rcases h with h | h | h; exact Or.inl h; exact Or.inr (Or.inl h); exact Or.inr (Or.inr (Or.inl h)))]
    exact ⟨rfl, fun e => by cases e⟩
  · rw [if_neg h]
    by_cases h2 : ptKeyR (ptOf (parseF k).tag) = k
    · rw [if_neg (by rintro (e | e | e | e); exact h (Or.inl e); exact h (Or.inr (Or.inl e)); exact h (Or.inr (Or.inr e)); exact e h2)]
      refine ⟨by simp [h2], fun _ => ?_⟩
      have hv : (parseF k).tag.vars = [] := by apply Classical.byContradiction; intro e; exact h (Or.inr (Or.inl e))
      have hk : (parseF k).tag.keys = [] := by apply Classical.byContradiction; intro e; exact h (Or.inr (Or.inr e))
      exact (pt_tag hv hk).symm
    · rw [if_pos (Or.inr (Or.inr (Or.inr h2)))]
      exact ⟨by simp [h2], fun e => by simp [h2] at e⟩
/-- a pair that may be said, in the reference's words -/
theorem okP_ref (x : Str × Str) : okP x ↔ (bareR x.1).2 = true ∧ (bareR x.2).2 = true ∧ (bareR x.2).1.lang ≠ [] ∧ (bareR x.2).1.script ≠ [] ∧ (bareR x.2).1.region ≠ [] := by
  unfold okP
  rw [(bareR_eq x.1).1, (bareR_eq x.2).1]
  constructor
  · rintro ⟨h1, h2, h3⟩
    rw [(bareR_eq x.2).2 h2]
    exact ⟨h1, h2, h3.1, h3.2.1, h3.2.2⟩
  · rintro ⟨h1, h2, h3⟩
    rw [(bareR_eq x.2).2 h2] at h3
    exact ⟨h1, h2, h3⟩
/-- the reference's words on what is wrong -/
def badR (done : List (Str × Str)) : List (Str × Str) → Option (Nat × Nat)
  | [] => none
  | x :: l => if okP x then (if (∀ q ∈ done, q.1 ≠ x.1) then badR (done ++ [x]) l else some (211, done.length)) else some (200, done.length)
theorem badR_eq (done l : List (Str × Str)) (h : ∀ y ∈ done, okP y) : badR done l = badL (dOf done) l := by
  induction l generalizing done with
  | nil => rfl
  | cons x l ih =>
    unfold badR badL
    by_cases hx : okP x
    · rw [if_pos hx, if_pos hx, dOf_len]
      by_cases hk : ∀ q ∈ done, q.1 ≠ x.1
      · rw [if_pos hk, if_pos ((look_key h hx).2 hk), ih (done ++ [x]) (fun y hy => by
          rcases List.mem_append.1 hy with hy | hy
          · exact h y hy
          · rw [List.mem_singleton.1 hy]; exact hx)]
        unfold dOf
        rw [List.map_append]; rfl
      · rw [if_neg hk, if_neg (fun e => hk ((look_key h hx).1 e))]
    · rw [if_neg hx, if_neg hx, dOf_len]
theorem badR_step {l : List (Str × Str)} {n : Nat} (h : n < l.length) : badR (l.take n) (l.drop n) =
    if okP l[n] then (if ∀ q ∈ l.take n, q.1 ≠ (l[n]).1 then badR (l.take (n + 1)) (l.drop (n + 1)) else some (211, n)) else some (200, n) := by
  have hl : (l.take n).length = n := by rw [List.length_take]; omega
  rw [List.drop_eq_getElem_cons h, badR, hl, List.take_add_one, List.getElem?_eq_getElem h]
  rfl
/-- what the reference finds of a key -/
def findR (l : List (Str × Str)) (k : Str) : Tg × Bool := match l.find? (fun p => p.1 == k) with
  | some p => bareR p.2
  | none => (Tg.zero, false)
theorem findR_eq {l : List (Str × Str)} (hl : ∀ y ∈ l, okP y) {p : Pt} (hp : Good p.tag) : findR l (ptKeyR p) = match lookP (dOf l) p with
    | some q => (q.tag, true)
    | none => (Tg.zero, false) := by
  unfold findR
  have hb := key_back hp
  rw [key_good hp] at hb
  have hb1 : (ptRead (ptKeyR p)).1 = p := by rw [hb]
  have hb2 : (ptRead (ptKeyR p)).2 = true := by rw [hb]
  induction l with
  | nil => rfl
  | cons x l ih =>
    have hx := hl x List.mem_cons_self
    rw [List.find?_cons]
    unfold dOf
    rw [List.map_cons, lookP]
    by_cases hk : x.1 = ptKeyR p
    · rw [show (x.1 == ptKeyR p) = true by rw [hk]; simp]
      have : (entryP x).1 = p := by
        show (ptRead x.1).1 = p
        rw [hk, hb1]
      rw [if_pos this]
      have h2 := bareR_eq x.2
      show bareR x.2 = ((entryP x).2.tag, true)
      exact Prod.ext (h2.2 hx.2.1) (h2.1.trans hx.2.1)
    · rw [show (x.1 == ptKeyR p) = false by simp [hk]]
      have : (entryP x).1 ≠ p := by
        show (ptRead x.1).1 ≠ p
        intro e
        exact hk ((key_one hx.1 hb2).1 (by rw [e, hb1]))
      rw [if_neg this]
      exact ih fun y hy => hl y (List.mem_cons_of_mem _ hy)
end Go.Proofs.YtlmgmifaknlolaaGreat
