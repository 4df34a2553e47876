/- Chains, the plain laws that the statements ask. No program in sight. -/
import Derived.Test.YtffaoejahnildaaGreatChainW
set_option linter.unusedVariables false
set_option linter.unusedSimpArgs false
namespace Go.Proofs.YtffaoejahnildaaGreat

theorem named_len {s : Str} (h : namedB s = true) : s.length ≤ 128 := by
  obtain ⟨h1, _⟩ := named_facts h
  have h2 := parse_L s
  unfold okR at h2
  rw [if_pos h1] at h2
  by_cases h3 : 128 < s.length
  · rw [if_pos h3] at h2; cases h2
  · omega
theorem bad_err : ∀ {r done : List (Str × Str)} {e i : Nat}, badAt done r = some (e, i) → e = 2 ∨ e = 211
  | [], _, _, _, h => by cases h
  | p :: r, done, e, i, h => by
    unfold badAt at h
    split at h
    · split at h
      · exact bad_err h
      · cases h; exact Or.inr rfl
    · cases h; exact Or.inl rfl
theorem bad_snoc : ∀ {r done : List (Str × Str)} (q : Str × Str), badAt done r = none → badAt done (r ++ [q]) = badAt (done ++ r) [q]
  | [], done, q, h => by simp
  | p :: r, done, q, h => by
    rw [List.cons_append]
    unfold badAt at h
    split at h
    · rename_i hp
      split at h
      · rename_i hl
        have := bad_snoc q h
        rw [List.append_assoc, List.singleton_append] at this
        rw [badAt, if_pos hp, if_pos hl, this]
      · cases h
    · cases h
theorem new_ok {D : List (Str × Str)} {i : Nat} (h : NewOut D 0 i) : saidOK D ∧ (∀ p ∈ D, ¬ ringP D p.1) ∧ badAt [] D = none ∧ i = 0 := by
  rcases h with h | ⟨_, h, _⟩ | ⟨h1, _, hi, h2⟩
  · rcases bad_err h with h | h <;> cases h
  · cases h
  · have := bad_none h1 (fun p hp => by cases hp)
    exact ⟨this, h2, h1, hi⟩
theorem new_one {D : List (Str × Str)} {e i : Nat} (h0 : NewOut D 0 0) (h : NewOut D e i) : e = 0 ∧ i = 0 := by
  obtain ⟨_, h2, h3, _⟩ := new_ok h0
  rcases h with h | ⟨_, _, ⟨p, hp, hr⟩, _⟩ | ⟨_, he, hi, _⟩
  · rw [h3] at h; cases h
  · exact absurd hr (h2 p (List.mem_of_getElem? hp))
  · exact ⟨he, hi⟩
/-- what is said as it would be without being said -/
theorem said_more {D : List (Str × Str)} {more p : Str} (h0 : NewOut D 0 0) (hp : plainF more = (p, true)) (hno : ∀ x ∈ D, x.1 ≠ more) :
    NewOut (D ++ [(more, p)]) 0 0 ∧ ∀ {s : Str} {l : List Str}, Up D s l → Up (D ++ [(more, p)]) s l := by
  obtain ⟨h1, h2, h3, _⟩ := new_ok h0
  have hm : namedB more = true ∧ more ≠ tRoot := by
    apply Classical.byContradiction
    intro hc
    rw [plain_no hc] at hp
    cases hp
  obtain ⟨q, hq, hq2, _⟩ := plain_ok hm.1 hm.2
  rw [hp] at hq
  cases hq
  have hlk : look D more = none := look_none.2 hno
  have hst : ∀ s, stepF D s = stepF (D ++ [(more, p)]) s := by
    intro s
    unfold stepF parentF
    rw [look_append]
    cases hl : look D s with
    | some v => rfl
    | none =>
      by_cases hs : more = s
      · subst hs
        simp [look, hp]
      · simp [look, hs]
  have hb : badAt [] (D ++ [(more, p)]) = none := by
    rw [bad_snoc _ h3, List.nil_append, badAt, if_pos ⟨⟨hm.1, hq2⟩, hm.2⟩, if_pos hlk]
    rfl
  have hD : saidOK (D ++ [(more, p)]) := bad_none (done := []) hb (fun p hp => by cases hp)
  refine ⟨Or.inr (Or.inr ⟨hb, rfl, rfl, fun x hx => ?_⟩), fun {s l} hu => up_same hst hu⟩
  obtain ⟨n, hn⟩ := ends h1 h2 (hD x hx).1
  rw [iter_same hst] at hn
  exact no_ring hD hn
theorem plain_true {more p : Str} (hp : plainF more = (p, true)) : namedB more = true ∧ more ≠ tRoot ∧ namedB p = true := by
  have hm : namedB more = true ∧ more ≠ tRoot := by
    apply Classical.byContradiction
    intro hc
    rw [plain_no hc] at hp
    cases hp
  obtain ⟨q, hq, hq2, _⟩ := plain_ok hm.1 hm.2
  rw [hp] at hq
  cases hq
  exact ⟨hm.1, hm.2, hq2⟩

/-- the first of x that stands in y -/
def firstIn (x y : List Str) : Str := (x.find? (fun s => decide (s ∈ y))).getD []
theorem up_mem_root {D : List (Str × Str)} {s : Str} {l : List Str} (h : Up D s l) : tRoot ∈ l := by
  obtain ⟨r, rfl⟩ := up_last h; simp
theorem up_ne {D : List (Str × Str)} {s : Str} {l : List Str} (h : Up D s l) : l ≠ [] := by
  obtain ⟨r, rfl⟩ := up_head h; simp
theorem first_parts {x y : List Str} (h : ∃ s, s ∈ x ∧ s ∈ y) : ∃ a b, x = a ++ firstIn x y :: b ∧ firstIn x y ∈ y ∧ ∀ t ∈ a, t ∉ y := by
  unfold firstIn
  cases hf : x.find? (fun s => decide (s ∈ y)) with
  | none =>
    obtain ⟨s, h1, h2⟩ := h
    have := List.find?_eq_none.1 hf s h1
    simp [h2] at this
  | some s =>
    obtain ⟨h1, a, b, h2, h3⟩ := List.find?_eq_some_iff_append.1 hf
    exact ⟨a, b, h2, by simpa using h1, fun t ht => by simpa using h3 t ht⟩
theorem first_above {D : List (Str × Str)} {a : Str} {x y z : List Str} (hx : Up D a x) (hr : tRoot ∈ y) (hz : Up D (firstIn x y) z) {t : Str} (h1 : t ∈ x) (h2 : t ∈ y) : t ∈ z := by
  obtain ⟨p, q, hp, hy, hn⟩ := first_parts ⟨tRoot, up_mem_root hx, hr⟩
  have hlt : p.length < x.length := by rw [hp]; simp
  have h3 := up_drop p.length hlt hx
  have h4 : x[p.length] = firstIn x y := by
    have h6 : x[p.length]? = some (firstIn x y) := by
      conv => lhs; rw [hp]
      simp
    rw [List.getElem?_eq_getElem hlt] at h6
    exact Option.some.inj h6
  rw [h4] at h3
  rw [up_one hz h3]
  have h5 : x.drop p.length = firstIn x y :: q := by
    conv => lhs; rw [hp]
    simp
  rw [h5]
  rw [hp] at h1
  rcases List.mem_append.1 h1 with h1 | h1
  · exact absurd h2 (hn t h1)
  · exact h1
theorem up_end {D : List (Str × Str)} {s : Str} {l : List Str} (h : Up D s l) (j : Nat) (hj : j < l.length) (hr : l[j] = tRoot) : j + 1 = l.length := by
  have h1 := up_drop j hj h
  rw [hr] at h1
  have h2 := congrArg List.length (up_one h1 (up_root D))
  simp only [List.length_drop, List.length_cons, List.length_nil] at h2
  omega
theorem up_next {D : List (Str × Str)} {s : Str} {l : List Str} (h : Up D s l) (j : Nat) (hj : j < l.length) (hr : l[j] ≠ tRoot) : ∃ hj' : j + 1 < l.length, stepF D l[j] = some l[j + 1] := by
  have h1 := up_drop j hj h
  rw [List.drop_eq_getElem_cons hj] at h1
  by_cases hj' : j + 1 < l.length
  · rw [List.drop_eq_getElem_cons hj'] at h1
    exact ⟨hj', h1.2.2.1⟩
  · rw [List.drop_of_length_le (by omega)] at h1
    exact absurd h1.2 hr
theorem step_parent {D : List (Str × Str)} {s t : Str} (h : stepF D s = some t) : parentF D s = (t, true) := by
  unfold stepF at h
  split at h
  · rename_i h2
    cases h
    generalize parentF D s = q at *
    cases q
    simp only at *
    rw [h2]
  · cases h
theorem parent_step {D : List (Str × Str)} {s t : Str} (h : parentF D s = (t, true)) : stepF D s = some t := by unfold stepF; rw [h]; rfl
theorem parent_none {D : List (Str × Str)} {s : Str} (h : (parentF D s).2 = false) : stepF D s = none := by unfold stepF; rw [h]; rfl
theorem up_len {D : List (Str × Str)} (hD : saidOK D) {s : Str} {l : List Str} (hs : namedB s = true) (h : Up D s l) : l.length ≤ 12 * (D.length + 1) := by
  refine Nat.le_trans (nodup_le l (reach D s) ?_ ?_) (reach_len D s)
  · rw [List.nodup_iff_pairwise_ne, List.pairwise_iff_getElem]
    intro i j hi hj hij
    exact up_nodup h i j hj hij
  · intro x hx
    have key : ∀ j (hj : j < l.length), iter D j s = some l[j] := by
      intro j
      induction j with
      | zero =>
        intro hj
        obtain ⟨r, rfl⟩ := up_head h
        rfl
      | succ j ih =>
        intro hj
        rw [iter, ih (by omega), Option.bind_some]
        have hne : l[j] ≠ tRoot := fun e => by have := up_end h j (by omega) e; omega
        obtain ⟨_, h2⟩ := up_next h j (by omega) hne
        exact h2
    obtain ⟨j, hj, rfl⟩ := List.getElem_of_mem hx
    exact iter_reach hD hs j _ (key j hj)
theorem ring_no1 {D : List (Str × Str)} {k a : Str} {j : Nat} (hj : iter D j k = some a) (hs : stepF D a = none) (hL : ∀ i, i < j → iter D (i + 1) k ≠ some k) : ¬ ringP D k := by
  rintro ⟨n, hn⟩
  by_cases h : n < j
  · exact hL n h hn
  · rw [show n + 1 = j + 1 + (n - j) by omega, iter_add, iter, hj, Option.bind_some, hs] at hn
    cases hn
theorem ring_no3 {D : List (Str × Str)} {k a x : Str} {i j : Nat} (hj : iter D j k = some a) (hs : stepF D a = some x) (hi : i < j) (hx : iter D (i + 1) k = some x) (hL : ∀ i, i < j → iter D (i + 1) k ≠ some k) : ¬ ringP D k := by
  have key : ∀ m, ∃ i', i' < j ∧ iter D (m + 1) k = iter D (i' + 1) k := by
    intro m
    induction m using Nat.strongRecOn with
    | _ m ih =>
      by_cases h : m < j
      · exact ⟨m, h, rfl⟩
      · have h1 : iter D (m + 1) k = iter D (i + (m - j) + 1) k := by
          rw [show m + 1 = j + 1 + (m - j) by omega, iter_add, iter, hj, Option.bind_some, hs, show i + (m - j) + 1 = i + 1 + (m - j) by omega, iter_add, hx]
        obtain ⟨i', h2, h3⟩ := ih (i + (m - j)) (by omega)
        exact ⟨i', h2, h1.trans h3⟩
  rintro ⟨n, hn⟩
  obtain ⟨i', h1, h2⟩ := key n
  exact hL i' h1 (h2 ▸ hn)
/-- the list that chain.Chain hands back -/
def ChainIs (D : List (Str × Str)) (s : Str) (l : List Str) : Prop := (namedB s = true ∧ Up D s l) ∨ (namedB s = false ∧ l = [])
theorem chain_ex {D : List (Str × Str)} (h0 : NewOut D 0 0) (s : Str) : ∃ l, ChainIs D s l := by
  obtain ⟨h1, h2, _⟩ := new_ok h0
  by_cases hs : namedB s = true
  · obtain ⟨l, hl⟩ := up_ex h1 h2 hs
    exact ⟨l, Or.inl ⟨hs, hl⟩⟩
  · exact ⟨[], Or.inr ⟨by simpa using hs, rfl⟩⟩
theorem bad_step {l : List (Str × Str)} {n : Nat} (hn : n < l.length) : badAt (l.take n) (l.drop n) =
    if (namedB l[n].1 = true ∧ namedB l[n].2 = true) ∧ l[n].1 ≠ tRoot then (if look (l.take n) l[n].1 = none then badAt (l.take (n + 1)) (l.drop (n + 1)) else some (211, n)) else some (2, n) := by
  rw [List.drop_eq_getElem_cons hn, badAt, List.length_take, show min n l.length = n by omega, List.take_add_one, List.getElem?_eq_getElem hn]
  rfl
end Go.Proofs.YtffaoejahnildaaGreat
