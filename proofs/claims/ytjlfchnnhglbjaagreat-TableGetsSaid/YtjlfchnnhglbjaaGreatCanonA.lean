/- Texts joined of subtags, and how long they are: no program in sight. -/
import Derived.Test.YtjlfchnnhglbjaaGreatListQ
set_option linter.unusedVariables false
set_option linter.unusedSimpArgs false
namespace Go.Proofs.YtjlfchnnhglbjaaGreat

def jt (ps : List Str) : Str := Lib.joinTail [45] ps
theorem jt_nil : jt [] = [] := rfl
theorem jt_cons (p : Str) (ps : List Str) : jt (p :: ps) = 45 :: (p ++ jt ps) := by simp [jt, Lib.joinTail]
theorem jt_append (a b : List Str) : jt (a ++ b) = jt a ++ jt b := by simp [jt, Lib.joinTail]
theorem take_jt (p : Str) (ps : List Str) (h : clean p) : (p ++ jt ps).takeWhile noSep = p ∧ (p ++ jt ps).dropWhile noSep = jt ps := by
  induction p with
  | nil =>
    cases ps with
    | nil => exact ⟨rfl, rfl⟩
    | cons q qs => rw [jt_cons]; exact ⟨rfl, rfl⟩
  | cons c p ih =>
    have hc : noSep c = true := h c (List.mem_cons_self)
    obtain ⟨h1, h2⟩ := ih fun d hd => h d (List.mem_cons_of_mem _ hd)
    rw [List.cons_append, List.takeWhile_cons, List.dropWhile_cons]
    simp [hc, h1, h2]
theorem split_jt : ∀ (n : Nat) (ps : List Str), (∀ p ∈ ps, clean p) → (jt ps).length ≤ n → splitRest n (jt ps) = ps
  | n, [], _, _ => by rw [jt_nil]; cases n <;> rfl
  | 0, p :: ps, _, h => by rw [jt_cons] at h; simp at h
  | n + 1, p :: ps, hc, h => by
    obtain ⟨h1, h2⟩ := take_jt p ps (hc p (List.mem_cons_self))
    rw [jt_cons] at h ⊢
    simp only [splitRest, h1, h2]
    rw [split_jt n ps (fun q hq => hc q (List.mem_cons_of_mem _ hq)) (by simp at h; omega)]
theorem join_jt (p : Str) (ps : List Str) : Lib.join (p :: ps) [45] = p ++ jt ps := Lib.join_cons p ps [45]
theorem subs_join (p : Str) (ps : List Str) (h0 : p ≠ []) (hc : ∀ q ∈ p :: ps, clean q) : (Rd.first (Lib.join (p :: ps) [45])).subs = p :: ps := by
  rw [join_jt]
  obtain ⟨h1, h2⟩ := take_jt p ps (hc p (List.mem_cons_self))
  have hne : p ++ jt ps ≠ [] := fun e => h0 (List.append_eq_nil_iff.1 e).1
  unfold Rd.first Rd.subs
  rw [if_neg hne]
  simp only [h1, h2, Bool.false_eq_true, if_false]
  rw [split_jt _ ps (fun q hq => hc q (List.mem_cons_of_mem _ hq)) (Nat.le_refl _)]

/-- how long subtags are, each with its sign -/
def sz (ps : List Str) : Nat := (ps.map fun p => p.length + 1).sum
theorem sz_nil : sz [] = 0 := rfl
theorem sz_cons (p : Str) (ps : List Str) : sz (p :: ps) = p.length + 1 + sz ps := by simp [sz]
theorem sz_append (a b : List Str) : sz (a ++ b) = sz a + sz b := by simp [sz]
theorem sz_perm {a b : List Str} (h : a.Perm b) : sz a = sz b := (h.map _).sum_nat
theorem sz_lower (a : List Str) : sz (a.map lower) = sz a := by
  induction a with
  | nil => rfl
  | cons x a ih => rw [List.map_cons, sz_cons, sz_cons, ih, lower_length]
theorem jt_len (ps : List Str) : (jt ps).length = sz ps := by
  induction ps with
  | nil => rfl
  | cons p ps ih => rw [jt_cons, sz_cons, ← ih]; simp; omega
theorem join_sz (p : Str) (ps : List Str) : (Lib.join (p :: ps) [45]).length + 1 = sz (p :: ps) := by
  rw [join_jt, List.length_append, jt_len, sz_cons]; omega
theorem split_sz : ∀ (n : Nat) (l : Str), l.length ≤ n → sz (splitRest n l) = l.length
  | n, [], _ => by cases n <;> rfl
  | 0, c :: l, h => by simp at h
  | n + 1, c :: l, h => by
    have := take_drop_len l
    simp only [List.length_cons] at h
    simp only [splitRest]
    rw [sz_cons, split_sz n _ (by omega), List.length_cons]
    omega
theorem subs_sz (s : Str) (h : s ≠ []) : sz (Rd.first s).subs = s.length + 1 := by
  have := take_drop_len s
  unfold Rd.first Rd.subs
  rw [if_neg h]
  simp only [Bool.false_eq_true, if_false]
  rw [sz_cons, split_sz _ _ (Nat.le_refl _)]
  omega
theorem subs_clean (s : Str) : ∀ p ∈ (Rd.first s).subs, clean p := by
  have hsp : ∀ (n : Nat) (l : Str), ∀ p ∈ splitRest n l, clean p := by
    intro n
    induction n with
    | zero => intro l p hp; simp [splitRest] at hp
    | succ n ih =>
      intro l p hp
      cases l with
      | nil => simp [splitRest] at hp
      | cons c l =>
        simp only [splitRest] at hp
        rcases List.mem_cons.1 hp with rfl | hp
        · exact clean_take l
        · exact ih _ p hp
  intro p hp
  unfold Rd.subs at hp
  split at hp
  · simp at hp
  · rcases List.mem_cons.1 hp with rfl | hp
    · exact clean_first s
    · exact hsp _ _ p hp
end Go.Proofs.YtjlfchnnhglbjaaGreat
