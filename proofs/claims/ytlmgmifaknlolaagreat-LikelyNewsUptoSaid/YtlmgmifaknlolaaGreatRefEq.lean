/- The reference's Parse and tag.Parse compute the same: no program in sight. -/
import Derived.Test.YtlmgmifaknlolaaGreatRefBit
set_option linter.unusedVariables false
set_option linter.unusedSimpArgs false
namespace Go.Proofs.YtlmgmifaknlolaaGreat

/-- the reader's subtags with their places -/
def Rd.us (r : Rd) : List (Str × Nat) := if r.fin then [] else cutS r.pos (r.sub ++ r.rest)
/-- a reader that stands well: the subtag has no sign, and what is left begins with one -/
structure Rd.well (r : Rd) : Prop where
  ok : r.ok
  sub : r.sub = (r.sub ++ r.rest).takeWhile noSep
  rest : r.rest = (r.sub ++ r.rest).dropWhile noSep
theorem well_take (l : Str) : (l.takeWhile noSep ++ l.dropWhile noSep) = l := List.takeWhile_append_dropWhile
theorem well_first (s : Str) : (Rd.first s).well := by
  refine ⟨ok_first s, ?_, ?_⟩
  · unfold Rd.first
    split
    · rfl
    · simp only [well_take]
  · unfold Rd.first
    split
    · rfl
    · simp only [well_take]
theorem well_next (r : Rd) (h : r.well) : r.next.well := by
  refine ⟨ok_next r h.ok, ?_, ?_⟩
  · unfold Rd.next
    split
    · rfl
    · simp only [well_take]
  · unfold Rd.next
    split
    · rfl
    · simp only [well_take]
theorem us_cases (r : Rd) (h : r.well) : (r.fin = true ∧ r.us = [] ∧ r.sub = []) ∨ (r.fin = false ∧ r.us = (r.sub, r.pos) :: r.next.us) := by
  cases hf : r.fin
  · right
    refine ⟨rfl, ?_⟩
    unfold Rd.us
    rw [hf]
    simp only [Bool.false_eq_true, if_false]
    rw [cutS_eq, ← h.sub, ← h.rest]
    congr 1
    unfold Rd.next
    cases hr : r.rest with
    | nil => simp
    | cons c l =>
      simp only [hf, Bool.false_eq_true, if_false, well_take]
  · left
    exact ⟨rfl, by unfold Rd.us; rw [hf]; rfl, (h.ok hf).1⟩
theorem us_first (s : Str) (h : s ≠ []) : (Rd.first s).us = cutS 0 s := by
  unfold Rd.us Rd.first
  rw [if_neg h]
  simp only [Bool.false_eq_true, if_false, well_take]

theorem bad_eq (e : Nat) (r : Rd) : bad e r = ⟨Tg.zero, e, r.pos⟩ := rfl
theorem fix_app (l : List (Str × Str)) (p : Str × Str) : (l ++ [p]).map fixP = l.map fixP ++ [fixP p] := by simp
theorem any_fix (l : List (Str × Str)) (k : Str) : (l.map fixP).any (fun p => p.1 == k) = l.any (fun p => p.1 == k) := by
  rw [List.any_map]
  congr 1
  funext p
  simp [fix_fst]
theorem fix_value (k : Str) (ts : List Str) : fixP (k, Lib.join ts [45]) = (k, value ts) := by
  unfold fixP value
  by_cases h : Lib.join ts [45] = tTrue
  · rw [if_pos h, if_pos h]
  · rw [if_neg h, if_neg h]
theorem addV_join (ts : List Str) (x : Str) (h : ∀ t ∈ ts, t ≠ []) : addV (Lib.join ts [45]) x = Lib.join (ts ++ [x]) [45] := by
  cases ts with
  | nil =>
    show addV (Lib.join [] [45]) x = Lib.join [x] [45]
    rw [join_jt, jt_nil, List.append_nil]
    unfold addV
    rw [Lib.join_nil, if_pos rfl]
  | cons y ys =>
    have hy : y ≠ [] := h y (List.mem_cons_self)
    unfold addV
    rw [List.cons_append, join_jt, join_jt, if_neg (fun e => hy (List.append_eq_nil_iff.1 e).1), jt_append, jt_cons, jt_nil]
    simp
theorem type_not_key {l : Str} (h : isType l = true) : isKey l = false := by
  by_cases hk : isKey l = true
  · rw [key_not_type hk] at h; cases h
  · simpa using hk

theorem types_eq (N : Nat) (t : Tg) (ks : List (Str × Str)) (k : Str) : ∀ (n : Nat) (r : Rd) (acc : List Str), r.well → (r.rest.length + 2 ≤ n ∨ (isType r.sub = false ∧ 1 ≤ n)) → (∀ y ∈ acc, y ≠ []) →
    refL N finT 64 { t with keys := ks ++ [(k, Lib.join acc [45])] } r.us = refL N finT 64 { t with keys := ks ++ [(k, Lib.join (types n r acc).1 [45])] } (types n r acc).2.us ∧ (types n r acc).2.well ∧ isType (types n r acc).2.sub = false ∧ (types n r acc).2.rest.length ≤ r.rest.length ∧ (types n r acc).2.all = r.all
  | 0, r, acc, h, hm, ha => by rcases hm with h | h <;> omega
  | n + 1, r, acc, h, hm, ha => by
    unfold types
    by_cases hq : isType r.sub = true
    · rw [if_pos hq]
      rcases us_cases r h with ⟨hf, hu, hs⟩ | ⟨hf, hu⟩
      · rw [hs, isType_nil] at hq; cases hq
      · have hm2 : r.rest.length + 2 ≤ n + 1 := by
          rcases hm with h | h
          · exact h
          · rw [hq] at h; cases h.1
        have hne : lower r.sub ≠ [] := fun e => by
          have := (type_clean hq).2.1
          have h2 := congrArg List.length e
          rw [lower_length] at h2
          simp at h2
          rw [h2] at this
          simp at this
        obtain ⟨h1, h2, h3, h4, h5⟩ := types_eq N t ks k n r.next (acc ++ [lower r.sub]) (well_next r h) (types_inv hm2) (fun y hy => by
          rcases List.mem_append.1 hy with hy | hy
          · exact ha y hy
          · rw [List.mem_singleton.1 hy]; exact hne)
        refine ⟨?_, h2, h3, Nat.le_trans h4 (rest_next r), h5.trans (Rd.next_all r)⟩
        rw [hu]
        rw [refL]
        rw [if_neg (by decide), if_neg (fun h => absurd h.1 (by decide)), if_neg (fun h => absurd h.1 (by decide)), if_neg (fun h => absurd h.1 (by decide)), if_neg (fun h => absurd h.1 (by decide)),
          if_neg (fun h => by rw [type_not_key hq] at h; exact absurd h.2 (by decide)), if_pos ⟨rfl, hq⟩, setLast_snoc, addV_join acc _ ha]
        exact h1
    · have hq2 : isType r.sub = false := by simpa using hq
      rw [if_neg hq]
      exact ⟨rfl, h, hq2, Nat.le_refl _, rfl⟩

theorem keys_eq (N : Nat) : ∀ (n : Nat) (t t' : Tg) (r : Rd) (st : Nat), r.well → r.rest.length ≤ 128 → r.all = N → t = { t' with keys := t'.keys.map fixP } → 17 ≤ n + t.keys.length → t.keys.length ≤ 16 → (st = 32 ∨ st = 64) → (st = 32 → isKey r.sub = true) → isType r.sub = false →
    keysF n t r = refL N finT st t' r.us
  | 0, t, t', r, st, h, hl, ha, ht, hn, hk, hst, h32, hty => by omega
  | n + 1, t, t', r, st, h, hl, ha, ht, hn, hk, hst, h32, hty => by
    unfold keysF
    have hkl : t.keys.length = t'.keys.length := by rw [ht]; simp
    have c1 : ¬ st = 2 := by omega
    have c2 : ¬ st = 4 := by omega
    have c3 : ¬ (st = 4 ∨ st = 8) := by omega
    have c4 : ¬ (st = 4 ∨ st = 8 ∨ st = 16) := by omega
    rcases us_cases r h with ⟨hf, hu, hs⟩ | ⟨hf, hu⟩
    · have hs32 : ¬ st = 32 := fun e => by have := h32 e; rw [hs, isKey_nil] at this; cases this
      rw [hs, isKey_nil, hf, hu]
      simp only [Bool.false_eq_true, if_false, if_true, refL]
      rw [if_neg hs32]
      unfold finT
      rw [ht]
    · rw [hu]
      symm
      rw [refL]
      rw [if_neg c1, if_neg (fun h => c2 h.1), if_neg (fun h => c3 h.1), if_neg (fun h => c4 h.1), if_neg (fun h => c4 h.1)]
      by_cases hq : isKey r.sub = true
      · rw [if_pos hq, if_pos ⟨hst, hq⟩]
        have hany : (t.keys.any fun p => p.1 == lower r.sub) = (t'.keys.any fun p => p.1 == lower r.sub) := by rw [ht]; exact any_fix _ _
        rw [hany, hkl]
        by_cases hd : (t'.keys.any fun p => p.1 == lower r.sub) = true
        · rw [if_pos hd, if_pos hd]; rfl
        · rw [if_neg hd, if_neg hd]
          by_cases h16 : t'.keys.length = 16
          · rw [if_pos h16, if_pos h16]; rfl
          · rw [if_neg h16, if_neg h16]
            obtain ⟨h1, h2, h3, h4, h5⟩ := types_eq N t' t'.keys (lower r.sub) 130 r.next [] (well_next r h) (Or.inl (by have := rest_next r; omega)) (by simp)
            rw [show Lib.join ([] : List Str) [45] = [] from rfl] at h1
            rw [h1]
            have hrn := rest_next r
            symm
            refine keys_eq N n _ _ _ 64 h2 (by omega) (by rw [h5, Rd.next_all, ha]) ?_ (by simp; omega) (by simp; omega) (Or.inr rfl) (fun e => absurd e (by decide)) h3
            rw [ht]
            simp only [fix_app, fix_value]
      · have hn32 : ¬ st = 32 := fun e => hq (h32 e)
        rw [if_neg hq, if_neg (fun h => hq h.2), if_neg (fun h => by rw [hty] at h; exact absurd h.2 (by decide)), hf]
        rfl

theorem sortedS : ∀ (l l' : List Str), l'.Perm l → l.Pairwise (fun a b => ¬ b < a) → l'.Pairwise (fun a b => ¬ b < a) → l' = l
  | [], l', hp, _, _ => List.perm_nil.1 hp
  | x :: l, l', hp, hs, hs' => by
    cases l' with
    | nil => exact absurd (List.perm_nil.1 hp.symm) (by simp)
    | cons y l' =>
      have hxy : y = x := by
        have hy : y ∈ x :: l := hp.subset (List.mem_cons_self)
        have hx : x ∈ y :: l' := hp.symm.subset (List.mem_cons_self)
        rcases List.mem_cons.1 hy with e | hyl
        · exact e
        rcases List.mem_cons.1 hx with e | hxl
        · exact e.symm
        exact List.le_antisymm (List.not_lt.1 ((List.pairwise_cons.1 hs').1 x hxl)) (List.not_lt.1 ((List.pairwise_cons.1 hs).1 y hyl))
      subst hxy
      rw [sortedS l l' (List.Perm.cons_inv hp) (List.pairwise_cons.1 hs).2 (List.pairwise_cons.1 hs').2]
theorem putF_perm : ∀ (l : List Str) (v : Str), (putF l v).Perm (v :: l)
  | [], v => List.Perm.refl _
  | x :: l, v => by
    simp only [putF]
    split
    · exact ((putF_perm l v).cons x).trans (List.Perm.swap v x l)
    · exact List.Perm.refl _
theorem putF_sorted : ∀ (l : List Str) (v : Str), l.Pairwise (fun a b => ¬ b < a) → (putF l v).Pairwise (fun a b => ¬ b < a)
  | [], v, _ => by simp [putF]
  | x :: l, v, h => by
    simp only [putF]
    by_cases hx : x < v
    · rw [if_pos hx]
      refine List.pairwise_cons.2 ⟨fun y hy => ?_, putF_sorted l v (List.pairwise_cons.1 h).2⟩
      rcases List.mem_cons.1 ((putF_perm l v).subset hy) with rfl | hy
      · exact fun h2 => absurd (List.lt_trans h2 hx) (List.lt_irrefl _)
      · exact (List.pairwise_cons.1 h).1 y hy
    · rw [if_neg hx]
      refine List.pairwise_cons.2 ⟨fun y hy => ?_, h⟩
      rcases List.mem_cons.1 hy with rfl | hy
      · exact hx
      · intro h2
        have h3 := (List.pairwise_cons.1 h).1 y hy
        exact absurd (List.not_lt.2 (List.le_trans (List.not_lt.1 hx) (List.not_lt.1 h3))) (fun h4 => h4 h2)
theorem srtS_sorted2 (l : List Str) : (srtS l).Pairwise (fun a b => ¬ b < a) := (srtS_sorted l).imp fun {a b} h => by
  simp only [decide_eq_true_eq] at h
  exact List.not_lt.2 h
theorem put_srt (l : List Str) (v : Str) : putF (srtS l) v = srtS (l ++ [v]) := by
  refine sortedS _ _ ?_ (srtS_sorted2 _) (putF_sorted _ _ (srtS_sorted2 l))
  refine (putF_perm _ _).trans (((srtS_perm l).cons v).trans ?_)
  exact (List.perm_append_comm (l₁ := [v]) (l₂ := l)).trans (srtS_perm _).symm

theorem tail_eq (N : Nat) (t : Tg) (r : Rd) (st : Nat) (h : r.well) (hl : r.rest.length ≤ 128) (ha : r.all = N) (hk : t.keys = []) (hst : st = 4 ∨ st = 8 ∨ st = 16) (h4 : st = 4 → isScript r.sub = false) (h8 : st = 4 ∨ st = 8 → isRegion r.sub = false) (hv : isVariant r.sub = false) :
    tailF t r = refL N finT st { t with vars := srtS t.vars } r.us := by
  unfold tailF
  rcases us_cases r h with ⟨hf, hu, hs⟩ | ⟨hf, hu⟩
  · rw [hf, hu]
    simp only [if_true, refL]
    rw [if_neg (by omega)]
    unfold finT
    simp only [hk, List.map_nil, srtK_nil]
  · rw [hf, hu]
    symm
    rw [refL]
    simp only [Bool.false_eq_true, if_false]
    rw [if_neg (show ¬ st = 2 by omega), if_neg (fun hh => by rw [h4 hh.1] at hh; exact absurd hh.2 (by decide)), if_neg (fun hh => by rw [h8 hh.1] at hh; exact absurd hh.2 (by decide)), if_neg (fun hh => by rw [hv] at hh; exact absurd hh.2 (by decide))]
    by_cases hu2 : lower r.sub = [117]
    · rw [if_pos hu2, if_pos ⟨hst, hu2⟩]
      have hrn := rest_next r
      have hnw := well_next r h
      have hna : r.next.all = N := by rw [Rd.next_all, ha]
      by_cases hq : isKey r.next.sub = true
      · rw [if_pos hq]
        exact (keys_eq N 17 { t with vars := srtS t.vars } { t with vars := srtS t.vars } r.next 32 hnw (by omega) hna (by simp [hk]) (by simp) (by simp [hk]) (Or.inl rfl) (fun _ => hq) (key_not_type hq)).symm
      · rw [if_neg hq]
        rcases us_cases r.next hnw with ⟨hf2, hu3, hs3⟩ | ⟨hf2, hu3⟩
        · rw [hu3, refL, if_pos rfl]
          have h5 := hnw.ok hf2
          unfold Rd.all at hna
          rw [h5.1, h5.2] at hna
          simp at hna
          rw [bad_eq, hna]
        · rw [hu3, refL]
          rw [if_neg (by decide), if_neg (fun h => absurd h.1 (by decide)), if_neg (fun h => absurd h.1 (by decide)), if_neg (fun h => absurd h.1 (by decide)), if_neg (fun h => absurd h.1 (by decide)), if_neg (fun h => hq h.2), if_neg (fun h => absurd h.1 (by decide))]
          rfl
    · rw [if_neg hu2, if_neg (fun h => hu2 h.2), if_neg (fun h => by have := h.1; omega), if_neg (fun h => by have := h.1; omega)]
      rfl
theorem vars_eq (N : Nat) : ∀ (n : Nat) (t : Tg) (r : Rd) (st : Nat), r.well → r.rest.length ≤ 128 → r.all = N → 9 ≤ n + t.vars.length → t.vars.length ≤ 8 → t.keys = [] → (st = 4 ∨ st = 8 ∨ st = 16) → (st = 4 → isScript r.sub = false) → (st = 4 ∨ st = 8 → isRegion r.sub = false) →
    varsF n t r = refL N finT st { t with vars := srtS t.vars } r.us
  | 0, t, r, st, h, hl, ha, hn, hv, hk, hst, h4, h8 => by omega
  | n + 1, t, r, st, h, hl, ha, hn, hv, hk, hst, h4, h8 => by
    unfold varsF
    by_cases hq : isVariant r.sub = true
    · rw [if_pos hq]
      rcases us_cases r h with ⟨hf, hu, hs⟩ | ⟨hf, hu⟩
      · rw [hs, isVariant_nil] at hq; cases hq
      · rw [hu]
        symm
        rw [refL]
        rw [if_neg (show ¬ st = 2 by omega), if_neg (fun hh => by rw [h4 hh.1] at hh; exact absurd hh.2 (by decide)), if_neg (fun hh => by rw [h8 hh.1] at hh; exact absurd hh.2 (by decide)), if_pos ⟨hst, hq⟩]
        have hc : (srtS t.vars).contains (lower r.sub) = t.vars.contains (lower r.sub) := by
          rw [Bool.eq_iff_iff, List.contains_iff_mem, List.contains_iff_mem]
          exact (srtS_perm t.vars).mem_iff
        rw [hc, (srtS_perm t.vars).length_eq]
        by_cases hd : t.vars.contains (lower r.sub) = true
        · rw [if_pos hd, if_pos hd]; rfl
        · rw [if_neg hd, if_neg hd]
          by_cases h8' : t.vars.length = 8
          · rw [if_pos h8', if_pos h8']; rfl
          · rw [if_neg h8', if_neg h8', put_srt]
            have hrn := rest_next r
            rw [vars_eq N n { t with vars := t.vars ++ [lower r.sub] } r.next 16 (well_next r h) (by omega) (by rw [Rd.next_all, ha]) (by simp; omega) (by simp; omega) hk (Or.inr (Or.inr rfl)) (fun e => absurd e (by decide)) (fun e => absurd e (by decide))]
    · rw [if_neg hq]
      exact tail_eq N t r st h hl ha hk hst h4 h8 (by simpa using hq)
theorem region_eq (N : Nat) (t : Tg) (r : Rd) (st : Nat) (h : r.well) (hl : r.rest.length ≤ 128) (ha : r.all = N) (hv : t.vars = []) (hk : t.keys = []) (hst : st = 4 ∨ st = 8) (h4 : st = 4 → isScript r.sub = false) :
    regionF t r = refL N finT st t r.us := by
  have hsv : { t with vars := srtS t.vars } = t := by rw [hv, srtS_nil, ← hv]
  unfold regionF
  by_cases hq : isRegion r.sub = true
  · rw [if_pos hq]
    rcases us_cases r h with ⟨hf, hu, hs⟩ | ⟨hf, hu⟩
    · rw [hs, isRegion_nil] at hq; cases hq
    · rw [hu]
      symm
      rw [refL]
      rw [if_neg (show ¬ st = 2 by omega), if_neg (fun hh => by rw [h4 hh.1] at hh; exact absurd hh.2 (by decide)), if_pos ⟨hst, hq⟩]
      have hrn := rest_next r
      rw [vars_eq N 9 { t with region := upper r.sub } r.next 16 (well_next r h) (by omega) (by rw [Rd.next_all, ha]) (by simp) (by simp [hv]) hk (Or.inr (Or.inr rfl)) (fun e => absurd e (by decide)) (fun e => absurd e (by decide))]
      simp only [hv, srtS_nil]
  · rw [if_neg hq]
    have := vars_eq N 9 t r st h hl ha (by omega) (by simp [hv]) hk (by omega) h4 (fun _ => by simpa using hq)
    rw [hsv] at this
    exact this
theorem script_eq (N : Nat) (t : Tg) (r : Rd) (h : r.well) (hl : r.rest.length ≤ 128) (ha : r.all = N) (hv : t.vars = []) (hk : t.keys = []) :
    scriptF t r = refL N finT 4 t r.us := by
  unfold scriptF
  by_cases hq : isScript r.sub = true
  · rw [if_pos hq]
    rcases us_cases r h with ⟨hf, hu, hs⟩ | ⟨hf, hu⟩
    · rw [hs, isScript_nil] at hq; cases hq
    · rw [hu]
      symm
      rw [refL]
      rw [if_neg (by decide), if_pos ⟨rfl, hq⟩]
      have hrn := rest_next r
      exact (region_eq N { t with script := title r.sub } r.next 8 (well_next r h) (by omega) (by rw [Rd.next_all, ha]) hv hk (Or.inr rfl) (fun e => absurd e (by decide))).symm
  · rw [if_neg hq]
    exact region_eq N t r 4 h hl ha hv hk (Or.inl rfl) (fun _ => by simpa using hq)
/-- the whole -/
theorem ref_eq (s : Str) : refF s = parseF s := by
  unfold refF parseF
  by_cases h1 : 128 < s.length
  · rw [if_pos h1, if_pos h1]
  · rw [if_neg h1, if_neg h1]
    by_cases h2 : lower s = tRoot
    · rw [if_pos h2, if_pos h2]
    · rw [if_neg h2, if_neg h2]
      by_cases h0 : s = []
      · subst h0
        rw [show cutS 0 [] = [([], 0)] from rfl, refL, if_pos rfl, if_neg (by decide), if_neg (by decide)]
        rfl
      · rw [← us_first s h0]
        have ha := Rd.first_all s
        rcases us_cases _ (well_first s) with ⟨hf, hu, hs⟩ | ⟨hf, hu⟩
        · unfold Rd.first at hf; rw [if_neg h0] at hf; cases hf
        · rw [hu, refL, if_pos rfl]
          by_cases hq : isLang (Rd.first s).sub = true
          · rw [if_pos hq, if_pos hq]
            have hrn := rest_next (Rd.first s)
            unfold Rd.all at ha
            rw [script_eq s.length _ (Rd.first s).next (well_next _ (well_first s)) (by omega) (by rw [Rd.next_all]; exact Rd.first_all s) rfl rfl]
            rfl
          · rw [if_neg hq, if_neg hq]
            rfl
end Go.Proofs.YtlmgmifaknlolaaGreat
