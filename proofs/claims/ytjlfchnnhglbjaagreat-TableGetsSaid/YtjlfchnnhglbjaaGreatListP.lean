/- What tag.Parse computes, over the list of subtags: no program in sight. -/
import Derived.Test.YtjlfchnnhglbjaaGreatDressP
import Derived.Test.YtjlfchnnhglbjaaGreatWriteP
set_option linter.unusedVariables false
set_option linter.unusedSimpArgs false
namespace Go.Proofs.YtjlfchnnhglbjaaGreat

/-- what is left of a text, as subtags -/
def splitRest : Nat → Str → List Str
  | 0, _ => []
  | _ + 1, [] => []
  | n + 1, _ :: l => l.takeWhile noSep :: splitRest n (l.dropWhile noSep)
theorem splitRest_more : ∀ (n m : Nat) (l : Str), l.length ≤ n → l.length ≤ m → splitRest n l = splitRest m l
  | 0, m, l, h, _ => by cases l with | nil => cases m <;> rfl | cons => simp at h
  | n + 1, 0, l, _, h => by cases l with | nil => rfl | cons => simp at h
  | n + 1, m + 1, [], _, _ => rfl
  | n + 1, m + 1, c :: l, h1, h2 => by
    have := take_drop_len l
    simp only [List.length_cons] at h1 h2
    simp only [splitRest]
    rw [splitRest_more n m _ (by omega) (by omega)]
/-- the reader's subtags -/
def Rd.subs (r : Rd) : List Str := if r.fin then [] else r.sub :: splitRest r.rest.length r.rest
/-- a reader that stands well: at its end nothing is left -/
def Rd.ok (r : Rd) : Prop := r.fin = true → r.sub = [] ∧ r.rest = []
theorem ok_next (r : Rd) (h : r.ok) : r.next.ok := by
  unfold Rd.ok Rd.next at *
  cases hr : r.rest with
  | nil => intro _; exact ⟨rfl, rfl⟩
  | cons c l => intro hf; have := (h hf).2; rw [hr] at this; cases this
theorem ok_first (s : Str) : (Rd.first s).ok := by
  unfold Rd.ok Rd.first
  split
  · intro _; exact ⟨rfl, rfl⟩
  · intro h; cases h
theorem subs_next (r : Rd) (h : r.ok) : r.next.subs = r.subs.drop 1 := by
  unfold Rd.subs Rd.next
  cases hr : r.rest with
  | nil => cases r.fin <;> simp [splitRest]
  | cons c l =>
    cases hf : r.fin
    · have := take_drop_len l
      simp only [List.length_cons, splitRest, List.drop_succ_cons, List.drop_zero]
      simp only [Bool.false_eq_true, if_false]
      rw [splitRest_more l.length (l.dropWhile noSep).length _ (by omega) (Nat.le_refl _)]
      rfl
    · have := (h hf).2; rw [hr] at this; cases this

/-- the types behind a key -/
def typesL (ps : List Str) : List Str := ps.takeWhile isType
/-- from the label 'keys' on -/
def keysL : Nat → Tg → List Str → Option Tg
  | 0, _, _ => none
  | _ + 1, t, [] => some { t with keys := srtK t.keys }
  | n + 1, t, x :: ps =>
    if isKey x then
      if t.keys.any (fun p => p.1 == lower x) then none
      else if t.keys.length = 16 then none
      else keysL n { t with keys := t.keys ++ [(lower x, value ((ps.takeWhile isType).map lower))] } (ps.dropWhile isType)
    else none
def tailL (t : Tg) : List Str → Option Tg
  | [] => some { t with vars := srtS t.vars }
  | x :: ps => if lower x = [117] then (match ps with
      | [] => none
      | y :: qs => if isKey y then keysL 17 { t with vars := srtS t.vars } (y :: qs) else none) else none
def varsL : Nat → Tg → List Str → Option Tg
  | 0, _, _ => none
  | _ + 1, t, [] => tailL t []
  | n + 1, t, x :: ps =>
    if isVariant x then
      if t.vars.contains (lower x) then none
      else if t.vars.length = 8 then none
      else varsL n { t with vars := t.vars ++ [lower x] } ps
    else tailL t (x :: ps)
def regionL (t : Tg) : List Str → Option Tg
  | [] => varsL 9 t []
  | x :: ps => if isRegion x then varsL 9 { t with region := upper x } ps else varsL 9 t (x :: ps)
def scriptL (t : Tg) : List Str → Option Tg
  | [] => regionL t []
  | x :: ps => if isScript x then regionL { t with script := title x } ps else regionL t (x :: ps)
def parseL : List Str → Option Tg
  | [] => none
  | x :: ps => if isLang x then scriptL { Tg.zero with lang := langOf x } ps else none
def okR (x : Res) : Option Tg := if x.err = 0 then some x.tag else none
theorem okR_bad (e : Nat) (r : Rd) (h : e ≠ 0) : okR (bad e r) = none := by unfold okR bad; rw [if_neg h]

theorem fin_cases (r : Rd) (h : r.ok) : (r.fin = true ∧ r.subs = [] ∧ r.sub = []) ∨ (r.fin = false ∧ ∃ ps, r.subs = r.sub :: ps ∧ r.next.subs = ps) := by
  cases hf : r.fin
  · right
    refine ⟨rfl, _, by unfold Rd.subs; rw [hf]; rfl, ?_⟩
    rw [subs_next r h]
    unfold Rd.subs
    rw [hf]
    rfl
  · left
    exact ⟨rfl, by unfold Rd.subs; rw [hf]; rfl, (h hf).1⟩
end Go.Proofs.YtjlfchnnhglbjaaGreat
