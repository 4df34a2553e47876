/- What tag.Parse computes, on lists of bytes: no program in sight. -/
import Derived.Test.YtjlfchnnhglbjaaGreatPure
import Derived.Lib.IndexAny
import Derived.Lib.Join
set_option linter.unusedVariables false
set_option linter.unusedSimpArgs false
namespace Go.Proofs.YtjlfchnnhglbjaaGreat

abbrev Str := List UInt8
/-- minus and underline -/
def seps : Str := [45, 95]
def noSep (c : UInt8) : Bool := !seps.contains c

/-- a tag -/
structure Tg where
  lang : Str
  script : Str
  region : Str
  vars : List Str
  keys : List (Str × Str)

def Tg.zero : Tg := ⟨[], [], [], [], []⟩

/-- the reader: what is left of the text, where the subtag begins, the subtag, whether the text is at its end -/
structure Rd where
  rest : Str
  pos : Nat
  sub : Str
  fin : Bool

def Rd.next (r : Rd) : Rd :=
  match r.rest with
  | [] => ⟨[], r.pos + r.sub.length, [], true⟩
  | _ :: l => ⟨l.dropWhile noSep, r.pos + r.sub.length + 1, l.takeWhile noSep, r.fin⟩
def Rd.first (s : Str) : Rd := if s = [] then ⟨[], 0, [], true⟩ else ⟨s.dropWhile noSep, 0, s.takeWhile noSep, false⟩
/-- how many bytes the reader has gone through and has before it -/
def Rd.all (r : Rd) : Nat := r.pos + r.sub.length + r.rest.length

theorem take_drop_len (l : Str) : (l.takeWhile noSep).length + (l.dropWhile noSep).length = l.length := by
  rw [← List.length_append, List.takeWhile_append_dropWhile]
theorem Rd.next_all (r : Rd) : r.next.all = r.all := by
  unfold Rd.next Rd.all
  cases h : r.rest with
  | nil => simp
  | cons c l => have := take_drop_len l; simp only [List.length_cons]; omega
theorem Rd.first_all (s : Str) : (Rd.first s).all = s.length := by
  unfold Rd.first Rd.all
  by_cases h : s = []
  · simp [h]
  · have := take_drop_len s; simp only [h, if_false]; omega

/-- the result: the tag, the error's number, its place -/
structure Res where
  tag : Tg
  err : Nat
  pos : Nat
def bad (e : Nat) (r : Rd) : Res := ⟨Tg.zero, e, r.pos⟩

def tTrue : Str := [116, 114, 117, 101]
def tRoot : Str := [114, 111, 111, 116]
def tUnd : Str := [117, 110, 100]

/-- the types behind a key -/
def types : Nat → Rd → List Str → List Str × Rd
  | 0, r, acc => (acc, r)
  | n + 1, r, acc => if isType r.sub then types n r.next (acc ++ [lower r.sub]) else (acc, r)
def value (l : List Str) : Str := if Lib.join l [45] = tTrue then [] else Lib.join l [45]

def srtS (l : List Str) : List Str := l.mergeSort fun x y => decide (x ≤ y)
def leK (a b : Str × Str) : Bool := decide (a.1 ≤ b.1)
def srtK (l : List (Str × Str)) : List (Str × Str) := l.mergeSort leK

/-- from the label 'keys' on -/
def keysF : Nat → Tg → Rd → Res
  | 0, t, r => bad 0 r
  | n + 1, t, r =>
    if isKey r.sub then
      if t.keys.any (fun p => p.1 == lower r.sub) then bad 181 r
      else if t.keys.length = 16 then bad 3 r
      else keysF n { t with keys := t.keys ++ [(lower r.sub, value (types 130 r.next []).1)] } (types 130 r.next []).2
    else if r.fin then ⟨{ t with keys := srtK t.keys }, 0, 0⟩ else bad 180 r

/-- from behind the variants on -/
def tailF (t : Tg) (r : Rd) : Res :=
  if r.fin then ⟨{ t with vars := srtS t.vars }, 0, 0⟩
  else if lower r.sub = [117] then
    if isKey r.next.sub then keysF 17 { t with vars := srtS t.vars } r.next else bad 180 r.next
  else bad 180 r

/-- from the label 'variants' on -/
def varsF : Nat → Tg → Rd → Res
  | 0, t, r => bad 0 r
  | n + 1, t, r =>
    if isVariant r.sub then
      if t.vars.contains (lower r.sub) then bad 181 r
      else if t.vars.length = 8 then bad 3 r
      else varsF n { t with vars := t.vars ++ [lower r.sub] } r.next
    else tailF t r

def regionF (t : Tg) (r : Rd) : Res :=
  if isRegion r.sub then varsF 9 { t with region := upper r.sub } r.next else varsF 9 t r
def scriptF (t : Tg) (r : Rd) : Res :=
  if isScript r.sub then regionF { t with script := title r.sub } r.next else regionF t r
def langOf (l : Str) : Str := if lower l = tUnd then [] else lower l
def parseF (s : Str) : Res :=
  if 128 < s.length then ⟨Tg.zero, 3, 0⟩
  else if lower s = tRoot then ⟨Tg.zero, 0, 0⟩
  else if isLang (Rd.first s).sub then scriptF { Tg.zero with lang := langOf (Rd.first s).sub } (Rd.first s).next
  else bad 180 (Rd.first s)

/-- two sorted orders of pairs with unlike keys are one -/
theorem sorted_one : ∀ (l l' : List (Str × Str)), l'.Perm l → (l.map (·.1)).Nodup → l.Pairwise (fun a b => ¬ b.1 < a.1) → l'.Pairwise (fun a b => ¬ b.1 < a.1) → l' = l
  | [], l', hp, _, _, _ => List.perm_nil.1 hp
  | x :: l, l', hp, hn, hs, hs' => by
    cases l' with
    | nil => exact absurd (List.perm_nil.1 hp.symm) (by simp)
    | cons y l' =>
      have hxy : y = x := by
        have hy : y ∈ x :: l := hp.subset (List.mem_cons_self)
        have hx : x ∈ y :: l' := hp.symm.subset (List.mem_cons_self)
        rcases List.mem_cons.1 hy with e | hyl
        · exact e
        rcases List.mem_cons.1 hx with e | hxl
        · exact e.symm
        have h1 : ¬ y.1 < x.1 := (List.pairwise_cons.1 hs).1 y hyl
        have h2 : ¬ x.1 < y.1 := (List.pairwise_cons.1 hs').1 x hxl
        have e : x.1 = y.1 := List.le_antisymm (List.not_lt.1 h1) (List.not_lt.1 h2)
        have : x.1 ∉ l.map (·.1) := (List.nodup_cons.1 hn).1
        exact absurd (List.mem_map.2 ⟨y, hyl, e.symm⟩) this
      subst hxy
      rw [sorted_one l l' (List.Perm.cons_inv hp) (List.nodup_cons.1 hn).2 (List.pairwise_cons.1 hs).2 (List.pairwise_cons.1 hs').2]

theorem srtK_sorted (l : List (Str × Str)) : (srtK l).Pairwise (fun a b => ¬ b.1 < a.1) := by
  have h := List.pairwise_mergeSort (le := leK) (fun a b c h1 h2 => by
      simp only [leK, decide_eq_true_eq] at *; exact List.le_trans h1 h2) (fun a b => by
      simp only [leK, Bool.or_eq_true, decide_eq_true_eq]; exact List.le_total _ _) l
  exact h.imp fun {a b} hab => by
    simp only [leK, decide_eq_true_eq] at hab
    exact List.not_lt.2 hab
theorem srtK_perm (l : List (Str × Str)) : (srtK l).Perm l := List.mergeSort_perm l leK
theorem srtK_one (l l' : List (Str × Str)) (hp : l'.Perm l) (hn : (l.map (·.1)).Nodup) (hs : l'.Pairwise (fun a b => ¬ b.1 < a.1)) : l' = srtK l :=
  sorted_one (srtK l) l' (hp.trans (srtK_perm l).symm) (((srtK_perm l).map _).nodup_iff.2 hn) (srtK_sorted l) hs

theorem types_step {g : Nat} {r : Rd} {acc : List Str} {z : List Str × Rd} (h : types g r acc = z) (hg : 1 ≤ g) (hq : isType r.sub = true) : types (g - 1) r.next (acc ++ [lower r.sub]) = z := by
  obtain ⟨k, rfl⟩ : ∃ k, g = k + 1 := ⟨g - 1, by omega⟩
  rw [types, if_pos hq] at h
  exact h
theorem types_end {g : Nat} {r : Rd} {acc : List Str} {z : List Str × Rd} (h : types g r acc = z) (hg : 1 ≤ g) (hq : isType r.sub = false) : z = (acc, r) := by
  obtain ⟨k, rfl⟩ : ∃ k, g = k + 1 := ⟨g - 1, by omega⟩
  rw [types, hq] at h
  exact h.symm
theorem types_inv {g : Nat} {r : Rd} (h : r.rest.length + 2 ≤ g) : r.next.rest.length + 2 ≤ g - 1 ∨ (isType r.next.sub = false ∧ 1 ≤ g - 1) := by
  unfold Rd.next
  cases hr : r.rest with
  | nil => right; rw [hr] at h; simp at h; exact ⟨rfl, by omega⟩
  | cons c l =>
    left
    rw [hr] at h
    have := take_drop_len l
    simp at h ⊢
    omega

theorem joinTail_len : ∀ (l : List Str), (∀ y ∈ l, y.length ≤ 128) → (Lib.joinTail [45] l).length ≤ l.length * 129
  | [], _ => by simp [Lib.joinTail]
  | x :: l, h => by
    have ih := joinTail_len l (fun y hy => h y (List.mem_cons_of_mem _ hy))
    have hx := h x (List.mem_cons_self)
    simp only [Lib.joinTail, List.map_cons, List.flatten_cons, List.length_append, List.length_cons, List.length_nil] at ih ⊢
    omega
theorem join_len (l : List Str) (h : ∀ y ∈ l, y.length ≤ 128) : (Lib.join l [45]).length ≤ l.length * 129 := by
  cases l with
  | nil => simp [Lib.join_nil]
  | cons x l =>
    rw [Lib.join_cons, List.length_append]
    have := joinTail_len l (fun y hy => h y (List.mem_cons_of_mem _ hy))
    have hx := h x (List.mem_cons_self)
    simp only [List.length_cons]
    omega
end Go.Proofs.YtjlfchnnhglbjaaGreat
