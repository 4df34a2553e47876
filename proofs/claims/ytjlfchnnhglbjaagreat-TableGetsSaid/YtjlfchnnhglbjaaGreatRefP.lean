/- What the reference's Parse computes, over the list of subtags with their places: no program in sight. -/
import Derived.Test.YtjlfchnnhglbjaaGreatRefPut
import Derived.Test.YtjlfchnnhglbjaaGreatRefSplit
import Derived.Test.YtjlfchnnhglbjaaGreatCanonF
set_option linter.unusedVariables false
set_option linter.unusedSimpArgs false
namespace Go.Proofs.YtjlfchnnhglbjaaGreat

/-- one type more for the last key -/
def addV (v x : Str) : Str := if v = [] then x else v ++ [45] ++ x
def setLast (ks : List (Str × Str)) (x : Str) : List (Str × Str) := ks.dropLast ++ (ks.getLast?.map fun p => (p.1, addV p.2 x)).toList
/-- the reference's states: 2 language, 4 script, 8 region, 16 variants, 32 the letter u, 64 keys -/
def refL (N : Nat) (fin : Tg → Tg) : Nat → Tg → List (Str × Nat) → Res
  | st, t, [] => if st = 32 then ⟨Tg.zero, 180, N⟩ else ⟨fin t, 0, 0⟩
  | st, t, (x, at_) :: ps =>
    if st = 2 then (if isLang x then refL N fin 4 { t with lang := if lower x = tUnd then t.lang else lower x } ps else ⟨Tg.zero, 180, at_⟩)
    else if st = 4 ∧ isScript x = true then refL N fin 8 { t with script := title x } ps
    else if (st = 4 ∨ st = 8) ∧ isRegion x = true then refL N fin 16 { t with region := upper x } ps
    else if (st = 4 ∨ st = 8 ∨ st = 16) ∧ isVariant x = true then
      (if t.vars.contains (lower x) then ⟨Tg.zero, 181, at_⟩ else if t.vars.length = 8 then ⟨Tg.zero, 3, at_⟩ else refL N fin 16 { t with vars := putF t.vars (lower x) } ps)
    else if (st = 4 ∨ st = 8 ∨ st = 16) ∧ lower x = [117] then refL N fin 32 t ps
    else if (st = 32 ∨ st = 64) ∧ isKey x = true then
      (if t.keys.any (fun p => p.1 == lower x) then ⟨Tg.zero, 181, at_⟩ else if t.keys.length = 16 then ⟨Tg.zero, 3, at_⟩ else refL N fin 64 { t with keys := t.keys ++ [(lower x, [])] } ps)
    else if st = 64 ∧ isType x = true then refL N fin 64 { t with keys := setLast t.keys (lower x) } ps
    else ⟨Tg.zero, 180, at_⟩
end Go.Proofs.YtjlfchnnhglbjaaGreat
