/- What tag.write computes: no program in sight. -/
import Derived.Test.YtjlfchnnhglbjaaGreatParseP
set_option linter.unusedVariables false
set_option linter.unusedSimpArgs false
namespace Go.Proofs.YtjlfchnnhglbjaaGreat

def full (x : Str) : Bool := !x.isEmpty
def pairParts (p : Str × Str) : List Str := if p.2 = [] then [p.1] else [p.1, p.2]
def headPart (l : Str) : Str := if l = [] then tUnd else l
def partsA (t : Tg) (l : List Str) : List Str := headPart t.lang :: l.filter full
def uPart (k : List (Str × Str)) : List Str := if k = [] then [] else [[117]]
def parts (t : Tg) : List Str := partsA t ([t.script, t.region] ++ t.vars) ++ (uPart t.keys ++ t.keys.flatMap pairParts)
def writeF (t : Tg) : Str := Lib.join (parts t) [45]
/-- are two tags the same; what tag.Check, Print, Name and Bare compute -/
def sameB (a b : Tg) : Bool := a.lang == b.lang && (a.script == b.script && (a.region == b.region && (decide (a.vars = b.vars) && decide (a.keys = b.keys))))
theorem sameB_refl (a : Tg) : sameB a a = true := by simp [sameB]
def checkF (t : Tg) : Int := if (parseF (writeF t)).err ≠ 0 ∨ sameB (parseF (writeF t)).tag t = false then 2 else 0
def printF (t : Tg) : Str × Int := if checkF t = 0 then (writeF t, 0) else ([], checkF t)
def nameOf (s : Str) : Str := if s = tUnd then tRoot else s
def nameF (t : Tg) : Str × Int := if checkF t = 0 then (nameOf (writeF { t with keys := [] }), 0) else ([], checkF t)
def bareT (t : Tg) : Tg := { t with keys := [] }
end Go.Proofs.YtjlfchnnhglbjaaGreat
