/- What tag.write computes: no program in sight. -/
import Derived.Test.YtjgeoaaklneojaaParseP
set_option linter.unusedVariables false
set_option linter.unusedSimpArgs false
namespace Go.Proofs.Ytjgeoaaklneojaa

def full (x : Str) : Bool := !x.isEmpty
def pairParts (p : Str × Str) : List Str := if p.2 = [] then [p.1] else [p.1, p.2]
def headPart (l : Str) : Str := if l = [] then tUnd else l
def partsA (t : Tg) (l : List Str) : List Str := headPart t.lang :: l.filter full
def uPart (k : List (Str × Str)) : List Str := if k = [] then [] else [[117]]
def parts (t : Tg) : List Str := partsA t ([t.script, t.region] ++ t.vars) ++ (uPart t.keys ++ t.keys.flatMap pairParts)
def writeF (t : Tg) : Str := Lib.join (parts t) [45]
end Go.Proofs.Ytjgeoaaklneojaa
