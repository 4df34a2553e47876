/- The plain functions of package utf and of package tag, on lists of bytes: no program in sight. -/
import Derived.Lib.Strings
set_option linter.unusedVariables false
set_option linter.unusedSimpArgs false
namespace Go.Proofs.YtjlfchnnhglbjaaGreat

/-- a small or a great letter -/
def letB (c : UInt8) : Bool := 97 ≤ (c ||| 32) && (c ||| 32) ≤ 122
def digB (c : UInt8) : Bool := 48 ≤ c && c ≤ 57
/-- bytes, all of one kind -/
def allB (p : UInt8 → Bool) (l : List UInt8) : Bool := l.all p && !l.isEmpty
def lowB (c : UInt8) : UInt8 := if 65 ≤ c && c ≤ 90 then c ^^^ 32 else c
def uppB (c : UInt8) : UInt8 := if 97 ≤ c && c ≤ 122 then c ^^^ 32 else c
def lower (l : List UInt8) : List UInt8 := l.map lowB
def upper (l : List UInt8) : List UInt8 := l.map uppB
def title (l : List UInt8) : List UInt8 := upper (l.take 1) ++ lower (l.drop 1)
def mixedB (l : List UInt8) (lo hi : Nat) : Bool := decide (lo ≤ l.length) && (decide (l.length ≤ hi) && l.all fun c => letB c || digB c)
def isLang (l : List UInt8) : Bool := allB letB l && (l.length == 2 || l.length == 3 || (decide (5 ≤ l.length) && decide (l.length ≤ 8)))
def lettersB (l : List UInt8) (n : Nat) : Bool := l.length == n && allB letB l
def isScript (l : List UInt8) : Bool := lettersB l 4
def isRegion (l : List UInt8) : Bool := lettersB l 2 || (l.length == 3 && allB digB l)
def isVariant (l : List UInt8) : Bool := mixedB l 5 8 || (mixedB l 4 4 && allB digB (l.take 1))
def isKey (l : List UInt8) : Bool := mixedB l 2 2 && allB letB (l.drop 1)
def isType (l : List UInt8) : Bool := mixedB l 3 8

theorem forall_byte {p : UInt8 → Prop} [DecidablePred p] (h : ∀ n : Fin 256, p (UInt8.ofNat n.val)) (c : UInt8) : p c := by
  have := h ⟨c.toNat, c.toNat_lt⟩
  simpa using this

theorem allB_nil (p : UInt8 → Bool) : allB p [] = false := rfl
theorem allB_ne (p : UInt8 → Bool) (l : List UInt8) (h : l ≠ []) : allB p l = l.all p := by
  cases l with
  | nil => exact absurd rfl h
  | cons a r => simp [allB]
theorem allB_one (p : UInt8 → Bool) (c : UInt8) : allB p [c] = p c := by simp [allB]
theorem lower_length (l : List UInt8) : (lower l).length = l.length := by simp [lower]
theorem upper_length (l : List UInt8) : (upper l).length = l.length := by simp [upper]
theorem title_length (l : List UInt8) : (title l).length = l.length := by
  simp only [title, List.length_append, lower_length, upper_length, List.length_take, List.length_drop]; omega
end Go.Proofs.YtjlfchnnhglbjaaGreat
