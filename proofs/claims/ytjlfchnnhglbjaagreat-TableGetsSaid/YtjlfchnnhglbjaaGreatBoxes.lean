/- A tag's box, all five cells stored. -/
import Derived.Test.YtjlfchnnhglbjaaGreatBoxC
set_option linter.unusedVariables false
set_option linter.unusedSimpArgs false
namespace Go.Proofs.YtjlfchnnhglbjaaGreat
open Go.RowKit Go.Lib Go.Sort

/-- a tag's five cells stored one by one -/
def P5 (w : World) (b : Nat) (a0 a1 a2 a3 a4 : Value) : World :=
  ((((w.setCell ⟨b, 0, none⟩ a0).setCell ⟨b, 1, none⟩ a1).setCell ⟨b, 2, none⟩ a2).setCell ⟨b, 3, none⟩ a3).setCell ⟨b, 4, none⟩ a4
theorem P5_row {w : World} {b : Nat} {z0 z1 z2 z3 z4 : Value} (a0 a1 a2 a3 a4 : Value) (h : w.heap[b]? = some (.cells #[z0, z1, z2, z3, z4] 108 (0, 0))) : (P5 w b a0 a1 a2 a3 a4).heap[b]? = some (.cells #[a0, a1, a2, a3, a4] 108 (0, 0)) := by
  unfold P5
  rw [heap_setCell_same _ _ _ _ _ _ (heap_setCell_same _ _ _ _ _ _ (heap_setCell_same _ _ _ _ _ _ (heap_setCell_same _ _ _ _ _ _ (heap_setCell_same _ _ _ _ _ _ h))))]
  simp
theorem P5_below {B b : Nat} {w0 w : World} (a0 a1 a2 a3 a4 : Value) (h : Below B w0 w) (hb : B ≤ b) : Below B w0 (P5 w b a0 a1 a2 a3 a4) :=
  ((((h.setCell (by simpa using hb) _).setCell (by simpa using hb) _).setCell (by simpa using hb) _).setCell (by simpa using hb) _).setCell (by simpa using hb) _
theorem P5_own {w : World} {b base : Nat} {e : TypeId} {size : Nat} {v : Value} {n : Nat} {xs : List Value} (a0 a1 a2 a3 a4 : Value) (h : w.ownsRow base e size v n xs) (hb : v.ownBlock ≠ some b) : (P5 w b a0 a1 a2 a3 a4).ownsRow base e size v n xs :=
  own_set (own_set (own_set (own_set (own_set h hb _ _) hb _ _) hb _ _) hb _ _) hb _ _
end Go.Proofs.YtjlfchnnhglbjaaGreat
