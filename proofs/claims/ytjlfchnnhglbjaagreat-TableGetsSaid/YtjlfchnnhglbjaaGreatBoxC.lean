/- A text with an error's number; a tag's box, cell by cell. -/
import Derived.Test.YtjlfchnnhglbjaaGreatCheck
set_option linter.unusedVariables false
set_option linter.unusedSimpArgs false
namespace Go.Proofs.YtjlfchnnhglbjaaGreat
open Go.RowKit Go.Lib Go.Sort

def strErr (p : Str × Int) : Value := .tuple #[.string ⟨p.1.toArray⟩, .int .i64 p.2]

theorem box_cells {W : World} {b : Nat} {a0 a1 a2 a3 a4 : Value} (h : W.heap[b]? = some (.cells #[a0, a1, a2, a3, a4] 108 (0, 0))) :
    W.cell? ⟨b, 0, none⟩ = some a0 ∧ W.cell? ⟨b, 1, none⟩ = some a1 ∧ W.cell? ⟨b, 2, none⟩ = some a2 ∧ W.cell? ⟨b, 3, none⟩ = some a3 ∧ W.cell? ⟨b, 4, none⟩ = some a4 :=
  ⟨cell_of_row _ _ _ _ _ _ h, cell_of_row _ _ _ _ _ _ h, cell_of_row _ _ _ _ _ _ h, cell_of_row _ _ _ _ _ _ h, cell_of_row _ _ _ _ _ _ h⟩

end Go.Proofs.YtjlfchnnhglbjaaGreat
