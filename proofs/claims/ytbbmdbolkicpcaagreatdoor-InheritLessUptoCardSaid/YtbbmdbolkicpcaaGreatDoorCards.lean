/-
  DERIVED. GIVEN WITH THE SEED: THE CARDS: each row of YtbbmdbolkicpcaaGreatDoorRows.lean that lists a variable, with what it lists TIED to the program's text (the seventh form; the later family's looks); each row that meets fmt, with fmt's text TOLD by the authors' own Lean function (tested against real Go, not proved from fmt's source: count such statements apart). THE CARD IS WHAT COUNTS. Prove the row's statement (the work); the ties are given (YtbbmdbolkicpcaaGreatDoorTie.lean); close each card by the builder's one call (the guide's Derived/Test/ToyasCard.lean, 'card_holds'). Laid BY PROGRAM, IN A SANDBOX (cutbox-door.mjs). By AI agents, Wed Nov 11 2026. No macro, syntax, notation, axiom, sorry.
-/
import Derived.Test.YtbbmdbolkicpcaaGreatDoorRows
import GoSem.ClaimSeven
namespace Go.Proofs.YtbbmdbolkicpcaaGreatDoor
namespace Rows

/-- THE TIED CARD OF 'vernacularlaw14.InheritNone'. -/
def inheritNoneCard : Claim7 := { stood := { row := inheritNoneRow, standIns := [], harness := (true, "a40087fa866992e7e62b15675d28f453c6c22514686628e6a0293f7ec3e958de"), looks := false }, kinds := [], alts := [], laidByText := true, laidKinds := [.data, .pinned], laidTests := true, laidLooks := .later }
def InheritNoneCardSaid : Prop := Claim7.holds Tryz.pinned (.plain (OpenSpec.ofChange inheritNoneSpec)) inheritNoneCard

/-- THE TIED CARD OF 'vernacularlaw14.InheritOwn'. -/
def inheritOwnCard : Claim7 := { stood := { row := inheritOwnRow, standIns := [], harness := (true, "a40087fa866992e7e62b15675d28f453c6c22514686628e6a0293f7ec3e958de"), looks := false }, kinds := [], alts := [], laidByText := true, laidKinds := [.data, .pinned], laidTests := true, laidLooks := .later }
def InheritOwnCardSaid : Prop := Claim7.holds Tryz.pinned (.plain (OpenSpec.ofChange inheritOwnSpec)) inheritOwnCard

/-- THE TIED CARD OF 'vernacularlaw14.InheritKnown'. -/
def inheritKnownCard : Claim7 := { stood := { row := inheritKnownRow, standIns := [], harness := (true, "a40087fa866992e7e62b15675d28f453c6c22514686628e6a0293f7ec3e958de"), looks := false }, kinds := [], alts := [], laidByText := true, laidKinds := [.data, .pinned], laidTests := true, laidLooks := .later }
def InheritKnownCardSaid : Prop := Claim7.holds Tryz.pinned (.plain (OpenSpec.ofChange inheritKnownSpec)) inheritKnownCard

/-- THE TIED CARD OF 'vernacularlaw14.InheritLess'. -/
def inheritLessCard : Claim7 := { stood := { row := inheritLessRow, standIns := [], harness := (true, "a40087fa866992e7e62b15675d28f453c6c22514686628e6a0293f7ec3e958de"), looks := false }, kinds := [], alts := [], laidByText := true, laidKinds := [.data, .pinned], laidTests := true, laidLooks := .later }
def InheritLessCardSaid : Prop := Claim7.holds Tryz.pinned (.plain (OpenSpec.ofChange inheritLessSpec)) inheritLessCard

/-- THE SECOND FORM's CARD OF 'vernacularlaw14.InheritNone'. -/
def inheritNoneUptoCard : Claim7 := { stood := { row := inheritNoneUptoRow, standIns := [], harness := (true, "a40087fa866992e7e62b15675d28f453c6c22514686628e6a0293f7ec3e958de"), looks := false }, kinds := [], alts := [], laidByText := true, laidKinds := [.data, .pinned], laidTests := true, laidLooks := .later }
def InheritNoneUptoCardSaid : Prop := Claim7.holds Tryz.pinned (.plain (OpenSpec.upto inheritNoneSpec)) inheritNoneUptoCard

/-- THE SECOND FORM's CARD OF 'vernacularlaw14.InheritOwn'. -/
def inheritOwnUptoCard : Claim7 := { stood := { row := inheritOwnUptoRow, standIns := [], harness := (true, "a40087fa866992e7e62b15675d28f453c6c22514686628e6a0293f7ec3e958de"), looks := false }, kinds := [], alts := [], laidByText := true, laidKinds := [.data, .pinned], laidTests := true, laidLooks := .later }
def InheritOwnUptoCardSaid : Prop := Claim7.holds Tryz.pinned (.plain (OpenSpec.upto inheritOwnSpec)) inheritOwnUptoCard

/-- THE SECOND FORM's CARD OF 'vernacularlaw14.InheritKnown'. -/
def inheritKnownUptoCard : Claim7 := { stood := { row := inheritKnownUptoRow, standIns := [], harness := (true, "a40087fa866992e7e62b15675d28f453c6c22514686628e6a0293f7ec3e958de"), looks := false }, kinds := [], alts := [], laidByText := true, laidKinds := [.data, .pinned], laidTests := true, laidLooks := .later }
def InheritKnownUptoCardSaid : Prop := Claim7.holds Tryz.pinned (.plain (OpenSpec.upto inheritKnownSpec)) inheritKnownUptoCard

/-- THE SECOND FORM's CARD OF 'vernacularlaw14.InheritLess'. -/
def inheritLessUptoCard : Claim7 := { stood := { row := inheritLessUptoRow, standIns := [], harness := (true, "a40087fa866992e7e62b15675d28f453c6c22514686628e6a0293f7ec3e958de"), looks := false }, kinds := [], alts := [], laidByText := true, laidKinds := [.data, .pinned], laidTests := true, laidLooks := .later }
def InheritLessUptoCardSaid : Prop := Claim7.holds Tryz.pinned (.plain (OpenSpec.upto inheritLessSpec)) inheritLessUptoCard
end Rows
end Go.Proofs.YtbbmdbolkicpcaaGreatDoor
