/-
  DERIVED. GIVEN WITH THE SEED: THE CARDS: each row of YtbbmdbolkicpcabGreatDoorRows.lean that lists a variable, with what it lists TIED to the program's text (the seventh form; the later family's looks); each row that meets fmt, with fmt's text TOLD by the authors' own Lean function (tested against real Go, not proved from fmt's source: count such statements apart). THE CARD IS WHAT COUNTS. Prove the row's statement (the work); the ties are given (YtbbmdbolkicpcabGreatDoorTie.lean); close each card by the builder's one call (the guide's Derived/Test/ToyasCard.lean, 'card_holds'). Laid BY PROGRAM, IN A SANDBOX (cutbox-door.mjs). By AI agents, Wed Nov 11 2026. No macro, syntax, notation, axiom, sorry.
-/
import Derived.Test.YtbbmdbolkicpcabGreatDoorRows
import GoSem.ClaimSeven
namespace Go.Proofs.YtbbmdbolkicpcabGreatDoor
namespace Rows

/-- THE TIED CARD OF 'vernacularlaw14.InheritAll'. -/
def inheritAllCard : Claim7 := { stood := { row := inheritAllRow, standIns := [], harness := (true, "49d1ea2494129882e1d8afe2e69b46ea3dbe9a5018657cb2c2928a5c5c9b2665"), looks := false }, kinds := [], alts := [], laidByText := true, laidKinds := [.data, .pinned], laidTests := true, laidLooks := .later }
def InheritAllCardSaid : Prop := Claim7.holds Tryz.pinned (.plain (OpenSpec.ofChange inheritAllSpec)) inheritAllCard

/-- THE TIED CARD OF 'vernacularlaw14.InheritSideways'. -/
def inheritSidewaysCard : Claim7 := { stood := { row := inheritSidewaysRow, standIns := [], harness := (true, "49d1ea2494129882e1d8afe2e69b46ea3dbe9a5018657cb2c2928a5c5c9b2665"), looks := false }, kinds := [], alts := [], laidByText := true, laidKinds := [.data, .pinned], laidTests := true, laidLooks := .later }
def InheritSidewaysCardSaid : Prop := Claim7.holds Tryz.pinned (.plain (OpenSpec.ofChange inheritSidewaysSpec)) inheritSidewaysCard

/-- THE TIED CARD OF 'vernacularlaw14.InheritTrails'. -/
def inheritTrailsCard : Claim7 := { stood := { row := inheritTrailsRow, standIns := [], harness := (true, "49d1ea2494129882e1d8afe2e69b46ea3dbe9a5018657cb2c2928a5c5c9b2665"), looks := false }, kinds := [], alts := [], laidByText := true, laidKinds := [.data, .pinned], laidTests := true, laidLooks := .later }
def InheritTrailsCardSaid : Prop := Claim7.holds Tryz.pinned (.plain (OpenSpec.ofChange inheritTrailsSpec)) inheritTrailsCard

/-- THE SECOND FORM's CARD OF 'vernacularlaw14.InheritAll'. -/
def inheritAllUptoCard : Claim7 := { stood := { row := inheritAllUptoRow, standIns := [], harness := (true, "49d1ea2494129882e1d8afe2e69b46ea3dbe9a5018657cb2c2928a5c5c9b2665"), looks := false }, kinds := [], alts := [], laidByText := true, laidKinds := [.data, .pinned], laidTests := true, laidLooks := .later }
def InheritAllUptoCardSaid : Prop := Claim7.holds Tryz.pinned (.plain (OpenSpec.upto inheritAllSpec)) inheritAllUptoCard

/-- THE SECOND FORM's CARD OF 'vernacularlaw14.InheritSideways'. -/
def inheritSidewaysUptoCard : Claim7 := { stood := { row := inheritSidewaysUptoRow, standIns := [], harness := (true, "49d1ea2494129882e1d8afe2e69b46ea3dbe9a5018657cb2c2928a5c5c9b2665"), looks := false }, kinds := [], alts := [], laidByText := true, laidKinds := [.data, .pinned], laidTests := true, laidLooks := .later }
def InheritSidewaysUptoCardSaid : Prop := Claim7.holds Tryz.pinned (.plain (OpenSpec.upto inheritSidewaysSpec)) inheritSidewaysUptoCard

/-- THE SECOND FORM's CARD OF 'vernacularlaw14.InheritTrails'. -/
def inheritTrailsUptoCard : Claim7 := { stood := { row := inheritTrailsUptoRow, standIns := [], harness := (true, "49d1ea2494129882e1d8afe2e69b46ea3dbe9a5018657cb2c2928a5c5c9b2665"), looks := false }, kinds := [], alts := [], laidByText := true, laidKinds := [.data, .pinned], laidTests := true, laidLooks := .later }
def InheritTrailsUptoCardSaid : Prop := Claim7.holds Tryz.pinned (.plain (OpenSpec.upto inheritTrailsSpec)) inheritTrailsUptoCard
end Rows
end Go.Proofs.YtbbmdbolkicpcabGreatDoor
