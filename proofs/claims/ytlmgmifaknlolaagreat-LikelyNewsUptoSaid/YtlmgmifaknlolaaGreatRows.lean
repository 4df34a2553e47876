/-
  No cell of these rows narrows 'for every input' (looked for: loops, veiled, ifaces, maps, wideKeys, modest, calm, conditions, laid).
  DERIVED. THE GIVEN ROWS OF THIS SEAT. 6 by the template 'for every input the law returns true; each argument reads behind the call as it read before'; 0 by the template 'total and deterministic' (their statements: YtlmgmifaknlolaaGreatTotals.lean).
  GIVEN WITH THE SEED: the statements are not yours to turn. If you find one false, say at which input.
  Laid BY PROGRAM, IN A SANDBOX (cutbox-rows.mjs): the forced cells as the released guide's own fill.sh prints them over the translation 4b495ac289baa033… (all of the seat's roots in one cut). By AI agents, Wed Nov 11 2026. No macro, syntax, notation, axiom, sorry.
-/
import Derived.Test.YtlmgmifaknlolaaGreatChecked
import GoSem.Claim
import GoSem.ClaimJoined
import GoSem.ClaimMapViews
import Derived.JoinedTies
import Derived.KernelRfl
namespace Go.Proofs.YtlmgmifaknlolaaGreat
/- THE CELL 'sum', in the pinned program and in every row, IS THE sha256 OF THE DUMP (.gsa) THAT YtlmgmifaknlolaaGreatProg.lean LOADS. Nothing in Lean hashes anything: it is a label: what it is worth is what the hold of that sum in a sandbox is worth. -/
noncomputable def Tryz.pinned : Pinned := { name := "ytlmgmifaknlolaagreat", sum := "4b495ac289baa0331ea65b899881148d16ff221be9185d668fcb05a00cd53965", checked := Tryz.checked }
namespace Rows
def none {H : Type} : Left H := { results := [], args := [] }

/-- 'vernacularlaw10.LikelyAdds': WHATEVER THE INPUT: true; the input reads as it did. -/
def likelyAddsSpec : ChangeSpec := { name := "likelyAdds", fn := fun _ => fun
  | [d1, d2] => { results := [.lit (.bool true)], args := [d1, d2] }
  | _ => none }
def likelyAddsRow : OpenClaim := { program := "ytlmgmifaknlolaagreat", sum := "4b495ac289baa0331ea65b899881148d16ff221be9185d668fcb05a00cd53965", func := "vernacular/vernacularlaw10.LikelyAdds", spec := "likelyAdds", inPlace := ["internal/bytealg.IndexByteString", "internal/bytealg.IndexString", "internal/abi.NoEscape", "internal/bytealg.MakeNoZero", "internal/bytealg.abigen_runtime_cmpstring"], unfollowed := true, recurses := true, named := ["internal/bytealg.MaxLen"], plainKeys := false, apart := false }
def LikelyAddsSaid : Prop := likelyAddsRow.holds Tryz.pinned (OpenSpec.ofChange likelyAddsSpec)

/-- ITS FALSE NEIGHBOUR: 'it returns false'. Refute it at one input. -/
def likelyAddsWrong : ChangeSpec := { name := "likelyAdds", fn := fun _ => fun
  | [d1, d2] => { results := [.lit (.bool false)], args := [d1, d2] }
  | _ => none }
def LikelyAddsWrongFalsely : Prop := likelyAddsRow.holds Tryz.pinned (OpenSpec.ofChange likelyAddsWrong)

/-- 'vernacularlaw10.LikelyRemoves': WHATEVER THE INPUT: true; the input reads as it did. -/
def likelyRemovesSpec : ChangeSpec := { name := "likelyRemoves", fn := fun _ => fun
  | [d1, d2] => { results := [.lit (.bool true)], args := [d1, d2] }
  | _ => none }
def likelyRemovesRow : OpenClaim := { program := "ytlmgmifaknlolaagreat", sum := "4b495ac289baa0331ea65b899881148d16ff221be9185d668fcb05a00cd53965", func := "vernacular/vernacularlaw10.LikelyRemoves", spec := "likelyRemoves", inPlace := ["internal/bytealg.IndexByteString", "internal/bytealg.IndexString", "internal/abi.NoEscape", "internal/bytealg.MakeNoZero", "internal/bytealg.abigen_runtime_cmpstring"], unfollowed := true, recurses := true, named := ["internal/bytealg.MaxLen"], plainKeys := false, apart := false }
def LikelyRemovesSaid : Prop := likelyRemovesRow.holds Tryz.pinned (OpenSpec.ofChange likelyRemovesSpec)

/-- ITS FALSE NEIGHBOUR: 'it returns false'. Refute it at one input. -/
def likelyRemovesWrong : ChangeSpec := { name := "likelyRemoves", fn := fun _ => fun
  | [d1, d2] => { results := [.lit (.bool false)], args := [d1, d2] }
  | _ => none }
def LikelyRemovesWrongFalsely : Prop := likelyRemovesRow.holds Tryz.pinned (OpenSpec.ofChange likelyRemovesWrong)

/-- 'vernacularlaw10.LikelyKeeps': WHATEVER THE INPUT: true; the input reads as it did. -/
def likelyKeepsSpec : ChangeSpec := { name := "likelyKeeps", fn := fun _ => fun
  | [d1, d2] => { results := [.lit (.bool true)], args := [d1, d2] }
  | _ => none }
def likelyKeepsRow : OpenClaim := { program := "ytlmgmifaknlolaagreat", sum := "4b495ac289baa0331ea65b899881148d16ff221be9185d668fcb05a00cd53965", func := "vernacular/vernacularlaw10.LikelyKeeps", spec := "likelyKeeps", inPlace := ["internal/bytealg.IndexByteString", "internal/bytealg.IndexString", "internal/abi.NoEscape", "internal/bytealg.MakeNoZero", "internal/bytealg.abigen_runtime_cmpstring"], unfollowed := true, recurses := true, named := ["internal/bytealg.MaxLen"], plainKeys := false, apart := false }
def LikelyKeepsSaid : Prop := likelyKeepsRow.holds Tryz.pinned (OpenSpec.ofChange likelyKeepsSpec)

/-- ITS FALSE NEIGHBOUR: 'it returns false'. Refute it at one input. -/
def likelyKeepsWrong : ChangeSpec := { name := "likelyKeeps", fn := fun _ => fun
  | [d1, d2] => { results := [.lit (.bool false)], args := [d1, d2] }
  | _ => none }
def LikelyKeepsWrongFalsely : Prop := likelyKeepsRow.holds Tryz.pinned (OpenSpec.ofChange likelyKeepsWrong)

/-- 'vernacularlaw10.LikelySaid': WHATEVER THE INPUT: true; the input reads as it did. -/
def likelySaidSpec : ChangeSpec := { name := "likelySaid", fn := fun _ => fun
  | [d1, d2] => { results := [.lit (.bool true)], args := [d1, d2] }
  | _ => none }
def likelySaidRow : OpenClaim := { program := "ytlmgmifaknlolaagreat", sum := "4b495ac289baa0331ea65b899881148d16ff221be9185d668fcb05a00cd53965", func := "vernacular/vernacularlaw10.LikelySaid", spec := "likelySaid", inPlace := ["internal/bytealg.IndexByteString", "internal/bytealg.IndexString", "internal/abi.NoEscape", "internal/bytealg.MakeNoZero", "internal/bytealg.abigen_runtime_cmpstring"], unfollowed := true, recurses := true, named := ["internal/bytealg.MaxLen"], plainKeys := false, apart := false }
def LikelySaidSaid : Prop := likelySaidRow.holds Tryz.pinned (OpenSpec.ofChange likelySaidSpec)

/-- ITS FALSE NEIGHBOUR: 'it returns false'. Refute it at one input. -/
def likelySaidWrong : ChangeSpec := { name := "likelySaid", fn := fun _ => fun
  | [d1, d2] => { results := [.lit (.bool false)], args := [d1, d2] }
  | _ => none }
def LikelySaidWrongFalsely : Prop := likelySaidRow.holds Tryz.pinned (OpenSpec.ofChange likelySaidWrong)

/-- 'vernacularlaw10.LikelyNone': WHATEVER THE INPUT: true; the input reads as it did. -/
def likelyNoneSpec : ChangeSpec := { name := "likelyNone", fn := fun _ => fun
  | [d] => { results := [.lit (.bool true)], args := [d] }
  | _ => none }
def likelyNoneRow : OpenClaim := { program := "ytlmgmifaknlolaagreat", sum := "4b495ac289baa0331ea65b899881148d16ff221be9185d668fcb05a00cd53965", func := "vernacular/vernacularlaw10.LikelyNone", spec := "likelyNone", inPlace := ["internal/bytealg.IndexByteString", "internal/bytealg.IndexString", "internal/abi.NoEscape", "internal/bytealg.MakeNoZero", "internal/bytealg.abigen_runtime_cmpstring"], unfollowed := true, recurses := true, named := ["internal/bytealg.MaxLen"], plainKeys := false, apart := false }
def LikelyNoneSaid : Prop := likelyNoneRow.holds Tryz.pinned (OpenSpec.ofChange likelyNoneSpec)

/-- ITS FALSE NEIGHBOUR: 'it returns false'. Refute it at one input. -/
def likelyNoneWrong : ChangeSpec := { name := "likelyNone", fn := fun _ => fun
  | [d] => { results := [.lit (.bool false)], args := [d] }
  | _ => none }
def LikelyNoneWrongFalsely : Prop := likelyNoneRow.holds Tryz.pinned (OpenSpec.ofChange likelyNoneWrong)

/-- 'vernacularlaw10.LikelyNews': WHATEVER THE INPUT: true; the input reads as it did. -/
def likelyNewsSpec : ChangeSpec := { name := "likelyNews", fn := fun _ => fun
  | [d] => { results := [.lit (.bool true)], args := [d] }
  | _ => none }
def likelyNewsRow : OpenClaim := { program := "ytlmgmifaknlolaagreat", sum := "4b495ac289baa0331ea65b899881148d16ff221be9185d668fcb05a00cd53965", func := "vernacular/vernacularlaw10.LikelyNews", spec := "likelyNews", inPlace := ["internal/bytealg.IndexByteString", "internal/bytealg.IndexString", "internal/abi.NoEscape", "internal/bytealg.MakeNoZero", "internal/bytealg.abigen_runtime_cmpstring", "internal/reflectlite.ValueOf", "internal/reflectlite.Swapper", "(internal/reflectlite.Value).Len"], unfollowed := true, recurses := true, named := ["internal/bytealg.MaxLen"], plainKeys := false, apart := false }
def LikelyNewsSaid : Prop := likelyNewsRow.holds Tryz.pinned (OpenSpec.ofChange likelyNewsSpec)

/-- ITS FALSE NEIGHBOUR: 'it returns false'. Refute it at one input. -/
def likelyNewsWrong : ChangeSpec := { name := "likelyNews", fn := fun _ => fun
  | [d] => { results := [.lit (.bool false)], args := [d] }
  | _ => none }
def LikelyNewsWrongFalsely : Prop := likelyNewsRow.holds Tryz.pinned (OpenSpec.ofChange likelyNewsWrong)

/- THE SECOND FORM. 'bulk': how many values and letters a reading holds, each counted each time it is reached (what is shared counts as often as it is met; a slice's spare places count too). A statement '..UptoSaid' is the law's where the arguments, and the package variables that the reading takes, are together of bulk at most 1048576: NARROWER than '..Said'. Prove '..Said' where nothing that the law and all that it calls make is longer than what came in: it says more and counts as full. Else prove '..UptoSaid'. A law counts once. -/
mutual
def uptoBulk {H : Type} : DataW H → Nat
  | .lit (.string bytes) => bytes.length + 1
  | .lit _ => 1
  | .nil => 1
  | .ptr d => uptoBulk d + 1
  | .slice elems spare => uptoBulkAll elems + uptoBulkAll spare + 1
  | .agg parts => uptoBulkAll parts + 1
  | .iface _ d => uptoBulk d + 1
  | .map entries => uptoBulkEntries entries + 1
  | .held _ => 1
def uptoBulkAll {H : Type} : List (DataW H) → Nat
  | [] => 0
  | d :: r => uptoBulk d + uptoBulkAll r
def uptoBulkEntries {H : Type} : List (Lit × DataW H) → Nat
  | [] => 0
  | x :: r => uptoBulkEntry x + uptoBulkEntries r
def uptoBulkEntry {H : Type} : Lit × DataW H → Nat
  | (.string bytes, d) => bytes.length + uptoBulk d + 1
  | (_, d) => uptoBulk d + 1
 end
def uptoSmall : (H : Type) → List (DataW H) → Bool := fun _ ds => decide (uptoBulkAll ds ≤ 1048576)
def OpenSpec.upto (s : _root_.Go.ChangeSpec) : _root_.Go.OpenSpec := { _root_.Go.OpenSpec.ofChange s with cond := some uptoSmall }

/-- 'vernacularlaw10.LikelyAdds', WHERE WHAT IT READS IS OF BULK AT MOST 1048576: true; the input reads as it did. -/
def likelyAddsUptoRow : OpenClaim := { program := "ytlmgmifaknlolaagreat", sum := "4b495ac289baa0331ea65b899881148d16ff221be9185d668fcb05a00cd53965", func := "vernacular/vernacularlaw10.LikelyAdds", spec := "likelyAdds", inPlace := ["internal/bytealg.IndexByteString", "internal/bytealg.IndexString", "internal/abi.NoEscape", "internal/bytealg.MakeNoZero", "internal/bytealg.abigen_runtime_cmpstring"], unfollowed := true, recurses := true, named := ["internal/bytealg.MaxLen"], plainKeys := false, apart := false, narrowed := true }
def LikelyAddsUptoSaid : Prop := likelyAddsUptoRow.holds Tryz.pinned (OpenSpec.upto likelyAddsSpec)

/-- 'vernacularlaw10.LikelyRemoves', WHERE WHAT IT READS IS OF BULK AT MOST 1048576: true; the input reads as it did. -/
def likelyRemovesUptoRow : OpenClaim := { program := "ytlmgmifaknlolaagreat", sum := "4b495ac289baa0331ea65b899881148d16ff221be9185d668fcb05a00cd53965", func := "vernacular/vernacularlaw10.LikelyRemoves", spec := "likelyRemoves", inPlace := ["internal/bytealg.IndexByteString", "internal/bytealg.IndexString", "internal/abi.NoEscape", "internal/bytealg.MakeNoZero", "internal/bytealg.abigen_runtime_cmpstring"], unfollowed := true, recurses := true, named := ["internal/bytealg.MaxLen"], plainKeys := false, apart := false, narrowed := true }
def LikelyRemovesUptoSaid : Prop := likelyRemovesUptoRow.holds Tryz.pinned (OpenSpec.upto likelyRemovesSpec)

/-- 'vernacularlaw10.LikelyKeeps', WHERE WHAT IT READS IS OF BULK AT MOST 1048576: true; the input reads as it did. -/
def likelyKeepsUptoRow : OpenClaim := { program := "ytlmgmifaknlolaagreat", sum := "4b495ac289baa0331ea65b899881148d16ff221be9185d668fcb05a00cd53965", func := "vernacular/vernacularlaw10.LikelyKeeps", spec := "likelyKeeps", inPlace := ["internal/bytealg.IndexByteString", "internal/bytealg.IndexString", "internal/abi.NoEscape", "internal/bytealg.MakeNoZero", "internal/bytealg.abigen_runtime_cmpstring"], unfollowed := true, recurses := true, named := ["internal/bytealg.MaxLen"], plainKeys := false, apart := false, narrowed := true }
def LikelyKeepsUptoSaid : Prop := likelyKeepsUptoRow.holds Tryz.pinned (OpenSpec.upto likelyKeepsSpec)

/-- 'vernacularlaw10.LikelySaid', WHERE WHAT IT READS IS OF BULK AT MOST 1048576: true; the input reads as it did. -/
def likelySaidUptoRow : OpenClaim := { program := "ytlmgmifaknlolaagreat", sum := "4b495ac289baa0331ea65b899881148d16ff221be9185d668fcb05a00cd53965", func := "vernacular/vernacularlaw10.LikelySaid", spec := "likelySaid", inPlace := ["internal/bytealg.IndexByteString", "internal/bytealg.IndexString", "internal/abi.NoEscape", "internal/bytealg.MakeNoZero", "internal/bytealg.abigen_runtime_cmpstring"], unfollowed := true, recurses := true, named := ["internal/bytealg.MaxLen"], plainKeys := false, apart := false, narrowed := true }
def LikelySaidUptoSaid : Prop := likelySaidUptoRow.holds Tryz.pinned (OpenSpec.upto likelySaidSpec)

/-- 'vernacularlaw10.LikelyNone', WHERE WHAT IT READS IS OF BULK AT MOST 1048576: true; the input reads as it did. -/
def likelyNoneUptoRow : OpenClaim := { program := "ytlmgmifaknlolaagreat", sum := "4b495ac289baa0331ea65b899881148d16ff221be9185d668fcb05a00cd53965", func := "vernacular/vernacularlaw10.LikelyNone", spec := "likelyNone", inPlace := ["internal/bytealg.IndexByteString", "internal/bytealg.IndexString", "internal/abi.NoEscape", "internal/bytealg.MakeNoZero", "internal/bytealg.abigen_runtime_cmpstring"], unfollowed := true, recurses := true, named := ["internal/bytealg.MaxLen"], plainKeys := false, apart := false, narrowed := true }
def LikelyNoneUptoSaid : Prop := likelyNoneUptoRow.holds Tryz.pinned (OpenSpec.upto likelyNoneSpec)

/-- 'vernacularlaw10.LikelyNews', WHERE WHAT IT READS IS OF BULK AT MOST 1048576: true; the input reads as it did. -/
def likelyNewsUptoRow : OpenClaim := { program := "ytlmgmifaknlolaagreat", sum := "4b495ac289baa0331ea65b899881148d16ff221be9185d668fcb05a00cd53965", func := "vernacular/vernacularlaw10.LikelyNews", spec := "likelyNews", inPlace := ["internal/bytealg.IndexByteString", "internal/bytealg.IndexString", "internal/abi.NoEscape", "internal/bytealg.MakeNoZero", "internal/bytealg.abigen_runtime_cmpstring", "internal/reflectlite.ValueOf", "internal/reflectlite.Swapper", "(internal/reflectlite.Value).Len"], unfollowed := true, recurses := true, named := ["internal/bytealg.MaxLen"], plainKeys := false, apart := false, narrowed := true }
def LikelyNewsUptoSaid : Prop := likelyNewsUptoRow.holds Tryz.pinned (OpenSpec.upto likelyNewsSpec)

end Rows
end Go.Proofs.YtlmgmifaknlolaaGreat
