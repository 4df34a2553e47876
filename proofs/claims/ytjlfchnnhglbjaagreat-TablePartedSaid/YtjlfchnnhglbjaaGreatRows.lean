/-
  No cell of these rows narrows 'for every input' (looked for: loops, veiled, ifaces, maps, wideKeys, modest, calm, conditions, laid).
  DERIVED. THE GIVEN ROWS OF THIS SEAT. 7 by the template 'for every input the law returns true; each argument reads behind the call as it read before'; 0 by the template 'total and deterministic' (their statements: YtjlfchnnhglbjaaGreatTotals.lean).
  GIVEN WITH THE SEED: the statements are not yours to turn. If you find one false, say at which input.
  Laid BY PROGRAM, IN A SANDBOX (cutbox-rows.mjs): the forced cells as the released guide's own fill.sh prints them over the translation 792a06ca0bf1d842… (all of the seat's roots in one cut). By AI agents, Wed Nov 11 2026. No macro, syntax, notation, axiom, sorry.
-/
import Derived.Test.YtjlfchnnhglbjaaGreatChecked
import GoSem.Claim
import GoSem.ClaimJoined
import GoSem.ClaimMapViews
import Derived.JoinedTies
import Derived.KernelRfl
namespace Go.Proofs.YtjlfchnnhglbjaaGreat
/- THE CELL 'sum', in the pinned program and in every row, IS THE sha256 OF THE DUMP (.gsa) THAT YtjlfchnnhglbjaaGreatProg.lean LOADS. Nothing in Lean hashes anything: it is a label: what it is worth is what the hold of that sum in a sandbox is worth. -/
noncomputable def Tryz.pinned : Pinned := { name := "ytjlfchnnhglbjaagreat", sum := "792a06ca0bf1d8423dfe3e9dd657f26989d7568fd21e9133aaa9d816f3d90ec3", checked := Tryz.checked }
namespace Rows
def none {H : Type} : Left H := { results := [], args := [] }

/-- 'vernacularlaw12.TableLimits': WHATEVER THE INPUT: true; the input reads as it did. -/
def tableLimitsSpec : ChangeSpec := { name := "tableLimits", fn := fun _ => fun
  | [d1, d2] => { results := [.lit (.bool true)], args := [d1, d2] }
  | _ => none }
def tableLimitsRow : OpenClaim := { program := "ytjlfchnnhglbjaagreat", sum := "792a06ca0bf1d8423dfe3e9dd657f26989d7568fd21e9133aaa9d816f3d90ec3", func := "vernacular/vernacularlaw12.TableLimits", spec := "tableLimits", inPlace := ["internal/bytealg.IndexByteString", "internal/bytealg.IndexString", "internal/abi.NoEscape", "internal/bytealg.MakeNoZero", "internal/bytealg.abigen_runtime_cmpstring"], unfollowed := true, recurses := true, named := ["internal/bytealg.MaxLen"], apart := false }
def TableLimitsSaid : Prop := tableLimitsRow.holds Tryz.pinned (OpenSpec.ofChange tableLimitsSpec)

/-- ITS FALSE NEIGHBOUR: 'it returns false'. Refute it at one input. -/
def tableLimitsWrong : ChangeSpec := { name := "tableLimits", fn := fun _ => fun
  | [d1, d2] => { results := [.lit (.bool false)], args := [d1, d2] }
  | _ => none }
def TableLimitsWrongFalsely : Prop := tableLimitsRow.holds Tryz.pinned (OpenSpec.ofChange tableLimitsWrong)

/-- 'vernacularlaw12.TableNews': WHATEVER THE INPUT: true; the input reads as it did. -/
def tableNewsSpec : ChangeSpec := { name := "tableNews", fn := fun _ => fun
  | [d] => { results := [.lit (.bool true)], args := [d] }
  | _ => none }
def tableNewsRow : OpenClaim := { program := "ytjlfchnnhglbjaagreat", sum := "792a06ca0bf1d8423dfe3e9dd657f26989d7568fd21e9133aaa9d816f3d90ec3", func := "vernacular/vernacularlaw12.TableNews", spec := "tableNews", inPlace := ["internal/bytealg.IndexByteString", "internal/bytealg.IndexString", "internal/abi.NoEscape", "internal/bytealg.MakeNoZero", "internal/bytealg.abigen_runtime_cmpstring"], unfollowed := true, recurses := true, named := ["internal/bytealg.MaxLen"], apart := false }
def TableNewsSaid : Prop := tableNewsRow.holds Tryz.pinned (OpenSpec.ofChange tableNewsSpec)

/-- ITS FALSE NEIGHBOUR: 'it returns false'. Refute it at one input. -/
def tableNewsWrong : ChangeSpec := { name := "tableNews", fn := fun _ => fun
  | [d] => { results := [.lit (.bool false)], args := [d] }
  | _ => none }
def TableNewsWrongFalsely : Prop := tableNewsRow.holds Tryz.pinned (OpenSpec.ofChange tableNewsWrong)

/-- 'vernacularlaw12.TableGets': WHATEVER THE INPUT: true; the input reads as it did. -/
def tableGetsSpec : ChangeSpec := { name := "tableGets", fn := fun _ => fun
  | [d1, d2, d3] => { results := [.lit (.bool true)], args := [d1, d2, d3] }
  | _ => none }
def tableGetsRow : OpenClaim := { program := "ytjlfchnnhglbjaagreat", sum := "792a06ca0bf1d8423dfe3e9dd657f26989d7568fd21e9133aaa9d816f3d90ec3", func := "vernacular/vernacularlaw12.TableGets", spec := "tableGets", inPlace := ["internal/bytealg.IndexByteString", "internal/bytealg.IndexString", "internal/abi.NoEscape", "internal/bytealg.MakeNoZero", "internal/bytealg.abigen_runtime_cmpstring"], unfollowed := true, recurses := true, named := ["internal/bytealg.MaxLen"], apart := false }
def TableGetsSaid : Prop := tableGetsRow.holds Tryz.pinned (OpenSpec.ofChange tableGetsSpec)

/-- ITS FALSE NEIGHBOUR: 'it returns false'. Refute it at one input. -/
def tableGetsWrong : ChangeSpec := { name := "tableGets", fn := fun _ => fun
  | [d1, d2, d3] => { results := [.lit (.bool false)], args := [d1, d2, d3] }
  | _ => none }
def TableGetsWrongFalsely : Prop := tableGetsRow.holds Tryz.pinned (OpenSpec.ofChange tableGetsWrong)

/-- 'vernacularlaw12.TableOrder': WHATEVER THE INPUT: true; the input reads as it did. -/
def tableOrderSpec : ChangeSpec := { name := "tableOrder", fn := fun _ => fun
  | [d1, d2] => { results := [.lit (.bool true)], args := [d1, d2] }
  | _ => none }
def tableOrderRow : OpenClaim := { program := "ytjlfchnnhglbjaagreat", sum := "792a06ca0bf1d8423dfe3e9dd657f26989d7568fd21e9133aaa9d816f3d90ec3", func := "vernacular/vernacularlaw12.TableOrder", spec := "tableOrder", inPlace := ["internal/bytealg.IndexByteString", "internal/bytealg.IndexString", "internal/abi.NoEscape", "internal/bytealg.MakeNoZero", "internal/bytealg.abigen_runtime_cmpstring"], unfollowed := true, recurses := true, named := ["internal/bytealg.MaxLen"], apart := false }
def TableOrderSaid : Prop := tableOrderRow.holds Tryz.pinned (OpenSpec.ofChange tableOrderSpec)

/-- ITS FALSE NEIGHBOUR: 'it returns false'. Refute it at one input. -/
def tableOrderWrong : ChangeSpec := { name := "tableOrder", fn := fun _ => fun
  | [d1, d2] => { results := [.lit (.bool false)], args := [d1, d2] }
  | _ => none }
def TableOrderWrongFalsely : Prop := tableOrderRow.holds Tryz.pinned (OpenSpec.ofChange tableOrderWrong)

/-- 'vernacularlaw12.TableWithin': WHATEVER THE INPUT: true; the input reads as it did. -/
def tableWithinSpec : ChangeSpec := { name := "tableWithin", fn := fun _ => fun
  | [d1, d2, d3] => { results := [.lit (.bool true)], args := [d1, d2, d3] }
  | _ => none }
def tableWithinRow : OpenClaim := { program := "ytjlfchnnhglbjaagreat", sum := "792a06ca0bf1d8423dfe3e9dd657f26989d7568fd21e9133aaa9d816f3d90ec3", func := "vernacular/vernacularlaw12.TableWithin", spec := "tableWithin", inPlace := ["internal/bytealg.IndexByteString", "internal/bytealg.IndexString", "internal/abi.NoEscape", "internal/bytealg.MakeNoZero", "internal/bytealg.abigen_runtime_cmpstring"], unfollowed := true, recurses := true, named := ["internal/bytealg.MaxLen"], apart := false }
def TableWithinSaid : Prop := tableWithinRow.holds Tryz.pinned (OpenSpec.ofChange tableWithinSpec)

/-- ITS FALSE NEIGHBOUR: 'it returns false'. Refute it at one input. -/
def tableWithinWrong : ChangeSpec := { name := "tableWithin", fn := fun _ => fun
  | [d1, d2, d3] => { results := [.lit (.bool false)], args := [d1, d2, d3] }
  | _ => none }
def TableWithinWrongFalsely : Prop := tableWithinRow.holds Tryz.pinned (OpenSpec.ofChange tableWithinWrong)

/-- 'vernacularlaw12.TableParted': WHATEVER THE INPUT: true; the input reads as it did. -/
def tablePartedSpec : ChangeSpec := { name := "tableParted", fn := fun _ => fun
  | [d1, d2] => { results := [.lit (.bool true)], args := [d1, d2] }
  | _ => none }
def tablePartedRow : OpenClaim := { program := "ytjlfchnnhglbjaagreat", sum := "792a06ca0bf1d8423dfe3e9dd657f26989d7568fd21e9133aaa9d816f3d90ec3", func := "vernacular/vernacularlaw12.TableParted", spec := "tableParted", inPlace := ["internal/bytealg.IndexByteString", "internal/bytealg.IndexString", "internal/abi.NoEscape", "internal/bytealg.MakeNoZero", "internal/bytealg.abigen_runtime_cmpstring"], unfollowed := true, recurses := true, named := ["internal/bytealg.MaxLen"], apart := false }
def TablePartedSaid : Prop := tablePartedRow.holds Tryz.pinned (OpenSpec.ofChange tablePartedSpec)

/-- ITS FALSE NEIGHBOUR: 'it returns false'. Refute it at one input. -/
def tablePartedWrong : ChangeSpec := { name := "tableParted", fn := fun _ => fun
  | [d1, d2] => { results := [.lit (.bool false)], args := [d1, d2] }
  | _ => none }
def TablePartedWrongFalsely : Prop := tablePartedRow.holds Tryz.pinned (OpenSpec.ofChange tablePartedWrong)

/-- 'vernacularlaw12.TableNone': WHATEVER THE INPUT: true; the input reads as it did. -/
def tableNoneSpec : ChangeSpec := { name := "tableNone", fn := fun _ => fun
  | [d1, d2] => { results := [.lit (.bool true)], args := [d1, d2] }
  | _ => none }
def tableNoneRow : OpenClaim := { program := "ytjlfchnnhglbjaagreat", sum := "792a06ca0bf1d8423dfe3e9dd657f26989d7568fd21e9133aaa9d816f3d90ec3", func := "vernacular/vernacularlaw12.TableNone", spec := "tableNone", inPlace := ["internal/bytealg.IndexByteString", "internal/bytealg.IndexString", "internal/abi.NoEscape", "internal/bytealg.MakeNoZero", "internal/bytealg.abigen_runtime_cmpstring"], unfollowed := true, recurses := true, named := ["internal/bytealg.MaxLen"], apart := false }
def TableNoneSaid : Prop := tableNoneRow.holds Tryz.pinned (OpenSpec.ofChange tableNoneSpec)

/-- ITS FALSE NEIGHBOUR: 'it returns false'. Refute it at one input. -/
def tableNoneWrong : ChangeSpec := { name := "tableNone", fn := fun _ => fun
  | [d1, d2] => { results := [.lit (.bool false)], args := [d1, d2] }
  | _ => none }
def TableNoneWrongFalsely : Prop := tableNoneRow.holds Tryz.pinned (OpenSpec.ofChange tableNoneWrong)

/- THE SECOND FORM. 'bulk': how many values and letters a reading holds, each counted each time it is reached (what is shared counts as often as it is met; a slice's spare places count too). A statement '..UptoSaid' is the law's where the arguments, and the package variables that the reading takes, are together of bulk at most 1048576: NARROWER than '..Said'. Prove '..Said' where nothing that the law and all that it calls make is longer than what came in: it says more and counts as full. Else prove '..UptoSaid'. A law counts once. -/
mutual
def uptoBulk {H : Type} : DataW H → Nat
  | .lit (.string bytes) => bytes.length + 1
  | .lit _ => 1
  | .nil => 1
  | .ptr d => uptoBulk d + 1
  | .slice elems spare => uptoBulkAll elems + uptoBulkAll spare + 1
  | .agg parts => uptoBulkAll parts + 1
  | .iface _ d => uptoBulk d + 1
  | .map entries => uptoBulkEntries entries + 1
  | .held _ => 1
def uptoBulkAll {H : Type} : List (DataW H) → Nat
  | [] => 0
  | d :: r => uptoBulk d + uptoBulkAll r
def uptoBulkEntries {H : Type} : List (Lit × DataW H) → Nat
  | [] => 0
  | x :: r => uptoBulkEntry x + uptoBulkEntries r
def uptoBulkEntry {H : Type} : Lit × DataW H → Nat
  | (.string bytes, d) => bytes.length + uptoBulk d + 1
  | (_, d) => uptoBulk d + 1
 end
def uptoSmall : (H : Type) → List (DataW H) → Bool := fun _ ds => decide (uptoBulkAll ds ≤ 1048576)
def OpenSpec.upto (s : _root_.Go.ChangeSpec) : _root_.Go.OpenSpec := { _root_.Go.OpenSpec.ofChange s with cond := some uptoSmall }

/-- 'vernacularlaw12.TableLimits', WHERE WHAT IT READS IS OF BULK AT MOST 1048576: true; the input reads as it did. -/
def tableLimitsUptoRow : OpenClaim := { program := "ytjlfchnnhglbjaagreat", sum := "792a06ca0bf1d8423dfe3e9dd657f26989d7568fd21e9133aaa9d816f3d90ec3", func := "vernacular/vernacularlaw12.TableLimits", spec := "tableLimits", inPlace := ["internal/bytealg.IndexByteString", "internal/bytealg.IndexString", "internal/abi.NoEscape", "internal/bytealg.MakeNoZero", "internal/bytealg.abigen_runtime_cmpstring"], unfollowed := true, recurses := true, named := ["internal/bytealg.MaxLen"], apart := false, narrowed := true }
def TableLimitsUptoSaid : Prop := tableLimitsUptoRow.holds Tryz.pinned (OpenSpec.upto tableLimitsSpec)

/-- 'vernacularlaw12.TableNews', WHERE WHAT IT READS IS OF BULK AT MOST 1048576: true; the input reads as it did. -/
def tableNewsUptoRow : OpenClaim := { program := "ytjlfchnnhglbjaagreat", sum := "792a06ca0bf1d8423dfe3e9dd657f26989d7568fd21e9133aaa9d816f3d90ec3", func := "vernacular/vernacularlaw12.TableNews", spec := "tableNews", inPlace := ["internal/bytealg.IndexByteString", "internal/bytealg.IndexString", "internal/abi.NoEscape", "internal/bytealg.MakeNoZero", "internal/bytealg.abigen_runtime_cmpstring"], unfollowed := true, recurses := true, named := ["internal/bytealg.MaxLen"], apart := false, narrowed := true }
def TableNewsUptoSaid : Prop := tableNewsUptoRow.holds Tryz.pinned (OpenSpec.upto tableNewsSpec)

/-- 'vernacularlaw12.TableGets', WHERE WHAT IT READS IS OF BULK AT MOST 1048576: true; the input reads as it did. -/
def tableGetsUptoRow : OpenClaim := { program := "ytjlfchnnhglbjaagreat", sum := "792a06ca0bf1d8423dfe3e9dd657f26989d7568fd21e9133aaa9d816f3d90ec3", func := "vernacular/vernacularlaw12.TableGets", spec := "tableGets", inPlace := ["internal/bytealg.IndexByteString", "internal/bytealg.IndexString", "internal/abi.NoEscape", "internal/bytealg.MakeNoZero", "internal/bytealg.abigen_runtime_cmpstring"], unfollowed := true, recurses := true, named := ["internal/bytealg.MaxLen"], apart := false, narrowed := true }
def TableGetsUptoSaid : Prop := tableGetsUptoRow.holds Tryz.pinned (OpenSpec.upto tableGetsSpec)

/-- 'vernacularlaw12.TableOrder', WHERE WHAT IT READS IS OF BULK AT MOST 1048576: true; the input reads as it did. -/
def tableOrderUptoRow : OpenClaim := { program := "ytjlfchnnhglbjaagreat", sum := "792a06ca0bf1d8423dfe3e9dd657f26989d7568fd21e9133aaa9d816f3d90ec3", func := "vernacular/vernacularlaw12.TableOrder", spec := "tableOrder", inPlace := ["internal/bytealg.IndexByteString", "internal/bytealg.IndexString", "internal/abi.NoEscape", "internal/bytealg.MakeNoZero", "internal/bytealg.abigen_runtime_cmpstring"], unfollowed := true, recurses := true, named := ["internal/bytealg.MaxLen"], apart := false, narrowed := true }
def TableOrderUptoSaid : Prop := tableOrderUptoRow.holds Tryz.pinned (OpenSpec.upto tableOrderSpec)

/-- 'vernacularlaw12.TableWithin', WHERE WHAT IT READS IS OF BULK AT MOST 1048576: true; the input reads as it did. -/
def tableWithinUptoRow : OpenClaim := { program := "ytjlfchnnhglbjaagreat", sum := "792a06ca0bf1d8423dfe3e9dd657f26989d7568fd21e9133aaa9d816f3d90ec3", func := "vernacular/vernacularlaw12.TableWithin", spec := "tableWithin", inPlace := ["internal/bytealg.IndexByteString", "internal/bytealg.IndexString", "internal/abi.NoEscape", "internal/bytealg.MakeNoZero", "internal/bytealg.abigen_runtime_cmpstring"], unfollowed := true, recurses := true, named := ["internal/bytealg.MaxLen"], apart := false, narrowed := true }
def TableWithinUptoSaid : Prop := tableWithinUptoRow.holds Tryz.pinned (OpenSpec.upto tableWithinSpec)

/-- 'vernacularlaw12.TableParted', WHERE WHAT IT READS IS OF BULK AT MOST 1048576: true; the input reads as it did. -/
def tablePartedUptoRow : OpenClaim := { program := "ytjlfchnnhglbjaagreat", sum := "792a06ca0bf1d8423dfe3e9dd657f26989d7568fd21e9133aaa9d816f3d90ec3", func := "vernacular/vernacularlaw12.TableParted", spec := "tableParted", inPlace := ["internal/bytealg.IndexByteString", "internal/bytealg.IndexString", "internal/abi.NoEscape", "internal/bytealg.MakeNoZero", "internal/bytealg.abigen_runtime_cmpstring"], unfollowed := true, recurses := true, named := ["internal/bytealg.MaxLen"], apart := false, narrowed := true }
def TablePartedUptoSaid : Prop := tablePartedUptoRow.holds Tryz.pinned (OpenSpec.upto tablePartedSpec)

/-- 'vernacularlaw12.TableNone', WHERE WHAT IT READS IS OF BULK AT MOST 1048576: true; the input reads as it did. -/
def tableNoneUptoRow : OpenClaim := { program := "ytjlfchnnhglbjaagreat", sum := "792a06ca0bf1d8423dfe3e9dd657f26989d7568fd21e9133aaa9d816f3d90ec3", func := "vernacular/vernacularlaw12.TableNone", spec := "tableNone", inPlace := ["internal/bytealg.IndexByteString", "internal/bytealg.IndexString", "internal/abi.NoEscape", "internal/bytealg.MakeNoZero", "internal/bytealg.abigen_runtime_cmpstring"], unfollowed := true, recurses := true, named := ["internal/bytealg.MaxLen"], apart := false, narrowed := true }
def TableNoneUptoSaid : Prop := tableNoneUptoRow.holds Tryz.pinned (OpenSpec.upto tableNoneSpec)

end Rows
end Go.Proofs.YtjlfchnnhglbjaaGreat
