/-
  NARROWER THAN 'FOR EVERY INPUT', by the rows' own cells (each row's printed sentence says how): InheritNone: laid · InheritOwn: laid · InheritKnown: laid · InheritLess: laid.
  DERIVED. THE GIVEN ROWS OF THIS SEAT. 4 by the template 'for every input the law returns true; each argument reads behind the call as it read before'; 0 by the template 'total and deterministic' (their statements: YtbbmdbolkicpcaaGreatDoorTotals.lean).
  GIVEN WITH THE SEED: the statements are not yours to turn. If you find one false, say at which input.
  Laid BY PROGRAM, IN A SANDBOX (cutbox-rows.mjs): the forced cells as the released guide's own fill.sh prints them over the translation bffa591387cc726c… (all of the seat's roots in one cut). By AI agents, Wed Nov 11 2026. No macro, syntax, notation, axiom, sorry.
-/
import Derived.Test.YtbbmdbolkicpcaaGreatDoorChecked
import GoSem.PinnedTables
import GoSem.Claim
import GoSem.ClaimJoined
import GoSem.ClaimMapViews
import Derived.JoinedTies
import Derived.KernelRfl
namespace Go.Proofs.YtbbmdbolkicpcaaGreatDoor
/- THE CELL 'sum', in the pinned program and in every row, IS THE sha256 OF THE DUMP (.gsa) THAT YtbbmdbolkicpcaaGreatDoorProg.lean LOADS. Nothing in Lean hashes anything: it is a label: what it is worth is what the hold of that sum in a sandbox is worth. -/
noncomputable def Tryz.pinned : Pinned := { name := "ytbbmdbolkicpcaagreatdoor", sum := "bffa591387cc726c09891cd13a309b36140ed128326f96d3c7c9ee6cb63c3d49", checked := Tryz.checked }
namespace Rows
def none {H : Type} : Left H := { results := [], args := [] }

/- WHAT THE LISTED PACKAGE-LEVEL VARIABLES READ AS WHEN THE CALL BEGINS. Each datum BY PROGRAM (the guide's laid-datum.mjs) off the statement by which the dump's own 'gosem.cut.vars' lays the variable. In a bare row this is a premise. The card (YtbbmdbolkicpcaaGreatDoorCards.lean) ties it to the program's text. -/
def laid_unicode_utf8_acceptRanges {H : Type} : DataW H := .agg [.agg [.lit (.int .u8 128), .lit (.int .u8 191)], .agg [.lit (.int .u8 160), .lit (.int .u8 191)], .agg [.lit (.int .u8 128), .lit (.int .u8 159)], .agg [.lit (.int .u8 144), .lit (.int .u8 191)], .agg [.lit (.int .u8 128), .lit (.int .u8 143)], .agg [.lit (.int .u8 0), .lit (.int .u8 0)], .agg [.lit (.int .u8 0), .lit (.int .u8 0)], .agg [.lit (.int .u8 0), .lit (.int .u8 0)], .agg [.lit (.int .u8 0), .lit (.int .u8 0)], .agg [.lit (.int .u8 0), .lit (.int .u8 0)], .agg [.lit (.int .u8 0), .lit (.int .u8 0)], .agg [.lit (.int .u8 0), .lit (.int .u8 0)], .agg [.lit (.int .u8 0), .lit (.int .u8 0)], .agg [.lit (.int .u8 0), .lit (.int .u8 0)], .agg [.lit (.int .u8 0), .lit (.int .u8 0)], .agg [.lit (.int .u8 0), .lit (.int .u8 0)]]
/-- One of Go's own tables, pinned by name: the form's constant. -/
def laid_unicode_utf8_first : DataW Unit := Go.Pinned.utf8First

/-- 'vernacularlaw14.InheritNone': WHATEVER THE INPUT: true; the input reads as it did. -/
def inheritNoneSpec : ChangeSpec := { name := "inheritNone", fn := fun _ => fun
  | [d1, d2] => { results := [.lit (.bool true)], args := [d1, d2] }
  | _ => none }
def inheritNoneRow : OpenClaim := { program := "ytbbmdbolkicpcaagreatdoor", sum := "bffa591387cc726c09891cd13a309b36140ed128326f96d3c7c9ee6cb63c3d49", func := "vernacular/vernacularlaw14.InheritNone", spec := "inheritNone", inPlace := ["internal/bytealg.IndexByteString", "internal/bytealg.IndexString", "internal/abi.NoEscape", "internal/bytealg.MakeNoZero", "internal/bytealg.abigen_runtime_cmpstring"], unfollowed := true, recurses := true, named := ["unicode/utf8.first", "unicode/utf8.acceptRanges", "internal/bytealg.MaxLen"], apart := false, laid := [("unicode/utf8.acceptRanges", laid_unicode_utf8_acceptRanges), ("unicode/utf8.first", laid_unicode_utf8_first)] }
def InheritNoneSaid : Prop := inheritNoneRow.holds Tryz.pinned (OpenSpec.ofChange inheritNoneSpec)

/-- ITS FALSE NEIGHBOUR: 'it returns false'. Refute it at one input. -/
def inheritNoneWrong : ChangeSpec := { name := "inheritNone", fn := fun _ => fun
  | [d1, d2] => { results := [.lit (.bool false)], args := [d1, d2] }
  | _ => none }
def InheritNoneWrongFalsely : Prop := inheritNoneRow.holds Tryz.pinned (OpenSpec.ofChange inheritNoneWrong)

/-- 'vernacularlaw14.InheritOwn': WHATEVER THE INPUT: true; the input reads as it did. -/
def inheritOwnSpec : ChangeSpec := { name := "inheritOwn", fn := fun _ => fun
  | [d1, d2, d3] => { results := [.lit (.bool true)], args := [d1, d2, d3] }
  | _ => none }
def inheritOwnRow : OpenClaim := { program := "ytbbmdbolkicpcaagreatdoor", sum := "bffa591387cc726c09891cd13a309b36140ed128326f96d3c7c9ee6cb63c3d49", func := "vernacular/vernacularlaw14.InheritOwn", spec := "inheritOwn", inPlace := ["internal/bytealg.IndexByteString", "internal/bytealg.IndexString", "internal/abi.NoEscape", "internal/bytealg.MakeNoZero", "internal/bytealg.abigen_runtime_cmpstring"], unfollowed := true, recurses := true, named := ["unicode/utf8.first", "unicode/utf8.acceptRanges", "internal/bytealg.MaxLen"], apart := false, laid := [("unicode/utf8.acceptRanges", laid_unicode_utf8_acceptRanges), ("unicode/utf8.first", laid_unicode_utf8_first)] }
def InheritOwnSaid : Prop := inheritOwnRow.holds Tryz.pinned (OpenSpec.ofChange inheritOwnSpec)

/-- ITS FALSE NEIGHBOUR: 'it returns false'. Refute it at one input. -/
def inheritOwnWrong : ChangeSpec := { name := "inheritOwn", fn := fun _ => fun
  | [d1, d2, d3] => { results := [.lit (.bool false)], args := [d1, d2, d3] }
  | _ => none }
def InheritOwnWrongFalsely : Prop := inheritOwnRow.holds Tryz.pinned (OpenSpec.ofChange inheritOwnWrong)

/-- 'vernacularlaw14.InheritKnown': WHATEVER THE INPUT: true; the input reads as it did. -/
def inheritKnownSpec : ChangeSpec := { name := "inheritKnown", fn := fun _ => fun
  | [d1, d2, d3] => { results := [.lit (.bool true)], args := [d1, d2, d3] }
  | _ => none }
def inheritKnownRow : OpenClaim := { program := "ytbbmdbolkicpcaagreatdoor", sum := "bffa591387cc726c09891cd13a309b36140ed128326f96d3c7c9ee6cb63c3d49", func := "vernacular/vernacularlaw14.InheritKnown", spec := "inheritKnown", inPlace := ["internal/bytealg.IndexByteString", "internal/bytealg.IndexString", "internal/abi.NoEscape", "internal/bytealg.MakeNoZero", "internal/bytealg.abigen_runtime_cmpstring"], unfollowed := true, recurses := true, named := ["unicode/utf8.first", "unicode/utf8.acceptRanges", "internal/bytealg.MaxLen"], apart := false, laid := [("unicode/utf8.acceptRanges", laid_unicode_utf8_acceptRanges), ("unicode/utf8.first", laid_unicode_utf8_first)] }
def InheritKnownSaid : Prop := inheritKnownRow.holds Tryz.pinned (OpenSpec.ofChange inheritKnownSpec)

/-- ITS FALSE NEIGHBOUR: 'it returns false'. Refute it at one input. -/
def inheritKnownWrong : ChangeSpec := { name := "inheritKnown", fn := fun _ => fun
  | [d1, d2, d3] => { results := [.lit (.bool false)], args := [d1, d2, d3] }
  | _ => none }
def InheritKnownWrongFalsely : Prop := inheritKnownRow.holds Tryz.pinned (OpenSpec.ofChange inheritKnownWrong)

/-- 'vernacularlaw14.InheritLess': WHATEVER THE INPUT: true; the input reads as it did. -/
def inheritLessSpec : ChangeSpec := { name := "inheritLess", fn := fun _ => fun
  | [d] => { results := [.lit (.bool true)], args := [d] }
  | _ => none }
def inheritLessRow : OpenClaim := { program := "ytbbmdbolkicpcaagreatdoor", sum := "bffa591387cc726c09891cd13a309b36140ed128326f96d3c7c9ee6cb63c3d49", func := "vernacular/vernacularlaw14.InheritLess", spec := "inheritLess", inPlace := ["internal/bytealg.IndexByteString", "internal/bytealg.IndexString", "internal/abi.NoEscape", "internal/bytealg.MakeNoZero", "internal/bytealg.abigen_runtime_cmpstring"], unfollowed := true, recurses := true, named := ["unicode/utf8.first", "unicode/utf8.acceptRanges", "internal/bytealg.MaxLen"], apart := false, laid := [("unicode/utf8.acceptRanges", laid_unicode_utf8_acceptRanges), ("unicode/utf8.first", laid_unicode_utf8_first)] }
def InheritLessSaid : Prop := inheritLessRow.holds Tryz.pinned (OpenSpec.ofChange inheritLessSpec)

/-- ITS FALSE NEIGHBOUR: 'it returns false'. Refute it at one input. -/
def inheritLessWrong : ChangeSpec := { name := "inheritLess", fn := fun _ => fun
  | [d] => { results := [.lit (.bool false)], args := [d] }
  | _ => none }
def InheritLessWrongFalsely : Prop := inheritLessRow.holds Tryz.pinned (OpenSpec.ofChange inheritLessWrong)

/- THE SECOND FORM. 'bulk': how many values and letters a reading holds, each counted each time it is reached (what is shared counts as often as it is met; a slice's spare places count too). A statement '..UptoSaid' is the law's where the arguments, and the package variables that the reading takes, are together of bulk at most 1048576: NARROWER than '..Said'. Prove '..Said' where nothing that the law and all that it calls make is longer than what came in: it says more and counts as full. Else prove '..UptoSaid'. A law counts once. -/
mutual
def uptoBulk {H : Type} : DataW H → Nat
  | .lit (.string bytes) => bytes.length + 1
  | .lit _ => 1
  | .nil => 1
  | .ptr d => uptoBulk d + 1
  | .slice elems spare => uptoBulkAll elems + uptoBulkAll spare + 1
  | .agg parts => uptoBulkAll parts + 1
  | .iface _ d => uptoBulk d + 1
  | .map entries => uptoBulkEntries entries + 1
  | .held _ => 1
def uptoBulkAll {H : Type} : List (DataW H) → Nat
  | [] => 0
  | d :: r => uptoBulk d + uptoBulkAll r
def uptoBulkEntries {H : Type} : List (Lit × DataW H) → Nat
  | [] => 0
  | x :: r => uptoBulkEntry x + uptoBulkEntries r
def uptoBulkEntry {H : Type} : Lit × DataW H → Nat
  | (.string bytes, d) => bytes.length + uptoBulk d + 1
  | (_, d) => uptoBulk d + 1
 end
def uptoSmall : (H : Type) → List (DataW H) → Bool := fun _ ds => decide (uptoBulkAll ds ≤ 1048576)
def OpenSpec.upto (s : _root_.Go.ChangeSpec) : _root_.Go.OpenSpec := { _root_.Go.OpenSpec.ofChange s with cond := some uptoSmall }

/-- 'vernacularlaw14.InheritNone', WHERE WHAT IT READS IS OF BULK AT MOST 1048576: true; the input reads as it did. -/
def inheritNoneUptoRow : OpenClaim := { program := "ytbbmdbolkicpcaagreatdoor", sum := "bffa591387cc726c09891cd13a309b36140ed128326f96d3c7c9ee6cb63c3d49", func := "vernacular/vernacularlaw14.InheritNone", spec := "inheritNone", inPlace := ["internal/bytealg.IndexByteString", "internal/bytealg.IndexString", "internal/abi.NoEscape", "internal/bytealg.MakeNoZero", "internal/bytealg.abigen_runtime_cmpstring"], unfollowed := true, recurses := true, named := ["unicode/utf8.first", "unicode/utf8.acceptRanges", "internal/bytealg.MaxLen"], apart := false, laid := [("unicode/utf8.acceptRanges", laid_unicode_utf8_acceptRanges), ("unicode/utf8.first", laid_unicode_utf8_first)], narrowed := true }
def InheritNoneUptoSaid : Prop := inheritNoneUptoRow.holds Tryz.pinned (OpenSpec.upto inheritNoneSpec)

/-- 'vernacularlaw14.InheritOwn', WHERE WHAT IT READS IS OF BULK AT MOST 1048576: true; the input reads as it did. -/
def inheritOwnUptoRow : OpenClaim := { program := "ytbbmdbolkicpcaagreatdoor", sum := "bffa591387cc726c09891cd13a309b36140ed128326f96d3c7c9ee6cb63c3d49", func := "vernacular/vernacularlaw14.InheritOwn", spec := "inheritOwn", inPlace := ["internal/bytealg.IndexByteString", "internal/bytealg.IndexString", "internal/abi.NoEscape", "internal/bytealg.MakeNoZero", "internal/bytealg.abigen_runtime_cmpstring"], unfollowed := true, recurses := true, named := ["unicode/utf8.first", "unicode/utf8.acceptRanges", "internal/bytealg.MaxLen"], apart := false, laid := [("unicode/utf8.acceptRanges", laid_unicode_utf8_acceptRanges), ("unicode/utf8.first", laid_unicode_utf8_first)], narrowed := true }
def InheritOwnUptoSaid : Prop := inheritOwnUptoRow.holds Tryz.pinned (OpenSpec.upto inheritOwnSpec)

/-- 'vernacularlaw14.InheritKnown', WHERE WHAT IT READS IS OF BULK AT MOST 1048576: true; the input reads as it did. -/
def inheritKnownUptoRow : OpenClaim := { program := "ytbbmdbolkicpcaagreatdoor", sum := "bffa591387cc726c09891cd13a309b36140ed128326f96d3c7c9ee6cb63c3d49", func := "vernacular/vernacularlaw14.InheritKnown", spec := "inheritKnown", inPlace := ["internal/bytealg.IndexByteString", "internal/bytealg.IndexString", "internal/abi.NoEscape", "internal/bytealg.MakeNoZero", "internal/bytealg.abigen_runtime_cmpstring"], unfollowed := true, recurses := true, named := ["unicode/utf8.first", "unicode/utf8.acceptRanges", "internal/bytealg.MaxLen"], apart := false, laid := [("unicode/utf8.acceptRanges", laid_unicode_utf8_acceptRanges), ("unicode/utf8.first", laid_unicode_utf8_first)], narrowed := true }
def InheritKnownUptoSaid : Prop := inheritKnownUptoRow.holds Tryz.pinned (OpenSpec.upto inheritKnownSpec)

/-- 'vernacularlaw14.InheritLess', WHERE WHAT IT READS IS OF BULK AT MOST 1048576: true; the input reads as it did. -/
def inheritLessUptoRow : OpenClaim := { program := "ytbbmdbolkicpcaagreatdoor", sum := "bffa591387cc726c09891cd13a309b36140ed128326f96d3c7c9ee6cb63c3d49", func := "vernacular/vernacularlaw14.InheritLess", spec := "inheritLess", inPlace := ["internal/bytealg.IndexByteString", "internal/bytealg.IndexString", "internal/abi.NoEscape", "internal/bytealg.MakeNoZero", "internal/bytealg.abigen_runtime_cmpstring"], unfollowed := true, recurses := true, named := ["unicode/utf8.first", "unicode/utf8.acceptRanges", "internal/bytealg.MaxLen"], apart := false, laid := [("unicode/utf8.acceptRanges", laid_unicode_utf8_acceptRanges), ("unicode/utf8.first", laid_unicode_utf8_first)], narrowed := true }
def InheritLessUptoSaid : Prop := inheritLessUptoRow.holds Tryz.pinned (OpenSpec.upto inheritLessSpec)

end Rows
end Go.Proofs.YtbbmdbolkicpcaaGreatDoor
