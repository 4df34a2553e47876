/-
  DERIVED: THE SHELF's CONTRACTS AT THIS DUMP, IN PLAIN WORDS (tools/lay-plain.mjs out of 'TryzShelfV.lean', which tools/lay-shelf.mjs wrote): THE SAME DECLARATIONS UNDER THE SAME NAMES: 'import', 'namespace', 'open', 'def', 'theorem' AND NOTHING ELSE: no command of the shelf's: FOR A HAND-IN. Each laying: the table of numbers ('.._ren') and one theorem, a field a fact of the dump's own or the kernel's comparison; each contract: ONE APPLICATION.
-/
import Derived.Shelf.SlicesQ.IndexFunc
import Derived.Shelf.SlicesQ.Equal
import Derived.Shelf.SlSortCmp.WholeK
import Derived.Shelf.GgSortFunc.Tiny
import Derived.Shelf.Strings.Builder1
import Derived.Shelf.Strings.Builder2
import Derived.Shelf.Strings.OnBuilder
import Derived.Shelf.Small.Utf8
import Derived.Shelf.Small.Bits
import Derived.Shelf.Small.Strs
import Derived.Shelf.Strconv.Itoa0
import Derived.Shelf.Strings.Search1
import Derived.Shelf.Sort.Plain
import Derived.Shelf.GgSortFunc.Insertion
import Derived.Shelf.GgSortFunc.Small
import Derived.Shelf.GgSortFunc.InsertionK
import Derived.Shelf.GgSortFunc.SmallK
import Derived.Shelf.GgSortFunc.Tiny
import Derived.Shelf.GgSortFunc.Compose
import Derived.Shelf.GgSortFunc.LotD
import Derived.Shelf.Strings.Runes
import Derived.Shelf.Strings.IndexAny
import Derived.Shelf.Strings.AsciiSet
import Derived.Shelf.Strings.IndexAnyAll
import Derived.Shelf.Slices.Turned
import Derived.Shelf.Slices.Equal
import Derived.Shelf.Slices.Clone
import Derived.Shelf.Slices.In.SortNone
import Derived.Shelf.Slices.Empties2
import Derived.Shelf.SlSortFunc.Xorshift
import Derived.Shelf.SlSortFuncK.ComposeK
import Derived.Shelf.SlSortFuncK.SiftDownK
import Derived.Shelf.SlSortFuncK.HeapSortK
import Derived.Shelf.SlSortFuncK.PartialInsertionK
import Derived.Shelf.SlSortFuncK.LotDK
import Derived.Shelf.SlSortFuncK.PivotK
import Derived.Shelf.SlSortFuncK.PartitionK
import Derived.Shelf.SlSortFuncK.PdqK
import Derived.Shelf.SlSortFuncK.WholeK
import Derived.Shelf.SlicesE.Equal
import Derived.Shelf.SlicesE.Clone
import Derived.Test.YtlmgmifaknlolaaGreatProg
namespace Go.Proofs
open Go.Shelf
def Tryz.sv6_ren : Go.Shelf.Ren := ⟨fun | 6 => 25 | 10 => 42 | 11 => 43 | 12 => 44 | 13 => 45 | 14 => 46 | 24 => 76 | 25 => 77 | 26 => 78 | 27 => 79 | 28 => 80 | 29 => 81 | 30 => 82 | 31 => 83 | 32 => 84 | 33 => 85 | 34 => 109 | 35 => 110 | 36 => 111 | 37 => 112 | 38 => 113 | 39 => 135 | n => n, fun | 20 => 20 | 26 => 51 | 35 => 82 | 0 => 0 | 37 => 84 | 3 => 3 | 41 => 88 | 44 => 91 | 49 => 111 | 51 => 113 | 4 => 4 | 54 => 116 | 53 => 115 | 58 => 120 | 5 => 5 | 9 => 9 | 60 => 140 | 64 => 144 | 66 => 167 | 67 => 136 | 17 => 17 | 32 => 79 | 33 => 80 | 82 => 208 | 12 => 12 | 75 => 202 | 76 => 203 | 77 => 204 | 78 => 177 | 79 => 205 | 80 => 206 | n => n, fun | n => n⟩
theorem Tryz.sv6 : Go.Proofs.LaysGg.n6 Tryz.prog Tryz.sv6_ren := {
  mixed := by kernel_rfl
  f6 := Tryz.func25.trans (congrArg some (by kernel_rfl))
  f10 := Tryz.func42.trans (congrArg some (by kernel_rfl))
  f11 := Tryz.func43.trans (congrArg some (by kernel_rfl))
  f12 := Tryz.func44.trans (congrArg some (by kernel_rfl))
  f13 := Tryz.func45.trans (congrArg some (by kernel_rfl))
  f14 := Tryz.func46.trans (congrArg some (by kernel_rfl))
  f24 := Tryz.func76.trans (congrArg some (by kernel_rfl))
  f25 := Tryz.func77.trans (congrArg some (by kernel_rfl))
  f26 := Tryz.func78.trans (congrArg some (by kernel_rfl))
  f27 := Tryz.func79.trans (congrArg some (by kernel_rfl))
  f28 := Tryz.func80.trans (congrArg some (by kernel_rfl))
  f29 := Tryz.func81.trans (congrArg some (by kernel_rfl))
  f30 := Tryz.func82.trans (congrArg some (by kernel_rfl))
  f31 := Tryz.func83.trans (congrArg some (by kernel_rfl))
  f32 := Tryz.func84.trans (congrArg some (by kernel_rfl))
  f33 := Tryz.func85.trans (congrArg some (by kernel_rfl))
  f34 := Tryz.func109.trans (congrArg some (by kernel_rfl))
  f35 := Tryz.func110.trans (congrArg some (by kernel_rfl))
  f36 := Tryz.func111.trans (congrArg some (by kernel_rfl))
  f37 := Tryz.func112.trans (congrArg some (by kernel_rfl))
  f38 := Tryz.func113.trans (congrArg some (by kernel_rfl))
  f39 := Tryz.func135.trans (congrArg some (by kernel_rfl))
  t0 := Tryz.underlying0
  a0 := Tryz.isAgg0
  z0 := Tryz.sizeOf0
  v0 := Tryz.zeroValue0
  i0 := by kernel_rfl
  t3 := Tryz.underlying3
  a3 := Tryz.isAgg3
  z3 := Tryz.sizeOf3
  v3 := Tryz.zeroValue3
  i3 := by kernel_rfl
  t4 := Tryz.underlying4
  a4 := Tryz.isAgg4
  z4 := Tryz.sizeOf4
  v4 := Tryz.zeroValue4
  i4 := by kernel_rfl
  t5 := Tryz.underlying5
  a5 := Tryz.isAgg5
  z5 := Tryz.sizeOf5
  v5 := Tryz.zeroValue5
  i5 := by kernel_rfl
  t9 := Tryz.underlying9
  a9 := Tryz.isAgg9
  z9 := Tryz.sizeOf9
  v9 := Tryz.zeroValue9
  i9 := by kernel_rfl
  t12 := Tryz.underlying12
  a12 := Tryz.isAgg12
  z12 := Tryz.sizeOf12
  v12 := Tryz.zeroValue12
  i12 := by kernel_rfl
  t17 := Tryz.underlying17
  a17 := Tryz.isAgg17
  z17 := Tryz.sizeOf17
  v17 := Tryz.zeroValue17
  i17 := by kernel_rfl
  t20 := Tryz.underlying20
  a20 := Tryz.isAgg20
  z20 := Tryz.sizeOf20
  v20 := Tryz.zeroValue20
  i20 := by kernel_rfl
  t26 := Tryz.underlying51
  a26 := Tryz.isAgg51
  z26 := Tryz.sizeOf51
  v26 := Tryz.zeroValue51
  i26 := by kernel_rfl
  t32 := Tryz.underlying79
  a32 := Tryz.isAgg79
  z32 := Tryz.sizeOf79
  v32 := Tryz.zeroValue79
  i32 := by kernel_rfl
  t33 := Tryz.underlying80
  a33 := Tryz.isAgg80
  z33 := Tryz.sizeOf80
  v33 := Tryz.zeroValue80
  i33 := by kernel_rfl
  t35 := Tryz.underlying82
  a35 := Tryz.isAgg82
  z35 := Tryz.sizeOf82
  v35 := Tryz.zeroValue82
  i35 := by kernel_rfl
  t37 := Tryz.underlying84
  a37 := Tryz.isAgg84
  z37 := Tryz.sizeOf84
  v37 := Tryz.zeroValue84
  i37 := by kernel_rfl
  t41 := Tryz.underlying88
  a41 := Tryz.isAgg88
  z41 := Tryz.sizeOf88
  v41 := Tryz.zeroValue88
  i41 := by kernel_rfl
  t44 := Tryz.underlying91
  a44 := Tryz.isAgg91
  z44 := Tryz.sizeOf91
  v44 := Tryz.zeroValue91
  i44 := by kernel_rfl
  t49 := Tryz.underlying111
  a49 := Tryz.isAgg111
  z49 := Tryz.sizeOf111
  v49 := Tryz.zeroValue111
  i49 := by kernel_rfl
  t51 := Tryz.underlying113
  a51 := Tryz.isAgg113
  z51 := Tryz.sizeOf113
  v51 := Tryz.zeroValue113
  i51 := by kernel_rfl
  t53 := Tryz.underlying115
  a53 := Tryz.isAgg115
  z53 := Tryz.sizeOf115
  v53 := Tryz.zeroValue115
  i53 := by kernel_rfl
  t54 := Tryz.underlying116
  a54 := Tryz.isAgg116
  z54 := Tryz.sizeOf116
  v54 := Tryz.zeroValue116
  i54 := by kernel_rfl
  t58 := Tryz.underlying120
  a58 := Tryz.isAgg120
  z58 := Tryz.sizeOf120
  v58 := Tryz.zeroValue120
  i58 := by kernel_rfl
  t60 := Tryz.underlying140
  a60 := Tryz.isAgg140
  z60 := Tryz.sizeOf140
  v60 := Tryz.zeroValue140
  i60 := by kernel_rfl
  t64 := Tryz.underlying144
  a64 := Tryz.isAgg144
  z64 := Tryz.sizeOf144
  v64 := Tryz.zeroValue144
  i64 := by kernel_rfl
  t66 := Tryz.underlying167
  a66 := Tryz.isAgg167
  z66 := Tryz.sizeOf167
  v66 := Tryz.zeroValue167
  i66 := by kernel_rfl
  t67 := Tryz.underlying136
  a67 := Tryz.isAgg136
  z67 := Tryz.sizeOf136
  v67 := Tryz.zeroValue136
  i67 := by kernel_rfl
  t75 := Tryz.underlying202
  a75 := Tryz.isAgg202
  z75 := Tryz.sizeOf202
  v75 := Tryz.zeroValue202
  i75 := by kernel_rfl
  t76 := Tryz.underlying203
  a76 := Tryz.isAgg203
  z76 := Tryz.sizeOf203
  v76 := Tryz.zeroValue203
  i76 := by kernel_rfl
  t77 := Tryz.underlying204
  a77 := Tryz.isAgg204
  z77 := Tryz.sizeOf204
  v77 := Tryz.zeroValue204
  i77 := by kernel_rfl
  t78 := Tryz.underlying177
  a78 := Tryz.isAgg177
  z78 := Tryz.sizeOf177
  v78 := Tryz.zeroValue177
  i78 := by kernel_rfl
  t79 := Tryz.underlying205
  a79 := Tryz.isAgg205
  z79 := Tryz.sizeOf205
  v79 := Tryz.zeroValue205
  i79 := by kernel_rfl
  t80 := Tryz.underlying206
  a80 := Tryz.isAgg206
  z80 := Tryz.sizeOf206
  v80 := Tryz.zeroValue206
  i80 := by kernel_rfl
  t82 := Tryz.underlying208
  a82 := Tryz.isAgg208
  z82 := Tryz.sizeOf208
  v82 := Tryz.zeroValue208
  i82 := by kernel_rfl }
end Go.Proofs
