/- Several texts in one: TbNil, TbNone, TableNone. (joined by wip/merge.py) -/
import Derived.Test.YtjlfchnnhglbjaaGreatTG
import Derived.RangeFuncNested
import Derived.RangeFuncBound
import Derived.RangeFuncCalls
import Derived.RangeFuncLeaves
import Derived.Shelf.Abstract
import Derived.Shelf.RegionOpen
import Derived.OwnWalkIn
import Derived.TacticsInMore
import Derived.LoopNIn
import Derived.LoopIn
import Derived.Test.YtjlfchnnhglbjaaGreatRows
import Derived.WalkKit
import Derived.ProofKit
import Derived.OpenShut
import Derived.ShutString
import Derived.ChangeOld
import Derived.ChangeSlices
import Derived.ChangeArms
import Derived.Below

/- A nil table's Within: nothing comes. -/
set_option linter.unusedVariables false
set_option linter.unusedSimpArgs false
namespace Go.Proofs.YtjlfchnnhglbjaaGreat
open Go.RowKit Go.Lib Go.Sort Go.Maps Go.WideMaps Go.Shelf

theorem within_any (pt : Option Addr) (loc path : Str) (w : World) :
    Calls Tryz.prog 30 #[.pointer pt, .string ⟨loc.toArray⟩, .string ⟨path.toArray⟩] w fun e w' => e = .returned (.func (.func 46) #[] #[.pointer (some ⟨w.heap.size, 0, none⟩), .pointer (some ⟨w.heap.size + 1, 0, none⟩), .pointer (some ⟨w.heap.size + 1 + 1, 0, none⟩)]) ∧
      w' = ((w.alloc (.cells #[.pointer pt] 31)).alloc (.cells #[.string ⟨loc.toArray⟩] 9)).alloc (.cells #[.string ⟨path.toArray⟩] 9) := by
  go_enter Tryz.func30, Tryz.ntmps30
  go_wp2_with fail
  exact bodyPost_ret (v := .func (.func 46) #[] #[.pointer (some ⟨w.heap.size, 0, none⟩), .pointer (some ⟨w.heap.size + 1, 0, none⟩), .pointer (some ⟨w.heap.size + 1 + 1, 0, none⟩)]) (by simp [results, Tryz.results30, go_sem]) rfl ⟨rfl, rfl⟩
theorem within1_nil (l b0 b1 b2 : Nat) (loc path : Str) (w : World) (h0 : w.cell? ⟨b0, 0, none⟩ = some (.pointer none)) (h1 : w.cell? ⟨b1, 0, none⟩ = some (.string ⟨loc.toArray⟩)) (l0 : b0 < w.heap.size) (l1 : b1 < w.heap.size) :
    Calls Tryz.prog 46 #[.func (.yield l) #[] #[], .pointer (some ⟨b0, 0, none⟩), .pointer (some ⟨b1, 0, none⟩), .pointer (some ⟨b2, 0, none⟩)] w fun e w' => e = .returned (.tuple #[]) ∧ w' = w := by
  have PN := hid (paths_nil w loc)
  go_enter Tryz.func46, Tryz.ntmps46
  go_wp2_with fail
  refine PN.out.mono ?_
  rintro e w1 ⟨rfl, rfl⟩
  go_wp2_with fail
  go_loopg [13] 0 (fun g v W => v = .int .i64 0 ∧ W = w1)
  case atStart => exact ⟨rfl, rfl⟩
  case round =>
    obtain ⟨rfl, rfl⟩ := hrel
    go_wp2_with fail
    exact bodyPost_end (results_none Tryz.results46 _ _ _) rfl ⟨rfl, rfl⟩
theorem within1_stops (b0 b1 b2 : Nat) (loc path : Str) (w : World) (h0 : w.cell? ⟨b0, 0, none⟩ = some (.pointer none)) (h1 : w.cell? ⟨b1, 0, none⟩ = some (.string ⟨loc.toArray⟩)) (l0 : b0 < w.heap.size) (l1 : b1 < w.heap.size) (n : Nat) :
    SeqStopsK Fence.wide n Tryz.prog 46 #[.pointer (some ⟨b0, 0, none⟩), .pointer (some ⟨b1, 0, none⟩), .pointer (some ⟨b2, 0, none⟩)] (fun _ : Empty => #[undef, undef]) (fun _ _ => True) (fun _ => True) (fun _ => False) 0 w := by
  intro l J Jx W hW hJ hJx _ h0'
  refine callsIn_wide.2 ((within1_nil l b0 b1 b2 loc path W ((hW.cell (p := ⟨b0, 0, none⟩) l0).trans h0) ((hW.cell (p := ⟨b1, 0, none⟩) l1).trans h1) (Nat.lt_of_lt_of_le l0 hW.size) (Nat.lt_of_lt_of_le l1 hW.size)).mono ?_)
  rintro e W' ⟨rfl, rfl⟩
  exact ⟨⟨_, rfl⟩, Or.inl ⟨[], trivial, h0'⟩⟩
end Go.Proofs.YtjlfchnnhglbjaaGreat

/- The walk of TableNone. -/
set_option linter.unusedVariables false
set_option linter.unusedSimpArgs false
namespace Go.Proofs.YtjlfchnnhglbjaaGreat
open Go.RowKit Go.Lib Go.Sort Go.Maps Go.WideMaps Go.Shelf

set_option maxRecDepth 100000 in
set_option maxHeartbeats 4000000 in
theorem none_any (loc path : Str) (w : World) (hl : loc.length ≤ maxLen) (hp : path.length ≤ maxLen) :
    Calls Tryz.prog 9 #[.string ⟨loc.toArray⟩, .string ⟨path.toArray⟩] w fun e w' => e = .returned (.bool true) ∧ Below w.heap.size w w' := by
  refine (callsIn_wide (n := 6)).1 ?_
  refine callsIn_of_wp_marks Tryz.func9 rfl trivial ?_ rfl
  simp only [Tryz.ntmps9, List.size_toArray, List.length_cons, List.length_nil, Nat.reduceAdd, Nat.reduceSub, Array.replicate_succ, Array.replicate_zero, List.push_toArray, List.append_toArray, List.nil_append, List.cons_append]
  have F1 := hid (heap_alloc_new w (.cells #[.bool false] 4))
  have B1 := hid (show Below w.heap.size w (w.alloc (.cells #[.bool false] 4)) from (Below.refl _ _).alloc (Nat.le_refl _) _)
  gi_wp2
  generalize w.alloc (.cells #[.bool false] 4) = w1 at *
  refine ⟨trivial, callsIn_wide.2 ((twakes_any w1).mono ?_)⟩
  rintro e w2 ⟨rfl, hb2⟩
  have F2 := hid ((hb2.block _ (lt_of_block F1.out)).trans F1.out)
  have B2 := hid (B1.out.then hb2)
  clear hb2 F1 B1
  gi_wp2
  refine ⟨trivial, callsIn_wide.2 ((get_nil w2 loc path).mono ?_)⟩
  rintro e w3 ⟨rfl, hb3⟩
  have F3 := hid ((hb3.block _ (lt_of_block F2.out)).trans F2.out)
  have B3 := hid (B2.out.then hb3)
  clear hb3 F2 B2
  gi_wp2
  refine ⟨trivial, callsIn_wide.2 ((where_nil w3 loc path).mono ?_)⟩
  rintro e w4 ⟨rfl, hb4⟩
  have F4 := hid ((hb4.block _ (lt_of_block F3.out)).trans F3.out)
  have B4 := hid (B3.out.then hb4)
  clear hb4 F3 B3
  gi_wp2
  refine ⟨trivial, callsIn_wide.2 ((alias_nil w4 path).mono ?_)⟩
  rintro e w5 ⟨rfl, hb5⟩
  have F5 := hid ((hb5.block _ (lt_of_block F4.out)).trans F4.out)
  have B5 := hid (B4.out.then hb5)
  clear hb5 F4 B4
  gi_wp2
  refine ⟨trivial, callsIn_wide.2 ((within_any none loc path w5).mono ?_)⟩
  rintro e w6 ⟨rfl, hw6⟩
  have HB := hid (show Below w5.heap.size w5 (((w5.alloc (.cells #[.pointer none] 31)).alloc (.cells #[.string ⟨loc.toArray⟩] 9)).alloc (.cells #[.string ⟨path.toArray⟩] 9)) from (((Below.refl _ _).alloc (Nat.le_refl _) _).alloc (by simp) _).alloc (by simp; omega) _)
  have c0 : (((w5.alloc (.cells #[.pointer none] 31)).alloc (.cells #[.string ⟨loc.toArray⟩] 9)).alloc (.cells #[.string ⟨path.toArray⟩] 9)).cell? ⟨w5.heap.size, 0, none⟩ = some (.pointer none) := by
    rw [cell_of_row _ _ _ _ _ _ ((Below.heap_alloc _ _ _ (by simp; omega)).trans ((Below.heap_alloc _ _ _ (by simp)).trans (heap_alloc_new w5 (.cells #[.pointer none] 31))))]; rfl
  have c1 : (((w5.alloc (.cells #[.pointer none] 31)).alloc (.cells #[.string ⟨loc.toArray⟩] 9)).alloc (.cells #[.string ⟨path.toArray⟩] 9)).cell? ⟨w5.heap.size + 1, 0, none⟩ = some (.string ⟨loc.toArray⟩) := by
    have e := heap_alloc_new (w5.alloc (.cells #[.pointer none] 31)) (.cells #[.string ⟨loc.toArray⟩] 9)
    rw [show (w5.alloc (.cells #[.pointer none] 31)).heap.size = w5.heap.size + 1 by simp] at e
    rw [cell_of_row _ _ _ _ _ _ ((Below.heap_alloc _ _ _ (by simp)).trans e)]; rfl
  have l0 : w5.heap.size < (((w5.alloc (.cells #[.pointer none] 31)).alloc (.cells #[.string ⟨loc.toArray⟩] 9)).alloc (.cells #[.string ⟨path.toArray⟩] 9)).heap.size := by simp; omega
  have l1 : w5.heap.size + 1 < (((w5.alloc (.cells #[.pointer none] 31)).alloc (.cells #[.string ⟨loc.toArray⟩] 9)).alloc (.cells #[.string ⟨path.toArray⟩] 9)).heap.size := by simp
  gi_wp2
  clear hw6
  generalize ((w5.alloc (.cells #[.pointer none] 31)).alloc (.cells #[.string ⟨loc.toArray⟩] 9)).alloc (.cells #[.string ⟨path.toArray⟩] 9) = W6 at *
  have F6 := hid ((HB.out.block _ (lt_of_block F5.out)).trans F5.out)
  have B6 := hid (B5.out.then HB.out)
  refine wpIn_rangeFunc_ownF (Kp := fun _ _ => True) (α := Empty) rfl (by omega) (gf := 46) rfl trivial (enters_of Tryz.func46 (by kernel_rfl) rfl)
    (within1_stops w5.heap.size (w5.heap.size + 1) (w5.heap.size + 1 + 1) loc path W6 c0 c1 l0 l1 5) (fun _ _ => trivial) (fun _ _ _ _ _ _ _ _ => trivial) (Below.refl _ _) (fun _ => rfl)
    (fun _ W => Below W6.heap.size W6 W) (fun _ _ _ => False) (ownFrom_below (Nat.le_refl _) (Nat.le_refl _)) (fun _ _ _ _ _ h _ _ => h) (Below.refl _ _) (fun x => x.elim) (fun l x => x.elim) (fun l pre x => x.elim) ?done (fun D c pre W _ h => h.elim)
  case done =>
    rintro D xs W hD _ hb hK
    have F7 := hid ((hb.block _ (lt_of_block F6.out)).trans F6.out)
    have B7 := hid (B6.out.then hb)
    have hcell : W.cell? ⟨w.heap.size, 0, none⟩ = some (.bool false) := by rw [cell_of_row _ _ _ _ _ _ F7.out]; rfl
    have hfr := frozen_of_row W w.heap.size 0 _ _ F7.out
    have hlt := lt_of_block F7.out
    gi_wp2
    refine ⟨trivial, callsIn_wide.2 ((locales_nil _).mono ?_)⟩
    rintro e w' ⟨rfl, rfl⟩
    gi_wp2
    refine ⟨trivial, callsIn_wide.2 ((paths_nil _ loc).mono ?_)⟩
    rintro e w' ⟨rfl, rfl⟩
    gi_wp2
    refine ⟨trivial, callsIn_wide.2 ((all_nil _).mono ?_)⟩
    rintro e w' ⟨rfl, rfl⟩
    gi_wp2
    refine ⟨trivial, callsIn_wide.2 ((aliases_nil _).mono ?_)⟩
    rintro e w' ⟨rfl, rfl⟩
    gi_wp2
    have hK' := (KeepsOthers.setCell w' ⟨w.heap.size, 0, none⟩ (.bool true)).same D _ hK rfl
    refine ⟨by simp, .inl ⟨_, _, rfl, run_takeDeferred hK', ?_⟩⟩
    have hc5 := cell_kept (World.cell?_setCell_same' w' ⟨w.heap.size, 0, none⟩ (.bool true) (by rw [hcell]; rfl)) (grownBy_putObj' _ D (.deferred none)) (fun r e => by cases e; exact ⟨_, hK', rfl⟩)
    refine ⟨.bool true, ?_, rfl, ?_⟩
    · simp [results, Tryz.f9, go_sem, hc5]
    · exact (B7.out.setCell (p := ⟨w.heap.size, 0, none⟩) (Nat.le_refl _) _).trans (belowK_b (w := w) (Nat.le_refl _) _ D _ _ (Nat.le_trans B6.out.size hD) hK' rfl rfl)
theorem bytes_str (a : ByteArray) : (⟨a.data.toList.toArray⟩ : ByteArray) = a := by cases a; simp
theorem none_bytes (a b : ByteArray) (w : World) (ha : a.size ≤ maxLen) (hb : b.size ≤ maxLen) :
    Calls Tryz.prog 9 #[.string a, .string b] w fun e w' => e = .returned (.bool true) ∧ Below w.heap.size w w' := by
  have := none_any a.data.toList b.data.toList w (by rw [Array.length_toList]; exact ha) (by rw [Array.length_toList]; exact hb)
  rw [bytes_str, bytes_str] at this
  exact this
end Go.Proofs.YtjlfchnnhglbjaaGreat

/- TableNone: a nil table has nothing, for every locale and path. No condition. -/
namespace Go.Proofs.YtjlfchnnhglbjaaGreat
open Go.ChangeShapes Go.WideShapes Go.ChangeAt Go.RowKit
open Go.ChangeMaps (open_string shut_string)
set_option linter.unusedVariables false

theorem own : ownKnob Tryz.prog.godebug = none := by kernel_rfl

set_option maxRecDepth 100000 in
theorem lifted (os : Os) (started : os.Started) (H : Type) (enc : TypeId × Value → H) :
    ReturnsInHanded {} Tryz.checked os 9 .any (Rows.tableNoneSpec.pre6 enc Tryz.prog Tryz.f9 Rows.tableNoneRow.domain false) (Rows.tableNoneSpec.post enc Tryz.prog Tryz.f9 false true false false) := by
  refine returnsInHanded_of_change (C := Tryz.checked) own started (by kernel_rfl) Tryz.func9
    (ChangeSpec.witness6 (enc := enc) (C := Tryz.checked) false ⟨#[], #[.string ByteArray.empty, .string ByteArray.empty], []⟩ 8 (by kernel_rfl) (by kernel_rfl) (by kernel_rfl) (by kernel_rfl)) ?_
  intro W base args ds gs before hval0 hW hcnd _
  have hval : ∀ (j : Nat) t v, Tryz.f9.params[j]? = some t → args[j]? = some v → Value.okWide Tryz.prog W .any base t v := hval0
  have hW' := hW
  obtain ⟨p, q, hA0, hV, rfl, hfz, hnd⟩ := hW
  have hA : DataW.TrodAll enc Tryz.prog W 0 (fun _ => true) true Tryz.f9.params.toList args.toList ds p := hA0
  rw [Tryz.params9] at hA hval
  obtain ⟨v0, vs0, d0, ds0, p0, q0, hargs, rfl, rfl, h0, r0⟩ := trodAll_cons hA
  obtain ⟨v1, vs1, d1, ds1, p1, q1, rfl, rfl, rfl, h1, r1⟩ := trodAll_cons r0
  obtain ⟨rfl, rfl, rfl⟩ := trodAll_nil r1
  obtain rfl : args = #[v0, v1] := by cases args; simp_all
  obtain ⟨rfl, rfl⟩ := trodVars_none hV
  obtain ⟨a0, rfl, rfl, rfl, w0⟩ := open_string Tryz.underlying9 (hval 0 9 v0 rfl rfl) h0
  obtain ⟨a1, rfl, rfl, rfl, w1⟩ := open_string Tryz.underlying9 (hval 1 9 v1 rfl rfl) h1
  clear hA0 hval0
  refine (none_bytes a0 a1 W w0 w1).mono fun e W' ⟨he, bel⟩ => ?_
  subst he
  exact ⟨_, rfl, _, _, _, [], _, [], hW', trodAll_mk1 (shut_bool Tryz.underlying4 _), (trodAll_cons_mk (shut_string Tryz.underlying9 w0) (trodAll_cons_mk (shut_string Tryz.underlying9 w1) trodAll_mk0)), rfl, bel.frame _, fun h => by cases h⟩

theorem over : Rows.tableNoneRow.holds Tryz.pinned (OpenSpec.ofChange Rows.tableNoneSpec) :=
  OpenClaim.holds_of_wide 9 Tryz.f9 rfl rfl rfl rfl rfl rfl rfl ⟨rfl, rfl, rfl, rfl, rfl⟩ rfl rfl rfl rfl rfl (by kernel_rfl) Tryz.func9 (by kernel_rfl)
    (of_decide_eq_true (by kernel_rfl)) (by unfold Func.isWrapper; first | (rw [if_pos (by decide +kernel)]; kernel_rfl) | (rw [if_neg (by decide +kernel)]; exact ⟨rfl, rfl⟩))
    (fun os started H enc _ => lifted os started H enc)

/-- the statement -/
theorem tableNone : Rows.TableNoneSaid := over
#print axioms tableNone
end Go.Proofs.YtjlfchnnhglbjaaGreat
