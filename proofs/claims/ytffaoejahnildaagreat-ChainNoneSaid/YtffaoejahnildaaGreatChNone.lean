/- The walk of the law ChainNone: chains that are not there. -/
import Derived.Test.YtffaoejahnildaaGreatChWakes
set_option linter.unusedVariables false
set_option linter.unusedSimpArgs false
namespace Go.Proofs.YtffaoejahnildaaGreat
open Go.RowKit Go.Lib Go.Sort

set_option maxRecDepth 100000 in
theorem parent_nil (w : World) (l : Str) :
    Calls Tryz.prog 11 #[.pointer none, .string ⟨l.toArray⟩] w fun e w' => e = .returned (.tuple #[.string ⟨#[]⟩, .bool false]) ∧ Below w.heap.size w w' := by
  go_enter Tryz.func11, Tryz.ntmps11
  go_wp2_with fail
  exact bodyPost_ret (v := .tuple #[.string ⟨#[]⟩, .bool false]) (by simp [results, Tryz.results11, go_sem]) rfl ⟨rfl, Below.refl _ _⟩

set_option maxRecDepth 100000 in
set_option maxHeartbeats 8000000 in
theorem chain_nil (w : World) (s : Str) (hs : s.length ≤ maxLen) :
    Calls Tryz.prog 15 #[.pointer none, .string ⟨s.toArray⟩] w fun e w' => e = .returned (.slice none 0 0) ∧ Below w.heap.size w w' := by
  have NM := hid (fun W => named_any s W hs)
  simp only [NamedOut] at NM
  generalize namedB s = is at *
  generalize namedT s = nt at *
  go_enter Tryz.func15, Tryz.ntmps15
  go_wp2_with fail
  refine (NM.out _).mono ?_
  rintro e w1 ⟨v1, rfl, ⟨vv, kv, rfl, ⟨av, cv, rfl, _, _⟩, ⟨ak, ck, rfl, _, _⟩⟩, hb1⟩
  simp only [tagCells, S]
  go_wp2_with fail
  go_ret
  exact ⟨rfl, hb1.then ((Below.refl _ _).alloc (Nat.le_refl _) _)⟩

set_option maxRecDepth 100000 in
theorem above_nil (w : World) (a s : Str) (hs : s.length ≤ maxLen) :
    Calls Tryz.prog 16 #[.pointer none, .string ⟨a.toArray⟩, .string ⟨s.toArray⟩] w fun e w' => e = .returned (.bool false) ∧ Below w.heap.size w w' := by
  have CH := hid (chain_nil w s hs)
  go_enter Tryz.func16, Tryz.ntmps16
  go_wp2_with fail
  refine CH.out.mono ?_
  rintro e w1 ⟨rfl, hb1⟩
  go_wp2_with fail
  refine (contains_own w1 0 _ [] a (World.ownsRow_nil _ _ _ _)).mono ?_
  rintro e w2 ⟨rfl, rfl⟩
  go_wp2_with fail
  go_ret
  exact ⟨rfl, hb1⟩

set_option maxRecDepth 100000 in
set_option maxHeartbeats 8000000 in
theorem common_nil (w : World) (a b : Str) (ha : a.length ≤ maxLen) (hb : b.length ≤ maxLen) :
    Calls Tryz.prog 17 #[.pointer none, .string ⟨a.toArray⟩, .string ⟨b.toArray⟩] w fun e w' => e = .returned (.string ⟨#[]⟩) ∧ Below w.heap.size w w' := by
  have CB := hid (chain_nil w b hb)
  have CA := hid (fun W => chain_nil W a ha)
  go_enter Tryz.func17, Tryz.ntmps17
  go_wp2_with fail
  refine CB.out.mono ?_
  rintro e w1 ⟨rfl, hb1⟩
  go_wp2_with fail
  refine (CA.out _).mono ?_
  rintro e w2 ⟨rfl, hb2⟩
  have HB2 := hid (hb1.then hb2)
  clear hb1 hb2
  go_wp2_with fail
  go_loopg [17] 0 (fun g' vi W => vi = .int .i64 0 ∧ W = w2)
  case atStart => exact ⟨rfl, rfl⟩
  case round =>
    obtain ⟨rfl, rfl⟩ := hrel
    go_wp2_with fail
    go_ret
    exact ⟨rfl, HB2.out⟩

set_option maxRecDepth 100000 in
theorem said_nil (w : World) :
    Calls Tryz.prog 18 #[.pointer none] w fun e w' => e = .returned (.slice none 0 0) ∧ Below w.heap.size w w' := by
  go_enter Tryz.func18, Tryz.ntmps18
  go_wp2_with fail
  go_ret
  exact ⟨rfl, Below.refl _ _⟩

set_option maxRecDepth 100000 in
set_option maxHeartbeats 8000000 in
theorem none_any (w : World) (a b : Str) (ha : a.length ≤ maxLen) (hb : b.length ≤ maxLen) :
    Calls Tryz.prog 5 #[.string ⟨a.toArray⟩, .string ⟨b.toArray⟩] w fun e w' => e = .returned (.bool true) ∧ Below w.heap.size w w' := by
  go_enter Tryz.func5, Tryz.ntmps5
  go_wp2_with fail
  refine (lwakes_any _).mono ?_
  rintro e w1 ⟨rfl, hb1⟩
  go_wp2_with fail
  refine (parent_nil _ a).mono ?_
  rintro e w2 ⟨rfl, hb2⟩
  have HB2 := hid (hb1.then hb2)
  clear hb1 hb2
  go_wp2_with fail
  refine (chain_nil _ a ha).mono ?_
  rintro e w3 ⟨rfl, hb3⟩
  have HB3 := hid (HB2.out.then hb3)
  clear hb3
  go_wp2_with fail
  refine (above_nil _ a b hb).mono ?_
  rintro e w4 ⟨rfl, hb4⟩
  have HB4 := hid (HB3.out.then hb4)
  clear hb4
  go_wp2_with fail
  refine (common_nil _ a b ha hb).mono ?_
  rintro e w5 ⟨rfl, hb5⟩
  have HB5 := hid (HB4.out.then hb5)
  clear hb5
  go_wp2_with fail
  refine (said_nil _).mono ?_
  rintro e w6 ⟨rfl, hb6⟩
  go_wp2_with fail
  go_ret
  exact ⟨rfl, HB5.out.then hb6⟩
end Go.Proofs.YtffaoejahnildaaGreat
