/- The contract of the law's same, where the two lists are the same. -/
import Derived.Test.YtffaoejahnildaaGreatSame
import Derived.BigQuiet
import Derived.IntWalk
import Derived.WalkSmall
set_option linter.unusedVariables false
set_option linter.unusedSimpArgs false
namespace Go.Proofs.YtffaoejahnildaaGreat
open Go.RowKit Go.Lib Go.Sort

set_option maxRecDepth 100000 in
set_option maxHeartbeats 8000000 in
theorem lsame_any (w : World) (va vb : Value) (l : List Str) (ha : RdS w va l) (hb : RdS w vb l) :
    Calls Tryz.prog 14 #[va, vb] w fun e w' => e = .returned (.bool true) ∧ Below w.heap.size w w' := by
  obtain ⟨av, cv, rfl, hav, hsa⟩ := ha
  obtain ⟨bv, dv, rfl, hbv, hsb⟩ := hb
  have HSA := hid hsa
  have HSB := hid hsb
  clear hsa hsb
  go_enter Tryz.func14, Tryz.ntmps14
  go_wp2_with fail
  go_loopg [13] l.length (fun g vi W => ∃ n : Nat, n ≤ l.length ∧ l.length ≤ n + g ∧ vi = .int .i64 n ∧ ∃ k : Nat, W = w.drewN k)
  case atStart => exact ⟨0, Nat.zero_le _, by omega, rfl, 0, rfl⟩
  case round =>
    obtain ⟨n, hn, hg, rfl, nq1, rfl⟩ := hrel
    have HG := hid hg
    clear hg
    by_cases hlt : n < l.length
    · have hne : l ≠ [] := by intro e; rw [e] at hlt; simp at hlt
      obtain ⟨p1, o1, rfl, hp1, hc1⟩ := HSA.out hne
      obtain ⟨p2, o2, rfl, hp2, hc2⟩ := HSB.out hne
      have q1 := hc1 n _ (List.getElem?_eq_getElem hlt)
      have q2 := hc2 n _ (List.getElem?_eq_getElem hlt)
      obtain ⟨x, hx⟩ : ∃ x, x = l[n] := ⟨_, rfl⟩
      rw [← hx, S] at q1 q2
      clear hc1 hc2 hx hne
      have hni : (n : Int) < (l.length : Int) := by omega
      have hn0 : (0 : Int) ≤ (n : Int) := by omega
      have hb1 : (x == x) = true := by simp
      have hb2 : (x != x) = false := by simp
      go_wp2_with fail
      go_quiet (fail)
      go_wp2_with fail
      go_roundg (gk - 1)
      case measure => have := HG.out; omega
      case rel => exact ⟨n + 1, by omega, by have := HG.out; omega, by simp, _, rfl⟩
    · go_wp2_with fail
      go_ret
      exact ⟨rfl, below_drewN (Below.refl _ _) _⟩
end Go.Proofs.YtffaoejahnildaaGreat
