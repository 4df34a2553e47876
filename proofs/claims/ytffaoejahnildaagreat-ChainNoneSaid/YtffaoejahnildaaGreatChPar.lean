/- The contract of chain.Chains.Parent. -/
import Derived.Test.YtffaoejahnildaaGreatChPlain
import Derived.Test.YtffaoejahnildaaGreatChMem
import Derived.Test.YtffaoejahnildaaGreatChainQ
set_option linter.unusedVariables false
set_option linter.unusedSimpArgs false
namespace Go.Proofs.YtffaoejahnildaaGreat
open Go.RowKit Go.Lib Go.Sort Go.Maps

set_option maxRecDepth 100000 in
set_option maxHeartbeats 8000000 in
theorem parent_any (w : World) (v : Value) (D : List (Str × Str)) (l : Str) (h : ChRd w v D) (hl : l.length ≤ maxLen) :
    Calls Tryz.prog 11 #[v, .string ⟨l.toArray⟩] w fun e w' => e = .returned (.tuple #[.string ⟨(parentF D l).1.toArray⟩, .bool (parentF D l).2]) ∧ Below w.heap.size w w' := by
  obtain ⟨bc, bm, n, rfl, hlt, hc, hown⟩ := h
  have PL := hid (fun W => plain_any l W hl)
  have HOWN := hid hown
  clear hown
  cases hlk : look D l with
  | some p =>
    have hpf : parentF D l = (p, true) := by unfold parentF; rw [hlk]
    rw [hpf]
    have HLK := hid hlk
    clear hpf hlk
    go_enter Tryz.func11, Tryz.ntmps11
    go_wp2_with (at_lookup; refine wpList_look_some HOWN.out rfl _ _ rfl rfl l _ rfl hl HLK.out ?_)
    exact bodyPost_ret (v := .tuple #[.string ⟨p.toArray⟩, .bool true]) (by simp [results, Tryz.results11, go_sem]) rfl ⟨rfl, Below.refl _ _⟩
  | none =>
    have hpf : parentF D l = plainF l := by unfold parentF; rw [hlk]
    rw [hpf]
    have HLK := hid hlk
    clear hpf hlk
    generalize plainF l = q at *
    go_enter Tryz.func11, Tryz.ntmps11
    go_wp2_with (at_lookup; refine wpList_look_none HOWN.out rfl _ _ rfl rfl l rfl hl HLK.out ?_)
    refine (PL.out _).mono ?_
    rintro e w1 ⟨rfl, hb1⟩
    go_wp2_with fail
    exact bodyPost_ret (v := .tuple #[.string ⟨q.1.toArray⟩, .bool q.2]) (by simp [results, Tryz.results11, go_sem]) rfl ⟨rfl, hb1⟩
end Go.Proofs.YtffaoejahnildaaGreat
