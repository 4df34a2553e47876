/- The contract of the reference's Same. -/
import Derived.Test.YtlmgmifaknlolaaGreatRefList
import Derived.Test.YtlmgmifaknlolaaGreatBoxes
import Derived.BigQuiet
import Derived.IntWalk
import Derived.WalkSmall
set_option linter.unusedVariables false
set_option linter.unusedSimpArgs false
namespace Go.Proofs.YtlmgmifaknlolaaGreat
open Go.RowKit Go.Lib Go.Sort

theorem take_eq_step {α : Type} {l m : List α} {n : Nat} (h : l.take n = m.take n) (hl : n < l.length) (hm : n < m.length) (he : l[n] = m[n]) : l.take (n + 1) = m.take (n + 1) := by
  rw [List.take_add_one, List.take_add_one, List.getElem?_eq_getElem hl, List.getElem?_eq_getElem hm, h, he]
theorem same_no {a b : Tg} (h : ¬ (a.lang = b.lang ∧ a.script = b.script ∧ a.region = b.region ∧ a.vars.length = b.vars.length ∧ a.keys.length = b.keys.length)) : sameB a b = false := by
  by_cases hs : sameB a b = true
  · unfold sameB at hs
    simp only [Bool.and_eq_true, beq_iff_eq, decide_eq_true_eq] at hs
    exact absurd ⟨hs.1, hs.2.1, hs.2.2.1, by rw [hs.2.2.2.1], by rw [hs.2.2.2.2]⟩ h
  · simpa using hs
theorem same_yes {a b : Tg} (h1 : a.lang = b.lang) (h2 : a.script = b.script) (h3 : a.region = b.region) (h4 : a.vars = b.vars) (h5 : a.keys = b.keys) : sameB a b = true := by
  unfold sameB; simp [h1, h2, h3, h4, h5]
theorem same_nov {a b : Tg} (h : a.vars ≠ b.vars) : sameB a b = false := by unfold sameB; simp [h]
theorem same_nok {a b : Tg} (h : a.keys ≠ b.keys) : sameB a b = false := by unfold sameB; simp [h]

set_option maxRecDepth 100000 in
set_option maxHeartbeats 8000000 in
theorem rsame_any (w : World) (va vb : Value) (a b : Tg) (ha : RdT w va a) (hb : RdT w vb b) :
    Calls Tryz.prog 33 #[va, vb] w fun e w' => e = .returned (.bool (sameB a b)) ∧ Below w.heap.size w w' := by
  obtain ⟨vv, kv, rfl, ⟨av, cv, rfl, hav, hsa⟩, ⟨ak, ck, rfl, hak, hpa⟩⟩ := ha
  obtain ⟨vv2, kv2, rfl, ⟨bv, dv, rfl, hbv, hsb⟩, ⟨bk, dk, rfl, hbk, hpb⟩⟩ := hb
  simp only [tagCells, S]
  by_cases hh : a.lang = b.lang ∧ a.script = b.script ∧ a.region = b.region ∧ a.vars.length = b.vars.length ∧ a.keys.length = b.keys.length
  · obtain ⟨e1, e2, e3, e4, e5⟩ := hh
    have b1 : (a.lang == b.lang) = true := by rw [e1]; simp
    have b2 : (a.script == b.script) = true := by rw [e2]; simp
    have b3 : (a.region == b.region) = true := by rw [e3]; simp
    have b4 : ((a.vars.length : Int) == (b.vars.length : Int)) = true := by rw [e4]; simp
    have b5 : ((a.keys.length : Int) == (b.keys.length : Int)) = true := by rw [e5]; simp
    have b6 : ((a.vars.length : Int) != (b.vars.length : Int)) = false := by rw [e4]; simp
    have b7 : ((a.keys.length : Int) != (b.keys.length : Int)) = false := by rw [e5]; simp
    have b8 : (a.vars.length : Int) = (b.vars.length : Int) := by rw [e4]
    have B8 := hid b8
    clear b8
    have E1 := hid e1
    have E2 := hid e2
    have E3 := hid e3
    have E4 := hid e4
    have E5 := hid e5
    have HSA := hid hsa
    have HSB := hid hsb
    have HPA := hid hpa
    have HPB := hid hpb
    have HB0 := hid (below2 w (.cells #[.string ⟨a.lang.toArray⟩, .string ⟨a.script.toArray⟩, .string ⟨a.region.toArray⟩, .slice av a.vars.length cv, .slice ak a.keys.length ck] 25) (.cells #[.string ⟨b.lang.toArray⟩, .string ⟨b.script.toArray⟩, .string ⟨b.region.toArray⟩, .slice bv b.vars.length dv, .slice bk b.keys.length dk] 25))
    have HXA := hid (heap_alloc2_old w (.cells #[.string ⟨a.lang.toArray⟩, .string ⟨a.script.toArray⟩, .string ⟨a.region.toArray⟩, .slice av a.vars.length cv, .slice ak a.keys.length ck] 25) (.cells #[.string ⟨b.lang.toArray⟩, .string ⟨b.script.toArray⟩, .string ⟨b.region.toArray⟩, .slice bv b.vars.length dv, .slice bk b.keys.length dk] 25))
    have HXB := hid (heap_alloc2_new w (.cells #[.string ⟨a.lang.toArray⟩, .string ⟨a.script.toArray⟩, .string ⟨a.region.toArray⟩, .slice av a.vars.length cv, .slice ak a.keys.length ck] 25) (.cells #[.string ⟨b.lang.toArray⟩, .string ⟨b.script.toArray⟩, .string ⟨b.region.toArray⟩, .slice bv b.vars.length dv, .slice bk b.keys.length dk] 25))
    clear e1 e2 e3 e4 e5 hsa hsb hpa hpb
    go_enter Tryz.func33, Tryz.ntmps33
    go_wp2_with fail
    generalize hW : (w.alloc (.cells #[.string ⟨a.lang.toArray⟩, .string ⟨a.script.toArray⟩, .string ⟨a.region.toArray⟩, .slice av a.vars.length cv, .slice ak a.keys.length ck] 25)).alloc (.cells #[.string ⟨b.lang.toArray⟩, .string ⟨b.script.toArray⟩, .string ⟨b.region.toArray⟩, .slice bv b.vars.length dv, .slice bk b.keys.length dk] 25) = W0 at *
    clear hW
    obtain ⟨_, _, _, c3, c4⟩ := box_cells HXA.out
    obtain ⟨_, _, _, d3, d4⟩ := box_cells HXB.out
    go_loopg [5] a.vars.length (fun g vi W => ∃ n : Nat, n ≤ a.vars.length ∧ a.vars.length ≤ n + g ∧ vi = .int .i64 n ∧ a.vars.take n = b.vars.take n ∧ ∃ k : Nat, W = W0.drewN k)
    case atStart => exact ⟨0, Nat.zero_le _, by omega, rfl, by simp, 0, rfl⟩
    case round =>
      obtain ⟨n, hn, hg, rfl, htk, nq1, rfl⟩ := hrel
      have HG := hid hg
      have HTK := hid htk
      clear hg htk
      by_cases hlt : n < a.vars.length
      · have hlt2 : n < b.vars.length := by have := E4.out; omega
        have hne : a.vars ≠ [] := by intro e; rw [e] at hlt; simp at hlt
        have hne2 : b.vars ≠ [] := by intro e; rw [e] at hlt2; simp at hlt2
        obtain ⟨p1, o1, rfl, hp1, hc1⟩ := HSA.out hne
        obtain ⟨p2, o2, rfl, hp2, hc2⟩ := HSB.out hne2
        have q1 := (HB0.out.cell (p := ⟨p1, o1 + n, none⟩) hp1).trans (hc1 n _ (List.getElem?_eq_getElem hlt))
        have q2 := (HB0.out.cell (p := ⟨p2, o2 + n, none⟩) hp2).trans (hc2 n _ (List.getElem?_eq_getElem hlt2))
        obtain ⟨x, hx⟩ : ∃ x, x = a.vars[n] := ⟨_, rfl⟩
        obtain ⟨y, hy⟩ : ∃ y, y = b.vars[n] := ⟨_, rfl⟩
        rw [← hx, S] at q1
        rw [← hy, S] at q2
        have HX := hid hx
        have HY := hid hy
        clear hc1 hc2 hx hy hne hne2
        have hni : (n : Int) < (a.vars.length : Int) := by omega
        have hnj : (n : Int) < (b.vars.length : Int) := by omega
        have hn0 : (0 : Int) ≤ (n : Int) := by omega
        by_cases he : x = y
        · have hb1 : (x == y) = true := by rw [he]; simp
          have HE := hid he
          clear he
          go_wp2_with fail
          go_quiet (fail)
          go_wp2_with fail
          go_roundg (gk - 1)
          case measure => have := HG.out; omega
          case rel => exact ⟨n + 1, by omega, by have := HG.out; omega, by simp, take_eq_step HTK.out hlt hlt2 (by rw [← HX.out, ← HY.out]; exact HE.out), _, rfl⟩
        · have hb1 : (x == y) = false := by rw [beq_eq_false_iff_ne]; exact he
          have hns : sameB a b = false := same_nov (fun e => he (by
            rw [HX.out, HY.out]
            simp only [e]))
          have HN := hid hns
          clear he hns
          go_wp2_with fail
          go_quiet (fail)
          go_wp2_with fail
          go_ret
          exact ⟨by rw [HN.out]; rfl, by first | exact HB0.out | exact below_drewN HB0.out _ | exact below_drewN (below_drewN HB0.out _) _⟩
      · have hvv : a.vars = b.vars := by
          have h1 : a.vars.take n = a.vars := List.take_of_length_le (by omega)
          have h2 : b.vars.take n = b.vars := List.take_of_length_le (by have := E4.out; omega)
          rw [← h1, ← h2]; exact HTK.out
        have HVV := hid hvv
        clear hvv
        go_wp2_with fail
        go_loopg [6] a.keys.length (fun g vi W => ∃ m : Nat, m ≤ a.keys.length ∧ a.keys.length ≤ m + g ∧ vi = .int .i64 m ∧ a.keys.take m = b.keys.take m ∧ ∃ k : Nat, W = W0.drewN k)
        case atStart => exact ⟨0, Nat.zero_le _, by omega, rfl, by simp, _, rfl⟩
        case round =>
          obtain ⟨m, hm, hg2, rfl, htk2, nq2, rfl⟩ := hrel
          have HG2 := hid hg2
          have HTK2 := hid htk2
          clear hg2 htk2
          by_cases hlt3 : m < a.keys.length
          · have hlt4 : m < b.keys.length := by have := E5.out; omega
            have hne : a.keys ≠ [] := by intro e; rw [e] at hlt3; simp at hlt3
            have hne2 : b.keys ≠ [] := by intro e; rw [e] at hlt4; simp at hlt4
            obtain ⟨p1, o1, rfl, hp1, hc1⟩ := HPA.out hne
            obtain ⟨p2, o2, rfl, hp2, hc2⟩ := HPB.out hne2
            obtain ⟨x1, x2, hx⟩ : ∃ x y, a.keys[m] = (x, y) := ⟨_, _, rfl⟩
            obtain ⟨y1, y2, hy⟩ : ∃ x y, b.keys[m] = (x, y) := ⟨_, _, rfl⟩
            have q1 : W0.cell? ⟨p1, o1 + m * 2, none⟩ = some (.string ⟨x1.toArray⟩) := (HB0.out.cell (p := ⟨p1, o1 + m * 2, none⟩) hp1).trans (hc1 m 0 _ hlt3 (by rw [hx]; rfl))
            have q2 : W0.cell? ⟨p1, o1 + m * 2 + 1, none⟩ = some (.string ⟨x2.toArray⟩) := (HB0.out.cell (p := ⟨p1, o1 + m * 2 + 1, none⟩) hp1).trans (hc1 m 1 _ hlt3 (by rw [hx]; rfl))
            have q3 : W0.cell? ⟨p2, o2 + m * 2, none⟩ = some (.string ⟨y1.toArray⟩) := (HB0.out.cell (p := ⟨p2, o2 + m * 2, none⟩) hp2).trans (hc2 m 0 _ hlt4 (by rw [hy]; rfl))
            have q4 : W0.cell? ⟨p2, o2 + m * 2 + 1, none⟩ = some (.string ⟨y2.toArray⟩) := (HB0.out.cell (p := ⟨p2, o2 + m * 2 + 1, none⟩) hp2).trans (hc2 m 1 _ hlt4 (by rw [hy]; rfl))
            have HX := hid hx
            have HY := hid hy
            clear hc1 hc2 hx hy hne hne2
            have hmi : (m : Int) < (a.keys.length : Int) := by omega
            have hmj : (m : Int) < (b.keys.length : Int) := by omega
            have hm0 : (0 : Int) ≤ (m : Int) := by omega
            by_cases he : x1 = y1 ∧ x2 = y2
            · have hb1 : (x1 == y1) = true := by rw [he.1]; simp
              have hb2 : (x2 == y2) = true := by rw [he.2]; simp
              have HE := hid (show (x1, x2) = (y1, y2) by rw [he.1, he.2])
              clear he
              go_wp2_with fail
              go_quiet (fail)
              go_wp2_with fail
              go_roundg (gk - 1)
              case measure => have := HG2.out; omega
              case rel => exact ⟨m + 1, by omega, by have := HG2.out; omega, by simp, take_eq_step HTK2.out hlt3 hlt4 (by rw [HX.out, HY.out]; exact HE.out), _, rfl⟩
            · have hns : sameB a b = false := same_nok (fun e => he (by
                have h1 : a.keys[m] = b.keys[m] := by simp only [e]
                rw [HX.out, HY.out] at h1
                exact ⟨congrArg Prod.fst h1, congrArg Prod.snd h1⟩))
              have HN := hid hns
              clear hns
              by_cases he1 : x1 = y1
              · have hb1 : (x1 == y1) = true := by rw [he1]; simp
                have hb2 : (x2 == y2) = false := by rw [beq_eq_false_iff_ne]; exact fun e => he ⟨he1, e⟩
                clear he he1
                go_wp2_with fail
                go_quiet (fail)
                go_wp2_with fail
                go_ret
                exact ⟨by rw [HN.out]; rfl, by first | exact HB0.out | exact below_drewN HB0.out _ | exact below_drewN (below_drewN HB0.out _) _⟩
              · have hb1 : (x1 == y1) = false := by rw [beq_eq_false_iff_ne]; exact he1
                clear he he1
                go_wp2_with fail
                go_quiet (fail)
                go_wp2_with fail
                all_goals go_ret
                all_goals exact ⟨by rw [HN.out]; rfl, by first | exact HB0.out | exact below_drewN HB0.out _ | exact below_drewN (below_drewN HB0.out _) _⟩
          · have hkk : a.keys = b.keys := by
              have h1 : a.keys.take m = a.keys := List.take_of_length_le (by omega)
              have h2 : b.keys.take m = b.keys := List.take_of_length_le (by have := E5.out; omega)
              rw [← h1, ← h2]; exact HTK2.out
            have hys := same_yes E1.out E2.out E3.out HVV.out hkk
            have HN := hid hys
            clear hkk hys
            go_wp2_with fail
            go_ret
            exact ⟨by rw [HN.out]; rfl, by first | exact HB0.out | exact below_drewN HB0.out _ | exact below_drewN (below_drewN HB0.out _) _⟩
  · have hns := same_no hh
    have HN := hid hns
    have HH := hid hh
    clear hns hh
    go_enter Tryz.func33, Tryz.ntmps33
    go_wp2_with fail
    all_goals first
      | (go_ret; exact ⟨by rw [HN.out]; rfl, below2 _ _ _⟩)
      | (exfalso; refine HH.out ⟨by assumption, by assumption, by assumption, by omega, ?_⟩; simp at *; omega)
end Go.Proofs.YtlmgmifaknlolaaGreat
