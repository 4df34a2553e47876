/- The contract of the reference's Name. -/
import Derived.Test.YtjgeoaaklneojaaGreatRefPrint
import Derived.Test.YtjgeoaaklneojaaGreatPrint
set_option linter.unusedVariables false
set_option linter.unusedSimpArgs false
namespace Go.Proofs.YtjgeoaaklneojaaGreat
open Go.RowKit Go.Lib Go.Sort

theorem printB_bare (t : Tg) (h : Good t) : printB t = writeF (bareT t) := by
  rw [write_R _ h.bare.canon, partsR_K]
  unfold partsK printB
  rw [join_jt]
  show headPart t.lang ++ jt (opt t.script ++ opt t.region ++ t.vars) = headPart t.lang ++ jt (opt t.script ++ opt t.region ++ t.vars ++ kuParts [])
  rw [show kuParts ([] : List (Str × Str)) = [] from rfl, List.append_nil]
theorem printB_len (t : Tg) (h : Good t) : (printB t).length ≤ 1000 := by
  rw [printB_bare t h]; have := h.bare.write; omega

set_option maxRecDepth 100000 in
set_option maxHeartbeats 8000000 in
theorem rname_any (w : World) (v : Value) (t : Tg) (h : RdT w v t) (hb : (printB t).length ≤ 1000) :
    Calls Tryz.prog 10 #[v] w fun e w' => e = .returned (.string ⟨(nameOf (printB t)).toArray⟩) ∧ Below w.heap.size w w' := by
  obtain ⟨vv, kv, rfl, hS, hP⟩ := h
  have W1 := hid (fun W (hb2 : Below w.heap.size w W) => rprint_any W vv t (hS.below hb2) hb)
  obtain ⟨av, cv, rfl, _, _⟩ := hS
  obtain ⟨ak, ck, rfl, _, _⟩ := hP
  clear hb
  unfold nameOf
  generalize hs : printB t = s at *
  simp only [tagCells, S, vnil] at W1 ⊢
  have hb0 : Below w.heap.size w (w.alloc (.cells #[.string ⟨t.lang.toArray⟩, .string ⟨t.script.toArray⟩, .string ⟨t.region.toArray⟩, .slice av t.vars.length cv, .slice ak t.keys.length ck] 26)) := (Below.refl _ _).alloc (Nat.le_refl _) _
  have hx0 : (w.alloc (.cells #[.string ⟨t.lang.toArray⟩, .string ⟨t.script.toArray⟩, .string ⟨t.region.toArray⟩, .slice av t.vars.length cv, .slice ak t.keys.length ck] 26)).heap[w.heap.size]? = some (.cells #[.string ⟨t.lang.toArray⟩, .string ⟨t.script.toArray⟩, .string ⟨t.region.toArray⟩, .slice av t.vars.length cv, .slice ak t.keys.length ck] 26 (0, 0)) := heap_alloc_new w _
  have hsz := lt_of_block hx0
  have hfz := frozen_of_row _ w.heap.size 4 _ _ hx0
  obtain ⟨c0, c1, c2, c3, c4⟩ := box_cells hx0
  have HB0 := hid hb0
  clear hx0 hb0
  go_enter Tryz.func10, Tryz.ntmps10
  go_wp2_with fail
  have hw2 : Below w.heap.size w (w.alloc (.cells #[.string ⟨t.lang.toArray⟩, .string ⟨t.script.toArray⟩, .string ⟨t.region.toArray⟩, .slice av t.vars.length cv, .slice none 0 0] 26)) := (Below.refl _ _).alloc (Nat.le_refl _) _
  refine (W1.out _ hw2).mono ?_
  rintro e w2 ⟨rfl, hb2⟩
  have hw3 := hw2.then hb2
  clear hb2 hw2 W1 c0 c1 c2 c3 c4
  by_cases hu : s = [117, 110, 100]
  · have hub : (s != [117, 110, 100]) = false := by rw [hu]; rfl
    have hub2 : (s == [117, 110, 100]) = true := by rw [hu]; rfl
    have hu2 : s = tUnd := hu
    clear hu
    go_wp2_with fail
    go_ret
    exact ⟨rfl, hw3⟩
  · have hub : (s != [117, 110, 100]) = true := by rw [bne_iff_ne]; exact hu
    have hub2 : (s == [117, 110, 100]) = false := by rw [beq_eq_false_iff_ne]; exact hu
    have hu2 : ¬ s = tUnd := hu
    clear hu
    go_wp2_with fail
    go_ret
    exact ⟨rfl, hw3⟩
end Go.Proofs.YtjgeoaaklneojaaGreat
