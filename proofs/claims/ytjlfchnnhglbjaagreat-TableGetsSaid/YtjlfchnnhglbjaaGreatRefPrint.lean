/- The contracts of the reference's Print, for a tag without keywords, and Name. (printed by wip/gen_refprint.py) -/
import Derived.Test.YtjlfchnnhglbjaaGreatRefList
import Derived.Test.YtjlfchnnhglbjaaGreatBoxes
import Derived.BigQuiet
import Derived.IntWalk
import Derived.WalkSmall
import Derived.Test.YtjlfchnnhglbjaaGreatCanonF
set_option linter.unusedVariables false
set_option linter.unusedSimpArgs false
namespace Go.Proofs.YtjlfchnnhglbjaaGreat
open Go.RowKit Go.Lib Go.Sort

def printB (t : Tg) : Str := headPart t.lang ++ jt (opt t.script ++ opt t.region ++ t.vars)
theorem jt_snoc (l : List Str) (x : Str) : jt (l ++ [x]) = jt l ++ [45] ++ x := by rw [jt_append, jt_cons, jt_nil]; simp
theorem jt_take_len (l : List Str) (n : Nat) : (jt (l.take n)).length ≤ (jt l).length := by
  conv => rhs; rw [← List.take_append_drop n l, jt_append, List.length_append]
  omega
theorem take_stepS (l : List Str) (k : Nat) (h : k < l.length) : l.take (k + 1) = l.take k ++ [l[k]] := by
  rw [List.take_add_one, List.getElem?_eq_getElem h]; rfl

set_option maxRecDepth 100000 in
set_option maxHeartbeats 16000000 in
theorem rprint_any (w : World) (vv : Value) (t : Tg) (hS : RdS w vv t.vars) (hb : (printB t).length ≤ 1000) :
    Calls Tryz.prog 131 #[.agg (tagCells t vv vnil)] w fun e w' => e = .returned (.string ⟨(printB t).toArray⟩) ∧ Below w.heap.size w w' := by
  obtain ⟨av, cv, rfl, hav, hsa⟩ := hS
  simp only [tagCells, S, vnil]
  have HB0 := hid ((Below.refl w.heap.size w).alloc (Nat.le_refl _) (.cells #[.string ⟨t.lang.toArray⟩, .string ⟨t.script.toArray⟩, .string ⟨t.region.toArray⟩, .slice av t.vars.length cv, .slice none 0 0] 108))
  have HXA := hid (heap_alloc_new w (.cells #[.string ⟨t.lang.toArray⟩, .string ⟨t.script.toArray⟩, .string ⟨t.region.toArray⟩, .slice av t.vars.length cv, .slice none 0 0] 108))
  have HSA := hid hsa
  have hbl : (headPart t.lang).length ≤ 1000 := by unfold printB at hb; rw [List.length_append] at hb; omega
  have hsc : t.script.length ≤ 1000 := by unfold printB at hb; rw [List.length_append, jt_append, jt_append, List.length_append, List.length_append] at hb; by_cases h : t.script = []; · rw [h]; simp
                                          · rw [show opt t.script = [t.script] by unfold opt; rw [if_neg h], jt_cons] at hb; simp at hb; omega
  have hrg : t.region.length ≤ 1000 := by unfold printB at hb; rw [List.length_append, jt_append, jt_append, List.length_append, List.length_append] at hb; by_cases h : t.region = []; · rw [h]; simp
                                          · rw [show opt t.region = [t.region] by unfold opt; rw [if_neg h], jt_cons] at hb; simp at hb; omega
  have hlg : t.lang.length ≤ 1000 := by
    by_cases h : t.lang = []
    · rw [h]; simp
    · unfold headPart at hbl; rw [if_neg h] at hbl; exact hbl
  by_cases h0 : t.lang = []
  · have p0 : (t.lang == []) = true := by rw [h0]; rfl
    have p0' : (t.lang != []) = false := by rw [h0]; rfl
    by_cases h1 : t.script = []
    · have p1 : (t.script == []) = true := by rw [h1]; rfl
      have p1' : (t.script != []) = false := by rw [h1]; rfl
      by_cases h2 : t.region = []
      · have p2 : (t.region == []) = true := by rw [h2]; rfl
        have p2' : (t.region != []) = false := by rw [h2]; rfl
        have HBASE : Hid (headPart t.lang ++ jt (opt t.script ++ opt t.region) = ([117, 110, 100] : Str)) := by
          show _ = _
          unfold headPart opt
          rw [if_pos h0, if_pos h1, if_pos h2]
          simp [jt_nil, jt_cons, tUnd]
        clear h0 h1 h2
        go_enter Tryz.func131, Tryz.ntmps131
        go_wp2_with fail
        generalize hW : w.alloc (.cells #[.string ⟨t.lang.toArray⟩, .string ⟨t.script.toArray⟩, .string ⟨t.region.toArray⟩, .slice av t.vars.length cv, .slice none 0 0] 108) = W0 at *
        clear hW
        obtain ⟨_, _, _, c3, c4⟩ := box_cells HXA.out
        go_loopg [3, 4] t.vars.length (fun g vo vi W => ∃ n : Nat, n ≤ t.vars.length ∧ t.vars.length ≤ n + g ∧ vi = .int .i64 n ∧ vo = .string ⟨(([117, 110, 100] : Str) ++ jt (t.vars.take n)).toArray⟩ ∧ W = W0)
        case atStart => exact ⟨0, Nat.zero_le _, by omega, rfl, by rw [List.take_zero, jt_nil, List.append_nil]; (repeat rw [← str_cat]); (try rfl), rfl⟩
        case round =>
          obtain ⟨n, hn, hg, rfl, rfl, rfl⟩ := hrel
          have HG := hid hg
          clear hg
          by_cases hlt : n < t.vars.length
          · have hne : t.vars ≠ [] := by intro e; rw [e] at hlt; simp at hlt
            obtain ⟨p1, o1, rfl, hp1, hc1⟩ := HSA.out hne
            have q1 := (HB0.out.cell (p := ⟨p1, o1 + n, none⟩) hp1).trans (hc1 n _ (List.getElem?_eq_getElem hlt))
            have hst := take_stepS t.vars n hlt
            obtain ⟨x, hx⟩ : ∃ x, x = t.vars[n] := ⟨_, rfl⟩
            rw [← hx, S] at q1
            rw [← hx] at hst
            have hj1 := jt_take_len t.vars (n + 1)
            have hj2 := hj1
            rw [hst, jt_snoc] at hj2
            have hbb : (([117, 110, 100] : Str)).length + (jt t.vars).length ≤ 1000 := by
              have h := hb
              unfold printB at h
              rw [jt_append, ← List.append_assoc, HBASE.out, List.length_append] at h
              exact h
            have hl1 : (([117, 110, 100] : Str) ++ jt (t.vars.take n)).length + 1 + x.length ≤ 1000 := by rw [List.length_append]; simp only [List.length_append, List.length_cons, List.length_nil] at hj2 hbb ⊢; omega
            have HST := hid (show ([117, 110, 100] : Str) ++ jt (t.vars.take n) ++ [45] ++ x = ([117, 110, 100] : Str) ++ jt (t.vars.take (n + 1)) by rw [hst, jt_snoc]; simp)
            clear hst hx hj1 hj2 hbb hc1 hne
            generalize ([117, 110, 100] : Str) ++ jt (t.vars.take n) = out at *
            go_wp2_with fail
            go_roundg (gk - 1)
            case measure => have := HG.out; omega
            case rel => exact ⟨n + 1, by omega, by have := HG.out; omega, by simp, by rw [← HST.out]; show Value.string ((⟨out.toArray⟩ ++ ⟨([45] : Str).toArray⟩) ++ ⟨x.toArray⟩) = _; rw [str_cat, str_cat], rfl⟩
          · have hfin : ([117, 110, 100] : Str) ++ jt (t.vars.take n) = printB t := by
              rw [List.take_of_length_le (by omega)]
              unfold printB
              rw [jt_append, ← List.append_assoc, HBASE.out]
            have HF := hid hfin
            rw [hfin]
            clear hfin
            go_wp2_with fail
            refine wp_loop_rounds 1 ?_
            rw [rounds_succ]
            go_wp2_with fail
            go_ret
            exact ⟨by first | rfl | (rw [HF.out]; rfl) | (simp [HF.out]; done), HB0.out⟩
      · have p2 : (t.region == []) = false := by rw [beq_eq_false_iff_ne]; exact h2
        have p2' : (t.region != []) = true := by rw [bne_iff_ne]; exact h2
        have HBASE : Hid (headPart t.lang ++ jt (opt t.script ++ opt t.region) = ([117, 110, 100] : Str) ++ [45] ++ t.region) := by
          show _ = _
          unfold headPart opt
          rw [if_pos h0, if_pos h1, if_neg h2]
          simp [jt_nil, jt_cons, tUnd]
        clear h0 h1 h2
        go_enter Tryz.func131, Tryz.ntmps131
        go_wp2_with fail
        generalize hW : w.alloc (.cells #[.string ⟨t.lang.toArray⟩, .string ⟨t.script.toArray⟩, .string ⟨t.region.toArray⟩, .slice av t.vars.length cv, .slice none 0 0] 108) = W0 at *
        clear hW
        obtain ⟨_, _, _, c3, c4⟩ := box_cells HXA.out
        go_loopg [3, 4] t.vars.length (fun g vo vi W => ∃ n : Nat, n ≤ t.vars.length ∧ t.vars.length ≤ n + g ∧ vi = .int .i64 n ∧ vo = .string ⟨(([117, 110, 100] : Str) ++ [45] ++ t.region ++ jt (t.vars.take n)).toArray⟩ ∧ W = W0)
        case atStart => exact ⟨0, Nat.zero_le _, by omega, rfl, by rw [List.take_zero, jt_nil, List.append_nil]; (repeat rw [← str_cat]); (try rfl), rfl⟩
        case round =>
          obtain ⟨n, hn, hg, rfl, rfl, rfl⟩ := hrel
          have HG := hid hg
          clear hg
          by_cases hlt : n < t.vars.length
          · have hne : t.vars ≠ [] := by intro e; rw [e] at hlt; simp at hlt
            obtain ⟨p1, o1, rfl, hp1, hc1⟩ := HSA.out hne
            have q1 := (HB0.out.cell (p := ⟨p1, o1 + n, none⟩) hp1).trans (hc1 n _ (List.getElem?_eq_getElem hlt))
            have hst := take_stepS t.vars n hlt
            obtain ⟨x, hx⟩ : ∃ x, x = t.vars[n] := ⟨_, rfl⟩
            rw [← hx, S] at q1
            rw [← hx] at hst
            have hj1 := jt_take_len t.vars (n + 1)
            have hj2 := hj1
            rw [hst, jt_snoc] at hj2
            have hbb : (([117, 110, 100] : Str) ++ [45] ++ t.region).length + (jt t.vars).length ≤ 1000 := by
              have h := hb
              unfold printB at h
              rw [jt_append, ← List.append_assoc, HBASE.out, List.length_append] at h
              exact h
            have hl1 : (([117, 110, 100] : Str) ++ [45] ++ t.region ++ jt (t.vars.take n)).length + 1 + x.length ≤ 1000 := by rw [List.length_append]; simp only [List.length_append, List.length_cons, List.length_nil] at hj2 hbb ⊢; omega
            have HST := hid (show ([117, 110, 100] : Str) ++ [45] ++ t.region ++ jt (t.vars.take n) ++ [45] ++ x = ([117, 110, 100] : Str) ++ [45] ++ t.region ++ jt (t.vars.take (n + 1)) by rw [hst, jt_snoc]; simp)
            clear hst hx hj1 hj2 hbb hc1 hne
            generalize ([117, 110, 100] : Str) ++ [45] ++ t.region ++ jt (t.vars.take n) = out at *
            go_wp2_with fail
            go_roundg (gk - 1)
            case measure => have := HG.out; omega
            case rel => exact ⟨n + 1, by omega, by have := HG.out; omega, by simp, by rw [← HST.out]; show Value.string ((⟨out.toArray⟩ ++ ⟨([45] : Str).toArray⟩) ++ ⟨x.toArray⟩) = _; rw [str_cat, str_cat], rfl⟩
          · have hfin : ([117, 110, 100] : Str) ++ [45] ++ t.region ++ jt (t.vars.take n) = printB t := by
              rw [List.take_of_length_le (by omega)]
              unfold printB
              rw [jt_append, ← List.append_assoc, HBASE.out]
            have HF := hid hfin
            rw [hfin]
            clear hfin
            go_wp2_with fail
            refine wp_loop_rounds 1 ?_
            rw [rounds_succ]
            go_wp2_with fail
            go_ret
            exact ⟨by first | rfl | (rw [HF.out]; rfl) | (simp [HF.out]; done), HB0.out⟩
    · have p1 : (t.script == []) = false := by rw [beq_eq_false_iff_ne]; exact h1
      have p1' : (t.script != []) = true := by rw [bne_iff_ne]; exact h1
      by_cases h2 : t.region = []
      · have p2 : (t.region == []) = true := by rw [h2]; rfl
        have p2' : (t.region != []) = false := by rw [h2]; rfl
        have HBASE : Hid (headPart t.lang ++ jt (opt t.script ++ opt t.region) = ([117, 110, 100] : Str) ++ [45] ++ t.script) := by
          show _ = _
          unfold headPart opt
          rw [if_pos h0, if_neg h1, if_pos h2]
          simp [jt_nil, jt_cons, tUnd]
        clear h0 h1 h2
        go_enter Tryz.func131, Tryz.ntmps131
        go_wp2_with fail
        generalize hW : w.alloc (.cells #[.string ⟨t.lang.toArray⟩, .string ⟨t.script.toArray⟩, .string ⟨t.region.toArray⟩, .slice av t.vars.length cv, .slice none 0 0] 108) = W0 at *
        clear hW
        obtain ⟨_, _, _, c3, c4⟩ := box_cells HXA.out
        go_loopg [3, 4] t.vars.length (fun g vo vi W => ∃ n : Nat, n ≤ t.vars.length ∧ t.vars.length ≤ n + g ∧ vi = .int .i64 n ∧ vo = .string ⟨(([117, 110, 100] : Str) ++ [45] ++ t.script ++ jt (t.vars.take n)).toArray⟩ ∧ W = W0)
        case atStart => exact ⟨0, Nat.zero_le _, by omega, rfl, by rw [List.take_zero, jt_nil, List.append_nil]; (repeat rw [← str_cat]); (try rfl), rfl⟩
        case round =>
          obtain ⟨n, hn, hg, rfl, rfl, rfl⟩ := hrel
          have HG := hid hg
          clear hg
          by_cases hlt : n < t.vars.length
          · have hne : t.vars ≠ [] := by intro e; rw [e] at hlt; simp at hlt
            obtain ⟨p1, o1, rfl, hp1, hc1⟩ := HSA.out hne
            have q1 := (HB0.out.cell (p := ⟨p1, o1 + n, none⟩) hp1).trans (hc1 n _ (List.getElem?_eq_getElem hlt))
            have hst := take_stepS t.vars n hlt
            obtain ⟨x, hx⟩ : ∃ x, x = t.vars[n] := ⟨_, rfl⟩
            rw [← hx, S] at q1
            rw [← hx] at hst
            have hj1 := jt_take_len t.vars (n + 1)
            have hj2 := hj1
            rw [hst, jt_snoc] at hj2
            have hbb : (([117, 110, 100] : Str) ++ [45] ++ t.script).length + (jt t.vars).length ≤ 1000 := by
              have h := hb
              unfold printB at h
              rw [jt_append, ← List.append_assoc, HBASE.out, List.length_append] at h
              exact h
            have hl1 : (([117, 110, 100] : Str) ++ [45] ++ t.script ++ jt (t.vars.take n)).length + 1 + x.length ≤ 1000 := by rw [List.length_append]; simp only [List.length_append, List.length_cons, List.length_nil] at hj2 hbb ⊢; omega
            have HST := hid (show ([117, 110, 100] : Str) ++ [45] ++ t.script ++ jt (t.vars.take n) ++ [45] ++ x = ([117, 110, 100] : Str) ++ [45] ++ t.script ++ jt (t.vars.take (n + 1)) by rw [hst, jt_snoc]; simp)
            clear hst hx hj1 hj2 hbb hc1 hne
            generalize ([117, 110, 100] : Str) ++ [45] ++ t.script ++ jt (t.vars.take n) = out at *
            go_wp2_with fail
            go_roundg (gk - 1)
            case measure => have := HG.out; omega
            case rel => exact ⟨n + 1, by omega, by have := HG.out; omega, by simp, by rw [← HST.out]; show Value.string ((⟨out.toArray⟩ ++ ⟨([45] : Str).toArray⟩) ++ ⟨x.toArray⟩) = _; rw [str_cat, str_cat], rfl⟩
          · have hfin : ([117, 110, 100] : Str) ++ [45] ++ t.script ++ jt (t.vars.take n) = printB t := by
              rw [List.take_of_length_le (by omega)]
              unfold printB
              rw [jt_append, ← List.append_assoc, HBASE.out]
            have HF := hid hfin
            rw [hfin]
            clear hfin
            go_wp2_with fail
            refine wp_loop_rounds 1 ?_
            rw [rounds_succ]
            go_wp2_with fail
            go_ret
            exact ⟨by first | rfl | (rw [HF.out]; rfl) | (simp [HF.out]; done), HB0.out⟩
      · have p2 : (t.region == []) = false := by rw [beq_eq_false_iff_ne]; exact h2
        have p2' : (t.region != []) = true := by rw [bne_iff_ne]; exact h2
        have HBASE : Hid (headPart t.lang ++ jt (opt t.script ++ opt t.region) = ([117, 110, 100] : Str) ++ [45] ++ t.script ++ [45] ++ t.region) := by
          show _ = _
          unfold headPart opt
          rw [if_pos h0, if_neg h1, if_neg h2]
          simp [jt_nil, jt_cons, tUnd]
        clear h0 h1 h2
        go_enter Tryz.func131, Tryz.ntmps131
        go_wp2_with fail
        generalize hW : w.alloc (.cells #[.string ⟨t.lang.toArray⟩, .string ⟨t.script.toArray⟩, .string ⟨t.region.toArray⟩, .slice av t.vars.length cv, .slice none 0 0] 108) = W0 at *
        clear hW
        obtain ⟨_, _, _, c3, c4⟩ := box_cells HXA.out
        go_loopg [3, 4] t.vars.length (fun g vo vi W => ∃ n : Nat, n ≤ t.vars.length ∧ t.vars.length ≤ n + g ∧ vi = .int .i64 n ∧ vo = .string ⟨(([117, 110, 100] : Str) ++ [45] ++ t.script ++ [45] ++ t.region ++ jt (t.vars.take n)).toArray⟩ ∧ W = W0)
        case atStart => exact ⟨0, Nat.zero_le _, by omega, rfl, by rw [List.take_zero, jt_nil, List.append_nil]; (repeat rw [← str_cat]); (try rfl), rfl⟩
        case round =>
          obtain ⟨n, hn, hg, rfl, rfl, rfl⟩ := hrel
          have HG := hid hg
          clear hg
          by_cases hlt : n < t.vars.length
          · have hne : t.vars ≠ [] := by intro e; rw [e] at hlt; simp at hlt
            obtain ⟨p1, o1, rfl, hp1, hc1⟩ := HSA.out hne
            have q1 := (HB0.out.cell (p := ⟨p1, o1 + n, none⟩) hp1).trans (hc1 n _ (List.getElem?_eq_getElem hlt))
            have hst := take_stepS t.vars n hlt
            obtain ⟨x, hx⟩ : ∃ x, x = t.vars[n] := ⟨_, rfl⟩
            rw [← hx, S] at q1
            rw [← hx] at hst
            have hj1 := jt_take_len t.vars (n + 1)
            have hj2 := hj1
            rw [hst, jt_snoc] at hj2
            have hbb : (([117, 110, 100] : Str) ++ [45] ++ t.script ++ [45] ++ t.region).length + (jt t.vars).length ≤ 1000 := by
              have h := hb
              unfold printB at h
              rw [jt_append, ← List.append_assoc, HBASE.out, List.length_append] at h
              exact h
            have hl1 : (([117, 110, 100] : Str) ++ [45] ++ t.script ++ [45] ++ t.region ++ jt (t.vars.take n)).length + 1 + x.length ≤ 1000 := by rw [List.length_append]; simp only [List.length_append, List.length_cons, List.length_nil] at hj2 hbb ⊢; omega
            have HST := hid (show ([117, 110, 100] : Str) ++ [45] ++ t.script ++ [45] ++ t.region ++ jt (t.vars.take n) ++ [45] ++ x = ([117, 110, 100] : Str) ++ [45] ++ t.script ++ [45] ++ t.region ++ jt (t.vars.take (n + 1)) by rw [hst, jt_snoc]; simp)
            clear hst hx hj1 hj2 hbb hc1 hne
            generalize ([117, 110, 100] : Str) ++ [45] ++ t.script ++ [45] ++ t.region ++ jt (t.vars.take n) = out at *
            go_wp2_with fail
            go_roundg (gk - 1)
            case measure => have := HG.out; omega
            case rel => exact ⟨n + 1, by omega, by have := HG.out; omega, by simp, by rw [← HST.out]; show Value.string ((⟨out.toArray⟩ ++ ⟨([45] : Str).toArray⟩) ++ ⟨x.toArray⟩) = _; rw [str_cat, str_cat], rfl⟩
          · have hfin : ([117, 110, 100] : Str) ++ [45] ++ t.script ++ [45] ++ t.region ++ jt (t.vars.take n) = printB t := by
              rw [List.take_of_length_le (by omega)]
              unfold printB
              rw [jt_append, ← List.append_assoc, HBASE.out]
            have HF := hid hfin
            rw [hfin]
            clear hfin
            go_wp2_with fail
            refine wp_loop_rounds 1 ?_
            rw [rounds_succ]
            go_wp2_with fail
            go_ret
            exact ⟨by first | rfl | (rw [HF.out]; rfl) | (simp [HF.out]; done), HB0.out⟩
  · have p0 : (t.lang == []) = false := by rw [beq_eq_false_iff_ne]; exact h0
    have p0' : (t.lang != []) = true := by rw [bne_iff_ne]; exact h0
    by_cases h1 : t.script = []
    · have p1 : (t.script == []) = true := by rw [h1]; rfl
      have p1' : (t.script != []) = false := by rw [h1]; rfl
      by_cases h2 : t.region = []
      · have p2 : (t.region == []) = true := by rw [h2]; rfl
        have p2' : (t.region != []) = false := by rw [h2]; rfl
        have HBASE : Hid (headPart t.lang ++ jt (opt t.script ++ opt t.region) = t.lang) := by
          show _ = _
          unfold headPart opt
          rw [if_neg h0, if_pos h1, if_pos h2]
          simp [jt_nil, jt_cons, tUnd]
        clear h0 h1 h2
        go_enter Tryz.func131, Tryz.ntmps131
        go_wp2_with fail
        generalize hW : w.alloc (.cells #[.string ⟨t.lang.toArray⟩, .string ⟨t.script.toArray⟩, .string ⟨t.region.toArray⟩, .slice av t.vars.length cv, .slice none 0 0] 108) = W0 at *
        clear hW
        obtain ⟨_, _, _, c3, c4⟩ := box_cells HXA.out
        go_loopg [3, 4] t.vars.length (fun g vo vi W => ∃ n : Nat, n ≤ t.vars.length ∧ t.vars.length ≤ n + g ∧ vi = .int .i64 n ∧ vo = .string ⟨(t.lang ++ jt (t.vars.take n)).toArray⟩ ∧ W = W0)
        case atStart => exact ⟨0, Nat.zero_le _, by omega, rfl, by rw [List.take_zero, jt_nil, List.append_nil]; (repeat rw [← str_cat]); (try rfl), rfl⟩
        case round =>
          obtain ⟨n, hn, hg, rfl, rfl, rfl⟩ := hrel
          have HG := hid hg
          clear hg
          by_cases hlt : n < t.vars.length
          · have hne : t.vars ≠ [] := by intro e; rw [e] at hlt; simp at hlt
            obtain ⟨p1, o1, rfl, hp1, hc1⟩ := HSA.out hne
            have q1 := (HB0.out.cell (p := ⟨p1, o1 + n, none⟩) hp1).trans (hc1 n _ (List.getElem?_eq_getElem hlt))
            have hst := take_stepS t.vars n hlt
            obtain ⟨x, hx⟩ : ∃ x, x = t.vars[n] := ⟨_, rfl⟩
            rw [← hx, S] at q1
            rw [← hx] at hst
            have hj1 := jt_take_len t.vars (n + 1)
            have hj2 := hj1
            rw [hst, jt_snoc] at hj2
            have hbb : (t.lang).length + (jt t.vars).length ≤ 1000 := by
              have h := hb
              unfold printB at h
              rw [jt_append, ← List.append_assoc, HBASE.out, List.length_append] at h
              exact h
            have hl1 : (t.lang ++ jt (t.vars.take n)).length + 1 + x.length ≤ 1000 := by rw [List.length_append]; simp only [List.length_append, List.length_cons, List.length_nil] at hj2 hbb ⊢; omega
            have HST := hid (show t.lang ++ jt (t.vars.take n) ++ [45] ++ x = t.lang ++ jt (t.vars.take (n + 1)) by rw [hst, jt_snoc]; simp)
            clear hst hx hj1 hj2 hbb hc1 hne
            generalize t.lang ++ jt (t.vars.take n) = out at *
            go_wp2_with fail
            go_roundg (gk - 1)
            case measure => have := HG.out; omega
            case rel => exact ⟨n + 1, by omega, by have := HG.out; omega, by simp, by rw [← HST.out]; show Value.string ((⟨out.toArray⟩ ++ ⟨([45] : Str).toArray⟩) ++ ⟨x.toArray⟩) = _; rw [str_cat, str_cat], rfl⟩
          · have hfin : t.lang ++ jt (t.vars.take n) = printB t := by
              rw [List.take_of_length_le (by omega)]
              unfold printB
              rw [jt_append, ← List.append_assoc, HBASE.out]
            have HF := hid hfin
            rw [hfin]
            clear hfin
            go_wp2_with fail
            refine wp_loop_rounds 1 ?_
            rw [rounds_succ]
            go_wp2_with fail
            go_ret
            exact ⟨by first | rfl | (rw [HF.out]; rfl) | (simp [HF.out]; done), HB0.out⟩
      · have p2 : (t.region == []) = false := by rw [beq_eq_false_iff_ne]; exact h2
        have p2' : (t.region != []) = true := by rw [bne_iff_ne]; exact h2
        have HBASE : Hid (headPart t.lang ++ jt (opt t.script ++ opt t.region) = t.lang ++ [45] ++ t.region) := by
          show _ = _
          unfold headPart opt
          rw [if_neg h0, if_pos h1, if_neg h2]
          simp [jt_nil, jt_cons, tUnd]
        clear h0 h1 h2
        go_enter Tryz.func131, Tryz.ntmps131
        go_wp2_with fail
        generalize hW : w.alloc (.cells #[.string ⟨t.lang.toArray⟩, .string ⟨t.script.toArray⟩, .string ⟨t.region.toArray⟩, .slice av t.vars.length cv, .slice none 0 0] 108) = W0 at *
        clear hW
        obtain ⟨_, _, _, c3, c4⟩ := box_cells HXA.out
        go_loopg [3, 4] t.vars.length (fun g vo vi W => ∃ n : Nat, n ≤ t.vars.length ∧ t.vars.length ≤ n + g ∧ vi = .int .i64 n ∧ vo = .string ⟨(t.lang ++ [45] ++ t.region ++ jt (t.vars.take n)).toArray⟩ ∧ W = W0)
        case atStart => exact ⟨0, Nat.zero_le _, by omega, rfl, by rw [List.take_zero, jt_nil, List.append_nil]; (repeat rw [← str_cat]); (try rfl), rfl⟩
        case round =>
          obtain ⟨n, hn, hg, rfl, rfl, rfl⟩ := hrel
          have HG := hid hg
          clear hg
          by_cases hlt : n < t.vars.length
          · have hne : t.vars ≠ [] := by intro e; rw [e] at hlt; simp at hlt
            obtain ⟨p1, o1, rfl, hp1, hc1⟩ := HSA.out hne
            have q1 := (HB0.out.cell (p := ⟨p1, o1 + n, none⟩) hp1).trans (hc1 n _ (List.getElem?_eq_getElem hlt))
            have hst := take_stepS t.vars n hlt
            obtain ⟨x, hx⟩ : ∃ x, x = t.vars[n] := ⟨_, rfl⟩
            rw [← hx, S] at q1
            rw [← hx] at hst
            have hj1 := jt_take_len t.vars (n + 1)
            have hj2 := hj1
            rw [hst, jt_snoc] at hj2
            have hbb : (t.lang ++ [45] ++ t.region).length + (jt t.vars).length ≤ 1000 := by
              have h := hb
              unfold printB at h
              rw [jt_append, ← List.append_assoc, HBASE.out, List.length_append] at h
              exact h
            have hl1 : (t.lang ++ [45] ++ t.region ++ jt (t.vars.take n)).length + 1 + x.length ≤ 1000 := by rw [List.length_append]; simp only [List.length_append, List.length_cons, List.length_nil] at hj2 hbb ⊢; omega
            have HST := hid (show t.lang ++ [45] ++ t.region ++ jt (t.vars.take n) ++ [45] ++ x = t.lang ++ [45] ++ t.region ++ jt (t.vars.take (n + 1)) by rw [hst, jt_snoc]; simp)
            clear hst hx hj1 hj2 hbb hc1 hne
            generalize t.lang ++ [45] ++ t.region ++ jt (t.vars.take n) = out at *
            go_wp2_with fail
            go_roundg (gk - 1)
            case measure => have := HG.out; omega
            case rel => exact ⟨n + 1, by omega, by have := HG.out; omega, by simp, by rw [← HST.out]; show Value.string ((⟨out.toArray⟩ ++ ⟨([45] : Str).toArray⟩) ++ ⟨x.toArray⟩) = _; rw [str_cat, str_cat], rfl⟩
          · have hfin : t.lang ++ [45] ++ t.region ++ jt (t.vars.take n) = printB t := by
              rw [List.take_of_length_le (by omega)]
              unfold printB
              rw [jt_append, ← List.append_assoc, HBASE.out]
            have HF := hid hfin
            rw [hfin]
            clear hfin
            go_wp2_with fail
            refine wp_loop_rounds 1 ?_
            rw [rounds_succ]
            go_wp2_with fail
            go_ret
            exact ⟨by first | rfl | (rw [HF.out]; rfl) | (simp [HF.out]; done), HB0.out⟩
    · have p1 : (t.script == []) = false := by rw [beq_eq_false_iff_ne]; exact h1
      have p1' : (t.script != []) = true := by rw [bne_iff_ne]; exact h1
      by_cases h2 : t.region = []
      · have p2 : (t.region == []) = true := by rw [h2]; rfl
        have p2' : (t.region != []) = false := by rw [h2]; rfl
        have HBASE : Hid (headPart t.lang ++ jt (opt t.script ++ opt t.region) = t.lang ++ [45] ++ t.script) := by
          show _ = _
          unfold headPart opt
          rw [if_neg h0, if_neg h1, if_pos h2]
          simp [jt_nil, jt_cons, tUnd]
        clear h0 h1 h2
        go_enter Tryz.func131, Tryz.ntmps131
        go_wp2_with fail
        generalize hW : w.alloc (.cells #[.string ⟨t.lang.toArray⟩, .string ⟨t.script.toArray⟩, .string ⟨t.region.toArray⟩, .slice av t.vars.length cv, .slice none 0 0] 108) = W0 at *
        clear hW
        obtain ⟨_, _, _, c3, c4⟩ := box_cells HXA.out
        go_loopg [3, 4] t.vars.length (fun g vo vi W => ∃ n : Nat, n ≤ t.vars.length ∧ t.vars.length ≤ n + g ∧ vi = .int .i64 n ∧ vo = .string ⟨(t.lang ++ [45] ++ t.script ++ jt (t.vars.take n)).toArray⟩ ∧ W = W0)
        case atStart => exact ⟨0, Nat.zero_le _, by omega, rfl, by rw [List.take_zero, jt_nil, List.append_nil]; (repeat rw [← str_cat]); (try rfl), rfl⟩
        case round =>
          obtain ⟨n, hn, hg, rfl, rfl, rfl⟩ := hrel
          have HG := hid hg
          clear hg
          by_cases hlt : n < t.vars.length
          · have hne : t.vars ≠ [] := by intro e; rw [e] at hlt; simp at hlt
            obtain ⟨p1, o1, rfl, hp1, hc1⟩ := HSA.out hne
            have q1 := (HB0.out.cell (p := ⟨p1, o1 + n, none⟩) hp1).trans (hc1 n _ (List.getElem?_eq_getElem hlt))
            have hst := take_stepS t.vars n hlt
            obtain ⟨x, hx⟩ : ∃ x, x = t.vars[n] := ⟨_, rfl⟩
            rw [← hx, S] at q1
            rw [← hx] at hst
            have hj1 := jt_take_len t.vars (n + 1)
            have hj2 := hj1
            rw [hst, jt_snoc] at hj2
            have hbb : (t.lang ++ [45] ++ t.script).length + (jt t.vars).length ≤ 1000 := by
              have h := hb
              unfold printB at h
              rw [jt_append, ← List.append_assoc, HBASE.out, List.length_append] at h
              exact h
            have hl1 : (t.lang ++ [45] ++ t.script ++ jt (t.vars.take n)).length + 1 + x.length ≤ 1000 := by rw [List.length_append]; simp only [List.length_append, List.length_cons, List.length_nil] at hj2 hbb ⊢; omega
            have HST := hid (show t.lang ++ [45] ++ t.script ++ jt (t.vars.take n) ++ [45] ++ x = t.lang ++ [45] ++ t.script ++ jt (t.vars.take (n + 1)) by rw [hst, jt_snoc]; simp)
            clear hst hx hj1 hj2 hbb hc1 hne
            generalize t.lang ++ [45] ++ t.script ++ jt (t.vars.take n) = out at *
            go_wp2_with fail
            go_roundg (gk - 1)
            case measure => have := HG.out; omega
            case rel => exact ⟨n + 1, by omega, by have := HG.out; omega, by simp, by rw [← HST.out]; show Value.string ((⟨out.toArray⟩ ++ ⟨([45] : Str).toArray⟩) ++ ⟨x.toArray⟩) = _; rw [str_cat, str_cat], rfl⟩
          · have hfin : t.lang ++ [45] ++ t.script ++ jt (t.vars.take n) = printB t := by
              rw [List.take_of_length_le (by omega)]
              unfold printB
              rw [jt_append, ← List.append_assoc, HBASE.out]
            have HF := hid hfin
            rw [hfin]
            clear hfin
            go_wp2_with fail
            refine wp_loop_rounds 1 ?_
            rw [rounds_succ]
            go_wp2_with fail
            go_ret
            exact ⟨by first | rfl | (rw [HF.out]; rfl) | (simp [HF.out]; done), HB0.out⟩
      · have p2 : (t.region == []) = false := by rw [beq_eq_false_iff_ne]; exact h2
        have p2' : (t.region != []) = true := by rw [bne_iff_ne]; exact h2
        have HBASE : Hid (headPart t.lang ++ jt (opt t.script ++ opt t.region) = t.lang ++ [45] ++ t.script ++ [45] ++ t.region) := by
          show _ = _
          unfold headPart opt
          rw [if_neg h0, if_neg h1, if_neg h2]
          simp [jt_nil, jt_cons, tUnd]
        clear h0 h1 h2
        go_enter Tryz.func131, Tryz.ntmps131
        go_wp2_with fail
        generalize hW : w.alloc (.cells #[.string ⟨t.lang.toArray⟩, .string ⟨t.script.toArray⟩, .string ⟨t.region.toArray⟩, .slice av t.vars.length cv, .slice none 0 0] 108) = W0 at *
        clear hW
        obtain ⟨_, _, _, c3, c4⟩ := box_cells HXA.out
        go_loopg [3, 4] t.vars.length (fun g vo vi W => ∃ n : Nat, n ≤ t.vars.length ∧ t.vars.length ≤ n + g ∧ vi = .int .i64 n ∧ vo = .string ⟨(t.lang ++ [45] ++ t.script ++ [45] ++ t.region ++ jt (t.vars.take n)).toArray⟩ ∧ W = W0)
        case atStart => exact ⟨0, Nat.zero_le _, by omega, rfl, by rw [List.take_zero, jt_nil, List.append_nil]; (repeat rw [← str_cat]); (try rfl), rfl⟩
        case round =>
          obtain ⟨n, hn, hg, rfl, rfl, rfl⟩ := hrel
          have HG := hid hg
          clear hg
          by_cases hlt : n < t.vars.length
          · have hne : t.vars ≠ [] := by intro e; rw [e] at hlt; simp at hlt
            obtain ⟨p1, o1, rfl, hp1, hc1⟩ := HSA.out hne
            have q1 := (HB0.out.cell (p := ⟨p1, o1 + n, none⟩) hp1).trans (hc1 n _ (List.getElem?_eq_getElem hlt))
            have hst := take_stepS t.vars n hlt
            obtain ⟨x, hx⟩ : ∃ x, x = t.vars[n] := ⟨_, rfl⟩
            rw [← hx, S] at q1
            rw [← hx] at hst
            have hj1 := jt_take_len t.vars (n + 1)
            have hj2 := hj1
            rw [hst, jt_snoc] at hj2
            have hbb : (t.lang ++ [45] ++ t.script ++ [45] ++ t.region).length + (jt t.vars).length ≤ 1000 := by
              have h := hb
              unfold printB at h
              rw [jt_append, ← List.append_assoc, HBASE.out, List.length_append] at h
              exact h
            have hl1 : (t.lang ++ [45] ++ t.script ++ [45] ++ t.region ++ jt (t.vars.take n)).length + 1 + x.length ≤ 1000 := by rw [List.length_append]; simp only [List.length_append, List.length_cons, List.length_nil] at hj2 hbb ⊢; omega
            have HST := hid (show t.lang ++ [45] ++ t.script ++ [45] ++ t.region ++ jt (t.vars.take n) ++ [45] ++ x = t.lang ++ [45] ++ t.script ++ [45] ++ t.region ++ jt (t.vars.take (n + 1)) by rw [hst, jt_snoc]; simp)
            clear hst hx hj1 hj2 hbb hc1 hne
            generalize t.lang ++ [45] ++ t.script ++ [45] ++ t.region ++ jt (t.vars.take n) = out at *
            go_wp2_with fail
            go_roundg (gk - 1)
            case measure => have := HG.out; omega
            case rel => exact ⟨n + 1, by omega, by have := HG.out; omega, by simp, by rw [← HST.out]; show Value.string ((⟨out.toArray⟩ ++ ⟨([45] : Str).toArray⟩) ++ ⟨x.toArray⟩) = _; rw [str_cat, str_cat], rfl⟩
          · have hfin : t.lang ++ [45] ++ t.script ++ [45] ++ t.region ++ jt (t.vars.take n) = printB t := by
              rw [List.take_of_length_le (by omega)]
              unfold printB
              rw [jt_append, ← List.append_assoc, HBASE.out]
            have HF := hid hfin
            rw [hfin]
            clear hfin
            go_wp2_with fail
            refine wp_loop_rounds 1 ?_
            rw [rounds_succ]
            go_wp2_with fail
            go_ret
            exact ⟨by first | rfl | (rw [HF.out]; rfl) | (simp [HF.out]; done), HB0.out⟩
end Go.Proofs.YtjlfchnnhglbjaaGreat
