/- Several texts in one: RtRight, RtCopy, RtFind, RtAdd, RtRem, LkSz, Spoil. (joined by wip/merge.py) -/
import Derived.Test.YtlmgmifaknlolaaGreatND
import Derived.Test.YtlmgmifaknlolaaGreatRefParse
import Derived.Test.YtlmgmifaknlolaaGreatRefEq
import Derived.Test.YtlmgmifaknlolaaGreatRefSame
import Derived.Test.YtlmgmifaknlolaaGreatNC
import Derived.Deep.LoopGhost
import Derived.BigQuiet
import Derived.Deep.CutBlock

/- The contract of the reference's Right. -/
set_option linter.unusedVariables false
set_option linter.unusedSimpArgs false
namespace Go.Proofs.YtlmgmifaknlolaaGreat
open Go.RowKit Go.Lib Go.Sort

theorem right_no {t : Tg} {x : Str} (h : x ∈ t.vars) (hx : x = []) : rightF t = false := by
  unfold rightF
  rw [decide_eq_false (fun e => e x h hx)]; rfl
theorem right_yes {t : Tg} (h : ∀ v ∈ t.vars, v ≠ []) : rightF t = ((parseF (printR t)).err == 0 && sameB (parseF (printR t)).tag t) := by
  unfold rightF
  rw [decide_eq_true h]; rfl

set_option maxRecDepth 100000 in
set_option maxHeartbeats 8000000 in
theorem rright_any (w : World) (v : Value) (t : Tg) (hT : RdT w v t) (hb : (printR t).length ≤ 1000000000) :
    Calls Tryz.prog 19 #[v] w fun e w' => e = .returned (.bool (rightF t)) ∧ Below w.heap.size w w' := by
  have PR := hid (fun W (h : Below w.heap.size w W) => rprintK_any W v t (hT.below h) hb)
  have PA := hid (fun W => rparse_any ⟨(printR t).toArray⟩ W (by rw [Lib.size_eq]; exact Nat.le_trans hb (by decide)))
  rw [show (⟨(printR t).toArray⟩ : ByteArray).data.toList = printR t from rfl, ref_eq] at PA
  have SM := hid (fun W va a (ha : RdT W va a) (h : Below w.heap.size w W) => rsame_any W va v a t ha (hT.below h))
  obtain ⟨vv, kv, rfl, hS, hP⟩ := hT
  obtain ⟨av, cv, rfl, hav, hsa⟩ := hS
  obtain ⟨ak, ck, rfl, _, _⟩ := hP
  have HSA := hid hsa
  have HB0 := hid ((Below.refl w.heap.size w).alloc (Nat.le_refl _) (.cells #[.string ⟨t.lang.toArray⟩, .string ⟨t.script.toArray⟩, .string ⟨t.region.toArray⟩, .slice av t.vars.length cv, .slice ak t.keys.length ck] 25))
  have HX0 := hid (heap_alloc_new w (.cells #[.string ⟨t.lang.toArray⟩, .string ⟨t.script.toArray⟩, .string ⟨t.region.toArray⟩, .slice av t.vars.length cv, .slice ak t.keys.length ck] 25))
  clear hsa
  simp only [tagCells, S] at PR SM ⊢
  go_enter Tryz.func19, Tryz.ntmps19
  go_upto_region 1 with fail
  generalize w.alloc (.cells #[.string ⟨t.lang.toArray⟩, .string ⟨t.script.toArray⟩, .string ⟨t.region.toArray⟩, .slice av t.vars.length cv, .slice ak t.keys.length ck] 25) = w0 at *
  obtain ⟨c0, c1, c2, c3, c4⟩ := box_cells HX0.out
  have lt0 := lt_of_block HX0.out
  go_wp2_with fail
  go_loopg [3] t.vars.length (fun g vi W => ∃ n : Nat, n ≤ t.vars.length ∧ t.vars.length ≤ n + g ∧ vi = .int .i64 n ∧ w0 = W ∧ ∀ x ∈ t.vars.take n, x ≠ [])
  case atStart => exact ⟨0, Nat.zero_le _, by omega, rfl, rfl, by simp⟩
  case round =>
    obtain ⟨n, hn, hg, rfl, rfl, hno⟩ := hrel
    have HG := hid hg
    have HNO := hid hno
    clear hg hno
    by_cases hlt : n < t.vars.length
    · have hne : t.vars ≠ [] := by intro e; rw [e] at hlt; simp at hlt
      obtain ⟨p1, o1, rfl, hp1, hc1⟩ := HSA.out hne
      have q1 := (HB0.out.cell (p := ⟨p1, o1 + n, none⟩) hp1).trans (hc1 n _ (List.getElem?_eq_getElem hlt))
      obtain ⟨x, hx⟩ : ∃ x, x = t.vars[n] := ⟨_, rfl⟩
      rw [← hx, S] at q1
      have HM := hid (show x ∈ t.vars by rw [hx]; exact List.getElem_mem hlt)
      have HST := hid (show t.vars.take (n + 1) = t.vars.take n ++ [x] by rw [List.take_add_one, List.getElem?_eq_getElem hlt, hx]; rfl)
      have hni : (n : Int) < (t.vars.length : Int) := by omega
      have hn0 : (0 : Int) ≤ (n : Int) := by omega
      by_cases h0 : x = []
      · have p0 : List.isEmpty x = true := by rw [h0]; rfl
        have HR := hid (right_no HM.out h0)
        clear h0 hx hc1 hne
        go_wp2_with fail
        all_goals first | (rename_i hx; rw [p0] at hx; exact absurd hx (by decide)) | skip
        go_ret
        exact ⟨by rw [HR.out]; rfl, HB0.out⟩
      · have p0 : List.isEmpty x = false := isEmpty_no h0
        have HX := hid h0
        clear h0 hx hc1 hne
        go_wp2_with fail
        all_goals first | (rename_i hx; rw [p0] at hx; exact absurd hx (by decide)) | skip
        go_roundg (gk - 1)
        case measure => have := HG.out; omega
        case rel => exact ⟨n + 1, by omega, by have := HG.out; omega, by simp, rfl, fun y hy => by
          rw [HST.out] at hy
          rcases List.mem_append.1 hy with hy | hy
          · exact HNO.out y hy
          · rw [List.mem_singleton.1 hy]; exact HX.out⟩
    · have hnl : n = t.vars.length := by omega
      subst hnl
      have HR := hid (right_yes (t := t) (fun y hy => HNO.out y (by rw [List.take_length]; exact hy)))
      clear HNO hlt
      go_wp2_with fail
      with_reducible refine (PR.out _ HB0.out).mono ?_
      rintro e w1 ⟨rfl, hb1⟩
      have HB1 := hid (HB0.out.then hb1)
      have HX1 := hid ((hb1.block _ (lt_of_block HX0.out)).trans HX0.out)
      clear hb1 HB0 HX0 c0 c1 c2 c3 c4 lt0 PR
      go_wp2_with fail
      with_reducible refine (PA.out _).mono ?_
      rintro e w2 ⟨vv, kv, rfl, ⟨o1, _⟩, o2, hb2⟩
      have HB2 := hid (HB1.out.then hb2)
      have HX2 := hid ((hb2.block _ (lt_of_block HX1.out)).trans HX1.out)
      generalize parseF (printR t) = x at *
      have HRD2 := hid (show RdT w2 (.agg (tagCells x.tag vv kv)) x.tag from ⟨vv, kv, rfl, o1, o2⟩)
      obtain ⟨ap, cp, rfl, _, _⟩ := o1
      obtain ⟨aq, cq, rfl, _, _⟩ := o2
      simp only [tagCells, S] at HRD2 ⊢
      clear hb2 HB1 HX1 PA
      go_upto_region 7 with fail
      have hb3 := below2 w2 (.cells #[.string ⟨x.tag.lang.toArray⟩, .string ⟨x.tag.script.toArray⟩, .string ⟨x.tag.region.toArray⟩, .slice ap x.tag.vars.length cp, .slice aq x.tag.keys.length cq] 25) (.cells #[.int .i64 (x.err : Int), .int .i64 (x.pos : Int)] 62)
      have HT3 := hid (heap_alloc2_old w2 (.cells #[.string ⟨x.tag.lang.toArray⟩, .string ⟨x.tag.script.toArray⟩, .string ⟨x.tag.region.toArray⟩, .slice ap x.tag.vars.length cp, .slice aq x.tag.keys.length cq] 25) (.cells #[.int .i64 (x.err : Int), .int .i64 (x.pos : Int)] 62))
      have HS3 := hid (heap_alloc2_new w2 (.cells #[.string ⟨x.tag.lang.toArray⟩, .string ⟨x.tag.script.toArray⟩, .string ⟨x.tag.region.toArray⟩, .slice ap x.tag.vars.length cp, .slice aq x.tag.keys.length cq] 25) (.cells #[.int .i64 (x.err : Int), .int .i64 (x.pos : Int)] 62))
      generalize (w2.alloc (.cells #[.string ⟨x.tag.lang.toArray⟩, .string ⟨x.tag.script.toArray⟩, .string ⟨x.tag.region.toArray⟩, .slice ap x.tag.vars.length cp, .slice aq x.tag.keys.length cq] 25)).alloc (.cells #[.int .i64 (x.err : Int), .int .i64 (x.pos : Int)] 62) = w3 at *
      have HB3 := hid (HB2.out.then hb3)
      have HX3 := hid ((hb3.block _ (lt_of_block HX2.out)).trans HX2.out)
      have HRD3 := hid (HRD2.out.below hb3)
      clear hb3 HB2 HX2 HRD2
      obtain ⟨c0, c1, c2, c3, c4⟩ := box_cells HX3.out
      obtain ⟨d0, d1, d2, d3, d4⟩ := box_cells HT3.out
      have lt0 := lt_of_block HX3.out
      have lt1 := lt_of_block HT3.out
      have lt2 := lt_of_block HS3.out
      have e0 : w3.cell? ⟨w2.heap.size + 1, 0, none⟩ = some (.int .i64 (x.err : Int)) := by rw [cell_of_row _ _ _ _ _ _ HS3.out]; rfl
      have SM3 := hid (SM.out w3 _ _ HRD3.out HB3.out)
      by_cases he : x.err = 0
      · rw [he] at e0
        have HE := hid (show (x.err == 0 && sameB x.tag t) = sameB x.tag t by rw [he]; rfl)
        clear he
        go_wp2_with fail
        with_reducible refine SM3.out.mono ?_
        rintro e w4 ⟨rfl, hb4⟩
        go_wp2_with fail
        go_ret
        exact ⟨by rw [HR.out, HE.out]; rfl, HB3.out.then hb4⟩
      · have heb : ((x.err : Int) == 0) = false := by rw [beq_eq_false_iff_ne]; omega
        have HE := hid (show (x.err == 0 && sameB x.tag t) = false by rw [show (x.err == 0) = false by rw [beq_eq_false_iff_ne]; exact he]; rfl)
        clear he
        go_wp2_with fail
        go_ret
        exact ⟨by rw [HR.out, HE.out]; rfl, HB3.out⟩
end Go.Proofs.YtlmgmifaknlolaaGreat

/- The contracts of the reference's Copy and of the law's spoil. -/
set_option linter.unusedVariables false
set_option linter.unusedSimpArgs false
namespace Go.Proofs.YtlmgmifaknlolaaGreat
open Go.RowKit Go.Lib Go.Sort

/-- pairs of a slice that can be read, at the end of a list that the call owns -/
theorem wpList_appP {w : World} {ops : Array Oper} {rest : List Oper} {o : Oper} {a : Act} {Q : Exit → Act → World → Prop} (hgd : o.guard = none) (s x : Operand)
    (ho : o.op = .call { callee := .builtin .append, args := #[s, x], argTypes := #[22, 22] })
    (B : Nat) (v vx : Value) (l m : List (Str × Str)) (hs : a.eval s = v) (hown : OwnP w B v l) (hx : a.eval x = vx) (hr : RdP w vx m) (hl : l.length + m.length ≤ 1000000000000) (hB : B ≤ w.heap.size)
    (h : ∀ v' w', OwnP w' B v' (l ++ m) → w.grownBy w' v.ownBlock → Moved w v v' → wpList Tryz.prog ops Q rest (a.put o.dst v') w') :
    wpList Tryz.prog ops Q (o :: rest) a w := by
  obtain ⟨i0, hi, hz0, hz1, hz2⟩ := info_parts infoP
  obtain ⟨ao, cp, rfl, hl1, hr1⟩ := hr
  cases ao with
  | none =>
    obtain ⟨rfl, rfl⟩ := hl1.2 rfl
    exact wpList_append_own_none hgd s x 22 ho B 42 i0 2 Tryz.underlying22 hi v l.length (flat2 l) hs hown hx (h v w (by rw [List.append_nil]; exact hown) (World.grownBy.refl _ _) (Or.inl rfl))
  | some ad =>
    refine wpList_app hgd s x 22 ho B 42 i0 (.agg #[.string ⟨#[]⟩, .string ⟨#[]⟩]) 2 32 Tryz.underlying22 hi hz0 hz1 hz2 rfl (by decide) v l.length (flat2 l) hs hown ad m.length cp (flat2 m) hx (flat2_len m) ?_ ?_ (by unfold maxLen; omega) (by omega) hB ?_
    · intro j u hu
      have hj := (List.getElem?_eq_some_iff.1 hu).1
      rw [flat2_len] at hj
      have hne : m ≠ [] := by rintro rfl; simp at hj
      obtain ⟨b, off, he, hlt, hc⟩ := hr1 hne
      obtain rfl : ad = ⟨b, off, none⟩ := Option.some.inj he
      have hjm : j / 2 < m.length := by omega
      have hdm : j / 2 * 2 + j % 2 = j := by omega
      have h2 := flat2_get m (j / 2) (j % 2) hjm (by omega)
      rw [hdm, hu] at h2
      have := hc (j / 2) (j % 2) u hjm h2.symm
      rw [show (⟨b, off, none⟩ : Addr).add j = ⟨b, off + j, none⟩ from by unfold Addr.add; split <;> simp_all]
      rw [show off + j / 2 * 2 + j % 2 = off + j by omega] at this
      exact this
    · intro u hu
      obtain ⟨x, _, hx⟩ := List.mem_flatMap.1 hu
      simp only [enc2, List.mem_cons, List.not_mem_nil, or_false] at hx
      rcases hx with rfl | rfl <;> rfl
    · intro v' w' own gr mv
      exact h v' w' (own_cast own (by simp) (by simp [flat2])) gr mv
/-- texts of a slice that can be read, at the end of a list that the call owns -/
theorem wpList_appS {w : World} {ops : Array Oper} {rest : List Oper} {o : Oper} {a : Act} {Q : Exit → Act → World → Prop} (hgd : o.guard = none) (s x : Operand)
    (ho : o.op = .call { callee := .builtin .append, args := #[s, x], argTypes := #[23, 23] })
    (B : Nat) (v vx : Value) (l m : List Str) (hs : a.eval s = v) (hown : OwnS w B v l) (hx : a.eval x = vx) (hr : RdS w vx m) (hl : l.length + m.length ≤ 1000000000000) (hB : B ≤ w.heap.size)
    (h : ∀ v' w', OwnS w' B v' (l ++ m) → w.grownBy w' v.ownBlock → Moved w v v' → wpList Tryz.prog ops Q rest (a.put o.dst v') w') :
    wpList Tryz.prog ops Q (o :: rest) a w := by
  obtain ⟨i0, hi, hz0, hz1, hz2⟩ := info_parts infoS
  obtain ⟨ao, cp, rfl, hl1, hr1⟩ := hr
  cases ao with
  | none =>
    obtain ⟨rfl, rfl⟩ := hl1.2 rfl
    exact wpList_append_own_none hgd s x 23 ho B 9 i0 1 Tryz.underlying23 hi v l.length (l.map S) hs hown hx (h v w (by rw [List.append_nil]; exact hown) (World.grownBy.refl _ _) (Or.inl rfl))
  | some ad =>
    refine wpList_app hgd s x 23 ho B 9 i0 (.string ⟨#[]⟩) 1 16 Tryz.underlying23 hi hz0 hz1 hz2 rfl (by decide) v l.length (l.map S) hs hown ad m.length cp (m.map S) hx (by simp) ?_ ?_ (by unfold maxLen; omega) (by omega) hB ?_
    · intro j u hu
      have hj := (List.getElem?_eq_some_iff.1 hu).1
      rw [List.length_map] at hj
      have hne : m ≠ [] := by rintro rfl; simp at hj
      obtain ⟨b, off, he, hlt, hc⟩ := hr1 hne
      obtain rfl : ad = ⟨b, off, none⟩ := Option.some.inj he
      rw [show (⟨b, off, none⟩ : Addr).add j = ⟨b, off + j, none⟩ from by unfold Addr.add; split <;> simp_all]
      rw [List.getElem?_map, List.getElem?_eq_getElem hj, Option.map_some] at hu
      rw [← Option.some.inj hu]
      exact hc j _ (List.getElem?_eq_getElem hj)
    · intro u hu
      obtain ⟨x, _, rfl⟩ := List.mem_map.1 hu
      rfl
    · intro v' w' own gr mv
      exact h v' w' (own_cast own (by simp) (by simp)) gr mv
theorem fresh_ownP0 (w : World) (l : List (Str × Str)) (B : Nat) (hB : B ≤ w.heap.size) (hl : l.length ≤ 1000) : OwnP (w.alloc (.cells (flat2 l).toArray 42)) B (.slice (some ⟨w.heap.size, 0, none⟩) l.length l.length) l :=
  ⟨by rw [flat2_len], Or.inr ⟨w.heap.size, l.length, _, rfl, hB, heap_alloc_new w _, Nat.le_refl _, by unfold maxLen; omega, by simp [flat2_len], List.take_of_length_le (by simp [flat2_len])⟩⟩

theorem copyW {w w0 w1 : World} {o : Obj} (hb : Below w.heap.size w (w0.alloc o)) (gr : (w0.alloc o).grownBy w1 (some w0.heap.size)) (lt : w.heap.size < w0.heap.size) (h : w.heap.size ≤ (w0.alloc o).heap.size) : Below w.heap.size w w1 :=
  hb.grown gr h (fun j hj => by cases hj; omega)
theorem copyK {w2 w4 : World} {o : Obj} {B : Nat} {v : Value} {l : List Str} (h3 : OwnS (w2.alloc o) B v l) (h2 : OwnS w2 B v l) (gr : (w2.alloc o).grownBy w4 (some w2.heap.size)) : OwnS w4 B v l :=
  World.ownsRow.kept h3 gr (Or.inr (fun e => by have h := (World.ownsRow.lt h2 _ e).2; omega))
theorem copyB {w0 w1 : World} {o : Obj} {R : Option Obj} {b : Nat} (gr : (w0.alloc o).grownBy w1 (some w0.heap.size)) (lt : b < w0.heap.size) (hx : (w0.alloc o).heap[b]? = R) : w1.heap[b]? = R :=
  (gr.block b (by simp; omega) (by simp; omega)).trans hx

set_option maxRecDepth 100000 in
set_option maxHeartbeats 8000000 in
theorem rcopy_any (w : World) (v : Value) (t : Tg) (hT : RdT w v t) (hv : t.vars.length ≤ 1000) (hk : t.keys.length ≤ 1000) :
    Calls Tryz.prog 14 #[v] w fun e w' => ∃ v', e = .returned v' ∧ OwnT w' w.heap.size v' t ∧ Below w.heap.size w w' := by
  obtain ⟨vv, kv, rfl, hS, hP⟩ := hT
  have HS := hid hS
  have HP := hid hP
  obtain ⟨av, cv, rfl, _, _⟩ := hS
  obtain ⟨ak, ck, rfl, _, _⟩ := hP
  simp only [tagCells, S]
  have HX0 := hid (heap_alloc2_old w (.cells #[.string ⟨t.lang.toArray⟩, .string ⟨t.script.toArray⟩, .string ⟨t.region.toArray⟩, .slice av t.vars.length cv, .slice ak t.keys.length ck] 25) (.cells #[.string ⟨#[]⟩, .string ⟨#[]⟩, .string ⟨#[]⟩, .slice none 0 0, .slice none 0 0] 25))
  have HZ0 := hid (heap_alloc2_new w (.cells #[.string ⟨t.lang.toArray⟩, .string ⟨t.script.toArray⟩, .string ⟨t.region.toArray⟩, .slice av t.vars.length cv, .slice ak t.keys.length ck] 25) (.cells #[.string ⟨#[]⟩, .string ⟨#[]⟩, .string ⟨#[]⟩, .slice none 0 0, .slice none 0 0] 25))
  have HB0 := hid (below2 w (.cells #[.string ⟨t.lang.toArray⟩, .string ⟨t.script.toArray⟩, .string ⟨t.region.toArray⟩, .slice av t.vars.length cv, .slice ak t.keys.length ck] 25) (.cells #[.string ⟨#[]⟩, .string ⟨#[]⟩, .string ⟨#[]⟩, .slice none 0 0, .slice none 0 0] 25))
  go_enter Tryz.func14, Tryz.ntmps14
  go_upto_region 1 with fail
  generalize ((w.alloc (.cells #[.string ⟨t.lang.toArray⟩, .string ⟨t.script.toArray⟩, .string ⟨t.region.toArray⟩, .slice av t.vars.length cv, .slice ak t.keys.length ck] 25)).alloc (.cells #[.string ⟨#[]⟩, .string ⟨#[]⟩, .string ⟨#[]⟩, .slice none 0 0, .slice none 0 0] 25)) = w0 at *
  have lt00 : w.heap.size + 1 < w0.heap.size := lt_of_block HZ0.out
  have LT0 := hid lt00
  have O1 := hid (show OwnS (w0.alloc (.cells #[] 9)) (w.heap.size + 2) (.slice (some ⟨w0.heap.size, 0, none⟩) 0 0) [] from fresh_own w0 [] (w.heap.size + 2) lt00 (by decide))
  have HB1 := hid (HB0.out.alloc (Nat.le_trans (by omega) lt00) (.cells #[] 9))
  have HX1 := hid ((heap_alloc_old w0 (.cells #[] 9) (by omega : w.heap.size < w0.heap.size)).trans HX0.out)
  have HZ1 := hid ((heap_alloc_old w0 (.cells #[] 9) (by omega : w.heap.size + 1 < w0.heap.size)).trans HZ0.out)
  have R1 := hid (HS.out.below HB1.out)
  have HV := hid (show ([] : List Str).length + t.vars.length ≤ 1000000000000 by simp; omega)
  have HK := hid (show ([] : List (Str × Str)).length + t.keys.length ≤ 1000000000000 by simp; omega)
  have LL1 := hid (show w.heap.size + 2 ≤ (w0.alloc (.cells #[] 9)).heap.size by simp; omega)
  have c3 : (w0.alloc (.cells #[] 9)).cell? ⟨w.heap.size, 3, none⟩ = some (.slice av t.vars.length cv) := by rw [cell_of_row _ _ _ _ _ _ HX1.out]; rfl
  have fx3 := frozen_of_row (w0.alloc (.cells #[] 9)) w.heap.size 3 _ _ HX1.out
  have lt0 : w.heap.size < w0.heap.size := by omega
  clear lt00 hv hk
  go_upto_region 2 with (at_builtin; refine wpList_appS rfl (.tmp 3) (.tmp 5) rfl (w.heap.size + 2) _ _ [] t.vars rfl O1.out rfl R1.out HV.out LL1.out ?_; intro v1 w1 own1 gr1 mv1; obtain ⟨a3, e3, rfl⟩ := own_sliceS own1; have hx1 := copyB gr1 lt0 HX1.out; have hz1 := copyB gr1 LT0.out HZ1.out; have d3 := (box_cells hx1).2.2.2.1; have fy3 := frozen_of_row w1 w.heap.size 3 _ _ hx1; have ltw := lt_of_block hx1; rw [List.nil_append] at own1 ⊢; have HX1b := hid hx1; have HZ1b := hid hz1; have OW1 := hid own1; have HW1 := hid (copyW HB1.out gr1 lt0 (Nat.le_trans (Nat.le_add_right _ 2) LL1.out)); have GR1 := hid (Nat.le_trans LL1.out gr1.size); clear hx1 hz1 own1 gr1 mv1)
  have hx2 : (w1.setCell ⟨w.heap.size, 3, none⟩ (.slice a3 t.vars.length e3)).heap[w.heap.size]? = some (.cells #[.string ⟨t.lang.toArray⟩, .string ⟨t.script.toArray⟩, .string ⟨t.region.toArray⟩, .slice a3 t.vars.length e3, .slice ak t.keys.length ck] 25 (0, 0)) := by
    rw [heap_setCell_same _ _ _ _ _ _ HX1b.out]; simp
  have hz2 : (w1.setCell ⟨w.heap.size, 3, none⟩ (.slice a3 t.vars.length e3)).heap[w.heap.size + 1]? = some (.cells #[.string ⟨#[]⟩, .string ⟨#[]⟩, .string ⟨#[]⟩, .slice none 0 0, .slice none 0 0] 25 (0, 0)) := by
    rw [heap_setCell_other _ _ _ _ (by simp)]; exact HZ1b.out
  have OW2 := hid (own_set OW1.out (b := w.heap.size) (fun e => by have := (World.ownsRow.lt OW1.out _ e).1; omega) 3 (.slice a3 t.vars.length e3))
  have HW2 := hid (HW1.out.setCell (p := ⟨w.heap.size, 3, none⟩) (Nat.le_refl _) (.slice a3 t.vars.length e3))
  have hs2 : (w1.setCell ⟨w.heap.size, 3, none⟩ (.slice a3 t.vars.length e3)).heap.size = w1.heap.size := by simp
  have HX2 := hid hx2
  have HZ2 := hid hz2
  have GR2 := hid (show w.heap.size + 2 ≤ (w1.setCell ⟨w.heap.size, 3, none⟩ (.slice a3 t.vars.length e3)).heap.size by rw [hs2]; exact GR1.out)
  clear hx2 hz2 hs2 d3 fy3 ltw c3 fx3 lt0 HX1b HZ1b OW1 GR1 HW1 HX1 HZ1 HX0 HZ0 R1 O1 HB1 HB0 LL1
  generalize (w1.setCell ⟨w.heap.size, 3, none⟩ (.slice a3 t.vars.length e3)) = w2 at *
  have lt2 : w.heap.size < w2.heap.size := by have := GR2.out; omega
  have LT2 := hid (show w.heap.size + 1 < w2.heap.size by have := GR2.out; omega)
  have O3 := hid (show OwnP (w2.alloc (.cells #[] 42)) (w.heap.size + 2) (.slice (some ⟨w2.heap.size, 0, none⟩) 0 0) [] from fresh_ownP0 w2 [] (w.heap.size + 2) GR2.out (by decide))
  have HB3 := hid (HW2.out.alloc (Nat.le_trans (Nat.le_add_right _ 2) GR2.out) (.cells #[] 42))
  have HX3 := hid ((heap_alloc_old w2 (.cells #[] 42) lt2).trans HX2.out)
  have HZ3 := hid ((heap_alloc_old w2 (.cells #[] 42) LT2.out).trans HZ2.out)
  have OW3 := hid (World.ownsRow.alloc OW2.out (.cells #[] 42))
  have R3 := hid (HP.out.below HB3.out)
  have LL3 := hid (show w.heap.size + 2 ≤ (w2.alloc (.cells #[] 42)).heap.size from Nat.le_trans GR2.out (by simp))
  have c4 : (w2.alloc (.cells #[] 42)).cell? ⟨w.heap.size, 4, none⟩ = some (.slice ak t.keys.length ck) := (box_cells HX3.out).2.2.2.2
  go_upto_region 3 with (at_builtin; refine wpList_appP rfl (.tmp 8) (.tmp 10) rfl (w.heap.size + 2) _ _ [] t.keys rfl O3.out rfl R3.out HK.out LL3.out ?_; intro v4 w4 own4 gr4 mv4; obtain ⟨a4, e4, rfl⟩ := own_sliceP own4; have hx4 := copyB gr4 lt2 HX3.out; have hz4 := copyB gr4 LT2.out HZ3.out; have d4 := (box_cells hx4).2.2.2.2; have fy4 := frozen_of_row w4 w.heap.size 4 _ _ hx4; have ltw := lt_of_block hx4; rw [List.nil_append] at own4 ⊢; have HX4 := hid hx4; have HZ4 := hid hz4; have OP4 := hid own4; have OS4 := hid (copyK OW3.out OW2.out gr4); have HW4 := hid (copyW HB3.out gr4 lt2 (Nat.le_trans (Nat.le_add_right _ 2) LL3.out)); clear hx4 hz4 own4 gr4 mv4)
  have hx5 : (w4.setCell ⟨w.heap.size, 4, none⟩ (.slice a4 t.keys.length e4)).heap[w.heap.size]? = some (.cells #[.string ⟨t.lang.toArray⟩, .string ⟨t.script.toArray⟩, .string ⟨t.region.toArray⟩, .slice a3 t.vars.length e3, .slice a4 t.keys.length e4] 25 (0, 0)) := by
    rw [heap_setCell_same _ _ _ _ _ _ HX4.out]; simp
  have hz5 : (w4.setCell ⟨w.heap.size, 4, none⟩ (.slice a4 t.keys.length e4)).heap[w.heap.size + 1]? = some (.cells #[.string ⟨#[]⟩, .string ⟨#[]⟩, .string ⟨#[]⟩, .slice none 0 0, .slice none 0 0] 25 (0, 0)) := by
    rw [heap_setCell_other _ _ _ _ (by simp)]; exact HZ4.out
  have OS5 := hid (own_set OS4.out (b := w.heap.size) (fun e => by have := (World.ownsRow.lt OS4.out _ e).1; omega) 4 (.slice a4 t.keys.length e4))
  have OP5 := hid (own_set OP4.out (b := w.heap.size) (fun e => by have := (World.ownsRow.lt OP4.out _ e).1; omega) 4 (.slice a4 t.keys.length e4))
  have HW5 := hid (HW4.out.setCell (p := ⟨w.heap.size, 4, none⟩) (Nat.le_refl _) (.slice a4 t.keys.length e4))
  have HX5 := hid hx5
  have HZ5 := hid hz5
  clear hx5 hz5 d4 fy4 ltw c4 lt2 HX4 HZ4 OS4 OP4 HW4 HX3 HZ3 OW3 R3 LL3 O3 HB3 HX2 HZ2 OW2 HW2
  generalize (w4.setCell ⟨w.heap.size, 4, none⟩ (.slice a4 t.keys.length e4)) = w5 at *
  obtain ⟨c0, c1, c2, c3, c4⟩ := box_cells HX5.out
  obtain ⟨d0, d1, d2, d3, d4⟩ := box_cells HZ5.out
  have lt0 := lt_of_block HX5.out
  have ltz := lt_of_block HZ5.out
  have fz0 := frozen_of_row w5 (w.heap.size + 1) 0 _ _ HZ5.out
  have fz1 := frozen_of_row w5 (w.heap.size + 1) 1 _ _ HZ5.out
  have fz2 := frozen_of_row w5 (w.heap.size + 1) 2 _ _ HZ5.out
  have fz3 := frozen_of_row w5 (w.heap.size + 1) 3 _ _ HZ5.out
  have fz4 := frozen_of_row w5 (w.heap.size + 1) 4 _ _ HZ5.out
  go_wp2_with fail
  have hr := P5_row (.string ⟨t.lang.toArray⟩) (.string ⟨t.script.toArray⟩) (.string ⟨t.region.toArray⟩) (.slice a3 t.vars.length e3) (.slice a4 t.keys.length e4) HZ5.out
  have hw := P5_below (.string ⟨t.lang.toArray⟩) (.string ⟨t.script.toArray⟩) (.string ⟨t.region.toArray⟩) (.slice a3 t.vars.length e3) (.slice a4 t.keys.length e4) HW5.out (Nat.le_succ w.heap.size)
  have h1 := P5_own (.string ⟨t.lang.toArray⟩) (.string ⟨t.script.toArray⟩) (.string ⟨t.region.toArray⟩) (.slice a3 t.vars.length e3) (.slice a4 t.keys.length e4) OS5.out (b := w.heap.size + 1) (fun e => by have := (World.ownsRow.lt OS5.out _ e).1; omega)
  have h2 := P5_own (.string ⟨t.lang.toArray⟩) (.string ⟨t.script.toArray⟩) (.string ⟨t.region.toArray⟩) (.slice a3 t.vars.length e3) (.slice a4 t.keys.length e4) OP5.out (b := w.heap.size + 1) (fun e => by have := (World.ownsRow.lt OP5.out _ e).1; omega)
  clear c0 c1 c2 c3 c4 d0 d1 d2 d3 d4 fz0 fz1 fz2 fz3 fz4 lt0 ltz
  change bodyPost _ _ _ _ _ (P5 w5 (w.heap.size + 1) (.string ⟨t.lang.toArray⟩) (.string ⟨t.script.toArray⟩) (.string ⟨t.region.toArray⟩) (.slice a3 t.vars.length e3) (.slice a4 t.keys.length e4))
  generalize P5 w5 (w.heap.size + 1) (.string ⟨t.lang.toArray⟩) (.string ⟨t.script.toArray⟩) (.string ⟨t.region.toArray⟩) (.slice a3 t.vars.length e3) (.slice a4 t.keys.length e4) = V at *
  obtain ⟨d0, d1, d2, d3, d4⟩ := box_cells hr
  refine bodyPost_ret (v := .agg #[.string ⟨t.lang.toArray⟩, .string ⟨t.script.toArray⟩, .string ⟨t.region.toArray⟩, .slice a3 t.vars.length e3, .slice a4 t.keys.length e4]) (by simp [results, Tryz.results14, go_sem, d0, d1, d2, d3, d4]) rfl ⟨_, rfl, ?_, hw⟩
  exact ⟨.slice a3 t.vars.length e3, .slice a4 t.keys.length e4, rfl, ownS_mono h1 (by omega), ownP_mono h2 (by omega)⟩
end Go.Proofs.YtlmgmifaknlolaaGreat

/- The contract of the reference's find. -/
set_option linter.unusedVariables false
set_option linter.unusedSimpArgs false
namespace Go.Proofs.YtlmgmifaknlolaaGreat
open Go.RowKit Go.Lib Go.Sort Go.Maps

theorem findR_hit {D : List (Str × Str)} {k : Str} {n : Nat} (hn : n < D.length) (hno : ∀ j (hj : j < D.length), j < n → (D[j]'hj).1 ≠ k) (he : (D[n]).1 = k) : findR D k = bareR (D[n]).2 := by
  have h : D.find? (fun p => p.1 == k) = some D[n] := by
    rw [List.find?_eq_some_iff_getElem]
    refine ⟨by simpa using he, n, hn, rfl, fun j hj => ?_⟩
    have := hno j (by omega) hj
    simpa using this
  unfold findR; rw [h]
theorem findR_no {D : List (Str × Str)} {k : Str} (hno : ∀ j (hj : j < D.length), (D[j]'hj).1 ≠ k) : findR D k = (Tg.zero, false) := by
  have h : D.find? (fun p => p.1 == k) = none := by
    rw [List.find?_eq_none]
    intro p hp
    obtain ⟨j, hj, rfl⟩ := List.mem_iff_getElem.1 hp
    simpa using hno j hj
  unfold findR; rw [h]
theorem find_ret {w W : World} {l : List (Str × Str)} {k : Str} {x : Tg × Bool} (hx : findR l k = x) (hz : W.heap[w.heap.size]? = some (.cells #[.string ⟨#[]⟩, .string ⟨#[]⟩, .string ⟨#[]⟩, .slice none 0 0, .slice none 0 0] 25 (0, 0))) (hb : Below w.heap.size w W) (ca cb : Option Addr) (na nb : Nat) {a : Act} (hd : a.defers = [])
    (h2 : a.tmps.getD 4 undef = .pointer (some ⟨w.heap.size, 0, none⟩)) (h3 : a.tmps.getD 5 undef = .bool x.2) :
    bodyPost Tryz.prog Tryz.f28 (fun e w' => BareRes w (findR l k) e w') Exit.ret a (P5 W w.heap.size (.string ⟨x.1.lang.toArray⟩) (.string ⟨x.1.script.toArray⟩) (.string ⟨x.1.region.toArray⟩) (.slice ca x.1.vars.length na) (.slice cb x.1.keys.length nb)) := by
  have hrow := P5_row (.string ⟨x.1.lang.toArray⟩) (.string ⟨x.1.script.toArray⟩) (.string ⟨x.1.region.toArray⟩) (.slice ca x.1.vars.length na) (.slice cb x.1.keys.length nb) hz
  have hw := P5_below (.string ⟨x.1.lang.toArray⟩) (.string ⟨x.1.script.toArray⟩) (.string ⟨x.1.region.toArray⟩) (.slice ca x.1.vars.length na) (.slice cb x.1.keys.length nb) hb (Nat.le_refl w.heap.size)
  generalize P5 W w.heap.size (.string ⟨x.1.lang.toArray⟩) (.string ⟨x.1.script.toArray⟩) (.string ⟨x.1.region.toArray⟩) (.slice ca x.1.vars.length na) (.slice cb x.1.keys.length nb) = V at *
  obtain ⟨d0, d1, d2, d3, d4⟩ := box_cells hrow
  rw [hx]
  refine bodyPost_ret (v := .tuple #[.agg #[.string ⟨x.1.lang.toArray⟩, .string ⟨x.1.script.toArray⟩, .string ⟨x.1.region.toArray⟩, .slice ca x.1.vars.length na, .slice cb x.1.keys.length nb], .bool x.2]) ?_ hd ⟨ca, na, cb, nb, rfl, hw⟩
  obtain ⟨tmps, defers⟩ := a
  simp only [Array.getD_eq_getD_getElem?] at h2 h3
  simp [results, Tryz.results28, go_sem, h2, h3, d0, d1, d2, d3, d4]
/-- the state of find's loop -/
structure FnSt (w : World) (D : List (Str × Str)) (k : Str) (W : World) (n : Nat) : Prop where
  no : ∀ j (hj : j < D.length), j < n → (D[j]'hj).1 ≠ k
  z : W.heap[w.heap.size]? = some (.cells #[.string ⟨#[]⟩, .string ⟨#[]⟩, .string ⟨#[]⟩, .slice none 0 0, .slice none 0 0] 25 (0, 0))
  bel : Below w.heap.size w W
theorem FnSt.below {w W W' : World} {D : List (Str × Str)} {k : Str} {n : Nat} (h : FnSt w D k W n) (hb : Below W.heap.size W W') : FnSt w D k W' n :=
  ⟨h.no, (hb.block _ (lt_of_block h.z)).trans h.z, h.bel.then hb⟩

set_option maxRecDepth 100000 in
set_option maxHeartbeats 16000000 in
theorem rfindP_any (w : World) (ao : Option Addr) (cp : Nat) (D : List (Str × Str)) (k : Str) (hl : RdP w (.slice ao D.length cp) D) (hp : PSz D) (hsz : D.length ≤ 10000000000) :
    Calls Tryz.prog 28 #[.slice ao D.length cp, .string ⟨k.toArray⟩] w fun e w' => BareRes w (findR D k) e w' := by
  have BA := hid (fun W k (hk : k.length ≤ maxLen) => rbare_any W k hk)
  obtain ⟨ao', cp', hv, hlen, hcell⟩ := hl
  cases hv
  have HC := hid hcell
  have HP := hid hp
  have ST0 := hid (show FnSt w D k (w.alloc (.cells #[.string ⟨#[]⟩, .string ⟨#[]⟩, .string ⟨#[]⟩, .slice none 0 0, .slice none 0 0] 25)) 0 from ⟨fun j _ hj => by omega, heap_alloc_new w _, (Below.refl _ _).alloc (Nat.le_refl _) _⟩)
  have HSZ := hid hsz
  clear hcell hp hsz
  go_enter Tryz.func28, Tryz.ntmps28
  go_wp2_with fail
  go_loopg [10] D.length (fun g vi W => ∃ n : Nat, n ≤ D.length ∧ D.length ≤ n + g ∧ vi = .int .i64 n ∧ FnSt w D k W n)
  case atStart => exact ⟨0, Nat.zero_le _, by omega, rfl, ST0.out⟩
  case round =>
    obtain ⟨n, hn, hg, rfl, st⟩ := hrel
    rename World => w1
    have HG := hid hg
    have ST1 := hid st
    clear st ST0 hg
    by_cases hlt : n < D.length
    · have hne : D ≠ [] := by intro e; rw [e] at hlt; simp at hlt
      obtain ⟨p1, o1, rfl, hp1, hc1⟩ := HC.out hne
      have hps := HP.out _ (List.getElem_mem hlt)
      obtain ⟨kv, hkv⟩ : ∃ kv, kv = D[n]'hlt := ⟨_, rfl⟩
      obtain ⟨k2, v2⟩ := kv
      have HCE := hid (fun (j : Nat) (hj : j < D.length) W (hb : Below w.heap.size w W) => show World.cell? W ⟨p1, o1 + j * 2, none⟩ = some (S (D[j]'hj).1) ∧ World.cell? W ⟨p1, o1 + j * 2 + 1, none⟩ = some (S (D[j]'hj).2) from
        ⟨(hb.cell (p := ⟨p1, o1 + j * 2, none⟩) hp1).trans (by have := hc1 j 0 (S (D[j]'hj).1) hj rfl; rw [Nat.add_zero] at this; exact this), (hb.cell (p := ⟨p1, o1 + j * 2 + 1, none⟩) hp1).trans (hc1 j 1 (S (D[j]'hj).2) hj rfl)⟩)
      have HK := hid hkv
      have hvl : v2.length ≤ maxLen := by rw [← hkv] at hps; exact hps.2
      obtain ⟨q1, q2⟩ := HCE.out n hlt w1 ST1.out.bel
      rw [← hkv, S] at q1 q2
      have hni : (n : Int) < (D.length : Int) := by omega
      have hn0 : (0 : Int) ≤ (n : Int) := by omega
      clear hkv hc1 hps hne HC HCE
      go_upto_region 4 with (fail)
      have HPB := hid (heap_alloc_new w1 (.cells #[.string ⟨k2.toArray⟩, .string ⟨v2.toArray⟩] 42))
      have HB2 := hid (show Below w1.heap.size w1 (w1.alloc (.cells #[.string ⟨k2.toArray⟩, .string ⟨v2.toArray⟩] 42)) from (Below.refl _ _).alloc (Nat.le_refl _) _)
      generalize w1.alloc (.cells #[.string ⟨k2.toArray⟩, .string ⟨v2.toArray⟩] 42) = w2 at *
      have ST2 := hid (ST1.out.below HB2.out)
      clear q1 q2 HB2 ST1
      have c0 : w2.cell? ⟨w1.heap.size, 0, none⟩ = some (.string ⟨k2.toArray⟩) := by rw [cell_of_row _ _ _ _ _ _ HPB.out]; rfl
      have c1 : w2.cell? ⟨w1.heap.size, 1, none⟩ = some (.string ⟨v2.toArray⟩) := by rw [cell_of_row _ _ _ _ _ _ HPB.out]; rfl
      have lt0 := lt_of_block HPB.out
      by_cases hkk : k2 = k
      · have hub : (k2 == k) = true := by rw [hkk]; simp
        have HOUT := hid (show findR D k = bareR v2 by rw [findR_hit hlt ST2.out.no (by rw [← HK.out]; exact hkk), ← HK.out])
        clear hkk
        go_wp2_with fail
        all_goals first | (rename_i hx; rw [hub] at hx; exact absurd hx (by decide)) | skip
        with_reducible refine (BA.out _ v2 hvl).mono ?_
        rintro e w3 ⟨a1, g1, a2, g2, rfl, hb3⟩
        have ST3 := hid (ST2.out.below hb3)
        generalize bareR v2 = x at *
        clear hb3 ST2 HPB c0 c1 lt0
        obtain ⟨d0, d1, d2, d3, d4⟩ := box_cells ST3.out.z
        have lty := lt_of_block ST3.out.z
        have fz0 := frozen_of_row w3 w.heap.size 0 _ _ ST3.out.z
        have fz1 := frozen_of_row w3 w.heap.size 1 _ _ ST3.out.z
        have fz2 := frozen_of_row w3 w.heap.size 2 _ _ ST3.out.z
        have fz3 := frozen_of_row w3 w.heap.size 3 _ _ ST3.out.z
        have fz4 := frozen_of_row w3 w.heap.size 4 _ _ ST3.out.z
        go_wp2_with fail
        change bodyPost _ _ _ _ _ (P5 w3 w.heap.size (.string ⟨x.1.lang.toArray⟩) (.string ⟨x.1.script.toArray⟩) (.string ⟨x.1.region.toArray⟩) (.slice a1 x.1.vars.length g1) (.slice a2 x.1.keys.length g2))
        exact find_ret HOUT.out ST3.out.z ST3.out.bel a1 a2 g1 g2 rfl rfl rfl
      · have hub : (k2 == k) = false := by rw [beq_eq_false_iff_ne]; exact hkk
        have HKK := hid hkk
        clear hkk
        go_wp2_with fail
        all_goals first | (rename_i hx; rw [hub] at hx; exact absurd hx (by decide)) | skip
        go_roundg (gk - 1)
        case measure => have := HG.out; omega
        case rel => exact ⟨n + 1, by omega, by have := HG.out; omega, by simp, ⟨fun j hj hjm => by
          by_cases e : j = n
          · subst e; rw [← HK.out]; exact HKK.out
          · exact ST2.out.no j hj (by omega), ST2.out.z, ST2.out.bel⟩⟩
    · have hnl : n = D.length := by omega
      subst hnl
      have HOUT := hid (findR_no (k := k) (fun j hj => ST1.out.no j hj hj))
      obtain ⟨d0, d1, d2, d3, d4⟩ := box_cells ST1.out.z
      have lty := lt_of_block ST1.out.z
      have fz0 := frozen_of_row w1 w.heap.size 0 _ _ ST1.out.z
      have fz1 := frozen_of_row w1 w.heap.size 1 _ _ ST1.out.z
      have fz2 := frozen_of_row w1 w.heap.size 2 _ _ ST1.out.z
      have fz3 := frozen_of_row w1 w.heap.size 3 _ _ ST1.out.z
      have fz4 := frozen_of_row w1 w.heap.size 4 _ _ ST1.out.z
      go_wp2_with fail
      change bodyPost _ _ _ _ _ (P5 w1 w.heap.size (.string ⟨#[]⟩) (.string ⟨#[]⟩) (.string ⟨#[]⟩) (.slice none 0 0) (.slice none 0 0))
      exact find_ret HOUT.out ST1.out.z ST1.out.bel none none 0 0 rfl rfl rfl
end Go.Proofs.YtlmgmifaknlolaaGreat

/- The contract of the reference's Add. -/
set_option linter.unusedVariables false
set_option linter.unusedSimpArgs false
namespace Go.Proofs.YtlmgmifaknlolaaGreat
open Go.RowKit Go.Lib Go.Sort

/-- one text at the end of a list that the call owns -/
theorem wpList_raPush {w : World} {ops : Array Oper} {rest : List Oper} {o : Oper} {a : Act} {Q : Exit → Act → World → Prop} (hgd : o.guard = none) (s x : Operand)
    (ho : o.op = .call { callee := .builtin .append, args := #[s, x], argTypes := #[23, 23] })
    (B : Nat) (v : Value) (l : List Str) (y : Str) (hs : a.eval s = v) (hown : OwnS w B v l) (hx : a.eval x = .slice (some ⟨w.heap.size, 0, none⟩) 1 1) (hl : l.length ≤ 1000000000000) (hB : B ≤ w.heap.size)
    (h : ∀ v' w', OwnS w' B v' (l ++ [y]) → Below B w w' → wpList Tryz.prog ops Q rest (a.put o.dst v') w') :
    wpList Tryz.prog ops Q (o :: rest) a (w.alloc (.cells #[.string ⟨y.toArray⟩] 9)) := by
  obtain ⟨i0, hi, hz0, hz1, hz2⟩ := info_parts infoS
  refine wpList_app hgd s x 23 ho B 9 i0 (.string ⟨#[]⟩) 1 16 Tryz.underlying23 hi hz0 hz1 hz2 rfl (by decide) v l.length (l.map S) hs (World.ownsRow.alloc hown _) ⟨w.heap.size, 0, none⟩ 1 1 [.string ⟨y.toArray⟩] hx rfl (cell_one_new _ _ _) (fun u hu => by simp at hu; subst hu; rfl) (by unfold maxLen; omega) (by omega) (by simp; omega) ?_
  intro v' w' own gr mv
  refine h v' w' (own_cast own (by simp) (by simp [S])) (((Below.refl B w).alloc hB _).grown gr (by simp; omega) (fun j hj => (World.ownsRow.lt hown _ hj).1))
/-- the keys that are tried, part by part -/
def rk1 (t : Tg) : List Str := if t.script ≠ [] ∧ t.region ≠ [] then [ptKeyR ⟨t.lang, t.script, t.region⟩] else []
def rk2 (t : Tg) : List Str := rk1 t ++ if t.region ≠ [] then [ptKeyR ⟨t.lang, [], t.region⟩] else []
def rk3 (t : Tg) : List Str := rk2 t ++ if t.script ≠ [] then [ptKeyR ⟨t.lang, t.script, []⟩] else []
def rk4 (t : Tg) : List Str := rk3 t ++ [ptKeyR ⟨t.lang, [], []⟩]
def rk5 (t : Tg) : List Str := rk4 t ++ if t.script ≠ [] then [ptKeyR ⟨[], t.script, []⟩] else []
theorem rk_all (t : Tg) : rk5 t = keysRF t := by
  unfold rk5 rk4 rk3 rk2 rk1 keysRF tryKeys ptOf
  by_cases h1 : t.script = [] <;> by_cases h2 : t.region = [] <;> simp [h1, h2]
theorem rk_len (t : Tg) : (rk1 t).length ≤ 1000 ∧ (rk2 t).length ≤ 1000 ∧ (rk3 t).length ≤ 1000 ∧ (rk4 t).length ≤ 1000 ∧ (rk5 t).length ≤ 1000 := by
  unfold rk5 rk4 rk3 rk2 rk1
  refine ⟨?_, ?_, ?_, ?_, ?_⟩ <;> (repeat' split) <;> simp
theorem fk_hit {D : List (Str × Str)} : ∀ {ks : List Str} {n : Nat} (hn : n < ks.length), (∀ j (hj : j < ks.length), j < n → (findR D (ks[j]'hj)).2 = false) → (findR D ks[n]).2 = true → findKeys D ks = some (findR D ks[n]).1
  | [], n, hn, _, _ => by simp at hn
  | k :: ks, 0, hn, _, h => by
    simp only [List.getElem_cons_zero] at h
    unfold findKeys; rw [if_pos h]; rfl
  | k :: ks, n + 1, hn, hno, h => by
    have h0 := hno 0 (by simp) (by omega)
    simp only [List.getElem_cons_zero] at h0
    unfold findKeys
    rw [if_neg (by rw [h0]; decide)]
    simp only [List.getElem_cons_succ] at h ⊢
    exact fk_hit (ks := ks) (n := n) (by simpa using hn) (fun j hj hjn => by
      have := hno (j + 1) (by simp; omega) (by omega)
      simpa using this) h
theorem fk_no {D : List (Str × Str)} : ∀ {ks : List Str}, (∀ j (hj : j < ks.length), (findR D (ks[j]'hj)).2 = false) → findKeys D ks = none
  | [], _ => rfl
  | k :: ks, hno => by
    have h0 := hno 0 (by simp)
    simp only [List.getElem_cons_zero] at h0
    unfold findKeys
    rw [if_neg (by rw [h0]; decide)]
    exact fk_no (ks := ks) fun j hj => by
      have := hno (j + 1) (by simp; omega)
      simpa using this

/-- the state of the reference's Add: the tag's box with the parts p, the answer's box, the box of the tag as it was -/
structure RaSt (w : World) (t : Tg) (p : Pt) (vv kv vw kw : Value) (b6 : Nat) (W : World) : Prop where
  bel : Below w.heap.size w W
  x : W.heap[w.heap.size]? = some (.cells #[.string ⟨p.l.toArray⟩, .string ⟨p.s.toArray⟩, .string ⟨p.r.toArray⟩, vv, kv] 25 (0, 0))
  z : W.heap[w.heap.size + 1]? = some (.cells #[.string ⟨#[]⟩, .string ⟨#[]⟩, .string ⟨#[]⟩, .slice none 0 0, .slice none 0 0] 25 (0, 0))
  y : W.heap[b6]? = some (.cells #[.string ⟨t.lang.toArray⟩, .string ⟨t.script.toArray⟩, .string ⟨t.region.toArray⟩, vw, kw] 25 (0, 0))
  os : OwnS W (w.heap.size + 2) vv t.vars
  op : OwnP W (w.heap.size + 2) kv t.keys
  ws : OwnS W (w.heap.size + 2) vw t.vars
  wp : OwnP W (w.heap.size + 2) kw t.keys
  lb : w.heap.size + 1 < b6
theorem RaSt.below {w W W' : World} {t : Tg} {p : Pt} {vv kv vw kw : Value} {b6 : Nat} (h : RaSt w t p vv kv vw kw b6 W) (hb : Below W.heap.size W W') : RaSt w t p vv kv vw kw b6 W' :=
  ⟨h.bel.then hb, (hb.block _ (lt_of_block h.x)).trans h.x, (hb.block _ (lt_of_block h.z)).trans h.z, (hb.block _ (lt_of_block h.y)).trans h.y, own_below h.os hb, own_below h.op hb, own_below h.ws hb, own_below h.wp hb, h.lb⟩
theorem RaSt.start {w W : World} {t : Tg} {vx kx vw kw z3 z4 : Value} {b6 : Nat} (hb : Below w.heap.size w W) (x : W.heap[w.heap.size]? = some (.cells #[.string ⟨t.lang.toArray⟩, .string ⟨t.script.toArray⟩, .string ⟨t.region.toArray⟩, z3, z4] 25 (0, 0)))
    (z : W.heap[w.heap.size + 1]? = some (.cells #[.string ⟨#[]⟩, .string ⟨#[]⟩, .string ⟨#[]⟩, .slice none 0 0, .slice none 0 0] 25 (0, 0)))
    (y : W.heap[b6]? = some (.cells #[.string ⟨t.lang.toArray⟩, .string ⟨t.script.toArray⟩, .string ⟨t.region.toArray⟩, vw, kw] 25 (0, 0)))
    (os : OwnS W (w.heap.size + 2) vx t.vars) (op : OwnP W (w.heap.size + 2) kx t.keys) (ws : OwnS W (w.heap.size + 2) vw t.vars) (wp : OwnP W (w.heap.size + 2) kw t.keys) (lb : w.heap.size + 1 < b6) :
    RaSt w t (ptOf t) vx kx vw kw b6 (P5 W w.heap.size (.string ⟨t.lang.toArray⟩) (.string ⟨t.script.toArray⟩) (.string ⟨t.region.toArray⟩) vx kx) :=
  have ne {v : Value} {e : TypeId} {s n : Nat} {xs : List Value} (o : W.ownsRow (w.heap.size + 2) e s v n xs) : v.ownBlock ≠ some w.heap.size := fun e => by have := (World.ownsRow.lt o _ e).1; omega
  ⟨P5_below _ _ _ _ _ hb (Nat.le_refl _), P5_row _ _ _ _ _ x, (P5_other _ _ _ _ _ (by omega)).trans z, (P5_other _ _ _ _ _ (by omega)).trans y, P5_own _ _ _ _ _ os (ne os), P5_own _ _ _ _ _ op (ne op), P5_own _ _ _ _ _ ws (ne ws), P5_own _ _ _ _ _ wp (ne wp), lb⟩
theorem RaSt.rd {w W : World} {t : Tg} {p : Pt} {vv kv vw kw : Value} {b6 : Nat} (h : RaSt w t p vv kv vw kw b6 W) : RdT W (.agg #[.string ⟨p.l.toArray⟩, .string ⟨p.s.toArray⟩, .string ⟨p.r.toArray⟩, vv, kv]) (withT t p) :=
  ⟨vv, kv, rfl, h.os.rd, h.op.rd⟩
theorem RaSt.set0 {w W : World} {t : Tg} {p : Pt} {vv kv vw kw : Value} {b6 : Nat} (h : RaSt w t p vv kv vw kw b6 W) (y : Str) : RaSt w t ⟨y, p.s, p.r⟩ vv kv vw kw b6 (W.setCell ⟨w.heap.size, 0, none⟩ (.string ⟨y.toArray⟩)) :=
  have ne {v : Value} {e : TypeId} {s n : Nat} {xs : List Value} (o : W.ownsRow (w.heap.size + 2) e s v n xs) : v.ownBlock ≠ some w.heap.size := fun e => by have := (World.ownsRow.lt o _ e).1; omega
  ⟨h.bel.setCell (p := ⟨w.heap.size, 0, none⟩) (Nat.le_refl _) _, by rw [heap_setCell_same _ _ _ _ _ _ h.x]; simp, (heap_setCell_other _ _ _ _ (by simp)).trans h.z, (heap_setCell_other _ _ _ _ (by have := h.lb; simp; omega)).trans h.y, own_set h.os (ne h.os) _ _, own_set h.op (ne h.op) _ _, own_set h.ws (ne h.ws) _ _, own_set h.wp (ne h.wp) _ _, h.lb⟩
theorem RaSt.set1 {w W : World} {t : Tg} {p : Pt} {vv kv vw kw : Value} {b6 : Nat} (h : RaSt w t p vv kv vw kw b6 W) (y : Str) : RaSt w t ⟨p.l, y, p.r⟩ vv kv vw kw b6 (W.setCell ⟨w.heap.size, 1, none⟩ (.string ⟨y.toArray⟩)) :=
  have ne {v : Value} {e : TypeId} {s n : Nat} {xs : List Value} (o : W.ownsRow (w.heap.size + 2) e s v n xs) : v.ownBlock ≠ some w.heap.size := fun e => by have := (World.ownsRow.lt o _ e).1; omega
  ⟨h.bel.setCell (p := ⟨w.heap.size, 1, none⟩) (Nat.le_refl _) _, by rw [heap_setCell_same _ _ _ _ _ _ h.x]; simp, (heap_setCell_other _ _ _ _ (by simp)).trans h.z, (heap_setCell_other _ _ _ _ (by have := h.lb; simp; omega)).trans h.y, own_set h.os (ne h.os) _ _, own_set h.op (ne h.op) _ _, own_set h.ws (ne h.ws) _ _, own_set h.wp (ne h.wp) _ _, h.lb⟩
theorem RaSt.set2 {w W : World} {t : Tg} {p : Pt} {vv kv vw kw : Value} {b6 : Nat} (h : RaSt w t p vv kv vw kw b6 W) (y : Str) : RaSt w t ⟨p.l, p.s, y⟩ vv kv vw kw b6 (W.setCell ⟨w.heap.size, 2, none⟩ (.string ⟨y.toArray⟩)) :=
  have ne {v : Value} {e : TypeId} {s n : Nat} {xs : List Value} (o : W.ownsRow (w.heap.size + 2) e s v n xs) : v.ownBlock ≠ some w.heap.size := fun e => by have := (World.ownsRow.lt o _ e).1; omega
  ⟨h.bel.setCell (p := ⟨w.heap.size, 2, none⟩) (Nat.le_refl _) _, by rw [heap_setCell_same _ _ _ _ _ _ h.x]; simp, (heap_setCell_other _ _ _ _ (by simp)).trans h.z, (heap_setCell_other _ _ _ _ (by have := h.lb; simp; omega)).trans h.y, own_set h.os (ne h.os) _ _, own_set h.op (ne h.op) _ _, own_set h.ws (ne h.ws) _ _, own_set h.wp (ne h.wp) _ _, h.lb⟩
/-- the way out of the reference's Add -/
theorem radd_ret {w W : World} {t' : Tg} {r : Tg × Bool} (hb : Below w.heap.size w W) (hz : W.heap[w.heap.size + 1]? = some (.cells #[.string ⟨#[]⟩, .string ⟨#[]⟩, .string ⟨#[]⟩, .slice none 0 0, .slice none 0 0] 25 (0, 0))) (b : Bool) (hr : r = (t', b)) {vv kv : Value}
    (os : OwnS W (w.heap.size + 2) vv t'.vars) (op : OwnP W (w.heap.size + 2) kv t'.keys) {a : Act} (hd : a.defers = [])
    (h4 : a.tmps.getD 4 undef = .pointer (some ⟨w.heap.size + 1, 0, none⟩)) (h5 : a.tmps.getD 5 undef = .bool b) :
    bodyPost Tryz.prog Tryz.f13 (fun e w' => TagOut w r e w') Exit.ret a (P5 W (w.heap.size + 1) (.string ⟨t'.lang.toArray⟩) (.string ⟨t'.script.toArray⟩) (.string ⟨t'.region.toArray⟩) vv kv) := by
  have own : OwnT W (w.heap.size + 2) (.agg (tagCells t' vv kv)) t' := ⟨vv, kv, rfl, os, op⟩
  have hrow := P5_row (.string ⟨t'.lang.toArray⟩) (.string ⟨t'.script.toArray⟩) (.string ⟨t'.region.toArray⟩) vv kv hz
  have hw := P5_below (.string ⟨t'.lang.toArray⟩) (.string ⟨t'.script.toArray⟩) (.string ⟨t'.region.toArray⟩) vv kv hb (Nat.le_succ w.heap.size)
  have ho := (own.p5 (by omega : w.heap.size + 1 < w.heap.size + 2) (.string ⟨t'.lang.toArray⟩) (.string ⟨t'.script.toArray⟩) (.string ⟨t'.region.toArray⟩) vv kv).mono (C := w.heap.size) (by omega)
  generalize P5 W (w.heap.size + 1) (.string ⟨t'.lang.toArray⟩) (.string ⟨t'.script.toArray⟩) (.string ⟨t'.region.toArray⟩) vv kv = V at *
  obtain ⟨d0, d1, d2, d3, d4⟩ := box_cells hrow
  subst hr
  refine bodyPost_ret (v := .tuple #[.agg #[.string ⟨t'.lang.toArray⟩, .string ⟨t'.script.toArray⟩, .string ⟨t'.region.toArray⟩, vv, kv], .bool b]) ?_ hd ⟨_, rfl, ho, hw⟩
  obtain ⟨tmps, defers⟩ := a
  simp only [Array.getD_eq_getD_getElem?] at h4 h5
  simp [results, Tryz.results13, go_sem, h4, h5, d0, d1, d2, d3, d4]
theorem addRF_wrong {D : List (Str × Str)} {t : Tg} (h : rightF t = false) : addRF D t = (Tg.zero, false) := if_pos h
theorem addRF_full {D : List (Str × Str)} {t : Tg} (h : rightF t = true) (hf : t.lang ≠ [] ∧ t.script ≠ [] ∧ t.region ≠ []) : addRF D t = (t, true) := by
  unfold addRF; rw [if_neg (by rw [h]; decide), if_pos hf]
theorem addRF_none {D : List (Str × Str)} {t : Tg} (h : rightF t = true) (hf : ¬ (t.lang ≠ [] ∧ t.script ≠ [] ∧ t.region ≠ [])) (hk : findKeys D (keysRF t) = none) : addRF D t = (t, false) := by
  unfold addRF; rw [if_neg (by rw [h]; decide), if_neg hf, hk]
theorem addRF_no {D : List (Str × Str)} {t x : Tg} (h : rightF t = true) (hf : ¬ (t.lang ≠ [] ∧ t.script ≠ [] ∧ t.region ≠ [])) (hk : findKeys D (keysRF t) = some x) (h2 : rightF (withT t (fillP (ptOf t) (ptOf x))) = false) : addRF D t = (t, false) := by
  unfold addRF; rw [if_neg (by rw [h]; decide), if_neg hf, hk]; simp only; rw [if_pos h2]
theorem addRF_yes {D : List (Str × Str)} {t x : Tg} (h : rightF t = true) (hf : ¬ (t.lang ≠ [] ∧ t.script ≠ [] ∧ t.region ≠ [])) (hk : findKeys D (keysRF t) = some x) (h2 : rightF (withT t (fillP (ptOf t) (ptOf x))) = true) : addRF D t = (withT t (fillP (ptOf t) (ptOf x)), true) := by
  unfold addRF; rw [if_neg (by rw [h]; decide), if_neg hf, hk]; simp only; rw [if_neg (by rw [h2]; decide)]

set_option maxRecDepth 100000 in
set_option maxHeartbeats 32000000 in
theorem radd_any (w : World) (va : Value) (ao : Option Addr) (cp : Nat) (D : List (Str × Str)) (t : Tg) (hl : RdP w (.slice ao D.length cp) D) (hp : PSz D) (hsz : D.length ≤ 10000000000) (hT : RdT w va t) (hv : t.vars.length ≤ 1000) (hk : t.keys.length ≤ 1000)
    (hb : (printR t).length ≤ 1000000000) (hq : ∀ x, findKeys D (keysRF t) = some x → (printR (withT t (fillP (ptOf t) (ptOf x)))).length ≤ 1000000000) (h1 : t.lang.length ≤ 100000000) (h2 : t.script.length ≤ 100000000) (h3 : t.region.length ≤ 100000000) :
    Calls Tryz.prog 13 #[.slice ao D.length cp, va] w fun e w' => TagOut w (addRF D t) e w' := by
  have RR := hid (fun W (hb2 : Below w.heap.size w W) => rright_any W va t (hT.below hb2) hb)
  have CO := hid (fun W (hb2 : Below w.heap.size w W) => rcopy_any W va t (hT.below hb2) hv hk)
  have RQ := hid (fun W v m (hm : (printR m).length ≤ 1000000000) (hr : RdT W v m) => rright_any W v m hr hm)
  have FI := hid (fun W k (hb2 : Below w.heap.size w W) => rfindP_any W ao cp D k (hl.below hb2) hp hsz)
  have K3 := hid (fun W => show Calls Tryz.prog 27 #[.string ⟨t.lang.toArray⟩, .string ⟨t.script.toArray⟩, .string ⟨t.region.toArray⟩] W (fun e w' => e = .returned (.string ⟨(ptKeyR ⟨t.lang, t.script, t.region⟩).toArray⟩) ∧ Below W.heap.size W w') from rkey_any W t.lang t.script t.region h1 h2 h3)
  have K2 := hid (fun W => show Calls Tryz.prog 27 #[.string ⟨t.lang.toArray⟩, .string ⟨#[]⟩, .string ⟨t.region.toArray⟩] W (fun e w' => e = .returned (.string ⟨(ptKeyR ⟨t.lang, [], t.region⟩).toArray⟩) ∧ Below W.heap.size W w') from rkey_any W t.lang [] t.region h1 (by decide) h3)
  have K1 := hid (fun W => show Calls Tryz.prog 27 #[.string ⟨t.lang.toArray⟩, .string ⟨t.script.toArray⟩, .string ⟨#[]⟩] W (fun e w' => e = .returned (.string ⟨(ptKeyR ⟨t.lang, t.script, []⟩).toArray⟩) ∧ Below W.heap.size W w') from rkey_any W t.lang t.script [] h1 h2 (by decide))
  have K0 := hid (fun W => show Calls Tryz.prog 27 #[.string ⟨t.lang.toArray⟩, .string ⟨#[]⟩, .string ⟨#[]⟩] W (fun e w' => e = .returned (.string ⟨(ptKeyR ⟨t.lang, [], []⟩).toArray⟩) ∧ Below W.heap.size W w') from rkey_any W t.lang [] [] h1 (by decide) (by decide))
  have KS := hid (fun W => show Calls Tryz.prog 27 #[.string ⟨#[]⟩, .string ⟨t.script.toArray⟩, .string ⟨#[]⟩] W (fun e w' => e = .returned (.string ⟨(ptKeyR ⟨[], t.script, []⟩).toArray⟩) ∧ Below W.heap.size W w') from rkey_any W [] t.script [] (by decide) h2 (by decide))
  have HQ := hid hq
  have HKL := hid (rk_len t)
  have HKA := hid (rk_all t)
  obtain ⟨vv, kv, rfl, hS, hP⟩ := hT
  obtain ⟨av, cv, rfl, _, _⟩ := hS
  obtain ⟨ak, ck, rfl, _, _⟩ := hP
  clear hl hp hq h1 h2 h3 hb
  simp only [tagCells, S] at RR CO ⊢
  have HX0 := hid (heap_alloc2_old w (.cells #[.string ⟨t.lang.toArray⟩, .string ⟨t.script.toArray⟩, .string ⟨t.region.toArray⟩, .slice av t.vars.length cv, .slice ak t.keys.length ck] 25) (.cells #[.string ⟨#[]⟩, .string ⟨#[]⟩, .string ⟨#[]⟩, .slice none 0 0, .slice none 0 0] 25))
  have HZ0 := hid (heap_alloc2_new w (.cells #[.string ⟨t.lang.toArray⟩, .string ⟨t.script.toArray⟩, .string ⟨t.region.toArray⟩, .slice av t.vars.length cv, .slice ak t.keys.length ck] 25) (.cells #[.string ⟨#[]⟩, .string ⟨#[]⟩, .string ⟨#[]⟩, .slice none 0 0, .slice none 0 0] 25))
  have HB0 := hid (below2 w (.cells #[.string ⟨t.lang.toArray⟩, .string ⟨t.script.toArray⟩, .string ⟨t.region.toArray⟩, .slice av t.vars.length cv, .slice ak t.keys.length ck] 25) (.cells #[.string ⟨#[]⟩, .string ⟨#[]⟩, .string ⟨#[]⟩, .slice none 0 0, .slice none 0 0] 25))
  go_enter Tryz.func13, Tryz.ntmps13
  go_upto_region 1 with fail
  generalize ((w.alloc (.cells #[.string ⟨t.lang.toArray⟩, .string ⟨t.script.toArray⟩, .string ⟨t.region.toArray⟩, .slice av t.vars.length cv, .slice ak t.keys.length ck] 25)).alloc (.cells #[.string ⟨#[]⟩, .string ⟨#[]⟩, .string ⟨#[]⟩, .slice none 0 0, .slice none 0 0] 25)) = w0 at *
  obtain ⟨c0, c1, c2, c3, c4⟩ := box_cells HX0.out
  have lt0 := lt_of_block HX0.out
  go_wp2_with fail
  with_reducible refine (RR.out _ HB0.out).mono ?_
  rintro e w1 ⟨rfl, hb1⟩
  have HX1 := hid ((hb1.block _ (lt_of_block HX0.out)).trans HX0.out)
  have HZ1 := hid ((hb1.block _ (lt_of_block HZ0.out)).trans HZ0.out)
  have HB1 := hid (HB0.out.then hb1)
  clear hb1 HX0 HZ0 HB0 c0 c1 c2 c3 c4 lt0 RR
  obtain ⟨c0, c1, c2, c3, c4⟩ := box_cells HX1.out
  have lt0 := lt_of_block HX1.out
  by_cases hright : rightF t = false
  · have HE := hid (addRF_wrong (D := D) hright)
    rw [hright]
    obtain ⟨d0, d1, d2, d3, d4⟩ := box_cells HZ1.out
    have ltz := lt_of_block HZ1.out
    have fz0 := frozen_of_row w1 (w.heap.size + 1) 0 _ _ HZ1.out
    have fz1 := frozen_of_row w1 (w.heap.size + 1) 1 _ _ HZ1.out
    have fz2 := frozen_of_row w1 (w.heap.size + 1) 2 _ _ HZ1.out
    have fz3 := frozen_of_row w1 (w.heap.size + 1) 3 _ _ HZ1.out
    have fz4 := frozen_of_row w1 (w.heap.size + 1) 4 _ _ HZ1.out
    clear hright
    go_wp2_with fail
    change bodyPost _ _ _ _ _ (P5 w1 (w.heap.size + 1) (.string ⟨#[]⟩) (.string ⟨#[]⟩) (.string ⟨#[]⟩) (.slice none 0 0) (.slice none 0 0))
    exact radd_ret (t' := Tg.zero) HB1.out HZ1.out false HE.out (World.ownsRow_nil _ _ _ _) (World.ownsRow_nil _ _ _ _) rfl rfl rfl
  · have hright : rightF t = true := by simpa using hright
    rw [hright]
    have HRT := hid hright
    clear hright
    go_wp2_with fail
    with_reducible refine (CO.out _ HB1.out).mono ?_
    rintro e w2 ⟨v2, rfl, own2, hb2⟩
    have HX2 := hid ((hb2.block _ (lt_of_block HX1.out)).trans HX1.out)
    have HZ2 := hid ((hb2.block _ (lt_of_block HZ1.out)).trans HZ1.out)
    have HB2 := hid (HB1.out.then hb2)
    have LW2 := hid (Nat.le_trans (lt_of_block HZ1.out) hb2.size)
    obtain ⟨vw, kw, rfl, ws2, wp2⟩ := own2
    obtain ⟨aw, cw, rfl⟩ := own_sliceS ws2
    obtain ⟨al, cl, rfl⟩ := own_sliceP wp2
    have WS2 := hid (ownS_mono ws2 (show w.heap.size + 2 ≤ w1.heap.size from lt_of_block HZ1.out))
    have WP2 := hid (ownP_mono wp2 (show w.heap.size + 2 ≤ w1.heap.size from lt_of_block HZ1.out))
    clear hb2 ws2 wp2 HX1 HZ1 HB1 c0 c1 c2 c3 c4 lt0
    simp only [tagCells, S]
    go_upto_region 4 with fail
    have HBA := hid ((Below.refl w2.heap.size w2).alloc (Nat.le_refl _) (.cells #[.string ⟨t.lang.toArray⟩, .string ⟨t.script.toArray⟩, .string ⟨t.region.toArray⟩, .slice aw t.vars.length cw, .slice al t.keys.length cl] 25))
    have HY3 := hid (heap_alloc_new w2 (.cells #[.string ⟨t.lang.toArray⟩, .string ⟨t.script.toArray⟩, .string ⟨t.region.toArray⟩, .slice aw t.vars.length cw, .slice al t.keys.length cl] 25))
    generalize w2.alloc (.cells #[.string ⟨t.lang.toArray⟩, .string ⟨t.script.toArray⟩, .string ⟨t.region.toArray⟩, .slice aw t.vars.length cw, .slice al t.keys.length cl] 25) = w3 at *
    have HX3 := hid ((HBA.out.block _ (lt_of_block HX2.out)).trans HX2.out)
    have HZ3 := hid ((HBA.out.block _ (lt_of_block HZ2.out)).trans HZ2.out)
    have HB3 := hid (HB2.out.then HBA.out)
    have WS3 := hid (own_below WS2.out HBA.out)
    have WP3 := hid (own_below WP2.out HBA.out)
    clear HX2 HZ2 HB2 WS2 WP2 HBA
    obtain ⟨c0, c1, c2, c3, c4⟩ := box_cells HX3.out
    have lt0 := lt_of_block HX3.out
    go_wp2_with fail
    with_reducible refine (CO.out _ HB3.out).mono ?_
    rintro e w4 ⟨v4, rfl, own4, hb4⟩
    have HX4 := hid ((hb4.block _ (lt_of_block HX3.out)).trans HX3.out)
    have HZ4 := hid ((hb4.block _ (lt_of_block HZ3.out)).trans HZ3.out)
    have HY4 := hid ((hb4.block _ (lt_of_block HY3.out)).trans HY3.out)
    have HB4 := hid (HB3.out.then hb4)
    have WS4 := hid (own_below WS3.out hb4)
    have WP4 := hid (own_below WP3.out hb4)
    obtain ⟨vx, kx, rfl, os4, op4⟩ := own4
    obtain ⟨ax, cx, rfl⟩ := own_sliceS os4
    obtain ⟨ay, cy, rfl⟩ := own_sliceP op4
    have OS4 := hid (ownS_mono os4 (show w.heap.size + 2 ≤ w3.heap.size from lt_of_block HZ3.out))
    have OP4 := hid (ownP_mono op4 (show w.heap.size + 2 ≤ w3.heap.size from lt_of_block HZ3.out))
    clear hb4 os4 op4 HX3 HZ3 HY3 HB3 WS3 WP3 c0 c1 c2 c3 c4 lt0
    simp only [tagCells, S]
    obtain ⟨c0, c1, c2, c3, c4⟩ := box_cells HX4.out
    have lt0 := lt_of_block HX4.out
    have fx0 := frozen_of_row w4 w.heap.size 0 _ _ HX4.out
    have fx1 := frozen_of_row w4 w.heap.size 1 _ _ HX4.out
    have fx2 := frozen_of_row w4 w.heap.size 2 _ _ HX4.out
    have fx3 := frozen_of_row w4 w.heap.size 3 _ _ HX4.out
    have fx4 := frozen_of_row w4 w.heap.size 4 _ _ HX4.out
    go_upto_region 5 with fail
    have ST5 := hid (RaSt.start (t := t) HB4.out HX4.out HZ4.out HY4.out OS4.out OP4.out WS4.out WP4.out LW2.out)
    change Code.wp _ _ _ _ (P5 w4 w.heap.size (.string ⟨t.lang.toArray⟩) (.string ⟨t.script.toArray⟩) (.string ⟨t.region.toArray⟩) (.slice ax t.vars.length cx) (.slice ay t.keys.length cy))
    clear c0 c1 c2 c3 c4 lt0 fx0 fx1 fx2 fx3 fx4 HX4 HZ4 HY4 HB4 OS4 OP4 WS4 WP4 LW2 CO
    generalize P5 w4 w.heap.size (.string ⟨t.lang.toArray⟩) (.string ⟨t.script.toArray⟩) (.string ⟨t.region.toArray⟩) (.slice ax t.vars.length cx) (.slice ay t.keys.length cy) = w5 at *
    generalize w2.heap.size = b6 at *
    obtain ⟨c0, c1, c2, c3, c4⟩ := box_cells ST5.out.x
    have lt0 := lt_of_block ST5.out.x
    simp only [ptOf] at c0 c1 c2
    go_quiet (fail)
    have HB6 := hid (show Below w5.heap.size w5 (w5.drewN nq) from below_drewN (Below.refl _ _) nq)
    have ST6 := hid (ST5.out.below HB6.out)
    generalize w5.drewN nq = w6 at *
    clear c0 c1 c2 c3 c4 lt0 HB6 ST5
    obtain ⟨c0, c1, c2, c3, c4⟩ := box_cells ST6.out.x
    have lt0 := lt_of_block ST6.out.x
    simp only [ptOf] at c0 c1 c2
    obtain ⟨fl, hfl⟩ : ∃ b : Bool, b = decide (t.lang ≠ [] ∧ t.script ≠ [] ∧ t.region ≠ []) := ⟨_, rfl⟩
    go_upto_region 6 with fail
    go_cut [36] from 26 to 37 (fun o wx => o = .bool fl ∧ wx = w6)
    case first =>
      by_cases q0 : t.lang = []
      · have p0 : List.isEmpty t.lang = true := by rw [q0]; rfl
        have HF := hid (show fl = false by rw [hfl]; exact decide_eq_false (fun e => e.1 q0))
        clear hfl q0
        go_wp2_with fail
        all_goals first | exact (isE p0 (by assumption)).elim | skip
        go_meet
        case rel => exact ⟨by rw [HF.out], rfl⟩
      · have p0 : List.isEmpty t.lang = false := isEmpty_no q0
        by_cases q1 : t.script = []
        · have p1 : List.isEmpty t.script = true := by rw [q1]; rfl
          have HF := hid (show fl = false by rw [hfl]; exact decide_eq_false (fun e => e.2.1 q1))
          clear hfl q0 q1
          go_wp2_with fail
          all_goals first | exact (isE p0 (by assumption)).elim | exact (isE p1 (by assumption)).elim | skip
          go_meet
          case rel => exact ⟨by rw [HF.out], rfl⟩
        · have p1 : List.isEmpty t.script = false := isEmpty_no q1
          by_cases q2 : t.region = []
          · have p2 : List.isEmpty t.region = true := by rw [q2]; rfl
            have HF := hid (show fl = false by rw [hfl]; exact decide_eq_false (fun e => e.2.2 q2))
            clear hfl q0 q1 q2
            go_wp2_with fail
            all_goals first | exact (isE p0 (by assumption)).elim | exact (isE p1 (by assumption)).elim | exact (isE p2 (by assumption)).elim | skip
            go_meet
            case rel => exact ⟨by rw [HF.out], rfl⟩
          · have p2 : List.isEmpty t.region = false := isEmpty_no q2
            have HF := hid (show fl = true by rw [hfl]; exact decide_eq_true ⟨q0, q1, q2⟩)
            clear hfl q0 q1 q2
            go_wp2_with fail
            all_goals first | exact (isE p0 (by assumption)).elim | exact (isE p1 (by assumption)).elim | exact (isE p2 (by assumption)).elim | skip
            go_meet
            case rel => exact ⟨by rw [HF.out], rfl⟩
    case rest =>
      obtain ⟨rfl, rfl⟩ := hcut
      by_cases hfull : t.lang ≠ [] ∧ t.script ≠ [] ∧ t.region ≠ []
      · obtain rfl : fl = true := by rw [hfl]; exact decide_eq_true hfull
        have HE := hid (addRF_full (D := D) HRT.out hfull)
        obtain ⟨d0, d1, d2, d3, d4⟩ := box_cells ST6.out.z
        have ltz := lt_of_block ST6.out.z
        have fz0 := frozen_of_row wc (w.heap.size + 1) 0 _ _ ST6.out.z
        have fz1 := frozen_of_row wc (w.heap.size + 1) 1 _ _ ST6.out.z
        have fz2 := frozen_of_row wc (w.heap.size + 1) 2 _ _ ST6.out.z
        have fz3 := frozen_of_row wc (w.heap.size + 1) 3 _ _ ST6.out.z
        have fz4 := frozen_of_row wc (w.heap.size + 1) 4 _ _ ST6.out.z
        clear hfl hfull
        go_wp2_with fail
        change bodyPost _ _ _ _ _ (P5 wc (w.heap.size + 1) (.string ⟨t.lang.toArray⟩) (.string ⟨t.script.toArray⟩) (.string ⟨t.region.toArray⟩) (.slice ax t.vars.length cx) (.slice ay t.keys.length cy))
        exact radd_ret (t' := t) ST6.out.bel ST6.out.z true HE.out ST6.out.os ST6.out.op rfl rfl rfl
      · obtain rfl : fl = false := by rw [hfl]; exact decide_eq_false hfull
        have HNF := hid hfull
        clear hfl hfull c0 c1 c2 c3 c4 lt0
        generalize hW0 : wc = W0 at *
        clear hW0
        obtain ⟨c0, c1, c2, c3, c4⟩ := box_cells ST6.out.x
        have lt0 := lt_of_block ST6.out.x
        simp only [ptOf] at c0 c1 c2
        obtain ⟨f2, hf2⟩ : ∃ b : Bool, b = decide (t.script ≠ [] ∧ t.region ≠ []) := ⟨_, rfl⟩
        go_upto_region 9 with fail
        go_cut [43] from 38 to 44 (fun o wx => o = .bool f2 ∧ wx = W0)
        case first =>
          by_cases q1 : t.script = []
          · have p1 : List.isEmpty t.script = true := by rw [q1]; rfl
            have HF := hid (show f2 = false by rw [hf2]; exact decide_eq_false (fun e => e.1 q1))
            clear hf2 q1
            go_wp2_with fail
            all_goals first | exact (isE p1 (by assumption)).elim | skip
            go_meet
            case rel => exact ⟨by rw [HF.out], rfl⟩
          · have p1 : List.isEmpty t.script = false := isEmpty_no q1
            by_cases q2 : t.region = []
            · have p2 : List.isEmpty t.region = true := by rw [q2]; rfl
              have HF := hid (show f2 = false by rw [hf2]; exact decide_eq_false (fun e => e.2 q2))
              clear hf2 q1 q2
              go_wp2_with fail
              all_goals first | exact (isE p1 (by assumption)).elim | exact (isE p2 (by assumption)).elim | skip
              go_meet
              case rel => exact ⟨by rw [HF.out], rfl⟩
            · have p2 : List.isEmpty t.region = false := isEmpty_no q2
              have HF := hid (show f2 = true by rw [hf2]; exact decide_eq_true ⟨q1, q2⟩)
              clear hf2 q1 q2
              go_wp2_with fail
              all_goals first | exact (isE p1 (by assumption)).elim | exact (isE p2 (by assumption)).elim | skip
              go_meet
              case rel => exact ⟨by rw [HF.out], rfl⟩
        case rest =>
          obtain ⟨rfl, rfl⟩ := hcut
          generalize hW0 : wc = W0 at *
          clear hW0
          go_upto_if 43 with fail
          go_cut [9] from 38 to 83 (fun o wx => Below W0.heap.size W0 wx ∧ OwnS wx W0.heap.size o (rk1 t))
          case first =>
            cases f2 with
            | false =>
              have hn := of_decide_eq_false hf2.symm
              have HR := hid (show rk1 t = [] from if_neg hn)
              clear hn hf2
              go_wp2_with fail
              go_meet
              case rel => exact ⟨Below.refl _ _, by rw [HR.out]; exact World.ownsRow_nil _ _ _ _⟩
            | true =>
              have hn := of_decide_eq_true hf2.symm
              have HR := hid (show rk1 t = [ptKeyR ⟨t.lang, t.script, t.region⟩] from if_pos hn)
              have HLEN := hid (show ([] : List Str).length ≤ 1000000000000 by decide)
              clear hn hf2
              go_wp2_with fail
              with_reducible refine (K3.out _).mono ?_
              rintro e w7 ⟨rfl, hb7⟩
              have HO7 := hid (show OwnS w7 W0.heap.size (.slice none 0 0) [] from World.ownsRow_nil _ _ _ _)
              have HB7 := hid hb7
              have HS7 := hid hb7.size
              clear hb7
              go_wp2_with (at_builtin; refine wpList_raPush rfl (.tmp 44) (.tmp 50) rfl W0.heap.size _ _ (ptKeyR ⟨t.lang, t.script, t.region⟩) rfl HO7.out rfl HLEN.out HS7.out ?_; intro v8 w8 own8 hb8)
              go_meet
              case rel => exact ⟨HB7.out.trans hb8, by rw [HR.out]; exact own8⟩
          case rest =>
            obtain ⟨bel1, own1⟩ := hcut
            have HX := hid (fun W (h : Below W0.heap.size W0 W) => (h.block _ (lt_of_block ST6.out.x)).trans ST6.out.x)
            simp only [ptOf] at HX
            have HB2 := hid bel1
            have HO2 := hid own1
            clear bel1 own1 c0 c1 c2 c3 c4 lt0
            generalize hW1 : wc = W2 at *
            clear hW1
            have ST2x := hid (HX.out _ HB2.out)
            obtain ⟨c0, c1, c2, c3, c4⟩ := box_cells ST2x.out
            have lt0 := lt_of_block ST2x.out
            go_upto_if 53 with fail
            go_cut [9] from 38 to 83 (fun o wx => Below W0.heap.size W0 wx ∧ OwnS wx W0.heap.size o (rk2 t))
            case first =>
              by_cases q : t.region = []
              · have p0 : List.isEmpty t.region = true := by rw [q]; rfl
                have HR := hid (show rk2 t = rk1 t by unfold rk2; rw [if_neg (fun e => e q), List.append_nil])
                clear q
                rw [p0]
                go_wp2_with fail
                go_meet
                case rel => exact ⟨HB2.out, by rw [HR.out]; exact HO2.out⟩
              · have p0 : List.isEmpty t.region = false := isEmpty_no q
                have HR := hid (show rk2 t = rk1 t ++ [ptKeyR ⟨t.lang, [], t.region⟩] by unfold rk2; rw [if_pos q])
                have HLEN := hid (show (rk1 t).length ≤ 1000000000000 by have := HKL.out; omega)
                clear q
                rw [p0]
                go_wp2_with fail
                with_reducible refine (K2.out _).mono ?_
                rintro e w7 ⟨rfl, hb7⟩
                have HO7 := hid (own_below HO2.out hb7)
                have HB7 := hid (HB2.out.then hb7)
                have HS7 := hid HB7.out.size
                clear hb7
                go_wp2_with (at_builtin; refine wpList_raPush rfl (.tmp 54) (.tmp 59) rfl W0.heap.size _ _ (ptKeyR ⟨t.lang, [], t.region⟩) rfl HO7.out rfl HLEN.out HS7.out ?_; intro v8 w8 own8 hb8)
                go_meet
                case rel => exact ⟨HB7.out.trans hb8, by rw [HR.out]; exact own8⟩
            case rest =>
              obtain ⟨bel2, own2⟩ := hcut
              have HB3 := hid bel2
              have HO3 := hid own2
              clear bel2 own2 c0 c1 c2 c3 c4 lt0
              generalize hW1 : wc = W3 at *
              clear hW1
              have ST3x := hid (HX.out _ HB3.out)
              obtain ⟨c0, c1, c2, c3, c4⟩ := box_cells ST3x.out
              have lt0 := lt_of_block ST3x.out
              go_upto_if 62 with fail
              go_cut [9] from 38 to 83 (fun o wx => Below W0.heap.size W0 wx ∧ OwnS wx W0.heap.size o (rk3 t))
              case first =>
                by_cases q : t.script = []
                · have p0 : List.isEmpty t.script = true := by rw [q]; rfl
                  have HR := hid (show rk3 t = rk2 t by unfold rk3; rw [if_neg (fun e => e q), List.append_nil])
                  clear q
                  rw [p0]
                  go_wp2_with fail
                  go_meet
                  case rel => exact ⟨HB3.out, by rw [HR.out]; exact HO3.out⟩
                · have p0 : List.isEmpty t.script = false := isEmpty_no q
                  have HR := hid (show rk3 t = rk2 t ++ [ptKeyR ⟨t.lang, t.script, []⟩] by unfold rk3; rw [if_pos q])
                  have HLEN := hid (show (rk2 t).length ≤ 1000000000000 by have := HKL.out; omega)
                  clear q
                  rw [p0]
                  go_wp2_with fail
                  with_reducible refine (K1.out _).mono ?_
                  rintro e w7 ⟨rfl, hb7⟩
                  have HO7 := hid (own_below HO3.out hb7)
                  have HB7 := hid (HB3.out.then hb7)
                  have HS7 := hid HB7.out.size
                  clear hb7
                  go_wp2_with (at_builtin; refine wpList_raPush rfl (.tmp 63) (.tmp 68) rfl W0.heap.size _ _ (ptKeyR ⟨t.lang, t.script, []⟩) rfl HO7.out rfl HLEN.out HS7.out ?_; intro v8 w8 own8 hb8)
                  go_meet
                  case rel => exact ⟨HB7.out.trans hb8, by rw [HR.out]; exact own8⟩
              case rest =>
                obtain ⟨bel3, own3⟩ := hcut
                have HB4 := hid bel3
                have HO4 := hid own3
                clear bel3 own3 c0 c1 c2 c3 c4 lt0
                generalize hW1 : wc = W4 at *
                clear hW1
                have ST4x := hid (HX.out _ HB4.out)
                obtain ⟨c0, c1, c2, c3, c4⟩ := box_cells ST4x.out
                have lt0 := lt_of_block ST4x.out
                have HR := hid (show rk4 t = rk3 t ++ [ptKeyR ⟨t.lang, [], []⟩] from rfl)
                have HLEN := hid (show (rk3 t).length ≤ 1000000000000 by have := HKL.out; omega)
                go_wp2_with fail
                with_reducible refine (K0.out _).mono ?_
                rintro e w7 ⟨rfl, hb7⟩
                have HO7 := hid (own_below HO4.out hb7)
                have HB7 := hid (HB4.out.then hb7)
                have HS7 := hid HB7.out.size
                clear hb7
                go_upto_region 16 with (at_builtin; refine wpList_raPush rfl (.tmp 70) (.tmp 74) rfl W0.heap.size _ _ (ptKeyR ⟨t.lang, [], []⟩) rfl HO7.out rfl HLEN.out HS7.out ?_; intro v8 w8 own8 hb8)
                have bel4 := HB7.out.trans hb8
                have own4 := own8
                rw [← HR.out] at own4
                clear hb8 own8
                rename World => wc
                clear HO7 HB7 HS7 HB4 HO4 HR HLEN ST4x
                have HB5 := hid bel4
                have HO5 := hid own4
                clear bel4 own4 c0 c1 c2 c3 c4 lt0
                generalize hW1 : wc = W5 at *
                clear hW1
                have ST5x := hid (HX.out _ HB5.out)
                obtain ⟨c0, c1, c2, c3, c4⟩ := box_cells ST5x.out
                have lt0 := lt_of_block ST5x.out
                go_upto_if 77 with fail
                go_cut [9] from 38 to 83 (fun o wx => Below W0.heap.size W0 wx ∧ OwnS wx W0.heap.size o (rk5 t))
                case first =>
                  by_cases q : t.script = []
                  · have p0 : List.isEmpty t.script = true := by rw [q]; rfl
                    have HR := hid (show rk5 t = rk4 t by unfold rk5; rw [if_neg (fun e => e q), List.append_nil])
                    clear q
                    rw [p0]
                    go_wp2_with fail
                    go_meet
                    case rel => exact ⟨HB5.out, by rw [HR.out]; exact HO5.out⟩
                  · have p0 : List.isEmpty t.script = false := isEmpty_no q
                    have HR := hid (show rk5 t = rk4 t ++ [ptKeyR ⟨[], t.script, []⟩] by unfold rk5; rw [if_pos q])
                    have HLEN := hid (show (rk4 t).length ≤ 1000000000000 by have := HKL.out; omega)
                    clear q
                    rw [p0]
                    go_wp2_with fail
                    with_reducible refine (KS.out _).mono ?_
                    rintro e w7 ⟨rfl, hb7⟩
                    have HO7 := hid (own_below HO5.out hb7)
                    have HB7 := hid (HB5.out.then hb7)
                    have HS7 := hid HB7.out.size
                    clear hb7
                    go_wp2_with (at_builtin; refine wpList_raPush rfl (.tmp 78) (.tmp 81) rfl W0.heap.size _ _ (ptKeyR ⟨[], t.script, []⟩) rfl HO7.out rfl HLEN.out HS7.out ?_; intro v8 w8 own8 hb8)
                    go_meet
                    case rel => exact ⟨HB7.out.trans hb8, by rw [HR.out]; exact own8⟩
                case rest =>
                  obtain ⟨bel5, own5⟩ := hcut
                  have HB6 := hid bel5
                  rw [HKA.out] at own5
                  obtain ⟨a9, e9, rfl⟩ := own_sliceS own5
                  have HRS := hid own5.rd
                  have HKN := hid (show (keysRF t).length ≤ 1000 by rw [← HKA.out]; exact HKL.out.2.2.2.2)
                  have ST7 := hid (ST6.out.below HB6.out)
                  clear bel5 own5 c0 c1 c2 c3 c4 lt0 HX HB5 HO5 ST5x ST6 HB6 HKA HKL K0 K1 K2 K3 KS
                  generalize hW1 : wc = W6 at *
                  clear hW1
                  have HIT := hid (fun n hn => @fk_hit D (keysRF t) n hn)
                  have HNO := hid (@fk_no D (keysRF t))
                  have AY := hid (fun x => @addRF_yes D t x HRT.out HNF.out)
                  have AN := hid (fun x => @addRF_no D t x HRT.out HNF.out)
                  have AE := hid (@addRF_none D t HRT.out HNF.out)
                  generalize keysRF t = ks at *
                  obtain ⟨ao9, cp9, hv9, _, hc9⟩ := HRS.out
                  cases hv9
                  have HC9 := hid hc9
                  clear hc9 HRS HRT HNF
                  go_wp2_with fail
                  go_loopg [85] ks.length (fun g vi W => ∃ n : Nat, n ≤ ks.length ∧ ks.length ≤ n + g ∧ vi = .int .i64 n ∧ (∀ j (hj : j < ks.length), j < n → (findR D (ks[j]'hj)).2 = false) ∧ Below W6.heap.size W6 W)
                  case atStart => exact ⟨0, Nat.zero_le _, by omega, rfl, fun j _ hj => by omega, Below.refl _ _⟩
                  case round =>
                    obtain ⟨n, hn, hg, rfl, hno, hbl⟩ := hrel
                    rename World => w7
                    have HG := hid hg
                    have HN := hid hno
                    have HBL := hid hbl
                    clear hg hno hbl
                    have ST := hid (ST7.out.below HBL.out)
                    by_cases hlt : n < ks.length
                    · have hne : ks ≠ [] := by intro e; rw [e] at hlt; simp at hlt
                      obtain ⟨p1, o1, rfl, hp1, hc1⟩ := HC9.out hne
                      have q1 := (HBL.out.cell (p := ⟨p1, o1 + n, none⟩) hp1).trans (hc1 n _ (List.getElem?_eq_getElem hlt))
                      obtain ⟨k, hkk⟩ : ∃ k, k = ks[n]'hlt := ⟨_, rfl⟩
                      rw [← hkk, S] at q1
                      have HK := hid hkk
                      have hni : (n : Int) < (ks.length : Int) := by omega
                      have hn0 : (0 : Int) ≤ (n : Int) := by omega
                      have HITN := hid (HIT.out n hlt HN.out)
                      rw [← hkk] at HITN
                      have HFALSE := hid (fun (h : (findR D k).2 = false) => show ∀ j (hj : j < ks.length), j < n + 1 → (findR D (ks[j]'hj)).2 = false from fun j hj hjn => by
                        by_cases e : j = n
                        · subst e; rw [← HK.out]; exact h
                        · exact HN.out j hj (by omega))
                      clear hkk hc1 hne
                      go_wp2_with fail
                      with_reducible refine (FI.out _ k ST.out.bel).mono ?_
                      rintro e w9 ⟨a1, g1, a2, g2, rfl, hb9⟩
                      have ST9 := hid (ST.out.below hb9)
                      have HBL9 := hid (HBL.out.trans (hb9.mono (HBL.out.size)))
                      generalize hok : (findR D k).2 = ok at *
                      generalize hx : (findR D k).1 = x at *
                      clear hok hx hb9 q1 ST
                      go_upto_region 22 with fail
                      have HBA := hid ((Below.refl w9.heap.size w9).alloc (Nat.le_refl _) (.cells #[.string ⟨x.lang.toArray⟩, .string ⟨x.script.toArray⟩, .string ⟨x.region.toArray⟩, .slice a1 x.vars.length g1, .slice a2 x.keys.length g2] 25))
                      have HXB := hid (heap_alloc_new w9 (.cells #[.string ⟨x.lang.toArray⟩, .string ⟨x.script.toArray⟩, .string ⟨x.region.toArray⟩, .slice a1 x.vars.length g1, .slice a2 x.keys.length g2] 25))
                      generalize w9.alloc (.cells #[.string ⟨x.lang.toArray⟩, .string ⟨x.script.toArray⟩, .string ⟨x.region.toArray⟩, .slice a1 x.vars.length g1, .slice a2 x.keys.length g2] 25) = w10 at *
                      have ST := hid (ST9.out.below HBA.out)
                      have HBL10 := hid (HBL9.out.trans (HBA.out.mono HBL9.out.size))
                      have LB := hid (lt_of_block ST9.out.x)
                      clear HBA HBL9 ST9
                      generalize w9.heap.size = b12 at *
                      cases ok with
                      | false =>
                        have HFF := hid (HFALSE.out rfl)
                        clear HFALSE HITN
                        go_wp2_with fail
                        go_roundg (gk - 1)
                        case measure => have := HG.out; omega
                        case rel => exact ⟨n + 1, by omega, by have := HG.out; omega, by simp, HFF.out, HBL10.out⟩
                      | true =>
                        have HFK := hid (HITN.out rfl)
                        clear HFALSE HITN
                        obtain ⟨c0, c1, c2, c3, c4⟩ := box_cells ST.out.x
                        obtain ⟨d0, d1, d2, d3, d4⟩ := box_cells HXB.out
                        have lt0 := lt_of_block ST.out.x
                        have ltd := lt_of_block HXB.out
                        simp only [ptOf] at c0 c1 c2
                        have fx := frozen_of_row w10 w.heap.size 0 _ _ ST.out.x
                        go_upto_if 98 with fail
                        go_cut [] from 96 to 117 (fun wx => RaSt w t ⟨orStr t.lang x.lang, t.script, t.region⟩ (.slice ax t.vars.length cx) (.slice ay t.keys.length cy) (.slice aw t.vars.length cw) (.slice al t.keys.length cl) b6 wx ∧ wx.heap[b12]? = some (.cells #[.string ⟨x.lang.toArray⟩, .string ⟨x.script.toArray⟩, .string ⟨x.region.toArray⟩, .slice a1 x.vars.length g1, .slice a2 x.keys.length g2] 25 (0, 0)))
                        case first =>
                          by_cases q : t.lang = []
                          · have p0 : List.isEmpty t.lang = true := by rw [q]; rfl
                            have HR := hid (show orStr t.lang x.lang = x.lang from if_pos q)
                            clear q
                            rw [p0]
                            go_wp2_with fail
                            go_meet
                            case rel => exact ⟨by rw [HR.out]; exact ST.out.set0 x.lang, (heap_setCell_other _ _ _ _ (by have := LB.out; simp; omega)).trans HXB.out⟩
                          · have p0 : List.isEmpty t.lang = false := isEmpty_no q
                            have HR := hid (show orStr t.lang x.lang = t.lang from if_neg q)
                            clear q
                            rw [p0]
                            go_wp2_with fail
                            go_meet
                            case rel => exact ⟨by rw [HR.out]; exact ST.out, HXB.out⟩
                        case rest =>
                          obtain ⟨st, hxb⟩ := hcut
                          clear ST HXB c0 c1 c2 c3 c4 lt0 d0 d1 d2 d3 d4 ltd fx
                          have ST := hid st
                          have HXB := hid hxb
                          clear st hxb
                          obtain ⟨c0, c1, c2, c3, c4⟩ := box_cells ST.out.x
                          obtain ⟨d0, d1, d2, d3, d4⟩ := box_cells HXB.out
                          have lt0 := lt_of_block ST.out.x
                          have ltd := lt_of_block HXB.out
                          simp only [ptOf] at c0 c1 c2
                          have fx := frozen_of_row wc w.heap.size 1 _ _ ST.out.x
                          go_upto_if 103 with fail
                          go_cut [] from 96 to 117 (fun wx => RaSt w t ⟨orStr t.lang x.lang, orStr t.script x.script, t.region⟩ (.slice ax t.vars.length cx) (.slice ay t.keys.length cy) (.slice aw t.vars.length cw) (.slice al t.keys.length cl) b6 wx ∧ wx.heap[b12]? = some (.cells #[.string ⟨x.lang.toArray⟩, .string ⟨x.script.toArray⟩, .string ⟨x.region.toArray⟩, .slice a1 x.vars.length g1, .slice a2 x.keys.length g2] 25 (0, 0)))
                          case first =>
                            by_cases q : t.script = []
                            · have p0 : List.isEmpty t.script = true := by rw [q]; rfl
                              have HR := hid (show orStr t.script x.script = x.script from if_pos q)
                              clear q
                              rw [p0]
                              go_wp2_with fail
                              go_meet
                              case rel => exact ⟨by rw [HR.out]; exact ST.out.set1 x.script, (heap_setCell_other _ _ _ _ (by have := LB.out; simp; omega)).trans HXB.out⟩
                            · have p0 : List.isEmpty t.script = false := isEmpty_no q
                              have HR := hid (show orStr t.script x.script = t.script from if_neg q)
                              clear q
                              rw [p0]
                              go_wp2_with fail
                              go_meet
                              case rel => exact ⟨by rw [HR.out]; exact ST.out, HXB.out⟩
                          case rest =>
                            obtain ⟨st, hxb⟩ := hcut
                            clear ST HXB c0 c1 c2 c3 c4 lt0 d0 d1 d2 d3 d4 ltd fx
                            have ST := hid st
                            have HXB := hid hxb
                            clear st hxb
                            obtain ⟨c0, c1, c2, c3, c4⟩ := box_cells ST.out.x
                            obtain ⟨d0, d1, d2, d3, d4⟩ := box_cells HXB.out
                            have lt0 := lt_of_block ST.out.x
                            have ltd := lt_of_block HXB.out
                            simp only [ptOf] at c0 c1 c2
                            have fx := frozen_of_row wc w.heap.size 2 _ _ ST.out.x
                            go_upto_if 108 with fail
                            go_cut [] from 96 to 117 (fun wx => RaSt w t ⟨orStr t.lang x.lang, orStr t.script x.script, orStr t.region x.region⟩ (.slice ax t.vars.length cx) (.slice ay t.keys.length cy) (.slice aw t.vars.length cw) (.slice al t.keys.length cl) b6 wx ∧ wx.heap[b12]? = some (.cells #[.string ⟨x.lang.toArray⟩, .string ⟨x.script.toArray⟩, .string ⟨x.region.toArray⟩, .slice a1 x.vars.length g1, .slice a2 x.keys.length g2] 25 (0, 0)))
                            case first =>
                              by_cases q : t.region = []
                              · have p0 : List.isEmpty t.region = true := by rw [q]; rfl
                                have HR := hid (show orStr t.region x.region = x.region from if_pos q)
                                clear q
                                rw [p0]
                                go_wp2_with fail
                                go_meet
                                case rel => exact ⟨by rw [HR.out]; exact ST.out.set2 x.region, (heap_setCell_other _ _ _ _ (by have := LB.out; simp; omega)).trans HXB.out⟩
                              · have p0 : List.isEmpty t.region = false := isEmpty_no q
                                have HR := hid (show orStr t.region x.region = t.region from if_neg q)
                                clear q
                                rw [p0]
                                go_wp2_with fail
                                go_meet
                                case rel => exact ⟨by rw [HR.out]; exact ST.out, HXB.out⟩
                            case rest =>
                              obtain ⟨st, hxb⟩ := hcut
                              clear ST HXB c0 c1 c2 c3 c4 lt0 d0 d1 d2 d3 d4 ltd fx
                              have ST := hid st
                              have HXB := hid hxb
                              clear st hxb
                              obtain ⟨c0, c1, c2, c3, c4⟩ := box_cells ST.out.x
                              obtain ⟨d0, d1, d2, d3, d4⟩ := box_cells HXB.out
                              have lt0 := lt_of_block ST.out.x
                              have ltd := lt_of_block HXB.out
                              simp only [ptOf] at c0 c1 c2
                              have fx := frozen_of_row wc w.heap.size 3 _ _ ST.out.x
                              clear fx HXB d0 d1 d2 d3 d4 ltd
                              have HMQ := hid (show (printR (withT t ⟨orStr t.lang x.lang, orStr t.script x.script, orStr t.region x.region⟩)).length ≤ 1000000000 from HQ.out x HFK.out)
                              have HYES := hid (show rightF (withT t ⟨orStr t.lang x.lang, orStr t.script x.script, orStr t.region x.region⟩) = true → addRF D t = (withT t ⟨orStr t.lang x.lang, orStr t.script x.script, orStr t.region x.region⟩, true) from AY.out x HFK.out)
                              have HNOT := hid (show rightF (withT t ⟨orStr t.lang x.lang, orStr t.script x.script, orStr t.region x.region⟩) = false → addRF D t = (t, false) from AN.out x HFK.out)
                              generalize orStr t.lang x.lang = pl at *
                              generalize orStr t.script x.script = ps at *
                              generalize orStr t.region x.region = pr at *
                              try simp only at c0 c1 c2
                              go_wp2_with fail
                              with_reducible refine (RQ.out _ _ _ HMQ.out ST.out.rd).mono ?_
                              rintro e w12 ⟨rfl, hb12⟩
                              have ST12 := hid (ST.out.below hb12)
                              clear hb12 ST c0 c1 c2 c3 c4 lt0
                              obtain ⟨d0, d1, d2, d3, d4⟩ := box_cells ST12.out.z
                              have ltz := lt_of_block ST12.out.z
                              have fz0 := frozen_of_row w12 (w.heap.size + 1) 0 _ _ ST12.out.z
                              have fz1 := frozen_of_row w12 (w.heap.size + 1) 1 _ _ ST12.out.z
                              have fz2 := frozen_of_row w12 (w.heap.size + 1) 2 _ _ ST12.out.z
                              have fz3 := frozen_of_row w12 (w.heap.size + 1) 3 _ _ ST12.out.z
                              have fz4 := frozen_of_row w12 (w.heap.size + 1) 4 _ _ ST12.out.z
                              by_cases hrm : rightF (withT t ⟨pl, ps, pr⟩) = true
                              · rw [hrm]
                                have HE := hid (HYES.out hrm)
                                clear hrm HYES HNOT
                                obtain ⟨c0, c1, c2, c3, c4⟩ := box_cells ST12.out.x
                                have lt0 := lt_of_block ST12.out.x
                                try simp only at c0 c1 c2
                                go_wp2_with fail
                                change bodyPost _ _ _ _ _ (P5 w12 (w.heap.size + 1) (.string ⟨pl.toArray⟩) (.string ⟨ps.toArray⟩) (.string ⟨pr.toArray⟩) (.slice ax t.vars.length cx) (.slice ay t.keys.length cy))
                                exact radd_ret (t' := withT t ⟨pl, ps, pr⟩) ST12.out.bel ST12.out.z true HE.out ST12.out.os ST12.out.op rfl rfl rfl
                              · have hrf : rightF (withT t ⟨pl, ps, pr⟩) = false := by simpa using hrm
                                rw [hrf]
                                have HE := hid (HNOT.out hrf)
                                clear hrm hrf HYES HNOT
                                obtain ⟨c0, c1, c2, c3, c4⟩ := box_cells ST12.out.y
                                have lt0 := lt_of_block ST12.out.y
                                go_wp2_with fail
                                change bodyPost _ _ _ _ _ (P5 w12 (w.heap.size + 1) (.string ⟨t.lang.toArray⟩) (.string ⟨t.script.toArray⟩) (.string ⟨t.region.toArray⟩) (.slice aw t.vars.length cw) (.slice al t.keys.length cl))
                                exact radd_ret (t' := t) ST12.out.bel ST12.out.z false HE.out ST12.out.ws ST12.out.wp rfl rfl rfl
                    · have hnl : n = ks.length := by omega
                      subst hnl
                      have HE := hid (AE.out (HNO.out (fun j hj => HN.out j hj hj)))
                      obtain ⟨c0, c1, c2, c3, c4⟩ := box_cells ST.out.x
                      have lt0 := lt_of_block ST.out.x
                      simp only [ptOf] at c0 c1 c2
                      obtain ⟨d0, d1, d2, d3, d4⟩ := box_cells ST.out.z
                      have ltz := lt_of_block ST.out.z
                      have fz0 := frozen_of_row w7 (w.heap.size + 1) 0 _ _ ST.out.z
                      have fz1 := frozen_of_row w7 (w.heap.size + 1) 1 _ _ ST.out.z
                      have fz2 := frozen_of_row w7 (w.heap.size + 1) 2 _ _ ST.out.z
                      have fz3 := frozen_of_row w7 (w.heap.size + 1) 3 _ _ ST.out.z
                      have fz4 := frozen_of_row w7 (w.heap.size + 1) 4 _ _ ST.out.z
                      clear hlt
                      go_wp2_with fail
                      change bodyPost _ _ _ _ _ (P5 w7 (w.heap.size + 1) (.string ⟨t.lang.toArray⟩) (.string ⟨t.script.toArray⟩) (.string ⟨t.region.toArray⟩) (.slice ax t.vars.length cx) (.slice ay t.keys.length cy))
                      exact radd_ret (t' := t) ST.out.bel ST.out.z false HE.out ST.out.os ST.out.op rfl rfl rfl
end Go.Proofs.YtlmgmifaknlolaaGreat

/- The contract of the reference's Remove. -/
set_option linter.unusedVariables false
set_option linter.unusedSimpArgs false
namespace Go.Proofs.YtlmgmifaknlolaaGreat
open Go.RowKit Go.Lib Go.Sort

/-- what Add asks of a tag's sizes -/
def AddOk (D : List (Str × Str)) (t : Tg) : Prop := t.vars.length ≤ 1000 ∧ t.keys.length ≤ 1000 ∧ (printR t).length ≤ 1000000000 ∧ (∀ x, findKeys D (keysRF t) = some x → (printR (withT t (fillP (ptOf t) (ptOf x)))).length ≤ 1000000000) ∧ t.lang.length ≤ 100000000 ∧ t.script.length ≤ 100000000 ∧ t.region.length ≤ 100000000
theorem radd_ok (w : World) (va : Value) (ao : Option Addr) (cp : Nat) (D : List (Str × Str)) (t : Tg) (hl : RdP w (.slice ao D.length cp) D) (hp : PSz D) (hsz : D.length ≤ 10000000000) (hT : RdT w va t) (h : AddOk D t) :
    Calls Tryz.prog 13 #[.slice ao D.length cp, va] w fun e w' => TagOut w (addRF D t) e w' := by
  obtain ⟨h1, h2, h3, h4, h5, h6, h7⟩ := h
  exact radd_any w va ao cp D t hl hp hsz hT h1 h2 h3 h4 h5 h6 h7
/-- a tag of parts alone, as a value -/
def ptTag (p : Pt) : Value := .agg #[.string ⟨p.l.toArray⟩, .string ⟨p.s.toArray⟩, .string ⟨p.r.toArray⟩, .slice none 0 0, .slice none 0 0]
def restP (m : Pt) : List Pt := leftKeys m ++ [m]
theorem rest_len (m : Pt) : (restP m).length = 4 := rfl
set_option maxRecDepth 100000 in
theorem index4_0 (w : World) (a b c : Str) : (Instr.index 66 (.agg #[.string ⟨a.toArray⟩, .string ⟨#[]⟩, .string ⟨#[]⟩, .slice none 0 0, .slice none 0 0, .string ⟨a.toArray⟩, .string ⟨#[]⟩, .string ⟨c.toArray⟩, .slice none 0 0, .slice none 0 0, .string ⟨a.toArray⟩, .string ⟨b.toArray⟩, .string ⟨#[]⟩, .slice none 0 0, .slice none 0 0, .string ⟨a.toArray⟩, .string ⟨b.toArray⟩, .string ⟨c.toArray⟩, .slice none 0 0, .slice none 0 0]) (.int .i64 (0 : Nat))).run Tryz.prog w = .ok (.agg #[.string ⟨a.toArray⟩, .string ⟨#[]⟩, .string ⟨#[]⟩, .slice none 0 0, .slice none 0 0]) w := by kernel_rfl
set_option maxRecDepth 100000 in
theorem index4_1 (w : World) (a b c : Str) : (Instr.index 66 (.agg #[.string ⟨a.toArray⟩, .string ⟨#[]⟩, .string ⟨#[]⟩, .slice none 0 0, .slice none 0 0, .string ⟨a.toArray⟩, .string ⟨#[]⟩, .string ⟨c.toArray⟩, .slice none 0 0, .slice none 0 0, .string ⟨a.toArray⟩, .string ⟨b.toArray⟩, .string ⟨#[]⟩, .slice none 0 0, .slice none 0 0, .string ⟨a.toArray⟩, .string ⟨b.toArray⟩, .string ⟨c.toArray⟩, .slice none 0 0, .slice none 0 0]) (.int .i64 (1 : Nat))).run Tryz.prog w = .ok (.agg #[.string ⟨a.toArray⟩, .string ⟨#[]⟩, .string ⟨c.toArray⟩, .slice none 0 0, .slice none 0 0]) w := by kernel_rfl
set_option maxRecDepth 100000 in
theorem index4_2 (w : World) (a b c : Str) : (Instr.index 66 (.agg #[.string ⟨a.toArray⟩, .string ⟨#[]⟩, .string ⟨#[]⟩, .slice none 0 0, .slice none 0 0, .string ⟨a.toArray⟩, .string ⟨#[]⟩, .string ⟨c.toArray⟩, .slice none 0 0, .slice none 0 0, .string ⟨a.toArray⟩, .string ⟨b.toArray⟩, .string ⟨#[]⟩, .slice none 0 0, .slice none 0 0, .string ⟨a.toArray⟩, .string ⟨b.toArray⟩, .string ⟨c.toArray⟩, .slice none 0 0, .slice none 0 0]) (.int .i64 (2 : Nat))).run Tryz.prog w = .ok (.agg #[.string ⟨a.toArray⟩, .string ⟨b.toArray⟩, .string ⟨#[]⟩, .slice none 0 0, .slice none 0 0]) w := by kernel_rfl
set_option maxRecDepth 100000 in
theorem index4_3 (w : World) (a b c : Str) : (Instr.index 66 (.agg #[.string ⟨a.toArray⟩, .string ⟨#[]⟩, .string ⟨#[]⟩, .slice none 0 0, .slice none 0 0, .string ⟨a.toArray⟩, .string ⟨#[]⟩, .string ⟨c.toArray⟩, .slice none 0 0, .slice none 0 0, .string ⟨a.toArray⟩, .string ⟨b.toArray⟩, .string ⟨#[]⟩, .slice none 0 0, .slice none 0 0, .string ⟨a.toArray⟩, .string ⟨b.toArray⟩, .string ⟨c.toArray⟩, .slice none 0 0, .slice none 0 0]) (.int .i64 (3 : Nat))).run Tryz.prog w = .ok (.agg #[.string ⟨a.toArray⟩, .string ⟨b.toArray⟩, .string ⟨c.toArray⟩, .slice none 0 0, .slice none 0 0]) w := by kernel_rfl
theorem index4 (w : World) (a b c : Str) (n : Nat) (p : Pt) (hp : (restP ⟨a, b, c⟩)[n]? = some p) :
    (Instr.index 66 (.agg #[.string ⟨a.toArray⟩, .string ⟨#[]⟩, .string ⟨#[]⟩, .slice none 0 0, .slice none 0 0, .string ⟨a.toArray⟩, .string ⟨#[]⟩, .string ⟨c.toArray⟩, .slice none 0 0, .slice none 0 0, .string ⟨a.toArray⟩, .string ⟨b.toArray⟩, .string ⟨#[]⟩, .slice none 0 0, .slice none 0 0, .string ⟨a.toArray⟩, .string ⟨b.toArray⟩, .string ⟨c.toArray⟩, .slice none 0 0, .slice none 0 0]) (.int .i64 n)).run Tryz.prog w = .ok (.agg #[.string ⟨p.l.toArray⟩, .string ⟨p.s.toArray⟩, .string ⟨p.r.toArray⟩, .slice none 0 0, .slice none 0 0]) w := by
  have hn : n < 4 := (List.getElem?_eq_some_iff.1 hp).1
  rcases (by omega : n = 0 ∨ n = 1 ∨ n = 2 ∨ n = 3) with rfl | rfl | rfl | rfl
  · have e : (⟨a, [], []⟩ : Pt) = p := Option.some.inj hp
    subst e; exact index4_0 w a b c
  · have e : (⟨a, [], c⟩ : Pt) = p := Option.some.inj hp
    subst e; exact index4_1 w a b c
  · have e : (⟨a, b, []⟩ : Pt) = p := Option.some.inj hp
    subst e; exact index4_2 w a b c
  · have e : (⟨a, b, c⟩ : Pt) = p := Option.some.inj hp
    subst e; exact index4_3 w a b c
theorem ptTag_rd (w : World) (p : Pt) : RdT w (ptTag p) p.tag := ⟨.slice none 0 0, .slice none 0 0, rfl, (OwnS.rd (World.ownsRow_nil w 0 _ _)), (OwnP.rd (World.ownsRow_nil w 0 _ _))⟩
/-- is it the one? -/
def hitP (D : List (Str × Str)) (M : Tg) (p : Pt) : Bool := (addRF D p.tag).2 && decide (ptOf (addRF D p.tag).1 = ptOf M)
theorem rm_find {l : List Pt} {q : Pt → Bool} {n : Nat} (hn : n < l.length) (hno : ∀ j (hj : j < l.length), j < n → q (l[j]'hj) = false) (h : q l[n] = true) : l.find? q = some l[n] := by
  rw [List.find?_eq_some_iff_getElem]
  refine ⟨h, n, hn, rfl, fun j hj => ?_⟩
  have := hno j (by omega) hj
  simpa using this
theorem rm_none {l : List Pt} {q : Pt → Bool} (hno : ∀ j (hj : j < l.length), q (l[j]'hj) = false) : l.find? q = none := by
  rw [List.find?_eq_none]
  intro p hp
  obtain ⟨j, hj, rfl⟩ := List.mem_iff_getElem.1 hp
  rw [hno j hj]; decide
theorem rem_wrong {D : List (Str × Str)} {t : Tg} (h : rightF t = false) : removeRF D t = (Tg.zero, false) := if_pos h
theorem rem_not {D : List (Str × Str)} {t : Tg} (h : rightF t = true) (h2 : (addRF D t).2 = false) : removeRF D t = (t, false) := by
  unfold removeRF; rw [if_neg (by rw [h]; decide), if_pos h2]
theorem rem_hit {D : List (Str × Str)} {t M : Tg} {p : Pt} (h : rightF t = true) (h2 : (addRF D t).2 = true) (hM : (addRF D t).1 = M) (hf : (restP (ptOf M)).find? (hitP D M) = some p) : removeRF D t = (withT t p, true) := by
  subst hM
  unfold removeRF; rw [if_neg (by rw [h]; decide), if_neg (by rw [h2]; decide)]
  unfold restP hitP at hf
  rw [hf]
theorem rem_end {D : List (Str × Str)} {t M : Tg} (h : rightF t = true) (h2 : (addRF D t).2 = true) (hM : (addRF D t).1 = M) (hf : (restP (ptOf M)).find? (hitP D M) = none) : removeRF D t = (M, true) := by
  subst hM
  unfold removeRF; rw [if_neg (by rw [h]; decide), if_neg (by rw [h2]; decide)]
  unfold restP hitP at hf
  rw [hf]

/-- the state of the reference's Remove: the tag's box and the answer's -/
structure RxSt (w : World) (t : Tg) (vv kv : Value) (W : World) : Prop where
  bel : Below w.heap.size w W
  x : W.heap[w.heap.size]? = some (.cells #[.string ⟨t.lang.toArray⟩, .string ⟨t.script.toArray⟩, .string ⟨t.region.toArray⟩, vv, kv] 25 (0, 0))
  z : W.heap[w.heap.size + 1]? = some (.cells #[.string ⟨#[]⟩, .string ⟨#[]⟩, .string ⟨#[]⟩, .slice none 0 0, .slice none 0 0] 25 (0, 0))
  os : OwnS W (w.heap.size + 2) vv t.vars
  op : OwnP W (w.heap.size + 2) kv t.keys
theorem RxSt.below {w W W' : World} {t : Tg} {vv kv : Value} (h : RxSt w t vv kv W) (hb : Below W.heap.size W W') : RxSt w t vv kv W' :=
  ⟨h.bel.then hb, (hb.block _ (lt_of_block h.x)).trans h.x, (hb.block _ (lt_of_block h.z)).trans h.z, own_below h.os hb, own_below h.op hb⟩
theorem RxSt.start {w W : World} {t : Tg} {vx kx z3 z4 : Value} (hb : Below w.heap.size w W) (x : W.heap[w.heap.size]? = some (.cells #[.string ⟨t.lang.toArray⟩, .string ⟨t.script.toArray⟩, .string ⟨t.region.toArray⟩, z3, z4] 25 (0, 0)))
    (z : W.heap[w.heap.size + 1]? = some (.cells #[.string ⟨#[]⟩, .string ⟨#[]⟩, .string ⟨#[]⟩, .slice none 0 0, .slice none 0 0] 25 (0, 0)))
    (os : OwnS W (w.heap.size + 2) vx t.vars) (op : OwnP W (w.heap.size + 2) kx t.keys) :
    RxSt w t vx kx (P5 W w.heap.size (.string ⟨t.lang.toArray⟩) (.string ⟨t.script.toArray⟩) (.string ⟨t.region.toArray⟩) vx kx) :=
  have ne {v : Value} {e : TypeId} {s n : Nat} {xs : List Value} (o : W.ownsRow (w.heap.size + 2) e s v n xs) : v.ownBlock ≠ some w.heap.size := fun e => by have := (World.ownsRow.lt o _ e).1; omega
  ⟨P5_below _ _ _ _ _ hb (Nat.le_refl _), P5_row _ _ _ _ _ x, (P5_other _ _ _ _ _ (by omega)).trans z, P5_own _ _ _ _ _ os (ne os), P5_own _ _ _ _ _ op (ne op)⟩
/-- beside them the box of the tag with its likely parts -/
structure RmSt (w : World) (t M : Tg) (vv kv vm km : Value) (b6 : Nat) (W : World) : Prop where
  s : RxSt w t vv kv W
  y : W.heap[b6]? = some (.cells #[.string ⟨M.lang.toArray⟩, .string ⟨M.script.toArray⟩, .string ⟨M.region.toArray⟩, vm, km] 25 (0, 0))
  ms : OwnS W (w.heap.size + 2) vm M.vars
  mp : OwnP W (w.heap.size + 2) km M.keys
theorem RmSt.below {w W W' : World} {t M : Tg} {vv kv vm km : Value} {b6 : Nat} (h : RmSt w t M vv kv vm km b6 W) (hb : Below W.heap.size W W') : RmSt w t M vv kv vm km b6 W' :=
  ⟨h.s.below hb, (hb.block _ (lt_of_block h.y)).trans h.y, own_below h.ms hb, own_below h.mp hb⟩
theorem RxSt.fin {w W : World} {t : Tg} {vv kv : Value} {b9 : Nat} {p : Pt} {z3 z4 : Value} (h : RxSt w t vv kv W) (hv : W.heap[b9]? = some (.cells #[.string ⟨p.l.toArray⟩, .string ⟨p.s.toArray⟩, .string ⟨p.r.toArray⟩, z3, z4] 25 (0, 0))) (lv : w.heap.size + 1 < b9) (ls : ∀ e, vv.ownBlock = some e → e < b9) (lp : ∀ e, kv.ownBlock = some e → e < b9) :
    RxSt w t vv kv ((W.setCell ⟨b9, 3, none⟩ vv).setCell ⟨b9, 4, none⟩ kv).drew ∧ ((W.setCell ⟨b9, 3, none⟩ vv).setCell ⟨b9, 4, none⟩ kv).drew.heap[b9]? = some (.cells #[.string ⟨p.l.toArray⟩, .string ⟨p.s.toArray⟩, .string ⟨p.r.toArray⟩, vv, kv] 25 (0, 0)) := by
  have n1 : vv.ownBlock ≠ some b9 := fun e => by have := ls _ e; omega
  have n2 : kv.ownBlock ≠ some b9 := fun e => by have := lp _ e; omega
  have r1 : (W.setCell ⟨b9, 3, none⟩ vv).heap[b9]? = some (.cells #[.string ⟨p.l.toArray⟩, .string ⟨p.s.toArray⟩, .string ⟨p.r.toArray⟩, vv, z4] 25 (0, 0)) := by rw [heap_setCell_same _ _ _ _ _ _ hv]; simp
  have r2 : ((W.setCell ⟨b9, 3, none⟩ vv).setCell ⟨b9, 4, none⟩ kv).heap[b9]? = some (.cells #[.string ⟨p.l.toArray⟩, .string ⟨p.s.toArray⟩, .string ⟨p.r.toArray⟩, vv, kv] 25 (0, 0)) := by rw [heap_setCell_same _ _ _ _ _ _ r1]; simp
  have s1 : RxSt w t vv kv (W.setCell ⟨b9, 3, none⟩ vv) := ⟨h.bel.setCell (p := ⟨b9, 3, none⟩) (show w.heap.size ≤ b9 by omega) _, (heap_setCell_other _ _ _ _ (by simp; omega)).trans h.x, (heap_setCell_other _ _ _ _ (by simp; omega)).trans h.z, own_set h.os n1 _ _, own_set h.op n2 _ _⟩
  have s2 : RxSt w t vv kv ((W.setCell ⟨b9, 3, none⟩ vv).setCell ⟨b9, 4, none⟩ kv) := ⟨s1.bel.setCell (p := ⟨b9, 4, none⟩) (show w.heap.size ≤ b9 by omega) _, (heap_setCell_other _ _ _ _ (by simp; omega)).trans s1.x, (heap_setCell_other _ _ _ _ (by simp; omega)).trans s1.z, own_set s1.os n1 _ _, own_set s1.op n2 _ _⟩
  exact ⟨⟨s2.bel.drew, s2.x, s2.z, s2.os, s2.op⟩, r2⟩
/-- the way out of the reference's Remove -/
theorem rrem_ret {w W : World} {t' : Tg} {r : Tg × Bool} (hb : Below w.heap.size w W) (hz : W.heap[w.heap.size + 1]? = some (.cells #[.string ⟨#[]⟩, .string ⟨#[]⟩, .string ⟨#[]⟩, .slice none 0 0, .slice none 0 0] 25 (0, 0))) (b : Bool) (hr : r = (t', b)) {vv kv : Value}
    (os : OwnS W (w.heap.size + 2) vv t'.vars) (op : OwnP W (w.heap.size + 2) kv t'.keys) {a : Act} (hd : a.defers = [])
    (h4 : a.tmps.getD 4 undef = .pointer (some ⟨w.heap.size + 1, 0, none⟩)) (h5 : a.tmps.getD 5 undef = .bool b) :
    bodyPost Tryz.prog Tryz.f20 (fun e w' => TagOut w r e w') Exit.ret a (P5 W (w.heap.size + 1) (.string ⟨t'.lang.toArray⟩) (.string ⟨t'.script.toArray⟩) (.string ⟨t'.region.toArray⟩) vv kv) := by
  have own : OwnT W (w.heap.size + 2) (.agg (tagCells t' vv kv)) t' := ⟨vv, kv, rfl, os, op⟩
  have hrow := P5_row (.string ⟨t'.lang.toArray⟩) (.string ⟨t'.script.toArray⟩) (.string ⟨t'.region.toArray⟩) vv kv hz
  have hw := P5_below (.string ⟨t'.lang.toArray⟩) (.string ⟨t'.script.toArray⟩) (.string ⟨t'.region.toArray⟩) vv kv hb (Nat.le_succ w.heap.size)
  have ho := (own.p5 (by omega : w.heap.size + 1 < w.heap.size + 2) (.string ⟨t'.lang.toArray⟩) (.string ⟨t'.script.toArray⟩) (.string ⟨t'.region.toArray⟩) vv kv).mono (C := w.heap.size) (by omega)
  generalize P5 W (w.heap.size + 1) (.string ⟨t'.lang.toArray⟩) (.string ⟨t'.script.toArray⟩) (.string ⟨t'.region.toArray⟩) vv kv = V at *
  obtain ⟨d0, d1, d2, d3, d4⟩ := box_cells hrow
  subst hr
  refine bodyPost_ret (v := .tuple #[.agg #[.string ⟨t'.lang.toArray⟩, .string ⟨t'.script.toArray⟩, .string ⟨t'.region.toArray⟩, vv, kv], .bool b]) ?_ hd ⟨_, rfl, ho, hw⟩
  obtain ⟨tmps, defers⟩ := a
  simp only [Array.getD_eq_getD_getElem?] at h4 h5
  simp [results, Tryz.results20, go_sem, h4, h5, d0, d1, d2, d3, d4]

set_option maxRecDepth 100000 in
set_option maxHeartbeats 32000000 in
theorem rrem_any (w : World) (va : Value) (ao : Option Addr) (cp : Nat) (D : List (Str × Str)) (t : Tg) (hl : RdP w (.slice ao D.length cp) D) (hp : PSz D) (hsz : D.length ≤ 10000000000) (hT : RdT w va t) (hA : AddOk D t) (hM : ∀ p ∈ restP (ptOf (addRF D t).1), AddOk D p.tag) :
    Calls Tryz.prog 20 #[.slice ao D.length cp, va] w fun e w' => TagOut w (removeRF D t) e w' := by
  have RR := hid (fun W (hb2 : Below w.heap.size w W) => rright_any W va t (hT.below hb2) hA.2.2.1)
  have CO := hid (fun W (hb2 : Below w.heap.size w W) => rcopy_any W va t (hT.below hb2) hA.1 hA.2.1)
  have AD := hid (fun W v m (hb2 : Below w.heap.size w W) (hr : RdT W v m) (h : AddOk D m) => radd_ok W v ao cp D m (hl.below hb2) hp hsz hr h)
  have HA := hid hA
  have HM := hid hM
  obtain ⟨vv, kv, rfl, hS, hP⟩ := hT
  obtain ⟨av, cv, rfl, _, _⟩ := hS
  obtain ⟨ak, ck, rfl, _, _⟩ := hP
  clear hl hp hM hA
  simp only [tagCells, S] at RR CO ⊢
  have HX0 := hid (heap_alloc2_old w (.cells #[.string ⟨t.lang.toArray⟩, .string ⟨t.script.toArray⟩, .string ⟨t.region.toArray⟩, .slice av t.vars.length cv, .slice ak t.keys.length ck] 25) (.cells #[.string ⟨#[]⟩, .string ⟨#[]⟩, .string ⟨#[]⟩, .slice none 0 0, .slice none 0 0] 25))
  have HZ0 := hid (heap_alloc2_new w (.cells #[.string ⟨t.lang.toArray⟩, .string ⟨t.script.toArray⟩, .string ⟨t.region.toArray⟩, .slice av t.vars.length cv, .slice ak t.keys.length ck] 25) (.cells #[.string ⟨#[]⟩, .string ⟨#[]⟩, .string ⟨#[]⟩, .slice none 0 0, .slice none 0 0] 25))
  have HB0 := hid (below2 w (.cells #[.string ⟨t.lang.toArray⟩, .string ⟨t.script.toArray⟩, .string ⟨t.region.toArray⟩, .slice av t.vars.length cv, .slice ak t.keys.length ck] 25) (.cells #[.string ⟨#[]⟩, .string ⟨#[]⟩, .string ⟨#[]⟩, .slice none 0 0, .slice none 0 0] 25))
  go_enter Tryz.func20, Tryz.ntmps20
  go_upto_region 1 with fail
  generalize ((w.alloc (.cells #[.string ⟨t.lang.toArray⟩, .string ⟨t.script.toArray⟩, .string ⟨t.region.toArray⟩, .slice av t.vars.length cv, .slice ak t.keys.length ck] 25)).alloc (.cells #[.string ⟨#[]⟩, .string ⟨#[]⟩, .string ⟨#[]⟩, .slice none 0 0, .slice none 0 0] 25)) = w0 at *
  obtain ⟨c0, c1, c2, c3, c4⟩ := box_cells HX0.out
  have lt0 := lt_of_block HX0.out
  go_wp2_with fail
  with_reducible refine (RR.out _ HB0.out).mono ?_
  rintro e w1 ⟨rfl, hb1⟩
  have HX1 := hid ((hb1.block _ (lt_of_block HX0.out)).trans HX0.out)
  have HZ1 := hid ((hb1.block _ (lt_of_block HZ0.out)).trans HZ0.out)
  have HB1 := hid (HB0.out.then hb1)
  clear hb1 HX0 HZ0 HB0 c0 c1 c2 c3 c4 lt0 RR
  obtain ⟨c0, c1, c2, c3, c4⟩ := box_cells HX1.out
  have lt0 := lt_of_block HX1.out
  by_cases hright : rightF t = false
  · have HE := hid (rem_wrong (D := D) hright)
    rw [hright]
    obtain ⟨d0, d1, d2, d3, d4⟩ := box_cells HZ1.out
    have ltz := lt_of_block HZ1.out
    have fz0 := frozen_of_row w1 (w.heap.size + 1) 0 _ _ HZ1.out
    have fz1 := frozen_of_row w1 (w.heap.size + 1) 1 _ _ HZ1.out
    have fz2 := frozen_of_row w1 (w.heap.size + 1) 2 _ _ HZ1.out
    have fz3 := frozen_of_row w1 (w.heap.size + 1) 3 _ _ HZ1.out
    have fz4 := frozen_of_row w1 (w.heap.size + 1) 4 _ _ HZ1.out
    clear hright
    go_wp2_with fail
    change bodyPost _ _ _ _ _ (P5 w1 (w.heap.size + 1) (.string ⟨#[]⟩) (.string ⟨#[]⟩) (.string ⟨#[]⟩) (.slice none 0 0) (.slice none 0 0))
    exact rrem_ret (t' := Tg.zero) HB1.out HZ1.out false HE.out (World.ownsRow_nil _ _ _ _) (World.ownsRow_nil _ _ _ _) rfl rfl rfl
  · have hright : rightF t = true := by simpa using hright
    rw [hright]
    have HRT := hid hright
    clear hright
    go_wp2_with fail
    with_reducible refine (CO.out _ HB1.out).mono ?_
    rintro e w4 ⟨v4, rfl, own4, hb4⟩
    have HX4 := hid ((hb4.block _ (lt_of_block HX1.out)).trans HX1.out)
    have HZ4 := hid ((hb4.block _ (lt_of_block HZ1.out)).trans HZ1.out)
    have HB4 := hid (HB1.out.then hb4)
    obtain ⟨vx, kx, rfl, os4, op4⟩ := own4
    obtain ⟨ax, cx, rfl⟩ := own_sliceS os4
    obtain ⟨ay, cy, rfl⟩ := own_sliceP op4
    have OS4 := hid (ownS_mono os4 (show w.heap.size + 2 ≤ w1.heap.size from lt_of_block HZ1.out))
    have OP4 := hid (ownP_mono op4 (show w.heap.size + 2 ≤ w1.heap.size from lt_of_block HZ1.out))
    clear hb4 os4 op4 HX1 HZ1 HB1 c0 c1 c2 c3 c4 lt0
    simp only [tagCells, S]
    obtain ⟨c0, c1, c2, c3, c4⟩ := box_cells HX4.out
    have lt0 := lt_of_block HX4.out
    have fx0 := frozen_of_row w4 w.heap.size 0 _ _ HX4.out
    have fx1 := frozen_of_row w4 w.heap.size 1 _ _ HX4.out
    have fx2 := frozen_of_row w4 w.heap.size 2 _ _ HX4.out
    have fx3 := frozen_of_row w4 w.heap.size 3 _ _ HX4.out
    have fx4 := frozen_of_row w4 w.heap.size 4 _ _ HX4.out
    go_upto_region 4 with fail
    have ST5 := hid (RxSt.start (t := t) HB4.out HX4.out HZ4.out OS4.out OP4.out)
    change Code.wp _ _ _ _ (P5 w4 w.heap.size (.string ⟨t.lang.toArray⟩) (.string ⟨t.script.toArray⟩) (.string ⟨t.region.toArray⟩) (.slice ax t.vars.length cx) (.slice ay t.keys.length cy))
    clear c0 c1 c2 c3 c4 lt0 fx0 fx1 fx2 fx3 fx4 HX4 HZ4 HB4 OS4 OP4 CO
    generalize P5 w4 w.heap.size (.string ⟨t.lang.toArray⟩) (.string ⟨t.script.toArray⟩) (.string ⟨t.region.toArray⟩) (.slice ax t.vars.length cx) (.slice ay t.keys.length cy) = w5 at *
    obtain ⟨c0, c1, c2, c3, c4⟩ := box_cells ST5.out.x
    have lt0 := lt_of_block ST5.out.x
    have HRD5 := hid (show RdT w5 (.agg #[.string ⟨t.lang.toArray⟩, .string ⟨t.script.toArray⟩, .string ⟨t.region.toArray⟩, .slice ax t.vars.length cx, .slice ay t.keys.length cy]) t from ⟨_, _, rfl, ST5.out.os.rd, ST5.out.op.rd⟩)
    go_wp2_with fail
    with_reducible refine (AD.out _ _ _ ST5.out.bel HRD5.out HA.out).mono ?_
    rintro e w6 ⟨v6, rfl, own6, hb6⟩
    have ST6 := hid (ST5.out.below hb6)
    have L5 := hid (show w.heap.size + 2 ≤ w5.heap.size from lt_of_block ST5.out.z)
    clear c0 c1 c2 c3 c4 lt0 HRD5 ST5 hb6 HA
    have HNOT := hid (@rem_not D t HRT.out)
    have HHIT := hid (fun p h => @rem_hit D t (addRF D t).1 p HRT.out h rfl)
    have HEND := hid (fun h => @rem_end D t (addRF D t).1 HRT.out h rfl)
    generalize (addRF D t).2 = ok at *
    generalize (addRF D t).1 = M at *
    obtain ⟨vm, km, rfl, os6, op6⟩ := own6
    obtain ⟨am, cm, rfl⟩ := own_sliceS os6
    obtain ⟨an, cn, rfl⟩ := own_sliceP op6
    have OS6 := hid (ownS_mono os6 L5.out)
    have OP6 := hid (ownP_mono op6 L5.out)
    clear os6 op6 L5
    simp only [tagCells, S]
    go_upto_region 5 with fail
    have HBA := hid ((Below.refl w6.heap.size w6).alloc (Nat.le_refl _) (.cells #[.string ⟨M.lang.toArray⟩, .string ⟨M.script.toArray⟩, .string ⟨M.region.toArray⟩, .slice am M.vars.length cm, .slice an M.keys.length cn] 25))
    have HY7 := hid (heap_alloc_new w6 (.cells #[.string ⟨M.lang.toArray⟩, .string ⟨M.script.toArray⟩, .string ⟨M.region.toArray⟩, .slice am M.vars.length cm, .slice an M.keys.length cn] 25))
    generalize w6.alloc (.cells #[.string ⟨M.lang.toArray⟩, .string ⟨M.script.toArray⟩, .string ⟨M.region.toArray⟩, .slice am M.vars.length cm, .slice an M.keys.length cn] 25) = w7 at *
    have ST7 := hid (show RmSt w t M (.slice ax t.vars.length cx) (.slice ay t.keys.length cy) (.slice am M.vars.length cm) (.slice an M.keys.length cn) w6.heap.size w7 from ⟨ST6.out.below HBA.out, HY7.out, own_below OS6.out HBA.out, own_below OP6.out HBA.out⟩)
    clear ST6 HBA HY7 OS6 OP6
    generalize w6.heap.size = b6 at *
    cases ok with
    | false =>
      have HE := hid (HNOT.out rfl)
      obtain ⟨c0, c1, c2, c3, c4⟩ := box_cells ST7.out.s.x
      have lt0 := lt_of_block ST7.out.s.x
      obtain ⟨d0, d1, d2, d3, d4⟩ := box_cells ST7.out.s.z
      have ltz := lt_of_block ST7.out.s.z
      have fz0 := frozen_of_row w7 (w.heap.size + 1) 0 _ _ ST7.out.s.z
      have fz1 := frozen_of_row w7 (w.heap.size + 1) 1 _ _ ST7.out.s.z
      have fz2 := frozen_of_row w7 (w.heap.size + 1) 2 _ _ ST7.out.s.z
      have fz3 := frozen_of_row w7 (w.heap.size + 1) 3 _ _ ST7.out.s.z
      have fz4 := frozen_of_row w7 (w.heap.size + 1) 4 _ _ ST7.out.s.z
      go_wp2_with fail
      change bodyPost _ _ _ _ _ (P5 w7 (w.heap.size + 1) (.string ⟨t.lang.toArray⟩) (.string ⟨t.script.toArray⟩) (.string ⟨t.region.toArray⟩) (.slice ax t.vars.length cx) (.slice ay t.keys.length cy))
      exact rrem_ret (t' := t) ST7.out.s.bel ST7.out.s.z false HE.out ST7.out.s.os ST7.out.s.op rfl rfl rfl
    | true =>
      have HH := hid (fun p => HHIT.out p rfl)
      have HN := hid (HEND.out rfl)
      clear HHIT HEND HNOT
      obtain ⟨c0, c1, c2, c3, c4⟩ := box_cells ST7.out.y
      have lt0 := lt_of_block ST7.out.y
      have HIX := hid (fun W n p (hp : (restP (ptOf M))[n]? = some p) => index4 W M.lang M.script M.region n p hp)
      go_wp2_with fail
      go_loopg [48] 4 (fun g vi W => ∃ n : Nat, n ≤ 4 ∧ 4 ≤ n + g ∧ vi = .int .i64 n ∧ (∀ j (hj : j < (restP (ptOf M)).length), j < n → hitP D M ((restP (ptOf M))[j]'hj) = false) ∧ RmSt w t M (.slice ax t.vars.length cx) (.slice ay t.keys.length cy) (.slice am M.vars.length cm) (.slice an M.keys.length cn) b6 W)
      case atStart => exact ⟨0, Nat.zero_le _, by omega, rfl, fun j _ hj => by omega, ST7.out⟩
      case round =>
        obtain ⟨n, hn, hg, rfl, hno, st⟩ := hrel
        rename World => w8
        clear c0 c1 c2 c3 c4 lt0
        have HG := hid hg
        have HNO := hid hno
        have ST := hid st
        clear hg hno st ST7
        by_cases hlt : n < 4
        · have hlt2 : n < (restP (ptOf M)).length := hlt
          obtain ⟨p, hpk⟩ : ∃ p, p = (restP (ptOf M))[n]'hlt2 := ⟨_, rfl⟩
          have HPK := hid hpk
          have HAP := hid (show AddOk D p.tag from HM.out p (by rw [hpk]; exact List.getElem_mem hlt2))
          have hix := HIX.out w8 n p (by rw [List.getElem?_eq_getElem hlt2, hpk])
          have hni : (n : Int) < 4 := by omega
          have hn0 : (0 : Int) ≤ (n : Int) := by omega
          have HHIT := hid (fun h => HH.out p (by rw [hpk]; exact rm_find hlt2 HNO.out (by rw [← hpk]; exact h)))
          have HMISS := hid (fun (h : hitP D M p = false) => show ∀ j (hj : j < (restP (ptOf M)).length), j < n + 1 → hitP D M ((restP (ptOf M))[j]'hj) = false from fun j hj hjn => by
            by_cases e : j = n
            · subst e; rw [← HPK.out]; exact h
            · exact HNO.out j hj (by omega))
          clear hpk
          go_upto_region 10 with fail
          have HBA := hid ((Below.refl w8.heap.size w8).alloc (Nat.le_refl _) (.cells #[.string ⟨p.l.toArray⟩, .string ⟨p.s.toArray⟩, .string ⟨p.r.toArray⟩, .slice none 0 0, .slice none 0 0] 25))
          have HV9 := hid (heap_alloc_new w8 (.cells #[.string ⟨p.l.toArray⟩, .string ⟨p.s.toArray⟩, .string ⟨p.r.toArray⟩, .slice none 0 0, .slice none 0 0] 25))
          have LV := hid (lt_of_block ST.out.s.z)
          have LS := hid (fun e h => (World.ownsRow.lt ST.out.s.os e h).2)
          have LP := hid (fun e h => (World.ownsRow.lt ST.out.s.op e h).2)
          generalize w8.alloc (.cells #[.string ⟨p.l.toArray⟩, .string ⟨p.s.toArray⟩, .string ⟨p.r.toArray⟩, .slice none 0 0, .slice none 0 0] 25) = w9 at *
          have ST9 := hid (ST.out.below HBA.out)
          clear HBA ST hix
          generalize w8.heap.size = b9 at *
          obtain ⟨d0, d1, d2, d3, d4⟩ := box_cells HV9.out
          have ltd := lt_of_block HV9.out
          have HRD9 := hid (ptTag_rd w9 p)
          simp only [ptTag] at HRD9
          go_wp2_with fail
          with_reducible refine (AD.out _ _ _ ST9.out.s.bel HRD9.out HAP.out).mono ?_
          rintro e w10 ⟨v10, rfl, own10, hb10⟩
          have ST10 := hid (ST9.out.below hb10)
          have HV10 := hid ((hb10.block _ (lt_of_block HV9.out)).trans HV9.out)
          have HHD := hid (show hitP D M p = ((addRF D p.tag).2 && decide (ptOf (addRF D p.tag).1 = ptOf M)) from rfl)
          generalize hitP D M p = fb at *
          generalize (addRF D p.tag).2 = ok at *
          generalize (addRF D p.tag).1 = y at *
          obtain ⟨a1, g1, a2, g2, rfl⟩ := own10.shape
          clear own10 hb10 HRD9 HAP ST9 HV9 d0 d1 d2 d3 d4 ltd
          simp only
          go_upto_region 11 with fail
          have HBA := hid ((Below.refl w10.heap.size w10).alloc (Nat.le_refl _) (.cells #[.string ⟨y.lang.toArray⟩, .string ⟨y.script.toArray⟩, .string ⟨y.region.toArray⟩, .slice a1 y.vars.length g1, .slice a2 y.keys.length g2] 25))
          have HY11 := hid (heap_alloc_new w10 (.cells #[.string ⟨y.lang.toArray⟩, .string ⟨y.script.toArray⟩, .string ⟨y.region.toArray⟩, .slice a1 y.vars.length g1, .slice a2 y.keys.length g2] 25))
          generalize w10.alloc (.cells #[.string ⟨y.lang.toArray⟩, .string ⟨y.script.toArray⟩, .string ⟨y.region.toArray⟩, .slice a1 y.vars.length g1, .slice a2 y.keys.length g2] 25) = w11 at *
          have ST := hid (ST10.out.below HBA.out)
          have HV := hid ((HBA.out.block _ (lt_of_block HV10.out)).trans HV10.out)
          clear HBA ST10 HV10
          generalize w10.heap.size = b10 at *
          obtain ⟨c0, c1, c2, c3, c4⟩ := box_cells ST.out.y
          have lt0 := lt_of_block ST.out.y
          obtain ⟨d0, d1, d2, d3, d4⟩ := box_cells HY11.out
          have ltd := lt_of_block HY11.out
          go_cut [78] from 57 to 79 (fun o wx => o = .bool fb ∧ wx = w11)
          case first =>
            cases ok with
            | false =>
              have HF := hid (show fb = false from HHD.out)
              go_wp2_with fail
              go_meet
              case rel => exact ⟨by rw [HF.out], rfl⟩
            | true =>
              have HF1 := hid (show y.lang ≠ M.lang → fb = false from fun h => by rw [HHD.out]; simp [ptOf]; intro e; exact absurd e h)
              have HF2 := hid (show y.script ≠ M.script → fb = false from fun h => by rw [HHD.out]; simp [ptOf]; intro _ e; exact absurd e h)
              have HF3 := hid (show y.region ≠ M.region → fb = false from fun h => by rw [HHD.out]; simp [ptOf]; intro _ _ e; exact absurd e h)
              have HF4 := hid (show y.lang = M.lang → y.script = M.script → y.region = M.region → fb = true from fun h1 h2 h3 => by rw [HHD.out]; simp [ptOf, h1, h2, h3])
              by_cases q0 : y.lang = M.lang
              · have p0 : (y.lang == M.lang) = true := by rw [q0]; simp
                by_cases q1 : y.script = M.script
                · have p1 : (y.script == M.script) = true := by rw [q1]; simp
                  by_cases q2 : y.region = M.region
                  · have p2 : (y.region == M.region) = true := by rw [q2]; simp
                    have HF := hid (HF4.out q0 q1 q2)
                    clear HF1 HF2 HF3 HF4 q0 q1 q2
                    go_wp2_with fail
                    all_goals first | (rename_i hx; rw [p0] at hx; exact absurd hx (by decide)) | (rename_i hx; rw [p1] at hx; exact absurd hx (by decide)) | (rename_i hx; rw [p2] at hx; exact absurd hx (by decide)) | skip
                    go_meet
                    case rel => exact ⟨by rw [HF.out], rfl⟩
                  · have p2 : (y.region == M.region) = false := by rw [beq_eq_false_iff_ne]; exact q2
                    have HF := hid (HF3.out q2)
                    clear HF1 HF2 HF3 HF4 q0 q1 q2
                    go_wp2_with fail
                    all_goals first | (rename_i hx; rw [p0] at hx; exact absurd hx (by decide)) | (rename_i hx; rw [p1] at hx; exact absurd hx (by decide)) | (rename_i hx; rw [p2] at hx; exact absurd hx (by decide)) | skip
                    go_meet
                    case rel => exact ⟨by rw [HF.out], rfl⟩
                · have p1 : (y.script == M.script) = false := by rw [beq_eq_false_iff_ne]; exact q1
                  have HF := hid (HF2.out q1)
                  clear HF1 HF2 HF3 HF4 q0 q1
                  go_wp2_with fail
                  all_goals first | (rename_i hx; rw [p0] at hx; exact absurd hx (by decide)) | (rename_i hx; rw [p1] at hx; exact absurd hx (by decide)) | skip
                  go_meet
                  case rel => exact ⟨by rw [HF.out], rfl⟩
              · have p0 : (y.lang == M.lang) = false := by rw [beq_eq_false_iff_ne]; exact q0
                have HF := hid (HF1.out q0)
                clear HF1 HF2 HF3 HF4 q0
                go_wp2_with fail
                all_goals first | (rename_i hx; rw [p0] at hx; exact absurd hx (by decide)) | skip
                go_meet
                case rel => exact ⟨by rw [HF.out], rfl⟩
          case rest =>
            obtain ⟨rfl, rfl⟩ := hcut
            clear c0 c1 c2 c3 c4 lt0 d0 d1 d2 d3 d4 ltd HHD HY11
            cases fb with
            | false =>
              have HFF := hid (HMISS.out rfl)
              clear HMISS HHIT
              go_wp2_with fail
              go_roundg (gk - 1)
              case measure => have := HG.out; omega
              case rel => exact ⟨n + 1, by omega, by have := HG.out; omega, by simp, HFF.out, ST.out⟩
            | true =>
              have HE := hid (HHIT.out rfl)
              clear HMISS HHIT
              obtain ⟨c0, c1, c2, c3, c4⟩ := box_cells ST.out.s.x
              have lt0 := lt_of_block ST.out.s.x
              obtain ⟨d0, d1, d2, d3, d4⟩ := box_cells HV.out
              have ltd := lt_of_block HV.out
              have fx3 := frozen_of_row wc b9 3 _ _ HV.out
              have fx4 := frozen_of_row wc b9 4 _ _ HV.out
              go_upto_region 12 with fail
              go_region
              have HF := hid (ST.out.s.fin HV.out LV.out LS.out LP.out)
              clear c0 c1 c2 c3 c4 lt0 d0 d1 d2 d3 d4 ltd fx3 fx4 ST HV
              generalize ((wc.setCell ⟨b9, 3, none⟩ (.slice ax t.vars.length cx)).setCell ⟨b9, 4, none⟩ (.slice ay t.keys.length cy)).drew = w12 at *
              obtain ⟨st, hv⟩ := HF.out
              have ST := hid st
              clear st HF
              obtain ⟨c0, c1, c2, c3, c4⟩ := box_cells hv
              have lt0 := lt_of_block hv
              obtain ⟨d0, d1, d2, d3, d4⟩ := box_cells ST.out.z
              have ltz := lt_of_block ST.out.z
              have fz0 := frozen_of_row w12 (w.heap.size + 1) 0 _ _ ST.out.z
              have fz1 := frozen_of_row w12 (w.heap.size + 1) 1 _ _ ST.out.z
              have fz2 := frozen_of_row w12 (w.heap.size + 1) 2 _ _ ST.out.z
              have fz3 := frozen_of_row w12 (w.heap.size + 1) 3 _ _ ST.out.z
              have fz4 := frozen_of_row w12 (w.heap.size + 1) 4 _ _ ST.out.z
              clear hv
              go_wp2_with fail
              change bodyPost _ _ _ _ _ (P5 w12 (w.heap.size + 1) (.string ⟨p.l.toArray⟩) (.string ⟨p.s.toArray⟩) (.string ⟨p.r.toArray⟩) (.slice ax t.vars.length cx) (.slice ay t.keys.length cy))
              exact rrem_ret (t' := withT t p) ST.out.bel ST.out.z true HE.out ST.out.os ST.out.op rfl rfl rfl
        · have hnl : n = 4 := by omega
          subst hnl
          have HE := hid (HN.out (rm_none (fun j hj => HNO.out j hj hj)))
          obtain ⟨c0, c1, c2, c3, c4⟩ := box_cells ST.out.y
          have lt0 := lt_of_block ST.out.y
          obtain ⟨d0, d1, d2, d3, d4⟩ := box_cells ST.out.s.z
          have ltz := lt_of_block ST.out.s.z
          have fz0 := frozen_of_row w8 (w.heap.size + 1) 0 _ _ ST.out.s.z
          have fz1 := frozen_of_row w8 (w.heap.size + 1) 1 _ _ ST.out.s.z
          have fz2 := frozen_of_row w8 (w.heap.size + 1) 2 _ _ ST.out.s.z
          have fz3 := frozen_of_row w8 (w.heap.size + 1) 3 _ _ ST.out.s.z
          have fz4 := frozen_of_row w8 (w.heap.size + 1) 4 _ _ ST.out.s.z
          clear hlt
          go_wp2_with fail
          change bodyPost _ _ _ _ _ (P5 w8 (w.heap.size + 1) (.string ⟨M.lang.toArray⟩) (.string ⟨M.script.toArray⟩) (.string ⟨M.region.toArray⟩) (.slice am M.vars.length cm) (.slice an M.keys.length cn))
          exact rrem_ret (t' := M) ST.out.s.bel ST.out.s.z true HE.out ST.out.ms ST.out.mp rfl rfl rfl
end Go.Proofs.YtlmgmifaknlolaaGreat

/- The sizes that the reference's Add and Remove ask for. No program in sight. -/
set_option linter.unusedVariables false
set_option linter.unusedSimpArgs false
namespace Go.Proofs.YtlmgmifaknlolaaGreat
open Go.RowKit Go.Lib Go.Sort

theorem jt_szL (l : List Str) : (jt l).length = sz l := by
  induction l with
  | nil => simp [jt_nil, sz_nil]
  | cons a l ih => rw [jt_cons, sz_cons]; simp only [List.length_append, List.length_cons, List.length_nil]; omega
theorem opt_szL (x : Str) : sz (opt x) ≤ x.length + 1 := by
  unfold opt
  split
  · rw [sz_nil]; omega
  · rw [sz_cons, sz_nil]; omega
theorem printR_le (t : Tg) : (printR t).length ≤ szT t := by
  unfold printR szT
  rw [List.length_append, jt_szL, sz_append, sz_append, sz_append, sz_append]
  have h1 : (headPart t.lang).length ≤ t.lang.length + 3 := by
    unfold headPart
    split
    · simp [tUnd]
    · omega
  have h2 := opt_szL t.script
  have h3 := opt_szL t.region
  have h5 : sz (uPart t.keys) ≤ 2 := by unfold uPart; split <;> simp [sz_nil, sz_cons]
  omega
theorem findR_lens {l : List (Str × Str)} (hl : ∀ y ∈ l, okP y) {k : Str} (h : (findR l k).2 = true) : (findR l k).1.lang.length ≤ 129 ∧ (findR l k).1.script.length ≤ 129 ∧ (findR l k).1.region.length ≤ 129 := by
  unfold findR at *
  cases hf : l.find? (fun p => p.1 == k) with
  | none => rw [hf] at h; cases h
  | some p =>
    have hp := hl p (List.mem_of_find?_eq_some hf)
    have hb := (bareR_eq p.2).2 hp.2.1
    have hg := (read_ok (p := (ptRead p.2).1) (k := p.2) (by rw [← hp.2.1])).1
    simp only
    rw [hb]
    exact good_lens hg
theorem findKeys_some {l : List (Str × Str)} : ∀ {ks : List Str} {x : Tg}, findKeys l ks = some x → ∃ k, (findR l k).2 = true ∧ (findR l k).1 = x
  | [], x, h => by cases h
  | k :: ks, x, h => by
    unfold findKeys at h
    split at h
    · rename_i h2; exact ⟨k, h2, Option.some.inj h⟩
    · exact findKeys_some h
theorem fill_lens {l : List (Str × Str)} (hl : ∀ y ∈ l, okP y) {ks : List Str} {x : Tg} (h : findKeys l ks = some x) (p : Pt) : (fillP p (ptOf x)).l.length ≤ p.l.length + 129 ∧ (fillP p (ptOf x)).s.length ≤ p.s.length + 129 ∧ (fillP p (ptOf x)).r.length ≤ p.r.length + 129 := by
  obtain ⟨k, h1, rfl⟩ := findKeys_some h
  obtain ⟨a, b, c⟩ := findR_lens hl h1
  have a1 := orStr_le p.l (findR l k).1.lang
  have a2 := orStr_le p.s (findR l k).1.script
  have a3 := orStr_le p.r (findR l k).1.region
  simp only [fillP, ptOf]
  omega
theorem addOk_of {l : List (Str × Str)} (hl : ∀ y ∈ l, okP y) {t : Tg} (hv : t.vars.length ≤ 1000) (hk : t.keys.length ≤ 1000) (hz : szT t ≤ 90000000) : AddOk l t := by
  refine ⟨hv, hk, Nat.le_trans (printR_le t) (by omega), fun x hx => ?_, ?_, ?_, ?_⟩
  · refine Nat.le_trans (printR_le _) ?_
    obtain ⟨a, b, c⟩ := fill_lens hl hx (ptOf t)
    unfold szT at hz ⊢
    simp only [withT]
    simp only [ptOf] at a b c ⊢
    omega
  · unfold szT at hz; omega
  · unfold szT at hz; omega
  · unfold szT at hz; omega
theorem addRF_lens {l : List (Str × Str)} (hl : ∀ y ∈ l, okP y) (t : Tg) : (addRF l t).1.lang.length ≤ t.lang.length + 129 ∧ (addRF l t).1.script.length ≤ t.script.length + 129 ∧ (addRF l t).1.region.length ≤ t.region.length + 129 := by
  unfold addRF
  split
  · simp [Tg.zero]
  · split
    · simp
    · split
      · rename_i x hx
        obtain ⟨a, b, c⟩ := fill_lens hl hx (ptOf t)
        split
        · simp
        · exact ⟨a, b, c⟩
      · simp
theorem restOk {l : List (Str × Str)} (hl : ∀ y ∈ l, okP y) {t : Tg} (hz : szT t ≤ 80000000) : ∀ p ∈ restP (ptOf (addRF l t).1), AddOk l p.tag := by
  intro p hp
  obtain ⟨a, b, c⟩ := addRF_lens hl t
  refine addOk_of hl (by simp [Pt.tag]) (by simp [Pt.tag]) ?_
  have hs : p.l.length ≤ t.lang.length + 129 ∧ p.s.length ≤ t.script.length + 129 ∧ p.r.length ≤ t.region.length + 129 := by
    simp only [restP, leftKeys, ptOf, List.mem_append, List.mem_cons, List.not_mem_nil, or_false] at hp
    rcases hp with (rfl | rfl | rfl) | rfl <;> simp only [List.length_nil] <;> omega
  unfold szT at hz ⊢
  simp only [Pt.tag, List.flatMap_nil, sz_nil]
  omega
theorem addT_vk (D : List (Pt × Pt)) {t : Tg} (hv : t.vars.length ≤ 1000) (hk : t.keys.length ≤ 1000) : (addT D t).1.vars.length ≤ 1000 ∧ (addT D t).1.keys.length ≤ 1000 := by
  unfold addT
  repeat' split
  all_goals first | exact ⟨hv, hk⟩ | simp [Tg.zero]
theorem removeT_vk (D : List (Pt × Pt)) {t : Tg} (hv : t.vars.length ≤ 1000) (hk : t.keys.length ≤ 1000) : (removeT D t).1.vars.length ≤ 1000 ∧ (removeT D t).1.keys.length ≤ 1000 := by
  unfold removeT
  repeat' split
  all_goals first | exact ⟨hv, hk⟩ | simp [Tg.zero]
end Go.Proofs.YtlmgmifaknlolaaGreat

/- The contract of the law's spoil. -/
set_option linter.unusedVariables false
set_option linter.unusedSimpArgs false
namespace Go.Proofs.YtlmgmifaknlolaaGreat
open Go.RowKit Go.Lib Go.Sort

/-- a slice of n elements of m cells each, from B on and below L, that may be written -/
def SpW (W : World) (B L : Nat) (ty : TypeId) (m n : Nat) (v : Value) : Prop :=
  (v = .slice none 0 0 ∧ n = 0) ∨ ∃ g cap cur, v = .slice (some ⟨g, 0, none⟩) n cap ∧ B ≤ g ∧ g < L ∧ W.heap[g]? = some (.cells cur ty (0, 0)) ∧ n * m ≤ cur.size
theorem SpW.set {W : World} {B L m n : Nat} {ty : TypeId} {v : Value} (h : SpW W B L ty m n v) (b i : Nat) (x : Value) : SpW (W.setCell ⟨b, i, none⟩ x) B L ty m n v := by
  rcases h with h | ⟨g, cap, cur, h1, h2, h3, h4, h5⟩
  · exact Or.inl h
  · by_cases e : b = g
    · subst e
      exact Or.inr ⟨b, cap, _, h1, h2, h3, heap_setCell_same _ _ _ _ _ _ h4, by simpa using h5⟩
    · exact Or.inr ⟨g, cap, cur, h1, h2, h3, (heap_setCell_other _ _ _ _ (by simpa using fun e' => e e'.symm)).trans h4, h5⟩
theorem SpW.below {W W' : World} {B L m n : Nat} {ty : TypeId} {v : Value} (h : SpW W B L ty m n v) (hl : L ≤ W.heap.size) (hb : Below W.heap.size W W') : SpW W' B L ty m n v := by
  rcases h with h | ⟨g, cap, cur, h1, h2, h3, h4, h5⟩
  · exact Or.inl h
  · exact Or.inr ⟨g, cap, cur, h1, h2, h3, (hb.block _ (by omega)).trans h4, h5⟩
theorem OwnS.wr {w : World} {B : Nat} {v : Value} {l : List Str} (h : OwnS w B v l) : SpW w B w.heap.size 9 1 l.length v := by
  rcases h.shape with ⟨rfl, rfl⟩ | ⟨g, cap, cur, h1, h2, h3, h4, h5, h6, h7⟩
  · exact Or.inl ⟨rfl, rfl⟩
  · exact Or.inr ⟨g, cap, cur, h1, h2, lt_of_block h3, h3, by omega⟩
theorem OwnP.wr {w : World} {B : Nat} {v : Value} {l : List (Str × Str)} (h : OwnP w B v l) : SpW w B w.heap.size 42 2 l.length v := by
  rcases h.2 with ⟨rfl, h2⟩ | ⟨g, cap, cur, h1, h2, h3, h4, h5, h6, h7⟩
  · exact Or.inl ⟨rfl, h2⟩
  · exact Or.inr ⟨g, cap, cur, h1, h2, lt_of_block h3, h3, by omega⟩
/-- the world within spoil -/
structure SpSt (w : World) (B n m : Nat) (vv kv : Value) (R : Obj) (W : World) : Prop where
  bel : Below B w W
  wv : SpW W B w.heap.size 9 1 n vv
  wk : SpW W B w.heap.size 42 2 m kv
  box : W.heap[w.heap.size]? = some R
theorem SpSt.set {w W : World} {B n m : Nat} {vv kv : Value} {R : Obj} (h : SpSt w B n m vv kv R W) {g : Nat} (hg : B ≤ g) (hl : g < w.heap.size) (i : Nat) (x : Value) : SpSt w B n m vv kv R (W.setCell ⟨g, i, none⟩ x) :=
  ⟨h.bel.setCell (p := ⟨g, i, none⟩) hg x, h.wv.set g i x, h.wk.set g i x, (heap_setCell_other _ _ _ _ (by simp; omega)).trans h.box⟩

set_option maxRecDepth 100000 in
set_option maxHeartbeats 8000000 in
theorem spoil_any (w : World) (v : Value) (t : Tg) (B : Nat) (hT : OwnT w B v t) (hB : B ≤ w.heap.size) (hv : t.vars.length ≤ 1000) (hk : t.keys.length ≤ 1000) :
    Calls Tryz.prog 17 #[v] w fun e w' => e = .returned (.tuple #[]) ∧ Below B w w' := by
  obtain ⟨vv, kv, rfl, hS, hP⟩ := hT
  have WV := hid hS.wr
  have WK := hid hP.wr
  obtain ⟨av, cv, rfl, _, _⟩ := hS.rd
  obtain ⟨ak, ck, rfl, _, _⟩ := hP.rd
  clear hS hP
  simp only [tagCells, S]
  have HX0 := hid (heap_alloc_new w (.cells #[.string ⟨t.lang.toArray⟩, .string ⟨t.script.toArray⟩, .string ⟨t.region.toArray⟩, .slice av t.vars.length cv, .slice ak t.keys.length ck] 25))
  have HB0 := hid ((Below.refl B w).alloc hB (.cells #[.string ⟨t.lang.toArray⟩, .string ⟨t.script.toArray⟩, .string ⟨t.region.toArray⟩, .slice av t.vars.length cv, .slice ak t.keys.length ck] 25))
  have HA0 := hid ((Below.refl w.heap.size w).alloc (Nat.le_refl _) (.cells #[.string ⟨t.lang.toArray⟩, .string ⟨t.script.toArray⟩, .string ⟨t.region.toArray⟩, .slice av t.vars.length cv, .slice ak t.keys.length ck] 25))
  go_enter Tryz.func17, Tryz.ntmps17
  go_upto_region 1 with fail
  generalize w.alloc (.cells #[.string ⟨t.lang.toArray⟩, .string ⟨t.script.toArray⟩, .string ⟨t.region.toArray⟩, .slice av t.vars.length cv, .slice ak t.keys.length ck] 25) = w0 at *
  have ST0 := hid (show SpSt w B t.vars.length t.keys.length (.slice av t.vars.length cv) (.slice ak t.keys.length ck) _ w0 from ⟨HB0.out, WV.out.below (Nat.le_refl _) HA0.out, WK.out.below (Nat.le_refl _) HA0.out, HX0.out⟩)
  obtain ⟨c0, c1, c2, c3, c4⟩ := box_cells HX0.out
  have lt0 := lt_of_block HX0.out
  clear WV WK HB0 HA0
  go_wp2_with fail
  go_loopg [7] t.vars.length (fun g vi W => ∃ n : Nat, n ≤ t.vars.length ∧ t.vars.length ≤ n + g ∧ vi = .int .i64 n ∧ SpSt w B t.vars.length t.keys.length (.slice av t.vars.length cv) (.slice ak t.keys.length ck) (.cells #[.string ⟨t.lang.toArray⟩, .string ⟨t.script.toArray⟩, .string ⟨t.region.toArray⟩, .slice av t.vars.length cv, .slice ak t.keys.length ck] 25 (0, 0)) W)
  case atStart => exact ⟨0, Nat.zero_le _, by omega, rfl, ST0.out⟩
  case round =>
    obtain ⟨n, hn, hg, rfl, st⟩ := hrel
    rename World => w1
    clear c0 c1 c2 c3 c4 lt0
    have HG := hid hg
    have ST1 := hid st
    clear hg st
    obtain ⟨c0, c1, c2, c3, c4⟩ := box_cells ST1.out.box
    have lt0 := lt_of_block ST1.out.box
    by_cases hlt : n < t.vars.length
    · rcases ST1.out.wv with ⟨_, h0⟩ | ⟨g, cap, cur, h1, h2, h3, h4, h5⟩
      · exact absurd h0 (by omega)
      · cases h1
        have hni : (n : Int) < (t.vars.length : Int) := by omega
        have hn0 : (0 : Int) ≤ (n : Int) := by omega
        obtain ⟨x1, hx1⟩ : ∃ x, cur[n]? = some x := ⟨_, Array.getElem?_eq_getElem (show n < cur.size by omega)⟩
        have q1 : w1.cell? ⟨g, n, none⟩ = some x1 := by rw [cell_of_row _ _ _ _ _ _ h4]; exact hx1
        have fz := frozen_of_row w1 g n _ _ h4
        have ltg := lt_of_block h4
        have ST2 := hid (ST1.out.set h2 h3 n (.string ⟨#[33]⟩))
        clear h2 h3 h4 h5 hx1
        go_wp2_with fail
        go_roundg (gk - 1)
        case measure => have := HG.out; omega
        case rel => exact ⟨n + 1, by omega, by have := HG.out; omega, by simp, ST2.out⟩
    · have hnl : n = t.vars.length := by omega
      subst hnl
      clear hlt
      go_wp2_with fail
      go_loopg [18] t.keys.length (fun g vi W => ∃ n : Nat, n ≤ t.keys.length ∧ t.keys.length ≤ n + g ∧ vi = .int .i64 n ∧ SpSt w B t.vars.length t.keys.length (.slice av t.vars.length cv) (.slice ak t.keys.length ck) (.cells #[.string ⟨t.lang.toArray⟩, .string ⟨t.script.toArray⟩, .string ⟨t.region.toArray⟩, .slice av t.vars.length cv, .slice ak t.keys.length ck] 25 (0, 0)) W)
      case atStart => exact ⟨0, Nat.zero_le _, by omega, rfl, ST1.out⟩
      case round =>
        rename Nat => gg
        obtain ⟨m, hm, hg, rfl, st⟩ := hrel
        rename World => w2
        clear c0 c1 c2 c3 c4 lt0
        have HG := hid hg
        have ST2 := hid st
        clear hg st ST1
        obtain ⟨c0, c1, c2, c3, c4⟩ := box_cells ST2.out.box
        have lt0 := lt_of_block ST2.out.box
        by_cases hlt : m < t.keys.length
        · rcases ST2.out.wk with ⟨_, h0⟩ | ⟨g, cap, cur, h1, h2, h3, h4, h5⟩
          · exact absurd h0 (by omega)
          · cases h1
            have hni : (m : Int) < (t.keys.length : Int) := by omega
            have hn0 : (0 : Int) ≤ (m : Int) := by omega
            obtain ⟨x1, hx1⟩ : ∃ x, cur[m * 2]? = some x := ⟨_, Array.getElem?_eq_getElem (show m * 2 < cur.size by omega)⟩
            have q1 : w2.cell? ⟨g, m * 2, none⟩ = some x1 := by rw [cell_of_row _ _ _ _ _ _ h4]; exact hx1
            have fz := frozen_of_row w2 g (m * 2) _ _ h4
            have ltg := lt_of_block h4
            have ST3 := hid (ST2.out.set h2 h3 (m * 2) (.string ⟨#[33]⟩))
            clear h2 h3 h4 h5 hx1
            go_wp2_with fail
            go_roundg (gg - 1)
            case measure => have := HG.out; omega
            case rel => exact ⟨m + 1, by omega, by have := HG.out; omega, by simp, ST3.out⟩
        · have hml : m = t.keys.length := by omega
          subst hml
          clear hlt
          go_wp2_with fail
          exact bodyPost_end (results_none Tryz.results17 _ _ _) rfl ⟨rfl, ST2.out.bel⟩
end Go.Proofs.YtlmgmifaknlolaaGreat
