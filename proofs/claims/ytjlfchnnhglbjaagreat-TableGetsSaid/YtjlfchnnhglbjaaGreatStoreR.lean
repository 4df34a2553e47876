/- A tag's and an error's cells loaded and stored in a region that draws its order. -/
import Derived.Test.YtjlfchnnhglbjaaGreatStore5
import Derived.RegionTactic
set_option linter.unusedVariables false
set_option linter.unusedSimpArgs false
namespace Go.Proofs.YtjlfchnnhglbjaaGreat
open Go.RowKit Go.Lib Go.Sort

theorem ready_cons {md : Region.Mode} {ops : Array Oper} {Q : Exit → Act → World → Prop} {fuel : Nat} {listed : Array Bool} {a : Act} {w : World} {i : Nat} {o : Oper} {rs : List Nat} (ho : ops[i]? = some o) (hg : o.guard = none)
    (h : ∀ K' : Act → World → Prop, (∀ a w, wpAny Tryz.prog md ops Q fuel (listed.setIfInBounds i true) a w → K' a w) → Oper.wp Tryz.prog o a w K' Q)
    (hs : AllReady Tryz.prog md ops Q fuel listed a w rs) : AllReady Tryz.prog md ops Q fuel listed a w (i :: rs) :=
  AllReady.cons ho (fun K' hK => by simp only [Region.wanted, hg, if_true]; exact h K' hK) hs
theorem ow_load5 {w : World} {o : Oper} {a : Act} {K : Act → World → Prop} {Q : Exit → Act → World → Prop} (p : Operand) (ho : o.op = .load 108 p)
    (b : Nat) (v0 v1 v2 v3 v4 : Value) (hp : a.eval p = .pointer (some ⟨b, 0, none⟩)) (hrow : w.heap[b]? = some (.cells #[v0, v1, v2, v3, v4] 108 (0, 0)))
    (h : K (a.put o.dst (.agg #[v0, v1, v2, v3, v4])) w) : Oper.wp Tryz.prog o a w K Q := by
  obtain ⟨c0, c1, c2, c3, c4⟩ := box_cells hrow
  unfold Oper.wp execOp
  simp only [ho, resolve, hp]
  simp [go_sem, c0, c1, c2, c3, c4]
  exact h
theorem ow_load2 {w : World} {o : Oper} {a : Act} {K : Act → World → Prop} {Q : Exit → Act → World → Prop} (p : Operand) (ho : o.op = .load 99 p)
    (b : Nat) (v0 v1 : Value) (hp : a.eval p = .pointer (some ⟨b, 0, none⟩)) (hrow : w.heap[b]? = some (.cells #[v0, v1] 99 (0, 0)))
    (h : K (a.put o.dst (.agg #[v0, v1])) w) : Oper.wp Tryz.prog o a w K Q := by
  have c0 : w.cell? ⟨b, 0, none⟩ = some v0 := cell_of_row _ _ _ _ _ _ hrow
  have c1 : w.cell? ⟨b, 1, none⟩ = some v1 := cell_of_row _ _ _ _ _ _ hrow
  unfold Oper.wp execOp
  simp only [ho, resolve, hp]
  simp [go_sem, c0, c1]
  exact h
theorem ow_store5 {w : World} {o : Oper} {a : Act} {K : Act → World → Prop} {Q : Exit → Act → World → Prop} (p x : Operand) (ho : o.op = .store 108 p x) (hds : o.dst = none)
    (b : Nat) (z0 z1 z2 z3 z4 : Value) (s0 s1 s2 : ByteArray) (a3 a4 : Option Addr) (n3 k3 n4 k4 : Nat) (hp : a.eval p = .pointer (some ⟨b, 0, none⟩)) (hx : a.eval x = .agg #[.string s0, .string s1, .string s2, .slice a3 n3 k3, .slice a4 n4 k4]) (hrow : w.heap[b]? = some (.cells #[z0, z1, z2, z3, z4] 108 (0, 0)))
    (h : K a (P5 w b (.string s0) (.string s1) (.string s2) (.slice a3 n3 k3) (.slice a4 n4 k4))) : Oper.wp Tryz.prog o a w K Q := by
  obtain ⟨c0, c1, c2, c3, c4⟩ := box_cells hrow
  have f0 := frozen_of_row w b 0 _ _ hrow
  have f1 := frozen_of_row w b 1 _ _ hrow
  have f2 := frozen_of_row w b 2 _ _ hrow
  have f3 := frozen_of_row w b 3 _ _ hrow
  have f4 := frozen_of_row w b 4 _ _ hrow
  unfold Oper.wp execOp
  simp only [ho, resolve, hp, hx]
  simp [go_sem, c0, c1, c2, c3, c4, f0, f1, f2, f3, f4, hds]
  exact h
theorem ow_store2 {w : World} {o : Oper} {a : Act} {K : Act → World → Prop} {Q : Exit → Act → World → Prop} (p x : Operand) (ho : o.op = .store 99 p x) (hds : o.dst = none)
    (b : Nat) (z0 z1 : Value) (i0 i1 : Int) (hp : a.eval p = .pointer (some ⟨b, 0, none⟩)) (hx : a.eval x = .agg #[.int .i64 i0, .int .i64 i1]) (hrow : w.heap[b]? = some (.cells #[z0, z1] 99 (0, 0)))
    (h : K a ((w.setCell ⟨b, 0, none⟩ (.int .i64 i0)).setCell ⟨b, 1, none⟩ (.int .i64 i1))) : Oper.wp Tryz.prog o a w K Q := by
  have c0 : w.cell? ⟨b, 0, none⟩ = some z0 := cell_of_row _ _ _ _ _ _ hrow
  have c1 : w.cell? ⟨b, 1, none⟩ = some z1 := cell_of_row _ _ _ _ _ _ hrow
  have f0 := frozen_of_row w b 0 _ _ hrow
  have f1 := frozen_of_row w b 1 _ _ hrow
  unfold Oper.wp execOp
  simp only [ho, resolve, hp, hx]
  simp [go_sem, c0, c1, f0, f1, hds]
  exact h
/-- the region of a return of 'none, wrong': two loads, two stores, in whatever order -/
theorem err_region {id : Nat} {Q : Exit → Act → World → Prop} {a : Act} {w : World} {o0 o1 o2 o3 : Oper} (p0 p1 p2 p3 x2 x3 : Operand)
    (h0 : o0.op = .load 108 p0) (h1 : o1.op = .load 99 p1) (h2 : o2.op = .store 108 p2 x2) (h3 : o3.op = .store 99 p3 x3) (g0 : o0.guard = none) (g1 : o1.guard = none) (g2 : o2.guard = none) (g3 : o3.guard = none) (d2 : o2.dst = none) (d3 : o3.dst = none)
    (r : Region.ready .any #[o0, o1, o2, o3] #[false, false, false, false] = [0, 1]) (r0 : Region.ready .any #[o0, o1, o2, o3] #[true, false, false, false] = [1, 2]) (r1 : Region.ready .any #[o0, o1, o2, o3] #[false, true, false, false] = [0])
    (r01 : Region.ready .any #[o0, o1, o2, o3] #[true, true, false, false] = [2]) (r02 : Region.ready .any #[o0, o1, o2, o3] #[true, false, true, false] = [1]) (r012 : Region.ready .any #[o0, o1, o2, o3] #[true, true, true, false] = [3]) (rr : Region.ready .any #[o0, o1, o2, o3] #[true, true, true, true] = [])
    (B bn bw : Nat) (i0 i1 : Int) (z0 z1 z2 z3 z4 y0 y1 : Value) (hn : w.heap[bn]? = some (.cells #[.string ⟨#[]⟩, .string ⟨#[]⟩, .string ⟨#[]⟩, .slice none 0 0, .slice none 0 0] 108 (0, 0))) (hw : w.heap[bw]? = some (.cells #[.int .i64 i0, .int .i64 i1] 99 (0, 0)))
    (hB : w.heap[B]? = some (.cells #[z0, z1, z2, z3, z4] 108 (0, 0))) (hB1 : w.heap[B + 1]? = some (.cells #[y0, y1] 99 (0, 0))) (hne : bw ≠ B)
    (e0 : a.eval p0 = .pointer (some ⟨bn, 0, none⟩)) (e1 : a.eval p1 = .pointer (some ⟨bw, 0, none⟩)) (e2 : (a.put o1.dst (.agg #[.int .i64 i0, .int .i64 i1])).eval p0 = .pointer (some ⟨bn, 0, none⟩)) (e3 : (a.put o0.dst (.agg #[.string ⟨#[]⟩, .string ⟨#[]⟩, .string ⟨#[]⟩, .slice none 0 0, .slice none 0 0])).eval p1 = .pointer (some ⟨bw, 0, none⟩))
    (f0 : (a.put o0.dst (.agg #[.string ⟨#[]⟩, .string ⟨#[]⟩, .string ⟨#[]⟩, .slice none 0 0, .slice none 0 0])).eval p2 = .pointer (some ⟨B, 0, none⟩)) (f1 : ((a.put o0.dst (.agg #[.string ⟨#[]⟩, .string ⟨#[]⟩, .string ⟨#[]⟩, .slice none 0 0, .slice none 0 0])).put o1.dst (.agg #[.int .i64 i0, .int .i64 i1])).eval p2 = .pointer (some ⟨B, 0, none⟩)) (f2 : ((a.put o1.dst (.agg #[.int .i64 i0, .int .i64 i1])).put o0.dst (.agg #[.string ⟨#[]⟩, .string ⟨#[]⟩, .string ⟨#[]⟩, .slice none 0 0, .slice none 0 0])).eval p2 = .pointer (some ⟨B, 0, none⟩))
    (k0 : (a.put o0.dst (.agg #[.string ⟨#[]⟩, .string ⟨#[]⟩, .string ⟨#[]⟩, .slice none 0 0, .slice none 0 0])).eval x2 = .agg #[.string ⟨#[]⟩, .string ⟨#[]⟩, .string ⟨#[]⟩, .slice none 0 0, .slice none 0 0]) (k1 : ((a.put o0.dst (.agg #[.string ⟨#[]⟩, .string ⟨#[]⟩, .string ⟨#[]⟩, .slice none 0 0, .slice none 0 0])).put o1.dst (.agg #[.int .i64 i0, .int .i64 i1])).eval x2 = .agg #[.string ⟨#[]⟩, .string ⟨#[]⟩, .string ⟨#[]⟩, .slice none 0 0, .slice none 0 0]) (k2 : ((a.put o1.dst (.agg #[.int .i64 i0, .int .i64 i1])).put o0.dst (.agg #[.string ⟨#[]⟩, .string ⟨#[]⟩, .string ⟨#[]⟩, .slice none 0 0, .slice none 0 0])).eval x2 = .agg #[.string ⟨#[]⟩, .string ⟨#[]⟩, .string ⟨#[]⟩, .slice none 0 0, .slice none 0 0])
    (l1 : ((a.put o0.dst (.agg #[.string ⟨#[]⟩, .string ⟨#[]⟩, .string ⟨#[]⟩, .slice none 0 0, .slice none 0 0])).put o1.dst (.agg #[.int .i64 i0, .int .i64 i1])).eval p3 = .pointer (some ⟨B + 1, 0, none⟩)) (l2 : ((a.put o1.dst (.agg #[.int .i64 i0, .int .i64 i1])).put o0.dst (.agg #[.string ⟨#[]⟩, .string ⟨#[]⟩, .string ⟨#[]⟩, .slice none 0 0, .slice none 0 0])).eval p3 = .pointer (some ⟨B + 1, 0, none⟩))
    (m1 : ((a.put o0.dst (.agg #[.string ⟨#[]⟩, .string ⟨#[]⟩, .string ⟨#[]⟩, .slice none 0 0, .slice none 0 0])).put o1.dst (.agg #[.int .i64 i0, .int .i64 i1])).eval x3 = .agg #[.int .i64 i0, .int .i64 i1]) (m2 : ((a.put o1.dst (.agg #[.int .i64 i0, .int .i64 i1])).put o0.dst (.agg #[.string ⟨#[]⟩, .string ⟨#[]⟩, .string ⟨#[]⟩, .slice none 0 0, .slice none 0 0])).eval x3 = .agg #[.int .i64 i0, .int .i64 i1])
    (hQ1 : Q .normal ((a.put o0.dst (.agg #[.string ⟨#[]⟩, .string ⟨#[]⟩, .string ⟨#[]⟩, .slice none 0 0, .slice none 0 0])).put o1.dst (.agg #[.int .i64 i0, .int .i64 i1])) (retW w.drew B ⟨Tg.zero, i0.toNat, i1.toNat⟩ vnil vnil)) (hQ2 : Q .normal ((a.put o1.dst (.agg #[.int .i64 i0, .int .i64 i1])).put o0.dst (.agg #[.string ⟨#[]⟩, .string ⟨#[]⟩, .string ⟨#[]⟩, .slice none 0 0, .slice none 0 0])) (retW w.drew B ⟨Tg.zero, i0.toNat, i1.toNat⟩ vnil vnil)) (hi0 : 0 ≤ i0) (hi1 : 0 ≤ i1) :
    (Code.region id #[o0, o1, o2, o3] true).wp Tryz.prog Q a w := by
  have ei0 : ((i0.toNat : Nat) : Int) = i0 := Int.toNat_of_nonneg hi0
  have ei1 : ((i1.toNat : Nat) : Int) = i1 := Int.toNat_of_nonneg hi1
  have hfin : ((P5 w.drew B (.string ⟨#[]⟩) (.string ⟨#[]⟩) (.string ⟨#[]⟩) (.slice none 0 0) (.slice none 0 0)).setCell ⟨B + 1, 0, none⟩ (.int .i64 i0)).setCell ⟨B + 1, 1, none⟩ (.int .i64 i1) = retW w.drew B ⟨Tg.zero, i0.toNat, i1.toNat⟩ vnil vnil := by
    unfold retW P5
    rw [ei0, ei1]
    rfl
  rw [← hfin] at hQ1 hQ2
  have oth : ∀ b o, w.drew.heap[b]? = some o → b ≠ B → (P5 w.drew B (.string ⟨#[]⟩) (.string ⟨#[]⟩) (.string ⟨#[]⟩) (.slice none 0 0) (.slice none 0 0)).heap[b]? = some o := fun b o h hb => by
    unfold P5
    rw [heap_setCell_other _ _ _ _ hb, heap_setCell_other _ _ _ _ hb, heap_setCell_other _ _ _ _ hb, heap_setCell_other _ _ _ _ hb, heap_setCell_other _ _ _ _ hb]; exact h
  have hw' := oth bw _ hw hne
  have hB1' := oth (B + 1) _ hB1 (by omega)
  refine wp_region_any (by kernel_rfl) ?_
  refine wpAny_ready (rs := [0, 1]) r (by simp) ?_
  refine ready_cons rfl g0 (fun K hK => ow_load5 p0 h0 bn _ _ _ _ _ e0 hn (hK _ _ ?_)) (ready_cons rfl g1 (fun K hK => ow_load2 p1 h1 bw _ _ e1 hw (hK _ _ ?_)) AllReady.nil)
  · refine wpAny_ready (rs := [1, 2]) r0 (by simp) ?_
    refine ready_cons rfl g1 (fun K hK => ow_load2 p1 h1 bw _ _ e3 hw (hK _ _ ?_)) (ready_cons rfl g2 (fun K hK => ow_store5 p2 x2 h2 d2 B _ _ _ _ _ _ _ _ _ _ _ _ _ _ f0 k0 hB (hK _ _ ?_)) AllReady.nil)
    · refine wpAny_ready (rs := [2]) r01 (by simp) ?_
      refine ready_cons rfl g2 (fun K hK => ow_store5 p2 x2 h2 d2 B _ _ _ _ _ _ _ _ _ _ _ _ _ _ f1 k1 hB (hK _ _ ?_)) AllReady.nil
      refine wpAny_ready (rs := [3]) r012 (by simp) ?_
      refine ready_cons rfl g3 (fun K hK => ow_store2 p3 x3 h3 d3 (B + 1) _ _ _ _ l1 m1 hB1' (hK _ _ ?_)) AllReady.nil
      exact wpAny_done rr hQ1 _
    · refine wpAny_ready (rs := [1]) r02 (by simp) ?_
      refine ready_cons rfl g1 (fun K hK => ow_load2 p1 h1 bw _ _ e3 hw' (hK _ _ ?_)) AllReady.nil
      refine wpAny_ready (rs := [3]) r012 (by simp) ?_
      refine ready_cons rfl g3 (fun K hK => ow_store2 p3 x3 h3 d3 (B + 1) _ _ _ _ l1 m1 hB1' (hK _ _ ?_)) AllReady.nil
      exact wpAny_done rr hQ1 _
  · refine wpAny_ready (rs := [0]) r1 (by simp) ?_
    refine ready_cons rfl g0 (fun K hK => ow_load5 p0 h0 bn _ _ _ _ _ e2 hn (hK _ _ ?_)) AllReady.nil
    refine wpAny_ready (rs := [2]) r01 (by simp) ?_
    refine ready_cons rfl g2 (fun K hK => ow_store5 p2 x2 h2 d2 B _ _ _ _ _ _ _ _ _ _ _ _ _ _ f2 k2 hB (hK _ _ ?_)) AllReady.nil
    refine wpAny_ready (rs := [3]) r012 (by simp) ?_
    refine ready_cons rfl g3 (fun K hK => ow_store2 p3 x3 h3 d3 (B + 1) _ _ _ _ l2 m2 hB1' (hK _ _ ?_)) AllReady.nil
    exact wpAny_done rr hQ2 _
end Go.Proofs.YtjlfchnnhglbjaaGreat
