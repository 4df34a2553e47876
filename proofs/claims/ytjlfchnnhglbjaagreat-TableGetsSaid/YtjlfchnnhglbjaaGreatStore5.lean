/- A tag's five cells loaded and stored in one step, at any frame; an error's two cells. -/
import Derived.Test.YtjlfchnnhglbjaaGreatRefSt
set_option linter.unusedVariables false
set_option linter.unusedSimpArgs false
namespace Go.Proofs.YtjlfchnnhglbjaaGreat
open Go.RowKit Go.Lib Go.Sort

set_option maxHeartbeats 2000000 in
theorem wpList_load5 {w : World} {ops : Array Oper} {rest : List Oper} {o : Oper} {a : Act} {Q : Exit → Act → World → Prop} (hgd : o.guard = none) (p : Operand) (ho : o.op = .load 108 p)
    (b : Nat) (v0 v1 v2 v3 v4 : Value) (hp : a.eval p = .pointer (some ⟨b, 0, none⟩)) (hrow : w.heap[b]? = some (.cells #[v0, v1, v2, v3, v4] 108 (0, 0)))
    (h : wpList Tryz.prog ops Q rest (a.put o.dst (.agg #[v0, v1, v2, v3, v4])) w) : wpList Tryz.prog ops Q (o :: rest) a w := by
  obtain ⟨c0, c1, c2, c3, c4⟩ := box_cells hrow
  refine wpList_plain hgd fun _ hK => ?_
  unfold Oper.wp execOp
  simp only [ho, resolve, hp]
  simp [go_sem, c0, c1, c2, c3, c4]
  exact hK _ _ h

set_option maxHeartbeats 2000000 in
theorem wpList_store5 {w : World} {ops : Array Oper} {rest : List Oper} {o : Oper} {a : Act} {Q : Exit → Act → World → Prop} (hgd : o.guard = none) (p x : Operand) (ho : o.op = .store 108 p x) (hds : o.dst = none)
    (b : Nat) (z0 z1 z2 z3 z4 : Value) (s0 s1 s2 : ByteArray) (a3 a4 : Option Addr) (n3 k3 n4 k4 : Nat) (hp : a.eval p = .pointer (some ⟨b, 0, none⟩)) (hx : a.eval x = .agg #[.string s0, .string s1, .string s2, .slice a3 n3 k3, .slice a4 n4 k4]) (hrow : w.heap[b]? = some (.cells #[z0, z1, z2, z3, z4] 108 (0, 0)))
    (h : wpList Tryz.prog ops Q rest a (P5 w b (.string s0) (.string s1) (.string s2) (.slice a3 n3 k3) (.slice a4 n4 k4))) : wpList Tryz.prog ops Q (o :: rest) a w := by
  obtain ⟨c0, c1, c2, c3, c4⟩ := box_cells hrow
  have f0 := frozen_of_row w b 0 _ _ hrow
  have f1 := frozen_of_row w b 1 _ _ hrow
  have f2 := frozen_of_row w b 2 _ _ hrow
  have f3 := frozen_of_row w b 3 _ _ hrow
  have f4 := frozen_of_row w b 4 _ _ hrow
  refine wpList_plain hgd fun _ hK => ?_
  unfold Oper.wp execOp
  simp only [ho, resolve, hp, hx]
  simp [go_sem, c0, c1, c2, c3, c4, f0, f1, f2, f3, f4, hds]
  exact hK _ _ h
set_option maxHeartbeats 2000000 in
theorem wpList_store2 {w : World} {ops : Array Oper} {rest : List Oper} {o : Oper} {a : Act} {Q : Exit → Act → World → Prop} (hgd : o.guard = none) (p x : Operand) (ho : o.op = .store 99 p x) (hds : o.dst = none)
    (b : Nat) (z0 z1 : Value) (i0 i1 : Int) (hp : a.eval p = .pointer (some ⟨b, 0, none⟩)) (hx : a.eval x = .agg #[.int .i64 i0, .int .i64 i1]) (hrow : w.heap[b]? = some (.cells #[z0, z1] 99 (0, 0)))
    (h : wpList Tryz.prog ops Q rest a ((w.setCell ⟨b, 0, none⟩ (.int .i64 i0)).setCell ⟨b, 1, none⟩ (.int .i64 i1))) : wpList Tryz.prog ops Q (o :: rest) a w := by
  have c0 : w.cell? ⟨b, 0, none⟩ = some z0 := cell_of_row _ _ _ _ _ _ hrow
  have c1 : w.cell? ⟨b, 1, none⟩ = some z1 := cell_of_row _ _ _ _ _ _ hrow
  have f0 := frozen_of_row w b 0 _ _ hrow
  have f1 := frozen_of_row w b 1 _ _ hrow
  refine wpList_plain hgd fun _ hK => ?_
  unfold Oper.wp execOp
  simp only [ho, resolve, hp, hx]
  simp [go_sem, c0, c1, f0, f1, hds]
  exact hK _ _ h

theorem wpList_move {w : World} {ops : Array Oper} {rest : List Oper} {o : Oper} {a : Act} {Q : Exit → Act → World → Prop} (hgd : o.guard = none) (x : Operand) (ho : o.op = .move x)
    (v : Value) (hx : a.eval x = v) (h : wpList Tryz.prog ops Q rest (a.put o.dst v) w) : wpList Tryz.prog ops Q (o :: rest) a w := by
  refine wpList_plain hgd fun _ hK => ?_
  unfold Oper.wp execOp
  simp only [ho, resolve, hx]
  simp [go_sem]
  exact hK _ _ h
theorem wpList_build2 {w : World} {ops : Array Oper} {rest : List Oper} {o : Oper} {a : Act} {Q : Exit → Act → World → Prop} (hgd : o.guard = none) (k : Nat) (e : Int) (ho : o.op = .build 99 #[(0, .const (.int .i64 e)), (1, .tmp k)])
    (q : Int) (hx : a.eval (.tmp k) = .int .i64 q) (h : wpList Tryz.prog ops Q rest (a.put o.dst (.agg #[.int .i64 e, .int .i64 q])) w) : wpList Tryz.prog ops Q (o :: rest) a w := by
  refine wpList_plain hgd fun _ hK => ?_
  unfold Oper.wp execOp
  simp only [ho, resolve]
  simp [go_sem] at hx
  simp [go_sem, hx]
  exact hK _ _ h
theorem P5_other {w : World} {b c : Nat} (v0 v1 v2 v3 v4 : Value) (h : b ≠ c) : (P5 w b v0 v1 v2 v3 v4).heap[c]? = w.heap[c]? := by
  unfold P5
  rw [heap_setCell_other _ _ _ _ (by simpa using Ne.symm h), heap_setCell_other _ _ _ _ (by simpa using Ne.symm h), heap_setCell_other _ _ _ _ (by simpa using Ne.symm h), heap_setCell_other _ _ _ _ (by simpa using Ne.symm h), heap_setCell_other _ _ _ _ (by simpa using Ne.symm h)]
end Go.Proofs.YtjlfchnnhglbjaaGreat
