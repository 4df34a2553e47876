/- The closure of tag.Parse that tells what is wrong. -/
import Derived.Test.YtjlfchnnhglbjaaGreatFrame
set_option linter.unusedVariables false
set_option linter.unusedSimpArgs false
namespace Go.Proofs.YtjlfchnnhglbjaaGreat
open Go.RowKit Go.Lib Go.Sort

set_option maxHeartbeats 1000000 in
theorem wrong_any (e : Int) (bp br : Nat) (pos : Nat) (w : World) (hp : w.cell? ⟨bp, 0, none⟩ = some (.pointer (some ⟨br, 0, none⟩))) (hr : w.cell? ⟨br, 1, none⟩ = some (.int .i64 pos)) :
    Calls Tryz.prog 102 #[.int .i64 e, .pointer (some ⟨bp, 0, none⟩)] w fun en w' => en = .returned (.tuple #[.agg #[.string ⟨#[]⟩, .string ⟨#[]⟩, .string ⟨#[]⟩, .slice none 0 0, .slice none 0 0], .agg #[.int .i64 e, .int .i64 pos]]) ∧ Below w.heap.size w w' := by
  have b1 := World.block_lt_of_cell? w _ hp
  have b2 := World.block_lt_of_cell? w _ hr
  go_enter Tryz.func102, Tryz.ntmps102
  go_wp2
  go_region
  go_wp2
  exact bodyPost_ret (v := .tuple #[.agg #[.string ⟨#[]⟩, .string ⟨#[]⟩, .string ⟨#[]⟩, .slice none 0 0, .slice none 0 0], .agg #[.int .i64 e, .int .i64 pos]]) (by simp [results, Tryz.results102, go_sem]) rfl ⟨rfl, (((Below.refl _ _).alloc (Nat.le_refl _) _).alloc (by simp) _).drew⟩

/-- the world behind the two results' stores -/
def retW (w : World) (B : Nat) (x : Res) (vv kv : Value) : World :=
  ((((((w.setCell ⟨B, 0, none⟩ (S x.tag.lang)).setCell ⟨B, 1, none⟩ (S x.tag.script)).setCell ⟨B, 2, none⟩ (S x.tag.region)).setCell ⟨B, 3, none⟩ vv).setCell ⟨B, 4, none⟩ kv).setCell ⟨B + 1, 0, none⟩ (.int .i64 x.err)).setCell ⟨B + 1, 1, none⟩ (.int .i64 x.pos)

theorem own_set {w : World} {base : Nat} {e : TypeId} {size : Nat} {v : Value} {n : Nat} {xs : List Value} (h : w.ownsRow base e size v n xs) {b : Nat} (hb : v.ownBlock ≠ some b) (i : Nat) (u : Value) : (w.setCell ⟨b, i, none⟩ u).ownsRow base e size v n xs :=
  ownsRow_setCell_other h hb u

theorem ret_core {B : Nat} {w0 w : World} (st_bel : Below B w0 w) (st_h0 : w.heap[B]? = some (.cells (tagCells Tg.zero vnil vnil) 108 (0, 0))) (st_h1 : w.heap[B + 1]? = some (.cells #[.int .i64 0, .int .i64 0] 99 (0, 0))) (x : Res) (vv' kv' : Value) {a : Act} {Jx : Nat → Act → World → Prop} (hd : a.defers = [])
    (h2 : a.tmps.getD 2 undef = .pointer (some ⟨B, 0, none⟩)) (h3 : a.tmps.getD 3 undef = .pointer (some ⟨B + 1, 0, none⟩)) (os : OwnS w B vv' x.tag.vars) (op : OwnP w B kv' x.tag.keys) :
    Exit.jumps Jx (bodyPost Tryz.prog Tryz.f71 (Parsed B w0 x)) Exit.ret a (retW w B x vv' kv') := by
  have n1 : vv'.ownBlock ≠ some B := own_type os st_h0 (by decide)
  have n2 : kv'.ownBlock ≠ some B := own_type op st_h0 (by decide)
  have n3 : vv'.ownBlock ≠ some (B + 1) := own_type os st_h1 (by decide)
  have n4 : kv'.ownBlock ≠ some (B + 1) := own_type op st_h1 (by decide)
  have hB : (retW w B x vv' kv').heap[B]? = some (.cells (tagCells x.tag vv' kv') 108 (0, 0)) := by
    unfold retW
    rw [heap_setCell_other _ _ _ _ (by simp), heap_setCell_other _ _ _ _ (by simp), heap_setCell_same _ _ _ _ _ _ (heap_setCell_same _ _ _ _ _ _ (heap_setCell_same _ _ _ _ _ _ (heap_setCell_same _ _ _ _ _ _ (heap_setCell_same _ _ _ _ _ _ st_h0))))]
    simp [tagCells]
  have hS : (retW w B x vv' kv').heap[B + 1]? = some (.cells #[.int .i64 x.err, .int .i64 x.pos] 99 (0, 0)) := by
    unfold retW
    rw [heap_setCell_same _ _ _ _ _ _ (heap_setCell_same _ _ _ _ _ _ (by
      rw [heap_setCell_other _ _ _ _ (by simp), heap_setCell_other _ _ _ _ (by simp), heap_setCell_other _ _ _ _ (by simp), heap_setCell_other _ _ _ _ (by simp), heap_setCell_other _ _ _ _ (by simp)]
      exact st_h1))]
    simp
  have os' : OwnS (retW w B x vv' kv') B vv' x.tag.vars := own_set (own_set (own_set (own_set (own_set (own_set (own_set os n1 _ _) n1 _ _) n1 _ _) n1 _ _) n1 _ _) n3 _ _) n3 _ _
  have op' : OwnP (retW w B x vv' kv') B kv' x.tag.keys := own_set (own_set (own_set (own_set (own_set (own_set (own_set op n2 _ _) n2 _ _) n2 _ _) n2 _ _) n2 _ _) n4 _ _) n4 _ _
  have bel : Below B w0 (retW w B x vv' kv') := ((((((st_bel.setCell (by simp) _).setCell (by simp) _).setCell (by simp) _).setCell (by simp) _).setCell (by simp) _).setCell (by simp) _).setCell (by simp) _
  generalize retW w B x vv' kv' = W at *
  have c0 : W.cell? ⟨B, 0, none⟩ = some (S x.tag.lang) := by rw [cell_of_row _ _ _ _ _ _ hB]; rfl
  have c1 : W.cell? ⟨B, 1, none⟩ = some (S x.tag.script) := by rw [cell_of_row _ _ _ _ _ _ hB]; rfl
  have c2 : W.cell? ⟨B, 2, none⟩ = some (S x.tag.region) := by rw [cell_of_row _ _ _ _ _ _ hB]; rfl
  have c3 : W.cell? ⟨B, 3, none⟩ = some vv' := by rw [cell_of_row _ _ _ _ _ _ hB]; rfl
  have c4 : W.cell? ⟨B, 4, none⟩ = some kv' := by rw [cell_of_row _ _ _ _ _ _ hB]; rfl
  have e0 : W.cell? ⟨B + 1, 0, none⟩ = some (.int .i64 x.err) := by rw [cell_of_row _ _ _ _ _ _ hS]; rfl
  have e1 : W.cell? ⟨B + 1, 1, none⟩ = some (.int .i64 x.pos) := by rw [cell_of_row _ _ _ _ _ _ hS]; rfl
  simp only [Exit.jumps]
  refine bodyPost_ret (v := .tuple #[.agg (tagCells x.tag vv' kv'), .agg #[.int .i64 x.err, .int .i64 x.pos]]) ?_ hd ⟨vv', kv', rfl, os', op', bel⟩
  obtain ⟨tmps, defers⟩ := a
  simp only [Array.getD_eq_getD_getElem?] at h2 h3
  simp [results, Tryz.results71, go_sem, h2, h3, c0, c1, c2, c3, c4, e0, e1, tagCells]

theorem ret_all {B Br Bp : Nat} {w0 w : World} {vv kv : Value} {t : Tg} {r : Rd} (st : St B Br Bp w0 w vv kv t r) (x : Res) (vv' kv' : Value) {a : Act} {Jx : Nat → Act → World → Prop} (hd : a.defers = [])
    (h2 : a.tmps.getD 2 undef = .pointer (some ⟨B, 0, none⟩)) (h3 : a.tmps.getD 3 undef = .pointer (some ⟨B + 1, 0, none⟩)) (os : OwnS w B vv' x.tag.vars) (op : OwnP w B kv' x.tag.keys) :
    Exit.jumps Jx (bodyPost Tryz.prog Tryz.f71 (Parsed B w0 x)) Exit.ret a (retW w B x vv' kv') :=
  ret_core st.bel st.h0 st.h1 x vv' kv' hd h2 h3 os op
end Go.Proofs.YtjlfchnnhglbjaaGreat
