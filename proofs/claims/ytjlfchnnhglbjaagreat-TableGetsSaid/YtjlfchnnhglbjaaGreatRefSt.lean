/- The state of the reference's Parse, in memory. -/
import Derived.Test.YtjlfchnnhglbjaaGreatRefOrd
import Derived.Test.YtjlfchnnhglbjaaGreatWrong
import Derived.Test.YtjlfchnnhglbjaaGreatRefKind
import Derived.Test.YtjlfchnnhglbjaaGreatRefP
set_option linter.unusedVariables false
set_option linter.unusedSimpArgs false
namespace Go.Proofs.YtjlfchnnhglbjaaGreat
open Go.RowKit Go.Lib Go.Sort

def finT (t : Tg) : Tg := { t with keys := srtK (t.keys.map fixP) }
def refF (s : Str) : Res := if 128 < s.length then ⟨Tg.zero, 3, 0⟩ else if lower s = tRoot then ⟨Tg.zero, 0, 0⟩ else refL s.length finT 2 Tg.zero (cutS 0 s)
/-- a list lies in its room -/
def capS (v : Value) : Prop := ∀ ao n cp, v = .slice ao n cp → n ≤ cp
theorem capS_own {w : World} {B : Nat} {v : Value} {l : List Str} (h : OwnS w B v l) : capS v := by
  intro ao n cp e
  subst e
  rcases h.shape with ⟨e, _⟩ | ⟨g, cap, cur, e, _, _, h1, _⟩
  · cases e; exact Nat.le_refl _
  · cases e; exact h1
/-- what the reference's Parse hands back -/
def RefOut (w : World) (x : Res) (e : Ending) (w' : World) : Prop :=
  ∃ vv kv, e = .returned (.tuple #[.agg (tagCells x.tag vv kv), .agg #[.int .i64 x.err, .int .i64 x.pos]]) ∧ (RdS w' vv x.tag.vars ∧ capS vv) ∧ RdP w' kv x.tag.keys ∧ Below w.heap.size w w'

theorem OwnS.mono {w : World} {B C : Nat} {v : Value} {l : List Str} (h : OwnS w B v l) (hc : C ≤ B) : OwnS w C v l := by
  unfold OwnS World.ownsRow at *
  refine ⟨h.1, ?_⟩
  rcases h.2 with h | ⟨g, cap, cur, h1, h2, h3⟩
  · exact Or.inl h
  · exact Or.inr ⟨g, cap, cur, h1, Nat.le_trans hc h2, h3⟩

/-- the two results' boxes, stored -/
theorem rret {w W : World} {X : Res} (x : Res) (vv kv : Value) (hxX : x = X) (hz : W.heap[w.heap.size]? = some (.cells (tagCells Tg.zero vnil vnil) 108 (0, 0))) (hs : W.heap[w.heap.size + 1]? = some (.cells #[.int .i64 0, .int .i64 0] 99 (0, 0))) (hb : Below w.heap.size w W)
    (os : OwnS W (w.heap.size + 2) vv x.tag.vars) (op : OwnP W (w.heap.size + 2) kv x.tag.keys) {a : Act} (hd : a.defers = [])
    (h2 : a.tmps.getD 2 undef = .pointer (some ⟨w.heap.size, 0, none⟩)) (h3 : a.tmps.getD 3 undef = .pointer (some ⟨w.heap.size + 1, 0, none⟩)) :
    bodyPost Tryz.prog Tryz.f75 (fun e w' => RefOut w X e w') Exit.ret a (retW W w.heap.size x vv kv) := by
  subst hxX
  have n1 : vv.ownBlock ≠ some w.heap.size := fun e => by have := (World.ownsRow.lt os _ e).1; omega
  have n2 : kv.ownBlock ≠ some w.heap.size := fun e => by have := (World.ownsRow.lt op _ e).1; omega
  have n3 : vv.ownBlock ≠ some (w.heap.size + 1) := fun e => by have := (World.ownsRow.lt os _ e).1; omega
  have n4 : kv.ownBlock ≠ some (w.heap.size + 1) := fun e => by have := (World.ownsRow.lt op _ e).1; omega
  generalize hB : w.heap.size = B at *
  have hBr : (retW W B x vv kv).heap[B]? = some (.cells (tagCells x.tag vv kv) 108 (0, 0)) := by
    unfold retW
    rw [heap_setCell_other _ _ _ _ (by simp), heap_setCell_other _ _ _ _ (by simp), heap_setCell_same _ _ _ _ _ _ (heap_setCell_same _ _ _ _ _ _ (heap_setCell_same _ _ _ _ _ _ (heap_setCell_same _ _ _ _ _ _ (heap_setCell_same _ _ _ _ _ _ hz))))]
    simp [tagCells]
  have hS : (retW W B x vv kv).heap[B + 1]? = some (.cells #[.int .i64 x.err, .int .i64 x.pos] 99 (0, 0)) := by
    unfold retW
    rw [heap_setCell_same _ _ _ _ _ _ (heap_setCell_same _ _ _ _ _ _ (by
      rw [heap_setCell_other _ _ _ _ (by simp), heap_setCell_other _ _ _ _ (by simp), heap_setCell_other _ _ _ _ (by simp), heap_setCell_other _ _ _ _ (by simp), heap_setCell_other _ _ _ _ (by simp)]
      exact hs))]
    simp
  have os' : OwnS (retW W B x vv kv) (B + 2) vv x.tag.vars := own_set (own_set (own_set (own_set (own_set (own_set (own_set os n1 _ _) n1 _ _) n1 _ _) n1 _ _) n1 _ _) n3 _ _) n3 _ _
  have op' : OwnP (retW W B x vv kv) (B + 2) kv x.tag.keys := own_set (own_set (own_set (own_set (own_set (own_set (own_set op n2 _ _) n2 _ _) n2 _ _) n2 _ _) n2 _ _) n4 _ _) n4 _ _
  have bel : Below B w (retW W B x vv kv) := ((((((hb.setCell (by simp) _).setCell (by simp) _).setCell (by simp) _).setCell (by simp) _).setCell (by simp) _).setCell (by simp) _).setCell (by simp) _
  generalize retW W B x vv kv = V at *
  have c0 : V.cell? ⟨B, 0, none⟩ = some (S x.tag.lang) := by rw [cell_of_row _ _ _ _ _ _ hBr]; rfl
  have c1 : V.cell? ⟨B, 1, none⟩ = some (S x.tag.script) := by rw [cell_of_row _ _ _ _ _ _ hBr]; rfl
  have c2 : V.cell? ⟨B, 2, none⟩ = some (S x.tag.region) := by rw [cell_of_row _ _ _ _ _ _ hBr]; rfl
  have c3 : V.cell? ⟨B, 3, none⟩ = some vv := by rw [cell_of_row _ _ _ _ _ _ hBr]; rfl
  have c4 : V.cell? ⟨B, 4, none⟩ = some kv := by rw [cell_of_row _ _ _ _ _ _ hBr]; rfl
  have e0 : V.cell? ⟨B + 1, 0, none⟩ = some (.int .i64 x.err) := by rw [cell_of_row _ _ _ _ _ _ hS]; rfl
  have e1 : V.cell? ⟨B + 1, 1, none⟩ = some (.int .i64 x.pos) := by rw [cell_of_row _ _ _ _ _ _ hS]; rfl
  refine bodyPost_ret (v := .tuple #[.agg (tagCells x.tag vv kv), .agg #[.int .i64 x.err, .int .i64 x.pos]]) ?_ hd ⟨vv, kv, rfl, ⟨os'.rd, capS_own os'⟩, op'.rd, hB ▸ bel⟩
  obtain ⟨tmps, defers⟩ := a
  simp only [Array.getD_eq_getD_getElem?] at h2 h3
  simp [results, Tryz.results75, go_sem, h2, h3, c0, c1, c2, c3, c4, e0, e1, tagCells]

/-- the same, in a region that draws its order -/
theorem rret_drew {w W : World} {X : Res} (x : Res) (vv kv : Value) (hxX : x = X) (hz : W.heap[w.heap.size]? = some (.cells (tagCells Tg.zero vnil vnil) 108 (0, 0))) (hs : W.heap[w.heap.size + 1]? = some (.cells #[.int .i64 0, .int .i64 0] 99 (0, 0))) (hb : Below w.heap.size w W)
    (os : OwnS W (w.heap.size + 2) vv x.tag.vars) (op : OwnP W (w.heap.size + 2) kv x.tag.keys) {a : Act} (hd : a.defers = [])
    (h2 : a.tmps.getD 2 undef = .pointer (some ⟨w.heap.size, 0, none⟩)) (h3 : a.tmps.getD 3 undef = .pointer (some ⟨w.heap.size + 1, 0, none⟩)) :
    bodyPost Tryz.prog Tryz.f75 (fun e w' => RefOut w X e w') Exit.ret a (retW W w.heap.size x vv kv).drew := by
  subst hxX
  have n1 : vv.ownBlock ≠ some w.heap.size := fun e => by have := (World.ownsRow.lt os _ e).1; omega
  have n2 : kv.ownBlock ≠ some w.heap.size := fun e => by have := (World.ownsRow.lt op _ e).1; omega
  have n3 : vv.ownBlock ≠ some (w.heap.size + 1) := fun e => by have := (World.ownsRow.lt os _ e).1; omega
  have n4 : kv.ownBlock ≠ some (w.heap.size + 1) := fun e => by have := (World.ownsRow.lt op _ e).1; omega
  generalize hB : w.heap.size = B at *
  have hBr : (retW W B x vv kv).heap[B]? = some (.cells (tagCells x.tag vv kv) 108 (0, 0)) := by
    unfold retW
    rw [heap_setCell_other _ _ _ _ (by simp), heap_setCell_other _ _ _ _ (by simp), heap_setCell_same _ _ _ _ _ _ (heap_setCell_same _ _ _ _ _ _ (heap_setCell_same _ _ _ _ _ _ (heap_setCell_same _ _ _ _ _ _ (heap_setCell_same _ _ _ _ _ _ hz))))]
    simp [tagCells]
  have hS : (retW W B x vv kv).heap[B + 1]? = some (.cells #[.int .i64 x.err, .int .i64 x.pos] 99 (0, 0)) := by
    unfold retW
    rw [heap_setCell_same _ _ _ _ _ _ (heap_setCell_same _ _ _ _ _ _ (by
      rw [heap_setCell_other _ _ _ _ (by simp), heap_setCell_other _ _ _ _ (by simp), heap_setCell_other _ _ _ _ (by simp), heap_setCell_other _ _ _ _ (by simp), heap_setCell_other _ _ _ _ (by simp)]
      exact hs))]
    simp
  have os' : OwnS (retW W B x vv kv) (B + 2) vv x.tag.vars := own_set (own_set (own_set (own_set (own_set (own_set (own_set os n1 _ _) n1 _ _) n1 _ _) n1 _ _) n1 _ _) n3 _ _) n3 _ _
  have op' : OwnP (retW W B x vv kv) (B + 2) kv x.tag.keys := own_set (own_set (own_set (own_set (own_set (own_set (own_set op n2 _ _) n2 _ _) n2 _ _) n2 _ _) n2 _ _) n4 _ _) n4 _ _
  have bel : Below B w (retW W B x vv kv) := ((((((hb.setCell (by simp) _).setCell (by simp) _).setCell (by simp) _).setCell (by simp) _).setCell (by simp) _).setCell (by simp) _).setCell (by simp) _
  generalize retW W B x vv kv = V at *
  have c0 : V.cell? ⟨B, 0, none⟩ = some (S x.tag.lang) := by rw [cell_of_row _ _ _ _ _ _ hBr]; rfl
  have c1 : V.cell? ⟨B, 1, none⟩ = some (S x.tag.script) := by rw [cell_of_row _ _ _ _ _ _ hBr]; rfl
  have c2 : V.cell? ⟨B, 2, none⟩ = some (S x.tag.region) := by rw [cell_of_row _ _ _ _ _ _ hBr]; rfl
  have c3 : V.cell? ⟨B, 3, none⟩ = some vv := by rw [cell_of_row _ _ _ _ _ _ hBr]; rfl
  have c4 : V.cell? ⟨B, 4, none⟩ = some kv := by rw [cell_of_row _ _ _ _ _ _ hBr]; rfl
  have e0 : V.cell? ⟨B + 1, 0, none⟩ = some (.int .i64 x.err) := by rw [cell_of_row _ _ _ _ _ _ hS]; rfl
  have e1 : V.cell? ⟨B + 1, 1, none⟩ = some (.int .i64 x.pos) := by rw [cell_of_row _ _ _ _ _ _ hS]; rfl
  refine bodyPost_ret (v := .tuple #[.agg (tagCells x.tag vv kv), .agg #[.int .i64 x.err, .int .i64 x.pos]]) ?_ hd ⟨vv, kv, rfl, ⟨OwnS.rd (w := V.drew) os', capS_own os'⟩, OwnP.rd (w := V.drew) op', hB ▸ bel.drew⟩
  obtain ⟨tmps, defers⟩ := a
  simp only [Array.getD_eq_getD_getElem?] at h2 h3
  simp [results, Tryz.results75, go_sem, h2, h3, c0, c1, c2, c3, c4, e0, e1, tagCells]

/-- the tag's box while the loop runs; w0: the world behind Split -/
structure RS (w0 w : World) (t : Tg) (vv kv : Value) : Prop where
  rt : w.heap[w0.heap.size]? = some (.cells (tagCells t vv kv) 108 (0, 0))
  os : OwnS w (w0.heap.size + 1) vv t.vars
  op : OwnP w (w0.heap.size + 1) kv t.keys
  bel : Below w0.heap.size w0 w
theorem RS.low {w0 w : World} {t : Tg} {vv kv : Value} (h : RS w0 w t vv kv) : w0.heap.size < w.heap.size := lt_of_block h.rt
theorem RS.nv {w0 w : World} {t : Tg} {vv kv : Value} (h : RS w0 w t vv kv) : vv.ownBlock ≠ some w0.heap.size := fun e => by have := (World.ownsRow.lt h.os _ e).1; omega
theorem RS.nk {w0 w : World} {t : Tg} {vv kv : Value} (h : RS w0 w t vv kv) : kv.ownBlock ≠ some w0.heap.size := fun e => by have := (World.ownsRow.lt h.op _ e).1; omega
theorem RS.below {w0 w w' : World} {t : Tg} {vv kv : Value} (h : RS w0 w t vv kv) (hb : Below w.heap.size w w') : RS w0 w' t vv kv :=
  ⟨(hb.block _ h.low).trans h.rt, own_below h.os hb, own_below h.op hb, h.bel.trans (hb.mono (Nat.le_of_lt h.low))⟩
theorem RS.lang {w0 w : World} {t : Tg} {vv kv : Value} (h : RS w0 w t vv kv) (x : Str) : RS w0 (w.setCell ⟨w0.heap.size, 0, none⟩ (S x)) { t with lang := x } vv kv :=
  ⟨by rw [heap_setCell_same _ _ _ _ _ _ h.rt]; simp [tagCells], own_set h.os h.nv _ _, own_set h.op h.nk _ _, h.bel.setCell (Nat.le_refl _) _⟩
theorem RS.script {w0 w : World} {t : Tg} {vv kv : Value} (h : RS w0 w t vv kv) (x : Str) : RS w0 (w.setCell ⟨w0.heap.size, 1, none⟩ (S x)) { t with script := x } vv kv :=
  ⟨by rw [heap_setCell_same _ _ _ _ _ _ h.rt]; simp [tagCells], own_set h.os h.nv _ _, own_set h.op h.nk _ _, h.bel.setCell (Nat.le_refl _) _⟩
theorem RS.region {w0 w : World} {t : Tg} {vv kv : Value} (h : RS w0 w t vv kv) (x : Str) : RS w0 (w.setCell ⟨w0.heap.size, 2, none⟩ (S x)) { t with region := x } vv kv :=
  ⟨by rw [heap_setCell_same _ _ _ _ _ _ h.rt]; simp [tagCells], own_set h.os h.nv _ _, own_set h.op h.nk _ _, h.bel.setCell (Nat.le_refl _) _⟩
theorem RS.vars {w0 w w' : World} {t : Tg} {vv kv vv' : Value} {l : List Str} (h : RS w0 w t vv kv) (hb : Below w.heap.size w w') (o : OwnS w' w.heap.size vv' l) : RS w0 (w'.setCell ⟨w0.heap.size, 3, none⟩ vv') { t with vars := l } vv' kv := by
  have h' := h.below hb
  have o' := OwnS.mono o h.low
  have hn : vv'.ownBlock ≠ some w0.heap.size := fun e => by have := (World.ownsRow.lt o' _ e).1; omega
  exact ⟨by rw [heap_setCell_same _ _ _ _ _ _ h'.rt]; simp [tagCells], own_set o' hn _ _, own_set h'.op h'.nk _ _, h'.bel.setCell (Nat.le_refl _) _⟩
theorem ne_own {w : World} {B : Nat} {vv kv : Value} {l : List Str} {k : List (Str × Str)} (os : OwnS w B vv l) (op : OwnP w B kv k) {g : Nat} (h1 : vv.ownBlock = some g) (h2 : kv.ownBlock = some g) : False := by
  rcases os.shape with ⟨rfl, _⟩ | ⟨g1, _, cur1, rfl, _, hg1, _⟩
  · simp [Value.ownBlock] at h1
  · rcases op.shape with ⟨rfl, _⟩ | ⟨g2, _, cur2, rfl, _, hg2, _⟩
    · simp [Value.ownBlock] at h2
    · simp [Value.ownBlock] at h1 h2
      subst h1 h2
      rw [hg1] at hg2
      have hc := Obj.cells.inj (Option.some.inj hg2)
      exact absurd hc.2.1 (by decide)
theorem RS.keys {w0 w w' : World} {t : Tg} {vv kv kv' : Value} {l : List (Str × Str)} (h : RS w0 w t vv kv) (gr : w.grownBy w' kv.ownBlock) (o : OwnP w' (w0.heap.size + 1) kv' l) : RS w0 (w'.setCell ⟨w0.heap.size, 4, none⟩ kv') { t with keys := l } vv kv' := by
  have hlow := h.low
  have hrt : w'.heap[w0.heap.size]? = some (.cells (tagCells t vv kv) 108 (0, 0)) := (gr.block _ h.low (fun e => h.nk e.symm)).trans h.rt
  have hos : OwnS w' (w0.heap.size + 1) vv t.vars := World.ownsRow.kept h.os gr (by
    by_cases e : vv.ownBlock = none
    · exact Or.inl e
    · right
      intro e2
      cases hvv : vv.ownBlock with
      | none => exact e hvv
      | some g => exact ne_own h.os h.op hvv (e2 ▸ hvv))
  have hbel : Below w0.heap.size w0 w' := h.bel.grown gr (Nat.le_of_lt hlow) (fun k hk => by have := (World.ownsRow.lt h.op k hk).1; omega)
  have hn : kv'.ownBlock ≠ some w0.heap.size := fun e => by have := (World.ownsRow.lt o _ e).1; omega
  exact ⟨by rw [heap_setCell_same _ _ _ _ _ _ hrt]; simp [tagCells], own_set hos h.nv _ _, own_set o hn _ _, hbel.setCell (Nat.le_refl _) _⟩
end Go.Proofs.YtjlfchnnhglbjaaGreat
