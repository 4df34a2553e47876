/- RefP, RefSt, RefBit, Store5, StoreR -/
import Derived.Test.YtjlfchnnhglbjaaGreatWR1
import Derived.Test.YtjlfchnnhglbjaaGreatWB4
import Derived.Test.YtjlfchnnhglbjaaGreatWB1
import Derived.RegionTactic
set_option linter.unusedVariables false
set_option linter.unusedSimpArgs false
namespace Go.Proofs.YtjlfchnnhglbjaaGreat
def addV (v x : Str) : Str := if v = [] then x else v ++ [45] ++ x
def setLast (ks : List (Str × Str)) (x : Str) : List (Str × Str) := ks.dropLast ++ (ks.getLast?.map fun p => (p.1, addV p.2 x)).toList
def refL (N : Nat) (fin : Tg → Tg) : Nat → Tg → List (Str × Nat) → Res
 | st, t, [] => if st = 32 then ⟨Tg.zero, 180, N⟩ else ⟨fin t, 0, 0⟩
 | st, t, (x, at_) :: ps =>
  if st = 2 then (if isLang x then refL N fin 4 { t with lang := if lower x = tUnd then t.lang else lower x } ps else ⟨Tg.zero, 180, at_⟩)
  else if st = 4 ∧ isScript x = true then refL N fin 8 { t with script := title x } ps
  else if (st = 4 ∨ st = 8) ∧ isRegion x = true then refL N fin 16 { t with region := upper x } ps
  else if (st = 4 ∨ st = 8 ∨ st = 16) ∧ isVariant x = true then
   (if t.vars.contains (lower x) then ⟨Tg.zero, 181, at_⟩ else if t.vars.length = 8 then ⟨Tg.zero, 3, at_⟩ else refL N fin 16 { t with vars := putF t.vars (lower x) } ps)
  else if (st = 4 ∨ st = 8 ∨ st = 16) ∧ lower x = [117] then refL N fin 32 t ps
  else if (st = 32 ∨ st = 64) ∧ isKey x = true then
   (if t.keys.any (fun p => p.1 == lower x) then ⟨Tg.zero, 181, at_⟩ else if t.keys.length = 16 then ⟨Tg.zero, 3, at_⟩ else refL N fin 64 { t with keys := t.keys ++ [(lower x, [])] } ps)
  else if st = 64 ∧ isType x = true then refL N fin 64 { t with keys := setLast t.keys (lower x) } ps
  else ⟨Tg.zero, 180, at_⟩
end Go.Proofs.YtjlfchnnhglbjaaGreat
namespace Go.Proofs.YtjlfchnnhglbjaaGreat
open Go.RowKit Go.Lib Go.Sort
def finT (t : Tg) : Tg := { t with keys := srtK (t.keys.map fixP) }
def refF (s : Str) : Res := if 128 < s.length then ⟨Tg.zero, 3, 0⟩ else if lower s = tRoot then ⟨Tg.zero, 0, 0⟩ else refL s.length finT 2 Tg.zero (cutS 0 s)
def capS (v : Value) : Prop := ∀ ao n cp, v = .slice ao n cp → n ≤ cp
theorem capS_own {w : World} {B : Nat} {v : Value} {l : List Str} (h : OwnS w B v l) : capS v := by
 intro ao n cp e
 subst e
 rcases h.shape with ⟨e, _⟩ | ⟨g, cap, cur, e, _, _, h1, _⟩
 ·cases e; exact Nat.le_refl _
 ·cases e; exact h1
def RefOut (w : World) (x : Res) (e : Ending) (w' : World) : Prop :=
 ∃ vv kv, e = .returned (.tuple #[.agg (tagCells x.tag vv kv), .agg #[.int .i64 x.err, .int .i64 x.pos]]) ∧ (RdS w' vv x.tag.vars ∧ capS vv) ∧ RdP w' kv x.tag.keys ∧ Below w.heap.size w w'
theorem OwnS.mono {w : World} {B C : Nat} {v : Value} {l : List Str} (h : OwnS w B v l) (hc : C ≤ B) : OwnS w C v l := by
 unfold OwnS World.ownsRow at *
 refine ⟨h.1, ?_⟩
 rcases h.2 with h | ⟨g, cap, cur, h1, h2, h3⟩
 ·exact Or.inl h
 ·exact Or.inr ⟨g, cap, cur, h1, Nat.le_trans hc h2, h3⟩
theorem rret {w W : World} {X : Res} (x : Res) (vv kv : Value) (hxX : x = X) (hz : W.heap[w.heap.size]? = some (.cells (tagCells Tg.zero vnil vnil) 108 (0, 0))) (hs : W.heap[w.heap.size + 1]? = some (.cells #[.int .i64 0, .int .i64 0] 99 (0, 0))) (hb : Below w.heap.size w W)
  (os : OwnS W (w.heap.size + 2) vv x.tag.vars) (op : OwnP W (w.heap.size + 2) kv x.tag.keys) {a : Act} (hd : a.defers = [])
  (h2 : a.tmps.getD 2 undef = .pointer (some ⟨w.heap.size, 0, none⟩)) (h3 : a.tmps.getD 3 undef = .pointer (some ⟨w.heap.size + 1, 0, none⟩)) :
  bodyPost Tryz.prog Tryz.f75 (fun e w' => RefOut w X e w') Exit.ret a (retW W w.heap.size x vv kv) := by
 subst hxX
 have n1 : vv.ownBlock ≠ some w.heap.size := fun e => by have := (World.ownsRow.lt os _ e).1; omega
 have n2 : kv.ownBlock ≠ some w.heap.size := fun e => by have := (World.ownsRow.lt op _ e).1; omega
 have n3 : vv.ownBlock ≠ some (w.heap.size + 1) := fun e => by have := (World.ownsRow.lt os _ e).1; omega
 have n4 : kv.ownBlock ≠ some (w.heap.size + 1) := fun e => by have := (World.ownsRow.lt op _ e).1; omega
 generalize hB : w.heap.size = B at *
 have hBr : (retW W B x vv kv).heap[B]? = some (.cells (tagCells x.tag vv kv) 108 (0, 0)) := by
  unfold retW
  rw [heap_setCell_other _ _ _ _ (by simp), heap_setCell_other _ _ _ _ (by simp), heap_setCell_same _ _ _ _ _ _ (heap_setCell_same _ _ _ _ _ _ (heap_setCell_same _ _ _ _ _ _ (heap_setCell_same _ _ _ _ _ _ (heap_setCell_same _ _ _ _ _ _ hz))))]
  simp [tagCells]
 have hS : (retW W B x vv kv).heap[B + 1]? = some (.cells #[.int .i64 x.err, .int .i64 x.pos] 99 (0, 0)) := by
  unfold retW
  rw [heap_setCell_same _ _ _ _ _ _ (heap_setCell_same _ _ _ _ _ _ (by
   rw [heap_setCell_other _ _ _ _ (by simp), heap_setCell_other _ _ _ _ (by simp), heap_setCell_other _ _ _ _ (by simp), heap_setCell_other _ _ _ _ (by simp), heap_setCell_other _ _ _ _ (by simp)]
   exact hs))]
  simp
 have os' : OwnS (retW W B x vv kv) (B + 2) vv x.tag.vars := own_set (own_set (own_set (own_set (own_set (own_set (own_set os n1 _ _) n1 _ _) n1 _ _) n1 _ _) n1 _ _) n3 _ _) n3 _ _
 have op' : OwnP (retW W B x vv kv) (B + 2) kv x.tag.keys := own_set (own_set (own_set (own_set (own_set (own_set (own_set op n2 _ _) n2 _ _) n2 _ _) n2 _ _) n2 _ _) n4 _ _) n4 _ _
 have bel : Below B w (retW W B x vv kv) := ((((((hb.setCell (by simp) _).setCell (by simp) _).setCell (by simp) _).setCell (by simp) _).setCell (by simp) _).setCell (by simp) _).setCell (by simp) _
 generalize retW W B x vv kv = V at *
 have c0 : V.cell? ⟨B, 0, none⟩ = some (S x.tag.lang) := by rw [cell_of_row _ _ _ _ _ _ hBr]; rfl
 have c1 : V.cell? ⟨B, 1, none⟩ = some (S x.tag.script) := by rw [cell_of_row _ _ _ _ _ _ hBr]; rfl
 have c2 : V.cell? ⟨B, 2, none⟩ = some (S x.tag.region) := by rw [cell_of_row _ _ _ _ _ _ hBr]; rfl
 have c3 : V.cell? ⟨B, 3, none⟩ = some vv := by rw [cell_of_row _ _ _ _ _ _ hBr]; rfl
 have c4 : V.cell? ⟨B, 4, none⟩ = some kv := by rw [cell_of_row _ _ _ _ _ _ hBr]; rfl
 have e0 : V.cell? ⟨B + 1, 0, none⟩ = some (.int .i64 x.err) := by rw [cell_of_row _ _ _ _ _ _ hS]; rfl
 have e1 : V.cell? ⟨B + 1, 1, none⟩ = some (.int .i64 x.pos) := by rw [cell_of_row _ _ _ _ _ _ hS]; rfl
 refine bodyPost_ret (v := .tuple #[.agg (tagCells x.tag vv kv), .agg #[.int .i64 x.err, .int .i64 x.pos]]) ?_ hd ⟨vv, kv, rfl, ⟨os'.rd, capS_own os'⟩, op'.rd, hB ▸ bel⟩
 obtain ⟨tmps, defers⟩ := a
 simp only [Array.getD_eq_getD_getElem?] at h2 h3
 simp [results, Tryz.results75, go_sem, h2, h3, c0, c1, c2, c3, c4, e0, e1, tagCells]
structure RS (w0 w : World) (t : Tg) (vv kv : Value) : Prop where
 rt : w.heap[w0.heap.size]? = some (.cells (tagCells t vv kv) 108 (0, 0))
 os : OwnS w (w0.heap.size + 1) vv t.vars
 op : OwnP w (w0.heap.size + 1) kv t.keys
 bel : Below w0.heap.size w0 w
theorem RS.low {w0 w : World} {t : Tg} {vv kv : Value} (h : RS w0 w t vv kv) : w0.heap.size < w.heap.size := lt_of_block h.rt
theorem RS.nv {w0 w : World} {t : Tg} {vv kv : Value} (h : RS w0 w t vv kv) : vv.ownBlock ≠ some w0.heap.size := fun e => by have := (World.ownsRow.lt h.os _ e).1; omega
theorem RS.nk {w0 w : World} {t : Tg} {vv kv : Value} (h : RS w0 w t vv kv) : kv.ownBlock ≠ some w0.heap.size := fun e => by have := (World.ownsRow.lt h.op _ e).1; omega
theorem RS.below {w0 w w' : World} {t : Tg} {vv kv : Value} (h : RS w0 w t vv kv) (hb : Below w.heap.size w w') : RS w0 w' t vv kv :=
 ⟨(hb.block _ h.low).trans h.rt, own_below h.os hb, own_below h.op hb, h.bel.trans (hb.mono (Nat.le_of_lt h.low))⟩
theorem RS.lang {w0 w : World} {t : Tg} {vv kv : Value} (h : RS w0 w t vv kv) (x : Str) : RS w0 (w.setCell ⟨w0.heap.size, 0, none⟩ (S x)) { t with lang := x } vv kv :=
 ⟨by rw [heap_setCell_same _ _ _ _ _ _ h.rt]; simp [tagCells], own_set h.os h.nv _ _, own_set h.op h.nk _ _, h.bel.setCell (Nat.le_refl _) _⟩
theorem RS.script {w0 w : World} {t : Tg} {vv kv : Value} (h : RS w0 w t vv kv) (x : Str) : RS w0 (w.setCell ⟨w0.heap.size, 1, none⟩ (S x)) { t with script := x } vv kv :=
 ⟨by rw [heap_setCell_same _ _ _ _ _ _ h.rt]; simp [tagCells], own_set h.os h.nv _ _, own_set h.op h.nk _ _, h.bel.setCell (Nat.le_refl _) _⟩
theorem RS.region {w0 w : World} {t : Tg} {vv kv : Value} (h : RS w0 w t vv kv) (x : Str) : RS w0 (w.setCell ⟨w0.heap.size, 2, none⟩ (S x)) { t with region := x } vv kv :=
 ⟨by rw [heap_setCell_same _ _ _ _ _ _ h.rt]; simp [tagCells], own_set h.os h.nv _ _, own_set h.op h.nk _ _, h.bel.setCell (Nat.le_refl _) _⟩
theorem RS.vars {w0 w w' : World} {t : Tg} {vv kv vv' : Value} {l : List Str} (h : RS w0 w t vv kv) (hb : Below w.heap.size w w') (o : OwnS w' w.heap.size vv' l) : RS w0 (w'.setCell ⟨w0.heap.size, 3, none⟩ vv') { t with vars := l } vv' kv := by
 have h' := h.below hb
 have o' := OwnS.mono o h.low
 have hn : vv'.ownBlock ≠ some w0.heap.size := fun e => by have := (World.ownsRow.lt o' _ e).1; omega
 exact ⟨by rw [heap_setCell_same _ _ _ _ _ _ h'.rt]; simp [tagCells], own_set o' hn _ _, own_set h'.op h'.nk _ _, h'.bel.setCell (Nat.le_refl _) _⟩
theorem ne_own {w : World} {B : Nat} {vv kv : Value} {l : List Str} {k : List (Str × Str)} (os : OwnS w B vv l) (op : OwnP w B kv k) {g : Nat} (h1 : vv.ownBlock = some g) (h2 : kv.ownBlock = some g) : False := by
 rcases os.shape with ⟨rfl, _⟩ | ⟨g1, _, cur1, rfl, _, hg1, _⟩
 ·simp [Value.ownBlock] at h1
 ·rcases op.shape with ⟨rfl, _⟩ | ⟨g2, _, cur2, rfl, _, hg2, _⟩
  ·simp [Value.ownBlock] at h2
  ·simp [Value.ownBlock] at h1 h2
   subst h1 h2
   rw [hg1] at hg2
   have hc := Obj.cells.inj (Option.some.inj hg2)
   exact absurd hc.2.1 (by decide)
theorem RS.keys {w0 w w' : World} {t : Tg} {vv kv kv' : Value} {l : List (Str × Str)} (h : RS w0 w t vv kv) (gr : w.grownBy w' kv.ownBlock) (o : OwnP w' (w0.heap.size + 1) kv' l) : RS w0 (w'.setCell ⟨w0.heap.size, 4, none⟩ kv') { t with keys := l } vv kv' := by
 have hlow := h.low
 have hrt : w'.heap[w0.heap.size]? = some (.cells (tagCells t vv kv) 108 (0, 0)) := (gr.block _ h.low (fun e => h.nk e.symm)).trans h.rt
 have hos : OwnS w' (w0.heap.size + 1) vv t.vars := World.ownsRow.kept h.os gr (by
  by_cases e : vv.ownBlock = none
  ·exact Or.inl e
  ·right
   intro e2
   cases hvv : vv.ownBlock with
   | none => exact e hvv
   | some g => exact ne_own h.os h.op hvv (e2 ▸ hvv))
 have hbel : Below w0.heap.size w0 w' := h.bel.grown gr (Nat.le_of_lt hlow) (fun k hk => by have := (World.ownsRow.lt h.op k hk).1; omega)
 have hn : kv'.ownBlock ≠ some w0.heap.size := fun e => by have := (World.ownsRow.lt o _ e).1; omega
 exact ⟨by rw [heap_setCell_same _ _ _ _ _ _ hrt]; simp [tagCells], own_set hos h.nv _ _, own_set o hn _ _, hbel.setCell (Nat.le_refl _) _⟩
end Go.Proofs.YtjlfchnnhglbjaaGreat
namespace Go.Proofs.YtjlfchnnhglbjaaGreat
open Go.RowKit Go.Lib Go.Sort
def fls (b1 b2 b3 b4 b5 b6 b7 : Bool) : Nat := fl b1 2 + fl b2 4 + fl b3 8 + fl b4 16 + fl b5 32 + fl b6 64 + fl b7 128
theorem and2 : ∀ b1 b2 b3 b4 b5 b6 b7 : Bool, bits BinOp.and IntKind.i64 (fls b1 b2 b3 b4 b5 b6 b7 : Nat) 2 = (fl b1 2 : Nat) := by decide +kernel
theorem and4 : ∀ b1 b2 b3 b4 b5 b6 b7 : Bool, bits BinOp.and IntKind.i64 (fls b1 b2 b3 b4 b5 b6 b7 : Nat) 4 = (fl b2 4 : Nat) := by decide +kernel
theorem and8 : ∀ b1 b2 b3 b4 b5 b6 b7 : Bool, bits BinOp.and IntKind.i64 (fls b1 b2 b3 b4 b5 b6 b7 : Nat) 8 = (fl b3 8 : Nat) := by decide +kernel
theorem and16 : ∀ b1 b2 b3 b4 b5 b6 b7 : Bool, bits BinOp.and IntKind.i64 (fls b1 b2 b3 b4 b5 b6 b7 : Nat) 16 = (fl b4 16 : Nat) := by decide +kernel
theorem and32 : ∀ b1 b2 b3 b4 b5 b6 b7 : Bool, bits BinOp.and IntKind.i64 (fls b1 b2 b3 b4 b5 b6 b7 : Nat) 32 = (fl b5 32 : Nat) := by decide +kernel
theorem and64 : ∀ b1 b2 b3 b4 b5 b6 b7 : Bool, bits BinOp.and IntKind.i64 (fls b1 b2 b3 b4 b5 b6 b7 : Nat) 64 = (fl b6 64 : Nat) := by decide +kernel
theorem and128 : ∀ b1 b2 b3 b4 b5 b6 b7 : Bool, bits BinOp.and IntKind.i64 (fls b1 b2 b3 b4 b5 b6 b7 : Nat) 128 = (fl b7 128 : Nat) := by decide +kernel
structure Flags (x : Str) (k : Int) : Prop where
 f2 : bits BinOp.and IntKind.i64 k 2 = (fl (isLang x) 2 : Nat)
 f4 : bits BinOp.and IntKind.i64 k 4 = (fl (isScript x) 4 : Nat)
 f8 : bits BinOp.and IntKind.i64 k 8 = (fl (isRegion x) 8 : Nat)
 f16 : bits BinOp.and IntKind.i64 k 16 = (fl (isVariant x) 16 : Nat)
 f32 : bits BinOp.and IntKind.i64 k 32 = (fl (lower x == [117]) 32 : Nat)
 f64 : bits BinOp.and IntKind.i64 k 64 = (fl (isKey x) 64 : Nat)
 f128 : bits BinOp.and IntKind.i64 k 128 = (fl (isType x) 128 : Nat)
theorem flags (x : Str) : Flags x (kindsF x : Nat) := ⟨and2 .., and4 .., and8 .., and16 .., and32 .., and64 .., and128 ..⟩
theorem cutU_short : ∀ (n p : Nat) (l : Str), ∀ q ∈ cutU n p l, q.1.length ≤ l.length
 | 0, _, _ => by simp [cutU]
 | n + 1, p, l => by
  have h := take_drop_len l
  intro q hq
  simp only [cutU] at hq
  rcases List.mem_cons.1 hq with rfl | hq
  ·show (l.takeWhile noSep).length ≤ _; omega
  ·cases hd : l.dropWhile noSep with
   | nil => rw [hd] at hq; simp at hq
   | cons c r =>
    rw [hd] at hq h
    have := cutU_short n _ r q hq
    simp at h
    omega
theorem OwnU.rd {w : World} {B : Nat} {v : Value} {l : List (Str × Nat)} (h : OwnU w B v l) (hne : l ≠ []) : ∃ g cp, v = .slice (some ⟨g, 0, none⟩) l.length cp ∧ g < w.heap.size ∧ l.length ≤ maxLen ∧
  ∀ j (hj : j < l.length), w.cell? ⟨g, j * 2, none⟩ = some (.string ⟨l[j].1.toArray⟩) ∧ w.cell? ⟨g, j * 2 + 1, none⟩ = some (.int .i64 (l[j].2 : Int)) := by
 rcases h.2 with ⟨h1, h2⟩ | ⟨g, cap, cur, h1, h2, h3, h4, h5, h6, h7⟩
 ·exact absurd (List.eq_nil_of_length_eq_zero h2) hne
 ·refine ⟨g, cap, h1, lt_of_block h3, by omega, fun j hj => ⟨?_, ?_⟩⟩
  ·exact cells_at h3 h7 (j * 2) _ (by have := flatU_get l j 0 hj (by omega); rw [Nat.add_zero] at this; rw [this]; rfl)
  ·exact cells_at h3 h7 (j * 2 + 1) _ (by rw [flatU_get l j 1 hj (by omega)]; rfl)
theorem OwnP.setVal {w : World} {B g cp : Nat} {ks : List (Str × Str)} {k v : Str} {n : Nat} (h : OwnP w B (.slice (some ⟨g, 0, none⟩) n cp) (ks ++ [(k, v)])) (x : Str) : OwnP (w.setCell ⟨g, ks.length * 2 + 1, none⟩ (S x)) B (.slice (some ⟨g, 0, none⟩) n cp) (ks ++ [(k, x)]) := by
 have hlen : (flat2 ks).length = ks.length * 2 := flat2_len ks
 have e1 : ∀ y : Str, flat2 (ks ++ [(k, y)]) = flat2 ks ++ [S k, S y] := fun y => by simp [flat2, enc2]
 rcases h.2 with ⟨h1, _⟩ | ⟨g', cap, cur, h1, h2, h3, h4, h5, h6, h7⟩
 ·cases h1
 ·injection h1 with a1 a2 a3
  injection a1 with a1
  injection a1 with a1
  subst a1 a3
  refine ⟨by rw [flat2_len], Or.inr ⟨g, cp, _, by rw [a2]; simp, h2, heap_setCell_same _ _ _ _ _ _ h3, by simpa using h4, h5, by simpa using h6, ?_⟩⟩
  rw [e1] at h7 ⊢
  simp only [List.length_append, List.length_cons, List.length_nil] at h7 ⊢
  have h8 : (cur.setIfInBounds (ks.length * 2 + 1) (S x)).toList.take ((ks.length + (0 + 1)) * 2) = (cur.toList.take ((ks.length + (0 + 1)) * 2)).set (ks.length * 2 + 1) (S x) := by
   rw [Array.toList_setIfInBounds, List.take_set]
  refine Eq.trans h8 ?_
  rw [h7, List.set_append_right _ _ (by omega), hlen]
  simp
theorem setLast_snoc (ks : List (Str × Str)) (k v x : Str) : setLast (ks ++ [(k, v)]) x = ks ++ [(k, addV v x)] := by
 unfold setLast
 rw [List.dropLast_concat, List.getLast?_concat]
 rfl
theorem RS.last {w0 w : World} {t : Tg} {vv : Value} {g cp n : Nat} {ks : List (Str × Str)} {k v : Str} (h : RS w0 w t vv (.slice (some ⟨g, 0, none⟩) n cp)) (hk : t.keys = ks ++ [(k, v)]) (x : Str) :
  RS w0 (w.setCell ⟨g, ks.length * 2 + 1, none⟩ (S x)) { t with keys := ks ++ [(k, x)] } vv (.slice (some ⟨g, 0, none⟩) n cp) := by
 have hop := h.op
 rw [hk] at hop
 have hg : w0.heap.size + 1 ≤ g := (World.ownsRow.lt hop g rfl).1
 have hn : vv.ownBlock ≠ some g := fun e => ne_own h.os h.op e rfl
 have hrt : (w.setCell ⟨g, ks.length * 2 + 1, none⟩ (S x)).heap[w0.heap.size]? = some (.cells (tagCells t vv (.slice (some ⟨g, 0, none⟩) n cp)) 108 (0, 0)) := by
  rw [heap_setCell_other _ _ _ _ (by show w0.heap.size ≠ g; omega)]; exact h.rt
 exact ⟨by simpa [tagCells] using hrt, own_set h.os hn _ _, OwnP.setVal hop x, h.bel.setCell (show w0.heap.size ≤ g by omega) _⟩
end Go.Proofs.YtjlfchnnhglbjaaGreat
namespace Go.Proofs.YtjlfchnnhglbjaaGreat
open Go.RowKit Go.Lib Go.Sort
set_option maxHeartbeats 2000000 in
theorem wpList_load5 {w : World} {ops : Array Oper} {rest : List Oper} {o : Oper} {a : Act} {Q : Exit → Act → World → Prop} (hgd : o.guard = none) (p : Operand) (ho : o.op = .load 108 p)
  (b : Nat) (v0 v1 v2 v3 v4 : Value) (hp : a.eval p = .pointer (some ⟨b, 0, none⟩)) (hrow : w.heap[b]? = some (.cells #[v0, v1, v2, v3, v4] 108 (0, 0)))
  (h : wpList Tryz.prog ops Q rest (a.put o.dst (.agg #[v0, v1, v2, v3, v4])) w) : wpList Tryz.prog ops Q (o :: rest) a w := by
 obtain ⟨c0, c1, c2, c3, c4⟩ := box_cells hrow
 refine wpList_plain hgd fun _ hK => ?_
 unfold Oper.wp execOp
 simp only [ho, resolve, hp]
 simp [go_sem, c0, c1, c2, c3, c4]
 exact hK _ _ h
set_option maxHeartbeats 2000000 in
theorem wpList_store5 {w : World} {ops : Array Oper} {rest : List Oper} {o : Oper} {a : Act} {Q : Exit → Act → World → Prop} (hgd : o.guard = none) (p x : Operand) (ho : o.op = .store 108 p x) (hds : o.dst = none)
  (b : Nat) (z0 z1 z2 z3 z4 : Value) (s0 s1 s2 : ByteArray) (a3 a4 : Option Addr) (n3 k3 n4 k4 : Nat) (hp : a.eval p = .pointer (some ⟨b, 0, none⟩)) (hx : a.eval x = .agg #[.string s0, .string s1, .string s2, .slice a3 n3 k3, .slice a4 n4 k4]) (hrow : w.heap[b]? = some (.cells #[z0, z1, z2, z3, z4] 108 (0, 0)))
  (h : wpList Tryz.prog ops Q rest a (P5 w b (.string s0) (.string s1) (.string s2) (.slice a3 n3 k3) (.slice a4 n4 k4))) : wpList Tryz.prog ops Q (o :: rest) a w := by
 obtain ⟨c0, c1, c2, c3, c4⟩ := box_cells hrow
 have f0 := frozen_of_row w b 0 _ _ hrow
 have f1 := frozen_of_row w b 1 _ _ hrow
 have f2 := frozen_of_row w b 2 _ _ hrow
 have f3 := frozen_of_row w b 3 _ _ hrow
 have f4 := frozen_of_row w b 4 _ _ hrow
 refine wpList_plain hgd fun _ hK => ?_
 unfold Oper.wp execOp
 simp only [ho, resolve, hp, hx]
 simp [go_sem, c0, c1, c2, c3, c4, f0, f1, f2, f3, f4, hds]
 exact hK _ _ h
set_option maxHeartbeats 2000000 in
theorem wpList_store2 {w : World} {ops : Array Oper} {rest : List Oper} {o : Oper} {a : Act} {Q : Exit → Act → World → Prop} (hgd : o.guard = none) (p x : Operand) (ho : o.op = .store 99 p x) (hds : o.dst = none)
  (b : Nat) (z0 z1 : Value) (i0 i1 : Int) (hp : a.eval p = .pointer (some ⟨b, 0, none⟩)) (hx : a.eval x = .agg #[.int .i64 i0, .int .i64 i1]) (hrow : w.heap[b]? = some (.cells #[z0, z1] 99 (0, 0)))
  (h : wpList Tryz.prog ops Q rest a ((w.setCell ⟨b, 0, none⟩ (.int .i64 i0)).setCell ⟨b, 1, none⟩ (.int .i64 i1))) : wpList Tryz.prog ops Q (o :: rest) a w := by
 have c0 : w.cell? ⟨b, 0, none⟩ = some z0 := cell_of_row _ _ _ _ _ _ hrow
 have c1 : w.cell? ⟨b, 1, none⟩ = some z1 := cell_of_row _ _ _ _ _ _ hrow
 have f0 := frozen_of_row w b 0 _ _ hrow
 have f1 := frozen_of_row w b 1 _ _ hrow
 refine wpList_plain hgd fun _ hK => ?_
 unfold Oper.wp execOp
 simp only [ho, resolve, hp, hx]
 simp [go_sem, c0, c1, f0, f1, hds]
 exact hK _ _ h
theorem wpList_move {w : World} {ops : Array Oper} {rest : List Oper} {o : Oper} {a : Act} {Q : Exit → Act → World → Prop} (hgd : o.guard = none) (x : Operand) (ho : o.op = .move x)
  (v : Value) (hx : a.eval x = v) (h : wpList Tryz.prog ops Q rest (a.put o.dst v) w) : wpList Tryz.prog ops Q (o :: rest) a w := by
 refine wpList_plain hgd fun _ hK => ?_
 unfold Oper.wp execOp
 simp only [ho, resolve, hx]
 simp [go_sem]
 exact hK _ _ h
theorem wpList_build2 {w : World} {ops : Array Oper} {rest : List Oper} {o : Oper} {a : Act} {Q : Exit → Act → World → Prop} (hgd : o.guard = none) (k : Nat) (e : Int) (ho : o.op = .build 99 #[(0, .const (.int .i64 e)), (1, .tmp k)])
  (q : Int) (hx : a.eval (.tmp k) = .int .i64 q) (h : wpList Tryz.prog ops Q rest (a.put o.dst (.agg #[.int .i64 e, .int .i64 q])) w) : wpList Tryz.prog ops Q (o :: rest) a w := by
 refine wpList_plain hgd fun _ hK => ?_
 unfold Oper.wp execOp
 simp only [ho, resolve]
 simp [go_sem] at hx
 simp [go_sem, hx]
 exact hK _ _ h
theorem P5_other {w : World} {b c : Nat} (v0 v1 v2 v3 v4 : Value) (h : b ≠ c) : (P5 w b v0 v1 v2 v3 v4).heap[c]? = w.heap[c]? := by
 unfold P5
 rw [heap_setCell_other _ _ _ _ (by simpa using Ne.symm h), heap_setCell_other _ _ _ _ (by simpa using Ne.symm h), heap_setCell_other _ _ _ _ (by simpa using Ne.symm h), heap_setCell_other _ _ _ _ (by simpa using Ne.symm h), heap_setCell_other _ _ _ _ (by simpa using Ne.symm h)]
end Go.Proofs.YtjlfchnnhglbjaaGreat
namespace Go.Proofs.YtjlfchnnhglbjaaGreat
open Go.RowKit Go.Lib Go.Sort
theorem ready_cons {md : Region.Mode} {ops : Array Oper} {Q : Exit → Act → World → Prop} {fuel : Nat} {listed : Array Bool} {a : Act} {w : World} {i : Nat} {o : Oper} {rs : List Nat} (ho : ops[i]? = some o) (hg : o.guard = none)
  (h : ∀ K' : Act → World → Prop, (∀ a w, wpAny Tryz.prog md ops Q fuel (listed.setIfInBounds i true) a w → K' a w) → Oper.wp Tryz.prog o a w K' Q)
  (hs : AllReady Tryz.prog md ops Q fuel listed a w rs) : AllReady Tryz.prog md ops Q fuel listed a w (i :: rs) :=
 AllReady.cons ho (fun K' hK => by simp only [Region.wanted, hg, if_true]; exact h K' hK) hs
theorem ow_load5 {w : World} {o : Oper} {a : Act} {K : Act → World → Prop} {Q : Exit → Act → World → Prop} (p : Operand) (ho : o.op = .load 108 p)
  (b : Nat) (v0 v1 v2 v3 v4 : Value) (hp : a.eval p = .pointer (some ⟨b, 0, none⟩)) (hrow : w.heap[b]? = some (.cells #[v0, v1, v2, v3, v4] 108 (0, 0)))
  (h : K (a.put o.dst (.agg #[v0, v1, v2, v3, v4])) w) : Oper.wp Tryz.prog o a w K Q := by
 obtain ⟨c0, c1, c2, c3, c4⟩ := box_cells hrow
 unfold Oper.wp execOp
 simp only [ho, resolve, hp]
 simp [go_sem, c0, c1, c2, c3, c4]
 exact h
theorem ow_load2 {w : World} {o : Oper} {a : Act} {K : Act → World → Prop} {Q : Exit → Act → World → Prop} (p : Operand) (ho : o.op = .load 99 p)
  (b : Nat) (v0 v1 : Value) (hp : a.eval p = .pointer (some ⟨b, 0, none⟩)) (hrow : w.heap[b]? = some (.cells #[v0, v1] 99 (0, 0)))
  (h : K (a.put o.dst (.agg #[v0, v1])) w) : Oper.wp Tryz.prog o a w K Q := by
 have c0 : w.cell? ⟨b, 0, none⟩ = some v0 := cell_of_row _ _ _ _ _ _ hrow
 have c1 : w.cell? ⟨b, 1, none⟩ = some v1 := cell_of_row _ _ _ _ _ _ hrow
 unfold Oper.wp execOp
 simp only [ho, resolve, hp]
 simp [go_sem, c0, c1]
 exact h
theorem ow_store5 {w : World} {o : Oper} {a : Act} {K : Act → World → Prop} {Q : Exit → Act → World → Prop} (p x : Operand) (ho : o.op = .store 108 p x) (hds : o.dst = none)
  (b : Nat) (z0 z1 z2 z3 z4 : Value) (s0 s1 s2 : ByteArray) (a3 a4 : Option Addr) (n3 k3 n4 k4 : Nat) (hp : a.eval p = .pointer (some ⟨b, 0, none⟩)) (hx : a.eval x = .agg #[.string s0, .string s1, .string s2, .slice a3 n3 k3, .slice a4 n4 k4]) (hrow : w.heap[b]? = some (.cells #[z0, z1, z2, z3, z4] 108 (0, 0)))
  (h : K a (P5 w b (.string s0) (.string s1) (.string s2) (.slice a3 n3 k3) (.slice a4 n4 k4))) : Oper.wp Tryz.prog o a w K Q := by
 obtain ⟨c0, c1, c2, c3, c4⟩ := box_cells hrow
 have f0 := frozen_of_row w b 0 _ _ hrow
 have f1 := frozen_of_row w b 1 _ _ hrow
 have f2 := frozen_of_row w b 2 _ _ hrow
 have f3 := frozen_of_row w b 3 _ _ hrow
 have f4 := frozen_of_row w b 4 _ _ hrow
 unfold Oper.wp execOp
 simp only [ho, resolve, hp, hx]
 simp [go_sem, c0, c1, c2, c3, c4, f0, f1, f2, f3, f4, hds]
 exact h
theorem ow_store2 {w : World} {o : Oper} {a : Act} {K : Act → World → Prop} {Q : Exit → Act → World → Prop} (p x : Operand) (ho : o.op = .store 99 p x) (hds : o.dst = none)
  (b : Nat) (z0 z1 : Value) (i0 i1 : Int) (hp : a.eval p = .pointer (some ⟨b, 0, none⟩)) (hx : a.eval x = .agg #[.int .i64 i0, .int .i64 i1]) (hrow : w.heap[b]? = some (.cells #[z0, z1] 99 (0, 0)))
  (h : K a ((w.setCell ⟨b, 0, none⟩ (.int .i64 i0)).setCell ⟨b, 1, none⟩ (.int .i64 i1))) : Oper.wp Tryz.prog o a w K Q := by
 have c0 : w.cell? ⟨b, 0, none⟩ = some z0 := cell_of_row _ _ _ _ _ _ hrow
 have c1 : w.cell? ⟨b, 1, none⟩ = some z1 := cell_of_row _ _ _ _ _ _ hrow
 have f0 := frozen_of_row w b 0 _ _ hrow
 have f1 := frozen_of_row w b 1 _ _ hrow
 unfold Oper.wp execOp
 simp only [ho, resolve, hp, hx]
 simp [go_sem, c0, c1, f0, f1, hds]
 exact h
theorem err_region {id : Nat} {Q : Exit → Act → World → Prop} {a : Act} {w : World} {o0 o1 o2 o3 : Oper} (p0 p1 p2 p3 x2 x3 : Operand)
  (h0 : o0.op = .load 108 p0) (h1 : o1.op = .load 99 p1) (h2 : o2.op = .store 108 p2 x2) (h3 : o3.op = .store 99 p3 x3) (g0 : o0.guard = none) (g1 : o1.guard = none) (g2 : o2.guard = none) (g3 : o3.guard = none) (d2 : o2.dst = none) (d3 : o3.dst = none)
  (r : Region.ready .any #[o0, o1, o2, o3] #[false, false, false, false] = [0, 1]) (r0 : Region.ready .any #[o0, o1, o2, o3] #[true, false, false, false] = [1, 2]) (r1 : Region.ready .any #[o0, o1, o2, o3] #[false, true, false, false] = [0])
  (r01 : Region.ready .any #[o0, o1, o2, o3] #[true, true, false, false] = [2]) (r02 : Region.ready .any #[o0, o1, o2, o3] #[true, false, true, false] = [1]) (r012 : Region.ready .any #[o0, o1, o2, o3] #[true, true, true, false] = [3]) (rr : Region.ready .any #[o0, o1, o2, o3] #[true, true, true, true] = [])
  (B bn bw : Nat) (i0 i1 : Int) (z0 z1 z2 z3 z4 y0 y1 : Value) (hn : w.heap[bn]? = some (.cells #[.string ⟨#[]⟩, .string ⟨#[]⟩, .string ⟨#[]⟩, .slice none 0 0, .slice none 0 0] 108 (0, 0))) (hw : w.heap[bw]? = some (.cells #[.int .i64 i0, .int .i64 i1] 99 (0, 0)))
  (hB : w.heap[B]? = some (.cells #[z0, z1, z2, z3, z4] 108 (0, 0))) (hB1 : w.heap[B + 1]? = some (.cells #[y0, y1] 99 (0, 0))) (hne : bw ≠ B)
  (e0 : a.eval p0 = .pointer (some ⟨bn, 0, none⟩)) (e1 : a.eval p1 = .pointer (some ⟨bw, 0, none⟩)) (e2 : (a.put o1.dst (.agg #[.int .i64 i0, .int .i64 i1])).eval p0 = .pointer (some ⟨bn, 0, none⟩)) (e3 : (a.put o0.dst (.agg #[.string ⟨#[]⟩, .string ⟨#[]⟩, .string ⟨#[]⟩, .slice none 0 0, .slice none 0 0])).eval p1 = .pointer (some ⟨bw, 0, none⟩))
  (f0 : (a.put o0.dst (.agg #[.string ⟨#[]⟩, .string ⟨#[]⟩, .string ⟨#[]⟩, .slice none 0 0, .slice none 0 0])).eval p2 = .pointer (some ⟨B, 0, none⟩)) (f1 : ((a.put o0.dst (.agg #[.string ⟨#[]⟩, .string ⟨#[]⟩, .string ⟨#[]⟩, .slice none 0 0, .slice none 0 0])).put o1.dst (.agg #[.int .i64 i0, .int .i64 i1])).eval p2 = .pointer (some ⟨B, 0, none⟩)) (f2 : ((a.put o1.dst (.agg #[.int .i64 i0, .int .i64 i1])).put o0.dst (.agg #[.string ⟨#[]⟩, .string ⟨#[]⟩, .string ⟨#[]⟩, .slice none 0 0, .slice none 0 0])).eval p2 = .pointer (some ⟨B, 0, none⟩))
  (k0 : (a.put o0.dst (.agg #[.string ⟨#[]⟩, .string ⟨#[]⟩, .string ⟨#[]⟩, .slice none 0 0, .slice none 0 0])).eval x2 = .agg #[.string ⟨#[]⟩, .string ⟨#[]⟩, .string ⟨#[]⟩, .slice none 0 0, .slice none 0 0]) (k1 : ((a.put o0.dst (.agg #[.string ⟨#[]⟩, .string ⟨#[]⟩, .string ⟨#[]⟩, .slice none 0 0, .slice none 0 0])).put o1.dst (.agg #[.int .i64 i0, .int .i64 i1])).eval x2 = .agg #[.string ⟨#[]⟩, .string ⟨#[]⟩, .string ⟨#[]⟩, .slice none 0 0, .slice none 0 0]) (k2 : ((a.put o1.dst (.agg #[.int .i64 i0, .int .i64 i1])).put o0.dst (.agg #[.string ⟨#[]⟩, .string ⟨#[]⟩, .string ⟨#[]⟩, .slice none 0 0, .slice none 0 0])).eval x2 = .agg #[.string ⟨#[]⟩, .string ⟨#[]⟩, .string ⟨#[]⟩, .slice none 0 0, .slice none 0 0])
  (l1 : ((a.put o0.dst (.agg #[.string ⟨#[]⟩, .string ⟨#[]⟩, .string ⟨#[]⟩, .slice none 0 0, .slice none 0 0])).put o1.dst (.agg #[.int .i64 i0, .int .i64 i1])).eval p3 = .pointer (some ⟨B + 1, 0, none⟩)) (l2 : ((a.put o1.dst (.agg #[.int .i64 i0, .int .i64 i1])).put o0.dst (.agg #[.string ⟨#[]⟩, .string ⟨#[]⟩, .string ⟨#[]⟩, .slice none 0 0, .slice none 0 0])).eval p3 = .pointer (some ⟨B + 1, 0, none⟩))
  (m1 : ((a.put o0.dst (.agg #[.string ⟨#[]⟩, .string ⟨#[]⟩, .string ⟨#[]⟩, .slice none 0 0, .slice none 0 0])).put o1.dst (.agg #[.int .i64 i0, .int .i64 i1])).eval x3 = .agg #[.int .i64 i0, .int .i64 i1]) (m2 : ((a.put o1.dst (.agg #[.int .i64 i0, .int .i64 i1])).put o0.dst (.agg #[.string ⟨#[]⟩, .string ⟨#[]⟩, .string ⟨#[]⟩, .slice none 0 0, .slice none 0 0])).eval x3 = .agg #[.int .i64 i0, .int .i64 i1])
  (hQ1 : Q .normal ((a.put o0.dst (.agg #[.string ⟨#[]⟩, .string ⟨#[]⟩, .string ⟨#[]⟩, .slice none 0 0, .slice none 0 0])).put o1.dst (.agg #[.int .i64 i0, .int .i64 i1])) (retW w.drew B ⟨Tg.zero, i0.toNat, i1.toNat⟩ vnil vnil)) (hQ2 : Q .normal ((a.put o1.dst (.agg #[.int .i64 i0, .int .i64 i1])).put o0.dst (.agg #[.string ⟨#[]⟩, .string ⟨#[]⟩, .string ⟨#[]⟩, .slice none 0 0, .slice none 0 0])) (retW w.drew B ⟨Tg.zero, i0.toNat, i1.toNat⟩ vnil vnil)) (hi0 : 0 ≤ i0) (hi1 : 0 ≤ i1) :
  (Code.region id #[o0, o1, o2, o3] true).wp Tryz.prog Q a w := by
 have ei0 : ((i0.toNat : Nat) : Int) = i0 := Int.toNat_of_nonneg hi0
 have ei1 : ((i1.toNat : Nat) : Int) = i1 := Int.toNat_of_nonneg hi1
 have hfin : ((P5 w.drew B (.string ⟨#[]⟩) (.string ⟨#[]⟩) (.string ⟨#[]⟩) (.slice none 0 0) (.slice none 0 0)).setCell ⟨B + 1, 0, none⟩ (.int .i64 i0)).setCell ⟨B + 1, 1, none⟩ (.int .i64 i1) = retW w.drew B ⟨Tg.zero, i0.toNat, i1.toNat⟩ vnil vnil := by
  unfold retW P5
  rw [ei0, ei1]
  rfl
 rw [← hfin] at hQ1 hQ2
 have oth : ∀ b o, w.drew.heap[b]? = some o → b ≠ B → (P5 w.drew B (.string ⟨#[]⟩) (.string ⟨#[]⟩) (.string ⟨#[]⟩) (.slice none 0 0) (.slice none 0 0)).heap[b]? = some o := fun b o h hb => by
  unfold P5
  rw [heap_setCell_other _ _ _ _ hb, heap_setCell_other _ _ _ _ hb, heap_setCell_other _ _ _ _ hb, heap_setCell_other _ _ _ _ hb, heap_setCell_other _ _ _ _ hb]; exact h
 have hw' := oth bw _ hw hne
 have hB1' := oth (B + 1) _ hB1 (by omega)
 refine wp_region_any (by kernel_rfl) ?_
 refine wpAny_ready (rs := [0, 1]) r (by simp) ?_
 refine ready_cons rfl g0 (fun K hK => ow_load5 p0 h0 bn _ _ _ _ _ e0 hn (hK _ _ ?_)) (ready_cons rfl g1 (fun K hK => ow_load2 p1 h1 bw _ _ e1 hw (hK _ _ ?_)) AllReady.nil)
 ·refine wpAny_ready (rs := [1, 2]) r0 (by simp) ?_
  refine ready_cons rfl g1 (fun K hK => ow_load2 p1 h1 bw _ _ e3 hw (hK _ _ ?_)) (ready_cons rfl g2 (fun K hK => ow_store5 p2 x2 h2 d2 B _ _ _ _ _ _ _ _ _ _ _ _ _ _ f0 k0 hB (hK _ _ ?_)) AllReady.nil)
  ·refine wpAny_ready (rs := [2]) r01 (by simp) ?_
   refine ready_cons rfl g2 (fun K hK => ow_store5 p2 x2 h2 d2 B _ _ _ _ _ _ _ _ _ _ _ _ _ _ f1 k1 hB (hK _ _ ?_)) AllReady.nil
   refine wpAny_ready (rs := [3]) r012 (by simp) ?_
   refine ready_cons rfl g3 (fun K hK => ow_store2 p3 x3 h3 d3 (B + 1) _ _ _ _ l1 m1 hB1' (hK _ _ ?_)) AllReady.nil
   exact wpAny_done rr hQ1 _
  ·refine wpAny_ready (rs := [1]) r02 (by simp) ?_
   refine ready_cons rfl g1 (fun K hK => ow_load2 p1 h1 bw _ _ e3 hw' (hK _ _ ?_)) AllReady.nil
   refine wpAny_ready (rs := [3]) r012 (by simp) ?_
   refine ready_cons rfl g3 (fun K hK => ow_store2 p3 x3 h3 d3 (B + 1) _ _ _ _ l1 m1 hB1' (hK _ _ ?_)) AllReady.nil
   exact wpAny_done rr hQ1 _
 ·refine wpAny_ready (rs := [0]) r1 (by simp) ?_
  refine ready_cons rfl g0 (fun K hK => ow_load5 p0 h0 bn _ _ _ _ _ e2 hn (hK _ _ ?_)) AllReady.nil
  refine wpAny_ready (rs := [2]) r01 (by simp) ?_
  refine ready_cons rfl g2 (fun K hK => ow_store5 p2 x2 h2 d2 B _ _ _ _ _ _ _ _ _ _ _ _ _ _ f2 k2 hB (hK _ _ ?_)) AllReady.nil
  refine wpAny_ready (rs := [3]) r012 (by simp) ?_
  refine ready_cons rfl g3 (fun K hK => ow_store2 p3 x3 h3 d3 (B + 1) _ _ _ _ l2 m2 hB1' (hK _ _ ?_)) AllReady.nil
  exact wpAny_done rr hQ2 _
end Go.Proofs.YtjlfchnnhglbjaaGreat
