/- TableR, RtbM, RtbFind, RtbList, RtbGroups, RefPrint, RefEq, RefName, RLoc -/
import Derived.Test.YtjlfchnnhglbjaaGreatWG
import Derived.Test.YtjlfchnnhglbjaaGreatWE
import Derived.Test.YtjlfchnnhglbjaaGreatWP
import Derived.Test.YtjlfchnnhglbjaaGreatWR1
import Derived.BigQuiet
import Derived.Test.YtjlfchnnhglbjaaGreatWB3
import Derived.IntWalk
import Derived.WalkSmall
import Derived.Test.YtjlfchnnhglbjaaGreatWB4
import Derived.Test.YtjlfchnnhglbjaaGreatWR2
import Derived.Test.YtjlfchnnhglbjaaGreatWR3
import Derived.Test.YtjlfchnnhglbjaaGreatWA
set_option linter.unusedVariables false
set_option linter.unusedSimpArgs false
namespace Go.Proofs.YtjlfchnnhglbjaaGreat
open Go.RowKit Go.Lib Go.Sort
end Go.Proofs.YtjlfchnnhglbjaaGreat
namespace Go.Proofs.YtjlfchnnhglbjaaGreat
open Go.RowKit Go.Lib Go.Sort
def encR : Enc Rw 5 where
 enc := fun r => [.string ⟨r.loc.toArray⟩, .string ⟨r.path.toArray⟩, .string ⟨r.text.toArray⟩, .int .i64 r.file, .int .i64 r.at']
 len := fun _ => rfl
 one := fun x u hu => by simp at hu; rcases hu with rfl | rfl | rfl | rfl | rfl <;> rfl
theorem infoR : (Tryz.prog.info? 56).map (fun i => (i.zero, i.size, i.bytes)) = some (some (.agg #[.string ⟨#[]⟩, .string ⟨#[]⟩, .string ⟨#[]⟩, .int .i64 0, .int .i64 0]), 5, 64) := by kernel_rfl
def Dis (v u : Value) : Prop := ∀ k, v.ownBlock = some k → u.ownBlock ≠ some k
theorem Dis.symm {v u : Value} (h : Dis v u) : Dis u v := fun k hu hv => h k hv hu
theorem Dis.kept {W W' : World} {B k n : Nat} {e : TypeId} {v u : Value} {xs : List Value} (h : Dis v u) (o : W.ownsRow B e k u n xs) (gr : W.grownBy W' v.ownBlock) : W'.ownsRow B e k u n xs := by
 refine World.ownsRow.kept o gr ?_
 cases hu : u.ownBlock with
 | none => exact Or.inl rfl
 | some q => exact Or.inr (fun e => h q e.symm hu)
theorem Dis.moved {W : World} {B k n : Nat} {e : TypeId} {v v' u : Value} {xs : List Value} (h : Dis v u) (o : W.ownsRow B e k u n xs) (m : Moved W v v') : Dis v' u := by
 rcases m with m | ⟨q, h1, h2⟩
 ·intro k hk; rw [m] at hk; exact h k hk
 ·intro k hk hu
  rw [h1] at hk; cases hk
  have := (World.ownsRow.lt o q hu).2
  omega
theorem own_agree {w w' : World} {B k n : Nat} {e : TypeId} {v : Value} {xs : List Value} (h : w.ownsRow B e k v n xs) (he : ∀ j, B ≤ j → w'.heap[j]? = w.heap[j]?) : w'.ownsRow B e k v n xs := by
 refine ⟨h.1, ?_⟩
 rcases h.2 with h | ⟨g, cap, cur, h1, h2, h3, h4⟩
 ·exact Or.inl h
 ·exact Or.inr ⟨g, cap, cur, h1, h2, (he g h2).trans h3, h4⟩
structure RfTb (B : Nat) (W : World) (Bt : Nat) (vr va vn vp : Value) (t : Tb) : Prop where
 box : W.heap[Bt]? = some (.cells #[vr, va, vn] 90 (0, 0))
 rows : OwnL encR 56 W B vr t.rows
 als : OwnL encR 56 W B va t.als
 names : OwnS W B vn t.names
 paths : OwnS W B vp t.paths
 d1 : Dis vr va
 d2 : Dis vn vp
 lo : B ≤ Bt
section
variable {B Bt : Nat} {W W' : World} {vr va vn vp v' : Value} {t : Tb}
theorem RfTb.below (h : RfTb B W Bt vr va vn vp t) (hb : Below W.heap.size W W') : RfTb B W' Bt vr va vn vp t :=
 ⟨(hb.block _ (lt_of_block h.box)).trans h.box, h.rows.below hb, h.als.below hb, own_below h.names hb, own_below h.paths hb, h.d1, h.d2, h.lo⟩
theorem RfTb.lower {C : Nat} (h : RfTb B W Bt vr va vn vp t) (hc : C ≤ B) : RfTb C W Bt vr va vn vp t :=
 ⟨h.box, h.rows.mono hc, h.als.mono hc, row_mono h.names hc, row_mono h.paths hc, h.d1, h.d2, Nat.le_trans hc h.lo⟩
theorem RfTb.cells (h : RfTb B W Bt vr va vn vp t) : W.cell? ⟨Bt, 0, none⟩ = some vr ∧ W.cell? ⟨Bt, 1, none⟩ = some va ∧ W.cell? ⟨Bt, 2, none⟩ = some vn ∧ Bt < W.heap.size ∧
  W.frozen? ⟨Bt, 0, none⟩ = false ∧ W.frozen? ⟨Bt, 1, none⟩ = false ∧ W.frozen? ⟨Bt, 2, none⟩ = false := by
 obtain ⟨a, b, c, d⟩ := box3_cells h.box
 exact ⟨a, b, c, d, box3_frozen h.box⟩
theorem RfTb.addRow {r : Rw} (h : RfTb B W Bt vr va vn vp t) (o : OwnL encR 56 W' B v' (t.rows ++ [r])) (gr : W.grownBy W' vr.ownBlock) (mv : Moved W vr v') :
  RfTb B (W'.setCell ⟨Bt, 0, none⟩ v') Bt v' va vn vp { t with rows := t.rows ++ [r] } := by
 have nb := own_type h.rows h.box (by decide)
 have hb : W'.heap[Bt]? = _ := (gr.block _ (lt_of_block h.box) (Ne.symm nb)).trans h.box
 have k1 : OwnL encR 56 W' B va t.als := h.d1.kept h.als gr
 have k2 : OwnS W' B vn t.names := World.ownsRow.kept h.names gr (ne_kinds h.names h.rows (by decide))
 have k3 : OwnS W' B vp t.paths := World.ownsRow.kept h.paths gr (ne_kinds h.paths h.rows (by decide))
 exact ⟨by rw [heap_setCell_same _ _ _ _ _ _ hb]; simp, own_set o (own_type o hb (by decide)) _ _, own_set k1 (own_type k1 hb (by decide)) _ _, own_set k2 (own_type k2 hb (by decide)) _ _, own_set k3 (own_type k3 hb (by decide)) _ _, h.d1.moved h.als mv, h.d2, h.lo⟩
theorem RfTb.addAl {r : Rw} (h : RfTb B W Bt vr va vn vp t) (o : OwnL encR 56 W' B v' (t.als ++ [r])) (gr : W.grownBy W' va.ownBlock) (mv : Moved W va v') :
  RfTb B (W'.setCell ⟨Bt, 1, none⟩ v') Bt vr v' vn vp { t with als := t.als ++ [r] } := by
 have nb := own_type h.als h.box (by decide)
 have hb : W'.heap[Bt]? = _ := (gr.block _ (lt_of_block h.box) (Ne.symm nb)).trans h.box
 have k1 : OwnL encR 56 W' B vr t.rows := h.d1.symm.kept h.rows gr
 have k2 : OwnS W' B vn t.names := World.ownsRow.kept h.names gr (ne_kinds h.names h.als (by decide))
 have k3 : OwnS W' B vp t.paths := World.ownsRow.kept h.paths gr (ne_kinds h.paths h.als (by decide))
 exact ⟨by rw [heap_setCell_same _ _ _ _ _ _ hb]; simp, own_set k1 (own_type k1 hb (by decide)) _ _, own_set o (own_type o hb (by decide)) _ _, own_set k2 (own_type k2 hb (by decide)) _ _, own_set k3 (own_type k3 hb (by decide)) _ _, (h.d1.symm.moved h.rows mv).symm, h.d2, h.lo⟩
theorem RfTb.addName {s : Str} (h : RfTb B W Bt vr va vn vp t) (o : OwnS W' B v' (t.names ++ [s])) (gr : W.grownBy W' vn.ownBlock) (mv : Moved W vn v') :
  RfTb B (W'.setCell ⟨Bt, 2, none⟩ v') Bt vr va v' vp { t with names := t.names ++ [s] } := by
 have nb := own_type h.names h.box (by decide)
 have hb : W'.heap[Bt]? = _ := (gr.block _ (lt_of_block h.box) (Ne.symm nb)).trans h.box
 have k1 : OwnL encR 56 W' B vr t.rows := World.ownsRow.kept h.rows gr (ne_kinds h.rows h.names (by decide))
 have k2 : OwnL encR 56 W' B va t.als := World.ownsRow.kept h.als gr (ne_kinds h.als h.names (by decide))
 have k3 : OwnS W' B vp t.paths := h.d2.kept h.paths gr
 exact ⟨by rw [heap_setCell_same _ _ _ _ _ _ hb]; simp, own_set k1 (own_type k1 hb (by decide)) _ _, own_set k2 (own_type k2 hb (by decide)) _ _, own_set o (own_type o hb (by decide)) _ _, own_set k3 (own_type k3 hb (by decide)) _ _, h.d1, h.d2.moved h.paths mv, h.lo⟩
theorem RfTb.addPath {s : Str} (h : RfTb B W Bt vr va vn vp t) (o : OwnS W' B v' (t.paths ++ [s])) (gr : W.grownBy W' vp.ownBlock) (mv : Moved W vp v') :
  RfTb B W' Bt vr va vn v' { t with paths := t.paths ++ [s] } := by
 have nb := own_type h.paths h.box (by decide)
 have hb : W'.heap[Bt]? = _ := (gr.block _ (lt_of_block h.box) (Ne.symm nb)).trans h.box
 have k1 : OwnL encR 56 W' B vr t.rows := World.ownsRow.kept h.rows gr (ne_kinds h.rows h.paths (by decide))
 have k2 : OwnL encR 56 W' B va t.als := World.ownsRow.kept h.als gr (ne_kinds h.als h.paths (by decide))
 have k3 : OwnS W' B vn t.names := h.d2.symm.kept h.names gr
 exact ⟨hb, k1, k2, k3, o, h.d1, (h.d2.symm.moved h.names mv).symm, h.lo⟩
end
def RfP (B : Nat) (W : World) (Bt : Nat) (t : Tb) : Prop := ∃ vr va vn, W.heap[Bt]? = some (.cells #[vr, va, vn] 90 (0, 0)) ∧
 OwnL encR 56 W B vr t.rows ∧ OwnL encR 56 W B va t.als ∧ OwnS W B vn t.names ∧ B ≤ Bt
theorem RfP.below {B : Nat} {W W' : World} {Bt : Nat} {t : Tb} (h : RfP B W Bt t) (hb : Below W.heap.size W W') : RfP B W' Bt t := by
 obtain ⟨vr, va, vn, h1, h2, h3, h4, h5⟩ := h
 exact ⟨vr, va, vn, (hb.block _ (lt_of_block h1)).trans h1, h2.below hb, h3.below hb, own_below h4 hb, h5⟩
theorem RfTb.done {B : Nat} {W : World} {Bt : Nat} {vr va vn vp : Value} {t : Tb} (h : RfTb B W Bt vr va vn vp t) : RfP B W Bt t := ⟨vr, va, vn, h.box, h.rows, h.als, h.names, h.lo⟩
def RNewOut (w : World) (l : List Dc) (x : Ending) (w' : World) : Prop :=
  Below w.heap.size w w' ∧
    (((newF l).1.err = 0 ∧ ∃ Bt, x = .returned (.tuple #[.pointer (some ⟨Bt, 0, none⟩), .agg #[.int .i64 0, .int .i64 0, .int .i64 0]]) ∧ RfP w.heap.size w' Bt (newF l).2 ∧ TbOk (newF l).2) ∨
     ((newF l).1.err ≠ 0 ∧ x = .returned (.tuple #[.pointer none, .agg #[.int .i64 (newF l).1.err, .int .i64 (newF l).1.file, .int .i64 (newF l).1.at']])))
end Go.Proofs.YtjlfchnnhglbjaaGreat
namespace Go.Proofs.YtjlfchnnhglbjaaGreat
open Go.RowKit Go.Lib Go.Sort
theorem rIs_any (s : Str) (w : World) (hs : s.length ≤ maxLen) : Calls Tryz.prog 56 #[.string ⟨s.toArray⟩] w fun x w' => x = .returned (.bool (pathB s)) ∧ Below w.heap.size w w' := by
 have PP := hid (fun W => (show Calls Tryz.prog 48 #[.string ⟨s.toArray⟩] W fun x w' => ∃ (v : Value) (er : Nat) (a : Int), x = .returned (.tuple #[v, .agg #[.int .i64 er, .int .i64 a]]) ∧ ((er : Int) == 0) = pathB s ∧ Below W.heap.size W w' from
  (rparse6_any s W hs).mono (by
   rintro x w' ⟨h, hb⟩
   rcases h with ⟨l, v, h1, h2, _⟩ | ⟨h1, er, a, h2, h3⟩
   ·exact ⟨v, 0, 0, h2, by unfold pathB; rw [h1]; simp, hb⟩
   ·exact ⟨_, er, a, h3, by unfold pathB; rw [h1]; simp [h2], hb⟩)))
 go_enter Tryz.func56, Tryz.ntmps56
 go_wp2_with fail
 refine (PP.out w).mono ?_
 rintro e w2 ⟨v, er, a, rfl, hi, hb2⟩
 have B2 := hid hb2
 have hb3 : Below w2.heap.size w2 (w2.alloc (.cells #[.int .i64 er, .int .i64 a] 99)) := (Below.refl _ _).alloc (Nat.le_refl _) _
 have B3 := hid (B2.out.then hb3)
 have G3 := hid (heap_alloc_new w2 (.cells #[.int .i64 er, .int .i64 a] 99))
 clear hb2 hb3 B2
 go_upto_region 2 with fail
 generalize w2.alloc (.cells #[.int .i64 er, .int .i64 a] 99) = w3 at *
 obtain ⟨y0, y1, yf0, yf1, ylt⟩ := box2_cells G3.out
 obtain ⟨pb, hpb⟩ : ∃ pb, pb = pathB s := ⟨_, rfl⟩
 rw [← hpb] at hi
 have HPB := hid hpb
 clear hpb
 go_wp2_with fail
 exact bodyPost_ret (v := .bool pb) (by simp [results, Tryz.results56, go_sem, hi]) rfl ⟨by rw [HPB.out], B3.out⟩
set_option maxHeartbeats 1000000 in
theorem rHas_any (w : World) (v : Value) (l : List Str) (s : Str) (h : RdS w v l) :
  Calls Tryz.prog 42 #[v, .string ⟨s.toArray⟩] w fun e w' => e = .returned (.bool (l.contains s)) ∧ w' = w := by
 obtain ⟨ao, cp, rfl, hz, hr⟩ := h
 have hl63 : l.length ≤ 9223372036854775807 := hz.1
 go_enter Tryz.func42, Tryz.ntmps42
 go_wp2
 go_loopg [9] l.length (fun g vi W => ∃ n : Nat, n ≤ l.length ∧ l.length ≤ n + g ∧ vi = .int .i64 n ∧ (l.take n).contains s = false ∧ W = w)
 case atStart => exact ⟨0, Nat.zero_le _, by omega, rfl, by simp, rfl⟩
 case round =>
  obtain ⟨n, hn, hg, rfl, hc, rfl⟩ := hrel
  have HG := hid hg
  clear hg
  by_cases hlt : n < l.length
  ·have hne : l ≠ [] := by rintro rfl; simp at hlt
   obtain ⟨b, off, rfl, hbl, hcell⟩ := hr hne
   have c0 := hcell n _ (List.getElem?_eq_getElem hlt)
   have ht := take_cont l n hlt s
   have hq := cont_get (s := s) hlt
   generalize l[n] = y at *
   rw [S] at c0
   have HT := hid ht
   have HQ := hid hq
   have HC := hid hc
   clear ht hq hc hcell hr hz hne
   by_cases hy : y = s
   ·have hb : (y == s) = true := by rw [hy]; simp
    have HY := hid (HQ.out hy)
    clear hy
    go_wp2
    go_ret
    exact ⟨by rw [HY.out]; rfl, rfl⟩
   ·have hb : (y == s) = false := by rw [beq_eq_false_iff_ne]; exact hy
    have HY := hid hy
    clear hy
    go_wp2
    go_roundg (gk - 1)
    case measure => have := HG.out; omega
    case rel => exact ⟨n + 1, by omega, by have := HG.out; omega, by simp, by rw [HT.out, HC.out, Bool.false_or, beq_eq_false_iff_ne]; exact fun e => HY.out e.symm, rfl⟩
  ·have ht : l.take n = l := List.take_of_length_le (by omega)
   rw [ht] at hc
   have HC := hid hc
   clear hc ht
   go_wp2
   go_ret
   exact ⟨by rw [HC.out]; rfl, rfl⟩
def rowP (loc path : Str) (r : Rw) : Bool := r.loc == loc && r.path == path
def idxR (l : List Rw) (loc path : Str) : Int := match l.findIdx? (rowP loc path) with
 | some k => (k : Int)
 | none => -1
theorem idxR_none {l : List Rw} {loc path : Str} (h : ∀ r ∈ l, rowP loc path r = false) : idxR l loc path = -1 := by
 unfold idxR
 rw [List.findIdx?_eq_none_iff.2 h]
theorem idxR_at {l : List Rw} {loc path : Str} {n : Nat} (hn : n < l.length) (h : ∀ r ∈ l.take n, rowP loc path r = false) (hp : rowP loc path (l[n]'hn) = true) : idxR l loc path = (n : Int) := by
 unfold idxR
 have : l.findIdx? (rowP loc path) = some n := by
  rw [List.findIdx?_eq_some_iff_getElem]
  refine ⟨hn, hp, fun j hj => ?_⟩
  rw [h _ (List.mem_take_iff_getElem.2 ⟨j, by omega, rfl⟩)]
  exact Bool.false_ne_true
 rw [this]
theorem idxR_cases (l : List Rw) (loc path : Str) : (idxR l loc path = -1 ∧ findR l loc path = none) ∨ ∃ (k : Nat) (hk : k < l.length), idxR l loc path = (k : Int) ∧ findR l loc path = some (l[k]'hk) := by
 unfold idxR findR
 cases h : l.findIdx? (rowP loc path) with
 | none =>
  left
  refine ⟨rfl, ?_⟩
  rw [List.find?_eq_none]
  intro r hr
  have := List.findIdx?_eq_none_iff.1 h r hr
  rw [show (r.loc == loc && r.path == path) = rowP loc path r from rfl, this]
  exact Bool.false_ne_true
 | some k =>
  right
  obtain ⟨hk, h1, h2⟩ := List.findIdx?_eq_some_iff_getElem.1 h
  refine ⟨k, hk, rfl, ?_⟩
  rw [List.find?_eq_some_iff_getElem]
  refine ⟨h1, k, hk, rfl, fun j hj => ?_⟩
  have h3 := h2 j hj
  simp [rowP] at h3 ⊢
  exact Decidable.not_or_of_imp h3
theorem rdR_cells {w : World} {v : Value} {l : List Rw} (h : RdL encR w v l) : ∃ ao cp, v = .slice ao l.length cp ∧ l.length ≤ cp ∧ l.length ≤ 9223372036854775807 ∧ ∀ n (hn : n < l.length), ∃ p o, ao = some ⟨p, o, none⟩ ∧ p < w.heap.size ∧
  w.cell? ⟨p, o + n * 5, none⟩ = some (.string ⟨(l[n]'hn).loc.toArray⟩) ∧ w.cell? ⟨p, o + n * 5 + 1, none⟩ = some (.string ⟨(l[n]'hn).path.toArray⟩) ∧ w.cell? ⟨p, o + n * 5 + 2, none⟩ = some (.string ⟨(l[n]'hn).text.toArray⟩) ∧ w.cell? ⟨p, o + n * 5 + 3, none⟩ = some (.int .i64 (l[n]'hn).file) ∧ w.cell? ⟨p, o + n * 5 + 4, none⟩ = some (.int .i64 (l[n]'hn).at') := by
 obtain ⟨ao, cp, rfl, ⟨h1, h2, _⟩, hc⟩ := h
 refine ⟨ao, cp, rfl, h1, h2, fun n hn => ?_⟩
 obtain ⟨p, o, ha, hp, hx⟩ := hc (by intro e; rw [e] at hn; simp at hn)
 exact ⟨p, o, ha, hp, hx n 0 _ hn rfl, hx n 1 _ hn rfl, hx n 2 _ hn rfl, hx n 3 _ hn rfl, hx n 4 _ hn rfl⟩
theorem take_no {l : List Rw} {n : Nat} {loc path : Str} (hn : n < l.length) (h : ∀ r ∈ l.take n, rowP loc path r = false) (hp : rowP loc path (l[n]'hn) = false) : ∀ r ∈ l.take (n + 1), rowP loc path r = false := by
 intro r hr
 rw [List.take_succ_eq_append_getElem hn] at hr
 rcases List.mem_append.1 hr with hr | hr
 ·exact h r hr
 ·rw [List.mem_singleton.1 hr]; exact hp
set_option maxRecDepth 100000 in
set_option maxHeartbeats 4000000 in
theorem rfind12_any (w : World) (v : Value) (l : List Rw) (loc path : Str) (h : RdL encR w v l) :
  Calls Tryz.prog 45 #[v, .string ⟨loc.toArray⟩, .string ⟨path.toArray⟩] w fun e w' => e = .returned (.int .i64 (idxR l loc path)) ∧ Below w.heap.size w w' := by
 obtain ⟨ao, cp, rfl, hln, h63, hcell⟩ := rdR_cells h
 have HCELL := hid hcell
 clear hcell h
 go_enter Tryz.func45, Tryz.ntmps45
 go_wp2_with fail
 go_loopg [11] l.length (fun g vi W => ∃ n : Nat, n ≤ l.length ∧ l.length ≤ n + g ∧ vi = .int .i64 n ∧ (∀ r ∈ l.take n, rowP loc path r = false) ∧ Below w.heap.size w W)
 case atStart => exact ⟨0, Nat.zero_le _, by omega, rfl, by simp, Below.refl _ _⟩
 case round =>
  obtain ⟨n, hn, hg, rfl, hno, hb⟩ := hrel
  rename World => w1
  have HG := hid hg
  have HNO := hid hno
  have HB := hid hb
  clear hg hno hb
  by_cases hlt : n < l.length
  ·have hni : (n : Int) < (l.length : Int) := by omega
   have hn0 : (0 : Int) ≤ (n : Int) := by omega
   obtain ⟨p, o, rfl, hp, q0, q1, q2, q3, q4⟩ := HCELL.out n hlt
   have r0 := (HB.out.cell (p := ⟨p, o + n * 5, none⟩) hp).trans q0
   have r1 := (HB.out.cell (p := ⟨p, o + n * 5 + 1, none⟩) hp).trans q1
   have r2 := (HB.out.cell (p := ⟨p, o + n * 5 + 2, none⟩) hp).trans q2
   have r3 := (HB.out.cell (p := ⟨p, o + n * 5 + 3, none⟩) hp).trans q3
   have r4 := (HB.out.cell (p := ⟨p, o + n * 5 + 4, none⟩) hp).trans q4
   have hp2 : p < w1.heap.size := Nat.lt_of_lt_of_le hp HB.out.size
   have HAT := hid (idxR_at (loc := loc) (path := path) hlt HNO.out)
   have HTK := hid (take_no (loc := loc) (path := path) hlt HNO.out)
   clear q0 q1 q2 q3 q4 HCELL
   generalize l[n]'hlt = x at *
   obtain ⟨rl, rp, rt, rf, ra⟩ := x
   simp only at r0 r1 r2 r3 r4
   go_upto_region 4 with fail
   have HA := hid (show Below w.heap.size w (w1.alloc (.cells #[.string ⟨rl.toArray⟩, .string ⟨rp.toArray⟩, .string ⟨rt.toArray⟩, .int .i64 rf, .int .i64 ra] 56)) from HB.out.alloc HB.out.size _)
   have F2 := hid (heap_alloc_new w1 (.cells #[.string ⟨rl.toArray⟩, .string ⟨rp.toArray⟩, .string ⟨rt.toArray⟩, .int .i64 rf, .int .i64 ra] 56))
   clear r0 r1 r2 r3 r4 hp2
   generalize w1.alloc (.cells #[.string ⟨rl.toArray⟩, .string ⟨rp.toArray⟩, .string ⟨rt.toArray⟩, .int .i64 rf, .int .i64 ra] 56) = w2 at *
   obtain ⟨c0, c1, c2, c3, c4, cl⟩ := box5_cells F2.out
   cases e1 : (rl == loc) with
   | false =>
    have HP := hid (show rowP loc path ⟨rl, rp, rt, rf, ra⟩ = false by simp [rowP, e1])
    go_wp2_with fail
    go_roundg (gk - 1)
    case measure => have := HG.out; omega
    case rel => exact ⟨n + 1, by omega, by have := HG.out; omega, by simp, HTK.out HP.out, HA.out⟩
   | true =>
    cases e2 : (rp == path) with
    | false =>
     have HP := hid (show rowP loc path ⟨rl, rp, rt, rf, ra⟩ = false by simp [rowP, e2])
     go_wp2_with fail
     go_roundg (gk - 1)
     case measure => have := HG.out; omega
     case rel => exact ⟨n + 1, by omega, by have := HG.out; omega, by simp, HTK.out HP.out, HA.out⟩
    | true =>
     have HP := hid (show rowP loc path ⟨rl, rp, rt, rf, ra⟩ = true by simp [rowP, e1, e2])
     go_wp2_with fail
     exact bodyPost_ret (v := .int .i64 n) (by simp [results, Tryz.results45, go_sem]) rfl ⟨by rw [HAT.out HP.out], HA.out⟩
  ·have hni : ¬ (n : Int) < (l.length : Int) := by omega
   have HE := hid (idxR_none (l := l) (loc := loc) (path := path) (by have := HNO.out; rwa [List.take_of_length_le (by omega)] at this))
   go_wp2_with fail
   exact bodyPost_ret (v := .int .i64 (-1)) (by simp [results, Tryz.results45, go_sem]) rfl ⟨by rw [HE.out], HB.out⟩
def rRow (r : Option Rw) : Value := match r with
 | some x => .agg #[.string ⟨x.loc.toArray⟩, .string ⟨x.path.toArray⟩, .string ⟨x.text.toArray⟩, .int .i64 x.file, .int .i64 x.at']
 | none => .agg #[.string ⟨#[]⟩, .string ⟨#[]⟩, .string ⟨#[]⟩, .int .i64 0, .int .i64 0]
def P5r (W : World) (B : Nat) (a0 a1 a2 a3 a4 : Value) : World := ((((W.setCell ⟨B, 0, none⟩ a0).setCell ⟨B, 1, none⟩ a1).setCell ⟨B, 2, none⟩ a2).setCell ⟨B, 3, none⟩ a3).setCell ⟨B, 4, none⟩ a4
theorem P5r_row {W : World} {B : Nat} {z0 z1 z2 z3 z4 : Value} {ty : TypeId} (a0 a1 a2 a3 a4 : Value) (h : W.heap[B]? = some (.cells #[z0, z1, z2, z3, z4] ty (0, 0))) : (P5r W B a0 a1 a2 a3 a4).heap[B]? = some (.cells #[a0, a1, a2, a3, a4] ty (0, 0)) := by
 unfold P5r
 rw [heap_setCell_same _ _ _ _ _ _ (heap_setCell_same _ _ _ _ _ _ (heap_setCell_same _ _ _ _ _ _ (heap_setCell_same _ _ _ _ _ _ (heap_setCell_same _ _ _ _ _ _ h))))]; simp
theorem P5r_below {B b : Nat} {w W : World} (a0 a1 a2 a3 a4 : Value) (h : Below B w W) (hb : B ≤ b) : Below B w (P5r W b a0 a1 a2 a3 a4) :=
 ((((h.setCell (p := ⟨b, 0, none⟩) hb a0).setCell (p := ⟨b, 1, none⟩) hb a1).setCell (p := ⟨b, 2, none⟩) hb a2).setCell (p := ⟨b, 3, none⟩) hb a3).setCell (p := ⟨b, 4, none⟩) hb a4
theorem box5_frozen {W : World} {B : Nat} {a b c d e : Value} {ty : TypeId} (h : W.heap[B]? = some (.cells #[a, b, c, d, e] ty (0, 0))) : W.frozen? ⟨B, 0, none⟩ = false ∧ W.frozen? ⟨B, 1, none⟩ = false ∧ W.frozen? ⟨B, 2, none⟩ = false ∧ W.frozen? ⟨B, 3, none⟩ = false ∧ W.frozen? ⟨B, 4, none⟩ = false :=
 ⟨frozen_of_row W B 0 _ _ h, frozen_of_row W B 1 _ _ h, frozen_of_row W B 2 _ _ h, frozen_of_row W B 3 _ _ h, frozen_of_row W B 4 _ _ h⟩
theorem rget_ret {V : World} {Pb : Nat} {a0 a1 a2 a3 a4 : Value} {q : Bool} (hr : V.heap[Pb]? = some (.cells #[a0, a1, a2, a3, a4] 56 (0, 0))) {Q : Ending → World → Prop} {act : Act} (hd : act.defers = [])
  (h2 : act.tmps.getD 6 undef = .pointer (some ⟨Pb, 0, none⟩)) (h3 : act.tmps.getD 7 undef = .bool q) (hQ : Q (.returned (.tuple #[.agg #[a0, a1, a2, a3, a4], .bool q])) V) :
  bodyPost Tryz.prog Tryz.f26 Q Exit.ret act V := by
 obtain ⟨e0, e1, e2, e3, e4, _⟩ := box5_cells hr
 refine bodyPost_ret (v := .tuple #[.agg #[a0, a1, a2, a3, a4], .bool q]) ?_ hd hQ
 obtain ⟨tmps, defers⟩ := act
 simp only [Array.getD_eq_getD_getElem?] at h2 h3
 simp [results, Tryz.results26, go_sem, h2, h3, e0, e1, e2, e3, e4]
set_option maxRecDepth 100000 in
set_option maxHeartbeats 4000000 in
theorem rget_any {B Bt : Nat} {w : World} {t : Tb} (h : RfP B w Bt t) (loc path : Str) :
  Calls Tryz.prog 26 #[.pointer (some ⟨Bt, 0, none⟩), .string ⟨loc.toArray⟩, .string ⟨path.toArray⟩] w fun e w' => e = .returned (.tuple #[rRow (findR t.rows loc path), .bool (findR t.rows loc path).isSome]) ∧ Below w.heap.size w w' := by
 obtain ⟨vr, va, vn, h1, h2, h3, h4, h5⟩ := h
 have HB0 := hid (show Below w.heap.size w (w.alloc (.cells #[.string ⟨#[]⟩, .string ⟨#[]⟩, .string ⟨#[]⟩, .int .i64 0, .int .i64 0] 56)) from (Below.refl _ _).alloc (Nat.le_refl _) _)
 have F0 := hid (heap_alloc_new w (.cells #[.string ⟨#[]⟩, .string ⟨#[]⟩, .string ⟨#[]⟩, .int .i64 0, .int .i64 0] 56))
 have T1 := hid ((HB0.out.block _ (lt_of_block h1)).trans h1)
 have R1 := hid (h2.rd.below HB0.out)
 have FI := hid (fun W (hb : Below (w.alloc (.cells #[.string ⟨#[]⟩, .string ⟨#[]⟩, .string ⟨#[]⟩, .int .i64 0, .int .i64 0] 56)).heap.size (w.alloc (.cells #[.string ⟨#[]⟩, .string ⟨#[]⟩, .string ⟨#[]⟩, .int .i64 0, .int .i64 0] 56)) W) => rfind12_any W vr t.rows loc path (R1.out.below hb))
 have CS := hid (idxR_cases t.rows loc path)
 clear h1 h2 h3 h4 h5
 go_enter Tryz.func26, Tryz.ntmps26
 go_upto_region 1 with fail
 generalize w.alloc (.cells #[.string ⟨#[]⟩, .string ⟨#[]⟩, .string ⟨#[]⟩, .int .i64 0, .int .i64 0] 56) = w1 at *
 obtain ⟨t0, t1, t2, tl⟩ := box3_cells T1.out
 go_wp2_with fail
 refine (FI.out w1 (Below.refl _ _)).mono ?_
 rintro e w2 ⟨rfl, hb2⟩
 have B2 := hid (HB0.out.then hb2)
 have F2 := hid ((hb2.block _ (lt_of_block F0.out)).trans F0.out)
 have T2 := hid ((hb2.block _ (lt_of_block T1.out)).trans T1.out)
 have R2 := hid (R1.out.below hb2)
 clear hb2 t0 t1 t2 tl R1 T1 F0
 obtain ⟨t0, t1, t2, tl⟩ := box3_cells T2.out
 obtain ⟨z0, z1, z2, z3, z4, zl⟩ := box5_cells F2.out
 obtain ⟨f0, f1, f2, f3, f4⟩ := box5_frozen F2.out
 rcases CS.out with ⟨hi, hf⟩ | ⟨k, hk, hi, hf⟩
 ·rw [hi]
  have HF := hid hf
  clear hi hf
  go_wp2_with fail
  exact rget_ret (V := P5r w2 w.heap.size _ _ _ _ _) (Pb := w.heap.size) (P5r_row _ _ _ _ _ F2.out) rfl rfl rfl ⟨by rw [HF.out]; rfl, P5r_below _ _ _ _ _ B2.out (Nat.le_refl _)⟩
 ·rw [hi]
  have HF := hid hf
  clear hi hf
  obtain ⟨ao, cp, rfl, hln, h63, hcell⟩ := rdR_cells R2.out
  obtain ⟨p, o, rfl, hp, q0, q1, q2, q3, q4⟩ := hcell k hk
  have hki : (k : Int) < (t.rows.length : Int) := by omega
  have hk0 : (0 : Int) ≤ (k : Int) := by omega
  clear hcell
  generalize t.rows[k]'hk = x at *
  obtain ⟨rl, rp, rt, rf, ra⟩ := x
  simp only at q0 q1 q2 q3 q4
  go_wp2_with fail
  exact rget_ret (V := P5r w2 w.heap.size _ _ _ _ _) (Pb := w.heap.size) (P5r_row _ _ _ _ _ F2.out) rfl rfl rfl ⟨by rw [HF.out]; rfl, P5r_below _ _ _ _ _ B2.out (Nat.le_refl _)⟩
end Go.Proofs.YtjlfchnnhglbjaaGreat
namespace Go.Proofs.YtjlfchnnhglbjaaGreat
open Go.RowKit Go.Lib Go.Sort
def encT : Enc Str 1 where
 enc := fun s => [S s]
 len := fun _ => rfl
 one := fun x u hu => by rw [List.mem_singleton.1 hu]; rfl
theorem flat_t (l : List Str) : flatL encT l = l.map S := by
 induction l with
 | nil => rfl
 | cons c t ih => simp only [flatL, List.flatMap_cons] at ih ⊢; rw [ih]; rfl
theorem ownT_S {w : World} {B : Nat} {v : Value} {l : List Str} : OwnL encT 9 w B v l ↔ OwnS w B v l := by
 unfold OwnL OwnS
 rw [flat_t]
theorem sortStrings_any (w : World) (B : Nat) (v : Value) (l : List Str) (h : OwnS w B v l) (hl : l.length ≤ 1000) :
  Calls Tryz.prog 41 #[v] w fun e w' => e = .returned (.tuple #[]) ∧ OwnS w' B v (srtT l) ∧ w.grownBy w' v.ownBlock := by
 have SO := hid (sort_own w B v l h hl)
 go_enter Tryz.func41, Tryz.ntmps41
 go_wp2_with fail
 refine SO.out.mono ?_
 rintro e w' ⟨rfl, h1, h2⟩
 go_wp2_with fail
 exact bodyPost_end (results_none Tryz.results41 _ _ _) rfl ⟨rfl, h1, h2⟩
theorem filter_take {p : Rw → Bool} {l : List Rw} {n : Nat} (hn : n < l.length) : (l.take (n + 1)).filter p = (l.take n).filter p ++ (if p (l[n]'hn) then [l[n]'hn] else []) := by
 rw [List.take_succ_eq_append_getElem hn, List.filter_append]
 congr 1
 simp [List.filter_cons]
set_option maxRecDepth 100000 in
set_option maxHeartbeats 4000000 in
theorem rpaths_any {B Bt : Nat} {w : World} {t : Tb} (h : RfP B w Bt t) (loc : Str) (hs : t.rows.length ≤ 1000) :
  Calls Tryz.prog 23 #[.pointer (some ⟨Bt, 0, none⟩), .string ⟨loc.toArray⟩] w fun e w' => OutS w (pathsF t loc) e w' := by
 obtain ⟨vr, va, vn, h1, h2, h3, h4, h5⟩ := h
 have HS := hid hs
 obtain ⟨ao, cp, rfl, hln, h63, hcell⟩ := rdR_cells h2.rd
 have HCELL := hid hcell
 obtain ⟨t0, t1, t2, tl⟩ := box3_cells h1
 clear h2 h3 h4 h5 hs hcell
 go_enter Tryz.func23, Tryz.ntmps23
 go_wp2_with fail
 go_loopg [5, 13] t.rows.length (fun g v5 v13 W => ∃ n : Nat, n ≤ t.rows.length ∧ t.rows.length ≤ n + g ∧ v13 = .int .i64 n ∧ OwnS W w.heap.size v5 (((t.rows.take n).filter (fun r => r.loc == loc)).map (·.path)) ∧ Below w.heap.size w W)
 case atStart => exact ⟨0, Nat.zero_le _, by omega, rfl, World.ownsRow_nil _ _ _ _, Below.refl _ _⟩
 case round =>
  obtain ⟨n, hn, hg, rfl, ho, hb⟩ := hrel
  rename World => w1
  have HG := hid hg
  have HO := hid ho
  have HB := hid hb
  clear hg ho hb t0 t1 t2 tl
  by_cases hlt : n < t.rows.length
  ·have hni : (n : Int) < (t.rows.length : Int) := by omega
   have hn0 : (0 : Int) ≤ (n : Int) := by omega
   obtain ⟨p, o, rfl, hp, q0, q1, q2, q3, q4⟩ := HCELL.out n hlt
   have r0 := (HB.out.cell (p := ⟨p, o + n * 5, none⟩) hp).trans q0
   have r1 := (HB.out.cell (p := ⟨p, o + n * 5 + 1, none⟩) hp).trans q1
   have r2 := (HB.out.cell (p := ⟨p, o + n * 5 + 2, none⟩) hp).trans q2
   have r3 := (HB.out.cell (p := ⟨p, o + n * 5 + 3, none⟩) hp).trans q3
   have r4 := (HB.out.cell (p := ⟨p, o + n * 5 + 4, none⟩) hp).trans q4
   have hp2 : p < w1.heap.size := Nat.lt_of_lt_of_le hp HB.out.size
   have HFT := hid (filter_take (p := fun r => r.loc == loc) hlt)
   have HLN := hid (show (((t.rows.take n).filter (fun r => r.loc == loc)).map (·.path)).length ≤ 1000000 by
    rw [List.length_map]
    have h1 := List.length_filter_le (fun (r : Rw) => r.loc == loc) (t.rows.take n)
    have h2 : (t.rows.take n).length ≤ t.rows.length := by rw [List.length_take]; omega
    have := HS.out; omega)
   clear q0 q1 q2 q3 q4 HCELL
   generalize t.rows[n]'hlt = x at *
   obtain ⟨rl, rp, rt, rf, ra⟩ := x
   simp only at r0 r1 r2 r3 r4 HFT
   generalize hD : (t.rows.take n).filter (fun r => r.loc == loc) = D at *
   have HD := hid hD
   clear hD
   go_upto_region 5 with fail
   have HA := hid (show Below w.heap.size w (w1.alloc (.cells #[.string ⟨rl.toArray⟩, .string ⟨rp.toArray⟩, .string ⟨rt.toArray⟩, .int .i64 rf, .int .i64 ra] 56)) from HB.out.alloc HB.out.size _)
   have F2 := hid (heap_alloc_new w1 (.cells #[.string ⟨rl.toArray⟩, .string ⟨rp.toArray⟩, .string ⟨rt.toArray⟩, .int .i64 rf, .int .i64 ra] 56))
   have HO2 := hid (show OwnS (w1.alloc (.cells #[.string ⟨rl.toArray⟩, .string ⟨rp.toArray⟩, .string ⟨rt.toArray⟩, .int .i64 rf, .int .i64 ra] 56)) w.heap.size u5 (D.map (·.path)) from own_below HO.out ((Below.refl _ _).alloc (Nat.le_refl _) _))
   clear r0 r1 r2 r3 r4 hp2 HO
   generalize w1.alloc (.cells #[.string ⟨rl.toArray⟩, .string ⟨rp.toArray⟩, .string ⟨rt.toArray⟩, .int .i64 rf, .int .i64 ra] 56) = w2 at *
   obtain ⟨c0, c1, c2, c3, c4, cl⟩ := box5_cells F2.out
   cases e1 : (rl == loc) with
   | false =>
    have HE := hid e1
    go_wp2_with fail
    go_roundg (gk - 1)
    case measure => have := HG.out; omega
    case rel => exact ⟨n + 1, by omega, by have := HG.out; omega, by simp, by rw [HFT.out, HE.out]; simpa using HO2.out, HA.out⟩
   | true =>
    have HE := hid e1
    have HBZ := hid HA.out.size
    go_wp2_with (at_builtin; refine wpList_pushS rfl (.tmp 21) (.tmp 24) rfl w.heap.size _ _ rp rfl HO2.out rfl HLN.out HBZ.out ?_; intro v6 w6 own6 gr6 mv6; have O6 := hid own6; have B6 := hid (HA.out.grown gr6 HA.out.size (fun j hj => (World.ownsRow.lt HO2.out _ hj).1)); clear own6 gr6 mv6)
    go_roundg (gk - 1)
    case measure => have := HG.out; omega
    case rel => exact ⟨n + 1, by omega, by have := HG.out; omega, by simp, by rw [HFT.out, HE.out]; simpa using O6.out, B6.out⟩
  ·have hni : ¬ (n : Int) < (t.rows.length : Int) := by omega
   have HO2 := hid (show OwnS w1 w.heap.size u5 ((rowsOf t loc).map (·.path)) by have := HO.out; rwa [List.take_of_length_le (by omega)] at this)
   have HL2 := hid (show ((rowsOf t loc).map (·.path)).length ≤ 1000 by
    rw [List.length_map]
    have h1 := List.length_filter_le (fun (r : Rw) => r.loc == loc) t.rows
    have := HS.out; unfold rowsOf; omega)
   clear HO
   go_wp2_with fail
   refine (sortStrings_any w1 _ _ _ HO2.out HL2.out).mono ?_
   rintro e w6 ⟨rfl, o6, g6⟩
   have O6 := hid o6
   have B6 := hid (HB.out.grown g6 HB.out.size (fun j hj => (World.ownsRow.lt HO2.out _ hj).1))
   clear o6 g6
   go_wp2_with fail
   exact bodyPost_ret (v := u5) (by simp [results, Tryz.results23, go_sem]) rfl ⟨_, rfl, O6.out, B6.out⟩
end Go.Proofs.YtjlfchnnhglbjaaGreat
namespace Go.Proofs.YtjlfchnnhglbjaaGreat
open Go.RowKit Go.Lib Go.Sort
end Go.Proofs.YtjlfchnnhglbjaaGreat
namespace Go.Proofs.YtjlfchnnhglbjaaGreat
open Go.RowKit Go.Lib Go.Sort
def printB (t : Tg) : Str := headPart t.lang ++ jt (opt t.script ++ opt t.region ++ t.vars)
theorem jt_snoc (l : List Str) (x : Str) : jt (l ++ [x]) = jt l ++ [45] ++ x := by rw [jt_append, jt_cons, jt_nil]; simp
theorem jt_take_len (l : List Str) (n : Nat) : (jt (l.take n)).length ≤ (jt l).length := by
 conv => rhs; rw [← List.take_append_drop n l, jt_append, List.length_append]
 omega
theorem take_stepS (l : List Str) (k : Nat) (h : k < l.length) : l.take (k + 1) = l.take k ++ [l[k]] := by
 rw [List.take_add_one, List.getElem?_eq_getElem h]; rfl
set_option maxRecDepth 100000 in
set_option maxHeartbeats 16000000 in
theorem rprint_any (w : World) (vv : Value) (t : Tg) (hS : RdS w vv t.vars) (hb : (printB t).length ≤ 1000) :
    Calls Tryz.prog 131 #[.agg (tagCells t vv vnil)] w fun e w' => e = .returned (.string ⟨(printB t).toArray⟩) ∧ Below w.heap.size w w' := by
  obtain ⟨av, cv, rfl, hav, hsa⟩ := hS
  simp only [tagCells, S, vnil]
  have HB0 := hid ((Below.refl w.heap.size w).alloc (Nat.le_refl _) (.cells #[.string ⟨t.lang.toArray⟩, .string ⟨t.script.toArray⟩, .string ⟨t.region.toArray⟩, .slice av t.vars.length cv, .slice none 0 0] 108))
  have HXA := hid (heap_alloc_new w (.cells #[.string ⟨t.lang.toArray⟩, .string ⟨t.script.toArray⟩, .string ⟨t.region.toArray⟩, .slice av t.vars.length cv, .slice none 0 0] 108))
  have HSA := hid hsa
  have hbl : (headPart t.lang).length ≤ 1000 := by unfold printB at hb; rw [List.length_append] at hb; omega
  have hsc : t.script.length ≤ 1000 := by unfold printB at hb; rw [List.length_append, jt_append, jt_append, List.length_append, List.length_append] at hb; by_cases h : t.script = []; · rw [h]; simp
                                          · rw [show opt t.script = [t.script] by unfold opt; rw [if_neg h], jt_cons] at hb; simp at hb; omega
  have hrg : t.region.length ≤ 1000 := by unfold printB at hb; rw [List.length_append, jt_append, jt_append, List.length_append, List.length_append] at hb; by_cases h : t.region = []; · rw [h]; simp
                                          · rw [show opt t.region = [t.region] by unfold opt; rw [if_neg h], jt_cons] at hb; simp at hb; omega
  have hlg : t.lang.length ≤ 1000 := by
    by_cases h : t.lang = []
    · rw [h]; simp
    · unfold headPart at hbl; rw [if_neg h] at hbl; exact hbl
  by_cases h0 : t.lang = []
  · have p0 : (t.lang == []) = true := by rw [h0]; rfl
    have p0' : (t.lang != []) = false := by rw [h0]; rfl
    by_cases h1 : t.script = []
    · have p1 : (t.script == []) = true := by rw [h1]; rfl
      have p1' : (t.script != []) = false := by rw [h1]; rfl
      by_cases h2 : t.region = []
      · have p2 : (t.region == []) = true := by rw [h2]; rfl
        have p2' : (t.region != []) = false := by rw [h2]; rfl
        have HBASE : Hid (headPart t.lang ++ jt (opt t.script ++ opt t.region) = ([117, 110, 100] : Str)) := by
          show _ = _
          unfold headPart opt
          rw [if_pos h0, if_pos h1, if_pos h2]
          simp [jt_nil, jt_cons, tUnd]
        clear h0 h1 h2
        go_enter Tryz.func131, Tryz.ntmps131
        go_wp2_with fail
        generalize hW : w.alloc (.cells #[.string ⟨t.lang.toArray⟩, .string ⟨t.script.toArray⟩, .string ⟨t.region.toArray⟩, .slice av t.vars.length cv, .slice none 0 0] 108) = W0 at *
        clear hW
        obtain ⟨_, _, _, c3, c4⟩ := box_cells HXA.out
        go_loopg [3, 4] t.vars.length (fun g vo vi W => ∃ n : Nat, n ≤ t.vars.length ∧ t.vars.length ≤ n + g ∧ vi = .int .i64 n ∧ vo = .string ⟨(([117, 110, 100] : Str) ++ jt (t.vars.take n)).toArray⟩ ∧ W = W0)
        case atStart => exact ⟨0, Nat.zero_le _, by omega, rfl, by rw [List.take_zero, jt_nil, List.append_nil]; (repeat rw [← str_cat]); (try rfl), rfl⟩
        case round =>
          obtain ⟨n, hn, hg, rfl, rfl, rfl⟩ := hrel
          have HG := hid hg
          clear hg
          by_cases hlt : n < t.vars.length
          · have hne : t.vars ≠ [] := by intro e; rw [e] at hlt; simp at hlt
            obtain ⟨p1, o1, rfl, hp1, hc1⟩ := HSA.out hne
            have q1 := (HB0.out.cell (p := ⟨p1, o1 + n, none⟩) hp1).trans (hc1 n _ (List.getElem?_eq_getElem hlt))
            have hst := take_stepS t.vars n hlt
            obtain ⟨x, hx⟩ : ∃ x, x = t.vars[n] := ⟨_, rfl⟩
            rw [← hx, S] at q1
            rw [← hx] at hst
            have hj1 := jt_take_len t.vars (n + 1)
            have hj2 := hj1
            rw [hst, jt_snoc] at hj2
            have hbb : (([117, 110, 100] : Str)).length + (jt t.vars).length ≤ 1000 := by
              have h := hb
              unfold printB at h
              rw [jt_append, ← List.append_assoc, HBASE.out, List.length_append] at h
              exact h
            have hl1 : (([117, 110, 100] : Str) ++ jt (t.vars.take n)).length + 1 + x.length ≤ 1000 := by rw [List.length_append]; simp only [List.length_append, List.length_cons, List.length_nil] at hj2 hbb ⊢; omega
            have HST := hid (show ([117, 110, 100] : Str) ++ jt (t.vars.take n) ++ [45] ++ x = ([117, 110, 100] : Str) ++ jt (t.vars.take (n + 1)) by rw [hst, jt_snoc]; simp)
            clear hst hx hj1 hj2 hbb hc1 hne
            generalize ([117, 110, 100] : Str) ++ jt (t.vars.take n) = out at *
            go_wp2_with fail
            go_roundg (gk - 1)
            case measure => have := HG.out; omega
            case rel => exact ⟨n + 1, by omega, by have := HG.out; omega, by simp, by rw [← HST.out]; show Value.string ((⟨out.toArray⟩ ++ ⟨([45] : Str).toArray⟩) ++ ⟨x.toArray⟩) = _; rw [str_cat, str_cat], rfl⟩
          · have hfin : ([117, 110, 100] : Str) ++ jt (t.vars.take n) = printB t := by
              rw [List.take_of_length_le (by omega)]
              unfold printB
              rw [jt_append, ← List.append_assoc, HBASE.out]
            have HF := hid hfin
            rw [hfin]
            clear hfin
            go_wp2_with fail
            refine wp_loop_rounds 1 ?_
            rw [rounds_succ]
            go_wp2_with fail
            go_ret
            exact ⟨by first | rfl | (rw [HF.out]; rfl) | (simp [HF.out]; done), HB0.out⟩
      · have p2 : (t.region == []) = false := by rw [beq_eq_false_iff_ne]; exact h2
        have p2' : (t.region != []) = true := by rw [bne_iff_ne]; exact h2
        have HBASE : Hid (headPart t.lang ++ jt (opt t.script ++ opt t.region) = ([117, 110, 100] : Str) ++ [45] ++ t.region) := by
          show _ = _
          unfold headPart opt
          rw [if_pos h0, if_pos h1, if_neg h2]
          simp [jt_nil, jt_cons, tUnd]
        clear h0 h1 h2
        go_enter Tryz.func131, Tryz.ntmps131
        go_wp2_with fail
        generalize hW : w.alloc (.cells #[.string ⟨t.lang.toArray⟩, .string ⟨t.script.toArray⟩, .string ⟨t.region.toArray⟩, .slice av t.vars.length cv, .slice none 0 0] 108) = W0 at *
        clear hW
        obtain ⟨_, _, _, c3, c4⟩ := box_cells HXA.out
        go_loopg [3, 4] t.vars.length (fun g vo vi W => ∃ n : Nat, n ≤ t.vars.length ∧ t.vars.length ≤ n + g ∧ vi = .int .i64 n ∧ vo = .string ⟨(([117, 110, 100] : Str) ++ [45] ++ t.region ++ jt (t.vars.take n)).toArray⟩ ∧ W = W0)
        case atStart => exact ⟨0, Nat.zero_le _, by omega, rfl, by rw [List.take_zero, jt_nil, List.append_nil]; (repeat rw [← str_cat]); (try rfl), rfl⟩
        case round =>
          obtain ⟨n, hn, hg, rfl, rfl, rfl⟩ := hrel
          have HG := hid hg
          clear hg
          by_cases hlt : n < t.vars.length
          · have hne : t.vars ≠ [] := by intro e; rw [e] at hlt; simp at hlt
            obtain ⟨p1, o1, rfl, hp1, hc1⟩ := HSA.out hne
            have q1 := (HB0.out.cell (p := ⟨p1, o1 + n, none⟩) hp1).trans (hc1 n _ (List.getElem?_eq_getElem hlt))
            have hst := take_stepS t.vars n hlt
            obtain ⟨x, hx⟩ : ∃ x, x = t.vars[n] := ⟨_, rfl⟩
            rw [← hx, S] at q1
            rw [← hx] at hst
            have hj1 := jt_take_len t.vars (n + 1)
            have hj2 := hj1
            rw [hst, jt_snoc] at hj2
            have hbb : (([117, 110, 100] : Str) ++ [45] ++ t.region).length + (jt t.vars).length ≤ 1000 := by
              have h := hb
              unfold printB at h
              rw [jt_append, ← List.append_assoc, HBASE.out, List.length_append] at h
              exact h
            have hl1 : (([117, 110, 100] : Str) ++ [45] ++ t.region ++ jt (t.vars.take n)).length + 1 + x.length ≤ 1000 := by rw [List.length_append]; simp only [List.length_append, List.length_cons, List.length_nil] at hj2 hbb ⊢; omega
            have HST := hid (show ([117, 110, 100] : Str) ++ [45] ++ t.region ++ jt (t.vars.take n) ++ [45] ++ x = ([117, 110, 100] : Str) ++ [45] ++ t.region ++ jt (t.vars.take (n + 1)) by rw [hst, jt_snoc]; simp)
            clear hst hx hj1 hj2 hbb hc1 hne
            generalize ([117, 110, 100] : Str) ++ [45] ++ t.region ++ jt (t.vars.take n) = out at *
            go_wp2_with fail
            go_roundg (gk - 1)
            case measure => have := HG.out; omega
            case rel => exact ⟨n + 1, by omega, by have := HG.out; omega, by simp, by rw [← HST.out]; show Value.string ((⟨out.toArray⟩ ++ ⟨([45] : Str).toArray⟩) ++ ⟨x.toArray⟩) = _; rw [str_cat, str_cat], rfl⟩
          · have hfin : ([117, 110, 100] : Str) ++ [45] ++ t.region ++ jt (t.vars.take n) = printB t := by
              rw [List.take_of_length_le (by omega)]
              unfold printB
              rw [jt_append, ← List.append_assoc, HBASE.out]
            have HF := hid hfin
            rw [hfin]
            clear hfin
            go_wp2_with fail
            refine wp_loop_rounds 1 ?_
            rw [rounds_succ]
            go_wp2_with fail
            go_ret
            exact ⟨by first | rfl | (rw [HF.out]; rfl) | (simp [HF.out]; done), HB0.out⟩
    · have p1 : (t.script == []) = false := by rw [beq_eq_false_iff_ne]; exact h1
      have p1' : (t.script != []) = true := by rw [bne_iff_ne]; exact h1
      by_cases h2 : t.region = []
      · have p2 : (t.region == []) = true := by rw [h2]; rfl
        have p2' : (t.region != []) = false := by rw [h2]; rfl
        have HBASE : Hid (headPart t.lang ++ jt (opt t.script ++ opt t.region) = ([117, 110, 100] : Str) ++ [45] ++ t.script) := by
          show _ = _
          unfold headPart opt
          rw [if_pos h0, if_neg h1, if_pos h2]
          simp [jt_nil, jt_cons, tUnd]
        clear h0 h1 h2
        go_enter Tryz.func131, Tryz.ntmps131
        go_wp2_with fail
        generalize hW : w.alloc (.cells #[.string ⟨t.lang.toArray⟩, .string ⟨t.script.toArray⟩, .string ⟨t.region.toArray⟩, .slice av t.vars.length cv, .slice none 0 0] 108) = W0 at *
        clear hW
        obtain ⟨_, _, _, c3, c4⟩ := box_cells HXA.out
        go_loopg [3, 4] t.vars.length (fun g vo vi W => ∃ n : Nat, n ≤ t.vars.length ∧ t.vars.length ≤ n + g ∧ vi = .int .i64 n ∧ vo = .string ⟨(([117, 110, 100] : Str) ++ [45] ++ t.script ++ jt (t.vars.take n)).toArray⟩ ∧ W = W0)
        case atStart => exact ⟨0, Nat.zero_le _, by omega, rfl, by rw [List.take_zero, jt_nil, List.append_nil]; (repeat rw [← str_cat]); (try rfl), rfl⟩
        case round =>
          obtain ⟨n, hn, hg, rfl, rfl, rfl⟩ := hrel
          have HG := hid hg
          clear hg
          by_cases hlt : n < t.vars.length
          · have hne : t.vars ≠ [] := by intro e; rw [e] at hlt; simp at hlt
            obtain ⟨p1, o1, rfl, hp1, hc1⟩ := HSA.out hne
            have q1 := (HB0.out.cell (p := ⟨p1, o1 + n, none⟩) hp1).trans (hc1 n _ (List.getElem?_eq_getElem hlt))
            have hst := take_stepS t.vars n hlt
            obtain ⟨x, hx⟩ : ∃ x, x = t.vars[n] := ⟨_, rfl⟩
            rw [← hx, S] at q1
            rw [← hx] at hst
            have hj1 := jt_take_len t.vars (n + 1)
            have hj2 := hj1
            rw [hst, jt_snoc] at hj2
            have hbb : (([117, 110, 100] : Str) ++ [45] ++ t.script).length + (jt t.vars).length ≤ 1000 := by
              have h := hb
              unfold printB at h
              rw [jt_append, ← List.append_assoc, HBASE.out, List.length_append] at h
              exact h
            have hl1 : (([117, 110, 100] : Str) ++ [45] ++ t.script ++ jt (t.vars.take n)).length + 1 + x.length ≤ 1000 := by rw [List.length_append]; simp only [List.length_append, List.length_cons, List.length_nil] at hj2 hbb ⊢; omega
            have HST := hid (show ([117, 110, 100] : Str) ++ [45] ++ t.script ++ jt (t.vars.take n) ++ [45] ++ x = ([117, 110, 100] : Str) ++ [45] ++ t.script ++ jt (t.vars.take (n + 1)) by rw [hst, jt_snoc]; simp)
            clear hst hx hj1 hj2 hbb hc1 hne
            generalize ([117, 110, 100] : Str) ++ [45] ++ t.script ++ jt (t.vars.take n) = out at *
            go_wp2_with fail
            go_roundg (gk - 1)
            case measure => have := HG.out; omega
            case rel => exact ⟨n + 1, by omega, by have := HG.out; omega, by simp, by rw [← HST.out]; show Value.string ((⟨out.toArray⟩ ++ ⟨([45] : Str).toArray⟩) ++ ⟨x.toArray⟩) = _; rw [str_cat, str_cat], rfl⟩
          · have hfin : ([117, 110, 100] : Str) ++ [45] ++ t.script ++ jt (t.vars.take n) = printB t := by
              rw [List.take_of_length_le (by omega)]
              unfold printB
              rw [jt_append, ← List.append_assoc, HBASE.out]
            have HF := hid hfin
            rw [hfin]
            clear hfin
            go_wp2_with fail
            refine wp_loop_rounds 1 ?_
            rw [rounds_succ]
            go_wp2_with fail
            go_ret
            exact ⟨by first | rfl | (rw [HF.out]; rfl) | (simp [HF.out]; done), HB0.out⟩
      · have p2 : (t.region == []) = false := by rw [beq_eq_false_iff_ne]; exact h2
        have p2' : (t.region != []) = true := by rw [bne_iff_ne]; exact h2
        have HBASE : Hid (headPart t.lang ++ jt (opt t.script ++ opt t.region) = ([117, 110, 100] : Str) ++ [45] ++ t.script ++ [45] ++ t.region) := by
          show _ = _
          unfold headPart opt
          rw [if_pos h0, if_neg h1, if_neg h2]
          simp [jt_nil, jt_cons, tUnd]
        clear h0 h1 h2
        go_enter Tryz.func131, Tryz.ntmps131
        go_wp2_with fail
        generalize hW : w.alloc (.cells #[.string ⟨t.lang.toArray⟩, .string ⟨t.script.toArray⟩, .string ⟨t.region.toArray⟩, .slice av t.vars.length cv, .slice none 0 0] 108) = W0 at *
        clear hW
        obtain ⟨_, _, _, c3, c4⟩ := box_cells HXA.out
        go_loopg [3, 4] t.vars.length (fun g vo vi W => ∃ n : Nat, n ≤ t.vars.length ∧ t.vars.length ≤ n + g ∧ vi = .int .i64 n ∧ vo = .string ⟨(([117, 110, 100] : Str) ++ [45] ++ t.script ++ [45] ++ t.region ++ jt (t.vars.take n)).toArray⟩ ∧ W = W0)
        case atStart => exact ⟨0, Nat.zero_le _, by omega, rfl, by rw [List.take_zero, jt_nil, List.append_nil]; (repeat rw [← str_cat]); (try rfl), rfl⟩
        case round =>
          obtain ⟨n, hn, hg, rfl, rfl, rfl⟩ := hrel
          have HG := hid hg
          clear hg
          by_cases hlt : n < t.vars.length
          · have hne : t.vars ≠ [] := by intro e; rw [e] at hlt; simp at hlt
            obtain ⟨p1, o1, rfl, hp1, hc1⟩ := HSA.out hne
            have q1 := (HB0.out.cell (p := ⟨p1, o1 + n, none⟩) hp1).trans (hc1 n _ (List.getElem?_eq_getElem hlt))
            have hst := take_stepS t.vars n hlt
            obtain ⟨x, hx⟩ : ∃ x, x = t.vars[n] := ⟨_, rfl⟩
            rw [← hx, S] at q1
            rw [← hx] at hst
            have hj1 := jt_take_len t.vars (n + 1)
            have hj2 := hj1
            rw [hst, jt_snoc] at hj2
            have hbb : (([117, 110, 100] : Str) ++ [45] ++ t.script ++ [45] ++ t.region).length + (jt t.vars).length ≤ 1000 := by
              have h := hb
              unfold printB at h
              rw [jt_append, ← List.append_assoc, HBASE.out, List.length_append] at h
              exact h
            have hl1 : (([117, 110, 100] : Str) ++ [45] ++ t.script ++ [45] ++ t.region ++ jt (t.vars.take n)).length + 1 + x.length ≤ 1000 := by rw [List.length_append]; simp only [List.length_append, List.length_cons, List.length_nil] at hj2 hbb ⊢; omega
            have HST := hid (show ([117, 110, 100] : Str) ++ [45] ++ t.script ++ [45] ++ t.region ++ jt (t.vars.take n) ++ [45] ++ x = ([117, 110, 100] : Str) ++ [45] ++ t.script ++ [45] ++ t.region ++ jt (t.vars.take (n + 1)) by rw [hst, jt_snoc]; simp)
            clear hst hx hj1 hj2 hbb hc1 hne
            generalize ([117, 110, 100] : Str) ++ [45] ++ t.script ++ [45] ++ t.region ++ jt (t.vars.take n) = out at *
            go_wp2_with fail
            go_roundg (gk - 1)
            case measure => have := HG.out; omega
            case rel => exact ⟨n + 1, by omega, by have := HG.out; omega, by simp, by rw [← HST.out]; show Value.string ((⟨out.toArray⟩ ++ ⟨([45] : Str).toArray⟩) ++ ⟨x.toArray⟩) = _; rw [str_cat, str_cat], rfl⟩
          · have hfin : ([117, 110, 100] : Str) ++ [45] ++ t.script ++ [45] ++ t.region ++ jt (t.vars.take n) = printB t := by
              rw [List.take_of_length_le (by omega)]
              unfold printB
              rw [jt_append, ← List.append_assoc, HBASE.out]
            have HF := hid hfin
            rw [hfin]
            clear hfin
            go_wp2_with fail
            refine wp_loop_rounds 1 ?_
            rw [rounds_succ]
            go_wp2_with fail
            go_ret
            exact ⟨by first | rfl | (rw [HF.out]; rfl) | (simp [HF.out]; done), HB0.out⟩
  · have p0 : (t.lang == []) = false := by rw [beq_eq_false_iff_ne]; exact h0
    have p0' : (t.lang != []) = true := by rw [bne_iff_ne]; exact h0
    by_cases h1 : t.script = []
    · have p1 : (t.script == []) = true := by rw [h1]; rfl
      have p1' : (t.script != []) = false := by rw [h1]; rfl
      by_cases h2 : t.region = []
      · have p2 : (t.region == []) = true := by rw [h2]; rfl
        have p2' : (t.region != []) = false := by rw [h2]; rfl
        have HBASE : Hid (headPart t.lang ++ jt (opt t.script ++ opt t.region) = t.lang) := by
          show _ = _
          unfold headPart opt
          rw [if_neg h0, if_pos h1, if_pos h2]
          simp [jt_nil, jt_cons, tUnd]
        clear h0 h1 h2
        go_enter Tryz.func131, Tryz.ntmps131
        go_wp2_with fail
        generalize hW : w.alloc (.cells #[.string ⟨t.lang.toArray⟩, .string ⟨t.script.toArray⟩, .string ⟨t.region.toArray⟩, .slice av t.vars.length cv, .slice none 0 0] 108) = W0 at *
        clear hW
        obtain ⟨_, _, _, c3, c4⟩ := box_cells HXA.out
        go_loopg [3, 4] t.vars.length (fun g vo vi W => ∃ n : Nat, n ≤ t.vars.length ∧ t.vars.length ≤ n + g ∧ vi = .int .i64 n ∧ vo = .string ⟨(t.lang ++ jt (t.vars.take n)).toArray⟩ ∧ W = W0)
        case atStart => exact ⟨0, Nat.zero_le _, by omega, rfl, by rw [List.take_zero, jt_nil, List.append_nil]; (repeat rw [← str_cat]); (try rfl), rfl⟩
        case round =>
          obtain ⟨n, hn, hg, rfl, rfl, rfl⟩ := hrel
          have HG := hid hg
          clear hg
          by_cases hlt : n < t.vars.length
          · have hne : t.vars ≠ [] := by intro e; rw [e] at hlt; simp at hlt
            obtain ⟨p1, o1, rfl, hp1, hc1⟩ := HSA.out hne
            have q1 := (HB0.out.cell (p := ⟨p1, o1 + n, none⟩) hp1).trans (hc1 n _ (List.getElem?_eq_getElem hlt))
            have hst := take_stepS t.vars n hlt
            obtain ⟨x, hx⟩ : ∃ x, x = t.vars[n] := ⟨_, rfl⟩
            rw [← hx, S] at q1
            rw [← hx] at hst
            have hj1 := jt_take_len t.vars (n + 1)
            have hj2 := hj1
            rw [hst, jt_snoc] at hj2
            have hbb : (t.lang).length + (jt t.vars).length ≤ 1000 := by
              have h := hb
              unfold printB at h
              rw [jt_append, ← List.append_assoc, HBASE.out, List.length_append] at h
              exact h
            have hl1 : (t.lang ++ jt (t.vars.take n)).length + 1 + x.length ≤ 1000 := by rw [List.length_append]; simp only [List.length_append, List.length_cons, List.length_nil] at hj2 hbb ⊢; omega
            have HST := hid (show t.lang ++ jt (t.vars.take n) ++ [45] ++ x = t.lang ++ jt (t.vars.take (n + 1)) by rw [hst, jt_snoc]; simp)
            clear hst hx hj1 hj2 hbb hc1 hne
            generalize t.lang ++ jt (t.vars.take n) = out at *
            go_wp2_with fail
            go_roundg (gk - 1)
            case measure => have := HG.out; omega
            case rel => exact ⟨n + 1, by omega, by have := HG.out; omega, by simp, by rw [← HST.out]; show Value.string ((⟨out.toArray⟩ ++ ⟨([45] : Str).toArray⟩) ++ ⟨x.toArray⟩) = _; rw [str_cat, str_cat], rfl⟩
          · have hfin : t.lang ++ jt (t.vars.take n) = printB t := by
              rw [List.take_of_length_le (by omega)]
              unfold printB
              rw [jt_append, ← List.append_assoc, HBASE.out]
            have HF := hid hfin
            rw [hfin]
            clear hfin
            go_wp2_with fail
            refine wp_loop_rounds 1 ?_
            rw [rounds_succ]
            go_wp2_with fail
            go_ret
            exact ⟨by first | rfl | (rw [HF.out]; rfl) | (simp [HF.out]; done), HB0.out⟩
      · have p2 : (t.region == []) = false := by rw [beq_eq_false_iff_ne]; exact h2
        have p2' : (t.region != []) = true := by rw [bne_iff_ne]; exact h2
        have HBASE : Hid (headPart t.lang ++ jt (opt t.script ++ opt t.region) = t.lang ++ [45] ++ t.region) := by
          show _ = _
          unfold headPart opt
          rw [if_neg h0, if_pos h1, if_neg h2]
          simp [jt_nil, jt_cons, tUnd]
        clear h0 h1 h2
        go_enter Tryz.func131, Tryz.ntmps131
        go_wp2_with fail
        generalize hW : w.alloc (.cells #[.string ⟨t.lang.toArray⟩, .string ⟨t.script.toArray⟩, .string ⟨t.region.toArray⟩, .slice av t.vars.length cv, .slice none 0 0] 108) = W0 at *
        clear hW
        obtain ⟨_, _, _, c3, c4⟩ := box_cells HXA.out
        go_loopg [3, 4] t.vars.length (fun g vo vi W => ∃ n : Nat, n ≤ t.vars.length ∧ t.vars.length ≤ n + g ∧ vi = .int .i64 n ∧ vo = .string ⟨(t.lang ++ [45] ++ t.region ++ jt (t.vars.take n)).toArray⟩ ∧ W = W0)
        case atStart => exact ⟨0, Nat.zero_le _, by omega, rfl, by rw [List.take_zero, jt_nil, List.append_nil]; (repeat rw [← str_cat]); (try rfl), rfl⟩
        case round =>
          obtain ⟨n, hn, hg, rfl, rfl, rfl⟩ := hrel
          have HG := hid hg
          clear hg
          by_cases hlt : n < t.vars.length
          · have hne : t.vars ≠ [] := by intro e; rw [e] at hlt; simp at hlt
            obtain ⟨p1, o1, rfl, hp1, hc1⟩ := HSA.out hne
            have q1 := (HB0.out.cell (p := ⟨p1, o1 + n, none⟩) hp1).trans (hc1 n _ (List.getElem?_eq_getElem hlt))
            have hst := take_stepS t.vars n hlt
            obtain ⟨x, hx⟩ : ∃ x, x = t.vars[n] := ⟨_, rfl⟩
            rw [← hx, S] at q1
            rw [← hx] at hst
            have hj1 := jt_take_len t.vars (n + 1)
            have hj2 := hj1
            rw [hst, jt_snoc] at hj2
            have hbb : (t.lang ++ [45] ++ t.region).length + (jt t.vars).length ≤ 1000 := by
              have h := hb
              unfold printB at h
              rw [jt_append, ← List.append_assoc, HBASE.out, List.length_append] at h
              exact h
            have hl1 : (t.lang ++ [45] ++ t.region ++ jt (t.vars.take n)).length + 1 + x.length ≤ 1000 := by rw [List.length_append]; simp only [List.length_append, List.length_cons, List.length_nil] at hj2 hbb ⊢; omega
            have HST := hid (show t.lang ++ [45] ++ t.region ++ jt (t.vars.take n) ++ [45] ++ x = t.lang ++ [45] ++ t.region ++ jt (t.vars.take (n + 1)) by rw [hst, jt_snoc]; simp)
            clear hst hx hj1 hj2 hbb hc1 hne
            generalize t.lang ++ [45] ++ t.region ++ jt (t.vars.take n) = out at *
            go_wp2_with fail
            go_roundg (gk - 1)
            case measure => have := HG.out; omega
            case rel => exact ⟨n + 1, by omega, by have := HG.out; omega, by simp, by rw [← HST.out]; show Value.string ((⟨out.toArray⟩ ++ ⟨([45] : Str).toArray⟩) ++ ⟨x.toArray⟩) = _; rw [str_cat, str_cat], rfl⟩
          · have hfin : t.lang ++ [45] ++ t.region ++ jt (t.vars.take n) = printB t := by
              rw [List.take_of_length_le (by omega)]
              unfold printB
              rw [jt_append, ← List.append_assoc, HBASE.out]
            have HF := hid hfin
            rw [hfin]
            clear hfin
            go_wp2_with fail
            refine wp_loop_rounds 1 ?_
            rw [rounds_succ]
            go_wp2_with fail
            go_ret
            exact ⟨by first | rfl | (rw [HF.out]; rfl) | (simp [HF.out]; done), HB0.out⟩
    · have p1 : (t.script == []) = false := by rw [beq_eq_false_iff_ne]; exact h1
      have p1' : (t.script != []) = true := by rw [bne_iff_ne]; exact h1
      by_cases h2 : t.region = []
      · have p2 : (t.region == []) = true := by rw [h2]; rfl
        have p2' : (t.region != []) = false := by rw [h2]; rfl
        have HBASE : Hid (headPart t.lang ++ jt (opt t.script ++ opt t.region) = t.lang ++ [45] ++ t.script) := by
          show _ = _
          unfold headPart opt
          rw [if_neg h0, if_neg h1, if_pos h2]
          simp [jt_nil, jt_cons, tUnd]
        clear h0 h1 h2
        go_enter Tryz.func131, Tryz.ntmps131
        go_wp2_with fail
        generalize hW : w.alloc (.cells #[.string ⟨t.lang.toArray⟩, .string ⟨t.script.toArray⟩, .string ⟨t.region.toArray⟩, .slice av t.vars.length cv, .slice none 0 0] 108) = W0 at *
        clear hW
        obtain ⟨_, _, _, c3, c4⟩ := box_cells HXA.out
        go_loopg [3, 4] t.vars.length (fun g vo vi W => ∃ n : Nat, n ≤ t.vars.length ∧ t.vars.length ≤ n + g ∧ vi = .int .i64 n ∧ vo = .string ⟨(t.lang ++ [45] ++ t.script ++ jt (t.vars.take n)).toArray⟩ ∧ W = W0)
        case atStart => exact ⟨0, Nat.zero_le _, by omega, rfl, by rw [List.take_zero, jt_nil, List.append_nil]; (repeat rw [← str_cat]); (try rfl), rfl⟩
        case round =>
          obtain ⟨n, hn, hg, rfl, rfl, rfl⟩ := hrel
          have HG := hid hg
          clear hg
          by_cases hlt : n < t.vars.length
          · have hne : t.vars ≠ [] := by intro e; rw [e] at hlt; simp at hlt
            obtain ⟨p1, o1, rfl, hp1, hc1⟩ := HSA.out hne
            have q1 := (HB0.out.cell (p := ⟨p1, o1 + n, none⟩) hp1).trans (hc1 n _ (List.getElem?_eq_getElem hlt))
            have hst := take_stepS t.vars n hlt
            obtain ⟨x, hx⟩ : ∃ x, x = t.vars[n] := ⟨_, rfl⟩
            rw [← hx, S] at q1
            rw [← hx] at hst
            have hj1 := jt_take_len t.vars (n + 1)
            have hj2 := hj1
            rw [hst, jt_snoc] at hj2
            have hbb : (t.lang ++ [45] ++ t.script).length + (jt t.vars).length ≤ 1000 := by
              have h := hb
              unfold printB at h
              rw [jt_append, ← List.append_assoc, HBASE.out, List.length_append] at h
              exact h
            have hl1 : (t.lang ++ [45] ++ t.script ++ jt (t.vars.take n)).length + 1 + x.length ≤ 1000 := by rw [List.length_append]; simp only [List.length_append, List.length_cons, List.length_nil] at hj2 hbb ⊢; omega
            have HST := hid (show t.lang ++ [45] ++ t.script ++ jt (t.vars.take n) ++ [45] ++ x = t.lang ++ [45] ++ t.script ++ jt (t.vars.take (n + 1)) by rw [hst, jt_snoc]; simp)
            clear hst hx hj1 hj2 hbb hc1 hne
            generalize t.lang ++ [45] ++ t.script ++ jt (t.vars.take n) = out at *
            go_wp2_with fail
            go_roundg (gk - 1)
            case measure => have := HG.out; omega
            case rel => exact ⟨n + 1, by omega, by have := HG.out; omega, by simp, by rw [← HST.out]; show Value.string ((⟨out.toArray⟩ ++ ⟨([45] : Str).toArray⟩) ++ ⟨x.toArray⟩) = _; rw [str_cat, str_cat], rfl⟩
          · have hfin : t.lang ++ [45] ++ t.script ++ jt (t.vars.take n) = printB t := by
              rw [List.take_of_length_le (by omega)]
              unfold printB
              rw [jt_append, ← List.append_assoc, HBASE.out]
            have HF := hid hfin
            rw [hfin]
            clear hfin
            go_wp2_with fail
            refine wp_loop_rounds 1 ?_
            rw [rounds_succ]
            go_wp2_with fail
            go_ret
            exact ⟨by first | rfl | (rw [HF.out]; rfl) | (simp [HF.out]; done), HB0.out⟩
      · have p2 : (t.region == []) = false := by rw [beq_eq_false_iff_ne]; exact h2
        have p2' : (t.region != []) = true := by rw [bne_iff_ne]; exact h2
        have HBASE : Hid (headPart t.lang ++ jt (opt t.script ++ opt t.region) = t.lang ++ [45] ++ t.script ++ [45] ++ t.region) := by
          show _ = _
          unfold headPart opt
          rw [if_neg h0, if_neg h1, if_neg h2]
          simp [jt_nil, jt_cons, tUnd]
        clear h0 h1 h2
        go_enter Tryz.func131, Tryz.ntmps131
        go_wp2_with fail
        generalize hW : w.alloc (.cells #[.string ⟨t.lang.toArray⟩, .string ⟨t.script.toArray⟩, .string ⟨t.region.toArray⟩, .slice av t.vars.length cv, .slice none 0 0] 108) = W0 at *
        clear hW
        obtain ⟨_, _, _, c3, c4⟩ := box_cells HXA.out
        go_loopg [3, 4] t.vars.length (fun g vo vi W => ∃ n : Nat, n ≤ t.vars.length ∧ t.vars.length ≤ n + g ∧ vi = .int .i64 n ∧ vo = .string ⟨(t.lang ++ [45] ++ t.script ++ [45] ++ t.region ++ jt (t.vars.take n)).toArray⟩ ∧ W = W0)
        case atStart => exact ⟨0, Nat.zero_le _, by omega, rfl, by rw [List.take_zero, jt_nil, List.append_nil]; (repeat rw [← str_cat]); (try rfl), rfl⟩
        case round =>
          obtain ⟨n, hn, hg, rfl, rfl, rfl⟩ := hrel
          have HG := hid hg
          clear hg
          by_cases hlt : n < t.vars.length
          · have hne : t.vars ≠ [] := by intro e; rw [e] at hlt; simp at hlt
            obtain ⟨p1, o1, rfl, hp1, hc1⟩ := HSA.out hne
            have q1 := (HB0.out.cell (p := ⟨p1, o1 + n, none⟩) hp1).trans (hc1 n _ (List.getElem?_eq_getElem hlt))
            have hst := take_stepS t.vars n hlt
            obtain ⟨x, hx⟩ : ∃ x, x = t.vars[n] := ⟨_, rfl⟩
            rw [← hx, S] at q1
            rw [← hx] at hst
            have hj1 := jt_take_len t.vars (n + 1)
            have hj2 := hj1
            rw [hst, jt_snoc] at hj2
            have hbb : (t.lang ++ [45] ++ t.script ++ [45] ++ t.region).length + (jt t.vars).length ≤ 1000 := by
              have h := hb
              unfold printB at h
              rw [jt_append, ← List.append_assoc, HBASE.out, List.length_append] at h
              exact h
            have hl1 : (t.lang ++ [45] ++ t.script ++ [45] ++ t.region ++ jt (t.vars.take n)).length + 1 + x.length ≤ 1000 := by rw [List.length_append]; simp only [List.length_append, List.length_cons, List.length_nil] at hj2 hbb ⊢; omega
            have HST := hid (show t.lang ++ [45] ++ t.script ++ [45] ++ t.region ++ jt (t.vars.take n) ++ [45] ++ x = t.lang ++ [45] ++ t.script ++ [45] ++ t.region ++ jt (t.vars.take (n + 1)) by rw [hst, jt_snoc]; simp)
            clear hst hx hj1 hj2 hbb hc1 hne
            generalize t.lang ++ [45] ++ t.script ++ [45] ++ t.region ++ jt (t.vars.take n) = out at *
            go_wp2_with fail
            go_roundg (gk - 1)
            case measure => have := HG.out; omega
            case rel => exact ⟨n + 1, by omega, by have := HG.out; omega, by simp, by rw [← HST.out]; show Value.string ((⟨out.toArray⟩ ++ ⟨([45] : Str).toArray⟩) ++ ⟨x.toArray⟩) = _; rw [str_cat, str_cat], rfl⟩
          · have hfin : t.lang ++ [45] ++ t.script ++ [45] ++ t.region ++ jt (t.vars.take n) = printB t := by
              rw [List.take_of_length_le (by omega)]
              unfold printB
              rw [jt_append, ← List.append_assoc, HBASE.out]
            have HF := hid hfin
            rw [hfin]
            clear hfin
            go_wp2_with fail
            refine wp_loop_rounds 1 ?_
            rw [rounds_succ]
            go_wp2_with fail
            go_ret
            exact ⟨by first | rfl | (rw [HF.out]; rfl) | (simp [HF.out]; done), HB0.out⟩
end Go.Proofs.YtjlfchnnhglbjaaGreat
namespace Go.Proofs.YtjlfchnnhglbjaaGreat
def Rd.us (r : Rd) : List (Str × Nat) := if r.fin then [] else cutS r.pos (r.sub ++ r.rest)
structure Rd.well (r : Rd) : Prop where
 ok : r.ok
 sub : r.sub = (r.sub ++ r.rest).takeWhile noSep
 rest : r.rest = (r.sub ++ r.rest).dropWhile noSep
theorem well_take (l : Str) : (l.takeWhile noSep ++ l.dropWhile noSep) = l := List.takeWhile_append_dropWhile
theorem well_first (s : Str) : (Rd.first s).well := by
 refine ⟨ok_first s, ?_, ?_⟩
 ·unfold Rd.first
  split
  ·rfl
  ·simp only [well_take]
 ·unfold Rd.first
  split
  ·rfl
  ·simp only [well_take]
theorem well_next (r : Rd) (h : r.well) : r.next.well := by
 refine ⟨ok_next r h.ok, ?_, ?_⟩
 ·unfold Rd.next
  split
  ·rfl
  ·simp only [well_take]
 ·unfold Rd.next
  split
  ·rfl
  ·simp only [well_take]
theorem us_cases (r : Rd) (h : r.well) : (r.fin = true ∧ r.us = [] ∧ r.sub = []) ∨ (r.fin = false ∧ r.us = (r.sub, r.pos) :: r.next.us) := by
 cases hf : r.fin
 ·right
  refine ⟨rfl, ?_⟩
  unfold Rd.us
  rw [hf]
  simp only [Bool.false_eq_true, if_false]
  rw [cutS_eq, ← h.sub, ← h.rest]
  congr 1
  unfold Rd.next
  cases hr : r.rest with
  | nil => simp
  | cons c l =>
   simp only [hf, Bool.false_eq_true, if_false, well_take]
 ·left
  exact ⟨rfl, by unfold Rd.us; rw [hf]; rfl, (h.ok hf).1⟩
theorem us_first (s : Str) (h : s ≠ []) : (Rd.first s).us = cutS 0 s := by
 unfold Rd.us Rd.first
 rw [if_neg h]
 simp only [Bool.false_eq_true, if_false, well_take]
theorem bad_eq (e : Nat) (r : Rd) : bad e r = ⟨Tg.zero, e, r.pos⟩ := rfl
theorem fix_app (l : List (Str × Str)) (p : Str × Str) : (l ++ [p]).map fixP = l.map fixP ++ [fixP p] := by simp
theorem any_fix (l : List (Str × Str)) (k : Str) : (l.map fixP).any (fun p => p.1 == k) = l.any (fun p => p.1 == k) := by
 rw [List.any_map]
 congr 1
 funext p
 simp [fix_fst]
theorem fix_value (k : Str) (ts : List Str) : fixP (k, Lib.join ts [45]) = (k, value ts) := by
 unfold fixP value
 by_cases h : Lib.join ts [45] = tTrue
 ·rw [if_pos h, if_pos h]
 ·rw [if_neg h, if_neg h]
theorem addV_join (ts : List Str) (x : Str) (h : ∀ t ∈ ts, t ≠ []) : addV (Lib.join ts [45]) x = Lib.join (ts ++ [x]) [45] := by
 cases ts with
 | nil =>
  show addV (Lib.join [] [45]) x = Lib.join [x] [45]
  rw [join_jt, jt_nil, List.append_nil]
  unfold addV
  rw [Lib.join_nil, if_pos rfl]
 | cons y ys =>
  have hy : y ≠ [] := h y (List.mem_cons_self)
  unfold addV
  rw [List.cons_append, join_jt, join_jt, if_neg (fun e => hy (List.append_eq_nil_iff.1 e).1), jt_append, jt_cons, jt_nil]
  simp
theorem type_not_key {l : Str} (h : isType l = true) : isKey l = false := by
 by_cases hk : isKey l = true
 ·rw [key_not_type hk] at h; cases h
 ·simpa using hk
theorem types_eq (N : Nat) (t : Tg) (ks : List (Str × Str)) (k : Str) : ∀ (n : Nat) (r : Rd) (acc : List Str), r.well → (r.rest.length + 2 ≤ n ∨ (isType r.sub = false ∧ 1 ≤ n)) → (∀ y ∈ acc, y ≠ []) →
  refL N finT 64 { t with keys := ks ++ [(k, Lib.join acc [45])] } r.us = refL N finT 64 { t with keys := ks ++ [(k, Lib.join (types n r acc).1 [45])] } (types n r acc).2.us ∧ (types n r acc).2.well ∧ isType (types n r acc).2.sub = false ∧ (types n r acc).2.rest.length ≤ r.rest.length ∧ (types n r acc).2.all = r.all
 | 0, r, acc, h, hm, ha => by rcases hm with h | h <;> omega
 | n + 1, r, acc, h, hm, ha => by
  unfold types
  by_cases hq : isType r.sub = true
  ·rw [if_pos hq]
   rcases us_cases r h with ⟨hf, hu, hs⟩ | ⟨hf, hu⟩
   ·rw [hs, isType_nil] at hq; cases hq
   ·have hm2 : r.rest.length + 2 ≤ n + 1 := by
     rcases hm with h | h
     ·exact h
     ·rw [hq] at h; cases h.1
    have hne : lower r.sub ≠ [] := fun e => by
     have := (type_clean hq).2.1
     have h2 := congrArg List.length e
     rw [lower_length] at h2
     simp at h2
     rw [h2] at this
     simp at this
    obtain ⟨h1, h2, h3, h4, h5⟩ := types_eq N t ks k n r.next (acc ++ [lower r.sub]) (well_next r h) (types_inv hm2) (fun y hy => by
     rcases List.mem_append.1 hy with hy | hy
     ·exact ha y hy
     ·rw [List.mem_singleton.1 hy]; exact hne)
    refine ⟨?_, h2, h3, Nat.le_trans h4 (rest_next r), h5.trans (Rd.next_all r)⟩
    rw [hu]
    rw [refL]
    rw [if_neg (by decide), if_neg (fun h => absurd h.1 (by decide)), if_neg (fun h => absurd h.1 (by decide)), if_neg (fun h => absurd h.1 (by decide)), if_neg (fun h => absurd h.1 (by decide)),
     if_neg (fun h => by rw [type_not_key hq] at h; exact absurd h.2 (by decide)), if_pos ⟨rfl, hq⟩, setLast_snoc, addV_join acc _ ha]
    exact h1
  ·have hq2 : isType r.sub = false := by simpa using hq
   rw [if_neg hq]
   exact ⟨rfl, h, hq2, Nat.le_refl _, rfl⟩
theorem keys_eq (N : Nat) : ∀ (n : Nat) (t t' : Tg) (r : Rd) (st : Nat), r.well → r.rest.length ≤ 128 → r.all = N → t = { t' with keys := t'.keys.map fixP } → 17 ≤ n + t.keys.length → t.keys.length ≤ 16 → (st = 32 ∨ st = 64) → (st = 32 → isKey r.sub = true) → isType r.sub = false →
  keysF n t r = refL N finT st t' r.us
 | 0, t, t', r, st, h, hl, ha, ht, hn, hk, hst, h32, hty => by omega
 | n + 1, t, t', r, st, h, hl, ha, ht, hn, hk, hst, h32, hty => by
  unfold keysF
  have hkl : t.keys.length = t'.keys.length := by rw [ht]; simp
  have c1 : ¬ st = 2 := by omega
  have c2 : ¬ st = 4 := by omega
  have c3 : ¬ (st = 4 ∨ st = 8) := by omega
  have c4 : ¬ (st = 4 ∨ st = 8 ∨ st = 16) := by omega
  rcases us_cases r h with ⟨hf, hu, hs⟩ | ⟨hf, hu⟩
  ·have hs32 : ¬ st = 32 := fun e => by have := h32 e; rw [hs, isKey_nil] at this; cases this
   rw [hs, isKey_nil, hf, hu]
   simp only [Bool.false_eq_true, if_false, if_true, refL]
   rw [if_neg hs32]
   unfold finT
   rw [ht]
  ·rw [hu]
   symm
   rw [refL]
   rw [if_neg c1, if_neg (fun h => c2 h.1), if_neg (fun h => c3 h.1), if_neg (fun h => c4 h.1), if_neg (fun h => c4 h.1)]
   by_cases hq : isKey r.sub = true
   ·rw [if_pos hq, if_pos ⟨hst, hq⟩]
    have hany : (t.keys.any fun p => p.1 == lower r.sub) = (t'.keys.any fun p => p.1 == lower r.sub) := by rw [ht]; exact any_fix _ _
    rw [hany, hkl]
    by_cases hd : (t'.keys.any fun p => p.1 == lower r.sub) = true
    ·rw [if_pos hd, if_pos hd]; rfl
    ·rw [if_neg hd, if_neg hd]
     by_cases h16 : t'.keys.length = 16
     ·rw [if_pos h16, if_pos h16]; rfl
     ·rw [if_neg h16, if_neg h16]
      obtain ⟨h1, h2, h3, h4, h5⟩ := types_eq N t' t'.keys (lower r.sub) 130 r.next [] (well_next r h) (Or.inl (by have := rest_next r; omega)) (by simp)
      rw [show Lib.join ([] : List Str) [45] = [] from rfl] at h1
      rw [h1]
      have hrn := rest_next r
      symm
      refine keys_eq N n _ _ _ 64 h2 (by omega) (by rw [h5, Rd.next_all, ha]) ?_ (by simp; omega) (by simp; omega) (Or.inr rfl) (fun e => absurd e (by decide)) h3
      rw [ht]
      simp only [fix_app, fix_value]
   ·have hn32 : ¬ st = 32 := fun e => hq (h32 e)
    rw [if_neg hq, if_neg (fun h => hq h.2), if_neg (fun h => by rw [hty] at h; exact absurd h.2 (by decide)), hf]
    rfl
theorem sortedS : ∀ (l l' : List Str), l'.Perm l → l.Pairwise (fun a b => ¬ b < a) → l'.Pairwise (fun a b => ¬ b < a) → l' = l
 | [], l', hp, _, _ => List.perm_nil.1 hp
 | x :: l, l', hp, hs, hs' => by
  cases l' with
  | nil => exact absurd (List.perm_nil.1 hp.symm) (by simp)
  | cons y l' =>
   have hxy : y = x := by
    have hy : y ∈ x :: l := hp.subset (List.mem_cons_self)
    have hx : x ∈ y :: l' := hp.symm.subset (List.mem_cons_self)
    rcases List.mem_cons.1 hy with e | hyl
    ·exact e
    rcases List.mem_cons.1 hx with e | hxl
    ·exact e.symm
    exact List.le_antisymm (List.not_lt.1 ((List.pairwise_cons.1 hs').1 x hxl)) (List.not_lt.1 ((List.pairwise_cons.1 hs).1 y hyl))
   subst hxy
   rw [sortedS l l' (List.Perm.cons_inv hp) (List.pairwise_cons.1 hs).2 (List.pairwise_cons.1 hs').2]
theorem putF_perm : ∀ (l : List Str) (v : Str), (putF l v).Perm (v :: l)
 | [], v => List.Perm.refl _
 | x :: l, v => by
  simp only [putF]
  split
  ·exact ((putF_perm l v).cons x).trans (List.Perm.swap v x l)
  ·exact List.Perm.refl _
theorem putF_sorted : ∀ (l : List Str) (v : Str), l.Pairwise (fun a b => ¬ b < a) → (putF l v).Pairwise (fun a b => ¬ b < a)
 | [], v, _ => by simp [putF]
 | x :: l, v, h => by
  simp only [putF]
  by_cases hx : x < v
  ·rw [if_pos hx]
   refine List.pairwise_cons.2 ⟨fun y hy => ?_, putF_sorted l v (List.pairwise_cons.1 h).2⟩
   rcases List.mem_cons.1 ((putF_perm l v).subset hy) with rfl | hy
   ·exact fun h2 => absurd (List.lt_trans h2 hx) (List.lt_irrefl _)
   ·exact (List.pairwise_cons.1 h).1 y hy
  ·rw [if_neg hx]
   refine List.pairwise_cons.2 ⟨fun y hy => ?_, h⟩
   rcases List.mem_cons.1 hy with rfl | hy
   ·exact hx
   ·intro h2
    have h3 := (List.pairwise_cons.1 h).1 y hy
    exact absurd (List.not_lt.2 (List.le_trans (List.not_lt.1 hx) (List.not_lt.1 h3))) (fun h4 => h4 h2)
theorem srtS_sorted2 (l : List Str) : (srtS l).Pairwise (fun a b => ¬ b < a) := (srtS_sorted l).imp fun {a b} h => by
 simp only [decide_eq_true_eq] at h
 exact List.not_lt.2 h
theorem put_srt (l : List Str) (v : Str) : putF (srtS l) v = srtS (l ++ [v]) := by
 refine sortedS _ _ ?_ (srtS_sorted2 _) (putF_sorted _ _ (srtS_sorted2 l))
 refine (putF_perm _ _).trans (((srtS_perm l).cons v).trans ?_)
 exact (List.perm_append_comm (l₁ := [v]) (l₂ := l)).trans (srtS_perm _).symm
theorem tail_eq (N : Nat) (t : Tg) (r : Rd) (st : Nat) (h : r.well) (hl : r.rest.length ≤ 128) (ha : r.all = N) (hk : t.keys = []) (hst : st = 4 ∨ st = 8 ∨ st = 16) (h4 : st = 4 → isScript r.sub = false) (h8 : st = 4 ∨ st = 8 → isRegion r.sub = false) (hv : isVariant r.sub = false) :
  tailF t r = refL N finT st { t with vars := srtS t.vars } r.us := by
 unfold tailF
 rcases us_cases r h with ⟨hf, hu, hs⟩ | ⟨hf, hu⟩
 ·rw [hf, hu]
  simp only [if_true, refL]
  rw [if_neg (by omega)]
  unfold finT
  simp only [hk, List.map_nil, srtK_nil]
 ·rw [hf, hu]
  symm
  rw [refL]
  simp only [Bool.false_eq_true, if_false]
  rw [if_neg (show ¬ st = 2 by omega), if_neg (fun hh => by rw [h4 hh.1] at hh; exact absurd hh.2 (by decide)), if_neg (fun hh => by rw [h8 hh.1] at hh; exact absurd hh.2 (by decide)), if_neg (fun hh => by rw [hv] at hh; exact absurd hh.2 (by decide))]
  by_cases hu2 : lower r.sub = [117]
  ·rw [if_pos hu2, if_pos ⟨hst, hu2⟩]
   have hrn := rest_next r
   have hnw := well_next r h
   have hna : r.next.all = N := by rw [Rd.next_all, ha]
   by_cases hq : isKey r.next.sub = true
   ·rw [if_pos hq]
    exact (keys_eq N 17 { t with vars := srtS t.vars } { t with vars := srtS t.vars } r.next 32 hnw (by omega) hna (by simp [hk]) (by simp) (by simp [hk]) (Or.inl rfl) (fun _ => hq) (key_not_type hq)).symm
   ·rw [if_neg hq]
    rcases us_cases r.next hnw with ⟨hf2, hu3, hs3⟩ | ⟨hf2, hu3⟩
    ·rw [hu3, refL, if_pos rfl]
     have h5 := hnw.ok hf2
     unfold Rd.all at hna
     rw [h5.1, h5.2] at hna
     simp at hna
     rw [bad_eq, hna]
    ·rw [hu3, refL]
     rw [if_neg (by decide), if_neg (fun h => absurd h.1 (by decide)), if_neg (fun h => absurd h.1 (by decide)), if_neg (fun h => absurd h.1 (by decide)), if_neg (fun h => absurd h.1 (by decide)), if_neg (fun h => hq h.2), if_neg (fun h => absurd h.1 (by decide))]
     rfl
  ·rw [if_neg hu2, if_neg (fun h => hu2 h.2), if_neg (fun h => by have := h.1; omega), if_neg (fun h => by have := h.1; omega)]
   rfl
theorem vars_eq (N : Nat) : ∀ (n : Nat) (t : Tg) (r : Rd) (st : Nat), r.well → r.rest.length ≤ 128 → r.all = N → 9 ≤ n + t.vars.length → t.vars.length ≤ 8 → t.keys = [] → (st = 4 ∨ st = 8 ∨ st = 16) → (st = 4 → isScript r.sub = false) → (st = 4 ∨ st = 8 → isRegion r.sub = false) →
  varsF n t r = refL N finT st { t with vars := srtS t.vars } r.us
 | 0, t, r, st, h, hl, ha, hn, hv, hk, hst, h4, h8 => by omega
 | n + 1, t, r, st, h, hl, ha, hn, hv, hk, hst, h4, h8 => by
  unfold varsF
  by_cases hq : isVariant r.sub = true
  ·rw [if_pos hq]
   rcases us_cases r h with ⟨hf, hu, hs⟩ | ⟨hf, hu⟩
   ·rw [hs, isVariant_nil] at hq; cases hq
   ·rw [hu]
    symm
    rw [refL]
    rw [if_neg (show ¬ st = 2 by omega), if_neg (fun hh => by rw [h4 hh.1] at hh; exact absurd hh.2 (by decide)), if_neg (fun hh => by rw [h8 hh.1] at hh; exact absurd hh.2 (by decide)), if_pos ⟨hst, hq⟩]
    have hc : (srtS t.vars).contains (lower r.sub) = t.vars.contains (lower r.sub) := by
     rw [Bool.eq_iff_iff, List.contains_iff_mem, List.contains_iff_mem]
     exact (srtS_perm t.vars).mem_iff
    rw [hc, (srtS_perm t.vars).length_eq]
    by_cases hd : t.vars.contains (lower r.sub) = true
    ·rw [if_pos hd, if_pos hd]; rfl
    ·rw [if_neg hd, if_neg hd]
     by_cases h8' : t.vars.length = 8
     ·rw [if_pos h8', if_pos h8']; rfl
     ·rw [if_neg h8', if_neg h8', put_srt]
      have hrn := rest_next r
      rw [vars_eq N n { t with vars := t.vars ++ [lower r.sub] } r.next 16 (well_next r h) (by omega) (by rw [Rd.next_all, ha]) (by simp; omega) (by simp; omega) hk (Or.inr (Or.inr rfl)) (fun e => absurd e (by decide)) (fun e => absurd e (by decide))]
  ·rw [if_neg hq]
   exact tail_eq N t r st h hl ha hk hst h4 h8 (by simpa using hq)
theorem region_eq (N : Nat) (t : Tg) (r : Rd) (st : Nat) (h : r.well) (hl : r.rest.length ≤ 128) (ha : r.all = N) (hv : t.vars = []) (hk : t.keys = []) (hst : st = 4 ∨ st = 8) (h4 : st = 4 → isScript r.sub = false) :
  regionF t r = refL N finT st t r.us := by
 have hsv : { t with vars := srtS t.vars } = t := by rw [hv, srtS_nil, ← hv]
 unfold regionF
 by_cases hq : isRegion r.sub = true
 ·rw [if_pos hq]
  rcases us_cases r h with ⟨hf, hu, hs⟩ | ⟨hf, hu⟩
  ·rw [hs, isRegion_nil] at hq; cases hq
  ·rw [hu]
   symm
   rw [refL]
   rw [if_neg (show ¬ st = 2 by omega), if_neg (fun hh => by rw [h4 hh.1] at hh; exact absurd hh.2 (by decide)), if_pos ⟨hst, hq⟩]
   have hrn := rest_next r
   rw [vars_eq N 9 { t with region := upper r.sub } r.next 16 (well_next r h) (by omega) (by rw [Rd.next_all, ha]) (by simp) (by simp [hv]) hk (Or.inr (Or.inr rfl)) (fun e => absurd e (by decide)) (fun e => absurd e (by decide))]
   simp only [hv, srtS_nil]
 ·rw [if_neg hq]
  have := vars_eq N 9 t r st h hl ha (by omega) (by simp [hv]) hk (by omega) h4 (fun _ => by simpa using hq)
  rw [hsv] at this
  exact this
theorem script_eq (N : Nat) (t : Tg) (r : Rd) (h : r.well) (hl : r.rest.length ≤ 128) (ha : r.all = N) (hv : t.vars = []) (hk : t.keys = []) :
  scriptF t r = refL N finT 4 t r.us := by
 unfold scriptF
 by_cases hq : isScript r.sub = true
 ·rw [if_pos hq]
  rcases us_cases r h with ⟨hf, hu, hs⟩ | ⟨hf, hu⟩
  ·rw [hs, isScript_nil] at hq; cases hq
  ·rw [hu]
   symm
   rw [refL]
   rw [if_neg (by decide), if_pos ⟨rfl, hq⟩]
   have hrn := rest_next r
   exact (region_eq N { t with script := title r.sub } r.next 8 (well_next r h) (by omega) (by rw [Rd.next_all, ha]) hv hk (Or.inr rfl) (fun e => absurd e (by decide))).symm
 ·rw [if_neg hq]
  exact region_eq N t r 4 h hl ha hv hk (Or.inl rfl) (fun _ => by simpa using hq)
theorem ref_eq (s : Str) : refF s = parseF s := by
 unfold refF parseF
 by_cases h1 : 128 < s.length
 ·rw [if_pos h1, if_pos h1]
 ·rw [if_neg h1, if_neg h1]
  by_cases h2 : lower s = tRoot
  ·rw [if_pos h2, if_pos h2]
  ·rw [if_neg h2, if_neg h2]
   by_cases h0 : s = []
   ·subst h0
    rw [show cutS 0 [] = [([], 0)] from rfl, refL, if_pos rfl, if_neg (by decide), if_neg (by decide)]
    rfl
   ·rw [← us_first s h0]
    have ha := Rd.first_all s
    rcases us_cases _ (well_first s) with ⟨hf, hu, hs⟩ | ⟨hf, hu⟩
    ·unfold Rd.first at hf; rw [if_neg h0] at hf; cases hf
    ·rw [hu, refL, if_pos rfl]
     by_cases hq : isLang (Rd.first s).sub = true
     ·rw [if_pos hq, if_pos hq]
      have hrn := rest_next (Rd.first s)
      unfold Rd.all at ha
      rw [script_eq s.length _ (Rd.first s).next (well_next _ (well_first s)) (by omega) (by rw [Rd.next_all]; exact Rd.first_all s) rfl rfl]
      rfl
     ·rw [if_neg hq, if_neg hq]
      rfl
end Go.Proofs.YtjlfchnnhglbjaaGreat
namespace Go.Proofs.YtjlfchnnhglbjaaGreat
open Go.RowKit Go.Lib Go.Sort
theorem printB_bare (t : Tg) (h : Good t) : printB t = writeF (bareT t) := by
 rw [write_R _ h.bare.canon, partsR_K]
 unfold partsK printB
 rw [join_jt]
 show headPart t.lang ++ jt (opt t.script ++ opt t.region ++ t.vars) = headPart t.lang ++ jt (opt t.script ++ opt t.region ++ t.vars ++ kuParts [])
 rw [show kuParts ([] : List (Str × Str)) = [] from rfl, List.append_nil]
theorem printB_len (t : Tg) (h : Good t) : (printB t).length ≤ 1000 := by
 rw [printB_bare t h]; have := h.bare.write; omega
set_option maxRecDepth 100000 in
set_option maxHeartbeats 8000000 in
theorem rname_any (w : World) (v : Value) (t : Tg) (h : RdT w v t) (hb : (printB t).length ≤ 1000) :
  Calls Tryz.prog 76 #[v] w fun e w' => e = .returned (.string ⟨(nameOf (printB t)).toArray⟩) ∧ Below w.heap.size w w' := by
 obtain ⟨vv, kv, rfl, hS, hP⟩ := h
 have W1 := hid (fun W (hb2 : Below w.heap.size w W) => rprint_any W vv t (hS.below hb2) hb)
 obtain ⟨av, cv, rfl, _, _⟩ := hS
 obtain ⟨ak, ck, rfl, _, _⟩ := hP
 clear hb
 unfold nameOf
 generalize hs : printB t = s at *
 simp only [tagCells, S, vnil] at W1 ⊢
 have hb0 : Below w.heap.size w (w.alloc (.cells #[.string ⟨t.lang.toArray⟩, .string ⟨t.script.toArray⟩, .string ⟨t.region.toArray⟩, .slice av t.vars.length cv, .slice ak t.keys.length ck] 108)) := (Below.refl _ _).alloc (Nat.le_refl _) _
 have hx0 : (w.alloc (.cells #[.string ⟨t.lang.toArray⟩, .string ⟨t.script.toArray⟩, .string ⟨t.region.toArray⟩, .slice av t.vars.length cv, .slice ak t.keys.length ck] 108)).heap[w.heap.size]? = some (.cells #[.string ⟨t.lang.toArray⟩, .string ⟨t.script.toArray⟩, .string ⟨t.region.toArray⟩, .slice av t.vars.length cv, .slice ak t.keys.length ck] 108 (0, 0)) := heap_alloc_new w _
 have hsz := lt_of_block hx0
 have hfz := frozen_of_row _ w.heap.size 4 _ _ hx0
 obtain ⟨c0, c1, c2, c3, c4⟩ := box_cells hx0
 have HB0 := hid hb0
 clear hx0 hb0
 go_enter Tryz.func76, Tryz.ntmps76
 go_wp2_with fail
 have hw2 : Below w.heap.size w (w.alloc (.cells #[.string ⟨t.lang.toArray⟩, .string ⟨t.script.toArray⟩, .string ⟨t.region.toArray⟩, .slice av t.vars.length cv, .slice none 0 0] 108)) := (Below.refl _ _).alloc (Nat.le_refl _) _
 refine (W1.out _ hw2).mono ?_
 rintro e w2 ⟨rfl, hb2⟩
 have hw3 := hw2.then hb2
 clear hb2 hw2 W1 c0 c1 c2 c3 c4
 by_cases hu : s = [117, 110, 100]
 ·have hub : (s != [117, 110, 100]) = false := by rw [hu]; rfl
  have hub2 : (s == [117, 110, 100]) = true := by rw [hu]; rfl
  have hu2 : s = tUnd := hu
  clear hu
  go_wp2_with fail
  go_ret
  exact ⟨rfl, hw3⟩
 ·have hub : (s != [117, 110, 100]) = true := by rw [bne_iff_ne]; exact hu
  have hub2 : (s == [117, 110, 100]) = false := by rw [beq_eq_false_iff_ne]; exact hu
  have hu2 : ¬ s = tUnd := hu
  clear hu
  go_wp2_with fail
  go_ret
  exact ⟨rfl, hw3⟩
end Go.Proofs.YtjlfchnnhglbjaaGreat
namespace Go.Proofs.YtjlfchnnhglbjaaGreat
open Go.RowKit Go.Lib Go.Sort
theorem named_ref2 (l : Str) : namedB l = ((parseF l).err == 0 && (nameOf (printB (parseF l).tag) == l)) := by
 unfold namedB
 by_cases h : (parseF l).err = 0
 ·have hg := good_of l h
  rw [good_name _ hg, printB_bare _ hg]; rfl
 ·rw [beq_eq_false_iff_ne.2 h]; rfl
set_option maxRecDepth 100000 in
set_option maxHeartbeats 8000000 in
theorem rlocale_any (s : Str) (w : World) (hs : s.length ≤ maxLen) : Calls Tryz.prog 55 #[.string ⟨s.toArray⟩] w fun e w' => e = .returned (.bool (namedB s)) ∧ Below w.heap.size w w' := by
 have RP := hid (fun W => rparse_any ⟨s.toArray⟩ W (by rw [Lib.size_eq]; exact hs))
 rw [ref_eq] at RP
 rw [show (⟨s.toArray⟩ : ByteArray).data.toList = s from rfl] at RP
 have his := named_ref2 s
 have hgood := good_of s
 generalize namedB s = is at *
 generalize hx : parseF s = x at *
 clear hx
 have HIS := hid his
 have HG := hid hgood
 clear his hgood
 go_enter Tryz.func55, Tryz.ntmps55
 go_wp2_with fail
 refine (RP.out _).mono ?_
 rintro e w1 ⟨vv, kv, rfl, ⟨r1, _⟩, r2, hb1⟩
 have HR1 := hid (show RdT w1 (.agg (tagCells x.tag vv kv)) x.tag from ⟨_, _, rfl, r1, r2⟩)
 obtain ⟨fv, hv, rfl, _, _⟩ := r1
 obtain ⟨fk, hk, rfl, _, _⟩ := r2
 simp only [tagCells, S] at HR1 ⊢
 have hb2 := below2 w1 (.cells #[.string ⟨x.tag.lang.toArray⟩, .string ⟨x.tag.script.toArray⟩, .string ⟨x.tag.region.toArray⟩, .slice fv x.tag.vars.length hv, .slice fk x.tag.keys.length hk] 108) (.cells #[.int .i64 (x.err : Int), .int .i64 (x.pos : Int)] 99)
 have HT2 := hid (heap_alloc2_old w1 (.cells #[.string ⟨x.tag.lang.toArray⟩, .string ⟨x.tag.script.toArray⟩, .string ⟨x.tag.region.toArray⟩, .slice fv x.tag.vars.length hv, .slice fk x.tag.keys.length hk] 108) (.cells #[.int .i64 (x.err : Int), .int .i64 (x.pos : Int)] 99))
 have HB2 := hid hb2
 have HW2 := hid (hb1.then hb2)
 clear hb1 hb2 RP
 by_cases he : x.err = 0
 ·have hg := HG.out he
  have N1 := hid (fun W (hb : Below w1.heap.size w1 W) => rname_any W _ x.tag (HR1.out.below hb) (printB_len _ hg))
  have his2 : is = (nameOf (printB x.tag) == s) := by rw [HIS.out, he]; rfl
  generalize nameOf (printB x.tag) = nm at *
  have e0 : (x.err == 0) = true := by rw [he]; rfl
  have HIS2 := hid his2
  rw [he] at HT2 HB2 HW2 ⊢
  clear hg his2 HIS HG
  obtain ⟨c0, c1, c2, c3, c4⟩ := box_cells HT2.out
  have hst := lt_of_block HT2.out
  go_wp2_with fail
  refine (N1.out _ HB2.out).mono ?_
  rintro e w3 ⟨rfl, hb3⟩
  have HW3 := hid (HW2.out.then hb3)
  clear c0 c1 c2 c3 c4 hst hb3
  by_cases hn : nm = s
  ·have hub : (nm == s) = true := by rw [hn]; simp
   have hi : is = true := by rw [HIS2.out]; exact hub
   clear HIS2 hn
   go_wp2_with fail
   go_ret
   exact ⟨by rw [hi]; rfl, HW3.out⟩
  ·have hub : (nm == s) = false := by rw [beq_eq_false_iff_ne]; exact hn
   have hi : is = false := by rw [HIS2.out]; exact hub
   clear HIS2 hn
   go_wp2_with fail
   go_ret
   exact ⟨by rw [hi]; rfl, HW3.out⟩
 ·have heb : (x.err != 0) = true := by rw [bne_iff_ne]; exact he
  have heb2 : (x.err == 0) = false := by rw [beq_eq_false_iff_ne]; exact he
  have heb3 : ((x.err : Int) == 0) = false := by rw [beq_eq_false_iff_ne]; omega
  have hi : is = false := by rw [HIS.out, heb2]; rfl
  clear HIS HG he
  go_wp2_with fail
  go_ret
  exact ⟨by rw [hi]; rfl, HW2.out⟩
end Go.Proofs.YtjlfchnnhglbjaaGreat
