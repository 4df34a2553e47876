/- TbNil, TbWithin, Marks, TbWithinL, PartP, AliasP -/
import Derived.Test.YtjlfchnnhglbjaaGreatYG
import Derived.RangeFuncNested
import Derived.RangeFuncBound
import Derived.RangeFuncCalls
import Derived.RangeFuncLeaves
import Derived.Shelf.Abstract
import Derived.Shelf.RegionOpen
import Derived.OwnWalkIn
import Derived.TacticsInMore
import Derived.LoopNIn
import Derived.LoopIn
import Derived.Test.YtjlfchnnhglbjaaGreatYT
import Derived.Test.YtjlfchnnhglbjaaGreatYA
set_option linter.unusedVariables false
set_option linter.unusedSimpArgs false
namespace Go.Proofs.YtjlfchnnhglbjaaGreat
open Go.RowKit Go.Lib Go.Sort Go.Maps Go.WideMaps Go.Shelf
theorem within_any (pt : Option Addr) (loc path : Str) (w : World) :
  Calls Tryz.prog 30 #[.pointer pt, .string ⟨loc.toArray⟩, .string ⟨path.toArray⟩] w fun e w' => e = .returned (.func (.func 46) #[] #[.pointer (some ⟨w.heap.size, 0, none⟩), .pointer (some ⟨w.heap.size + 1, 0, none⟩), .pointer (some ⟨w.heap.size + 1 + 1, 0, none⟩)]) ∧
   w' = ((w.alloc (.cells #[.pointer pt] 31)).alloc (.cells #[.string ⟨loc.toArray⟩] 9)).alloc (.cells #[.string ⟨path.toArray⟩] 9) := by
 go_enter Tryz.func30, Tryz.ntmps30
 go_wp2_with fail
 exact bodyPost_ret (v := .func (.func 46) #[] #[.pointer (some ⟨w.heap.size, 0, none⟩), .pointer (some ⟨w.heap.size + 1, 0, none⟩), .pointer (some ⟨w.heap.size + 1 + 1, 0, none⟩)]) (by simp [results, Tryz.results30, go_sem]) rfl ⟨rfl, rfl⟩
end Go.Proofs.YtjlfchnnhglbjaaGreat
namespace Go.Proofs.YtjlfchnnhglbjaaGreat
open Go.RowKit Go.Lib Go.Sort Go.Maps Go.WideMaps Go.Shelf
structure KpB (kb n0 : Nat) (A B : World) : Prop where
 size : A.heap.size ≤ B.heap.size
 low : ∀ k, k < n0 → k ≠ kb → B.heap[k]? = A.heap[k]?
 high : ∀ k cs ty, n0 ≤ k → A.heap[k]? = some (.cells cs ty (0, 0)) → B.heap[k]? = some (.cells cs ty (0, 0))
theorem KpB.refl (kb n0 : Nat) (A : World) : KpB kb n0 A A := ⟨Nat.le_refl _, fun _ _ _ => rfl, fun _ _ _ _ h => h⟩
theorem KpB.trans {kb n0 : Nat} {A B C : World} (h : KpB kb n0 A B) (g : KpB kb n0 B C) : KpB kb n0 A C :=
 ⟨Nat.le_trans h.size g.size, fun k h1 h2 => (g.low k h1 h2).trans (h.low k h1 h2), fun k cs ty h1 h2 => g.high k cs ty h1 (h.high k cs ty h1 h2)⟩
theorem KpB.of_below {kb n0 : Nat} {A B : World} (h : Below A.heap.size A B) (hn : n0 ≤ A.heap.size) : KpB kb n0 A B :=
 ⟨h.size, fun k h1 _ => h.block k (by omega), fun k cs ty _ hc => (h.block k (lt_of_block hc)).trans hc⟩
theorem KpB.put {kb n0 l : Nat} {A : World} {o o' : Obj} (hl : n0 ≤ l) (h : A.heap[l]? = some o) (ho : o.isCells = false) : KpB kb n0 A (A.putObj l o') := by
 have hg := grownBy_putObj' A l o'
 refine ⟨hg.size, fun k h1 _ => ?_, fun k cs ty _ hc => ?_⟩
 ·by_cases hk : k < A.heap.size
  ·exact hg.block k hk (fun e => by cases e; omega)
  ·have := (Array.getElem?_eq_some_iff.1 h).1; omega
 ·refine (hg.block k (lt_of_block hc) (fun e => ?_)).trans hc
  cases e
  rw [h] at hc
  cases hc
  cases ho
theorem TbP.but {B0 : Nat} {W W' : World} {pt kb : Nat} {t : Tb} {cs : Array Value} (h : TbP B0 W pt t) (hw : W.heap[kb]? = some (.cells cs 3 (0, 0))) (he : ∀ k, k < W.heap.size → k ≠ kb → W'.heap[k]? = W.heap[k]?) : TbP B0 W' pt t := by
 obtain ⟨bv, ba, bn, bp, N, V, ⟨⟨a1, a2, a3, a4, a5, a6, a7, a8, a9, a10⟩, lo, h3⟩⟩ := h
 have hm : ∀ {α : Type} {E : El α} {k n : Nat} {L : List (Str × α)}, OwnE E W k n L → OwnE E W' k n L := fun {α E k n L} ho => by
  refine ho.block (he _ ho.lt ?_)
  rintro rfl
  obtain ⟨es, ck, e⟩ := ho.isMap
  rw [hw] at e; cases e
 refine ⟨bv, ba, bn, bp, N, V, ⟨⟨?_, hm a2, hm a3, hm a4, hm a5, fun p hp => hm (a6 p hp), a7, a8, a9, a10⟩, lo, h3⟩⟩
 rw [he _ (lt_of_block a1) (by rintro rfl; rw [hw] at a1; have := Option.some.inj a1; injection this with _ e _; revert e; decide)]
 exact a1
theorem own_kp {kb n0 B k n : Nat} {e : TypeId} {A W : World} {v : Value} {xs : List Value} (h : A.ownsRow B e k v n xs) (hk : KpB kb n0 A W) (hn : n0 ≤ B) : W.ownsRow B e k v n xs := by
 refine ⟨h.1, ?_⟩
 rcases h.2 with h | ⟨g, cap, cur, h1, h2, h3, h4⟩
 ·exact Or.inl h
 ·exact Or.inr ⟨g, cap, cur, h1, h2, hk.high g _ _ (Nat.le_trans hn h2) h3, h4⟩
theorem below_grown {w w' : World} (h : Below w.heap.size w w') : w.grownBy w' none := ⟨h.os, h.tape, h.output, h.size, fun k hk _ => h.block k hk⟩
def inP (t : Tb) (loc grp : Str) (ps : List Str) : List (Str × Str) := (ps.filter (fun p => inB p grp)).map (fun p => (p, rText (findR t.rows loc p)))
theorem inP_take {t : Tb} {loc grp : Str} {ps : List Str} {k : Nat} (h : k < ps.length) : inP t loc grp (ps.take (k + 1)) = inP t loc grp (ps.take k) ++ (if inB (ps[k]'h) grp then [(ps[k]'h, rText (findR t.rows loc (ps[k]'h)))] else []) := by
 unfold inP
 rw [List.take_succ_eq_append_getElem h, List.filter_append, List.map_append]
 congr 1
 by_cases e : inB (ps[k]'h) grp = true
 ·simp [e]
 ·simp [e]
theorem inP_pre {t : Tb} {loc grp : Str} (ps : List Str) (k : Nat) : inP t loc grp (ps.take k) <+: inP t loc grp ps := by
 refine ⟨inP t loc grp (ps.drop k), ?_⟩
 unfold inP
 rw [← List.map_append, ← List.filter_append, List.take_append_drop]
set_option maxRecDepth 100000 in
set_option maxHeartbeats 8000000 in
theorem within1_in (n : Nat) (hn : 1 ≤ n) (l b0 b1 b2 kb C pt : Nat) (t : Tb) (ok : TbOk t) (hs : SzT t) (loc grp : Str) (hl : loc.length ≤ maxLen) (hg : grp.length ≤ maxLen) (w : World) (cs : Array Value)
  (hT : TbP C w pt t) (hkb : w.heap[kb]? = some (.cells cs 3 (0, 0)))
  (h0 : w.heap[b0]? = some (.cells #[.pointer (some ⟨pt, 0, none⟩)] 31 (0, 0))) (h1 : w.heap[b1]? = some (.cells #[.string ⟨loc.toArray⟩] 9 (0, 0))) (h2 : w.heap[b2]? = some (.cells #[.string ⟨grp.toArray⟩] 9 (0, 0)))
  (J Jx : List (Str × Str) → World → Prop) (W : World) (hW : Below w.heap.size w W) (hJ : AbidesFrom W.heap.size J)
  (hY : ∀ pre x W1, pre ++ [x] <+: inP t loc grp (pathsF t loc) → J pre W1 → YieldAt Fence.wide (n - 1) Tryz.prog l #[.string ⟨x.1.toArray⟩, .string ⟨x.2.toArray⟩] W1 fun e W' =>
   (e = .returned (.bool true) ∧ J (pre ++ [x]) W' ∧ KpB kb w.heap.size W1 W') ∨ (e = .returned (.bool false) ∧ Jx (pre ++ [x]) W')) (hJ0 : J [] W) :
  CallsIn Fence.wide n Tryz.prog 46 #[.func (.yield l) #[] #[], .pointer (some ⟨b0, 0, none⟩), .pointer (some ⟨b1, 0, none⟩), .pointer (some ⟨b2, 0, none⟩)] W fun e W' => (∃ v, e = .returned v) ∧
   ((∃ xs, xs = inP t loc grp (pathsF t loc) ∧ J xs W') ∨ (∃ pre, pre <+: inP t loc grp (pathsF t loc) ∧ Jx pre W')) := by
 have n0 : b0 ≠ kb := by rintro rfl; rw [h0] at hkb; have := Option.some.inj hkb; injection this with _ e _; revert e; decide
 have n1 : b1 ≠ kb := by rintro rfl; rw [h1] at hkb; have := Option.some.inj hkb; injection this with _ e _; revert e; decide
 have n2 : b2 ≠ kb := by rintro rfl; rw [h2] at hkb; have := Option.some.inj hkb; injection this with _ e _; revert e; decide
 have BX := hid (fun (V : World) (hk : KpB kb w.heap.size w V) => (show TbP C V pt t ∧ V.cell? ⟨b0, 0, none⟩ = some (.pointer (some ⟨pt, 0, none⟩)) ∧ V.cell? ⟨b1, 0, none⟩ = some (.string ⟨loc.toArray⟩) ∧ V.cell? ⟨b2, 0, none⟩ = some (.string ⟨grp.toArray⟩) ∧ b0 < V.heap.size ∧ b1 < V.heap.size ∧ b2 < V.heap.size from by
  have e0 := (hk.low b0 (lt_of_block h0) n0).trans h0
  have e1 := (hk.low b1 (lt_of_block h1) n1).trans h1
  have e2 := (hk.low b2 (lt_of_block h2) n2).trans h2
  exact ⟨hT.but hkb (fun k h1 h2 => hk.low k h1 h2), by rw [cell_of_row _ _ _ _ _ _ e0]; rfl, by rw [cell_of_row _ _ _ _ _ _ e1]; rfl, by rw [cell_of_row _ _ _ _ _ _ e2]; rfl, lt_of_block e0, lt_of_block e1, lt_of_block e2⟩))
 have HP := hid (fun p (h : p ∈ pathsF t loc) => paths_sz hs h)
 have KW := hid (show KpB kb w.heap.size w W from KpB.of_below hW (Nat.le_refl _))
 have HZW := hid (show w.heap.size ≤ W.heap.size from hW.size)
 clear hT hkb h0 h1 h2 n0 n1 n2 hW hs
 have ABJ := hid hJ
 have HY := hid hY
 have HJ0 := hid hJ0
 clear hJ hY hJ0
 obtain ⟨T0, x0, x1, x2, l0, l1, l2⟩ := BX.out W KW.out
 refine callsIn_of_wp Tryz.func46 rfl trivial ?_ rfl
 simp only [Tryz.ntmps46, List.size_toArray, List.length_cons, List.length_nil, Nat.reduceAdd, Nat.reduceSub, Array.replicate_succ, Array.replicate_zero, List.push_toArray, List.append_toArray, List.nil_append, List.cons_append]
 have PA := hid (T0.paths ok loc hl)
 clear T0
 gi_wp2
 refine ⟨trivial, callsIn_wide.2 (PA.out.mono ?_)⟩
 rintro e w1 ⟨v1, rfl, o1, hb1⟩
 have O1 := hid (show OwnS w1 W.heap.size v1 (pathsF t loc) from o1)
 have J1 := hid (ABJ.out [] W w1 none HJ0.out (below_grown hb1) (fun r e => by cases e))
 have K1 := hid (KW.out.trans (KpB.of_below hb1 HZW.out))
 have HZ1 := hid hb1.size
 clear o1 hb1 PA x0 x1 x2 l0 l1 l2 HJ0 KW
 generalize hps : pathsF t loc = ps at *
 obtain ⟨a1, c1, rfl⟩ := own_sliceS O1.out
 gi_wp2
 gi_loopw [13] (fun i wr => ∃ k : Nat, k ≤ ps.length ∧ i = .int .i64 k ∧ J (inP t loc grp (ps.take k)) wr ∧ KpB kb w.heap.size w wr ∧ OwnS wr W.heap.size (.slice a1 ps.length c1) ps ∧ W.heap.size ≤ wr.heap.size) (fun i _ => ps.length - (intOf i).toNat)
 case atStart => exact ⟨0, Nat.zero_le _, rfl, J1.out, K1.out, O1.out, HZ1.out⟩
 case round =>
  obtain ⟨k, hk, rfl, hJ2, hK2, ho, hz2⟩ := hrel
  rename World => w2
  have J2 := hid hJ2
  have K2 := hid hK2
  have O2 := hid ho
  have HZ2 := hid hz2
  obtain ⟨_, _, e, ⟨hpz, _⟩, hcc⟩ := OwnS.rd ho
  cases e
  have HPZ := hid hpz
  have HCC := hid hcc
  clear hJ2 hK2 ho hz2 J1 K1 O1 HZ1 hpz hcc
  by_cases hlt : k < ps.length
  ·have hni : (k : Int) < (ps.length : Int) := by omega
   have hn0 : (0 : Int) ≤ (k : Int) := by omega
   have hpz : (ps.length : Int) ≤ 9223372036854775807 := by have := HPZ.out; omega
   obtain ⟨bq, off, rfl, hbq, hcl⟩ := HCC.out (by intro e; rw [e] at hlt; simp at hlt)
   have r0 : w2.cell? ⟨bq, off + k, none⟩ = some (.string ⟨(ps[k]'hlt).toArray⟩) := hcl k _ (List.getElem?_eq_getElem hlt)
   have HMP := hid (HP.out _ (List.getElem_mem hlt))
   have HIT := hid (inP_take (t := t) (loc := loc) (grp := grp) hlt)
   have HLE := hid (inP_pre (t := t) (loc := loc) (grp := grp) ps (k + 1)).length_le
   have IN := hid (pin_any w2 (ps[k]'hlt) grp HMP.out hg)
   obtain ⟨T2, x0, x1, x2, l0, l1, l2⟩ := BX.out w2 K2.out
   clear T2 hcl HCC
   generalize ps[k]'hlt = p at *
   cases hin : inB p grp with
   | false =>
    rw [hin] at IN HIT
    have HI2 := hid (show inP t loc grp (ps.take (k + 1)) = inP t loc grp (ps.take k) by rw [HIT.out]; simp)
    clear hin HIT
    gi_wp2
    refine ⟨trivial, callsIn_wide.2 (IN.out.mono ?_)⟩
    rintro e w3 ⟨rfl, hb3⟩
    have J3 := hid (ABJ.out _ w2 w3 none J2.out (below_grown hb3) (fun r e => by cases e))
    have K3 := hid (K2.out.trans (KpB.of_below hb3 (Nat.le_trans HZW.out HZ2.out)))
    have O3 := hid (show OwnS w3 W.heap.size _ ps from own_below O2.out hb3)
    have HZ3 := hid (Nat.le_trans HZ2.out hb3.size)
    clear hb3 x0 x1 x2 l0 l1 l2 r0 hbq
    gi_wp2
    go_roundw
    case rel => exact ⟨k + 1, by omega, by simp, by rw [HI2.out]; exact J3.out, K3.out, O3.out, HZ3.out⟩
    case measure => simp [intOf]; omega
   | true =>
    rw [hin] at IN HIT
    have HI2 := hid (show inP t loc grp (ps.take (k + 1)) = inP t loc grp (ps.take k) ++ [(p, rText (findR t.rows loc p))] by rw [HIT.out]; simp)
    clear hin HIT
    gi_wp2
    refine ⟨trivial, callsIn_wide.2 (IN.out.mono ?_)⟩
    rintro e w3 ⟨rfl, hb3⟩
    have J3 := hid (ABJ.out _ w2 w3 none J2.out (below_grown hb3) (fun r e => by cases e))
    have K3 := hid (K2.out.trans (KpB.of_below hb3 (Nat.le_trans HZW.out HZ2.out)))
    have O3 := hid (show OwnS w3 W.heap.size _ ps from own_below O2.out hb3)
    have HZ3 := hid (Nat.le_trans HZ2.out hb3.size)
    clear hb3 x0 x1 x2 l0 l1 l2 r0 hbq IN
    obtain ⟨T3, x0, x1, x2, l0, l1, l2⟩ := BX.out w3 K3.out
    have GT := hid (T3.get loc p hl HMP.out)
    clear T3
    gi_wp2
    refine ⟨trivial, callsIn_wide.2 (GT.out.mono ?_)⟩
    rintro e w4 ⟨rfl, hb4⟩
    have J4 := hid (ABJ.out _ w3 w4 none J3.out (below_grown hb4) (fun r e => by cases e))
    have K4 := hid (K3.out.trans (KpB.of_below hb4 (Nat.le_trans HZW.out HZ3.out)))
    have O4 := hid (show OwnS w4 W.heap.size _ ps from own_below O3.out hb4)
    have HZ4 := hid (Nat.le_trans HZ3.out hb4.size)
    clear hb4 x0 x1 x2 l0 l1 l2 GT
    obtain ⟨fn, tmps, assign, body, hy, hR⟩ := HY.out _ (p, rText (findR t.rows loc p)) w4 (by
     rw [← HI2.out]; exact inP_pre ps (k + 1)) J4.out
    dsimp only at hy
    gi_wp2
    refine hR.mono ?_
    rintro e w5 (⟨rfl, hJ5, hk5⟩ | ⟨rfl, hJx5⟩)
    ·have O5 := hid (show OwnS w5 W.heap.size _ ps from own_kp O4.out hk5 HZW.out)
     have K5 := hid (K4.out.trans hk5)
     have HZ5 := hid (Nat.le_trans HZ4.out hk5.size)
     gi_wp2
     go_roundw
     case rel => exact ⟨k + 1, by omega, by simp, by rw [HI2.out]; exact hJ5, K5.out, O5.out, HZ5.out⟩
     case measure => simp [intOf]; omega
    ·gi_wp2
     refine bodyPost_ret (results_none rfl _ _ _) rfl ?_
     exact ⟨⟨_, rfl⟩, .inr ⟨inP t loc grp (ps.take (k + 1)), by first | exact inP_pre ps (k + 1) | (rw [hps]; exact inP_pre ps (k + 1)), by rw [HI2.out]; exact hJx5⟩⟩
  ·have hni : ¬ (k : Int) < (ps.length : Int) := by omega
   have hkn : k = ps.length := by omega
   have HJ3 := hid (show J (inP t loc grp ps) w2 from by have := J2.out; rw [hkn, List.take_length] at this; exact this)
   gi_wp2
   go_end0
   first | exact ⟨⟨_, rfl⟩, .inl ⟨_, rfl, HJ3.out⟩⟩ | exact ⟨⟨_, rfl⟩, .inl HJ3.out⟩
theorem within1_sub (n : Nat) (hn : 1 ≤ n) (b0 b1 b2 kb C pt : Nat) (t : Tb) (ok : TbOk t) (hs : SzT t) (loc grp : Str) (hl : loc.length ≤ maxLen) (hg : grp.length ≤ maxLen) (w : World) (cs : Array Value)
  (hT : TbP C w pt t) (hkb : w.heap[kb]? = some (.cells cs 3 (0, 0)))
  (h0 : w.heap[b0]? = some (.cells #[.pointer (some ⟨pt, 0, none⟩)] 31 (0, 0))) (h1 : w.heap[b1]? = some (.cells #[.string ⟨loc.toArray⟩] 9 (0, 0))) (h2 : w.heap[b2]? = some (.cells #[.string ⟨grp.toArray⟩] 9 (0, 0))) :
  SeqStopsK Fence.wide n Tryz.prog 46 #[.pointer (some ⟨b0, 0, none⟩), .pointer (some ⟨b1, 0, none⟩), .pointer (some ⟨b2, 0, none⟩)] (fun x : {x : Str × Str // x ∈ inP t loc grp (pathsF t loc)} => #[.string ⟨x.1.1.toArray⟩, .string ⟨x.1.2.toArray⟩]) (KpB kb w.heap.size)
   (fun xs => xs.map (·.1) = inP t loc grp (pathsF t loc)) (fun pre => pre.map (·.1) <+: inP t loc grp (pathsF t loc)) (inP t loc grp (pathsF t loc)).length w := fun l J Jx W hW hJ _ hY hJ0 => by
 refine (within1_in n hn l b0 b1 b2 kb C pt t ok hs loc grp hl hg w cs hT hkb h0 h1 h2 (fun pre W => ∃ pre' : List {x : Str × Str // x ∈ inP t loc grp (pathsF t loc)}, pre'.map (·.1) = pre ∧ J pre' W) (fun pre W => ∃ pre' : List {x : Str × Str // x ∈ inP t loc grp (pathsF t loc)}, pre'.map (·.1) = pre ∧ Jx pre' W) W hW
  (fun s W1 W2 row hs hg hr => by obtain ⟨p, e, h⟩ := hs; exact ⟨p, e, hJ p W1 W2 row h hg hr⟩) (fun pre x W1 hp hj => ?_) ⟨[], rfl, hJ0⟩).mono ?_
 ·obtain ⟨pre', rfl, hj⟩ := hj
  have hm : x ∈ inP t loc grp (pathsF t loc) := hp.subset (by simp)
  have hlen : pre'.length < (inP t loc grp (pathsF t loc)).length := by
   have := hp.length_le
   rw [List.length_append, List.length_map] at this
   simp at this
   omega
  obtain ⟨fn, tmps, assign, body, hy, hR⟩ := hY pre' ⟨x, hm⟩ W1 hj hlen
  refine ⟨fn, tmps, assign, body, hy, hR.mono ?_⟩
  rintro e W' (⟨h1, h2, h3⟩ | ⟨h1, h2⟩)
  ·exact Or.inl ⟨h1, ⟨_, by simp, h2⟩, h3⟩
  ·exact Or.inr ⟨h1, ⟨_, by simp, h2⟩⟩
 ·rintro e W' ⟨hv, (⟨xs, h1, p, h2, h3⟩ | ⟨pre, h1, p, h2, h3⟩)⟩
  ·exact ⟨hv, .inl ⟨p, h2.trans h1, h3⟩⟩
  ·exact ⟨hv, .inr ⟨p, by show p.map (·.1) <+: _; rw [h2]; exact h1, h3⟩⟩
end Go.Proofs.YtjlfchnnhglbjaaGreat
namespace Go.Proofs.YtjlfchnnhglbjaaGreat
open Go.RowKit Go.Lib Go.Sort Go.Maps Go.WideMaps Go.Shelf
def markD (D : Nat) : Deferred := { target := .collected D, args := #[] }
def MarksIn (lo : Nat) (W : World) (ds : List Deferred) : Prop := ∃ Ds : List Nat, ds = Ds.map markD ∧ Ds.Nodup ∧ ∀ D ∈ Ds, lo ≤ D ∧ W.heap[D]? = some (.deferred (some []))
theorem MarksIn.nil (lo : Nat) (W : World) : MarksIn lo W [] := ⟨[], rfl, by simp, fun D h => by cases h⟩
def KeepM (W W' : World) : Prop := ∀ k : Nat, W.heap[k]? = some (.deferred (some [])) → W'.heap[k]? = some (.deferred (some []))
theorem KeepM.refl (W : World) : KeepM W W := fun _ h => h
theorem KeepM.trans {A B C : World} (h : KeepM A B) (g : KeepM B C) : KeepM A C := fun k hk => g k (h k hk)
theorem KeepM.of_below {W W' : World} (h : Below W.heap.size W W') : KeepM W W' := fun k hk => (h.block k (lt_of_block hk)).trans hk
theorem KeepM.of_keeps {W W' : World} (h : KeepsOthers W W') : KeepM W W' := fun k hk => h.same k _ hk rfl
theorem KeepM.set (W : World) (a : Addr) (v : Value) : KeepM W (W.setCell a v) := .of_keeps (KeepsOthers.setCell W a v)
theorem MarksIn.keep {lo : Nat} {W W' : World} {ds : List Deferred} (h : MarksIn lo W ds) (hk : KeepM W W') : MarksIn lo W' ds := by
 obtain ⟨Ds, rfl, h2, h3⟩ := h
 exact ⟨Ds, rfl, h2, fun D hD => ⟨(h3 D hD).1, hk D (h3 D hD).2⟩⟩
theorem MarksIn.push {lo D : Nat} {w W : World} {ds : List Deferred} (h : MarksIn lo w ds) (hk : KeepM w W) (hlo : lo ≤ w.heap.size) (hD : w.heap.size ≤ D) (hW : W.heap[D]? = some (.deferred (some []))) : MarksIn lo W (markD D :: ds) := by
 obtain ⟨Ds, rfl, h2, h3⟩ := h
 refine ⟨D :: Ds, rfl, List.nodup_cons.2 ⟨fun hm => ?_, h2⟩, fun E hE => ?_⟩
 ·have := lt_of_block (h3 D hm).2
  omega
 ·rcases List.mem_cons.1 hE with rfl | hE
  ·exact ⟨Nat.le_trans hlo hD, hW⟩
  ·exact ⟨(h3 E hE).1, hk E (h3 E hE).2⟩
structure Closed (lo : Nat) (W W' : World) : Prop where
 below : Below lo W W'
 cells : ∀ (k : Nat) (cs : Array Value) (ty : TypeId) (z : Nat × Nat), W.heap[k]? = some (.cells cs ty z) → W'.heap[k]? = some (.cells cs ty z)
theorem Closed.refl (lo : Nat) (W : World) : Closed lo W W := ⟨Below.refl _ _, fun _ _ _ _ h => h⟩
theorem Closed.put {lo D : Nat} {W W' : World} (h : Closed lo (W.putObj D (.deferred none)) W') (hD : lo ≤ D) (hW : W.heap[D]? = some (.deferred (some []))) : Closed lo W W' := by
 have hg := grownBy_putObj' W D (.deferred none)
 refine ⟨?_, fun k cs ty z hk => h.cells k cs ty z ?_⟩
 ·refine Below.trans ((Below.refl lo W).grown hg ?_ (fun k e => by cases e; exact hD)) h.below
  have := lt_of_block hW
  omega
 ·refine (hg.block k (lt_of_block hk) (fun e => ?_)).trans hk
  cases e
  rw [hW] at hk; cases hk
theorem leaves_marks {F : Fence} {n : Nat} {P : Program} {fn : Func} {tmps : Array Value} {R : Ending → World → Prop} {lo : Nat} : ∀ (ds : List Deferred) (W : World), MarksIn lo W ds →
  (∀ W', Closed lo W W' → LeavesIn F n P fn tmps R [] .returning W') → LeavesInM F n P fn tmps R ds .returning W
 | [], W, _, h => h W (Closed.refl _ _)
 | d :: ds, W, ⟨Ds, e, h2, h3⟩, h => by
  match Ds, e with
  | D :: Ds, e =>
   have e1 : d = markD D := (List.cons.inj e).1
   have e2 : ds = Ds.map markD := (List.cons.inj e).2
   subst e1
   obtain ⟨hlo, hW⟩ := h3 D (List.mem_cons_self ..)
   refine ⟨by simp, .inl ⟨D, _, rfl, run_takeDeferred hW, leaves_marks ds _ ⟨Ds, e2, (List.nodup_cons.1 h2).2, fun E hE => ⟨(h3 E (List.mem_cons_of_mem _ hE)).1, ?_⟩⟩ (fun W' hc => h W' (hc.put hlo hW))⟩⟩
   have hne : E ≠ D := fun e => (List.nodup_cons.1 h2).1 (e ▸ hE)
   exact (World.putObj_heap_other (fun e => hne e)).trans (h3 E (List.mem_cons_of_mem _ hE)).2
theorem ret_marks {F : Fence} {n : Nat} {P : Program} {fn : Func} {tmps : Array Value} {R : Ending → World → Prop} {lo : Nat} {ds : List Deferred} {W : World} (h : MarksIn lo W ds)
  (hr : ∀ W', Closed lo W W' → ∃ v, (results fn tmps).run P W' = .ok v W' ∧ R (.returned v) W') : LeavesInM F n P fn tmps R ds .returning W :=
 leaves_marks ds W h fun W' hc => hr W' hc
theorem lit_map (L : List Value) (n : Nat) (h : L.length = n) : ∃ f : Nat → Value, L = (List.range n).map f := by
 refine ⟨fun i => L.getD i undef, ?_⟩
 subst h
 refine List.ext_getElem (by simp) fun i h1 h2 => ?_
 simp [List.getD, List.getElem?_eq_getElem h1]
end Go.Proofs.YtjlfchnnhglbjaaGreat
namespace Go.Proofs.YtjlfchnnhglbjaaGreat
open Go.RowKit Go.Lib Go.Sort Go.Maps Go.WideMaps Go.Shelf
end Go.Proofs.YtjlfchnnhglbjaaGreat
namespace Go.Proofs.YtjlfchnnhglbjaaGreat
def twoD (kf : Nat → Nat) (d : Dc) : List Dc := [⟨d.loc, d.supp, d.items.take (kf d.items.length)⟩, ⟨d.loc, d.supp, d.items.drop (kf d.items.length)⟩]
def partD (kf : Nat → Nat) (L : List Dc) : List Dc := L.flatMap (twoD kf)
theorem part_mem {kf : Nat → Nat} {L : List Dc} {d : Dc} : d ∈ partD kf L ↔ ∃ c ∈ L, d ∈ twoD kf c := by
 unfold partD
 exact List.mem_flatMap
theorem two_head {kf : Nat → Nat} {c d : Dc} (h : d ∈ twoD kf c) : d.loc = c.loc ∧ d.supp = c.supp := by
 unfold twoD at h
 simp only [List.mem_cons, List.not_mem_nil, or_false] at h
 rcases h with rfl | rfl <;> exact ⟨rfl, rfl⟩
theorem two_items {kf : Nat → Nat} {c d : Dc} {x : Itm} (h : d ∈ twoD kf c) (hx : x ∈ d.items) : x ∈ c.items := by
 unfold twoD at h
 simp only [List.mem_cons, List.not_mem_nil, or_false] at h
 rcases h with rfl | rfl
 ·exact List.mem_of_mem_take hx
 ·exact List.mem_of_mem_drop hx
theorem two_back {kf : Nat → Nat} {c : Dc} {x : Itm} (hx : x ∈ c.items) : ∃ d ∈ twoD kf c, x ∈ d.items := by
 rw [← List.take_append_drop (kf c.items.length) c.items] at hx
 unfold twoD
 rcases List.mem_append.1 hx with hx | hx
 ·exact ⟨_, List.mem_cons_self .., hx⟩
 ·exact ⟨_, List.mem_cons_of_mem _ (List.mem_cons_self ..), hx⟩
theorem part_len (kf : Nat → Nat) : ∀ L : List Dc, (partD kf L).length = 2 * L.length
 | [] => rfl
 | d :: r => by
  have := part_len kf r
  unfold partD at this ⊢
  rw [List.flatMap_cons, List.length_append, this, List.length_cons]
  simp only [twoD, List.length_cons, List.length_nil]
  omega
theorem part_evs (kf : Nat → Nat) : ∀ L : List Dc, (evs (partD kf L)).length = (evs L).length
 | [] => rfl
 | d :: r => by
  have ih := part_evs kf r
  have h1 : partD kf (d :: r) = ⟨d.loc, d.supp, d.items.take (kf d.items.length)⟩ :: ⟨d.loc, d.supp, d.items.drop (kf d.items.length)⟩ :: partD kf r := rfl
  rw [h1, evs_cons, evs_cons, evs_cons, List.length_append, List.length_append, List.length_append, ih]
  simp only [evI, List.length_map, List.length_take, List.length_drop]
  omega
theorem part_same {L : List Dc} {kf : Nat → Nat} (h : (newF L).1.err = 0) (h12 : L.length ≤ 12) (h40 : ∀ d ∈ L, d.items.length ≤ 40) : (newF (partD kf L)).1 = Wrg.ok ∧ SameT (newF L).2 (newF (partD kf L)).2 ∧ TbOk (newF L).2 ∧ TbOk (newF (partD kf L)).2 := by
 obtain ⟨_, h2, _, _⟩ := docs_inv L 0 Inv.zero TbOk.zero h
 have hl := part_len kf L
 refine new_same h (fun e => ?_) (fun s => ?_) (fun d hd => ?_) ?_ ?_
 ·rw [evs_mem, evs_mem]
  constructor
  ·rintro ⟨d, hd, x, hx, rfl⟩
   obtain ⟨c, hc, hxc⟩ := two_back (kf := kf) hx
   exact ⟨c, part_mem.2 ⟨d, hd, hc⟩, x, hxc, by rw [(two_head hc).1]⟩
  ·rintro ⟨d, hd, x, hx, rfl⟩
   obtain ⟨c, hc, hdc⟩ := part_mem.1 hd
   exact ⟨c, hc, x, two_items hdc hx, by rw [(two_head hdc).1]⟩
 ·rw [nms_mem, nms_mem]
  constructor
  ·rintro ⟨d, hd, hs, rfl⟩
   exact ⟨⟨d.loc, d.supp, d.items.take (kf d.items.length)⟩, part_mem.2 ⟨d, hd, List.mem_cons_self ..⟩, hs, rfl⟩
  ·rintro ⟨d, hd, hs, rfl⟩
   obtain ⟨c, hc, hdc⟩ := part_mem.1 hd
   exact ⟨c, hc, by rw [← (two_head hdc).2]; exact hs, ((two_head hdc).1).symm⟩
 ·obtain ⟨c, hc, hdc⟩ := part_mem.1 hd
  obtain ⟨o1, o2⟩ := h2 c hc
  refine ⟨?_, fun x hx => ?_⟩
  ·unfold okHead at o1 ⊢
   rw [(two_head hdc).1, (two_head hdc).2]
   exact o1
  ·rw [(two_head hdc).1]
   exact o2 x (two_items hdc hx)
 ·have := nms_len (partD kf L)
  omega
 ·rw [part_evs]
  have h3 := evs_len L 40 h40
  have h4 : 40 * L.length ≤ 40 * 12 := Nat.mul_le_mul_left _ h12
  omega
theorem item_rows {t : Tb} {loc : Str} {f : Nat} {x : Itm} {r : Rw} (h : r ∈ (itemF t loc f x).2.rows) : r ∈ t.rows ∨ (r = ⟨loc, x.path, x.value, f, x.at'⟩ ∧ x.alias' = false) := by
 unfold itemF at h
 split at h
 ·exact Or.inl h
 split at h
 ·exact Or.inl h
 split at h
 ·split at h
  ·split at h <;> exact Or.inl h
  ·exact Or.inl h
 next ha =>
  have ha' : x.alias' = false := by simpa using ha
  split at h
  ·split at h <;> exact Or.inl h
  ·split at h
   ·rcases List.mem_append.1 h with h | h
    ·exact Or.inl h
    ·exact Or.inr ⟨List.mem_singleton.1 h, ha'⟩
   ·split at h
    ·exact Or.inl h
    ·rcases List.mem_append.1 h with h | h
     ·exact Or.inl h
     ·exact Or.inr ⟨List.mem_singleton.1 h, ha'⟩
theorem items_rows {loc : Str} {f : Nat} {r : Rw} : ∀ (l : List Itm) {t : Tb}, r ∈ (itemsF loc f t l).2.rows → r ∈ t.rows ∨ ∃ x ∈ l, r = ⟨loc, x.path, x.value, f, x.at'⟩ ∧ x.alias' = false
 | [], t, h => Or.inl h
 | x :: l, t, h => by
  have hstep : r ∈ (itemF t loc f x).2.rows → r ∈ t.rows ∨ ∃ y ∈ x :: l, r = ⟨loc, y.path, y.value, f, y.at'⟩ ∧ y.alias' = false := fun h => by
   rcases item_rows h with h | h
   ·exact Or.inl h
   ·exact Or.inr ⟨x, List.mem_cons_self .., h⟩
  unfold itemsF at h
  split at h
  ·next t' he =>
   rcases items_rows l h with h | ⟨y, hy, h⟩
   ·exact hstep (by rw [he]; exact h)
   ·exact Or.inr ⟨y, List.mem_cons_of_mem _ hy, h⟩
  ·next e t' _ he => exact hstep (by rw [he]; exact h)
theorem head_rows (t : Tb) (d : Dc) : (headF t d).2.rows = t.rows := by
 unfold headF
 split
 ·rfl
 split
 ·rfl
 split <;> rfl
theorem docs_rows {r : Rw} : ∀ (L : List Dc) (f : Nat) {t : Tb}, r ∈ (docsF f t L).2.rows → r ∈ t.rows ∨ ∃ i d, L[i]? = some d ∧ ∃ x ∈ d.items, r = ⟨d.loc, x.path, x.value, f + i, x.at'⟩ ∧ x.alias' = false
 | [], f, t, h => Or.inl h
 | d :: L, f, t, h => by
  have hh := head_rows t d
  unfold docsF at h
  split at h
  ·next t1 he =>
   rw [he] at hh
   have hi : r ∈ (itemsF d.loc f t1 d.items).2.rows → r ∈ t.rows ∨ ∃ i e, (d :: L)[i]? = some e ∧ ∃ x ∈ e.items, r = ⟨e.loc, x.path, x.value, f + i, x.at'⟩ ∧ x.alias' = false := fun h => by
    rcases items_rows d.items h with h | ⟨x, hx, h⟩
    ·exact Or.inl (by rw [← hh]; exact h)
    ·exact Or.inr ⟨0, d, rfl, x, hx, h⟩
   split at h
   ·next t2 he2 =>
    rcases docs_rows L (f + 1) h with h | ⟨i, e, h1, x, hx, h2, h3⟩
    ·exact hi (by rw [he2]; exact h)
    ·exact Or.inr ⟨i + 1, e, by rw [List.getElem?_cons_succ]; exact h1, x, hx, by rw [h2, show f + 1 + i = f + (i + 1) by omega], h3⟩
   ·next e a t2 he2 => exact hi (by rw [he2]; exact h)
  ·next e t1 _ he =>
   rw [he] at hh
   exact Or.inl (by rw [← hh]; exact h)
theorem new_rows {L : List Dc} {r : Rw} (h : r ∈ (newF L).2.rows) : ∃ d, L[r.file]? = some d ∧ d.loc = r.loc ∧ ∃ x ∈ d.items, x.path = r.path ∧ x.at' = r.at' ∧ x.alias' = false := by
 rcases docs_rows L 0 h with h | ⟨i, d, h1, x, hx, rfl, h3⟩
 ·cases h
 ·exact ⟨d, by simpa using h1, rfl, x, hx, rfl, rfl, h3⟩
end Go.Proofs.YtjlfchnnhglbjaaGreat
namespace Go.Proofs.YtjlfchnnhglbjaaGreat
open Go.Lib
abbrev Al := Str × Str
theorem rest_some {a b r : Str} (h : restF a b = some r) : ∃ l m, pathP a = some (m ++ l) ∧ pathP b = some m ∧ r = joinT l ∧ pathP r = some l := by
 unfold restF at h
 split at h
 ·next l m h1 h2 =>
  split at h
  ·next hc =>
   refine ⟨l.drop m.length, m, ?_, h2, (Option.some.inj h).symm, ?_⟩
   ·rw [h1]
    conv => lhs; rw [← List.take_append_drop m.length l, hc.2]
   ·rw [← Option.some.inj h]
    exact print_path (print_drop h1 _)
  ·cases h
 ·cases h
theorem rest_of {a b : Str} {l m : List Stp} (h1 : pathP a = some (m ++ l)) (h2 : pathP b = some m) : restF a b = some (joinT l) := by
 unfold restF
 rw [h1, h2]
 simp
theorem in_iff {a b : Str} : inB a b = true ↔ ∃ l m, pathP a = some (m ++ l) ∧ pathP b = some m := by
 unfold inB
 constructor
 ·intro h
  obtain ⟨r, hr⟩ := Option.isSome_iff_exists.1 h
  obtain ⟨l, m, h1, h2, _⟩ := rest_some hr
  exact ⟨l, m, h1, h2⟩
 ·rintro ⟨l, m, h1, h2⟩
  rw [rest_of h1 h2]; rfl
theorem path_nil : pathP [] = some [] := by decide +kernel
theorem in_all {p : Str} (h : pathB p = true) : inB p [] = true := by
 obtain ⟨l, hl⟩ := Option.isSome_iff_exists.1 h
 exact in_iff.2 ⟨l, [], hl, path_nil⟩
where
 key_one {D : List Al} (hn : (D.map (·.1)).Nodup) {a b : Al} (ha : a ∈ D) (hb : b ∈ D) (e : a.1 = b.1) : a = b := by
  obtain ⟨i, hi, rfl⟩ := List.getElem_of_mem ha
  obtain ⟨j, hj, rfl⟩ := List.getElem_of_mem hb
  have h1 : (D.map (·.1))[i]'(by simpa using hi) = (D.map (·.1))[j]'(by simpa using hj) := by simpa using e
  have : i = j := (List.getElem_inj hn).1 h1
  subst this; rfl
def okAl (p : Al) : Prop := pathB p.1 = true ∧ pathB p.2 = true ∧ p.1 ≠ [] ∧ p.2 ≠ []
instance (p : Al) : Decidable (okAl p) := by unfold okAl; infer_instance
end Go.Proofs.YtjlfchnnhglbjaaGreat
