/- TableParted: documents cut in two make the table that they make whole, for all documents and every place. No condition. -/
import Derived.Test.YtjlfchnnhglbjaaGreatYX
import Derived.Test.YtjlfchnnhglbjaaGreatYG
import Derived.Deep.RegionHeld3
import Derived.BigQuiet
import Derived.Test.YtjlfchnnhglbjaaGreatRows
import Derived.WalkKit
import Derived.ProofKit
import Derived.OpenShut
import Derived.ShutString
import Derived.ChangeOld
import Derived.ChangeSlices
import Derived.ChangeArms
import Derived.Below
set_option linter.unusedVariables false
set_option linter.unusedSimpArgs false
namespace Go.Proofs.YtjlfchnnhglbjaaGreat
open Go.RowKit Go.Lib Go.Sort Go.Maps Go.WideMaps Go.Shelf
attribute [local go_sem] Oper.semAt_some
theorem RdL.dropL {α : Type} {k : Nat} {E : Enc α k} {w : World} {p o n c : Nat} {l : List α} (h : RdL E w (.slice (some ⟨p, o, none⟩) n c) l) (m : Nat) (hm : m ≤ l.length) : RdL E w (.slice (some ⟨p, o + m * k, none⟩) (l.length - m) (c - m)) (l.drop m) := by
 obtain ⟨ao, cp, e, ⟨h1, h2, _⟩, hc⟩ := h
 cases e
 refine ⟨_, _, by rw [List.length_drop], ⟨by rw [List.length_drop]; omega, by rw [List.length_drop]; omega, fun e => by cases e⟩, fun hne => ?_⟩
 obtain ⟨b, off, ha, hlt, hx⟩ := hc (by rintro rfl; simp at hne)
 cases ha
 refine ⟨_, _, rfl, hlt, fun j i x hj hx2 => ?_⟩
 rw [List.length_drop] at hj
 rw [List.getElem_drop] at hx2
 have := hx (m + j) i x (by omega) hx2
 rw [show o + m * k + j * k + i = o + (m + j) * k + i by rw [Nat.add_mul]; omega]
 exact this
theorem own_drop {α : Type} {k : Nat} {E : Enc α k} {ty : TypeId} {B : Nat} {w : World} {a : Option Addr} {c : Nat} {l : List α} (h : OwnL E ty w B (.slice a l.length c) l) (m : Nat) (hm : m ≤ l.length) :
  ∃ (a' : Option Addr) (c' : Nat), RdL E w (.slice a' (l.drop m).length c') (l.drop m) ∧
   ((a = none ∧ m = 0 ∧ l = [] ∧ a' = none ∧ c' = 0 ∧ c = 0) ∨ (∃ g, a = some ⟨g, 0, none⟩ ∧ l.length ≤ c ∧ ((c = m ∧ m = l.length ∧ a' = some ⟨g, 0, none⟩ ∧ c' = 0) ∨ (¬ c = m ∧ a' = some ⟨g, m * k, none⟩ ∧ c' = c - m)))) := by
 have hr := OwnL.rd h
 rcases OwnL.shape h with ⟨e, rfl⟩ | ⟨g, cap, cur, e, _, _, hn, _⟩
 ·cases e
  obtain rfl : m = 0 := by simpa using hm
  exact ⟨none, 0, RdL.nil E w, Or.inl ⟨rfl, rfl, rfl, rfl, rfl, rfl⟩⟩
 ·cases e
  by_cases hcm : c = m
  ·subst hcm
   refine ⟨some ⟨g, 0, none⟩, 0, ?_, Or.inr ⟨g, rfl, hn, Or.inl ⟨rfl, by omega, rfl, rfl⟩⟩⟩
   rw [List.drop_eq_nil_of_le (by omega)]
   exact ⟨_, _, rfl, ⟨Nat.le_refl _, by simp, fun e => by cases e⟩, fun h => absurd rfl h⟩
  ·refine ⟨some ⟨g, m * k, none⟩, c - m, ?_, Or.inr ⟨g, rfl, hn, Or.inr ⟨hcm, rfl, rfl⟩⟩⟩
   rw [List.length_drop]
   have := RdL.dropL hr m hm
   rw [Nat.zero_add] at this
   exact this
theorem heap_drewW (W : World) : W.drew.heap = W.heap := rfl
theorem two_set {W : World} {A B : Nat} {x y z x' y' z' : Value} {ty : TypeId} (hA : W.heap[A]? = some (.cells #[x, y, z] ty (0, 0))) (hB : W.heap[B]? = some (.cells #[x', y', z'] ty (0, 0))) (hne : A ≠ B) (va vb : Value) :
  ((W.setCell ⟨A, 2, none⟩ va).setCell ⟨B, 2, none⟩ vb).heap[A]? = some (.cells #[x, y, va] ty (0, 0)) ∧ ((W.setCell ⟨A, 2, none⟩ va).setCell ⟨B, 2, none⟩ vb).heap[B]? = some (.cells #[x', y', vb] ty (0, 0)) := by
 have h1 : (W.setCell ⟨A, 2, none⟩ va).heap[A]? = some (.cells #[x, y, va] ty (0, 0)) := by rw [heap_setCell_same _ _ _ _ _ _ hA]; simp
 have h2 : (W.setCell ⟨A, 2, none⟩ va).heap[B]? = some (.cells #[x', y', z'] ty (0, 0)) := by rw [heap_setCell_other _ _ _ _ (fun e => hne e.symm)]; exact hB
 exact ⟨by rw [heap_setCell_other _ _ _ _ hne]; exact h1, by rw [heap_setCell_same _ _ _ _ _ _ h2]; simp⟩
structure PartSt (w W : World) (kf : Nat → Nat) (D : List Dc) (n : Nat) (v : Value) (zs : List (Dc × (Option Addr × Nat))) : Prop where
 eq : zs.map (·.1) = partD kf (D.take n)
 own : OwnL encD 27 W w.heap.size v zs
 each : ∀ z ∈ zs, RdL encI w (.slice z.2.1 z.1.items.length z.2.2) z.1.items
 bel : Below w.heap.size w W
section
variable {w W W' : World} {kf : Nat → Nat} {D : List Dc} {n : Nat} {v v' : Value} {zs : List (Dc × (Option Addr × Nat))}
theorem PartSt.below (h : PartSt w W kf D n v zs) (hb : Below W.heap.size W W') : PartSt w W' kf D n v zs :=
 ⟨h.eq, h.own.below hb, h.each, h.bel.then hb⟩
theorem PartSt.drew {w W : World} {kf : Nat → Nat} {D : List Dc} {n : Nat} {v : Value} {zs : List (Dc × (Option Addr × Nat))} (h : PartSt w W kf D n v zs) : PartSt w W.drew kf D n v zs := h.below (Below.refl _ _).drew
theorem PartSt.set2 (h : PartSt w W kf D n v zs) {A B : Nat} (hA : ∀ k, v.ownBlock = some k → k ≠ A) (hB : ∀ k, v.ownBlock = some k → k ≠ B) (lA : w.heap.size ≤ A) (lB : w.heap.size ≤ B) (va vb : Value) : PartSt w ((W.setCell ⟨A, 2, none⟩ va).setCell ⟨B, 2, none⟩ vb) kf D n v zs :=
 ⟨h.eq, own_set (own_set h.own (fun e => hA _ e rfl) 2 va) (fun e => hB _ e rfl) 2 vb, h.each, (h.bel.setCell (p := ⟨A, 2, none⟩) lA va).setCell (p := ⟨B, 2, none⟩) lB vb⟩
theorem part_take (h : n < D.length) : partD kf (D.take (n + 1)) = partD kf (D.take n) ++ twoD kf (D[n]'h) := by
 unfold partD
 rw [List.take_succ_eq_append_getElem h, List.flatMap_append]
 simp
theorem PartSt.len (h : PartSt w W kf D n v zs) (hn : n ≤ D.length) : zs.length = 2 * n := by
 have := congrArg List.length h.eq
 rw [List.length_map, part_len, List.length_take] at this
 omega
theorem PartSt.push (h : PartSt w W kf D n v zs) {x y : Dc × (Option Addr × Nat)} (hn : n < D.length) (he : [x.1, y.1] = twoD kf (D[n]'hn))
  (hx : RdL encI w (.slice x.2.1 x.1.items.length x.2.2) x.1.items) (hy : RdL encI w (.slice y.2.1 y.1.items.length y.2.2) y.1.items) (o : OwnL encD 27 W' w.heap.size v' (zs ++ [x, y])) (gr : W.grownBy W' v.ownBlock) : PartSt w W' kf D (n + 1) v' (zs ++ [x, y]) := by
 refine ⟨by rw [List.map_append, h.eq, part_take hn, ← he]; rfl, o, fun z hz => ?_, h.bel.grown gr h.bel.size (fun k hk => (World.ownsRow.lt h.own k hk).1)⟩
 rcases List.mem_append.1 hz with hz | hz
 ·exact h.each z hz
 ·simp only [List.mem_cons, List.not_mem_nil, or_false] at hz
  rcases hz with rfl | rfl
  ·exact hx
  ·exact hy
end
theorem u64_mod1 (at' : Int) (n : Nat) : ∃ k : Nat, (IntKind.u64.wrap at').tmod ((n : Int) + 1) = (k : Int) ∧ k ≤ n := by
 obtain ⟨k, h1, h2⟩ := u64_mod at' (show 0 < n + 1 by omega)
 exact ⟨k, by rw [← h1]; rfl, by omega⟩
def kOf (at' : Int) (n : Nat) : Nat := ((IntKind.u64.wrap at').tmod ((n : Int) + 1)).toNat
theorem kOf_spec (at' : Int) (n : Nat) : (IntKind.u64.wrap at').tmod ((n : Int) + 1) = (kOf at' n : Int) ∧ kOf at' n ≤ n := by
 obtain ⟨k, h1, h2⟩ := u64_mod1 at' n
 unfold kOf
 rw [h1]
 exact ⟨rfl, by simpa using h2⟩
theorem new_pathB {L : List Dc} (h : (newF L).1.err = 0) : ∀ p ∈ (newF L).2.paths, pathB p = true := by
 obtain ⟨_, h2, h3, h4⟩ := docs_inv L 0 Inv.zero TbOk.zero h
 rw [List.nil_append, List.nil_append] at h3
 intro p hp
 obtain ⟨loc, x, hx, _, rfl⟩ := (h3.paths p).1 hp
 obtain ⟨d, hd, y, hy, e⟩ := evs_mem.1 hx
 cases e
 have := ((h2 d hd).2 _ hy).1
 cases hb : pathB x.path with
 | true => rfl
 | false => exact absurd (Or.inr hb) this
theorem sz_part {l : List Dc} {kf : Nat → Nat} (h : SzL l) : SzL (partD kf l) := by
 intro d hd
 obtain ⟨c, hc, hdc⟩ := part_mem.1 hd
 exact ⟨by rw [(two_head hdc).1]; exact (h c hc).1, fun x hx => (h c hc).2 x (two_items hdc hx)⟩
theorem part_40 {l : List Dc} {kf : Nat → Nat} (h : ∀ d ∈ l, d.items.length ≤ 40) : ∀ d ∈ partD kf l, d.items.length ≤ 40 := by
 intro d hd
 obtain ⟨c, hc, hdc⟩ := part_mem.1 hd
 have h1 := h c hc
 unfold twoD at hdc
 simp only [List.mem_cons, List.not_mem_nil, or_false] at hdc
 rcases hdc with rfl | rfl
 ·simp only [List.length_take]; omega
 ·simp only [List.length_drop]; omega
theorem inP_nil {t : Tb} (ok : TbOk t) (hp : ∀ p ∈ t.paths, pathB p = true) (loc : Str) : inP t loc [] (pathsF t loc) = (pathsF t loc).map fun p => (p, rText (findR t.rows loc p)) := by
 unfold inP
 rw [List.filter_eq_self.2]
 intro p hm
 have h1 := path_has hm
 obtain ⟨r, hr⟩ := Option.isSome_iff_exists.1 h1
 obtain ⟨g1, _, g3⟩ := findR_some hr
 exact in_all (hp p (g3 ▸ ok.rp r g1))
theorem keeps_below' {W W' : World} (h : Below W.heap.size W W') : KeepsOthers W W' := ⟨h.size, fun k o hk _ => (h.block k (Array.getElem?_eq_some_iff.1 hk).1).trans hk⟩
theorem KpB.setk' {kb n0 i : Nat} {A : World} (h : kb < n0) (v : Value) : KpB kb n0 A (A.setCell ⟨kb, i, none⟩ v) :=
 ⟨by simp, fun k _ h2 => Below.heap_setCell A ⟨kb, i, none⟩ v k h2, fun k cs ty hn hc => (Below.heap_setCell A ⟨kb, i, none⟩ v k (by show k ≠ kb; omega)).trans hc⟩
theorem own_atS {W : World} {B : Nat} {a : Option Addr} {n c : Nat} {l : List Str} (h : OwnS W B (.slice a n c) l) (j : Nat) (hj : j < l.length) : ∃ g, a = some ⟨g, 0, none⟩ ∧ g < W.heap.size ∧ W.cell? ⟨g, j, none⟩ = some (.string ⟨(l[j]'hj).toArray⟩) := by
 rcases h.shape with ⟨_, e⟩ | ⟨g, cap, cur, e, hB, hg, hn, hm, hs, ht⟩
 ·rw [e] at hj; simp at hj
 ·cases e
  refine ⟨g, rfl, lt_of_block hg, cells_at hg ht _ _ ?_⟩
  rw [List.getElem?_map, List.getElem?_eq_getElem hj]
  rfl
def saidB (p : Str) (on : Int) (x : Itm) : Bool := (x.path == p) && (x.at' == on) && !x.alias'
set_option maxRecDepth 100000 in
set_option maxHeartbeats 16000000 in
theorem parted_any (at' : Int) (w : World) (l : List Dc) (v : Value) (hd : RdD w v l) (hs : SzL l) :
  Calls Tryz.prog 8 #[v, .int .i64 at'] w fun e w' => e = .returned (.bool true) ∧ Below w.heap.size w w' := by
 have WK := hid (fun W => twakes_any W)
 have CU := hid (fun W h => cut_any W l v h)
 have HD := hid hd
 have HSZ := hid (sz_cut hs)
 have H12 := hid (cutD_len l)
 have H40 := hid (fun d h => cutD_40 (l := l) (d := d) h)
 clear hd hs
 refine (callsIn_wide (n := 6)).1 ?_
 refine callsIn_of_wp_marks Tryz.func8 rfl trivial ?_ rfl
 simp only [Tryz.ntmps8, List.size_toArray, List.length_cons, List.length_nil, Nat.reduceAdd, Nat.reduceSub, Array.replicate_succ, Array.replicate_zero, List.push_toArray, List.append_toArray, List.nil_append, List.cons_append]
 refine wpIn_wide.2 ?_
 have B0 := hid (show Below w.heap.size w (w.alloc (.cells #[.bool false] 4)) from (Below.refl _ _).alloc (Nat.le_refl _) _)
 have F0 := hid (heap_alloc_new w (.cells #[.bool false] 4))
 go_upto_region 1 with fail
 generalize w.alloc (.cells #[.bool false] 4) = w0 at *
 go_wp2_with fail
 refine (WK.out w0).mono ?_
 rintro e w1 ⟨rfl, hb1⟩
 have B1 := hid (B0.out.then hb1)
 have F1 := hid ((hb1.block _ (lt_of_block F0.out)).trans F0.out)
 have HD1 := hid (show RdD w1 v l from by
  obtain ⟨zs, h1, h2, h3⟩ := HD.out
  exact ⟨zs, h1, h2.below B1.out, fun z hz => (h3 z hz).below B1.out⟩)
 clear hb1 B0 F0
 go_wp2_with fail
 refine (CU.out w1 HD1.out).mono ?_
 rintro e w2 ⟨v2, rfl, hod, hb2⟩
 have B2 := hid (B1.out.then hb2)
 have F2 := hid ((hb2.block _ (lt_of_block F1.out)).trans F1.out)
 have OD := hid hod
 clear hb2 hod HD HD1 B1 F1
 generalize cutD l = D at *
 obtain ⟨a2, c2, rfl, _⟩ := OD.out.slice
 have SZD := hid (szD_of HSZ.out (by have := H12.out; omega) (fun d h => by have := H40.out d h; omega))
 have NW := hid (tnew_any w2 D _ OD.out.rd SZD.out)
 go_wp2_with fail
 refine NW.out.mono ?_
 rintro x w3 ⟨hb3, hx⟩
 have OD3 := hid (OD.out.below hb3)
 have B3 := hid (B2.out.then hb3)
 have F3 := hid ((hb3.block _ (lt_of_block F2.out)).trans F2.out)
 clear hb3 B2 F2 OD NW WK CU
 rcases hx with ⟨hz, Bt, bv, ba, bn, bp, N, V, rfl, tb, ok⟩ | ⟨hz, rfl⟩
 ·have T3 := hid (show TbP w2.heap.size w3 Bt (newF D).2 from ⟨bv, ba, bn, bp, N, V, tb⟩)
  have HZ := hid hz
  have OK3 := hid ok
  clear hz tb ok
  have HA := hid (show Below w3.heap.size w3 ((w3.alloc (.cells #[.pointer (some ⟨Bt, 0, none⟩)] 31)).alloc (.cells #[.int .i64 0, .int .i64 0, .int .i64 0] 30)) from below2 w3 _ _)
  have G4 := hid (show ((w3.alloc (.cells #[.pointer (some ⟨Bt, 0, none⟩)] 31)).alloc (.cells #[.int .i64 0, .int .i64 0, .int .i64 0] 30)).heap[w3.heap.size]? = some (.cells #[.pointer (some ⟨Bt, 0, none⟩)] 31 (0, 0)) from (Below.heap_alloc _ _ _ (lt_of_block (heap_alloc_new w3 _))).trans (heap_alloc_new w3 _))
  have F4 := hid (show ((w3.alloc (.cells #[.pointer (some ⟨Bt, 0, none⟩)] 31)).alloc (.cells #[.int .i64 0, .int .i64 0, .int .i64 0] 30)).heap[w3.heap.size + 1]? = some (.cells #[.int .i64 0, .int .i64 0, .int .i64 0] 30 (0, 0)) from by
   have := heap_alloc_new (w3.alloc (.cells #[.pointer (some ⟨Bt, 0, none⟩)] 31)) (.cells #[.int .i64 0, .int .i64 0, .int .i64 0] 30)
   rw [show (w3.alloc (.cells #[.pointer (some ⟨Bt, 0, none⟩)] 31)).heap.size = w3.heap.size + 1 by simp] at this
   exact this)
  go_upto_region 5 with fail
  generalize (w3.alloc (.cells #[.pointer (some ⟨Bt, 0, none⟩)] 31)).alloc (.cells #[.int .i64 0, .int .i64 0, .int .i64 0] 30) = w4 at *
  have T4 := hid (T3.out.below HA.out)
  have OD4 := hid (OD3.out.below HA.out)
  have B4 := hid (B3.out.then HA.out)
  have R4 := hid ((HA.out.block _ (lt_of_block F3.out)).trans F3.out)
  have HWB := hid (show w.heap.size ≤ w3.heap.size from B3.out.size)
  clear T3 OD3 B3 F3 HA
  generalize w3.heap.size = Tb at *
  obtain ⟨z0, z1, z2, zl⟩ := box3_cells F4.out
  obtain ⟨zs0, hzl, hzo, hze⟩ := OD4.out
  have HZE := hid hze
  have HZL := hid hzl
  have HZO := hid hzo
  have HLD := hid (show zs0.length = D.length by rw [← hzl, List.length_map])
  clear hzl hzo hze
  go_upto_region 9 with fail
  go_loopg [7, 45] D.length (fun g v7 v45 W => ∃ (i : Nat) (zs : List (Dc × (Option Addr × Nat))), i ≤ D.length ∧ D.length ≤ i + g ∧ v45 = .int .i64 i ∧ PartSt w4 W (kOf at') D i v7 zs)
  case atStart => exact ⟨0, [], Nat.zero_le _, by omega, rfl, rfl, OwnL.nil _ _ _ _, fun z hz => (by cases hz), Below.refl _ _⟩
  case round =>
   obtain ⟨i, zs, hi, hg, rfl, st⟩ := hrel
   rename World => w5
   have HG := hid hg
   have ST5 := hid st
   clear hg st z0 z1 z2 zl
   by_cases hlt : i < D.length
   ·have hni : (i : Int) < (D.length : Int) := by omega
    have hn0 : (0 : Int) ≤ (i : Int) := by omega
    have h12 : (D.length : Int) ≤ 12 := by have := H12.out; omega
    have hltz : i < zs0.length := by rw [HLD.out]; exact hlt
    have hzd : (zs0[i]'hltz).1 = D[i]'hlt := by
     have := HZL.out
     subst this
     simp
    have OI := hid (HZE.out _ (List.getElem_mem hltz))
    obtain ⟨gD, rfl⟩ := OwnL.some' HZO.out (by intro e; rw [e] at hltz; simp at hltz)
    obtain ⟨q0, _, gl⟩ := OwnL.cell HZO.out i 0 (.string ⟨((zs0[i]'hltz).1.loc).toArray⟩) hltz rfl
    obtain ⟨q1, _, _⟩ := OwnL.cell HZO.out i 1 (.bool (zs0[i]'hltz).1.supp) hltz rfl
    obtain ⟨q2, _, _⟩ := OwnL.cell HZO.out i 2 (.slice (zs0[i]'hltz).2.1 (zs0[i]'hltz).1.items.length (zs0[i]'hltz).2.2) hltz rfl
    have HEQ := hid hzd
    have HL4 := hid (show (zs0[i]'hltz).1.items.length ≤ 40 by rw [hzd]; exact H40.out _ (List.getElem_mem hlt))
    have HIL := hid hlt
    generalize zs0[i]'hltz = z at *
    obtain ⟨⟨loc, supp, its⟩, a, c⟩ := z
    simp only at q0 q1 q2 OI HEQ HL4
    rw [Nat.add_zero] at q0
    obtain ⟨hk1, hk2⟩ := kOf_spec at' its.length
    obtain ⟨kk, hkk⟩ : ∃ kk, kk = kOf at' its.length := ⟨_, rfl⟩
    have HKK := hid hkk
    rw [← hkk] at hk1 hk2
    have r0 := (ST5.out.bel.cell (p := ⟨gD, i * 3, none⟩) gl).trans q0
    have r1 := (ST5.out.bel.cell (p := ⟨gD, i * 3 + 1, none⟩) gl).trans q1
    have r2 := (ST5.out.bel.cell (p := ⟨gD, i * 3 + 2, none⟩) gl).trans q2
    have hp2 : gD < w5.heap.size := Nat.lt_of_lt_of_le gl ST5.out.bel.size
    clear q0 q1 q2 hzd hltz hkk gl
    have HA5 := hid (show Below w5.heap.size w5 (w5.alloc (.cells #[.string ⟨loc.toArray⟩, .bool supp, .slice a its.length c] 27)) from (Below.refl _ _).alloc (Nat.le_refl _) _)
    have F6 := hid (heap_alloc_new w5 (.cells #[.string ⟨loc.toArray⟩, .bool supp, .slice a its.length c] 27))
    go_upto_region 11 with fail
    generalize w5.alloc (.cells #[.string ⟨loc.toArray⟩, .bool supp, .slice a its.length c] 27) = w6 at *
    have ST6 := hid (ST5.out.below HA5.out)
    generalize w5.heap.size = Db at *
    obtain ⟨d0, d1, d2, dl⟩ := box3_cells F6.out
    have hl40 : (its.length : Int) ≤ 40 := by have := HL4.out; omega
    have hl0 : (0 : Int) ≤ (its.length : Int) := by omega
    have hkz : (kk : Int) ≤ (its.length : Int) := by omega
    have hk0 : (0 : Int) ≤ (kk : Int) := by omega
    have hkn : ¬ ((its.length : Int) + 1 = 0) := by omega
    have hw1 := wrap_small ((its.length : Int) + 1) (by omega) (by omega)
    have hw2 := wrap_small (kk : Int) (by omega) (by omega)
    clear r0 r1 r2 hp2 ST5 HA5
    go_upto_region 12 with fail
    obtain ⟨dv, hdv⟩ : ∃ dv : Obj, dv = .cells #[.string ⟨loc.toArray⟩, .bool supp, .slice a its.length c] 27 := ⟨_, rfl⟩
    have HA7 := hid (show Below w6.heap.size w6 ((w6.alloc (.cells #[.string ⟨loc.toArray⟩, .bool supp, .slice a its.length c] 27)).alloc (.cells #[.string ⟨loc.toArray⟩, .bool supp, .slice a its.length c] 27)).drew from (below2 w6 _ _).drew)
    have G7 := hid (show ((w6.alloc (.cells #[.string ⟨loc.toArray⟩, .bool supp, .slice a its.length c] 27)).alloc (.cells #[.string ⟨loc.toArray⟩, .bool supp, .slice a its.length c] 27)).drew.heap[w6.heap.size]? = some (.cells #[.string ⟨loc.toArray⟩, .bool supp, .slice a its.length c] 27 (0, 0)) from (Below.heap_alloc _ _ _ (lt_of_block (heap_alloc_new w6 _))).trans (heap_alloc_new w6 _))
    have H7 := hid (show ((w6.alloc (.cells #[.string ⟨loc.toArray⟩, .bool supp, .slice a its.length c] 27)).alloc (.cells #[.string ⟨loc.toArray⟩, .bool supp, .slice a its.length c] 27)).drew.heap[w6.heap.size + 1]? = some (.cells #[.string ⟨loc.toArray⟩, .bool supp, .slice a its.length c] 27 (0, 0)) from by
     have := heap_alloc_new (w6.alloc (.cells #[.string ⟨loc.toArray⟩, .bool supp, .slice a its.length c] 27)) (.cells #[.string ⟨loc.toArray⟩, .bool supp, .slice a its.length c] 27)
     rw [show (w6.alloc (.cells #[.string ⟨loc.toArray⟩, .bool supp, .slice a its.length c] 27)).heap.size = w6.heap.size + 1 by simp] at this
     exact this)
    clear hdv
    have n1 : ¬ Db = w6.heap.size := by have := lt_of_block F6.out; omega
    have n2 : ¬ w6.heap.size = Db := by have := lt_of_block F6.out; omega
    have n3 : ¬ Db = w6.heap.size + 1 := by have := lt_of_block F6.out; omega
    have n4 : ¬ w6.heap.size + 1 = Db := by have := lt_of_block F6.out; omega
    have n5 : ¬ w6.heap.size + 1 = w6.heap.size := by omega
    have n6 : ¬ w6.heap.size = w6.heap.size + 1 := by omega
    go_region
    ·generalize ((w6.alloc (.cells #[.string ⟨loc.toArray⟩, .bool supp, .slice a its.length c] 27)).alloc (.cells #[.string ⟨loc.toArray⟩, .bool supp, .slice a its.length c] 27)).drew = w7 at *
     have ST7 := hid (ST6.out.below HA7.out)
     have F7 := hid ((HA7.out.block _ (lt_of_block F6.out)).trans F6.out)
     have HZ6 := hid ST6.out.bel.size
     have HLT := hid (fun k (e : u7.ownBlock = some k) => (World.ownsRow.lt ST6.out.own k e).2)
     generalize hAb : w6.heap.size = Ab at *
     generalize hBb : Ab + 1 = Bb at *
     have HAB := hid hBb
     clear hAb hBb
     clear ST6 HA7 F6 d0 d1 d2 dl
     obtain ⟨d0, d1, d2, dl⟩ := box3_cells F7.out
     obtain ⟨g0, g1, g2, gl2⟩ := box3_cells G7.out
     obtain ⟨h0, h1, h2, hl2⟩ := box3_cells H7.out
     obtain ⟨gf0, gf1, gf2⟩ := box3_frozen G7.out
     obtain ⟨hf0, hf1, hf2⟩ := box3_frozen H7.out
     rcases own_drop OI.out kk hk2 with ⟨a', c', hrd, hcase⟩
     have HRD := hid hrd
     have HRT := hid (show RdL encI w4 (.slice a (its.take kk).length c) (its.take kk) from by
      have h := (OwnL.rd OI.out).take kk hk2
      rw [List.length_take, Nat.min_eq_left hk2]; exact h)
     have HTL := hid (show (its.take kk).length = kk by rw [List.length_take]; omega)
     have HDL := hid (show (its.drop kk).length = its.length - kk by rw [List.length_drop])
     clear hrd
     rcases hcase with ⟨rfl, hkz0, hie, rfl, rfl, rfl⟩ | ⟨g, rfl, hlc, (⟨hck, hkl, rfl, rfl⟩ | ⟨hck, rfl, rfl⟩)⟩
     ·subst hkz0 hie
      go_upto_region 13 with fail
      go_region_held3 (fun W => W.cell? ⟨Db, 2, none⟩ = some (.slice none ([] : List Itm).length 0)) (first | with_reducible assumption | go_keep) (fail)
      obtain ⟨qa, qb⟩ := two_set G7.out H7.out n6 (.slice none 0 0) (.slice none 0 0)
      have A8 := hid (show ((w7.setCell ⟨Ab, 2, none⟩ (.slice none 0 0)).setCell ⟨Bb, 2, none⟩ (.slice none 0 0)).drew.heap[Ab]? = some (.cells #[.string ⟨loc.toArray⟩, .bool supp, .slice none 0 0] 27 (0, 0)) by rw [heap_drewW]; exact qa)
      have B8 := hid (show ((w7.setCell ⟨Ab, 2, none⟩ (.slice none 0 0)).setCell ⟨Bb, 2, none⟩ (.slice none 0 0)).drew.heap[Bb]? = some (.cells #[.string ⟨loc.toArray⟩, .bool supp, .slice none 0 0] 27 (0, 0)) by rw [heap_drewW]; exact qb)
      have ST8 := hid ((ST7.out.set2 (A := Ab) (B := Bb) (fun k e => by have := HLT.out _ e; have := HAB.out; omega) (fun k e => by have := HLT.out _ e; have := HAB.out; omega) (by have := HZ6.out; have := HAB.out; omega) (by have := HZ6.out; have := HAB.out; omega) (.slice none 0 0) (.slice none 0 0)).drew)
      clear qa qb d0 d1 d2 dl g0 g1 g2 gl2 h0 h1 h2 hl2 gf0 gf1 gf2 hf0 hf1 hf2 ST7 F7 G7 H7 n1 n2 n3 n4 n5 n6
      generalize ((w7.setCell ⟨Ab, 2, none⟩ (.slice none 0 0)).setCell ⟨Bb, 2, none⟩ (.slice none 0 0)).drew = w8 at *
      obtain ⟨g0, g1, g2, gl2⟩ := box3_cells A8.out
      obtain ⟨h0, h1, h2, hl2⟩ := box3_cells B8.out
      have HRw := hid (show RdL encD (w8.alloc (.cells #[.string ⟨loc.toArray⟩, .bool supp, .slice none 0 0, .string ⟨loc.toArray⟩, .bool supp, .slice none 0 0] 27)) (.slice (some ⟨w8.heap.size, 0, none⟩) 2 2) [((⟨loc, supp, ([] : List Itm)⟩ : Dc), (((none : Option Addr), 0))), ((⟨loc, supp, ([] : List Itm)⟩ : Dc), (((none : Option Addr), 0)))] from RdL.of_row (l := [((⟨loc, supp, ([] : List Itm)⟩ : Dc), (((none : Option Addr), 0))), ((⟨loc, supp, ([] : List Itm)⟩ : Dc), (((none : Option Addr), 0)))]) (cp := 2) encD (heap_alloc_new w8 _) (by first | rfl | simp [flatL, encD, HTL.out, HDL.out]) (by simp) (by simp))
      have ST9 := hid (ST8.out.below (show Below w8.heap.size w8 (w8.alloc (.cells #[.string ⟨loc.toArray⟩, .bool supp, .slice none 0 0, .string ⟨loc.toArray⟩, .bool supp, .slice none 0 0] 27)) from (Below.refl _ _).alloc (Nat.le_refl _) _))
      have HBZ := hid ST9.out.bel.size
      have HLZ := hid (show zs.length ≤ 24 by rw [ST9.out.len hi]; have := H12.out; omega)
      have HX := hid (show RdL encI w4 (.slice (((none : Option Addr), 0)).1 (([] : List Itm)).length (((none : Option Addr), 0)).2) (([] : List Itm)) from RdL.nil encI w4)
      have HY := hid (show RdL encI w4 (.slice (((none : Option Addr), 0)).1 (([] : List Itm)).length (((none : Option Addr), 0)).2) (([] : List Itm)) from RdL.nil encI w4)
      have HE2 := hid (show [(⟨loc, supp, ([] : List Itm)⟩ : Dc), (⟨loc, supp, ([] : List Itm)⟩ : Dc)] = twoD (kOf at') (D[i]'HIL.out) from by rw [← HEQ.out]; simp [twoD, ← HKK.out])
      go_wp2_with (at_builtin; refine wpList_appL (E := encD) rfl (.tmp 70) (.tmp 73) rfl Tryz.underlying23 infoDoc' rfl (by decide) w4.heap.size _ zs [((⟨loc, supp, ([] : List Itm)⟩ : Dc), (((none : Option Addr), 0))), ((⟨loc, supp, ([] : List Itm)⟩ : Dc), (((none : Option Addr), 0)))] rfl ST9.out.own rfl HRw.out (by have := HLZ.out; unfold maxLen; simp; omega) (by have := HLZ.out; simp; omega) HBZ.out ?_; intro v9 w9 own9 gr9; have STa := hid (ST9.out.push (x := ((⟨loc, supp, ([] : List Itm)⟩ : Dc), (((none : Option Addr), 0)))) (y := ((⟨loc, supp, ([] : List Itm)⟩ : Dc), (((none : Option Addr), 0)))) HIL.out HE2.out HX.out HY.out own9 gr9); clear own9 gr9)
      go_roundg (gk - 1)
      case measure => have := HG.out; omega
      case rel => exact ⟨i + 1, _, by omega, by have := HG.out; omega, by simp, STa.out⟩
     ·subst hkl
      subst hck
      go_upto_region 13 with fail
      go_region_held3 (fun W => W.cell? ⟨Db, 2, none⟩ = some (.slice (some ⟨g, 0, none⟩) its.length its.length)) (first | with_reducible assumption | go_keep) (fail)
      obtain ⟨qa, qb⟩ := two_set G7.out H7.out n6 (.slice (some ⟨g, 0, none⟩) its.length its.length) (.slice (some ⟨g, 0, none⟩) 0 0)
      have A8 := hid (show ((w7.setCell ⟨Ab, 2, none⟩ (.slice (some ⟨g, 0, none⟩) its.length its.length)).setCell ⟨Bb, 2, none⟩ (.slice (some ⟨g, 0, none⟩) 0 0)).drew.heap[Ab]? = some (.cells #[.string ⟨loc.toArray⟩, .bool supp, .slice (some ⟨g, 0, none⟩) its.length its.length] 27 (0, 0)) by rw [heap_drewW]; exact qa)
      have B8 := hid (show ((w7.setCell ⟨Ab, 2, none⟩ (.slice (some ⟨g, 0, none⟩) its.length its.length)).setCell ⟨Bb, 2, none⟩ (.slice (some ⟨g, 0, none⟩) 0 0)).drew.heap[Bb]? = some (.cells #[.string ⟨loc.toArray⟩, .bool supp, .slice (some ⟨g, 0, none⟩) 0 0] 27 (0, 0)) by rw [heap_drewW]; exact qb)
      have ST8 := hid ((ST7.out.set2 (A := Ab) (B := Bb) (fun k e => by have := HLT.out _ e; have := HAB.out; omega) (fun k e => by have := HLT.out _ e; have := HAB.out; omega) (by have := HZ6.out; have := HAB.out; omega) (by have := HZ6.out; have := HAB.out; omega) (.slice (some ⟨g, 0, none⟩) its.length its.length) (.slice (some ⟨g, 0, none⟩) 0 0)).drew)
      clear qa qb d0 d1 d2 dl g0 g1 g2 gl2 h0 h1 h2 hl2 gf0 gf1 gf2 hf0 hf1 hf2 ST7 F7 G7 H7 n1 n2 n3 n4 n5 n6
      generalize ((w7.setCell ⟨Ab, 2, none⟩ (.slice (some ⟨g, 0, none⟩) its.length its.length)).setCell ⟨Bb, 2, none⟩ (.slice (some ⟨g, 0, none⟩) 0 0)).drew = w8 at *
      obtain ⟨g0, g1, g2, gl2⟩ := box3_cells A8.out
      obtain ⟨h0, h1, h2, hl2⟩ := box3_cells B8.out
      have HRw := hid (show RdL encD (w8.alloc (.cells #[.string ⟨loc.toArray⟩, .bool supp, .slice (some ⟨g, 0, none⟩) its.length its.length, .string ⟨loc.toArray⟩, .bool supp, .slice (some ⟨g, 0, none⟩) 0 0] 27)) (.slice (some ⟨w8.heap.size, 0, none⟩) 2 2) [((⟨loc, supp, its⟩ : Dc), ((some (⟨g, 0, none⟩ : Addr), its.length))), ((⟨loc, supp, ([] : List Itm)⟩ : Dc), ((some (⟨g, 0, none⟩ : Addr), 0)))] from RdL.of_row (l := [((⟨loc, supp, its⟩ : Dc), ((some (⟨g, 0, none⟩ : Addr), its.length))), ((⟨loc, supp, ([] : List Itm)⟩ : Dc), ((some (⟨g, 0, none⟩ : Addr), 0)))]) (cp := 2) encD (heap_alloc_new w8 _) (by first | rfl | simp [flatL, encD, HTL.out, HDL.out]) (by simp) (by simp))
      have ST9 := hid (ST8.out.below (show Below w8.heap.size w8 (w8.alloc (.cells #[.string ⟨loc.toArray⟩, .bool supp, .slice (some ⟨g, 0, none⟩) its.length its.length, .string ⟨loc.toArray⟩, .bool supp, .slice (some ⟨g, 0, none⟩) 0 0] 27)) from (Below.refl _ _).alloc (Nat.le_refl _) _))
      have HBZ := hid ST9.out.bel.size
      have HLZ := hid (show zs.length ≤ 24 by rw [ST9.out.len hi]; have := H12.out; omega)
      have HX := hid (show RdL encI w4 (.slice ((some (⟨g, 0, none⟩ : Addr), its.length)).1 (its).length ((some (⟨g, 0, none⟩ : Addr), its.length)).2) (its) from by have := HRT.out; rw [List.take_length] at this; exact this)
      have HY := hid (show RdL encI w4 (.slice ((some (⟨g, 0, none⟩ : Addr), 0)).1 (([] : List Itm)).length ((some (⟨g, 0, none⟩ : Addr), 0)).2) (([] : List Itm)) from by have := HRD.out; rw [List.drop_length] at this; exact this)
      have HE2 := hid (show [(⟨loc, supp, its⟩ : Dc), (⟨loc, supp, ([] : List Itm)⟩ : Dc)] = twoD (kOf at') (D[i]'HIL.out) from by rw [← HEQ.out]; simp [twoD, ← HKK.out])
      go_wp2_with (at_builtin; refine wpList_appL (E := encD) rfl (.tmp 70) (.tmp 73) rfl Tryz.underlying23 infoDoc' rfl (by decide) w4.heap.size _ zs [((⟨loc, supp, its⟩ : Dc), ((some (⟨g, 0, none⟩ : Addr), its.length))), ((⟨loc, supp, ([] : List Itm)⟩ : Dc), ((some (⟨g, 0, none⟩ : Addr), 0)))] rfl ST9.out.own rfl HRw.out (by have := HLZ.out; unfold maxLen; simp; omega) (by have := HLZ.out; simp; omega) HBZ.out ?_; intro v9 w9 own9 gr9; have STa := hid (ST9.out.push (x := ((⟨loc, supp, its⟩ : Dc), ((some (⟨g, 0, none⟩ : Addr), its.length)))) (y := ((⟨loc, supp, ([] : List Itm)⟩ : Dc), ((some (⟨g, 0, none⟩ : Addr), 0)))) HIL.out HE2.out HX.out HY.out own9 gr9); clear own9 gr9)
      go_roundg (gk - 1)
      case measure => have := HG.out; omega
      case rel => exact ⟨i + 1, _, by omega, by have := HG.out; omega, by simp, STa.out⟩
     ·have hci : ¬ (c : Int) = (kk : Int) := by omega
      have hcz : (kk : Int) ≤ (c : Int) := by omega
      go_upto_region 13 with fail
      go_region_held3 (fun W => W.cell? ⟨Db, 2, none⟩ = some (.slice (some ⟨g, 0, none⟩) its.length c)) (first | with_reducible assumption | go_keep) (fail)
      obtain ⟨qa, qb⟩ := two_set G7.out H7.out n6 (.slice (some ⟨g, 0, none⟩) kk c) (.slice (some ⟨g, kk * 5, none⟩) (its.length - kk) (c - kk))
      have A8 := hid (show ((w7.setCell ⟨Ab, 2, none⟩ (.slice (some ⟨g, 0, none⟩) kk c)).setCell ⟨Bb, 2, none⟩ (.slice (some ⟨g, kk * 5, none⟩) (its.length - kk) (c - kk))).drew.heap[Ab]? = some (.cells #[.string ⟨loc.toArray⟩, .bool supp, .slice (some ⟨g, 0, none⟩) kk c] 27 (0, 0)) by rw [heap_drewW]; exact qa)
      have B8 := hid (show ((w7.setCell ⟨Ab, 2, none⟩ (.slice (some ⟨g, 0, none⟩) kk c)).setCell ⟨Bb, 2, none⟩ (.slice (some ⟨g, kk * 5, none⟩) (its.length - kk) (c - kk))).drew.heap[Bb]? = some (.cells #[.string ⟨loc.toArray⟩, .bool supp, .slice (some ⟨g, kk * 5, none⟩) (its.length - kk) (c - kk)] 27 (0, 0)) by rw [heap_drewW]; exact qb)
      have ST8 := hid ((ST7.out.set2 (A := Ab) (B := Bb) (fun k e => by have := HLT.out _ e; have := HAB.out; omega) (fun k e => by have := HLT.out _ e; have := HAB.out; omega) (by have := HZ6.out; have := HAB.out; omega) (by have := HZ6.out; have := HAB.out; omega) (.slice (some ⟨g, 0, none⟩) kk c) (.slice (some ⟨g, kk * 5, none⟩) (its.length - kk) (c - kk))).drew)
      clear qa qb d0 d1 d2 dl g0 g1 g2 gl2 h0 h1 h2 hl2 gf0 gf1 gf2 hf0 hf1 hf2 ST7 F7 G7 H7 n1 n2 n3 n4 n5 n6
      generalize ((w7.setCell ⟨Ab, 2, none⟩ (.slice (some ⟨g, 0, none⟩) kk c)).setCell ⟨Bb, 2, none⟩ (.slice (some ⟨g, kk * 5, none⟩) (its.length - kk) (c - kk))).drew = w8 at *
      obtain ⟨g0, g1, g2, gl2⟩ := box3_cells A8.out
      obtain ⟨h0, h1, h2, hl2⟩ := box3_cells B8.out
      have HRw := hid (show RdL encD (w8.alloc (.cells #[.string ⟨loc.toArray⟩, .bool supp, .slice (some ⟨g, 0, none⟩) kk c, .string ⟨loc.toArray⟩, .bool supp, .slice (some ⟨g, kk * 5, none⟩) (its.length - kk) (c - kk)] 27)) (.slice (some ⟨w8.heap.size, 0, none⟩) 2 2) [((⟨loc, supp, (its.take kk)⟩ : Dc), ((some (⟨g, 0, none⟩ : Addr), c))), ((⟨loc, supp, (its.drop kk)⟩ : Dc), ((some (⟨g, kk * 5, none⟩ : Addr), c - kk)))] from RdL.of_row (l := [((⟨loc, supp, (its.take kk)⟩ : Dc), ((some (⟨g, 0, none⟩ : Addr), c))), ((⟨loc, supp, (its.drop kk)⟩ : Dc), ((some (⟨g, kk * 5, none⟩ : Addr), c - kk)))]) (cp := 2) encD (heap_alloc_new w8 _) (by first | rfl | simp [flatL, encD, HTL.out, HDL.out]) (by simp) (by simp))
      have ST9 := hid (ST8.out.below (show Below w8.heap.size w8 (w8.alloc (.cells #[.string ⟨loc.toArray⟩, .bool supp, .slice (some ⟨g, 0, none⟩) kk c, .string ⟨loc.toArray⟩, .bool supp, .slice (some ⟨g, kk * 5, none⟩) (its.length - kk) (c - kk)] 27)) from (Below.refl _ _).alloc (Nat.le_refl _) _))
      have HBZ := hid ST9.out.bel.size
      have HLZ := hid (show zs.length ≤ 24 by rw [ST9.out.len hi]; have := H12.out; omega)
      have HX := hid (show RdL encI w4 (.slice ((some (⟨g, 0, none⟩ : Addr), c)).1 ((its.take kk)).length ((some (⟨g, 0, none⟩ : Addr), c)).2) ((its.take kk)) from HRT.out)
      have HY := hid (show RdL encI w4 (.slice ((some (⟨g, kk * 5, none⟩ : Addr), c - kk)).1 ((its.drop kk)).length ((some (⟨g, kk * 5, none⟩ : Addr), c - kk)).2) ((its.drop kk)) from HRD.out)
      have HE2 := hid (show [(⟨loc, supp, (its.take kk)⟩ : Dc), (⟨loc, supp, (its.drop kk)⟩ : Dc)] = twoD (kOf at') (D[i]'HIL.out) from by rw [← HEQ.out]; simp [twoD, ← HKK.out])
      go_wp2_with (at_builtin; refine wpList_appL (E := encD) rfl (.tmp 70) (.tmp 73) rfl Tryz.underlying23 infoDoc' rfl (by decide) w4.heap.size _ zs [((⟨loc, supp, (its.take kk)⟩ : Dc), ((some (⟨g, 0, none⟩ : Addr), c))), ((⟨loc, supp, (its.drop kk)⟩ : Dc), ((some (⟨g, kk * 5, none⟩ : Addr), c - kk)))] rfl ST9.out.own rfl HRw.out (by have := HLZ.out; unfold maxLen; simp; omega) (by have := HLZ.out; simp; omega) HBZ.out ?_; intro v9 w9 own9 gr9; have STa := hid (ST9.out.push (x := ((⟨loc, supp, (its.take kk)⟩ : Dc), ((some (⟨g, 0, none⟩ : Addr), c)))) (y := ((⟨loc, supp, (its.drop kk)⟩ : Dc), ((some (⟨g, kk * 5, none⟩ : Addr), c - kk)))) HIL.out HE2.out HX.out HY.out own9 gr9); clear own9 gr9)
      go_roundg (gk - 1)
      case measure => have := HG.out; omega
      case rel => exact ⟨i + 1, _, by omega, by have := HG.out; omega, by simp, STa.out⟩
    ·generalize ((w6.alloc (.cells #[.string ⟨loc.toArray⟩, .bool supp, .slice a its.length c] 27)).alloc (.cells #[.string ⟨loc.toArray⟩, .bool supp, .slice a its.length c] 27)).drew = w7 at *
     have ST7 := hid (ST6.out.below HA7.out)
     have F7 := hid ((HA7.out.block _ (lt_of_block F6.out)).trans F6.out)
     have HZ6 := hid ST6.out.bel.size
     have HLT := hid (fun k (e : u7.ownBlock = some k) => (World.ownsRow.lt ST6.out.own k e).2)
     generalize hAb : w6.heap.size = Ab at *
     generalize hBb : Ab + 1 = Bb at *
     have HAB := hid hBb
     clear hAb hBb
     clear ST6 HA7 F6 d0 d1 d2 dl
     obtain ⟨d0, d1, d2, dl⟩ := box3_cells F7.out
     obtain ⟨g0, g1, g2, gl2⟩ := box3_cells G7.out
     obtain ⟨h0, h1, h2, hl2⟩ := box3_cells H7.out
     obtain ⟨gf0, gf1, gf2⟩ := box3_frozen G7.out
     obtain ⟨hf0, hf1, hf2⟩ := box3_frozen H7.out
     rcases own_drop OI.out kk hk2 with ⟨a', c', hrd, hcase⟩
     have HRD := hid hrd
     have HRT := hid (show RdL encI w4 (.slice a (its.take kk).length c) (its.take kk) from by
      have h := (OwnL.rd OI.out).take kk hk2
      rw [List.length_take, Nat.min_eq_left hk2]; exact h)
     have HTL := hid (show (its.take kk).length = kk by rw [List.length_take]; omega)
     have HDL := hid (show (its.drop kk).length = its.length - kk by rw [List.length_drop])
     clear hrd
     rcases hcase with ⟨rfl, hkz0, hie, rfl, rfl, rfl⟩ | ⟨g, rfl, hlc, (⟨hck, hkl, rfl, rfl⟩ | ⟨hck, rfl, rfl⟩)⟩
     ·subst hkz0 hie
      go_upto_region 13 with fail
      go_region_held3 (fun W => W.cell? ⟨Db, 2, none⟩ = some (.slice none ([] : List Itm).length 0)) (first | with_reducible assumption | go_keep) (fail)
      obtain ⟨qa, qb⟩ := two_set H7.out G7.out n5 (.slice none 0 0) (.slice none 0 0)
      have A8 := hid (show ((w7.setCell ⟨Bb, 2, none⟩ (.slice none 0 0)).setCell ⟨Ab, 2, none⟩ (.slice none 0 0)).drew.heap[Bb]? = some (.cells #[.string ⟨loc.toArray⟩, .bool supp, .slice none 0 0] 27 (0, 0)) by rw [heap_drewW]; exact qa)
      have B8 := hid (show ((w7.setCell ⟨Bb, 2, none⟩ (.slice none 0 0)).setCell ⟨Ab, 2, none⟩ (.slice none 0 0)).drew.heap[Ab]? = some (.cells #[.string ⟨loc.toArray⟩, .bool supp, .slice none 0 0] 27 (0, 0)) by rw [heap_drewW]; exact qb)
      have ST8 := hid ((ST7.out.set2 (A := Bb) (B := Ab) (fun k e => by have := HLT.out _ e; have := HAB.out; omega) (fun k e => by have := HLT.out _ e; have := HAB.out; omega) (by have := HZ6.out; have := HAB.out; omega) (by have := HZ6.out; have := HAB.out; omega) (.slice none 0 0) (.slice none 0 0)).drew)
      clear qa qb d0 d1 d2 dl g0 g1 g2 gl2 h0 h1 h2 hl2 gf0 gf1 gf2 hf0 hf1 hf2 ST7 F7 G7 H7 n1 n2 n3 n4 n5 n6
      generalize ((w7.setCell ⟨Bb, 2, none⟩ (.slice none 0 0)).setCell ⟨Ab, 2, none⟩ (.slice none 0 0)).drew = w8 at *
      obtain ⟨g0, g1, g2, gl2⟩ := box3_cells A8.out
      obtain ⟨h0, h1, h2, hl2⟩ := box3_cells B8.out
      have HRw := hid (show RdL encD (w8.alloc (.cells #[.string ⟨loc.toArray⟩, .bool supp, .slice none 0 0, .string ⟨loc.toArray⟩, .bool supp, .slice none 0 0] 27)) (.slice (some ⟨w8.heap.size, 0, none⟩) 2 2) [((⟨loc, supp, ([] : List Itm)⟩ : Dc), (((none : Option Addr), 0))), ((⟨loc, supp, ([] : List Itm)⟩ : Dc), (((none : Option Addr), 0)))] from RdL.of_row (l := [((⟨loc, supp, ([] : List Itm)⟩ : Dc), (((none : Option Addr), 0))), ((⟨loc, supp, ([] : List Itm)⟩ : Dc), (((none : Option Addr), 0)))]) (cp := 2) encD (heap_alloc_new w8 _) (by first | rfl | simp [flatL, encD, HTL.out, HDL.out]) (by simp) (by simp))
      have ST9 := hid (ST8.out.below (show Below w8.heap.size w8 (w8.alloc (.cells #[.string ⟨loc.toArray⟩, .bool supp, .slice none 0 0, .string ⟨loc.toArray⟩, .bool supp, .slice none 0 0] 27)) from (Below.refl _ _).alloc (Nat.le_refl _) _))
      have HBZ := hid ST9.out.bel.size
      have HLZ := hid (show zs.length ≤ 24 by rw [ST9.out.len hi]; have := H12.out; omega)
      have HX := hid (show RdL encI w4 (.slice (((none : Option Addr), 0)).1 (([] : List Itm)).length (((none : Option Addr), 0)).2) (([] : List Itm)) from RdL.nil encI w4)
      have HY := hid (show RdL encI w4 (.slice (((none : Option Addr), 0)).1 (([] : List Itm)).length (((none : Option Addr), 0)).2) (([] : List Itm)) from RdL.nil encI w4)
      have HE2 := hid (show [(⟨loc, supp, ([] : List Itm)⟩ : Dc), (⟨loc, supp, ([] : List Itm)⟩ : Dc)] = twoD (kOf at') (D[i]'HIL.out) from by rw [← HEQ.out]; simp [twoD, ← HKK.out])
      go_wp2_with (at_builtin; refine wpList_appL (E := encD) rfl (.tmp 70) (.tmp 73) rfl Tryz.underlying23 infoDoc' rfl (by decide) w4.heap.size _ zs [((⟨loc, supp, ([] : List Itm)⟩ : Dc), (((none : Option Addr), 0))), ((⟨loc, supp, ([] : List Itm)⟩ : Dc), (((none : Option Addr), 0)))] rfl ST9.out.own rfl HRw.out (by have := HLZ.out; unfold maxLen; simp; omega) (by have := HLZ.out; simp; omega) HBZ.out ?_; intro v9 w9 own9 gr9; have STa := hid (ST9.out.push (x := ((⟨loc, supp, ([] : List Itm)⟩ : Dc), (((none : Option Addr), 0)))) (y := ((⟨loc, supp, ([] : List Itm)⟩ : Dc), (((none : Option Addr), 0)))) HIL.out HE2.out HX.out HY.out own9 gr9); clear own9 gr9)
      go_roundg (gk - 1)
      case measure => have := HG.out; omega
      case rel => exact ⟨i + 1, _, by omega, by have := HG.out; omega, by simp, STa.out⟩
     ·subst hkl
      subst hck
      go_upto_region 13 with fail
      go_region_held3 (fun W => W.cell? ⟨Db, 2, none⟩ = some (.slice (some ⟨g, 0, none⟩) its.length its.length)) (first | with_reducible assumption | go_keep) (fail)
      obtain ⟨qa, qb⟩ := two_set H7.out G7.out n5 (.slice (some ⟨g, 0, none⟩) its.length its.length) (.slice (some ⟨g, 0, none⟩) 0 0)
      have A8 := hid (show ((w7.setCell ⟨Bb, 2, none⟩ (.slice (some ⟨g, 0, none⟩) its.length its.length)).setCell ⟨Ab, 2, none⟩ (.slice (some ⟨g, 0, none⟩) 0 0)).drew.heap[Bb]? = some (.cells #[.string ⟨loc.toArray⟩, .bool supp, .slice (some ⟨g, 0, none⟩) its.length its.length] 27 (0, 0)) by rw [heap_drewW]; exact qa)
      have B8 := hid (show ((w7.setCell ⟨Bb, 2, none⟩ (.slice (some ⟨g, 0, none⟩) its.length its.length)).setCell ⟨Ab, 2, none⟩ (.slice (some ⟨g, 0, none⟩) 0 0)).drew.heap[Ab]? = some (.cells #[.string ⟨loc.toArray⟩, .bool supp, .slice (some ⟨g, 0, none⟩) 0 0] 27 (0, 0)) by rw [heap_drewW]; exact qb)
      have ST8 := hid ((ST7.out.set2 (A := Bb) (B := Ab) (fun k e => by have := HLT.out _ e; have := HAB.out; omega) (fun k e => by have := HLT.out _ e; have := HAB.out; omega) (by have := HZ6.out; have := HAB.out; omega) (by have := HZ6.out; have := HAB.out; omega) (.slice (some ⟨g, 0, none⟩) its.length its.length) (.slice (some ⟨g, 0, none⟩) 0 0)).drew)
      clear qa qb d0 d1 d2 dl g0 g1 g2 gl2 h0 h1 h2 hl2 gf0 gf1 gf2 hf0 hf1 hf2 ST7 F7 G7 H7 n1 n2 n3 n4 n5 n6
      generalize ((w7.setCell ⟨Bb, 2, none⟩ (.slice (some ⟨g, 0, none⟩) its.length its.length)).setCell ⟨Ab, 2, none⟩ (.slice (some ⟨g, 0, none⟩) 0 0)).drew = w8 at *
      obtain ⟨g0, g1, g2, gl2⟩ := box3_cells A8.out
      obtain ⟨h0, h1, h2, hl2⟩ := box3_cells B8.out
      have HRw := hid (show RdL encD (w8.alloc (.cells #[.string ⟨loc.toArray⟩, .bool supp, .slice (some ⟨g, 0, none⟩) its.length its.length, .string ⟨loc.toArray⟩, .bool supp, .slice (some ⟨g, 0, none⟩) 0 0] 27)) (.slice (some ⟨w8.heap.size, 0, none⟩) 2 2) [((⟨loc, supp, its⟩ : Dc), ((some (⟨g, 0, none⟩ : Addr), its.length))), ((⟨loc, supp, ([] : List Itm)⟩ : Dc), ((some (⟨g, 0, none⟩ : Addr), 0)))] from RdL.of_row (l := [((⟨loc, supp, its⟩ : Dc), ((some (⟨g, 0, none⟩ : Addr), its.length))), ((⟨loc, supp, ([] : List Itm)⟩ : Dc), ((some (⟨g, 0, none⟩ : Addr), 0)))]) (cp := 2) encD (heap_alloc_new w8 _) (by first | rfl | simp [flatL, encD, HTL.out, HDL.out]) (by simp) (by simp))
      have ST9 := hid (ST8.out.below (show Below w8.heap.size w8 (w8.alloc (.cells #[.string ⟨loc.toArray⟩, .bool supp, .slice (some ⟨g, 0, none⟩) its.length its.length, .string ⟨loc.toArray⟩, .bool supp, .slice (some ⟨g, 0, none⟩) 0 0] 27)) from (Below.refl _ _).alloc (Nat.le_refl _) _))
      have HBZ := hid ST9.out.bel.size
      have HLZ := hid (show zs.length ≤ 24 by rw [ST9.out.len hi]; have := H12.out; omega)
      have HX := hid (show RdL encI w4 (.slice ((some (⟨g, 0, none⟩ : Addr), its.length)).1 (its).length ((some (⟨g, 0, none⟩ : Addr), its.length)).2) (its) from by have := HRT.out; rw [List.take_length] at this; exact this)
      have HY := hid (show RdL encI w4 (.slice ((some (⟨g, 0, none⟩ : Addr), 0)).1 (([] : List Itm)).length ((some (⟨g, 0, none⟩ : Addr), 0)).2) (([] : List Itm)) from by have := HRD.out; rw [List.drop_length] at this; exact this)
      have HE2 := hid (show [(⟨loc, supp, its⟩ : Dc), (⟨loc, supp, ([] : List Itm)⟩ : Dc)] = twoD (kOf at') (D[i]'HIL.out) from by rw [← HEQ.out]; simp [twoD, ← HKK.out])
      go_wp2_with (at_builtin; refine wpList_appL (E := encD) rfl (.tmp 70) (.tmp 73) rfl Tryz.underlying23 infoDoc' rfl (by decide) w4.heap.size _ zs [((⟨loc, supp, its⟩ : Dc), ((some (⟨g, 0, none⟩ : Addr), its.length))), ((⟨loc, supp, ([] : List Itm)⟩ : Dc), ((some (⟨g, 0, none⟩ : Addr), 0)))] rfl ST9.out.own rfl HRw.out (by have := HLZ.out; unfold maxLen; simp; omega) (by have := HLZ.out; simp; omega) HBZ.out ?_; intro v9 w9 own9 gr9; have STa := hid (ST9.out.push (x := ((⟨loc, supp, its⟩ : Dc), ((some (⟨g, 0, none⟩ : Addr), its.length)))) (y := ((⟨loc, supp, ([] : List Itm)⟩ : Dc), ((some (⟨g, 0, none⟩ : Addr), 0)))) HIL.out HE2.out HX.out HY.out own9 gr9); clear own9 gr9)
      go_roundg (gk - 1)
      case measure => have := HG.out; omega
      case rel => exact ⟨i + 1, _, by omega, by have := HG.out; omega, by simp, STa.out⟩
     ·have hci : ¬ (c : Int) = (kk : Int) := by omega
      have hcz : (kk : Int) ≤ (c : Int) := by omega
      go_upto_region 13 with fail
      go_region_held3 (fun W => W.cell? ⟨Db, 2, none⟩ = some (.slice (some ⟨g, 0, none⟩) its.length c)) (first | with_reducible assumption | go_keep) (fail)
      obtain ⟨qa, qb⟩ := two_set H7.out G7.out n5 (.slice (some ⟨g, 0, none⟩) kk c) (.slice (some ⟨g, kk * 5, none⟩) (its.length - kk) (c - kk))
      have A8 := hid (show ((w7.setCell ⟨Bb, 2, none⟩ (.slice (some ⟨g, 0, none⟩) kk c)).setCell ⟨Ab, 2, none⟩ (.slice (some ⟨g, kk * 5, none⟩) (its.length - kk) (c - kk))).drew.heap[Bb]? = some (.cells #[.string ⟨loc.toArray⟩, .bool supp, .slice (some ⟨g, 0, none⟩) kk c] 27 (0, 0)) by rw [heap_drewW]; exact qa)
      have B8 := hid (show ((w7.setCell ⟨Bb, 2, none⟩ (.slice (some ⟨g, 0, none⟩) kk c)).setCell ⟨Ab, 2, none⟩ (.slice (some ⟨g, kk * 5, none⟩) (its.length - kk) (c - kk))).drew.heap[Ab]? = some (.cells #[.string ⟨loc.toArray⟩, .bool supp, .slice (some ⟨g, kk * 5, none⟩) (its.length - kk) (c - kk)] 27 (0, 0)) by rw [heap_drewW]; exact qb)
      have ST8 := hid ((ST7.out.set2 (A := Bb) (B := Ab) (fun k e => by have := HLT.out _ e; have := HAB.out; omega) (fun k e => by have := HLT.out _ e; have := HAB.out; omega) (by have := HZ6.out; have := HAB.out; omega) (by have := HZ6.out; have := HAB.out; omega) (.slice (some ⟨g, 0, none⟩) kk c) (.slice (some ⟨g, kk * 5, none⟩) (its.length - kk) (c - kk))).drew)
      clear qa qb d0 d1 d2 dl g0 g1 g2 gl2 h0 h1 h2 hl2 gf0 gf1 gf2 hf0 hf1 hf2 ST7 F7 G7 H7 n1 n2 n3 n4 n5 n6
      generalize ((w7.setCell ⟨Bb, 2, none⟩ (.slice (some ⟨g, 0, none⟩) kk c)).setCell ⟨Ab, 2, none⟩ (.slice (some ⟨g, kk * 5, none⟩) (its.length - kk) (c - kk))).drew = w8 at *
      obtain ⟨g0, g1, g2, gl2⟩ := box3_cells A8.out
      obtain ⟨h0, h1, h2, hl2⟩ := box3_cells B8.out
      have HRw := hid (show RdL encD (w8.alloc (.cells #[.string ⟨loc.toArray⟩, .bool supp, .slice (some ⟨g, 0, none⟩) kk c, .string ⟨loc.toArray⟩, .bool supp, .slice (some ⟨g, kk * 5, none⟩) (its.length - kk) (c - kk)] 27)) (.slice (some ⟨w8.heap.size, 0, none⟩) 2 2) [((⟨loc, supp, (its.take kk)⟩ : Dc), ((some (⟨g, 0, none⟩ : Addr), c))), ((⟨loc, supp, (its.drop kk)⟩ : Dc), ((some (⟨g, kk * 5, none⟩ : Addr), c - kk)))] from RdL.of_row (l := [((⟨loc, supp, (its.take kk)⟩ : Dc), ((some (⟨g, 0, none⟩ : Addr), c))), ((⟨loc, supp, (its.drop kk)⟩ : Dc), ((some (⟨g, kk * 5, none⟩ : Addr), c - kk)))]) (cp := 2) encD (heap_alloc_new w8 _) (by first | rfl | simp [flatL, encD, HTL.out, HDL.out]) (by simp) (by simp))
      have ST9 := hid (ST8.out.below (show Below w8.heap.size w8 (w8.alloc (.cells #[.string ⟨loc.toArray⟩, .bool supp, .slice (some ⟨g, 0, none⟩) kk c, .string ⟨loc.toArray⟩, .bool supp, .slice (some ⟨g, kk * 5, none⟩) (its.length - kk) (c - kk)] 27)) from (Below.refl _ _).alloc (Nat.le_refl _) _))
      have HBZ := hid ST9.out.bel.size
      have HLZ := hid (show zs.length ≤ 24 by rw [ST9.out.len hi]; have := H12.out; omega)
      have HX := hid (show RdL encI w4 (.slice ((some (⟨g, 0, none⟩ : Addr), c)).1 ((its.take kk)).length ((some (⟨g, 0, none⟩ : Addr), c)).2) ((its.take kk)) from HRT.out)
      have HY := hid (show RdL encI w4 (.slice ((some (⟨g, kk * 5, none⟩ : Addr), c - kk)).1 ((its.drop kk)).length ((some (⟨g, kk * 5, none⟩ : Addr), c - kk)).2) ((its.drop kk)) from HRD.out)
      have HE2 := hid (show [(⟨loc, supp, (its.take kk)⟩ : Dc), (⟨loc, supp, (its.drop kk)⟩ : Dc)] = twoD (kOf at') (D[i]'HIL.out) from by rw [← HEQ.out]; simp [twoD, ← HKK.out])
      go_wp2_with (at_builtin; refine wpList_appL (E := encD) rfl (.tmp 70) (.tmp 73) rfl Tryz.underlying23 infoDoc' rfl (by decide) w4.heap.size _ zs [((⟨loc, supp, (its.take kk)⟩ : Dc), ((some (⟨g, 0, none⟩ : Addr), c))), ((⟨loc, supp, (its.drop kk)⟩ : Dc), ((some (⟨g, kk * 5, none⟩ : Addr), c - kk)))] rfl ST9.out.own rfl HRw.out (by have := HLZ.out; unfold maxLen; simp; omega) (by have := HLZ.out; simp; omega) HBZ.out ?_; intro v9 w9 own9 gr9; have STa := hid (ST9.out.push (x := ((⟨loc, supp, (its.take kk)⟩ : Dc), ((some (⟨g, 0, none⟩ : Addr), c)))) (y := ((⟨loc, supp, (its.drop kk)⟩ : Dc), ((some (⟨g, kk * 5, none⟩ : Addr), c - kk)))) HIL.out HE2.out HX.out HY.out own9 gr9); clear own9 gr9)
      go_roundg (gk - 1)
      case measure => have := HG.out; omega
      case rel => exact ⟨i + 1, _, by omega, by have := HG.out; omega, by simp, STa.out⟩
   ·have hni : ¬ (i : Int) < (D.length : Int) := by omega
    have HIL := hid (show i = D.length by omega)
    have HEZ := hid (show zs.map (·.1) = partD (kOf at') D by have := ST5.out.eq; rw [HIL.out, List.take_length] at this; exact this)
    have HRT := hid (show RdD w5 u7 (partD (kOf at') D) from ⟨zs, HEZ.out, ST5.out.own.rd, fun z hz => (ST5.out.each z hz).below ST5.out.bel⟩)
    obtain ⟨g1, g2, g3, g4⟩ := part_same (kf := kOf at') HZ.out H12.out (fun d h => H40.out d h)
    have NW := hid (tnew_any w5 _ _ HRT.out (szD_of (sz_part HSZ.out) (by rw [part_len]; have := H12.out; omega) (fun d h => by have := part_40 (kf := kOf at') (fun d h => H40.out d h) d h; omega)))
    have TA := hid (fun W B1 p2 (h1 : TbP w2.heap.size W Bt (newF D).2) (h2 : TbP B1 W p2 (newF (partD (kOf at') D)).2) => tables_any _ _ W Bt p2 _ _ h1 h2 g3 g4 (szT_of HSZ.out HZ.out) (als_len HZ.out (by have := evs_len D 40 (fun d h => H40.out d h); have := H12.out; omega)) (als_len (by rw [g1]; rfl) (by rw [part_evs]; have := evs_len D 40 (fun d h => H40.out d h); have := H12.out; omega)) g2)
    have HG1 := hid g1
    have T5 := hid (T4.out.below ST5.out.bel)
    have F5 := hid ((ST5.out.bel.block _ (lt_of_block F4.out)).trans F4.out)
    have G5 := hid ((ST5.out.bel.block _ (lt_of_block G4.out)).trans G4.out)
    have R5 := hid ((ST5.out.bel.block _ (lt_of_block R4.out)).trans R4.out)
    have O5 := hid (show OwnL encD 27 w5 w1.heap.size _ zs0 from HZO.out.below ST5.out.bel)
    have B5 := hid (B4.out.then ST5.out.bel)
    clear g1 g2 g3 g4
    go_wp2_with fail
    refine NW.out.mono ?_
    rintro x w6 ⟨hb6, hx⟩
    rcases hx with ⟨_, Bt2, bv2, ba2, bn2, bp2, N', V', rfl, tb2, ok2⟩ | ⟨h, _⟩
    ·have T6 := hid (T5.out.below hb6)
     have U6 := hid (show TbP w5.heap.size w6 Bt2 (newF (partD (kOf at') D)).2 from ⟨bv2, ba2, bn2, bp2, N', V', tb2⟩)
     have F6 := hid ((hb6.block _ (lt_of_block F5.out)).trans F5.out)
     have G6 := hid ((hb6.block _ (lt_of_block G5.out)).trans G5.out)
     have R6 := hid ((hb6.block _ (lt_of_block R5.out)).trans R5.out)
     have O6 := hid (show OwnL encD 27 w6 w1.heap.size _ zs0 from OwnL.below O5.out hb6)
     have E6 := hid (fun z (hz : z ∈ zs0) => (show OwnL encI 35 w6 w1.heap.size (.slice z.2.1 z.1.items.length z.2.2) z.1.items from OwnL.below (OwnL.below (HZE.out z hz) ST5.out.bel) hb6))
     have B6 := hid (B5.out.then hb6)
     obtain ⟨z0, z1, z2, zl⟩ := box3_cells F6.out
     obtain ⟨zf0, zf1, zf2⟩ := box3_frozen F6.out
     clear hb6 tb2 ok2 NW T5 F5 G5 R5 O5 B5
     go_upto_region 17 with fail
     have T7 := hid (T6.out.set3 F6.out (.int .i64 0) (.int .i64 0) (.int .i64 0))
     have U7 := hid (U6.out.set3 F6.out (.int .i64 0) (.int .i64 0) (.int .i64 0))
     have F7 := hid (P3_row (.int .i64 0) (.int .i64 0) (.int .i64 0) F6.out)
     have G7 := hid ((P3_kept (W := w6) (.int .i64 0) (.int .i64 0) (.int .i64 0) (ne_of_types G6.out F6.out (by decide))).trans G6.out)
     have R7 := hid ((P3_kept (W := w6) (.int .i64 0) (.int .i64 0) (.int .i64 0) (ne_of_types R6.out F6.out (by decide))).trans R6.out)
     have O7 := hid (show OwnL encD 27 (P3 w6 (Tb + 1) (.int .i64 0) (.int .i64 0) (.int .i64 0)) w1.heap.size _ zs0 from own_set (own_set (own_set O6.out (own_type O6.out F6.out (by decide)) 0 _) (own_type O6.out F6.out (by decide)) 1 _) (own_type O6.out F6.out (by decide)) 2 _)
     have E7 := hid (fun z (hz : z ∈ zs0) => (show OwnL encI 35 (P3 w6 (Tb + 1) (.int .i64 0) (.int .i64 0) (.int .i64 0)) w1.heap.size (.slice z.2.1 z.1.items.length z.2.2) z.1.items from own_set (own_set (own_set (E6.out z hz) (own_type (E6.out z hz) F6.out (by decide)) 0 _) (own_type (E6.out z hz) F6.out (by decide)) 1 _) (own_type (E6.out z hz) F6.out (by decide)) 2 _))
     have B7 := hid (P3_below (.int .i64 0) (.int .i64 0) (.int .i64 0) B6.out (Nat.le_succ_of_le HWB.out))
     clear z0 z1 z2 zl zf0 zf1 zf2 T6 U6 F6 G6 R6 O6 E6 B6
     change Code.wp _ _ _ _ (P3 w6 (Tb + 1) (.int .i64 0) (.int .i64 0) (.int .i64 0))
     generalize P3 w6 (Tb + 1) (.int .i64 0) (.int .i64 0) (.int .i64 0) = w7 at *
     obtain ⟨z0, z1, z2, zl⟩ := box3_cells F7.out
     have y0 : w7.cell? ⟨Tb, 0, none⟩ = some (.pointer (some ⟨Bt, 0, none⟩)) := by rw [cell_of_row _ _ _ _ _ _ G7.out]; rfl
     have yl := lt_of_block G7.out
     go_wp2_with fail
     refine (TA.out _ _ _ T7.out U7.out).mono ?_
     rintro e w8 ⟨rfl, hb8⟩
     have T8 := hid (T7.out.below hb8)
     have G8 := hid ((hb8.block _ (lt_of_block G7.out)).trans G7.out)
     have R8 := hid ((hb8.block _ (lt_of_block R7.out)).trans R7.out)
     have O8 := hid (show OwnL encD 27 w8 w1.heap.size _ zs0 from OwnL.below O7.out hb8)
     have E8 := hid (fun z (hz : z ∈ zs0) => (show OwnL encI 35 w8 w1.heap.size (.slice z.2.1 z.1.items.length z.2.2) z.1.items from OwnL.below (E7.out z hz) hb8))
     have B8 := hid (B7.out.then hb8)
     clear hb8 T7 U7 F7 G7 R7 O7 E7 B7 z0 z1 z2 zl y0 yl TA
     have y0 : w8.cell? ⟨Tb, 0, none⟩ = some (.pointer (some ⟨Bt, 0, none⟩)) := by rw [cell_of_row _ _ _ _ _ _ G8.out]; rfl
     have yl := lt_of_block G8.out
     have SZT := hid (szT_of HSZ.out HZ.out)
     have HPB := hid (new_pathB HZ.out)
     have HRW := hid (fun r (h : r ∈ (newF D).2.rows) => new_rows h)
     have LOC := hid (T8.out.locales OK3.out)
     have HLN := hid (show (srtT (newF D).2.names).length ≤ 512 by unfold srtT; rw [List.length_mergeSort]; exact OK3.out.n512)
     have HNZ := hid (fun s (h : s ∈ srtT (newF D).2.names) => names_sz SZT.out h)
     generalize (newF D).2 = tt at *
     go_wp2_with fail
     refine LOC.out.mono ?_
     rintro e w9 ⟨v9, rfl, o9, hb9⟩
     have O9 := hid (show OwnS w9 w8.heap.size v9 (srtT tt.names) from o9)
     have A9 := hid hb9
     obtain ⟨a9, c9, rfl⟩ := own_sliceS o9
     clear o9 hb9 y0 yl LOC
     obtain ⟨LS, hLS⟩ : ∃ LS, LS = srtT tt.names ++ [[]] := ⟨_, rfl⟩
     have HLS := hid hLS
     have HLL := hid (show LS.length ≤ 513 by rw [hLS, List.length_append]; have := HLN.out; simp; omega)
     have HLZ := hid (show ∀ s ∈ LS, s.length ≤ maxLen by
      rw [hLS]; intro s h
      rcases List.mem_append.1 h with h | h
      ·exact HNZ.out s h
      ·rw [List.mem_singleton.1 h]; simp [maxLen])
     clear hLS
     have HZ9 := hid A9.out.size
     go_wp2_with (at_builtin; refine wpList_pushS rfl (.tmp 91) (.tmp 92) rfl w8.heap.size _ _ [] rfl O9.out rfl (by have := HLN.out; omega) HZ9.out ?_; intro va wa own gr mv; have Oa := hid (show OwnS wa w8.heap.size va LS by rw [HLS.out]; exact own); have Aa := hid (A9.out.grown gr HZ9.out (fun k hk => (World.ownsRow.lt O9.out k hk).1)); clear own gr mv; obtain ⟨al, cl, rfl⟩ := own_sliceS Oa.out)
     have Ba := hid (B8.out.then Aa.out)
     have HWA := hid (show w.heap.size ≤ wa.heap.size from Ba.out.size)
     have Ta := hid (T8.out.below Aa.out)
     have Ga := hid ((Aa.out.block _ (lt_of_block G8.out)).trans G8.out)
     have Ra := hid ((Aa.out.block _ (lt_of_block R8.out)).trans R8.out)
     have Oda := hid (show OwnL encD 27 wa w1.heap.size _ zs0 from OwnL.below O8.out Aa.out)
     have Ea := hid (fun z (hz : z ∈ zs0) => (show OwnL encI 35 wa w1.heap.size (.slice z.2.1 z.1.items.length z.2.2) z.1.items from OwnL.below (E8.out z hz) Aa.out))
     clear T8 G8 R8 O8 E8 B8 Aa O9 A9 HZ9
     go_upto_region 20 with fail
     refine wp_loop_ghost_k (fun g a' W => ∃ (L' : List Value) (ds : List Deferred), (L'.length = 196 ∧ L'.getD 0 undef = .slice a2 D.length c2 ∧ L'.getD 4 undef = .pointer (some ⟨w.heap.size, 0, none⟩) ∧ L'.getD 5 undef = .pointer (some ⟨Tb, 0, none⟩) ∧ L'.getD 93 undef = .slice al LS.length cl ∧ L'.getD 94 undef = .int .i64 LS.length ∧ MarksIn wa.heap.size W ds ∧ Below wa.heap.size wa W ∧ ∃ n : Nat, n ≤ LS.length ∧ LS.length ≤ n + g ∧ L'.getD 95 undef = .int .i64 n) ∧ a' = ⟨L'.toArray, ds⟩) LS.length ?start ?round
     case start => exact ⟨_, _, ⟨rfl, rfl, rfl, rfl, rfl, rfl, MarksIn.nil _ _, Below.refl _ _, 0, Nat.zero_le _, by omega, rfl⟩, rfl⟩
     case round =>
      rintro gk a' wr ⟨L', ds, ⟨hlen, e0, e4, e5, e93, e94, hm, hb, n, hn, hg, e95⟩, rfl⟩
      obtain ⟨f, rfl⟩ := lit_map L' 196 hlen
      change f 0 = _ at e0
      change f 4 = _ at e4
      change f 5 = _ at e5
      change f 93 = _ at e93
      change f 94 = _ at e94
      change f 95 = _ at e95
      intro J K hJ hK
      change Code.wp _ _ _ ⟨[f 0, f 1, f 2, f 3, f 4, f 5, f 6, f 7, f 8, f 9, f 10, f 11, f 12, f 13, f 14, f 15, f 16, f 17, f 18, f 19, f 20, f 21, f 22, f 23, f 24, f 25, f 26, f 27, f 28, f 29, f 30, f 31, f 32, f 33, f 34, f 35, f 36, f 37, f 38, f 39, f 40, f 41, f 42, f 43, f 44, f 45, f 46, f 47, f 48, f 49, f 50, f 51, f 52, f 53, f 54, f 55, f 56, f 57, f 58, f 59, f 60, f 61, f 62, f 63, f 64, f 65, f 66, f 67, f 68, f 69, f 70, f 71, f 72, f 73, f 74, f 75, f 76, f 77, f 78, f 79, f 80, f 81, f 82, f 83, f 84, f 85, f 86, f 87, f 88, f 89, f 90, f 91, f 92, f 93, f 94, f 95, f 96, f 97, f 98, f 99, f 100, f 101, f 102, f 103, f 104, f 105, f 106, f 107, f 108, f 109, f 110, f 111, f 112, f 113, f 114, f 115, f 116, f 117, f 118, f 119, f 120, f 121, f 122, f 123, f 124, f 125, f 126, f 127, f 128, f 129, f 130, f 131, f 132, f 133, f 134, f 135, f 136, f 137, f 138, f 139, f 140, f 141, f 142, f 143, f 144, f 145, f 146, f 147, f 148, f 149, f 150, f 151, f 152, f 153, f 154, f 155, f 156, f 157, f 158, f 159, f 160, f 161, f 162, f 163, f 164, f 165, f 166, f 167, f 168, f 169, f 170, f 171, f 172, f 173, f 174, f 175, f 176, f 177, f 178, f 179, f 180, f 181, f 182, f 183, f 184, f 185, f 186, f 187, f 188, f 189, f 190, f 191, f 192, f 193, f 194, f 195].toArray, ds⟩ wr
      rw [e0, e4, e5, e93, e94, e95]
      clear e0 e4 e5 e93 e94 e95 hlen
      obtain ⟨go, hgo⟩ : ∃ go, go = gk := ⟨_, rfl⟩
      have HG := hid (show LS.length ≤ n + go by rw [hgo]; exact hg)
      have HGO := hid hgo
      have MK := hid hm
      have A10 := hid hb
      clear hg hgo hm hb
      by_cases hlt : n < LS.length
      ·have hni : (n : Int) < (LS.length : Int) := by omega
       have hn0 : (0 : Int) ≤ (n : Int) := by omega
       have hlz : (LS.length : Int) ≤ 513 := by have := HLL.out; omega
       have Ow := hid (show OwnS wr w8.heap.size _ LS from own_below Oa.out A10.out)
       obtain ⟨gl, rfl, rl, r0⟩ := own_atS Ow.out n hlt
       have HSL := hid (HLZ.out _ (List.getElem_mem hlt))
       have HSM := hid (List.getElem_mem hlt)
       generalize LS[n]'hlt = s at *
       have HA := hid (show Below wr.heap.size wr ((wr.alloc (.cells #[.string ⟨s.toArray⟩] 9)).alloc (.cells #[.int .i64 0] 3)) from below2 wr _ _)
       have FS := hid (show ((wr.alloc (.cells #[.string ⟨s.toArray⟩] 9)).alloc (.cells #[.int .i64 0] 3)).heap[wr.heap.size]? = some (.cells #[.string ⟨s.toArray⟩] 9 (0, 0)) from (Below.heap_alloc _ _ _ (lt_of_block (heap_alloc_new wr _))).trans (heap_alloc_new wr _))
       have FK := hid (show ((wr.alloc (.cells #[.string ⟨s.toArray⟩] 9)).alloc (.cells #[.int .i64 0] 3)).heap[wr.heap.size + 1]? = some (.cells #[.int .i64 0] 3 (0, 0)) from by
        have := heap_alloc_new (wr.alloc (.cells #[.string ⟨s.toArray⟩] 9)) (.cells #[.int .i64 0] 3)
        rw [show (wr.alloc (.cells #[.string ⟨s.toArray⟩] 9)).heap.size = wr.heap.size + 1 by simp] at this
        exact this)
       have HZK := hid (show ((wr.alloc (.cells #[.string ⟨s.toArray⟩] 9)).alloc (.cells #[.int .i64 0] 3)).heap.size = wr.heap.size + 1 + 1 by simp)
       go_upto_region 23 with fail
       generalize (wr.alloc (.cells #[.string ⟨s.toArray⟩] 9)).alloc (.cells #[.int .i64 0] 3) = wk at *
       have A11 := hid (A10.out.then HA.out)
       have MK2 := hid (MK.out.keep (KeepM.of_below HA.out))
       have Gk := hid ((A11.out.block _ (lt_of_block Ga.out)).trans Ga.out)
       have HWR := hid (show wa.heap.size ≤ wr.heap.size from A10.out.size)
       clear r0 rl
       obtain ⟨sb, hsb⟩ : ∃ sb, sb = wr.heap.size := ⟨_, rfl⟩
       rw [← hsb] at FS FK HZK HWR ⊢
       obtain ⟨kb, hkb⟩ : ∃ kb, kb = sb + 1 := ⟨_, rfl⟩
       rw [← hkb] at FK HZK ⊢
       have HKB := hid hkb
       have HSB := hid hsb
       clear hsb hkb
       have y0 : wk.cell? ⟨Tb, 0, none⟩ = some (.pointer (some ⟨Bt, 0, none⟩)) := by rw [cell_of_row _ _ _ _ _ _ Gk.out]; rfl
       have y1 : wk.cell? ⟨sb, 0, none⟩ = some (.string ⟨s.toArray⟩) := by rw [cell_of_row _ _ _ _ _ _ FS.out]; rfl
       have yl := lt_of_block Gk.out
       have yl1 := lt_of_block FS.out
       go_wp2_with fail
       refine (within_any (some ⟨Bt, 0, none⟩) s [] wk).mono ?_
       rintro e wc ⟨rfl, hwc⟩
       have HBC := hid (show Below wk.heap.size wk wc from by rw [hwc]; exact (((Below.refl _ _).alloc (Nat.le_refl _) _).alloc (by simp) _).alloc (by simp; omega) _)
       have C0 := hid (show wc.heap[wk.heap.size]? = some (.cells #[.pointer (some ⟨Bt, 0, none⟩)] 31 (0, 0)) from by rw [hwc]; exact (Below.heap_alloc _ _ _ (by simp; omega)).trans ((Below.heap_alloc _ _ _ (by simp)).trans (heap_alloc_new wk _)))
       have C1 := hid (show wc.heap[wk.heap.size + 1]? = some (.cells #[.string ⟨s.toArray⟩] 9 (0, 0)) from by
        rw [hwc]
        have e := heap_alloc_new (wk.alloc (.cells #[.pointer (some ⟨Bt, 0, none⟩)] 31)) (.cells #[.string ⟨s.toArray⟩] 9)
        rw [show (wk.alloc (.cells #[.pointer (some ⟨Bt, 0, none⟩)] 31)).heap.size = wk.heap.size + 1 by simp] at e
        exact (Below.heap_alloc _ _ _ (by simp)).trans e)
       have C2 := hid (show wc.heap[wk.heap.size + 1 + 1]? = some (.cells #[.string ⟨([] : Str).toArray⟩] 9 (0, 0)) from by
        rw [hwc]
        have e := heap_alloc_new ((wk.alloc (.cells #[.pointer (some ⟨Bt, 0, none⟩)] 31)).alloc (.cells #[.string ⟨s.toArray⟩] 9)) (.cells #[.string ⟨([] : Str).toArray⟩] 9)
        rw [show ((wk.alloc (.cells #[.pointer (some ⟨Bt, 0, none⟩)] 31)).alloc (.cells #[.string ⟨s.toArray⟩] 9)).heap.size = wk.heap.size + 1 + 1 by simp] at e
        exact e)
       have A12 := hid (A11.out.then HBC.out)
       have WRC := hid (show Below wr.heap.size wr wc from HA.out.then HBC.out)
       have MK3 := hid (MK2.out.keep (KeepM.of_below HBC.out))
       have Tc := hid (Ta.out.below A12.out)
       have FSc := hid ((HBC.out.block _ (lt_of_block FS.out)).trans FS.out)
       have FKc := hid ((HBC.out.block _ (lt_of_block FK.out)).trans FK.out)
       have HZC := hid (show wk.heap.size ≤ wc.heap.size from HBC.out.size)
       clear hwc y0 y1 yl yl1 FS FK HBC Gk
       generalize wk.heap.size = Cb at *
       have HSQ := hid (within1_sub 5 (by decide) Cb (Cb + 1) (Cb + 1 + 1) kb w2.heap.size Bt tt OK3.out SZT.out s [] HSL.out (by simp [maxLen]) wc #[.int .i64 0] Tc.out FKc.out C0.out C1.out C2.out)
       go_wp2_with fail
       refine (wpIn_wide (n := 6)).1 ?_
       refine wpIn_rangeFunc_ownF rfl (by omega) (gf := 46) rfl trivial (enters_of Tryz.func46 (by kernel_rfl) rfl) HSQ.out (fun h g => h.trans g) (fun W l o o' hl ho hc _ => KpB.put hl ho hc) (Below.refl _ _) (fun _ => rfl)
        (fun pre W => Below kb wc W ∧ W.heap[kb]? = some (.cells #[.int .i64 (pre.length : Int)] 3 (0, 0))) (fun c pre _ => False)
        (fun z W W' row hs hg hr => ⟨hs.1.grown hg (by have := lt_of_block hs.2; omega) (fun k hk => by have h1 := (hr k hk).1; have h2 := HZC.out; have h3 := HZK.out; omega), (hg.block kb (lt_of_block hs.2) (fun e => by have h1 := (hr kb e.symm).1; have h2 := HZC.out; have h3 := HZK.out; omega)).trans hs.2⟩)
        (fun _ _ _ _ _ h _ _ => h) ⟨Below.refl _ _, FKc.out⟩
        (fun x => { tmps := [.slice a2 D.length c2, f 1, f 2, f 3, .pointer (some ⟨w.heap.size, 0, none⟩), .pointer (some ⟨Tb, 0, none⟩), f 6, f 7, f 8, f 9, f 10, f 11, f 12, f 13, f 14, .pointer (some ⟨sb, 0, none⟩), .pointer (some ⟨kb, 0, none⟩), .string ⟨x.1.1.toArray⟩, .string ⟨x.1.2.toArray⟩, f 19, f 20, f 21, f 22, f 23, f 24, f 25, f 26, f 27, f 28, f 29, f 30, f 31, f 32, f 33, f 34, f 35, f 36, f 37, f 38, f 39, f 40, f 41, f 42, f 43, f 44, f 45, f 46, f 47, f 48, f 49, f 50, f 51, f 52, f 53, f 54, f 55, f 56, f 57, f 58, f 59, f 60, f 61, f 62, f 63, f 64, f 65, f 66, f 67, f 68, f 69, f 70, f 71, f 72, f 73, f 74, f 75, f 76, f 77, f 78, f 79, f 80, f 81, f 82, f 83, f 84, f 85, f 86, f 87, f 88, f 89, f 90, f 91, f 92, .slice (some ⟨gl, 0, none⟩) LS.length cl, .int .i64 LS.length, .int .i64 n, .bool true, .pointer (some ⟨gl, n, none⟩), .string ⟨s.toArray⟩, .pointer (some ⟨Bt, 0, none⟩), .string ⟨s.toArray⟩, .func (.func 46) #[] #[.pointer (some ⟨Cb, 0, none⟩), .pointer (some ⟨Cb + 1, 0, none⟩), .pointer (some ⟨Cb + 1 + 1, 0, none⟩)], .string ⟨x.1.1.toArray⟩, .string ⟨x.1.2.toArray⟩, f 104, f 105, f 106, f 107, f 108, f 109, f 110, f 111, f 112, f 113, f 114, f 115, f 116, f 117, f 118, f 119, f 120, f 121, f 122, f 123, f 124, f 125, f 126, f 127, f 128, f 129, f 130, f 131, f 132, f 133, f 134, f 135, f 136, f 137, f 138, f 139, f 140, f 141, f 142, f 143, f 144, f 145, f 146, f 147, f 148, f 149, f 150, f 151, f 152, f 153, f 154, f 155, f 156, f 157, f 158, f 159, f 160, f 161, f 162, f 163, f 164, f 165, f 166, f 167, f 168, f 169, f 170, f 171, f 172, f 173, f 174, f 175, f 176, f 177, f 178, f 179, f 180, f 181, f 182, f 183, f 184, f 185, f 186, f 187, f 188, f 189, f 190, f 191, f 192, f 193, f 194, f 195].toArray, defers := [] }) ?assign ?body ?done ?stop
       case assign =>
        intro l x W K hK
        gi_wp2
        exact hK
       case body =>
        rintro l pre x W ⟨hb, hk⟩ hlen
        have hxm : x.1 ∈ (pathsF tt s).map (fun p => (p, rText (findR tt.rows s p))) := (congrArg (x.1 ∈ ·) (inP_nil OK3.out HPB.out s)).mp x.2
        obtain ⟨xp, hxp, hxe⟩ := List.mem_map.1 hxm
        have HGE := hid (path_has hxp)
        have HPL := hid (paths_sz SZT.out hxp)
        rw [← hxe]
        dsimp only
        have HPR := hid (show ((pre ++ [x]).length : Int) = (pre.length : Int) + 1 by simp)
        have hpz : (pre.length : Int) ≤ 16384 := by
         have h1 := congrArg List.length (inP_nil OK3.out HPB.out s)
         rw [List.length_map] at h1
         have h2 : (pathsF tt s).length ≤ 16384 := by unfold pathsF srtT; rw [List.length_mergeSort, List.length_map]; exact rows_le OK3.out s
         omega
        have hp0 : (0 : Int) ≤ (pre.length : Int) := by omega
        clear hxe hxp hxm
        have SB := hid (A12.out.trans (hb.mono (by have := HWR.out; have := HKB.out; omega)))
        have GW := hid ((SB.out.block _ (lt_of_block Ga.out)).trans Ga.out)
        have SW := hid ((hb.block sb (by have := HKB.out; omega)).trans FSc.out)
        have y0 : W.cell? ⟨Tb, 0, none⟩ = some (.pointer (some ⟨Bt, 0, none⟩)) := by rw [cell_of_row _ _ _ _ _ _ GW.out]; rfl
        have y1 : W.cell? ⟨sb, 0, none⟩ = some (.string ⟨s.toArray⟩) := by rw [cell_of_row _ _ _ _ _ _ SW.out]; rfl
        have yl := lt_of_block GW.out
        have yl1 := lt_of_block SW.out
        have GT := hid ((Ta.out.below SB.out).get s xp HSL.out HPL.out)
        rw [HGE.out] at GT
        generalize rText (findR tt.rows s xp) = tx at *
        have HB := hid hb
        have HK := hid hk
        gi_wp2
        refine ⟨trivial, CallsIn.inRound l (callsIn_wide.2 (GT.out.mono ?_))⟩
        rintro e w9 ⟨rfl, hb9⟩
        have hk9 := (hb9.block _ (lt_of_block HK.out)).trans HK.out
        have c9 : w9.cell? ⟨kb, 0, none⟩ = some (.int .i64 (pre.length : Int)) := by rw [cell_of_row _ _ _ _ _ _ hk9]; rfl
        have z9 := frozen_of_row w9 kb 0 _ _ hk9
        have t9 := lt_of_block hk9
        have HB9 := hid hb9
        have HK9 := hid hk9
        clear hb9 hk9 y0 y1 yl yl1 hb hk
        gi_wp2
        have hz1 : kb < wc.heap.size := by have h2 := HZC.out; have h3 := HZK.out; omega
        have hz2 : wc.heap.size ≤ W.heap.size := HB.out.size
        refine ⟨(keeps_below' HB9.out).trans (KeepsOthers.setCell _ _ _), (KpB.of_below HB9.out hz2).trans (KpB.setk' hz1 _), (HB.out.trans (HB9.out.mono (by omega))).setCell (p := ⟨kb, 0, none⟩) (Nat.le_refl _) _, ?_⟩
        rw [heap_setCell_same _ _ _ _ _ _ HK9.out, HPR.out]; simp
       case done =>
        rintro D2 xs W hD hxs ⟨hb, hk⟩ hK
        have hxl : xs.length = (pathsF tt s).length := by
         have h1 := congrArg List.length hxs
         have h2 := congrArg List.length (inP_nil OK3.out HPB.out s)
         rw [List.length_map] at h1 h2
         omega
        rw [hxl] at hk
        have KW := hid (show Below wr.heap.size wr W from WRC.out.trans (hb.mono (by rw [← HSB.out]; have := HKB.out; omega)))
        have MK4 := hid (MK.out.push (KeepM.of_below KW.out) A10.out.size (by have h2 := HZC.out; have h3 := HZK.out; have h4 := HSB.out; have h5 := HKB.out; omega) hK)
        have SB := hid (A10.out.then KW.out)
        have GW := hid ((SB.out.block _ (lt_of_block Ga.out)).trans Ga.out)
        have SW := hid ((hb.block sb (by have := HKB.out; omega)).trans FSc.out)
        have HK := hid hk
        have HPS := hid (fun p (h : p ∈ pathsF tt s) => path_has h)
        have HPZ := hid (fun p (h : p ∈ pathsF tt s) => paths_sz SZT.out h)
        have HPN := hid (show (pathsF tt s).length ≤ 16384 by unfold pathsF srtT; rw [List.length_mergeSort, List.length_map]; exact rows_le OK3.out s)
        have KF := hid (fun W' (h : Below W.heap.size W W') => show W'.cell? ⟨kb, 0, none⟩ = some (.int .i64 ((pathsF tt s).length : Int)) ∧ W'.cell? ⟨Tb, 0, none⟩ = some (.pointer (some ⟨Bt, 0, none⟩)) ∧ W'.cell? ⟨sb, 0, none⟩ = some (.string ⟨s.toArray⟩) ∧ kb < W'.heap.size ∧ Tb < W'.heap.size ∧ sb < W'.heap.size from
         ⟨by rw [cell_of_row _ _ _ _ _ _ ((h.block _ (lt_of_block HK.out)).trans HK.out)]; rfl, by rw [cell_of_row _ _ _ _ _ _ ((h.block _ (lt_of_block GW.out)).trans GW.out)]; rfl, by rw [cell_of_row _ _ _ _ _ _ ((h.block _ (lt_of_block SW.out)).trans SW.out)]; rfl, Nat.lt_of_lt_of_le (lt_of_block HK.out) h.size, Nat.lt_of_lt_of_le (lt_of_block GW.out) h.size, Nat.lt_of_lt_of_le (lt_of_block SW.out) h.size⟩)
        have PA := hid (fun W' (h : Below W.heap.size W W') => (Ta.out.below (SB.out.then h)).paths OK3.out s HSL.out)
        have WH := hid (fun W' (h : Below W.heap.size W W') p (hp : p ∈ pathsF tt s) => (Ta.out.below (SB.out.then h)).where_ s p HSL.out (HPZ.out p hp))
        have OW := hid (show OwnL encD 27 W w1.heap.size _ zs0 from OwnL.below Oda.out SB.out)
        have EW := hid (fun z (hz : z ∈ zs0) => (show OwnL encI 35 W w1.heap.size (.slice z.2.1 z.1.items.length z.2.2) z.1.items from OwnL.below (Ea.out z hz) SB.out))
        clear hb hk hK hxl hxs HSQ C0 C1 C2 FSc FKc Tc WRC
        obtain ⟨PS, hPS⟩ : ∃ PS, PS = pathsF tt s := ⟨_, rfl⟩
        rw [← hPS] at HK HPS HPZ HPN KF PA WH
        clear hPS
        have PA2 := hid (fun W' (h : W'.cell? ⟨kb, 0, none⟩ = some (.int .i64 (PS.length : Int)) ∧ W'.cell? ⟨Tb, 0, none⟩ = some (.pointer (some ⟨Bt, 0, none⟩)) ∧ W'.cell? ⟨sb, 0, none⟩ = some (.string ⟨s.toArray⟩) ∧ Below W.heap.size W W') => (show Calls Tryz.prog 22 #[.pointer (some ⟨Bt, 0, none⟩), .string ⟨s.toArray⟩] W' fun e w' => ∃ (av : Option Addr) (cv : Nat), e = .returned (.slice av PS.length cv) ∧ (w'.cell? ⟨kb, 0, none⟩ = some (.int .i64 (PS.length : Int)) ∧ w'.cell? ⟨Tb, 0, none⟩ = some (.pointer (some ⟨Bt, 0, none⟩)) ∧ w'.cell? ⟨sb, 0, none⟩ = some (.string ⟨s.toArray⟩) ∧ Below W.heap.size W w') from
         (PA.out W' h.2.2.2).mono fun e w' ⟨v, h1, h2, h3⟩ => by
          obtain ⟨av, cv, rfl⟩ := own_sliceS h2
          obtain ⟨k1, k2, k3, _⟩ := KF.out w' (h.2.2.2.then h3)
          exact ⟨av, cv, h1, k1, k2, k3, h.2.2.2.then h3⟩))
        have S0 : W.drew.cell? ⟨kb, 0, none⟩ = some (.int .i64 (PS.length : Int)) ∧ W.drew.cell? ⟨Tb, 0, none⟩ = some (.pointer (some ⟨Bt, 0, none⟩)) ∧ W.drew.cell? ⟨sb, 0, none⟩ = some (.string ⟨s.toArray⟩) ∧ Below W.heap.size W W.drew := ⟨(KF.out W (Below.refl _ _)).1, (KF.out W (Below.refl _ _)).2.1, (KF.out W (Below.refl _ _)).2.2.1, (Below.refl _ _).drew⟩
        go_upto_region 30 with fail
        go_region_held3 (fun W' => W'.cell? ⟨kb, 0, none⟩ = some (.int .i64 (PS.length : Int)) ∧ W'.cell? ⟨Tb, 0, none⟩ = some (.pointer (some ⟨Bt, 0, none⟩)) ∧ W'.cell? ⟨sb, 0, none⟩ = some (.string ⟨s.toArray⟩) ∧ Below W.heap.size W W') (first | with_reducible assumption) (first
         | (go_at_call 22; (with_reducible refine (PA2.out _ (by assumption)).mono ?_); rintro e w' ⟨av, cv, rfl, hs'⟩))
        rename World => wg
        have HBG := hid (show Below W.heap.size W wg from hs'.2.2.2)
        clear S0 hs' PA2
        obtain ⟨_, y0, y1, _, yl, yl1⟩ := KF.out wg HBG.out
        go_wp2_with fail
        refine (PA.out wg HBG.out).mono ?_
        rintro e wp ⟨vp, rfl, op, hbp⟩
        have OP := hid (show OwnS wp wg.heap.size vp PS from op)
        have HBP := hid (HBG.out.then hbp)
        obtain ⟨ap, cp, rfl⟩ := own_sliceS op
        clear op hbp y0 y1 yl yl1 HBG PA
        go_upto_region 33 with fail
        go_loopg [130] PS.length (fun g v130 V => ∃ m : Nat, m ≤ PS.length ∧ PS.length ≤ m + g ∧ v130 = .int .i64 m ∧ Below wp.heap.size wp V)
        case atStart => exact ⟨0, Nat.zero_le _, by omega, rfl, Below.refl _ _⟩
        case round =>
         obtain ⟨m, hm, hg, rfl, hb⟩ := hrel
         rename World => wq
         obtain ⟨go3, hgo3⟩ : ∃ go3, go3 = gk := ⟨_, rfl⟩
         have HG3 := hid (show PS.length ≤ m + go3 by rw [hgo3]; exact hg)
         have HGO3 := hid hgo3
         have BQ := hid hb
         have HBQ := hid (HBP.out.then hb)
         clear hg hgo3 hb
         by_cases hlt3 : m < PS.length
         ·have hmi : (m : Int) < (PS.length : Int) := by omega
          have hm0 : (0 : Int) ≤ (m : Int) := by omega
          have hmz : (PS.length : Int) ≤ 16384 := by have := HPN.out; omega
          have Oq := hid (show OwnS wq wg.heap.size _ PS from own_below OP.out BQ.out)
          obtain ⟨gp, rfl, rl, r0⟩ := own_atS Oq.out m hlt3
          have HPM := hid (List.getElem_mem hlt3)
          generalize PS[m]'hlt3 = pp at *
          obtain ⟨row, hrow⟩ := Option.isSome_iff_exists.1 (HPS.out pp HPM.out)
          obtain ⟨hr1, hr2, hr3⟩ := findR_some hrow
          obtain ⟨dd, hd1, hd2, xx, hx1, hx2, hx3, hx4⟩ := HRW.out row hr1
          have HWH := hid (WH.out wq HBQ.out pp HPM.out)
          rw [hrow] at HWH
          have hfl : row.file < D.length := by
           rcases Nat.lt_or_ge row.file D.length with h | h
           ·exact h
           ·rw [List.getElem?_eq_none h] at hd1; cases hd1
          have hdd : D[row.file]'hfl = dd := by rw [List.getElem?_eq_getElem hfl] at hd1; exact Option.some.inj hd1
          have hflz : row.file < zs0.length := by rw [HLD.out]; exact hfl
          have hzd : (zs0[row.file]'hflz).1 = dd := by
           rw [← hdd]
           have := HZL.out
           subst this
           simp
          have Oz := hid (OwnL.below OW.out HBQ.out)
          obtain ⟨gD, rfl⟩ := OwnL.some' Oz.out (by intro e; rw [e] at hflz; simp at hflz)
          obtain ⟨q0, _, qgl⟩ := OwnL.cell Oz.out row.file 0 (.string ⟨((zs0[row.file]'hflz).1.loc).toArray⟩) hflz rfl
          obtain ⟨q2, _, _⟩ := OwnL.cell Oz.out row.file 2 (.slice (zs0[row.file]'hflz).2.1 (zs0[row.file]'hflz).1.items.length (zs0[row.file]'hflz).2.2) hflz rfl
          rw [Nat.add_zero] at q0
          have EZ := hid (OwnL.below (EW.out _ (List.getElem_mem hflz)) HBQ.out)
          have HL4 := hid (show (zs0[row.file]'hflz).1.items.length ≤ 40 by rw [hzd, ← hdd]; exact H40.out _ (List.getElem_mem hfl))
          have HAN := hid (show (zs0[row.file]'hflz).1.items.any (saidB pp row.at') = true by
           rw [hzd, List.any_eq_true]
           refine ⟨xx, hx1, ?_⟩
           unfold saidB
           rw [hx2, hx3, hx4, hr3]; simp)
          have hloc : (zs0[row.file]'hflz).1.loc = s := by rw [hzd, hd2, hr2]
          rw [hloc] at q0
          generalize zs0[row.file]'hflz = zz at *
          obtain ⟨⟨zl1, zl2, its⟩, ia, ic⟩ := zz
          simp only at q2 EZ HL4 HAN
          have hfi : (row.file : Int) < (D.length : Int) := by omega
          have hf0 : (0 : Int) ≤ (row.file : Int) := by omega
          have hf12 : (D.length : Int) ≤ 12 := by have := H12.out; omega
          clear hloc hzd hflz hdd hfl hd1 hd2 hx1 hx2 hx3 hx4 hr1 hr2 hr3 hrow
          have HWH2 := hid (show Calls Tryz.prog 25 #[.pointer (some ⟨Bt, 0, none⟩), .string ⟨s.toArray⟩, .string ⟨pp.toArray⟩] wq fun e w' => e = .returned (.tuple #[.int .i64 (row.file : Int), .int .i64 row.at', .bool true]) ∧ Below wq.heap.size wq w' from HWH.out)
          generalize row.file = fi at *
          generalize row.at' = on at *
          obtain ⟨_, y0, y1, _, yl, yl1⟩ := KF.out wq HBQ.out
          clear HWH
          go_wp2_with (go_at_call 25; refine HWH2.out.mono ?_; rintro e wv ⟨rfl, hbv⟩; have BV := hid hbv; clear hbv)
          have HBV := hid (HBQ.out.then BV.out)
          have BPV := hid (BQ.out.then BV.out)
          have q0v := (BV.out.cell (p := ⟨gD, fi * 3, none⟩) qgl).trans q0
          have q2v := (BV.out.cell (p := ⟨gD, fi * 3 + 2, none⟩) qgl).trans q2
          have qgv : gD < wv.heap.size := Nat.lt_of_lt_of_le qgl BV.out.size
          have EV := hid (OwnL.below EZ.out BV.out)
          clear q0 q2 qgl EZ y0 y1 yl yl1 r0 rl Oq Oz HWH2 BV
          obtain ⟨_, y0, y1, _, yl, yl1⟩ := KF.out wv HBV.out
          have hd1 : decide ((fi : Int) < 0) = false := decide_eq_false (by omega)
          have hd2 : decide ((D.length : Int) ≤ (fi : Int)) = false := decide_eq_false (by omega)
          have hd3 : decide (D.length ≤ fi) = false := decide_eq_false (by omega)
          go_quiet (fail)
          have KN := hid (below_drewN (Below.refl wv.heap.size wv) nq)
          have q2n : (wv.drewN nq).cell? ⟨gD, fi * 3 + 2, none⟩ = some (.slice ia its.length ic) := q2v
          have qgn : gD < (wv.drewN nq).heap.size := qgv
          have EN := hid (OwnL.below EV.out KN.out)
          have BPN := hid (BPV.out.then KN.out)
          clear q0v q2v qgv y0 y1 yl yl1 EV hd1 hd2 hd3 BPV
          generalize wv.drewN nq = wn at *
          obtain ⟨_, _, _, hIC⟩ := RdI.cells (OwnL.rd EN.out)
          have HIC := hid hIC
          clear hIC
          have hl4z : (its.length : Int) ≤ 40 := by have := HL4.out; omega
          go_upto_region 40 with fail
          go_loopg [26, 169] its.length (fun g v26 v169 V => ∃ q : Nat, q ≤ its.length ∧ its.length ≤ q + g ∧ v26 = .bool ((its.take q).any (saidB pp on)) ∧ v169 = .int .i64 q ∧ Below wn.heap.size wn V)
          case atStart => exact ⟨0, Nat.zero_le _, by omega, rfl, rfl, Below.refl _ _⟩
          case round =>
           obtain ⟨q, hq, hg, rfl, rfl, hb⟩ := hrel
           rename World => wi
           have HG4 := hid hg
           have BI := hid hb
           clear hg hb q2n qgn
           by_cases hlt4 : q < its.length
           ·have hqi : (q : Int) < (its.length : Int) := by omega
            have hq0 : (0 : Int) ≤ (q : Int) := by omega
            obtain ⟨p2, o2, rfl, hp2, s0, s1, s2, s3, s4⟩ := HIC.out q hlt4
            have HTK := hid (show (its.take (q + 1)).any (saidB pp on) = ((its.take q).any (saidB pp on) || saidB pp on (its[q]'hlt4)) by
             rw [List.take_succ_eq_append_getElem hlt4, List.any_append]; simp)
            obtain ⟨xi, hxi⟩ : ∃ xi, xi = its[q]'hlt4 := ⟨_, rfl⟩
            rw [← hxi] at s0 s1 s2 s3 s4 HTK
            clear hxi
            obtain ⟨ip, iv, ial, idr, iat⟩ := xi
            simp only at s0 s1 s2 s3 s4
            have u0 := (BI.out.cell (p := ⟨p2, o2 + q * 5, none⟩) hp2).trans s0
            have u1 := (BI.out.cell (p := ⟨p2, o2 + q * 5 + 1, none⟩) hp2).trans s1
            have u2 := (BI.out.cell (p := ⟨p2, o2 + q * 5 + 2, none⟩) hp2).trans s2
            have u3 := (BI.out.cell (p := ⟨p2, o2 + q * 5 + 3, none⟩) hp2).trans s3
            have u4 := (BI.out.cell (p := ⟨p2, o2 + q * 5 + 4, none⟩) hp2).trans s4
            have hpl : p2 < wi.heap.size := Nat.lt_of_lt_of_le hp2 BI.out.size
            have HSD := hid (show saidB pp on ⟨ip, iv, ial, idr, iat⟩ = ((ip == pp) && (iat == on) && !ial) from rfl)
            rw [HSD.out] at HTK
            clear s0 s1 s2 s3 s4 hp2 HSD
            have HAI := hid (show Below wi.heap.size wi (wi.alloc (.cells #[.string ⟨ip.toArray⟩, .string ⟨iv.toArray⟩, .bool ial, .string ⟨idr.toArray⟩, .int .i64 iat] 35)) from (Below.refl _ _).alloc (Nat.le_refl _) _)
            have FI := hid (heap_alloc_new wi (.cells #[.string ⟨ip.toArray⟩, .string ⟨iv.toArray⟩, .bool ial, .string ⟨idr.toArray⟩, .int .i64 iat] 35))
            go_upto_region 42 with fail
            generalize wi.alloc (.cells #[.string ⟨ip.toArray⟩, .string ⟨iv.toArray⟩, .bool ial, .string ⟨idr.toArray⟩, .int .i64 iat] 35) = wj at *
            obtain ⟨k0, k1, k2, k3, k4, kl⟩ := box5_cells FI.out
            clear u0 u1 u2 u3 u4 hpl
            have BJ := hid (BI.out.then HAI.out)
            generalize (its.take q).any (saidB pp on) = sq at *
            cases sq with
            | true =>
             go_wp2_with fail
             go_roundg (gk - 1)
             case measure => have := HG4.out; omega
             case rel => exact ⟨q + 1, by omega, by have := HG4.out; omega, by rw [HTK.out]; rfl, by simp, BJ.out⟩
            | false =>
             cases h1 : (ip == pp) with
             | false =>
              rw [h1] at HTK
              go_wp2_with fail
              go_roundg (gk - 1)
              case measure => have := HG4.out; omega
              case rel => exact ⟨q + 1, by omega, by have := HG4.out; omega, by rw [HTK.out]; rfl, by simp, BJ.out⟩
             | true =>
              rw [h1] at HTK
              cases h2 : (iat == on) with
              | false =>
               rw [h2] at HTK
               go_wp2_with fail
               go_roundg (gk - 1)
               case measure => have := HG4.out; omega
               case rel => exact ⟨q + 1, by omega, by have := HG4.out; omega, by rw [HTK.out]; rfl, by simp, BJ.out⟩
              | true =>
               rw [h2] at HTK
               cases ial with
               | false =>
                go_wp2_with fail
                go_roundg (gk - 1)
                case measure => have := HG4.out; omega
                case rel => exact ⟨q + 1, by omega, by have := HG4.out; omega, by rw [HTK.out]; rfl, by simp, BJ.out⟩
               | true =>
                go_wp2_with fail
                go_roundg (gk - 1)
                case measure => have := HG4.out; omega
                case rel => exact ⟨q + 1, by omega, by have := HG4.out; omega, by rw [HTK.out]; rfl, by simp, BJ.out⟩
           ·have hqi : ¬ (q : Int) < (its.length : Int) := by omega
            have hql : q = its.length := by omega
            have HFA := hid (show (its.take q).any (saidB pp on) = true by rw [hql, List.take_length]; exact HAN.out)
            rw [HFA.out]
            go_wp2_with fail
            go_roundg (go3 - 1)
            case measure => have := HG3.out; have := HGO3.out; omega
            case rel => exact ⟨m + 1, by omega, by have := HG3.out; omega, by simp, BPN.out.then BI.out⟩
         ·have hmi : ¬ (m : Int) < (PS.length : Int) := by omega
          have SB9 := hid (SB.out.then HBQ.out)
          have MK9 := hid (MK4.out.keep (KeepM.of_below HBQ.out))
          go_wp2_with fail
          go_roundg (go - 1)
          case measure => have := HG.out; have := HGO.out; omega
          case rel => exact ⟨rfl, rfl, rfl, rfl, rfl, rfl, MK9.out, SB9.out, n + 1, by omega, by have := HG.out; omega, by simp⟩
       case stop =>
        rintro D2 c pre W _ hp h
        exact h.elim
      ·have hni : ¬ (n : Int) < (LS.length : Int) := by omega
       have FW := hid ((A10.out.block _ (lt_of_block Ra.out)).trans Ra.out)
       have c2 : wr.cell? ⟨w.heap.size, 0, none⟩ = some (.bool false) := by rw [cell_of_row _ _ _ _ _ _ FW.out]; rfl
       have z2 := frozen_of_row wr w.heap.size 0 _ _ FW.out
       have t2 := lt_of_block FW.out
       go_wp2_with fail
       refine ret_marks (MK.out.keep (KeepM.set _ _ _)) fun W' hc => ⟨.bool true, ?_, rfl, ?_⟩
       ·have hr := hc.cells w.heap.size #[.bool true] 4 (0, 0) (by rw [heap_setCell_same _ _ _ _ _ _ FW.out]; simp)
        have hcell : W'.cell? ⟨w.heap.size, 0, none⟩ = some (.bool true) := by rw [cell_of_row _ _ _ _ _ _ hr]; rfl
        simp [results, Tryz.f8, go_sem, hcell]
       ·exact ((Ba.out.then A10.out).setCell (p := ⟨w.heap.size, 0, none⟩) (Nat.le_refl _) _).trans (hc.below.mono HWA.out)
    ·exact absurd (by rw [HG1.out]; rfl) h
 ·have hne : (((newF D).1.err : Int) != 0) = true := by rw [bne_iff_ne]; omega
  generalize ((newF D).1.err : Int) = E at *
  generalize (newF D).1.file = F at *
  generalize (newF D).1.at' = A at *
  clear hz
  have c2 : w3.cell? ⟨w.heap.size, 0, none⟩ = some (.bool false) := by rw [cell_of_row _ _ _ _ _ _ F3.out]; rfl
  have z2 := frozen_of_row w3 w.heap.size 0 _ _ F3.out
  have t2 := lt_of_block F3.out
  go_wp2_with fail
  refine ret_marks (MarksIn.nil w.heap.size _) fun W' hc => ⟨.bool true, ?_, rfl, ?_⟩
  ·have hr := hc.cells w.heap.size #[.bool true] 4 (0, 0) ((Below.heap_alloc _ _ _ (by simp; omega)).trans ((Below.heap_alloc _ _ _ (by simp; exact t2)).trans (by rw [heap_setCell_same _ _ _ _ _ _ F3.out]; simp)))
   have hcell : W'.cell? ⟨w.heap.size, 0, none⟩ = some (.bool true) := by rw [cell_of_row _ _ _ _ _ _ hr]; rfl
   simp [results, Tryz.f8, go_sem, hcell]
  ·exact (((B3.out.setCell (p := ⟨w.heap.size, 0, none⟩) (Nat.le_refl _) _).alloc (by simp; exact B3.out.size) _).alloc (by simp; have := B3.out.size; omega) _).trans hc.below
end Go.Proofs.YtjlfchnnhglbjaaGreat
namespace Go.Proofs.YtjlfchnnhglbjaaGreat
open Go.ChangeShapes Go.WideShapes Go.ChangeAt Go.RowKit
open Go.ChangeMaps (open_string shut_string)
theorem own : ownKnob Tryz.prog.godebug = none := by kernel_rfl
theorem laidOut : laidOutB Tryz.prog = true := by kernel_rfl
set_option maxRecDepth 100000 in
theorem lifted (os : Os) (started : os.Started) (H : Type) (enc : TypeId × Value → H) :
  ReturnsInHanded {} Tryz.checked os 8 .any (Rows.tablePartedSpec.pre6 enc Tryz.prog Tryz.f8 Rows.tablePartedRow.domain false) (Rows.tablePartedSpec.post enc Tryz.prog Tryz.f8 false true false false) := by
 refine returnsInHanded_of_change (C := Tryz.checked) own started (by kernel_rfl) Tryz.func8
  (ChangeSpec.witness6 (enc := enc) (C := Tryz.checked) false ⟨#[], #[.slice none 0 0, .int .i64 0], []⟩ 8 (by kernel_rfl) (by kernel_rfl) (by kernel_rfl) (by kernel_rfl)) ?_
 intro W base args ds gs before hval0 hW hcnd _
 have hval : ∀ (j : Nat) t v, Tryz.f8.params[j]? = some t → args[j]? = some v → Value.okWide Tryz.prog W .any base t v := hval0
 have hW' := hW
 obtain ⟨p, q, hA0, hV, rfl, hfz, hnd⟩ := hW
 have hA : DataW.TrodAll enc Tryz.prog W 0 (fun _ => true) true Tryz.f8.params.toList args.toList ds p := hA0
 rw [Tryz.params8] at hA hval
 obtain ⟨v0, vs0, d0, ds0, p0, q0, hargs, rfl, rfl, h0, r0⟩ := trodAll_cons hA
 obtain ⟨v1, vs1, d1, ds1, p1, q1, rfl, rfl, rfl, h1, r1⟩ := trodAll_cons r0
 obtain ⟨rfl, rfl, rfl⟩ := trodAll_nil r1
 obtain rfl : args = #[v0, v1] := by cases args; simp_all
 obtain ⟨rfl, rfl⟩ := trodVars_none hV
 obtain ⟨l, rd, sz⟩ := open_docs (hval 0 23 v0 rfl rfl) h0
 obtain ⟨n, rfl, rfl, rfl, wn⟩ := open_int Tryz.underlying3 (hval 1 3 v1 rfl rfl) h1
 have k0 := h0
 have lt0 : ∀ x ∈ p0, x.block < W.heap.size := by obtain ⟨m, hm⟩ := k0; exact DataW.trod_lt m _ _ _ hm
 clear hA0 hval0
 refine (parted_any n W l v0 rd sz).mono fun e W' ⟨he, bel⟩ => ?_
 subst he
 exact ⟨_, rfl, _, _, _, [], _, [], hW', trodAll_mk1 (shut_bool Tryz.underlying4 _), (trodAll_cons_mk (Below.trod laidOut (by kernel_rfl) (of_decide_eq_true (by kernel_rfl)) k0 bel lt0) (trodAll_cons_mk (shut_int Tryz.underlying3 wn) trodAll_mk0)), rfl, bel.frame _, fun h => by cases h⟩
theorem over : Rows.tablePartedRow.holds Tryz.pinned (OpenSpec.ofChange Rows.tablePartedSpec) :=
 OpenClaim.holds_of_wide 8 Tryz.f8 rfl rfl rfl rfl rfl rfl rfl ⟨rfl, rfl, rfl, rfl, rfl⟩ rfl rfl rfl rfl rfl (by kernel_rfl) Tryz.func8 (by kernel_rfl)
  (of_decide_eq_true (by kernel_rfl)) (by unfold Func.isWrapper; first | (rw [if_pos (by decide +kernel)]; kernel_rfl) | (rw [if_neg (by decide +kernel)]; exact ⟨rfl, rfl⟩))
  (fun os started H enc _ => lifted os started H enc)
theorem tableParted : Rows.TablePartedSaid := over
#print axioms tableParted
end Go.Proofs.YtjlfchnnhglbjaaGreat
