/- ChRings, ChNew, InhP, AliasT, InhQ, InhMem, InhSee, TbTables, InhWalk -/
import Derived.Test.YtbbmdbolkicpcaaGreatDoorING14
import Derived.WalkMore
import Derived.Test.YtbbmdbolkicpcaaGreatDoorING09
import Derived.BigQuiet
import Derived.Deep.Cut
import Derived.Test.YtbbmdbolkicpcaaGreatDoorING13
import Derived.Test.YtbbmdbolkicpcaaGreatDoorING11
import Derived.Test.YtbbmdbolkicpcaaGreatDoorING05
import Derived.Deep.RegionHeld3
set_option linter.unusedVariables false
set_option linter.unusedSimpArgs false
namespace Go.Proofs.YtbbmdbolkicpcaaGreatDoor
open Go.RowKit Go.Lib Go.Sort Go.Maps
def RingOut (D : List (Str × Str)) (k : Str) (w : World) (e : Ending) (w' : World) : Prop := (∃ b : Bool, e = .returned (.bool b) ∧ (b = true ↔ ringP D k)) ∧ Below w.heap.size w w'
theorem ringOut_yes {D : List (Str × Str)} {k : Str} {w w' : World} (h : ringP D k) (hb : Below w.heap.size w w') : RingOut D k w (.returned (.bool true)) w' := ⟨⟨true, rfl, fun _ => h, fun _ => rfl⟩, hb⟩
theorem ringOut_no {D : List (Str × Str)} {k : Str} {w w' : World} (h : ¬ ringP D k) (hb : Below w.heap.size w w') : RingOut D k w (.returned (.bool false)) w' := ⟨⟨false, rfl, fun e => (by cases e), fun e => absurd e h⟩, hb⟩
structure RingSt (w : World) (D : List (Str × Str)) (k : Str) (g : Nat) (W : World) (j : Nat) (a : Str) (L : List Str) : Prop where
 it : iter D j k = some a
 own : OwnB W w.heap.size j L
 len : L.length = j
 nd : L.Nodup
 mem : ∀ x, x ∈ L ↔ ∃ i, i < j ∧ iter D (i + 1) k = some x
 no : k ∉ L
 gas : (reach D k).length + 1 ≤ j + g
 bel : Below w.heap.size w W
theorem RingSt.room {w W : World} {D : List (Str × Str)} {k a : Str} {g j : Nat} {L : List Str} (hD : saidOK D) (hk : namedB k = true) (h : RingSt w D k g W j a L) : j ≤ (reach D k).length := by
 rw [← h.len]
 refine nodup_le L _ h.nd fun x hx => ?_
 obtain ⟨i, _, hi⟩ := (h.mem x).1 hx
 exact iter_reach hD hk _ _ hi
theorem RingSt.hits {w W : World} {D : List (Str × Str)} {k a : Str} {g j : Nat} {L : List Str} (h : RingSt w D k g W j a L) : ∀ i, i < j → iter D (i + 1) k ≠ some k := fun i hi e => h.no ((h.mem k).2 ⟨i, hi, e⟩)
theorem RingSt.next {w W W' : World} {D : List (Str × Str)} {k a x : Str} {g j : Nat} {L : List Str} (h : RingSt w D k g W j a L) (hs : stepF D a = some x) (hx : x ≠ k) (hm : x ∉ L) (own : OwnB W' w.heap.size (j + 1) (x :: L)) (hg : 1 ≤ g) (bel : Below w.heap.size w W') : RingSt w D k (g - 1) W' (j + 1) x (x :: L) := by
 have hit : iter D (j + 1) k = some x := by rw [iter, h.it]; exact hs
 refine ⟨hit, own, by rw [List.length_cons, h.len], List.nodup_cons.2 ⟨hm, h.nd⟩, fun y => ?_, ?_, by have := h.gas; omega, bel⟩
 ·rw [List.mem_cons, h.mem]
  constructor
  ·rintro (rfl | ⟨i, hi, hy⟩)
   ·exact ⟨j, by omega, hit⟩
   ·exact ⟨i, by omega, hy⟩
  ·rintro ⟨i, hi, hy⟩
   by_cases he : i = j
   ·subst he; rw [hit] at hy; cases hy; exact Or.inl rfl
   ·exact Or.inr ⟨i, by omega, hy⟩
 ·rw [List.mem_cons]
  rintro (e | e)
  ·exact hx e.symm
  ·exact h.no e
set_option maxRecDepth 100000 in
set_option maxHeartbeats 16000000 in
theorem rings_any (w : World) (v : Value) (D : List (Str × Str)) (k : Str) (h : ChRd w v D) (hD : saidOK D) (hk : namedB k = true) (hsz : D.length ≤ 4398046511104) :
  Calls Tryz.prog 56 #[v, .string ⟨k.toArray⟩] w fun e w' => RingOut D k w e w' := by
 have hmm := @run_makeMap Tryz.prog
 have PA := hid (fun W (hb : Below w.heap.size w W) (a : Str) (ha : a.length ≤ maxLen) => parent_any W v D a (h.below hb) ha)
 have hrl := reach_len D k
 have HRL := hid hrl
 have HD := hid hD
 have HK := hid hk
 have HSZ := hid hsz
 obtain ⟨bc, bm, n0, rfl, _, _, _⟩ := h
 clear hrl hD hsz
 have hb0 : Below w.heap.size w (w.alloc (.map #[] 0)) := (Below.refl _ _).alloc (Nat.le_refl _) _
 have ST0 := hid (show RingSt w D k ((reach D k).length + 1) (w.alloc (.map #[] 0)) 0 k [] from ⟨rfl, OwnB.made w, rfl, List.nodup_nil, fun x => ⟨fun h => (by cases h), fun ⟨i, hi, _⟩ => (by omega)⟩, by simp, by omega, hb0⟩)
 clear hb0 hk
 obtain ⟨N, hN⟩ : ∃ N, N = (reach D k).length := ⟨_, rfl⟩
 have HN := hid hN
 clear hN
 go_enter Tryz.func56, Tryz.ntmps56
 go_wp2_with fail
 go_step3
 go_wp2_with fail
 go_step3
 go_wp2_with fail
 go_loopg [6] (N + 1) (fun g va W => ∃ (j : Nat) (a : Str) (L : List Str), va = .string ⟨a.toArray⟩ ∧ RingSt w D k g W j a L)
 case atStart => exact ⟨0, k, [], rfl, by rw [HN.out]; exact ST0.out⟩
 case round =>
  obtain ⟨j, a, L, rfl, st⟩ := hrel
  rename World => w1
  have ST := hid st
  have hal : a.length ≤ maxLen := Nat.le_trans (named_len (iter_named HD.out HK.out j a st.it)) (by decide)
  have hbl := st.bel
  have HRM := hid (RingSt.room HD.out HK.out st)
  clear st ST0
  go_wp2_with fail
  refine (PA.out _ hbl a hal).mono ?_
  rintro e w2 ⟨rfl, hb2⟩
  have HB2 := hid (hbl.then hb2)
  have HOW := hid (ST.out.own.below hb2)
  clear hb2 hbl hal
  generalize hq : parentF D a = q
  have HQ := hid hq
  clear hq
  obtain ⟨x, ok⟩ := q
  simp only
  cases ok with
  | false =>
   have HNO := hid (ring_no1 ST.out.it (parent_none (by rw [HQ.out])) ST.out.hits)
   go_wp2_with fail
   go_ret
   exact ringOut_no HNO.out HB2.out
  | true =>
   have HS := hid (parent_step HQ.out)
   have HXN := hid (step_named HD.out HS.out)
   have hxl : x.length ≤ maxLen := Nat.le_trans (named_len HXN.out) (by decide)
   by_cases hxk : x = k
   ·have hub : (x == k) = true := by rw [hxk]; simp
    have HYES := hid (show ringP D k from ⟨j, by rw [iter, ST.out.it]; show stepF D a = some k; rw [← hxk]; exact HS.out⟩)
    clear hxk
    go_wp2_with fail
    go_ret
    exact ringOut_yes HYES.out HB2.out
   ·have hub : (x == k) = false := by rw [beq_eq_false_iff_ne]; exact hxk
    have HXK := hid hxk
    clear hxk
    by_cases hm : x ∈ L
    ·have HM := hid (show decide (x ∈ L) = true by simp [hm])
     have HNO := hid (show ¬ ringP D k by
      obtain ⟨i, hi, hx⟩ := (ST.out.mem x).1 hm
      exact ring_no3 ST.out.it HS.out hi hx ST.out.hits)
     clear hm
     go_wp2_with (at_lookup; refine wpList_met_b HOW.out rfl _ _ rfl rfl x rfl hxl true HM.out ?_)
     go_ret
     exact ringOut_no HNO.out HB2.out
    ·have HM := hid (show decide (x ∈ L) = false by simp [hm])
     have HXL := hid hm
     have hjn : j < maxLen := by have := HRM.out; have := HRL.out; have := HSZ.out; unfold maxLen; omega
     have HJN := hid hjn
     clear hm hjn
     go_wp2_with (first
      | (at_lookup; refine wpList_met_b HOW.out rfl _ _ rfl rfl x rfl hxl false HM.out ?_)
      | (at_mapUpdate; refine wpList_mark HOW.out rfl _ _ _ rfl rfl HJN.out x rfl rfl hxl ?_; intro w3 hown3 hgr3))
     have HO3 := hid hown3
     have HB3 := hid (HB2.out.grown hgr3 HB2.out.size (fun j hj => by cases hj; exact Nat.le_refl _))
     clear hown3 hgr3
     go_wp2_with fail
     have hgk : 1 ≤ gk := by have := HRM.out; have := ST.out.gas; omega
     go_roundg (gk - 1)
     case measure => omega
     case rel => exact ⟨j + 1, x, x :: L, rfl, ST.out.next HS.out HXK.out HXL.out HO3.out hgk HB3.out⟩
end Go.Proofs.YtbbmdbolkicpcaaGreatDoor
namespace Go.Proofs.YtbbmdbolkicpcaaGreatDoor
open Go.RowKit Go.Lib Go.Sort Go.Maps
def ChAt (B : Nat) (w : World) (v : Value) (D : List (Str × Str)) : Prop :=
 ∃ bc bm n, v = .pointer (some ⟨bc, 0, none⟩) ∧ B ≤ bc ∧ B ≤ bm ∧ w.heap[bc]? = some (.cells #[.map (some bm)] 111 (0, 0)) ∧ OwnM w bm n D
theorem ChAt.rd {B : Nat} {w : World} {v : Value} {D : List (Str × Str)} (h : ChAt B w v D) : ChRd w v D := by
 obtain ⟨bc, bm, n, h1, _, _, h2, h3⟩ := h
 exact ⟨bc, bm, n, h1, lt_of_block h2, by rw [cell_of_row _ _ _ _ _ _ h2]; rfl, h3⟩
theorem ChAt.below {B : Nat} {w w' : World} {v : Value} {D : List (Str × Str)} (h : ChAt B w v D) (hb : Below w.heap.size w w') : ChAt B w' v D := by
 obtain ⟨bc, bm, n, h1, h2, h3, h4, h5⟩ := h
 exact ⟨bc, bm, n, h1, h2, h3, (hb.block _ (lt_of_block h4)).trans h4, h5.below hb⟩
def NewRes (w : World) (l : List (Str × Str)) (e : Ending) (w' : World) : Prop :=
 ∃ (er i : Nat) (vc : Value), e = .returned (.tuple #[vc, .agg #[.int .i64 er, .int .i64 i]]) ∧ NewOut l er i ∧ (er = 0 → ChAt w.heap.size w' vc l) ∧ (er ≠ 0 → vc = .pointer none) ∧ Below w.heap.size w w'
def F2 (w : World) (B e i : Nat) : World := (w.setCell ⟨B, 0, none⟩ (.int .i64 e)).setCell ⟨B, 1, none⟩ (.int .i64 i)
structure NewSt (w : World) (l : List (Str × Str)) (W : World) (n : Nat) : Prop where
 bad : badAt [] l = badAt (l.take n) (l.drop n)
 own : OwnM W (w.heap.size + 1) n (l.take n)
 f : W.heap[w.heap.size]? = some (.cells #[.int .i64 0, .int .i64 0] 69 (0, 0))
 c : W.heap[w.heap.size + 1 + 1]? = some (.cells #[.map (some (w.heap.size + 1))] 111 (0, 0))
 bel : Below w.heap.size w W
theorem NewSt.below {w W W' : World} {l : List (Str × Str)} {n : Nat} (h : NewSt w l W n) (hb : Below W.heap.size W W') : NewSt w l W' n :=
 ⟨h.bad, h.own.below hb, (hb.block _ (lt_of_block h.f)).trans h.f, (hb.block _ (lt_of_block h.c)).trans h.c, h.bel.then hb⟩
theorem NewSt.step {w W W' : World} {l : List (Str × Str)} {n : Nat} (h : NewSt w l W n) (hn : n < l.length) (h1 : (namedB l[n].1 = true ∧ namedB l[n].2 = true) ∧ l[n].1 ≠ tRoot) (h2 : look (l.take n) l[n].1 = none)
  (own : OwnM W' (w.heap.size + 1) (n + 1) (l.take n ++ [(l[n].1, l[n].2)])) (hg : W.grownBy W' (some (w.heap.size + 1))) : NewSt w l W' (n + 1) := by
 have hf := lt_of_block h.f
 have hc := lt_of_block h.c
 refine ⟨?_, ?_, (hg.block _ hf (by simp)).trans h.f, (hg.block _ hc (by simp)).trans h.c, h.bel.grown hg h.bel.size (fun j hj => by cases hj; omega)⟩
 ·rw [h.bad, bad_step hn, if_pos h1, if_pos h2]
 ·rw [List.take_add_one, List.getElem?_eq_getElem hn]; exact own
theorem new_bad2 {l : List (Str × Str)} {n : Nat} (hb : badAt [] l = badAt (l.take n) (l.drop n)) (hn : n < l.length) (h1 : ¬ ((namedB l[n].1 = true ∧ namedB l[n].2 = true) ∧ l[n].1 ≠ tRoot)) : NewOut l 2 n :=
 Or.inl (by rw [hb, bad_step hn, if_neg h1])
theorem new_bad211 {l : List (Str × Str)} {n : Nat} {y : Str} (hb : badAt [] l = badAt (l.take n) (l.drop n)) (hn : n < l.length) (h1 : (namedB l[n].1 = true ∧ namedB l[n].2 = true) ∧ l[n].1 ≠ tRoot) (h2 : look (l.take n) l[n].1 = some y) : NewOut l 211 n :=
 Or.inl (by rw [hb, bad_step hn, if_pos h1, if_neg (by rw [h2]; simp)])
theorem F2_row {w : World} {B : Nat} (e i : Nat) (h : w.heap[B]? = some (.cells #[.int .i64 0, .int .i64 0] 69 (0, 0))) : (F2 w B e i).heap[B]? = some (.cells #[.int .i64 e, .int .i64 i] 69 (0, 0)) := by
 unfold F2
 rw [heap_setCell_same _ _ _ _ _ _ (heap_setCell_same _ _ _ _ _ _ h)]
 simp
theorem F2_other {w : World} {B b : Nat} (e i : Nat) (h : b ≠ B) : (F2 w B e i).heap[b]? = w.heap[b]? := by
 unfold F2
 rw [heap_setCell_other _ _ _ _ h, heap_setCell_other _ _ _ _ h]
theorem F2_below {w w0 : World} {B : Nat} (e i : Nat) (h : Below B w0 w) : Below B w0 (F2 w B e i) := (h.setCell (Nat.le_refl _) _).setCell (Nat.le_refl _) _
theorem new_ret {w W : World} {l : List (Str × Str)} (er i : Nat) (vc : Value) (hf : W.heap[w.heap.size]? = some (.cells #[.int .i64 0, .int .i64 0] 69 (0, 0))) (hb : Below w.heap.size w W) (ho : NewOut l er i)
  (h0 : er = 0 → ChAt w.heap.size (F2 W w.heap.size er i) vc l) (h1 : er ≠ 0 → vc = .pointer none) {a : Act} (hd : a.defers = []) (h2 : a.tmps.getD 2 undef = vc) (h3 : a.tmps.getD 3 undef = .pointer (some ⟨w.heap.size, 0, none⟩)) :
  bodyPost Tryz.prog Tryz.f28 (fun e w' => NewRes w l e w') Exit.ret a (F2 W w.heap.size er i) := by
 have hr := F2_row er i hf
 have hbb := F2_below er i hb
 generalize F2 W w.heap.size er i = V at *
 have e0 : V.cell? ⟨w.heap.size, 0, none⟩ = some (.int .i64 er) := by rw [cell_of_row _ _ _ _ _ _ hr]; rfl
 have e1 : V.cell? ⟨w.heap.size, 1, none⟩ = some (.int .i64 i) := by rw [cell_of_row _ _ _ _ _ _ hr]; rfl
 refine bodyPost_ret (v := .tuple #[vc, .agg #[.int .i64 er, .int .i64 i]]) ?_ hd ⟨er, i, vc, rfl, ho, h0, h1, hbb⟩
 obtain ⟨tmps, defers⟩ := a
 simp only [Array.getD_eq_getD_getElem?] at h2 h3
 simp [results, Tryz.results28, go_sem, h2, h3, e0, e1]
theorem NewSt.start (w : World) (l : List (Str × Str)) : NewSt w l (((w.alloc (.cells #[.int .i64 0, .int .i64 0] 69)).alloc (.map #[] 0)).alloc (.cells #[.map (some (w.heap.size + 1))] 111)) 0 := by
 have s1 : (w.alloc (.cells #[.int .i64 0, .int .i64 0] 69)).heap.size = w.heap.size + 1 := by simp
 have s2 : ((w.alloc (.cells #[.int .i64 0, .int .i64 0] 69)).alloc (.map #[] 0)).heap.size = w.heap.size + 1 + 1 := by simp
 refine ⟨by simp, ?_, ?_, ?_, ?_⟩
 ·have := OwnM.made (w.alloc (.cells #[.int .i64 0, .int .i64 0] 69))
  rw [s1] at this
  exact this.block (heap_alloc_old _ _ (by rw [s2]; omega))
 ·exact (heap_alloc_old _ _ (by rw [s2]; omega)).trans ((heap_alloc_old _ _ (by rw [s1]; omega)).trans (heap_alloc_new w _))
 ·have := heap_alloc_new ((w.alloc (.cells #[.int .i64 0, .int .i64 0] 69)).alloc (.map #[] 0)) (.cells #[.map (some (w.heap.size + 1))] 111)
  rw [s2] at this
  exact this
 ·exact (((Below.refl _ _).alloc (Nat.le_refl _) _).alloc (by rw [s1]; omega) _).alloc (by rw [s2]; omega) _
theorem NewSt.chRd {w W : World} {l : List (Str × Str)} (h : NewSt w l W l.length) : ChRd W (.pointer (some ⟨w.heap.size + 1 + 1, 0, none⟩)) l :=
 ⟨_, w.heap.size + 1, l.length, rfl, lt_of_block h.c, by rw [cell_of_row _ _ _ _ _ _ h.c]; rfl, by have := h.own; rw [List.take_length] at this; exact this⟩
theorem NewSt.okB {w W : World} {l : List (Str × Str)} (h : NewSt w l W l.length) : badAt [] l = none := by
 have := h.bad
 rw [List.take_length, List.drop_length] at this
 rw [this]; rfl
theorem NewSt.done {w W : World} {l : List (Str × Str)} (h : NewSt w l W l.length) : ChAt w.heap.size (F2 W w.heap.size 0 0) (.pointer (some ⟨w.heap.size + 1 + 1, 0, none⟩)) l := by
 have e1 : (F2 W w.heap.size 0 0).heap[w.heap.size + 1 + 1]? = W.heap[w.heap.size + 1 + 1]? := F2_other 0 0 (by omega)
 have hc := e1.trans h.c
 refine ⟨_, w.heap.size + 1, l.length, rfl, by omega, by omega, hc, ?_⟩
 have := h.own.block (w' := F2 W w.heap.size 0 0) (F2_other 0 0 (by omega))
 rw [List.take_length] at this
 exact this
set_option maxRecDepth 100000 in
set_option maxHeartbeats 16000000 in
theorem new_any (w : World) (va : Value) (l : List (Str × Str)) (hl : RdP w va l) (hp : PSz l) (hsz : l.length ≤ 10000000000) :
  Calls Tryz.prog 28 #[va] w fun e w' => NewRes w l e w' := by
 have hmm := @run_makeMap Tryz.prog
 obtain ⟨ao, cp, rfl, hlen, hcell⟩ := hl
 have HCELL := hid hcell
 have HP := hid hp
 have HSZ := hid hsz
 have NM := hid (fun W (s : Str) (hs : s.length ≤ maxLen) => named_any s W hs)
 simp only [NamedOut] at NM
 have ST0 := hid (NewSt.start w l)
 clear hcell hp hsz
 go_enter Tryz.func28, Tryz.ntmps28
 go_upto_region 2 with (fail)
 generalize (((w.alloc (.cells #[.int .i64 0, .int .i64 0] 69)).alloc (.map #[] 0)).alloc (.cells #[.map (some (w.heap.size + 1))] 111)) = w0 at *
 go_wp2_with fail
 go_loopg [20] l.length (fun g vi W => ∃ n : Nat, n ≤ l.length ∧ l.length ≤ n + g ∧ vi = .int .i64 n ∧ NewSt w l W n)
 case atStart => exact ⟨0, Nat.zero_le _, by omega, rfl, ST0.out⟩
 case round =>
  obtain ⟨n, hn, hg, rfl, st⟩ := hrel
  rename World => w1
  have HG := hid hg
  have ST1 := hid st
  clear st ST0 hg
  by_cases hlt : n < l.length
  ·have hne : l ≠ [] := by intro e; rw [e] at hlt; simp at hlt
   obtain ⟨p1, o1, rfl, hp1, hc1⟩ := HCELL.out hne
   have hps := HP.out _ (List.getElem_mem hlt)
   obtain ⟨kv, hkv⟩ : ∃ kv, kv = l[n]'hlt := ⟨_, rfl⟩
   obtain ⟨k, v⟩ := kv
   have hk : (l[n]'hlt).1 = k := by rw [← hkv]
   have hv : (l[n]'hlt).2 = v := by rw [← hkv]
   have q1 := (ST1.out.bel.cell (p := ⟨p1, o1 + n * 2 + 0, none⟩) hp1).trans (hc1 n 0 (S k) hlt (by rw [← hkv]; rfl))
   have q2 := (ST1.out.bel.cell (p := ⟨p1, o1 + n * 2 + 1, none⟩) hp1).trans (hc1 n 1 (S v) hlt (by rw [← hkv]; rfl))
   rw [S] at q1 q2
   rw [Nat.add_zero] at q1
   have hkl : k.length ≤ maxLen := by rw [← hk]; exact hps.1
   have hvl : v.length ≤ maxLen := by rw [← hv]; exact hps.2
   have HK := hid hk
   have HV := hid hv
   have hni : (n : Int) < (l.length : Int) := by omega
   have hn0 : (0 : Int) ≤ (n : Int) := by omega
   clear hk hv hkv hc1 hps hne
   go_upto_region 5 with (fail)
   have HPB := hid (heap_alloc_new w1 (.cells #[.string ⟨k.toArray⟩, .string ⟨v.toArray⟩] 76))
   have HB2 := hid (show Below w1.heap.size w1 (w1.alloc (.cells #[.string ⟨k.toArray⟩, .string ⟨v.toArray⟩] 76)) from (Below.refl _ _).alloc (Nat.le_refl _) _)
   generalize w1.alloc (.cells #[.string ⟨k.toArray⟩, .string ⟨v.toArray⟩] 76) = w2 at *
   have ST2 := hid (ST1.out.below HB2.out)
   clear q1 q2 HB2
   have c0 : w2.cell? ⟨w1.heap.size, 0, none⟩ = some (.string ⟨k.toArray⟩) := by rw [cell_of_row _ _ _ _ _ _ HPB.out]; rfl
   have lt0 := lt_of_block HPB.out
   go_wp2_with fail
   refine (NM.out _ k hkl).mono ?_
   rintro e w3 ⟨v3, rfl, ⟨vv3, kv3, rfl, ⟨a3, b3, rfl, _, _⟩, ⟨a4, b4, rfl, _, _⟩⟩, hb3⟩
   generalize namedT k = t3 at *
   simp only [tagCells, S]
   clear c0 lt0
   have HPB3 := hid ((hb3.block _ (lt_of_block HPB.out)).trans HPB.out)
   have ST3 := hid (ST2.out.below hb3)
   clear hb3 HPB ST2
   go_upto_region 6 with (fail)
   have HB4 := hid (show Below w3.heap.size w3 (w3.alloc (.cells #[.string ⟨t3.lang.toArray⟩, .string ⟨t3.script.toArray⟩, .string ⟨t3.region.toArray⟩, .slice a3 t3.vars.length b3, .slice a4 t3.keys.length b4] 113)) from (Below.refl _ _).alloc (Nat.le_refl _) _)
   generalize w3.alloc (.cells #[.string ⟨t3.lang.toArray⟩, .string ⟨t3.script.toArray⟩, .string ⟨t3.region.toArray⟩, .slice a3 t3.vars.length b3, .slice a4 t3.keys.length b4] 113) = w4 at *
   have HPB4 := hid ((HB4.out.block _ (lt_of_block HPB3.out)).trans HPB3.out)
   have ST4 := hid (ST3.out.below HB4.out)
   clear HB4 HPB3 ST3
   have c1 : w4.cell? ⟨w1.heap.size, 1, none⟩ = some (.string ⟨v.toArray⟩) := by rw [cell_of_row _ _ _ _ _ _ HPB4.out]; rfl
   have lt1 := lt_of_block HPB4.out
   go_wp2_with fail
   refine (NM.out _ v hvl).mono ?_
   rintro e w5 ⟨v5, rfl, ⟨vv5, kv5, rfl, ⟨a5, b5, rfl, _, _⟩, ⟨a6, b6, rfl, _, _⟩⟩, hb5⟩
   generalize namedT v = t5 at *
   simp only [tagCells, S]
   clear c1 lt1
   have HPB5 := hid ((hb5.block _ (lt_of_block HPB4.out)).trans HPB4.out)
   have ST5 := hid (ST4.out.below hb5)
   clear hb5 HPB4 ST4
   go_upto_region 7 with (fail)
   have HB6 := hid (show Below w5.heap.size w5 (w5.alloc (.cells #[.string ⟨t5.lang.toArray⟩, .string ⟨t5.script.toArray⟩, .string ⟨t5.region.toArray⟩, .slice a5 t5.vars.length b5, .slice a6 t5.keys.length b6] 113)) from (Below.refl _ _).alloc (Nat.le_refl _) _)
   generalize w5.alloc (.cells #[.string ⟨t5.lang.toArray⟩, .string ⟨t5.script.toArray⟩, .string ⟨t5.region.toArray⟩, .slice a5 t5.vars.length b5, .slice a6 t5.keys.length b6] 113) = w6 at *
   have HPB6 := hid ((HB6.out.block _ (lt_of_block HPB5.out)).trans HPB5.out)
   have ST6 := hid (ST5.out.below HB6.out)
   clear HB6 HPB5 ST5
   have d0 : w6.cell? ⟨w1.heap.size, 0, none⟩ = some (.string ⟨k.toArray⟩) := by rw [cell_of_row _ _ _ _ _ _ HPB6.out]; rfl
   have d1 : w6.cell? ⟨w1.heap.size, 1, none⟩ = some (.string ⟨v.toArray⟩) := by rw [cell_of_row _ _ _ _ _ _ HPB6.out]; rfl
   have ltd := lt_of_block HPB6.out
   have y0 : w6.cell? ⟨w.heap.size, 0, none⟩ = some (.int .i64 0) := by rw [cell_of_row _ _ _ _ _ _ ST6.out.f]; rfl
   have y1 : w6.cell? ⟨w.heap.size, 1, none⟩ = some (.int .i64 0) := by rw [cell_of_row _ _ _ _ _ _ ST6.out.f]; rfl
   have fy0 := frozen_of_row w6 w.heap.size 0 _ _ ST6.out.f
   have fy1 := frozen_of_row w6 w.heap.size 1 _ _ ST6.out.f
   have lty := lt_of_block ST6.out.f
   have cc : w6.cell? ⟨w.heap.size + 1 + 1, 0, none⟩ = some (.map (some (w.heap.size + 1))) := by rw [cell_of_row _ _ _ _ _ _ ST6.out.c]; rfl
   have ltc := lt_of_block ST6.out.c
   by_cases hgood : (namedB k = true ∧ namedB v = true) ∧ k ≠ tRoot
   ·obtain ⟨⟨g1, g2⟩, g3⟩ := hgood
    have hub : (k == [114, 111, 111, 116]) = false := by rw [beq_eq_false_iff_ne]; exact g3
    have hub2 : (k != [114, 111, 111, 116]) = true := by rw [bne_iff_ne]; exact g3
    have HGOOD := hid (show (namedB (l[n]'hlt).1 = true ∧ namedB (l[n]'hlt).2 = true) ∧ (l[n]'hlt).1 ≠ tRoot by rw [HK.out, HV.out]; exact ⟨⟨g1, g2⟩, g3⟩)
    rw [g1, g2]
    clear g1 g2 g3
    have LK := ST6.out.own.look_run k hkl
    have LKd : ∀ m, (Instr.lookup 109 (.map (some (w.heap.size + 1))) (.string ⟨k.toArray⟩) true).run Tryz.prog (w6.drewN m) = .ok (.tuple #[.string ⟨((look (l.take n) k).getD []).toArray⟩, .bool (look (l.take n) k).isSome]) (w6.drewN m) := fun m => (show OwnM (w6.drewN m) (w.heap.size + 1) n (l.take n) from ST6.out.own.block rfl).look_run k hkl
    cases hlk : look (l.take n) k with
    | some y =>
     rw [hlk] at LK LKd
     simp only [Option.getD_some, Option.isSome_some] at LK LKd
     have HLK := hid hlk
     clear hlk
     go_wp2_with fail
     go_quiet (fail)
     go_wp2_with fail
     change bodyPost _ _ _ _ _ (F2 (w6.drewN _) w.heap.size 211 n)
     exact new_ret (W := w6.drewN nq) 211 n (.pointer none) ST6.out.f (below_drewN ST6.out.bel _) (new_bad211 ST6.out.bad hlt HGOOD.out (by rw [HK.out]; exact HLK.out)) (fun h => by cases h) (fun _ => rfl) rfl rfl rfl
    | none =>
     rw [hlk] at LK LKd
     simp only [Option.getD_none, Option.isSome_none] at LK LKd
     have HLK := hid hlk
     clear hlk
     go_wp2_with fail
     go_quiet (fail)
     go_wp2_with fail
     have HB7 := hid (show Below w6.heap.size w6 (w6.drewN nq) from below_drewN (Below.refl _ _) nq)
     clear LK LKd d0 d1 ltd y0 y1 fy0 fy1 lty cc ltc
     generalize w6.drewN nq = w7 at *
     have HPB7 := hid ((HB7.out.block _ (lt_of_block HPB6.out)).trans HPB6.out)
     have ST7 := hid (ST6.out.below HB7.out)
     clear HB7 HPB6 ST6
     have d0 : w7.cell? ⟨w1.heap.size, 0, none⟩ = some (.string ⟨k.toArray⟩) := by rw [cell_of_row _ _ _ _ _ _ HPB7.out]; rfl
     have d1 : w7.cell? ⟨w1.heap.size, 1, none⟩ = some (.string ⟨v.toArray⟩) := by rw [cell_of_row _ _ _ _ _ _ HPB7.out]; rfl
     have ltd := lt_of_block HPB7.out
     have cc : w7.cell? ⟨w.heap.size + 1 + 1, 0, none⟩ = some (.map (some (w.heap.size + 1))) := by rw [cell_of_row _ _ _ _ _ _ ST7.out.c]; rfl
     have ltc := lt_of_block ST7.out.c
     obtain ⟨w8, hrun, hown8, hgr8⟩ := (show OwnM w7.drew (w.heap.size + 1) n (l.take n) from ST7.out.own).say_run (by have := HSZ.out; unfold maxLen; omega) k v hkl hvl HLK.out
     have HO8 := hid hown8
     have HG8 := hid hgr8
     clear hown8 hgr8
     go_region
     all_goals go_wp2_with fail
     all_goals go_roundg (gk - 1)
     all_goals first
      | (have := HG.out; omega)
      | exact ⟨n + 1, by omega, by have := HG.out; omega, by simp, NewSt.step (W := w7.drew) (show NewSt w l w7.drew n from ⟨ST7.out.bad, ST7.out.own, ST7.out.f, ST7.out.c, ST7.out.bel.drew⟩) hlt HGOOD.out (by rw [HK.out]; exact HLK.out) (by rw [HK.out, HV.out]; exact HO8.out) HG8.out⟩
   ·have HBAD := hid (show ¬ ((namedB (l[n]'hlt).1 = true ∧ namedB (l[n]'hlt).2 = true) ∧ (l[n]'hlt).1 ≠ tRoot) by rw [HK.out, HV.out]; exact hgood)
    have hout := hid (new_bad2 ST6.out.bad hlt HBAD.out)
    cases hn1 : namedB k with
    | false =>
     clear hgood
     go_wp2_with fail
     change bodyPost _ _ _ _ _ (F2 w6 w.heap.size 2 n)
     exact new_ret 2 n (.pointer none) ST6.out.f ST6.out.bel hout.out (fun h => by cases h) (fun _ => rfl) rfl rfl rfl
    | true =>
     cases hn2 : namedB v with
     | false =>
      clear hgood
      go_wp2_with fail
      change bodyPost _ _ _ _ _ (F2 w6 w.heap.size 2 n)
      exact new_ret 2 n (.pointer none) ST6.out.f ST6.out.bel hout.out (fun h => by cases h) (fun _ => rfl) rfl rfl rfl
     | true =>
      have hkr : k = tRoot := by
       apply Classical.byContradiction
       intro hc
       exact hgood ⟨⟨hn1, hn2⟩, hc⟩
      have hub : (k == [114, 111, 111, 116]) = true := by rw [hkr]; rfl
      have hub2 : (k != [114, 111, 111, 116]) = false := by rw [hkr]; rfl
      clear hgood hkr
      go_wp2_with fail
      change bodyPost _ _ _ _ _ (F2 w6 w.heap.size 2 n)
      exact new_ret 2 n (.pointer none) ST6.out.f ST6.out.bel hout.out (fun h => by cases h) (fun _ => rfl) rfl rfl rfl
  ·have hnl : n = l.length := by omega
   subst hnl
   have HNB := hid ST1.out.okB
   have HSA := hid (bad_none (done := []) HNB.out (fun p hp => by cases hp))
   have RI := hid (fun W (k : Str) (hst : NewSt w l W l.length) (hk : namedB k = true) => rings_any W _ l k hst.chRd HSA.out hk (by have := HSZ.out; omega))
   go_wp2_with fail
   go_loopg [74] l.length (fun g vi W => ∃ m : Nat, m ≤ l.length ∧ l.length ≤ m + g ∧ vi = .int .i64 m ∧ NewSt w l W l.length ∧ ∀ j p, j < m → l[j]? = some p → ¬ ringP l p.1)
   case atStart => exact ⟨0, Nat.zero_le _, by omega, rfl, ST1.out, fun j p hj => by omega⟩
   case round =>
    obtain ⟨m, hm, hg2, rfl, st, hno⟩ := hrel
    rename World => w2
    have HG2 := hid hg2
    have ST2 := hid st
    have HNO := hid hno
    clear st hg2 hno ST1
    by_cases hlt2 : m < l.length
    ·have hne : l ≠ [] := by intro e; rw [e] at hlt2; simp at hlt2
     obtain ⟨p1, o1, rfl, hp1, hc1⟩ := HCELL.out hne
     obtain ⟨kv, hkv⟩ : ∃ kv, kv = l[m]'hlt2 := ⟨_, rfl⟩
     obtain ⟨k, v⟩ := kv
     have hk : (l[m]'hlt2).1 = k := by rw [← hkv]
     have q1 := (ST2.out.bel.cell (p := ⟨p1, o1 + m * 2 + 0, none⟩) hp1).trans (hc1 m 0 (S k) hlt2 (by rw [← hkv]; rfl))
     have q2 := (ST2.out.bel.cell (p := ⟨p1, o1 + m * 2 + 1, none⟩) hp1).trans (hc1 m 1 (S v) hlt2 (by rw [← hkv]; rfl))
     rw [S] at q1 q2
     rw [Nat.add_zero] at q1
     have HKN := hid (show namedB k = true by rw [← hk]; exact (HSA.out _ (List.getElem_mem hlt2)).1)
     have HKV := hid (show l[m]? = some (k, v) by rw [List.getElem?_eq_getElem hlt2, hkv])
     have hni : (m : Int) < (l.length : Int) := by omega
     have hn0 : (0 : Int) ≤ (m : Int) := by omega
     clear hk hkv hc1 hne
     go_upto_region 17 with (fail)
     have HPB := hid (heap_alloc_new w2 (.cells #[.string ⟨k.toArray⟩, .string ⟨v.toArray⟩] 76))
     have HB3 := hid (show Below w2.heap.size w2 (w2.alloc (.cells #[.string ⟨k.toArray⟩, .string ⟨v.toArray⟩] 76)) from (Below.refl _ _).alloc (Nat.le_refl _) _)
     generalize w2.alloc (.cells #[.string ⟨k.toArray⟩, .string ⟨v.toArray⟩] 76) = w3 at *
     have ST3 := hid (ST2.out.below HB3.out)
     clear q1 q2 HB3
     have c0 : w3.cell? ⟨w2.heap.size, 0, none⟩ = some (.string ⟨k.toArray⟩) := by rw [cell_of_row _ _ _ _ _ _ HPB.out]; rfl
     have lt0 := lt_of_block HPB.out
     go_wp2_with fail
     refine (RI.out _ k ST3.out HKN.out).mono ?_
     rintro e w4 ⟨⟨b, rfl, hb⟩, hb4⟩
     have HRB := hid hb
     have ST4 := hid (ST3.out.below hb4)
     clear hb hb4 c0 lt0 HPB
     have y0 : w4.cell? ⟨w.heap.size, 0, none⟩ = some (.int .i64 0) := by rw [cell_of_row _ _ _ _ _ _ ST4.out.f]; rfl
     have y1 : w4.cell? ⟨w.heap.size, 1, none⟩ = some (.int .i64 0) := by rw [cell_of_row _ _ _ _ _ _ ST4.out.f]; rfl
     have fy0 := frozen_of_row w4 w.heap.size 0 _ _ ST4.out.f
     have fy1 := frozen_of_row w4 w.heap.size 1 _ _ ST4.out.f
     have lty := lt_of_block ST4.out.f
     cases b with
     | true =>
      have HOUT := hid (show NewOut l 210 m from Or.inr (Or.inl ⟨HNB.out, rfl, ⟨(k, v), HKV.out, HRB.out.1 rfl⟩, HNO.out⟩))
      go_wp2_with fail
      change bodyPost _ _ _ _ _ (F2 w4 w.heap.size 210 m)
      exact new_ret 210 m (.pointer none) ST4.out.f ST4.out.bel HOUT.out (fun h => by cases h) (fun _ => rfl) rfl rfl rfl
     | false =>
      have HNR := hid (show ¬ ringP l k from fun h => by have := HRB.out.2 h; cases this)
      clear y0 y1 fy0 fy1 lty
      go_wp2_with fail
      go_roundg (gk - 1)
      case measure => have := HG2.out; omega
      case rel => exact ⟨m + 1, by omega, by have := HG2.out; omega, by simp, ST4.out, fun j p hj hp => by
       by_cases he : j = m
       ·subst he; rw [HKV.out] at hp; cases hp; exact HNR.out
       ·exact HNO.out j p (by omega) hp⟩
    ·have hml : m = l.length := by omega
     have HOUT := hid (show NewOut l 0 0 from Or.inr (Or.inr ⟨HNB.out, rfl, rfl, fun p hp => by
      obtain ⟨j, hj, rfl⟩ := List.getElem_of_mem hp
      exact HNO.out j _ (by omega) (List.getElem?_eq_getElem hj)⟩))
     have y0 : w2.cell? ⟨w.heap.size, 0, none⟩ = some (.int .i64 0) := by rw [cell_of_row _ _ _ _ _ _ ST2.out.f]; rfl
     have y1 : w2.cell? ⟨w.heap.size, 1, none⟩ = some (.int .i64 0) := by rw [cell_of_row _ _ _ _ _ _ ST2.out.f]; rfl
     have fy0 := frozen_of_row w2 w.heap.size 0 _ _ ST2.out.f
     have fy1 := frozen_of_row w2 w.heap.size 1 _ _ ST2.out.f
     have lty := lt_of_block ST2.out.f
     clear hml
     go_wp2_with fail
     change bodyPost _ _ _ _ _ (F2 w2 w.heap.size 0 0)
     exact new_ret 0 0 (.pointer (some ⟨w.heap.size + 1 + 1, 0, none⟩)) ST2.out.f ST2.out.bel HOUT.out (fun _ => ST2.out.done) (fun h => absurd rfl h) rfl rfl rfl
end Go.Proofs.YtbbmdbolkicpcaaGreatDoor
namespace Go.Proofs.YtbbmdbolkicpcaaGreatDoor
open Go.Lib
def movedF (p : Str) (a : Al) : Option Str := (restF p a.2).bind fun r => joinF a.1 r
theorem moved_path {p q : Str} {a : Al} (h : movedF p a = some q) : pathB q = true := by
 obtain ⟨r, _, hj⟩ := Option.bind_eq_some_iff.1 h
 obtain ⟨l, m, _, _, h3, _⟩ := join_some hj
 unfold pathB; rw [h3]; rfl
inductive Gen (D : List Al) (S : List Str) : Str → Prop
 | base {p : Str} : p ∈ S → Gen D S p
 | step {p q : Str} {a : Al} : Gen D S p → a ∈ D → movedF p a = some q → Gen D S q
theorem Gen.mono {D : List Al} {S S' : List Str} (h : ∀ p ∈ S, p ∈ S') {p : Str} (g : Gen D S p) : Gen D S' p := by
 induction g with
 | base h1 => exact .base (h _ h1)
 | step _ h1 h2 ih => exact .step ih h1 h2
theorem Gen.path {D : List Al} {S : List Str} (h : ∀ p ∈ S, pathB p = true) {p : Str} (g : Gen D S p) : pathB p = true := by
 cases g with
 | base h1 => exact h _ h1
 | step _ _ h2 => exact moved_path h2
structure KnownIs (D : List Al) (S K : List Str) : Prop where
 nodup : K.Nodup
 gen : ∀ p ∈ K, Gen D S p
 base : ∀ p ∈ S, p ∈ K
 closed : ∀ p ∈ K, ∀ a ∈ D, ∀ q, movedF p a = some q → q ∈ K
theorem KnownIs.all {D : List Al} {S K : List Str} (h : KnownIs D S K) {p : Str} (g : Gen D S p) : p ∈ K := by
 induction g with
 | base h1 => exact h.base _ h1
 | step _ h1 h2 ih => exact h.closed _ ih _ h1 _ h2
def KnownOut (D : List Al) (S : List Str) (ok : Bool) (K : List Str) : Prop :=
 (ok = true ∧ KnownIs D S K ∧ K.length ≤ 16384) ∨ (ok = false ∧ ∃ L : List Str, L.Nodup ∧ (∀ p ∈ L, Gen D S p) ∧ 16384 < L.length)
structure Rsv where
 t : Tb
 par : List (Str × Str)
 als : List Al
 known : List Str
def arrows : Str := [226, 134, 145, 226, 134, 145, 226, 134, 145]
def atF (t : Tb) (s : Str × Str) : Option Str := match findR t.rows s.1 s.2 with
 | none => none
 | some r => if r.text = arrows ∧ s.1 ≠ [] then none else some r.text
def lookF (t : Tb) : List (Str × Str) → List (Str × Str) × Option Str
 | [] => ([], none)
 | s :: r => match atF t s with
  | some v => ([s], some v)
  | none => (s :: (lookF t r).1, (lookF t r).2)
theorem lookF_append (t : Tb) (a b : List (Str × Str)) : lookF t (a ++ b) = match (lookF t a).2 with
  | some v => ((lookF t a).1, some v)
  | none => (a ++ (lookF t b).1, (lookF t b).2) := by
 induction a with
 | nil => rfl
 | cons s r ih =>
  rw [List.cons_append, lookF, lookF]
  cases atF t s with
  | some v => rfl
  | none =>
   simp only
   rw [ih]
   cases (lookF t r).2 <;> rfl
end Go.Proofs.YtbbmdbolkicpcaaGreatDoor
namespace Go.Proofs.YtbbmdbolkicpcaaGreatDoor
open Go.Lib
def nameA (s : Str) : Str × Str := if headB startB s then (s.takeWhile nameB, s.dropWhile nameB) else ([], s)
theorem nameA_split (s : Str) : s = (nameA s).1 ++ (nameA s).2 := by
 unfold nameA
 split
 ·exact (List.takeWhile_append_dropWhile).symm
 ·rfl
theorem nameA_ok {s : Str} (h : (nameA s).1 ≠ []) : nameOk (nameA s).1 = true := by
 unfold nameA at h ⊢
 split
 ·next hc =>
  simp only [nameOk, Bool.and_eq_true]
  refine ⟨?_, List.all_takeWhile⟩
  cases s with
  | nil => exact hc
  | cons c t =>
   have : nameB c = true := by simp only [headB] at hc; simp [nameB, hc]
   rw [List.takeWhile_cons, this]
   exact hc
 ·next hc => rw [if_neg hc] at h; exact absurd rfl h
theorem nameA_len {s : Str} (h : (nameA s).1 ≠ []) : (nameA s).2.length < s.length := by
 have h1 := congrArg List.length (nameA_split s)
 rw [List.length_append] at h1
 have := List.length_pos_iff.2 h
 omega
def quoteA (q : UInt8) (s : Str) : Option (Str × Str) := match s.dropWhile (fun c => c != q) with
 | [] => none
 | _ :: r => if valOk (s.takeWhile (fun c => c != q)) then some (s.takeWhile (fun c => c != q), r) else none
def valueA : Str → Option (Str × Str)
 | [] => none
 | c :: s => if c = 39 ∨ c = 34 then quoteA c s else none
theorem quoteA_ok {q : UInt8} {s v r : Str} (h : quoteA q s = some (v, r)) : valOk v = true ∧ r.length < s.length ∧ v.length + r.length + 1 = s.length := by
 unfold quoteA at h
 split at h
 ·cases h
 ·next c r' he =>
  split at h
  ·next hv =>
   cases h
   have h1 := congrArg List.length (List.takeWhile_append_dropWhile (p := fun c => c != q) (l := s))
   rw [List.length_append, he, List.length_cons] at h1
   exact ⟨hv, by omega, by omega⟩
  ·cases h
theorem valueA_ok {s v r : Str} (h : valueA s = some (v, r)) : valOk v = true ∧ r.length < s.length ∧ v.length ≤ s.length := by
 cases s with
 | nil => cases h
 | cons c s =>
  change (if c = 39 ∨ c = 34 then quoteA c s else none) = some (v, r) at h
  by_cases hc : c = 39 ∨ c = 34
  ·rw [if_pos hc] at h
   obtain ⟨h1, h2, h3⟩ := quoteA_ok h
   exact ⟨h1, by rw [List.length_cons]; omega, by rw [List.length_cons]; omega⟩
  ·rw [if_neg hc] at h; cases h
def keyA (ks : List (Str × Str)) (s : Str) : Option ((Str × Str) × Str) := match takeB 64 s with
 | none => none
 | some s2 =>
  if (nameA s2).1 ∈ ks.map (·.1) then none
  else if (nameA s2).1 = [] then none
  else match takeB 61 (nameA s2).2 with
   | none => none
   | some s4 => match valueA s4 with
    | none => none
    | some (v, s5) => match takeB 93 s5 with
     | none => none
     | some s6 => some (((nameA s2).1, v), s6)
theorem keyA_ok {ks : List (Str × Str)} {s r : Str} {k : Str × Str} (h : keyA ks s = some (k, r)) : nameOk k.1 = true ∧ valOk k.2 = true ∧ k.1 ∉ ks.map (·.1) ∧ r.length < s.length ∧ k.1.length + k.2.length ≤ s.length := by
 unfold keyA at h
 split at h
 ·cases h
 next s2 e2 =>
 split at h
 ·cases h
 next hn =>
 split at h
 ·cases h
 next hne =>
 split at h
 ·cases h
 next s4 e4 =>
 split at h
 ·cases h
 next v s5 e5 =>
 split at h
 ·cases h
 next s6 e6 =>
 cases h
 obtain ⟨h1, h2, h3⟩ := valueA_ok e5
 have l2 := congrArg List.length (takeB_len e2)
 have l4 := congrArg List.length (takeB_len e4)
 have l6 := congrArg List.length (takeB_len e6)
 have l3 := congrArg List.length (nameA_split s2)
 rw [List.length_append] at l3
 rw [List.length_cons] at l2 l4 l6
 exact ⟨nameA_ok hne, h1, hn, by omega, by simp only; omega⟩
def keysA : Nat → List (Str × Str) → Str → Option (List (Str × Str) × Str)
 | 0, ks, s => some (ks, s)
 | f + 1, ks, s => match takeB 91 s with
  | none => some (ks, s)
  | some s1 => match keyA ks s1 with
   | none => none
   | some (k, s2) => keysA f (ks ++ [k]) s2
theorem keysA_more : ∀ (f g : Nat) (ks : List (Str × Str)) (s : Str), s.length ≤ f → s.length ≤ g → keysA f ks s = keysA g ks s
 | 0, 0, _, _, _, _ => rfl
 | 0, g + 1, ks, s, h, _ => by
  obtain rfl := List.eq_nil_of_length_eq_zero (Nat.le_zero.1 h)
  rfl
 | f + 1, 0, ks, s, _, h => by
  obtain rfl := List.eq_nil_of_length_eq_zero (Nat.le_zero.1 h)
  rfl
 | f + 1, g + 1, ks, s, h1, h2 => by
  unfold keysA
  cases e1 : takeB 91 s with
  | none => rfl
  | some s1 =>
   simp only
   cases e2 : keyA ks s1 with
   | none => rfl
   | some z =>
    obtain ⟨k, s2⟩ := z
    simp only
    have := (keyA_ok e2).2.2.2.1
    have l1 := congrArg List.length (takeB_len e1)
    rw [List.length_cons] at l1
    exact keysA_more f g _ _ (by omega) (by omega)
theorem keysA_ok : ∀ (f : Nat) (ks : List (Str × Str)) (s : Str) {l : List (Str × Str)} {r : Str}, keysA f ks s = some (l, r) → (∀ k ∈ ks, nameOk k.1 = true ∧ valOk k.2 = true) → (ks.map (·.1)).Nodup →
  (∀ k ∈ l, nameOk k.1 = true ∧ valOk k.2 = true) ∧ (l.map (·.1)).Nodup ∧ r.length ≤ s.length
 | 0, ks, s, l, r, h, h1, h2 => by cases h; exact ⟨h1, h2, Nat.le_refl _⟩
 | f + 1, ks, s, l, r, h, h1, h2 => by
  unfold keysA at h
  split at h
  ·cases h; exact ⟨h1, h2, Nat.le_refl _⟩
  next s1 e1 =>
  split at h
  ·cases h
  next k s2 e2 =>
  obtain ⟨k1, k2, k3, k4, _⟩ := keyA_ok e2
  have l1 := congrArg List.length (takeB_len e1)
  rw [List.length_cons] at l1
  obtain ⟨g1, g2, g3⟩ := keysA_ok f (ks ++ [k]) s2 h (fun x hx => by
   rcases List.mem_append.1 hx with hx | hx
   ·exact h1 x hx
   ·rw [List.mem_singleton.1 hx]; exact ⟨k1, k2⟩) (by
   rw [List.map_append, List.nodup_append]
   refine ⟨h2, by simp, fun a ha b hb e => ?_⟩
   simp only [List.map_cons, List.map_nil, List.mem_singleton] at hb
   subst hb; subst e; exact k3 ha)
  exact ⟨g1, g2, by omega⟩
def stepsA : Nat → Str → Option (List Stp)
 | 0, _ => none
 | f + 1, s =>
  if (nameA s).1 = [] then none
  else match keysA (nameA s).2.length [] (nameA s).2 with
   | none => none
   | some (ks, []) => some [((nameA s).1, srtK ks)]
   | some (ks, c :: s3) => if c = 47 then (stepsA f s3).map (fun l => ((nameA s).1, srtK ks) :: l) else none
def climbA : Nat → Bool → List Stp → Str → Option (List Stp × Str)
 | 0, _, up, s => some (up, s)
 | f + 1, first, up, s =>
  if first || headB (fun c => c == 46) s then
   if up = [] then none
   else match s with
    | 46 :: 46 :: 47 :: r => climbA f false up.dropLast r
    | _ => none
  else some (up, s)
def targetF (g s : Str) : Str ⊕ Nat := match pathP g with
 | none => .inr 2
 | some [] => .inr 2
 | some (x :: up) => match climbA (s.length + 1) true (x :: up) s with
  | none => .inr 230
  | some (l, r) => match stepsA (r.length + 1) r with
   | none => .inr 230
   | some m => match printS (l ++ m) with
    | some t => .inl t
    | none => .inr 3
end Go.Proofs.YtbbmdbolkicpcaaGreatDoor
namespace Go.Proofs.YtbbmdbolkicpcaaGreatDoor
open Go.Lib
def altT : Str := [97, 108, 116]
def countT : Str := [99, 111, 117, 110, 116]
open Classical in
noncomputable def wayF (D : List Al) (p : Str) : List Str := if h : ∃ l, WayIs D p l then Classical.choose h else []
theorem wayF_of {D : List Al} {p : Str} {l : List Str} (h : WayIs D p l) : wayF D p = l := by
 unfold wayF
 rw [dif_pos ⟨l, h⟩]
 exact way_one (Classical.choose_spec ⟨l, h⟩) h
open Classical in
noncomputable def chainF (D : List (Str × Str)) (s : Str) : List Str := if h : ∃ l, ChainIs D s l then Classical.choose h else []
theorem chain_one' {D : List (Str × Str)} {s : Str} {l m : List Str} (h : ChainIs D s l) (g : ChainIs D s m) : l = m := by
 rcases h with ⟨h1, h2⟩ | ⟨h1, h2⟩
 ·rcases g with ⟨g1, g2⟩ | ⟨g1, g2⟩
  ·exact up_one h2 g2
  ·rw [h1] at g1; cases g1
 ·rcases g with ⟨g1, g2⟩ | ⟨g1, g2⟩
  ·rw [h1] at g1; cases g1
  ·rw [h2, g2]
theorem chainF_of {D : List (Str × Str)} {s : Str} {l : List Str} (h : ChainIs D s l) : chainF D s = l := by
 unfold chainF
 rw [dif_pos ⟨l, h⟩]
 exact chain_one' (Classical.choose_spec ⟨l, h⟩) h
def basePs (t : Tb) : List Str := (t.rows.filter fun r => r.loc != []).map (·.path)
structure RsvOk (R : Rsv) : Prop where
 par : NewOut R.par 0 0
 als : AlOut R.als 0 0
 known : KnownIs R.als (basePs R.t) R.known
 k16 : R.known.length ≤ 16384
 paths : ∀ p ∈ R.t.paths, pathB p = true
 tb : TbOk R.t
theorem al_ok {D : List Al} {i : Nat} (h : AlOut D 0 i) : (∀ p ∈ D, okAl p) ∧ (D.map (·.1)).Nodup ∧ (∀ p ∈ D, ¬ ringA D p) ∧ i = 0 := by
 have hb : ∀ {r done : List Al} {e i : Nat}, badA done r = some (e, i) → e ≠ 0 := by
  intro r
  induction r with
  | nil => intro done e i h; cases h
  | cons p r ih =>
   intro done e i h
   unfold badA at h
   split at h
   ·split at h
    ·cases h; decide
    ·exact ih h
   ·cases h; decide
 rcases h with h | ⟨_, h, _⟩ | ⟨h1, _, h2, h3⟩
 ·exact absurd rfl (hb h)
 ·cases h
 ·obtain ⟨g1, g2⟩ := badA_none h1 ⟨fun p hp => (by cases hp), by simp⟩
  exact ⟨g1, g2, h3, h2⟩
theorem RsvOk.way {R : Rsv} (h : RsvOk R) (p : Str) : WayIs R.als p (wayF R.als p) ∧ (wayF R.als p).length ≤ R.als.length + 1 := by
 obtain ⟨_, h2, h3, _⟩ := al_ok h.als
 obtain ⟨l, hl, hz⟩ := way_ex h2 h3 p
 rw [wayF_of hl]
 exact ⟨hl, hz⟩
theorem RsvOk.chain {R : Rsv} (h : RsvOk R) (s : Str) : ChainIs R.par s (chainF R.par s) := by
 obtain ⟨l, hl⟩ := chain_ex h.par s
 rw [chainF_of hl]; exact hl
theorem RsvOk.chain_ne {R : Rsv} (h : RsvOk R) {s x : Str} (hx : x ∈ chainF R.par s) : namedB x = true := by
 rcases h.chain s with ⟨h1, h2⟩ | ⟨_, h2⟩
 ·exact up_named (new_ok h.par).1 h1 h2 x hx
 ·rw [h2] at hx; cases hx
theorem named_nil : namedB [] = false := by decide +kernel
def asksB (l p : Str) : Bool := pathB p && (l == [] || namedB l)
theorem RsvOk.chain_len {R : Rsv} (h : RsvOk R) (s : Str) : (0 < (chainF R.par s).length) ↔ namedB s = true := by
 rcases h.chain s with ⟨h1, h2⟩ | ⟨h1, h2⟩
 ·obtain ⟨r, hr⟩ := up_head h2
  rw [hr, h1]; simp
 ·rw [h1, h2]; simp
noncomputable def stopsF (R : Rsv) (l p : Str) : List (Str × Str) := if l = [] then [([], p)] else (wayF R.als p).flatMap fun q => (chainF R.par l).map fun x => (x, q)
end Go.Proofs.YtbbmdbolkicpcaaGreatDoor
namespace Go.Proofs.YtbbmdbolkicpcaaGreatDoor
open Go.RowKit Go.Lib
attribute [local go_sem] spot_fld
def RsP (B0 : Nat) (W : World) (v : Value) (R : Rsv) : Prop := ∃ b Bt vc va km n, v = .pointer (some ⟨b, 0, none⟩) ∧ W.heap[b]? = some (.cells #[.pointer (some ⟨Bt, 0, none⟩), .pointer (some ⟨vc, 0, none⟩), .pointer (some ⟨va, 0, none⟩), .map (some km)] 64 (0, 0)) ∧
 TbP B0 W Bt R.t ∧ ChRd W (.pointer (some ⟨vc, 0, none⟩)) R.par ∧ AlRd W (.pointer (some ⟨va, 0, none⟩)) R.als ∧ OwnE elBo W km n (setL R.known)
theorem RsP.below {B0 : Nat} {W W' : World} {v : Value} {R : Rsv} (h : RsP B0 W v R) (hb : Below W.heap.size W W') : RsP B0 W' v R := by
 obtain ⟨b, Bt, vc, va, km, n, h1, h2, h3, h4, h5, h6⟩ := h
 exact ⟨b, Bt, vc, va, km, n, h1, (hb.block _ (lt_of_block h2)).trans h2, h3.below hb, h4.below hb, h5.below hb, h6.below hb⟩
theorem box4_cells {W : World} {B : Nat} {a0 a1 a2 a3 : Value} {ty : TypeId} (h : W.heap[B]? = some (.cells #[a0, a1, a2, a3] ty (0, 0))) :
  W.cell? ⟨B, 0, none⟩ = some a0 ∧ W.cell? ⟨B, 1, none⟩ = some a1 ∧ W.cell? ⟨B, 2, none⟩ = some a2 ∧ W.cell? ⟨B, 3, none⟩ = some a3 ∧ B < W.heap.size := by
 refine ⟨?_, ?_, ?_, ?_, lt_of_block h⟩
 all_goals (rw [cell_of_row _ _ _ _ _ _ h]; rfl)
set_option maxRecDepth 100000 in
set_option maxHeartbeats 4000000 in
theorem asks_any {B0 : Nat} {w : World} {v : Value} {R : Rsv} (h : RsP B0 w v R) (ok : RsvOk R) (l p : Str) (hl : l.length ≤ maxLen) (hp : p.length ≤ maxLen) (hsz : R.par.length ≤ 10000000000) :
  Calls Tryz.prog 35 #[v, .string ⟨l.toArray⟩, .string ⟨p.toArray⟩] w fun e w' => e = .returned (.bool (asksB l p)) ∧ Below w.heap.size w w' := by
 obtain ⟨b, Bt, vc, va, km, n, rfl, hb, _, hc, _, _⟩ := h
 have CK := hid (pcheck_any p w hp)
 have CH := hid (fun W (hb : Below w.heap.size w W) => chain_any W _ R.par l (chainF R.par l) (hc.below hb) (new_ok ok.par).1 (ok.chain l) hl hsz)
 have CL := hid (ok.chain_len l)
 have HB := hid hb
 have HAS := hid (show asksB l p = (pathB p && (l == [] || namedB l)) from rfl)
 clear hb hc
 go_enter Tryz.func35, Tryz.ntmps35
 cases hpb : pathB p with
 | false =>
  rw [hpb] at HAS
  go_wp2_with (go_at_call 68; refine CK.out.mono ?_; rintro e w1 ⟨⟨er, ea, rfl, he⟩, hb1⟩; have hne : (er : Int) ≠ 0 := (by intro e0; have : er = 0 := (by omega); rw [he.1 this] at hpb; cases hpb); have B1 := hid hb1; clear hb1 he)
  exact bodyPost_ret (v := .bool false) (by simp [results, Tryz.results35, go_sem]) rfl ⟨by rw [HAS.out]; rfl, B1.out⟩
 | true =>
  rw [hpb] at HAS
  have HPB := hid hpb
  clear hpb
  by_cases hln : l = []
  ·subst hln
   go_wp2_with (go_at_call 68; refine CK.out.mono ?_; rintro e w1 ⟨⟨er, ea, rfl, he⟩, hb1⟩; have he0 := he.2 HPB.out; subst he0; have B1 := hid hb1; clear hb1 he)
   exact bodyPost_ret (v := .bool true) (by simp [results, Tryz.results35, go_sem]) rfl ⟨by rw [HAS.out]; rfl, B1.out⟩
  ·have hlb : (l == []) = false := beq_eq_false_iff_ne.2 hln
   rw [hlb] at HAS
   obtain ⟨N, hN⟩ : ∃ N, N = (chainF R.par l).length := ⟨_, rfl⟩
   have HNB := hid (show decide (0 < N) = namedB l by
    have := CL.out
    rw [← hN] at this
    cases hb : namedB l with
    | true => exact decide_eq_true (this.2 hb)
    | false => exact decide_eq_false (fun h => by rw [this.1 h] at hb; cases hb))
   have HN := hid hN
   have hN0 : (0 : Int) ≤ (N : Int) := by omega
   clear hN CL hln
   go_wp2_with (first
    | (go_at_call 68; refine CK.out.mono ?_; rintro e w1 ⟨⟨er, ea, rfl, he⟩, hb1⟩; have he0 := he.2 HPB.out; subst he0; have B1 := hid hb1; have HB1 := hid ((hb1.block _ (lt_of_block HB.out)).trans HB.out); clear hb1 he; obtain ⟨a0, a1, a2, a3, al⟩ := box4_cells HB1.out)
    | (go_at_call 24; refine (CH.out _ B1.out).mono ?_; rintro e w2 ⟨vv, rfl, ho, hb2⟩; obtain ⟨av, cv, rfl⟩ := own_sliceS ho; rw [← HN.out]; have B2 := hid (B1.out.then hb2); clear ho hb2))
   exact bodyPost_ret (v := .bool (decide (0 < N))) (by simp [results, Tryz.results35, go_sem]) rfl ⟨by rw [HAS.out, HNB.out]; rfl, B2.out⟩
end Go.Proofs.YtbbmdbolkicpcaaGreatDoor
namespace Go.Proofs.YtbbmdbolkicpcaaGreatDoor
open Go.RowKit Go.Lib
theorem seeV_any (W : World) (x q : Str) : Calls Tryz.prog 38 #[.agg #[.string ⟨x.toArray⟩, .string ⟨q.toArray⟩]] W fun e w' => e = .returned (.tuple #[]) ∧ Below W.heap.size W w' := by
 go_enter Tryz.func38, Tryz.ntmps38
 go_wp2_with fail
 refine bodyPost_end (v := .tuple #[]) (by simp [results, go_sem]) rfl ?_
 exact ⟨rfl, (Below.refl _ _).alloc (Nat.le_refl _) _⟩
theorem look_more {t : Tb} {a : List (Str × Str)} {s : Str × Str} (h : (lookF t a).2 = none) (hs : atF t s = none) : (lookF t (a ++ [s])).2 = none ∧ (lookF t (a ++ [s])).1 = a ++ [s] := by
 rw [lookF_append, h]
 simp [lookF, hs]
theorem look_hit {t : Tb} {a r : List (Str × Str)} {s : Str × Str} {v : Str} (h : (lookF t a).2 = none) (hs : atF t s = some v) : (lookF t (a ++ s :: r)).2 = some v ∧ (lookF t (a ++ s :: r)).1 = a ++ [s] := by
 rw [lookF_append, h]
 simp [lookF, hs]
theorem look_nil (t : Tb) : (lookF t []).2 = none := rfl
end Go.Proofs.YtbbmdbolkicpcaaGreatDoor
namespace Go.Proofs.YtbbmdbolkicpcaaGreatDoor
open Go.RowKit Go.Lib Go.Sort Go.Maps Go.WideMaps
theorem rdS_at {W : World} {a : Option Addr} {n c : Nat} {l : List Str} (h : RdS W (.slice a n c) l) (j : Nat) (hj : j < l.length) : ∃ p o, a = some ⟨p, o, none⟩ ∧ p < W.heap.size ∧ W.cell? ⟨p, o + j, none⟩ = some (.string ⟨(l[j]'hj).toArray⟩) := by
 obtain ⟨ao, cp, e, _, hr⟩ := h
 cases e
 obtain ⟨b, off, ha, hb, hc⟩ := hr (by rintro rfl; simp at hj)
 exact ⟨b, off, ha, hb, hc j _ (List.getElem?_eq_getElem hj)⟩
end Go.Proofs.YtbbmdbolkicpcaaGreatDoor
namespace Go.Proofs.YtbbmdbolkicpcaaGreatDoor
open Go.RowKit Go.Lib
theorem own_atW {W : World} {B : Nat} {a : Option Addr} {n c : Nat} {l : List Str} (h : OwnS W B (.slice a n c) l) (j : Nat) (hj : j < l.length) : ∃ g, a = some ⟨g, 0, none⟩ ∧ g < W.heap.size ∧ W.cell? ⟨g, j, none⟩ = some (.string ⟨(l[j]'hj).toArray⟩) := by
 rcases h.shape with ⟨_, e⟩ | ⟨g, cap, cur, e, hB, hg, hn, hm, hs, ht⟩
 ·rw [e] at hj; simp at hj
 ·cases e
  refine ⟨g, rfl, lt_of_block hg, cells_at hg ht _ _ ?_⟩
  rw [List.getElem?_map, List.getElem?_eq_getElem hj]
  rfl
set_option maxRecDepth 100000 in
set_option maxHeartbeats 8000000 in
theorem walkV_any {B0 : Nat} {w : World} {v : Value} {R : Rsv} (h : RsP B0 w v R) (ok : RsvOk R) (l : Str) (vp : Value) (ps : List Str) (hps : RdS w vp ps) (hpb : ∀ p ∈ ps, pathB p = true) (hl : l.length ≤ maxLen) (hne : l ≠ []) (hA : R.als.length ≤ 900) (hn : ps.length ≤ 1000) (hsz : R.par.length ≤ 10000000000) (hsa : szA R.als) :
  Calls Tryz.prog 36 #[v, .string ⟨l.toArray⟩, vp, .func (.func 38) #[] #[]] w fun e w' => e = .returned (.tuple #[.string ⟨((lookF R.t (ps.flatMap (stopsF R l))).2.getD []).toArray⟩, .bool (lookF R.t (ps.flatMap (stopsF R l))).2.isSome]) ∧ Below w.heap.size w w' := by
 have CH := hid (fun W (hb : Below w.heap.size w W) vc (hc : ChRd W vc R.par) => chain_any W vc R.par l (chainF R.par l) hc (new_ok ok.par).1 (ok.chain l) hl hsz)
 have HWY := hid (fun p (hp : p ∈ ps) => ok.way p)
 have HWP := hid (fun p (hp : p ∈ ps) q (hq : q ∈ wayF R.als p) => (show q.length ≤ maxLen from by have := pathB_len (way_path (hpb p hp) (ok.way p).1 q hq); unfold maxLen; omega))
 have WY := hid (fun W va (p : Str) (hp : p ∈ ps) (ha : AlRd W va R.als) => away_any W va R.als p (wayF R.als p) ha (hpb p hp) hsa (ok.way p).1 (by have := (ok.way p).2; omega))
 have HNM := hid (fun x (hx : x ∈ chainF R.par l) => ok.chain_ne hx)
 have HST := hid (fun p => show stopsF R l p = (wayF R.als p).flatMap fun q => (chainF R.par l).map fun x => (x, q) from by unfold stopsF; rw [if_neg hne])
 have HNE := hid hne
 have HAE := hid hA
 have HN := hid hn
 obtain ⟨b, Bt, vc, va, km, n, rfl, hb, ht, hc, ha, _⟩ := h
 obtain ⟨ap, cp, rfl, _, _⟩ := id hps
 have HB := hid hb
 have HT := hid ht
 have HA := hid ha
 have HP := hid hps
 have hlb : (l == []) = false := beq_eq_false_iff_ne.2 hne
 have CHW := hid (CH.out w (Below.refl _ _) _ hc)
 obtain ⟨a0, a1, a2, a3, al⟩ := box4_cells hb
 clear hb ht hc ha hps ok hpb hne hA hn hsz hsa CH
 go_enter Tryz.func36, Tryz.ntmps36
 go_wp2_with fail
 go_step3
 go_wp2_with fail
 refine CHW.out.mono ?_
 rintro e w1 ⟨vv, rfl, ho, hb1⟩
 obtain ⟨au, cu, rfl⟩ := own_sliceS ho
 have HU := hid ho
 have HB1 := hid ((hb1.block _ (lt_of_block HB.out)).trans HB.out)
 have HT1 := hid (HT.out.below hb1)
 have HA1 := hid (HA.out.below hb1)
 have HP1 := hid (HP.out.below hb1)
 have BW := hid hb1
 clear ho hb1 a0 a1 a2 a3 al HB HT HA HP CHW
 generalize chainF R.par l = ul at *
 have hul : (ul.length : Int) ≤ 9223372036854775807 := by
  rcases HU.out.shape with ⟨_, e⟩ | ⟨g, cap, cur, e, hB, hg, hn, hm, hs, ht⟩
  ·rw [e]; simp
  ·unfold maxLen at hm; omega
 go_upto_region 4 with fail
 go_step3
 go_upto_region 4 with fail
 go_loopg [10, 11, 12, 30] ps.length (fun g v10 v11 v12 v30 W => ∃ a : Nat, a ≤ ps.length ∧ ps.length ≤ a + g ∧ v10 = .bool false ∧ v11 = .string ⟨#[]⟩ ∧ v12 = .slice au ul.length cu ∧ v30 = .int .i64 a ∧ (lookF R.t ((ps.take a).flatMap (stopsF R l))).2 = none ∧ Below w1.heap.size w1 W)
 case atStart => exact ⟨0, Nat.zero_le _, by omega, rfl, rfl, rfl, rfl, rfl, Below.refl _ _⟩
 case round =>
  obtain ⟨a, ha, hg, rfl, rfl, rfl, rfl, hno, hb⟩ := hrel
  rename World => w2
  obtain ⟨g1, hg1⟩ : ∃ g1, g1 = gk := ⟨_, rfl⟩
  have HGE1 := hid hg1
  have HG := hid (show ps.length ≤ a + g1 by rw [hg1]; exact hg)
  have HNO := hid hno
  clear hg1
  have HB2 := hid hb
  clear hg hno hb
  by_cases hlt : a < ps.length
  ·have hni : (a : Int) < (ps.length : Int) := by omega
   have hn0 : (0 : Int) ≤ (a : Int) := by omega
   obtain ⟨pp, po, rfl, hpl, r0⟩ := rdS_at (HP1.out.below HB2.out) a hlt
   obtain ⟨p, hp⟩ : ∃ p, p = ps[a]'hlt := ⟨_, rfl⟩
   have HPM := hid (show p ∈ ps by rw [hp]; exact List.getElem_mem hlt)
   have HTK := hid (show (ps.take (a + 1)).flatMap (stopsF R l) = (ps.take a).flatMap (stopsF R l) ++ stopsF R l p by
    rw [List.take_succ_eq_append_getElem hlt, List.flatMap_append, ← hp]; simp)
   have HAL := hid (show ∃ rest, ps.flatMap (stopsF R l) = (ps.take a).flatMap (stopsF R l) ++ (stopsF R l p ++ rest) from
    ⟨(ps.drop (a + 1)).flatMap (stopsF R l), by
     rw [← List.append_assoc, ← HTK.out, ← List.flatMap_append, List.take_append_drop]⟩)
   rw [← hp] at r0
   clear hp
   have HB2' := hid ((HB2.out.block _ (lt_of_block HB1.out)).trans HB1.out)
   obtain ⟨a0, a1, a2, a3, al⟩ := box4_cells HB2'.out
   have WYP := hid (WY.out w2 _ p HPM.out (HA1.out.below HB2.out))
   have HQL := hid (HWP.out p HPM.out)
   have hwl : ((wayF R.als p).length : Int) ≤ 1000 := by have := (HWY.out p HPM.out).2; have := HAE.out; omega
   have HSP := hid (HST.out p)
   generalize (ps.take a).flatMap (stopsF R l) = pre at *
   generalize stopsF R l p = sp at *
   generalize wayF R.als p = wl at *
   go_wp2_with fail
   refine WYP.out.mono ?_
   rintro e w3 ⟨vw, rfl, how, hb3⟩
   obtain ⟨aw, cw, rfl⟩ := own_sliceS how
   have HW := hid how
   have HB3 := hid (HB2.out.then hb3)
   clear how hb3 a0 a1 a2 a3 al HB2' WYP r0 hpl
   go_upto_region 10 with fail
   go_loopg [10, 11, 47] wl.length (fun g v10 v11 v47 W => ∃ bb : Nat, bb ≤ wl.length ∧ wl.length ≤ bb + g ∧ v10 = .bool false ∧ v11 = .string ⟨#[]⟩ ∧ v47 = .int .i64 bb ∧ (lookF R.t (pre ++ (wl.take bb).flatMap fun q => ul.map fun x => (x, q))).2 = none ∧ Below w3.heap.size w3 W)
   case atStart => exact ⟨0, Nat.zero_le _, by omega, rfl, rfl, rfl, by simpa using HNO.out, Below.refl _ _⟩
   case round =>
    obtain ⟨bb, hbb, hg, rfl, rfl, rfl, hno2, hb⟩ := hrel
    rename World => w4
    obtain ⟨g2, hg2⟩ : ∃ g2, g2 = gk := ⟨_, rfl⟩
    have HGE2 := hid hg2
    have HG2 := hid (show wl.length ≤ bb + g2 by rw [hg2]; exact hg)
    have HNO2 := hid hno2
    clear hg2
    have HB4 := hid hb
    clear hg hno2 hb
    by_cases hlt2 : bb < wl.length
    ·have hbi : (bb : Int) < (wl.length : Int) := by omega
     have hb0 : (0 : Int) ≤ (bb : Int) := by omega
     obtain ⟨gw, rfl, hgl, s0⟩ := own_atW (own_below HW.out HB4.out) bb hlt2
     obtain ⟨q, hq⟩ : ∃ q, q = wl[bb]'hlt2 := ⟨_, rfl⟩
     have HQ := hid (show q.length ≤ maxLen from HQL.out q (by rw [hq]; exact List.getElem_mem hlt2))
     have HTK2 := hid (show (wl.take (bb + 1)).flatMap (fun q => ul.map fun x => (x, q)) = (wl.take bb).flatMap (fun q => ul.map fun x => (x, q)) ++ ul.map fun x => (x, q) by
      rw [List.take_succ_eq_append_getElem hlt2, List.flatMap_append, ← hq]; simp)
     have HSR := hid (show ∃ rest, sp = (wl.take bb).flatMap (fun q => ul.map fun x => (x, q)) ++ ((ul.map fun x => (x, q)) ++ rest) from
      ⟨(wl.drop (bb + 1)).flatMap (fun q => ul.map fun x => (x, q)), by
       rw [← List.append_assoc, ← HTK2.out, ← List.flatMap_append, List.take_append_drop]; exact HSP.out⟩)
     rw [← hq] at s0
     clear hq
     go_upto_region 13 with fail
     generalize (wl.take bb).flatMap (fun q => ul.map fun x => (x, q)) = mid at *
     go_loopg [10, 11, 53] ul.length (fun g v10 v11 v53 W => ∃ cc : Nat, cc ≤ ul.length ∧ ul.length ≤ cc + g ∧ v10 = .bool false ∧ v11 = .string ⟨#[]⟩ ∧ v53 = .int .i64 cc ∧ (lookF R.t (pre ++ (mid ++ (ul.take cc).map fun x => (x, q)))).2 = none ∧ Below w4.heap.size w4 W)
     case atStart => exact ⟨0, Nat.zero_le _, by omega, rfl, rfl, rfl, by simpa using HNO2.out, Below.refl _ _⟩
     case round =>
      obtain ⟨cc, hcc, hg, rfl, rfl, rfl, hno3, hb⟩ := hrel
      rename World => w5
      have HG3 := hid hg
      have HNO3 := hid hno3
      have HB5 := hid (HB4.out.then hb)
      have HB45 := hid hb
      clear hg hno3 hb s0 hgl
      by_cases hlt3 : cc < ul.length
      ·have hci : (cc : Int) < (ul.length : Int) := by omega
       have hc0 : (0 : Int) ≤ (cc : Int) := by omega
       obtain ⟨gu, rfl, hgl, s0⟩ := own_atW (own_below HU.out ((HB3.out.then HB5.out))) cc hlt3
       obtain ⟨x, hx⟩ : ∃ x, x = ul[cc]'hlt3 := ⟨_, rfl⟩
       have HX := hid (show namedB x = true from HNM.out x (by rw [hx]; exact List.getElem_mem hlt3))
       rw [← hx] at s0
       have HTK3 := hid (show (ul.take (cc + 1)).map (fun x => (x, q)) = (ul.take cc).map (fun x => (x, q)) ++ [(x, q)] by
        rw [List.take_succ_eq_append_getElem hlt3, List.map_append, ← hx]; rfl)
       clear hx
       have HXL := hid (show x.length ≤ maxLen from Nat.le_trans (named_len HX.out) (by decide))
       have HXN := hid (show x ≠ [] from fun e => by have := HX.out; rw [e, named_nil] at this; cases this)
       go_wp2_with fail
       refine (seeV_any w5 x q).mono ?_
       rintro e w6 ⟨rfl, hb6⟩
       have HB6 := hid (HB3.out.then (HB5.out.then hb6))
       have HB46 := hid (HB45.out.then hb6)
       have HBX := hid ((HB6.out.block _ (lt_of_block HB1.out)).trans HB1.out)
       obtain ⟨a0, a1, a2, a3, al⟩ := box4_cells HBX.out
       have GT := hid ((HT1.out.below HB6.out).get x q HXL.out HQ.out)
       clear hb6 s0 hgl
       have HAT := hid (show atF R.t (x, q) = match findR R.t.rows x q with
        | none => none
        | some r => if r.text = arrows ∧ x ≠ [] then none else some r.text from rfl)
       cases hfr : findR R.t.rows x q with
       | none =>
        rw [hfr] at GT HAT
        have HN4 := hid (look_more HNO3.out HAT.out).1
        clear hfr
        go_wp2_with fail
        refine GT.out.mono ?_
        rintro e w7 ⟨rfl, hb7⟩
        have HB47 := hid (HB46.out.then hb7)
        clear hb7
        go_wp2_with fail
        go_roundg (gk - 1)
        case measure => have := HG3.out; omega
        case rel => exact ⟨cc + 1, by omega, by have := HG3.out; omega, rfl, rfl, by simp, by have := HN4.out; rw [HTK3.out]; simpa using this, HB47.out⟩
       | some r =>
        rw [hfr] at GT HAT
        rw [show rText (some r) = r.text from rfl, Option.isSome_some] at GT
        clear hfr
        by_cases har : r.text = arrows
        ·have hs1 : (r.text != [226, 134, 145, 226, 134, 145, 226, 134, 145]) = false := by rw [har]; rfl
         have hs2 : r.text = [226, 134, 145, 226, 134, 145, 226, 134, 145] := har
         have HN4 := hid (look_more HNO3.out (HAT.out.trans (if_pos ⟨har, HXN.out⟩))).1
         clear har
         rw [hs2] at GT
         clear hs1 hs2
         go_wp2_with fail
         refine GT.out.mono ?_
         rintro e w7 ⟨rfl, hb7⟩
         have HB47 := hid (HB46.out.then hb7)
         clear hb7
         go_wp2_with fail
         go_roundg (gk - 1)
         case measure => have := HG3.out; omega
         case rel => exact ⟨cc + 1, by omega, by have := HG3.out; omega, rfl, rfl, by simp, by have := HN4.out; rw [HTK3.out]; simpa using this, HB47.out⟩
        ·have hs1 : (r.text != [226, 134, 145, 226, 134, 145, 226, 134, 145]) = true := bne_iff_ne.2 har
         have hs2 : (r.text == [226, 134, 145, 226, 134, 145, 226, 134, 145]) = false := beq_eq_false_iff_ne.2 har
         have HIT := hid (show (lookF R.t (ps.flatMap (stopsF R l))).2 = some r.text from by
          obtain ⟨r1, e1⟩ := HAL.out
          obtain ⟨r2, e2⟩ := HSR.out
          have e3 : (ul.map fun x => (x, q)) = (ul.take cc).map (fun x => (x, q)) ++ ((x, q) :: (ul.drop (cc + 1)).map fun x => (x, q)) := by
           have h1 : (ul.take (cc + 1)).map (fun x => (x, q)) ++ (ul.drop (cc + 1)).map (fun x => (x, q)) = ul.map fun x => (x, q) := by rw [← List.map_append, List.take_append_drop]
           rw [← h1, HTK3.out, List.append_assoc, List.singleton_append]
          have := (look_hit (r := (ul.drop (cc + 1)).map (fun x => (x, q)) ++ (r2 ++ r1)) HNO3.out (HAT.out.trans (if_neg (fun h => har h.1)))).1
          rw [e1, e2, e3]
          rw [← this]
          simp [List.append_assoc])
         clear har
         go_wp2_with fail
         refine GT.out.mono ?_
         rintro e w7 ⟨rfl, hb7⟩
         have HB7 := hid (BW.out.then (HB6.out.then hb7))
         clear hb7
         go_wp2_with fail
         rw [Exit.noGoto_ret]
         change bodyPost _ _ _ Exit.ret _ _
         refine bodyPost_ret (v := .tuple #[.string ⟨r.text.toArray⟩, .bool true]) ?_ rfl ?_
         ·simp [results, Tryz.results36, go_sem]
         exact ⟨by rw [HIT.out]; rfl, HB7.out⟩
      ·have hci : ¬ (cc : Int) < (ul.length : Int) := by omega
       have HTA := hid (show (ul.take cc).map (fun x => (x, q)) = ul.map fun x => (x, q) by rw [List.take_of_length_le (by omega)])
       rw [HTA.out] at HNO3
       go_wp2_with fail
       go_roundg (g2 - 1)
       case measure => have := HG2.out; have := HGE2.out; omega
       case rel => exact ⟨bb + 1, by omega, by have := HG2.out; omega, rfl, rfl, by simp, by rw [HTK2.out]; exact HNO3.out, HB5.out⟩
    ·have hbi : ¬ (bb : Int) < (wl.length : Int) := by omega
     have HTA := hid (show wl.take bb = wl from List.take_of_length_le (by omega))
     rw [HTA.out] at HNO2
     go_wp2_with fail
     go_roundg (g1 - 1)
     case measure => have := HG.out; have := HGE1.out; omega
     case rel => exact ⟨a + 1, by omega, by have := HG.out; omega, rfl, rfl, rfl, by simp, by rw [HTK.out, HSP.out]; exact HNO2.out, HB3.out.then HB4.out⟩
  ·have hni : ¬ (a : Int) < (ps.length : Int) := by omega
   have HTA := hid (show ps.take a = ps from List.take_of_length_le (by omega))
   rw [HTA.out] at HNO
   go_wp2_with fail
   change bodyPost _ _ _ Exit.ret _ _
   refine bodyPost_ret (v := .tuple #[.string ⟨#[]⟩, .bool false]) ?_ rfl ?_
   ·simp [results, Tryz.results36, go_sem]
   exact ⟨by rw [HNO.out]; rfl, BW.out.then HB2.out⟩
end Go.Proofs.YtbbmdbolkicpcaaGreatDoor
