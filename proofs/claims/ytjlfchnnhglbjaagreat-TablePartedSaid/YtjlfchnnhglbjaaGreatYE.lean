/- Named, NamedC, ChPlain, TbItem, TbTake, TbNewA, TbNew -/
import Derived.Test.YtjlfchnnhglbjaaGreatYB3
import Derived.Test.YtjlfchnnhglbjaaGreatYB4
import Derived.Test.YtjlfchnnhglbjaaGreatYA
import Derived.Test.YtjlfchnnhglbjaaGreatYC
import Derived.Deep.RegionHeld3
set_option linter.unusedVariables false
set_option linter.unusedSimpArgs false
namespace Go.Proofs.YtjlfchnnhglbjaaGreat
open Go.RowKit Go.Lib Go.Sort
def namedT (l : Str) : Tg := if namedB l = true then (parseF l).tag else Tg.zero
theorem named_eq {l : Str} {x : Res} {q : Str × Int} (hx : parseF l = x) (hq : nameF x.tag = q) : namedB l = (x.err == 0 && (q.2 == 0 && q.1 == l)) := by
 unfold namedB; rw [hx, hq]
theorem named_err {l : Str} {x : Res} (hx : parseF l = x) (he : ¬ x.err = 0) : namedB l = false := by
 unfold namedB; rw [hx, beq_eq_false_iff_ne.2 he]; rfl
end Go.Proofs.YtjlfchnnhglbjaaGreat
namespace Go.Proofs.YtjlfchnnhglbjaaGreat
open Go.RowKit Go.Lib Go.Sort
def capV (v : Value) : Prop := ∀ a0 a1 a2 ao n cp kv, v = .agg #[a0, a1, a2, .slice ao n cp, kv] → n ≤ cp
theorem cap_own {w : World} {B : Nat} {ao : Option Addr} {n cp : Nat} {l : List Str} (h : OwnS w B (.slice ao n cp) l) : n ≤ cp := by
 rcases h.shape with ⟨e, _⟩ | ⟨g, cap, cur, e, _, _, h1, _⟩
 ·cases e; exact Nat.le_refl _
 ·cases e; exact h1
theorem capV_mk {a0 a1 a2 kv : Value} {ao : Option Addr} {n cp : Nat} (h : n ≤ cp) : capV (.agg #[a0, a1, a2, .slice ao n cp, kv]) := by
 intro b0 b1 b2 ao2 n2 cp2 kv2 e
 simp only [Value.agg.injEq, Array.mk.injEq, List.cons.injEq] at e
 obtain ⟨_, _, _, e, _⟩ := e
 cases e
 exact h
def NamedOutC (w : World) (l : Str) (e : Ending) (w' : World) : Prop :=
 ∃ v, e = .returned (.tuple #[v, .bool (namedB l)]) ∧ RdT w' v (namedT l) ∧ capV v ∧ Below w.heap.size w w'
theorem namedOutC_bad {w W : World} {l : Str} (h : namedB l = false) (hw : Below w.heap.size w W) : NamedOutC w l (.returned (.tuple #[.agg #[.string ⟨#[]⟩, .string ⟨#[]⟩, .string ⟨#[]⟩, .slice none 0 0, .slice none 0 0], .bool false])) W :=
 ⟨_, by rw [h], by unfold namedT; rw [h]; exact RdT.zero W, capV_mk (Nat.le_refl _), hw⟩
theorem namedOutC_ok {w W : World} {l : Str} {v : Value} (h : namedB l = true) (ht : RdT W v (parseF l).tag) (hc : capV v) (hw : Below w.heap.size w W) : NamedOutC w l (.returned (.tuple #[v, .bool true])) W :=
 ⟨v, by rw [h], by unfold namedT; rw [if_pos h]; exact ht, hc, hw⟩
set_option maxRecDepth 100000 in
set_option maxHeartbeats 8000000 in
theorem namedC_any (l : Str) (w : World) (hs : l.length ≤ maxLen) :
  Calls Tryz.prog 51 #[.string ⟨l.toArray⟩] w fun e w' => NamedOutC w l e w' := by
 have PA := hid (fun W => parse_any ⟨l.toArray⟩ W (by rw [Lib.size_eq]; exact hs))
 have hgood := good_of l
 have hfine := parse_fine l
 rw [show (⟨l.toArray⟩ : ByteArray).data.toList = l from rfl] at PA
 generalize hx : parseF l = x at *
 have HX := hid hx
 clear hx
 go_enter Tryz.func51, Tryz.ntmps51
 go_wp2_with fail
 refine (PA.out _).mono ?_
 rintro e w1 ⟨vv, kv, rfl, o1, o2, hb1⟩
 obtain ⟨av, cv, rfl⟩ := own_sliceS o1
 obtain ⟨ak, ck, rfl⟩ := own_sliceP o2
 simp only [tagCells, S]
 have hb0 : Below w.heap.size w (w.alloc (.cells #[.string ⟨#[]⟩, .string ⟨#[]⟩, .string ⟨#[]⟩, .slice none 0 0, .slice none 0 0] 108)) := (Below.refl _ _).alloc (Nat.le_refl _) _
 have hz1 : w1.heap[w.heap.size]? = some (.cells #[.string ⟨#[]⟩, .string ⟨#[]⟩, .string ⟨#[]⟩, .slice none 0 0, .slice none 0 0] 108 (0, 0)) := by rw [hb1.block w.heap.size (by simp)]; exact heap_alloc_new w _
 have hw1 := hb0.then hb1
 have HR := hid (show RdT w1 (.agg (tagCells x.tag (.slice av x.tag.vars.length cv) (.slice ak x.tag.keys.length ck))) x.tag from ⟨_, _, rfl, o1.rd, o2.rd⟩)
 have hno1 : (Value.slice av x.tag.vars.length cv).ownBlock ≠ some w.heap.size := fun e => by have := (World.ownsRow.lt o1 _ e).1; simp at this; omega
 have hno2 : (Value.slice ak x.tag.keys.length ck).ownBlock ≠ some w.heap.size := fun e => by have := (World.ownsRow.lt o2 _ e).1; simp at this; omega
 have O1 := hid o1
 have O2 := hid o2
 have HNO1 := hid hno1
 have HNO2 := hid hno2
 clear hb0 hb1 o1 o2 PA hno1 hno2
 have hb2 : Below w1.heap.size w1 ((w1.alloc (.cells #[.string ⟨x.tag.lang.toArray⟩, .string ⟨x.tag.script.toArray⟩, .string ⟨x.tag.region.toArray⟩, .slice av x.tag.vars.length cv, .slice ak x.tag.keys.length ck] 108)).alloc (.cells #[.int .i64 (x.err : Int), .int .i64 (x.pos : Int)] 99)) := below2 _ _ _
 have HZ2 := hid (show ((w1.alloc (.cells #[.string ⟨x.tag.lang.toArray⟩, .string ⟨x.tag.script.toArray⟩, .string ⟨x.tag.region.toArray⟩, .slice av x.tag.vars.length cv, .slice ak x.tag.keys.length ck] 108)).alloc (.cells #[.int .i64 (x.err : Int), .int .i64 (x.pos : Int)] 99)).heap[w.heap.size]? = some (.cells #[.string ⟨#[]⟩, .string ⟨#[]⟩, .string ⟨#[]⟩, .slice none 0 0, .slice none 0 0] 108 (0, 0)) from (hb2.block _ (lt_of_block hz1)).trans hz1)
 have HT2 := hid (show ((w1.alloc (.cells #[.string ⟨x.tag.lang.toArray⟩, .string ⟨x.tag.script.toArray⟩, .string ⟨x.tag.region.toArray⟩, .slice av x.tag.vars.length cv, .slice ak x.tag.keys.length ck] 108)).alloc (.cells #[.int .i64 (x.err : Int), .int .i64 (x.pos : Int)] 99)).heap[w1.heap.size]? = some (.cells #[.string ⟨x.tag.lang.toArray⟩, .string ⟨x.tag.script.toArray⟩, .string ⟨x.tag.region.toArray⟩, .slice av x.tag.vars.length cv, .slice ak x.tag.keys.length ck] 108 (0, 0)) from heap_alloc2_old _ _ _)
 have HW2 := hid (hw1.then hb2)
 have HB2 := hid hb2
 clear hz1 hw1 hb2
 by_cases he : x.err = 0
 ·have hg := hgood he
  have N1 := hid (fun W (hb : Below w1.heap.size w1 W) => name_any W _ x.tag (HR.out.below hb) (by have := hg.vars; omega) (by have := hg.keys; omega) (by have := hg.write; omega) (by have := hg.bare.write; unfold bareT at this; omega))
  simp only [tagCells, S] at N1 HR
  clear hgood hfine
  generalize hq : nameF x.tag = q at *
  obtain ⟨nm, ne⟩ := q
  simp only [strErr] at N1
  have e0 : (x.err == 0) = true := by rw [he]; rfl
  rw [he] at HZ2 HT2 HW2 HB2 ⊢
  have HQ := hid hq
  have HG := hid hg
  have HE := hid e0
  clear hq hg e0
  have HZ := HZ2
  obtain ⟨c0, c1, c2, c3, c4⟩ := box_cells HT2.out
  obtain ⟨d0, d1, d2, d3, d4⟩ := box_cells HZ.out
  have fz0 := frozen_of_row _ w.heap.size 0 _ _ HZ.out
  have fz1 := frozen_of_row _ w.heap.size 1 _ _ HZ.out
  have fz2 := frozen_of_row _ w.heap.size 2 _ _ HZ.out
  have fz3 := frozen_of_row _ w.heap.size 3 _ _ HZ.out
  have fz4 := frozen_of_row _ w.heap.size 4 _ _ HZ.out
  have hsz := lt_of_block HZ.out
  have hst := lt_of_block HT2.out
  go_wp2_with fail
  refine (N1.out _ HB2.out).mono ?_
  rintro e w3 ⟨rfl, hb3⟩
  clear c0 c1 c2 c3 c4 d0 d1 d2 d3 d4 fz0 fz1 fz2 fz3 fz4 HZ
  have HZ := hid ((hb3.block _ hsz).trans HZ2.out)
  have HT3 := hid ((hb3.block _ hst).trans HT2.out)
  have HW := hid (HW2.out.then hb3)
  have O13 := hid (own_below O1.out (HB2.out.then hb3))
  have O23 := hid (own_below O2.out (HB2.out.then hb3))
  clear O1 O2
  clear hsz hst HZ2 HT2 HW2 HB2 HR hb3 N1
  obtain ⟨c0, c1, c2, c3, c4⟩ := box_cells HT3.out
  obtain ⟨d0, d1, d2, d3, d4⟩ := box_cells HZ.out
  have fz0 := frozen_of_row w3 w.heap.size 0 _ _ HZ.out
  have fz1 := frozen_of_row w3 w.heap.size 1 _ _ HZ.out
  have fz2 := frozen_of_row w3 w.heap.size 2 _ _ HZ.out
  have fz3 := frozen_of_row w3 w.heap.size 3 _ _ HZ.out
  have fz4 := frozen_of_row w3 w.heap.size 4 _ _ HZ.out
  have hsz := lt_of_block HZ.out
  have hst := lt_of_block HT3.out
  by_cases h1 : ne = 0
  ·subst h1
   by_cases h2 : nm = l
   ·have hub : (nm == l) = true := by rw [h2]; simp
    have hub2 : (nm != l) = false := by rw [h2]; simp
    subst h2
    go_wp2_with fail
    have hr := P5_row (.string ⟨x.tag.lang.toArray⟩) (.string ⟨x.tag.script.toArray⟩) (.string ⟨x.tag.region.toArray⟩) (.slice av x.tag.vars.length cv) (.slice ak x.tag.keys.length ck) HZ.out
    have hw := P5_below (.string ⟨x.tag.lang.toArray⟩) (.string ⟨x.tag.script.toArray⟩) (.string ⟨x.tag.region.toArray⟩) (.slice av x.tag.vars.length cv) (.slice ak x.tag.keys.length ck) HW.out (Nat.le_refl w.heap.size)
    have p1 := P5_own (.string ⟨x.tag.lang.toArray⟩) (.string ⟨x.tag.script.toArray⟩) (.string ⟨x.tag.region.toArray⟩) (.slice av x.tag.vars.length cv) (.slice ak x.tag.keys.length ck) O13.out HNO1.out
    have p2 := P5_own (.string ⟨x.tag.lang.toArray⟩) (.string ⟨x.tag.script.toArray⟩) (.string ⟨x.tag.region.toArray⟩) (.slice av x.tag.vars.length cv) (.slice ak x.tag.keys.length ck) O23.out HNO2.out
    clear c0 c1 c2 c3 c4 d0 d1 d2 d3 d4 fz0 fz1 fz2 fz3 fz4
    change bodyPost _ _ _ _ _ (P5 w3 (w.heap.size) (.string ⟨x.tag.lang.toArray⟩) (.string ⟨x.tag.script.toArray⟩) (.string ⟨x.tag.region.toArray⟩) (.slice av x.tag.vars.length cv) (.slice ak x.tag.keys.length ck))
    generalize P5 w3 (w.heap.size) (.string ⟨x.tag.lang.toArray⟩) (.string ⟨x.tag.script.toArray⟩) (.string ⟨x.tag.region.toArray⟩) (.slice av x.tag.vars.length cv) (.slice ak x.tag.keys.length ck) = W at *
    obtain ⟨d0, d1, d2, d3, d4⟩ := box_cells hr
    refine bodyPost_ret (v := .tuple #[.agg #[.string ⟨x.tag.lang.toArray⟩, .string ⟨x.tag.script.toArray⟩, .string ⟨x.tag.region.toArray⟩, .slice av x.tag.vars.length cv, .slice ak x.tag.keys.length ck], .bool true]) (by simp [results, Tryz.results51, go_sem, d0, d1, d2, d3, d4]) rfl (namedOutC_ok (by rw [named_eq HX.out HQ.out]; simp [HE.out]) (by rw [HX.out]; exact ⟨_, _, rfl, OwnS.rd p1, OwnP.rd p2⟩) (capV_mk (cap_own p1)) hw)
   ·have hub : (nm == l) = false := by rw [beq_eq_false_iff_ne]; exact h2
    have hub2 : (nm != l) = true := by rw [bne_iff_ne]; exact h2
    go_wp2_with fail
    have hr := P5_row (.string ⟨#[]⟩) (.string ⟨#[]⟩) (.string ⟨#[]⟩) (.slice none 0 0) (.slice none 0 0) HZ.out
    have hw := P5_below (.string ⟨#[]⟩) (.string ⟨#[]⟩) (.string ⟨#[]⟩) (.slice none 0 0) (.slice none 0 0) HW.out (Nat.le_refl w.heap.size)
    clear c0 c1 c2 c3 c4 d0 d1 d2 d3 d4 fz0 fz1 fz2 fz3 fz4
    change bodyPost _ _ _ _ _ (P5 (w3) (w.heap.size) (.string ⟨#[]⟩) (.string ⟨#[]⟩) (.string ⟨#[]⟩) (.slice none 0 0) (.slice none 0 0))
    generalize P5 (w3) (w.heap.size) (.string ⟨#[]⟩) (.string ⟨#[]⟩) (.string ⟨#[]⟩) (.slice none 0 0) (.slice none 0 0) = W at *
    obtain ⟨d0, d1, d2, d3, d4⟩ := box_cells hr
    refine bodyPost_ret (v := .tuple #[.agg #[.string ⟨#[]⟩, .string ⟨#[]⟩, .string ⟨#[]⟩, .slice none 0 0, .slice none 0 0], .bool false]) (by simp [results, Tryz.results51, go_sem, d0, d1, d2, d3, d4]) rfl (namedOutC_bad (by rw [named_eq HX.out HQ.out]; simp [hub]) hw)
  ·have hnb : (ne != 0) = true := by rw [bne_iff_ne]; exact h1
   have hnb2 : (ne == 0) = false := by rw [beq_eq_false_iff_ne]; exact h1
   go_wp2_with fail
   have hr := P5_row (.string ⟨#[]⟩) (.string ⟨#[]⟩) (.string ⟨#[]⟩) (.slice none 0 0) (.slice none 0 0) HZ.out
   have hw := P5_below (.string ⟨#[]⟩) (.string ⟨#[]⟩) (.string ⟨#[]⟩) (.slice none 0 0) (.slice none 0 0) HW.out (Nat.le_refl w.heap.size)
   clear c0 c1 c2 c3 c4 d0 d1 d2 d3 d4 fz0 fz1 fz2 fz3 fz4
   change bodyPost _ _ _ _ _ (P5 (w3) (w.heap.size) (.string ⟨#[]⟩) (.string ⟨#[]⟩) (.string ⟨#[]⟩) (.slice none 0 0) (.slice none 0 0))
   generalize P5 (w3) (w.heap.size) (.string ⟨#[]⟩) (.string ⟨#[]⟩) (.string ⟨#[]⟩) (.slice none 0 0) (.slice none 0 0) = W at *
   obtain ⟨d0, d1, d2, d3, d4⟩ := box_cells hr
   refine bodyPost_ret (v := .tuple #[.agg #[.string ⟨#[]⟩, .string ⟨#[]⟩, .string ⟨#[]⟩, .slice none 0 0, .slice none 0 0], .bool false]) (by simp [results, Tryz.results51, go_sem, d0, d1, d2, d3, d4]) rfl (namedOutC_bad (by rw [named_eq HX.out HQ.out]; simp [h1]) hw)
 ·have heb : (x.err != 0) = true := by rw [bne_iff_ne]; exact he
  have heb3 : ((x.err : Int) != 0) = true := by rw [bne_iff_ne]; omega
  have heb2 : (x.err == 0) = false := by rw [beq_eq_false_iff_ne]; exact he
  have HZ := HZ2
  have HW := HW2
  obtain ⟨c0, c1, c2, c3, c4⟩ := box_cells HT2.out
  obtain ⟨d0, d1, d2, d3, d4⟩ := box_cells HZ.out
  have fz0 := frozen_of_row _ w.heap.size 0 _ _ HZ.out
  have fz1 := frozen_of_row _ w.heap.size 1 _ _ HZ.out
  have fz2 := frozen_of_row _ w.heap.size 2 _ _ HZ.out
  have fz3 := frozen_of_row _ w.heap.size 3 _ _ HZ.out
  have fz4 := frozen_of_row _ w.heap.size 4 _ _ HZ.out
  have hsz := lt_of_block HZ.out
  have hst := lt_of_block HT2.out
  go_wp2_with fail
  have hr := P5_row (.string ⟨#[]⟩) (.string ⟨#[]⟩) (.string ⟨#[]⟩) (.slice none 0 0) (.slice none 0 0) HZ.out
  have hw := P5_below (.string ⟨#[]⟩) (.string ⟨#[]⟩) (.string ⟨#[]⟩) (.slice none 0 0) (.slice none 0 0) HW.out (Nat.le_refl w.heap.size)
  clear c0 c1 c2 c3 c4 d0 d1 d2 d3 d4 fz0 fz1 fz2 fz3 fz4
  change bodyPost _ _ _ _ _ (P5 (((w1.alloc (.cells #[.string ⟨x.tag.lang.toArray⟩, .string ⟨x.tag.script.toArray⟩, .string ⟨x.tag.region.toArray⟩, .slice av x.tag.vars.length cv, .slice ak x.tag.keys.length ck] 108)).alloc (.cells #[.int .i64 (x.err : Int), .int .i64 (x.pos : Int)] 99))) (w.heap.size) (.string ⟨#[]⟩) (.string ⟨#[]⟩) (.string ⟨#[]⟩) (.slice none 0 0) (.slice none 0 0))
  generalize P5 (((w1.alloc (.cells #[.string ⟨x.tag.lang.toArray⟩, .string ⟨x.tag.script.toArray⟩, .string ⟨x.tag.region.toArray⟩, .slice av x.tag.vars.length cv, .slice ak x.tag.keys.length ck] 108)).alloc (.cells #[.int .i64 (x.err : Int), .int .i64 (x.pos : Int)] 99))) (w.heap.size) (.string ⟨#[]⟩) (.string ⟨#[]⟩) (.string ⟨#[]⟩) (.slice none 0 0) (.slice none 0 0) = W at *
  obtain ⟨d0, d1, d2, d3, d4⟩ := box_cells hr
  refine bodyPost_ret (v := .tuple #[.agg #[.string ⟨#[]⟩, .string ⟨#[]⟩, .string ⟨#[]⟩, .slice none 0 0, .slice none 0 0], .bool false]) (by simp [results, Tryz.results51, go_sem, d0, d1, d2, d3, d4]) rfl (namedOutC_bad (named_err HX.out he) hw)
end Go.Proofs.YtjlfchnnhglbjaaGreat
namespace Go.Proofs.YtjlfchnnhglbjaaGreat
open Go.RowKit Go.Lib Go.Sort
theorem rdS_take {w : World} {ao : Option Addr} {cp : Nat} {l : List Str} (h : RdS w (.slice ao l.length cp) l) (k : Nat) (hk : k ≤ l.length) : RdS w (.slice ao k cp) (l.take k) := by
 obtain ⟨ao', cp', hv, hl, hr⟩ := h
 cases hv
 have hlen : (l.take k).length = k := by rw [List.length_take]; omega
 refine ⟨ao, cp, by rw [hlen], ⟨by rw [hlen]; omega, fun e => ⟨by rw [(hl.2 e).1]; simp, (hl.2 e).2⟩⟩, fun hne => ?_⟩
 have hne2 : l ≠ [] := fun e => hne (by rw [e]; simp)
 obtain ⟨b, off, h1, h2, h3⟩ := hr hne2
 refine ⟨b, off, h1, h2, fun j x hx => h3 j x ?_⟩
 rw [List.getElem?_take] at hx
 split at hx
 ·exact hx
 ·cases hx
theorem plainT_V {t : Tg} (h : t.vars ≠ []) : plainT t = { t with vars := t.vars.take (t.vars.length - 1) } := by unfold plainT; rw [if_pos h]
theorem plainT_R {t : Tg} (h : t.vars = []) (h2 : t.region ≠ []) : plainT t = { t with region := [] } := by unfold plainT; rw [if_neg (by simp [h]), if_pos h2]
theorem plainT_S {t : Tg} (h : t.vars = []) (h2 : t.region = []) (h3 : t.script ≠ []) : plainT t = { t with script := [] } := by unfold plainT; rw [if_neg (by simp [h]), if_neg (by simp [h2]), if_pos h3]
theorem plainT_L {t : Tg} (h : t.vars = []) (h2 : t.region = []) (h3 : t.script = []) : plainT t = { t with lang := [] } := by unfold plainT; rw [if_neg (by simp [h]), if_neg (by simp [h2]), if_neg (by simp [h3])]
set_option maxRecDepth 100000 in
set_option maxHeartbeats 16000000 in
theorem plain_any (l : Str) (w : World) (hs : l.length ≤ maxLen) :
  Calls Tryz.prog 32 #[.string ⟨l.toArray⟩] w fun e w' => e = .returned (.tuple #[.string ⟨(plainF l).1.toArray⟩, .bool (plainF l).2]) ∧ Below w.heap.size w w' := by
 have NM := hid (fun W => namedC_any l W hs)
 simp only [NamedOutC] at NM
 by_cases hn : namedB l = true
 ·obtain ⟨_, hg, hk, _⟩ := named_facts hn
  have hnt : namedT l = tagOf l := by unfold namedT tagOf; rw [if_pos hn]
  rw [hnt, hn] at NM
  by_cases hr : l = tRoot
  ·have hpl : plainF l = ([], false) := plain_no (fun h => h.2 hr)
   rw [hpl]
   have hub : (l == [114, 111, 111, 116]) = true := by rw [hr]; rfl
   have hub2 : (l != [114, 111, 111, 116]) = false := by rw [hr]; rfl
   clear hnt hg hk hn hpl hr
   generalize tagOf l = t at *
   go_enter Tryz.func32, Tryz.ntmps32
   go_wp2_with fail
   refine (NM.out _).mono ?_
   rintro e w1 ⟨v, rfl, ⟨vv, kv, rfl, ⟨av, cv, rfl, _, _⟩, ⟨ak, ck, rfl, _, _⟩⟩, _, hb1⟩
   simp only [tagCells, S]
   go_wp2_with fail
   exact bodyPost_ret (v := .tuple #[.string ⟨#[]⟩, .bool false]) (by simp [results, Tryz.results32, go_sem]) rfl ⟨rfl, hb1.then ((Below.refl _ _).alloc (Nat.le_refl _) _)⟩
  ·have hpl : plainF l = (nameOf (writeF (bareT (plainT (tagOf l)))), true) := by
    unfold plainF; rw [if_pos ⟨hn, hr⟩, good_name _ (good_plainT hg hk).1]; rfl
   rw [hpl]
   have hub : (l == [114, 111, 111, 116]) = false := by rw [beq_eq_false_iff_ne]; exact hr
   have hub2 : (l != [114, 111, 111, 116]) = true := by rw [bne_iff_ne]; exact hr
   clear hnt hn hpl
   generalize tagOf l = t at *
   have hgp := (good_plainT hg hk).1
   have N1 : Hid (∀ W v, RdT W v (plainT t) → Calls Tryz.prog 52 #[v] W fun e w' => e = .returned (.tuple #[.string ⟨(nameOf (writeF (bareT (plainT t)))).toArray⟩, .int .i64 0]) ∧ Below W.heap.size W w') := fun W v h => by
    refine (name_any W v (plainT t) h (by have := hgp.vars; omega) (by have := hgp.keys; omega) (by have := hgp.write; omega) (by have := hgp.bare.write; unfold bareT at this; omega)).mono ?_
    rintro e w' ⟨rfl, hb⟩
    exact ⟨by rw [good_name _ hgp]; rfl, hb⟩
   generalize nameOf (writeF (bareT (plainT t))) = nm at *
   have HK := hid hk
   clear hg hgp hr hk
   have hvl : Hid (t.vars = [] ∨ t.vars ≠ []) := (Classical.em _)
   by_cases hv : t.vars = []
   ·by_cases h2 : t.region = []
    ·by_cases h3 : t.script = []
     ·have hv0 : ¬ (0 : Int) < (t.vars.length : Int) := by rw [hv]; simp
      have p1 : (t.region == []) = true := by rw [h2]; rfl
      have p1' : (t.region != []) = false := by rw [h2]; rfl
      have p2 : (t.script == []) = true := by rw [h3]; rfl
      have p2' : (t.script != []) = false := by rw [h3]; rfl
      have HPT0 := hid (plainT_L hv h2 h3)
      clear hv hvl h2 h3
      have HPT := HPT0
      clear HPT0
      go_enter Tryz.func32, Tryz.ntmps32
      go_wp2_with fail
      refine (NM.out _).mono ?_
      rintro e w1 ⟨v, rfl, ⟨vv, kv, rfl, hS, hP⟩, hcap, hb1⟩
      have HS := hid hS
      have HP := hid hP
      obtain ⟨av, cv, rfl, hav, _⟩ := hS
      obtain ⟨ak, ck, rfl, _, _⟩ := hP
      simp only [tagCells, S] at hcap ⊢
      have hcp : t.vars.length ≤ cv := hcap _ _ _ _ _ _ _ rfl
      have hcpi : (t.vars.length : Int) - 1 ≤ (cv : Int) := by omega
      clear hcap hcp
      have hx1 := heap_alloc_new w1 (.cells #[.string ⟨t.lang.toArray⟩, .string ⟨t.script.toArray⟩, .string ⟨t.region.toArray⟩, .slice av t.vars.length cv, .slice ak t.keys.length ck] 108)
      have hb2 : Below w1.heap.size w1 (w1.alloc (.cells #[.string ⟨t.lang.toArray⟩, .string ⟨t.script.toArray⟩, .string ⟨t.region.toArray⟩, .slice av t.vars.length cv, .slice ak t.keys.length ck] 108)) := (Below.refl _ _).alloc (Nat.le_refl _) _
      obtain ⟨c0, c1, c2, c3, c4⟩ := box_cells hx1
      have fz0 := frozen_of_row _ w1.heap.size 0 _ _ hx1
      have fz1 := frozen_of_row _ w1.heap.size 1 _ _ hx1
      have fz2 := frozen_of_row _ w1.heap.size 2 _ _ hx1
      have fz3 := frozen_of_row _ w1.heap.size 3 _ _ hx1
      have hsz := lt_of_block hx1
      have HB1 := hid hb1
      clear hb1 hb2 hx1
      go_wp2_with fail
      refine (N1.out _ _ ?_).mono ?_
      ·have hal : ∀ o, Below w1.heap.size w1 (w1.alloc o) := fun o => (Below.refl _ _).alloc (Nat.le_refl _) _
       rw [HPT.out]
       exact ⟨_, _, rfl, (HS.out).below (hal _), HP.out.below (hal _)⟩
      rintro e w3 ⟨rfl, hb3⟩
      have hw3 := HB1.out.then (Below.then ((Below.refl _ _).alloc (Nat.le_refl _) _) hb3)
      clear c0 c1 c2 c3 c4 fz0 fz1 fz2 fz3 hsz hb3
      go_wp2_with fail
      exact bodyPost_ret (v := .tuple #[.string ⟨nm.toArray⟩, .bool true]) (by simp [results, Tryz.results32, go_sem]) rfl ⟨rfl, hw3⟩
     ·have hv0 : ¬ (0 : Int) < (t.vars.length : Int) := by rw [hv]; simp
      have p1 : (t.region == []) = true := by rw [h2]; rfl
      have p1' : (t.region != []) = false := by rw [h2]; rfl
      have p2 : (t.script == []) = false := by rw [beq_eq_false_iff_ne]; exact h3
      have p2' : (t.script != []) = true := by rw [bne_iff_ne]; exact h3
      have HPT0 := hid (plainT_S hv h2 h3)
      clear hv hvl h2 h3
      have HPT := HPT0
      clear HPT0
      go_enter Tryz.func32, Tryz.ntmps32
      go_wp2_with fail
      refine (NM.out _).mono ?_
      rintro e w1 ⟨v, rfl, ⟨vv, kv, rfl, hS, hP⟩, hcap, hb1⟩
      have HS := hid hS
      have HP := hid hP
      obtain ⟨av, cv, rfl, hav, _⟩ := hS
      obtain ⟨ak, ck, rfl, _, _⟩ := hP
      simp only [tagCells, S] at hcap ⊢
      have hcp : t.vars.length ≤ cv := hcap _ _ _ _ _ _ _ rfl
      have hcpi : (t.vars.length : Int) - 1 ≤ (cv : Int) := by omega
      clear hcap hcp
      have hx1 := heap_alloc_new w1 (.cells #[.string ⟨t.lang.toArray⟩, .string ⟨t.script.toArray⟩, .string ⟨t.region.toArray⟩, .slice av t.vars.length cv, .slice ak t.keys.length ck] 108)
      have hb2 : Below w1.heap.size w1 (w1.alloc (.cells #[.string ⟨t.lang.toArray⟩, .string ⟨t.script.toArray⟩, .string ⟨t.region.toArray⟩, .slice av t.vars.length cv, .slice ak t.keys.length ck] 108)) := (Below.refl _ _).alloc (Nat.le_refl _) _
      obtain ⟨c0, c1, c2, c3, c4⟩ := box_cells hx1
      have fz0 := frozen_of_row _ w1.heap.size 0 _ _ hx1
      have fz1 := frozen_of_row _ w1.heap.size 1 _ _ hx1
      have fz2 := frozen_of_row _ w1.heap.size 2 _ _ hx1
      have fz3 := frozen_of_row _ w1.heap.size 3 _ _ hx1
      have hsz := lt_of_block hx1
      have HB1 := hid hb1
      clear hb1 hb2 hx1
      go_wp2_with fail
      refine (N1.out _ _ ?_).mono ?_
      ·have hal : ∀ o, Below w1.heap.size w1 (w1.alloc o) := fun o => (Below.refl _ _).alloc (Nat.le_refl _) _
       rw [HPT.out]
       exact ⟨_, _, rfl, (HS.out).below (hal _), HP.out.below (hal _)⟩
      rintro e w3 ⟨rfl, hb3⟩
      have hw3 := HB1.out.then (Below.then ((Below.refl _ _).alloc (Nat.le_refl _) _) hb3)
      clear c0 c1 c2 c3 c4 fz0 fz1 fz2 fz3 hsz hb3
      go_wp2_with fail
      exact bodyPost_ret (v := .tuple #[.string ⟨nm.toArray⟩, .bool true]) (by simp [results, Tryz.results32, go_sem]) rfl ⟨rfl, hw3⟩
    ·have hv0 : ¬ (0 : Int) < (t.vars.length : Int) := by rw [hv]; simp
     have p1 : (t.region == []) = false := by rw [beq_eq_false_iff_ne]; exact h2
     have p1' : (t.region != []) = true := by rw [bne_iff_ne]; exact h2
     have HPT0 := hid (plainT_R hv h2)
     clear hv hvl h2
     have HPT := HPT0
     clear HPT0
     go_enter Tryz.func32, Tryz.ntmps32
     go_wp2_with fail
     refine (NM.out _).mono ?_
     rintro e w1 ⟨v, rfl, ⟨vv, kv, rfl, hS, hP⟩, hcap, hb1⟩
     have HS := hid hS
     have HP := hid hP
     obtain ⟨av, cv, rfl, hav, _⟩ := hS
     obtain ⟨ak, ck, rfl, _, _⟩ := hP
     simp only [tagCells, S] at hcap ⊢
     have hcp : t.vars.length ≤ cv := hcap _ _ _ _ _ _ _ rfl
     have hcpi : (t.vars.length : Int) - 1 ≤ (cv : Int) := by omega
     clear hcap hcp
     have hx1 := heap_alloc_new w1 (.cells #[.string ⟨t.lang.toArray⟩, .string ⟨t.script.toArray⟩, .string ⟨t.region.toArray⟩, .slice av t.vars.length cv, .slice ak t.keys.length ck] 108)
     have hb2 : Below w1.heap.size w1 (w1.alloc (.cells #[.string ⟨t.lang.toArray⟩, .string ⟨t.script.toArray⟩, .string ⟨t.region.toArray⟩, .slice av t.vars.length cv, .slice ak t.keys.length ck] 108)) := (Below.refl _ _).alloc (Nat.le_refl _) _
     obtain ⟨c0, c1, c2, c3, c4⟩ := box_cells hx1
     have fz0 := frozen_of_row _ w1.heap.size 0 _ _ hx1
     have fz1 := frozen_of_row _ w1.heap.size 1 _ _ hx1
     have fz2 := frozen_of_row _ w1.heap.size 2 _ _ hx1
     have fz3 := frozen_of_row _ w1.heap.size 3 _ _ hx1
     have hsz := lt_of_block hx1
     have HB1 := hid hb1
     clear hb1 hb2 hx1
     go_wp2_with fail
     refine (N1.out _ _ ?_).mono ?_
     ·have hal : ∀ o, Below w1.heap.size w1 (w1.alloc o) := fun o => (Below.refl _ _).alloc (Nat.le_refl _) _
      rw [HPT.out]
      exact ⟨_, _, rfl, (HS.out).below (hal _), HP.out.below (hal _)⟩
     rintro e w3 ⟨rfl, hb3⟩
     have hw3 := HB1.out.then (Below.then ((Below.refl _ _).alloc (Nat.le_refl _) _) hb3)
     clear c0 c1 c2 c3 c4 fz0 fz1 fz2 fz3 hsz hb3
     go_wp2_with fail
     exact bodyPost_ret (v := .tuple #[.string ⟨nm.toArray⟩, .bool true]) (by simp [results, Tryz.results32, go_sem]) rfl ⟨rfl, hw3⟩
   ·have hv0 : (0 : Int) < (t.vars.length : Int) := by have := List.length_pos_iff.2 hv; omega
    have HPT0 := hid (plainT_V hv)
    clear hv hvl
    have HPT := HPT0
    clear HPT0
    go_enter Tryz.func32, Tryz.ntmps32
    go_wp2_with fail
    refine (NM.out _).mono ?_
    rintro e w1 ⟨v, rfl, ⟨vv, kv, rfl, hS, hP⟩, hcap, hb1⟩
    have HS := hid hS
    have HP := hid hP
    obtain ⟨av, cv, rfl, hav, _⟩ := hS
    obtain ⟨ak, ck, rfl, _, _⟩ := hP
    simp only [tagCells, S] at hcap ⊢
    have hcp : t.vars.length ≤ cv := hcap _ _ _ _ _ _ _ rfl
    have hcpi : (t.vars.length : Int) - 1 ≤ (cv : Int) := by omega
    have hcp0 : (0 : Int) ≤ (t.vars.length : Int) - 1 := by omega
    have hcpn : ((t.vars.length : Int) - 1).toNat = t.vars.length - 1 := by omega
    clear hcap hcp
    have hx1 := heap_alloc_new w1 (.cells #[.string ⟨t.lang.toArray⟩, .string ⟨t.script.toArray⟩, .string ⟨t.region.toArray⟩, .slice av t.vars.length cv, .slice ak t.keys.length ck] 108)
    have hb2 : Below w1.heap.size w1 (w1.alloc (.cells #[.string ⟨t.lang.toArray⟩, .string ⟨t.script.toArray⟩, .string ⟨t.region.toArray⟩, .slice av t.vars.length cv, .slice ak t.keys.length ck] 108)) := (Below.refl _ _).alloc (Nat.le_refl _) _
    obtain ⟨c0, c1, c2, c3, c4⟩ := box_cells hx1
    have fz0 := frozen_of_row _ w1.heap.size 0 _ _ hx1
    have fz1 := frozen_of_row _ w1.heap.size 1 _ _ hx1
    have fz2 := frozen_of_row _ w1.heap.size 2 _ _ hx1
    have fz3 := frozen_of_row _ w1.heap.size 3 _ _ hx1
    have hsz := lt_of_block hx1
    have HB1 := hid hb1
    clear hb1 hb2 hx1
    go_wp2_with fail
    refine (N1.out _ _ ?_).mono ?_
    ·have hal : ∀ o, Below w1.heap.size w1 (w1.alloc o) := fun o => (Below.refl _ _).alloc (Nat.le_refl _) _
     rw [HPT.out]
     exact ⟨_, _, rfl, (rdS_take HS.out (t.vars.length - 1) (by omega)).below (hal _), HP.out.below (hal _)⟩
    rintro e w3 ⟨rfl, hb3⟩
    have hw3 := HB1.out.then (Below.then ((Below.refl _ _).alloc (Nat.le_refl _) _) hb3)
    clear c0 c1 c2 c3 c4 fz0 fz1 fz2 fz3 hsz hb3
    go_wp2_with fail
    exact bodyPost_ret (v := .tuple #[.string ⟨nm.toArray⟩, .bool true]) (by simp [results, Tryz.results32, go_sem]) rfl ⟨rfl, hw3⟩
 ·have hpl : plainF l = ([], false) := plain_no (fun h => hn h.1)
  rw [hpl]
  have hn2 : namedB l = false := by simpa using hn
  have hnt : namedT l = Tg.zero := by unfold namedT; rw [if_neg hn]
  rw [hnt, hn2] at NM
  clear hnt hn hpl hn2
  go_enter Tryz.func32, Tryz.ntmps32
  go_wp2_with fail
  refine (NM.out _).mono ?_
  rintro e w1 ⟨v, rfl, ⟨vv, kv, rfl, ⟨av, cv, rfl, _, _⟩, ⟨ak, ck, rfl, _, _⟩⟩, _, hb1⟩
  simp only [tagCells, S]
  go_wp2_with fail
  exact bodyPost_ret (v := .tuple #[.string ⟨#[]⟩, .bool false]) (by simp [results, Tryz.results32, go_sem]) rfl ⟨rfl, hb1.then ((Below.refl _ _).alloc (Nat.le_refl _) _)⟩
end Go.Proofs.YtjlfchnnhglbjaaGreat
namespace Go.Proofs.YtjlfchnnhglbjaaGreat
open Go.RowKit Go.Lib Go.Sort Go.Maps Go.WideMaps
theorem OwnE.len {α : Type} {E : El α} {w : World} {b n : Nat} {L : List (Str × α)} (h : OwnE E w b n L) {mt e : TypeId} (hu : Tryz.prog.underlying mt = some (.map 9 e)) (hn : (L.map (·.1)).Nodup) (ty : TypeId) :
  (Builtin.len_ #[mt] ty #[.map (some b)]).run Tryz.prog w = .ok (.int .i64 L.length) w := by
 obtain ⟨m, hown, hat⟩ := h
 have hp := (OwnE.keys hown hat hn).length_eq
 obtain ⟨es, rfl, _⟩ := hown.keysOf
 rw [hown.len hu ty]
 have : Maps.size (DataW.map es) = L.length := by
  rw [List.length_map] at hp
  rw [hp]
  simp [Maps.size, strKeys]
 rw [this]
structure KeptC (B : Nat) (w w' : World) : Prop where
 bel : Below B w w'
 cells : ∀ (k : Nat) (cs : Array Value) (ty : TypeId) (z : Nat × Nat), w.heap[k]? = some (Obj.cells cs ty z) → w'.heap[k]? = some (Obj.cells cs ty z)
section
variable {B : Nat} {w w1 w2 : World}
theorem KeptC.of (hb : Below w.heap.size w w1) (hB : B ≤ w.heap.size) : KeptC B w w1 := ⟨hb.mono hB, fun k cs ty z h => (hb.block k (lt_of_block h)).trans h⟩
theorem KeptC.then (h : KeptC B w w1) (hb : Below w1.heap.size w1 w2) (hB : B ≤ w1.heap.size) : KeptC B w w2 :=
 ⟨h.bel.trans (hb.mono hB), fun k cs ty z hk => (hb.block k (lt_of_block (h.cells k cs ty z hk))).trans (h.cells k cs ty z hk)⟩
theorem KeptC.drew (h : KeptC B w w1) : KeptC B w w1.drew := ⟨h.bel.drew, h.cells⟩
theorem KeptC.drewN (h : KeptC B w w1) (n : Nat) : KeptC B w (w1.drewN n) := ⟨below_drewN h.bel n, h.cells⟩
theorem KeptC.grown (h : KeptC B w w1) {α : Type} {E : El α} {b n : Nat} {L : List (Str × α)} (o : OwnE E w1 b n L) (gr : w1.grownBy w2 (some b)) (hB : B ≤ w1.heap.size) (hb : B ≤ b) : KeptC B w w2 := by
 refine ⟨h.bel.grown gr hB (fun k hk => by cases hk; exact hb), fun k cs ty z hk => ?_⟩
 have h1 := h.cells k cs ty z hk
 obtain ⟨es, ck, hm⟩ := o.isMap
 rw [gr.block k (lt_of_block h1) (by rintro e; cases e; rw [hm] at h1; cases h1)]
 exact h1
end
structure TbIn (B0 : Nat) (W : World) (Bt bv ba bn bp N : Nat) (V : List (Str × Nat)) (t : Tb) : Prop where
 at_ : TbAt W Bt bv ba bn bp N V t
 lo : B0 ≤ Bt ∧ B0 ≤ bv ∧ B0 ≤ ba ∧ B0 ≤ bn ∧ B0 ≤ bp
 each : ∀ p ∈ V, B0 ≤ p.2
section
variable {B0 : Nat} {W W' : World} {Bt bv ba bn bp N : Nat} {V : List (Str × Nat)} {t : Tb}
theorem TbIn.below (h : TbIn B0 W Bt bv ba bn bp N V t) (hb : Below W.heap.size W W') : TbIn B0 W' Bt bv ba bn bp N V t := ⟨h.at_.below hb, h.lo, h.each⟩
theorem TbIn.mono {N' : Nat} (h : TbIn B0 W Bt bv ba bn bp N V t) (hn : N ≤ N') : TbIn B0 W Bt bv ba bn bp N' V t := ⟨h.at_.mono hn, h.lo, h.each⟩
theorem TbIn.box (h : TbIn B0 W Bt bv ba bn bp N V t) : W.cell? ⟨Bt, 0, none⟩ = some (.map (some bv)) ∧ W.cell? ⟨Bt, 1, none⟩ = some (.map (some ba)) ∧ W.cell? ⟨Bt, 2, none⟩ = some (.map (some bn)) ∧ W.cell? ⟨Bt, 3, none⟩ = some (.map (some bp)) ∧ Bt < W.heap.size := by
 have hb := h.at_.box
 exact ⟨by rw [cell_of_row _ _ _ _ _ _ hb]; rfl, by rw [cell_of_row _ _ _ _ _ _ hb]; rfl, by rw [cell_of_row _ _ _ _ _ _ hb]; rfl, by rw [cell_of_row _ _ _ _ _ _ hb]; rfl, lt_of_block hb⟩
theorem TbAt.putAl (h : TbAt W Bt bv ba bn bp N V t) (l : List Rw) (hl : ∀ r ∈ l, r.loc = tRoot) (o : OwnE elSd W' ba (N + 1) (sdL l)) (gr : W.grownBy W' (some ba)) : TbAt W' Bt bv ba bn bp (N + 1) V { t with als := l } := by
 obtain ⟨h1, h2, h3, h5, h6, h8, hV⟩ := h.lo
 have hN : N ≤ N + 1 := Nat.le_succ N
 exact ⟨box_kept h.box h.als gr, (h.vals.kept gr h1).mono hN, o, (h.names.kept gr (Ne.symm h5)).mono hN, (h.paths.kept gr (Ne.symm h6)).mono hN,
  fun p hp => ((h.each p hp).kept gr (hV p hp).2.1).mono hN, h.keys, h.has, hl, h.apart⟩
end
def putAl (t : Tb) (f : Nat) (x : Itm) : List Rw := match findR t.als tRoot x.path with | none => t.als ++ [⟨tRoot, x.path, x.value, f, x.at'⟩] | some _ => t.als
section
variable {t : Tb} {loc : Str} {f : Nat} {x : Itm}
theorem putAl_root (h : ∀ r ∈ t.als, r.loc = tRoot) : ∀ r ∈ putAl t f x, r.loc = tRoot := by
 intro r hr
 unfold putAl at hr
 cases hf : findR t.als tRoot x.path with
 | none =>
  rw [hf] at hr
  rcases List.mem_append.1 hr with hr | hr
  ·exact h r hr
  ·rw [List.mem_singleton.1 hr]
 | some y => rw [hf] at hr; exact h r hr
theorem putAl_sd (h : ∀ r ∈ t.als, r.loc = tRoot) : putL (sdL t.als) x.path (x.value, (f : Int), x.at') = sdL (putAl t f x) := by
 unfold putL putAl
 rw [look_als h]
 cases hf : findR t.als tRoot x.path with
 | none => simp [sdL, sdOf]
 | some y => rfl
theorem item_path (h : x.path = [] ∨ pathB x.path = false) : itemF t loc f x = (2, t) := by unfold itemF; rw [if_pos h]
theorem item_place (h : ¬ (x.path = [] ∨ pathB x.path = false)) (ha : x.alias' = true) (hl : loc ≠ tRoot) : itemF t loc f x = (221, t) := by unfold itemF; rw [if_neg h, if_pos ⟨ha, hl⟩]
theorem item_alias (hr : ∀ r ∈ t.als, r.loc = tRoot) (h : ¬ (x.path = [] ∨ pathB x.path = false)) (ha : x.alias' = true) (hl : loc = tRoot) : itemF t loc f x = if putR (sdL t.als) x.path x.value = true then (0, { t with als := putAl t f x }) else (220, t) := by
 unfold itemF
 rw [if_neg h, if_neg (fun e => e.2 hl), if_pos ha]
 subst hl
 have hR : putR (sdL t.als) x.path x.value = match findR t.als tRoot x.path with | none => true | some y => y.text == x.value := by
  unfold putR
  rw [look_als hr]
  cases findR t.als tRoot x.path <;> rfl
 rw [hR]
 unfold putAl
 cases hf : findR t.als tRoot x.path with
 | none => rfl
 | some y =>
  show (if y.text = x.value then ((0 : Nat), t) else (220, t)) = if (y.text == x.value) = true then (0, t) else (220, t)
  by_cases e : y.text = x.value
  ·rw [if_pos e, if_pos (by rw [e]; exact beq_self_eq_true _)]
  ·rw [if_neg e, if_neg (by rw [beq_iff_eq]; exact e)]
theorem item_old (h : ¬ (x.path = [] ∨ pathB x.path = false)) (ha : x.alias' = false) {r : Rw} (hf : findR t.rows loc x.path = some r) : itemF t loc f x = if r.text = x.value then (0, t) else (220, t) := by
 unfold itemF
 rw [if_neg h, if_neg (by simp [ha]), if_neg (by simp [ha]), hf]
theorem item_new (h : ¬ (x.path = [] ∨ pathB x.path = false)) (ha : x.alias' = false) (hf : findR t.rows loc x.path = none) : itemF t loc f x = if x.path ∈ t.paths then (0, { t with rows := t.rows ++ [⟨loc, x.path, x.value, f, x.at'⟩] })
      else if t.paths.length = 16384 then (3, t)
      else (0, { t with rows := t.rows ++ [⟨loc, x.path, x.value, f, x.at'⟩], paths := t.paths ++ [x.path] }) := by
  unfold itemF
  rw [if_neg h, if_neg (by simp [ha]), if_neg (by simp [ha]), hf]
end
theorem box5_cells {W : World} {B : Nat} {a b c d e : Value} {ty : TypeId} (h : W.heap[B]? = some (.cells #[a, b, c, d, e] ty (0, 0))) :
  W.cell? ⟨B, 0, none⟩ = some a ∧ W.cell? ⟨B, 1, none⟩ = some b ∧ W.cell? ⟨B, 2, none⟩ = some c ∧ W.cell? ⟨B, 3, none⟩ = some d ∧ W.cell? ⟨B, 4, none⟩ = some e ∧ B < W.heap.size :=
 ⟨by rw [cell_of_row _ _ _ _ _ _ h]; rfl, by rw [cell_of_row _ _ _ _ _ _ h]; rfl, by rw [cell_of_row _ _ _ _ _ _ h]; rfl, by rw [cell_of_row _ _ _ _ _ _ h]; rfl, by rw [cell_of_row _ _ _ _ _ _ h]; rfl, lt_of_block h⟩
theorem cell_grown {W W' : World} {b c i : Nat} {v : Value} (gr : W.grownBy W' (some c)) (hlt : b < W.heap.size) (hne : b ≠ c) (h : W.cell? ⟨b, i, none⟩ = some v) : W'.cell? ⟨b, i, none⟩ = some v := by
 rw [World.cell?_of_block (gr.block b hlt (by simpa using hne))]; exact h
theorem keep_said {B0 Bt bv ba bn bp N bi bs : Nat} {W W' : World} {V : List (Str × Nat)} {t : Tb} {p s0 s1 s2 : Value} {c1 c2 c3 c4 : Value} {ty ty2 : TypeId} (h : TbIn B0 W Bt bv ba bn bp N V t) (hi : W.heap[bi]? = some (.cells #[p, c1, c2, c3, c4] ty (0, 0))) (hs : W.heap[bs]? = some (.cells #[s0, s1, s2] ty2 (0, 0))) (g : W.drew.grownBy W' (some ba)) :
  W'.cell? ⟨Bt, 1, none⟩ = some (.map (some ba)) ∧ W'.cell? ⟨bi, 0, none⟩ = some p ∧ W'.cell? ⟨bs, 0, none⟩ = some s0 ∧ W'.cell? ⟨bs, 1, none⟩ = some s1 ∧ W'.cell? ⟨bs, 2, none⟩ = some s2 := by
 obtain ⟨es, ck, hm⟩ := h.at_.als.isMap
 have n1 : Bt ≠ ba := by rintro rfl; have := h.at_.box; rw [hm] at this; cases this
 have n2 : bi ≠ ba := by rintro rfl; rw [hm] at hi; cases hi
 have n3 : bs ≠ ba := by rintro rfl; rw [hm] at hs; cases hs
 obtain ⟨_, t1, _, _, tl⟩ := h.box
 obtain ⟨i0, _, _, _, _, il⟩ := box5_cells hi
 obtain ⟨x0, x1, x2, xl⟩ := box3_cells hs
 exact ⟨cell_grown g tl n1 t1, cell_grown g il n2 i0, cell_grown g xl n3 x0, cell_grown g xl n3 x1, cell_grown g xl n3 x2⟩
theorem item_leaf {B0 : Nat} {w W' : World} {Bt bv ba bn bp N e1 : Nat} {t t1 : Tb} {loc : Str} {f : Nat} {x : Itm} (h : itemF t loc f x = (e1, t1)) (hb : KeptC B0 w W') (ht : e1 = 0 → ∃ V', TbIn B0 W' Bt bv ba bn bp (N + 4) V' t1) :
  Ending.returned (.int .i64 (e1 : Int)) = Ending.returned (.int .i64 (itemF t loc f x).1) ∧ KeptC B0 w W' ∧ ((itemF t loc f x).1 = 0 → ∃ V', TbIn B0 W' Bt bv ba bn bp (N + 4) V' (itemF t loc f x).2) := by
 rw [h]; exact ⟨rfl, hb, ht⟩
theorem setL_keys (L : List Str) : (setL L).map (·.1) = L := by unfold setL; rw [List.map_map]; exact List.map_id' L
theorem spot_err (x y : Int) (w : World) : (Instr.field 99 (.agg #[.int .i64 x, .int .i64 y]) 0).run Tryz.prog w = .ok (.int .i64 x) w := by kernel_rfl
theorem not_both {a b : Prop} (ha : ¬ a) (hb : ¬ b) : ¬ (a ∨ b) := fun h => h.elim ha hb
end Go.Proofs.YtjlfchnnhglbjaaGreat
namespace Go.Proofs.YtjlfchnnhglbjaaGreat
open Go.RowKit Go.Lib Go.Sort Go.Maps Go.WideMaps
set_option maxRecDepth 100000 in
set_option maxHeartbeats 8000000 in
theorem item_any (B0 : Nat) (w : World) {Bt bv ba bn bp N : Nat} {V : List (Str × Nat)} {t : Tb} (loc : Str) (f : Nat) (x : Itm) (h : TbIn B0 w Bt bv ba bn bp N V t) (ok : TbOk t) (hB : B0 ≤ w.heap.size) (hN : N + 4 < maxLen) (hl : loc.length ≤ maxLen) (hp : x.path.length ≤ maxLen) :
  Calls Tryz.prog 33 #[.pointer (some ⟨Bt, 0, none⟩), .string ⟨loc.toArray⟩, .int .i64 f, .agg #[.string ⟨x.path.toArray⟩, .string ⟨x.value.toArray⟩, .bool x.alias', .string ⟨x.draft.toArray⟩, .int .i64 x.at']] w fun e w' =>
   e = .returned (.int .i64 (itemF t loc f x).1) ∧ KeptC B0 w w' ∧ ((itemF t loc f x).1 = 0 → ∃ V', TbIn B0 w' Bt bv ba bn bp (N + 4) V' (itemF t loc f x).2) := by
 have HOK := hid ok
 have HPATH := hid (fun hh => item_path (t := t) (loc := loc) (f := f) (x := x) hh)
 have HPLACE := hid (fun h1 h2 h3 => item_place (t := t) (loc := loc) (f := f) (x := x) h1 h2 h3)
 have HALIAS := hid (fun h1 h2 h3 => item_alias (t := t) (loc := loc) (f := f) (x := x) ok.root h1 h2 h3)
 have HOLD := hid (fun h1 h2 r h3 => item_old (t := t) (loc := loc) (f := f) (x := x) h1 h2 (r := r) h3)
 have HNEW := hid (fun h1 h2 h3 => item_new (t := t) (loc := loc) (f := f) (x := x) h1 h2 h3)
 have HPUT := hid (putAl_sd (t := t) (f := f) (x := x) ok.root)
 have HPUTR := hid (putAl_root (t := t) (f := f) (x := x) ok.root)
 obtain ⟨xp, xv, xal, xd, xa⟩ := x
 simp only at *
 have F1 := hid (heap_alloc_new w (.cells #[.string ⟨xp.toArray⟩, .string ⟨xv.toArray⟩, .bool xal, .string ⟨xd.toArray⟩, .int .i64 xa] 35))
 have hb1 : Below w.heap.size w (w.alloc (.cells #[.string ⟨xp.toArray⟩, .string ⟨xv.toArray⟩, .bool xal, .string ⟨xd.toArray⟩, .int .i64 xa] 35)) := (Below.refl _ _).alloc (Nat.le_refl _) _
 have T1 := hid (h.below hb1)
 have B1 := hid (KeptC.of hb1 hB)
 have HS1 := hid hb1.size
 have CK := hid (fun W => pcheck_any xp W hp)
 clear hb1 ok h
 by_cases he : xp = []
 ·subst he
  have HRES := hid (HPATH.out (Or.inl rfl))
  go_enter Tryz.func33, Tryz.ntmps33
  go_upto_region 1 with fail
  generalize w.alloc (.cells #[.string ⟨([] : Str).toArray⟩, .string ⟨xv.toArray⟩, .bool xal, .string ⟨xd.toArray⟩, .int .i64 xa] 35) = w1 at *
  obtain ⟨c0, c1, c2, c3, c4, lt⟩ := box5_cells F1.out
  go_wp2_with fail
  exact bodyPost_ret (v := .int .i64 2) (by simp [results, Tryz.results33, go_sem]) rfl (item_leaf (e1 := 2) HRES.out (B1.out) (fun h => by cases h))
 ·have hne : List.isEmpty xp = false := isEmpty_ne he
  have hne2 : (xp == []) = false := by rw [beq_eq_false_iff_ne]; exact he
  have HE := hid he
  clear he
  go_enter Tryz.func33, Tryz.ntmps33
  go_upto_region 1 with fail
  generalize w.alloc (.cells #[.string ⟨xp.toArray⟩, .string ⟨xv.toArray⟩, .bool xal, .string ⟨xd.toArray⟩, .int .i64 xa] 35) = w1 at *
  obtain ⟨c0, c1, c2, c3, c4, lt⟩ := box5_cells F1.out
  go_wp2_with fail
  refine (CK.out w1).mono ?_
  rintro e w2 ⟨⟨er, ea, rfl, hi⟩, hb2⟩
  have HI := hid hi
  have hfd := spot_err er ea w2
  have T2 := hid (T1.out.below hb2)
  have F2 := hid ((hb2.block _ (lt_of_block F1.out)).trans F1.out)
  have B2 := hid (B1.out.then hb2 (Nat.le_trans hB HS1.out))
  have HS2 := hid (Nat.le_trans HS1.out hb2.size)
  clear hi hb2 c0 c1 c2 c3 c4 lt T1 F1 B1 HS1 CK
  obtain ⟨c0, c1, c2, c3, c4, lt⟩ := box5_cells F2.out
  cases hpb : pathB xp with
  | false =>
   have hz : (er : Int) ≠ 0 := by
    intro e
    have := HI.out.1 (by omega)
    rw [hpb] at this; cases this
   have hz1 : ((er : Int) != 0) = true := by rw [bne_iff_ne]; exact hz
   have hz2 : er ≠ 0 := by omega
   have HRES := hid (HPATH.out (Or.inr hpb))
   go_wp2_with fail
   exact bodyPost_ret (v := .int .i64 2) (by simp [results, Tryz.results33, go_sem]) rfl (item_leaf (e1 := 2) HRES.out (B2.out) (fun h => by cases h))
  | true =>
   obtain rfl : er = 0 := HI.out.2 hpb
   have HGOOD := hid (not_both HE.out (show ¬ pathB xp = false by rw [hpb]; simp))
   clear hpb HI
   have hfd0 := spot_err 0 ea w2
   have SB := hid ((Below.refl w2.heap.size w2).alloc (Nat.le_refl _) (.cells #[.string ⟨xv.toArray⟩, .int .i64 f, .int .i64 xa] 84))
   have G3 := hid (heap_alloc_new w2 (.cells #[.string ⟨xv.toArray⟩, .int .i64 f, .int .i64 xa] 84))
   have T3 := hid (T2.out.below SB.out)
   have F3 := hid ((SB.out.block _ (lt_of_block F2.out)).trans F2.out)
   have SBL := hid SB.out.size
   have HLW := hid (show w.heap.size < w2.heap.size from lt_of_block F2.out)
   have B3 := hid (B2.out.then SB.out (show B0 ≤ w2.heap.size from Nat.le_trans hB HS2.out))
   cases xal with
   | true =>
    by_cases hr : loc = tRoot
    ·have hub : (loc == [114, 111, 111, 116]) = true := by rw [hr]; rfl
     have hub2 : (loc != [114, 111, 111, 116]) = false := by rw [hr]; rfl
     have HRES := hid (HALIAS.out HGOOD.out (by simp) hr)
     clear hr
     go_upto_region 6 with fail
     generalize w2.alloc (.cells #[.string ⟨xv.toArray⟩, .int .i64 f, .int .i64 xa] 84) = w3 at *
     clear c0 c1 c2 c3 c4 lt T2 F2 B2
     obtain ⟨c0, c1, c2, c3, c4, lt⟩ := box5_cells F3.out
     obtain ⟨s0, s1, s2, sl⟩ := box3_cells G3.out
     obtain ⟨t0, t1, t2, t3, tl⟩ := T3.out.box
     go_wp2_with fail
     have PUT := hid (put_any w3.drew ba N (sdL t.als) xp xv f xa (show OwnE elSd w3.drew ba N (sdL t.als) from T3.out.at_.als.block rfl) (by omega) hp)
     generalize hR : putR (sdL t.als) xp xv = r at *
     have KS := hid (fun W' (g : w3.drew.grownBy W' (some ba)) => keep_said T3.out F3.out G3.out g)
     have S0 : w3.drew.cell? ⟨Bt, 1, none⟩ = some (.map (some ba)) ∧ w3.drew.cell? ⟨w.heap.size, 0, none⟩ = some (.string ⟨xp.toArray⟩) ∧ w3.drew.cell? ⟨w2.heap.size, 0, none⟩ = some (.string ⟨xv.toArray⟩) ∧ w3.drew.cell? ⟨w2.heap.size, 1, none⟩ = some (.int .i64 f) ∧ w3.drew.cell? ⟨w2.heap.size, 2, none⟩ = some (.int .i64 xa) := ⟨t1, c0, s0, s1, s2⟩
     go_region_held3 (fun W => W.cell? ⟨Bt, 1, none⟩ = some (.map (some ba)) ∧ W.cell? ⟨w.heap.size, 0, none⟩ = some (.string ⟨xp.toArray⟩) ∧ W.cell? ⟨w2.heap.size, 0, none⟩ = some (.string ⟨xv.toArray⟩) ∧ W.cell? ⟨w2.heap.size, 1, none⟩ = some (.int .i64 f) ∧ W.cell? ⟨w2.heap.size, 2, none⟩ = some (.int .i64 xa)) (first | with_reducible assumption | go_keep)
      (first | (go_at_call 54; refine PUT.out.mono ?_; rintro e w4 ⟨rfl, ho, hg⟩; have hs : w4.cell? ⟨Bt, 1, none⟩ = some (.map (some ba)) ∧ w4.cell? ⟨w.heap.size, 0, none⟩ = some (.string ⟨xp.toArray⟩) ∧ w4.cell? ⟨w2.heap.size, 0, none⟩ = some (.string ⟨xv.toArray⟩) ∧ w4.cell? ⟨w2.heap.size, 1, none⟩ = some (.int .i64 f) ∧ w4.cell? ⟨w2.heap.size, 2, none⟩ = some (.int .i64 xa) := KS.out _ hg))
     all_goals
      have HO4 := hid ho
      have HG4 := hid hg
      clear ho hg hs S0 c0 c1 c2 c3 c4 lt s0 s1 s2 sl t0 t1 t2 t3 tl
      have T4 := hid (show TbIn B0 w4 Bt bv ba bn bp (N + 1) V { t with als := putAl t f ⟨xp, xv, true, xd, xa⟩ } from ⟨(show TbAt w3.drew Bt bv ba bn bp N V t from (T3.out.below (Below.refl _ _).drew).at_).putAl _ HPUTR.out (by rw [← HPUT.out]; exact HO4.out) HG4.out, T3.out.lo, T3.out.each⟩)
      have B4 := hid (B3.out.drew.grown (show OwnE elSd w3.drew ba N (sdL t.als) from T3.out.at_.als.block rfl) HG4.out (Nat.le_trans hB (Nat.le_trans HS2.out SBL.out)) T3.out.lo.2.2.1)
      cases r with
      | true =>
       have HRES2 := hid (HRES.out.trans (if_pos rfl))
       go_wp2_with fail
       exact bodyPost_ret (v := .int .i64 0) (by simp [results, Tryz.results33, go_sem]) rfl (item_leaf (e1 := 0) HRES2.out (B4.out) (fun _ => ⟨V, T4.out.mono (by omega)⟩))
      | false =>
       have HRES2 := hid (HRES.out.trans (if_neg (by simp)))
       go_wp2_with fail
       exact bodyPost_ret (v := .int .i64 220) (by simp [results, Tryz.results33, go_sem]) rfl (item_leaf (e1 := 220) HRES2.out (B4.out) (fun h => by cases h))
    ·have hub : (loc == [114, 111, 111, 116]) = false := by rw [beq_eq_false_iff_ne]; exact hr
     have hub2 : (loc != [114, 111, 111, 116]) = true := by rw [bne_iff_ne]; exact hr
     have HRES := hid (HPLACE.out HGOOD.out (by simp) hr)
     clear hr
     go_wp2_with fail
     exact bodyPost_ret (v := .int .i64 221) (by simp [results, Tryz.results33, go_sem]) rfl (item_leaf (e1 := 221) HRES.out (B2.out) (fun h => by cases h))
   | false =>
    go_upto_region 6 with fail
    generalize w2.alloc (.cells #[.string ⟨xv.toArray⟩, .int .i64 f, .int .i64 xa] 84) = w3 at *
    clear c0 c1 c2 c3 c4 lt T2 F2 B2
    obtain ⟨c0, c1, c2, c3, c4, lt⟩ := box5_cells F3.out
    obtain ⟨s0, s1, s2, sl⟩ := box3_cells G3.out
    obtain ⟨t0, t1, t2, t3, tl⟩ := T3.out.box
    obtain ⟨o, ho⟩ : ∃ o, o = lookE V loc := ⟨_, rfl⟩
    have HO := hid ho
    clear ho
    go_upto_if 59 with (at_lookup; refine wpList_lookE (E := elMp) T3.out.at_.vals Tryz.underlying69 zeroMap rfl _ _ rfl rfl loc rfl hl (.map o) o.isSome (by rw [look_mp, ← HO.out]; cases o <;> rfl) (by rw [look_mp, ← HO.out]; cases o <;> rfl) ?_)
    go_cut [10] from 58 to 66 (fun v wx => ∃ bm V', v = .map (some bm) ∧ (loc, bm) ∈ V' ∧ TbIn B0 wx Bt bv ba bn bp (N + 1) V' t ∧ wx.heap[w.heap.size]? = some (.cells #[.string ⟨xp.toArray⟩, .string ⟨xv.toArray⟩, .bool false, .string ⟨xd.toArray⟩, .int .i64 xa] 35 (0, 0)) ∧ wx.heap[w2.heap.size]? = some (.cells #[.string ⟨xv.toArray⟩, .int .i64 f, .int .i64 xa] 84 (0, 0)) ∧ KeptC B0 w wx)
    case first =>
     cases o with
     | some bm =>
      go_wp2_with fail
      go_meet
      exact ⟨bm, V, rfl, lookE_in HO.out.symm, T3.out.mono (Nat.le_succ N), F3.out, G3.out, B3.out⟩
     | none =>
      have hmm := @run_makeMap Tryz.prog
      have HA := hid (show Below w3.heap.size w3 (w3.alloc (.map #[] 0)) from (Below.refl _ _).alloc (Nat.le_refl _) _)
      have T4 := hid (T3.out.below HA.out)
      have F4 := hid ((HA.out.block _ (lt_of_block F3.out)).trans F3.out)
      have G4 := hid ((HA.out.block _ (lt_of_block G3.out)).trans G3.out)
      clear c0 c1 c2 c3 c4 lt s0 s1 s2 sl t0 t1 t2 t3 tl
      obtain ⟨t0, t1, t2, t3, tl⟩ := T4.out.box
      go_wp2_with (at_mapUpdate; refine wpList_sayE (E := elMp) T4.out.at_.vals (by omega) Tryz.underlying69 rfl _ _ _ rfl rfl loc rfl hl (some w3.heap.size) rfl (by rw [look_mp, ← HO.out]; rfl) ?_; intro w5 ho5 hg5; have HO5 := hid ho5; have HG5 := hid hg5; clear ho5 hg5)
      go_meet
      exact ⟨w3.heap.size, V ++ [(loc, w3.heap.size)], rfl, by simp, ⟨T3.out.at_.addMap loc HO.out.symm HO5.out HG5.out, T3.out.lo, fun p hp => by
       rcases List.mem_append.1 hp with hp | hp
       ·exact T3.out.each p hp
       ·rw [List.mem_singleton.1 hp]; exact Nat.le_trans hB (Nat.le_trans HS2.out SBL.out)⟩, box_kept F4.out T4.out.at_.vals HG5.out, box_kept G4.out T4.out.at_.vals HG5.out,
       (B3.out.then HA.out (Nat.le_trans hB (Nat.le_trans HS2.out SBL.out))).grown T4.out.at_.vals HG5.out (Nat.le_trans hB (Nat.le_trans HS2.out (Nat.le_trans SBL.out HA.out.size))) T3.out.lo.2.1⟩
    case rest =>
     obtain ⟨bm, V', rfl, hin, tb5, f5, g5, b5⟩ := hcut
     rename World => w5
     have T5 := hid tb5
     have F5 := hid f5
     have G5 := hid g5
     have B5 := hid b5
     have HIN := hid hin
     clear tb5 f5 g5 b5 hin c0 c1 c2 c3 c4 lt s0 s1 s2 sl t0 t1 t2 t3 tl T3 F3 G3 B3 HO
     have HS5 := hid (show B0 ≤ w5.heap.size by have := T5.out.lo.1; have := T5.out.box.2.2.2.2; omega)
     obtain ⟨c0, c1, c2, c3, c4, lt⟩ := box5_cells F5.out
     obtain ⟨r, hr⟩ : ∃ r, r = findR t.rows loc xp := ⟨_, rfl⟩
     have LKM := hid (show lookE (sdL (rowsOf t loc)) xp = r.map sdOf by rw [look_rows, hr])
     have HR := hid hr
     clear hr
     cases r with
     | some r =>
      have HRES := hid (HOLD.out HGOOD.out (by simp) r HR.out.symm)
      go_upto_region 15 with (at_lookup; refine wpList_lookE (E := elSd) (T5.out.at_.each _ HIN.out) Tryz.underlying70 zeroSd rfl _ _ rfl rfl xp rfl hp (.agg #[.string ⟨r.text.toArray⟩, .int .i64 r.file, .int .i64 r.at']) true (by rw [LKM.out]; rfl) (by rw [LKM.out]; rfl) ?_)
      have HA := hid (show Below w5.heap.size w5 (w5.alloc (.cells #[.string ⟨r.text.toArray⟩, .int .i64 r.file, .int .i64 r.at'] 84)) from (Below.refl _ _).alloc (Nat.le_refl _) _)
      have Y6 := hid (heap_alloc_new w5 (.cells #[.string ⟨r.text.toArray⟩, .int .i64 r.file, .int .i64 r.at'] 84))
      generalize w5.alloc (.cells #[.string ⟨r.text.toArray⟩, .int .i64 r.file, .int .i64 r.at'] 84) = w6 at *
      have F6 := hid ((HA.out.block _ (lt_of_block F5.out)).trans F5.out)
      have T6 := hid (T5.out.below HA.out)
      have B6 := hid (B5.out.then HA.out HS5.out)
      clear c0 c1 c2 c3 c4 lt
      obtain ⟨c0, c1, c2, c3, c4, lt⟩ := box5_cells F6.out
      obtain ⟨y0, y1, y2, yl⟩ := box3_cells Y6.out
      by_cases ht : r.text = xv
      ·have hub : (r.text != xv) = false := by rw [bne_eq_false_iff_eq]; exact ht
       have hub2 : (r.text == xv) = true := by rw [beq_iff_eq]; exact ht
       have HRES2 := hid (HRES.out.trans (if_pos ht))
       clear ht
       go_wp2_with fail
       exact bodyPost_ret (v := .int .i64 0) (by simp [results, Tryz.results33, go_sem]) rfl (item_leaf (e1 := 0) HRES2.out (B6.out) (fun _ => ⟨V', T6.out.mono (by omega)⟩))
      ·have hub : (r.text != xv) = true := by rw [bne_iff_ne]; exact ht
       have hub2 : (r.text == xv) = false := by rw [beq_eq_false_iff_ne]; exact ht
       have HRES2 := hid (HRES.out.trans (if_neg ht))
       clear ht
       go_wp2_with fail
       exact bodyPost_ret (v := .int .i64 220) (by simp [results, Tryz.results33, go_sem]) rfl (item_leaf (e1 := 220) HRES2.out (B6.out) (fun h => by cases h))
     | none =>
      have HRES := hid (HNEW.out HGOOD.out (by simp) HR.out.symm)
      go_upto_region 15 with (at_lookup; refine wpList_lookE (E := elSd) (T5.out.at_.each _ HIN.out) Tryz.underlying70 zeroSd rfl _ _ rfl rfl xp rfl hp (.agg #[.string ⟨#[]⟩, .int .i64 0, .int .i64 0]) false (by rw [LKM.out]; rfl) (by rw [LKM.out]; rfl) ?_)
      have HA := hid (show Below w5.heap.size w5 (w5.alloc (.cells #[.string ⟨#[]⟩, .int .i64 0, .int .i64 0] 84)) from (Below.refl _ _).alloc (Nat.le_refl _) _)
      generalize w5.alloc (.cells #[.string ⟨#[]⟩, .int .i64 0, .int .i64 0] 84) = w6 at *
      have F6 := hid ((HA.out.block _ (lt_of_block F5.out)).trans F5.out)
      have G6 := hid ((HA.out.block _ (lt_of_block G5.out)).trans G5.out)
      have T6 := hid (T5.out.below HA.out)
      have B6 := hid (B5.out.then HA.out HS5.out)
      have HS6 := hid (Nat.le_trans HS5.out HA.out.size)
      clear c0 c1 c2 c3 c4 lt F5 G5 T5 B5 HS5 HA
      obtain ⟨c0, c1, c2, c3, c4, lt⟩ := box5_cells F6.out
      obtain ⟨t0, t1, t2, t3, tl⟩ := T6.out.box
      have LN : ∀ m ty, (Builtin.len_ #[71] ty #[.map (some bp)]).run Tryz.prog (w6.drewN m) = .ok (.int .i64 t.paths.length) (w6.drewN m) := fun m ty => by
       have := (show OwnE elBo (w6.drewN m) bp (N + 1) (setL t.paths) from T6.out.at_.paths.block rfl).len Tryz.underlying71 (by rw [setL_keys]; exact HOK.out.paths) ty
       rw [this]; simp [setL]
      by_cases hmp : xp ∈ t.paths
      ·have LK : ∀ m, (Instr.lookup 71 (.map (some bp)) (.string ⟨xp.toArray⟩) false).run Tryz.prog (w6.drewN m) = .ok (.bool true) (w6.drewN m) := fun m => by
        have := (show OwnE elBo (w6.drewN m) bp (N + 1) (setL t.paths) from T6.out.at_.paths.block rfl).look Tryz.underlying71 zeroBo xp hp
        rw [look_set, if_pos hmp] at this
        exact this
       have HRES2 := hid (HRES.out.trans (if_pos hmp))
       have HMP := hid (show lookE (setL t.paths) xp = some true by rw [look_set, if_pos hmp])
       clear hmp
       go_wp2_with fail
       go_quiet (fail)
       go_wp2_with fail
       have HB7 := hid (show Below w6.heap.size w6 (w6.drewN nq) from below_drewN (Below.refl _ _) nq)
       clear LK LN c0 c1 c2 c3 c4 lt t0 t1 t2 t3 tl
       generalize w6.drewN nq = w7 at *
       have F7 := hid ((HB7.out.block _ (lt_of_block F6.out)).trans F6.out)
       have G7 := hid ((HB7.out.block _ (lt_of_block G6.out)).trans G6.out)
       have T7 := hid (T6.out.below HB7.out)
       have B7 := hid (B6.out.then HB7.out HS6.out)
       have HS7 := hid (Nat.le_trans HS6.out HB7.out.size)
       clear F6 G6 T6 B6 HS6 HB7
       obtain ⟨c0, c1, c2, c3, c4, lt⟩ := box5_cells F7.out
       obtain ⟨t0, t1, t2, t3, tl⟩ := T7.out.box
       obtain ⟨w8, hrun, ho8, hg8⟩ := (show OwnE elBo w7.drew bp (N + 1) (setL t.paths) from T7.out.at_.paths.block rfl).again (by omega) Tryz.underlying71 xp true hp HMP.out
       have hrun2 : (Instr.mapUpdate 71 (.map (some bp)) (.string ⟨xp.toArray⟩) (.bool true)).run Tryz.prog w7.drew = .ok () w8 := hrun
       have T8 := hid (show TbIn B0 w8 Bt bv ba bn bp (N + 2) V' { t with paths := t.paths } from ⟨(show TbAt w7.drew Bt bv ba bn bp (N + 1) V' t from (T7.out.below (Below.refl _ _).drew).at_).addPath (by  exact ho8) hg8, T7.out.lo, T7.out.each⟩)
       have B8 := hid (B7.out.drew.grown (show OwnE elBo w7.drew bp (N + 1) (setL t.paths) from T7.out.at_.paths.block rfl) hg8 HS7.out T7.out.lo.2.2.2.2)
       have F8 := hid (box_kept (show w7.drew.heap[w.heap.size]? = _ from F7.out) (show OwnE elBo w7.drew bp (N + 1) (setL t.paths) from T7.out.at_.paths.block rfl) hg8)
       have G8 := hid (box_kept (show w7.drew.heap[w2.heap.size]? = _ from G7.out) (show OwnE elBo w7.drew bp (N + 1) (setL t.paths) from T7.out.at_.paths.block rfl) hg8)
       have HS8 := hid (Nat.le_trans HS7.out hg8.size)
       clear hrun ho8 hg8
       first
        | go_region
        | fail "r21"
       all_goals
        clear hrun2 c0 c1 c2 c3 c4 lt t0 t1 t2 t3 tl F7 G7 T7 B7 HS7
        obtain ⟨c0, c1, c2, c3, c4, lt⟩ := box5_cells F8.out
        obtain ⟨s0, s1, s2, sl⟩ := box3_cells G8.out
        go_wp2_with fail
        refine (put_any w8 bm (N + 2) (sdL (rowsOf t loc)) xp xv f xa (T8.out.at_.each _ HIN.out) (by omega) hp).mono ?_
        rintro e w9 ⟨rfl, ho9, hg9⟩
        have T9 := hid (show TbIn B0 w9 Bt bv ba bn bp (N + 3) V' { t with rows := t.rows ++ [⟨loc, xp, xv, f, xa⟩], paths := t.paths } from ⟨T8.out.at_.addRow ⟨loc, xp, xv, f, xa⟩ HIN.out (by rw [putL, LKM.out] at ho9; exact ho9) hg9, T8.out.lo, T8.out.each⟩)
        have B9 := hid (B8.out.grown (T8.out.at_.each _ HIN.out) hg9 HS8.out (T8.out.each _ HIN.out))
        clear ho9 hg9 c0 c1 c2 c3 c4 lt s0 s1 s2 sl
        go_wp2_with fail
        exact bodyPost_ret (v := .int .i64 0) (by simp [results, Tryz.results33, go_sem]) rfl (item_leaf (e1 := 0) HRES2.out (B9.out) (fun _ => ⟨V', T9.out.mono (by omega)⟩))
      ·have LK : ∀ m, (Instr.lookup 71 (.map (some bp)) (.string ⟨xp.toArray⟩) false).run Tryz.prog (w6.drewN m) = .ok (.bool false) (w6.drewN m) := fun m => by
        have := (show OwnE elBo (w6.drewN m) bp (N + 1) (setL t.paths) from T6.out.at_.paths.block rfl).look Tryz.underlying71 zeroBo xp hp
        rw [look_set, if_neg hmp] at this
        exact this
       have HRES1 := hid (HRES.out.trans (if_neg hmp))
       have HMP := hid (show lookE (setL t.paths) xp = none by rw [look_set, if_neg hmp])
       clear hmp
       by_cases hful : t.paths.length = 16384
       ·have hfl : ((t.paths.length : Int) == 16384) = true := by rw [beq_iff_eq]; omega
        have HRES2 := hid (HRES1.out.trans (if_pos hful))
        clear hful
        go_wp2_with fail
        go_quiet (fail)
        go_wp2_with fail
        exact bodyPost_ret (v := .int .i64 3) (by simp [results, Tryz.results33, go_sem]) rfl (item_leaf (e1 := 3) HRES2.out (B6.out.drewN _) (fun h => by cases h))
       ·have hfl : ((t.paths.length : Int) == 16384) = false := by rw [beq_eq_false_iff_ne]; omega
        have HRES2 := hid (HRES1.out.trans (if_neg hful))
        clear hful
        go_wp2_with fail
        go_quiet (fail)
        go_wp2_with fail
        have HB7 := hid (show Below w6.heap.size w6 (w6.drewN nq) from below_drewN (Below.refl _ _) nq)
        clear LK LN c0 c1 c2 c3 c4 lt t0 t1 t2 t3 tl
        generalize w6.drewN nq = w7 at *
        have F7 := hid ((HB7.out.block _ (lt_of_block F6.out)).trans F6.out)
        have G7 := hid ((HB7.out.block _ (lt_of_block G6.out)).trans G6.out)
        have T7 := hid (T6.out.below HB7.out)
        have B7 := hid (B6.out.then HB7.out HS6.out)
        have HS7 := hid (Nat.le_trans HS6.out HB7.out.size)
        clear F6 G6 T6 B6 HS6 HB7
        obtain ⟨c0, c1, c2, c3, c4, lt⟩ := box5_cells F7.out
        obtain ⟨t0, t1, t2, t3, tl⟩ := T7.out.box
        obtain ⟨w8, hrun, ho8, hg8⟩ := (show OwnE elBo w7.drew bp (N + 1) (setL t.paths) from T7.out.at_.paths.block rfl).say (by omega) Tryz.underlying71 xp true hp HMP.out
        have hrun2 : (Instr.mapUpdate 71 (.map (some bp)) (.string ⟨xp.toArray⟩) (.bool true)).run Tryz.prog w7.drew = .ok () w8 := hrun
        have T8 := hid (show TbIn B0 w8 Bt bv ba bn bp (N + 2) V' { t with paths := t.paths ++ [xp] } from ⟨(show TbAt w7.drew Bt bv ba bn bp (N + 1) V' t from (T7.out.below (Below.refl _ _).drew).at_).addPath (by rw [setL, List.map_append]; exact ho8) hg8, T7.out.lo, T7.out.each⟩)
        have B8 := hid (B7.out.drew.grown (show OwnE elBo w7.drew bp (N + 1) (setL t.paths) from T7.out.at_.paths.block rfl) hg8 HS7.out T7.out.lo.2.2.2.2)
        have F8 := hid (box_kept (show w7.drew.heap[w.heap.size]? = _ from F7.out) (show OwnE elBo w7.drew bp (N + 1) (setL t.paths) from T7.out.at_.paths.block rfl) hg8)
        have G8 := hid (box_kept (show w7.drew.heap[w2.heap.size]? = _ from G7.out) (show OwnE elBo w7.drew bp (N + 1) (setL t.paths) from T7.out.at_.paths.block rfl) hg8)
        have HS8 := hid (Nat.le_trans HS7.out hg8.size)
        clear hrun ho8 hg8
        first
         | go_region
         | fail "r21"
        all_goals
         clear hrun2 c0 c1 c2 c3 c4 lt t0 t1 t2 t3 tl F7 G7 T7 B7 HS7
         obtain ⟨c0, c1, c2, c3, c4, lt⟩ := box5_cells F8.out
         obtain ⟨s0, s1, s2, sl⟩ := box3_cells G8.out
         go_wp2_with fail
         refine (put_any w8 bm (N + 2) (sdL (rowsOf t loc)) xp xv f xa (T8.out.at_.each _ HIN.out) (by omega) hp).mono ?_
         rintro e w9 ⟨rfl, ho9, hg9⟩
         have T9 := hid (show TbIn B0 w9 Bt bv ba bn bp (N + 3) V' { t with rows := t.rows ++ [⟨loc, xp, xv, f, xa⟩], paths := t.paths ++ [xp] } from ⟨T8.out.at_.addRow ⟨loc, xp, xv, f, xa⟩ HIN.out (by rw [putL, LKM.out] at ho9; exact ho9) hg9, T8.out.lo, T8.out.each⟩)
         have B9 := hid (B8.out.grown (T8.out.at_.each _ HIN.out) hg9 HS8.out (T8.out.each _ HIN.out))
         clear ho9 hg9 c0 c1 c2 c3 c4 lt s0 s1 s2 sl
         go_wp2_with fail
         exact bodyPost_ret (v := .int .i64 0) (by simp [results, Tryz.results33, go_sem]) rfl (item_leaf (e1 := 0) HRES2.out (B9.out) (fun _ => ⟨V', T9.out.mono (by omega)⟩))
end Go.Proofs.YtjlfchnnhglbjaaGreat
namespace Go.Proofs.YtjlfchnnhglbjaaGreat
open Go.RowKit Go.Lib Go.Sort Go.Maps Go.WideMaps
def encI : Enc Itm 5 where
 enc := fun x => [.string ⟨x.path.toArray⟩, .string ⟨x.value.toArray⟩, .bool x.alias', .string ⟨x.draft.toArray⟩, .int .i64 x.at']
 len := fun _ => rfl
 one := fun x u hu => by simp at hu; rcases hu with rfl | rfl | rfl | rfl | rfl <;> rfl
def encD : Enc (Dc × (Option Addr × Nat)) 3 where
 enc := fun z => [.string ⟨z.1.loc.toArray⟩, .bool z.1.supp, .slice z.2.1 z.1.items.length z.2.2]
 len := fun _ => rfl
 one := fun x u hu => by simp at hu; rcases hu with rfl | rfl | rfl <;> rfl
def RdD (w : World) (v : Value) (l : List Dc) : Prop := ∃ zs : List (Dc × (Option Addr × Nat)), zs.map (·.1) = l ∧ RdL encD w v zs ∧ ∀ z ∈ zs, RdL encI w (.slice z.2.1 z.1.items.length z.2.2) z.1.items
theorem RdD.cells {w : World} {v : Value} {l : List Dc} (h : RdD w v l) : ∃ ao cp, v = .slice ao l.length cp ∧ l.length ≤ cp ∧ l.length ≤ 9223372036854775807 ∧ ∀ n (hn : n < l.length), ∃ p o a c, ao = some ⟨p, o, none⟩ ∧ p < w.heap.size ∧
  w.cell? ⟨p, o + n * 3, none⟩ = some (.string ⟨(l[n]'hn).loc.toArray⟩) ∧ w.cell? ⟨p, o + n * 3 + 1, none⟩ = some (.bool (l[n]'hn).supp) ∧ w.cell? ⟨p, o + n * 3 + 2, none⟩ = some (.slice a (l[n]'hn).items.length c) ∧ RdL encI w (.slice a (l[n]'hn).items.length c) (l[n]'hn).items := by
 obtain ⟨zs, rfl, ⟨ao, cp, rfl, ⟨h1, h2, _⟩, hc⟩, hi⟩ := h
 refine ⟨ao, cp, by rw [List.length_map], by rw [List.length_map]; exact h1, by rw [List.length_map]; exact h2, fun n hn => ?_⟩
 rw [List.length_map] at hn
 obtain ⟨p, o, ha, hp, hx⟩ := hc (by intro e; rw [e] at hn; simp at hn)
 simp only [List.getElem_map]
 exact ⟨p, o, (zs[n]).2.1, (zs[n]).2.2, ha, hp, hx n 0 _ hn rfl, hx n 1 _ hn rfl, hx n 2 _ hn rfl, hi _ (List.getElem_mem hn)⟩
theorem RdI.cells {w : World} {a : Option Addr} {k c : Nat} {l : List Itm} (h : RdL encI w (.slice a k c) l) : k = l.length ∧ k ≤ c ∧ k ≤ 9223372036854775807 ∧ ∀ n (hn : n < l.length), ∃ p o, a = some ⟨p, o, none⟩ ∧ p < w.heap.size ∧
  w.cell? ⟨p, o + n * 5, none⟩ = some (.string ⟨(l[n]'hn).path.toArray⟩) ∧ w.cell? ⟨p, o + n * 5 + 1, none⟩ = some (.string ⟨(l[n]'hn).value.toArray⟩) ∧ w.cell? ⟨p, o + n * 5 + 2, none⟩ = some (.bool (l[n]'hn).alias') ∧ w.cell? ⟨p, o + n * 5 + 3, none⟩ = some (.string ⟨(l[n]'hn).draft.toArray⟩) ∧ w.cell? ⟨p, o + n * 5 + 4, none⟩ = some (.int .i64 (l[n]'hn).at') := by
 obtain ⟨ao, cp, e, ⟨h1, h2, _⟩, hc⟩ := h
 cases e
 refine ⟨rfl, h1, h2, fun n hn => ?_⟩
 obtain ⟨p, o, ha, hp, hx⟩ := hc (by intro e; rw [e] at hn; simp at hn)
 exact ⟨p, o, ha, hp, hx n 0 _ hn rfl, hx n 1 _ hn rfl, hx n 2 _ hn rfl, hx n 3 _ hn rfl, hx n 4 _ hn rfl⟩
def costD : List Dc → Nat
 | [] => 0
 | d :: r => 4 * d.items.length + 1 + costD r
def SzD (l : List Dc) : Prop := (∀ d ∈ l, d.loc.length ≤ maxLen ∧ ∀ x ∈ d.items, x.path.length ≤ maxLen) ∧ costD l + 8 < maxLen
def P3 (W : World) (B : Nat) (a0 a1 a2 : Value) : World := ((W.setCell ⟨B, 0, none⟩ a0).setCell ⟨B, 1, none⟩ a1).setCell ⟨B, 2, none⟩ a2
theorem P3_row {W : World} {B : Nat} {z0 z1 z2 : Value} {ty : TypeId} (a0 a1 a2 : Value) (h : W.heap[B]? = some (.cells #[z0, z1, z2] ty (0, 0))) : (P3 W B a0 a1 a2).heap[B]? = some (.cells #[a0, a1, a2] ty (0, 0)) := by
 unfold P3
 rw [heap_setCell_same _ _ _ _ _ _ (heap_setCell_same _ _ _ _ _ _ (heap_setCell_same _ _ _ _ _ _ h))]; simp
theorem P3_below {B b : Nat} {w W : World} (a0 a1 a2 : Value) (h : Below B w W) (hb : B ≤ b) : Below B w (P3 W b a0 a1 a2) :=
 ((h.setCell (p := ⟨b, 0, none⟩) hb a0).setCell (p := ⟨b, 1, none⟩) hb a1).setCell (p := ⟨b, 2, none⟩) hb a2
theorem P3_kept {W : World} {b c : Nat} (a0 a1 a2 : Value) (hne : c ≠ b) : (P3 W b a0 a1 a2).heap[c]? = W.heap[c]? := by
 unfold P3
 rw [heap_setCell_other _ _ _ _ hne, heap_setCell_other _ _ _ _ hne, heap_setCell_other _ _ _ _ hne]
theorem box3_frozen {W : World} {B : Nat} {a b c : Value} {ty : TypeId} (h : W.heap[B]? = some (.cells #[a, b, c] ty (0, 0))) : W.frozen? ⟨B, 0, none⟩ = false ∧ W.frozen? ⟨B, 1, none⟩ = false ∧ W.frozen? ⟨B, 2, none⟩ = false :=
 ⟨frozen_of_row W B 0 _ _ h, frozen_of_row W B 1 _ _ h, frozen_of_row W B 2 _ _ h⟩
def TNewOut (w : World) (l : List Dc) (x : Ending) (w' : World) : Prop :=
  Below w.heap.size w w' ∧
    (((newF l).1.err = 0 ∧ ∃ Bt bv ba bn bp N V, x = .returned (.tuple #[.pointer (some ⟨Bt, 0, none⟩), .agg #[.int .i64 0, .int .i64 0, .int .i64 0]]) ∧ TbIn w.heap.size w' Bt bv ba bn bp N V (newF l).2 ∧ TbOk (newF l).2) ∨
     ((newF l).1.err ≠ 0 ∧ x = .returned (.tuple #[.pointer none, .agg #[.int .i64 (newF l).1.err, .int .i64 (newF l).1.file, .int .i64 (newF l).1.at']])))
theorem tnew_ret {V : World} {Pb : Nat} {v : Value} {e f a : Int} (hr : V.heap[Pb]? = some (.cells #[.int .i64 e, .int .i64 f, .int .i64 a] 30 (0, 0))) {Q : Ending → World → Prop} {act : Act} (hd : act.defers = [])
  (h2 : act.tmps.getD 2 undef = v) (h3 : act.tmps.getD 3 undef = .pointer (some ⟨Pb, 0, none⟩)) (hQ : Q (.returned (.tuple #[v, .agg #[.int .i64 e, .int .i64 f, .int .i64 a]])) V) :
  bodyPost Tryz.prog Tryz.f12 Q Exit.ret act V := by
 obtain ⟨e0, e1, e2, _⟩ := box3_cells hr
 refine bodyPost_ret (v := .tuple #[v, .agg #[.int .i64 e, .int .i64 f, .int .i64 a]]) ?_ hd hQ
 obtain ⟨tmps, defers⟩ := act
 simp only [Array.getD_eq_getD_getElem?] at h2 h3
 simp [results, Tryz.results12, go_sem, h2, h3, e0, e1, e2]
structure NwSt (w W : World) (Bt bv ba bn bp N : Nat) (V : List (Str × Nat)) (t : Tb) : Prop where
 tb : TbIn w.heap.size.succ W Bt bv ba bn bp N V t
 ok : TbOk t
 f : W.heap[w.heap.size]? = some (.cells #[.int .i64 0, .int .i64 0, .int .i64 0] 30 (0, 0))
 bel : Below w.heap.size w W
section
variable {w W W' : World} {Bt bv ba bn bp N : Nat} {V : List (Str × Nat)} {t : Tb}
theorem TbIn.lower {B0 B1 : Nat} (h : TbIn B0 W Bt bv ba bn bp N V t) (hb : B1 ≤ B0) : TbIn B1 W Bt bv ba bn bp N V t := by
 obtain ⟨h1, ⟨l1, l2, l3, l4, l5⟩, h3⟩ := h
 exact ⟨h1, ⟨by omega, by omega, by omega, by omega, by omega⟩, fun p hp => Nat.le_trans hb (h3 p hp)⟩
theorem TbIn.agree {B0 : Nat} (h : TbIn B0 W Bt bv ba bn bp N V t) (he : ∀ k, B0 ≤ k → W'.heap[k]? = W.heap[k]?) : TbIn B0 W' Bt bv ba bn bp N V t := by
 obtain ⟨⟨a1, a2, a3, a4, a5, a6, a7, a8, a9, a10⟩, ⟨l1, l2, l3, l4, l5⟩, h3⟩ := h
 exact ⟨⟨(he _ l1).trans a1, a2.block (he _ l2), a3.block (he _ l3), a4.block (he _ l4), a5.block (he _ l5), fun p hp => (a6 p hp).block (he _ (h3 p hp)), a7, a8, a9, a10⟩, ⟨l1, l2, l3, l4, l5⟩, h3⟩
theorem NwSt.below (h : NwSt w W Bt bv ba bn bp N V t) (hb : Below W.heap.size W W') : NwSt w W' Bt bv ba bn bp N V t :=
 ⟨h.tb.below hb, h.ok, (hb.block _ (lt_of_block h.f)).trans h.f, h.bel.then hb⟩
theorem NwSt.mono {N' : Nat} (h : NwSt w W Bt bv ba bn bp N V t) (hn : N ≤ N') : NwSt w W Bt bv ba bn bp N' V t := ⟨h.tb.mono hn, h.ok, h.f, h.bel⟩
theorem NwSt.size (h : NwSt w W Bt bv ba bn bp N V t) : w.heap.size.succ ≤ W.heap.size := lt_of_block h.f
theorem NwSt.turned (h : NwSt w W Bt bv ba bn bp N V t) {N' : Nat} {V' : List (Str × Nat)} {t' : Tb} (ht : TbIn w.heap.size.succ W' Bt bv ba bn bp N' V' t') (ok : TbOk t') (hb : Below w.heap.size.succ W W') : NwSt w W' Bt bv ba bn bp N' V' t' :=
 ⟨ht, ok, (hb.block _ (Nat.lt_succ_self _)).trans h.f, h.bel.trans (hb.mono (Nat.le_succ _))⟩
theorem NwSt.wrong (h : NwSt w W Bt bv ba bn bp N V t) : W.cell? ⟨w.heap.size, 0, none⟩ = some (.int .i64 0) ∧ W.cell? ⟨w.heap.size, 1, none⟩ = some (.int .i64 0) ∧ W.cell? ⟨w.heap.size, 2, none⟩ = some (.int .i64 0) ∧ w.heap.size < W.heap.size ∧
  W.frozen? ⟨w.heap.size, 0, none⟩ = false ∧ W.frozen? ⟨w.heap.size, 1, none⟩ = false ∧ W.frozen? ⟨w.heap.size, 2, none⟩ = false := by
 obtain ⟨a, b, c, d⟩ := box3_cells h.f
 exact ⟨a, b, c, d, box3_frozen h.f⟩
end
theorem tnew_good {w W : World} {l : List Dc} {Bt bv ba bn bp N : Nat} {V : List (Str × Nat)} {t : Tb} (h : newF l = (Wrg.ok, t)) (st : NwSt w W Bt bv ba bn bp N V t) : TNewOut w l (.returned (.tuple #[.pointer (some ⟨Bt, 0, none⟩), .agg #[.int .i64 0, .int .i64 0, .int .i64 0]])) (P3 W w.heap.size (.int .i64 0) (.int .i64 0) (.int .i64 0)) := by
 refine ⟨P3_below _ _ _ st.bel (Nat.le_refl _), Or.inl ?_⟩
 rw [h]
 exact ⟨rfl, Bt, bv, ba, bn, bp, N, V, rfl, (st.tb.agree (fun k hk => P3_kept _ _ _ (by omega))).lower (Nat.le_succ _), st.ok⟩
theorem start_tb (w W : World) (B : Nat) (hB : B = w.heap.size) (h0 : W.heap[B]? = some (.cells #[.int .i64 0, .int .i64 0, .int .i64 0] 30 (0, 0)))
  (h1 : W.heap[B + 1]? = some (.map #[] 0)) (h2 : W.heap[B + 1 + 1]? = some (.map #[] 0)) (h3 : W.heap[B + 1 + 1 + 1]? = some (.map #[] 0)) (h4 : W.heap[B + 1 + 1 + 1 + 1]? = some (.map #[] 0))
  (h5 : W.heap[B + 1 + 1 + 1 + 1 + 1]? = some (.cells #[.map (some (B + 1)), .map (some (B + 1 + 1)), .map (some (B + 1 + 1 + 1)), .map (some (B + 1 + 1 + 1 + 1))] 73 (0, 0))) (hb : Below w.heap.size w W) :
  NwSt w W (B + 1 + 1 + 1 + 1 + 1) (B + 1) (B + 1 + 1) (B + 1 + 1 + 1) (B + 1 + 1 + 1 + 1) 0 [] Tb.zero := by
 have mk : ∀ {α : Type} (E : El α) (b : Nat), W.heap[b]? = some (.map #[] 0) → OwnE E W b 0 [] := fun E b hb => by
  have := OwnE.made E (w.alloc (.map #[] 0))
  obtain ⟨m, ⟨es, ck, hm, F, hs, hD⟩, h2⟩ := this
  have e := heap_alloc_new (w.alloc (.map #[] 0)) (.map #[] 0)
  rw [e] at hm
  cases hm
  exact ⟨m, ⟨_, _, hb, F, hs, hD⟩, h2⟩
 refine ⟨⟨⟨h5, mk _ _ h1, mk _ _ h2, mk _ _ h3, mk _ _ h4, (fun p hp => by cases hp), (by simp), (fun r hr => by cases hr), (fun r hr => by cases hr), ?_⟩, ⟨by omega, by omega, by omega, by omega, by omega⟩, (fun p hp => by cases hp)⟩, TbOk.zero, by rw [← hB]; exact h0, hb⟩
 simp
theorem start_new (w : World) : NwSt w ((((((w.alloc (.cells #[.int .i64 0, .int .i64 0, .int .i64 0] 30)).alloc (.map #[] 0)).alloc (.map #[] 0)).alloc (.map #[] 0)).alloc (.map #[] 0)).alloc (.cells #[.map (some (w.heap.size + 1)), .map (some (w.heap.size + 1 + 1)), .map (some (w.heap.size + 1 + 1 + 1)), .map (some (w.heap.size + 1 + 1 + 1 + 1))] 73))
  (w.heap.size + 1 + 1 + 1 + 1 + 1) (w.heap.size + 1) (w.heap.size + 1 + 1) (w.heap.size + 1 + 1 + 1) (w.heap.size + 1 + 1 + 1 + 1) 0 [] Tb.zero := by
 have a1 : ∀ (W : World) (o : Obj), (W.alloc o).heap.size = W.heap.size + 1 := fun W o => by simp
 have a2 : ∀ (W : World) (o : Obj) (k : Nat), (W.alloc o).heap[k]? = if k = W.heap.size then some o else W.heap[k]? := fun W o k => by
  show (W.heap.push o)[k]? = _
  rw [Array.getElem?_push]
 refine start_tb w _ w.heap.size rfl ?_ ?_ ?_ ?_ ?_ ?_ ?_
 ·simp only [a2, a1]
  rw [if_neg (by omega), if_neg (by omega), if_neg (by omega), if_neg (by omega), if_neg (by omega), if_pos trivial]
 ·simp only [a2, a1]
  rw [if_neg (by omega), if_neg (by omega), if_neg (by omega), if_neg (by omega), if_pos trivial]
 ·simp only [a2, a1]
  rw [if_neg (by omega), if_neg (by omega), if_neg (by omega), if_pos trivial]
 ·simp only [a2, a1]
  rw [if_neg (by omega), if_neg (by omega), if_pos trivial]
 ·simp only [a2, a1]
  rw [if_neg (by omega), if_pos trivial]
 ·simp only [a2, a1]
  rw [if_pos trivial]
 ·exact ((((((Below.refl _ _).alloc (Nat.le_refl _) _).alloc (by simp) _).alloc (by simp; omega) _).alloc (by simp; omega) _).alloc (by simp; omega) _).alloc (by simp; omega) _
theorem head_bad {t : Tb} {d : Dc} (h : (d.supp = true ∧ d.loc ≠ []) ∨ (d.supp = false ∧ namedB d.loc = false)) : headF t d = (2, t) := by unfold headF; rw [if_pos h]
theorem head_keep {t : Tb} {d : Dc} (h : ¬ ((d.supp = true ∧ d.loc ≠ []) ∨ (d.supp = false ∧ namedB d.loc = false))) (h2 : d.supp = true ∨ d.loc ∈ t.names) : headF t d = (0, t) := by unfold headF; rw [if_neg h, if_pos h2]
theorem head_full {t : Tb} {d : Dc} (h : ¬ ((d.supp = true ∧ d.loc ≠ []) ∨ (d.supp = false ∧ namedB d.loc = false))) (h2 : ¬ (d.supp = true ∨ d.loc ∈ t.names)) (h3 : t.names.length = 512) : headF t d = (3, t) := by unfold headF; rw [if_neg h, if_neg h2, if_pos h3]
theorem head_more {t : Tb} {d : Dc} (h : ¬ ((d.supp = true ∧ d.loc ≠ []) ∨ (d.supp = false ∧ namedB d.loc = false))) (h2 : ¬ (d.supp = true ∨ d.loc ∈ t.names)) (h3 : ¬ t.names.length = 512) : headF t d = (0, { t with names := t.names ++ [d.loc] }) := by unfold headF; rw [if_neg h, if_neg h2, if_neg h3]
def fromD (n : Nat) (r : List Dc) (d : Dc) (x : Nat × Tb) : Wrg × Tb := match x with
  | (0, t1) => match itemsF d.loc n t1 d.items with
   | (none, t2) => docsF (n + 1) t2 r
   | (some (e, a), t2) => (⟨e, n, a⟩, t2)
  | (e, t1) => (⟨e, n, 0⟩, t1)
def fromI (n : Nat) (r : List Dc) (x : Option (Nat × Int) × Tb) : Wrg × Tb := match x with
  | (none, t2) => docsF (n + 1) t2 r
  | (some (e, a), t2) => (⟨e, n, a⟩, t2)
theorem tnew_bad {w W' : World} {l : List Dc} {e : Nat} {f a : Int} {t : Tb} (h : newF l = (⟨e, f, a⟩, t)) (he : e ≠ 0) (hb : Below w.heap.size w W') : TNewOut w l (.returned (.tuple #[.pointer none, .agg #[.int .i64 e, .int .i64 f, .int .i64 a]])) W' := by
 refine ⟨hb, Or.inr ?_⟩
 rw [h]; exact ⟨he, rfl⟩
theorem docs_step {n : Nat} {t : Tb} {l : List Dc} (hn : n < l.length) : docsF n t (l.drop n) = fromD n (l.drop (n + 1)) (l[n]'hn) (headF t (l[n]'hn)) := by
 rw [List.drop_eq_getElem_cons hn]; rfl
theorem cost_step {n : Nat} {l : List Dc} (hn : n < l.length) : costD (l.drop n) = 4 * (l[n]'hn).items.length + 1 + costD (l.drop (n + 1)) := by
 rw [List.drop_eq_getElem_cons hn]; rfl
theorem items_step {m f : Nat} {t : Tb} {loc : Str} {l : List Itm} (hm : m < l.length) : itemsF loc f t (l.drop m) = match itemF t loc f (l[m]'hm) with
  | (0, t') => itemsF loc f t' (l.drop (m + 1))
  | (e, t') => (some (e, (l[m]'hm).at'), t') := by
 rw [List.drop_eq_getElem_cons hm]; rfl
theorem items_next {m f : Nat} {t t' : Tb} {loc : Str} {l : List Itm} (hm : m < l.length) (h : itemF t loc f (l[m]'hm) = (0, t')) : itemsF loc f t (l.drop m) = itemsF loc f t' (l.drop (m + 1)) := by
 rw [items_step hm, h]; rfl
theorem items_stop {m f e : Nat} {t t' : Tb} {loc : Str} {l : List Itm} (hm : m < l.length) (h : itemF t loc f (l[m]'hm) = (e, t')) (he : e ≠ 0) : itemsF loc f t (l.drop m) = (some (e, (l[m]'hm).at'), t') := by
 rw [items_step hm, h]
 cases e with
 | zero => exact absurd rfl he
 | succ e => rfl
end Go.Proofs.YtjlfchnnhglbjaaGreat
namespace Go.Proofs.YtjlfchnnhglbjaaGreat
open Go.RowKit Go.Lib Go.Sort Go.Maps Go.WideMaps
theorem named_plain (s : Str) : ((plainF s).2 || s == tRoot) = namedB s := by
 by_cases hn : namedB s = true
 ·by_cases hr : s = tRoot
  ·rw [hn, show (s == tRoot) = true by rw [hr]; rfl]; simp
  ·obtain ⟨p, hp, _⟩ := plain_ok hn hr
   rw [hn, hp]; rfl
 ·have hn2 : namedB s = false := by simpa using hn
  rw [plain_no (fun h => hn h.1), hn2, show (s == tRoot) = false by
   rw [beq_eq_false_iff_ne]; rintro rfl; exact hn named_root]; rfl
set_option maxRecDepth 100000 in
set_option maxHeartbeats 8000000 in
theorem tnew_any (w : World) (l : List Dc) (v : Value) (hd : RdD w v l) (hs : SzD l) :
  Calls Tryz.prog 12 #[v] w fun x w' => TNewOut w l x w' := by
 have HS := hid hs
 obtain ⟨ao, cp, rfl, hln, h63, hcell⟩ := hd.cells
 have HCELL := hid hcell
 clear hcell hs hd
 have hmm := @run_makeMap Tryz.prog
 have ST0 := hid (start_new w)
 go_enter Tryz.func12, Tryz.ntmps12
 go_wp2_with fail
 go_step3
 go_wp2_with fail
 go_step3
 clear hmm
 generalize (((((w.alloc (.cells #[.int .i64 0, .int .i64 0, .int .i64 0] 30)).alloc (.map #[] 0)).alloc (.map #[] 0)).alloc (.map #[] 0)).alloc (.map #[] 0)).alloc (.cells #[.map (some (w.heap.size + 1)), .map (some (w.heap.size + 1 + 1)), .map (some (w.heap.size + 1 + 1 + 1)), .map (some (w.heap.size + 1 + 1 + 1 + 1))] 73) = w1 at *
 generalize w.heap.size + 1 + 1 + 1 + 1 + 1 = Bt at *
 generalize w.heap.size + 1 + 1 + 1 + 1 = bp at *
 generalize w.heap.size + 1 + 1 + 1 = bn at *
 generalize w.heap.size + 1 + 1 = ba at *
 generalize w.heap.size + 1 = bv at *
 go_wp2_with fail
 go_loopg [20] l.length (fun g vi W => ∃ (n N : Nat) (V : List (Str × Nat)) (t : Tb), n ≤ l.length ∧ l.length ≤ n + g ∧ vi = .int .i64 n ∧ NwSt w W Bt bv ba bn bp N V t ∧ newF l = docsF n t (l.drop n) ∧ N + costD (l.drop n) + 8 < maxLen)
 case atStart => exact ⟨0, 0, [], Tb.zero, Nat.zero_le _, by omega, rfl, ST0.out, rfl, by have := HS.out.2; rw [List.drop_zero]; omega⟩
 case round =>
  obtain ⟨n, N, V, t, hn, hg, rfl, st, hrun, hcost⟩ := hrel
  rename World => w2
  obtain ⟨go, hgo⟩ : ∃ go, go = gk := ⟨_, rfl⟩
  have HG := hid (show l.length ≤ n + go by rw [hgo]; exact hg)
  have HGO := hid hgo
  clear hgo
  have ST2 := hid st
  have HRUN := hid hrun
  have HCO := hid hcost
  clear hg st hrun hcost ST0
  by_cases hlt : n < l.length
  ·have hni : (n : Int) < (l.length : Int) := by omega
   have hn0 : (0 : Int) ≤ (n : Int) := by omega
   obtain ⟨p, o, a, c, rfl, hp, q0, q1, q2, hits⟩ := HCELL.out n hlt
   have r0 := (ST2.out.bel.cell (p := ⟨p, o + n * 3, none⟩) hp).trans q0
   have r1 := (ST2.out.bel.cell (p := ⟨p, o + n * 3 + 1, none⟩) hp).trans q1
   have r2 := (ST2.out.bel.cell (p := ⟨p, o + n * 3 + 2, none⟩) hp).trans q2
   have HRUN2 := hid (HRUN.out.trans (docs_step hlt))
   have HCO2 := hid (show N + (4 * (l[n]'hlt).items.length + 1 + costD (l.drop (n + 1))) + 8 < maxLen by rw [← cost_step hlt]; exact HCO.out)
   have HSZ := hid (HS.out.1 _ (List.getElem_mem hlt))
   have HITS := hid hits
   clear q0 q1 q2 hits HRUN HCO HCELL
   generalize l[n]'hlt = d at *
   obtain ⟨loc, supp, its⟩ := d
   simp only at r0 r1 r2
   have hp2 : p < w2.heap.size := Nat.lt_of_lt_of_le hp ST2.out.bel.size
   go_upto_region 5 with fail
   have HB3 := hid (show Below w2.heap.size w2 (w2.alloc (.cells #[.string ⟨loc.toArray⟩, .bool supp, .slice a its.length c] 27)) from (Below.refl _ _).alloc (Nat.le_refl _) _)
   have F3 := hid (heap_alloc_new w2 (.cells #[.string ⟨loc.toArray⟩, .bool supp, .slice a its.length c] 27))
   generalize w2.alloc (.cells #[.string ⟨loc.toArray⟩, .bool supp, .slice a its.length c] 27) = w3 at *
   have ST3 := hid (ST2.out.below HB3.out)
   clear r0 r1 r2 hp2 ST2
   obtain ⟨d0, d1, d2, dl⟩ := box3_cells F3.out
   go_wp2_with fail
   refine (plain_any loc w3 HSZ.out.1).mono ?_
   rintro e w4 ⟨rfl, hb4⟩
   have F4 := hid ((hb4.block _ (lt_of_block F3.out)).trans F3.out)
   have ST4 := hid (ST3.out.below hb4)
   clear hb4 d0 d1 d2 dl F3 ST3
   generalize w2.heap.size = Db at *
   obtain ⟨d0, d1, d2, dl⟩ := box3_cells F4.out
   have HNM := hid (named_plain loc)
   generalize (plainF loc).1 = pl1 at *
   generalize (plainF loc).2 = P at *
   obtain ⟨nm, hnm⟩ : ∃ nm, nm = namedB loc := ⟨_, rfl⟩
   rw [← hnm] at HNM
   have HN := hid hnm
   clear hnm
   go_upto_region 6 with fail
   go_cut [8, 20] from 20 to 109 (fun v8 v20 wx => v8 = .bool nm ∧ v20 = .int .i64 n ∧ wx = w4)
   case first =>
    cases P with
    | true =>
     go_wp2_with fail
     go_meet
     exact ⟨by rw [← HNM.out]; rfl, rfl, rfl⟩
    | false =>
     have hub : (loc == [114, 111, 111, 116]) = nm := by rw [← HNM.out]; rfl
     go_wp2_with fail
     go_meet
     exact ⟨by first | rfl | rw [← hub] | simp [hub], rfl, rfl⟩
   case rest =>
    obtain ⟨rfl, rfl, rfl⟩ := hcut
    rename World => w4
    go_upto_block 2 with fail
    go_cut [20] from 20 to 109 (fun v20 wx => v20 = .int .i64 n ∧ ∃ t1, headF t ⟨loc, supp, its⟩ = (0, t1) ∧ NwSt w wx Bt bv ba bn bp (N + 1) V t1 ∧ wx.heap[Db]? = some (.cells #[.string ⟨loc.toArray⟩, .bool supp, .slice a its.length c] 27 (0, 0)))
    case first =>
     obtain ⟨z0, z1, z2, zl, zf0, zf1, zf2⟩ := ST4.out.wrong
     obtain ⟨t0, t1, t2, t3, tl⟩ := ST4.out.tb.box
     cases supp with
     | true =>
      by_cases hl : loc = []
      ·have hle : List.isEmpty loc = true := by rw [hl]; rfl
       have hle2 : (loc == []) = true := by rw [hl]; rfl
       have hle3 : (loc != []) = false := by rw [hl]; rfl
       have HH := hid (head_keep (t := t) (d := ⟨loc, true, its⟩) (by rintro (⟨_, h⟩ | ⟨h, _⟩); exact h hl; cases h) (Or.inl rfl))
       clear hl
       go_wp2_with fail
       first
        | go_quiet (fail)
        | fail "q10a"
       go_wp2_with fail
       go_meet
       exact ⟨rfl, t, HH.out, (ST4.out.below (below_drewN (Below.refl _ _) nq)).mono (Nat.le_succ _), F4.out⟩
      ·have hle : List.isEmpty loc = false := isEmpty_ne hl
       have hle2 : (loc == []) = false := by rw [beq_eq_false_iff_ne]; exact hl
       have hle3 : (loc != []) = true := by rw [bne_iff_ne]; exact hl
       have HH := hid (head_bad (t := t) (d := ⟨loc, true, its⟩) (Or.inl ⟨rfl, hl⟩))
       clear hl
       go_wp2_with fail
       refine tnew_ret (Pb := w.heap.size) (e := 2) (f := n) (a := 0) (P3_row _ _ _ ST4.out.f) rfl rfl rfl (tnew_bad (e := 2) (HRUN2.out.trans (by rw [HH.out]; rfl)) (by decide) (P3_below _ _ _ ST4.out.bel (Nat.le_refl _)))
     | false =>
      cases nm with
      | false =>
       have HH := hid (head_bad (t := t) (d := ⟨loc, false, its⟩) (Or.inr ⟨rfl, HN.out.symm⟩))
       go_wp2_with fail
       refine tnew_ret (Pb := w.heap.size) (e := 2) (f := n) (a := 0) (P3_row _ _ _ ST4.out.f) rfl rfl rfl (tnew_bad (e := 2) (HRUN2.out.trans (by rw [HH.out]; rfl)) (by decide) (P3_below _ _ _ ST4.out.bel (Nat.le_refl _)))
      | true =>
       have NB := hid (show ¬ (((⟨loc, false, its⟩ : Dc).supp = true ∧ loc ≠ []) ∨ ((⟨loc, false, its⟩ : Dc).supp = false ∧ namedB loc = false)) by rintro (⟨h, _⟩ | ⟨_, h⟩); exact absurd h (by simp); rw [← HN.out] at h; cases h)
       have LN : ∀ m ty, (Builtin.len_ #[71] ty #[.map (some bn)]).run Tryz.prog (w4.drewN m) = .ok (.int .i64 t.names.length) (w4.drewN m) := fun m ty => by
        have := (show OwnE elBo (w4.drewN m) bn N (setL t.names) from ST4.out.tb.at_.names.block rfl).len Tryz.underlying71 (by rw [setL_keys]; exact ST4.out.ok.names) ty
        rw [this]; simp [setL]
       by_cases hmp : loc ∈ t.names
       ·have LK : ∀ m, (Instr.lookup 71 (.map (some bn)) (.string ⟨loc.toArray⟩) false).run Tryz.prog (w4.drewN m) = .ok (.bool true) (w4.drewN m) := fun m => by
         have := (show OwnE elBo (w4.drewN m) bn N (setL t.names) from ST4.out.tb.at_.names.block rfl).look Tryz.underlying71 zeroBo loc HSZ.out.1
         rw [look_set, if_pos hmp] at this
         exact this
        have HH := hid (head_keep (t := t) (d := ⟨loc, false, its⟩) NB.out (Or.inr hmp))
        have HMP := hid (show lookE (setL t.names) loc = some true by rw [look_set, if_pos hmp])
        clear hmp
        go_wp2_with fail
        first
         | go_quiet (fail)
         | fail "q10b"
        go_wp2_with fail
        have HB7 := hid (show Below w4.heap.size w4 (w4.drewN nq) from below_drewN (Below.refl _ _) nq)
        clear LK LN z0 z1 z2 zl zf0 zf1 zf2 t0 t1 t2 t3 tl d0 d1 d2 dl
        generalize w4.drewN nq = w7 at *
        have F7 := hid ((HB7.out.block _ (lt_of_block F4.out)).trans F4.out)
        have ST7 := hid (ST4.out.below HB7.out)
        obtain ⟨d0, d1, d2, dl⟩ := box3_cells F7.out
        obtain ⟨t0, t1, t2, t3, tl⟩ := ST7.out.tb.box
        obtain ⟨w8, hrun, ho8, hg8⟩ := (show OwnE elBo w7.drew bn N (setL t.names) from ST7.out.tb.at_.names.block rfl).again (by have := HCO2.out; omega) Tryz.underlying71 loc true HSZ.out.1 HMP.out
        have hrun2 : (Instr.mapUpdate 71 (.map (some bn)) (.string ⟨loc.toArray⟩) (.bool true)).run Tryz.prog w7.drew = .ok () w8 := hrun
        have ST8 := hid ((show NwSt w w7.drew Bt bv ba bn bp N V t from ST7.out.below (Below.refl _ _).drew).turned (t' := { t with names := t.names }) (N' := N + 1) (V' := V) (W' := w8) ⟨(show TbAt w7.drew Bt bv ba bn bp N V t from (ST7.out.tb.below (Below.refl _ _).drew).at_).addName (by  exact ho8) hg8, ST7.out.tb.lo, ST7.out.tb.each⟩ (by have := head_tb ST7.out.ok ⟨loc, false, its⟩; rw [HH.out] at this; exact this) ((Below.refl _ _).grown hg8 (show w.heap.size.succ ≤ w7.heap.size from ST7.out.size) (fun k hk => by cases hk; exact ST7.out.tb.lo.2.2.2.1)))
        have F8 := hid (box_kept (show w7.drew.heap[Db]? = _ from F7.out) (show OwnE elBo w7.drew bn N (setL t.names) from ST7.out.tb.at_.names.block rfl) hg8)
        clear hrun ho8 hg8
        first
         | go_region
         | fail "r13"
        all_goals
         go_wp2_with fail
         go_meet
         exact ⟨rfl, _, HH.out, ST8.out, F8.out⟩
       ·have LK : ∀ m, (Instr.lookup 71 (.map (some bn)) (.string ⟨loc.toArray⟩) false).run Tryz.prog (w4.drewN m) = .ok (.bool false) (w4.drewN m) := fun m => by
         have := (show OwnE elBo (w4.drewN m) bn N (setL t.names) from ST4.out.tb.at_.names.block rfl).look Tryz.underlying71 zeroBo loc HSZ.out.1
         rw [look_set, if_neg hmp] at this
         exact this
        have HNN := hid (show ¬ ((⟨loc, false, its⟩ : Dc).supp = true ∨ loc ∈ t.names) by rintro (h | h); exact absurd h (by simp); exact hmp h)
        have HMP := hid (show lookE (setL t.names) loc = none by rw [look_set, if_neg hmp])
        clear hmp
        by_cases hful : t.names.length = 512
        ·have hfl : ((t.names.length : Int) == 512) = true := by rw [beq_iff_eq]; omega
         have HH := hid (head_full (t := t) (d := ⟨loc, false, its⟩) NB.out HNN.out hful)
         clear hful
         go_wp2_with fail
         first
          | go_quiet (fail)
          | fail "q10c"
         go_wp2_with fail
         refine tnew_ret (V := P3 (w4.drewN nq) w.heap.size _ _ _) (Pb := w.heap.size) (e := 3) (f := n) (a := 0) (P3_row (W := w4.drewN nq) _ _ _ ST4.out.f) rfl rfl rfl (tnew_bad (e := 3) (HRUN2.out.trans (by rw [HH.out]; rfl)) (by decide) (P3_below _ _ _ (below_drewN ST4.out.bel nq) (Nat.le_refl _)))
        ·have hfl : ((t.names.length : Int) == 512) = false := by rw [beq_eq_false_iff_ne]; omega
         have HH := hid (head_more (t := t) (d := ⟨loc, false, its⟩) NB.out HNN.out hful)
         clear hful
         go_wp2_with fail
         first
          | go_quiet (fail)
          | fail "q10d"
         go_wp2_with fail
         have HB7 := hid (show Below w4.heap.size w4 (w4.drewN nq) from below_drewN (Below.refl _ _) nq)
         clear LK LN z0 z1 z2 zl zf0 zf1 zf2 t0 t1 t2 t3 tl d0 d1 d2 dl
         generalize w4.drewN nq = w7 at *
         have F7 := hid ((HB7.out.block _ (lt_of_block F4.out)).trans F4.out)
         have ST7 := hid (ST4.out.below HB7.out)
         obtain ⟨d0, d1, d2, dl⟩ := box3_cells F7.out
         obtain ⟨t0, t1, t2, t3, tl⟩ := ST7.out.tb.box
         obtain ⟨w8, hrun, ho8, hg8⟩ := (show OwnE elBo w7.drew bn N (setL t.names) from ST7.out.tb.at_.names.block rfl).say (by have := HCO2.out; omega) Tryz.underlying71 loc true HSZ.out.1 HMP.out
         have hrun2 : (Instr.mapUpdate 71 (.map (some bn)) (.string ⟨loc.toArray⟩) (.bool true)).run Tryz.prog w7.drew = .ok () w8 := hrun
         have ST8 := hid ((show NwSt w w7.drew Bt bv ba bn bp N V t from ST7.out.below (Below.refl _ _).drew).turned (t' := { t with names := t.names ++ [loc] }) (N' := N + 1) (V' := V) (W' := w8) ⟨(show TbAt w7.drew Bt bv ba bn bp N V t from (ST7.out.tb.below (Below.refl _ _).drew).at_).addName (by rw [setL, List.map_append]; exact ho8) hg8, ST7.out.tb.lo, ST7.out.tb.each⟩ (by have := head_tb ST7.out.ok ⟨loc, false, its⟩; rw [HH.out] at this; exact this) ((Below.refl _ _).grown hg8 (show w.heap.size.succ ≤ w7.heap.size from ST7.out.size) (fun k hk => by cases hk; exact ST7.out.tb.lo.2.2.2.1)))
         have F8 := hid (box_kept (show w7.drew.heap[Db]? = _ from F7.out) (show OwnE elBo w7.drew bn N (setL t.names) from ST7.out.tb.at_.names.block rfl) hg8)
         clear hrun ho8 hg8
         first
          | go_region
          | fail "r13"
         all_goals
          go_wp2_with fail
          go_meet
          exact ⟨rfl, _, HH.out, ST8.out, F8.out⟩
    case rest =>
     obtain ⟨rfl, t1, hh, st5, f5⟩ := hcut
     rename World => w5
     have ST5 := hid st5
     have F5 := hid f5
     have HRUN3 := hid (HRUN2.out.trans (show _ = fromI n (l.drop (n + 1)) (itemsF loc n t1 its) by rw [hh]; rfl))
     clear hh st5 f5 ST4 F4 HRUN2 d0 d1 d2 dl HNM HN
     obtain ⟨d0, d1, d2, dl⟩ := box3_cells F5.out
     obtain ⟨_, hkc, hk63, hic⟩ := RdI.cells HITS.out
     have HIC := hid hic
     clear hic HITS
     go_wp2_with fail
     go_loopg [91] its.length (fun g vi W => ∃ (m N' : Nat) (V' : List (Str × Nat)) (t' : Tb), m ≤ its.length ∧ its.length ≤ m + g ∧ vi = .int .i64 m ∧ NwSt w W Bt bv ba bn bp N' V' t' ∧ W.heap[Db]? = some (.cells #[.string ⟨loc.toArray⟩, .bool supp, .slice a its.length c] 27 (0, 0)) ∧ itemsF loc n t1 its = itemsF loc n t' (its.drop m) ∧ N' + (4 * (its.length - m) + costD (l.drop (n + 1))) + 8 < maxLen)
     case atStart => exact ⟨0, N + 1, V, t1, Nat.zero_le _, by omega, rfl, ST5.out, F5.out, rfl, by have := HCO2.out; omega⟩
     case round =>
      obtain ⟨m, N', V', t', hm, hg, rfl, st, fd, hitr, hcost⟩ := hrel
      rename World => w6
      have HG2 := hid hg
      have ST6 := hid st
      have F6 := hid fd
      have HIT := hid hitr
      have HCO3 := hid hcost
      clear hg st fd hitr hcost ST5 F5 d0 d1 d2 dl
      obtain ⟨d0, d1, d2, dl⟩ := box3_cells F6.out
      by_cases hlt2 : m < its.length
      ·have hmi : (m : Int) < (its.length : Int) := by omega
       have hm0 : (0 : Int) ≤ (m : Int) := by omega
       obtain ⟨p2, o2, rfl, hp2, q0, q1, q2, q3, q4⟩ := HIC.out m hlt2
       have r0 := (ST6.out.bel.cell (p := ⟨p2, o2 + m * 5, none⟩) hp2).trans q0
       have r1 := (ST6.out.bel.cell (p := ⟨p2, o2 + m * 5 + 1, none⟩) hp2).trans q1
       have r2 := (ST6.out.bel.cell (p := ⟨p2, o2 + m * 5 + 2, none⟩) hp2).trans q2
       have r3 := (ST6.out.bel.cell (p := ⟨p2, o2 + m * 5 + 3, none⟩) hp2).trans q3
       have r4 := (ST6.out.bel.cell (p := ⟨p2, o2 + m * 5 + 4, none⟩) hp2).trans q4
       have hp3 : p2 < w6.heap.size := Nat.lt_of_lt_of_le hp2 ST6.out.bel.size
       have HPL := hid (HSZ.out.2 _ (List.getElem_mem hlt2))
       have HNX := hid (fun t'' (h : itemF t' loc n (its[m]'hlt2) = (0, t'')) => HIT.out.trans (items_next hlt2 h))
       have HSP := hid (fun e t'' (h : itemF t' loc n (its[m]'hlt2) = (e, t'')) (he : e ≠ 0) => HIT.out.trans (items_stop hlt2 h he))
       clear q0 q1 q2 q3 q4 HIT HIC
       generalize its[m]'hlt2 = x at *
       obtain ⟨xp, xv, xal, xd, xa⟩ := x
       simp only at r0 r1 r2 r3 r4
       go_upto_region 17 with fail
       have HB7 := hid (show Below w6.heap.size w6 (w6.alloc (.cells #[.string ⟨xp.toArray⟩, .string ⟨xv.toArray⟩, .bool xal, .string ⟨xd.toArray⟩, .int .i64 xa] 35)) from (Below.refl _ _).alloc (Nat.le_refl _) _)
       have I7 := hid (heap_alloc_new w6 (.cells #[.string ⟨xp.toArray⟩, .string ⟨xv.toArray⟩, .bool xal, .string ⟨xd.toArray⟩, .int .i64 xa] 35))
       generalize w6.alloc (.cells #[.string ⟨xp.toArray⟩, .string ⟨xv.toArray⟩, .bool xal, .string ⟨xd.toArray⟩, .int .i64 xa] 35) = w7 at *
       have ST7 := hid (ST6.out.below HB7.out)
       have F7 := hid ((HB7.out.block _ (lt_of_block F6.out)).trans F6.out)
       clear r0 r1 r2 r3 r4 hp3 ST6 F6 HB7 d0 d1 d2 dl
       obtain ⟨d0, d1, d2, dl⟩ := box3_cells F7.out
       obtain ⟨c0, c1, c2, c3, c4, cl⟩ := box5_cells I7.out
       generalize w6.heap.size = Ib at *
       go_wp2_with fail
       refine (item_any w.heap.size.succ w7 loc n ⟨xp, xv, xal, xd, xa⟩ ST7.out.tb ST7.out.ok ST7.out.size (by have := HCO3.out; omega) HSZ.out.1 HPL.out).mono ?_
       rintro e w8 ⟨rfl, hk, htb⟩
       have hok := item_ok ST7.out.ok loc n ⟨xp, xv, xal, xd, xa⟩
       obtain ⟨it, hit⟩ : ∃ it, it = itemF t' loc n ⟨xp, xv, xal, xd, xa⟩ := ⟨_, rfl⟩
       rw [← hit] at htb hok ⊢
       obtain ⟨er, t''⟩ := it
       simp only at htb hok ⊢
       have HTB := hid htb
       have HOK := hid hok
       have HIT2 := hid hit.symm
       have F8 := hid (hk.cells _ _ _ _ F7.out)
       have I8 := hid (hk.cells _ _ _ _ I7.out)
       have W8 := hid (hk.cells _ _ _ _ ST7.out.f)
       have B8 := hid (ST7.out.bel.trans (hk.bel.mono (Nat.le_succ _)))
       have HK8 := hid hk.bel
       clear htb hok hit hk d0 d1 d2 dl c0 c1 c2 c3 c4 cl
       by_cases her : er = 0
       ·subst her
        obtain ⟨V'', tb⟩ := HTB.out rfl
        have ST8 := hid (ST7.out.turned tb HOK.out HK8.out)
        have HN2 := hid (HNX.out t'' HIT2.out)
        clear tb HTB HNX HSP
        go_wp2_with fail
        go_roundg (gk - 1)
        case measure => have := HG2.out; omega
        case rel => exact ⟨m + 1, N' + 4, V'', t'', by omega, by have := HG2.out; omega, by simp, ST8.out, F8.out, HN2.out, by have := HCO3.out; omega⟩
       ·have hne : ((er : Int) != 0) = true := by rw [bne_iff_ne]; omega
        have HS2 := hid (HSP.out er t'' HIT2.out her)
        have HRES := hid (show newF l = (⟨er, n, xa⟩, t'') by rw [HRUN3.out, HS2.out]; rfl)
        have HER := hid her
        obtain ⟨c0, c1, c2, c3, c4, cl⟩ := box5_cells I8.out
        obtain ⟨z0, z1, z2, zl⟩ := box3_cells W8.out
        obtain ⟨zf0, zf1, zf2⟩ := box3_frozen W8.out
        clear her HTB HNX HSP HS2 HIT2 HOK HK8 F8 I8 ST7 F7 I7
        go_wp2_with fail
        first
         | go_region
         | fail "r19"
        all_goals
         go_wp2_with fail
         refine tnew_ret (V := P3 w8.drew w.heap.size _ _ _) (Pb := w.heap.size) (e := er) (f := n) (a := xa) (P3_row (W := w8.drew) _ _ _ W8.out) rfl rfl rfl (tnew_bad (e := er) HRES.out HER.out (P3_below _ _ _ B8.out.drew (Nat.le_refl _)))
      ·have hml : m = its.length := by omega
       have HR4 := hid (show newF l = docsF (n + 1) t' (l.drop (n + 1)) by rw [HRUN3.out, HIT.out, hml, List.drop_length]; rfl)
       clear d0 d1 d2 dl
       go_wp2_with fail
       go_roundg (go - 1)
       case measure => have := HG.out; have := HGO.out; omega
       case rel => exact ⟨n + 1, N', V', t', by omega, by have := HG.out; omega, by simp, ST6.out, HR4.out, by have := HCO3.out; omega⟩
  ·have hnl : n = l.length := by omega
   have HRES := hid (show newF l = (Wrg.ok, t) by rw [HRUN.out, hnl, List.drop_length]; rfl)
   obtain ⟨z0, z1, z2, zl, zf0, zf1, zf2⟩ := ST2.out.wrong
   clear HRUN HCO HCELL
   go_wp2_with fail
   exact tnew_ret (Pb := w.heap.size) (v := .pointer (some ⟨Bt, 0, none⟩)) (e := 0) (f := 0) (a := 0) (P3_row _ _ _ ST2.out.f) rfl rfl rfl (tnew_good HRES.out ST2.out)
end Go.Proofs.YtjlfchnnhglbjaaGreat
