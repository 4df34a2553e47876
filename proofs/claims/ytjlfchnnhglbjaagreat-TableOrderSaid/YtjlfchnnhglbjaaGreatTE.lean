/- Several texts in one: Named, NamedC, ChPlain. (joined by wip/merge.py) -/
import Derived.Test.YtjlfchnnhglbjaaGreatName
import Derived.Test.YtjlfchnnhglbjaaGreatBoxes
import Derived.Test.YtjlfchnnhglbjaaGreatCanonF
import Derived.Test.YtjlfchnnhglbjaaGreatTA

/- The contract of tag.Named. -/
set_option linter.unusedVariables false
set_option linter.unusedSimpArgs false
namespace Go.Proofs.YtjlfchnnhglbjaaGreat
open Go.RowKit Go.Lib Go.Sort

def namedT (l : Str) : Tg := if namedB l = true then (parseF l).tag else Tg.zero
/-- what tag.Named hands back -/
def NamedOut (w : World) (l : Str) (e : Ending) (w' : World) : Prop :=
  ∃ v, e = .returned (.tuple #[v, .bool (namedB l)]) ∧ RdT w' v (namedT l) ∧ Below w.heap.size w w'

theorem named_eq {l : Str} {x : Res} {q : Str × Int} (hx : parseF l = x) (hq : nameF x.tag = q) : namedB l = (x.err == 0 && (q.2 == 0 && q.1 == l)) := by
  unfold namedB; rw [hx, hq]
theorem named_err {l : Str} {x : Res} (hx : parseF l = x) (he : ¬ x.err = 0) : namedB l = false := by
  unfold namedB; rw [hx, beq_eq_false_iff_ne.2 he]; rfl
theorem namedOut_bad {w W : World} {l : Str} (h : namedB l = false) (hw : Below w.heap.size w W) : NamedOut w l (.returned (.tuple #[.agg #[.string ⟨#[]⟩, .string ⟨#[]⟩, .string ⟨#[]⟩, .slice none 0 0, .slice none 0 0], .bool false])) W :=
  ⟨_, by rw [h], by unfold namedT; rw [h]; exact RdT.zero W, hw⟩
theorem namedOut_ok {w W : World} {l : Str} {v : Value} (h : namedB l = true) (ht : RdT W v (parseF l).tag) (hw : Below w.heap.size w W) : NamedOut w l (.returned (.tuple #[v, .bool true])) W :=
  ⟨v, by rw [h], by unfold namedT; rw [if_pos h]; exact ht, hw⟩

set_option maxRecDepth 100000 in
set_option maxHeartbeats 8000000 in
theorem named_any (l : Str) (w : World) (hs : l.length ≤ maxLen) :
    Calls Tryz.prog 51 #[.string ⟨l.toArray⟩] w fun e w' => NamedOut w l e w' := by
  have PA := hid (fun W => parse_any ⟨l.toArray⟩ W (by rw [Lib.size_eq]; exact hs))
  have hgood := good_of l
  have hfine := parse_fine l
  rw [show (⟨l.toArray⟩ : ByteArray).data.toList = l from rfl] at PA
  generalize hx : parseF l = x at *
  have HX := hid hx
  clear hx
  go_enter Tryz.func51, Tryz.ntmps51
  go_wp2_with fail
  refine (PA.out _).mono ?_
  rintro e w1 ⟨vv, kv, rfl, o1, o2, hb1⟩
  obtain ⟨av, cv, rfl⟩ := own_sliceS o1
  obtain ⟨ak, ck, rfl⟩ := own_sliceP o2
  simp only [tagCells, S]
  have hb0 : Below w.heap.size w (w.alloc (.cells #[.string ⟨#[]⟩, .string ⟨#[]⟩, .string ⟨#[]⟩, .slice none 0 0, .slice none 0 0] 108)) := (Below.refl _ _).alloc (Nat.le_refl _) _
  have hz1 : w1.heap[w.heap.size]? = some (.cells #[.string ⟨#[]⟩, .string ⟨#[]⟩, .string ⟨#[]⟩, .slice none 0 0, .slice none 0 0] 108 (0, 0)) := by rw [hb1.block w.heap.size (by simp)]; exact heap_alloc_new w _
  have hw1 := hb0.then hb1
  have HR := hid (show RdT w1 (.agg (tagCells x.tag (.slice av x.tag.vars.length cv) (.slice ak x.tag.keys.length ck))) x.tag from ⟨_, _, rfl, o1.rd, o2.rd⟩)
  have hno1 : (Value.slice av x.tag.vars.length cv).ownBlock ≠ some w.heap.size := fun e => by have := (World.ownsRow.lt o1 _ e).1; simp at this; omega
  have hno2 : (Value.slice ak x.tag.keys.length ck).ownBlock ≠ some w.heap.size := fun e => by have := (World.ownsRow.lt o2 _ e).1; simp at this; omega
  have O1 := hid o1
  have O2 := hid o2
  have HNO1 := hid hno1
  have HNO2 := hid hno2
  clear hb0 hb1 o1 o2 PA hno1 hno2
  have hb2 : Below w1.heap.size w1 ((w1.alloc (.cells #[.string ⟨x.tag.lang.toArray⟩, .string ⟨x.tag.script.toArray⟩, .string ⟨x.tag.region.toArray⟩, .slice av x.tag.vars.length cv, .slice ak x.tag.keys.length ck] 108)).alloc (.cells #[.int .i64 (x.err : Int), .int .i64 (x.pos : Int)] 99)) := below2 _ _ _
  have HZ2 := hid (show ((w1.alloc (.cells #[.string ⟨x.tag.lang.toArray⟩, .string ⟨x.tag.script.toArray⟩, .string ⟨x.tag.region.toArray⟩, .slice av x.tag.vars.length cv, .slice ak x.tag.keys.length ck] 108)).alloc (.cells #[.int .i64 (x.err : Int), .int .i64 (x.pos : Int)] 99)).heap[w.heap.size]? = some (.cells #[.string ⟨#[]⟩, .string ⟨#[]⟩, .string ⟨#[]⟩, .slice none 0 0, .slice none 0 0] 108 (0, 0)) from (hb2.block _ (lt_of_block hz1)).trans hz1)
  have HT2 := hid (show ((w1.alloc (.cells #[.string ⟨x.tag.lang.toArray⟩, .string ⟨x.tag.script.toArray⟩, .string ⟨x.tag.region.toArray⟩, .slice av x.tag.vars.length cv, .slice ak x.tag.keys.length ck] 108)).alloc (.cells #[.int .i64 (x.err : Int), .int .i64 (x.pos : Int)] 99)).heap[w1.heap.size]? = some (.cells #[.string ⟨x.tag.lang.toArray⟩, .string ⟨x.tag.script.toArray⟩, .string ⟨x.tag.region.toArray⟩, .slice av x.tag.vars.length cv, .slice ak x.tag.keys.length ck] 108 (0, 0)) from heap_alloc2_old _ _ _)
  have HW2 := hid (hw1.then hb2)
  have HB2 := hid hb2
  clear hz1 hw1 hb2
  by_cases he : x.err = 0
  · have hg := hgood he
    have N1 := hid (fun W (hb : Below w1.heap.size w1 W) => name_any W _ x.tag (HR.out.below hb) (by have := hg.vars; omega) (by have := hg.keys; omega) (by have := hg.write; omega) (by have := hg.bare.write; unfold bareT at this; omega))
    simp only [tagCells, S] at N1 HR
    clear hgood hfine
    generalize hq : nameF x.tag = q at *
    obtain ⟨nm, ne⟩ := q
    simp only [strErr] at N1
    have e0 : (x.err == 0) = true := by rw [he]; rfl
    rw [he] at HZ2 HT2 HW2 HB2 ⊢
    have HQ := hid hq
    have HG := hid hg
    have HE := hid e0
    clear hq hg e0
    have HZ := HZ2
    obtain ⟨c0, c1, c2, c3, c4⟩ := box_cells HT2.out
    obtain ⟨d0, d1, d2, d3, d4⟩ := box_cells HZ.out
    have fz0 := frozen_of_row _ w.heap.size 0 _ _ HZ.out
    have fz1 := frozen_of_row _ w.heap.size 1 _ _ HZ.out
    have fz2 := frozen_of_row _ w.heap.size 2 _ _ HZ.out
    have fz3 := frozen_of_row _ w.heap.size 3 _ _ HZ.out
    have fz4 := frozen_of_row _ w.heap.size 4 _ _ HZ.out
    have hsz := lt_of_block HZ.out
    have hst := lt_of_block HT2.out
    go_wp2_with fail
    refine (N1.out _ HB2.out).mono ?_
    rintro e w3 ⟨rfl, hb3⟩
    clear c0 c1 c2 c3 c4 d0 d1 d2 d3 d4 fz0 fz1 fz2 fz3 fz4 HZ
    have HZ := hid ((hb3.block _ hsz).trans HZ2.out)
    have HT3 := hid ((hb3.block _ hst).trans HT2.out)
    have HW := hid (HW2.out.then hb3)
    have O13 := hid (own_below O1.out (HB2.out.then hb3))
    have O23 := hid (own_below O2.out (HB2.out.then hb3))
    clear O1 O2
    clear hsz hst HZ2 HT2 HW2 HB2 HR hb3 N1
    obtain ⟨c0, c1, c2, c3, c4⟩ := box_cells HT3.out
    obtain ⟨d0, d1, d2, d3, d4⟩ := box_cells HZ.out
    have fz0 := frozen_of_row w3 w.heap.size 0 _ _ HZ.out
    have fz1 := frozen_of_row w3 w.heap.size 1 _ _ HZ.out
    have fz2 := frozen_of_row w3 w.heap.size 2 _ _ HZ.out
    have fz3 := frozen_of_row w3 w.heap.size 3 _ _ HZ.out
    have fz4 := frozen_of_row w3 w.heap.size 4 _ _ HZ.out
    have hsz := lt_of_block HZ.out
    have hst := lt_of_block HT3.out
    by_cases h1 : ne = 0
    · subst h1
      by_cases h2 : nm = l
      · have hub : (nm == l) = true := by rw [h2]; simp
        have hub2 : (nm != l) = false := by rw [h2]; simp
        subst h2
        go_wp2_with fail
        have hr := P5_row (.string ⟨x.tag.lang.toArray⟩) (.string ⟨x.tag.script.toArray⟩) (.string ⟨x.tag.region.toArray⟩) (.slice av x.tag.vars.length cv) (.slice ak x.tag.keys.length ck) HZ.out
        have hw := P5_below (.string ⟨x.tag.lang.toArray⟩) (.string ⟨x.tag.script.toArray⟩) (.string ⟨x.tag.region.toArray⟩) (.slice av x.tag.vars.length cv) (.slice ak x.tag.keys.length ck) HW.out (Nat.le_refl w.heap.size)
        have p1 := P5_own (.string ⟨x.tag.lang.toArray⟩) (.string ⟨x.tag.script.toArray⟩) (.string ⟨x.tag.region.toArray⟩) (.slice av x.tag.vars.length cv) (.slice ak x.tag.keys.length ck) O13.out HNO1.out
        have p2 := P5_own (.string ⟨x.tag.lang.toArray⟩) (.string ⟨x.tag.script.toArray⟩) (.string ⟨x.tag.region.toArray⟩) (.slice av x.tag.vars.length cv) (.slice ak x.tag.keys.length ck) O23.out HNO2.out
        clear c0 c1 c2 c3 c4 d0 d1 d2 d3 d4 fz0 fz1 fz2 fz3 fz4
        change bodyPost _ _ _ _ _ (P5 w3 (w.heap.size) (.string ⟨x.tag.lang.toArray⟩) (.string ⟨x.tag.script.toArray⟩) (.string ⟨x.tag.region.toArray⟩) (.slice av x.tag.vars.length cv) (.slice ak x.tag.keys.length ck))
        generalize P5 w3 (w.heap.size) (.string ⟨x.tag.lang.toArray⟩) (.string ⟨x.tag.script.toArray⟩) (.string ⟨x.tag.region.toArray⟩) (.slice av x.tag.vars.length cv) (.slice ak x.tag.keys.length ck) = W at *
        obtain ⟨d0, d1, d2, d3, d4⟩ := box_cells hr
        refine bodyPost_ret (v := .tuple #[.agg #[.string ⟨x.tag.lang.toArray⟩, .string ⟨x.tag.script.toArray⟩, .string ⟨x.tag.region.toArray⟩, .slice av x.tag.vars.length cv, .slice ak x.tag.keys.length ck], .bool true]) (by simp [results, Tryz.results51, go_sem, d0, d1, d2, d3, d4]) rfl (namedOut_ok (by rw [named_eq HX.out HQ.out]; simp [HE.out]) (by rw [HX.out]; exact ⟨_, _, rfl, OwnS.rd p1, OwnP.rd p2⟩) hw)
      · have hub : (nm == l) = false := by rw [beq_eq_false_iff_ne]; exact h2
        have hub2 : (nm != l) = true := by rw [bne_iff_ne]; exact h2
        go_wp2_with fail
        have hr := P5_row (.string ⟨#[]⟩) (.string ⟨#[]⟩) (.string ⟨#[]⟩) (.slice none 0 0) (.slice none 0 0) HZ.out
        have hw := P5_below (.string ⟨#[]⟩) (.string ⟨#[]⟩) (.string ⟨#[]⟩) (.slice none 0 0) (.slice none 0 0) HW.out (Nat.le_refl w.heap.size)
        clear c0 c1 c2 c3 c4 d0 d1 d2 d3 d4 fz0 fz1 fz2 fz3 fz4
        change bodyPost _ _ _ _ _ (P5 (w3) (w.heap.size) (.string ⟨#[]⟩) (.string ⟨#[]⟩) (.string ⟨#[]⟩) (.slice none 0 0) (.slice none 0 0))
        generalize P5 (w3) (w.heap.size) (.string ⟨#[]⟩) (.string ⟨#[]⟩) (.string ⟨#[]⟩) (.slice none 0 0) (.slice none 0 0) = W at *
        obtain ⟨d0, d1, d2, d3, d4⟩ := box_cells hr
        refine bodyPost_ret (v := .tuple #[.agg #[.string ⟨#[]⟩, .string ⟨#[]⟩, .string ⟨#[]⟩, .slice none 0 0, .slice none 0 0], .bool false]) (by simp [results, Tryz.results51, go_sem, d0, d1, d2, d3, d4]) rfl (namedOut_bad (by rw [named_eq HX.out HQ.out]; simp [hub]) hw)
    · have hnb : (ne != 0) = true := by rw [bne_iff_ne]; exact h1
      have hnb2 : (ne == 0) = false := by rw [beq_eq_false_iff_ne]; exact h1
      go_wp2_with fail
      have hr := P5_row (.string ⟨#[]⟩) (.string ⟨#[]⟩) (.string ⟨#[]⟩) (.slice none 0 0) (.slice none 0 0) HZ.out
      have hw := P5_below (.string ⟨#[]⟩) (.string ⟨#[]⟩) (.string ⟨#[]⟩) (.slice none 0 0) (.slice none 0 0) HW.out (Nat.le_refl w.heap.size)
      clear c0 c1 c2 c3 c4 d0 d1 d2 d3 d4 fz0 fz1 fz2 fz3 fz4
      change bodyPost _ _ _ _ _ (P5 (w3) (w.heap.size) (.string ⟨#[]⟩) (.string ⟨#[]⟩) (.string ⟨#[]⟩) (.slice none 0 0) (.slice none 0 0))
      generalize P5 (w3) (w.heap.size) (.string ⟨#[]⟩) (.string ⟨#[]⟩) (.string ⟨#[]⟩) (.slice none 0 0) (.slice none 0 0) = W at *
      obtain ⟨d0, d1, d2, d3, d4⟩ := box_cells hr
      refine bodyPost_ret (v := .tuple #[.agg #[.string ⟨#[]⟩, .string ⟨#[]⟩, .string ⟨#[]⟩, .slice none 0 0, .slice none 0 0], .bool false]) (by simp [results, Tryz.results51, go_sem, d0, d1, d2, d3, d4]) rfl (namedOut_bad (by rw [named_eq HX.out HQ.out]; simp [h1]) hw)
  · have heb : (x.err != 0) = true := by rw [bne_iff_ne]; exact he
    have heb3 : ((x.err : Int) != 0) = true := by rw [bne_iff_ne]; omega
    have heb2 : (x.err == 0) = false := by rw [beq_eq_false_iff_ne]; exact he
    have HZ := HZ2
    have HW := HW2
    obtain ⟨c0, c1, c2, c3, c4⟩ := box_cells HT2.out
    obtain ⟨d0, d1, d2, d3, d4⟩ := box_cells HZ.out
    have fz0 := frozen_of_row _ w.heap.size 0 _ _ HZ.out
    have fz1 := frozen_of_row _ w.heap.size 1 _ _ HZ.out
    have fz2 := frozen_of_row _ w.heap.size 2 _ _ HZ.out
    have fz3 := frozen_of_row _ w.heap.size 3 _ _ HZ.out
    have fz4 := frozen_of_row _ w.heap.size 4 _ _ HZ.out
    have hsz := lt_of_block HZ.out
    have hst := lt_of_block HT2.out
    go_wp2_with fail
    have hr := P5_row (.string ⟨#[]⟩) (.string ⟨#[]⟩) (.string ⟨#[]⟩) (.slice none 0 0) (.slice none 0 0) HZ.out
    have hw := P5_below (.string ⟨#[]⟩) (.string ⟨#[]⟩) (.string ⟨#[]⟩) (.slice none 0 0) (.slice none 0 0) HW.out (Nat.le_refl w.heap.size)
    clear c0 c1 c2 c3 c4 d0 d1 d2 d3 d4 fz0 fz1 fz2 fz3 fz4
    change bodyPost _ _ _ _ _ (P5 (((w1.alloc (.cells #[.string ⟨x.tag.lang.toArray⟩, .string ⟨x.tag.script.toArray⟩, .string ⟨x.tag.region.toArray⟩, .slice av x.tag.vars.length cv, .slice ak x.tag.keys.length ck] 108)).alloc (.cells #[.int .i64 (x.err : Int), .int .i64 (x.pos : Int)] 99))) (w.heap.size) (.string ⟨#[]⟩) (.string ⟨#[]⟩) (.string ⟨#[]⟩) (.slice none 0 0) (.slice none 0 0))
    generalize P5 (((w1.alloc (.cells #[.string ⟨x.tag.lang.toArray⟩, .string ⟨x.tag.script.toArray⟩, .string ⟨x.tag.region.toArray⟩, .slice av x.tag.vars.length cv, .slice ak x.tag.keys.length ck] 108)).alloc (.cells #[.int .i64 (x.err : Int), .int .i64 (x.pos : Int)] 99))) (w.heap.size) (.string ⟨#[]⟩) (.string ⟨#[]⟩) (.string ⟨#[]⟩) (.slice none 0 0) (.slice none 0 0) = W at *
    obtain ⟨d0, d1, d2, d3, d4⟩ := box_cells hr
    refine bodyPost_ret (v := .tuple #[.agg #[.string ⟨#[]⟩, .string ⟨#[]⟩, .string ⟨#[]⟩, .slice none 0 0, .slice none 0 0], .bool false]) (by simp [results, Tryz.results51, go_sem, d0, d1, d2, d3, d4]) rfl (namedOut_bad (named_err HX.out he) hw)
end Go.Proofs.YtjlfchnnhglbjaaGreat

/- The contract of tag.Named, with the room of the variants' list. (turned from XNamed by wip/gen_namedc.py) -/
set_option linter.unusedVariables false
set_option linter.unusedSimpArgs false
namespace Go.Proofs.YtjlfchnnhglbjaaGreat
open Go.RowKit Go.Lib Go.Sort

/-- a tag's list of variants lies in its room -/
def capV (v : Value) : Prop := ∀ a0 a1 a2 ao n cp kv, v = .agg #[a0, a1, a2, .slice ao n cp, kv] → n ≤ cp
theorem cap_own {w : World} {B : Nat} {ao : Option Addr} {n cp : Nat} {l : List Str} (h : OwnS w B (.slice ao n cp) l) : n ≤ cp := by
  rcases h.shape with ⟨e, _⟩ | ⟨g, cap, cur, e, _, _, h1, _⟩
  · cases e; exact Nat.le_refl _
  · cases e; exact h1
theorem capV_mk {a0 a1 a2 kv : Value} {ao : Option Addr} {n cp : Nat} (h : n ≤ cp) : capV (.agg #[a0, a1, a2, .slice ao n cp, kv]) := by
  intro b0 b1 b2 ao2 n2 cp2 kv2 e
  simp only [Value.agg.injEq, Array.mk.injEq, List.cons.injEq] at e
  obtain ⟨_, _, _, e, _⟩ := e
  cases e
  exact h
/-- what tag.Named hands back -/
def NamedOutC (w : World) (l : Str) (e : Ending) (w' : World) : Prop :=
  ∃ v, e = .returned (.tuple #[v, .bool (namedB l)]) ∧ RdT w' v (namedT l) ∧ capV v ∧ Below w.heap.size w w'
theorem namedOutC_bad {w W : World} {l : Str} (h : namedB l = false) (hw : Below w.heap.size w W) : NamedOutC w l (.returned (.tuple #[.agg #[.string ⟨#[]⟩, .string ⟨#[]⟩, .string ⟨#[]⟩, .slice none 0 0, .slice none 0 0], .bool false])) W :=
  ⟨_, by rw [h], by unfold namedT; rw [h]; exact RdT.zero W, capV_mk (Nat.le_refl _), hw⟩
theorem namedOutC_ok {w W : World} {l : Str} {v : Value} (h : namedB l = true) (ht : RdT W v (parseF l).tag) (hc : capV v) (hw : Below w.heap.size w W) : NamedOutC w l (.returned (.tuple #[v, .bool true])) W :=
  ⟨v, by rw [h], by unfold namedT; rw [if_pos h]; exact ht, hc, hw⟩

set_option maxRecDepth 100000 in
set_option maxHeartbeats 8000000 in
theorem namedC_any (l : Str) (w : World) (hs : l.length ≤ maxLen) :
    Calls Tryz.prog 51 #[.string ⟨l.toArray⟩] w fun e w' => NamedOutC w l e w' := by
  have PA := hid (fun W => parse_any ⟨l.toArray⟩ W (by rw [Lib.size_eq]; exact hs))
  have hgood := good_of l
  have hfine := parse_fine l
  rw [show (⟨l.toArray⟩ : ByteArray).data.toList = l from rfl] at PA
  generalize hx : parseF l = x at *
  have HX := hid hx
  clear hx
  go_enter Tryz.func51, Tryz.ntmps51
  go_wp2_with fail
  refine (PA.out _).mono ?_
  rintro e w1 ⟨vv, kv, rfl, o1, o2, hb1⟩
  obtain ⟨av, cv, rfl⟩ := own_sliceS o1
  obtain ⟨ak, ck, rfl⟩ := own_sliceP o2
  simp only [tagCells, S]
  have hb0 : Below w.heap.size w (w.alloc (.cells #[.string ⟨#[]⟩, .string ⟨#[]⟩, .string ⟨#[]⟩, .slice none 0 0, .slice none 0 0] 108)) := (Below.refl _ _).alloc (Nat.le_refl _) _
  have hz1 : w1.heap[w.heap.size]? = some (.cells #[.string ⟨#[]⟩, .string ⟨#[]⟩, .string ⟨#[]⟩, .slice none 0 0, .slice none 0 0] 108 (0, 0)) := by rw [hb1.block w.heap.size (by simp)]; exact heap_alloc_new w _
  have hw1 := hb0.then hb1
  have HR := hid (show RdT w1 (.agg (tagCells x.tag (.slice av x.tag.vars.length cv) (.slice ak x.tag.keys.length ck))) x.tag from ⟨_, _, rfl, o1.rd, o2.rd⟩)
  have hno1 : (Value.slice av x.tag.vars.length cv).ownBlock ≠ some w.heap.size := fun e => by have := (World.ownsRow.lt o1 _ e).1; simp at this; omega
  have hno2 : (Value.slice ak x.tag.keys.length ck).ownBlock ≠ some w.heap.size := fun e => by have := (World.ownsRow.lt o2 _ e).1; simp at this; omega
  have O1 := hid o1
  have O2 := hid o2
  have HNO1 := hid hno1
  have HNO2 := hid hno2
  clear hb0 hb1 o1 o2 PA hno1 hno2
  have hb2 : Below w1.heap.size w1 ((w1.alloc (.cells #[.string ⟨x.tag.lang.toArray⟩, .string ⟨x.tag.script.toArray⟩, .string ⟨x.tag.region.toArray⟩, .slice av x.tag.vars.length cv, .slice ak x.tag.keys.length ck] 108)).alloc (.cells #[.int .i64 (x.err : Int), .int .i64 (x.pos : Int)] 99)) := below2 _ _ _
  have HZ2 := hid (show ((w1.alloc (.cells #[.string ⟨x.tag.lang.toArray⟩, .string ⟨x.tag.script.toArray⟩, .string ⟨x.tag.region.toArray⟩, .slice av x.tag.vars.length cv, .slice ak x.tag.keys.length ck] 108)).alloc (.cells #[.int .i64 (x.err : Int), .int .i64 (x.pos : Int)] 99)).heap[w.heap.size]? = some (.cells #[.string ⟨#[]⟩, .string ⟨#[]⟩, .string ⟨#[]⟩, .slice none 0 0, .slice none 0 0] 108 (0, 0)) from (hb2.block _ (lt_of_block hz1)).trans hz1)
  have HT2 := hid (show ((w1.alloc (.cells #[.string ⟨x.tag.lang.toArray⟩, .string ⟨x.tag.script.toArray⟩, .string ⟨x.tag.region.toArray⟩, .slice av x.tag.vars.length cv, .slice ak x.tag.keys.length ck] 108)).alloc (.cells #[.int .i64 (x.err : Int), .int .i64 (x.pos : Int)] 99)).heap[w1.heap.size]? = some (.cells #[.string ⟨x.tag.lang.toArray⟩, .string ⟨x.tag.script.toArray⟩, .string ⟨x.tag.region.toArray⟩, .slice av x.tag.vars.length cv, .slice ak x.tag.keys.length ck] 108 (0, 0)) from heap_alloc2_old _ _ _)
  have HW2 := hid (hw1.then hb2)
  have HB2 := hid hb2
  clear hz1 hw1 hb2
  by_cases he : x.err = 0
  · have hg := hgood he
    have N1 := hid (fun W (hb : Below w1.heap.size w1 W) => name_any W _ x.tag (HR.out.below hb) (by have := hg.vars; omega) (by have := hg.keys; omega) (by have := hg.write; omega) (by have := hg.bare.write; unfold bareT at this; omega))
    simp only [tagCells, S] at N1 HR
    clear hgood hfine
    generalize hq : nameF x.tag = q at *
    obtain ⟨nm, ne⟩ := q
    simp only [strErr] at N1
    have e0 : (x.err == 0) = true := by rw [he]; rfl
    rw [he] at HZ2 HT2 HW2 HB2 ⊢
    have HQ := hid hq
    have HG := hid hg
    have HE := hid e0
    clear hq hg e0
    have HZ := HZ2
    obtain ⟨c0, c1, c2, c3, c4⟩ := box_cells HT2.out
    obtain ⟨d0, d1, d2, d3, d4⟩ := box_cells HZ.out
    have fz0 := frozen_of_row _ w.heap.size 0 _ _ HZ.out
    have fz1 := frozen_of_row _ w.heap.size 1 _ _ HZ.out
    have fz2 := frozen_of_row _ w.heap.size 2 _ _ HZ.out
    have fz3 := frozen_of_row _ w.heap.size 3 _ _ HZ.out
    have fz4 := frozen_of_row _ w.heap.size 4 _ _ HZ.out
    have hsz := lt_of_block HZ.out
    have hst := lt_of_block HT2.out
    go_wp2_with fail
    refine (N1.out _ HB2.out).mono ?_
    rintro e w3 ⟨rfl, hb3⟩
    clear c0 c1 c2 c3 c4 d0 d1 d2 d3 d4 fz0 fz1 fz2 fz3 fz4 HZ
    have HZ := hid ((hb3.block _ hsz).trans HZ2.out)
    have HT3 := hid ((hb3.block _ hst).trans HT2.out)
    have HW := hid (HW2.out.then hb3)
    have O13 := hid (own_below O1.out (HB2.out.then hb3))
    have O23 := hid (own_below O2.out (HB2.out.then hb3))
    clear O1 O2
    clear hsz hst HZ2 HT2 HW2 HB2 HR hb3 N1
    obtain ⟨c0, c1, c2, c3, c4⟩ := box_cells HT3.out
    obtain ⟨d0, d1, d2, d3, d4⟩ := box_cells HZ.out
    have fz0 := frozen_of_row w3 w.heap.size 0 _ _ HZ.out
    have fz1 := frozen_of_row w3 w.heap.size 1 _ _ HZ.out
    have fz2 := frozen_of_row w3 w.heap.size 2 _ _ HZ.out
    have fz3 := frozen_of_row w3 w.heap.size 3 _ _ HZ.out
    have fz4 := frozen_of_row w3 w.heap.size 4 _ _ HZ.out
    have hsz := lt_of_block HZ.out
    have hst := lt_of_block HT3.out
    by_cases h1 : ne = 0
    · subst h1
      by_cases h2 : nm = l
      · have hub : (nm == l) = true := by rw [h2]; simp
        have hub2 : (nm != l) = false := by rw [h2]; simp
        subst h2
        go_wp2_with fail
        have hr := P5_row (.string ⟨x.tag.lang.toArray⟩) (.string ⟨x.tag.script.toArray⟩) (.string ⟨x.tag.region.toArray⟩) (.slice av x.tag.vars.length cv) (.slice ak x.tag.keys.length ck) HZ.out
        have hw := P5_below (.string ⟨x.tag.lang.toArray⟩) (.string ⟨x.tag.script.toArray⟩) (.string ⟨x.tag.region.toArray⟩) (.slice av x.tag.vars.length cv) (.slice ak x.tag.keys.length ck) HW.out (Nat.le_refl w.heap.size)
        have p1 := P5_own (.string ⟨x.tag.lang.toArray⟩) (.string ⟨x.tag.script.toArray⟩) (.string ⟨x.tag.region.toArray⟩) (.slice av x.tag.vars.length cv) (.slice ak x.tag.keys.length ck) O13.out HNO1.out
        have p2 := P5_own (.string ⟨x.tag.lang.toArray⟩) (.string ⟨x.tag.script.toArray⟩) (.string ⟨x.tag.region.toArray⟩) (.slice av x.tag.vars.length cv) (.slice ak x.tag.keys.length ck) O23.out HNO2.out
        clear c0 c1 c2 c3 c4 d0 d1 d2 d3 d4 fz0 fz1 fz2 fz3 fz4
        change bodyPost _ _ _ _ _ (P5 w3 (w.heap.size) (.string ⟨x.tag.lang.toArray⟩) (.string ⟨x.tag.script.toArray⟩) (.string ⟨x.tag.region.toArray⟩) (.slice av x.tag.vars.length cv) (.slice ak x.tag.keys.length ck))
        generalize P5 w3 (w.heap.size) (.string ⟨x.tag.lang.toArray⟩) (.string ⟨x.tag.script.toArray⟩) (.string ⟨x.tag.region.toArray⟩) (.slice av x.tag.vars.length cv) (.slice ak x.tag.keys.length ck) = W at *
        obtain ⟨d0, d1, d2, d3, d4⟩ := box_cells hr
        refine bodyPost_ret (v := .tuple #[.agg #[.string ⟨x.tag.lang.toArray⟩, .string ⟨x.tag.script.toArray⟩, .string ⟨x.tag.region.toArray⟩, .slice av x.tag.vars.length cv, .slice ak x.tag.keys.length ck], .bool true]) (by simp [results, Tryz.results51, go_sem, d0, d1, d2, d3, d4]) rfl (namedOutC_ok (by rw [named_eq HX.out HQ.out]; simp [HE.out]) (by rw [HX.out]; exact ⟨_, _, rfl, OwnS.rd p1, OwnP.rd p2⟩) (capV_mk (cap_own p1)) hw)
      · have hub : (nm == l) = false := by rw [beq_eq_false_iff_ne]; exact h2
        have hub2 : (nm != l) = true := by rw [bne_iff_ne]; exact h2
        go_wp2_with fail
        have hr := P5_row (.string ⟨#[]⟩) (.string ⟨#[]⟩) (.string ⟨#[]⟩) (.slice none 0 0) (.slice none 0 0) HZ.out
        have hw := P5_below (.string ⟨#[]⟩) (.string ⟨#[]⟩) (.string ⟨#[]⟩) (.slice none 0 0) (.slice none 0 0) HW.out (Nat.le_refl w.heap.size)
        clear c0 c1 c2 c3 c4 d0 d1 d2 d3 d4 fz0 fz1 fz2 fz3 fz4
        change bodyPost _ _ _ _ _ (P5 (w3) (w.heap.size) (.string ⟨#[]⟩) (.string ⟨#[]⟩) (.string ⟨#[]⟩) (.slice none 0 0) (.slice none 0 0))
        generalize P5 (w3) (w.heap.size) (.string ⟨#[]⟩) (.string ⟨#[]⟩) (.string ⟨#[]⟩) (.slice none 0 0) (.slice none 0 0) = W at *
        obtain ⟨d0, d1, d2, d3, d4⟩ := box_cells hr
        refine bodyPost_ret (v := .tuple #[.agg #[.string ⟨#[]⟩, .string ⟨#[]⟩, .string ⟨#[]⟩, .slice none 0 0, .slice none 0 0], .bool false]) (by simp [results, Tryz.results51, go_sem, d0, d1, d2, d3, d4]) rfl (namedOutC_bad (by rw [named_eq HX.out HQ.out]; simp [hub]) hw)
    · have hnb : (ne != 0) = true := by rw [bne_iff_ne]; exact h1
      have hnb2 : (ne == 0) = false := by rw [beq_eq_false_iff_ne]; exact h1
      go_wp2_with fail
      have hr := P5_row (.string ⟨#[]⟩) (.string ⟨#[]⟩) (.string ⟨#[]⟩) (.slice none 0 0) (.slice none 0 0) HZ.out
      have hw := P5_below (.string ⟨#[]⟩) (.string ⟨#[]⟩) (.string ⟨#[]⟩) (.slice none 0 0) (.slice none 0 0) HW.out (Nat.le_refl w.heap.size)
      clear c0 c1 c2 c3 c4 d0 d1 d2 d3 d4 fz0 fz1 fz2 fz3 fz4
      change bodyPost _ _ _ _ _ (P5 (w3) (w.heap.size) (.string ⟨#[]⟩) (.string ⟨#[]⟩) (.string ⟨#[]⟩) (.slice none 0 0) (.slice none 0 0))
      generalize P5 (w3) (w.heap.size) (.string ⟨#[]⟩) (.string ⟨#[]⟩) (.string ⟨#[]⟩) (.slice none 0 0) (.slice none 0 0) = W at *
      obtain ⟨d0, d1, d2, d3, d4⟩ := box_cells hr
      refine bodyPost_ret (v := .tuple #[.agg #[.string ⟨#[]⟩, .string ⟨#[]⟩, .string ⟨#[]⟩, .slice none 0 0, .slice none 0 0], .bool false]) (by simp [results, Tryz.results51, go_sem, d0, d1, d2, d3, d4]) rfl (namedOutC_bad (by rw [named_eq HX.out HQ.out]; simp [h1]) hw)
  · have heb : (x.err != 0) = true := by rw [bne_iff_ne]; exact he
    have heb3 : ((x.err : Int) != 0) = true := by rw [bne_iff_ne]; omega
    have heb2 : (x.err == 0) = false := by rw [beq_eq_false_iff_ne]; exact he
    have HZ := HZ2
    have HW := HW2
    obtain ⟨c0, c1, c2, c3, c4⟩ := box_cells HT2.out
    obtain ⟨d0, d1, d2, d3, d4⟩ := box_cells HZ.out
    have fz0 := frozen_of_row _ w.heap.size 0 _ _ HZ.out
    have fz1 := frozen_of_row _ w.heap.size 1 _ _ HZ.out
    have fz2 := frozen_of_row _ w.heap.size 2 _ _ HZ.out
    have fz3 := frozen_of_row _ w.heap.size 3 _ _ HZ.out
    have fz4 := frozen_of_row _ w.heap.size 4 _ _ HZ.out
    have hsz := lt_of_block HZ.out
    have hst := lt_of_block HT2.out
    go_wp2_with fail
    have hr := P5_row (.string ⟨#[]⟩) (.string ⟨#[]⟩) (.string ⟨#[]⟩) (.slice none 0 0) (.slice none 0 0) HZ.out
    have hw := P5_below (.string ⟨#[]⟩) (.string ⟨#[]⟩) (.string ⟨#[]⟩) (.slice none 0 0) (.slice none 0 0) HW.out (Nat.le_refl w.heap.size)
    clear c0 c1 c2 c3 c4 d0 d1 d2 d3 d4 fz0 fz1 fz2 fz3 fz4
    change bodyPost _ _ _ _ _ (P5 (((w1.alloc (.cells #[.string ⟨x.tag.lang.toArray⟩, .string ⟨x.tag.script.toArray⟩, .string ⟨x.tag.region.toArray⟩, .slice av x.tag.vars.length cv, .slice ak x.tag.keys.length ck] 108)).alloc (.cells #[.int .i64 (x.err : Int), .int .i64 (x.pos : Int)] 99))) (w.heap.size) (.string ⟨#[]⟩) (.string ⟨#[]⟩) (.string ⟨#[]⟩) (.slice none 0 0) (.slice none 0 0))
    generalize P5 (((w1.alloc (.cells #[.string ⟨x.tag.lang.toArray⟩, .string ⟨x.tag.script.toArray⟩, .string ⟨x.tag.region.toArray⟩, .slice av x.tag.vars.length cv, .slice ak x.tag.keys.length ck] 108)).alloc (.cells #[.int .i64 (x.err : Int), .int .i64 (x.pos : Int)] 99))) (w.heap.size) (.string ⟨#[]⟩) (.string ⟨#[]⟩) (.string ⟨#[]⟩) (.slice none 0 0) (.slice none 0 0) = W at *
    obtain ⟨d0, d1, d2, d3, d4⟩ := box_cells hr
    refine bodyPost_ret (v := .tuple #[.agg #[.string ⟨#[]⟩, .string ⟨#[]⟩, .string ⟨#[]⟩, .slice none 0 0, .slice none 0 0], .bool false]) (by simp [results, Tryz.results51, go_sem, d0, d1, d2, d3, d4]) rfl (namedOutC_bad (named_err HX.out he) hw)
end Go.Proofs.YtjlfchnnhglbjaaGreat

/- The contract of chain.Plain. (printed by wip/gen_chplain.py) -/
set_option linter.unusedVariables false
set_option linter.unusedSimpArgs false
namespace Go.Proofs.YtjlfchnnhglbjaaGreat
open Go.RowKit Go.Lib Go.Sort

theorem rdS_take {w : World} {ao : Option Addr} {cp : Nat} {l : List Str} (h : RdS w (.slice ao l.length cp) l) (k : Nat) (hk : k ≤ l.length) : RdS w (.slice ao k cp) (l.take k) := by
  obtain ⟨ao', cp', hv, hl, hr⟩ := h
  cases hv
  have hlen : (l.take k).length = k := by rw [List.length_take]; omega
  refine ⟨ao, cp, by rw [hlen], ⟨by rw [hlen]; omega, fun e => ⟨by rw [(hl.2 e).1]; simp, (hl.2 e).2⟩⟩, fun hne => ?_⟩
  have hne2 : l ≠ [] := fun e => hne (by rw [e]; simp)
  obtain ⟨b, off, h1, h2, h3⟩ := hr hne2
  refine ⟨b, off, h1, h2, fun j x hx => h3 j x ?_⟩
  rw [List.getElem?_take] at hx
  split at hx
  · exact hx
  · cases hx
theorem plainT_V {t : Tg} (h : t.vars ≠ []) : plainT t = { t with vars := t.vars.take (t.vars.length - 1) } := by unfold plainT; rw [if_pos h]
theorem plainT_R {t : Tg} (h : t.vars = []) (h2 : t.region ≠ []) : plainT t = { t with region := [] } := by unfold plainT; rw [if_neg (by simp [h]), if_pos h2]
theorem plainT_S {t : Tg} (h : t.vars = []) (h2 : t.region = []) (h3 : t.script ≠ []) : plainT t = { t with script := [] } := by unfold plainT; rw [if_neg (by simp [h]), if_neg (by simp [h2]), if_pos h3]
theorem plainT_L {t : Tg} (h : t.vars = []) (h2 : t.region = []) (h3 : t.script = []) : plainT t = { t with lang := [] } := by unfold plainT; rw [if_neg (by simp [h]), if_neg (by simp [h2]), if_neg (by simp [h3])]

set_option maxRecDepth 100000 in
set_option maxHeartbeats 16000000 in
theorem plain_any (l : Str) (w : World) (hs : l.length ≤ maxLen) :
    Calls Tryz.prog 32 #[.string ⟨l.toArray⟩] w fun e w' => e = .returned (.tuple #[.string ⟨(plainF l).1.toArray⟩, .bool (plainF l).2]) ∧ Below w.heap.size w w' := by
  have NM := hid (fun W => namedC_any l W hs)
  simp only [NamedOutC] at NM
  by_cases hn : namedB l = true
  · obtain ⟨_, hg, hk, _⟩ := named_facts hn
    have hnt : namedT l = tagOf l := by unfold namedT tagOf; rw [if_pos hn]
    rw [hnt, hn] at NM
    by_cases hr : l = tRoot
    · have hpl : plainF l = ([], false) := plain_no (fun h => h.2 hr)
      rw [hpl]
      have hub : (l == [114, 111, 111, 116]) = true := by rw [hr]; rfl
      have hub2 : (l != [114, 111, 111, 116]) = false := by rw [hr]; rfl
      clear hnt hg hk hn hpl hr
      generalize tagOf l = t at *
      go_enter Tryz.func32, Tryz.ntmps32
      go_wp2_with fail
      refine (NM.out _).mono ?_
      rintro e w1 ⟨v, rfl, ⟨vv, kv, rfl, ⟨av, cv, rfl, _, _⟩, ⟨ak, ck, rfl, _, _⟩⟩, _, hb1⟩
      simp only [tagCells, S]
      go_wp2_with fail
      exact bodyPost_ret (v := .tuple #[.string ⟨#[]⟩, .bool false]) (by simp [results, Tryz.results32, go_sem]) rfl ⟨rfl, hb1.then ((Below.refl _ _).alloc (Nat.le_refl _) _)⟩
    · have hpl : plainF l = (nameOf (writeF (bareT (plainT (tagOf l)))), true) := by
        unfold plainF; rw [if_pos ⟨hn, hr⟩, good_name _ (good_plainT hg hk).1]; rfl
      rw [hpl]
      have hub : (l == [114, 111, 111, 116]) = false := by rw [beq_eq_false_iff_ne]; exact hr
      have hub2 : (l != [114, 111, 111, 116]) = true := by rw [bne_iff_ne]; exact hr
      clear hnt hn hpl
      generalize tagOf l = t at *
      have hgp := (good_plainT hg hk).1
      have N1 : Hid (∀ W v, RdT W v (plainT t) → Calls Tryz.prog 52 #[v] W fun e w' => e = .returned (.tuple #[.string ⟨(nameOf (writeF (bareT (plainT t)))).toArray⟩, .int .i64 0]) ∧ Below W.heap.size W w') := fun W v h => by
        refine (name_any W v (plainT t) h (by have := hgp.vars; omega) (by have := hgp.keys; omega) (by have := hgp.write; omega) (by have := hgp.bare.write; unfold bareT at this; omega)).mono ?_
        rintro e w' ⟨rfl, hb⟩
        exact ⟨by rw [good_name _ hgp]; rfl, hb⟩
      generalize nameOf (writeF (bareT (plainT t))) = nm at *
      have HK := hid hk
      clear hg hgp hr hk
      have hvl : Hid (t.vars = [] ∨ t.vars ≠ []) := (Classical.em _)
      by_cases hv : t.vars = []
      · by_cases h2 : t.region = []
        · by_cases h3 : t.script = []
          · have hv0 : ¬ (0 : Int) < (t.vars.length : Int) := by rw [hv]; simp
            have p1 : (t.region == []) = true := by rw [h2]; rfl
            have p1' : (t.region != []) = false := by rw [h2]; rfl
            have p2 : (t.script == []) = true := by rw [h3]; rfl
            have p2' : (t.script != []) = false := by rw [h3]; rfl
            have HPT0 := hid (plainT_L hv h2 h3)
            clear hv hvl h2 h3
            have HPT := HPT0
            clear HPT0
            go_enter Tryz.func32, Tryz.ntmps32
            go_wp2_with fail
            refine (NM.out _).mono ?_
            rintro e w1 ⟨v, rfl, ⟨vv, kv, rfl, hS, hP⟩, hcap, hb1⟩
            have HS := hid hS
            have HP := hid hP
            obtain ⟨av, cv, rfl, hav, _⟩ := hS
            obtain ⟨ak, ck, rfl, _, _⟩ := hP
            simp only [tagCells, S] at hcap ⊢
            have hcp : t.vars.length ≤ cv := hcap _ _ _ _ _ _ _ rfl
            have hcpi : (t.vars.length : Int) - 1 ≤ (cv : Int) := by omega
            clear hcap hcp
            have hx1 := heap_alloc_new w1 (.cells #[.string ⟨t.lang.toArray⟩, .string ⟨t.script.toArray⟩, .string ⟨t.region.toArray⟩, .slice av t.vars.length cv, .slice ak t.keys.length ck] 108)
            have hb2 : Below w1.heap.size w1 (w1.alloc (.cells #[.string ⟨t.lang.toArray⟩, .string ⟨t.script.toArray⟩, .string ⟨t.region.toArray⟩, .slice av t.vars.length cv, .slice ak t.keys.length ck] 108)) := (Below.refl _ _).alloc (Nat.le_refl _) _
            obtain ⟨c0, c1, c2, c3, c4⟩ := box_cells hx1
            have fz0 := frozen_of_row _ w1.heap.size 0 _ _ hx1
            have fz1 := frozen_of_row _ w1.heap.size 1 _ _ hx1
            have fz2 := frozen_of_row _ w1.heap.size 2 _ _ hx1
            have fz3 := frozen_of_row _ w1.heap.size 3 _ _ hx1
            have hsz := lt_of_block hx1
            have HB1 := hid hb1
            clear hb1 hb2 hx1
            go_wp2_with fail
            refine (N1.out _ _ ?_).mono ?_
            · have hal : ∀ o, Below w1.heap.size w1 (w1.alloc o) := fun o => (Below.refl _ _).alloc (Nat.le_refl _) _
              rw [HPT.out]
              exact ⟨_, _, rfl, (HS.out).below (hal _), HP.out.below (hal _)⟩
            rintro e w3 ⟨rfl, hb3⟩
            have hw3 := HB1.out.then (Below.then ((Below.refl _ _).alloc (Nat.le_refl _) _) hb3)
            clear c0 c1 c2 c3 c4 fz0 fz1 fz2 fz3 hsz hb3
            go_wp2_with fail
            exact bodyPost_ret (v := .tuple #[.string ⟨nm.toArray⟩, .bool true]) (by simp [results, Tryz.results32, go_sem]) rfl ⟨rfl, hw3⟩
          · have hv0 : ¬ (0 : Int) < (t.vars.length : Int) := by rw [hv]; simp
            have p1 : (t.region == []) = true := by rw [h2]; rfl
            have p1' : (t.region != []) = false := by rw [h2]; rfl
            have p2 : (t.script == []) = false := by rw [beq_eq_false_iff_ne]; exact h3
            have p2' : (t.script != []) = true := by rw [bne_iff_ne]; exact h3
            have HPT0 := hid (plainT_S hv h2 h3)
            clear hv hvl h2 h3
            have HPT := HPT0
            clear HPT0
            go_enter Tryz.func32, Tryz.ntmps32
            go_wp2_with fail
            refine (NM.out _).mono ?_
            rintro e w1 ⟨v, rfl, ⟨vv, kv, rfl, hS, hP⟩, hcap, hb1⟩
            have HS := hid hS
            have HP := hid hP
            obtain ⟨av, cv, rfl, hav, _⟩ := hS
            obtain ⟨ak, ck, rfl, _, _⟩ := hP
            simp only [tagCells, S] at hcap ⊢
            have hcp : t.vars.length ≤ cv := hcap _ _ _ _ _ _ _ rfl
            have hcpi : (t.vars.length : Int) - 1 ≤ (cv : Int) := by omega
            clear hcap hcp
            have hx1 := heap_alloc_new w1 (.cells #[.string ⟨t.lang.toArray⟩, .string ⟨t.script.toArray⟩, .string ⟨t.region.toArray⟩, .slice av t.vars.length cv, .slice ak t.keys.length ck] 108)
            have hb2 : Below w1.heap.size w1 (w1.alloc (.cells #[.string ⟨t.lang.toArray⟩, .string ⟨t.script.toArray⟩, .string ⟨t.region.toArray⟩, .slice av t.vars.length cv, .slice ak t.keys.length ck] 108)) := (Below.refl _ _).alloc (Nat.le_refl _) _
            obtain ⟨c0, c1, c2, c3, c4⟩ := box_cells hx1
            have fz0 := frozen_of_row _ w1.heap.size 0 _ _ hx1
            have fz1 := frozen_of_row _ w1.heap.size 1 _ _ hx1
            have fz2 := frozen_of_row _ w1.heap.size 2 _ _ hx1
            have fz3 := frozen_of_row _ w1.heap.size 3 _ _ hx1
            have hsz := lt_of_block hx1
            have HB1 := hid hb1
            clear hb1 hb2 hx1
            go_wp2_with fail
            refine (N1.out _ _ ?_).mono ?_
            · have hal : ∀ o, Below w1.heap.size w1 (w1.alloc o) := fun o => (Below.refl _ _).alloc (Nat.le_refl _) _
              rw [HPT.out]
              exact ⟨_, _, rfl, (HS.out).below (hal _), HP.out.below (hal _)⟩
            rintro e w3 ⟨rfl, hb3⟩
            have hw3 := HB1.out.then (Below.then ((Below.refl _ _).alloc (Nat.le_refl _) _) hb3)
            clear c0 c1 c2 c3 c4 fz0 fz1 fz2 fz3 hsz hb3
            go_wp2_with fail
            exact bodyPost_ret (v := .tuple #[.string ⟨nm.toArray⟩, .bool true]) (by simp [results, Tryz.results32, go_sem]) rfl ⟨rfl, hw3⟩
        · have hv0 : ¬ (0 : Int) < (t.vars.length : Int) := by rw [hv]; simp
          have p1 : (t.region == []) = false := by rw [beq_eq_false_iff_ne]; exact h2
          have p1' : (t.region != []) = true := by rw [bne_iff_ne]; exact h2
          have HPT0 := hid (plainT_R hv h2)
          clear hv hvl h2
          have HPT := HPT0
          clear HPT0
          go_enter Tryz.func32, Tryz.ntmps32
          go_wp2_with fail
          refine (NM.out _).mono ?_
          rintro e w1 ⟨v, rfl, ⟨vv, kv, rfl, hS, hP⟩, hcap, hb1⟩
          have HS := hid hS
          have HP := hid hP
          obtain ⟨av, cv, rfl, hav, _⟩ := hS
          obtain ⟨ak, ck, rfl, _, _⟩ := hP
          simp only [tagCells, S] at hcap ⊢
          have hcp : t.vars.length ≤ cv := hcap _ _ _ _ _ _ _ rfl
          have hcpi : (t.vars.length : Int) - 1 ≤ (cv : Int) := by omega
          clear hcap hcp
          have hx1 := heap_alloc_new w1 (.cells #[.string ⟨t.lang.toArray⟩, .string ⟨t.script.toArray⟩, .string ⟨t.region.toArray⟩, .slice av t.vars.length cv, .slice ak t.keys.length ck] 108)
          have hb2 : Below w1.heap.size w1 (w1.alloc (.cells #[.string ⟨t.lang.toArray⟩, .string ⟨t.script.toArray⟩, .string ⟨t.region.toArray⟩, .slice av t.vars.length cv, .slice ak t.keys.length ck] 108)) := (Below.refl _ _).alloc (Nat.le_refl _) _
          obtain ⟨c0, c1, c2, c3, c4⟩ := box_cells hx1
          have fz0 := frozen_of_row _ w1.heap.size 0 _ _ hx1
          have fz1 := frozen_of_row _ w1.heap.size 1 _ _ hx1
          have fz2 := frozen_of_row _ w1.heap.size 2 _ _ hx1
          have fz3 := frozen_of_row _ w1.heap.size 3 _ _ hx1
          have hsz := lt_of_block hx1
          have HB1 := hid hb1
          clear hb1 hb2 hx1
          go_wp2_with fail
          refine (N1.out _ _ ?_).mono ?_
          · have hal : ∀ o, Below w1.heap.size w1 (w1.alloc o) := fun o => (Below.refl _ _).alloc (Nat.le_refl _) _
            rw [HPT.out]
            exact ⟨_, _, rfl, (HS.out).below (hal _), HP.out.below (hal _)⟩
          rintro e w3 ⟨rfl, hb3⟩
          have hw3 := HB1.out.then (Below.then ((Below.refl _ _).alloc (Nat.le_refl _) _) hb3)
          clear c0 c1 c2 c3 c4 fz0 fz1 fz2 fz3 hsz hb3
          go_wp2_with fail
          exact bodyPost_ret (v := .tuple #[.string ⟨nm.toArray⟩, .bool true]) (by simp [results, Tryz.results32, go_sem]) rfl ⟨rfl, hw3⟩
      · have hv0 : (0 : Int) < (t.vars.length : Int) := by have := List.length_pos_iff.2 hv; omega
        have HPT0 := hid (plainT_V hv)
        clear hv hvl
        have HPT := HPT0
        clear HPT0
        go_enter Tryz.func32, Tryz.ntmps32
        go_wp2_with fail
        refine (NM.out _).mono ?_
        rintro e w1 ⟨v, rfl, ⟨vv, kv, rfl, hS, hP⟩, hcap, hb1⟩
        have HS := hid hS
        have HP := hid hP
        obtain ⟨av, cv, rfl, hav, _⟩ := hS
        obtain ⟨ak, ck, rfl, _, _⟩ := hP
        simp only [tagCells, S] at hcap ⊢
        have hcp : t.vars.length ≤ cv := hcap _ _ _ _ _ _ _ rfl
        have hcpi : (t.vars.length : Int) - 1 ≤ (cv : Int) := by omega
        have hcp0 : (0 : Int) ≤ (t.vars.length : Int) - 1 := by omega
        have hcpn : ((t.vars.length : Int) - 1).toNat = t.vars.length - 1 := by omega
        clear hcap hcp
        have hx1 := heap_alloc_new w1 (.cells #[.string ⟨t.lang.toArray⟩, .string ⟨t.script.toArray⟩, .string ⟨t.region.toArray⟩, .slice av t.vars.length cv, .slice ak t.keys.length ck] 108)
        have hb2 : Below w1.heap.size w1 (w1.alloc (.cells #[.string ⟨t.lang.toArray⟩, .string ⟨t.script.toArray⟩, .string ⟨t.region.toArray⟩, .slice av t.vars.length cv, .slice ak t.keys.length ck] 108)) := (Below.refl _ _).alloc (Nat.le_refl _) _
        obtain ⟨c0, c1, c2, c3, c4⟩ := box_cells hx1
        have fz0 := frozen_of_row _ w1.heap.size 0 _ _ hx1
        have fz1 := frozen_of_row _ w1.heap.size 1 _ _ hx1
        have fz2 := frozen_of_row _ w1.heap.size 2 _ _ hx1
        have fz3 := frozen_of_row _ w1.heap.size 3 _ _ hx1
        have hsz := lt_of_block hx1
        have HB1 := hid hb1
        clear hb1 hb2 hx1
        go_wp2_with fail
        refine (N1.out _ _ ?_).mono ?_
        · have hal : ∀ o, Below w1.heap.size w1 (w1.alloc o) := fun o => (Below.refl _ _).alloc (Nat.le_refl _) _
          rw [HPT.out]
          exact ⟨_, _, rfl, (rdS_take HS.out (t.vars.length - 1) (by omega)).below (hal _), HP.out.below (hal _)⟩
        rintro e w3 ⟨rfl, hb3⟩
        have hw3 := HB1.out.then (Below.then ((Below.refl _ _).alloc (Nat.le_refl _) _) hb3)
        clear c0 c1 c2 c3 c4 fz0 fz1 fz2 fz3 hsz hb3
        go_wp2_with fail
        exact bodyPost_ret (v := .tuple #[.string ⟨nm.toArray⟩, .bool true]) (by simp [results, Tryz.results32, go_sem]) rfl ⟨rfl, hw3⟩
  · have hpl : plainF l = ([], false) := plain_no (fun h => hn h.1)
    rw [hpl]
    have hn2 : namedB l = false := by simpa using hn
    have hnt : namedT l = Tg.zero := by unfold namedT; rw [if_neg hn]
    rw [hnt, hn2] at NM
    clear hnt hn hpl hn2
    go_enter Tryz.func32, Tryz.ntmps32
    go_wp2_with fail
    refine (NM.out _).mono ?_
    rintro e w1 ⟨v, rfl, ⟨vv, kv, rfl, ⟨av, cv, rfl, _, _⟩, ⟨ak, ck, rfl, _, _⟩⟩, _, hb1⟩
    simp only [tagCells, S]
    go_wp2_with fail
    exact bodyPost_ret (v := .tuple #[.string ⟨#[]⟩, .bool false]) (by simp [results, Tryz.results32, go_sem]) rfl ⟨rfl, hb1.then ((Below.refl _ _).alloc (Nat.le_refl _) _)⟩
end Go.Proofs.YtjlfchnnhglbjaaGreat
