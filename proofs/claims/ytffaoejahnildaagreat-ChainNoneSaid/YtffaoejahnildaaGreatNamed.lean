/- The contract of tag.Named. -/
import Derived.Test.YtffaoejahnildaaGreatName
import Derived.Test.YtffaoejahnildaaGreatBoxes
import Derived.Test.YtffaoejahnildaaGreatCanonF
set_option linter.unusedVariables false
set_option linter.unusedSimpArgs false
namespace Go.Proofs.YtffaoejahnildaaGreat
open Go.RowKit Go.Lib Go.Sort

def namedT (l : Str) : Tg := if namedB l = true then (parseF l).tag else Tg.zero
/-- what tag.Named hands back -/
def NamedOut (w : World) (l : Str) (e : Ending) (w' : World) : Prop :=
  ∃ v, e = .returned (.tuple #[v, .bool (namedB l)]) ∧ RdT w' v (namedT l) ∧ Below w.heap.size w w'

theorem named_eq {l : Str} {x : Res} {q : Str × Int} (hx : parseF l = x) (hq : nameF x.tag = q) : namedB l = (x.err == 0 && (q.2 == 0 && q.1 == l)) := by
  unfold namedB; rw [hx, hq]
theorem named_err {l : Str} {x : Res} (hx : parseF l = x) (he : ¬ x.err = 0) : namedB l = false := by
  unfold namedB; rw [hx, beq_eq_false_iff_ne.2 he]; rfl
theorem namedOut_bad {w W : World} {l : Str} (h : namedB l = false) (hw : Below w.heap.size w W) : NamedOut w l (.returned (.tuple #[.agg #[.string ⟨#[]⟩, .string ⟨#[]⟩, .string ⟨#[]⟩, .slice none 0 0, .slice none 0 0], .bool false])) W :=
  ⟨_, by rw [h], by unfold namedT; rw [h]; exact RdT.zero W, hw⟩
theorem namedOut_ok {w W : World} {l : Str} {v : Value} (h : namedB l = true) (ht : RdT W v (parseF l).tag) (hw : Below w.heap.size w W) : NamedOut w l (.returned (.tuple #[v, .bool true])) W :=
  ⟨v, by rw [h], by unfold namedT; rw [if_pos h]; exact ht, hw⟩

set_option maxRecDepth 100000 in
set_option maxHeartbeats 8000000 in
theorem named_any (l : Str) (w : World) (hs : l.length ≤ maxLen) :
    Calls Tryz.prog 22 #[.string ⟨l.toArray⟩] w fun e w' => NamedOut w l e w' := by
  have PA := hid (fun W => parse_any ⟨l.toArray⟩ W (by rw [Lib.size_eq]; exact hs))
  have hgood := good_of l
  have hfine := parse_fine l
  rw [show (⟨l.toArray⟩ : ByteArray).data.toList = l from rfl] at PA
  generalize hx : parseF l = x at *
  have HX := hid hx
  clear hx
  go_enter Tryz.func22, Tryz.ntmps22
  go_wp2_with fail
  refine (PA.out _).mono ?_
  rintro e w1 ⟨vv, kv, rfl, o1, o2, hb1⟩
  obtain ⟨av, cv, rfl⟩ := own_sliceS o1
  obtain ⟨ak, ck, rfl⟩ := own_sliceP o2
  simp only [tagCells, S]
  have hb0 : Below w.heap.size w (w.alloc (.cells #[.string ⟨#[]⟩, .string ⟨#[]⟩, .string ⟨#[]⟩, .slice none 0 0, .slice none 0 0] 53)) := (Below.refl _ _).alloc (Nat.le_refl _) _
  have hz1 : w1.heap[w.heap.size]? = some (.cells #[.string ⟨#[]⟩, .string ⟨#[]⟩, .string ⟨#[]⟩, .slice none 0 0, .slice none 0 0] 53 (0, 0)) := by rw [hb1.block w.heap.size (by simp)]; exact heap_alloc_new w _
  have hw1 := hb0.then hb1
  have HR := hid (show RdT w1 (.agg (tagCells x.tag (.slice av x.tag.vars.length cv) (.slice ak x.tag.keys.length ck))) x.tag from ⟨_, _, rfl, o1.rd, o2.rd⟩)
  have hno1 : (Value.slice av x.tag.vars.length cv).ownBlock ≠ some w.heap.size := fun e => by have := (World.ownsRow.lt o1 _ e).1; simp at this; omega
  have hno2 : (Value.slice ak x.tag.keys.length ck).ownBlock ≠ some w.heap.size := fun e => by have := (World.ownsRow.lt o2 _ e).1; simp at this; omega
  have O1 := hid o1
  have O2 := hid o2
  have HNO1 := hid hno1
  have HNO2 := hid hno2
  clear hb0 hb1 o1 o2 PA hno1 hno2
  have hb2 : Below w1.heap.size w1 ((w1.alloc (.cells #[.string ⟨x.tag.lang.toArray⟩, .string ⟨x.tag.script.toArray⟩, .string ⟨x.tag.region.toArray⟩, .slice av x.tag.vars.length cv, .slice ak x.tag.keys.length ck] 53)).alloc (.cells #[.int .i64 (x.err : Int), .int .i64 (x.pos : Int)] 58)) := below2 _ _ _
  have HZ2 := hid (show ((w1.alloc (.cells #[.string ⟨x.tag.lang.toArray⟩, .string ⟨x.tag.script.toArray⟩, .string ⟨x.tag.region.toArray⟩, .slice av x.tag.vars.length cv, .slice ak x.tag.keys.length ck] 53)).alloc (.cells #[.int .i64 (x.err : Int), .int .i64 (x.pos : Int)] 58)).heap[w.heap.size]? = some (.cells #[.string ⟨#[]⟩, .string ⟨#[]⟩, .string ⟨#[]⟩, .slice none 0 0, .slice none 0 0] 53 (0, 0)) from (hb2.block _ (lt_of_block hz1)).trans hz1)
  have HT2 := hid (show ((w1.alloc (.cells #[.string ⟨x.tag.lang.toArray⟩, .string ⟨x.tag.script.toArray⟩, .string ⟨x.tag.region.toArray⟩, .slice av x.tag.vars.length cv, .slice ak x.tag.keys.length ck] 53)).alloc (.cells #[.int .i64 (x.err : Int), .int .i64 (x.pos : Int)] 58)).heap[w1.heap.size]? = some (.cells #[.string ⟨x.tag.lang.toArray⟩, .string ⟨x.tag.script.toArray⟩, .string ⟨x.tag.region.toArray⟩, .slice av x.tag.vars.length cv, .slice ak x.tag.keys.length ck] 53 (0, 0)) from heap_alloc2_old _ _ _)
  have HW2 := hid (hw1.then hb2)
  have HB2 := hid hb2
  clear hz1 hw1 hb2
  by_cases he : x.err = 0
  · have hg := hgood he
    have N1 := hid (fun W (hb : Below w1.heap.size w1 W) => name_any W _ x.tag (HR.out.below hb) (by have := hg.vars; omega) (by have := hg.keys; omega) (by have := hg.write; omega) (by have := hg.bare.write; unfold bareT at this; omega))
    simp only [tagCells, S] at N1 HR
    clear hgood hfine
    generalize hq : nameF x.tag = q at *
    obtain ⟨nm, ne⟩ := q
    simp only [strErr] at N1
    have e0 : (x.err == 0) = true := by rw [he]; rfl
    rw [he] at HZ2 HT2 HW2 HB2 ⊢
    have HQ := hid hq
    have HG := hid hg
    have HE := hid e0
    clear hq hg e0
    have HZ := HZ2
    obtain ⟨c0, c1, c2, c3, c4⟩ := box_cells HT2.out
    obtain ⟨d0, d1, d2, d3, d4⟩ := box_cells HZ.out
    have fz0 := frozen_of_row _ w.heap.size 0 _ _ HZ.out
    have fz1 := frozen_of_row _ w.heap.size 1 _ _ HZ.out
    have fz2 := frozen_of_row _ w.heap.size 2 _ _ HZ.out
    have fz3 := frozen_of_row _ w.heap.size 3 _ _ HZ.out
    have fz4 := frozen_of_row _ w.heap.size 4 _ _ HZ.out
    have hsz := lt_of_block HZ.out
    have hst := lt_of_block HT2.out
    go_wp2_with fail
    refine (N1.out _ HB2.out).mono ?_
    rintro e w3 ⟨rfl, hb3⟩
    clear c0 c1 c2 c3 c4 d0 d1 d2 d3 d4 fz0 fz1 fz2 fz3 fz4 HZ
    have HZ := hid ((hb3.block _ hsz).trans HZ2.out)
    have HT3 := hid ((hb3.block _ hst).trans HT2.out)
    have HW := hid (HW2.out.then hb3)
    have O13 := hid (own_below O1.out (HB2.out.then hb3))
    have O23 := hid (own_below O2.out (HB2.out.then hb3))
    clear O1 O2
    clear hsz hst HZ2 HT2 HW2 HB2 HR hb3 N1
    obtain ⟨c0, c1, c2, c3, c4⟩ := box_cells HT3.out
    obtain ⟨d0, d1, d2, d3, d4⟩ := box_cells HZ.out
    have fz0 := frozen_of_row w3 w.heap.size 0 _ _ HZ.out
    have fz1 := frozen_of_row w3 w.heap.size 1 _ _ HZ.out
    have fz2 := frozen_of_row w3 w.heap.size 2 _ _ HZ.out
    have fz3 := frozen_of_row w3 w.heap.size 3 _ _ HZ.out
    have fz4 := frozen_of_row w3 w.heap.size 4 _ _ HZ.out
    have hsz := lt_of_block HZ.out
    have hst := lt_of_block HT3.out
    by_cases h1 : ne = 0
    · subst h1
      by_cases h2 : nm = l
      · have hub : (nm == l) = true := by rw [h2]; simp
        have hub2 : (nm != l) = false := by rw [h2]; simp
        subst h2
        go_wp2_with fail
        have hr := P5_row (.string ⟨x.tag.lang.toArray⟩) (.string ⟨x.tag.script.toArray⟩) (.string ⟨x.tag.region.toArray⟩) (.slice av x.tag.vars.length cv) (.slice ak x.tag.keys.length ck) HZ.out
        have hw := P5_below (.string ⟨x.tag.lang.toArray⟩) (.string ⟨x.tag.script.toArray⟩) (.string ⟨x.tag.region.toArray⟩) (.slice av x.tag.vars.length cv) (.slice ak x.tag.keys.length ck) HW.out (Nat.le_refl w.heap.size)
        have p1 := P5_own (.string ⟨x.tag.lang.toArray⟩) (.string ⟨x.tag.script.toArray⟩) (.string ⟨x.tag.region.toArray⟩) (.slice av x.tag.vars.length cv) (.slice ak x.tag.keys.length ck) O13.out HNO1.out
        have p2 := P5_own (.string ⟨x.tag.lang.toArray⟩) (.string ⟨x.tag.script.toArray⟩) (.string ⟨x.tag.region.toArray⟩) (.slice av x.tag.vars.length cv) (.slice ak x.tag.keys.length ck) O23.out HNO2.out
        clear c0 c1 c2 c3 c4 d0 d1 d2 d3 d4 fz0 fz1 fz2 fz3 fz4
        change bodyPost _ _ _ _ _ (P5 w3 (w.heap.size) (.string ⟨x.tag.lang.toArray⟩) (.string ⟨x.tag.script.toArray⟩) (.string ⟨x.tag.region.toArray⟩) (.slice av x.tag.vars.length cv) (.slice ak x.tag.keys.length ck))
        generalize P5 w3 (w.heap.size) (.string ⟨x.tag.lang.toArray⟩) (.string ⟨x.tag.script.toArray⟩) (.string ⟨x.tag.region.toArray⟩) (.slice av x.tag.vars.length cv) (.slice ak x.tag.keys.length ck) = W at *
        obtain ⟨d0, d1, d2, d3, d4⟩ := box_cells hr
        refine bodyPost_ret (v := .tuple #[.agg #[.string ⟨x.tag.lang.toArray⟩, .string ⟨x.tag.script.toArray⟩, .string ⟨x.tag.region.toArray⟩, .slice av x.tag.vars.length cv, .slice ak x.tag.keys.length ck], .bool true]) (by simp [results, Tryz.results22, go_sem, d0, d1, d2, d3, d4]) rfl (namedOut_ok (by rw [named_eq HX.out HQ.out]; simp [HE.out]) (by rw [HX.out]; exact ⟨_, _, rfl, OwnS.rd p1, OwnP.rd p2⟩) hw)
      · have hub : (nm == l) = false := by rw [beq_eq_false_iff_ne]; exact h2
        have hub2 : (nm != l) = true := by rw [bne_iff_ne]; exact h2
        go_wp2_with fail
        have hr := P5_row (.string ⟨#[]⟩) (.string ⟨#[]⟩) (.string ⟨#[]⟩) (.slice none 0 0) (.slice none 0 0) HZ.out
        have hw := P5_below (.string ⟨#[]⟩) (.string ⟨#[]⟩) (.string ⟨#[]⟩) (.slice none 0 0) (.slice none 0 0) HW.out (Nat.le_refl w.heap.size)
        clear c0 c1 c2 c3 c4 d0 d1 d2 d3 d4 fz0 fz1 fz2 fz3 fz4
        change bodyPost _ _ _ _ _ (P5 (w3) (w.heap.size) (.string ⟨#[]⟩) (.string ⟨#[]⟩) (.string ⟨#[]⟩) (.slice none 0 0) (.slice none 0 0))
        generalize P5 (w3) (w.heap.size) (.string ⟨#[]⟩) (.string ⟨#[]⟩) (.string ⟨#[]⟩) (.slice none 0 0) (.slice none 0 0) = W at *
        obtain ⟨d0, d1, d2, d3, d4⟩ := box_cells hr
        refine bodyPost_ret (v := .tuple #[.agg #[.string ⟨#[]⟩, .string ⟨#[]⟩, .string ⟨#[]⟩, .slice none 0 0, .slice none 0 0], .bool false]) (by simp [results, Tryz.results22, go_sem, d0, d1, d2, d3, d4]) rfl (namedOut_bad (by rw [named_eq HX.out HQ.out]; simp [hub]) hw)
    · have hnb : (ne != 0) = true := by rw [bne_iff_ne]; exact h1
      have hnb2 : (ne == 0) = false := by rw [beq_eq_false_iff_ne]; exact h1
      go_wp2_with fail
      have hr := P5_row (.string ⟨#[]⟩) (.string ⟨#[]⟩) (.string ⟨#[]⟩) (.slice none 0 0) (.slice none 0 0) HZ.out
      have hw := P5_below (.string ⟨#[]⟩) (.string ⟨#[]⟩) (.string ⟨#[]⟩) (.slice none 0 0) (.slice none 0 0) HW.out (Nat.le_refl w.heap.size)
      clear c0 c1 c2 c3 c4 d0 d1 d2 d3 d4 fz0 fz1 fz2 fz3 fz4
      change bodyPost _ _ _ _ _ (P5 (w3) (w.heap.size) (.string ⟨#[]⟩) (.string ⟨#[]⟩) (.string ⟨#[]⟩) (.slice none 0 0) (.slice none 0 0))
      generalize P5 (w3) (w.heap.size) (.string ⟨#[]⟩) (.string ⟨#[]⟩) (.string ⟨#[]⟩) (.slice none 0 0) (.slice none 0 0) = W at *
      obtain ⟨d0, d1, d2, d3, d4⟩ := box_cells hr
      refine bodyPost_ret (v := .tuple #[.agg #[.string ⟨#[]⟩, .string ⟨#[]⟩, .string ⟨#[]⟩, .slice none 0 0, .slice none 0 0], .bool false]) (by simp [results, Tryz.results22, go_sem, d0, d1, d2, d3, d4]) rfl (namedOut_bad (by rw [named_eq HX.out HQ.out]; simp [h1]) hw)
  · have heb : (x.err != 0) = true := by rw [bne_iff_ne]; exact he
    have heb3 : ((x.err : Int) != 0) = true := by rw [bne_iff_ne]; omega
    have heb2 : (x.err == 0) = false := by rw [beq_eq_false_iff_ne]; exact he
    have HZ := HZ2
    have HW := HW2
    obtain ⟨c0, c1, c2, c3, c4⟩ := box_cells HT2.out
    obtain ⟨d0, d1, d2, d3, d4⟩ := box_cells HZ.out
    have fz0 := frozen_of_row _ w.heap.size 0 _ _ HZ.out
    have fz1 := frozen_of_row _ w.heap.size 1 _ _ HZ.out
    have fz2 := frozen_of_row _ w.heap.size 2 _ _ HZ.out
    have fz3 := frozen_of_row _ w.heap.size 3 _ _ HZ.out
    have fz4 := frozen_of_row _ w.heap.size 4 _ _ HZ.out
    have hsz := lt_of_block HZ.out
    have hst := lt_of_block HT2.out
    go_wp2_with fail
    have hr := P5_row (.string ⟨#[]⟩) (.string ⟨#[]⟩) (.string ⟨#[]⟩) (.slice none 0 0) (.slice none 0 0) HZ.out
    have hw := P5_below (.string ⟨#[]⟩) (.string ⟨#[]⟩) (.string ⟨#[]⟩) (.slice none 0 0) (.slice none 0 0) HW.out (Nat.le_refl w.heap.size)
    clear c0 c1 c2 c3 c4 d0 d1 d2 d3 d4 fz0 fz1 fz2 fz3 fz4
    change bodyPost _ _ _ _ _ (P5 (((w1.alloc (.cells #[.string ⟨x.tag.lang.toArray⟩, .string ⟨x.tag.script.toArray⟩, .string ⟨x.tag.region.toArray⟩, .slice av x.tag.vars.length cv, .slice ak x.tag.keys.length ck] 53)).alloc (.cells #[.int .i64 (x.err : Int), .int .i64 (x.pos : Int)] 58))) (w.heap.size) (.string ⟨#[]⟩) (.string ⟨#[]⟩) (.string ⟨#[]⟩) (.slice none 0 0) (.slice none 0 0))
    generalize P5 (((w1.alloc (.cells #[.string ⟨x.tag.lang.toArray⟩, .string ⟨x.tag.script.toArray⟩, .string ⟨x.tag.region.toArray⟩, .slice av x.tag.vars.length cv, .slice ak x.tag.keys.length ck] 53)).alloc (.cells #[.int .i64 (x.err : Int), .int .i64 (x.pos : Int)] 58))) (w.heap.size) (.string ⟨#[]⟩) (.string ⟨#[]⟩) (.string ⟨#[]⟩) (.slice none 0 0) (.slice none 0 0) = W at *
    obtain ⟨d0, d1, d2, d3, d4⟩ := box_cells hr
    refine bodyPost_ret (v := .tuple #[.agg #[.string ⟨#[]⟩, .string ⟨#[]⟩, .string ⟨#[]⟩, .slice none 0 0, .slice none 0 0], .bool false]) (by simp [results, Tryz.results22, go_sem, d0, d1, d2, d3, d4]) rfl (namedOut_bad (named_err HX.out he) hw)
end Go.Proofs.YtffaoejahnildaaGreat
