/- Several texts in one: ChUp, ChNew, ChSame, ChWakes. (joined by wip/merge.py) -/
import Derived.Test.YtffaoejahnildaaGreatMC
import Derived.Test.YtffaoejahnildaaGreatApp
import Derived.Deep.Cut
import Derived.Test.YtffaoejahnildaaGreatBoxes
import Derived.BigQuiet
import Derived.Test.YtffaoejahnildaaGreatSame
import Derived.IntWalk
import Derived.WalkSmall

/- The contracts of chain.Chains.Chain and Above. -/
set_option linter.unusedVariables false
set_option linter.unusedSimpArgs false
namespace Go.Proofs.YtffaoejahnildaaGreat
open Go.RowKit Go.Lib Go.Sort Go.Maps

/-- as wpList_pushS, for longer lists -/
theorem wpList_pushL {w : World} {ops : Array Oper} {rest : List Oper} {o : Oper} {a : Act} {Q : Exit → Act → World → Prop} (hgd : o.guard = none) (s x : Operand)
    (ho : o.op = .call { callee := .builtin .append, args := #[s, x], argTypes := #[31, 31] })
    (B : Nat) (v : Value) (l : List Str) (y : Str) (hs : a.eval s = v) (hown : OwnS w B v l) (hx : a.eval x = .slice (some ⟨w.heap.size, 0, none⟩) 1 1) (hl : l.length ≤ 1000000000000) (hB : B ≤ w.heap.size)
    (h : ∀ v' w', OwnS w' B v' (l ++ [y]) → w.grownBy w' v.ownBlock → Moved w v v' → wpList Tryz.prog ops Q rest (a.put o.dst v') w') :
    wpList Tryz.prog ops Q (o :: rest) a (w.alloc (.cells #[.string ⟨y.toArray⟩] 9)) := by
  obtain ⟨i0, hi, hz0, hz1, hz2⟩ := info_parts infoS
  refine wpList_app hgd s x 31 ho B 9 i0 (.string ⟨#[]⟩) 1 16 Tryz.underlying31 hi hz0 hz1 hz2 rfl (by decide) v l.length (l.map S) hs (World.ownsRow.alloc hown _) ⟨w.heap.size, 0, none⟩ 1 1 [.string ⟨y.toArray⟩] hx rfl (cell_one_new _ _ _) (fun u hu => by simp at hu; subst hu; rfl) (by unfold maxLen; omega) (by omega) (by simp; omega) ?_
  intro v' w' own gr mv
  refine h v' w' (own_cast own (by simp) (by simp [S])) ⟨gr.os, gr.tape, gr.output, Nat.le_trans (by simp) gr.size, fun k hk hne => ?_⟩ ?_
  · rw [gr.block k (by simp; omega) hne]; exact heap_alloc_old _ _ hk
  · rcases mv with m | ⟨k, h1, h2⟩
    · exact Or.inl m
    · exact Or.inr ⟨k, h1, by simp at h2; omega⟩

/-- what Chain hands back -/
def ChainOut (w : World) (l : List Str) (e : Ending) (w' : World) : Prop := ∃ vv, e = .returned vv ∧ OwnS w' w.heap.size vv l ∧ Below w.heap.size w w'

set_option maxRecDepth 100000 in
set_option maxHeartbeats 16000000 in
theorem chain_any (w : World) (v : Value) (D : List (Str × Str)) (s : Str) (l : List Str) (h : ChRd w v D) (hD : saidOK D) (hl : ChainIs D s l) (hs : s.length ≤ maxLen) (hsz : D.length ≤ 10000000000) :
    Calls Tryz.prog 15 #[v, .string ⟨s.toArray⟩] w fun e w' => ChainOut w l e w' := by
  have PA := hid (fun W (hb : Below w.heap.size w W) (a : Str) (ha : a.length ≤ maxLen) => parent_any W v D a (h.below hb) ha)
  have NM := hid (fun W => named_any s W hs)
  simp only [NamedOut] at NM
  obtain ⟨bc, bm, n0, rfl, _, _, _⟩ := h
  rcases hl with ⟨hn, hu⟩ | ⟨hn, rfl⟩
  · rw [hn] at NM
    have hlen := up_len hD hn hu
    have HU := hid hu
    have HLEN := hid (show l.length ≤ 200000000000 by omega)
    have HNA := hid (up_named hD hn hu)
    have hl0 : 0 < l.length := List.length_pos_iff.2 (up_ne hu)
    have hh : l.take 1 = [s] := by obtain ⟨r, rfl⟩ := up_head hu; simp
    have hg : ∀ hj : 0 < l.length, l[0]'hj = s := by obtain ⟨r, rfl⟩ := up_head hu; intro _; rfl
    have HL0 := hid hl0
    have HH := hid hh
    have HG0 := hid hg
    clear hu hlen hD hsz hl0 hh hg hn
    generalize namedT s = nt at *
    go_enter Tryz.func15, Tryz.ntmps15
    go_wp2_with fail
    refine (NM.out _).mono ?_
    rintro e w1 ⟨v1, rfl, ⟨vv, kv, rfl, ⟨av, cv, rfl, _, _⟩, ⟨ak, ck, rfl, _, _⟩⟩, hb1⟩
    simp only [tagCells, S]
    have hb2 : Below w1.heap.size w1 (w1.alloc (.cells #[.string ⟨nt.lang.toArray⟩, .string ⟨nt.script.toArray⟩, .string ⟨nt.region.toArray⟩, .slice av nt.vars.length cv, .slice ak nt.keys.length ck] 53)) := (Below.refl _ _).alloc (Nat.le_refl _) _
    have HB2 := hid (hb1.then hb2)
    clear hb1 hb2
    go_upto_region 4 with (fail)
    generalize w1.alloc (.cells #[.string ⟨nt.lang.toArray⟩, .string ⟨nt.script.toArray⟩, .string ⟨nt.region.toArray⟩, .slice av nt.vars.length cv, .slice ak nt.keys.length ck] 53) = w2 at *
    have ho := fresh_own w2 [s] w.heap.size HB2.out.size (by simp)
    have HOW := hid ho
    have HB3 := hid (HB2.out.then (show Below w2.heap.size w2 (w2.alloc (.cells #[.string ⟨s.toArray⟩] 9)) from (Below.refl _ _).alloc (Nat.le_refl _) _))
    clear ho
    go_wp2_with fail
    go_loopg [1, 7] l.length (fun g va vl W => ∃ (j : Nat) (hj : j < l.length), va = .string ⟨l[j].toArray⟩ ∧ OwnS W w.heap.size vl (l.take (j + 1)) ∧ l.length ≤ j + 1 + g ∧ Below w.heap.size w W)
    case atStart => exact ⟨0, HL0.out, by rw [HG0.out HL0.out], by rw [HH.out]; simpa [S] using HOW.out, by omega, HB3.out⟩
    case round =>
      obtain ⟨j, hj, rfl, own, hg, hb⟩ := hrel
      rename World => w4
      have HOJ := hid own
      have HGJ := hid hg
      have HBJ := hid hb
      obtain ⟨a, ha⟩ : ∃ a, a = l[j]'hj := ⟨_, rfl⟩
      have HAL := hid (show a.length ≤ maxLen by rw [ha]; exact Nat.le_trans (named_len (HNA.out _ (List.getElem_mem hj))) (by decide))
      have HEND := hid (show a = tRoot → j + 1 = l.length from fun h => up_end HU.out j hj (by rw [← ha]; exact h))
      have HNXT := hid (show a ≠ tRoot → ∃ hj' : j + 1 < l.length, stepF D a = some (l[j + 1]'hj') from fun h => by rw [ha]; exact up_next HU.out j hj (by rw [← ha]; exact h))
      clear own hg hb HOW HB3 HB2
      rw [← ha]
      clear ha hj
      by_cases hr : a = tRoot
      · have hub : (a == [114, 111, 111, 116]) = true := by rw [hr]; rfl
        have hub2 : (a != [114, 111, 111, 116]) = false := by rw [hr]; rfl
        have hjl := HEND.out hr
        have hown := HOJ.out
        rw [List.take_of_length_le (by omega)] at hown
        have HOWN := hid hown
        clear hr hjl hown
        go_wp2_with fail
        go_ret
        exact ⟨_, rfl, HOWN.out, HBJ.out⟩
      · have hub : (a == [114, 111, 111, 116]) = false := by rw [beq_eq_false_iff_ne]; exact hr
        have hub2 : (a != [114, 111, 111, 116]) = true := by rw [bne_iff_ne]; exact hr
        obtain ⟨hj2, hst⟩ := HNXT.out hr
        have hpa := step_parent hst
        have htk : l.take (j + 1) ++ [l[j + 1]'hj2] = l.take (j + 1 + 1) := by rw [List.take_add_one (i := j + 1), List.getElem?_eq_getElem hj2]; rfl
        have HTK := hid htk
        obtain ⟨y, hy⟩ : ∃ y, y = l[j + 1]'hj2 := ⟨_, rfl⟩
        have HJ2 := hid hj2
        have HY := hid (show ∀ h : j + 1 < l.length, y = l[j + 1]'h from fun _ => hy)
        rw [← hy] at hpa HTK
        have HPA := hid hpa
        clear hr hst hpa htk hy hj2
        go_wp2_with fail
        refine (PA.out _ HBJ.out a HAL.out).mono ?_
        rintro e w5 ⟨rfl, hb5⟩
        rw [HPA.out]
        simp only
        have HO5 := hid (own_below HOJ.out hb5)
        have HB5 := hid (HBJ.out.then hb5)
        have hll : (l.take (j + 1)).length ≤ 1000000000000 := by rw [List.length_take]; have := HLEN.out; omega
        have HLL := hid hll
        clear hb5 hll
        go_wp2_with (at_builtin; refine wpList_pushL rfl (.tmp 29) (.tmp 31) rfl w.heap.size _ _ y rfl HO5.out rfl HLL.out HB5.out.size ?_; intro v6 w6 own6 gr6 mv6)
        have HO6 := hid own6
        have HB6 := hid (HB5.out.grown gr6 HB5.out.size (fun j hj => (World.ownsRow.lt HO5.out _ hj).1))
        clear own6 gr6 mv6
        go_wp2_with fail
        go_roundg (gk - 1)
        case measure => have := HGJ.out; have := HJ2.out; omega
        case rel => exact ⟨j + 1, HJ2.out, by rw [HY.out HJ2.out], by rw [← HTK.out]; exact HO6.out, by have := HGJ.out; have := HJ2.out; omega, HB6.out⟩
  · rw [hn] at NM
    generalize namedT s = nt at *
    go_enter Tryz.func15, Tryz.ntmps15
    go_wp2_with fail
    refine (NM.out _).mono ?_
    rintro e w1 ⟨v1, rfl, ⟨vv, kv, rfl, ⟨av, cv, rfl, _, _⟩, ⟨ak, ck, rfl, _, _⟩⟩, hb1⟩
    simp only [tagCells, S]
    go_wp2_with fail
    go_ret
    exact ⟨_, rfl, World.ownsRow_nil _ _ _ _, hb1.then ((Below.refl _ _).alloc (Nat.le_refl _) _)⟩

set_option maxRecDepth 100000 in
set_option maxHeartbeats 8000000 in
theorem above_any (w : World) (v : Value) (D : List (Str × Str)) (a s : Str) (l : List Str) (h : ChRd w v D) (hD : saidOK D) (hl : ChainIs D s l) (hs : s.length ≤ maxLen) (hsz : D.length ≤ 10000000000) :
    Calls Tryz.prog 16 #[v, .string ⟨a.toArray⟩, .string ⟨s.toArray⟩] w fun e w' => e = .returned (.bool (decide (a ∈ l))) ∧ Below w.heap.size w w' := by
  have CH := hid (chain_any w v D s l h hD hl hs hsz)
  obtain ⟨bc, bm, n0, rfl, _, _, _⟩ := h
  clear hl hD hsz hs
  go_enter Tryz.func16, Tryz.ntmps16
  go_wp2_with fail
  refine CH.out.mono ?_
  rintro e w1 ⟨vv, rfl, own, hb1⟩
  go_wp2_with fail
  refine (contains_own w1 _ _ l a own).mono ?_
  rintro e w2 ⟨rfl, rfl⟩
  go_wp2_with fail
  go_ret
  exact ⟨rfl, hb1⟩

set_option maxRecDepth 100000 in
set_option maxHeartbeats 8000000 in
theorem common_any (w : World) (v : Value) (D : List (Str × Str)) (a b : Str) (x y : List Str) (h : ChRd w v D) (hD : saidOK D) (hx : ChainIs D a x) (hy : ChainIs D b y) (ha : a.length ≤ maxLen) (hb : b.length ≤ maxLen) (hsz : D.length ≤ 10000000000) :
    Calls Tryz.prog 17 #[v, .string ⟨a.toArray⟩, .string ⟨b.toArray⟩] w fun e w' => e = .returned (.string ⟨(firstIn x y).toArray⟩) ∧ Below w.heap.size w w' := by
  have CB := hid (chain_any w v D b y h hD hy hb hsz)
  have CA := hid (fun W (hb2 : Below w.heap.size w W) => chain_any W v D a x (h.below hb2) hD hx ha hsz)
  obtain ⟨bc, bm, n0, rfl, _, _, _⟩ := h
  clear hx hy hD hsz ha hb
  go_enter Tryz.func17, Tryz.ntmps17
  go_wp2_with fail
  refine CB.out.mono ?_
  rintro e w1 ⟨vy, rfl, ownY, hb1⟩
  have HY1 := hid ownY
  have HB1 := hid hb1
  clear ownY CB
  go_wp2_with fail
  refine (CA.out _ hb1).mono ?_
  rintro e w2 ⟨vx, rfl, ownX, hb2⟩
  have HY2 := hid (own_below HY1.out hb2)
  have HX2 := hid ownX.rd
  have HB2 := hid (HB1.out.then hb2)
  obtain ⟨xv, xc, rfl⟩ := own_sliceS ownX
  obtain ⟨yv, yc, rfl⟩ := own_sliceS HY2.out
  clear ownX hb1 hb2 CA HY1 HB1
  have hfx : x.length ≤ 9223372036854775807 := by obtain ⟨ao, cp, _, hl, _⟩ := HX2.out; exact hl.1
  go_wp2_with fail
  go_loopg [17] x.length (fun g vi W => ∃ n : Nat, n ≤ x.length ∧ x.length ≤ n + g ∧ vi = .int .i64 n ∧ (∀ t ∈ x.take n, t ∉ y) ∧ W = w2)
  case atStart => exact ⟨0, Nat.zero_le _, by omega, rfl, by simp, rfl⟩
  case round =>
    obtain ⟨n, hn, hg, rfl, hno, rfl⟩ := hrel
    have HG := hid hg
    have HNO := hid hno
    clear hg hno
    by_cases hlt : n < x.length
    · have hne : x ≠ [] := by intro e; rw [e] at hlt; simp at hlt
      obtain ⟨ao, cp, hv, _, hr⟩ := HX2.out
      injection hv with e1 e2 e3
      subst e1 e3
      obtain ⟨p1, o1, rfl, hp1, hc1⟩ := hr hne
      have q1 := hc1 n _ (List.getElem?_eq_getElem hlt)
      obtain ⟨t, ht⟩ : ∃ t, t = x[n] := ⟨_, rfl⟩
      rw [← ht, S] at q1
      have HT := hid ht
      have hni : (n : Int) < (x.length : Int) := by omega
      have hn0 : (0 : Int) ≤ (n : Int) := by omega
      clear hc1 hr hne ht
      go_wp2_with fail
      refine (contains_own _ _ _ y t HY2.out).mono ?_
      rintro e w3 ⟨rfl, rfl⟩
      by_cases hm : t ∈ y
      · have hub : y.contains t = true := by simpa using hm
        rw [hub]
        have hfi : firstIn x y = t := by
          have hsplit : x = x.take n ++ t :: x.drop (n + 1) := by
            conv => lhs; rw [← List.take_append_drop n x, List.drop_eq_getElem_cons hlt]
            rw [HT.out]
          unfold firstIn
          rw [hsplit, List.find?_append, List.find?_eq_none.2 (by intro u hu; simpa using HNO.out u hu)]
          simp [hm]
        have HFI := hid hfi
        clear hm hfi
        go_wp2_with fail
        go_ret
        exact ⟨by rw [HFI.out]; rfl, HB2.out⟩
      · have hub : y.contains t = false := by simpa using hm
        rw [hub]
        have HM := hid hm
        clear hm
        go_wp2_with fail
        go_roundg (gk - 1)
        case measure => have := HG.out; omega
        case rel => exact ⟨n + 1, by omega, by have := HG.out; omega, by simp, (fun u hu => by
          rw [List.take_add_one, List.getElem?_eq_getElem hlt, ← HT.out] at hu
          rcases List.mem_append.1 hu with hu | hu
          · exact HNO.out u hu
          · simp at hu; subst hu; exact HM.out), rfl⟩
    · have hfi : firstIn x y = [] := by
        unfold firstIn
        have hall := HNO.out
        rw [List.take_of_length_le (by omega)] at hall
        rw [List.find?_eq_none.2 (by intro u hu; simpa using hall u hu)]
        rfl
      have HFI := hid hfi
      clear hfi
      go_wp2_with fail
      go_ret
      exact ⟨by rw [HFI.out]; rfl, HB2.out⟩
end Go.Proofs.YtffaoejahnildaaGreat

/- The contract of chain.New. -/
set_option linter.unusedVariables false
set_option linter.unusedSimpArgs false
namespace Go.Proofs.YtffaoejahnildaaGreat
open Go.RowKit Go.Lib Go.Sort Go.Maps

/-- what New hands back -/
def NewRes (w : World) (l : List (Str × Str)) (e : Ending) (w' : World) : Prop :=
  ∃ (er i : Nat) (vc : Value), e = .returned (.tuple #[vc, .agg #[.int .i64 er, .int .i64 i]]) ∧ NewOut l er i ∧ (er = 0 → ChRd w' vc l) ∧ (er ≠ 0 → vc = .pointer none) ∧ Below w.heap.size w w'
/-- a fault's box, stored -/
def F2 (w : World) (B e i : Nat) : World := (w.setCell ⟨B, 0, none⟩ (.int .i64 e)).setCell ⟨B, 1, none⟩ (.int .i64 i)
/-- the state of New: n pairs are said -/
structure NewSt (w : World) (l : List (Str × Str)) (W : World) (n : Nat) : Prop where
  bad : badAt [] l = badAt (l.take n) (l.drop n)
  own : OwnM W (w.heap.size + 1) n (l.take n)
  f : W.heap[w.heap.size]? = some (.cells #[.int .i64 0, .int .i64 0] 26 (0, 0))
  c : W.heap[w.heap.size + 1 + 1]? = some (.cells #[.map (some (w.heap.size + 1))] 51 (0, 0))
  bel : Below w.heap.size w W
theorem NewSt.below {w W W' : World} {l : List (Str × Str)} {n : Nat} (h : NewSt w l W n) (hb : Below W.heap.size W W') : NewSt w l W' n :=
  ⟨h.bad, h.own.below hb, (hb.block _ (lt_of_block h.f)).trans h.f, (hb.block _ (lt_of_block h.c)).trans h.c, h.bel.then hb⟩
theorem NewSt.step {w W W' : World} {l : List (Str × Str)} {n : Nat} (h : NewSt w l W n) (hn : n < l.length) (h1 : (namedB l[n].1 = true ∧ namedB l[n].2 = true) ∧ l[n].1 ≠ tRoot) (h2 : look (l.take n) l[n].1 = none)
    (own : OwnM W' (w.heap.size + 1) (n + 1) (l.take n ++ [(l[n].1, l[n].2)])) (hg : W.grownBy W' (some (w.heap.size + 1))) : NewSt w l W' (n + 1) := by
  have hf := lt_of_block h.f
  have hc := lt_of_block h.c
  refine ⟨?_, ?_, (hg.block _ hf (by simp)).trans h.f, (hg.block _ hc (by simp)).trans h.c, h.bel.grown hg h.bel.size (fun j hj => by cases hj; omega)⟩
  · rw [h.bad, bad_step hn, if_pos h1, if_pos h2]
  · rw [List.take_add_one, List.getElem?_eq_getElem hn]; exact own
theorem new_bad2 {l : List (Str × Str)} {n : Nat} (hb : badAt [] l = badAt (l.take n) (l.drop n)) (hn : n < l.length) (h1 : ¬ ((namedB l[n].1 = true ∧ namedB l[n].2 = true) ∧ l[n].1 ≠ tRoot)) : NewOut l 2 n :=
  Or.inl (by rw [hb, bad_step hn, if_neg h1])
theorem new_bad211 {l : List (Str × Str)} {n : Nat} {y : Str} (hb : badAt [] l = badAt (l.take n) (l.drop n)) (hn : n < l.length) (h1 : (namedB l[n].1 = true ∧ namedB l[n].2 = true) ∧ l[n].1 ≠ tRoot) (h2 : look (l.take n) l[n].1 = some y) : NewOut l 211 n :=
  Or.inl (by rw [hb, bad_step hn, if_pos h1, if_neg (by rw [h2]; simp)])
theorem F2_row {w : World} {B : Nat} (e i : Nat) (h : w.heap[B]? = some (.cells #[.int .i64 0, .int .i64 0] 26 (0, 0))) : (F2 w B e i).heap[B]? = some (.cells #[.int .i64 e, .int .i64 i] 26 (0, 0)) := by
  unfold F2
  rw [heap_setCell_same _ _ _ _ _ _ (heap_setCell_same _ _ _ _ _ _ h)]
  simp
theorem F2_other {w : World} {B b : Nat} (e i : Nat) (h : b ≠ B) : (F2 w B e i).heap[b]? = w.heap[b]? := by
  unfold F2
  rw [heap_setCell_other _ _ _ _ h, heap_setCell_other _ _ _ _ h]
theorem F2_below {w w0 : World} {B : Nat} (e i : Nat) (h : Below B w0 w) : Below B w0 (F2 w B e i) := (h.setCell (Nat.le_refl _) _).setCell (Nat.le_refl _) _

/-- New's way out -/
theorem new_ret {w W : World} {l : List (Str × Str)} (er i : Nat) (vc : Value) (hf : W.heap[w.heap.size]? = some (.cells #[.int .i64 0, .int .i64 0] 26 (0, 0))) (hb : Below w.heap.size w W) (ho : NewOut l er i)
    (h0 : er = 0 → ChRd (F2 W w.heap.size er i) vc l) (h1 : er ≠ 0 → vc = .pointer none) {a : Act} (hd : a.defers = []) (h2 : a.tmps.getD 2 undef = vc) (h3 : a.tmps.getD 3 undef = .pointer (some ⟨w.heap.size, 0, none⟩)) :
    bodyPost Tryz.prog Tryz.f8 (fun e w' => NewRes w l e w') Exit.ret a (F2 W w.heap.size er i) := by
  have hr := F2_row er i hf
  have hbb := F2_below er i hb
  generalize F2 W w.heap.size er i = V at *
  have e0 : V.cell? ⟨w.heap.size, 0, none⟩ = some (.int .i64 er) := by rw [cell_of_row _ _ _ _ _ _ hr]; rfl
  have e1 : V.cell? ⟨w.heap.size, 1, none⟩ = some (.int .i64 i) := by rw [cell_of_row _ _ _ _ _ _ hr]; rfl
  refine bodyPost_ret (v := .tuple #[vc, .agg #[.int .i64 er, .int .i64 i]]) ?_ hd ⟨er, i, vc, rfl, ho, h0, h1, hbb⟩
  obtain ⟨tmps, defers⟩ := a
  simp only [Array.getD_eq_getD_getElem?] at h2 h3
  simp [results, Tryz.results8, go_sem, h2, h3, e0, e1]

theorem NewSt.start (w : World) (l : List (Str × Str)) : NewSt w l (((w.alloc (.cells #[.int .i64 0, .int .i64 0] 26)).alloc (.map #[] 0)).alloc (.cells #[.map (some (w.heap.size + 1))] 51)) 0 := by
  have s1 : (w.alloc (.cells #[.int .i64 0, .int .i64 0] 26)).heap.size = w.heap.size + 1 := by simp
  have s2 : ((w.alloc (.cells #[.int .i64 0, .int .i64 0] 26)).alloc (.map #[] 0)).heap.size = w.heap.size + 1 + 1 := by simp
  refine ⟨by simp, ?_, ?_, ?_, ?_⟩
  · have := OwnM.made (w.alloc (.cells #[.int .i64 0, .int .i64 0] 26))
    rw [s1] at this
    exact this.block (heap_alloc_old _ _ (by rw [s2]; omega))
  · exact (heap_alloc_old _ _ (by rw [s2]; omega)).trans ((heap_alloc_old _ _ (by rw [s1]; omega)).trans (heap_alloc_new w _))
  · have := heap_alloc_new ((w.alloc (.cells #[.int .i64 0, .int .i64 0] 26)).alloc (.map #[] 0)) (.cells #[.map (some (w.heap.size + 1))] 51)
    rw [s2] at this
    exact this
  · exact (((Below.refl _ _).alloc (Nat.le_refl _) _).alloc (by rw [s1]; omega) _).alloc (by rw [s2]; omega) _

theorem NewSt.chRd {w W : World} {l : List (Str × Str)} (h : NewSt w l W l.length) : ChRd W (.pointer (some ⟨w.heap.size + 1 + 1, 0, none⟩)) l :=
  ⟨_, w.heap.size + 1, l.length, rfl, lt_of_block h.c, by rw [cell_of_row _ _ _ _ _ _ h.c]; rfl, by have := h.own; rw [List.take_length] at this; exact this⟩
theorem NewSt.okB {w W : World} {l : List (Str × Str)} (h : NewSt w l W l.length) : badAt [] l = none := by
  have := h.bad
  rw [List.take_length, List.drop_length] at this
  rw [this]; rfl
theorem NewSt.done {w W : World} {l : List (Str × Str)} (h : NewSt w l W l.length) : ChRd (F2 W w.heap.size 0 0) (.pointer (some ⟨w.heap.size + 1 + 1, 0, none⟩)) l := by
  have e1 : (F2 W w.heap.size 0 0).heap[w.heap.size + 1 + 1]? = W.heap[w.heap.size + 1 + 1]? := F2_other 0 0 (by omega)
  have hc := e1.trans h.c
  refine ⟨_, w.heap.size + 1, l.length, rfl, lt_of_block hc, by rw [cell_of_row _ _ _ _ _ _ hc]; rfl, ?_⟩
  have := h.own.block (w' := F2 W w.heap.size 0 0) (F2_other 0 0 (by omega))
  rw [List.take_length] at this
  exact this

set_option maxRecDepth 100000 in
set_option maxHeartbeats 16000000 in
theorem new_any (w : World) (va : Value) (l : List (Str × Str)) (hl : RdP w va l) (hp : PSz l) (hsz : l.length ≤ 10000000000) :
    Calls Tryz.prog 8 #[va] w fun e w' => NewRes w l e w' := by
  have hmm := @run_makeMap Tryz.prog
  obtain ⟨ao, cp, rfl, hlen, hcell⟩ := hl
  have HCELL := hid hcell
  have HP := hid hp
  have HSZ := hid hsz
  have NM := hid (fun W (s : Str) (hs : s.length ≤ maxLen) => named_any s W hs)
  simp only [NamedOut] at NM
  have ST0 := hid (NewSt.start w l)
  clear hcell hp hsz
  go_enter Tryz.func8, Tryz.ntmps8
  go_upto_region 2 with (fail)
  generalize (((w.alloc (.cells #[.int .i64 0, .int .i64 0] 26)).alloc (.map #[] 0)).alloc (.cells #[.map (some (w.heap.size + 1))] 51)) = w0 at *
  go_wp2_with fail
  go_loopg [20] l.length (fun g vi W => ∃ n : Nat, n ≤ l.length ∧ l.length ≤ n + g ∧ vi = .int .i64 n ∧ NewSt w l W n)
  case atStart => exact ⟨0, Nat.zero_le _, by omega, rfl, ST0.out⟩
  case round =>
    obtain ⟨n, hn, hg, rfl, st⟩ := hrel
    rename World => w1
    have HG := hid hg
    have ST1 := hid st
    clear st ST0 hg
    by_cases hlt : n < l.length
    · have hne : l ≠ [] := by intro e; rw [e] at hlt; simp at hlt
      obtain ⟨p1, o1, rfl, hp1, hc1⟩ := HCELL.out hne
      have hps := HP.out _ (List.getElem_mem hlt)
      obtain ⟨kv, hkv⟩ : ∃ kv, kv = l[n]'hlt := ⟨_, rfl⟩
      obtain ⟨k, v⟩ := kv
      have hk : (l[n]'hlt).1 = k := by rw [← hkv]
      have hv : (l[n]'hlt).2 = v := by rw [← hkv]
      have q1 := (ST1.out.bel.cell (p := ⟨p1, o1 + n * 2 + 0, none⟩) hp1).trans (hc1 n 0 (S k) hlt (by rw [← hkv]; rfl))
      have q2 := (ST1.out.bel.cell (p := ⟨p1, o1 + n * 2 + 1, none⟩) hp1).trans (hc1 n 1 (S v) hlt (by rw [← hkv]; rfl))
      rw [S] at q1 q2
      rw [Nat.add_zero] at q1
      have hkl : k.length ≤ maxLen := by rw [← hk]; exact hps.1
      have hvl : v.length ≤ maxLen := by rw [← hv]; exact hps.2
      have HK := hid hk
      have HV := hid hv
      have hni : (n : Int) < (l.length : Int) := by omega
      have hn0 : (0 : Int) ≤ (n : Int) := by omega
      clear hk hv hkv hc1 hps hne
      go_upto_region 5 with (fail)
      have HPB := hid (heap_alloc_new w1 (.cells #[.string ⟨k.toArray⟩, .string ⟨v.toArray⟩] 44))
      have HB2 := hid (show Below w1.heap.size w1 (w1.alloc (.cells #[.string ⟨k.toArray⟩, .string ⟨v.toArray⟩] 44)) from (Below.refl _ _).alloc (Nat.le_refl _) _)
      generalize w1.alloc (.cells #[.string ⟨k.toArray⟩, .string ⟨v.toArray⟩] 44) = w2 at *
      have ST2 := hid (ST1.out.below HB2.out)
      clear q1 q2 HB2
      have c0 : w2.cell? ⟨w1.heap.size, 0, none⟩ = some (.string ⟨k.toArray⟩) := by rw [cell_of_row _ _ _ _ _ _ HPB.out]; rfl
      have lt0 := lt_of_block HPB.out
      go_wp2_with fail
      refine (NM.out _ k hkl).mono ?_
      rintro e w3 ⟨v3, rfl, ⟨vv3, kv3, rfl, ⟨a3, b3, rfl, _, _⟩, ⟨a4, b4, rfl, _, _⟩⟩, hb3⟩
      generalize namedT k = t3 at *
      simp only [tagCells, S]
      clear c0 lt0
      have HPB3 := hid ((hb3.block _ (lt_of_block HPB.out)).trans HPB.out)
      have ST3 := hid (ST2.out.below hb3)
      clear hb3 HPB ST2
      go_upto_region 6 with (fail)
      have HB4 := hid (show Below w3.heap.size w3 (w3.alloc (.cells #[.string ⟨t3.lang.toArray⟩, .string ⟨t3.script.toArray⟩, .string ⟨t3.region.toArray⟩, .slice a3 t3.vars.length b3, .slice a4 t3.keys.length b4] 53)) from (Below.refl _ _).alloc (Nat.le_refl _) _)
      generalize w3.alloc (.cells #[.string ⟨t3.lang.toArray⟩, .string ⟨t3.script.toArray⟩, .string ⟨t3.region.toArray⟩, .slice a3 t3.vars.length b3, .slice a4 t3.keys.length b4] 53) = w4 at *
      have HPB4 := hid ((HB4.out.block _ (lt_of_block HPB3.out)).trans HPB3.out)
      have ST4 := hid (ST3.out.below HB4.out)
      clear HB4 HPB3 ST3
      have c1 : w4.cell? ⟨w1.heap.size, 1, none⟩ = some (.string ⟨v.toArray⟩) := by rw [cell_of_row _ _ _ _ _ _ HPB4.out]; rfl
      have lt1 := lt_of_block HPB4.out
      go_wp2_with fail
      refine (NM.out _ v hvl).mono ?_
      rintro e w5 ⟨v5, rfl, ⟨vv5, kv5, rfl, ⟨a5, b5, rfl, _, _⟩, ⟨a6, b6, rfl, _, _⟩⟩, hb5⟩
      generalize namedT v = t5 at *
      simp only [tagCells, S]
      clear c1 lt1
      have HPB5 := hid ((hb5.block _ (lt_of_block HPB4.out)).trans HPB4.out)
      have ST5 := hid (ST4.out.below hb5)
      clear hb5 HPB4 ST4
      go_upto_region 7 with (fail)
      have HB6 := hid (show Below w5.heap.size w5 (w5.alloc (.cells #[.string ⟨t5.lang.toArray⟩, .string ⟨t5.script.toArray⟩, .string ⟨t5.region.toArray⟩, .slice a5 t5.vars.length b5, .slice a6 t5.keys.length b6] 53)) from (Below.refl _ _).alloc (Nat.le_refl _) _)
      generalize w5.alloc (.cells #[.string ⟨t5.lang.toArray⟩, .string ⟨t5.script.toArray⟩, .string ⟨t5.region.toArray⟩, .slice a5 t5.vars.length b5, .slice a6 t5.keys.length b6] 53) = w6 at *
      have HPB6 := hid ((HB6.out.block _ (lt_of_block HPB5.out)).trans HPB5.out)
      have ST6 := hid (ST5.out.below HB6.out)
      clear HB6 HPB5 ST5
      have d0 : w6.cell? ⟨w1.heap.size, 0, none⟩ = some (.string ⟨k.toArray⟩) := by rw [cell_of_row _ _ _ _ _ _ HPB6.out]; rfl
      have d1 : w6.cell? ⟨w1.heap.size, 1, none⟩ = some (.string ⟨v.toArray⟩) := by rw [cell_of_row _ _ _ _ _ _ HPB6.out]; rfl
      have ltd := lt_of_block HPB6.out
      have y0 : w6.cell? ⟨w.heap.size, 0, none⟩ = some (.int .i64 0) := by rw [cell_of_row _ _ _ _ _ _ ST6.out.f]; rfl
      have y1 : w6.cell? ⟨w.heap.size, 1, none⟩ = some (.int .i64 0) := by rw [cell_of_row _ _ _ _ _ _ ST6.out.f]; rfl
      have fy0 := frozen_of_row w6 w.heap.size 0 _ _ ST6.out.f
      have fy1 := frozen_of_row w6 w.heap.size 1 _ _ ST6.out.f
      have lty := lt_of_block ST6.out.f
      have cc : w6.cell? ⟨w.heap.size + 1 + 1, 0, none⟩ = some (.map (some (w.heap.size + 1))) := by rw [cell_of_row _ _ _ _ _ _ ST6.out.c]; rfl
      have ltc := lt_of_block ST6.out.c
      by_cases hgood : (namedB k = true ∧ namedB v = true) ∧ k ≠ tRoot
      · obtain ⟨⟨g1, g2⟩, g3⟩ := hgood
        have hub : (k == [114, 111, 111, 116]) = false := by rw [beq_eq_false_iff_ne]; exact g3
        have hub2 : (k != [114, 111, 111, 116]) = true := by rw [bne_iff_ne]; exact g3
        have HGOOD := hid (show (namedB (l[n]'hlt).1 = true ∧ namedB (l[n]'hlt).2 = true) ∧ (l[n]'hlt).1 ≠ tRoot by rw [HK.out, HV.out]; exact ⟨⟨g1, g2⟩, g3⟩)
        rw [g1, g2]
        clear g1 g2 g3
        have LK := ST6.out.own.look_run k hkl
        have LKd : ∀ m, (Instr.lookup 49 (.map (some (w.heap.size + 1))) (.string ⟨k.toArray⟩) true).run Tryz.prog (w6.drewN m) = .ok (.tuple #[.string ⟨((look (l.take n) k).getD []).toArray⟩, .bool (look (l.take n) k).isSome]) (w6.drewN m) := fun m => (show OwnM (w6.drewN m) (w.heap.size + 1) n (l.take n) from ST6.out.own.block rfl).look_run k hkl
        cases hlk : look (l.take n) k with
        | some y =>
          rw [hlk] at LK LKd
          simp only [Option.getD_some, Option.isSome_some] at LK LKd
          have HLK := hid hlk
          clear hlk
          go_wp2_with fail
          go_quiet (fail)
          go_wp2_with fail
          change bodyPost _ _ _ _ _ (F2 (w6.drewN _) w.heap.size 211 n)
          exact new_ret (W := w6.drewN nq) 211 n (.pointer none) ST6.out.f (below_drewN ST6.out.bel _) (new_bad211 ST6.out.bad hlt HGOOD.out (by rw [HK.out]; exact HLK.out)) (fun h => by cases h) (fun _ => rfl) rfl rfl rfl
        | none =>
          rw [hlk] at LK LKd
          simp only [Option.getD_none, Option.isSome_none] at LK LKd
          have HLK := hid hlk
          clear hlk
          go_wp2_with fail
          go_quiet (fail)
          go_wp2_with fail
          have HB7 := hid (show Below w6.heap.size w6 (w6.drewN nq) from below_drewN (Below.refl _ _) nq)
          clear LK LKd d0 d1 ltd y0 y1 fy0 fy1 lty cc ltc
          generalize w6.drewN nq = w7 at *
          have HPB7 := hid ((HB7.out.block _ (lt_of_block HPB6.out)).trans HPB6.out)
          have ST7 := hid (ST6.out.below HB7.out)
          clear HB7 HPB6 ST6
          have d0 : w7.cell? ⟨w1.heap.size, 0, none⟩ = some (.string ⟨k.toArray⟩) := by rw [cell_of_row _ _ _ _ _ _ HPB7.out]; rfl
          have d1 : w7.cell? ⟨w1.heap.size, 1, none⟩ = some (.string ⟨v.toArray⟩) := by rw [cell_of_row _ _ _ _ _ _ HPB7.out]; rfl
          have ltd := lt_of_block HPB7.out
          have cc : w7.cell? ⟨w.heap.size + 1 + 1, 0, none⟩ = some (.map (some (w.heap.size + 1))) := by rw [cell_of_row _ _ _ _ _ _ ST7.out.c]; rfl
          have ltc := lt_of_block ST7.out.c
          obtain ⟨w8, hrun, hown8, hgr8⟩ := (show OwnM w7.drew (w.heap.size + 1) n (l.take n) from ST7.out.own).say_run (by have := HSZ.out; unfold maxLen; omega) k v hkl hvl HLK.out
          have HO8 := hid hown8
          have HG8 := hid hgr8
          clear hown8 hgr8
          go_region
          all_goals go_wp2_with fail
          all_goals go_roundg (gk - 1)
          all_goals first
            | (have := HG.out; omega)
            | exact ⟨n + 1, by omega, by have := HG.out; omega, by simp, NewSt.step (W := w7.drew) (show NewSt w l w7.drew n from ⟨ST7.out.bad, ST7.out.own, ST7.out.f, ST7.out.c, ST7.out.bel.drew⟩) hlt HGOOD.out (by rw [HK.out]; exact HLK.out) (by rw [HK.out, HV.out]; exact HO8.out) HG8.out⟩
      · have HBAD := hid (show ¬ ((namedB (l[n]'hlt).1 = true ∧ namedB (l[n]'hlt).2 = true) ∧ (l[n]'hlt).1 ≠ tRoot) by rw [HK.out, HV.out]; exact hgood)
        have hout := hid (new_bad2 ST6.out.bad hlt HBAD.out)
        cases hn1 : namedB k with
        | false =>
          clear hgood
          go_wp2_with fail
          change bodyPost _ _ _ _ _ (F2 w6 w.heap.size 2 n)
          exact new_ret 2 n (.pointer none) ST6.out.f ST6.out.bel hout.out (fun h => by cases h) (fun _ => rfl) rfl rfl rfl
        | true =>
          cases hn2 : namedB v with
          | false =>
            clear hgood
            go_wp2_with fail
            change bodyPost _ _ _ _ _ (F2 w6 w.heap.size 2 n)
            exact new_ret 2 n (.pointer none) ST6.out.f ST6.out.bel hout.out (fun h => by cases h) (fun _ => rfl) rfl rfl rfl
          | true =>
            have hkr : k = tRoot := by
              apply Classical.byContradiction
              intro hc
              exact hgood ⟨⟨hn1, hn2⟩, hc⟩
            have hub : (k == [114, 111, 111, 116]) = true := by rw [hkr]; rfl
            have hub2 : (k != [114, 111, 111, 116]) = false := by rw [hkr]; rfl
            clear hgood hkr
            go_wp2_with fail
            change bodyPost _ _ _ _ _ (F2 w6 w.heap.size 2 n)
            exact new_ret 2 n (.pointer none) ST6.out.f ST6.out.bel hout.out (fun h => by cases h) (fun _ => rfl) rfl rfl rfl
    · have hnl : n = l.length := by omega
      subst hnl
      have HNB := hid ST1.out.okB
      have HSA := hid (bad_none (done := []) HNB.out (fun p hp => by cases hp))
      have RI := hid (fun W (k : Str) (hst : NewSt w l W l.length) (hk : namedB k = true) => rings_any W _ l k hst.chRd HSA.out hk (by have := HSZ.out; omega))
      go_wp2_with fail
      go_loopg [74] l.length (fun g vi W => ∃ m : Nat, m ≤ l.length ∧ l.length ≤ m + g ∧ vi = .int .i64 m ∧ NewSt w l W l.length ∧ ∀ j p, j < m → l[j]? = some p → ¬ ringP l p.1)
      case atStart => exact ⟨0, Nat.zero_le _, by omega, rfl, ST1.out, fun j p hj => by omega⟩
      case round =>
        obtain ⟨m, hm, hg2, rfl, st, hno⟩ := hrel
        rename World => w2
        have HG2 := hid hg2
        have ST2 := hid st
        have HNO := hid hno
        clear st hg2 hno ST1
        by_cases hlt2 : m < l.length
        · have hne : l ≠ [] := by intro e; rw [e] at hlt2; simp at hlt2
          obtain ⟨p1, o1, rfl, hp1, hc1⟩ := HCELL.out hne
          obtain ⟨kv, hkv⟩ : ∃ kv, kv = l[m]'hlt2 := ⟨_, rfl⟩
          obtain ⟨k, v⟩ := kv
          have hk : (l[m]'hlt2).1 = k := by rw [← hkv]
          have q1 := (ST2.out.bel.cell (p := ⟨p1, o1 + m * 2 + 0, none⟩) hp1).trans (hc1 m 0 (S k) hlt2 (by rw [← hkv]; rfl))
          have q2 := (ST2.out.bel.cell (p := ⟨p1, o1 + m * 2 + 1, none⟩) hp1).trans (hc1 m 1 (S v) hlt2 (by rw [← hkv]; rfl))
          rw [S] at q1 q2
          rw [Nat.add_zero] at q1
          have HKN := hid (show namedB k = true by rw [← hk]; exact (HSA.out _ (List.getElem_mem hlt2)).1)
          have HKV := hid (show l[m]? = some (k, v) by rw [List.getElem?_eq_getElem hlt2, hkv])
          have hni : (m : Int) < (l.length : Int) := by omega
          have hn0 : (0 : Int) ≤ (m : Int) := by omega
          clear hk hkv hc1 hne
          go_upto_region 17 with (fail)
          have HPB := hid (heap_alloc_new w2 (.cells #[.string ⟨k.toArray⟩, .string ⟨v.toArray⟩] 44))
          have HB3 := hid (show Below w2.heap.size w2 (w2.alloc (.cells #[.string ⟨k.toArray⟩, .string ⟨v.toArray⟩] 44)) from (Below.refl _ _).alloc (Nat.le_refl _) _)
          generalize w2.alloc (.cells #[.string ⟨k.toArray⟩, .string ⟨v.toArray⟩] 44) = w3 at *
          have ST3 := hid (ST2.out.below HB3.out)
          clear q1 q2 HB3
          have c0 : w3.cell? ⟨w2.heap.size, 0, none⟩ = some (.string ⟨k.toArray⟩) := by rw [cell_of_row _ _ _ _ _ _ HPB.out]; rfl
          have lt0 := lt_of_block HPB.out
          go_wp2_with fail
          refine (RI.out _ k ST3.out HKN.out).mono ?_
          rintro e w4 ⟨⟨b, rfl, hb⟩, hb4⟩
          have HRB := hid hb
          have ST4 := hid (ST3.out.below hb4)
          clear hb hb4 c0 lt0 HPB
          have y0 : w4.cell? ⟨w.heap.size, 0, none⟩ = some (.int .i64 0) := by rw [cell_of_row _ _ _ _ _ _ ST4.out.f]; rfl
          have y1 : w4.cell? ⟨w.heap.size, 1, none⟩ = some (.int .i64 0) := by rw [cell_of_row _ _ _ _ _ _ ST4.out.f]; rfl
          have fy0 := frozen_of_row w4 w.heap.size 0 _ _ ST4.out.f
          have fy1 := frozen_of_row w4 w.heap.size 1 _ _ ST4.out.f
          have lty := lt_of_block ST4.out.f
          cases b with
          | true =>
            have HOUT := hid (show NewOut l 210 m from Or.inr (Or.inl ⟨HNB.out, rfl, ⟨(k, v), HKV.out, HRB.out.1 rfl⟩, HNO.out⟩))
            go_wp2_with fail
            change bodyPost _ _ _ _ _ (F2 w4 w.heap.size 210 m)
            exact new_ret 210 m (.pointer none) ST4.out.f ST4.out.bel HOUT.out (fun h => by cases h) (fun _ => rfl) rfl rfl rfl
          | false =>
            have HNR := hid (show ¬ ringP l k from fun h => by have := HRB.out.2 h; cases this)
            clear y0 y1 fy0 fy1 lty
            go_wp2_with fail
            go_roundg (gk - 1)
            case measure => have := HG2.out; omega
            case rel => exact ⟨m + 1, by omega, by have := HG2.out; omega, by simp, ST4.out, fun j p hj hp => by
              by_cases he : j = m
              · subst he; rw [HKV.out] at hp; cases hp; exact HNR.out
              · exact HNO.out j p (by omega) hp⟩
        · have hml : m = l.length := by omega
          have HOUT := hid (show NewOut l 0 0 from Or.inr (Or.inr ⟨HNB.out, rfl, rfl, fun p hp => by
            obtain ⟨j, hj, rfl⟩ := List.getElem_of_mem hp
            exact HNO.out j _ (by omega) (List.getElem?_eq_getElem hj)⟩))
          have y0 : w2.cell? ⟨w.heap.size, 0, none⟩ = some (.int .i64 0) := by rw [cell_of_row _ _ _ _ _ _ ST2.out.f]; rfl
          have y1 : w2.cell? ⟨w.heap.size, 1, none⟩ = some (.int .i64 0) := by rw [cell_of_row _ _ _ _ _ _ ST2.out.f]; rfl
          have fy0 := frozen_of_row w2 w.heap.size 0 _ _ ST2.out.f
          have fy1 := frozen_of_row w2 w.heap.size 1 _ _ ST2.out.f
          have lty := lt_of_block ST2.out.f
          clear hml
          go_wp2_with fail
          change bodyPost _ _ _ _ _ (F2 w2 w.heap.size 0 0)
          exact new_ret 0 0 (.pointer (some ⟨w.heap.size + 1 + 1, 0, none⟩)) ST2.out.f ST2.out.bel HOUT.out (fun _ => ST2.out.done) (fun h => absurd rfl h) rfl rfl rfl
end Go.Proofs.YtffaoejahnildaaGreat

/- The contract of the law's same, where the two lists are the same. -/
set_option linter.unusedVariables false
set_option linter.unusedSimpArgs false
namespace Go.Proofs.YtffaoejahnildaaGreat
open Go.RowKit Go.Lib Go.Sort

set_option maxRecDepth 100000 in
set_option maxHeartbeats 8000000 in
theorem lsame_any (w : World) (va vb : Value) (l : List Str) (ha : RdS w va l) (hb : RdS w vb l) :
    Calls Tryz.prog 14 #[va, vb] w fun e w' => e = .returned (.bool true) ∧ Below w.heap.size w w' := by
  obtain ⟨av, cv, rfl, hav, hsa⟩ := ha
  obtain ⟨bv, dv, rfl, hbv, hsb⟩ := hb
  have HSA := hid hsa
  have HSB := hid hsb
  clear hsa hsb
  go_enter Tryz.func14, Tryz.ntmps14
  go_wp2_with fail
  go_loopg [13] l.length (fun g vi W => ∃ n : Nat, n ≤ l.length ∧ l.length ≤ n + g ∧ vi = .int .i64 n ∧ ∃ k : Nat, W = w.drewN k)
  case atStart => exact ⟨0, Nat.zero_le _, by omega, rfl, 0, rfl⟩
  case round =>
    obtain ⟨n, hn, hg, rfl, nq1, rfl⟩ := hrel
    have HG := hid hg
    clear hg
    by_cases hlt : n < l.length
    · have hne : l ≠ [] := by intro e; rw [e] at hlt; simp at hlt
      obtain ⟨p1, o1, rfl, hp1, hc1⟩ := HSA.out hne
      obtain ⟨p2, o2, rfl, hp2, hc2⟩ := HSB.out hne
      have q1 := hc1 n _ (List.getElem?_eq_getElem hlt)
      have q2 := hc2 n _ (List.getElem?_eq_getElem hlt)
      obtain ⟨x, hx⟩ : ∃ x, x = l[n] := ⟨_, rfl⟩
      rw [← hx, S] at q1 q2
      clear hc1 hc2 hx hne
      have hni : (n : Int) < (l.length : Int) := by omega
      have hn0 : (0 : Int) ≤ (n : Int) := by omega
      have hb1 : (x == x) = true := by simp
      have hb2 : (x != x) = false := by simp
      go_wp2_with fail
      go_quiet (fail)
      go_wp2_with fail
      go_roundg (gk - 1)
      case measure => have := HG.out; omega
      case rel => exact ⟨n + 1, by omega, by have := HG.out; omega, by simp, _, rfl⟩
    · go_wp2_with fail
      go_ret
      exact ⟨rfl, below_drewN (Below.refl _ _) _⟩
end Go.Proofs.YtffaoejahnildaaGreat

/- The law's wakes, and the copy of a list of pairs. -/
set_option linter.unusedVariables false
set_option linter.unusedSimpArgs false
namespace Go.Proofs.YtffaoejahnildaaGreat
open Go.RowKit Go.Lib Go.Sort Go.Maps

/-- pairs of a slice that can be read, at the end of a list that the call owns -/
theorem wpList_appP {w : World} {ops : Array Oper} {rest : List Oper} {o : Oper} {a : Act} {Q : Exit → Act → World → Prop} (hgd : o.guard = none) (s x : Operand)
    (ho : o.op = .call { callee := .builtin .append, args := #[s, x], argTypes := #[22, 22] })
    (B : Nat) (v vx : Value) (l m : List (Str × Str)) (hs : a.eval s = v) (hown : OwnP w B v l) (hx : a.eval x = vx) (hr : RdP w vx m) (hl : l.length + m.length ≤ 1000000000000) (hB : B ≤ w.heap.size)
    (h : ∀ v' w', OwnP w' B v' (l ++ m) → w.grownBy w' v.ownBlock → Moved w v v' → wpList Tryz.prog ops Q rest (a.put o.dst v') w') :
    wpList Tryz.prog ops Q (o :: rest) a w := by
  obtain ⟨i0, hi, hz0, hz1, hz2⟩ := info_parts infoP
  obtain ⟨ao, cp, rfl, hl1, hr1⟩ := hr
  cases ao with
  | none =>
    obtain ⟨rfl, rfl⟩ := hl1.2 rfl
    exact wpList_append_own_none hgd s x 22 ho B 44 i0 2 Tryz.underlying22 hi v l.length (flat2 l) hs hown hx (h v w (by rw [List.append_nil]; exact hown) (World.grownBy.refl _ _) (Or.inl rfl))
  | some ad =>
    refine wpList_app hgd s x 22 ho B 44 i0 (.agg #[.string ⟨#[]⟩, .string ⟨#[]⟩]) 2 32 Tryz.underlying22 hi hz0 hz1 hz2 rfl (by decide) v l.length (flat2 l) hs hown ad m.length cp (flat2 m) hx (flat2_len m) ?_ ?_ (by unfold maxLen; omega) (by omega) hB ?_
    · intro j u hu
      have hj := (List.getElem?_eq_some_iff.1 hu).1
      rw [flat2_len] at hj
      have hne : m ≠ [] := by rintro rfl; simp at hj
      obtain ⟨b, off, he, hlt, hc⟩ := hr1 hne
      obtain rfl : ad = ⟨b, off, none⟩ := Option.some.inj he
      have hjm : j / 2 < m.length := by omega
      have hdm : j / 2 * 2 + j % 2 = j := by omega
      have h2 := flat2_get m (j / 2) (j % 2) hjm (by omega)
      rw [hdm, hu] at h2
      have := hc (j / 2) (j % 2) u hjm h2.symm
      rw [add_of]
      rw [show off + j / 2 * 2 + j % 2 = off + j by omega] at this
      exact this
    · intro u hu
      obtain ⟨x, _, hx⟩ := List.mem_flatMap.1 hu
      simp only [enc2, List.mem_cons, List.not_mem_nil, or_false] at hx
      rcases hx with rfl | rfl <;> rfl
    · intro v' w' own gr mv
      exact h v' w' (own_cast own (by simp) (by simp [flat2])) gr mv
theorem fresh_ownP (w : World) (l : List (Str × Str)) (B : Nat) (hB : B ≤ w.heap.size) (hl : l.length ≤ 1000) : OwnP (w.alloc (.cells (flat2 l).toArray 44)) B (.slice (some ⟨w.heap.size, 0, none⟩) l.length l.length) l :=
  ⟨by rw [flat2_len], Or.inr ⟨w.heap.size, l.length, _, rfl, hB, heap_alloc_new w _, Nat.le_refl _, by unfold maxLen; omega, by simp [flat2_len], List.take_of_length_le (by simp [flat2_len])⟩⟩

set_option maxRecDepth 100000 in
set_option maxHeartbeats 8000000 in
theorem lwakes_any (w : World) : Calls Tryz.prog 6 #[] w fun e w' => e = .returned (.bool true) ∧ Below w.heap.size w w' := by
  have hb1 : Below w.heap.size w (w.alloc (.cells (flat2 wkD).toArray 44)) := (Below.refl _ _).alloc (Nat.le_refl _) _
  have hrd : RdP (w.alloc (.cells (flat2 wkD).toArray 44)) (.slice (some ⟨w.heap.size, 0, none⟩) 1 1) wkD := (fresh_ownP w wkD w.heap.size (Nat.le_refl _) (by decide)).rd
  have NW := hid (new_any _ _ wkD hrd (fun p hp => by rw [show p = (enAU, en001) from List.mem_singleton.1 hp]; exact ⟨by decide, by decide⟩) (by decide))
  have HB1 := hid hb1
  clear hb1 hrd
  go_enter Tryz.func6, Tryz.ntmps6
  go_wp2_with fail
  refine NW.out.mono ?_
  rintro e w2 ⟨er, i, vc, rfl, ho, h0, h1, hb2⟩
  obtain ⟨rfl, rfl⟩ := new_one wk_new ho
  have HC := hid (h0 rfl)
  have HB2 := hid (HB1.out.then hb2)
  obtain ⟨bc, bm, n0, rfl, _, _, _⟩ := h0 rfl
  clear ho h0 h1 hb2 HB1
  have hb3 : Below w2.heap.size w2 (w2.alloc (.cells #[.int .i64 0, .int .i64 0] 26)) := (Below.refl _ _).alloc (Nat.le_refl _) _
  have CH := hid (chain_any (w2.alloc (.cells #[.int .i64 0, .int .i64 0] 26)) _ wkD enAU [enAU, en001, enS, tRoot] (HC.out.below hb3) wk_said (Or.inl ⟨nm_AU, wk_up⟩) (by decide) (by decide))
  have HB3 := hid (HB2.out.then hb3)
  clear hb3
  go_wp2_with fail
  refine CH.out.mono ?_
  rintro e w4 ⟨vv, rfl, own, hb4⟩
  have HR4 := hid own.rd
  have HB4 := hid (HB3.out.then hb4)
  have hb5 : Below w4.heap.size w4 (w4.alloc (.cells ([enAU, en001, enS, tRoot].map S).toArray 9)) := (Below.refl _ _).alloc (Nat.le_refl _) _
  have SM := hid (lsame_any _ vv (.slice (some ⟨w4.heap.size, 0, none⟩) 4 4) [enAU, en001, enS, tRoot] (HR4.out.below hb5) (fresh_own w4 [enAU, en001, enS, tRoot] w4.heap.size (Nat.le_refl _) (by decide)).rd)
  have HB5 := hid (HB4.out.then hb5)
  obtain ⟨ag, cg, rfl⟩ := own_sliceS own
  clear own hb4 hb5 CH HC
  go_wp2_with fail
  refine SM.out.mono ?_
  rintro e w6 ⟨rfl, hb6⟩
  go_wp2_with fail
  go_ret
  exact ⟨rfl, HB5.out.then hb6⟩
end Go.Proofs.YtffaoejahnildaaGreat
