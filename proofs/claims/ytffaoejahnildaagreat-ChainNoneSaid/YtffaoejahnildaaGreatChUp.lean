/- The contracts of chain.Chains.Chain and Above. -/
import Derived.Test.YtffaoejahnildaaGreatChPar
import Derived.Test.YtffaoejahnildaaGreatApp
import Derived.Deep.Cut
set_option linter.unusedVariables false
set_option linter.unusedSimpArgs false
namespace Go.Proofs.YtffaoejahnildaaGreat
open Go.RowKit Go.Lib Go.Sort Go.Maps

/-- as wpList_pushS, for longer lists -/
theorem wpList_pushL {w : World} {ops : Array Oper} {rest : List Oper} {o : Oper} {a : Act} {Q : Exit → Act → World → Prop} (hgd : o.guard = none) (s x : Operand)
    (ho : o.op = .call { callee := .builtin .append, args := #[s, x], argTypes := #[31, 31] })
    (B : Nat) (v : Value) (l : List Str) (y : Str) (hs : a.eval s = v) (hown : OwnS w B v l) (hx : a.eval x = .slice (some ⟨w.heap.size, 0, none⟩) 1 1) (hl : l.length ≤ 1000000000000) (hB : B ≤ w.heap.size)
    (h : ∀ v' w', OwnS w' B v' (l ++ [y]) → w.grownBy w' v.ownBlock → Moved w v v' → wpList Tryz.prog ops Q rest (a.put o.dst v') w') :
    wpList Tryz.prog ops Q (o :: rest) a (w.alloc (.cells #[.string ⟨y.toArray⟩] 9)) := by
  obtain ⟨i0, hi, hz0, hz1, hz2⟩ := info_parts infoS
  refine wpList_app hgd s x 31 ho B 9 i0 (.string ⟨#[]⟩) 1 16 Tryz.underlying31 hi hz0 hz1 hz2 rfl (by decide) v l.length (l.map S) hs (World.ownsRow.alloc hown _) ⟨w.heap.size, 0, none⟩ 1 1 [.string ⟨y.toArray⟩] hx rfl (cell_one_new _ _ _) (fun u hu => by simp at hu; subst hu; rfl) (by unfold maxLen; omega) (by omega) (by simp; omega) ?_
  intro v' w' own gr mv
  refine h v' w' (own_cast own (by simp) (by simp [S])) ⟨gr.os, gr.tape, gr.output, Nat.le_trans (by simp) gr.size, fun k hk hne => ?_⟩ ?_
  · rw [gr.block k (by simp; omega) hne]; exact heap_alloc_old _ _ hk
  · rcases mv with m | ⟨k, h1, h2⟩
    · exact Or.inl m
    · exact Or.inr ⟨k, h1, by simp at h2; omega⟩

/-- what Chain hands back -/
def ChainOut (w : World) (l : List Str) (e : Ending) (w' : World) : Prop := ∃ vv, e = .returned vv ∧ OwnS w' w.heap.size vv l ∧ Below w.heap.size w w'

set_option maxRecDepth 100000 in
set_option maxHeartbeats 16000000 in
theorem chain_any (w : World) (v : Value) (D : List (Str × Str)) (s : Str) (l : List Str) (h : ChRd w v D) (hD : saidOK D) (hl : ChainIs D s l) (hs : s.length ≤ maxLen) (hsz : D.length ≤ 10000000000) :
    Calls Tryz.prog 15 #[v, .string ⟨s.toArray⟩] w fun e w' => ChainOut w l e w' := by
  have PA := hid (fun W (hb : Below w.heap.size w W) (a : Str) (ha : a.length ≤ maxLen) => parent_any W v D a (h.below hb) ha)
  have NM := hid (fun W => named_any s W hs)
  simp only [NamedOut] at NM
  obtain ⟨bc, bm, n0, rfl, _, _, _⟩ := h
  rcases hl with ⟨hn, hu⟩ | ⟨hn, rfl⟩
  · rw [hn] at NM
    have hlen := up_len hD hn hu
    have HU := hid hu
    have HLEN := hid (show l.length ≤ 200000000000 by omega)
    have HNA := hid (up_named hD hn hu)
    have hl0 : 0 < l.length := List.length_pos_iff.2 (up_ne hu)
    have hh : l.take 1 = [s] := by obtain ⟨r, rfl⟩ := up_head hu; simp
    have hg : ∀ hj : 0 < l.length, l[0]'hj = s := by obtain ⟨r, rfl⟩ := up_head hu; intro _; rfl
    have HL0 := hid hl0
    have HH := hid hh
    have HG0 := hid hg
    clear hu hlen hD hsz hl0 hh hg hn
    generalize namedT s = nt at *
    go_enter Tryz.func15, Tryz.ntmps15
    go_wp2_with fail
    refine (NM.out _).mono ?_
    rintro e w1 ⟨v1, rfl, ⟨vv, kv, rfl, ⟨av, cv, rfl, _, _⟩, ⟨ak, ck, rfl, _, _⟩⟩, hb1⟩
    simp only [tagCells, S]
    have hb2 : Below w1.heap.size w1 (w1.alloc (.cells #[.string ⟨nt.lang.toArray⟩, .string ⟨nt.script.toArray⟩, .string ⟨nt.region.toArray⟩, .slice av nt.vars.length cv, .slice ak nt.keys.length ck] 53)) := (Below.refl _ _).alloc (Nat.le_refl _) _
    have HB2 := hid (hb1.then hb2)
    clear hb1 hb2
    go_upto_region 4 with (fail)
    generalize w1.alloc (.cells #[.string ⟨nt.lang.toArray⟩, .string ⟨nt.script.toArray⟩, .string ⟨nt.region.toArray⟩, .slice av nt.vars.length cv, .slice ak nt.keys.length ck] 53) = w2 at *
    have ho := fresh_own w2 [s] w.heap.size HB2.out.size (by simp)
    have HOW := hid ho
    have HB3 := hid (HB2.out.then (show Below w2.heap.size w2 (w2.alloc (.cells #[.string ⟨s.toArray⟩] 9)) from (Below.refl _ _).alloc (Nat.le_refl _) _))
    clear ho
    go_wp2_with fail
    go_loopg [1, 7] l.length (fun g va vl W => ∃ (j : Nat) (hj : j < l.length), va = .string ⟨l[j].toArray⟩ ∧ OwnS W w.heap.size vl (l.take (j + 1)) ∧ l.length ≤ j + 1 + g ∧ Below w.heap.size w W)
    case atStart => exact ⟨0, HL0.out, by rw [HG0.out HL0.out], by rw [HH.out]; simpa [S] using HOW.out, by omega, HB3.out⟩
    case round =>
      obtain ⟨j, hj, rfl, own, hg, hb⟩ := hrel
      rename World => w4
      have HOJ := hid own
      have HGJ := hid hg
      have HBJ := hid hb
      obtain ⟨a, ha⟩ : ∃ a, a = l[j]'hj := ⟨_, rfl⟩
      have HAL := hid (show a.length ≤ maxLen by rw [ha]; exact Nat.le_trans (named_len (HNA.out _ (List.getElem_mem hj))) (by decide))
      have HEND := hid (show a = tRoot → j + 1 = l.length from fun h => up_end HU.out j hj (by rw [← ha]; exact h))
      have HNXT := hid (show a ≠ tRoot → ∃ hj' : j + 1 < l.length, stepF D a = some (l[j + 1]'hj') from fun h => by rw [ha]; exact up_next HU.out j hj (by rw [← ha]; exact h))
      clear own hg hb HOW HB3 HB2
      rw [← ha]
      clear ha hj
      by_cases hr : a = tRoot
      · have hub : (a == [114, 111, 111, 116]) = true := by rw [hr]; rfl
        have hub2 : (a != [114, 111, 111, 116]) = false := by rw [hr]; rfl
        have hjl := HEND.out hr
        have hown := HOJ.out
        rw [List.take_of_length_le (by omega)] at hown
        have HOWN := hid hown
        clear hr hjl hown
        go_wp2_with fail
        go_ret
        exact ⟨_, rfl, HOWN.out, HBJ.out⟩
      · have hub : (a == [114, 111, 111, 116]) = false := by rw [beq_eq_false_iff_ne]; exact hr
        have hub2 : (a != [114, 111, 111, 116]) = true := by rw [bne_iff_ne]; exact hr
        obtain ⟨hj2, hst⟩ := HNXT.out hr
        have hpa := step_parent hst
        have htk : l.take (j + 1) ++ [l[j + 1]'hj2] = l.take (j + 1 + 1) := by rw [List.take_add_one (i := j + 1), List.getElem?_eq_getElem hj2]; rfl
        have HTK := hid htk
        obtain ⟨y, hy⟩ : ∃ y, y = l[j + 1]'hj2 := ⟨_, rfl⟩
        have HJ2 := hid hj2
        have HY := hid (show ∀ h : j + 1 < l.length, y = l[j + 1]'h from fun _ => hy)
        rw [← hy] at hpa HTK
        have HPA := hid hpa
        clear hr hst hpa htk hy hj2
        go_wp2_with fail
        refine (PA.out _ HBJ.out a HAL.out).mono ?_
        rintro e w5 ⟨rfl, hb5⟩
        rw [HPA.out]
        simp only
        have HO5 := hid (own_below HOJ.out hb5)
        have HB5 := hid (HBJ.out.then hb5)
        have hll : (l.take (j + 1)).length ≤ 1000000000000 := by rw [List.length_take]; have := HLEN.out; omega
        have HLL := hid hll
        clear hb5 hll
        go_wp2_with (at_builtin; refine wpList_pushL rfl (.tmp 29) (.tmp 31) rfl w.heap.size _ _ y rfl HO5.out rfl HLL.out HB5.out.size ?_; intro v6 w6 own6 gr6 mv6)
        have HO6 := hid own6
        have HB6 := hid (HB5.out.grown gr6 HB5.out.size (fun j hj => (World.ownsRow.lt HO5.out _ hj).1))
        clear own6 gr6 mv6
        go_wp2_with fail
        go_roundg (gk - 1)
        case measure => have := HGJ.out; have := HJ2.out; omega
        case rel => exact ⟨j + 1, HJ2.out, by rw [HY.out HJ2.out], by rw [← HTK.out]; exact HO6.out, by have := HGJ.out; have := HJ2.out; omega, HB6.out⟩
  · rw [hn] at NM
    generalize namedT s = nt at *
    go_enter Tryz.func15, Tryz.ntmps15
    go_wp2_with fail
    refine (NM.out _).mono ?_
    rintro e w1 ⟨v1, rfl, ⟨vv, kv, rfl, ⟨av, cv, rfl, _, _⟩, ⟨ak, ck, rfl, _, _⟩⟩, hb1⟩
    simp only [tagCells, S]
    go_wp2_with fail
    go_ret
    exact ⟨_, rfl, World.ownsRow_nil _ _ _ _, hb1.then ((Below.refl _ _).alloc (Nat.le_refl _) _)⟩

set_option maxRecDepth 100000 in
set_option maxHeartbeats 8000000 in
theorem above_any (w : World) (v : Value) (D : List (Str × Str)) (a s : Str) (l : List Str) (h : ChRd w v D) (hD : saidOK D) (hl : ChainIs D s l) (hs : s.length ≤ maxLen) (hsz : D.length ≤ 10000000000) :
    Calls Tryz.prog 16 #[v, .string ⟨a.toArray⟩, .string ⟨s.toArray⟩] w fun e w' => e = .returned (.bool (decide (a ∈ l))) ∧ Below w.heap.size w w' := by
  have CH := hid (chain_any w v D s l h hD hl hs hsz)
  obtain ⟨bc, bm, n0, rfl, _, _, _⟩ := h
  clear hl hD hsz hs
  go_enter Tryz.func16, Tryz.ntmps16
  go_wp2_with fail
  refine CH.out.mono ?_
  rintro e w1 ⟨vv, rfl, own, hb1⟩
  go_wp2_with fail
  refine (contains_own w1 _ _ l a own).mono ?_
  rintro e w2 ⟨rfl, rfl⟩
  go_wp2_with fail
  go_ret
  exact ⟨rfl, hb1⟩

set_option maxRecDepth 100000 in
set_option maxHeartbeats 8000000 in
theorem common_any (w : World) (v : Value) (D : List (Str × Str)) (a b : Str) (x y : List Str) (h : ChRd w v D) (hD : saidOK D) (hx : ChainIs D a x) (hy : ChainIs D b y) (ha : a.length ≤ maxLen) (hb : b.length ≤ maxLen) (hsz : D.length ≤ 10000000000) :
    Calls Tryz.prog 17 #[v, .string ⟨a.toArray⟩, .string ⟨b.toArray⟩] w fun e w' => e = .returned (.string ⟨(firstIn x y).toArray⟩) ∧ Below w.heap.size w w' := by
  have CB := hid (chain_any w v D b y h hD hy hb hsz)
  have CA := hid (fun W (hb2 : Below w.heap.size w W) => chain_any W v D a x (h.below hb2) hD hx ha hsz)
  obtain ⟨bc, bm, n0, rfl, _, _, _⟩ := h
  clear hx hy hD hsz ha hb
  go_enter Tryz.func17, Tryz.ntmps17
  go_wp2_with fail
  refine CB.out.mono ?_
  rintro e w1 ⟨vy, rfl, ownY, hb1⟩
  have HY1 := hid ownY
  have HB1 := hid hb1
  clear ownY CB
  go_wp2_with fail
  refine (CA.out _ hb1).mono ?_
  rintro e w2 ⟨vx, rfl, ownX, hb2⟩
  have HY2 := hid (own_below HY1.out hb2)
  have HX2 := hid ownX.rd
  have HB2 := hid (HB1.out.then hb2)
  obtain ⟨xv, xc, rfl⟩ := own_sliceS ownX
  obtain ⟨yv, yc, rfl⟩ := own_sliceS HY2.out
  clear ownX hb1 hb2 CA HY1 HB1
  have hfx : x.length ≤ 9223372036854775807 := by obtain ⟨ao, cp, _, hl, _⟩ := HX2.out; exact hl.1
  go_wp2_with fail
  go_loopg [17] x.length (fun g vi W => ∃ n : Nat, n ≤ x.length ∧ x.length ≤ n + g ∧ vi = .int .i64 n ∧ (∀ t ∈ x.take n, t ∉ y) ∧ W = w2)
  case atStart => exact ⟨0, Nat.zero_le _, by omega, rfl, by simp, rfl⟩
  case round =>
    obtain ⟨n, hn, hg, rfl, hno, rfl⟩ := hrel
    have HG := hid hg
    have HNO := hid hno
    clear hg hno
    by_cases hlt : n < x.length
    · have hne : x ≠ [] := by intro e; rw [e] at hlt; simp at hlt
      obtain ⟨ao, cp, hv, _, hr⟩ := HX2.out
      injection hv with e1 e2 e3
      subst e1 e3
      obtain ⟨p1, o1, rfl, hp1, hc1⟩ := hr hne
      have q1 := hc1 n _ (List.getElem?_eq_getElem hlt)
      obtain ⟨t, ht⟩ : ∃ t, t = x[n] := ⟨_, rfl⟩
      rw [← ht, S] at q1
      have HT := hid ht
      have hni : (n : Int) < (x.length : Int) := by omega
      have hn0 : (0 : Int) ≤ (n : Int) := by omega
      clear hc1 hr hne ht
      go_wp2_with fail
      refine (contains_own _ _ _ y t HY2.out).mono ?_
      rintro e w3 ⟨rfl, rfl⟩
      by_cases hm : t ∈ y
      · have hub : y.contains t = true := by simpa using hm
        rw [hub]
        have hfi : firstIn x y = t := by
          have hsplit : x = x.take n ++ t :: x.drop (n + 1) := by
            conv => lhs; rw [← List.take_append_drop n x, List.drop_eq_getElem_cons hlt]
            rw [HT.out]
          unfold firstIn
          rw [hsplit, List.find?_append, List.find?_eq_none.2 (by intro u hu; simpa using HNO.out u hu)]
          simp [hm]
        have HFI := hid hfi
        clear hm hfi
        go_wp2_with fail
        go_ret
        exact ⟨by rw [HFI.out]; rfl, HB2.out⟩
      · have hub : y.contains t = false := by simpa using hm
        rw [hub]
        have HM := hid hm
        clear hm
        go_wp2_with fail
        go_roundg (gk - 1)
        case measure => have := HG.out; omega
        case rel => exact ⟨n + 1, by omega, by have := HG.out; omega, by simp, (fun u hu => by
          rw [List.take_add_one, List.getElem?_eq_getElem hlt, ← HT.out] at hu
          rcases List.mem_append.1 hu with hu | hu
          · exact HNO.out u hu
          · simp at hu; subst hu; exact HM.out), rfl⟩
    · have hfi : firstIn x y = [] := by
        unfold firstIn
        have hall := HNO.out
        rw [List.take_of_length_le (by omega)] at hall
        rw [List.find?_eq_none.2 (by intro u hu; simpa using hall u hu)]
        rfl
      have HFI := hid hfi
      clear hfi
      go_wp2_with fail
      go_ret
      exact ⟨by rw [HFI.out]; rfl, HB2.out⟩
end Go.Proofs.YtffaoejahnildaaGreat
