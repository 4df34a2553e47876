/- The contract of the closure of likely.add. -/
import Derived.Test.YtlmgmifaknlolaaGreatLkKey
import Derived.Test.YtlmgmifaknlolaaGreatLikelyR
import Derived.Test.YtlmgmifaknlolaaGreatLists
import Derived.BigQuiet
set_option linter.unusedVariables false
set_option linter.unusedSimpArgs false
namespace Go.Proofs.YtlmgmifaknlolaaGreat
open Go.RowKit Go.Lib Go.Sort Go.Maps

theorem containsR_any (w : World) (v : Value) (l : List Str) (x : Str) (h : RdS w v l) :
    Calls Tryz.prog 51 #[v, .string ⟨x.toArray⟩] w fun e w' => e = .returned (.bool (decide (x ∈ l))) ∧ w' = w := by
  obtain ⟨ao, cp, rfl, hl1, hr⟩ := h
  by_cases hn : l = []
  · subst hn
    have hc := Tryz.slices_Contains_string_empty ao cp ⟨x.toArray⟩ w
    refine hc.mono fun e w' hh => ⟨by rw [hh.1]; simp, hh.2⟩
  · obtain ⟨b, off, rfl, hlt, hc1⟩ := hr hn
    have hb : (bas l).length = l.length := by simp [bas]
    have hc := Tryz.slices_Contains_string b off l.length cp (bas l) ⟨x.toArray⟩ w (by omega) (by omega) (fun j hj => by
      rw [hb] at hj
      rw [bas_get l j hj]
      exact hc1 j _ (List.getElem?_eq_getElem hj))
    refine hc.mono fun e w' hh => ⟨?_, hh.2⟩
    rw [hh.1]
    congr 2
    rw [List.take_of_length_le (by omega), Bool.eq_iff_iff, Lib.containsS_iff]
    simp [bas]

/-- the boxes of add; bc: where the likely stands -/
structure AddSt (w : World) (bc tb : Nat) (W : World) (p to : Pt) (fnd : Bool) : Prop where
  bl : W.heap[w.heap.size]? = some (.cells #[.pointer (some ⟨bc, 0, none⟩)] 29 (0, 0))
  bp : W.heap[w.heap.size + 1]? = some (.cells #[S p.l, S p.s, S p.r] 57 (0, 0))
  br : W.heap[w.heap.size + 1 + 1]? = some (.cells #[S [], S [], S []] 57 (0, 0))
  bt : W.heap[tb]? = some (.cells #[S to.l, S to.s, S to.r] 57 (0, 0))
  bf : W.heap[tb + 1]? = some (.cells #[.bool fnd] 4 (0, 0))
  bel : Below w.heap.size w W
  ht : w.heap.size + 1 + 1 < tb
theorem AddSt.below {w W W' : World} {bc tb : Nat} {p to : Pt} {fnd : Bool} (h : AddSt w bc tb W p to fnd) (hb : Below W.heap.size W W') : AddSt w bc tb W' p to fnd :=
  ⟨(hb.block _ (lt_of_block h.bl)).trans h.bl, (hb.block _ (lt_of_block h.bp)).trans h.bp, (hb.block _ (lt_of_block h.br)).trans h.br, (hb.block _ (lt_of_block h.bt)).trans h.bt, (hb.block _ (lt_of_block h.bf)).trans h.bf, h.bel.then hb, h.ht⟩
theorem AddSt.drew {w W : World} {bc tb : Nat} {p to : Pt} {fnd : Bool} (h : AddSt w bc tb W p to fnd) : AddSt w bc tb W.drew p to fnd := ⟨h.bl, h.bp, h.br, h.bt, h.bf, h.bel.drew, h.ht⟩
/-- what the closure stores -/
def T4 (W : World) (b : Nat) (q : Pt) (r : Bool) : World := (P3 W b (S q.l) (S q.s) (S q.r)).setCell ⟨b + 1, 0, none⟩ (.bool r)
theorem AddSt.say {w W : World} {bc tb : Nat} {p to : Pt} {fnd : Bool} (h : AddSt w bc tb W p to fnd) (q : Pt) (r : Bool) : AddSt w bc tb (T4 W (tb) q r) p q r := by
  have ht := h.ht
  unfold T4
  refine ⟨?_, ?_, ?_, ?_, ?_, ?_, ht⟩
  · rw [heap_setCell_other _ _ _ _ (by show _ ≠ _; simp only; omega), P3_other _ _ _ (by omega)]; exact h.bl
  · rw [heap_setCell_other _ _ _ _ (by show _ ≠ _; simp only; omega), P3_other _ _ _ (by omega)]; exact h.bp
  · rw [heap_setCell_other _ _ _ _ (by show _ ≠ _; simp only; omega), P3_other _ _ _ (by omega)]; exact h.br
  · rw [heap_setCell_other _ _ _ _ (by show _ ≠ _; simp only; omega)]; exact P3_row _ _ _ h.bt
  · rw [heap_setCell_same _ _ _ _ _ _ ((P3_other _ _ _ (by omega)).trans h.bf)]; simp
  · exact (P3_below _ _ _ h.bel (by omega)).setCell (by simp; omega) _

/-- what the closure hands back -/
def TryOut (w : World) (bc tb : Nat) (D : List (Pt × Pt)) (p to : Pt) (fnd : Bool) (k : Pt) (needs : List Str) (e : Ending) (w' : World) : Prop :=
  if ([] : Str) ∈ needs then e = .returned (.bool false) ∧ AddSt w bc tb w' p to fnd else e = .returned (.bool (lookP D k).isSome) ∧ AddSt w bc tb w' p ((lookP D k).getD Pt.zero) (lookP D k).isSome

set_option maxRecDepth 100000 in
set_option maxHeartbeats 8000000 in
theorem try_any (w W : World) (bc tb : Nat) (D : List (Pt × Pt)) (p to k : Pt) (fnd : Bool) (needs : List Str) (nv : Value) (hL : LkRd w (.pointer (some ⟨bc, 0, none⟩)) D) (st : AddSt w bc tb W p to fnd) (hk : PtSz k) (hn : RdS W nv needs) :
    Calls Tryz.prog 50 #[ptV k, nv, .pointer (some ⟨w.heap.size, 0, none⟩), .pointer (some ⟨tb, 0, none⟩), .pointer (some ⟨tb + 1, 0, none⟩)] W fun e w' => TryOut w bc tb D p to fnd k needs e w' := by
  have CT := hid (fun W' (hb : Below W.heap.size W W') => containsR_any W' nv needs [] (hn.below hb))
  obtain ⟨bc', bm, n, hbc, hlt, hc, hown⟩ := hL
  have hbc' : bc = bc' := by
    have := Value.pointer.inj hbc
    have := Option.some.inj this
    exact (Addr.mk.inj this).1
  subst hbc'
  obtain ⟨ao, cp, rfl, hl1, hl2⟩ := hn
  obtain ⟨kl, ks, kr⟩ := k
  have HB1 := hid (show Below W.heap.size W (W.alloc (.cells #[.string ⟨kl.toArray⟩, .string ⟨ks.toArray⟩, .string ⟨kr.toArray⟩] 57)) from (Below.refl _ _).alloc (Nat.le_refl _) _)
  have HK1 := hid (heap_alloc_new W (.cells #[.string ⟨kl.toArray⟩, .string ⟨ks.toArray⟩, .string ⟨kr.toArray⟩] 57))
  have ST1 := hid (st.below HB1.out)
  have hown1 := hown.below (st.bel.then HB1.out)
  have hlt1 : bc < (W.alloc (.cells #[.string ⟨kl.toArray⟩, .string ⟨ks.toArray⟩, .string ⟨kr.toArray⟩] 57)).heap.size := Nat.lt_of_lt_of_le hlt (st.bel.then HB1.out).size
  have hc1 := ((st.bel.then HB1.out).cell (p := ⟨bc, 0, none⟩) hlt).trans hc
  clear hbc st hlt hc hown hl1 hl2
  unfold TryOut
  simp only [ptV, S] at CT ⊢
  by_cases hin : ([] : Str) ∈ needs
  · have HIN := hid hin
    simp only [if_pos hin]
    rw [decide_eq_true hin] at CT
    clear hin
    go_enter Tryz.func50, Tryz.ntmps50
    go_upto_region 1 with (fail)
    have CT1 := hid (CT.out _ HB1.out)
    generalize W.alloc (.cells #[.string ⟨kl.toArray⟩, .string ⟨ks.toArray⟩, .string ⟨kr.toArray⟩] 57) = W1 at *
    go_wp2_with fail
    refine CT1.out.mono ?_
    rintro e w' ⟨rfl, rfl⟩
    go_wp2_with fail
    go_ret
    exact ⟨rfl, ST1.out⟩
  · have HIN := hid hin
    simp only [if_neg hin]
    rw [decide_eq_false hin] at CT
    clear hin
    generalize hy : (lookP D ⟨kl, ks, kr⟩).getD Pt.zero = y at *
    generalize hr : (lookP D ⟨kl, ks, kr⟩).isSome = r at *
    obtain ⟨yl, ys, yr⟩ := y
    have HY := hid hy
    have HR := hid hr
    clear hy hr
    go_enter Tryz.func50, Tryz.ntmps50
    go_upto_region 1 with (fail)
    have CT1 := hid (CT.out _ HB1.out)
    generalize W.alloc (.cells #[.string ⟨kl.toArray⟩, .string ⟨ks.toArray⟩, .string ⟨kr.toArray⟩] 57) = W1 at *
    go_wp2_with fail
    refine CT1.out.mono ?_
    rintro e w' ⟨rfl, rfl⟩
    have LK := OwnK.look_run (show OwnK w'.drew bm n D from hown1.block rfl) ⟨kl, ks, kr⟩ hk
    rw [HY.out, HR.out] at LK
    have HOUT := hid (ST1.out.say ⟨yl, ys, yr⟩ r)
    simp only [ptV, S] at LK
    obtain ⟨tl, ts, tr⟩ := to
    have cl : w'.cell? ⟨w.heap.size, 0, none⟩ = some (.pointer (some ⟨bc, 0, none⟩)) := by rw [cell_of_row _ _ _ _ _ _ ST1.out.bl]; rfl
    obtain ⟨k0, k1, k2⟩ := box3_cells HK1.out
    obtain ⟨t0, t1, t2⟩ := box3_cells ST1.out.bt
    simp only [S] at t0 t1 t2
    have f0 : w'.cell? ⟨tb + 1, 0, none⟩ = some (.bool fnd) := by rw [cell_of_row _ _ _ _ _ _ ST1.out.bf]; rfl
    have zt0 := frozen_of_row w' (tb) 0 _ _ ST1.out.bt
    have zt1 := frozen_of_row w' (tb) 1 _ _ ST1.out.bt
    have zt2 := frozen_of_row w' (tb) 2 _ _ ST1.out.bt
    have zf0 := frozen_of_row w' (tb + 1) 0 _ _ ST1.out.bf
    have ll := lt_of_block ST1.out.bl
    have lk := lt_of_block HK1.out
    have lt := lt_of_block ST1.out.bt
    have lf := lt_of_block ST1.out.bf
    go_wp2_with fail
    go_region
    all_goals
      change Exit.then _ _ _ _ (T4 w' (tb) ⟨yl, ys, yr⟩ r).drew
      have HO := hid (AddSt.drew HOUT.out)
      generalize (T4 w' (tb) ⟨yl, ys, yr⟩ r).drew = W3 at *
      clear cl k0 k1 k2 t0 t1 t2 f0 zt0 zt1 zt2 zf0 ll lk lt lf LK hc1
      have f0 : W3.cell? ⟨tb + 1, 0, none⟩ = some (.bool r) := by rw [cell_of_row _ _ _ _ _ _ HO.out.bf]; rfl
      have lf := lt_of_block HO.out.bf
      go_wp2_with fail
      go_ret
      exact ⟨rfl, HO.out⟩
end Go.Proofs.YtlmgmifaknlolaaGreat
