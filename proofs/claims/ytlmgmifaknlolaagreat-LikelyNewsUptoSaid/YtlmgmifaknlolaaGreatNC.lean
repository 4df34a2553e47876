/- Several texts in one: LkAdd, LkTag, LkAddT, LkRem, LkWakes. (joined by wip/merge.py) -/
import Derived.Test.YtlmgmifaknlolaaGreatNB
import Derived.Deep.CutBlock
import Derived.Deep.LoopGhost
import Derived.Deep.RegionHeld3

/- The contract of likely.add. -/
set_option linter.unusedVariables false
set_option linter.unusedSimpArgs false
namespace Go.Proofs.YtlmgmifaknlolaaGreat
open Go.RowKit Go.Lib Go.Sort Go.Maps

theorem AddSt.setL {w W : World} {bc tb : Nat} {p tq : Pt} {fnd : Bool} (h : AddSt w bc tb W p tq fnd) (x : Str) : AddSt w bc tb (W.setCell ⟨w.heap.size + 1, 0, none⟩ (S x)) ⟨x, p.s, p.r⟩ tq fnd := by
  have ht := h.ht
  refine ⟨?_, ?_, ?_, ?_, ?_, h.bel.setCell (by simp) _, ht⟩
  · rw [heap_setCell_other _ _ _ _ (by simp)]; exact h.bl
  · rw [heap_setCell_same _ _ _ _ _ _ h.bp]; simp
  · rw [heap_setCell_other _ _ _ _ (by simp)]; exact h.br
  · rw [heap_setCell_other _ _ _ _ (by show _ ≠ _; simp only; omega)]; exact h.bt
  · rw [heap_setCell_other _ _ _ _ (by show _ ≠ _; simp only; omega)]; exact h.bf
theorem AddSt.setS {w W : World} {bc tb : Nat} {p tq : Pt} {fnd : Bool} (h : AddSt w bc tb W p tq fnd) (x : Str) : AddSt w bc tb (W.setCell ⟨w.heap.size + 1, 1, none⟩ (S x)) ⟨p.l, x, p.r⟩ tq fnd := by
  have ht := h.ht
  refine ⟨?_, ?_, ?_, ?_, ?_, h.bel.setCell (by simp) _, ht⟩
  · rw [heap_setCell_other _ _ _ _ (by simp)]; exact h.bl
  · rw [heap_setCell_same _ _ _ _ _ _ h.bp]; simp
  · rw [heap_setCell_other _ _ _ _ (by simp)]; exact h.br
  · rw [heap_setCell_other _ _ _ _ (by show _ ≠ _; simp only; omega)]; exact h.bt
  · rw [heap_setCell_other _ _ _ _ (by show _ ≠ _; simp only; omega)]; exact h.bf
theorem AddSt.setR {w W : World} {bc tb : Nat} {p tq : Pt} {fnd : Bool} (h : AddSt w bc tb W p tq fnd) (x : Str) : AddSt w bc tb (W.setCell ⟨w.heap.size + 1, 2, none⟩ (S x)) ⟨p.l, p.s, x⟩ tq fnd := by
  have ht := h.ht
  refine ⟨?_, ?_, ?_, ?_, ?_, h.bel.setCell (by simp) _, ht⟩
  · rw [heap_setCell_other _ _ _ _ (by simp)]; exact h.bl
  · rw [heap_setCell_same _ _ _ _ _ _ h.bp]; simp
  · rw [heap_setCell_other _ _ _ _ (by simp)]; exact h.br
  · rw [heap_setCell_other _ _ _ _ (by show _ ≠ _; simp only; omega)]; exact h.bt
  · rw [heap_setCell_other _ _ _ _ (by show _ ≠ _; simp only; omega)]; exact h.bf
/-- add's way out -/
theorem add_ret {w W : World} {bc tb : Nat} {p tq : Pt} {fnd : Bool} {D : List (Pt × Pt)} {p0 : Pt} (h : AddSt w bc tb W p tq fnd) (b : Bool) (hq : addP D p0 = (p, b)) {a : Act} (hd : a.defers = [])
    (h4 : a.tmps.getD 4 undef = .pointer (some ⟨w.heap.size + 1 + 1, 0, none⟩)) (h5 : a.tmps.getD 5 undef = .bool b) :
    bodyPost Tryz.prog Tryz.f30 (fun e w' => e = .returned (.tuple #[ptV (addP D p0).1, .bool (addP D p0).2]) ∧ Below w.heap.size w w') Exit.ret a (P3 W (w.heap.size + 1 + 1) (S p.l) (S p.s) (S p.r)) := by
  have hr := P3_row (S p.l) (S p.s) (S p.r) h.br
  have hw := P3_below (S p.l) (S p.s) (S p.r) h.bel (show w.heap.size ≤ w.heap.size + 1 + 1 by omega)
  generalize P3 W (w.heap.size + 1 + 1) (S p.l) (S p.s) (S p.r) = V at *
  obtain ⟨d0, d1, d2⟩ := box3_cells hr
  refine bodyPost_ret (v := .tuple #[ptV p, .bool b]) ?_ hd ⟨by rw [hq], hw⟩
  obtain ⟨tmps, defers⟩ := a
  simp only [Array.getD_eq_getD_getElem?] at h4 h5
  simp [results, Tryz.results30, go_sem, h4, h5, d0, d1, d2, ptV]

theorem addP_found {D : List (Pt × Pt)} {p q : Pt} (hf : ¬ p.full) (h : findP D (tryKeys p) = some q) : addP D p = (fillP p q, true) := by
  unfold addP; rw [if_neg hf, h]
theorem addP_lost {D : List (Pt × Pt)} {p : Pt} (hf : ¬ p.full) (h : findP D (tryKeys p) = none) : addP D p = (p, false) := by
  unfold addP; rw [if_neg hf, h]
/-- the key of the n-th try -/
def tryN (p : Pt) : Nat → List Pt
  | 0 => if p.s ≠ [] ∧ p.r ≠ [] then [p] else []
  | 1 => if p.r ≠ [] then [⟨p.l, [], p.r⟩] else []
  | 2 => if p.s ≠ [] then [⟨p.l, p.s, []⟩] else []
  | 3 => [⟨p.l, [], []⟩]
  | _ => if p.s ≠ [] then [⟨[], p.s, []⟩] else []
theorem findP_append (D : List (Pt × Pt)) (a b : List Pt) : findP D (a ++ b) = (findP D a).or (findP D b) := by
  induction a with
  | nil => simp [findP]
  | cons k a ih =>
    rw [List.cons_append, findP, findP]
    cases lookP D k with
    | some q => rfl
    | none => exact ih
theorem tryKeys_N (p : Pt) : tryKeys p = tryN p 0 ++ (tryN p 1 ++ (tryN p 2 ++ (tryN p 3 ++ tryN p 4))) := rfl
/-- the tries ahead of the n-th have found nothing -/
def lostN (D : List (Pt × Pt)) (p : Pt) (n : Nat) : Prop := ∀ j, j < n → findP D (tryN p j) = none
theorem lostN_all {D : List (Pt × Pt)} {p : Pt} (h : lostN D p 5) : findP D (tryKeys p) = none := by
  rw [tryKeys_N]
  simp only [findP_append, h 0 (by omega), h 1 (by omega), h 2 (by omega), h 3 (by omega), h 4 (by omega)]
  rfl
theorem lostN_hit {D : List (Pt × Pt)} {p q : Pt} {n : Nat} (hn : n < 5) (h : lostN D p n) (hq : findP D (tryN p n) = some q) : findP D (tryKeys p) = some q := by
  rw [tryKeys_N]
  simp only [findP_append]
  match n, hn with
  | 0, _ => rw [hq]; rfl
  | 1, _ => rw [h 0 (by omega), hq]; rfl
  | 2, _ => rw [h 0 (by omega), h 1 (by omega), hq]; rfl
  | 3, _ => rw [h 0 (by omega), h 1 (by omega), h 2 (by omega), hq]; rfl
  | 4, _ => rw [h 0 (by omega), h 1 (by omega), h 2 (by omega), h 3 (by omega), hq]; rfl
theorem lostN_step {D : List (Pt × Pt)} {p : Pt} {n : Nat} (h : lostN D p n) (hq : findP D (tryN p n) = none) : lostN D p (n + 1) := by
  intro j hj
  by_cases e : j = n
  · rw [e]; exact hq
  · exact h j (by omega)
theorem findP_one (D : List (Pt × Pt)) (k : Pt) : findP D [k] = lookP D k := by
  unfold findP; cases lookP D k <;> rfl

/-- the key and the needs of the n-th try -/
def keyN (p : Pt) : Nat → Pt
  | 0 => p
  | 1 => ⟨p.l, [], p.r⟩
  | 2 => ⟨p.l, p.s, []⟩
  | 3 => ⟨p.l, [], []⟩
  | _ => ⟨[], p.s, []⟩
def needsN (p : Pt) : Nat → List Str
  | 0 => [p.s, p.r]
  | 1 => [p.r]
  | 2 => [p.s]
  | 3 => []
  | _ => [p.s]
theorem tryN_eq (p : Pt) (n : Nat) : tryN p n = if ([] : Str) ∈ needsN p n then [] else [keyN p n] := by
  match n with
  | 0 => unfold tryN needsN keyN; by_cases h : p.s = [] <;> by_cases h2 : p.r = [] <;> simp [h, h2, eq_comm]
  | 1 => unfold tryN needsN keyN; by_cases h2 : p.r = [] <;> simp [h2, eq_comm]
  | 2 => unfold tryN needsN keyN; by_cases h2 : p.s = [] <;> simp [h2, eq_comm]
  | 3 => unfold tryN needsN keyN; simp
  | n + 4 => unfold tryN needsN keyN; by_cases h2 : p.s = [] <;> simp [h2, eq_comm]
theorem keyN_sz {p : Pt} (h : PtSz p) (n : Nat) : PtSz (keyN p n) := by
  obtain ⟨h1, h2, h3⟩ := h
  have h0 : ([] : Str).length ≤ maxLen := Nat.zero_le _
  match n with
  | 0 => exact ⟨h1, h2, h3⟩
  | 1 => exact ⟨h1, h0, h3⟩
  | 2 => exact ⟨h1, h2, h0⟩
  | 3 => exact ⟨h1, h0, h0⟩
  | n + 4 => exact ⟨h0, h2, h0⟩
theorem try_out {w w' : World} {bc tb : Nat} {D : List (Pt × Pt)} {p tq : Pt} {n : Nat} {e : Ending} (hn : n < 5) (hl : lostN D p n) (h : TryOut w bc tb D p tq false (keyN p n) (needsN p n) e w') :
    (e = .returned (.bool false) ∧ ∃ tq', AddSt w bc tb w' p tq' false ∧ lostN D p (n + 1)) ∨ (∃ q, e = .returned (.bool true) ∧ AddSt w bc tb w' p q true ∧ findP D (tryKeys p) = some q) := by
  unfold TryOut at h
  split at h
  · rename_i hin
    exact Or.inl ⟨h.1, tq, h.2, lostN_step hl (by rw [tryN_eq, if_pos hin]; rfl)⟩
  · rename_i hin
    cases hk : lookP D (keyN p n) with
    | none =>
      rw [hk] at h
      exact Or.inl ⟨h.1, _, h.2, lostN_step hl (by rw [tryN_eq, if_neg hin, findP_one, hk])⟩
    | some q =>
      rw [hk] at h
      exact Or.inr ⟨q, h.1, h.2, lostN_hit hn hl (by rw [tryN_eq, if_neg hin, findP_one, hk])⟩
/-- a fresh list of texts -/
theorem rdS_fresh (w : World) (l : List Str) (hl : l.length ≤ 1000) : RdS (w.alloc (.cells (l.map S).toArray 9)) (.slice (some ⟨w.heap.size, 0, none⟩) l.length l.length) l := by
  refine ⟨some ⟨w.heap.size, 0, none⟩, l.length, rfl, by simp; omega, fun _ => ⟨w.heap.size, 0, rfl, by simp, fun j s hs => ?_⟩⟩
  rw [cell_of_row _ _ _ _ _ _ (heap_alloc_new w _)]
  simp [hs]
theorem addSt_start {w w1 : World} {bc : Nat} {p : Pt} (hL : w1.heap[w.heap.size]? = some (.cells #[.pointer (some ⟨bc, 0, none⟩)] 29 (0, 0))) (hP : w1.heap[w.heap.size + 1]? = some (.cells #[S p.l, S p.s, S p.r] 57 (0, 0)))
    (hZ : w1.heap[w.heap.size + 1 + 1]? = some (.cells #[S [], S [], S []] 57 (0, 0))) (hb : Below w.heap.size w w1) :
    AddSt w bc w1.heap.size ((w1.alloc (.cells #[.string ⟨#[]⟩, .string ⟨#[]⟩, .string ⟨#[]⟩] 57)).alloc (.cells #[.bool false] 4)) p Pt.zero false := by
  have s1 : (w1.alloc (.cells #[.string ⟨#[]⟩, .string ⟨#[]⟩, .string ⟨#[]⟩] 57)).heap.size = w1.heap.size + 1 := by simp
  have l1 := lt_of_block hL
  have l2 := lt_of_block hP
  have l3 := lt_of_block hZ
  have hh := below2 w1 (.cells #[.string ⟨#[]⟩, .string ⟨#[]⟩, .string ⟨#[]⟩] 57) (.cells #[.bool false] 4)
  exact ⟨(hh.block _ l1).trans hL, (hh.block _ l2).trans hP, (hh.block _ l3).trans hZ, heap_alloc2_old w1 _ _, heap_alloc2_new w1 _ _, hb.then hh, l3⟩

set_option maxRecDepth 100000 in
set_option maxHeartbeats 16000000 in
theorem add_any (w : World) (v : Value) (D : List (Pt × Pt)) (p : Pt) (hL : LkRd w v D) (hp : PtSz p) :
    Calls Tryz.prog 30 #[v, ptV p] w fun e w' => e = .returned (.tuple #[ptV (addP D p).1, .bool (addP D p).2]) ∧ Below w.heap.size w w' := by
  have HL := hid hL
  obtain ⟨bc, bm, n, rfl, hlt, hc, hown⟩ := hL
  have HP := hid hp
  obtain ⟨pl, ps, pr⟩ := p
  have TR := hid (fun W tb tq k needs nv st hk hn => try_any w W bc tb D ⟨pl, ps, pr⟩ tq k false needs nv HL.out st hk hn)
  have FU := hid full_any
  clear hlt hc hown hp
  have s1 : (w.alloc (.cells #[.pointer (some ⟨bc, 0, none⟩)] 29)).heap.size = w.heap.size + 1 := by simp
  have s2 : ((w.alloc (.cells #[.pointer (some ⟨bc, 0, none⟩)] 29)).alloc (.cells #[.string ⟨pl.toArray⟩, .string ⟨ps.toArray⟩, .string ⟨pr.toArray⟩] 57)).heap.size = w.heap.size + 1 + 1 := by simp
  have HB0 := hid (show Below w.heap.size w (((w.alloc (.cells #[.pointer (some ⟨bc, 0, none⟩)] 29)).alloc (.cells #[.string ⟨pl.toArray⟩, .string ⟨ps.toArray⟩, .string ⟨pr.toArray⟩] 57)).alloc (.cells #[.string ⟨#[]⟩, .string ⟨#[]⟩, .string ⟨#[]⟩] 57)) from (((Below.refl _ _).alloc (Nat.le_refl _) _).alloc (by rw [s1]; omega) _).alloc (by rw [s2]; omega) _)
  have HL0 := hid (show (((w.alloc (.cells #[.pointer (some ⟨bc, 0, none⟩)] 29)).alloc (.cells #[.string ⟨pl.toArray⟩, .string ⟨ps.toArray⟩, .string ⟨pr.toArray⟩] 57)).alloc (.cells #[.string ⟨#[]⟩, .string ⟨#[]⟩, .string ⟨#[]⟩] 57)).heap[w.heap.size]? = some (.cells #[.pointer (some ⟨bc, 0, none⟩)] 29 (0, 0)) from
    (heap_alloc_old _ _ (by rw [s2]; omega)).trans ((heap_alloc_old _ _ (by rw [s1]; omega)).trans (heap_alloc_new w _)))
  have HP0 := hid (show (((w.alloc (.cells #[.pointer (some ⟨bc, 0, none⟩)] 29)).alloc (.cells #[.string ⟨pl.toArray⟩, .string ⟨ps.toArray⟩, .string ⟨pr.toArray⟩] 57)).alloc (.cells #[.string ⟨#[]⟩, .string ⟨#[]⟩, .string ⟨#[]⟩] 57)).heap[w.heap.size + 1]? = some (.cells #[.string ⟨pl.toArray⟩, .string ⟨ps.toArray⟩, .string ⟨pr.toArray⟩] 57 (0, 0)) from by
    refine (heap_alloc_old _ _ (by rw [s2]; omega)).trans ?_
    have := heap_alloc_new (w.alloc (.cells #[.pointer (some ⟨bc, 0, none⟩)] 29)) (.cells #[.string ⟨pl.toArray⟩, .string ⟨ps.toArray⟩, .string ⟨pr.toArray⟩] 57)
    rw [s1] at this
    exact this)
  have HZ0 := hid (show (((w.alloc (.cells #[.pointer (some ⟨bc, 0, none⟩)] 29)).alloc (.cells #[.string ⟨pl.toArray⟩, .string ⟨ps.toArray⟩, .string ⟨pr.toArray⟩] 57)).alloc (.cells #[.string ⟨#[]⟩, .string ⟨#[]⟩, .string ⟨#[]⟩] 57)).heap[w.heap.size + 1 + 1]? = some (.cells #[.string ⟨#[]⟩, .string ⟨#[]⟩, .string ⟨#[]⟩] 57 (0, 0)) from by
    have := heap_alloc_new ((w.alloc (.cells #[.pointer (some ⟨bc, 0, none⟩)] 29)).alloc (.cells #[.string ⟨pl.toArray⟩, .string ⟨ps.toArray⟩, .string ⟨pr.toArray⟩] 57)) (.cells #[.string ⟨#[]⟩, .string ⟨#[]⟩, .string ⟨#[]⟩] 57)
    rw [s2] at this
    exact this)
  clear s1 s2
  simp only [ptV, S] at FU ⊢
  go_enter Tryz.func30, Tryz.ntmps30
  go_upto_region 1 with (fail)
  generalize (((w.alloc (.cells #[.pointer (some ⟨bc, 0, none⟩)] 29)).alloc (.cells #[.string ⟨pl.toArray⟩, .string ⟨ps.toArray⟩, .string ⟨pr.toArray⟩] 57)).alloc (.cells #[.string ⟨#[]⟩, .string ⟨#[]⟩, .string ⟨#[]⟩] 57)) = w0 at *
  obtain ⟨c0, c1, c2⟩ := box3_cells HP0.out
  have ltp := lt_of_block HP0.out
  go_step3
  go_wp2_with fail
  refine (FU.out _ ⟨pl, ps, pr⟩).mono ?_
  rintro e w1 ⟨rfl, hb1⟩
  have HL1 := hid ((hb1.block _ (lt_of_block HL0.out)).trans HL0.out)
  have HP1 := hid ((hb1.block _ (lt_of_block HP0.out)).trans HP0.out)
  have HZ1 := hid ((hb1.block _ (lt_of_block HZ0.out)).trans HZ0.out)
  have HB1 := hid (HB0.out.then hb1)
  clear c0 c1 c2 ltp hb1 HL0 HP0 HZ0 HB0
  by_cases hful : Pt.full ⟨pl, ps, pr⟩
  · have HQ := hid (show addP D ⟨pl, ps, pr⟩ = (⟨pl, ps, pr⟩, true) from if_pos hful)
    rw [decide_eq_true hful]
    clear hful
    obtain ⟨c0, c1, c2⟩ := box3_cells HP1.out
    obtain ⟨d0, d1, d2⟩ := box3_cells HZ1.out
    have ltp := lt_of_block HP1.out
    have ltz := lt_of_block HZ1.out
    have fz0 := frozen_of_row w1 (w.heap.size + 1 + 1) 0 _ _ HZ1.out
    have fz1 := frozen_of_row w1 (w.heap.size + 1 + 1) 1 _ _ HZ1.out
    have fz2 := frozen_of_row w1 (w.heap.size + 1 + 1) 2 _ _ HZ1.out
    go_wp2_with fail
    have hr := P3_row (S pl) (S ps) (S pr) HZ1.out
    have hw := P3_below (S pl) (S ps) (S pr) HB1.out (show w.heap.size ≤ w.heap.size + 1 + 1 by omega)
    clear c0 c1 c2 d0 d1 d2 fz0 fz1 fz2 ltp ltz
    try simp only [Exit.inBlock, Exit.then]
    rw [Exit.noGoto_ret]
    change bodyPost _ _ _ _ _ (P3 w1 (w.heap.size + 1 + 1) (S pl) (S ps) (S pr))
    generalize P3 w1 (w.heap.size + 1 + 1) (S pl) (S ps) (S pr) = V at *
    obtain ⟨d0, d1, d2⟩ := box3_cells hr
    refine bodyPost_ret (v := .tuple #[ptV ⟨pl, ps, pr⟩, .bool true]) (by simp [results, Tryz.results30, go_sem, d0, d1, d2, ptV]) rfl ⟨by rw [HQ.out]; rfl, hw⟩
  · have HF := hid hful
    rw [decide_eq_false hful]
    clear hful
    go_wp2_with fail
    have ST0 := hid (addSt_start (p := ⟨pl, ps, pr⟩) HL1.out HP1.out HZ1.out HB1.out)
    clear HL1 HP1 HZ1 HB1
    go_step3
    go_upto_block 0 with fail
    generalize (w1.alloc (.cells #[.string ⟨#[]⟩, .string ⟨#[]⟩, .string ⟨#[]⟩] 57)).alloc (.cells #[.bool false] 4) = wz at *
    go_cut [] from 9 to 69 (fun wx => ∃ tq fnd, AddSt w bc w1.heap.size wx ⟨pl, ps, pr⟩ tq fnd ∧ (fnd = false → findP D (tryKeys ⟨pl, ps, pr⟩) = none) ∧ (fnd = true → findP D (tryKeys ⟨pl, ps, pr⟩) = some tq))
    case first =>
     go_wp2_with fail
     go_loopg [14] 5 (fun g vi W => ∃ n : Nat, n ≤ 5 ∧ 5 ≤ n + g ∧ vi = .int .i64 n ∧ ∃ tq fnd, AddSt w bc w1.heap.size W ⟨pl, ps, pr⟩ tq fnd ∧ (fnd = false → lostN D ⟨pl, ps, pr⟩ n) ∧ (fnd = true → n = 5 ∧ findP D (tryKeys ⟨pl, ps, pr⟩) = some tq))
     case atStart => exact ⟨0, by omega, by omega, rfl, Pt.zero, false, ST0.out, fun _ j hj => by omega, fun h => by cases h⟩
     case round =>
      obtain ⟨n, hn, hg, hvi, tq, fnd, st, hf0, hf1⟩ := hrel
      rename World => w2
      have ST2 := hid st
      have HG := hid hg
      have HB2 := hid (show Below w.heap.size w w2 from st.bel)
      clear st hg
      by_cases h5 : n = 5
      · subst h5
        have hvi5 : _ = Value.int .i64 5 := hvi
        subst hvi5
        have HF0 := hid hf0
        have HF1 := hid hf1
        clear hf0 hf1
        go_wp2_with fail
        go_meet
        case rel => exact ⟨tq, fnd, ST2.out, fun h => lostN_all (HF0.out h), fun h => (HF1.out h).2⟩
      obtain rfl : fnd = false := by
        cases fnd with
        | true => exact absurd (hf1 rfl).1 h5
        | false => rfl
      have HST := hid (show ∃ tq, AddSt w bc w1.heap.size w2 ⟨pl, ps, pr⟩ tq false from ⟨tq, ST2.out⟩)
      have HLOST := hid (hf0 rfl)
      clear hf0 hf1 ST0
      rcases (by omega : n = 0 ∨ n = 1 ∨ n = 2 ∨ n = 3 ∨ n = 4) with rfl | rfl | rfl | rfl | rfl
      · -- the try 0
        have HL2 := hid (HL.out.below HB2.out)
        have hvi0 : _ = Value.int .i64 0 := hvi
        subst hvi0
        obtain ⟨c0, c1, c2⟩ := box3_cells ST2.out.bp
        simp only [S] at c0 c1 c2
        have ltp := lt_of_block ST2.out.bp
        have HA := hid (show Below w2.heap.size w2 (w2.alloc (.cells #[.string ⟨ps.toArray⟩, .string ⟨pr.toArray⟩] 9)) from (Below.refl _ _).alloc (Nat.le_refl _) _)
        have HN := hid (rdS_fresh w2 [ps, pr] (by simp))
        simp only [List.map_cons, List.map_nil, S] at HN
        have ST3 := hid (ST2.out.below HA.out)
        have TR3 := hid (TR.out (w2.alloc (.cells #[.string ⟨ps.toArray⟩, .string ⟨pr.toArray⟩] 9)) w1.heap.size tq (keyN ⟨pl, ps, pr⟩ 0) (needsN ⟨pl, ps, pr⟩ 0) _ ST3.out (keyN_sz HP.out 0) HN.out)
        simp only [keyN, needsN, ptV, S, vnil] at TR3
        go_wp2_with fail
        refine TR3.out.mono ?_
        rintro e w3 ho
        rcases try_out (p := ⟨pl, ps, pr⟩) (n := 0) (by decide) HLOST.out ho with ⟨rfl, to2, st2, lost2⟩ | ⟨q, rfl, st2, hq⟩
        · have HS2 := hid st2
          have HL3 := hid lost2
          clear st2 lost2 ho c0 c1 c2 ltp
          go_wp2_with fail
          go_roundg (gk - 1)
          case measure => have := HG.out; omega
          case rel => exact ⟨1, by omega, by have := HG.out; omega, rfl, to2, false, HS2.out, fun _ => HL3.out, fun h => (by cases h)⟩
        · have HS2 := hid st2
          have HQ2 := hid hq
          clear st2 hq ho c0 c1 c2 ltp
          go_wp2_with fail
          go_meet
          case rel => exact ⟨q, true, HS2.out, fun h => (by cases h), fun _ => HQ2.out⟩
      · -- the try 1
        have HL2 := hid (HL.out.below HB2.out)
        have hvi1 : _ = Value.int .i64 1 := hvi
        subst hvi1
        obtain ⟨c0, c1, c2⟩ := box3_cells ST2.out.bp
        simp only [S] at c0 c1 c2
        have ltp := lt_of_block ST2.out.bp
        have HA := hid (show Below w2.heap.size w2 (w2.alloc (.cells #[.string ⟨pr.toArray⟩] 9)) from (Below.refl _ _).alloc (Nat.le_refl _) _)
        have HN := hid (rdS_fresh w2 [pr] (by simp))
        simp only [List.map_cons, List.map_nil, S] at HN
        have ST3 := hid (ST2.out.below HA.out)
        have TR3 := hid (TR.out (w2.alloc (.cells #[.string ⟨pr.toArray⟩] 9)) w1.heap.size tq (keyN ⟨pl, ps, pr⟩ 1) (needsN ⟨pl, ps, pr⟩ 1) _ ST3.out (keyN_sz HP.out 1) HN.out)
        simp only [keyN, needsN, ptV, S, vnil] at TR3
        go_wp2_with fail
        refine TR3.out.mono ?_
        rintro e w3 ho
        rcases try_out (p := ⟨pl, ps, pr⟩) (n := 1) (by decide) HLOST.out ho with ⟨rfl, to2, st2, lost2⟩ | ⟨q, rfl, st2, hq⟩
        · have HS2 := hid st2
          have HL3 := hid lost2
          clear st2 lost2 ho c0 c1 c2 ltp
          go_wp2_with fail
          go_roundg (gk - 1)
          case measure => have := HG.out; omega
          case rel => exact ⟨2, by omega, by have := HG.out; omega, rfl, to2, false, HS2.out, fun _ => HL3.out, fun h => (by cases h)⟩
        · have HS2 := hid st2
          have HQ2 := hid hq
          clear st2 hq ho c0 c1 c2 ltp
          go_wp2_with fail
          go_meet
          case rel => exact ⟨q, true, HS2.out, fun h => (by cases h), fun _ => HQ2.out⟩
      · -- the try 2
        have HL2 := hid (HL.out.below HB2.out)
        have hvi2 : _ = Value.int .i64 2 := hvi
        subst hvi2
        obtain ⟨c0, c1, c2⟩ := box3_cells ST2.out.bp
        simp only [S] at c0 c1 c2
        have ltp := lt_of_block ST2.out.bp
        have HA := hid (show Below w2.heap.size w2 (w2.alloc (.cells #[.string ⟨ps.toArray⟩] 9)) from (Below.refl _ _).alloc (Nat.le_refl _) _)
        have HN := hid (rdS_fresh w2 [ps] (by simp))
        simp only [List.map_cons, List.map_nil, S] at HN
        have ST3 := hid (ST2.out.below HA.out)
        have TR3 := hid (TR.out (w2.alloc (.cells #[.string ⟨ps.toArray⟩] 9)) w1.heap.size tq (keyN ⟨pl, ps, pr⟩ 2) (needsN ⟨pl, ps, pr⟩ 2) _ ST3.out (keyN_sz HP.out 2) HN.out)
        simp only [keyN, needsN, ptV, S, vnil] at TR3
        go_wp2_with fail
        refine TR3.out.mono ?_
        rintro e w3 ho
        rcases try_out (p := ⟨pl, ps, pr⟩) (n := 2) (by decide) HLOST.out ho with ⟨rfl, to2, st2, lost2⟩ | ⟨q, rfl, st2, hq⟩
        · have HS2 := hid st2
          have HL3 := hid lost2
          clear st2 lost2 ho c0 c1 c2 ltp
          go_wp2_with fail
          go_roundg (gk - 1)
          case measure => have := HG.out; omega
          case rel => exact ⟨3, by omega, by have := HG.out; omega, rfl, to2, false, HS2.out, fun _ => HL3.out, fun h => (by cases h)⟩
        · have HS2 := hid st2
          have HQ2 := hid hq
          clear st2 hq ho c0 c1 c2 ltp
          go_wp2_with fail
          go_meet
          case rel => exact ⟨q, true, HS2.out, fun h => (by cases h), fun _ => HQ2.out⟩
      · -- the try 3
        have HL2 := hid (HL.out.below HB2.out)
        have hvi3 : _ = Value.int .i64 3 := hvi
        subst hvi3
        obtain ⟨c0, c1, c2⟩ := box3_cells ST2.out.bp
        simp only [S] at c0 c1 c2
        have ltp := lt_of_block ST2.out.bp
        have TR3 := hid (TR.out w2 w1.heap.size tq (keyN ⟨pl, ps, pr⟩ 3) (needsN ⟨pl, ps, pr⟩ 3) _ ST2.out (keyN_sz HP.out 3) (RdS.nil w2))
        simp only [keyN, needsN, ptV, S, vnil] at TR3
        go_wp2_with fail
        refine TR3.out.mono ?_
        rintro e w3 ho
        rcases try_out (p := ⟨pl, ps, pr⟩) (n := 3) (by decide) HLOST.out ho with ⟨rfl, to2, st2, lost2⟩ | ⟨q, rfl, st2, hq⟩
        · have HS2 := hid st2
          have HL3 := hid lost2
          clear st2 lost2 ho c0 c1 c2 ltp
          go_wp2_with fail
          go_roundg (gk - 1)
          case measure => have := HG.out; omega
          case rel => exact ⟨4, by omega, by have := HG.out; omega, rfl, to2, false, HS2.out, fun _ => HL3.out, fun h => (by cases h)⟩
        · have HS2 := hid st2
          have HQ2 := hid hq
          clear st2 hq ho c0 c1 c2 ltp
          go_wp2_with fail
          go_meet
          case rel => exact ⟨q, true, HS2.out, fun h => (by cases h), fun _ => HQ2.out⟩
      · -- the try 4
        have HL2 := hid (HL.out.below HB2.out)
        have hvi4 : _ = Value.int .i64 4 := hvi
        subst hvi4
        obtain ⟨c0, c1, c2⟩ := box3_cells ST2.out.bp
        simp only [S] at c0 c1 c2
        have ltp := lt_of_block ST2.out.bp
        have HA := hid (show Below w2.heap.size w2 (w2.alloc (.cells #[.string ⟨ps.toArray⟩] 9)) from (Below.refl _ _).alloc (Nat.le_refl _) _)
        have HN := hid (rdS_fresh w2 [ps] (by simp))
        simp only [List.map_cons, List.map_nil, S] at HN
        have ST3 := hid (ST2.out.below HA.out)
        have TR3 := hid (TR.out (w2.alloc (.cells #[.string ⟨ps.toArray⟩] 9)) w1.heap.size tq (keyN ⟨pl, ps, pr⟩ 4) (needsN ⟨pl, ps, pr⟩ 4) _ ST3.out (keyN_sz HP.out 4) HN.out)
        simp only [keyN, needsN, ptV, S, vnil] at TR3
        go_wp2_with fail
        refine TR3.out.mono ?_
        rintro e w3 ho
        rcases try_out (p := ⟨pl, ps, pr⟩) (n := 4) (by decide) HLOST.out ho with ⟨rfl, to2, st2, lost2⟩ | ⟨q, rfl, st2, hq⟩
        · have HS2 := hid st2
          have HL3 := hid lost2
          clear st2 lost2 ho c0 c1 c2 ltp
          go_wp2_with fail
          go_roundg (gk - 1)
          case measure => have := HG.out; omega
          case rel => exact ⟨5, by omega, by have := HG.out; omega, rfl, to2, false, HS2.out, fun _ => HL3.out, fun h => (by cases h)⟩
        · have HS2 := hid st2
          have HQ2 := hid hq
          clear st2 hq ho c0 c1 c2 ltp
          go_wp2_with fail
          go_roundg (gk - 1)
          case measure => have := HG.out; omega
          case rel => exact ⟨5, by omega, by have := HG.out; omega, rfl, q, true, HS2.out, fun h => (by cases h), fun _ => ⟨rfl, HQ2.out⟩⟩
    case rest =>
     obtain ⟨tq, fnd, st, hf0, hf1⟩ := hcut
     have ST := hid st
     have HF0 := hid hf0
     have HF1 := hid hf1
     clear st hf0 hf1 ST0 TR
     obtain ⟨c0, c1, c2⟩ := box3_cells ST.out.bp
     obtain ⟨d0, d1, d2⟩ := box3_cells ST.out.br
     obtain ⟨t0, t1, t2⟩ := box3_cells ST.out.bt
     simp only [S] at c0 c1 c2 d0 d1 d2 t0 t1 t2
     have f0 : wc.cell? ⟨w1.heap.size + 1, 0, none⟩ = some (.bool fnd) := by rw [cell_of_row _ _ _ _ _ _ ST.out.bf]; rfl
     have zd0 := frozen_of_row wc (w.heap.size + 1 + 1) 0 _ _ ST.out.br
     have zd1 := frozen_of_row wc (w.heap.size + 1 + 1) 1 _ _ ST.out.br
     have zd2 := frozen_of_row wc (w.heap.size + 1 + 1) 2 _ _ ST.out.br
     have zc0 := frozen_of_row wc (w.heap.size + 1) 0 _ _ ST.out.bp
     have zc1 := frozen_of_row wc (w.heap.size + 1) 1 _ _ ST.out.bp
     have zc2 := frozen_of_row wc (w.heap.size + 1) 2 _ _ ST.out.bp
     have ltp := lt_of_block ST.out.bp
     have ltr := lt_of_block ST.out.br
     have ltt := lt_of_block ST.out.bt
     have ltf := lt_of_block ST.out.bf
     cases fnd with
     | false =>
      have HA := hid (addP_lost HF.out (HF0.out rfl))
      clear HF0 HF1
      go_wp2_with fail
      try simp only [Exit.inBlock, Exit.then]
      try rw [Exit.noGoto_ret]
      change bodyPost _ _ _ _ _ (P3 wc (w.heap.size + 1 + 1) (S pl) (S ps) (S pr))
      exact add_ret ST.out false HA.out rfl rfl rfl
     | true =>
      have HFD := hid (HF1.out rfl)
      clear HF0 HF1
      obtain ⟨ql, qs, qr⟩ := tq
      simp only [S] at t0 t1 t2
      by_cases h0 : pl = [] <;> by_cases h1 : ps = [] <;> by_cases h2 : pr = []
      · -- eee
        have p0 : (pl == []) = true := by rw [h0]; rfl
        have p1 : (ps == []) = true := by rw [h1]; rfl
        have p2 : (pr == []) = true := by rw [h2]; rfl
        have HE := hid (show fillP ⟨pl, ps, pr⟩ ⟨ql, qs, qr⟩ = ⟨ql, qs, qr⟩ by unfold fillP orStr; simp [h0, h1, h2])
        have HEND := hid (((ST.out.setL ql).setS qs).setR qr)
        have HA := hid (show addP D ⟨pl, ps, pr⟩ = (⟨ql, qs, qr⟩, true) by rw [addP_found HF.out HFD.out, HE.out])
        clear h0 h1 h2
        go_wp2_with fail
        try simp only [Exit.inBlock, Exit.then]
        try rw [Exit.noGoto_ret]
        change bodyPost _ _ _ _ _ (P3 (((wc.setCell ⟨w.heap.size + 1, 0, none⟩ (S ql)).setCell ⟨w.heap.size + 1, 1, none⟩ (S qs)).setCell ⟨w.heap.size + 1, 2, none⟩ (S qr)) (w.heap.size + 1 + 1) (S ql) (S qs) (S qr))
        exact add_ret HEND.out true HA.out rfl rfl rfl
      · -- eef
        have p0 : (pl == []) = true := by rw [h0]; rfl
        have p1 : (ps == []) = true := by rw [h1]; rfl
        have p2 : (pr == []) = false := by rw [beq_eq_false_iff_ne]; exact h2
        have HE := hid (show fillP ⟨pl, ps, pr⟩ ⟨ql, qs, qr⟩ = ⟨ql, qs, pr⟩ by unfold fillP orStr; simp [h0, h1, h2])
        have HEND := hid ((ST.out.setL ql).setS qs)
        have HA := hid (show addP D ⟨pl, ps, pr⟩ = (⟨ql, qs, pr⟩, true) by rw [addP_found HF.out HFD.out, HE.out])
        clear h0 h1 h2
        go_wp2_with fail
        try simp only [Exit.inBlock, Exit.then]
        try rw [Exit.noGoto_ret]
        change bodyPost _ _ _ _ _ (P3 ((wc.setCell ⟨w.heap.size + 1, 0, none⟩ (S ql)).setCell ⟨w.heap.size + 1, 1, none⟩ (S qs)) (w.heap.size + 1 + 1) (S ql) (S qs) (S pr))
        exact add_ret HEND.out true HA.out rfl rfl rfl
      · -- efe
        have p0 : (pl == []) = true := by rw [h0]; rfl
        have p1 : (ps == []) = false := by rw [beq_eq_false_iff_ne]; exact h1
        have p2 : (pr == []) = true := by rw [h2]; rfl
        have HE := hid (show fillP ⟨pl, ps, pr⟩ ⟨ql, qs, qr⟩ = ⟨ql, ps, qr⟩ by unfold fillP orStr; simp [h0, h1, h2])
        have HEND := hid ((ST.out.setL ql).setR qr)
        have HA := hid (show addP D ⟨pl, ps, pr⟩ = (⟨ql, ps, qr⟩, true) by rw [addP_found HF.out HFD.out, HE.out])
        clear h0 h1 h2
        go_wp2_with fail
        try simp only [Exit.inBlock, Exit.then]
        try rw [Exit.noGoto_ret]
        change bodyPost _ _ _ _ _ (P3 ((wc.setCell ⟨w.heap.size + 1, 0, none⟩ (S ql)).setCell ⟨w.heap.size + 1, 2, none⟩ (S qr)) (w.heap.size + 1 + 1) (S ql) (S ps) (S qr))
        exact add_ret HEND.out true HA.out rfl rfl rfl
      · -- eff
        have p0 : (pl == []) = true := by rw [h0]; rfl
        have p1 : (ps == []) = false := by rw [beq_eq_false_iff_ne]; exact h1
        have p2 : (pr == []) = false := by rw [beq_eq_false_iff_ne]; exact h2
        have HE := hid (show fillP ⟨pl, ps, pr⟩ ⟨ql, qs, qr⟩ = ⟨ql, ps, pr⟩ by unfold fillP orStr; simp [h0, h1, h2])
        have HEND := hid (ST.out.setL ql)
        have HA := hid (show addP D ⟨pl, ps, pr⟩ = (⟨ql, ps, pr⟩, true) by rw [addP_found HF.out HFD.out, HE.out])
        clear h0 h1 h2
        go_wp2_with fail
        try simp only [Exit.inBlock, Exit.then]
        try rw [Exit.noGoto_ret]
        change bodyPost _ _ _ _ _ (P3 (wc.setCell ⟨w.heap.size + 1, 0, none⟩ (S ql)) (w.heap.size + 1 + 1) (S ql) (S ps) (S pr))
        exact add_ret HEND.out true HA.out rfl rfl rfl
      · -- fee
        have p0 : (pl == []) = false := by rw [beq_eq_false_iff_ne]; exact h0
        have p1 : (ps == []) = true := by rw [h1]; rfl
        have p2 : (pr == []) = true := by rw [h2]; rfl
        have HE := hid (show fillP ⟨pl, ps, pr⟩ ⟨ql, qs, qr⟩ = ⟨pl, qs, qr⟩ by unfold fillP orStr; simp [h0, h1, h2])
        have HEND := hid ((ST.out.setS qs).setR qr)
        have HA := hid (show addP D ⟨pl, ps, pr⟩ = (⟨pl, qs, qr⟩, true) by rw [addP_found HF.out HFD.out, HE.out])
        clear h0 h1 h2
        go_wp2_with fail
        try simp only [Exit.inBlock, Exit.then]
        try rw [Exit.noGoto_ret]
        change bodyPost _ _ _ _ _ (P3 ((wc.setCell ⟨w.heap.size + 1, 1, none⟩ (S qs)).setCell ⟨w.heap.size + 1, 2, none⟩ (S qr)) (w.heap.size + 1 + 1) (S pl) (S qs) (S qr))
        exact add_ret HEND.out true HA.out rfl rfl rfl
      · -- fef
        have p0 : (pl == []) = false := by rw [beq_eq_false_iff_ne]; exact h0
        have p1 : (ps == []) = true := by rw [h1]; rfl
        have p2 : (pr == []) = false := by rw [beq_eq_false_iff_ne]; exact h2
        have HE := hid (show fillP ⟨pl, ps, pr⟩ ⟨ql, qs, qr⟩ = ⟨pl, qs, pr⟩ by unfold fillP orStr; simp [h0, h1, h2])
        have HEND := hid (ST.out.setS qs)
        have HA := hid (show addP D ⟨pl, ps, pr⟩ = (⟨pl, qs, pr⟩, true) by rw [addP_found HF.out HFD.out, HE.out])
        clear h0 h1 h2
        go_wp2_with fail
        try simp only [Exit.inBlock, Exit.then]
        try rw [Exit.noGoto_ret]
        change bodyPost _ _ _ _ _ (P3 (wc.setCell ⟨w.heap.size + 1, 1, none⟩ (S qs)) (w.heap.size + 1 + 1) (S pl) (S qs) (S pr))
        exact add_ret HEND.out true HA.out rfl rfl rfl
      · -- ffe
        have p0 : (pl == []) = false := by rw [beq_eq_false_iff_ne]; exact h0
        have p1 : (ps == []) = false := by rw [beq_eq_false_iff_ne]; exact h1
        have p2 : (pr == []) = true := by rw [h2]; rfl
        have HE := hid (show fillP ⟨pl, ps, pr⟩ ⟨ql, qs, qr⟩ = ⟨pl, ps, qr⟩ by unfold fillP orStr; simp [h0, h1, h2])
        have HEND := hid (ST.out.setR qr)
        have HA := hid (show addP D ⟨pl, ps, pr⟩ = (⟨pl, ps, qr⟩, true) by rw [addP_found HF.out HFD.out, HE.out])
        clear h0 h1 h2
        go_wp2_with fail
        try simp only [Exit.inBlock, Exit.then]
        try rw [Exit.noGoto_ret]
        change bodyPost _ _ _ _ _ (P3 (wc.setCell ⟨w.heap.size + 1, 2, none⟩ (S qr)) (w.heap.size + 1 + 1) (S pl) (S ps) (S qr))
        exact add_ret HEND.out true HA.out rfl rfl rfl
      · -- fff
        have p0 : (pl == []) = false := by rw [beq_eq_false_iff_ne]; exact h0
        have p1 : (ps == []) = false := by rw [beq_eq_false_iff_ne]; exact h1
        have p2 : (pr == []) = false := by rw [beq_eq_false_iff_ne]; exact h2
        have HE := hid (show fillP ⟨pl, ps, pr⟩ ⟨ql, qs, qr⟩ = ⟨pl, ps, pr⟩ by unfold fillP orStr; simp [h0, h1, h2])
        have HEND := hid ST.out
        have HA := hid (show addP D ⟨pl, ps, pr⟩ = (⟨pl, ps, pr⟩, true) by rw [addP_found HF.out HFD.out, HE.out])
        clear h0 h1 h2
        go_wp2_with fail
        try simp only [Exit.inBlock, Exit.then]
        try rw [Exit.noGoto_ret]
        change bodyPost _ _ _ _ _ (P3 wc (w.heap.size + 1 + 1) (S pl) (S ps) (S pr))
        exact add_ret HEND.out true HA.out rfl rfl rfl
end Go.Proofs.YtlmgmifaknlolaaGreat

/- The contracts of likely.Full, Add: the frames. -/
set_option linter.unusedVariables false
set_option linter.unusedSimpArgs false
namespace Go.Proofs.YtlmgmifaknlolaaGreat
open Go.RowKit Go.Lib Go.Sort

def szT (t : Tg) : Nat := t.lang.length + t.script.length + t.region.length + sz t.vars + sz (t.keys.flatMap pairParts) + 16
theorem sz_head (l : Str) : sz [headPart l] ≤ l.length + 4 := by
  rw [sz_cons, sz_nil]
  unfold headPart
  split
  · simp [tUnd]
  · omega
theorem sz_filter (l : List Str) : sz (l.filter full) ≤ sz l := by
  induction l with
  | nil => exact Nat.le_refl _
  | cons a l ih =>
    rw [List.filter_cons]
    split
    · rw [sz_cons, sz_cons]; omega
    · rw [sz_cons]; omega
theorem write_le (t : Tg) : (writeF t).length ≤ szT t := by
  have h1 : (writeF t).length + 1 = sz (parts t) := by
    unfold writeF parts partsA
    exact join_sz _ _
  have h2 : sz (parts t) ≤ szT t + 1 := by
    unfold parts partsA szT
    rw [List.cons_append, show (∀ (a : Str) (l : List Str), a :: l = [a] ++ l) from fun _ _ => rfl, sz_append, sz_append, sz_append]
    have h3 := sz_head t.lang
    have h4 := sz_filter ([t.script, t.region] ++ t.vars)
    rw [sz_append, sz_cons, sz_cons, sz_nil] at h4
    have h5 : sz (uPart t.keys) ≤ 2 := by unfold uPart; split <;> simp [sz_nil, sz_cons]
    omega
  omega
/-- the keys and values that may be said -/
def goodD (D : List (Pt × Pt)) : Prop := ∀ x ∈ D, Good x.1.tag ∧ Good x.2.tag
theorem goodD_of {l : List (Str × Str)} (h : ∀ x ∈ l, okP x) : goodD (dOf l) := by
  intro y hy
  obtain ⟨x, hx, rfl⟩ := List.mem_map.1 hy
  obtain ⟨h1, h2, _⟩ := h x hx
  exact ⟨(read_ok (p := (ptRead x.1).1) (k := x.1) (by rw [← h1])).1, (read_ok (p := (ptRead x.2).1) (k := x.2) (by rw [← h2])).1⟩
theorem good_lens {p : Pt} (h : Good p.tag) : p.l.length ≤ 129 ∧ p.s.length ≤ 129 ∧ p.r.length ≤ 129 := by
  have hs := h.short
  unfold partsR at hs
  rw [sz_cons, sz_append, sz_append, sz_append] at hs
  have ho : ∀ x : Str, x.length ≤ sz (opt x) := fun x => by
    unfold opt
    split
    · rename_i e; rw [e]; exact Nat.zero_le _
    · rw [sz_cons]; omega
  have h1 := ho p.s
  have h2 := ho p.r
  have h3 : p.l.length ≤ (headPart p.l).length := by
    unfold headPart
    split
    · rename_i e; rw [e]; exact Nat.zero_le _
    · exact Nat.le_refl _
  change (headPart p.l).length + 1 + (sz (opt p.s) + sz (opt p.r) + _ + _) ≤ 129 at hs
  omega
theorem orStr_le (a b : Str) : (orStr a b).length ≤ a.length + b.length := by unfold orStr; split <;> omega
theorem addP_lens {D : List (Pt × Pt)} (hD : goodD D) (p : Pt) : (addP D p).1.l.length ≤ p.l.length + 129 ∧ (addP D p).1.s.length ≤ p.s.length + 129 ∧ (addP D p).1.r.length ≤ p.r.length + 129 := by
  unfold addP
  split
  · exact ⟨by simp, by simp, by simp⟩
  · cases hf : findP D (tryKeys p) with
    | none => exact ⟨by simp, by simp, by simp⟩
    | some q =>
      obtain ⟨k, _, hm⟩ := findP_mem hf
      obtain ⟨h1, h2, h3⟩ := good_lens (hD _ hm).2
      have a1 := orStr_le p.l q.l
      have a2 := orStr_le p.s q.s
      have a3 := orStr_le p.r q.r
      simp only [fillP]
      simp only at h1 h2 h3
      omega
theorem szT_with {D : List (Pt × Pt)} (hD : goodD D) (t : Tg) : szT (withT t (addP D (ptOf t)).1) ≤ szT t + 400 := by
  obtain ⟨h1, h2, h3⟩ := addP_lens hD (ptOf t)
  unfold szT withT
  simp only [ptOf] at h1 h2 h3 ⊢
  omega
theorem szT_pt {t : Tg} (h : szT t ≤ 1000000000) : PtSz (ptOf t) := by
  unfold szT at h
  unfold PtSz maxLen ptOf
  simp only
  omega

theorem OwnT.mono {w : World} {B C : Nat} {v : Value} {t : Tg} (h : OwnT w B v t) (hc : C ≤ B) : OwnT w C v t := by
  obtain ⟨vv, kv, hv, h1, h2⟩ := h
  exact ⟨vv, kv, hv, ownS_mono h1 hc, ownP_mono h2 hc⟩
theorem OwnT.below {w w' : World} {B : Nat} {v : Value} {t : Tg} (h : OwnT w B v t) (hb : Below w.heap.size w w') : OwnT w' B v t := by
  obtain ⟨vv, kv, hv, h1, h2⟩ := h
  exact ⟨vv, kv, hv, own_below h1 hb, own_below h2 hb⟩
theorem OwnT.p5 {w : World} {B b : Nat} {v : Value} {t : Tg} (h : OwnT w B v t) (hb : b < B) (a0 a1 a2 a3 a4 : Value) : OwnT (P5 w b a0 a1 a2 a3 a4) B v t := by
  obtain ⟨vv, kv, hv, h1, h2⟩ := h
  refine ⟨vv, kv, hv, P5_own a0 a1 a2 a3 a4 h1 (fun e => ?_), P5_own a0 a1 a2 a3 a4 h2 (fun e => ?_)⟩
  · have := (World.ownsRow.lt h1 _ e).1; omega
  · have := (World.ownsRow.lt h2 _ e).1; omega
theorem OwnT.shape {w : World} {B : Nat} {v : Value} {t : Tg} (h : OwnT w B v t) : ∃ a c b d, v = .agg #[.string ⟨t.lang.toArray⟩, .string ⟨t.script.toArray⟩, .string ⟨t.region.toArray⟩, .slice a t.vars.length c, .slice b t.keys.length d] := by
  obtain ⟨vv, kv, rfl, h1, h2⟩ := h
  obtain ⟨a, c, rfl⟩ := own_sliceS h1
  obtain ⟨b, d, rfl⟩ := own_sliceP h2
  exact ⟨a, c, b, d, rfl⟩

/-- the boxes of a tag that came in and of the tag that goes out -/
structure AdSt (w : World) (t : Tg) (vv kv : Value) (W : World) : Prop where
  bt : W.heap[w.heap.size]? = some (.cells (tagCells t vv kv) 25 (0, 0))
  bz : W.heap[w.heap.size + 1]? = some (.cells (tagCells Tg.zero vnil vnil) 25 (0, 0))
  rs : RdS W vv t.vars
  rp : RdP W kv t.keys
  bel : Below w.heap.size w W
theorem AdSt.below {w W W' : World} {t : Tg} {vv kv : Value} (h : AdSt w t vv kv W) (hb : Below W.heap.size W W') : AdSt w t vv kv W' :=
  ⟨(hb.block _ (lt_of_block h.bt)).trans h.bt, (hb.block _ (lt_of_block h.bz)).trans h.bz, h.rs.below hb, h.rp.below hb, h.bel.then hb⟩
theorem AdSt.drew {w W : World} {t : Tg} {vv kv : Value} (h : AdSt w t vv kv W) : AdSt w t vv kv W.drew := ⟨h.bt, h.bz, h.rs, h.rp, h.bel.drew⟩
theorem AdSt.c0 {w W : World} {t : Tg} {vv kv : Value} (h : AdSt w t vv kv W) : W.cell? ⟨w.heap.size, 0, none⟩ = some (.string ⟨t.lang.toArray⟩) := (box_cells h.bt).1
theorem AdSt.c1 {w W : World} {t : Tg} {vv kv : Value} (h : AdSt w t vv kv W) : W.cell? ⟨w.heap.size, 1, none⟩ = some (.string ⟨t.script.toArray⟩) := (box_cells h.bt).2.1
theorem AdSt.c2 {w W : World} {t : Tg} {vv kv : Value} (h : AdSt w t vv kv W) : W.cell? ⟨w.heap.size, 2, none⟩ = some (.string ⟨t.region.toArray⟩) := (box_cells h.bt).2.2.1
theorem AdSt.c3 {w W : World} {t : Tg} {vv kv : Value} (h : AdSt w t vv kv W) : W.cell? ⟨w.heap.size, 3, none⟩ = some vv := (box_cells h.bt).2.2.2.1
theorem AdSt.c4 {w W : World} {t : Tg} {vv kv : Value} (h : AdSt w t vv kv W) : W.cell? ⟨w.heap.size, 4, none⟩ = some kv := (box_cells h.bt).2.2.2.2
theorem AdSt.z0 {w W : World} {t : Tg} {vv kv : Value} (h : AdSt w t vv kv W) : W.cell? ⟨w.heap.size + 1, 0, none⟩ = some (.string ⟨#[]⟩) := (box_cells h.bz).1
theorem AdSt.z1 {w W : World} {t : Tg} {vv kv : Value} (h : AdSt w t vv kv W) : W.cell? ⟨w.heap.size + 1, 1, none⟩ = some (.string ⟨#[]⟩) := (box_cells h.bz).2.1
theorem AdSt.z2 {w W : World} {t : Tg} {vv kv : Value} (h : AdSt w t vv kv W) : W.cell? ⟨w.heap.size + 1, 2, none⟩ = some (.string ⟨#[]⟩) := (box_cells h.bz).2.2.1
theorem AdSt.z3 {w W : World} {t : Tg} {vv kv : Value} (h : AdSt w t vv kv W) : W.cell? ⟨w.heap.size + 1, 3, none⟩ = some (.slice none 0 0) := (box_cells h.bz).2.2.2.1
theorem AdSt.z4 {w W : World} {t : Tg} {vv kv : Value} (h : AdSt w t vv kv W) : W.cell? ⟨w.heap.size + 1, 4, none⟩ = some (.slice none 0 0) := (box_cells h.bz).2.2.2.2
theorem AdSt.fz {w W : World} {t : Tg} {vv kv : Value} (h : AdSt w t vv kv W) (j : Nat) : W.frozen? ⟨w.heap.size + 1, j, none⟩ = false := frozen_of_row W _ j _ _ h.bz
theorem AdSt.lz {w W : World} {t : Tg} {vv kv : Value} (h : AdSt w t vv kv W) : w.heap.size + 1 < W.heap.size := lt_of_block h.bz
theorem AdSt.lt {w W : World} {t : Tg} {vv kv : Value} (h : AdSt w t vv kv W) : w.heap.size < W.heap.size := lt_of_block h.bt
theorem AdSt.start {w : World} {t : Tg} {vv kv : Value} (hs : RdS w vv t.vars) (hp : RdP w kv t.keys) :
    AdSt w t vv kv ((w.alloc (.cells (tagCells t vv kv) 25)).alloc (.cells (tagCells Tg.zero vnil vnil) 25)) := by
  have hb := below2 w (.cells (tagCells t vv kv) 25) (.cells (tagCells Tg.zero vnil vnil) 25)
  exact ⟨heap_alloc2_old w _ _, heap_alloc2_new w _ _, hs.below hb, hp.below hb, hb⟩
theorem AdSt.rd {w W : World} {t : Tg} {vv kv : Value} (h : AdSt w t vv kv W) : RdT W (.agg (tagCells t vv kv)) t := ⟨vv, kv, rfl, h.rs, h.rp⟩

/-- what Add and Remove hand back -/
def TagOut (w : World) (r : Tg × Bool) (e : Ending) (w' : World) : Prop := ∃ v', e = .returned (.tuple #[v', .bool r.2]) ∧ OwnT w' w.heap.size v' r.1 ∧ Below w.heap.size w w'
/-- the way out of Add -/
theorem addT_ret {w W : World} {t t' : Tg} {vv kv : Value} {r : Tg × Bool} (st : AdSt w t vv kv W) {B : Nat} (hB : w.heap.size + 1 < B) (b : Bool) (hr : r = (t', b)) {ca cb : Option Addr} {na nb : Nat}
    (own : OwnT W B (.agg #[.string ⟨t'.lang.toArray⟩, .string ⟨t'.script.toArray⟩, .string ⟨t'.region.toArray⟩, .slice ca t'.vars.length na, .slice cb t'.keys.length nb]) t') {a : Act} (hd : a.defers = [])
    (h4 : a.tmps.getD 4 undef = .pointer (some ⟨w.heap.size + 1, 0, none⟩)) (h5 : a.tmps.getD 5 undef = .bool b) :
    bodyPost Tryz.prog Tryz.f15 (TagOut w r) Exit.ret a (P5 W (w.heap.size + 1) (.string ⟨t'.lang.toArray⟩) (.string ⟨t'.script.toArray⟩) (.string ⟨t'.region.toArray⟩) (.slice ca t'.vars.length na) (.slice cb t'.keys.length nb)) := by
  have hrow := P5_row (.string ⟨t'.lang.toArray⟩) (.string ⟨t'.script.toArray⟩) (.string ⟨t'.region.toArray⟩) (.slice ca t'.vars.length na) (.slice cb t'.keys.length nb) st.bz
  have hw := P5_below (.string ⟨t'.lang.toArray⟩) (.string ⟨t'.script.toArray⟩) (.string ⟨t'.region.toArray⟩) (.slice ca t'.vars.length na) (.slice cb t'.keys.length nb) st.bel (Nat.le_succ w.heap.size)
  have ho := (own.p5 hB (.string ⟨t'.lang.toArray⟩) (.string ⟨t'.script.toArray⟩) (.string ⟨t'.region.toArray⟩) (.slice ca t'.vars.length na) (.slice cb t'.keys.length nb)).mono (C := w.heap.size) (by omega)
  generalize P5 W (w.heap.size + 1) (.string ⟨t'.lang.toArray⟩) (.string ⟨t'.script.toArray⟩) (.string ⟨t'.region.toArray⟩) (.slice ca t'.vars.length na) (.slice cb t'.keys.length nb) = V at *
  obtain ⟨d0, d1, d2, d3, d4⟩ := box_cells hrow
  subst hr
  refine bodyPost_ret (v := .tuple #[.agg #[.string ⟨t'.lang.toArray⟩, .string ⟨t'.script.toArray⟩, .string ⟨t'.region.toArray⟩, .slice ca t'.vars.length na, .slice cb t'.keys.length nb], .bool b]) ?_ hd ⟨_, rfl, ho, hw⟩
  obtain ⟨tmps, defers⟩ := a
  simp only [Array.getD_eq_getD_getElem?] at h4 h5
  simp [results, Tryz.results15, go_sem, h4, h5, d0, d1, d2, d3, d4]

theorem add_chk {D : List (Pt × Pt)} {t : Tg} (h : checkF t ≠ 0) : addT D t = (Tg.zero, false) := if_pos h
theorem add_none {D : List (Pt × Pt)} {t : Tg} {m : Pt} (h : checkF t = 0) (ha : addP D (ptOf t) = (m, false)) : addT D t = (withT t m, false) := by
  unfold addT; rw [if_neg (by omega), ha, if_pos (Or.inl rfl)]
theorem add_yes {D : List (Pt × Pt)} {t : Tg} {m : Pt} (h : checkF t = 0) (ha : addP D (ptOf t) = (m, true)) (hm : checkF (withT t m) = 0) : addT D t = (withT t m, true) := by
  unfold addT; rw [if_neg (by omega), ha, if_pos (Or.inr hm)]
theorem add_no {D : List (Pt × Pt)} {t : Tg} {m : Pt} (h : checkF t = 0) (ha : addP D (ptOf t) = (m, true)) (hm : checkF (withT t m) ≠ 0) : addT D t = (t, false) := by
  unfold addT; rw [if_neg (by omega), ha, if_neg (by rintro (e | e); · cases e
                                                     · exact hm e)]
end Go.Proofs.YtlmgmifaknlolaaGreat

/- The contract of likely.Likely.Add. -/
set_option linter.unusedVariables false
set_option linter.unusedSimpArgs false
namespace Go.Proofs.YtlmgmifaknlolaaGreat
open Go.RowKit Go.Lib Go.Sort

/-- Add's and Remove's answer at the end of a drawn region: the tag itself -/
theorem ret5 {w W : World} {t : Tg} {vv kv : Value} (st : AdSt w t vv kv W) : W.cell? ⟨w.heap.size + 1, 0, none⟩ = some (.string ⟨#[]⟩) ∧ W.cell? ⟨w.heap.size + 1, 1, none⟩ = some (.string ⟨#[]⟩) ∧ W.cell? ⟨w.heap.size + 1, 2, none⟩ = some (.string ⟨#[]⟩) ∧ W.cell? ⟨w.heap.size + 1, 3, none⟩ = some (.slice none 0 0) ∧ W.cell? ⟨w.heap.size + 1, 4, none⟩ = some (.slice none 0 0) ∧
    W.frozen? ⟨w.heap.size + 1, 0, none⟩ = false ∧ W.frozen? ⟨w.heap.size + 1, 1, none⟩ = false ∧ W.frozen? ⟨w.heap.size + 1, 2, none⟩ = false ∧ W.frozen? ⟨w.heap.size + 1, 3, none⟩ = false ∧ W.frozen? ⟨w.heap.size + 1, 4, none⟩ = false ∧ w.heap.size + 1 < W.heap.size ∧ w.heap.size < W.heap.size :=
  ⟨st.z0, st.z1, st.z2, st.z3, st.z4, st.fz 0, st.fz 1, st.fz 2, st.fz 3, st.fz 4, st.lz, st.lt⟩

/-- what of and with give where the tag itself is handed back: the region's cells anew -/
theorem of_held {w W : World} {t : Tg} {av ak : Option Addr} {cv ck : Nat} (st : AdSt w t (.slice av t.vars.length cv) (.slice ak t.keys.length ck) W) :
    Calls Tryz.prog 31 #[.agg #[.string ⟨t.lang.toArray⟩, .string ⟨t.script.toArray⟩, .string ⟨t.region.toArray⟩, .slice av t.vars.length cv, .slice ak t.keys.length ck]] W fun e w' => e = .returned (.agg #[.string ⟨t.lang.toArray⟩, .string ⟨t.script.toArray⟩, .string ⟨t.region.toArray⟩]) ∧ AdSt w t (.slice av t.vars.length cv) (.slice ak t.keys.length ck) w' ∧ w'.cell? ⟨w.heap.size + 1, 0, none⟩ = some (.string ⟨#[]⟩) ∧ w'.cell? ⟨w.heap.size + 1, 1, none⟩ = some (.string ⟨#[]⟩) ∧ w'.cell? ⟨w.heap.size + 1, 2, none⟩ = some (.string ⟨#[]⟩) ∧ w'.cell? ⟨w.heap.size + 1, 3, none⟩ = some (.slice none 0 0) ∧ w'.cell? ⟨w.heap.size + 1, 4, none⟩ = some (.slice none 0 0) ∧ w'.frozen? ⟨w.heap.size + 1, 0, none⟩ = false ∧ w'.frozen? ⟨w.heap.size + 1, 1, none⟩ = false ∧ w'.frozen? ⟨w.heap.size + 1, 2, none⟩ = false ∧ w'.frozen? ⟨w.heap.size + 1, 3, none⟩ = false ∧ w'.frozen? ⟨w.heap.size + 1, 4, none⟩ = false ∧ w.heap.size + 1 < w'.heap.size ∧ w.heap.size < w'.heap.size ∧ w'.cell? ⟨w.heap.size, 0, none⟩ = some (.string ⟨t.lang.toArray⟩) ∧ w'.cell? ⟨w.heap.size, 1, none⟩ = some (.string ⟨t.script.toArray⟩) ∧ w'.cell? ⟨w.heap.size, 2, none⟩ = some (.string ⟨t.region.toArray⟩) ∧ w'.cell? ⟨w.heap.size, 3, none⟩ = some (.slice av t.vars.length cv) ∧ w'.cell? ⟨w.heap.size, 4, none⟩ = some (.slice ak t.keys.length ck) :=
  (of_any W (.agg #[.string ⟨t.lang.toArray⟩, .string ⟨t.script.toArray⟩, .string ⟨t.region.toArray⟩, .slice av t.vars.length cv, .slice ak t.keys.length ck]) t st.rd).mono (by
    rintro e w' ⟨rfl, hb⟩
    have s2 := st.below hb
    exact ⟨rfl, s2, s2.z0, s2.z1, s2.z2, s2.z3, s2.z4, s2.fz 0, s2.fz 1, s2.fz 2, s2.fz 3, s2.fz 4, s2.lz, s2.lt, s2.c0, s2.c1, s2.c2, s2.c3, s2.c4⟩)
theorem with_held {w W : World} {t : Tg} {av ak : Option Addr} {cv ck : Nat} (st : AdSt w t (.slice av t.vars.length cv) (.slice ak t.keys.length ck) W) (hv : t.vars.length ≤ 1000) (hk : t.keys.length ≤ 1000) :
    Calls Tryz.prog 32 #[.agg #[.string ⟨t.lang.toArray⟩, .string ⟨t.script.toArray⟩, .string ⟨t.region.toArray⟩, .slice av t.vars.length cv, .slice ak t.keys.length ck], .agg #[.string ⟨t.lang.toArray⟩, .string ⟨t.script.toArray⟩, .string ⟨t.region.toArray⟩]] W fun e w' => ∃ a1 e1 a2 e2, e = .returned (.agg #[.string ⟨t.lang.toArray⟩, .string ⟨t.script.toArray⟩, .string ⟨t.region.toArray⟩, .slice a1 t.vars.length e1, .slice a2 t.keys.length e2]) ∧
      OwnT w' (w.heap.size + 2) (.agg #[.string ⟨t.lang.toArray⟩, .string ⟨t.script.toArray⟩, .string ⟨t.region.toArray⟩, .slice a1 t.vars.length e1, .slice a2 t.keys.length e2]) t ∧ AdSt w t (.slice av t.vars.length cv) (.slice ak t.keys.length ck) w' ∧ w'.cell? ⟨w.heap.size + 1, 0, none⟩ = some (.string ⟨#[]⟩) ∧ w'.cell? ⟨w.heap.size + 1, 1, none⟩ = some (.string ⟨#[]⟩) ∧ w'.cell? ⟨w.heap.size + 1, 2, none⟩ = some (.string ⟨#[]⟩) ∧ w'.cell? ⟨w.heap.size + 1, 3, none⟩ = some (.slice none 0 0) ∧ w'.cell? ⟨w.heap.size + 1, 4, none⟩ = some (.slice none 0 0) ∧ w'.frozen? ⟨w.heap.size + 1, 0, none⟩ = false ∧ w'.frozen? ⟨w.heap.size + 1, 1, none⟩ = false ∧ w'.frozen? ⟨w.heap.size + 1, 2, none⟩ = false ∧ w'.frozen? ⟨w.heap.size + 1, 3, none⟩ = false ∧ w'.frozen? ⟨w.heap.size + 1, 4, none⟩ = false ∧ w.heap.size + 1 < w'.heap.size ∧ w.heap.size < w'.heap.size ∧ w'.cell? ⟨w.heap.size, 0, none⟩ = some (.string ⟨t.lang.toArray⟩) ∧ w'.cell? ⟨w.heap.size, 1, none⟩ = some (.string ⟨t.script.toArray⟩) ∧ w'.cell? ⟨w.heap.size, 2, none⟩ = some (.string ⟨t.region.toArray⟩) ∧ w'.cell? ⟨w.heap.size, 3, none⟩ = some (.slice av t.vars.length cv) ∧ w'.cell? ⟨w.heap.size, 4, none⟩ = some (.slice ak t.keys.length ck) :=
  (with_any W (.agg #[.string ⟨t.lang.toArray⟩, .string ⟨t.script.toArray⟩, .string ⟨t.region.toArray⟩, .slice av t.vars.length cv, .slice ak t.keys.length ck]) t (ptOf t) st.rd hv hk).mono (by
    rintro e w' ⟨v', rfl, own, hb⟩
    have s2 := st.below hb
    obtain ⟨a1, e1, a2, e2, rfl⟩ := own.shape
    exact ⟨a1, e1, a2, e2, rfl, own.mono (by have := st.lz; omega), s2, s2.z0, s2.z1, s2.z2, s2.z3, s2.z4, s2.fz 0, s2.fz 1, s2.fz 2, s2.fz 3, s2.fz 4, s2.lz, s2.lt, s2.c0, s2.c1, s2.c2, s2.c3, s2.c4⟩)

set_option maxRecDepth 100000 in
set_option maxHeartbeats 16000000 in
theorem tadd_any (w : World) (v va : Value) (D : List (Pt × Pt)) (t : Tg) (hL : LkRd w v D) (hT : RdT w va t) (hv : t.vars.length ≤ 1000) (hk : t.keys.length ≤ 1000) (hz : szT t ≤ 1000000000) (hD : goodD D) :
    Calls Tryz.prog 15 #[v, va] w fun e w' => TagOut w (addT D t) e w' := by
  obtain ⟨vv, kv, rfl, hS, hP⟩ := hT
  have HL := hid hL
  have ST0 := hid (AdSt.start hS hP)
  have CK := hid (fun W (st : AdSt w t vv kv W) => check_any W (.agg (tagCells t vv kv)) t st.rd hv hk (Nat.le_trans (write_le t) (by omega)))
  have OF := hid (fun W (st : AdSt w t vv kv W) => of_any W (.agg (tagCells t vv kv)) t st.rd)
  have AD := hid (fun W (st : AdSt w t vv kv W) => add_any W v D (ptOf t) (hL.below st.bel) (szT_pt hz))
  have WI := hid (fun W p (st : AdSt w t vv kv W) => with_any W (.agg (tagCells t vv kv)) t p st.rd hv hk)
  have CM := hid (fun W B v' (h : OwnT W B v' (withT t (addP D (ptOf t)).1)) => check_any W v' _ h.rd hv hk (Nat.le_trans (write_le _) (Nat.le_trans (szT_with hD t) (by omega))))
  have HWO := hid (with_of t)
  obtain ⟨bc, bm, n, rfl, _, _, _⟩ := hL
  obtain ⟨av, cv, rfl, _, _⟩ := hS
  obtain ⟨ak, ck, rfl, _, _⟩ := hP
  clear hz hD
  simp only [vnil] at ST0
  go_enter Tryz.func15, Tryz.ntmps15
  simp only [tagCells, S, Tg.zero, ptV] at *
  go_upto_region 1 with (fail)
  generalize ((w.alloc (.cells #[.string ⟨t.lang.toArray⟩, .string ⟨t.script.toArray⟩, .string ⟨t.region.toArray⟩, .slice av t.vars.length cv, .slice ak t.keys.length ck] 25)).alloc (.cells #[.string ⟨#[]⟩, .string ⟨#[]⟩, .string ⟨#[]⟩, .slice none 0 0, .slice none 0 0] 25)) = w0 at *
  have c0 := ST0.out.c0
  have c1 := ST0.out.c1
  have c2 := ST0.out.c2
  have c3 := ST0.out.c3
  have c4 := ST0.out.c4
  have lt0 := ST0.out.lt
  go_wp2_with fail
  refine (CK.out _ ST0.out).mono ?_
  rintro e w1 ⟨rfl, hb1⟩
  have ST1 := hid (ST0.out.below hb1)
  clear c0 c1 c2 c3 c4 lt0 ST0 hb1
  have c0 := ST1.out.c0
  have c1 := ST1.out.c1
  have c2 := ST1.out.c2
  have c3 := ST1.out.c3
  have c4 := ST1.out.c4
  obtain ⟨z0, z1, z2, z3, z4, fz0, fz1, fz2, fz3, fz4, lz, lt0⟩ := ret5 ST1.out
  by_cases h0 : checkF t = 0
  · rw [h0]
    have H0 := hid h0
    clear h0
    go_wp2_with fail
    refine (OF.out _ ST1.out).mono ?_
    rintro e w2 ⟨rfl, hb2⟩
    have ST2 := hid (ST1.out.below hb2)
    clear c0 c1 c2 c3 c4 z0 z1 z2 z3 z4 fz0 fz1 fz2 fz3 fz4 lz lt0 ST1 hb2
    go_wp2_with fail
    refine (AD.out _ ST2.out).mono ?_
    rintro e w3 ⟨rfl, hb3⟩
    have ST3 := hid (ST2.out.below hb3)
    generalize hm : addP D (ptOf t) = r at *
    have HM := hid hm
    obtain ⟨⟨ml, ms, mr⟩, ok⟩ := r
    clear hm hb3 ST2
    simp only
    go_upto_region 4 with fail
    have HB4 := hid (show Below w3.heap.size w3 (w3.alloc (.cells #[.string ⟨ml.toArray⟩, .string ⟨ms.toArray⟩, .string ⟨mr.toArray⟩] 57)) from (Below.refl _ _).alloc (Nat.le_refl _) _)
    have HP4 := hid (heap_alloc_new w3 (.cells #[.string ⟨ml.toArray⟩, .string ⟨ms.toArray⟩, .string ⟨mr.toArray⟩] 57))
    generalize w3.alloc (.cells #[.string ⟨ml.toArray⟩, .string ⟨ms.toArray⟩, .string ⟨mr.toArray⟩] 57) = w4 at *
    have ST4 := hid (ST3.out.below HB4.out)
    have WI4 := hid (WI.out w4 ⟨ml, ms, mr⟩ ST4.out)
    simp only [ptV, S] at WI4
    have c0 := ST4.out.c0
    have c1 := ST4.out.c1
    have c2 := ST4.out.c2
    have c3 := ST4.out.c3
    have c4 := ST4.out.c4
    have lt0 := ST4.out.lt
    obtain ⟨p0, p1, p2⟩ := box3_cells HP4.out
    have ltp := lt_of_block HP4.out
    go_wp2_with fail
    refine WI4.out.mono ?_
    rintro e w5 ⟨v', rfl, own5, hb5⟩
    have ST5 := hid (ST4.out.below hb5)
    have h45 : w.heap.size + 1 < w4.heap.size := ST4.out.lz
    have H45 := hid h45
    obtain ⟨a1, e1, a2, e2, rfl⟩ := own5.shape
    have OW5 := hid own5
    clear c0 c1 c2 c3 c4 lt0 p0 p1 p2 ltp hb5 own5 WI4 h45 ST3 HB4 HP4
    simp only [withT] at *
    go_upto_region 5 with fail
    have HB6 := hid (show Below w5.heap.size w5 (w5.alloc (.cells #[.string ⟨ml.toArray⟩, .string ⟨ms.toArray⟩, .string ⟨mr.toArray⟩, .slice a1 t.vars.length e1, .slice a2 t.keys.length e2] 25)) from (Below.refl _ _).alloc (Nat.le_refl _) _)
    have HX6 := hid (heap_alloc_new w5 (.cells #[.string ⟨ml.toArray⟩, .string ⟨ms.toArray⟩, .string ⟨mr.toArray⟩, .slice a1 t.vars.length e1, .slice a2 t.keys.length e2] 25))
    generalize w5.alloc (.cells #[.string ⟨ml.toArray⟩, .string ⟨ms.toArray⟩, .string ⟨mr.toArray⟩, .slice a1 t.vars.length e1, .slice a2 t.keys.length e2] 25) = w6 at *
    have ST6 := hid (ST5.out.below HB6.out)
    have OW6 := hid (OW5.out.below HB6.out)
    clear ST5 HB6 OW5 ST4
    obtain ⟨d0, d1, d2, d3, d4⟩ := box_cells HX6.out
    have ltx := lt_of_block HX6.out
    obtain ⟨z0, z1, z2, z3, z4, fz0, fz1, fz2, fz3, fz4, lz, lt0⟩ := ret5 ST6.out
    cases ok with
    | false =>
      have HA := hid (add_none H0.out HM.out)
      go_wp2_with fail
      change bodyPost _ _ _ _ _ (P5 w6 (w.heap.size + 1) (.string ⟨ml.toArray⟩) (.string ⟨ms.toArray⟩) (.string ⟨mr.toArray⟩) (.slice a1 t.vars.length e1) (.slice a2 t.keys.length e2))
      exact addT_ret (t' := withT t ⟨ml, ms, mr⟩) ST6.out H45.out false HA.out OW6.out rfl rfl rfl
    | true =>
      have CM6 := hid (CM.out w6 _ _ OW6.out)
      go_wp2_with fail
      refine CM6.out.mono ?_
      rintro e w7 ⟨rfl, hb7⟩
      have ST7 := hid (ST6.out.below hb7)
      have OW7 := hid (OW6.out.below hb7)
      have HX7 := hid ((hb7.block _ (lt_of_block HX6.out)).trans HX6.out)
      clear d0 d1 d2 d3 d4 ltx z0 z1 z2 z3 z4 fz0 fz1 fz2 fz3 fz4 lz lt0 CM6 CM hb7 ST6 OW6 HX6
      obtain ⟨z0, z1, z2, z3, z4, fz0, fz1, fz2, fz3, fz4, lz, lt0⟩ := ret5 ST7.out
      by_cases hcm : checkF (withT t ⟨ml, ms, mr⟩) = 0
      · have HA := hid (add_yes H0.out HM.out hcm)
        simp only [withT] at hcm
        rw [hcm]
        obtain ⟨d0, d1, d2, d3, d4⟩ := box_cells HX7.out
        have ltx := lt_of_block HX7.out
        clear hcm
        go_wp2_with fail
        change bodyPost _ _ _ _ _ (P5 w7 (w.heap.size + 1) (.string ⟨ml.toArray⟩) (.string ⟨ms.toArray⟩) (.string ⟨mr.toArray⟩) (.slice a1 t.vars.length e1) (.slice a2 t.keys.length e2))
        exact addT_ret (t' := withT t ⟨ml, ms, mr⟩) ST7.out H45.out true HA.out OW7.out rfl rfl rfl
      · have HA := hid (add_no H0.out HM.out hcm)
        simp only [withT] at hcm
        have hcb : (checkF { lang := ml, script := ms, region := mr, vars := t.vars, keys := t.keys } == 0) = false := by rw [beq_eq_false_iff_ne]; exact hcm
        clear hcm z0 z1 z2 z3 z4 fz0 fz1 fz2 fz3 fz4 lz lt0
        go_upto_region 7 with fail
        have st7d : AdSt w t (.slice av t.vars.length cv) (.slice ak t.keys.length ck) w7.drew := ST7.out.drew
        have S0 : w7.drew.cell? ⟨w.heap.size, 0, none⟩ = some (.string ⟨t.lang.toArray⟩) ∧ w7.drew.cell? ⟨w.heap.size, 1, none⟩ = some (.string ⟨t.script.toArray⟩) ∧ w7.drew.cell? ⟨w.heap.size, 2, none⟩ = some (.string ⟨t.region.toArray⟩) ∧ w7.drew.cell? ⟨w.heap.size, 3, none⟩ = some (.slice av t.vars.length cv) ∧ w7.drew.cell? ⟨w.heap.size, 4, none⟩ = some (.slice ak t.keys.length ck) := ⟨st7d.c0, st7d.c1, st7d.c2, st7d.c3, st7d.c4⟩
        have hn1 : w.heap.size + 1 ≠ w.heap.size := by omega
        go_region_held3 (fun W => W.cell? ⟨w.heap.size, 0, none⟩ = some (.string ⟨t.lang.toArray⟩) ∧ W.cell? ⟨w.heap.size, 1, none⟩ = some (.string ⟨t.script.toArray⟩) ∧ W.cell? ⟨w.heap.size, 2, none⟩ = some (.string ⟨t.region.toArray⟩) ∧ W.cell? ⟨w.heap.size, 3, none⟩ = some (.slice av t.vars.length cv) ∧ W.cell? ⟨w.heap.size, 4, none⟩ = some (.slice ak t.keys.length ck)) (first | with_reducible assumption | simp [cell_far hn1, hsP]) (first
          | (go_at_call 31; (with_reducible refine (of_held (by assumption)).mono ?_); rintro e wS ⟨rfl, sS, ys0, ys1, ys2, ys3, ys4, ys5, ys6, ys7, ys8, ys9, ys10, ys11, hsS⟩)
          | (go_at_call 32; (with_reducible refine (with_held (by assumption) hv hk).mono ?_); rintro e wP ⟨b1, g1, b2, g2, rfl, oP, sP, yp0, yp1, yp2, yp3, yp4, yp5, yp6, yp7, yp8, yp9, yp10, yp11, hsP⟩))
        go_wp2_with fail
        change bodyPost _ _ _ _ _ (P5 wP (w.heap.size + 1) (.string ⟨t.lang.toArray⟩) (.string ⟨t.script.toArray⟩) (.string ⟨t.region.toArray⟩) (.slice b1 t.vars.length g1) (.slice b2 t.keys.length g2))
        exact addT_ret (t' := t) sP (B := w.heap.size + 2) (by omega) false HA.out oP rfl rfl rfl
  · have HA := hid (add_chk (D := D) h0)
    have hb : (checkF t != 0) = true := by rw [bne_iff_ne]; exact h0
    clear h0
    go_wp2_with fail
    change bodyPost _ _ _ _ _ (P5 w1 (w.heap.size + 1) (.string ⟨#[]⟩) (.string ⟨#[]⟩) (.string ⟨#[]⟩) (.slice none 0 0) (.slice none 0 0))
    exact addT_ret (t' := Tg.zero) ST1.out (B := w.heap.size + 2) (by omega) false HA.out (ca := none) (cb := none) (na := 0) (nb := 0) (OwnT.zero _ _) rfl rfl rfl
end Go.Proofs.YtlmgmifaknlolaaGreat

/- The contract of likely.Likely.Remove. -/
set_option linter.unusedVariables false
set_option linter.unusedSimpArgs false
namespace Go.Proofs.YtlmgmifaknlolaaGreat
open Go.RowKit Go.Lib Go.Sort

/-- the way out of Remove -/
theorem remT_ret {w W : World} {t t' : Tg} {vv kv : Value} {r : Tg × Bool} (st : AdSt w t vv kv W) {B : Nat} (hB : w.heap.size + 1 < B) (b : Bool) (hr : r = (t', b)) {ca cb : Option Addr} {na nb : Nat}
    (own : OwnT W B (.agg #[.string ⟨t'.lang.toArray⟩, .string ⟨t'.script.toArray⟩, .string ⟨t'.region.toArray⟩, .slice ca t'.vars.length na, .slice cb t'.keys.length nb]) t') {a : Act} (hd : a.defers = [])
    (h4 : a.tmps.getD 4 undef = .pointer (some ⟨w.heap.size + 1, 0, none⟩)) (h5 : a.tmps.getD 5 undef = .bool b) :
    bodyPost Tryz.prog Tryz.f21 (TagOut w r) Exit.ret a (P5 W (w.heap.size + 1) (.string ⟨t'.lang.toArray⟩) (.string ⟨t'.script.toArray⟩) (.string ⟨t'.region.toArray⟩) (.slice ca t'.vars.length na) (.slice cb t'.keys.length nb)) := by
  have hrow := P5_row (.string ⟨t'.lang.toArray⟩) (.string ⟨t'.script.toArray⟩) (.string ⟨t'.region.toArray⟩) (.slice ca t'.vars.length na) (.slice cb t'.keys.length nb) st.bz
  have hw := P5_below (.string ⟨t'.lang.toArray⟩) (.string ⟨t'.script.toArray⟩) (.string ⟨t'.region.toArray⟩) (.slice ca t'.vars.length na) (.slice cb t'.keys.length nb) st.bel (Nat.le_succ w.heap.size)
  have ho := (own.p5 hB (.string ⟨t'.lang.toArray⟩) (.string ⟨t'.script.toArray⟩) (.string ⟨t'.region.toArray⟩) (.slice ca t'.vars.length na) (.slice cb t'.keys.length nb)).mono (C := w.heap.size) (by omega)
  generalize P5 W (w.heap.size + 1) (.string ⟨t'.lang.toArray⟩) (.string ⟨t'.script.toArray⟩) (.string ⟨t'.region.toArray⟩) (.slice ca t'.vars.length na) (.slice cb t'.keys.length nb) = V at *
  obtain ⟨d0, d1, d2, d3, d4⟩ := box_cells hrow
  subst hr
  refine bodyPost_ret (v := .tuple #[.agg #[.string ⟨t'.lang.toArray⟩, .string ⟨t'.script.toArray⟩, .string ⟨t'.region.toArray⟩, .slice ca t'.vars.length na, .slice cb t'.keys.length nb], .bool b]) ?_ hd ⟨_, rfl, ho, hw⟩
  obtain ⟨tmps, defers⟩ := a
  simp only [Array.getD_eq_getD_getElem?] at h4 h5
  simp [results, Tryz.results21, go_sem, h4, h5, d0, d1, d2, d3, d4]

theorem rem_chk {D : List (Pt × Pt)} {t : Tg} (h : checkF t ≠ 0) : removeT D t = (Tg.zero, false) := if_pos h
theorem rem_none {D : List (Pt × Pt)} {t : Tg} {m : Pt} (h : checkF t = 0) (ha : addP D (ptOf t) = (m, false)) : removeT D t = (t, false) := by
  unfold removeT; rw [if_neg (by omega), ha, if_pos (Or.inl rfl)]
theorem rem_no {D : List (Pt × Pt)} {t : Tg} {m : Pt} (h : checkF t = 0) (ha : addP D (ptOf t) = (m, true)) (hm : checkF (withT t m) ≠ 0) : removeT D t = (t, false) := by
  unfold removeT; rw [if_neg (by omega), ha, if_pos (Or.inr hm)]
theorem rem_yes {D : List (Pt × Pt)} {t : Tg} {m : Pt} (h : checkF t = 0) (ha : addP D (ptOf t) = (m, true)) (hm : checkF (withT t m) = 0) : removeT D t = (withT t (leastP D m), true) := by
  unfold removeT; rw [if_neg (by omega), ha, if_neg (by rintro (e | e); · cases e
                                                        · exact e hm)]
def leftN (m : Pt) : Nat → Pt
  | 0 => ⟨m.l, [], []⟩
  | 1 => ⟨m.l, [], m.r⟩
  | _ => ⟨m.l, m.s, []⟩
theorem least_hit {D : List (Pt × Pt)} {m : Pt} {n : Nat} (hn : n < 3) (hno : ∀ j, j < n → addP D (leftN m j) ≠ (m, true)) (h : addP D (leftN m n) = (m, true)) : leastP D m = leftN m n := by
  unfold leastP leftKeys
  match n, hn with
  | 0, _ => rw [List.find?_cons_of_pos (by simpa [leftN] using h)]; rfl
  | 1, _ => rw [List.find?_cons_of_neg (by simpa [leftN] using hno 0 (by omega)), List.find?_cons_of_pos (by simpa [leftN] using h)]; rfl
  | 2, _ => rw [List.find?_cons_of_neg (by simpa [leftN] using hno 0 (by omega)), List.find?_cons_of_neg (by simpa [leftN] using hno 1 (by omega)), List.find?_cons_of_pos (by simpa [leftN] using h)]; rfl
theorem least_end {D : List (Pt × Pt)} {m : Pt} (hno : ∀ j, j < 3 → addP D (leftN m j) ≠ (m, true)) : leastP D m = m := by
  unfold leastP leftKeys
  rw [List.find?_cons_of_neg (by simpa [leftN] using hno 0 (by omega)), List.find?_cons_of_neg (by simpa [leftN] using hno 1 (by omega)), List.find?_cons_of_neg (by simpa [leftN] using hno 2 (by omega))]; rfl
theorem left_step {D : List (Pt × Pt)} {m : Pt} {n : Nat} (h : ∀ j, j < n → addP D (leftN m j) ≠ (m, true)) (hn : addP D (leftN m n) ≠ (m, true)) : ∀ j, j < n + 1 → addP D (leftN m j) ≠ (m, true) := by
  intro j hj
  by_cases e : j = n
  · rw [e]; exact hn
  · exact h j (by omega)
set_option maxRecDepth 100000 in
theorem index_0 (w : World) (a0 a1 a2 a3 a4 a5 a6 a7 a8 : Str) : (Instr.index 67 (.agg #[.string ⟨a0.toArray⟩, .string ⟨a1.toArray⟩, .string ⟨a2.toArray⟩, .string ⟨a3.toArray⟩, .string ⟨a4.toArray⟩, .string ⟨a5.toArray⟩, .string ⟨a6.toArray⟩, .string ⟨a7.toArray⟩, .string ⟨a8.toArray⟩]) (.int .i64 0)).run Tryz.prog w = .ok (.agg #[.string ⟨a0.toArray⟩, .string ⟨a1.toArray⟩, .string ⟨a2.toArray⟩]) w := by kernel_rfl
set_option maxRecDepth 100000 in
theorem index_1 (w : World) (a0 a1 a2 a3 a4 a5 a6 a7 a8 : Str) : (Instr.index 67 (.agg #[.string ⟨a0.toArray⟩, .string ⟨a1.toArray⟩, .string ⟨a2.toArray⟩, .string ⟨a3.toArray⟩, .string ⟨a4.toArray⟩, .string ⟨a5.toArray⟩, .string ⟨a6.toArray⟩, .string ⟨a7.toArray⟩, .string ⟨a8.toArray⟩]) (.int .i64 1)).run Tryz.prog w = .ok (.agg #[.string ⟨a3.toArray⟩, .string ⟨a4.toArray⟩, .string ⟨a5.toArray⟩]) w := by kernel_rfl
set_option maxRecDepth 100000 in
theorem index_2 (w : World) (a0 a1 a2 a3 a4 a5 a6 a7 a8 : Str) : (Instr.index 67 (.agg #[.string ⟨a0.toArray⟩, .string ⟨a1.toArray⟩, .string ⟨a2.toArray⟩, .string ⟨a3.toArray⟩, .string ⟨a4.toArray⟩, .string ⟨a5.toArray⟩, .string ⟨a6.toArray⟩, .string ⟨a7.toArray⟩, .string ⟨a8.toArray⟩]) (.int .i64 2)).run Tryz.prog w = .ok (.agg #[.string ⟨a6.toArray⟩, .string ⟨a7.toArray⟩, .string ⟨a8.toArray⟩]) w := by kernel_rfl
theorem leftN_sz {m : Pt} (h : PtSz m) (n : Nat) : PtSz (leftN m n) := by
  obtain ⟨h1, h2, h3⟩ := h
  have h0 : ([] : Str).length ≤ maxLen := Nat.zero_le _
  match n with
  | 0 => exact ⟨h1, h0, h0⟩
  | 1 => exact ⟨h1, h0, h3⟩
  | n + 2 => exact ⟨h1, h2, h0⟩

theorem addP_sz {D : List (Pt × Pt)} (hD : goodD D) {t : Tg} (hz : szT t ≤ 1000000000) : PtSz (addP D (ptOf t)).1 := by
  obtain ⟨h1, h2, h3⟩ := addP_lens hD (ptOf t)
  unfold szT at hz
  unfold PtSz maxLen
  simp only [ptOf] at h1 h2 h3 ⊢
  omega

set_option maxRecDepth 100000 in
set_option maxHeartbeats 16000000 in
theorem trem_any (w : World) (v va : Value) (D : List (Pt × Pt)) (t : Tg) (hL : LkRd w v D) (hT : RdT w va t) (hv : t.vars.length ≤ 1000) (hk : t.keys.length ≤ 1000) (hz : szT t ≤ 1000000000) (hD : goodD D) :
    Calls Tryz.prog 21 #[v, va] w fun e w' => TagOut w (removeT D t) e w' := by
  obtain ⟨vv, kv, rfl, hS, hP⟩ := hT
  have HL := hid hL
  have ST0 := hid (AdSt.start hS hP)
  have CK := hid (fun W (st : AdSt w t vv kv W) => check_any W (.agg (tagCells t vv kv)) t st.rd hv hk (Nat.le_trans (write_le t) (by omega)))
  have OF := hid (fun W (st : AdSt w t vv kv W) => of_any W (.agg (tagCells t vv kv)) t st.rd)
  have AD2 := hid (fun W p (st : AdSt w t vv kv W) (hp : PtSz p) => add_any W v D p (hL.below st.bel) hp)
  have PM := hid (addP_sz hD hz)
  have AD := hid (fun W (st : AdSt w t vv kv W) => add_any W v D (ptOf t) (hL.below st.bel) (szT_pt hz))
  have WI := hid (fun W p (st : AdSt w t vv kv W) => with_any W (.agg (tagCells t vv kv)) t p st.rd hv hk)
  have CM := hid (fun W B v' (h : OwnT W B v' (withT t (addP D (ptOf t)).1)) => check_any W v' _ h.rd hv hk (Nat.le_trans (write_le _) (Nat.le_trans (szT_with hD t) (by omega))))
  have HWO := hid (with_of t)
  obtain ⟨bc, bm, n, rfl, _, _, _⟩ := hL
  obtain ⟨av, cv, rfl, _, _⟩ := hS
  obtain ⟨ak, ck, rfl, _, _⟩ := hP
  clear hz hD
  simp only [vnil] at ST0
  go_enter Tryz.func21, Tryz.ntmps21
  simp only [tagCells, S, Tg.zero, ptV] at *
  go_upto_region 1 with (fail)
  generalize ((w.alloc (.cells #[.string ⟨t.lang.toArray⟩, .string ⟨t.script.toArray⟩, .string ⟨t.region.toArray⟩, .slice av t.vars.length cv, .slice ak t.keys.length ck] 25)).alloc (.cells #[.string ⟨#[]⟩, .string ⟨#[]⟩, .string ⟨#[]⟩, .slice none 0 0, .slice none 0 0] 25)) = w0 at *
  have c0 := ST0.out.c0
  have c1 := ST0.out.c1
  have c2 := ST0.out.c2
  have c3 := ST0.out.c3
  have c4 := ST0.out.c4
  have lt0 := ST0.out.lt
  go_wp2_with fail
  refine (CK.out _ ST0.out).mono ?_
  rintro e w1 ⟨rfl, hb1⟩
  have ST1 := hid (ST0.out.below hb1)
  clear c0 c1 c2 c3 c4 lt0 ST0 hb1
  have c0 := ST1.out.c0
  have c1 := ST1.out.c1
  have c2 := ST1.out.c2
  have c3 := ST1.out.c3
  have c4 := ST1.out.c4
  obtain ⟨z0, z1, z2, z3, z4, fz0, fz1, fz2, fz3, fz4, lz, lt0⟩ := ret5 ST1.out
  by_cases h0 : checkF t = 0
  · rw [h0]
    have H0 := hid h0
    clear h0
    go_wp2_with fail
    refine (OF.out _ ST1.out).mono ?_
    rintro e w2 ⟨rfl, hb2⟩
    have ST2 := hid (ST1.out.below hb2)
    clear c0 c1 c2 c3 c4 z0 z1 z2 z3 z4 fz0 fz1 fz2 fz3 fz4 lz lt0 ST1 hb2
    go_wp2_with fail
    refine (AD.out _ ST2.out).mono ?_
    rintro e w3 ⟨rfl, hb3⟩
    have ST3 := hid (ST2.out.below hb3)
    generalize hm : addP D (ptOf t) = r at *
    have HM := hid hm
    obtain ⟨⟨ml, ms, mr⟩, ok⟩ := r
    clear hm hb3 ST2
    simp only
    go_upto_region 4 with fail
    have HB4 := hid (show Below w3.heap.size w3 (w3.alloc (.cells #[.string ⟨ml.toArray⟩, .string ⟨ms.toArray⟩, .string ⟨mr.toArray⟩] 57)) from (Below.refl _ _).alloc (Nat.le_refl _) _)
    have HP4 := hid (heap_alloc_new w3 (.cells #[.string ⟨ml.toArray⟩, .string ⟨ms.toArray⟩, .string ⟨mr.toArray⟩] 57))
    generalize w3.alloc (.cells #[.string ⟨ml.toArray⟩, .string ⟨ms.toArray⟩, .string ⟨mr.toArray⟩] 57) = w4 at *
    have ST4 := hid (ST3.out.below HB4.out)
    have WI4 := hid (WI.out w4 ⟨ml, ms, mr⟩ ST4.out)
    simp only [ptV, S] at WI4
    have c0 := ST4.out.c0
    have c1 := ST4.out.c1
    have c2 := ST4.out.c2
    have c3 := ST4.out.c3
    have c4 := ST4.out.c4
    have lt0 := ST4.out.lt
    obtain ⟨p0, p1, p2⟩ := box3_cells HP4.out
    have ltp := lt_of_block HP4.out
    cases ok with
    | false =>
      have HA := hid (rem_none H0.out HM.out)
      go_upto_region 5 with fail
      have std : AdSt w t (.slice av t.vars.length cv) (.slice ak t.keys.length ck) w4.drew := ST4.out.drew
      have S0 : w4.drew.cell? ⟨w.heap.size, 0, none⟩ = some (.string ⟨t.lang.toArray⟩) ∧ w4.drew.cell? ⟨w.heap.size, 1, none⟩ = some (.string ⟨t.script.toArray⟩) ∧ w4.drew.cell? ⟨w.heap.size, 2, none⟩ = some (.string ⟨t.region.toArray⟩) ∧ w4.drew.cell? ⟨w.heap.size, 3, none⟩ = some (.slice av t.vars.length cv) ∧ w4.drew.cell? ⟨w.heap.size, 4, none⟩ = some (.slice ak t.keys.length ck) := ⟨std.c0, std.c1, std.c2, std.c3, std.c4⟩
      have hn1 : w.heap.size + 1 ≠ w.heap.size := by omega
      go_region_held3 (fun W => W.cell? ⟨w.heap.size, 0, none⟩ = some (.string ⟨t.lang.toArray⟩) ∧ W.cell? ⟨w.heap.size, 1, none⟩ = some (.string ⟨t.script.toArray⟩) ∧ W.cell? ⟨w.heap.size, 2, none⟩ = some (.string ⟨t.region.toArray⟩) ∧ W.cell? ⟨w.heap.size, 3, none⟩ = some (.slice av t.vars.length cv) ∧ W.cell? ⟨w.heap.size, 4, none⟩ = some (.slice ak t.keys.length ck)) (first | with_reducible assumption | simp [cell_far hn1, hsP]) (first
        | (go_at_call 31; (with_reducible refine (of_held (by assumption)).mono ?_); rintro e wS ⟨rfl, sS, ys0, ys1, ys2, ys3, ys4, ys5, ys6, ys7, ys8, ys9, ys10, ys11, hsS⟩)
        | (go_at_call 32; (with_reducible refine (with_held (by assumption) hv hk).mono ?_); rintro e wP ⟨b1, g1, b2, g2, rfl, oP, sP, yp0, yp1, yp2, yp3, yp4, yp5, yp6, yp7, yp8, yp9, yp10, yp11, hsP⟩))
      go_wp2_with fail
      change bodyPost _ _ _ _ _ (P5 wP (w.heap.size + 1) (.string ⟨t.lang.toArray⟩) (.string ⟨t.script.toArray⟩) (.string ⟨t.region.toArray⟩) (.slice b1 t.vars.length g1) (.slice b2 t.keys.length g2))
      exact remT_ret (t' := t) sP (B := w.heap.size + 2) (by omega) false HA.out oP rfl rfl rfl
    | true =>
      go_wp2_with fail
      refine WI4.out.mono ?_
      rintro e w5 ⟨v', rfl, own5, hb5⟩
      have ST5 := hid (ST4.out.below hb5)
      have HP5 := hid ((hb5.block _ (lt_of_block HP4.out)).trans HP4.out)
      obtain ⟨a1, e1, a2, e2, rfl⟩ := own5.shape
      have CM5 := hid (CM.out w5 _ _ own5)
      clear c0 c1 c2 c3 c4 lt0 p0 p1 p2 ltp hb5 own5 WI4 ST3 HB4 HP4 CM
      simp only [withT] at CM5 ⊢
      go_wp2_with fail
      refine CM5.out.mono ?_
      rintro e w7 ⟨rfl, hb7⟩
      have ST7 := hid (ST5.out.below hb7)
      have HP7 := hid ((hb7.block _ (lt_of_block HP5.out)).trans HP5.out)
      clear CM5 hb7 ST5 HP5
      by_cases hcm : checkF (withT t ⟨ml, ms, mr⟩) = 0
      · have HA := hid (rem_yes H0.out HM.out hcm)
        simp only [withT] at hcm
        rw [hcm]
        clear hcm
        obtain ⟨p0, p1, p2⟩ := box3_cells HP7.out
        have ltp := lt_of_block HP7.out
        go_wp2_with fail
        go_loopg [54] 3 (fun g vi W => ∃ n : Nat, n ≤ 3 ∧ 3 ≤ n + g ∧ vi = .int .i64 n ∧ (∀ j, j < n → addP D (leftN ⟨ml, ms, mr⟩ j) ≠ (⟨ml, ms, mr⟩, true)) ∧ AdSt w t (.slice av t.vars.length cv) (.slice ak t.keys.length ck) W ∧ W.heap[w3.heap.size]? = some (.cells #[.string ⟨ml.toArray⟩, .string ⟨ms.toArray⟩, .string ⟨mr.toArray⟩] 57 (0, 0)))
        case atStart => exact ⟨0, by omega, by omega, rfl, fun j hj => by omega, ST7.out, HP7.out⟩
        case round =>
         obtain ⟨n, hn, hg, hvi, hno, st, hp⟩ := hrel
         rename World => w2
         have ST2 := hid st
         have HP2 := hid hp
         have HG := hid hg
         have HNO := hid hno
         clear st hp hg hno ST7 HP7 p0 p1 p2 ltp
         rcases (by omega : n = 0 ∨ n = 1 ∨ n = 2 ∨ n = 3) with rfl | rfl | rfl | rfl
         · -- round 0
           have hvi0 : _ = Value.int .i64 0 := hvi
           subst hvi0
           have hix := index_0 w2 ml [] [] ml [] mr ml ms []
           go_upto_region 9 with fail
           clear hix
           have HB8 := hid (show Below w2.heap.size w2 (w2.alloc (.cells #[.string ⟨ml.toArray⟩, .string ⟨#[]⟩, .string ⟨#[]⟩] 57)) from (Below.refl _ _).alloc (Nat.le_refl _) _)
           have HK8 := hid (heap_alloc_new w2 (.cells #[.string ⟨ml.toArray⟩, .string ⟨#[]⟩, .string ⟨#[]⟩] 57))
           generalize w2.alloc (.cells #[.string ⟨ml.toArray⟩, .string ⟨#[]⟩, .string ⟨#[]⟩] 57) = w8 at *
           have ST8 := hid (ST2.out.below HB8.out)
           have HP8 := hid ((HB8.out.block _ (lt_of_block HP2.out)).trans HP2.out)
           have AD8 := hid (AD2.out w8 (leftN ⟨ml, ms, mr⟩ 0) ST8.out (leftN_sz PM.out 0))
           simp only [leftN, ptV, S] at AD8
           obtain ⟨k0, k1, k2⟩ := box3_cells HK8.out
           have ltk := lt_of_block HK8.out
           clear HB8
           go_wp2_with fail
           refine AD8.out.mono ?_
           rintro e w9 ⟨rfl, hb9⟩
           have ST9 := hid (ST8.out.below hb9)
           have HP9 := hid ((hb9.block _ (lt_of_block HP8.out)).trans HP8.out)
           have HK9 := hid ((hb9.block _ (lt_of_block HK8.out)).trans HK8.out)
           clear hb9 k0 k1 k2 ltk AD8 ST8 HP8 HK8 ST2 HP2
           generalize hq : addP D ⟨ml, [], []⟩ = r at *
           have HQ := hid (show addP D (leftN ⟨ml, ms, mr⟩ 0) = r from hq)
           obtain ⟨⟨ql, qs, qr⟩, ok2⟩ := r
           clear hq
           simp only
           go_upto_region 10 with fail
           have HB10 := hid (show Below w9.heap.size w9 (w9.alloc (.cells #[.string ⟨ql.toArray⟩, .string ⟨qs.toArray⟩, .string ⟨qr.toArray⟩] 57)) from (Below.refl _ _).alloc (Nat.le_refl _) _)
           have HX10 := hid (heap_alloc_new w9 (.cells #[.string ⟨ql.toArray⟩, .string ⟨qs.toArray⟩, .string ⟨qr.toArray⟩] 57))
           generalize w9.alloc (.cells #[.string ⟨ql.toArray⟩, .string ⟨qs.toArray⟩, .string ⟨qr.toArray⟩] 57) = w10 at *
           have ST10 := hid (ST9.out.below HB10.out)
           have HP10 := hid ((HB10.out.block _ (lt_of_block HP9.out)).trans HP9.out)
           have HK10 := hid ((HB10.out.block _ (lt_of_block HK9.out)).trans HK9.out)
           clear HB10 ST9 HP9 HK9
           obtain ⟨p0, p1, p2⟩ := box3_cells HP10.out
           obtain ⟨q0, q1, q2⟩ := box3_cells HX10.out
           have ltp := lt_of_block HP10.out
           have ltq := lt_of_block HX10.out
           cases ok2 with
           | false =>
             go_wp2_with fail
             go_roundg (gk - 1)
             case measure => have := HG.out; omega
             case rel => exact ⟨1, by omega, by have := HG.out; omega, rfl, left_step HNO.out (by rw [HQ.out]; simp), ST10.out, HP10.out⟩
           | true =>
             by_cases hqm : (⟨ql, qs, qr⟩ : Pt) = ⟨ml, ms, mr⟩
             · obtain ⟨rfl, rfl, rfl⟩ := Pt.mk.inj hqm
               have HLE := hid (least_hit (by omega) HNO.out HQ.out)
               clear hqm
               obtain ⟨k0, k1, k2⟩ := box3_cells HK10.out
               have ltk := lt_of_block HK10.out
               have c0 := ST10.out.c0
               have c1 := ST10.out.c1
               have c2 := ST10.out.c2
               have c3 := ST10.out.c3
               have c4 := ST10.out.c4
               have lt0 := ST10.out.lt
               have WI10 := hid (WI.out w10 (leftN ⟨ql, qs, qr⟩ 0) ST10.out)
               simp only [leftN, ptV, S] at WI10
               go_wp2_with fail
               refine WI10.out.mono ?_
               rintro e w11 ⟨v', rfl, own11, hb11⟩
               have ST11 := hid (ST10.out.below hb11)
               have HLT := hid (show w.heap.size + 1 < w10.heap.size from ST10.out.lz)
               obtain ⟨b1, g1, b2, g2, rfl⟩ := own11.shape
               have OW11 := hid own11
               clear hb11 own11 WI10 c0 c1 c2 c3 c4
               obtain ⟨z0, z1, z2, z3, z4, fz0, fz1, fz2, fz3, fz4, lz, lt0⟩ := ret5 ST11.out
               simp only [withT, leftN]
               go_wp2_with fail
               try simp only [Exit.inBlock, Exit.then]
               try rw [Exit.noGoto_ret]
               change bodyPost _ _ _ _ _ (P5 w11 (w.heap.size + 1) (.string ⟨ql.toArray⟩) (.string ⟨#[]⟩) (.string ⟨#[]⟩) (.slice b1 t.vars.length g1) (.slice b2 t.keys.length g2))
               exact remT_ret (t' := withT t ⟨ql, [], []⟩) ST11.out HLT.out true (by rw [HA.out, HLE.out]; try rfl) OW11.out rfl rfl rfl
             · have hqn : ¬ (ql = ml ∧ qs = ms ∧ qr = mr) := fun e => hqm (by rw [e.1, e.2.1, e.2.2])
               have HQM := hid hqm
               clear hqm
               obtain ⟨k0, k1, k2⟩ := box3_cells HK10.out
               have ltk := lt_of_block HK10.out
               have c0 := ST10.out.c0
               have c1 := ST10.out.c1
               have c2 := ST10.out.c2
               have c3 := ST10.out.c3
               have c4 := ST10.out.c4
               have lt0 := ST10.out.lt
               go_wp2_with fail
               all_goals first | exact absurd (⟨by assumption, by assumption, by assumption⟩ : ql = ml ∧ qs = ms ∧ qr = mr) hqn | go_roundg (gk - 1)
               all_goals first
                 | (have := HG.out; omega)
                 | exact ⟨1, by omega, by have := HG.out; omega, rfl, left_step HNO.out (by rw [HQ.out]; exact fun e => HQM.out (Prod.mk.inj e).1), ST10.out, HP10.out⟩
         · -- round 1
           have hvi1 : _ = Value.int .i64 1 := hvi
           subst hvi1
           have hix := index_1 w2 ml [] [] ml [] mr ml ms []
           go_upto_region 9 with fail
           clear hix
           have HB8 := hid (show Below w2.heap.size w2 (w2.alloc (.cells #[.string ⟨ml.toArray⟩, .string ⟨#[]⟩, .string ⟨mr.toArray⟩] 57)) from (Below.refl _ _).alloc (Nat.le_refl _) _)
           have HK8 := hid (heap_alloc_new w2 (.cells #[.string ⟨ml.toArray⟩, .string ⟨#[]⟩, .string ⟨mr.toArray⟩] 57))
           generalize w2.alloc (.cells #[.string ⟨ml.toArray⟩, .string ⟨#[]⟩, .string ⟨mr.toArray⟩] 57) = w8 at *
           have ST8 := hid (ST2.out.below HB8.out)
           have HP8 := hid ((HB8.out.block _ (lt_of_block HP2.out)).trans HP2.out)
           have AD8 := hid (AD2.out w8 (leftN ⟨ml, ms, mr⟩ 1) ST8.out (leftN_sz PM.out 1))
           simp only [leftN, ptV, S] at AD8
           obtain ⟨k0, k1, k2⟩ := box3_cells HK8.out
           have ltk := lt_of_block HK8.out
           clear HB8
           go_wp2_with fail
           refine AD8.out.mono ?_
           rintro e w9 ⟨rfl, hb9⟩
           have ST9 := hid (ST8.out.below hb9)
           have HP9 := hid ((hb9.block _ (lt_of_block HP8.out)).trans HP8.out)
           have HK9 := hid ((hb9.block _ (lt_of_block HK8.out)).trans HK8.out)
           clear hb9 k0 k1 k2 ltk AD8 ST8 HP8 HK8 ST2 HP2
           generalize hq : addP D ⟨ml, [], mr⟩ = r at *
           have HQ := hid (show addP D (leftN ⟨ml, ms, mr⟩ 1) = r from hq)
           obtain ⟨⟨ql, qs, qr⟩, ok2⟩ := r
           clear hq
           simp only
           go_upto_region 10 with fail
           have HB10 := hid (show Below w9.heap.size w9 (w9.alloc (.cells #[.string ⟨ql.toArray⟩, .string ⟨qs.toArray⟩, .string ⟨qr.toArray⟩] 57)) from (Below.refl _ _).alloc (Nat.le_refl _) _)
           have HX10 := hid (heap_alloc_new w9 (.cells #[.string ⟨ql.toArray⟩, .string ⟨qs.toArray⟩, .string ⟨qr.toArray⟩] 57))
           generalize w9.alloc (.cells #[.string ⟨ql.toArray⟩, .string ⟨qs.toArray⟩, .string ⟨qr.toArray⟩] 57) = w10 at *
           have ST10 := hid (ST9.out.below HB10.out)
           have HP10 := hid ((HB10.out.block _ (lt_of_block HP9.out)).trans HP9.out)
           have HK10 := hid ((HB10.out.block _ (lt_of_block HK9.out)).trans HK9.out)
           clear HB10 ST9 HP9 HK9
           obtain ⟨p0, p1, p2⟩ := box3_cells HP10.out
           obtain ⟨q0, q1, q2⟩ := box3_cells HX10.out
           have ltp := lt_of_block HP10.out
           have ltq := lt_of_block HX10.out
           cases ok2 with
           | false =>
             go_wp2_with fail
             go_roundg (gk - 1)
             case measure => have := HG.out; omega
             case rel => exact ⟨2, by omega, by have := HG.out; omega, rfl, left_step HNO.out (by rw [HQ.out]; simp), ST10.out, HP10.out⟩
           | true =>
             by_cases hqm : (⟨ql, qs, qr⟩ : Pt) = ⟨ml, ms, mr⟩
             · obtain ⟨rfl, rfl, rfl⟩ := Pt.mk.inj hqm
               have HLE := hid (least_hit (by omega) HNO.out HQ.out)
               clear hqm
               obtain ⟨k0, k1, k2⟩ := box3_cells HK10.out
               have ltk := lt_of_block HK10.out
               have c0 := ST10.out.c0
               have c1 := ST10.out.c1
               have c2 := ST10.out.c2
               have c3 := ST10.out.c3
               have c4 := ST10.out.c4
               have lt0 := ST10.out.lt
               have WI10 := hid (WI.out w10 (leftN ⟨ql, qs, qr⟩ 1) ST10.out)
               simp only [leftN, ptV, S] at WI10
               go_wp2_with fail
               refine WI10.out.mono ?_
               rintro e w11 ⟨v', rfl, own11, hb11⟩
               have ST11 := hid (ST10.out.below hb11)
               have HLT := hid (show w.heap.size + 1 < w10.heap.size from ST10.out.lz)
               obtain ⟨b1, g1, b2, g2, rfl⟩ := own11.shape
               have OW11 := hid own11
               clear hb11 own11 WI10 c0 c1 c2 c3 c4
               obtain ⟨z0, z1, z2, z3, z4, fz0, fz1, fz2, fz3, fz4, lz, lt0⟩ := ret5 ST11.out
               simp only [withT, leftN]
               go_wp2_with fail
               try simp only [Exit.inBlock, Exit.then]
               try rw [Exit.noGoto_ret]
               change bodyPost _ _ _ _ _ (P5 w11 (w.heap.size + 1) (.string ⟨ql.toArray⟩) (.string ⟨#[]⟩) (.string ⟨qr.toArray⟩) (.slice b1 t.vars.length g1) (.slice b2 t.keys.length g2))
               exact remT_ret (t' := withT t ⟨ql, [], qr⟩) ST11.out HLT.out true (by rw [HA.out, HLE.out]; try rfl) OW11.out rfl rfl rfl
             · have hqn : ¬ (ql = ml ∧ qs = ms ∧ qr = mr) := fun e => hqm (by rw [e.1, e.2.1, e.2.2])
               have HQM := hid hqm
               clear hqm
               obtain ⟨k0, k1, k2⟩ := box3_cells HK10.out
               have ltk := lt_of_block HK10.out
               have c0 := ST10.out.c0
               have c1 := ST10.out.c1
               have c2 := ST10.out.c2
               have c3 := ST10.out.c3
               have c4 := ST10.out.c4
               have lt0 := ST10.out.lt
               go_wp2_with fail
               all_goals first | exact absurd (⟨by assumption, by assumption, by assumption⟩ : ql = ml ∧ qs = ms ∧ qr = mr) hqn | go_roundg (gk - 1)
               all_goals first
                 | (have := HG.out; omega)
                 | exact ⟨2, by omega, by have := HG.out; omega, rfl, left_step HNO.out (by rw [HQ.out]; exact fun e => HQM.out (Prod.mk.inj e).1), ST10.out, HP10.out⟩
         · -- round 2
           have hvi2 : _ = Value.int .i64 2 := hvi
           subst hvi2
           have hix := index_2 w2 ml [] [] ml [] mr ml ms []
           go_upto_region 9 with fail
           clear hix
           have HB8 := hid (show Below w2.heap.size w2 (w2.alloc (.cells #[.string ⟨ml.toArray⟩, .string ⟨ms.toArray⟩, .string ⟨#[]⟩] 57)) from (Below.refl _ _).alloc (Nat.le_refl _) _)
           have HK8 := hid (heap_alloc_new w2 (.cells #[.string ⟨ml.toArray⟩, .string ⟨ms.toArray⟩, .string ⟨#[]⟩] 57))
           generalize w2.alloc (.cells #[.string ⟨ml.toArray⟩, .string ⟨ms.toArray⟩, .string ⟨#[]⟩] 57) = w8 at *
           have ST8 := hid (ST2.out.below HB8.out)
           have HP8 := hid ((HB8.out.block _ (lt_of_block HP2.out)).trans HP2.out)
           have AD8 := hid (AD2.out w8 (leftN ⟨ml, ms, mr⟩ 2) ST8.out (leftN_sz PM.out 2))
           simp only [leftN, ptV, S] at AD8
           obtain ⟨k0, k1, k2⟩ := box3_cells HK8.out
           have ltk := lt_of_block HK8.out
           clear HB8
           go_wp2_with fail
           refine AD8.out.mono ?_
           rintro e w9 ⟨rfl, hb9⟩
           have ST9 := hid (ST8.out.below hb9)
           have HP9 := hid ((hb9.block _ (lt_of_block HP8.out)).trans HP8.out)
           have HK9 := hid ((hb9.block _ (lt_of_block HK8.out)).trans HK8.out)
           clear hb9 k0 k1 k2 ltk AD8 ST8 HP8 HK8 ST2 HP2
           generalize hq : addP D ⟨ml, ms, []⟩ = r at *
           have HQ := hid (show addP D (leftN ⟨ml, ms, mr⟩ 2) = r from hq)
           obtain ⟨⟨ql, qs, qr⟩, ok2⟩ := r
           clear hq
           simp only
           go_upto_region 10 with fail
           have HB10 := hid (show Below w9.heap.size w9 (w9.alloc (.cells #[.string ⟨ql.toArray⟩, .string ⟨qs.toArray⟩, .string ⟨qr.toArray⟩] 57)) from (Below.refl _ _).alloc (Nat.le_refl _) _)
           have HX10 := hid (heap_alloc_new w9 (.cells #[.string ⟨ql.toArray⟩, .string ⟨qs.toArray⟩, .string ⟨qr.toArray⟩] 57))
           generalize w9.alloc (.cells #[.string ⟨ql.toArray⟩, .string ⟨qs.toArray⟩, .string ⟨qr.toArray⟩] 57) = w10 at *
           have ST10 := hid (ST9.out.below HB10.out)
           have HP10 := hid ((HB10.out.block _ (lt_of_block HP9.out)).trans HP9.out)
           have HK10 := hid ((HB10.out.block _ (lt_of_block HK9.out)).trans HK9.out)
           clear HB10 ST9 HP9 HK9
           obtain ⟨p0, p1, p2⟩ := box3_cells HP10.out
           obtain ⟨q0, q1, q2⟩ := box3_cells HX10.out
           have ltp := lt_of_block HP10.out
           have ltq := lt_of_block HX10.out
           cases ok2 with
           | false =>
             go_wp2_with fail
             go_roundg (gk - 1)
             case measure => have := HG.out; omega
             case rel => exact ⟨3, by omega, by have := HG.out; omega, rfl, left_step HNO.out (by rw [HQ.out]; simp), ST10.out, HP10.out⟩
           | true =>
             by_cases hqm : (⟨ql, qs, qr⟩ : Pt) = ⟨ml, ms, mr⟩
             · obtain ⟨rfl, rfl, rfl⟩ := Pt.mk.inj hqm
               have HLE := hid (least_hit (by omega) HNO.out HQ.out)
               clear hqm
               obtain ⟨k0, k1, k2⟩ := box3_cells HK10.out
               have ltk := lt_of_block HK10.out
               have c0 := ST10.out.c0
               have c1 := ST10.out.c1
               have c2 := ST10.out.c2
               have c3 := ST10.out.c3
               have c4 := ST10.out.c4
               have lt0 := ST10.out.lt
               have WI10 := hid (WI.out w10 (leftN ⟨ql, qs, qr⟩ 2) ST10.out)
               simp only [leftN, ptV, S] at WI10
               go_wp2_with fail
               refine WI10.out.mono ?_
               rintro e w11 ⟨v', rfl, own11, hb11⟩
               have ST11 := hid (ST10.out.below hb11)
               have HLT := hid (show w.heap.size + 1 < w10.heap.size from ST10.out.lz)
               obtain ⟨b1, g1, b2, g2, rfl⟩ := own11.shape
               have OW11 := hid own11
               clear hb11 own11 WI10 c0 c1 c2 c3 c4
               obtain ⟨z0, z1, z2, z3, z4, fz0, fz1, fz2, fz3, fz4, lz, lt0⟩ := ret5 ST11.out
               simp only [withT, leftN]
               go_wp2_with fail
               try simp only [Exit.inBlock, Exit.then]
               try rw [Exit.noGoto_ret]
               change bodyPost _ _ _ _ _ (P5 w11 (w.heap.size + 1) (.string ⟨ql.toArray⟩) (.string ⟨qs.toArray⟩) (.string ⟨#[]⟩) (.slice b1 t.vars.length g1) (.slice b2 t.keys.length g2))
               exact remT_ret (t' := withT t ⟨ql, qs, []⟩) ST11.out HLT.out true (by rw [HA.out, HLE.out]; try rfl) OW11.out rfl rfl rfl
             · have hqn : ¬ (ql = ml ∧ qs = ms ∧ qr = mr) := fun e => hqm (by rw [e.1, e.2.1, e.2.2])
               have HQM := hid hqm
               clear hqm
               obtain ⟨k0, k1, k2⟩ := box3_cells HK10.out
               have ltk := lt_of_block HK10.out
               have c0 := ST10.out.c0
               have c1 := ST10.out.c1
               have c2 := ST10.out.c2
               have c3 := ST10.out.c3
               have c4 := ST10.out.c4
               have lt0 := ST10.out.lt
               go_wp2_with fail
               all_goals first | exact absurd (⟨by assumption, by assumption, by assumption⟩ : ql = ml ∧ qs = ms ∧ qr = mr) hqn | go_roundg (gk - 1)
               all_goals first
                 | (have := HG.out; omega)
                 | exact ⟨3, by omega, by have := HG.out; omega, rfl, left_step HNO.out (by rw [HQ.out]; exact fun e => HQM.out (Prod.mk.inj e).1), ST10.out, HP10.out⟩
         · -- the end
           have hvi3 : _ = Value.int .i64 3 := hvi
           subst hvi3
           have HLE := hid (least_end HNO.out)
           obtain ⟨p0, p1, p2⟩ := box3_cells HP2.out
           have ltp := lt_of_block HP2.out
           have c0 := ST2.out.c0
           have c1 := ST2.out.c1
           have c2 := ST2.out.c2
           have c3 := ST2.out.c3
           have c4 := ST2.out.c4
           have lt0 := ST2.out.lt
           have WI2 := hid (WI.out w2 ⟨ml, ms, mr⟩ ST2.out)
           simp only [ptV, S] at WI2
           go_wp2_with fail
           refine WI2.out.mono ?_
           rintro e w11 ⟨v', rfl, own11, hb11⟩
           have ST11 := hid (ST2.out.below hb11)
           have HLT := hid (show w.heap.size + 1 < w2.heap.size from ST2.out.lz)
           obtain ⟨b1, g1, b2, g2, rfl⟩ := own11.shape
           have OW11 := hid own11
           clear hb11 own11 WI2 c0 c1 c2 c3 c4
           obtain ⟨z0, z1, z2, z3, z4, fz0, fz1, fz2, fz3, fz4, lz, lt0⟩ := ret5 ST11.out
           simp only [withT, leftN]
           go_wp2_with fail
           try simp only [Exit.inBlock, Exit.then]
           try rw [Exit.noGoto_ret]
           change bodyPost _ _ _ _ _ (P5 w11 (w.heap.size + 1) (.string ⟨ml.toArray⟩) (.string ⟨ms.toArray⟩) (.string ⟨mr.toArray⟩) (.slice b1 t.vars.length g1) (.slice b2 t.keys.length g2))
           exact remT_ret (t' := withT t ⟨ml, ms, mr⟩) ST11.out HLT.out true (by rw [HA.out, HLE.out]; try rfl) OW11.out rfl rfl rfl
      · have HA := hid (rem_no H0.out HM.out hcm)
        simp only [withT] at hcm
        have hcb : (checkF { lang := ml, script := ms, region := mr, vars := t.vars, keys := t.keys } != 0) = true := by rw [bne_iff_ne]; exact hcm
        clear hcm
        go_upto_region 5 with fail
        have std : AdSt w t (.slice av t.vars.length cv) (.slice ak t.keys.length ck) w7.drew := ST7.out.drew
        have S0 : w7.drew.cell? ⟨w.heap.size, 0, none⟩ = some (.string ⟨t.lang.toArray⟩) ∧ w7.drew.cell? ⟨w.heap.size, 1, none⟩ = some (.string ⟨t.script.toArray⟩) ∧ w7.drew.cell? ⟨w.heap.size, 2, none⟩ = some (.string ⟨t.region.toArray⟩) ∧ w7.drew.cell? ⟨w.heap.size, 3, none⟩ = some (.slice av t.vars.length cv) ∧ w7.drew.cell? ⟨w.heap.size, 4, none⟩ = some (.slice ak t.keys.length ck) := ⟨std.c0, std.c1, std.c2, std.c3, std.c4⟩
        have hn1 : w.heap.size + 1 ≠ w.heap.size := by omega
        go_region_held3 (fun W => W.cell? ⟨w.heap.size, 0, none⟩ = some (.string ⟨t.lang.toArray⟩) ∧ W.cell? ⟨w.heap.size, 1, none⟩ = some (.string ⟨t.script.toArray⟩) ∧ W.cell? ⟨w.heap.size, 2, none⟩ = some (.string ⟨t.region.toArray⟩) ∧ W.cell? ⟨w.heap.size, 3, none⟩ = some (.slice av t.vars.length cv) ∧ W.cell? ⟨w.heap.size, 4, none⟩ = some (.slice ak t.keys.length ck)) (first | with_reducible assumption | simp [cell_far hn1, hsP]) (first
          | (go_at_call 31; (with_reducible refine (of_held (by assumption)).mono ?_); rintro e wS ⟨rfl, sS, ys0, ys1, ys2, ys3, ys4, ys5, ys6, ys7, ys8, ys9, ys10, ys11, hsS⟩)
          | (go_at_call 32; (with_reducible refine (with_held (by assumption) hv hk).mono ?_); rintro e wP ⟨b1, g1, b2, g2, rfl, oP, sP, yp0, yp1, yp2, yp3, yp4, yp5, yp6, yp7, yp8, yp9, yp10, yp11, hsP⟩))
        go_wp2_with fail
        change bodyPost _ _ _ _ _ (P5 wP (w.heap.size + 1) (.string ⟨t.lang.toArray⟩) (.string ⟨t.script.toArray⟩) (.string ⟨t.region.toArray⟩) (.slice b1 t.vars.length g1) (.slice b2 t.keys.length g2))
        exact remT_ret (t' := t) sP (B := w.heap.size + 2) (by omega) false HA.out oP rfl rfl rfl
  · have HA := hid (rem_chk (D := D) h0)
    have hb : (checkF t != 0) = true := by rw [bne_iff_ne]; exact h0
    clear h0
    go_wp2_with fail
    change bodyPost _ _ _ _ _ (P5 w1 (w.heap.size + 1) (.string ⟨#[]⟩) (.string ⟨#[]⟩) (.string ⟨#[]⟩) (.slice none 0 0) (.slice none 0 0))
    exact remT_ret (t' := Tg.zero) ST1.out (B := w.heap.size + 2) (by omega) false HA.out (ca := none) (cb := none) (na := 0) (nb := 0) (OwnT.zero _ _) rfl rfl rfl
end Go.Proofs.YtlmgmifaknlolaaGreat

/- The contracts of likely.Full and of the law's wakes, and what a Likely that is not there tells. -/
set_option linter.unusedVariables false
set_option linter.unusedSimpArgs false
namespace Go.Proofs.YtlmgmifaknlolaaGreat
open Go.RowKit Go.Lib Go.Sort Go.Maps

def wkEn : Str := [101, 110]
def wkFull : Str := [101, 110, 45, 76, 97, 116, 110, 45, 85, 83]
def pEn : Pt := ⟨[101, 110], [], []⟩
def pFull : Pt := ⟨[101, 110], [76, 97, 116, 110], [85, 83]⟩
def wkL : List (Str × Str) := [(wkEn, wkFull)]
theorem good_En2 : Good pEn.tag := ⟨⟨Or.inr (by decide), Or.inl rfl, Or.inl rfl, VarsOK.nil, srtS_nil, KeysOK.nil, srtK_nil⟩, by decide⟩
theorem good_Full : Good pFull.tag := ⟨⟨Or.inr (by decide), Or.inr (by decide), Or.inr (by decide), VarsOK.nil, srtS_nil, KeysOK.nil, srtK_nil⟩, by decide⟩
theorem key_En : ptKey pEn = wkEn := by rw [key_good good_En2]; decide
theorem key_Full : ptKey pFull = wkFull := by rw [key_good good_Full]; decide
theorem read_En : ptRead wkEn = (pEn, true) := by rw [← key_En]; exact key_back good_En2
theorem read_Full : ptRead wkFull = (pFull, true) := by rw [← key_Full]; exact key_back good_Full
theorem full_Full : pFull.full := by decide
theorem wk_ok : okP (wkEn, wkFull) := ⟨by rw [read_En], by rw [read_Full], by rw [read_Full]; exact full_Full⟩
theorem wk_d : dOf wkL = [(pEn, pFull)] := by
  unfold dOf wkL entryP
  rw [List.map_cons, List.map_nil, read_En, read_Full]
theorem wk_bad : badL [] wkL = none := by
  unfold wkL badL
  rw [if_pos wk_ok, if_pos (show lookP [] _ = none from rfl)]; rfl
theorem wk_addP : addP [(pEn, pFull)] (ptOf pEn.tag) = (pFull, true) := by decide
theorem wk_add : addT (dOf wkL) pEn.tag = (pFull.tag, true) := by
  rw [wk_d]
  have h := add_yes (D := [(pEn, pFull)]) (t := pEn.tag) (good_check _ good_En2) wk_addP (good_check _ (show Good (withT pEn.tag pFull) from good_Full))
  rw [h]; rfl
theorem wk_goodD : goodD (dOf wkL) := goodD_of (badL_ok wk_bad).1

set_option maxRecDepth 100000 in
set_option maxHeartbeats 8000000 in
theorem lfull_any (w : World) (v : Value) (t : Tg) (hT : RdT w v t) (hv : t.vars.length ≤ 1000) (hk : t.keys.length ≤ 1000) (hz : szT t ≤ 1000000000) :
    Calls Tryz.prog 18 #[v] w fun e w' => e = .returned (.bool (decide (checkF t = 0 ∧ (ptOf t).full))) ∧ Below w.heap.size w w' := by
  have CK := hid (fun W (hb : Below w.heap.size w W) => check_any W v t (hT.below hb) hv hk (Nat.le_trans (write_le t) (by omega)))
  have OF := hid (fun W (hb : Below w.heap.size w W) => of_any W v t (hT.below hb))
  have FU := hid (fun W => full_any W (ptOf t))
  obtain ⟨vv, kv, rfl, hS, hP⟩ := hT
  obtain ⟨av, cv, rfl, _, _⟩ := hS
  obtain ⟨ak, ck, rfl, _, _⟩ := hP
  clear hz hv hk
  have HB0 := hid ((Below.refl w.heap.size w).alloc (Nat.le_refl _) (.cells #[.string ⟨t.lang.toArray⟩, .string ⟨t.script.toArray⟩, .string ⟨t.region.toArray⟩, .slice av t.vars.length cv, .slice ak t.keys.length ck] 25))
  have HX0 := hid (heap_alloc_new w (.cells #[.string ⟨t.lang.toArray⟩, .string ⟨t.script.toArray⟩, .string ⟨t.region.toArray⟩, .slice av t.vars.length cv, .slice ak t.keys.length ck] 25))
  simp only [tagCells, S, ptV] at *
  go_enter Tryz.func18, Tryz.ntmps18
  go_upto_region 1 with (fail)
  generalize w.alloc (.cells #[.string ⟨t.lang.toArray⟩, .string ⟨t.script.toArray⟩, .string ⟨t.region.toArray⟩, .slice av t.vars.length cv, .slice ak t.keys.length ck] 25) = w0 at *
  obtain ⟨c0, c1, c2, c3, c4⟩ := box_cells HX0.out
  have ltx := lt_of_block HX0.out
  go_wp2_with fail
  refine (CK.out _ HB0.out).mono ?_
  rintro e w1 ⟨rfl, hb1⟩
  have HB1 := hid (HB0.out.then hb1)
  have HX1 := hid ((hb1.block _ (lt_of_block HX0.out)).trans HX0.out)
  clear c0 c1 c2 c3 c4 ltx hb1 HB0 HX0
  obtain ⟨c0, c1, c2, c3, c4⟩ := box_cells HX1.out
  have ltx := lt_of_block HX1.out
  by_cases h0 : checkF t = 0
  · rw [h0]
    have HF := hid (show decide (checkF t = 0 ∧ (ptOf t).full) = decide (ptOf t).full by simp [h0])
    clear h0
    go_wp2_with fail
    refine (OF.out _ HB1.out).mono ?_
    rintro e w2 ⟨rfl, hb2⟩
    have HB2 := hid (HB1.out.then hb2)
    clear hb2
    go_wp2_with fail
    refine (FU.out _).mono ?_
    rintro e w3 ⟨rfl, hb3⟩
    go_wp2_with fail
    go_ret
    exact ⟨by rw [HF.out]; rfl, HB2.out.then hb3⟩
  · have hb : (checkF t == 0) = false := by rw [beq_eq_false_iff_ne]; exact h0
    have HF := hid (show decide (checkF t = 0 ∧ (ptOf t).full) = false by simp [h0])
    clear h0
    go_wp2_with fail
    go_ret
    exact ⟨by rw [HF.out]; rfl, HB1.out⟩

theorem lnew_one {l : List (Str × Str)} {e i : Nat} (h : badL [] l = none) (ho : LNewOut l e i) : e = 0 ∧ i = 0 := by
  rcases ho with h2 | ⟨_, h2, h3⟩
  · rw [h] at h2; cases h2
  · exact ⟨h2, h3⟩
theorem fresh_ownP (w : World) (l : List (Str × Str)) (B : Nat) (hB : B ≤ w.heap.size) (hl : l.length ≤ 1000) : OwnP (w.alloc (.cells (flat2 l).toArray 42)) B (.slice (some ⟨w.heap.size, 0, none⟩) l.length l.length) l :=
  ⟨by rw [flat2_len], Or.inr ⟨w.heap.size, l.length, _, rfl, hB, heap_alloc_new w _, Nat.le_refl _, by unfold maxLen; omega, by simp [flat2_len], List.take_of_length_le (by simp [flat2_len])⟩⟩

set_option maxRecDepth 100000 in
set_option maxHeartbeats 8000000 in
theorem lwakes_any (w : World) : Calls Tryz.prog 9 #[] w fun e w' => e = .returned (.bool true) ∧ Below w.heap.size w w' := by
  have hb1 : Below w.heap.size w (w.alloc (.cells (flat2 wkL).toArray 42)) := (Below.refl _ _).alloc (Nat.le_refl _) _
  have hrd : RdP (w.alloc (.cells (flat2 wkL).toArray 42)) (.slice (some ⟨w.heap.size, 0, none⟩) 1 1) wkL := (fresh_ownP w wkL w.heap.size (Nat.le_refl _) (by decide)).rd
  have NW := hid (lnew_any _ _ wkL hrd (fun p hp => by rw [show p = (wkEn, wkFull) from List.mem_singleton.1 hp]; exact ⟨by decide, by decide⟩) (by decide))
  have HB1 := hid hb1
  clear hb1 hrd
  go_enter Tryz.func9, Tryz.ntmps9
  go_wp2_with fail
  refine NW.out.mono ?_
  rintro e w2 ⟨er, i, vc, rfl, ho, h0, h1, hb2⟩
  obtain ⟨rfl, rfl⟩ := lnew_one wk_bad ho
  have HC := hid (h0 rfl)
  have HB2 := hid (HB1.out.then hb2)
  obtain ⟨bc, bm, n0, rfl, _, _, _⟩ := h0 rfl
  clear ho h0 h1 hb2 HB1
  go_upto_region 2 with fail
  have hb3 : Below w2.heap.size w2 (w2.alloc (.cells #[.int .i64 0, .int .i64 0] 45)) := (Below.refl _ _).alloc (Nat.le_refl _) _
  have HF3 := hid (heap_alloc_new w2 (.cells #[.int .i64 0, .int .i64 0] 45))
  generalize w2.alloc (.cells #[.int .i64 0, .int .i64 0] 45) = w3 at *
  have HC3 := hid (HC.out.below hb3)
  have HB3 := hid (HB2.out.then hb3)
  have AD := hid (tadd_any w3 (.pointer (some ⟨bc, 0, none⟩)) (.agg (tagCells pEn.tag vnil vnil)) (dOf wkL) pEn.tag HC3.out ⟨vnil, vnil, rfl, RdS.nil _, RdP.nil _⟩ (by decide) (by decide) (by decide) wk_goodD)
  clear HC HB2 hb3
  go_wp2_with fail
  refine AD.out.mono ?_
  rintro e w4 ⟨v', rfl, own, hb4⟩
  rw [wk_add] at own ⊢
  obtain ⟨a1, e1, a2, e2, rfl⟩ := own.shape
  have HB4 := hid (HB3.out.then hb4)
  have HF4 := hid ((hb4.block _ (lt_of_block HF3.out)).trans HF3.out)
  clear own hb4 AD HB3 HF3 HC3
  go_upto_region 3 with fail
  have HX5 := hid (heap_alloc_new w4 (.cells #[.string ⟨pFull.tag.lang.toArray⟩, .string ⟨pFull.tag.script.toArray⟩, .string ⟨pFull.tag.region.toArray⟩, .slice a1 pFull.tag.vars.length e1, .slice a2 pFull.tag.keys.length e2] 25))
  have hb5 : Below w4.heap.size w4 (w4.alloc (.cells #[.string ⟨pFull.tag.lang.toArray⟩, .string ⟨pFull.tag.script.toArray⟩, .string ⟨pFull.tag.region.toArray⟩, .slice a1 pFull.tag.vars.length e1, .slice a2 pFull.tag.keys.length e2] 25)) := (Below.refl _ _).alloc (Nat.le_refl _) _
  generalize w4.alloc (.cells #[.string ⟨pFull.tag.lang.toArray⟩, .string ⟨pFull.tag.script.toArray⟩, .string ⟨pFull.tag.region.toArray⟩, .slice a1 pFull.tag.vars.length e1, .slice a2 pFull.tag.keys.length e2] 25) = w5 at *
  have HB5 := hid (HB4.out.then hb5)
  have HF5 := hid ((hb5.block _ (lt_of_block HF4.out)).trans HF4.out)
  obtain ⟨x0, x1, x2, x3, x4⟩ := box_cells HX5.out
  have k1 : w5.cell? ⟨w4.heap.size, 1, none⟩ = some (.string ⟨#[76, 97, 116, 110]⟩) := x1
  have k2 : w5.cell? ⟨w4.heap.size, 2, none⟩ = some (.string ⟨#[85, 83]⟩) := x2
  have f0 : w5.cell? ⟨w2.heap.size, 0, none⟩ = some (.int .i64 0) := by rw [cell_of_row _ _ _ _ _ _ HF5.out]; rfl
  have f1 : w5.cell? ⟨w2.heap.size, 1, none⟩ = some (.int .i64 0) := by rw [cell_of_row _ _ _ _ _ _ HF5.out]; rfl
  have ltx := lt_of_block HX5.out
  have ltf := lt_of_block HF5.out
  have FU := hid (lfull_any w5 (.agg (tagCells pEn.tag vnil vnil)) pEn.tag ⟨vnil, vnil, rfl, RdS.nil _, RdP.nil _⟩ (by decide) (by decide) (by decide))
  have hne : decide (checkF pEn.tag = 0 ∧ (ptOf pEn.tag).full) = false := decide_eq_false (fun e => absurd e.2 (by decide))
  rw [hne] at FU
  clear x0 x1 x2 x3 x4 hb5 HB4 HF4 hne
  go_wp2_with fail
  refine FU.out.mono ?_
  rintro e w6 ⟨rfl, hb6⟩
  go_wp2_with fail
  go_ret
  exact ⟨rfl, HB5.out.then hb6⟩

set_option maxRecDepth 100000 in
set_option maxHeartbeats 8000000 in
theorem tadd_nil (w : World) (va : Value) (t : Tg) (hT : RdT w va t) :
    Calls Tryz.prog 15 #[.pointer none, va] w fun e w' => TagOut w (Tg.zero, false) e w' := by
  obtain ⟨vv, kv, rfl, hS, hP⟩ := hT
  have ST0 := hid (AdSt.start hS hP)
  obtain ⟨av, cv, rfl, _, _⟩ := hS
  obtain ⟨ak, ck, rfl, _, _⟩ := hP
  simp only [vnil] at ST0
  go_enter Tryz.func15, Tryz.ntmps15
  simp only [tagCells, S, Tg.zero, ptV] at *
  go_upto_region 1 with (fail)
  generalize ((w.alloc (.cells #[.string ⟨t.lang.toArray⟩, .string ⟨t.script.toArray⟩, .string ⟨t.region.toArray⟩, .slice av t.vars.length cv, .slice ak t.keys.length ck] 25)).alloc (.cells #[.string ⟨#[]⟩, .string ⟨#[]⟩, .string ⟨#[]⟩, .slice none 0 0, .slice none 0 0] 25)) = w0 at *
  obtain ⟨z0, z1, z2, z3, z4, fz0, fz1, fz2, fz3, fz4, lz, lt0⟩ := ret5 ST0.out
  go_wp2_with fail
  change bodyPost _ _ _ _ _ (P5 w0 (w.heap.size + 1) (.string ⟨#[]⟩) (.string ⟨#[]⟩) (.string ⟨#[]⟩) (.slice none 0 0) (.slice none 0 0))
  exact addT_ret (t' := Tg.zero) ST0.out (B := w.heap.size + 2) (by omega) false rfl (ca := none) (cb := none) (na := 0) (nb := 0) (OwnT.zero _ _) rfl rfl rfl

set_option maxRecDepth 100000 in
set_option maxHeartbeats 8000000 in
theorem trem_nil (w : World) (va : Value) (t : Tg) (hT : RdT w va t) :
    Calls Tryz.prog 21 #[.pointer none, va] w fun e w' => TagOut w (Tg.zero, false) e w' := by
  obtain ⟨vv, kv, rfl, hS, hP⟩ := hT
  have ST0 := hid (AdSt.start hS hP)
  obtain ⟨av, cv, rfl, _, _⟩ := hS
  obtain ⟨ak, ck, rfl, _, _⟩ := hP
  simp only [vnil] at ST0
  go_enter Tryz.func21, Tryz.ntmps21
  simp only [tagCells, S, Tg.zero, ptV] at *
  go_upto_region 1 with (fail)
  generalize ((w.alloc (.cells #[.string ⟨t.lang.toArray⟩, .string ⟨t.script.toArray⟩, .string ⟨t.region.toArray⟩, .slice av t.vars.length cv, .slice ak t.keys.length ck] 25)).alloc (.cells #[.string ⟨#[]⟩, .string ⟨#[]⟩, .string ⟨#[]⟩, .slice none 0 0, .slice none 0 0] 25)) = w0 at *
  obtain ⟨z0, z1, z2, z3, z4, fz0, fz1, fz2, fz3, fz4, lz, lt0⟩ := ret5 ST0.out
  go_wp2_with fail
  change bodyPost _ _ _ _ _ (P5 w0 (w.heap.size + 1) (.string ⟨#[]⟩) (.string ⟨#[]⟩) (.string ⟨#[]⟩) (.slice none 0 0) (.slice none 0 0))
  exact remT_ret (t' := Tg.zero) ST0.out (B := w.heap.size + 2) (by omega) false rfl (ca := none) (cb := none) (na := 0) (nb := 0) (OwnT.zero _ _) rfl rfl rfl

set_option maxRecDepth 100000 in
theorem tsaid_nil (w : World) :
    Calls Tryz.prog 23 #[.pointer none] w fun e w' => e = .returned (.slice none 0 0) ∧ Below w.heap.size w w' := by
  go_enter Tryz.func23, Tryz.ntmps23
  go_wp2_with fail
  go_ret
  exact ⟨rfl, Below.refl _ _⟩
end Go.Proofs.YtlmgmifaknlolaaGreat
