/- The contract of likely.add. -/
import Derived.Test.YtlmgmifaknlolaaGreatLkTry
import Derived.Test.YtlmgmifaknlolaaGreatLkNew
import Derived.Deep.CutBlock
import Derived.Deep.LoopGhost
set_option linter.unusedVariables false
set_option linter.unusedSimpArgs false
namespace Go.Proofs.YtlmgmifaknlolaaGreat
open Go.RowKit Go.Lib Go.Sort Go.Maps

theorem AddSt.setL {w W : World} {bc tb : Nat} {p tq : Pt} {fnd : Bool} (h : AddSt w bc tb W p tq fnd) (x : Str) : AddSt w bc tb (W.setCell ⟨w.heap.size + 1, 0, none⟩ (S x)) ⟨x, p.s, p.r⟩ tq fnd := by
  have ht := h.ht
  refine ⟨?_, ?_, ?_, ?_, ?_, h.bel.setCell (by simp) _, ht⟩
  · rw [heap_setCell_other _ _ _ _ (by simp)]; exact h.bl
  · rw [heap_setCell_same _ _ _ _ _ _ h.bp]; simp
  · rw [heap_setCell_other _ _ _ _ (by simp)]; exact h.br
  · rw [heap_setCell_other _ _ _ _ (by show _ ≠ _; simp only; omega)]; exact h.bt
  · rw [heap_setCell_other _ _ _ _ (by show _ ≠ _; simp only; omega)]; exact h.bf
theorem AddSt.setS {w W : World} {bc tb : Nat} {p tq : Pt} {fnd : Bool} (h : AddSt w bc tb W p tq fnd) (x : Str) : AddSt w bc tb (W.setCell ⟨w.heap.size + 1, 1, none⟩ (S x)) ⟨p.l, x, p.r⟩ tq fnd := by
  have ht := h.ht
  refine ⟨?_, ?_, ?_, ?_, ?_, h.bel.setCell (by simp) _, ht⟩
  · rw [heap_setCell_other _ _ _ _ (by simp)]; exact h.bl
  · rw [heap_setCell_same _ _ _ _ _ _ h.bp]; simp
  · rw [heap_setCell_other _ _ _ _ (by simp)]; exact h.br
  · rw [heap_setCell_other _ _ _ _ (by show _ ≠ _; simp only; omega)]; exact h.bt
  · rw [heap_setCell_other _ _ _ _ (by show _ ≠ _; simp only; omega)]; exact h.bf
theorem AddSt.setR {w W : World} {bc tb : Nat} {p tq : Pt} {fnd : Bool} (h : AddSt w bc tb W p tq fnd) (x : Str) : AddSt w bc tb (W.setCell ⟨w.heap.size + 1, 2, none⟩ (S x)) ⟨p.l, p.s, x⟩ tq fnd := by
  have ht := h.ht
  refine ⟨?_, ?_, ?_, ?_, ?_, h.bel.setCell (by simp) _, ht⟩
  · rw [heap_setCell_other _ _ _ _ (by simp)]; exact h.bl
  · rw [heap_setCell_same _ _ _ _ _ _ h.bp]; simp
  · rw [heap_setCell_other _ _ _ _ (by simp)]; exact h.br
  · rw [heap_setCell_other _ _ _ _ (by show _ ≠ _; simp only; omega)]; exact h.bt
  · rw [heap_setCell_other _ _ _ _ (by show _ ≠ _; simp only; omega)]; exact h.bf
/-- add's way out -/
theorem add_ret {w W : World} {bc tb : Nat} {p tq : Pt} {fnd : Bool} {D : List (Pt × Pt)} {p0 : Pt} (h : AddSt w bc tb W p tq fnd) (b : Bool) (hq : addP D p0 = (p, b)) {a : Act} (hd : a.defers = [])
    (h4 : a.tmps.getD 4 undef = .pointer (some ⟨w.heap.size + 1 + 1, 0, none⟩)) (h5 : a.tmps.getD 5 undef = .bool b) :
    bodyPost Tryz.prog Tryz.f30 (fun e w' => e = .returned (.tuple #[ptV (addP D p0).1, .bool (addP D p0).2]) ∧ Below w.heap.size w w') Exit.ret a (P3 W (w.heap.size + 1 + 1) (S p.l) (S p.s) (S p.r)) := by
  have hr := P3_row (S p.l) (S p.s) (S p.r) h.br
  have hw := P3_below (S p.l) (S p.s) (S p.r) h.bel (show w.heap.size ≤ w.heap.size + 1 + 1 by omega)
  generalize P3 W (w.heap.size + 1 + 1) (S p.l) (S p.s) (S p.r) = V at *
  obtain ⟨d0, d1, d2⟩ := box3_cells hr
  refine bodyPost_ret (v := .tuple #[ptV p, .bool b]) ?_ hd ⟨by rw [hq], hw⟩
  obtain ⟨tmps, defers⟩ := a
  simp only [Array.getD_eq_getD_getElem?] at h4 h5
  simp [results, Tryz.results30, go_sem, h4, h5, d0, d1, d2, ptV]

theorem addP_found {D : List (Pt × Pt)} {p q : Pt} (hf : ¬ p.full) (h : findP D (tryKeys p) = some q) : addP D p = (fillP p q, true) := by
  unfold addP; rw [if_neg hf, h]
theorem addP_lost {D : List (Pt × Pt)} {p : Pt} (hf : ¬ p.full) (h : findP D (tryKeys p) = none) : addP D p = (p, false) := by
  unfold addP; rw [if_neg hf, h]
/-- the key of the n-th try -/
def tryN (p : Pt) : Nat → List Pt
  | 0 => if p.s ≠ [] ∧ p.r ≠ [] then [p] else []
  | 1 => if p.r ≠ [] then [⟨p.l, [], p.r⟩] else []
  | 2 => if p.s ≠ [] then [⟨p.l, p.s, []⟩] else []
  | 3 => [⟨p.l, [], []⟩]
  | _ => if p.s ≠ [] then [⟨[], p.s, []⟩] else []
theorem findP_append (D : List (Pt × Pt)) (a b : List Pt) : findP D (a ++ b) = (findP D a).or (findP D b) := by
  induction a with
  | nil => simp [findP]
  | cons k a ih =>
    rw [List.cons_append, findP, findP]
    cases lookP D k with
    | some q => rfl
    | none => exact ih
theorem tryKeys_N (p : Pt) : tryKeys p = tryN p 0 ++ (tryN p 1 ++ (tryN p 2 ++ (tryN p 3 ++ tryN p 4))) := rfl
/-- the tries ahead of the n-th have found nothing -/
def lostN (D : List (Pt × Pt)) (p : Pt) (n : Nat) : Prop := ∀ j, j < n → findP D (tryN p j) = none
theorem lostN_all {D : List (Pt × Pt)} {p : Pt} (h : lostN D p 5) : findP D (tryKeys p) = none := by
  rw [tryKeys_N]
  simp only [findP_append, h 0 (by omega), h 1 (by omega), h 2 (by omega), h 3 (by omega), h 4 (by omega)]
  rfl
theorem lostN_hit {D : List (Pt × Pt)} {p q : Pt} {n : Nat} (hn : n < 5) (h : lostN D p n) (hq : findP D (tryN p n) = some q) : findP D (tryKeys p) = some q := by
  rw [tryKeys_N]
  simp only [findP_append]
  match n, hn with
  | 0, _ => rw [hq]; rfl
  | 1, _ => rw [h 0 (by omega), hq]; rfl
  | 2, _ => rw [h 0 (by omega), h 1 (by omega), hq]; rfl
  | 3, _ => rw [h 0 (by omega), h 1 (by omega), h 2 (by omega), hq]; rfl
  | 4, _ => rw [h 0 (by omega), h 1 (by omega), h 2 (by omega), h 3 (by omega), hq]; rfl
theorem lostN_step {D : List (Pt × Pt)} {p : Pt} {n : Nat} (h : lostN D p n) (hq : findP D (tryN p n) = none) : lostN D p (n + 1) := by
  intro j hj
  by_cases e : j = n
  · rw [e]; exact hq
  · exact h j (by omega)
theorem findP_one (D : List (Pt × Pt)) (k : Pt) : findP D [k] = lookP D k := by
  unfold findP; cases lookP D k <;> rfl

/-- the key and the needs of the n-th try -/
def keyN (p : Pt) : Nat → Pt
  | 0 => p
  | 1 => ⟨p.l, [], p.r⟩
  | 2 => ⟨p.l, p.s, []⟩
  | 3 => ⟨p.l, [], []⟩
  | _ => ⟨[], p.s, []⟩
def needsN (p : Pt) : Nat → List Str
  | 0 => [p.s, p.r]
  | 1 => [p.r]
  | 2 => [p.s]
  | 3 => []
  | _ => [p.s]
theorem tryN_eq (p : Pt) (n : Nat) : tryN p n = if ([] : Str) ∈ needsN p n then [] else [keyN p n] := by
  match n with
  | 0 => unfold tryN needsN keyN; by_cases h : p.s = [] <;> by_cases h2 : p.r = [] <;> simp [h, h2, eq_comm]
  | 1 => unfold tryN needsN keyN; by_cases h2 : p.r = [] <;> simp [h2, eq_comm]
  | 2 => unfold tryN needsN keyN; by_cases h2 : p.s = [] <;> simp [h2, eq_comm]
  | 3 => unfold tryN needsN keyN; simp
  | n + 4 => unfold tryN needsN keyN; by_cases h2 : p.s = [] <;> simp [h2, eq_comm]
theorem keyN_sz {p : Pt} (h : PtSz p) (n : Nat) : PtSz (keyN p n) := by
  obtain ⟨h1, h2, h3⟩ := h
  have h0 : ([] : Str).length ≤ maxLen := Nat.zero_le _
  match n with
  | 0 => exact ⟨h1, h2, h3⟩
  | 1 => exact ⟨h1, h0, h3⟩
  | 2 => exact ⟨h1, h2, h0⟩
  | 3 => exact ⟨h1, h0, h0⟩
  | n + 4 => exact ⟨h0, h2, h0⟩
theorem try_out {w w' : World} {bc tb : Nat} {D : List (Pt × Pt)} {p tq : Pt} {n : Nat} {e : Ending} (hn : n < 5) (hl : lostN D p n) (h : TryOut w bc tb D p tq false (keyN p n) (needsN p n) e w') :
    (e = .returned (.bool false) ∧ ∃ tq', AddSt w bc tb w' p tq' false ∧ lostN D p (n + 1)) ∨ (∃ q, e = .returned (.bool true) ∧ AddSt w bc tb w' p q true ∧ findP D (tryKeys p) = some q) := by
  unfold TryOut at h
  split at h
  · rename_i hin
    exact Or.inl ⟨h.1, tq, h.2, lostN_step hl (by rw [tryN_eq, if_pos hin]; rfl)⟩
  · rename_i hin
    cases hk : lookP D (keyN p n) with
    | none =>
      rw [hk] at h
      exact Or.inl ⟨h.1, _, h.2, lostN_step hl (by rw [tryN_eq, if_neg hin, findP_one, hk])⟩
    | some q =>
      rw [hk] at h
      exact Or.inr ⟨q, h.1, h.2, lostN_hit hn hl (by rw [tryN_eq, if_neg hin, findP_one, hk])⟩
/-- a fresh list of texts -/
theorem rdS_fresh (w : World) (l : List Str) (hl : l.length ≤ 1000) : RdS (w.alloc (.cells (l.map S).toArray 9)) (.slice (some ⟨w.heap.size, 0, none⟩) l.length l.length) l := by
  refine ⟨some ⟨w.heap.size, 0, none⟩, l.length, rfl, by simp; omega, fun _ => ⟨w.heap.size, 0, rfl, by simp, fun j s hs => ?_⟩⟩
  rw [cell_of_row _ _ _ _ _ _ (heap_alloc_new w _)]
  simp [hs]
theorem addSt_start {w w1 : World} {bc : Nat} {p : Pt} (hL : w1.heap[w.heap.size]? = some (.cells #[.pointer (some ⟨bc, 0, none⟩)] 29 (0, 0))) (hP : w1.heap[w.heap.size + 1]? = some (.cells #[S p.l, S p.s, S p.r] 57 (0, 0)))
    (hZ : w1.heap[w.heap.size + 1 + 1]? = some (.cells #[S [], S [], S []] 57 (0, 0))) (hb : Below w.heap.size w w1) :
    AddSt w bc w1.heap.size ((w1.alloc (.cells #[.string ⟨#[]⟩, .string ⟨#[]⟩, .string ⟨#[]⟩] 57)).alloc (.cells #[.bool false] 4)) p Pt.zero false := by
  have s1 : (w1.alloc (.cells #[.string ⟨#[]⟩, .string ⟨#[]⟩, .string ⟨#[]⟩] 57)).heap.size = w1.heap.size + 1 := by simp
  have l1 := lt_of_block hL
  have l2 := lt_of_block hP
  have l3 := lt_of_block hZ
  have hh := below2 w1 (.cells #[.string ⟨#[]⟩, .string ⟨#[]⟩, .string ⟨#[]⟩] 57) (.cells #[.bool false] 4)
  exact ⟨(hh.block _ l1).trans hL, (hh.block _ l2).trans hP, (hh.block _ l3).trans hZ, heap_alloc2_old w1 _ _, heap_alloc2_new w1 _ _, hb.then hh, l3⟩

set_option maxRecDepth 100000 in
set_option maxHeartbeats 16000000 in
theorem add_any (w : World) (v : Value) (D : List (Pt × Pt)) (p : Pt) (hL : LkRd w v D) (hp : PtSz p) :
    Calls Tryz.prog 30 #[v, ptV p] w fun e w' => e = .returned (.tuple #[ptV (addP D p).1, .bool (addP D p).2]) ∧ Below w.heap.size w w' := by
  have HL := hid hL
  obtain ⟨bc, bm, n, rfl, hlt, hc, hown⟩ := hL
  have HP := hid hp
  obtain ⟨pl, ps, pr⟩ := p
  have TR := hid (fun W tb tq k needs nv st hk hn => try_any w W bc tb D ⟨pl, ps, pr⟩ tq k false needs nv HL.out st hk hn)
  have FU := hid full_any
  clear hlt hc hown hp
  have s1 : (w.alloc (.cells #[.pointer (some ⟨bc, 0, none⟩)] 29)).heap.size = w.heap.size + 1 := by simp
  have s2 : ((w.alloc (.cells #[.pointer (some ⟨bc, 0, none⟩)] 29)).alloc (.cells #[.string ⟨pl.toArray⟩, .string ⟨ps.toArray⟩, .string ⟨pr.toArray⟩] 57)).heap.size = w.heap.size + 1 + 1 := by simp
  have HB0 := hid (show Below w.heap.size w (((w.alloc (.cells #[.pointer (some ⟨bc, 0, none⟩)] 29)).alloc (.cells #[.string ⟨pl.toArray⟩, .string ⟨ps.toArray⟩, .string ⟨pr.toArray⟩] 57)).alloc (.cells #[.string ⟨#[]⟩, .string ⟨#[]⟩, .string ⟨#[]⟩] 57)) from (((Below.refl _ _).alloc (Nat.le_refl _) _).alloc (by rw [s1]; omega) _).alloc (by rw [s2]; omega) _)
  have HL0 := hid (show (((w.alloc (.cells #[.pointer (some ⟨bc, 0, none⟩)] 29)).alloc (.cells #[.string ⟨pl.toArray⟩, .string ⟨ps.toArray⟩, .string ⟨pr.toArray⟩] 57)).alloc (.cells #[.string ⟨#[]⟩, .string ⟨#[]⟩, .string ⟨#[]⟩] 57)).heap[w.heap.size]? = some (.cells #[.pointer (some ⟨bc, 0, none⟩)] 29 (0, 0)) from
    (heap_alloc_old _ _ (by rw [s2]; omega)).trans ((heap_alloc_old _ _ (by rw [s1]; omega)).trans (heap_alloc_new w _)))
  have HP0 := hid (show (((w.alloc (.cells #[.pointer (some ⟨bc, 0, none⟩)] 29)).alloc (.cells #[.string ⟨pl.toArray⟩, .string ⟨ps.toArray⟩, .string ⟨pr.toArray⟩] 57)).alloc (.cells #[.string ⟨#[]⟩, .string ⟨#[]⟩, .string ⟨#[]⟩] 57)).heap[w.heap.size + 1]? = some (.cells #[.string ⟨pl.toArray⟩, .string ⟨ps.toArray⟩, .string ⟨pr.toArray⟩] 57 (0, 0)) from by
    refine (heap_alloc_old _ _ (by rw [s2]; omega)).trans ?_
    have := heap_alloc_new (w.alloc (.cells #[.pointer (some ⟨bc, 0, none⟩)] 29)) (.cells #[.string ⟨pl.toArray⟩, .string ⟨ps.toArray⟩, .string ⟨pr.toArray⟩] 57)
    rw [s1] at this
    exact this)
  have HZ0 := hid (show (((w.alloc (.cells #[.pointer (some ⟨bc, 0, none⟩)] 29)).alloc (.cells #[.string ⟨pl.toArray⟩, .string ⟨ps.toArray⟩, .string ⟨pr.toArray⟩] 57)).alloc (.cells #[.string ⟨#[]⟩, .string ⟨#[]⟩, .string ⟨#[]⟩] 57)).heap[w.heap.size + 1 + 1]? = some (.cells #[.string ⟨#[]⟩, .string ⟨#[]⟩, .string ⟨#[]⟩] 57 (0, 0)) from by
    have := heap_alloc_new ((w.alloc (.cells #[.pointer (some ⟨bc, 0, none⟩)] 29)).alloc (.cells #[.string ⟨pl.toArray⟩, .string ⟨ps.toArray⟩, .string ⟨pr.toArray⟩] 57)) (.cells #[.string ⟨#[]⟩, .string ⟨#[]⟩, .string ⟨#[]⟩] 57)
    rw [s2] at this
    exact this)
  clear s1 s2
  simp only [ptV, S] at FU ⊢
  go_enter Tryz.func30, Tryz.ntmps30
  go_upto_region 1 with (fail)
  generalize (((w.alloc (.cells #[.pointer (some ⟨bc, 0, none⟩)] 29)).alloc (.cells #[.string ⟨pl.toArray⟩, .string ⟨ps.toArray⟩, .string ⟨pr.toArray⟩] 57)).alloc (.cells #[.string ⟨#[]⟩, .string ⟨#[]⟩, .string ⟨#[]⟩] 57)) = w0 at *
  obtain ⟨c0, c1, c2⟩ := box3_cells HP0.out
  have ltp := lt_of_block HP0.out
  go_step3
  go_wp2_with fail
  refine (FU.out _ ⟨pl, ps, pr⟩).mono ?_
  rintro e w1 ⟨rfl, hb1⟩
  have HL1 := hid ((hb1.block _ (lt_of_block HL0.out)).trans HL0.out)
  have HP1 := hid ((hb1.block _ (lt_of_block HP0.out)).trans HP0.out)
  have HZ1 := hid ((hb1.block _ (lt_of_block HZ0.out)).trans HZ0.out)
  have HB1 := hid (HB0.out.then hb1)
  clear c0 c1 c2 ltp hb1 HL0 HP0 HZ0 HB0
  by_cases hful : Pt.full ⟨pl, ps, pr⟩
  · have HQ := hid (show addP D ⟨pl, ps, pr⟩ = (⟨pl, ps, pr⟩, true) from if_pos hful)
    rw [decide_eq_true hful]
    clear hful
    obtain ⟨c0, c1, c2⟩ := box3_cells HP1.out
    obtain ⟨d0, d1, d2⟩ := box3_cells HZ1.out
    have ltp := lt_of_block HP1.out
    have ltz := lt_of_block HZ1.out
    have fz0 := frozen_of_row w1 (w.heap.size + 1 + 1) 0 _ _ HZ1.out
    have fz1 := frozen_of_row w1 (w.heap.size + 1 + 1) 1 _ _ HZ1.out
    have fz2 := frozen_of_row w1 (w.heap.size + 1 + 1) 2 _ _ HZ1.out
    go_wp2_with fail
    have hr := P3_row (S pl) (S ps) (S pr) HZ1.out
    have hw := P3_below (S pl) (S ps) (S pr) HB1.out (show w.heap.size ≤ w.heap.size + 1 + 1 by omega)
    clear c0 c1 c2 d0 d1 d2 fz0 fz1 fz2 ltp ltz
    try simp only [Exit.inBlock, Exit.then]
    rw [Exit.noGoto_ret]
    change bodyPost _ _ _ _ _ (P3 w1 (w.heap.size + 1 + 1) (S pl) (S ps) (S pr))
    generalize P3 w1 (w.heap.size + 1 + 1) (S pl) (S ps) (S pr) = V at *
    obtain ⟨d0, d1, d2⟩ := box3_cells hr
    refine bodyPost_ret (v := .tuple #[ptV ⟨pl, ps, pr⟩, .bool true]) (by simp [results, Tryz.results30, go_sem, d0, d1, d2, ptV]) rfl ⟨by rw [HQ.out]; rfl, hw⟩
  · have HF := hid hful
    rw [decide_eq_false hful]
    clear hful
    go_wp2_with fail
    have ST0 := hid (addSt_start (p := ⟨pl, ps, pr⟩) HL1.out HP1.out HZ1.out HB1.out)
    clear HL1 HP1 HZ1 HB1
    go_step3
    go_upto_block 0 with fail
    generalize (w1.alloc (.cells #[.string ⟨#[]⟩, .string ⟨#[]⟩, .string ⟨#[]⟩] 57)).alloc (.cells #[.bool false] 4) = wz at *
    go_cut [] from 9 to 69 (fun wx => ∃ tq fnd, AddSt w bc w1.heap.size wx ⟨pl, ps, pr⟩ tq fnd ∧ (fnd = false → findP D (tryKeys ⟨pl, ps, pr⟩) = none) ∧ (fnd = true → findP D (tryKeys ⟨pl, ps, pr⟩) = some tq))
    case first =>
     go_wp2_with fail
     go_loopg [14] 5 (fun g vi W => ∃ n : Nat, n ≤ 5 ∧ 5 ≤ n + g ∧ vi = .int .i64 n ∧ ∃ tq fnd, AddSt w bc w1.heap.size W ⟨pl, ps, pr⟩ tq fnd ∧ (fnd = false → lostN D ⟨pl, ps, pr⟩ n) ∧ (fnd = true → n = 5 ∧ findP D (tryKeys ⟨pl, ps, pr⟩) = some tq))
     case atStart => exact ⟨0, by omega, by omega, rfl, Pt.zero, false, ST0.out, fun _ j hj => by omega, fun h => by cases h⟩
     case round =>
      obtain ⟨n, hn, hg, hvi, tq, fnd, st, hf0, hf1⟩ := hrel
      rename World => w2
      have ST2 := hid st
      have HG := hid hg
      have HB2 := hid (show Below w.heap.size w w2 from st.bel)
      clear st hg
      by_cases h5 : n = 5
      · subst h5
        have hvi5 : _ = Value.int .i64 5 := hvi
        subst hvi5
        have HF0 := hid hf0
        have HF1 := hid hf1
        clear hf0 hf1
        go_wp2_with fail
        go_meet
        case rel => exact ⟨tq, fnd, ST2.out, fun h => lostN_all (HF0.out h), fun h => (HF1.out h).2⟩
      obtain rfl : fnd = false := by
        cases fnd with
        | true => exact absurd (hf1 rfl).1 h5
        | false => rfl
      have HST := hid (show ∃ tq, AddSt w bc w1.heap.size w2 ⟨pl, ps, pr⟩ tq false from ⟨tq, ST2.out⟩)
      have HLOST := hid (hf0 rfl)
      clear hf0 hf1 ST0
      rcases (by omega : n = 0 ∨ n = 1 ∨ n = 2 ∨ n = 3 ∨ n = 4) with rfl | rfl | rfl | rfl | rfl
      · -- the try 0
        have HL2 := hid (HL.out.below HB2.out)
        have hvi0 : _ = Value.int .i64 0 := hvi
        subst hvi0
        obtain ⟨c0, c1, c2⟩ := box3_cells ST2.out.bp
        simp only [S] at c0 c1 c2
        have ltp := lt_of_block ST2.out.bp
        have HA := hid (show Below w2.heap.size w2 (w2.alloc (.cells #[.string ⟨ps.toArray⟩, .string ⟨pr.toArray⟩] 9)) from (Below.refl _ _).alloc (Nat.le_refl _) _)
        have HN := hid (rdS_fresh w2 [ps, pr] (by simp))
        simp only [List.map_cons, List.map_nil, S] at HN
        have ST3 := hid (ST2.out.below HA.out)
        have TR3 := hid (TR.out (w2.alloc (.cells #[.string ⟨ps.toArray⟩, .string ⟨pr.toArray⟩] 9)) w1.heap.size tq (keyN ⟨pl, ps, pr⟩ 0) (needsN ⟨pl, ps, pr⟩ 0) _ ST3.out (keyN_sz HP.out 0) HN.out)
        simp only [keyN, needsN, ptV, S, vnil] at TR3
        go_wp2_with fail
        refine TR3.out.mono ?_
        rintro e w3 ho
        rcases try_out (p := ⟨pl, ps, pr⟩) (n := 0) (by decide) HLOST.out ho with ⟨rfl, to2, st2, lost2⟩ | ⟨q, rfl, st2, hq⟩
        · have HS2 := hid st2
          have HL3 := hid lost2
          clear st2 lost2 ho c0 c1 c2 ltp
          go_wp2_with fail
          go_roundg (gk - 1)
          case measure => have := HG.out; omega
          case rel => exact ⟨1, by omega, by have := HG.out; omega, rfl, to2, false, HS2.out, fun _ => HL3.out, fun h => (by cases h)⟩
        · have HS2 := hid st2
          have HQ2 := hid hq
          clear st2 hq ho c0 c1 c2 ltp
          go_wp2_with fail
          go_meet
          case rel => exact ⟨q, true, HS2.out, fun h => (by cases h), fun _ => HQ2.out⟩
      · -- the try 1
        have HL2 := hid (HL.out.below HB2.out)
        have hvi1 : _ = Value.int .i64 1 := hvi
        subst hvi1
        obtain ⟨c0, c1, c2⟩ := box3_cells ST2.out.bp
        simp only [S] at c0 c1 c2
        have ltp := lt_of_block ST2.out.bp
        have HA := hid (show Below w2.heap.size w2 (w2.alloc (.cells #[.string ⟨pr.toArray⟩] 9)) from (Below.refl _ _).alloc (Nat.le_refl _) _)
        have HN := hid (rdS_fresh w2 [pr] (by simp))
        simp only [List.map_cons, List.map_nil, S] at HN
        have ST3 := hid (ST2.out.below HA.out)
        have TR3 := hid (TR.out (w2.alloc (.cells #[.string ⟨pr.toArray⟩] 9)) w1.heap.size tq (keyN ⟨pl, ps, pr⟩ 1) (needsN ⟨pl, ps, pr⟩ 1) _ ST3.out (keyN_sz HP.out 1) HN.out)
        simp only [keyN, needsN, ptV, S, vnil] at TR3
        go_wp2_with fail
        refine TR3.out.mono ?_
        rintro e w3 ho
        rcases try_out (p := ⟨pl, ps, pr⟩) (n := 1) (by decide) HLOST.out ho with ⟨rfl, to2, st2, lost2⟩ | ⟨q, rfl, st2, hq⟩
        · have HS2 := hid st2
          have HL3 := hid lost2
          clear st2 lost2 ho c0 c1 c2 ltp
          go_wp2_with fail
          go_roundg (gk - 1)
          case measure => have := HG.out; omega
          case rel => exact ⟨2, by omega, by have := HG.out; omega, rfl, to2, false, HS2.out, fun _ => HL3.out, fun h => (by cases h)⟩
        · have HS2 := hid st2
          have HQ2 := hid hq
          clear st2 hq ho c0 c1 c2 ltp
          go_wp2_with fail
          go_meet
          case rel => exact ⟨q, true, HS2.out, fun h => (by cases h), fun _ => HQ2.out⟩
      · -- the try 2
        have HL2 := hid (HL.out.below HB2.out)
        have hvi2 : _ = Value.int .i64 2 := hvi
        subst hvi2
        obtain ⟨c0, c1, c2⟩ := box3_cells ST2.out.bp
        simp only [S] at c0 c1 c2
        have ltp := lt_of_block ST2.out.bp
        have HA := hid (show Below w2.heap.size w2 (w2.alloc (.cells #[.string ⟨ps.toArray⟩] 9)) from (Below.refl _ _).alloc (Nat.le_refl _) _)
        have HN := hid (rdS_fresh w2 [ps] (by simp))
        simp only [List.map_cons, List.map_nil, S] at HN
        have ST3 := hid (ST2.out.below HA.out)
        have TR3 := hid (TR.out (w2.alloc (.cells #[.string ⟨ps.toArray⟩] 9)) w1.heap.size tq (keyN ⟨pl, ps, pr⟩ 2) (needsN ⟨pl, ps, pr⟩ 2) _ ST3.out (keyN_sz HP.out 2) HN.out)
        simp only [keyN, needsN, ptV, S, vnil] at TR3
        go_wp2_with fail
        refine TR3.out.mono ?_
        rintro e w3 ho
        rcases try_out (p := ⟨pl, ps, pr⟩) (n := 2) (by decide) HLOST.out ho with ⟨rfl, to2, st2, lost2⟩ | ⟨q, rfl, st2, hq⟩
        · have HS2 := hid st2
          have HL3 := hid lost2
          clear st2 lost2 ho c0 c1 c2 ltp
          go_wp2_with fail
          go_roundg (gk - 1)
          case measure => have := HG.out; omega
          case rel => exact ⟨3, by omega, by have := HG.out; omega, rfl, to2, false, HS2.out, fun _ => HL3.out, fun h => (by cases h)⟩
        · have HS2 := hid st2
          have HQ2 := hid hq
          clear st2 hq ho c0 c1 c2 ltp
          go_wp2_with fail
          go_meet
          case rel => exact ⟨q, true, HS2.out, fun h => (by cases h), fun _ => HQ2.out⟩
      · -- the try 3
        have HL2 := hid (HL.out.below HB2.out)
        have hvi3 : _ = Value.int .i64 3 := hvi
        subst hvi3
        obtain ⟨c0, c1, c2⟩ := box3_cells ST2.out.bp
        simp only [S] at c0 c1 c2
        have ltp := lt_of_block ST2.out.bp
        have TR3 := hid (TR.out w2 w1.heap.size tq (keyN ⟨pl, ps, pr⟩ 3) (needsN ⟨pl, ps, pr⟩ 3) _ ST2.out (keyN_sz HP.out 3) (RdS.nil w2))
        simp only [keyN, needsN, ptV, S, vnil] at TR3
        go_wp2_with fail
        refine TR3.out.mono ?_
        rintro e w3 ho
        rcases try_out (p := ⟨pl, ps, pr⟩) (n := 3) (by decide) HLOST.out ho with ⟨rfl, to2, st2, lost2⟩ | ⟨q, rfl, st2, hq⟩
        · have HS2 := hid st2
          have HL3 := hid lost2
          clear st2 lost2 ho c0 c1 c2 ltp
          go_wp2_with fail
          go_roundg (gk - 1)
          case measure => have := HG.out; omega
          case rel => exact ⟨4, by omega, by have := HG.out; omega, rfl, to2, false, HS2.out, fun _ => HL3.out, fun h => (by cases h)⟩
        · have HS2 := hid st2
          have HQ2 := hid hq
          clear st2 hq ho c0 c1 c2 ltp
          go_wp2_with fail
          go_meet
          case rel => exact ⟨q, true, HS2.out, fun h => (by cases h), fun _ => HQ2.out⟩
      · -- the try 4
        have HL2 := hid (HL.out.below HB2.out)
        have hvi4 : _ = Value.int .i64 4 := hvi
        subst hvi4
        obtain ⟨c0, c1, c2⟩ := box3_cells ST2.out.bp
        simp only [S] at c0 c1 c2
        have ltp := lt_of_block ST2.out.bp
        have HA := hid (show Below w2.heap.size w2 (w2.alloc (.cells #[.string ⟨ps.toArray⟩] 9)) from (Below.refl _ _).alloc (Nat.le_refl _) _)
        have HN := hid (rdS_fresh w2 [ps] (by simp))
        simp only [List.map_cons, List.map_nil, S] at HN
        have ST3 := hid (ST2.out.below HA.out)
        have TR3 := hid (TR.out (w2.alloc (.cells #[.string ⟨ps.toArray⟩] 9)) w1.heap.size tq (keyN ⟨pl, ps, pr⟩ 4) (needsN ⟨pl, ps, pr⟩ 4) _ ST3.out (keyN_sz HP.out 4) HN.out)
        simp only [keyN, needsN, ptV, S, vnil] at TR3
        go_wp2_with fail
        refine TR3.out.mono ?_
        rintro e w3 ho
        rcases try_out (p := ⟨pl, ps, pr⟩) (n := 4) (by decide) HLOST.out ho with ⟨rfl, to2, st2, lost2⟩ | ⟨q, rfl, st2, hq⟩
        · have HS2 := hid st2
          have HL3 := hid lost2
          clear st2 lost2 ho c0 c1 c2 ltp
          go_wp2_with fail
          go_roundg (gk - 1)
          case measure => have := HG.out; omega
          case rel => exact ⟨5, by omega, by have := HG.out; omega, rfl, to2, false, HS2.out, fun _ => HL3.out, fun h => (by cases h)⟩
        · have HS2 := hid st2
          have HQ2 := hid hq
          clear st2 hq ho c0 c1 c2 ltp
          go_wp2_with fail
          go_roundg (gk - 1)
          case measure => have := HG.out; omega
          case rel => exact ⟨5, by omega, by have := HG.out; omega, rfl, q, true, HS2.out, fun h => (by cases h), fun _ => ⟨rfl, HQ2.out⟩⟩
    case rest =>
     obtain ⟨tq, fnd, st, hf0, hf1⟩ := hcut
     have ST := hid st
     have HF0 := hid hf0
     have HF1 := hid hf1
     clear st hf0 hf1 ST0 TR
     obtain ⟨c0, c1, c2⟩ := box3_cells ST.out.bp
     obtain ⟨d0, d1, d2⟩ := box3_cells ST.out.br
     obtain ⟨t0, t1, t2⟩ := box3_cells ST.out.bt
     simp only [S] at c0 c1 c2 d0 d1 d2 t0 t1 t2
     have f0 : wc.cell? ⟨w1.heap.size + 1, 0, none⟩ = some (.bool fnd) := by rw [cell_of_row _ _ _ _ _ _ ST.out.bf]; rfl
     have zd0 := frozen_of_row wc (w.heap.size + 1 + 1) 0 _ _ ST.out.br
     have zd1 := frozen_of_row wc (w.heap.size + 1 + 1) 1 _ _ ST.out.br
     have zd2 := frozen_of_row wc (w.heap.size + 1 + 1) 2 _ _ ST.out.br
     have zc0 := frozen_of_row wc (w.heap.size + 1) 0 _ _ ST.out.bp
     have zc1 := frozen_of_row wc (w.heap.size + 1) 1 _ _ ST.out.bp
     have zc2 := frozen_of_row wc (w.heap.size + 1) 2 _ _ ST.out.bp
     have ltp := lt_of_block ST.out.bp
     have ltr := lt_of_block ST.out.br
     have ltt := lt_of_block ST.out.bt
     have ltf := lt_of_block ST.out.bf
     cases fnd with
     | false =>
      have HA := hid (addP_lost HF.out (HF0.out rfl))
      clear HF0 HF1
      go_wp2_with fail
      try simp only [Exit.inBlock, Exit.then]
      try rw [Exit.noGoto_ret]
      change bodyPost _ _ _ _ _ (P3 wc (w.heap.size + 1 + 1) (S pl) (S ps) (S pr))
      exact add_ret ST.out false HA.out rfl rfl rfl
     | true =>
      have HFD := hid (HF1.out rfl)
      clear HF0 HF1
      obtain ⟨ql, qs, qr⟩ := tq
      simp only [S] at t0 t1 t2
      by_cases h0 : pl = [] <;> by_cases h1 : ps = [] <;> by_cases h2 : pr = []
      · -- eee
        have p0 : (pl == []) = true := by rw [h0]; rfl
        have p1 : (ps == []) = true := by rw [h1]; rfl
        have p2 : (pr == []) = true := by rw [h2]; rfl
        have HE := hid (show fillP ⟨pl, ps, pr⟩ ⟨ql, qs, qr⟩ = ⟨ql, qs, qr⟩ by unfold fillP orStr; simp [h0, h1, h2])
        have HEND := hid (((ST.out.setL ql).setS qs).setR qr)
        have HA := hid (show addP D ⟨pl, ps, pr⟩ = (⟨ql, qs, qr⟩, true) by rw [addP_found HF.out HFD.out, HE.out])
        clear h0 h1 h2
        go_wp2_with fail
        try simp only [Exit.inBlock, Exit.then]
        try rw [Exit.noGoto_ret]
        change bodyPost _ _ _ _ _ (P3 (((wc.setCell ⟨w.heap.size + 1, 0, none⟩ (S ql)).setCell ⟨w.heap.size + 1, 1, none⟩ (S qs)).setCell ⟨w.heap.size + 1, 2, none⟩ (S qr)) (w.heap.size + 1 + 1) (S ql) (S qs) (S qr))
        exact add_ret HEND.out true HA.out rfl rfl rfl
      · -- eef
        have p0 : (pl == []) = true := by rw [h0]; rfl
        have p1 : (ps == []) = true := by rw [h1]; rfl
        have p2 : (pr == []) = false := by rw [beq_eq_false_iff_ne]; exact h2
        have HE := hid (show fillP ⟨pl, ps, pr⟩ ⟨ql, qs, qr⟩ = ⟨ql, qs, pr⟩ by unfold fillP orStr; simp [h0, h1, h2])
        have HEND := hid ((ST.out.setL ql).setS qs)
        have HA := hid (show addP D ⟨pl, ps, pr⟩ = (⟨ql, qs, pr⟩, true) by rw [addP_found HF.out HFD.out, HE.out])
        clear h0 h1 h2
        go_wp2_with fail
        try simp only [Exit.inBlock, Exit.then]
        try rw [Exit.noGoto_ret]
        change bodyPost _ _ _ _ _ (P3 ((wc.setCell ⟨w.heap.size + 1, 0, none⟩ (S ql)).setCell ⟨w.heap.size + 1, 1, none⟩ (S qs)) (w.heap.size + 1 + 1) (S ql) (S qs) (S pr))
        exact add_ret HEND.out true HA.out rfl rfl rfl
      · -- efe
        have p0 : (pl == []) = true := by rw [h0]; rfl
        have p1 : (ps == []) = false := by rw [beq_eq_false_iff_ne]; exact h1
        have p2 : (pr == []) = true := by rw [h2]; rfl
        have HE := hid (show fillP ⟨pl, ps, pr⟩ ⟨ql, qs, qr⟩ = ⟨ql, ps, qr⟩ by unfold fillP orStr; simp [h0, h1, h2])
        have HEND := hid ((ST.out.setL ql).setR qr)
        have HA := hid (show addP D ⟨pl, ps, pr⟩ = (⟨ql, ps, qr⟩, true) by rw [addP_found HF.out HFD.out, HE.out])
        clear h0 h1 h2
        go_wp2_with fail
        try simp only [Exit.inBlock, Exit.then]
        try rw [Exit.noGoto_ret]
        change bodyPost _ _ _ _ _ (P3 ((wc.setCell ⟨w.heap.size + 1, 0, none⟩ (S ql)).setCell ⟨w.heap.size + 1, 2, none⟩ (S qr)) (w.heap.size + 1 + 1) (S ql) (S ps) (S qr))
        exact add_ret HEND.out true HA.out rfl rfl rfl
      · -- eff
        have p0 : (pl == []) = true := by rw [h0]; rfl
        have p1 : (ps == []) = false := by rw [beq_eq_false_iff_ne]; exact h1
        have p2 : (pr == []) = false := by rw [beq_eq_false_iff_ne]; exact h2
        have HE := hid (show fillP ⟨pl, ps, pr⟩ ⟨ql, qs, qr⟩ = ⟨ql, ps, pr⟩ by unfold fillP orStr; simp [h0, h1, h2])
        have HEND := hid (ST.out.setL ql)
        have HA := hid (show addP D ⟨pl, ps, pr⟩ = (⟨ql, ps, pr⟩, true) by rw [addP_found HF.out HFD.out, HE.out])
        clear h0 h1 h2
        go_wp2_with fail
        try simp only [Exit.inBlock, Exit.then]
        try rw [Exit.noGoto_ret]
        change bodyPost _ _ _ _ _ (P3 (wc.setCell ⟨w.heap.size + 1, 0, none⟩ (S ql)) (w.heap.size + 1 + 1) (S ql) (S ps) (S pr))
        exact add_ret HEND.out true HA.out rfl rfl rfl
      · -- fee
        have p0 : (pl == []) = false := by rw [beq_eq_false_iff_ne]; exact h0
        have p1 : (ps == []) = true := by rw [h1]; rfl
        have p2 : (pr == []) = true := by rw [h2]; rfl
        have HE := hid (show fillP ⟨pl, ps, pr⟩ ⟨ql, qs, qr⟩ = ⟨pl, qs, qr⟩ by unfold fillP orStr; simp [h0, h1, h2])
        have HEND := hid ((ST.out.setS qs).setR qr)
        have HA := hid (show addP D ⟨pl, ps, pr⟩ = (⟨pl, qs, qr⟩, true) by rw [addP_found HF.out HFD.out, HE.out])
        clear h0 h1 h2
        go_wp2_with fail
        try simp only [Exit.inBlock, Exit.then]
        try rw [Exit.noGoto_ret]
        change bodyPost _ _ _ _ _ (P3 ((wc.setCell ⟨w.heap.size + 1, 1, none⟩ (S qs)).setCell ⟨w.heap.size + 1, 2, none⟩ (S qr)) (w.heap.size + 1 + 1) (S pl) (S qs) (S qr))
        exact add_ret HEND.out true HA.out rfl rfl rfl
      · -- fef
        have p0 : (pl == []) = false := by rw [beq_eq_false_iff_ne]; exact h0
        have p1 : (ps == []) = true := by rw [h1]; rfl
        have p2 : (pr == []) = false := by rw [beq_eq_false_iff_ne]; exact h2
        have HE := hid (show fillP ⟨pl, ps, pr⟩ ⟨ql, qs, qr⟩ = ⟨pl, qs, pr⟩ by unfold fillP orStr; simp [h0, h1, h2])
        have HEND := hid (ST.out.setS qs)
        have HA := hid (show addP D ⟨pl, ps, pr⟩ = (⟨pl, qs, pr⟩, true) by rw [addP_found HF.out HFD.out, HE.out])
        clear h0 h1 h2
        go_wp2_with fail
        try simp only [Exit.inBlock, Exit.then]
        try rw [Exit.noGoto_ret]
        change bodyPost _ _ _ _ _ (P3 (wc.setCell ⟨w.heap.size + 1, 1, none⟩ (S qs)) (w.heap.size + 1 + 1) (S pl) (S qs) (S pr))
        exact add_ret HEND.out true HA.out rfl rfl rfl
      · -- ffe
        have p0 : (pl == []) = false := by rw [beq_eq_false_iff_ne]; exact h0
        have p1 : (ps == []) = false := by rw [beq_eq_false_iff_ne]; exact h1
        have p2 : (pr == []) = true := by rw [h2]; rfl
        have HE := hid (show fillP ⟨pl, ps, pr⟩ ⟨ql, qs, qr⟩ = ⟨pl, ps, qr⟩ by unfold fillP orStr; simp [h0, h1, h2])
        have HEND := hid (ST.out.setR qr)
        have HA := hid (show addP D ⟨pl, ps, pr⟩ = (⟨pl, ps, qr⟩, true) by rw [addP_found HF.out HFD.out, HE.out])
        clear h0 h1 h2
        go_wp2_with fail
        try simp only [Exit.inBlock, Exit.then]
        try rw [Exit.noGoto_ret]
        change bodyPost _ _ _ _ _ (P3 (wc.setCell ⟨w.heap.size + 1, 2, none⟩ (S qr)) (w.heap.size + 1 + 1) (S pl) (S ps) (S qr))
        exact add_ret HEND.out true HA.out rfl rfl rfl
      · -- fff
        have p0 : (pl == []) = false := by rw [beq_eq_false_iff_ne]; exact h0
        have p1 : (ps == []) = false := by rw [beq_eq_false_iff_ne]; exact h1
        have p2 : (pr == []) = false := by rw [beq_eq_false_iff_ne]; exact h2
        have HE := hid (show fillP ⟨pl, ps, pr⟩ ⟨ql, qs, qr⟩ = ⟨pl, ps, pr⟩ by unfold fillP orStr; simp [h0, h1, h2])
        have HEND := hid ST.out
        have HA := hid (show addP D ⟨pl, ps, pr⟩ = (⟨pl, ps, pr⟩, true) by rw [addP_found HF.out HFD.out, HE.out])
        clear h0 h1 h2
        go_wp2_with fail
        try simp only [Exit.inBlock, Exit.then]
        try rw [Exit.noGoto_ret]
        change bodyPost _ _ _ _ _ (P3 wc (w.heap.size + 1 + 1) (S pl) (S ps) (S pr))
        exact add_ret HEND.out true HA.out rfl rfl rfl
end Go.Proofs.YtlmgmifaknlolaaGreat
