/- The contracts of likely.Full and of the law's wakes, and what a Likely that is not there tells. -/
import Derived.Test.YtlmgmifaknlolaaGreatLkRem
import Derived.Test.YtlmgmifaknlolaaGreatLkNew
set_option linter.unusedVariables false
set_option linter.unusedSimpArgs false
namespace Go.Proofs.YtlmgmifaknlolaaGreat
open Go.RowKit Go.Lib Go.Sort Go.Maps

def wkEn : Str := [101, 110]
def wkFull : Str := [101, 110, 45, 76, 97, 116, 110, 45, 85, 83]
def pEn : Pt := ⟨[101, 110], [], []⟩
def pFull : Pt := ⟨[101, 110], [76, 97, 116, 110], [85, 83]⟩
def wkL : List (Str × Str) := [(wkEn, wkFull)]
theorem good_En2 : Good pEn.tag := ⟨⟨Or.inr (by decide), Or.inl rfl, Or.inl rfl, VarsOK.nil, srtS_nil, KeysOK.nil, srtK_nil⟩, by decide⟩
theorem good_Full : Good pFull.tag := ⟨⟨Or.inr (by decide), Or.inr (by decide), Or.inr (by decide), VarsOK.nil, srtS_nil, KeysOK.nil, srtK_nil⟩, by decide⟩
theorem key_En : ptKey pEn = wkEn := by rw [key_good good_En2]; decide
theorem key_Full : ptKey pFull = wkFull := by rw [key_good good_Full]; decide
theorem read_En : ptRead wkEn = (pEn, true) := by rw [← key_En]; exact key_back good_En2
theorem read_Full : ptRead wkFull = (pFull, true) := by rw [← key_Full]; exact key_back good_Full
theorem full_Full : pFull.full := by decide
theorem wk_ok : okP (wkEn, wkFull) := ⟨by rw [read_En], by rw [read_Full], by rw [read_Full]; exact full_Full⟩
theorem wk_d : dOf wkL = [(pEn, pFull)] := by
  unfold dOf wkL entryP
  rw [List.map_cons, List.map_nil, read_En, read_Full]
theorem wk_bad : badL [] wkL = none := by
  unfold wkL badL
  rw [if_pos wk_ok, if_pos (show lookP [] _ = none from rfl)]; rfl
theorem wk_addP : addP [(pEn, pFull)] (ptOf pEn.tag) = (pFull, true) := by decide
theorem wk_add : addT (dOf wkL) pEn.tag = (pFull.tag, true) := by
  rw [wk_d]
  have h := add_yes (D := [(pEn, pFull)]) (t := pEn.tag) (good_check _ good_En2) wk_addP (good_check _ (show Good (withT pEn.tag pFull) from good_Full))
  rw [h]; rfl
theorem wk_goodD : goodD (dOf wkL) := goodD_of (badL_ok wk_bad).1

set_option maxRecDepth 100000 in
set_option maxHeartbeats 8000000 in
theorem lfull_any (w : World) (v : Value) (t : Tg) (hT : RdT w v t) (hv : t.vars.length ≤ 1000) (hk : t.keys.length ≤ 1000) (hz : szT t ≤ 1000000000) :
    Calls Tryz.prog 18 #[v] w fun e w' => e = .returned (.bool (decide (checkF t = 0 ∧ (ptOf t).full))) ∧ Below w.heap.size w w' := by
  have CK := hid (fun W (hb : Below w.heap.size w W) => check_any W v t (hT.below hb) hv hk (Nat.le_trans (write_le t) (by omega)))
  have OF := hid (fun W (hb : Below w.heap.size w W) => of_any W v t (hT.below hb))
  have FU := hid (fun W => full_any W (ptOf t))
  obtain ⟨vv, kv, rfl, hS, hP⟩ := hT
  obtain ⟨av, cv, rfl, _, _⟩ := hS
  obtain ⟨ak, ck, rfl, _, _⟩ := hP
  clear hz hv hk
  have HB0 := hid ((Below.refl w.heap.size w).alloc (Nat.le_refl _) (.cells #[.string ⟨t.lang.toArray⟩, .string ⟨t.script.toArray⟩, .string ⟨t.region.toArray⟩, .slice av t.vars.length cv, .slice ak t.keys.length ck] 25))
  have HX0 := hid (heap_alloc_new w (.cells #[.string ⟨t.lang.toArray⟩, .string ⟨t.script.toArray⟩, .string ⟨t.region.toArray⟩, .slice av t.vars.length cv, .slice ak t.keys.length ck] 25))
  simp only [tagCells, S, ptV] at *
  go_enter Tryz.func18, Tryz.ntmps18
  go_upto_region 1 with (fail)
  generalize w.alloc (.cells #[.string ⟨t.lang.toArray⟩, .string ⟨t.script.toArray⟩, .string ⟨t.region.toArray⟩, .slice av t.vars.length cv, .slice ak t.keys.length ck] 25) = w0 at *
  obtain ⟨c0, c1, c2, c3, c4⟩ := box_cells HX0.out
  have ltx := lt_of_block HX0.out
  go_wp2_with fail
  refine (CK.out _ HB0.out).mono ?_
  rintro e w1 ⟨rfl, hb1⟩
  have HB1 := hid (HB0.out.then hb1)
  have HX1 := hid ((hb1.block _ (lt_of_block HX0.out)).trans HX0.out)
  clear c0 c1 c2 c3 c4 ltx hb1 HB0 HX0
  obtain ⟨c0, c1, c2, c3, c4⟩ := box_cells HX1.out
  have ltx := lt_of_block HX1.out
  by_cases h0 : checkF t = 0
  · rw [h0]
    have HF := hid (show decide (checkF t = 0 ∧ (ptOf t).full) = decide (ptOf t).full by simp [h0])
    clear h0
    go_wp2_with fail
    refine (OF.out _ HB1.out).mono ?_
    rintro e w2 ⟨rfl, hb2⟩
    have HB2 := hid (HB1.out.then hb2)
    clear hb2
    go_wp2_with fail
    refine (FU.out _).mono ?_
    rintro e w3 ⟨rfl, hb3⟩
    go_wp2_with fail
    go_ret
    exact ⟨by rw [HF.out]; rfl, HB2.out.then hb3⟩
  · have hb : (checkF t == 0) = false := by rw [beq_eq_false_iff_ne]; exact h0
    have HF := hid (show decide (checkF t = 0 ∧ (ptOf t).full) = false by simp [h0])
    clear h0
    go_wp2_with fail
    go_ret
    exact ⟨by rw [HF.out]; rfl, HB1.out⟩

theorem lnew_one {l : List (Str × Str)} {e i : Nat} (h : badL [] l = none) (ho : LNewOut l e i) : e = 0 ∧ i = 0 := by
  rcases ho with h2 | ⟨_, h2, h3⟩
  · rw [h] at h2; cases h2
  · exact ⟨h2, h3⟩
theorem fresh_ownP (w : World) (l : List (Str × Str)) (B : Nat) (hB : B ≤ w.heap.size) (hl : l.length ≤ 1000) : OwnP (w.alloc (.cells (flat2 l).toArray 42)) B (.slice (some ⟨w.heap.size, 0, none⟩) l.length l.length) l :=
  ⟨by rw [flat2_len], Or.inr ⟨w.heap.size, l.length, _, rfl, hB, heap_alloc_new w _, Nat.le_refl _, by unfold maxLen; omega, by simp [flat2_len], List.take_of_length_le (by simp [flat2_len])⟩⟩

set_option maxRecDepth 100000 in
set_option maxHeartbeats 8000000 in
theorem lwakes_any (w : World) : Calls Tryz.prog 9 #[] w fun e w' => e = .returned (.bool true) ∧ Below w.heap.size w w' := by
  have hb1 : Below w.heap.size w (w.alloc (.cells (flat2 wkL).toArray 42)) := (Below.refl _ _).alloc (Nat.le_refl _) _
  have hrd : RdP (w.alloc (.cells (flat2 wkL).toArray 42)) (.slice (some ⟨w.heap.size, 0, none⟩) 1 1) wkL := (fresh_ownP w wkL w.heap.size (Nat.le_refl _) (by decide)).rd
  have NW := hid (lnew_any _ _ wkL hrd (fun p hp => by rw [show p = (wkEn, wkFull) from List.mem_singleton.1 hp]; exact ⟨by decide, by decide⟩) (by decide))
  have HB1 := hid hb1
  clear hb1 hrd
  go_enter Tryz.func9, Tryz.ntmps9
  go_wp2_with fail
  refine NW.out.mono ?_
  rintro e w2 ⟨er, i, vc, rfl, ho, h0, h1, hb2⟩
  obtain ⟨rfl, rfl⟩ := lnew_one wk_bad ho
  have HC := hid (h0 rfl)
  have HB2 := hid (HB1.out.then hb2)
  obtain ⟨bc, bm, n0, rfl, _, _, _⟩ := h0 rfl
  clear ho h0 h1 hb2 HB1
  go_upto_region 2 with fail
  have hb3 : Below w2.heap.size w2 (w2.alloc (.cells #[.int .i64 0, .int .i64 0] 45)) := (Below.refl _ _).alloc (Nat.le_refl _) _
  have HF3 := hid (heap_alloc_new w2 (.cells #[.int .i64 0, .int .i64 0] 45))
  generalize w2.alloc (.cells #[.int .i64 0, .int .i64 0] 45) = w3 at *
  have HC3 := hid (HC.out.below hb3)
  have HB3 := hid (HB2.out.then hb3)
  have AD := hid (tadd_any w3 (.pointer (some ⟨bc, 0, none⟩)) (.agg (tagCells pEn.tag vnil vnil)) (dOf wkL) pEn.tag HC3.out ⟨vnil, vnil, rfl, RdS.nil _, RdP.nil _⟩ (by decide) (by decide) (by decide) wk_goodD)
  clear HC HB2 hb3
  go_wp2_with fail
  refine AD.out.mono ?_
  rintro e w4 ⟨v', rfl, own, hb4⟩
  rw [wk_add] at own ⊢
  obtain ⟨a1, e1, a2, e2, rfl⟩ := own.shape
  have HB4 := hid (HB3.out.then hb4)
  have HF4 := hid ((hb4.block _ (lt_of_block HF3.out)).trans HF3.out)
  clear own hb4 AD HB3 HF3 HC3
  go_upto_region 3 with fail
  have HX5 := hid (heap_alloc_new w4 (.cells #[.string ⟨pFull.tag.lang.toArray⟩, .string ⟨pFull.tag.script.toArray⟩, .string ⟨pFull.tag.region.toArray⟩, .slice a1 pFull.tag.vars.length e1, .slice a2 pFull.tag.keys.length e2] 25))
  have hb5 : Below w4.heap.size w4 (w4.alloc (.cells #[.string ⟨pFull.tag.lang.toArray⟩, .string ⟨pFull.tag.script.toArray⟩, .string ⟨pFull.tag.region.toArray⟩, .slice a1 pFull.tag.vars.length e1, .slice a2 pFull.tag.keys.length e2] 25)) := (Below.refl _ _).alloc (Nat.le_refl _) _
  generalize w4.alloc (.cells #[.string ⟨pFull.tag.lang.toArray⟩, .string ⟨pFull.tag.script.toArray⟩, .string ⟨pFull.tag.region.toArray⟩, .slice a1 pFull.tag.vars.length e1, .slice a2 pFull.tag.keys.length e2] 25) = w5 at *
  have HB5 := hid (HB4.out.then hb5)
  have HF5 := hid ((hb5.block _ (lt_of_block HF4.out)).trans HF4.out)
  obtain ⟨x0, x1, x2, x3, x4⟩ := box_cells HX5.out
  have k1 : w5.cell? ⟨w4.heap.size, 1, none⟩ = some (.string ⟨#[76, 97, 116, 110]⟩) := x1
  have k2 : w5.cell? ⟨w4.heap.size, 2, none⟩ = some (.string ⟨#[85, 83]⟩) := x2
  have f0 : w5.cell? ⟨w2.heap.size, 0, none⟩ = some (.int .i64 0) := by rw [cell_of_row _ _ _ _ _ _ HF5.out]; rfl
  have f1 : w5.cell? ⟨w2.heap.size, 1, none⟩ = some (.int .i64 0) := by rw [cell_of_row _ _ _ _ _ _ HF5.out]; rfl
  have ltx := lt_of_block HX5.out
  have ltf := lt_of_block HF5.out
  have FU := hid (lfull_any w5 (.agg (tagCells pEn.tag vnil vnil)) pEn.tag ⟨vnil, vnil, rfl, RdS.nil _, RdP.nil _⟩ (by decide) (by decide) (by decide))
  have hne : decide (checkF pEn.tag = 0 ∧ (ptOf pEn.tag).full) = false := decide_eq_false (fun e => absurd e.2 (by decide))
  rw [hne] at FU
  clear x0 x1 x2 x3 x4 hb5 HB4 HF4 hne
  go_wp2_with fail
  refine FU.out.mono ?_
  rintro e w6 ⟨rfl, hb6⟩
  go_wp2_with fail
  go_ret
  exact ⟨rfl, HB5.out.then hb6⟩

set_option maxRecDepth 100000 in
set_option maxHeartbeats 8000000 in
theorem tadd_nil (w : World) (va : Value) (t : Tg) (hT : RdT w va t) :
    Calls Tryz.prog 15 #[.pointer none, va] w fun e w' => TagOut w (Tg.zero, false) e w' := by
  obtain ⟨vv, kv, rfl, hS, hP⟩ := hT
  have ST0 := hid (AdSt.start hS hP)
  obtain ⟨av, cv, rfl, _, _⟩ := hS
  obtain ⟨ak, ck, rfl, _, _⟩ := hP
  simp only [vnil] at ST0
  go_enter Tryz.func15, Tryz.ntmps15
  simp only [tagCells, S, Tg.zero, ptV] at *
  go_upto_region 1 with (fail)
  generalize ((w.alloc (.cells #[.string ⟨t.lang.toArray⟩, .string ⟨t.script.toArray⟩, .string ⟨t.region.toArray⟩, .slice av t.vars.length cv, .slice ak t.keys.length ck] 25)).alloc (.cells #[.string ⟨#[]⟩, .string ⟨#[]⟩, .string ⟨#[]⟩, .slice none 0 0, .slice none 0 0] 25)) = w0 at *
  obtain ⟨z0, z1, z2, z3, z4, fz0, fz1, fz2, fz3, fz4, lz, lt0⟩ := ret5 ST0.out
  go_wp2_with fail
  change bodyPost _ _ _ _ _ (P5 w0 (w.heap.size + 1) (.string ⟨#[]⟩) (.string ⟨#[]⟩) (.string ⟨#[]⟩) (.slice none 0 0) (.slice none 0 0))
  exact addT_ret (t' := Tg.zero) ST0.out (B := w.heap.size + 2) (by omega) false rfl (ca := none) (cb := none) (na := 0) (nb := 0) (OwnT.zero _ _) rfl rfl rfl

set_option maxRecDepth 100000 in
set_option maxHeartbeats 8000000 in
theorem trem_nil (w : World) (va : Value) (t : Tg) (hT : RdT w va t) :
    Calls Tryz.prog 21 #[.pointer none, va] w fun e w' => TagOut w (Tg.zero, false) e w' := by
  obtain ⟨vv, kv, rfl, hS, hP⟩ := hT
  have ST0 := hid (AdSt.start hS hP)
  obtain ⟨av, cv, rfl, _, _⟩ := hS
  obtain ⟨ak, ck, rfl, _, _⟩ := hP
  simp only [vnil] at ST0
  go_enter Tryz.func21, Tryz.ntmps21
  simp only [tagCells, S, Tg.zero, ptV] at *
  go_upto_region 1 with (fail)
  generalize ((w.alloc (.cells #[.string ⟨t.lang.toArray⟩, .string ⟨t.script.toArray⟩, .string ⟨t.region.toArray⟩, .slice av t.vars.length cv, .slice ak t.keys.length ck] 25)).alloc (.cells #[.string ⟨#[]⟩, .string ⟨#[]⟩, .string ⟨#[]⟩, .slice none 0 0, .slice none 0 0] 25)) = w0 at *
  obtain ⟨z0, z1, z2, z3, z4, fz0, fz1, fz2, fz3, fz4, lz, lt0⟩ := ret5 ST0.out
  go_wp2_with fail
  change bodyPost _ _ _ _ _ (P5 w0 (w.heap.size + 1) (.string ⟨#[]⟩) (.string ⟨#[]⟩) (.string ⟨#[]⟩) (.slice none 0 0) (.slice none 0 0))
  exact remT_ret (t' := Tg.zero) ST0.out (B := w.heap.size + 2) (by omega) false rfl (ca := none) (cb := none) (na := 0) (nb := 0) (OwnT.zero _ _) rfl rfl rfl

set_option maxRecDepth 100000 in
theorem tsaid_nil (w : World) :
    Calls Tryz.prog 23 #[.pointer none] w fun e w' => e = .returned (.slice none 0 0) ∧ Below w.heap.size w w' := by
  go_enter Tryz.func23, Tryz.ntmps23
  go_wp2_with fail
  go_ret
  exact ⟨rfl, Below.refl _ _⟩
end Go.Proofs.YtlmgmifaknlolaaGreat
