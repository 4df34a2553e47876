/- PtUtf, PtRd, PtVal, PtValue, PtStepA, PtStep, PtParseA, PtParse -/
import Derived.Test.YtjlfchnnhglbjaaGreatYB1
import Derived.Test.YtjlfchnnhglbjaaGreatYA
import Derived.Lib.OthersKept
import Derived.LoopTactic
import Derived.Deep.LoopGhost
import Derived.Deep.CutBlock
import Derived.BigQuiet
import Derived.Lib.AppendStr
import Derived.Laws.IdiomStrings
import Derived.Laws.BytesArg
import Derived.Test.YtjlfchnnhglbjaaGreatYR1
import Derived.WalkMore
set_option linter.unusedVariables false
set_option linter.unusedSimpArgs false
namespace Go.Proofs.YtjlfchnnhglbjaaGreat
open Go.RowKit Go.Lib
theorem u8_eq (c d : UInt8) : ((c.toNat : Int) == (d.toNat : Int)) = (c == d) := by
 rw [Bool.eq_iff_iff, beq_iff_eq, beq_iff_eq]
 exact ⟨fun h => UInt8.toNat_inj.1 (by omega), fun h => by rw [h]⟩
theorem nameStart_any (c : UInt8) (w : World) : Calls Tryz.prog 189 #[.int .u8 (c.toNat : Int)] w fun e w' => e = .returned (.bool (startB c)) ∧ w' = w := by
 have h95 : ((c.toNat : Int) == 95) = (c == 95) := u8_eq c 95
 have LT := hid (letter_any c w)
 cases hl : letB c
 ·rw [hl] at LT
  go_enter Tryz.func189, Tryz.ntmps189
  go_wp2_with (go_at_call 185; refine LT.out.mono ?_; rintro e w' ⟨rfl, rfl⟩)
  go_ret
  exact ⟨ret_bool (by simp [startB, hl]), rfl⟩
 ·rw [hl] at LT
  go_enter Tryz.func189, Tryz.ntmps189
  go_wp2_with (go_at_call 185; refine LT.out.mono ?_; rintro e w' ⟨rfl, rfl⟩)
  go_ret
  exact ⟨ret_bool (by simp [startB, hl]), rfl⟩
theorem nameByte_any (c : UInt8) (w : World) : Calls Tryz.prog 190 #[.int .u8 (c.toNat : Int)] w fun e w' => e = .returned (.bool (nameB c)) ∧ w' = w := by
 have h45 : ((c.toNat : Int) == 45) = (c == 45) := u8_eq c 45
 have h46 : ((c.toNat : Int) == 46) = (c == 46) := u8_eq c 46
 have NS := hid (nameStart_any c w)
 have DG := hid (digit_any c w)
 cases hs : startB c <;> cases hd : digB c <;> cases h1 : (c == 45) <;> cases h2 : (c == 46)
 all_goals
  rw [hs] at NS
  rw [hd] at DG
  rw [h1] at h45
  rw [h2] at h46
  go_enter Tryz.func190, Tryz.ntmps190
  go_wp2_with (first
   | (go_at_call 189; refine NS.out.mono ?_; rintro e w' ⟨rfl, rfl⟩)
   | (go_at_call 186; refine DG.out.mono ?_; rintro e w' ⟨rfl, rfl⟩))
  go_ret
  exact ⟨ret_bool (by simp [nameB, hs, hd, h1, h2]), rfl⟩
theorem dec_le {l : Str} (hl : l ≠ []) : (decodeL l).2 ≤ l.length ∧ 1 ≤ (decodeL l).2 := by
 refine ⟨?_, (rune_any l).pos⟩
 by_cases hb : decodeL l = (65533, 1)
 ·rw [hb]; cases l with
  | nil => exact absurd rfl hl
  | cons c t => simp
 ·have hs := sound_of l hl hb
  generalize (decodeL l).1 = r at hs
  generalize (decodeL l).2 = k at hs
  cases hs with
  | one c t h => simp
  | more run t r h2 h4 hr hm hb he => simp
theorem dec_at (s : Str) (pos : Nat) : Utf8.decode ⟨s.toArray⟩ pos = decodeL (s.drop pos) := (decodeL_drop ⟨s.toArray⟩ pos).symm
def seenB (s : Str) (pos last : Nat) (brk : Bool) : Bool := if brk && decide (pos = last + 1) then false else utfB (s.drop pos)
set_option maxRecDepth 100000 in
set_option maxHeartbeats 4000000 in
theorem ucheck_any (s : Str) (w : World) (hs : s.length ≤ maxLen) :
  Calls Tryz.prog 118 #[.string ⟨s.toArray⟩] w fun e w' => (∃ (er : Nat) (at' : Int), e = .returned (.agg #[.int .i64 er, .int .i64 at']) ∧ ((utfB s = true ∧ er = 0 ∧ at' = 0) ∨ (utfB s = false ∧ er = 6))) ∧ Below w.heap.size w w' := by
 have hs2 : s.length ≤ 9223372036854775807 := by unfold maxLen at hs; omega
 have F0 := hid (heap_alloc_new w (.cells #[.int .i64 0, .int .i64 0] 99))
 have B0 := hid ((Below.refl w.heap.size w).alloc (Nat.le_refl _) (.cells #[.int .i64 0, .int .i64 0] 99))
 go_enter Tryz.func118, Tryz.ntmps118
 go_upto_region 1 with fail
 generalize w.alloc (.cells #[.int .i64 0, .int .i64 0] 99) = w1 at *
 have hsz1 : w.heap.size < w1.heap.size := lt_of_block F0.out
 go_wp2_with fail
 go_loopw [3, 4] (fun v3 v4 wr => ∃ (pos last : Nat) (brk : Bool), v3 = .int .i64 last ∧ v4 = .bool brk ∧ pos ≤ s.length ∧ last ≤ pos ∧ wr.heap[w.heap.size]? = some (.cells #[.int .i64 0, .int .i64 0] 99 (0, 0)) ∧ wr.heap[w1.heap.size]? = some (.stringIter ⟨s.toArray⟩ pos) ∧ Below w.heap.size w wr ∧ utfB s = seenB s pos last brk) (fun _ _ wr => s.length - wr.iterPos w1.heap.size)
 case atStart =>
  exact ⟨0, 0, false, rfl, rfl, Nat.zero_le _, Nat.le_refl _, (heap_alloc_old w1 _ hsz1).trans F0.out, World.iter_heap w1 _ 0, B0.out.alloc (by omega) _, rfl⟩
 case round =>
  obtain ⟨pos, last, brk, rfl, rfl, hpos, hlast, hF, hit, hbw, hseen⟩ := hrel
  have HS := hid hseen
  clear hseen F0 B0
  by_cases hp : pos < s.length
  ·have hne : s.drop pos ≠ [] := by intro e; have := congrArg List.length e; simp at this; omega
   have hdl := dec_le hne
   have hst := hid (utfB_step hne)
   have hnx : ∀ ty, (Instr.next (.pointer (some ⟨w1.heap.size, 0, none⟩)) true ty).run Tryz.prog wr = _ := fun ty => Lib.run_next_any_at wr w1.heap.size ⟨s.toArray⟩ pos ty hit (by rw [Lib.size_eq]; exact hp)
   simp only [dec_at] at hnx
   rw [List.length_drop] at hdl
   rw [List.drop_drop] at hst
   generalize hd : decodeL (s.drop pos) = rk at *
   obtain ⟨r, k⟩ := rk
   simp only at hnx hdl hst
   have hF2 := hid ((Lib.iterAt_other wr w1.heap.size w.heap.size ⟨s.toArray⟩ (pos + k) (by omega)).trans hF)
   have hit2 := hid (Lib.iterAt_heap wr w1.heap.size ⟨s.toArray⟩ pos (pos + k) hit)
   have hbw2 := hid (Lib.below_iterAt hbw (k := w1.heap.size) (by omega) ⟨s.toArray⟩ (pos + k))
   have hsz2 : wr.heap.size = (wr.iterAt w1.heap.size ⟨s.toArray⟩ (pos + k)).heap.size := (Lib.iterAt_size wr w1.heap.size ⟨s.toArray⟩ (pos + k)).symm
   have hpk : pos + k ≤ s.length := by omega
   by_cases hbr : brk = true ∧ pos = last + 1
   ·obtain ⟨rfl, hpl⟩ := hbr
    have he1 : ((pos : Int) - (last : Int) == 1) = true := by rw [beq_iff_eq]; omega
    have hf : utfB s = false := by have := HS.out; rw [this]; simp [seenB, hpl]
    have HFF := hid hf
    clear hf hst HS hpl
    go_upto_region 6 with fail
    generalize wr.iterAt w1.heap.size ⟨s.toArray⟩ (pos + k) = w2 at *
    have c0 : w2.cell? ⟨w.heap.size, 0, none⟩ = some (.int .i64 0) := by rw [cell_of_row _ _ _ _ _ _ hF2.out]; rfl
    have c1 : w2.cell? ⟨w.heap.size, 1, none⟩ = some (.int .i64 0) := by rw [cell_of_row _ _ _ _ _ _ hF2.out]; rfl
    have fz0 := frozen_of_row w2 w.heap.size 0 _ _ hF2.out
    have fz1 := frozen_of_row w2 w.heap.size 1 _ _ hF2.out
    have lt0 := lt_of_block hF2.out
    go_wp2_with fail
    have hr : ((w2.setCell ⟨w.heap.size, 0, none⟩ (.int .i64 6)).setCell ⟨w.heap.size, 1, none⟩ (.int .i64 last)).heap[w.heap.size]? = some (.cells #[.int .i64 6, .int .i64 last] 99 (0, 0)) := by
     rw [heap_setCell_same _ _ _ _ _ _ (heap_setCell_same _ _ _ _ _ _ hF2.out)]; simp
    have hb2 := (hbw2.out.setCell (p := ⟨w.heap.size, 0, none⟩) (Nat.le_refl _) (.int .i64 6)).setCell (p := ⟨w.heap.size, 1, none⟩) (Nat.le_refl _) (.int .i64 last)
    generalize (w2.setCell ⟨w.heap.size, 0, none⟩ (.int .i64 6)).setCell ⟨w.heap.size, 1, none⟩ (.int .i64 last) = V at *
    have e0 : V.cell? ⟨w.heap.size, 0, none⟩ = some (.int .i64 6) := by rw [cell_of_row _ _ _ _ _ _ hr]; rfl
    have e1 : V.cell? ⟨w.heap.size, 1, none⟩ = some (.int .i64 last) := by rw [cell_of_row _ _ _ _ _ _ hr]; rfl
    refine bodyPost_ret (v := .agg #[.int .i64 6, .int .i64 last]) (by simp [results, Tryz.results118, go_sem, e0, e1]) rfl ⟨⟨6, last, rfl, Or.inr ⟨HFF.out, rfl⟩⟩, hb2⟩
   ·have HN := hid (show utfB s = seenB s (pos + k) pos (decide (r = 65533)) from by
     rw [HS.out]
     have h1 : seenB s pos last brk = utfB (s.drop pos) := by
      unfold seenB
      rw [if_neg (by simpa using hbr)]
     rw [h1, hst]
     unfold seenB
     by_cases hr : r = 65533
     ·by_cases hk : k = 1
      ·simp [hr, hk]
      ·simp [hr, hk]
     ·simp [hr])
    have hre : ((r : Int) == 65533) = decide (r = 65533) := by
     rw [Bool.eq_iff_iff, beq_iff_eq, decide_eq_true_iff]; omega
    have hbr2 : brk = true → ((pos : Int) - (last : Int) == 1) = false := fun e => by rw [beq_eq_false_iff_ne]; intro h; exact hbr ⟨e, by omega⟩
    have hps : (pos : Int) - (last : Int) ≤ 9223372036854775807 := by omega
    clear hst HS hbr
    cases brk with
    | true =>
     have hbr3 := hbr2 rfl
     clear hbr2
     go_wp2_with fail
     generalize wr.iterAt w1.heap.size ⟨s.toArray⟩ (pos + k) = w2 at *
     go_roundw
     case rel => exact ⟨pos + k, pos, decide (r = 65533), rfl, by first | rfl | rw [hre], hpk, by omega, hF2.out, hit2.out, hbw2.out, HN.out⟩
     case measure => simp only [World.iterPos, hit2.out, hit]; omega
    | false =>
     clear hbr2
     go_wp2_with fail
     generalize wr.iterAt w1.heap.size ⟨s.toArray⟩ (pos + k) = w2 at *
     go_roundw
     case rel => exact ⟨pos + k, pos, decide (r = 65533), rfl, by first | rfl | rw [hre], hpk, by omega, hF2.out, hit2.out, hbw2.out, HN.out⟩
     case measure => simp only [World.iterPos, hit2.out, hit]; omega
  ·have hnx : ∀ ty, (Instr.next (.pointer (some ⟨w1.heap.size, 0, none⟩)) true ty).run Tryz.prog wr = _ := fun ty => Lib.run_next_end_at wr w1.heap.size ⟨s.toArray⟩ pos ty hit (by rw [Lib.size_eq]; exact hp)
   have hpe : pos = s.length := by omega
   have c0 : wr.cell? ⟨w.heap.size, 0, none⟩ = some (.int .i64 0) := by rw [cell_of_row _ _ _ _ _ _ hF]; rfl
   have c1 : wr.cell? ⟨w.heap.size, 1, none⟩ = some (.int .i64 0) := by rw [cell_of_row _ _ _ _ _ _ hF]; rfl
   have fz0 := frozen_of_row wr w.heap.size 0 _ _ hF
   have fz1 := frozen_of_row wr w.heap.size 1 _ _ hF
   have lt0 := lt_of_block hF
   by_cases hbr : brk = true ∧ pos = last + 1
   ·obtain ⟨rfl, hpl⟩ := hbr
    have hlen : ((s.length : Int) - (last : Int) == 1) = true := by rw [beq_iff_eq]; omega
    have hf : utfB s = false := by have := HS.out; rw [this]; simp [seenB, hpl]
    have HFF := hid hf
    have HF2 := hid hF
    have HBW := hid hbw
    clear hf HS hF hbw hpl hpe
    go_wp2_with fail
    have hr : ((wr.setCell ⟨w.heap.size, 0, none⟩ (.int .i64 6)).setCell ⟨w.heap.size, 1, none⟩ (.int .i64 last)).heap[w.heap.size]? = some (.cells #[.int .i64 6, .int .i64 last] 99 (0, 0)) := by
     rw [heap_setCell_same _ _ _ _ _ _ (heap_setCell_same _ _ _ _ _ _ HF2.out)]; simp
    have hb2 := (HBW.out.setCell (p := ⟨w.heap.size, 0, none⟩) (Nat.le_refl _) (.int .i64 6)).setCell (p := ⟨w.heap.size, 1, none⟩) (Nat.le_refl _) (.int .i64 last)
    generalize (wr.setCell ⟨w.heap.size, 0, none⟩ (.int .i64 6)).setCell ⟨w.heap.size, 1, none⟩ (.int .i64 last) = V at *
    have e0 : V.cell? ⟨w.heap.size, 0, none⟩ = some (.int .i64 6) := by rw [cell_of_row _ _ _ _ _ _ hr]; rfl
    have e1 : V.cell? ⟨w.heap.size, 1, none⟩ = some (.int .i64 last) := by rw [cell_of_row _ _ _ _ _ _ hr]; rfl
    refine bodyPost_ret (v := .agg #[.int .i64 6, .int .i64 last]) (by simp [results, Tryz.results118, go_sem, e0, e1]) rfl ⟨⟨6, last, rfl, Or.inr ⟨HFF.out, rfl⟩⟩, hb2⟩
   ·have ht : utfB s = true := by
     rw [HS.out]
     unfold seenB
     rw [if_neg (by simpa using hbr), hpe, List.drop_length]; rfl
    have hbr2 : brk = true → ((s.length : Int) - (last : Int) == 1) = false := fun e => by rw [beq_eq_false_iff_ne]; intro h; exact hbr ⟨e, by omega⟩
    have HTT := hid ht
    have HF2 := hid hF
    have HBW := hid hbw
    clear ht HS hF hbw hbr hpe
    cases brk with
    | true =>
     have hbr3 := hbr2 rfl
     clear hbr2
     go_wp2_with fail
     have hr : ((wr.setCell ⟨w.heap.size, 0, none⟩ (.int .i64 0)).setCell ⟨w.heap.size, 1, none⟩ (.int .i64 0)).heap[w.heap.size]? = some (.cells #[.int .i64 0, .int .i64 0] 99 (0, 0)) := by
      rw [heap_setCell_same _ _ _ _ _ _ (heap_setCell_same _ _ _ _ _ _ HF2.out)]; simp
     have hb2 := (HBW.out.setCell (p := ⟨w.heap.size, 0, none⟩) (Nat.le_refl _) (.int .i64 0)).setCell (p := ⟨w.heap.size, 1, none⟩) (Nat.le_refl _) (.int .i64 0)
     generalize (wr.setCell ⟨w.heap.size, 0, none⟩ (.int .i64 0)).setCell ⟨w.heap.size, 1, none⟩ (.int .i64 0) = V at *
     have e0 : V.cell? ⟨w.heap.size, 0, none⟩ = some (.int .i64 0) := by rw [cell_of_row _ _ _ _ _ _ hr]; rfl
     have e1 : V.cell? ⟨w.heap.size, 1, none⟩ = some (.int .i64 0) := by rw [cell_of_row _ _ _ _ _ _ hr]; rfl
     refine bodyPost_ret (v := .agg #[.int .i64 0, .int .i64 0]) (by simp [results, Tryz.results118, go_sem, e0, e1]) rfl ⟨⟨0, 0, rfl, Or.inl ⟨HTT.out, rfl, rfl⟩⟩, hb2⟩
    | false =>
     clear hbr2
     go_wp2_with fail
     have hr : ((wr.setCell ⟨w.heap.size, 0, none⟩ (.int .i64 0)).setCell ⟨w.heap.size, 1, none⟩ (.int .i64 0)).heap[w.heap.size]? = some (.cells #[.int .i64 0, .int .i64 0] 99 (0, 0)) := by
      rw [heap_setCell_same _ _ _ _ _ _ (heap_setCell_same _ _ _ _ _ _ HF2.out)]; simp
     have hb2 := (HBW.out.setCell (p := ⟨w.heap.size, 0, none⟩) (Nat.le_refl _) (.int .i64 0)).setCell (p := ⟨w.heap.size, 1, none⟩) (Nat.le_refl _) (.int .i64 0)
     generalize (wr.setCell ⟨w.heap.size, 0, none⟩ (.int .i64 0)).setCell ⟨w.heap.size, 1, none⟩ (.int .i64 0) = V at *
     have e0 : V.cell? ⟨w.heap.size, 0, none⟩ = some (.int .i64 0) := by rw [cell_of_row _ _ _ _ _ _ hr]; rfl
     have e1 : V.cell? ⟨w.heap.size, 1, none⟩ = some (.int .i64 0) := by rw [cell_of_row _ _ _ _ _ _ hr]; rfl
     refine bodyPost_ret (v := .agg #[.int .i64 0, .int .i64 0]) (by simp [results, Tryz.results118, go_sem, e0, e1]) rfl ⟨⟨0, 0, rfl, Or.inl ⟨HTT.out, rfl, rfl⟩⟩, hb2⟩
end Go.Proofs.YtjlfchnnhglbjaaGreat
namespace Go.Proofs.YtjlfchnnhglbjaaGreat
open Go.RowKit Go.Lib
def prd (b : ByteArray) (p er : Nat) (ea : Int) : Array Value := #[.string b, .int .i64 p, .int .i64 er, .int .i64 ea]
def PRd (W : World) (Br : Nat) (b : ByteArray) (p er : Nat) (ea : Int) : Prop := W.heap[Br]? = some (.cells (prd b p er ea) 166 (0, 0))
theorem PRd.cells {W : World} {Br : Nat} {b : ByteArray} {p er : Nat} {ea : Int} (h : PRd W Br b p er ea) :
  W.cell? ⟨Br, 0, none⟩ = some (.string b) ∧ W.cell? ⟨Br, 1, none⟩ = some (.int .i64 p) ∧ W.cell? ⟨Br, 2, none⟩ = some (.int .i64 er) ∧ W.cell? ⟨Br, 3, none⟩ = some (.int .i64 ea) ∧
  W.frozen? ⟨Br, 1, none⟩ = false ∧ W.frozen? ⟨Br, 2, none⟩ = false ∧ W.frozen? ⟨Br, 3, none⟩ = false ∧ Br < W.heap.size := by
 unfold PRd at h
 refine ⟨?_, ?_, ?_, ?_, frozen_of_row _ _ _ _ _ h, frozen_of_row _ _ _ _ _ h, frozen_of_row _ _ _ _ _ h, lt_of_block h⟩
 all_goals rw [cell_of_row _ _ _ _ _ _ h]; rfl
theorem PRd.setAt {W : World} {Br : Nat} {b : ByteArray} {p er : Nat} {ea : Int} (h : PRd W Br b p er ea) (q : Nat) : PRd (W.setCell ⟨Br, 1, none⟩ (.int .i64 q)) Br b q er ea := by
 unfold PRd at *
 rw [heap_setCell_same _ _ _ _ _ _ h]; simp [prd]
theorem PRd.setSpot {W : World} {Br : Nat} {b : ByteArray} {p er : Nat} {ea : Int} (h : PRd W Br b p er ea) (e : Nat) (a : Int) : PRd ((W.setCell ⟨Br, 2, none⟩ (.int .i64 e)).setCell ⟨Br, 3, none⟩ (.int .i64 a)) Br b p e a := by
 unfold PRd at *
 rw [heap_setCell_same _ _ _ _ _ _ (heap_setCell_same _ _ _ _ _ _ h)]; simp [prd]
theorem PRd.drewN {W : World} {Br : Nat} {b : ByteArray} {p er : Nat} {ea : Int} (h : PRd W Br b p er ea) (q : Nat) : PRd (W.drewN q) Br b p er ea := h
theorem PRd.below {W W' : World} {Br : Nat} {b : ByteArray} {p er : Nat} {ea : Int} (h : PRd W Br b p er ea) (hb : Below W.heap.size W W') : PRd W' Br b p er ea := (hb.block _ (lt_of_block h)).trans h
theorem Only.drewN {b : Nat} {a w : World} (h : Only b a w) (q : Nat) : Only b a (w.drewN q) := ⟨h.os, h.tape, h.output, h.size, h.block⟩
theorem pfail_any (Br : Nat) (b : ByteArray) (p er : Nat) (ea : Int) (e : Nat) (a : Int) (w : World) (h : PRd w Br b p er ea) :
  Calls Tryz.prog 119 #[.pointer (some ⟨Br, 0, none⟩), .int .i64 e, .int .i64 a] w fun x w' => x = .returned (.bool false) ∧ PRd w' Br b p e a ∧ Only Br w w' := by
 obtain ⟨c0, c1, c2, c3, f1, f2, f3, lt⟩ := h.cells
 have H := hid h
 clear h
 go_enter Tryz.func119, Tryz.ntmps119
 go_wp2_with fail
 go_ret
 exact ⟨rfl, H.out.setSpot e a, ((Only.refl w Br).set _ _).set _ _⟩
theorem takeB_at (b : ByteArray) (p : Nat) (c : UInt8) (h : p < b.size) : takeB c (b.data.toList.drop p) = if b[p] = c then some (b.data.toList.drop (p + 1)) else none := by
 have hl : p < b.data.toList.length := by rw [← Lib.size_eq]; exact h
 rw [List.drop_eq_getElem_cons hl]
 rfl
theorem takeB_end (b : ByteArray) (p : Nat) (c : UInt8) (h : ¬ p < b.size) : takeB c (b.data.toList.drop p) = none := by
 rw [List.drop_eq_nil_of_le (by rw [← Lib.size_eq]; omega)]; rfl
set_option maxHeartbeats 1000000 in
theorem pnext_any (Br : Nat) (b : ByteArray) (p er : Nat) (ea : Int) (c : UInt8) (w : World) (h : PRd w Br b p er ea) (hp : p ≤ b.size) (hb : b.size ≤ 1000) :
  Calls Tryz.prog 121 #[.pointer (some ⟨Br, 0, none⟩), .int .u8 (c.toNat : Int)] w fun x w' => x = .returned (.bool (takeB c (b.data.toList.drop p)).isSome) ∧ PRd w' Br b (if (takeB c (b.data.toList.drop p)).isSome then p + 1 else p) er ea ∧ Only Br w w' := by
 have H := hid h
 by_cases hlt : p < b.size
 ·have hTB := takeB_at b p c hlt
  have hpi : (p : Int) < (b.size : Int) := by omega
  have hp0 : (0 : Int) ≤ (p : Int) := by omega
  by_cases hc : b[p] = c
  ·have hx : ((b[p].toNat : Int) == (c.toNat : Int)) = true := by rw [u8_eq, hc]; simp
   rw [if_pos hc] at hTB
   rw [hTB]
   obtain ⟨c0, c1, c2, c3, f1, f2, f3, lt⟩ := h.cells
   clear h hTB hc
   go_enter Tryz.func121, Tryz.ntmps121
   go_wp2_with fail
   go_quiet (fail)
   have H2 := hid (H.out.drewN nq)
   have O2 := hid ((Only.refl w Br).drewN nq)
   clear c0 c1 c2 c3 f1 f2 f3 lt H
   generalize w.drewN nq = w2 at *
   obtain ⟨c0, c1, c2, c3, f1, f2, f3, lt⟩ := H2.out.cells
   go_wp2_with fail
   go_ret
   exact ⟨rfl, H2.out.setAt (p + 1), O2.out.set _ _⟩
  ·have hx : ((b[p].toNat : Int) == (c.toNat : Int)) = false := by rw [u8_eq]; simpa using hc
   rw [if_neg hc] at hTB
   rw [hTB]
   obtain ⟨c0, c1, c2, c3, f1, f2, f3, lt⟩ := h.cells
   clear h hTB hc
   go_enter Tryz.func121, Tryz.ntmps121
   go_wp2_with fail
   go_quiet (fail)
   go_wp2_with fail
   go_ret
   exact ⟨rfl, H.out.drewN _, (Only.refl w Br).drewN _⟩
 ·rw [takeB_end b p c hlt]
  obtain ⟨c0, c1, c2, c3, f1, f2, f3, lt⟩ := h.cells
  have HD := hid (show decide (p < b.size) = false from decide_eq_false hlt)
  clear h hlt
  go_enter Tryz.func121, Tryz.ntmps121
  go_wp2_with fail
  have hd := HD.out
  go_quiet (fail)
  go_wp2_with fail
  go_ret
  exact ⟨rfl, H.out.drewN _, (Only.refl w Br).drewN _⟩
theorem takeWhile_at {p : UInt8 → Bool} : ∀ (l : Str) (k : Nat), k ≤ l.length → (l.take k).all p = true → (∀ c, l[k]? = some c → p c = false) → l.takeWhile p = l.take k ∧ l.dropWhile p = l.drop k
 | [], k, hk, _, _ => by simp
 | c :: t, 0, hk, _, h => by
  have := h c rfl
  simp [List.takeWhile_cons, List.dropWhile_cons, this]
 | c :: t, k + 1, hk, ha, h => by
  simp only [List.take_succ_cons, List.all_cons, Bool.and_eq_true] at ha
  have ih := takeWhile_at t k (by simpa using hk) ha.2 (fun d hd => h d (by simpa using hd))
  simp [List.takeWhile_cons, List.dropWhile_cons, ha.1, ih]
theorem nameP_none {s : Str} (h : headB startB s = false) : nameP s = none := by unfold nameP; rw [h]; simp
theorem nameP_at {s : Str} {k : Nat} (h : headB startB s = true) (h1 : s.takeWhile nameB = s.take k) (h2 : s.dropWhile nameB = s.drop k) (hk : k ≤ s.length) : nameP s = if k ≤ 64 then some (s.take k, s.drop k) else none := by
 unfold nameP
 rw [h, h1, h2, List.length_take, Nat.min_eq_left hk]
 by_cases h64 : k ≤ 64
 ·simp [h64]
 ·simp [h64]
theorem head_at (b : ByteArray) (p : Nat) (h : p < b.size) : headB startB (b.data.toList.drop p) = startB b[p] := by
 have hl : p < b.data.toList.length := by rw [← Lib.size_eq]; exact h
 rw [List.drop_eq_getElem_cons hl]; rfl
theorem head_end (b : ByteArray) (p : Nat) (h : ¬ p < b.size) : headB startB (b.data.toList.drop p) = false := by
 rw [List.drop_eq_nil_of_le (by rw [← Lib.size_eq]; omega)]; rfl
theorem takeAll_more {p : UInt8 → Bool} (b : ByteArray) (q k : Nat) (h : q + k < b.size) (ha : ((b.data.toList.drop q).take k).all p = true) (hc : p b[q + k] = true) : ((b.data.toList.drop q).take (k + 1)).all p = true := by
 have hl : k < (b.data.toList.drop q).length := by rw [List.length_drop, ← Lib.size_eq]; omega
 rw [List.take_succ_eq_append_getElem hl, List.all_append, ha]
 simp only [List.all_cons, List.all_nil, Bool.and_true, Bool.true_and, List.getElem_drop]
 exact hc
theorem ext_at (b : ByteArray) (p q : Nat) : b.extract p q = ⟨((b.data.toList.drop p).take (q - p)).toArray⟩ := by
 have h : (b.extract p q).data.toList = (b.data.toList.drop p).take (q - p) := by
  rw [ByteArray.data_extract, Array.toList_extract]
 rw [← h]
def NameRes (Br : Nat) (b : ByteArray) (p : Nat) (w : World) (x : Ending) (w' : World) : Prop :=
 (∃ n r q, nameP (b.data.toList.drop p) = some (n, r) ∧ x = .returned (.tuple #[.string ⟨n.toArray⟩, .bool true]) ∧ PRd w' Br b q 0 0 ∧ q ≤ b.size ∧ p ≤ q ∧ r = b.data.toList.drop q ∧ Only Br w w') ∨
 (nameP (b.data.toList.drop p) = none ∧ x = .returned (.tuple #[.string ⟨#[]⟩, .bool false]) ∧ (∃ q e a, e ≠ 0 ∧ PRd w' Br b q e a) ∧ Only Br w w')
set_option maxRecDepth 100000 in
set_option maxHeartbeats 4000000 in
theorem pname_any (Br : Nat) (b : ByteArray) (p : Nat) (w : World) (h : PRd w Br b p 0 0) (hp : p ≤ b.size) (hb : b.size ≤ 1000) :
  Calls Tryz.prog 164 #[.pointer (some ⟨Br, 0, none⟩)] w fun x w' => NameRes Br b p w x w' := by
 have H := hid h
 have FA := hid (fun q er ea e a W (h : PRd W Br b q er ea) => pfail_any Br b q er ea e a W h)
 by_cases hst : headB startB (b.data.toList.drop p) = true
 ·have hlt : p < b.size := by
   rcases Nat.lt_or_ge p b.size with h1 | h1
   ·exact h1
   ·rw [head_end b p (by omega)] at hst; cases hst
  have HST := hid hst
  rw [head_at b p hlt] at hst
  have NS := hid (fun m => hst ▸ nameStart_any b[p] (w.drewN m))
  have hpi : (p : Int) < (b.size : Int) := by omega
  have hp0 : (0 : Int) ≤ (p : Int) := by omega
  have HD := hid (show ((p : Int) == (b.size : Int)) = false from beq_eq_false_iff_ne.2 (by omega))
  obtain ⟨c0, c1, c2, c3, f1, f2, f3, lt⟩ := h.cells
  clear h hst
  go_enter Tryz.func164, Tryz.ntmps164
  go_wp2_with fail
  have hd := HD.out
  go_quiet ((go_at_call 189; exact Calls.quiet_of_same (NS.out _)))
  have H2 := hid (H.out.drewN nq)
  have O2 := hid ((Only.refl w Br).drewN nq)
  clear c0 c1 c2 c3 f1 f2 f3 lt H NS HD hd
  generalize w.drewN nq = w2 at *
  obtain ⟨c0, c1, c2, c3, f1, f2, f3, lt⟩ := H2.out.cells
  go_wp2_with fail
  go_loopg [] b.size (fun g W => ∃ q : Nat, p ≤ q ∧ q ≤ b.size ∧ b.size ≤ q + g ∧ ((b.data.toList.drop p).take (q - p)).all nameB = true ∧ PRd W Br b q 0 0 ∧ Only Br w W)
  case atStart => exact ⟨p, Nat.le_refl _, hp, by omega, by simp, H2.out, O2.out⟩
  case round =>
   obtain ⟨q, hple, hqle, hg, hall, st3, o3⟩ := hrel
   rename World => w3
   clear c0 c1 c2 c3 f1 f2 f3 lt H2 O2
   have HG := hid hg
   have ST3 := hid st3
   have O3 := hid o3
   have HALL := hid hall
   clear hg st3 o3 hall
   obtain ⟨c0, c1, c2, c3, f1, f2, f3, lt⟩ := ST3.out.cells
   by_cases hql : q < b.size
   ·have hqi : (q : Int) < (b.size : Int) := by omega
    have hqz : (0 : Int) ≤ (q : Int) := by omega
    cases hnb : nameB b[q]
    ·have NB := hid (fun m => hnb ▸ nameByte_any b[q] (w3.drewN m))
     have HNM := hid (show nameP (b.data.toList.drop p) = if q - p ≤ 64 then some ((b.data.toList.drop p).take (q - p), (b.data.toList.drop p).drop (q - p)) else none from by
      have hl : q - p ≤ (b.data.toList.drop p).length := by rw [List.length_drop, ← Lib.size_eq]; omega
      obtain ⟨e1, e2⟩ := takeWhile_at (b.data.toList.drop p) (q - p) hl HALL.out (fun c hc => by
       rw [List.getElem?_drop, show p + (q - p) = q by omega, List.getElem?_eq_getElem (by rw [← Lib.size_eq]; exact hql)] at hc
       rw [← Option.some.inj hc]; exact hnb)
      exact nameP_at HST.out e1 e2 hl)
     clear HALL hnb HG
     go_wp2_with fail
     go_quiet ((go_at_call 190; exact Calls.quiet_of_same (NB.out _)))
     have H4 := hid (ST3.out.drewN nq)
     have O4 := hid (O3.out.drewN nq)
     clear c0 c1 c2 c3 f1 f2 f3 lt ST3 O3
     generalize w3.drewN nq = w4 at *
     obtain ⟨c0, c1, c2, c3, f1, f2, f3, lt⟩ := H4.out.cells
     have hpq : (p : Int) ≤ (q : Int) := by omega
     have hq0 : (0 : Int) ≤ (q : Int) := by omega
     have hqb : (q : Int) ≤ (b.size : Int) := by omega
     by_cases h64 : q - p ≤ 64
     ·have hng : ¬ (64 : Int) < (q : Int) - (p : Int) := by omega
      have HXT := hid (ext_at b p q)
      go_wp2_with fail
      go_quiet (fail)
      go_wp2_with fail
      refine bodyPost_ret (v := .tuple #[.string (b.extract p q), .bool true]) (by simp [results, Tryz.results164, go_sem]) rfl ?_
      exact Or.inl ⟨_, _, q, by rw [HNM.out, if_pos h64], by rw [HXT.out], H4.out.drewN _, hqle, hple, by rw [List.drop_drop]; congr 1; omega, O4.out.drewN _⟩
     ·have hng : (64 : Int) < (q : Int) - (p : Int) := by omega
      go_wp2_with (go_at_call 119; refine (FA.out q 0 0 3 p w4 H4.out).mono ?_; rintro e w5 ⟨rfl, h5, o5⟩)
      refine bodyPost_ret (v := .tuple #[.string ⟨#[]⟩, .bool false]) (by simp [results, Tryz.results164, go_sem]) rfl ?_
      exact Or.inr ⟨by rw [HNM.out, if_neg h64], rfl, ⟨q, 3, p, by decide, h5⟩, O4.out.trans o5⟩
    ·have NB := hid (fun m => hnb ▸ nameByte_any b[q] (w3.drewN m))
     have HA2 := hid (show ((b.data.toList.drop p).take (q + 1 - p)).all nameB = true from by
      have := takeAll_more (p := nameB) b p (q - p) (by omega) HALL.out (by simpa [show p + (q - p) = q by omega] using hnb)
      rwa [show q - p + 1 = q + 1 - p by omega] at this)
     clear HALL hnb
     go_wp2_with fail
     go_quiet ((go_at_call 190; exact Calls.quiet_of_same (NB.out _)))
     have H4 := hid (ST3.out.drewN nq)
     have O4 := hid (O3.out.drewN nq)
     clear c0 c1 c2 c3 f1 f2 f3 lt ST3 O3 NB
     generalize w3.drewN nq = w4 at *
     obtain ⟨c0, c1, c2, c3, f1, f2, f3, lt⟩ := H4.out.cells
     go_wp2_with fail
     go_roundg (gk - 1)
     case measure => have := HG.out; omega
     case rel => exact ⟨q + 1, by omega, by omega, by have := HG.out; omega, HA2.out, H4.out.setAt (q + 1), O4.out.set _ _⟩
   ·have HD := hid (show decide (q < b.size) = false from decide_eq_false hql)
    have HNM := hid (show nameP (b.data.toList.drop p) = if q - p ≤ 64 then some ((b.data.toList.drop p).take (q - p), (b.data.toList.drop p).drop (q - p)) else none from by
     have hl : q - p ≤ (b.data.toList.drop p).length := by rw [List.length_drop, ← Lib.size_eq]; omega
     obtain ⟨e1, e2⟩ := takeWhile_at (b.data.toList.drop p) (q - p) hl HALL.out (fun c hc => by
      rw [List.getElem?_drop, show p + (q - p) = q by omega, List.getElem?_eq_none (by rw [← Lib.size_eq]; omega)] at hc
      cases hc)
     exact nameP_at HST.out e1 e2 hl)
    clear HALL HG
    go_wp2_with fail
    have hd := HD.out
    go_quiet (fail)
    have H4 := hid (ST3.out.drewN nq)
    have O4 := hid (O3.out.drewN nq)
    clear c0 c1 c2 c3 f1 f2 f3 lt ST3 O3
    generalize w3.drewN nq = w4 at *
    obtain ⟨c0, c1, c2, c3, f1, f2, f3, lt⟩ := H4.out.cells
    have hpq : (p : Int) ≤ (q : Int) := by omega
    have hq0 : (0 : Int) ≤ (q : Int) := by omega
    have hqb : (q : Int) ≤ (b.size : Int) := by omega
    by_cases h64 : q - p ≤ 64
    ·have hng : ¬ (64 : Int) < (q : Int) - (p : Int) := by omega
     have HXT := hid (ext_at b p q)
     go_wp2_with fail
     go_quiet (fail)
     go_wp2_with fail
     refine bodyPost_ret (v := .tuple #[.string (b.extract p q), .bool true]) (by simp [results, Tryz.results164, go_sem]) rfl ?_
     exact Or.inl ⟨_, _, q, by rw [HNM.out, if_pos h64], by rw [HXT.out], H4.out.drewN _, hqle, hple, by rw [List.drop_drop]; congr 1; omega, O4.out.drewN _⟩
    ·have hng : (64 : Int) < (q : Int) - (p : Int) := by omega
     go_wp2_with (go_at_call 119; refine (FA.out q 0 0 3 p w4 H4.out).mono ?_; rintro e w5 ⟨rfl, h5, o5⟩)
     refine bodyPost_ret (v := .tuple #[.string ⟨#[]⟩, .bool false]) (by simp [results, Tryz.results164, go_sem]) rfl ?_
     exact Or.inr ⟨by rw [HNM.out, if_neg h64], rfl, ⟨q, 3, p, by decide, h5⟩, O4.out.trans o5⟩
 ·have HNN := hid (nameP_none (s := b.data.toList.drop p) (by simpa using hst))
  by_cases hlt : p < b.size
  ·rw [head_at b p hlt] at hst
   have hst : startB b[p] = false := by simpa using hst
   have NS := hid (fun m => hst ▸ nameStart_any b[p] (w.drewN m))
   have hpi : (p : Int) < (b.size : Int) := by omega
   have hp0 : (0 : Int) ≤ (p : Int) := by omega
   have HD := hid (show ((p : Int) == (b.size : Int)) = false from beq_eq_false_iff_ne.2 (by omega))
   obtain ⟨c0, c1, c2, c3, f1, f2, f3, lt⟩ := h.cells
   clear h hst
   go_enter Tryz.func164, Tryz.ntmps164
   go_wp2_with fail
   have hd := HD.out
   go_quiet ((go_at_call 189; exact Calls.quiet_of_same (NS.out _)))
   have H2 := hid (H.out.drewN nq)
   have O2 := hid ((Only.refl w Br).drewN nq)
   clear c0 c1 c2 c3 f1 f2 f3 lt H NS HD hd
   generalize w.drewN nq = w2 at *
   obtain ⟨c0, c1, c2, c3, f1, f2, f3, lt⟩ := H2.out.cells
   go_wp2_with (go_at_call 119; refine (FA.out p 0 0 160 p w2 H2.out).mono ?_; rintro e w5 ⟨rfl, h5, o5⟩)
   refine bodyPost_ret (v := .tuple #[.string ⟨#[]⟩, .bool false]) (by simp [results, Tryz.results164, go_sem]) rfl ?_
   exact Or.inr ⟨HNN.out, rfl, ⟨p, 160, p, by decide, h5⟩, O2.out.trans o5⟩
  ·have HD := hid (show ((p : Int) == (b.size : Int)) = true from beq_iff_eq.2 (by omega))
   obtain ⟨c0, c1, c2, c3, f1, f2, f3, lt⟩ := h.cells
   clear h hst
   go_enter Tryz.func164, Tryz.ntmps164
   go_wp2_with fail
   have hd := HD.out
   go_quiet (fail)
   have H2 := hid (H.out.drewN nq)
   have O2 := hid ((Only.refl w Br).drewN nq)
   clear c0 c1 c2 c3 f1 f2 f3 lt H HD hd
   generalize w.drewN nq = w2 at *
   obtain ⟨c0, c1, c2, c3, f1, f2, f3, lt⟩ := H2.out.cells
   go_wp2_with (go_at_call 119; refine (FA.out p 0 0 160 p w2 H2.out).mono ?_; rintro e w5 ⟨rfl, h5, o5⟩)
   refine bodyPost_ret (v := .tuple #[.string ⟨#[]⟩, .bool false]) (by simp [results, Tryz.results164, go_sem]) rfl ?_
   exact Or.inr ⟨HNN.out, rfl, ⟨p, 160, p, by decide, h5⟩, O2.out.trans o5⟩
end Go.Proofs.YtjlfchnnhglbjaaGreat
namespace Go.Proofs.YtjlfchnnhglbjaaGreat
open Go.RowKit Go.Lib
def byteV (c : UInt8) : Value := .int .u8 (c.toNat : Int)
def OwnBy (W : World) (B : Nat) (v : Value) (l : Str) : Prop := W.ownsRow B 5 1 v l.length (l.map byteV)
def encBy : Enc UInt8 1 where
 enc := fun c => [byteV c]
 len := fun _ => rfl
 one := fun x u hu => by rw [List.mem_singleton.1 hu]; rfl
theorem flat_by (l : Str) : flatL encBy l = l.map byteV := by
 induction l with
 | nil => rfl
 | cons c t ih => simp only [flatL, List.flatMap_cons] at ih ⊢; rw [ih]; rfl
theorem infoBy : (Tryz.prog.info? 5).map (fun i => (i.zero, i.size, i.bytes)) = some (some (.int .u8 0), 1, 1) := by kernel_rfl
theorem OwnBy.slice {W : World} {B : Nat} {v : Value} {l : Str} (h : OwnBy W B v l) : ∃ ao cp, v = .slice ao l.length cp := by
 rcases h.2 with ⟨h1, h2⟩ | ⟨g, cap, cur, h1, _⟩
 ·exact ⟨none, 0, by rw [h1, h2]⟩
 ·exact ⟨_, cap, h1⟩
theorem OwnBy.text {W : World} {B : Nat} {v : Value} {l : Str} (h : OwnBy W B v l) : (convert 196 9 v).run Tryz.prog W = .ok (.string ⟨l.toArray⟩) W := by
 rcases h.2 with ⟨h1, h2⟩ | ⟨g, cap, cur, h1, h2, h3, h4, h5, h6, h7⟩
 ·rw [h1, List.eq_nil_of_length_eq_zero h2]
  exact run_convert_bytes_nil W 196 5 Tryz.underlying196 Tryz.underlying5 0 0 9 Tryz.underlying9
 ·rw [h1]
  refine run_convert_bytes_back W 196 9 5 ⟨g, 0, none⟩ cap l Tryz.underlying196 Tryz.underlying5 Tryz.underlying9 (fun j hj => ?_)
  rw [show (⟨g, 0, none⟩ : Addr).add j = ⟨g, j, none⟩ from by unfold Addr.add; split <;> simp_all]
  exact cells_at h3 h7 j _ (by simp [hj, byteV])
structure VSt (w : World) (Br : Nat) (b u : ByteArray) (K : Nat) (W : World) (pos : Nat) (acc : Str) (bv : Value) (q : Nat) : Prop where
 rd : PRd W Br b q 0 0
 it : W.heap[K]? = some (.stringIter u pos)
 own : OwnBy W w.heap.size bv acc
 only : Only Br w W
 k : w.heap.size ≤ K
section
variable {w W W' : World} {Br K pos q : Nat} {b u : ByteArray} {acc : Str} {bv : Value}
theorem VSt.ne (h : VSt w Br b u K W pos acc bv q) : Br ≠ K ∧ bv.ownBlock ≠ some K ∧ bv.ownBlock ≠ some Br ∧ Br < W.heap.size ∧ K < W.heap.size := by
 have hr := h.rd
 unfold PRd at hr
 refine ⟨fun e => ?_, fun e => ?_, own_type h.own hr (by decide), lt_of_block hr, (Array.getElem?_eq_some_iff.1 h.it).1⟩
 ·have := h.it; rw [← e, hr] at this; cases this
 ·rcases h.own.2 with ⟨h1, _⟩ | ⟨g, cap, cur, h1, _, h3, _⟩
  ·rw [h1] at e; cases e
  ·rw [h1] at e; cases e
   have := h.it; rw [h3] at this; cases this
theorem VSt.next (h : VSt w Br b u K W pos acc bv q) (pos' : Nat) : VSt w Br b u K (W.iterAt K u pos') pos' acc bv q := by
 obtain ⟨n1, n2, n3, l1, l2⟩ := h.ne
 have hb : ∀ j, j ≠ K → (W.iterAt K u pos').heap[j]? = W.heap[j]? := fun j hj => Lib.iterAt_other W K j u pos' hj
 refine ⟨(hb Br n1).trans h.rd, Lib.iterAt_heap W K u pos pos' h.it, ?_, ?_, h.k⟩
 ·refine World.ownsRow.kept h.own (show W.grownBy (W.iterAt K u pos') (some K) from ⟨rfl, rfl, rfl, by rw [Lib.iterAt_size]; exact Nat.le_refl _, fun j hj hne => hb j (fun e => hne (by rw [e]))⟩) (Or.inr n2)
 ·have o := h.only
  exact ⟨o.os, o.tape, o.output, by rw [Lib.iterAt_size]; exact o.size, fun j hj hne => (hb j (fun e => by have := h.k; omega)).trans (o.block j hj hne)⟩
theorem VSt.at_ (h : VSt w Br b u K W pos acc bv q) (q' : Nat) : VSt w Br b u K (W.setCell ⟨Br, 1, none⟩ (.int .i64 q')) pos acc bv q' := by
 obtain ⟨n1, n2, n3, l1, l2⟩ := h.ne
 exact ⟨h.rd.setAt q', (heap_setCell_other _ _ _ _ (by simp; exact fun e => absurd e.symm n1)).trans h.it, own_set h.own n3 _ _, h.only.set _ _, h.k⟩
theorem VSt.app {acc' : Str} {bv' : Value} (h : VSt w Br b u K W pos acc bv q) (o : OwnBy W' w.heap.size bv' acc') (gr : W.grownBy W' bv.ownBlock) : VSt w Br b u K W' pos acc' bv' q := by
 obtain ⟨n1, n2, n3, l1, l2⟩ := h.ne
 refine ⟨(gr.block Br l1 (Ne.symm n3)).trans h.rd, (gr.block K l2 (Ne.symm n2)).trans h.it, o, ?_, h.k⟩
 have oo := h.only
 refine ⟨gr.os.trans oo.os, gr.tape.trans oo.tape, gr.output.trans oo.output, Nat.le_trans oo.size gr.size, fun j hj hne => (gr.block j (Nat.lt_of_lt_of_le hj oo.size) (fun e => ?_)).trans (oo.block j hj hne)⟩
 have := (World.ownsRow.lt h.own j e.symm).1
 omega
end
theorem ctl_any (r : Int) (W : World) : Calls Tryz.prog 175 #[.int .i32 r] W fun e w' => e = .returned (.bool (decide (r < 32) || r == 127)) ∧ w' = W := by
 by_cases h1 : r < 32
 ·go_enter Tryz.func175, Tryz.ntmps175
  go_wp2
  go_ret
  exact ⟨ret_bool (by simp [h1]), rfl⟩
 ·cases h2 : (r == 127)
  all_goals
   go_enter Tryz.func175, Tryz.ntmps175
   go_wp2
   go_ret
   exact ⟨ret_bool (by simp [h1, h2]), rfl⟩
theorem spec_idx (c : UInt8) : (Lib.indexByte [91, 93, 47, 61, 92] c < 0) ↔ specB c = false := by
 revert c; apply forall_byte; decide +kernel
theorem enc_one (c : UInt8) (h : c.toNat < 128) : (Utf8.encode (c.toNat : Int)).data.toList = [c] := by
 have hv : Utf8.valid (c.toNat : Int) = true := by simp [Utf8.valid]; omega
 unfold Utf8.encode
 simp only [hv, if_true, Int.toNat_natCast]
 rw [if_pos (by omega)]
 simp
def ValRes (Br : Nat) (b : ByteArray) (p : Nat) (w : World) (x : Ending) (w' : World) : Prop :=
 (∃ v r q, valueP false [] (b.data.toList.drop p) = some (v, r) ∧ x = .returned (.tuple #[.string ⟨v.toArray⟩, .bool true]) ∧ PRd w' Br b q 0 0 ∧ q ≤ b.size ∧ p ≤ q ∧ r = b.data.toList.drop q ∧ utfB r = true ∧ Only Br w w') ∨
 (valueP false [] (b.data.toList.drop p) = none ∧ x = .returned (.tuple #[.string ⟨#[]⟩, .bool false]) ∧ (∃ q e a, e ≠ 0 ∧ PRd w' Br b q e a) ∧ Only Br w w')
end Go.Proofs.YtjlfchnnhglbjaaGreat
namespace Go.Proofs.YtjlfchnnhglbjaaGreat
open Go.RowKit Go.Lib
set_option maxRecDepth 100000 in
set_option maxHeartbeats 8000000 in
theorem pvalue_any (Br : Nat) (b : ByteArray) (p : Nat) (w : World) (h : PRd w Br b p 0 0) (hp : p ≤ b.size) (hb : b.size ≤ 1000) (hu : utfB (b.data.toList.drop p) = true) :
  Calls Tryz.prog 165 #[.pointer (some ⟨Br, 0, none⟩)] w fun x w' => ValRes Br b p w x w' := by
 have H := hid h
 have HU := hid hu
 have FA := hid (fun q er ea e a W (h : PRd W Br b q er ea) => pfail_any Br b q er ea e a W h)
 have HX := hid (show (b.extract p b.size).data.toList = b.data.toList.drop p from by
  rw [ext_at]
  show (b.data.toList.drop p).take (b.size - p) = _
  exact List.take_of_length_le (by rw [List.length_drop, ← Lib.size_eq]; exact Nat.le_refl _))
 have HXS := hid (show (b.extract p b.size).size = b.size - p from by rw [Lib.size_eq, HX.out, List.length_drop, ← Lib.size_eq])
 have hpi : (p : Int) ≤ (b.size : Int) := by omega
 have hp0 : (0 : Int) ≤ (p : Int) := by omega
 have hbi : (b.size : Int) ≤ 1000 := by omega
 obtain ⟨c0, c1, c2, c3, f1, f2, f3, lt⟩ := h.cells
 clear h hu
 go_enter Tryz.func165, Tryz.ntmps165
 go_wp2_with fail
 generalize b.extract p b.size = u at *
 go_loopw [5, 6] (fun v5 v6 wr => ∃ (pos : Nat) (esc : Bool) (acc : Str) (q : Nat), v6 = .bool esc ∧ VSt w Br b u w.heap.size wr pos acc v5 q ∧ pos ≤ u.size ∧ utfB (u.data.toList.drop pos) = true ∧ valueP false [] u.data.toList = valueP esc acc (u.data.toList.drop pos) ∧ acc.length ≤ pos ∧ q ≤ b.size ∧ p ≤ q) (fun _ _ wr => u.size - wr.iterPos w.heap.size)
 case atStart =>
  refine ⟨0, false, [], p, rfl, ⟨H.out.below (Below.refl _ _ |>.alloc (Nat.le_refl _) _), World.iter_heap w u 0, World.ownsRow_nil _ _ _ _, (Only.refl w Br).below ((Below.refl _ _).alloc (Nat.le_refl _) _), Nat.le_refl _⟩, Nat.zero_le _, ?_, rfl, Nat.le_refl _, hp, Nat.le_refl _⟩
  rw [HX.out]; exact HU.out
 case round =>
  obtain ⟨pos, esc, acc, q, rfl, st, hpos, hutf, hval, hacc, hq, hpq⟩ := hrel
  have ST := hid st
  have HV := hid (show valueP false [] (b.data.toList.drop p) = valueP esc acc (u.data.toList.drop pos) from by rw [← HX.out]; exact hval)
  have HVU := hid hval
  have hit := st.it
  clear st hval c0 c1 c2 c3 f1 f2 f3 lt
  have hul : u.size = b.size - p := HXS.out
  by_cases hps : pos < u.size
  ·have hne : u.data.toList.drop pos ≠ [] := by intro e; have := congrArg List.length e; rw [List.length_drop, ← Lib.size_eq] at this; simp at this; omega
   obtain ⟨hsd, hnext⟩ := utfB_sound hne hutf
   have hdl := (dec_le hne).1
   have hnx : ∀ ty, (Instr.next (.pointer (some ⟨w.heap.size, 0, none⟩)) true ty).run Tryz.prog wr = _ := fun ty => Lib.run_next_any_at wr w.heap.size u pos ty hit hps
   rw [← decodeL_drop] at hnx
   rw [List.length_drop, ← Lib.size_eq] at hdl
   generalize hrk : decodeL (u.data.toList.drop pos) = rk at *
   obtain ⟨r, k⟩ := rk
   rw [List.drop_drop] at hnext
   simp only at hnx hsd hnext hdl
   have HSD := hid hsd
   have HNX := hid hnext
   have HPK := hid (show pos + k ≤ u.size by omega)
   have HQ := hid (show p + pos < b.size by omega)
   obtain ⟨q2, hq2⟩ : ∃ q2 : Nat, q2 = p + pos := ⟨_, rfl⟩
   have hqa : (p : Int) + (pos : Int) = (q2 : Int) := by omega
   have ST2 := hid ((ST.out.next (pos + k)).at_ q2)
   have hbd : (p : Int) + (pos : Int) ≤ 1000 := by omega
   obtain ⟨c0, c1, c2, c3, f1, f2, f3, lt⟩ := (ST.out.next (pos + k)).rd.cells
   rw [hq2.symm] at HQ
   have HKK := hid (show pos ≤ 1000 by omega)
   have HQP := hid (show p ≤ q2 by omega)
   have HQQ := hid hq2
   clear hsd hnext hdl hutf hrk hne hq2
   go_upto_region 9 with fail
   generalize (wr.iterAt w.heap.size u (pos + k)).setCell ⟨Br, 1, none⟩ (.int .i64 (q2 : Int)) = w2 at *
   clear c0 c1 c2 c3 f1 f2 f3 lt hnx ST hbd hqa
   obtain ⟨c0, c1, c2, c3, f1, f2, f3, lt⟩ := ST2.out.rd.cells
   have HLA := hid (show acc.length + 1 ≤ maxLen by have := HKK.out; unfold maxLen; omega)
   have HLB := hid (show (acc.length + 1) * 1 ≤ 140737488355328 by have := HKK.out; omega)
   have HSZ := hid ST2.out.only.size
   have hsnd := HSD.out
   generalize hl : u.data.toList.drop pos = l at *
   have HLL := hid hl
   have HT0 := hid (show u.data.toList.drop (pos + k) = l.drop k from by rw [← List.drop_drop, hl])
   clear hl HSD
   cases hsnd with
   | one c t hc =>
    have hcl : c.toNat < 256 := c.toNat_lt
    have HT := hid (show u.data.toList.drop (pos + 1) = t from HT0.out)
    have h128 : ¬ (128 : Int) ≤ (c.toNat : Int) := by omega
    have hwr : IntKind.u8.wrap (c.toNat : Int) = (c.toNat : Int) := by rw [IntKind.wrap]; simp [IntKind.bits, IntKind.signed]; omega
    cases esc with
    | true =>
     have IX := hid (fun W => (show Calls Tryz.prog 97 #[.string ⟨#[91, 93, 47, 61, 92]⟩, .int .u8 (c.toNat : Int)] W fun e w' => e = .returned (.int .i64 (Lib.indexByte [91, 93, 47, 61, 92] c)) ∧ w' = W from by
      have h := Tryz.strings_IndexByte ⟨#[91, 93, 47, 61, 92]⟩ (c.toNat : Int) W
      have hc : ((c.toNat : Int)).toNat.toUInt8 = c := by simp
      rw [hc] at h; exact h))
     cases hsp : specB c
     ·have HN := hid (show valueP true acc (c :: t) = none by simp [valueP, hsp])
      have hix : Lib.indexByte [91, 93, 47, 61, 92] c < 0 := (spec_idx c).2 hsp
      go_wp2_with (first
       | (go_at_call 119; refine (FA.out q2 0 0 160 q2 _ ST2.out.rd).mono ?_; rintro e w5 ⟨rfl, h5, o5⟩)
       | (go_at_call 97; refine (IX.out _).mono ?_; rintro e w6 ⟨rfl, rfl⟩))
      refine bodyPost_ret (v := .tuple #[.string ⟨#[]⟩, .bool false]) (by simp [results, Tryz.results165, go_sem]) rfl ?_
      exact Or.inr ⟨by rw [HV.out]; exact HN.out, rfl, ⟨q2, 160, q2, by decide, h5⟩, ST2.out.only.trans o5⟩
     ·have HN := hid (show valueP true acc (c :: t) = valueP false (acc ++ [c]) t by simp [valueP, hsp])
      have hix : ¬ Lib.indexByte [91, 93, 47, 61, 92] c < 0 := fun h => by rw [(spec_idx c).1 h] at hsp; cases hsp
      go_wp2_with (first
       | (at_builtin; refine wpList_pushL (E := encBy) rfl (.tmp 50) (.tmp 53) rfl Tryz.underlying196 infoBy rfl (by decide) w.heap.size u5 acc c rfl (by unfold OwnL; rw [flat_by]; exact ST2.out.own) rfl HLA.out HLB.out HSZ.out #[byteV c] rfl ?_; intro v5 w5 own5 gr5 mv5)
       | (go_at_call 97; refine (IX.out _).mono ?_; rintro e w6 ⟨rfl, rfl⟩))
      have ST3 := hid (ST2.out.app (acc' := acc ++ [c]) (by unfold OwnL at own5; rw [flat_by] at own5; exact own5) gr5)
      clear own5 gr5 mv5
      go_roundw
      case rel => exact ⟨pos + 1, false, acc ++ [c], q2, rfl, ST3.out, by have := HPK.out; omega, HNX.out, by rw [HVU.out, HN.out, HT.out], by simp; omega, by have := HQ.out; omega, by have := HQP.out; omega⟩
      case measure => simp only [World.iterPos, ST3.out.it, hit]; omega
    | false =>
     have CT := hid (fun W => (show Calls Tryz.prog 175 #[.int .i32 (c.toNat : Int)] W fun e w' => e = .returned (.bool (ctlB c)) ∧ w' = W from by
      have h := ctl_any (c.toNat : Int) W
      have e : (decide ((c.toNat : Int) < 32) || ((c.toNat : Int) == 127)) = ctlB c := by
       unfold ctlB
       congr 1
       ·exact decide_eq_decide.2 (by omega)
       ·rw [Bool.eq_iff_iff, beq_iff_eq, beq_iff_eq]; omega
      rw [e] at h; exact h))
     have e92 : ((c.toNat : Int) == 92) = (c == 92) := u8_eq c 92
     have e93 : ((c.toNat : Int) == 93) = (c == 93) := u8_eq c 93
     have e91 : ((c.toNat : Int) == 91) = (c == 91) := u8_eq c 91
     have e47 : ((c.toNat : Int) == 47) = (c == 47) := u8_eq c 47
     have e61 : ((c.toNat : Int) == 61) = (c == 61) := u8_eq c 61
     by_cases h92 : c = 92
     ·have HN := hid (show valueP false acc (c :: t) = valueP true acc t by simp [valueP, h92])
      rw [beq_iff_eq.2 h92] at e92
      clear e93 e91 e47 e61 h92
      go_wp2_with fail
      go_roundw
      case rel => exact ⟨pos + 1, true, acc, q2, rfl, ST2.out, by have := HPK.out; omega, HNX.out, by rw [HVU.out, HN.out, HT.out], by omega, by have := HQ.out; omega, by have := HQP.out; omega⟩
      case measure => simp only [World.iterPos, ST2.out.it, hit]; omega
     ·rw [beq_eq_false_iff_ne.2 h92] at e92
      by_cases h93 : c = 93
      ·rw [beq_iff_eq.2 h93] at e93
       clear e91 e47 e61
       have hq1 : (q2 : Int) + 1 ≤ 1000 := by have := HQ.out; omega
       have ST3 := hid (show VSt w Br b u w.heap.size (w2.setCell ⟨Br, 1, none⟩ (.int .i64 ((q2 : Int) + 1))) (pos + 1) acc u5 (q2 + 1) from ST2.out.at_ (q2 + 1))
       obtain ⟨ab, cb, rfl⟩ := ST2.out.own.slice
       by_cases h64 : acc.length ≤ 64
       ·have HN := hid (show valueP false acc (c :: t) = some (acc, t) by simp [valueP, h92, h93, h64])
        have hng : ¬ (64 : Int) < (acc.length : Int) := by omega
        clear h92 h93
        go_upto_region 18 with fail
        generalize w2.setCell ⟨Br, 1, none⟩ (.int .i64 ((q2 : Int) + 1)) = w3 at *
        have htx := ST3.out.own.text
        go_wp2_with fail
        refine bodyPost_ret (v := .tuple #[.string ⟨acc.toArray⟩, .bool true]) (by simp [results, Tryz.results165, go_sem]) rfl ?_
        exact Or.inl ⟨acc, t, q2 + 1, by rw [HV.out]; exact HN.out, rfl, ST3.out.rd, by have := HQ.out; omega, by have := HQP.out; omega, by rw [← HT.out, HX.out, List.drop_drop]; congr 1; have := HQQ.out; omega, by rw [← HT.out]; exact HNX.out, ST3.out.only⟩
       ·have HN := hid (show valueP false acc (c :: t) = none by simp [valueP, h92, h93, h64])
        have hng : (64 : Int) < (acc.length : Int) := by omega
        clear h92 h93
        go_upto_region 18 with fail
        generalize w2.setCell ⟨Br, 1, none⟩ (.int .i64 ((q2 : Int) + 1)) = w3 at *
        go_wp2_with (first
         | (go_at_call 119; refine (FA.out (q2 + 1) 0 0 3 p _ ST3.out.rd).mono ?_; rintro e w5 ⟨rfl, h5, o5⟩)
         | fail)
        refine bodyPost_ret (v := .tuple #[.string ⟨#[]⟩, .bool false]) (by simp [results, Tryz.results165, go_sem]) rfl ?_
        exact Or.inr ⟨by rw [HV.out]; exact HN.out, rfl, ⟨(q2 + 1), 3, p, by decide, h5⟩, ST3.out.only.trans o5⟩
      ·rw [beq_eq_false_iff_ne.2 h93] at e93
       cases hbad : (ctlB c || c == 91 || c == 47 || c == 61)
       ·have HN := hid (show valueP false acc (c :: t) = valueP false (acc ++ [c]) t by simp only [valueP, if_neg h92, if_neg h93, hbad]; rfl)
        simp only [Bool.or_eq_false_iff] at hbad
        obtain ⟨⟨⟨b1, b2⟩, b3⟩, b4⟩ := hbad
        rw [b1] at CT
        rw [b2] at e91
        rw [b3] at e47
        rw [b4] at e61
        clear b1 b2 b3 b4 h92 h93
        have hen := enc_one c hc
        generalize hE : Utf8.encode (c.toNat : Int) = E at *
        have HE := hid hen
        have HSE := hid (show E.size = 1 by rw [Lib.size_eq, hen]; rfl)
        clear hen
        have ST2b := ST2.out.own
        obtain ⟨i0, hi, hz0, hz1, hz2⟩ := info_parts infoBy
        have HOB := hid (show acc.length + E.size ≤ maxLen by have := HKK.out; have := HSE.out; unfold maxLen; omega)
        have HOC := hid (show acc.length + E.size ≤ 140737488355328 by have := HKK.out; have := HSE.out; omega)
        have HI := hid hi
        have HZ0 := hid hz0
        have HZ1 := hid hz1
        have HZ2 := hid hz2
        have HST := hid ST2b
        clear hi hz0 hz1 hz2 ST2b
        go_wp2_with (first
         | (at_builtin; refine Lib.wpList_append_own_string _ rfl (.tmp 30) (.tmp 32) 196 9 rfl w.heap.size 5 i0 Tryz.underlying196 Tryz.underlying9 HI.out HZ0.out HZ1.out HZ2.out u5 acc.length (acc.map byteV) rfl HST.out E rfl HOB.out HOC.out HSZ.out ?_; intro v5 w5 own5 gr5 mv5)
         | (go_at_call 175; refine (CT.out _).mono ?_; rintro e w6 ⟨rfl, rfl⟩))
        have ST3 := hid (ST2.out.app (acc' := acc ++ [c]) (own_cast own5 (by rw [List.length_append, HSE.out]; try rfl) (by rw [List.map_append]; unfold Lib.strCells; rw [HE.out]; rfl)) gr5)
        clear own5 gr5 mv5
        go_roundw
        case rel => exact ⟨pos + 1, false, acc ++ [c], q2, rfl, ST3.out, by have := HPK.out; omega, HNX.out, by rw [HVU.out, HN.out, HT.out], by simp; omega, by have := HQ.out; omega, by have := HQP.out; omega⟩
        case measure => simp only [World.iterPos, ST3.out.it, hit]; omega
       ·have HN := hid (show valueP false acc (c :: t) = none by simp only [valueP, if_neg h92, if_neg h93, hbad]; rfl)
        cases b1 : ctlB c
        ·rw [b1] at CT hbad
         cases b2 : (c == 91)
         ·rw [b2] at e91 hbad
          cases b3 : (c == 47)
          ·rw [b3] at e47 hbad
           have b4 : (c == 61) = true := by simpa using hbad
           rw [b4] at e61
           clear h92 h93 hbad b1 b2 b3 b4
           go_wp2_with (first
            | (go_at_call 119; refine (FA.out q2 0 0 160 q2 _ ST2.out.rd).mono ?_; rintro e w5 ⟨rfl, h5, o5⟩)
            | (go_at_call 175; refine (CT.out _).mono ?_; rintro e w6 ⟨rfl, rfl⟩))
           refine bodyPost_ret (v := .tuple #[.string ⟨#[]⟩, .bool false]) (by simp [results, Tryz.results165, go_sem]) rfl ?_
           exact Or.inr ⟨by rw [HV.out]; exact HN.out, rfl, ⟨q2, 160, q2, by decide, h5⟩, ST2.out.only.trans o5⟩
          ·rw [b3] at e47
           clear h92 h93 hbad b1 b2 b3
           go_wp2_with (first
            | (go_at_call 119; refine (FA.out q2 0 0 160 q2 _ ST2.out.rd).mono ?_; rintro e w5 ⟨rfl, h5, o5⟩)
            | (go_at_call 175; refine (CT.out _).mono ?_; rintro e w6 ⟨rfl, rfl⟩))
           refine bodyPost_ret (v := .tuple #[.string ⟨#[]⟩, .bool false]) (by simp [results, Tryz.results165, go_sem]) rfl ?_
           exact Or.inr ⟨by rw [HV.out]; exact HN.out, rfl, ⟨q2, 160, q2, by decide, h5⟩, ST2.out.only.trans o5⟩
         ·rw [b2] at e91
          clear h92 h93 hbad b1 b2
          go_wp2_with (first
           | (go_at_call 119; refine (FA.out q2 0 0 160 q2 _ ST2.out.rd).mono ?_; rintro e w5 ⟨rfl, h5, o5⟩)
           | (go_at_call 175; refine (CT.out _).mono ?_; rintro e w6 ⟨rfl, rfl⟩))
          refine bodyPost_ret (v := .tuple #[.string ⟨#[]⟩, .bool false]) (by simp [results, Tryz.results165, go_sem]) rfl ?_
          exact Or.inr ⟨by rw [HV.out]; exact HN.out, rfl, ⟨q2, 160, q2, by decide, h5⟩, ST2.out.only.trans o5⟩
        ·rw [b1] at CT
         clear h92 h93 hbad b1
         go_wp2_with (first
          | (go_at_call 119; refine (FA.out q2 0 0 160 q2 _ ST2.out.rd).mono ?_; rintro e w5 ⟨rfl, h5, o5⟩)
          | (go_at_call 175; refine (CT.out _).mono ?_; rintro e w6 ⟨rfl, rfl⟩))
         refine bodyPost_ret (v := .tuple #[.string ⟨#[]⟩, .bool false]) (by simp [results, Tryz.results165, go_sem]) rfl ?_
         exact Or.inr ⟨by rw [HV.out]; exact HN.out, rfl, ⟨q2, 160, q2, by decide, h5⟩, ST2.out.only.trans o5⟩
   | more run t r h2 h4 hr hm hrun he =>
    have h128 : (128 : Int) ≤ (r : Int) := by omega
    have HT := hid (show u.data.toList.drop (pos + run.length) = t from by rw [HT0.out]; simp)
    cases esc with
    | true =>
     have HN := hid (show valueP true acc (run ++ t) = none from by
      match run, h2, hrun with
      | c :: rr, _, hrun =>
       have := (run_no (hrun c (List.mem_cons_self ..))).1
       simp [valueP, this])
     go_wp2_with (first
      | (go_at_call 119; refine (FA.out q2 0 0 160 q2 _ ST2.out.rd).mono ?_; rintro e w5 ⟨rfl, h5, o5⟩)
      | fail)
     refine bodyPost_ret (v := .tuple #[.string ⟨#[]⟩, .bool false]) (by simp [results, Tryz.results165, go_sem]) rfl ?_
     exact Or.inr ⟨by rw [HV.out]; exact HN.out, rfl, ⟨q2, 160, q2, by decide, h5⟩, ST2.out.only.trans o5⟩
    | false =>
     have HN := hid (valueP_run run acc t hrun)
     have CT := hid (fun W => (show Calls Tryz.prog 175 #[.int .i32 (r : Int)] W fun e w' => e = .returned (.bool false) ∧ w' = W from by
      have h := ctl_any (r : Int) W
      have e : (decide ((r : Int) < 32) || ((r : Int) == 127)) = false := by
       rw [Bool.or_eq_false_iff]; exact ⟨decide_eq_false (by omega), beq_eq_false_iff_ne.2 (by omega)⟩
      rw [e] at h; exact h))
     have e92 : ((r : Int) == 92) = false := beq_eq_false_iff_ne.2 (by omega)
     have e93 : ((r : Int) == 93) = false := beq_eq_false_iff_ne.2 (by omega)
     have e91 : ((r : Int) == 91) = false := beq_eq_false_iff_ne.2 (by omega)
     have e47 : ((r : Int) == 47) = false := beq_eq_false_iff_ne.2 (by omega)
     have e61 : ((r : Int) == 61) = false := beq_eq_false_iff_ne.2 (by omega)
     generalize hE : Utf8.encode (r : Int) = E at *
     have HE := hid he
     have HSE := hid (show E.size = run.length by rw [Lib.size_eq, he])
     clear he
     have ST2b := ST2.out.own
     obtain ⟨i0, hi, hz0, hz1, hz2⟩ := info_parts infoBy
     have HOB := hid (show acc.length + E.size ≤ maxLen by have := HKK.out; have := HSE.out; unfold maxLen; omega)
     have HOC := hid (show acc.length + E.size ≤ 140737488355328 by have := HKK.out; have := HSE.out; omega)
     have HI := hid hi
     have HZ0 := hid hz0
     have HZ1 := hid hz1
     have HZ2 := hid hz2
     have HST := hid ST2b
     clear hi hz0 hz1 hz2 ST2b
     go_wp2_with (first
      | (at_builtin; refine Lib.wpList_append_own_string _ rfl (.tmp 30) (.tmp 32) 196 9 rfl w.heap.size 5 i0 Tryz.underlying196 Tryz.underlying9 HI.out HZ0.out HZ1.out HZ2.out u5 acc.length (acc.map byteV) rfl HST.out E rfl HOB.out HOC.out HSZ.out ?_; intro v5 w5 own5 gr5 mv5)
      | (go_at_call 175; refine (CT.out _).mono ?_; rintro e w6 ⟨rfl, rfl⟩))
     have ST3 := hid (ST2.out.app (acc' := acc ++ run) (own_cast own5 (by rw [List.length_append, HSE.out]; try rfl) (by rw [List.map_append]; unfold Lib.strCells; rw [HE.out]; rfl)) gr5)
     clear own5 gr5 mv5
     go_roundw
     case rel => exact ⟨pos + run.length, false, acc ++ run, q2, rfl, ST3.out, by have := HPK.out; omega, HNX.out, by rw [HVU.out, HN.out, HT.out], by simp; omega, by have := HQ.out; omega, by have := HQP.out; omega⟩
     case measure => simp only [World.iterPos, ST3.out.it, hit]; omega
  ·have hnx : ∀ ty, (Instr.next (.pointer (some ⟨w.heap.size, 0, none⟩)) true ty).run Tryz.prog wr = _ := fun ty => Lib.run_next_end_at wr w.heap.size u pos ty hit hps
   have HN := hid (show valueP esc acc (u.data.toList.drop pos) = none from by
    rw [List.drop_eq_nil_of_le (by rw [← Lib.size_eq]; omega)]
    cases esc <;> rfl)
   obtain ⟨c0, c1, c2, c3, f1, f2, f3, lt⟩ := ST.out.rd.cells
   go_wp2_with (first
    | (go_at_call 119; refine (FA.out q 0 0 160 b.size _ ST.out.rd).mono ?_; rintro e w5 ⟨rfl, h5, o5⟩)
    | fail)
   refine bodyPost_ret (v := .tuple #[.string ⟨#[]⟩, .bool false]) (by simp [results, Tryz.results165, go_sem]) rfl ?_
   exact Or.inr ⟨by rw [HV.out]; exact HN.out, rfl, ⟨q, 160, b.size, by decide, h5⟩, ST.out.only.trans o5⟩
end Go.Proofs.YtjlfchnnhglbjaaGreat
namespace Go.Proofs.YtjlfchnnhglbjaaGreat
open Go.RowKit Go.Lib
def keysW (ks : List (Str × Str)) (s : Str) : Option (List (Str × Str) × Str) := keysP s.length ks s
theorem keysW_eq (ks : List (Str × Str)) (s : Str) : keysW ks s = match takeB 91 s with
  | none => some (ks, s)
  | some r => match keyP ks r with
   | none => none
   | some (p, r3) => keysW (ks ++ [p]) r3 := by
 unfold keysW
 cases s with
 | nil => rfl
 | cons c t =>
  simp only [List.length_cons, keysP]
  cases h1 : takeB 91 (c :: t) with
  | none => rfl
  | some r =>
   simp only
   have e1 := takeB_len h1
   cases e1
   cases h3 : keyP ks t with
   | none => rfl
   | some q =>
    obtain ⟨p, r3⟩ := q
    have e2 := (keyP_len h3).1
    exact keysP_more _ _ _ _ (by omega) (Nat.le_refl _)
theorem stepP_none {s : Str} (h : nameP s = none) : stepP s = none := by unfold stepP; rw [h]
theorem stepP_eq {s n r : Str} (h : nameP s = some (n, r)) : stepP s = (keysW [] r).map fun q => ((n, q.1), q.2) := by
 unfold stepP keysW
 rw [h]
 simp only
 cases keysP r.length [] r with
 | none => rfl
 | some q => obtain ⟨a, b⟩ := q; rfl
theorem utfB_low {c : UInt8} {t : Str} (h : c.toNat < 128) (hu : utfB (c :: t) = true) : utfB t = true := by
 have hd : decodeL (c :: t) = (c.toNat, 1) := by
  rw [decodeL_N]; unfold decodeN
  rw [show ((c :: t).getD 0 0).toNat = c.toNat from rfl, if_pos h]
 have := (utfB_sound (List.cons_ne_nil c t) hu).2
 rw [hd] at this
 exact this
theorem utfB_lows : ∀ (n t : Str), (∀ c ∈ n, c.toNat < 128) → utfB (n ++ t) = true → utfB t = true
 | [], t, _, h => h
 | c :: r, t, hn, h => utfB_lows r t (fun d hd => hn d (List.mem_cons_of_mem _ hd)) (utfB_low (hn c (List.mem_cons_self ..)) h)
theorem nameB_low (c : UInt8) (h : nameB c = true) : c.toNat < 128 := by
 revert c; apply forall_byte; decide +kernel
theorem utfB_name {s n r : Str} (h : nameP s = some (n, r)) (hu : utfB s = true) : utfB r = true := by
 have he := (nameP_split h).1
 rw [he] at hu
 refine utfB_lows n r (fun c hc => ?_) hu
 unfold nameP at h
 split at h
 ·cases h
  exact nameB_low c (List.all_eq_true.1 (List.all_takeWhile) c hc)
 ·cases h
theorem utfB_take {c : UInt8} {s r : Str} (hc : c.toNat < 128) (h : takeB c s = some r) (hu : utfB s = true) : utfB r = true := by
 rw [takeB_len h] at hu; exact utfB_low hc hu
def P2 (W : World) (B : Nat) (a0 a1 : Value) : World := (W.setCell ⟨B, 0, none⟩ a0).setCell ⟨B, 1, none⟩ a1
theorem P2_row {W : World} {B : Nat} {z0 z1 : Value} (a0 a1 : Value) (h : W.heap[B]? = some (.cells #[z0, z1] 104 (0, 0))) : (P2 W B a0 a1).heap[B]? = some (.cells #[a0, a1] 104 (0, 0)) := by
 unfold P2
 rw [heap_setCell_same _ _ _ _ _ _ (heap_setCell_same _ _ _ _ _ _ h)]; simp
theorem P2_other {W : World} {B b : Nat} (a0 a1 : Value) (h : b ≠ B) : (P2 W B a0 a1).heap[b]? = W.heap[b]? := by
 unfold P2
 rw [heap_setCell_other _ _ _ _ (by simp; exact fun e => absurd e h), heap_setCell_other _ _ _ _ (by simp; exact fun e => absurd e h)]
theorem P2_size {W : World} {B : Nat} (a0 a1 : Value) : (P2 W B a0 a1).heap.size = W.heap.size := by simp [P2]
theorem box2_cells {W : World} {B : Nat} {a0 a1 : Value} {ty : TypeId} (h : W.heap[B]? = some (.cells #[a0, a1] ty (0, 0))) :
  W.cell? ⟨B, 0, none⟩ = some a0 ∧ W.cell? ⟨B, 1, none⟩ = some a1 ∧ W.frozen? ⟨B, 0, none⟩ = false ∧ W.frozen? ⟨B, 1, none⟩ = false ∧ B < W.heap.size := by
 refine ⟨?_, ?_, frozen_of_row _ _ _ _ _ h, frozen_of_row _ _ _ _ _ h, lt_of_block h⟩
 all_goals rw [cell_of_row _ _ _ _ _ _ h]; rfl
theorem step_ret {W : World} {Rb : Nat} {a0 a1 z0 z1 : Value} {ok : Bool} (h : W.heap[Rb]? = some (.cells #[z0, z1] 104 (0, 0))) {Q : Ending → World → Prop} {a : Act} (hd : a.defers = [])
  (h2 : a.tmps.getD 2 undef = .pointer (some ⟨Rb, 0, none⟩)) (h3 : a.tmps.getD 3 undef = .bool ok) (hQ : Q (.returned (.tuple #[.agg #[a0, a1], .bool ok])) (P2 W Rb a0 a1)) :
  bodyPost Tryz.prog Tryz.f120 Q Exit.ret a (P2 W Rb a0 a1) := by
 have hr := P2_row a0 a1 h
 generalize P2 W Rb a0 a1 = V at *
 obtain ⟨e0, e1, _, _, _⟩ := box2_cells hr
 refine bodyPost_ret (v := .tuple #[.agg #[a0, a1], .bool ok]) ?_ hd hQ
 obtain ⟨tmps, defers⟩ := a
 simp only [Array.getD_eq_getD_getElem?] at h2 h3
 simp [results, Tryz.results120, go_sem, h2, h3, e0, e1]
structure SSt (w : World) (Br Sb : Nat) (n : Str) (W : World) (kv : Value) (ks : List (Str × Str)) : Prop where
 rb : W.heap[w.heap.size]? = some (.cells #[.string ⟨#[]⟩, .slice none 0 0] 104 (0, 0))
 sb : W.heap[Sb]? = some (.cells #[.string ⟨n.toArray⟩, kv] 104 (0, 0))
 own : OwnP W (w.heap.size + 1) kv ks
 only : Only Br w W
 lt : w.heap.size < Sb
 br : Br < w.heap.size
section
variable {w W W' : World} {Br Sb : Nat} {n : Str} {kv : Value} {ks : List (Str × Str)}
theorem SSt.step (h : SSt w Br Sb n W kv ks) (o : Only Br W W') : SSt w Br Sb n W' kv ks := by
 have hlt := h.lt
 have hbr := h.br
 refine ⟨(o.block _ (lt_of_block h.rb) (by simp; omega)).trans h.rb, (o.block _ (lt_of_block h.sb) (by simp; omega)).trans h.sb, World.ownsRow.kept h.own o (Or.inr (fun e => ?_)), h.only.trans o, h.lt, h.br⟩
 have := (World.ownsRow.lt h.own _ e).1
 omega
theorem SSt.below (h : SSt w Br Sb n W kv ks) (hb : Below W.heap.size W W') : SSt w Br Sb n W' kv ks :=
 ⟨(hb.block _ (lt_of_block h.rb)).trans h.rb, (hb.block _ (lt_of_block h.sb)).trans h.sb, own_below h.own hb, h.only.below hb, h.lt, h.br⟩
theorem SSt.set (h : SSt w Br Sb n W kv ks) {k : Nat} (hk : Sb < k) (hne : kv.ownBlock ≠ some k) (i : Nat) (x : Value) : SSt w Br Sb n (W.setCell ⟨k, i, none⟩ x) kv ks := by
 have hlt := h.lt
 have hbr := h.br
 have o := h.only
 refine ⟨(heap_setCell_other _ _ _ _ (by simp; omega)).trans h.rb, (heap_setCell_other _ _ _ _ (by simp; omega)).trans h.sb, own_set h.own hne _ _, ?_, h.lt, h.br⟩
 exact ⟨o.os, o.tape, o.output, by simpa using o.size, fun j hj hn => (heap_setCell_other _ _ _ _ (by simp; omega)).trans (o.block j hj hn)⟩
theorem SSt.keys (h : SSt w Br Sb n W kv ks) {kv' : Value} {ks' : List (Str × Str)} (o : OwnP W' (w.heap.size + 1) kv' ks') (gr : W.grownBy W' kv.ownBlock) : SSt w Br Sb n (W'.setCell ⟨Sb, 1, none⟩ kv') kv' ks' := by
 have hlt := h.lt
 have n1 : kv.ownBlock ≠ some w.heap.size := own_type h.own h.rb (by decide)
 have n2 : kv.ownBlock ≠ some Sb := own_type h.own h.sb (by decide)
 have rb' := (gr.block _ (lt_of_block h.rb) (Ne.symm n1)).trans h.rb
 have sb' := (gr.block _ (lt_of_block h.sb) (Ne.symm n2)).trans h.sb
 have n3 : kv'.ownBlock ≠ some Sb := own_type o sb' (by decide)
 have oo := h.only
 refine ⟨(heap_setCell_other _ _ _ _ (by simp; omega)).trans rb', by rw [heap_setCell_same _ _ _ _ _ _ sb']; simp, own_set o n3 _ _, ?_, h.lt, h.br⟩
 refine ⟨gr.os.trans oo.os, gr.tape.trans oo.tape, gr.output.trans oo.output, by simpa using Nat.le_trans oo.size gr.size, fun j hj hne => ?_⟩
 rw [heap_setCell_other _ _ _ _ (by simp; omega)]
 refine (gr.block j (Nat.lt_of_lt_of_le hj oo.size) (fun e => ?_)).trans (oo.block j hj hne)
 have := (World.ownsRow.lt h.own j e.symm).1
 omega
theorem SSt.ret (h : SSt w Br Sb n W kv ks) (a0 a1 : Value) : Only Br w (P2 W w.heap.size a0 a1) := by
 have o := h.only
 exact ⟨o.os, o.tape, o.output, by rw [P2_size]; exact o.size, fun j hj hne => (P2_other a0 a1 (by omega)).trans (o.block j hj hne)⟩
theorem SSt.own2 (h : SSt w Br Sb n W kv ks) (a0 a1 : Value) : OwnP (P2 W w.heap.size a0 a1) w.heap.size kv ks := by
 have n1 : kv.ownBlock ≠ some w.heap.size := own_type h.own h.rb (by decide)
 have := own_set (own_set h.own n1 0 a0) n1 1 a1
 unfold OwnP World.ownsRow at *
 refine ⟨this.1, ?_⟩
 rcases this.2 with h | ⟨g, cap, cur, h1, h2, h3⟩
 ·exact Or.inl h
 ·exact Or.inr ⟨g, cap, cur, h1, by omega, h3⟩
theorem SSt.rd2 (h : SSt w Br Sb n W kv ks) {b : ByteArray} {q e : Nat} {a : Int} (hr : PRd W Br b q e a) (a0 a1 : Value) : PRd (P2 W w.heap.size a0 a1) Br b q e a := by
 have := h.br
 unfold PRd at *
 rw [P2_other a0 a1 (by omega)]; exact hr
end
def StepRes (Br : Nat) (b : ByteArray) (p : Nat) (w : World) (x : Ending) (w' : World) : Prop :=
 (∃ st r q kv, stepP (b.data.toList.drop p) = some (st, r) ∧ x = .returned (.tuple #[.agg #[.string ⟨st.1.toArray⟩, kv], .bool true]) ∧ OwnP w' w.heap.size kv st.2 ∧ PRd w' Br b q 0 0 ∧ q ≤ b.size ∧ p < q ∧ r = b.data.toList.drop q ∧ utfB r = true ∧ Only Br w w') ∨
 (stepP (b.data.toList.drop p) = none ∧ (∃ (n : Str) (a : Option Addr) (l c : Nat), x = .returned (.tuple #[.agg #[.string ⟨n.toArray⟩, .slice a l c], .bool false])) ∧ (∃ q e a, e ≠ 0 ∧ PRd w' Br b q e a) ∧ Only Br w w')
end Go.Proofs.YtjlfchnnhglbjaaGreat
namespace Go.Proofs.YtjlfchnnhglbjaaGreat
open Go.RowKit Go.Lib
theorem pname_one (Br : Nat) (b : ByteArray) (p : Nat) (w : World) (h : PRd w Br b p 0 0) (hp : p ≤ b.size) (hb : b.size ≤ 1000) :
  Calls Tryz.prog 164 #[.pointer (some ⟨Br, 0, none⟩)] w fun x w' => ∃ (n : Str) (ok : Bool), x = .returned (.tuple #[.string ⟨n.toArray⟩, .bool ok]) ∧ Only Br w w' ∧
   ((ok = true ∧ ∃ q, nameP (b.data.toList.drop p) = some (n, b.data.toList.drop q) ∧ PRd w' Br b q 0 0 ∧ q ≤ b.size ∧ p ≤ q) ∨ (ok = false ∧ nameP (b.data.toList.drop p) = none ∧ ∃ q e a, e ≠ 0 ∧ PRd w' Br b q e a)) := by
 refine (pname_any Br b p w h hp hb).mono fun x w' hr => ?_
 rcases hr with ⟨n, r, q, h1, h2, h3, h4, h5, h6, h7⟩ | ⟨h1, h2, h3, h4⟩
 ·exact ⟨n, true, h2, h7, Or.inl ⟨rfl, q, by rw [h1, h6], h3, h4, h5⟩⟩
 ·exact ⟨[], false, h2, h4, Or.inr ⟨rfl, h1, h3⟩⟩
theorem name_q {b : ByteArray} {p q : Nat} {n : Str} (h : nameP (b.data.toList.drop p) = some (n, b.data.toList.drop q)) (hq : q ≤ b.size) (hp : p ≤ b.size) : p < q := by
 obtain ⟨e, h0, _⟩ := nameP_split h
 have := congrArg List.length e
 rw [List.length_append, List.length_drop, List.length_drop, ← Lib.size_eq] at this
 omega
theorem pnext_two (c : UInt8) (Br : Nat) (b : ByteArray) (p : Nat) (w : World) (h : PRd w Br b p 0 0) (hp : p ≤ b.size) (hb : b.size ≤ 1000) :
  Calls Tryz.prog 121 #[.pointer (some ⟨Br, 0, none⟩), .int .u8 (c.toNat : Int)] w fun x w' => Only Br w w' ∧
   ∃ ok : Bool, x = .returned (.bool ok) ∧ ((ok = false ∧ takeB c (b.data.toList.drop p) = none ∧ PRd w' Br b p 0 0) ∨ (ok = true ∧ takeB c (b.data.toList.drop p) = some (b.data.toList.drop (p + 1)) ∧ p < b.size ∧ PRd w' Br b (p + 1) 0 0)) := by
 refine (pnext_any Br b p 0 0 c w h hp hb).mono fun x w' hr => ?_
 obtain ⟨h1, h2, h3⟩ := hr
 refine ⟨h3, _, h1, ?_⟩
 cases htb : takeB c (b.data.toList.drop p) with
 | none => rw [htb] at h2; exact Or.inl ⟨rfl, rfl, h2⟩
 | some r =>
  rw [htb] at h2
  have hlt : p < b.size := by
   rcases Nat.lt_or_ge p b.size with h | h
   ·exact h
   ·rw [takeB_end b p c (by omega)] at htb; cases htb
  refine Or.inr ⟨rfl, ?_, hlt, h2⟩
  rw [takeB_at b p c hlt] at htb
  split at htb
  ·exact htb.symm
  ·cases htb
theorem pvalue_one (Br : Nat) (b : ByteArray) (p : Nat) (w : World) (h : PRd w Br b p 0 0) (hp : p ≤ b.size) (hb : b.size ≤ 1000) (hu : utfB (b.data.toList.drop p) = true) :
  Calls Tryz.prog 165 #[.pointer (some ⟨Br, 0, none⟩)] w fun x w' => ∃ (v : Str) (ok : Bool), x = .returned (.tuple #[.string ⟨v.toArray⟩, .bool ok]) ∧ Only Br w w' ∧
   ((ok = true ∧ ∃ q, valueP false [] (b.data.toList.drop p) = some (v, b.data.toList.drop q) ∧ PRd w' Br b q 0 0 ∧ q ≤ b.size ∧ p ≤ q ∧ utfB (b.data.toList.drop q) = true) ∨ (ok = false ∧ valueP false [] (b.data.toList.drop p) = none ∧ ∃ q e a, e ≠ 0 ∧ PRd w' Br b q e a)) := by
 refine (pvalue_any Br b p w h hp hb hu).mono fun x w' hr => ?_
 rcases hr with ⟨n, r, q, h1, h2, h3, h4, h5, h6, h7, h8⟩ | ⟨h1, h2, h3, h4⟩
 ·exact ⟨n, true, h2, h8, Or.inl ⟨rfl, q, by rw [h1, h6], h3, h4, h5, by rw [← h6]; exact h7⟩⟩
 ·exact ⟨[], false, h2, h4, Or.inr ⟨rfl, h1, h3⟩⟩
def KeySt (w : World) (Br Sb : Nat) (b : ByteArray) (p : Nat) (n : Str) (g : Nat) (v5 : Value) (W : World) : Prop :=
  ∃ (ok : Bool) (kv : Value) (ks : List (Str × Str)), v5 = .bool ok ∧ SSt w Br Sb n W kv ks ∧
    ((ok = true ∧ ∃ q, PRd W Br b q 0 0 ∧ p < q ∧ q ≤ b.size ∧ utfB (b.data.toList.drop q) = true ∧ stepP (b.data.toList.drop p) = (keysW ks (b.data.toList.drop q)).map (fun z => ((n, z.1), z.2)) ∧ ks.length ≤ q ∧ b.size + 2 ≤ q + g) ∨
     (ok = false ∧ stepP (b.data.toList.drop p) = none ∧ ∃ q e a, e ≠ 0 ∧ PRd W Br b q e a))
theorem wp_sameS {P : Program} {c d : Code} {Q : Exit → Act → World → Prop} {a : Act} {w : World} (h : c.wp P Q a w) (e : some (Code.seq .skip c) = some (Code.seq .skip d)) : d.wp P Q a w := by
 injection e with e
 injection e with _ e
 exact e ▸ h
theorem wp_skip_seqS {P : Program} {c : Code} {Q : Exit → Act → World → Prop} {a : Act} {w : World} (h : c.wp P Q a w) : (Code.seq .skip c).wp P Q a w := by
 go_wp2_with fail
 exact h
theorem list_litS (n : Nat) (l : List Value) (h : l.length = n) : l = (List.range n).map fun i => l.getD i undef := by
 apply List.ext_getElem?
 intro i
 by_cases hi : i < n
 ·simp [hi, h]
 ·rw [List.getElem?_eq_none (by omega), List.getElem?_eq_none (by simp; omega)]
set_option maxRecDepth 100000 in
theorem frame_litS (t : Array Value) (h : t.size = 83) : ∃ u : Nat → Value, (∀ i, t.getD i undef = u i) ∧ t = #[u 0, u 1, u 2, u 3, u 4, u 5, u 6, u 7, u 8, u 9, u 10, u 11, u 12, u 13, u 14, u 15, u 16, u 17, u 18, u 19, u 20, u 21, u 22, u 23, u 24, u 25, u 26, u 27, u 28, u 29, u 30, u 31, u 32, u 33, u 34, u 35, u 36, u 37, u 38, u 39, u 40, u 41, u 42, u 43, u 44, u 45, u 46, u 47, u 48, u 49, u 50, u 51, u 52, u 53, u 54, u 55, u 56, u 57, u 58, u 59, u 60, u 61, u 62, u 63, u 64, u 65, u 66, u 67, u 68, u 69, u 70, u 71, u 72, u 73, u 74, u 75, u 76, u 77, u 78, u 79, u 80, u 81, u 82] := by
 refine ⟨fun i => t.getD i undef, fun _ => rfl, ?_⟩
 have e := list_litS 83 t.toList (by simpa using h)
 have e2 : t = ⟨(List.range 83).map fun i => t.toList.getD i undef⟩ := by
  rw [← e]
 have e3 : ∀ i, t.toList.getD i undef = t.getD i undef := fun i => by simp [Array.getD_eq_getD_getElem?]
 simp only [e3] at e2
 exact e2
structure FrS (Br Rb Sb : Nat) (v5 : Value) (a : Act) : Prop where
 d : a.defers = []
 n : a.tmps.size = 83
 s0 : a.tmps.getD 0 undef = .pointer (some ⟨Br, 0, none⟩)
 s2 : a.tmps.getD 2 undef = .pointer (some ⟨Rb, 0, none⟩)
 s5 : a.tmps.getD 5 undef = v5
 s6 : a.tmps.getD 6 undef = .pointer (some ⟨Sb, 0, none⟩)
theorem FrS.lit {Br Rb Sb : Nat} {v5 : Value} {a : Act} (h : FrS Br Rb Sb v5 a) : ∃ u : Nat → Value, a = { tmps := #[.pointer (some ⟨Br, 0, none⟩), u 1, .pointer (some ⟨Rb, 0, none⟩), u 3, u 4, v5, .pointer (some ⟨Sb, 0, none⟩), u 7, u 8, u 9, u 10, u 11, u 12, u 13, u 14, u 15, u 16, u 17, u 18, u 19, u 20, u 21, u 22, u 23, u 24, u 25, u 26, u 27, u 28, u 29, u 30, u 31, u 32, u 33, u 34, u 35, u 36, u 37, u 38, u 39, u 40, u 41, u 42, u 43, u 44, u 45, u 46, u 47, u 48, u 49, u 50, u 51, u 52, u 53, u 54, u 55, u 56, u 57, u 58, u 59, u 60, u 61, u 62, u 63, u 64, u 65, u 66, u 67, u 68, u 69, u 70, u 71, u 72, u 73, u 74, u 75, u 76, u 77, u 78, u 79, u 80, u 81, u 82], defers := [] } := by
 obtain ⟨t, d⟩ := a
 obtain ⟨hd, hn, h0, h2, h5, h6⟩ := h
 simp only at hd hn h0 h2 h5 h6
 obtain ⟨u, hu, e⟩ := frame_litS t hn
 rw [hu] at h0 h2 h5 h6
 refine ⟨u, ?_⟩
 rw [h0, h2, h5, h6] at e
 rw [e, hd]
def JS (w : World) (Br : Nat) (b : ByteArray) (p : Nat) : Nat → Nat → Act → World → Prop
 | 0, n, a, W => ∃ Sb nm v5, FrS Br w.heap.size Sb v5 a ∧ KeySt w Br Sb b p nm n v5 W
 | _, _, _, _ => False
def bodyOfS (f : Func) (l : Nat) : Option Code := f.body.bind fun c => match c with | .seq _ (.scope c) => findLabel c l | _ => none
theorem last_cells {W : World} {B g c : Nat} {ks : List (Str × Str)} (h : OwnP W B (.slice (some ⟨g, 0, none⟩) ks.length c) ks) (hne : ks ≠ []) : ∃ k0, (∀ k, lastGE ks k = decide (k ≤ k0)) ∧ W.cell? ⟨g, (ks.length - 1) * 2, none⟩ = some (.string ⟨k0.toArray⟩) := by
 have hl : 0 < ks.length := List.length_pos_iff.2 hne
 refine ⟨(ks[ks.length - 1]'(by omega)).1, fun k => ?_, ?_⟩
 ·unfold lastGE
  rw [List.getLast?_eq_getElem?, List.getElem?_eq_getElem (by omega)]
 ·rcases h.shape with ⟨e, _⟩ | ⟨g', cap, cur, e, hB, hg, hn, hm, hs, ht⟩
  ·cases e
  ·cases e
   have := flat2_get ks (ks.length - 1) 0 (by omega) (by decide)
   rw [Nat.add_zero] at this
   exact cells_at hg ht _ _ (by rw [this]; rfl)
set_option maxRecDepth 100000 in
set_option maxHeartbeats 16000000 in
theorem step_run (w : World) (Br : Nat) (b : ByteArray) (p : Nat) (hp : p ≤ b.size) (hb : b.size ≤ 512) : ∃ rest, bodyOfS Tryz.f120 0 = some (.seq .skip rest) ∧ ∀ n a W, JS w Br b p 0 n a W → ∀ Jx : Nat → Act → World → Prop, (∀ n' a' w', n' < n → JS w Br b p 0 n' a' w' → Jx 0 a' w') →
  rest.wp Tryz.prog (Exit.jumps Jx (bodyPost Tryz.prog Tryz.f120 (fun x w' => StepRes Br b p w x w'))) a W := by
 refine ⟨_, rfl, ?_⟩
 intro g a W hJ Jx hJx
 obtain ⟨Sb, n, v5, hfr, ok, kv, ks, rfl, st, hst⟩ := hJ
 obtain ⟨u, rfl⟩ := hfr.lit
 have HX := hid hJx
 have ST := hid st
 have HK := hid hst
 have NM := hid (fun q W (h : PRd W Br b q 0 0) (hq : q ≤ b.size) => pname_one Br b q W h hq (by omega))
 have NX1 := hid (fun q W (h : PRd W Br b q 0 0) (hq : q ≤ b.size) => (show Calls Tryz.prog 121 #[.pointer (some ⟨Br, 0, none⟩), .int .u8 91] W _ from pnext_two 91 Br b q W h hq (by omega)))
 have NX2 := hid (fun q W (h : PRd W Br b q 0 0) (hq : q ≤ b.size) => (show Calls Tryz.prog 121 #[.pointer (some ⟨Br, 0, none⟩), .int .u8 61] W _ from pnext_two 61 Br b q W h hq (by omega)))
 have VL := hid (fun q W (h : PRd W Br b q 0 0) (hq : q ≤ b.size) (hu : utfB (b.data.toList.drop q) = true) => pvalue_one Br b q W h hq (by omega) hu)
 have FA := hid (fun q er ea e a W (h : PRd W Br b q er ea) => pfail_any Br b q er ea e a W h)
 clear hfr hJx st hst
 obtain ⟨ak, ck, rfl⟩ := own_sliceP ST.out.own
 obtain ⟨s0, s1, sf0, sf1, slt⟩ := box2_cells ST.out.sb
 obtain ⟨r0, r1, rf0, rf1, rlt⟩ := box2_cells ST.out.rb
 cases ok with
 | false =>
  obtain ⟨hno, q, er, ea, hne, hrd⟩ : stepP (b.data.toList.drop p) = none ∧ ∃ q e a, e ≠ 0 ∧ PRd W Br b q e a := by
   rcases HK.out with ⟨h, _⟩ | ⟨_, h⟩
   ·cases h
   ·exact h
  have HNO := hid hno
  have HRD := hid hrd
  have HNE := hid hne
  clear hno hrd hne HK
  go_wp2_with fail
  simp only [Exit.jumps]
  change bodyPost _ _ _ _ _ (P2 W w.heap.size (.string ⟨n.toArray⟩) (.slice ak ks.length ck))
  exact step_ret ST.out.rb rfl rfl rfl (Or.inr ⟨HNO.out, ⟨_, _, _, _, rfl⟩, ⟨q, er, ea, HNE.out, ST.out.rd2 HRD.out _ _⟩, ST.out.ret _ _⟩)
 | true =>
  obtain ⟨q, hrd, hpq, hqb, huq, hke, hks, hg⟩ : ∃ q, PRd W Br b q 0 0 ∧ p < q ∧ q ≤ b.size ∧ utfB (b.data.toList.drop q) = true ∧ stepP (b.data.toList.drop p) = (keysW ks (b.data.toList.drop q)).map (fun z => ((n, z.1), z.2)) ∧ ks.length ≤ q ∧ b.size + 2 ≤ q + g := by
   rcases HK.out with ⟨_, h⟩ | ⟨h, _⟩
   ·exact h
   ·cases h
  have HRD := hid hrd
  have HUQ := hid huq
  have HKE := hid hke
  have HKS := hid hks
  have HG := hid hg
  have HPQ := hid hpq
  have HQB := hid hqb
  clear hrd huq hke hks hg HK hpq hqb
  go_wp2_with fail
  refine (NX1.out q W HRD.out HQB.out).mono ?_
  rintro e W2 ⟨o2, okx, rfl, hx⟩
  have ST2 := hid (ST.out.step o2)
  clear s0 s1 sf0 sf1 slt r0 r1 rf0 rf1 rlt o2 ST HRD
  obtain ⟨s0, s1, sf0, sf1, slt⟩ := box2_cells ST2.out.sb
  obtain ⟨r0, r1, rf0, rf1, rlt⟩ := box2_cells ST2.out.rb
  cases okx with
  | false =>
   obtain ⟨htb, hrd⟩ : takeB 91 (b.data.toList.drop q) = none ∧ PRd W2 Br b q 0 0 := by
    rcases hx with ⟨_, h1, h2⟩ | ⟨h, _⟩
    ·exact ⟨h1, h2⟩
    ·cases h
   have HE := hid (show stepP (b.data.toList.drop p) = some ((n, ks), b.data.toList.drop q) by rw [HKE.out, keysW_eq, htb]; rfl)
   have HRD := hid hrd
   clear hx htb hrd
   go_wp2_with fail
   simp only [Exit.jumps]
   change bodyPost _ _ _ _ _ (P2 W2 w.heap.size (.string ⟨n.toArray⟩) (.slice ak ks.length ck))
   exact step_ret ST2.out.rb rfl rfl rfl (Or.inl ⟨(n, ks), _, q, _, HE.out, rfl, ST2.out.own2 _ _, ST2.out.rd2 HRD.out _ _, HQB.out, HPQ.out, rfl, HUQ.out, ST2.out.ret _ _⟩)
  | true =>
   obtain ⟨htb, hql, hrd⟩ : takeB 91 (b.data.toList.drop q) = some (b.data.toList.drop (q + 1)) ∧ q < b.size ∧ PRd W2 Br b (q + 1) 0 0 := by
    rcases hx with ⟨h, _⟩ | ⟨_, h1, h2, h3⟩
    ·cases h
    ·exact ⟨h1, h2, h3⟩
   have HU1 := hid (utfB_take (by decide) htb HUQ.out)
   have HE1 := hid (show keysW ks (b.data.toList.drop q) = match keyP ks (b.data.toList.drop (q + 1)) with
    | none => none
    | some (p, r3) => keysW (ks ++ [p]) r3 by rw [keysW_eq, htb] <;> rfl)
   have HRD := hid hrd
   have HQL := hid hql
   clear hx htb hrd hql
   obtain ⟨c0, c1, c2, c3, f1, f2, f3, lt⟩ := HRD.out.cells
   have FK := hid (heap_alloc_new W2 (.cells #[.string ⟨#[]⟩, .string ⟨#[]⟩] 48))
   have hb3 : Below W2.heap.size W2 (W2.alloc (.cells #[.string ⟨#[]⟩, .string ⟨#[]⟩] 48)) := (Below.refl _ _).alloc (Nat.le_refl _) _
   have ST3 := hid (ST2.out.below hb3)
   have HR3 := hid (HRD.out.below hb3)
   have HNK := hid (show (Value.slice ak ks.length ck).ownBlock ≠ some W2.heap.size from fun e => by have := (World.ownsRow.lt ST2.out.own _ e).2; omega)
   have HSK := hid (show Sb < W2.heap.size from slt)
   clear hb3
   go_upto_region 7 with fail
   generalize W2.alloc (.cells #[.string ⟨#[]⟩, .string ⟨#[]⟩] 48) = W3 at *
   clear s0 s1 sf0 sf1 slt r0 r1 rf0 rf1 rlt c0 c1 c2 c3 f1 f2 f3 lt ST2 HRD
   generalize W2.heap.size = kb at *
   go_wp2_with fail
   refine (NM.out (q + 1) W3 HR3.out HQL.out).mono ?_
   rintro e W4 ⟨k, okn, rfl, o4, hr4⟩
   have ST4 := hid (ST3.out.step o4)
   have FK4 := hid ((o4.block kb (lt_of_block FK.out) (by have := ST3.out.br; have := ST3.out.lt; have := HSK.out; simp; omega)).trans FK.out)
   have HR4 := hid hr4
   clear o4 hr4 ST3 HR3 FK
   obtain ⟨k0, k1, kf0, kf1, klt⟩ := box2_cells FK4.out
   have ST5 := hid (ST4.out.set HSK.out HNK.out 0 (.string ⟨k.toArray⟩))
   have FK5 := hid (show (W4.setCell ⟨kb, 0, none⟩ (.string ⟨k.toArray⟩)).heap[kb]? = some (.cells #[.string ⟨k.toArray⟩, .string ⟨#[]⟩] 48 (0, 0)) from by rw [heap_setCell_same _ _ _ _ _ _ FK4.out]; simp)
   have HRP := hid (fun q e a (h : PRd W4 Br b q e a) => (show PRd (W4.setCell ⟨kb, 0, none⟩ (.string ⟨k.toArray⟩)) Br b q e a from (heap_setCell_other _ _ _ _ (by have := ST4.out.br; have := ST4.out.lt; have := HSK.out; simp; omega)).trans h))
   go_upto_region 8 with fail
   generalize W4.setCell ⟨kb, 0, none⟩ (.string ⟨k.toArray⟩) = W5 at *
   clear k0 k1 kf0 kf1 klt FK4
   obtain ⟨s0, s1, sf0, sf1, slt⟩ := box2_cells ST5.out.sb
   obtain ⟨r0, r1, rf0, rf1, rlt⟩ := box2_cells ST5.out.rb
   cases okn with
   | false =>
    obtain ⟨hnn, q2, er, ea, hne, hrd⟩ : nameP (b.data.toList.drop (q + 1)) = none ∧ ∃ q e a, e ≠ 0 ∧ PRd W4 Br b q e a := by
     rcases HR4.out with ⟨h, _⟩ | ⟨_, h⟩
     ·cases h
     ·exact h
    have HNO := hid (show stepP (b.data.toList.drop p) = none by rw [HKE.out, HE1.out]; unfold keyP; rw [hnn]; rfl)
    have HRD := hid (HRP.out _ _ _ hrd)
    have HNE := hid hne
    clear hnn hrd hne HR4
    go_wp2_with fail
    simp only [Exit.jumps]
    change bodyPost _ _ _ _ _ (P2 W5 w.heap.size (.string ⟨n.toArray⟩) (.slice ak ks.length ck))
    exact step_ret ST5.out.rb rfl rfl rfl (Or.inr ⟨HNO.out, ⟨_, _, _, _, rfl⟩, ⟨q2, er, ea, HNE.out, ST5.out.rd2 HRD.out _ _⟩, ST5.out.ret _ _⟩)
   | true =>
    obtain ⟨q2, hnn, hrd, hq2, hqq⟩ : ∃ q2, nameP (b.data.toList.drop (q + 1)) = some (k, b.data.toList.drop q2) ∧ PRd W4 Br b q2 0 0 ∧ q2 ≤ b.size ∧ q + 1 ≤ q2 := by
     rcases HR4.out with ⟨_, h⟩ | ⟨h, _⟩
     ·exact h
     ·cases h
    have HRD := hid (HRP.out _ _ _ hrd)
    have HU2 := hid (utfB_name hnn HU1.out)
    have HKP := hid (show keyP ks (b.data.toList.drop (q + 1)) = if lastGE ks k then none else
      match takeB 61 (b.data.toList.drop q2) with
      | none => none
      | some r2 =>
       match valueP false [] r2 with
       | none => none
       | some (v, r3) => some ((k, v), r3) by unfold keyP; rw [hnn]; rfl)
    have HQ2 := hid hq2
    have HQQ := hid hqq
    clear hnn hrd hq2 hqq HR4 HRP HU1
    obtain ⟨k0, k1, kf0, kf1, klt⟩ := box2_cells FK5.out
    have hkl : (ks.length : Int) ≤ 600 := by have := HKS.out; have := HQB.out; omega
    go_upto_region 11 with fail
    go_cut [55] from 42 to 55 (fun o wx => o = .bool (lastGE ks k) ∧ ∃ m, wx = W5.drewN m)
    case first =>
     by_cases hnil : ks = []
     ·subst hnil
      go_quiet (fail)
      go_wp2_with fail
      go_meet
      exact ⟨rfl, nq, rfl⟩
     ·obtain ⟨g1, rfl⟩ : ∃ g1, ak = some ⟨g1, 0, none⟩ := by
       rcases ST5.out.own.shape with ⟨_, e⟩ | ⟨g, cap, cur, e, _⟩
       ·exact absurd e hnil
       ·cases e; exact ⟨g, rfl⟩
      obtain ⟨kl, hkl2, hkc⟩ := last_cells ST5.out.own hnil
      have hpos : 0 < ks.length := List.length_pos_iff.2 hnil
      have HKL := hid (hkl2 k)
      have HBL := hid (Proofs.bytesLess_eq kl k)
      clear hkl2
      generalize hln : ks.length = L at *
      obtain ⟨m, rfl⟩ : ∃ m, L = m + 1 := ⟨L - 1, by omega⟩
      rw [Nat.add_sub_cancel] at hkc
      have hm1 : ((m : Int) + 1 - 1) = (m : Int) := by omega
      have hm2 : (m : Int) < (m : Int) + 1 := by omega
      have hm3 : (0 : Int) ≤ (m : Int) := by omega
      have hm4 : (m : Int) ≤ 1000 := by omega
      by_cases hlt : kl < k
      ·have hbl : Op.bytesLess kl k = true := by rw [HBL.out]; exact decide_eq_true hlt
       go_quiet (fail)
       go_wp2_with fail
       go_meet
       exact ⟨by rw [HKL.out, decide_eq_false (List.not_le.2 hlt)], nq, rfl⟩
      ·have hbl : Op.bytesLess kl k = false := by rw [HBL.out]; exact decide_eq_false hlt
       go_quiet (fail)
       go_wp2_with fail
       go_meet
       exact ⟨by rw [HKL.out, decide_eq_true (List.not_lt.1 hlt)], nq, rfl⟩
    case rest =>
     obtain ⟨rfl, m5, rfl⟩ := hcut
     have HRD5 := hid (HRD.out.drewN m5)
     have ST5d := hid (show SSt w Br Sb n (W5.drewN m5) (.slice ak ks.length ck) ks from ST5.out.below ⟨rfl, rfl, rfl, Nat.le_refl _, fun _ _ => rfl⟩)
     have FK5d := hid (show (W5.drewN m5).heap[kb]? = some (.cells #[.string ⟨k.toArray⟩, .string ⟨#[]⟩] 48 (0, 0)) from FK5.out)
     clear s0 s1 sf0 sf1 slt r0 r1 rf0 rf1 rlt k0 k1 kf0 kf1 klt ST5 HRD FK5
     generalize W5.drewN m5 = W6 at *
     obtain ⟨s0, s1, sf0, sf1, slt⟩ := box2_cells ST5d.out.sb
     obtain ⟨r0, r1, rf0, rf1, rlt⟩ := box2_cells ST5d.out.rb
     obtain ⟨k0, k1, kf0, kf1, klt⟩ := box2_cells FK5d.out
     cases hge : lastGE ks k with
     | true =>
      have HNO := hid (show stepP (b.data.toList.drop p) = none by rw [HKE.out, HE1.out, HKP.out, if_pos hge]; rfl)
      clear hge
      go_upto_region 12 with fail
      first
       | (go_region_with (first
        | (go_at_call 119; refine (FA.out q2 0 0 160 ((q : Int) + 1) _ (by first | exact HRD5.out | exact HRD5.out.drewN _)).mono ?_; rintro e W7 ⟨rfl, h7, o7⟩; have ST7 := hid (SSt.step (by first | exact ST5d.out | exact ST5d.out.below ⟨rfl, rfl, rfl, Nat.le_refl _, fun _ _ => rfl⟩) o7); obtain ⟨ss0, ss1, ssf0, ssf1, sslt⟩ := box2_cells ST7.out.sb; obtain ⟨rr0, rr1, rrf0, rrf1, rrlt⟩ := box2_cells ST7.out.rb)))
       | fail "region"
      all_goals
       go_wp2_with fail
       simp only [Exit.jumps]
       change bodyPost _ _ _ _ _ (P2 _ w.heap.size (.string ⟨n.toArray⟩) (.slice ak ks.length ck))
       exact step_ret ST7.out.rb rfl rfl rfl (Or.inr ⟨HNO.out, ⟨_, _, _, _, rfl⟩, ⟨q2, 160, _, by decide, ST7.out.rd2 h7 _ _⟩, ST7.out.ret _ _⟩)
     | false =>
      have HKP2 := hid (show keyP ks (b.data.toList.drop (q + 1)) = match takeB 61 (b.data.toList.drop q2) with
       | none => none
       | some r2 =>
        match valueP false [] r2 with
        | none => none
        | some (v, r3) => some ((k, v), r3) by rw [HKP.out, if_neg (by rw [hge]; decide)])
      clear hge HKP
      go_wp2_with fail
      refine (NX2.out q2 W6 HRD5.out HQ2.out).mono ?_
      rintro e W7 ⟨o7, okx, rfl, hx⟩
      have ST7 := hid (ST5d.out.step o7)
      have FK7 := hid ((o7.block kb (lt_of_block FK5d.out) (by have := ST5d.out.br; have := ST5d.out.lt; have := HSK.out; simp; omega)).trans FK5d.out)
      clear s0 s1 sf0 sf1 slt r0 r1 rf0 rf1 rlt k0 k1 kf0 kf1 klt o7 ST5d FK5d HRD5
      obtain ⟨s0, s1, sf0, sf1, slt⟩ := box2_cells ST7.out.sb
      obtain ⟨r0, r1, rf0, rf1, rlt⟩ := box2_cells ST7.out.rb
      obtain ⟨k0, k1, kf0, kf1, klt⟩ := box2_cells FK7.out
      cases okx with
      | false =>
       obtain ⟨htb, hrd⟩ : takeB 61 (b.data.toList.drop q2) = none ∧ PRd W7 Br b q2 0 0 := by
        rcases hx with ⟨_, h1, h2⟩ | ⟨h, _⟩
        ·exact ⟨h1, h2⟩
        ·cases h
       have HNO := hid (show stepP (b.data.toList.drop p) = none by rw [HKE.out, HE1.out, HKP2.out, htb]; rfl)
       have HRD7 := hid hrd
       clear hx htb hrd
       obtain ⟨c0, c1, c2, c3, f1, f2, f3, lt⟩ := HRD7.out.cells
       go_upto_region 14 with fail
       first
        | (go_region_with (first
         | (go_at_call 119; refine (FA.out q2 0 0 160 q2 _ (by first | exact HRD7.out | exact HRD7.out.drewN _)).mono ?_; rintro e W8 ⟨rfl, h8, o8⟩; have ST8 := hid (SSt.step (by first | exact ST7.out | exact ST7.out.below ⟨rfl, rfl, rfl, Nat.le_refl _, fun _ _ => rfl⟩) o8); obtain ⟨ss0, ss1, ssf0, ssf1, sslt⟩ := box2_cells ST8.out.sb; obtain ⟨rr0, rr1, rrf0, rrf1, rrlt⟩ := box2_cells ST8.out.rb)))
        | fail "region"
       all_goals
        go_wp2_with fail
        simp only [Exit.jumps]
        change bodyPost _ _ _ _ _ (P2 _ w.heap.size (.string ⟨n.toArray⟩) (.slice ak ks.length ck))
        exact step_ret ST8.out.rb rfl rfl rfl (Or.inr ⟨HNO.out, ⟨_, _, _, _, rfl⟩, ⟨q2, 160, _, by decide, ST8.out.rd2 h8 _ _⟩, ST8.out.ret _ _⟩)
      | true =>
       obtain ⟨htb, hq3, hrd⟩ : takeB 61 (b.data.toList.drop q2) = some (b.data.toList.drop (q2 + 1)) ∧ q2 < b.size ∧ PRd W7 Br b (q2 + 1) 0 0 := by
        rcases hx with ⟨h, _⟩ | ⟨_, h1, h2, h3⟩
        ·cases h
        ·exact ⟨h1, h2, h3⟩
       have HU3 := hid (utfB_take (by decide) htb HU2.out)
       have HKP3 := hid (show keyP ks (b.data.toList.drop (q + 1)) = match valueP false [] (b.data.toList.drop (q2 + 1)) with
        | none => none
        | some (v, r3) => some ((k, v), r3) by rw [HKP2.out, htb])
       have HRD7 := hid hrd
       have HQ3 := hid hq3
       clear hx htb hrd hq3 HKP2 HU2
       go_wp2_with fail
       refine (VL.out (q2 + 1) W7 HRD7.out HQ3.out HU3.out).mono ?_
       rintro e W8 ⟨v, okv, rfl, o8, hr8⟩
       have ST8 := hid (ST7.out.step o8)
       have FK8 := hid ((o8.block kb (lt_of_block FK7.out) (by have := ST7.out.br; have := ST7.out.lt; have := HSK.out; simp; omega)).trans FK7.out)
       have HR8 := hid hr8
       clear s0 s1 sf0 sf1 slt r0 r1 rf0 rf1 rlt k0 k1 kf0 kf1 klt o8 hr8 ST7 FK7 HRD7
       obtain ⟨k0, k1, kf0, kf1, klt⟩ := box2_cells FK8.out
       have ST9 := hid (ST8.out.set HSK.out HNK.out 1 (.string ⟨v.toArray⟩))
       have FK9 := hid (show (W8.setCell ⟨kb, 1, none⟩ (.string ⟨v.toArray⟩)).heap[kb]? = some (.cells #[.string ⟨k.toArray⟩, .string ⟨v.toArray⟩] 48 (0, 0)) from by rw [heap_setCell_same _ _ _ _ _ _ FK8.out]; simp)
       have HRP := hid (fun q e a (h : PRd W8 Br b q e a) => (show PRd (W8.setCell ⟨kb, 1, none⟩ (.string ⟨v.toArray⟩)) Br b q e a from (heap_setCell_other _ _ _ _ (by have := ST8.out.br; have := ST8.out.lt; have := HSK.out; simp; omega)).trans h))
       go_upto_region 16 with fail
       generalize W8.setCell ⟨kb, 1, none⟩ (.string ⟨v.toArray⟩) = W9 at *
       clear k0 k1 kf0 kf1 klt FK8
       cases okv with
       | false =>
        obtain ⟨hnn, q4, er, ea, hne, hrd⟩ : valueP false [] (b.data.toList.drop (q2 + 1)) = none ∧ ∃ q e a, e ≠ 0 ∧ PRd W8 Br b q e a := by
         rcases HR8.out with ⟨h, _⟩ | ⟨_, h⟩
         ·cases h
         ·exact h
        have HNO := hid (show stepP (b.data.toList.drop p) = none by rw [HKE.out, HE1.out, HKP3.out, hnn]; rfl)
        have HRD := hid (HRP.out _ _ _ hrd)
        have HNE := hid hne
        clear hnn hrd hne HR8
        go_wp2_with fail
        go_step3
        refine HX.out (g - 1) _ _ (by have := HG.out; have := HQB.out; omega) ?_
        exact ⟨Sb, n, .bool false, ⟨rfl, rfl, rfl, rfl, rfl, rfl⟩, false, _, ks, rfl, ST9.out, Or.inr ⟨rfl, HNO.out, q4, er, ea, HNE.out, HRD.out⟩⟩
       | true =>
        obtain ⟨q4, hnn, hrd, hq4, hqq, hu4⟩ : ∃ q4, valueP false [] (b.data.toList.drop (q2 + 1)) = some (v, b.data.toList.drop q4) ∧ PRd W8 Br b q4 0 0 ∧ q4 ≤ b.size ∧ q2 + 1 ≤ q4 ∧ utfB (b.data.toList.drop q4) = true := by
         rcases HR8.out with ⟨_, h⟩ | ⟨h, _⟩
         ·exact h
         ·cases h
        have HRD := hid (HRP.out _ _ _ hrd)
        have HE4 := hid (show stepP (b.data.toList.drop p) = (keysW (ks ++ [(k, v)]) (b.data.toList.drop q4)).map (fun z => ((n, z.1), z.2)) by rw [HKE.out, HE1.out, HKP3.out, hnn])
        have HU4 := hid hu4
        have HQ4 := hid (show p < q4 ∧ q4 ≤ b.size ∧ (ks ++ [(k, v)]).length ≤ q4 ∧ b.size + 2 ≤ q4 + (g - 1) ∧ g - 1 < g from by
         have h1 := HPQ.out
         have h2 := HQQ.out
         have h3 := HKS.out
         have h4 := HG.out
         have h5 := HQB.out
         refine ⟨by omega, hq4, by simp; omega, by omega, by omega⟩)
        have HLL := hid (show ks.length ≤ 1000000 by omega)
        have HSZ := hid (show w.heap.size + 1 ≤ W9.heap.size by have := lt_of_block ST9.out.sb; have := ST9.out.lt; omega)
        clear hnn hrd hq4 hqq hu4 HR8 HKP3 HE1 HKE HRP hkl
        obtain ⟨s0, s1, sf0, sf1, slt⟩ := box2_cells ST9.out.sb
        obtain ⟨k0, k1, kf0, kf1, klt⟩ := box2_cells FK9.out
        go_wp2_with (at_builtin; refine wpList_pushP rfl (.tmp 78) (.tmp 80) rfl (w.heap.size + 1) _ ks (k, v) rfl ST9.out.own rfl HLL.out HSZ.out ?_; intro kv' W10 own10 gr10 mv10; obtain ⟨a', c', rfl⟩ := own_sliceP own10; rw [show (ks ++ [(k, v)]).length = ks.length + 1 from by simp] at own10; have sb10 := (gr10.block Sb (lt_of_block ST9.out.sb) (Ne.symm (own_type ST9.out.own ST9.out.sb (by decide)))).trans ST9.out.sb; have HRD10 := hid (show PRd W10 Br b q4 0 0 from (gr10.block Br (lt_of_block HRD.out) (fun e => by have := (World.ownsRow.lt ST9.out.own Br e.symm).1; have := ST9.out.br; omega)).trans HRD.out); have ST10 := hid (ST9.out.keys own10 gr10); obtain ⟨t0, t1, tf0, tf1, tlt⟩ := box2_cells sb10; clear own10 gr10 mv10)
        go_step3
        refine HX.out (g - 1) _ _ HQ4.out.2.2.2.2 ?_
        exact ⟨Sb, n, .bool true, ⟨rfl, rfl, rfl, rfl, rfl, rfl⟩, true, _, ks ++ [(k, v)], rfl, ST10.out, Or.inl ⟨rfl, q4, (heap_setCell_other _ _ _ _ (by have := ST9.out.br; have := ST9.out.lt; simp; omega)).trans HRD10.out, HQ4.out.1, HQ4.out.2.1, HU4.out, HE4.out, HQ4.out.2.2.1, HQ4.out.2.2.2.1⟩⟩
set_option maxRecDepth 100000 in
set_option maxHeartbeats 8000000 in
theorem pstep_any (Br : Nat) (b : ByteArray) (p : Nat) (w : World) (h : PRd w Br b p 0 0) (hp : p ≤ b.size) (hb : b.size ≤ 512) (hu : utfB (b.data.toList.drop p) = true) :
  Calls Tryz.prog 120 #[.pointer (some ⟨Br, 0, none⟩)] w fun x w' => StepRes Br b p w x w' := by
 have HU := hid hu
 have hbr := h.cells.2.2.2.2.2.2.2
 have HBR := hid hbr
 have hb7 : Below w.heap.size w (w.alloc (.cells #[.string ⟨#[]⟩, .slice none 0 0] 104)) := (Below.refl _ _).alloc (Nat.le_refl _) _
 have H1 := hid (h.below hb7)
 have O1 := hid ((Only.refl w Br).below hb7)
 have F1 := hid (heap_alloc_new w (.cells #[.string ⟨#[]⟩, .slice none 0 0] 104))
 have NM := hid (fun q W (h : PRd W Br b q 0 0) (hq : q ≤ b.size) => pname_one Br b q W h hq (by omega))
 have LT1 := hid (show w.heap.size < (w.alloc (.cells #[.string ⟨#[]⟩, .slice none 0 0] 104)).heap.size from lt_of_block F1.out)
 obtain ⟨rest0, hr0, hvr⟩ := step_run w Br b p hp hb
 have HR0 := hid hr0
 have HVR := hid hvr
 clear h hu hb7 hbr hr0 hvr
 go_enter Tryz.func120, Tryz.ntmps120
 go_wp2_with fail
 refine wp_scope_labels (JS w Br b p) ?_ ?_
 ·go_wp2_with fail
  refine (NM.out p _ H1.out hp).mono ?_
  rintro e w2 ⟨n, ok, rfl, o2, hr⟩
  have HR := hid hr
  have O2 := hid o2
  clear o2 hr
  have F2 := hid (heap_alloc_new w2 (.cells #[.string ⟨n.toArray⟩, .slice none 0 0] 104))
  have hb3 : Below w2.heap.size w2 (w2.alloc (.cells #[.string ⟨n.toArray⟩, .slice none 0 0] 104)) := (Below.refl _ _).alloc (Nat.le_refl _) _
  have ST3 := hid (show KeySt w Br w2.heap.size b p n (b.size + 2) (.bool ok) (w2.alloc (.cells #[.string ⟨n.toArray⟩, .slice none 0 0] 104)) from by
   refine ⟨ok, .slice none 0 0, [], rfl, ⟨(hb3.block _ (Nat.lt_of_lt_of_le LT1.out O2.out.size)).trans ((O2.out.block _ LT1.out (by have := HBR.out; simp; omega)).trans F1.out), F2.out, World.ownsRow_nil _ _ _ _, (O1.out.trans O2.out).below hb3, Nat.lt_of_lt_of_le LT1.out O2.out.size, HBR.out⟩, ?_⟩
   rcases HR.out with ⟨rfl, q, h1, h2, h3, h4⟩ | ⟨rfl, h1, q, er, ea, hne, h2⟩
   ·exact Or.inl ⟨rfl, q, h2.below hb3, name_q h1 h3 hp, h3, utfB_name h1 HU.out, stepP_eq h1, Nat.zero_le _, by omega⟩
   ·exact Or.inr ⟨rfl, stepP_none h1, q, er, ea, hne, h2.below hb3⟩)
  clear hb3
  go_wp2_with fail
  go_step3
  rename_i K hK
  refine hK _ _ ?_
  refine wp_sameS (HVR.out (b.size + 2) _ _ ⟨w2.heap.size, n, .bool ok, ⟨rfl, rfl, rfl, rfl, rfl, rfl⟩, ST3.out⟩ _ ?_) (HR0.out.symm.trans rfl)
  exact fun n' a' w' hlt hj => ⟨n', hj⟩
 ·intro l n a W hJ
  match l, hJ with
  | 0, hJ => exact ⟨.seq .skip rest0, HR0.out, wp_skip_seqS (HVR.out n a W hJ _ (fun n' a' w' hlt hj => ⟨n', hlt, hj⟩))⟩
  | l + 1, hJ => exact hJ.elim
end Go.Proofs.YtjlfchnnhglbjaaGreat
namespace Go.Proofs.YtjlfchnnhglbjaaGreat
open Go.RowKit Go.Lib
def encSt : Enc (Stp × (Option Addr × Nat)) 2 where
 enc := fun z => [.string ⟨z.1.1.toArray⟩, .slice z.2.1 z.1.2.length z.2.2]
 len := fun _ => rfl
 one := fun x u hu => by simp at hu; rcases hu with rfl | rfl <;> rfl
theorem infoSt : (Tryz.prog.info? 104).map (fun i => (i.zero, i.size, i.bytes)) = some (some (.agg #[.string ⟨#[]⟩, .slice none 0 0]), 2, 40) := by kernel_rfl
def keysV (z : Stp × (Option Addr × Nat)) : Value := .slice z.2.1 z.1.2.length z.2.2
def OwnSt (w : World) (B : Nat) (v : Value) (l : List Stp) : Prop := ∃ zs : List (Stp × (Option Addr × Nat)), zs.map (·.1) = l ∧ OwnL encSt 104 w B v zs ∧ ∀ z ∈ zs, OwnP w B (keysV z) z.1.2
theorem P2_rowT {W : World} {B : Nat} {z0 z1 : Value} {ty : TypeId} (a0 a1 : Value) (h : W.heap[B]? = some (.cells #[z0, z1] ty (0, 0))) : (P2 W B a0 a1).heap[B]? = some (.cells #[a0, a1] ty (0, 0)) := by
 unfold P2
 rw [heap_setCell_same _ _ _ _ _ _ (heap_setCell_same _ _ _ _ _ _ h)]; simp
theorem P2_below {B b : Nat} {w W : World} (a0 a1 : Value) (h : Below B w W) (hb : B ≤ b) : Below B w (P2 W b a0 a1) :=
 (h.setCell (p := ⟨b, 0, none⟩) hb a0).setCell (p := ⟨b, 1, none⟩) hb a1
theorem P2_own {W : World} {b base size n : Nat} {e : TypeId} {v : Value} {xs : List Value} (a0 a1 : Value) (h : W.ownsRow base e size v n xs) (hb : v.ownBlock ≠ some b) : (P2 W b a0 a1).ownsRow base e size v n xs :=
 own_set (own_set h hb 0 a0) hb 1 a1
theorem parse_ret {V : World} {Pb : Nat} {v : Value} {e a : Int} (hr : V.heap[Pb]? = some (.cells #[.int .i64 e, .int .i64 a] 99 (0, 0))) {Q : Ending → World → Prop} {act : Act} (hd : act.defers = [])
  (h2 : act.tmps.getD 2 undef = v) (h3 : act.tmps.getD 3 undef = .pointer (some ⟨Pb, 0, none⟩)) (hQ : Q (.returned (.tuple #[v, .agg #[.int .i64 e, .int .i64 a]])) V) :
  bodyPost Tryz.prog Tryz.f74 Q Exit.ret act V := by
 obtain ⟨e0, e1, _, _, _⟩ := box2_cells hr
 refine bodyPost_ret (v := .tuple #[v, .agg #[.int .i64 e, .int .i64 a]]) ?_ hd hQ
 obtain ⟨tmps, defers⟩ := act
 simp only [Array.getD_eq_getD_getElem?] at h2 h3
 simp [results, Tryz.results74, go_sem, h2, h3, e0, e1]
structure PaSt (w : World) (s : Str) (Rb : Nat) (W : World) (v : Value) (zs : List (Stp × (Option Addr × Nat))) : Prop where
 pb : W.heap[w.heap.size]? = some (.cells #[.int .i64 0, .int .i64 0] 99 (0, 0))
 own : OwnL encSt 104 W (w.heap.size + 1) v zs
 each : ∀ z ∈ zs, OwnP W (w.heap.size + 1) (keysV z) z.1.2
 bel : Below w.heap.size w W
 lt : w.heap.size < Rb
section
variable {w W W' : World} {s : Str} {Rb : Nat} {v : Value} {zs : List (Stp × (Option Addr × Nat))}
theorem ownP_monoS {w : World} {B C : Nat} {v : Value} {l : List (Str × Str)} (h : OwnP w B v l) (hc : C ≤ B) : OwnP w C v l := by
 unfold OwnP World.ownsRow at *
 refine ⟨h.1, ?_⟩
 rcases h.2 with h | ⟨g, cap, cur, h1, h2, h3⟩
 ·exact Or.inl h
 ·exact Or.inr ⟨g, cap, cur, h1, Nat.le_trans hc h2, h3⟩
theorem ne_kinds {W : World} {B1 B2 k1 k2 n1 n2 : Nat} {e1 e2 : TypeId} {v1 v2 : Value} {x1 x2 : List Value} (h1 : W.ownsRow B1 e1 k1 v1 n1 x1) (h2 : W.ownsRow B2 e2 k2 v2 n2 x2) (hne : e1 ≠ e2) : v1.ownBlock = none ∨ v1.ownBlock ≠ v2.ownBlock := by
 cases hk : v1.ownBlock with
 | none => exact Or.inl rfl
 | some k =>
  refine Or.inr (fun e => ?_)
  rcases h1.2 with ⟨a, _⟩ | ⟨g, cap, cur, a, _, hg, _⟩
  ·rw [a] at hk; cases hk
  ·rw [a] at hk; cases hk
   rcases h2.2 with ⟨a2, _⟩ | ⟨g2, cap2, cur2, a2, _, hg2, _⟩
   ·rw [a2] at e; cases e
   ·rw [a2] at e; cases e
    rw [hg] at hg2; cases hg2; exact hne rfl
theorem PaSt.step (h : PaSt w s Rb W v zs) {b : ByteArray} {q e : Nat} {a : Int} (hr : PRd W Rb b q e a) (o : Only Rb W W') : PaSt w s Rb W' v zs := by
 have hlt := h.lt
 unfold PRd at hr
 refine ⟨(o.block _ (lt_of_block h.pb) (by simp; omega)).trans h.pb, World.ownsRow.kept h.own o (Or.inr (own_type h.own hr (by decide))), fun z hz => World.ownsRow.kept (h.each z hz) o (Or.inr (own_type (h.each z hz) hr (by decide))), ?_, hlt⟩
 exact h.bel.grown o h.bel.size (fun k hk => by cases hk; omega)
theorem PaSt.below (h : PaSt w s Rb W v zs) (hb : Below W.heap.size W W') : PaSt w s Rb W' v zs :=
 ⟨(hb.block _ (lt_of_block h.pb)).trans h.pb, h.own.below hb, fun z hz => own_below (h.each z hz) hb, h.bel.then hb, h.lt⟩
theorem PaSt.push (h : PaSt w s Rb W v zs) {v' : Value} {z : Stp × (Option Addr × Nat)} (o : OwnL encSt 104 W' (w.heap.size + 1) v' (zs ++ [z])) (gr : W.grownBy W' v.ownBlock) (hz : OwnP W (w.heap.size + 1) (keysV z) z.1.2) : PaSt w s Rb W' v' (zs ++ [z]) := by
 have hlt := h.lt
 have n1 : v.ownBlock ≠ some w.heap.size := own_type h.own h.pb (by decide)
 refine ⟨(gr.block _ (lt_of_block h.pb) (Ne.symm n1)).trans h.pb, o, fun x hx => ?_, h.bel.grown gr h.bel.size (fun k hk => by have := (World.ownsRow.lt h.own k hk).1; omega), hlt⟩
 rcases List.mem_append.1 hx with hx | hx
 ·exact World.ownsRow.kept (h.each x hx) gr (ne_kinds (h.each x hx) h.own (by decide))
 ·rw [List.mem_singleton.1 hx]
  exact World.ownsRow.kept hz gr (ne_kinds hz h.own (by decide))
theorem PaSt.rd (h : PaSt w s Rb W v zs) {b : ByteArray} {q e : Nat} {a : Int} (hr : PRd W Rb b q e a) (gr : W.grownBy W' v.ownBlock) : PRd W' Rb b q e a := by
 unfold PRd at *
 exact (gr.block _ (lt_of_block hr) (Ne.symm (own_type h.own hr (by decide)))).trans hr
theorem PaSt.done (h : PaSt w s Rb W v zs) (a0 a1 : Value) : OwnSt (P2 W w.heap.size a0 a1) w.heap.size v (zs.map (·.1)) := by
 refine ⟨zs, rfl, (OwnL.mono (show OwnL encSt 104 (P2 W w.heap.size a0 a1) (w.heap.size + 1) v zs from P2_own a0 a1 h.own (own_type h.own h.pb (by decide))) (Nat.le_succ _)), fun z hz => ?_⟩
 exact ownP_monoS (show OwnP (P2 W w.heap.size a0 a1) (w.heap.size + 1) (keysV z) z.1.2 from P2_own a0 a1 (h.each z hz) (own_type (h.each z hz) h.pb (by decide))) (Nat.le_succ _)
end
def ParseOut (w : World) (s : Str) (x : Ending) (w' : World) : Prop :=
  ((∃ l v, pathP s = some l ∧ x = .returned (.tuple #[v, .agg #[.int .i64 0, .int .i64 0]]) ∧ OwnSt w' w.heap.size v l) ∨
   (pathP s = none ∧ ∃ (er : Nat) (a : Int), er ≠ 0 ∧ x = .returned (.tuple #[.slice none 0 0, .agg #[.int .i64 er, .int .i64 a]]))) ∧ Below w.heap.size w w'
end Go.Proofs.YtjlfchnnhglbjaaGreat
namespace Go.Proofs.YtjlfchnnhglbjaaGreat
open Go.RowKit Go.Lib
theorem pstep_one (Br : Nat) (b : ByteArray) (p : Nat) (w : World) (h : PRd w Br b p 0 0) (hp : p ≤ b.size) (hb : b.size ≤ 512) (hu : utfB (b.data.toList.drop p) = true) :
    Calls Tryz.prog 120 #[.pointer (some ⟨Br, 0, none⟩)] w fun x w' => ∃ (n : Str) (ax : Option Addr) (lx cx : Nat) (ok : Bool), x = .returned (.tuple #[.agg #[.string ⟨n.toArray⟩, .slice ax lx cx], .bool ok]) ∧ Only Br w w' ∧
      ((ok = true ∧ ∃ st a c q, stepP (b.data.toList.drop p) = some (st, b.data.toList.drop q) ∧ n = st.1 ∧ ax = a ∧ lx = st.2.length ∧ cx = c ∧ OwnP w' w.heap.size (keysV (st, (a, c))) st.2 ∧ PRd w' Br b q 0 0 ∧ q ≤ b.size ∧ p < q ∧ utfB (b.data.toList.drop q) = true) ∨
       (ok = false ∧ stepP (b.data.toList.drop p) = none ∧ ∃ q e a, e ≠ 0 ∧ PRd w' Br b q e a)) := by
  refine (pstep_any Br b p w h hp hb hu).mono fun x w' hr => ?_
  rcases hr with ⟨st, r, q, kv, h1, h2, h3, h4, h5, h6, h7, h8, h9⟩ | ⟨h1, ⟨n, a, l, c, h2⟩, h3, h4⟩
  · obtain ⟨a, c, rfl⟩ := own_sliceP h3
    exact ⟨_, _, _, _, true, h2, h9, Or.inl ⟨rfl, st, a, c, q, by rw [h1, h7], rfl, rfl, rfl, rfl, h3, h4, h5, h6, by rw [← h7]; exact h8⟩⟩
  · exact ⟨n, a, l, c, false, h2, h4, Or.inr ⟨rfl, h1, h3⟩⟩
theorem isEmpty_ne {s : Str} (h : s ≠ []) : List.isEmpty s = false := by cases s with
 | nil => exact absurd rfl h
 | cons c t => rfl
theorem stepsP_no {f : Nat} {l : List Stp} {s : Str} (h : stepP s = none) : stepsP f l s = none := by
 cases f with
 | zero => rfl
 | succ f => simp only [stepsP, h]
set_option maxRecDepth 100000 in
set_option maxHeartbeats 16000000 in
theorem pparse_any (s : Str) (w : World) (hs : s.length ≤ maxLen) : Calls Tryz.prog 74 #[.string ⟨s.toArray⟩] w fun x w' => ParseOut w s x w' := by
 have F0 := hid (heap_alloc_new w (.cells #[.int .i64 0, .int .i64 0] 99))
 have hb0 : Below w.heap.size w (w.alloc (.cells #[.int .i64 0, .int .i64 0] 99)) := (Below.refl _ _).alloc (Nat.le_refl _) _
 have B0 := hid hb0
 have UC := hid (fun W => ucheck_any s W hs)
 have hsz : (⟨s.toArray⟩ : ByteArray).size = s.length := Lib.size_eq _
 have HSZ := hid hsz
 clear hb0
 by_cases h512 : 512 < s.length
 ·have hli : (512 : Int) < (s.length : Int) := by omega
  have HNO := hid (show pathP s = none by unfold pathP; rw [if_pos h512])
  obtain ⟨z0, z1, zf0, zf1, zlt⟩ := box2_cells F0.out
  clear hsz h512
  go_enter Tryz.func74, Tryz.ntmps74
  go_upto_region 1 with fail
  generalize w.alloc (.cells #[.int .i64 0, .int .i64 0] 99) = w1 at *
  go_wp2_with fail
  refine parse_ret (Pb := w.heap.size) (e := 3) (a := 512) ?_ rfl rfl rfl ?_
  ·exact P2_rowT (.int .i64 3) (.int .i64 512) F0.out
  ·exact ⟨Or.inr ⟨HNO.out, 3, 512, by decide, rfl⟩, P2_below _ _ B0.out (Nat.le_refl _)⟩
 ·have hli : ¬ (512 : Int) < (s.length : Int) := by omega
  have H512 := hid h512
  clear hsz
  go_enter Tryz.func74, Tryz.ntmps74
  go_upto_region 1 with fail
  generalize w.alloc (.cells #[.int .i64 0, .int .i64 0] 99) = w1 at *
  go_wp2_with fail
  refine (UC.out w1).mono ?_
  rintro e w2 ⟨⟨er, at', rfl, hut⟩, hb2⟩
  have HUT := hid hut
  have F2 := hid ((hb2.block _ (lt_of_block F0.out)).trans F0.out)
  have B2 := hid (B0.out.then hb2)
  clear hut hb2 h512 hli
  have hb3 : Below w2.heap.size w2 (w2.alloc (.cells #[.int .i64 er, .int .i64 at'] 99)) := (Below.refl _ _).alloc (Nat.le_refl _) _
  have F3 := hid ((hb3.block _ (lt_of_block F2.out)).trans F2.out)
  have B3 := hid (B2.out.then hb3)
  have G3 := hid (heap_alloc_new w2 (.cells #[.int .i64 er, .int .i64 at'] 99))
  have LT3 := hid (show w.heap.size < w2.heap.size from lt_of_block F2.out)
  clear hb3
  go_upto_region 4 with fail
  generalize w2.alloc (.cells #[.int .i64 er, .int .i64 at'] 99) = w3 at *
  clear F2 B2
  obtain ⟨z0, z1, zf0, zf1, zlt⟩ := box2_cells F3.out
  obtain ⟨y0, y1, yf0, yf1, ylt⟩ := box2_cells G3.out
  rcases HUT.out with ⟨hu, rfl, rfl⟩ | ⟨hu, rfl⟩
  ·by_cases hemp : s = []
   ·subst hemp
    go_wp2_with fail
    first
     | go_region
     | fail "r5"
    all_goals
     go_wp2_with fail
     refine parse_ret (Pb := w.heap.size) (e := 0) (a := 0) ?_ rfl rfl rfl ?_
     ·exact P2_rowT (.int .i64 0) (.int .i64 0) F3.out
     ·exact ⟨Or.inl ⟨[], _, by unfold pathP; rw [if_neg H512.out, hu]; rfl, rfl, [], rfl, OwnL.nil _ _ _ _, fun z hz => by cases hz⟩, (P2_below _ _ B3.out (Nat.le_refl _)).drew⟩
   ·have hne : List.isEmpty s = false := isEmpty_ne hemp
    go_wp2_with fail
    have HPP := hid (show pathP s = stepsP 64 [] s by unfold pathP; rw [if_neg H512.out, hu]; simp [hemp])
    have hbr : Below w3.heap.size w3 (w3.alloc (.cells #[.string ⟨s.toArray⟩, .int .i64 0, .int .i64 0, .int .i64 0] 166)) := (Below.refl _ _).alloc (Nat.le_refl _) _
    have HRD0 := hid (show PRd (w3.alloc (.cells #[.string ⟨s.toArray⟩, .int .i64 0, .int .i64 0, .int .i64 0] 166)) w3.heap.size ⟨s.toArray⟩ 0 0 0 from heap_alloc_new w3 _)
    have ST0 := hid (show PaSt w s w3.heap.size (w3.alloc (.cells #[.string ⟨s.toArray⟩, .int .i64 0, .int .i64 0, .int .i64 0] 166)) (.slice none 0 0) [] from
     ⟨(hbr.block _ (lt_of_block F3.out)).trans F3.out, OwnL.nil _ _ _ _, (fun z hz => by cases hz), B3.out.then hbr, lt_of_block F3.out⟩)
    have HU0 := hid hu
    clear hbr z0 z1 zf0 zf1 zlt y0 y1 yf0 yf1 ylt hne hu hemp HUT
    generalize w3.alloc (.cells #[.string ⟨s.toArray⟩, .int .i64 0, .int .i64 0, .int .i64 0] 166) = w4 at *
    have SP := hid (fun q W (h : PRd W w3.heap.size ⟨s.toArray⟩ q 0 0) (hq : q ≤ s.length) (hu : utfB (s.drop q) = true) => pstep_one w3.heap.size ⟨s.toArray⟩ q W h (by rw [HSZ.out]; exact hq) (by rw [HSZ.out]; have := H512.out; omega) hu)
    have NX := hid (fun q W (h : PRd W w3.heap.size ⟨s.toArray⟩ q 0 0) (hq : q ≤ s.length) => (show Calls Tryz.prog 121 #[.pointer (some ⟨w3.heap.size, 0, none⟩), .int .u8 47] W _ from pnext_two 47 w3.heap.size ⟨s.toArray⟩ q W h (by rw [HSZ.out]; exact hq) (by rw [HSZ.out]; have := H512.out; omega)))
    have FA := hid (fun q e a W (h : PRd W w3.heap.size ⟨s.toArray⟩ q 0 0) => pfail_any w3.heap.size ⟨s.toArray⟩ q 0 0 e a W h)
    generalize w3.heap.size = Rb at *
    go_loopg [6] 65 (fun g v6 W => ∃ (zs : List (Stp × (Option Addr × Nat))) (q : Nat), PaSt w s Rb W v6 zs ∧ PRd W Rb ⟨s.toArray⟩ q 0 0 ∧ q ≤ s.length ∧ utfB (s.drop q) = true ∧ pathP s = stepsP (64 - zs.length) (zs.map (·.1)) (s.drop q) ∧ zs.length ≤ 64 ∧ 65 ≤ zs.length + g)
    case atStart => exact ⟨[], 0, ST0.out, HRD0.out, Nat.zero_le _, HU0.out, by rw [HPP.out]; rfl, Nat.zero_le _, Nat.le_refl _⟩
    case round =>
     obtain ⟨zs, q, st, rd, hq, hu, hpp, h64, hg⟩ := hrel
     rename World => w5
     have ST5 := hid st
     have RD5 := hid rd
     have HU5 := hid hu
     have HP5 := hid hpp
     have HG := hid hg
     have HQ := hid hq
     have HZ := hid h64
     clear st rd hu hpp hg hq ST0 HRD0 HU0 HPP h64
     obtain ⟨av, cv, rfl, hcap⟩ := ST5.out.own.slice
     clear hcap
     obtain ⟨c0, c1, c2, c3, f1, f2, f3, lt⟩ := RD5.out.cells
     by_cases hfull : zs.length = 64
     ·have HNO := hid (show pathP s = none by rw [HP5.out, hfull]; rfl)
      have hz64 : ((zs.length : Int) == 64) = true := by rw [beq_iff_eq]; omega
      clear hfull
      go_wp2_with (go_at_call 119; refine (FA.out q 3 q w5 RD5.out).mono ?_; rintro e w6 ⟨rfl, h6, o6⟩)
      have ST6 := hid (ST5.out.step RD5.out o6)
      have H6 := hid h6
      clear h6 o6 c0 c1 c2 c3 f1 f2 f3 lt
      obtain ⟨c0, c1, c2, c3, f1, f2, f3, lt⟩ := H6.out.cells
      obtain ⟨z0, z1, zf0, zf1, zlt⟩ := box2_cells ST6.out.pb
      go_wp2_with fail
      first
       | go_region
       | fail "r10"
      all_goals
       go_wp2_with fail
       refine parse_ret (Pb := w.heap.size) (e := 3) (a := q) ?_ rfl rfl rfl ?_
       ·exact P2_rowT (.int .i64 3) (.int .i64 q) ST6.out.pb
       ·exact ⟨Or.inr ⟨HNO.out, 3, q, by decide, rfl⟩, (P2_below _ _ ST6.out.bel (Nat.le_refl _)).drew⟩
     ·have hz64 : ((zs.length : Int) == 64) = false := by rw [beq_eq_false_iff_ne]; omega
      have HL := hid (show zs.length < 64 by have := HZ.out; omega)
      clear hfull
      go_wp2_with fail
      refine (SP.out q w5 RD5.out HQ.out HU5.out).mono ?_
      rintro e w6 ⟨nx, ax, lx, cx, ok, rfl, o6, hst⟩
      have ST6 := hid (ST5.out.step RD5.out o6)
      have HSP := hid hst
      have HW5 := hid ST5.out.bel.size
      clear c0 c1 c2 c3 f1 f2 f3 lt o6 hst
      have hb7 : Below w6.heap.size w6 (w6.alloc (.cells #[.string ⟨nx.toArray⟩, .slice ax lx cx] 104)) := (Below.refl _ _).alloc (Nat.le_refl _) _
      have FX := hid (heap_alloc_new w6 (.cells #[.string ⟨nx.toArray⟩, .slice ax lx cx] 104))
      have ST7 := hid (ST6.out.below hb7)
      have HB7 := hid hb7
      clear hb7
      cases ok with
      | false =>
       obtain ⟨hno, q6, er, ea, hne, hrd⟩ : stepP (s.drop q) = none ∧ ∃ q e a, e ≠ 0 ∧ PRd w6 Rb ⟨s.toArray⟩ q e a := by
        rcases HSP.out with ⟨h, _⟩ | ⟨_, h⟩
        ·cases h
        ·exact h
       have HNO := hid (show pathP s = none by rw [HP5.out]; exact stepsP_no hno)
       have HRD := hid (hrd.below HB7.out)
       have HNE := hid hne
       clear hno hrd hne HSP
       clear ST6 FX HB7
       obtain ⟨c0, c1, c2, c3, f1, f2, f3, lt⟩ := HRD.out.cells
       obtain ⟨z0, z1, zf0, zf1, zlt⟩ := box2_cells ST7.out.pb
       go_upto_region 12 with fail
       generalize w6.alloc (.cells #[.string ⟨nx.toArray⟩, .slice ax lx cx] 104) = w7 at *
       go_wp2_with fail
       first
        | go_region
        | fail "r13"
       all_goals
        go_wp2_with fail
        refine parse_ret (Pb := w.heap.size) (e := er) (a := ea) ?_ rfl rfl rfl ?_
        ·exact P2_rowT (.int .i64 er) (.int .i64 ea) ST7.out.pb
        ·exact ⟨Or.inr ⟨HNO.out, er, ea, HNE.out, rfl⟩, (P2_below _ _ ST7.out.bel (Nat.le_refl _)).drew⟩
      | true =>
       obtain ⟨xs, xa, xc, q6, hsp, rfl, rfl, rfl, rfl, hown, hrd, hq6, hqq, hu6⟩ : ∃ st a c q6, stepP (s.drop q) = some (st, s.drop q6) ∧ nx = st.1 ∧ ax = a ∧ lx = st.2.length ∧ cx = c ∧ OwnP w6 w5.heap.size (keysV (st, (a, c))) st.2 ∧ PRd w6 Rb ⟨s.toArray⟩ q6 0 0 ∧ q6 ≤ (⟨s.toArray⟩ : ByteArray).size ∧ q < q6 ∧ utfB (s.drop q6) = true := by
        rcases HSP.out with ⟨_, h⟩ | ⟨h, _⟩
        ·exact h
        ·cases h
       rw [HSZ.out] at hq6
       have HOX := hid (own_below (show w6.ownsRow (w.heap.size + 1) 48 2 _ _ _ from ownP_monoS hown (by have := lt_of_block ST5.out.pb; omega)) HB7.out)
       have HRD := hid (hrd.below HB7.out)
       have HQ6 := hid hq6
       have HU6 := hid hu6
       have HPX := hid (show pathP s = if s.drop q6 = [] then some (zs.map (·.1) ++ [xs]) else match takeB 47 (s.drop q6) with
        | none => none
        | some r' => stepsP (64 - (zs.length + 1)) (zs.map (·.1) ++ [xs]) r' by
        rw [HP5.out, show 64 - zs.length = (64 - (zs.length + 1)) + 1 by have := HL.out; omega]
        simp only [stepsP, hsp]
        rfl)
       clear hsp hown hrd hq6 hqq hu6 HSP ST6
       simp only [keysV] at *
       obtain ⟨c0, c1, c2, c3, f1, f2, f3, lt⟩ := HRD.out.cells
       obtain ⟨z0, z1, zf0, zf1, zlt⟩ := box2_cells ST7.out.pb
       obtain ⟨x0, x1, xf0, xf1, xlt⟩ := box2_cells FX.out
       go_upto_region 12 with fail
       generalize w6.alloc (.cells #[.string ⟨xs.1.toArray⟩, .slice ax xs.2.length cx] 104) = w7 at *
       have HLA := hid (show zs.length + 1 ≤ maxLen by have := HL.out; unfold maxLen; omega)
       have HLB := hid (show (zs.length + 1) * 40 ≤ 140737488355328 by have := HL.out; omega)
       have HSZ7 := hid (show w.heap.size + 1 ≤ w7.heap.size by have := lt_of_block ST7.out.pb; omega)
       by_cases hend : q6 = s.length
       ·have heq : ((q6 : Int) == (s.length : Int)) = true := by rw [beq_iff_eq]; omega
        have HE := hid (show pathP s = some (zs.map (·.1) ++ [xs]) by rw [HPX.out, if_pos (List.drop_eq_nil_of_le (by omega))])
        clear hend HPX c0 c1 c2 c3 f1 f2 f3 lt z0 z1 zf0 zf1 zlt
        go_wp2_with (at_builtin; refine wpList_pushL (E := encSt) rfl (.tmp 50) (.tmp 52) rfl Tryz.underlying97 infoSt rfl (by decide) (w.heap.size + 1) _ zs (xs, (ax, cx)) rfl ST7.out.own rfl HLA.out HLB.out HSZ7.out #[.string ⟨xs.1.toArray⟩, .slice ax xs.2.length cx] rfl ?_; intro v8 w8 own8 gr8 mv8; obtain ⟨a8, c8, rfl, hc8⟩ := own8.slice; rw [show (zs ++ [(xs, (ax, cx))]).length = zs.length + 1 from by simp] at own8 hc8 ⊢; have ST8 := hid (ST7.out.push own8 gr8 HOX.out); have RD8 := hid (ST7.out.rd HRD.out gr8); clear own8 gr8 mv8 hc8; obtain ⟨c0, c1, c2, c3, f1, f2, f3, lt⟩ := RD8.out.cells; obtain ⟨z0, z1, zf0, zf1, zlt⟩ := box2_cells ST8.out.pb)
        refine parse_ret (Pb := w.heap.size) (e := 0) (a := 0) ?_ rfl rfl rfl ?_
        ·exact P2_rowT (.int .i64 0) (.int .i64 0) ST8.out.pb
        ·exact ⟨Or.inl ⟨_, _, HE.out, rfl, by have := ST8.out.done (.int .i64 0) (.int .i64 0); rwa [List.map_append] at this⟩, P2_below _ _ ST8.out.bel (Nat.le_refl _)⟩
       ·have heq : ((q6 : Int) == (s.length : Int)) = false := by rw [beq_eq_false_iff_ne]; omega
        have HE := hid (show pathP s = match takeB 47 (s.drop q6) with
         | none => none
         | some r' => stepsP (64 - (zs.length + 1)) (zs.map (·.1) ++ [xs]) r' by
         rw [HPX.out, if_neg (fun e => hend (by have := congrArg List.length e; simp at this; have := HQ6.out; omega))])
        clear hend HPX c0 c1 c2 c3 f1 f2 f3 lt z0 z1 zf0 zf1 zlt
        go_wp2_with (at_builtin; refine wpList_pushL (E := encSt) rfl (.tmp 50) (.tmp 52) rfl Tryz.underlying97 infoSt rfl (by decide) (w.heap.size + 1) _ zs (xs, (ax, cx)) rfl ST7.out.own rfl HLA.out HLB.out HSZ7.out #[.string ⟨xs.1.toArray⟩, .slice ax xs.2.length cx] rfl ?_; intro v8 w8 own8 gr8 mv8; obtain ⟨a8, c8, rfl, hc8⟩ := own8.slice; rw [show (zs ++ [(xs, (ax, cx))]).length = zs.length + 1 from by simp] at own8 hc8 ⊢; have ST8 := hid (ST7.out.push own8 gr8 HOX.out); have RD8 := hid (ST7.out.rd HRD.out gr8); clear own8 gr8 mv8 hc8; obtain ⟨c0, c1, c2, c3, f1, f2, f3, lt⟩ := RD8.out.cells; obtain ⟨z0, z1, zf0, zf1, zlt⟩ := box2_cells ST8.out.pb)
        refine (NX.out q6 w8 RD8.out HQ6.out).mono ?_
        rintro e w9 ⟨o9, okx, rfl, hx⟩
        have ST9 := hid (ST8.out.step RD8.out o9)
        clear o9 c0 c1 c2 c3 f1 f2 f3 lt z0 z1 zf0 zf1 zlt
        cases okx with
        | false =>
         obtain ⟨htb, hrd⟩ : takeB 47 (s.drop q6) = none ∧ PRd w9 Rb ⟨s.toArray⟩ q6 0 0 := by
          rcases hx with ⟨_, h1, h2⟩ | ⟨h, _⟩
          ·exact ⟨h1, h2⟩
          ·cases h
         have HNO := hid (show pathP s = none by rw [HE.out, htb])
         have HRD9 := hid hrd
         clear hx htb hrd
         obtain ⟨c0, c1, c2, c3, f1, f2, f3, lt⟩ := HRD9.out.cells
         go_wp2_with (go_at_call 119; refine (FA.out q6 160 q6 w9 HRD9.out).mono ?_; rintro e w10 ⟨rfl, h10, o10⟩; have ST10 := hid (ST9.out.step HRD9.out o10); have H10 := hid h10; clear h10 o10 c0 c1 c2 c3 f1 f2 f3 lt; obtain ⟨c0, c1, c2, c3, f1, f2, f3, lt⟩ := H10.out.cells; obtain ⟨z0, z1, zf0, zf1, zlt⟩ := box2_cells ST10.out.pb)
         first
          | go_region
          | fail "r19"
         all_goals
          go_wp2_with fail
          refine parse_ret (Pb := w.heap.size) (e := 160) (a := q6) ?_ rfl rfl rfl ?_
          ·exact P2_rowT (.int .i64 160) (.int .i64 q6) ST10.out.pb
          ·exact ⟨Or.inr ⟨HNO.out, 160, q6, by decide, rfl⟩, (P2_below _ _ ST10.out.bel (Nat.le_refl _)).drew⟩
        | true =>
         obtain ⟨htb, hq7, hrd⟩ : takeB 47 (s.drop q6) = some (s.drop (q6 + 1)) ∧ q6 < (⟨s.toArray⟩ : ByteArray).size ∧ PRd w9 Rb ⟨s.toArray⟩ (q6 + 1) 0 0 := by
          rcases hx with ⟨h, _⟩ | ⟨_, h1, h2, h3⟩
          ·cases h
          ·exact ⟨h1, h2, h3⟩
         rw [HSZ.out] at hq7
         have HE2 := hid (show pathP s = stepsP (64 - (zs.length + 1)) (zs.map (·.1) ++ [xs]) (s.drop (q6 + 1)) by rw [HE.out, htb])
         have HU7 := hid (utfB_take (by decide) htb HU6.out)
         have HRD9 := hid hrd
         clear hx htb hrd HE
         go_wp2_with fail
         go_roundg (gk - 1)
         case measure => have := HG.out; have := HL.out; omega
         case rel => exact ⟨zs ++ [(xs, (ax, cx))], q6 + 1, ST9.out, HRD9.out, by omega, HU7.out, by rw [HE2.out]; simp, by have := HL.out; simp; omega, by have := HG.out; have := HL.out; simp; omega⟩
  ·have HNO := hid (show pathP s = none by unfold pathP; rw [if_neg H512.out, if_pos hu])
   go_wp2_with fail
   first
    | go_region
    | fail "r5"
   all_goals
    go_wp2_with fail
    refine parse_ret (Pb := w.heap.size) (e := 6) (a := at') ?_ rfl rfl rfl ?_
    ·exact P2_rowT (.int .i64 6) (.int .i64 at') F3.out
    ·exact ⟨Or.inr ⟨HNO.out, 6, at', by decide, rfl⟩, (P2_below _ _ B3.out (Nat.le_refl _)).drew⟩
theorem pcheck_any (s : Str) (w : World) (hs : s.length ≤ maxLen) : Calls Tryz.prog 53 #[.string ⟨s.toArray⟩] w fun x w' => (∃ (er : Nat) (a : Int), x = .returned (.agg #[.int .i64 er, .int .i64 a]) ∧ (er = 0 ↔ pathB s = true)) ∧ Below w.heap.size w w' := by
 have F0 := hid (heap_alloc_new w (.cells #[.int .i64 0, .int .i64 0] 99))
 have hb0 : Below w.heap.size w (w.alloc (.cells #[.int .i64 0, .int .i64 0] 99)) := (Below.refl _ _).alloc (Nat.le_refl _) _
 have B0 := hid hb0
 have PP := hid (fun W => (show Calls Tryz.prog 74 #[.string ⟨s.toArray⟩] W fun x w' => ∃ (v : Value) (er : Nat) (a : Int), x = .returned (.tuple #[v, .agg #[.int .i64 er, .int .i64 a]]) ∧ (er = 0 ↔ pathB s = true) ∧ Below W.heap.size W w' from
  (pparse_any s W hs).mono (by
   rintro x w' ⟨h, hb⟩
   rcases h with ⟨l, v, h1, h2, _⟩ | ⟨h1, er, a, h2, h3⟩
   ·exact ⟨v, 0, 0, h2, by unfold pathB; rw [h1]; simp, hb⟩
   ·exact ⟨_, er, a, h3, by unfold pathB; rw [h1]; simp [h2], hb⟩)))
 clear hb0
 go_enter Tryz.func53, Tryz.ntmps53
 go_upto_region 1 with fail
 generalize w.alloc (.cells #[.int .i64 0, .int .i64 0] 99) = w1 at *
 go_wp2_with fail
 refine (PP.out w1).mono ?_
 rintro e w2 ⟨v, er, a, rfl, hi, hb2⟩
 have F2 := hid ((hb2.block _ (lt_of_block F0.out)).trans F0.out)
 have B2 := hid (B0.out.then hb2)
 have HI := hid hi
 have hb3 : Below w2.heap.size w2 (w2.alloc (.cells #[.int .i64 er, .int .i64 a] 99)) := (Below.refl _ _).alloc (Nat.le_refl _) _
 have F3 := hid ((hb3.block _ (lt_of_block F2.out)).trans F2.out)
 have B3 := hid (B2.out.then hb3)
 have G3 := hid (heap_alloc_new w2 (.cells #[.int .i64 er, .int .i64 a] 99))
 clear hb2 hb3 hi F2 B2
 go_upto_region 2 with fail
 generalize w2.alloc (.cells #[.int .i64 er, .int .i64 a] 99) = w3 at *
 obtain ⟨z0, z1, zf0, zf1, zlt⟩ := box2_cells F3.out
 obtain ⟨y0, y1, yf0, yf1, ylt⟩ := box2_cells G3.out
 go_wp2_with fail
 have hr := P2_rowT (.int .i64 er) (.int .i64 a) F3.out
 have hbw := P2_below (.int .i64 er) (.int .i64 a) B3.out (Nat.le_refl w.heap.size)
 change bodyPost _ _ _ _ _ (P2 w3 w.heap.size (.int .i64 er) (.int .i64 a))
 generalize P2 w3 w.heap.size (.int .i64 er) (.int .i64 a) = V at *
 obtain ⟨e0, e1, _, _, _⟩ := box2_cells hr
 exact bodyPost_ret (v := .agg #[.int .i64 er, .int .i64 a]) (by simp [results, Tryz.results53, go_sem, e0, e1]) rfl ⟨⟨er, a, rfl, HI.out⟩, hbw⟩
end Go.Proofs.YtjlfchnnhglbjaaGreat
