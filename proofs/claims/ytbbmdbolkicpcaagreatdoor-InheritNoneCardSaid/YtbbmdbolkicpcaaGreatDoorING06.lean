/- PathQ, PtUtf, PtRd, PtVal, PtValue -/
import Derived.Test.YtbbmdbolkicpcaaGreatDoorING04
import Derived.Test.YtbbmdbolkicpcaaGreatDoorING01
import Derived.Lib.OthersKept
import Derived.LoopTactic
import Derived.Deep.LoopGhost
import Derived.Deep.CutBlock
import Derived.BigQuiet
import Derived.Test.YtbbmdbolkicpcaaGreatDoorING05
import Derived.Lib.AppendStr
import Derived.Laws.IdiomStrings
import Derived.Laws.BytesArg
set_option linter.unusedVariables false
set_option linter.unusedSimpArgs false
namespace Go.Proofs.YtbbmdbolkicpcaaGreatDoor
open Go.Lib
theorem u8_ext {a b : UInt8} (h : a.toNat = b.toNat) : a = b := UInt8.toNat_inj.1 h
set_option maxRecDepth 100000 in
theorem utf2 (a b : UInt8) (h1 : a.toNat / 32 = 6) (h2 : b.toNat / 64 = 2) (h3 : a.toNat % 32 * 64 + b.toNat % 64 ≥ 128) :
  (Utf8.encode ((a.toNat % 32 * 64 + b.toNat % 64 : Nat) : Int)).data.toList = [a, b] := by
 have ha := a.toNat_lt
 have hb := b.toNat_lt
 generalize hr : a.toNat % 32 * 64 + b.toNat % 64 = r at *
 have hv : Utf8.valid (r : Int) = true := by simp [Utf8.valid]; omega
 unfold Utf8.encode
 simp only [hv, if_true, Int.toNat_natCast]
 rw [if_neg (by omega), if_pos (by omega)]
 have e1 : UInt8.ofNat (192 + r / 64) = a := u8_ext (by simp; omega)
 have e2 : UInt8.ofNat (128 + r % 64) = b := u8_ext (by simp; omega)
 simp only [e1, e2]
set_option maxRecDepth 100000 in
theorem utf3 (a b c : UInt8) (h1 : a.toNat / 16 = 14) (h2 : b.toNat / 64 = 2) (h4 : c.toNat / 64 = 2) (h3 : a.toNat % 16 * 4096 + b.toNat % 64 * 64 + c.toNat % 64 ≥ 2048)
  (h5 : a.toNat % 16 * 4096 + b.toNat % 64 * 64 + c.toNat % 64 < 55296 ∨ 57344 ≤ a.toNat % 16 * 4096 + b.toNat % 64 * 64 + c.toNat % 64) :
  (Utf8.encode ((a.toNat % 16 * 4096 + b.toNat % 64 * 64 + c.toNat % 64 : Nat) : Int)).data.toList = [a, b, c] := by
 have ha := a.toNat_lt
 have hb := b.toNat_lt
 have hc := c.toNat_lt
 generalize hr : a.toNat % 16 * 4096 + b.toNat % 64 * 64 + c.toNat % 64 = r at *
 have hv : Utf8.valid (r : Int) = true := by simp [Utf8.valid]; omega
 unfold Utf8.encode
 simp only [hv, if_true, Int.toNat_natCast]
 rw [if_neg (by omega), if_neg (by omega), if_pos (by omega)]
 have e1 : UInt8.ofNat (224 + r / 4096) = a := u8_ext (by simp; omega)
 have e2 : UInt8.ofNat (128 + r / 64 % 64) = b := u8_ext (by simp; omega)
 have e3 : UInt8.ofNat (128 + r % 64) = c := u8_ext (by simp; omega)
 simp only [e1, e2, e3]
set_option maxRecDepth 100000 in
theorem utf4 (a b c d : UInt8) (h1 : a.toNat / 8 = 30) (h2 : b.toNat / 64 = 2) (h4 : c.toNat / 64 = 2) (h6 : d.toNat / 64 = 2)
  (h3 : a.toNat % 8 * 262144 + b.toNat % 64 * 4096 + c.toNat % 64 * 64 + d.toNat % 64 ≥ 65536) (h5 : a.toNat % 8 * 262144 + b.toNat % 64 * 4096 + c.toNat % 64 * 64 + d.toNat % 64 ≤ 1114111) :
  (Utf8.encode ((a.toNat % 8 * 262144 + b.toNat % 64 * 4096 + c.toNat % 64 * 64 + d.toNat % 64 : Nat) : Int)).data.toList = [a, b, c, d] := by
 have ha := a.toNat_lt
 have hb := b.toNat_lt
 have hc := c.toNat_lt
 have hd := d.toNat_lt
 generalize hr : a.toNat % 8 * 262144 + b.toNat % 64 * 4096 + c.toNat % 64 * 64 + d.toNat % 64 = r at *
 have hv : Utf8.valid (r : Int) = true := by simp [Utf8.valid]; omega
 unfold Utf8.encode
 simp only [hv, if_true, Int.toNat_natCast]
 rw [if_neg (by omega), if_neg (by omega), if_neg (by omega)]
 have e1 : UInt8.ofNat (240 + r / 262144) = a := u8_ext (by simp; omega)
 have e2 : UInt8.ofNat (128 + r / 4096 % 64) = b := u8_ext (by simp; omega)
 have e3 : UInt8.ofNat (128 + r / 64 % 64) = c := u8_ext (by simp; omega)
 have e4 : UInt8.ofNat (128 + r % 64) = d := u8_ext (by simp; omega)
 simp only [e1, e2, e3, e4]
inductive Sound : Str → Nat → Nat → Prop
 | one (c : UInt8) (t : Str) (h : c.toNat < 128) : Sound (c :: t) c.toNat 1
 | more (run t : Str) (r : Nat) (h2 : 2 ≤ run.length) (h4 : run.length ≤ 4) (hr : 128 ≤ r) (hm : r ≤ 1114111) (hb : ∀ c ∈ run, 128 ≤ c.toNat) (he : (Utf8.encode (r : Int)).data.toList = run) : Sound (run ++ t) r run.length
set_option maxRecDepth 100000 in
theorem sound_of : ∀ (l : Str), l ≠ [] → decodeL l ≠ (65533, 1) → Sound l (decodeL l).1 (decodeL l).2
 | [], h, _ => absurd rfl h
 | a :: t, _, h => by
  have ha := a.toNat_lt
  rw [decodeL_N] at h ⊢
  simp only [List.getD_cons_zero, List.getD_cons_succ, List.length_cons] at h ⊢
  unfold decodeN at h ⊢
  by_cases h1 : a.toNat < 128
  ·simp only [h1, if_true]; exact Sound.one a t h1
  ·simp only [h1, if_false] at h ⊢
   match t with
   | [] => simp at h
   | b :: t =>
    have hb := b.toNat_lt
    simp only [List.getD_cons_zero, List.getD_cons_succ, List.length_cons] at h ⊢
    split at h
    ·next c2 =>
     split at h
     ·next c3 =>
      rw [if_pos c2, if_pos c3]
      have he := utf2 a b c2.1 c2.2.2 c3
      have h5 : ∀ c ∈ [a, b], 128 ≤ c.toNat := by
       intro c hc
       rcases List.mem_cons.1 hc with rfl | hc
       ·omega
       ·rw [List.mem_singleton.1 hc]; omega
      have h6 : a.toNat % 32 * 64 + b.toNat % 64 ≤ 1114111 := by omega
      simp only
      generalize a.toNat % 32 * 64 + b.toNat % 64 = r at *
      exact Sound.more [a, b] t r (by simp) (by simp) c3 h6 h5 he
     ·exact absurd rfl h
    ·next c2 =>
     rw [if_neg c2]
     match t with
     | [] => simp at h
     | c :: t =>
      have hc := c.toNat_lt
      simp only [List.getD_cons_zero, List.getD_cons_succ, List.length_cons] at h ⊢
      split at h
      ·next c4 =>
       split at h
       ·next c5 =>
        rw [if_pos c4, if_pos c5]
        have he := utf3 a b c c4.1 c4.2.1.2 c4.2.2.2 c5.1 (by omega)
        have h5 : ∀ x ∈ [a, b, c], 128 ≤ x.toNat := by
         intro x hx
         rcases List.mem_cons.1 hx with rfl | hx
         ·omega
         ·rcases List.mem_cons.1 hx with rfl | hx
          ·omega
          ·rw [List.mem_singleton.1 hx]; omega
        have h6 : a.toNat % 16 * 4096 + b.toNat % 64 * 64 + c.toNat % 64 ≤ 1114111 := by omega
        have h7 : 128 ≤ a.toNat % 16 * 4096 + b.toNat % 64 * 64 + c.toNat % 64 := by omega
        simp only
        generalize a.toNat % 16 * 4096 + b.toNat % 64 * 64 + c.toNat % 64 = r at *
        exact Sound.more [a, b, c] t r (by simp) (by simp) h7 h6 h5 he
       ·exact absurd rfl h
      ·next c4 =>
       rw [if_neg c4]
       match t with
       | [] => simp at h
       | d :: t =>
        have hd := d.toNat_lt
        simp only [List.getD_cons_zero, List.getD_cons_succ, List.length_cons] at h ⊢
        split at h
        ·next c6 =>
         split at h
         ·next c7 =>
          rw [if_pos c6, if_pos c7]
          have he := utf4 a b c d c6.1 c6.2.1.2 c6.2.2.1.2 c6.2.2.2.2 c7.1 (by omega)
          have h5 : ∀ x ∈ [a, b, c, d], 128 ≤ x.toNat := by
           intro x hx
           rcases List.mem_cons.1 hx with rfl | hx
           ·omega
           ·rcases List.mem_cons.1 hx with rfl | hx
            ·omega
            ·rcases List.mem_cons.1 hx with rfl | hx
             ·omega
             ·rw [List.mem_singleton.1 hx]; omega
          have h6 : a.toNat % 8 * 262144 + b.toNat % 64 * 4096 + c.toNat % 64 * 64 + d.toNat % 64 ≤ 1114111 := by omega
          have h7 : 128 ≤ a.toNat % 8 * 262144 + b.toNat % 64 * 4096 + c.toNat % 64 * 64 + d.toNat % 64 := by omega
          simp only
          generalize a.toNat % 8 * 262144 + b.toNat % 64 * 4096 + c.toNat % 64 * 64 + d.toNat % 64 = r at *
          exact Sound.more [a, b, c, d] t r (by simp) (by simp) h7 h6 h5 he
         ·exact absurd rfl h
        ·exact absurd rfl h
theorem utfB_sound {l : Str} (hl : l ≠ []) (h : utfB l = true) : Sound l (decodeL l).1 (decodeL l).2 ∧ utfB (l.drop (decodeL l).2) = true := by
 rw [utfB_step hl] at h
 simp only [Bool.and_eq_true, Bool.not_eq_true', beq_eq_false_iff_ne] at h
 exact ⟨sound_of l hl h.1, h.2⟩
theorem run_no {c : UInt8} (h : 128 ≤ c.toNat) : specB c = false ∧ c ≠ 92 ∧ c ≠ 93 ∧ (ctlB c || c == 91 || c == 47 || c == 61) = false := by
 have k : ∀ d : UInt8, d.toNat < 128 → c ≠ d := fun d hd e => by rw [e] at h; omega
 have k2 : ∀ d : UInt8, d.toNat < 128 → (c == d) = false := fun d hd => beq_eq_false_iff_ne.2 (k d hd)
 refine ⟨?_, k 92 (by decide), k 93 (by decide), ?_⟩
 ·simp [specB, k2 91 (by decide), k2 93 (by decide), k2 47 (by decide), k2 61 (by decide), k2 92 (by decide)]
 ·simp [ctlB, k2 91 (by decide), k2 47 (by decide), k2 61 (by decide)]; omega
theorem valueP_run : ∀ (run acc t : Str), (∀ c ∈ run, 128 ≤ c.toNat) → valueP false acc (run ++ t) = valueP false (acc ++ run) t
 | [], acc, t, _ => by simp
 | c :: r, acc, t, h => by
  obtain ⟨_, h2, h3, h4⟩ := run_no (h c (List.mem_cons_self ..))
  simp only [List.cons_append, valueP]
  rw [if_neg h2, if_neg h3, h4]
  simp only [Bool.false_eq_true, if_false]
  rw [valueP_run r (acc ++ [c]) t (fun d hd => h d (List.mem_cons_of_mem _ hd)), List.append_assoc, List.singleton_append]
end Go.Proofs.YtbbmdbolkicpcaaGreatDoor
namespace Go.Proofs.YtbbmdbolkicpcaaGreatDoor
open Go.RowKit Go.Lib
theorem u8_eq (c d : UInt8) : ((c.toNat : Int) == (d.toNat : Int)) = (c == d) := by
 rw [Bool.eq_iff_iff, beq_iff_eq, beq_iff_eq]
 exact ⟨fun h => UInt8.toNat_inj.1 (by omega), fun h => by rw [h]⟩
theorem nameStart_any (c : UInt8) (w : World) : Calls Tryz.prog 100 #[.int .u8 (c.toNat : Int)] w fun e w' => e = .returned (.bool (startB c)) ∧ w' = w := by
 have h95 : ((c.toNat : Int) == 95) = (c == 95) := u8_eq c 95
 have LT := hid (letter_any c w)
 cases hl : letB c
 ·rw [hl] at LT
  go_enter Tryz.func100, Tryz.ntmps100
  go_wp2_with (go_at_call 144; refine LT.out.mono ?_; rintro e w' ⟨rfl, rfl⟩)
  go_ret
  exact ⟨ret_bool (by simp [startB, hl]), rfl⟩
 ·rw [hl] at LT
  go_enter Tryz.func100, Tryz.ntmps100
  go_wp2_with (go_at_call 144; refine LT.out.mono ?_; rintro e w' ⟨rfl, rfl⟩)
  go_ret
  exact ⟨ret_bool (by simp [startB, hl]), rfl⟩
theorem nameByte_any (c : UInt8) (w : World) : Calls Tryz.prog 101 #[.int .u8 (c.toNat : Int)] w fun e w' => e = .returned (.bool (nameB c)) ∧ w' = w := by
 have h45 : ((c.toNat : Int) == 45) = (c == 45) := u8_eq c 45
 have h46 : ((c.toNat : Int) == 46) = (c == 46) := u8_eq c 46
 have NS := hid (nameStart_any c w)
 have DG := hid (digit_any c w)
 cases hs : startB c <;> cases hd : digB c <;> cases h1 : (c == 45) <;> cases h2 : (c == 46)
 all_goals
  rw [hs] at NS
  rw [hd] at DG
  rw [h1] at h45
  rw [h2] at h46
  go_enter Tryz.func101, Tryz.ntmps101
  go_wp2_with (first
   | (go_at_call 100; refine NS.out.mono ?_; rintro e w' ⟨rfl, rfl⟩)
   | (go_at_call 145; refine DG.out.mono ?_; rintro e w' ⟨rfl, rfl⟩))
  go_ret
  exact ⟨ret_bool (by simp [nameB, hs, hd, h1, h2]), rfl⟩
theorem dec_le {l : Str} (hl : l ≠ []) : (decodeL l).2 ≤ l.length ∧ 1 ≤ (decodeL l).2 := by
 refine ⟨?_, (rune_any l).pos⟩
 by_cases hb : decodeL l = (65533, 1)
 ·rw [hb]; cases l with
  | nil => exact absurd rfl hl
  | cons c t => simp
 ·have hs := sound_of l hl hb
  generalize (decodeL l).1 = r at hs
  generalize (decodeL l).2 = k at hs
  cases hs with
  | one c t h => simp
  | more run t r h2 h4 hr hm hb he => simp
theorem dec_at (s : Str) (pos : Nat) : Utf8.decode ⟨s.toArray⟩ pos = decodeL (s.drop pos) := (decodeL_drop ⟨s.toArray⟩ pos).symm
def seenB (s : Str) (pos last : Nat) (brk : Bool) : Bool := if brk && decide (pos = last + 1) then false else utfB (s.drop pos)
set_option maxRecDepth 100000 in
set_option maxHeartbeats 4000000 in
theorem ucheck_any (s : Str) (w : World) (hs : s.length ≤ maxLen) :
  Calls Tryz.prog 83 #[.string ⟨s.toArray⟩] w fun e w' => (∃ (er : Nat) (at' : Int), e = .returned (.agg #[.int .i64 er, .int .i64 at']) ∧ ((utfB s = true ∧ er = 0 ∧ at' = 0) ∨ (utfB s = false ∧ er = 6))) ∧ Below w.heap.size w w' := by
 have hs2 : s.length ≤ 9223372036854775807 := by unfold maxLen at hs; omega
 have F0 := hid (heap_alloc_new w (.cells #[.int .i64 0, .int .i64 0] 77))
 have B0 := hid ((Below.refl w.heap.size w).alloc (Nat.le_refl _) (.cells #[.int .i64 0, .int .i64 0] 77))
 go_enter Tryz.func83, Tryz.ntmps83
 go_upto_region 1 with fail
 generalize w.alloc (.cells #[.int .i64 0, .int .i64 0] 77) = w1 at *
 have hsz1 : w.heap.size < w1.heap.size := lt_of_block F0.out
 go_wp2_with fail
 go_loopw [3, 4] (fun v3 v4 wr => ∃ (pos last : Nat) (brk : Bool), v3 = .int .i64 last ∧ v4 = .bool brk ∧ pos ≤ s.length ∧ last ≤ pos ∧ wr.heap[w.heap.size]? = some (.cells #[.int .i64 0, .int .i64 0] 77 (0, 0)) ∧ wr.heap[w1.heap.size]? = some (.stringIter ⟨s.toArray⟩ pos) ∧ Below w.heap.size w wr ∧ utfB s = seenB s pos last brk) (fun _ _ wr => s.length - wr.iterPos w1.heap.size)
 case atStart =>
  exact ⟨0, 0, false, rfl, rfl, Nat.zero_le _, Nat.le_refl _, (heap_alloc_old w1 _ hsz1).trans F0.out, World.iter_heap w1 _ 0, B0.out.alloc (by omega) _, rfl⟩
 case round =>
  obtain ⟨pos, last, brk, rfl, rfl, hpos, hlast, hF, hit, hbw, hseen⟩ := hrel
  have HS := hid hseen
  clear hseen F0 B0
  by_cases hp : pos < s.length
  ·have hne : s.drop pos ≠ [] := by intro e; have := congrArg List.length e; simp at this; omega
   have hdl := dec_le hne
   have hst := hid (utfB_step hne)
   have hnx : ∀ ty, (Instr.next (.pointer (some ⟨w1.heap.size, 0, none⟩)) true ty).run Tryz.prog wr = _ := fun ty => Lib.run_next_any_at wr w1.heap.size ⟨s.toArray⟩ pos ty hit (by rw [Lib.size_eq]; exact hp)
   simp only [dec_at] at hnx
   rw [List.length_drop] at hdl
   rw [List.drop_drop] at hst
   generalize hd : decodeL (s.drop pos) = rk at *
   obtain ⟨r, k⟩ := rk
   simp only at hnx hdl hst
   have hF2 := hid ((Lib.iterAt_other wr w1.heap.size w.heap.size ⟨s.toArray⟩ (pos + k) (by omega)).trans hF)
   have hit2 := hid (Lib.iterAt_heap wr w1.heap.size ⟨s.toArray⟩ pos (pos + k) hit)
   have hbw2 := hid (Lib.below_iterAt hbw (k := w1.heap.size) (by omega) ⟨s.toArray⟩ (pos + k))
   have hsz2 : wr.heap.size = (wr.iterAt w1.heap.size ⟨s.toArray⟩ (pos + k)).heap.size := (Lib.iterAt_size wr w1.heap.size ⟨s.toArray⟩ (pos + k)).symm
   have hpk : pos + k ≤ s.length := by omega
   by_cases hbr : brk = true ∧ pos = last + 1
   ·obtain ⟨rfl, hpl⟩ := hbr
    have he1 : ((pos : Int) - (last : Int) == 1) = true := by rw [beq_iff_eq]; omega
    have hf : utfB s = false := by have := HS.out; rw [this]; simp [seenB, hpl]
    have HFF := hid hf
    clear hf hst HS hpl
    go_upto_region 6 with fail
    generalize wr.iterAt w1.heap.size ⟨s.toArray⟩ (pos + k) = w2 at *
    have c0 : w2.cell? ⟨w.heap.size, 0, none⟩ = some (.int .i64 0) := by rw [cell_of_row _ _ _ _ _ _ hF2.out]; rfl
    have c1 : w2.cell? ⟨w.heap.size, 1, none⟩ = some (.int .i64 0) := by rw [cell_of_row _ _ _ _ _ _ hF2.out]; rfl
    have fz0 := frozen_of_row w2 w.heap.size 0 _ _ hF2.out
    have fz1 := frozen_of_row w2 w.heap.size 1 _ _ hF2.out
    have lt0 := lt_of_block hF2.out
    go_wp2_with fail
    have hr : ((w2.setCell ⟨w.heap.size, 0, none⟩ (.int .i64 6)).setCell ⟨w.heap.size, 1, none⟩ (.int .i64 last)).heap[w.heap.size]? = some (.cells #[.int .i64 6, .int .i64 last] 77 (0, 0)) := by
     rw [heap_setCell_same _ _ _ _ _ _ (heap_setCell_same _ _ _ _ _ _ hF2.out)]; simp
    have hb2 := (hbw2.out.setCell (p := ⟨w.heap.size, 0, none⟩) (Nat.le_refl _) (.int .i64 6)).setCell (p := ⟨w.heap.size, 1, none⟩) (Nat.le_refl _) (.int .i64 last)
    generalize (w2.setCell ⟨w.heap.size, 0, none⟩ (.int .i64 6)).setCell ⟨w.heap.size, 1, none⟩ (.int .i64 last) = V at *
    have e0 : V.cell? ⟨w.heap.size, 0, none⟩ = some (.int .i64 6) := by rw [cell_of_row _ _ _ _ _ _ hr]; rfl
    have e1 : V.cell? ⟨w.heap.size, 1, none⟩ = some (.int .i64 last) := by rw [cell_of_row _ _ _ _ _ _ hr]; rfl
    refine bodyPost_ret (v := .agg #[.int .i64 6, .int .i64 last]) (by simp [results, Tryz.results83, go_sem, e0, e1]) rfl ⟨⟨6, last, rfl, Or.inr ⟨HFF.out, rfl⟩⟩, hb2⟩
   ·have HN := hid (show utfB s = seenB s (pos + k) pos (decide (r = 65533)) from by
     rw [HS.out]
     have h1 : seenB s pos last brk = utfB (s.drop pos) := by
      unfold seenB
      rw [if_neg (by simpa using hbr)]
     rw [h1, hst]
     unfold seenB
     by_cases hr : r = 65533
     ·by_cases hk : k = 1
      ·simp [hr, hk]
      ·simp [hr, hk]
     ·simp [hr])
    have hre : ((r : Int) == 65533) = decide (r = 65533) := by
     rw [Bool.eq_iff_iff, beq_iff_eq, decide_eq_true_iff]; omega
    have hbr2 : brk = true → ((pos : Int) - (last : Int) == 1) = false := fun e => by rw [beq_eq_false_iff_ne]; intro h; exact hbr ⟨e, by omega⟩
    have hps : (pos : Int) - (last : Int) ≤ 9223372036854775807 := by omega
    clear hst HS hbr
    cases brk with
    | true =>
     have hbr3 := hbr2 rfl
     clear hbr2
     go_wp2_with fail
     generalize wr.iterAt w1.heap.size ⟨s.toArray⟩ (pos + k) = w2 at *
     go_roundw
     case rel => exact ⟨pos + k, pos, decide (r = 65533), rfl, by first | rfl | rw [hre], hpk, by omega, hF2.out, hit2.out, hbw2.out, HN.out⟩
     case measure => simp only [World.iterPos, hit2.out, hit]; omega
    | false =>
     clear hbr2
     go_wp2_with fail
     generalize wr.iterAt w1.heap.size ⟨s.toArray⟩ (pos + k) = w2 at *
     go_roundw
     case rel => exact ⟨pos + k, pos, decide (r = 65533), rfl, by first | rfl | rw [hre], hpk, by omega, hF2.out, hit2.out, hbw2.out, HN.out⟩
     case measure => simp only [World.iterPos, hit2.out, hit]; omega
  ·have hnx : ∀ ty, (Instr.next (.pointer (some ⟨w1.heap.size, 0, none⟩)) true ty).run Tryz.prog wr = _ := fun ty => Lib.run_next_end_at wr w1.heap.size ⟨s.toArray⟩ pos ty hit (by rw [Lib.size_eq]; exact hp)
   have hpe : pos = s.length := by omega
   have c0 : wr.cell? ⟨w.heap.size, 0, none⟩ = some (.int .i64 0) := by rw [cell_of_row _ _ _ _ _ _ hF]; rfl
   have c1 : wr.cell? ⟨w.heap.size, 1, none⟩ = some (.int .i64 0) := by rw [cell_of_row _ _ _ _ _ _ hF]; rfl
   have fz0 := frozen_of_row wr w.heap.size 0 _ _ hF
   have fz1 := frozen_of_row wr w.heap.size 1 _ _ hF
   have lt0 := lt_of_block hF
   by_cases hbr : brk = true ∧ pos = last + 1
   ·obtain ⟨rfl, hpl⟩ := hbr
    have hlen : ((s.length : Int) - (last : Int) == 1) = true := by rw [beq_iff_eq]; omega
    have hf : utfB s = false := by have := HS.out; rw [this]; simp [seenB, hpl]
    have HFF := hid hf
    have HF2 := hid hF
    have HBW := hid hbw
    clear hf HS hF hbw hpl hpe
    go_wp2_with fail
    have hr : ((wr.setCell ⟨w.heap.size, 0, none⟩ (.int .i64 6)).setCell ⟨w.heap.size, 1, none⟩ (.int .i64 last)).heap[w.heap.size]? = some (.cells #[.int .i64 6, .int .i64 last] 77 (0, 0)) := by
     rw [heap_setCell_same _ _ _ _ _ _ (heap_setCell_same _ _ _ _ _ _ HF2.out)]; simp
    have hb2 := (HBW.out.setCell (p := ⟨w.heap.size, 0, none⟩) (Nat.le_refl _) (.int .i64 6)).setCell (p := ⟨w.heap.size, 1, none⟩) (Nat.le_refl _) (.int .i64 last)
    generalize (wr.setCell ⟨w.heap.size, 0, none⟩ (.int .i64 6)).setCell ⟨w.heap.size, 1, none⟩ (.int .i64 last) = V at *
    have e0 : V.cell? ⟨w.heap.size, 0, none⟩ = some (.int .i64 6) := by rw [cell_of_row _ _ _ _ _ _ hr]; rfl
    have e1 : V.cell? ⟨w.heap.size, 1, none⟩ = some (.int .i64 last) := by rw [cell_of_row _ _ _ _ _ _ hr]; rfl
    refine bodyPost_ret (v := .agg #[.int .i64 6, .int .i64 last]) (by simp [results, Tryz.results83, go_sem, e0, e1]) rfl ⟨⟨6, last, rfl, Or.inr ⟨HFF.out, rfl⟩⟩, hb2⟩
   ·have ht : utfB s = true := by
     rw [HS.out]
     unfold seenB
     rw [if_neg (by simpa using hbr), hpe, List.drop_length]; rfl
    have hbr2 : brk = true → ((s.length : Int) - (last : Int) == 1) = false := fun e => by rw [beq_eq_false_iff_ne]; intro h; exact hbr ⟨e, by omega⟩
    have HTT := hid ht
    have HF2 := hid hF
    have HBW := hid hbw
    clear ht HS hF hbw hbr hpe
    cases brk with
    | true =>
     have hbr3 := hbr2 rfl
     clear hbr2
     go_wp2_with fail
     have hr : ((wr.setCell ⟨w.heap.size, 0, none⟩ (.int .i64 0)).setCell ⟨w.heap.size, 1, none⟩ (.int .i64 0)).heap[w.heap.size]? = some (.cells #[.int .i64 0, .int .i64 0] 77 (0, 0)) := by
      rw [heap_setCell_same _ _ _ _ _ _ (heap_setCell_same _ _ _ _ _ _ HF2.out)]; simp
     have hb2 := (HBW.out.setCell (p := ⟨w.heap.size, 0, none⟩) (Nat.le_refl _) (.int .i64 0)).setCell (p := ⟨w.heap.size, 1, none⟩) (Nat.le_refl _) (.int .i64 0)
     generalize (wr.setCell ⟨w.heap.size, 0, none⟩ (.int .i64 0)).setCell ⟨w.heap.size, 1, none⟩ (.int .i64 0) = V at *
     have e0 : V.cell? ⟨w.heap.size, 0, none⟩ = some (.int .i64 0) := by rw [cell_of_row _ _ _ _ _ _ hr]; rfl
     have e1 : V.cell? ⟨w.heap.size, 1, none⟩ = some (.int .i64 0) := by rw [cell_of_row _ _ _ _ _ _ hr]; rfl
     refine bodyPost_ret (v := .agg #[.int .i64 0, .int .i64 0]) (by simp [results, Tryz.results83, go_sem, e0, e1]) rfl ⟨⟨0, 0, rfl, Or.inl ⟨HTT.out, rfl, rfl⟩⟩, hb2⟩
    | false =>
     clear hbr2
     go_wp2_with fail
     have hr : ((wr.setCell ⟨w.heap.size, 0, none⟩ (.int .i64 0)).setCell ⟨w.heap.size, 1, none⟩ (.int .i64 0)).heap[w.heap.size]? = some (.cells #[.int .i64 0, .int .i64 0] 77 (0, 0)) := by
      rw [heap_setCell_same _ _ _ _ _ _ (heap_setCell_same _ _ _ _ _ _ HF2.out)]; simp
     have hb2 := (HBW.out.setCell (p := ⟨w.heap.size, 0, none⟩) (Nat.le_refl _) (.int .i64 0)).setCell (p := ⟨w.heap.size, 1, none⟩) (Nat.le_refl _) (.int .i64 0)
     generalize (wr.setCell ⟨w.heap.size, 0, none⟩ (.int .i64 0)).setCell ⟨w.heap.size, 1, none⟩ (.int .i64 0) = V at *
     have e0 : V.cell? ⟨w.heap.size, 0, none⟩ = some (.int .i64 0) := by rw [cell_of_row _ _ _ _ _ _ hr]; rfl
     have e1 : V.cell? ⟨w.heap.size, 1, none⟩ = some (.int .i64 0) := by rw [cell_of_row _ _ _ _ _ _ hr]; rfl
     refine bodyPost_ret (v := .agg #[.int .i64 0, .int .i64 0]) (by simp [results, Tryz.results83, go_sem, e0, e1]) rfl ⟨⟨0, 0, rfl, Or.inl ⟨HTT.out, rfl, rfl⟩⟩, hb2⟩
end Go.Proofs.YtbbmdbolkicpcaaGreatDoor
namespace Go.Proofs.YtbbmdbolkicpcaaGreatDoor
open Go.RowKit Go.Lib
def prd (b : ByteArray) (p er : Nat) (ea : Int) : Array Value := #[.string b, .int .i64 p, .int .i64 er, .int .i64 ea]
def PRd (W : World) (Br : Nat) (b : ByteArray) (p er : Nat) (ea : Int) : Prop := W.heap[Br]? = some (.cells (prd b p er ea) 147 (0, 0))
theorem PRd.cells {W : World} {Br : Nat} {b : ByteArray} {p er : Nat} {ea : Int} (h : PRd W Br b p er ea) :
  W.cell? ⟨Br, 0, none⟩ = some (.string b) ∧ W.cell? ⟨Br, 1, none⟩ = some (.int .i64 p) ∧ W.cell? ⟨Br, 2, none⟩ = some (.int .i64 er) ∧ W.cell? ⟨Br, 3, none⟩ = some (.int .i64 ea) ∧
  W.frozen? ⟨Br, 1, none⟩ = false ∧ W.frozen? ⟨Br, 2, none⟩ = false ∧ W.frozen? ⟨Br, 3, none⟩ = false ∧ Br < W.heap.size := by
 unfold PRd at h
 refine ⟨?_, ?_, ?_, ?_, frozen_of_row _ _ _ _ _ h, frozen_of_row _ _ _ _ _ h, frozen_of_row _ _ _ _ _ h, lt_of_block h⟩
 all_goals rw [cell_of_row _ _ _ _ _ _ h]; rfl
theorem PRd.setAt {W : World} {Br : Nat} {b : ByteArray} {p er : Nat} {ea : Int} (h : PRd W Br b p er ea) (q : Nat) : PRd (W.setCell ⟨Br, 1, none⟩ (.int .i64 q)) Br b q er ea := by
 unfold PRd at *
 rw [heap_setCell_same _ _ _ _ _ _ h]; simp [prd]
theorem PRd.setSpot {W : World} {Br : Nat} {b : ByteArray} {p er : Nat} {ea : Int} (h : PRd W Br b p er ea) (e : Nat) (a : Int) : PRd ((W.setCell ⟨Br, 2, none⟩ (.int .i64 e)).setCell ⟨Br, 3, none⟩ (.int .i64 a)) Br b p e a := by
 unfold PRd at *
 rw [heap_setCell_same _ _ _ _ _ _ (heap_setCell_same _ _ _ _ _ _ h)]; simp [prd]
theorem PRd.drewN {W : World} {Br : Nat} {b : ByteArray} {p er : Nat} {ea : Int} (h : PRd W Br b p er ea) (q : Nat) : PRd (W.drewN q) Br b p er ea := h
theorem PRd.below {W W' : World} {Br : Nat} {b : ByteArray} {p er : Nat} {ea : Int} (h : PRd W Br b p er ea) (hb : Below W.heap.size W W') : PRd W' Br b p er ea := (hb.block _ (lt_of_block h)).trans h
theorem Only.drewN {b : Nat} {a w : World} (h : Only b a w) (q : Nat) : Only b a (w.drewN q) := ⟨h.os, h.tape, h.output, h.size, h.block⟩
theorem pfail_any (Br : Nat) (b : ByteArray) (p er : Nat) (ea : Int) (e : Nat) (a : Int) (w : World) (h : PRd w Br b p er ea) :
  Calls Tryz.prog 84 #[.pointer (some ⟨Br, 0, none⟩), .int .i64 e, .int .i64 a] w fun x w' => x = .returned (.bool false) ∧ PRd w' Br b p e a ∧ Only Br w w' := by
 obtain ⟨c0, c1, c2, c3, f1, f2, f3, lt⟩ := h.cells
 have H := hid h
 clear h
 go_enter Tryz.func84, Tryz.ntmps84
 go_wp2_with fail
 go_ret
 exact ⟨rfl, H.out.setSpot e a, ((Only.refl w Br).set _ _).set _ _⟩
theorem takeB_at (b : ByteArray) (p : Nat) (c : UInt8) (h : p < b.size) : takeB c (b.data.toList.drop p) = if b[p] = c then some (b.data.toList.drop (p + 1)) else none := by
 have hl : p < b.data.toList.length := by rw [← Lib.size_eq]; exact h
 rw [List.drop_eq_getElem_cons hl]
 rfl
theorem takeB_end (b : ByteArray) (p : Nat) (c : UInt8) (h : ¬ p < b.size) : takeB c (b.data.toList.drop p) = none := by
 rw [List.drop_eq_nil_of_le (by rw [← Lib.size_eq]; omega)]; rfl
set_option maxHeartbeats 1000000 in
theorem pnext_any (Br : Nat) (b : ByteArray) (p er : Nat) (ea : Int) (c : UInt8) (w : World) (h : PRd w Br b p er ea) (hp : p ≤ b.size) (hb : b.size ≤ 1000) :
  Calls Tryz.prog 86 #[.pointer (some ⟨Br, 0, none⟩), .int .u8 (c.toNat : Int)] w fun x w' => x = .returned (.bool (takeB c (b.data.toList.drop p)).isSome) ∧ PRd w' Br b (if (takeB c (b.data.toList.drop p)).isSome then p + 1 else p) er ea ∧ Only Br w w' := by
 have H := hid h
 by_cases hlt : p < b.size
 ·have hTB := takeB_at b p c hlt
  have hpi : (p : Int) < (b.size : Int) := by omega
  have hp0 : (0 : Int) ≤ (p : Int) := by omega
  by_cases hc : b[p] = c
  ·have hx : ((b[p].toNat : Int) == (c.toNat : Int)) = true := by rw [u8_eq, hc]; simp
   rw [if_pos hc] at hTB
   rw [hTB]
   obtain ⟨c0, c1, c2, c3, f1, f2, f3, lt⟩ := h.cells
   clear h hTB hc
   go_enter Tryz.func86, Tryz.ntmps86
   go_wp2_with fail
   go_quiet (fail)
   have H2 := hid (H.out.drewN nq)
   have O2 := hid ((Only.refl w Br).drewN nq)
   clear c0 c1 c2 c3 f1 f2 f3 lt H
   generalize w.drewN nq = w2 at *
   obtain ⟨c0, c1, c2, c3, f1, f2, f3, lt⟩ := H2.out.cells
   go_wp2_with fail
   go_ret
   exact ⟨rfl, H2.out.setAt (p + 1), O2.out.set _ _⟩
  ·have hx : ((b[p].toNat : Int) == (c.toNat : Int)) = false := by rw [u8_eq]; simpa using hc
   rw [if_neg hc] at hTB
   rw [hTB]
   obtain ⟨c0, c1, c2, c3, f1, f2, f3, lt⟩ := h.cells
   clear h hTB hc
   go_enter Tryz.func86, Tryz.ntmps86
   go_wp2_with fail
   go_quiet (fail)
   go_wp2_with fail
   go_ret
   exact ⟨rfl, H.out.drewN _, (Only.refl w Br).drewN _⟩
 ·rw [takeB_end b p c hlt]
  obtain ⟨c0, c1, c2, c3, f1, f2, f3, lt⟩ := h.cells
  have HD := hid (show decide (p < b.size) = false from decide_eq_false hlt)
  clear h hlt
  go_enter Tryz.func86, Tryz.ntmps86
  go_wp2_with fail
  have hd := HD.out
  go_quiet (fail)
  go_wp2_with fail
  go_ret
  exact ⟨rfl, H.out.drewN _, (Only.refl w Br).drewN _⟩
theorem takeWhile_at {p : UInt8 → Bool} : ∀ (l : Str) (k : Nat), k ≤ l.length → (l.take k).all p = true → (∀ c, l[k]? = some c → p c = false) → l.takeWhile p = l.take k ∧ l.dropWhile p = l.drop k
 | [], k, hk, _, _ => by simp
 | c :: t, 0, hk, _, h => by
  have := h c rfl
  simp [List.takeWhile_cons, List.dropWhile_cons, this]
 | c :: t, k + 1, hk, ha, h => by
  simp only [List.take_succ_cons, List.all_cons, Bool.and_eq_true] at ha
  have ih := takeWhile_at t k (by simpa using hk) ha.2 (fun d hd => h d (by simpa using hd))
  simp [List.takeWhile_cons, List.dropWhile_cons, ha.1, ih]
theorem nameP_none {s : Str} (h : headB startB s = false) : nameP s = none := by unfold nameP; rw [h]; simp
theorem nameP_at {s : Str} {k : Nat} (h : headB startB s = true) (h1 : s.takeWhile nameB = s.take k) (h2 : s.dropWhile nameB = s.drop k) (hk : k ≤ s.length) : nameP s = if k ≤ 64 then some (s.take k, s.drop k) else none := by
 unfold nameP
 rw [h, h1, h2, List.length_take, Nat.min_eq_left hk]
 by_cases h64 : k ≤ 64
 ·simp [h64]
 ·simp [h64]
theorem head_at (b : ByteArray) (p : Nat) (h : p < b.size) : headB startB (b.data.toList.drop p) = startB b[p] := by
 have hl : p < b.data.toList.length := by rw [← Lib.size_eq]; exact h
 rw [List.drop_eq_getElem_cons hl]; rfl
theorem head_end (b : ByteArray) (p : Nat) (h : ¬ p < b.size) : headB startB (b.data.toList.drop p) = false := by
 rw [List.drop_eq_nil_of_le (by rw [← Lib.size_eq]; omega)]; rfl
theorem takeAll_more {p : UInt8 → Bool} (b : ByteArray) (q k : Nat) (h : q + k < b.size) (ha : ((b.data.toList.drop q).take k).all p = true) (hc : p b[q + k] = true) : ((b.data.toList.drop q).take (k + 1)).all p = true := by
 have hl : k < (b.data.toList.drop q).length := by rw [List.length_drop, ← Lib.size_eq]; omega
 rw [List.take_succ_eq_append_getElem hl, List.all_append, ha]
 simp only [List.all_cons, List.all_nil, Bool.and_true, Bool.true_and, List.getElem_drop]
 exact hc
theorem ext_at (b : ByteArray) (p q : Nat) : b.extract p q = ⟨((b.data.toList.drop p).take (q - p)).toArray⟩ := by
 have h : (b.extract p q).data.toList = (b.data.toList.drop p).take (q - p) := by
  rw [ByteArray.data_extract, Array.toList_extract]
 rw [← h]
def NameRes (Br : Nat) (b : ByteArray) (p : Nat) (w : World) (x : Ending) (w' : World) : Prop :=
 (∃ n r q, nameP (b.data.toList.drop p) = some (n, r) ∧ x = .returned (.tuple #[.string ⟨n.toArray⟩, .bool true]) ∧ PRd w' Br b q 0 0 ∧ q ≤ b.size ∧ p ≤ q ∧ r = b.data.toList.drop q ∧ Only Br w w') ∨
 (nameP (b.data.toList.drop p) = none ∧ x = .returned (.tuple #[.string ⟨#[]⟩, .bool false]) ∧ (∃ q e a, e ≠ 0 ∧ PRd w' Br b q e a) ∧ Only Br w w')
set_option maxRecDepth 100000 in
set_option maxHeartbeats 4000000 in
theorem pname_any (Br : Nat) (b : ByteArray) (p : Nat) (w : World) (h : PRd w Br b p 0 0) (hp : p ≤ b.size) (hb : b.size ≤ 1000) :
  Calls Tryz.prog 110 #[.pointer (some ⟨Br, 0, none⟩)] w fun x w' => NameRes Br b p w x w' := by
 have H := hid h
 have FA := hid (fun q er ea e a W (h : PRd W Br b q er ea) => pfail_any Br b q er ea e a W h)
 by_cases hst : headB startB (b.data.toList.drop p) = true
 ·have hlt : p < b.size := by
   rcases Nat.lt_or_ge p b.size with h1 | h1
   ·exact h1
   ·rw [head_end b p (by omega)] at hst; cases hst
  have HST := hid hst
  rw [head_at b p hlt] at hst
  have NS := hid (fun m => hst ▸ nameStart_any b[p] (w.drewN m))
  have hpi : (p : Int) < (b.size : Int) := by omega
  have hp0 : (0 : Int) ≤ (p : Int) := by omega
  have HD := hid (show ((p : Int) == (b.size : Int)) = false from beq_eq_false_iff_ne.2 (by omega))
  obtain ⟨c0, c1, c2, c3, f1, f2, f3, lt⟩ := h.cells
  clear h hst
  go_enter Tryz.func110, Tryz.ntmps110
  go_wp2_with fail
  have hd := HD.out
  go_quiet ((go_at_call 100; exact Calls.quiet_of_same (NS.out _)))
  have H2 := hid (H.out.drewN nq)
  have O2 := hid ((Only.refl w Br).drewN nq)
  clear c0 c1 c2 c3 f1 f2 f3 lt H NS HD hd
  generalize w.drewN nq = w2 at *
  obtain ⟨c0, c1, c2, c3, f1, f2, f3, lt⟩ := H2.out.cells
  go_wp2_with fail
  go_loopg [] b.size (fun g W => ∃ q : Nat, p ≤ q ∧ q ≤ b.size ∧ b.size ≤ q + g ∧ ((b.data.toList.drop p).take (q - p)).all nameB = true ∧ PRd W Br b q 0 0 ∧ Only Br w W)
  case atStart => exact ⟨p, Nat.le_refl _, hp, by omega, by simp, H2.out, O2.out⟩
  case round =>
   obtain ⟨q, hple, hqle, hg, hall, st3, o3⟩ := hrel
   rename World => w3
   clear c0 c1 c2 c3 f1 f2 f3 lt H2 O2
   have HG := hid hg
   have ST3 := hid st3
   have O3 := hid o3
   have HALL := hid hall
   clear hg st3 o3 hall
   obtain ⟨c0, c1, c2, c3, f1, f2, f3, lt⟩ := ST3.out.cells
   by_cases hql : q < b.size
   ·have hqi : (q : Int) < (b.size : Int) := by omega
    have hqz : (0 : Int) ≤ (q : Int) := by omega
    cases hnb : nameB b[q]
    ·have NB := hid (fun m => hnb ▸ nameByte_any b[q] (w3.drewN m))
     have HNM := hid (show nameP (b.data.toList.drop p) = if q - p ≤ 64 then some ((b.data.toList.drop p).take (q - p), (b.data.toList.drop p).drop (q - p)) else none from by
      have hl : q - p ≤ (b.data.toList.drop p).length := by rw [List.length_drop, ← Lib.size_eq]; omega
      obtain ⟨e1, e2⟩ := takeWhile_at (b.data.toList.drop p) (q - p) hl HALL.out (fun c hc => by
       rw [List.getElem?_drop, show p + (q - p) = q by omega, List.getElem?_eq_getElem (by rw [← Lib.size_eq]; exact hql)] at hc
       rw [← Option.some.inj hc]; exact hnb)
      exact nameP_at HST.out e1 e2 hl)
     clear HALL hnb HG
     go_wp2_with fail
     go_quiet ((go_at_call 101; exact Calls.quiet_of_same (NB.out _)))
     have H4 := hid (ST3.out.drewN nq)
     have O4 := hid (O3.out.drewN nq)
     clear c0 c1 c2 c3 f1 f2 f3 lt ST3 O3
     generalize w3.drewN nq = w4 at *
     obtain ⟨c0, c1, c2, c3, f1, f2, f3, lt⟩ := H4.out.cells
     have hpq : (p : Int) ≤ (q : Int) := by omega
     have hq0 : (0 : Int) ≤ (q : Int) := by omega
     have hqb : (q : Int) ≤ (b.size : Int) := by omega
     by_cases h64 : q - p ≤ 64
     ·have hng : ¬ (64 : Int) < (q : Int) - (p : Int) := by omega
      have HXT := hid (ext_at b p q)
      go_wp2_with fail
      go_quiet (fail)
      go_wp2_with fail
      refine bodyPost_ret (v := .tuple #[.string (b.extract p q), .bool true]) (by simp [results, Tryz.results110, go_sem]) rfl ?_
      exact Or.inl ⟨_, _, q, by rw [HNM.out, if_pos h64], by rw [HXT.out], H4.out.drewN _, hqle, hple, by rw [List.drop_drop]; congr 1; omega, O4.out.drewN _⟩
     ·have hng : (64 : Int) < (q : Int) - (p : Int) := by omega
      go_wp2_with (go_at_call 84; refine (FA.out q 0 0 3 p w4 H4.out).mono ?_; rintro e w5 ⟨rfl, h5, o5⟩)
      refine bodyPost_ret (v := .tuple #[.string ⟨#[]⟩, .bool false]) (by simp [results, Tryz.results110, go_sem]) rfl ?_
      exact Or.inr ⟨by rw [HNM.out, if_neg h64], rfl, ⟨q, 3, p, by decide, h5⟩, O4.out.trans o5⟩
    ·have NB := hid (fun m => hnb ▸ nameByte_any b[q] (w3.drewN m))
     have HA2 := hid (show ((b.data.toList.drop p).take (q + 1 - p)).all nameB = true from by
      have := takeAll_more (p := nameB) b p (q - p) (by omega) HALL.out (by simpa [show p + (q - p) = q by omega] using hnb)
      rwa [show q - p + 1 = q + 1 - p by omega] at this)
     clear HALL hnb
     go_wp2_with fail
     go_quiet ((go_at_call 101; exact Calls.quiet_of_same (NB.out _)))
     have H4 := hid (ST3.out.drewN nq)
     have O4 := hid (O3.out.drewN nq)
     clear c0 c1 c2 c3 f1 f2 f3 lt ST3 O3 NB
     generalize w3.drewN nq = w4 at *
     obtain ⟨c0, c1, c2, c3, f1, f2, f3, lt⟩ := H4.out.cells
     go_wp2_with fail
     go_roundg (gk - 1)
     case measure => have := HG.out; omega
     case rel => exact ⟨q + 1, by omega, by omega, by have := HG.out; omega, HA2.out, H4.out.setAt (q + 1), O4.out.set _ _⟩
   ·have HD := hid (show decide (q < b.size) = false from decide_eq_false hql)
    have HNM := hid (show nameP (b.data.toList.drop p) = if q - p ≤ 64 then some ((b.data.toList.drop p).take (q - p), (b.data.toList.drop p).drop (q - p)) else none from by
     have hl : q - p ≤ (b.data.toList.drop p).length := by rw [List.length_drop, ← Lib.size_eq]; omega
     obtain ⟨e1, e2⟩ := takeWhile_at (b.data.toList.drop p) (q - p) hl HALL.out (fun c hc => by
      rw [List.getElem?_drop, show p + (q - p) = q by omega, List.getElem?_eq_none (by rw [← Lib.size_eq]; omega)] at hc
      cases hc)
     exact nameP_at HST.out e1 e2 hl)
    clear HALL HG
    go_wp2_with fail
    have hd := HD.out
    go_quiet (fail)
    have H4 := hid (ST3.out.drewN nq)
    have O4 := hid (O3.out.drewN nq)
    clear c0 c1 c2 c3 f1 f2 f3 lt ST3 O3
    generalize w3.drewN nq = w4 at *
    obtain ⟨c0, c1, c2, c3, f1, f2, f3, lt⟩ := H4.out.cells
    have hpq : (p : Int) ≤ (q : Int) := by omega
    have hq0 : (0 : Int) ≤ (q : Int) := by omega
    have hqb : (q : Int) ≤ (b.size : Int) := by omega
    by_cases h64 : q - p ≤ 64
    ·have hng : ¬ (64 : Int) < (q : Int) - (p : Int) := by omega
     have HXT := hid (ext_at b p q)
     go_wp2_with fail
     go_quiet (fail)
     go_wp2_with fail
     refine bodyPost_ret (v := .tuple #[.string (b.extract p q), .bool true]) (by simp [results, Tryz.results110, go_sem]) rfl ?_
     exact Or.inl ⟨_, _, q, by rw [HNM.out, if_pos h64], by rw [HXT.out], H4.out.drewN _, hqle, hple, by rw [List.drop_drop]; congr 1; omega, O4.out.drewN _⟩
    ·have hng : (64 : Int) < (q : Int) - (p : Int) := by omega
     go_wp2_with (go_at_call 84; refine (FA.out q 0 0 3 p w4 H4.out).mono ?_; rintro e w5 ⟨rfl, h5, o5⟩)
     refine bodyPost_ret (v := .tuple #[.string ⟨#[]⟩, .bool false]) (by simp [results, Tryz.results110, go_sem]) rfl ?_
     exact Or.inr ⟨by rw [HNM.out, if_neg h64], rfl, ⟨q, 3, p, by decide, h5⟩, O4.out.trans o5⟩
 ·have HNN := hid (nameP_none (s := b.data.toList.drop p) (by simpa using hst))
  by_cases hlt : p < b.size
  ·rw [head_at b p hlt] at hst
   have hst : startB b[p] = false := by simpa using hst
   have NS := hid (fun m => hst ▸ nameStart_any b[p] (w.drewN m))
   have hpi : (p : Int) < (b.size : Int) := by omega
   have hp0 : (0 : Int) ≤ (p : Int) := by omega
   have HD := hid (show ((p : Int) == (b.size : Int)) = false from beq_eq_false_iff_ne.2 (by omega))
   obtain ⟨c0, c1, c2, c3, f1, f2, f3, lt⟩ := h.cells
   clear h hst
   go_enter Tryz.func110, Tryz.ntmps110
   go_wp2_with fail
   have hd := HD.out
   go_quiet ((go_at_call 100; exact Calls.quiet_of_same (NS.out _)))
   have H2 := hid (H.out.drewN nq)
   have O2 := hid ((Only.refl w Br).drewN nq)
   clear c0 c1 c2 c3 f1 f2 f3 lt H NS HD hd
   generalize w.drewN nq = w2 at *
   obtain ⟨c0, c1, c2, c3, f1, f2, f3, lt⟩ := H2.out.cells
   go_wp2_with (go_at_call 84; refine (FA.out p 0 0 160 p w2 H2.out).mono ?_; rintro e w5 ⟨rfl, h5, o5⟩)
   refine bodyPost_ret (v := .tuple #[.string ⟨#[]⟩, .bool false]) (by simp [results, Tryz.results110, go_sem]) rfl ?_
   exact Or.inr ⟨HNN.out, rfl, ⟨p, 160, p, by decide, h5⟩, O2.out.trans o5⟩
  ·have HD := hid (show ((p : Int) == (b.size : Int)) = true from beq_iff_eq.2 (by omega))
   obtain ⟨c0, c1, c2, c3, f1, f2, f3, lt⟩ := h.cells
   clear h hst
   go_enter Tryz.func110, Tryz.ntmps110
   go_wp2_with fail
   have hd := HD.out
   go_quiet (fail)
   have H2 := hid (H.out.drewN nq)
   have O2 := hid ((Only.refl w Br).drewN nq)
   clear c0 c1 c2 c3 f1 f2 f3 lt H HD hd
   generalize w.drewN nq = w2 at *
   obtain ⟨c0, c1, c2, c3, f1, f2, f3, lt⟩ := H2.out.cells
   go_wp2_with (go_at_call 84; refine (FA.out p 0 0 160 p w2 H2.out).mono ?_; rintro e w5 ⟨rfl, h5, o5⟩)
   refine bodyPost_ret (v := .tuple #[.string ⟨#[]⟩, .bool false]) (by simp [results, Tryz.results110, go_sem]) rfl ?_
   exact Or.inr ⟨HNN.out, rfl, ⟨p, 160, p, by decide, h5⟩, O2.out.trans o5⟩
end Go.Proofs.YtbbmdbolkicpcaaGreatDoor
namespace Go.Proofs.YtbbmdbolkicpcaaGreatDoor
open Go.RowKit Go.Lib
def byteV (c : UInt8) : Value := .int .u8 (c.toNat : Int)
def OwnBy (W : World) (B : Nat) (v : Value) (l : Str) : Prop := W.ownsRow B 5 1 v l.length (l.map byteV)
def encBy : Enc UInt8 1 where
 enc := fun c => [byteV c]
 len := fun _ => rfl
 one := fun x u hu => by rw [List.mem_singleton.1 hu]; rfl
theorem flat_by (l : Str) : flatL encBy l = l.map byteV := by
 induction l with
 | nil => rfl
 | cons c t ih => simp only [flatL, List.flatMap_cons] at ih ⊢; rw [ih]; rfl
theorem infoBy : (Tryz.prog.info? 5).map (fun i => (i.zero, i.size, i.bytes)) = some (some (.int .u8 0), 1, 1) := by kernel_rfl
theorem OwnBy.slice {W : World} {B : Nat} {v : Value} {l : Str} (h : OwnBy W B v l) : ∃ ao cp, v = .slice ao l.length cp := by
 rcases h.2 with ⟨h1, h2⟩ | ⟨g, cap, cur, h1, _⟩
 ·exact ⟨none, 0, by rw [h1, h2]⟩
 ·exact ⟨_, cap, h1⟩
theorem OwnBy.text {W : World} {B : Nat} {v : Value} {l : Str} (h : OwnBy W B v l) : (convert 206 9 v).run Tryz.prog W = .ok (.string ⟨l.toArray⟩) W := by
 rcases h.2 with ⟨h1, h2⟩ | ⟨g, cap, cur, h1, h2, h3, h4, h5, h6, h7⟩
 ·rw [h1, List.eq_nil_of_length_eq_zero h2]
  exact run_convert_bytes_nil W 206 5 Tryz.underlying206 Tryz.underlying5 0 0 9 Tryz.underlying9
 ·rw [h1]
  refine run_convert_bytes_back W 206 9 5 ⟨g, 0, none⟩ cap l Tryz.underlying206 Tryz.underlying5 Tryz.underlying9 (fun j hj => ?_)
  rw [show (⟨g, 0, none⟩ : Addr).add j = ⟨g, j, none⟩ from by unfold Addr.add; split <;> simp_all]
  exact cells_at h3 h7 j _ (by simp [hj, byteV])
structure VSt (w : World) (Br : Nat) (b u : ByteArray) (K : Nat) (W : World) (pos : Nat) (acc : Str) (bv : Value) (q : Nat) : Prop where
 rd : PRd W Br b q 0 0
 it : W.heap[K]? = some (.stringIter u pos)
 own : OwnBy W w.heap.size bv acc
 only : Only Br w W
 k : w.heap.size ≤ K
section
variable {w W W' : World} {Br K pos q : Nat} {b u : ByteArray} {acc : Str} {bv : Value}
theorem VSt.ne (h : VSt w Br b u K W pos acc bv q) : Br ≠ K ∧ bv.ownBlock ≠ some K ∧ bv.ownBlock ≠ some Br ∧ Br < W.heap.size ∧ K < W.heap.size := by
 have hr := h.rd
 unfold PRd at hr
 refine ⟨fun e => ?_, fun e => ?_, own_type h.own hr (by decide), lt_of_block hr, (Array.getElem?_eq_some_iff.1 h.it).1⟩
 ·have := h.it; rw [← e, hr] at this; cases this
 ·rcases h.own.2 with ⟨h1, _⟩ | ⟨g, cap, cur, h1, _, h3, _⟩
  ·rw [h1] at e; cases e
  ·rw [h1] at e; cases e
   have := h.it; rw [h3] at this; cases this
theorem VSt.next (h : VSt w Br b u K W pos acc bv q) (pos' : Nat) : VSt w Br b u K (W.iterAt K u pos') pos' acc bv q := by
 obtain ⟨n1, n2, n3, l1, l2⟩ := h.ne
 have hb : ∀ j, j ≠ K → (W.iterAt K u pos').heap[j]? = W.heap[j]? := fun j hj => Lib.iterAt_other W K j u pos' hj
 refine ⟨(hb Br n1).trans h.rd, Lib.iterAt_heap W K u pos pos' h.it, ?_, ?_, h.k⟩
 ·refine World.ownsRow.kept h.own (show W.grownBy (W.iterAt K u pos') (some K) from ⟨rfl, rfl, rfl, by rw [Lib.iterAt_size]; exact Nat.le_refl _, fun j hj hne => hb j (fun e => hne (by rw [e]))⟩) (Or.inr n2)
 ·have o := h.only
  exact ⟨o.os, o.tape, o.output, by rw [Lib.iterAt_size]; exact o.size, fun j hj hne => (hb j (fun e => by have := h.k; omega)).trans (o.block j hj hne)⟩
theorem VSt.at_ (h : VSt w Br b u K W pos acc bv q) (q' : Nat) : VSt w Br b u K (W.setCell ⟨Br, 1, none⟩ (.int .i64 q')) pos acc bv q' := by
 obtain ⟨n1, n2, n3, l1, l2⟩ := h.ne
 exact ⟨h.rd.setAt q', (heap_setCell_other _ _ _ _ (by simp; exact fun e => absurd e.symm n1)).trans h.it, own_set h.own n3 _ _, h.only.set _ _, h.k⟩
theorem VSt.app {acc' : Str} {bv' : Value} (h : VSt w Br b u K W pos acc bv q) (o : OwnBy W' w.heap.size bv' acc') (gr : W.grownBy W' bv.ownBlock) : VSt w Br b u K W' pos acc' bv' q := by
 obtain ⟨n1, n2, n3, l1, l2⟩ := h.ne
 refine ⟨(gr.block Br l1 (Ne.symm n3)).trans h.rd, (gr.block K l2 (Ne.symm n2)).trans h.it, o, ?_, h.k⟩
 have oo := h.only
 refine ⟨gr.os.trans oo.os, gr.tape.trans oo.tape, gr.output.trans oo.output, Nat.le_trans oo.size gr.size, fun j hj hne => (gr.block j (Nat.lt_of_lt_of_le hj oo.size) (fun e => ?_)).trans (oo.block j hj hne)⟩
 have := (World.ownsRow.lt h.own j e.symm).1
 omega
end
theorem ctl_any (r : Int) (W : World) : Calls Tryz.prog 158 #[.int .i32 r] W fun e w' => e = .returned (.bool (decide (r < 32) || r == 127)) ∧ w' = W := by
 by_cases h1 : r < 32
 ·go_enter Tryz.func158, Tryz.ntmps158
  go_wp2
  go_ret
  exact ⟨ret_bool (by simp [h1]), rfl⟩
 ·cases h2 : (r == 127)
  all_goals
   go_enter Tryz.func158, Tryz.ntmps158
   go_wp2
   go_ret
   exact ⟨ret_bool (by simp [h1, h2]), rfl⟩
theorem spec_idx (c : UInt8) : (Lib.indexByte [91, 93, 47, 61, 92] c < 0) ↔ specB c = false := by
 revert c; apply forall_byte; decide +kernel
theorem enc_one (c : UInt8) (h : c.toNat < 128) : (Utf8.encode (c.toNat : Int)).data.toList = [c] := by
 have hv : Utf8.valid (c.toNat : Int) = true := by simp [Utf8.valid]; omega
 unfold Utf8.encode
 simp only [hv, if_true, Int.toNat_natCast]
 rw [if_pos (by omega)]
 simp
def ValRes (Br : Nat) (b : ByteArray) (p : Nat) (w : World) (x : Ending) (w' : World) : Prop :=
 (∃ v r q, valueP false [] (b.data.toList.drop p) = some (v, r) ∧ x = .returned (.tuple #[.string ⟨v.toArray⟩, .bool true]) ∧ PRd w' Br b q 0 0 ∧ q ≤ b.size ∧ p ≤ q ∧ r = b.data.toList.drop q ∧ utfB r = true ∧ Only Br w w') ∨
 (valueP false [] (b.data.toList.drop p) = none ∧ x = .returned (.tuple #[.string ⟨#[]⟩, .bool false]) ∧ (∃ q e a, e ≠ 0 ∧ PRd w' Br b q e a) ∧ Only Br w w')
end Go.Proofs.YtbbmdbolkicpcaaGreatDoor
namespace Go.Proofs.YtbbmdbolkicpcaaGreatDoor
open Go.RowKit Go.Lib
set_option maxRecDepth 100000 in
set_option maxHeartbeats 8000000 in
theorem pvalue_any (Br : Nat) (b : ByteArray) (p : Nat) (w : World) (h : PRd w Br b p 0 0) (hp : p ≤ b.size) (hb : b.size ≤ 1000) (hu : utfB (b.data.toList.drop p) = true) :
  Calls Tryz.prog 111 #[.pointer (some ⟨Br, 0, none⟩)] w fun x w' => ValRes Br b p w x w' := by
 have H := hid h
 have HU := hid hu
 have FA := hid (fun q er ea e a W (h : PRd W Br b q er ea) => pfail_any Br b q er ea e a W h)
 have HX := hid (show (b.extract p b.size).data.toList = b.data.toList.drop p from by
  rw [ext_at]
  show (b.data.toList.drop p).take (b.size - p) = _
  exact List.take_of_length_le (by rw [List.length_drop, ← Lib.size_eq]; exact Nat.le_refl _))
 have HXS := hid (show (b.extract p b.size).size = b.size - p from by rw [Lib.size_eq, HX.out, List.length_drop, ← Lib.size_eq])
 have hpi : (p : Int) ≤ (b.size : Int) := by omega
 have hp0 : (0 : Int) ≤ (p : Int) := by omega
 have hbi : (b.size : Int) ≤ 1000 := by omega
 obtain ⟨c0, c1, c2, c3, f1, f2, f3, lt⟩ := h.cells
 clear h hu
 go_enter Tryz.func111, Tryz.ntmps111
 go_wp2_with fail
 generalize b.extract p b.size = u at *
 go_loopw [5, 6] (fun v5 v6 wr => ∃ (pos : Nat) (esc : Bool) (acc : Str) (q : Nat), v6 = .bool esc ∧ VSt w Br b u w.heap.size wr pos acc v5 q ∧ pos ≤ u.size ∧ utfB (u.data.toList.drop pos) = true ∧ valueP false [] u.data.toList = valueP esc acc (u.data.toList.drop pos) ∧ acc.length ≤ pos ∧ q ≤ b.size ∧ p ≤ q) (fun _ _ wr => u.size - wr.iterPos w.heap.size)
 case atStart =>
  refine ⟨0, false, [], p, rfl, ⟨H.out.below (Below.refl _ _ |>.alloc (Nat.le_refl _) _), World.iter_heap w u 0, World.ownsRow_nil _ _ _ _, (Only.refl w Br).below ((Below.refl _ _).alloc (Nat.le_refl _) _), Nat.le_refl _⟩, Nat.zero_le _, ?_, rfl, Nat.le_refl _, hp, Nat.le_refl _⟩
  rw [HX.out]; exact HU.out
 case round =>
  obtain ⟨pos, esc, acc, q, rfl, st, hpos, hutf, hval, hacc, hq, hpq⟩ := hrel
  have ST := hid st
  have HV := hid (show valueP false [] (b.data.toList.drop p) = valueP esc acc (u.data.toList.drop pos) from by rw [← HX.out]; exact hval)
  have HVU := hid hval
  have hit := st.it
  clear st hval c0 c1 c2 c3 f1 f2 f3 lt
  have hul : u.size = b.size - p := HXS.out
  by_cases hps : pos < u.size
  ·have hne : u.data.toList.drop pos ≠ [] := by intro e; have := congrArg List.length e; rw [List.length_drop, ← Lib.size_eq] at this; simp at this; omega
   obtain ⟨hsd, hnext⟩ := utfB_sound hne hutf
   have hdl := (dec_le hne).1
   have hnx : ∀ ty, (Instr.next (.pointer (some ⟨w.heap.size, 0, none⟩)) true ty).run Tryz.prog wr = _ := fun ty => Lib.run_next_any_at wr w.heap.size u pos ty hit hps
   rw [← decodeL_drop] at hnx
   rw [List.length_drop, ← Lib.size_eq] at hdl
   generalize hrk : decodeL (u.data.toList.drop pos) = rk at *
   obtain ⟨r, k⟩ := rk
   rw [List.drop_drop] at hnext
   simp only at hnx hsd hnext hdl
   have HSD := hid hsd
   have HNX := hid hnext
   have HPK := hid (show pos + k ≤ u.size by omega)
   have HQ := hid (show p + pos < b.size by omega)
   obtain ⟨q2, hq2⟩ : ∃ q2 : Nat, q2 = p + pos := ⟨_, rfl⟩
   have hqa : (p : Int) + (pos : Int) = (q2 : Int) := by omega
   have ST2 := hid ((ST.out.next (pos + k)).at_ q2)
   have hbd : (p : Int) + (pos : Int) ≤ 1000 := by omega
   obtain ⟨c0, c1, c2, c3, f1, f2, f3, lt⟩ := (ST.out.next (pos + k)).rd.cells
   rw [hq2.symm] at HQ
   have HKK := hid (show pos ≤ 1000 by omega)
   have HQP := hid (show p ≤ q2 by omega)
   have HQQ := hid hq2
   clear hsd hnext hdl hutf hrk hne hq2
   go_upto_region 9 with fail
   generalize (wr.iterAt w.heap.size u (pos + k)).setCell ⟨Br, 1, none⟩ (.int .i64 (q2 : Int)) = w2 at *
   clear c0 c1 c2 c3 f1 f2 f3 lt hnx ST hbd hqa
   obtain ⟨c0, c1, c2, c3, f1, f2, f3, lt⟩ := ST2.out.rd.cells
   have HLA := hid (show acc.length + 1 ≤ maxLen by have := HKK.out; unfold maxLen; omega)
   have HLB := hid (show (acc.length + 1) * 1 ≤ 140737488355328 by have := HKK.out; omega)
   have HSZ := hid ST2.out.only.size
   have hsnd := HSD.out
   generalize hl : u.data.toList.drop pos = l at *
   have HLL := hid hl
   have HT0 := hid (show u.data.toList.drop (pos + k) = l.drop k from by rw [← List.drop_drop, hl])
   clear hl HSD
   cases hsnd with
   | one c t hc =>
    have hcl : c.toNat < 256 := c.toNat_lt
    have HT := hid (show u.data.toList.drop (pos + 1) = t from HT0.out)
    have h128 : ¬ (128 : Int) ≤ (c.toNat : Int) := by omega
    have hwr : IntKind.u8.wrap (c.toNat : Int) = (c.toNat : Int) := by rw [IntKind.wrap]; simp [IntKind.bits, IntKind.signed]; omega
    cases esc with
    | true =>
     have IX := hid (fun W => (show Calls Tryz.prog 157 #[.string ⟨#[91, 93, 47, 61, 92]⟩, .int .u8 (c.toNat : Int)] W fun e w' => e = .returned (.int .i64 (Lib.indexByte [91, 93, 47, 61, 92] c)) ∧ w' = W from by
      have h := Tryz.strings_IndexByte ⟨#[91, 93, 47, 61, 92]⟩ (c.toNat : Int) W
      have hc : ((c.toNat : Int)).toNat.toUInt8 = c := by simp
      rw [hc] at h; exact h))
     cases hsp : specB c
     ·have HN := hid (show valueP true acc (c :: t) = none by simp [valueP, hsp])
      have hix : Lib.indexByte [91, 93, 47, 61, 92] c < 0 := (spec_idx c).2 hsp
      go_wp2_with (first
       | (go_at_call 84; refine (FA.out q2 0 0 160 q2 _ ST2.out.rd).mono ?_; rintro e w5 ⟨rfl, h5, o5⟩)
       | (go_at_call 157; refine (IX.out _).mono ?_; rintro e w6 ⟨rfl, rfl⟩))
      refine bodyPost_ret (v := .tuple #[.string ⟨#[]⟩, .bool false]) (by simp [results, Tryz.results111, go_sem]) rfl ?_
      exact Or.inr ⟨by rw [HV.out]; exact HN.out, rfl, ⟨q2, 160, q2, by decide, h5⟩, ST2.out.only.trans o5⟩
     ·have HN := hid (show valueP true acc (c :: t) = valueP false (acc ++ [c]) t by simp [valueP, hsp])
      have hix : ¬ Lib.indexByte [91, 93, 47, 61, 92] c < 0 := fun h => by rw [(spec_idx c).1 h] at hsp; cases hsp
      go_wp2_with (first
       | (at_builtin; refine wpList_pushL (E := encBy) rfl (.tmp 50) (.tmp 53) rfl Tryz.underlying206 infoBy rfl (by decide) w.heap.size u5 acc c rfl (by unfold OwnL; rw [flat_by]; exact ST2.out.own) rfl HLA.out HLB.out HSZ.out #[byteV c] rfl ?_; intro v5 w5 own5 gr5 mv5)
       | (go_at_call 157; refine (IX.out _).mono ?_; rintro e w6 ⟨rfl, rfl⟩))
      have ST3 := hid (ST2.out.app (acc' := acc ++ [c]) (by unfold OwnL at own5; rw [flat_by] at own5; exact own5) gr5)
      clear own5 gr5 mv5
      go_roundw
      case rel => exact ⟨pos + 1, false, acc ++ [c], q2, rfl, ST3.out, by have := HPK.out; omega, HNX.out, by rw [HVU.out, HN.out, HT.out], by simp; omega, by have := HQ.out; omega, by have := HQP.out; omega⟩
      case measure => simp only [World.iterPos, ST3.out.it, hit]; omega
    | false =>
     have CT := hid (fun W => (show Calls Tryz.prog 158 #[.int .i32 (c.toNat : Int)] W fun e w' => e = .returned (.bool (ctlB c)) ∧ w' = W from by
      have h := ctl_any (c.toNat : Int) W
      have e : (decide ((c.toNat : Int) < 32) || ((c.toNat : Int) == 127)) = ctlB c := by
       unfold ctlB
       congr 1
       ·exact decide_eq_decide.2 (by omega)
       ·rw [Bool.eq_iff_iff, beq_iff_eq, beq_iff_eq]; omega
      rw [e] at h; exact h))
     have e92 : ((c.toNat : Int) == 92) = (c == 92) := u8_eq c 92
     have e93 : ((c.toNat : Int) == 93) = (c == 93) := u8_eq c 93
     have e91 : ((c.toNat : Int) == 91) = (c == 91) := u8_eq c 91
     have e47 : ((c.toNat : Int) == 47) = (c == 47) := u8_eq c 47
     have e61 : ((c.toNat : Int) == 61) = (c == 61) := u8_eq c 61
     by_cases h92 : c = 92
     ·have HN := hid (show valueP false acc (c :: t) = valueP true acc t by simp [valueP, h92])
      rw [beq_iff_eq.2 h92] at e92
      clear e93 e91 e47 e61 h92
      go_wp2_with fail
      go_roundw
      case rel => exact ⟨pos + 1, true, acc, q2, rfl, ST2.out, by have := HPK.out; omega, HNX.out, by rw [HVU.out, HN.out, HT.out], by omega, by have := HQ.out; omega, by have := HQP.out; omega⟩
      case measure => simp only [World.iterPos, ST2.out.it, hit]; omega
     ·rw [beq_eq_false_iff_ne.2 h92] at e92
      by_cases h93 : c = 93
      ·rw [beq_iff_eq.2 h93] at e93
       clear e91 e47 e61
       have hq1 : (q2 : Int) + 1 ≤ 1000 := by have := HQ.out; omega
       have ST3 := hid (show VSt w Br b u w.heap.size (w2.setCell ⟨Br, 1, none⟩ (.int .i64 ((q2 : Int) + 1))) (pos + 1) acc u5 (q2 + 1) from ST2.out.at_ (q2 + 1))
       obtain ⟨ab, cb, rfl⟩ := ST2.out.own.slice
       by_cases h64 : acc.length ≤ 64
       ·have HN := hid (show valueP false acc (c :: t) = some (acc, t) by simp [valueP, h92, h93, h64])
        have hng : ¬ (64 : Int) < (acc.length : Int) := by omega
        clear h92 h93
        go_upto_region 18 with fail
        generalize w2.setCell ⟨Br, 1, none⟩ (.int .i64 ((q2 : Int) + 1)) = w3 at *
        have htx := ST3.out.own.text
        go_wp2_with fail
        refine bodyPost_ret (v := .tuple #[.string ⟨acc.toArray⟩, .bool true]) (by simp [results, Tryz.results111, go_sem]) rfl ?_
        exact Or.inl ⟨acc, t, q2 + 1, by rw [HV.out]; exact HN.out, rfl, ST3.out.rd, by have := HQ.out; omega, by have := HQP.out; omega, by rw [← HT.out, HX.out, List.drop_drop]; congr 1; have := HQQ.out; omega, by rw [← HT.out]; exact HNX.out, ST3.out.only⟩
       ·have HN := hid (show valueP false acc (c :: t) = none by simp [valueP, h92, h93, h64])
        have hng : (64 : Int) < (acc.length : Int) := by omega
        clear h92 h93
        go_upto_region 18 with fail
        generalize w2.setCell ⟨Br, 1, none⟩ (.int .i64 ((q2 : Int) + 1)) = w3 at *
        go_wp2_with (first
         | (go_at_call 84; refine (FA.out (q2 + 1) 0 0 3 p _ ST3.out.rd).mono ?_; rintro e w5 ⟨rfl, h5, o5⟩)
         | fail)
        refine bodyPost_ret (v := .tuple #[.string ⟨#[]⟩, .bool false]) (by simp [results, Tryz.results111, go_sem]) rfl ?_
        exact Or.inr ⟨by rw [HV.out]; exact HN.out, rfl, ⟨(q2 + 1), 3, p, by decide, h5⟩, ST3.out.only.trans o5⟩
      ·rw [beq_eq_false_iff_ne.2 h93] at e93
       cases hbad : (ctlB c || c == 91 || c == 47 || c == 61)
       ·have HN := hid (show valueP false acc (c :: t) = valueP false (acc ++ [c]) t by simp only [valueP, if_neg h92, if_neg h93, hbad]; rfl)
        simp only [Bool.or_eq_false_iff] at hbad
        obtain ⟨⟨⟨b1, b2⟩, b3⟩, b4⟩ := hbad
        rw [b1] at CT
        rw [b2] at e91
        rw [b3] at e47
        rw [b4] at e61
        clear b1 b2 b3 b4 h92 h93
        have hen := enc_one c hc
        generalize hE : Utf8.encode (c.toNat : Int) = E at *
        have HE := hid hen
        have HSE := hid (show E.size = 1 by rw [Lib.size_eq, hen]; rfl)
        clear hen
        have ST2b := ST2.out.own
        obtain ⟨i0, hi, hz0, hz1, hz2⟩ := info_parts infoBy
        have HOB := hid (show acc.length + E.size ≤ maxLen by have := HKK.out; have := HSE.out; unfold maxLen; omega)
        have HOC := hid (show acc.length + E.size ≤ 140737488355328 by have := HKK.out; have := HSE.out; omega)
        have HI := hid hi
        have HZ0 := hid hz0
        have HZ1 := hid hz1
        have HZ2 := hid hz2
        have HST := hid ST2b
        clear hi hz0 hz1 hz2 ST2b
        go_wp2_with (first
         | (at_builtin; refine Lib.wpList_append_own_string _ rfl (.tmp 30) (.tmp 32) 206 9 rfl w.heap.size 5 i0 Tryz.underlying206 Tryz.underlying9 HI.out HZ0.out HZ1.out HZ2.out u5 acc.length (acc.map byteV) rfl HST.out E rfl HOB.out HOC.out HSZ.out ?_; intro v5 w5 own5 gr5 mv5)
         | (go_at_call 158; refine (CT.out _).mono ?_; rintro e w6 ⟨rfl, rfl⟩))
        have ST3 := hid (ST2.out.app (acc' := acc ++ [c]) (own_cast own5 (by rw [List.length_append, HSE.out]; try rfl) (by rw [List.map_append]; unfold Lib.strCells; rw [HE.out]; rfl)) gr5)
        clear own5 gr5 mv5
        go_roundw
        case rel => exact ⟨pos + 1, false, acc ++ [c], q2, rfl, ST3.out, by have := HPK.out; omega, HNX.out, by rw [HVU.out, HN.out, HT.out], by simp; omega, by have := HQ.out; omega, by have := HQP.out; omega⟩
        case measure => simp only [World.iterPos, ST3.out.it, hit]; omega
       ·have HN := hid (show valueP false acc (c :: t) = none by simp only [valueP, if_neg h92, if_neg h93, hbad]; rfl)
        cases b1 : ctlB c
        ·rw [b1] at CT hbad
         cases b2 : (c == 91)
         ·rw [b2] at e91 hbad
          cases b3 : (c == 47)
          ·rw [b3] at e47 hbad
           have b4 : (c == 61) = true := by simpa using hbad
           rw [b4] at e61
           clear h92 h93 hbad b1 b2 b3 b4
           go_wp2_with (first
            | (go_at_call 84; refine (FA.out q2 0 0 160 q2 _ ST2.out.rd).mono ?_; rintro e w5 ⟨rfl, h5, o5⟩)
            | (go_at_call 158; refine (CT.out _).mono ?_; rintro e w6 ⟨rfl, rfl⟩))
           refine bodyPost_ret (v := .tuple #[.string ⟨#[]⟩, .bool false]) (by simp [results, Tryz.results111, go_sem]) rfl ?_
           exact Or.inr ⟨by rw [HV.out]; exact HN.out, rfl, ⟨q2, 160, q2, by decide, h5⟩, ST2.out.only.trans o5⟩
          ·rw [b3] at e47
           clear h92 h93 hbad b1 b2 b3
           go_wp2_with (first
            | (go_at_call 84; refine (FA.out q2 0 0 160 q2 _ ST2.out.rd).mono ?_; rintro e w5 ⟨rfl, h5, o5⟩)
            | (go_at_call 158; refine (CT.out _).mono ?_; rintro e w6 ⟨rfl, rfl⟩))
           refine bodyPost_ret (v := .tuple #[.string ⟨#[]⟩, .bool false]) (by simp [results, Tryz.results111, go_sem]) rfl ?_
           exact Or.inr ⟨by rw [HV.out]; exact HN.out, rfl, ⟨q2, 160, q2, by decide, h5⟩, ST2.out.only.trans o5⟩
         ·rw [b2] at e91
          clear h92 h93 hbad b1 b2
          go_wp2_with (first
           | (go_at_call 84; refine (FA.out q2 0 0 160 q2 _ ST2.out.rd).mono ?_; rintro e w5 ⟨rfl, h5, o5⟩)
           | (go_at_call 158; refine (CT.out _).mono ?_; rintro e w6 ⟨rfl, rfl⟩))
          refine bodyPost_ret (v := .tuple #[.string ⟨#[]⟩, .bool false]) (by simp [results, Tryz.results111, go_sem]) rfl ?_
          exact Or.inr ⟨by rw [HV.out]; exact HN.out, rfl, ⟨q2, 160, q2, by decide, h5⟩, ST2.out.only.trans o5⟩
        ·rw [b1] at CT
         clear h92 h93 hbad b1
         go_wp2_with (first
          | (go_at_call 84; refine (FA.out q2 0 0 160 q2 _ ST2.out.rd).mono ?_; rintro e w5 ⟨rfl, h5, o5⟩)
          | (go_at_call 158; refine (CT.out _).mono ?_; rintro e w6 ⟨rfl, rfl⟩))
         refine bodyPost_ret (v := .tuple #[.string ⟨#[]⟩, .bool false]) (by simp [results, Tryz.results111, go_sem]) rfl ?_
         exact Or.inr ⟨by rw [HV.out]; exact HN.out, rfl, ⟨q2, 160, q2, by decide, h5⟩, ST2.out.only.trans o5⟩
   | more run t r h2 h4 hr hm hrun he =>
    have h128 : (128 : Int) ≤ (r : Int) := by omega
    have HT := hid (show u.data.toList.drop (pos + run.length) = t from by rw [HT0.out]; simp)
    cases esc with
    | true =>
     have HN := hid (show valueP true acc (run ++ t) = none from by
      match run, h2, hrun with
      | c :: rr, _, hrun =>
       have := (run_no (hrun c (List.mem_cons_self ..))).1
       simp [valueP, this])
     go_wp2_with (first
      | (go_at_call 84; refine (FA.out q2 0 0 160 q2 _ ST2.out.rd).mono ?_; rintro e w5 ⟨rfl, h5, o5⟩)
      | fail)
     refine bodyPost_ret (v := .tuple #[.string ⟨#[]⟩, .bool false]) (by simp [results, Tryz.results111, go_sem]) rfl ?_
     exact Or.inr ⟨by rw [HV.out]; exact HN.out, rfl, ⟨q2, 160, q2, by decide, h5⟩, ST2.out.only.trans o5⟩
    | false =>
     have HN := hid (valueP_run run acc t hrun)
     have CT := hid (fun W => (show Calls Tryz.prog 158 #[.int .i32 (r : Int)] W fun e w' => e = .returned (.bool false) ∧ w' = W from by
      have h := ctl_any (r : Int) W
      have e : (decide ((r : Int) < 32) || ((r : Int) == 127)) = false := by
       rw [Bool.or_eq_false_iff]; exact ⟨decide_eq_false (by omega), beq_eq_false_iff_ne.2 (by omega)⟩
      rw [e] at h; exact h))
     have e92 : ((r : Int) == 92) = false := beq_eq_false_iff_ne.2 (by omega)
     have e93 : ((r : Int) == 93) = false := beq_eq_false_iff_ne.2 (by omega)
     have e91 : ((r : Int) == 91) = false := beq_eq_false_iff_ne.2 (by omega)
     have e47 : ((r : Int) == 47) = false := beq_eq_false_iff_ne.2 (by omega)
     have e61 : ((r : Int) == 61) = false := beq_eq_false_iff_ne.2 (by omega)
     generalize hE : Utf8.encode (r : Int) = E at *
     have HE := hid he
     have HSE := hid (show E.size = run.length by rw [Lib.size_eq, he])
     clear he
     have ST2b := ST2.out.own
     obtain ⟨i0, hi, hz0, hz1, hz2⟩ := info_parts infoBy
     have HOB := hid (show acc.length + E.size ≤ maxLen by have := HKK.out; have := HSE.out; unfold maxLen; omega)
     have HOC := hid (show acc.length + E.size ≤ 140737488355328 by have := HKK.out; have := HSE.out; omega)
     have HI := hid hi
     have HZ0 := hid hz0
     have HZ1 := hid hz1
     have HZ2 := hid hz2
     have HST := hid ST2b
     clear hi hz0 hz1 hz2 ST2b
     go_wp2_with (first
      | (at_builtin; refine Lib.wpList_append_own_string _ rfl (.tmp 30) (.tmp 32) 206 9 rfl w.heap.size 5 i0 Tryz.underlying206 Tryz.underlying9 HI.out HZ0.out HZ1.out HZ2.out u5 acc.length (acc.map byteV) rfl HST.out E rfl HOB.out HOC.out HSZ.out ?_; intro v5 w5 own5 gr5 mv5)
      | (go_at_call 158; refine (CT.out _).mono ?_; rintro e w6 ⟨rfl, rfl⟩))
     have ST3 := hid (ST2.out.app (acc' := acc ++ run) (own_cast own5 (by rw [List.length_append, HSE.out]; try rfl) (by rw [List.map_append]; unfold Lib.strCells; rw [HE.out]; rfl)) gr5)
     clear own5 gr5 mv5
     go_roundw
     case rel => exact ⟨pos + run.length, false, acc ++ run, q2, rfl, ST3.out, by have := HPK.out; omega, HNX.out, by rw [HVU.out, HN.out, HT.out], by simp; omega, by have := HQ.out; omega, by have := HQP.out; omega⟩
     case measure => simp only [World.iterPos, ST3.out.it, hit]; omega
  ·have hnx : ∀ ty, (Instr.next (.pointer (some ⟨w.heap.size, 0, none⟩)) true ty).run Tryz.prog wr = _ := fun ty => Lib.run_next_end_at wr w.heap.size u pos ty hit hps
   have HN := hid (show valueP esc acc (u.data.toList.drop pos) = none from by
    rw [List.drop_eq_nil_of_le (by rw [← Lib.size_eq]; omega)]
    cases esc <;> rfl)
   obtain ⟨c0, c1, c2, c3, f1, f2, f3, lt⟩ := ST.out.rd.cells
   go_wp2_with (first
    | (go_at_call 84; refine (FA.out q 0 0 160 b.size _ ST.out.rd).mono ?_; rintro e w5 ⟨rfl, h5, o5⟩)
    | fail)
   refine bodyPost_ret (v := .tuple #[.string ⟨#[]⟩, .bool false]) (by simp [results, Tryz.results111, go_sem]) rfl ?_
   exact Or.inr ⟨by rw [HV.out]; exact HN.out, rfl, ⟨q, 160, b.size, by decide, h5⟩, ST.out.only.trans o5⟩
end Go.Proofs.YtbbmdbolkicpcaaGreatDoor
