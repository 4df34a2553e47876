/- RpFormP, RpRd, RpForm, RpBroken, RpName, RpValue, RpStepA, RpStep, RpParse -/
import Derived.Test.YtjlfchnnhglbjaaGreatWA
import Derived.Lib.RuneBytes
import Derived.Test.YtjlfchnnhglbjaaGreatWC
import Derived.BigQuiet
import Derived.LoopTactic
import Derived.Deep.LoopGhost
import Derived.Deep.CutBlock
set_option linter.unusedVariables false
set_option linter.unusedSimpArgs false
namespace Go.Proofs.YtjlfchnnhglbjaaGreat
open Go.Lib
def contF : Nat → Nat → Str → Option Nat
 | 0, r, _ => some r
 | _ + 1, _, [] => none
 | m + 1, r, c :: t => if c.toNat / 64 = 2 then contF m (r * 64 + c.toNat % 64) t else none
def clsF (b : Nat) : Option (Nat × Nat) :=
 if 194 ≤ b ∧ b ≤ 223 then some (2, b % 32) else if 224 ≤ b ∧ b ≤ 239 then some (3, b % 16) else if 240 ≤ b ∧ b ≤ 244 then some (4, b % 8) else none
def badR (n r : Nat) : Bool := (n == 3 && (decide (r < 2048) || (decide (55296 ≤ r) && decide (r ≤ 57343)))) || (n == 4 && (decide (r < 65536) || decide (1114111 < r)))
def formT (n r : Nat) (t : Str) : Int × Nat :=
 match contF (n - 1) r t with
 | none => (-1, 1)
 | some x => if badR n x then (-1, 1) else ((x : Int), n)
def formV : Str → Int × Nat
 | [] => (-1, 0)
 | b :: t => if b.toNat < 128 then ((b.toNat : Int), 1) else
  match clsF b.toNat with
  | none => (-1, 1)
  | some (n, r) => formT n r t
def outD (d : Nat × Nat) : Int × Nat := if d = (65533, 1) then (-1, 1) else ((d.1 : Int), d.2)
theorem outD_bad : outD (65533, 1) = (-1, 1) := rfl
theorem outD_two (r : Nat) : outD (r, 2) = ((r : Int), 2) := by unfold outD; rw [if_neg (by intro h; cases h)]
theorem outD_three (r : Nat) : outD (r, 3) = ((r : Int), 3) := by unfold outD; rw [if_neg (by intro h; cases h)]
theorem outD_four (r : Nat) : outD (r, 4) = ((r : Int), 4) := by unfold outD; rw [if_neg (by intro h; cases h)]
theorem form_dec (l : Str) (hl : l ≠ []) : formV l = outD (decodeL l) := by
 cases l with
 | nil => exact absurd rfl hl
 | cons b t =>
  rw [decodeL_N]
  have hb := b.toNat_lt
  simp only [formV, List.getD_cons_zero]
  by_cases h128 : b.toNat < 128
  ·rw [if_pos h128]
   unfold decodeN; rw [if_pos h128]
   unfold outD; rw [if_neg (by intro h; have := congrArg Prod.fst h; simp at this; omega)]
  rw [if_neg h128]
  by_cases k2 : 194 ≤ b.toNat ∧ b.toNat ≤ 223
  ·have hc : clsF b.toNat = some (2, b.toNat % 32) := by unfold clsF; rw [if_pos k2]
   rw [hc]
   have d1 : b.toNat / 32 = 6 := by omega
   simp only [formT]
   cases t with
   | nil => simp [contF, decodeN, outD_bad, h128, d1, show ¬ b.toNat / 16 = 14 by omega, show ¬ b.toNat / 8 = 30 by omega]
   | cons c t =>
    have hcc := c.toNat_lt
    by_cases e1 : c.toNat / 64 = 2
    ·simp [contF, decodeN, e1, h128, d1, badR, outD_two, show 128 ≤ b.toNat % 32 * 64 + c.toNat % 64 by omega]
    ·simp [contF, decodeN, e1, h128, d1, outD_bad]
  by_cases k3 : 224 ≤ b.toNat ∧ b.toNat ≤ 239
  ·have hc : clsF b.toNat = some (3, b.toNat % 16) := by unfold clsF; rw [if_neg k2, if_pos k3]
   rw [hc]
   have d1 : b.toNat / 16 = 14 := by omega
   have d2 : ¬ b.toNat / 32 = 6 := by omega
   have d3 : ¬ b.toNat / 8 = 30 := by omega
   simp only [formT]
   match t with
   | [] => simp [contF, decodeN, outD_bad, h128, d1, d2, d3]
   | [c] =>
    by_cases e1 : c.toNat / 64 = 2
    ·simp [contF, decodeN, outD_bad, h128, d1, d2, d3, e1]
    ·simp [contF, decodeN, outD_bad, h128, d1, d2, d3, e1]
   | c :: d :: t =>
    have hcc := c.toNat_lt
    have hdd := d.toNat_lt
    by_cases e1 : c.toNat / 64 = 2
    ·by_cases e2 : d.toNat / 64 = 2
     ·simp only [contF, e1, e2, if_true, decodeN, h128, if_false, d1, d2, d3, false_and, List.length_cons, List.getD_cons_succ, List.getD_cons_zero, true_and, and_true]
      rw [if_pos (show 1 < t.length + 1 + 1 + 1 ∧ 2 < t.length + 1 + 1 + 1 by omega)]
      have hm : (b.toNat % 16 * 64 + c.toNat % 64) * 64 + d.toNat % 64 = b.toNat % 16 * 4096 + c.toNat % 64 * 64 + d.toNat % 64 := by omega
      rw [hm]
      generalize hx : b.toNat % 16 * 4096 + c.toNat % 64 * 64 + d.toNat % 64 = x
      by_cases hv : x ≥ 2048 ∧ (x < 55296 ∨ (57344 ≤ x ∧ x ≤ 1114111))
      ·rw [if_pos hv, outD_three, if_neg (by simp [badR]; omega)]
      ·rw [if_neg hv, outD_bad, if_pos (by simp [badR]; omega)]
     ·simp [contF, decodeN, outD_bad, h128, d1, d2, d3, e1, e2]
    ·simp [contF, decodeN, outD_bad, h128, d1, d2, d3, e1]
  by_cases k4 : 240 ≤ b.toNat ∧ b.toNat ≤ 244
  ·have hc : clsF b.toNat = some (4, b.toNat % 8) := by unfold clsF; rw [if_neg k2, if_neg k3, if_pos k4]
   rw [hc]
   have d1 : b.toNat / 8 = 30 := by omega
   have d2 : ¬ b.toNat / 32 = 6 := by omega
   have d3 : ¬ b.toNat / 16 = 14 := by omega
   simp only [formT]
   match t with
   | [] => simp [contF, decodeN, outD_bad, h128, d1, d2, d3]
   | [c] =>
    by_cases e1 : c.toNat / 64 = 2
    ·simp [contF, decodeN, outD_bad, h128, d1, d2, d3, e1]
    ·simp [contF, decodeN, outD_bad, h128, d1, d2, d3, e1]
   | [c, d] =>
    by_cases e1 : c.toNat / 64 = 2
    ·by_cases e2 : d.toNat / 64 = 2
     ·simp [contF, decodeN, outD_bad, h128, d1, d2, d3, e1, e2]
     ·simp [contF, decodeN, outD_bad, h128, d1, d2, d3, e1, e2]
    ·simp [contF, decodeN, outD_bad, h128, d1, d2, d3, e1]
   | c :: d :: e :: t =>
    have hcc := c.toNat_lt
    have hdd := d.toNat_lt
    have hee := e.toNat_lt
    by_cases e1 : c.toNat / 64 = 2
    ·by_cases e2 : d.toNat / 64 = 2
     ·by_cases e3 : e.toNat / 64 = 2
      ·simp only [contF, e1, e2, e3, if_true, decodeN, h128, if_false, d1, d2, d3, false_and, List.length_cons, List.getD_cons_succ, List.getD_cons_zero, true_and, and_true]
       rw [if_pos (show 1 < t.length + 1 + 1 + 1 + 1 ∧ 2 < t.length + 1 + 1 + 1 + 1 ∧ 3 < t.length + 1 + 1 + 1 + 1 by omega)]
       have hm : ((b.toNat % 8 * 64 + c.toNat % 64) * 64 + d.toNat % 64) * 64 + e.toNat % 64 = b.toNat % 8 * 262144 + c.toNat % 64 * 4096 + d.toNat % 64 * 64 + e.toNat % 64 := by omega
       rw [hm]
       generalize hx : b.toNat % 8 * 262144 + c.toNat % 64 * 4096 + d.toNat % 64 * 64 + e.toNat % 64 = x
       by_cases hv : x ≥ 65536 ∧ (x < 55296 ∨ (57344 ≤ x ∧ x ≤ 1114111))
       ·rw [if_pos hv, outD_four, if_neg (by simp [badR]; omega)]
       ·rw [if_neg hv, outD_bad, if_pos (by simp [badR]; omega)]
      ·simp [contF, decodeN, outD_bad, h128, d1, d2, d3, e1, e2, e3]
     ·simp [contF, decodeN, outD_bad, h128, d1, d2, d3, e1, e2]
    ·simp [contF, decodeN, outD_bad, h128, d1, d2, d3, e1]
  have hc : clsF b.toNat = none := by unfold clsF; rw [if_neg k2, if_neg k3, if_neg k4]
  rw [hc]
  simp only [decodeN]
  rw [if_neg h128]
  generalize ((b :: t).getD 1 0).toNat = c1
  generalize ((b :: t).getD 2 0).toNat = c2
  generalize ((b :: t).getD 3 0).toNat = c3
  repeat' split
  all_goals first | exact outD_bad.symm | (exfalso; omega)
end Go.Proofs.YtjlfchnnhglbjaaGreat
namespace Go.Proofs.YtjlfchnnhglbjaaGreat
open Go.RowKit Go.Lib
theorem rletB_int (c : UInt8) : letB c = ((decide (97 ≤ (c.toNat : Int)) && decide ((c.toNat : Int) ≤ 122)) || (decide (65 ≤ (c.toNat : Int)) && decide ((c.toNat : Int) ≤ 90))) := by
 revert c; apply forall_byte; decide +kernel
theorem r02letter_n (n : Int) (w : World) (h0 : 0 ≤ n) (h1 : n < 256) :
  Calls Tryz.prog 177 #[.int .u8 n] w fun e w' => e = .returned (.bool ((decide (97 ≤ n) && decide (n ≤ 122)) || (decide (65 ≤ n) && decide (n ≤ 90)))) ∧ w' = w := by
 go_enter Tryz.func177, Tryz.ntmps177
 go_wp2
 all_goals go_ret
 all_goals exact ⟨ret_bool (by first | (simp [*]; done) | (simp; omega)), rfl⟩
theorem r02digit_n (n : Int) (w : World) (h0 : 0 ≤ n) (h1 : n < 256) :
  Calls Tryz.prog 178 #[.int .u8 n] w fun e w' => e = .returned (.bool (decide (48 ≤ n) && decide (n ≤ 57))) ∧ w' = w := by
 go_enter Tryz.func178, Tryz.ntmps178
 go_wp2
 all_goals go_ret
 all_goals exact ⟨ret_bool (by first | (simp [*]; done) | (simp; omega)), rfl⟩
theorem r02letter_any (c : UInt8) (w : World) :
  Calls Tryz.prog 177 #[.int .u8 (c.toNat : Int)] w fun e w' => e = .returned (.bool (letB c)) ∧ w' = w :=
 (r02letter_n c.toNat w (by omega) (by have := c.toNat_lt; omega)).mono fun _ _ h => ⟨h.1.trans (ret_bool (rletB_int c).symm), h.2⟩
theorem r02digit_any (c : UInt8) (w : World) :
  Calls Tryz.prog 178 #[.int .u8 (c.toNat : Int)] w fun e w' => e = .returned (.bool (digB c)) ∧ w' = w :=
 (r02digit_n c.toNat w (by omega) (by have := c.toNat_lt; omega)).mono fun _ _ h => ⟨h.1.trans (ret_bool (digB_int c).symm), h.2⟩
theorem r02start_any (c : UInt8) (w : World) : Calls Tryz.prog 149 #[.int .u8 (c.toNat : Int)] w fun e w' => e = .returned (.bool (startB c)) ∧ w' = w := by
 have h95 : ((c.toNat : Int) == 95) = (c == 95) := u8_eq c 95
 have LT := hid (r02letter_any c w)
 cases hl : letB c
 ·rw [hl] at LT
  go_enter Tryz.func149, Tryz.ntmps149
  go_wp2_with (go_at_call 177; refine LT.out.mono ?_; rintro e w' ⟨rfl, rfl⟩)
  go_ret
  exact ⟨ret_bool (by simp [startB, hl]), rfl⟩
 ·rw [hl] at LT
  go_enter Tryz.func149, Tryz.ntmps149
  go_wp2_with (go_at_call 177; refine LT.out.mono ?_; rintro e w' ⟨rfl, rfl⟩)
  go_ret
  exact ⟨ret_bool (by simp [startB, hl]), rfl⟩
theorem r02byte_any (c : UInt8) (w : World) : Calls Tryz.prog 150 #[.int .u8 (c.toNat : Int)] w fun e w' => e = .returned (.bool (nameB c)) ∧ w' = w := by
 have h45 : ((c.toNat : Int) == 45) = (c == 45) := u8_eq c 45
 have h46 : ((c.toNat : Int) == 46) = (c == 46) := u8_eq c 46
 have NS := hid (r02start_any c w)
 have DG := hid (r02digit_any c w)
 cases hs : startB c <;> cases hd : digB c <;> cases h1 : (c == 45) <;> cases h2 : (c == 46)
 all_goals
  rw [hs] at NS
  rw [hd] at DG
  rw [h1] at h45
  rw [h2] at h46
  go_enter Tryz.func150, Tryz.ntmps150
  go_wp2_with (first
   | (go_at_call 149; refine NS.out.mono ?_; rintro e w' ⟨rfl, rfl⟩)
   | (go_at_call 178; refine DG.out.mono ?_; rintro e w' ⟨rfl, rfl⟩))
  go_ret
  exact ⟨ret_bool (by simp [nameB, hs, hd, h1, h2]), rfl⟩
theorem rctl_any (r : Int) (W : World) : Calls Tryz.prog 100 #[.int .i32 r] W fun e w' => e = .returned (.bool (decide (r < 32) || r == 127)) ∧ w' = W := by
 by_cases h1 : r < 32
 ·go_enter Tryz.func100, Tryz.ntmps100
  go_wp2
  go_ret
  exact ⟨ret_bool (by simp [h1]), rfl⟩
 ·cases h2 : (r == 127)
  all_goals
   go_enter Tryz.func100, Tryz.ntmps100
   go_wp2
   go_ret
   exact ⟨ret_bool (by simp [h1, h2]), rfl⟩
def SRd (W : World) (Br : Nat) (b : ByteArray) (p er : Nat) (ea : Int) : Prop := W.heap[Br]? = some (.cells (prd b p er ea) 122 (0, 0))
theorem SRd.cells {W : World} {Br : Nat} {b : ByteArray} {p er : Nat} {ea : Int} (h : SRd W Br b p er ea) :
  W.cell? ⟨Br, 0, none⟩ = some (.string b) ∧ W.cell? ⟨Br, 1, none⟩ = some (.int .i64 p) ∧ W.cell? ⟨Br, 2, none⟩ = some (.int .i64 er) ∧ W.cell? ⟨Br, 3, none⟩ = some (.int .i64 ea) ∧
  W.frozen? ⟨Br, 1, none⟩ = false ∧ W.frozen? ⟨Br, 2, none⟩ = false ∧ W.frozen? ⟨Br, 3, none⟩ = false ∧ Br < W.heap.size := by
 unfold SRd at h
 refine ⟨?_, ?_, ?_, ?_, frozen_of_row _ _ _ _ _ h, frozen_of_row _ _ _ _ _ h, frozen_of_row _ _ _ _ _ h, lt_of_block h⟩
 all_goals rw [cell_of_row _ _ _ _ _ _ h]; rfl
theorem SRd.setAt {W : World} {Br : Nat} {b : ByteArray} {p er : Nat} {ea : Int} (h : SRd W Br b p er ea) (q : Nat) : SRd (W.setCell ⟨Br, 1, none⟩ (.int .i64 q)) Br b q er ea := by
 unfold SRd at *
 rw [heap_setCell_same _ _ _ _ _ _ h]; simp [prd]
theorem SRd.setSpot {W : World} {Br : Nat} {b : ByteArray} {p er : Nat} {ea : Int} (h : SRd W Br b p er ea) (e : Nat) (a : Int) : SRd ((W.setCell ⟨Br, 2, none⟩ (.int .i64 e)).setCell ⟨Br, 3, none⟩ (.int .i64 a)) Br b p e a := by
 unfold SRd at *
 rw [heap_setCell_same _ _ _ _ _ _ (heap_setCell_same _ _ _ _ _ _ h)]; simp [prd]
theorem SRd.drewN {W : World} {Br : Nat} {b : ByteArray} {p er : Nat} {ea : Int} (h : SRd W Br b p er ea) (q : Nat) : SRd (W.drewN q) Br b p er ea := h
theorem SRd.below {W W' : World} {Br : Nat} {b : ByteArray} {p er : Nat} {ea : Int} (h : SRd W Br b p er ea) (hb : Below W.heap.size W W') : SRd W' Br b p er ea := (hb.block _ (lt_of_block h)).trans h
theorem rwrong_any (Br : Nat) (b : ByteArray) (p er : Nat) (ea : Int) (e : Nat) (a : Int) (w : World) (h : SRd w Br b p er ea) :
  Calls Tryz.prog 66 #[.pointer (some ⟨Br, 0, none⟩), .int .i64 e, .int .i64 a] w fun x w' => x = .returned (.tuple #[]) ∧ SRd w' Br b p (if er = 0 then e else er) (if er = 0 then a else ea) ∧ Only Br w w' := by
 obtain ⟨c0, c1, c2, c3, f1, f2, f3, lt⟩ := h.cells
 have H := hid h
 clear h
 by_cases he : er = 0
 ·subst he
  go_enter Tryz.func66, Tryz.ntmps66
  go_wp2_with fail
  refine bodyPost_end (results_none Tryz.results66 _ _ _) rfl ⟨rfl, ?_⟩
  exact ⟨H.out.setSpot e a, ((Only.refl w Br).set _ _).set _ _⟩
 ·have he2 : ((er : Int) == 0) = false := by rw [beq_eq_false_iff_ne]; omega
  rw [if_neg he, if_neg he]
  clear he
  go_enter Tryz.func66, Tryz.ntmps66
  go_wp2_with fail
  refine bodyPost_end (results_none Tryz.results66 _ _ _) rfl ⟨rfl, ?_⟩
  exact ⟨H.out, Only.refl w Br⟩
end Go.Proofs.YtjlfchnnhglbjaaGreat
namespace Go.Proofs.YtjlfchnnhglbjaaGreat
open Go.RowKit Go.Lib
theorem and31 (c : UInt8) : bits BinOp.and IntKind.u8 (c.toNat : Int) 31 = ((c.toNat % 32 : Nat) : Int) := by revert c; apply forall_byte; decide +kernel
theorem and15 (c : UInt8) : bits BinOp.and IntKind.u8 (c.toNat : Int) 15 = ((c.toNat % 16 : Nat) : Int) := by revert c; apply forall_byte; decide +kernel
theorem and7 (c : UInt8) : bits BinOp.and IntKind.u8 (c.toNat : Int) 7 = ((c.toNat % 8 : Nat) : Int) := by revert c; apply forall_byte; decide +kernel
theorem and63 (c : UInt8) : bits BinOp.and IntKind.u8 (c.toNat : Int) 63 = ((c.toNat % 64 : Nat) : Int) := by revert c; apply forall_byte; decide +kernel
theorem and192 (c : UInt8) : (bits BinOp.and IntKind.u8 (c.toNat : Int) 192 == 128) = decide (c.toNat / 64 = 2) := by revert c; apply forall_byte; decide +kernel
theorem or64 (r x : Nat) (hr : r < 1048576) (hx : x < 64) : bits BinOp.or IntKind.i32 ((r : Int) * 64) (x : Int) = ((r * 64 + x : Nat) : Int) := by
 have e : bits BinOp.or IntKind.i32 ((r : Int) * 64) (x : Int) = (((r * 64) ||| x : Nat) : Int) := by
  unfold bits
  have e1 : (BitVec.ofInt IntKind.i32.bits ((r : Int) * 64)) = BitVec.ofNat 32 (r * 64) := by
   rw [show ((r : Int) * 64) = ((r * 64 : Nat) : Int) by omega, BitVec.ofInt_natCast]; rfl
  have e2 : (BitVec.ofInt IntKind.i32.bits (x : Int)) = BitVec.ofNat 32 x := by rw [BitVec.ofInt_natCast]; rfl
  simp only [e1, e2]
  have e3 : (BitVec.ofNat 32 (r * 64) ||| BitVec.ofNat 32 x).toNat = (r * 64) ||| x := by
   rw [BitVec.toNat_or, BitVec.toNat_ofNat, BitVec.toNat_ofNat, Nat.mod_eq_of_lt (by omega), Nat.mod_eq_of_lt (by omega)]
  have e4 : (r * 64) ||| x < 2 ^ 26 := Nat.or_lt_two_pow (by omega) (by omega)
  show IntKind.wrap .i32 (((BitVec.ofNat 32 (r * 64) ||| BitVec.ofNat 32 x).toNat : Nat) : Int) = _
  rw [e3, IntKind.wrap_i32]
  omega
 rw [e]
 have := Nat.two_pow_add_eq_or_of_lt (b := x) (i := 6) (by omega) r
 rw [show r * 64 = 2 ^ 6 * r by omega, ← this]
theorem or64w (r x : Nat) (hr : r < 131072) : bits BinOp.or IntKind.i32 (wrap32 ((r : Int) * 64)) ((x : Int) % 64) = ((r * 64 + x % 64 : Nat) : Int) := by
 rw [show wrap32 ((r : Int) * 64) = (r : Int) * 64 by unfold wrap32; omega, ← or64 r (x % 64) (by omega) (by omega), Int.natCast_emod]; rfl
theorem drop_at (s : ByteArray) (q : Nat) (h : q < s.size) : s.data.toList.drop q = s[q] :: s.data.toList.drop (q + 1) := by
 rw [List.drop_eq_getElem_cons (by rw [← Lib.size_eq]; exact h)]; rfl
theorem cont_at (s : ByteArray) (q : Nat) (h : q < s.size) (m r : Nat) (hm : 0 < m) : contF m r (s.data.toList.drop q) = if s[q].toNat / 64 = 2 then contF (m - 1) (r * 64 + s[q].toNat % 64) (s.data.toList.drop (q + 1)) else none := by
 rw [drop_at s q h]
 cases m with
 | zero => omega
 | succ m => rfl
theorem form_cls (s : ByteArray) (p : Nat) (h : p < s.size) (hs : s.size ≤ 140737488355328) (n r : Nat) (h1 : ¬ s[p].toNat < 128) (hc : clsF s[p].toNat = some (n, r)) : formV (s.data.toList.drop p) = formT n r (s.data.toList.drop (p + 1)) := by
 rw [drop_at s p h]
 simp only [formV]
 rw [if_neg h1, hc]
theorem cont_short : ∀ (m r : Nat) (t : Str), t.length < m → contF m r t = none
 | 0, _, _, h => by omega
 | m + 1, r, [], _ => rfl
 | m + 1, r, c :: t, h => by
  simp only [contF]
  split
  ·exact cont_short m _ t (by simpa using h)
  ·rfl
theorem form_short (s : ByteArray) (p n r : Nat) (h1 : 0 < n) (h2 : p < s.size) (h3 : ¬ p + n ≤ s.size) : formT n r (s.data.toList.drop (p + 1)) = (-1, 1) := by
 unfold formT
 rw [cont_short _ _ _ (by rw [List.length_drop, ← Lib.size_eq]; omega)]
set_option maxRecDepth 100000 in
set_option maxHeartbeats 8000000 in
theorem rform_2 (s : ByteArray) (p : Nat) (w : World) (hp : p < s.size) (hs : s.size ≤ 140737488355328) (hk : 194 ≤ s[p].toNat ∧ s[p].toNat ≤ 223) :
    Calls Tryz.prog 94 #[.string s, .int .i64 p] w fun e w' => e = .returned (.tuple #[.int .i32 (formV (s.data.toList.drop p)).1, .int .i64 (formV (s.data.toList.drop p)).2]) ∧ w' = w := by
  have hpi : (p : Int) < (s.size : Int) := by omega
  have hp0 : (0 : Int) ≤ (p : Int) := by omega
  have h128 : ¬ (s[p].toNat : Int) < 128 := by omega
  have k1 : (194 : Int) ≤ (s[p].toNat : Int) := by omega
  have k2 : (s[p].toNat : Int) ≤ 223 := by omega
  have a31 := and31 s[p]
  have HV := hid (show formV (s.data.toList.drop p) = formT 2 (s[p].toNat % 32) (s.data.toList.drop (p + 1)) from form_cls s p hp hs 2 _ (by omega) (by unfold clsF; rw [if_pos ⟨by omega, by omega⟩]))
  have HR := hid (show s[p].toNat % 32 < 32 by omega)
  clear hk
  by_cases hlen : p + 2 ≤ s.size
  · have hle : (p : Int) + 2 ≤ (s.size : Int) := by omega
    go_enter Tryz.func94, Tryz.ntmps94
    go_wp2_with fail
    go_loopg [8, 9, 10] 2 (fun g v8 v9 v10 W => ∃ i r : Nat, v8 = .int .i32 r ∧ v9 = .int .i64 i ∧ 1 ≤ i ∧ i ≤ 2 ∧ 2 ≤ i + g ∧ (i = 1 → r < 32) ∧ (i = 2 → r < 2048) ∧ (i = 3 → r < 131072) ∧ contF (2 - 1) (s[p].toNat % 32) (s.data.toList.drop (p + 1)) = contF (2 - i) r (s.data.toList.drop (p + i)) ∧ W = w)
    case atStart => exact ⟨1, s[p].toNat % 32, rfl, rfl, Nat.le_refl _, by omega, by omega, fun _ => HR.out, by omega, by omega, rfl, rfl⟩
    case round =>
      obtain ⟨i, r, rfl, rfl, hi1, hin, hg, b1, b2, b3, hc, rfl⟩ := hrel
      have HC := hid hc
      clear hc
      by_cases hi : i < 2
      · have hii : (i : Int) < 2 := by omega
        have hi0 : (0 : Int) ≤ (i : Int) := by omega
        have hr : r < 131072 := by omega
        obtain ⟨q, hpq⟩ : ∃ q, q = p + i := ⟨_, rfl⟩
        have hq : q < s.size := by omega
        have HP := hid hpq
        rw [← hpq] at HC
        have hpqi : (p : Int) + (i : Int) = (q : Int) := by omega
        have hqi : (q : Int) < (s.size : Int) := by omega
        have hq0 : (0 : Int) ≤ (q : Int) := by omega
        have e192 := and192 s[q]
        have e63 := and63 s[q]
        have HST := hid (cont_at s q hq (2 - i) r (by omega))
        have HB := hid (And.intro b1 (And.intro b2 (And.intro hi1 (And.intro hi (And.intro hg hr)))))
        clear b1 b2 b3 hi1 hin hg hi hr hpq
        by_cases hcc : s[q].toNat / 64 = 2
        · rw [show decide (s[q].toNat / 64 = 2) = true from decide_eq_true hcc] at e192
          have HO := hid (or64w r s[q].toNat (by have := HB.out; omega))
          have HCC := hid hcc
          clear hcc
          go_wp2_with fail
          go_roundg (gk - 1)
          case measure => have := HB.out; omega
          case rel => exact ⟨i + 1, r * 64 + s[q].toNat % 64, by rw [← HO.out], rfl, by omega, by have := HB.out; omega, by have := HB.out; omega, by have := HB.out; omega, by have := HB.out; omega, by have := HB.out; omega, by rw [HC.out, HST.out, if_pos HCC.out, show p + (i + 1) = q + 1 by have := HP.out; omega]; rfl, rfl⟩
        · rw [show decide (s[q].toNat / 64 = 2) = false from decide_eq_false hcc] at e192
          have HF := hid (show formV (s.data.toList.drop p) = (-1, 1) from by
            rw [HV.out]; unfold formT; rw [HC.out, HST.out]; simp only [hcc, if_false])
          clear hcc
          go_wp2_with fail
          refine bodyPost_ret (v := .tuple #[.int .i32 (-1), .int .i64 1]) (by simp [results, Tryz.results94, go_sem]) rfl ⟨by rw [HF.out]; rfl, rfl⟩
      · have hii : ¬ (i : Int) < 2 := by omega
        have hin2 : i = 2 := by omega
        have HF := hid (show formV (s.data.toList.drop p) = if badR 2 r then (-1, 1) else ((r : Int), 2) from by
          rw [HV.out]; unfold formT; rw [HC.out, hin2]; rfl)
        clear hin2 hi hin hi1 hg b1 b2 b3
        go_wp2_with fail
        all_goals first
          | (refine bodyPost_ret (v := .tuple #[.int .i32 (-1), .int .i64 1]) (by simp [results, Tryz.results94, go_sem]; done) rfl ⟨?_, rfl⟩
             rw [HF.out, if_pos (by simp [badR]; omega)]; rfl)
          | (refine bodyPost_ret (v := .tuple #[.int .i32 r, .int .i64 2]) (by simp [results, Tryz.results94, go_sem]; done) rfl ⟨?_, rfl⟩
             rw [HF.out, if_neg (by simp [badR]; try omega)]; rfl)
  · have hle : ¬ (p : Int) + 2 ≤ (s.size : Int) := by omega
    have HF := hid (show formV (s.data.toList.drop p) = (-1, 1) from by rw [HV.out]; exact form_short s p 2 _ (by omega) (by omega) (by omega))
    clear hlen
    go_enter Tryz.func94, Tryz.ntmps94
    go_wp2_with fail
    refine bodyPost_ret (v := .tuple #[.int .i32 (-1), .int .i64 1]) (by simp [results, Tryz.results94, go_sem]) rfl ⟨by rw [HF.out]; rfl, rfl⟩
set_option maxRecDepth 100000 in
set_option maxHeartbeats 8000000 in
theorem rform_3 (s : ByteArray) (p : Nat) (w : World) (hp : p < s.size) (hs : s.size ≤ 140737488355328) (hk : 224 ≤ s[p].toNat ∧ s[p].toNat ≤ 239) :
    Calls Tryz.prog 94 #[.string s, .int .i64 p] w fun e w' => e = .returned (.tuple #[.int .i32 (formV (s.data.toList.drop p)).1, .int .i64 (formV (s.data.toList.drop p)).2]) ∧ w' = w := by
  have hpi : (p : Int) < (s.size : Int) := by omega
  have hp0 : (0 : Int) ≤ (p : Int) := by omega
  have h128 : ¬ (s[p].toNat : Int) < 128 := by omega
  have k1 : (224 : Int) ≤ (s[p].toNat : Int) := by omega
  have k2 : (s[p].toNat : Int) ≤ 239 := by omega
  have k3 : ¬ (s[p].toNat : Int) ≤ 223 := by omega
  have a31 := and15 s[p]
  have HV := hid (show formV (s.data.toList.drop p) = formT 3 (s[p].toNat % 16) (s.data.toList.drop (p + 1)) from form_cls s p hp hs 3 _ (by omega) (by unfold clsF; rw [if_neg (by omega), if_pos ⟨by omega, by omega⟩]))
  have HR := hid (show s[p].toNat % 16 < 32 by omega)
  clear hk
  by_cases hlen : p + 3 ≤ s.size
  · have hle : (p : Int) + 3 ≤ (s.size : Int) := by omega
    go_enter Tryz.func94, Tryz.ntmps94
    go_wp2_with fail
    go_loopg [8, 9, 10] 3 (fun g v8 v9 v10 W => ∃ i r : Nat, v8 = .int .i32 r ∧ v9 = .int .i64 i ∧ 1 ≤ i ∧ i ≤ 3 ∧ 3 ≤ i + g ∧ (i = 1 → r < 32) ∧ (i = 2 → r < 2048) ∧ (i = 3 → r < 131072) ∧ contF (3 - 1) (s[p].toNat % 16) (s.data.toList.drop (p + 1)) = contF (3 - i) r (s.data.toList.drop (p + i)) ∧ W = w)
    case atStart => exact ⟨1, s[p].toNat % 16, rfl, rfl, Nat.le_refl _, by omega, by omega, fun _ => HR.out, by omega, by omega, rfl, rfl⟩
    case round =>
      obtain ⟨i, r, rfl, rfl, hi1, hin, hg, b1, b2, b3, hc, rfl⟩ := hrel
      have HC := hid hc
      clear hc
      by_cases hi : i < 3
      · have hii : (i : Int) < 3 := by omega
        have hi0 : (0 : Int) ≤ (i : Int) := by omega
        have hr : r < 131072 := by omega
        obtain ⟨q, hpq⟩ : ∃ q, q = p + i := ⟨_, rfl⟩
        have hq : q < s.size := by omega
        have HP := hid hpq
        rw [← hpq] at HC
        have hpqi : (p : Int) + (i : Int) = (q : Int) := by omega
        have hqi : (q : Int) < (s.size : Int) := by omega
        have hq0 : (0 : Int) ≤ (q : Int) := by omega
        have e192 := and192 s[q]
        have e63 := and63 s[q]
        have HST := hid (cont_at s q hq (3 - i) r (by omega))
        have HB := hid (And.intro b1 (And.intro b2 (And.intro hi1 (And.intro hi (And.intro hg hr)))))
        clear b1 b2 b3 hi1 hin hg hi hr hpq
        by_cases hcc : s[q].toNat / 64 = 2
        · rw [show decide (s[q].toNat / 64 = 2) = true from decide_eq_true hcc] at e192
          have HO := hid (or64w r s[q].toNat (by have := HB.out; omega))
          have HCC := hid hcc
          clear hcc
          go_wp2_with fail
          go_roundg (gk - 1)
          case measure => have := HB.out; omega
          case rel => exact ⟨i + 1, r * 64 + s[q].toNat % 64, by rw [← HO.out], rfl, by omega, by have := HB.out; omega, by have := HB.out; omega, by have := HB.out; omega, by have := HB.out; omega, by have := HB.out; omega, by rw [HC.out, HST.out, if_pos HCC.out, show p + (i + 1) = q + 1 by have := HP.out; omega]; rfl, rfl⟩
        · rw [show decide (s[q].toNat / 64 = 2) = false from decide_eq_false hcc] at e192
          have HF := hid (show formV (s.data.toList.drop p) = (-1, 1) from by
            rw [HV.out]; unfold formT; rw [HC.out, HST.out]; simp only [hcc, if_false])
          clear hcc
          go_wp2_with fail
          refine bodyPost_ret (v := .tuple #[.int .i32 (-1), .int .i64 1]) (by simp [results, Tryz.results94, go_sem]) rfl ⟨by rw [HF.out]; rfl, rfl⟩
      · have hii : ¬ (i : Int) < 3 := by omega
        have hin2 : i = 3 := by omega
        have HF := hid (show formV (s.data.toList.drop p) = if badR 3 r then (-1, 1) else ((r : Int), 3) from by
          rw [HV.out]; unfold formT; rw [HC.out, hin2]; rfl)
        clear hin2 hi hin hi1 hg b1 b2 b3
        go_wp2_with fail
        all_goals first
          | (refine bodyPost_ret (v := .tuple #[.int .i32 (-1), .int .i64 1]) (by simp [results, Tryz.results94, go_sem]; done) rfl ⟨?_, rfl⟩
             rw [HF.out, if_pos (by simp [badR]; omega)]; rfl)
          | (refine bodyPost_ret (v := .tuple #[.int .i32 r, .int .i64 3]) (by simp [results, Tryz.results94, go_sem]; done) rfl ⟨?_, rfl⟩
             rw [HF.out, if_neg (by simp [badR]; try omega)]; rfl)
  · have hle : ¬ (p : Int) + 3 ≤ (s.size : Int) := by omega
    have HF := hid (show formV (s.data.toList.drop p) = (-1, 1) from by rw [HV.out]; exact form_short s p 3 _ (by omega) (by omega) (by omega))
    clear hlen
    go_enter Tryz.func94, Tryz.ntmps94
    go_wp2_with fail
    refine bodyPost_ret (v := .tuple #[.int .i32 (-1), .int .i64 1]) (by simp [results, Tryz.results94, go_sem]) rfl ⟨by rw [HF.out]; rfl, rfl⟩
set_option maxRecDepth 100000 in
set_option maxHeartbeats 8000000 in
theorem rform_4 (s : ByteArray) (p : Nat) (w : World) (hp : p < s.size) (hs : s.size ≤ 140737488355328) (hk : 240 ≤ s[p].toNat ∧ s[p].toNat ≤ 244) :
    Calls Tryz.prog 94 #[.string s, .int .i64 p] w fun e w' => e = .returned (.tuple #[.int .i32 (formV (s.data.toList.drop p)).1, .int .i64 (formV (s.data.toList.drop p)).2]) ∧ w' = w := by
  have hpi : (p : Int) < (s.size : Int) := by omega
  have hp0 : (0 : Int) ≤ (p : Int) := by omega
  have h128 : ¬ (s[p].toNat : Int) < 128 := by omega
  have k1 : (240 : Int) ≤ (s[p].toNat : Int) := by omega
  have k2 : (s[p].toNat : Int) ≤ 244 := by omega
  have k3 : ¬ (s[p].toNat : Int) ≤ 223 := by omega
  have k4 : ¬ (s[p].toNat : Int) ≤ 239 := by omega
  have a31 := and7 s[p]
  have HV := hid (show formV (s.data.toList.drop p) = formT 4 (s[p].toNat % 8) (s.data.toList.drop (p + 1)) from form_cls s p hp hs 4 _ (by omega) (by unfold clsF; rw [if_neg (by omega), if_neg (by omega), if_pos ⟨by omega, by omega⟩]))
  have HR := hid (show s[p].toNat % 8 < 32 by omega)
  clear hk
  by_cases hlen : p + 4 ≤ s.size
  · have hle : (p : Int) + 4 ≤ (s.size : Int) := by omega
    go_enter Tryz.func94, Tryz.ntmps94
    go_wp2_with fail
    go_loopg [8, 9, 10] 4 (fun g v8 v9 v10 W => ∃ i r : Nat, v8 = .int .i32 r ∧ v9 = .int .i64 i ∧ 1 ≤ i ∧ i ≤ 4 ∧ 4 ≤ i + g ∧ (i = 1 → r < 32) ∧ (i = 2 → r < 2048) ∧ (i = 3 → r < 131072) ∧ contF (4 - 1) (s[p].toNat % 8) (s.data.toList.drop (p + 1)) = contF (4 - i) r (s.data.toList.drop (p + i)) ∧ W = w)
    case atStart => exact ⟨1, s[p].toNat % 8, rfl, rfl, Nat.le_refl _, by omega, by omega, fun _ => HR.out, by omega, by omega, rfl, rfl⟩
    case round =>
      obtain ⟨i, r, rfl, rfl, hi1, hin, hg, b1, b2, b3, hc, rfl⟩ := hrel
      have HC := hid hc
      clear hc
      by_cases hi : i < 4
      · have hii : (i : Int) < 4 := by omega
        have hi0 : (0 : Int) ≤ (i : Int) := by omega
        have hr : r < 131072 := by omega
        obtain ⟨q, hpq⟩ : ∃ q, q = p + i := ⟨_, rfl⟩
        have hq : q < s.size := by omega
        have HP := hid hpq
        rw [← hpq] at HC
        have hpqi : (p : Int) + (i : Int) = (q : Int) := by omega
        have hqi : (q : Int) < (s.size : Int) := by omega
        have hq0 : (0 : Int) ≤ (q : Int) := by omega
        have e192 := and192 s[q]
        have e63 := and63 s[q]
        have HST := hid (cont_at s q hq (4 - i) r (by omega))
        have HB := hid (And.intro b1 (And.intro b2 (And.intro hi1 (And.intro hi (And.intro hg hr)))))
        clear b1 b2 b3 hi1 hin hg hi hr hpq
        by_cases hcc : s[q].toNat / 64 = 2
        · rw [show decide (s[q].toNat / 64 = 2) = true from decide_eq_true hcc] at e192
          have HO := hid (or64w r s[q].toNat (by have := HB.out; omega))
          have HCC := hid hcc
          clear hcc
          go_wp2_with fail
          go_roundg (gk - 1)
          case measure => have := HB.out; omega
          case rel => exact ⟨i + 1, r * 64 + s[q].toNat % 64, by rw [← HO.out], rfl, by omega, by have := HB.out; omega, by have := HB.out; omega, by have := HB.out; omega, by have := HB.out; omega, by have := HB.out; omega, by rw [HC.out, HST.out, if_pos HCC.out, show p + (i + 1) = q + 1 by have := HP.out; omega]; rfl, rfl⟩
        · rw [show decide (s[q].toNat / 64 = 2) = false from decide_eq_false hcc] at e192
          have HF := hid (show formV (s.data.toList.drop p) = (-1, 1) from by
            rw [HV.out]; unfold formT; rw [HC.out, HST.out]; simp only [hcc, if_false])
          clear hcc
          go_wp2_with fail
          refine bodyPost_ret (v := .tuple #[.int .i32 (-1), .int .i64 1]) (by simp [results, Tryz.results94, go_sem]) rfl ⟨by rw [HF.out]; rfl, rfl⟩
      · have hii : ¬ (i : Int) < 4 := by omega
        have hin2 : i = 4 := by omega
        have HF := hid (show formV (s.data.toList.drop p) = if badR 4 r then (-1, 1) else ((r : Int), 4) from by
          rw [HV.out]; unfold formT; rw [HC.out, hin2]; rfl)
        clear hin2 hi hin hi1 hg b1 b2 b3
        go_wp2_with fail
        all_goals first
          | (refine bodyPost_ret (v := .tuple #[.int .i32 (-1), .int .i64 1]) (by simp [results, Tryz.results94, go_sem]; done) rfl ⟨?_, rfl⟩
             rw [HF.out, if_pos (by simp [badR]; omega)]; rfl)
          | (refine bodyPost_ret (v := .tuple #[.int .i32 r, .int .i64 4]) (by simp [results, Tryz.results94, go_sem]; done) rfl ⟨?_, rfl⟩
             rw [HF.out, if_neg (by simp [badR]; try omega)]; rfl)
  · have hle : ¬ (p : Int) + 4 ≤ (s.size : Int) := by omega
    have HF := hid (show formV (s.data.toList.drop p) = (-1, 1) from by rw [HV.out]; exact form_short s p 4 _ (by omega) (by omega) (by omega))
    clear hlen
    go_enter Tryz.func94, Tryz.ntmps94
    go_wp2_with fail
    refine bodyPost_ret (v := .tuple #[.int .i32 (-1), .int .i64 1]) (by simp [results, Tryz.results94, go_sem]) rfl ⟨by rw [HF.out]; rfl, rfl⟩
set_option maxRecDepth 100000 in
set_option maxHeartbeats 8000000 in
theorem rform_any (s : ByteArray) (p : Nat) (w : World) (hp : p < s.size) (hs : s.size ≤ 140737488355328) :
  Calls Tryz.prog 94 #[.string s, .int .i64 p] w fun e w' => e = .returned (.tuple #[.int .i32 (formV (s.data.toList.drop p)).1, .int .i64 (formV (s.data.toList.drop p)).2]) ∧ w' = w := by
 by_cases k2 : 194 ≤ s[p].toNat ∧ s[p].toNat ≤ 223
 ·exact rform_2 s p w hp hs k2
 by_cases k3 : 224 ≤ s[p].toNat ∧ s[p].toNat ≤ 239
 ·exact rform_3 s p w hp hs k3
 by_cases k4 : 240 ≤ s[p].toNat ∧ s[p].toNat ≤ 244
 ·exact rform_4 s p w hp hs k4
 have hpi : (p : Int) < (s.size : Int) := by omega
 have hp0 : (0 : Int) ≤ (p : Int) := by omega
 by_cases k : s[p].toNat < 128
 ·have h128 : (s[p].toNat : Int) < 128 := by omega
  have HV := hid (show formV (s.data.toList.drop p) = ((s[p].toNat : Int), 1) by rw [drop_at s p hp]; simp only [formV]; rw [if_pos k])
  clear k k2 k3 k4
  go_enter Tryz.func94, Tryz.ntmps94
  go_wp2_with fail
  refine bodyPost_ret (v := .tuple #[.int .i32 s[p].toNat, .int .i64 1]) (by simp [results, Tryz.results94, go_sem]) rfl ⟨by rw [HV.out]; rfl, rfl⟩
 ·have h128 : ¬ (s[p].toNat : Int) < 128 := by omega
  have HV := hid (show formV (s.data.toList.drop p) = (-1, 1) by
   rw [drop_at s p hp]; simp only [formV]; rw [if_neg k, show clsF s[p].toNat = none by unfold clsF; rw [if_neg k2, if_neg k3, if_neg k4]])
  have HK := hid (show (s[p].toNat < 194 ∨ 244 < s[p].toNat) from by omega)
  clear k k2 k3 k4
  by_cases kk : (s[p].toNat : Int) < 194
  ·have k1 : ¬ (194 : Int) ≤ (s[p].toNat : Int) := by omega
   have k3 : ¬ (224 : Int) ≤ (s[p].toNat : Int) := by omega
   have k5 : ¬ (240 : Int) ≤ (s[p].toNat : Int) := by omega
   clear kk
   go_enter Tryz.func94, Tryz.ntmps94
   go_wp2_with fail
   refine bodyPost_ret (v := .tuple #[.int .i32 (-1), .int .i64 1]) (by simp [results, Tryz.results94, go_sem]) rfl ⟨by rw [HV.out]; rfl, rfl⟩
  ·have hh : 244 < s[p].toNat := by have := HK.out; omega
   have k1 : ¬ (s[p].toNat : Int) ≤ 223 := by omega
   have k3 : ¬ (s[p].toNat : Int) ≤ 239 := by omega
   have k5 : ¬ (s[p].toNat : Int) ≤ 244 := by omega
   clear kk hh
   go_enter Tryz.func94, Tryz.ntmps94
   go_wp2_with fail
   all_goals refine bodyPost_ret (v := .tuple #[.int .i32 (-1), .int .i64 1]) (by simp [results, Tryz.results94, go_sem]) rfl ⟨by rw [HV.out]; rfl, rfl⟩
end Go.Proofs.YtjlfchnnhglbjaaGreat
namespace Go.Proofs.YtjlfchnnhglbjaaGreat
open Go.RowKit Go.Lib
theorem form_at (s : ByteArray) (p : Nat) (hp : p < s.size) :
  (utfB (s.data.toList.drop p) = false ∧ formV (s.data.toList.drop p) = (-1, 1)) ∨
  ∃ r k : Nat, formV (s.data.toList.drop p) = ((r : Int), k) ∧ decodeL (s.data.toList.drop p) = (r, k) ∧ decodeL (s.data.toList.drop p) ≠ (65533, 1) ∧ 1 ≤ k ∧ p + k ≤ s.size ∧ utfB (s.data.toList.drop p) = utfB (s.data.toList.drop (p + k)) := by
 have hne : s.data.toList.drop p ≠ [] := by
  intro e
  have := congrArg List.length e
  rw [List.length_drop, ← Lib.size_eq] at this
  simp at this; omega
 have hd := dec_le hne
 rw [List.length_drop, ← Lib.size_eq] at hd
 rw [form_dec _ hne, utfB_step hne]
 by_cases hb : decodeL (s.data.toList.drop p) = (65533, 1)
 ·left; rw [hb]; exact ⟨rfl, rfl⟩
 ·right
  refine ⟨(decodeL (s.data.toList.drop p)).1, (decodeL (s.data.toList.drop p)).2, by unfold outD; rw [if_neg hb], rfl, hb, hd.2, by omega, ?_⟩
  rw [beq_eq_false_iff_ne.2 hb, List.drop_drop]; rfl
def BrokRes (s : ByteArray) (e : Ending) : Prop := ∃ i : Int, e = .returned (.int .i64 i) ∧ (if utfB s.data.toList = true then i = -1 else 0 ≤ i)
set_option maxRecDepth 100000 in
set_option maxHeartbeats 4000000 in
theorem rbroken_any (s : ByteArray) (w : World) (hs : s.size ≤ 140737488355328) :
  Calls Tryz.prog 65 #[.string s] w fun e w' => BrokRes s e ∧ w' = w := by
 have FM := hid (fun p hp W => rform_any s p W hp hs)
 go_enter Tryz.func65, Tryz.ntmps65
 go_wp2_with fail
 go_loopg [3, 4, 5] s.size (fun g v3 v4 v5 W => ∃ q : Nat, v3 = .int .i64 q ∧ q ≤ s.size ∧ s.size ≤ q + g ∧ utfB s.data.toList = utfB (s.data.toList.drop q) ∧ W = w)
 case atStart => exact ⟨0, rfl, by omega, by omega, rfl, rfl⟩
 case round =>
  obtain ⟨q, rfl, hq, hg, hu, rfl⟩ := hrel
  have HU := hid hu
  have HG := hid (And.intro hq hg)
  clear hu hq hg
  by_cases hlt : q < s.size
  ·have hqi : (q : Int) < (s.size : Int) := by omega
   have F := hid (fun W => FM.out q hlt W)
   rcases form_at s q hlt with ⟨f1, f2⟩ | ⟨r, k, f1, f2, f3, f4, f5, f6⟩
   ·have HF := hid f1
    rw [f2] at F
    clear f1 f2 hlt
    go_wp2_with (go_at_call 94; refine (F.out _).mono ?_; rintro e w' ⟨rfl, rfl⟩)
    go_ret
    exact ⟨⟨q, rfl, by rw [HU.out, HF.out]; simp⟩, rfl⟩
   ·have HF := hid (And.intro f4 (And.intro f5 f6))
    rw [f1] at F
    have hr : ¬ (r : Int) < 0 := by omega
    have hk1 : (k : Int) ≤ 140737488355328 := by omega
    have hk0 : (0 : Int) ≤ (k : Int) := by omega
    have hq1 : (q : Int) ≤ 140737488355328 := by omega
    have hq0 : (0 : Int) ≤ (q : Int) := by omega
    clear f1 f2 f3 f4 f5 f6 hlt
    go_wp2_with (go_at_call 94; refine (F.out _).mono ?_; rintro e w' ⟨rfl, rfl⟩)
    go_roundg (gk - 1)
    case measure => have := HG.out; have := HF.out; omega
    case rel => exact ⟨q + k, by go_num, HF.out.2.1, by have := HG.out; have := HF.out; omega, by rw [HU.out, HF.out.2.2], rfl⟩
  ·have hqi : ¬ (q : Int) < (s.size : Int) := by omega
   have HE := hid (show utfB s.data.toList = true from by
    rw [HU.out, List.drop_eq_nil_of_le (by rw [← Lib.size_eq]; omega)]; rfl)
   clear hlt
   go_wp2_with fail
   go_ret
   exact ⟨⟨-1, rfl, by rw [HE.out]; rfl⟩, rfl⟩
end Go.Proofs.YtjlfchnnhglbjaaGreat
namespace Go.Proofs.YtjlfchnnhglbjaaGreat
open Go.RowKit Go.Lib
def isAt (b : ByteArray) (p : Nat) (c : UInt8) : Bool := (takeB c (b.data.toList.drop p)).isSome
set_option maxHeartbeats 1000000 in
theorem ris_any (Br : Nat) (b : ByteArray) (p er : Nat) (ea : Int) (c : UInt8) (w : World) (h : SRd w Br b p er ea) (hp : p ≤ b.size) (hb : b.size ≤ 1000) :
  Calls Tryz.prog 68 #[.pointer (some ⟨Br, 0, none⟩), .int .u8 (c.toNat : Int)] w fun x w' => x = .returned (.bool (isAt b p c)) ∧ ∃ q, w' = w.drewN q := by
 by_cases hlt : p < b.size
 ·have hTB := takeB_at b p c hlt
  have hpi : (p : Int) < (b.size : Int) := by omega
  have hp0 : (0 : Int) ≤ (p : Int) := by omega
  have hx : ∃ t, ((b[p].toNat : Int) == (c.toNat : Int)) = t ∧ isAt b p c = t := by
   refine ⟨_, rfl, ?_⟩
   rw [u8_eq]; unfold isAt; rw [hTB]
   by_cases hc : b[p] = c
   ·simp [hc]
   ·rw [if_neg hc, beq_eq_false_iff_ne.2 hc]; rfl
  obtain ⟨t, hx, hr⟩ := hx
  rw [hr]
  obtain ⟨c0, c1, c2, c3, f1, f2, f3, lt⟩ := h.cells
  clear h hTB hr
  go_enter Tryz.func68, Tryz.ntmps68
  go_wp2_with fail
  cases t
  ·go_quiet (fail)
   go_wp2_with fail
   go_ret
   exact ⟨rfl, _, rfl⟩
  ·go_quiet (fail)
   go_wp2_with fail
   go_ret
   exact ⟨rfl, _, rfl⟩
 ·rw [show isAt b p c = false from by unfold isAt; rw [takeB_end b p c hlt]; rfl]
  obtain ⟨c0, c1, c2, c3, f1, f2, f3, lt⟩ := h.cells
  have HD := hid (show decide (p < b.size) = false from decide_eq_false hlt)
  clear h hlt
  go_enter Tryz.func68, Tryz.ntmps68
  go_wp2_with fail
  have hd := HD.out
  go_quiet (fail)
  go_wp2_with fail
  go_ret
  exact ⟨rfl, _, rfl⟩
def RNameRes (Br : Nat) (b : ByteArray) (p : Nat) (w : World) (x : Ending) (w' : World) : Prop :=
 (∃ n r q, nameP (b.data.toList.drop p) = some (n, r) ∧ x = .returned (.string ⟨n.toArray⟩) ∧ SRd w' Br b q 0 0 ∧ q ≤ b.size ∧ p ≤ q ∧ r = b.data.toList.drop q ∧ Only Br w w') ∨
 (nameP (b.data.toList.drop p) = none ∧ (∃ (n : Str) (q e : Nat) (a : Int), x = .returned (.string ⟨n.toArray⟩) ∧ n.length ≤ 1000 ∧ q ≤ b.size ∧ e ≠ 0 ∧ SRd w' Br b q e a) ∧ Only Br w w')
set_option maxRecDepth 100000 in
set_option maxHeartbeats 4000000 in
theorem rname6_any (Br : Nat) (b : ByteArray) (p : Nat) (w : World) (h : SRd w Br b p 0 0) (hp : p ≤ b.size) (hb : b.size ≤ 1000) :
  Calls Tryz.prog 95 #[.pointer (some ⟨Br, 0, none⟩)] w fun x w' => RNameRes Br b p w x w' := by
 have H := hid h
 have FA := hid (fun q er ea e a W (h : SRd W Br b q er ea) => rwrong_any Br b q er ea e a W h)
 by_cases hst : headB startB (b.data.toList.drop p) = true
 ·have hlt : p < b.size := by
   rcases Nat.lt_or_ge p b.size with h1 | h1
   ·exact h1
   ·rw [head_end b p (by omega)] at hst; cases hst
  have HST := hid hst
  rw [head_at b p hlt] at hst
  have NS := hid (fun m => hst ▸ r02start_any b[p] (w.drewN m))
  have hpi : (p : Int) < (b.size : Int) := by omega
  have hp0 : (0 : Int) ≤ (p : Int) := by omega
  have HD := hid (show ((p : Int) == (b.size : Int)) = false from beq_eq_false_iff_ne.2 (by omega))
  obtain ⟨c0, c1, c2, c3, f1, f2, f3, lt⟩ := h.cells
  clear h hst
  go_enter Tryz.func95, Tryz.ntmps95
  go_wp2_with fail
  have hd := HD.out
  go_quiet ((go_at_call 149; exact Calls.quiet_of_same (NS.out _)))
  have H2 := hid (H.out.drewN nq)
  have O2 := hid ((Only.refl w Br).drewN nq)
  clear c0 c1 c2 c3 f1 f2 f3 lt H NS HD hd
  generalize w.drewN nq = w2 at *
  obtain ⟨c0, c1, c2, c3, f1, f2, f3, lt⟩ := H2.out.cells
  go_wp2_with fail
  go_loopg [] b.size (fun g W => ∃ q : Nat, p ≤ q ∧ q ≤ b.size ∧ b.size ≤ q + g ∧ ((b.data.toList.drop p).take (q - p)).all nameB = true ∧ SRd W Br b q 0 0 ∧ Only Br w W)
  case atStart => exact ⟨p, Nat.le_refl _, hp, by omega, by simp, H2.out, O2.out⟩
  case round =>
   obtain ⟨q, hple, hqle, hg, hall, st3, o3⟩ := hrel
   rename World => w3
   clear c0 c1 c2 c3 f1 f2 f3 lt H2 O2
   have HG := hid hg
   have ST3 := hid st3
   have O3 := hid o3
   have HALL := hid hall
   clear hg st3 o3 hall
   obtain ⟨c0, c1, c2, c3, f1, f2, f3, lt⟩ := ST3.out.cells
   by_cases hql : q < b.size
   ·have hqi : (q : Int) < (b.size : Int) := by omega
    have hqz : (0 : Int) ≤ (q : Int) := by omega
    cases hnb : nameB b[q]
    ·have NB := hid (fun m => hnb ▸ r02byte_any b[q] (w3.drewN m))
     have HNM := hid (show nameP (b.data.toList.drop p) = if q - p ≤ 64 then some ((b.data.toList.drop p).take (q - p), (b.data.toList.drop p).drop (q - p)) else none from by
      have hl : q - p ≤ (b.data.toList.drop p).length := by rw [List.length_drop, ← Lib.size_eq]; omega
      obtain ⟨e1, e2⟩ := takeWhile_at (b.data.toList.drop p) (q - p) hl HALL.out (fun c hc => by
       rw [List.getElem?_drop, show p + (q - p) = q by omega, List.getElem?_eq_getElem (by rw [← Lib.size_eq]; exact hql)] at hc
       rw [← Option.some.inj hc]; exact hnb)
      exact nameP_at HST.out e1 e2 hl)
     clear HALL hnb HG
     go_wp2_with fail
     go_quiet ((go_at_call 150; exact Calls.quiet_of_same (NB.out _)))
     have H4 := hid (ST3.out.drewN nq)
     have O4 := hid (O3.out.drewN nq)
     clear c0 c1 c2 c3 f1 f2 f3 lt ST3 O3
     generalize w3.drewN nq = w4 at *
     obtain ⟨c0, c1, c2, c3, f1, f2, f3, lt⟩ := H4.out.cells
     have hpq : (p : Int) ≤ (q : Int) := by omega
     have hq0 : (0 : Int) ≤ (q : Int) := by omega
     have hqb : (q : Int) ≤ (b.size : Int) := by omega
     by_cases h64 : q - p ≤ 64
     ·have hng : ¬ (64 : Int) < (q : Int) - (p : Int) := by omega
      have HXT := hid (ext_at b p q)
      go_wp2_with fail
      go_quiet (fail)
      go_wp2_with fail
      go_ret
      exact Or.inl ⟨_, _, q, by rw [HNM.out, if_pos h64], by rw [HXT.out]; rfl, H4.out.drewN _, hqle, hple, by rw [List.drop_drop]; congr 1; omega, O4.out.drewN _⟩
     ·have hng : (64 : Int) < (q : Int) - (p : Int) := by omega
      go_wp2_with (go_at_call 66; refine (FA.out q 0 0 3 p w4 H4.out).mono ?_; rintro e w5 ⟨rfl, h5, o5⟩)
      rw [if_pos trivial, if_pos trivial] at h5
      have H5 := hid h5
      have O5 := hid (O4.out.trans o5)
      have HXT := hid (ext_at b p q)
      clear c0 c1 c2 c3 f1 f2 f3 lt H4 O4 h5 o5
      obtain ⟨c0, c1, c2, c3, f1, f2, f3, lt⟩ := H5.out.cells
      go_wp2_with fail
      go_quiet (fail)
      go_wp2_with fail
      go_ret
      exact Or.inr ⟨by rw [HNM.out, if_neg h64], ⟨_, q, 3, p, by rw [HXT.out]; rfl, by rw [List.length_take, List.length_drop, ← Lib.size_eq]; omega, hqle, by decide, H5.out.drewN _⟩, O5.out.drewN _⟩
    ·have NB := hid (fun m => hnb ▸ r02byte_any b[q] (w3.drewN m))
     have HA2 := hid (show ((b.data.toList.drop p).take (q + 1 - p)).all nameB = true from by
      have := takeAll_more (p := nameB) b p (q - p) (by omega) HALL.out (by simpa [show p + (q - p) = q by omega] using hnb)
      rwa [show q - p + 1 = q + 1 - p by omega] at this)
     clear HALL hnb
     go_wp2_with fail
     go_quiet ((go_at_call 150; exact Calls.quiet_of_same (NB.out _)))
     have H4 := hid (ST3.out.drewN nq)
     have O4 := hid (O3.out.drewN nq)
     clear c0 c1 c2 c3 f1 f2 f3 lt ST3 O3 NB
     generalize w3.drewN nq = w4 at *
     obtain ⟨c0, c1, c2, c3, f1, f2, f3, lt⟩ := H4.out.cells
     go_wp2_with fail
     go_roundg (gk - 1)
     case measure => have := HG.out; omega
     case rel => exact ⟨q + 1, by omega, by omega, by have := HG.out; omega, HA2.out, H4.out.setAt (q + 1), O4.out.set _ _⟩
   ·have HD := hid (show decide (q < b.size) = false from decide_eq_false hql)
    have HNM := hid (show nameP (b.data.toList.drop p) = if q - p ≤ 64 then some ((b.data.toList.drop p).take (q - p), (b.data.toList.drop p).drop (q - p)) else none from by
     have hl : q - p ≤ (b.data.toList.drop p).length := by rw [List.length_drop, ← Lib.size_eq]; omega
     obtain ⟨e1, e2⟩ := takeWhile_at (b.data.toList.drop p) (q - p) hl HALL.out (fun c hc => by
      rw [List.getElem?_drop, show p + (q - p) = q by omega, List.getElem?_eq_none (by rw [← Lib.size_eq]; omega)] at hc
      cases hc)
     exact nameP_at HST.out e1 e2 hl)
    clear HALL HG
    go_wp2_with fail
    have hd := HD.out
    go_quiet (fail)
    have H4 := hid (ST3.out.drewN nq)
    have O4 := hid (O3.out.drewN nq)
    clear c0 c1 c2 c3 f1 f2 f3 lt ST3 O3
    generalize w3.drewN nq = w4 at *
    obtain ⟨c0, c1, c2, c3, f1, f2, f3, lt⟩ := H4.out.cells
    have hpq : (p : Int) ≤ (q : Int) := by omega
    have hq0 : (0 : Int) ≤ (q : Int) := by omega
    have hqb : (q : Int) ≤ (b.size : Int) := by omega
    by_cases h64 : q - p ≤ 64
    ·have hng : ¬ (64 : Int) < (q : Int) - (p : Int) := by omega
     have HXT := hid (ext_at b p q)
     go_wp2_with fail
     go_quiet (fail)
     go_wp2_with fail
     go_ret
     exact Or.inl ⟨_, _, q, by rw [HNM.out, if_pos h64], by rw [HXT.out]; rfl, H4.out.drewN _, hqle, hple, by rw [List.drop_drop]; congr 1; omega, O4.out.drewN _⟩
    ·have hng : (64 : Int) < (q : Int) - (p : Int) := by omega
     go_wp2_with (go_at_call 66; refine (FA.out q 0 0 3 p w4 H4.out).mono ?_; rintro e w5 ⟨rfl, h5, o5⟩)
     rw [if_pos trivial, if_pos trivial] at h5
     have H5 := hid h5
     have O5 := hid (O4.out.trans o5)
     have HXT := hid (ext_at b p q)
     clear c0 c1 c2 c3 f1 f2 f3 lt H4 O4 h5 o5
     obtain ⟨c0, c1, c2, c3, f1, f2, f3, lt⟩ := H5.out.cells
     go_wp2_with fail
     go_quiet (fail)
     go_wp2_with fail
     go_ret
     exact Or.inr ⟨by rw [HNM.out, if_neg h64], ⟨_, q, 3, p, by rw [HXT.out]; rfl, by rw [List.length_take, List.length_drop, ← Lib.size_eq]; omega, hqle, by decide, H5.out.drewN _⟩, O5.out.drewN _⟩
 ·have HNN := hid (nameP_none (s := b.data.toList.drop p) (by simpa using hst))
  by_cases hlt : p < b.size
  ·rw [head_at b p hlt] at hst
   have hst : startB b[p] = false := by simpa using hst
   have NS := hid (fun m => hst ▸ r02start_any b[p] (w.drewN m))
   have hpi : (p : Int) < (b.size : Int) := by omega
   have hp0 : (0 : Int) ≤ (p : Int) := by omega
   have HD := hid (show ((p : Int) == (b.size : Int)) = false from beq_eq_false_iff_ne.2 (by omega))
   obtain ⟨c0, c1, c2, c3, f1, f2, f3, lt⟩ := h.cells
   clear h hst
   go_enter Tryz.func95, Tryz.ntmps95
   go_wp2_with fail
   have hd := HD.out
   go_quiet ((go_at_call 149; exact Calls.quiet_of_same (NS.out _)))
   have H2 := hid (H.out.drewN nq)
   have O2 := hid ((Only.refl w Br).drewN nq)
   clear c0 c1 c2 c3 f1 f2 f3 lt H NS HD hd
   generalize w.drewN nq = w2 at *
   obtain ⟨c0, c1, c2, c3, f1, f2, f3, lt⟩ := H2.out.cells
   go_wp2_with (go_at_call 66; refine (FA.out p 0 0 160 p w2 H2.out).mono ?_; rintro e w5 ⟨rfl, h5, o5⟩)
   go_ret
   exact Or.inr ⟨HNN.out, ⟨[], p, 160, p, rfl, by simp, hp, by decide, h5⟩, O2.out.trans o5⟩
  ·have HD := hid (show ((p : Int) == (b.size : Int)) = true from beq_iff_eq.2 (by omega))
   obtain ⟨c0, c1, c2, c3, f1, f2, f3, lt⟩ := h.cells
   clear h hst
   go_enter Tryz.func95, Tryz.ntmps95
   go_wp2_with fail
   have hd := HD.out
   go_quiet (fail)
   have H2 := hid (H.out.drewN nq)
   have O2 := hid ((Only.refl w Br).drewN nq)
   clear c0 c1 c2 c3 f1 f2 f3 lt H HD hd
   generalize w.drewN nq = w2 at *
   obtain ⟨c0, c1, c2, c3, f1, f2, f3, lt⟩ := H2.out.cells
   go_wp2_with (go_at_call 66; refine (FA.out p 0 0 160 p w2 H2.out).mono ?_; rintro e w5 ⟨rfl, h5, o5⟩)
   go_ret
   exact Or.inr ⟨HNN.out, ⟨[], p, 160, p, rfl, by simp, hp, by decide, h5⟩, O2.out.trans o5⟩
end Go.Proofs.YtjlfchnnhglbjaaGreat
namespace Go.Proofs.YtjlfchnnhglbjaaGreat
open Go.RowKit Go.Lib
def badV (r : Nat) : Bool := decide ((r : Int) < 32) || (r : Int) == 127 || (r : Int) == 91 || (r : Int) == 47 || (r : Int) == 61
theorem badV_byte (c : UInt8) : badV c.toNat = (ctlB c || c == 91 || c == 47 || c == 61) := by
 revert c; apply forall_byte; decide +kernel
theorem val_def (b : ByteArray) (q : Nat) (acc : Str) (hq : q < b.size) (hu : utfB (b.data.toList.drop q) = true) (h1 : b[q] ≠ 93) (h2 : b[q] ≠ 92) :
  ∃ r k : Nat, formV (b.data.toList.drop q) = ((r : Int), k) ∧ 1 ≤ k ∧ q + k ≤ b.size ∧ utfB (b.data.toList.drop (q + k)) = true ∧
   valueP false acc (b.data.toList.drop q) = if badV r then none else valueP false (acc ++ (b.data.toList.drop q).take k) (b.data.toList.drop (q + k)) := by
 rcases form_at b q hq with ⟨f1, _⟩ | ⟨r, k, f1, f2, f3, f4, f5, f6⟩
 ·rw [f1] at hu; cases hu
 refine ⟨r, k, f1, f4, f5, by rw [← f6]; exact hu, ?_⟩
 have hne : b.data.toList.drop q ≠ [] := by rw [drop_at b q hq]; simp
 have hs := sound_of _ hne f3
 rw [f2] at hs
 simp only at hs
 have hdd : b.data.toList.drop (q + k) = (b.data.toList.drop q).drop k := by rw [List.drop_drop]
 rw [hdd]
 have hd := drop_at b q hq
 generalize b.data.toList.drop q = l at *
 cases hs with
 | one c t hc =>
  have hcb : c = b[q] := by injection hd
  rw [badV_byte]
  simp only [valueP, List.take_succ_cons, List.take_zero, List.drop_succ_cons, List.drop_zero]
  rw [if_neg (by rw [hcb]; exact h2), if_neg (by rw [hcb]; exact h1)]
 | more run t r h2 h4 hr hm hb he =>
  have hbad : badV r = false := by
   unfold badV
   simp only [Bool.or_eq_false_iff, decide_eq_false_iff_not, beq_eq_false_iff_ne]
   omega
  rw [hbad, valueP_run run acc t hb]
  simp
theorem val_esc (b : ByteArray) (q : Nat) (acc : Str) (hq : q < b.size) (h : b[q] = 92) : valueP false acc (b.data.toList.drop q) = valueP true acc (b.data.toList.drop (q + 1)) := by
 rw [drop_at b q hq, h]; rfl
theorem val_end (b : ByteArray) (q : Nat) (acc : Str) (hq : q < b.size) (h : b[q] = 93) : valueP false acc (b.data.toList.drop q) = if acc.length ≤ 64 then some (acc, b.data.toList.drop (q + 1)) else none := by
 rw [drop_at b q hq, h]; rfl
theorem val_spec (b : ByteArray) (q : Nat) (acc : Str) (hq : q < b.size) : valueP true acc (b.data.toList.drop q) = if specB b[q] then valueP false (acc ++ [b[q]]) (b.data.toList.drop (q + 1)) else none := by
 rw [drop_at b q hq]; rfl
theorem val_out (b : ByteArray) (q : Nat) (e : Bool) (acc : Str) (hq : ¬ q < b.size) : valueP e acc (b.data.toList.drop q) = none := by
 rw [List.drop_eq_nil_of_le (by rw [← Lib.size_eq]; omega)]; cases e <;> rfl
theorem utf_low (b : ByteArray) (q : Nat) (hq : q < b.size) (hu : utfB (b.data.toList.drop q) = true) (h : b[q].toNat < 128) : utfB (b.data.toList.drop (q + 1)) = true := by
 rcases form_at b q hq with ⟨f1, _⟩ | ⟨r, k, f1, f2, f3, f4, f5, f6⟩
 ·rw [f1] at hu; cases hu
 have hf : formV (b.data.toList.drop q) = ((b[q].toNat : Int), 1) := by rw [drop_at b q hq]; simp only [formV]; rw [if_pos h]
 rw [f1] at hf
 have : k = 1 := by injection hf
 rw [this] at f6
 rw [← f6]; exact hu
theorem spec_low (c : UInt8) (h : specB c = true) : c.toNat < 128 := by revert c; apply forall_byte; decide +kernel
theorem ext_one (b : ByteArray) (q : Nat) (hq : q < b.size) : b.extract q (q + 1) = ⟨[b[q]].toArray⟩ := by
 rw [ext_at, drop_at b q hq, show q + 1 - q = 1 by omega]; rfl
def RValRes (Br : Nat) (b : ByteArray) (p : Nat) (w : World) (x : Ending) (w' : World) : Prop :=
 (∃ (v : Str) (q : Nat), valueP false [] (b.data.toList.drop p) = some (v, b.data.toList.drop (q + 1)) ∧ x = .returned (.string ⟨v.toArray⟩) ∧ SRd w' Br b q 0 0 ∧ q < b.size ∧ p ≤ q ∧ utfB (b.data.toList.drop (q + 1)) = true ∧ Only Br w w') ∨
 (valueP false [] (b.data.toList.drop p) = none ∧ (∃ (v : Str) (q e : Nat) (a : Int), x = .returned (.string ⟨v.toArray⟩) ∧ q ≤ b.size ∧ e ≠ 0 ∧ SRd w' Br b q e a) ∧ Only Br w w')
def RVal (Br : Nat) (b : ByteArray) (p : Nat) (w : World) (g : Nat) (acc : Str) (W : World) : Prop :=
 (∃ q : Nat, SRd W Br b q 0 0 ∧ q ≤ b.size ∧ p ≤ q ∧ b.size + 1 ≤ q + g ∧ acc.length ≤ q - p ∧ utfB (b.data.toList.drop q) = true ∧ valueP false [] (b.data.toList.drop p) = valueP false acc (b.data.toList.drop q)) ∨
 (valueP false [] (b.data.toList.drop p) = none ∧ ∃ (q e : Nat) (a : Int), q ≤ b.size ∧ e ≠ 0 ∧ SRd W Br b q e a)
set_option maxRecDepth 100000 in
set_option maxHeartbeats 16000000 in
theorem rvalue_any (Br : Nat) (b : ByteArray) (p : Nat) (w : World) (h : SRd w Br b p 0 0) (hp : p ≤ b.size) (hb : b.size ≤ 1000) (hu : utfB (b.data.toList.drop p) = true) :
  Calls Tryz.prog 96 #[.pointer (some ⟨Br, 0, none⟩)] w fun x w' => RValRes Br b p w x w' := by
 have H := hid h
 have HU0 := hid hu
 have FA := hid (fun q e a W (h : SRd W Br b q 0 0) => rwrong_any Br b q 0 0 e a W h)
 have FM := hid (fun q hq W => rform_any b q W hq (Nat.le_trans hb (by decide)))
 have CT := hid (fun (r : Int) W => rctl_any r W)
 have IX := hid (fun (c : UInt8) W => (show Calls Tryz.prog 97 #[.string ⟨#[91, 93, 47, 61, 92]⟩, .int .u8 (c.toNat : Int)] W fun e w' => e = .returned (.int .i64 (Lib.indexByte [91, 93, 47, 61, 92] c)) ∧ w' = W from by
  have h := Tryz.strings_IndexByte ⟨#[91, 93, 47, 61, 92]⟩ (c.toNat : Int) W
  have hc : ((c.toNat : Int)).toNat.toUInt8 = c := by simp
  rw [hc] at h; exact h))
 obtain ⟨c0, c1, c2, c3, f1, f2, f3, lt⟩ := h.cells
 clear h hu
 go_enter Tryz.func96, Tryz.ntmps96
 go_wp2_with fail
 go_loopg [4, 5, 6] (b.size + 1) (fun g v4 v5 v6 W => ∃ acc : Str, v4 = .string ⟨acc.toArray⟩ ∧ RVal Br b p w g acc W ∧ Only Br w W)
 case atStart => exact ⟨[], rfl, Or.inl ⟨p, H.out, hp, Nat.le_refl _, by omega, by simp, HU0.out, rfl⟩, Only.refl w Br⟩
 case round =>
  obtain ⟨acc, rfl, hr, ho⟩ := hrel
  rename World => w1
  clear c0 c1 c2 c3 f1 f2 f3 lt H
  have O1 := hid ho
  clear ho
  rcases hr with ⟨q, hrd, hq, hpq, hg, hal, hut, hv⟩ | ⟨hno, q, e, a, hq, he, hrd⟩
  ·have S1 := hid hrd
   have HV := hid hv
   have HUT := hid hut
   have HB := hid (And.intro hq (And.intro hpq (And.intro hg hal)))
   have hal2 : acc.length ≤ 1000 := by omega
   clear hrd hv hut hg hal
   obtain ⟨c0, c1, c2, c3, f1, f2, f3, lt⟩ := S1.out.cells
   have hq0 : (0 : Int) ≤ (q : Int) := by omega
   have hq1 : (q : Int) ≤ 1000 := by omega
   by_cases hlt : q < b.size
   ·have hqi : (q : Int) < (b.size : Int) := by omega
    have hqe : ((q : Int) == (b.size : Int)) = false := beq_eq_false_iff_ne.2 (by omega)
    have hqle : (q : Int) + 1 ≤ (b.size : Int) := by omega
    clear hq hpq
    by_cases h93 : b[q] = 93
    ·have e93 : ((b[q].toNat : Int) == 93) = true := by rw [h93]; rfl
     have HE := hid (val_end b q acc hlt h93)
     have HU2 := hid (utf_low b q hlt HUT.out (by rw [h93]; decide))
     clear h93
     go_wp2_with fail
     go_quiet (fail)
     have S2 := hid (S1.out.drewN nq)
     have O2 := hid (O1.out.drewN nq)
     clear c0 c1 c2 c3 f1 f2 f3 lt S1 O1
     generalize w1.drewN nq = w2 at *
     obtain ⟨c0, c1, c2, c3, f1, f2, f3, lt⟩ := S2.out.cells
     go_wp2_with fail
     go_quiet (fail)
     have S3 := hid (S2.out.drewN nq)
     have O3 := hid (O2.out.drewN nq)
     clear c0 c1 c2 c3 f1 f2 f3 lt S2 O2
     generalize w2.drewN nq = w3 at *
     obtain ⟨c0, c1, c2, c3, f1, f2, f3, lt⟩ := S3.out.cells
     by_cases h64 : acc.length ≤ 64
     ·have hng : (acc.length : Int) ≤ 64 := by omega
      go_wp2_with fail
      go_ret
      exact Or.inl ⟨acc, q, by rw [HV.out, HE.out, if_pos h64], rfl, S3.out, hlt, HB.out.2.1, HU2.out, O3.out⟩
     ·have hng : (64 : Int) < (acc.length : Int) := by omega
      go_wp2_with (go_at_call 66; refine (FA.out q 3 p _ S3.out).mono ?_; rintro e w9 ⟨rfl, h5, o5⟩)
      rw [if_pos trivial, if_pos trivial] at h5
      go_ret
      exact Or.inr ⟨by rw [HV.out, HE.out, if_neg h64], ⟨acc, q, 3, p, rfl, HB.out.1, by decide, h5⟩, O3.out.trans o5⟩
    ·have e93 : ((b[q].toNat : Int) == 93) = false := by
      have := u8_eq b[q] 93
      rw [show ((93 : UInt8).toNat : Int) = 93 from rfl] at this
      rw [this]; exact beq_eq_false_iff_ne.2 h93
     by_cases h92 : b[q] = 92
     ·have e92 : ((b[q].toNat : Int) == 92) = true := by rw [h92]; rfl
      have HE := hid (val_esc b q acc hlt h92)
      have HU2 := hid (utf_low b q hlt HUT.out (by rw [h92]; decide))
      clear h92 h93
      go_wp2_with fail
      go_quiet (fail)
      have S2 := hid (S1.out.drewN nq)
      have O2 := hid (O1.out.drewN nq)
      clear c0 c1 c2 c3 f1 f2 f3 lt S1 O1
      generalize w1.drewN nq = w2 at *
      obtain ⟨c0, c1, c2, c3, f1, f2, f3, lt⟩ := S2.out.cells
      go_wp2_with fail
      go_quiet (fail)
      have S3 := hid (S2.out.drewN nq)
      have O3 := hid (O2.out.drewN nq)
      clear c0 c1 c2 c3 f1 f2 f3 lt S2 O2
      generalize w2.drewN nq = w3 at *
      obtain ⟨c0, c1, c2, c3, f1, f2, f3, lt⟩ := S3.out.cells
      go_wp2_with fail
      go_quiet (fail)
      have S4 := hid (S3.out.drewN nq)
      have O4 := hid (O3.out.drewN nq)
      clear c0 c1 c2 c3 f1 f2 f3 lt S3 O3
      generalize w3.drewN nq = w4 at *
      obtain ⟨c0, c1, c2, c3, f1, f2, f3, lt⟩ := S4.out.cells
      go_wp2_with fail
      have S5 := hid (show SRd (w4.setCell ⟨Br, 1, none⟩ (.int .i64 ((q : Int) + 1))) Br b (q + 1) 0 0 from S4.out.setAt (q + 1))
      have O5 := hid (show Only Br w (w4.setCell ⟨Br, 1, none⟩ (.int .i64 ((q : Int) + 1))) from O4.out.set _ _)
      clear c0 c1 c2 c3 f1 f2 f3 lt S4 O4
      generalize w4.setCell ⟨Br, 1, none⟩ (.int .i64 ((q : Int) + 1)) = w5 at *
      obtain ⟨q2, hq2⟩ : ∃ q2, q2 = q + 1 := ⟨_, rfl⟩
      rw [← hq2] at HE HU2 S5
      have HQ2 := hid hq2
      have hq20 : (0 : Int) ≤ (q2 : Int) := by omega
      have hq21 : (q2 : Int) ≤ 1000 := by omega
      by_cases hlt2 : q2 < b.size
      ·have hqi2 : (q2 : Int) < (b.size : Int) := by omega
       have hqe2 : ((q2 : Int) == (b.size : Int)) = false := beq_eq_false_iff_ne.2 (by omega)
       have hqle2 : (q2 : Int) + 1 ≤ (b.size : Int) := by omega
       have hqm2 : (q2 : Int) ≤ (q2 : Int) + 1 := by omega
       have HE2 := hid (val_spec b q2 acc hlt2)
       have NB := hid (fun m => IX.out b[q2] (w5.drewN m))
       clear hqe hqle hq1 e93 e92 hq2
       obtain ⟨c0, c1, c2, c3, f1, f2, f3, lt⟩ := S5.out.cells
       cases hsp : specB b[q2]
       ·have hix : Lib.indexByte [91, 93, 47, 61, 92] b[q2] < 0 := (spec_idx b[q2]).2 hsp
        have HSP := hid hsp
        clear hsp
        go_quiet ((go_at_call 97; exact Calls.quiet_of_same (NB.out _)))
        have S6 := hid (S5.out.drewN nq)
        have O6 := hid (O5.out.drewN nq)
        clear c0 c1 c2 c3 f1 f2 f3 lt S5 O5
        generalize w5.drewN nq = w6 at *
        obtain ⟨c0, c1, c2, c3, f1, f2, f3, lt⟩ := S6.out.cells
        go_wp2_with (go_at_call 66; refine (FA.out q2 160 q2 _ S6.out).mono ?_; rintro e w9 ⟨rfl, h5, o5⟩)
        rw [if_pos trivial, if_pos trivial] at h5
        go_ret
        exact Or.inr ⟨by rw [HV.out, HE.out, HE2.out, HSP.out]; rfl, ⟨[], q2, 160, q2, rfl, by omega, by decide, h5⟩, O6.out.trans o5⟩
       ·have hix : ¬ Lib.indexByte [91, 93, 47, 61, 92] b[q2] < 0 := fun h => by rw [(spec_idx b[q2]).1 h] at hsp; cases hsp
        have HSP := hid hsp
        have HU3 := hid (utf_low b q2 hlt2 HU2.out (spec_low _ hsp))
        have HX := hid (ext_one b q2 hlt2)
        clear hsp
        go_quiet ((go_at_call 97; exact Calls.quiet_of_same (NB.out _)))
        have S6 := hid (S5.out.drewN nq)
        have O6 := hid (O5.out.drewN nq)
        clear c0 c1 c2 c3 f1 f2 f3 lt S5 O5
        generalize w5.drewN nq = w6 at *
        obtain ⟨c0, c1, c2, c3, f1, f2, f3, lt⟩ := S6.out.cells
        go_wp2_with fail
        go_quiet (fail)
        have S7 := hid (S6.out.drewN nq)
        have O7 := hid (O6.out.drewN nq)
        clear c0 c1 c2 c3 f1 f2 f3 lt S6 O6
        generalize w6.drewN nq = w7 at *
        obtain ⟨c0, c1, c2, c3, f1, f2, f3, lt⟩ := S7.out.cells
        go_wp2_with fail
        go_roundg (gk - 1)
        case measure => have := HB.out; have := HQ2.out; omega
        case rel => exact ⟨acc ++ [b[q2]], by rw [← str_cat, ← HX.out], Or.inl ⟨q2 + 1, S7.out.setAt (q2 + 1), by omega, by have := HB.out; have := HQ2.out; omega, by have := HB.out; have := HQ2.out; omega, by have := HB.out; have := HQ2.out; rw [List.length_append, List.length_singleton]; omega, HU3.out, by rw [HV.out, HE.out, HE2.out, HSP.out]; rfl⟩, O7.out.set _ _⟩
      ·have hqe2 : ((q2 : Int) == (b.size : Int)) = true := beq_iff_eq.2 (by omega)
       have HE2 := hid (val_out b q2 true acc hlt2)
       have hq2b : q2 ≤ b.size := by omega
       clear hqe hqle hq1 e93 e92 hq2 hlt2
       obtain ⟨c0, c1, c2, c3, f1, f2, f3, lt⟩ := S5.out.cells
       go_quiet (fail)
       have S6 := hid (S5.out.drewN nq)
       have O6 := hid (O5.out.drewN nq)
       clear c0 c1 c2 c3 f1 f2 f3 lt S5 O5
       generalize w5.drewN nq = w6 at *
       obtain ⟨c0, c1, c2, c3, f1, f2, f3, lt⟩ := S6.out.cells
       go_wp2_with (go_at_call 66; refine (FA.out q2 160 q2 _ S6.out).mono ?_; rintro e w9 ⟨rfl, h5, o5⟩)
       rw [if_pos trivial, if_pos trivial] at h5
       go_ret
       exact Or.inr ⟨by rw [HV.out, HE.out, HE2.out], ⟨[], q2, 160, q2, rfl, hq2b, by decide, h5⟩, O6.out.trans o5⟩
     ·have e92 : ((b[q].toNat : Int) == 92) = false := by
       have := u8_eq b[q] 92
       rw [show ((92 : UInt8).toNat : Int) = 92 from rfl] at this
       rw [this]; exact beq_eq_false_iff_ne.2 h92
      obtain ⟨r, k, v1, v2, v3, v4, v5⟩ := val_def b q acc hlt HUT.out h93 h92
      have HD := hid (And.intro v2 (And.intro v3 (And.intro v4 v5)))
      have HX := hid (ext_at b q (q + k))
      have hk0 : (0 : Int) ≤ (k : Int) := by omega
      have hk1 : (k : Int) ≤ 1000 := by omega
      have hqk : (q : Int) + (k : Int) ≤ (b.size : Int) := by omega
      have hqk2 : (q : Int) ≤ (q : Int) + (k : Int) := by omega
      clear v2 v3 v4 v5 h92 h93
      go_wp2_with fail
      go_quiet (fail)
      have S2 := hid (S1.out.drewN nq)
      have O2 := hid (O1.out.drewN nq)
      clear c0 c1 c2 c3 f1 f2 f3 lt S1 O1
      generalize w1.drewN nq = w2 at *
      obtain ⟨c0, c1, c2, c3, f1, f2, f3, lt⟩ := S2.out.cells
      go_wp2_with fail
      go_quiet (fail)
      have S3 := hid (S2.out.drewN nq)
      have O3 := hid (O2.out.drewN nq)
      clear c0 c1 c2 c3 f1 f2 f3 lt S2 O2
      generalize w2.drewN nq = w3 at *
      obtain ⟨c0, c1, c2, c3, f1, f2, f3, lt⟩ := S3.out.cells
      go_wp2_with fail
      go_quiet (fail)
      have S4 := hid (S3.out.drewN nq)
      have O4 := hid (O3.out.drewN nq)
      clear c0 c1 c2 c3 f1 f2 f3 lt S3 O3
      generalize w3.drewN nq = w4 at *
      obtain ⟨c0, c1, c2, c3, f1, f2, f3, lt⟩ := S4.out.cells
      have NB := hid (fun m => FM.out q hlt (w4.drewN m))
      rw [v1] at NB
      have CR := hid (fun W => CT.out (r : Int) W)
      clear v1
      go_wp2_with fail
      go_quiet ((go_at_call 94; exact Calls.quiet_of_same (NB.out _)))
      have S5 := hid (S4.out.drewN nq)
      have O5 := hid (O4.out.drewN nq)
      clear c0 c1 c2 c3 f1 f2 f3 lt S4 O4
      generalize w4.drewN nq = w5 at *
      obtain ⟨c0, c1, c2, c3, f1, f2, f3, lt⟩ := S5.out.cells
      obtain ⟨cb, hcb⟩ : ∃ cb, (decide ((r : Int) < 32) || (r : Int) == 127) = cb := ⟨_, rfl⟩
      rw [hcb] at CR
      have HCB := hid hcb
      clear hcb
      cases cb
      ·cases e91 : ((r : Int) == 91)
       ·cases e47 : ((r : Int) == 47)
        ·cases e61 : ((r : Int) == 61)
         ·have HBD := hid (show ¬ badV r = true by unfold badV; rw [HCB.out, e91, e47, e61]; decide)
          go_wp2_with (first
           | (go_at_call 100; refine (CR.out _).mono ?_; rintro e w8 ⟨rfl, rfl⟩)
           | (go_at_call 66; refine (FA.out q 160 q _ S5.out).mono ?_; rintro e w9 ⟨rfl, h5, o5⟩))
          go_quiet (fail)
          have S6 := hid (S5.out.drewN nq)
          have O6 := hid (O5.out.drewN nq)
          clear c0 c1 c2 c3 f1 f2 f3 lt S5 O5
          generalize w8.drewN nq = w6 at *
          obtain ⟨c0, c1, c2, c3, f1, f2, f3, lt⟩ := S6.out.cells
          go_wp2_with fail
          go_roundg (gk - 1)
          case measure => have := HB.out; omega
          case rel => exact ⟨acc ++ (b.data.toList.drop q).take k, by rw [← str_cat, HX.out, show q + k - q = k by omega], Or.inl ⟨q + k, S6.out.setAt (q + k), HD.out.2.1, by have := HB.out; omega, by have := HB.out; have := HD.out.1; omega, by have := HB.out; rw [List.length_append, List.length_take]; omega, HD.out.2.2.1, by rw [HV.out, HD.out.2.2.2, if_neg HBD.out]⟩, O6.out.set _ _⟩
         ·have HBD := hid (show badV r = true by unfold badV; rw [e61]; simp)
          go_wp2_with (first
           | (go_at_call 100; refine (CR.out _).mono ?_; rintro e w8 ⟨rfl, rfl⟩)
           | (go_at_call 66; refine (FA.out q 160 q _ S5.out).mono ?_; rintro e w9 ⟨rfl, h5, o5⟩))
          rw [if_pos trivial, if_pos trivial] at h5
          go_ret
          exact Or.inr ⟨by rw [HV.out, HD.out.2.2.2, if_pos HBD.out], ⟨[], q, 160, q, rfl, HB.out.1, by decide, h5⟩, O5.out.trans o5⟩
        ·have HBD := hid (show badV r = true by unfold badV; rw [e47]; simp)
         go_wp2_with (first
          | (go_at_call 100; refine (CR.out _).mono ?_; rintro e w8 ⟨rfl, rfl⟩)
          | (go_at_call 66; refine (FA.out q 160 q _ S5.out).mono ?_; rintro e w9 ⟨rfl, h5, o5⟩))
         rw [if_pos trivial, if_pos trivial] at h5
         go_ret
         exact Or.inr ⟨by rw [HV.out, HD.out.2.2.2, if_pos HBD.out], ⟨[], q, 160, q, rfl, HB.out.1, by decide, h5⟩, O5.out.trans o5⟩
       ·have HBD := hid (show badV r = true by unfold badV; rw [e91]; simp)
        go_wp2_with (first
         | (go_at_call 100; refine (CR.out _).mono ?_; rintro e w8 ⟨rfl, rfl⟩)
         | (go_at_call 66; refine (FA.out q 160 q _ S5.out).mono ?_; rintro e w9 ⟨rfl, h5, o5⟩))
        rw [if_pos trivial, if_pos trivial] at h5
        go_ret
        exact Or.inr ⟨by rw [HV.out, HD.out.2.2.2, if_pos HBD.out], ⟨[], q, 160, q, rfl, HB.out.1, by decide, h5⟩, O5.out.trans o5⟩
      ·have HBD := hid (show badV r = true by unfold badV; rw [HCB.out]; rfl)
       go_wp2_with (first
        | (go_at_call 100; refine (CR.out _).mono ?_; rintro e w8 ⟨rfl, rfl⟩)
        | (go_at_call 66; refine (FA.out q 160 q _ S5.out).mono ?_; rintro e w9 ⟨rfl, h5, o5⟩))
       rw [if_pos trivial, if_pos trivial] at h5
       go_ret
       exact Or.inr ⟨by rw [HV.out, HD.out.2.2.2, if_pos HBD.out], ⟨[], q, 160, q, rfl, HB.out.1, by decide, h5⟩, O5.out.trans o5⟩
   ·have hqe : ((q : Int) == (b.size : Int)) = true := beq_iff_eq.2 (by omega)
    have HE := hid (val_out b q false acc hlt)
    clear hlt hq hpq
    go_wp2_with fail
    go_quiet (fail)
    have S2 := hid (S1.out.drewN nq)
    have O2 := hid (O1.out.drewN nq)
    clear c0 c1 c2 c3 f1 f2 f3 lt S1 O1
    generalize w1.drewN nq = w2 at *
    obtain ⟨c0, c1, c2, c3, f1, f2, f3, lt⟩ := S2.out.cells
    go_wp2_with (go_at_call 66; refine (FA.out q 160 q _ S2.out).mono ?_; rintro e w9 ⟨rfl, h5, o5⟩)
    rw [if_pos trivial, if_pos trivial] at h5
    go_roundg (gk - 1)
    case measure => have := HB.out; have hh := hqe; rw [beq_iff_eq] at hh; omega
    case rel => exact ⟨acc, rfl, Or.inr ⟨by rw [HV.out, HE.out], q, 160, q, HB.out.1, by decide, h5⟩, O2.out.trans o5⟩
  ·obtain ⟨c0, c1, c2, c3, f1, f2, f3, lt⟩ := hrd.cells
   have HRD := hid hrd
   have he2 : ((e : Int) == 0) = false := by rw [beq_eq_false_iff_ne]; omega
   have HE := hid he
   clear hrd he
   go_wp2_with fail
   go_ret
   exact Or.inr ⟨hno, ⟨[], q, e, a, rfl, hq, HE.out, HRD.out⟩, O1.out⟩
end Go.Proofs.YtjlfchnnhglbjaaGreat
namespace Go.Proofs.YtjlfchnnhglbjaaGreat
open Go.RowKit Go.Lib
def SBad (W : World) (Br : Nat) (b : ByteArray) : Prop := ∃ (q e : Nat) (a : Int), q ≤ b.size ∧ e ≠ 0 ∧ SRd W Br b q e a
theorem SBad.below {W W' : World} {Br : Nat} {b : ByteArray} (h : SBad W Br b) (hb : Below W.heap.size W W') : SBad W' Br b := by
 obtain ⟨q, e, a, h1, h2, h3⟩ := h
 exact ⟨q, e, a, h1, h2, h3.below hb⟩
theorem rwrong_bad (Br : Nat) (b : ByteArray) (p er : Nat) (ea : Int) (e : Nat) (a : Int) (w : World) (h : SRd w Br b p er ea) (hp : p ≤ b.size) (he : e ≠ 0) :
  Calls Tryz.prog 66 #[.pointer (some ⟨Br, 0, none⟩), .int .i64 e, .int .i64 a] w fun x w' => x = .returned (.tuple #[]) ∧ SBad w' Br b ∧ Only Br w w' := by
 refine (rwrong_any Br b p er ea e a w h).mono fun x w' hr => ?_
 refine ⟨hr.1, ⟨p, _, _, hp, ?_, hr.2.1⟩, hr.2.2⟩
 split
 ·exact he
 ·assumption
theorem ris_two (Br : Nat) (b : ByteArray) (p er : Nat) (ea : Int) (c : UInt8) (w : World) (h : SRd w Br b p er ea) (hp : p ≤ b.size) (hb : b.size ≤ 1000) :
  Calls Tryz.prog 68 #[.pointer (some ⟨Br, 0, none⟩), .int .u8 (c.toNat : Int)] w fun x w' => ∃ ok : Bool, x = .returned (.bool ok) ∧ Only Br w w' ∧ SRd w' Br b p er ea ∧
   ((ok = false ∧ takeB c (b.data.toList.drop p) = none) ∨ (ok = true ∧ takeB c (b.data.toList.drop p) = some (b.data.toList.drop (p + 1)) ∧ p < b.size)) := by
 refine (ris_any Br b p er ea c w h hp hb).mono fun x w' hr => ?_
 obtain ⟨h1, q, rfl⟩ := hr
 refine ⟨_, h1, (Only.refl w Br).drewN q, h.drewN q, ?_⟩
 unfold isAt
 cases htb : takeB c (b.data.toList.drop p) with
 | none => exact Or.inl ⟨rfl, rfl⟩
 | some r =>
  have hlt : p < b.size := by
   rcases Nat.lt_or_ge p b.size with h | h
   ·exact h
   ·rw [takeB_end b p c (by omega)] at htb; cases htb
  refine Or.inr ⟨rfl, ?_, hlt⟩
  rw [takeB_at b p c hlt] at htb
  split at htb
  ·exact htb.symm
  ·cases htb
theorem ris_bad (Br : Nat) (b : ByteArray) (c : UInt8) (w : World) (h : SBad w Br b) (hb : b.size ≤ 1000) :
  Calls Tryz.prog 68 #[.pointer (some ⟨Br, 0, none⟩), .int .u8 (c.toNat : Int)] w fun x w' => ∃ ok : Bool, x = .returned (.bool ok) ∧ Only Br w w' ∧ SBad w' Br b := by
 obtain ⟨q, e, a, h1, h2, h3⟩ := h
 refine (ris_two Br b q e a c w h3 h1 hb).mono fun x w' hr => ?_
 obtain ⟨ok, r1, r2, r3, _⟩ := hr
 exact ⟨ok, r1, r2, q, e, a, h1, h2, r3⟩
theorem rname_one (Br : Nat) (b : ByteArray) (p : Nat) (w : World) (h : SRd w Br b p 0 0) (hp : p ≤ b.size) (hb : b.size ≤ 1000) :
  Calls Tryz.prog 95 #[.pointer (some ⟨Br, 0, none⟩)] w fun x w' => ∃ (n : Str) (ok : Bool), x = .returned (.string ⟨n.toArray⟩) ∧ Only Br w w' ∧
   ((ok = true ∧ ∃ q, nameP (b.data.toList.drop p) = some (n, b.data.toList.drop q) ∧ SRd w' Br b q 0 0 ∧ q ≤ b.size ∧ p ≤ q) ∨ (ok = false ∧ nameP (b.data.toList.drop p) = none ∧ SBad w' Br b)) := by
 refine (rname6_any Br b p w h hp hb).mono fun x w' hr => ?_
 rcases hr with ⟨n, r, q, h1, h2, h3, h4, h5, h6, h7⟩ | ⟨h1, ⟨n, q, e, a, h2, h3, h4, h5, h6⟩, h7⟩
 ·exact ⟨n, true, h2, h7, Or.inl ⟨rfl, q, by rw [h1, h6], h3, h4, h5⟩⟩
 ·exact ⟨n, false, h2, h7, Or.inr ⟨rfl, h1, q, e, a, h4, h5, h6⟩⟩
theorem rvalue_one (Br : Nat) (b : ByteArray) (p : Nat) (w : World) (h : SRd w Br b p 0 0) (hp : p ≤ b.size) (hb : b.size ≤ 1000) (hu : utfB (b.data.toList.drop p) = true) :
  Calls Tryz.prog 96 #[.pointer (some ⟨Br, 0, none⟩)] w fun x w' => ∃ (v : Str) (ok : Bool), x = .returned (.string ⟨v.toArray⟩) ∧ Only Br w w' ∧
   ((ok = true ∧ ∃ q, valueP false [] (b.data.toList.drop p) = some (v, b.data.toList.drop (q + 1)) ∧ SRd w' Br b q 0 0 ∧ q < b.size ∧ p ≤ q ∧ utfB (b.data.toList.drop (q + 1)) = true) ∨ (ok = false ∧ valueP false [] (b.data.toList.drop p) = none ∧ SBad w' Br b)) := by
 refine (rvalue_any Br b p w h hp hb hu).mono fun x w' hr => ?_
 rcases hr with ⟨v, q, h1, h2, h3, h4, h5, h6, h7⟩ | ⟨h1, ⟨v, q, e, a, h2, h3, h4, h5⟩, h6⟩
 ·exact ⟨v, true, h2, h7, Or.inl ⟨rfl, q, h1, h3, h4, h5, h6⟩⟩
 ·exact ⟨v, false, h2, h6, Or.inr ⟨rfl, h1, q, e, a, h3, h4, h5⟩⟩
theorem rstep_ret {W : World} {Rb : Nat} {a0 a1 z0 z1 : Value} (h : W.heap[Rb]? = some (.cells #[z0, z1] 104 (0, 0))) {Q : Ending → World → Prop} {a : Act} (hd : a.defers = [])
  (h2 : a.tmps.getD 2 undef = .pointer (some ⟨Rb, 0, none⟩)) (hQ : Q (.returned (.agg #[a0, a1])) (P2 W Rb a0 a1)) :
  bodyPost Tryz.prog Tryz.f67 Q Exit.ret a (P2 W Rb a0 a1) := by
 have hr := P2_row a0 a1 h
 generalize P2 W Rb a0 a1 = V at *
 obtain ⟨e0, e1, _, _, _⟩ := box2_cells hr
 refine bodyPost_ret (v := .agg #[a0, a1]) ?_ hd hQ
 obtain ⟨tmps, defers⟩ := a
 simp only [Array.getD_eq_getD_getElem?] at h2
 simp [results, Tryz.results67, go_sem, h2, e0, e1]
theorem SSt.rdS {w W : World} {Br Sb : Nat} {n : Str} {kv : Value} {ks : List (Str × Str)} (h : SSt w Br Sb n W kv ks) {b : ByteArray} {q e : Nat} {a : Int} (hr : SRd W Br b q e a) (a0 a1 : Value) : SRd (P2 W w.heap.size a0 a1) Br b q e a := by
 have := h.br
 unfold SRd at *
 rw [P2_other a0 a1 (by omega)]; exact hr
theorem SSt.badS {w W : World} {Br Sb : Nat} {n : Str} {kv : Value} {ks : List (Str × Str)} (h : SSt w Br Sb n W kv ks) {b : ByteArray} (hr : SBad W Br b) (a0 a1 : Value) : SBad (P2 W w.heap.size a0 a1) Br b := by
 obtain ⟨q, e, a, h1, h2, h3⟩ := hr
 exact ⟨q, e, a, h1, h2, h.rdS h3 a0 a1⟩
def RStepRes (Br : Nat) (b : ByteArray) (p : Nat) (w : World) (x : Ending) (w' : World) : Prop :=
  ∃ (n : Str) (ks : List (Str × Str)) (ok : Bool) (a : Option Addr) (c : Nat), x = .returned (.agg #[.string ⟨n.toArray⟩, .slice a ks.length c]) ∧ OwnP w' w.heap.size (.slice a ks.length c) ks ∧ Only Br w w' ∧
    ((ok = true ∧ ∃ q, stepP (b.data.toList.drop p) = some ((n, ks), b.data.toList.drop q) ∧ SRd w' Br b q 0 0 ∧ q ≤ b.size ∧ p < q ∧ utfB (b.data.toList.drop q) = true) ∨
     (ok = false ∧ stepP (b.data.toList.drop p) = none ∧ SBad w' Br b))
def RKey (w : World) (Br Sb : Nat) (b : ByteArray) (p : Nat) (n : Str) (g : Nat) (W : World) : Prop :=
  ∃ (kv : Value) (ks : List (Str × Str)), SSt w Br Sb n W kv ks ∧ ks.length ≤ b.size ∧
    ((∃ q, SRd W Br b q 0 0 ∧ p < q ∧ q ≤ b.size ∧ utfB (b.data.toList.drop q) = true ∧ stepP (b.data.toList.drop p) = (keysW ks (b.data.toList.drop q)).map (fun z => ((n, z.1), z.2)) ∧ ks.length ≤ q ∧ b.size + 2 ≤ q + g) ∨
     (stepP (b.data.toList.drop p) = none ∧ SBad W Br b))
end Go.Proofs.YtjlfchnnhglbjaaGreat
namespace Go.Proofs.YtjlfchnnhglbjaaGreat
open Go.RowKit Go.Lib
theorem SBad.open' {W : World} {Br : Nat} {b : ByteArray} (h : SBad W Br b) : ∃ (q e : Nat) (a : Int), q ≤ b.size ∧ ((e : Int) == 0) = false ∧ SRd W Br b q e a ∧ SBad W Br b := by
 obtain ⟨q, e, a, h1, h2, h3⟩ := h
 exact ⟨q, e, a, h1, by rw [beq_eq_false_iff_ne]; omega, h3, q, e, a, h1, h2, h3⟩
set_option maxRecDepth 100000 in
set_option maxHeartbeats 16000000 in
theorem rstep_any (Br : Nat) (b : ByteArray) (p : Nat) (w : World) (h : SRd w Br b p 0 0) (hp : p ≤ b.size) (hb : b.size ≤ 512) (hu : utfB (b.data.toList.drop p) = true) :
  Calls Tryz.prog 67 #[.pointer (some ⟨Br, 0, none⟩)] w fun x w' => RStepRes Br b p w x w' := by
 have HU := hid hu
 have hbr := h.cells.2.2.2.2.2.2.2
 have HBR := hid hbr
 have hb7 : Below w.heap.size w (w.alloc (.cells #[.string ⟨#[]⟩, .slice none 0 0] 104)) := (Below.refl _ _).alloc (Nat.le_refl _) _
 have H1 := hid (h.below hb7)
 have O1 := hid ((Only.refl w Br).below hb7)
 have F1 := hid (heap_alloc_new w (.cells #[.string ⟨#[]⟩, .slice none 0 0] 104))
 have NM := hid (fun q W (h : SRd W Br b q 0 0) (hq : q ≤ b.size) => rname_one Br b q W h hq (by omega))
 have IS91 := hid (fun q W (h : SRd W Br b q 0 0) (hq : q ≤ b.size) => (show Calls Tryz.prog 68 #[.pointer (some ⟨Br, 0, none⟩), .int .u8 91] W _ from ris_two Br b q 0 0 91 W h hq (by omega)))
 have IS61 := hid (fun q W (h : SRd W Br b q 0 0) (hq : q ≤ b.size) => (show Calls Tryz.prog 68 #[.pointer (some ⟨Br, 0, none⟩), .int .u8 61] W _ from ris_two Br b q 0 0 61 W h hq (by omega)))
 have ISB := hid (fun W (h : SBad W Br b) => (show Calls Tryz.prog 68 #[.pointer (some ⟨Br, 0, none⟩), .int .u8 61] W _ from ris_bad Br b 61 W h (by omega)))
 have VL := hid (fun q W (h : SRd W Br b q 0 0) (hq : q ≤ b.size) (hu : utfB (b.data.toList.drop q) = true) => rvalue_one Br b q W h hq (by omega) hu)
 have WR := hid (fun q er ea (e : Nat) (a : Int) W (h : SRd W Br b q er ea) (hq : q ≤ b.size) (he : e ≠ 0) => rwrong_bad Br b q er ea e a W h hq he)
 have LT1 := hid (show w.heap.size < (w.alloc (.cells #[.string ⟨#[]⟩, .slice none 0 0] 104)).heap.size from lt_of_block F1.out)
 clear h hu hb7 hbr
 go_enter Tryz.func67, Tryz.ntmps67
 go_wp2_with fail
 refine (NM.out p _ H1.out hp).mono ?_
 rintro e w2 ⟨n, ok, rfl, o2, hr⟩
 have HR := hid hr
 have O2 := hid o2
 clear o2 hr
 have F2 := hid (heap_alloc_new w2 (.cells #[.string ⟨n.toArray⟩, .slice none 0 0] 104))
 have hb3 : Below w2.heap.size w2 (w2.alloc (.cells #[.string ⟨n.toArray⟩, .slice none 0 0] 104)) := (Below.refl _ _).alloc (Nat.le_refl _) _
 have ST0 := hid (show RKey w Br w2.heap.size b p n (b.size + 2) (w2.alloc (.cells #[.string ⟨n.toArray⟩, .slice none 0 0] 104)) from by
  refine ⟨.slice none 0 0, [], ⟨(hb3.block _ (Nat.lt_of_lt_of_le LT1.out O2.out.size)).trans ((O2.out.block _ LT1.out (by have := HBR.out; simp; omega)).trans F1.out), F2.out, World.ownsRow_nil _ _ _ _, (O1.out.trans O2.out).below hb3, Nat.lt_of_lt_of_le LT1.out O2.out.size, HBR.out⟩, Nat.zero_le _, ?_⟩
  rcases HR.out with ⟨rfl, q, h1, h2, h3, h4⟩ | ⟨rfl, h1, h2⟩
  ·exact Or.inl ⟨q, h2.below hb3, name_q h1 h3 hp, h3, utfB_name h1 HU.out, stepP_eq h1, Nat.zero_le _, by omega⟩
  ·exact Or.inr ⟨stepP_none h1, h2.below hb3⟩)
 clear hb3 HR
 go_wp2_with fail
 go_loopg [4, 5, 6, 7] (b.size + 2) (fun g v4 v5 v6 v7 W => RKey w Br w2.heap.size b p n g W)
 case atStart => exact ST0.out
 case round =>
  obtain ⟨kv, ks, st, hkb, hs⟩ := hrel
  rename World => W
  obtain ⟨ak, ck, rfl⟩ := own_sliceP st.own
  have ST := hid st
  have HKB := hid hkb
  have hkl : (ks.length : Int) ≤ 600 := by omega
  clear st hkb ST0 F2 F1 O1 O2 H1 LT1
  generalize w2.heap.size = Sb at *
  obtain ⟨s0, s1, sf0, sf1, slt⟩ := box2_cells ST.out.sb
  obtain ⟨r0, r1, rf0, rf1, rlt⟩ := box2_cells ST.out.rb
  rcases hs with ⟨q, hrd, hpq, hq, huq, hke, hks, hg⟩ | ⟨hno, hbad⟩
  ·have S0 := hid hrd
   have HUQ := hid huq
   have HKE := hid hke
   have HB := hid (And.intro hpq (And.intro hq (And.intro hks hg)))
   obtain ⟨c0, c1, c2, c3, f1, f2, f3, lt⟩ := hrd.cells
   clear hrd huq hke hpq hks hg
   go_wp2_with fail
   refine (IS91.out q W S0.out hq).mono ?_
   rintro e W2 ⟨okx, rfl, o2, h2, hx⟩
   have ST2 := hid (ST.out.step o2)
   have S2 := hid h2
   clear o2 h2 ST S0
   clear s0 s1 sf0 sf1 slt r0 r1 rf0 rf1 rlt
   clear c0 c1 c2 c3 f1 f2 f3 lt
   obtain ⟨s0, s1, sf0, sf1, slt⟩ := box2_cells ST2.out.sb
   obtain ⟨r0, r1, rf0, rf1, rlt⟩ := box2_cells ST2.out.rb
   obtain ⟨c0, c1, c2, c3, f1, f2, f3, lt⟩ := S2.out.cells
   rcases hx with ⟨rfl, htb⟩ | ⟨rfl, htb, hql⟩
   ·have HE := hid (show stepP (b.data.toList.drop p) = some ((n, ks), b.data.toList.drop q) by rw [HKE.out, keysW_eq, htb]; rfl)
    clear htb
    go_wp2_with fail
    change bodyPost _ _ _ _ _ (P2 _ w.heap.size (.string ⟨n.toArray⟩) (.slice _ ks.length ck))
    exact rstep_ret ST2.out.rb rfl rfl ⟨n, ks, true, _, ck, rfl, ST2.out.own2 _ _, ST2.out.ret _ _, Or.inl ⟨rfl, q, HE.out, ST2.out.rdS S2.out _ _, HB.out.2.1, HB.out.1, HUQ.out⟩⟩
   ·have HU1 := hid (utfB_take (by decide) htb HUQ.out)
    have HE1 := hid (show keysW ks (b.data.toList.drop q) = match keyP ks (b.data.toList.drop (q + 1)) with
     | none => none
     | some (p, r3) => keysW (ks ++ [p]) r3 by rw [keysW_eq, htb] <;> rfl)
    have HQL := hid hql
    have hq0 : (0 : Int) ≤ (q : Int) := by omega
    have hq1 : (q : Int) ≤ 1000 := by omega
    clear htb hql HUQ
    have S3 := hid (show SRd (W2.setCell ⟨Br, 1, none⟩ (.int .i64 ((q : Int) + 1))) Br b (q + 1) 0 0 from S2.out.setAt (q + 1))
    have ST3 := hid (ST2.out.step ((Only.refl W2 Br).set 1 (.int .i64 ((q : Int) + 1))))
    go_wp2_with fail
    generalize W2.setCell ⟨Br, 1, none⟩ (.int .i64 ((q : Int) + 1)) = W3 at *
    refine (NM.out (q + 1) W3 S3.out HQL.out).mono ?_
    rintro e W4 ⟨k, okn, rfl, o4, hr4⟩
    have ST4 := hid (ST3.out.step o4)
    clear o4 ST2 ST3 S2 S3
    clear s0 s1 sf0 sf1 slt r0 r1 rf0 rf1 rlt
    clear c0 c1 c2 c3 f1 f2 f3 lt
    obtain ⟨s0, s1, sf0, sf1, slt⟩ := box2_cells ST4.out.sb
    obtain ⟨r0, r1, rf0, rf1, rlt⟩ := box2_cells ST4.out.rb
    rcases hr4 with ⟨rfl, q4, hnn, hrd4, hq4, hqq4⟩ | ⟨rfl, hnn, hb4⟩
    ·have HU4 := hid (utfB_name hnn HU1.out)
     have HKP := hid (show keyP ks (b.data.toList.drop (q + 1)) = if lastGE ks k then none else
       match takeB 61 (b.data.toList.drop q4) with
       | none => none
       | some r2 =>
        match valueP false [] r2 with
        | none => none
        | some (v, r3) => some ((k, v), r3) by unfold keyP; rw [hnn]; rfl)
     have S4 := hid hrd4
     clear hnn hrd4 HU1
     obtain ⟨c0, c1, c2, c3, f1, f2, f3, lt⟩ := S4.out.cells
     by_cases hnil : ks = []
     ·have HGE := hid (show lastGE ks k = false by rw [hnil]; rfl)
      have hk0 : ¬ (0 : Int) < (ks.length : Int) := by rw [hnil]; decide
      clear hnil
      go_wp2_with fail
      refine (IS61.out q4 W4 S4.out hq4).mono ?_
      rintro e W5 ⟨okz, rfl, o5, h5, hx5⟩
      have ST5 := hid (ST4.out.step o5)
      have S5 := hid h5
      clear o5 h5 ST4 S4
      clear s0 s1 sf0 sf1 slt r0 r1 rf0 rf1 rlt
      clear c0 c1 c2 c3 f1 f2 f3 lt
      obtain ⟨s0, s1, sf0, sf1, slt⟩ := box2_cells ST5.out.sb
      obtain ⟨r0, r1, rf0, rf1, rlt⟩ := box2_cells ST5.out.rb
      obtain ⟨c0, c1, c2, c3, f1, f2, f3, lt⟩ := S5.out.cells
      have hq40 : (0 : Int) ≤ (q4 : Int) := by omega
      have hq41 : (q4 : Int) ≤ 1000 := by omega
      rcases hx5 with ⟨rfl, htb⟩ | ⟨rfl, htb, hql4⟩
      ·have HNO := hid (show stepP (b.data.toList.drop p) = none by rw [HKE.out, HE1.out, HKP.out, if_neg (by rw [HGE.out]; decide), htb]; rfl)
       clear htb
       go_wp2_with (go_at_call 66; refine (WR.out q4 _ _ 160 q4 _ S5.out hq4 (by decide)).mono ?_; rintro e W9 ⟨rfl, hb9, o9⟩; have ST9 := hid (ST5.out.step o9); clear o9; clear s0 s1 sf0 sf1 slt r0 r1 rf0 rf1 rlt; clear c0 c1 c2 c3 f1 f2 f3 lt; obtain ⟨s0, s1, sf0, sf1, slt⟩ := box2_cells ST9.out.sb; obtain ⟨r0, r1, rf0, rf1, rlt⟩ := box2_cells ST9.out.rb; obtain ⟨q9, e9, a9, hq9, hE9, hrd9, hbd9⟩ := hb9.open'; obtain ⟨c0, c1, c2, c3, f1, f2, f3, lt⟩ := hrd9.cells; have BD9 := hid hbd9; clear hbd9 hb9 hrd9)
       change bodyPost _ _ _ _ _ (P2 _ w.heap.size (.string ⟨n.toArray⟩) (.slice _ ks.length ck))
       exact rstep_ret ST9.out.rb rfl rfl ⟨n, ks, false, _, ck, rfl, ST9.out.own2 _ _, ST9.out.ret _ _, Or.inr ⟨rfl, HNO.out, ST9.out.badS BD9.out _ _⟩⟩
      ·have HU5 := hid (utfB_take (by decide) htb HU4.out)
       have HKP3 := hid (show keyP ks (b.data.toList.drop (q + 1)) = match valueP false [] (b.data.toList.drop (q4 + 1)) with
        | none => none
        | some (v, r3) => some ((k, v), r3) by rw [HKP.out, if_neg (by rw [HGE.out]; decide), htb])
       have HQ5 := hid hql4
       clear htb hql4 HKP HU4
       have S6 := hid (show SRd (W5.setCell ⟨Br, 1, none⟩ (.int .i64 ((q4 : Int) + 1))) Br b (q4 + 1) 0 0 from S5.out.setAt (q4 + 1))
       have ST6 := hid (ST5.out.step ((Only.refl W5 Br).set 1 (.int .i64 ((q4 : Int) + 1))))
       go_wp2_with fail
       generalize W5.setCell ⟨Br, 1, none⟩ (.int .i64 ((q4 : Int) + 1)) = W6 at *
       refine (VL.out (q4 + 1) W6 S6.out HQ5.out HU5.out).mono ?_
       rintro e W7 ⟨v, okv, rfl, o7, hr7⟩
       have ST7 := hid (ST6.out.step o7)
       clear o7 ST5 ST6 S5 S6
       clear s0 s1 sf0 sf1 slt r0 r1 rf0 rf1 rlt
       clear c0 c1 c2 c3 f1 f2 f3 lt
       obtain ⟨s0, s1, sf0, sf1, slt⟩ := box2_cells ST7.out.sb
       obtain ⟨r0, r1, rf0, rf1, rlt⟩ := box2_cells ST7.out.rb
       rcases hr7 with ⟨rfl, q7, hv, hrd7, hq7, hqq7, hu7⟩ | ⟨rfl, hv, hb7⟩
       ·have HE4 := hid (show stepP (b.data.toList.drop p) = (keysW (ks ++ [(k, v)]) (b.data.toList.drop (q7 + 1))).map (fun z => ((n, z.1), z.2)) by rw [HKE.out, HE1.out, HKP3.out, hv])
        have HU7 := hid hu7
        have S7 := hid hrd7
        have HQ7 := hid (show p < q7 + 1 ∧ q7 + 1 ≤ b.size ∧ (ks ++ [(k, v)]).length ≤ q7 + 1 ∧ b.size + 2 ≤ q7 + 1 + (gk - 1) ∧ gk - 1 < gk from by
         have h1 := HB.out
         refine ⟨by omega, by omega, by rw [List.length_append, List.length_singleton]; omega, by omega, by omega⟩)
        have hq70 : (0 : Int) ≤ (q7 : Int) := by omega
        have hq71 : (q7 : Int) ≤ 1000 := by omega
        have HLL := hid (show ks.length ≤ 1000000 by omega)
        clear hv hrd7 hq7 hqq7 hu7
        obtain ⟨c0, c1, c2, c3, f1, f2, f3, lt⟩ := S7.out.cells
        have S8 := hid (show SRd (W7.setCell ⟨Br, 1, none⟩ (.int .i64 ((q7 : Int) + 1))) Br b (q7 + 1) 0 0 from S7.out.setAt (q7 + 1))
        have ST8 := hid (ST7.out.step ((Only.refl W7 Br).set 1 (.int .i64 ((q7 : Int) + 1))))
        have HSZ := hid (show w.heap.size + 1 ≤ (W7.setCell ⟨Br, 1, none⟩ (.int .i64 ((q7 : Int) + 1))).heap.size by have := lt_of_block ST8.out.sb; have := ST8.out.lt; omega)
        go_upto_region 16 with fail
        generalize W7.setCell ⟨Br, 1, none⟩ (.int .i64 ((q7 : Int) + 1)) = W8 at *
        clear s0 s1 sf0 sf1 slt r0 r1 rf0 rf1 rlt
        clear c0 c1 c2 c3 f1 f2 f3 lt
        obtain ⟨s0, s1, sf0, sf1, slt⟩ := box2_cells ST8.out.sb
        obtain ⟨r0, r1, rf0, rf1, rlt⟩ := box2_cells ST8.out.rb
        go_wp2_with (at_builtin; refine wpList_pushP rfl (.tmp 91) (.tmp 95) rfl (w.heap.size + 1) _ ks (k, v) rfl ST8.out.own rfl HLL.out HSZ.out ?_; intro kv' W10 own10 gr10 mv10; obtain ⟨a', c', rfl⟩ := own_sliceP own10; rw [show (ks ++ [(k, v)]).length = ks.length + 1 from by simp] at own10; have sb10 := (gr10.block Sb (lt_of_block ST8.out.sb) (Ne.symm (own_type ST8.out.own ST8.out.sb (by decide)))).trans ST8.out.sb; have HRD10 := hid (show SRd W10 Br b (q7 + 1) 0 0 from (gr10.block Br (lt_of_block S8.out) (fun e => by have := (World.ownsRow.lt ST8.out.own Br e.symm).1; have := ST8.out.br; omega)).trans S8.out); have ST10 := hid (ST8.out.keys own10 gr10); obtain ⟨t0, t1, tf0, tf1, tlt⟩ := box2_cells sb10; clear own10 gr10 mv10)
        go_roundg (gk - 1)
        case measure => exact HQ7.out.2.2.2.2
        case rel => exact ⟨_, ks ++ [(k, v)], ST10.out, by have := HQ7.out; omega, Or.inl ⟨q7 + 1, (heap_setCell_other _ _ _ _ (by have := ST8.out.br; have := ST8.out.lt; simp; omega)).trans HRD10.out, HQ7.out.1, HQ7.out.2.1, HU7.out, HE4.out, HQ7.out.2.2.1, HQ7.out.2.2.2.1⟩⟩
       ·have HNO := hid (show stepP (b.data.toList.drop p) = none by rw [HKE.out, HE1.out, HKP3.out, hv]; rfl)
        obtain ⟨q9, e9, a9, hq9, hE9, hrd9, hbd9⟩ := hb7.open'
        obtain ⟨c0, c1, c2, c3, f1, f2, f3, lt⟩ := hrd9.cells
        have BD9 := hid hbd9
        clear hbd9 hb7 hrd9 hv
        go_wp2_with fail
        change bodyPost _ _ _ _ _ (P2 _ w.heap.size (.string ⟨n.toArray⟩) (.slice _ ks.length ck))
        exact rstep_ret ST7.out.rb rfl rfl ⟨n, ks, false, _, ck, rfl, ST7.out.own2 _ _, ST7.out.ret _ _, Or.inr ⟨rfl, HNO.out, ST7.out.badS BD9.out _ _⟩⟩
     ·obtain ⟨g1, rfl⟩ : ∃ g1, ak = some ⟨g1, 0, none⟩ := by
       rcases ST4.out.own.shape with ⟨_, e⟩ | ⟨g, cap, cur, e, _⟩
       ·exact absurd e hnil
       ·cases e; exact ⟨g, rfl⟩
      obtain ⟨kl, hkl2, hkc⟩ := last_cells ST4.out.own hnil
      have hpos : 0 < ks.length := List.length_pos_iff.2 hnil
      have HKL := hid (hkl2 k)
      have HBL := hid (Proofs.bytesLess_eq k kl)
      clear hkl2 hnil
      obtain ⟨m, hm⟩ : ∃ m, ks.length = m + 1 := ⟨ks.length - 1, by omega⟩
      rw [hm, Nat.add_sub_cancel] at hkc
      have hm0 : (0 : Int) < (ks.length : Int) := by omega
      have hm1 : (ks.length : Int) - 1 = (m : Int) := by omega
      have hm2 : (m : Int) < (ks.length : Int) := by omega
      have hm3 : (0 : Int) ≤ (m : Int) := by omega
      have hm4 : (m : Int) ≤ 1000 := by omega
      clear hm hpos
      by_cases hlt : kl < k
      ·have hbl : Op.bytesLess k kl = false := by rw [HBL.out]; exact decide_eq_false (List.lt_asymm hlt)
       have hbe : (k == kl) = false := beq_eq_false_iff_ne.2 (fun e => List.lt_irrefl _ (e ▸ hlt))
       have HGE := hid (show lastGE ks k = false by rw [HKL.out, decide_eq_false (List.not_le.2 hlt)])
       clear hlt
       go_wp2_with fail
       refine (IS61.out q4 W4 S4.out hq4).mono ?_
       rintro e W5 ⟨okz, rfl, o5, h5, hx5⟩
       have ST5 := hid (ST4.out.step o5)
       have S5 := hid h5
       clear o5 h5 ST4 S4
       clear s0 s1 sf0 sf1 slt r0 r1 rf0 rf1 rlt
       clear c0 c1 c2 c3 f1 f2 f3 lt
       obtain ⟨s0, s1, sf0, sf1, slt⟩ := box2_cells ST5.out.sb
       obtain ⟨r0, r1, rf0, rf1, rlt⟩ := box2_cells ST5.out.rb
       obtain ⟨c0, c1, c2, c3, f1, f2, f3, lt⟩ := S5.out.cells
       have hq40 : (0 : Int) ≤ (q4 : Int) := by omega
       have hq41 : (q4 : Int) ≤ 1000 := by omega
       rcases hx5 with ⟨rfl, htb⟩ | ⟨rfl, htb, hql4⟩
       ·have HNO := hid (show stepP (b.data.toList.drop p) = none by rw [HKE.out, HE1.out, HKP.out, if_neg (by rw [HGE.out]; decide), htb]; rfl)
        clear htb
        go_wp2_with (go_at_call 66; refine (WR.out q4 _ _ 160 q4 _ S5.out hq4 (by decide)).mono ?_; rintro e W9 ⟨rfl, hb9, o9⟩; have ST9 := hid (ST5.out.step o9); clear o9; clear s0 s1 sf0 sf1 slt r0 r1 rf0 rf1 rlt; clear c0 c1 c2 c3 f1 f2 f3 lt; obtain ⟨s0, s1, sf0, sf1, slt⟩ := box2_cells ST9.out.sb; obtain ⟨r0, r1, rf0, rf1, rlt⟩ := box2_cells ST9.out.rb; obtain ⟨q9, e9, a9, hq9, hE9, hrd9, hbd9⟩ := hb9.open'; obtain ⟨c0, c1, c2, c3, f1, f2, f3, lt⟩ := hrd9.cells; have BD9 := hid hbd9; clear hbd9 hb9 hrd9)
        change bodyPost _ _ _ _ _ (P2 _ w.heap.size (.string ⟨n.toArray⟩) (.slice _ ks.length ck))
        exact rstep_ret ST9.out.rb rfl rfl ⟨n, ks, false, _, ck, rfl, ST9.out.own2 _ _, ST9.out.ret _ _, Or.inr ⟨rfl, HNO.out, ST9.out.badS BD9.out _ _⟩⟩
       ·have HU5 := hid (utfB_take (by decide) htb HU4.out)
        have HKP3 := hid (show keyP ks (b.data.toList.drop (q + 1)) = match valueP false [] (b.data.toList.drop (q4 + 1)) with
         | none => none
         | some (v, r3) => some ((k, v), r3) by rw [HKP.out, if_neg (by rw [HGE.out]; decide), htb])
        have HQ5 := hid hql4
        clear htb hql4 HKP HU4
        have S6 := hid (show SRd (W5.setCell ⟨Br, 1, none⟩ (.int .i64 ((q4 : Int) + 1))) Br b (q4 + 1) 0 0 from S5.out.setAt (q4 + 1))
        have ST6 := hid (ST5.out.step ((Only.refl W5 Br).set 1 (.int .i64 ((q4 : Int) + 1))))
        go_wp2_with fail
        generalize W5.setCell ⟨Br, 1, none⟩ (.int .i64 ((q4 : Int) + 1)) = W6 at *
        refine (VL.out (q4 + 1) W6 S6.out HQ5.out HU5.out).mono ?_
        rintro e W7 ⟨v, okv, rfl, o7, hr7⟩
        have ST7 := hid (ST6.out.step o7)
        clear o7 ST5 ST6 S5 S6
        clear s0 s1 sf0 sf1 slt r0 r1 rf0 rf1 rlt
        clear c0 c1 c2 c3 f1 f2 f3 lt
        obtain ⟨s0, s1, sf0, sf1, slt⟩ := box2_cells ST7.out.sb
        obtain ⟨r0, r1, rf0, rf1, rlt⟩ := box2_cells ST7.out.rb
        rcases hr7 with ⟨rfl, q7, hv, hrd7, hq7, hqq7, hu7⟩ | ⟨rfl, hv, hb7⟩
        ·have HE4 := hid (show stepP (b.data.toList.drop p) = (keysW (ks ++ [(k, v)]) (b.data.toList.drop (q7 + 1))).map (fun z => ((n, z.1), z.2)) by rw [HKE.out, HE1.out, HKP3.out, hv])
         have HU7 := hid hu7
         have S7 := hid hrd7
         have HQ7 := hid (show p < q7 + 1 ∧ q7 + 1 ≤ b.size ∧ (ks ++ [(k, v)]).length ≤ q7 + 1 ∧ b.size + 2 ≤ q7 + 1 + (gk - 1) ∧ gk - 1 < gk from by
          have h1 := HB.out
          refine ⟨by omega, by omega, by rw [List.length_append, List.length_singleton]; omega, by omega, by omega⟩)
         have hq70 : (0 : Int) ≤ (q7 : Int) := by omega
         have hq71 : (q7 : Int) ≤ 1000 := by omega
         have HLL := hid (show ks.length ≤ 1000000 by omega)
         clear hv hrd7 hq7 hqq7 hu7
         obtain ⟨c0, c1, c2, c3, f1, f2, f3, lt⟩ := S7.out.cells
         have S8 := hid (show SRd (W7.setCell ⟨Br, 1, none⟩ (.int .i64 ((q7 : Int) + 1))) Br b (q7 + 1) 0 0 from S7.out.setAt (q7 + 1))
         have ST8 := hid (ST7.out.step ((Only.refl W7 Br).set 1 (.int .i64 ((q7 : Int) + 1))))
         have HSZ := hid (show w.heap.size + 1 ≤ (W7.setCell ⟨Br, 1, none⟩ (.int .i64 ((q7 : Int) + 1))).heap.size by have := lt_of_block ST8.out.sb; have := ST8.out.lt; omega)
         go_upto_region 16 with fail
         generalize W7.setCell ⟨Br, 1, none⟩ (.int .i64 ((q7 : Int) + 1)) = W8 at *
         clear s0 s1 sf0 sf1 slt r0 r1 rf0 rf1 rlt
         clear c0 c1 c2 c3 f1 f2 f3 lt
         obtain ⟨s0, s1, sf0, sf1, slt⟩ := box2_cells ST8.out.sb
         obtain ⟨r0, r1, rf0, rf1, rlt⟩ := box2_cells ST8.out.rb
         go_wp2_with (at_builtin; refine wpList_pushP rfl (.tmp 91) (.tmp 95) rfl (w.heap.size + 1) _ ks (k, v) rfl ST8.out.own rfl HLL.out HSZ.out ?_; intro kv' W10 own10 gr10 mv10; obtain ⟨a', c', rfl⟩ := own_sliceP own10; rw [show (ks ++ [(k, v)]).length = ks.length + 1 from by simp] at own10; have sb10 := (gr10.block Sb (lt_of_block ST8.out.sb) (Ne.symm (own_type ST8.out.own ST8.out.sb (by decide)))).trans ST8.out.sb; have HRD10 := hid (show SRd W10 Br b (q7 + 1) 0 0 from (gr10.block Br (lt_of_block S8.out) (fun e => by have := (World.ownsRow.lt ST8.out.own Br e.symm).1; have := ST8.out.br; omega)).trans S8.out); have ST10 := hid (ST8.out.keys own10 gr10); obtain ⟨t0, t1, tf0, tf1, tlt⟩ := box2_cells sb10; clear own10 gr10 mv10)
         go_roundg (gk - 1)
         case measure => exact HQ7.out.2.2.2.2
         case rel => exact ⟨_, ks ++ [(k, v)], ST10.out, by have := HQ7.out; omega, Or.inl ⟨q7 + 1, (heap_setCell_other _ _ _ _ (by have := ST8.out.br; have := ST8.out.lt; simp; omega)).trans HRD10.out, HQ7.out.1, HQ7.out.2.1, HU7.out, HE4.out, HQ7.out.2.2.1, HQ7.out.2.2.2.1⟩⟩
        ·have HNO := hid (show stepP (b.data.toList.drop p) = none by rw [HKE.out, HE1.out, HKP3.out, hv]; rfl)
         obtain ⟨q9, e9, a9, hq9, hE9, hrd9, hbd9⟩ := hb7.open'
         obtain ⟨c0, c1, c2, c3, f1, f2, f3, lt⟩ := hrd9.cells
         have BD9 := hid hbd9
         clear hbd9 hb7 hrd9 hv
         go_wp2_with fail
         change bodyPost _ _ _ _ _ (P2 _ w.heap.size (.string ⟨n.toArray⟩) (.slice _ ks.length ck))
         exact rstep_ret ST7.out.rb rfl rfl ⟨n, ks, false, _, ck, rfl, ST7.out.own2 _ _, ST7.out.ret _ _, Or.inr ⟨rfl, HNO.out, ST7.out.badS BD9.out _ _⟩⟩
      ·have HGE := hid (show lastGE ks k = true by rw [HKL.out, decide_eq_true (List.not_lt.1 hlt)])
       by_cases heq : k = kl
       ·have hbl : Op.bytesLess k kl = false := by rw [HBL.out]; exact decide_eq_false (heq ▸ List.lt_irrefl _)
        have hbe : (k == kl) = true := beq_iff_eq.2 heq
        clear hlt heq
        have HNO := hid (show stepP (b.data.toList.drop p) = none by rw [HKE.out, HE1.out, HKP.out, if_pos HGE.out]; rfl)
        go_wp2_with (go_at_call 66; refine (WR.out q4 _ _ 160 _ _ S4.out hq4 (by decide)).mono ?_; rintro e W5 ⟨rfl, hb5, o5⟩; have ST5 := hid (ST4.out.step o5); have BD5 := hid hb5; clear o5 hb5; clear s0 s1 sf0 sf1 slt r0 r1 rf0 rf1 rlt; clear c0 c1 c2 c3 f1 f2 f3 lt; obtain ⟨s0, s1, sf0, sf1, slt⟩ := box2_cells ST5.out.sb; obtain ⟨r0, r1, rf0, rf1, rlt⟩ := box2_cells ST5.out.rb)
        refine (ISB.out _ BD5.out).mono ?_
        rintro e W8 ⟨okz, rfl, o8, hb8⟩
        have ST8 := hid (ST5.out.step o8)
        clear o8
        clear s0 s1 sf0 sf1 slt r0 r1 rf0 rf1 rlt
        obtain ⟨s0, s1, sf0, sf1, slt⟩ := box2_cells ST8.out.sb
        obtain ⟨r0, r1, rf0, rf1, rlt⟩ := box2_cells ST8.out.rb
        obtain ⟨q8, e8, a8, hq8, hE8, hrd8, hbd8⟩ := hb8.open'
        have S8 := hid hrd8
        have BD8 := hid hbd8
        clear hbd8 hrd8
        try clear c0 c1 c2 c3 f1 f2 f3 lt
        obtain ⟨c0, c1, c2, c3, f1, f2, f3, lt⟩ := S8.out.cells
        cases okz with
        | false =>
         go_wp2_with (go_at_call 66; refine (WR.out q8 _ _ 160 q8 _ S8.out hq8 (by decide)).mono ?_; rintro e W9 ⟨rfl, hb9, o9⟩; have ST9 := hid (ST8.out.step o9); clear o9; clear s0 s1 sf0 sf1 slt r0 r1 rf0 rf1 rlt; clear c0 c1 c2 c3 f1 f2 f3 lt; obtain ⟨s0, s1, sf0, sf1, slt⟩ := box2_cells ST9.out.sb; obtain ⟨r0, r1, rf0, rf1, rlt⟩ := box2_cells ST9.out.rb; obtain ⟨q9, e9, a9, hq9, hE9, hrd9, hbd9⟩ := hb9.open'; obtain ⟨c0, c1, c2, c3, f1, f2, f3, lt⟩ := hrd9.cells; have BD9 := hid hbd9; clear hbd9 hb9 hrd9)
         change bodyPost _ _ _ _ _ (P2 _ w.heap.size (.string ⟨n.toArray⟩) (.slice _ ks.length ck))
         exact rstep_ret ST9.out.rb rfl rfl ⟨n, ks, false, _, ck, rfl, ST9.out.own2 _ _, ST9.out.ret _ _, Or.inr ⟨rfl, HNO.out, ST9.out.badS BD9.out _ _⟩⟩
        | true =>
         go_wp2_with fail
         change bodyPost _ _ _ _ _ (P2 _ w.heap.size (.string ⟨n.toArray⟩) (.slice _ ks.length ck))
         exact rstep_ret ST8.out.rb rfl rfl ⟨n, ks, false, _, ck, rfl, ST8.out.own2 _ _, ST8.out.ret _ _, Or.inr ⟨rfl, HNO.out, ST8.out.badS BD8.out _ _⟩⟩
       ·have hbl : Op.bytesLess k kl = true := by
         rw [HBL.out]
         exact decide_eq_true ((List.le_iff_lt_or_eq.1 (List.not_lt.1 hlt)).resolve_right heq)
        have hbe : (k == kl) = false := beq_eq_false_iff_ne.2 heq
        clear hlt heq
        have HNO := hid (show stepP (b.data.toList.drop p) = none by rw [HKE.out, HE1.out, HKP.out, if_pos HGE.out]; rfl)
        go_wp2_with (go_at_call 66; refine (WR.out q4 _ _ 160 _ _ S4.out hq4 (by decide)).mono ?_; rintro e W5 ⟨rfl, hb5, o5⟩; have ST5 := hid (ST4.out.step o5); have BD5 := hid hb5; clear o5 hb5; clear s0 s1 sf0 sf1 slt r0 r1 rf0 rf1 rlt; clear c0 c1 c2 c3 f1 f2 f3 lt; obtain ⟨s0, s1, sf0, sf1, slt⟩ := box2_cells ST5.out.sb; obtain ⟨r0, r1, rf0, rf1, rlt⟩ := box2_cells ST5.out.rb)
        refine (ISB.out _ BD5.out).mono ?_
        rintro e W8 ⟨okz, rfl, o8, hb8⟩
        have ST8 := hid (ST5.out.step o8)
        clear o8
        clear s0 s1 sf0 sf1 slt r0 r1 rf0 rf1 rlt
        obtain ⟨s0, s1, sf0, sf1, slt⟩ := box2_cells ST8.out.sb
        obtain ⟨r0, r1, rf0, rf1, rlt⟩ := box2_cells ST8.out.rb
        obtain ⟨q8, e8, a8, hq8, hE8, hrd8, hbd8⟩ := hb8.open'
        have S8 := hid hrd8
        have BD8 := hid hbd8
        clear hbd8 hrd8
        try clear c0 c1 c2 c3 f1 f2 f3 lt
        obtain ⟨c0, c1, c2, c3, f1, f2, f3, lt⟩ := S8.out.cells
        cases okz with
        | false =>
         go_wp2_with (go_at_call 66; refine (WR.out q8 _ _ 160 q8 _ S8.out hq8 (by decide)).mono ?_; rintro e W9 ⟨rfl, hb9, o9⟩; have ST9 := hid (ST8.out.step o9); clear o9; clear s0 s1 sf0 sf1 slt r0 r1 rf0 rf1 rlt; clear c0 c1 c2 c3 f1 f2 f3 lt; obtain ⟨s0, s1, sf0, sf1, slt⟩ := box2_cells ST9.out.sb; obtain ⟨r0, r1, rf0, rf1, rlt⟩ := box2_cells ST9.out.rb; obtain ⟨q9, e9, a9, hq9, hE9, hrd9, hbd9⟩ := hb9.open'; obtain ⟨c0, c1, c2, c3, f1, f2, f3, lt⟩ := hrd9.cells; have BD9 := hid hbd9; clear hbd9 hb9 hrd9)
         change bodyPost _ _ _ _ _ (P2 _ w.heap.size (.string ⟨n.toArray⟩) (.slice _ ks.length ck))
         exact rstep_ret ST9.out.rb rfl rfl ⟨n, ks, false, _, ck, rfl, ST9.out.own2 _ _, ST9.out.ret _ _, Or.inr ⟨rfl, HNO.out, ST9.out.badS BD9.out _ _⟩⟩
        | true =>
         go_wp2_with fail
         change bodyPost _ _ _ _ _ (P2 _ w.heap.size (.string ⟨n.toArray⟩) (.slice _ ks.length ck))
         exact rstep_ret ST8.out.rb rfl rfl ⟨n, ks, false, _, ck, rfl, ST8.out.own2 _ _, ST8.out.ret _ _, Or.inr ⟨rfl, HNO.out, ST8.out.badS BD8.out _ _⟩⟩
    ·have HNO := hid (show stepP (b.data.toList.drop p) = none by rw [HKE.out, HE1.out]; unfold keyP; rw [hnn]; rfl)
     obtain ⟨q4, e4, a4, hq4, hE4, hrd4, hbd4⟩ := hb4.open'
     have S4 := hid hrd4
     have BD4 := hid hbd4
     clear hnn hb4 hrd4 hbd4
     obtain ⟨c0, c1, c2, c3, f1, f2, f3, lt⟩ := S4.out.cells
     by_cases hnil : ks = []
     ·have HGE := hid (show lastGE ks k = false by rw [hnil]; rfl)
      have hk0 : ¬ (0 : Int) < (ks.length : Int) := by rw [hnil]; decide
      clear hnil
      go_wp2_with fail
      refine (ISB.out _ BD4.out).mono ?_
      rintro e W8 ⟨okz, rfl, o8, hb8⟩
      have ST8 := hid (ST4.out.step o8)
      clear o8
      clear s0 s1 sf0 sf1 slt r0 r1 rf0 rf1 rlt
      obtain ⟨s0, s1, sf0, sf1, slt⟩ := box2_cells ST8.out.sb
      obtain ⟨r0, r1, rf0, rf1, rlt⟩ := box2_cells ST8.out.rb
      obtain ⟨q8, e8, a8, hq8, hE8, hrd8, hbd8⟩ := hb8.open'
      have S8 := hid hrd8
      have BD8 := hid hbd8
      clear hbd8 hrd8
      try clear c0 c1 c2 c3 f1 f2 f3 lt
      obtain ⟨c0, c1, c2, c3, f1, f2, f3, lt⟩ := S8.out.cells
      cases okz with
      | false =>
       go_wp2_with (go_at_call 66; refine (WR.out q8 _ _ 160 q8 _ S8.out hq8 (by decide)).mono ?_; rintro e W9 ⟨rfl, hb9, o9⟩; have ST9 := hid (ST8.out.step o9); clear o9; clear s0 s1 sf0 sf1 slt r0 r1 rf0 rf1 rlt; clear c0 c1 c2 c3 f1 f2 f3 lt; obtain ⟨s0, s1, sf0, sf1, slt⟩ := box2_cells ST9.out.sb; obtain ⟨r0, r1, rf0, rf1, rlt⟩ := box2_cells ST9.out.rb; obtain ⟨q9, e9, a9, hq9, hE9, hrd9, hbd9⟩ := hb9.open'; obtain ⟨c0, c1, c2, c3, f1, f2, f3, lt⟩ := hrd9.cells; have BD9 := hid hbd9; clear hbd9 hb9 hrd9)
       change bodyPost _ _ _ _ _ (P2 _ w.heap.size (.string ⟨n.toArray⟩) (.slice _ ks.length ck))
       exact rstep_ret ST9.out.rb rfl rfl ⟨n, ks, false, _, ck, rfl, ST9.out.own2 _ _, ST9.out.ret _ _, Or.inr ⟨rfl, HNO.out, ST9.out.badS BD9.out _ _⟩⟩
      | true =>
       go_wp2_with fail
       change bodyPost _ _ _ _ _ (P2 _ w.heap.size (.string ⟨n.toArray⟩) (.slice _ ks.length ck))
       exact rstep_ret ST8.out.rb rfl rfl ⟨n, ks, false, _, ck, rfl, ST8.out.own2 _ _, ST8.out.ret _ _, Or.inr ⟨rfl, HNO.out, ST8.out.badS BD8.out _ _⟩⟩
     ·obtain ⟨g1, rfl⟩ : ∃ g1, ak = some ⟨g1, 0, none⟩ := by
       rcases ST4.out.own.shape with ⟨_, e⟩ | ⟨g, cap, cur, e, _⟩
       ·exact absurd e hnil
       ·cases e; exact ⟨g, rfl⟩
      obtain ⟨kl, hkl2, hkc⟩ := last_cells ST4.out.own hnil
      have hpos : 0 < ks.length := List.length_pos_iff.2 hnil
      have HKL := hid (hkl2 k)
      have HBL := hid (Proofs.bytesLess_eq k kl)
      clear hkl2 hnil
      obtain ⟨m, hm⟩ : ∃ m, ks.length = m + 1 := ⟨ks.length - 1, by omega⟩
      rw [hm, Nat.add_sub_cancel] at hkc
      have hm0 : (0 : Int) < (ks.length : Int) := by omega
      have hm1 : (ks.length : Int) - 1 = (m : Int) := by omega
      have hm2 : (m : Int) < (ks.length : Int) := by omega
      have hm3 : (0 : Int) ≤ (m : Int) := by omega
      have hm4 : (m : Int) ≤ 1000 := by omega
      clear hm hpos
      by_cases hlt : kl < k
      ·have hbl : Op.bytesLess k kl = false := by rw [HBL.out]; exact decide_eq_false (List.lt_asymm hlt)
       have hbe : (k == kl) = false := beq_eq_false_iff_ne.2 (fun e => List.lt_irrefl _ (e ▸ hlt))
       have HGE := hid (show lastGE ks k = false by rw [HKL.out, decide_eq_false (List.not_le.2 hlt)])
       clear hlt
       go_wp2_with fail
       refine (ISB.out _ BD4.out).mono ?_
       rintro e W8 ⟨okz, rfl, o8, hb8⟩
       have ST8 := hid (ST4.out.step o8)
       clear o8
       clear s0 s1 sf0 sf1 slt r0 r1 rf0 rf1 rlt
       obtain ⟨s0, s1, sf0, sf1, slt⟩ := box2_cells ST8.out.sb
       obtain ⟨r0, r1, rf0, rf1, rlt⟩ := box2_cells ST8.out.rb
       obtain ⟨q8, e8, a8, hq8, hE8, hrd8, hbd8⟩ := hb8.open'
       have S8 := hid hrd8
       have BD8 := hid hbd8
       clear hbd8 hrd8
       try clear c0 c1 c2 c3 f1 f2 f3 lt
       obtain ⟨c0, c1, c2, c3, f1, f2, f3, lt⟩ := S8.out.cells
       cases okz with
       | false =>
        go_wp2_with (go_at_call 66; refine (WR.out q8 _ _ 160 q8 _ S8.out hq8 (by decide)).mono ?_; rintro e W9 ⟨rfl, hb9, o9⟩; have ST9 := hid (ST8.out.step o9); clear o9; clear s0 s1 sf0 sf1 slt r0 r1 rf0 rf1 rlt; clear c0 c1 c2 c3 f1 f2 f3 lt; obtain ⟨s0, s1, sf0, sf1, slt⟩ := box2_cells ST9.out.sb; obtain ⟨r0, r1, rf0, rf1, rlt⟩ := box2_cells ST9.out.rb; obtain ⟨q9, e9, a9, hq9, hE9, hrd9, hbd9⟩ := hb9.open'; obtain ⟨c0, c1, c2, c3, f1, f2, f3, lt⟩ := hrd9.cells; have BD9 := hid hbd9; clear hbd9 hb9 hrd9)
        change bodyPost _ _ _ _ _ (P2 _ w.heap.size (.string ⟨n.toArray⟩) (.slice _ ks.length ck))
        exact rstep_ret ST9.out.rb rfl rfl ⟨n, ks, false, _, ck, rfl, ST9.out.own2 _ _, ST9.out.ret _ _, Or.inr ⟨rfl, HNO.out, ST9.out.badS BD9.out _ _⟩⟩
       | true =>
        go_wp2_with fail
        change bodyPost _ _ _ _ _ (P2 _ w.heap.size (.string ⟨n.toArray⟩) (.slice _ ks.length ck))
        exact rstep_ret ST8.out.rb rfl rfl ⟨n, ks, false, _, ck, rfl, ST8.out.own2 _ _, ST8.out.ret _ _, Or.inr ⟨rfl, HNO.out, ST8.out.badS BD8.out _ _⟩⟩
      ·have HGE := hid (show lastGE ks k = true by rw [HKL.out, decide_eq_true (List.not_lt.1 hlt)])
       by_cases heq : k = kl
       ·have hbl : Op.bytesLess k kl = false := by rw [HBL.out]; exact decide_eq_false (heq ▸ List.lt_irrefl _)
        have hbe : (k == kl) = true := beq_iff_eq.2 heq
        clear hlt heq
        go_wp2_with (go_at_call 66; refine (WR.out q4 _ _ 160 _ _ S4.out hq4 (by decide)).mono ?_; rintro e W5 ⟨rfl, hb5, o5⟩; have ST5 := hid (ST4.out.step o5); have BD5 := hid hb5; clear o5 hb5; clear s0 s1 sf0 sf1 slt r0 r1 rf0 rf1 rlt; clear c0 c1 c2 c3 f1 f2 f3 lt; obtain ⟨s0, s1, sf0, sf1, slt⟩ := box2_cells ST5.out.sb; obtain ⟨r0, r1, rf0, rf1, rlt⟩ := box2_cells ST5.out.rb)
        refine (ISB.out _ BD5.out).mono ?_
        rintro e W8 ⟨okz, rfl, o8, hb8⟩
        have ST8 := hid (ST5.out.step o8)
        clear o8
        clear s0 s1 sf0 sf1 slt r0 r1 rf0 rf1 rlt
        obtain ⟨s0, s1, sf0, sf1, slt⟩ := box2_cells ST8.out.sb
        obtain ⟨r0, r1, rf0, rf1, rlt⟩ := box2_cells ST8.out.rb
        obtain ⟨q8, e8, a8, hq8, hE8, hrd8, hbd8⟩ := hb8.open'
        have S8 := hid hrd8
        have BD8 := hid hbd8
        clear hbd8 hrd8
        try clear c0 c1 c2 c3 f1 f2 f3 lt
        obtain ⟨c0, c1, c2, c3, f1, f2, f3, lt⟩ := S8.out.cells
        cases okz with
        | false =>
         go_wp2_with (go_at_call 66; refine (WR.out q8 _ _ 160 q8 _ S8.out hq8 (by decide)).mono ?_; rintro e W9 ⟨rfl, hb9, o9⟩; have ST9 := hid (ST8.out.step o9); clear o9; clear s0 s1 sf0 sf1 slt r0 r1 rf0 rf1 rlt; clear c0 c1 c2 c3 f1 f2 f3 lt; obtain ⟨s0, s1, sf0, sf1, slt⟩ := box2_cells ST9.out.sb; obtain ⟨r0, r1, rf0, rf1, rlt⟩ := box2_cells ST9.out.rb; obtain ⟨q9, e9, a9, hq9, hE9, hrd9, hbd9⟩ := hb9.open'; obtain ⟨c0, c1, c2, c3, f1, f2, f3, lt⟩ := hrd9.cells; have BD9 := hid hbd9; clear hbd9 hb9 hrd9)
         change bodyPost _ _ _ _ _ (P2 _ w.heap.size (.string ⟨n.toArray⟩) (.slice _ ks.length ck))
         exact rstep_ret ST9.out.rb rfl rfl ⟨n, ks, false, _, ck, rfl, ST9.out.own2 _ _, ST9.out.ret _ _, Or.inr ⟨rfl, HNO.out, ST9.out.badS BD9.out _ _⟩⟩
        | true =>
         go_wp2_with fail
         change bodyPost _ _ _ _ _ (P2 _ w.heap.size (.string ⟨n.toArray⟩) (.slice _ ks.length ck))
         exact rstep_ret ST8.out.rb rfl rfl ⟨n, ks, false, _, ck, rfl, ST8.out.own2 _ _, ST8.out.ret _ _, Or.inr ⟨rfl, HNO.out, ST8.out.badS BD8.out _ _⟩⟩
       ·have hbl : Op.bytesLess k kl = true := by
         rw [HBL.out]
         exact decide_eq_true ((List.le_iff_lt_or_eq.1 (List.not_lt.1 hlt)).resolve_right heq)
        have hbe : (k == kl) = false := beq_eq_false_iff_ne.2 heq
        clear hlt heq
        go_wp2_with (go_at_call 66; refine (WR.out q4 _ _ 160 _ _ S4.out hq4 (by decide)).mono ?_; rintro e W5 ⟨rfl, hb5, o5⟩; have ST5 := hid (ST4.out.step o5); have BD5 := hid hb5; clear o5 hb5; clear s0 s1 sf0 sf1 slt r0 r1 rf0 rf1 rlt; clear c0 c1 c2 c3 f1 f2 f3 lt; obtain ⟨s0, s1, sf0, sf1, slt⟩ := box2_cells ST5.out.sb; obtain ⟨r0, r1, rf0, rf1, rlt⟩ := box2_cells ST5.out.rb)
        refine (ISB.out _ BD5.out).mono ?_
        rintro e W8 ⟨okz, rfl, o8, hb8⟩
        have ST8 := hid (ST5.out.step o8)
        clear o8
        clear s0 s1 sf0 sf1 slt r0 r1 rf0 rf1 rlt
        obtain ⟨s0, s1, sf0, sf1, slt⟩ := box2_cells ST8.out.sb
        obtain ⟨r0, r1, rf0, rf1, rlt⟩ := box2_cells ST8.out.rb
        obtain ⟨q8, e8, a8, hq8, hE8, hrd8, hbd8⟩ := hb8.open'
        have S8 := hid hrd8
        have BD8 := hid hbd8
        clear hbd8 hrd8
        try clear c0 c1 c2 c3 f1 f2 f3 lt
        obtain ⟨c0, c1, c2, c3, f1, f2, f3, lt⟩ := S8.out.cells
        cases okz with
        | false =>
         go_wp2_with (go_at_call 66; refine (WR.out q8 _ _ 160 q8 _ S8.out hq8 (by decide)).mono ?_; rintro e W9 ⟨rfl, hb9, o9⟩; have ST9 := hid (ST8.out.step o9); clear o9; clear s0 s1 sf0 sf1 slt r0 r1 rf0 rf1 rlt; clear c0 c1 c2 c3 f1 f2 f3 lt; obtain ⟨s0, s1, sf0, sf1, slt⟩ := box2_cells ST9.out.sb; obtain ⟨r0, r1, rf0, rf1, rlt⟩ := box2_cells ST9.out.rb; obtain ⟨q9, e9, a9, hq9, hE9, hrd9, hbd9⟩ := hb9.open'; obtain ⟨c0, c1, c2, c3, f1, f2, f3, lt⟩ := hrd9.cells; have BD9 := hid hbd9; clear hbd9 hb9 hrd9)
         change bodyPost _ _ _ _ _ (P2 _ w.heap.size (.string ⟨n.toArray⟩) (.slice _ ks.length ck))
         exact rstep_ret ST9.out.rb rfl rfl ⟨n, ks, false, _, ck, rfl, ST9.out.own2 _ _, ST9.out.ret _ _, Or.inr ⟨rfl, HNO.out, ST9.out.badS BD9.out _ _⟩⟩
        | true =>
         go_wp2_with fail
         change bodyPost _ _ _ _ _ (P2 _ w.heap.size (.string ⟨n.toArray⟩) (.slice _ ks.length ck))
         exact rstep_ret ST8.out.rb rfl rfl ⟨n, ks, false, _, ck, rfl, ST8.out.own2 _ _, ST8.out.ret _ _, Or.inr ⟨rfl, HNO.out, ST8.out.badS BD8.out _ _⟩⟩
  ·have HNO := hid hno
   obtain ⟨q9, e9, a9, hq9, hE9, hrd9, hbd9⟩ := hbad.open'
   obtain ⟨c0, c1, c2, c3, f1, f2, f3, lt⟩ := hrd9.cells
   have BD9 := hid hbd9
   clear hbd9 hbad hrd9 hno
   go_wp2_with fail
   change bodyPost _ _ _ _ _ (P2 _ w.heap.size (.string ⟨n.toArray⟩) (.slice _ ks.length ck))
   exact rstep_ret ST.out.rb rfl rfl ⟨n, ks, false, _, ck, rfl, ST.out.own2 _ _, ST.out.ret _ _, Or.inr ⟨rfl, HNO.out, ST.out.badS BD9.out _ _⟩⟩
end Go.Proofs.YtjlfchnnhglbjaaGreat
namespace Go.Proofs.YtjlfchnnhglbjaaGreat
open Go.RowKit Go.Lib
theorem rparse6_ret {V : World} {Pb : Nat} {v : Value} {e a : Int} (hr : V.heap[Pb]? = some (.cells #[.int .i64 e, .int .i64 a] 99 (0, 0))) {Q : Ending → World → Prop} {act : Act} (hd : act.defers = [])
  (h2 : act.tmps.getD 2 undef = v) (h3 : act.tmps.getD 3 undef = .pointer (some ⟨Pb, 0, none⟩)) (hQ : Q (.returned (.tuple #[v, .agg #[.int .i64 e, .int .i64 a]])) V) :
  bodyPost Tryz.prog Tryz.f48 Q Exit.ret act V := by
 obtain ⟨e0, e1, _, _, _⟩ := box2_cells hr
 refine bodyPost_ret (v := .tuple #[v, .agg #[.int .i64 e, .int .i64 a]]) ?_ hd hQ
 obtain ⟨tmps, defers⟩ := act
 simp only [Array.getD_eq_getD_getElem?] at h2 h3
 simp [results, Tryz.results48, go_sem, h2, h3, e0, e1]
section
variable {w W W' : World} {s : Str} {Rb : Nat} {v : Value} {zs : List (Stp × (Option Addr × Nat))}
theorem PaSt.stepS (h : PaSt w s Rb W v zs) {b : ByteArray} {q e : Nat} {a : Int} (hr : SRd W Rb b q e a) (o : Only Rb W W') : PaSt w s Rb W' v zs := by
 have hlt := h.lt
 unfold SRd at hr
 refine ⟨(o.block _ (lt_of_block h.pb) (by simp; omega)).trans h.pb, World.ownsRow.kept h.own o (Or.inr (own_type h.own hr (by decide))), fun z hz => World.ownsRow.kept (h.each z hz) o (Or.inr (own_type (h.each z hz) hr (by decide))), ?_, hlt⟩
 exact h.bel.grown o h.bel.size (fun k hk => by cases hk; omega)
theorem PaSt.rdS (h : PaSt w s Rb W v zs) {b : ByteArray} {q e : Nat} {a : Int} (hr : SRd W Rb b q e a) (gr : W.grownBy W' v.ownBlock) : SRd W' Rb b q e a := by
 unfold SRd at *
 exact (gr.block _ (lt_of_block hr) (Ne.symm (own_type h.own hr (by decide)))).trans hr
theorem PaSt.badS (h : PaSt w s Rb W v zs) {b : ByteArray} (hr : SBad W Rb b) (gr : W.grownBy W' v.ownBlock) : SBad W' Rb b := by
 obtain ⟨q, e, a, h1, h2, h3⟩ := hr
 exact ⟨q, e, a, h1, h2, h.rdS h3 gr⟩
end
theorem rstep_one (Br : Nat) (b : ByteArray) (p : Nat) (w : World) (h : SRd w Br b p 0 0) (hp : p ≤ b.size) (hb : b.size ≤ 512) (hu : utfB (b.data.toList.drop p) = true) :
    Calls Tryz.prog 67 #[.pointer (some ⟨Br, 0, none⟩)] w fun x w' => ∃ (n : Str) (ks : List (Str × Str)) (a : Option Addr) (c : Nat), x = .returned (.agg #[.string ⟨n.toArray⟩, .slice a ks.length c]) ∧ OwnP w' w.heap.size (.slice a ks.length c) ks ∧ Only Br w w' ∧
      ((∃ q, stepP (b.data.toList.drop p) = some ((n, ks), b.data.toList.drop q) ∧ SRd w' Br b q 0 0 ∧ q ≤ b.size ∧ p < q ∧ utfB (b.data.toList.drop q) = true) ∨
       (stepP (b.data.toList.drop p) = none ∧ SBad w' Br b)) := by
  refine (rstep_any Br b p w h hp hb hu).mono fun x w' hr => ?_
  obtain ⟨n, ks, ok, a, c, h1, h2, h3, h4⟩ := hr
  refine ⟨n, ks, a, c, h1, h2, h3, ?_⟩
  rcases h4 with ⟨_, h⟩ | ⟨_, h1, h2⟩
  · exact Or.inl h
  · exact Or.inr ⟨h1, h2⟩
set_option maxRecDepth 100000 in
set_option maxHeartbeats 16000000 in
theorem rparse6_any (s : Str) (w : World) (hs : s.length ≤ maxLen) : Calls Tryz.prog 48 #[.string ⟨s.toArray⟩] w fun x w' => ParseOut w s x w' := by
  have F0 := hid (heap_alloc_new w (.cells #[.int .i64 0, .int .i64 0] 99))
  have hb0 : Below w.heap.size w (w.alloc (.cells #[.int .i64 0, .int .i64 0] 99)) := (Below.refl _ _).alloc (Nat.le_refl _) _
  have B0 := hid hb0
  have hsz : (⟨s.toArray⟩ : ByteArray).size = s.length := Lib.size_eq _
  have HSZ := hid hsz
  clear hb0
  by_cases h512 : 512 < s.length
  · have hli : (512 : Int) < (s.length : Int) := by omega
    have HNO := hid (show pathP s = none by unfold pathP; rw [if_pos h512])
    obtain ⟨z0, z1, zf0, zf1, zlt⟩ := box2_cells F0.out
    clear hsz h512
    go_enter Tryz.func48, Tryz.ntmps48
    go_upto_region 1 with fail
    generalize w.alloc (.cells #[.int .i64 0, .int .i64 0] 99) = w1 at *
    go_wp2_with fail
    refine rparse6_ret (Pb := w.heap.size) (e := 3) (a := 512) ?_ rfl rfl rfl ?_
    · exact P2_rowT (.int .i64 3) (.int .i64 512) F0.out
    · exact ⟨Or.inr ⟨HNO.out, 3, 512, by decide, rfl⟩, P2_below _ _ B0.out (Nat.le_refl _)⟩
  · have hli : ¬ (512 : Int) < (s.length : Int) := by omega
    have H512 := hid h512
    have BK := hid (fun W => rbroken_any ⟨s.toArray⟩ W (by rw [hsz]; omega))
    clear hsz
    go_enter Tryz.func48, Tryz.ntmps48
    go_upto_region 1 with fail
    generalize w.alloc (.cells #[.int .i64 0, .int .i64 0] 99) = w1 at *
    go_wp2_with fail
    refine (BK.out w1).mono ?_
    rintro e w2 ⟨⟨i, rfl, hut⟩, rfl⟩
    rename World => w1
    obtain ⟨z0, z1, zf0, zf1, zlt⟩ := box2_cells F0.out
    cases hu : utfB s with
    | false =>
      have hi : 0 ≤ i := by
        rw [show (⟨s.toArray⟩ : ByteArray).data.toList = s from rfl, hu] at hut
        exact hut
      have HNO := hid (show pathP s = none by unfold pathP; rw [if_neg H512.out, if_pos hu])
      clear hut hu h512 hli
      go_wp2_with fail
      refine rparse6_ret (Pb := w.heap.size) (e := 6) (a := i) ?_ rfl rfl rfl ?_
      · exact P2_rowT (.int .i64 6) (.int .i64 i) F0.out
      · exact ⟨Or.inr ⟨HNO.out, 6, i, by decide, rfl⟩, P2_below _ _ B0.out (Nat.le_refl _)⟩
    | true =>
      obtain rfl : i = -1 := by
        rw [show (⟨s.toArray⟩ : ByteArray).data.toList = s from rfl, hu] at hut
        exact hut
      clear hut h512 hli
      by_cases hemp : s = []
      · subst hemp
        go_wp2_with fail
        refine rparse6_ret (Pb := w.heap.size) (e := 0) (a := 0) ?_ rfl rfl rfl ?_
        · exact P2_rowT (.int .i64 0) (.int .i64 0) F0.out
        · exact ⟨Or.inl ⟨[], _, by unfold pathP; rw [if_neg H512.out, hu]; rfl, rfl, [], rfl, OwnL.nil _ _ _ _, fun z hz => by cases hz⟩, P2_below _ _ B0.out (Nat.le_refl _)⟩
      · have hne : List.isEmpty s = false := isEmpty_ne hemp
        have HPP := hid (show pathP s = stepsP 64 [] s by unfold pathP; rw [if_neg H512.out, hu]; simp [hemp])
        have hbr : Below w1.heap.size w1 (w1.alloc (.cells #[.string ⟨s.toArray⟩, .int .i64 0, .int .i64 0, .int .i64 0] 122)) := (Below.refl _ _).alloc (Nat.le_refl _) _
        have HRD0 := hid (show SRd (w1.alloc (.cells #[.string ⟨s.toArray⟩, .int .i64 0, .int .i64 0, .int .i64 0] 122)) w1.heap.size ⟨s.toArray⟩ 0 0 0 from heap_alloc_new w1 _)
        have ST0 := hid (show PaSt w s w1.heap.size (w1.alloc (.cells #[.string ⟨s.toArray⟩, .int .i64 0, .int .i64 0, .int .i64 0] 122)) (.slice none 0 0) [] from
          ⟨(hbr.block _ (lt_of_block F0.out)).trans F0.out, OwnL.nil _ _ _ _, (fun z hz => by cases hz), B0.out.then hbr, lt_of_block F0.out⟩)
        have HU0 := hid hu
        clear hbr hu hemp
        go_upto_region 9 with fail
        clear z0 z1 zf0 zf1 zlt hne
        generalize w1.alloc (.cells #[.string ⟨s.toArray⟩, .int .i64 0, .int .i64 0, .int .i64 0] 122) = w4 at *
        have SP := hid (fun q W (h : SRd W w1.heap.size ⟨s.toArray⟩ q 0 0) (hq : q ≤ s.length) (hu : utfB (s.drop q) = true) => rstep_one w1.heap.size ⟨s.toArray⟩ q W h (by rw [HSZ.out]; exact hq) (by rw [HSZ.out]; have := H512.out; omega) hu)
        have NX := hid (fun q W (h : SRd W w1.heap.size ⟨s.toArray⟩ q 0 0) (hq : q ≤ s.length) => (show Calls Tryz.prog 68 #[.pointer (some ⟨w1.heap.size, 0, none⟩), .int .u8 47] W _ from ris_two w1.heap.size ⟨s.toArray⟩ q 0 0 47 W h (by rw [HSZ.out]; exact hq) (by rw [HSZ.out]; have := H512.out; omega)))
        have FA := hid (fun q (e : Nat) (a : Int) W (h : SRd W w1.heap.size ⟨s.toArray⟩ q 0 0) => rwrong_any w1.heap.size ⟨s.toArray⟩ q 0 0 e a W h)
        generalize w1.heap.size = Rb at *
        go_wp2_with fail
        go_loopg [6] 66 (fun g v6 W => ∃ (zs : List (Stp × (Option Addr × Nat))), PaSt w s Rb W v6 zs ∧ zs.length ≤ 64 ∧ 65 ≤ zs.length + g ∧
          ((∃ q : Nat, SRd W Rb ⟨s.toArray⟩ q 0 0 ∧ q ≤ s.length ∧ utfB (s.drop q) = true ∧ pathP s = stepsP (64 - zs.length) (zs.map (·.1)) (s.drop q)) ∨
           (pathP s = none ∧ ∃ (q e : Nat) (a : Int), e ≠ 0 ∧ SRd W Rb ⟨s.toArray⟩ q e a)))
        case atStart => exact ⟨[], ST0.out, Nat.zero_le _, by simp, Or.inl ⟨0, HRD0.out, Nat.zero_le _, HU0.out, by rw [HPP.out]; rfl⟩⟩
        case round =>
          obtain ⟨zs, st, h64, hg, hcase⟩ := hrel
          rename World => w5
          have ST5 := hid st
          have HG := hid hg
          have HZ := hid h64
          clear st h64 hg ST0 HRD0 HU0 HPP
          obtain ⟨av, cv, rfl, hcap⟩ := ST5.out.own.slice
          clear hcap
          rcases hcase with ⟨q, rd, hq, hu, hpp⟩ | ⟨hno, q, er, ea, hne, rd⟩
          · have RD5 := hid rd
            have HU5 := hid hu
            have HP5 := hid hpp
            have HQ := hid hq
            clear rd hu hpp hq
            obtain ⟨c0, c1, c2, c3, f1, f2, f3, lt⟩ := RD5.out.cells
            by_cases hfull : zs.length = 64
            · have HNO := hid (show pathP s = none by rw [HP5.out, hfull]; rfl)
              have hz64 : ((zs.length : Int) == 64) = true := by rw [beq_iff_eq]; omega
              clear hfull
              go_wp2_with (go_at_call 66; refine (FA.out q 3 q w5 RD5.out).mono ?_; rintro e w6 ⟨rfl, h6, o6⟩; have ST6 := hid (ST5.out.stepS RD5.out o6); have H6 := hid h6; clear h6 o6 c0 c1 c2 c3 f1 f2 f3 lt; obtain ⟨c0, c1, c2, c3, f1, f2, f3, lt⟩ := H6.out.cells; obtain ⟨z0, z1, zf0, zf1, zlt⟩ := box2_cells ST6.out.pb)
              first
                | go_region
                | fail "r10"
              all_goals
                go_wp2_with fail
                refine rparse6_ret (Pb := w.heap.size) (e := 3) (a := q) ?_ rfl rfl rfl ?_
                · exact P2_rowT (.int .i64 3) (.int .i64 q) ST6.out.pb
                · exact ⟨Or.inr ⟨HNO.out, 3, q, by decide, rfl⟩, (P2_below _ _ ST6.out.bel (Nat.le_refl _)).drew⟩
            · have hz64 : ((zs.length : Int) == 64) = false := by rw [beq_eq_false_iff_ne]; omega
              have HL := hid (show zs.length < 64 by have := HZ.out; omega)
              have HLA := hid (show zs.length + 1 ≤ maxLen by have := HL.out; unfold maxLen; omega)
              have HLB := hid (show (zs.length + 1) * 40 ≤ 140737488355328 by have := HL.out; omega)
              clear hfull
              go_wp2_with fail
              refine (SP.out q w5 RD5.out HQ.out HU5.out).mono ?_
              rintro e w6 ⟨n, ks, ax, cx, rfl, hown, o6, hst⟩
              have ST6 := hid (ST5.out.stepS RD5.out o6)
              have HSP := hid hst
              have HW5 := hid ST5.out.bel.size
              have HOX := hid (show OwnP w6 (w.heap.size + 1) (.slice ax ks.length cx) ks from ownP_monoS hown (by have := lt_of_block ST5.out.pb; omega))
              have HSZ6 := hid (show w.heap.size + 1 ≤ w6.heap.size by have := lt_of_block ST6.out.pb; omega)
              clear c0 c1 c2 c3 f1 f2 f3 lt o6 hst hown
              go_upto_region 14 with (at_builtin; refine wpList_pushL (E := encSt) rfl (.tmp 38) (.tmp 41) rfl Tryz.underlying97 infoSt rfl (by decide) (w.heap.size + 1) _ zs ((n, ks), (ax, cx)) rfl ST6.out.own rfl HLA.out HLB.out HSZ6.out #[.string ⟨n.toArray⟩, .slice ax ks.length cx] rfl ?_; intro v8 w8 own8 gr8 mv8; obtain ⟨a8, c8, rfl, hc8⟩ := own8.slice; rw [show (zs ++ [((n, ks), (ax, cx))]).length = zs.length + 1 from by simp] at own8; have ST8 := hid (ST6.out.push own8 gr8 HOX.out); have GR8 := hid gr8; clear own8 gr8 mv8 hc8)
              rcases HSP.out with ⟨q6, hsp, hrd, hq6, hqq, hu6⟩ | ⟨hno, hbad⟩
              · have HRD := hid (ST6.out.rdS hrd GR8.out)
                rw [HSZ.out] at hq6
                have HQ6 := hid hq6
                have HU6 := hid hu6
                have HPX := hid (show pathP s = if s.drop q6 = [] then some (zs.map (·.1) ++ [(n, ks)]) else match takeB 47 (s.drop q6) with
                  | none => none
                  | some r' => stepsP (64 - (zs.length + 1)) (zs.map (·.1) ++ [(n, ks)]) r' by
                  rw [HP5.out, show 64 - zs.length = (64 - (zs.length + 1)) + 1 by have := HL.out; omega]
                  simp only [stepsP, show stepP (s.drop q) = some ((n, ks), s.drop q6) from hsp]
                  rfl)
                clear hsp hrd hq6 hqq hu6 HSP ST6
                obtain ⟨c0, c1, c2, c3, f1, f2, f3, lt⟩ := HRD.out.cells
                obtain ⟨z0, z1, zf0, zf1, zlt⟩ := box2_cells ST8.out.pb
                by_cases hend : q6 = s.length
                · have heq : ((q6 : Int) == (s.length : Int)) = true := by rw [beq_iff_eq]; omega
                  have HE := hid (show pathP s = some (zs.map (·.1) ++ [(n, ks)]) by rw [HPX.out, if_pos (List.drop_eq_nil_of_le (by omega))])
                  clear hend HPX
                  go_wp2_with fail
                  refine rparse6_ret (Pb := w.heap.size) (e := 0) (a := 0) ?_ rfl rfl rfl ?_
                  · exact P2_rowT (.int .i64 0) (.int .i64 0) ST8.out.pb
                  · exact ⟨Or.inl ⟨_, _, HE.out, rfl, by have := ST8.out.done (.int .i64 0) (.int .i64 0); rwa [List.map_append] at this⟩, P2_below _ _ ST8.out.bel (Nat.le_refl _)⟩
                · have heq : ((q6 : Int) == (s.length : Int)) = false := by rw [beq_eq_false_iff_ne]; omega
                  have HE := hid (show pathP s = match takeB 47 (s.drop q6) with
                    | none => none
                    | some r' => stepsP (64 - (zs.length + 1)) (zs.map (·.1) ++ [(n, ks)]) r' by
                    rw [HPX.out, if_neg (fun e => hend (by have := congrArg List.length e; simp at this; have := HQ6.out; omega))])
                  clear hend HPX
                  go_wp2_with fail
                  refine (NX.out q6 w8 HRD.out HQ6.out).mono ?_
                  rintro e w9 ⟨okx, rfl, o9, hrd9, hx⟩
                  have ST9 := hid (ST8.out.stepS HRD.out o9)
                  have HRD9 := hid hrd9
                  clear o9 c0 c1 c2 c3 f1 f2 f3 lt z0 z1 zf0 zf1 zlt hrd9
                  cases okx with
                  | false =>
                    have htb : takeB 47 (s.drop q6) = none := by
                      rcases hx with ⟨_, h1⟩ | ⟨h, _⟩
                      · exact h1
                      · cases h
                    have HNO := hid (show pathP s = none by rw [HE.out, htb])
                    clear hx htb
                    obtain ⟨c0, c1, c2, c3, f1, f2, f3, lt⟩ := HRD9.out.cells
                    have hqb : (q6 : Int) ≤ 600 := by have := HQ6.out; have := H512.out; omega
                    go_wp2_with (go_at_call 66; refine (FA.out q6 160 q6 w9 HRD9.out).mono ?_; rintro e w10 ⟨rfl, h10, o10⟩; have ST10 := hid (ST9.out.stepS HRD9.out o10); have H10 := hid h10; clear h10 o10 c0 c1 c2 c3 f1 f2 f3 lt; obtain ⟨c0, c1, c2, c3, f1, f2, f3, lt⟩ := H10.out.cells)
                    go_roundg (gk - 1)
                    case measure => have := HG.out; have := HL.out; omega
                    case rel => exact ⟨zs ++ [((n, ks), (ax, cx))], ST10.out.stepS H10.out ((Only.refl _ _).set _ _), by have := HL.out; simp; omega, by have := HG.out; have := HL.out; simp; omega, Or.inr ⟨HNO.out, q6 + 1, 160, q6, by decide, H10.out.setAt (q6 + 1)⟩⟩
                  | true =>
                    obtain ⟨htb, hq7⟩ : takeB 47 (s.drop q6) = some (s.drop (q6 + 1)) ∧ q6 < (⟨s.toArray⟩ : ByteArray).size := by
                      rcases hx with ⟨h, _⟩ | ⟨_, h1, h2⟩
                      · cases h
                      · exact ⟨h1, h2⟩
                    rw [HSZ.out] at hq7
                    have HE2 := hid (show pathP s = stepsP (64 - (zs.length + 1)) (zs.map (·.1) ++ [(n, ks)]) (s.drop (q6 + 1)) by rw [HE.out, htb])
                    have HU7 := hid (utfB_take (by decide) htb HU6.out)
                    clear hx htb HE
                    obtain ⟨c0, c1, c2, c3, f1, f2, f3, lt⟩ := HRD9.out.cells
                    have hqb : (q6 : Int) ≤ 600 := by have := HQ6.out; have := H512.out; omega
                    go_wp2_with fail
                    go_roundg (gk - 1)
                    case measure => have := HG.out; have := HL.out; omega
                    case rel => exact ⟨zs ++ [((n, ks), (ax, cx))], ST9.out.stepS HRD9.out ((Only.refl _ _).set _ _), by have := HL.out; simp; omega, by have := HG.out; have := HL.out; simp; omega, Or.inl ⟨q6 + 1, HRD9.out.setAt (q6 + 1), by omega, HU7.out, by rw [HE2.out]; simp⟩⟩
              · have HNO := hid (show pathP s = none by rw [HP5.out]; exact stepsP_no hno)
                obtain ⟨q9, e9, a9, hq9, hE9, hrd9, hbd9⟩ := (ST6.out.badS hbad GR8.out).open'
                have HRD9 := hid hrd9
                have HNE := hid (show e9 ≠ 0 by intro e; rw [e] at hE9; exact absurd hE9 (by decide))
                clear hno hbad hbd9 hrd9 HSP ST6 hq9
                have hE8 : ((e9 : Int) != 0) = true := by rw [bne_iff_ne]; have := HNE.out; omega
                obtain ⟨c0, c1, c2, c3, f1, f2, f3, lt⟩ := HRD9.out.cells
                obtain ⟨z0, z1, zf0, zf1, zlt⟩ := box2_cells ST8.out.pb
                go_wp2_with fail
                first
                  | go_region
                  | fail "r13"
                all_goals
                  go_wp2_with fail
                  refine rparse6_ret (Pb := w.heap.size) (e := e9) (a := a9) ?_ rfl rfl rfl ?_
                  · exact P2_rowT (.int .i64 e9) (.int .i64 a9) ST8.out.pb
                  · exact ⟨Or.inr ⟨HNO.out, e9, a9, HNE.out, rfl⟩, (P2_below _ _ ST8.out.bel (Nat.le_refl _)).drew⟩
          · have HNO := hid hno
            have HRD9 := hid rd
            have HNE := hid hne
            have hE9 : ((er : Int) == 0) = false := by rw [beq_eq_false_iff_ne]; omega
            have hE8 : ((er : Int) != 0) = true := by rw [bne_iff_ne]; omega
            clear hno rd hne
            obtain ⟨c0, c1, c2, c3, f1, f2, f3, lt⟩ := HRD9.out.cells
            obtain ⟨z0, z1, zf0, zf1, zlt⟩ := box2_cells ST5.out.pb
            go_wp2_with fail
            first
              | go_region
              | fail "r14"
            all_goals
              go_wp2_with fail
              refine rparse6_ret (Pb := w.heap.size) (e := er) (a := ea) ?_ rfl rfl rfl ?_
              · exact P2_rowT (.int .i64 er) (.int .i64 ea) ST5.out.pb
              · exact ⟨Or.inr ⟨HNO.out, er, ea, HNE.out, rfl⟩, (P2_below _ _ ST5.out.bel (Nat.le_refl _)).drew⟩
end Go.Proofs.YtjlfchnnhglbjaaGreat
