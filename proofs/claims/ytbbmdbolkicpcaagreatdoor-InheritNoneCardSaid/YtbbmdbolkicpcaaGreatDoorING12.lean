/- PtText, PtMay, PtMayB, TbCut, PtCat, PtCatB, PtPut, PtRest -/
import Derived.Test.YtbbmdbolkicpcaaGreatDoorING11
import Derived.Test.YtbbmdbolkicpcaaGreatDoorING08
import Derived.Test.YtbbmdbolkicpcaaGreatDoorING06
import Derived.Laws.AppendOwnNone
import Derived.Lib.AppendZeros
import Derived.Test.YtbbmdbolkicpcaaGreatDoorINShelf
import Derived.Test.YtbbmdbolkicpcaaGreatDoorING03
set_option linter.unusedVariables false
set_option linter.unusedSimpArgs false
namespace Go.Proofs.YtbbmdbolkicpcaaGreatDoor
open Go.RowKit Go.Lib
theorem spec_idx2 (c : UInt8) : (0 ≤ Lib.indexByte [91, 93, 47, 61, 92] c) ↔ specB c = true := by
 revert c; apply forall_byte; decide +kernel
theorem dress_step {v : Str} {m : Nat} (h : m < v.length) : dressV (v.take (m + 1)) = dressV (v.take m) ++ (if specB (v[m]'h) then [92, v[m]'h] else [v[m]'h]) := by
 rw [List.take_succ_eq_append_getElem h, dress_append]
 congr 1
 simp [dressV]
theorem dress_len : ∀ v : Str, v.length ≤ (dressV v).length
 | [] => Nat.le_refl _
 | c :: v => by
  have ih := dress_len v
  show _ ≤ ((if specB c then [92, c] else [c]) ++ dressV v).length
  split <;> simp <;> omega
theorem keysT_step {l : List (Str × Str)} {n : Nat} (h : n < l.length) : keysT (l.take (n + 1)) = keysT (l.take n) ++ keyT (l[n]'h) := by
 unfold keysT
 rw [List.take_succ_eq_append_getElem h, List.flatMap_append]
 simp
theorem rdP_cells {w : World} {v : Value} {l : List (Str × Str)} (h : RdP w v l) : ∃ ao cp, v = .slice ao l.length cp ∧ l.length ≤ 9223372036854775807 ∧ ∀ n (hn : n < l.length), ∃ p o, ao = some ⟨p, o, none⟩ ∧ p < w.heap.size ∧
  w.cell? ⟨p, o + n * 2, none⟩ = some (.string ⟨(l[n]'hn).1.toArray⟩) ∧ w.cell? ⟨p, o + n * 2 + 1, none⟩ = some (.string ⟨(l[n]'hn).2.toArray⟩) := by
 obtain ⟨ao, cp, rfl, ⟨h2, _⟩, hc⟩ := h
 refine ⟨ao, cp, rfl, h2, fun n hn => ?_⟩
 obtain ⟨p, o, ha, hp, hx⟩ := hc (by intro e; rw [e] at hn; simp at hn)
 exact ⟨p, o, ha, hp, hx n 0 _ hn rfl, hx n 1 _ hn rfl⟩
theorem cat3 (a b c : Str) : (⟨a.toArray⟩ : ByteArray) ++ ⟨b.toArray⟩ ++ ⟨c.toArray⟩ = ⟨(a ++ (b ++ c)).toArray⟩ := by
 apply ByteArray.ext
 simp
theorem idx_spec (c : UInt8) : (decide ((0 : Int) ≤ Lib.indexByte [91, 93, 47, 61, 92] c)) = specB c := by
 cases h : specB c with
 | true => exact decide_eq_true ((spec_idx2 c).2 h)
 | false => exact decide_eq_false (fun k => by rw [(spec_idx2 c).1 k] at h; cases h)
set_option maxRecDepth 100000 in
set_option maxHeartbeats 8000000 in
theorem ptext_any (w : World) (x : Stp) (kv : Value) (hr : RdP w kv x.2) (hs : (textP x).length ≤ 140737488355328) :
  Calls Tryz.prog 115 #[.agg #[.string ⟨x.1.toArray⟩, kv]] w fun e w' => e = .returned (.string ⟨(textP x).toArray⟩) ∧ Below w.heap.size w w' := by
 obtain ⟨n, ks⟩ := x
 obtain ⟨ao, cp, rfl, h63, hcell⟩ := rdP_cells hr
 simp only at hcell h63 hs ⊢
 have HCELL := hid hcell
 have HS := hid hs
 have HB1 := hid (show Below w.heap.size w (w.alloc (.cells #[.string ⟨n.toArray⟩, .slice ao ks.length cp] 106)) from (Below.refl _ _).alloc (Nat.le_refl _) _)
 have F1 := hid (heap_alloc_new w (.cells #[.string ⟨n.toArray⟩, .slice ao ks.length cp] 106))
 have IX := hid (fun (c : UInt8) W => (show Calls Tryz.prog 157 #[.string ⟨#[91, 93, 47, 61, 92]⟩, .int .u8 (c.toNat : Int)] W fun e w' => e = .returned (.int .i64 (Lib.indexByte [91, 93, 47, 61, 92] c)) ∧ w' = W from by
  have h := Tryz.strings_IndexByte ⟨#[91, 93, 47, 61, 92]⟩ (c.toNat : Int) W
  rw [show ((c.toNat : Int)).toNat.toUInt8 = c by simp] at h
  exact h))
 clear hr hcell hs
 go_enter Tryz.func115, Tryz.ntmps115
 go_upto_region 1 with fail
 generalize w.alloc (.cells #[.string ⟨n.toArray⟩, .slice ao ks.length cp] 106) = w1 at *
 have HB2 := hid (show Below w.heap.size w (w1.alloc (.cells #[.pointer none, .slice none 0 0] 213)) from HB1.out.alloc HB1.out.size _)
 have F2 := hid ((Below.heap_alloc w1 (.cells #[.pointer none, .slice none 0 0] 213) _ (lt_of_block F1.out)).trans F1.out)
 have BL2 := hid (Lib.fresh_isBuilder 213 5 w1)
 have HSB := hid (lt_of_block F1.out)
 go_upto_region 2 with fail
 generalize hw2 : w1.alloc (.cells #[.pointer none, .slice none 0 0] 213) = w2 at *
 have HW2 := hid (show w1.heap.size ≤ w2.heap.size by rw [← hw2]; simp)
 clear hw2
 generalize w1.heap.size = Bb at *
 obtain ⟨s0, s1, _, _, sl⟩ := box2_cells F2.out
 go_wp2_with fail
 refine (bstr_any Bb Bb [] n w2 BL2.out (by have := HS.out; unfold textP at this; simp at this ⊢; omega) HW2.out).mono ?_
 rintro e w3 ⟨rfl, bl3, hb3, hk3⟩
 have F3 := hid ((hb3.block _ HSB.out).trans F2.out)
 have B3 := hid (HB2.out.trans (hb3.mono (Nat.le_of_lt HSB.out)))
 have BL3 := hid bl3
 have HZ3 := hid (Nat.le_trans HW2.out hb3.size)
 clear s0 s1 sl bl3 hb3 hk3 F2 HB2 BL2
 obtain ⟨s0, s1, _, _, sl⟩ := box2_cells F3.out
 go_wp2_with fail
 go_loopg [13] ks.length (fun g v13 W => ∃ k : Nat, k ≤ ks.length ∧ ks.length ≤ k + g ∧ v13 = .int .i64 k ∧ Bld Bb Bb (n ++ keysT (ks.take k)) W ∧ W.heap[w.heap.size]? = some (.cells #[.string ⟨n.toArray⟩, .slice ao ks.length cp] 106 (0, 0)) ∧ Below w.heap.size w W ∧ Bb ≤ W.heap.size)
 case atStart => exact ⟨0, Nat.zero_le _, by omega, rfl, (by have := BL3.out; simpa [keysT] using this), F3.out, B3.out, HZ3.out⟩
 case round =>
  obtain ⟨k, hk, hg, rfl, bl, ff, bb, hz4⟩ := hrel
  rename World => w4
  obtain ⟨go, hgo⟩ : ∃ go, go = gk := ⟨_, rfl⟩
  have HG := hid (show ks.length ≤ k + go by rw [hgo]; exact hg)
  have HGO := hid hgo
  clear hg hgo
  have BL4 := hid bl
  have B4 := hid bb
  have F4 := hid ff
  have HZ4 := hid hz4
  clear bl bb ff hz4 F3 B3 BL3 s0 s1 sl
  by_cases hlt : k < ks.length
  ·have hni : (k : Int) < (ks.length : Int) := by omega
   have hn0 : (0 : Int) ≤ (k : Int) := by omega
   obtain ⟨p, o, rfl, hp, q0, q1⟩ := HCELL.out k hlt
   have r0 := (B4.out.cell (p := ⟨p, o + k * 2, none⟩) hp).trans q0
   have r1 := (B4.out.cell (p := ⟨p, o + k * 2 + 1, none⟩) hp).trans q1
   have hp2 : p < w4.heap.size := Nat.lt_of_lt_of_le hp B4.out.size
   have HKT := hid (keysT_step hlt)
   have HTOT := hid (show (n ++ keysT (ks.take (k + 1))).length ≤ 140737488355328 by
    have h1 : keysT ks = keysT (ks.take (k + 1)) ++ keysT (ks.drop (k + 1)) := by
     unfold keysT
     rw [← List.flatMap_append, List.take_append_drop]
    have := HS.out
    unfold textP at this
    rw [h1] at this
    simp only [List.length_append] at this ⊢
    omega)
   clear q0 q1
   generalize ks[k]'hlt = kv at *
   obtain ⟨ky, v⟩ := kv
   simp only at r0 r1 HKT
   rw [HKT.out] at HTOT
   obtain ⟨pre, hpre⟩ : ∃ pre, pre = n ++ keysT (ks.take k) := ⟨_, rfl⟩
   have HPRE := hid hpre
   rw [← hpre] at BL4
   have HTOT2 := hid (show (pre ++ keyT (ky, v)).length ≤ 140737488355328 by rw [hpre, List.append_assoc]; exact HTOT.out)
   clear hpre HTOT
   have HA5 := hid (show Below w4.heap.size w4 (w4.alloc (.cells #[.string ⟨ky.toArray⟩, .string ⟨v.toArray⟩] 76)) from (Below.refl _ _).alloc (Nat.le_refl _) _)
   have F5 := hid (heap_alloc_new w4 (.cells #[.string ⟨ky.toArray⟩, .string ⟨v.toArray⟩] 76))
   go_upto_region 6 with fail
   generalize w4.alloc (.cells #[.string ⟨ky.toArray⟩, .string ⟨v.toArray⟩] 76) = w5 at *
   obtain ⟨y0, y1, _, _, yl⟩ := box2_cells F5.out
   have hky : (ky.length : Int) + 2 ≤ 140737488355328 := by have := HTOT2.out; unfold keyT at this; simp at this; omega
   go_wp2_with fail
   have hcat : (⟨#[91]⟩ : ByteArray) ++ ⟨ky.toArray⟩ ++ ⟨#[61]⟩ = ⟨(91 :: (ky ++ [61])).toArray⟩ := cat3 [91] ky [61]
   rw [hcat]
   have BL5 := hid (show Lib.BuilderAt 213 5 Bb Bb (.pointer (some ⟨Bb, 0, none⟩)) (Lib.byteCells pre) w5 from by
    obtain ⟨h1, u, h2, h3, h4⟩ := BL4.out
    exact ⟨h1, u, (HA5.out.block _ (lt_of_block h2)).trans h2, own_below h3 HA5.out, h4⟩)
   have hvl : (v.length : Int) ≤ 140737488355328 := by
    have := HTOT2.out
    unfold keyT at this
    have h2 : v.length ≤ (dressV v).length := dress_len v
    simp at this; omega
   have B5 := hid (B4.out.then HA5.out)
   have HZ5 := hid (show Bb ≤ w5.heap.size by obtain ⟨h1, u, h2, _⟩ := BL5.out; have := lt_of_block h2; omega)
   have HPB := hid (show Bb ≤ w4.heap.size by obtain ⟨h1, u, h2, _⟩ := BL4.out; have := lt_of_block h2; omega)
   clear hky hcat
   refine (bstr_any Bb Bb pre (91 :: (ky ++ [61])) w5 (Or.inr BL5.out) (by have := HTOT2.out; unfold keyT at this; simp at this ⊢; omega) HZ5.out).mono ?_
   rintro e w6 ⟨rfl, bl6, hb6, hk6⟩
   have BL6 := hid bl6
   have F6 := hid (hk6 _ _ _ F5.out (by decide) (by decide))
   have S6 := hid (hk6 _ _ _ ((HA5.out.block _ (lt_of_block F4.out)).trans F4.out) (by decide) (by decide))
   have HZ6 := hid (Nat.le_trans HZ5.out hb6.size)
   have B6 := hid (B5.out.trans (hb6.mono (Nat.le_of_lt HSB.out)))
   clear bl6 hb6 hk6 y0 y1 yl r0 r1 hp2
   generalize w4.heap.size = Kb at *
   obtain ⟨y0, y1, _, _, yl⟩ := box2_cells F6.out
   clear F5 BL5 B5 HA5 HZ5
   go_wp2_with fail
   go_loopg [25] v.length (fun g v25 W => ∃ m : Nat, m ≤ v.length ∧ v.length ≤ m + g ∧ v25 = .int .i64 m ∧ Bld Bb Bb (pre ++ (91 :: (ky ++ 61 :: dressV (v.take m)))) W ∧ W.heap[Kb]? = some (.cells #[.string ⟨ky.toArray⟩, .string ⟨v.toArray⟩] 76 (0, 0)) ∧ W.heap[w.heap.size]? = some (.cells #[.string ⟨n.toArray⟩, .slice (some ⟨p, o, none⟩) ks.length cp] 106 (0, 0)) ∧ Below w.heap.size w W ∧ Bb ≤ W.heap.size)
   case atStart => exact ⟨0, Nat.zero_le _, by omega, rfl, (by have := BL6.out; simpa [dressV] using this), F6.out, S6.out, B6.out, HZ6.out⟩
   case round =>
    obtain ⟨m, hm, hg2, rfl, bl, fk, fs, bb, hz⟩ := hrel
    rename World => w7
    have HG2 := hid hg2
    have BL7 := hid bl
    have F7 := hid fk
    have S7 := hid fs
    have B7 := hid bb
    have HZ7 := hid hz
    clear hg2 bl fk fs bb hz y0 y1 yl BL6 F6 S6 B6 HZ6
    obtain ⟨y0, y1, _, _, yl⟩ := box2_cells F7.out
    by_cases hlt2 : m < v.length
    ·have hmi : (m : Int) < (v.length : Int) := by omega
     have hm0 : (0 : Int) ≤ (m : Int) := by omega
     have HDS := hid (dress_step hlt2)
     have hby : ∀ h, (⟨v.toArray⟩ : ByteArray)[m]'h = v[m]'hlt2 := fun h => rfl
     have IXC := hid (fun W => IX.out (v[m]'hlt2) W)
     have HSP := hid (idx_spec (v[m]'hlt2))
     have HBD := hid (show (pre ++ (91 :: (ky ++ 61 :: dressV (v.take m)))).length + (if specB (v[m]'hlt2) then 2 else 1) + 1 ≤ 140737488355328 by
      have h1 := HTOT2.out
      unfold keyT at h1
      have h2 : dressV v = dressV (v.take (m + 1)) ++ dressV (v.drop (m + 1)) := by rw [← dress_append, List.take_append_drop]
      rw [h2, HDS.out] at h1
      have h3 : 1 ≤ (if specB (v[m]'hlt2) then [92, v[m]'hlt2] else [v[m]'hlt2]).length := by split <;> simp
      simp only [List.length_append, List.length_cons, List.length_nil] at h1 ⊢
      by_cases hc : specB (v[m]'hlt2) = true
      ·rw [if_pos hc] at h1 ⊢; simp only [List.length_cons, List.length_nil] at h1; omega
      ·rw [if_neg hc] at h1 ⊢; simp only [List.length_cons, List.length_nil] at h1; omega)
     generalize v[m]'hlt2 = c at *
     have IXC2 := hid (fun W => (show Calls Tryz.prog 157 #[.string ⟨#[91, 93, 47, 61, 92]⟩, .int .u8 (c.toNat : Int)] W fun e w' => ∃ ix : Int, e = .returned (.int .i64 ix) ∧ decide ((0 : Int) ≤ ix) = specB c ∧ w' = W from (IXC.out W).mono (by rintro e w' ⟨rfl, rfl⟩; exact ⟨_, rfl, HSP.out, rfl⟩)))
     clear IXC HSP
     cases hc : specB c with
     | true =>
      have HSC := hid hc
      rw [hc] at IXC2 HBD HDS
      simp only [if_true] at HBD HDS
      clear hc
      go_wp2_with fail
      refine (IXC2.out w7).mono ?_
      rintro e w8 ⟨ix, rfl, hix, rfl⟩
      rename World => w8
      have hix2 : (0 : Int) ≤ ix := of_decide_eq_true hix
      clear hix
      go_wp2_with fail
      refine (bbyte_any Bb Bb _ 92 w8 (Or.inr BL7.out) (by have := HBD.out; omega) HZ7.out).mono ?_
      rintro e w9 ⟨rfl, bl9, hb9, hk9⟩
      have BL9 := hid bl9
      have F9 := hid (hk9 _ _ _ F7.out (by decide) (by decide))
      have S9 := hid (hk9 _ _ _ S7.out (by decide) (by decide))
      have HZ9 := hid (Nat.le_trans HZ7.out hb9.size)
      have B9 := hid (B7.out.trans (hb9.mono (Nat.le_of_lt HSB.out)))
      clear bl9 hb9 hk9 y0 y1 yl BL7 F7 S7 B7 HZ7
      obtain ⟨y0, y1, _, _, yl⟩ := box2_cells F9.out
      go_wp2_with fail
      refine (bbyte_any Bb Bb _ c w9 (Or.inr BL9.out) (by have := HBD.out; simp only [List.length_append, List.length_cons, List.length_nil] at this ⊢; omega) HZ9.out).mono ?_
      rintro e wa ⟨rfl, bla, hba, hka⟩
      have BLa := hid bla
      have Fa := hid (hka _ _ _ F9.out (by decide) (by decide))
      have Sa := hid (hka _ _ _ S9.out (by decide) (by decide))
      have HZa := hid (Nat.le_trans HZ9.out hba.size)
      have Ba := hid (B9.out.trans (hba.mono (Nat.le_of_lt HSB.out)))
      clear bla hba hka
      go_wp2_with fail
      go_roundg (gk - 1)
      case measure => have := HG2.out; omega
      case rel => exact ⟨m + 1, by omega, by have := HG2.out; omega, by simp, (by have := BLa.out; rw [HDS.out]; simpa using this), Fa.out, Sa.out, Ba.out, HZa.out⟩
     | false =>
      rw [hc] at IXC2 HBD HDS
      simp only [Bool.false_eq_true, if_false] at HBD HDS
      clear hc
      go_wp2_with fail
      refine (IXC2.out w7).mono ?_
      rintro e w8 ⟨ix, rfl, hix, rfl⟩
      rename World => w9
      have hix2 : ¬ (0 : Int) ≤ ix := of_decide_eq_false hix
      clear hix
      go_wp2_with fail
      refine (bbyte_any Bb Bb _ c w9 (Or.inr BL7.out) (by have := HBD.out; omega) HZ7.out).mono ?_
      rintro e wa ⟨rfl, bla, hba, hka⟩
      have BLa := hid bla
      have Fa := hid (hka _ _ _ F7.out (by decide) (by decide))
      have Sa := hid (hka _ _ _ S7.out (by decide) (by decide))
      have HZa := hid (Nat.le_trans HZ7.out hba.size)
      have Ba := hid (B7.out.trans (hba.mono (Nat.le_of_lt HSB.out)))
      clear bla hba hka
      go_wp2_with fail
      go_roundg (gk - 1)
      case measure => have := HG2.out; omega
      case rel => exact ⟨m + 1, by omega, by have := HG2.out; omega, by simp, (by have := BLa.out; rw [HDS.out]; simpa using this), Fa.out, Sa.out, Ba.out, HZa.out⟩
    ·have hmi : ¬ (m : Int) < (v.length : Int) := by omega
     have HTV := hid (show v.take m = v from List.take_of_length_le (by omega))
     rw [HTV.out] at BL7
     go_wp2_with fail
     refine (bbyte_any Bb Bb _ 93 w7 (Or.inr BL7.out) (by have := HTOT2.out; unfold keyT at this; simp only [List.length_append, List.length_cons, List.length_nil] at this ⊢; omega) HZ7.out).mono ?_
     rintro e wa ⟨rfl, bla, hba, hka⟩
     have BLa := hid bla
     have Sa := hid (hka _ _ _ S7.out (by decide) (by decide))
     have HZa := hid (Nat.le_trans HZ7.out hba.size)
     have Ba := hid (B7.out.trans (hba.mono (Nat.le_of_lt HSB.out)))
     clear bla hba hka
     go_wp2_with fail
     go_roundg (go - 1)
     case measure => have := HG.out; have := HGO.out; omega
     case rel => exact ⟨k + 1, by omega, by have := HG.out; omega, by simp, (by have := BLa.out; rw [HKT.out, ← List.append_assoc, ← HPRE.out]; simpa [keyT] using this), Sa.out, Ba.out, HZa.out⟩
  ·have hni : ¬ (k : Int) < (ks.length : Int) := by omega
   have HTV := hid (show n ++ keysT (ks.take k) = textP (n, ks) by rw [List.take_of_length_le (by omega)]; rfl)
   rw [HTV.out] at BL4
   go_wp2_with fail
   refine (Tryz.Builder_String_any Bb Bb (textP (n, ks)) w4 (Or.inr BL4.out) HZ4.out).mono ?_
   rintro e wa ⟨rfl, hba⟩
   have Ba := hid (B4.out.trans (hba.mono (Nat.le_of_lt HSB.out)))
   clear hba
   go_wp2_with fail
   exact bodyPost_ret (v := .string ⟨(textP (n, ks)).toArray⟩) (by simp [results, Tryz.results115, go_sem]) rfl ⟨rfl, Ba.out⟩
end Go.Proofs.YtbbmdbolkicpcaaGreatDoor
namespace Go.Proofs.YtbbmdbolkicpcaaGreatDoor
open Go.RowKit Go.Lib
set_option maxHeartbeats 400000 in
theorem allName_any (s : ByteArray) (w : World) (hs : s.size ≤ 9223372036854775806) :
  Calls Tryz.prog 184 #[.string s, .func (.func 101) #[] #[]] w fun e w' => e = .returned (.bool (allB nameB s.data.toList)) ∧ w' = w := by
 have hs2 : (s.size : Int) ≤ 9223372036854775806 := by omega
 go_enter Tryz.func184, Tryz.ntmps184
 go_wp2
 go_loop [5, 8] (fun _ i => ∃ k : Nat, k ≤ s.size ∧ i = .int .i64 k ∧ (s.data.toList.take k).all nameB = true) (fun _ i => s.size - (intOf i).toNat)
 case atStart => exact ⟨0, Nat.zero_le _, rfl, by simp⟩
 case round =>
  obtain ⟨k, hk, rfl, hall⟩ := hrel
  have HA := hid hall
  clear hall
  by_cases hlt : k < s.size
  ·have HS := hid (all_take_succ nameB s k hlt)
   cases hp : nameB s[k]
   ·have HP := hid hp
    have hgk : ∀ W, Calls Tryz.prog 101 #[.int .u8 (s[k].toNat : Int)] W fun e w' => e = .returned (.bool false) ∧ w' = W := fun W => hp ▸ nameByte_any s[k] W
    clear hp
    go_wp2_with (go_at_call 101; refine (hgk _).mono ?_; rintro e w' ⟨rfl, rfl⟩)
    go_ret
    exact ⟨ret_bool (allB_no hlt HP.out).symm, rfl⟩
   ·have HP := hid hp
    have hgk : ∀ W, Calls Tryz.prog 101 #[.int .u8 (s[k].toNat : Int)] W fun e w' => e = .returned (.bool true) ∧ w' = W := fun W => hp ▸ nameByte_any s[k] W
    clear hp
    go_wp2_with (go_at_call 101; refine (hgk _).mono ?_; rintro e w' ⟨rfl, rfl⟩)
    go_round
    case rel => exact ⟨k + 1, by omega, by go_num, by rw [HS.out, HA.out, HP.out]; rfl⟩
    case measure => simp [intOf]; omega
  ·go_wp2
   go_ret
   exact ⟨ret_bool (by rw [allB_yes hk hlt HA.out, Lib.toList_data]), rfl⟩
theorem uname_any (s : Str) (w : World) (hs : s.length ≤ 9223372036854775806) : Calls Tryz.prog 160 #[.string ⟨s.toArray⟩] w fun e w' => e = .returned (.bool (nameOk s)) ∧ w' = w := by
 have AL := hid (allName_any ⟨s.toArray⟩ w (by rw [Lib.size_eq]; exact hs))
 rw [show (⟨s.toArray⟩ : ByteArray).data.toList = s from rfl] at AL
 cases s with
 | nil =>
  have hb : allB nameB ([] : Str) = false := rfl
  rw [hb] at AL
  go_enter Tryz.func160, Tryz.ntmps160
  go_wp2_with (go_at_call 184; refine AL.out.mono ?_; rintro e w' ⟨rfl, rfl⟩)
  go_ret
  exact ⟨rfl, rfl⟩
 | cons c t =>
  have NS := hid (nameStart_any c w)
  have hall : allB nameB (c :: t) = (c :: t).all nameB := by simp [allB]
  rw [hall] at AL
  have hby : ∀ h, (⟨(c :: t).toArray⟩ : ByteArray)[0]'h = c := fun h => rfl
  have hnok : nameOk (c :: t) = ((c :: t).all nameB && startB c) := by simp only [nameOk, headB]; rw [Bool.and_comm]
  have HN := hid hnok
  clear hnok hall
  have hsz : (0 : Int) < ((⟨(c :: t).toArray⟩ : ByteArray).size : Int) := by rw [Lib.size_eq]; simp
  cases ha : (c :: t).all nameB with
  | false =>
   rw [ha] at AL HN
   clear ha
   go_enter Tryz.func160, Tryz.ntmps160
   go_wp2_with (go_at_call 184; refine AL.out.mono ?_; rintro e w' ⟨rfl, rfl⟩)
   go_ret
   exact ⟨ret_bool (by rw [HN.out]; rfl), rfl⟩
  | true =>
   rw [ha] at AL HN
   clear ha
   go_enter Tryz.func160, Tryz.ntmps160
   go_wp2_with (first
    | (go_at_call 184; refine AL.out.mono ?_; rintro e w' ⟨rfl, rfl⟩)
    | (go_at_call 100; refine NS.out.mono ?_; rintro e w' ⟨rfl, rfl⟩))
   go_ret
   exact ⟨ret_bool (by rw [HN.out]; rfl), rfl⟩
def noCtl (v : Str) : Bool := v.all (fun c => !ctlB c)
theorem noCtl_cons (c : UInt8) (t : Str) : noCtl (c :: t) = (!ctlB c && noCtl t) := rfl
theorem noCtl_run : ∀ (run t : Str), (∀ c ∈ run, 128 ≤ c.toNat) → noCtl (run ++ t) = noCtl t
 | [], t, _ => rfl
 | c :: r, t, h => by
  have hc : ctlB c = false := by
   have := (run_no (h c (List.mem_cons_self ..))).2.2.2
   simp only [Bool.or_eq_false_iff] at this
   exact this.1.1.1
  rw [List.cons_append, noCtl_cons, hc, noCtl_run r t (fun d hd => h d (List.mem_cons_of_mem _ hd))]; rfl
theorem rune_ctl {l : Str} {r k : Nat} (h : Sound l r k) : noCtl l = (!(decide ((r : Int) < 32) || (r : Int) == 127) && noCtl (l.drop k)) := by
 cases h with
 | one c t hc =>
  rw [noCtl_cons]
  congr 1
  congr 1
  revert c; apply forall_byte; decide +kernel
 | more run t r h2 h4 hr hm hb he =>
  rw [noCtl_run run t hb, List.drop_left]
  have h1 : decide ((r : Int) < 32) = false := decide_eq_false (by omega)
  have h3 : ((r : Int) == 127) = false := by rw [beq_eq_false_iff_ne]; omega
  rw [h1, h3]; rfl
set_option maxRecDepth 100000 in
set_option maxHeartbeats 4000000 in
theorem idxCtl_any (v : Str) (w : World) (hv : utfB v = true) (hs : v.length ≤ 140737488355328) :
  Calls Tryz.prog 196 #[.string ⟨v.toArray⟩, .func (.func 158) #[] #[], .bool true] w fun e w' => (∃ i : Int, e = .returned (.int .i64 i) ∧ decide ((0 : Int) ≤ i) = !noCtl v) ∧ Below w.heap.size w w' := by
 have CT := hid (fun r W => ctl_any r W)
 have hsz : (⟨v.toArray⟩ : ByteArray).size = v.length := Lib.size_eq _
 have HSZ := hid hsz
 have HV := hid hv
 clear hv hsz
 go_enter Tryz.func196, Tryz.ntmps196
 go_wp2_with fail
 go_loopg [6] v.length (fun g v6 W => v6 = .int .i64 0 ∧ ∃ pos : Nat, pos ≤ v.length ∧ v.length ≤ pos + g ∧ W.heap[w.heap.size]? = some (.stringIter ⟨v.toArray⟩ pos) ∧ utfB (v.drop pos) = true ∧ noCtl v = noCtl (v.drop pos) ∧ Below w.heap.size w W)
 case atStart => exact ⟨rfl, 0, Nat.zero_le _, by omega, World.iter_heap w _ 0, HV.out, rfl, (Below.refl _ _).alloc (Nat.le_refl _) _⟩
 case round =>
  obtain ⟨rfl, pos, hpos, hg, hit, hut, hno, hb⟩ := hrel
  rename World => wr
  have HG := hid hg
  have HNO := hid hno
  clear hg hno
  by_cases hp : pos < v.length
  ·have hne : v.drop pos ≠ [] := by intro e; have := congrArg List.length e; simp at this; omega
   have hdl := dec_le hne
   obtain ⟨hsd, hnext⟩ := utfB_sound hne hut
   have hnx : ∀ ty, (Instr.next (.pointer (some ⟨w.heap.size, 0, none⟩)) true ty).run Tryz.prog wr = _ := fun ty => Lib.run_next_any_at wr w.heap.size ⟨v.toArray⟩ pos ty hit (by rw [Lib.size_eq]; exact hp)
   simp only [dec_at] at hnx
   have hrc := rune_ctl hsd
   rw [List.length_drop] at hdl
   rw [List.drop_drop] at hnext hrc
   generalize hd : decodeL (v.drop pos) = rk at *
   obtain ⟨r, k⟩ := rk
   simp only at hnx hdl hnext hrc
   have HIT := hid (Lib.iterAt_heap wr w.heap.size ⟨v.toArray⟩ pos (pos + k) hit)
   have HBW := hid (Lib.below_iterAt hb (k := w.heap.size) (by omega) ⟨v.toArray⟩ (pos + k))
   have HPK := hid (show pos + k ≤ v.length ∧ 1 ≤ k by omega)
   have HNX := hid hnext
   have HRC := hid hrc
   have CTR := hid (fun W => CT.out (r : Int) W)
   obtain ⟨b, hbd⟩ : ∃ b, b = (decide ((r : Int) < 32) || (r : Int) == 127) := ⟨_, rfl⟩
   rw [← hbd] at CTR HRC
   clear hit hut hne hdl hsd hnext hrc hd hb hbd
   cases b with
   | true =>
    have HF := hid (show noCtl v = false by rw [HNO.out, HRC.out]; rfl)
    have hp0 : (0 : Int) ≤ (pos : Int) := by omega
    go_wp2_with (go_at_call 158; refine (CTR.out _).mono ?_; rintro e w' ⟨rfl, rfl⟩)
    exact bodyPost_ret (v := .int .i64 pos) (by simp [results, Tryz.results196, go_sem]) rfl ⟨⟨_, rfl, by rw [HF.out]; exact decide_eq_true hp0⟩, HBW.out⟩
   | false =>
    have HF := hid (show noCtl v = noCtl (v.drop (pos + k)) by rw [HNO.out, HRC.out]; rfl)
    go_wp2_with (go_at_call 158; refine (CTR.out _).mono ?_; rintro e w' ⟨rfl, rfl⟩)
    go_roundg (gk - 1)
    case measure => have := HG.out; omega
    case rel => exact ⟨rfl, pos + k, HPK.out.1, by have := HG.out; have := HPK.out; omega, HIT.out, HNX.out, HF.out, HBW.out⟩
  ·have hnx : ∀ ty, (Instr.next (.pointer (some ⟨w.heap.size, 0, none⟩)) true ty).run Tryz.prog wr = _ := fun ty => Lib.run_next_end_at wr w.heap.size ⟨v.toArray⟩ pos ty hit (by rw [Lib.size_eq]; exact hp)
   have HF := hid (show noCtl v = true by rw [HNO.out, List.drop_eq_nil_of_le (by omega)]; rfl)
   have HB := hid hb
   clear hit hut hb
   go_wp2_with fail
   exact bodyPost_ret (v := .int .i64 (-1)) (by simp [results, Tryz.results196, go_sem]) rfl ⟨⟨_, rfl, by rw [HF.out]; rfl⟩, HB.out⟩
theorem idxFunc_any (v : Str) (w : World) (hv : utfB v = true) (hs : v.length ≤ 140737488355328) :
  Calls Tryz.prog 185 #[.string ⟨v.toArray⟩, .func (.func 158) #[] #[]] w fun e w' => (∃ i : Int, e = .returned (.int .i64 i) ∧ decide ((0 : Int) ≤ i) = !noCtl v) ∧ Below w.heap.size w w' := by
 have IX := hid (idxCtl_any v w hv hs)
 go_enter Tryz.func185, Tryz.ntmps185
 go_wp2_with fail
 refine IX.out.mono ?_
 rintro e w' ⟨⟨i, rfl, hi⟩, hb⟩
 have HI := hid hi
 have HB := hid hb
 clear hi hb
 go_wp2_with fail
 exact bodyPost_ret (v := .int .i64 i) (by simp [results, Tryz.results185, go_sem]) rfl ⟨⟨i, rfl, HI.out⟩, HB.out⟩
theorem contCtl_any (v : Str) (w : World) (hv : utfB v = true) (hs : v.length ≤ 140737488355328) :
  Calls Tryz.prog 161 #[.string ⟨v.toArray⟩, .func (.func 158) #[] #[]] w fun e w' => e = .returned (.bool (!noCtl v)) ∧ Below w.heap.size w w' := by
 have IX := hid (idxFunc_any v w hv hs)
 generalize (!noCtl v) = b at *
 go_enter Tryz.func161, Tryz.ntmps161
 go_wp2_with fail
 refine IX.out.mono ?_
 rintro e w' ⟨⟨i, rfl, hi⟩, hb⟩
 have HB := hid hb
 clear hb
 cases b with
 | true =>
  have h2 : (0 : Int) ≤ i := of_decide_eq_true hi
  clear hi
  go_wp2_with fail
  exact bodyPost_ret (v := .bool true) (by simp [results, Tryz.results161, go_sem]) rfl ⟨rfl, HB.out⟩
 | false =>
  have h2 : ¬ (0 : Int) ≤ i := of_decide_eq_false hi
  clear hi
  go_wp2_with fail
  exact bodyPost_ret (v := .bool false) (by simp [results, Tryz.results161, go_sem]; omega) rfl ⟨rfl, HB.out⟩
end Go.Proofs.YtbbmdbolkicpcaaGreatDoor
namespace Go.Proofs.YtbbmdbolkicpcaaGreatDoor
open Go.RowKit Go.Lib
theorem keysOk_get : ∀ (l ks : List (Str × Str)), keysOk ks l = true → ∀ n (hn : n < l.length), nameOk (l[n]'hn).1 = true ∧ valOk (l[n]'hn).2 = true ∧ lastGE (ks ++ l.take n) (l[n]'hn).1 = false
 | [], _, _, n, hn => absurd hn (Nat.not_lt_zero n)
 | k :: r, ks, h, n, hn => by
  simp only [keysOk, Bool.and_eq_true, Bool.not_eq_true'] at h
  cases n with
  | zero => exact ⟨h.1.1.1, h.1.2, by simpa using h.1.1.2⟩
  | succ m =>
   have := keysOk_get r (ks ++ [k]) h.2 m (by simp at hn; omega)
   simpa using this
theorem spot_fld (x y : Int) (w : World) : (Instr.field 77 (.agg #[.int .i64 x, .int .i64 y]) 0).run Tryz.prog w = .ok (.int .i64 x) w := by kernel_rfl
attribute [local go_sem] spot_fld
def aheadF (l : List (Str × Str)) : Str := match l.getLast? with | none => [] | some p => p.1
theorem ahead_lt {l : List (Str × Str)} {k : Str} (h : lastGE l k = false) (hk : k ≠ []) : aheadF l < k := by
 unfold lastGE at h
 unfold aheadF
 cases e : l.getLast? with
 | none =>
  cases k with
  | nil => exact absurd rfl hk
  | cons c t => exact List.nil_lt_cons c t
 | some p =>
  rw [e] at h
  exact List.not_le.1 (of_decide_eq_false h)
theorem ahead_take {l : List (Str × Str)} {n : Nat} (h : n < l.length) : aheadF (l.take (n + 1)) = (l[n]'h).1 := by
 have e : (l.take (n + 1)).getLast? = some (l[n]'h) := by
  rw [List.take_succ_eq_append_getElem h]
  exact List.getLast?_concat
 unfold aheadF
 rw [e]
theorem all_takeS {l : List (Str × Str)} {n : Nat} (h : n < l.length) : (l.take (n + 1)).all fitK = ((l.take n).all fitK && fitK (l[n]'h)) := by
 rw [List.take_succ_eq_append_getElem h, List.all_append]
 simp
def lngB (n : Str) (l : List (Str × Str)) : Bool := !(decide (n.length ≤ 64) && l.all fitK)
theorem lng_step {n : Str} {l : List (Str × Str)} {k : Nat} (h : k < l.length) : lngB n (l.take (k + 1)) = (lngB n (l.take k) || decide ((64 : Int) < ((l[k]'h).1.length : Int)) || decide ((64 : Int) < ((l[k]'h).2.length : Int))) := by
 unfold lngB
 rw [all_takeS h]
 have h1 : decide ((64 : Int) < ((l[k]'h).1.length : Int)) = !decide ((l[k]'h).1.length ≤ 64) := by
  by_cases e : (l[k]'h).1.length ≤ 64
  ·rw [decide_eq_true e, decide_eq_false (by omega)]; rfl
  ·rw [decide_eq_false e, decide_eq_true (by omega)]; rfl
 have h2 : decide ((64 : Int) < ((l[k]'h).2.length : Int)) = !decide ((l[k]'h).2.length ≤ 64) := by
  by_cases e : (l[k]'h).2.length ≤ 64
  ·rw [decide_eq_true e, decide_eq_false (by omega)]; rfl
  ·rw [decide_eq_false e, decide_eq_true (by omega)]; rfl
 rw [h1, h2]
 have h3 : fitK (l[k]'h) = (decide ((l[k]'h).1.length ≤ 64) && decide ((l[k]'h).2.length ≤ 64)) := rfl
 rw [h3]
 generalize (l.take k).all fitK = b1
 cases decide (n.length ≤ 64) <;> cases b1 <;> cases decide ((l[k]'h).1.length ≤ 64) <;> cases decide ((l[k]'h).2.length ≤ 64) <;> rfl
theorem key_len {x : Stp} {k : Nat} (h : k < x.2.length) : (x.2[k]'h).1.length + (x.2[k]'h).2.length ≤ (textP x).length := by
 have h1 : keysT x.2 = keysT (x.2.take k) ++ (keyT (x.2[k]'h) ++ keysT (x.2.drop (k + 1))) := by
  have e : x.2 = x.2.take k ++ ((x.2[k]'h) :: x.2.drop (k + 1)) := by rw [← List.drop_eq_getElem_cons h, List.take_append_drop]
  unfold keysT
  conv => lhs; rw [e]
  rw [List.flatMap_append, List.flatMap_cons]
 have h2 := dress_len (x.2[k]'h).2
 unfold textP
 rw [h1]
 simp only [List.length_append, keyT, List.length_cons]
 omega
set_option maxRecDepth 100000 in
set_option maxHeartbeats 8000000 in
theorem pmay_any (w : World) (x : Stp) (kv : Value) (hr : RdP w kv x.2) (hm : mayB x = true) (hs : (textP x).length ≤ 140737488355328) :
  Calls Tryz.prog 114 #[.agg #[.string ⟨x.1.toArray⟩, kv]] w fun e w' => e = .returned (.tuple #[.bool true, .bool (fitB x)]) ∧ Below w.heap.size w w' := by
 have HKL := hid (fun k h => @key_len x k h)
 obtain ⟨n, ks⟩ := x
 obtain ⟨ao, cp, rfl, h63, hcell⟩ := rdP_cells hr
 simp only at hcell h63 hs HKL ⊢
 unfold mayB at hm
 simp only [Bool.and_eq_true] at hm
 have HOK := hid (keysOk_get ks [] hm.2)
 have HNA := hid hm.1
 have HCELL := hid hcell
 have hnl : n.length ≤ 140737488355328 := by unfold textP at hs; simp at hs; omega
 have hnz : (n.length : Int) ≤ 140737488355328 := by omega
 have NMN := hid (fun W => uname_any n W (by omega))
 rw [hm.1] at NMN
 have HS := hid hs
 have HB1 := hid (show Below w.heap.size w (w.alloc (.cells #[.string ⟨n.toArray⟩, .slice ao ks.length cp] 106)) from (Below.refl _ _).alloc (Nat.le_refl _) _)
 have F1 := hid (heap_alloc_new w (.cells #[.string ⟨n.toArray⟩, .slice ao ks.length cp] 106))
 have hl0 : decide ((64 : Int) < (n.length : Int)) = lngB n (ks.take 0) := by
  unfold lngB
  by_cases e : n.length ≤ 64
  ·rw [decide_eq_false (by omega), decide_eq_true e]; rfl
  ·rw [decide_eq_true (by omega), decide_eq_false e]; rfl
 have HL0 := hid hl0
 clear hr hcell hs hm hl0
 go_enter Tryz.func114, Tryz.ntmps114
 go_upto_region 1 with fail
 generalize w.alloc (.cells #[.string ⟨n.toArray⟩, .slice ao ks.length cp] 106) = w1 at *
 have HSB := hid (lt_of_block F1.out)
 obtain ⟨s0, s1, _, _, sl⟩ := box2_cells F1.out
 go_upto_region 4 with fail
 rw [HL0.out]
 go_loopg [4, 5, 15] ks.length (fun g v4 v5 v15 W => ∃ k : Nat, k ≤ ks.length ∧ ks.length ≤ k + g ∧ v4 = .bool (lngB n (ks.take k)) ∧ v5 = .string ⟨(aheadF (ks.take k)).toArray⟩ ∧ v15 = .int .i64 k ∧ W.heap[w.heap.size]? = some (.cells #[.string ⟨n.toArray⟩, .slice ao ks.length cp] 106 (0, 0)) ∧ Below w.heap.size w W)
 case atStart => exact ⟨0, Nat.zero_le _, by omega, rfl, rfl, rfl, F1.out, HB1.out⟩
 case round =>
  obtain ⟨k, hk, hg, rfl, rfl, rfl, ff, bb⟩ := hrel
  rename World => w4
  have HG := hid hg
  have B4 := hid bb
  have F4 := hid ff
  clear bb ff F1 HB1 s0 s1 sl hg
  by_cases hlt : k < ks.length
  ·have hni : (k : Int) < (ks.length : Int) := by omega
   have hn0 : (0 : Int) ≤ (k : Int) := by omega
   obtain ⟨p, o, rfl, hp, q0, q1⟩ := HCELL.out k hlt
   have r0 := (B4.out.cell (p := ⟨p, o + k * 2, none⟩) hp).trans q0
   have r1 := (B4.out.cell (p := ⟨p, o + k * 2 + 1, none⟩) hp).trans q1
   have hp2 : p < w4.heap.size := Nat.lt_of_lt_of_le hp B4.out.size
   obtain ⟨ok1, ok2, ok3⟩ := HOK.out k hlt
   have hkl := HKL.out k hlt
   have HLS := hid (@lng_step n ks k hlt)
   have HAT := hid (ahead_take hlt)
   rw [List.nil_append] at ok3
   have hal := ahead_lt ok3 (nameOk_ne ok1)
   clear q0 q1 ok3
   generalize ks[k]'hlt = kv at *
   obtain ⟨ky, v⟩ := kv
   simp only at r0 r1 hkl HLS HAT ok1 ok2 hal
   have hbl : Op.bytesLess ky (aheadF (ks.take k)) = false := by rw [Proofs.bytesLess_eq]; exact decide_eq_false (List.lt_asymm hal)
   have hbe : (ky == aheadF (ks.take k)) = false := beq_eq_false_iff_ne.2 (fun e => List.lt_irrefl _ (e ▸ hal))
   have hbn : ky ≠ aheadF (ks.take k) := fun e => List.lt_irrefl _ (e ▸ hal)
   clear hal
   have hky : ky.length ≤ 140737488355328 := by have := HS.out; omega
   have hvy : v.length ≤ 140737488355328 := by have := HS.out; omega
   unfold valOk at ok2
   simp only [Bool.and_eq_true] at ok2
   have NMK := hid (fun W => uname_any ky W (by omega))
   rw [ok1] at NMK
   have UC := hid (fun W => (show Calls Tryz.prog 83 #[.string ⟨v.toArray⟩] W fun e w' => e = .returned (.agg #[.int .i64 0, .int .i64 0]) ∧ Below W.heap.size W w' from by
    refine (ucheck_any v W (by unfold maxLen; omega)).mono ?_
    rintro e w' ⟨⟨er, at', rfl, hx⟩, hb⟩
    rcases hx with ⟨_, rfl, rfl⟩ | ⟨hx, _⟩
    ·exact ⟨rfl, hb⟩
    ·rw [ok2.1] at hx; cases hx))
   have CC := hid (fun W => contCtl_any v W ok2.1 hvy)
   rw [show noCtl v = true from ok2.2, Bool.not_true] at CC
   have HU := hid ok2.1
   have hkyz : (ky.length : Int) ≤ 140737488355328 := by omega
   have hvyz : (v.length : Int) ≤ 140737488355328 := by omega
   clear ok1 ok2 hkl hky hvy
   have HA5 := hid (show Below w4.heap.size w4 (w4.alloc (.cells #[.string ⟨ky.toArray⟩, .string ⟨v.toArray⟩] 76)) from (Below.refl _ _).alloc (Nat.le_refl _) _)
   have F5 := hid (heap_alloc_new w4 (.cells #[.string ⟨ky.toArray⟩, .string ⟨v.toArray⟩] 76))
   go_upto_region 6 with fail
   generalize w4.alloc (.cells #[.string ⟨ky.toArray⟩, .string ⟨v.toArray⟩] 76) = w5 at *
   obtain ⟨y0, y1, _, _, yl⟩ := box2_cells F5.out
   have B5 := hid (B4.out.then HA5.out)
   have HZ4 := hid B4.out.size
   have F5s := hid ((HA5.out.block _ (lt_of_block F4.out)).trans F4.out)
   clear B4 F4 HA5
   generalize w4.heap.size = Pb at *
   go_upto_region 8 with (first
    | (go_at_call 160; refine (NMK.out _).mono ?_; rintro e wz ⟨rfl, rfl⟩)
    | (go_at_call 83; refine (UC.out _).mono ?_; rintro e w6 ⟨rfl, hb6⟩; have F6 := hid ((hb6.block _ (lt_of_block F5.out)).trans F5.out); have F6s := hid ((hb6.block _ (lt_of_block F5s.out)).trans F5s.out); have B6 := hid (B5.out.then hb6); clear hb6 y0 y1 yl F5 F5s B5; obtain ⟨y0, y1, _, _, yl⟩ := box2_cells F6.out)
    | (go_at_call 161; refine (CC.out _).mono ?_; rintro e w7 ⟨rfl, hb7⟩; have F7 := hid ((hb7.block _ (lt_of_block F6.out)).trans F6.out); have F7s := hid ((hb7.block _ (lt_of_block F6s.out)).trans F6s.out); have B7 := hid (B6.out.then hb7); clear hb7 y0 y1 yl F6 F6s B6; obtain ⟨y0, y1, _, _, yl⟩ := box2_cells F7.out))
   have HTAIL := hid (show lngB n (ks.take (k + 1)) = (lngB n (ks.take k) || decide ((64 : Int) < (ky.length : Int)) || decide ((64 : Int) < (v.length : Int))) from HLS.out)
   clear HLS
   generalize lngB n (ks.take k) = lg at *
   cases lg with
   | true =>
    go_wp2_with fail
    go_roundg (gk - 1)
    case measure => have := HG.out; omega
    case rel => exact ⟨k + 1, by omega, by have := HG.out; omega, by rw [HTAIL.out]; rfl, by rw [HAT.out], by simp, F7s.out, B7.out⟩
   | false =>
    by_cases h1 : (64 : Int) < (ky.length : Int)
    ·go_wp2_with fail
     go_roundg (gk - 1)
     case measure => have := HG.out; omega
     case rel => exact ⟨k + 1, by omega, by have := HG.out; omega, by rw [HTAIL.out, decide_eq_true h1]; rfl, by rw [HAT.out], by simp, F7s.out, B7.out⟩
    ·by_cases h2 : (64 : Int) < (v.length : Int)
     ·go_wp2_with fail
      go_roundg (gk - 1)
      case measure => have := HG.out; omega
      case rel => exact ⟨k + 1, by omega, by have := HG.out; omega, by rw [HTAIL.out, decide_eq_true h2, decide_eq_false (show ¬ (64 : Int) < (ky.length : Int) by omega)]; rfl, by rw [HAT.out], by simp, F7s.out, B7.out⟩
     ·go_wp2_with fail
      go_roundg (gk - 1)
      case measure => have := HG.out; omega
      case rel => exact ⟨k + 1, by omega, by have := HG.out; omega, by rw [HTAIL.out, decide_eq_false (show ¬ (64 : Int) < (v.length : Int) by omega), decide_eq_false (show ¬ (64 : Int) < (ky.length : Int) by omega)]; rfl, by rw [HAT.out], by simp, F7s.out, B7.out⟩
  ·have hni : ¬ (k : Int) < (ks.length : Int) := by omega
   have hkn : k = ks.length := by omega
   subst hkn
   obtain ⟨s0, s1, _, _, sl⟩ := box2_cells F4.out
   have HF := hid (show (!lngB n (ks.take ks.length)) = fitB (n, ks) by rw [List.take_length]; unfold lngB fitB; rw [Bool.not_not])
   generalize lngB n (ks.take ks.length) = lg at *
   go_wp2_with (go_at_call 160; refine (NMN.out _).mono ?_; rintro e wz ⟨rfl, rfl⟩)
   refine bodyPost_ret (v := .tuple #[.bool true, .bool (!lg)]) (by simp [results, Tryz.results114, go_sem]) rfl ⟨?_, B4.out⟩
   rw [HF.out]
end Go.Proofs.YtbbmdbolkicpcaaGreatDoor
namespace Go.Proofs.YtbbmdbolkicpcaaGreatDoor
open Go.RowKit Go.Lib Go.Sort Go.Maps Go.WideMaps
section
variable {w w' : World} {B : Nat} {v : Value} {l : List Dc}
end
theorem RdL.take {α : Type} {k : Nat} {E : Enc α k} {W : World} {a : Option Addr} {n c : Nat} {l : List α} (h : RdL E W (.slice a n c) l) (m : Nat) (hm : m ≤ l.length) : RdL E W (.slice a m c) (l.take m) := by
 obtain ⟨ao, cp, e, ⟨h1, h2, h3⟩, hc⟩ := h
 cases e
 have hl : (l.take m).length = m := by rw [List.length_take]; omega
 refine ⟨a, c, by rw [hl], ⟨by omega, by omega, fun e => ?_⟩, fun hne => ?_⟩
 ·obtain ⟨e1, e2⟩ := h3 e
  exact ⟨by rw [e1]; simp, e2⟩
 ·obtain ⟨b, off, ha, hlt, hx⟩ := hc (by rintro rfl; simp at hne)
  refine ⟨b, off, ha, hlt, fun j i x hj hx2 => hx j i x (by rw [hl] at hj; omega) ?_⟩
  rw [List.getElem_take] at hx2
  exact hx2
theorem wpList_appL {α : Type} {k : Nat} {E : Enc α k} {ty : TypeId} {w : World} {ops : Array Oper} {rest : List Oper} {o : Oper} {a : Act} {Q : Exit → Act → World → Prop} (hgd : o.guard = none) (s x : Operand) {t : TypeId}
  (ho : o.op = .call { callee := .builtin .append, args := #[s, x], argTypes := #[t, t] })
  {z : Value} {bytes : Nat} (ht : Tryz.prog.underlying t = some (.slice ty)) (hinf : (Tryz.prog.info? ty).map (fun i => (i.zero, i.size, i.bytes)) = some (some z, k, bytes)) (hzs : z.cells.size = k) (hk : 0 < k)
  (B : Nat) (v : Value) (l m : List α) (hs : a.eval s = v) (hown : OwnL E ty w B v l) {u : Value} (hx : a.eval x = u) (hr : RdL E w u m) (hl : l.length + m.length ≤ maxLen) (hl2 : (l.length + m.length) * bytes ≤ 140737488355328) (hB : B ≤ w.heap.size)
  (h : ∀ v' w', OwnL E ty w' B v' (l ++ m) → w.grownBy w' v.ownBlock → wpList Tryz.prog ops Q rest (a.put o.dst v') w') :
  wpList Tryz.prog ops Q (o :: rest) a w := by
 obtain ⟨i0, hi, hz0, hz1, hz2⟩ := info_parts hinf
 obtain ⟨ao, cp, rfl, ⟨h1, h2, h3⟩, hc⟩ := hr
 cases hao : ao with
 | none =>
  subst hao
  obtain ⟨rfl, rfl⟩ := h3 rfl
  refine wpList_append_own_none hgd s x t ho B ty i0 k ht hi v l.length (flatL E l) hs hown hx (h v w (by rw [List.append_nil]; exact hown) (World.grownBy.refl _ _))
 | some ad =>
  by_cases hm : m = []
  ·subst hm
   subst hao
   refine wpList_app hgd s x t ho B ty i0 z k bytes ht hi hz0 hz1 hz2 hzs hk v l.length (flatL E l) hs hown ad 0 cp [] hx (by simp) (fun j u hu => by simp at hu) (fun u hu => by cases hu) (by simpa using hl) (by simpa using hl2) hB ?_
   intro v' w' own gr mv
   exact h v' w' (by rw [List.append_nil]; exact own_cast own rfl (by simp)) gr
  ·obtain ⟨b, off, ha, hlt, hcell⟩ := hc hm
   rw [hao] at ha
   cases ha
   subst hao
   refine wpList_app hgd s x t ho B ty i0 z k bytes ht hi hz0 hz1 hz2 hzs hk v l.length (flatL E l) hs hown ⟨b, off, none⟩ m.length cp (flatL E m) hx (flatL_len E m) (fun j u hu => ?_) (fun u hu => ?_) hl hl2 hB ?_
   ·have hj : j < m.length * k := by have := (List.getElem?_eq_some_iff.1 hu).1; rwa [flatL_len] at this
    have hq : j / k < m.length := Nat.div_lt_of_lt_mul (by rw [Nat.mul_comm]; exact hj)
    have hr := Nat.mod_lt j hk
    have he : j = j / k * k + j % k := by rw [Nat.mul_comm]; exact (Nat.div_add_mod j k).symm
    rw [he, flatL_get E m (j / k) (j % k) hq hr] at hu
    have := hcell (j / k) (j % k) u hq hu
    rw [Nat.add_assoc, ← he] at this
    have hadd : ((⟨b, off, none⟩ : Addr).add j) = ⟨b, off + j, none⟩ := by
     unfold Addr.add
     split
     ·next e => subst e; rfl
     ·rfl
    rw [hadd]; exact this
   ·obtain ⟨y, _, hy⟩ := List.mem_flatMap.1 hu
    exact E.one y u hy
   ·intro v' w' own gr mv
    exact h v' w' (own_cast own (by simp) (by rw [flatL_append])) gr
end Go.Proofs.YtbbmdbolkicpcaaGreatDoor
namespace Go.Proofs.YtbbmdbolkicpcaaGreatDoor
open Go.RowKit Go.Lib
def RdSt (w : World) (v : Value) (l : List Stp) : Prop := ∃ zs : List (Stp × (Option Addr × Nat)), zs.map (·.1) = l ∧ RdL encSt w v zs ∧ ∀ z ∈ zs, RdP w (keysV z) z.1.2
theorem OwnSt.rd {w : World} {B : Nat} {v : Value} {l : List Stp} (h : OwnSt w B v l) : RdSt w v l := by
 obtain ⟨zs, h1, h2, h3, _⟩ := h
 exact ⟨zs, h1, h2.rd, fun z hz => (h3 z hz).rd⟩
theorem RdSt.below {w w' : World} {v : Value} {l : List Stp} (h : RdSt w v l) (hb : Below w.heap.size w w') : RdSt w' v l := by
 obtain ⟨zs, h1, h2, h3⟩ := h
 exact ⟨zs, h1, h2.below hb, fun z hz => (h3 z hz).below hb⟩
theorem zeros_own {w : World} {e : TypeId} {k n : Nat} {z : Value} {cap : Nat} (hz : z.cells.size = k) (hn : n ≤ cap) (hc : cap ≤ maxLen) :
  (w.drew.alloc (.cells (Builtin.zeroCells z.cells n ++ Builtin.zeroCells z.cells (cap - n)) e)).ownsRow w.heap.size e k (.slice (some ⟨w.heap.size, 0, none⟩) 0 cap) 0 [] := by
 refine ⟨by simp, Or.inr ⟨w.heap.size, cap, _, rfl, Nat.le_refl _, heap_alloc_new w.drew _, Nat.zero_le _, hc, ?_, by simp⟩⟩
 simp [Builtin.zeroCells, hz]
 rw [← Nat.add_mul]
 congr 1
 omega
set_option maxHeartbeats 4000000 in
theorem grow_any (w : World) (n : Nat) (hn : n ≤ 1000000000) :
  Calls Tryz.prog 159 #[.slice none 0 0, .int .i64 n] w fun e w' => ∃ v, e = .returned v ∧ OwnL encSt 106 w' w.heap.size v [] ∧ Below w.heap.size w w' := by
 obtain ⟨i0, hi, hz0, hz1, hz2⟩ := info_parts infoSt
 have hnz : (n : Int) ≤ 1000000000 := by omega
 have hn0 : (0 : Int) ≤ (n : Int) := by omega
 by_cases h0 : 0 < n
 ·have hni : (0 : Int) < (n : Int) := by omega
  have HR := hid (fun ty => Lib.run_append_nil_zeros (P := Tryz.prog) w 99 3 ty 106 i0 _ .i64 .i64 Tryz.underlying99 Tryz.underlying3 hi hz0 n h0 (by omega) (by omega) (by rw [hz2]; omega))
  have HO := hid (show (w.drew.alloc (.cells (Builtin.zeroCells (Value.cells (.agg #[.string ⟨#[]⟩, .slice none 0 0])) n ++ Builtin.zeroCells (Value.cells (.agg #[.string ⟨#[]⟩, .slice none 0 0])) (grownCap w n 0 106 - n)) 106)).ownsRow w.heap.size 106 2 (.slice (some ⟨w.heap.size, 0, none⟩) 0 (grownCap w n 0 106)) 0 [] from zeros_own rfl (grownCap_ge w n 0 _) (grownCap_le_maxLen w n 0 _ (by unfold maxLen; omega)))
  have HB := hid (show Below w.heap.size w (w.drew.alloc (.cells (Builtin.zeroCells (Value.cells (.agg #[.string ⟨#[]⟩, .slice none 0 0])) n ++ Builtin.zeroCells (Value.cells (.agg #[.string ⟨#[]⟩, .slice none 0 0])) (grownCap w n 0 106 - n)) 106)) from ((Below.refl _ _).drew).alloc (Nat.le_refl _) _)
  have HC := hid (grownCap_ge w n 0 106)
  clear hi hz0 hz1 hz2
  generalize w.drew.alloc (.cells (Builtin.zeroCells (Value.cells (.agg #[.string ⟨#[]⟩, .slice none 0 0])) n ++ Builtin.zeroCells (Value.cells (.agg #[.string ⟨#[]⟩, .slice none 0 0])) (grownCap w n 0 106 - n)) 106) = w1 at *
  generalize grownCap w n 0 106 = cp at *
  have hcp : (n : Int) ≤ (cp : Int) := by have := HC.out; omega
  go_enter Tryz.func159, Tryz.ntmps159
  go_wp2_with (at_builtin; refine Lib.wpList_append_run _ rfl _ _ _ _ rfl _ _ rfl rfl _ _ (HR.out _) ?_)
  exact bodyPost_ret (v := .slice (some ⟨w.heap.size, 0, none⟩) 0 cp) (by simp [results, Tryz.results159, go_sem]) rfl ⟨_, rfl, HO.out, HB.out⟩
 ·have e : n = 0 := by omega
  subst e
  go_enter Tryz.func159, Tryz.ntmps159
  go_wp2_with fail
  exact bodyPost_ret (v := .slice none 0 0) (by simp [results, Tryz.results159, go_sem]) rfl ⟨_, rfl, OwnL.nil _ _ _ _, Below.refl _ _⟩
end Go.Proofs.YtbbmdbolkicpcaaGreatDoor
namespace Go.Proofs.YtbbmdbolkicpcaaGreatDoor
open Go.RowKit Go.Lib
def RdLs (w : World) (v : Value) (ls : List (List (Stp × (Option Addr × Nat)))) : Prop :=
 ∃ ao cp, v = .slice ao ls.length cp ∧ ∀ n (hn : n < ls.length), ∃ p o u, ao = some ⟨p, o, none⟩ ∧ p < w.heap.size ∧ w.cell? ⟨p, o + n, none⟩ = some u ∧ RdL encSt w u (ls[n]'hn)
theorem flat_take {α : Type} {ls : List (List α)} {k : Nat} (h : k < ls.length) : (ls.take (k + 1)).flatten = (ls.take k).flatten ++ (ls[k]'h) := by
 rw [List.take_succ_eq_append_getElem h, List.flatten_append]
 simp
theorem flat_take_le {α : Type} (ls : List (List α)) (k : Nat) : (ls.take k).flatten.length ≤ ls.flatten.length := by
 conv => rhs; rw [← List.take_append_drop k ls, List.flatten_append, List.length_append]
 omega
set_option maxRecDepth 100000 in
set_option maxHeartbeats 4000000 in
theorem concat_any (w : World) (va : Value) (ls : List (List (Stp × (Option Addr × Nat)))) (hr : RdLs w va ls) (hl : ls.length ≤ 1000000) (hs : ls.flatten.length ≤ 1000000000) :
  Calls Tryz.prog 113 #[va] w fun e w' => ∃ v, e = .returned v ∧ OwnL encSt 106 w' w.heap.size v ls.flatten ∧ Below w.heap.size w w' := by
 obtain ⟨ao, cp, rfl, hcell⟩ := hr
 have HCELL := hid hcell
 have HS := hid hs
 have hlz : (ls.length : Int) ≤ 1000000 := by omega
 have GR := hid (grow_any w ls.flatten.length hs)
 clear hcell hs
 go_enter Tryz.func113, Tryz.ntmps113
 go_upto_region 3 with fail
 go_loopg [3, 11] ls.length (fun g v3 v11 W => ∃ k : Nat, k ≤ ls.length ∧ ls.length ≤ k + g ∧ v3 = .int .i64 (ls.take k).flatten.length ∧ v11 = .int .i64 k ∧ W = w)
 case atStart => exact ⟨0, Nat.zero_le _, by omega, rfl, rfl, rfl⟩
 case round =>
  obtain ⟨k, hk, hg, rfl, rfl, rfl⟩ := hrel
  rename World => w
  have HG := hid hg
  clear hg
  by_cases hlt : k < ls.length
  ·have hni : (k : Int) < (ls.length : Int) := by omega
   have hn0 : (0 : Int) ≤ (k : Int) := by omega
   obtain ⟨p, o, u, rfl, hp, q0, hu⟩ := HCELL.out k hlt
   obtain ⟨a1, c1, rfl, _⟩ := hu.slice
   have HF := hid (congrArg List.length (flat_take hlt))
   have hle := flat_take_le ls (k + 1)
   rw [HF.out, List.length_append] at hle
   have hS0 : (0 : Int) ≤ ((ls.take k).flatten.length : Int) + ((ls[k]'hlt).length : Int) := by omega
   have hS1 : ((ls.take k).flatten.length : Int) + ((ls[k]'hlt).length : Int) ≤ 1000000000 := by have := HS.out; omega
   have HFI := hid (show ((ls.take (k + 1)).flatten.length : Int) = ((ls.take k).flatten.length : Int) + ((ls[k]'hlt).length : Int) by have := HF.out; rw [List.length_append] at this; omega)
   clear hle hu
   generalize (ls[k]'hlt).length = m at *
   generalize (ls.take k).flatten.length = S at *
   have hm0 : (0 : Int) ≤ (S : Int) := by omega
   have hm1 : (0 : Int) ≤ (m : Int) := by omega
   go_wp2_with fail
   go_roundg (gk - 1)
   case measure => have := HG.out; omega
   case rel => exact ⟨k + 1, by omega, by have := HG.out; omega, by rw [HFI.out], by simp, rfl⟩
  ·have hni : ¬ (k : Int) < (ls.length : Int) := by omega
   have hkn : k = ls.length := by omega
   subst hkn
   rw [List.take_length]
   obtain ⟨N, hN⟩ : ∃ N, N = ls.flatten.length := ⟨_, rfl⟩
   have hN0 : (0 : Int) ≤ (N : Int) := by omega
   have hN1 : (N : Int) ≤ 1000000000 := by have := HS.out; omega
   rw [← hN] at GR ⊢
   clear hN
   go_wp2_with (go_at_call 159; refine GR.out.mono ?_; rintro e w1 ⟨v1, rfl, o1, hb1⟩; have O1 := hid o1; have B1 := hid hb1; clear o1 hb1 GR)
   go_loopg [6, 27] ls.length (fun g v6 v27 W => ∃ k : Nat, k ≤ ls.length ∧ ls.length ≤ k + g ∧ v27 = .int .i64 k ∧ OwnL encSt 106 W w.heap.size v6 (ls.take k).flatten ∧ Below w.heap.size w W)
   case atStart => exact ⟨0, Nat.zero_le _, by omega, rfl, O1.out, B1.out⟩
   case round =>
    obtain ⟨k, hk2, hg2, rfl, o2, hb2⟩ := hrel
    rename World => w2
    have HG2 := hid hg2
    have O2 := hid o2
    have B2 := hid hb2
    clear hg2 o2 hb2 O1 B1
    by_cases hlt2 : k < ls.length
    ·have hni2 : (k : Int) < (ls.length : Int) := by omega
     have hn0 : (0 : Int) ≤ (k : Int) := by omega
     obtain ⟨p, o, u, rfl, hp, q0, hu⟩ := HCELL.out k hlt2
     have r0 := (B2.out.cell (p := ⟨p, o + k, none⟩) hp).trans q0
     have hp2 : p < w2.heap.size := Nat.lt_of_lt_of_le hp B2.out.size
     have HU := hid (hu.below B2.out)
     have HF := hid (flat_take hlt2)
     have hle := flat_take_le ls (k + 1)
     rw [HF.out, List.length_append] at hle
     have HLE := hid hle
     have HZ := hid B2.out.size
     obtain ⟨a1, c1, rfl, _⟩ := hu.slice
     clear hle hu q0
     go_wp2_with (at_builtin; refine wpList_appL (E := encSt) rfl (.tmp 31) (.tmp 32) rfl Tryz.underlying99 infoSt rfl (by decide) w.heap.size _ (ls.take k).flatten (ls[k]'hlt2) rfl O2.out rfl HU.out (by have := HLE.out; have := HS.out; unfold maxLen; omega) (by have := HLE.out; have := HS.out; omega) HZ.out ?_; intro v3 w3 own gr; have O3 := hid (show OwnL encSt 106 w3 w.heap.size v3 (ls.take (k + 1)).flatten by rw [HF.out]; exact own); have B3 := hid (B2.out.grown gr HZ.out (fun k hk => (World.ownsRow.lt O2.out k hk).1)); clear own gr)
     go_roundg (gk - 1)
     case measure => have := HG2.out; omega
     case rel => exact ⟨k + 1, by omega, by have := HG2.out; omega, by simp, O3.out, B3.out⟩
    ·have hni2 : ¬ (k : Int) < (ls.length : Int) := by omega
     have hkn : k = ls.length := by omega
     subst hkn
     have HO := hid (show OwnL encSt 106 w2 w.heap.size _ ls.flatten from by have := O2.out; rw [List.take_length] at this; exact this)
     go_wp2_with fail
     exact bodyPost_ret (by simp [results, Tryz.results113, go_sem]) rfl ⟨_, rfl, HO.out, B2.out⟩
end Go.Proofs.YtbbmdbolkicpcaaGreatDoor
namespace Go.Proofs.YtbbmdbolkicpcaaGreatDoor
open Go.RowKit Go.Lib
theorem join_any (w : World) (B : Nat) (v : Value) (l : List Str) (h : OwnS w B v l) (hl : l.length ≤ 1000) (hj : (Lib.join l [47]).length ≤ 140737488355328) :
  Calls Tryz.prog 116 #[v, .string ⟨#[47]⟩] w fun e w' => e = .returned (.string ⟨(Lib.join l [47]).toArray⟩) ∧ Below w.heap.size w w' := by
 have hx : (l.map (fun s : Str => (⟨s.toArray⟩ : ByteArray))).map (·.data.toList) = l := by
  rw [List.map_map]
  conv => rhs; rw [← List.map_id l]
  rfl
 have hlen : (l.map (fun s : Str => (⟨s.toArray⟩ : ByteArray))).length = l.length := List.length_map _
 rcases h.shape with ⟨rfl, rfl⟩ | ⟨g, cap, cur, rfl, hB, hg, hn, hm, hs, ht⟩
 ·refine (Tryz.strings_Join_none none 0 ⟨#[47]⟩ w).mono ?_
  rintro e w' ⟨rfl, rfl⟩
  exact ⟨rfl, Below.refl _ _⟩
 ·have := Tryz.strings_Join g 0 cap (l.map (fun s : Str => (⟨s.toArray⟩ : ByteArray))) ⟨#[47]⟩ w (fun j x hx => by
   rw [Nat.zero_add]
   rw [List.getElem?_map] at hx
   obtain ⟨s, hs2, rfl⟩ := Option.map_eq_some_iff.1 hx
   exact cells_at hg ht j _ (by rw [List.getElem?_map, hs2]; rfl)) (lt_of_block hg) (by rw [hlen]; omega) (by rw [hlen]; exact hn) (by rw [hx]; exact hj)
  rw [hx, hlen] at this
  exact this
def szS (m : List Stp) : Nat := (m.map (fun x => (textP x).length + 1)).sum
theorem szS_cons (x : Stp) (m : List Stp) : szS (x :: m) = (textP x).length + 1 + szS m := by simp [szS]
theorem szS_join : ∀ m : List Stp, m ≠ [] → szS m = (joinT m).length + 1
 | [], h => absurd rfl h
 | [x], _ => by simp [szS, joinT]
 | x :: y :: r, _ => by
  have ih := szS_join (y :: r) (by simp)
  rw [szS_cons, ih, join_cons x (by simp), List.length_append, List.length_cons]
  omega
theorem szS_append (a b : List Stp) : szS (a ++ b) = szS a + szS b := by simp [szS]
theorem szS_take {m : List Stp} {k : Nat} (h : k < m.length) : szS (m.take (k + 1)) = szS (m.take k) + ((textP (m[k]'h)).length + 1) := by
 rw [List.take_succ_eq_append_getElem h, szS_append]
 simp [szS]
theorem szS_take_le (m : List Stp) (k : Nat) : szS (m.take k) ≤ szS m := by
 conv => rhs; rw [← List.take_append_drop k m, szS_append]
 omega
theorem szS_513 {m : List Stp} (h : (joinT m).length ≤ 512) : szS m ≤ 513 := by
 by_cases e : m = []
 ·subst e; simp [szS]
 ·rw [szS_join m e]; omega
theorem join_texts : ∀ m : List Stp, Lib.join (m.map textP) [47] = joinT m
 | [] => rfl
 | [x] => by rw [List.map_cons, List.map_nil, Lib.join_one]; rfl
 | x :: y :: r => by
  have ih := join_texts (y :: r)
  rw [join_cons x (by simp), ← ih]
  rw [List.map_cons, Lib.join_cons, List.map_cons, Lib.join_cons]
  simp [Lib.joinTail]
theorem text_take {m : List Stp} {k : Nat} (h : k < m.length) : (m.take (k + 1)).map textP = (m.take k).map textP ++ [textP (m[k]'h)] := by
 rw [List.take_succ_eq_append_getElem h, List.map_append]
 rfl
theorem text_le {m : List Stp} {k : Nat} (h : k < m.length) : (textP (m[k]'h)).length ≤ szS m := by
 have h1 := szS_take h
 have h2 := szS_take_le m (k + 1)
 omega
theorem print_parts {m : List Stp} {t : Str} (h : printS m = some t) : (∀ x ∈ m, mayB x = true ∧ fitB x = true) ∧ m.length ≤ 64 ∧ (joinT m).length ≤ 512 ∧ t = joinT m := by
 unfold printS at h
 split at h
 ·next hc =>
  simp only [Bool.and_eq_true, List.all_eq_true, decide_eq_true_eq] at hc
  exact ⟨fun x hx => ⟨hc.1.1.1 x hx, hc.1.1.2 x hx⟩, hc.1.2, hc.2, (Option.some.inj h).symm⟩
 ·cases h
set_option maxRecDepth 100000 in
set_option maxHeartbeats 8000000 in
theorem pput_any (w : World) (va : Value) (ls : List (List (Stp × (Option Addr × Nat)))) (t : Str) (hr : RdLs w va ls) (hk : ∀ z ∈ ls.flatten, RdP w (keysV z) z.1.2) (hl : ls.length ≤ 1000000) (hp : printS (ls.flatten.map (·.1)) = some t) :
  Calls Tryz.prog 89 #[va] w fun e w' => e = .returned (.tuple #[.string ⟨t.toArray⟩, .int .i64 0]) ∧ Below w.heap.size w w' := by
 obtain ⟨hall, h64, h512, rfl⟩ := print_parts hp
 have CC := hid (concat_any w va ls hr hl (by rw [List.length_map] at h64; omega))
 have HK := hid hk
 have HALL := hid hall
 have H64 := hid h64
 have H512 := hid h512
 clear hr hk hall h64 h512 hp hl
 obtain ⟨zs, hzs⟩ : ∃ zs, zs = ls.flatten := ⟨_, rfl⟩
 rw [← hzs] at CC HK HALL H64 H512 ⊢
 clear hzs
 have HML := hid (show (zs.map (·.1)).length = zs.length from List.length_map _)
 have hzl : (zs.length : Int) ≤ 64 := by have h1 := H64.out; rw [HML.out] at h1; omega
 go_enter Tryz.func89, Tryz.ntmps89
 go_wp2_with (go_at_call 113; refine CC.out.mono ?_; rintro e w1 ⟨v1, rfl, o1, hb1⟩; have O1 := hid o1; have B1 := hid hb1; clear CC hb1; obtain ⟨a1, c1, rfl, hc1⟩ := o1.slice; clear o1)
 go_loopg [5, 6, 7, 20] zs.length (fun g v5 v6 v7 v20 W => ∃ k : Nat, k ≤ zs.length ∧ zs.length ≤ k + g ∧ v5 = .bool true ∧ v6 = .int .i64 (szS ((zs.map (·.1)).take k)) ∧ v20 = .int .i64 k ∧ OwnS W w.heap.size v7 (((zs.map (·.1)).take k).map textP) ∧ OwnL encSt 106 W w.heap.size (.slice a1 zs.length c1) zs ∧ Below w.heap.size w W)
 case atStart => exact ⟨0, Nat.zero_le _, by omega, rfl, rfl, rfl, ⟨rfl, Or.inl ⟨rfl, rfl⟩⟩, O1.out, B1.out⟩
 case round =>
  obtain ⟨k, hk, hg, rfl, rfl, rfl, os, oz, hb⟩ := hrel
  rename World => w2
  have HG := hid hg
  have OS := hid os
  have OZ := hid oz
  have B2 := hid hb
  clear hg os oz hb O1 B1
  have HS2 := hid (Nat.le_trans (szS_take_le (zs.map (·.1)) k) (szS_513 H512.out))
  by_cases hlt : k < zs.length
  ·have hni : (k : Int) < (zs.length : Int) := by omega
   have hn0 : (0 : Int) ≤ (k : Int) := by omega
   have hltm : k < (zs.map (·.1)).length := by rw [HML.out]; exact hlt
   have hmk : (zs.map (·.1))[k]'hltm = (zs[k]'hlt).1 := List.getElem_map _
   have HST := hid (szS_take hltm)
   have HTT := hid (text_take hltm)
   have HTL := hid (Nat.le_trans (text_le hltm) (szS_513 H512.out))
   have HSX := hid (Nat.le_trans (szS_take_le (zs.map (·.1)) (k + 1)) (szS_513 H512.out))
   have HMB := hid (HALL.out ((zs.map (·.1))[k]'hltm) (List.getElem_mem hltm))
   have hkeys := HK.out (zs[k]'hlt) (List.getElem_mem hlt)
   rw [hmk] at HST HTT HTL HMB
   obtain ⟨g, rfl⟩ := OwnL.some' OZ.out (by intro e; rw [e] at hlt; simp at hlt)
   obtain ⟨r0, _, gl⟩ := OZ.out.cell k 0 (.string ⟨((zs[k]'hlt).1.1).toArray⟩) hlt rfl
   obtain ⟨r1, _, _⟩ := OZ.out.cell k 1 (keysV (zs[k]'hlt)) hlt rfl
   rw [Nat.add_zero] at r0
   generalize zs[k]'hlt = z at *
   obtain ⟨⟨nm, ks⟩, az, cz⟩ := z
   simp only [keysV] at r0 r1 hkeys HST HTT HTL HMB
   have HA5 := hid (show Below w2.heap.size w2 (w2.alloc (.cells #[.string ⟨nm.toArray⟩, .slice az ks.length cz] 106)) from (Below.refl _ _).alloc (Nat.le_refl _) _)
   have F5 := hid (heap_alloc_new w2 (.cells #[.string ⟨nm.toArray⟩, .slice az ks.length cz] 106))
   clear hmk
   go_upto_region 8 with fail
   generalize w2.alloc (.cells #[.string ⟨nm.toArray⟩, .slice az ks.length cz] 106) = w5 at *
   obtain ⟨y0, y1, _, _, yl⟩ := box2_cells F5.out
   have B5 := hid (B2.out.then HA5.out)
   have OS5 := hid (show OwnS w5 w.heap.size _ _ from own_below OS.out HA5.out)
   have OZ5 := hid (OZ.out.below HA5.out)
   have RK5 := hid (show RdP w5 (.slice az ks.length cz) ks from hkeys.below B5.out)
   clear HA5 OS OZ B2 hkeys r0 r1 gl
   generalize w2.heap.size = Sb at *
   have MY := hid (pmay_any w5 (nm, ks) (.slice az ks.length cz) RK5.out HMB.out.1 (by have := HTL.out; omega))
   rw [HMB.out.2] at MY
   go_wp2_with fail
   refine MY.out.mono ?_
   rintro e w6 ⟨rfl, hb6⟩
   have F6 := hid ((hb6.block _ (lt_of_block F5.out)).trans F5.out)
   have B6 := hid (B5.out.then hb6)
   have OS6 := hid (show OwnS w6 w.heap.size _ _ from own_below OS5.out hb6)
   have OZ6 := hid (OZ5.out.below hb6)
   have RK6 := hid (RK5.out.below hb6)
   clear hb6 y0 y1 yl F5 B5 OS5 OZ5 RK5 MY
   obtain ⟨y0, y1, _, _, yl⟩ := box2_cells F6.out
   have TX := hid (ptext_any w6 (nm, ks) (.slice az ks.length cz) RK6.out (by have := HTL.out; omega))
   go_wp2_with fail
   refine TX.out.mono ?_
   rintro e w7 ⟨rfl, hb7⟩
   have B7 := hid (B6.out.then hb7)
   have OS7 := hid (show OwnS w7 w.heap.size _ _ from own_below OS6.out hb7)
   have OZ7 := hid (OZ6.out.below hb7)
   clear hb7 y0 y1 yl F6 B6 OS6 OZ6 RK6 TX
   have HSI := hid (show (szS ((zs.map (·.1)).take (k + 1)) : Int) = (szS ((zs.map (·.1)).take k) : Int) + (((textP (nm, ks)).length : Int) + 1) by have := HST.out; omega)
   have HTK := hid (show (((zs.map (·.1)).take k).map textP).length ≤ 64 by have h1 := H64.out; rw [List.length_map, List.length_take]; omega)
   generalize htx : textP (nm, ks) = tx at *
   generalize szS ((zs.map (·.1)).take k) = S at *
   generalize ((zs.map (·.1)).take k).map textP = T at *
   have hS1 : (S : Int) ≤ 513 := by have := HS2.out; omega
   have hS0 : (0 : Int) ≤ (S : Int) := by omega
   have htx1 : (tx.length : Int) ≤ 513 := by have := HTL.out; omega
   have htx0 : (0 : Int) ≤ (tx.length : Int) := by omega
   have HZ7 := hid B7.out.size
   have HAB := hid (show Below w7.heap.size w7 (w7.alloc (.cells #[.string ⟨tx.toArray⟩] 9)) from (Below.refl _ _).alloc (Nat.le_refl _) _)
   go_wp2_with (at_builtin; refine wpList_pushS rfl (.tmp 39) (.tmp 41) rfl w.heap.size _ T tx rfl OS7.out rfl (by have := HTK.out; omega) HZ7.out ?_; intro v8 w8 own gr mv; have OS8 := hid (show OwnS w8 w.heap.size v8 (T ++ [tx]) from own); have OZ8 := hid (show OwnL encSt 106 w8 w.heap.size _ zs from World.ownsRow.kept OZ7.out gr (ne_kinds OZ7.out OS7.out (by decide))); have B8 := hid (B7.out.grown gr HZ7.out (fun k hk => (World.ownsRow.lt OS7.out k hk).1)); clear own gr mv)
   go_wp2_with fail
   go_roundg (gk - 1)
   case measure => have := HG.out; omega
   case rel => exact ⟨k + 1, by omega, by have := HG.out; omega, rfl, by rw [HSI.out], by simp, by rw [HTT.out]; exact OS8.out, OZ8.out, B8.out⟩
  ·have hni : ¬ (k : Int) < (zs.length : Int) := by omega
   have hkn : k = zs.length := by omega
   have HTA := hid (show (zs.map (·.1)).take k = zs.map (·.1) by rw [hkn, ← HML.out]; exact List.take_length)
   rw [HTA.out] at OS HS2 ⊢
   have JN := hid (join_any w2 w.heap.size _ _ OS.out (by have h1 := H64.out; rw [List.length_map]; omega) (by rw [join_texts]; have := H512.out; omega))
   rw [join_texts] at JN
   generalize szS (zs.map (·.1)) = S at *
   have hS1 : (S : Int) ≤ 513 := by have := HS2.out; omega
   have hS0 : (0 : Int) ≤ (S : Int) := by omega
   have hS2 : (S : Int) - 1 ≤ 512 := by omega
   go_wp2_with (go_at_call 116; refine JN.out.mono ?_; rintro e w9 ⟨rfl, hb9⟩; have B9 := hid (B2.out.then hb9); clear hb9)
   exact bodyPost_ret (by simp [results, Tryz.results89, go_sem]) rfl ⟨rfl, B9.out⟩
end Go.Proofs.YtbbmdbolkicpcaaGreatDoor
namespace Go.Proofs.YtbbmdbolkicpcaaGreatDoor
open Go.RowKit Go.Lib
theorem RdSt.cells {w : World} {v : Value} {l : List Stp} (h : RdSt w v l) : ∃ ao cp, v = .slice ao l.length cp ∧ l.length ≤ cp ∧ l.length ≤ 9223372036854775807 ∧ ∀ n (hn : n < l.length), ∃ p o kv, ao = some ⟨p, o, none⟩ ∧ p < w.heap.size ∧
  w.cell? ⟨p, o + n * 2, none⟩ = some (.string ⟨(l[n]'hn).1.toArray⟩) ∧ w.cell? ⟨p, o + n * 2 + 1, none⟩ = some kv ∧ RdP w kv (l[n]'hn).2 := by
 obtain ⟨zs, rfl, ⟨ao, cp, rfl, ⟨h1, h2, h3⟩, hc⟩, hk⟩ := h
 have hlen : (zs.map (·.1)).length = zs.length := List.length_map _
 refine ⟨ao, cp, by rw [hlen], by rw [hlen]; exact h1, by rw [hlen]; exact h2, fun n hn0 => ?_⟩
 have hn : n < zs.length := by rw [← hlen]; exact hn0
 obtain ⟨p, o, ha, hp, hx⟩ := hc (by rintro rfl; simp at hn)
 have := hk (zs[n]'hn) (List.getElem_mem hn)
 refine ⟨p, o, keysV (zs[n]'hn), ha, hp, ?_, ?_, ?_⟩
 ·rw [List.getElem_map]; exact hx n 0 _ hn rfl
 ·exact hx n 1 _ hn rfl
 ·rw [List.getElem_map]; exact this
set_option maxRecDepth 100000 in
set_option maxHeartbeats 4000000 in
theorem rest1_any (w : World) (x y : Stp) (kx ky : Value) (hx : RdP w kx x.2) (hy : RdP w ky y.2) :
  Calls Tryz.prog 105 #[.agg #[.string ⟨x.1.toArray⟩, kx], .agg #[.string ⟨y.1.toArray⟩, ky]] w fun e w' => e = .returned (.bool (decide (x = y))) ∧ Below w.heap.size w w' := by
 obtain ⟨n, ks⟩ := x
 obtain ⟨m, js⟩ := y
 simp only at hx hy ⊢
 have HX := hid hx
 have HY := hid hy
 obtain ⟨a1, c1, rfl, _⟩ := rdP_cells hx
 obtain ⟨a2, c2, rfl, _⟩ := rdP_cells hy
 have HB2 := hid (show Below w.heap.size w ((w.alloc (.cells #[.string ⟨n.toArray⟩, .slice a1 ks.length c1] 106)).alloc (.cells #[.string ⟨m.toArray⟩, .slice a2 js.length c2] 106)) from below2 w _ _)
 have G2 := hid (show ((w.alloc (.cells #[.string ⟨n.toArray⟩, .slice a1 ks.length c1] 106)).alloc (.cells #[.string ⟨m.toArray⟩, .slice a2 js.length c2] 106)).heap[w.heap.size]? = some (.cells #[.string ⟨n.toArray⟩, .slice a1 ks.length c1] 106 (0, 0)) from (Below.heap_alloc _ _ _ (lt_of_block (heap_alloc_new w _))).trans (heap_alloc_new w _))
 have F2 := hid (show ((w.alloc (.cells #[.string ⟨n.toArray⟩, .slice a1 ks.length c1] 106)).alloc (.cells #[.string ⟨m.toArray⟩, .slice a2 js.length c2] 106)).heap[w.heap.size + 1]? = some (.cells #[.string ⟨m.toArray⟩, .slice a2 js.length c2] 106 (0, 0)) from by
  have := heap_alloc_new (w.alloc (.cells #[.string ⟨n.toArray⟩, .slice a1 ks.length c1] 106)) (.cells #[.string ⟨m.toArray⟩, .slice a2 js.length c2] 106)
  rw [show (w.alloc (.cells #[.string ⟨n.toArray⟩, .slice a1 ks.length c1] 106)).heap.size = w.heap.size + 1 by simp] at this
  exact this)
 clear hx hy
 go_enter Tryz.func105, Tryz.ntmps105
 go_upto_region 1 with fail
 generalize (w.alloc (.cells #[.string ⟨n.toArray⟩, .slice a1 ks.length c1] 106)).alloc (.cells #[.string ⟨m.toArray⟩, .slice a2 js.length c2] 106) = w2 at *
 have EQ := hid (eqP_any w2 _ _ ks js (HX.out.below HB2.out) (HY.out.below HB2.out))
 clear HX HY
 obtain ⟨x0, x1, _, _, xl⟩ := box2_cells G2.out
 obtain ⟨y0, y1, _, _, yl⟩ := box2_cells F2.out
 by_cases hnm : n = m
 ·have hb : (n == m) = true := by rw [hnm]; exact beq_self_eq_true _
  have hsub := hid hnm
  have HD := hid (show decide (ks = js) = decide ((n, ks) = (m, js)) by subst hnm; simp)
  clear hnm
  go_wp2_with (go_at_call 106; refine EQ.out.mono ?_; rintro e w3 ⟨rfl, hb3⟩; have B3 := hid (HB2.out.then hb3); clear hb3)
  exact bodyPost_ret (v := .bool (decide (ks = js))) (by simp [results, Tryz.results105, go_sem]) rfl ⟨by rw [HD.out], B3.out⟩
 ·have hb : (n == m) = false := beq_eq_false_iff_ne.2 hnm
  have HD := hid (show decide ((n, ks) = (m, js)) = false from decide_eq_false (fun e => hnm (Prod.mk.inj e).1))
  go_wp2_with fail
  exact bodyPost_ret (v := .bool false) (by simp [results, Tryz.results105, go_sem]) rfl ⟨by rw [HD.out], HB2.out⟩
set_option maxRecDepth 100000 in
set_option maxHeartbeats 4000000 in
theorem eqFunc_any (w : World) (v1 v2 : Value) (l m : List Stp) (h1 : RdSt w v1 l) (h2 : RdSt w v2 m) (hl : l.length = m.length) (h64 : m.length ≤ 1000) :
  Calls Tryz.prog 104 #[v1, v2, .func (.func 105) #[] #[]] w fun e w' => e = .returned (.bool (decide (l = m))) ∧ Below w.heap.size w w' := by
 obtain ⟨a1, c1, rfl, _, _, hc1⟩ := h1.cells
 obtain ⟨a2, c2, rfl, _, _, hc2⟩ := h2.cells
 have HC1 := hid hc1
 have HC2 := hid hc2
 have HL := hid hl
 clear hc1 hc2 h1 h2
 have hlz : (m.length : Int) ≤ 1000 := by omega
 rw [hl]
 have hne : ((m.length : Int) != (m.length : Int)) = false := by simp
 go_enter Tryz.func104, Tryz.ntmps104
 go_wp2_with fail
 go_loopg [17] m.length (fun g v17 W => ∃ k : Nat, k ≤ m.length ∧ m.length ≤ k + g ∧ v17 = .int .i64 k ∧ l.take k = m.take k ∧ Below w.heap.size w W)
 case atStart => exact ⟨0, Nat.zero_le _, by omega, rfl, rfl, Below.refl _ _⟩
 case round =>
  obtain ⟨k, hk, hg, rfl, heq, hb⟩ := hrel
  rename World => w2
  have HG := hid hg
  have HE := hid heq
  have B2 := hid hb
  clear hg heq hb
  by_cases hlt : k < l.length
  ·have hni2 : (k : Int) < (m.length : Int) := by omega
   have hn0 : (0 : Int) ≤ (k : Int) := by omega
   have hltm : k < m.length := by omega
   obtain ⟨p, o, kx, rfl, hp, q0, q1, hx⟩ := HC1.out k hlt
   obtain ⟨p', o', ky, rfl, hp', s0, s1, hy⟩ := HC2.out k hltm
   have r0 := (B2.out.cell (p := ⟨p, o + k * 2, none⟩) hp).trans q0
   have r1 := (B2.out.cell (p := ⟨p, o + k * 2 + 1, none⟩) hp).trans q1
   have hp2 : p < w2.heap.size := Nat.lt_of_lt_of_le hp B2.out.size
   have HX := hid (hx.below B2.out)
   have HTL := hid (List.take_succ_eq_append_getElem hlt)
   have HTM := hid (List.take_succ_eq_append_getElem hltm)
   have HEX := hid (show l = m → l[k]'hlt = m[k]'hltm from fun e => by subst e; rfl)
   generalize l[k]'hlt = x at *
   generalize m[k]'hltm = y at *
   obtain ⟨n, ks⟩ := x
   obtain ⟨n', js⟩ := y
   simp only at r0 r1 s0 s1 HX hy
   have HA3 := hid (show Below w2.heap.size w2 (w2.alloc (.cells #[.string ⟨n.toArray⟩, kx] 106)) from (Below.refl _ _).alloc (Nat.le_refl _) _)
   have F3 := hid (heap_alloc_new w2 (.cells #[.string ⟨n.toArray⟩, kx] 106))
   obtain ⟨ax, cx, rfl, _⟩ := rdP_cells hx
   obtain ⟨ay, cy, rfl, _⟩ := rdP_cells hy
   go_upto_region 6 with fail
   generalize w2.alloc (.cells #[.string ⟨n.toArray⟩, .slice ax ks.length cx] 106) = w3 at *
   have B3 := hid (B2.out.then HA3.out)
   have t0 := (B3.out.cell (p := ⟨p', o' + k * 2, none⟩) hp').trans s0
   have t1 := (B3.out.cell (p := ⟨p', o' + k * 2 + 1, none⟩) hp').trans s1
   have hp3 : p' < w3.heap.size := Nat.lt_of_lt_of_le hp' B3.out.size
   have HA4 := hid (show Below w3.heap.size w3 (w3.alloc (.cells #[.string ⟨n'.toArray⟩, .slice ay js.length cy] 106)) from (Below.refl _ _).alloc (Nat.le_refl _) _)
   have F4 := hid (heap_alloc_new w3 (.cells #[.string ⟨n'.toArray⟩, .slice ay js.length cy] 106))
   clear r0 r1 q0 q1 s0 s1 hp hp2
   go_upto_region 7 with fail
   generalize w3.alloc (.cells #[.string ⟨n'.toArray⟩, .slice ay js.length cy] 106) = w4 at *
   have G4 := hid ((HA4.out.block _ (lt_of_block F3.out)).trans F3.out)
   have B4 := hid (B3.out.then HA4.out)
   have HX4 := hid ((HX.out.below HA3.out).below HA4.out)
   have HY4 := hid (hy.below B4.out)
   clear t0 t1 hp3 hp' HX hx hy F3 HA3 HA4 B2 B3
   generalize w2.heap.size = Xb at *
   generalize w3.heap.size = Yb at *
   obtain ⟨x0, x1, _, _, xl⟩ := box2_cells G4.out
   obtain ⟨y0, y1, _, _, yl⟩ := box2_cells F4.out
   have R1 := hid (rest1_any w4 (n, ks) (n', js) _ _ HX4.out HY4.out)
   by_cases hxy : (n, ks) = (n', js)
   ·rw [decide_eq_true hxy] at R1
    have HXY := hid hxy
    clear hxy
    go_wp2_with (go_at_call 105; refine R1.out.mono ?_; rintro e w5 ⟨rfl, hb5⟩; have B5 := hid (B4.out.then hb5); clear hb5)
    go_roundg (gk - 1)
    case measure => have := HG.out; omega
    case rel => exact ⟨k + 1, by omega, by have := HG.out; omega, by simp, by rw [HTL.out, HTM.out, HE.out, HXY.out], B5.out⟩
   ·rw [decide_eq_false hxy] at R1
    have HD := hid (show decide (l = m) = false from decide_eq_false (fun e => hxy (HEX.out e)))
    clear hxy
    go_wp2_with (go_at_call 105; refine R1.out.mono ?_; rintro e w5 ⟨rfl, hb5⟩; have B5 := hid (B4.out.then hb5); clear hb5)
    exact bodyPost_ret (v := .bool false) (by simp [results, Tryz.results104, go_sem]) rfl ⟨by rw [HD.out], B5.out⟩
  ·have hni : ¬ (k : Int) < (m.length : Int) := by omega
   have HD := hid (show decide (l = m) = true from decide_eq_true (by
    have h := HE.out
    rw [List.take_of_length_le (by omega), List.take_of_length_le (by omega)] at h
    exact h))
   go_wp2_with fail
   exact bodyPost_ret (v := .bool true) (by simp [results, Tryz.results104, go_sem]) rfl ⟨by rw [HD.out], B2.out⟩
end Go.Proofs.YtbbmdbolkicpcaaGreatDoor
