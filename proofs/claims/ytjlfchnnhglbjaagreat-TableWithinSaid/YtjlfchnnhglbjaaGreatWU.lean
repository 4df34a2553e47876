/- RRestA, RRestB, RRestC, RRestD, RRestE, RRestF -/
import Derived.Test.YtjlfchnnhglbjaaGreatWT
import Derived.Test.YtjlfchnnhglbjaaGreatWC
import Derived.BigQuiet
import Derived.Test.YtjlfchnnhglbjaaGreatWP
set_option linter.unusedVariables false
set_option linter.unusedSimpArgs false
namespace Go.Proofs.YtjlfchnnhglbjaaGreat
open Go.RowKit Go.Lib
theorem cat2 (a b : Str) : (⟨a.toArray⟩ : ByteArray) ++ ⟨b.toArray⟩ = ⟨(a ++ b).toArray⟩ := by
 apply ByteArray.ext
 simp
theorem one_byte {v : Str} {m : Nat} (h : m < v.length) : (⟨v.toArray⟩ : ByteArray).extract m (m + 1) = ⟨[v[m]'h].toArray⟩ := by
 apply ByteArray.ext
 rw [ByteArray.data_extract]
 apply Array.ext'
 rw [Array.toList_extract, List.extract_eq_take_drop, Nat.add_sub_cancel_left, List.drop_eq_getElem_cons h]
 rfl
set_option maxRecDepth 100000 in
set_option maxHeartbeats 4000000 in
theorem rdress_any (v : Str) (w : World) (hs : (dressV v).length ≤ 140737488355328) :
  Calls Tryz.prog 69 #[.string ⟨v.toArray⟩] w fun e w' => e = .returned (.string ⟨(dressV v).toArray⟩) ∧ w' = w := by
 have IX := hid (fun (c : UInt8) W => (show Calls Tryz.prog 97 #[.string ⟨#[91, 93, 47, 61, 92]⟩, .int .u8 (c.toNat : Int)] W fun e w' => ∃ ix : Int, e = .returned (.int .i64 ix) ∧ decide ((0 : Int) ≤ ix) = specB c ∧ w' = W from by
  have h := Tryz.strings_IndexByte ⟨#[91, 93, 47, 61, 92]⟩ (c.toNat : Int) W
  rw [show ((c.toNat : Int)).toNat.toUInt8 = c by simp] at h
  exact h.mono (by rintro e w' ⟨rfl, rfl⟩; exact ⟨_, rfl, idx_spec c, rfl⟩)))
 have HS := hid hs
 have hvl := dress_len v
 have hvz : (v.length : Int) ≤ 140737488355328 := by omega
 have hsz : (⟨v.toArray⟩ : ByteArray).size = v.length := Lib.size_eq _
 clear hs hvl
 go_enter Tryz.func69, Tryz.ntmps69
 go_wp2_with fail
 go_loopg [3, 4] v.length (fun g v3 v4 W => ∃ m : Nat, m ≤ v.length ∧ v.length ≤ m + g ∧ v3 = .string ⟨(dressV (v.take m)).toArray⟩ ∧ v4 = .int .i64 m ∧ W = w)
 case atStart => exact ⟨0, Nat.zero_le _, by omega, rfl, rfl, rfl⟩
 case round =>
  obtain ⟨m, hm, hg, rfl, rfl, rfl⟩ := hrel
  rename World => w
  have HG := hid hg
  clear hg
  by_cases hlt : m < v.length
  ·have hmi : (m : Int) < (v.length : Int) := by omega
   have hm0 : (0 : Int) ≤ (m : Int) := by omega
   have HDS := hid (dress_step hlt)
   have hby : ∀ h, (⟨v.toArray⟩ : ByteArray)[m]'h = v[m]'hlt := fun h => rfl
   have hex := one_byte hlt
   have hle : (dressV (v.take m)).length + 2 ≤ 140737488355328 + 2 := by
    have h2 : dressV v = dressV (v.take m) ++ dressV (v.drop m) := by rw [← dress_append, List.take_append_drop]
    have := HS.out
    rw [h2, List.length_append] at this
    omega
   have hdz : ((dressV (v.take m)).length : Int) ≤ 140737488355328 := by omega
   generalize v[m]'hlt = c at *
   cases hc : specB c with
   | true =>
    rw [hc] at HDS
    have HSC := hid hc
    clear hc
    go_wp2_with fail
    refine (IX.out c w).mono ?_
    rintro e w8 ⟨ix, rfl, hix, rfl⟩
    rw [HSC.out] at hix
    have hix2 : (0 : Int) ≤ ix := of_decide_eq_true hix
    clear hix
    go_wp2_with fail
    go_roundg (gk - 1)
    case measure => have := HG.out; omega
    case rel => exact ⟨m + 1, by omega, by have := HG.out; omega, by rw [HDS.out]; simp [cat2], by simp, rfl⟩
   | false =>
    rw [hc] at HDS
    have HSC := hid hc
    clear hc
    go_wp2_with fail
    refine (IX.out c w).mono ?_
    rintro e w8 ⟨ix, rfl, hix, rfl⟩
    rw [HSC.out] at hix
    have hix2 : ¬ (0 : Int) ≤ ix := of_decide_eq_false hix
    clear hix
    go_wp2_with fail
    go_roundg (gk - 1)
    case measure => have := HG.out; omega
    case rel => exact ⟨m + 1, by omega, by have := HG.out; omega, by rw [HDS.out]; simp [cat2], by simp, rfl⟩
  ·have hmi : ¬ (m : Int) < (v.length : Int) := by omega
   have HF := hid (show dressV (v.take m) = dressV v by rw [List.take_of_length_le (by omega)])
   go_wp2_with fail
   exact bodyPost_ret (v := .string ⟨(dressV (v.take m)).toArray⟩) (by simp [results, Tryz.results69, go_sem]) rfl ⟨by rw [HF.out], rfl⟩
end Go.Proofs.YtjlfchnnhglbjaaGreat
namespace Go.Proofs.YtjlfchnnhglbjaaGreat
open Go.RowKit Go.Lib
set_option maxRecDepth 100000 in
set_option maxHeartbeats 4000000 in
theorem rtext_any (w : World) (x : Stp) (kv : Value) (hr : RdP w kv x.2) (hs : (textP x).length ≤ 140737488355328) :
  Calls Tryz.prog 49 #[.agg #[.string ⟨x.1.toArray⟩, kv]] w fun e w' => e = .returned (.string ⟨(textP x).toArray⟩) ∧ Below w.heap.size w w' := by
 obtain ⟨n, ks⟩ := x
 obtain ⟨ao, cp, rfl, h63, hcell⟩ := rdP_cells hr
 simp only at hcell h63 hs ⊢
 have HCELL := hid hcell
 have HS := hid hs
 have HB1 := hid (show Below w.heap.size w (w.alloc (.cells #[.string ⟨n.toArray⟩, .slice ao ks.length cp] 104)) from (Below.refl _ _).alloc (Nat.le_refl _) _)
 have F1 := hid (heap_alloc_new w (.cells #[.string ⟨n.toArray⟩, .slice ao ks.length cp] 104))
 clear hr hcell hs
 go_enter Tryz.func49, Tryz.ntmps49
 go_upto_region 1 with fail
 generalize w.alloc (.cells #[.string ⟨n.toArray⟩, .slice ao ks.length cp] 104) = w1 at *
 obtain ⟨s0, s1, _, _, sl⟩ := box2_cells F1.out
 go_wp2_with fail
 go_loopg [3, 11] ks.length (fun g v3 v11 W => ∃ k : Nat, k ≤ ks.length ∧ ks.length ≤ k + g ∧ v3 = .string ⟨(n ++ keysT (ks.take k)).toArray⟩ ∧ v11 = .int .i64 k ∧ Below w.heap.size w W)
 case atStart => exact ⟨0, Nat.zero_le _, by omega, by simp [keysT], rfl, HB1.out⟩
 case round =>
  obtain ⟨k, hk, hg, rfl, rfl, bb⟩ := hrel
  rename World => w4
  have HG := hid hg
  have B4 := hid bb
  clear hg bb HB1 F1 s0 s1 sl
  by_cases hlt : k < ks.length
  ·have hni : (k : Int) < (ks.length : Int) := by omega
   have hn0 : (0 : Int) ≤ (k : Int) := by omega
   obtain ⟨p, o, rfl, hp, q0, q1⟩ := HCELL.out k hlt
   have r0 := (B4.out.cell (p := ⟨p, o + k * 2, none⟩) hp).trans q0
   have r1 := (B4.out.cell (p := ⟨p, o + k * 2 + 1, none⟩) hp).trans q1
   have hp2 : p < w4.heap.size := Nat.lt_of_lt_of_le hp B4.out.size
   have HKT := hid (keysT_step hlt)
   have HTOT := hid (show (n ++ keysT (ks.take (k + 1))).length ≤ 140737488355328 by
    have h1 : keysT ks = keysT (ks.take (k + 1)) ++ keysT (ks.drop (k + 1)) := by
     unfold keysT
     rw [← List.flatMap_append, List.take_append_drop]
    have := HS.out
    unfold textP at this
    rw [h1] at this
    simp only [List.length_append] at this ⊢
    omega)
   clear q0 q1
   generalize ks[k]'hlt = kv at *
   obtain ⟨ky, v⟩ := kv
   simp only at r0 r1 HKT
   rw [HKT.out] at HTOT
   have htz := HTOT.out
   simp only [keyT, List.length_append, List.length_cons, List.length_nil] at htz
   obtain ⟨pre, hpre⟩ : ∃ pre, pre = n ++ keysT (ks.take k) := ⟨_, rfl⟩
   have hprl : pre.length = n.length + (keysT (ks.take k)).length := by rw [hpre, List.length_append]
   have HPRE := hid (show n ++ keysT (ks.take (k + 1)) = pre ++ keyT (ky, v) by rw [hpre, HKT.out, List.append_assoc])
   rw [← hpre]
   have hz1 : (pre.length : Int) + (ky.length : Int) + ((dressV v).length : Int) + 3 ≤ 140737488355328 := by omega
   have DR := hid (fun W => rdress_any v W (by omega))
   clear hpre htz hprl HTOT HKT
   have HA5 := hid (show Below w4.heap.size w4 (w4.alloc (.cells #[.string ⟨ky.toArray⟩, .string ⟨v.toArray⟩] 48)) from (Below.refl _ _).alloc (Nat.le_refl _) _)
   have F5 := hid (heap_alloc_new w4 (.cells #[.string ⟨ky.toArray⟩, .string ⟨v.toArray⟩] 48))
   go_upto_region 5 with fail
   generalize w4.alloc (.cells #[.string ⟨ky.toArray⟩, .string ⟨v.toArray⟩] 48) = w5 at *
   have B5 := hid (B4.out.then HA5.out)
   obtain ⟨y0, y1, _, _, yl⟩ := box2_cells F5.out
   clear r0 r1 hp2
   go_quiet ((go_at_call 69; exact Calls.quiet_of_same (DR.out _)))
   go_wp2_with fail
   go_roundg (gk - 1)
   case measure => have := HG.out; omega
   case rel => exact ⟨k + 1, by omega, by have := HG.out; omega, by rw [HPRE.out]; simp [cat2, keyT], by simp, below_drewN B5.out _⟩
  ·have hni : ¬ (k : Int) < (ks.length : Int) := by omega
   have HF := hid (show n ++ keysT (ks.take k) = textP (n, ks) by rw [List.take_of_length_le (by omega)]; rfl)
   go_wp2_with fail
   exact bodyPost_ret (v := .string ⟨(n ++ keysT (ks.take k)).toArray⟩) (by simp [results, Tryz.results49, go_sem]) rfl ⟨by rw [HF.out], B4.out⟩
end Go.Proofs.YtjlfchnnhglbjaaGreat
namespace Go.Proofs.YtjlfchnnhglbjaaGreat
open Go.RowKit Go.Lib
theorem name_get {s : Str} (h : nameOk s = true) : (∀ k (hk : k < s.length), nameB (s[k]'hk) = true ∧ (k = 0 → startB (s[k]'hk) = true)) := by
 intro k hk
 simp only [nameOk, Bool.and_eq_true, List.all_eq_true] at h
 refine ⟨h.2 _ (List.getElem_mem hk), ?_⟩
 rintro rfl
 cases s with
 | nil => simp at hk
 | cons c t => exact h.1
set_option maxRecDepth 100000 in
set_option maxHeartbeats 4000000 in
theorem rname02_any (s : Str) (w : World) (hs : s.length ≤ 140737488355328) (h : nameOk s = true) : Calls Tryz.prog 98 #[.string ⟨s.toArray⟩] w fun e w' => e = .returned (.bool true) ∧ w' = w := by
 have HG := hid (name_get h)
 have hne : s ≠ [] := nameOk_ne h
 have ST := hid (fun c W => r02start_any c W)
 have BY := hid (fun c W => r02byte_any c W)
 have hsz : (⟨s.toArray⟩ : ByteArray).size = s.length := Lib.size_eq _
 have hzi : (s.length : Int) ≤ 140737488355328 := by omega
 have hpos : (0 : Int) < (s.length : Int) := by have := List.length_pos_iff.2 hne; omega
 have HNE := hid hne
 clear h hs hne
 go_enter Tryz.func98, Tryz.ntmps98
 go_wp2_with fail
 go_loopg [3] s.length (fun g v3 W => ∃ k : Nat, k ≤ s.length ∧ s.length ≤ k + g ∧ v3 = .int .i64 k ∧ W = w)
 case atStart => exact ⟨0, Nat.zero_le _, by omega, rfl, rfl⟩
 case round =>
  obtain ⟨k, hk, hg, rfl, rfl⟩ := hrel
  rename World => w
  have HGK := hid hg
  clear hg
  by_cases hlt : k < s.length
  ·have hki : (k : Int) < (s.length : Int) := by omega
   have hk0 : (0 : Int) ≤ (k : Int) := by omega
   obtain ⟨g1, g2⟩ := HG.out k hlt
   have hby : ∀ h, (⟨s.toArray⟩ : ByteArray)[k]'h = s[k]'hlt := fun h => rfl
   generalize s[k]'hlt = c at *
   by_cases h0 : k = 0
   ·have hz : (k : Int) = 0 := by omega
    have SC := hid (ST.out c w)
    have BC := hid (BY.out c w)
    rw [g2 h0] at SC
    rw [g1] at BC
    clear g1 g2
    subst h0
    go_wp2_with (first
     | (go_at_call 149; refine SC.out.mono ?_; rintro e w' ⟨rfl, rfl⟩)
     | (go_at_call 150; refine BC.out.mono ?_; rintro e w' ⟨rfl, rfl⟩))
    go_roundg (gk - 1)
    case measure => have := HGK.out; omega
    case rel => exact ⟨0 + 1, by omega, by have := HGK.out; omega, rfl, rfl⟩
   ·have hz : ((k : Int) == 0) = false := by rw [beq_eq_false_iff_ne]; omega
    have BC := hid (BY.out c w)
    rw [g1] at BC
    clear g1 g2
    go_wp2_with (go_at_call 150; refine BC.out.mono ?_; rintro e w' ⟨rfl, rfl⟩)
    go_roundg (gk - 1)
    case measure => have := HGK.out; omega
    case rel => exact ⟨k + 1, by omega, by have := HGK.out; omega, by simp, rfl⟩
  ·have hki : ¬ (k : Int) < (s.length : Int) := by omega
   have hne2 := HNE.out
   go_wp2_with fail
   exact bodyPost_ret (v := .bool true) (by simp [results, Tryz.results98, go_sem, hne2]) rfl ⟨rfl, rfl⟩
set_option maxHeartbeats 4000000 in
theorem rright_any (s : Str) (w : World) (hs : s.length ≤ 140737488355328) (h : utfB s = true) : Calls Tryz.prog 99 #[.string ⟨s.toArray⟩] w fun e w' => e = .returned (.bool true) ∧ w' = w := by
 have BK := hid (rbroken_any ⟨s.toArray⟩ w (by rw [Lib.size_eq]; exact hs))
 have HU := hid (show utfB (⟨s.toArray⟩ : ByteArray).data.toList = true from h)
 clear h
 go_enter Tryz.func99, Tryz.ntmps99
 go_wp2_with fail
 refine BK.out.mono ?_
 rintro e w' ⟨⟨i, rfl, hi⟩, rfl⟩
 rw [if_pos HU.out] at hi
 subst hi
 go_wp2_with fail
 exact bodyPost_ret (v := .bool true) (by simp [results, Tryz.results99, go_sem]) rfl ⟨rfl, rfl⟩
end Go.Proofs.YtjlfchnnhglbjaaGreat
namespace Go.Proofs.YtjlfchnnhglbjaaGreat
open Go.RowKit Go.Lib
theorem iter_other (w : World) {k b : Nat} (s : ByteArray) (pos : Nat) {s0 : ByteArray} {p0 : Nat} (h : w.heap[k]? = some (.stringIter s0 p0)) {cs : Array Value} {ty : TypeId} {z : Nat × Nat} (hb : w.heap[b]? = some (.cells cs ty z)) : (w.iterAt k s pos).heap[b]? = w.heap[b]? := by
 have : b ≠ k := by rintro rfl; rw [h] at hb; cases hb
 exact Lib.iterAt_other w k b s pos this
set_option maxRecDepth 100000 in
set_option maxHeartbeats 16000000 in
theorem rmay_any (w : World) (x : Stp) (kv : Value) (hr : RdP w kv x.2) (hm : mayB x = true) (hs : (textP x).length ≤ 140737488355328) :
  Calls Tryz.prog 70 #[.agg #[.string ⟨x.1.toArray⟩, kv]] w fun e w' => e = .returned (.tuple #[.bool true, .bool (!fitB x)]) ∧ Below w.heap.size w w' := by
 have HKL := hid (fun k h => @key_len x k h)
 obtain ⟨n, ks⟩ := x
 obtain ⟨ao, cp, rfl, h63, hcell⟩ := rdP_cells hr
 simp only at hcell h63 hs HKL ⊢
 unfold mayB at hm
 simp only [Bool.and_eq_true] at hm
 have HOK := hid (keysOk_get ks [] hm.2)
 have HCELL := hid hcell
 have hnl : n.length ≤ 140737488355328 := by unfold textP at hs; simp at hs; omega
 have hnz : (n.length : Int) ≤ 140737488355328 := by omega
 have NMN := hid (fun W => rname02_any n W hnl hm.1)
 have HS := hid hs
 have HB1 := hid (show Below w.heap.size w (w.alloc (.cells #[.string ⟨n.toArray⟩, .slice ao ks.length cp] 104)) from (Below.refl _ _).alloc (Nat.le_refl _) _)
 have F1 := hid (heap_alloc_new w (.cells #[.string ⟨n.toArray⟩, .slice ao ks.length cp] 104))
 have hl0 : decide ((64 : Int) < (n.length : Int)) = lngB n (ks.take 0) := by
  unfold lngB
  by_cases e : n.length ≤ 64
  ·rw [decide_eq_false (by omega), decide_eq_true e]; rfl
  ·rw [decide_eq_true (by omega), decide_eq_false e]; rfl
 have HL0 := hid hl0
 clear hr hcell hs hm hl0 hnl
 go_enter Tryz.func70, Tryz.ntmps70
 go_upto_region 1 with fail
 generalize w.alloc (.cells #[.string ⟨n.toArray⟩, .slice ao ks.length cp] 104) = w1 at *
 have HSB := hid (lt_of_block F1.out)
 obtain ⟨s0, s1, _, _, sl⟩ := box2_cells F1.out
 go_upto_region 4 with (go_at_call 98; refine (NMN.out _).mono ?_; rintro e wz ⟨rfl, rfl⟩)
 rw [HL0.out]
 go_upto_region 5 with fail
 go_loopg [4, 21] ks.length (fun g v4 v21 W => ∃ k : Nat, k ≤ ks.length ∧ ks.length ≤ k + g ∧ v4 = .bool (lngB n (ks.take k)) ∧ v21 = .int .i64 k ∧ W.heap[w.heap.size]? = some (.cells #[.string ⟨n.toArray⟩, .slice ao ks.length cp] 104 (0, 0)) ∧ Below w.heap.size w W)
 case atStart => exact ⟨0, Nat.zero_le _, by omega, rfl, rfl, F1.out, HB1.out⟩
 case round =>
  obtain ⟨k, hk, hg, rfl, rfl, ff, bb⟩ := hrel
  rename World => w4
  obtain ⟨go, hgo⟩ : ∃ go, go = gk := ⟨_, rfl⟩
  have HG := hid (show ks.length ≤ k + go by rw [hgo]; exact hg)
  have HGO := hid hgo
  have B4 := hid bb
  have F4 := hid ff
  clear bb ff F1 HB1 s0 s1 sl hg hgo
  by_cases hlt : k < ks.length
  ·have hni : (k : Int) < (ks.length : Int) := by omega
   have hn0 : (0 : Int) ≤ (k : Int) := by omega
   have hkz : (k : Int) ≤ 9223372036854775806 := by omega
   obtain ⟨p, o, rfl, hp, q0, q1⟩ := HCELL.out k hlt
   have r0 := (B4.out.cell (p := ⟨p, o + k * 2, none⟩) hp).trans q0
   have r1 := (B4.out.cell (p := ⟨p, o + k * 2 + 1, none⟩) hp).trans q1
   have hp2 : p < w4.heap.size := Nat.lt_of_lt_of_le hp B4.out.size
   obtain ⟨ok1, ok2, ok3⟩ := HOK.out k hlt
   have hkl := HKL.out k hlt
   have HLS := hid (@lng_step n ks k hlt)
   rw [List.nil_append] at ok3
   have hal := ahead_lt ok3 (nameOk_ne ok1)
   clear q0 q1 ok3
   generalize ks[k]'hlt = kv at *
   obtain ⟨ky, v⟩ := kv
   simp only at r0 r1 hkl HLS ok1 ok2 hal
   have hky : ky.length ≤ 140737488355328 := by have := HS.out; omega
   have hvy : v.length ≤ 140737488355328 := by have := HS.out; omega
   unfold valOk at ok2
   simp only [Bool.and_eq_true] at ok2
   have NMK := hid (fun W => rname02_any ky W hky ok1)
   have RG := hid (fun W => rright_any v W hvy ok2.1)
   have HU := hid ok2.1
   have HNC := hid (show noCtl v = true from ok2.2)
   have CT := hid (fun r W => rctl_any r W)
   have hkyz : (ky.length : Int) ≤ 140737488355328 := by omega
   have hvyz : (v.length : Int) ≤ 140737488355328 := by omega
   have HALT := hid hal
   clear ok1 ok2 hkl hky hvy hal
   have HA5 := hid (show Below w4.heap.size w4 (w4.alloc (.cells #[.string ⟨ky.toArray⟩, .string ⟨v.toArray⟩] 48)) from (Below.refl _ _).alloc (Nat.le_refl _) _)
   have F5 := hid (heap_alloc_new w4 (.cells #[.string ⟨ky.toArray⟩, .string ⟨v.toArray⟩] 48))
   go_upto_region 7 with fail
   generalize w4.alloc (.cells #[.string ⟨ky.toArray⟩, .string ⟨v.toArray⟩] 48) = w5 at *
   obtain ⟨y0, y1, _, _, yl⟩ := box2_cells F5.out
   have B5 := hid (B4.out.then HA5.out)
   have HZ4 := hid B4.out.size
   have F5s := hid ((HA5.out.block _ (lt_of_block F4.out)).trans F4.out)
   clear B4 F4 HA5 r0 r1 hp2
   generalize w4.heap.size = Pb at *
   obtain ⟨s0, s1, _, _, sl⟩ := box2_cells F5s.out
   rcases Nat.eq_zero_or_pos k with hk0 | hk0
   ·subst hk0
    have hz : ¬ (0 : Int) < ((0 : Nat) : Int) := by omega
    have hz2 : decide ((0 : Int) < ((0 : Nat) : Int)) = false := decide_eq_false hz
    go_quiet ((first | (go_at_call 98; exact Calls.quiet_of_same (NMK.out _)) | (go_at_call 99; exact Calls.quiet_of_same (RG.out _))))
    have F6 := hid (show (w5.drewN nq).heap[Pb]? = some (.cells #[.string ⟨ky.toArray⟩, .string ⟨v.toArray⟩] 48 (0, 0)) from F5.out)
    have F6s := hid (show (w5.drewN nq).heap[w.heap.size]? = some (.cells #[.string ⟨n.toArray⟩, .slice (some ⟨p, o, none⟩) ks.length cp] 104 (0, 0)) from F5s.out)
    have B6 := hid (show Below w.heap.size w (w5.drewN nq) from below_drewN B5.out _)
    generalize w5.drewN nq = w6 at *
    clear y0 y1 yl s0 s1 sl F5 F5s B5 
    obtain ⟨y0, y1, _, _, yl⟩ := box2_cells F6.out
    generalize hlg : lngB n (ks.take 0) = lg at *
    have HZ6 := hid B6.out.size
    have BI := hid (B6.out.alloc B6.out.size (.stringIter ⟨v.toArray⟩ 0))
    have FI := hid ((Below.heap_alloc w6 (.stringIter ⟨v.toArray⟩ 0) Pb (lt_of_block F6.out)).trans F6.out)
    have FIs := hid ((Below.heap_alloc w6 (.stringIter ⟨v.toArray⟩ 0) w.heap.size (lt_of_block F6s.out)).trans F6s.out)
    go_wp2_with fail
    go_loopg [8] v.length (fun g v8 W => ∃ pos : Nat, pos ≤ v.length ∧ v.length ≤ pos + g ∧ W.heap[w6.heap.size]? = some (.stringIter ⟨v.toArray⟩ pos) ∧ utfB (v.drop pos) = true ∧ noCtl (v.drop pos) = true ∧ W.heap[Pb]? = some (.cells #[.string ⟨ky.toArray⟩, .string ⟨v.toArray⟩] 48 (0, 0)) ∧ W.heap[w.heap.size]? = some (.cells #[.string ⟨n.toArray⟩, .slice (some ⟨p, o, none⟩) ks.length cp] 104 (0, 0)) ∧ Below w.heap.size w W)
    case atStart => exact ⟨0, Nat.zero_le _, by omega, World.iter_heap w6 _ 0, HU.out, HNC.out, FI.out, FIs.out, BI.out⟩
    case round =>
     obtain ⟨pos, hpos, hg, hit, hut, hno, hf, hfs, hb⟩ := hrel
     rename World => wr
     have HG2 := hid hg
     clear hg y0 y1 yl
     by_cases hp : pos < v.length
     ·have hne : v.drop pos ≠ [] := by intro e; have := congrArg List.length e; simp at this; omega
      have hdl := dec_le hne
      obtain ⟨hsd, hnext⟩ := utfB_sound hne hut
      have hnx : ∀ ty, (Instr.next (.pointer (some ⟨w6.heap.size, 0, none⟩)) true ty).run Tryz.prog wr = _ := fun ty => Lib.run_next_any_at wr w6.heap.size ⟨v.toArray⟩ pos ty hit (by rw [Lib.size_eq]; exact hp)
      simp only [dec_at] at hnx
      have hrc := rune_ctl hsd
      rw [hno] at hrc
      rw [List.length_drop] at hdl
      rw [List.drop_drop] at hnext hrc
      generalize hd : decodeL (v.drop pos) = rk at *
      obtain ⟨r, kk⟩ := rk
      simp only at hnx hdl hnext hrc
      have hrc2 := hrc.symm
      simp only [Bool.and_eq_true, Bool.not_eq_true'] at hrc2
      have HIT := hid (Lib.iterAt_heap wr w6.heap.size ⟨v.toArray⟩ pos (pos + kk) hit)
      have HBW := hid (Lib.below_iterAt hb (k := w6.heap.size) HZ6.out ⟨v.toArray⟩ (pos + kk))
      have HIF := hid ((iter_other wr (k := w6.heap.size) (b := Pb) ⟨v.toArray⟩ (pos + kk) hit hf).trans hf)
      have HIS := hid ((iter_other wr (k := w6.heap.size) (b := w.heap.size) ⟨v.toArray⟩ (pos + kk) hit hfs).trans hfs)
      have HPK := hid (show pos + kk ≤ v.length ∧ 1 ≤ kk by omega)
      have HNX := hid hnext
      have HNC2 := hid hrc2.2
      have CTR := hid (fun W => CT.out (r : Int) W)
      rw [hrc2.1] at CTR
      clear hit hut hne hdl hsd hnext hrc hrc2 hd hb hno hf hfs
      go_wp2_with (go_at_call 100; refine (CTR.out _).mono ?_; rintro e w' ⟨rfl, rfl⟩)
      go_roundg (gk - 1)
      case measure => have := HG2.out; omega
      case rel => exact ⟨pos + kk, HPK.out.1, by have := HG2.out; have := HPK.out; omega, HIT.out, HNX.out, HNC2.out, HIF.out, HIS.out, HBW.out⟩
     ·have hnx : ∀ ty, (Instr.next (.pointer (some ⟨w6.heap.size, 0, none⟩)) true ty).run Tryz.prog wr = _ := fun ty => Lib.run_next_end_at wr w6.heap.size ⟨v.toArray⟩ pos ty hit (by rw [Lib.size_eq]; exact hp)
      have B7 := hid hb
      have F7s := hid hfs
      obtain ⟨y0, y1, _, _, yl⟩ := box2_cells hf
      clear hut hb hno hf hfs
      have HTAIL := hid (show lngB n (ks.take (0 + 1)) = (lg || decide ((64 : Int) < (ky.length : Int)) || decide ((64 : Int) < (v.length : Int))) from HLS.out)
      clear HLS
      cases lg with
      | true =>
       go_wp2_with fail
       go_roundg (go - 1)
       case measure => have := HG.out; have := HGO.out; omega
       case rel => exact ⟨0 + 1, by omega, by have := HG.out; omega, by rw [HTAIL.out]; rfl, by simp, F7s.out, B7.out⟩
      | false =>
       by_cases h1 : (64 : Int) < (ky.length : Int)
       ·go_wp2_with fail
        go_roundg (go - 1)
        case measure => have := HG.out; have := HGO.out; omega
        case rel => exact ⟨0 + 1, by omega, by have := HG.out; omega, by rw [HTAIL.out, decide_eq_true h1]; rfl, by simp, F7s.out, B7.out⟩
       ·by_cases h2 : (64 : Int) < (v.length : Int)
        ·go_wp2_with fail
         go_roundg (go - 1)
         case measure => have := HG.out; have := HGO.out; omega
         case rel => exact ⟨0 + 1, by omega, by have := HG.out; omega, by rw [HTAIL.out, decide_eq_true h2, decide_eq_false (show ¬ (64 : Int) < (ky.length : Int) by omega)]; rfl, by simp, F7s.out, B7.out⟩
        ·go_wp2_with fail
         go_roundg (go - 1)
         case measure => have := HG.out; have := HGO.out; omega
         case rel => exact ⟨0 + 1, by omega, by have := HG.out; omega, by rw [HTAIL.out, decide_eq_false (show ¬ (64 : Int) < (v.length : Int) by omega), decide_eq_false (show ¬ (64 : Int) < (ky.length : Int) by omega)]; rfl, by simp, F7s.out, B7.out⟩
   ·obtain ⟨j, rfl⟩ : ∃ j, k = j + 1 := ⟨k - 1, by omega⟩
    have hz : (0 : Int) < ((j + 1 : Nat) : Int) := by omega
    have hj : j < ks.length := by omega
    obtain ⟨p', o', e', hp', q0, q1⟩ := HCELL.out j hj
    cases e'
    have r0 := (B5.out.cell (p := ⟨p, o + j * 2, none⟩) hp').trans q0
    have hp2 : p < w5.heap.size := Nat.lt_of_lt_of_le hp' B5.out.size
    have hja := ahead_take hj
    have hal := HALT.out
    rw [hja] at hal
    have hbl : Op.bytesLess ky (ks[j]'hj).1 = false := by rw [Proofs.bytesLess_eq]; exact decide_eq_false (List.lt_asymm hal)
    have hbe : (ky == (ks[j]'hj).1) = false := beq_eq_false_iff_ne.2 (fun e => List.lt_irrefl _ (e ▸ hal))
    have hj0 : (0 : Int) ≤ (j : Int) := by omega
    have hjl : (j : Int) < (ks.length : Int) := by omega
    have hj1 : ((j + 1 : Nat) : Int) - 1 = (j : Int) := by omega
    have hjz : (j : Int) ≤ 9223372036854775806 := by omega
    clear q0 q1 hp' hal hja
    generalize (ks[j]'hj).1 = kj at *
    go_quiet ((first | (go_at_call 98; exact Calls.quiet_of_same (NMK.out _)) | (go_at_call 99; exact Calls.quiet_of_same (RG.out _))))
    have F6 := hid (show (w5.drewN nq).heap[Pb]? = some (.cells #[.string ⟨ky.toArray⟩, .string ⟨v.toArray⟩] 48 (0, 0)) from F5.out)
    have F6s := hid (show (w5.drewN nq).heap[w.heap.size]? = some (.cells #[.string ⟨n.toArray⟩, .slice (some ⟨p, o, none⟩) ks.length cp] 104 (0, 0)) from F5s.out)
    have B6 := hid (show Below w.heap.size w (w5.drewN nq) from below_drewN B5.out _)
    generalize w5.drewN nq = w6 at *
    clear y0 y1 yl s0 s1 sl F5 F5s B5 r0 hp2 hbl hbe
    obtain ⟨y0, y1, _, _, yl⟩ := box2_cells F6.out
    generalize hlg : lngB n (ks.take (j + 1)) = lg at *
    have HZ6 := hid B6.out.size
    have BI := hid (B6.out.alloc B6.out.size (.stringIter ⟨v.toArray⟩ 0))
    have FI := hid ((Below.heap_alloc w6 (.stringIter ⟨v.toArray⟩ 0) Pb (lt_of_block F6.out)).trans F6.out)
    have FIs := hid ((Below.heap_alloc w6 (.stringIter ⟨v.toArray⟩ 0) w.heap.size (lt_of_block F6s.out)).trans F6s.out)
    go_wp2_with fail
    go_loopg [8] v.length (fun g v8 W => ∃ pos : Nat, pos ≤ v.length ∧ v.length ≤ pos + g ∧ W.heap[w6.heap.size]? = some (.stringIter ⟨v.toArray⟩ pos) ∧ utfB (v.drop pos) = true ∧ noCtl (v.drop pos) = true ∧ W.heap[Pb]? = some (.cells #[.string ⟨ky.toArray⟩, .string ⟨v.toArray⟩] 48 (0, 0)) ∧ W.heap[w.heap.size]? = some (.cells #[.string ⟨n.toArray⟩, .slice (some ⟨p, o, none⟩) ks.length cp] 104 (0, 0)) ∧ Below w.heap.size w W)
    case atStart => exact ⟨0, Nat.zero_le _, by omega, World.iter_heap w6 _ 0, HU.out, HNC.out, FI.out, FIs.out, BI.out⟩
    case round =>
     obtain ⟨pos, hpos, hg, hit, hut, hno, hf, hfs, hb⟩ := hrel
     rename World => wr
     have HG2 := hid hg
     clear hg y0 y1 yl
     by_cases hp : pos < v.length
     ·have hne : v.drop pos ≠ [] := by intro e; have := congrArg List.length e; simp at this; omega
      have hdl := dec_le hne
      obtain ⟨hsd, hnext⟩ := utfB_sound hne hut
      have hnx : ∀ ty, (Instr.next (.pointer (some ⟨w6.heap.size, 0, none⟩)) true ty).run Tryz.prog wr = _ := fun ty => Lib.run_next_any_at wr w6.heap.size ⟨v.toArray⟩ pos ty hit (by rw [Lib.size_eq]; exact hp)
      simp only [dec_at] at hnx
      have hrc := rune_ctl hsd
      rw [hno] at hrc
      rw [List.length_drop] at hdl
      rw [List.drop_drop] at hnext hrc
      generalize hd : decodeL (v.drop pos) = rk at *
      obtain ⟨r, kk⟩ := rk
      simp only at hnx hdl hnext hrc
      have hrc2 := hrc.symm
      simp only [Bool.and_eq_true, Bool.not_eq_true'] at hrc2
      have HIT := hid (Lib.iterAt_heap wr w6.heap.size ⟨v.toArray⟩ pos (pos + kk) hit)
      have HBW := hid (Lib.below_iterAt hb (k := w6.heap.size) HZ6.out ⟨v.toArray⟩ (pos + kk))
      have HIF := hid ((iter_other wr (k := w6.heap.size) (b := Pb) ⟨v.toArray⟩ (pos + kk) hit hf).trans hf)
      have HIS := hid ((iter_other wr (k := w6.heap.size) (b := w.heap.size) ⟨v.toArray⟩ (pos + kk) hit hfs).trans hfs)
      have HPK := hid (show pos + kk ≤ v.length ∧ 1 ≤ kk by omega)
      have HNX := hid hnext
      have HNC2 := hid hrc2.2
      have CTR := hid (fun W => CT.out (r : Int) W)
      rw [hrc2.1] at CTR
      clear hit hut hne hdl hsd hnext hrc hrc2 hd hb hno hf hfs
      go_wp2_with (go_at_call 100; refine (CTR.out _).mono ?_; rintro e w' ⟨rfl, rfl⟩)
      go_roundg (gk - 1)
      case measure => have := HG2.out; omega
      case rel => exact ⟨pos + kk, HPK.out.1, by have := HG2.out; have := HPK.out; omega, HIT.out, HNX.out, HNC2.out, HIF.out, HIS.out, HBW.out⟩
     ·have hnx : ∀ ty, (Instr.next (.pointer (some ⟨w6.heap.size, 0, none⟩)) true ty).run Tryz.prog wr = _ := fun ty => Lib.run_next_end_at wr w6.heap.size ⟨v.toArray⟩ pos ty hit (by rw [Lib.size_eq]; exact hp)
      have B7 := hid hb
      have F7s := hid hfs
      obtain ⟨y0, y1, _, _, yl⟩ := box2_cells hf
      clear hut hb hno hf hfs
      have HTAIL := hid (show lngB n (ks.take ((j + 1) + 1)) = (lg || decide ((64 : Int) < (ky.length : Int)) || decide ((64 : Int) < (v.length : Int))) from HLS.out)
      clear HLS
      cases lg with
      | true =>
       go_wp2_with fail
       go_roundg (go - 1)
       case measure => have := HG.out; have := HGO.out; omega
       case rel => exact ⟨(j + 1) + 1, by omega, by have := HG.out; omega, by rw [HTAIL.out]; rfl, by simp, F7s.out, B7.out⟩
      | false =>
       by_cases h1 : (64 : Int) < (ky.length : Int)
       ·go_wp2_with fail
        go_roundg (go - 1)
        case measure => have := HG.out; have := HGO.out; omega
        case rel => exact ⟨(j + 1) + 1, by omega, by have := HG.out; omega, by rw [HTAIL.out, decide_eq_true h1]; rfl, by simp, F7s.out, B7.out⟩
       ·by_cases h2 : (64 : Int) < (v.length : Int)
        ·go_wp2_with fail
         go_roundg (go - 1)
         case measure => have := HG.out; have := HGO.out; omega
         case rel => exact ⟨(j + 1) + 1, by omega, by have := HG.out; omega, by rw [HTAIL.out, decide_eq_true h2, decide_eq_false (show ¬ (64 : Int) < (ky.length : Int) by omega)]; rfl, by simp, F7s.out, B7.out⟩
        ·go_wp2_with fail
         go_roundg (go - 1)
         case measure => have := HG.out; have := HGO.out; omega
         case rel => exact ⟨(j + 1) + 1, by omega, by have := HG.out; omega, by rw [HTAIL.out, decide_eq_false (show ¬ (64 : Int) < (v.length : Int) by omega), decide_eq_false (show ¬ (64 : Int) < (ky.length : Int) by omega)]; rfl, by simp, F7s.out, B7.out⟩
  ·have hni : ¬ (k : Int) < (ks.length : Int) := by omega
   have hkn : k = ks.length := by omega
   subst hkn
   have HF := hid (show lngB n (ks.take ks.length) = !fitB (n, ks) by rw [List.take_length]; rfl)
   generalize lngB n (ks.take ks.length) = lg at *
   go_wp2_with fail
   refine bodyPost_ret (v := .tuple #[.bool true, .bool lg]) (by simp [results, Tryz.results70, go_sem]) rfl ⟨?_, B4.out⟩
   rw [HF.out]
end Go.Proofs.YtjlfchnnhglbjaaGreat
namespace Go.Proofs.YtjlfchnnhglbjaaGreat
open Go.RowKit Go.Lib
theorem join_snoc : ∀ (a : List Stp) (x : Stp), joinT (a ++ [x]) = (if a = [] then textP x else joinT a ++ 47 :: textP x)
 | [], x => rfl
 | [y], x => by simp [joinT]
 | y :: z :: a, x => by
  have ih := join_snoc (z :: a) x
  rw [if_neg (by simp)] at ih ⊢
  rw [List.cons_append, join_cons y (by simp), ih, join_cons y (by simp)]
  simp
theorem join_take {l : List Stp} {k : Nat} (h : k < l.length) : joinT (l.take (k + 1)) = if k = 0 then textP (l[k]'h) else joinT (l.take k) ++ 47 :: textP (l[k]'h) := by
 rw [List.take_succ_eq_append_getElem h, join_snoc]
 by_cases hk : k = 0
 ·subst hk; rfl
 ·rw [if_neg hk, if_neg]
  intro e
  have := congrArg List.length e
  rw [List.length_take, List.length_nil] at this
  omega
theorem join_take_le : ∀ (l : List Stp) (k : Nat), (joinT (l.take k)).length ≤ (joinT l).length
 | [], k => by simp
 | x :: l, 0 => Nat.zero_le _
 | x :: l, k + 1 => by
  rw [List.take_succ_cons]
  by_cases h0 : l = []
  ·subst h0; simp [joinT]
  ·rw [join_cons x h0]
   by_cases h1 : l.take k = []
   ·rw [h1]; simp only [joinT, List.length_append, List.length_cons]; omega
   ·have := join_take_le l k
    rw [join_cons x h1]; simp only [List.length_append, List.length_cons]; omega
theorem fit_take {l : List Stp} {k : Nat} (h : k < l.length) : (!(l.take (k + 1)).all fitB) = (!(l.take k).all fitB || !fitB (l[k]'h)) := by
 rw [List.take_succ_eq_append_getElem h, List.all_append, Bool.not_and]
 simp
def prV (o : Option Str) : Value := match o with
 | some t => .tuple #[.string ⟨t.toArray⟩, .int .i64 0]
 | none => .tuple #[.string ⟨#[]⟩, .int .i64 3]
def lngL (l : List Stp) (k : Nat) : Bool := decide ((64 : Int) < (l.length : Int)) || !(l.take k).all fitB
theorem lngL_step {l : List Stp} {k : Nat} (h : k < l.length) : lngL l (k + 1) = (lngL l k || !fitB (l[k]'h)) := by
 unfold lngL
 rw [fit_take h, Bool.or_assoc]
theorem prV_eq {l : List Stp} (hm : l.all mayB = true) : prV (printS l) = if (lngL l l.length || decide ((512 : Int) < ((joinT l).length : Int))) = true then .tuple #[.string ⟨#[]⟩, .int .i64 3] else .tuple #[.string ⟨(joinT l).toArray⟩, .int .i64 0] := by
 unfold printS lngL
 rw [List.take_length, hm]
 by_cases h1 : l.all fitB = true
 ·rw [h1]
  by_cases h2 : l.length ≤ 64
  ·by_cases h3 : (joinT l).length ≤ 512
   ·rw [decide_eq_true h2, decide_eq_true h3, decide_eq_false (show ¬ (64 : Int) < (l.length : Int) by omega), decide_eq_false (show ¬ (512 : Int) < ((joinT l).length : Int) by omega)]; rfl
   ·rw [decide_eq_true h2, decide_eq_false h3, decide_eq_false (show ¬ (64 : Int) < (l.length : Int) by omega), decide_eq_true (show (512 : Int) < ((joinT l).length : Int) by omega)]; rfl
  ·rw [decide_eq_false h2, decide_eq_true (show (64 : Int) < (l.length : Int) by omega)]; rfl
 ·have h1' : l.all fitB = false := by simpa using h1
  rw [h1']
  by_cases h2 : (64 : Int) < (l.length : Int)
  ·rw [decide_eq_true h2]; rfl
  ·rw [decide_eq_false h2]; rfl
theorem text_join_le {l : List Stp} {k : Nat} (h : k < l.length) : (textP (l[k]'h)).length ≤ (joinT l).length := by
 have h1 := join_take h
 have h2 := join_take_le l (k + 1)
 by_cases hk : k = 0
 ·rw [if_pos hk] at h1; rw [← h1]; exact h2
 ·rw [if_neg hk] at h1
  have := congrArg List.length h1
  simp only [List.length_append, List.length_cons] at this
  omega
set_option maxRecDepth 100000 in
set_option maxHeartbeats 8000000 in
theorem rprint6_any (w : World) (v : Value) (l : List Stp) (hr : RdSt w v l) (hm : l.all mayB = true) (hz : (joinT l).length ≤ 140737488355328) :
  Calls Tryz.prog 50 #[v] w fun e w' => e = .returned (prV (printS l)) ∧ Below w.heap.size w w' := by
 have HPV := hid (prV_eq hm)
 obtain ⟨a1, c1, rfl, hcap, h63, hcell⟩ := hr.cells
 have HCELL := hid hcell
 have HM := hid (fun x hx => List.all_eq_true.1 hm x hx)
 have HZ := hid hz
 clear hr hcell hm hz
 have HL0 := hid (show decide ((64 : Int) < (l.length : Int)) = lngL l 0 by unfold lngL; simp)
 go_enter Tryz.func50, Tryz.ntmps50
 go_upto_region 3 with fail
 rw [HL0.out]
 go_upto_region 4 with fail
 go_loopg [4, 5, 15] l.length (fun g v4 v5 v15 W => ∃ k : Nat, k ≤ l.length ∧ l.length ≤ k + g ∧ v4 = .bool (lngL l k) ∧ v5 = .string ⟨(joinT (l.take k)).toArray⟩ ∧ v15 = .int .i64 k ∧ Below w.heap.size w W)
 case atStart => exact ⟨0, Nat.zero_le _, by omega, rfl, rfl, rfl, Below.refl _ _⟩
 case round =>
  obtain ⟨k, hk, hg, rfl, rfl, rfl, bb⟩ := hrel
  rename World => w4
  have HG := hid hg
  have B4 := hid bb
  clear hg bb
  by_cases hlt : k < l.length
  ·have hni : (k : Int) < (l.length : Int) := by omega
   have hn0 : (0 : Int) ≤ (k : Int) := by omega
   obtain ⟨p, o, kv, rfl, hp, q0, q1, hkeys⟩ := HCELL.out k hlt
   have r0 := (B4.out.cell (p := ⟨p, o + k * 2, none⟩) hp).trans q0
   have r1 := (B4.out.cell (p := ⟨p, o + k * 2 + 1, none⟩) hp).trans q1
   have hp2 : p < w4.heap.size := Nat.lt_of_lt_of_le hp B4.out.size
   have HKS := hid (hkeys.below B4.out)
   have HJT := hid (join_take hlt)
   have HLS := hid (lngL_step hlt)
   have HTL := hid (Nat.le_trans (text_join_le hlt) HZ.out)
   have HJL := hid (Nat.le_trans (join_take_le l (k + 1)) HZ.out)
   have HMX := hid (HM.out _ (List.getElem_mem hlt))
   clear q0 q1
   generalize l[k]'hlt = x at *
   obtain ⟨nm, ks⟩ := x
   obtain ⟨az, cz, rfl, _⟩ := rdP_cells hkeys
   simp only at r0 r1 HKS
   clear hkeys
   have HA5 := hid (show Below w4.heap.size w4 (w4.alloc (.cells #[.string ⟨nm.toArray⟩, .slice az ks.length cz] 104)) from (Below.refl _ _).alloc (Nat.le_refl _) _)
   have F5 := hid (heap_alloc_new w4 (.cells #[.string ⟨nm.toArray⟩, .slice az ks.length cz] 104))
   go_upto_region 6 with fail
   generalize w4.alloc (.cells #[.string ⟨nm.toArray⟩, .slice az ks.length cz] 104) = w5 at *
   obtain ⟨y0, y1, _, _, yl⟩ := box2_cells F5.out
   have B5 := hid (B4.out.then HA5.out)
   have RK5 := hid (HKS.out.below HA5.out)
   clear HA5 HKS B4 r0 r1 hp2
   have MY := hid (rmay_any w5 (nm, ks) (.slice az ks.length cz) RK5.out HMX.out HTL.out)
   go_wp2_with fail
   refine MY.out.mono ?_
   rintro e w6 ⟨rfl, hb6⟩
   have F6 := hid ((hb6.block _ (lt_of_block F5.out)).trans F5.out)
   have B6 := hid (B5.out.then hb6)
   have RK6 := hid (RK5.out.below hb6)
   clear hb6 y0 y1 yl F5 B5 RK5 MY
   obtain ⟨y0, y1, _, _, yl⟩ := box2_cells F6.out
   have TX := hid (rtext_any w6 (nm, ks) (.slice az ks.length cz) RK6.out HTL.out)
   generalize htx : textP (nm, ks) = tx at *
   generalize (!fitB (nm, ks)) = nf at *
   generalize hjt : joinT (l.take k) = jt at *
   generalize lngL l k = lg at *
   by_cases hk0 : k = 0
   ·subst hk0
    have HJ2 := hid (show jt = [] by rw [← hjt]; rfl)
    have HJ3 := HJT.out
    rw [if_pos rfl] at HJ3
    have HJ4 := hid HJ3
    clear HJ3 hjt
    have hjl : (tx.length : Int) ≤ 140737488355328 := by have := HTL.out; omega
    obtain rfl := HJ2.out
    cases lg <;> cases nf
    all_goals
     go_wp2_with (go_at_call 49; refine TX.out.mono ?_; rintro e w7 ⟨rfl, hb7⟩; have B7 := hid (B6.out.then hb7); clear hb7)
     go_roundg (gk - 1)
    all_goals first
     | (have := HG.out; omega)
     | exact ⟨0 + 1, by omega, by have := HG.out; omega, by rw [HLS.out]; rfl, by rw [HJ4.out]; simp [cat2], by simp, B7.out⟩
   ·have hk1 : (0 : Int) < (k : Int) := by omega
    have HJ3 := HJT.out
    rw [if_neg hk0] at HJ3
    have HJ4 := hid HJ3
    have hjl : (jt.length : Int) + 1 + (tx.length : Int) ≤ 140737488355328 := by
     have := HJL.out
     rw [HJ3] at this
     simp only [List.length_append, List.length_cons] at this
     omega
    clear HJ3 hjt hk0
    cases lg <;> cases nf
    all_goals
     go_wp2_with (go_at_call 49; refine TX.out.mono ?_; rintro e w7 ⟨rfl, hb7⟩; have B7 := hid (B6.out.then hb7); clear hb7)
     go_roundg (gk - 1)
    all_goals first
     | (have := HG.out; omega)
     | exact ⟨k + 1, by omega, by have := HG.out; omega, by rw [HLS.out]; rfl, by rw [HJ4.out]; simp [cat2], by simp, B7.out⟩
  ·have hni : ¬ (k : Int) < (l.length : Int) := by omega
   have hkn : k = l.length := by omega
   subst hkn
   have HTA := hid (show joinT (l.take l.length) = joinT l by rw [List.take_length])
   have HPV2 := HPV.out
   generalize hq : prV (printS l) = q at *
   have HZ2 := hid HZ.out
   rw [HTA.out]
   have hjz : ((joinT l).length : Int) ≤ 140737488355328 := by have := HZ.out; omega
   generalize joinT l = jt at *
   generalize lngL l l.length = lg at *
   cases lg with
   | true =>
    have HPQ := hid (show q = .tuple #[.string ⟨#[]⟩, .int .i64 3] by rw [HPV2]; rfl)
    clear HPV2 HPV
    go_wp2_with fail
    exact bodyPost_ret (v := .tuple #[.string ⟨#[]⟩, .int .i64 3]) (by simp [results, Tryz.results50, go_sem]) rfl ⟨by rw [HPQ.out], B4.out⟩
   | false =>
    by_cases h5 : (512 : Int) < (jt.length : Int)
    ·have HPQ := hid (show q = .tuple #[.string ⟨#[]⟩, .int .i64 3] by rw [HPV2, decide_eq_true h5]; rfl)
     clear HPV2 HPV
     go_wp2_with fail
     exact bodyPost_ret (v := .tuple #[.string ⟨#[]⟩, .int .i64 3]) (by simp [results, Tryz.results50, go_sem]) rfl ⟨by rw [HPQ.out], B4.out⟩
    ·have HPQ := hid (show q = .tuple #[.string ⟨jt.toArray⟩, .int .i64 0] by rw [HPV2, decide_eq_false h5]; rfl)
     clear HPV2 HPV
     go_wp2_with fail
     exact bodyPost_ret (v := .tuple #[.string ⟨jt.toArray⟩, .int .i64 0]) (by simp [results, Tryz.results50, go_sem]) rfl ⟨by rw [HPQ.out], B4.out⟩
end Go.Proofs.YtjlfchnnhglbjaaGreat
namespace Go.Proofs.YtjlfchnnhglbjaaGreat
open Go.RowKit Go.Lib
theorem take_same {l m : List Stp} (h : m.length ≤ l.length) {k : Nat} (hk : k < m.length) (e : l.take k = m.take k) : l.take (k + 1) = m.take (k + 1) ↔ m[k]'hk = l[k]'(by omega) := by
 rw [List.take_succ_eq_append_getElem hk, List.take_succ_eq_append_getElem (show k < l.length by omega), e]
 constructor
 ·intro h
  exact (List.cons.inj (List.append_cancel_left h)).1.symm
 ·intro h
  rw [h]
theorem text_eq_iff {l m : List Stp} {a b : Str} (h1 : pathP a = some l) (h2 : pathP b = some m) {x y : Stp} (hx : x ∈ l) (hy : y ∈ m) : textP y = textP x ↔ y = x := by
 obtain ⟨p1, p2, _⟩ := path_all h1
 obtain ⟨q1, q2, _⟩ := path_all h2
 refine ⟨fun h => text_inj (List.all_eq_true.1 q1 y hy) (List.all_eq_true.1 q2 y hy) (List.all_eq_true.1 p1 x hx) (List.all_eq_true.1 p2 x hx) h, fun h => by rw [h]⟩
theorem text_path_le {a : Str} {l : List Stp} (h : pathP a = some l) {x : Stp} (hx : x ∈ l) : (textP x).length ≤ 512 := by
 obtain ⟨i, hi, rfl⟩ := List.getElem_of_mem hx
 exact Nat.le_trans (text_join_le hi) (path_all h).2.2.2.1
set_option maxRecDepth 100000 in
set_option maxHeartbeats 8000000 in
theorem rrest_any (w : World) (a b : Str) (ha : a.length ≤ maxLen) (hb : b.length ≤ maxLen) :
  Calls Tryz.prog 31 #[.string ⟨a.toArray⟩, .string ⟨b.toArray⟩] w fun e w' => e = .returned (restV (restF a b)) ∧ Below w.heap.size w w' := by
 have HB := hid hb
 go_enter Tryz.func31, Tryz.ntmps31
 go_wp2_with fail
 refine (rparse6_any a w ha).mono ?_
 rintro e w1 h1
 obtain ⟨v1, e1, t1, rfl, hb1, l, hl, hc1, a1, k1, rfl, hcap1, hs1⟩ := h1.open'
 have S1 := hid hs1
 have L1 := hid hl
 have C1 := hid hc1
 have B1 := hid hb1
 have HC1 := hid hcap1
 clear h1 hl hc1 hb1 hs1 hcap1
 have HA2 := hid (show Below w1.heap.size w1 (w1.alloc (.cells #[.int .i64 e1, .int .i64 t1] 99)) from (Below.refl _ _).alloc (Nat.le_refl _) _)
 have F2 := hid (heap_alloc_new w1 (.cells #[.int .i64 e1, .int .i64 t1] 99))
 go_upto_region 2 with fail
 generalize w1.alloc (.cells #[.int .i64 e1, .int .i64 t1] 99) = w2 at *
 have L2 := hid (L1.out.below HA2.out)
 have B2 := hid (B1.out.then HA2.out)
 clear L1 B1 HA2
 generalize w1.heap.size = Xb at *
 go_wp2_with fail
 refine (rparse6_any b w2 HB.out).mono ?_
 rintro e w3 h3
 obtain ⟨v3, e3, t3, rfl, hb3, m, hm, hc3, a3, k3, rfl, hcap3, _⟩ := h3.open'
 have L3 := hid (L2.out.below hb3)
 have M3 := hid hm
 have C3 := hid hc3
 have B3 := hid (B2.out.then hb3)
 have F3 := hid ((hb3.block _ (lt_of_block F2.out)).trans F2.out)
 clear h3 hm hc3 hb3 L2 B2 F2 hcap3
 have HA4 := hid (show Below w3.heap.size w3 (w3.alloc (.cells #[.int .i64 e3, .int .i64 t3] 99)) from (Below.refl _ _).alloc (Nat.le_refl _) _)
 have F4 := hid (heap_alloc_new w3 (.cells #[.int .i64 e3, .int .i64 t3] 99))
 go_upto_region 3 with fail
 generalize w3.alloc (.cells #[.int .i64 e3, .int .i64 t3] 99) = w4 at *
 have L4 := hid (L3.out.below HA4.out)
 have M4 := hid (M3.out.below HA4.out)
 have B4 := hid (B3.out.then HA4.out)
 have G4 := hid ((HA4.out.block _ (lt_of_block F3.out)).trans F3.out)
 clear L3 M3 B3 HA4 F3
 generalize w3.heap.size = Yb at *
 obtain ⟨x0, x1, _, _, xl⟩ := box2_cells G4.out
 obtain ⟨y0, y1, _, _, yl⟩ := box2_cells F4.out
 rcases C1.out with ⟨rfl, hp1⟩ | ⟨hz1, hp1⟩
 ·rcases C3.out with ⟨rfl, hp3⟩ | ⟨hz3, hp3⟩
  ·by_cases hle : m.length ≤ l.length
   ·have h64 := (path_all hp1).2.2.1
    have hzi : ¬ (l.length : Int) < (m.length : Int) := by omega
    have hml : (m.length : Int) ≤ (l.length : Int) := by omega
    have hm64 : (m.length : Int) ≤ 64 := by omega
    have hm0 : (0 : Int) ≤ (m.length : Int) := by omega
    have hcm : (m.length : Int) ≤ (k1 : Int) := by have := HC1.out; omega
    have HLE := hid hle
    have HP1 := hid hp1
    have HP3 := hid hp3
    obtain ⟨al, cl, el, _, _, hcl⟩ := L4.out.cells
    cases el
    obtain ⟨am, cm, em, _, _, hcm2⟩ := M4.out.cells
    cases em
    have HCL := hid hcl
    have HCM := hid hcm2
    clear hcl hcm2 C1 C3 hp1 hp3 hle
    go_upto_region 6 with fail
    go_loopg [40] m.length (fun g v40 W => ∃ k : Nat, k ≤ m.length ∧ m.length ≤ k + g ∧ v40 = .int .i64 k ∧ l.take k = m.take k ∧ Below w4.heap.size w4 W)
    case atStart => exact ⟨0, Nat.zero_le _, by omega, rfl, rfl, Below.refl _ _⟩
    case round =>
     obtain ⟨k, hk, hg, rfl, heq, bb⟩ := hrel
     rename World => w5
     have HG := hid hg
     have HEQ := hid heq
     have B5 := hid bb
     clear hg heq bb x0 x1 xl y0 y1 yl
     by_cases hlt : k < m.length
     ·have hni : (k : Int) < (m.length : Int) := by omega
      have hn0 : (0 : Int) ≤ (k : Int) := by omega
      have hkl : k < l.length := by have := HLE.out; omega
      have hnl : (k : Int) < (l.length : Int) := by omega
      obtain ⟨p, o, kx, rfl, hp, q0, q1, hkeysX⟩ := HCL.out k hkl
      obtain ⟨p', o', ky, rfl, hp', s0, s1, hkeysY⟩ := HCM.out k hlt
      have r0 := (B5.out.cell (p := ⟨p, o + k * 2, none⟩) hp).trans q0
      have r1 := (B5.out.cell (p := ⟨p, o + k * 2 + 1, none⟩) hp).trans q1
      have u0 := (B5.out.cell (p := ⟨p', o' + k * 2, none⟩) hp').trans s0
      have u1 := (B5.out.cell (p := ⟨p', o' + k * 2 + 1, none⟩) hp').trans s1
      have hp2 : p < w5.heap.size := Nat.lt_of_lt_of_le hp B5.out.size
      have hp2' : p' < w5.heap.size := Nat.lt_of_lt_of_le hp' B5.out.size
      have KX := hid (hkeysX.below B5.out)
      have KY := hid (hkeysY.below B5.out)
      have HTS := hid (take_same HLE.out hlt HEQ.out)
      have HTX := hid (text_eq_iff HP1.out HP3.out (List.getElem_mem hkl) (List.getElem_mem hlt))
      have HZX := hid (text_path_le HP1.out (List.getElem_mem hkl))
      have HZY := hid (text_path_le HP3.out (List.getElem_mem hlt))
      have HNE := hid (show l.take m.length = m → m[k]'hlt = l[k]'hkl from fun e => by
       have h2 : m[k]'hlt = (l.take m.length)[k]'(by rw [e]; exact hlt) := by simp only [e]
       rw [h2, List.getElem_take])
      clear q0 q1 s0 s1
      generalize l[k]'hkl = x at *
      generalize m[k]'hlt = y at *
      obtain ⟨nx, kkx⟩ := x
      obtain ⟨ny, kky⟩ := y
      obtain ⟨ax, cx, rfl, _⟩ := rdP_cells hkeysX
      obtain ⟨ay, cy, rfl, _⟩ := rdP_cells hkeysY
      simp only at r0 r1 u0 u1 KX KY
      clear hkeysX hkeysY
      have TY := hid (fun W (h : Below w5.heap.size w5 W) => rtext_any W (ny, kky) (.slice ay kky.length cy) (KY.out.below h) (by have := HZY.out; omega))
      have TX := hid (fun W (h : Below w5.heap.size w5 W) => rtext_any W (nx, kkx) (.slice ax kkx.length cx) (KX.out.below h) (by have := HZX.out; omega))
      have S0 : (w5.drew.cell? ⟨p, o + k * 2, none⟩ = some (.string ⟨nx.toArray⟩) ∧ w5.drew.cell? ⟨p, o + k * 2 + 1, none⟩ = some (.slice ax kkx.length cx) ∧ w5.drew.cell? ⟨p', o' + k * 2, none⟩ = some (.string ⟨ny.toArray⟩) ∧ w5.drew.cell? ⟨p', o' + k * 2 + 1, none⟩ = some (.slice ay kky.length cy) ∧ Below w5.heap.size w5 w5.drew) := ⟨r0, r1, u0, u1, (Below.refl _ _).drew⟩
      have KP := hid (fun (W W' : World) (h : (W.cell? ⟨p, o + k * 2, none⟩ = some (.string ⟨nx.toArray⟩) ∧ W.cell? ⟨p, o + k * 2 + 1, none⟩ = some (.slice ax kkx.length cx) ∧ W.cell? ⟨p', o' + k * 2, none⟩ = some (.string ⟨ny.toArray⟩) ∧ W.cell? ⟨p', o' + k * 2 + 1, none⟩ = some (.slice ay kky.length cy) ∧ Below w5.heap.size w5 W)) (hb : Below W.heap.size W W') => (show (W'.cell? ⟨p, o + k * 2, none⟩ = some (.string ⟨nx.toArray⟩) ∧ W'.cell? ⟨p, o + k * 2 + 1, none⟩ = some (.slice ax kkx.length cx) ∧ W'.cell? ⟨p', o' + k * 2, none⟩ = some (.string ⟨ny.toArray⟩) ∧ W'.cell? ⟨p', o' + k * 2 + 1, none⟩ = some (.slice ay kky.length cy) ∧ Below w5.heap.size w5 W') from
       ⟨(hb.cell (p := ⟨p, o + k * 2, none⟩) (Nat.lt_of_lt_of_le hp2 h.2.2.2.2.size)).trans h.1, (hb.cell (p := ⟨p, o + k * 2 + 1, none⟩) (Nat.lt_of_lt_of_le hp2 h.2.2.2.2.size)).trans h.2.1, (hb.cell (p := ⟨p', o' + k * 2, none⟩) (Nat.lt_of_lt_of_le hp2' h.2.2.2.2.size)).trans h.2.2.1, (hb.cell (p := ⟨p', o' + k * 2 + 1, none⟩) (Nat.lt_of_lt_of_le hp2' h.2.2.2.2.size)).trans h.2.2.2.1, h.2.2.2.2.then hb⟩))
      have KTX := hid (fun (W : World) (h : (W.cell? ⟨p, o + k * 2, none⟩ = some (.string ⟨nx.toArray⟩) ∧ W.cell? ⟨p, o + k * 2 + 1, none⟩ = some (.slice ax kkx.length cx) ∧ W.cell? ⟨p', o' + k * 2, none⟩ = some (.string ⟨ny.toArray⟩) ∧ W.cell? ⟨p', o' + k * 2 + 1, none⟩ = some (.slice ay kky.length cy) ∧ Below w5.heap.size w5 W)) => (show Calls Tryz.prog 49 #[.agg #[.string ⟨nx.toArray⟩, .slice ax kkx.length cx]] W fun e w' => e = .returned (.string ⟨(textP (nx, kkx)).toArray⟩) ∧ (w'.cell? ⟨p, o + k * 2, none⟩ = some (.string ⟨nx.toArray⟩) ∧ w'.cell? ⟨p, o + k * 2 + 1, none⟩ = some (.slice ax kkx.length cx) ∧ w'.cell? ⟨p', o' + k * 2, none⟩ = some (.string ⟨ny.toArray⟩) ∧ w'.cell? ⟨p', o' + k * 2 + 1, none⟩ = some (.slice ay kky.length cy) ∧ Below w5.heap.size w5 w') from (TX.out W h.2.2.2.2).mono fun e w' hh => ⟨hh.1, KP.out _ _ h hh.2⟩))
      have KTY := hid (fun (W : World) (h : (W.cell? ⟨p, o + k * 2, none⟩ = some (.string ⟨nx.toArray⟩) ∧ W.cell? ⟨p, o + k * 2 + 1, none⟩ = some (.slice ax kkx.length cx) ∧ W.cell? ⟨p', o' + k * 2, none⟩ = some (.string ⟨ny.toArray⟩) ∧ W.cell? ⟨p', o' + k * 2 + 1, none⟩ = some (.slice ay kky.length cy) ∧ Below w5.heap.size w5 W)) => (show Calls Tryz.prog 49 #[.agg #[.string ⟨ny.toArray⟩, .slice ay kky.length cy]] W fun e w' => e = .returned (.string ⟨(textP (ny, kky)).toArray⟩) ∧ (w'.cell? ⟨p, o + k * 2, none⟩ = some (.string ⟨nx.toArray⟩) ∧ w'.cell? ⟨p, o + k * 2 + 1, none⟩ = some (.slice ax kkx.length cx) ∧ w'.cell? ⟨p', o' + k * 2, none⟩ = some (.string ⟨ny.toArray⟩) ∧ w'.cell? ⟨p', o' + k * 2 + 1, none⟩ = some (.slice ay kky.length cy) ∧ Below w5.heap.size w5 w') from (TY.out W h.2.2.2.2).mono fun e w' hh => ⟨hh.1, KP.out _ _ h hh.2⟩))
      clear r0 r1 u0 u1 hp2 hp2' hp hp' TX TY KP KX KY
      by_cases hxy : (ny, kky) = (nx, kkx)
      ·have HNX := hid (HTS.out.2 hxy)
       have e1 : nx = ny := (Prod.mk.inj hxy).1.symm
       have e2 : kkx = kky := (Prod.mk.inj hxy).2.symm
       subst e1 e2
       clear hxy HTS HTX HNE
       generalize textP (nx, kkx) = tx at *
       go_upto_region 8 with fail
       go_region_held3 (fun W => W.cell? ⟨p, o + k * 2, none⟩ = some (.string ⟨nx.toArray⟩) ∧ W.cell? ⟨p, o + k * 2 + 1, none⟩ = some (.slice ax kkx.length cx) ∧ W.cell? ⟨p', o' + k * 2, none⟩ = some (.string ⟨nx.toArray⟩) ∧ W.cell? ⟨p', o' + k * 2 + 1, none⟩ = some (.slice ay kkx.length cy) ∧ Below w5.heap.size w5 W) (first | with_reducible assumption) (first
        | (go_at_call 49; (with_reducible refine (KTX.out _ (by assumption)).mono ?_); rintro e w' ⟨rfl, hs'⟩)
        | (go_at_call 49; (with_reducible refine (KTY.out _ (by assumption)).mono ?_); rintro e w' ⟨rfl, hs'⟩))
       all_goals
        rename World => w9
        have HB9 := hid (show Below w5.heap.size w5 w9 from hs'.2.2.2.2)
        clear S0 hs' KTX KTY
        go_wp2_with fail
        go_roundg (gk - 1)
       all_goals first
        | (have := HG.out; omega)
        | exact ⟨k + 1, by omega, by have := HG.out; omega, by simp, HNX.out, B5.out.then HB9.out⟩
      ·have hte : textP (ny, kky) ≠ textP (nx, kkx) := fun e => hxy (HTX.out.1 e)
       have hbe : (textP (ny, kky) == textP (nx, kkx)) = false := beq_eq_false_iff_ne.2 hte
       have HR := hid (show restF a b = none by
        unfold restF
        rw [HP1.out, HP3.out]
        exact if_neg (fun h => hxy (HNE.out h.2)))
       clear hxy HTS HTX HNE
       generalize textP (ny, kky) = ty at *
       generalize textP (nx, kkx) = tx at *
       go_upto_region 8 with fail
       go_region_held3 (fun W => W.cell? ⟨p, o + k * 2, none⟩ = some (.string ⟨nx.toArray⟩) ∧ W.cell? ⟨p, o + k * 2 + 1, none⟩ = some (.slice ax kkx.length cx) ∧ W.cell? ⟨p', o' + k * 2, none⟩ = some (.string ⟨ny.toArray⟩) ∧ W.cell? ⟨p', o' + k * 2 + 1, none⟩ = some (.slice ay kky.length cy) ∧ Below w5.heap.size w5 W) (first | with_reducible assumption) (first
        | (go_at_call 49; (with_reducible refine (KTX.out _ (by assumption)).mono ?_); rintro e w' ⟨rfl, hs'⟩)
        | (go_at_call 49; (with_reducible refine (KTY.out _ (by assumption)).mono ?_); rintro e w' ⟨rfl, hs'⟩))
       all_goals
        rename World => w9
        have HB9 := hid (show Below w5.heap.size w5 w9 from hs'.2.2.2.2)
        clear S0 hs' KTX KTY
        go_wp2_with fail
        exact bodyPost_ret (v := .tuple #[.string ⟨#[]⟩, .bool false]) (by simp [results, Tryz.results31, go_sem]) rfl ⟨by rw [HR.out]; rfl, B4.out.then (B5.out.then HB9.out)⟩
     ·have hni : ¬ (k : Int) < (m.length : Int) := by omega
      have hkm : k = m.length := by omega
      have HR := hid (show restF a b = some (joinT (l.drop m.length)) by
       unfold restF
       rw [HP1.out, HP3.out]
       exact if_pos ⟨HLE.out, by have := HEQ.out; rw [hkm, List.take_length] at this; exact this⟩)
      have HDA := hid (print_drop HP1.out m.length)
      have HDM := hid (all_drop (path_all HP1.out).1 m.length)
      have HDZ := hid (show (joinT (l.drop m.length)).length ≤ 140737488355328 by have h1 := join_drop_le l m.length; have h2 := (path_all HP1.out).2.2.2.1; omega)
      have L5 := hid (L4.out.below B5.out)
      have B6 := hid (B4.out.then B5.out)
      clear HCL HCM
      rcases S1.out with ⟨rfl, rfl, rfl⟩ | ⟨g, rfl⟩
      ·obtain rfl : m = [] := List.eq_nil_of_length_eq_zero (by have := HLE.out; simpa using this)
       have PR := hid (fun W (h : Below w5.heap.size w5 W) => (show Calls Tryz.prog 50 #[.slice none 0 0] W fun e w' => e = .returned (prV (some [])) ∧ Below W.heap.size W w' from rprint6_any W (.slice none 0 0) [] ⟨[], rfl, RdL.nil _ _, fun z hz => by cases hz⟩ rfl (by simp [joinT])))
       clear L5 HDA HDM HDZ
       go_wp2_with (go_at_call 50; refine (PR.out _ (Below.refl _ _)).mono ?_; unfold prV; rintro e w9 ⟨rfl, hb9⟩; have B9 := hid (B6.out.then hb9); clear hb9)
       exact bodyPost_ret (v := .tuple #[.string ⟨#[]⟩, .bool true]) (by simp [results, Tryz.results31, go_sem]) rfl ⟨by rw [HR.out]; rfl, B9.out⟩
      ·have KEY := hid (show ∀ kc : Nat, kc = k1 → ∃ u : Value, RdSt w5 u (l.drop m.length) ∧ ((k1 = m.length ∧ u = .slice (some ⟨g, 0, none⟩) 0 0) ∨ (¬ k1 = m.length ∧ u = .slice (some ⟨g, 0 + m.length * 2, none⟩) (l.length - m.length) (k1 - m.length))) from fun kc _ => by
        by_cases hkk : k1 = m.length
        ·refine ⟨_, ?_, Or.inl ⟨hkk, rfl⟩⟩
         rw [List.drop_eq_nil_of_le (by have := HC1.out; omega)]
         exact ⟨[], rfl, ⟨_, _, rfl, ⟨Nat.le_refl _, by simp, fun e => by cases e⟩, fun h => absurd rfl h⟩, fun z hz => by cases hz⟩
        ·obtain ⟨zs, z1, z2, z3⟩ := L5.out.drop m.length HLE.out
         exact ⟨_, ⟨zs, z1, z2, z3⟩, Or.inr ⟨hkk, rfl⟩⟩)
       obtain ⟨u, hu, hc⟩ := KEY.out k1 rfl
       have PR := hid (rprint6_any w5 u (l.drop m.length) hu HDM.out HDZ.out)
       rw [HDA.out] at PR
       clear KEY L5 HDA HDM HDZ hu
       generalize joinT (l.drop m.length) = jt at *
       rcases hc with ⟨hkk, rfl⟩ | ⟨hkk, rfl⟩
       ·subst hkk
        have hlm : l.length - m.length = 0 := by have := HC1.out; omega
        go_wp2_with (go_at_call 50; refine PR.out.mono ?_; unfold prV; rintro e w9 ⟨rfl, hb9⟩; have B9 := hid (B6.out.then hb9); clear hb9)
        exact bodyPost_ret (v := .tuple #[.string ⟨jt.toArray⟩, .bool true]) (by simp [results, Tryz.results31, go_sem]) rfl ⟨by rw [HR.out]; rfl, B9.out⟩
       ·have hki : ¬ (k1 : Int) = (m.length : Int) := by omega
        rw [Nat.zero_add] at PR
        go_wp2_with (go_at_call 50; refine PR.out.mono ?_; unfold prV; rintro e w9 ⟨rfl, hb9⟩; have B9 := hid (B6.out.then hb9); clear hb9)
        exact bodyPost_ret (v := .tuple #[.string ⟨jt.toArray⟩, .bool true]) (by simp [results, Tryz.results31, go_sem]) rfl ⟨by rw [HR.out]; rfl, B9.out⟩
   ·have hzi : (l.length : Int) < (m.length : Int) := by omega
    have HR := hid (show restF a b = none by unfold restF; rw [hp1, hp3]; exact if_neg (fun h => hle h.1))
    clear hp1 hp3 C1 C3
    go_wp2_with fail
    exact bodyPost_ret (v := .tuple #[.string ⟨#[]⟩, .bool false]) (by simp [results, Tryz.results31, go_sem]) rfl ⟨by rw [HR.out]; rfl, B4.out⟩
  ·have hne : (e3 : Int) ≠ 0 := by omega
   have HR := hid (show restF a b = none by unfold restF; rw [hp1, hp3])
   clear hp1 hp3 C1 C3
   go_wp2_with fail
   exact bodyPost_ret (v := .tuple #[.string ⟨#[]⟩, .bool false]) (by simp [results, Tryz.results31, go_sem]) rfl ⟨by rw [HR.out]; rfl, B4.out⟩
 ·have hne : (e1 : Int) ≠ 0 := by omega
  have HR := hid (show restF a b = none by unfold restF; rw [hp1])
  clear hp1 C1 C3
  go_wp2_with fail
  exact bodyPost_ret (v := .tuple #[.string ⟨#[]⟩, .bool false]) (by simp [results, Tryz.results31, go_sem]) rfl ⟨by rw [HR.out]; rfl, B4.out⟩
end Go.Proofs.YtjlfchnnhglbjaaGreat
