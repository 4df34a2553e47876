/- TableWithin: what a locale says within a group, in order, for all documents, locales and groups. No condition. -/
import Derived.Test.YtjlfchnnhglbjaaGreatWX
import Derived.Test.YtjlfchnnhglbjaaGreatWU
import Derived.Test.YtjlfchnnhglbjaaGreatWS
import Derived.Test.YtjlfchnnhglbjaaGreatRows
import Derived.Test.YtjlfchnnhglbjaaGreatWG
import Derived.WalkKit
import Derived.ProofKit
import Derived.OpenShut
import Derived.ShutString
import Derived.ChangeOld
import Derived.ChangeSlices
import Derived.ChangeArms
import Derived.Below
set_option linter.unusedVariables false
set_option linter.unusedSimpArgs false
namespace Go.Proofs.YtjlfchnnhglbjaaGreat
open Go.RowKit Go.Lib Go.Sort Go.Maps Go.WideMaps Go.Shelf
attribute [local go_sem] Oper.semAt_some
theorem func_eql (f : Nat) (a b c : Value) (w : World) : Sem.run Tryz.prog (binOp BinOp.eql 66 (.func (.func f) #[] #[a, b, c]) .nilFunc) w = .ok (.bool false) w := by kernel_rfl
attribute [local go_sem] func_eql
theorem keeps_below {W W' : World} (h : Below W.heap.size W W') : KeepsOthers W W' := ⟨h.size, fun k o hk _ => (h.block k (Array.getElem?_eq_some_iff.1 hk).1).trans hk⟩
theorem KpB.setk {kb n0 i : Nat} {A : World} (h : kb < n0) (v : Value) (_ : Nat) : KpB kb n0 A (A.setCell ⟨kb, i, none⟩ v) :=
 ⟨by simp, fun k _ h2 => Below.heap_setCell A ⟨kb, i, none⟩ v k h2, fun k cs ty hn hc => (Below.heap_setCell A ⟨kb, i, none⟩ v k (by show k ≠ kb; omega)).trans hc⟩
set_option maxRecDepth 100000 in
set_option maxHeartbeats 16000000 in
theorem within12_any (w : World) (l : List Dc) (v : Value) (loc grp0 : Str) (hd : RdD w v l) (hs : SzL l) (hloc : loc.length ≤ maxLen) (hgrp : grp0.length ≤ maxLen) :
  Calls Tryz.prog 7 #[v, .string ⟨loc.toArray⟩, .string ⟨grp0.toArray⟩] w fun e w' => e = .returned (.bool true) ∧ Below w.heap.size w w' := by
 have WK := hid (fun W => twakes_any W)
 have CU := hid (fun W h => cut_any W l v h)
 have HD := hid hd
 have HSZ := hid (sz_cut hs)
 have H12 := hid (cutD_len l)
 have H40 := hid (fun d h => cutD_40 (l := l) (d := d) h)
 have HLOC := hid hloc
 have HP6 := hid (show (grp0.take 600).length ≤ maxLen by rw [List.length_take]; omega)
 have HEX := hid (ext600 grp0)
 clear hd hs hloc
 refine (callsIn_wide (n := 6)).1 ?_
 refine callsIn_of_wp_marks Tryz.func7 rfl trivial ?_ rfl
 simp only [Tryz.ntmps7, List.size_toArray, List.length_cons, List.length_nil, Nat.reduceAdd, Nat.reduceSub, Array.replicate_succ, Array.replicate_zero, List.push_toArray, List.append_toArray, List.nil_append, List.cons_append]
 refine wpIn_wide.2 ?_
 have B0 := hid (show Below w.heap.size w ((w.alloc (.cells #[.string ⟨loc.toArray⟩] 9)).alloc (.cells #[.bool false] 4)) from below2 w _ _)
 have L0 := hid (show ((w.alloc (.cells #[.string ⟨loc.toArray⟩] 9)).alloc (.cells #[.bool false] 4)).heap[w.heap.size]? = some (.cells #[.string ⟨loc.toArray⟩] 9 (0, 0)) from (Below.heap_alloc _ _ _ (lt_of_block (heap_alloc_new w _))).trans (heap_alloc_new w _))
 have F0 := hid (show ((w.alloc (.cells #[.string ⟨loc.toArray⟩] 9)).alloc (.cells #[.bool false] 4)).heap[w.heap.size + 1]? = some (.cells #[.bool false] 4 (0, 0)) from by
  have := heap_alloc_new (w.alloc (.cells #[.string ⟨loc.toArray⟩] 9)) (.cells #[.bool false] 4)
  rw [show (w.alloc (.cells #[.string ⟨loc.toArray⟩] 9)).heap.size = w.heap.size + 1 by simp] at this
  exact this)
 go_upto_region 1 with fail
 generalize (w.alloc (.cells #[.string ⟨loc.toArray⟩] 9)).alloc (.cells #[.bool false] 4) = w0 at *
 go_wp2_with fail
 refine (WK.out w0).mono ?_
 rintro e w1 ⟨rfl, hb1⟩
 have B1 := hid (B0.out.then hb1)
 have L1 := hid ((hb1.block _ (lt_of_block L0.out)).trans L0.out)
 have F1 := hid ((hb1.block _ (lt_of_block F0.out)).trans F0.out)
 have HD1 := hid (show RdD w1 v l from by
  obtain ⟨zs, h1, h2, h3⟩ := HD.out
  exact ⟨zs, h1, h2.below B1.out, fun z hz => (h3 z hz).below B1.out⟩)
 clear hb1 B0 L0 F0
 go_wp2_with fail
 refine (CU.out w1 HD1.out).mono ?_
 rintro e w2 ⟨v2, rfl, hod, hb2⟩
 have B2 := hid (B1.out.then hb2)
 have L2 := hid ((hb2.block _ (lt_of_block L1.out)).trans L1.out)
 have F2 := hid ((hb2.block _ (lt_of_block F1.out)).trans F1.out)
 have OD := hid hod
 clear hb2 hod HD HD1 B1 L1 F1
 generalize cutD l = D at *
 go_wp2_with fail
 refine (made12_any w2 D v2 OD.out.rd HSZ.out H12.out H40.out).mono ?_
 rintro x w3 ⟨hb3, hx⟩
 have B3 := hid (B2.out.then hb3)
 have L3 := hid ((hb3.block _ (lt_of_block L2.out)).trans L2.out)
 have F3 := hid ((hb3.block _ (lt_of_block F2.out)).trans F2.out)
 clear hb3 B2 L2 F2 OD WK CU
 rcases hx with ⟨hz, Bt, Br, rfl, tp, rp, ok⟩ | ⟨hz, rfl⟩
 ·have T3 := hid tp
  have R3 := hid rp
  have OK := hid ok
  have HCN := hid (show (newF D).2.rows.length + (newF D).2.als.length ≤ 480 by have h1 := new_cnt D 40 H40.out; have h2 : 40 * D.length ≤ 40 * 12 := Nat.mul_le_mul_left _ H12.out; omega)
  have SZT := hid (szT_of HSZ.out hz)
  clear tp rp ok hz
  generalize (newF D).2 = t at *
  have RP := hid (fun W (h : RfP w2.heap.size W Br t) s => rpaths_any h s (by have := HCN.out; omega))
  have RG := hid (fun W (h : RfP w2.heap.size W Br t) s p => rget_any h s p)
  have HPZ := hid (fun p (h : p ∈ pathsF t loc) => paths_sz SZT.out h)
  have HLP := hid (show (pathsF t loc).length ≤ 480 by unfold pathsF srtT rowsOf; rw [List.length_mergeSort, List.length_map]; have h1 := List.length_filter_le (fun r : Rw => r.loc == loc) t.rows; have := HCN.out; omega)
  go_upto_region 5 with fail
  have HA4 := hid (show Below w3.heap.size w3 (w3.alloc (.cells #[.pointer (some ⟨Br, 0, none⟩)] 38)) from (Below.refl _ _).alloc (Nat.le_refl _) _)
  have W4 := hid (heap_alloc_new w3 (.cells #[.pointer (some ⟨Br, 0, none⟩)] 38))
  generalize w3.alloc (.cells #[.pointer (some ⟨Br, 0, none⟩)] 38) = w4 at *
  have B4 := hid (B3.out.then HA4.out)
  have L4 := hid ((HA4.out.block _ (lt_of_block L3.out)).trans L3.out)
  have F4 := hid ((HA4.out.block _ (lt_of_block F3.out)).trans F3.out)
  have T4 := hid (T3.out.below HA4.out)
  have R4 := hid (R3.out.below HA4.out)
  clear HA4 B3 L3 F3 T3 R3
  generalize w3.heap.size = Wb at *
  have hmn1 : (0 : Int) ≤ min (grp0.length : Int) 600 := by omega
  have hmn2 : min (grp0.length : Int) 600 ≤ (grp0.length : Int) := by omega
  go_upto_region 8 with fail
  rw [HEX.out]
  clear hmn1 hmn2 HEX
  generalize grp0.take 600 = grp at *
  have l0 : w4.cell? ⟨w.heap.size, 0, none⟩ = some (.string ⟨loc.toArray⟩) := by rw [cell_of_row _ _ _ _ _ _ L4.out]; rfl
  have l1 := lt_of_block L4.out
  go_wp2_with fail
  refine (within_any (some ⟨Bt, 0, none⟩) loc grp w4).mono ?_
  rintro e w5 ⟨rfl, hw5⟩
  have HB5 := hid (show Below w4.heap.size w4 w5 from by rw [hw5]; exact (((Below.refl _ _).alloc (Nat.le_refl _) _).alloc (by simp) _).alloc (by simp; omega) _)
  have C0 := hid (show w5.heap[w4.heap.size]? = some (.cells #[.pointer (some ⟨Bt, 0, none⟩)] 31 (0, 0)) from by rw [hw5]; exact (Below.heap_alloc _ _ _ (by simp; omega)).trans ((Below.heap_alloc _ _ _ (by simp)).trans (heap_alloc_new w4 _)))
  have C1 := hid (show w5.heap[w4.heap.size + 1]? = some (.cells #[.string ⟨loc.toArray⟩] 9 (0, 0)) from by
   rw [hw5]
   have e := heap_alloc_new (w4.alloc (.cells #[.pointer (some ⟨Bt, 0, none⟩)] 31)) (.cells #[.string ⟨loc.toArray⟩] 9)
   rw [show (w4.alloc (.cells #[.pointer (some ⟨Bt, 0, none⟩)] 31)).heap.size = w4.heap.size + 1 by simp] at e
   exact (Below.heap_alloc _ _ _ (by simp)).trans e)
  have C2 := hid (show w5.heap[w4.heap.size + 1 + 1]? = some (.cells #[.string ⟨grp.toArray⟩] 9 (0, 0)) from by
   rw [hw5]
   have e := heap_alloc_new ((w4.alloc (.cells #[.pointer (some ⟨Bt, 0, none⟩)] 31)).alloc (.cells #[.string ⟨loc.toArray⟩] 9)) (.cells #[.string ⟨grp.toArray⟩] 9)
   rw [show ((w4.alloc (.cells #[.pointer (some ⟨Bt, 0, none⟩)] 31)).alloc (.cells #[.string ⟨loc.toArray⟩] 9)).heap.size = w4.heap.size + 1 + 1 by simp] at e
   exact e)
  have B5 := hid (B4.out.then HB5.out)
  have L5 := hid ((HB5.out.block _ (lt_of_block L4.out)).trans L4.out)
  have F5 := hid ((HB5.out.block _ (lt_of_block F4.out)).trans F4.out)
  have W5 := hid ((HB5.out.block _ (lt_of_block W4.out)).trans W4.out)
  have T5 := hid (T4.out.below HB5.out)
  have R5 := hid (R4.out.below HB5.out)
  clear HB5 hw5 B4 L4 F4 W4 T4 R4 l0 l1
  generalize w4.heap.size = Cb at *
  have KF := hid (fun W (h : Below w5.heap.size w5 W) => show W.cell? ⟨w.heap.size, 0, none⟩ = some (.string ⟨loc.toArray⟩) ∧ w.heap.size < W.heap.size ∧ W.cell? ⟨Wb, 0, none⟩ = some (.pointer (some ⟨Br, 0, none⟩)) ∧ Wb < W.heap.size from
   ⟨by rw [cell_of_row _ _ _ _ _ _ ((h.block _ (lt_of_block L5.out)).trans L5.out)]; rfl, Nat.lt_of_lt_of_le (lt_of_block L5.out) h.size, by rw [cell_of_row _ _ _ _ _ _ ((h.block _ (lt_of_block W5.out)).trans W5.out)]; rfl, Nat.lt_of_lt_of_le (lt_of_block W5.out) h.size⟩)
  have HA6 := hid (show Below w5.heap.size w5 (w5.alloc (.cells #[.slice none 0 0] 41)) from (Below.refl _ _).alloc (Nat.le_refl _) _)
  have P6 := hid (heap_alloc_new w5 (.cells #[.slice none 0 0] 41))
  go_upto_region 12 with fail
  generalize w5.alloc (.cells #[.slice none 0 0] 41) = w6 at *
  have R6 := hid (R5.out.below HA6.out)
  obtain ⟨l0, l1, l2, l3⟩ := KF.out w6 HA6.out
  go_wp2_with fail
  refine (RP.out w6 R6.out loc).mono ?_
  rintro e w7 ⟨v7, rfl, o7, hb7⟩
  have O7 := hid (ownT_S.2 o7)
  have A7 := hid (HA6.out.then hb7)
  have P7 := hid ((hb7.block _ (lt_of_block P6.out)).trans P6.out)
  obtain ⟨a7, c7, rfl⟩ := own_sliceS o7
  clear o7 hb7 P6 R6 l0 l1 l2 l3 HA6
  generalize hps : pathsF t loc = ps at *
  have HPS := hid hps
  clear hps
  have RS := hid (fun W p (hp : p ∈ ps) => rrest_any W p grp (HPZ.out p hp) HP6.out)
  go_upto_region 13 with fail
  go_loopg [50] ps.length (fun g v50 W => ∃ (k : Nat) (vp : Value), k ≤ ps.length ∧ ps.length ≤ k + g ∧ v50 = .int .i64 k ∧ W.heap[w5.heap.size]? = some (.cells #[vp] 41 (0, 0)) ∧ OwnS W w7.heap.size vp ((ps.take k).filter fun p => inB p grp) ∧ Below w5.heap.size w5 W ∧ But w5.heap.size w7.heap.size w7 W)
  case atStart => exact ⟨0, _, Nat.zero_le _, by omega, rfl, P7.out, ⟨rfl, Or.inl ⟨rfl, rfl⟩⟩, A7.out, But.refl _ _ _⟩
  case round =>
   obtain ⟨k, vp, hk, hg, rfl, hP, hO, hB, hU⟩ := hrel
   rename World => w8
   have HG := hid hg
   have P8 := hid hP
   have O8 := hid hO
   have A8 := hid hB
   have U8 := hid hU
   clear hg hP hO hB hU
   by_cases hlt : k < ps.length
   ·have hni : (k : Int) < (ps.length : Int) := by omega
    have hn0 : (0 : Int) ≤ (k : Int) := by omega
    have hpz : (ps.length : Int) ≤ 480 := by have := HLP.out; omega
    have hso := O7.out
    have O7w := hid (own_but hso U8.out (Nat.le_refl _) P7.out (by decide))
    obtain ⟨gb, rfl⟩ := OwnL.some' hso (by intro e; rw [e] at hlt; simp at hlt)
    obtain ⟨r0, _, gl⟩ := OwnL.cell O7w.out k 0 (.string ⟨(ps[k]'hlt).toArray⟩) hlt rfl
    rw [Nat.mul_one, Nat.add_zero] at r0
    have HMP := hid (List.getElem_mem hlt)
    have HFT := hid (flt_take (grp := grp) hlt)
    generalize ps[k]'hlt = p at *
    clear hso
    have RSp := hid (RS.out w8 p HMP.out)
    cases hin : inB p grp with
    | false =>
     have HIN := hid hin
     rw [hin] at HFT
     have hrf : restF p grp = none := by
      cases hr : restF p grp with
      | none => rfl
      | some q => unfold inB at hin; rw [hr] at hin; cases hin
     rw [hrf] at RSp
     clear hin hrf
     go_wp2_with (go_at_call 31; refine RSp.out.mono ?_; unfold restV; rintro e w9 ⟨rfl, hb9⟩; have P9 := hid ((hb9.block _ (lt_of_block P8.out)).trans P8.out); have O9 := hid (show OwnS w9 w7.heap.size vp _ from own_below O8.out hb9); have A9 := hid (A8.out.then hb9); have U9 := hid (U8.out.then hb9 (Nat.le_refl _)); clear hb9)
     go_roundg (gk - 1)
     case measure => have := HG.out; omega
     case rel => exact ⟨k + 1, vp, by omega, by have := HG.out; omega, by simp, P9.out, by rw [HFT.out]; simpa using O9.out, A9.out, U9.out⟩
    | true =>
     have HIN := hid hin
     rw [hin, if_pos rfl] at HFT
     obtain ⟨q, hrf⟩ := Option.isSome_iff_exists.1 (show (restF p grp).isSome = true from hin)
     rw [hrf] at RSp
     clear hin hrf
     go_upto_region 17 with (go_at_call 31; refine RSp.out.mono ?_; unfold restV; rintro e w9 ⟨rfl, hb9⟩; have P9 := hid ((hb9.block _ (lt_of_block P8.out)).trans P8.out); have O9 := hid (show OwnS w9 w7.heap.size vp _ from own_below O8.out hb9); have A9 := hid (A8.out.then hb9); have U9 := hid (U8.out.then hb9 (Nat.le_refl _)); clear hb9)
     have HLL := hid (show ((ps.take k).filter fun p => inB p grp).length ≤ 480 by
      have h1 := List.length_filter_le (fun p => inB p grp) (ps.take k)
      rw [List.length_take] at h1
      have := HLP.out
      omega)
     have pc : w9.cell? ⟨w5.heap.size, 0, none⟩ = some vp := by rw [cell_of_row _ _ _ _ _ _ P9.out]; rfl
     have pl := lt_of_block P9.out
     have HZ9 := hid (show w7.heap.size ≤ w9.heap.size from U9.out.size)
     have HZ7 := hid (show w5.heap.size ≤ w7.heap.size from A7.out.size)
     clear r0 gl
     go_wp2_with (at_builtin; refine wpList_pushS rfl (.tmp 61) (.tmp 63) rfl w7.heap.size _ _ p rfl O9.out rfl (by have := HLL.out; omega) HZ9.out ?_; intro va wa own gr mv; have Pa := hid ((gr.block w5.heap.size (lt_of_block P9.out) (Ne.symm (own_type O9.out P9.out (by decide)))).trans P9.out); have Oa := hid (show OwnS wa w7.heap.size va (((ps.take k).filter fun p => inB p grp) ++ [p]) from own); have Aa := hid (A9.out.grown gr (Nat.le_trans HZ7.out HZ9.out) (fun k hk => Nat.le_trans HZ7.out (World.ownsRow.lt O9.out k hk).1)); have Ua := hid (U9.out.grown (Nat.le_refl _) O9.out gr); clear own gr mv; obtain ⟨aw, cw, rfl⟩ := own_sliceS Oa.out; have pfa := frozen_of_row wa w5.heap.size 0 _ _ Pa.out; have pla := lt_of_block Pa.out; have pca : wa.cell? ⟨w5.heap.size, 0, none⟩ = some vp := by rw [cell_of_row _ _ _ _ _ _ Pa.out]; rfl)
     go_roundg (gk - 1)
     case measure => have := HG.out; omega
     case rel => exact ⟨k + 1, .slice aw (((ps.take k).filter fun p => inB p grp) ++ [p]).length cw, by omega, by have := HG.out; omega, by simp, by rw [heap_setCell_same _ _ _ _ _ _ Pa.out]; simp, by rw [HFT.out]; exact own_set Oa.out (own_type Oa.out Pa.out (by decide)) 0 _, Aa.out.setCell (p := ⟨w5.heap.size, 0, none⟩) (Nat.le_refl _) _, Ua.out.set⟩
   ·have hni : ¬ (k : Int) < (ps.length : Int) := by omega
    have hkn : k = ps.length := by omega
    have HFA := hid (show (ps.take k).filter (fun p => inB p grp) = (inP t loc grp ps).map (·.1) by rw [hkn, List.take_length, inP_keys])
    rw [HFA.out] at O8
    obtain ⟨ap, cp, rfl⟩ := own_sliceS O8.out
    have HFL := hid (fun (x : Str × Str) (h : x ∈ inP t loc grp ps) => inP_text h)
    have HPI := hid (show inP t loc grp (pathsF t loc) = inP t loc grp ps by rw [HPS.out])
    have HLI := hid (show (inP t loc grp ps).length ≤ 480 by
     have h1 := congrArg List.length (inP_keys t loc grp ps)
     rw [List.length_map] at h1
     have h2 := List.length_filter_le (fun p => inB p grp) ps
     have := HLP.out
     omega)
    have HLM := hid (show ((inP t loc grp ps).map (·.1)).length = (inP t loc grp ps).length from List.length_map _)
    rw [HLM.out] at P8 O8
    generalize inP t loc grp ps = L at *
    have T8 := hid (T5.out.below A8.out)
    have R8 := hid (R5.out.below A8.out)
    have C08 := hid ((A8.out.block _ (lt_of_block C0.out)).trans C0.out)
    have C18 := hid ((A8.out.block _ (lt_of_block C1.out)).trans C1.out)
    have C28 := hid ((A8.out.block _ (lt_of_block C2.out)).trans C2.out)
    have F8 := hid ((A8.out.block _ (lt_of_block F5.out)).trans F5.out)
    have B8 := hid (B5.out.then A8.out)
    have HWZ := hid (show w.heap.size ≤ w8.heap.size from B8.out.size)
    have HWB := hid (show w.heap.size ≤ w.heap.size + 1 from by omega)
    have K8 := hid (fun W (h : Below w8.heap.size w8 W) => KF.out W (A8.out.then h))
    clear T5 R5 C0 C1 C2 F5 B5 KF A8 U8 O7 P7 A7 HFA
    go_upto_region 20 with fail
    refine wp_loop_ghost_k (fun g a' W => ∃ (L' : List Value) (ds : List Deferred), (L'.length = 105 ∧ L'.getD 4 undef = .pointer (some ⟨w.heap.size, 0, none⟩) ∧ L'.getD 6 undef = .pointer (some ⟨w.heap.size + 1, 0, none⟩) ∧ L'.getD 8 undef = .pointer (some ⟨Wb, 0, none⟩) ∧ L'.getD 10 undef = .func (.func 46) #[] #[.pointer (some ⟨Cb, 0, none⟩), .pointer (some ⟨Cb + 1, 0, none⟩), .pointer (some ⟨Cb + 1 + 1, 0, none⟩)] ∧ L'.getD 11 undef = .pointer (some ⟨w5.heap.size, 0, none⟩) ∧ MarksIn w8.heap.size W ds ∧ Below w8.heap.size w8 W ∧ ∃ j : Nat, j ≤ 2 ∧ 2 ≤ j + g ∧ L'.getD 16 undef = .int .i64 j) ∧ a' = ⟨L'.toArray, ds⟩) 2 ?start ?round
    case start => exact ⟨_, _, ⟨rfl, rfl, rfl, rfl, rfl, rfl, MarksIn.nil _ _, Below.refl _ _, 0, by omega, by omega, rfl⟩, rfl⟩
    case round =>
     rintro gk a' wr ⟨L', ds, ⟨hlen, e4, e6, e8, e10, e11, hm, hb, j, hj, hg, e16⟩, rfl⟩
     obtain ⟨f, rfl⟩ := lit_map L' 105 hlen
     change f 4 = _ at e4
     change f 6 = _ at e6
     change f 8 = _ at e8
     change f 10 = _ at e10
     change f 11 = _ at e11
     change f 16 = _ at e16
     intro J K hJ hK
     change Code.wp _ _ _ ⟨[f 0, f 1, f 2, f 3, f 4, f 5, f 6, f 7, f 8, f 9, f 10, f 11, f 12, f 13, f 14, f 15, f 16, f 17, f 18, f 19, f 20, f 21, f 22, f 23, f 24, f 25, f 26, f 27, f 28, f 29, f 30, f 31, f 32, f 33, f 34, f 35, f 36, f 37, f 38, f 39, f 40, f 41, f 42, f 43, f 44, f 45, f 46, f 47, f 48, f 49, f 50, f 51, f 52, f 53, f 54, f 55, f 56, f 57, f 58, f 59, f 60, f 61, f 62, f 63, f 64, f 65, f 66, f 67, f 68, f 69, f 70, f 71, f 72, f 73, f 74, f 75, f 76, f 77, f 78, f 79, f 80, f 81, f 82, f 83, f 84, f 85, f 86, f 87, f 88, f 89, f 90, f 91, f 92, f 93, f 94, f 95, f 96, f 97, f 98, f 99, f 100, f 101, f 102, f 103, f 104].toArray, ds⟩ wr
     rw [e4, e6, e8, e10, e11, e16]
     clear e4 e6 e8 e10 e11 e16 hlen
     obtain ⟨go, hgo⟩ : ∃ go, go = gk := ⟨_, rfl⟩
     have HG := hid (show 2 ≤ j + go by rw [hgo]; exact hg)
     have HGO := hid hgo
     have MK := hid hm
     have A9 := hid hb
     clear hg hgo hm hb
     by_cases hlt : j < 2
     ·have hji : (j : Int) < 2 := by omega
      have hj0 : (0 : Int) ≤ (j : Int) := by omega
      have KA := hid (show Below wr.heap.size wr (wr.alloc (.cells #[.int .i64 0] 3)) from (Below.refl _ _).alloc (Nat.le_refl _) _)
      have FK := hid (heap_alloc_new wr (.cells #[.int .i64 0] 3))
      have HKZ0 := hid (show (wr.alloc (.cells #[.int .i64 0] 3)).heap.size = wr.heap.size + 1 by simp)
      go_upto_region 23 with fail
      generalize wr.alloc (.cells #[.int .i64 0] 3) = wk at *
      have A10 := hid (A9.out.then KA.out)
      have MK2 := hid (MK.out.keep (KeepM.of_below KA.out))
      have TK := hid (T8.out.below A10.out)
      have CK0 := hid ((A10.out.block _ (lt_of_block C08.out)).trans C08.out)
      have CK1 := hid ((A10.out.block _ (lt_of_block C18.out)).trans C18.out)
      have CK2 := hid ((A10.out.block _ (lt_of_block C28.out)).trans C28.out)
      have RK := hid (R8.out.below A10.out)
      have HK0 := hid (show w8.heap.size ≤ wr.heap.size from A9.out.size)
      generalize hkb : wr.heap.size = kb at *
      have HSQ := hid (within1_goes 5 (by decide) Cb (Cb + 1) (Cb + 1 + 1) kb w2.heap.size Bt t OK.out SZT.out loc grp HLOC.out HP6.out wk #[.int .i64 0] TK.out FK.out CK0.out CK1.out CK2.out)
      rw [HPI.out] at HSQ
      go_wp2_with fail
      refine (wpIn_wide (n := 6)).1 ?_
      have HKZ := hid (show wk.heap.size = kb + 1 from HKZ0.out)
      refine wpIn_rangeFunc_ownF rfl (by omega) (gf := 46) rfl trivial (enters_of Tryz.func46 (by kernel_rfl) rfl) HSQ.out (fun h g => h.trans g) (fun W l o o' hl ho hc _ => KpB.put hl ho hc) (Below.refl _ _) (fun _ => rfl)
       (fun pre W => pre <+: L ∧ Below kb wk W ∧ W.heap[kb]? = some (.cells #[.int .i64 (pre.length : Int)] 3 (0, 0))) (fun c pre _ => c = .ret ∧ ¬ pre <+: L)
       (fun s W W' row hs hg hr => ⟨hs.1, hs.2.1.grown hg (by have := lt_of_block hs.2.2; omega) (fun k hk => by have := (hr k hk).1; have := HKZ.out; omega), (hg.block kb (lt_of_block hs.2.2) (fun e => by have := (hr kb e.symm).1; have := HKZ.out; omega)).trans hs.2.2⟩)
       (fun _ _ _ _ _ h _ _ => h) ⟨List.nil_prefix, Below.refl _ _, FK.out⟩
       (fun x => { tmps := [f 0, f 1, f 2, f 3, .pointer (some ⟨w.heap.size, 0, none⟩), f 5, .pointer (some ⟨w.heap.size + 1, 0, none⟩), f 7, .pointer (some ⟨Wb, 0, none⟩), f 9, .func (.func 46) #[] #[.pointer (some ⟨Cb, 0, none⟩), .pointer (some ⟨Cb + 1, 0, none⟩), .pointer (some ⟨Cb + 1 + 1, 0, none⟩)], .pointer (some ⟨w5.heap.size, 0, none⟩), f 12, f 13, f 14, f 15, .int .i64 j, .pointer (some ⟨kb, 0, none⟩), .string ⟨x.1.toArray⟩, .string ⟨x.2.toArray⟩, f 20, f 21, f 22, f 23, f 24, f 25, f 26, f 27, f 28, f 29, f 30, f 31, f 32, f 33, f 34, f 35, f 36, f 37, f 38, f 39, f 40, f 41, f 42, f 43, f 44, f 45, f 46, f 47, f 48, f 49, f 50, f 51, f 52, f 53, f 54, f 55, f 56, f 57, f 58, f 59, f 60, f 61, f 62, f 63, f 64, f 65, .int .i64 j, .bool true, f 68, f 69, .func (.func 46) #[] #[.pointer (some ⟨Cb, 0, none⟩), .pointer (some ⟨Cb + 1, 0, none⟩), .pointer (some ⟨Cb + 1 + 1, 0, none⟩)], .string ⟨x.1.toArray⟩, .string ⟨x.2.toArray⟩, f 73, f 74, f 75, f 76, f 77, f 78, f 79, f 80, f 81, f 82, f 83, f 84, f 85, f 86, f 87, f 88, f 89, f 90, f 91, f 92, f 93, f 94, f 95, f 96, f 97, f 98, f 99, f 100, f 101, f 102, f 103, f 104].toArray, defers := [] }) ?assign ?body ?done ?stop
      case assign =>
       intro l x W K hK
       gi_wp2
       exact hK
      case body =>
       rintro l pre x W ⟨hp, hb, hk⟩ hlen
       have SB := hid (A10.out.trans (hb.mono HK0.out))
       have RW := hid (R8.out.below SB.out)
       obtain ⟨l0, l1, l2, l3⟩ := K8.out W SB.out
       have PW := hid ((SB.out.block _ (lt_of_block P8.out)).trans P8.out)
       have FW := hid ((SB.out.block _ (lt_of_block F8.out)).trans F8.out)
       have c0 : W.cell? ⟨kb, 0, none⟩ = some (.int .i64 (pre.length : Int)) := by rw [cell_of_row _ _ _ _ _ _ hk]; rfl
       have c1 : W.cell? ⟨w5.heap.size, 0, none⟩ = some (.slice ap L.length cp) := by rw [cell_of_row _ _ _ _ _ _ PW.out]; rfl
       have c2 : W.cell? ⟨w.heap.size + 1, 0, none⟩ = some (.bool false) := by rw [cell_of_row _ _ _ _ _ _ FW.out]; rfl
       have z0 := frozen_of_row W kb 0 _ _ hk
       have z2 := frozen_of_row W (w.heap.size + 1) 0 _ _ FW.out
       have t0 := lt_of_block hk
       have t1 := lt_of_block PW.out
       have t2 := lt_of_block FW.out
       have hlm : pre.length < (L.map (fun z : Str × Str => z.1)).length := by rw [HLM.out]; exact hlen
       have OW := hid (OwnL.below (ownT_S.2 O8.out) SB.out)
       have hsl : ap ≠ none := by
        rintro rfl
        rcases OwnL.shape OW.out with ⟨_, e⟩ | ⟨_, _, _, e, _⟩
        ·rw [e] at hlm; simp at hlm
        ·cases e
       obtain ⟨gp, rfl⟩ := OwnL.some' OW.out (by intro e; rw [e] at hlm; simp at hlm)
       obtain ⟨r0, _, gl⟩ := OwnL.cell OW.out pre.length 0 (.string ⟨((L.map (fun z : Str × Str => z.1))[pre.length]'hlm).toArray⟩) hlm rfl
       rw [Nat.mul_one, Nat.add_zero, List.getElem_map] at r0
       have HNX := hid (pre_next (x := x) hp hlen)
       have HYT := hid (HFL.out _ (List.getElem_mem hlen))
       have hki : (pre.length : Int) < (L.length : Int) := by omega
       have hk0 : (0 : Int) ≤ (pre.length : Int) := by omega
       have hkz : (pre.length : Int) ≤ 480 := by have := HLI.out; omega
       have HPL := hid (show ((pre ++ [x]).length : Int) = (pre.length : Int) + 1 by simp)
       have HP := hid hp
       have HB := hid hb
       have HK := hid hk
       clear hp hb hk hsl
       generalize L[pre.length]'hlen = y at *
       clear hlm
       obtain ⟨y1, y2⟩ := y
       obtain ⟨x1, x2⟩ := x
       simp only at r0 HYT
       by_cases h1 : x1 = y1
       ·subst h1
        have RGx := hid (RG.out W RW.out loc x1)
        rw [rRow_eq] at RGx
        generalize htx : rText (findR t.rows loc x1) = tx at *
        generalize rLoc (findR t.rows loc x1) = g0 at *
        generalize rPth (findR t.rows loc x1) = g1 at *
        generalize rFile (findR t.rows loc x1) = g3 at *
        generalize rAt (findR t.rows loc x1) = g4 at *
        generalize (findR t.rows loc x1).isSome = g5 at *
        have HTX := hid (show y2 = tx from HYT.out)
        clear HYT htx
        obtain rfl := HTX.out
        by_cases h2 : x2 = y2
        ·subst h2
         have HP2 := hid (HNX.out.2 rfl)
         gi_wp2
         refine ⟨trivial, CallsIn.inRound l (callsIn_wide.2 (RGx.out.mono ?_))⟩
         rintro e w9 ⟨rfl, hb9⟩
         have hk9 := (hb9.block _ (lt_of_block HK.out)).trans HK.out
         have hk10 := (Below.heap_alloc w9 (.cells #[.string ⟨g0.toArray⟩, .string ⟨g1.toArray⟩, .string ⟨x2.toArray⟩, .int .i64 g3, .int .i64 g4] 56) kb (lt_of_block hk9)).trans hk9
         have c9 : w9.cell? ⟨kb, 0, none⟩ = some (.int .i64 (pre.length : Int)) := by rw [cell_of_row _ _ _ _ _ _ hk9]; rfl
         have z9 := frozen_of_row w9 kb 0 _ _ hk9
         have t9 := lt_of_block hk9
         have HB9 := hid hb9
         have HK9 := hid hk9
         have HAA := hid (show Below w9.heap.size w9 (w9.alloc (.cells #[.string ⟨g0.toArray⟩, .string ⟨g1.toArray⟩, .string ⟨x2.toArray⟩, .int .i64 g3, .int .i64 g4] 56)) from (Below.refl _ _).alloc (Nat.le_refl _) _)
         have c10 : (w9.alloc (.cells #[.string ⟨g0.toArray⟩, .string ⟨g1.toArray⟩, .string ⟨x2.toArray⟩, .int .i64 g3, .int .i64 g4] 56)).cell? ⟨kb, 0, none⟩ = some (.int .i64 (pre.length : Int)) := by rw [cell_of_row _ _ _ _ _ _ hk10]; rfl
         have z10 := frozen_of_row (w9.alloc (.cells #[.string ⟨g0.toArray⟩, .string ⟨g1.toArray⟩, .string ⟨x2.toArray⟩, .int .i64 g3, .int .i64 g4] 56)) kb 0 _ _ hk10
         have t10 := lt_of_block hk10
         clear l0 l1 l2 l3 c0 c1 c2 z0 z2 t0 t1 t2 r0 gl hb9 hk9 hk10
         gi_wp2
         have hz1 : kb < wk.heap.size := by have := HKZ.out; omega
         have hz2 : wk.heap.size ≤ W.heap.size := HB.out.size
         have hz3 : W.heap.size ≤ w9.heap.size := HB9.out.size
         have hz4 : ∀ v, (w9.setCell ⟨kb, 0, none⟩ v).heap.size = w9.heap.size := fun v => by simp
         refine ⟨((keeps_below HB9.out).trans (KeepsOthers.setCell _ _ _)).trans (KeepsOthers.alloc _ _), (KpB.of_below HB9.out hz2).trans ((KpB.setk hz1 _ 0).trans (KpB.of_below ((Below.refl _ _).alloc (Nat.le_refl _) _) (by rw [hz4]; omega))), HP2.out, ((HB.out.trans (HB9.out.mono (by omega))).setCell (p := ⟨kb, 0, none⟩) (Nat.le_refl _) _).alloc (by rw [hz4]; omega) _, ?_⟩
         rw [Below.heap_alloc _ _ _ (by rw [hz4]; omega), heap_setCell_same _ _ _ _ _ _ HK9.out, HPL.out]; simp
        ·have hb1 : (y2 == x2) = false := beq_eq_false_iff_ne.2 (fun e => h2 e.symm)
         have hb2 : y2 ≠ x2 := fun e => h2 e.symm
         have HN := hid (show ¬ pre ++ [(x1, x2)] <+: L from fun h => h2 (Prod.mk.inj (HNX.out.1 h)).2.symm)
         gi_wp2
         refine ⟨trivial, CallsIn.inRound l (callsIn_wide.2 (RGx.out.mono ?_))⟩
         rintro e w9 ⟨rfl, hb9⟩
         have hf9 := (hb9.block _ (lt_of_block FW.out)).trans FW.out
         have hf10 := (Below.heap_alloc w9 (.cells #[.string ⟨g0.toArray⟩, .string ⟨g1.toArray⟩, .string ⟨y2.toArray⟩, .int .i64 g3, .int .i64 g4] 56) (w.heap.size + 1) (lt_of_block hf9)).trans hf9
         have c9 : w9.cell? ⟨w.heap.size + 1, 0, none⟩ = some (.bool false) := by rw [cell_of_row _ _ _ _ _ _ hf9]; rfl
         have z9 := frozen_of_row w9 (w.heap.size + 1) 0 _ _ hf9
         have t9 := lt_of_block hf9
         have c10 : (w9.alloc (.cells #[.string ⟨g0.toArray⟩, .string ⟨g1.toArray⟩, .string ⟨y2.toArray⟩, .int .i64 g3, .int .i64 g4] 56)).cell? ⟨w.heap.size + 1, 0, none⟩ = some (.bool false) := by rw [cell_of_row _ _ _ _ _ _ hf10]; rfl
         have z10 := frozen_of_row (w9.alloc (.cells #[.string ⟨g0.toArray⟩, .string ⟨g1.toArray⟩, .string ⟨y2.toArray⟩, .int .i64 g3, .int .i64 g4] 56)) (w.heap.size + 1) 0 _ _ hf10
         have t10 := lt_of_block hf10
         have HB9 := hid hb9
         clear l0 l1 l2 l3 c0 c1 c2 z0 z2 t0 t1 t2 r0 gl hb9 hf9 hf10
         gi_wp2
         exact ⟨((keeps_below HB9.out).trans (KeepsOthers.setCell _ _ _)).trans (KeepsOthers.alloc _ _), rfl, HN.out⟩
       ·have hb1 : (y1 == x1) = false := beq_eq_false_iff_ne.2 (fun e => h1 e.symm)
        have hb2 : y1 ≠ x1 := fun e => h1 e.symm
        have HN := hid (show ¬ pre ++ [(x1, x2)] <+: L from fun h => h1 (Prod.mk.inj (HNX.out.1 h)).1.symm)
        gi_wp2
        exact ⟨KeepsOthers.setCell _ _ _, rfl, HN.out⟩
      case done =>
       rintro D2 xs W hD hxs ⟨_, hb, hk⟩ hK
       rw [hxs] at hk
       have SB := hid (A10.out.trans (hb.mono HK0.out))
       have KM := hid (show KeepM wk W from fun k h => (hb.block k (by
        have h1 := lt_of_block h
        have h2 := HKZ.out
        have h3 : k ≠ kb := by rintro rfl; have := FK.out; rw [h] at this; cases this
        omega)).trans h)
       have MK3 := hid (MK2.out.push KM.out (by have := HK0.out; have := HKZ.out; omega) hD hK)
       have HKW := hid (show w8.heap.size ≤ W.heap.size from SB.out.size)
       have PW := hid ((SB.out.block _ (lt_of_block P8.out)).trans P8.out)
       have c0 : W.cell? ⟨kb, 0, none⟩ = some (.int .i64 (L.length : Int)) := by rw [cell_of_row _ _ _ _ _ _ hk]; rfl
       have c1 : W.cell? ⟨w5.heap.size, 0, none⟩ = some (.slice ap L.length cp) := by rw [cell_of_row _ _ _ _ _ _ PW.out]; rfl
       have t0 := lt_of_block hk
       have t1 := lt_of_block PW.out
       have HK := hid hk
       have hlz : (L.length : Int) ≤ 480 := by have := HLI.out; omega
       have CW0 := hid ((SB.out.block _ (lt_of_block C08.out)).trans C08.out)
       have CW1 := hid ((SB.out.block _ (lt_of_block C18.out)).trans C18.out)
       have CW2 := hid ((SB.out.block _ (lt_of_block C28.out)).trans C28.out)
       have HSQ2 := hid (within1_goes 5 (by decide) Cb (Cb + 1) (Cb + 1 + 1) kb w2.heap.size Bt t OK.out SZT.out loc grp HLOC.out HP6.out W #[.int .i64 (L.length : Int)] (T8.out.below SB.out) HK.out CW0.out CW1.out CW2.out)
       rw [HPI.out] at HSQ2
       clear hb hk hK HSQ
       go_wp2_with fail
       refine (wpIn_wide (n := 6)).1 ?_
       refine wpIn_rangeFunc_ownF rfl (by omega) (gf := 46) rfl trivial (enters_of Tryz.func46 (by kernel_rfl) rfl) HSQ2.out (fun h g => h.trans g) (fun W l o o' hl ho hc _ => KpB.put hl ho hc) (Below.refl _ _) (fun _ => rfl)
        (fun pre W' => Below W.heap.size W W') (fun c pre W' => c = .exit 6 ∧ Below W.heap.size W W') (ownFrom_below (Nat.le_refl _) (Nat.le_refl _)) (fun c s W1 W2 row hs hg hr => ⟨hs.1, hs.2.grown hg hs.2.size (fun k hk => (hr k hk).1)⟩) (Below.refl _ _)
        (fun x => { tmps := [f 0, f 1, f 2, f 3, .pointer (some ⟨w.heap.size, 0, none⟩), f 5, .pointer (some ⟨w.heap.size + 1, 0, none⟩), f 7, .pointer (some ⟨Wb, 0, none⟩), f 9, .func (.func 46) #[] #[.pointer (some ⟨Cb, 0, none⟩), .pointer (some ⟨Cb + 1, 0, none⟩), .pointer (some ⟨Cb + 1 + 1, 0, none⟩)], .pointer (some ⟨w5.heap.size, 0, none⟩), f 12, f 13, f 14, f 15, .int .i64 j, .pointer (some ⟨kb, 0, none⟩), f 18, f 19, f 20, f 21, f 22, f 23, f 24, f 25, f 26, f 27, f 28, f 29, f 30, f 31, f 32, f 33, f 34, f 35, f 36, f 37, f 38, f 39, f 40, f 41, f 42, f 43, f 44, f 45, f 46, f 47, f 48, f 49, f 50, f 51, f 52, f 53, f 54, f 55, f 56, f 57, f 58, f 59, f 60, f 61, f 62, f 63, f 64, f 65, .int .i64 j, .bool true, f 68, f 69, .func (.func 46) #[] #[.pointer (some ⟨Cb, 0, none⟩), .pointer (some ⟨Cb + 1, 0, none⟩), .pointer (some ⟨Cb + 1 + 1, 0, none⟩)], f 71, f 72, f 73, f 74, f 75, f 76, f 77, f 78, f 79, f 80, f 81, f 82, f 83, f 84, f 85, f 86, f 87, f 88, f 89, f 90, f 91, f 92, f 93, f 94, f 95, f 96, f 97, .int .i64 L.length, .slice ap L.length cp, .int .i64 L.length, .bool false, .func (.func 46) #[] #[.pointer (some ⟨Cb, 0, none⟩), .pointer (some ⟨Cb + 1, 0, none⟩), .pointer (some ⟨Cb + 1 + 1, 0, none⟩)], (.string ⟨x.1.toArray⟩), (.string ⟨x.2.toArray⟩)].toArray, defers := [] }) ?assign2 ?body2 ?done2 ?stop2
       case assign2 =>
        intro l x W K hK
        gi_wp2
        exact hK
       case body2 =>
        rintro l pre x W1 hb hlen
        gi_wp2
        exact ⟨KeepsOthers.refl _, rfl, hb⟩
       case done2 =>
        rintro D3 xs W1 hD3 _ hb hK
        have MK4 := hid (MK3.out.push (KeepM.of_below hb) HKW.out hD3 hK)
        have SB2 := hid (SB.out.then hb)
        clear hb hK
        go_wp2_with fail
        go_roundg (go - 1)
        case measure => have := HG.out; have := HGO.out; omega
        case rel => exact ⟨rfl, rfl, rfl, rfl, rfl, rfl, MK4.out, SB2.out, j + 1, by omega, by have := HG.out; omega, by simp⟩
       case stop2 =>
        rintro D3 c pre W1 hD3 _ ⟨rfl, hb⟩ hK
        have MK4 := hid (MK3.out.push (KeepM.of_below hb) HKW.out hD3 hK)
        have SB2 := hid (SB.out.then hb)
        clear hb hK
        refine wpIn_wide.2 ?_
        go_wp2_with fail
        go_roundg (go - 1)
        case measure => have := HG.out; have := HGO.out; omega
        case rel => exact ⟨rfl, rfl, rfl, rfl, rfl, rfl, MK4.out, SB2.out, j + 1, by omega, by have := HG.out; omega, by simp⟩
      case stop =>
       rintro D c pre W _ hp ⟨_, hn⟩
       exact absurd hp hn
     ·have hji : ¬ (j : Int) < 2 := by omega
      have FW := hid ((A9.out.block _ (lt_of_block F8.out)).trans F8.out)
      have c2 : wr.cell? ⟨w.heap.size + 1, 0, none⟩ = some (.bool false) := by rw [cell_of_row _ _ _ _ _ _ FW.out]; rfl
      have z2 := frozen_of_row wr (w.heap.size + 1) 0 _ _ FW.out
      have t2 := lt_of_block FW.out
      go_wp2_with fail
      refine ret_marks (MK.out.keep (KeepM.set _ _ _)) fun W' hc => ⟨.bool true, ?_, rfl, ?_⟩
      ·have hr := hc.cells (w.heap.size + 1) #[.bool true] 4 (0, 0) (by rw [heap_setCell_same _ _ _ _ _ _ FW.out]; simp)
       have hcell : W'.cell? ⟨w.heap.size + 1, 0, none⟩ = some (.bool true) := by rw [cell_of_row _ _ _ _ _ _ hr]; rfl
       simp [results, Tryz.f7, go_sem, hcell]
      ·exact ((B8.out.then A9.out).setCell (p := ⟨w.heap.size + 1, 0, none⟩) HWB.out _).trans (hc.below.mono HWZ.out)
 ·have c2 : w3.cell? ⟨w.heap.size + 1, 0, none⟩ = some (.bool false) := by rw [cell_of_row _ _ _ _ _ _ F3.out]; rfl
  have z2 := frozen_of_row w3 (w.heap.size + 1) 0 _ _ F3.out
  have t2 := lt_of_block F3.out
  go_wp2_with fail
  refine ret_marks (MarksIn.nil w.heap.size _) fun W' hc => ⟨.bool true, ?_, rfl, ?_⟩
  ·have hr := hc.cells (w.heap.size + 1) #[.bool true] 4 (0, 0) ((Below.heap_alloc _ _ _ (by simp; exact t2)).trans (by rw [heap_setCell_same _ _ _ _ _ _ F3.out]; simp))
   have hcell : W'.cell? ⟨w.heap.size + 1, 0, none⟩ = some (.bool true) := by rw [cell_of_row _ _ _ _ _ _ hr]; rfl
   simp [results, Tryz.f7, go_sem, hcell]
  ·exact ((B3.out.setCell (p := ⟨w.heap.size + 1, 0, none⟩) (Nat.le_succ _) _).alloc (by simp; exact B3.out.size) _).trans hc.below
end Go.Proofs.YtjlfchnnhglbjaaGreat
namespace Go.Proofs.YtjlfchnnhglbjaaGreat
open Go.ChangeShapes Go.WideShapes Go.ChangeAt Go.RowKit
open Go.ChangeMaps (open_string shut_string)
theorem within12_bytes (w : World) (l : List Dc) (v : Value) (a b : ByteArray) (hd : RdD w v l) (hs : SzL l) (ha : a.size ≤ maxLen) (hb : b.size ≤ maxLen) :
  Calls Tryz.prog 7 #[v, .string a, .string b] w fun e w' => e = .returned (.bool true) ∧ Below w.heap.size w w' := by
 have := within12_any w l v a.data.toList b.data.toList hd hs (by rw [Array.length_toList]; exact ha) (by rw [Array.length_toList]; exact hb)
 have e : ∀ c : ByteArray, (⟨c.data.toList.toArray⟩ : ByteArray) = c := fun c => by apply ByteArray.ext; simp
 rw [e, e] at this
 exact this
theorem own : ownKnob Tryz.prog.godebug = none := by kernel_rfl
theorem laidOut : laidOutB Tryz.prog = true := by kernel_rfl
set_option maxRecDepth 100000 in
theorem lifted (os : Os) (started : os.Started) (H : Type) (enc : TypeId × Value → H) :
  ReturnsInHanded {} Tryz.checked os 7 .any (Rows.tableWithinSpec.pre6 enc Tryz.prog Tryz.f7 Rows.tableWithinRow.domain false) (Rows.tableWithinSpec.post enc Tryz.prog Tryz.f7 false true false false) := by
 refine returnsInHanded_of_change (C := Tryz.checked) own started (by kernel_rfl) Tryz.func7
  (ChangeSpec.witness6 (enc := enc) (C := Tryz.checked) false ⟨#[], #[.slice none 0 0, .string ByteArray.empty, .string ByteArray.empty], []⟩ 8 (by kernel_rfl) (by kernel_rfl) (by kernel_rfl) (by kernel_rfl)) ?_
 intro W base args ds gs before hval0 hW hcnd _
 have hval : ∀ (j : Nat) t v, Tryz.f7.params[j]? = some t → args[j]? = some v → Value.okWide Tryz.prog W .any base t v := hval0
 have hW' := hW
 obtain ⟨p, q, hA0, hV, rfl, hfz, hnd⟩ := hW
 have hA : DataW.TrodAll enc Tryz.prog W 0 (fun _ => true) true Tryz.f7.params.toList args.toList ds p := hA0
 rw [Tryz.params7] at hA hval
 obtain ⟨v0, vs0, d0, ds0, p0, q0, hargs, rfl, rfl, h0, r0⟩ := trodAll_cons hA
 obtain ⟨v1, vs1, d1, ds1, p1, q1, rfl, rfl, rfl, h1, r1⟩ := trodAll_cons r0
 obtain ⟨v2, vs2, d2, ds2, p2, q2, rfl, rfl, rfl, h2, r2⟩ := trodAll_cons r1
 obtain ⟨rfl, rfl, rfl⟩ := trodAll_nil r2
 obtain rfl : args = #[v0, v1, v2] := by cases args; simp_all
 obtain ⟨rfl, rfl⟩ := trodVars_none hV
 obtain ⟨l, rd, sz⟩ := open_docs (hval 0 23 v0 rfl rfl) h0
 obtain ⟨a1, rfl, rfl, rfl, w1⟩ := open_string Tryz.underlying9 (hval 1 9 v1 rfl rfl) h1
 obtain ⟨a2, rfl, rfl, rfl, w2⟩ := open_string Tryz.underlying9 (hval 2 9 v2 rfl rfl) h2
 have k0 := h0
 have lt0 : ∀ x ∈ p0, x.block < W.heap.size := by obtain ⟨m, hm⟩ := k0; exact DataW.trod_lt m _ _ _ hm
 clear hA0 hval0
 refine (within12_bytes W l v0 a1 a2 rd sz w1 w2).mono fun e W' ⟨he, bel⟩ => ?_
 subst he
 exact ⟨_, rfl, _, _, _, [], _, [], hW', trodAll_mk1 (shut_bool Tryz.underlying4 _), (trodAll_cons_mk (Below.trod laidOut (by kernel_rfl) (of_decide_eq_true (by kernel_rfl)) k0 bel lt0) (trodAll_cons_mk (shut_string Tryz.underlying9 w1) (trodAll_cons_mk (shut_string Tryz.underlying9 w2) trodAll_mk0))), rfl, bel.frame _, fun h => by cases h⟩
theorem over : Rows.tableWithinRow.holds Tryz.pinned (OpenSpec.ofChange Rows.tableWithinSpec) :=
 OpenClaim.holds_of_wide 7 Tryz.f7 rfl rfl rfl rfl rfl rfl rfl ⟨rfl, rfl, rfl, rfl, rfl⟩ rfl rfl rfl rfl rfl (by kernel_rfl) Tryz.func7 (by kernel_rfl)
  (of_decide_eq_true (by kernel_rfl)) (by unfold Func.isWrapper; first | (rw [if_pos (by decide +kernel)]; kernel_rfl) | (rw [if_neg (by decide +kernel)]; exact ⟨rfl, rfl⟩))
  (fun os started H enc _ => lifted os started H enc)
theorem tableWithin : Rows.TableWithinSaid := over
#print axioms tableWithin
end Go.Proofs.YtjlfchnnhglbjaaGreat
