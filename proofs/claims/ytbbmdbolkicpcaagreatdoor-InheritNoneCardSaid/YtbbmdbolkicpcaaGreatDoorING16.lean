/- InhVal0, AlAll, AlRing, AlReach, InhAdd, InhLrn, InhLearn, TbWithG, PtLast -/
import Derived.Test.YtbbmdbolkicpcaaGreatDoorING14
import Derived.Test.YtbbmdbolkicpcaaGreatDoorING15
import Derived.Test.YtbbmdbolkicpcaaGreatDoorING09
import Derived.Test.YtbbmdbolkicpcaaGreatDoorING07
import Derived.Test.YtbbmdbolkicpcaaGreatDoorINShelf
import Derived.Test.YtbbmdbolkicpcaaGreatDoorING13
import Derived.Test.YtbbmdbolkicpcaaGreatDoorING05
import Derived.Test.YtbbmdbolkicpcaaGreatDoorING04
import Derived.Test.YtbbmdbolkicpcaaGreatDoorING10
import Derived.Test.YtbbmdbolkicpcaaGreatDoorING08
import Derived.Deep.LoopGhost
set_option linter.unusedVariables false
set_option linter.unusedSimpArgs false
namespace Go.Proofs.YtbbmdbolkicpcaaGreatDoor
open Go.RowKit Go.Lib
theorem ownS_one (w : World) (B : Nat) (p : Str) (hB : B ≤ w.heap.size) : OwnS (w.alloc (.cells #[.string ⟨p.toArray⟩] 9)) B (.slice (some ⟨w.heap.size, 0, none⟩) 1 1) [p] := by
 refine ⟨by simp, Or.inr ⟨w.heap.size, 1, #[.string ⟨p.toArray⟩], rfl, hB, heap_alloc_new w _, by simp, by unfold maxLen; omega, rfl, ?_⟩⟩
 simp [S]
set_option maxRecDepth 100000 in
set_option maxHeartbeats 4000000 in
theorem sideways_none (w : World) (p : Str) (hp : p.length ≤ maxLen) (l : List Stp) (hl : pathP p = some l) (h1 : ∀ x ∈ l, ∀ k ∈ x.2, k.1 ≠ altT) (h2 : ∀ x ∈ l, ∀ k ∈ x.2, k.1 ≠ countT) :
  Calls Tryz.prog 21 #[.string ⟨p.toArray⟩] w fun e w' => ∃ v, e = .returned v ∧ OwnS w' w.heap.size v [p] ∧ Below w.heap.size w w' := by
 have WA := hid (fun W => (show Calls Tryz.prog 47 #[.string ⟨p.toArray⟩, .string ⟨#[97, 108, 116]⟩] W _ from without_none W p altT hp l hl h1))
 have WC := hid (fun W => (show Calls Tryz.prog 47 #[.string ⟨p.toArray⟩, .string ⟨#[99, 111, 117, 110, 116]⟩] W _ from without_none W p countT hp l hl h2))
 have HL := hid hl
 clear hl h1 h2
 go_enter Tryz.func21, Tryz.ntmps21
 go_wp2_with fail
 go_step3
 go_wp2_with fail
 refine (pparse_any p w hp).mono ?_
 rintro e w1 h
 obtain ⟨v, er, ea, rfl, hb1, l', hl', hc1, ao, cp, rfl, hcap, hs1⟩ := h.own'
 obtain ⟨rfl, hll⟩ : er = 0 ∧ l' = l := by
  rcases hc1 with ⟨h1, h2⟩ | ⟨_, h2, _⟩
  ·rw [HL.out] at h2; exact ⟨h1, (Option.some.inj h2).symm⟩
  ·rw [HL.out] at h2; cases h2
 subst hll
 have B1 := hid hb1
 clear h hl' hc1 hb1 hs1 hcap
 have Y7 := hid (show ((w1.alloc (.cells #[.slice ao l'.length cp] 99)).alloc (.cells #[.int .i64 0, .int .i64 ea] 77)).heap[w1.heap.size + 1]? = some (.cells #[.int .i64 0, .int .i64 ea] 77 (0, 0)) from by
  have e := heap_alloc_new (w1.alloc (.cells #[.slice ao l'.length cp] 99)) (.cells #[.int .i64 0, .int .i64 ea] 77)
  rw [show (w1.alloc (.cells #[.slice ao l'.length cp] 99)).heap.size = w1.heap.size + 1 by simp] at e
  exact e)
 have A2 := hid (show Below w1.heap.size w1 ((w1.alloc (.cells #[.slice ao l'.length cp] 99)).alloc (.cells #[.int .i64 0, .int .i64 ea] 77)) from ((Below.refl _ _).alloc (Nat.le_refl _) _).alloc (by simp) _)
 go_upto_region 2 with fail
 generalize (w1.alloc (.cells #[.slice ao l'.length cp] 99)).alloc (.cells #[.int .i64 0, .int .i64 ea] 77) = w2 at *
 obtain ⟨y0, y1, _, _, yl⟩ := box2_cells Y7.out
 have B2 := hid (B1.out.then A2.out)
 have O3 := hid (ownS_one w2 w.heap.size p B2.out.size)
 have A3 := hid (show Below w2.heap.size w2 (w2.alloc (.cells #[.string ⟨p.toArray⟩] 9)) from (Below.refl _ _).alloc (Nat.le_refl _) _)
 have Z3 := hid (show (w2.alloc (.cells #[.string ⟨p.toArray⟩] 9)).heap.size = w2.heap.size + 1 by simp)
 have F4 := hid (show ((w2.alloc (.cells #[.string ⟨p.toArray⟩] 9)).alloc (.cells #[.slice (some ⟨w2.heap.size, 0, none⟩) 1 1] 36)).heap[w2.heap.size + 1]? = some (.cells #[.slice (some ⟨w2.heap.size, 0, none⟩) 1 1] 36 (0, 0)) from by
  have e := heap_alloc_new (w2.alloc (.cells #[.string ⟨p.toArray⟩] 9)) (.cells #[.slice (some ⟨w2.heap.size, 0, none⟩) 1 1] 36)
  rw [Z3.out] at e
  exact e)
 have A4 := hid (show Below (w2.alloc (.cells #[.string ⟨p.toArray⟩] 9)).heap.size (w2.alloc (.cells #[.string ⟨p.toArray⟩] 9)) ((w2.alloc (.cells #[.string ⟨p.toArray⟩] 9)).alloc (.cells #[.slice (some ⟨w2.heap.size, 0, none⟩) 1 1] 36)) from (Below.refl _ _).alloc (Nat.le_refl _) _)
 have O4 := hid (show OwnS ((w2.alloc (.cells #[.string ⟨p.toArray⟩] 9)).alloc (.cells #[.slice (some ⟨w2.heap.size, 0, none⟩) 1 1] 36)) w.heap.size _ [p] from own_below O3.out A4.out)
 have B4 := hid ((B2.out.then A3.out).then A4.out)
 go_upto_region 5 with fail
 generalize (w2.alloc (.cells #[.string ⟨p.toArray⟩] 9)).alloc (.cells #[.slice (some ⟨w2.heap.size, 0, none⟩) 1 1] 36) = w4 at *
 generalize w2.heap.size = sb at *
 clear y0 y1 yl B1 B2 O3 A2 A3 A4 Y7 Z3
 go_wp2_with fail
 refine (WA.out w4).mono ?_
 rintro e w5 ⟨rfl, hb5⟩
 have O5 := hid (show OwnS w5 w.heap.size _ [p] from own_below O4.out hb5)
 have F5 := hid ((hb5.block _ (lt_of_block F4.out)).trans F4.out)
 have B5 := hid (B4.out.then hb5)
 clear hb5 O4 F4 B4
 go_wp2_with fail
 refine (WC.out w5).mono ?_
 rintro e w6 ⟨rfl, hb6⟩
 have O6 := hid (show OwnS w6 w.heap.size _ [p] from own_below O5.out hb6)
 have F6 := hid ((hb6.block _ (lt_of_block F5.out)).trans F5.out)
 have B6 := hid (B5.out.then hb6)
 clear hb6 O5 F5 B5
 have f0 : w6.cell? ⟨sb + 1, 0, none⟩ = some (.slice (some ⟨sb, 0, none⟩) 1 1) := by rw [cell_of_row _ _ _ _ _ _ F6.out]; rfl
 have fl := lt_of_block F6.out
 go_wp2_with fail
 rw [Exit.noGoto_ret]
 change bodyPost _ _ _ Exit.ret _ _
 exact bodyPost_ret (v := .slice (some ⟨sb, 0, none⟩) 1 1) (by simp [results, Tryz.results21, go_sem]) rfl ⟨_, rfl, O6.out, B6.out⟩
set_option maxRecDepth 100000 in
theorem sideways1_none (w : World) (lc p : Str) (hne : lc ≠ []) (hp : p.length ≤ maxLen) (l : List Stp) (hl : pathP p = some l) (h1 : ∀ x ∈ l, ∀ k ∈ x.2, k.1 ≠ altT) (h2 : ∀ x ∈ l, ∀ k ∈ x.2, k.1 ≠ countT) :
  Calls Tryz.prog 37 #[.string ⟨lc.toArray⟩, .string ⟨p.toArray⟩] w fun e w' => ∃ v, e = .returned v ∧ OwnS w' w.heap.size v [p] ∧ Below w.heap.size w w' := by
 have SW := hid (sideways_none w p hp l hl h1 h2)
 have hlb : (lc == []) = false := beq_eq_false_iff_ne.2 hne
 clear hl h1 h2
 go_enter Tryz.func37, Tryz.ntmps37
 go_wp2_with fail
 refine SW.out.mono ?_
 rintro e w1 ⟨v, rfl, ho, hb⟩
 go_wp2_with fail
 exact bodyPost_ret (v := v) (by simp [results, Tryz.results37, go_sem]) rfl ⟨_, rfl, ho, hb⟩
set_option maxRecDepth 100000 in
set_option maxHeartbeats 4000000 in
theorem value_none {B0 : Nat} {w : World} {v : Value} {R : Rsv} (h : RsP B0 w v R) (ok : RsvOk R) (lc p : Str) (hlc : lc.length ≤ maxLen) (hne : lc ≠ []) (hp : p.length ≤ maxLen) (hask : asksB lc p = true) (l : List Stp) (hl : pathP p = some l) (h1 : ∀ x ∈ l, ∀ k ∈ x.2, k.1 ≠ altT) (h2 : ∀ x ∈ l, ∀ k ∈ x.2, k.1 ≠ countT)
  (hA : R.als.length ≤ 900) (hsz : R.par.length ≤ 10000000000) (hsa : szA R.als) :
  Calls Tryz.prog 9 #[v, .string ⟨lc.toArray⟩, .string ⟨p.toArray⟩] w fun e w' => e = .returned (.tuple #[.string ⟨((lookF R.t (stopsF R lc p)).2.getD []).toArray⟩, .bool (lookF R.t (stopsF R lc p)).2.isSome]) ∧ Below w.heap.size w w' := by
 have AS := hid (asks_any h ok lc p hlc hp hsz)
 rw [hask] at AS
 have SW := hid (fun W => sideways1_none W lc p hne hp l hl h1 h2)
 have H := hid h
 have WK := hid (fun W (hW : RsP B0 W v R) vp (hvp : RdS W vp [p]) => walkV_any hW ok lc vp [p] hvp (fun q hq => by rw [List.mem_singleton.1 hq]; unfold pathB; rw [hl]; rfl) hlc hne hA (by simp) hsz hsa)
 simp only [List.flatMap_cons, List.flatMap_nil, List.append_nil] at WK
 obtain ⟨b, Bt, vc, va, km, n, rfl, _⟩ := h
 generalize (lookF R.t (stopsF R lc p)).2 = res at *
 clear hl h1 h2 hask
 go_enter Tryz.func9, Tryz.ntmps9
 go_wp2_with fail
 refine AS.out.mono ?_
 rintro e w1 ⟨rfl, hb1⟩
 have H1 := hid (H.out.below hb1)
 have B1 := hid hb1
 clear hb1
 go_wp2_with fail
 refine (SW.out w1).mono ?_
 rintro e w2 ⟨vp, rfl, ho, hb2⟩
 have H2 := hid (H1.out.below hb2)
 have B2 := hid (B1.out.then hb2)
 have W2 := hid (WK.out w2 H2.out vp ho.rd)
 clear ho hb2
 go_wp2_with fail
 refine W2.out.mono ?_
 rintro e w3 ⟨rfl, hb3⟩
 have B3 := hid (B2.out.then hb3)
 clear hb3 W2
 go_wp2_with fail
 exact bodyPost_ret (v := .tuple #[.string ⟨(res.getD []).toArray⟩, .bool res.isSome]) (by simp [results, Tryz.results9, go_sem]) rfl ⟨rfl, B3.out⟩
end Go.Proofs.YtbbmdbolkicpcaaGreatDoor
namespace Go.Proofs.YtbbmdbolkicpcaaGreatDoor
open Go.RowKit Go.Lib Go.Sort
set_option maxRecDepth 100000 in
set_option maxHeartbeats 8000000 in
theorem cloneP_zero (a : Addr) (c : Nat) (w : World) :
  Calls Tryz.prog 72 #[.slice (some a) 0 c] w fun e w' => ∃ v', e = .returned v' ∧ OwnP w' w.heap.size v' [] ∧ Below w.heap.size w w' := by
 obtain ⟨i0, hi, hz0, hz1, hz2⟩ := info_parts infoP
 have q22 : ∀ (w : World) (a : Option Addr) (n c n' c' : Nat), (binOp .eql 65 (.slice a n c) (.slice none n' c')).run Tryz.prog w = .ok (.bool a.isNone) w := fun w a n c n' c' => Lib.run_eql_slice_nil w _ _ a n c n' c' Tryz.underlying65
 go_enter Tryz.func72, Tryz.ntmps72
 go_wp2_with (at_builtin; refine wpList_append_own _ rfl _ _ 65 rfl w.heap.size 76 i0 (.agg #[.string ⟨#[]⟩, .string ⟨#[]⟩]) 2 32 Tryz.underlying65 hi hz0 hz1 hz2 rfl (by decide) _ _ _ rfl (World.ownsRow_made w #[] 0 (Nat.le_refl _) (Nat.zero_le _) (by simp)) a 0 c [] rfl rfl (by intro j u hj; simp at hj) (by intro u hu; cases hu) (by unfold maxLen; omega) (by omega) (by simp) ?_)
 intro v' w1 hown hgrow hnil
 go_wp2
 go_ret
 refine ⟨v', rfl, by simpa [OwnP, flat2] using hown, ?_⟩
 exact ((Below.refl _ w).alloc (Nat.le_refl _) _).grown hgrow (by simp) (by intro k hk; simp [Value.ownBlock] at hk; omega)
theorem cloneP_any (w : World) (v : Value) (l : List (Str × Str)) (h : RdP w v l) (hl : l.length ≤ 1000) :
  Calls Tryz.prog 72 #[v] w fun e w' => ∃ v', e = .returned v' ∧ OwnP w' w.heap.size v' l ∧ Below w.heap.size w w' := by
 obtain ⟨ao, cp, rfl, hl1, hr⟩ := h
 cases ao with
 | none =>
  obtain ⟨rfl, rfl⟩ := hl1.2 rfl
  have hc := AnyE.slices_Clone_nil Tryz.clPair 0 0 w
  change Calls Tryz.prog 72 _ _ _ at hc
  exact hc.mono fun e w' hh => ⟨_, hh.1, World.ownsRow_nil _ _ _ _, hh.2 ▸ Below.refl _ _⟩
 | some a =>
  by_cases hn : l = []
  ·subst hn
   exact cloneP_zero a cp w
  ·obtain ⟨b, off, he, hlt, hc⟩ := hr hn
   obtain rfl : a = ⟨b, off, none⟩ := Option.some.inj he
   obtain ⟨i0, hi, hz0, hz1, hz2⟩ := info_parts infoP
   have hcall := AnyE.slices_Clone Tryz.clPair i0 (.agg #[.string ⟨#[]⟩, .string ⟨#[]⟩]) 2 32 hi hz0 hz1 hz2 rfl (by decide) Tryz.sizeOf76 b off l.length cp (flat2 l) w (flat2_len l) (by unfold maxLen; omega) (by omega) (fun j u hu => by
     have hj := (List.getElem?_eq_some_iff.1 hu).1
     rw [flat2_len] at hj
     have hjm : j / 2 < l.length := by omega
     have hdm : j / 2 * 2 + j % 2 = j := by omega
     have h2 := flat2_get l (j / 2) (j % 2) hjm (by omega)
     rw [hdm, hu] at h2
     have := hc (j / 2) (j % 2) u hjm h2.symm
     rw [show off + j / 2 * 2 + j % 2 = off + j by omega] at this
     exact this) (fun u hu => by
     obtain ⟨x, _, hx⟩ := List.mem_flatMap.1 hu
     simp only [enc2, List.mem_cons, List.not_mem_nil, or_false] at hx
     rcases hx with rfl | rfl <;> rfl)
   change Calls Tryz.prog 72 _ _ _ at hcall
   exact hcall.mono fun e w' ⟨v', h1, h2, _, h3⟩ => ⟨v', h1, h2, h3⟩
set_option maxRecDepth 100000 in
theorem aall_any (w : World) (v : Value) (D : List Al) (h : AlRd w v D) (hn : D.length ≤ 1000) :
  Calls Tryz.prog 75 #[v] w fun e w' => ∃ vv, e = .returned vv ∧ OwnP w' w.heap.size vv D ∧ Below w.heap.size w w' := by
 obtain ⟨b, kv, rfl, hb, hr⟩ := h
 obtain ⟨ao, cp, rfl, _, _⟩ := rdP_cells hr
 have CL := hid (cloneP_any w _ D hr hn)
 have a0 : w.cell? ⟨b, 0, none⟩ = some (.slice ao D.length cp) := by rw [cell_of_row _ _ _ _ _ _ hb]; rfl
 have a1 := lt_of_block hb
 clear hb hr
 go_enter Tryz.func75, Tryz.ntmps75
 go_wp2_with fail
 refine CL.out.mono ?_
 rintro e w1 ⟨vv, rfl, ho, hb1⟩
 go_wp2_with fail
 exact bodyPost_ret (v := vv) (by simp [results, Tryz.results75, go_sem]) rfl ⟨vv, rfl, ho, hb1⟩
end Go.Proofs.YtbbmdbolkicpcaaGreatDoor
namespace Go.Proofs.YtbbmdbolkicpcaaGreatDoor
open Go.Lib
inductive Rch (E : Nat → Nat → Bool) (a : Nat) : Nat → Prop
 | one {b : Nat} : E a b = true → Rch E a b
 | step {b c : Nat} : Rch E a b → E b c = true → Rch E a c
theorem rch_closed {E : Nat → Nat → Bool} {a : Nat} (P : Nat → Prop) (h0 : ∀ k, E a k = true → P k) (h1 : ∀ b, P b → ∀ k, E b k = true → P k) (h2 : E a a = false) (h3 : ∀ b, P b → E b a = false) : ¬ Rch E a a := by
 have all : ∀ b, Rch E a b → P b := fun b h => by
  induction h with
  | one h => exact h0 _ h
  | step _ h ih => exact h1 _ ih _ h
 intro h
 cases h with
 | one h => rw [h2] at h; cases h
 | step hb h => rw [h3 _ (all _ hb)] at h; cases h
def edgA (D : List Al) (i k : Nat) : Bool := match D[i]?, D[k]? with
 | some p, some q => folB q p
 | _, _ => false
theorem edg_at {D : List Al} {i k : Nat} (hi : i < D.length) (hk : k < D.length) : edgA D i k = folB (D[k]'hk) (D[i]'hi) := by
 unfold edgA
 rw [List.getElem?_eq_getElem hi, List.getElem?_eq_getElem hk]
theorem edg_lt {D : List Al} {i k : Nat} (h : edgA D i k = true) : i < D.length ∧ k < D.length := by
 unfold edgA at h
 split at h
 ·next p q h1 h2 => exact ⟨(List.getElem?_eq_some_iff.1 h1).1, (List.getElem?_eq_some_iff.1 h2).1⟩
 ·cases h
theorem nodup_at {D : List Al} (hn : (D.map (·.1)).Nodup) {i k : Nat} (hi : i < D.length) (hk : k < D.length) (h : D[i]'hi = D[k]'hk) : i = k := by
 have hp := List.pairwise_iff_getElem.1 hn
 rcases Nat.lt_trichotomy i k with hlt | rfl | hlt
 ·have := hp i k (by simpa using hi) (by simpa using hk) hlt
  rw [List.getElem_map, List.getElem_map, h] at this
  exact absurd rfl this
 ·rfl
 ·have := hp k i (by simpa using hk) (by simpa using hi) hlt
  rw [List.getElem_map, List.getElem_map, h] at this
  exact absurd rfl this
theorem reach_rch {D : List Al} (hn : (D.map (·.1)).Nodup) {i : Nat} (hi : i < D.length) : ∀ (n : Nat) (b : Al), reachA D n (D[i]'hi) b → ∃ k, ∃ hk : k < D.length, b = D[k]'hk ∧ Rch (edgA D) i k
 | 0, b, h => by
  obtain ⟨_, h2, h3⟩ := h
  obtain ⟨k, hk, rfl⟩ := List.getElem_of_mem h2
  exact ⟨k, hk, rfl, .one (by rw [edg_at hi hk]; exact h3)⟩
 | n + 1, b, h => by
  obtain ⟨c, h1, h2, h3⟩ := h
  obtain ⟨j, hj, rfl, hr⟩ := reach_rch hn hi n c h1
  obtain ⟨k, hk, rfl⟩ := List.getElem_of_mem h2
  exact ⟨k, hk, rfl, .step hr (by rw [edg_at hj hk]; exact h3)⟩
theorem rch_reach {D : List Al} {i : Nat} (hi : i < D.length) {k : Nat} (h : Rch (edgA D) i k) : ∃ hk : k < D.length, ∃ n, reachA D n (D[i]'hi) (D[k]'hk) := by
 induction h with
 | one h =>
  obtain ⟨_, hk⟩ := edg_lt h
  exact ⟨hk, 0, List.getElem_mem hi, List.getElem_mem hk, by rw [edg_at hi hk] at h; exact h⟩
 | step _ h ih =>
  obtain ⟨hj, n, hr⟩ := ih
  obtain ⟨_, hk⟩ := edg_lt h
  exact ⟨hk, n + 1, _, hr, List.getElem_mem hk, by rw [edg_at hj hk] at h; exact h⟩
theorem ring_iff {D : List Al} (hn : (D.map (·.1)).Nodup) {i : Nat} (hi : i < D.length) : ringA D (D[i]'hi) ↔ Rch (edgA D) i i := by
 constructor
 ·rintro ⟨n, h⟩
  obtain ⟨k, hk, e, hr⟩ := reach_rch hn hi n _ h
  obtain rfl := nodup_at hn hi hk e
  exact hr
 ·intro h
  obtain ⟨_, n, hr⟩ := rch_reach hi h
  exact ⟨n, hr⟩
end Go.Proofs.YtbbmdbolkicpcaaGreatDoor
namespace Go.Proofs.YtbbmdbolkicpcaaGreatDoor
open Go.RowKit Go.Lib
def encBo : Enc Bool 1 := ⟨fun b => [.bool b], fun _ => rfl, fun x u hu => by simp at hu; subst hu; rfl⟩
def encNa : Enc Nat 1 := ⟨fun n => [.int .i64 n], fun _ => rfl, fun x u hu => by simp at hu; subst hu; rfl⟩
def encBr : Enc (List Bool × (Option Addr × Nat)) 1 := ⟨fun z => [.slice z.2.1 z.1.length z.2.2], fun _ => rfl, fun x u hu => by simp at hu; subst hu; rfl⟩
theorem infoBo' : (Tryz.prog.info? 4).map (fun i => (i.zero, i.size, i.bytes)) = some (some (.bool false), 1, 1) := by kernel_rfl
theorem infoNa : (Tryz.prog.info? 3).map (fun i => (i.zero, i.size, i.bytes)) = some (some (.int .i64 0), 1, 8) := by kernel_rfl
def RdRows (W : World) (v : Value) (rows : List (List Bool)) : Prop := ∃ zs : List (List Bool × (Option Addr × Nat)), zs.map (·.1) = rows ∧ RdL encBr W v zs ∧ ∀ z ∈ zs, RdL encBo W (.slice z.2.1 z.1.length z.2.2) z.1
theorem RdRows.below {W W' : World} {v : Value} {rows : List (List Bool)} (h : RdRows W v rows) (hb : Below W.heap.size W W') : RdRows W' v rows := by
 obtain ⟨zs, h1, h2, h3⟩ := h
 exact ⟨zs, h1, h2.below hb, fun z hz => (h3 z hz).below hb⟩
theorem RdRows.shape {W : World} {v : Value} {rows : List (List Bool)} (h : RdRows W v rows) : ∃ ao cp, v = .slice ao rows.length cp := by
 obtain ⟨zs, rfl, h2, _⟩ := h
 obtain ⟨ao, cp, rfl, _⟩ := h2.slice
 exact ⟨ao, cp, by rw [List.length_map]⟩
theorem RdRows.at' {W : World} {a : Option Addr} {n c : Nat} {rows : List (List Bool)} (h : RdRows W (.slice a n c) rows) (i : Nat) (hi : i < rows.length) : ∃ p o ra rc, a = some ⟨p, o, none⟩ ∧ p < W.heap.size ∧ W.cell? ⟨p, o + i, none⟩ = some (.slice ra (rows[i]'hi).length rc) ∧ RdL encBo W (.slice ra (rows[i]'hi).length rc) (rows[i]'hi) := by
 obtain ⟨zs, rfl, h2, h3⟩ := h
 rw [List.length_map] at hi
 obtain ⟨ao, cp, e, _, hc⟩ := h2
 cases e
 obtain ⟨p, o, rfl, hp, hx⟩ := hc (by intro e; rw [e] at hi; simp at hi)
 have hx0 := hx i 0 (.slice (zs[i]'hi).2.1 (zs[i]'hi).1.length (zs[i]'hi).2.2) hi rfl
 simp only [Nat.mul_one, Nat.add_zero] at hx0
 refine ⟨p, o, (zs[i]'hi).2.1, (zs[i]'hi).2.2, rfl, hp, by rw [List.getElem_map]; exact hx0, by rw [List.getElem_map]; exact h3 _ (List.getElem_mem hi)⟩
theorem bo_at {W : World} {a : Option Addr} {n c : Nat} {l : List Bool} (h : RdL encBo W (.slice a n c) l) (k : Nat) (hk : k < l.length) : ∃ q u, a = some ⟨q, u, none⟩ ∧ q < W.heap.size ∧ W.cell? ⟨q, u + k, none⟩ = some (.bool (l[k]'hk)) := by
 obtain ⟨ao2, cp2, e2, _, hc2⟩ := h
 cases e2
 obtain ⟨q, u, hq, hq2, hy⟩ := hc2 (by intro e; rw [e] at hk; simp at hk)
 have hy0 := hy k 0 (.bool (l[k]'hk)) hk rfl
 simp only [Nat.mul_one, Nat.add_zero] at hy0
 exact ⟨q, u, hq, hq2, hy0⟩
def unM (m : List Bool) : Nat := (m.filter (fun b => !b)).length
theorem unM_set : ∀ (m : List Bool) (k : Nat) (hk : k < m.length), m[k]'hk = false → unM (m.set k true) + 1 = unM m
 | [], k, hk, _ => absurd hk (by simp)
 | b :: r, 0, _, h => by
  have : b = false := h
  subst this
  simp [unM]
 | b :: r, k + 1, hk, h => by
  have ih := unM_set r k (by simpa using hk) (by simpa using h)
  unfold unM at ih ⊢
  rw [List.set_cons_succ, List.filter_cons, List.filter_cons]
  cases b
  ·simp only [Bool.not_false, if_true, List.length_cons]; omega
  ·simpa using ih
theorem OwnL.pop {α : Type} {k : Nat} {E : Enc α k} {ty : TypeId} {w : World} {B : Nat} {a : Option Addr} {n c : Nat} {l : List α} (h : OwnL E ty w B (.slice a n c) l) (m : Nat) (hm : m ≤ l.length) (hl : l ≠ []) : OwnL E ty w B (.slice a m c) (l.take m) := by
 rcases h.shape with ⟨_, e⟩ | ⟨g, cap, cur, e, hB, hg, hn, hmx, hs, ht⟩
 ·exact absurd e hl
 ·cases e
  have hlen : (l.take m).length = m := by rw [List.length_take]; omega
  unfold OwnL World.ownsRow
  have hf : flatL E l = flatL E (l.take m) ++ flatL E (l.drop m) := by rw [← flatL_append, List.take_append_drop]
  have hfl : (flatL E (l.take m)).length = m * k := by rw [flatL_len, hlen]
  refine ⟨by rw [hfl, hlen], Or.inr ⟨g, c, cur, by rw [hlen], hB, hg, by rw [hlen]; omega, hmx, hs, ?_⟩⟩
  rw [hlen]
  have h1 := congrArg (List.take (m * k)) ht
  rw [List.take_take, Nat.min_eq_left (Nat.mul_le_mul_right k hm), hf, List.take_left' hfl] at h1
  exact h1
end Go.Proofs.YtbbmdbolkicpcaaGreatDoor
namespace Go.Proofs.YtbbmdbolkicpcaaGreatDoor
open Go.RowKit Go.Lib Go.Maps
def addK (K : List Str) (p : Str) : List Str := if p ∈ K then K else K ++ [p]
def addP (K pile : List Str) (p : Str) : List Str := if p ∈ K then pile else pile ++ [p]
theorem own_map {α : Type} {E : El α} {W : World} {base size n km n2 : Nat} {e : TypeId} {v : Value} {xs : List Value} {L : List (Str × α)} (h : W.ownsRow base e size v n xs) (hm : OwnE E W km n2 L) : v.ownBlock = none ∨ v.ownBlock ≠ some km := by
 rcases h.2 with ⟨rfl, _⟩ | ⟨g, cap, cur, rfl, _, hg, _⟩
 ·exact Or.inl rfl
 ·refine Or.inr fun e => ?_
  cases e
  obtain ⟨es, ck, h2⟩ := hm.isMap
  rw [hg] at h2; cases h2
structure LrM (w W : World) (rb km Rb Pb : Nat) (cs : Array Value) (K : List Str) (pv : Value) (pile : List Str) : Prop where
 r0 : W.heap[Rb]? = some (.cells #[.pointer (some ⟨rb, 0, none⟩)] 23 (0, 0))
 pb : W.heap[Pb]? = some (.cells #[pv] 36 (0, 0))
 ps : OwnS W w.heap.size pv pile
 mp : OwnE elBo W km K.length (setL K)
 on : w.grownBy W (some km)
 rs : W.heap[rb]? = some (.cells cs 64 (0, 0))
 lr : w.heap.size ≤ Rb
 lp : w.heap.size ≤ Pb
 kl : km < w.heap.size
 nd : K.Nodup
def LrK (W W' : World) (km Pb : Nat) (pv pv' : Value) : Prop := W.heap.size ≤ W'.heap.size ∧ ∀ k, k < W.heap.size → k ≠ km → k ≠ Pb → pv.ownBlock ≠ some k → W'.heap[k]? = W.heap[k]? ∧ pv'.ownBlock ≠ some k
section
variable {w W W' : World} {rb km Rb Pb : Nat} {cs : Array Value} {K pile : List Str} {pv : Value}
theorem LrM.below (h : LrM w W rb km Rb Pb cs K pv pile) (hb : Below W.heap.size W W') : LrM w W' rb km Rb Pb cs K pv pile :=
 ⟨(hb.block _ (lt_of_block h.r0)).trans h.r0, (hb.block _ (lt_of_block h.pb)).trans h.pb, own_below h.ps hb, h.mp.below hb, ⟨hb.os.trans h.on.os, hb.tape.trans h.on.tape, hb.output.trans h.on.output, Nat.le_trans h.on.size hb.size, fun k hk hne => (hb.block k (Nat.lt_of_lt_of_le hk h.on.size)).trans (h.on.block k hk hne)⟩, (hb.block _ (lt_of_block h.rs)).trans h.rs, h.lr, h.lp, h.kl, h.nd⟩
set_option maxRecDepth 100000 in
set_option maxHeartbeats 4000000 in
theorem ladd_any {Bt va vc : Value} (h : LrM w W rb km Rb Pb #[Bt, vc, va, .map (some km)] K pv pile) (p : Str) (hp : p.length ≤ maxLen) (hK : K.length ≤ 1000000) (hl : pile.length ≤ 1000000) :
  Calls Tryz.prog 74 #[.string ⟨p.toArray⟩, .pointer (some ⟨Rb, 0, none⟩), .pointer (some ⟨Pb, 0, none⟩)] W fun x w' => x = .returned (.tuple #[]) ∧ ∃ pv', LrM w w' rb km Rb Pb #[Bt, vc, va, .map (some km)] (addK K p) pv' (addP K pile p) ∧ LrK W w' km Pb pv pv' := by
 obtain ⟨a0, a1, a2, a3, al⟩ := box4_cells h.rs
 have r0 : W.cell? ⟨Rb, 0, none⟩ = some (.pointer (some ⟨rb, 0, none⟩)) := by rw [cell_of_row _ _ _ _ _ _ h.r0]; rfl
 have rl := lt_of_block h.r0
 have H := hid h
 by_cases hm : p ∈ K
 ·have HF := hid (show addK K p = K ∧ addP K pile p = pile by unfold addK addP; rw [if_pos hm, if_pos hm]; exact ⟨rfl, rfl⟩)
  have HLK := hid (show lookE (setL K) p = some true by rw [look_set, if_pos hm])
  clear h hm
  go_enter Tryz.func74, Tryz.ntmps74
  go_wp2_with (at_lookup; refine wpList_lookE1 (E := elBo) H.out.mp Tryz.underlying61 zeroBo rfl _ _ rfl rfl p rfl hp (.bool true) (by rw [HLK.out]; rfl) ?_)
  refine bodyPost_end (v := .tuple #[]) (by simp [results, Tryz.results74, go_sem]) rfl ?_
  exact ⟨rfl, pv, by rw [HF.out.1, HF.out.2]; exact H.out, Nat.le_refl _, fun k _ _ _ h => ⟨rfl, h⟩⟩
 ·have HF := hid (show addK K p = K ++ [p] ∧ addP K pile p = pile ++ [p] by unfold addK addP; rw [if_neg hm, if_neg hm]; exact ⟨rfl, rfl⟩)
  have HLK := hid (show lookE (setL K) p = none by rw [look_set, if_neg hm])
  have HM := hid hm
  clear h hm
  have HWS := hid H.out.on.size
  go_enter Tryz.func74, Tryz.ntmps74
  go_wp2_with (first
   | (at_lookup; refine wpList_lookE1 (E := elBo) H.out.mp Tryz.underlying61 zeroBo rfl _ _ rfl rfl p rfl hp (.bool false) (by rw [HLK.out]; rfl) ?_)
   | (at_mapUpdate; refine wpList_sayE (E := elBo) H.out.mp (by unfold maxLen; omega) Tryz.underlying61 rfl _ _ _ rfl rfl p rfl hp true rfl HLK.out ?_; intro w3 ho3 hg3; have HO3 := hid ho3; have HG3 := hid hg3; have P3 := hid (box_kept H.out.pb H.out.mp hg3); have p0 : w3.cell? ⟨Pb, 0, none⟩ = some pv := (by rw [cell_of_row _ _ _ _ _ _ P3.out]; rfl); have pf := frozen_of_row _ _ 0 _ _ P3.out; have pl := lt_of_block P3.out; clear ho3 hg3 a0 a1 a2 a3 al r0 rl)
   | (at_builtin; refine wpList_pushS rfl (.tmp 16) (.tmp 18) rfl w.heap.size pv pile p rfl (World.ownsRow.kept H.out.ps HG3.out (own_map H.out.ps H.out.mp)) rfl hl (Nat.le_trans HWS.out HG3.out.size) ?_; intro pv' w4 own4 gr4 mv4; obtain ⟨a', c', rfl⟩ := own_sliceS own4; rw [show (pile ++ [p]).length = pile.length + 1 from by simp] at own4 mv4; have O4 := hid own4; have G4 := hid gr4; have MV4 := hid mv4; have PB4 := hid ((gr4.block _ (lt_of_block P3.out) (fun e => own_type H.out.ps H.out.pb (by decide) e.symm)).trans P3.out); clear own4 gr4 mv4 p0 pf pl; have p0 : w4.cell? ⟨Pb, 0, none⟩ = some pv := (by rw [cell_of_row _ _ _ _ _ _ PB4.out]; rfl); have pf := frozen_of_row _ _ 0 _ _ PB4.out; have pl := lt_of_block PB4.out))
  refine bodyPost_end (v := .tuple #[]) (by simp [results, Tryz.results74, go_sem]) rfl ?_
  refine ⟨rfl, .slice a' (pile.length + 1) c', ?_⟩
  rw [HF.out.1, HF.out.2]
  have nx : ∀ {k : Nat} {c : Array Value} {ty : TypeId}, W.heap[k]? = some (.cells c ty (0, 0)) → 9 ≠ ty → w4.heap[k]? = some (.cells c ty (0, 0)) := fun {k c ty} hk ht => by
   have h3 := box_kept hk H.out.mp HG3.out
   exact (G4.out.block _ (lt_of_block h3) (fun e => own_type (World.ownsRow.kept H.out.ps HG3.out (own_map H.out.ps H.out.mp)) h3 ht e.symm)).trans h3
  have hrp : Rb ≠ Pb := fun e => by
   have h1 := H.out.r0
   rw [e, H.out.pb] at h1
   have := Option.some.inj h1
   injection this with _ e2 _
   revert e2
   decide
  have hsp : rb ≠ Pb := fun e => by
   have h1 := H.out.rs
   rw [e, H.out.pb] at h1
   have := Option.some.inj h1
   injection this with _ e2 _
   revert e2
   decide
  have hkp : km ≠ Pb := fun e => by
   obtain ⟨es, ck, h2⟩ := H.out.mp.isMap
   rw [e, H.out.pb] at h2
   cases h2
  have hkv : (w4.setCell ⟨Pb, 0, none⟩ (.slice a' (pile.length + 1) c')).heap[km]? = w3.heap[km]? := by
   rw [heap_setCell_other _ _ _ _ hkp]
   refine G4.out.block _ HO3.out.lt (fun e => ?_)
   rcases own_map H.out.ps H.out.mp with h | h
   ·rw [h] at e; cases e
   ·exact h e.symm
  refine ⟨?_, by simpa using Nat.le_trans HG3.out.size G4.out.size, fun k hk h1 h2 h3 => ⟨by rw [heap_setCell_other _ _ _ _ h2, G4.out.block k (Nat.lt_of_lt_of_le hk HG3.out.size) (fun e => h3 e.symm), HG3.out.block k hk (fun e => h1 (Option.some.inj e))], fun e => ?_⟩⟩
  rotate_left
  ·rcases MV4.out with m | ⟨j, h4, h5⟩
   ·exact h3 (m.symm.trans e)
   ·rw [h4] at e
    cases e
    have := HG3.out.size
    omega
  refine ⟨(heap_setCell_other _ _ _ _ hrp).trans (nx H.out.r0 (by decide)), by rw [heap_setCell_same _ _ _ _ _ _ PB4.out]; rfl, own_set O4.out (own_type O4.out PB4.out (by decide)) 0 _, ?_, ?_, (heap_setCell_other _ _ _ _ hsp).trans (nx H.out.rs (by decide)), H.out.lr, H.out.lp, H.out.kl, ?_⟩
  ·have := HO3.out.block hkv
   rw [List.length_append, List.length_singleton, show setL (K ++ [p]) = setL K ++ [(p, true)] from by simp [setL]]
   exact this
  ·have h1 := H.out.on
   have h2 := HG3.out
   have h3 := G4.out
   refine ⟨h3.os.trans (h2.os.trans h1.os), h3.tape.trans (h2.tape.trans h1.tape), h3.output.trans (h2.output.trans h1.output), by simpa using Nat.le_trans h1.size (Nat.le_trans h2.size h3.size), fun k hk hne => ?_⟩
   have hkW := Nat.lt_of_lt_of_le hk h1.size
   rw [heap_setCell_other _ _ _ _ (fun e => by have := H.out.lp; simp only at e; omega), h3.block k (Nat.lt_of_lt_of_le hkW h2.size) (fun e => by have := (World.ownsRow.lt H.out.ps k e.symm).1; omega), h2.block k hkW hne]
   exact h1.block k hk hne
  ·rw [List.nodup_append]
   exact ⟨H.out.nd, by simp, fun a ha b hb e => HM.out (by simp at hb; rw [← hb, ← e]; exact ha)⟩
end
end Go.Proofs.YtbbmdbolkicpcaaGreatDoor
namespace Go.Proofs.YtbbmdbolkicpcaaGreatDoor
open Go.RowKit Go.Lib Go.Maps
structure LrnI (D : List Al) (S : List Str) (K pile : List Str) (cur : Option (Str × Nat)) : Prop where
 gen : ∀ p ∈ K, Gen D S p
 base : ∀ p ∈ S, p ∈ K
 pk : ∀ p ∈ pile, p ∈ K
 closed : ∀ p ∈ K, p ∉ pile → (∀ c u, cur = some (c, u) → p ≠ c) → ∀ a ∈ D, ∀ q, movedF p a = some q → q ∈ K
 part : ∀ c u, cur = some (c, u) → c ∈ K ∧ ∀ a ∈ D.take u, ∀ q, movedF c a = some q → q ∈ K
section
variable {D : List Al} {S K pile : List Str} {c q : Str} {u : Nat}
theorem LrnI.start (h1 : ∀ p ∈ K, p ∈ S) (h2 : ∀ p ∈ S, p ∈ K) : LrnI D S K K none :=
 ⟨fun p hp => .base (h1 p hp), h2, fun p hp => hp, fun p hp hn => absurd hp hn, fun c u e => by cases e⟩
theorem LrnI.pop {m : Nat} (h : LrnI D S K pile none) (hm : pile.length = m + 1) (hc : pile[m]? = some c) : LrnI D S K (pile.take m) (some (c, 0)) := by
 have e : pile = pile.take m ++ [c] := by
  have h1 : m < pile.length := by omega
  rw [List.getElem?_eq_getElem h1] at hc
  rw [← Option.some.inj hc, ← List.take_succ_eq_append_getElem h1, List.take_of_length_le (by omega)]
 refine ⟨h.gen, h.base, fun p hp => h.pk p (List.mem_of_mem_take hp), fun p hp hn hne a ha q hq => ?_, fun c' u e' => ?_⟩
 ·refine h.closed p hp (fun hx => ?_) (fun _ _ e => by cases e) a ha q hq
  rw [e] at hx
  rcases List.mem_append.1 hx with hx | hx
  ·exact hn hx
  ·exact hne c 0 rfl (List.mem_singleton.1 hx)
 ·cases e'
  exact ⟨h.pk _ (by rw [e]; simp), fun a ha => by simp at ha⟩
theorem LrnI.none_ (h : LrnI D S K pile (some (c, u))) (hu : u < D.length) (hn : movedF c D[u] = none) : LrnI D S K pile (some (c, u + 1)) := by
 refine ⟨h.gen, h.base, h.pk, fun p hp hx hne => h.closed p hp hx (fun c' u' e => by cases e; exact hne _ _ rfl), fun c' u' e => ?_⟩
 cases e
 obtain ⟨h1, h2⟩ := h.part _ _ rfl
 refine ⟨h1, fun a ha q hq => ?_⟩
 rw [List.take_succ_eq_append_getElem hu] at ha
 rcases List.mem_append.1 ha with ha | ha
 ·exact h2 a ha q hq
 ·rw [List.mem_singleton.1 ha, hn] at hq; cases hq
theorem LrnI.add (h : LrnI D S K pile (some (c, u))) (hu : u < D.length) (hq : movedF c D[u] = some q) : LrnI D S (addK K q) (addP K pile q) (some (c, u + 1)) := by
 obtain ⟨h1, h2⟩ := h.part _ _ rfl
 unfold addK addP
 by_cases hk : q ∈ K
 ·rw [if_pos hk, if_pos hk]
  refine ⟨h.gen, h.base, h.pk, fun p hp hx hne => h.closed p hp hx (fun c' u' e => by cases e; exact hne _ _ rfl), fun c' u' e => ?_⟩
  cases e
  refine ⟨h1, fun a ha q' hq' => ?_⟩
  rw [List.take_succ_eq_append_getElem hu] at ha
  rcases List.mem_append.1 ha with ha | ha
  ·exact h2 a ha q' hq'
  ·rw [List.mem_singleton.1 ha, hq] at hq'; cases hq'; exact hk
 ·rw [if_neg hk, if_neg hk]
  refine ⟨fun p hp => ?_, fun p hp => List.mem_append_left _ (h.base p hp), fun p hp => ?_, fun p hp hx hne a ha q' hq' => ?_, fun c' u' e => ?_⟩
  ·rcases List.mem_append.1 hp with hp | hp
   ·exact h.gen p hp
   ·rw [List.mem_singleton.1 hp]; exact .step (h.gen c h1) (List.getElem_mem hu) hq
  ·rcases List.mem_append.1 hp with hp | hp
   ·exact List.mem_append_left _ (h.pk p hp)
   ·exact List.mem_append_right _ hp
  ·rcases List.mem_append.1 hp with hp | hp
   ·exact List.mem_append_left _ (h.closed p hp (fun hx' => hx (List.mem_append_left _ hx')) (fun c' u' e => by cases e; exact hne _ _ rfl) a ha q' hq')
   ·exact absurd (List.mem_append_right _ hp) hx
  ·cases e
   refine ⟨List.mem_append_left _ h1, fun a ha q' hq' => ?_⟩
   rw [List.take_succ_eq_append_getElem hu] at ha
   rcases List.mem_append.1 ha with ha | ha
   ·exact List.mem_append_left _ (h2 a ha q' hq')
   ·rw [List.mem_singleton.1 ha, hq] at hq'; cases hq'; simp
theorem LrnI.fin (h : LrnI D S K pile (some (c, u))) (hu : u = D.length) : LrnI D S K pile none := by
 subst hu
 obtain ⟨h1, h2⟩ := h.part _ _ rfl
 rw [List.take_length] at h2
 refine ⟨h.gen, h.base, h.pk, fun p hp hx _ a ha q hq => ?_, fun c' u' e => by cases e⟩
 by_cases hpc : p = c
 ·subst hpc; exact h2 a ha q hq
 ·exact h.closed p hp hx (fun c' u' e => by cases e; exact hpc) a ha q hq
theorem LrnI.known (h : LrnI D S K [] none) (hn : K.Nodup) : KnownIs D S K :=
 ⟨hn, h.gen, h.base, fun p hp a ha q hq => h.closed p hp (by simp) (fun _ _ e => by cases e) a ha q hq⟩
theorem addK_len (K : List Str) (q : Str) : (addK K q).length = K.length ∧ addP K pile q = pile ∨ (addK K q).length = K.length + 1 ∧ (addP K pile q).length = pile.length + 1 := by
 unfold addK addP
 by_cases hk : q ∈ K
 ·rw [if_pos hk, if_pos hk]; exact Or.inl ⟨rfl, rfl⟩
 ·rw [if_neg hk, if_neg hk]; exact Or.inr ⟨by simp, by simp⟩
theorem addK_mem {K : List Str} {p x : Str} : x ∈ addK K p ↔ x ∈ K ∨ x = p := by
 unfold addK
 by_cases hk : p ∈ K
 ·rw [if_pos hk]; exact ⟨Or.inl, fun h => h.elim id (fun e => e ▸ hk)⟩
 ·rw [if_neg hk]; simp
theorem gen_len (hs : ∀ p ∈ S, p.length ≤ maxLen) {p : Str} (g : Gen D S p) : p.length ≤ maxLen := by
 cases g with
 | base h => exact hs _ h
 | step _ _ h =>
  obtain ⟨l, hl⟩ := Option.isSome_iff_exists.1 (moved_path h)
  have h1 := path_all hl
  have h2 := h1.2.2.2.1
  rw [h1.2.2.2.2] at h2
  unfold maxLen
  omega
end
theorem own_take {W : World} {B k n m c : Nat} {e : TypeId} {a : Option Addr} {xs : List Value} (h : W.ownsRow B e k (.slice a n c) n xs) (hm : m ≤ n) (hn : 0 < n) : W.ownsRow B e k (.slice a m c) m (xs.take (m * k)) := by
 obtain ⟨hl, h2⟩ := h
 rcases h2 with ⟨e1, e2⟩ | ⟨g, cap, cur, e1, hB, hg, hnc, hcm, hs, ht⟩
 ·omega
 ·cases e1
  have hmk : m * k ≤ n * k := Nat.mul_le_mul_right k hm
  refine ⟨by rw [List.length_take, hl, Nat.min_eq_left hmk], Or.inr ⟨g, c, cur, rfl, hB, hg, by omega, hcm, hs, ?_⟩⟩
  rw [← ht, List.take_take, Nat.min_eq_left hmk]
theorem own_at {W W' : World} {B k n : Nat} {e : TypeId} {v : Value} {xs : List Value} (h : W.ownsRow B e k v n xs) (hk : ∀ g, v.ownBlock = some g → W'.heap[g]? = W.heap[g]?) : W'.ownsRow B e k v n xs := by
 refine ⟨h.1, ?_⟩
 rcases h.2 with h | ⟨g, cap, cur, rfl, hB, hg, rest⟩
 ·exact Or.inl h
 ·exact Or.inr ⟨g, cap, cur, rfl, hB, (hk g rfl).trans hg, rest⟩
def ApS (pv v : Value) : Prop := ∀ g, v.ownBlock = some g → pv.ownBlock ≠ some g
theorem own_LrK {W W' : World} {km Pb B k n n2 : Nat} {e : TypeId} {pv pv' v : Value} {xs : List Value} {L : List (Str × Bool)} {cs : Array Value} (h : W.ownsRow B e k v n xs) (hk : LrK W W' km Pb pv pv') (ha : ApS pv v) (hm : OwnE elBo W km n2 L) (hp : W.heap[Pb]? = some (.cells cs 36 (0, 0))) (he : e ≠ 36) : W'.ownsRow B e k v n xs ∧ ApS pv' v := by
 have key : ∀ g, v.ownBlock = some g → W'.heap[g]? = W.heap[g]? ∧ pv'.ownBlock ≠ some g := fun g hg => by
  refine hk.2 g (World.ownsRow.lt h g hg).2 ?_ ?_ (ha g hg)
  ·rintro rfl
   rcases own_map h hm with h1 | h1
   ·rw [h1] at hg; cases hg
   ·exact h1 hg
  ·rintro rfl
   exact own_type h hp he hg
 exact ⟨own_at h fun g hg => (key g hg).1, fun g hg => (key g hg).2⟩
end Go.Proofs.YtbbmdbolkicpcaaGreatDoor
namespace Go.Proofs.YtbbmdbolkicpcaaGreatDoor
open Go.RowKit Go.Lib Go.Maps
theorem LrM.len {w W : World} {rb km Rb Pb : Nat} {cs : Array Value} {K pile : List Str} {pv : Value} (h : LrM w W rb km Rb Pb cs K pv pile) (ty : TypeId) : (Builtin.len_ #[61] ty #[.map (some km)]).run Tryz.prog W = .ok (.int .i64 (K.length : Nat)) W := by
 have := h.mp.len Tryz.underlying61 (by rw [setL_keys]; exact h.nd) ty
 rwa [show (setL K).length = K.length from by simp [setL]] at this
def LearnOut (w : World) (t : Tb) (A : List Al) (km : Nat) (x : Ending) (w' : World) : Prop := ∃ (ok : Bool) (K : List Str), x = .returned (.bool ok) ∧ KnownOut A (basePs t) ok K ∧ OwnE elBo w' km K.length (setL K) ∧ w.grownBy w' (some km)
theorem aps_kinds {W : World} {B1 B2 k1 k2 n1 n2 : Nat} {e1 e2 : TypeId} {v1 v2 : Value} {x1 x2 : List Value} (h1 : W.ownsRow B1 e1 k1 v1 n1 x1) (h2 : W.ownsRow B2 e2 k2 v2 n2 x2) (hne : e1 ≠ e2) : ApS v1 v2 := fun g hg e => by
 rcases ne_kinds h1 h2 hne with h | h
 ·rw [h] at e; cases e
 ·exact h (e.trans hg.symm)
theorem LrM.popS {w W : World} {rb km Rb Pb : Nat} {cs : Array Value} {K pile : List Str} {a : Option Addr} {c n : Nat} (h : LrM w W rb km Rb Pb cs K (.slice a n c) pile) (hn : n = pile.length) (m : Nat) (hm : m ≤ pile.length) (hp : 0 < pile.length) :
  LrM w (W.setCell ⟨Pb, 0, none⟩ (.slice a m c)) rb km Rb Pb cs K (.slice a m c) (pile.take m) := by
 subst hn
 have hrp : Rb ≠ Pb := fun e => by
  have h1 := h.r0
  rw [e, h.pb] at h1
  have := Option.some.inj h1
  injection this with _ e2 _
  revert e2
  decide
 have hsp : rb ≠ Pb := fun e => by
  have h1 := h.rs
  rw [e, h.pb] at h1
  have := Option.some.inj h1
  injection this with _ e2 _
  revert e2
  decide
 have hkp : km ≠ Pb := fun e => by
  obtain ⟨es, ck, h2⟩ := h.mp.isMap
  rw [e, h.pb] at h2
  cases h2
 have ht := own_take h.ps hm hp
 have hlt : (pile.take m).length = m := by rw [List.length_take]; omega
 have ho : OwnS W w.heap.size (.slice a m c) (pile.take m) := by
  unfold OwnS
  rw [hlt, List.map_take]
  simpa using ht
 refine ⟨(heap_setCell_other _ _ _ _ hrp).trans h.r0, by rw [heap_setCell_same _ _ _ _ _ _ h.pb]; rfl, own_set ho (own_type ho h.pb (by decide)) 0 _, h.mp.block (heap_setCell_other _ _ _ _ hkp), ?_, (heap_setCell_other _ _ _ _ hsp).trans h.rs, h.lr, h.lp, h.kl, h.nd⟩
 exact ⟨h.on.os, h.on.tape, h.on.output, by simpa using h.on.size, fun k hk hne => (heap_setCell_other _ _ _ _ (fun e => by have := h.lp; simp only at e; omega)).trans (h.on.block k hk hne)⟩
set_option maxRecDepth 100000 in
set_option maxHeartbeats 32000000 in
theorem learn_any {B0 : Nat} (w : World) (rb Bt va km : Nat) (vc : Value) (t : Tb) (A : List Al) (hr : w.heap[rb]? = some (.cells #[.pointer (some ⟨Bt, 0, none⟩), vc, .pointer (some ⟨va, 0, none⟩), .map (some km)] 64 (0, 0)))
  (hT : ∀ W, w.grownBy W (some km) → TbP B0 W Bt t) (ok : TbOk t) (sz : SzT t) (hA : ∀ W, w.grownBy W (some km) → AlRd W (.pointer (some ⟨va, 0, none⟩)) A) (sA : szA A) (nA : A.length ≤ 1000) (hm : OwnE elBo w km 0 (setL []))
  (hbase : ∀ p, p ∈ basePs t ↔ ∃ l ∈ srtT t.names, p ∈ pathsF t l) :
  Calls Tryz.prog 34 #[.pointer (some ⟨rb, 0, none⟩)] w fun x w' => LearnOut w t A km x w' := by
 have hsP : ∀ p ∈ basePs t, p.length ≤ maxLen := fun p hp => by
  obtain ⟨l, _, h⟩ := (hbase p).1 hp
  exact paths_sz sz h
 have hK16 : ∀ K : List Str, K.Nodup → (∀ p ∈ K, p ∈ basePs t) → K.length ≤ 16384 := fun K hn hs => by
  refine Nat.le_trans (nodup_le K t.paths hn fun p hp => ?_) ok.p16
  obtain ⟨r, hr, rfl⟩ := List.mem_map.1 (hs p hp)
  exact ok.rp r (List.mem_filter.1 hr).1
 have HSP := hid hsP
 have HK16 := hid hK16
 have HT := hid hT
 have HA := hid hA
 have HBASE := hid hbase
 have HSA := hid sA
 have HNA := hid nA
 have HNM := hid ok.n512
 have L0 := hid (show LrM w ((w.alloc (.cells #[.pointer (some ⟨rb, 0, none⟩)] 23)).alloc (.cells #[.slice none 0 0] 36)) rb km w.heap.size (w.heap.size + 1) #[.pointer (some ⟨Bt, 0, none⟩), vc, .pointer (some ⟨va, 0, none⟩), .map (some km)] [] (.slice none 0 0) [] from by
  have b1 : Below w.heap.size w (w.alloc (.cells #[.pointer (some ⟨rb, 0, none⟩)] 23)) := (Below.refl _ _).alloc (Nat.le_refl _) _
  have b2 : Below (w.alloc (.cells #[.pointer (some ⟨rb, 0, none⟩)] 23)).heap.size (w.alloc (.cells #[.pointer (some ⟨rb, 0, none⟩)] 23)) ((w.alloc (.cells #[.pointer (some ⟨rb, 0, none⟩)] 23)).alloc (.cells #[.slice none 0 0] 36)) := (Below.refl _ _).alloc (Nat.le_refl _) _
  have b3 := b1.then b2
  have h2 := heap_alloc_new (w.alloc (.cells #[.pointer (some ⟨rb, 0, none⟩)] 23)) (.cells #[.slice none 0 0] 36)
  rw [show (w.alloc (.cells #[.pointer (some ⟨rb, 0, none⟩)] 23)).heap.size = w.heap.size + 1 by simp] at h2
  exact ⟨(b2.block _ (lt_of_block (heap_alloc_new w _))).trans (heap_alloc_new w _), h2, World.ownsRow_nil _ _ _ _, hm.below b3, ⟨b3.os, b3.tape, b3.output, b3.size, fun k hk _ => b3.block k hk⟩, (b3.block _ (lt_of_block hr)).trans hr, Nat.le_refl _, Nat.le_succ _, hm.lt, by simp⟩)
 clear hr hT hA hm hbase sA nA hsP hK16
 go_enter Tryz.func34, Tryz.ntmps34
 go_upto_region 3 with fail
 generalize (w.alloc (.cells #[.pointer (some ⟨rb, 0, none⟩)] 23)).alloc (.cells #[.slice none 0 0] 36) = w2 at *
 generalize w.heap.size + 1 = Pb at *
 obtain ⟨Rb, hRb⟩ : ∃ Rb, Rb = w.heap.size := ⟨_, rfl⟩
 rw [← hRb]
 rw [← hRb] at L0
 clear hRb
 have RC := hid (fun (W : World) (K : List Str) (pv : Value) (pile : List Str) (h : LrM w W rb km Rb Pb #[.pointer (some ⟨Bt, 0, none⟩), vc, .pointer (some ⟨va, 0, none⟩), .map (some km)] K pv pile) => (show W.cell? ⟨Rb, 0, none⟩ = some (.pointer (some ⟨rb, 0, none⟩)) ∧ Rb < W.heap.size ∧ W.cell? ⟨Pb, 0, none⟩ = some pv ∧ W.frozen? ⟨Pb, 0, none⟩ = false ∧ Pb < W.heap.size from ⟨by rw [cell_of_row _ _ _ _ _ _ h.r0]; rfl, lt_of_block h.r0, by rw [cell_of_row _ _ _ _ _ _ h.pb]; rfl, frozen_of_row _ _ _ _ _ h.pb, lt_of_block h.pb⟩))
 obtain ⟨r0, rl, p0, pf, pl⟩ := RC.out _ _ _ _ L0.out
 obtain ⟨a0, a1, a2, a3, al⟩ := box4_cells L0.out.rs
 have LO := hid ((HT.out _ L0.out.on).locales ok)
 go_wp2_with fail
 refine LO.out.mono ?_
 rintro e w3 ⟨vn, rfl, on3, hb3⟩
 obtain ⟨an, cn, rfl⟩ := own_sliceS on3
 have L3 := hid (L0.out.below hb3)
 have ON3 := hid on3
 clear r0 rl p0 pf pl a0 a1 a2 a3 al on3 hb3 L0 LO
 obtain ⟨nm, hnm⟩ : ∃ nm, nm = srtT t.names := ⟨_, rfl⟩
 have HNM2 := hid (show nm.length ≤ 512 by rw [hnm, (srtT_perm _).length_eq]; exact HNM.out)
 have HNSZ := hid (show ∀ l ∈ nm, l.length ≤ maxLen from fun l hl => names_sz sz (by rw [← hnm]; exact hl))
 rw [← hnm] at ON3 HBASE ⊢
 clear hnm
 go_upto_region 4 with fail
 go_loopg [24] nm.length (fun g v24 W => ∃ (i : Nat) (K : List Str) (pv : Value), i ≤ nm.length ∧ nm.length ≤ i + g ∧ v24 = .int .i64 i ∧ LrM w W rb km Rb Pb #[.pointer (some ⟨Bt, 0, none⟩), vc, .pointer (some ⟨va, 0, none⟩), .map (some km)] K pv K ∧ (∀ p ∈ K, p ∈ basePs t) ∧ (∀ l ∈ nm.take i, ∀ p ∈ pathsF t l, p ∈ K) ∧ OwnS W w2.heap.size (.slice an nm.length cn) nm ∧ ApS pv (.slice an nm.length cn))
 case atStart => exact ⟨0, [], _, Nat.zero_le _, by omega, rfl, L3.out, fun p hp => by simp at hp, fun l hl => by simp at hl, ON3.out, fun g _ h => by simp [Value.ownBlock] at h⟩
 case round =>
  obtain ⟨i, K, pv, hi, hg, rfl, hL, hKb, hKn, hon, hap⟩ := hrel
  rename World => w4
  obtain ⟨go, hgo⟩ : ∃ go, go = gk := ⟨_, rfl⟩
  have HG := hid (show nm.length ≤ i + go by rw [hgo]; exact hg)
  have HGO := hid hgo
  have L4 := hid hL
  have HKB := hid hKb
  have HKN := hid hKn
  have ON4 := hid hon
  have HAP := hid hap
  have hi0 : (0 : Int) ≤ (i : Int) := by omega
  clear hgo hg hL hKb hKn hon hap L3 ON3
  by_cases hlt : i < nm.length
  ·have hii : (i : Int) < (nm.length : Int) := by omega
   have hib : (i : Int) ≤ 512 := by have := HNM2.out; omega
   have HLM := hid (HNSZ.out _ (List.getElem_mem hlt))
   have HLT := hid (List.take_succ_eq_append_getElem hlt)
   have HMEM := hid (List.getElem_mem hlt)
   obtain ⟨ao, cp, e, _, hcc⟩ := OwnS.rd ON4.out
   cases e
   obtain ⟨bq, off, rfl, hbq, hcl⟩ := hcc (by intro e; rw [e] at hlt; simp at hlt)
   have n0 : w4.cell? ⟨bq, off + i, none⟩ = some (.string ⟨(nm[i]'hlt).toArray⟩) := hcl i _ (List.getElem?_eq_getElem hlt)
   clear hcc hcl
   generalize nm[i]'hlt = l at *
   obtain ⟨r0, rl, p0, pf, pl⟩ := RC.out _ _ _ _ L4.out
   obtain ⟨a0, a1, a2, a3, al⟩ := box4_cells L4.out.rs
   have PA := hid ((HT.out _ L4.out.on).paths ok l HLM.out)
   have PSZ := hid (fun p (h : p ∈ pathsF t l) => paths_sz sz h)
   have PB := hid (fun p (h : p ∈ pathsF t l) => (HBASE.out p).2 ⟨l, HMEM.out, h⟩)
   obtain ⟨ps, hps⟩ : ∃ ps, ps = pathsF t l := ⟨_, rfl⟩
   have HPS := hid hps
   rw [← hps] at PA PSZ PB
   clear hps
   go_wp2_with fail
   refine PA.out.mono ?_
   rintro e w5 ⟨vp, rfl, op5, hb5⟩
   obtain ⟨aq, cq, rfl⟩ := own_sliceS op5
   have L5 := hid (L4.out.below hb5)
   have ON5 := hid (show OwnS w5 w2.heap.size _ nm from own_below ON4.out hb5)
   have OP5 := hid op5
   have HAP5 := hid (show ApS pv (.slice aq ps.length cq) from fun g hg e => by
    have h1 := (World.ownsRow.lt op5 g hg).1
    have h2 := (World.ownsRow.lt L4.out.ps g e).2
    omega)
   clear r0 rl p0 pf pl a0 a1 a2 a3 al op5 hb5 PA L4 ON4 n0 hbq
   go_upto_region 7 with fail
   go_loopg [35] ps.length (fun g v35 W => ∃ (j : Nat) (K2 : List Str) (pv2 : Value), j ≤ ps.length ∧ ps.length ≤ j + g ∧ v35 = .int .i64 j ∧ LrM w W rb km Rb Pb #[.pointer (some ⟨Bt, 0, none⟩), vc, .pointer (some ⟨va, 0, none⟩), .map (some km)] K2 pv2 K2 ∧ (∀ p ∈ K2, p ∈ basePs t) ∧ (∀ p ∈ K, p ∈ K2) ∧ (∀ p ∈ ps.take j, p ∈ K2) ∧ OwnS W w2.heap.size (.slice (some ⟨bq, off, none⟩) nm.length cn) nm ∧ ApS pv2 (.slice (some ⟨bq, off, none⟩) nm.length cn) ∧ OwnS W w4.heap.size (.slice aq ps.length cq) ps ∧ ApS pv2 (.slice aq ps.length cq))
   case atStart => exact ⟨0, K, pv, Nat.zero_le _, by omega, rfl, L5.out, HKB.out, fun p h => h, fun p hp => by simp at hp, ON5.out, HAP.out, OP5.out, HAP5.out⟩
   case round =>
    obtain ⟨j, K2, pv2, hj, hg2, rfl, hL2, hKb2, hKK, hKj, hon2, hap2, hop2, hap3⟩ := hrel
    rename World => w6
    have HG2 := hid hg2
    have L6 := hid hL2
    have HKB2 := hid hKb2
    have HKK := hid hKK
    have HKJ := hid hKj
    have ON6 := hid hon2
    have HAP2 := hid hap2
    have OP6 := hid hop2
    have HAP3 := hid hap3
    have hj0 : (0 : Int) ≤ (j : Int) := by omega
    clear hg2 hL2 hKb2 hKK hKj hon2 hap2 hop2 hap3 L5 ON5 OP5 HAP5
    by_cases hjl : j < ps.length
    ·have hji : (j : Int) < (ps.length : Int) := by omega
     have HPM := hid (List.getElem_mem hjl)
     have HPT := hid (List.take_succ_eq_append_getElem hjl)
     obtain ⟨ao, cp, e, ⟨hpz, _⟩, hcc⟩ := OwnS.rd OP6.out
     cases e
     obtain ⟨b2, off2, rfl, hb2, hcl⟩ := hcc (by intro e; rw [e] at hjl; simp at hjl)
     have n0 : w6.cell? ⟨b2, off2 + j, none⟩ = some (.string ⟨(ps[j]'hjl).toArray⟩) := hcl j _ (List.getElem?_eq_getElem hjl)
     clear hcc hcl
     generalize ps[j]'hjl = p at *
     have HKL := hid (HK16.out K2 L6.out.nd HKB2.out)
     have AD := hid (ladd_any L6.out p (PSZ.out p HPM.out) (by have := HKL.out; omega) (by have := HKL.out; omega))
     have hjb : (j : Int) ≤ 9223372036854775806 := by omega
     go_wp2_with fail
     refine AD.out.mono ?_
     rintro e w7 ⟨rfl, pv7, hL7, hk7⟩
     have L7 := hid hL7
     have X1 := hid (own_LrK ON6.out hk7 HAP2.out L6.out.mp L6.out.pb (by decide))
     have X2 := hid (own_LrK OP6.out hk7 HAP3.out L6.out.mp L6.out.pb (by decide))
     clear hL7 hk7 n0 hb2 AD
     go_wp2_with fail
     go_roundg (gk - 1)
     case measure => have := HG2.out; omega
     case rel =>
      refine ⟨j + 1, addK K2 p, pv7, by omega, by have := HG2.out; omega, by simp, L7.out, fun x hx => ?_, fun x hx => addK_mem.2 (Or.inl (HKK.out x hx)), fun x hx => ?_, X1.out.1, X1.out.2, X2.out.1, X2.out.2⟩
      ·rcases addK_mem.1 hx with hx | rfl
       ·exact HKB2.out x hx
       ·exact PB.out _ HPM.out
      ·rw [HPT.out] at hx
       rcases List.mem_append.1 hx with hx | hx
       ·exact addK_mem.2 (Or.inl (HKJ.out x hx))
       ·exact addK_mem.2 (Or.inr (List.mem_singleton.1 hx))
    ·have hji : ¬ (j : Int) < (ps.length : Int) := by omega
     obtain rfl : j = ps.length := by omega
     go_wp2_with fail
     go_roundg (go - 1)
     case measure => have := HG.out; have := HGO.out; omega
     case rel =>
      refine ⟨i + 1, K2, pv2, by omega, by have := HG.out; omega, by simp, L6.out, HKB2.out, fun x hx q hq => ?_, ON6.out, HAP2.out⟩
      rw [HLT.out] at hx
      rcases List.mem_append.1 hx with hx | hx
      ·exact HKK.out q (HKN.out x hx q hq)
      ·rw [List.mem_singleton.1 hx, ← HPS.out] at hq
       exact HKJ.out q (by rw [List.take_length]; exact hq)
  ·have hii : ¬ (i : Int) < (nm.length : Int) := by omega
   obtain rfl : i = nm.length := by omega
   have HI := hid (LrnI.start (D := A) HKB.out (fun p hp => by
    obtain ⟨l, hl, h⟩ := (HBASE.out p).1 hp
    exact HKN.out l (by rw [List.take_length]; exact hl) p h))
   have HK0 := hid (HK16.out K L4.out.nd HKB.out)
   obtain ⟨r0, rl, p0, pf, pl⟩ := RC.out _ _ _ _ L4.out
   obtain ⟨a0, a1, a2, a3, al⟩ := box4_cells L4.out.rs
   have AA := hid (aall_any w4 (.pointer (some ⟨va, 0, none⟩)) A (HA.out _ L4.out.on) HNA.out)
   clear HKB HKN ON4 HAP hi hi0 hii hlt HNSZ HNM2 HG HGO
   go_wp2_with fail
   refine AA.out.mono ?_
   rintro e w5 ⟨vv, rfl, ov5, hb5⟩
   obtain ⟨aq, cq, rfl⟩ := own_sliceP ov5
   have L5 := hid (L4.out.below hb5)
   have OV5 := hid ov5
   clear r0 rl p0 pf pl a0 a1 a2 a3 al ov5 hb5 AA L4
   go_upto_region 13 with fail
   go_loopg [] 60000 (fun g W => ∃ (K2 pile : List Str) (pv2 : Value), LrM w W rb km Rb Pb #[.pointer (some ⟨Bt, 0, none⟩), vc, .pointer (some ⟨va, 0, none⟩), .map (some km)] K2 pv2 pile ∧ LrnI A (basePs t) K2 pile none ∧ OwnP W w4.heap.size (.slice aq A.length cq) A ∧ K2.length ≤ 20000 ∧ 2 * (20000 - K2.length) + pile.length ≤ g ∧ 2 * (20000 - K2.length) + pile.length ≤ 60000)
   case atStart => exact ⟨K, K, pv, L5.out, HI.out, OV5.out, by have := HK0.out; omega, by have := HK0.out; omega, by have := HK0.out; omega⟩
   case round =>
    obtain ⟨K2, pile, pv2, hL, hI, hov, hk2, hg, hg6⟩ := hrel
    rename World => w6
    obtain ⟨go, hgo⟩ : ∃ go, go = gk := ⟨_, rfl⟩
    have HG := hid (show 2 * (20000 - K2.length) + pile.length ≤ go by rw [hgo]; exact hg)
    have HG6 := hid hg6
    have HGO := hid hgo
    have L6 := hid hL
    have HI6 := hid hI
    have OV6 := hid hov
    have HK2 := hid hk2
    clear hgo hg hg6 hL hI hov hk2 L5 OV5 HI HK0
    obtain ⟨av, cv, rfl⟩ := own_sliceS L6.out.ps
    obtain ⟨r0, rl, p0, pf, pl⟩ := RC.out _ _ _ _ L6.out
    obtain ⟨a0, a1, a2, a3, al⟩ := box4_cells L6.out.rs
    have HLEN := fun ty => L6.out.len ty
    by_cases hpl : pile = []
    ·subst hpl
     have HKI := hid (HI6.out.known L6.out.nd)
     by_cases h16 : K2.length ≤ 16384
     ·have h16i : (K2.length : Int) ≤ 16384 := by omega
      go_wp2_with fail
      exact bodyPost_ret (v := .bool true) (by simp [results, Tryz.results34, go_sem]) rfl ⟨true, K2, rfl, Or.inl ⟨rfl, HKI.out, h16⟩, L6.out.mp, L6.out.on⟩
     ·have h16i : ¬ (K2.length : Int) ≤ 16384 := by omega
      have h16j : (16384 : Int) < (K2.length : Int) := by omega
      go_wp2_with fail
      exact bodyPost_ret (v := .bool false) (by simp [results, Tryz.results34, go_sem]) rfl ⟨false, K2, rfl, Or.inr ⟨rfl, K2, L6.out.nd, HI6.out.gen, by omega⟩, L6.out.mp, L6.out.on⟩
    ·obtain ⟨m, hml⟩ : ∃ m, pile.length = m + 1 := ⟨pile.length - 1, by have := List.length_pos_iff.2 hpl; omega⟩
     have hmlt : m < pile.length := by omega
     have hmi0 : (0 : Int) < (m : Int) + 1 := by omega
     by_cases h16 : K2.length ≤ 16384
     ·have h16i : ¬ (16384 : Int) < (K2.length : Int) := by omega
      obtain ⟨ao, cp, e, _, hcc⟩ := OwnS.rd L6.out.ps
      cases e
      obtain ⟨bq, off, rfl, hbq, hcl⟩ := hcc hpl
      obtain ⟨c, hc⟩ : ∃ c, c = pile[m]'hmlt := ⟨_, rfl⟩
      have n0 : w6.cell? ⟨bq, off + m, none⟩ = some (.string ⟨c.toArray⟩) := by rw [hc]; exact hcl m _ (List.getElem?_eq_getElem hmlt)
      have hcap : pile.length ≤ cv := by
       rcases OwnS.shape L6.out.ps with ⟨e, _⟩ | ⟨g, cap, cur, e, _, _, hn, _⟩
       ·cases e
       ·cases e; exact hn
      have HPI := hid (HI6.out.pop hml (show pile[m]? = some c from by rw [hc]; exact List.getElem?_eq_getElem hmlt))
      have HPL := hid (L6.out.popS rfl m (by omega) (by omega))
      have HCM := hid (show c ∈ K2 from HI6.out.pk c (by rw [hc]; exact List.getElem_mem hmlt))
      have HCL := hid (gen_len HSP.out (HI6.out.gen c HCM.out))
      have hmm : ((m : Int) + 1) - 1 = (m : Int) := by omega
      have hm0 : (0 : Int) ≤ (m : Int) := by omega
      have hmb : (m : Int) ≤ 60000 := by have := HG6.out; omega
      have hmc : (m : Int) ≤ (cv : Int) := by omega
      have hm1 : (m : Int) < (m : Int) + 1 := by omega
      have HPZ := hid (show (pile.take m).length = m by rw [List.length_take]; omega)
      have HGM := hid (show 2 * (20000 - K2.length) + m + 1 ≤ go ∧ 2 * (20000 - K2.length) + m ≤ 60000 by have := HG.out; have := HG6.out; omega)
      have H16 := hid h16
      have OVS := hid (show OwnP (w6.setCell ⟨Pb, 0, none⟩ (.slice (some ⟨bq, off, none⟩) m cv)) w4.heap.size (.slice aq A.length cq) A from own_set OV6.out (own_type OV6.out L6.out.pb (by decide)) 0 _)
      rw [hml] at p0
      clear hcc hcl hc hpl hmlt hcap h16
      clear hml
      go_upto_region 19 with fail
      generalize w6.setCell ⟨Pb, 0, none⟩ (.slice (some ⟨bq, off, none⟩) m cv) = w7 at *
      clear r0 rl p0 pf pl a0 a1 a2 a3 al n0 hbq HLEN L6 OV6 HI6
      go_loopg [71] A.length (fun g v71 W => ∃ (u : Nat) (K3 pile3 : List Str) (pv3 : Value), u ≤ A.length ∧ A.length ≤ u + g ∧ v71 = .int .i64 u ∧ LrM w W rb km Rb Pb #[.pointer (some ⟨Bt, 0, none⟩), vc, .pointer (some ⟨va, 0, none⟩), .map (some km)] K3 pv3 pile3 ∧ LrnI A (basePs t) K3 pile3 (some (c, u)) ∧ OwnP W w4.heap.size (.slice aq A.length cq) A ∧ K3.length ≤ K2.length + u ∧ 2 * (20000 - K3.length) + pile3.length + 1 ≤ go ∧ 2 * (20000 - K3.length) + pile3.length ≤ 60000)
      case atStart => exact ⟨0, K2, _, _, Nat.zero_le _, by omega, rfl, HPL.out, HPI.out, OVS.out, Nat.le_refl _, by rw [HPZ.out]; exact HGM.out.1, by rw [HPZ.out]; exact HGM.out.2⟩
      case round =>
       obtain ⟨u, K3, pile3, pv3, hu, hg, rfl, hL, hI, hov, hk3, hg3, hg4⟩ := hrel
       rename World => w8
       have HGI := hid hg
       have L8 := hid hL
       have HI8 := hid hI
       have OV8 := hid hov
       have HK3 := hid hk3
       have HG3 := hid hg3
       have HG4 := hid hg4
       have hu0 : (0 : Int) ≤ (u : Int) := by omega
       have hub : (u : Int) ≤ 1000 := by have := HNA.out; omega
       clear hg hL hI hov hk3 hg3 hg4 HPL HPI OVS
       by_cases hul : u < A.length
       ·have hui : (u : Int) < (A.length : Int) := by omega
        obtain ⟨ao, cp, e, _, hcc⟩ := rdP_cells OV8.out.rd
        cases e
        obtain ⟨p2, o2, rfl, hp2, c0, c1⟩ := hcc u hul
        have HSX := hid (HSA.out _ (List.getElem_mem hul))
        have HNX := hid (fun hn => HI8.out.none_ hul hn)
        have HAD := hid (fun q (hq : movedF c A[u] = some q) => HI8.out.add hul hq)
        generalize A[u]'hul = x at *
        obtain ⟨xk, xv⟩ := x
        clear hcc
        simp only at c0 c1
        have HMV := hid (show movedF c (xk, xv) = (restF c xv).bind fun r => joinF xk r from rfl)
        have F9 := hid (heap_alloc_new w8 (.cells #[.string ⟨xk.toArray⟩, .string ⟨xv.toArray⟩] 76))
        have HA9 := hid (show Below w8.heap.size w8 (w8.alloc (.cells #[.string ⟨xk.toArray⟩, .string ⟨xv.toArray⟩] 76)) from (Below.refl _ _).alloc (Nat.le_refl _) _)
        have L9 := hid (L8.out.below HA9.out)
        have OV9 := hid (show OwnP (w8.alloc (.cells #[.string ⟨xk.toArray⟩, .string ⟨xv.toArray⟩] 76)) w4.heap.size _ A from own_below OV8.out HA9.out)
        have RS := hid (prest_any (w8.alloc (.cells #[.string ⟨xk.toArray⟩, .string ⟨xv.toArray⟩] 76)) c xv HCL.out HSX.out.2)
        go_upto_region 21 with fail
        generalize w8.alloc (.cells #[.string ⟨xk.toArray⟩, .string ⟨xv.toArray⟩] 76) = w9 at *
        generalize w8.heap.size = xb at *
        obtain ⟨x0, x1, _, _, xl⟩ := box2_cells F9.out
        clear c0 c1 hp2 L8 OV8 HA9
        go_wp2_with fail
        refine RS.out.mono ?_
        rintro e wa ⟨rfl, hba⟩
        have La := hid (L9.out.below hba)
        have OVa := hid (show OwnP wa w4.heap.size _ A from own_below OV9.out hba)
        have Fa := hid ((hba.block _ (lt_of_block F9.out)).trans F9.out)
        clear x0 x1 xl hba RS L9 OV9 F9
        obtain ⟨x0, x1, _, _, xl⟩ := box2_cells Fa.out
        cases hrf : restF c xv with
        | none =>
         have HN := hid (HNX.out (by rw [HMV.out, hrf]; rfl))
         clear hrf
         simp only [restV, Option.getD_none, Option.isSome_none]
         go_wp2_with fail
         go_roundg (gk - 1)
         case measure => have := HGI.out; omega
         case rel => exact ⟨u + 1, K3, pile3, pv3, by omega, by have := HGI.out; omega, by simp, La.out, HN.out, OVa.out, by have := HK3.out; omega, HG3.out, HG4.out⟩
        | some r =>
         have HRL := hid (show r.length ≤ maxLen from by
          obtain ⟨l', m', _, _, _, h4⟩ := rest_some hrf
          have h1 := path_all h4
          have h2 := h1.2.2.2.1
          rw [h1.2.2.2.2] at h2
          unfold maxLen
          omega)
         have HMV2 := hid (show movedF c (xk, xv) = joinF xk r by rw [HMV.out, hrf]; rfl)
         have JN := hid (pjoin_any wa xk r HSX.out.1 HRL.out)
         clear hrf HMV
         simp only [restV, Option.getD_some, Option.isSome_some]
         go_wp2_with fail
         refine JN.out.mono ?_
         rintro e wb ⟨⟨er, rfl, her⟩, hbb⟩
         have Lb := hid (La.out.below hbb)
         have OVb := hid (show OwnP wb w4.heap.size _ A from own_below OVa.out hbb)
         clear x0 x1 xl hbb JN La OVa Fa
         cases hjf : joinF xk r with
         | none =>
          have HN := hid (HNX.out (by rw [HMV2.out, hjf]))
          have hne : er ≠ 0 := fun e => by have := her.1 e; rw [hjf] at this; cases this
          have hei : ((er : Int) == 0) = false := beq_eq_false_iff_ne.2 (by omega)
          clear her hjf
          go_wp2_with fail
          go_roundg (gk - 1)
          case measure => have := HGI.out; omega
          case rel => exact ⟨u + 1, K3, pile3, pv3, by omega, by have := HGI.out; omega, by simp, Lb.out, HN.out, OVb.out, by have := HK3.out; omega, HG3.out, HG4.out⟩
         | some q =>
          have HQ := hid (HAD.out q (by rw [HMV2.out, hjf]))
          have hz : er = 0 := her.2 (by rw [hjf]; rfl)
          subst hz
          have HQL := hid (show q.length ≤ maxLen from by
           obtain ⟨l', m', _, _, h4, _⟩ := join_some hjf
           have h1 := path_all h4
           have h2 := h1.2.2.2.1
           rw [h1.2.2.2.2] at h2
           unfold maxLen
           omega)
          have AD := hid (ladd_any Lb.out q HQL.out (by have := HK3.out; have := H16.out; have := HNA.out; omega) (by have := HG4.out; omega))
          have HAL := hid (addK_len (pile := pile3) K3 q)
          clear her hjf
          simp only [Option.getD_some]
          go_wp2_with fail
          refine AD.out.mono ?_
          rintro e wc ⟨rfl, pvc, hLc, hkc⟩
          have Lc := hid hLc
          have X1 := hid (own_LrK OVb.out hkc (aps_kinds Lb.out.ps OVb.out (by decide)) Lb.out.mp Lb.out.pb (by decide))
          clear hLc hkc AD
          go_wp2_with fail
          go_roundg (gk - 1)
          case measure => have := HGI.out; omega
          case rel =>
           have hk3 := HK3.out
           have hg3 := HG3.out
           have hg4 := HG4.out
           have h16 := H16.out
           have hna := HNA.out
           refine ⟨u + 1, addK K3 q, addP K3 pile3 q, pvc, by omega, by have := HGI.out; omega, by simp, Lc.out, HQ.out, X1.out.1, ?_, ?_, ?_⟩
           ·rcases HAL.out with ⟨h1, _⟩ | ⟨h1, _⟩ <;> omega
           ·rcases HAL.out with ⟨h1, h2⟩ | ⟨h1, h2⟩
            ·rw [h1, h2]; exact hg3
            ·omega
           ·rcases HAL.out with ⟨h1, h2⟩ | ⟨h1, h2⟩
            ·rw [h1, h2]; exact hg4
            ·omega
       ·have hui : ¬ (u : Int) < (A.length : Int) := by omega
        have HFI := hid (HI8.out.fin (by omega))
        go_wp2_with fail
        go_roundg (go - 1)
        case measure => have := HG3.out; have := HGO.out; omega
        case rel => exact ⟨K3, pile3, pv3, L8.out, HFI.out, OV8.out, by have := HK3.out; have := H16.out; have := HNA.out; omega, by have := HG3.out; omega, HG4.out⟩
     ·have h16i : (16384 : Int) < (K2.length : Int) := by omega
      rw [hml] at p0
      go_wp2_with fail
      exact bodyPost_ret (v := .bool false) (by simp [results, Tryz.results34, go_sem]) rfl ⟨false, K2, rfl, Or.inr ⟨rfl, K2, L6.out.nd, HI6.out.gen, by omega⟩, L6.out.mp, L6.out.on⟩
end Go.Proofs.YtbbmdbolkicpcaaGreatDoor
namespace Go.Proofs.YtbbmdbolkicpcaaGreatDoor
open Go.RowKit Go.Lib Go.Sort Go.Maps Go.WideMaps Go.Shelf
set_option maxRecDepth 100000 in
set_option maxHeartbeats 8000000 in
theorem within1_gen (n : Nat) (hn : 1 ≤ n) (l b0 b1 b2 C pt : Nat) (t : Tb) (ok : TbOk t) (hs : SzT t) (loc grp : Str) (hl : loc.length ≤ maxLen) (hg : grp.length ≤ maxLen) (w : World)
  (Kp : World → World → Prop) (Fr : World → Value → Prop)
  (hBX : ∀ V, Kp w V → TbP C V pt t ∧ V.cell? ⟨b0, 0, none⟩ = some (.pointer (some ⟨pt, 0, none⟩)) ∧ V.cell? ⟨b1, 0, none⟩ = some (.string ⟨loc.toArray⟩) ∧ V.cell? ⟨b2, 0, none⟩ = some (.string ⟨grp.toArray⟩) ∧ b0 < V.heap.size ∧ b1 < V.heap.size ∧ b2 < V.heap.size)
  (hKB : ∀ A B, w.heap.size ≤ A.heap.size → Below A.heap.size A B → Kp A B) (hKT : ∀ A B C, Kp A B → Kp B C → Kp A C) (hKZ : ∀ A B, Kp A B → A.heap.size ≤ B.heap.size)
  (J Jx : List (Str × Str) → World → Prop) (W : World) (hW : Below w.heap.size w W) (hJ : AbidesFrom W.heap.size J)
  (hF0 : ∀ B v, OwnS B W.heap.size v (pathsF t loc) → Below W.heap.size W B → J [] W → Fr B v) (hF1 : ∀ A B v, Fr A v → Below A.heap.size A B → Fr B v) (hF2 : ∀ A B v, Fr A v → Kp A B → Fr B v) (hF3 : ∀ A v, Fr A v → OwnS A W.heap.size v (pathsF t loc))
  (hY : ∀ pre x W1, pre ++ [x] <+: inP t loc grp (pathsF t loc) → J pre W1 → YieldAt Fence.wide (n - 1) Tryz.prog l #[.string ⟨x.1.toArray⟩, .string ⟨x.2.toArray⟩] W1 fun e W' =>
   (e = .returned (.bool true) ∧ J (pre ++ [x]) W' ∧ Kp W1 W') ∨ (e = .returned (.bool false) ∧ Jx (pre ++ [x]) W')) (hJ0 : J [] W) :
  CallsIn Fence.wide n Tryz.prog 94 #[.func (.yield l) #[] #[], .pointer (some ⟨b0, 0, none⟩), .pointer (some ⟨b1, 0, none⟩), .pointer (some ⟨b2, 0, none⟩)] W fun e W' => (∃ v, e = .returned v) ∧
   ((∃ xs, xs = inP t loc grp (pathsF t loc) ∧ J xs W') ∨ (∃ pre, pre <+: inP t loc grp (pathsF t loc) ∧ Jx pre W')) := by
 have BX := hid hBX
 have KB := hid hKB
 have KT := hid hKT
 have KZ := hid hKZ
 have FR1 := hid hF1
 have FR2 := hid hF2
 have FR3 := hid hF3
 have HP := hid (fun p (h : p ∈ pathsF t loc) => paths_sz hs h)
 have KW := hid (hKB w W (Nat.le_refl _) hW)
 have FR0 := hid (fun B v h1 h2 => hF0 B v h1 h2 hJ0)
 have HZW := hid (show w.heap.size ≤ W.heap.size from hW.size)
 clear hBX hKB hKT hKZ hF0 hF1 hF2 hF3 hW hs
 have ABJ := hid hJ
 have HY := hid hY
 have HJ0 := hid hJ0
 clear hJ hY hJ0
 obtain ⟨T0, x0, x1, x2, l0, l1, l2⟩ := BX.out W KW.out
 refine callsIn_of_wp Tryz.func94 rfl trivial ?_ rfl
 simp only [Tryz.ntmps94, List.size_toArray, List.length_cons, List.length_nil, Nat.reduceAdd, Nat.reduceSub, Array.replicate_succ, Array.replicate_zero, List.push_toArray, List.append_toArray, List.nil_append, List.cons_append]
 have PA := hid (T0.paths ok loc hl)
 clear T0
 gi_wp2
 refine ⟨trivial, callsIn_wide.2 (PA.out.mono ?_)⟩
 rintro e w1 ⟨v1, rfl, o1, hb1⟩
 have O1 := hid (FR0.out w1 v1 o1 hb1)
 have J1 := hid (ABJ.out [] W w1 none HJ0.out (below_grown hb1) (fun r e => by cases e))
 have K1 := hid (KT.out _ _ _ KW.out (KB.out _ _ HZW.out hb1))
 have HZ1 := hid hb1.size
 clear o1 hb1 FR0 PA x0 x1 x2 l0 l1 l2 HJ0 KW
 generalize hps : pathsF t loc = ps at *
 obtain ⟨a1, c1, rfl⟩ := own_sliceS (FR3.out _ _ O1.out)
 gi_wp2
 gi_loopw [13] (fun i wr => ∃ k : Nat, k ≤ ps.length ∧ i = .int .i64 k ∧ J (inP t loc grp (ps.take k)) wr ∧ Kp w wr ∧ Fr wr (.slice a1 ps.length c1) ∧ W.heap.size ≤ wr.heap.size) (fun i _ => ps.length - (intOf i).toNat)
 case atStart => exact ⟨0, Nat.zero_le _, rfl, J1.out, K1.out, O1.out, HZ1.out⟩
 case round =>
  obtain ⟨k, hk, rfl, hJ2, hK2, ho, hz2⟩ := hrel
  rename World => w2
  have J2 := hid hJ2
  have K2 := hid hK2
  have O2 := hid ho
  have HZ2 := hid hz2
  obtain ⟨_, _, e, ⟨hpz, _⟩, hcc⟩ := OwnS.rd (FR3.out _ _ ho)
  cases e
  have HPZ := hid hpz
  have HCC := hid hcc
  clear hJ2 hK2 ho hz2 J1 K1 O1 HZ1 hpz hcc
  by_cases hlt : k < ps.length
  ·have hni : (k : Int) < (ps.length : Int) := by omega
   have hn0 : (0 : Int) ≤ (k : Int) := by omega
   have hpz : (ps.length : Int) ≤ 9223372036854775807 := by have := HPZ.out; omega
   obtain ⟨bq, off, rfl, hbq, hcl⟩ := HCC.out (by intro e; rw [e] at hlt; simp at hlt)
   have r0 : w2.cell? ⟨bq, off + k, none⟩ = some (.string ⟨(ps[k]'hlt).toArray⟩) := hcl k _ (List.getElem?_eq_getElem hlt)
   have HMP := hid (HP.out _ (List.getElem_mem hlt))
   have HIT := hid (inP_take (t := t) (loc := loc) (grp := grp) hlt)
   have HLE := hid (inP_pre (t := t) (loc := loc) (grp := grp) ps (k + 1)).length_le
   have IN := hid (pin_any w2 (ps[k]'hlt) grp HMP.out hg)
   obtain ⟨T2, x0, x1, x2, l0, l1, l2⟩ := BX.out w2 K2.out
   clear T2 hcl HCC
   generalize ps[k]'hlt = p at *
   cases hin : inB p grp with
   | false =>
    rw [hin] at IN HIT
    have HI2 := hid (show inP t loc grp (ps.take (k + 1)) = inP t loc grp (ps.take k) by rw [HIT.out]; simp)
    clear hin HIT
    gi_wp2
    refine ⟨trivial, callsIn_wide.2 (IN.out.mono ?_)⟩
    rintro e w3 ⟨rfl, hb3⟩
    have J3 := hid (ABJ.out _ w2 w3 none J2.out (below_grown hb3) (fun r e => by cases e))
    have K3 := hid (KT.out _ _ _ K2.out (KB.out _ _ (Nat.le_trans HZW.out HZ2.out) hb3))
    have O3 := hid (FR1.out _ w3 _ O2.out hb3)
    have HZ3 := hid (Nat.le_trans HZ2.out hb3.size)
    clear hb3 x0 x1 x2 l0 l1 l2 r0 hbq
    gi_wp2
    go_roundw
    case rel => exact ⟨k + 1, by omega, by simp, by rw [HI2.out]; exact J3.out, K3.out, O3.out, HZ3.out⟩
    case measure => simp [intOf]; omega
   | true =>
    rw [hin] at IN HIT
    have HI2 := hid (show inP t loc grp (ps.take (k + 1)) = inP t loc grp (ps.take k) ++ [(p, rText (findR t.rows loc p))] by rw [HIT.out]; simp)
    clear hin HIT
    gi_wp2
    refine ⟨trivial, callsIn_wide.2 (IN.out.mono ?_)⟩
    rintro e w3 ⟨rfl, hb3⟩
    have J3 := hid (ABJ.out _ w2 w3 none J2.out (below_grown hb3) (fun r e => by cases e))
    have K3 := hid (KT.out _ _ _ K2.out (KB.out _ _ (Nat.le_trans HZW.out HZ2.out) hb3))
    have O3 := hid (FR1.out _ w3 _ O2.out hb3)
    have HZ3 := hid (Nat.le_trans HZ2.out hb3.size)
    clear hb3 x0 x1 x2 l0 l1 l2 r0 hbq IN
    obtain ⟨T3, x0, x1, x2, l0, l1, l2⟩ := BX.out w3 K3.out
    have GT := hid (T3.get loc p hl HMP.out)
    clear T3
    gi_wp2
    refine ⟨trivial, callsIn_wide.2 (GT.out.mono ?_)⟩
    rintro e w4 ⟨rfl, hb4⟩
    have J4 := hid (ABJ.out _ w3 w4 none J3.out (below_grown hb4) (fun r e => by cases e))
    have K4 := hid (KT.out _ _ _ K3.out (KB.out _ _ (Nat.le_trans HZW.out HZ3.out) hb4))
    have O4 := hid (FR1.out _ w4 _ O3.out hb4)
    have HZ4 := hid (Nat.le_trans HZ3.out hb4.size)
    clear hb4 x0 x1 x2 l0 l1 l2 GT
    obtain ⟨fn, tmps, assign, body, hy, hR⟩ := HY.out _ (p, rText (findR t.rows loc p)) w4 (by
     rw [← HI2.out]; exact inP_pre ps (k + 1)) J4.out
    dsimp only at hy
    gi_wp2
    refine hR.mono ?_
    rintro e w5 (⟨rfl, hJ5, hk5⟩ | ⟨rfl, hJx5⟩)
    ·have O5 := hid (FR2.out _ w5 _ O4.out hk5)
     have K5 := hid (KT.out _ _ _ K4.out hk5)
     have HZ5 := hid (Nat.le_trans HZ4.out (KZ.out _ _ hk5))
     gi_wp2
     go_roundw
     case rel => exact ⟨k + 1, by omega, by simp, by rw [HI2.out]; exact hJ5, K5.out, O5.out, HZ5.out⟩
     case measure => simp [intOf]; omega
    ·gi_wp2
     refine bodyPost_ret (results_none rfl _ _ _) rfl ?_
     exact ⟨⟨_, rfl⟩, .inr ⟨inP t loc grp (ps.take (k + 1)), by first | exact inP_pre ps (k + 1) | (rw [hps]; exact inP_pre ps (k + 1)), by rw [HI2.out]; exact hJx5⟩⟩
  ·have hni : ¬ (k : Int) < (ps.length : Int) := by omega
   have hkn : k = ps.length := by omega
   have HJ3 := hid (show J (inP t loc grp ps) w2 from by have := J2.out; rw [hkn, List.take_length] at this; exact this)
   gi_wp2
   go_end0
   first | exact ⟨⟨_, rfl⟩, .inl ⟨_, rfl, HJ3.out⟩⟩ | exact ⟨⟨_, rfl⟩, .inl HJ3.out⟩
end Go.Proofs.YtbbmdbolkicpcaaGreatDoor
namespace Go.Proofs.YtbbmdbolkicpcaaGreatDoor
open Go.RowKit Go.Lib
end Go.Proofs.YtbbmdbolkicpcaaGreatDoor
