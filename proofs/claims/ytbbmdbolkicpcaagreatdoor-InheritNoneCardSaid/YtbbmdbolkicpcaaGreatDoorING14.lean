/- PtFind, PtWithout0, AlFind, ChMem, ChainW, ChainQ, ChPar, ChUp, AlWay -/
import Derived.Test.YtbbmdbolkicpcaaGreatDoorING13
import Derived.RangeFuncCalls
import Derived.RangeFuncNested
import Derived.RegionIn
import Derived.BigRegionIn
import Derived.Test.YtbbmdbolkicpcaaGreatDoorING03
import Derived.Test.YtbbmdbolkicpcaaGreatDoorING05
import Derived.Maps.OwnSet
import Derived.Maps.OwnOps
import Derived.Maps.StringElems
import Derived.Test.YtbbmdbolkicpcaaGreatDoorING10
import Derived.Deep.Cut
set_option linter.unusedVariables false
set_option linter.unusedSimpArgs false
namespace Go.Proofs.YtbbmdbolkicpcaaGreatDoor
open Go.RowKit Go.Lib Go.Sort
set_option maxHeartbeats 1000000 in
theorem key_closurePF (bk : Nat) (key : Str) (x : Str × Str) (W : World) (hk : W.cell? ⟨bk, 0, none⟩ = some (S key)) (hb : bk < W.heap.size) :
  Calls Tryz.prog 112 #[.agg #[S x.1, S x.2], .pointer (some ⟨bk, 0, none⟩)] W fun e w' => e = .returned (.bool (x.1 == key)) ∧ Below W.heap.size W w' := by
 unfold S at hk ⊢
 go_enter Tryz.func112, Tryz.ntmps112
 go_wp2
 all_goals go_ret
 all_goals refine ⟨ret_bool ?_, ?_⟩
 all_goals first | exact (Below.refl _ _).alloc (Nat.le_refl _) _ | simp [Lib.toList_data]
theorem key_predPF (w : World) (bk : Nat) (key : Str) (hk : w.heap[bk]? = some (.cells #[S key] 9 (0, 0))) :
  PredBelow Tryz.prog 112 #[.pointer (some ⟨bk, 0, none⟩)] (fun x => .agg (enc2 x).toArray) (fun x => x.1 == key) w := by
 intro W x hb
 have hlt := lt_of_block hk
 have h := key_closurePF bk key x W ((hb.cell (p := ⟨bk, 0, none⟩) hlt).trans (cell_of_one hk)) (Nat.lt_of_lt_of_le hlt hb.size)
 exact h.mono fun e w' hh => ⟨hh.1, hb.then hh.2⟩
set_option maxHeartbeats 1000000 in
theorem indexFunc_nilPF (lb : Array Value) (w : World) :
  Calls Tryz.prog 102 #[.slice none 0 0, .func (.func 112) #[] lb] w fun e w' => e = .returned (.int .i64 (-1)) ∧ w' = w := by
 go_enter Tryz.func102, Tryz.ntmps102
 go_wp2
 refine wp_loop_rounds 1 ?_
 rw [rounds_succ]
 go_wp2
 go_ret
 exact ⟨rfl, rfl⟩
def idxK (l : List (Str × Str)) (key : Str) : Int := Lib.idxBy (fun _ (y : Str × Str) => y.1 == key) l default
theorem idxK_cases (l : List (Str × Str)) (key : Str) : (idxK l key = -1 ∧ ∀ k ∈ l, k.1 ≠ key) ∨ ∃ n, ∃ hn : n < l.length, idxK l key = (n : Int) ∧ (l[n]'hn).1 = key ∧ ∀ j (hj : j < n), (l[j]'(by omega)).1 ≠ key := by
 by_cases hk : l.findIdx (fun y => y.1 == key) < l.length
 ·have h1 : (l[l.findIdx (fun y => y.1 == key)]'hk).1 == key := List.findIdx_getElem (w := hk)
  have h2 : ∀ j (hj : j < l.findIdx (fun y => y.1 == key)), ((l[j]'(by omega)).1 == key) = false := fun j hj => by
   have := List.not_of_lt_findIdx hj
   simpa using this
  refine Or.inr ⟨_, hk, ?_, by simpa using h1, fun j hj e => by have := h2 j hj; rw [e] at this; simp at this⟩
  have := Lib.idxBy_hit (fun _ (y : Str × Str) => y.1 == key) l l.length _ default hk (Nat.le_refl _) (by rw [getElem!_pos l _ hk]; exact h1) (fun j hj => by rw [getElem!_pos l j (by omega)]; exact h2 j hj)
  rwa [List.take_length] at this
 ·have h2 : ∀ k ∈ l, k.1 ≠ key := fun x hx e => by
   have : l.findIdx (fun y => y.1 == key) < l.length := List.findIdx_lt_length.2 ⟨x, hx, by simp [e]⟩
   exact hk this
  refine Or.inl ⟨?_, h2⟩
  have := Lib.idxBy_miss (fun _ (y : Str × Str) => y.1 == key) l l.length default (fun j hj => by rw [getElem!_pos l j hj]; exact beq_eq_false_iff_ne.2 (h2 _ (List.getElem_mem hj)))
  rwa [List.take_length] at this
theorem idxKeys (w : World) (v : Value) (l : List (Str × Str)) (bk : Nat) (key : Str) (h : RdP w v l) (hl : l.length ≤ 1000) (hp : ∀ a n c, v = .slice (some a) n c → ∃ p o, a = ⟨p, o, none⟩ ∧ p < w.heap.size) (hk : w.heap[bk]? = some (.cells #[S key] 9 (0, 0))) :
  Calls Tryz.prog 102 #[v, .func (.func 112) #[] #[.pointer (some ⟨bk, 0, none⟩)]] w fun e w' => e = .returned (.int .i64 (idxK l key)) ∧ Below w.heap.size w w' := by
 have eg : ∀ args w, (callFunc 112 args).run Tryz.prog w = .ok (.enter 112 args) w := enters_of Tryz.func112 (by kernel_rfl) rfl
 obtain ⟨ao, cp, rfl, hl1, _⟩ := id h
 cases ao with
 | none =>
  obtain ⟨hn, rfl⟩ := hl1.2 rfl
  subst hn
  exact (indexFunc_nilPF _ w).mono fun e w' hh => ⟨hh.1, hh.2 ▸ Below.refl _ _⟩
 | some a =>
  obtain ⟨p, o, rfl, hlt⟩ := hp a _ _ rfl
  have hc := AnyQ.slices_IndexFunc (ρ := Tryz.cfPair_ren) { Tryz.cfPair with } 2 Tryz.isAgg76 Tryz.sizeOf76 enc2 (fun _ => rfl) (fun x => x.1 == key) 112 #[.pointer (some ⟨bk, 0, none⟩)] eg p o l.length cp l w (key_predPF w bk key hk) (Nat.le_refl _) (by omega) hlt (rd_cells2 h rfl)
  change Calls Tryz.prog 102 _ _ _ at hc
  rw [List.take_length] at hc
  exact hc
set_option maxRecDepth 100000 in
theorem pprint_gen (w : World) (u : Value) (zs : List (Stp × (Option Addr × Nat))) (hu : RdL encSt w u zs) (hk : ∀ z ∈ zs, RdP w (keysV z) z.1.2) (hm : ∀ z ∈ zs, mayB z.1 = true ∧ (textP z.1).length ≤ 1073741824) (hz : zs.length ≤ 1000000000) :
  Calls Tryz.prog 49 #[u] w fun e w' => e = .returned (.tuple #[.string ⟨(putT (zs.map (·.1))).toArray⟩, .int .i64 (putE (zs.map (·.1)))]) ∧ Below w.heap.size w w' := by
 have PT := hid (put_gen1 w u zs hu hk hm hz)
 obtain ⟨au, cu, rfl, _⟩ := hu.slice
 clear hu hk hm hz
 go_enter Tryz.func49, Tryz.ntmps49
 go_wp2_with (go_at_call 89; refine PT.out.mono ?_; rintro e w6 ⟨rfl, hb6⟩)
 exact bodyPost_ret (v := .tuple #[.string ⟨(putT (zs.map (·.1))).toArray⟩, .int .i64 (putE (zs.map (·.1)))]) (by simp [results, Tryz.results49, go_sem]) rfl ⟨rfl, hb6⟩
set_option maxRecDepth 100000 in
theorem pfind_any (w : World) (n : Str) (ks : List (Str × Str)) (a : Option Addr) (c : Nat) (key : Str) (h : RdP w (.slice a ks.length c) ks) (hl : ks.length ≤ 1000) (hp : ∀ x, a = some x → ∃ p o, x = ⟨p, o, none⟩ ∧ p < w.heap.size) :
  Calls Tryz.prog 87 #[.agg #[.string ⟨n.toArray⟩, .slice a ks.length c], .string ⟨key.toArray⟩] w fun e w' => e = .returned (.int .i64 (idxK ks key)) ∧ Below w.heap.size w w' := by
 have B0 := hid (below2 w (.cells #[.string ⟨n.toArray⟩, .slice a ks.length c] 106) (.cells #[.string ⟨key.toArray⟩] 9))
 have G0 := hid (show ((w.alloc (.cells #[.string ⟨n.toArray⟩, .slice a ks.length c] 106)).alloc (.cells #[.string ⟨key.toArray⟩] 9)).heap[w.heap.size]? = some (.cells #[.string ⟨n.toArray⟩, .slice a ks.length c] 106 (0, 0)) from (Below.heap_alloc _ _ _ (lt_of_block (heap_alloc_new w _))).trans (heap_alloc_new w _))
 have H0 := hid (show ((w.alloc (.cells #[.string ⟨n.toArray⟩, .slice a ks.length c] 106)).alloc (.cells #[.string ⟨key.toArray⟩] 9)).heap[w.heap.size + 1]? = some (.cells #[.string ⟨key.toArray⟩] 9 (0, 0)) from by
  have := heap_alloc_new (w.alloc (.cells #[.string ⟨n.toArray⟩, .slice a ks.length c] 106)) (.cells #[.string ⟨key.toArray⟩] 9)
  rw [show (w.alloc (.cells #[.string ⟨n.toArray⟩, .slice a ks.length c] 106)).heap.size = w.heap.size + 1 by simp] at this
  exact this)
 have IX := hid (idxKeys _ (.slice a ks.length c) ks (w.heap.size + 1) key (h.below B0.out) hl (fun x m c' e => by
  cases e
  obtain ⟨p, o, e2, hlt⟩ := hp x rfl
  exact ⟨p, o, e2, Nat.lt_of_lt_of_le hlt B0.out.size⟩) H0.out)
 clear h hp
 go_enter Tryz.func87, Tryz.ntmps87
 go_upto_region 1 with fail
 generalize (w.alloc (.cells #[.string ⟨n.toArray⟩, .slice a ks.length c] 106)).alloc (.cells #[.string ⟨key.toArray⟩] 9) = w1 at *
 obtain ⟨a0, a1, _, _, al⟩ := box2_cells G0.out
 go_wp2_with (go_at_call 102; refine IX.out.mono ?_; rintro e w2 ⟨rfl, hb⟩; have B2 := hid (B0.out.then hb); clear hb)
 exact bodyPost_ret (v := .int .i64 (idxK ks key)) (by simp [results, Tryz.results87, go_sem]) rfl ⟨rfl, B2.out⟩
end Go.Proofs.YtbbmdbolkicpcaaGreatDoor
namespace Go.Proofs.YtbbmdbolkicpcaaGreatDoor
open Go.RowKit Go.Lib Go.Sort Go.Maps Go.WideMaps Go.Shelf
attribute [local go_sem] Oper.semAt_some
theorem keys_le (x : Stp) : x.2.length ≤ (textP x).length := by
 have : ∀ l : List (Str × Str), l.length ≤ (keysT l).length := fun l => by
  unfold keysT
  induction l with
  | nil => simp
  | cons k r ih =>
   rw [List.flatMap_cons, List.length_append, List.length_cons]
   have : 1 ≤ (keyT k).length := by unfold keyT; simp
   omega
 unfold textP
 rw [List.length_append]
 have := this x.2
 omega
theorem idx_no {l : List (Str × Str)} {key : Str} (h : ∀ k ∈ l, k.1 ≠ key) : idxK l key = -1 := by
 rcases idxK_cases l key with ⟨h1, _⟩ | ⟨n, hn, _, h2, _⟩
 ·exact h1
 ·exact absurd h2 (h _ (List.getElem_mem hn))
theorem stD_rd (W : World) (zs : List Zst) (h : ∀ z ∈ zs, RdP W (keysV z) z.1.2) (x : Nat) : RdP W (keysV (zs.getD x stD)) (zs.getD x stD).1.2 := by
 rw [List.getD_eq_getElem?_getD]
 cases e : zs[x]? with
 | none => exact ⟨none, 0, rfl, ⟨by decide, fun _ => ⟨rfl, rfl⟩⟩, fun h => absurd rfl h⟩
 | some z => exact h z (List.mem_of_getElem? e)
set_option maxRecDepth 100000 in
set_option maxHeartbeats 8000000 in
theorem without_none (w : World) (p key : Str) (hp : p.length ≤ maxLen) (l : List Stp) (hl : pathP p = some l) (hno : ∀ x ∈ l, ∀ k ∈ x.2, k.1 ≠ key) :
  Calls Tryz.prog 47 #[.string ⟨p.toArray⟩, .string ⟨key.toArray⟩] w fun e w' => e = .returned (.tuple #[.string ⟨p.toArray⟩, .bool false]) ∧ Below w.heap.size w w' := by
 refine (callsIn_wide (n := 6)).1 ?_
 refine callsIn_of_wp_marks Tryz.func47 rfl trivial ?_ rfl
 simp only [Tryz.ntmps47, List.size_toArray, List.length_cons, List.length_nil, Nat.reduceAdd, Nat.reduceSub, Array.replicate_succ, Array.replicate_zero, List.push_toArray, List.append_toArray, List.nil_append, List.cons_append]
 have HL := hid hl
 have HNO := hid hno
 have F1 := hid (heap_alloc_new w (.cells #[.string ⟨key.toArray⟩] 9))
 have A1 := hid (show Below w.heap.size w (w.alloc (.cells #[.string ⟨key.toArray⟩] 9)) from (Below.refl _ _).alloc (Nat.le_refl _) _)
 have F2 := hid (show ((w.alloc (.cells #[.string ⟨key.toArray⟩] 9)).alloc (.cells #[.string ⟨#[]⟩] 9)).heap[w.heap.size + 1]? = some (.cells #[.string ⟨#[]⟩] 9 (0, 0)) from by
  have e := heap_alloc_new (w.alloc (.cells #[.string ⟨key.toArray⟩] 9)) (.cells #[.string ⟨#[]⟩] 9)
  rw [show (w.alloc (.cells #[.string ⟨key.toArray⟩] 9)).heap.size = w.heap.size + 1 by simp] at e
  exact e)
 have A2 := hid (show Below (w.alloc (.cells #[.string ⟨key.toArray⟩] 9)).heap.size (w.alloc (.cells #[.string ⟨key.toArray⟩] 9)) ((w.alloc (.cells #[.string ⟨key.toArray⟩] 9)).alloc (.cells #[.string ⟨#[]⟩] 9)) from (Below.refl _ _).alloc (Nat.le_refl _) _)
 have Z2 := hid (show ((w.alloc (.cells #[.string ⟨key.toArray⟩] 9)).alloc (.cells #[.string ⟨#[]⟩] 9)).heap.size = w.heap.size + 1 + 1 by simp)
 have A3 := hid (show Below ((w.alloc (.cells #[.string ⟨key.toArray⟩] 9)).alloc (.cells #[.string ⟨#[]⟩] 9)).heap.size ((w.alloc (.cells #[.string ⟨key.toArray⟩] 9)).alloc (.cells #[.string ⟨#[]⟩] 9)) (((w.alloc (.cells #[.string ⟨key.toArray⟩] 9)).alloc (.cells #[.string ⟨#[]⟩] 9)).alloc (.cells #[.bool false] 4)) from (Below.refl _ _).alloc (Nat.le_refl _) _)
 have F3 := hid (show (((w.alloc (.cells #[.string ⟨key.toArray⟩] 9)).alloc (.cells #[.string ⟨#[]⟩] 9)).alloc (.cells #[.bool false] 4)).heap[w.heap.size + 1 + 1]? = some (.cells #[.bool false] 4 (0, 0)) from by
  have e := heap_alloc_new ((w.alloc (.cells #[.string ⟨key.toArray⟩] 9)).alloc (.cells #[.string ⟨#[]⟩] 9)) (.cells #[.bool false] 4)
  rw [Z2.out] at e
  exact e)
 have G1 := hid ((A3.out.block _ (lt_of_block ((A2.out.block _ (lt_of_block F1.out)).trans F1.out))).trans ((A2.out.block _ (lt_of_block F1.out)).trans F1.out))
 have G2 := hid ((A3.out.block _ (lt_of_block F2.out)).trans F2.out)
 have B3 := hid ((A1.out.then A2.out).then A3.out)
 gi_wp2
 generalize ((w.alloc (.cells #[.string ⟨key.toArray⟩] 9)).alloc (.cells #[.string ⟨#[]⟩] 9)).alloc (.cells #[.bool false] 4) = w3 at *
 clear F1 A1 F2 A2 A3 Z2
 refine ⟨trivial, callsIn_wide.2 ((pparse_any p w3 hp).mono ?_)⟩
 rintro e w4 h4
 obtain ⟨v, er, ea, rfl, hb4, l', hl', hc4, ao, cp, rfl, hcap, hs4⟩ := h4.own'
 obtain ⟨rfl, hll⟩ : er = 0 ∧ l' = l := by
  rcases hc4 with ⟨h1, h2⟩ | ⟨_, h2, _⟩
  ·rw [HL.out] at h2; exact ⟨h1, (Option.some.inj h2).symm⟩
  ·rw [HL.out] at h2; cases h2
 subst hll
 have L4 := hid hl'
 have K4 := hid ((hb4.block _ (lt_of_block G1.out)).trans G1.out)
 have O4 := hid ((hb4.block _ (lt_of_block G2.out)).trans G2.out)
 have Q4 := hid ((hb4.block _ (lt_of_block F3.out)).trans F3.out)
 have B4 := hid (B3.out.then hb4)
 clear h4 hl' hc4 hb4 hs4 G1 G2 F3 B3
 have Y6 := hid (show ((w4.alloc (.cells #[.slice ao l'.length cp] 99)).alloc (.cells #[.int .i64 0, .int .i64 ea] 77)).heap[w4.heap.size]? = some (.cells #[.slice ao l'.length cp] 99 (0, 0)) from (Below.heap_alloc _ _ _ (by simp)).trans (heap_alloc_new w4 _))
 have Y7 := hid (show ((w4.alloc (.cells #[.slice ao l'.length cp] 99)).alloc (.cells #[.int .i64 0, .int .i64 ea] 77)).heap[w4.heap.size + 1]? = some (.cells #[.int .i64 0, .int .i64 ea] 77 (0, 0)) from by
  have e := heap_alloc_new (w4.alloc (.cells #[.slice ao l'.length cp] 99)) (.cells #[.int .i64 0, .int .i64 ea] 77)
  rw [show (w4.alloc (.cells #[.slice ao l'.length cp] 99)).heap.size = w4.heap.size + 1 by simp] at e
  exact e)
 have A6 := hid (show Below w4.heap.size w4 ((w4.alloc (.cells #[.slice ao l'.length cp] 99)).alloc (.cells #[.int .i64 0, .int .i64 ea] 77)) from ((Below.refl _ _).alloc (Nat.le_refl _) _).alloc (by simp) _)
 have c0 : ((w4.alloc (.cells #[.slice ao l'.length cp] 99)).alloc (.cells #[.int .i64 0, .int .i64 ea] 77)).cell? ⟨w4.heap.size, 0, none⟩ = some (.slice ao l'.length cp) := by rw [cell_of_row _ _ _ _ _ _ Y6.out]; rfl
 have c1 : ((w4.alloc (.cells #[.slice ao l'.length cp] 99)).alloc (.cells #[.int .i64 0, .int .i64 ea] 77)).cell? ⟨w4.heap.size + 1, 0, none⟩ = some (.int .i64 0) := by rw [cell_of_row _ _ _ _ _ _ Y7.out]; rfl
 have l0 := lt_of_block Y6.out
 have l1 := lt_of_block Y7.out
 gi_wp2
 generalize (w4.alloc (.cells #[.slice ao l'.length cp] 99)).alloc (.cells #[.int .i64 0, .int .i64 ea] 77) = w6 at *
 clear c0 c1 l0 l1
 have B6 := hid (B4.out.then A6.out)
 have K6 := hid ((A6.out.block _ (lt_of_block K4.out)).trans K4.out)
 have O6 := hid ((A6.out.block _ (lt_of_block O4.out)).trans O4.out)
 have Q6 := hid ((A6.out.block _ (lt_of_block Q4.out)).trans Q4.out)
 have L6 := hid (L4.out.below A6.out)
 clear A6 B4 K4 O4 Q4 L4 Y6 Y7
 refine ⟨trivial, callsIn_wide.2 ((back_any _ w6 ⟨_, _, _, rfl⟩).mono ?_)⟩
 rintro e w7 ⟨rfl, hw7⟩
 have A7 := hid (show Below w6.heap.size w6 w7 from by rw [hw7]; exact (Below.refl _ _).alloc (Nat.le_refl _) _)
 have F7 := hid (show w7.heap[w6.heap.size]? = some (.cells #[.slice ao l'.length cp] 99 (0, 0)) from by rw [hw7]; exact heap_alloc_new w6 _)
 have B7 := hid (B6.out.then A7.out)
 have K7 := hid ((A7.out.block _ (lt_of_block K6.out)).trans K6.out)
 have O7 := hid ((A7.out.block _ (lt_of_block O6.out)).trans O6.out)
 have Q7 := hid ((A7.out.block _ (lt_of_block Q6.out)).trans Q6.out)
 have L7 := hid (L6.out.below A7.out)
 clear hw7 A7 B6 K6 O6 Q6 L6
 obtain ⟨zs, hz, hown, heach, _⟩ := L7.out
 have hln : l'.length = zs.length := by rw [← hz, List.length_map]
 rw [hln] at F7
 have HZ := hid (show zs.length ≤ 64 by rw [← hln]; exact (path_all HL.out).2.2.1)
 have EACH := hid heach
 have HZM := hid hz
 have SQ := hid (back1_goes 5 (by decide) w6.heap.size cp ao zs w7 F7.out (by rw [← hln]; exact hown.rd) (by have := HZ.out; omega))
 gi_wp2
 clear hl hno hcap
 have EACH7 := hid (fun W (hk : Below w7.heap.size w7 W) (x : Nat) => stD_rd W zs (fun z hz => (EACH.out z hz).rd.below hk) x)
 have EOWN := hid (fun (x : Nat) => (show ∀ a, (zs.getD x stD).2.1 = some a → ∃ g, a = ⟨g, 0, none⟩ ∧ g < w7.heap.size from fun a ha => by
  rw [List.getD_eq_getElem?_getD] at ha
  cases e : zs[x]? with
  | none => rw [e] at ha; cases ha
  | some z =>
   rw [e] at ha
   have ha' : z.2.1 = some a := ha
   rcases OwnP.shape (EACH.out z (List.mem_of_getElem? e)) with ⟨h, _⟩ | ⟨g, cap, cur, h, _, hg, _⟩
   ·unfold keysV at h
    rw [ha'] at h; cases h
   ·unfold keysV at h
    rw [ha'] at h
    cases h
    exact ⟨g, rfl, lt_of_block hg⟩))
 have HXN := hid (fun (x : Nat) => (show ∀ k ∈ (zs.getD x stD).1.2, k.1 ≠ key from fun k hk => by
  rw [List.getD_eq_getElem?_getD] at hk
  cases e : zs[x]? with
  | none => rw [e] at hk; cases hk
  | some z =>
   rw [e] at hk
   exact HNO.out z.1 (by rw [← HZM.out]; exact List.mem_map_of_mem (List.mem_of_getElem? e)) k hk))
 have HXL := hid (fun (x : Nat) => (show (zs.getD x stD).1.2.length ≤ 1000 from by
  rw [List.getD_eq_getElem?_getD]
  cases e : zs[x]? with
  | none => exact Nat.zero_le _
  | some z =>
   have hm : z.1 ∈ l' := by rw [← HZM.out]; exact List.mem_map_of_mem (List.mem_of_getElem? e)
   have h1 := text_len HL.out hm
   have h2 := keys_le z.1
   show z.1.2.length ≤ 1000
   omega))
 refine wpIn_rangeFunc_ownH rfl (by omega) (gf := 90) rfl trivial (enters_of Tryz.func90 (by kernel_rfl) rfl)
  SQ.out (fun h g => h.trans g) (fun W l o o' hl ho hc _ => KpB.put hl ho hc) (Below.refl _ _) (fun _ => rfl)
  (fun _ W => Below w7.heap.size w7 W) (fun _ _ _ => False) (ownFrom_below (Nat.le_refl _) (Nat.le_refl _)) (fun _ _ _ _ _ h _ _ => h) (Below.refl _ _)
  (fun x a' W => ∃ Bx, w7.heap.size ≤ Bx ∧ W.heap[Bx]? = some (.cells #[.string ⟨(zs.getD x stD).1.1.toArray⟩, keysV (zs.getD x stD)] 106 (0, 0)) ∧ a' = { tmps := [.string ⟨p.toArray⟩, .string ⟨key.toArray⟩, undef, .pointer (some ⟨w.heap.size, 0, none⟩), .pointer (some ⟨w.heap.size + 1, 0, none⟩), .pointer (some ⟨w.heap.size + 1 + 1, 0, none⟩), .pointer (some ⟨w4.heap.size, 0, none⟩), .pointer (some ⟨w4.heap.size + 1, 0, none⟩), .int .i64 (x : Nat), .pointer (some ⟨Bx, 0, none⟩), undef, undef, undef, .tuple #[.slice ao zs.length cp, .agg #[.int .i64 0, .int .i64 ea]], .string ⟨p.toArray⟩, .tuple #[.slice ao zs.length cp, .agg #[.int .i64 0, .int .i64 ea]], .slice ao zs.length cp, .agg #[.int .i64 0, .int .i64 ea], .pointer (some ⟨w4.heap.size + 1, 0, none⟩), .int .i64 0, .bool false, .slice ao zs.length cp, .func (.func 90) #[] #[.pointer (some ⟨w6.heap.size, 0, none⟩)], .int .i64 (x : Nat), stV (zs.getD x stD), undef, undef, undef, undef, undef, undef, undef, undef, undef, undef, undef, undef, undef, undef, undef, undef, undef, undef, undef, undef, undef, undef, undef].toArray, defers := [] }) ?_ ?assign ?body ?done (fun D c pre W _ _ h => h.elim)
 ·rintro x a' s W W' row ⟨Bx, h1, h2, h3⟩ hg hr
  refine ⟨Bx, h1, (hg.block Bx (lt_of_block h2) (fun e => ?_)).trans h2, h3⟩
  obtain ⟨_, o, ho, hc⟩ := hr Bx e.symm
  rw [h2] at ho
  cases ho
  cases hc
 case assign =>
  intro l pre x W K hI hK
  have hbW : Below W.heap.size W (W.alloc (.cells #[.string ⟨(zs.getD x stD).1.1.toArray⟩, keysV (zs.getD x stD)] 106)) := (Below.refl _ _).alloc (Nat.le_refl _) _
  have hz7 := hI.size
  unfold stV keysV
  gi_wp2
  exact hK _ _ ((KeepsOthers.alloc _ _).from _) (KpB.of_below hbW hz7) (hI.then hbW) ⟨W.heap.size, hz7, heap_alloc_new W _, rfl⟩
 case body =>
  rintro l pre x a' W _ _ hI ⟨Bx, hB, hBx, rfl⟩ hlen
  have KW := hid ((hI.block _ (lt_of_block K7.out)).trans K7.out)
  have e0 : W.cell? ⟨w.heap.size, 0, none⟩ = some (.string ⟨key.toArray⟩) := by rw [cell_of_row _ _ _ _ _ _ KW.out]; rfl
  have el := lt_of_block KW.out
  have RX := hid (EACH7.out W hI x)
  have OX := hid (EOWN.out x)
  have NX := hid (HXN.out x)
  have LX := hid (HXL.out x)
  have HI := hid hI
  clear hI
  unfold stV
  generalize zs.getD x stD = z at *
  obtain ⟨⟨zn, zk⟩, za, zc⟩ := z
  simp only [keysV] at hBx RX OX NX LX ⊢
  obtain ⟨x0, x1, _, _, xl⟩ := box2_cells hBx
  have FD := hid (pfind_any W zn zk za zc key RX.out LX.out (fun a ha => by
   obtain ⟨g, h1, h2⟩ := OX.out a ha
   exact ⟨g, 0, h1, Nat.lt_of_lt_of_le h2 HI.out.size⟩))
  rw [idx_no NX.out] at FD
  clear RX OX NX LX hBx
  gi_wp2
  refine ⟨trivial, CallsIn.inRound l (callsIn_wide.2 (FD.out.mono ?_))⟩
  rintro e W2 ⟨rfl, hb2⟩
  have HI2 := hid (HI.out.then hb2)
  clear x0 x1 xl e0 el
  gi_wp2
  exact ⟨(KeepsOthers.of_grownBy (below_grown hb2) (fun j o e => by cases e)).from _, KpB.of_below hb2 HI.out.size, HI2.out⟩
 case done =>
  rintro D xs W hD _ hb hK
  have B8 := hid (B7.out.then hb)
  have O8 := hid ((hb.block _ (lt_of_block O7.out)).trans O7.out)
  have Q8 := hid ((hb.block _ (lt_of_block Q7.out)).trans Q7.out)
  have c0 : W.cell? ⟨w.heap.size + 1, 0, none⟩ = some (.string ⟨#[]⟩) := by rw [cell_of_row _ _ _ _ _ _ O8.out]; rfl
  have c1 : W.cell? ⟨w.heap.size + 1 + 1, 0, none⟩ = some (.bool false) := by rw [cell_of_row _ _ _ _ _ _ Q8.out]; rfl
  have f0 := frozen_of_row _ _ 0 _ _ O8.out
  have f1 := frozen_of_row _ _ 0 _ _ Q8.out
  have l0 := lt_of_block O8.out
  have l1 := lt_of_block Q8.out
  gi_wp2
  have hKD : ((W.setCell ⟨w.heap.size + 1, 0, none⟩ (.string ⟨p.toArray⟩)).setCell ⟨w.heap.size + 1 + 1, 0, none⟩ (.bool false)).heap[D]? = some (.deferred (some [])) :=
   (KeepsOthers.setCell _ _ _).same D _ ((KeepsOthers.setCell _ _ _).same D _ hK rfl) rfl
  refine ⟨by simp, .inl ⟨_, _, rfl, run_takeDeferred hKD, ?_⟩⟩
  have O9 := (heap_setCell_other (W.setCell ⟨w.heap.size + 1, 0, none⟩ (.string ⟨p.toArray⟩)) ⟨w.heap.size + 1 + 1, 0, none⟩ (w.heap.size + 1) (.bool false) (by simp)).trans (heap_setCell_same _ _ _ _ _ (.string ⟨p.toArray⟩) O8.out)
  have Q9 := heap_setCell_same _ _ 0 _ _ (.bool false) ((heap_setCell_other W ⟨w.heap.size + 1, 0, none⟩ (w.heap.size + 1 + 1) (.string ⟨p.toArray⟩) (by simp)).trans Q8.out)
  have g0 := cell_kept (show ((W.setCell ⟨w.heap.size + 1, 0, none⟩ (.string ⟨p.toArray⟩)).setCell ⟨w.heap.size + 1 + 1, 0, none⟩ (.bool false)).cell? ⟨w.heap.size + 1, 0, none⟩ = some (.string ⟨p.toArray⟩) by rw [cell_of_row _ _ _ _ _ _ O9]; rfl) (grownBy_putObj' _ D (.deferred none)) (fun r e => by cases e; exact ⟨_, hKD, rfl⟩)
  have g1 := cell_kept (show ((W.setCell ⟨w.heap.size + 1, 0, none⟩ (.string ⟨p.toArray⟩)).setCell ⟨w.heap.size + 1 + 1, 0, none⟩ (.bool false)).cell? ⟨w.heap.size + 1 + 1, 0, none⟩ = some (.bool false) by rw [cell_of_row _ _ _ _ _ _ Q9]; rfl) (grownBy_putObj' _ D (.deferred none)) (fun r e => by cases e; exact ⟨_, hKD, rfl⟩)
  refine ⟨.tuple #[.string ⟨p.toArray⟩, .bool false], ?_, rfl, ?_⟩
  ·simp [results, Tryz.f47, go_sem, g0, g1]
  ·exact ((B8.out.setCell (p := ⟨w.heap.size + 1, 0, none⟩) (by simp) _).setCell (p := ⟨w.heap.size + 1 + 1, 0, none⟩) (by simp; omega) _).trans (belowK_b (w := w) (Nat.le_refl _) _ D _ _ (Nat.le_trans B7.out.size hD) hKD rfl rfl)
end Go.Proofs.YtbbmdbolkicpcaaGreatDoor
namespace Go.Proofs.YtbbmdbolkicpcaaGreatDoor
open Go.RowKit Go.Lib
set_option maxRecDepth 100000 in
theorem afollows_any (w : World) (x y : Al) (hx : x.1.length ≤ maxLen) (hy : y.2.length ≤ maxLen) :
  Calls Tryz.prog 70 #[.agg #[.string ⟨x.1.toArray⟩, .string ⟨x.2.toArray⟩], .agg #[.string ⟨y.1.toArray⟩, .string ⟨y.2.toArray⟩]] w fun e w' => e = .returned (.bool (folB x y)) ∧ Below w.heap.size w w' := by
 obtain ⟨x1, x2⟩ := x
 obtain ⟨y1, y2⟩ := y
 simp only at hx hy ⊢
 have IN1 := hid (fun W => pin_any W y2 x1 hy hx)
 have IN2 := hid (fun W => pin_any W x1 y2 hx hy)
 have HF := hid (show folB (x1, x2) (y1, y2) = (inB y2 x1 || inB x1 y2) from rfl)
 have B0 := hid (below2 w (.cells #[.string ⟨x1.toArray⟩, .string ⟨x2.toArray⟩] 76) (.cells #[.string ⟨y1.toArray⟩, .string ⟨y2.toArray⟩] 76))
 have G0 := hid (show ((w.alloc (.cells #[.string ⟨x1.toArray⟩, .string ⟨x2.toArray⟩] 76)).alloc (.cells #[.string ⟨y1.toArray⟩, .string ⟨y2.toArray⟩] 76)).heap[w.heap.size]? = some (.cells #[.string ⟨x1.toArray⟩, .string ⟨x2.toArray⟩] 76 (0, 0)) from (Below.heap_alloc _ _ _ (lt_of_block (heap_alloc_new w _))).trans (heap_alloc_new w _))
 have H0 := hid (show ((w.alloc (.cells #[.string ⟨x1.toArray⟩, .string ⟨x2.toArray⟩] 76)).alloc (.cells #[.string ⟨y1.toArray⟩, .string ⟨y2.toArray⟩] 76)).heap[w.heap.size + 1]? = some (.cells #[.string ⟨y1.toArray⟩, .string ⟨y2.toArray⟩] 76 (0, 0)) from by
  have := heap_alloc_new (w.alloc (.cells #[.string ⟨x1.toArray⟩, .string ⟨x2.toArray⟩] 76)) (.cells #[.string ⟨y1.toArray⟩, .string ⟨y2.toArray⟩] 76)
  rw [show (w.alloc (.cells #[.string ⟨x1.toArray⟩, .string ⟨x2.toArray⟩] 76)).heap.size = w.heap.size + 1 by simp] at this
  exact this)
 go_enter Tryz.func70, Tryz.ntmps70
 go_upto_region 1 with fail
 generalize (w.alloc (.cells #[.string ⟨x1.toArray⟩, .string ⟨x2.toArray⟩] 76)).alloc (.cells #[.string ⟨y1.toArray⟩, .string ⟨y2.toArray⟩] 76) = w1 at *
 obtain ⟨a0, a1, _, _, al⟩ := box2_cells G0.out
 obtain ⟨b0, b1, _, _, bl⟩ := box2_cells H0.out
 cases h1 : inB y2 x1 with
 | true =>
  rw [h1] at IN1 HF
  clear h1
  go_wp2_with (go_at_call 95; refine (IN1.out _).mono ?_; rintro e w2 ⟨rfl, hb⟩; have B2 := hid (B0.out.then hb); clear hb)
  exact bodyPost_ret (v := .bool true) (by simp [results, Tryz.results70, go_sem]) rfl ⟨by rw [HF.out]; rfl, B2.out⟩
 | false =>
  rw [h1] at IN1 HF
  clear h1
  generalize inB x1 y2 = q at *
  go_wp2_with (first
   | (go_at_call 95; refine (IN1.out _).mono ?_; rintro e w2 ⟨rfl, hb⟩; have G2 := hid ((hb.block _ (lt_of_block G0.out)).trans G0.out); have H2 := hid ((hb.block _ (lt_of_block H0.out)).trans H0.out); have B2 := hid (B0.out.then hb); clear hb a0 a1 al b0 b1 bl IN1; obtain ⟨a0, a1, _, _, al⟩ := box2_cells G2.out; obtain ⟨b0, b1, _, _, bl⟩ := box2_cells H2.out)
   | (go_at_call 95; refine (IN2.out _).mono ?_; rintro e w3 ⟨rfl, hb⟩; have B3 := hid (B2.out.then hb); clear hb))
  exact bodyPost_ret (v := .bool q) (by simp [results, Tryz.results70, go_sem]) rfl ⟨by rw [HF.out]; rfl, B3.out⟩
def AlRd (W : World) (v : Value) (D : List Al) : Prop := ∃ b kv, v = .pointer (some ⟨b, 0, none⟩) ∧ W.heap[b]? = some (.cells #[kv] 141 (0, 0)) ∧ RdP W kv D
theorem AlRd.below {W W' : World} {v : Value} {D : List Al} (h : AlRd W v D) (hb : Below W.heap.size W W') : AlRd W' v D := by
 obtain ⟨b, kv, h1, h2, h3⟩ := h
 exact ⟨b, kv, h1, (hb.block _ (lt_of_block h2)).trans h2, h3.below hb⟩
def szA (D : List Al) : Prop := ∀ x ∈ D, x.1.length ≤ maxLen ∧ x.2.length ≤ maxLen
def alV (o : Option Al) : Value := match o with | some x => .agg #[.string ⟨x.1.toArray⟩, .string ⟨x.2.toArray⟩] | none => .agg #[.string ⟨#[]⟩, .string ⟨#[]⟩]
def keyO (o : Option Al) : Str := (o.map (·.1)).getD []
def valO (o : Option Al) : Str := (o.map (·.2)).getD []
theorem alV_eq (o : Option Al) : alV o = .agg #[.string ⟨(keyO o).toArray⟩, .string ⟨(valO o).toArray⟩] := by cases o <;> rfl
theorem find_take {D : List Al} {p : Str} {k : Nat} (h : k < D.length) : findA (D.take (k + 1)) p = bestA p (findA (D.take k) p) (D[k]'h) := by
 rw [List.take_succ_eq_append_getElem h, find_snoc]
theorem find_sz {D : List Al} {p : Str} (h : szA D) (k : Nat) : (keyO (findA (D.take k) p)).length ≤ maxLen := by
 cases e : findA (D.take k) p with
 | none => simp [keyO]
 | some x => exact (h x (List.mem_of_mem_take (find_some e).1)).1
set_option maxRecDepth 100000 in
set_option maxHeartbeats 4000000 in
theorem afind_any (w : World) (v : Value) (D : List Al) (p : Str) (h : AlRd w v D) (hp : p.length ≤ maxLen) (hs : szA D) :
  Calls Tryz.prog 147 #[v, .string ⟨p.toArray⟩] w fun e w' => e = .returned (.tuple #[alV (findA D p), .bool (findA D p).isSome]) ∧ Below w.heap.size w w' := by
 obtain ⟨b, kv, rfl, hb, hr⟩ := h
 obtain ⟨ao, cp, rfl, h63, hcell⟩ := rdP_cells hr
 have HB := hid hb
 have HR := hid hr
 have HS := hid hs
 have HP := hid hp
 have IN := hid (fun W a b ha hb => pin_any W a b ha hb)
 clear hb hr hs hp hcell
 go_enter Tryz.func147, Tryz.ntmps147
 have B0 := hid (show Below w.heap.size w (w.alloc (.cells #[.string ⟨#[]⟩, .string ⟨#[]⟩] 76)) from (Below.refl _ _).alloc (Nat.le_refl _) _)
 have F0 := hid (heap_alloc_new w (.cells #[.string ⟨#[]⟩, .string ⟨#[]⟩] 76))
 go_upto_region 1 with fail
 generalize w.alloc (.cells #[.string ⟨#[]⟩, .string ⟨#[]⟩] 76) = w0 at *
 have HB0 := hid ((B0.out.block _ (lt_of_block HB.out)).trans HB.out)
 have a0 : w0.cell? ⟨b, 0, none⟩ = some (.slice ao D.length cp) := by rw [cell_of_row _ _ _ _ _ _ HB0.out]; rfl
 have a1 := lt_of_block HB0.out
 go_wp2_with fail
 go_loopg [5, 16] D.length (fun g v5 v16 W => ∃ k : Nat, k ≤ D.length ∧ D.length ≤ k + g ∧ v5 = .bool (findA (D.take k) p).isSome ∧ v16 = .int .i64 k ∧ W.heap[w.heap.size]? = some (.cells #[.string ⟨(keyO (findA (D.take k) p)).toArray⟩, .string ⟨(valO (findA (D.take k) p)).toArray⟩] 76 (0, 0)) ∧ Below w.heap.size w W)
 case atStart => exact ⟨0, Nat.zero_le _, by omega, rfl, rfl, F0.out, B0.out⟩
 case round =>
  obtain ⟨k, hk, hg, rfl, rfl, hrow, hbw⟩ := hrel
  rename World => w2
  have HG := hid hg
  have F2 := hid hrow
  have B2 := hid hbw
  clear hg hrow hbw a0 a1 HB0
  by_cases hlt : k < D.length
  ·have hni : (k : Int) < (D.length : Int) := by omega
   have hn0 : (0 : Int) ≤ (k : Int) := by omega
   obtain ⟨ao2, cp2, e2, _, hc2⟩ := rdP_cells (HR.out.below B2.out)
   cases e2
   obtain ⟨g, o, rfl, hgl, r0, r1⟩ := hc2 k hlt
   have HXS := hid (HS.out _ (List.getElem_mem hlt))
   have HTK := hid (find_take (p := p) hlt)
   have HSZ := hid (find_sz (p := p) HS.out k)
   generalize hx : D[k]'hlt = x at *
   clear hx
   obtain ⟨x1, x2⟩ := x
   simp only at r0 r1 HXS
   have HA3 := hid (show Below w2.heap.size w2 (w2.alloc (.cells #[.string ⟨x1.toArray⟩, .string ⟨x2.toArray⟩] 76)) from (Below.refl _ _).alloc (Nat.le_refl _) _)
   have X3 := hid (heap_alloc_new w2 (.cells #[.string ⟨x1.toArray⟩, .string ⟨x2.toArray⟩] 76))
   go_upto_region 6 with fail
   generalize w2.alloc (.cells #[.string ⟨x1.toArray⟩, .string ⟨x2.toArray⟩] 76) = w3 at *
   have F3 := hid ((HA3.out.block _ (lt_of_block F2.out)).trans F2.out)
   have B3 := hid (B2.out.then HA3.out)
   have HXN := hid (show w.heap.size ≠ w2.heap.size from Nat.ne_of_lt (lt_of_block F2.out))
   clear F2 B2 HA3 r0 r1
   generalize w2.heap.size = Xb at *
   obtain ⟨x0, x1', _, _, xl⟩ := box2_cells X3.out
   obtain ⟨y0, y1, yf0, yf1, yl⟩ := box2_cells F3.out
   have I1 := hid (fun W => IN.out W p x1 HP.out HXS.out.1)
   cases h1 : inB p x1 with
   | false =>
    have HN := hid (show findA (D.take (k + 1)) p = findA (D.take k) p by rw [HTK.out, bestA_neg]; rw [h1]; simp)
    rw [h1] at I1
    clear h1
    go_wp2_with (go_at_call 95; refine (I1.out _).mono ?_; rintro e w4 ⟨rfl, hb4⟩; have F4 := hid ((hb4.block _ (lt_of_block F3.out)).trans F3.out); have B4 := hid (B3.out.then hb4); clear hb4)
    go_roundg (gk - 1)
    case measure => have := HG.out; omega
    case rel => exact ⟨k + 1, by omega, by have := HG.out; omega, by rw [HN.out], by simp, by rw [HN.out]; exact F4.out, B4.out⟩
   | true =>
    rw [h1] at I1
    have HRB := hid (show w.heap.size ≤ w.heap.size from Nat.le_refl _)
    generalize hfo : findA (D.take k) p = fo at *
    cases fo with
    | none =>
     have HN := hid (show findA (D.take (k + 1)) p = some (x1, x2) by rw [HTK.out, bestA_pos]; rw [h1]; rfl)
     clear h1 hfo
     go_wp2_with (go_at_call 95; refine (I1.out _).mono ?_; rintro e w4 ⟨rfl, hb4⟩; have F4 := hid ((hb4.block _ (lt_of_block F3.out)).trans F3.out); have X4 := hid ((hb4.block _ (lt_of_block X3.out)).trans X3.out); have B4 := hid (B3.out.then hb4); clear hb4 x0 x1' xl y0 y1 yf0 yf1 yl; obtain ⟨x0, x1', _, _, xl⟩ := box2_cells X4.out; obtain ⟨y0, y1, yf0, yf1, yl⟩ := box2_cells F4.out)
     go_roundg (gk - 1)
     case measure => have := HG.out; omega
     case rel => exact ⟨k + 1, by omega, by have := HG.out; omega, by rw [HN.out]; rfl, by simp, by rw [HN.out]; exact P2_rowT _ _ F4.out, P2_below _ _ B4.out (Nat.le_refl _)⟩
    | some y =>
     have I2 := hid (fun W => IN.out W x1 y.1 HXS.out.1 (by have := HSZ.out; simpa [keyO] using this))
     cases h2 : inB x1 y.1 with
     | true =>
      have HN := hid (show findA (D.take (k + 1)) p = some (x1, x2) by rw [HTK.out, bestA_pos]; rw [h1]; exact h2)
      rw [h2] at I2
      clear h1 h2 hfo
      go_wp2_with (first
       | (go_at_call 95; refine (I1.out _).mono ?_; rintro e w4 ⟨rfl, hb4⟩; have F4 := hid ((hb4.block _ (lt_of_block F3.out)).trans F3.out); have X4 := hid ((hb4.block _ (lt_of_block X3.out)).trans X3.out); have B4 := hid (B3.out.then hb4); clear hb4 I1 x0 x1' xl y0 y1 yf0 yf1 yl; obtain ⟨x0, x1', _, _, xl⟩ := box2_cells X4.out; obtain ⟨y0, y1, yf0, yf1, yl⟩ := box2_cells F4.out)
       | (go_at_call 95; refine (I2.out _).mono ?_; rintro e w5 ⟨rfl, hb5⟩; have F5 := hid ((hb5.block _ (lt_of_block F4.out)).trans F4.out); have X5 := hid ((hb5.block _ (lt_of_block X4.out)).trans X4.out); have B5 := hid (B4.out.then hb5); clear hb5 x0 x1' xl y0 y1 yf0 yf1 yl; obtain ⟨x0, x1', _, _, xl⟩ := box2_cells X5.out; obtain ⟨y0, y1, yf0, yf1, yl⟩ := box2_cells F5.out))
      go_roundg (gk - 1)
      case measure => have := HG.out; omega
      case rel => exact ⟨k + 1, by omega, by have := HG.out; omega, by rw [HN.out]; rfl, by simp, by rw [HN.out]; exact P2_rowT _ _ F5.out, P2_below _ _ B5.out (Nat.le_refl _)⟩
     | false =>
      have HN := hid (show findA (D.take (k + 1)) p = some y by rw [HTK.out, bestA_neg]; rw [h1]; intro h; have h : inB x1 y.1 = true := h; rw [h2] at h; cases h)
      rw [h2] at I2
      clear h1 h2 hfo
      go_wp2_with (first
       | (go_at_call 95; refine (I1.out _).mono ?_; rintro e w4 ⟨rfl, hb4⟩; have F4 := hid ((hb4.block _ (lt_of_block F3.out)).trans F3.out); have X4 := hid ((hb4.block _ (lt_of_block X3.out)).trans X3.out); have B4 := hid (B3.out.then hb4); clear hb4 I1 x0 x1' xl y0 y1 yf0 yf1 yl; obtain ⟨x0, x1', _, _, xl⟩ := box2_cells X4.out; obtain ⟨y0, y1, yf0, yf1, yl⟩ := box2_cells F4.out)
       | (go_at_call 95; refine (I2.out _).mono ?_; rintro e w5 ⟨rfl, hb5⟩; have F5 := hid ((hb5.block _ (lt_of_block F4.out)).trans F4.out); have X5 := hid ((hb5.block _ (lt_of_block X4.out)).trans X4.out); have B5 := hid (B4.out.then hb5); clear hb5 x0 x1' xl y0 y1 yf0 yf1 yl; obtain ⟨x0, x1', _, _, xl⟩ := box2_cells X5.out; obtain ⟨y0, y1, yf0, yf1, yl⟩ := box2_cells F5.out))
      go_roundg (gk - 1)
      case measure => have := HG.out; omega
      case rel => exact ⟨k + 1, by omega, by have := HG.out; omega, by rw [HN.out]; rfl, by simp, by rw [HN.out]; exact F5.out, B5.out⟩
  ·have hni : ¬ (k : Int) < (D.length : Int) := by omega
   have hkn : k = D.length := by omega
   have HTA := hid (show D.take k = D by rw [hkn]; exact List.take_length)
   rw [HTA.out] at F2 ⊢
   obtain ⟨fo, hfo⟩ : ∃ fo, fo = findA D p := ⟨_, rfl⟩
   have HFO := hid hfo
   rw [← hfo] at F2 ⊢
   clear hfo
   have HV := hid (alV_eq fo)
   obtain ⟨y0, y1, yf0, yf1, yl⟩ := box2_cells F2.out
   obtain ⟨q0, q1, _, _, ql⟩ := box2_cells (show (P2 w2 w.heap.size (.string ⟨(keyO fo).toArray⟩) (.string ⟨(valO fo).toArray⟩)).heap[w.heap.size]? = some (.cells #[.string ⟨(keyO fo).toArray⟩, .string ⟨(valO fo).toArray⟩] 76 (0, 0)) from P2_rowT _ _ F2.out)
   unfold P2 at q0 q1 ql
   go_wp2_with fail
   exact bodyPost_ret (v := .tuple #[.agg #[.string ⟨(keyO fo).toArray⟩, .string ⟨(valO fo).toArray⟩], .bool fo.isSome]) (by simp [results, Tryz.results147, go_sem, q0, q1]) rfl ⟨by rw [← HFO.out, HV.out], P2_below _ _ B2.out (Nat.le_refl _)⟩
set_option maxRecDepth 100000 in
set_option maxHeartbeats 4000000 in
theorem alead_any (w : World) (v : Value) (D : List Al) (p : Str) (h : AlRd w v D) (hp : p.length ≤ maxLen) (hs : szA D) :
  Calls Tryz.prog 107 #[v, .string ⟨p.toArray⟩] w fun e w' => (∃ s : Str, e = .returned (.tuple #[.string ⟨s.toArray⟩, .bool (leadA D p).isSome]) ∧ ∀ t, leadA D p = some t → s = t) ∧ Below w.heap.size w w' := by
 have FI := hid (afind_any w v D p h hp hs)
 have HS := hid hs
 have HP := hid hp
 have PV : ∃ b, v = .pointer (some ⟨b, 0, none⟩) := by obtain ⟨b, _, e, _⟩ := h; exact ⟨b, e⟩
 obtain ⟨b, rfl⟩ := PV
 clear h hp hs
 obtain ⟨fo, hfo⟩ : ∃ fo, fo = findA D p := ⟨_, rfl⟩
 have HFO := hid hfo
 rw [← hfo, alV_eq] at FI
 clear hfo
 go_enter Tryz.func107, Tryz.ntmps107
 go_wp2_with fail
 refine FI.out.mono ?_
 rintro e w1 ⟨rfl, hb1⟩
 have B1 := hid hb1
 clear hb1 FI
 have HA2 := hid (show Below w1.heap.size w1 (w1.alloc (.cells #[.string ⟨(keyO fo).toArray⟩, .string ⟨(valO fo).toArray⟩] 76)) from (Below.refl _ _).alloc (Nat.le_refl _) _)
 have F2 := hid (heap_alloc_new w1 (.cells #[.string ⟨(keyO fo).toArray⟩, .string ⟨(valO fo).toArray⟩] 76))
 go_upto_region 2 with fail
 generalize w1.alloc (.cells #[.string ⟨(keyO fo).toArray⟩, .string ⟨(valO fo).toArray⟩] 76) = w2 at *
 have B2 := hid (B1.out.then HA2.out)
 obtain ⟨x0, x1, _, _, xl⟩ := box2_cells F2.out
 cases fo with
 | none =>
  have HL := hid (show leadA D p = none by unfold leadA; rw [← HFO.out])
  go_wp2_with fail
  refine bodyPost_ret (v := .tuple #[.string ⟨#[]⟩, .bool false]) (by simp [results, Tryz.results107, go_sem]) rfl ?_
  exact ⟨⟨[], by rw [HL.out]; rfl, fun t ht => by rw [HL.out] at ht; cases ht⟩, B2.out⟩
 | some x =>
  have HL := hid (show leadA D p = (restF p x.1).bind fun r => joinF x.2 r by unfold leadA; rw [← HFO.out])
  have HXD := hid (HS.out x (find_some HFO.out.symm).1)
  have HIN := hid (find_some HFO.out.symm).2
  obtain ⟨r, hr⟩ : ∃ r, restF p x.1 = some r := by
   have := HIN.out
   unfold inB at this
   exact Option.isSome_iff_exists.1 this
  have RS := hid (prest_any w2 p x.1 HP.out HXD.out.1)
  have HRL := hid (show r.length ≤ maxLen by
   obtain ⟨l, m, _, _, e, hp2⟩ := rest_some hr
   have := (path_all hp2).2.2.2.1
   rw [(path_all hp2).2.2.2.2] at this
   unfold maxLen; omega)
  rw [hr] at RS
  rw [hr] at HL
  have HL2 := hid (show leadA D p = joinF x.2 r from HL.out)
  clear hr HL HFO
  simp only [keyO, valO, Option.map_some, Option.getD_some] at x0 x1 ⊢
  have JN := hid (fun W => pjoin_any W x.2 r HXD.out.2 HRL.out)
  unfold restV at RS
  go_wp2_with (first
   | (go_at_call 76; refine RS.out.mono ?_; rintro e w3 ⟨rfl, hb3⟩; have F3 := hid ((hb3.block _ (lt_of_block F2.out)).trans F2.out); have B3 := hid (B2.out.then hb3); clear hb3 x0 x1 xl; obtain ⟨x0, x1, _, _, xl⟩ := box2_cells F3.out)
   | (go_at_call 77; refine (JN.out _).mono ?_; rintro e w4 ⟨⟨er, rfl, hz⟩, hb4⟩; have HZ := hid hz; have B4 := hid (B3.out.then hb4); clear hb4 hz))
  refine bodyPost_ret (v := .tuple #[.string ⟨((joinF x.2 r).getD []).toArray⟩, .bool ((er : Int) == 0)]) (by simp [results, Tryz.results107, go_sem]) rfl ?_
  refine ⟨⟨(joinF x.2 r).getD [], ?_, fun t ht => ?_⟩, B4.out⟩
  ·rw [HL2.out]
   cases hj : (joinF x.2 r).isSome with
   | true => have := HZ.out.2 hj; subst this; rfl
   | false =>
    have hne : er ≠ 0 := fun e => by rw [HZ.out.1 e] at hj; cases hj
    have : ((er : Int) == 0) = false := beq_eq_false_iff_ne.2 (by omega)
    rw [this]
  ·rw [HL2.out] at ht
   rw [ht]; rfl
end Go.Proofs.YtbbmdbolkicpcaaGreatDoor
namespace Go.Proofs.YtbbmdbolkicpcaaGreatDoor
open Go.RowKit Go.Lib Go.Sort Go.Maps Go.WideMaps
theorem law : Keyed Tryz.prog 9 := string_keyed Tryz.underlying9
theorem zeroS (w : World) : (zeroValue 9).run Tryz.prog w = .ok (.string ⟨#[]⟩) w := by kernel_rfl
theorem zeroB (w : World) : (zeroValue 4).run Tryz.prog w = .ok (.bool false) w := by kernel_rfl
theorem key_of {k : Str} (h : k.length ≤ maxLen) : keyOf Tryz.prog 9 (.string ⟨k.toArray⟩) = some (.string k) := by
 have := keyOf_string_mk (P := Tryz.prog) Tryz.underlying9 (s := ⟨k.toArray⟩) (by rw [Lib.size_eq]; exact h)
 simpa using this
theorem elS {k : Str} (h : k.length ≤ maxLen) : plainElem (H := Unit) Tryz.prog 9 (.string ⟨k.toArray⟩) = some (.lit (.string k), []) := by
 have := plainElem_string (H := Unit) (P := Tryz.prog) Tryz.underlying9 (s := ⟨k.toArray⟩) (by rw [Lib.size_eq]; exact h)
 simpa using this
def OwnM (w : World) (b n : Nat) (D : List (Str × Str)) : Prop :=
 ∃ m : DataW Unit, w.ownsMap Tryz.prog 9 (plainElem Tryz.prog 9) b n m ∧ ∀ k z, m.atKey (.string k) z = match look D k with | some v => .lit (.string v) | none => z
def OwnB (w : World) (b n : Nat) (L : List Str) : Prop :=
 ∃ m : DataW Unit, w.ownsMap Tryz.prog 9 (plainElem Tryz.prog 4) b n m ∧ ∀ k z, m.atKey (.string k) z = if k ∈ L then .lit (.bool true) else z
theorem OwnM.lt {w : World} {b n : Nat} {D : List (Str × Str)} (h : OwnM w b n D) : b < w.heap.size := by obtain ⟨m, h, _⟩ := h; exact h.lt
theorem OwnB.lt {w : World} {b n : Nat} {L : List Str} (h : OwnB w b n L) : b < w.heap.size := by obtain ⟨m, h, _⟩ := h; exact h.lt
theorem OwnM.mono {w : World} {b n n' : Nat} {D : List (Str × Str)} (h : OwnM w b n D) (hn : n ≤ n') : OwnM w b n' D := by obtain ⟨m, h, h2⟩ := h; exact ⟨m, h.mono hn, h2⟩
theorem ownsMap_block {w w' : World} {P : Program} {k : TypeId} {R : Value → Option (DataW Unit × List MemPlace)} {b n : Nat} {m : DataW Unit} (h : w.ownsMap P k R b n m) (he : w'.heap[b]? = w.heap[b]?) : w'.ownsMap P k R b n m := by
 obtain ⟨es, clock, hb, F, hs, hD⟩ := h
 exact ⟨es, clock, he.trans hb, F, hs, hD⟩
theorem OwnM.block {w w' : World} {b n : Nat} {D : List (Str × Str)} (h : OwnM w b n D) (he : w'.heap[b]? = w.heap[b]?) : OwnM w' b n D := by obtain ⟨m, h, h2⟩ := h; exact ⟨m, ownsMap_block h he, h2⟩
theorem OwnB.block {w w' : World} {b n : Nat} {L : List Str} (h : OwnB w b n L) (he : w'.heap[b]? = w.heap[b]?) : OwnB w' b n L := by obtain ⟨m, h, h2⟩ := h; exact ⟨m, ownsMap_block h he, h2⟩
theorem OwnM.below {w w' : World} {b n : Nat} {D : List (Str × Str)} (h : OwnM w b n D) (hb : Below w.heap.size w w') : OwnM w' b n D := h.block (hb.block _ h.lt)
theorem OwnB.below {w w' : World} {b n : Nat} {L : List Str} (h : OwnB w b n L) (hb : Below w.heap.size w w') : OwnB w' b n L := h.block (hb.block _ h.lt)
theorem OwnM.made (w : World) : OwnM (w.alloc (.map #[] 0)) w.heap.size 0 [] := ⟨.map [], World.ownsMap_made _ _ _ _, fun k z => rfl⟩
theorem OwnB.made (w : World) : OwnB (w.alloc (.map #[] 0)) w.heap.size 0 [] := ⟨.map [], World.ownsMap_made _ _ _ _, fun k z => by simp; rfl⟩
theorem strKey (k : Str) : WideAt.IsKeyLit (.string k) := by
 simp [WideAt.IsKeyLit]
theorem OwnM.look_run {w : World} {b n : Nat} {D : List (Str × Str)} (h : OwnM w b n D) (k : Str) (hk : k.length ≤ maxLen) :
  (Instr.lookup 109 (.map (some b)) (.string ⟨k.toArray⟩) true).run Tryz.prog w = .ok (.tuple #[.string ⟨((look D k).getD []).toArray⟩, .bool (look D k).isSome]) w := by
 obtain ⟨mm, hown, hat⟩ := h
 obtain ⟨v, ps, hrun, hv⟩ := hown.look_ok law Tryz.underlying109 (zeroS w) (elS (k := []) (Nat.zero_le _)) (key_of hk)
 obtain ⟨s, rfl, hz, _⟩ := plainElem_string_inv (H := Unit) Tryz.underlying9 hv
 rw [hat] at hz
 have hhas : Maps.has mm (.string k) = (look D k).isSome := by
  cases hl : look D k with
  | some v => rw [has_true_of_atKey (y := .lit (.string v)) (fun z => by rw [hat, hl])]; rfl
  | none => rw [has_false_of_atKey (fun z => by rw [hat, hl])]; rfl
 have hs : s = ⟨((look D k).getD []).toArray⟩ := by
  cases hl : look D k with
  | some v =>
   rw [hl] at hz
   simp at hz
   cases s
   simp at hz ⊢
   rw [hz.1]
  | none =>
   rw [hl] at hz
   simp at hz
   cases s
   simp at hz ⊢
   exact hz.1
 rw [← hhas, ← hs]
 exact hrun
theorem OwnM.say_run {w : World} {b n : Nat} {D : List (Str × Str)} (h : OwnM w b n D) (hn : n < maxLen) (k y : Str) (hk : k.length ≤ maxLen) (hy : y.length ≤ maxLen) (hno : look D k = none) :
  ∃ w', (Instr.mapUpdate 109 (.map (some b)) (.string ⟨k.toArray⟩) (.string ⟨y.toArray⟩)).run Tryz.prog w = .ok () w' ∧ OwnM w' b (n + 1) (D ++ [(k, y)]) ∧ w.grownBy w' (some b) := by
 obtain ⟨mm, hown, hat⟩ := h
 obtain ⟨w', hrun, hown', hgr⟩ := hown.update law Tryz.underlying109 hn (key_of hk) (elS hy)
 refine ⟨w', hrun, ⟨_, hown', fun k' z => ?_⟩, hgr⟩
 rw [look_append]
 by_cases he : k' = k
 ·subst he
  rw [atKey_put_same hown.isMap (strKey _), hno]
  simp [look]
 ·rw [atKey_put_other (fun e => he (by simpa using e)), hat]
  cases hl : look D k' with
  | some u => rfl
  | none => simp [look, Ne.symm he]
section
variable {w : World} {ops : Array Oper} {rest : List Oper} {o : Oper} {a : Act} {Q : Exit → Act → World → Prop}
theorem wpList_look {b n : Nat} {D : List (Str × Str)} (h : OwnM w b n D) (hg : o.guard = none) (m x : Operand) (hop : o.op = Op.lookup 109 m x true) (hm : a.eval m = .map (some b)) (k : Str) (hx : a.eval x = .string ⟨k.toArray⟩) (hk : k.length ≤ maxLen)
  (hK : wpList Tryz.prog ops Q rest (a.put o.dst (.tuple #[.string ⟨((look D k).getD []).toArray⟩, .bool (look D k).isSome])) w) : wpList Tryz.prog ops Q (o :: rest) a w := by
 obtain ⟨mm, hown, hat⟩ := h
 refine wpList_lookup_own_ok w hg m x 109 hop 9 9 law Tryz.underlying109 (plainElem Tryz.prog 9) (zeroS w) (.lit (.string [])) [] (elS (k := []) (Nat.zero_le _)) b n mm hm hown _ _ hx (key_of hk) ?_
 intro v ps hv
 obtain ⟨s, rfl, hz, _⟩ := plainElem_string_inv (H := Unit) Tryz.underlying9 hv
 rw [hat] at hz
 have hhas : Maps.has mm (.string k) = (look D k).isSome := by
  cases hl : look D k with
  | some v => rw [has_true_of_atKey (y := .lit (.string v)) (fun z => by rw [hat, hl])]; rfl
  | none => rw [has_false_of_atKey (fun z => by rw [hat, hl])]; rfl
 have hs : s = ⟨((look D k).getD []).toArray⟩ := by
  cases hl : look D k with
  | some v =>
   rw [hl] at hz
   simp at hz
   cases s
   simp at hz ⊢
   rw [hz.1]
  | none =>
   rw [hl] at hz
   simp at hz
   cases s
   simp at hz ⊢
   exact hz.1
 rw [hhas, hs]
 exact hK
theorem wpList_look_some {b n : Nat} {D : List (Str × Str)} (h : OwnM w b n D) (hg : o.guard = none) (m x : Operand) (hop : o.op = Op.lookup 109 m x true) (hm : a.eval m = .map (some b)) (k y : Str) (hx : a.eval x = .string ⟨k.toArray⟩) (hk : k.length ≤ maxLen) (hL : look D k = some y)
  (hK : wpList Tryz.prog ops Q rest (a.put o.dst (.tuple #[.string ⟨y.toArray⟩, .bool true])) w) : wpList Tryz.prog ops Q (o :: rest) a w :=
 wpList_look h hg m x hop hm k hx hk (by rw [hL]; exact hK)
theorem wpList_look_none {b n : Nat} {D : List (Str × Str)} (h : OwnM w b n D) (hg : o.guard = none) (m x : Operand) (hop : o.op = Op.lookup 109 m x true) (hm : a.eval m = .map (some b)) (k : Str) (hx : a.eval x = .string ⟨k.toArray⟩) (hk : k.length ≤ maxLen) (hL : look D k = none)
  (hK : wpList Tryz.prog ops Q rest (a.put o.dst (.tuple #[.string ⟨#[]⟩, .bool false])) w) : wpList Tryz.prog ops Q (o :: rest) a w :=
 wpList_look h hg m x hop hm k hx hk (by rw [hL]; exact hK)
set_option maxRecDepth 100000 in
theorem wpList_met {b n : Nat} {L : List Str} (h : OwnB w b n L) (hg : o.guard = none) (m x : Operand) (hop : o.op = Op.lookup 61 m x false) (hm : a.eval m = .map (some b)) (k : Str) (hx : a.eval x = .string ⟨k.toArray⟩) (hk : k.length ≤ maxLen)
  (hK : wpList Tryz.prog ops Q rest (a.put o.dst (.bool (decide (k ∈ L)))) w) : wpList Tryz.prog ops Q (o :: rest) a w := by
 obtain ⟨mm, hown, hat⟩ := h
 refine wpList_plain hg fun K' hK' => ?_
 obtain ⟨v, ps, hrun, hv⟩ := hown.lookup law Tryz.underlying61 (zeroB w) (plainElem_bool Tryz.underlying4 false) (key_of hk)
 have hb : v = .bool (decide (k ∈ L)) := by
  rw [hat] at hv
  unfold plainElem at hv
  rw [Tryz.underlying4] at hv
  cases v <;> simp at hv
  rename_i q
  by_cases hm : k ∈ L
  ·rw [if_pos hm] at hv
   simp at hv
   rw [hv.1]; simp [hm]
  ·rw [if_neg hm] at hv
   simp at hv
   rw [hv.1]; simp [hm]
 subst hb
 unfold Oper.wp
 simp [execOp, hop, hm, hx, hrun, Result.andThen]
 exact hK' _ _ hK
theorem wpList_met_b {b n : Nat} {L : List Str} (h : OwnB w b n L) (hg : o.guard = none) (m x : Operand) (hop : o.op = Op.lookup 61 m x false) (hm : a.eval m = .map (some b)) (k : Str) (hx : a.eval x = .string ⟨k.toArray⟩) (hk : k.length ≤ maxLen) (q : Bool) (hq : decide (k ∈ L) = q)
  (hK : wpList Tryz.prog ops Q rest (a.put o.dst (.bool q)) w) : wpList Tryz.prog ops Q (o :: rest) a w :=
 wpList_met h hg m x hop hm k hx hk (by rw [hq]; exact hK)
theorem wpList_mark {b n : Nat} {L : List Str} (h : OwnB w b n L) (hg : o.guard = none) (m x v : Operand) (hop : o.op = Op.mapUpdate 61 m x v) (hm : a.eval m = .map (some b)) (hn : n < maxLen) (k : Str) (hx : a.eval x = .string ⟨k.toArray⟩) (hv : a.eval v = .bool true) (hk : k.length ≤ maxLen)
  (hK : ∀ w', OwnB w' b (n + 1) (k :: L) → w.grownBy w' (some b) → wpList Tryz.prog ops Q rest (a.put o.dst undef) w') : wpList Tryz.prog ops Q (o :: rest) a w := by
 obtain ⟨mm, hown, hat⟩ := h
 refine wpList_mapUpdate_own w hg m x v 61 hop 9 4 law Tryz.underlying61 (plainElem Tryz.prog 4) b n mm hm hown hn _ _ _ hx hv (key_of hk) _ [] (plainElem_bool Tryz.underlying4 true) ?_
 intro w' hown' hgr
 refine hK w' ⟨_, hown', fun k' z => ?_⟩ hgr
 by_cases he : k' = k
 ·subst he
  rw [atKey_put_same hown.isMap (strKey _)]
  simp
 ·rw [atKey_put_other (fun e => he (by simpa using e)), hat]
  simp [he]
end
def ChRd (w : World) (v : Value) (D : List (Str × Str)) : Prop :=
 ∃ bc bm n, v = .pointer (some ⟨bc, 0, none⟩) ∧ bc < w.heap.size ∧ w.cell? ⟨bc, 0, none⟩ = some (.map (some bm)) ∧ OwnM w bm n D
theorem ChRd.below {w w' : World} {v : Value} {D : List (Str × Str)} (h : ChRd w v D) (hb : Below w.heap.size w w') : ChRd w' v D := by
 obtain ⟨bc, bm, n, h1, h2, h3, h4⟩ := h
 exact ⟨bc, bm, n, h1, Nat.lt_of_lt_of_le h2 hb.size, (hb.cell (p := ⟨bc, 0, none⟩) h2).trans h3, h4.below hb⟩
end Go.Proofs.YtbbmdbolkicpcaaGreatDoor
namespace Go.Proofs.YtbbmdbolkicpcaaGreatDoor
end Go.Proofs.YtbbmdbolkicpcaaGreatDoor
namespace Go.Proofs.YtbbmdbolkicpcaaGreatDoor
theorem named_len {s : Str} (h : namedB s = true) : s.length ≤ 128 := by
 obtain ⟨h1, _⟩ := named_facts h
 have h2 := parse_L s
 unfold okR at h2
 rw [if_pos h1] at h2
 by_cases h3 : 128 < s.length
 ·rw [if_pos h3] at h2; cases h2
 ·omega
theorem bad_err : ∀ {r done : List (Str × Str)} {e i : Nat}, badAt done r = some (e, i) → e = 2 ∨ e = 211
 | [], _, _, _, h => by cases h
 | p :: r, done, e, i, h => by
  unfold badAt at h
  split at h
  ·split at h
   ·exact bad_err h
   ·cases h; exact Or.inr rfl
  ·cases h; exact Or.inl rfl
theorem new_ok {D : List (Str × Str)} {i : Nat} (h : NewOut D 0 i) : saidOK D ∧ (∀ p ∈ D, ¬ ringP D p.1) ∧ badAt [] D = none ∧ i = 0 := by
 rcases h with h | ⟨_, h, _⟩ | ⟨h1, _, hi, h2⟩
 ·rcases bad_err h with h | h <;> cases h
 ·cases h
 ·have := bad_none h1 (fun p hp => by cases hp)
  exact ⟨this, h2, h1, hi⟩
theorem up_ne {D : List (Str × Str)} {s : Str} {l : List Str} (h : Up D s l) : l ≠ [] := by
 obtain ⟨r, rfl⟩ := up_head h; simp
theorem up_end {D : List (Str × Str)} {s : Str} {l : List Str} (h : Up D s l) (j : Nat) (hj : j < l.length) (hr : l[j] = tRoot) : j + 1 = l.length := by
 have h1 := up_drop j hj h
 rw [hr] at h1
 have h2 := congrArg List.length (up_one h1 (up_root D))
 simp only [List.length_drop, List.length_cons, List.length_nil] at h2
 omega
theorem up_next {D : List (Str × Str)} {s : Str} {l : List Str} (h : Up D s l) (j : Nat) (hj : j < l.length) (hr : l[j] ≠ tRoot) : ∃ hj' : j + 1 < l.length, stepF D l[j] = some l[j + 1] := by
 have h1 := up_drop j hj h
 rw [List.drop_eq_getElem_cons hj] at h1
 by_cases hj' : j + 1 < l.length
 ·rw [List.drop_eq_getElem_cons hj'] at h1
  exact ⟨hj', h1.2.2.1⟩
 ·rw [List.drop_of_length_le (by omega)] at h1
  exact absurd h1.2 hr
theorem step_parent {D : List (Str × Str)} {s t : Str} (h : stepF D s = some t) : parentF D s = (t, true) := by
 unfold stepF at h
 split at h
 ·rename_i h2
  cases h
  generalize parentF D s = q at *
  cases q
  simp only at *
  rw [h2]
 ·cases h
theorem parent_step {D : List (Str × Str)} {s t : Str} (h : parentF D s = (t, true)) : stepF D s = some t := by unfold stepF; rw [h]; rfl
theorem parent_none {D : List (Str × Str)} {s : Str} (h : (parentF D s).2 = false) : stepF D s = none := by unfold stepF; rw [h]; rfl
theorem up_len {D : List (Str × Str)} (hD : saidOK D) {s : Str} {l : List Str} (hs : namedB s = true) (h : Up D s l) : l.length ≤ 12 * (D.length + 1) := by
 refine Nat.le_trans (nodup_le l (reach D s) ?_ ?_) (reach_len D s)
 ·rw [List.nodup_iff_pairwise_ne, List.pairwise_iff_getElem]
  intro i j hi hj hij
  exact up_nodup h i j hj hij
 ·intro x hx
  have key : ∀ j (hj : j < l.length), iter D j s = some l[j] := by
   intro j
   induction j with
   | zero =>
    intro hj
    obtain ⟨r, rfl⟩ := up_head h
    rfl
   | succ j ih =>
    intro hj
    rw [iter, ih (by omega), Option.bind_some]
    have hne : l[j] ≠ tRoot := fun e => by have := up_end h j (by omega) e; omega
    obtain ⟨_, h2⟩ := up_next h j (by omega) hne
    exact h2
  obtain ⟨j, hj, rfl⟩ := List.getElem_of_mem hx
  exact iter_reach hD hs j _ (key j hj)
theorem ring_no1 {D : List (Str × Str)} {k a : Str} {j : Nat} (hj : iter D j k = some a) (hs : stepF D a = none) (hL : ∀ i, i < j → iter D (i + 1) k ≠ some k) : ¬ ringP D k := by
 rintro ⟨n, hn⟩
 by_cases h : n < j
 ·exact hL n h hn
 ·rw [show n + 1 = j + 1 + (n - j) by omega, iter_add, iter, hj, Option.bind_some, hs] at hn
  cases hn
theorem ring_no3 {D : List (Str × Str)} {k a x : Str} {i j : Nat} (hj : iter D j k = some a) (hs : stepF D a = some x) (hi : i < j) (hx : iter D (i + 1) k = some x) (hL : ∀ i, i < j → iter D (i + 1) k ≠ some k) : ¬ ringP D k := by
 have key : ∀ m, ∃ i', i' < j ∧ iter D (m + 1) k = iter D (i' + 1) k := by
  intro m
  induction m using Nat.strongRecOn with
  | _ m ih =>
   by_cases h : m < j
   ·exact ⟨m, h, rfl⟩
   ·have h1 : iter D (m + 1) k = iter D (i + (m - j) + 1) k := by
     rw [show m + 1 = j + 1 + (m - j) by omega, iter_add, iter, hj, Option.bind_some, hs, show i + (m - j) + 1 = i + 1 + (m - j) by omega, iter_add, hx]
    obtain ⟨i', h2, h3⟩ := ih (i + (m - j)) (by omega)
    exact ⟨i', h2, h1.trans h3⟩
 rintro ⟨n, hn⟩
 obtain ⟨i', h1, h2⟩ := key n
 exact hL i' h1 (h2 ▸ hn)
def ChainIs (D : List (Str × Str)) (s : Str) (l : List Str) : Prop := (namedB s = true ∧ Up D s l) ∨ (namedB s = false ∧ l = [])
theorem chain_ex {D : List (Str × Str)} (h0 : NewOut D 0 0) (s : Str) : ∃ l, ChainIs D s l := by
 obtain ⟨h1, h2, _⟩ := new_ok h0
 by_cases hs : namedB s = true
 ·obtain ⟨l, hl⟩ := up_ex h1 h2 hs
  exact ⟨l, Or.inl ⟨hs, hl⟩⟩
 ·exact ⟨[], Or.inr ⟨by simpa using hs, rfl⟩⟩
theorem bad_step {l : List (Str × Str)} {n : Nat} (hn : n < l.length) : badAt (l.take n) (l.drop n) =
  if (namedB l[n].1 = true ∧ namedB l[n].2 = true) ∧ l[n].1 ≠ tRoot then (if look (l.take n) l[n].1 = none then badAt (l.take (n + 1)) (l.drop (n + 1)) else some (211, n)) else some (2, n) := by
 rw [List.drop_eq_getElem_cons hn, badAt, List.length_take, show min n l.length = n by omega, List.take_add_one, List.getElem?_eq_getElem hn]
 rfl
end Go.Proofs.YtbbmdbolkicpcaaGreatDoor
namespace Go.Proofs.YtbbmdbolkicpcaaGreatDoor
open Go.RowKit Go.Lib Go.Sort Go.Maps
set_option maxRecDepth 100000 in
set_option maxHeartbeats 8000000 in
theorem parent_any (w : World) (v : Value) (D : List (Str × Str)) (l : Str) (h : ChRd w v D) (hl : l.length ≤ maxLen) :
  Calls Tryz.prog 23 #[v, .string ⟨l.toArray⟩] w fun e w' => e = .returned (.tuple #[.string ⟨(parentF D l).1.toArray⟩, .bool (parentF D l).2]) ∧ Below w.heap.size w w' := by
 obtain ⟨bc, bm, n, rfl, hlt, hc, hown⟩ := h
 have PL := hid (fun W => plain_any l W hl)
 have HOWN := hid hown
 clear hown
 cases hlk : look D l with
 | some p =>
  have hpf : parentF D l = (p, true) := by unfold parentF; rw [hlk]
  rw [hpf]
  have HLK := hid hlk
  clear hpf hlk
  go_enter Tryz.func23, Tryz.ntmps23
  go_wp2_with (at_lookup; refine wpList_look_some HOWN.out rfl _ _ rfl rfl l _ rfl hl HLK.out ?_)
  exact bodyPost_ret (v := .tuple #[.string ⟨p.toArray⟩, .bool true]) (by simp [results, Tryz.results23, go_sem]) rfl ⟨rfl, Below.refl _ _⟩
 | none =>
  have hpf : parentF D l = plainF l := by unfold parentF; rw [hlk]
  rw [hpf]
  have HLK := hid hlk
  clear hpf hlk
  generalize plainF l = q at *
  go_enter Tryz.func23, Tryz.ntmps23
  go_wp2_with (at_lookup; refine wpList_look_none HOWN.out rfl _ _ rfl rfl l rfl hl HLK.out ?_)
  refine (PL.out _).mono ?_
  rintro e w1 ⟨rfl, hb1⟩
  go_wp2_with fail
  exact bodyPost_ret (v := .tuple #[.string ⟨q.1.toArray⟩, .bool q.2]) (by simp [results, Tryz.results23, go_sem]) rfl ⟨rfl, hb1⟩
end Go.Proofs.YtbbmdbolkicpcaaGreatDoor
namespace Go.Proofs.YtbbmdbolkicpcaaGreatDoor
open Go.RowKit Go.Lib Go.Sort Go.Maps
theorem wpList_pushU {w : World} {ops : Array Oper} {rest : List Oper} {o : Oper} {a : Act} {Q : Exit → Act → World → Prop} (hgd : o.guard = none) (s x : Operand)
  (ho : o.op = .call { callee := .builtin .append, args := #[s, x], argTypes := #[36, 36] })
  (B : Nat) (v : Value) (l : List Str) (y : Str) (hs : a.eval s = v) (hown : OwnS w B v l) (hx : a.eval x = .slice (some ⟨w.heap.size, 0, none⟩) 1 1) (hl : l.length ≤ 1000000000000) (hB : B ≤ w.heap.size)
  (h : ∀ v' w', OwnS w' B v' (l ++ [y]) → w.grownBy w' v.ownBlock → Moved w v v' → wpList Tryz.prog ops Q rest (a.put o.dst v') w') :
  wpList Tryz.prog ops Q (o :: rest) a (w.alloc (.cells #[.string ⟨y.toArray⟩] 9)) := by
 obtain ⟨i0, hi, hz0, hz1, hz2⟩ := info_parts infoS
 refine wpList_app hgd s x 36 ho B 9 i0 (.string ⟨#[]⟩) 1 16 Tryz.underlying36 hi hz0 hz1 hz2 rfl (by decide) v l.length (l.map S) hs (World.ownsRow.alloc hown _) ⟨w.heap.size, 0, none⟩ 1 1 [.string ⟨y.toArray⟩] hx rfl (cell_one_new _ _ _) (fun u hu => by simp at hu; subst hu; rfl) (by unfold maxLen; omega) (by omega) (by simp; omega) ?_
 intro v' w' own gr mv
 refine h v' w' (own_cast own (by simp) (by simp [S])) ⟨gr.os, gr.tape, gr.output, Nat.le_trans (by simp) gr.size, fun k hk hne => ?_⟩ ?_
 ·rw [gr.block k (by simp; omega) hne]; exact heap_alloc_old _ _ hk
 ·rcases mv with m | ⟨k, h1, h2⟩
  ·exact Or.inl m
  ·exact Or.inr ⟨k, h1, by simp at h2; omega⟩
def ChainOut (w : World) (l : List Str) (e : Ending) (w' : World) : Prop := ∃ vv, e = .returned vv ∧ OwnS w' w.heap.size vv l ∧ Below w.heap.size w w'
set_option maxRecDepth 100000 in
set_option maxHeartbeats 16000000 in
theorem chain_any (w : World) (v : Value) (D : List (Str × Str)) (s : Str) (l : List Str) (h : ChRd w v D) (hD : saidOK D) (hl : ChainIs D s l) (hs : s.length ≤ maxLen) (hsz : D.length ≤ 10000000000) :
  Calls Tryz.prog 24 #[v, .string ⟨s.toArray⟩] w fun e w' => ChainOut w l e w' := by
 have PA := hid (fun W (hb : Below w.heap.size w W) (a : Str) (ha : a.length ≤ maxLen) => parent_any W v D a (h.below hb) ha)
 have NM := hid (fun W => named_any s W hs)
 simp only [NamedOut] at NM
 obtain ⟨bc, bm, n0, rfl, _, _, _⟩ := h
 rcases hl with ⟨hn, hu⟩ | ⟨hn, rfl⟩
 ·rw [hn] at NM
  have hlen := up_len hD hn hu
  have HU := hid hu
  have HLEN := hid (show l.length ≤ 200000000000 by omega)
  have HNA := hid (up_named hD hn hu)
  have hl0 : 0 < l.length := List.length_pos_iff.2 (up_ne hu)
  have hh : l.take 1 = [s] := by obtain ⟨r, rfl⟩ := up_head hu; simp
  have hg : ∀ hj : 0 < l.length, l[0]'hj = s := by obtain ⟨r, rfl⟩ := up_head hu; intro _; rfl
  have HL0 := hid hl0
  have HH := hid hh
  have HG0 := hid hg
  clear hu hlen hD hsz hl0 hh hg hn
  generalize namedT s = nt at *
  go_enter Tryz.func24, Tryz.ntmps24
  go_wp2_with fail
  refine (NM.out _).mono ?_
  rintro e w1 ⟨v1, rfl, ⟨vv, kv, rfl, ⟨av, cv, rfl, _, _⟩, ⟨ak, ck, rfl, _, _⟩⟩, hb1⟩
  simp only [tagCells, S]
  have hb2 : Below w1.heap.size w1 (w1.alloc (.cells #[.string ⟨nt.lang.toArray⟩, .string ⟨nt.script.toArray⟩, .string ⟨nt.region.toArray⟩, .slice av nt.vars.length cv, .slice ak nt.keys.length ck] 113)) := (Below.refl _ _).alloc (Nat.le_refl _) _
  have HB2 := hid (hb1.then hb2)
  clear hb1 hb2
  go_upto_region 4 with (fail)
  generalize w1.alloc (.cells #[.string ⟨nt.lang.toArray⟩, .string ⟨nt.script.toArray⟩, .string ⟨nt.region.toArray⟩, .slice av nt.vars.length cv, .slice ak nt.keys.length ck] 113) = w2 at *
  have ho := fresh_own w2 [s] w.heap.size HB2.out.size (by simp)
  have HOW := hid ho
  have HB3 := hid (HB2.out.then (show Below w2.heap.size w2 (w2.alloc (.cells #[.string ⟨s.toArray⟩] 9)) from (Below.refl _ _).alloc (Nat.le_refl _) _))
  clear ho
  go_wp2_with fail
  go_loopg [1, 7] l.length (fun g va vl W => ∃ (j : Nat) (hj : j < l.length), va = .string ⟨l[j].toArray⟩ ∧ OwnS W w.heap.size vl (l.take (j + 1)) ∧ l.length ≤ j + 1 + g ∧ Below w.heap.size w W)
  case atStart => exact ⟨0, HL0.out, by rw [HG0.out HL0.out], by rw [HH.out]; simpa [S] using HOW.out, by omega, HB3.out⟩
  case round =>
   obtain ⟨j, hj, rfl, own, hg, hb⟩ := hrel
   rename World => w4
   have HOJ := hid own
   have HGJ := hid hg
   have HBJ := hid hb
   obtain ⟨a, ha⟩ : ∃ a, a = l[j]'hj := ⟨_, rfl⟩
   have HAL := hid (show a.length ≤ maxLen by rw [ha]; exact Nat.le_trans (named_len (HNA.out _ (List.getElem_mem hj))) (by decide))
   have HEND := hid (show a = tRoot → j + 1 = l.length from fun h => up_end HU.out j hj (by rw [← ha]; exact h))
   have HNXT := hid (show a ≠ tRoot → ∃ hj' : j + 1 < l.length, stepF D a = some (l[j + 1]'hj') from fun h => by rw [ha]; exact up_next HU.out j hj (by rw [← ha]; exact h))
   clear own hg hb HOW HB3 HB2
   rw [← ha]
   clear ha hj
   by_cases hr : a = tRoot
   ·have hub : (a == [114, 111, 111, 116]) = true := by rw [hr]; rfl
    have hub2 : (a != [114, 111, 111, 116]) = false := by rw [hr]; rfl
    have hjl := HEND.out hr
    have hown := HOJ.out
    rw [List.take_of_length_le (by omega)] at hown
    have HOWN := hid hown
    clear hr hjl hown
    go_wp2_with fail
    go_ret
    exact ⟨_, rfl, HOWN.out, HBJ.out⟩
   ·have hub : (a == [114, 111, 111, 116]) = false := by rw [beq_eq_false_iff_ne]; exact hr
    have hub2 : (a != [114, 111, 111, 116]) = true := by rw [bne_iff_ne]; exact hr
    obtain ⟨hj2, hst⟩ := HNXT.out hr
    have hpa := step_parent hst
    have htk : l.take (j + 1) ++ [l[j + 1]'hj2] = l.take (j + 1 + 1) := by rw [List.take_add_one (i := j + 1), List.getElem?_eq_getElem hj2]; rfl
    have HTK := hid htk
    obtain ⟨y, hy⟩ : ∃ y, y = l[j + 1]'hj2 := ⟨_, rfl⟩
    have HJ2 := hid hj2
    have HY := hid (show ∀ h : j + 1 < l.length, y = l[j + 1]'h from fun _ => hy)
    rw [← hy] at hpa HTK
    have HPA := hid hpa
    clear hr hst hpa htk hy hj2
    go_wp2_with fail
    refine (PA.out _ HBJ.out a HAL.out).mono ?_
    rintro e w5 ⟨rfl, hb5⟩
    rw [HPA.out]
    simp only
    have HO5 := hid (own_below HOJ.out hb5)
    have HB5 := hid (HBJ.out.then hb5)
    have hll : (l.take (j + 1)).length ≤ 1000000000000 := by rw [List.length_take]; have := HLEN.out; omega
    have HLL := hid hll
    clear hb5 hll
    go_wp2_with (at_builtin; refine wpList_pushU rfl (.tmp 29) (.tmp 31) rfl w.heap.size _ _ y rfl HO5.out rfl HLL.out HB5.out.size ?_; intro v6 w6 own6 gr6 mv6)
    have HO6 := hid own6
    have HB6 := hid (HB5.out.grown gr6 HB5.out.size (fun j hj => (World.ownsRow.lt HO5.out _ hj).1))
    clear own6 gr6 mv6
    go_wp2_with fail
    go_roundg (gk - 1)
    case measure => have := HGJ.out; have := HJ2.out; omega
    case rel => exact ⟨j + 1, HJ2.out, by rw [HY.out HJ2.out], by rw [← HTK.out]; exact HO6.out, by have := HGJ.out; have := HJ2.out; omega, HB6.out⟩
 ·rw [hn] at NM
  generalize namedT s = nt at *
  go_enter Tryz.func24, Tryz.ntmps24
  go_wp2_with fail
  refine (NM.out _).mono ?_
  rintro e w1 ⟨v1, rfl, ⟨vv, kv, rfl, ⟨av, cv, rfl, _, _⟩, ⟨ak, ck, rfl, _, _⟩⟩, hb1⟩
  simp only [tagCells, S]
  go_wp2_with fail
  go_ret
  exact ⟨_, rfl, World.ownsRow_nil _ _ _ _, hb1.then ((Below.refl _ _).alloc (Nat.le_refl _) _)⟩
end Go.Proofs.YtbbmdbolkicpcaaGreatDoor
namespace Go.Proofs.YtbbmdbolkicpcaaGreatDoor
open Go.RowKit Go.Lib
attribute [local go_sem] spot_fld
theorem pathB_len {p : Str} (h : pathB p = true) : p.length ≤ 512 := by
 unfold pathB at h
 obtain ⟨l, hl⟩ := Option.isSome_iff_exists.1 h
 have := (path_all hl).2.2.2.1
 rwa [(path_all hl).2.2.2.2] at this
theorem way_tail {D : List Al} : ∀ {d : List Str} {q : Str} {r : List Str} {p : Str}, WayIs D p (d ++ q :: r) → WayIs D q (q :: r)
 | [], q, r, p, h => by
  obtain ⟨r', e⟩ := way_head h
  cases e; exact h
 | [x], q, r, p, h => h.2.2
 | x :: y :: d, q, r, p, h => way_tail (d := y :: d) h.2.2
set_option maxRecDepth 100000 in
set_option maxHeartbeats 4000000 in
theorem away_any (w : World) (v : Value) (D : List Al) (p : Str) (l : List Str) (h : AlRd w v D) (hp : pathB p = true) (hs : szA D) (hl : WayIs D p l) (hn : l.length ≤ 1000) :
  Calls Tryz.prog 78 #[v, .string ⟨p.toArray⟩] w fun e w' => ∃ vv, e = .returned vv ∧ OwnS w' w.heap.size vv l ∧ Below w.heap.size w w' := by
 have HLQ := hid (show ∀ q ∈ l, q.length ≤ maxLen from fun q hq => by have := pathB_len (way_path hp hl q hq); unfold maxLen; omega)
 have LD := hid (fun W (hb : Below w.heap.size w W) (q : Str) (hq : q ∈ l) => alead_any W v D q (h.below hb) (HLQ.out q hq) hs)
 have CK := hid (pcheck_any p w (by have := pathB_len hp; unfold maxLen; omega))
 have HP := hid hp
 have HL := hid hl
 have HN := hid hn
 obtain ⟨r0, hr0⟩ := way_head hl
 have HR0 := hid hr0
 obtain ⟨b, kv, rfl, _, _⟩ := h
 clear hp hs hl hn hr0
 go_enter Tryz.func78, Tryz.ntmps78
 go_wp2_with (go_at_call 68; refine CK.out.mono ?_; rintro e w1 ⟨⟨er, ea, rfl, he⟩, hb1⟩; have he0 := he.2 HP.out; subst he0; have B1 := hid hb1; clear hb1 he)
 have ho := fresh_own w1 [p] w.heap.size B1.out.size (by simp)
 have HOW := hid ho
 have HB3 := hid (B1.out.then (show Below w1.heap.size w1 (w1.alloc (.cells #[.string ⟨p.toArray⟩] 9)) from (Below.refl _ _).alloc (Nat.le_refl _) _))
 clear ho
 go_loopg [1, 5] l.length (fun g v1 v5 W => ∃ (d : List Str) (q : Str) (r : List Str), l = d ++ q :: r ∧ r.length ≤ g ∧ v1 = .string ⟨q.toArray⟩ ∧ OwnS W w.heap.size v5 (d ++ [q]) ∧ Below w.heap.size w W)
 case atStart => exact ⟨[], p, r0, HR0.out, by rw [HR0.out]; simp, rfl, by simpa [S] using HOW.out, HB3.out⟩
 case round =>
  obtain ⟨d, q, r, hd, hg, rfl, own, hb⟩ := hrel
  rename World => w4
  have HD := hid hd
  have HG := hid hg
  have HO := hid own
  have HB := hid hb
  have HT := hid (way_tail (d := d) (hd ▸ HL.out))
  have LQ := hid (LD.out w4 hb q (by rw [hd]; simp))
  have HDL := hid (show (d ++ [q]).length ≤ 1000 by have := HN.out; rw [hd] at this; simp at this ⊢; omega)
  clear hd hg own hb HOW HB3 B1 CK
  cases r with
  | nil =>
   have hno : leadA D q = none := HT.out.2
   rw [hno] at LQ
   clear hno
   go_wp2_with (go_at_call 107; refine LQ.out.mono ?_; rintro e w5 ⟨⟨s, rfl, _⟩, hb5⟩; have B5 := hid hb5; clear hb5)
   go_ret
   exact ⟨_, rfl, by rw [HD.out]; exact own_below HO.out B5.out, HB.out.then B5.out⟩
  | cons y r =>
   have hyes : leadA D q = some y := HT.out.2.1
   rw [hyes] at LQ
   clear hyes
   go_wp2_with fail
   refine LQ.out.mono ?_
   rintro e w5 ⟨⟨s, rfl, hs⟩, hb5⟩
   have hs2 := hs y rfl
   subst hs2
   have HO5 := hid (own_below HO.out hb5)
   have HB5 := hid (HB.out.then hb5)
   have hll : (d ++ [q]).length ≤ 1000000000000 := by have := HDL.out; omega
   have HLL := hid hll
   clear hs hb5 hll
   go_wp2_with (at_builtin; refine wpList_pushU rfl (.tmp 27) (.tmp 29) rfl w.heap.size _ _ s rfl HO5.out rfl HLL.out HB5.out.size ?_; intro v6 w6 own6 gr6 mv6; have HO6 := hid own6; have HB6 := hid (HB5.out.grown gr6 HB5.out.size (fun j hj => (World.ownsRow.lt HO5.out _ hj).1)); clear own6 gr6 mv6)
   go_wp2_with fail
   go_roundg (gk - 1)
   case measure => have := HG.out; simp only [List.length_cons] at this; omega
   case rel => exact ⟨d ++ [q], s, r, by rw [HD.out]; simp, by have := HG.out; simp only [List.length_cons] at this; omega, rfl, HO6.out, HB6.out⟩
end Go.Proofs.YtbbmdbolkicpcaaGreatDoor
