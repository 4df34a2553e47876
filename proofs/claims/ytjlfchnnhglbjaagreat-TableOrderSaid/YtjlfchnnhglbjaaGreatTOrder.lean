/- Several texts in one: TbOrder, OpenD, TableOrder. (joined by wip/merge.py) -/
import Derived.Test.YtjlfchnnhglbjaaGreatTI
import Derived.Test.YtjlfchnnhglbjaaGreatTH
import Derived.Test.YtjlfchnnhglbjaaGreatTJ
import Derived.Deep.AppendLies
import Derived.Deep.RegionHeld3
import Derived.Test.YtjlfchnnhglbjaaGreatOpen
import Derived.Test.YtjlfchnnhglbjaaGreatRows
import Derived.WalkKit
import Derived.ProofKit
import Derived.OpenShut
import Derived.ShutString
import Derived.ChangeOld
import Derived.ChangeSlices
import Derived.ChangeArms
import Derived.Below

/- The walk of TableOrder. -/
set_option linter.unusedVariables false
set_option linter.unusedSimpArgs false
namespace Go.Proofs.YtjlfchnnhglbjaaGreat
open Go.RowKit Go.Lib Go.Sort Go.Maps Go.WideMaps

/-- texts of documents that the model can hold -/
def SzL (l : List Dc) : Prop := ∀ d ∈ l, d.loc.length ≤ maxLen ∧ ∀ x ∈ d.items, x.path.length ≤ maxLen
theorem cutD_len (l : List Dc) : (cutD l).length ≤ 12 := by unfold cutD; rw [List.length_map, List.length_take]; omega
theorem cutD_mem {l : List Dc} {d : Dc} (h : d ∈ cutD l) : ∃ c ∈ l, d = cutDoc c := by
  obtain ⟨c, hc, rfl⟩ := List.mem_map.1 h
  exact ⟨c, List.mem_of_mem_take hc, rfl⟩
theorem cutD_40 {l : List Dc} {d : Dc} (h : d ∈ cutD l) : d.items.length ≤ 40 := by
  obtain ⟨c, _, rfl⟩ := cutD_mem h
  show (c.items.take 40).length ≤ 40
  rw [List.length_take]; omega
theorem costD_le' : ∀ (l : List Dc) (k : Nat), (∀ d ∈ l, d.items.length ≤ k) → costD l ≤ (4 * k + 1) * l.length
  | [], k, h => Nat.zero_le _
  | d :: r, k, h => by
    have h1 := h d (List.mem_cons_self ..)
    have ih := costD_le' r k (fun x hx => h x (List.mem_cons_of_mem _ hx))
    rw [costD, List.length_cons, Nat.mul_succ]
    omega
theorem sz_cut {l : List Dc} (h : SzL l) : SzL (cutD l) := by
  intro d hd
  obtain ⟨c, hc, rfl⟩ := cutD_mem hd
  exact ⟨(h c hc).1, fun x hx => (h c hc).2 x (List.mem_of_mem_take hx)⟩
theorem szD_of {l : List Dc} (h : SzL l) (h12 : l.length ≤ 1000) (h40 : ∀ d ∈ l, d.items.length ≤ 1000) : SzD l := by
  refine ⟨h, ?_⟩
  have := costD_le' l 1000 h40
  have h2 : (4 * 1000 + 1) * l.length ≤ 4001 * 1000 := Nat.mul_le_mul_left _ h12
  unfold maxLen
  omega
theorem sz_turn {l : List Dc} {k : Nat} (h : SzL l) : SzL (turnD l k) := by
  intro d hd
  obtain ⟨c, hc, rfl⟩ := turn_mem.1 hd
  exact ⟨(h c hc).1, fun x hx => (h c hc).2 x (dupI_mem.1 hx)⟩
theorem szT_of {l : List Dc} (h : SzL l) (hz : (newF l).1.err = 0) : SzT (newF l).2 := by
  obtain ⟨_, h2, h3, h4⟩ := docs_inv l 0 Inv.zero TbOk.zero hz
  rw [List.nil_append, List.nil_append] at h3
  refine ⟨fun s hs => ?_, fun r hr => ?_⟩
  · obtain ⟨d, hd, _, rfl⟩ := nms_mem.1 ((h3.names s).1 hs)
    exact (h d hd).1
  · obtain ⟨l', x, hx, _, e⟩ := (h3.paths r.path).1 (h4.rp r hr)
    obtain ⟨d, hd, y, hy, e2⟩ := evs_mem.1 hx
    cases e2
    rw [← e]; exact (h d hd).2 _ hy
theorem als_len {l : List Dc} (hz : (newF l).1.err = 0) (hl : (evs l).length ≤ 1000) : (newF l).2.als.length ≤ 1000 := by
  obtain ⟨_, h2, h3, h4⟩ := docs_inv l 0 Inv.zero TbOk.zero hz
  rw [List.nil_append, List.nil_append] at h3
  have := nodup_le ((newF l).2.als.map (·.path)) ((evs l).map fun e => e.2.path) h4.als (fun p hp => by
    obtain ⟨r, hr, rfl⟩ := List.mem_map.1 hp
    obtain ⟨l', x, hx, _, e, _⟩ := (h3.als r.path r.text).1 (by
      have := als_find h4 hr
      rw [this]; rfl)
    exact List.mem_map.2 ⟨(l', x), hx, e⟩)
  rw [List.length_map, List.length_map] at this
  omega
theorem rot_get {L : List Dc} {i k : Nat} (hi : i < L.length) (hk : k < L.length) : (L.drop k ++ L.take k)[i]? = L[(i + k) % L.length]? := by
  by_cases h : i + k < L.length
  · rw [List.getElem?_append_left (by rw [List.length_drop]; omega), List.getElem?_drop, Nat.mod_eq_of_lt h, Nat.add_comm]
  · rw [List.getElem?_append_right (by rw [List.length_drop]; omega), List.length_drop, List.getElem?_take, if_pos (by omega)]
    have : (i + k) % L.length = i + k - L.length := by
      rw [Nat.mod_eq_sub_mod (by omega), Nat.mod_eq_of_lt (by omega)]
    rw [this]
    congr 1
    omega
theorem u64_mod (turn : Int) {n : Nat} (hn : 0 < n) : ∃ k : Nat, (IntKind.u64.wrap turn).tmod (n : Int) = (k : Int) ∧ k < n := by
  have h0 : 0 ≤ IntKind.u64.wrap turn := by
    simp only [IntKind.wrap]
    exact Int.emod_nonneg _ (by decide)
  have h1 := Int.tmod_nonneg (n : Int) h0
  have h2 := Int.tmod_lt_of_pos (IntKind.u64.wrap turn) (show (0 : Int) < (n : Int) by omega)
  exact ⟨((IntKind.u64.wrap turn).tmod (n : Int)).toNat, by omega, by omega⟩
theorem wrap_small (n : Int) (h0 : 0 ≤ n) (h1 : n < 1000) : IntKind.i64.wrap n = n := by
  rw [IntKind.wrap_i64]; omega
theorem nat_tmod (i k n : Nat) : ((i : Int) + (k : Int)).tmod (n : Int) = (((i + k) % n : Nat) : Int) := by
  rw [← Int.natCast_add]
  exact (Int.ofNat_tmod (i + k) n).symm
/-- while the documents are turned -/
structure TurnSt (w W : World) (R : List Dc) (n : Nat) (v : Value) (zs : List (Dc × (Option Addr × Nat))) : Prop where
  eq : zs.map (·.1) = (R.take n).map dupD
  own : OwnL encD 27 W w.heap.size v zs
  each : ∀ z ∈ zs, OwnL encI 35 W w.heap.size (.slice z.2.1 z.1.items.length z.2.2) z.1.items
  bel : Below w.heap.size w W
section
variable {w W W' : World} {R : List Dc} {n : Nat} {v v' : Value} {zs : List (Dc × (Option Addr × Nat))}
theorem TurnSt.below (h : TurnSt w W R n v zs) (hb : Below W.heap.size W W') : TurnSt w W' R n v zs :=
  ⟨h.eq, h.own.below hb, fun z hz => (h.each z hz).below hb, h.bel.then hb⟩
theorem TurnSt.len (h : TurnSt w W R n v zs) (hn : n ≤ R.length) : zs.length = n := by
  have := congrArg List.length h.eq
  rw [List.length_map, List.length_map, List.length_take] at this
  omega
theorem TurnSt.push (h : TurnSt w W R n v zs) {z : Dc × (Option Addr × Nat)} (hn : n < R.length) (he : z.1 = dupD (R[n]'hn)) (hz : OwnL encI 35 W w.heap.size (.slice z.2.1 z.1.items.length z.2.2) z.1.items) (o : OwnL encD 27 W' w.heap.size v' (zs ++ [z])) (gr : W.grownBy W' v.ownBlock) : TurnSt w W' R (n + 1) v' (zs ++ [z]) := by
  refine ⟨by
    rw [List.map_append, h.eq, List.take_succ_eq_append_getElem hn, List.map_append]
    show _ ++ [z.1] = _ ++ [dupD _]
    rw [he], o, fun x hx => ?_, h.bel.grown gr h.bel.size (fun k hk => (World.ownsRow.lt h.own k hk).1)⟩
  rcases List.mem_append.1 hx with hx | hx
  · exact World.ownsRow.kept (h.each x hx) gr (ne_kinds (h.each x hx) h.own (by decide))
  · rw [List.mem_singleton.1 hx]
    exact World.ownsRow.kept hz gr (ne_kinds hz h.own (by decide))
end
/-- a store into a box of another kind leaves a table -/
theorem TbP.set3 {B0 : Nat} {W : World} {pt b : Nat} {t : Tb} {cs : Array Value} (h : TbP B0 W pt t) (hw : W.heap[b]? = some (.cells cs 30 (0, 0))) (x y z : Value) : TbP B0 (P3 W b x y z) pt t := by
  obtain ⟨bv, ba, bn, bp, N, V, ⟨⟨a1, a2, a3, a4, a5, a6, a7, a8, a9, a10⟩, lo, h3⟩⟩ := h
  have hm : ∀ {α : Type} {E : El α} {k n : Nat} {L : List (Str × α)}, OwnE E W k n L → OwnE E (P3 W b x y z) k n L := fun {α E k n L} ho => by
    refine ho.block (P3_kept x y z ?_)
    rintro rfl
    obtain ⟨es, ck, e⟩ := ho.isMap
    rw [hw] at e; cases e
  refine ⟨bv, ba, bn, bp, N, V, ⟨⟨?_, hm a2, hm a3, hm a4, hm a5, fun p hp => hm (a6 p hp), a7, a8, a9, a10⟩, lo, h3⟩⟩
  rw [P3_kept x y z (by rintro rfl; rw [hw] at a1; have := Option.some.inj a1; injection this with _ e _; revert e; decide)]
  exact a1
/-- two items more, at a step of a region that draws -/
theorem step_pushI {w : World} {ops : Array Oper} {o : Oper} {a : Act} {K : Act → World → Prop} {Q : Exit → Act → World → Prop} {E : Prop} (hgd : o.guard = none) (s x : Operand)
    (ho : o.op = .call { callee := .builtin .append, args := #[s, x], argTypes := #[25, 25] })
    (B : Nat) (v : Value) (l : List Itm) (y : Itm) (cs : Array Value) (hcs : cs.toList = flatL encI [y, y]) (hs : a.eval s = v) (hown : OwnL encI 35 w B v l) (g : Nat) (hg : w.heap[g]? = some (.cells cs 35 (0, 0))) (hx : a.eval x = .slice (some ⟨g, 0, none⟩) 2 2) (hl : l.length ≤ 1000) (hB : B ≤ w.heap.size)
    (h : ∀ v' w', OwnL encI 35 w' B v' (l ++ [y, y]) → w.grownBy w' v.ownBlock → K (a.put o.dst v') w') :
    if Region.wanted o (yielded ops a.tmps) = true then Oper.wp Tryz.prog o a w K Q else E := by
  obtain ⟨i0, hi, hz0, hz1, hz2⟩ := info_parts infoItm'
  refine step_append_lies w hgd s x 25 ho B 35 i0 _ 5 64 Tryz.underlying25 hi hz0 hz1 hz2 rfl (by decide) v l.length (flatL encI l) hs hown ⟨g, 0, none⟩ 2 2 (flatL encI [y, y]) hx (flatL_len encI _) (fun j u hu => ?_) (fun u hu => ?_) (by decide) (by unfold maxLen; omega) (by omega) hB _ rfl ?_
  · have hadd : ((⟨g, 0, none⟩ : Addr).add j) = ⟨g, j, none⟩ := by
      unfold Addr.add
      split
      · next e => subst e; rfl
      · simp
    rw [hadd, cell_of_row _ _ _ _ _ _ hg, ← Array.getElem?_toList, hcs]
    exact hu
  · obtain ⟨y', _, hy⟩ := List.mem_flatMap.1 hu
    exact encI.one y' u hy
  · intro g2 cap w' own gr _ _
    exact h _ w' (own_cast own (by simp) (by rw [flatL_append])) gr
theorem dup_step {l : List Itm} {m : Nat} (hm : m < l.length) : (l.reverse.take (m + 1)).flatMap (fun x => [x, x]) = (l.reverse.take m).flatMap (fun x => [x, x]) ++ [l[l.length - 1 - m]'(by omega), l[l.length - 1 - m]'(by omega)] := by
  have hr : m < l.reverse.length := by rw [List.length_reverse]; exact hm
  rw [List.take_succ_eq_append_getElem hr, List.flatMap_append, List.getElem_reverse]
  simp
set_option maxRecDepth 100000 in
set_option maxHeartbeats 8000000 in
theorem order_any' (turn : Int) (w : World) (l : List Dc) (v : Value) (hd : RdD w v l) (hs : SzL l) :
    Calls Tryz.prog 6 #[v, .int .i64 turn] w fun e w' => e = .returned (.bool true) ∧ Below w.heap.size w w' := by
  have WK := hid (fun W => twakes_any W)
  have CU := hid (fun W h => cut_any W l v h)
  have HD := hid hd
  have HSZ := hid (sz_cut hs)
  have H12 := hid (cutD_len l)
  have H40 := hid (fun d h => cutD_40 (l := l) (d := d) h)
  clear hd hs
  go_enter Tryz.func6, Tryz.ntmps6
  go_wp2_with fail
  refine (WK.out w).mono ?_
  rintro e w1 ⟨rfl, hb1⟩
  have HD1 := hid (show RdD w1 v l from by
    obtain ⟨zs, h1, h2, h3⟩ := HD.out
    exact ⟨zs, h1, h2.below hb1, fun z hz => (h3 z hz).below hb1⟩)
  have B1 := hid hb1
  clear hb1
  go_wp2_with fail
  refine (CU.out w1 HD1.out).mono ?_
  rintro e w2 ⟨v2, rfl, hod, hb2⟩
  have B2 := hid (B1.out.then hb2)
  have OD := hid hod
  clear hb2 hod HD HD1 B1
  generalize cutD l = D at *
  obtain ⟨a2, c2, rfl, _⟩ := OD.out.slice
  have SZD := hid (szD_of HSZ.out (by have := H12.out; omega) (fun d h => by have := H40.out d h; omega))
  have NW := hid (tnew_any w2 D _ OD.out.rd SZD.out)
  go_wp2_with fail
  refine NW.out.mono ?_
  rintro x w3 ⟨hb3, hx⟩
  have OD3 := hid (OD.out.below hb3)
  have B3 := hid (B2.out.then hb3)
  clear hb3 B2 OD NW WK CU
  rcases hx with ⟨hz, Bt, bv, ba, bn, bp, N, V, rfl, tb, ok⟩ | ⟨hz, rfl⟩
  · have T3 := hid (show TbP w2.heap.size w3 Bt (newF D).2 from ⟨bv, ba, bn, bp, N, V, tb⟩)
    have HZ := hid hz
    have OK3 := hid ok
    clear hz tb ok
    go_upto_region 5 with fail
    have HA := hid (show Below w3.heap.size w3 (w3.alloc (.cells #[.int .i64 0, .int .i64 0, .int .i64 0] 30)) from (Below.refl _ _).alloc (Nat.le_refl _) _)
    have F4 := hid (heap_alloc_new w3 (.cells #[.int .i64 0, .int .i64 0, .int .i64 0] 30))
    generalize w3.alloc (.cells #[.int .i64 0, .int .i64 0, .int .i64 0] 30) = w4 at *
    have T4 := hid (T3.out.below HA.out)
    have OD4 := hid (OD3.out.below HA.out)
    have B4 := hid (B3.out.then HA.out)
    have HWB := hid (show w.heap.size ≤ w3.heap.size from B3.out.size)
    have HWL := hid (lt_of_block F4.out)
    clear T3 OD3 B3 HA
    generalize w3.heap.size = Wb at *
    obtain ⟨z0, z1, z2, zl⟩ := box3_cells F4.out
    have HRD := hid OD4.out.rd
    obtain ⟨ao, cp, e, hln, h63, hcell⟩ := HRD.out.cells
    cases e
    have HCELL := hid hcell
    clear hcell HRD
    go_wp2_with fail
    obtain ⟨k, hk⟩ : ∃ k, k = ((IntKind.u64.wrap turn).tmod (D.length : Int)).toNat := ⟨_, rfl⟩
    have HK := hid hk
    clear hk
    go_loopg [7, 41] D.length (fun g v7 v41 W => ∃ (i : Nat) (zs : List (Dc × (Option Addr × Nat))), i ≤ D.length ∧ D.length ≤ i + g ∧ v41 = .int .i64 i ∧ TurnSt w4 W (D.drop k ++ D.take k) i v7 zs)
    case atStart => exact ⟨0, [], Nat.zero_le _, by omega, rfl, rfl, OwnL.nil _ _ _ _, fun z hz => (by cases hz), Below.refl _ _⟩
    case round =>
      obtain ⟨i, zs, hi, hg, rfl, st⟩ := hrel
      rename World => w5
      obtain ⟨go, hgo⟩ : ∃ go, go = gk := ⟨_, rfl⟩
      have HGO := hid hgo
      have HG := hid (show D.length ≤ i + go by rw [hgo]; exact hg)
      have ST5 := hid st
      clear hg st hgo z0 z1 z2 zl
      by_cases hlt : i < D.length
      · have hni : (i : Int) < (D.length : Int) := by omega
        have hn0 : (0 : Int) ≤ (i : Int) := by omega
        have h12 : (D.length : Int) ≤ 12 := by have := H12.out; omega
        have hd0 : (0 : Int) < (D.length : Int) := by omega
        have hdn : ¬ (D.length : Int) = 0 := by omega
        obtain ⟨k', hk1, hk2⟩ := u64_mod turn (show 0 < D.length by omega)
        obtain rfl : k' = k := by rw [HK.out, hk1]; rfl
        have hkc : (k' : Int) ≤ 12 := by have := H12.out; omega
        have hkz : (0 : Int) ≤ (k' : Int) := by omega
        have hq1 := nat_tmod i k' D.length
        have hqn : (i + k') % D.length < D.length := Nat.mod_lt _ (by omega)
        have HROT := hid (rot_get hlt hk2)
        obtain ⟨p, o, a, c, rfl, hp, q0, q1, q2, hits⟩ := HCELL.out _ hqn
        rw [List.getElem?_eq_getElem hqn] at HROT
        have HL4 := hid (H40.out _ (List.getElem_mem hqn))
        have HITS := hid hits
        obtain ⟨d, hdd⟩ : ∃ d, d = D[(i + k') % D.length]'hqn := ⟨_, rfl⟩
        rw [← hdd] at q0 q1 q2 HROT HL4 HITS
        clear hits hdd
        generalize (i + k') % D.length = q at *
        have hqi : (q : Int) < (D.length : Int) := by omega
        have hqz : (0 : Int) ≤ (q : Int) := by omega
        have r0 := (ST5.out.bel.cell (p := ⟨p, o + q * 3, none⟩) hp).trans q0
        have r1 := (ST5.out.bel.cell (p := ⟨p, o + q * 3 + 1, none⟩) hp).trans q1
        have r2 := (ST5.out.bel.cell (p := ⟨p, o + q * 3 + 2, none⟩) hp).trans q2
        have hp2 : p < w5.heap.size := Nat.lt_of_lt_of_le hp ST5.out.bel.size
        clear q0 q1 q2 hdn hd0
        obtain ⟨loc, supp, its⟩ := d
        simp only at r0 r1 r2 HITS HL4
        go_upto_region 12 with fail
        have HA5 := hid (show Below w5.heap.size w5 (w5.alloc (.cells #[.string ⟨loc.toArray⟩, .bool supp, .slice a its.length c] 27)) from (Below.refl _ _).alloc (Nat.le_refl _) _)
        have F6 := hid (heap_alloc_new w5 (.cells #[.string ⟨loc.toArray⟩, .bool supp, .slice a its.length c] 27))
        generalize w5.alloc (.cells #[.string ⟨loc.toArray⟩, .bool supp, .slice a its.length c] 27) = w6 at *
        have ST6 := hid (ST5.out.below HA5.out)
        have HLT := hid (fun k (e : u7.ownBlock = some k) => (World.ownsRow.lt ST5.out.own k e).2)
        have HLE := hid (fun z (hz : z ∈ zs) k (e : (Value.slice z.2.1 z.1.items.length z.2.2).ownBlock = some k) => (World.ownsRow.lt (ST5.out.each z hz) k e).2)
        have HDB := hid (show w4.heap.size ≤ w5.heap.size from ST5.out.bel.size)
        obtain ⟨_, hkc, hk63, hic⟩ := RdI.cells HITS.out
        have HIC := hid hic
        clear r0 r1 r2 hp2 ST5 HA5 hic hni h12 hkc hkz hq1 hqi hqz HITS
        generalize w5.heap.size = Db at *
        obtain ⟨d0, d1, d2, dl⟩ := box3_cells F6.out
        go_wp2_with fail
        go_loopg [10, 62] its.length (fun g v10 v62 W => ∃ m : Nat, m ≤ its.length ∧ its.length ≤ m + g ∧ v62 = .int .i64 m ∧ OwnL encI 35 W w6.heap.size v10 ((its.reverse.take m).flatMap fun x => [x, x]) ∧ Below w6.heap.size w6 W)
        case atStart => exact ⟨0, Nat.zero_le _, by omega, rfl, OwnL.nil _ _ _ _, Below.refl _ _⟩
        case round =>
          obtain ⟨m, hm, hg, rfl, ho, hb⟩ := hrel
          rename World => w7
          have HG2 := hid hg
          have HO := hid ho
          have HB7 := hid hb
          have F7 := hid ((hb.block _ (lt_of_block F6.out)).trans F6.out)
          clear hg ho hb d0 d1 d2 dl
          obtain ⟨d0, d1, d2, dl⟩ := box3_cells F7.out
          by_cases hlt2 : m < its.length
          · have hj : its.length - 1 - m < its.length := by omega
            have HDUP := hid (dup_step hlt2)
            obtain ⟨p2, o2, rfl, hp2, q0, q1, q2, q3, q4⟩ := HIC.out _ hj
            obtain ⟨x, hx⟩ : ∃ x, x = its[its.length - 1 - m]'hj := ⟨_, rfl⟩
            have hpp : p2 < w6.heap.size := Nat.lt_of_lt_of_le hp2 ST6.out.bel.size
            have BC := ST6.out.bel
            rw [← hx] at q0 q1 q2 q3 q4 HDUP
            clear hx
            obtain ⟨j, hjj⟩ : ∃ j, j = its.length - 1 - m := ⟨_, rfl⟩
            rw [← hjj] at q0 q1 q2 q3 q4 hj
            have hji : (its.length : Int) - 1 - (m : Int) = (j : Int) := by omega
            have r0 := (HB7.out.cell (p := ⟨p2, o2 + j * 5, none⟩) hpp).trans ((BC.cell (p := ⟨p2, o2 + j * 5, none⟩) hp2).trans q0)
            have r1 := (HB7.out.cell (p := ⟨p2, o2 + j * 5 + 1, none⟩) hpp).trans ((BC.cell (p := ⟨p2, o2 + j * 5 + 1, none⟩) hp2).trans q1)
            have r2 := (HB7.out.cell (p := ⟨p2, o2 + j * 5 + 2, none⟩) hpp).trans ((BC.cell (p := ⟨p2, o2 + j * 5 + 2, none⟩) hp2).trans q2)
            have r3 := (HB7.out.cell (p := ⟨p2, o2 + j * 5 + 3, none⟩) hpp).trans ((BC.cell (p := ⟨p2, o2 + j * 5 + 3, none⟩) hp2).trans q3)
            have r4 := (HB7.out.cell (p := ⟨p2, o2 + j * 5 + 4, none⟩) hpp).trans ((BC.cell (p := ⟨p2, o2 + j * 5 + 4, none⟩) hp2).trans q4)
            have hpl : p2 < w7.heap.size := Nat.lt_of_lt_of_le hpp HB7.out.size
            have hmi : (m : Int) < (its.length : Int) := by omega
            have hm0 : (0 : Int) ≤ (m : Int) := by omega
            have hl40 : (its.length : Int) ≤ 40 := by have := HL4.out; omega
            have hj0 : (0 : Int) ≤ (j : Int) := by omega
            have hjl : (j : Int) < (its.length : Int) := by omega
            have hw1 := wrap_small ((its.length : Int) - 1) (by omega) (by omega)
            have hw3 := wrap_small (j : Int) (by omega) (by omega)
            have hw2 := (wrap_small ((its.length : Int) - 1 - (m : Int)) (by omega) (by omega)).trans hji
            clear q0 q1 q2 q3 q4 hjj BC
            obtain ⟨xp, xv, xal, xd, xa⟩ := x
            simp only at r0 r1 r2 r3 r4
            go_wp2_with fail
            have HR8 := hid (heap_alloc_new w7.drew (.cells #[.string ⟨xp.toArray⟩, .string ⟨xv.toArray⟩, .bool xal, .string ⟨xd.toArray⟩, .int .i64 xa, .string ⟨xp.toArray⟩, .string ⟨xv.toArray⟩, .bool xal, .string ⟨xd.toArray⟩, .int .i64 xa] 35))
            have HB8' := hid (show Below w6.heap.size w6 (w7.drew.alloc (.cells #[.string ⟨xp.toArray⟩, .string ⟨xv.toArray⟩, .bool xal, .string ⟨xd.toArray⟩, .int .i64 xa, .string ⟨xp.toArray⟩, .string ⟨xv.toArray⟩, .bool xal, .string ⟨xd.toArray⟩, .int .i64 xa] 35)) from HB7.out.drew.alloc HB7.out.size _)
            have HO8' := hid (show OwnL encI 35 (w7.drew.alloc (.cells #[.string ⟨xp.toArray⟩, .string ⟨xv.toArray⟩, .bool xal, .string ⟨xd.toArray⟩, .int .i64 xa, .string ⟨xp.toArray⟩, .string ⟨xv.toArray⟩, .bool xal, .string ⟨xd.toArray⟩, .int .i64 xa] 35)) w6.heap.size u10 ((its.reverse.take m).flatMap fun x => [x, x]) from (show OwnL encI 35 w7.drew w6.heap.size u10 _ from HO.out.below (Below.refl _ _).drew).below ((Below.refl _ _).alloc (Nat.le_refl _) _))
            have HSZ8 := hid HB8'.out.size
            have HLN := hid (show ((its.reverse.take m).flatMap fun x => [x, x]).length ≤ 80 by rw [two_len, List.length_take, List.length_reverse]; have := HL4.out; omega)
            have KS := hid (fun (W : World) (gr : (w7.drew.alloc (.cells #[.string ⟨xp.toArray⟩, .string ⟨xv.toArray⟩, .bool xal, .string ⟨xd.toArray⟩, .int .i64 xa, .string ⟨xp.toArray⟩, .string ⟨xv.toArray⟩, .bool xal, .string ⟨xd.toArray⟩, .int .i64 xa] 35)).grownBy W u10.ownBlock) => show Below w6.heap.size w6 W from HB8'.out.grown gr HSZ8.out (fun q hq => (World.ownsRow.lt HO8'.out q hq).1))
            generalize hpre : ((its.reverse.take m).flatMap fun x => [x, x]) = pre at *
            have HPRE := hid hpre
            clear hpre
            have HCC := hid (fun (W : World) (hb : Below w6.heap.size w6 W) => show W.cell? ⟨Db, 2, none⟩ = some (.slice (some ⟨p2, o2, none⟩) its.length c) ∧ W.cell? ⟨p2, o2 + j * 5, none⟩ = some (.string ⟨xp.toArray⟩) ∧ W.cell? ⟨p2, o2 + j * 5 + 1, none⟩ = some (.string ⟨xv.toArray⟩) ∧ W.cell? ⟨p2, o2 + j * 5 + 2, none⟩ = some (.bool xal) ∧ W.cell? ⟨p2, o2 + j * 5 + 3, none⟩ = some (.string ⟨xd.toArray⟩) ∧ W.cell? ⟨p2, o2 + j * 5 + 4, none⟩ = some (.int .i64 xa) from
              ⟨((hb.cell (p := ⟨Db, 2, none⟩) (lt_of_block F6.out)).trans (HB7.out.cell (p := ⟨Db, 2, none⟩) (lt_of_block F6.out)).symm).trans d2, ((hb.cell (p := ⟨p2, o2 + j * 5, none⟩) hpp).trans (HB7.out.cell (p := ⟨p2, o2 + j * 5, none⟩) hpp).symm).trans r0, ((hb.cell (p := ⟨p2, o2 + j * 5 + 1, none⟩) hpp).trans (HB7.out.cell (p := ⟨p2, o2 + j * 5 + 1, none⟩) hpp).symm).trans r1, ((hb.cell (p := ⟨p2, o2 + j * 5 + 2, none⟩) hpp).trans (HB7.out.cell (p := ⟨p2, o2 + j * 5 + 2, none⟩) hpp).symm).trans r2, ((hb.cell (p := ⟨p2, o2 + j * 5 + 3, none⟩) hpp).trans (HB7.out.cell (p := ⟨p2, o2 + j * 5 + 3, none⟩) hpp).symm).trans r3, ((hb.cell (p := ⟨p2, o2 + j * 5 + 4, none⟩) hpp).trans (HB7.out.cell (p := ⟨p2, o2 + j * 5 + 4, none⟩) hpp).symm).trans r4⟩)
            have S0 := HCC.out w7.drew HB7.out.drew
            have S1 := HCC.out _ HB8'.out
            clear r0 r1 r2 r3 r4 d0 d1 d2 dl
            go_region_held3 (fun W => W.cell? ⟨Db, 2, none⟩ = some (.slice (some ⟨p2, o2, none⟩) its.length c) ∧ W.cell? ⟨p2, o2 + j * 5, none⟩ = some (.string ⟨xp.toArray⟩) ∧ W.cell? ⟨p2, o2 + j * 5 + 1, none⟩ = some (.string ⟨xv.toArray⟩) ∧ W.cell? ⟨p2, o2 + j * 5 + 2, none⟩ = some (.bool xal) ∧ W.cell? ⟨p2, o2 + j * 5 + 3, none⟩ = some (.string ⟨xd.toArray⟩) ∧ W.cell? ⟨p2, o2 + j * 5 + 4, none⟩ = some (.int .i64 xa)) (first | with_reducible assumption | exact HCC.out _ (HB7.out.drew.alloc HB7.out.size _) | go_keep)
              (first | (refine step_pushI rfl (.tmp 65) (.tmp 86) rfl w6.heap.size _ pre ⟨xp, xv, xal, xd, xa⟩ _ (by exact rfl) rfl HO8'.out w7.drew.heap.size HR8.out rfl (Nat.le_trans HLN.out (by decide)) HSZ8.out ?_; intro v9 w9 own9 gr9; have HO9 := hid own9; have HB9 := hid (KS.out w9 gr9); have hs3 := HCC.out w9 HB9.out; clear own9 gr9))
            all_goals
              clear S0 S1 hs3
              go_wp2_with fail
              go_roundg (gk - 1)
            all_goals first
              | (have := HG2.out; omega)
              | exact ⟨m + 1, by omega, by have := HG2.out; omega, by simp, by rw [HDUP.out]; exact HO9.out, HB9.out⟩
          · have hml : m = its.length := by omega
            have hmi : ¬ (m : Int) < (its.length : Int) := by omega
            have HDI := hid (show (its.reverse.take m).flatMap (fun x => [x, x]) = dupI its by rw [hml, List.take_of_length_le (by rw [List.length_reverse]; exact Nat.le_refl _)]; rfl)
            rw [HDI.out] at HO
            have HLD := hid (show (dupI its).length ≤ 80 by rw [dupI_len]; have := HL4.out; omega)
            have ST7 := hid (ST6.out.below HB7.out)
            have HO7 := hid (show OwnL encI 35 w7 w4.heap.size u10 (dupI its) from row_mono HO.out ST6.out.bel.size)
            obtain ⟨a7, c7, rfl, _⟩ := HO7.out.slice
            obtain ⟨df0, df1, df2⟩ := box3_frozen F7.out
            clear hml HDI HO HB7 ST6
            have HDD := hid (show dupD ⟨loc, supp, its⟩ = ⟨loc, supp, dupI its⟩ from rfl)
            generalize dupI its = its2 at *
            go_upto_region 19 with fail
            have F8 := hid (show (w7.setCell ⟨Db, 2, none⟩ (.slice a7 its2.length c7)).heap[Db]? = some (.cells #[.string ⟨loc.toArray⟩, .bool supp, .slice a7 its2.length c7] 27 (0, 0)) by rw [heap_setCell_same _ _ _ _ _ _ F7.out]; simp)
            have HO8 := hid (show OwnL encI 35 (w7.setCell ⟨Db, 2, none⟩ (.slice a7 its2.length c7)) w4.heap.size (.slice a7 its2.length c7) its2 from own_set HO7.out (own_type HO7.out F7.out (by decide)) 2 _)
            have ST8 := hid (show TurnSt w4 (w7.setCell ⟨Db, 2, none⟩ (.slice a7 its2.length c7)) (D.drop k' ++ D.take k') i u7 zs from ⟨ST7.out.eq, own_set ST7.out.own (fun e => Nat.lt_irrefl _ (HLT.out _ e)) 2 _, fun z hz => own_set (ST7.out.each z hz) (fun e => Nat.lt_irrefl _ (HLE.out z hz _ e)) 2 _, ST7.out.bel.setCell (p := ⟨Db, 2, none⟩) HDB.out _⟩)
            clear d0 d1 d2 dl df0 df1 df2 ST7 HO7 F7
            generalize w7.setCell ⟨Db, 2, none⟩ (.slice a7 its2.length c7) = w8 at *
            obtain ⟨d0, d1, d2, dl⟩ := box3_cells F8.out
            have hRl : (D.drop k' ++ D.take k').length = D.length := by rw [List.length_append, List.length_drop, List.length_take]; omega
            have HRL := hid hRl
            have HIR := hid (show i < (D.drop k' ++ D.take k').length by rw [hRl]; exact hlt)
            clear hRl
            have HLN := hid (show zs.length ≤ 12 by rw [ST8.out.len (Nat.le_of_lt HIR.out)]; have := H12.out; omega)
            have HB2 := hid ST8.out.bel.size
            have HEQ := hid (show (⟨loc, supp, its2⟩ : Dc) = dupD ((D.drop k' ++ D.take k')[i]'HIR.out) by
              have h := HROT.out
              rw [List.getElem?_eq_getElem HIR.out] at h
              rw [Option.some.inj h, HDD.out])
            go_wp2_with (at_builtin; refine wpList_pushL (E := encD) rfl (.tmp 91) (.tmp 93) rfl Tryz.underlying23 infoDoc' rfl (by decide) w4.heap.size _ zs (⟨loc, supp, its2⟩, (a7, c7)) rfl ST8.out.own rfl (by have := HLN.out; unfold maxLen; omega) (by have := HLN.out; omega) HB2.out #[.string ⟨loc.toArray⟩, .bool supp, .slice a7 its2.length c7] rfl ?_; intro v9 w9 own9 gr9 mv9; have ST9 := hid (ST8.out.push HIR.out HEQ.out HO8.out own9 gr9); clear own9 gr9 mv9)
            go_roundg (go - 1)
            case measure => have := HG.out; have := HGO.out; omega
            case rel => exact ⟨i + 1, _, by omega, by have := HG.out; omega, by simp, ST9.out⟩
      · have hni : ¬ (i : Int) < (D.length : Int) := by omega
        have HIL := hid (show i = D.length by omega)
        have HTM := hid (show ((D.drop k ++ D.take k).take i).map dupD = turnD D k by
          rw [HIL.out, List.take_of_length_le (by rw [List.length_append, List.length_drop, List.length_take]; omega)]; rfl)
        have HRT := hid (show RdD w5 u7 (turnD D k) from ⟨zs, by rw [ST5.out.eq, HTM.out], ST5.out.own.rd, fun z hz => (ST5.out.each z hz).rd⟩)
        obtain ⟨g1, g2, g3, g4⟩ := turn_same (k := k) HZ.out H12.out (fun d h => H40.out d h)
        have HT80 := hid (show ∀ d ∈ turnD D k, d.items.length ≤ 80 from fun d hd => by
          obtain ⟨c, hc, rfl⟩ := turn_mem.1 hd
          show (dupI c.items).length ≤ 80
          rw [dupI_len]; have := H40.out c hc; omega)
        have NW := hid (tnew_any w5 _ _ HRT.out (szD_of (sz_turn HSZ.out) (by rw [turn_len]; have := H12.out; omega) (fun d h => by have := HT80.out d h; omega)))
        have TA := hid (fun W B1 p2 (h1 : TbP w2.heap.size W Bt (newF D).2) (h2 : TbP B1 W p2 (newF (turnD D k)).2) => tables_any _ _ W Bt p2 _ _ h1 h2 g3 g4 (szT_of HSZ.out HZ.out) (als_len HZ.out (by have := evs_len D 40 (fun d h => H40.out d h); have := H12.out; omega)) (als_len (by rw [g1]; rfl) (by have := evs_len (turnD D k) 80 HT80.out; rw [turn_len] at this; have := H12.out; omega)) g2)
        have HG1 := hid g1
        have T5 := hid (T4.out.below ST5.out.bel)
        have F5 := hid ((ST5.out.bel.block _ (lt_of_block F4.out)).trans F4.out)
        have B5 := hid (B4.out.then ST5.out.bel)
        clear g1 g2 g3 g4
        go_wp2_with fail
        refine NW.out.mono ?_
        rintro x w6 ⟨hb6, hx⟩
        rcases hx with ⟨_, Bt2, bv2, ba2, bn2, bp2, N', V', rfl, tb2, ok2⟩ | ⟨h, _⟩
        · have T6 := hid (T5.out.below hb6)
          have U6 := hid (show TbP w5.heap.size w6 Bt2 (newF (turnD D k)).2 from ⟨bv2, ba2, bn2, bp2, N', V', tb2⟩)
          have F6 := hid ((hb6.block _ (lt_of_block F5.out)).trans F5.out)
          have B6 := hid (B5.out.then hb6)
          obtain ⟨z0, z1, z2, zl⟩ := box3_cells F6.out
          obtain ⟨zf0, zf1, zf2⟩ := box3_frozen F6.out
          clear hb6 tb2 ok2 NW T5 F5 B5
          go_upto_region 22 with fail
          have F7 := hid (P3_row (.int .i64 0) (.int .i64 0) (.int .i64 0) F6.out)
          have T7 := hid (T6.out.set3 F6.out (.int .i64 0) (.int .i64 0) (.int .i64 0))
          have U7 := hid (U6.out.set3 F6.out (.int .i64 0) (.int .i64 0) (.int .i64 0))
          have B7 := hid (P3_below (.int .i64 0) (.int .i64 0) (.int .i64 0) B6.out HWB.out)
          clear z0 z1 z2 zl zf0 zf1 zf2 T6 U6 F6 B6
          change Code.wp _ _ _ _ (P3 w6 Wb (.int .i64 0) (.int .i64 0) (.int .i64 0))
          generalize P3 w6 Wb (.int .i64 0) (.int .i64 0) (.int .i64 0) = w7 at *
          obtain ⟨z0, z1, z2, zl⟩ := box3_cells F7.out
          go_wp2_with fail
          refine (TA.out _ _ _ T7.out U7.out).mono ?_
          rintro e w8 ⟨rfl, hb8⟩
          have B8 := hid (B7.out.then hb8)
          clear hb8
          go_wp2_with fail
          exact bodyPost_ret (v := .bool true) (by simp [results, Tryz.results6, go_sem]) rfl ⟨rfl, B8.out⟩
        · exact absurd (by rw [HG1.out]; rfl) h
  · obtain ⟨f1, f2⟩ := docs_file D 0 Tb.zero hz
    change ((0 : Nat) : Int) ≤ (newF D).1.file at f1
    change (newF D).1.file < ((0 + D.length : Nat) : Int) at f2
    have hne : (((newF D).1.err : Int) != 0) = true := by rw [bne_iff_ne]; omega
    generalize ((newF D).1.err : Int) = E at *
    generalize (newF D).1.file = F at *
    generalize (newF D).1.at' = A at *
    have f1' : (0 : Int) ≤ F := by omega
    have f2' : F < (D.length : Int) := by omega
    clear hz f1 f2
    go_upto_region 5 with fail
    have HA := hid (show Below w3.heap.size w3 (w3.alloc (.cells #[.int .i64 E, .int .i64 F, .int .i64 A] 30)) from (Below.refl _ _).alloc (Nat.le_refl _) _)
    have F4 := hid (heap_alloc_new w3 (.cells #[.int .i64 E, .int .i64 F, .int .i64 A] 30))
    generalize w3.alloc (.cells #[.int .i64 E, .int .i64 F, .int .i64 A] 30) = w4 at *
    obtain ⟨z0, z1, z2, zl⟩ := box3_cells F4.out
    go_wp2_with fail
    exact bodyPost_ret (v := .bool true) (by simp [results, Tryz.results6, go_sem]) rfl ⟨rfl, B3.out.then HA.out⟩
end Go.Proofs.YtjlfchnnhglbjaaGreat

/- Arguments that came in: documents. -/
set_option linter.unusedVariables false
set_option linter.unusedSimpArgs false
namespace Go.Proofs.YtjlfchnnhglbjaaGreat
open Go.RowKit Go.Lib Go.Sort Go.ChangeShapes Go.WideShapes

theorem list3 {α : Type} {cs : List α} (h : cs.length = 3) : ∃ c0 c1 c2, cs = [c0, c1, c2] := by
  match cs, h with
  | [c0, c1, c2], _ => exact ⟨c0, c1, c2, rfl⟩
theorem list5 {α : Type} {cs : List α} (h : cs.length = 5) : ∃ c0 c1 c2 c3 c4, cs = [c0, c1, c2, c3, c4] := by
  match cs, h with
  | [c0, c1, c2, c3, c4], _ => exact ⟨c0, c1, c2, c3, c4, rfl⟩
section
variable {H : Type} {enc : TypeId × Value → H} {w : World} {base : Nat} {spare : Nat → Bool} {held : Bool}
theorem open_rdL {α : Type} {k : Nat} (E : Enc α k) (hk : 0 < k) {tS tE : TypeId} (hu : Tryz.prog.underlying tS = some (.slice tE)) (hC : Tryz.prog.cellsOf tE = k) (P : α → Prop)
    (hel : ∀ (n : Nat) (cs : List Value) (y : DataW H × List MemPlace), DataW.trod enc Tryz.prog w base spare held n tE cs = some y → ∃ x, cs = E.enc x ∧ P x) {fuel : Nat} {cs : List Value} {x : DataW H × List MemPlace} (h : DataW.trod enc Tryz.prog w base spare held fuel tS cs = some x) :
    ∃ v l, cs = [v] ∧ RdL E w v l ∧ ∀ x ∈ l, P x := by
  rcases DataW.trod_slice hu h with ⟨rfl, _⟩ | ⟨a, len, cap, elems, rest, n, _, rfl, hx, hb, hl, hm, hlen, hel2, _, _⟩
  · exact ⟨_, [], rfl, RdL.nil E w, fun p hp => by cases hp⟩
  · rw [hC] at hel2
    have key : ∀ i : Fin len, ∃ p : α, w.cells? base (a.add (i.1 * k)) k = some (E.enc p) ∧ P p := by
      intro i
      have hy := hel2 i.1 i.2
      rw [List.getElem?_eq_getElem (by omega), Option.bind_eq_some_iff] at hy
      obtain ⟨cs', hcs, hy'⟩ := hy
      obtain ⟨p, rfl, hp⟩ := hel _ _ _ hy'
      exact ⟨p, hcs, hp⟩
    have hf := fun i => (key i).choose_spec
    obtain ⟨f, hfe⟩ : ∃ f : Fin len → α, f = fun i => (key i).choose := ⟨_, rfl⟩
    have hf2 : ∀ i, w.cells? base (a.add (i.1 * k)) k = some (E.enc (f i)) ∧ P (f i) := by rw [hfe]; exact hf
    have hlen2 : (List.ofFn f).length = len := List.length_ofFn
    refine ⟨.slice (some a) len cap, List.ofFn f, rfl, ⟨some a, cap, by rw [hlen2], ⟨by rw [hlen2]; exact hl, by rw [hlen2]; unfold maxLen at hm; omega, fun e => by cases e⟩, fun hne => ?_⟩, fun p hp => ?_⟩
    · have h0 : 0 < len := by
        rcases Nat.eq_zero_or_pos len with h0 | h0
        · subst h0; simp at hne
        · exact h0
      have c0 := (World.cells?_some (hf2 ⟨0, h0⟩).1).2.2 0 (by omega)
      rw [List.getElem?_eq_getElem (show 0 < (E.enc (f ⟨0, h0⟩)).length by rw [E.len]; exact hk)] at c0
      rw [show (a.add (0 * k)).add 0 = a from by unfold Addr.add; simp] at c0
      obtain ⟨hs, hlt⟩ := spot_of_cell c0
      obtain ⟨b, off, sp⟩ := a
      simp only at hs hlt
      subst hs
      refine ⟨b, off, rfl, hlt, fun j i y hj hy => ?_⟩
      rw [hlen2] at hj
      have hc := (World.cells?_some (hf2 ⟨j, hj⟩).1)
      have hi : i < k := by have := (List.getElem?_eq_some_iff.1 hy).1; rwa [E.len] at this
      have hci := hc.2.2 i hi
      rw [add_of, add_of] at hci
      rw [hci]
      rw [List.getElem_ofFn] at hy
      exact hy
    · obtain ⟨i, rfl⟩ := (List.mem_ofFn).1 hp
      exact (hf2 i).2
set_option maxRecDepth 100000 in
theorem open_item (n : Nat) (cs : List Value) (y : DataW H × List MemPlace) (h : DataW.trod enc Tryz.prog w base spare held n 35 cs = some y) : ∃ x : Itm, cs = encI.enc x ∧ x.path.length ≤ maxLen := by
  have hC : Tryz.prog.cellsOf 35 = 5 := by kernel_rfl
  have hD : Tryz.prog.cellsOf 9 = 1 := by kernel_rfl
  have hE : Tryz.prog.cellsOf 4 = 1 := by kernel_rfl
  have hF : Tryz.prog.cellsOf 3 = 1 := by kernel_rfl
  obtain ⟨xs, m, _, _, hl, hlen, hfs⟩ := DataW.trod_struct Tryz.underlying35 h
  rw [hC] at hl
  obtain ⟨c0, c1, c2, c3, c4, rfl⟩ := list5 hl
  have g0 := hfs 0 _ rfl
  have g1 := hfs 1 _ rfl
  have g2 := hfs 2 _ rfl
  have g3 := hfs 3 _ rfl
  have g4 := hfs 4 _ rfl
  have hx : xs.length = 5 := hlen
  rw [List.getElem?_eq_getElem (by omega)] at g0 g1 g2 g3 g4
  simp only [List.getElem_toArray, List.getElem_cons_zero, List.getElem_cons_succ, hD, hE, hF, List.drop_zero, List.drop_succ_cons, List.take_succ_cons, List.take_zero] at g0 g1 g2 g3 g4
  obtain ⟨s0, e0, _, z0⟩ := DataW.trod_string Tryz.underlying9 g0
  obtain ⟨s1, e1, _, z1⟩ := DataW.trod_string Tryz.underlying9 g1
  obtain ⟨b2, e2, _⟩ := DataW.trod_bool Tryz.underlying4 g2
  obtain ⟨s3, e3, _, z3⟩ := DataW.trod_string Tryz.underlying9 g3
  obtain ⟨i4, e4, _, _⟩ := DataW.trod_int Tryz.underlying3 g4
  obtain rfl := List.head_eq_of_cons_eq e0
  obtain rfl := List.head_eq_of_cons_eq e1
  obtain rfl := List.head_eq_of_cons_eq e2
  obtain rfl := List.head_eq_of_cons_eq e3
  obtain rfl := List.head_eq_of_cons_eq e4
  refine ⟨⟨s0.data.toList, s1.data.toList, b2, s3.data.toList, i4⟩, ?_, z0⟩
  rw [S_of s0, S_of s1, S_of s3]; rfl
set_option maxRecDepth 100000 in
theorem open_doc (n : Nat) (cs : List Value) (y : DataW H × List MemPlace) (h : DataW.trod enc Tryz.prog w base spare held n 27 cs = some y) : ∃ z : Dc × (Option Addr × Nat), cs = encD.enc z ∧ (z.1.loc.length ≤ maxLen ∧ ∀ x ∈ z.1.items, x.path.length ≤ maxLen) ∧ RdL encI w (.slice z.2.1 z.1.items.length z.2.2) z.1.items := by
  have hC : Tryz.prog.cellsOf 27 = 3 := by kernel_rfl
  have hD : Tryz.prog.cellsOf 9 = 1 := by kernel_rfl
  have hE : Tryz.prog.cellsOf 4 = 1 := by kernel_rfl
  have hF : Tryz.prog.cellsOf 25 = 1 := by kernel_rfl
  have hI : Tryz.prog.cellsOf 35 = 5 := by kernel_rfl
  obtain ⟨xs, m, _, _, hl, hlen, hfs⟩ := DataW.trod_struct Tryz.underlying27 h
  rw [hC] at hl
  obtain ⟨c0, c1, c2, rfl⟩ := list3 hl
  have g0 := hfs 0 _ rfl
  have g1 := hfs 1 _ rfl
  have g2 := hfs 2 _ rfl
  have hx : xs.length = 3 := hlen
  rw [List.getElem?_eq_getElem (by omega)] at g0 g1 g2
  simp only [List.getElem_toArray, List.getElem_cons_zero, List.getElem_cons_succ, hD, hE, hF, List.drop_zero, List.drop_succ_cons, List.take_succ_cons, List.take_zero] at g0 g1 g2
  obtain ⟨s0, e0, _, z0⟩ := DataW.trod_string Tryz.underlying9 g0
  obtain ⟨b1, e1, _⟩ := DataW.trod_bool Tryz.underlying4 g1
  obtain ⟨v2, l2, e2, r2, p2⟩ := open_rdL encI (by decide) Tryz.underlying25 hI (fun x => x.path.length ≤ maxLen) open_item g2
  obtain rfl := List.head_eq_of_cons_eq e0
  obtain rfl := List.head_eq_of_cons_eq e1
  obtain rfl := List.head_eq_of_cons_eq e2
  obtain ⟨ao, cp, rfl, _⟩ := r2.slice
  refine ⟨(⟨s0.data.toList, b1, l2⟩, (ao, cp)), ?_, ⟨z0, p2⟩, r2⟩
  rw [S_of s0]; rfl
set_option maxRecDepth 100000 in
theorem open_docs {v : Value} {d : DataW H} {p : List MemPlace} {r : Reach} {b0 : Nat} (hv : Value.okWide Tryz.prog w r b0 23 v) (h : DataW.Trod enc Tryz.prog w base spare held 23 v d p) : ∃ l : List Dc, RdD w v l ∧ SzL l := by
  have hC : Tryz.prog.cellsOf 27 = 3 := by kernel_rfl
  obtain ⟨fuel, hf⟩ := h
  obtain ⟨v', zs, e, hr, hp⟩ := open_rdL encD (by decide) Tryz.underlying23 hC (fun z => (z.1.loc.length ≤ maxLen ∧ ∀ x ∈ z.1.items, x.path.length ≤ maxLen) ∧ RdL encI w (.slice z.2.1 z.1.items.length z.2.2) z.1.items) open_doc hf
  obtain ⟨ao, cp, rfl, _⟩ := hr.slice
  have hvv : v = .slice ao zs.length cp := by
    obtain ⟨a0, n0, c0, rfl⟩ := okWide_slice Tryz.underlying23 hv
    exact List.head_eq_of_cons_eq e
  subst hvv
  exact ⟨zs.map (·.1), ⟨zs, rfl, hr, fun z hz => (hp z hz).2⟩, fun d hd => by
    obtain ⟨z, hz, rfl⟩ := List.mem_map.1 hd
    exact (hp z hz).1⟩
end
end Go.Proofs.YtjlfchnnhglbjaaGreat

/- TableOrder: the order of documents and items, and what is said twice, is no matter to the table that they make, for all documents and every turn. No condition. -/
namespace Go.Proofs.YtjlfchnnhglbjaaGreat
open Go.ChangeShapes Go.WideShapes Go.ChangeAt Go.RowKit
open Go.ChangeMaps (open_string shut_string)
set_option linter.unusedVariables false

theorem own : ownKnob Tryz.prog.godebug = none := by kernel_rfl
theorem laidOut : laidOutB Tryz.prog = true := by kernel_rfl

set_option maxRecDepth 100000 in
theorem lifted (os : Os) (started : os.Started) (H : Type) (enc : TypeId × Value → H) :
    ReturnsInHanded {} Tryz.checked os 6 .any (Rows.tableOrderSpec.pre6 enc Tryz.prog Tryz.f6 Rows.tableOrderRow.domain false) (Rows.tableOrderSpec.post enc Tryz.prog Tryz.f6 false true false false) := by
  refine returnsInHanded_of_change (C := Tryz.checked) own started (by kernel_rfl) Tryz.func6
    (ChangeSpec.witness6 (enc := enc) (C := Tryz.checked) false ⟨#[], #[.slice none 0 0, .int .i64 0], []⟩ 8 (by kernel_rfl) (by kernel_rfl) (by kernel_rfl) (by kernel_rfl)) ?_
  intro W base args ds gs before hval0 hW hcnd _
  have hval : ∀ (j : Nat) t v, Tryz.f6.params[j]? = some t → args[j]? = some v → Value.okWide Tryz.prog W .any base t v := hval0
  have hW' := hW
  obtain ⟨p, q, hA0, hV, rfl, hfz, hnd⟩ := hW
  have hA : DataW.TrodAll enc Tryz.prog W 0 (fun _ => true) true Tryz.f6.params.toList args.toList ds p := hA0
  rw [Tryz.params6] at hA hval
  obtain ⟨v0, vs0, d0, ds0, p0, q0, hargs, rfl, rfl, h0, r0⟩ := trodAll_cons hA
  obtain ⟨v1, vs1, d1, ds1, p1, q1, rfl, rfl, rfl, h1, r1⟩ := trodAll_cons r0
  obtain ⟨rfl, rfl, rfl⟩ := trodAll_nil r1
  obtain rfl : args = #[v0, v1] := by cases args; simp_all
  obtain ⟨rfl, rfl⟩ := trodVars_none hV
  obtain ⟨l, rd, sz⟩ := open_docs (hval 0 23 v0 rfl rfl) h0
  obtain ⟨n, rfl, rfl, rfl, wn⟩ := open_int Tryz.underlying3 (hval 1 3 v1 rfl rfl) h1
  have k0 := h0
  have lt0 : ∀ x ∈ p0, x.block < W.heap.size := by obtain ⟨m, hm⟩ := k0; exact DataW.trod_lt m _ _ _ hm
  clear hA0 hval0
  refine (order_any' n W l v0 rd sz).mono fun e W' ⟨he, bel⟩ => ?_
  subst he
  exact ⟨_, rfl, _, _, _, [], _, [], hW', trodAll_mk1 (shut_bool Tryz.underlying4 _), (trodAll_cons_mk (Below.trod laidOut (by kernel_rfl) (of_decide_eq_true (by kernel_rfl)) k0 bel lt0) (trodAll_cons_mk (shut_int Tryz.underlying3 wn) trodAll_mk0)), rfl, bel.frame _, fun h => by cases h⟩

theorem over : Rows.tableOrderRow.holds Tryz.pinned (OpenSpec.ofChange Rows.tableOrderSpec) :=
  OpenClaim.holds_of_wide 6 Tryz.f6 rfl rfl rfl rfl rfl rfl rfl ⟨rfl, rfl, rfl, rfl, rfl⟩ rfl rfl rfl rfl rfl (by kernel_rfl) Tryz.func6 (by kernel_rfl)
    (of_decide_eq_true (by kernel_rfl)) (by unfold Func.isWrapper; first | (rw [if_pos (by decide +kernel)]; kernel_rfl) | (rw [if_neg (by decide +kernel)]; exact ⟨rfl, rfl⟩))
    (fun os started H enc _ => lifted os started H enc)

/-- the statement -/
theorem tableOrder : Rows.TableOrderSaid := over
#print axioms tableOrder
end Go.Proofs.YtjlfchnnhglbjaaGreat
