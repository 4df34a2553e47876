/- The contracts of slices.Clone at []api.Pair and of likely.with. -/
import Derived.Test.YtlmgmifaknlolaaGreatLkRead
import Derived.Test.YtlmgmifaknlolaaGreatBoxes
import Derived.Test.YtlmgmifaknlolaaGreatLikelyR
set_option linter.unusedVariables false
set_option linter.unusedSimpArgs false
namespace Go.Proofs.YtlmgmifaknlolaaGreat
open Go.RowKit Go.Lib Go.Sort

theorem ownP_mono {w : World} {B C : Nat} {v : Value} {l : List (Str × Str)} (h : OwnP w B v l) (hc : C ≤ B) : OwnP w C v l := by
  unfold OwnP World.ownsRow at *
  refine ⟨h.1, ?_⟩
  rcases h.2 with h | ⟨g, cap, cur, h1, h2, h3⟩
  · exact Or.inl h
  · exact Or.inr ⟨g, cap, cur, h1, Nat.le_trans hc h2, h3⟩
theorem ownS_mono {w : World} {B C : Nat} {v : Value} {l : List Str} (h : OwnS w B v l) (hc : C ≤ B) : OwnS w C v l := by
  unfold OwnS World.ownsRow at *
  refine ⟨h.1, ?_⟩
  rcases h.2 with h | ⟨g, cap, cur, h1, h2, h3⟩
  · exact Or.inl h
  · exact Or.inr ⟨g, cap, cur, h1, Nat.le_trans hc h2, h3⟩

theorem cloneS_any (w : World) (v : Value) (l : List Str) (h : RdS w v l) (hl : l.length ≤ 1000) :
    Calls Tryz.prog 52 #[v] w fun e w' => ∃ v', e = .returned v' ∧ OwnS w' w.heap.size v' l ∧ Below w.heap.size w w' := by
  obtain ⟨ao, cp, rfl, hl1, hr⟩ := h
  cases ao with
  | none =>
    obtain ⟨rfl, rfl⟩ := hl1.2 rfl
    exact (Tryz.slices_Clone_string_nil 0 0 w).mono fun e w' hh => ⟨_, hh.1, World.ownsRow_nil _ _ _ _, hh.2 ▸ Below.refl _ _⟩
  | some a =>
    by_cases hn : l = []
    · subst hn
      exact (Tryz.slices_Clone_string_zero a cp w).mono fun e w' ⟨v', h1, h2, _, h3⟩ => ⟨v', h1, h2, h3⟩
    · obtain ⟨b, off, he, hlt, hc⟩ := hr hn
      obtain rfl : a = ⟨b, off, none⟩ := Option.some.inj he
      have lb : (bas l).length = l.length := by simp [bas]
      refine (Tryz.slices_Clone_string b off l.length cp (bas l) w (by rw [lb]; exact Nat.le_refl _) (by omega) (fun j hj => ?_)).mono fun e w' ⟨v', h1, h2, _, h3⟩ => ⟨v', h1, ?_, h3⟩
      · rw [lb] at hj
        rw [bas_get l j hj]
        exact hc j _ (List.getElem?_eq_getElem hj)
      · refine own_cast h2 rfl ?_
        rw [List.take_of_length_le (by rw [lb]; exact Nat.le_refl _)]
        simp [bas, S]

set_option maxRecDepth 100000 in
set_option maxHeartbeats 8000000 in
theorem cloneP_zero (a : Addr) (c : Nat) (w : World) :
    Calls Tryz.prog 53 #[.slice (some a) 0 c] w fun e w' => ∃ v', e = .returned v' ∧ OwnP w' w.heap.size v' [] ∧ Below w.heap.size w w' := by
  obtain ⟨i0, hi, hz0, hz1, hz2⟩ := info_parts infoP
  have q22 : ∀ (w : World) (a : Option Addr) (n c n' c' : Nat), (binOp .eql 22 (.slice a n c) (.slice none n' c')).run Tryz.prog w = .ok (.bool a.isNone) w := fun w a n c n' c' => Lib.run_eql_slice_nil w _ _ a n c n' c' Tryz.underlying22
  go_enter Tryz.func53, Tryz.ntmps53
  go_wp2_with (at_builtin; refine wpList_append_own _ rfl _ _ 22 rfl w.heap.size 42 i0 (.agg #[.string ⟨#[]⟩, .string ⟨#[]⟩]) 2 32 Tryz.underlying22 hi hz0 hz1 hz2 rfl (by decide) _ _ _ rfl (World.ownsRow_made w #[] 0 (Nat.le_refl _) (Nat.zero_le _) (by simp)) a 0 c [] rfl rfl (by intro j u hj; simp at hj) (by intro u hu; cases hu) (by unfold maxLen; omega) (by omega) (by simp) ?_)
  intro v' w1 hown hgrow hnil
  go_wp2
  go_ret
  refine ⟨v', rfl, by simpa [OwnP, flat2] using hown, ?_⟩
  exact ((Below.refl _ w).alloc (Nat.le_refl _) _).grown hgrow (by simp) (by intro k hk; simp [Value.ownBlock] at hk; omega)

theorem cloneP_any (w : World) (v : Value) (l : List (Str × Str)) (h : RdP w v l) (hl : l.length ≤ 1000) :
    Calls Tryz.prog 53 #[v] w fun e w' => ∃ v', e = .returned v' ∧ OwnP w' w.heap.size v' l ∧ Below w.heap.size w w' := by
  obtain ⟨ao, cp, rfl, hl1, hr⟩ := h
  cases ao with
  | none =>
    obtain ⟨rfl, rfl⟩ := hl1.2 rfl
    have hc := AnyE.slices_Clone_nil Tryz.clPair 0 0 w
    change Calls Tryz.prog 53 _ _ _ at hc
    exact hc.mono fun e w' hh => ⟨_, hh.1, World.ownsRow_nil _ _ _ _, hh.2 ▸ Below.refl _ _⟩
  | some a =>
    by_cases hn : l = []
    · subst hn
      exact cloneP_zero a cp w
    · obtain ⟨b, off, he, hlt, hc⟩ := hr hn
      obtain rfl : a = ⟨b, off, none⟩ := Option.some.inj he
      obtain ⟨i0, hi, hz0, hz1, hz2⟩ := info_parts infoP
      have hcall := AnyE.slices_Clone Tryz.clPair i0 (.agg #[.string ⟨#[]⟩, .string ⟨#[]⟩]) 2 32 hi hz0 hz1 hz2 rfl (by decide) Tryz.sizeOf42 b off l.length cp (flat2 l) w (flat2_len l) (by unfold maxLen; omega) (by omega) (fun j u hu => by
          have hj := (List.getElem?_eq_some_iff.1 hu).1
          rw [flat2_len] at hj
          have hjm : j / 2 < l.length := by omega
          have hdm : j / 2 * 2 + j % 2 = j := by omega
          have h2 := flat2_get l (j / 2) (j % 2) hjm (by omega)
          rw [hdm, hu] at h2
          have := hc (j / 2) (j % 2) u hjm h2.symm
          rw [show off + j / 2 * 2 + j % 2 = off + j by omega] at this
          exact this) (fun u hu => by
          obtain ⟨x, _, hx⟩ := List.mem_flatMap.1 hu
          simp only [enc2, List.mem_cons, List.not_mem_nil, or_false] at hx
          rcases hx with rfl | rfl <;> rfl)
      change Calls Tryz.prog 53 _ _ _ at hcall
      exact hcall.mono fun e w' ⟨v', h1, h2, _, h3⟩ => ⟨v', h1, h2, h3⟩

/-- a tag whose lists the call owns -/
def OwnT (w : World) (B : Nat) (v : Value) (t : Tg) : Prop := ∃ vv kv, v = .agg (tagCells t vv kv) ∧ OwnS w B vv t.vars ∧ OwnP w B kv t.keys
theorem OwnT.rd {w : World} {B : Nat} {v : Value} {t : Tg} (h : OwnT w B v t) : RdT w v t := by
  obtain ⟨vv, kv, hv, h1, h2⟩ := h
  exact ⟨vv, kv, hv, h1.rd, h2.rd⟩
theorem OwnT.zero (w : World) (B : Nat) : OwnT w B (.agg (tagCells Tg.zero vnil vnil)) Tg.zero := ⟨vnil, vnil, rfl, World.ownsRow_nil _ _ _ _, World.ownsRow_nil _ _ _ _⟩

theorem cell_far {W : World} {B b i j : Nat} {x : Value} (h : B ≠ b) : (W.setCell ⟨B, j, none⟩ x).cell? ⟨b, i, none⟩ = W.cell? ⟨b, i, none⟩ := World.cell?_setCell_far W _ _ x h
/-- the boxes of with -/
structure WithSt (w : World) (t : Tg) (p : Pt) (vv kv : Value) (W : World) : Prop where
  bt : W.heap[w.heap.size]? = some (.cells (tagCells t vv kv) 25 (0, 0))
  bp : W.heap[w.heap.size + 1]? = some (.cells #[S p.l, S p.s, S p.r] 57 (0, 0))
  br : W.heap[w.heap.size + 1 + 1]? = some (.cells (tagCells Tg.zero vnil vnil) 25 (0, 0))
  rs : RdS W vv t.vars
  rp : RdP W kv t.keys
  bel : Below w.heap.size w W
theorem WithSt.below {w W W' : World} {t : Tg} {p : Pt} {vv kv : Value} (h : WithSt w t p vv kv W) (hb : Below W.heap.size W W') : WithSt w t p vv kv W' :=
  ⟨(hb.block _ (lt_of_block h.bt)).trans h.bt, (hb.block _ (lt_of_block h.bp)).trans h.bp, (hb.block _ (lt_of_block h.br)).trans h.br, h.rs.below hb, h.rp.below hb, h.bel.then hb⟩
theorem WithSt.c0 {w W : World} {t : Tg} {p : Pt} {vv kv : Value} (h : WithSt w t p vv kv W) : W.cell? ⟨w.heap.size + 1, 0, none⟩ = some (.string ⟨p.l.toArray⟩) := (box3_cells h.bp).1
theorem WithSt.c1 {w W : World} {t : Tg} {p : Pt} {vv kv : Value} (h : WithSt w t p vv kv W) : W.cell? ⟨w.heap.size + 1, 1, none⟩ = some (.string ⟨p.s.toArray⟩) := (box3_cells h.bp).2.1
theorem WithSt.c2 {w W : World} {t : Tg} {p : Pt} {vv kv : Value} (h : WithSt w t p vv kv W) : W.cell? ⟨w.heap.size + 1, 2, none⟩ = some (.string ⟨p.r.toArray⟩) := (box3_cells h.bp).2.2
theorem WithSt.t3 {w W : World} {t : Tg} {p : Pt} {vv kv : Value} (h : WithSt w t p vv kv W) : W.cell? ⟨w.heap.size, 3, none⟩ = some vv := by rw [cell_of_row _ _ _ _ _ _ h.bt]; rfl
theorem WithSt.t4 {w W : World} {t : Tg} {p : Pt} {vv kv : Value} (h : WithSt w t p vv kv W) : W.cell? ⟨w.heap.size, 4, none⟩ = some kv := by rw [cell_of_row _ _ _ _ _ _ h.bt]; rfl
theorem WithSt.z0 {w W : World} {t : Tg} {p : Pt} {vv kv : Value} (h : WithSt w t p vv kv W) : W.cell? ⟨w.heap.size + 1 + 1, 0, none⟩ = some (.string ⟨#[]⟩) := (box_cells h.br).1
theorem WithSt.z1 {w W : World} {t : Tg} {p : Pt} {vv kv : Value} (h : WithSt w t p vv kv W) : W.cell? ⟨w.heap.size + 1 + 1, 1, none⟩ = some (.string ⟨#[]⟩) := (box_cells h.br).2.1
theorem WithSt.z2 {w W : World} {t : Tg} {p : Pt} {vv kv : Value} (h : WithSt w t p vv kv W) : W.cell? ⟨w.heap.size + 1 + 1, 2, none⟩ = some (.string ⟨#[]⟩) := (box_cells h.br).2.2.1
theorem WithSt.z3 {w W : World} {t : Tg} {p : Pt} {vv kv : Value} (h : WithSt w t p vv kv W) : W.cell? ⟨w.heap.size + 1 + 1, 3, none⟩ = some (.slice none 0 0) := (box_cells h.br).2.2.2.1
theorem WithSt.z4 {w W : World} {t : Tg} {p : Pt} {vv kv : Value} (h : WithSt w t p vv kv W) : W.cell? ⟨w.heap.size + 1 + 1, 4, none⟩ = some (.slice none 0 0) := (box_cells h.br).2.2.2.2
theorem WithSt.fz {w W : World} {t : Tg} {p : Pt} {vv kv : Value} (h : WithSt w t p vv kv W) (j : Nat) : W.frozen? ⟨w.heap.size + 1 + 1, j, none⟩ = false := frozen_of_row W _ j _ _ h.br
theorem WithSt.lr {w W : World} {t : Tg} {p : Pt} {vv kv : Value} (h : WithSt w t p vv kv W) : w.heap.size + 1 + 1 < W.heap.size := lt_of_block h.br
theorem WithSt.lp {w W : World} {t : Tg} {p : Pt} {vv kv : Value} (h : WithSt w t p vv kv W) : w.heap.size + 1 < W.heap.size := lt_of_block h.bp
theorem WithSt.lt {w W : World} {t : Tg} {p : Pt} {vv kv : Value} (h : WithSt w t p vv kv W) : w.heap.size < W.heap.size := lt_of_block h.bt
theorem WithSt.start {w : World} {t : Tg} {p : Pt} {vv kv : Value} (hs : RdS w vv t.vars) (hp : RdP w kv t.keys) :
    WithSt w t p vv kv (((w.alloc (.cells (tagCells t vv kv) 25)).alloc (.cells #[S p.l, S p.s, S p.r] 57)).alloc (.cells (tagCells Tg.zero vnil vnil) 25)) := by
  have s1 : (w.alloc (.cells (tagCells t vv kv) 25)).heap.size = w.heap.size + 1 := by simp
  have s2 : ((w.alloc (.cells (tagCells t vv kv) 25)).alloc (.cells #[S p.l, S p.s, S p.r] 57)).heap.size = w.heap.size + 1 + 1 := by simp
  have hb := (((Below.refl w.heap.size w).alloc (Nat.le_refl _) (.cells (tagCells t vv kv) 25)).alloc (by rw [s1]; omega) (.cells #[S p.l, S p.s, S p.r] 57)).alloc (by rw [s2]; omega) (.cells (tagCells Tg.zero vnil vnil) 25)
  refine ⟨?_, ?_, ?_, hs.below hb, hp.below hb, hb⟩
  · exact (heap_alloc_old _ _ (by rw [s2]; omega)).trans ((heap_alloc_old _ _ (by rw [s1]; omega)).trans (heap_alloc_new w _))
  · refine (heap_alloc_old _ _ (by rw [s2]; omega)).trans ?_
    have := heap_alloc_new (w.alloc (.cells (tagCells t vv kv) 25)) (.cells #[S p.l, S p.s, S p.r] 57)
    rw [s1] at this
    exact this
  · have := heap_alloc_new ((w.alloc (.cells (tagCells t vv kv) 25)).alloc (.cells #[S p.l, S p.s, S p.r] 57)) (.cells (tagCells Tg.zero vnil vnil) 25)
    rw [s2] at this
    exact this

set_option maxRecDepth 100000 in
set_option maxHeartbeats 16000000 in
theorem with_any (w : World) (v : Value) (t : Tg) (p : Pt) (h : RdT w v t) (hv : t.vars.length ≤ 1000) (hk : t.keys.length ≤ 1000) :
    Calls Tryz.prog 32 #[v, ptV p] w fun e w' => ∃ v', e = .returned v' ∧ OwnT w' w.heap.size v' (withT t p) ∧ Below w.heap.size w w' := by
  obtain ⟨vv, kv, rfl, hS, hP⟩ := h
  have ST0 := hid (WithSt.start (p := p) hS hP)
  have CS := hid (fun W (st : WithSt w t p vv kv W) => ((cloneS_any W vv t.vars st.rs hv).mono (by
      rintro e w' ⟨v1, rfl, o1, hb⟩
      have o2 := ownS_mono o1 (show w.heap.size + 3 ≤ W.heap.size by have := st.lr; omega)
      obtain ⟨an, cn, rfl⟩ := own_sliceS o2
      have s2 := st.below hb
      exact ⟨an, cn, rfl, o2, fun v2 h2 => own_below h2 hb, s2, s2.z0, s2.z1, s2.z2, s2.z3, s2.z4, s2.fz 0, s2.fz 1, s2.fz 2, s2.fz 3, s2.fz 4, s2.lr, s2.c0, s2.c1, s2.c2, s2.t3, s2.t4⟩) : Calls Tryz.prog 52 #[vv] W fun e w' => ∃ an cn, e = .returned (.slice an t.vars.length cn) ∧ OwnS w' (w.heap.size + 3) (.slice an t.vars.length cn) t.vars ∧ (∀ v2, OwnP W (w.heap.size + 3) v2 t.keys → OwnP w' (w.heap.size + 3) v2 t.keys) ∧ WithSt w t p vv kv w' ∧ w'.cell? ⟨w.heap.size + 1 + 1, 0, none⟩ = some (.string ⟨#[]⟩) ∧ w'.cell? ⟨w.heap.size + 1 + 1, 1, none⟩ = some (.string ⟨#[]⟩) ∧ w'.cell? ⟨w.heap.size + 1 + 1, 2, none⟩ = some (.string ⟨#[]⟩) ∧ w'.cell? ⟨w.heap.size + 1 + 1, 3, none⟩ = some (.slice none 0 0) ∧ w'.cell? ⟨w.heap.size + 1 + 1, 4, none⟩ = some (.slice none 0 0) ∧ w'.frozen? ⟨w.heap.size + 1 + 1, 0, none⟩ = false ∧ w'.frozen? ⟨w.heap.size + 1 + 1, 1, none⟩ = false ∧ w'.frozen? ⟨w.heap.size + 1 + 1, 2, none⟩ = false ∧ w'.frozen? ⟨w.heap.size + 1 + 1, 3, none⟩ = false ∧ w'.frozen? ⟨w.heap.size + 1 + 1, 4, none⟩ = false ∧ w.heap.size + 1 + 1 < w'.heap.size ∧ w'.cell? ⟨w.heap.size + 1, 0, none⟩ = some (.string ⟨p.l.toArray⟩) ∧ w'.cell? ⟨w.heap.size + 1, 1, none⟩ = some (.string ⟨p.s.toArray⟩) ∧ w'.cell? ⟨w.heap.size + 1, 2, none⟩ = some (.string ⟨p.r.toArray⟩) ∧ w'.cell? ⟨w.heap.size, 3, none⟩ = some vv ∧ w'.cell? ⟨w.heap.size, 4, none⟩ = some kv))
  have CP := hid (fun W (st : WithSt w t p vv kv W) => ((cloneP_any W kv t.keys st.rp hk).mono (by
      rintro e w' ⟨v2, rfl, o1, hb⟩
      have o2 := ownP_mono o1 (show w.heap.size + 3 ≤ W.heap.size by have := st.lr; omega)
      obtain ⟨an, cn, rfl⟩ := own_sliceP o2
      have s2 := st.below hb
      exact ⟨an, cn, rfl, o2, fun v1 h2 => own_below h2 hb, s2, s2.z0, s2.z1, s2.z2, s2.z3, s2.z4, s2.fz 0, s2.fz 1, s2.fz 2, s2.fz 3, s2.fz 4, s2.lr, s2.c0, s2.c1, s2.c2, s2.t3, s2.t4⟩) : Calls Tryz.prog 53 #[kv] W fun e w' => ∃ an cn, e = .returned (.slice an t.keys.length cn) ∧ OwnP w' (w.heap.size + 3) (.slice an t.keys.length cn) t.keys ∧ (∀ v1, OwnS W (w.heap.size + 3) v1 t.vars → OwnS w' (w.heap.size + 3) v1 t.vars) ∧ WithSt w t p vv kv w' ∧ w'.cell? ⟨w.heap.size + 1 + 1, 0, none⟩ = some (.string ⟨#[]⟩) ∧ w'.cell? ⟨w.heap.size + 1 + 1, 1, none⟩ = some (.string ⟨#[]⟩) ∧ w'.cell? ⟨w.heap.size + 1 + 1, 2, none⟩ = some (.string ⟨#[]⟩) ∧ w'.cell? ⟨w.heap.size + 1 + 1, 3, none⟩ = some (.slice none 0 0) ∧ w'.cell? ⟨w.heap.size + 1 + 1, 4, none⟩ = some (.slice none 0 0) ∧ w'.frozen? ⟨w.heap.size + 1 + 1, 0, none⟩ = false ∧ w'.frozen? ⟨w.heap.size + 1 + 1, 1, none⟩ = false ∧ w'.frozen? ⟨w.heap.size + 1 + 1, 2, none⟩ = false ∧ w'.frozen? ⟨w.heap.size + 1 + 1, 3, none⟩ = false ∧ w'.frozen? ⟨w.heap.size + 1 + 1, 4, none⟩ = false ∧ w.heap.size + 1 + 1 < w'.heap.size ∧ w'.cell? ⟨w.heap.size + 1, 0, none⟩ = some (.string ⟨p.l.toArray⟩) ∧ w'.cell? ⟨w.heap.size + 1, 1, none⟩ = some (.string ⟨p.s.toArray⟩) ∧ w'.cell? ⟨w.heap.size + 1, 2, none⟩ = some (.string ⟨p.r.toArray⟩) ∧ w'.cell? ⟨w.heap.size, 3, none⟩ = some vv ∧ w'.cell? ⟨w.heap.size, 4, none⟩ = some kv))
  obtain ⟨av, cv, rfl, _, _⟩ := hS
  obtain ⟨ak, ck, rfl, _, _⟩ := hP
  obtain ⟨pl, ps, pr⟩ := p
  obtain ⟨tl, ts, tr, tv, tk⟩ := t
  simp only [tagCells, S, vnil, ptV, Tg.zero] at ST0 CS CP hv hk ⊢
  go_enter Tryz.func32, Tryz.ntmps32
  go_upto_region 1 with (fail)
  generalize (((w.alloc (.cells #[.string ⟨tl.toArray⟩, .string ⟨ts.toArray⟩, .string ⟨tr.toArray⟩, .slice av tv.length cv, .slice ak tk.length ck] 25)).alloc (.cells #[.string ⟨pl.toArray⟩, .string ⟨ps.toArray⟩, .string ⟨pr.toArray⟩] 57)).alloc (.cells #[.string ⟨#[]⟩, .string ⟨#[]⟩, .string ⟨#[]⟩, .slice none 0 0, .slice none 0 0] 25)) = w0 at *
  have s0 := ST0.out
  have s0d : WithSt w ⟨tl, ts, tr, tv, tk⟩ ⟨pl, ps, pr⟩ (.slice av tv.length cv) (.slice ak tk.length ck) w0.drew := ⟨s0.bt, s0.bp, s0.br, s0.rs, s0.rp, s0.bel.drew⟩
  have S0 := (show ((fun W => W.cell? ⟨w.heap.size + 1, 0, none⟩ = some (.string ⟨pl.toArray⟩) ∧ W.cell? ⟨w.heap.size + 1, 1, none⟩ = some (.string ⟨ps.toArray⟩) ∧ W.cell? ⟨w.heap.size + 1, 2, none⟩ = some (.string ⟨pr.toArray⟩) ∧ W.cell? ⟨w.heap.size, 3, none⟩ = some (.slice av tv.length cv) ∧ W.cell? ⟨w.heap.size, 4, none⟩ = some (.slice ak tk.length ck))) w0.drew from ⟨s0d.c0, s0d.c1, s0d.c2, s0d.t3, s0d.t4⟩)
  simp only at S0
  clear s0
  have hn1 : w.heap.size + 1 + 1 ≠ w.heap.size + 1 := by omega
  have hn2 : w.heap.size + 1 + 1 ≠ w.heap.size := by omega
  go_region_held3 (fun W => W.cell? ⟨w.heap.size + 1, 0, none⟩ = some (.string ⟨pl.toArray⟩) ∧ W.cell? ⟨w.heap.size + 1, 1, none⟩ = some (.string ⟨ps.toArray⟩) ∧ W.cell? ⟨w.heap.size + 1, 2, none⟩ = some (.string ⟨pr.toArray⟩) ∧ W.cell? ⟨w.heap.size, 3, none⟩ = some (.slice av tv.length cv) ∧ W.cell? ⟨w.heap.size, 4, none⟩ = some (.slice ak tk.length ck)) (first | with_reducible assumption | simp [cell_far hn1, cell_far hn2, hsP]) (first
    | (go_at_call 52; (with_reducible refine (CS.out _ (by assumption)).mono ?_); rintro e wS ⟨a1, e1, rfl, oS, kS, sS, ys0, ys1, ys2, ys3, ys4, ys5, ys6, ys7, ys8, ys9, ys10, hsS⟩)
    | (go_at_call 53; (with_reducible refine (CP.out _ (by assumption)).mono ?_); rintro e wP ⟨a2, e2, rfl, oP, kP, sP, yp0, yp1, yp2, yp3, yp4, yp5, yp6, yp7, yp8, yp9, yp10, hsP⟩))
  have o1 := kP _ oS
  have hr := P5_row (.string ⟨pl.toArray⟩) (.string ⟨ps.toArray⟩) (.string ⟨pr.toArray⟩) (.slice a1 tv.length e1) (.slice a2 tk.length e2) sP.br
  have hw := P5_below (.string ⟨pl.toArray⟩) (.string ⟨ps.toArray⟩) (.string ⟨pr.toArray⟩) (.slice a1 tv.length e1) (.slice a2 tk.length e2) sP.bel (show w.heap.size ≤ w.heap.size + 1 + 1 by omega)
  have h1 := P5_own (.string ⟨pl.toArray⟩) (.string ⟨ps.toArray⟩) (.string ⟨pr.toArray⟩) (.slice a1 tv.length e1) (.slice a2 tk.length e2) o1 (b := w.heap.size + 1 + 1) (fun e => by have := (World.ownsRow.lt o1 _ e).1; omega)
  have h2 := P5_own (.string ⟨pl.toArray⟩) (.string ⟨ps.toArray⟩) (.string ⟨pr.toArray⟩) (.slice a1 tv.length e1) (.slice a2 tk.length e2) oP (b := w.heap.size + 1 + 1) (fun e => by have := (World.ownsRow.lt oP _ e).1; omega)
  go_wp2_with fail
  clear S0 CS CP oS kS sS kP ys0 ys1 ys2 ys3 ys4 ys5 ys6 ys7 ys8 ys9 ys10 yp0 yp1 yp2 yp3 yp4 yp5 yp6 yp7 yp8 yp9 yp10 hsS hsP
  change bodyPost _ _ _ _ _ (P5 wP (w.heap.size + 1 + 1) (.string ⟨pl.toArray⟩) (.string ⟨ps.toArray⟩) (.string ⟨pr.toArray⟩) (.slice a1 tv.length e1) (.slice a2 tk.length e2))
  generalize P5 wP (w.heap.size + 1 + 1) (.string ⟨pl.toArray⟩) (.string ⟨ps.toArray⟩) (.string ⟨pr.toArray⟩) (.slice a1 tv.length e1) (.slice a2 tk.length e2) = V at *
  obtain ⟨d0, d1, d2, d3, d4⟩ := box_cells hr
  refine bodyPost_ret (v := .agg #[.string ⟨pl.toArray⟩, .string ⟨ps.toArray⟩, .string ⟨pr.toArray⟩, .slice a1 tv.length e1, .slice a2 tk.length e2]) (by simp [results, Tryz.results32, go_sem, d0, d1, d2, d3, d4]) rfl ⟨_, rfl, ?_, hw⟩
  exact ⟨.slice a1 tv.length e1, .slice a2 tk.length e2, rfl, ownS_mono h1 (by omega), ownP_mono h2 (by omega)⟩
end Go.Proofs.YtlmgmifaknlolaaGreat
