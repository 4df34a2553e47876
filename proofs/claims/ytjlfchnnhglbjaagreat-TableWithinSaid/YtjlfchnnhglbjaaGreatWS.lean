/- RtbNew, RtbMade, RtbNews, RtbGets -/
import Derived.Test.YtjlfchnnhglbjaaGreatWR
import Derived.Test.YtjlfchnnhglbjaaGreatWE
import Derived.Deep.AppendLies
import Derived.Deep.RegionLaw
import Derived.Deep.RegionHeld3
import Derived.BigQuiet
import Derived.Test.YtjlfchnnhglbjaaGreatWG
set_option linter.unusedVariables false
set_option linter.unusedSimpArgs false
namespace Go.Proofs.YtjlfchnnhglbjaaGreat
open Go.RowKit Go.Lib Go.Sort
def appSem (a : Array TypeId) (t : TypeId) (b : Array Value) : Sem Value := Builtin.append_ a t b
theorem app_held {a : Array TypeId} {t : TypeId} {b : Array Value} : Builtin.append_ a t b = appSem a t b := rfl
theorem run_pushE {α : Type} {k : Nat} {E : Enc α k} {ty : TypeId} (w : World) {t : TypeId}
  {z : Value} {bytes : Nat} (ht : Tryz.prog.underlying t = some (.slice ty)) (hinf : (Tryz.prog.info? ty).map (fun i => (i.zero, i.size, i.bytes)) = some (some z, k, bytes)) (hzs : z.cells.size = k) (hk : 0 < k)
  (B : Nat) (v : Value) (l : List α) (y : α) (cs : Array Value) (hcs : cs.toList = E.enc y) (hown : OwnL E ty w B v l) (g : Nat) (hg : w.heap[g]? = some (.cells cs ty (0, 0))) (hl : l.length + 1 ≤ maxLen) (hl2 : (l.length + 1) * bytes ≤ 140737488355328) (hB : B ≤ w.heap.size) :
  ∃ ao cp w', (appSem #[t, t] t #[v, .slice (some ⟨g, 0, none⟩) 1 1]).run Tryz.prog w = .ok (.slice ao (l.length + 1) cp) w' ∧ OwnL E ty w' B (.slice ao (l.length + 1) cp) (l ++ [y]) ∧ w.grownBy w' v.ownBlock ∧ Moved w v (.slice ao (l.length + 1) cp) := by
 obtain ⟨i0, hi, hz0, hz1, hz2⟩ := info_parts hinf
 obtain ⟨v', w', hr, own, gr, mv⟩ := run_app (P := Tryz.prog) w B t t ty i0 z k bytes ht hi hz0 hz1 hz2 hzs hk v l.length (flatL E l) hown ⟨g, 0, none⟩ 1 1 (E.enc y) (by rw [E.len, Nat.one_mul]) (fun j u hu => by
  have hadd : ((⟨g, 0, none⟩ : Addr).add j) = ⟨g, j, none⟩ := by
   unfold Addr.add
   split
   ·next e => subst e; rfl
   ·simp
  rw [hadd, cell_of_row _ _ _ _ _ _ hg, ← Array.getElem?_toList, hcs]
  exact hu) (E.one y) hl hl2 hB
 have own2 : OwnL E ty w' B v' (l ++ [y]) := own_cast own (by simp) (by rw [flatL_append]; simp [flatL])
 obtain ⟨ao, cp, rfl, _⟩ := own2.slice
 rw [List.length_append, List.length_singleton] at hr own2 mv
 exact ⟨ao, cp, w', hr, own2, gr, mv⟩
structure RnSt (w W : World) (Bt : Nat) (vr va vn vp : Value) (t : Tb) : Prop where
 tb : RfTb w.heap.size.succ W Bt vr va vn vp t
 ok : TbOk t
 f : W.heap[w.heap.size]? = some (.cells #[.int .i64 0, .int .i64 0, .int .i64 0] 30 (0, 0))
 bel : Below w.heap.size w W
section
variable {w W W' : World} {Bt : Nat} {vr va vn vp v' : Value} {t : Tb}
theorem RnSt.below (h : RnSt w W Bt vr va vn vp t) (hb : Below W.heap.size W W') : RnSt w W' Bt vr va vn vp t :=
 ⟨h.tb.below hb, h.ok, (hb.block _ (lt_of_block h.f)).trans h.f, h.bel.then hb⟩
theorem RnSt.wrong (h : RnSt w W Bt vr va vn vp t) : W.cell? ⟨w.heap.size, 0, none⟩ = some (.int .i64 0) ∧ W.cell? ⟨w.heap.size, 1, none⟩ = some (.int .i64 0) ∧ W.cell? ⟨w.heap.size, 2, none⟩ = some (.int .i64 0) ∧ w.heap.size < W.heap.size ∧
  W.frozen? ⟨w.heap.size, 0, none⟩ = false ∧ W.frozen? ⟨w.heap.size, 1, none⟩ = false ∧ W.frozen? ⟨w.heap.size, 2, none⟩ = false := by
 obtain ⟨a, b, c, d⟩ := box3_cells h.f
 exact ⟨a, b, c, d, box3_frozen h.f⟩
theorem RnSt.turned {vr' va' vn' vp' : Value} {t' : Tb} (h : RnSt w W Bt vr va vn vp t) {v : Value} {e : TypeId} {k n : Nat} {xs : List Value} (o : W.ownsRow w.heap.size.succ e k v n xs) (gr : W.grownBy W' v.ownBlock) {i : Nat} {u : Value} (htb : RfTb w.heap.size.succ (W'.setCell ⟨Bt, i, none⟩ u) Bt vr' va' vn' vp' t') (ok : TbOk t') : RnSt w (W'.setCell ⟨Bt, i, none⟩ u) Bt vr' va' vn' vp' t' := by
 have hlo := h.tb.lo
 refine ⟨htb, ok, ?_, ?_⟩
 ·rw [heap_setCell_other _ _ _ _ (by simp; omega)]
  exact (gr.block _ (lt_of_block h.f) (fun e => by have := (World.ownsRow.lt o _ e.symm).1; omega)).trans h.f
 ·exact (h.bel.grown gr h.bel.size (fun k hk => by have := (World.ownsRow.lt o _ hk).1; omega)).setCell (p := ⟨Bt, i, none⟩) (by show w.heap.size ≤ Bt; omega) u
theorem box_turned {W W' : World} {B Bt Db : Nat} {v : Value} {e ty : TypeId} {k n : Nat} {xs : List Value} {cs : Array Value} (o : W.ownsRow B e k v n xs) (gr : W.grownBy W' v.ownBlock) (hb : W.heap[Db]? = some (.cells cs ty (0, 0))) (hne : e ≠ ty) (i : Nat) (u : Value) (hd : Db ≠ Bt) : (W'.setCell ⟨Bt, i, none⟩ u).heap[Db]? = some (.cells cs ty (0, 0)) := by
 rw [heap_setCell_other _ _ _ _ hd]
 exact (gr.block _ (lt_of_block hb) (Ne.symm (own_type o hb hne))).trans hb
theorem box_turned0 {W W' : World} {B Db : Nat} {v : Value} {e ty : TypeId} {k n : Nat} {xs : List Value} {cs : Array Value} (o : W.ownsRow B e k v n xs) (gr : W.grownBy W' v.ownBlock) (hb : W.heap[Db]? = some (.cells cs ty (0, 0))) (hne : e ≠ ty) : W'.heap[Db]? = some (.cells cs ty (0, 0)) :=
 (gr.block _ (lt_of_block hb) (Ne.symm (own_type o hb hne))).trans hb
end
theorem rnew_ret {V : World} {Pb : Nat} {v : Value} {e f a : Int} (hr : V.heap[Pb]? = some (.cells #[.int .i64 e, .int .i64 f, .int .i64 a] 30 (0, 0))) {Q : Ending → World → Prop} {act : Act} (hd : act.defers = [])
  (h2 : act.tmps.getD 2 undef = v) (h3 : act.tmps.getD 3 undef = .pointer (some ⟨Pb, 0, none⟩)) (hQ : Q (.returned (.tuple #[v, .agg #[.int .i64 e, .int .i64 f, .int .i64 a]])) V) :
  bodyPost Tryz.prog Tryz.f34 Q Exit.ret act V := by
 obtain ⟨e0, e1, e2, _⟩ := box3_cells hr
 refine bodyPost_ret (v := .tuple #[v, .agg #[.int .i64 e, .int .i64 f, .int .i64 a]]) ?_ hd hQ
 obtain ⟨tmps, defers⟩ := act
 simp only [Array.getD_eq_getD_getElem?] at h2 h3
 simp [results, Tryz.results34, go_sem, h2, h3, e0, e1, e2]
theorem rnew_bad {w W' : World} {l : List Dc} {e : Nat} {f a : Int} {t : Tb} (h : newF l = (⟨e, f, a⟩, t)) (he : e ≠ 0) (hb : Below w.heap.size w W') : RNewOut w l (.returned (.tuple #[.pointer none, .agg #[.int .i64 e, .int .i64 f, .int .i64 a]])) W' := by
 refine ⟨hb, Or.inr ?_⟩
 rw [h]; exact ⟨he, rfl⟩
theorem RfP.agree {B : Nat} {W W' : World} {Bt : Nat} {t : Tb} (h : RfP B W Bt t) (he : ∀ k, B ≤ k → W'.heap[k]? = W.heap[k]?) : RfP B W' Bt t := by
 obtain ⟨vr, va, vn, h1, h2, h3, h4, h5⟩ := h
 exact ⟨vr, va, vn, (he _ h5).trans h1, own_agree h2 he, own_agree h3 he, own_agree h4 he, h5⟩
theorem rnew_good {w W : World} {l : List Dc} {Bt : Nat} {vr va vn vp : Value} {t : Tb} (h : newF l = (Wrg.ok, t)) (st : RnSt w W Bt vr va vn vp t) : RNewOut w l (.returned (.tuple #[.pointer (some ⟨Bt, 0, none⟩), .agg #[.int .i64 0, .int .i64 0, .int .i64 0]])) (P3 W w.heap.size (.int .i64 0) (.int .i64 0) (.int .i64 0)) := by
 refine ⟨P3_below _ _ _ st.bel (Nat.le_refl _), Or.inl ?_⟩
 rw [h]
 obtain ⟨vr, va, vn, h1, h2, h3, h4, h5⟩ := st.tb.done.agree (W' := P3 W w.heap.size (.int .i64 0) (.int .i64 0) (.int .i64 0)) (fun k hk => P3_kept _ _ _ (by omega))
 exact ⟨rfl, Bt, rfl, ⟨vr, va, vn, h1, h2.mono (Nat.le_succ _), h3.mono (Nat.le_succ _), row_mono h4 (Nat.le_succ _), by omega⟩, st.ok⟩
theorem itemF_arg {t : Tb} {loc : Str} {f : Nat} {x : Itm} (h : x.path = [] ∨ pathB x.path = false) : itemF t loc f x = (2, t) := by unfold itemF; rw [if_pos h]
theorem itemF_place {t : Tb} {loc : Str} {f : Nat} {x : Itm} (h : ¬ (x.path = [] ∨ pathB x.path = false)) (ha : x.alias' = true) (hl : loc ≠ tRoot) : itemF t loc f x = (221, t) := by unfold itemF; rw [if_neg h, if_pos ⟨ha, hl⟩]
theorem itemF_al {t : Tb} {loc : Str} {f : Nat} {x : Itm} (h : ¬ (x.path = [] ∨ pathB x.path = false)) (ha : x.alias' = true) (hl : loc = tRoot) : itemF t loc f x = match findR t.als loc x.path with
  | some r => if r.text = x.value then (0, t) else (220, t)
  | none => (0, { t with als := t.als ++ [⟨loc, x.path, x.value, f, x.at'⟩] }) := by
 unfold itemF; rw [if_neg h, if_neg (fun c => c.2 hl), if_pos ha]; rfl
theorem itemF_row {t : Tb} {loc : Str} {f : Nat} {x : Itm} (h : ¬ (x.path = [] ∨ pathB x.path = false)) (ha : x.alias' = false) : itemF t loc f x = match findR t.rows loc x.path with
  | some r => if r.text = x.value then (0, t) else (220, t)
  | none =>
   if x.path ∈ t.paths then (0, { t with rows := t.rows ++ [⟨loc, x.path, x.value, f, x.at'⟩] })
   else if t.paths.length = 16384 then (3, t)
   else (0, { t with rows := t.rows ++ [⟨loc, x.path, x.value, f, x.at'⟩], paths := t.paths ++ [x.path] }) := by
 unfold itemF; rw [if_neg h, if_neg (by rw [ha]; simp), if_neg (by rw [ha]; simp)]; rfl
def sizeT (t : Tb) : Nat := t.rows.length + t.als.length + t.names.length + t.paths.length
attribute [local go_sem ↓] app_held
set_option maxRecDepth 100000 in
set_option maxHeartbeats 16000000 in
theorem rtnew_any (w : World) (l : List Dc) (v : Value) (hd : RdD w v l) (hs : SzD l) (hz : costD l ≤ 100000) :
  Calls Tryz.prog 34 #[v] w fun x w' => RNewOut w l x w' := by
 have HS := hid hs
 have HZ := hid hz
 obtain ⟨ao, cp, rfl, hln, h63, hcell⟩ := hd.cells
 have HCELL := hid hcell
 clear hcell hs hd hz
 have B1 := hid (show Below w.heap.size w ((w.alloc (.cells #[.int .i64 0, .int .i64 0, .int .i64 0] 30)).alloc (.cells #[.slice none 0 0, .slice none 0 0, .slice none 0 0] 90)) from ((Below.refl _ _).alloc (Nat.le_refl _) _).alloc (by simp) _)
 have ST0 := hid (show RnSt w ((w.alloc (.cells #[.int .i64 0, .int .i64 0, .int .i64 0] 30)).alloc (.cells #[.slice none 0 0, .slice none 0 0, .slice none 0 0] 90)) (w.heap.size + 1) (.slice none 0 0) (.slice none 0 0) (.slice none 0 0) (.slice none 0 0) Tb.zero from
  ⟨⟨by have := heap_alloc_new (w.alloc (.cells #[.int .i64 0, .int .i64 0, .int .i64 0] 30)) (.cells #[.slice none 0 0, .slice none 0 0, .slice none 0 0] 90); simpa using this, OwnL.nil _ _ _ _, OwnL.nil _ _ _ _, World.ownsRow_nil _ _ _ _, World.ownsRow_nil _ _ _ _, (fun k hk => by cases hk), (fun k hk => by cases hk), by simp⟩, TbOk.zero, (Below.heap_alloc _ _ _ (by simp)).trans (heap_alloc_new w _), B1.out⟩)
 go_enter Tryz.func34, Tryz.ntmps34
 go_upto_region 2 with fail
 generalize (w.alloc (.cells #[.int .i64 0, .int .i64 0, .int .i64 0] 30)).alloc (.cells #[.slice none 0 0, .slice none 0 0, .slice none 0 0] 90) = w1 at *
 generalize w.heap.size + 1 = Bt at *
 go_wp2_with fail
 go_loopg [5, 16] l.length (fun g v5 v16 W => ∃ (n : Nat) (vr va vn : Value) (t : Tb), n ≤ l.length ∧ l.length ≤ n + g ∧ v16 = .int .i64 n ∧ RnSt w W Bt vr va vn v5 t ∧ newF l = docsF n t (l.drop n) ∧ sizeT t + costD (l.drop n) ≤ 100000)
 case atStart => exact ⟨0, _, _, _, _, Nat.zero_le _, by omega, rfl, ST0.out, rfl, by have := HZ.out; rw [List.drop_zero]; show 0 + _ ≤ _; omega⟩
 case round =>
  obtain ⟨n, vr, va, vn, t, hn, hg, rfl, st, hrun, hcost⟩ := hrel
  rename World => w2
  obtain ⟨go, hgo⟩ : ∃ go, go = gk := ⟨_, rfl⟩
  have HG := hid (show l.length ≤ n + go by rw [hgo]; exact hg)
  have HGO := hid hgo
  clear hgo
  have ST2 := hid st
  have HRUN := hid hrun
  have HCO := hid hcost
  clear hg st hrun hcost ST0 B1
  by_cases hlt : n < l.length
  ·have hni : (n : Int) < (l.length : Int) := by omega
   have hn0 : (0 : Int) ≤ (n : Int) := by omega
   obtain ⟨p, o, a, c, rfl, hp, q0, q1, q2, hits⟩ := HCELL.out n hlt
   have r0 := (ST2.out.bel.cell (p := ⟨p, o + n * 3, none⟩) hp).trans q0
   have r1 := (ST2.out.bel.cell (p := ⟨p, o + n * 3 + 1, none⟩) hp).trans q1
   have r2 := (ST2.out.bel.cell (p := ⟨p, o + n * 3 + 2, none⟩) hp).trans q2
   have hp2 : p < w2.heap.size := Nat.lt_of_lt_of_le hp ST2.out.bel.size
   have HRUN2 := hid (HRUN.out.trans (docs_step hlt))
   have HCO2 := hid (show sizeT t + (4 * (l[n]'hlt).items.length + 1 + costD (l.drop (n + 1))) ≤ 100000 by rw [← cost_step hlt]; exact HCO.out)
   have HSZ := hid (HS.out.1 _ (List.getElem_mem hlt))
   have HITS := hid hits
   clear q0 q1 q2 hits HRUN HCO HCELL
   generalize l[n]'hlt = d at *
   obtain ⟨loc, supp, its⟩ := d
   simp only at r0 r1 r2
   go_upto_region 6 with fail
   have HB3 := hid (show Below w2.heap.size w2 (w2.alloc (.cells #[.string ⟨loc.toArray⟩, .bool supp, .slice a its.length c] 27)) from (Below.refl _ _).alloc (Nat.le_refl _) _)
   have F3 := hid (heap_alloc_new w2 (.cells #[.string ⟨loc.toArray⟩, .bool supp, .slice a its.length c] 27))
   generalize w2.alloc (.cells #[.string ⟨loc.toArray⟩, .bool supp, .slice a its.length c] 27) = w3 at *
   have ST3 := hid (ST2.out.below HB3.out)
   have HDB := hid (show Bt ≠ w2.heap.size from fun e => by have := lt_of_block ST2.out.tb.box; omega)
   clear r0 r1 r2 hp2 ST2
   generalize w2.heap.size = Db at *
   go_cut [5, 16, 6, 38] from 17 to 38 (fun v5 v16 v6 v38 wx => v16 = .int .i64 n ∧ v6 = .int .i64 n ∧ RnSt w wx Bt vr va vn v5 t ∧ wx.heap[Db]? = some (.cells #[.string ⟨loc.toArray⟩, .bool supp, .slice a its.length c] 27 (0, 0)) ∧ ∃ bad : Bool, v38 = .bool bad ∧ (bad = true → headF t ⟨loc, supp, its⟩ = (2, t)) ∧ (bad = false → ¬ (((⟨loc, supp, its⟩ : Dc).supp = true ∧ loc ≠ []) ∨ ((⟨loc, supp, its⟩ : Dc).supp = false ∧ namedB loc = false))))
   case first =>
    obtain ⟨d0, d1, d2, dl⟩ := box3_cells F3.out
    cases supp with
    | true =>
     by_cases hl : loc = []
     ·have hle : List.isEmpty loc = true := by rw [hl]; rfl
      have hle2 : (loc == []) = true := by rw [hl]; rfl
      have hle3 : (loc != []) = false := by rw [hl]; rfl
      have HH := hid hl
      clear hl
      go_wp2_with fail
      go_meet
      exact ⟨rfl, rfl, ST3.out, F3.out, false, rfl, fun h => (by cases h), fun _ => (by rintro (⟨_, h⟩ | ⟨h, _⟩); exact h HH.out; cases h)⟩
     ·have hle : List.isEmpty loc = false := isEmpty_ne hl
      have hle2 : (loc == []) = false := by rw [beq_eq_false_iff_ne]; exact hl
      have hle3 : (loc != []) = true := by rw [bne_iff_ne]; exact hl
      have HH := hid (head_bad (t := t) (d := ⟨loc, true, its⟩) (Or.inl ⟨rfl, hl⟩))
      clear hl
      go_wp2_with fail
      go_meet
      exact ⟨rfl, rfl, ST3.out, F3.out, true, rfl, fun _ => HH.out, fun h => (by cases h)⟩
    | false =>
     have LO := hid (rlocale_any loc w3 HSZ.out.1)
     obtain ⟨nm, hnm⟩ : ∃ nm, nm = namedB loc := ⟨_, rfl⟩
     rw [← hnm] at LO
     have HN := hid hnm
     clear hnm
     cases nm with
     | false =>
      have HH := hid (head_bad (t := t) (d := ⟨loc, false, its⟩) (Or.inr ⟨rfl, HN.out.symm⟩))
      go_wp2_with (go_at_call 55; refine LO.out.mono ?_; rintro e w4 ⟨rfl, hb4⟩; have ST4 := hid (ST3.out.below hb4); have F4 := hid ((hb4.block _ (lt_of_block F3.out)).trans F3.out); clear hb4)
      go_meet
      exact ⟨rfl, rfl, ST4.out, F4.out, true, rfl, fun _ => HH.out, fun h => (by cases h)⟩
     | true =>
      go_wp2_with (go_at_call 55; refine LO.out.mono ?_; rintro e w4 ⟨rfl, hb4⟩; have ST4 := hid (ST3.out.below hb4); have F4 := hid ((hb4.block _ (lt_of_block F3.out)).trans F3.out); clear hb4)
      go_meet
      exact ⟨rfl, rfl, ST4.out, F4.out, false, rfl, fun h => (by cases h), fun _ => (by rintro (⟨h, _⟩ | ⟨_, h⟩); exact absurd h (by simp); rw [← HN.out] at h; cases h)⟩
   case rest =>
   obtain ⟨rfl, rfl, st3, f3, bad, rfl, hb1, hb2⟩ := hcut
   rename World => w4
   have ST4 := hid st3
   have F4 := hid f3
   have HB1 := hid hb1
   have HB2 := hid hb2
   clear st3 f3 hb1 hb2 ST3 F3
   cases bad with
   | true =>
    have HH := hid (HB1.out rfl)
    obtain ⟨z0, z1, z2, zl, zf0, zf1, zf2⟩ := ST4.out.wrong
    clear HB1 HB2
    go_wp2_with fail
    refine rnew_ret (Pb := w.heap.size) (e := 2) (f := n) (a := 0) (P3_row _ _ _ ST4.out.f) rfl rfl rfl (rnew_bad (e := 2) (HRUN2.out.trans (by rw [HH.out]; rfl)) (by decide) (P3_below _ _ _ ST4.out.bel (Nat.le_refl _)))
   | false =>
   have NB := hid (HB2.out rfl)
   clear HB1 HB2
   go_upto_region 8 with fail
   go_cut [5, 16, 6, 53] from 17 to 53 (fun v5 v16 v6 v53 wx => v16 = .int .i64 n ∧ v6 = .int .i64 n ∧ RnSt w wx Bt vr va vn v5 t ∧ wx.heap[Db]? = some (.cells #[.string ⟨loc.toArray⟩, .bool supp, .slice a its.length c] 27 (0, 0)) ∧ ∃ add : Bool, v53 = .bool add ∧ (add = false → (⟨loc, supp, its⟩ : Dc).supp = true ∨ loc ∈ t.names) ∧ (add = true → ¬ ((⟨loc, supp, its⟩ : Dc).supp = true ∨ loc ∈ t.names)))
   case first =>
    obtain ⟨d0, d1, d2, dl⟩ := box3_cells F4.out
    cases supp with
    | true =>
     first
      | go_quiet (fail)
      | fail "q8a"
     go_wp2_with fail
     go_meet
     exact ⟨rfl, rfl, ST4.out.below (below_drewN (Below.refl _ _) nq), F4.out, false, rfl, fun _ => Or.inl (by first | trivial | rfl), fun h => (by first | cases h | exact absurd h (by simp))⟩
    | false =>
     obtain ⟨t0, t1, t2, tl, tf0, tf1, tf2⟩ := ST4.out.tb.cells
     obtain ⟨an, cn, hvn⟩ := own_sliceS ST4.out.tb.names
     subst hvn
     have HHQ := hid (fun m => rHas_any (w4.drewN m) _ t.names loc (show OwnS (w4.drewN m) w.heap.size.succ _ t.names from ST4.out.tb.names).rd)
     cases hmp : t.names.contains loc with
     | true =>
      rw [hmp] at HHQ
      have HMP := hid (show loc ∈ t.names by simpa using hmp)
      clear hmp
      first
       | go_quiet ((go_at_call 42; exact Calls.quiet_of_same (HHQ.out _)))
       | fail "q8b"
      go_wp2_with fail
      go_meet
      exact ⟨rfl, rfl, ST4.out.below (below_drewN (Below.refl _ _) nq), F4.out, false, rfl, fun _ => Or.inr HMP.out, fun h => (by cases h)⟩
     | false =>
      rw [hmp] at HHQ
      have HNN := hid (show ¬ ((⟨loc, false, its⟩ : Dc).supp = true ∨ loc ∈ t.names) from fun h => h.elim (fun h => absurd h (by simp)) (fun h => by have h2 : t.names.contains loc = true := (by simpa using h); exact absurd h2 (by rw [hmp]; simp)))
      clear hmp
      first
       | go_quiet ((go_at_call 42; exact Calls.quiet_of_same (HHQ.out _)))
       | fail "q8c"
      go_wp2_with fail
      go_meet
      exact ⟨rfl, rfl, ST4.out.below (below_drewN (Below.refl _ _) nq), F4.out, true, rfl, fun h => (by cases h), fun _ => HNN.out⟩
   case rest =>
   obtain ⟨rfl, rfl, st3, f3, add, rfl, hb1, hb2⟩ := hcut
   rename World => w5
   have ST5 := hid st3
   have F5 := hid f3
   have HB1 := hid hb1
   have HB2 := hid hb2
   clear st3 f3 hb1 hb2 ST4 F4
   go_upto_if 53 with fail
   go_cut [5, 16, 6] from 17 to 72 (fun v5 v16 v6 wx => v16 = .int .i64 n ∧ v6 = .int .i64 n ∧ ∃ (vr va vn : Value) (t1 : Tb), headF t ⟨loc, supp, its⟩ = (0, t1) ∧ sizeT t1 ≤ sizeT t + 1 ∧ RnSt w wx Bt vr va vn v5 t1 ∧ wx.heap[Db]? = some (.cells #[.string ⟨loc.toArray⟩, .bool supp, .slice a its.length c] 27 (0, 0)))
   case first =>
    cases add with
    | false =>
     have HH := hid (head_keep (t := t) (d := ⟨loc, supp, its⟩) NB.out (HB1.out rfl))
     clear HB1 HB2
     go_wp2_with fail
     go_meet
     exact ⟨rfl, rfl, vr, va, vn, t, HH.out, Nat.le_succ _, ST5.out, F5.out⟩
    | true =>
     have HNN := hid (HB2.out rfl)
     clear HB1 HB2
     obtain ⟨an, cn, hvn⟩ := own_sliceS ST5.out.tb.names
     subst hvn
     obtain ⟨d0, d1, d2, dl⟩ := box3_cells F5.out
     obtain ⟨t0, t1, t2, tl, tf0, tf1, tf2⟩ := ST5.out.tb.cells
     by_cases hful : t.names.length = 512
     ·have hfl : ((t.names.length : Int) == 512) = true := by rw [beq_iff_eq]; omega
      have HH := hid (head_full (t := t) (d := ⟨loc, supp, its⟩) NB.out HNN.out hful)
      obtain ⟨z0, z1, z2, zl, zf0, zf1, zf2⟩ := ST5.out.wrong
      clear hful
      go_wp2_with fail
      refine rnew_ret (Pb := w.heap.size) (e := 3) (f := n) (a := 0) (P3_row _ _ _ ST5.out.f) rfl rfl rfl (rnew_bad (e := 3) (HRUN2.out.trans (by rw [HH.out]; rfl)) (by decide) (P3_below _ _ _ ST5.out.bel (Nat.le_refl _)))
     ·have hfl : ((t.names.length : Int) == 512) = false := by rw [beq_eq_false_iff_ne]; omega
      have HH := hid (head_more (t := t) (d := ⟨loc, supp, its⟩) NB.out HNN.out hful)
      have HOK := hid (show TbOk { t with names := t.names ++ [loc] } by have := head_tb ST5.out.ok ⟨loc, supp, its⟩; rw [HH.out] at this; exact this)
      have HNL := hid ST5.out.ok.n512
      clear hful
      go_wp2_with fail
      have HA6 := hid (show Below w5.heap.size w5 (w5.alloc (.cells #[.string ⟨loc.toArray⟩] 9)).drew from ((Below.refl _ _).alloc (Nat.le_refl _) _).drew)
      have ST6 := hid (ST5.out.below HA6.out)
      have R6 := hid (show ((w5.alloc (.cells #[.string ⟨loc.toArray⟩] 9)).drew).heap[w5.heap.size]? = _ from heap_alloc_new w5 (.cells #[.string ⟨loc.toArray⟩] 9))
      have HO6 := hid (ownT_S.2 ST6.out.tb.names)
      have HBZ := hid (show w.heap.size.succ ≤ ((w5.alloc (.cells #[.string ⟨loc.toArray⟩] 9)).drew).heap.size from lt_of_block ST6.out.f)
      have F6 := hid ((HA6.out.block _ (lt_of_block F5.out)).trans F5.out)
      have hne1 : ¬ Db = Bt := fun e => HDB.out e.symm
      have S0 : w5.drew.cell? ⟨Db, 0, none⟩ = some (.string ⟨loc.toArray⟩) := d0
      have KB := hid (fun (W : World) (gr : ((w5.alloc (.cells #[.string ⟨loc.toArray⟩] 9)).drew).grownBy W (Value.slice an t.names.length cn).ownBlock) => box_turned0 ST6.out.tb.names gr ST6.out.tb.box (by decide))
      obtain ⟨a7, c7, w7, hrun, own7, gr7, mv7⟩ := run_pushE (E := encT) (w5.alloc (.cells #[.string ⟨loc.toArray⟩] 9)).drew Tryz.underlying41 infoS rfl (by decide) w.heap.size.succ (.slice an t.names.length cn) t.names loc #[.string ⟨loc.toArray⟩] (by exact rfl) HO6.out w5.heap.size R6.out (by have := HNL.out; unfold maxLen; omega) (by have := HNL.out; omega) HBZ.out
      obtain ⟨tt0, tt1, tt2, ttl⟩ := box3_cells (KB.out w7 gr7)
      obtain ⟨ttf0, ttf1, ttf2⟩ := box3_frozen (KB.out w7 gr7)
      have OW7 := hid (ownT_S.1 own7)
      have GR7 := hid gr7
      have MV7 := hid mv7
      clear own7 gr7 mv7 S0
      first
       | go_region
       | fail "r11"
      all_goals
       have TB7 := hid (ST6.out.tb.addName OW7.out GR7.out MV7.out)
       have ST7 := hid (ST6.out.turned ST6.out.tb.names GR7.out TB7.out HOK.out)
       have F7 := hid (box_turned (Bt := Bt) ST6.out.tb.names GR7.out F6.out (by decide) 2 (.slice a7 (t.names.length + 1) c7) (fun e => HDB.out e.symm))
       go_wp2_with fail
       go_meet
       exact ⟨rfl, rfl, vr, va, _, _, HH.out, by unfold sizeT; simp; omega, ST7.out, F7.out⟩
   case rest =>
    obtain ⟨rfl, rfl, vr, va, vn, t1, hh, hsz, st5, f5⟩ := hcut
    rename World => w5
    have ST5 := hid st5
    have F5 := hid f5
    have HSZT := hid hsz
    have HRUN3 := hid (HRUN2.out.trans (show _ = fromI n (l.drop (n + 1)) (itemsF loc n t1 its) by rw [hh]; rfl))
    clear hh st5 f5 hsz HRUN2
    obtain ⟨d0, d1, d2, dl⟩ := box3_cells F5.out
    obtain ⟨_, hkc, hk63, hic⟩ := RdI.cells HITS.out
    have HIC := hid hic
    clear hic HITS
    go_wp2_with fail
    go_loopg [5, 76] its.length (fun g v5 v76 W => ∃ (m : Nat) (vr va vn : Value) (t' : Tb), m ≤ its.length ∧ its.length ≤ m + g ∧ v76 = .int .i64 m ∧ RnSt w W Bt vr va vn v5 t' ∧ W.heap[Db]? = some (.cells #[.string ⟨loc.toArray⟩, .bool supp, .slice a its.length c] 27 (0, 0)) ∧ itemsF loc n t1 its = itemsF loc n t' (its.drop m) ∧ sizeT t' + (4 * (its.length - m) + costD (l.drop (n + 1))) ≤ 100000)
    case atStart => exact ⟨0, vr, va, vn, t1, Nat.zero_le _, by omega, rfl, ST5.out, F5.out, rfl, by have := HCO2.out; have := HSZT.out; omega⟩
    case round =>
     obtain ⟨m, vr, va, vn, t', hm, hg, rfl, st, fd, hitr, hcost⟩ := hrel
     rename World => w6
     have HG2 := hid hg
     have ST6 := hid st
     have F6 := hid fd
     have HIT := hid hitr
     have HCO3 := hid hcost
     clear hg st fd hitr hcost ST5 F5 d0 d1 d2 dl HSZT
     by_cases hlt2 : m < its.length
     ·have hmi : (m : Int) < (its.length : Int) := by omega
      have hm0 : (0 : Int) ≤ (m : Int) := by omega
      obtain ⟨p2, o2, rfl, hp2, q0, q1, q2, q3, q4⟩ := HIC.out m hlt2
      have r0 := (ST6.out.bel.cell (p := ⟨p2, o2 + m * 5, none⟩) hp2).trans q0
      have r1 := (ST6.out.bel.cell (p := ⟨p2, o2 + m * 5 + 1, none⟩) hp2).trans q1
      have r2 := (ST6.out.bel.cell (p := ⟨p2, o2 + m * 5 + 2, none⟩) hp2).trans q2
      have r3 := (ST6.out.bel.cell (p := ⟨p2, o2 + m * 5 + 3, none⟩) hp2).trans q3
      have r4 := (ST6.out.bel.cell (p := ⟨p2, o2 + m * 5 + 4, none⟩) hp2).trans q4
      have hp3 : p2 < w6.heap.size := Nat.lt_of_lt_of_le hp2 ST6.out.bel.size
      have HPL := hid (HSZ.out.2 _ (List.getElem_mem hlt2))
      have HNX := hid (fun t'' (h : itemF t' loc n (its[m]'hlt2) = (0, t'')) => HIT.out.trans (items_next hlt2 h))
      have HSP := hid (fun e t'' (h : itemF t' loc n (its[m]'hlt2) = (e, t'')) (he : e ≠ 0) => HIT.out.trans (items_stop hlt2 h he))
      have HCO4 := hid (show sizeT t' + 4 + (4 * (its.length - (m + 1)) + costD (l.drop (n + 1))) ≤ 100000 by have := HCO3.out; omega)
      clear q0 q1 q2 q3 q4 HIT HIC HCO3
      generalize its[m]'hlt2 = x at *
      obtain ⟨xp, xv, xal, xd, xa⟩ := x
      simp only at r0 r1 r2 r3 r4
      go_upto_region 15 with fail
      have HB7 := hid (show Below w6.heap.size w6 (w6.alloc (.cells #[.string ⟨xp.toArray⟩, .string ⟨xv.toArray⟩, .bool xal, .string ⟨xd.toArray⟩, .int .i64 xa] 35)) from (Below.refl _ _).alloc (Nat.le_refl _) _)
      have I7 := hid (heap_alloc_new w6 (.cells #[.string ⟨xp.toArray⟩, .string ⟨xv.toArray⟩, .bool xal, .string ⟨xd.toArray⟩, .int .i64 xa] 35))
      generalize w6.alloc (.cells #[.string ⟨xp.toArray⟩, .string ⟨xv.toArray⟩, .bool xal, .string ⟨xd.toArray⟩, .int .i64 xa] 35) = w7 at *
      have ST7 := hid (ST6.out.below HB7.out)
      have F7 := hid ((HB7.out.block _ (lt_of_block F6.out)).trans F6.out)
      have HIB := hid (show Bt ≠ w6.heap.size from fun e => by have := lt_of_block ST6.out.tb.box; omega)
      clear r0 r1 r2 r3 r4 hp3 ST6 F6 HB7
      obtain ⟨c0, c1, c2, c3, c4, cl⟩ := box5_cells I7.out
      generalize w6.heap.size = Ib at *
      by_cases hemp : xp = []
      ·have hle : List.isEmpty xp = true := by rw [hemp]; rfl
       have hle2 : (xp == []) = true := by rw [hemp]; rfl
       have HI := hid (itemF_arg (t := t') (loc := loc) (f := n) (x := ⟨xp, xv, xal, xd, xa⟩) (Or.inl hemp))
       clear hemp
       have HRES := hid (show newF l = (⟨2, n, xa⟩, t') by rw [HRUN3.out, HSP.out 2 t' HI.out (by decide)]; rfl)
       obtain ⟨z0, z1, z2, zl, zf0, zf1, zf2⟩ := ST7.out.wrong
       go_wp2_with fail
       first
        | go_region
        | fail "ret2"
       all_goals
        go_wp2_with fail
        refine rnew_ret (V := P3 w7.drew w.heap.size _ _ _) (Pb := w.heap.size) (e := 2) (f := n) (a := xa) (P3_row (W := w7.drew) _ _ _ ST7.out.f) rfl rfl rfl (rnew_bad (e := 2) HRES.out (by decide) (P3_below _ _ _ ST7.out.bel.drew (Nat.le_refl _)))
      ·have hle : List.isEmpty xp = false := isEmpty_ne hemp
       have hle2 : (xp == []) = false := by rw [beq_eq_false_iff_ne]; exact hemp
       have IS := hid (rIs_any xp w7 HPL.out)
       cases hpb : pathB xp with
       | false =>
        rw [hpb] at IS
        have HI := hid (itemF_arg (t := t') (loc := loc) (f := n) (x := ⟨xp, xv, xal, xd, xa⟩) (Or.inr hpb))
        have HRES := hid (show newF l = (⟨2, n, xa⟩, t') by rw [HRUN3.out, HSP.out 2 t' HI.out (by decide)]; rfl)
        clear hpb hemp
        go_wp2_with (go_at_call 56; refine IS.out.mono ?_; rintro e w8 ⟨rfl, hb8⟩; have ST8 := hid (ST7.out.below hb8); have F8 := hid ((hb8.block _ (lt_of_block F7.out)).trans F7.out); have I8 := hid ((hb8.block _ (lt_of_block I7.out)).trans I7.out); clear hb8 c0 c1 c2 c3 c4 cl; obtain ⟨c0, c1, c2, c3, c4, cl⟩ := box5_cells I8.out; obtain ⟨d0, d1, d2, dl⟩ := box3_cells F8.out; obtain ⟨z0, z1, z2, zl, zf0, zf1, zf2⟩ := ST8.out.wrong)
        first
         | go_region
         | fail "ret2"
        all_goals
         go_wp2_with fail
         refine rnew_ret (V := P3 w8.drew w.heap.size _ _ _) (Pb := w.heap.size) (e := 2) (f := n) (a := xa) (P3_row (W := w8.drew) _ _ _ ST8.out.f) rfl rfl rfl (rnew_bad (e := 2) HRES.out (by decide) (P3_below _ _ _ ST8.out.bel.drew (Nat.le_refl _)))
       | true =>
        rw [hpb] at IS
        have HGOOD := hid (show ¬ ((⟨xp, xv, xal, xd, xa⟩ : Itm).path = [] ∨ pathB (⟨xp, xv, xal, xd, xa⟩ : Itm).path = false) by rintro (h | h); exact hemp h; rw [show (⟨xp, xv, xal, xd, xa⟩ : Itm).path = xp from rfl, hpb] at h; cases h)
        clear hpb hemp
        go_upto_region 17 with (go_at_call 56; refine IS.out.mono ?_; rintro e w8 ⟨rfl, hb8⟩; have ST8 := hid (ST7.out.below hb8); have F8 := hid ((hb8.block _ (lt_of_block F7.out)).trans F7.out); have I8 := hid ((hb8.block _ (lt_of_block I7.out)).trans I7.out); clear hb8 c0 c1 c2 c3 c4 cl; obtain ⟨c0, c1, c2, c3, c4, cl⟩ := box5_cells I8.out; obtain ⟨d0, d1, d2, dl⟩ := box3_cells F8.out; obtain ⟨z0, z1, z2, zl, zf0, zf1, zf2⟩ := ST8.out.wrong)
        clear c0 c1 c2 c3 c4 cl d0 d1 d2 dl z0 z1 z2 zl zf0 zf1 zf2 ST7 F7 I7 IS
        cases xal with
        | true =>
         obtain ⟨c0, c1, c2, c3, c4, cl⟩ := box5_cells I8.out
         obtain ⟨d0, d1, d2, dl⟩ := box3_cells F8.out
         by_cases hr : loc = tRoot
         ·have hub : (loc == [114, 111, 111, 116]) = true := by rw [hr]; rfl
          have hub2 : (loc != [114, 111, 111, 116]) = false := by rw [hr]; rfl
          have HR := hid hr
          clear hr
          go_upto_region 22 with fail
          have T8 := hid ST8.out.tb
          obtain ⟨al8, cl8, hv8⟩ : ∃ al8 cl8, va = .slice al8 t'.als.length cl8 := by
           obtain ⟨x1, x2, x3, _⟩ := ST8.out.tb.als.slice
           exact ⟨x1, x2, x3⟩
          subst hv8
          obtain ⟨t0, t1, t2, tl, tf0, tf1, tf2⟩ := ST8.out.tb.cells
          have S0 : w8.drew.cell? ⟨Bt, 1, none⟩ = some (.slice al8 t'.als.length cl8) ∧ w8.drew.cell? ⟨Db, 0, none⟩ = some (.string ⟨loc.toArray⟩) ∧ w8.drew.cell? ⟨Ib, 0, none⟩ = some (.string ⟨xp.toArray⟩) ∧ Below w8.heap.size w8 w8.drew := ⟨t1, d0, c0, (Below.refl _ _).drew⟩
          have KF : Hid (∀ W, (W.cell? ⟨Bt, 1, none⟩ = some (.slice al8 t'.als.length cl8) ∧ W.cell? ⟨Db, 0, none⟩ = some (.string ⟨loc.toArray⟩) ∧ W.cell? ⟨Ib, 0, none⟩ = some (.string ⟨xp.toArray⟩) ∧ Below w8.heap.size w8 W) → Calls Tryz.prog 45 #[.slice al8 t'.als.length cl8, .string ⟨loc.toArray⟩, .string ⟨xp.toArray⟩] W (fun e w' => e = .returned (.int .i64 (idxR t'.als loc xp)) ∧ (w'.cell? ⟨Bt, 1, none⟩ = some (.slice al8 t'.als.length cl8) ∧ w'.cell? ⟨Db, 0, none⟩ = some (.string ⟨loc.toArray⟩) ∧ w'.cell? ⟨Ib, 0, none⟩ = some (.string ⟨xp.toArray⟩) ∧ Below w8.heap.size w8 w'))) := fun W h => by
           refine (rfind12_any W _ t'.als loc xp (ST8.out.tb.als.rd.below h.2.2.2)).mono ?_
           rintro e w' ⟨rfl, hb'⟩
           have hb2 := h.2.2.2.then hb'
           have tb2 := (ST8.out.below hb2).tb.cells
           exact ⟨rfl, tb2.2.1, (box3_cells ((hb2.block _ (lt_of_block F8.out)).trans F8.out)).1, (box5_cells ((hb2.block _ (lt_of_block I8.out)).trans I8.out)).1, hb2⟩
          first
           | (go_region_held3 (fun W => W.cell? ⟨Bt, 1, none⟩ = some (.slice al8 t'.als.length cl8) ∧ W.cell? ⟨Db, 0, none⟩ = some (.string ⟨loc.toArray⟩) ∧ W.cell? ⟨Ib, 0, none⟩ = some (.string ⟨xp.toArray⟩) ∧ Below w8.heap.size w8 W) (first | assumption) (first
             | (go_at_call 45; refine (KF.out _ (by assumption)).mono ?_; rintro e w' ⟨rfl, hs'⟩)))
           | fail "r22"
          rename World => w9
          have hs9 : w9.cell? ⟨Bt, 1, none⟩ = some (.slice al8 t'.als.length cl8) ∧ w9.cell? ⟨Db, 0, none⟩ = some (.string ⟨loc.toArray⟩) ∧ w9.cell? ⟨Ib, 0, none⟩ = some (.string ⟨xp.toArray⟩) ∧ Below w8.heap.size w8 w9 := by assumption
          have HB9 := hid hs9.2.2.2
          clear hs9 S0 KF
          have ST9 := hid (ST8.out.below HB9.out)
          have F9 := hid ((HB9.out.block _ (lt_of_block F8.out)).trans F8.out)
          have I9 := hid ((HB9.out.block _ (lt_of_block I8.out)).trans I8.out)
          clear t0 t1 t2 tl tf0 tf1 tf2 c0 c1 c2 c3 c4 cl d0 d1 d2 dl T8 HB9 ST8 F8 I8
          obtain ⟨t0, t1, t2, tl, tf0, tf1, tf2⟩ := ST9.out.tb.cells
          obtain ⟨c0, c1, c2, c3, c4, cl⟩ := box5_cells I9.out
          obtain ⟨d0, d1, d2, dl⟩ := box3_cells F9.out
          rcases idxR_cases t'.als loc xp with ⟨hi, hf⟩ | ⟨k, hk, hi, hf⟩
          ·rw [hi]
           have HF := hid hf
           clear hi hf
           have HI := hid (show itemF t' loc n ⟨xp, xv, true, xd, xa⟩ = (0, { t' with als := t'.als ++ [⟨loc, xp, xv, n, xa⟩] }) by rw [itemF_al HGOOD.out rfl HR.out, show findR t'.als loc (⟨xp, xv, true, xd, xa⟩ : Itm).path = none from HF.out])
           have HOK := hid (show TbOk { t' with als := t'.als ++ [⟨loc, xp, xv, n, xa⟩] } by have := item_ok ST9.out.ok loc n ⟨xp, xv, true, xd, xa⟩; rw [HI.out] at this; exact this)
           go_wp2_with fail
           have HAD := hid (show Below w9.heap.size w9 (w9.alloc (.cells #[.string ⟨loc.toArray⟩, .string ⟨xp.toArray⟩, .string ⟨xv.toArray⟩, .int .i64 n, .int .i64 xa] 56)).drew from ((Below.refl _ _).alloc (Nat.le_refl _) _).drew)
           have STA := hid (ST9.out.below HAD.out)
           have RA := hid (show ((w9.alloc (.cells #[.string ⟨loc.toArray⟩, .string ⟨xp.toArray⟩, .string ⟨xv.toArray⟩, .int .i64 n, .int .i64 xa] 56)).drew).heap[w9.heap.size]? = _ from heap_alloc_new w9 (.cells #[.string ⟨loc.toArray⟩, .string ⟨xp.toArray⟩, .string ⟨xv.toArray⟩, .int .i64 n, .int .i64 xa] 56))
           have HBZ := hid (show w.heap.size.succ ≤ ((w9.alloc (.cells #[.string ⟨loc.toArray⟩, .string ⟨xp.toArray⟩, .string ⟨xv.toArray⟩, .int .i64 n, .int .i64 xa] 56)).drew).heap.size from lt_of_block STA.out.f)
           have FA := hid ((HAD.out.block _ (lt_of_block F9.out)).trans F9.out)
           have IA := hid ((HAD.out.block _ (lt_of_block I9.out)).trans I9.out)
           have hne1 : ¬ Db = Bt := fun e => HDB.out e.symm
           have hne2 : ¬ Ib = Bt := fun e => HIB.out e.symm
           have S0 : w9.drew.cell? ⟨Db, 0, none⟩ = some (.string ⟨loc.toArray⟩) ∧ w9.drew.cell? ⟨Ib, 0, none⟩ = some (.string ⟨xp.toArray⟩) ∧ w9.drew.cell? ⟨Ib, 1, none⟩ = some (.string ⟨xv.toArray⟩) ∧ w9.drew.cell? ⟨Ib, 4, none⟩ = some (.int .i64 xa) := ⟨d0, c0, c1, c4⟩
           have HRL := hid (show t'.als.length + 1 ≤ 100000 by have := HCO4.out; unfold sizeT at this; omega)
           have KB := hid (fun (W : World) (gr : ((w9.alloc (.cells #[.string ⟨loc.toArray⟩, .string ⟨xp.toArray⟩, .string ⟨xv.toArray⟩, .int .i64 n, .int .i64 xa] 56)).drew).grownBy W (Value.slice al8 t'.als.length cl8).ownBlock) => box_turned0 STA.out.tb.als gr STA.out.tb.box (by decide))
           obtain ⟨aB, cB, wB, hrun, ownB, grB, mvB⟩ := run_pushE (E := encR) (w9.alloc (.cells #[.string ⟨loc.toArray⟩, .string ⟨xp.toArray⟩, .string ⟨xv.toArray⟩, .int .i64 n, .int .i64 xa] 56)).drew Tryz.underlying88 infoR rfl (by decide) w.heap.size.succ (.slice al8 t'.als.length cl8) t'.als ⟨loc, xp, xv, n, xa⟩ #[.string ⟨loc.toArray⟩, .string ⟨xp.toArray⟩, .string ⟨xv.toArray⟩, .int .i64 n, .int .i64 xa] (by exact rfl) STA.out.tb.als w9.heap.size RA.out (by have := HRL.out; unfold maxLen; omega) (by have := HRL.out; omega) HBZ.out
           obtain ⟨tt0, tt1, tt2, ttl⟩ := box3_cells (KB.out wB grB)
           obtain ⟨ttf0, ttf1, ttf2⟩ := box3_frozen (KB.out wB grB)
           have OWB := hid ownB
           have GRB := hid grB
           have MVB := hid mvB
           clear ownB grB mvB S0
           first
            | go_region
            | fail "r30"
           all_goals
            have TBB := hid (STA.out.tb.addAl OWB.out GRB.out MVB.out)
            have STB := hid (STA.out.turned STA.out.tb.als GRB.out TBB.out HOK.out)
            have FB := hid (box_turned (Bt := Bt) STA.out.tb.als GRB.out FA.out (by decide) 1 (.slice aB (t'.als.length + 1) cB) (fun e => HDB.out e.symm))
            have HN2 := hid (HNX.out _ HI.out)
            go_wp2_with fail
            go_roundg (gk - 1)
            case measure => have := HG2.out; omega
            case rel => exact ⟨m + 1, _, _, _, _, by omega, by have := HG2.out; omega, by simp, STB.out, FB.out, HN2.out, by have := HCO4.out; unfold sizeT at this ⊢; simp; omega⟩
          ·rw [hi]
           have hki : (k : Int) < (t'.als.length : Int) := by omega
           have hk0 : (0 : Int) ≤ (k : Int) := by omega
           obtain ⟨ao9, cp9, e9, _, _, hc9⟩ := rdR_cells ST9.out.tb.als.rd
           cases e9
           obtain ⟨p9, o9, rfl, hp9, q0, q1, q2, q3, q4⟩ := hc9 k hk
           have HF := hid hf
           clear hi hf hc9 q0 q1 q3 q4
           generalize t'.als[k]'hk = y at *
           cases heq : (y.text == xv) with
           | true =>
            have heq2 : (y.text != xv) = false := by unfold bne; rw [heq]; rfl
            have HI := hid (show itemF t' loc n ⟨xp, xv, true, xd, xa⟩ = (0, t') by rw [itemF_al HGOOD.out rfl HR.out, show findR t'.als loc (⟨xp, xv, true, xd, xa⟩ : Itm).path = some y from HF.out]; simp only; rw [if_pos (by simpa using heq)])
            have HN2 := hid (HNX.out _ HI.out)
            go_wp2_with fail
            first
             | go_quiet (fail)
             | fail "q24a"
            go_wp2_with fail
            go_roundg (gk - 1)
            case measure => have := HG2.out; omega
            case rel => exact ⟨m + 1, _, _, _, _, by omega, by have := HG2.out; omega, by simp, ST9.out.below (below_drewN (Below.refl _ _) nq), F9.out, HN2.out, by have := HCO4.out; omega⟩
           | false =>
            have heq2 : (y.text != xv) = true := by unfold bne; rw [heq]; rfl
            have HI := hid (show itemF t' loc n ⟨xp, xv, true, xd, xa⟩ = (220, t') by rw [itemF_al HGOOD.out rfl HR.out, show findR t'.als loc (⟨xp, xv, true, xd, xa⟩ : Itm).path = some y from HF.out]; simp only; rw [if_neg (by simpa using heq)])
            have HRES := hid (show newF l = (⟨220, n, xa⟩, t') by rw [HRUN3.out, HSP.out 220 t' HI.out (by decide)]; rfl)
            obtain ⟨z0, z1, z2, zl, zf0, zf1, zf2⟩ := ST9.out.wrong
            go_wp2_with fail
            first
             | go_quiet (fail)
             | fail "q24b"
            have HB5 := hid (show Below w9.heap.size w9 (w9.drewN nq) from below_drewN (Below.refl _ _) nq)
            clear t0 t1 t2 tl tf0 tf1 tf2 c0 c1 c2 c3 c4 cl d0 d1 d2 dl z0 z1 z2 zl zf0 zf1 zf2 q2
            generalize w9.drewN nq = wA at *
            have STA := hid (ST9.out.below HB5.out)
            have IA := hid ((HB5.out.block _ (lt_of_block I9.out)).trans I9.out)
            clear ST9 F9 I9 HB5
            obtain ⟨c0, c1, c2, c3, c4, cl⟩ := box5_cells IA.out
            obtain ⟨z0, z1, z2, zl, zf0, zf1, zf2⟩ := STA.out.wrong
            go_wp2_with fail
            first
             | go_region
             | fail "ret220"
            all_goals
             go_wp2_with fail
             refine rnew_ret (V := P3 wA.drew w.heap.size _ _ _) (Pb := w.heap.size) (e := 220) (f := n) (a := xa) (P3_row (W := wA.drew) _ _ _ STA.out.f) rfl rfl rfl (rnew_bad (e := 220) HRES.out (by decide) (P3_below _ _ _ STA.out.bel.drew (Nat.le_refl _)))
         ·have hub : (loc == [114, 111, 111, 116]) = false := by rw [beq_eq_false_iff_ne]; exact hr
          have hub2 : (loc != [114, 111, 111, 116]) = true := by rw [bne_iff_ne]; exact hr
          have HI := hid (itemF_place (t := t') (loc := loc) (f := n) (x := ⟨xp, xv, true, xd, xa⟩) HGOOD.out rfl hr)
          clear hr
          have HRES := hid (show newF l = (⟨221, n, xa⟩, t') by rw [HRUN3.out, HSP.out 221 t' HI.out (by decide)]; rfl)
          obtain ⟨z0, z1, z2, zl, zf0, zf1, zf2⟩ := ST8.out.wrong
          go_wp2_with fail
          first
           | go_region
           | fail "ret221"
          all_goals
           go_wp2_with fail
           refine rnew_ret (V := P3 w8.drew w.heap.size _ _ _) (Pb := w.heap.size) (e := 221) (f := n) (a := xa) (P3_row (W := w8.drew) _ _ _ ST8.out.f) rfl rfl rfl (rnew_bad (e := 221) HRES.out (by decide) (P3_below _ _ _ ST8.out.bel.drew (Nat.le_refl _)))
        | false =>
         obtain ⟨c0, c1, c2, c3, c4, cl⟩ := box5_cells I8.out
         obtain ⟨d0, d1, d2, dl⟩ := box3_cells F8.out
         go_upto_region 22 with fail
         have T8 := hid ST8.out.tb
         obtain ⟨al8, cl8, hv8⟩ : ∃ al8 cl8, vr = .slice al8 t'.rows.length cl8 := by
          obtain ⟨x1, x2, x3, _⟩ := ST8.out.tb.rows.slice
          exact ⟨x1, x2, x3⟩
         subst hv8
         obtain ⟨t0, t1, t2, tl, tf0, tf1, tf2⟩ := ST8.out.tb.cells
         have S0 : w8.drew.cell? ⟨Bt, 0, none⟩ = some (.slice al8 t'.rows.length cl8) ∧ w8.drew.cell? ⟨Db, 0, none⟩ = some (.string ⟨loc.toArray⟩) ∧ w8.drew.cell? ⟨Ib, 0, none⟩ = some (.string ⟨xp.toArray⟩) ∧ Below w8.heap.size w8 w8.drew := ⟨t0, d0, c0, (Below.refl _ _).drew⟩
         have KF : Hid (∀ W, (W.cell? ⟨Bt, 0, none⟩ = some (.slice al8 t'.rows.length cl8) ∧ W.cell? ⟨Db, 0, none⟩ = some (.string ⟨loc.toArray⟩) ∧ W.cell? ⟨Ib, 0, none⟩ = some (.string ⟨xp.toArray⟩) ∧ Below w8.heap.size w8 W) → Calls Tryz.prog 45 #[.slice al8 t'.rows.length cl8, .string ⟨loc.toArray⟩, .string ⟨xp.toArray⟩] W (fun e w' => e = .returned (.int .i64 (idxR t'.rows loc xp)) ∧ (w'.cell? ⟨Bt, 0, none⟩ = some (.slice al8 t'.rows.length cl8) ∧ w'.cell? ⟨Db, 0, none⟩ = some (.string ⟨loc.toArray⟩) ∧ w'.cell? ⟨Ib, 0, none⟩ = some (.string ⟨xp.toArray⟩) ∧ Below w8.heap.size w8 w'))) := fun W h => by
          refine (rfind12_any W _ t'.rows loc xp (ST8.out.tb.rows.rd.below h.2.2.2)).mono ?_
          rintro e w' ⟨rfl, hb'⟩
          have hb2 := h.2.2.2.then hb'
          have tb2 := (ST8.out.below hb2).tb.cells
          exact ⟨rfl, tb2.1, (box3_cells ((hb2.block _ (lt_of_block F8.out)).trans F8.out)).1, (box5_cells ((hb2.block _ (lt_of_block I8.out)).trans I8.out)).1, hb2⟩
         first
          | (go_region_held3 (fun W => W.cell? ⟨Bt, 0, none⟩ = some (.slice al8 t'.rows.length cl8) ∧ W.cell? ⟨Db, 0, none⟩ = some (.string ⟨loc.toArray⟩) ∧ W.cell? ⟨Ib, 0, none⟩ = some (.string ⟨xp.toArray⟩) ∧ Below w8.heap.size w8 W) (first | assumption) (first
            | (go_at_call 45; refine (KF.out _ (by assumption)).mono ?_; rintro e w' ⟨rfl, hs'⟩)))
          | fail "r22"
         rename World => w9
         have hs9 : w9.cell? ⟨Bt, 0, none⟩ = some (.slice al8 t'.rows.length cl8) ∧ w9.cell? ⟨Db, 0, none⟩ = some (.string ⟨loc.toArray⟩) ∧ w9.cell? ⟨Ib, 0, none⟩ = some (.string ⟨xp.toArray⟩) ∧ Below w8.heap.size w8 w9 := by assumption
         have HB9 := hid hs9.2.2.2
         clear hs9 S0 KF
         have ST9 := hid (ST8.out.below HB9.out)
         have F9 := hid ((HB9.out.block _ (lt_of_block F8.out)).trans F8.out)
         have I9 := hid ((HB9.out.block _ (lt_of_block I8.out)).trans I8.out)
         clear t0 t1 t2 tl tf0 tf1 tf2 c0 c1 c2 c3 c4 cl d0 d1 d2 dl T8 HB9 ST8 F8 I8
         obtain ⟨t0, t1, t2, tl, tf0, tf1, tf2⟩ := ST9.out.tb.cells
         obtain ⟨c0, c1, c2, c3, c4, cl⟩ := box5_cells I9.out
         obtain ⟨d0, d1, d2, dl⟩ := box3_cells F9.out
         rcases idxR_cases t'.rows loc xp with ⟨hi, hf⟩ | ⟨k, hk, hi, hf⟩
         ·rw [hi]
          have HF := hid hf
          clear hi hf
          obtain ⟨ap, cp9, hvp⟩ := own_sliceS ST9.out.tb.paths
          subst hvp
          have HHP := hid (rHas_any w9 _ t'.paths xp ST9.out.tb.paths.rd)
          have HRW := hid (itemF_row (t := t') (loc := loc) (f := n) (x := ⟨xp, xv, false, xd, xa⟩) HGOOD.out rfl)
          rw [show findR t'.rows loc (⟨xp, xv, false, xd, xa⟩ : Itm).path = none from HF.out] at HRW
          cases hmp : t'.paths.contains xp with
          | true =>
           rw [hmp] at HHP
           have HI := hid (show itemF t' loc n ⟨xp, xv, false, xd, xa⟩ = (0, { t' with rows := t'.rows ++ [⟨loc, xp, xv, n, xa⟩] }) by rw [HRW.out]; simp only; rw [if_pos (by simpa using hmp)])
           have HOK := hid (show TbOk { t' with rows := t'.rows ++ [⟨loc, xp, xv, n, xa⟩] } by have := item_ok ST9.out.ok loc n ⟨xp, xv, false, xd, xa⟩; rw [HI.out] at this; exact this)
           clear hmp
           go_wp2_with (go_at_call 42; refine HHP.out.mono ?_; rintro e wx ⟨rfl, rfl⟩)
           rename World => w9
           have HAD := hid (show Below w9.heap.size w9 (w9.alloc (.cells #[.string ⟨loc.toArray⟩, .string ⟨xp.toArray⟩, .string ⟨xv.toArray⟩, .int .i64 n, .int .i64 xa] 56)).drew from ((Below.refl _ _).alloc (Nat.le_refl _) _).drew)
           have STA := hid (ST9.out.below HAD.out)
           have RA := hid (show ((w9.alloc (.cells #[.string ⟨loc.toArray⟩, .string ⟨xp.toArray⟩, .string ⟨xv.toArray⟩, .int .i64 n, .int .i64 xa] 56)).drew).heap[w9.heap.size]? = _ from heap_alloc_new w9 (.cells #[.string ⟨loc.toArray⟩, .string ⟨xp.toArray⟩, .string ⟨xv.toArray⟩, .int .i64 n, .int .i64 xa] 56))
           have HBZ := hid (show w.heap.size.succ ≤ ((w9.alloc (.cells #[.string ⟨loc.toArray⟩, .string ⟨xp.toArray⟩, .string ⟨xv.toArray⟩, .int .i64 n, .int .i64 xa] 56)).drew).heap.size from lt_of_block STA.out.f)
           have FA := hid ((HAD.out.block _ (lt_of_block F9.out)).trans F9.out)
           have IA := hid ((HAD.out.block _ (lt_of_block I9.out)).trans I9.out)
           have hne1 : ¬ Db = Bt := fun e => HDB.out e.symm
           have hne2 : ¬ Ib = Bt := fun e => HIB.out e.symm
           have S0 : w9.drew.cell? ⟨Db, 0, none⟩ = some (.string ⟨loc.toArray⟩) ∧ w9.drew.cell? ⟨Ib, 0, none⟩ = some (.string ⟨xp.toArray⟩) ∧ w9.drew.cell? ⟨Ib, 1, none⟩ = some (.string ⟨xv.toArray⟩) ∧ w9.drew.cell? ⟨Ib, 4, none⟩ = some (.int .i64 xa) := ⟨d0, c0, c1, c4⟩
           have HRL := hid (show t'.rows.length + 1 ≤ 100000 by have := HCO4.out; unfold sizeT at this; omega)
           have KB := hid (fun (W : World) (gr : ((w9.alloc (.cells #[.string ⟨loc.toArray⟩, .string ⟨xp.toArray⟩, .string ⟨xv.toArray⟩, .int .i64 n, .int .i64 xa] 56)).drew).grownBy W (Value.slice al8 t'.rows.length cl8).ownBlock) => box_turned0 STA.out.tb.rows gr STA.out.tb.box (by decide))
           obtain ⟨aB, cB, wB, hrun, ownB, grB, mvB⟩ := run_pushE (E := encR) (w9.alloc (.cells #[.string ⟨loc.toArray⟩, .string ⟨xp.toArray⟩, .string ⟨xv.toArray⟩, .int .i64 n, .int .i64 xa] 56)).drew Tryz.underlying88 infoR rfl (by decide) w.heap.size.succ (.slice al8 t'.rows.length cl8) t'.rows ⟨loc, xp, xv, n, xa⟩ #[.string ⟨loc.toArray⟩, .string ⟨xp.toArray⟩, .string ⟨xv.toArray⟩, .int .i64 n, .int .i64 xa] (by exact rfl) STA.out.tb.rows w9.heap.size RA.out (by have := HRL.out; unfold maxLen; omega) (by have := HRL.out; omega) HBZ.out
           obtain ⟨tt0, tt1, tt2, ttl⟩ := box3_cells (KB.out wB grB)
           obtain ⟨ttf0, ttf1, ttf2⟩ := box3_frozen (KB.out wB grB)
           have OWB := hid ownB
           have GRB := hid grB
           have MVB := hid mvB
           clear ownB grB mvB S0
           first
            | go_region
            | fail "r30"
           all_goals
            have TBB := hid (STA.out.tb.addRow OWB.out GRB.out MVB.out)
            have STB := hid (STA.out.turned STA.out.tb.rows GRB.out TBB.out HOK.out)
            have FB := hid (box_turned (Bt := Bt) STA.out.tb.rows GRB.out FA.out (by decide) 0 (.slice aB (t'.rows.length + 1) cB) (fun e => HDB.out e.symm))
            have HN2 := hid (HNX.out _ HI.out)
            go_wp2_with fail
            go_roundg (gk - 1)
            case measure => have := HG2.out; omega
            case rel => exact ⟨m + 1, _, _, _, _, by omega, by have := HG2.out; omega, by simp, STB.out, FB.out, HN2.out, by have := HCO4.out; unfold sizeT at this ⊢; simp; omega⟩
          | false =>
           rw [hmp] at HHP
           have HNP := hid (show ¬ xp ∈ t'.paths from fun h => by have h2 : t'.paths.contains xp = true := (by simpa using h); exact absurd h2 (by rw [hmp]; simp))
           clear hmp
           by_cases hful : t'.paths.length = 16384
           ·have hfl : ((t'.paths.length : Int) == 16384) = true := by rw [beq_iff_eq]; omega
            have HI := hid (show itemF t' loc n ⟨xp, xv, false, xd, xa⟩ = (3, t') by rw [HRW.out]; simp only; rw [if_neg HNP.out, if_pos hful])
            clear hful
            have HRES := hid (show newF l = (⟨3, n, xa⟩, t') by rw [HRUN3.out, HSP.out 3 t' HI.out (by decide)]; rfl)
            obtain ⟨z0, z1, z2, zl, zf0, zf1, zf2⟩ := ST9.out.wrong
            go_wp2_with (go_at_call 42; refine HHP.out.mono ?_; rintro e wx ⟨rfl, rfl⟩)
            rename World => w9
            first
             | go_region
             | fail "ret3"
            all_goals
             go_wp2_with fail
             refine rnew_ret (V := P3 w9.drew w.heap.size _ _ _) (Pb := w.heap.size) (e := 3) (f := n) (a := xa) (P3_row (W := w9.drew) _ _ _ ST9.out.f) rfl rfl rfl (rnew_bad (e := 3) HRES.out (by decide) (P3_below _ _ _ ST9.out.bel.drew (Nat.le_refl _)))
           ·have hfl : ((t'.paths.length : Int) == 16384) = false := by rw [beq_eq_false_iff_ne]; omega
            have HI := hid (show itemF t' loc n ⟨xp, xv, false, xd, xa⟩ = (0, { t' with rows := t'.rows ++ [⟨loc, xp, xv, n, xa⟩], paths := t'.paths ++ [xp] }) by rw [HRW.out]; simp only; rw [if_neg HNP.out, if_neg hful])
            have HOK := hid (show TbOk { t' with rows := t'.rows ++ [⟨loc, xp, xv, n, xa⟩], paths := t'.paths ++ [xp] } by have := item_ok ST9.out.ok loc n ⟨xp, xv, false, xd, xa⟩; rw [HI.out] at this; exact this)
            have HPL9 := hid ST9.out.ok.p16
            have HBY := hid (show w.heap.size.succ ≤ w9.heap.size from lt_of_block ST9.out.f)
            clear hful
            go_upto_region 30 with (first
             | (go_at_call 42; refine HHP.out.mono ?_; rintro e wx ⟨rfl, rfl⟩)
             | (at_builtin; refine wpList_pushS rfl (.tmp 153) (.tmp 156) rfl w.heap.size.succ _ t'.paths xp rfl ST9.out.tb.paths rfl (by have := HPL9.out; omega) HBY.out ?_; intro vp1 w10 own10 gr10 mv10; have OW10 := hid own10; have GR10 := hid gr10; have MV10 := hid mv10; clear own10 gr10 mv10))
            have TB10 := hid (ST9.out.tb.addPath OW10.out GR10.out MV10.out)
            have F10 := hid (box_turned0 ST9.out.tb.paths GR10.out F9.out (by decide))
            have I10 := hid (box_turned0 ST9.out.tb.paths GR10.out I9.out (by decide))
            have W10 := hid (box_turned0 ST9.out.tb.paths GR10.out ST9.out.f (by decide))
            have B10 := hid (ST9.out.bel.grown GR10.out ST9.out.bel.size (fun k hk => by have := (World.ownsRow.lt ST9.out.tb.paths _ hk).1; omega))
            clear t0 t1 t2 tl tf0 tf1 tf2 c0 c1 c2 c3 c4 cl d0 d1 d2 dl ST9 F9 I9 HHP OW10 GR10 MV10
            obtain ⟨t0, t1, t2, tl, tf0, tf1, tf2⟩ := TB10.out.cells
            obtain ⟨c0, c1, c2, c3, c4, cl⟩ := box5_cells I10.out
            obtain ⟨d0, d1, d2, dl⟩ := box3_cells F10.out
            have HAX := hid (show Below w10.heap.size w10 (w10.alloc (.cells #[.string ⟨loc.toArray⟩, .string ⟨xp.toArray⟩, .string ⟨xv.toArray⟩, .int .i64 n, .int .i64 xa] 56)).drew from ((Below.refl _ _).alloc (Nat.le_refl _) _).drew)
            have TBA := hid (TB10.out.below HAX.out)
            have WA := hid ((HAX.out.block _ (lt_of_block W10.out)).trans W10.out)
            have BA := hid (B10.out.then HAX.out)
            have RA := hid (show ((w10.alloc (.cells #[.string ⟨loc.toArray⟩, .string ⟨xp.toArray⟩, .string ⟨xv.toArray⟩, .int .i64 n, .int .i64 xa] 56)).drew).heap[w10.heap.size]? = _ from heap_alloc_new w10 (.cells #[.string ⟨loc.toArray⟩, .string ⟨xp.toArray⟩, .string ⟨xv.toArray⟩, .int .i64 n, .int .i64 xa] 56))
            have HBZ := hid (show w.heap.size.succ ≤ ((w10.alloc (.cells #[.string ⟨loc.toArray⟩, .string ⟨xp.toArray⟩, .string ⟨xv.toArray⟩, .int .i64 n, .int .i64 xa] 56)).drew).heap.size from lt_of_block WA.out)
            have FA := hid ((HAX.out.block _ (lt_of_block F10.out)).trans F10.out)
            have IA := hid ((HAX.out.block _ (lt_of_block I10.out)).trans I10.out)
            have hne1 : ¬ Db = Bt := fun e => HDB.out e.symm
            have hne2 : ¬ Ib = Bt := fun e => HIB.out e.symm
            have S0 : w10.drew.cell? ⟨Db, 0, none⟩ = some (.string ⟨loc.toArray⟩) ∧ w10.drew.cell? ⟨Ib, 0, none⟩ = some (.string ⟨xp.toArray⟩) ∧ w10.drew.cell? ⟨Ib, 1, none⟩ = some (.string ⟨xv.toArray⟩) ∧ w10.drew.cell? ⟨Ib, 4, none⟩ = some (.int .i64 xa) := ⟨d0, c0, c1, c4⟩
            have HRL := hid (show t'.rows.length + 1 ≤ 100000 by have := HCO4.out; unfold sizeT at this; omega)
            have KB := hid (fun (W : World) (gr : ((w10.alloc (.cells #[.string ⟨loc.toArray⟩, .string ⟨xp.toArray⟩, .string ⟨xv.toArray⟩, .int .i64 n, .int .i64 xa] 56)).drew).grownBy W (Value.slice al8 t'.rows.length cl8).ownBlock) => box_turned0 TBA.out.rows gr TBA.out.box (by decide))
            obtain ⟨aB, cB, wB, hrun, ownB, grB, mvB⟩ := run_pushE (E := encR) (w10.alloc (.cells #[.string ⟨loc.toArray⟩, .string ⟨xp.toArray⟩, .string ⟨xv.toArray⟩, .int .i64 n, .int .i64 xa] 56)).drew Tryz.underlying88 infoR rfl (by decide) w.heap.size.succ (.slice al8 t'.rows.length cl8) t'.rows ⟨loc, xp, xv, n, xa⟩ #[.string ⟨loc.toArray⟩, .string ⟨xp.toArray⟩, .string ⟨xv.toArray⟩, .int .i64 n, .int .i64 xa] (by exact rfl) TBA.out.rows w10.heap.size RA.out (by have := HRL.out; unfold maxLen; omega) (by have := HRL.out; omega) HBZ.out
            obtain ⟨tt0, tt1, tt2, ttl⟩ := box3_cells (KB.out wB grB)
            obtain ⟨ttf0, ttf1, ttf2⟩ := box3_frozen (KB.out wB grB)
            have OWB := hid ownB
            have GRB := hid grB
            have MVB := hid mvB
            clear ownB grB mvB S0
            first
             | go_region
             | fail "r30b"
            all_goals
             have TBB := hid (TBA.out.addRow OWB.out GRB.out MVB.out)
             have STB := hid (show RnSt w _ Bt _ va vn vp1 { t' with rows := t'.rows ++ [⟨loc, xp, xv, n, xa⟩], paths := t'.paths ++ [xp] } from ⟨TBB.out, HOK.out, box_turned (Bt := Bt) TBA.out.rows GRB.out WA.out (by decide) 0 _ (by have := TBA.out.lo; omega), (BA.out.grown GRB.out BA.out.size (fun k hk => by have := (World.ownsRow.lt TBA.out.rows _ hk).1; omega)).setCell (p := ⟨Bt, 0, none⟩) (by have := TBA.out.lo; show w.heap.size ≤ Bt; omega) _⟩)
             have FB := hid (box_turned (Bt := Bt) TBA.out.rows GRB.out FA.out (by decide) 0 (.slice aB (t'.rows.length + 1) cB) (fun e => HDB.out e.symm))
             have HN2 := hid (HNX.out _ HI.out)
             go_wp2_with fail
             go_roundg (gk - 1)
             case measure => have := HG2.out; omega
             case rel => exact ⟨m + 1, _, _, _, _, by omega, by have := HG2.out; omega, by simp, STB.out, FB.out, HN2.out, by have := HCO4.out; unfold sizeT at this ⊢; simp; omega⟩
         ·rw [hi]
          have hki : (k : Int) < (t'.rows.length : Int) := by omega
          have hk0 : (0 : Int) ≤ (k : Int) := by omega
          obtain ⟨ao9, cp9, e9, _, _, hc9⟩ := rdR_cells ST9.out.tb.rows.rd
          cases e9
          obtain ⟨p9, o9, rfl, hp9, q0, q1, q2, q3, q4⟩ := hc9 k hk
          have HF := hid hf
          clear hi hf hc9 q0 q1 q3 q4
          generalize t'.rows[k]'hk = y at *
          cases heq : (y.text == xv) with
          | true =>
           have heq2 : (y.text != xv) = false := by unfold bne; rw [heq]; rfl
           have HI := hid (show itemF t' loc n ⟨xp, xv, false, xd, xa⟩ = (0, t') by rw [itemF_row HGOOD.out rfl, show findR t'.rows loc (⟨xp, xv, false, xd, xa⟩ : Itm).path = some y from HF.out]; simp only; rw [if_pos (by simpa using heq)])
           have HN2 := hid (HNX.out _ HI.out)
           go_wp2_with fail
           first
            | go_quiet (fail)
            | fail "q24a"
           go_wp2_with fail
           go_roundg (gk - 1)
           case measure => have := HG2.out; omega
           case rel => exact ⟨m + 1, _, _, _, _, by omega, by have := HG2.out; omega, by simp, ST9.out.below (below_drewN (Below.refl _ _) nq), F9.out, HN2.out, by have := HCO4.out; omega⟩
          | false =>
           have heq2 : (y.text != xv) = true := by unfold bne; rw [heq]; rfl
           have HI := hid (show itemF t' loc n ⟨xp, xv, false, xd, xa⟩ = (220, t') by rw [itemF_row HGOOD.out rfl, show findR t'.rows loc (⟨xp, xv, false, xd, xa⟩ : Itm).path = some y from HF.out]; simp only; rw [if_neg (by simpa using heq)])
           have HRES := hid (show newF l = (⟨220, n, xa⟩, t') by rw [HRUN3.out, HSP.out 220 t' HI.out (by decide)]; rfl)
           obtain ⟨z0, z1, z2, zl, zf0, zf1, zf2⟩ := ST9.out.wrong
           go_wp2_with fail
           first
            | go_quiet (fail)
            | fail "q24b"
           have HB5 := hid (show Below w9.heap.size w9 (w9.drewN nq) from below_drewN (Below.refl _ _) nq)
           clear t0 t1 t2 tl tf0 tf1 tf2 c0 c1 c2 c3 c4 cl d0 d1 d2 dl z0 z1 z2 zl zf0 zf1 zf2 q2
           generalize w9.drewN nq = wA at *
           have STA := hid (ST9.out.below HB5.out)
           have IA := hid ((HB5.out.block _ (lt_of_block I9.out)).trans I9.out)
           clear ST9 F9 I9 HB5
           obtain ⟨c0, c1, c2, c3, c4, cl⟩ := box5_cells IA.out
           obtain ⟨z0, z1, z2, zl, zf0, zf1, zf2⟩ := STA.out.wrong
           go_wp2_with fail
           first
            | go_region
            | fail "ret220"
           all_goals
            go_wp2_with fail
            refine rnew_ret (V := P3 wA.drew w.heap.size _ _ _) (Pb := w.heap.size) (e := 220) (f := n) (a := xa) (P3_row (W := wA.drew) _ _ _ STA.out.f) rfl rfl rfl (rnew_bad (e := 220) HRES.out (by decide) (P3_below _ _ _ STA.out.bel.drew (Nat.le_refl _)))
     ·have hml : m = its.length := by omega
      have hmi : ¬ (m : Int) < (its.length : Int) := by omega
      have HR4 := hid (show newF l = docsF (n + 1) t' (l.drop (n + 1)) by rw [HRUN3.out, HIT.out, hml, List.drop_length]; rfl)
      go_wp2_with fail
      go_roundg (go - 1)
      case measure => have := HG.out; have := HGO.out; omega
      case rel => exact ⟨n + 1, vr, va, vn, t', by omega, by have := HG.out; omega, by simp, ST6.out, HR4.out, by have := HCO3.out; omega⟩
  ·have hni : ¬ (n : Int) < (l.length : Int) := by omega
   have hnl : n = l.length := by omega
   have HRES := hid (show newF l = (Wrg.ok, t) by rw [HRUN.out, hnl, List.drop_length]; rfl)
   obtain ⟨z0, z1, z2, zl, zf0, zf1, zf2⟩ := ST2.out.wrong
   clear HRUN HCO HCELL
   go_wp2_with fail
   exact rnew_ret (Pb := w.heap.size) (v := .pointer (some ⟨Bt, 0, none⟩)) (e := 0) (f := 0) (a := 0) (P3_row _ _ _ ST2.out.f) rfl rfl rfl (rnew_good HRES.out ST2.out)
end Go.Proofs.YtjlfchnnhglbjaaGreat
namespace Go.Proofs.YtjlfchnnhglbjaaGreat
open Go.RowKit Go.Lib Go.Sort Go.Maps Go.WideMaps
set_option maxRecDepth 100000 in
set_option maxHeartbeats 8000000 in
theorem same12_any (w : World) (l : List Dc) (va vb : Value) (ha : RdD w va l) (hb : RdD w vb l) (h12 : l.length ≤ 12) (h40 : ∀ d ∈ l, d.items.length ≤ 40) :
  Calls Tryz.prog 35 #[va, vb] w fun e w' => e = .returned (.bool true) ∧ ∃ q, w' = w.drewN q := by
 obtain ⟨a1, c1, rfl, l1, k1, hc1⟩ := ha.cells
 obtain ⟨a2, c2, rfl, l2, k2, hc2⟩ := hb.cells
 have HC1 := hid hc1
 have HC2 := hid hc2
 have H12 := hid h12
 have H40 := hid h40
 clear ha hb hc1 hc2 h12 h40
 go_enter Tryz.func35, Tryz.ntmps35
 go_wp2_with fail
 go_loopg [14] l.length (fun g v14 W => ∃ n : Nat, n ≤ l.length ∧ l.length ≤ n + g ∧ v14 = .int .i64 n ∧ ∃ q, W = w.drewN q)
 case atStart => exact ⟨0, Nat.zero_le _, by omega, rfl, 0, rfl⟩
 case round =>
  obtain ⟨n, hn, hg, rfl, q, rfl⟩ := hrel
  obtain ⟨go, hgo⟩ : ∃ go, go = gk := ⟨_, rfl⟩
  have HG := hid (show l.length ≤ n + go by rw [hgo]; exact hg)
  have HGO := hid hgo
  clear hg hgo
  by_cases hlt : n < l.length
  ·have hni : (n : Int) < (l.length : Int) := by omega
   have hn0 : (0 : Int) ≤ (n : Int) := by omega
   have h12 : (l.length : Int) ≤ 12 := by have := H12.out; omega
   obtain ⟨p, o, a, c, rfl, hp, r0, r1, r2, hi1⟩ := HC1.out n hlt
   obtain ⟨p', o', a', c', rfl, hp', s0, s1, s2, hi2⟩ := HC2.out n hlt
   have HI := hid (H40.out _ (List.getElem_mem hlt))
   obtain ⟨_, x1, x2, hic1⟩ := RdI.cells hi1
   obtain ⟨_, y1, y2, hic2⟩ := RdI.cells hi2
   have HIC1 := hid hic1
   have HIC2 := hid hic2
   clear hi1 hi2 hic1 hic2
   generalize l[n]'hlt = d at *
   obtain ⟨loc, supp, its⟩ := d
   simp only at r0 r1 r2 s0 s1 s2 HI HIC1 HIC2 x1 x2 y1 y2
   have hl40 : (its.length : Int) ≤ 40 := by have := HI.out; omega
   go_wp2_with fail
   first
    | go_quiet (fail)
    | fail "q6"
   go_wp2_with fail
   go_loopg [62] its.length (fun g v62 W => ∃ m : Nat, m ≤ its.length ∧ its.length ≤ m + g ∧ v62 = .int .i64 m ∧ ∃ q, W = w.drewN q)
   case atStart => exact ⟨0, Nat.zero_le _, by omega, rfl, _, rfl⟩
   case round =>
    obtain ⟨m, hm, hg2, rfl, q2, rfl⟩ := hrel
    have HG2 := hid hg2
    clear hg2
    by_cases hlt2 : m < its.length
    ·have hmi : (m : Int) < (its.length : Int) := by omega
     have hm0 : (0 : Int) ≤ (m : Int) := by omega
     obtain ⟨p2, o2, rfl, hp2, u0, u1, u2, u3, u4⟩ := HIC1.out m hlt2
     obtain ⟨p3, o3, rfl, hp3, w0, w1, w2, w3, w4⟩ := HIC2.out m hlt2
     generalize its[m]'hlt2 = x at *
     obtain ⟨xp, xv, xal, xd, xa⟩ := x
     simp only at u0 u1 u2 u3 u4 w0 w1 w2 w3 w4
     go_wp2_with fail
     first
      | go_quiet (fail)
      | fail "q11"
     go_wp2_with fail
     go_roundg (gk - 1)
     case measure => have := HG2.out; omega
     case rel => exact ⟨m + 1, by omega, by have := HG2.out; omega, by simp, _, rfl⟩
    ·have hmi : ¬ (m : Int) < (its.length : Int) := by omega
     go_wp2_with fail
     go_roundg (go - 1)
     case measure => have := HG.out; have := HGO.out; omega
     case rel => exact ⟨n + 1, by omega, by have := HG.out; omega, by simp, _, rfl⟩
  ·have hni : ¬ (n : Int) < (l.length : Int) := by omega
   go_wp2_with fail
   exact bodyPost_ret (v := .bool true) (by simp [results, Tryz.results35, go_sem]) rfl ⟨rfl, _, rfl⟩
def RowAt (W : World) (g n : Nat) : Prop := ∃ cur, W.heap[g]? = some (.cells cur 35 (0, 0)) ∧ n * 5 ≤ cur.size
theorem RowAt.set {W : World} {g n b i : Nat} {u : Value} (h : RowAt W g n) : RowAt (W.setCell ⟨b, i, none⟩ u) g n := by
 obtain ⟨cur, h1, h2⟩ := h
 by_cases e : g = b
 ·subst e
  exact ⟨_, heap_setCell_same _ _ _ _ _ _ h1, by simp; exact h2⟩
 ·exact ⟨cur, (heap_setCell_other _ _ _ _ e).trans h1, h2⟩
theorem RowAt.below {W W' : World} {g n : Nat} (h : RowAt W g n) (hb : Below W.heap.size W W') : RowAt W' g n := by
 obtain ⟨cur, h1, h2⟩ := h
 exact ⟨cur, (hb.block _ (lt_of_block h1)).trans h1, h2⟩
theorem RowAt.cells {W : World} {g n : Nat} (h : RowAt W g n) (j : Nat) (hj : j < n) : W.frozen? ⟨g, j * 5, none⟩ = false ∧ W.frozen? ⟨g, j * 5 + 1, none⟩ = false ∧ W.frozen? ⟨g, j * 5 + 2, none⟩ = false ∧ W.frozen? ⟨g, j * 5 + 3, none⟩ = false ∧ W.frozen? ⟨g, j * 5 + 4, none⟩ = false ∧ g < W.heap.size ∧
  (∃ u, W.cell? ⟨g, j * 5, none⟩ = some u) ∧ (∃ u, W.cell? ⟨g, j * 5 + 1, none⟩ = some u) ∧ (∃ u, W.cell? ⟨g, j * 5 + 2, none⟩ = some u) ∧ (∃ u, W.cell? ⟨g, j * 5 + 3, none⟩ = some u) ∧ (∃ u, W.cell? ⟨g, j * 5 + 4, none⟩ = some u) := by
 obtain ⟨cur, h1, h2⟩ := h
 have hk : ∀ i, i < 5 → ∃ u, W.cell? ⟨g, j * 5 + i, none⟩ = some u := fun i hi => by
  rw [cell_of_row _ _ _ _ _ _ h1]
  exact ⟨_, Array.getElem?_eq_getElem (by omega)⟩
 exact ⟨frozen_of_row _ _ _ _ _ h1, frozen_of_row _ _ _ _ _ h1, frozen_of_row _ _ _ _ _ h1, frozen_of_row _ _ _ _ _ h1, frozen_of_row _ _ _ _ _ h1, lt_of_block h1, hk 0 (by decide), hk 1 (by decide), hk 2 (by decide), hk 3 (by decide), hk 4 (by decide)⟩
structure SpoSt (w V W : World) (C : Nat) (v : Value) (zs : List (Dc × (Option Addr × Nat))) : Prop where
 docs : OwnL encD 27 W w.heap.size v zs
 rows : ∀ z ∈ zs, z.1.items.length ≠ 0 → ∃ g, z.2.1 = some ⟨g, 0, none⟩ ∧ RowAt W g z.1.items.length ∧ w.heap.size ≤ g ∧ g < C
 old : ∀ k, C ≤ k → k < V.heap.size → W.heap[k]? = V.heap[k]?
 size : V.heap.size ≤ W.heap.size
 bel : Below w.heap.size w W
section
variable {w V W W' : World} {C : Nat} {v : Value} {zs : List (Dc × (Option Addr × Nat))}
theorem SpoSt.below (h : SpoSt w V W C v zs) (hb : Below W.heap.size W W') : SpoSt w V W' C v zs := by
 refine ⟨h.docs.below hb, fun z hz hn => ?_, fun k h1 h2 => (hb.block _ (by have := h.size; omega)).trans (h.old k h1 h2), Nat.le_trans h.size hb.size, h.bel.then hb⟩
 obtain ⟨g, h1, h2, h3, h4⟩ := h.rows z hz hn
 exact ⟨g, h1, h2.below hb, h3, h4⟩
theorem SpoSt.set (h : SpoSt w V W C v zs) {g : Nat} (hg : w.heap.size ≤ g ∧ g < C) (hr : ∃ cur, W.heap[g]? = some (.cells cur 35 (0, 0))) (i : Nat) (u : Value) : SpoSt w V (W.setCell ⟨g, i, none⟩ u) C v zs := by
 obtain ⟨cur, hr⟩ := hr
 refine ⟨own_set h.docs (own_type h.docs hr (by decide)) _ _, fun z hz hn => ?_, fun k h1 h2 => (heap_setCell_other _ _ _ _ (by simp; omega)).trans (h.old k h1 h2), by simp; exact h.size, h.bel.setCell (p := ⟨g, i, none⟩) hg.1 u⟩
 obtain ⟨g2, h1, h2, h3, h4⟩ := h.rows z hz hn
 exact ⟨g2, h1, h2.set, h3, h4⟩
end
theorem TbP.agree {B : Nat} {W W' : World} {pt : Nat} {t : Tb} (h : TbP B W pt t) (he : ∀ k, B ≤ k → k < W.heap.size → W'.heap[k]? = W.heap[k]?) (hz : W.heap.size ≤ W'.heap.size) : TbP B W' pt t := by
 obtain ⟨bv, ba, bn, bp, N, V, ⟨⟨a1, a2, a3, a4, a5, a6, a7, a8, a9, a10⟩, lo, h3⟩⟩ := h
 obtain ⟨l1, l2, l3, l4, l5⟩ := lo
 exact ⟨bv, ba, bn, bp, N, V, ⟨⟨(he _ l1 (lt_of_block a1)).trans a1, a2.block (he _ l2 a2.lt), a3.block (he _ l3 a3.lt), a4.block (he _ l4 a4.lt), a5.block (he _ l5 a5.lt), fun p hp => (a6 p hp).block (he _ (h3 p hp) (a6 p hp).lt), a7, a8, a9, a10⟩, ⟨l1, l2, l3, l4, l5⟩, h3⟩⟩
theorem own_agree' {w w' : World} {B k n : Nat} {e : TypeId} {v : Value} {xs : List Value} (h : w.ownsRow B e k v n xs) (he : ∀ j, B ≤ j → j < w.heap.size → w'.heap[j]? = w.heap[j]?) : w'.ownsRow B e k v n xs := by
 refine ⟨h.1, ?_⟩
 rcases h.2 with h | ⟨g, cap, cur, h1, h2, h3, h4⟩
 ·exact Or.inl h
 ·exact Or.inr ⟨g, cap, cur, h1, h2, (he g h2 (lt_of_block h3)).trans h3, h4⟩
theorem RfP.agree' {B : Nat} {W W' : World} {Bt : Nat} {t : Tb} (h : RfP B W Bt t) (he : ∀ k, B ≤ k → k < W.heap.size → W'.heap[k]? = W.heap[k]?) : RfP B W' Bt t := by
 obtain ⟨vr, va, vn, h1, h2, h3, h4, h5⟩ := h
 exact ⟨vr, va, vn, (he _ h5 (lt_of_block h1)).trans h1, own_agree' h2 he, own_agree' h3 he, own_agree' h4 he, h5⟩
theorem TbP.lower {B C : Nat} {W : World} {pt : Nat} {t : Tb} (h : TbP B W pt t) (hc : C ≤ B) : TbP C W pt t := by
 obtain ⟨bv, ba, bn, bp, N, V, h⟩ := h
 exact ⟨bv, ba, bn, bp, N, V, h.lower hc⟩
theorem RfP.lower {B C : Nat} {W : World} {pt : Nat} {t : Tb} (h : RfP B W pt t) (hc : C ≤ B) : RfP C W pt t := by
 obtain ⟨vr, va, vn, h1, h2, h3, h4, h5⟩ := h
 exact ⟨vr, va, vn, h1, h2.mono hc, h3.mono hc, row_mono h4 hc, Nat.le_trans hc h5⟩
theorem cutD_again {l : List Dc} (h12 : l.length ≤ 12) (h40 : ∀ d ∈ l, d.items.length ≤ 40) : cutD l = l := by
 unfold cutD
 rw [List.take_of_length_le h12]
 conv => rhs; rw [← List.map_id l]
 refine List.map_congr_left (fun d hd => ?_)
 obtain ⟨loc, supp, its⟩ := d
 show (⟨loc, supp, its.take 40⟩ : Dc) = ⟨loc, supp, its⟩
 rw [List.take_of_length_le (h40 _ hd)]
def MadeOut (w : World) (l : List Dc) (x : Ending) (w' : World) : Prop :=
  Below w.heap.size w w' ∧
    (((newF l).1.err = 0 ∧ ∃ Bt Br, x = .returned (.tuple #[.pointer (some ⟨Bt, 0, none⟩), .pointer (some ⟨Br, 0, none⟩), .bool true]) ∧ TbP w.heap.size w' Bt (newF l).2 ∧ RfP w.heap.size w' Br (newF l).2 ∧ TbOk (newF l).2) ∨
     ((newF l).1.err ≠ 0 ∧ x = .returned (.tuple #[.pointer none, .pointer none, .bool true])))
def Two (w W : World) (l : List Dc) (vt vr : Value) : Prop :=
 ((newF l).1.err = 0 ∧ ∃ Bt Br, vt = .pointer (some ⟨Bt, 0, none⟩) ∧ vr = .pointer (some ⟨Br, 0, none⟩) ∧ TbP w.heap.size W Bt (newF l).2 ∧ RfP w.heap.size W Br (newF l).2 ∧ TbOk (newF l).2) ∨
 ((newF l).1.err ≠ 0 ∧ vt = .pointer none ∧ vr = .pointer none)
theorem Two.below {w W W' : World} {l : List Dc} {vt vr : Value} (h : Two w W l vt vr) (hb : Below W.heap.size W W') : Two w W' l vt vr := by
 rcases h with ⟨h1, Bt, Br, h2, h3, h4, h5, h6⟩ | h
 ·exact Or.inl ⟨h1, Bt, Br, h2, h3, h4.below hb, h5.below hb, h6⟩
 ·exact Or.inr h
set_option maxRecDepth 100000 in
set_option maxHeartbeats 16000000 in
theorem made12_any (w : World) (l : List Dc) (v : Value) (hd : RdD w v l) (hs : SzL l) (h12 : l.length ≤ 12) (h40 : ∀ d ∈ l, d.items.length ≤ 40) :
  Calls Tryz.prog 14 #[v] w fun x w' => MadeOut w l x w' := by
 have HD := hid hd
 have HSZ := hid (szD_of hs (by omega) (fun d h => by have := h40 d h; omega))
 have HCO := hid (show costD l ≤ 100000 by have h1 := costD_le' l 40 h40; have h2 : (4 * 40 + 1) * l.length ≤ 161 * 12 := Nat.mul_le_mul_left _ h12; omega)
 have H12 := hid h12
 have H40 := hid h40
 have CU := hid (fun W h => cut_any W l v h)
 rw [cutD_again h12 h40] at CU
 clear hd hs h12 h40
 go_enter Tryz.func14, Tryz.ntmps14
 go_wp2_with fail
 refine (CU.out w HD.out).mono ?_
 rintro e w1 ⟨v1, rfl, ⟨zs, hzl, hzo, hze⟩, hb1⟩
 have OD1 := hid (show OwnD w1 w.heap.size v1 l from ⟨zs, hzl, hzo, hze⟩)
 have HZL := hid hzl
 have HZO := hid hzo
 have HZE := hid hze
 have B1 := hid hb1
 have HD1 := hid (show RdD w1 v l from by
  obtain ⟨zs, h1, h2, h3⟩ := HD.out
  exact ⟨zs, h1, h2.below hb1, fun z hz => (h3 z hz).below hb1⟩)
 clear hzl hzo hze hb1 HD CU
 go_wp2_with fail
 refine (rtnew_any w1 l v HD1.out HSZ.out HCO.out).mono ?_
 rintro x2 w2 ⟨hb2, hx2⟩
 have B2 := hid hb2
 have OD2 := hid (OD1.out.below hb2)
 obtain ⟨vr, e2, f2, a2, hx2e, hx2d⟩ : ∃ vr e2 f2 a2, x2 = .returned (.tuple #[vr, .agg #[.int .i64 e2, .int .i64 f2, .int .i64 a2]]) ∧
   (((newF l).1.err = 0 ∧ e2 = 0 ∧ f2 = 0 ∧ a2 = 0 ∧ ∃ Br, vr = .pointer (some ⟨Br, 0, none⟩) ∧ RfP w1.heap.size w2 Br (newF l).2 ∧ TbOk (newF l).2) ∨ ((newF l).1.err ≠ 0 ∧ e2 = ((newF l).1.err : Int) ∧ f2 = (newF l).1.file ∧ a2 = (newF l).1.at' ∧ vr = .pointer none)) := by
  rcases hx2 with ⟨hz, Br, rfl, rp, ok⟩ | ⟨hz, rfl⟩
  ·exact ⟨_, _, _, _, rfl, Or.inl ⟨hz, rfl, rfl, rfl, Br, rfl, rp, ok⟩⟩
  ·exact ⟨_, _, _, _, rfl, Or.inr ⟨hz, rfl, rfl, rfl, rfl⟩⟩
 subst hx2e
 have X2 := hid hx2d
 clear hb2 hx2 hx2d OD1
 have HA3 := hid (show Below w2.heap.size w2 (w2.alloc (.cells #[.int .i64 e2, .int .i64 f2, .int .i64 a2] 30)) from (Below.refl _ _).alloc (Nat.le_refl _) _)
 have F3 := hid (heap_alloc_new w2 (.cells #[.int .i64 e2, .int .i64 f2, .int .i64 a2] 30))
 go_upto_region 3 with fail
 generalize w2.alloc (.cells #[.int .i64 e2, .int .i64 f2, .int .i64 a2] 30) = w3 at *
 have OD3 := hid (OD2.out.below HA3.out)
 go_wp2_with fail
 refine (tnew_any w3 l v1 OD3.out.rd HSZ.out).mono ?_
 rintro x4 w4 ⟨hb4, hx4⟩
 have B4 := hid hb4
 have OD4 := hid (OD3.out.below hb4)
 have F4 := hid ((hb4.block _ (lt_of_block F3.out)).trans F3.out)
 obtain ⟨vt, e4, f4, a4, hx4e, hx4d⟩ : ∃ vt e4 f4 a4, x4 = .returned (.tuple #[vt, .agg #[.int .i64 e4, .int .i64 f4, .int .i64 a4]]) ∧
   (((newF l).1.err = 0 ∧ e4 = 0 ∧ f4 = 0 ∧ a4 = 0 ∧ ∃ Bt, vt = .pointer (some ⟨Bt, 0, none⟩) ∧ TbP w3.heap.size w4 Bt (newF l).2) ∨ ((newF l).1.err ≠ 0 ∧ e4 = ((newF l).1.err : Int) ∧ f4 = (newF l).1.file ∧ a4 = (newF l).1.at' ∧ vt = .pointer none)) := by
  rcases hx4 with ⟨hz, Bt, bv, ba, bn, bp, N, V, rfl, tb, ok⟩ | ⟨hz, rfl⟩
  ·exact ⟨_, _, _, _, rfl, Or.inl ⟨hz, rfl, rfl, rfl, Bt, rfl, bv, ba, bn, bp, N, V, tb⟩⟩
  ·exact ⟨_, _, _, _, rfl, Or.inr ⟨hz, rfl, rfl, rfl, rfl⟩⟩
 subst hx4e
 have X4 := hid hx4d
 clear hb4 hx4 hx4d OD3 F3 OD2
 have HA5 := hid (show Below w4.heap.size w4 (w4.alloc (.cells #[.int .i64 e4, .int .i64 f4, .int .i64 a4] 30)) from (Below.refl _ _).alloc (Nat.le_refl _) _)
 have F5 := hid (heap_alloc_new w4 (.cells #[.int .i64 e4, .int .i64 f4, .int .i64 a4] 30))
 go_upto_region 4 with fail
 generalize w4.alloc (.cells #[.int .i64 e4, .int .i64 f4, .int .i64 a4] 30) = w5 at *
 have G5 := hid ((HA5.out.block _ (lt_of_block F4.out)).trans F4.out)
 have OD5 := hid (OD4.out.below HA5.out)
 have B25 := hid ((HA3.out.then B4.out).then HA5.out)
 have B15 := hid (B2.out.then B25.out)
 have B05 := hid (B1.out.then B15.out)
 have HD5 := hid (show RdD w5 v l from by
  obtain ⟨zs, h1, h2, h3⟩ := HD1.out
  exact ⟨zs, h1, h2.below B15.out, fun z hz => (h3 z hz).below B15.out⟩)
 have TW5 := hid (show e2 = e4 ∧ f2 = f4 ∧ a2 = a4 ∧ (vt = .pointer none ↔ vr = .pointer none) ∧ ((∃ p, vt = .pointer p) ∧ ∃ p, vr = .pointer p) ∧ Two w1 w5 l vt vr from by
  rcases X2.out with ⟨z2, rfl, rfl, rfl, Br, rfl, rp, ok⟩ | ⟨z2, rfl, rfl, rfl, rfl⟩
  ·rcases X4.out with ⟨z4, rfl, rfl, rfl, Bt, rfl, tp⟩ | ⟨z4, _⟩
   ·refine ⟨rfl, rfl, rfl, ⟨fun h => (by cases h), fun h => (by cases h)⟩, ⟨⟨_, rfl⟩, _, rfl⟩, Or.inl ⟨z2, Bt, Br, rfl, rfl, (tp.below HA5.out).lower ?_, rp.below B25.out, ok⟩⟩
    exact Nat.le_trans B2.out.size HA3.out.size
   ·exact absurd z2 z4
  ·rcases X4.out with ⟨z4, _⟩ | ⟨z4, rfl, rfl, rfl, rfl⟩
   ·exact absurd z4 z2
   ·exact ⟨rfl, rfl, rfl, ⟨fun _ => rfl, fun _ => rfl⟩, ⟨⟨_, rfl⟩, _, rfl⟩, Or.inr ⟨z2, rfl, rfl⟩⟩)
 clear X2 X4 F4 HA3 HA5 B25 B2 B4 HD1 OD4
 obtain ⟨rfl, rfl, rfl, hnil, ⟨⟨pt, rfl⟩, pr, rfl⟩, htwo⟩ := TW5.out
 have TW := hid htwo
 have HNIL := hid hnil
 clear htwo hnil TW5
 generalize w2.heap.size = A2 at *
 generalize w4.heap.size = A4 at *
 obtain ⟨x0, x1, x2, xl⟩ := box3_cells F5.out
 obtain ⟨y0, y1, y2, yl⟩ := box3_cells G5.out
 obtain ⟨a5, c5, rfl, hc5⟩ := OD5.out.slice
 have SM := hid (same12_any w5 l _ v OD5.out.rd HD5.out H12.out H40.out)
 have hpq : (pt.isNone == pr.isNone) = true := by
  have := HNIL.out
  cases pt <;> cases pr <;> simp at this ⊢
 go_wp2_with (go_at_call 35; refine SM.out.mono ?_; rintro e w6 ⟨rfl, q6, rfl⟩)
 have HB6 := hid (show Below w5.heap.size w5 (w5.drewN q6) from below_drewN (Below.refl _ _) q6)
 have TW6 := hid (TW.out.below HB6.out)
 have B06 := hid (B05.out.then HB6.out)
 have B16 := hid (B15.out.then HB6.out)
 clear x0 x1 x2 xl y0 y1 y2 yl F5 G5 SM TW B05 B15 HD5 OD5 HB6 HSZ HCO
 generalize w5.drewN q6 = w6 at *
 obtain ⟨az, cz, e, hcz⟩ := HZO.out.slice
 have hlz : zs.length = l.length := by have := congrArg List.length HZL.out; rwa [List.length_map] at this
 rw [hlz] at e
 cases e
 have ST0 := hid (show SpoSt w w6 w6 w1.heap.size (.slice a5 l.length c5) zs from
  ⟨HZO.out.below B16.out, fun z hz hn => (by
   have h := HZE.out z hz
   obtain ⟨zd, za, zc⟩ := z
   simp only at h hn
   rcases h.shape with ⟨_, e⟩ | ⟨g, cap, cur, e, h1, h2, h3, h4, h5, _⟩
   ·rw [e] at hn; exact absurd rfl hn
   ·cases e
    exact ⟨g, rfl, RowAt.below ⟨cur, h2, (show zd.items.length * 5 ≤ cur.size by rw [h5]; exact Nat.mul_le_mul_right 5 h3)⟩ B16.out, h1, lt_of_block h2⟩), fun k h1 h2 => rfl, Nat.le_refl _, B06.out⟩)
 have HB1 := hid B1.out.size
 have HLZ := hid hlz
 clear HZO HZE hlz hcz B06 B16 B1 hpq HNIL
 go_loopg [41] l.length (fun g v41 W => ∃ n : Nat, n ≤ l.length ∧ l.length ≤ n + g ∧ v41 = .int .i64 n ∧ SpoSt w w6 W w1.heap.size (.slice a5 l.length c5) zs)
 case atStart => exact ⟨0, Nat.zero_le _, by omega, rfl, ST0.out⟩
 case round =>
  obtain ⟨n, hn, hg, rfl, st⟩ := hrel
  rename World => w7
  obtain ⟨go, hgo⟩ : ∃ go, go = gk := ⟨_, rfl⟩
  have HG := hid (show l.length ≤ n + go by rw [hgo]; exact hg)
  have HGO := hid hgo
  have ST7 := hid st
  clear hg st hgo ST0
  by_cases hlt : n < l.length
  ·have hni : (n : Int) < (l.length : Int) := by omega
   have hn0 : (0 : Int) ≤ (n : Int) := by omega
   have hnz : n < zs.length := by have := HLZ.out; omega
   obtain ⟨gd, rfl⟩ := OwnL.some' ST7.out.docs (by intro e; rw [e] at hnz; simp at hnz)
   have HZ := hid (List.getElem_mem hnz)
   have HI := hid (H40.out (zs[n]'hnz).1 (by rw [← HZL.out]; exact List.mem_map_of_mem (List.getElem_mem hnz)))
   have hl12 : (l.length : Int) ≤ 12 := by have := H12.out; omega
   obtain ⟨r0, rf0, rl⟩ := ST7.out.docs.cell n 0 (.string ⟨(zs[n]'hnz).1.loc.toArray⟩) hnz rfl
   obtain ⟨r1, rf1, _⟩ := ST7.out.docs.cell n 1 (.bool (zs[n]'hnz).1.supp) hnz rfl
   obtain ⟨r2, rf2, _⟩ := ST7.out.docs.cell n 2 (.slice (zs[n]'hnz).2.1 (zs[n]'hnz).1.items.length (zs[n]'hnz).2.2) hnz rfl
   rw [Nat.add_zero] at r0
   have HR := hid (fun W (h : SpoSt w w6 W w1.heap.size (.slice (some ⟨gd, 0, none⟩) l.length c5) zs) => h.rows _ HZ.out)
   generalize zs[n]'hnz = z at *
   obtain ⟨⟨loc, supp, its⟩, az, cz⟩ := z
   simp only at r0 r1 r2 HR HI
   have hl40 : (its.length : Int) ≤ 40 := by have := HI.out; omega
   clear rf0 rf1 rf2
   go_upto_region 9 with fail
   have HA8 := hid (show Below w7.heap.size w7 (w7.alloc (.cells #[.string ⟨loc.toArray⟩, .bool supp, .slice az its.length cz] 27)) from (Below.refl _ _).alloc (Nat.le_refl _) _)
   have F8 := hid (heap_alloc_new w7 (.cells #[.string ⟨loc.toArray⟩, .bool supp, .slice az its.length cz] 27))
   generalize w7.alloc (.cells #[.string ⟨loc.toArray⟩, .bool supp, .slice az its.length cz] 27) = w8 at *
   have ST8 := hid (ST7.out.below HA8.out)
   clear ST7 HA8 r0 r1 r2 rl
   generalize w7.heap.size = Db at *
   obtain ⟨d0, d1, d2, dl⟩ := box3_cells F8.out
   go_wp2_with fail
   go_loopg [48] its.length (fun g v48 W => ∃ m : Nat, m ≤ its.length ∧ its.length ≤ m + g ∧ v48 = .int .i64 m ∧ SpoSt w w6 W w1.heap.size (.slice (some ⟨gd, 0, none⟩) l.length c5) zs ∧ W.heap[Db]? = some (.cells #[.string ⟨loc.toArray⟩, .bool supp, .slice az its.length cz] 27 (0, 0)))
   case atStart => exact ⟨0, Nat.zero_le _, by omega, rfl, ST8.out, F8.out⟩
   case round =>
    obtain ⟨m, hm, hg2, rfl, st, fd⟩ := hrel
    rename World => w9
    have HG2 := hid hg2
    have ST9 := hid st
    have F9 := hid fd
    clear hg2 st fd ST8 F8 d0 d1 d2 dl
    by_cases hlt2 : m < its.length
    ·have hmi : (m : Int) < (its.length : Int) := by omega
     have hm0 : (0 : Int) ≤ (m : Int) := by omega
     obtain ⟨g, rfl, hrow, hg1, hgc⟩ := HR.out _ ST9.out (by omega)
     have HGB := hid (And.intro hg1 hgc)
     have HIR := hid (show ∃ cur, w9.heap[g]? = some (.cells cur 35 (0, 0)) from by obtain ⟨cur, h, _⟩ := hrow; exact ⟨cur, h⟩)
     have HNE := hid (show Db ≠ g from by
      rintro rfl
      obtain ⟨cur, h⟩ := HIR.out
      rw [F9.out] at h
      have := Option.some.inj h
      injection this with _ e _
      revert e; decide)
     obtain ⟨f0, f1, f2, f3, f4, gl, ⟨u0, c0⟩, ⟨u1, c1⟩, ⟨u2, c2⟩, ⟨u3, c3⟩, ⟨u4, c4⟩⟩ := hrow.cells m hlt2
     obtain ⟨d0, d1, d2, dl⟩ := box3_cells F9.out
     clear hrow hg1 hgc
     go_wp2_with fail
     go_roundg (gk - 1)
     case measure => have := HG2.out; omega
     case rel =>
      have s1 := ST9.out.set HGB.out HIR.out (m * 5) (.string ⟨#[33]⟩)
      have hset : ∀ (W : World) (i : Nat) (u : Value), (∃ cur, W.heap[g]? = some (.cells cur 35 (0, 0))) → ∃ cur, (W.setCell ⟨g, i, none⟩ u).heap[g]? = some (.cells cur 35 (0, 0)) := fun W i u ⟨cur, h⟩ => ⟨_, heap_setCell_same _ _ _ _ _ _ h⟩
      have h1 := hset _ (m * 5) (.string ⟨#[33]⟩) HIR.out
      have s2 := s1.set HGB.out h1 (m * 5 + 1) (.string ⟨#[]⟩)
      have h2 := hset _ (m * 5 + 1) (.string ⟨#[]⟩) h1
      have s3 := s2.set HGB.out h2 (m * 5 + 2) (.bool false)
      have h3 := hset _ (m * 5 + 2) (.bool false) h2
      have s4 := s3.set HGB.out h3 (m * 5 + 3) (.string ⟨#[]⟩)
      have h4 := hset _ (m * 5 + 3) (.string ⟨#[]⟩) h3
      have s5 := s4.set HGB.out h4 (m * 5 + 4) (.int .i64 0)
      refine ⟨m + 1, by omega, by have := HG2.out; omega, by simp, s5, ?_⟩
      rw [heap_setCell_other _ _ _ _ HNE.out, heap_setCell_other _ _ _ _ HNE.out, heap_setCell_other _ _ _ _ HNE.out, heap_setCell_other _ _ _ _ HNE.out, heap_setCell_other _ _ _ _ HNE.out]
      exact F9.out
    ·have hmi : ¬ (m : Int) < (its.length : Int) := by omega
     go_wp2_with fail
     go_roundg (go - 1)
     case measure => have := HG.out; have := HGO.out; omega
     case rel => exact ⟨n + 1, by omega, by have := HG.out; omega, by simp, ST9.out⟩
  ·have hni : ¬ (n : Int) < (l.length : Int) := by omega
   have HOUT := hid (show Two w w7 l (.pointer pt) (.pointer pr) from by
    rcases TW6.out with ⟨h1, Bt, Br, h2, h3, h4, h5, h6⟩ | h
    ·exact Or.inl ⟨h1, Bt, Br, h2, h3, (h4.agree (fun k k1 k2 => ST7.out.old k k1 k2) ST7.out.size).lower HB1.out, (h5.agree' (fun k k1 k2 => ST7.out.old k k1 k2)).lower HB1.out, h6⟩
    ·exact Or.inr h)
   go_wp2_with fail
   refine bodyPost_ret (v := .tuple #[.pointer pt, .pointer pr, .bool true]) (by simp [results, Tryz.results14, go_sem]) rfl ⟨ST7.out.bel, ?_⟩
   rcases HOUT.out with ⟨h1, Bt, Br, h2, h3, h4, h5, h6⟩ | ⟨h1, h2, h3⟩
   ·exact Or.inl ⟨h1, Bt, Br, by rw [h2, h3], h4, h5, h6⟩
   ·exact Or.inr ⟨h1, by rw [h2, h3]⟩
end Go.Proofs.YtjlfchnnhglbjaaGreat
namespace Go.Proofs.YtjlfchnnhglbjaaGreat
open Go.RowKit Go.Lib Go.Sort Go.Maps Go.WideMaps
theorem item_cnt (t : Tb) (loc : Str) (f : Nat) (x : Itm) : (itemF t loc f x).2.rows.length + (itemF t loc f x).2.als.length ≤ t.rows.length + t.als.length + 1 := by
 unfold itemF
 repeat' split
 all_goals simp <;> omega
theorem items_cnt (loc : Str) (f : Nat) : ∀ (l : List Itm) (t : Tb), (itemsF loc f t l).2.rows.length + (itemsF loc f t l).2.als.length ≤ t.rows.length + t.als.length + l.length
 | [], t => Nat.le_refl _
 | x :: r, t => by
  unfold itemsF
  have h := item_cnt t loc f x
  cases he : itemF t loc f x with
  | mk e t' =>
   rw [he] at h
   simp only at h
   cases e with
   | zero =>
    have ih := items_cnt loc f r t'
    simp only [List.length_cons]; omega
   | succ e => simp only [List.length_cons]; omega
theorem head_rows (t : Tb) (d : Dc) : (headF t d).2.rows = t.rows ∧ (headF t d).2.als = t.als := by
 unfold headF
 repeat' split
 all_goals exact ⟨rfl, rfl⟩
theorem docs_cnt : ∀ (l : List Dc) (f k : Nat) (t : Tb), (∀ d ∈ l, d.items.length ≤ k) → (docsF f t l).2.rows.length + (docsF f t l).2.als.length ≤ t.rows.length + t.als.length + k * l.length
 | [], f, k, t, h => by show t.rows.length + t.als.length ≤ _; omega
 | d :: r, f, k, t, h => by
  obtain ⟨h1, h2⟩ := head_rows t d
  have hd := h d (List.mem_cons_self ..)
  unfold docsF
  cases hh : headF t d with
  | mk e t1 =>
   rw [hh] at h1 h2
   simp only at h1 h2
   simp only [List.length_cons, Nat.mul_succ]
   cases e with
   | succ e => simp only; rw [h1, h2]; omega
   | zero =>
    simp only
    have hi := items_cnt d.loc f d.items t1
    cases hit : itemsF d.loc f t1 d.items with
    | mk o t2 =>
     rw [hit] at hi
     simp only at hi
     cases o with
     | some p => obtain ⟨e, a⟩ := p; simp only; rw [← h1, ← h2]; omega
     | none =>
      have ih := docs_cnt r (f + 1) k t2 (fun x hx => h x (List.mem_cons_of_mem _ hx))
      simp only; rw [← h1, ← h2]; omega
theorem new_cnt (l : List Dc) (k : Nat) (h : ∀ d ∈ l, d.items.length ≤ k) : (newF l).2.rows.length + (newF l).2.als.length ≤ k * l.length := by
 have := docs_cnt l 0 k Tb.zero h
 simpa [Tb.zero, newF] using this
end Go.Proofs.YtjlfchnnhglbjaaGreat
namespace Go.Proofs.YtjlfchnnhglbjaaGreat
open Go.RowKit Go.Lib Go.Sort Go.Maps Go.WideMaps
theorem ext600 (s : Str) : ByteArray.extract ⟨s.toArray⟩ 0 (min (s.length : Int) 600).toNat = ⟨(s.take 600).toArray⟩ := by
 rw [ext_at]
 congr 2
 rw [List.drop_zero, Nat.sub_zero]
 by_cases h : s.length ≤ 600
 ·rw [show (min (s.length : Int) 600).toNat = s.length by omega, List.take_of_length_le (by simp), List.take_of_length_le h]
 ·rw [show (min (s.length : Int) 600).toNat = 600 by omega]
def rLoc (r : Option Rw) : Str := (r.map (·.loc)).getD []
def rPth (r : Option Rw) : Str := (r.map (·.path)).getD []
theorem rRow_eq (r : Option Rw) : rRow r = .agg #[.string ⟨(rLoc r).toArray⟩, .string ⟨(rPth r).toArray⟩, .string ⟨(rText r).toArray⟩, .int .i64 (rFile r), .int .i64 (rAt r)] := by cases r <;> rfl
end Go.Proofs.YtjlfchnnhglbjaaGreat
