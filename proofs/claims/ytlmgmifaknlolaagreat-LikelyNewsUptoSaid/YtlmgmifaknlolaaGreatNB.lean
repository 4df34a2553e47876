/- Several texts in one: LkMem, LkRead, LkKey, LkNew, LkTry, LkWith. (joined by wip/merge.py) -/
import Derived.Test.YtlmgmifaknlolaaGreatOpen
import Derived.Test.YtlmgmifaknlolaaGreatNA
import Derived.Maps.OwnSet
import Derived.Maps.OwnOps
import Derived.Maps.StringElems
import Derived.DeepKeys4
import Derived.Test.YtlmgmifaknlolaaGreatPrint
import Derived.Test.YtlmgmifaknlolaaGreatBoxes
import Derived.Deep.RegionHeld3
import Derived.BigQuiet
import Derived.Deep.Cut
import Derived.Test.YtlmgmifaknlolaaGreatLists

/- A map keyed by a tag's parts that the program makes: what it holds, and the laws at the operations. -/
set_option linter.unusedVariables false
set_option linter.unusedSimpArgs false
namespace Go.Proofs.YtlmgmifaknlolaaGreat
open Go.RowKit Go.Lib Go.Sort Go.Maps Go.WideMaps

theorem laidOut : laidOutB Tryz.prog = true := by kernel_rfl
theorem rowPt : (57 : TypeId) < Tryz.prog.types.size := of_decide_eq_true (by kernel_rfl)
theorem widePt : (match Tryz.prog.underlying 57 with | some (.array _ _) | some (.struct _) => true | _ => false) = true := by kernel_rfl
set_option maxRecDepth 100000 in
theorem lawPt : Keyed Tryz.prog 57 := Keyed.of_law (deep_law_laid laidOut (m := 2) (by omega) rowPt (by kernel_rfl) widePt)
/-- parts as a value -/
def ptV (p : Pt) : Value := .agg #[S p.l, S p.s, S p.r]
def PtSz (p : Pt) : Prop := p.l.length ≤ maxLen ∧ p.s.length ≤ maxLen ∧ p.r.length ≤ maxLen
theorem ptV_inj {p q : Pt} (h : ptV p = ptV q) : p = q := by
  cases p; cases q
  simpa [ptV, S] using h
set_option maxRecDepth 100000 in
theorem keyP_some (p : Pt) (h : PtSz p) : ∃ kl, keyOf Tryz.prog 57 (ptV p) = some kl := by
  obtain ⟨N, hN⟩ : ∃ N, Tryz.prog.types.size = N + 1 := ⟨Tryz.prog.types.size - 1, (Nat.succ_pred_eq_of_pos (Nat.lt_of_le_of_lt (Nat.zero_le _) rowPt)).symm⟩
  have h1 : Tryz.prog.keyType 57 = true := by kernel_rfl
  have h2 : (ptV p).formed Tryz.prog 57 = true := by kernel_rfl
  have h3 : Tryz.prog.cellsOf 57 = 3 := by kernel_rfl
  have h4 : Tryz.prog.cellsOf 9 = 1 := by kernel_rfl
  have kls : ∀ s : Str, s.length ≤ maxLen → Tryz.prog.keyLits (N + 1) 9 [S s] = some [.string s] := fun s hs => by
    unfold Program.keyLits
    rw [Tryz.underlying9]
    simp only [S]
    rw [if_pos (by rw [Lib.size_eq]; exact hs)]
  unfold keyOf
  rw [Tryz.underlying57]
  simp only [h1, h2, Bool.and_self, if_true]
  rw [hN]
  unfold Program.keyLits
  rw [Tryz.underlying57]
  simp only [ptV, Value.cells, h3, List.length_cons, List.length_nil]
  rw [if_pos (by simp)]
  simp [h4, kls p.l h.1, kls p.s h.2.1, kls p.r h.2.2]
set_option maxRecDepth 100000 in
theorem keyP_inv {v : Value} {kl : Lit} (h : keyOf Tryz.prog 57 v = some kl) : ∃ p, v = ptV p ∧ PtSz p := by
  obtain ⟨xs, L, rfl, hL, _⟩ := keyOf_top widePt h
  have h3 : Tryz.prog.cellsOf 57 = 3 := by kernel_rfl
  have h4 : Tryz.prog.cellsOf 9 = 1 := by kernel_rfl
  obtain ⟨N, hN⟩ : ∃ N, Tryz.prog.types.size = N + 1 := ⟨Tryz.prog.types.size - 1, (Nat.succ_pred_eq_of_pos (Nat.lt_of_le_of_lt (Nat.zero_le _) rowPt)).symm⟩
  rw [hN] at hL
  unfold Program.keyLits at hL
  rw [Tryz.underlying57] at hL
  simp only [h3] at hL
  split at hL
  · rename_i hl
    obtain ⟨hl, _⟩ := hl
    obtain ⟨l⟩ := xs
    match l, hl with
    | [a, b, c], _ =>
      have kls : ∀ v L, Tryz.prog.keyLits (N + 1) 9 [v] = some L → ∃ s : Str, v = S s ∧ s.length ≤ maxLen := fun v L h => by
        unfold Program.keyLits at h
        rw [Tryz.underlying9] at h
        cases v <;> simp at h
        rename_i s
        exact ⟨s.data.toList, by simp [S], by have := h.1; rw [← Lib.size_eq]; simpa using this⟩
      simp [h4, Option.bind_eq_some_iff] at hL
      obtain ⟨x, hx, _, ⟨y, hy, _, ⟨z, hz, _⟩, _⟩, _⟩ := hL
      obtain ⟨s1, rfl, e1⟩ := kls _ _ hx
      obtain ⟨s2, rfl, e2⟩ := kls _ _ hy
      obtain ⟨s3, rfl, e3⟩ := kls _ _ hz
      exact ⟨⟨s1, s2, s3⟩, rfl, e1, e2, e3⟩
  · cases hL
/-- a key's datum -/
noncomputable def kL (p : Pt) : Lit := (keyOf Tryz.prog 57 (ptV p)).getD (.bool false)
theorem key_ofP {p : Pt} (h : PtSz p) : keyOf Tryz.prog 57 (ptV p) = some (kL p) := by
  obtain ⟨kl, hk⟩ := keyP_some p h
  unfold kL
  rw [hk]; rfl
theorem kL_inj {p q : Pt} (hp : PtSz p) (hq : PtSz q) (h : kL p = kL q) : p = q := by
  have h1 := key_ofP hp
  rw [h] at h1
  exact ptV_inj (lawPt.inj h1 (key_ofP hq))
set_option maxRecDepth 100000 in
theorem kL_lit {p : Pt} (h : PtSz p) : WideAt.IsKeyLit (kL p) := lawPt.key (key_ofP h)
/-- how parts read -/
def ptD (p : Pt) : DataW Unit := .agg [.lit (.string p.l), .lit (.string p.s), .lit (.string p.r)]
def rdPt (v : Value) : Option (DataW Unit × List MemPlace) := match v with
  | .agg cs => match cs.toList with
    | [.string a, .string b, .string c] => some (ptD ⟨a.data.toList, b.data.toList, c.data.toList⟩, [])
    | _ => none
  | _ => none
theorem rdPt_mk (p : Pt) : rdPt (ptV p) = some (ptD p, []) := by simp [rdPt, ptV, S]
theorem ptD_inj {p q : Pt} (h : ptD p = ptD q) : p = q := by
  cases p; cases q
  simpa [ptD] using h
theorem rdPt_inv {v : Value} {z : DataW Unit × List MemPlace} (h : rdPt v = some z) : ∃ p, v = ptV p ∧ z = (ptD p, []) := by
  unfold rdPt at h
  split at h
  · rename_i cs
    split at h
    · rename_i a b c e
      cases h
      refine ⟨⟨a.data.toList, b.data.toList, c.data.toList⟩, ?_, rfl⟩
      obtain ⟨l⟩ := cs
      simp only at e
      simp [ptV, S, e]
    · cases h
  · cases h
theorem zeroPt (w : World) : (zeroValue 57).run Tryz.prog w = .ok (ptV Pt.zero) w := by kernel_rfl

/-- block b is a map of at most n entries that says D of parts -/
def OwnK (w : World) (b n : Nat) (D : List (Pt × Pt)) : Prop :=
  ∃ m : DataW Unit, w.ownsMap Tryz.prog 57 rdPt b n m ∧ ∀ k z, PtSz k → m.atKey (kL k) z = match lookP D k with | some v => ptD v | none => z
/-- block b is a map of at most n entries that says D of texts -/
def OwnJ (w : World) (b n : Nat) (D : List (Str × Pt)) : Prop :=
  ∃ m : DataW Unit, w.ownsMap Tryz.prog 9 rdPt b n m ∧ ∀ k z, m.atKey (.string k) z = match (D.find? (fun p => p.1 == k)).map (·.2) with | some v => ptD v | none => z
theorem OwnK.lt {w : World} {b n : Nat} {D : List (Pt × Pt)} (h : OwnK w b n D) : b < w.heap.size := by obtain ⟨m, h, _⟩ := h; exact h.lt
theorem OwnK.mono {w : World} {b n n' : Nat} {D : List (Pt × Pt)} (h : OwnK w b n D) (hn : n ≤ n') : OwnK w b n' D := by obtain ⟨m, h, h2⟩ := h; exact ⟨m, h.mono hn, h2⟩
theorem ownsMap_block {w w' : World} {P : Program} {k : TypeId} {R : Value → Option (DataW Unit × List MemPlace)} {b n : Nat} {m : DataW Unit} (h : w.ownsMap P k R b n m) (he : w'.heap[b]? = w.heap[b]?) : w'.ownsMap P k R b n m := by
  obtain ⟨es, clock, hb, F, hs, hD⟩ := h
  exact ⟨es, clock, he.trans hb, F, hs, hD⟩
theorem OwnK.block {w w' : World} {b n : Nat} {D : List (Pt × Pt)} (h : OwnK w b n D) (he : w'.heap[b]? = w.heap[b]?) : OwnK w' b n D := by obtain ⟨m, h, h2⟩ := h; exact ⟨m, ownsMap_block h he, h2⟩
theorem OwnK.below {w w' : World} {b n : Nat} {D : List (Pt × Pt)} (h : OwnK w b n D) (hb : Below w.heap.size w w') : OwnK w' b n D := h.block (hb.block _ h.lt)
theorem OwnK.made (w : World) : OwnK (w.alloc (.map #[] 0)) w.heap.size 0 [] := ⟨.map [], World.ownsMap_made _ _ _ _, fun k z _ => rfl⟩
set_option maxRecDepth 100000 in
theorem OwnK.look_run {w : World} {b n : Nat} {D : List (Pt × Pt)} (h : OwnK w b n D) (k : Pt) (hk : PtSz k) :
    (Instr.lookup 68 (.map (some b)) (ptV k) true).run Tryz.prog w = .ok (.tuple #[ptV ((lookP D k).getD Pt.zero), .bool (lookP D k).isSome]) w := by
  obtain ⟨mm, hown, hat⟩ := h
  obtain ⟨v, ps, hrun, hv⟩ := hown.look_ok lawPt Tryz.underlying68 (zeroPt w) (rdPt_mk Pt.zero) (key_ofP hk)
  obtain ⟨s, rfl, hz⟩ := rdPt_inv hv
  rw [hat _ _ hk] at hz
  have hhas : Maps.has mm (kL k) = (lookP D k).isSome := by
    cases hl : lookP D k with
    | some v => rw [has_true_of_atKey (y := ptD v) (fun z => by rw [hat _ _ hk, hl])]; rfl
    | none => rw [has_false_of_atKey (fun z => by rw [hat _ _ hk, hl])]; rfl
  have hs : s = (lookP D k).getD Pt.zero := by
    cases hl : lookP D k with
    | some v =>
      rw [hl] at hz
      exact (ptD_inj (Prod.mk.inj hz).1).symm
    | none =>
      rw [hl] at hz
      exact (ptD_inj (Prod.mk.inj hz).1).symm
  rw [← hhas, ← hs]
  exact hrun
set_option maxRecDepth 100000 in
theorem OwnK.say_run {w : World} {b n : Nat} {D : List (Pt × Pt)} (h : OwnK w b n D) (hn : n < maxLen) (k y : Pt) (hk : PtSz k) (hno : lookP D k = none) :
    ∃ w', (Instr.mapUpdate 68 (.map (some b)) (ptV k) (ptV y)).run Tryz.prog w = .ok () w' ∧ OwnK w' b (n + 1) (D ++ [(k, y)]) ∧ w.grownBy w' (some b) := by
  obtain ⟨mm, hown, hat⟩ := h
  obtain ⟨w', hrun, hown', hgr⟩ := hown.update lawPt Tryz.underlying68 hn (key_ofP hk) (rdPt_mk y)
  refine ⟨w', hrun, ⟨_, hown', fun k' z hk' => ?_⟩, hgr⟩
  rw [lookP_append]
  by_cases he : k' = k
  · subst he
    rw [atKey_put_same hown.isMap (kL_lit hk), hno]
    simp [lookP]
  · rw [atKey_put_other (fun e => he (kL_inj hk' hk e)), hat _ _ hk']
    cases hl : lookP D k' with
    | some u => rfl
    | none => simp [lookP, Ne.symm he]
/-- v leads to what is likely: D is said -/
def LkRd (w : World) (v : Value) (D : List (Pt × Pt)) : Prop :=
  ∃ bc bm n, v = .pointer (some ⟨bc, 0, none⟩) ∧ bc < w.heap.size ∧ w.cell? ⟨bc, 0, none⟩ = some (.map (some bm)) ∧ OwnK w bm n D
theorem LkRd.below {w w' : World} {v : Value} {D : List (Pt × Pt)} (h : LkRd w v D) (hb : Below w.heap.size w w') : LkRd w' v D := by
  obtain ⟨bc, bm, n, h1, h2, h3, h4⟩ := h
  exact ⟨bc, bm, n, h1, Nat.lt_of_lt_of_le h2 hb.size, (hb.cell (p := ⟨bc, 0, none⟩) h2).trans h3, h4.below hb⟩
end Go.Proofs.YtlmgmifaknlolaaGreat

/- The contracts of likely's small functions: of, full, key, read. -/
set_option linter.unusedVariables false
set_option linter.unusedSimpArgs false
namespace Go.Proofs.YtlmgmifaknlolaaGreat
open Go.RowKit Go.Lib Go.Sort

/-- three cells stored one by one -/
def P3 (w : World) (b : Nat) (a0 a1 a2 : Value) : World := ((w.setCell ⟨b, 0, none⟩ a0).setCell ⟨b, 1, none⟩ a1).setCell ⟨b, 2, none⟩ a2
theorem P3_row {w : World} {b : Nat} {z0 z1 z2 : Value} (a0 a1 a2 : Value) (h : w.heap[b]? = some (.cells #[z0, z1, z2] 57 (0, 0))) : (P3 w b a0 a1 a2).heap[b]? = some (.cells #[a0, a1, a2] 57 (0, 0)) := by
  unfold P3
  rw [heap_setCell_same _ _ _ _ _ _ (heap_setCell_same _ _ _ _ _ _ (heap_setCell_same _ _ _ _ _ _ h))]
  simp
theorem P3_other {w : World} {b c : Nat} (a0 a1 a2 : Value) (h : c ≠ b) : (P3 w b a0 a1 a2).heap[c]? = w.heap[c]? := by
  unfold P3
  rw [heap_setCell_other _ _ _ _ h, heap_setCell_other _ _ _ _ h, heap_setCell_other _ _ _ _ h]
theorem P3_below {B b : Nat} {w0 w : World} (a0 a1 a2 : Value) (h : Below B w0 w) (hb : B ≤ b) : Below B w0 (P3 w b a0 a1 a2) :=
  ((h.setCell (by simpa using hb) _).setCell (by simpa using hb) _).setCell (by simpa using hb) _
theorem box3_cells {W : World} {b : Nat} {a0 a1 a2 : Value} (h : W.heap[b]? = some (.cells #[a0, a1, a2] 57 (0, 0))) :
    W.cell? ⟨b, 0, none⟩ = some a0 ∧ W.cell? ⟨b, 1, none⟩ = some a1 ∧ W.cell? ⟨b, 2, none⟩ = some a2 :=
  ⟨cell_of_row _ _ _ _ _ _ h, cell_of_row _ _ _ _ _ _ h, cell_of_row _ _ _ _ _ _ h⟩

set_option maxRecDepth 100000 in
set_option maxHeartbeats 8000000 in
theorem of_any (w : World) (v : Value) (t : Tg) (h : RdT w v t) :
    Calls Tryz.prog 31 #[v] w fun e w' => e = .returned (ptV (ptOf t)) ∧ Below w.heap.size w w' := by
  obtain ⟨vv, kv, rfl, hS, hP⟩ := h
  obtain ⟨av, cv, rfl, _, _⟩ := hS
  obtain ⟨ak, ck, rfl, _, _⟩ := hP
  simp only [tagCells, S]
  have HB0 := hid (below2 w (.cells #[.string ⟨t.lang.toArray⟩, .string ⟨t.script.toArray⟩, .string ⟨t.region.toArray⟩, .slice av t.vars.length cv, .slice ak t.keys.length ck] 25) (.cells #[.string ⟨#[]⟩, .string ⟨#[]⟩, .string ⟨#[]⟩] 57))
  have HX0 := hid (heap_alloc2_old w (.cells #[.string ⟨t.lang.toArray⟩, .string ⟨t.script.toArray⟩, .string ⟨t.region.toArray⟩, .slice av t.vars.length cv, .slice ak t.keys.length ck] 25) (.cells #[.string ⟨#[]⟩, .string ⟨#[]⟩, .string ⟨#[]⟩] 57))
  have HZ0 := hid (heap_alloc2_new w (.cells #[.string ⟨t.lang.toArray⟩, .string ⟨t.script.toArray⟩, .string ⟨t.region.toArray⟩, .slice av t.vars.length cv, .slice ak t.keys.length ck] 25) (.cells #[.string ⟨#[]⟩, .string ⟨#[]⟩, .string ⟨#[]⟩] 57))
  go_enter Tryz.func31, Tryz.ntmps31
  go_upto_region 1 with (fail)
  generalize (w.alloc (.cells #[.string ⟨t.lang.toArray⟩, .string ⟨t.script.toArray⟩, .string ⟨t.region.toArray⟩, .slice av t.vars.length cv, .slice ak t.keys.length ck] 25)).alloc (.cells #[.string ⟨#[]⟩, .string ⟨#[]⟩, .string ⟨#[]⟩] 57) = w0 at *
  obtain ⟨c0, c1, c2, c3, c4⟩ := box_cells HX0.out
  obtain ⟨d0, d1, d2⟩ := box3_cells HZ0.out
  have hsz := lt_of_block HX0.out
  have hsz1 := lt_of_block HZ0.out
  have fz0 := frozen_of_row w0 (w.heap.size + 1) 0 _ _ HZ0.out
  have fz1 := frozen_of_row w0 (w.heap.size + 1) 1 _ _ HZ0.out
  have fz2 := frozen_of_row w0 (w.heap.size + 1) 2 _ _ HZ0.out
  go_wp2_with fail
  have hr := P3_row (.string ⟨t.lang.toArray⟩) (.string ⟨t.script.toArray⟩) (.string ⟨t.region.toArray⟩) HZ0.out
  have hw := P3_below (.string ⟨t.lang.toArray⟩) (.string ⟨t.script.toArray⟩) (.string ⟨t.region.toArray⟩) HB0.out (Nat.le_succ w.heap.size)
  clear c0 c1 c2 c3 c4 d0 d1 d2 fz0 fz1 fz2
  change bodyPost _ _ _ _ _ (P3 w0 (w.heap.size + 1) (.string ⟨t.lang.toArray⟩) (.string ⟨t.script.toArray⟩) (.string ⟨t.region.toArray⟩))
  generalize P3 w0 (w.heap.size + 1) (.string ⟨t.lang.toArray⟩) (.string ⟨t.script.toArray⟩) (.string ⟨t.region.toArray⟩) = W at *
  obtain ⟨d0, d1, d2⟩ := box3_cells hr
  exact bodyPost_ret (v := ptV (ptOf t)) (by simp [results, Tryz.results31, go_sem, d0, d1, d2, ptV, ptOf, S]) rfl ⟨rfl, hw⟩

set_option maxRecDepth 100000 in
set_option maxHeartbeats 8000000 in
theorem full_any (w : World) (p : Pt) :
    Calls Tryz.prog 34 #[ptV p] w fun e w' => e = .returned (.bool (decide p.full)) ∧ Below w.heap.size w w' := by
  obtain ⟨a, b, c⟩ := p
  have HB0 := hid (show Below w.heap.size w (w.alloc (.cells #[.string ⟨a.toArray⟩, .string ⟨b.toArray⟩, .string ⟨c.toArray⟩] 57)) from (Below.refl _ _).alloc (Nat.le_refl _) _)
  have HX0 := hid (heap_alloc_new w (.cells #[.string ⟨a.toArray⟩, .string ⟨b.toArray⟩, .string ⟨c.toArray⟩] 57))
  have HF := hid (show (decide (Pt.full ⟨a, b, c⟩)) = (!List.isEmpty a && !List.isEmpty b && !List.isEmpty c) by
    unfold Pt.full
    cases a <;> cases b <;> cases c <;> simp)
  simp only [ptV, S]
  go_enter Tryz.func34, Tryz.ntmps34
  go_upto_region 1 with (fail)
  generalize w.alloc (.cells #[.string ⟨a.toArray⟩, .string ⟨b.toArray⟩, .string ⟨c.toArray⟩] 57) = w0 at *
  obtain ⟨c0, c1, c2⟩ := box3_cells HX0.out
  have hsz := lt_of_block HX0.out
  go_wp2_with fail
  all_goals go_ret
  all_goals exact ⟨by rw [HF.out]; simp_all, HB0.out⟩

set_option maxRecDepth 100000 in
set_option maxHeartbeats 8000000 in
theorem key_any (w : World) (p : Pt) (hj : (writeF p.tag).length ≤ 140737488355328) :
    Calls Tryz.prog 38 #[ptV p] w fun e w' => e = .returned (.string ⟨(ptKey p).toArray⟩) ∧ Below w.heap.size w w' := by
  have PR := hid (fun W => print_any W (.agg (tagCells p.tag vnil vnil)) p.tag ⟨_, _, rfl, RdS.nil W, RdP.nil W⟩ (by simp [Pt.tag]) (by simp [Pt.tag]) hj)
  simp only [strErr] at PR
  unfold ptKey
  generalize printF p.tag = q at *
  obtain ⟨k, er⟩ := q
  obtain ⟨a, b, c⟩ := p
  clear hj
  simp only [Pt.tag, tagCells, S, vnil] at PR
  have HB0 := hid (show Below w.heap.size w (w.alloc (.cells #[.string ⟨a.toArray⟩, .string ⟨b.toArray⟩, .string ⟨c.toArray⟩] 57)) from (Below.refl _ _).alloc (Nat.le_refl _) _)
  have HX0 := hid (heap_alloc_new w (.cells #[.string ⟨a.toArray⟩, .string ⟨b.toArray⟩, .string ⟨c.toArray⟩] 57))
  simp only [ptV, S]
  go_enter Tryz.func38, Tryz.ntmps38
  go_upto_region 1 with (fail)
  generalize w.alloc (.cells #[.string ⟨a.toArray⟩, .string ⟨b.toArray⟩, .string ⟨c.toArray⟩] 57) = w0 at *
  obtain ⟨c0, c1, c2⟩ := box3_cells HX0.out
  have hsz := lt_of_block HX0.out
  go_wp2_with fail
  refine (PR.out _).mono ?_
  rintro e w1 ⟨rfl, hb1⟩
  have HB1 := hid (HB0.out.then hb1)
  clear hb1 c0 c1 c2
  go_wp2_with fail
  go_ret
  exact ⟨rfl, HB1.out⟩

end Go.Proofs.YtlmgmifaknlolaaGreat

/- The contract of likely.read. -/
set_option linter.unusedVariables false
set_option linter.unusedSimpArgs false
namespace Go.Proofs.YtlmgmifaknlolaaGreat
open Go.RowKit Go.Lib Go.Sort

set_option maxRecDepth 100000 in
set_option maxHeartbeats 8000000 in
theorem read_any (w : World) (k : Str) (hk : k.length ≤ maxLen) :
    Calls Tryz.prog 37 #[.string ⟨k.toArray⟩] w fun e w' => e = .returned (.tuple #[ptV (ptRead k).1, .bool (ptRead k).2]) ∧ Below w.heap.size w w' := by
  have PA := hid (fun W => parse_any ⟨k.toArray⟩ W (by rw [Lib.size_eq]; exact hk))
  rw [show (⟨k.toArray⟩ : ByteArray).data.toList = k from rfl] at PA
  have hgood := good_of k
  have hrd : ∀ x, parseF k = x → ptRead k = if x.err ≠ 0 ∨ x.tag.vars ≠ [] ∨ x.tag.keys ≠ [] then (Pt.zero, false) else (ptOf x.tag, ptKey (ptOf x.tag) == k) := fun x hx => by rw [← hx]; rfl
  generalize hx : parseF k = x at *
  have HRD := hid (hrd x rfl)
  clear hrd
  clear hx
  have hb0 : Below w.heap.size w (w.alloc (.cells #[.string ⟨#[]⟩, .string ⟨#[]⟩, .string ⟨#[]⟩] 57)) := (Below.refl _ _).alloc (Nat.le_refl _) _
  have hz0 : (w.alloc (.cells #[.string ⟨#[]⟩, .string ⟨#[]⟩, .string ⟨#[]⟩] 57)).heap[w.heap.size]? = some (.cells #[.string ⟨#[]⟩, .string ⟨#[]⟩, .string ⟨#[]⟩] 57 (0, 0)) := heap_alloc_new w _
  have HB0 := hid hb0
  have HZ0 := hid hz0
  clear hb0 hz0
  go_enter Tryz.func37, Tryz.ntmps37
  go_wp2_with fail
  refine (PA.out _).mono ?_
  rintro e w1 ⟨vv, kv, rfl, o1, o2, hb1⟩
  obtain ⟨av, cv, rfl⟩ := own_sliceS o1
  obtain ⟨ak, ck, rfl⟩ := own_sliceP o2
  simp only [tagCells, S]
  have HR := hid (show RdT w1 (.agg (tagCells x.tag (.slice av x.tag.vars.length cv) (.slice ak x.tag.keys.length ck))) x.tag from ⟨_, _, rfl, o1.rd, o2.rd⟩)
  simp only [tagCells, S] at HR
  have HZ1 := hid ((hb1.block _ (lt_of_block HZ0.out)).trans HZ0.out)
  have HB1 := hid (HB0.out.then hb1)
  clear o1 o2 hb1 HZ0 HB0 PA
  go_upto_region 2 with (fail)
  have HB2 := hid (below2 w1 (.cells #[.string ⟨x.tag.lang.toArray⟩, .string ⟨x.tag.script.toArray⟩, .string ⟨x.tag.region.toArray⟩, .slice av x.tag.vars.length cv, .slice ak x.tag.keys.length ck] 25) (.cells #[.int .i64 (x.err : Int), .int .i64 (x.pos : Int)] 62))
  have HT2 := hid (heap_alloc2_old w1 (.cells #[.string ⟨x.tag.lang.toArray⟩, .string ⟨x.tag.script.toArray⟩, .string ⟨x.tag.region.toArray⟩, .slice av x.tag.vars.length cv, .slice ak x.tag.keys.length ck] 25) (.cells #[.int .i64 (x.err : Int), .int .i64 (x.pos : Int)] 62))
  have HS2 := hid (heap_alloc2_new w1 (.cells #[.string ⟨x.tag.lang.toArray⟩, .string ⟨x.tag.script.toArray⟩, .string ⟨x.tag.region.toArray⟩, .slice av x.tag.vars.length cv, .slice ak x.tag.keys.length ck] 25) (.cells #[.int .i64 (x.err : Int), .int .i64 (x.pos : Int)] 62))
  generalize (w1.alloc (.cells #[.string ⟨x.tag.lang.toArray⟩, .string ⟨x.tag.script.toArray⟩, .string ⟨x.tag.region.toArray⟩, .slice av x.tag.vars.length cv, .slice ak x.tag.keys.length ck] 25)).alloc (.cells #[.int .i64 (x.err : Int), .int .i64 (x.pos : Int)] 62) = w2 at *
  have HZ2 := hid ((HB2.out.block _ (lt_of_block HZ1.out)).trans HZ1.out)
  have HW2 := hid (HB1.out.then HB2.out)
  have HR2 := hid (HR.out.below HB2.out)
  clear HZ1 HB1 HB2 HR
  obtain ⟨c0, c1, c2, c3, c4⟩ := box_cells HT2.out
  obtain ⟨d0, d1, d2⟩ := box3_cells HZ2.out
  have hsz := lt_of_block HT2.out
  have hsz1 := lt_of_block HZ2.out
  have hsz2 := lt_of_block HS2.out
  have e0 : w2.cell? ⟨w1.heap.size + 1, 0, none⟩ = some (.int .i64 (x.err : Int)) := by rw [cell_of_row _ _ _ _ _ _ HS2.out]; rfl
  have fz0 := frozen_of_row w2 w.heap.size 0 _ _ HZ2.out
  have fz1 := frozen_of_row w2 w.heap.size 1 _ _ HZ2.out
  have fz2 := frozen_of_row w2 w.heap.size 2 _ _ HZ2.out
  by_cases hbad : x.err ≠ 0 ∨ x.tag.vars ≠ [] ∨ x.tag.keys ≠ []
  · have HQ := hid (show ptRead k = (Pt.zero, false) by rw [HRD.out, if_pos hbad])
    have hend : ∀ (a : Act) (hd : a.defers = []) (h2 : a.tmps.getD 2 undef = .pointer (some ⟨w.heap.size, 0, none⟩)) (h3 : a.tmps.getD 3 undef = .bool false),
        bodyPost Tryz.prog Tryz.f37 (fun e w' => e = .returned (.tuple #[ptV (ptRead k).1, .bool (ptRead k).2]) ∧ Below w.heap.size w w') Exit.ret a (P3 w2 w.heap.size (.string ⟨#[]⟩) (.string ⟨#[]⟩) (.string ⟨#[]⟩)) := fun a hd h2 h3 => by
      have hr := P3_row (.string ⟨#[]⟩) (.string ⟨#[]⟩) (.string ⟨#[]⟩) HZ2.out
      have hw := P3_below (.string ⟨#[]⟩) (.string ⟨#[]⟩) (.string ⟨#[]⟩) HW2.out (Nat.le_refl w.heap.size)
      generalize P3 w2 w.heap.size (.string ⟨#[]⟩) (.string ⟨#[]⟩) (.string ⟨#[]⟩) = W at *
      obtain ⟨d0, d1, d2⟩ := box3_cells hr
      refine bodyPost_ret (v := .tuple #[.agg #[.string ⟨#[]⟩, .string ⟨#[]⟩, .string ⟨#[]⟩], .bool false]) ?_ hd ⟨by rw [HQ.out]; rfl, hw⟩
      obtain ⟨tmps, defers⟩ := a
      simp only [Array.getD_eq_getD_getElem?] at h2 h3
      simp [results, Tryz.results37, go_sem, h2, h3, d0, d1, d2]
    have HEND := hid hend
    clear hend
    by_cases he : x.err = 0
    · rw [he] at e0
      by_cases hv : x.tag.vars = []
      · have hkk : x.tag.keys ≠ [] := by
          rcases hbad with h | h | h
          · exact absurd he h
          · exact absurd hv h
          · exact h
        rw [hv] at c3
        simp only [List.length_nil] at c3
        have hk0 : (0 : Int) < (x.tag.keys.length : Int) := by have := List.length_pos_iff.2 hkk; omega
        clear hbad he hv hkk HT2 HR2
        go_wp2_with fail
        exact HEND.out _ rfl rfl rfl
      · have hv0 : (0 : Int) < (x.tag.vars.length : Int) := by have := List.length_pos_iff.2 hv; omega
        have hv1 : 0 < x.tag.vars.length := List.length_pos_iff.2 hv
        clear hbad he hv HT2 HR2
        go_wp2_with fail
        all_goals first | exact HEND.out _ rfl rfl rfl | (exfalso; omega)
    · have heb : ((x.err : Int) != 0) = true := by rw [bne_iff_ne]; omega
      clear hbad he HT2 HR2
      go_wp2_with fail
      exact HEND.out _ rfl rfl rfl
  · have he : x.err = 0 := by apply Classical.byContradiction; intro e; exact hbad (Or.inl e)
    have hv : x.tag.vars = [] := by apply Classical.byContradiction; intro e; exact hbad (Or.inr (Or.inl e))
    have hkk : x.tag.keys = [] := by apply Classical.byContradiction; intro e; exact hbad (Or.inr (Or.inr e))
    have HQ := hid (show ptRead k = (ptOf x.tag, ptKey (ptOf x.tag) == k) by rw [HRD.out, if_neg hbad])
    have hg := hgood he
    have hpt := pt_tag hv hkk
    have OF := hid (fun W (hb : Below w2.heap.size w2 W) => of_any W _ _ (HR2.out.below hb))
    have KY := hid (fun W => key_any W (ptOf x.tag) (by rw [hpt]; have := hg.write; omega))
    clear hbad hpt hg hgood HRD
    obtain ⟨⟨tl, ts, tr, tv, tk⟩, er, pos⟩ := x
    simp only at he hv hkk
    subst he hv hkk
    simp only [List.length_nil, ptOf] at *
    generalize ptKey ⟨tl, ts, tr⟩ = s at *
    simp only [ptV, S] at OF KY
    go_wp2_with fail
    refine (OF.out _ (Below.refl _ _)).mono ?_
    rintro e w3 ⟨rfl, hb3⟩
    have HZ3 := hid ((hb3.block _ hsz1).trans HZ2.out)
    have HW3 := hid (HW2.out.then hb3)
    clear c0 c1 c2 c3 c4 d0 d1 d2 e0 fz0 fz1 fz2 hsz hsz1 hsz2 hb3 HZ2 HW2 HR2 HT2 HS2
    go_upto_region 5 with (fail)
    have HB4 := hid (show Below w3.heap.size w3 (w3.alloc (.cells #[.string ⟨tl.toArray⟩, .string ⟨ts.toArray⟩, .string ⟨tr.toArray⟩] 57)) from (Below.refl _ _).alloc (Nat.le_refl _) _)
    have HX4 := hid (heap_alloc_new w3 (.cells #[.string ⟨tl.toArray⟩, .string ⟨ts.toArray⟩, .string ⟨tr.toArray⟩] 57))
    generalize w3.alloc (.cells #[.string ⟨tl.toArray⟩, .string ⟨ts.toArray⟩, .string ⟨tr.toArray⟩] 57) = w4 at *
    have HZ4 := hid ((HB4.out.block _ (lt_of_block HZ3.out)).trans HZ3.out)
    have HW4 := hid (HW3.out.then HB4.out)
    have K1 := hid (fun W (hb : Below w4.heap.size w4 W) => ((KY.out W).mono (by
      rintro e w' ⟨rfl, hb'⟩
      have h3 := hb.then hb'
      have hr := (h3.block _ (lt_of_block HZ4.out)).trans HZ4.out
      have hx := (h3.block _ (lt_of_block HX4.out)).trans HX4.out
      obtain ⟨c0, c1, c2⟩ := box3_cells hx
      obtain ⟨d0, d1, d2⟩ := box3_cells hr
      exact ⟨rfl, h3, c0, c1, c2, d0, d1, d2, frozen_of_row w' _ 0 _ _ hr, frozen_of_row w' _ 1 _ _ hr, frozen_of_row w' _ 2 _ _ hr, lt_of_block hr, lt_of_block hx, hr⟩) : Calls Tryz.prog 38 _ W fun e w' => e = .returned (.string ⟨s.toArray⟩) ∧ Below w4.heap.size w4 w' ∧ w'.cell? ⟨w3.heap.size, 0, none⟩ = some (.string ⟨tl.toArray⟩) ∧ w'.cell? ⟨w3.heap.size, 1, none⟩ = some (.string ⟨ts.toArray⟩) ∧ w'.cell? ⟨w3.heap.size, 2, none⟩ = some (.string ⟨tr.toArray⟩) ∧
        w'.cell? ⟨w.heap.size, 0, none⟩ = some (.string ⟨#[]⟩) ∧ w'.cell? ⟨w.heap.size, 1, none⟩ = some (.string ⟨#[]⟩) ∧ w'.cell? ⟨w.heap.size, 2, none⟩ = some (.string ⟨#[]⟩) ∧ w'.frozen? ⟨w.heap.size, 0, none⟩ = false ∧ w'.frozen? ⟨w.heap.size, 1, none⟩ = false ∧ w'.frozen? ⟨w.heap.size, 2, none⟩ = false ∧ w.heap.size < w'.heap.size ∧ w3.heap.size < w'.heap.size ∧ w'.heap[w.heap.size]? = some (.cells #[.string ⟨#[]⟩, .string ⟨#[]⟩, .string ⟨#[]⟩] 57 (0, 0))))
    have K2 := hid (K1.out w4.drew (Below.refl _ _).drew)
    obtain ⟨c0, c1, c2⟩ := box3_cells HX4.out
    obtain ⟨d0, d1, d2⟩ := box3_cells HZ4.out
    have hszx := lt_of_block HX4.out
    have hszz := lt_of_block HZ4.out
    go_region_with (first | (go_at_call 38; (refine K2.out.mono ?_); rintro e w' ⟨rfl, hb', c0', c1', c2', d0', d1', d2', f0', f1', f2', z0', z1', hr'⟩))
    all_goals go_wp2_with fail
    all_goals
      have hr := P3_row (.string ⟨tl.toArray⟩) (.string ⟨ts.toArray⟩) (.string ⟨tr.toArray⟩) hr'
      have hw := P3_below (.string ⟨tl.toArray⟩) (.string ⟨ts.toArray⟩) (.string ⟨tr.toArray⟩) (HW4.out.then hb') (Nat.le_refl w.heap.size)
      clear c0 c1 c2 d0 d1 d2 c0' c1' c2' d0' d1' d2' f0' f1' f2' hr'
      change bodyPost _ _ _ _ _ (P3 w' w.heap.size (.string ⟨tl.toArray⟩) (.string ⟨ts.toArray⟩) (.string ⟨tr.toArray⟩))
      generalize P3 w' w.heap.size (.string ⟨tl.toArray⟩) (.string ⟨ts.toArray⟩) (.string ⟨tr.toArray⟩) = W at *
      obtain ⟨d0, d1, d2⟩ := box3_cells hr
      exact bodyPost_ret (v := .tuple #[.agg #[.string ⟨tl.toArray⟩, .string ⟨ts.toArray⟩, .string ⟨tr.toArray⟩], .bool (s == k)]) (by simp [results, Tryz.results37, go_sem, d0, d1, d2]) rfl ⟨by rw [HQ.out]; rfl, hw⟩
end Go.Proofs.YtlmgmifaknlolaaGreat

/- The contract of likely.New. (turned from XChNew) -/
set_option linter.unusedVariables false
set_option linter.unusedSimpArgs false
namespace Go.Proofs.YtlmgmifaknlolaaGreat
open Go.RowKit Go.Lib Go.Sort Go.Maps

def LNewOut (l : List (Str × Str)) (e i : Nat) : Prop := badL [] l = some (e, i) ∨ (badL [] l = none ∧ e = 0 ∧ i = 0)
/-- what New hands back -/
def LNewRes (w : World) (l : List (Str × Str)) (e : Ending) (w' : World) : Prop :=
  ∃ (er i : Nat) (vc : Value), e = .returned (.tuple #[vc, .agg #[.int .i64 er, .int .i64 i]]) ∧ LNewOut l er i ∧ (er = 0 → LkRd w' vc (dOf l)) ∧ (er ≠ 0 → vc = .pointer none) ∧ Below w.heap.size w w'
theorem good_ptsz {p : Pt} (h : Good p.tag) : PtSz p := by
  have hs := h.short
  unfold partsR at hs
  rw [sz_cons, sz_append, sz_append, sz_append] at hs
  have ho : ∀ x : Str, x.length ≤ sz (opt x) := fun x => by
    unfold opt
    split
    · rename_i e; rw [e]; exact Nat.zero_le _
    · rw [sz_cons]; omega
  have h1 := ho p.s
  have h2 := ho p.r
  have h3 : p.l.length ≤ (headPart p.l).length := by
    unfold headPart
    split
    · rename_i e; rw [e]; exact Nat.zero_le _
    · exact Nat.le_refl _
  change (headPart p.l).length + 1 + (sz (opt p.s) + sz (opt p.r) + _ + _) ≤ 129 at hs
  unfold PtSz maxLen
  omega
/-- a fault's box, stored -/
def F2 (w : World) (B e i : Nat) : World := (w.setCell ⟨B, 0, none⟩ (.int .i64 e)).setCell ⟨B, 1, none⟩ (.int .i64 i)
/-- the state of New: n pairs are said -/
structure LNewSt (w : World) (l : List (Str × Str)) (W : World) (n : Nat) : Prop where
  bad : badL [] l = badL (dOf (l.take n)) (l.drop n)
  own : OwnK W (w.heap.size + 1) n (dOf (l.take n))
  f : W.heap[w.heap.size]? = some (.cells #[.int .i64 0, .int .i64 0] 45 (0, 0))
  c : W.heap[w.heap.size + 1 + 1]? = some (.cells #[.map (some (w.heap.size + 1))] 70 (0, 0))
  bel : Below w.heap.size w W
theorem LNewSt.below {w W W' : World} {l : List (Str × Str)} {n : Nat} (h : LNewSt w l W n) (hb : Below W.heap.size W W') : LNewSt w l W' n :=
  ⟨h.bad, h.own.below hb, (hb.block _ (lt_of_block h.f)).trans h.f, (hb.block _ (lt_of_block h.c)).trans h.c, h.bel.then hb⟩
theorem LNewSt.step {w W W' : World} {l : List (Str × Str)} {n : Nat} (h : LNewSt w l W n) (hn : n < l.length) (h1 : okP l[n]) (h2 : lookP (dOf (l.take n)) (entryP l[n]).1 = none)
    (own : OwnK W' (w.heap.size + 1) (n + 1) (dOf (l.take n) ++ [entryP l[n]])) (hg : W.grownBy W' (some (w.heap.size + 1))) : LNewSt w l W' (n + 1) := by
  have hf := lt_of_block h.f
  have hc := lt_of_block h.c
  refine ⟨?_, ?_, (hg.block _ hf (by simp)).trans h.f, (hg.block _ hc (by simp)).trans h.c, h.bel.grown hg h.bel.size (fun j hj => by cases hj; omega)⟩
  · rw [h.bad, badL_step hn, if_pos h1, if_pos h2]
  · rw [dOf_take hn]; exact own
theorem lnew_bad {l : List (Str × Str)} {n : Nat} (hb : badL [] l = badL (dOf (l.take n)) (l.drop n)) (hn : n < l.length) (h1 : ¬ okP l[n]) : LNewOut l 200 n :=
  Or.inl (by rw [hb, badL_step hn, if_neg h1])
theorem lnew_again {l : List (Str × Str)} {n : Nat} {y : Pt} (hb : badL [] l = badL (dOf (l.take n)) (l.drop n)) (hn : n < l.length) (h1 : okP l[n]) (h2 : lookP (dOf (l.take n)) (entryP l[n]).1 = some y) : LNewOut l 211 n :=
  Or.inl (by rw [hb, badL_step hn, if_pos h1, if_neg (by rw [h2]; simp)])
theorem F2_row {w : World} {B : Nat} (e i : Nat) (h : w.heap[B]? = some (.cells #[.int .i64 0, .int .i64 0] 45 (0, 0))) : (F2 w B e i).heap[B]? = some (.cells #[.int .i64 e, .int .i64 i] 45 (0, 0)) := by
  unfold F2
  rw [heap_setCell_same _ _ _ _ _ _ (heap_setCell_same _ _ _ _ _ _ h)]
  simp
theorem F2_other {w : World} {B b : Nat} (e i : Nat) (h : b ≠ B) : (F2 w B e i).heap[b]? = w.heap[b]? := by
  unfold F2
  rw [heap_setCell_other _ _ _ _ h, heap_setCell_other _ _ _ _ h]
theorem F2_below {w w0 : World} {B : Nat} (e i : Nat) (h : Below B w0 w) : Below B w0 (F2 w B e i) := (h.setCell (Nat.le_refl _) _).setCell (Nat.le_refl _) _

/-- New's way out -/
theorem lnew_ret {w W : World} {l : List (Str × Str)} (er i : Nat) (vc : Value) (hf : W.heap[w.heap.size]? = some (.cells #[.int .i64 0, .int .i64 0] 45 (0, 0))) (hb : Below w.heap.size w W) (ho : LNewOut l er i)
    (h0 : er = 0 → LkRd (F2 W w.heap.size er i) vc (dOf l)) (h1 : er ≠ 0 → vc = .pointer none) {a : Act} (hd : a.defers = []) (h2 : a.tmps.getD 2 undef = vc) (h3 : a.tmps.getD 3 undef = .pointer (some ⟨w.heap.size, 0, none⟩)) :
    bodyPost Tryz.prog Tryz.f22 (fun e w' => LNewRes w l e w') Exit.ret a (F2 W w.heap.size er i) := by
  have hr := F2_row er i hf
  have hbb := F2_below er i hb
  generalize F2 W w.heap.size er i = V at *
  have e0 : V.cell? ⟨w.heap.size, 0, none⟩ = some (.int .i64 er) := by rw [cell_of_row _ _ _ _ _ _ hr]; rfl
  have e1 : V.cell? ⟨w.heap.size, 1, none⟩ = some (.int .i64 i) := by rw [cell_of_row _ _ _ _ _ _ hr]; rfl
  refine bodyPost_ret (v := .tuple #[vc, .agg #[.int .i64 er, .int .i64 i]]) ?_ hd ⟨er, i, vc, rfl, ho, h0, h1, hbb⟩
  obtain ⟨tmps, defers⟩ := a
  simp only [Array.getD_eq_getD_getElem?] at h2 h3
  simp [results, Tryz.results22, go_sem, h2, h3, e0, e1]

theorem LNewSt.start (w : World) (l : List (Str × Str)) : LNewSt w l (((w.alloc (.cells #[.int .i64 0, .int .i64 0] 45)).alloc (.map #[] 0)).alloc (.cells #[.map (some (w.heap.size + 1))] 70)) 0 := by
  have s1 : (w.alloc (.cells #[.int .i64 0, .int .i64 0] 45)).heap.size = w.heap.size + 1 := by simp
  have s2 : ((w.alloc (.cells #[.int .i64 0, .int .i64 0] 45)).alloc (.map #[] 0)).heap.size = w.heap.size + 1 + 1 := by simp
  refine ⟨by simp [dOf], ?_, ?_, ?_, ?_⟩
  · have := OwnK.made (w.alloc (.cells #[.int .i64 0, .int .i64 0] 45))
    rw [s1] at this
    exact this.block (heap_alloc_old _ _ (by rw [s2]; omega))
  · exact (heap_alloc_old _ _ (by rw [s2]; omega)).trans ((heap_alloc_old _ _ (by rw [s1]; omega)).trans (heap_alloc_new w _))
  · have := heap_alloc_new ((w.alloc (.cells #[.int .i64 0, .int .i64 0] 45)).alloc (.map #[] 0)) (.cells #[.map (some (w.heap.size + 1))] 70)
    rw [s2] at this
    exact this
  · exact (((Below.refl _ _).alloc (Nat.le_refl _) _).alloc (by rw [s1]; omega) _).alloc (by rw [s2]; omega) _
theorem LNewSt.okB {w W : World} {l : List (Str × Str)} (h : LNewSt w l W l.length) : badL [] l = none := by
  rw [h.bad]; exact badL_end l
theorem LNewSt.done {w W : World} {l : List (Str × Str)} (h : LNewSt w l W l.length) : LkRd (F2 W w.heap.size 0 0) (.pointer (some ⟨w.heap.size + 1 + 1, 0, none⟩)) (dOf l) := by
  have e1 : (F2 W w.heap.size 0 0).heap[w.heap.size + 1 + 1]? = W.heap[w.heap.size + 1 + 1]? := F2_other 0 0 (by omega)
  have hc := e1.trans h.c
  refine ⟨_, w.heap.size + 1, l.length, rfl, lt_of_block hc, by rw [cell_of_row _ _ _ _ _ _ hc]; rfl, ?_⟩
  have := h.own.block (w' := F2 W w.heap.size 0 0) (F2_other 0 0 (by omega))
  rw [List.take_length] at this
  exact this

set_option maxRecDepth 100000 in
set_option maxHeartbeats 16000000 in
theorem lnew_any (w : World) (va : Value) (l : List (Str × Str)) (hl : RdP w va l) (hp : PSz l) (hsz : l.length ≤ 10000000000) :
    Calls Tryz.prog 22 #[va] w fun e w' => LNewRes w l e w' := by
  have hmm := @run_makeMap Tryz.prog
  obtain ⟨ao, cp, rfl, hlen, hcell⟩ := hl
  have HCELL := hid hcell
  have HP := hid hp
  have HSZ := hid hsz
  have RD := hid (fun W (s : Str) (hs : s.length ≤ maxLen) => read_any W s hs)
  have FU := hid full_any
  have ST0 := hid (LNewSt.start w l)
  clear hcell hp hsz
  go_enter Tryz.func22, Tryz.ntmps22
  go_upto_region 2 with (fail)
  generalize (((w.alloc (.cells #[.int .i64 0, .int .i64 0] 45)).alloc (.map #[] 0)).alloc (.cells #[.map (some (w.heap.size + 1))] 70)) = w0 at *
  go_wp2_with fail
  go_loopg [18] l.length (fun g vi W => ∃ n : Nat, n ≤ l.length ∧ l.length ≤ n + g ∧ vi = .int .i64 n ∧ LNewSt w l W n)
  case atStart => exact ⟨0, Nat.zero_le _, by omega, rfl, ST0.out⟩
  case round =>
    obtain ⟨n, hn, hg, rfl, st⟩ := hrel
    rename World => w1
    have HG := hid hg
    have ST1 := hid st
    clear st ST0 hg
    by_cases hlt : n < l.length
    · have hne : l ≠ [] := by intro e; rw [e] at hlt; simp at hlt
      obtain ⟨p1, o1, rfl, hp1, hc1⟩ := HCELL.out hne
      have hps := HP.out _ (List.getElem_mem hlt)
      obtain ⟨kv, hkv⟩ : ∃ kv, kv = l[n]'hlt := ⟨_, rfl⟩
      obtain ⟨k, v⟩ := kv
      have q1 := (ST1.out.bel.cell (p := ⟨p1, o1 + n * 2 + 0, none⟩) hp1).trans (hc1 n 0 (S k) hlt (by rw [← hkv]; rfl))
      have q2 := (ST1.out.bel.cell (p := ⟨p1, o1 + n * 2 + 1, none⟩) hp1).trans (hc1 n 1 (S v) hlt (by rw [← hkv]; rfl))
      rw [S] at q1 q2
      rw [Nat.add_zero] at q1
      have hkl : k.length ≤ maxLen := by rw [← hkv] at hps; exact hps.1
      have hvl : v.length ≤ maxLen := by rw [← hkv] at hps; exact hps.2
      have HK := hid hkv
      have hni : (n : Int) < (l.length : Int) := by omega
      have hn0 : (0 : Int) ≤ (n : Int) := by omega
      clear hkv hc1 hps hne
      go_upto_region 5 with (fail)
      have HPB := hid (heap_alloc_new w1 (.cells #[.string ⟨k.toArray⟩, .string ⟨v.toArray⟩] 42))
      have HB2 := hid (show Below w1.heap.size w1 (w1.alloc (.cells #[.string ⟨k.toArray⟩, .string ⟨v.toArray⟩] 42)) from (Below.refl _ _).alloc (Nat.le_refl _) _)
      generalize w1.alloc (.cells #[.string ⟨k.toArray⟩, .string ⟨v.toArray⟩] 42) = w2 at *
      have ST2 := hid (ST1.out.below HB2.out)
      clear q1 q2 HB2
      have c0 : w2.cell? ⟨w1.heap.size, 0, none⟩ = some (.string ⟨k.toArray⟩) := by rw [cell_of_row _ _ _ _ _ _ HPB.out]; rfl
      have lt0 := lt_of_block HPB.out
      go_wp2_with fail
      refine (RD.out _ k hkl).mono ?_
      rintro e w3 ⟨rfl, hb3⟩
      have HR1 := hid (show ptRead k = ((ptRead k).1, (ptRead k).2) from rfl)
      generalize (ptRead k).1 = f at *
      generalize (ptRead k).2 = b1 at *
      obtain ⟨fl, fs, fr⟩ := f
      simp only [ptV, S]
      clear c0 lt0
      have HPB3 := hid ((hb3.block _ (lt_of_block HPB.out)).trans HPB.out)
      have ST3 := hid (ST2.out.below hb3)
      clear hb3 HPB ST2
      go_upto_region 6 with (fail)
      have HB4 := hid (show Below w3.heap.size w3 (w3.alloc (.cells #[.string ⟨fl.toArray⟩, .string ⟨fs.toArray⟩, .string ⟨fr.toArray⟩] 57)) from (Below.refl _ _).alloc (Nat.le_refl _) _)
      have HF4 := hid (heap_alloc_new w3 (.cells #[.string ⟨fl.toArray⟩, .string ⟨fs.toArray⟩, .string ⟨fr.toArray⟩] 57))
      generalize w3.alloc (.cells #[.string ⟨fl.toArray⟩, .string ⟨fs.toArray⟩, .string ⟨fr.toArray⟩] 57) = w4 at *
      have HPB4 := hid ((HB4.out.block _ (lt_of_block HPB3.out)).trans HPB3.out)
      have ST4 := hid (ST3.out.below HB4.out)
      clear HB4 HPB3 ST3
      have c1 : w4.cell? ⟨w1.heap.size, 1, none⟩ = some (.string ⟨v.toArray⟩) := by rw [cell_of_row _ _ _ _ _ _ HPB4.out]; rfl
      have lt1 := lt_of_block HPB4.out
      go_wp2_with fail
      refine (RD.out _ v hvl).mono ?_
      rintro e w5 ⟨rfl, hb5⟩
      have HR2 := hid (show ptRead v = ((ptRead v).1, (ptRead v).2) from rfl)
      generalize (ptRead v).1 = t at *
      generalize (ptRead v).2 = b2 at *
      obtain ⟨tl, ts, tr⟩ := t
      simp only [ptV, S]
      clear c1 lt1
      have HPB5 := hid ((hb5.block _ (lt_of_block HPB4.out)).trans HPB4.out)
      have HF5 := hid ((hb5.block _ (lt_of_block HF4.out)).trans HF4.out)
      have ST5 := hid (ST4.out.below hb5)
      clear hb5 HPB4 ST4 HF4
      go_upto_region 7 with (fail)
      have HB6 := hid (show Below w5.heap.size w5 (w5.alloc (.cells #[.string ⟨tl.toArray⟩, .string ⟨ts.toArray⟩, .string ⟨tr.toArray⟩] 57)) from (Below.refl _ _).alloc (Nat.le_refl _) _)
      have HT6 := hid (heap_alloc_new w5 (.cells #[.string ⟨tl.toArray⟩, .string ⟨ts.toArray⟩, .string ⟨tr.toArray⟩] 57))
      generalize w5.alloc (.cells #[.string ⟨tl.toArray⟩, .string ⟨ts.toArray⟩, .string ⟨tr.toArray⟩] 57) = w6 at *
      have HF6 := hid ((HB6.out.block _ (lt_of_block HF5.out)).trans HF5.out)
      have ST6 := hid (ST5.out.below HB6.out)
      clear HB6 HPB5 ST5 HF5
      have HOK := hid (show okP (l[n]'hlt) ↔ (b1 = true ∧ b2 = true ∧ Pt.full ⟨tl, ts, tr⟩) by
        rw [← HK.out]
        unfold okP
        simp only [HR1.out, HR2.out])
      have HE := hid (show entryP (l[n]'hlt) = (⟨fl, fs, fr⟩, ⟨tl, ts, tr⟩) by
        rw [← HK.out]
        unfold entryP
        simp only [HR1.out, HR2.out])
      have y0 : w6.cell? ⟨w.heap.size, 0, none⟩ = some (.int .i64 0) := by rw [cell_of_row _ _ _ _ _ _ ST6.out.f]; rfl
      have y1 : w6.cell? ⟨w.heap.size, 1, none⟩ = some (.int .i64 0) := by rw [cell_of_row _ _ _ _ _ _ ST6.out.f]; rfl
      have fy0 := frozen_of_row w6 w.heap.size 0 _ _ ST6.out.f
      have fy1 := frozen_of_row w6 w.heap.size 1 _ _ ST6.out.f
      have lty := lt_of_block ST6.out.f
      cases b1 with
      | false =>
        have hout := hid (lnew_bad ST6.out.bad hlt (fun h => by have := (HOK.out.1 h).1; cases this))
        go_wp2_with fail
        change bodyPost _ _ _ _ _ (F2 w6 w.heap.size 200 n)
        exact lnew_ret 200 n (.pointer none) ST6.out.f ST6.out.bel hout.out (fun h => by cases h) (fun _ => rfl) rfl rfl rfl
      | true =>
        cases b2 with
        | false =>
          have hout := hid (lnew_bad ST6.out.bad hlt (fun h => by have := (HOK.out.1 h).2.1; cases this))
          go_wp2_with fail
          change bodyPost _ _ _ _ _ (F2 w6 w.heap.size 200 n)
          exact lnew_ret 200 n (.pointer none) ST6.out.f ST6.out.bel hout.out (fun h => by cases h) (fun _ => rfl) rfl rfl rfl
        | true =>
          obtain ⟨d0, d1, d2⟩ := box3_cells HT6.out
          have ltt := lt_of_block HT6.out
          have FU2 := hid (FU.out w6 ⟨tl, ts, tr⟩)
          simp only [ptV, S] at FU2
          go_wp2_with fail
          refine FU2.out.mono ?_
          rintro e w7 ⟨rfl, hb7⟩
          have HT7 := hid ((hb7.block _ (lt_of_block HT6.out)).trans HT6.out)
          have HF7 := hid ((hb7.block _ (lt_of_block HF6.out)).trans HF6.out)
          have ST7 := hid (ST6.out.below hb7)
          clear hb7 y0 y1 fy0 fy1 lty d0 d1 d2 ltt HT6 HF6 ST6 FU2
          have y0 : w7.cell? ⟨w.heap.size, 0, none⟩ = some (.int .i64 0) := by rw [cell_of_row _ _ _ _ _ _ ST7.out.f]; rfl
          have y1 : w7.cell? ⟨w.heap.size, 1, none⟩ = some (.int .i64 0) := by rw [cell_of_row _ _ _ _ _ _ ST7.out.f]; rfl
          have fy0 := frozen_of_row w7 w.heap.size 0 _ _ ST7.out.f
          have fy1 := frozen_of_row w7 w.heap.size 1 _ _ ST7.out.f
          have lty := lt_of_block ST7.out.f
          by_cases hful : Pt.full ⟨tl, ts, tr⟩
          · have HOK2 := hid (HOK.out.2 (by first | exact ⟨rfl, rfl, hful⟩ | exact ⟨trivial, trivial, hful⟩))
            rw [decide_eq_true hful]
            clear hful
            have hgk : PtSz ⟨fl, fs, fr⟩ := good_ptsz (read_ok (p := ⟨fl, fs, fr⟩) (k := k) HR1.out).1
            have LK := OwnK.look_run (show OwnK (w7.alloc (.cells #[.string ⟨#[]⟩, .string ⟨#[]⟩, .string ⟨#[]⟩] 57)).drew (w.heap.size + 1) n (dOf (l.take n)) from (ST7.out.own.below ((Below.refl _ _).alloc (Nat.le_refl _) _)).block rfl) ⟨fl, fs, fr⟩ hgk
            have LK0 := OwnK.look_run (show OwnK w7.drew (w.heap.size + 1) n (dOf (l.take n)) from ST7.out.own.block rfl) ⟨fl, fs, fr⟩ hgk
            obtain ⟨c0, c1, c2⟩ := box3_cells HF7.out
            have ltf := lt_of_block HF7.out
            have cc : w7.cell? ⟨w.heap.size + 1 + 1, 0, none⟩ = some (.map (some (w.heap.size + 1))) := by rw [cell_of_row _ _ _ _ _ _ ST7.out.c]; rfl
            have ltc := lt_of_block ST7.out.c
            cases hlk : lookP (dOf (l.take n)) ⟨fl, fs, fr⟩ with
            | some y =>
              rw [hlk] at LK LK0
              simp only [Option.getD_some, Option.isSome_some] at LK LK0
              have HLK := hid hlk
              obtain ⟨yl, ys, yr⟩ := y
              simp only [ptV, S] at LK LK0
              clear hlk
              have HOUT := hid (lnew_again ST7.out.bad hlt HOK2.out (by rw [HE.out]; exact HLK.out))
              go_wp2_with fail
              clear y0 y1 fy0 fy1 lty
              go_region
              all_goals
                have HB8 := hid (show Below w7.heap.size w7 (w7.alloc (.cells #[.string ⟨yl.toArray⟩, .string ⟨ys.toArray⟩, .string ⟨yr.toArray⟩] 57)).drew from ((Below.refl _ _).alloc (Nat.le_refl _) _).drew)
                generalize (w7.alloc (.cells #[.string ⟨yl.toArray⟩, .string ⟨ys.toArray⟩, .string ⟨yr.toArray⟩] 57)).drew = w8 at *
                have ST8 := hid (ST7.out.below HB8.out)
                have y0 : w8.cell? ⟨w.heap.size, 0, none⟩ = some (.int .i64 0) := by rw [cell_of_row _ _ _ _ _ _ ST8.out.f]; rfl
                have y1 : w8.cell? ⟨w.heap.size, 1, none⟩ = some (.int .i64 0) := by rw [cell_of_row _ _ _ _ _ _ ST8.out.f]; rfl
                have fy0 := frozen_of_row w8 w.heap.size 0 _ _ ST8.out.f
                have fy1 := frozen_of_row w8 w.heap.size 1 _ _ ST8.out.f
                have lty := lt_of_block ST8.out.f
                go_wp2_with fail
                change bodyPost _ _ _ _ _ (F2 w8 w.heap.size 211 n)
                exact lnew_ret 211 n (.pointer none) ST8.out.f ST8.out.bel HOUT.out (fun h => by cases h) (fun _ => rfl) rfl rfl rfl
            | none =>
              rw [hlk] at LK LK0
              simp only [Option.getD_none, Option.isSome_none] at LK LK0
              have HLK := hid hlk
              simp only [ptV, S, Pt.zero] at LK LK0
              clear hlk y0 y1 fy0 fy1 lty
              go_wp2_with fail
              go_region
              all_goals
                have HB8 := hid (show Below w7.heap.size w7 (w7.alloc (.cells #[.string ⟨#[]⟩, .string ⟨#[]⟩, .string ⟨#[]⟩] 57)).drew from ((Below.refl _ _).alloc (Nat.le_refl _) _).drew)
                generalize (w7.alloc (.cells #[.string ⟨#[]⟩, .string ⟨#[]⟩, .string ⟨#[]⟩] 57)).drew = w8 at *
                have ST8 := hid (ST7.out.below HB8.out)
                have HF8 := hid ((HB8.out.block _ (lt_of_block HF7.out)).trans HF7.out)
                have HT8 := hid ((HB8.out.block _ (lt_of_block HT7.out)).trans HT7.out)
                clear c0 c1 c2 ltf cc ltc LK LK0
                obtain ⟨c0, c1, c2⟩ := box3_cells HF8.out
                have ltf := lt_of_block HF8.out
                obtain ⟨d0, d1, d2⟩ := box3_cells HT8.out
                have ltt := lt_of_block HT8.out
                have cc : w8.cell? ⟨w.heap.size + 1 + 1, 0, none⟩ = some (.map (some (w.heap.size + 1))) := by rw [cell_of_row _ _ _ _ _ _ ST8.out.c]; rfl
                have ltc := lt_of_block ST8.out.c
                obtain ⟨w9, hrun, hown9, hgr9⟩ := (show OwnK w8.drew (w.heap.size + 1) n (dOf (l.take n)) from ST8.out.own.block rfl).say_run (by have := HSZ.out; unfold maxLen; omega) ⟨fl, fs, fr⟩ ⟨tl, ts, tr⟩ hgk HLK.out
                have HO9 := hid hown9
                have HG9 := hid hgr9
                simp only [ptV, S] at hrun
                clear hown9 hgr9
                go_wp2_with fail
                go_region
                all_goals go_wp2_with fail
                all_goals go_roundg (gk - 1)
                all_goals first
                  | (have := HG.out; omega)
                  | exact ⟨n + 1, by omega, by have := HG.out; omega, by simp, LNewSt.step (W := w8.drew) (show LNewSt w l w8.drew n from ⟨ST8.out.bad, ST8.out.own, ST8.out.f, ST8.out.c, ST8.out.bel.drew⟩) hlt HOK2.out (by rw [HE.out]; exact HLK.out) (by rw [HE.out]; exact HO9.out) HG9.out⟩
          · have hout := hid (lnew_bad ST7.out.bad hlt (fun h => hful (HOK.out.1 h).2.2))
            rw [decide_eq_false hful]
            clear hful
            go_wp2_with fail
            change bodyPost _ _ _ _ _ (F2 w7 w.heap.size 200 n)
            exact lnew_ret 200 n (.pointer none) ST7.out.f ST7.out.bel hout.out (fun h => by cases h) (fun _ => rfl) rfl rfl rfl
    · have hnl : n = l.length := by omega
      subst hnl
      have HOUT := hid (show LNewOut l 0 0 from Or.inr ⟨ST1.out.okB, rfl, rfl⟩)
      have y0 : w1.cell? ⟨w.heap.size, 0, none⟩ = some (.int .i64 0) := by rw [cell_of_row _ _ _ _ _ _ ST1.out.f]; rfl
      have y1 : w1.cell? ⟨w.heap.size, 1, none⟩ = some (.int .i64 0) := by rw [cell_of_row _ _ _ _ _ _ ST1.out.f]; rfl
      have fy0 := frozen_of_row w1 w.heap.size 0 _ _ ST1.out.f
      have fy1 := frozen_of_row w1 w.heap.size 1 _ _ ST1.out.f
      have lty := lt_of_block ST1.out.f
      go_wp2_with fail
      change bodyPost _ _ _ _ _ (F2 w1 w.heap.size 0 0)
      exact lnew_ret 0 0 (.pointer (some ⟨w.heap.size + 1 + 1, 0, none⟩)) ST1.out.f ST1.out.bel HOUT.out (fun _ => ST1.out.done) (fun h => absurd rfl h) rfl rfl rfl
end Go.Proofs.YtlmgmifaknlolaaGreat

/- The contract of the closure of likely.add. -/
set_option linter.unusedVariables false
set_option linter.unusedSimpArgs false
namespace Go.Proofs.YtlmgmifaknlolaaGreat
open Go.RowKit Go.Lib Go.Sort Go.Maps

theorem containsR_any (w : World) (v : Value) (l : List Str) (x : Str) (h : RdS w v l) :
    Calls Tryz.prog 51 #[v, .string ⟨x.toArray⟩] w fun e w' => e = .returned (.bool (decide (x ∈ l))) ∧ w' = w := by
  obtain ⟨ao, cp, rfl, hl1, hr⟩ := h
  by_cases hn : l = []
  · subst hn
    have hc := Tryz.slices_Contains_string_empty ao cp ⟨x.toArray⟩ w
    refine hc.mono fun e w' hh => ⟨by rw [hh.1]; simp, hh.2⟩
  · obtain ⟨b, off, rfl, hlt, hc1⟩ := hr hn
    have hb : (bas l).length = l.length := by simp [bas]
    have hc := Tryz.slices_Contains_string b off l.length cp (bas l) ⟨x.toArray⟩ w (by omega) (by omega) (fun j hj => by
      rw [hb] at hj
      rw [bas_get l j hj]
      exact hc1 j _ (List.getElem?_eq_getElem hj))
    refine hc.mono fun e w' hh => ⟨?_, hh.2⟩
    rw [hh.1]
    congr 2
    rw [List.take_of_length_le (by omega), Bool.eq_iff_iff, Lib.containsS_iff]
    simp [bas]

/-- the boxes of add; bc: where the likely stands -/
structure AddSt (w : World) (bc tb : Nat) (W : World) (p to : Pt) (fnd : Bool) : Prop where
  bl : W.heap[w.heap.size]? = some (.cells #[.pointer (some ⟨bc, 0, none⟩)] 29 (0, 0))
  bp : W.heap[w.heap.size + 1]? = some (.cells #[S p.l, S p.s, S p.r] 57 (0, 0))
  br : W.heap[w.heap.size + 1 + 1]? = some (.cells #[S [], S [], S []] 57 (0, 0))
  bt : W.heap[tb]? = some (.cells #[S to.l, S to.s, S to.r] 57 (0, 0))
  bf : W.heap[tb + 1]? = some (.cells #[.bool fnd] 4 (0, 0))
  bel : Below w.heap.size w W
  ht : w.heap.size + 1 + 1 < tb
theorem AddSt.below {w W W' : World} {bc tb : Nat} {p to : Pt} {fnd : Bool} (h : AddSt w bc tb W p to fnd) (hb : Below W.heap.size W W') : AddSt w bc tb W' p to fnd :=
  ⟨(hb.block _ (lt_of_block h.bl)).trans h.bl, (hb.block _ (lt_of_block h.bp)).trans h.bp, (hb.block _ (lt_of_block h.br)).trans h.br, (hb.block _ (lt_of_block h.bt)).trans h.bt, (hb.block _ (lt_of_block h.bf)).trans h.bf, h.bel.then hb, h.ht⟩
theorem AddSt.drew {w W : World} {bc tb : Nat} {p to : Pt} {fnd : Bool} (h : AddSt w bc tb W p to fnd) : AddSt w bc tb W.drew p to fnd := ⟨h.bl, h.bp, h.br, h.bt, h.bf, h.bel.drew, h.ht⟩
/-- what the closure stores -/
def T4 (W : World) (b : Nat) (q : Pt) (r : Bool) : World := (P3 W b (S q.l) (S q.s) (S q.r)).setCell ⟨b + 1, 0, none⟩ (.bool r)
theorem AddSt.say {w W : World} {bc tb : Nat} {p to : Pt} {fnd : Bool} (h : AddSt w bc tb W p to fnd) (q : Pt) (r : Bool) : AddSt w bc tb (T4 W (tb) q r) p q r := by
  have ht := h.ht
  unfold T4
  refine ⟨?_, ?_, ?_, ?_, ?_, ?_, ht⟩
  · rw [heap_setCell_other _ _ _ _ (by show _ ≠ _; simp only; omega), P3_other _ _ _ (by omega)]; exact h.bl
  · rw [heap_setCell_other _ _ _ _ (by show _ ≠ _; simp only; omega), P3_other _ _ _ (by omega)]; exact h.bp
  · rw [heap_setCell_other _ _ _ _ (by show _ ≠ _; simp only; omega), P3_other _ _ _ (by omega)]; exact h.br
  · rw [heap_setCell_other _ _ _ _ (by show _ ≠ _; simp only; omega)]; exact P3_row _ _ _ h.bt
  · rw [heap_setCell_same _ _ _ _ _ _ ((P3_other _ _ _ (by omega)).trans h.bf)]; simp
  · exact (P3_below _ _ _ h.bel (by omega)).setCell (by simp; omega) _

/-- what the closure hands back -/
def TryOut (w : World) (bc tb : Nat) (D : List (Pt × Pt)) (p to : Pt) (fnd : Bool) (k : Pt) (needs : List Str) (e : Ending) (w' : World) : Prop :=
  if ([] : Str) ∈ needs then e = .returned (.bool false) ∧ AddSt w bc tb w' p to fnd else e = .returned (.bool (lookP D k).isSome) ∧ AddSt w bc tb w' p ((lookP D k).getD Pt.zero) (lookP D k).isSome

set_option maxRecDepth 100000 in
set_option maxHeartbeats 8000000 in
theorem try_any (w W : World) (bc tb : Nat) (D : List (Pt × Pt)) (p to k : Pt) (fnd : Bool) (needs : List Str) (nv : Value) (hL : LkRd w (.pointer (some ⟨bc, 0, none⟩)) D) (st : AddSt w bc tb W p to fnd) (hk : PtSz k) (hn : RdS W nv needs) :
    Calls Tryz.prog 50 #[ptV k, nv, .pointer (some ⟨w.heap.size, 0, none⟩), .pointer (some ⟨tb, 0, none⟩), .pointer (some ⟨tb + 1, 0, none⟩)] W fun e w' => TryOut w bc tb D p to fnd k needs e w' := by
  have CT := hid (fun W' (hb : Below W.heap.size W W') => containsR_any W' nv needs [] (hn.below hb))
  obtain ⟨bc', bm, n, hbc, hlt, hc, hown⟩ := hL
  have hbc' : bc = bc' := by
    have := Value.pointer.inj hbc
    have := Option.some.inj this
    exact (Addr.mk.inj this).1
  subst hbc'
  obtain ⟨ao, cp, rfl, hl1, hl2⟩ := hn
  obtain ⟨kl, ks, kr⟩ := k
  have HB1 := hid (show Below W.heap.size W (W.alloc (.cells #[.string ⟨kl.toArray⟩, .string ⟨ks.toArray⟩, .string ⟨kr.toArray⟩] 57)) from (Below.refl _ _).alloc (Nat.le_refl _) _)
  have HK1 := hid (heap_alloc_new W (.cells #[.string ⟨kl.toArray⟩, .string ⟨ks.toArray⟩, .string ⟨kr.toArray⟩] 57))
  have ST1 := hid (st.below HB1.out)
  have hown1 := hown.below (st.bel.then HB1.out)
  have hlt1 : bc < (W.alloc (.cells #[.string ⟨kl.toArray⟩, .string ⟨ks.toArray⟩, .string ⟨kr.toArray⟩] 57)).heap.size := Nat.lt_of_lt_of_le hlt (st.bel.then HB1.out).size
  have hc1 := ((st.bel.then HB1.out).cell (p := ⟨bc, 0, none⟩) hlt).trans hc
  clear hbc st hlt hc hown hl1 hl2
  unfold TryOut
  simp only [ptV, S] at CT ⊢
  by_cases hin : ([] : Str) ∈ needs
  · have HIN := hid hin
    simp only [if_pos hin]
    rw [decide_eq_true hin] at CT
    clear hin
    go_enter Tryz.func50, Tryz.ntmps50
    go_upto_region 1 with (fail)
    have CT1 := hid (CT.out _ HB1.out)
    generalize W.alloc (.cells #[.string ⟨kl.toArray⟩, .string ⟨ks.toArray⟩, .string ⟨kr.toArray⟩] 57) = W1 at *
    go_wp2_with fail
    refine CT1.out.mono ?_
    rintro e w' ⟨rfl, rfl⟩
    go_wp2_with fail
    go_ret
    exact ⟨rfl, ST1.out⟩
  · have HIN := hid hin
    simp only [if_neg hin]
    rw [decide_eq_false hin] at CT
    clear hin
    generalize hy : (lookP D ⟨kl, ks, kr⟩).getD Pt.zero = y at *
    generalize hr : (lookP D ⟨kl, ks, kr⟩).isSome = r at *
    obtain ⟨yl, ys, yr⟩ := y
    have HY := hid hy
    have HR := hid hr
    clear hy hr
    go_enter Tryz.func50, Tryz.ntmps50
    go_upto_region 1 with (fail)
    have CT1 := hid (CT.out _ HB1.out)
    generalize W.alloc (.cells #[.string ⟨kl.toArray⟩, .string ⟨ks.toArray⟩, .string ⟨kr.toArray⟩] 57) = W1 at *
    go_wp2_with fail
    refine CT1.out.mono ?_
    rintro e w' ⟨rfl, rfl⟩
    have LK := OwnK.look_run (show OwnK w'.drew bm n D from hown1.block rfl) ⟨kl, ks, kr⟩ hk
    rw [HY.out, HR.out] at LK
    have HOUT := hid (ST1.out.say ⟨yl, ys, yr⟩ r)
    simp only [ptV, S] at LK
    obtain ⟨tl, ts, tr⟩ := to
    have cl : w'.cell? ⟨w.heap.size, 0, none⟩ = some (.pointer (some ⟨bc, 0, none⟩)) := by rw [cell_of_row _ _ _ _ _ _ ST1.out.bl]; rfl
    obtain ⟨k0, k1, k2⟩ := box3_cells HK1.out
    obtain ⟨t0, t1, t2⟩ := box3_cells ST1.out.bt
    simp only [S] at t0 t1 t2
    have f0 : w'.cell? ⟨tb + 1, 0, none⟩ = some (.bool fnd) := by rw [cell_of_row _ _ _ _ _ _ ST1.out.bf]; rfl
    have zt0 := frozen_of_row w' (tb) 0 _ _ ST1.out.bt
    have zt1 := frozen_of_row w' (tb) 1 _ _ ST1.out.bt
    have zt2 := frozen_of_row w' (tb) 2 _ _ ST1.out.bt
    have zf0 := frozen_of_row w' (tb + 1) 0 _ _ ST1.out.bf
    have ll := lt_of_block ST1.out.bl
    have lk := lt_of_block HK1.out
    have lt := lt_of_block ST1.out.bt
    have lf := lt_of_block ST1.out.bf
    go_wp2_with fail
    go_region
    all_goals
      change Exit.then _ _ _ _ (T4 w' (tb) ⟨yl, ys, yr⟩ r).drew
      have HO := hid (AddSt.drew HOUT.out)
      generalize (T4 w' (tb) ⟨yl, ys, yr⟩ r).drew = W3 at *
      clear cl k0 k1 k2 t0 t1 t2 f0 zt0 zt1 zt2 zf0 ll lk lt lf LK hc1
      have f0 : W3.cell? ⟨tb + 1, 0, none⟩ = some (.bool r) := by rw [cell_of_row _ _ _ _ _ _ HO.out.bf]; rfl
      have lf := lt_of_block HO.out.bf
      go_wp2_with fail
      go_ret
      exact ⟨rfl, HO.out⟩
end Go.Proofs.YtlmgmifaknlolaaGreat

/- The contracts of slices.Clone at []api.Pair and of likely.with. -/
set_option linter.unusedVariables false
set_option linter.unusedSimpArgs false
namespace Go.Proofs.YtlmgmifaknlolaaGreat
open Go.RowKit Go.Lib Go.Sort

theorem ownP_mono {w : World} {B C : Nat} {v : Value} {l : List (Str × Str)} (h : OwnP w B v l) (hc : C ≤ B) : OwnP w C v l := by
  unfold OwnP World.ownsRow at *
  refine ⟨h.1, ?_⟩
  rcases h.2 with h | ⟨g, cap, cur, h1, h2, h3⟩
  · exact Or.inl h
  · exact Or.inr ⟨g, cap, cur, h1, Nat.le_trans hc h2, h3⟩
theorem ownS_mono {w : World} {B C : Nat} {v : Value} {l : List Str} (h : OwnS w B v l) (hc : C ≤ B) : OwnS w C v l := by
  unfold OwnS World.ownsRow at *
  refine ⟨h.1, ?_⟩
  rcases h.2 with h | ⟨g, cap, cur, h1, h2, h3⟩
  · exact Or.inl h
  · exact Or.inr ⟨g, cap, cur, h1, Nat.le_trans hc h2, h3⟩

theorem cloneS_any (w : World) (v : Value) (l : List Str) (h : RdS w v l) (hl : l.length ≤ 1000) :
    Calls Tryz.prog 52 #[v] w fun e w' => ∃ v', e = .returned v' ∧ OwnS w' w.heap.size v' l ∧ Below w.heap.size w w' := by
  obtain ⟨ao, cp, rfl, hl1, hr⟩ := h
  cases ao with
  | none =>
    obtain ⟨rfl, rfl⟩ := hl1.2 rfl
    exact (Tryz.slices_Clone_string_nil 0 0 w).mono fun e w' hh => ⟨_, hh.1, World.ownsRow_nil _ _ _ _, hh.2 ▸ Below.refl _ _⟩
  | some a =>
    by_cases hn : l = []
    · subst hn
      exact (Tryz.slices_Clone_string_zero a cp w).mono fun e w' ⟨v', h1, h2, _, h3⟩ => ⟨v', h1, h2, h3⟩
    · obtain ⟨b, off, he, hlt, hc⟩ := hr hn
      obtain rfl : a = ⟨b, off, none⟩ := Option.some.inj he
      have lb : (bas l).length = l.length := by simp [bas]
      refine (Tryz.slices_Clone_string b off l.length cp (bas l) w (by rw [lb]; exact Nat.le_refl _) (by omega) (fun j hj => ?_)).mono fun e w' ⟨v', h1, h2, _, h3⟩ => ⟨v', h1, ?_, h3⟩
      · rw [lb] at hj
        rw [bas_get l j hj]
        exact hc j _ (List.getElem?_eq_getElem hj)
      · refine own_cast h2 rfl ?_
        rw [List.take_of_length_le (by rw [lb]; exact Nat.le_refl _)]
        simp [bas, S]

set_option maxRecDepth 100000 in
set_option maxHeartbeats 8000000 in
theorem cloneP_zero (a : Addr) (c : Nat) (w : World) :
    Calls Tryz.prog 53 #[.slice (some a) 0 c] w fun e w' => ∃ v', e = .returned v' ∧ OwnP w' w.heap.size v' [] ∧ Below w.heap.size w w' := by
  obtain ⟨i0, hi, hz0, hz1, hz2⟩ := info_parts infoP
  have q22 : ∀ (w : World) (a : Option Addr) (n c n' c' : Nat), (binOp .eql 22 (.slice a n c) (.slice none n' c')).run Tryz.prog w = .ok (.bool a.isNone) w := fun w a n c n' c' => Lib.run_eql_slice_nil w _ _ a n c n' c' Tryz.underlying22
  go_enter Tryz.func53, Tryz.ntmps53
  go_wp2_with (at_builtin; refine wpList_append_own _ rfl _ _ 22 rfl w.heap.size 42 i0 (.agg #[.string ⟨#[]⟩, .string ⟨#[]⟩]) 2 32 Tryz.underlying22 hi hz0 hz1 hz2 rfl (by decide) _ _ _ rfl (World.ownsRow_made w #[] 0 (Nat.le_refl _) (Nat.zero_le _) (by simp)) a 0 c [] rfl rfl (by intro j u hj; simp at hj) (by intro u hu; cases hu) (by unfold maxLen; omega) (by omega) (by simp) ?_)
  intro v' w1 hown hgrow hnil
  go_wp2
  go_ret
  refine ⟨v', rfl, by simpa [OwnP, flat2] using hown, ?_⟩
  exact ((Below.refl _ w).alloc (Nat.le_refl _) _).grown hgrow (by simp) (by intro k hk; simp [Value.ownBlock] at hk; omega)

theorem cloneP_any (w : World) (v : Value) (l : List (Str × Str)) (h : RdP w v l) (hl : l.length ≤ 1000) :
    Calls Tryz.prog 53 #[v] w fun e w' => ∃ v', e = .returned v' ∧ OwnP w' w.heap.size v' l ∧ Below w.heap.size w w' := by
  obtain ⟨ao, cp, rfl, hl1, hr⟩ := h
  cases ao with
  | none =>
    obtain ⟨rfl, rfl⟩ := hl1.2 rfl
    have hc := AnyE.slices_Clone_nil Tryz.clPair 0 0 w
    change Calls Tryz.prog 53 _ _ _ at hc
    exact hc.mono fun e w' hh => ⟨_, hh.1, World.ownsRow_nil _ _ _ _, hh.2 ▸ Below.refl _ _⟩
  | some a =>
    by_cases hn : l = []
    · subst hn
      exact cloneP_zero a cp w
    · obtain ⟨b, off, he, hlt, hc⟩ := hr hn
      obtain rfl : a = ⟨b, off, none⟩ := Option.some.inj he
      obtain ⟨i0, hi, hz0, hz1, hz2⟩ := info_parts infoP
      have hcall := AnyE.slices_Clone Tryz.clPair i0 (.agg #[.string ⟨#[]⟩, .string ⟨#[]⟩]) 2 32 hi hz0 hz1 hz2 rfl (by decide) Tryz.sizeOf42 b off l.length cp (flat2 l) w (flat2_len l) (by unfold maxLen; omega) (by omega) (fun j u hu => by
          have hj := (List.getElem?_eq_some_iff.1 hu).1
          rw [flat2_len] at hj
          have hjm : j / 2 < l.length := by omega
          have hdm : j / 2 * 2 + j % 2 = j := by omega
          have h2 := flat2_get l (j / 2) (j % 2) hjm (by omega)
          rw [hdm, hu] at h2
          have := hc (j / 2) (j % 2) u hjm h2.symm
          rw [show off + j / 2 * 2 + j % 2 = off + j by omega] at this
          exact this) (fun u hu => by
          obtain ⟨x, _, hx⟩ := List.mem_flatMap.1 hu
          simp only [enc2, List.mem_cons, List.not_mem_nil, or_false] at hx
          rcases hx with rfl | rfl <;> rfl)
      change Calls Tryz.prog 53 _ _ _ at hcall
      exact hcall.mono fun e w' ⟨v', h1, h2, _, h3⟩ => ⟨v', h1, h2, h3⟩

/-- a tag whose lists the call owns -/
def OwnT (w : World) (B : Nat) (v : Value) (t : Tg) : Prop := ∃ vv kv, v = .agg (tagCells t vv kv) ∧ OwnS w B vv t.vars ∧ OwnP w B kv t.keys
theorem OwnT.rd {w : World} {B : Nat} {v : Value} {t : Tg} (h : OwnT w B v t) : RdT w v t := by
  obtain ⟨vv, kv, hv, h1, h2⟩ := h
  exact ⟨vv, kv, hv, h1.rd, h2.rd⟩
theorem OwnT.zero (w : World) (B : Nat) : OwnT w B (.agg (tagCells Tg.zero vnil vnil)) Tg.zero := ⟨vnil, vnil, rfl, World.ownsRow_nil _ _ _ _, World.ownsRow_nil _ _ _ _⟩

theorem cell_far {W : World} {B b i j : Nat} {x : Value} (h : B ≠ b) : (W.setCell ⟨B, j, none⟩ x).cell? ⟨b, i, none⟩ = W.cell? ⟨b, i, none⟩ := World.cell?_setCell_far W _ _ x h
/-- the boxes of with -/
structure WithSt (w : World) (t : Tg) (p : Pt) (vv kv : Value) (W : World) : Prop where
  bt : W.heap[w.heap.size]? = some (.cells (tagCells t vv kv) 25 (0, 0))
  bp : W.heap[w.heap.size + 1]? = some (.cells #[S p.l, S p.s, S p.r] 57 (0, 0))
  br : W.heap[w.heap.size + 1 + 1]? = some (.cells (tagCells Tg.zero vnil vnil) 25 (0, 0))
  rs : RdS W vv t.vars
  rp : RdP W kv t.keys
  bel : Below w.heap.size w W
theorem WithSt.below {w W W' : World} {t : Tg} {p : Pt} {vv kv : Value} (h : WithSt w t p vv kv W) (hb : Below W.heap.size W W') : WithSt w t p vv kv W' :=
  ⟨(hb.block _ (lt_of_block h.bt)).trans h.bt, (hb.block _ (lt_of_block h.bp)).trans h.bp, (hb.block _ (lt_of_block h.br)).trans h.br, h.rs.below hb, h.rp.below hb, h.bel.then hb⟩
theorem WithSt.c0 {w W : World} {t : Tg} {p : Pt} {vv kv : Value} (h : WithSt w t p vv kv W) : W.cell? ⟨w.heap.size + 1, 0, none⟩ = some (.string ⟨p.l.toArray⟩) := (box3_cells h.bp).1
theorem WithSt.c1 {w W : World} {t : Tg} {p : Pt} {vv kv : Value} (h : WithSt w t p vv kv W) : W.cell? ⟨w.heap.size + 1, 1, none⟩ = some (.string ⟨p.s.toArray⟩) := (box3_cells h.bp).2.1
theorem WithSt.c2 {w W : World} {t : Tg} {p : Pt} {vv kv : Value} (h : WithSt w t p vv kv W) : W.cell? ⟨w.heap.size + 1, 2, none⟩ = some (.string ⟨p.r.toArray⟩) := (box3_cells h.bp).2.2
theorem WithSt.t3 {w W : World} {t : Tg} {p : Pt} {vv kv : Value} (h : WithSt w t p vv kv W) : W.cell? ⟨w.heap.size, 3, none⟩ = some vv := by rw [cell_of_row _ _ _ _ _ _ h.bt]; rfl
theorem WithSt.t4 {w W : World} {t : Tg} {p : Pt} {vv kv : Value} (h : WithSt w t p vv kv W) : W.cell? ⟨w.heap.size, 4, none⟩ = some kv := by rw [cell_of_row _ _ _ _ _ _ h.bt]; rfl
theorem WithSt.z0 {w W : World} {t : Tg} {p : Pt} {vv kv : Value} (h : WithSt w t p vv kv W) : W.cell? ⟨w.heap.size + 1 + 1, 0, none⟩ = some (.string ⟨#[]⟩) := (box_cells h.br).1
theorem WithSt.z1 {w W : World} {t : Tg} {p : Pt} {vv kv : Value} (h : WithSt w t p vv kv W) : W.cell? ⟨w.heap.size + 1 + 1, 1, none⟩ = some (.string ⟨#[]⟩) := (box_cells h.br).2.1
theorem WithSt.z2 {w W : World} {t : Tg} {p : Pt} {vv kv : Value} (h : WithSt w t p vv kv W) : W.cell? ⟨w.heap.size + 1 + 1, 2, none⟩ = some (.string ⟨#[]⟩) := (box_cells h.br).2.2.1
theorem WithSt.z3 {w W : World} {t : Tg} {p : Pt} {vv kv : Value} (h : WithSt w t p vv kv W) : W.cell? ⟨w.heap.size + 1 + 1, 3, none⟩ = some (.slice none 0 0) := (box_cells h.br).2.2.2.1
theorem WithSt.z4 {w W : World} {t : Tg} {p : Pt} {vv kv : Value} (h : WithSt w t p vv kv W) : W.cell? ⟨w.heap.size + 1 + 1, 4, none⟩ = some (.slice none 0 0) := (box_cells h.br).2.2.2.2
theorem WithSt.fz {w W : World} {t : Tg} {p : Pt} {vv kv : Value} (h : WithSt w t p vv kv W) (j : Nat) : W.frozen? ⟨w.heap.size + 1 + 1, j, none⟩ = false := frozen_of_row W _ j _ _ h.br
theorem WithSt.lr {w W : World} {t : Tg} {p : Pt} {vv kv : Value} (h : WithSt w t p vv kv W) : w.heap.size + 1 + 1 < W.heap.size := lt_of_block h.br
theorem WithSt.lp {w W : World} {t : Tg} {p : Pt} {vv kv : Value} (h : WithSt w t p vv kv W) : w.heap.size + 1 < W.heap.size := lt_of_block h.bp
theorem WithSt.lt {w W : World} {t : Tg} {p : Pt} {vv kv : Value} (h : WithSt w t p vv kv W) : w.heap.size < W.heap.size := lt_of_block h.bt
theorem WithSt.start {w : World} {t : Tg} {p : Pt} {vv kv : Value} (hs : RdS w vv t.vars) (hp : RdP w kv t.keys) :
    WithSt w t p vv kv (((w.alloc (.cells (tagCells t vv kv) 25)).alloc (.cells #[S p.l, S p.s, S p.r] 57)).alloc (.cells (tagCells Tg.zero vnil vnil) 25)) := by
  have s1 : (w.alloc (.cells (tagCells t vv kv) 25)).heap.size = w.heap.size + 1 := by simp
  have s2 : ((w.alloc (.cells (tagCells t vv kv) 25)).alloc (.cells #[S p.l, S p.s, S p.r] 57)).heap.size = w.heap.size + 1 + 1 := by simp
  have hb := (((Below.refl w.heap.size w).alloc (Nat.le_refl _) (.cells (tagCells t vv kv) 25)).alloc (by rw [s1]; omega) (.cells #[S p.l, S p.s, S p.r] 57)).alloc (by rw [s2]; omega) (.cells (tagCells Tg.zero vnil vnil) 25)
  refine ⟨?_, ?_, ?_, hs.below hb, hp.below hb, hb⟩
  · exact (heap_alloc_old _ _ (by rw [s2]; omega)).trans ((heap_alloc_old _ _ (by rw [s1]; omega)).trans (heap_alloc_new w _))
  · refine (heap_alloc_old _ _ (by rw [s2]; omega)).trans ?_
    have := heap_alloc_new (w.alloc (.cells (tagCells t vv kv) 25)) (.cells #[S p.l, S p.s, S p.r] 57)
    rw [s1] at this
    exact this
  · have := heap_alloc_new ((w.alloc (.cells (tagCells t vv kv) 25)).alloc (.cells #[S p.l, S p.s, S p.r] 57)) (.cells (tagCells Tg.zero vnil vnil) 25)
    rw [s2] at this
    exact this

set_option maxRecDepth 100000 in
set_option maxHeartbeats 16000000 in
theorem with_any (w : World) (v : Value) (t : Tg) (p : Pt) (h : RdT w v t) (hv : t.vars.length ≤ 1000) (hk : t.keys.length ≤ 1000) :
    Calls Tryz.prog 32 #[v, ptV p] w fun e w' => ∃ v', e = .returned v' ∧ OwnT w' w.heap.size v' (withT t p) ∧ Below w.heap.size w w' := by
  obtain ⟨vv, kv, rfl, hS, hP⟩ := h
  have ST0 := hid (WithSt.start (p := p) hS hP)
  have CS := hid (fun W (st : WithSt w t p vv kv W) => ((cloneS_any W vv t.vars st.rs hv).mono (by
      rintro e w' ⟨v1, rfl, o1, hb⟩
      have o2 := ownS_mono o1 (show w.heap.size + 3 ≤ W.heap.size by have := st.lr; omega)
      obtain ⟨an, cn, rfl⟩ := own_sliceS o2
      have s2 := st.below hb
      exact ⟨an, cn, rfl, o2, fun v2 h2 => own_below h2 hb, s2, s2.z0, s2.z1, s2.z2, s2.z3, s2.z4, s2.fz 0, s2.fz 1, s2.fz 2, s2.fz 3, s2.fz 4, s2.lr, s2.c0, s2.c1, s2.c2, s2.t3, s2.t4⟩) : Calls Tryz.prog 52 #[vv] W fun e w' => ∃ an cn, e = .returned (.slice an t.vars.length cn) ∧ OwnS w' (w.heap.size + 3) (.slice an t.vars.length cn) t.vars ∧ (∀ v2, OwnP W (w.heap.size + 3) v2 t.keys → OwnP w' (w.heap.size + 3) v2 t.keys) ∧ WithSt w t p vv kv w' ∧ w'.cell? ⟨w.heap.size + 1 + 1, 0, none⟩ = some (.string ⟨#[]⟩) ∧ w'.cell? ⟨w.heap.size + 1 + 1, 1, none⟩ = some (.string ⟨#[]⟩) ∧ w'.cell? ⟨w.heap.size + 1 + 1, 2, none⟩ = some (.string ⟨#[]⟩) ∧ w'.cell? ⟨w.heap.size + 1 + 1, 3, none⟩ = some (.slice none 0 0) ∧ w'.cell? ⟨w.heap.size + 1 + 1, 4, none⟩ = some (.slice none 0 0) ∧ w'.frozen? ⟨w.heap.size + 1 + 1, 0, none⟩ = false ∧ w'.frozen? ⟨w.heap.size + 1 + 1, 1, none⟩ = false ∧ w'.frozen? ⟨w.heap.size + 1 + 1, 2, none⟩ = false ∧ w'.frozen? ⟨w.heap.size + 1 + 1, 3, none⟩ = false ∧ w'.frozen? ⟨w.heap.size + 1 + 1, 4, none⟩ = false ∧ w.heap.size + 1 + 1 < w'.heap.size ∧ w'.cell? ⟨w.heap.size + 1, 0, none⟩ = some (.string ⟨p.l.toArray⟩) ∧ w'.cell? ⟨w.heap.size + 1, 1, none⟩ = some (.string ⟨p.s.toArray⟩) ∧ w'.cell? ⟨w.heap.size + 1, 2, none⟩ = some (.string ⟨p.r.toArray⟩) ∧ w'.cell? ⟨w.heap.size, 3, none⟩ = some vv ∧ w'.cell? ⟨w.heap.size, 4, none⟩ = some kv))
  have CP := hid (fun W (st : WithSt w t p vv kv W) => ((cloneP_any W kv t.keys st.rp hk).mono (by
      rintro e w' ⟨v2, rfl, o1, hb⟩
      have o2 := ownP_mono o1 (show w.heap.size + 3 ≤ W.heap.size by have := st.lr; omega)
      obtain ⟨an, cn, rfl⟩ := own_sliceP o2
      have s2 := st.below hb
      exact ⟨an, cn, rfl, o2, fun v1 h2 => own_below h2 hb, s2, s2.z0, s2.z1, s2.z2, s2.z3, s2.z4, s2.fz 0, s2.fz 1, s2.fz 2, s2.fz 3, s2.fz 4, s2.lr, s2.c0, s2.c1, s2.c2, s2.t3, s2.t4⟩) : Calls Tryz.prog 53 #[kv] W fun e w' => ∃ an cn, e = .returned (.slice an t.keys.length cn) ∧ OwnP w' (w.heap.size + 3) (.slice an t.keys.length cn) t.keys ∧ (∀ v1, OwnS W (w.heap.size + 3) v1 t.vars → OwnS w' (w.heap.size + 3) v1 t.vars) ∧ WithSt w t p vv kv w' ∧ w'.cell? ⟨w.heap.size + 1 + 1, 0, none⟩ = some (.string ⟨#[]⟩) ∧ w'.cell? ⟨w.heap.size + 1 + 1, 1, none⟩ = some (.string ⟨#[]⟩) ∧ w'.cell? ⟨w.heap.size + 1 + 1, 2, none⟩ = some (.string ⟨#[]⟩) ∧ w'.cell? ⟨w.heap.size + 1 + 1, 3, none⟩ = some (.slice none 0 0) ∧ w'.cell? ⟨w.heap.size + 1 + 1, 4, none⟩ = some (.slice none 0 0) ∧ w'.frozen? ⟨w.heap.size + 1 + 1, 0, none⟩ = false ∧ w'.frozen? ⟨w.heap.size + 1 + 1, 1, none⟩ = false ∧ w'.frozen? ⟨w.heap.size + 1 + 1, 2, none⟩ = false ∧ w'.frozen? ⟨w.heap.size + 1 + 1, 3, none⟩ = false ∧ w'.frozen? ⟨w.heap.size + 1 + 1, 4, none⟩ = false ∧ w.heap.size + 1 + 1 < w'.heap.size ∧ w'.cell? ⟨w.heap.size + 1, 0, none⟩ = some (.string ⟨p.l.toArray⟩) ∧ w'.cell? ⟨w.heap.size + 1, 1, none⟩ = some (.string ⟨p.s.toArray⟩) ∧ w'.cell? ⟨w.heap.size + 1, 2, none⟩ = some (.string ⟨p.r.toArray⟩) ∧ w'.cell? ⟨w.heap.size, 3, none⟩ = some vv ∧ w'.cell? ⟨w.heap.size, 4, none⟩ = some kv))
  obtain ⟨av, cv, rfl, _, _⟩ := hS
  obtain ⟨ak, ck, rfl, _, _⟩ := hP
  obtain ⟨pl, ps, pr⟩ := p
  obtain ⟨tl, ts, tr, tv, tk⟩ := t
  simp only [tagCells, S, vnil, ptV, Tg.zero] at ST0 CS CP hv hk ⊢
  go_enter Tryz.func32, Tryz.ntmps32
  go_upto_region 1 with (fail)
  generalize (((w.alloc (.cells #[.string ⟨tl.toArray⟩, .string ⟨ts.toArray⟩, .string ⟨tr.toArray⟩, .slice av tv.length cv, .slice ak tk.length ck] 25)).alloc (.cells #[.string ⟨pl.toArray⟩, .string ⟨ps.toArray⟩, .string ⟨pr.toArray⟩] 57)).alloc (.cells #[.string ⟨#[]⟩, .string ⟨#[]⟩, .string ⟨#[]⟩, .slice none 0 0, .slice none 0 0] 25)) = w0 at *
  have s0 := ST0.out
  have s0d : WithSt w ⟨tl, ts, tr, tv, tk⟩ ⟨pl, ps, pr⟩ (.slice av tv.length cv) (.slice ak tk.length ck) w0.drew := ⟨s0.bt, s0.bp, s0.br, s0.rs, s0.rp, s0.bel.drew⟩
  have S0 := (show ((fun W => W.cell? ⟨w.heap.size + 1, 0, none⟩ = some (.string ⟨pl.toArray⟩) ∧ W.cell? ⟨w.heap.size + 1, 1, none⟩ = some (.string ⟨ps.toArray⟩) ∧ W.cell? ⟨w.heap.size + 1, 2, none⟩ = some (.string ⟨pr.toArray⟩) ∧ W.cell? ⟨w.heap.size, 3, none⟩ = some (.slice av tv.length cv) ∧ W.cell? ⟨w.heap.size, 4, none⟩ = some (.slice ak tk.length ck))) w0.drew from ⟨s0d.c0, s0d.c1, s0d.c2, s0d.t3, s0d.t4⟩)
  simp only at S0
  clear s0
  have hn1 : w.heap.size + 1 + 1 ≠ w.heap.size + 1 := by omega
  have hn2 : w.heap.size + 1 + 1 ≠ w.heap.size := by omega
  go_region_held3 (fun W => W.cell? ⟨w.heap.size + 1, 0, none⟩ = some (.string ⟨pl.toArray⟩) ∧ W.cell? ⟨w.heap.size + 1, 1, none⟩ = some (.string ⟨ps.toArray⟩) ∧ W.cell? ⟨w.heap.size + 1, 2, none⟩ = some (.string ⟨pr.toArray⟩) ∧ W.cell? ⟨w.heap.size, 3, none⟩ = some (.slice av tv.length cv) ∧ W.cell? ⟨w.heap.size, 4, none⟩ = some (.slice ak tk.length ck)) (first | with_reducible assumption | simp [cell_far hn1, cell_far hn2, hsP]) (first
    | (go_at_call 52; (with_reducible refine (CS.out _ (by assumption)).mono ?_); rintro e wS ⟨a1, e1, rfl, oS, kS, sS, ys0, ys1, ys2, ys3, ys4, ys5, ys6, ys7, ys8, ys9, ys10, hsS⟩)
    | (go_at_call 53; (with_reducible refine (CP.out _ (by assumption)).mono ?_); rintro e wP ⟨a2, e2, rfl, oP, kP, sP, yp0, yp1, yp2, yp3, yp4, yp5, yp6, yp7, yp8, yp9, yp10, hsP⟩))
  have o1 := kP _ oS
  have hr := P5_row (.string ⟨pl.toArray⟩) (.string ⟨ps.toArray⟩) (.string ⟨pr.toArray⟩) (.slice a1 tv.length e1) (.slice a2 tk.length e2) sP.br
  have hw := P5_below (.string ⟨pl.toArray⟩) (.string ⟨ps.toArray⟩) (.string ⟨pr.toArray⟩) (.slice a1 tv.length e1) (.slice a2 tk.length e2) sP.bel (show w.heap.size ≤ w.heap.size + 1 + 1 by omega)
  have h1 := P5_own (.string ⟨pl.toArray⟩) (.string ⟨ps.toArray⟩) (.string ⟨pr.toArray⟩) (.slice a1 tv.length e1) (.slice a2 tk.length e2) o1 (b := w.heap.size + 1 + 1) (fun e => by have := (World.ownsRow.lt o1 _ e).1; omega)
  have h2 := P5_own (.string ⟨pl.toArray⟩) (.string ⟨ps.toArray⟩) (.string ⟨pr.toArray⟩) (.slice a1 tv.length e1) (.slice a2 tk.length e2) oP (b := w.heap.size + 1 + 1) (fun e => by have := (World.ownsRow.lt oP _ e).1; omega)
  go_wp2_with fail
  clear S0 CS CP oS kS sS kP ys0 ys1 ys2 ys3 ys4 ys5 ys6 ys7 ys8 ys9 ys10 yp0 yp1 yp2 yp3 yp4 yp5 yp6 yp7 yp8 yp9 yp10 hsS hsP
  change bodyPost _ _ _ _ _ (P5 wP (w.heap.size + 1 + 1) (.string ⟨pl.toArray⟩) (.string ⟨ps.toArray⟩) (.string ⟨pr.toArray⟩) (.slice a1 tv.length e1) (.slice a2 tk.length e2))
  generalize P5 wP (w.heap.size + 1 + 1) (.string ⟨pl.toArray⟩) (.string ⟨ps.toArray⟩) (.string ⟨pr.toArray⟩) (.slice a1 tv.length e1) (.slice a2 tk.length e2) = V at *
  obtain ⟨d0, d1, d2, d3, d4⟩ := box_cells hr
  refine bodyPost_ret (v := .agg #[.string ⟨pl.toArray⟩, .string ⟨ps.toArray⟩, .string ⟨pr.toArray⟩, .slice a1 tv.length e1, .slice a2 tk.length e2]) (by simp [results, Tryz.results32, go_sem, d0, d1, d2, d3, d4]) rfl ⟨_, rfl, ?_, hw⟩
  exact ⟨.slice a1 tv.length e1, .slice a2 tk.length e2, rfl, ownS_mono h1 (by omega), ownP_mono h2 (by omega)⟩
end Go.Proofs.YtlmgmifaknlolaaGreat
