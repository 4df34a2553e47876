/- A map keyed by a tag's parts that the program makes: what it holds, and the laws at the operations. -/
import Derived.Test.YtlmgmifaknlolaaGreatOpen
import Derived.Test.YtlmgmifaknlolaaGreatLikelyP
import Derived.Maps.OwnSet
import Derived.Maps.OwnOps
import Derived.Maps.StringElems
import Derived.DeepKeys4
set_option linter.unusedVariables false
set_option linter.unusedSimpArgs false
namespace Go.Proofs.YtlmgmifaknlolaaGreat
open Go.RowKit Go.Lib Go.Sort Go.Maps Go.WideMaps

theorem laidOut : laidOutB Tryz.prog = true := by kernel_rfl
theorem rowPt : (57 : TypeId) < Tryz.prog.types.size := of_decide_eq_true (by kernel_rfl)
theorem widePt : (match Tryz.prog.underlying 57 with | some (.array _ _) | some (.struct _) => true | _ => false) = true := by kernel_rfl
set_option maxRecDepth 100000 in
theorem lawPt : Keyed Tryz.prog 57 := Keyed.of_law (deep_law_laid laidOut (m := 2) (by omega) rowPt (by kernel_rfl) widePt)
/-- parts as a value -/
def ptV (p : Pt) : Value := .agg #[S p.l, S p.s, S p.r]
def PtSz (p : Pt) : Prop := p.l.length ≤ maxLen ∧ p.s.length ≤ maxLen ∧ p.r.length ≤ maxLen
theorem ptV_inj {p q : Pt} (h : ptV p = ptV q) : p = q := by
  cases p; cases q
  simpa [ptV, S] using h
set_option maxRecDepth 100000 in
theorem keyP_some (p : Pt) (h : PtSz p) : ∃ kl, keyOf Tryz.prog 57 (ptV p) = some kl := by
  obtain ⟨N, hN⟩ : ∃ N, Tryz.prog.types.size = N + 1 := ⟨Tryz.prog.types.size - 1, (Nat.succ_pred_eq_of_pos (Nat.lt_of_le_of_lt (Nat.zero_le _) rowPt)).symm⟩
  have h1 : Tryz.prog.keyType 57 = true := by kernel_rfl
  have h2 : (ptV p).formed Tryz.prog 57 = true := by kernel_rfl
  have h3 : Tryz.prog.cellsOf 57 = 3 := by kernel_rfl
  have h4 : Tryz.prog.cellsOf 9 = 1 := by kernel_rfl
  have kls : ∀ s : Str, s.length ≤ maxLen → Tryz.prog.keyLits (N + 1) 9 [S s] = some [.string s] := fun s hs => by
    unfold Program.keyLits
    rw [Tryz.underlying9]
    simp only [S]
    rw [if_pos (by rw [Lib.size_eq]; exact hs)]
  unfold keyOf
  rw [Tryz.underlying57]
  simp only [h1, h2, Bool.and_self, if_true]
  rw [hN]
  unfold Program.keyLits
  rw [Tryz.underlying57]
  simp only [ptV, Value.cells, h3, List.length_cons, List.length_nil]
  rw [if_pos (by simp)]
  simp [h4, kls p.l h.1, kls p.s h.2.1, kls p.r h.2.2]
set_option maxRecDepth 100000 in
theorem keyP_inv {v : Value} {kl : Lit} (h : keyOf Tryz.prog 57 v = some kl) : ∃ p, v = ptV p ∧ PtSz p := by
  obtain ⟨xs, L, rfl, hL, _⟩ := keyOf_top widePt h
  have h3 : Tryz.prog.cellsOf 57 = 3 := by kernel_rfl
  have h4 : Tryz.prog.cellsOf 9 = 1 := by kernel_rfl
  obtain ⟨N, hN⟩ : ∃ N, Tryz.prog.types.size = N + 1 := ⟨Tryz.prog.types.size - 1, (Nat.succ_pred_eq_of_pos (Nat.lt_of_le_of_lt (Nat.zero_le _) rowPt)).symm⟩
  rw [hN] at hL
  unfold Program.keyLits at hL
  rw [Tryz.underlying57] at hL
  simp only [h3] at hL
  split at hL
  · rename_i hl
    obtain ⟨hl, _⟩ := hl
    obtain ⟨l⟩ := xs
    match l, hl with
    | [a, b, c], _ =>
      have kls : ∀ v L, Tryz.prog.keyLits (N + 1) 9 [v] = some L → ∃ s : Str, v = S s ∧ s.length ≤ maxLen := fun v L h => by
        unfold Program.keyLits at h
        rw [Tryz.underlying9] at h
        cases v <;> simp at h
        rename_i s
        exact ⟨s.data.toList, by simp [S], by have := h.1; rw [← Lib.size_eq]; simpa using this⟩
      simp [h4, Option.bind_eq_some_iff] at hL
      obtain ⟨x, hx, _, ⟨y, hy, _, ⟨z, hz, _⟩, _⟩, _⟩ := hL
      obtain ⟨s1, rfl, e1⟩ := kls _ _ hx
      obtain ⟨s2, rfl, e2⟩ := kls _ _ hy
      obtain ⟨s3, rfl, e3⟩ := kls _ _ hz
      exact ⟨⟨s1, s2, s3⟩, rfl, e1, e2, e3⟩
  · cases hL
/-- a key's datum -/
noncomputable def kL (p : Pt) : Lit := (keyOf Tryz.prog 57 (ptV p)).getD (.bool false)
theorem key_ofP {p : Pt} (h : PtSz p) : keyOf Tryz.prog 57 (ptV p) = some (kL p) := by
  obtain ⟨kl, hk⟩ := keyP_some p h
  unfold kL
  rw [hk]; rfl
theorem kL_inj {p q : Pt} (hp : PtSz p) (hq : PtSz q) (h : kL p = kL q) : p = q := by
  have h1 := key_ofP hp
  rw [h] at h1
  exact ptV_inj (lawPt.inj h1 (key_ofP hq))
set_option maxRecDepth 100000 in
theorem kL_lit {p : Pt} (h : PtSz p) : WideAt.IsKeyLit (kL p) := lawPt.key (key_ofP h)
/-- how parts read -/
def ptD (p : Pt) : DataW Unit := .agg [.lit (.string p.l), .lit (.string p.s), .lit (.string p.r)]
def rdPt (v : Value) : Option (DataW Unit × List MemPlace) := match v with
  | .agg cs => match cs.toList with
    | [.string a, .string b, .string c] => some (ptD ⟨a.data.toList, b.data.toList, c.data.toList⟩, [])
    | _ => none
  | _ => none
theorem rdPt_mk (p : Pt) : rdPt (ptV p) = some (ptD p, []) := by simp [rdPt, ptV, S]
theorem ptD_inj {p q : Pt} (h : ptD p = ptD q) : p = q := by
  cases p; cases q
  simpa [ptD] using h
theorem rdPt_inv {v : Value} {z : DataW Unit × List MemPlace} (h : rdPt v = some z) : ∃ p, v = ptV p ∧ z = (ptD p, []) := by
  unfold rdPt at h
  split at h
  · rename_i cs
    split at h
    · rename_i a b c e
      cases h
      refine ⟨⟨a.data.toList, b.data.toList, c.data.toList⟩, ?_, rfl⟩
      obtain ⟨l⟩ := cs
      simp only at e
      simp [ptV, S, e]
    · cases h
  · cases h
theorem zeroPt (w : World) : (zeroValue 57).run Tryz.prog w = .ok (ptV Pt.zero) w := by kernel_rfl

/-- block b is a map of at most n entries that says D of parts -/
def OwnK (w : World) (b n : Nat) (D : List (Pt × Pt)) : Prop :=
  ∃ m : DataW Unit, w.ownsMap Tryz.prog 57 rdPt b n m ∧ ∀ k z, PtSz k → m.atKey (kL k) z = match lookP D k with | some v => ptD v | none => z
/-- block b is a map of at most n entries that says D of texts -/
def OwnJ (w : World) (b n : Nat) (D : List (Str × Pt)) : Prop :=
  ∃ m : DataW Unit, w.ownsMap Tryz.prog 9 rdPt b n m ∧ ∀ k z, m.atKey (.string k) z = match (D.find? (fun p => p.1 == k)).map (·.2) with | some v => ptD v | none => z
theorem OwnK.lt {w : World} {b n : Nat} {D : List (Pt × Pt)} (h : OwnK w b n D) : b < w.heap.size := by obtain ⟨m, h, _⟩ := h; exact h.lt
theorem OwnK.mono {w : World} {b n n' : Nat} {D : List (Pt × Pt)} (h : OwnK w b n D) (hn : n ≤ n') : OwnK w b n' D := by obtain ⟨m, h, h2⟩ := h; exact ⟨m, h.mono hn, h2⟩
theorem ownsMap_block {w w' : World} {P : Program} {k : TypeId} {R : Value → Option (DataW Unit × List MemPlace)} {b n : Nat} {m : DataW Unit} (h : w.ownsMap P k R b n m) (he : w'.heap[b]? = w.heap[b]?) : w'.ownsMap P k R b n m := by
  obtain ⟨es, clock, hb, F, hs, hD⟩ := h
  exact ⟨es, clock, he.trans hb, F, hs, hD⟩
theorem OwnK.block {w w' : World} {b n : Nat} {D : List (Pt × Pt)} (h : OwnK w b n D) (he : w'.heap[b]? = w.heap[b]?) : OwnK w' b n D := by obtain ⟨m, h, h2⟩ := h; exact ⟨m, ownsMap_block h he, h2⟩
theorem OwnK.below {w w' : World} {b n : Nat} {D : List (Pt × Pt)} (h : OwnK w b n D) (hb : Below w.heap.size w w') : OwnK w' b n D := h.block (hb.block _ h.lt)
theorem OwnK.made (w : World) : OwnK (w.alloc (.map #[] 0)) w.heap.size 0 [] := ⟨.map [], World.ownsMap_made _ _ _ _, fun k z _ => rfl⟩
set_option maxRecDepth 100000 in
theorem OwnK.look_run {w : World} {b n : Nat} {D : List (Pt × Pt)} (h : OwnK w b n D) (k : Pt) (hk : PtSz k) :
    (Instr.lookup 68 (.map (some b)) (ptV k) true).run Tryz.prog w = .ok (.tuple #[ptV ((lookP D k).getD Pt.zero), .bool (lookP D k).isSome]) w := by
  obtain ⟨mm, hown, hat⟩ := h
  obtain ⟨v, ps, hrun, hv⟩ := hown.look_ok lawPt Tryz.underlying68 (zeroPt w) (rdPt_mk Pt.zero) (key_ofP hk)
  obtain ⟨s, rfl, hz⟩ := rdPt_inv hv
  rw [hat _ _ hk] at hz
  have hhas : Maps.has mm (kL k) = (lookP D k).isSome := by
    cases hl : lookP D k with
    | some v => rw [has_true_of_atKey (y := ptD v) (fun z => by rw [hat _ _ hk, hl])]; rfl
    | none => rw [has_false_of_atKey (fun z => by rw [hat _ _ hk, hl])]; rfl
  have hs : s = (lookP D k).getD Pt.zero := by
    cases hl : lookP D k with
    | some v =>
      rw [hl] at hz
      exact (ptD_inj (Prod.mk.inj hz).1).symm
    | none =>
      rw [hl] at hz
      exact (ptD_inj (Prod.mk.inj hz).1).symm
  rw [← hhas, ← hs]
  exact hrun
set_option maxRecDepth 100000 in
theorem OwnK.say_run {w : World} {b n : Nat} {D : List (Pt × Pt)} (h : OwnK w b n D) (hn : n < maxLen) (k y : Pt) (hk : PtSz k) (hno : lookP D k = none) :
    ∃ w', (Instr.mapUpdate 68 (.map (some b)) (ptV k) (ptV y)).run Tryz.prog w = .ok () w' ∧ OwnK w' b (n + 1) (D ++ [(k, y)]) ∧ w.grownBy w' (some b) := by
  obtain ⟨mm, hown, hat⟩ := h
  obtain ⟨w', hrun, hown', hgr⟩ := hown.update lawPt Tryz.underlying68 hn (key_ofP hk) (rdPt_mk y)
  refine ⟨w', hrun, ⟨_, hown', fun k' z hk' => ?_⟩, hgr⟩
  rw [lookP_append]
  by_cases he : k' = k
  · subst he
    rw [atKey_put_same hown.isMap (kL_lit hk), hno]
    simp [lookP]
  · rw [atKey_put_other (fun e => he (kL_inj hk' hk e)), hat _ _ hk']
    cases hl : lookP D k' with
    | some u => rfl
    | none => simp [lookP, Ne.symm he]
/-- v leads to what is likely: D is said -/
def LkRd (w : World) (v : Value) (D : List (Pt × Pt)) : Prop :=
  ∃ bc bm n, v = .pointer (some ⟨bc, 0, none⟩) ∧ bc < w.heap.size ∧ w.cell? ⟨bc, 0, none⟩ = some (.map (some bm)) ∧ OwnK w bm n D
theorem LkRd.below {w w' : World} {v : Value} {D : List (Pt × Pt)} (h : LkRd w v D) (hb : Below w.heap.size w w') : LkRd w' v D := by
  obtain ⟨bc, bm, n, h1, h2, h3, h4⟩ := h
  exact ⟨bc, bm, n, h1, Nat.lt_of_lt_of_le h2 hb.size, (hb.cell (p := ⟨bc, 0, none⟩) h2).trans h3, h4.below hb⟩
end Go.Proofs.YtlmgmifaknlolaaGreat
