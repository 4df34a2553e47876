/- A map of texts and a set of texts that the program makes: what they hold, and the laws at the operations. -/
import Derived.Test.YtffaoejahnildaaGreatOpen
import Derived.Test.YtffaoejahnildaaGreatChainP
import Derived.Maps.OwnSet
import Derived.Maps.OwnOps
import Derived.Maps.StringElems
set_option linter.unusedVariables false
set_option linter.unusedSimpArgs false
namespace Go.Proofs.YtffaoejahnildaaGreat
open Go.RowKit Go.Lib Go.Sort Go.Maps Go.WideMaps

theorem law : Keyed Tryz.prog 9 := string_keyed Tryz.underlying9
theorem zeroS (w : World) : (zeroValue 9).run Tryz.prog w = .ok (.string ⟨#[]⟩) w := by kernel_rfl
theorem zeroB (w : World) : (zeroValue 4).run Tryz.prog w = .ok (.bool false) w := by kernel_rfl
theorem key_of {k : Str} (h : k.length ≤ maxLen) : keyOf Tryz.prog 9 (.string ⟨k.toArray⟩) = some (.string k) := by
  have := keyOf_string_mk (P := Tryz.prog) Tryz.underlying9 (s := ⟨k.toArray⟩) (by rw [Lib.size_eq]; exact h)
  simpa using this
theorem elS {k : Str} (h : k.length ≤ maxLen) : plainElem (H := Unit) Tryz.prog 9 (.string ⟨k.toArray⟩) = some (.lit (.string k), []) := by
  have := plainElem_string (H := Unit) (P := Tryz.prog) Tryz.underlying9 (s := ⟨k.toArray⟩) (by rw [Lib.size_eq]; exact h)
  simpa using this

/-- block b is a map of at most n entries that says D -/
def OwnM (w : World) (b n : Nat) (D : List (Str × Str)) : Prop :=
  ∃ m : DataW Unit, w.ownsMap Tryz.prog 9 (plainElem Tryz.prog 9) b n m ∧ ∀ k z, m.atKey (.string k) z = match look D k with | some v => .lit (.string v) | none => z
/-- block b is a set of at most n texts, those of L -/
def OwnB (w : World) (b n : Nat) (L : List Str) : Prop :=
  ∃ m : DataW Unit, w.ownsMap Tryz.prog 9 (plainElem Tryz.prog 4) b n m ∧ ∀ k z, m.atKey (.string k) z = if k ∈ L then .lit (.bool true) else z

theorem OwnM.lt {w : World} {b n : Nat} {D : List (Str × Str)} (h : OwnM w b n D) : b < w.heap.size := by obtain ⟨m, h, _⟩ := h; exact h.lt
theorem OwnB.lt {w : World} {b n : Nat} {L : List Str} (h : OwnB w b n L) : b < w.heap.size := by obtain ⟨m, h, _⟩ := h; exact h.lt
theorem OwnM.mono {w : World} {b n n' : Nat} {D : List (Str × Str)} (h : OwnM w b n D) (hn : n ≤ n') : OwnM w b n' D := by obtain ⟨m, h, h2⟩ := h; exact ⟨m, h.mono hn, h2⟩
theorem ownsMap_block {w w' : World} {P : Program} {k : TypeId} {R : Value → Option (DataW Unit × List MemPlace)} {b n : Nat} {m : DataW Unit} (h : w.ownsMap P k R b n m) (he : w'.heap[b]? = w.heap[b]?) : w'.ownsMap P k R b n m := by
  obtain ⟨es, clock, hb, F, hs, hD⟩ := h
  exact ⟨es, clock, he.trans hb, F, hs, hD⟩
theorem OwnM.block {w w' : World} {b n : Nat} {D : List (Str × Str)} (h : OwnM w b n D) (he : w'.heap[b]? = w.heap[b]?) : OwnM w' b n D := by obtain ⟨m, h, h2⟩ := h; exact ⟨m, ownsMap_block h he, h2⟩
theorem OwnB.block {w w' : World} {b n : Nat} {L : List Str} (h : OwnB w b n L) (he : w'.heap[b]? = w.heap[b]?) : OwnB w' b n L := by obtain ⟨m, h, h2⟩ := h; exact ⟨m, ownsMap_block h he, h2⟩
theorem OwnM.below {w w' : World} {b n : Nat} {D : List (Str × Str)} (h : OwnM w b n D) (hb : Below w.heap.size w w') : OwnM w' b n D := h.block (hb.block _ h.lt)
theorem OwnB.below {w w' : World} {b n : Nat} {L : List Str} (h : OwnB w b n L) (hb : Below w.heap.size w w') : OwnB w' b n L := h.block (hb.block _ h.lt)
theorem OwnM.made (w : World) : OwnM (w.alloc (.map #[] 0)) w.heap.size 0 [] := ⟨.map [], World.ownsMap_made _ _ _ _, fun k z => rfl⟩
theorem OwnB.made (w : World) : OwnB (w.alloc (.map #[] 0)) w.heap.size 0 [] := ⟨.map [], World.ownsMap_made _ _ _ _, fun k z => by simp; rfl⟩
theorem strKey (k : Str) : WideAt.IsKeyLit (.string k) := by
  simp [WideAt.IsKeyLit]

/-- the runs, as equations -/
theorem OwnM.look_run {w : World} {b n : Nat} {D : List (Str × Str)} (h : OwnM w b n D) (k : Str) (hk : k.length ≤ maxLen) :
    (Instr.lookup 49 (.map (some b)) (.string ⟨k.toArray⟩) true).run Tryz.prog w = .ok (.tuple #[.string ⟨((look D k).getD []).toArray⟩, .bool (look D k).isSome]) w := by
  obtain ⟨mm, hown, hat⟩ := h
  obtain ⟨v, ps, hrun, hv⟩ := hown.look_ok law Tryz.underlying49 (zeroS w) (elS (k := []) (Nat.zero_le _)) (key_of hk)
  obtain ⟨s, rfl, hz, _⟩ := plainElem_string_inv (H := Unit) Tryz.underlying9 hv
  rw [hat] at hz
  have hhas : Maps.has mm (.string k) = (look D k).isSome := by
    cases hl : look D k with
    | some v => rw [has_true_of_atKey (y := .lit (.string v)) (fun z => by rw [hat, hl])]; rfl
    | none => rw [has_false_of_atKey (fun z => by rw [hat, hl])]; rfl
  have hs : s = ⟨((look D k).getD []).toArray⟩ := by
    cases hl : look D k with
    | some v =>
      rw [hl] at hz
      simp at hz
      cases s
      simp at hz ⊢
      rw [hz.1]
    | none =>
      rw [hl] at hz
      simp at hz
      cases s
      simp at hz ⊢
      exact hz.1
  rw [← hhas, ← hs]
  exact hrun
theorem OwnM.say_run {w : World} {b n : Nat} {D : List (Str × Str)} (h : OwnM w b n D) (hn : n < maxLen) (k y : Str) (hk : k.length ≤ maxLen) (hy : y.length ≤ maxLen) (hno : look D k = none) :
    ∃ w', (Instr.mapUpdate 49 (.map (some b)) (.string ⟨k.toArray⟩) (.string ⟨y.toArray⟩)).run Tryz.prog w = .ok () w' ∧ OwnM w' b (n + 1) (D ++ [(k, y)]) ∧ w.grownBy w' (some b) := by
  obtain ⟨mm, hown, hat⟩ := h
  obtain ⟨w', hrun, hown', hgr⟩ := hown.update law Tryz.underlying49 hn (key_of hk) (elS hy)
  refine ⟨w', hrun, ⟨_, hown', fun k' z => ?_⟩, hgr⟩
  rw [look_append]
  by_cases he : k' = k
  · subst he
    rw [atKey_put_same hown.isMap (strKey _), hno]
    simp [look]
  · rw [atKey_put_other (fun e => he (by simpa using e)), hat]
    cases hl : look D k' with
    | some u => rfl
    | none => simp [look, Ne.symm he]

section
variable {w : World} {ops : Array Oper} {rest : List Oper} {o : Oper} {a : Act} {Q : Exit → Act → World → Prop}

/-- 'v, ok := m[k]' -/
theorem wpList_look {b n : Nat} {D : List (Str × Str)} (h : OwnM w b n D) (hg : o.guard = none) (m x : Operand) (hop : o.op = Op.lookup 49 m x true) (hm : a.eval m = .map (some b)) (k : Str) (hx : a.eval x = .string ⟨k.toArray⟩) (hk : k.length ≤ maxLen)
    (hK : wpList Tryz.prog ops Q rest (a.put o.dst (.tuple #[.string ⟨((look D k).getD []).toArray⟩, .bool (look D k).isSome])) w) : wpList Tryz.prog ops Q (o :: rest) a w := by
  obtain ⟨mm, hown, hat⟩ := h
  refine wpList_lookup_own_ok w hg m x 49 hop 9 9 law Tryz.underlying49 (plainElem Tryz.prog 9) (zeroS w) (.lit (.string [])) [] (elS (k := []) (Nat.zero_le _)) b n mm hm hown _ _ hx (key_of hk) ?_
  intro v ps hv
  obtain ⟨s, rfl, hz, _⟩ := plainElem_string_inv (H := Unit) Tryz.underlying9 hv
  rw [hat] at hz
  have hhas : Maps.has mm (.string k) = (look D k).isSome := by
    cases hl : look D k with
    | some v => rw [has_true_of_atKey (y := .lit (.string v)) (fun z => by rw [hat, hl])]; rfl
    | none => rw [has_false_of_atKey (fun z => by rw [hat, hl])]; rfl
  have hs : s = ⟨((look D k).getD []).toArray⟩ := by
    cases hl : look D k with
    | some v =>
      rw [hl] at hz
      simp at hz
      cases s
      simp at hz ⊢
      rw [hz.1]
    | none =>
      rw [hl] at hz
      simp at hz
      cases s
      simp at hz ⊢
      exact hz.1
  rw [hhas, hs]
  exact hK
theorem wpList_look_some {b n : Nat} {D : List (Str × Str)} (h : OwnM w b n D) (hg : o.guard = none) (m x : Operand) (hop : o.op = Op.lookup 49 m x true) (hm : a.eval m = .map (some b)) (k y : Str) (hx : a.eval x = .string ⟨k.toArray⟩) (hk : k.length ≤ maxLen) (hL : look D k = some y)
    (hK : wpList Tryz.prog ops Q rest (a.put o.dst (.tuple #[.string ⟨y.toArray⟩, .bool true])) w) : wpList Tryz.prog ops Q (o :: rest) a w :=
  wpList_look h hg m x hop hm k hx hk (by rw [hL]; exact hK)
theorem wpList_look_none {b n : Nat} {D : List (Str × Str)} (h : OwnM w b n D) (hg : o.guard = none) (m x : Operand) (hop : o.op = Op.lookup 49 m x true) (hm : a.eval m = .map (some b)) (k : Str) (hx : a.eval x = .string ⟨k.toArray⟩) (hk : k.length ≤ maxLen) (hL : look D k = none)
    (hK : wpList Tryz.prog ops Q rest (a.put o.dst (.tuple #[.string ⟨#[]⟩, .bool false])) w) : wpList Tryz.prog ops Q (o :: rest) a w :=
  wpList_look h hg m x hop hm k hx hk (by rw [hL]; exact hK)
set_option maxRecDepth 100000 in
theorem wpList_met {b n : Nat} {L : List Str} (h : OwnB w b n L) (hg : o.guard = none) (m x : Operand) (hop : o.op = Op.lookup 65 m x false) (hm : a.eval m = .map (some b)) (k : Str) (hx : a.eval x = .string ⟨k.toArray⟩) (hk : k.length ≤ maxLen)
    (hK : wpList Tryz.prog ops Q rest (a.put o.dst (.bool (decide (k ∈ L)))) w) : wpList Tryz.prog ops Q (o :: rest) a w := by
  obtain ⟨mm, hown, hat⟩ := h
  refine wpList_plain hg fun K' hK' => ?_
  obtain ⟨v, ps, hrun, hv⟩ := hown.lookup law Tryz.underlying65 (zeroB w) (plainElem_bool Tryz.underlying4 false) (key_of hk)
  have hb : v = .bool (decide (k ∈ L)) := by
    rw [hat] at hv
    unfold plainElem at hv
    rw [Tryz.underlying4] at hv
    cases v <;> simp at hv
    rename_i q
    by_cases hm : k ∈ L
    · rw [if_pos hm] at hv
      simp at hv
      rw [hv.1]; simp [hm]
    · rw [if_neg hm] at hv
      simp at hv
      rw [hv.1]; simp [hm]
  subst hb
  unfold Oper.wp
  simp [execOp, hop, hm, hx, hrun, Result.andThen]
  exact hK' _ _ hK
theorem wpList_met_b {b n : Nat} {L : List Str} (h : OwnB w b n L) (hg : o.guard = none) (m x : Operand) (hop : o.op = Op.lookup 65 m x false) (hm : a.eval m = .map (some b)) (k : Str) (hx : a.eval x = .string ⟨k.toArray⟩) (hk : k.length ≤ maxLen) (q : Bool) (hq : decide (k ∈ L) = q)
    (hK : wpList Tryz.prog ops Q rest (a.put o.dst (.bool q)) w) : wpList Tryz.prog ops Q (o :: rest) a w :=
  wpList_met h hg m x hop hm k hx hk (by rw [hq]; exact hK)
/-- 'm[k] = v' -/
theorem wpList_say {b n : Nat} {D : List (Str × Str)} (h : OwnM w b n D) (hg : o.guard = none) (m x v : Operand) (hop : o.op = Op.mapUpdate 49 m x v) (hm : a.eval m = .map (some b)) (hn : n < maxLen) (k y : Str) (hx : a.eval x = .string ⟨k.toArray⟩) (hv : a.eval v = .string ⟨y.toArray⟩) (hk : k.length ≤ maxLen) (hy : y.length ≤ maxLen) (hno : look D k = none)
    (hK : ∀ w', OwnM w' b (n + 1) (D ++ [(k, y)]) → w.grownBy w' (some b) → wpList Tryz.prog ops Q rest (a.put o.dst undef) w') : wpList Tryz.prog ops Q (o :: rest) a w := by
  obtain ⟨mm, hown, hat⟩ := h
  refine wpList_mapUpdate_own w hg m x v 49 hop 9 9 law Tryz.underlying49 (plainElem Tryz.prog 9) b n mm hm hown hn _ _ _ hx hv (key_of hk) _ [] (elS hy) ?_
  intro w' hown' hgr
  refine hK w' ⟨_, hown', fun k' z => ?_⟩ hgr
  rw [look_append]
  by_cases he : k' = k
  · subst he
    rw [atKey_put_same hown.isMap (strKey _), hno]
    simp [look]
  · rw [atKey_put_other (fun e => he (by simpa using e)), hat]
    cases hl : look D k' with
    | some u => rfl
    | none => simp [look, Ne.symm he]
/-- 'm[k] = true' -/
theorem wpList_mark {b n : Nat} {L : List Str} (h : OwnB w b n L) (hg : o.guard = none) (m x v : Operand) (hop : o.op = Op.mapUpdate 65 m x v) (hm : a.eval m = .map (some b)) (hn : n < maxLen) (k : Str) (hx : a.eval x = .string ⟨k.toArray⟩) (hv : a.eval v = .bool true) (hk : k.length ≤ maxLen)
    (hK : ∀ w', OwnB w' b (n + 1) (k :: L) → w.grownBy w' (some b) → wpList Tryz.prog ops Q rest (a.put o.dst undef) w') : wpList Tryz.prog ops Q (o :: rest) a w := by
  obtain ⟨mm, hown, hat⟩ := h
  refine wpList_mapUpdate_own w hg m x v 65 hop 9 4 law Tryz.underlying65 (plainElem Tryz.prog 4) b n mm hm hown hn _ _ _ hx hv (key_of hk) _ [] (plainElem_bool Tryz.underlying4 true) ?_
  intro w' hown' hgr
  refine hK w' ⟨_, hown', fun k' z => ?_⟩ hgr
  by_cases he : k' = k
  · subst he
    rw [atKey_put_same hown.isMap (strKey _)]
    simp
  · rw [atKey_put_other (fun e => he (by simpa using e)), hat]
    simp [he]
end

/-- v leads to chains of which D is said -/
def ChRd (w : World) (v : Value) (D : List (Str × Str)) : Prop :=
  ∃ bc bm n, v = .pointer (some ⟨bc, 0, none⟩) ∧ bc < w.heap.size ∧ w.cell? ⟨bc, 0, none⟩ = some (.map (some bm)) ∧ OwnM w bm n D
theorem ChRd.below {w w' : World} {v : Value} {D : List (Str × Str)} (h : ChRd w v D) (hb : Below w.heap.size w w') : ChRd w' v D := by
  obtain ⟨bc, bm, n, h1, h2, h3, h4⟩ := h
  exact ⟨bc, bm, n, h1, Nat.lt_of_lt_of_le h2 hb.size, (hb.cell (p := ⟨bc, 0, none⟩) h2).trans h3, h4.below hb⟩
end Go.Proofs.YtffaoejahnildaaGreat
