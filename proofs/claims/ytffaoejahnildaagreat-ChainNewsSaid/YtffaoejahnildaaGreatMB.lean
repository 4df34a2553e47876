/- Several texts in one: Open, OpenC, ChMem. (joined by wip/merge.py) -/
import Derived.Test.YtffaoejahnildaaGreatSame
import Derived.SliceStrings
import Derived.WideShapes
import Derived.ChangeArms
import Derived.ChangeSame
import Derived.Test.YtffaoejahnildaaGreatMA
import Derived.Maps.OwnSet
import Derived.Maps.OwnOps
import Derived.Maps.StringElems

/- Arguments that came in: a list of texts, a list of pairs, a tag, read as RdS, RdP, RdT say. -/
set_option linter.unusedVariables false
set_option linter.unusedSimpArgs false
namespace Go.Proofs.YtffaoejahnildaaGreat
open Go.RowKit Go.Lib Go.Sort Go.ChangeShapes Go.WideShapes

theorem list2 {α : Type} {cs : List α} (h : cs.length = 2) : ∃ c0 c1, cs = [c0, c1] := by
  match cs, h with
  | [c0, c1], _ => exact ⟨c0, c1, rfl⟩
theorem array5 {α : Type} {cs : Array α} (h : cs.size = 5) : ∃ c0 c1 c2 c3 c4, cs = #[c0, c1, c2, c3, c4] := by
  obtain ⟨l⟩ := cs
  match l, h with
  | [c0, c1, c2, c3, c4], _ => exact ⟨c0, c1, c2, c3, c4, rfl⟩
theorem spot_of_cell {w : World} {a : Addr} {v : Value} (h : w.cell? a = some v) : a.spot = none ∧ a.block < w.heap.size := by
  unfold World.cell? at h
  cases hb : w.heap[a.block]? with
  | none => rw [hb] at h; cases h
  | some o =>
    rw [hb] at h
    have hlt := (Array.getElem?_eq_some_iff.1 hb).1
    cases o <;> simp at h
    exact ⟨h.1, hlt⟩
theorem add_of {b off i : Nat} : (⟨b, off, none⟩ : Addr).add i = ⟨b, off + i, none⟩ := by
  unfold Addr.add; split <;> simp_all
theorem S_of (s : ByteArray) : Value.string s = S s.data.toList := by unfold S; simp

section
variable {H : Type} {enc : TypeId × Value → H} {w : World} {base : Nat} {spare : Nat → Bool} {held : Bool}

set_option maxRecDepth 100000 in
theorem open_rdS {fuel : Nat} {cs : List Value} {x : DataW H × List MemPlace} (h : DataW.trod enc Tryz.prog w base spare held fuel 31 cs = some x) : ∃ v l, cs = [v] ∧ RdS w v l := by
  rcases open_strings Tryz.underlying31 Tryz.underlying9 (by kernel_rfl) h with ⟨rfl, _⟩ | ⟨a, len, cap, ss, rfl, hb, hl, hm, hz, hx, hcell, hsz⟩
  · exact ⟨_, [], rfl, RdS.nil w⟩
  · have hle : len ≤ ss.length := by rw [hz]; split <;> omega
    have hlen : ((ss.take len).map (fun s : ByteArray => s.data.toList)).length = len := by simp; omega
    refine ⟨.slice (some a) len cap, (ss.take len).map (fun s => s.data.toList), rfl, some a, cap, by rw [hlen], ⟨by rw [hlen]; unfold maxLen at hm; omega, fun e => by cases e⟩, fun hne => ?_⟩
    have h0 : 0 < len := by
      rcases Nat.eq_zero_or_pos len with h0 | h0
      · subst h0; simp at hne
      · exact h0
    have c0 := hcell 0 (by omega)
    rw [show a.add 0 = a from by unfold Addr.add; simp] at c0
    obtain ⟨hs, hlt⟩ := spot_of_cell c0
    obtain ⟨b, off, sp⟩ := a
    simp only at hs hlt
    subst hs
    refine ⟨b, off, rfl, hlt, fun j y hy => ?_⟩
    rw [List.getElem?_map, List.getElem?_take] at hy
    split at hy
    · rename_i hj
      have hc := hcell j (by omega)
      rw [add_of] at hc
      rw [hc, List.getD]
      cases hq : ss[j]? with
      | none => rw [hq] at hy; simp at hy
      | some s => rw [hq] at hy; simp at hy; subst hy; simp [S_of]
    · simp at hy

set_option maxRecDepth 100000 in
theorem open_pair {n : Nat} {cs : List Value} {y : DataW H × List MemPlace} (h : DataW.trod enc Tryz.prog w base spare held n 44 cs = some y) : ∃ p : Str × Str, cs = enc2 p ∧ p.1.length ≤ maxLen ∧ p.2.length ≤ maxLen := by
  obtain ⟨y0, y1, m, _, hl, h0, h1⟩ := trod_struct2 Tryz.underlying44 h
  have hC : Tryz.prog.cellsOf 44 = 2 := by kernel_rfl
  have hD : Tryz.prog.cellsOf 9 = 1 := by kernel_rfl
  rw [hC] at hl
  obtain ⟨c0, c1, rfl⟩ := list2 hl
  simp only [hD, List.drop_zero, List.drop_succ_cons, List.take_succ_cons, List.take_zero] at h0 h1
  obtain ⟨s0, e0, _, z0⟩ := DataW.trod_string Tryz.underlying9 h0
  obtain ⟨s1, e1, _, z1⟩ := DataW.trod_string Tryz.underlying9 h1
  simp only [List.cons.injEq, and_true] at e0 e1
  subst e0; subst e1
  exact ⟨(s0.data.toList, s1.data.toList), by rw [S_of s0, S_of s1]; rfl, z0, z1⟩

/-- pairs' lengths -/
def PSz (l : List (Str × Str)) : Prop := ∀ p ∈ l, p.1.length ≤ maxLen ∧ p.2.length ≤ maxLen

set_option maxRecDepth 100000 in
theorem open_rdP {fuel : Nat} {cs : List Value} {x : DataW H × List MemPlace} (h : DataW.trod enc Tryz.prog w base spare held fuel 22 cs = some x) : ∃ v l, cs = [v] ∧ RdP w v l ∧ l.length ≤ maxLen ∧ PSz l ∧ (l = [] ∨ ∃ es rs, x.1 = .slice es rs ∧ es.length = l.length) := by
  rcases DataW.trod_slice Tryz.underlying22 h with ⟨rfl, _⟩ | ⟨a, len, cap, elems, rest, n, _, rfl, hx, hb, hl, hm, hlen, hel, _, _⟩
  · exact ⟨_, [], rfl, RdP.nil w, Nat.zero_le _, (fun p hp => by cases hp), Or.inl rfl⟩
  · have hC : Tryz.prog.cellsOf 44 = 2 := by kernel_rfl
    rw [hC] at hel
    have key : ∀ i, i < len → ∃ p : Str × Str, w.cells? base (a.add (i * 2)) 2 = some (enc2 p) ∧ p.1.length ≤ maxLen ∧ p.2.length ≤ maxLen := by
      intro i hi
      have hy := hel i hi
      rw [List.getElem?_eq_getElem (by omega), Option.bind_eq_some_iff] at hy
      obtain ⟨cs', hcs, hy'⟩ := hy
      obtain ⟨p, rfl, hp⟩ := open_pair hy'
      exact ⟨p, hcs, hp⟩
    have hex : ∃ f : Nat → Str × Str, ∀ i, i < len → w.cells? base (a.add (i * 2)) 2 = some (enc2 (f i)) ∧ (f i).1.length ≤ maxLen ∧ (f i).2.length ≤ maxLen := by
      refine ⟨fun i => if h : i < len then (key i h).choose else ([], []), fun i hi => ?_⟩
      simp only [hi, dif_pos]
      exact (key i hi).choose_spec
    obtain ⟨f, hf⟩ := hex
    have hlen2 : ((List.range len).map f).length = len := by simp
    refine ⟨.slice (some a) len cap, (List.range len).map f, rfl, ⟨some a, cap, by rw [hlen2], ⟨by rw [hlen2]; unfold maxLen at hm; omega, fun e => by cases e⟩, fun hne => ?_⟩, by rw [hlen2]; omega, (fun p hp => ?_), Or.inr ⟨elems.map (·.1), rest.map (·.1), by rw [hx], by rw [hlen2, List.length_map, hlen]⟩⟩
    · have h0 : 0 < len := by
        rcases Nat.eq_zero_or_pos len with h0 | h0
        · subst h0; simp at hne
        · exact h0
      have c0 := (World.cells?_some (hf 0 h0).1).2.2 0 (by omega)
      rw [show (a.add (0 * 2)).add 0 = a from by unfold Addr.add; simp] at c0
      obtain ⟨hs, hlt⟩ := spot_of_cell c0
      obtain ⟨b, off, sp⟩ := a
      simp only at hs hlt
      subst hs
      refine ⟨b, off, rfl, hlt, fun j i y hj hy => ?_⟩
      rw [hlen2] at hj
      have hc := (World.cells?_some (hf j hj).1)
      have hi : i < 2 := by have := (List.getElem?_eq_some_iff.1 hy).1; simpa [enc2] using this
      have hci := hc.2.2 i hi
      rw [add_of, add_of] at hci
      rw [hci]
      simpa using hy
    · obtain ⟨i, hi, rfl⟩ := List.mem_map.1 hp
      exact (hf i (by simpa using hi)).2

set_option maxRecDepth 100000 in
theorem open_tag {r : Reach} {b0 : Nat} {v : Value} {d : DataW H} {p : List MemPlace} (hv : Value.okWide Tryz.prog w r b0 53 v) (h : DataW.Trod enc Tryz.prog w base spare held 53 v d p) : ∃ t : Tg, RdT w v t := by
  obtain ⟨cs, rfl, hsz⟩ := okWide_struct Tryz.underlying53 hv
  obtain ⟨fuel, hf⟩ := h
  have hC : Tryz.prog.cellsOf 53 = 5 := by kernel_rfl
  have hD : Tryz.prog.cellsOf 9 = 1 := by kernel_rfl
  have hE : Tryz.prog.cellsOf 31 = 1 := by kernel_rfl
  have hF : Tryz.prog.cellsOf 22 = 1 := by kernel_rfl
  rw [hC] at hsz
  obtain ⟨c0, c1, c2, c3, c4, rfl⟩ := array5 hsz
  obtain ⟨xs, n, _, _, _, hlen, hfs⟩ := DataW.trod_struct Tryz.underlying53 hf
  have g0 := hfs 0 _ rfl
  have g1 := hfs 1 _ rfl
  have g2 := hfs 2 _ rfl
  have g3 := hfs 3 _ rfl
  have g4 := hfs 4 _ rfl
  have hx : xs.length = 5 := hlen
  rw [List.getElem?_eq_getElem (by omega)] at g0 g1 g2 g3 g4
  simp only [Value.cells, hD, hE, hF, List.drop_zero, List.drop_succ_cons, List.take_succ_cons, List.take_zero] at g0 g1 g2 g3 g4
  obtain ⟨s0, e0, _, _⟩ := DataW.trod_string Tryz.underlying9 g0
  obtain ⟨s1, e1, _, _⟩ := DataW.trod_string Tryz.underlying9 g1
  obtain ⟨s2, e2, _, _⟩ := DataW.trod_string Tryz.underlying9 g2
  obtain ⟨v3, l3, e3, r3⟩ := open_rdS g3
  obtain ⟨v4, l4, e4, r4, _, _⟩ := open_rdP g4
  obtain rfl := List.head_eq_of_cons_eq e0
  obtain rfl := List.head_eq_of_cons_eq e1
  obtain rfl := List.head_eq_of_cons_eq e2
  obtain rfl := List.head_eq_of_cons_eq e3
  obtain rfl := List.head_eq_of_cons_eq e4
  refine ⟨⟨s0.data.toList, s1.data.toList, s2.data.toList, l3, l4⟩, _, _, ?_, r3, r4⟩
  rw [S_of s0, S_of s1, S_of s2]; rfl
end
end Go.Proofs.YtffaoejahnildaaGreat

/- A slice of pairs that came in lies in its room. -/
set_option linter.unusedVariables false
namespace Go.Proofs.YtffaoejahnildaaGreat
open Go.RowKit Go.Lib Go.Sort Go.ChangeShapes Go.WideShapes
section
variable {H : Type} {enc : TypeId × Value → H} {w : World} {base : Nat} {spare : Nat → Bool} {held : Bool}
set_option maxRecDepth 100000 in
theorem open_cap {fuel : Nat} {a : Option Addr} {n c : Nat} {x : DataW H × List MemPlace} (h : DataW.trod enc Tryz.prog w base spare held fuel 22 (Value.slice a n c).cells.toList = some x) : n ≤ c := by
  rcases DataW.trod_slice Tryz.underlying22 h with ⟨e, _⟩ | ⟨a', len, cap, elems, rest, m, _, e, _, _, hl, _⟩
  · simp [Value.cells] at e
    omega
  · simp [Value.cells] at e
    omega
end
end Go.Proofs.YtffaoejahnildaaGreat

/- A map of texts and a set of texts that the program makes: what they hold, and the laws at the operations. -/
set_option linter.unusedVariables false
set_option linter.unusedSimpArgs false
namespace Go.Proofs.YtffaoejahnildaaGreat
open Go.RowKit Go.Lib Go.Sort Go.Maps Go.WideMaps

theorem law : Keyed Tryz.prog 9 := string_keyed Tryz.underlying9
theorem zeroS (w : World) : (zeroValue 9).run Tryz.prog w = .ok (.string ⟨#[]⟩) w := by kernel_rfl
theorem zeroB (w : World) : (zeroValue 4).run Tryz.prog w = .ok (.bool false) w := by kernel_rfl
theorem key_of {k : Str} (h : k.length ≤ maxLen) : keyOf Tryz.prog 9 (.string ⟨k.toArray⟩) = some (.string k) := by
  have := keyOf_string_mk (P := Tryz.prog) Tryz.underlying9 (s := ⟨k.toArray⟩) (by rw [Lib.size_eq]; exact h)
  simpa using this
theorem elS {k : Str} (h : k.length ≤ maxLen) : plainElem (H := Unit) Tryz.prog 9 (.string ⟨k.toArray⟩) = some (.lit (.string k), []) := by
  have := plainElem_string (H := Unit) (P := Tryz.prog) Tryz.underlying9 (s := ⟨k.toArray⟩) (by rw [Lib.size_eq]; exact h)
  simpa using this

/-- block b is a map of at most n entries that says D -/
def OwnM (w : World) (b n : Nat) (D : List (Str × Str)) : Prop :=
  ∃ m : DataW Unit, w.ownsMap Tryz.prog 9 (plainElem Tryz.prog 9) b n m ∧ ∀ k z, m.atKey (.string k) z = match look D k with | some v => .lit (.string v) | none => z
/-- block b is a set of at most n texts, those of L -/
def OwnB (w : World) (b n : Nat) (L : List Str) : Prop :=
  ∃ m : DataW Unit, w.ownsMap Tryz.prog 9 (plainElem Tryz.prog 4) b n m ∧ ∀ k z, m.atKey (.string k) z = if k ∈ L then .lit (.bool true) else z

theorem OwnM.lt {w : World} {b n : Nat} {D : List (Str × Str)} (h : OwnM w b n D) : b < w.heap.size := by obtain ⟨m, h, _⟩ := h; exact h.lt
theorem OwnB.lt {w : World} {b n : Nat} {L : List Str} (h : OwnB w b n L) : b < w.heap.size := by obtain ⟨m, h, _⟩ := h; exact h.lt
theorem OwnM.mono {w : World} {b n n' : Nat} {D : List (Str × Str)} (h : OwnM w b n D) (hn : n ≤ n') : OwnM w b n' D := by obtain ⟨m, h, h2⟩ := h; exact ⟨m, h.mono hn, h2⟩
theorem ownsMap_block {w w' : World} {P : Program} {k : TypeId} {R : Value → Option (DataW Unit × List MemPlace)} {b n : Nat} {m : DataW Unit} (h : w.ownsMap P k R b n m) (he : w'.heap[b]? = w.heap[b]?) : w'.ownsMap P k R b n m := by
  obtain ⟨es, clock, hb, F, hs, hD⟩ := h
  exact ⟨es, clock, he.trans hb, F, hs, hD⟩
theorem OwnM.block {w w' : World} {b n : Nat} {D : List (Str × Str)} (h : OwnM w b n D) (he : w'.heap[b]? = w.heap[b]?) : OwnM w' b n D := by obtain ⟨m, h, h2⟩ := h; exact ⟨m, ownsMap_block h he, h2⟩
theorem OwnB.block {w w' : World} {b n : Nat} {L : List Str} (h : OwnB w b n L) (he : w'.heap[b]? = w.heap[b]?) : OwnB w' b n L := by obtain ⟨m, h, h2⟩ := h; exact ⟨m, ownsMap_block h he, h2⟩
theorem OwnM.below {w w' : World} {b n : Nat} {D : List (Str × Str)} (h : OwnM w b n D) (hb : Below w.heap.size w w') : OwnM w' b n D := h.block (hb.block _ h.lt)
theorem OwnB.below {w w' : World} {b n : Nat} {L : List Str} (h : OwnB w b n L) (hb : Below w.heap.size w w') : OwnB w' b n L := h.block (hb.block _ h.lt)
theorem OwnM.made (w : World) : OwnM (w.alloc (.map #[] 0)) w.heap.size 0 [] := ⟨.map [], World.ownsMap_made _ _ _ _, fun k z => rfl⟩
theorem OwnB.made (w : World) : OwnB (w.alloc (.map #[] 0)) w.heap.size 0 [] := ⟨.map [], World.ownsMap_made _ _ _ _, fun k z => by simp; rfl⟩
theorem strKey (k : Str) : WideAt.IsKeyLit (.string k) := by
  simp [WideAt.IsKeyLit]

/-- the runs, as equations -/
theorem OwnM.look_run {w : World} {b n : Nat} {D : List (Str × Str)} (h : OwnM w b n D) (k : Str) (hk : k.length ≤ maxLen) :
    (Instr.lookup 49 (.map (some b)) (.string ⟨k.toArray⟩) true).run Tryz.prog w = .ok (.tuple #[.string ⟨((look D k).getD []).toArray⟩, .bool (look D k).isSome]) w := by
  obtain ⟨mm, hown, hat⟩ := h
  obtain ⟨v, ps, hrun, hv⟩ := hown.look_ok law Tryz.underlying49 (zeroS w) (elS (k := []) (Nat.zero_le _)) (key_of hk)
  obtain ⟨s, rfl, hz, _⟩ := plainElem_string_inv (H := Unit) Tryz.underlying9 hv
  rw [hat] at hz
  have hhas : Maps.has mm (.string k) = (look D k).isSome := by
    cases hl : look D k with
    | some v => rw [has_true_of_atKey (y := .lit (.string v)) (fun z => by rw [hat, hl])]; rfl
    | none => rw [has_false_of_atKey (fun z => by rw [hat, hl])]; rfl
  have hs : s = ⟨((look D k).getD []).toArray⟩ := by
    cases hl : look D k with
    | some v =>
      rw [hl] at hz
      simp at hz
      cases s
      simp at hz ⊢
      rw [hz.1]
    | none =>
      rw [hl] at hz
      simp at hz
      cases s
      simp at hz ⊢
      exact hz.1
  rw [← hhas, ← hs]
  exact hrun
theorem OwnM.say_run {w : World} {b n : Nat} {D : List (Str × Str)} (h : OwnM w b n D) (hn : n < maxLen) (k y : Str) (hk : k.length ≤ maxLen) (hy : y.length ≤ maxLen) (hno : look D k = none) :
    ∃ w', (Instr.mapUpdate 49 (.map (some b)) (.string ⟨k.toArray⟩) (.string ⟨y.toArray⟩)).run Tryz.prog w = .ok () w' ∧ OwnM w' b (n + 1) (D ++ [(k, y)]) ∧ w.grownBy w' (some b) := by
  obtain ⟨mm, hown, hat⟩ := h
  obtain ⟨w', hrun, hown', hgr⟩ := hown.update law Tryz.underlying49 hn (key_of hk) (elS hy)
  refine ⟨w', hrun, ⟨_, hown', fun k' z => ?_⟩, hgr⟩
  rw [look_append]
  by_cases he : k' = k
  · subst he
    rw [atKey_put_same hown.isMap (strKey _), hno]
    simp [look]
  · rw [atKey_put_other (fun e => he (by simpa using e)), hat]
    cases hl : look D k' with
    | some u => rfl
    | none => simp [look, Ne.symm he]

section
variable {w : World} {ops : Array Oper} {rest : List Oper} {o : Oper} {a : Act} {Q : Exit → Act → World → Prop}

/-- 'v, ok := m[k]' -/
theorem wpList_look {b n : Nat} {D : List (Str × Str)} (h : OwnM w b n D) (hg : o.guard = none) (m x : Operand) (hop : o.op = Op.lookup 49 m x true) (hm : a.eval m = .map (some b)) (k : Str) (hx : a.eval x = .string ⟨k.toArray⟩) (hk : k.length ≤ maxLen)
    (hK : wpList Tryz.prog ops Q rest (a.put o.dst (.tuple #[.string ⟨((look D k).getD []).toArray⟩, .bool (look D k).isSome])) w) : wpList Tryz.prog ops Q (o :: rest) a w := by
  obtain ⟨mm, hown, hat⟩ := h
  refine wpList_lookup_own_ok w hg m x 49 hop 9 9 law Tryz.underlying49 (plainElem Tryz.prog 9) (zeroS w) (.lit (.string [])) [] (elS (k := []) (Nat.zero_le _)) b n mm hm hown _ _ hx (key_of hk) ?_
  intro v ps hv
  obtain ⟨s, rfl, hz, _⟩ := plainElem_string_inv (H := Unit) Tryz.underlying9 hv
  rw [hat] at hz
  have hhas : Maps.has mm (.string k) = (look D k).isSome := by
    cases hl : look D k with
    | some v => rw [has_true_of_atKey (y := .lit (.string v)) (fun z => by rw [hat, hl])]; rfl
    | none => rw [has_false_of_atKey (fun z => by rw [hat, hl])]; rfl
  have hs : s = ⟨((look D k).getD []).toArray⟩ := by
    cases hl : look D k with
    | some v =>
      rw [hl] at hz
      simp at hz
      cases s
      simp at hz ⊢
      rw [hz.1]
    | none =>
      rw [hl] at hz
      simp at hz
      cases s
      simp at hz ⊢
      exact hz.1
  rw [hhas, hs]
  exact hK
theorem wpList_look_some {b n : Nat} {D : List (Str × Str)} (h : OwnM w b n D) (hg : o.guard = none) (m x : Operand) (hop : o.op = Op.lookup 49 m x true) (hm : a.eval m = .map (some b)) (k y : Str) (hx : a.eval x = .string ⟨k.toArray⟩) (hk : k.length ≤ maxLen) (hL : look D k = some y)
    (hK : wpList Tryz.prog ops Q rest (a.put o.dst (.tuple #[.string ⟨y.toArray⟩, .bool true])) w) : wpList Tryz.prog ops Q (o :: rest) a w :=
  wpList_look h hg m x hop hm k hx hk (by rw [hL]; exact hK)
theorem wpList_look_none {b n : Nat} {D : List (Str × Str)} (h : OwnM w b n D) (hg : o.guard = none) (m x : Operand) (hop : o.op = Op.lookup 49 m x true) (hm : a.eval m = .map (some b)) (k : Str) (hx : a.eval x = .string ⟨k.toArray⟩) (hk : k.length ≤ maxLen) (hL : look D k = none)
    (hK : wpList Tryz.prog ops Q rest (a.put o.dst (.tuple #[.string ⟨#[]⟩, .bool false])) w) : wpList Tryz.prog ops Q (o :: rest) a w :=
  wpList_look h hg m x hop hm k hx hk (by rw [hL]; exact hK)
set_option maxRecDepth 100000 in
theorem wpList_met {b n : Nat} {L : List Str} (h : OwnB w b n L) (hg : o.guard = none) (m x : Operand) (hop : o.op = Op.lookup 65 m x false) (hm : a.eval m = .map (some b)) (k : Str) (hx : a.eval x = .string ⟨k.toArray⟩) (hk : k.length ≤ maxLen)
    (hK : wpList Tryz.prog ops Q rest (a.put o.dst (.bool (decide (k ∈ L)))) w) : wpList Tryz.prog ops Q (o :: rest) a w := by
  obtain ⟨mm, hown, hat⟩ := h
  refine wpList_plain hg fun K' hK' => ?_
  obtain ⟨v, ps, hrun, hv⟩ := hown.lookup law Tryz.underlying65 (zeroB w) (plainElem_bool Tryz.underlying4 false) (key_of hk)
  have hb : v = .bool (decide (k ∈ L)) := by
    rw [hat] at hv
    unfold plainElem at hv
    rw [Tryz.underlying4] at hv
    cases v <;> simp at hv
    rename_i q
    by_cases hm : k ∈ L
    · rw [if_pos hm] at hv
      simp at hv
      rw [hv.1]; simp [hm]
    · rw [if_neg hm] at hv
      simp at hv
      rw [hv.1]; simp [hm]
  subst hb
  unfold Oper.wp
  simp [execOp, hop, hm, hx, hrun, Result.andThen]
  exact hK' _ _ hK
theorem wpList_met_b {b n : Nat} {L : List Str} (h : OwnB w b n L) (hg : o.guard = none) (m x : Operand) (hop : o.op = Op.lookup 65 m x false) (hm : a.eval m = .map (some b)) (k : Str) (hx : a.eval x = .string ⟨k.toArray⟩) (hk : k.length ≤ maxLen) (q : Bool) (hq : decide (k ∈ L) = q)
    (hK : wpList Tryz.prog ops Q rest (a.put o.dst (.bool q)) w) : wpList Tryz.prog ops Q (o :: rest) a w :=
  wpList_met h hg m x hop hm k hx hk (by rw [hq]; exact hK)
/-- 'm[k] = v' -/
theorem wpList_say {b n : Nat} {D : List (Str × Str)} (h : OwnM w b n D) (hg : o.guard = none) (m x v : Operand) (hop : o.op = Op.mapUpdate 49 m x v) (hm : a.eval m = .map (some b)) (hn : n < maxLen) (k y : Str) (hx : a.eval x = .string ⟨k.toArray⟩) (hv : a.eval v = .string ⟨y.toArray⟩) (hk : k.length ≤ maxLen) (hy : y.length ≤ maxLen) (hno : look D k = none)
    (hK : ∀ w', OwnM w' b (n + 1) (D ++ [(k, y)]) → w.grownBy w' (some b) → wpList Tryz.prog ops Q rest (a.put o.dst undef) w') : wpList Tryz.prog ops Q (o :: rest) a w := by
  obtain ⟨mm, hown, hat⟩ := h
  refine wpList_mapUpdate_own w hg m x v 49 hop 9 9 law Tryz.underlying49 (plainElem Tryz.prog 9) b n mm hm hown hn _ _ _ hx hv (key_of hk) _ [] (elS hy) ?_
  intro w' hown' hgr
  refine hK w' ⟨_, hown', fun k' z => ?_⟩ hgr
  rw [look_append]
  by_cases he : k' = k
  · subst he
    rw [atKey_put_same hown.isMap (strKey _), hno]
    simp [look]
  · rw [atKey_put_other (fun e => he (by simpa using e)), hat]
    cases hl : look D k' with
    | some u => rfl
    | none => simp [look, Ne.symm he]
/-- 'm[k] = true' -/
theorem wpList_mark {b n : Nat} {L : List Str} (h : OwnB w b n L) (hg : o.guard = none) (m x v : Operand) (hop : o.op = Op.mapUpdate 65 m x v) (hm : a.eval m = .map (some b)) (hn : n < maxLen) (k : Str) (hx : a.eval x = .string ⟨k.toArray⟩) (hv : a.eval v = .bool true) (hk : k.length ≤ maxLen)
    (hK : ∀ w', OwnB w' b (n + 1) (k :: L) → w.grownBy w' (some b) → wpList Tryz.prog ops Q rest (a.put o.dst undef) w') : wpList Tryz.prog ops Q (o :: rest) a w := by
  obtain ⟨mm, hown, hat⟩ := h
  refine wpList_mapUpdate_own w hg m x v 65 hop 9 4 law Tryz.underlying65 (plainElem Tryz.prog 4) b n mm hm hown hn _ _ _ hx hv (key_of hk) _ [] (plainElem_bool Tryz.underlying4 true) ?_
  intro w' hown' hgr
  refine hK w' ⟨_, hown', fun k' z => ?_⟩ hgr
  by_cases he : k' = k
  · subst he
    rw [atKey_put_same hown.isMap (strKey _)]
    simp
  · rw [atKey_put_other (fun e => he (by simpa using e)), hat]
    simp [he]
end

/-- v leads to chains of which D is said -/
def ChRd (w : World) (v : Value) (D : List (Str × Str)) : Prop :=
  ∃ bc bm n, v = .pointer (some ⟨bc, 0, none⟩) ∧ bc < w.heap.size ∧ w.cell? ⟨bc, 0, none⟩ = some (.map (some bm)) ∧ OwnM w bm n D
theorem ChRd.below {w w' : World} {v : Value} {D : List (Str × Str)} (h : ChRd w v D) (hb : Below w.heap.size w w') : ChRd w' v D := by
  obtain ⟨bc, bm, n, h1, h2, h3, h4⟩ := h
  exact ⟨bc, bm, n, h1, Nat.lt_of_lt_of_le h2 hb.size, (hb.cell (p := ⟨bc, 0, none⟩) h2).trans h3, h4.below hb⟩
end Go.Proofs.YtffaoejahnildaaGreat
