/- Arguments that came in: a list of texts, a list of pairs, a tag, read as RdS, RdP, RdT say. -/
import Derived.Test.YtjlfchnnhglbjaaGreatSame
import Derived.SliceStrings
import Derived.WideShapes
import Derived.ChangeArms
import Derived.ChangeSame
set_option linter.unusedVariables false
set_option linter.unusedSimpArgs false
namespace Go.Proofs.YtjlfchnnhglbjaaGreat
open Go.RowKit Go.Lib Go.Sort Go.ChangeShapes Go.WideShapes

theorem list2 {α : Type} {cs : List α} (h : cs.length = 2) : ∃ c0 c1, cs = [c0, c1] := by
  match cs, h with
  | [c0, c1], _ => exact ⟨c0, c1, rfl⟩
theorem array5 {α : Type} {cs : Array α} (h : cs.size = 5) : ∃ c0 c1 c2 c3 c4, cs = #[c0, c1, c2, c3, c4] := by
  obtain ⟨l⟩ := cs
  match l, h with
  | [c0, c1, c2, c3, c4], _ => exact ⟨c0, c1, c2, c3, c4, rfl⟩
theorem spot_of_cell {w : World} {a : Addr} {v : Value} (h : w.cell? a = some v) : a.spot = none ∧ a.block < w.heap.size := by
  unfold World.cell? at h
  cases hb : w.heap[a.block]? with
  | none => rw [hb] at h; cases h
  | some o =>
    rw [hb] at h
    have hlt := (Array.getElem?_eq_some_iff.1 hb).1
    cases o <;> simp at h
    exact ⟨h.1, hlt⟩
theorem add_of {b off i : Nat} : (⟨b, off, none⟩ : Addr).add i = ⟨b, off + i, none⟩ := by
  unfold Addr.add; split <;> simp_all
theorem S_of (s : ByteArray) : Value.string s = S s.data.toList := by unfold S; simp

section
variable {H : Type} {enc : TypeId × Value → H} {w : World} {base : Nat} {spare : Nat → Bool} {held : Bool}

set_option maxRecDepth 100000 in
theorem open_rdS {fuel : Nat} {cs : List Value} {x : DataW H × List MemPlace} (h : DataW.trod enc Tryz.prog w base spare held fuel 41 cs = some x) : ∃ v l, cs = [v] ∧ RdS w v l := by
  rcases open_strings Tryz.underlying41 Tryz.underlying9 (by kernel_rfl) h with ⟨rfl, _⟩ | ⟨a, len, cap, ss, rfl, hb, hl, hm, hz, hx, hcell, hsz⟩
  · exact ⟨_, [], rfl, RdS.nil w⟩
  · have hle : len ≤ ss.length := by rw [hz]; split <;> omega
    have hlen : ((ss.take len).map (fun s : ByteArray => s.data.toList)).length = len := by simp; omega
    refine ⟨.slice (some a) len cap, (ss.take len).map (fun s => s.data.toList), rfl, some a, cap, by rw [hlen], ⟨by rw [hlen]; unfold maxLen at hm; omega, fun e => by cases e⟩, fun hne => ?_⟩
    have h0 : 0 < len := by
      rcases Nat.eq_zero_or_pos len with h0 | h0
      · subst h0; simp at hne
      · exact h0
    have c0 := hcell 0 (by omega)
    rw [show a.add 0 = a from by unfold Addr.add; simp] at c0
    obtain ⟨hs, hlt⟩ := spot_of_cell c0
    obtain ⟨b, off, sp⟩ := a
    simp only at hs hlt
    subst hs
    refine ⟨b, off, rfl, hlt, fun j y hy => ?_⟩
    rw [List.getElem?_map, List.getElem?_take] at hy
    split at hy
    · rename_i hj
      have hc := hcell j (by omega)
      rw [add_of] at hc
      rw [hc, List.getD]
      cases hq : ss[j]? with
      | none => rw [hq] at hy; simp at hy
      | some s => rw [hq] at hy; simp at hy; subst hy; simp [S_of]
    · simp at hy

set_option maxRecDepth 100000 in
theorem open_pair {n : Nat} {cs : List Value} {y : DataW H × List MemPlace} (h : DataW.trod enc Tryz.prog w base spare held n 48 cs = some y) : ∃ p : Str × Str, cs = enc2 p ∧ p.1.length ≤ maxLen ∧ p.2.length ≤ maxLen := by
  obtain ⟨y0, y1, m, _, hl, h0, h1⟩ := trod_struct2 Tryz.underlying48 h
  have hC : Tryz.prog.cellsOf 48 = 2 := by kernel_rfl
  have hD : Tryz.prog.cellsOf 9 = 1 := by kernel_rfl
  rw [hC] at hl
  obtain ⟨c0, c1, rfl⟩ := list2 hl
  simp only [hD, List.drop_zero, List.drop_succ_cons, List.take_succ_cons, List.take_zero] at h0 h1
  obtain ⟨s0, e0, _, z0⟩ := DataW.trod_string Tryz.underlying9 h0
  obtain ⟨s1, e1, _, z1⟩ := DataW.trod_string Tryz.underlying9 h1
  simp only [List.cons.injEq, and_true] at e0 e1
  subst e0; subst e1
  exact ⟨(s0.data.toList, s1.data.toList), by rw [S_of s0, S_of s1]; rfl, z0, z1⟩

/-- pairs' lengths -/
def PSz (l : List (Str × Str)) : Prop := ∀ p ∈ l, p.1.length ≤ maxLen ∧ p.2.length ≤ maxLen

set_option maxRecDepth 100000 in
theorem open_rdP {fuel : Nat} {cs : List Value} {x : DataW H × List MemPlace} (h : DataW.trod enc Tryz.prog w base spare held fuel 43 cs = some x) : ∃ v l, cs = [v] ∧ RdP w v l ∧ l.length ≤ maxLen ∧ PSz l ∧ (l = [] ∨ ∃ es rs, x.1 = .slice es rs ∧ es.length = l.length) := by
  rcases DataW.trod_slice Tryz.underlying43 h with ⟨rfl, _⟩ | ⟨a, len, cap, elems, rest, n, _, rfl, hx, hb, hl, hm, hlen, hel, _, _⟩
  · exact ⟨_, [], rfl, RdP.nil w, Nat.zero_le _, (fun p hp => by cases hp), Or.inl rfl⟩
  · have hC : Tryz.prog.cellsOf 48 = 2 := by kernel_rfl
    rw [hC] at hel
    have key : ∀ i, i < len → ∃ p : Str × Str, w.cells? base (a.add (i * 2)) 2 = some (enc2 p) ∧ p.1.length ≤ maxLen ∧ p.2.length ≤ maxLen := by
      intro i hi
      have hy := hel i hi
      rw [List.getElem?_eq_getElem (by omega), Option.bind_eq_some_iff] at hy
      obtain ⟨cs', hcs, hy'⟩ := hy
      obtain ⟨p, rfl, hp⟩ := open_pair hy'
      exact ⟨p, hcs, hp⟩
    have hex : ∃ f : Nat → Str × Str, ∀ i, i < len → w.cells? base (a.add (i * 2)) 2 = some (enc2 (f i)) ∧ (f i).1.length ≤ maxLen ∧ (f i).2.length ≤ maxLen := by
      refine ⟨fun i => if h : i < len then (key i h).choose else ([], []), fun i hi => ?_⟩
      simp only [hi, dif_pos]
      exact (key i hi).choose_spec
    obtain ⟨f, hf⟩ := hex
    have hlen2 : ((List.range len).map f).length = len := by simp
    refine ⟨.slice (some a) len cap, (List.range len).map f, rfl, ⟨some a, cap, by rw [hlen2], ⟨by rw [hlen2]; unfold maxLen at hm; omega, fun e => by cases e⟩, fun hne => ?_⟩, by rw [hlen2]; omega, (fun p hp => ?_), Or.inr ⟨elems.map (·.1), rest.map (·.1), by rw [hx], by rw [hlen2, List.length_map, hlen]⟩⟩
    · have h0 : 0 < len := by
        rcases Nat.eq_zero_or_pos len with h0 | h0
        · subst h0; simp at hne
        · exact h0
      have c0 := (World.cells?_some (hf 0 h0).1).2.2 0 (by omega)
      rw [show (a.add (0 * 2)).add 0 = a from by unfold Addr.add; simp] at c0
      obtain ⟨hs, hlt⟩ := spot_of_cell c0
      obtain ⟨b, off, sp⟩ := a
      simp only at hs hlt
      subst hs
      refine ⟨b, off, rfl, hlt, fun j i y hj hy => ?_⟩
      rw [hlen2] at hj
      have hc := (World.cells?_some (hf j hj).1)
      have hi : i < 2 := by have := (List.getElem?_eq_some_iff.1 hy).1; simpa [enc2] using this
      have hci := hc.2.2 i hi
      rw [add_of, add_of] at hci
      rw [hci]
      simpa using hy
    · obtain ⟨i, hi, rfl⟩ := List.mem_map.1 hp
      exact (hf i (by simpa using hi)).2

set_option maxRecDepth 100000 in
theorem open_tag {r : Reach} {b0 : Nat} {v : Value} {d : DataW H} {p : List MemPlace} (hv : Value.okWide Tryz.prog w r b0 108 v) (h : DataW.Trod enc Tryz.prog w base spare held 108 v d p) : ∃ t : Tg, RdT w v t := by
  obtain ⟨cs, rfl, hsz⟩ := okWide_struct Tryz.underlying108 hv
  obtain ⟨fuel, hf⟩ := h
  have hC : Tryz.prog.cellsOf 108 = 5 := by kernel_rfl
  have hD : Tryz.prog.cellsOf 9 = 1 := by kernel_rfl
  have hE : Tryz.prog.cellsOf 41 = 1 := by kernel_rfl
  have hF : Tryz.prog.cellsOf 43 = 1 := by kernel_rfl
  rw [hC] at hsz
  obtain ⟨c0, c1, c2, c3, c4, rfl⟩ := array5 hsz
  obtain ⟨xs, n, _, _, _, hlen, hfs⟩ := DataW.trod_struct Tryz.underlying108 hf
  have g0 := hfs 0 _ rfl
  have g1 := hfs 1 _ rfl
  have g2 := hfs 2 _ rfl
  have g3 := hfs 3 _ rfl
  have g4 := hfs 4 _ rfl
  have hx : xs.length = 5 := hlen
  rw [List.getElem?_eq_getElem (by omega)] at g0 g1 g2 g3 g4
  simp only [Value.cells, hD, hE, hF, List.drop_zero, List.drop_succ_cons, List.take_succ_cons, List.take_zero] at g0 g1 g2 g3 g4
  obtain ⟨s0, e0, _, _⟩ := DataW.trod_string Tryz.underlying9 g0
  obtain ⟨s1, e1, _, _⟩ := DataW.trod_string Tryz.underlying9 g1
  obtain ⟨s2, e2, _, _⟩ := DataW.trod_string Tryz.underlying9 g2
  obtain ⟨v3, l3, e3, r3⟩ := open_rdS g3
  obtain ⟨v4, l4, e4, r4, _, _⟩ := open_rdP g4
  obtain rfl := List.head_eq_of_cons_eq e0
  obtain rfl := List.head_eq_of_cons_eq e1
  obtain rfl := List.head_eq_of_cons_eq e2
  obtain rfl := List.head_eq_of_cons_eq e3
  obtain rfl := List.head_eq_of_cons_eq e4
  refine ⟨⟨s0.data.toList, s1.data.toList, s2.data.toList, l3, l4⟩, _, _, ?_, r3, r4⟩
  rw [S_of s0, S_of s1, S_of s2]; rfl
end
end Go.Proofs.YtjlfchnnhglbjaaGreat
