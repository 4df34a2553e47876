/- Several texts in one: OpenT, LkHelp, LkMade, LkNone, LkLaw. (joined by wip/merge.py) -/
import Derived.Test.YtlmgmifaknlolaaGreatRows
import Derived.Test.YtlmgmifaknlolaaGreatOpen
import Derived.Test.YtlmgmifaknlolaaGreatNC
import Derived.Deep.LoopGhost
import Derived.Deep.CutBlock
import Derived.Deep.AppendLies
import Derived.Deep.RegionHeld3
import Derived.BigQuiet
import Derived.IntWalk
import Derived.WalkSmall
import Derived.Test.YtlmgmifaknlolaaGreatND
import Derived.Test.YtlmgmifaknlolaaGreatNB
import Derived.Test.YtlmgmifaknlolaaGreatRefSame

/- A tag, a list of pairs that came in: what is read, that it lies in its room, and how great it is. -/
set_option linter.unusedVariables false
set_option linter.unusedSimpArgs false
namespace Go.Proofs.YtlmgmifaknlolaaGreat
open Go.RowKit Go.Lib Go.Sort Go.ChangeShapes Go.WideShapes

theorem bulkAll_strs {H : Type} (l : List ByteArray) : sz (l.map fun s => s.data.toList) ≤ Rows.uptoBulkAll (strs (H := H) l) := by
  induction l with
  | nil => exact Nat.le_refl _
  | cons s l ih =>
    rw [List.map_cons, sz_cons]
    show _ ≤ Rows.uptoBulkAll ((DataW.lit (.string s.data.toList) : DataW H) :: strs l)
    simp only [Rows.uptoBulkAll, Rows.uptoBulk]
    omega
theorem sz_pairs (p : Str × Str) : sz (pairParts p) ≤ p.1.length + p.2.length + 2 := by
  unfold pairParts
  split <;> simp only [sz_cons, sz_nil] <;> omega
theorem bulkAll_pairs {H : Type} (l : List (Str × Str)) : sz (l.flatMap pairParts) ≤ Rows.uptoBulkAll (l.map fun p => (DataW.agg [.lit (.string p.1), .lit (.string p.2)] : DataW H)) := by
  induction l with
  | nil => exact Nat.le_refl _
  | cons p l ih =>
    rw [List.map_cons, List.flatMap_cons, sz_append]
    have := sz_pairs p
    simp only [Rows.uptoBulkAll, Rows.uptoBulk]
    omega
theorem bulk_len {H : Type} (l : List (Str × Str)) : l.length ≤ Rows.uptoBulkAll (l.map fun p => (DataW.agg [.lit (.string p.1), .lit (.string p.2)] : DataW H)) := by
  induction l with
  | nil => exact Nat.le_refl _
  | cons p l ih =>
    rw [List.map_cons, List.length_cons]
    simp only [Rows.uptoBulkAll, Rows.uptoBulk]
    omega

section
variable {H : Type} {enc : TypeId × Value → H} {w : World} {base : Nat} {spare : Nat → Bool} {held : Bool}

set_option maxRecDepth 100000 in
theorem open_rdS2 {fuel : Nat} {cs : List Value} {x : DataW H × List MemPlace} (h : DataW.trod enc Tryz.prog w base spare held fuel 23 cs = some x) :
    ∃ ao n cp l, cs = [.slice ao n cp] ∧ RdS w (.slice ao n cp) l ∧ n ≤ cp ∧ sz l ≤ Rows.uptoBulk x.1 := by
  rcases open_strings Tryz.underlying23 Tryz.underlying9 (by kernel_rfl) h with ⟨rfl, _⟩ | ⟨a, len, cap, ss, rfl, hb, hl, hm, hz, hx, hcell, hsz⟩
  · exact ⟨none, 0, 0, [], rfl, RdS.nil w, Nat.le_refl _, Nat.zero_le _⟩
  · have hle : len ≤ ss.length := by rw [hz]; split <;> omega
    have hlen : ((ss.take len).map (fun s : ByteArray => s.data.toList)).length = len := by simp; omega
    refine ⟨some a, len, cap, (ss.take len).map (fun s => s.data.toList), rfl, ⟨some a, cap, by rw [hlen], ⟨by rw [hlen]; unfold maxLen at hm; omega, fun e => by cases e⟩, fun hne => ?_⟩, hl, ?_⟩
    · have h0 : 0 < len := by
        rcases Nat.eq_zero_or_pos len with h0 | h0
        · subst h0; simp at hne
        · exact h0
      have c0 := hcell 0 (by omega)
      rw [show a.add 0 = a from by unfold Addr.add; simp] at c0
      obtain ⟨hs, hlt⟩ := spot_of_cell c0
      obtain ⟨b, off, sp⟩ := a
      simp only at hs hlt
      subst hs
      refine ⟨b, off, rfl, hlt, fun j y hy => ?_⟩
      rw [List.getElem?_map, List.getElem?_take] at hy
      split at hy
      · rename_i hj
        have hc := hcell j (by omega)
        rw [add_of] at hc
        rw [hc, List.getD]
        cases hq : ss[j]? with
        | none => rw [hq] at hy; simp at hy
        | some s => rw [hq] at hy; simp at hy; subst hy; simp [S_of]
      · simp at hy
    · rw [hx]
      have := bulkAll_strs (H := H) (ss.take len)
      simp only [Rows.uptoBulk]
      omega

set_option maxRecDepth 100000 in
theorem open_pair2 {n : Nat} {cs : List Value} {y : DataW H × List MemPlace} (h : DataW.trod enc Tryz.prog w base spare held n 42 cs = some y) :
    ∃ p : Str × Str, cs = enc2 p ∧ (p.1.length ≤ maxLen ∧ p.2.length ≤ maxLen) ∧ y.1 = .agg [.lit (.string p.1), .lit (.string p.2)] := by
  obtain ⟨y0, y1, m, hy, hl, h0, h1⟩ := trod_struct2 Tryz.underlying42 h
  have hC : Tryz.prog.cellsOf 42 = 2 := by kernel_rfl
  have hD : Tryz.prog.cellsOf 9 = 1 := by kernel_rfl
  rw [hC] at hl
  obtain ⟨c0, c1, rfl⟩ := list2 hl
  simp only [hD, List.drop_zero, List.drop_succ_cons, List.take_succ_cons, List.take_zero] at h0 h1
  obtain ⟨s0, e0, f0, z0⟩ := DataW.trod_string Tryz.underlying9 h0
  obtain ⟨s1, e1, f1, z1⟩ := DataW.trod_string Tryz.underlying9 h1
  simp only [List.cons.injEq, and_true] at e0 e1
  subst e0; subst e1
  exact ⟨(s0.data.toList, s1.data.toList), by rw [S_of s0, S_of s1]; rfl, ⟨z0, z1⟩, by rw [hy, f0, f1]⟩

set_option maxRecDepth 100000 in
theorem open_rdP2 {fuel : Nat} {cs : List Value} {x : DataW H × List MemPlace} (h : DataW.trod enc Tryz.prog w base spare held fuel 22 cs = some x) :
    ∃ ao n cp l, cs = [.slice ao n cp] ∧ RdP w (.slice ao n cp) l ∧ n ≤ cp ∧ PSz l ∧ sz (l.flatMap pairParts) ≤ Rows.uptoBulk x.1 ∧ l.length ≤ Rows.uptoBulk x.1 := by
  rcases DataW.trod_slice Tryz.underlying22 h with ⟨rfl, _⟩ | ⟨a, len, cap, elems, rest, n, _, rfl, hx, hb, hl, hm, hlen, hel, _, _⟩
  · exact ⟨none, 0, 0, [], rfl, RdP.nil w, Nat.le_refl _, (fun p hp => by cases hp), Nat.zero_le _, Nat.zero_le _⟩
  · have hC : Tryz.prog.cellsOf 42 = 2 := by kernel_rfl
    rw [hC] at hel
    have key : ∀ i, i < len → ∃ p : Str × Str, w.cells? base (a.add (i * 2)) 2 = some (enc2 p) ∧ (p.1.length ≤ maxLen ∧ p.2.length ≤ maxLen) ∧ (elems[i]?).map (·.1) = some (.agg [.lit (.string p.1), .lit (.string p.2)]) := by
      intro i hi
      have hy := hel i hi
      rw [List.getElem?_eq_getElem (by omega), Option.bind_eq_some_iff] at hy
      obtain ⟨cs', hcs, hy'⟩ := hy
      obtain ⟨p, rfl, hp, hq⟩ := open_pair2 hy'
      exact ⟨p, hcs, hp, by rw [List.getElem?_eq_getElem (by omega), Option.map_some, hq]⟩
    have hex : ∃ f : Nat → Str × Str, ∀ i, i < len → w.cells? base (a.add (i * 2)) 2 = some (enc2 (f i)) ∧ ((f i).1.length ≤ maxLen ∧ (f i).2.length ≤ maxLen) ∧ (elems[i]?).map (·.1) = some (.agg [.lit (.string (f i).1), .lit (.string (f i).2)]) := by
      refine ⟨fun i => if h : i < len then (key i h).choose else ([], []), fun i hi => ?_⟩
      simp only [hi, dif_pos]
      exact (key i hi).choose_spec
    obtain ⟨f, hf⟩ := hex
    have hlen2 : ((List.range len).map f).length = len := by simp
    have hmap : elems.map (·.1) = ((List.range len).map f).map fun p => (DataW.agg [.lit (.string p.1), .lit (.string p.2)] : DataW H) := by
      refine List.ext_getElem? fun i => ?_
      by_cases hi : i < len
      · have h3 := (hf i hi).2.2
        rw [List.getElem?_map, h3, List.getElem?_map, List.getElem?_map, List.getElem?_range hi]
        rfl
      · rw [List.getElem?_eq_none (by rw [List.length_map]; omega), List.getElem?_eq_none (by rw [List.length_map, hlen2]; omega)]
    refine ⟨some a, len, cap, (List.range len).map f, rfl, ⟨some a, cap, by rw [hlen2], ⟨by rw [hlen2]; unfold maxLen at hm; omega, fun e => by cases e⟩, fun hne => ?_⟩, hl, (fun p hp => ?_), ?_, ?_⟩
    · have h0 : 0 < len := by
        rcases Nat.eq_zero_or_pos len with h0 | h0
        · subst h0; simp at hne
        · exact h0
      have c0 := (World.cells?_some (hf 0 h0).1).2.2 0 (by omega)
      rw [show (a.add (0 * 2)).add 0 = a from by unfold Addr.add; simp] at c0
      obtain ⟨hs, hlt⟩ := spot_of_cell c0
      obtain ⟨b, off, sp⟩ := a
      simp only at hs hlt
      subst hs
      refine ⟨b, off, rfl, hlt, fun j i y hj hy => ?_⟩
      rw [hlen2] at hj
      have hc := (World.cells?_some (hf j hj).1)
      have hi : i < 2 := by have := (List.getElem?_eq_some_iff.1 hy).1; simpa [enc2] using this
      have hci := hc.2.2 i hi
      rw [add_of, add_of] at hci
      rw [hci]
      simpa using hy
    · obtain ⟨i, hi, rfl⟩ := List.mem_map.1 hp
      exact (hf i (by simpa using hi)).2.1
    · have := bulkAll_pairs (H := H) ((List.range len).map f)
      rw [hx]
      simp only [Rows.uptoBulk]
      rw [hmap]
      omega
    · have := bulk_len (H := H) ((List.range len).map f)
      rw [hx]
      simp only [Rows.uptoBulk]
      rw [hmap]
      omega

/-- a tag that came in, in its room -/
def CapT (v : Value) : Prop := ∀ a b c d e n m, v = .agg #[a, b, c, .slice d n m, e] → n ≤ m
def RdTc (w : World) (v : Value) (t : Tg) : Prop := ∃ a c b d, v = .agg (tagCells t (.slice a t.vars.length c) (.slice b t.keys.length d)) ∧ RdS w (.slice a t.vars.length c) t.vars ∧ RdP w (.slice b t.keys.length d) t.keys ∧ t.vars.length ≤ c ∧ t.keys.length ≤ d
theorem RdTc.rd {w : World} {v : Value} {t : Tg} (h : RdTc w v t) : RdT w v t := by
  obtain ⟨a, c, b, d, hv, h1, h2, _, _⟩ := h
  exact ⟨_, _, hv, h1, h2⟩
theorem RdTc.below {w w' : World} {v : Value} {t : Tg} (h : RdTc w v t) (hb : Below w.heap.size w w') : RdTc w' v t := by
  obtain ⟨a, c, b, d, hv, h1, h2, h3, h4⟩ := h
  exact ⟨a, c, b, d, hv, h1.below hb, h2.below hb, h3, h4⟩

set_option maxRecDepth 100000 in
theorem open_tag2 {r : Reach} {b0 : Nat} {v : Value} {d : DataW H} {p : List MemPlace} (hv : Value.okWide Tryz.prog w r b0 25 v) (h : DataW.Trod enc Tryz.prog w base spare held 25 v d p) : ∃ t : Tg, RdTc w v t ∧ szT t ≤ Rows.uptoBulk d + 16 := by
  obtain ⟨cs, rfl, hsz⟩ := okWide_struct Tryz.underlying25 hv
  obtain ⟨fuel, hf⟩ := h
  have hC : Tryz.prog.cellsOf 25 = 5 := by kernel_rfl
  have hD : Tryz.prog.cellsOf 9 = 1 := by kernel_rfl
  have hE : Tryz.prog.cellsOf 23 = 1 := by kernel_rfl
  have hF : Tryz.prog.cellsOf 22 = 1 := by kernel_rfl
  rw [hC] at hsz
  obtain ⟨c0, c1, c2, c3, c4, rfl⟩ := array5 hsz
  obtain ⟨xs, n, _, hd, _, hlen, hfs⟩ := DataW.trod_struct Tryz.underlying25 hf
  have g0 := hfs 0 _ rfl
  have g1 := hfs 1 _ rfl
  have g2 := hfs 2 _ rfl
  have g3 := hfs 3 _ rfl
  have g4 := hfs 4 _ rfl
  have hx : xs.length = 5 := hlen
  obtain ⟨x0, x1, x2, x3, x4, rfl⟩ : ∃ x0 x1 x2 x3 x4, xs = [x0, x1, x2, x3, x4] := by
    match xs, hx with
    | [a, b, c, d, e], _ => exact ⟨a, b, c, d, e, rfl⟩
  simp only [Value.cells, hD, hE, hF, List.drop_zero, List.drop_succ_cons, List.take_succ_cons, List.take_zero, List.getElem?_cons_zero, List.getElem?_cons_succ] at g0 g1 g2 g3 g4
  obtain ⟨s0, e0, f0, _⟩ := DataW.trod_string Tryz.underlying9 g0
  obtain ⟨s1, e1, f1, _⟩ := DataW.trod_string Tryz.underlying9 g1
  obtain ⟨s2, e2, f2, _⟩ := DataW.trod_string Tryz.underlying9 g2
  obtain ⟨a3, n3, p3, l3, e3, r3, k3, z3⟩ := open_rdS2 g3
  obtain ⟨a4, n4, p4, l4, e4, r4, k4, _, z4, _⟩ := open_rdP2 g4
  obtain rfl := List.head_eq_of_cons_eq e0
  obtain rfl := List.head_eq_of_cons_eq e1
  obtain rfl := List.head_eq_of_cons_eq e2
  obtain rfl := List.head_eq_of_cons_eq e3
  obtain rfl := List.head_eq_of_cons_eq e4
  obtain ⟨_, _, h3, _, _⟩ := id r3
  obtain ⟨_, _, h4, _, _⟩ := id r4
  cases h3
  cases h4
  refine ⟨⟨s0.data.toList, s1.data.toList, s2.data.toList, l3, l4⟩, ⟨a3, p3, a4, p4, ?_, r3, r4, k3, k4⟩, ?_⟩
  · rw [S_of s0, S_of s1, S_of s2]; rfl
  · have hdd : d = .agg [x0.1, x1.1, x2.1, x3.1, x4.1] := (Prod.mk.inj hd).1
    rw [hdd, f0, f1, f2]
    unfold szT
    simp only [Rows.uptoBulk, Rows.uptoBulkAll]
    omega
end
end Go.Proofs.YtlmgmifaknlolaaGreat

/- The contracts of the law's short and cut. -/
set_option linter.unusedVariables false
set_option linter.unusedSimpArgs false
namespace Go.Proofs.YtlmgmifaknlolaaGreat
open Go.RowKit Go.Lib Go.Sort

def shortF (t : Tg) : Tg := { t with vars := t.vars.take 12, keys := t.keys.take 20 }

theorem rdS_takeN {w : World} {ao : Option Addr} {cp k : Nat} {l : List Str} (h : RdS w (.slice ao l.length cp) l) (hk : k ≤ l.length) : RdS w (.slice ao k cp) (l.take k) := by
  obtain ⟨ao', cp', hv, hl, hr⟩ := h
  cases hv
  have hlen : (l.take k).length = k := by rw [List.length_take]; omega
  refine ⟨ao, cp, by rw [hlen], ⟨by rw [hlen]; omega, fun e => ⟨by rw [(hl.2 e).1]; simp, (hl.2 e).2⟩⟩, fun hne => ?_⟩
  have hne2 : l ≠ [] := fun e => hne (by rw [e]; simp)
  obtain ⟨b, off, h1, h2, h3⟩ := hr hne2
  refine ⟨b, off, h1, h2, fun j x hx => h3 j x ?_⟩
  rw [List.getElem?_take] at hx
  split at hx
  · exact hx
  · cases hx
theorem rdP_takeN {w : World} {ao : Option Addr} {cp k : Nat} {l : List (Str × Str)} (h : RdP w (.slice ao l.length cp) l) (hk : k ≤ l.length) : RdP w (.slice ao k cp) (l.take k) := by
  obtain ⟨ao', cp', hv, hl, hr⟩ := h
  cases hv
  have hlen : (l.take k).length = k := by rw [List.length_take]; omega
  refine ⟨ao, cp, by rw [hlen], ⟨by rw [hlen]; omega, fun e => ⟨by rw [(hl.2 e).1]; simp, (hl.2 e).2⟩⟩, fun hne => ?_⟩
  have hne2 : l ≠ [] := fun e => hne (by rw [e]; simp)
  obtain ⟨b, off, h1, h2, h3⟩ := hr hne2
  refine ⟨b, off, h1, h2, fun j i x hj hx => h3 j i x (by omega) ?_⟩
  rw [List.getElem_take] at hx
  exact hx
theorem take_min {α : Type} (l : List α) (n : Nat) : l.take (min (l.length : Int) n).toNat = l.take n := by
  have : (min (l.length : Int) n).toNat = min l.length n := by omega
  rw [this, Nat.min_comm, List.take_eq_take_iff]
  omega

set_option maxRecDepth 100000 in
set_option maxHeartbeats 8000000 in
theorem short_any (w : World) (t : Tg) (av ak : Option Addr) (cv ck : Nat) (hcv : t.vars.length ≤ cv) (hck : t.keys.length ≤ ck) :
    Calls Tryz.prog 11 #[.agg (tagCells t (.slice av t.vars.length cv) (.slice ak t.keys.length ck))] w fun e w' => e = .returned (.agg (tagCells (shortF t) (.slice av (t.vars.take 12).length cv) (.slice ak (t.keys.take 20).length ck))) ∧ Below w.heap.size w w' := by
  have HX0 := hid (heap_alloc2_old w (.cells #[.string ⟨t.lang.toArray⟩, .string ⟨t.script.toArray⟩, .string ⟨t.region.toArray⟩, .slice av t.vars.length cv, .slice ak t.keys.length ck] 25) (.cells #[.string ⟨#[]⟩, .string ⟨#[]⟩, .string ⟨#[]⟩, .slice none 0 0, .slice none 0 0] 25))
  have HZ0 := hid (heap_alloc2_new w (.cells #[.string ⟨t.lang.toArray⟩, .string ⟨t.script.toArray⟩, .string ⟨t.region.toArray⟩, .slice av t.vars.length cv, .slice ak t.keys.length ck] 25) (.cells #[.string ⟨#[]⟩, .string ⟨#[]⟩, .string ⟨#[]⟩, .slice none 0 0, .slice none 0 0] 25))
  have HB0 := hid (below2 w (.cells #[.string ⟨t.lang.toArray⟩, .string ⟨t.script.toArray⟩, .string ⟨t.region.toArray⟩, .slice av t.vars.length cv, .slice ak t.keys.length ck] 25) (.cells #[.string ⟨#[]⟩, .string ⟨#[]⟩, .string ⟨#[]⟩, .slice none 0 0, .slice none 0 0] 25))
  simp only [tagCells, S]
  go_enter Tryz.func11, Tryz.ntmps11
  go_upto_region 1 with (fail)
  generalize ((w.alloc (.cells #[.string ⟨t.lang.toArray⟩, .string ⟨t.script.toArray⟩, .string ⟨t.region.toArray⟩, .slice av t.vars.length cv, .slice ak t.keys.length ck] 25)).alloc (.cells #[.string ⟨#[]⟩, .string ⟨#[]⟩, .string ⟨#[]⟩, .slice none 0 0, .slice none 0 0] 25)) = w0 at *
  obtain ⟨c0, c1, c2, c3, c4⟩ := box_cells HX0.out
  have lt0 := lt_of_block HX0.out
  have fx3 := frozen_of_row w0 w.heap.size 3 _ _ HX0.out
  have fx4 := frozen_of_row w0 w.heap.size 4 _ _ HX0.out
  have hx1 : ((w0.setCell ⟨w.heap.size, 3, none⟩ (.slice av (min (t.vars.length : Int) 12).toNat cv)).setCell ⟨w.heap.size, 4, none⟩ (.slice ak (min (t.keys.length : Int) 20).toNat ck)).heap[w.heap.size]? = some (.cells #[.string ⟨t.lang.toArray⟩, .string ⟨t.script.toArray⟩, .string ⟨t.region.toArray⟩, .slice av (min (t.vars.length : Int) 12).toNat cv, .slice ak (min (t.keys.length : Int) 20).toNat ck] 25 (0, 0)) := by
    rw [heap_setCell_same _ _ _ _ _ _ (heap_setCell_same _ _ _ _ _ _ HX0.out)]; simp
  have hz1 : ((w0.setCell ⟨w.heap.size, 3, none⟩ (.slice av (min (t.vars.length : Int) 12).toNat cv)).setCell ⟨w.heap.size, 4, none⟩ (.slice ak (min (t.keys.length : Int) 20).toNat ck)).heap[w.heap.size + 1]? = some (.cells #[.string ⟨#[]⟩, .string ⟨#[]⟩, .string ⟨#[]⟩, .slice none 0 0, .slice none 0 0] 25 (0, 0)) := by
    rw [heap_setCell_other _ _ _ _ (by simp), heap_setCell_other _ _ _ _ (by simp)]; exact HZ0.out
  have hb1 : Below w.heap.size w ((w0.setCell ⟨w.heap.size, 3, none⟩ (.slice av (min (t.vars.length : Int) 12).toNat cv)).setCell ⟨w.heap.size, 4, none⟩ (.slice ak (min (t.keys.length : Int) 20).toNat ck)) := (HB0.out.setCell (by simp) _).setCell (by simp) _
  have HX1 := hid hx1
  have HZ1 := hid hz1
  have HB1 := hid hb1
  clear hx1 hz1 hb1
  go_upto_region 3 with (fail)
  generalize ((w0.setCell ⟨w.heap.size, 3, none⟩ (.slice av (min (t.vars.length : Int) 12).toNat cv)).setCell ⟨w.heap.size, 4, none⟩ (.slice ak (min (t.keys.length : Int) 20).toNat ck)) = w1 at *
  have hk1 : (min (t.vars.length : Int) 12).toNat = (t.vars.take 12).length := by rw [List.length_take]; omega
  have hk2 : (min (t.keys.length : Int) 20).toNat = (t.keys.take 20).length := by rw [List.length_take]; omega
  clear c0 c1 c2 c3 c4 lt0 fx3 fx4 HB0 HX0 HZ0
  generalize (min (t.vars.length : Int) 12).toNat = k1 at *
  generalize (min (t.keys.length : Int) 20).toNat = k2 at *
  obtain ⟨c0, c1, c2, c3, c4⟩ := box_cells HX1.out
  obtain ⟨d0, d1, d2, d3, d4⟩ := box_cells HZ1.out
  have lt0 := lt_of_block HX1.out
  have ltz := lt_of_block HZ1.out
  have fz0 := frozen_of_row w1 (w.heap.size + 1) 0 _ _ HZ1.out
  have fz1 := frozen_of_row w1 (w.heap.size + 1) 1 _ _ HZ1.out
  have fz2 := frozen_of_row w1 (w.heap.size + 1) 2 _ _ HZ1.out
  have fz3 := frozen_of_row w1 (w.heap.size + 1) 3 _ _ HZ1.out
  have fz4 := frozen_of_row w1 (w.heap.size + 1) 4 _ _ HZ1.out
  have HK1 := hid hk1
  have HK2 := hid hk2
  clear hk1 hk2
  go_wp2_with fail
  have hr := P5_row (.string ⟨t.lang.toArray⟩) (.string ⟨t.script.toArray⟩) (.string ⟨t.region.toArray⟩) (.slice av k1 cv) (.slice ak k2 ck) HZ1.out
  have hw := P5_below (.string ⟨t.lang.toArray⟩) (.string ⟨t.script.toArray⟩) (.string ⟨t.region.toArray⟩) (.slice av k1 cv) (.slice ak k2 ck) HB1.out (Nat.le_succ w.heap.size)
  clear c0 c1 c2 c3 c4 d0 d1 d2 d3 d4 fz0 fz1 fz2 fz3 fz4 lt0 ltz
  change bodyPost _ _ _ _ _ (P5 w1 (w.heap.size + 1) (.string ⟨t.lang.toArray⟩) (.string ⟨t.script.toArray⟩) (.string ⟨t.region.toArray⟩) (.slice av k1 cv) (.slice ak k2 ck))
  generalize P5 w1 (w.heap.size + 1) (.string ⟨t.lang.toArray⟩) (.string ⟨t.script.toArray⟩) (.string ⟨t.region.toArray⟩) (.slice av k1 cv) (.slice ak k2 ck) = V at *
  obtain ⟨d0, d1, d2, d3, d4⟩ := box_cells hr
  refine bodyPost_ret (v := .agg #[.string ⟨t.lang.toArray⟩, .string ⟨t.script.toArray⟩, .string ⟨t.region.toArray⟩, .slice av k1 cv, .slice ak k2 ck]) (by simp [results, Tryz.results11, go_sem, d0, d1, d2, d3, d4]) rfl ⟨?_, hw⟩
  rw [HK1.out, HK2.out]; rfl
theorem RdTc.short {w : World} {t : Tg} {av ak : Option Addr} {cv ck : Nat} (h : RdTc w (.agg (tagCells t (.slice av t.vars.length cv) (.slice ak t.keys.length ck))) t) : RdTc w (.agg (tagCells (shortF t) (.slice av (t.vars.take 12).length cv) (.slice ak (t.keys.take 20).length ck))) (shortF t) := by
  obtain ⟨a, c, b, d, hv, hS, hP, hc, hd⟩ := h
  have hl1 : (t.vars.take 12).length ≤ t.vars.length := by rw [List.length_take]; omega
  have hl2 : (t.keys.take 20).length ≤ t.keys.length := by rw [List.length_take]; omega
  simp only [tagCells, Value.agg.injEq, Array.mk.injEq, List.cons.injEq, Value.slice.injEq, and_true, true_and] at hv
  obtain ⟨⟨rfl, rfl⟩, rfl, rfl⟩ := hv
  refine ⟨av, cv, ak, ck, rfl, ?_, ?_, Nat.le_trans hl1 hc, Nat.le_trans hl2 hd⟩
  · have := rdS_takeN (k := (t.vars.take 12).length) hS hl1
    have e : t.vars.take (t.vars.take 12).length = t.vars.take 12 := by rw [List.length_take, List.take_eq_take_iff]; omega
    rw [e] at this
    exact this
  · have := rdP_takeN (k := (t.keys.take 20).length) hP hl2
    have e : t.keys.take (t.keys.take 20).length = t.keys.take 20 := by rw [List.length_take, List.take_eq_take_iff]; omega
    rw [e] at this
    exact this

theorem ext60 (s : Str) : (ByteArray.extract ⟨s.toArray⟩ 0 (min (s.length : Int) 60).toNat).data.toList = s.take 60 := by
  have h := take_min s 60
  rw [← h]
  simp
/-- pairs cut short -/
def cut60 (p : Str × Str) : Str × Str := (p.1.take 60, p.2.take 60)
def cutF (l : List (Str × Str)) : List (Str × Str) := (l.take 40).map cut60
theorem cut_step (l : List (Str × Str)) (n : Nat) (h : n < l.length) : (l.take (n + 1)).map cut60 = (l.take n).map cut60 ++ [cut60 l[n]] := by
  rw [List.take_add_one, List.getElem?_eq_getElem h, List.map_append]; rfl
/-- one pair more, at a step of a region that draws -/
theorem step_pushP {w : World} {ops : Array Oper} {o : Oper} {a : Act} {K : Act → World → Prop} {Q : Exit → Act → World → Prop} {E : Prop} (hgd : o.guard = none) (s x : Operand)
    (ho : o.op = .call { callee := .builtin .append, args := #[s, x], argTypes := #[22, 22] })
    (B : Nat) (v : Value) (l : List (Str × Str)) (b0 b1 : ByteArray) (hs : a.eval s = v) (hown : OwnP w B v l) (g : Nat) (hg : w.heap[g]? = some (.cells #[.string b0, .string b1] 42 (0, 0))) (hx : a.eval x = .slice (some ⟨g, 0, none⟩) 1 1) (hl : l.length ≤ 1000000) (hB : B ≤ w.heap.size)
    (h : ∀ v' w', OwnP w' B v' (l ++ [(b0.data.toList, b1.data.toList)]) → w.grownBy w' v.ownBlock → K (a.put o.dst v') w') :
    if Region.wanted o (yielded ops a.tmps) = true then Oper.wp Tryz.prog o a w K Q else E := by
  obtain ⟨i0, hi, hz0, hz1, hz2⟩ := info_parts infoP
  refine step_append_lies w hgd s x 22 ho B 42 i0 (.agg #[.string ⟨#[]⟩, .string ⟨#[]⟩]) 2 32 Tryz.underlying22 hi hz0 hz1 hz2 rfl (by decide) v l.length (flat2 l) hs hown ⟨g, 0, none⟩ 1 1 [.string b0, .string b1] hx rfl (World.news_of_block hg) (fun u hu => by simp at hu; rcases hu with rfl | rfl <;> rfl) (by decide) (by unfold maxLen; omega) (by omega) hB _ rfl ?_
  intro g2 cap w' own gr _ _
  exact h _ w' (own_cast own (by simp) (by simp [flat2, enc2, S])) gr

theorem keep3 {w2 w3 : World} {o : Obj} {row : Option Nat} {b : Nat} {x y : Value} (gr : (w2.drew.alloc o).grownBy w3 row) (hb : b < w2.heap.size) (hne : some b ≠ row) (c0 : w2.cell? ⟨b, 0, none⟩ = some x) (c1 : w2.cell? ⟨b, 1, none⟩ = some y) :
    w3.cell? ⟨b, 0, none⟩ = some x ∧ w3.cell? ⟨b, 1, none⟩ = some y := by
  have hl : b < (w2.drew.alloc o).heap.size := by simp; omega
  have e0 : (w2.drew.alloc o).cell? ⟨b, 0, none⟩ = some x := (World.cell?_alloc_lt w2.drew o ⟨b, 0, none⟩ hb).trans c0
  have e1 : (w2.drew.alloc o).cell? ⟨b, 1, none⟩ = some y := (World.cell?_alloc_lt w2.drew o ⟨b, 1, none⟩ hb).trans c1
  exact ⟨(gr.cell_far ⟨b, 0, none⟩ hl hne).trans e0, (gr.cell_far ⟨b, 1, none⟩ hl hne).trans e1⟩

set_option maxRecDepth 100000 in
set_option maxHeartbeats 16000000 in
theorem cut_any (w : World) (va : Value) (D : List (Str × Str)) (hl : RdP w va D) (hp : PSz D) :
    Calls Tryz.prog 10 #[va] w fun e w' => ∃ v', e = .returned v' ∧ OwnP w' w.heap.size v' (cutF D) ∧ Below w.heap.size w w' := by
  obtain ⟨ao, cp, rfl, hlen, hcell⟩ := hl
  have HC := hid hcell
  have HP := hid hp
  clear hcell hp
  go_enter Tryz.func10, Tryz.ntmps10
  go_upto_block 0 with fail
  go_cut [3] from 4 to 33 (fun vo wx => OwnP wx w.heap.size vo (cutF D) ∧ Below w.heap.size w wx)
  case first =>
    go_wp2_with fail
    go_loopg [3, 8] 40 (fun g vo vi W => ∃ n : Nat, n ≤ D.length ∧ n ≤ 40 ∧ 40 ≤ n + g ∧ vi = .int .i64 n ∧ OwnP W w.heap.size vo ((D.take n).map cut60) ∧ Below w.heap.size w W)
    case atStart => exact ⟨0, Nat.zero_le _, by omega, by omega, rfl, World.ownsRow_nil _ _ _ _, Below.refl _ _⟩
    case round =>
      obtain ⟨n, hn, h40, hg, rfl, own, hb⟩ := hrel
      rename World => w1
      have HG := hid hg
      have HO := hid own
      have HB := hid hb
      have HSB := hid hb.size
      clear hg own hb
      by_cases hlt : n < D.length
      · have hne : D ≠ [] := by intro e; rw [e] at hlt; simp at hlt
        obtain ⟨p1, o1, rfl, hp1, hc1⟩ := HC.out hne
        have hps := HP.out _ (List.getElem_mem hlt)
        obtain ⟨kv, hkv⟩ : ∃ kv, kv = D[n]'hlt := ⟨_, rfl⟩
        obtain ⟨k, v⟩ := kv
        have q1 := (HB.out.cell (p := ⟨p1, o1 + n * 2 + 0, none⟩) hp1).trans (hc1 n 0 (S k) hlt (by rw [← hkv]; rfl))
        have q2 := (HB.out.cell (p := ⟨p1, o1 + n * 2 + 1, none⟩) hp1).trans (hc1 n 1 (S v) hlt (by rw [← hkv]; rfl))
        rw [S] at q1 q2
        rw [Nat.add_zero] at q1
        have HST := hid (show (D.take (n + 1)).map cut60 = (D.take n).map cut60 ++ [(k.take 60, v.take 60)] by rw [cut_step D n hlt, ← hkv]; rfl)
        have hkl : k.length ≤ maxLen := by rw [← hkv] at hps; exact hps.1
        have hvl : v.length ≤ maxLen := by rw [← hkv] at hps; exact hps.2
        have hni : (n : Int) < (D.length : Int) := by omega
        have hn0 : (0 : Int) ≤ (n : Int) := by omega
        clear hkv hc1 hps hne
        by_cases h4 : n = 40
        · have hnb : ((n : Int) == 40) = true := by rw [h4]; rfl
          have HF := hid (show (D.take n).map cut60 = cutF D by rw [h4]; rfl)
          clear h4
          go_wp2_with fail
          go_meet
          case rel => exact ⟨by rw [← HF.out]; exact World.ownsRow.alloc HO.out _, HB.out.alloc HSB.out _⟩
        · have hnb : ((n : Int) == 40) = false := by rw [beq_eq_false_iff_ne]; omega
          have H4 := hid (show n + 1 ≤ 40 by omega)
          clear h4
          go_upto_region 6 with (fail)
          have HPB := hid (heap_alloc_new w1 (.cells #[.string ⟨k.toArray⟩, .string ⟨v.toArray⟩] 42))
          have HB2 := hid (HB.out.alloc HSB.out (.cells #[.string ⟨k.toArray⟩, .string ⟨v.toArray⟩] 42))
          have HO2 := hid (World.ownsRow.alloc HO.out (.cells #[.string ⟨k.toArray⟩, .string ⟨v.toArray⟩] 42))
          generalize w1.alloc (.cells #[.string ⟨k.toArray⟩, .string ⟨v.toArray⟩] 42) = w2 at *
          have c0 : w2.cell? ⟨w1.heap.size, 0, none⟩ = some (.string ⟨k.toArray⟩) := by rw [cell_of_row _ _ _ _ _ _ HPB.out]; rfl
          have c1 : w2.cell? ⟨w1.heap.size, 1, none⟩ = some (.string ⟨v.toArray⟩) := by rw [cell_of_row _ _ _ _ _ _ HPB.out]; rfl
          have lt0 := lt_of_block HPB.out
          clear q1 q2
          have hsb2 := hid HB2.out.size
          have hm1 : (0 : Int) ≤ min (k.length : Int) 60 := by omega
          have hm2 : min (k.length : Int) 60 ≤ (k.length : Int) := by omega
          have hm3 : (0 : Int) ≤ min (v.length : Int) 60 := by omega
          have hm4 : min (v.length : Int) 60 ≤ (v.length : Int) := by omega
          have hll : ((D.take n).map cut60).length ≤ 1000000 := by rw [List.length_map, List.length_take]; omega
          have S0 : w2.drew.cell? ⟨w1.heap.size, 0, none⟩ = some (.string ⟨k.toArray⟩) ∧ w2.drew.cell? ⟨w1.heap.size, 1, none⟩ = some (.string ⟨v.toArray⟩) := ⟨c0, c1⟩
          go_region_held3 (fun W => W.cell? ⟨w1.heap.size, 0, none⟩ = some (.string ⟨k.toArray⟩) ∧ W.cell? ⟨w1.heap.size, 1, none⟩ = some (.string ⟨v.toArray⟩)) (first | with_reducible assumption | go_keep)
            (first | (refine step_pushP rfl (.tmp 15) (.tmp 31) rfl w.heap.size _ _ _ _ rfl (World.ownsRow.alloc (show OwnP w2.drew w.heap.size _ _ from HO2.out) _) w2.heap.size (heap_alloc_new w2.drew _) rfl hll (by have := hsb2.out; simp; omega) ?_; intro v3 w3 own3 gr3; have hs3 := keep3 gr3 lt0 (fun e => by have := (World.ownsRow.lt HO.out _ e.symm).2; omega) c0 c1))
          all_goals
            have HO3 := hid own3
            have HB3 := hid ((HB2.out.drew.alloc (Nat.le_trans HB2.out.size (Nat.le_refl _)) _).grown gr3 (Nat.le_trans HB2.out.size (by simp)) (fun j hj => (World.ownsRow.lt HO.out _ hj).1))
            clear own3 gr3 hs3 S0 c0 c1
            go_wp2_with fail
            go_roundg (gk - 1)
          all_goals first
            | (have h1 := HG.out; have h2 := H4.out; omega)
            | exact ⟨n + 1, by omega, H4.out, by have := HG.out; omega, by simp, by rw [HST.out]; have h3 := HO3.out; rw [ext60, ext60] at h3; exact h3, HB3.out⟩
      · have hnl : n = D.length := by omega
        have HF := hid (show (D.take n).map cut60 = cutF D by unfold cutF; rw [List.take_of_length_le (by omega), List.take_of_length_le (by omega)])
        clear hnl
        go_wp2_with fail
        go_meet
        case rel => exact ⟨by rw [← HF.out]; exact HO.out, HB.out⟩
  case rest =>
    obtain ⟨own, hb⟩ := hcut
    have HO := hid own
    have HB := hid hb
    clear own hb
    go_wp2_with fail
    go_ret
    exact ⟨_, rfl, HO.out, HB.out⟩
end Go.Proofs.YtlmgmifaknlolaaGreat

/- The contract of the law's made. -/
set_option linter.unusedVariables false
set_option linter.unusedSimpArgs false
namespace Go.Proofs.YtlmgmifaknlolaaGreat
open Go.RowKit Go.Lib Go.Sort Go.Maps

theorem made_one {D : List (Str × Str)} {a b c d : Nat} (h : LNewOut D a b) (h2 : RtOut D c d) : c = a ∧ d = b := by
  have e : badR [] D = badL [] D := badR_eq [] D (fun y hy => by cases hy)
  unfold RtOut at h2
  rw [e] at h2
  rcases h with h | ⟨h, rfl, rfl⟩ <;> rcases h2 with h2 | ⟨h2, rfl, rfl⟩
  · rw [h] at h2; cases h2; exact ⟨rfl, rfl⟩
  · rw [h] at h2; cases h2
  · rw [h] at h2; cases h2
  · exact ⟨rfl, rfl⟩
/-- what made hands back -/
def MadeRes (w : World) (D : List (Str × Str)) (e : Ending) (w' : World) : Prop :=
  ∃ vc, e = .returned (.tuple #[vc, .bool true]) ∧ ((badL [] D = none ∧ LkRd w' vc (dOf D)) ∨ (badL [] D ≠ none ∧ vc = .pointer none)) ∧ Below w.heap.size w w'

set_option maxRecDepth 100000 in
set_option maxHeartbeats 8000000 in
theorem made_any (w : World) (ao : Option Addr) (cp : Nat) (D : List (Str × Str)) (hl : RdP w (.slice ao D.length cp) D) (hcap : D.length ≤ cp) (hp : PSz D) (hsz : D.length ≤ 1000) :
    Calls Tryz.prog 12 #[.slice ao D.length cp] w fun e w' => MadeRes w D e w' := by
  have NW := hid (fun W (hb : Below w.heap.size w W) => lnew_any W _ D (hl.below hb) hp (by omega))
  have RF := hid (fun W (hb : Below w.heap.size w W) => rfault_any W ao cp D (hl.below hb) hcap hp (by omega))
  clear hl hp
  go_enter Tryz.func12, Tryz.ntmps12
  go_wp2_with fail
  refine (NW.out _ (Below.refl _ _)).mono ?_
  rintro e w1 ⟨er, i, vc, rfl, ho, h0, h1, hb1⟩
  have HO := hid ho
  have HB1 := hid hb1
  have H0 := hid h0
  have H1 := hid h1
  clear ho hb1 h0 h1 NW
  go_upto_region 2 with fail
  have HF2 := hid (heap_alloc_new w1 (.cells #[.int .i64 er, .int .i64 i] 45))
  have hb2 : Below w1.heap.size w1 (w1.alloc (.cells #[.int .i64 er, .int .i64 i] 45)) := (Below.refl _ _).alloc (Nat.le_refl _) _
  generalize w1.alloc (.cells #[.int .i64 er, .int .i64 i] 45) = w2 at *
  have HB2 := hid (HB1.out.then hb2)
  have HU2 := hid hb2
  clear hb2 HB1
  have f0 : w2.drew.cell? ⟨w1.heap.size, 0, none⟩ = some (.int .i64 er) := by show w2.cell? _ = _; rw [cell_of_row _ _ _ _ _ _ HF2.out]; rfl
  have f1 : w2.drew.cell? ⟨w1.heap.size, 1, none⟩ = some (.int .i64 i) := by show w2.cell? _ = _; rw [cell_of_row _ _ _ _ _ _ HF2.out]; rfl
  have S0 : w2.drew.cell? ⟨w1.heap.size, 0, none⟩ = some (.int .i64 er) ∧ w2.drew.cell? ⟨w1.heap.size, 1, none⟩ = some (.int .i64 i) ∧ Below w2.heap.size w2 w2.drew := ⟨f0, f1, (Below.refl _ _).drew⟩
  have KF : Hid (∀ W, (W.cell? ⟨w1.heap.size, 0, none⟩ = some (.int .i64 er) ∧ W.cell? ⟨w1.heap.size, 1, none⟩ = some (.int .i64 i) ∧ Below w2.heap.size w2 W) → Calls Tryz.prog 24 #[.slice ao D.length cp] W (fun e w' => e = .returned (.agg #[.int .i64 er, .int .i64 i]) ∧ (w'.cell? ⟨w1.heap.size, 0, none⟩ = some (.int .i64 er) ∧ w'.cell? ⟨w1.heap.size, 1, none⟩ = some (.int .i64 i) ∧ Below w2.heap.size w2 w'))) := fun W h => by
    refine (RF.out W (HB2.out.then h.2.2)).mono ?_
    rintro e w' ⟨er', i', rfl, ho', hb'⟩
    obtain ⟨rfl, rfl⟩ := made_one HO.out ho'
    have hlt := lt_of_block HF2.out
    exact ⟨rfl, (hb'.cell (p := ⟨w1.heap.size, 0, none⟩) (Nat.lt_of_lt_of_le hlt h.2.2.size)).trans h.1, (hb'.cell (p := ⟨w1.heap.size, 1, none⟩) (Nat.lt_of_lt_of_le hlt h.2.2.size)).trans h.2.1, h.2.2.then hb'⟩
  clear f0 f1
  by_cases her : er = 0
  · subst her
    have HC := hid (H0.out rfl)
    obtain ⟨bc, bm, n0, rfl, _, _, _⟩ := HC.out
    clear H0 H1
    go_region_held3 (fun W => W.cell? ⟨w1.heap.size, 0, none⟩ = some (.int .i64 (0 : Nat)) ∧ W.cell? ⟨w1.heap.size, 1, none⟩ = some (.int .i64 i) ∧ Below w2.heap.size w2 W) (first | with_reducible assumption) (first
      | (go_at_call 24; (with_reducible refine (KF.out _ (by assumption)).mono ?_); rintro e w' ⟨rfl, hs'⟩))
    have HU3 := hid (show Below w2.heap.size w2 w' from hs'.2.2)
    have HBN := hid (show badL [] D = none by
      rcases HO.out with h | h
      · rcases badL_err h with e | e <;> omega
      · exact h.1)
    clear S0 KF hs'
    go_wp2_with fail
    refine bodyPost_ret (v := .tuple #[.pointer (some ⟨bc, 0, none⟩), .bool true]) (by simp [results, Tryz.results12, go_sem]) rfl ?_
    exact ⟨_, rfl, Or.inl ⟨HBN.out, (HC.out.below HU2.out).below HU3.out⟩, HB2.out.then HU3.out⟩
  · have hne : ((er : Int) != 0) = true := by rw [bne_iff_ne]; omega
    have HV := H1.out her
    subst HV
    go_region_held3 (fun W => W.cell? ⟨w1.heap.size, 0, none⟩ = some (.int .i64 er) ∧ W.cell? ⟨w1.heap.size, 1, none⟩ = some (.int .i64 i) ∧ Below w2.heap.size w2 W) (first | with_reducible assumption) (first
      | (go_at_call 24; (with_reducible refine (KF.out _ (by assumption)).mono ?_); rintro e w' ⟨rfl, hs'⟩))
    have HU3 := hid (show Below w2.heap.size w2 w' from hs'.2.2)
    have HBN := hid (show badL [] D ≠ none by
      rcases HO.out with h | h
      · rw [h]; exact fun e => by cases e
      · exact absurd h.2.1 her)
    clear S0 KF hs'
    go_wp2_with fail
    refine bodyPost_ret (v := .tuple #[.pointer none, .bool true]) (by simp [results, Tryz.results12, go_sem]) rfl ?_
    exact ⟨_, rfl, Or.inr ⟨HBN.out, rfl⟩, HB2.out.then HU3.out⟩
end Go.Proofs.YtlmgmifaknlolaaGreat

/- The contract of the law's same, and the walk of the law LikelyNone. -/
set_option linter.unusedVariables false
set_option linter.unusedSimpArgs false
namespace Go.Proofs.YtlmgmifaknlolaaGreat
open Go.RowKit Go.Lib Go.Sort Go.Maps

set_option maxRecDepth 100000 in
set_option maxHeartbeats 8000000 in
theorem lsame_any (w : World) (va vb : Value) (a b : Tg) (ha : RdT w va a) (hb : RdT w vb b) :
    Calls Tryz.prog 16 #[va, vb] w fun e w' => e = .returned (.bool (sameB a b)) ∧ Below w.heap.size w w' := by
  have RS := hid (fun W (h : Below w.heap.size w W) => rsame_any W va vb a b (ha.below h) (hb.below h))
  obtain ⟨vv, kv, rfl, ⟨av, cv, rfl, hav, hsa⟩, ⟨ak, ck, rfl, hak, hpa⟩⟩ := ha
  obtain ⟨vv2, kv2, rfl, ⟨bv, dv, rfl, hbv, hsb⟩, ⟨bk, dk, rfl, hbk, hpb⟩⟩ := hb
  have HB0 := hid (below2 w (.cells (tagCells a (.slice av a.vars.length cv) (.slice ak a.keys.length ck)) 25) (.cells (tagCells b (.slice bv b.vars.length dv) (.slice bk b.keys.length dk)) 25))
  have HA0 := hid (heap_alloc2_old w (.cells (tagCells a (.slice av a.vars.length cv) (.slice ak a.keys.length ck)) 25) (.cells (tagCells b (.slice bv b.vars.length dv) (.slice bk b.keys.length dk)) 25))
  have HX0 := hid (heap_alloc2_new w (.cells (tagCells a (.slice av a.vars.length cv) (.slice ak a.keys.length ck)) 25) (.cells (tagCells b (.slice bv b.vars.length dv) (.slice bk b.keys.length dk)) 25))
  clear hav hsa hak hpa hbv hsb hbk hpb
  generalize hq : sameB a b = q at *
  clear hq
  simp only [tagCells, S] at *
  go_enter Tryz.func16, Tryz.ntmps16
  go_upto_region 1 with (fail)
  generalize ((w.alloc (.cells #[.string ⟨a.lang.toArray⟩, .string ⟨a.script.toArray⟩, .string ⟨a.region.toArray⟩, .slice av a.vars.length cv, .slice ak a.keys.length ck] 25)).alloc (.cells #[.string ⟨b.lang.toArray⟩, .string ⟨b.script.toArray⟩, .string ⟨b.region.toArray⟩, .slice bv b.vars.length dv, .slice bk b.keys.length dk] 25)) = w0 at *
  obtain ⟨c0, c1, c2, c3, c4⟩ := box_cells HA0.out
  obtain ⟨d0, d1, d2, d3, d4⟩ := box_cells HX0.out
  have ltx := lt_of_block HX0.out
  have lta := lt_of_block HA0.out
  go_wp2_with fail
  refine (RS.out _ HB0.out).mono ?_
  rintro e w1 ⟨rfl, hb1⟩
  go_wp2_with fail
  go_ret
  exact ⟨rfl, HB0.out.then hb1⟩

/-- a tag in a box that stands -/
theorem tag_row {w : World} {B b : Nat} {t : Tg} {a c : Option Addr} {n m : Nat} (own : OwnT w B (.agg #[.string ⟨t.lang.toArray⟩, .string ⟨t.script.toArray⟩, .string ⟨t.region.toArray⟩, .slice a t.vars.length n, .slice c t.keys.length m]) t) : RdT w (.agg #[.string ⟨t.lang.toArray⟩, .string ⟨t.script.toArray⟩, .string ⟨t.region.toArray⟩, .slice a t.vars.length n, .slice c t.keys.length m]) t := own.rd

set_option maxRecDepth 100000 in
set_option maxHeartbeats 8000000 in
theorem none_any (w : World) (va : Value) (t : Tg) (hT : RdT w va t) :
    Calls Tryz.prog 7 #[va] w fun e w' => e = .returned (.bool true) ∧ Below w.heap.size w w' := by
  have AD := hid (fun W (h : Below w.heap.size w W) => tadd_nil W va t (hT.below h))
  have RM := hid (fun W (h : Below w.heap.size w W) => trem_nil W va t (hT.below h))
  obtain ⟨vv, kv, rfl, hS, hP⟩ := hT
  obtain ⟨av, cv, rfl, _, _⟩ := hS
  obtain ⟨ak, ck, rfl, _, _⟩ := hP
  have HB0 := hid ((Below.refl w.heap.size w).alloc (Nat.le_refl _) (.cells #[.string ⟨t.lang.toArray⟩, .string ⟨t.script.toArray⟩, .string ⟨t.region.toArray⟩, .slice av t.vars.length cv, .slice ak t.keys.length ck] 25))
  have HX0 := hid (heap_alloc_new w (.cells #[.string ⟨t.lang.toArray⟩, .string ⟨t.script.toArray⟩, .string ⟨t.region.toArray⟩, .slice av t.vars.length cv, .slice ak t.keys.length ck] 25))
  simp only [tagCells, S] at *
  go_enter Tryz.func7, Tryz.ntmps7
  go_upto_region 1 with (fail)
  generalize w.alloc (.cells #[.string ⟨t.lang.toArray⟩, .string ⟨t.script.toArray⟩, .string ⟨t.region.toArray⟩, .slice av t.vars.length cv, .slice ak t.keys.length ck] 25) = w0 at *
  go_wp2_with fail
  refine (lwakes_any _).mono ?_
  rintro e w1 ⟨rfl, hb1⟩
  have HB1 := hid (HB0.out.then hb1)
  have HX1 := hid ((hb1.block _ (lt_of_block HX0.out)).trans HX0.out)
  clear hb1 HB0 HX0
  obtain ⟨c0, c1, c2, c3, c4⟩ := box_cells HX1.out
  have ltx := lt_of_block HX1.out
  go_wp2_with fail
  refine (AD.out _ HB1.out).mono ?_
  rintro e w2 ⟨v', rfl, own2, hb2⟩
  have HB2 := hid (HB1.out.then hb2)
  have HX2 := hid ((hb2.block _ (lt_of_block HX1.out)).trans HX1.out)
  obtain ⟨a1, e1, a2, e2, rfl⟩ := own2.shape
  have R2 := hid own2.rd
  clear hb2 HB1 HX1 own2 c0 c1 c2 c3 c4 ltx
  have R2' : Hid (RdT w2 (.agg #[.string ⟨#[]⟩, .string ⟨#[]⟩, .string ⟨#[]⟩, .slice a1 0 e1, .slice a2 0 e2]) Tg.zero) := R2
  clear R2
  simp only [Tg.zero]
  go_upto_region 5 with fail
  have HX3 := hid (heap_alloc_new w2 (.cells #[.string ⟨#[]⟩, .string ⟨#[]⟩, .string ⟨#[]⟩, .slice a1 0 e1, .slice a2 0 e2] 25))
  have hb3 : Below w2.heap.size w2 (w2.alloc (.cells #[.string ⟨#[]⟩, .string ⟨#[]⟩, .string ⟨#[]⟩, .slice a1 0 e1, .slice a2 0 e2] 25)) := (Below.refl _ _).alloc (Nat.le_refl _) _
  generalize w2.alloc (.cells #[.string ⟨#[]⟩, .string ⟨#[]⟩, .string ⟨#[]⟩, .slice a1 0 e1, .slice a2 0 e2] 25) = w3 at *
  have HB3 := hid (HB2.out.then hb3)
  have HT3 := hid ((hb3.block _ (lt_of_block HX2.out)).trans HX2.out)
  have R3 := hid (R2'.out.below hb3)
  clear hb3 HB2 HX2 R2'
  obtain ⟨c0, c1, c2, c3, c4⟩ := box_cells HT3.out
  have ltx := lt_of_block HT3.out
  go_wp2_with fail
  refine (RM.out _ HB3.out).mono ?_
  rintro e w4 ⟨v', rfl, own4, hb4⟩
  have HB4 := hid (HB3.out.then hb4)
  have HX4 := hid ((hb4.block _ (lt_of_block HX3.out)).trans HX3.out)
  have R4 := hid (R3.out.below hb4)
  obtain ⟨b1, g1, b2, g2, rfl⟩ := own4.shape
  have Q4 : Hid (RdT w4 (.agg #[.string ⟨#[]⟩, .string ⟨#[]⟩, .string ⟨#[]⟩, .slice b1 0 g1, .slice b2 0 g2]) Tg.zero) := hid own4.rd
  clear hb4 HB3 HX3 R3 own4 c0 c1 c2 c3 c4 ltx HT3
  simp only [Tg.zero]
  go_upto_region 6 with fail
  have HY5 := hid (heap_alloc_new w4 (.cells #[.string ⟨#[]⟩, .string ⟨#[]⟩, .string ⟨#[]⟩, .slice b1 0 g1, .slice b2 0 g2] 25))
  have hb5 : Below w4.heap.size w4 (w4.alloc (.cells #[.string ⟨#[]⟩, .string ⟨#[]⟩, .string ⟨#[]⟩, .slice b1 0 g1, .slice b2 0 g2] 25)) := (Below.refl _ _).alloc (Nat.le_refl _) _
  generalize w4.alloc (.cells #[.string ⟨#[]⟩, .string ⟨#[]⟩, .string ⟨#[]⟩, .slice b1 0 g1, .slice b2 0 g2] 25) = w5 at *
  have HB5 := hid (HB4.out.then hb5)
  have HX5 := hid ((hb5.block _ (lt_of_block HX4.out)).trans HX4.out)
  have R5 := hid (R4.out.below hb5)
  have Q5 := hid (Q4.out.below hb5)
  clear hb5 HB4 HX4 R4 Q4
  obtain ⟨c0, c1, c2, c3, c4⟩ := box_cells HX5.out
  obtain ⟨d0, d1, d2, d3, d4⟩ := box_cells HY5.out
  have ltx := lt_of_block HX5.out
  have lty := lt_of_block HY5.out
  have SA := hid (lsame_any w5 _ (.agg (tagCells Tg.zero vnil vnil)) _ _ R5.out (RdT.zero w5))
  have SB := hid (fun W (h : Below w5.heap.size w5 W) => lsame_any W _ (.agg (tagCells Tg.zero vnil vnil)) _ _ (Q5.out.below h) (RdT.zero W))
  rw [show sameB Tg.zero Tg.zero = true from rfl] at SA SB
  go_wp2_with fail
  refine SA.out.mono ?_
  rintro e w6 ⟨rfl, hb6⟩
  have HB6 := hid (HB5.out.then hb6)
  have HY6 := hid ((hb6.block _ (lt_of_block HY5.out)).trans HY5.out)
  have SB6 := hid (SB.out w6 hb6)
  clear hb6 SB SA HB5 c0 c1 c2 c3 c4 d0 d1 d2 d3 d4 ltx lty
  obtain ⟨d0, d1, d2, d3, d4⟩ := box_cells HY6.out
  have lty := lt_of_block HY6.out
  go_wp2_with fail
  refine SB6.out.mono ?_
  rintro e w7 ⟨rfl, hb7⟩
  have HB7 := hid (HB6.out.then hb7)
  clear hb7 HB6
  go_wp2_with fail
  refine (tsaid_nil _).mono ?_
  rintro e w8 ⟨rfl, hb8⟩
  go_wp2_with fail
  go_ret
  exact ⟨rfl, HB7.out.then hb8⟩
end Go.Proofs.YtlmgmifaknlolaaGreat

/- What the laws of likely have in common. -/
set_option linter.unusedVariables false
set_option linter.unusedSimpArgs false
namespace Go.Proofs.YtlmgmifaknlolaaGreat
open Go.RowKit Go.Lib Go.Sort Go.Maps

theorem cut_len (D : List (Str × Str)) : (cutF D).length ≤ 40 := by unfold cutF; rw [List.length_map, List.length_take]; omega
theorem cut_sz (D : List (Str × Str)) : PSz (cutF D) := by
  intro p hp
  obtain ⟨q, _, rfl⟩ := List.mem_map.1 hp
  unfold cut60 maxLen
  simp only [List.length_take]
  omega
theorem short_sz (t : Tg) : szT (shortF t) ≤ szT t := by
  have h1 : ∀ (l : List Str) n, sz (l.take n) ≤ sz l := fun l n => by
    conv => rhs; rw [← List.take_append_drop n l, sz_append]
    omega
  have h2 : sz ((t.keys.take 20).flatMap pairParts) ≤ sz (t.keys.flatMap pairParts) := by
    conv => rhs; rw [← List.take_append_drop 20 t.keys, List.flatMap_append, sz_append]
    omega
  have h3 := h1 t.vars 12
  unfold szT shortF
  simp only
  omega
theorem short_vars (t : Tg) : (shortF t).vars.length ≤ 1000 := by unfold shortF; simp only [List.length_take]; omega
theorem short_keys (t : Tg) : (shortF t).keys.length ≤ 1000 := by unfold shortF; simp only [List.length_take]; omega
/-- the law's state when the pairs are cut and the tag is cut short -/
structure LawSt (w : World) (D : List (Str × Str)) (t : Tg) (vv kv va : Value) (W : World) : Prop where
  own : OwnP W (w.heap.size + 1) va (cutF D)
  bt : W.heap[w.heap.size]? = some (.cells (tagCells t vv kv) 25 (0, 0))
  bel : Below w.heap.size w W
theorem LawSt.below {w W W' : World} {D : List (Str × Str)} {t : Tg} {vv kv va : Value} (h : LawSt w D t vv kv va W) (hb : Below W.heap.size W W') : LawSt w D t vv kv va W' :=
  ⟨own_below h.own hb, (hb.block _ (lt_of_block h.bt)).trans h.bt, h.bel.then hb⟩
/-- ahead of the region: the tag is as it came; the two contracts there -/
structure LawS0 (w : World) (t : Tg) (vv kv : Value) (W : World) : Prop where
  bt : W.heap[w.heap.size]? = some (.cells (tagCells t vv kv) 25 (0, 0))
  bel : Below w.heap.size w W
theorem LawS0.below {w W W' : World} {t : Tg} {vv kv : Value} (h : LawS0 w t vv kv W) (hb : Below W.heap.size W W') : LawS0 w t vv kv W' :=
  ⟨(hb.block _ (lt_of_block h.bt)).trans h.bt, h.bel.then hb⟩
theorem cut_at {w W : World} {t : Tg} {vv kv va : Value} {D : List (Str × Str)} (h : LawS0 w t vv kv W) (hl : RdP w va D) (hp : PSz D) :
    Calls Tryz.prog 10 #[va] W fun e w' => ∃ a c, e = .returned (.slice a (cutF D).length c) ∧ OwnP w' (w.heap.size + 1) (.slice a (cutF D).length c) (cutF D) ∧ LawS0 w t vv kv w' ∧ (w'.cell? ⟨w.heap.size, 0, none⟩ = some (S t.lang) ∧ w'.cell? ⟨w.heap.size, 1, none⟩ = some (S t.script) ∧ w'.cell? ⟨w.heap.size, 2, none⟩ = some (S t.region) ∧ w'.cell? ⟨w.heap.size, 3, none⟩ = some vv ∧ w'.cell? ⟨w.heap.size, 4, none⟩ = some kv) :=
  (cut_any W va D (hl.below h.bel) hp).mono (by
    rintro e w' ⟨v', rfl, own, hb⟩
    obtain ⟨a, c, rfl⟩ := own_sliceP own
    have h2 := h.below hb
    exact ⟨a, c, rfl, ownP_mono own (Nat.succ_le_of_lt (lt_of_block h.bt)), h2, box_cells h2.bt⟩)
theorem short_at {w W : World} {t : Tg} {av ak : Option Addr} {cv ck : Nat} (h : LawS0 w t (.slice av t.vars.length cv) (.slice ak t.keys.length ck) W) (hcv : t.vars.length ≤ cv) (hck : t.keys.length ≤ ck) :
    Calls Tryz.prog 11 #[.agg #[.string ⟨t.lang.toArray⟩, .string ⟨t.script.toArray⟩, .string ⟨t.region.toArray⟩, .slice av t.vars.length cv, .slice ak t.keys.length ck]] W fun e w' => e = .returned (.agg #[.string ⟨t.lang.toArray⟩, .string ⟨t.script.toArray⟩, .string ⟨t.region.toArray⟩, .slice av (t.vars.take 12).length cv, .slice ak (t.keys.take 20).length ck]) ∧
      (∀ D v, OwnP W (w.heap.size + 1) v (cutF D) → OwnP w' (w.heap.size + 1) v (cutF D)) ∧ LawS0 w t (.slice av t.vars.length cv) (.slice ak t.keys.length ck) w' ∧ ((w'.cell? ⟨w.heap.size, 0, none⟩ = some (S t.lang) ∧ w'.cell? ⟨w.heap.size, 1, none⟩ = some (S t.script) ∧ w'.cell? ⟨w.heap.size, 2, none⟩ = some (S t.region) ∧ w'.cell? ⟨w.heap.size, 3, none⟩ = some (.slice av t.vars.length cv) ∧ w'.cell? ⟨w.heap.size, 4, none⟩ = some (.slice ak t.keys.length ck)) ∧ (w'.frozen? ⟨w.heap.size, 0, none⟩ = false ∧ w'.frozen? ⟨w.heap.size, 1, none⟩ = false ∧ w'.frozen? ⟨w.heap.size, 2, none⟩ = false ∧ w'.frozen? ⟨w.heap.size, 3, none⟩ = false ∧ w'.frozen? ⟨w.heap.size, 4, none⟩ = false ∧ w.heap.size < w'.heap.size)) :=
  (short_any W t av ak cv ck hcv hck).mono (by
    rintro e w' ⟨rfl, hb⟩
    have h2 := h.below hb
    exact ⟨rfl, fun D v o => own_below o hb, h2, box_cells h2.bt, frozen_of_row w' _ 0 _ _ h2.bt, frozen_of_row w' _ 1 _ _ h2.bt, frozen_of_row w' _ 2 _ _ h2.bt, frozen_of_row w' _ 3 _ _ h2.bt, frozen_of_row w' _ 4 _ _ h2.bt, lt_of_block h2.bt⟩)
theorem law_end {w W : World} {t : Tg} {va : Value} {D : List (Str × Str)} {av ak : Option Addr} {cv ck : Nat} (h : LawS0 w t (.slice av t.vars.length cv) (.slice ak t.keys.length ck) W) (own : OwnP W (w.heap.size + 1) va (cutF D)) :
    LawSt w D (shortF t) (.slice av (t.vars.take 12).length cv) (.slice ak (t.keys.take 20).length ck) va (P5 W w.heap.size (.string ⟨t.lang.toArray⟩) (.string ⟨t.script.toArray⟩) (.string ⟨t.region.toArray⟩) (.slice av (t.vars.take 12).length cv) (.slice ak (t.keys.take 20).length ck)) :=
  ⟨P5_own _ _ _ _ _ own (fun e => by have := (World.ownsRow.lt own _ e).1; omega), P5_row _ _ _ _ _ h.bt, P5_below _ _ _ _ _ h.bel (Nat.le_refl _)⟩
theorem own_capP {w : World} {B n c : Nat} {a : Option Addr} {l : List (Str × Str)} (h : OwnP w B (.slice a n c) l) : l.length ≤ c := by
  rcases h.shape with ⟨_, rfl⟩ | ⟨g, cap, cur, e, _, _, hn, _⟩
  · exact Nat.zero_le _
  · cases e; exact hn
end Go.Proofs.YtlmgmifaknlolaaGreat
