/- Several texts in one: OpenT, LkHelp, LkMade, LkNone, LkLaw, AppP, LkMapJ, LkSaid. (joined by wip/merge.py) -/
import Derived.Test.YtlmgmifaknlolaaGreatRows
import Derived.Test.YtlmgmifaknlolaaGreatOpen
import Derived.Test.YtlmgmifaknlolaaGreatNC
import Derived.Deep.LoopGhost
import Derived.Deep.CutBlock
import Derived.Deep.AppendLies
import Derived.Deep.RegionHeld3
import Derived.BigQuiet
import Derived.IntWalk
import Derived.WalkSmall
import Derived.Test.YtlmgmifaknlolaaGreatND
import Derived.Test.YtlmgmifaknlolaaGreatNB
import Derived.Test.YtlmgmifaknlolaaGreatRefSame
import Derived.Test.YtlmgmifaknlolaaGreatNA
import Derived.Test.YtlmgmifaknlolaaGreatShelfM
import Derived.Maps.RangeWalk
import Derived.Sort.KeysCollected
import Derived.Test.YtlmgmifaknlolaaGreatRefList

/- A tag, a list of pairs that came in: what is read, that it lies in its room, and how great it is. -/
set_option linter.unusedVariables false
set_option linter.unusedSimpArgs false
namespace Go.Proofs.YtlmgmifaknlolaaGreat
open Go.RowKit Go.Lib Go.Sort Go.ChangeShapes Go.WideShapes

theorem bulkAll_strs {H : Type} (l : List ByteArray) : sz (l.map fun s => s.data.toList) ≤ Rows.uptoBulkAll (strs (H := H) l) := by
  induction l with
  | nil => exact Nat.le_refl _
  | cons s l ih =>
    rw [List.map_cons, sz_cons]
    show _ ≤ Rows.uptoBulkAll ((DataW.lit (.string s.data.toList) : DataW H) :: strs l)
    simp only [Rows.uptoBulkAll, Rows.uptoBulk]
    omega
theorem sz_pairs (p : Str × Str) : sz (pairParts p) ≤ p.1.length + p.2.length + 2 := by
  unfold pairParts
  split <;> simp only [sz_cons, sz_nil] <;> omega
theorem bulkAll_pairs {H : Type} (l : List (Str × Str)) : sz (l.flatMap pairParts) ≤ Rows.uptoBulkAll (l.map fun p => (DataW.agg [.lit (.string p.1), .lit (.string p.2)] : DataW H)) := by
  induction l with
  | nil => exact Nat.le_refl _
  | cons p l ih =>
    rw [List.map_cons, List.flatMap_cons, sz_append]
    have := sz_pairs p
    simp only [Rows.uptoBulkAll, Rows.uptoBulk]
    omega
theorem bulk_len {H : Type} (l : List (Str × Str)) : l.length ≤ Rows.uptoBulkAll (l.map fun p => (DataW.agg [.lit (.string p.1), .lit (.string p.2)] : DataW H)) := by
  induction l with
  | nil => exact Nat.le_refl _
  | cons p l ih =>
    rw [List.map_cons, List.length_cons]
    simp only [Rows.uptoBulkAll, Rows.uptoBulk]
    omega

section
variable {H : Type} {enc : TypeId × Value → H} {w : World} {base : Nat} {spare : Nat → Bool} {held : Bool}

set_option maxRecDepth 100000 in
theorem open_rdS2 {fuel : Nat} {cs : List Value} {x : DataW H × List MemPlace} (h : DataW.trod enc Tryz.prog w base spare held fuel 23 cs = some x) :
    ∃ ao n cp l, cs = [.slice ao n cp] ∧ RdS w (.slice ao n cp) l ∧ n ≤ cp ∧ sz l ≤ Rows.uptoBulk x.1 := by
  rcases open_strings Tryz.underlying23 Tryz.underlying9 (by kernel_rfl) h with ⟨rfl, _⟩ | ⟨a, len, cap, ss, rfl, hb, hl, hm, hz, hx, hcell, hsz⟩
  · exact ⟨none, 0, 0, [], rfl, RdS.nil w, Nat.le_refl _, Nat.zero_le _⟩
  · have hle : len ≤ ss.length := by rw [hz]; split <;> omega
    have hlen : ((ss.take len).map (fun s : ByteArray => s.data.toList)).length = len := by simp; omega
    refine ⟨some a, len, cap, (ss.take len).map (fun s => s.data.toList), rfl, ⟨some a, cap, by rw [hlen], ⟨by rw [hlen]; unfold maxLen at hm; omega, fun e => by cases e⟩, fun hne => ?_⟩, hl, ?_⟩
    · have h0 : 0 < len := by
        rcases Nat.eq_zero_or_pos len with h0 | h0
        · subst h0; simp at hne
        · exact h0
      have c0 := hcell 0 (by omega)
      rw [show a.add 0 = a from by unfold Addr.add; simp] at c0
      obtain ⟨hs, hlt⟩ := spot_of_cell c0
      obtain ⟨b, off, sp⟩ := a
      simp only at hs hlt
      subst hs
      refine ⟨b, off, rfl, hlt, fun j y hy => ?_⟩
      rw [List.getElem?_map, List.getElem?_take] at hy
      split at hy
      · rename_i hj
        have hc := hcell j (by omega)
        rw [add_of] at hc
        rw [hc, List.getD]
        cases hq : ss[j]? with
        | none => rw [hq] at hy; simp at hy
        | some s => rw [hq] at hy; simp at hy; subst hy; simp [S_of]
      · simp at hy
    · rw [hx]
      have := bulkAll_strs (H := H) (ss.take len)
      simp only [Rows.uptoBulk]
      omega

set_option maxRecDepth 100000 in
theorem open_pair2 {n : Nat} {cs : List Value} {y : DataW H × List MemPlace} (h : DataW.trod enc Tryz.prog w base spare held n 42 cs = some y) :
    ∃ p : Str × Str, cs = enc2 p ∧ (p.1.length ≤ maxLen ∧ p.2.length ≤ maxLen) ∧ y.1 = .agg [.lit (.string p.1), .lit (.string p.2)] := by
  obtain ⟨y0, y1, m, hy, hl, h0, h1⟩ := trod_struct2 Tryz.underlying42 h
  have hC : Tryz.prog.cellsOf 42 = 2 := by kernel_rfl
  have hD : Tryz.prog.cellsOf 9 = 1 := by kernel_rfl
  rw [hC] at hl
  obtain ⟨c0, c1, rfl⟩ := list2 hl
  simp only [hD, List.drop_zero, List.drop_succ_cons, List.take_succ_cons, List.take_zero] at h0 h1
  obtain ⟨s0, e0, f0, z0⟩ := DataW.trod_string Tryz.underlying9 h0
  obtain ⟨s1, e1, f1, z1⟩ := DataW.trod_string Tryz.underlying9 h1
  simp only [List.cons.injEq, and_true] at e0 e1
  subst e0; subst e1
  exact ⟨(s0.data.toList, s1.data.toList), by rw [S_of s0, S_of s1]; rfl, ⟨z0, z1⟩, by rw [hy, f0, f1]⟩

set_option maxRecDepth 100000 in
theorem open_rdP2 {fuel : Nat} {cs : List Value} {x : DataW H × List MemPlace} (h : DataW.trod enc Tryz.prog w base spare held fuel 22 cs = some x) :
    ∃ ao n cp l, cs = [.slice ao n cp] ∧ RdP w (.slice ao n cp) l ∧ n ≤ cp ∧ PSz l ∧ sz (l.flatMap pairParts) ≤ Rows.uptoBulk x.1 ∧ l.length ≤ Rows.uptoBulk x.1 := by
  rcases DataW.trod_slice Tryz.underlying22 h with ⟨rfl, _⟩ | ⟨a, len, cap, elems, rest, n, _, rfl, hx, hb, hl, hm, hlen, hel, _, _⟩
  · exact ⟨none, 0, 0, [], rfl, RdP.nil w, Nat.le_refl _, (fun p hp => by cases hp), Nat.zero_le _, Nat.zero_le _⟩
  · have hC : Tryz.prog.cellsOf 42 = 2 := by kernel_rfl
    rw [hC] at hel
    have key : ∀ i, i < len → ∃ p : Str × Str, w.cells? base (a.add (i * 2)) 2 = some (enc2 p) ∧ (p.1.length ≤ maxLen ∧ p.2.length ≤ maxLen) ∧ (elems[i]?).map (·.1) = some (.agg [.lit (.string p.1), .lit (.string p.2)]) := by
      intro i hi
      have hy := hel i hi
      rw [List.getElem?_eq_getElem (by omega), Option.bind_eq_some_iff] at hy
      obtain ⟨cs', hcs, hy'⟩ := hy
      obtain ⟨p, rfl, hp, hq⟩ := open_pair2 hy'
      exact ⟨p, hcs, hp, by rw [List.getElem?_eq_getElem (by omega), Option.map_some, hq]⟩
    have hex : ∃ f : Nat → Str × Str, ∀ i, i < len → w.cells? base (a.add (i * 2)) 2 = some (enc2 (f i)) ∧ ((f i).1.length ≤ maxLen ∧ (f i).2.length ≤ maxLen) ∧ (elems[i]?).map (·.1) = some (.agg [.lit (.string (f i).1), .lit (.string (f i).2)]) := by
      refine ⟨fun i => if h : i < len then (key i h).choose else ([], []), fun i hi => ?_⟩
      simp only [hi, dif_pos]
      exact (key i hi).choose_spec
    obtain ⟨f, hf⟩ := hex
    have hlen2 : ((List.range len).map f).length = len := by simp
    have hmap : elems.map (·.1) = ((List.range len).map f).map fun p => (DataW.agg [.lit (.string p.1), .lit (.string p.2)] : DataW H) := by
      refine List.ext_getElem? fun i => ?_
      by_cases hi : i < len
      · have h3 := (hf i hi).2.2
        rw [List.getElem?_map, h3, List.getElem?_map, List.getElem?_map, List.getElem?_range hi]
        rfl
      · rw [List.getElem?_eq_none (by rw [List.length_map]; omega), List.getElem?_eq_none (by rw [List.length_map, hlen2]; omega)]
    refine ⟨some a, len, cap, (List.range len).map f, rfl, ⟨some a, cap, by rw [hlen2], ⟨by rw [hlen2]; unfold maxLen at hm; omega, fun e => by cases e⟩, fun hne => ?_⟩, hl, (fun p hp => ?_), ?_, ?_⟩
    · have h0 : 0 < len := by
        rcases Nat.eq_zero_or_pos len with h0 | h0
        · subst h0; simp at hne
        · exact h0
      have c0 := (World.cells?_some (hf 0 h0).1).2.2 0 (by omega)
      rw [show (a.add (0 * 2)).add 0 = a from by unfold Addr.add; simp] at c0
      obtain ⟨hs, hlt⟩ := spot_of_cell c0
      obtain ⟨b, off, sp⟩ := a
      simp only at hs hlt
      subst hs
      refine ⟨b, off, rfl, hlt, fun j i y hj hy => ?_⟩
      rw [hlen2] at hj
      have hc := (World.cells?_some (hf j hj).1)
      have hi : i < 2 := by have := (List.getElem?_eq_some_iff.1 hy).1; simpa [enc2] using this
      have hci := hc.2.2 i hi
      rw [add_of, add_of] at hci
      rw [hci]
      simpa using hy
    · obtain ⟨i, hi, rfl⟩ := List.mem_map.1 hp
      exact (hf i (by simpa using hi)).2.1
    · have := bulkAll_pairs (H := H) ((List.range len).map f)
      rw [hx]
      simp only [Rows.uptoBulk]
      rw [hmap]
      omega
    · have := bulk_len (H := H) ((List.range len).map f)
      rw [hx]
      simp only [Rows.uptoBulk]
      rw [hmap]
      omega

/-- a tag that came in, in its room -/
def CapT (v : Value) : Prop := ∀ a b c d e n m, v = .agg #[a, b, c, .slice d n m, e] → n ≤ m
def RdTc (w : World) (v : Value) (t : Tg) : Prop := ∃ a c b d, v = .agg (tagCells t (.slice a t.vars.length c) (.slice b t.keys.length d)) ∧ RdS w (.slice a t.vars.length c) t.vars ∧ RdP w (.slice b t.keys.length d) t.keys ∧ t.vars.length ≤ c ∧ t.keys.length ≤ d
theorem RdTc.rd {w : World} {v : Value} {t : Tg} (h : RdTc w v t) : RdT w v t := by
  obtain ⟨a, c, b, d, hv, h1, h2, _, _⟩ := h
  exact ⟨_, _, hv, h1, h2⟩
theorem RdTc.below {w w' : World} {v : Value} {t : Tg} (h : RdTc w v t) (hb : Below w.heap.size w w') : RdTc w' v t := by
  obtain ⟨a, c, b, d, hv, h1, h2, h3, h4⟩ := h
  exact ⟨a, c, b, d, hv, h1.below hb, h2.below hb, h3, h4⟩

set_option maxRecDepth 100000 in
theorem open_tag2 {r : Reach} {b0 : Nat} {v : Value} {d : DataW H} {p : List MemPlace} (hv : Value.okWide Tryz.prog w r b0 25 v) (h : DataW.Trod enc Tryz.prog w base spare held 25 v d p) : ∃ t : Tg, RdTc w v t ∧ szT t ≤ Rows.uptoBulk d + 16 := by
  obtain ⟨cs, rfl, hsz⟩ := okWide_struct Tryz.underlying25 hv
  obtain ⟨fuel, hf⟩ := h
  have hC : Tryz.prog.cellsOf 25 = 5 := by kernel_rfl
  have hD : Tryz.prog.cellsOf 9 = 1 := by kernel_rfl
  have hE : Tryz.prog.cellsOf 23 = 1 := by kernel_rfl
  have hF : Tryz.prog.cellsOf 22 = 1 := by kernel_rfl
  rw [hC] at hsz
  obtain ⟨c0, c1, c2, c3, c4, rfl⟩ := array5 hsz
  obtain ⟨xs, n, _, hd, _, hlen, hfs⟩ := DataW.trod_struct Tryz.underlying25 hf
  have g0 := hfs 0 _ rfl
  have g1 := hfs 1 _ rfl
  have g2 := hfs 2 _ rfl
  have g3 := hfs 3 _ rfl
  have g4 := hfs 4 _ rfl
  have hx : xs.length = 5 := hlen
  obtain ⟨x0, x1, x2, x3, x4, rfl⟩ : ∃ x0 x1 x2 x3 x4, xs = [x0, x1, x2, x3, x4] := by
    match xs, hx with
    | [a, b, c, d, e], _ => exact ⟨a, b, c, d, e, rfl⟩
  simp only [Value.cells, hD, hE, hF, List.drop_zero, List.drop_succ_cons, List.take_succ_cons, List.take_zero, List.getElem?_cons_zero, List.getElem?_cons_succ] at g0 g1 g2 g3 g4
  obtain ⟨s0, e0, f0, _⟩ := DataW.trod_string Tryz.underlying9 g0
  obtain ⟨s1, e1, f1, _⟩ := DataW.trod_string Tryz.underlying9 g1
  obtain ⟨s2, e2, f2, _⟩ := DataW.trod_string Tryz.underlying9 g2
  obtain ⟨a3, n3, p3, l3, e3, r3, k3, z3⟩ := open_rdS2 g3
  obtain ⟨a4, n4, p4, l4, e4, r4, k4, _, z4, _⟩ := open_rdP2 g4
  obtain rfl := List.head_eq_of_cons_eq e0
  obtain rfl := List.head_eq_of_cons_eq e1
  obtain rfl := List.head_eq_of_cons_eq e2
  obtain rfl := List.head_eq_of_cons_eq e3
  obtain rfl := List.head_eq_of_cons_eq e4
  obtain ⟨_, _, h3, _, _⟩ := id r3
  obtain ⟨_, _, h4, _, _⟩ := id r4
  cases h3
  cases h4
  refine ⟨⟨s0.data.toList, s1.data.toList, s2.data.toList, l3, l4⟩, ⟨a3, p3, a4, p4, ?_, r3, r4, k3, k4⟩, ?_⟩
  · rw [S_of s0, S_of s1, S_of s2]; rfl
  · have hdd : d = .agg [x0.1, x1.1, x2.1, x3.1, x4.1] := (Prod.mk.inj hd).1
    rw [hdd, f0, f1, f2]
    unfold szT
    simp only [Rows.uptoBulk, Rows.uptoBulkAll]
    omega
end
end Go.Proofs.YtlmgmifaknlolaaGreat

/- The contracts of the law's short and cut. -/
set_option linter.unusedVariables false
set_option linter.unusedSimpArgs false
namespace Go.Proofs.YtlmgmifaknlolaaGreat
open Go.RowKit Go.Lib Go.Sort

def shortF (t : Tg) : Tg := { t with vars := t.vars.take 12, keys := t.keys.take 20 }

theorem rdS_takeN {w : World} {ao : Option Addr} {cp k : Nat} {l : List Str} (h : RdS w (.slice ao l.length cp) l) (hk : k ≤ l.length) : RdS w (.slice ao k cp) (l.take k) := by
  obtain ⟨ao', cp', hv, hl, hr⟩ := h
  cases hv
  have hlen : (l.take k).length = k := by rw [List.length_take]; omega
  refine ⟨ao, cp, by rw [hlen], ⟨by rw [hlen]; omega, fun e => ⟨by rw [(hl.2 e).1]; simp, (hl.2 e).2⟩⟩, fun hne => ?_⟩
  have hne2 : l ≠ [] := fun e => hne (by rw [e]; simp)
  obtain ⟨b, off, h1, h2, h3⟩ := hr hne2
  refine ⟨b, off, h1, h2, fun j x hx => h3 j x ?_⟩
  rw [List.getElem?_take] at hx
  split at hx
  · exact hx
  · cases hx
theorem rdP_takeN {w : World} {ao : Option Addr} {cp k : Nat} {l : List (Str × Str)} (h : RdP w (.slice ao l.length cp) l) (hk : k ≤ l.length) : RdP w (.slice ao k cp) (l.take k) := by
  obtain ⟨ao', cp', hv, hl, hr⟩ := h
  cases hv
  have hlen : (l.take k).length = k := by rw [List.length_take]; omega
  refine ⟨ao, cp, by rw [hlen], ⟨by rw [hlen]; omega, fun e => ⟨by rw [(hl.2 e).1]; simp, (hl.2 e).2⟩⟩, fun hne => ?_⟩
  have hne2 : l ≠ [] := fun e => hne (by rw [e]; simp)
  obtain ⟨b, off, h1, h2, h3⟩ := hr hne2
  refine ⟨b, off, h1, h2, fun j i x hj hx => h3 j i x (by omega) ?_⟩
  rw [List.getElem_take] at hx
  exact hx
theorem take_min {α : Type} (l : List α) (n : Nat) : l.take (min (l.length : Int) n).toNat = l.take n := by
  have : (min (l.length : Int) n).toNat = min l.length n := by omega
  rw [this, Nat.min_comm, List.take_eq_take_iff]
  omega

set_option maxRecDepth 100000 in
set_option maxHeartbeats 8000000 in
theorem short_any (w : World) (t : Tg) (av ak : Option Addr) (cv ck : Nat) (hcv : t.vars.length ≤ cv) (hck : t.keys.length ≤ ck) :
    Calls Tryz.prog 11 #[.agg (tagCells t (.slice av t.vars.length cv) (.slice ak t.keys.length ck))] w fun e w' => e = .returned (.agg (tagCells (shortF t) (.slice av (t.vars.take 12).length cv) (.slice ak (t.keys.take 20).length ck))) ∧ Below w.heap.size w w' := by
  have HX0 := hid (heap_alloc2_old w (.cells #[.string ⟨t.lang.toArray⟩, .string ⟨t.script.toArray⟩, .string ⟨t.region.toArray⟩, .slice av t.vars.length cv, .slice ak t.keys.length ck] 25) (.cells #[.string ⟨#[]⟩, .string ⟨#[]⟩, .string ⟨#[]⟩, .slice none 0 0, .slice none 0 0] 25))
  have HZ0 := hid (heap_alloc2_new w (.cells #[.string ⟨t.lang.toArray⟩, .string ⟨t.script.toArray⟩, .string ⟨t.region.toArray⟩, .slice av t.vars.length cv, .slice ak t.keys.length ck] 25) (.cells #[.string ⟨#[]⟩, .string ⟨#[]⟩, .string ⟨#[]⟩, .slice none 0 0, .slice none 0 0] 25))
  have HB0 := hid (below2 w (.cells #[.string ⟨t.lang.toArray⟩, .string ⟨t.script.toArray⟩, .string ⟨t.region.toArray⟩, .slice av t.vars.length cv, .slice ak t.keys.length ck] 25) (.cells #[.string ⟨#[]⟩, .string ⟨#[]⟩, .string ⟨#[]⟩, .slice none 0 0, .slice none 0 0] 25))
  simp only [tagCells, S]
  go_enter Tryz.func11, Tryz.ntmps11
  go_upto_region 1 with (fail)
  generalize ((w.alloc (.cells #[.string ⟨t.lang.toArray⟩, .string ⟨t.script.toArray⟩, .string ⟨t.region.toArray⟩, .slice av t.vars.length cv, .slice ak t.keys.length ck] 25)).alloc (.cells #[.string ⟨#[]⟩, .string ⟨#[]⟩, .string ⟨#[]⟩, .slice none 0 0, .slice none 0 0] 25)) = w0 at *
  obtain ⟨c0, c1, c2, c3, c4⟩ := box_cells HX0.out
  have lt0 := lt_of_block HX0.out
  have fx3 := frozen_of_row w0 w.heap.size 3 _ _ HX0.out
  have fx4 := frozen_of_row w0 w.heap.size 4 _ _ HX0.out
  have hx1 : ((w0.setCell ⟨w.heap.size, 3, none⟩ (.slice av (min (t.vars.length : Int) 12).toNat cv)).setCell ⟨w.heap.size, 4, none⟩ (.slice ak (min (t.keys.length : Int) 20).toNat ck)).heap[w.heap.size]? = some (.cells #[.string ⟨t.lang.toArray⟩, .string ⟨t.script.toArray⟩, .string ⟨t.region.toArray⟩, .slice av (min (t.vars.length : Int) 12).toNat cv, .slice ak (min (t.keys.length : Int) 20).toNat ck] 25 (0, 0)) := by
    rw [heap_setCell_same _ _ _ _ _ _ (heap_setCell_same _ _ _ _ _ _ HX0.out)]; simp
  have hz1 : ((w0.setCell ⟨w.heap.size, 3, none⟩ (.slice av (min (t.vars.length : Int) 12).toNat cv)).setCell ⟨w.heap.size, 4, none⟩ (.slice ak (min (t.keys.length : Int) 20).toNat ck)).heap[w.heap.size + 1]? = some (.cells #[.string ⟨#[]⟩, .string ⟨#[]⟩, .string ⟨#[]⟩, .slice none 0 0, .slice none 0 0] 25 (0, 0)) := by
    rw [heap_setCell_other _ _ _ _ (by simp), heap_setCell_other _ _ _ _ (by simp)]; exact HZ0.out
  have hb1 : Below w.heap.size w ((w0.setCell ⟨w.heap.size, 3, none⟩ (.slice av (min (t.vars.length : Int) 12).toNat cv)).setCell ⟨w.heap.size, 4, none⟩ (.slice ak (min (t.keys.length : Int) 20).toNat ck)) := (HB0.out.setCell (by simp) _).setCell (by simp) _
  have HX1 := hid hx1
  have HZ1 := hid hz1
  have HB1 := hid hb1
  clear hx1 hz1 hb1
  go_upto_region 3 with (fail)
  generalize ((w0.setCell ⟨w.heap.size, 3, none⟩ (.slice av (min (t.vars.length : Int) 12).toNat cv)).setCell ⟨w.heap.size, 4, none⟩ (.slice ak (min (t.keys.length : Int) 20).toNat ck)) = w1 at *
  have hk1 : (min (t.vars.length : Int) 12).toNat = (t.vars.take 12).length := by rw [List.length_take]; omega
  have hk2 : (min (t.keys.length : Int) 20).toNat = (t.keys.take 20).length := by rw [List.length_take]; omega
  clear c0 c1 c2 c3 c4 lt0 fx3 fx4 HB0 HX0 HZ0
  generalize (min (t.vars.length : Int) 12).toNat = k1 at *
  generalize (min (t.keys.length : Int) 20).toNat = k2 at *
  obtain ⟨c0, c1, c2, c3, c4⟩ := box_cells HX1.out
  obtain ⟨d0, d1, d2, d3, d4⟩ := box_cells HZ1.out
  have lt0 := lt_of_block HX1.out
  have ltz := lt_of_block HZ1.out
  have fz0 := frozen_of_row w1 (w.heap.size + 1) 0 _ _ HZ1.out
  have fz1 := frozen_of_row w1 (w.heap.size + 1) 1 _ _ HZ1.out
  have fz2 := frozen_of_row w1 (w.heap.size + 1) 2 _ _ HZ1.out
  have fz3 := frozen_of_row w1 (w.heap.size + 1) 3 _ _ HZ1.out
  have fz4 := frozen_of_row w1 (w.heap.size + 1) 4 _ _ HZ1.out
  have HK1 := hid hk1
  have HK2 := hid hk2
  clear hk1 hk2
  go_wp2_with fail
  have hr := P5_row (.string ⟨t.lang.toArray⟩) (.string ⟨t.script.toArray⟩) (.string ⟨t.region.toArray⟩) (.slice av k1 cv) (.slice ak k2 ck) HZ1.out
  have hw := P5_below (.string ⟨t.lang.toArray⟩) (.string ⟨t.script.toArray⟩) (.string ⟨t.region.toArray⟩) (.slice av k1 cv) (.slice ak k2 ck) HB1.out (Nat.le_succ w.heap.size)
  clear c0 c1 c2 c3 c4 d0 d1 d2 d3 d4 fz0 fz1 fz2 fz3 fz4 lt0 ltz
  change bodyPost _ _ _ _ _ (P5 w1 (w.heap.size + 1) (.string ⟨t.lang.toArray⟩) (.string ⟨t.script.toArray⟩) (.string ⟨t.region.toArray⟩) (.slice av k1 cv) (.slice ak k2 ck))
  generalize P5 w1 (w.heap.size + 1) (.string ⟨t.lang.toArray⟩) (.string ⟨t.script.toArray⟩) (.string ⟨t.region.toArray⟩) (.slice av k1 cv) (.slice ak k2 ck) = V at *
  obtain ⟨d0, d1, d2, d3, d4⟩ := box_cells hr
  refine bodyPost_ret (v := .agg #[.string ⟨t.lang.toArray⟩, .string ⟨t.script.toArray⟩, .string ⟨t.region.toArray⟩, .slice av k1 cv, .slice ak k2 ck]) (by simp [results, Tryz.results11, go_sem, d0, d1, d2, d3, d4]) rfl ⟨?_, hw⟩
  rw [HK1.out, HK2.out]; rfl
theorem RdTc.short {w : World} {t : Tg} {av ak : Option Addr} {cv ck : Nat} (h : RdTc w (.agg (tagCells t (.slice av t.vars.length cv) (.slice ak t.keys.length ck))) t) : RdTc w (.agg (tagCells (shortF t) (.slice av (t.vars.take 12).length cv) (.slice ak (t.keys.take 20).length ck))) (shortF t) := by
  obtain ⟨a, c, b, d, hv, hS, hP, hc, hd⟩ := h
  have hl1 : (t.vars.take 12).length ≤ t.vars.length := by rw [List.length_take]; omega
  have hl2 : (t.keys.take 20).length ≤ t.keys.length := by rw [List.length_take]; omega
  simp only [tagCells, Value.agg.injEq, Array.mk.injEq, List.cons.injEq, Value.slice.injEq, and_true, true_and] at hv
  obtain ⟨⟨rfl, rfl⟩, rfl, rfl⟩ := hv
  refine ⟨av, cv, ak, ck, rfl, ?_, ?_, Nat.le_trans hl1 hc, Nat.le_trans hl2 hd⟩
  · have := rdS_takeN (k := (t.vars.take 12).length) hS hl1
    have e : t.vars.take (t.vars.take 12).length = t.vars.take 12 := by rw [List.length_take, List.take_eq_take_iff]; omega
    rw [e] at this
    exact this
  · have := rdP_takeN (k := (t.keys.take 20).length) hP hl2
    have e : t.keys.take (t.keys.take 20).length = t.keys.take 20 := by rw [List.length_take, List.take_eq_take_iff]; omega
    rw [e] at this
    exact this

theorem ext60 (s : Str) : (ByteArray.extract ⟨s.toArray⟩ 0 (min (s.length : Int) 60).toNat).data.toList = s.take 60 := by
  have h := take_min s 60
  rw [← h]
  simp
/-- pairs cut short -/
def cut60 (p : Str × Str) : Str × Str := (p.1.take 60, p.2.take 60)
def cutF (l : List (Str × Str)) : List (Str × Str) := (l.take 40).map cut60
theorem cut_step (l : List (Str × Str)) (n : Nat) (h : n < l.length) : (l.take (n + 1)).map cut60 = (l.take n).map cut60 ++ [cut60 l[n]] := by
  rw [List.take_add_one, List.getElem?_eq_getElem h, List.map_append]; rfl
/-- one pair more, at a step of a region that draws -/
theorem step_pushP {w : World} {ops : Array Oper} {o : Oper} {a : Act} {K : Act → World → Prop} {Q : Exit → Act → World → Prop} {E : Prop} (hgd : o.guard = none) (s x : Operand)
    (ho : o.op = .call { callee := .builtin .append, args := #[s, x], argTypes := #[22, 22] })
    (B : Nat) (v : Value) (l : List (Str × Str)) (b0 b1 : ByteArray) (hs : a.eval s = v) (hown : OwnP w B v l) (g : Nat) (hg : w.heap[g]? = some (.cells #[.string b0, .string b1] 42 (0, 0))) (hx : a.eval x = .slice (some ⟨g, 0, none⟩) 1 1) (hl : l.length ≤ 1000000) (hB : B ≤ w.heap.size)
    (h : ∀ v' w', OwnP w' B v' (l ++ [(b0.data.toList, b1.data.toList)]) → w.grownBy w' v.ownBlock → K (a.put o.dst v') w') :
    if Region.wanted o (yielded ops a.tmps) = true then Oper.wp Tryz.prog o a w K Q else E := by
  obtain ⟨i0, hi, hz0, hz1, hz2⟩ := info_parts infoP
  refine step_append_lies w hgd s x 22 ho B 42 i0 (.agg #[.string ⟨#[]⟩, .string ⟨#[]⟩]) 2 32 Tryz.underlying22 hi hz0 hz1 hz2 rfl (by decide) v l.length (flat2 l) hs hown ⟨g, 0, none⟩ 1 1 [.string b0, .string b1] hx rfl (World.news_of_block hg) (fun u hu => by simp at hu; rcases hu with rfl | rfl <;> rfl) (by decide) (by unfold maxLen; omega) (by omega) hB _ rfl ?_
  intro g2 cap w' own gr _ _
  exact h _ w' (own_cast own (by simp) (by simp [flat2, enc2, S])) gr

theorem keep3 {w2 w3 : World} {o : Obj} {row : Option Nat} {b : Nat} {x y : Value} (gr : (w2.drew.alloc o).grownBy w3 row) (hb : b < w2.heap.size) (hne : some b ≠ row) (c0 : w2.cell? ⟨b, 0, none⟩ = some x) (c1 : w2.cell? ⟨b, 1, none⟩ = some y) :
    w3.cell? ⟨b, 0, none⟩ = some x ∧ w3.cell? ⟨b, 1, none⟩ = some y := by
  have hl : b < (w2.drew.alloc o).heap.size := by simp; omega
  have e0 : (w2.drew.alloc o).cell? ⟨b, 0, none⟩ = some x := (World.cell?_alloc_lt w2.drew o ⟨b, 0, none⟩ hb).trans c0
  have e1 : (w2.drew.alloc o).cell? ⟨b, 1, none⟩ = some y := (World.cell?_alloc_lt w2.drew o ⟨b, 1, none⟩ hb).trans c1
  exact ⟨(gr.cell_far ⟨b, 0, none⟩ hl hne).trans e0, (gr.cell_far ⟨b, 1, none⟩ hl hne).trans e1⟩

set_option maxRecDepth 100000 in
set_option maxHeartbeats 16000000 in
theorem cut_any (w : World) (va : Value) (D : List (Str × Str)) (hl : RdP w va D) (hp : PSz D) :
    Calls Tryz.prog 10 #[va] w fun e w' => ∃ v', e = .returned v' ∧ OwnP w' w.heap.size v' (cutF D) ∧ Below w.heap.size w w' := by
  obtain ⟨ao, cp, rfl, hlen, hcell⟩ := hl
  have HC := hid hcell
  have HP := hid hp
  clear hcell hp
  go_enter Tryz.func10, Tryz.ntmps10
  go_upto_block 0 with fail
  go_cut [3] from 4 to 33 (fun vo wx => OwnP wx w.heap.size vo (cutF D) ∧ Below w.heap.size w wx)
  case first =>
    go_wp2_with fail
    go_loopg [3, 8] 40 (fun g vo vi W => ∃ n : Nat, n ≤ D.length ∧ n ≤ 40 ∧ 40 ≤ n + g ∧ vi = .int .i64 n ∧ OwnP W w.heap.size vo ((D.take n).map cut60) ∧ Below w.heap.size w W)
    case atStart => exact ⟨0, Nat.zero_le _, by omega, by omega, rfl, World.ownsRow_nil _ _ _ _, Below.refl _ _⟩
    case round =>
      obtain ⟨n, hn, h40, hg, rfl, own, hb⟩ := hrel
      rename World => w1
      have HG := hid hg
      have HO := hid own
      have HB := hid hb
      have HSB := hid hb.size
      clear hg own hb
      by_cases hlt : n < D.length
      · have hne : D ≠ [] := by intro e; rw [e] at hlt; simp at hlt
        obtain ⟨p1, o1, rfl, hp1, hc1⟩ := HC.out hne
        have hps := HP.out _ (List.getElem_mem hlt)
        obtain ⟨kv, hkv⟩ : ∃ kv, kv = D[n]'hlt := ⟨_, rfl⟩
        obtain ⟨k, v⟩ := kv
        have q1 := (HB.out.cell (p := ⟨p1, o1 + n * 2 + 0, none⟩) hp1).trans (hc1 n 0 (S k) hlt (by rw [← hkv]; rfl))
        have q2 := (HB.out.cell (p := ⟨p1, o1 + n * 2 + 1, none⟩) hp1).trans (hc1 n 1 (S v) hlt (by rw [← hkv]; rfl))
        rw [S] at q1 q2
        rw [Nat.add_zero] at q1
        have HST := hid (show (D.take (n + 1)).map cut60 = (D.take n).map cut60 ++ [(k.take 60, v.take 60)] by rw [cut_step D n hlt, ← hkv]; rfl)
        have hkl : k.length ≤ maxLen := by rw [← hkv] at hps; exact hps.1
        have hvl : v.length ≤ maxLen := by rw [← hkv] at hps; exact hps.2
        have hni : (n : Int) < (D.length : Int) := by omega
        have hn0 : (0 : Int) ≤ (n : Int) := by omega
        clear hkv hc1 hps hne
        by_cases h4 : n = 40
        · have hnb : ((n : Int) == 40) = true := by rw [h4]; rfl
          have HF := hid (show (D.take n).map cut60 = cutF D by rw [h4]; rfl)
          clear h4
          go_wp2_with fail
          go_meet
          case rel => exact ⟨by rw [← HF.out]; exact World.ownsRow.alloc HO.out _, HB.out.alloc HSB.out _⟩
        · have hnb : ((n : Int) == 40) = false := by rw [beq_eq_false_iff_ne]; omega
          have H4 := hid (show n + 1 ≤ 40 by omega)
          clear h4
          go_upto_region 6 with (fail)
          have HPB := hid (heap_alloc_new w1 (.cells #[.string ⟨k.toArray⟩, .string ⟨v.toArray⟩] 42))
          have HB2 := hid (HB.out.alloc HSB.out (.cells #[.string ⟨k.toArray⟩, .string ⟨v.toArray⟩] 42))
          have HO2 := hid (World.ownsRow.alloc HO.out (.cells #[.string ⟨k.toArray⟩, .string ⟨v.toArray⟩] 42))
          generalize w1.alloc (.cells #[.string ⟨k.toArray⟩, .string ⟨v.toArray⟩] 42) = w2 at *
          have c0 : w2.cell? ⟨w1.heap.size, 0, none⟩ = some (.string ⟨k.toArray⟩) := by rw [cell_of_row _ _ _ _ _ _ HPB.out]; rfl
          have c1 : w2.cell? ⟨w1.heap.size, 1, none⟩ = some (.string ⟨v.toArray⟩) := by rw [cell_of_row _ _ _ _ _ _ HPB.out]; rfl
          have lt0 := lt_of_block HPB.out
          clear q1 q2
          have hsb2 := hid HB2.out.size
          have hm1 : (0 : Int) ≤ min (k.length : Int) 60 := by omega
          have hm2 : min (k.length : Int) 60 ≤ (k.length : Int) := by omega
          have hm3 : (0 : Int) ≤ min (v.length : Int) 60 := by omega
          have hm4 : min (v.length : Int) 60 ≤ (v.length : Int) := by omega
          have hll : ((D.take n).map cut60).length ≤ 1000000 := by rw [List.length_map, List.length_take]; omega
          have S0 : w2.drew.cell? ⟨w1.heap.size, 0, none⟩ = some (.string ⟨k.toArray⟩) ∧ w2.drew.cell? ⟨w1.heap.size, 1, none⟩ = some (.string ⟨v.toArray⟩) := ⟨c0, c1⟩
          go_region_held3 (fun W => W.cell? ⟨w1.heap.size, 0, none⟩ = some (.string ⟨k.toArray⟩) ∧ W.cell? ⟨w1.heap.size, 1, none⟩ = some (.string ⟨v.toArray⟩)) (first | with_reducible assumption | go_keep)
            (first | (refine step_pushP rfl (.tmp 15) (.tmp 31) rfl w.heap.size _ _ _ _ rfl (World.ownsRow.alloc (show OwnP w2.drew w.heap.size _ _ from HO2.out) _) w2.heap.size (heap_alloc_new w2.drew _) rfl hll (by have := hsb2.out; simp; omega) ?_; intro v3 w3 own3 gr3; have hs3 := keep3 gr3 lt0 (fun e => by have := (World.ownsRow.lt HO.out _ e.symm).2; omega) c0 c1))
          all_goals
            have HO3 := hid own3
            have HB3 := hid ((HB2.out.drew.alloc (Nat.le_trans HB2.out.size (Nat.le_refl _)) _).grown gr3 (Nat.le_trans HB2.out.size (by simp)) (fun j hj => (World.ownsRow.lt HO.out _ hj).1))
            clear own3 gr3 hs3 S0 c0 c1
            go_wp2_with fail
            go_roundg (gk - 1)
          all_goals first
            | (have h1 := HG.out; have h2 := H4.out; omega)
            | exact ⟨n + 1, by omega, H4.out, by have := HG.out; omega, by simp, by rw [HST.out]; have h3 := HO3.out; rw [ext60, ext60] at h3; exact h3, HB3.out⟩
      · have hnl : n = D.length := by omega
        have HF := hid (show (D.take n).map cut60 = cutF D by unfold cutF; rw [List.take_of_length_le (by omega), List.take_of_length_le (by omega)])
        clear hnl
        go_wp2_with fail
        go_meet
        case rel => exact ⟨by rw [← HF.out]; exact HO.out, HB.out⟩
  case rest =>
    obtain ⟨own, hb⟩ := hcut
    have HO := hid own
    have HB := hid hb
    clear own hb
    go_wp2_with fail
    go_ret
    exact ⟨_, rfl, HO.out, HB.out⟩
end Go.Proofs.YtlmgmifaknlolaaGreat

/- The contract of the law's made. -/
set_option linter.unusedVariables false
set_option linter.unusedSimpArgs false
namespace Go.Proofs.YtlmgmifaknlolaaGreat
open Go.RowKit Go.Lib Go.Sort Go.Maps

theorem made_one {D : List (Str × Str)} {a b c d : Nat} (h : LNewOut D a b) (h2 : RtOut D c d) : c = a ∧ d = b := by
  have e : badR [] D = badL [] D := badR_eq [] D (fun y hy => by cases hy)
  unfold RtOut at h2
  rw [e] at h2
  rcases h with h | ⟨h, rfl, rfl⟩ <;> rcases h2 with h2 | ⟨h2, rfl, rfl⟩
  · rw [h] at h2; cases h2; exact ⟨rfl, rfl⟩
  · rw [h] at h2; cases h2
  · rw [h] at h2; cases h2
  · exact ⟨rfl, rfl⟩
/-- what made hands back -/
def MadeRes (w : World) (D : List (Str × Str)) (e : Ending) (w' : World) : Prop :=
  ∃ vc, e = .returned (.tuple #[vc, .bool true]) ∧ ((badL [] D = none ∧ LkRd w' vc (dOf D)) ∨ (badL [] D ≠ none ∧ vc = .pointer none)) ∧ Below w.heap.size w w'

set_option maxRecDepth 100000 in
set_option maxHeartbeats 8000000 in
theorem made_any (w : World) (ao : Option Addr) (cp : Nat) (D : List (Str × Str)) (hl : RdP w (.slice ao D.length cp) D) (hcap : D.length ≤ cp) (hp : PSz D) (hsz : D.length ≤ 1000) :
    Calls Tryz.prog 12 #[.slice ao D.length cp] w fun e w' => MadeRes w D e w' := by
  have NW := hid (fun W (hb : Below w.heap.size w W) => lnew_any W _ D (hl.below hb) hp (by omega))
  have RF := hid (fun W (hb : Below w.heap.size w W) => rfault_any W ao cp D (hl.below hb) hcap hp (by omega))
  clear hl hp
  go_enter Tryz.func12, Tryz.ntmps12
  go_wp2_with fail
  refine (NW.out _ (Below.refl _ _)).mono ?_
  rintro e w1 ⟨er, i, vc, rfl, ho, h0, h1, hb1⟩
  have HO := hid ho
  have HB1 := hid hb1
  have H0 := hid h0
  have H1 := hid h1
  clear ho hb1 h0 h1 NW
  go_upto_region 2 with fail
  have HF2 := hid (heap_alloc_new w1 (.cells #[.int .i64 er, .int .i64 i] 45))
  have hb2 : Below w1.heap.size w1 (w1.alloc (.cells #[.int .i64 er, .int .i64 i] 45)) := (Below.refl _ _).alloc (Nat.le_refl _) _
  generalize w1.alloc (.cells #[.int .i64 er, .int .i64 i] 45) = w2 at *
  have HB2 := hid (HB1.out.then hb2)
  have HU2 := hid hb2
  clear hb2 HB1
  have f0 : w2.drew.cell? ⟨w1.heap.size, 0, none⟩ = some (.int .i64 er) := by show w2.cell? _ = _; rw [cell_of_row _ _ _ _ _ _ HF2.out]; rfl
  have f1 : w2.drew.cell? ⟨w1.heap.size, 1, none⟩ = some (.int .i64 i) := by show w2.cell? _ = _; rw [cell_of_row _ _ _ _ _ _ HF2.out]; rfl
  have S0 : w2.drew.cell? ⟨w1.heap.size, 0, none⟩ = some (.int .i64 er) ∧ w2.drew.cell? ⟨w1.heap.size, 1, none⟩ = some (.int .i64 i) ∧ Below w2.heap.size w2 w2.drew := ⟨f0, f1, (Below.refl _ _).drew⟩
  have KF : Hid (∀ W, (W.cell? ⟨w1.heap.size, 0, none⟩ = some (.int .i64 er) ∧ W.cell? ⟨w1.heap.size, 1, none⟩ = some (.int .i64 i) ∧ Below w2.heap.size w2 W) → Calls Tryz.prog 24 #[.slice ao D.length cp] W (fun e w' => e = .returned (.agg #[.int .i64 er, .int .i64 i]) ∧ (w'.cell? ⟨w1.heap.size, 0, none⟩ = some (.int .i64 er) ∧ w'.cell? ⟨w1.heap.size, 1, none⟩ = some (.int .i64 i) ∧ Below w2.heap.size w2 w'))) := fun W h => by
    refine (RF.out W (HB2.out.then h.2.2)).mono ?_
    rintro e w' ⟨er', i', rfl, ho', hb'⟩
    obtain ⟨rfl, rfl⟩ := made_one HO.out ho'
    have hlt := lt_of_block HF2.out
    exact ⟨rfl, (hb'.cell (p := ⟨w1.heap.size, 0, none⟩) (Nat.lt_of_lt_of_le hlt h.2.2.size)).trans h.1, (hb'.cell (p := ⟨w1.heap.size, 1, none⟩) (Nat.lt_of_lt_of_le hlt h.2.2.size)).trans h.2.1, h.2.2.then hb'⟩
  clear f0 f1
  by_cases her : er = 0
  · subst her
    have HC := hid (H0.out rfl)
    obtain ⟨bc, bm, n0, rfl, _, _, _⟩ := HC.out
    clear H0 H1
    go_region_held3 (fun W => W.cell? ⟨w1.heap.size, 0, none⟩ = some (.int .i64 (0 : Nat)) ∧ W.cell? ⟨w1.heap.size, 1, none⟩ = some (.int .i64 i) ∧ Below w2.heap.size w2 W) (first | with_reducible assumption) (first
      | (go_at_call 24; (with_reducible refine (KF.out _ (by assumption)).mono ?_); rintro e w' ⟨rfl, hs'⟩))
    have HU3 := hid (show Below w2.heap.size w2 w' from hs'.2.2)
    have HBN := hid (show badL [] D = none by
      rcases HO.out with h | h
      · rcases badL_err h with e | e <;> omega
      · exact h.1)
    clear S0 KF hs'
    go_wp2_with fail
    refine bodyPost_ret (v := .tuple #[.pointer (some ⟨bc, 0, none⟩), .bool true]) (by simp [results, Tryz.results12, go_sem]) rfl ?_
    exact ⟨_, rfl, Or.inl ⟨HBN.out, (HC.out.below HU2.out).below HU3.out⟩, HB2.out.then HU3.out⟩
  · have hne : ((er : Int) != 0) = true := by rw [bne_iff_ne]; omega
    have HV := H1.out her
    subst HV
    go_region_held3 (fun W => W.cell? ⟨w1.heap.size, 0, none⟩ = some (.int .i64 er) ∧ W.cell? ⟨w1.heap.size, 1, none⟩ = some (.int .i64 i) ∧ Below w2.heap.size w2 W) (first | with_reducible assumption) (first
      | (go_at_call 24; (with_reducible refine (KF.out _ (by assumption)).mono ?_); rintro e w' ⟨rfl, hs'⟩))
    have HU3 := hid (show Below w2.heap.size w2 w' from hs'.2.2)
    have HBN := hid (show badL [] D ≠ none by
      rcases HO.out with h | h
      · rw [h]; exact fun e => by cases e
      · exact absurd h.2.1 her)
    clear S0 KF hs'
    go_wp2_with fail
    refine bodyPost_ret (v := .tuple #[.pointer none, .bool true]) (by simp [results, Tryz.results12, go_sem]) rfl ?_
    exact ⟨_, rfl, Or.inr ⟨HBN.out, rfl⟩, HB2.out.then HU3.out⟩
end Go.Proofs.YtlmgmifaknlolaaGreat

/- The contract of the law's same, and the walk of the law LikelyNone. -/
set_option linter.unusedVariables false
set_option linter.unusedSimpArgs false
namespace Go.Proofs.YtlmgmifaknlolaaGreat
open Go.RowKit Go.Lib Go.Sort Go.Maps

set_option maxRecDepth 100000 in
set_option maxHeartbeats 8000000 in
theorem lsame_any (w : World) (va vb : Value) (a b : Tg) (ha : RdT w va a) (hb : RdT w vb b) :
    Calls Tryz.prog 16 #[va, vb] w fun e w' => e = .returned (.bool (sameB a b)) ∧ Below w.heap.size w w' := by
  have RS := hid (fun W (h : Below w.heap.size w W) => rsame_any W va vb a b (ha.below h) (hb.below h))
  obtain ⟨vv, kv, rfl, ⟨av, cv, rfl, hav, hsa⟩, ⟨ak, ck, rfl, hak, hpa⟩⟩ := ha
  obtain ⟨vv2, kv2, rfl, ⟨bv, dv, rfl, hbv, hsb⟩, ⟨bk, dk, rfl, hbk, hpb⟩⟩ := hb
  have HB0 := hid (below2 w (.cells (tagCells a (.slice av a.vars.length cv) (.slice ak a.keys.length ck)) 25) (.cells (tagCells b (.slice bv b.vars.length dv) (.slice bk b.keys.length dk)) 25))
  have HA0 := hid (heap_alloc2_old w (.cells (tagCells a (.slice av a.vars.length cv) (.slice ak a.keys.length ck)) 25) (.cells (tagCells b (.slice bv b.vars.length dv) (.slice bk b.keys.length dk)) 25))
  have HX0 := hid (heap_alloc2_new w (.cells (tagCells a (.slice av a.vars.length cv) (.slice ak a.keys.length ck)) 25) (.cells (tagCells b (.slice bv b.vars.length dv) (.slice bk b.keys.length dk)) 25))
  clear hav hsa hak hpa hbv hsb hbk hpb
  generalize hq : sameB a b = q at *
  clear hq
  simp only [tagCells, S] at *
  go_enter Tryz.func16, Tryz.ntmps16
  go_upto_region 1 with (fail)
  generalize ((w.alloc (.cells #[.string ⟨a.lang.toArray⟩, .string ⟨a.script.toArray⟩, .string ⟨a.region.toArray⟩, .slice av a.vars.length cv, .slice ak a.keys.length ck] 25)).alloc (.cells #[.string ⟨b.lang.toArray⟩, .string ⟨b.script.toArray⟩, .string ⟨b.region.toArray⟩, .slice bv b.vars.length dv, .slice bk b.keys.length dk] 25)) = w0 at *
  obtain ⟨c0, c1, c2, c3, c4⟩ := box_cells HA0.out
  obtain ⟨d0, d1, d2, d3, d4⟩ := box_cells HX0.out
  have ltx := lt_of_block HX0.out
  have lta := lt_of_block HA0.out
  go_wp2_with fail
  refine (RS.out _ HB0.out).mono ?_
  rintro e w1 ⟨rfl, hb1⟩
  go_wp2_with fail
  go_ret
  exact ⟨rfl, HB0.out.then hb1⟩

/-- a tag in a box that stands -/
theorem tag_row {w : World} {B b : Nat} {t : Tg} {a c : Option Addr} {n m : Nat} (own : OwnT w B (.agg #[.string ⟨t.lang.toArray⟩, .string ⟨t.script.toArray⟩, .string ⟨t.region.toArray⟩, .slice a t.vars.length n, .slice c t.keys.length m]) t) : RdT w (.agg #[.string ⟨t.lang.toArray⟩, .string ⟨t.script.toArray⟩, .string ⟨t.region.toArray⟩, .slice a t.vars.length n, .slice c t.keys.length m]) t := own.rd

set_option maxRecDepth 100000 in
set_option maxHeartbeats 8000000 in
theorem none_any (w : World) (va : Value) (t : Tg) (hT : RdT w va t) :
    Calls Tryz.prog 7 #[va] w fun e w' => e = .returned (.bool true) ∧ Below w.heap.size w w' := by
  have AD := hid (fun W (h : Below w.heap.size w W) => tadd_nil W va t (hT.below h))
  have RM := hid (fun W (h : Below w.heap.size w W) => trem_nil W va t (hT.below h))
  obtain ⟨vv, kv, rfl, hS, hP⟩ := hT
  obtain ⟨av, cv, rfl, _, _⟩ := hS
  obtain ⟨ak, ck, rfl, _, _⟩ := hP
  have HB0 := hid ((Below.refl w.heap.size w).alloc (Nat.le_refl _) (.cells #[.string ⟨t.lang.toArray⟩, .string ⟨t.script.toArray⟩, .string ⟨t.region.toArray⟩, .slice av t.vars.length cv, .slice ak t.keys.length ck] 25))
  have HX0 := hid (heap_alloc_new w (.cells #[.string ⟨t.lang.toArray⟩, .string ⟨t.script.toArray⟩, .string ⟨t.region.toArray⟩, .slice av t.vars.length cv, .slice ak t.keys.length ck] 25))
  simp only [tagCells, S] at *
  go_enter Tryz.func7, Tryz.ntmps7
  go_upto_region 1 with (fail)
  generalize w.alloc (.cells #[.string ⟨t.lang.toArray⟩, .string ⟨t.script.toArray⟩, .string ⟨t.region.toArray⟩, .slice av t.vars.length cv, .slice ak t.keys.length ck] 25) = w0 at *
  go_wp2_with fail
  refine (lwakes_any _).mono ?_
  rintro e w1 ⟨rfl, hb1⟩
  have HB1 := hid (HB0.out.then hb1)
  have HX1 := hid ((hb1.block _ (lt_of_block HX0.out)).trans HX0.out)
  clear hb1 HB0 HX0
  obtain ⟨c0, c1, c2, c3, c4⟩ := box_cells HX1.out
  have ltx := lt_of_block HX1.out
  go_wp2_with fail
  refine (AD.out _ HB1.out).mono ?_
  rintro e w2 ⟨v', rfl, own2, hb2⟩
  have HB2 := hid (HB1.out.then hb2)
  have HX2 := hid ((hb2.block _ (lt_of_block HX1.out)).trans HX1.out)
  obtain ⟨a1, e1, a2, e2, rfl⟩ := own2.shape
  have R2 := hid own2.rd
  clear hb2 HB1 HX1 own2 c0 c1 c2 c3 c4 ltx
  have R2' : Hid (RdT w2 (.agg #[.string ⟨#[]⟩, .string ⟨#[]⟩, .string ⟨#[]⟩, .slice a1 0 e1, .slice a2 0 e2]) Tg.zero) := R2
  clear R2
  simp only [Tg.zero]
  go_upto_region 5 with fail
  have HX3 := hid (heap_alloc_new w2 (.cells #[.string ⟨#[]⟩, .string ⟨#[]⟩, .string ⟨#[]⟩, .slice a1 0 e1, .slice a2 0 e2] 25))
  have hb3 : Below w2.heap.size w2 (w2.alloc (.cells #[.string ⟨#[]⟩, .string ⟨#[]⟩, .string ⟨#[]⟩, .slice a1 0 e1, .slice a2 0 e2] 25)) := (Below.refl _ _).alloc (Nat.le_refl _) _
  generalize w2.alloc (.cells #[.string ⟨#[]⟩, .string ⟨#[]⟩, .string ⟨#[]⟩, .slice a1 0 e1, .slice a2 0 e2] 25) = w3 at *
  have HB3 := hid (HB2.out.then hb3)
  have HT3 := hid ((hb3.block _ (lt_of_block HX2.out)).trans HX2.out)
  have R3 := hid (R2'.out.below hb3)
  clear hb3 HB2 HX2 R2'
  obtain ⟨c0, c1, c2, c3, c4⟩ := box_cells HT3.out
  have ltx := lt_of_block HT3.out
  go_wp2_with fail
  refine (RM.out _ HB3.out).mono ?_
  rintro e w4 ⟨v', rfl, own4, hb4⟩
  have HB4 := hid (HB3.out.then hb4)
  have HX4 := hid ((hb4.block _ (lt_of_block HX3.out)).trans HX3.out)
  have R4 := hid (R3.out.below hb4)
  obtain ⟨b1, g1, b2, g2, rfl⟩ := own4.shape
  have Q4 : Hid (RdT w4 (.agg #[.string ⟨#[]⟩, .string ⟨#[]⟩, .string ⟨#[]⟩, .slice b1 0 g1, .slice b2 0 g2]) Tg.zero) := hid own4.rd
  clear hb4 HB3 HX3 R3 own4 c0 c1 c2 c3 c4 ltx HT3
  simp only [Tg.zero]
  go_upto_region 6 with fail
  have HY5 := hid (heap_alloc_new w4 (.cells #[.string ⟨#[]⟩, .string ⟨#[]⟩, .string ⟨#[]⟩, .slice b1 0 g1, .slice b2 0 g2] 25))
  have hb5 : Below w4.heap.size w4 (w4.alloc (.cells #[.string ⟨#[]⟩, .string ⟨#[]⟩, .string ⟨#[]⟩, .slice b1 0 g1, .slice b2 0 g2] 25)) := (Below.refl _ _).alloc (Nat.le_refl _) _
  generalize w4.alloc (.cells #[.string ⟨#[]⟩, .string ⟨#[]⟩, .string ⟨#[]⟩, .slice b1 0 g1, .slice b2 0 g2] 25) = w5 at *
  have HB5 := hid (HB4.out.then hb5)
  have HX5 := hid ((hb5.block _ (lt_of_block HX4.out)).trans HX4.out)
  have R5 := hid (R4.out.below hb5)
  have Q5 := hid (Q4.out.below hb5)
  clear hb5 HB4 HX4 R4 Q4
  obtain ⟨c0, c1, c2, c3, c4⟩ := box_cells HX5.out
  obtain ⟨d0, d1, d2, d3, d4⟩ := box_cells HY5.out
  have ltx := lt_of_block HX5.out
  have lty := lt_of_block HY5.out
  have SA := hid (lsame_any w5 _ (.agg (tagCells Tg.zero vnil vnil)) _ _ R5.out (RdT.zero w5))
  have SB := hid (fun W (h : Below w5.heap.size w5 W) => lsame_any W _ (.agg (tagCells Tg.zero vnil vnil)) _ _ (Q5.out.below h) (RdT.zero W))
  rw [show sameB Tg.zero Tg.zero = true from rfl] at SA SB
  go_wp2_with fail
  refine SA.out.mono ?_
  rintro e w6 ⟨rfl, hb6⟩
  have HB6 := hid (HB5.out.then hb6)
  have HY6 := hid ((hb6.block _ (lt_of_block HY5.out)).trans HY5.out)
  have SB6 := hid (SB.out w6 hb6)
  clear hb6 SB SA HB5 c0 c1 c2 c3 c4 d0 d1 d2 d3 d4 ltx lty
  obtain ⟨d0, d1, d2, d3, d4⟩ := box_cells HY6.out
  have lty := lt_of_block HY6.out
  go_wp2_with fail
  refine SB6.out.mono ?_
  rintro e w7 ⟨rfl, hb7⟩
  have HB7 := hid (HB6.out.then hb7)
  clear hb7 HB6
  go_wp2_with fail
  refine (tsaid_nil _).mono ?_
  rintro e w8 ⟨rfl, hb8⟩
  go_wp2_with fail
  go_ret
  exact ⟨rfl, HB7.out.then hb8⟩
end Go.Proofs.YtlmgmifaknlolaaGreat

/- What the laws of likely have in common. -/
set_option linter.unusedVariables false
set_option linter.unusedSimpArgs false
namespace Go.Proofs.YtlmgmifaknlolaaGreat
open Go.RowKit Go.Lib Go.Sort Go.Maps

theorem cut_len (D : List (Str × Str)) : (cutF D).length ≤ 40 := by unfold cutF; rw [List.length_map, List.length_take]; omega
theorem cut_sz (D : List (Str × Str)) : PSz (cutF D) := by
  intro p hp
  obtain ⟨q, _, rfl⟩ := List.mem_map.1 hp
  unfold cut60 maxLen
  simp only [List.length_take]
  omega
theorem short_sz (t : Tg) : szT (shortF t) ≤ szT t := by
  have h1 : ∀ (l : List Str) n, sz (l.take n) ≤ sz l := fun l n => by
    conv => rhs; rw [← List.take_append_drop n l, sz_append]
    omega
  have h2 : sz ((t.keys.take 20).flatMap pairParts) ≤ sz (t.keys.flatMap pairParts) := by
    conv => rhs; rw [← List.take_append_drop 20 t.keys, List.flatMap_append, sz_append]
    omega
  have h3 := h1 t.vars 12
  unfold szT shortF
  simp only
  omega
theorem short_vars (t : Tg) : (shortF t).vars.length ≤ 1000 := by unfold shortF; simp only [List.length_take]; omega
theorem short_keys (t : Tg) : (shortF t).keys.length ≤ 1000 := by unfold shortF; simp only [List.length_take]; omega
/-- the law's state when the pairs are cut and the tag is cut short -/
structure LawSt (w : World) (D : List (Str × Str)) (t : Tg) (vv kv va : Value) (W : World) : Prop where
  own : OwnP W (w.heap.size + 1) va (cutF D)
  bt : W.heap[w.heap.size]? = some (.cells (tagCells t vv kv) 25 (0, 0))
  bel : Below w.heap.size w W
theorem LawSt.below {w W W' : World} {D : List (Str × Str)} {t : Tg} {vv kv va : Value} (h : LawSt w D t vv kv va W) (hb : Below W.heap.size W W') : LawSt w D t vv kv va W' :=
  ⟨own_below h.own hb, (hb.block _ (lt_of_block h.bt)).trans h.bt, h.bel.then hb⟩
/-- ahead of the region: the tag is as it came; the two contracts there -/
structure LawS0 (w : World) (t : Tg) (vv kv : Value) (W : World) : Prop where
  bt : W.heap[w.heap.size]? = some (.cells (tagCells t vv kv) 25 (0, 0))
  bel : Below w.heap.size w W
theorem LawS0.below {w W W' : World} {t : Tg} {vv kv : Value} (h : LawS0 w t vv kv W) (hb : Below W.heap.size W W') : LawS0 w t vv kv W' :=
  ⟨(hb.block _ (lt_of_block h.bt)).trans h.bt, h.bel.then hb⟩
theorem cut_at {w W : World} {t : Tg} {vv kv va : Value} {D : List (Str × Str)} (h : LawS0 w t vv kv W) (hl : RdP w va D) (hp : PSz D) :
    Calls Tryz.prog 10 #[va] W fun e w' => ∃ a c, e = .returned (.slice a (cutF D).length c) ∧ OwnP w' (w.heap.size + 1) (.slice a (cutF D).length c) (cutF D) ∧ LawS0 w t vv kv w' ∧ (w'.cell? ⟨w.heap.size, 0, none⟩ = some (S t.lang) ∧ w'.cell? ⟨w.heap.size, 1, none⟩ = some (S t.script) ∧ w'.cell? ⟨w.heap.size, 2, none⟩ = some (S t.region) ∧ w'.cell? ⟨w.heap.size, 3, none⟩ = some vv ∧ w'.cell? ⟨w.heap.size, 4, none⟩ = some kv) :=
  (cut_any W va D (hl.below h.bel) hp).mono (by
    rintro e w' ⟨v', rfl, own, hb⟩
    obtain ⟨a, c, rfl⟩ := own_sliceP own
    have h2 := h.below hb
    exact ⟨a, c, rfl, ownP_mono own (Nat.succ_le_of_lt (lt_of_block h.bt)), h2, box_cells h2.bt⟩)
theorem short_at {w W : World} {t : Tg} {av ak : Option Addr} {cv ck : Nat} (h : LawS0 w t (.slice av t.vars.length cv) (.slice ak t.keys.length ck) W) (hcv : t.vars.length ≤ cv) (hck : t.keys.length ≤ ck) :
    Calls Tryz.prog 11 #[.agg #[.string ⟨t.lang.toArray⟩, .string ⟨t.script.toArray⟩, .string ⟨t.region.toArray⟩, .slice av t.vars.length cv, .slice ak t.keys.length ck]] W fun e w' => e = .returned (.agg #[.string ⟨t.lang.toArray⟩, .string ⟨t.script.toArray⟩, .string ⟨t.region.toArray⟩, .slice av (t.vars.take 12).length cv, .slice ak (t.keys.take 20).length ck]) ∧
      (∀ D v, OwnP W (w.heap.size + 1) v (cutF D) → OwnP w' (w.heap.size + 1) v (cutF D)) ∧ LawS0 w t (.slice av t.vars.length cv) (.slice ak t.keys.length ck) w' ∧ ((w'.cell? ⟨w.heap.size, 0, none⟩ = some (S t.lang) ∧ w'.cell? ⟨w.heap.size, 1, none⟩ = some (S t.script) ∧ w'.cell? ⟨w.heap.size, 2, none⟩ = some (S t.region) ∧ w'.cell? ⟨w.heap.size, 3, none⟩ = some (.slice av t.vars.length cv) ∧ w'.cell? ⟨w.heap.size, 4, none⟩ = some (.slice ak t.keys.length ck)) ∧ (w'.frozen? ⟨w.heap.size, 0, none⟩ = false ∧ w'.frozen? ⟨w.heap.size, 1, none⟩ = false ∧ w'.frozen? ⟨w.heap.size, 2, none⟩ = false ∧ w'.frozen? ⟨w.heap.size, 3, none⟩ = false ∧ w'.frozen? ⟨w.heap.size, 4, none⟩ = false ∧ w.heap.size < w'.heap.size)) :=
  (short_any W t av ak cv ck hcv hck).mono (by
    rintro e w' ⟨rfl, hb⟩
    have h2 := h.below hb
    exact ⟨rfl, fun D v o => own_below o hb, h2, box_cells h2.bt, frozen_of_row w' _ 0 _ _ h2.bt, frozen_of_row w' _ 1 _ _ h2.bt, frozen_of_row w' _ 2 _ _ h2.bt, frozen_of_row w' _ 3 _ _ h2.bt, frozen_of_row w' _ 4 _ _ h2.bt, lt_of_block h2.bt⟩)
theorem law_end {w W : World} {t : Tg} {va : Value} {D : List (Str × Str)} {av ak : Option Addr} {cv ck : Nat} (h : LawS0 w t (.slice av t.vars.length cv) (.slice ak t.keys.length ck) W) (own : OwnP W (w.heap.size + 1) va (cutF D)) :
    LawSt w D (shortF t) (.slice av (t.vars.take 12).length cv) (.slice ak (t.keys.take 20).length ck) va (P5 W w.heap.size (.string ⟨t.lang.toArray⟩) (.string ⟨t.script.toArray⟩) (.string ⟨t.region.toArray⟩) (.slice av (t.vars.take 12).length cv) (.slice ak (t.keys.take 20).length ck)) :=
  ⟨P5_own _ _ _ _ _ own (fun e => by have := (World.ownsRow.lt own _ e).1; omega), P5_row _ _ _ _ _ h.bt, P5_below _ _ _ _ _ h.bel (Nat.le_refl _)⟩
theorem own_capP {w : World} {B n c : Nat} {a : Option Addr} {l : List (Str × Str)} (h : OwnP w B (.slice a n c) l) : l.length ≤ c := by
  rcases h.shape with ⟨_, rfl⟩ | ⟨g, cap, cur, e, _, _, hn, _⟩
  · exact Nat.zero_le _
  · cases e; exact hn
end Go.Proofs.YtlmgmifaknlolaaGreat

/- Lists that can be read, appended to lists that the call owns. -/
set_option linter.unusedVariables false
set_option linter.unusedSimpArgs false
namespace Go.Proofs.YtlmgmifaknlolaaGreat
open Go.RowKit Go.Lib Go.Sort

/-- pairs of a slice that can be read, at the end of a list that the call owns -/
theorem wpList_appP {w : World} {ops : Array Oper} {rest : List Oper} {o : Oper} {a : Act} {Q : Exit → Act → World → Prop} (hgd : o.guard = none) (s x : Operand)
    (ho : o.op = .call { callee := .builtin .append, args := #[s, x], argTypes := #[22, 22] })
    (B : Nat) (v vx : Value) (l m : List (Str × Str)) (hs : a.eval s = v) (hown : OwnP w B v l) (hx : a.eval x = vx) (hr : RdP w vx m) (hl : l.length + m.length ≤ 1000000000000) (hB : B ≤ w.heap.size)
    (h : ∀ v' w', OwnP w' B v' (l ++ m) → w.grownBy w' v.ownBlock → Moved w v v' → wpList Tryz.prog ops Q rest (a.put o.dst v') w') :
    wpList Tryz.prog ops Q (o :: rest) a w := by
  obtain ⟨i0, hi, hz0, hz1, hz2⟩ := info_parts infoP
  obtain ⟨ao, cp, rfl, hl1, hr1⟩ := hr
  cases ao with
  | none =>
    obtain ⟨rfl, rfl⟩ := hl1.2 rfl
    exact wpList_append_own_none hgd s x 22 ho B 42 i0 2 Tryz.underlying22 hi v l.length (flat2 l) hs hown hx (h v w (by rw [List.append_nil]; exact hown) (World.grownBy.refl _ _) (Or.inl rfl))
  | some ad =>
    refine wpList_app hgd s x 22 ho B 42 i0 (.agg #[.string ⟨#[]⟩, .string ⟨#[]⟩]) 2 32 Tryz.underlying22 hi hz0 hz1 hz2 rfl (by decide) v l.length (flat2 l) hs hown ad m.length cp (flat2 m) hx (flat2_len m) ?_ ?_ (by unfold maxLen; omega) (by omega) hB ?_
    · intro j u hu
      have hj := (List.getElem?_eq_some_iff.1 hu).1
      rw [flat2_len] at hj
      have hne : m ≠ [] := by rintro rfl; simp at hj
      obtain ⟨b, off, he, hlt, hc⟩ := hr1 hne
      obtain rfl : ad = ⟨b, off, none⟩ := Option.some.inj he
      have hjm : j / 2 < m.length := by omega
      have hdm : j / 2 * 2 + j % 2 = j := by omega
      have h2 := flat2_get m (j / 2) (j % 2) hjm (by omega)
      rw [hdm, hu] at h2
      have := hc (j / 2) (j % 2) u hjm h2.symm
      rw [show (⟨b, off, none⟩ : Addr).add j = ⟨b, off + j, none⟩ from by unfold Addr.add; split <;> simp_all]
      rw [show off + j / 2 * 2 + j % 2 = off + j by omega] at this
      exact this
    · intro u hu
      obtain ⟨x, _, hx⟩ := List.mem_flatMap.1 hu
      simp only [enc2, List.mem_cons, List.not_mem_nil, or_false] at hx
      rcases hx with rfl | rfl <;> rfl
    · intro v' w' own gr mv
      exact h v' w' (own_cast own (by simp) (by simp [flat2])) gr mv
/-- texts of a slice that can be read, at the end of a list that the call owns -/
theorem wpList_appS {w : World} {ops : Array Oper} {rest : List Oper} {o : Oper} {a : Act} {Q : Exit → Act → World → Prop} (hgd : o.guard = none) (s x : Operand)
    (ho : o.op = .call { callee := .builtin .append, args := #[s, x], argTypes := #[23, 23] })
    (B : Nat) (v vx : Value) (l m : List Str) (hs : a.eval s = v) (hown : OwnS w B v l) (hx : a.eval x = vx) (hr : RdS w vx m) (hl : l.length + m.length ≤ 1000000000000) (hB : B ≤ w.heap.size)
    (h : ∀ v' w', OwnS w' B v' (l ++ m) → w.grownBy w' v.ownBlock → Moved w v v' → wpList Tryz.prog ops Q rest (a.put o.dst v') w') :
    wpList Tryz.prog ops Q (o :: rest) a w := by
  obtain ⟨i0, hi, hz0, hz1, hz2⟩ := info_parts infoS
  obtain ⟨ao, cp, rfl, hl1, hr1⟩ := hr
  cases ao with
  | none =>
    obtain ⟨rfl, rfl⟩ := hl1.2 rfl
    exact wpList_append_own_none hgd s x 23 ho B 9 i0 1 Tryz.underlying23 hi v l.length (l.map S) hs hown hx (h v w (by rw [List.append_nil]; exact hown) (World.grownBy.refl _ _) (Or.inl rfl))
  | some ad =>
    refine wpList_app hgd s x 23 ho B 9 i0 (.string ⟨#[]⟩) 1 16 Tryz.underlying23 hi hz0 hz1 hz2 rfl (by decide) v l.length (l.map S) hs hown ad m.length cp (m.map S) hx (by simp) ?_ ?_ (by unfold maxLen; omega) (by omega) hB ?_
    · intro j u hu
      have hj := (List.getElem?_eq_some_iff.1 hu).1
      rw [List.length_map] at hj
      have hne : m ≠ [] := by rintro rfl; simp at hj
      obtain ⟨b, off, he, hlt, hc⟩ := hr1 hne
      obtain rfl : ad = ⟨b, off, none⟩ := Option.some.inj he
      rw [show (⟨b, off, none⟩ : Addr).add j = ⟨b, off + j, none⟩ from by unfold Addr.add; split <;> simp_all]
      rw [List.getElem?_map, List.getElem?_eq_getElem hj, Option.map_some] at hu
      rw [← Option.some.inj hu]
      exact hc j _ (List.getElem?_eq_getElem hj)
    · intro u hu
      obtain ⟨x, _, rfl⟩ := List.mem_map.1 hu
      rfl
    · intro v' w' own gr mv
      exact h v' w' (own_cast own (by simp) (by simp)) gr mv
theorem fresh_ownP0 (w : World) (l : List (Str × Str)) (B : Nat) (hB : B ≤ w.heap.size) (hl : l.length ≤ 1000) : OwnP (w.alloc (.cells (flat2 l).toArray 42)) B (.slice (some ⟨w.heap.size, 0, none⟩) l.length l.length) l :=
  ⟨by rw [flat2_len], Or.inr ⟨w.heap.size, l.length, _, rfl, hB, heap_alloc_new w _, Nat.le_refl _, by unfold maxLen; omega, by simp [flat2_len], List.take_of_length_le (by simp [flat2_len])⟩⟩
end Go.Proofs.YtlmgmifaknlolaaGreat

/- The map of texts that likely.Said makes; its sorted keys; the range over what is said. -/
set_option linter.unusedVariables false
set_option linter.unusedSimpArgs false
namespace Go.Proofs.YtlmgmifaknlolaaGreat
open Go.RowKit Go.Lib Go.Sort Go.Maps Go.WideMaps Go.Shelf

theorem lawS : Keyed Tryz.prog 9 := string_keyed Tryz.underlying9
theorem key_ofS {k : Str} (h : k.length ≤ maxLen) : keyOf Tryz.prog 9 (.string ⟨k.toArray⟩) = some (.string k) := by
  have := keyOf_string_mk (P := Tryz.prog) Tryz.underlying9 (s := ⟨k.toArray⟩) (by rw [Lib.size_eq]; exact h)
  simpa using this
theorem strLit (k : Str) : WideAt.IsKeyLit (.string k) := by simp [WideAt.IsKeyLit]
def lookJ (E : List (Str × Pt)) (k : Str) : Option Pt := (E.find? (fun p => p.1 == k)).map (·.2)
theorem lookJ_append (E F : List (Str × Pt)) (k : Str) : lookJ (E ++ F) k = (lookJ E k).or (lookJ F k) := by
  unfold lookJ
  rw [List.find?_append]
  cases E.find? (fun p => p.1 == k) <;> rfl
theorem lookJ_none {E : List (Str × Pt)} {k : Str} : lookJ E k = none ↔ ∀ p ∈ E, p.1 ≠ k := by
  unfold lookJ
  rw [Option.map_eq_none_iff, List.find?_eq_none]
  simp
theorem lookJ_some {E : List (Str × Pt)} {k : Str} (h : (lookJ E k).isSome = true) : k ∈ E.map (·.1) := by
  unfold lookJ at h
  rw [Option.isSome_map] at h
  obtain ⟨p, hp⟩ := Option.isSome_iff_exists.1 h
  have h1 := List.find?_some hp
  have h2 := List.mem_of_find?_eq_some hp
  simp at h1
  exact List.mem_map.2 ⟨p, h2, h1⟩
theorem lookJ_mem {E : List (Str × Pt)} {k : Str} (h : k ∈ E.map (·.1)) : (lookJ E k).isSome = true := by
  cases hl : lookJ E k with
  | some v => rfl
  | none =>
    obtain ⟨p, hp, rfl⟩ := List.mem_map.1 h
    exact absurd rfl (lookJ_none.1 hl p hp)
theorem lookJ_is {E : List (Str × Pt)} (hn : (E.map (·.1)).Nodup) {p : Str × Pt} (hp : p ∈ E) : lookJ E p.1 = some p.2 := by
  induction E with
  | nil => cases hp
  | cons q E ih =>
    rw [List.map_cons, List.nodup_cons] at hn
    unfold lookJ
    rw [List.find?_cons]
    rcases List.mem_cons.1 hp with rfl | hp
    · simp
    · have : q.1 ≠ p.1 := fun e => hn.1 (by rw [e]; exact List.mem_map.2 ⟨p, hp, rfl⟩)
      rw [show (q.1 == p.1) = false by simpa using this]
      exact ih hn.2 hp
theorem OwnJ.lt {w : World} {b n : Nat} {E : List (Str × Pt)} (h : OwnJ w b n E) : b < w.heap.size := by obtain ⟨m, h, _⟩ := h; exact h.lt
theorem OwnJ.block {w w' : World} {b n : Nat} {E : List (Str × Pt)} (h : OwnJ w b n E) (he : w'.heap[b]? = w.heap[b]?) : OwnJ w' b n E := by obtain ⟨m, h, h2⟩ := h; exact ⟨m, ownsMap_block h he, h2⟩
theorem OwnJ.below {w w' : World} {b n : Nat} {E : List (Str × Pt)} (h : OwnJ w b n E) (hb : Below w.heap.size w w') : OwnJ w' b n E := h.block (hb.block _ h.lt)
theorem OwnJ.made (w : World) : OwnJ (w.alloc (.map #[] 0)) w.heap.size 0 [] := ⟨.map [], World.ownsMap_made _ _ _ _, fun k z => rfl⟩
set_option maxRecDepth 100000 in
theorem OwnJ.look_run {w : World} {b n : Nat} {E : List (Str × Pt)} (h : OwnJ w b n E) (k : Str) (hk : k.length ≤ maxLen) {c : Pt} (hc : lookJ E k = some c) :
    (Instr.lookup 72 (.map (some b)) (.string ⟨k.toArray⟩) false).run Tryz.prog w = .ok (ptV c) w := by
  obtain ⟨mm, hown, hat⟩ := h
  obtain ⟨v, ps, hrun, hv⟩ := hown.lookup lawS Tryz.underlying72 (zeroPt w) (rdPt_mk Pt.zero) (key_ofS hk)
  obtain ⟨s, rfl, hz⟩ := rdPt_inv hv
  rw [hat] at hz
  unfold lookJ at hc
  rw [hc] at hz
  have hs : s = c := (ptD_inj (Prod.mk.inj hz).1).symm
  rw [← hs]
  exact hrun
set_option maxRecDepth 100000 in
theorem OwnJ.say_run {w : World} {b n : Nat} {E : List (Str × Pt)} (h : OwnJ w b n E) (hn : n < maxLen) (k : Str) (y : Pt) (hk : k.length ≤ maxLen) (hno : lookJ E k = none) :
    ∃ w', (Instr.mapUpdate 72 (.map (some b)) (.string ⟨k.toArray⟩) (ptV y)).run Tryz.prog w = .ok () w' ∧ OwnJ w' b (n + 1) (E ++ [(k, y)]) ∧ w.grownBy w' (some b) := by
  obtain ⟨mm, hown, hat⟩ := h
  obtain ⟨w', hrun, hown', hgr⟩ := hown.update lawS Tryz.underlying72 hn (key_ofS hk) (rdPt_mk y)
  refine ⟨w', hrun, ⟨_, hown', fun k' z => ?_⟩, hgr⟩
  show _ = match lookJ (E ++ [(k, y)]) k' with | some v => ptD v | none => z
  rw [lookJ_append]
  by_cases he : k' = k
  · subst he
    rw [atKey_put_same hown.isMap (strLit _), hno]
    simp [lookJ]
  · rw [atKey_put_other (fun e => he (by simpa using e)), hat]
    show (match lookJ E k' with | some v => ptD v | none => z) = _
    cases hl : lookJ E k' with
    | some u => rfl
    | none => simp [lookJ, Ne.symm he]
/-- the keys of the map's datum -/
theorem OwnJ.keys {w : World} {b n : Nat} {E : List (Str × Pt)} {m : DataW Unit} (hown : w.ownsMap Tryz.prog 9 rdPt b n m) (hat : ∀ k z, m.atKey (.string k) z = match (E.find? (fun p => p.1 == k)).map (·.2) with | some v => ptD v | none => z) (hn : (E.map (·.1)).Nodup) : (E.map (·.1)).Perm (strKeys m) := by
  obtain ⟨es, hD, hpw, _⟩ := hown.entries lawS
  obtain ⟨es', hD', hko⟩ := hown.keysOf
  obtain rfl : es = es' := by rw [hD] at hD'; simpa using hD'
  subst hD
  refine perm_strKeys hpw (fun p hp => by obtain ⟨v, hv⟩ := hko p hp; obtain ⟨x, _, hx, _⟩ := Maps.keyOf_str Tryz.underlying9 hv; exact ⟨x, hx⟩) hn (fun x => ?_)
  have hl : ∀ z, (DataW.map es).atKey (.string x) z = match lookJ E x with | some v => ptD v | none => z := hat x
  cases hx : lookJ E x with
  | some v => rw [has_true_of_atKey (y := ptD v) (fun z => by rw [hl, hx])]; exact ⟨fun _ => rfl, fun _ => lookJ_some (by rw [hx]; rfl)⟩
  | none =>
    rw [has_false_of_atKey (fun z => by rw [hl, hx])]
    exact ⟨fun h => (by have := lookJ_mem h; rw [hx] at this; cases this), fun h => by cases h⟩

/-- slices.Sort's two contracts here, at the fence that asks nothing. -/
theorem sortsA (m : Nat) : AnyZ.SortsIn Tryz.prog Tryz.sortedA_ren Fence.wide m :=
  ⟨fun blk off cap ss W hH hblk hsz => callsIn_wide.2 (AnyM.slices_Sort_string Tryz.sortA blk off cap ss W hH hblk hsz),
   fun p cap W => callsIn_wide.2 (AnyM.slices_Sort_string_none Tryz.sortA p cap W)⟩
theorem keysC (b : Nat) (W : World) : Calls Tryz.prog 40 #[.map (some b)] W fun e w' => e = .returned (.func (.func 66) #[] #[.pointer (some ⟨W.heap.size, 0, none⟩)]) ∧ w' = W.alloc (.cells #[.map (some b)] 72) := by
  have h := AnyZ.keys_in Tryz.keysA Fence.wide 5 trivial rfl (some b) W
  exact (callsIn_wide (n := 5)).1 h
/-- the keys, sorted -/
def srtT (l : List Str) : List Str := l.mergeSort (fun x y => decide (x ≤ y))
set_option maxHeartbeats 1000000 in
theorem sortedC {w : World} {b n : Nat} {E : List (Str × Pt)} (h : OwnJ w b n E) (hn : (E.map (·.1)).Nodup) (hsz : E.length ≤ 1000) :
    Calls Tryz.prog 39 #[.func (.func 66) #[] #[.pointer (some ⟨w.heap.size, 0, none⟩)]] (w.alloc (.cells #[.map (some b)] 72)) fun e w' =>
      ∃ v, e = .returned v ∧ OwnS w' (w.heap.size + 1) v (srtT (E.map (·.1))) ∧ Below (w.heap.size + 1) (w.alloc (.cells #[.map (some b)] 72)) w' := by
  obtain ⟨m, hown, hat⟩ := h
  have hp := OwnJ.keys hown hat hn
  have hlen : Maps.size m = E.length := by
    obtain ⟨es, rfl, _⟩ := hown.keysOf
    have := hp.length_eq
    simp [strKeys] at this
    simp [Maps.size, this]
  have hbl := hown.lt
  have hseq : SeqGives Fence.wide 2 Tryz.prog 66 #[.pointer (some ⟨w.heap.size, 0, none⟩)] encStr (fun ss => ss.Perm (strKeys m)) (Maps.size m) (w.alloc (.cells #[.map (some b)] 72)) :=
    AnyZ.keys_gives (ρ := Tryz.keysA_ren) { Tryz.keysA with } Fence.wide _ trivial rfl (by omega) w.heap.size b n m _ (by simp) (by simp) (by
      obtain ⟨es, clock, hb, Ft, hs, hD⟩ := hown
      exact ⟨es, clock, (Below.heap_alloc _ _ b hbl).trans hb, Ft, hs, hD⟩)
  have cS := AnyZ.sorted_in Tryz.sortedA Fence.wide 5 trivial trivial trivial trivial rfl (by omega) (sortsA _) (enters_of Tryz.func65 (by kernel_rfl) rfl) 66 #[.pointer (some ⟨w.heap.size, 0, none⟩)] trivial (enters_of Tryz.func66 (by kernel_rfl) rfl) _ _ (by rw [hlen]; unfold maxLen; omega) (by rw [hlen]; omega) _ hseq
  change CallsIn _ _ Tryz.prog 39 _ _ _ at cS
  have hs : (w.alloc (.cells #[.map (some b)] 72)).heap.size = w.heap.size + 1 := by simp
  refine ((callsIn_wide (n := 5)).1 cS).mono ?_
  rintro e w' ⟨v, ss, rfl, hS, hrow, hnil, hb⟩
  rw [hs] at hrow hb
  refine ⟨v, rfl, ?_, hb⟩
  have hsrt : ss.mergeSort (fun x y => decide (x ≤ y)) = srtT (E.map (·.1)) := mergeSort_of_perm (hS.trans hp.symm)
  rw [hsrt] at hrow
  have hl2 : ss.length = (srtT (E.map (·.1))).length := by unfold srtT; rw [List.length_mergeSort]; exact (hS.trans hp.symm).length_eq
  exact own_cast hrow hl2.symm rfl

set_option maxRecDepth 100000 in
/-- the step of a range over what is said -/
theorem wpList_next_pp {w : World} {ops : Array Oper} {rest : List Oper} {o : Oper} {a : Act} {Q : Exit → Act → World → Prop} (hg : o.guard = none) (it : Operand) (hop : o.op = Op.next it false)
    (b r n : Nat) (m : DataW Unit) (left : Lit → Bool) (cnt : Nat) (hit : a.eval it = .pointer (some ⟨r, 0, none⟩)) (h : w.ranges Tryz.prog 57 rdPt b r n m left cnt)
    (hDone : cnt = 0 → (∀ kl, left kl = false) → wpList Tryz.prog ops Q rest (a.put o.dst (.tuple #[.bool false])) w)
    (hMore : ∀ (x c : Pt) (w' : World) (cnt' : Nat), PtSz x → left (kL x) = true → (∀ zd, m.atKey (kL x) zd = ptD c) → w'.ranges Tryz.prog 57 rdPt b r n m (fun z => left z && !z.sameKey (kL x)) cnt' → cnt' < cnt →
      w.grownBy w' (some r) → w'.heap.size = w.heap.size → (Instr.entry (.pointer (some ⟨r, 0, none⟩))).run Tryz.prog w' = .ok (.tuple #[ptV x, ptV c]) w' → wpList Tryz.prog ops Q rest (a.put o.dst (.tuple #[.bool true, ptV x, ptV c])) w') :
    wpList Tryz.prog ops Q (o :: rest) a w :=
  wpList_next_ranges w hg it hop 57 lawPt rdPt ptV ptV
    (fun key kl hkey => by obtain ⟨p, rfl, _⟩ := keyP_inv hkey; exact ⟨p, rfl⟩)
    (fun v y hv => by obtain ⟨c, rfl, _⟩ := rdPt_inv hv; exact ⟨c, rfl⟩)
    b r n m left cnt hit h hDone (fun x c kl y w' cnt' hkey hlk hv hat hrg hlt hgr hsz hen => by
      obtain ⟨p, e1, hp⟩ := keyP_inv hkey
      obtain rfl := ptV_inj e1
      have e2 := key_ofP hp
      rw [hkey] at e2
      obtain rfl := Option.some.inj e2
      obtain ⟨c', ec, hy⟩ := rdPt_inv hv
      obtain rfl := ptV_inj ec
      exact hMore x c w' cnt' hp hlk (fun zd => by rw [hat zd, hy]) hrg hlt hgr hsz hen)
end Go.Proofs.YtlmgmifaknlolaaGreat

/- The contract of likely.Said. -/
set_option linter.unusedVariables false
set_option linter.unusedSimpArgs false
namespace Go.Proofs.YtlmgmifaknlolaaGreat
open Go.RowKit Go.Lib Go.Sort Go.Maps Go.WideMaps

theorem nodup_of_map {α β : Type} {f : α → β} {l : List α} (h : (l.map f).Nodup) : l.Nodup := by
  unfold List.Nodup at *
  rw [List.pairwise_map] at h
  exact h.imp (fun hne e => hne (by rw [e]))
theorem nodup_len {α : Type} [DecidableEq α] : ∀ (l R : List α), l.Nodup → (∀ x ∈ l, x ∈ R) → l.length ≤ R.length
  | [], R, _, _ => Nat.zero_le _
  | x :: l, R, hn, hs => by
    rw [List.nodup_cons] at hn
    have hx := hs x List.mem_cons_self
    have h2 := nodup_len l (R.erase x) hn.2 fun y hy => (List.mem_erase_of_ne (fun e => hn.1 (by rw [← e]; exact hy))).2 (hs y (List.mem_cons_of_mem _ hy))
    rw [List.length_erase_of_mem hx] at h2
    have : 0 < R.length := List.length_pos_of_mem hx
    rw [List.length_cons]; omega
theorem key_injD {D : List (Pt × Pt)} (hD : goodD D) {x y : Pt × Pt} (hx : x ∈ D) (hy : y ∈ D) (h : ptKey x.1 = ptKey y.1) : x.1 = y.1 := by
  have h1 := key_back (hD x hx).1
  have h2 := key_back (hD y hy).1
  rw [h, h2] at h1
  exact ((Prod.mk.inj h1).1).symm
theorem told_nodup {D : List (Pt × Pt)} (hS : saidP D) (hD : goodD D) : ((toldP D).map (·.1)).Nodup := by
  unfold toldP
  rw [List.map_map]
  unfold List.Nodup
  rw [List.pairwise_map]
  exact hS.2.imp_of_mem (fun {a b} ha hb hne e => hne (key_injD hD ha hb e))
def pairJ (E : List (Str × Pt)) (k : Str) : Str × Str := (k, ptKey ((lookJ E k).getD Pt.zero))
theorem said_eq {D : List (Pt × Pt)} {E : List (Str × Pt)} (hS : saidP D) (hD : goodD D) (hn : (E.map (·.1)).Nodup) (hm : ∀ p : Str × Pt, p ∈ E ↔ ∃ x, (x, p.2) ∈ D ∧ p.1 = ptKey x) :
    (srtT (E.map (·.1))).map (pairJ E) = srtK (toldP D) := by
  have hnE : E.Nodup := nodup_of_map hn
  have htn := told_nodup hS hD
  have hF : (E.map fun p => (p.1, ptKey p.2)).Perm (toldP D) := by
    have hDn : (D.map fun x => (ptKey x.1, x.2)).Nodup := by
      refine nodup_of_map (f := fun p : Str × Pt => p.1) ?_
      rw [List.map_map]
      have := htn
      unfold toldP at this
      rw [List.map_map] at this
      exact this
    have hp : E.Perm (D.map fun x => (ptKey x.1, x.2)) := by
      refine (List.perm_ext_iff_of_nodup hnE hDn).2 fun p => ?_
      rw [hm, List.mem_map]
      constructor
      · rintro ⟨x, hx, he⟩
        exact ⟨(x, p.2), hx, by rw [← he]⟩
      · rintro ⟨x, hx, rfl⟩
        exact ⟨x.1, hx, rfl⟩
    have := hp.map (fun p => (p.1, ptKey p.2))
    rw [List.map_map] at this
    exact this
  refine srtK_one (toldP D) _ ?_ htn ?_
  · refine (((List.mergeSort_perm (E.map (·.1)) _).map (pairJ E)).trans ?_).trans hF
    rw [List.map_map]
    refine List.Perm.of_eq (List.map_congr_left fun p hp => ?_)
    show (p.1, ptKey ((lookJ E p.1).getD Pt.zero)) = (p.1, ptKey p.2)
    rw [lookJ_is hn hp]; rfl
  · have tr : ∀ a b c : Str, (decide (a ≤ b)) = true → (decide (b ≤ c)) = true → (decide (a ≤ c)) = true := fun a b c h1 h2 => by simp only [decide_eq_true_eq] at *; exact List.le_trans h1 h2
    have tt : ∀ a b : Str, (decide (a ≤ b) || decide (b ≤ a)) = true := fun a b => by simp only [Bool.or_eq_true, decide_eq_true_eq]; exact List.le_total a b
    have hs := List.pairwise_mergeSort tr tt (E.map (·.1))
    rw [List.pairwise_map]
    refine hs.imp (fun {a b} h => ?_)
    simp only [decide_eq_true_eq] at h
    exact List.not_lt.2 h

/-- the state of Said's first loop -/
structure SaidSt (kf : Pt → Lit) (w : World) (D : List (Pt × Pt)) (bm n : Nat) (m : DataW Unit) (g : Nat) (W : World) (left : Lit → Bool) (cnt : Nat) (E : List (Str × Pt)) : Prop where
  rng : W.ranges Tryz.prog 57 rdPt bm (w.heap.size + 1) n m left cnt
  gas : cnt ≤ g
  own : OwnJ W w.heap.size E.length E
  nd : (E.map (·.1)).Nodup
  mem : ∀ p : Str × Pt, p ∈ E ↔ ∃ x, (x, p.2) ∈ D ∧ p.1 = ptKey x ∧ left (kf x) = false
  bel : Below w.heap.size w W
theorem SaidSt.len {kf : Pt → Lit} {w W : World} {D : List (Pt × Pt)} {bm n g cnt : Nat} {m : DataW Unit} {left : Lit → Bool} {E : List (Str × Pt)} (h : SaidSt kf w D bm n m g W left cnt E) : E.length ≤ D.length := by
  have h1 : ∀ p ∈ E, p ∈ D.map fun x => (ptKey x.1, x.2) := fun p hp => by
    obtain ⟨x, hx, he, _⟩ := (h.mem p).1 hp
    exact List.mem_map.2 ⟨(x, p.2), hx, by rw [← he]⟩
  have h2 : E.Nodup := nodup_of_map h.nd
  generalize hF : (D.map fun x => (ptKey x.1, x.2)) = F at *
  have h3 : F.length = D.length := by rw [← hF, List.length_map]
  rw [← h3]
  exact nodup_len E F h2 h1
theorem said_mem {D : List (Pt × Pt)} {E : List (Str × Pt)} {left : Lit → Bool} {x c : Pt} {kf : Pt → Lit} (hS : saidP D) (hD : goodD D) (hm : ∀ p : Str × Pt, p ∈ E ↔ ∃ x, (x, p.2) ∈ D ∧ p.1 = ptKey x ∧ left (kf x) = false) (hl : left (kf x) = true) (hx : (x, c) ∈ D) (hk : ∀ y ∈ D, ((kf y.1).sameKey (kf x) = true ↔ y.1 = x)) :
    (∀ p ∈ E, p.1 ≠ ptKey x) ∧ ∀ p : Str × Pt, p ∈ E ++ [(ptKey x, c)] ↔ ∃ y, (y, p.2) ∈ D ∧ p.1 = ptKey y ∧ (left (kf y) && !(kf y).sameKey (kf x)) = false := by
  have hne : ∀ p ∈ E, p.1 ≠ ptKey x := fun p hp e => by
    obtain ⟨y, hy, he, hly⟩ := (hm p).1 hp
    have : y = x := key_injD (x := (y, p.2)) (y := (x, c)) hD hy hx (by rw [← he, e])
    rw [this, hl] at hly
    cases hly
  refine ⟨hne, fun p => ?_⟩
  rw [List.mem_append, hm, List.mem_singleton]
  constructor
  · rintro (⟨y, hy, he, hl2⟩ | rfl)
    · exact ⟨y, hy, he, by rw [hl2]; rfl⟩
    · exact ⟨x, hx, rfl, by rw [(hk _ hx).2 rfl]; simp⟩
  · rintro ⟨y, hy, he, hl2⟩
    by_cases e : y = x
    · right
      have h1 := lookP_is hS.2 hy
      have h2 := lookP_is hS.2 hx
      simp only at h1 h2
      rw [e, h2] at h1
      obtain ⟨p1, p2⟩ := p
      simp only at he h1 ⊢
      rw [he, e, Option.some.inj h1]
    · left
      refine ⟨y, hy, he, ?_⟩
      have h3 : (kf y).sameKey (kf x) = false := by
        cases h : (kf y).sameKey (kf x) with
        | true => exact absurd ((hk _ hy).1 h) e
        | false => rfl
      rw [h3] at hl2
      simpa using hl2
set_option maxRecDepth 100000 in
theorem kL_same {x y : Pt} (hx : PtSz x) (hy : PtSz y) : (kL y).sameKey (kL x) = true ↔ y = x :=
  ⟨fun h => kL_inj hy hx ((WideAt.sameKey_iff (kL_lit hx)).1 h), fun h => (WideAt.sameKey_iff (kL_lit hx)).2 (congrArg kL h)⟩
theorem ptsz_of {D : List (Pt × Pt)} (hD : goodD D) : ∀ y ∈ D, PtSz y.1 := fun y hy => good_ptsz (hD y hy).1
theorem key_wr {p : Pt} (h : Good p.tag) : (writeF p.tag).length ≤ 140737488355328 := Nat.le_trans h.write (by decide)
theorem key_le {p : Pt} (h : Good p.tag) : (ptKey p).length ≤ maxLen := by
  unfold ptKey
  rw [good_print _ h]
  have := h.write
  unfold maxLen
  simp only
  omega

set_option maxRecDepth 100000 in
set_option maxHeartbeats 16000000 in
theorem tsaid_any (w : World) (v : Value) (D : List (Pt × Pt)) (hL : LkRd w v D) (hS : saidP D) (hD : goodD D) (hsz : D.length ≤ 40) :
    Calls Tryz.prog 23 #[v] w fun e w' => ∃ vv, e = .returned vv ∧ OwnP w' w.heap.size vv (srtK (toldP D)) ∧ Below w.heap.size w w' := by
  have hmm := @run_makeMap Tryz.prog
  obtain ⟨bc, bm, n, rfl, hlt, hc, m, hown, hat⟩ := hL
  have HSD := hid hS
  have HD := hid hD
  have HSZ := hid hsz
  have HAT := hid hat
  have HPS := hid (ptsz_of hD)
  have KY := hid (fun W (p : Pt) (h : Good p.tag) => key_any W p (key_wr h))
  have hbl := hown.lt
  have HJ1 := hid (OwnJ.made w)
  have hb1 : Below w.heap.size w (w.alloc (.map #[] 0)) := (Below.refl _ _).alloc (Nat.le_refl _) _
  have HB1 := hid hb1
  have HOWN := hid (ownsMap_block hown (hb1.block bm hbl))
  have hc1 : (w.alloc (.map #[] 0)).cell? ⟨bc, 0, none⟩ = some (.map (some bm)) := (hb1.cell (p := ⟨bc, 0, none⟩) hlt).trans hc
  have hlt1 : bc < (w.alloc (.map #[] 0)).heap.size := Nat.lt_of_lt_of_le hlt hb1.size
  have hs1 : (w.alloc (.map #[] 0)).heap.size = w.heap.size + 1 := by simp
  have HS1 := hid hs1
  clear hS hD hsz hat hown hb1 hc hlt hs1
  go_enter Tryz.func23, Tryz.ntmps23
  go_upto_region 4 with fail
  generalize w.alloc (.map #[] 0) = w1 at *
  go_wp2_with (at_range; refine wpList_range_own _ rfl _ 68 rfl 57 57 lawPt Tryz.underlying68 _ bm n m rfl HOWN.out ?_; intro w2 hrg0 hg0 hs0)
  obtain ⟨kf, hkf⟩ : ∃ kf, kf = kL := ⟨_, rfl⟩
  have HKF := hid hkf
  have hstart : SaidSt kf w D bm n m (Maps.size m) w2 (Maps.has m) (Maps.size m) [] := by
    have h1 := HS1.out
    rw [h1] at hrg0
    refine ⟨hrg0, Nat.le_refl _, ?_, List.nodup_nil, (fun p => ⟨fun h => (by cases h), fun ⟨x, hx, _, h2⟩ => ?_⟩), HB1.out.grown hg0 HB1.out.size (fun j hj => by cases hj)⟩
    · exact HJ1.out.block (hg0.block _ (by omega) (by simp))
    · have h3 := lookP_is HSD.out.2 hx
      rw [HKF.out, has_true_of_atKey (y := ptD p.2) (fun z => by rw [HAT.out _ _ (HPS.out _ hx), h3])] at h2
      cases h2
  have ST0 := hid hstart
  go_frame
  clear hrg0 hg0 hs0 hstart HJ1 HB1
  obtain ⟨N, hN⟩ : ∃ N, N = Maps.size m := ⟨_, rfl⟩
  have HN := hid hN
  clear hN hkf
  go_loopg [] N (fun g W => ∃ left cnt E, SaidSt kf w D bm n m g W left cnt E)
  case atStart => exact ⟨_, _, _, by rw [HN.out]; exact ST0.out⟩
  case round =>
    obtain ⟨left, cnt, E, st⟩ := hrel
    rename World => w3
    have ST := hid st
    clear st ST0
    go_wp2_with (at_next; refine wpList_next_pp rfl _ rfl bm (w.heap.size + 1) n m left cnt (by rw [← HS1.out]; rfl) ST.out.rng ?_ ?_)
    · intro _ hl0
      have HEQ := hid (said_eq HSD.out HD.out ST.out.nd (fun p => by rw [ST.out.mem]; simp [hl0]))
      have HJ3 := hid ST.out.own
      have HB3 := hid ST.out.bel
      have HN3 := hid ST.out.nd
      have HL3 := hid (show E.length ≤ 1000 by have := ST.out.len; have := HSZ.out; omega)
      have HME := hid (fun p hp => (ST.out.mem p).1 hp)
      have SC := hid (sortedC HJ3.out HN3.out HL3.out)
      clear hl0 ST
      go_wp2_with fail
      refine (keysC w.heap.size w3).mono ?_
      rintro e w4 ⟨rfl, rfl⟩
      have hb4 : Below w3.heap.size w3 (w3.alloc (.cells #[.map (some w.heap.size)] 72)) := (Below.refl _ _).alloc (Nat.le_refl _) _
      have HB4 := hid (HB3.out.then hb4)
      have HJ4 := hid (HJ3.out.below hb4)
      have hs4 : (w3.alloc (.cells #[.map (some w.heap.size)] 72)).heap.size = w3.heap.size + 1 := by simp
      have HS4 := hid hs4
      clear hb4 hs4
      go_wp2_with fail
      refine SC.out.mono ?_
      rintro e w5 ⟨vk, rfl, ok, hb5⟩
      obtain ⟨ak, ck, rfl⟩ := own_sliceS ok
      have hb5' : Below w3.heap.size w3 w5 := ((Below.refl w3.heap.size w3).alloc (Nat.le_refl _) _).trans (hb5.mono (Nat.le_succ _))
      have HB5 := hid (HB3.out.then hb5')
      have HJ5 := hid (HJ3.out.below hb5')
      have HR5 := hid ok.rd
      have HEQ2 := hid HEQ.out
      generalize hks : srtT (E.map (·.1)) = ks at *
      have HKS := hid hks
      have HKL2 := hid (show ks.length ≤ 1000 by rw [← hks]; unfold srtT; rw [List.length_mergeSort, List.length_map]; exact HL3.out)
      have HLK := hid (show ∀ k ∈ ks, ∃ c : Pt, lookJ E k = some c ∧ Good c.tag ∧ k.length ≤ maxLen from fun k hk => by
        rw [← hks] at hk
        have hk2 : k ∈ E.map (·.1) := (List.mergeSort_perm (E.map (·.1)) _).mem_iff.1 hk
        obtain ⟨p, hp, rfl⟩ := List.mem_map.1 hk2
        obtain ⟨x, hx, he, _⟩ := HME.out p hp
        exact ⟨p.2, lookJ_is HN3.out hp, (HD.out _ hx).2, by rw [he]; exact key_le (HD.out _ hx).1⟩)
      clear hks hb5 hb5' ok SC HB3 HJ3 HB4 HJ4 HS4 HME HN3 HL3
      obtain ⟨ak', ck', hv, hlen, hcell⟩ := HR5.out
      cases hv
      have HCELL := hid hcell
      have hkb : ks.length ≤ 9223372036854775807 := hlen.1
      clear hcell hlen
      go_wp2_with fail
      go_loopg [6, 30] ks.length (fun g vo vi W => ∃ n2 : Nat, n2 ≤ ks.length ∧ ks.length ≤ n2 + g ∧ vi = .int .i64 n2 ∧ OwnP W w5.heap.size vo ((ks.take n2).map (pairJ E)) ∧ Below w5.heap.size w5 W)
      case atStart => exact ⟨0, Nat.zero_le _, by omega, rfl, World.ownsRow_nil _ _ _ _, Below.refl _ _⟩
      case round =>
        obtain ⟨n2, hn2, hg2, rfl, own, hb⟩ := hrel
        rename World => w6
        have HO := hid own
        have HB6 := hid hb
        have HG2 := hid hg2
        clear own hb hg2
        by_cases hlt2 : n2 < ks.length
        · have hne : ks ≠ [] := by intro e; rw [e] at hlt2; simp at hlt2
          obtain ⟨p1, o1, rfl, hp1, hc1⟩ := HCELL.out hne
          obtain ⟨k, hk⟩ : ∃ k, k = ks[n2]'hlt2 := ⟨_, rfl⟩
          have q1 := (HB6.out.cell (p := ⟨p1, o1 + n2, none⟩) hp1).trans (hc1 n2 _ (List.getElem?_eq_getElem hlt2))
          rw [← hk, S] at q1
          obtain ⟨c, hlc, hgc, hkl⟩ := HLK.out k (by rw [hk]; exact List.getElem_mem hlt2)
          have HST2 := hid (show (ks.take (n2 + 1)).map (pairJ E) = (ks.take n2).map (pairJ E) ++ [(k, ptKey c)] by
            rw [List.take_add_one, List.getElem?_eq_getElem hlt2, List.map_append, ← hk]
            show _ ++ [pairJ E k] = _
            unfold pairJ
            rw [hlc]; rfl)
          have hlook := (HJ5.out.below HB6.out).look_run k hkl hlc
          have KC := hid (KY.out w6 c hgc)
          have hni : (n2 : Int) < (ks.length : Int) := by omega
          have hn0 : (0 : Int) ≤ (n2 : Int) := by omega
          have hll : ((ks.take n2).map (pairJ E)).length ≤ 1000000 := by have := HKL2.out; rw [List.length_map, List.length_take]; omega
          have HLL := hid hll
          obtain ⟨cl, cs, cr⟩ := c
          simp only [ptV, S] at hlook KC
          clear hk hlc hgc hkl hc1 hne hll
          go_wp2_with fail
          refine KC.out.mono ?_
          rintro e w7 ⟨rfl, hb7⟩
          have HO7 := hid (own_below HO.out hb7)
          have HB7 := hid (HB6.out.then hb7)
          have HSZ7 := hid (show w5.heap.size ≤ w7.heap.size from HB7.out.size)
          clear hlook hb7 KC q1
          go_wp2_with (at_builtin; refine wpList_pushP rfl (.tmp 34) (.tmp 41) rfl w5.heap.size _ ((ks.take n2).map (pairJ E)) (k, ptKey ⟨cl, cs, cr⟩) rfl HO7.out rfl HLL.out HSZ7.out ?_; intro v8 w8 own8 gr8 mv8)
          have HO8 := hid own8
          have HB8 := hid (HB7.out.grown gr8 HSZ7.out (fun j hj => (World.ownsRow.lt HO7.out _ hj).1))
          clear own8 gr8 mv8
          go_wp2_with fail
          go_roundg (gk - 1)
          case measure => have := HG2.out; omega
          case rel => exact ⟨n2 + 1, by omega, by have := HG2.out; omega, by simp, by rw [HST2.out]; exact HO8.out, HB8.out⟩
        · have hnl : n2 = ks.length := by omega
          subst hnl
          go_wp2_with fail
          go_ret
          refine ⟨_, rfl, ownP_mono (C := w.heap.size) ?_ HB5.out.size, HB5.out.then HB6.out⟩
          have h := HO.out
          rw [List.take_length, HEQ2.out] at h
          exact h
    · intro x c w4 cnt1 hxz hlx hatx hrg1 hlt1 hg1 hs1 hen
      have hlk : lookP D x = some c := by
        have h1 := hatx .nil
        rw [HAT.out _ _ hxz] at h1
        cases hl : lookP D x with
        | some y => rw [hl] at h1; rw [ptD_inj h1]
        | none => rw [hl] at h1; cases h1
      have hxD := lookP_mem hlk
      have hgx : Good x.tag := (HD.out _ hxD).1
      rw [← HKF.out] at hlx hrg1
      have HMM := hid (said_mem (x := x) (c := c) HSD.out HD.out ST.out.mem hlx hxD (fun y hy => by rw [HKF.out]; exact kL_same hxz (HPS.out _ hy)))
      have HRG4 := hid hrg1
      have hr1 : w.heap.size + 1 < w3.heap.size := ST.out.rng.lt
      have HJ4 := hid (ST.out.own.block (hg1.block _ (by omega) (by simp)))
      have HB4 := hid (ST.out.bel.grown hg1 ST.out.bel.size (fun j hj => by cases hj; omega))
      have HLX := hid hlt1
      have HKL := hid (key_le hgx)
      have HNO := hid (show lookJ E (ptKey x) = none from lookJ_none.2 HMM.out.1)
      have HLE := hid (show E.length < maxLen by have := ST.out.len; have := HSZ.out; unfold maxLen; omega)
      have KX := hid (fun W => KY.out W x hgx)
      obtain ⟨xl, xs, xr⟩ := x
      obtain ⟨cl, cs, cr⟩ := c
      have hs4 : w4.heap.size = w3.heap.size := hs1
      rw [← HS1.out] at hen
      have HS4 := hid (show w.heap.size + 1 < w4.heap.size by rw [hs4]; exact hr1)
      clear hlk hxD hgx hlx hrg1 hr1 hg1 hlt1 hs1 hs4 hatx
      simp only [ptV, S] at hen KX ⊢
      go_upto_region 7 with fail
      have HB5 := hid (below2 w4 (.cells #[.string ⟨xl.toArray⟩, .string ⟨xs.toArray⟩, .string ⟨xr.toArray⟩] 57) (.cells #[.string ⟨cl.toArray⟩, .string ⟨cs.toArray⟩, .string ⟨cr.toArray⟩] 57))
      have HX5 := hid (heap_alloc2_old w4 (.cells #[.string ⟨xl.toArray⟩, .string ⟨xs.toArray⟩, .string ⟨xr.toArray⟩] 57) (.cells #[.string ⟨cl.toArray⟩, .string ⟨cs.toArray⟩, .string ⟨cr.toArray⟩] 57))
      have HC5 := hid (heap_alloc2_new w4 (.cells #[.string ⟨xl.toArray⟩, .string ⟨xs.toArray⟩, .string ⟨xr.toArray⟩] 57) (.cells #[.string ⟨cl.toArray⟩, .string ⟨cs.toArray⟩, .string ⟨cr.toArray⟩] 57))
      generalize (w4.alloc (.cells #[.string ⟨xl.toArray⟩, .string ⟨xs.toArray⟩, .string ⟨xr.toArray⟩] 57)).alloc (.cells #[.string ⟨cl.toArray⟩, .string ⟨cs.toArray⟩, .string ⟨cr.toArray⟩] 57) = w5 at *
      have HJ5 := hid (HJ4.out.below HB5.out)
      clear hen
      have KK : Hid (∀ W, Below w5.heap.size w5 W → Calls Tryz.prog 38 #[.agg #[.string ⟨xl.toArray⟩, .string ⟨xs.toArray⟩, .string ⟨xr.toArray⟩]] W (fun e w' => e = .returned (.string ⟨(ptKey ⟨xl, xs, xr⟩).toArray⟩) ∧ (w'.cell? ⟨w4.heap.size, 0, none⟩ = some (.string ⟨xl.toArray⟩) ∧ w'.cell? ⟨w4.heap.size, 1, none⟩ = some (.string ⟨xs.toArray⟩) ∧ w'.cell? ⟨w4.heap.size, 2, none⟩ = some (.string ⟨xr.toArray⟩) ∧ w'.cell? ⟨w4.heap.size + 1, 0, none⟩ = some (.string ⟨cl.toArray⟩) ∧ w'.cell? ⟨w4.heap.size + 1, 1, none⟩ = some (.string ⟨cs.toArray⟩) ∧ w'.cell? ⟨w4.heap.size + 1, 2, none⟩ = some (.string ⟨cr.toArray⟩)) ∧ Below w5.heap.size w5 w' ∧ ∃ w9, (Instr.mapUpdate 72 (.map (some w.heap.size)) (.string ⟨(ptKey ⟨xl, xs, xr⟩).toArray⟩) (.agg #[.string ⟨cl.toArray⟩, .string ⟨cs.toArray⟩, .string ⟨cr.toArray⟩])).run Tryz.prog w' = .ok () w9 ∧ OwnJ w9 w.heap.size (E.length + 1) (E ++ [(ptKey ⟨xl, xs, xr⟩, ⟨cl, cs, cr⟩)]) ∧ w'.grownBy w9 (some w.heap.size) ∧ (w9.cell? ⟨w4.heap.size, 0, none⟩ = some (.string ⟨xl.toArray⟩) ∧ w9.cell? ⟨w4.heap.size, 1, none⟩ = some (.string ⟨xs.toArray⟩) ∧ w9.cell? ⟨w4.heap.size, 2, none⟩ = some (.string ⟨xr.toArray⟩) ∧ w9.cell? ⟨w4.heap.size + 1, 0, none⟩ = some (.string ⟨cl.toArray⟩) ∧ w9.cell? ⟨w4.heap.size + 1, 1, none⟩ = some (.string ⟨cs.toArray⟩) ∧ w9.cell? ⟨w4.heap.size + 1, 2, none⟩ = some (.string ⟨cr.toArray⟩)))) := fun W hb => by
        refine (KX.out W).mono ?_
        rintro e w' ⟨rfl, hb'⟩
        have hb2 := hb.then hb'
        have hx := (hb2.block _ (lt_of_block HX5.out)).trans HX5.out
        have hc := (hb2.block _ (lt_of_block HC5.out)).trans HC5.out
        obtain ⟨a0, a1, a2⟩ := box3_cells hx
        obtain ⟨b0, b1, b2⟩ := box3_cells hc
        obtain ⟨w9, hrun, ho, hg⟩ := (HJ5.out.below hb2).say_run HLE.out (ptKey ⟨xl, xs, xr⟩) ⟨cl, cs, cr⟩ HKL.out HNO.out
        have h4 := HS4.out
        have hx9 := (hg.block w4.heap.size (lt_of_block hx) (by simp; omega)).trans hx
        have hc9 := (hg.block (w4.heap.size + 1) (lt_of_block hc) (by simp; omega)).trans hc
        obtain ⟨c0, c1, c2⟩ := box3_cells hx9
        obtain ⟨d0, d1, d2⟩ := box3_cells hc9
        exact ⟨rfl, ⟨a0, a1, a2, b0, b1, b2⟩, hb2, w9, hrun, ho, hg, c0, c1, c2, d0, d1, d2⟩
      have hb5d : Below w5.heap.size w5 w5.drew := (Below.refl _ _).drew
      have S0 : w5.drew.cell? ⟨w4.heap.size, 0, none⟩ = some (.string ⟨xl.toArray⟩) ∧ w5.drew.cell? ⟨w4.heap.size, 1, none⟩ = some (.string ⟨xs.toArray⟩) ∧ w5.drew.cell? ⟨w4.heap.size, 2, none⟩ = some (.string ⟨xr.toArray⟩) ∧ w5.drew.cell? ⟨w4.heap.size + 1, 0, none⟩ = some (.string ⟨cl.toArray⟩) ∧ w5.drew.cell? ⟨w4.heap.size + 1, 1, none⟩ = some (.string ⟨cs.toArray⟩) ∧ w5.drew.cell? ⟨w4.heap.size + 1, 2, none⟩ = some (.string ⟨cr.toArray⟩) := by
        obtain ⟨a0, a1, a2⟩ := box3_cells HX5.out
        obtain ⟨b0, b1, b2⟩ := box3_cells HC5.out
        exact ⟨a0, a1, a2, b0, b1, b2⟩
      go_region_held3 (fun W => W.cell? ⟨w4.heap.size, 0, none⟩ = some (.string ⟨xl.toArray⟩) ∧ W.cell? ⟨w4.heap.size, 1, none⟩ = some (.string ⟨xs.toArray⟩) ∧ W.cell? ⟨w4.heap.size, 2, none⟩ = some (.string ⟨xr.toArray⟩) ∧ W.cell? ⟨w4.heap.size + 1, 0, none⟩ = some (.string ⟨cl.toArray⟩) ∧ W.cell? ⟨w4.heap.size + 1, 1, none⟩ = some (.string ⟨cs.toArray⟩) ∧ W.cell? ⟨w4.heap.size + 1, 2, none⟩ = some (.string ⟨cr.toArray⟩)) (first | with_reducible assumption) (first
        | (go_at_call 38; (with_reducible refine (KK.out _ (by assumption)).mono ?_); rintro e w8 ⟨rfl, hs8, hb8, w9, hrun, ho9, hg9, hs9⟩))
      have h4 := HS4.out
      have hgw5 : w4.grownBy w5 none := grown_of_below HB5.out
      have hgw8 : w5.grownBy w8 none := grown_of_below hb8
      have HST := hid (show ∃ left cnt E', SaidSt kf w D bm n m (gk - 1) w9 left cnt E' from ⟨_, cnt1, E ++ [(ptKey ⟨xl, xs, xr⟩, ⟨cl, cs, cr⟩)],
        ((HRG4.out.kept hgw5 (by simp) (by simp)).kept hgw8 (by simp) (by simp)).kept hg9 (by simp; omega) (by simp),
        by have := ST.out.gas; have := HLX.out; omega,
        by rw [List.length_append]; exact ho9,
        by
          rw [List.map_append, List.nodup_append]
          exact ⟨ST.out.nd, by simp, fun p hp q hq => by
            obtain ⟨z, hz, rfl⟩ := List.mem_map.1 hp
            simp at hq
            rw [hq]
            exact HMM.out.1 z hz⟩,
        HMM.out.2,
        ((HB4.out.then HB5.out).then hb8).grown hg9 ((HB4.out.then HB5.out).then hb8).size (fun j hj => by cases hj; exact Nat.le_refl _)⟩)
      have HGK := hid (show gk - 1 < gk by have := ST.out.gas; have := HLX.out; omega)
      clear hs8 hs9 hrun ho9 hg9 hb8 hgw5 hgw8 S0 KK hb5d ST HMM HRG4
      go_wp2_with fail
      go_roundg (gk - 1)
      case measure => exact HGK.out
      case rel => exact HST.out
end Go.Proofs.YtlmgmifaknlolaaGreat
