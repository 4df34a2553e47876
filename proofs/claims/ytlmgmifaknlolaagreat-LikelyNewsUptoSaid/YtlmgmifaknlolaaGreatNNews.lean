/- Several texts in one: LkNewsM, LkSort, LkNews, LikelyNews. (joined by wip/merge.py) -/
import Derived.Test.YtlmgmifaknlolaaGreatNE
import Derived.Laws.OwnMore
import Derived.Test.YtlmgmifaknlolaaGreatShelfV
import Derived.Shelf.SlSortFuncK.WholeK
import Derived.Shelf.GgSortFunc.Tiny
import Derived.Deep.LoopGhost
import Derived.Deep.CutBlock
import Derived.Test.YtlmgmifaknlolaaGreatRows
import Derived.WalkKit
import Derived.ProofKit
import Derived.OpenShut
import Derived.ShutString
import Derived.ChangeOld
import Derived.ChangeSlices
import Derived.ChangeArms
import Derived.Below

/- What the law of likely.New needs of the memory: stores into a list of pairs that the call owns. -/
set_option linter.unusedVariables false
set_option linter.unusedSimpArgs false
namespace Go.Proofs.YtlmgmifaknlolaaGreat
open Go.RowKit Go.Lib Go.Sort Go.Maps

theorem flat2_set1 : ∀ (l : List (Str × Str)) (j : Nat) (h : j < l.length) (k : Str), (flat2 l).set (j * 2) (S k) = flat2 (l.set j (k, (l[j]'h).2))
  | [], j, h, k => by simp at h
  | a :: r, 0, h, k => by simp [flat2, enc2]
  | a :: r, j + 1, h, k => by
    have := flat2_set1 r j (by simpa using h) k
    simp only [flat2, List.flatMap_cons, enc2, List.cons_append, List.nil_append, List.set_cons_succ, List.getElem_cons_succ] at this ⊢
    rw [show (j + 1) * 2 = j * 2 + 1 + 1 by omega, List.set_cons_succ, List.set_cons_succ, this]
theorem flat2_set0 : ∀ (l : List (Str × Str)) (j : Nat) (h : j < l.length) (k v : Str), ((flat2 l).set (j * 2) (S k)).set (j * 2 + 1) (S v) = flat2 (l.set j (k, v))
  | [], j, h, k, v => by simp at h
  | a :: r, 0, h, k, v => by simp [flat2, enc2]
  | a :: r, j + 1, h, k, v => by
    have := flat2_set0 r j (by simpa using h) k v
    simp only [flat2, List.flatMap_cons, enc2, List.cons_append, List.nil_append, List.set_cons_succ] at this ⊢
    rw [show (j + 1) * 2 = j * 2 + 1 + 1 by omega, List.set_cons_succ, List.set_cons_succ, List.set_cons_succ, List.set_cons_succ, this]

/-- the pairs of a list, the first n turned -/
def turnF (f : Str × Str → Str × Str) (l : List (Str × Str)) (n : Nat) : List (Str × Str) := (l.take n).map f ++ l.drop n
theorem turnF_zero (f : Str × Str → Str × Str) (l : List (Str × Str)) : turnF f l 0 = l := by simp [turnF]
theorem turnF_len (f : Str × Str → Str × Str) (l : List (Str × Str)) (n : Nat) : (turnF f l n).length = l.length := by
  simp only [turnF, List.length_append, List.length_map, List.length_take, List.length_drop]; omega
theorem turnF_get (f : Str × Str → Str × Str) (l : List (Str × Str)) (n : Nat) (h : n < l.length) : (turnF f l n)[n]? = some (l[n]'h) := by
  unfold turnF
  rw [List.getElem?_append_right (by simp only [List.length_map, List.length_take]; omega)]
  simp only [List.length_map, List.length_take, List.getElem?_drop]
  rw [show n + (n - min n l.length) = n by omega, List.getElem?_eq_getElem h]
theorem turnF_set (f : Str × Str → Str × Str) (l : List (Str × Str)) (n : Nat) (h : n < l.length) : (turnF f l n).set n (f (l[n]'h)) = turnF f l (n + 1) := by
  unfold turnF
  rw [List.set_append_right _ _ (by simp only [List.length_map, List.length_take]; omega)]
  simp only [List.length_map, List.length_take]
  rw [show n - min n l.length = 0 by omega, List.drop_eq_getElem_cons h, List.set_cons_zero, List.take_add_one, List.getElem?_eq_getElem h, List.map_append, List.append_assoc]
  rfl
def bang (p : Str × Str) : Str × Str := ([33], p.2)
def blank (p : Str × Str) : Str × Str := ([], [])
/-- .. and a last one that is left alone -/
def markF (l : List (Str × Str)) (n : Nat) : List (Str × Str) := turnF bang l n ++ [([126], [])]
theorem markF_len (l : List (Str × Str)) (n : Nat) : (markF l n).length = l.length + 1 := by simp [markF, turnF_len]
theorem markF_zero (l : List (Str × Str)) : markF l 0 = l ++ [([126], [])] := by simp [markF, turnF_zero]
theorem markF_get (l : List (Str × Str)) (n : Nat) (h : n < l.length) : (markF l n)[n]? = some (l[n]'h) := by
  unfold markF; rw [List.getElem?_append_left (by rw [turnF_len]; exact h), turnF_get _ _ _ h]
theorem markF_set (l : List (Str × Str)) (n : Nat) (h : n < l.length) : (markF l n).set n ([33], (l[n]'h).2) = markF l (n + 1) := by
  unfold markF
  rw [List.set_append_left _ _ (by rw [turnF_len]; exact h), ← turnF_set bang l n h]; rfl
theorem markF_last (l : List (Str × Str)) : (markF l l.length)[l.length]? = some ([126], []) := by
  unfold markF; rw [List.getElem?_append_right (by rw [turnF_len]; exact Nat.le_refl _), turnF_len]; simp

theorem OwnP.cells2 {w : World} {B g m c : Nat} {l : List (Str × Str)} (h : OwnP w B (.slice (some ⟨g, 0, none⟩) m c) l) (j : Nat) (k v : Str) (hj : l[j]? = some (k, v)) :
    w.cell? ⟨g, j * 2, none⟩ = some (.string ⟨k.toArray⟩) ∧ w.cell? ⟨g, j * 2 + 1, none⟩ = some (.string ⟨v.toArray⟩) ∧ w.frozen? ⟨g, j * 2, none⟩ = false ∧ w.frozen? ⟨g, j * 2 + 1, none⟩ = false ∧ g < w.heap.size := by
  rcases h.shape with ⟨e, rfl⟩ | ⟨g', cap, cur, e, hB, hg, hn, hm, hs, ht⟩
  · cases e
  · cases e
    obtain ⟨hlt, he⟩ := List.getElem?_eq_some_iff.1 hj
    refine ⟨cells_at hg ht (j * 2) _ ?_, cells_at hg ht (j * 2 + 1) _ ?_, frozen_of_row w g (j * 2) _ _ hg, frozen_of_row w g (j * 2 + 1) _ _ hg, lt_of_block hg⟩
    · have := flat2_get l j 0 hlt (by decide)
      rw [Nat.add_zero] at this
      rw [this, he]; rfl
    · have := flat2_get l j 1 hlt (by decide)
      rw [this, he]; rfl
theorem OwnP.set1 {w : World} {B g c m : Nat} {l l2 : List (Str × Str)} (h : OwnP w B (.slice (some ⟨g, 0, none⟩) m c) l) (hm : m = l.length) (j : Nat) (k : Str) (hj : j < l.length) (hl2 : l.set j (k, (l[j]'hj).2) = l2) :
    OwnP (w.setCell ⟨g, j * 2, none⟩ (.string ⟨k.toArray⟩)) B (.slice (some ⟨g, 0, none⟩) m c) l2 := by
  subst hm
  have := (World.ownsRow.stored h (j * 2) (S k)).1
  rw [flat2_set1 l j hj k, hl2] at this
  exact own_cast this (by rw [← hl2, List.length_set]) rfl
theorem OwnP.set2 {w : World} {B g c m : Nat} {l l2 : List (Str × Str)} (h : OwnP w B (.slice (some ⟨g, 0, none⟩) m c) l) (hm : m = l.length) (j : Nat) (k v : Str) (hj : j < l.length) (hl2 : l.set j (k, v) = l2) :
    OwnP ((w.setCell ⟨g, j * 2, none⟩ (.string ⟨k.toArray⟩)).setCell ⟨g, j * 2 + 1, none⟩ (.string ⟨v.toArray⟩)) B (.slice (some ⟨g, 0, none⟩) m c) l2 := by
  subst hm
  have h1 := (World.ownsRow.stored h (j * 2) (S k)).1
  have := (World.ownsRow.stored h1 (j * 2 + 1) (S v)).1
  rw [flat2_set0 l j hj k v, hl2] at this
  exact own_cast this (by rw [← hl2, List.length_set]) rfl

theorem OwnP.row {w : World} {B g m c : Nat} {l : List (Str × Str)} (h : OwnP w B (.slice (some ⟨g, 0, none⟩) m c) l) : ∃ cur, w.heap[g]? = some (.cells cur 42 (0, 0)) := by
  rcases h.2 with ⟨h1, _⟩ | ⟨g', cap, cur, h1, _, hg, _⟩
  · cases h1
  · simp only [Value.slice.injEq, Option.some.injEq, Addr.mk.injEq, and_true, true_and] at h1
    obtain ⟨rfl, _⟩ := h1
    exact ⟨cur, hg⟩
theorem LkRd.set {w : World} {v : Value} {D : List (Pt × Pt)} {g i : Nat} {x : Value} {s : ByteArray} (h : LkRd w v D) (hc : w.cell? ⟨g, 0, none⟩ = some (.string s)) : LkRd (w.setCell ⟨g, i, none⟩ x) v D := by
  obtain ⟨bc, bm, n, rfl, lt, hcell, hown⟩ := h
  have h1 : bc ≠ g := by rintro rfl; rw [hc] at hcell; cases hcell
  have h2 : bm ≠ g := by
    rintro rfl
    obtain ⟨m, ⟨es, ck, hb, _⟩, _⟩ := hown
    rw [World.cell?] at hc
    simp [hb] at hc
  exact ⟨bc, bm, n, rfl, by simpa using lt, (World.cell?_of_block (heap_setCell_other _ _ _ _ (by simp; exact fun e => absurd e h1))).trans hcell, hown.block (heap_setCell_other _ _ _ _ (by simp; exact h2))⟩

/-- the state of the law's first loop -/
structure NSt (w0 w2 : World) (va : Value) (g cap : Nat) (L : List (Str × Str)) (vc : Value) (bf er i : Nat) (n : Nat) (W : World) : Prop where
  full : OwnP W w2.heap.size (.slice (some ⟨g, 0, none⟩) (L.length + 1) cap) (markF L n)
  own : OwnP W w0.heap.size va L
  low : ∀ k, va.ownBlock = some k → k < w2.heap.size
  lk : er = 0 → LkRd W vc (dOf L)
  fb : W.heap[bf]? = some (.cells #[.int .i64 er, .int .i64 i] 45 (0, 0))
  bel : Below w2.heap.size w2 W

theorem NSt.step {w0 w2 : World} {va : Value} {g cap : Nat} {L : List (Str × Str)} {vc : Value} {bf er i n : Nat} {W : World} (h : NSt w0 w2 va g cap L vc bf er i n W) (hn : n < L.length) :
    NSt w0 w2 va g cap L vc bf er i (n + 1) (W.setCell ⟨g, n * 2, none⟩ (.string ⟨#[33]⟩)) := by
  obtain ⟨hB, hlt⟩ := World.ownsRow.lt h.full g rfl
  obtain ⟨cur, hg0⟩ := h.full.row
  have hne : bf ≠ g := ne_of_types h.fb hg0 (by decide)
  have c0 : ∃ s, W.cell? ⟨g, 0, none⟩ = some (.string s) := by
    cases hm : (markF L n)[0]? with
    | none => rw [List.getElem?_eq_none_iff, markF_len] at hm; omega
    | some p => exact ⟨_, (h.full.cells2 0 p.1 p.2 hm).1⟩
  obtain ⟨s, hs⟩ := c0
  exact ⟨h.full.set1 (markF_len L n).symm n [33] (by rw [markF_len]; omega) (by
      have hg := markF_get L n hn
      obtain ⟨hl, he⟩ := List.getElem?_eq_some_iff.1 hg
      rw [he]; exact markF_set L n hn),
    own_set h.own (b := g) (fun e => by have := h.low _ e; omega) _ _, h.low, fun e => (h.lk e).set hs, (heap_setCell_other _ _ _ _ (by simp; exact fun e => absurd e hne)).trans h.fb, h.bel.setCell (p := ⟨g, n * 2, none⟩) hB _⟩
theorem NSt.drewN {w0 w2 : World} {va : Value} {g cap : Nat} {L : List (Str × Str)} {vc : Value} {bf er i n : Nat} {W : World} (h : NSt w0 w2 va g cap L vc bf er i n W) (q : Nat) : NSt w0 w2 va g cap L vc bf er i n (W.drewN q) :=
  ⟨h.full, h.own, h.low, h.lk, h.fb, h.bel.then ⟨rfl, rfl, rfl, Nat.le_refl _, fun _ _ => rfl⟩⟩
theorem NSt.below {w0 w2 : World} {va : Value} {g cap : Nat} {L : List (Str × Str)} {vc : Value} {bf er i n : Nat} {W W' : World} (h : NSt w0 w2 va g cap L vc bf er i n W) (hb : Below W.heap.size W W') : NSt w0 w2 va g cap L vc bf er i n W' :=
  ⟨own_below h.full hb, own_below h.own hb, h.low, fun e => (h.lk e).below hb, (hb.block _ (lt_of_block h.fb)).trans h.fb, h.bel.then hb⟩

/-- a list of at least one pair that the call owns lies in a block -/
theorem own_full {w : World} {B : Nat} {v : Value} {l : List (Str × Str)} {x : Str × Str} (h : OwnP w B v (l ++ [x])) : ∃ g cap, v = .slice (some ⟨g, 0, none⟩) (l.length + 1) cap ∧ l.length + 1 ≤ cap ∧ cap ≤ maxLen := by
  rcases h.shape with ⟨_, e⟩ | ⟨g, cap, cur, e, _, _, hn, hm, _⟩
  · simp at e
  · rw [List.length_append] at e hn
    exact ⟨g, cap, e, hn, hm⟩
theorem own_some {w : World} {B n c : Nat} {a : Option Addr} {l : List (Str × Str)} (h : OwnP w B (.slice a n c) l) (hne : l ≠ []) : ∃ g, a = some ⟨g, 0, none⟩ := by
  rcases h.shape with ⟨_, e⟩ | ⟨g, cap, cur, e, _⟩
  · exact absurd e hne
  · cases e; exact ⟨g, rfl⟩
theorem made_own {w : World} {Z : Array Value} {n : Nat} (hZ : Z.size = n * 2) (hn : n ≤ 1000) : OwnP (w.alloc (.cells Z 42)) w.heap.size (.slice (some ⟨w.heap.size, 0, none⟩) 0 n) [] :=
  ⟨rfl, Or.inr ⟨w.heap.size, n, Z, rfl, Nat.le_refl _, heap_alloc_new w _, Nat.zero_le _, by unfold maxLen; omega, hZ, by simp [flat2]⟩⟩
theorem made_run (n : Nat) (hn : n ≤ 1000) : ∃ Z : Array Value, Z.size = n * 2 ∧ ∀ W : World, (Instr.makeSlice 22 (.int .i64 0) (.int .i64 (n : Int))).run Tryz.prog W = .ok (.slice (some ⟨W.heap.size, 0, none⟩) 0 n) (W.alloc (.cells Z 42)) := by
  obtain ⟨i0, hi, hz0, hz1, hz2⟩ := info_parts infoP
  refine ⟨madeCells (Value.agg #[.string ⟨#[]⟩, .string ⟨#[]⟩]).cells (n * 2), size_madeCells _ _, fun W => ?_⟩
  have h := run_make (P := Tryz.prog) W 22 42 i0 _ Tryz.underlying22 hi hz0 .i64 .i64 0 (n : Int) (Int.le_refl _) (by omega) (by rw [hz2]; omega) (by omega)
  rw [hz1] at h
  simpa using h

/-- the state of the law's second loop -/
structure NSt2 (w6 : World) (sa aw : Option Addr) (m cs cw b8 : Nat) (M : List (Str × Str)) (n : Nat) (W : World) : Prop where
  said : OwnP W w6.heap.size (.slice sa m cs) (turnF blank M n)
  want : OwnP W w6.heap.size (.slice aw m cw) M
  box : W.heap[b8]? = some (.cells #[.slice aw m cw] 22 (0, 0))
  len : M.length = m
  ne : ∀ k, (Value.slice sa m cs).ownBlock = some k → (Value.slice aw m cw).ownBlock ≠ some k
  bel : Below w6.heap.size w6 W
theorem NSt2.step {w6 : World} {gs : Nat} {aw : Option Addr} {m cs cw b8 n : Nat} {M : List (Str × Str)} {W : World} (h : NSt2 w6 (some ⟨gs, 0, none⟩) aw m cs cw b8 M n W) (hn : n < M.length) :
    NSt2 w6 (some ⟨gs, 0, none⟩) aw m cs cw b8 M (n + 1) ((W.setCell ⟨gs, n * 2, none⟩ (.string ⟨#[]⟩)).setCell ⟨gs, n * 2 + 1, none⟩ (.string ⟨#[]⟩)) := by
  obtain ⟨hB, hlt⟩ := World.ownsRow.lt h.said gs rfl
  obtain ⟨cur, hg0⟩ := h.said.row
  have hne : b8 ≠ gs := ne_of_types h.box hg0 (by decide)
  exact ⟨h.said.set2 (by rw [turnF_len]; exact h.len.symm) n [] [] (by rw [turnF_len]; omega) (turnF_set blank M n hn),
    own_set (own_set h.want (b := gs) (fun e => h.ne gs rfl e) _ _) (b := gs) (fun e => h.ne gs rfl e) _ _,
    (heap_setCell_other _ _ _ _ (by simp; exact fun e => absurd e hne)).trans ((heap_setCell_other _ _ _ _ (by simp; exact fun e => absurd e hne)).trans h.box), h.len, h.ne,
    (h.bel.setCell (p := ⟨gs, n * 2, none⟩) hB _).setCell (p := ⟨gs, n * 2 + 1, none⟩) hB _⟩
theorem NSt2.drewN {w6 : World} {sa aw : Option Addr} {m cs cw b8 n : Nat} {M : List (Str × Str)} {W : World} (h : NSt2 w6 sa aw m cs cw b8 M n W) (q : Nat) : NSt2 w6 sa aw m cs cw b8 M n (W.drewN q) :=
  ⟨h.said, h.want, h.box, h.len, h.ne, h.bel.then ⟨rfl, rfl, rfl, Nat.le_refl _, fun _ _ => rfl⟩⟩
/-- ahead of the loop: the list said, and the one that was sorted -/
theorem NSt2.start {w6 w10 w12 w13 : World} {sa aw : Option Addr} {cs cw b8 : Nat} {L M : List (Str × Str)} (hs : OwnP w10 w6.heap.size (.slice sa L.length cs) M) (hb10 : Below w6.heap.size w6 w10) (hb12 : Below w10.heap.size w10 w12)
    (hw : OwnP w12 w10.heap.size (.slice aw L.length cw) L) (hbx : w12.heap[b8]? = some (.cells #[.slice aw L.length cw] 22 (0, 0))) (h8 : ∀ k, (Value.slice aw L.length cw).ownBlock = some k → k < b8)
    (hw' : OwnP w13 w10.heap.size (.slice aw L.length cw) M) (gr : w12.grownBy w13 (Value.slice aw L.length cw).ownBlock) (hl : M.length = L.length) : NSt2 w6 sa aw L.length cs cw b8 M 0 w13 := by
  have hle := hb10.size
  have ne : ∀ k, (Value.slice sa L.length cs).ownBlock = some k → (Value.slice aw L.length cw).ownBlock ≠ some k := fun k h1 h2 => by
    have := (World.ownsRow.lt hs k h1).2
    have := (World.ownsRow.lt hw k h2).1
    omega
  have hs12 := own_below hs hb12
  refine ⟨?_, ownP_mono hw' hle, ?_, hl, ne, ?_⟩
  · rw [turnF_zero]
    refine World.ownsRow.kept hs12 gr ?_
    cases hk : (Value.slice sa L.length cs).ownBlock with
    | none => exact Or.inl rfl
    | some k => exact Or.inr (fun e => ne k hk e.symm)
  · rw [gr.block b8 (lt_of_block hbx) (fun e => by have := h8 b8 e.symm; omega)]; exact hbx
  · exact (hb10.then hb12).grown gr (Nat.le_trans hle hb12.size) (fun k hk => Nat.le_trans hle (World.ownsRow.lt hw k hk).1)
end Go.Proofs.YtlmgmifaknlolaaGreat

/- sort.Slice over a list of pairs, with the law's own closure (by keys): what the list holds then. -/
set_option linter.unusedVariables false
set_option linter.unusedSimpArgs false
namespace Go.Proofs.YtlmgmifaknlolaaGreat
open Go.Shelf Go.RowKit Go.Lib Go.Sort

noncomputable def lpT : TypeInfo := (Tryz.prog.info? 22).get (by kernel_rfl)
noncomputable def lpE : TypeInfo := (Tryz.prog.info? 42).get (by kernel_rfl)
/-- by keys -/
def ltK (x y : Str × Str) : Bool := decide (x.1 < y.1)
theorem swo_ltK : SWO ltK := by
  refine ⟨fun x => ?_, fun x y z h1 h2 => ?_, fun x y z h1 h2 => ?_⟩
  · simp [ltK]
  · simp only [ltK, decide_eq_true_eq] at *; exact List.lt_trans h1 h2
  · simp only [ltK, decide_eq_false_iff_not] at *; exact fun h => by
      have a1 := List.not_lt.1 h1
      have a2 := List.not_lt.1 h2
      exact absurd (List.le_trans a2 a1) (List.not_le.2 h)

set_option maxHeartbeats 4000000 in
/-- the law's own closure: is want[i].Key < want[j].Key? -/
theorem less_pairs (blk c Bs size : Nat) (W : World) (G : Nat → Str) (hs : W.cell? ⟨Bs, 0, none⟩ = some (.slice (some ⟨blk, 0, none⟩) size c))
    (hc : ∀ t, t < size → W.cell? ⟨blk, 0 + t * 2, none⟩ = some (.string ⟨(G t).toArray⟩)) (i j : Nat) (hi : i < size) (hj : j < size) (_hsz : size < 4611686018427387904) :
    Calls Tryz.prog 26 #[.int .i64 i, .int .i64 j, .pointer (some ⟨Bs, 0, none⟩)] W fun e w' => e = .returned (.bool (decide (G i < G j))) ∧ ∃ q, w' = W.drewN q := by
  have ci := hc i hi
  have cj := hc j hj
  generalize G i = gi at *
  generalize G j = gj at *
  clear hc
  rw [Nat.zero_add] at ci cj
  go_enter Tryz.func26, Tryz.ntmps26
  go_wp2
  go_quiet (fail)
  go_wp2
  go_ret
  exact ⟨ret_bool (Proofs.bytesLess_eq _ _), nq, rfl⟩

theorem lpK (n : Nat) (h2 : 2 ≤ n) : Lib.swapperK n lpE 25 = 9 := by
  have a : lpE.hasPointers = true := by kernel_rfl
  have b : lpE.bytes = 32 := by kernel_rfl
  have c : (n == 0) = false := by simp; omega
  have d : (n == 1) = false := by simp; omega
  simp [Lib.swapperK, a, b, c, d]

/-- what the call leaves: a list of the same pairs, in the order of their keys -/
def Sorted2 (w : World) (B : Nat) (v : Value) (l : List (Str × Str)) (e : Ending) (w' : World) : Prop :=
  e = .returned (.tuple #[]) ∧ (∃ l' : List (Str × Str), l'.Perm l ∧ l'.Pairwise (fun a b => ¬ b.1 < a.1) ∧ OwnP w' B v l') ∧ w.grownBy w' v.ownBlock

theorem pair_one {l : List (Str × Str)} (hl : l.length ≤ 1) : l.Pairwise (fun a b => ¬ b.1 < a.1) := by
  match l, hl with
  | [], _ => exact List.Pairwise.nil
  | [a], _ => exact List.pairwise_singleton _ _
  | a :: b :: r, hl => simp at hl
set_option maxHeartbeats 1000000 in
set_option maxRecDepth 100000 in
theorem sort_tiny (w : World) (B : Nat) (p : Option Addr) (c : Nat) (l : List (Str × Str)) (h : OwnP w B (.slice p l.length c) l) (hl : l.length ≤ 1) (lb : Array Value) (f : Nat)
    (hf : Tryz.prog.funcs.findIdx? (·.name == "internal/reflectlite" ++ ".Swapper$" ++ toString (Lib.swapperK l.length lpE 25)) = some f) :
    Calls Tryz.prog 25 #[.iface 22 (.slice p l.length c), .func (.func 26) #[] lb] w fun e w' => Sorted2 w B (.slice p l.length c) l e w' := by
  have hT := Any.sort_Slice_tiny Tryz.sv6 22 42 lpT lpE (by kernel_rfl) (by kernel_rfl) (by kernel_rfl) (by kernel_rfl) 25 (fun _ => by kernel_rfl) p l.length c hl f hf (.func 26) #[] lb w
  change Calls Tryz.prog 25 _ _ _ at hT
  refine hT.mono ?_
  rintro e w' ⟨rfl, os, rfl⟩
  have gb : Below w.heap.size w (grow w os) := ⟨rfl, rfl, rfl, by simp, fun k hk => heap_grow_old _ _ hk⟩
  exact ⟨rfl, ⟨l, List.Perm.refl _, pair_one hl, own_below h gb⟩, ⟨gb.os, gb.tape, gb.output, gb.size, fun k hk _ => gb.block k hk⟩⟩

set_option maxRecDepth 100000 in
theorem sort_two (w : World) (B : Nat) (g cap : Nat) (cur : Array Value) (l : List (Str × Str)) (hB : B ≤ g) (hg : w.heap[g]? = some (.cells cur 42 (0, 0))) (hn : l.length ≤ cap) (hm : cap ≤ maxLen) (hs : cur.size = cap * 2) (ht : cur.toList.take (l.length * 2) = flat2 l)
    (h2 : 2 ≤ l.length) (hl : l.length ≤ 1000) (Bs : Nat) (hbs : w.cell? ⟨Bs, 0, none⟩ = some (.slice (some ⟨g, 0, none⟩) l.length cap)) (hb1 : Bs < w.heap.size) (hb2 : Bs ≠ g) :
    Calls Tryz.prog 25 #[.iface 22 (.slice (some ⟨g, 0, none⟩) l.length cap), .func (.func 26) #[] #[.pointer (some ⟨Bs, 0, none⟩)]] w fun e w' => Sorted2 w B (.slice (some ⟨g, 0, none⟩) l.length cap) l e w' := by
  have hblk := lt_of_block hg
  have hH : HoldsK enc2 2 w g 0 l.toArray := holdsK_of hg ht
  have hless : LessReadsK Tryz.prog 26 #[.pointer (some ⟨Bs, 0, none⟩)] enc2 2 ltK g 0 l.toArray.size w := by
    intro m os dk hsz i j hi hj
    have e : sortWorldK enc2 2 w g 0 m dk os = putRowK enc2 2 (grow (Sort.ahead w m) os) g 0 dk := by
      unfold sortWorldK; rw [putRowK_grow _ _ (Sort.ahead w m) _ g 0 _ hblk]
    have hHg : HoldsK enc2 2 (grow (Sort.ahead w m) os) g 0 l.toArray := holdsK_grow _ _ _ _ g 0 l.toArray hblk (holdsK_ahead _ _ _ _ _ _ _ hH)
    have hc := less_pairs g cap Bs l.length (sortWorldK enc2 2 w g 0 m dk os) (fun t => dk[t]!.1) ?_ (fun t ht => ?_) i j (by simpa using hi) (by simpa using hj) (by omega)
    · exact hc
    · rw [e, cell?_putRowK_other _ _ _ g 0 dk _ (by exact hb2), cell?_grow _ _ _ (by exact hb1)]; exact hbs
    · rw [e]; exact ((holdsK_putRowK _ _ _ g 0 l.toArray dk hHg hsz).cell (i := t) (c := 0) (by rw [hsz]; simpa using ht) (by simp [enc2])).1
  have hS := Any.sort_Slice_cells_sorted Tryz.sv6 22 42 lpT lpE (by kernel_rfl) (by kernel_rfl) (by kernel_rfl) (by kernel_rfl) 25 (fun _ => by kernel_rfl) enc2 2 (fun _ => rfl) (by kernel_rfl) (fun _ => by kernel_rfl)
    (fun x v hv => by simp [enc2] at hv; rcases hv with rfl | rfl <;> rfl) ltK swo_ltK 26 _
    (enters_of Tryz.func26 (by kernel_rfl) rfl) g 0 cap l.toArray (by simpa using h2) (by simp; omega) 75 (by rw [lpK _ (by simpa using h2)]; kernel_rfl) false
    (fun args W => run_callFunc_extern Tryz.func75 (by kernel_rfl) (by kernel_rfl) (by kernel_rfl) (e := Extern.ReflectliteSwapper.swap false) (by kernel_rfl) args W) w hless hH hblk
  change Calls Tryz.prog 25 _ _ _ at hS
  refine hS.mono ?_
  rintro e w' ⟨rfl, d', n, os, hp, hsd, rfl⟩
  have hsz : d'.size = l.length := by simpa using hp.1
  have hperm : d'.toList.Perm l := by
    have := hp.2.2
    simp only [List.size_toArray] at this
    rw [← hsz] at this
    have ht' : List.take l.length d'.toList = d'.toList := List.take_of_length_le (by simp [hsz])
    simpa [hsz, ht'] using this
  refine ⟨rfl, ⟨d'.toList, hperm, ?_, ?_⟩, ?_⟩
  · rw [List.pairwise_iff_getElem]
    intro i j hi hj hij
    have := hsd i j (Nat.zero_le _) hij (by simp at hj ⊢; omega)
    rw [getElem!_pos _ i (by simpa using hi), getElem!_pos _ j (by simpa using hj)] at this
    intro hlt
    have h2 : ltK d'[j] d'[i] = true := decide_eq_true (by simpa using hlt)
    rw [this] at h2; cases h2
  · have hlen : d'.toList.length = l.length := hperm.length_eq
    refine ⟨flat2_len _, Or.inr ⟨g, cap, putCells id 0 (flatK enc2 2 d') cur, by rw [hlen], hB, ?_, by omega, hm, by simpa [putCells] using hs, ?_⟩⟩
    · unfold putRowK
      rw [heap_grow_old _ _ (by simpa using lt_of_block hg)]
      simp [putRow, mapBlock, Sort.ahead, Array.getElem?_modify, hg, onCells]
    · have := take_putCells2 cur d'.toList (by rw [hlen, hs]; omega)
      simpa using this
  · refine ⟨rfl, rfl, rfl, by simp [putRowK], fun k hk hne => ?_⟩
    unfold putRowK
    rw [heap_grow_old _ _ (by simpa using hk)]
    have : g ≠ k := fun e => hne (by rw [e]; rfl)
    simp [putRow, mapBlock, Sort.ahead, Array.getElem?_modify, this]

set_option maxRecDepth 100000 in
/-- sort.Slice over a list of pairs that the call owns, with the law's own closure -/
theorem sort_any (w : World) (B : Nat) (v : Value) (l : List (Str × Str)) (h : OwnP w B v l) (hl : l.length ≤ 1000) (Bs : Nat) (hbs : w.heap[Bs]? = some (.cells #[v] 22 (0, 0))) :
    Calls Tryz.prog 25 #[.iface 22 v, .func (.func 26) #[] #[.pointer (some ⟨Bs, 0, none⟩)]] w fun e w' => Sorted2 w B v l e w' := by
  rcases Nat.lt_or_ge l.length 2 with h1 | h2
  · obtain ⟨p, c, rfl⟩ := own_sliceP h
    rcases Nat.lt_or_ge l.length 1 with h0 | h0
    · exact sort_tiny w B p c l h (by omega) _ 67 (by rw [show l.length = 0 by omega]; kernel_rfl)
    · exact sort_tiny w B p c l h (by omega) _ 68 (by rw [show l.length = 1 by omega]; kernel_rfl)
  · rcases h.shape with ⟨_, rfl⟩ | ⟨g, cap, cur, rfl, hB, hg, hn, hm, hs, ht⟩
    · simp at h2
    · exact sort_two w B g cap cur l hB hg hn hm hs ht h2 hl Bs (cell_of_one hbs) (lt_of_block hbs) (ne_of_types hbs hg (by decide))
end Go.Proofs.YtlmgmifaknlolaaGreat

/- The walk of the law LikelyNews. -/
set_option linter.unusedVariables false
set_option linter.unusedSimpArgs false
namespace Go.Proofs.YtlmgmifaknlolaaGreat
open Go.RowKit Go.Lib Go.Sort Go.Maps

set_option maxRecDepth 100000 in
set_option maxHeartbeats 16000000 in
theorem news_law (w : World) (va : Value) (D : List (Str × Str)) (hl : RdP w va D) (hp : PSz D) :
    Calls Tryz.prog 8 #[va] w fun e w' => e = .returned (.bool true) ∧ Below w.heap.size w w' := by
  have HL := hid hl
  have HP := hid hp
  clear hp
  obtain ⟨ao, cp, rfl, _, _⟩ := hl
  go_enter Tryz.func8, Tryz.ntmps8
  go_wp2_with fail
  refine (lwakes_any _).mono ?_
  rintro e w1 ⟨rfl, hb1⟩
  have HB1 := hid hb1
  clear hb1
  go_wp2_with fail
  refine (cut_any _ _ D (HL.out.below HB1.out) HP.out).mono ?_
  rintro e w2 ⟨v0, rfl, own, hb2⟩
  have HB2 := hid (HB1.out.then hb2)
  have HSZ := hid (cut_sz D)
  have hlen := cut_len D
  have HO2 := hid (ownP_mono own HB1.out.size)
  clear own hb2 HB1 HL HP
  generalize cutF D = L at *
  have HLEN := hid hlen
  obtain ⟨a, c, rfl⟩ := own_sliceP HO2.out
  have HLOW := hid (fun k (h : (Value.slice a L.length c).ownBlock = some k) => (World.ownsRow.lt HO2.out k h).2)
  obtain ⟨Z, hZ, hmk⟩ := made_run (L.length + 3) (by omega)
  rw [show ((L.length + 3 : Nat) : Int) = (L.length : Int) + 3 from by omega] at hmk
  have HO3 := hid (made_own (w := w2) hZ (by omega))
  have HR3 := hid (HO2.out.rd.below ((Below.refl w2.heap.size w2).alloc (Nat.le_refl _) (.cells Z 42)))
  have HB3 := hid ((Below.refl w2.heap.size w2).alloc (Nat.le_refl _) (.cells Z 42))
  have HLL := hid (show ([] : List (Str × Str)).length + L.length ≤ 1000000000000 by simp; omega)
  have HLM := hid (show L.length ≤ 1000000 by omega)
  clear hZ
  go_upto_region 5 with (first
    | (at_builtin; refine wpList_appP rfl (.tmp 17) (.tmp 18) rfl w2.heap.size _ _ [] L rfl HO3.out rfl HR3.out HLL.out HB3.out.size ?_; intro v4 w4 own4 gr4 mv4; rw [List.nil_append] at own4; have HO4 := hid own4; have HB4 := hid (HB3.out.grown gr4 HB3.out.size (fun j hj => (World.ownsRow.lt HO3.out _ hj).1)); clear own4 gr4 mv4)
    | (at_builtin; refine wpList_pushP rfl (.tmp 19) (.tmp 21) rfl w2.heap.size _ L ([126], []) rfl HO4.out rfl HLM.out HB4.out.size ?_; intro v5 w5 own5 gr5 mv5; obtain ⟨g, cap, rfl, hcap, hcap2⟩ := own_full own5; have HO5 := hid own5; have HB5 := hid (HB4.out.grown gr5 HB4.out.size (fun j hj => (World.ownsRow.lt HO4.out _ hj).1)); clear own5 gr5 mv5))
  have HRF := hid (show RdP w5 (.slice (some ⟨g, 0, none⟩) L.length cap) L from by
    have h := rdP_takeN (k := L.length) (l := L ++ [([126], [])]) (ao := some ⟨g, 0, none⟩) (cp := cap) (by rw [List.length_append]; exact HO5.out.rd) (by rw [List.length_append]; omega)
    rwa [List.take_left'] at h; rfl)
  have hcl : L.length ≤ cap := by omega
  have HOW5 := hid (own_below HO2.out HB5.out)
  clear HO4 HB4 HO3 HB3 HR3 HLL HLM hmk
  go_wp2_with fail
  refine (lnew_any _ _ L HRF.out HSZ.out (by omega)).mono ?_
  rintro e w6 ⟨er, i, vc, rfl, ho, h0, h1, hb6⟩
  have HOUT := hid ho
  have H0 := hid h0
  have H1 := hid h1
  have HB6 := hid hb6
  clear ho h0 h1 hb6
  go_upto_region 6 with fail
  have HF := hid (heap_alloc_new w6 (.cells #[.int .i64 er, .int .i64 i] 45))
  have hb7 : Below w6.heap.size w6 (w6.alloc (.cells #[.int .i64 er, .int .i64 i] 45)) := (Below.refl _ _).alloc (Nat.le_refl _) _
  have HB7 := hid (HB6.out.then hb7)
  have ST0 := hid (show NSt w w2 (.slice a L.length c) g cap L vc w6.heap.size er i 0 (w6.alloc (.cells #[.int .i64 er, .int .i64 i] 45)) from
    ⟨by rw [markF_zero]; exact own_below HO5.out HB7.out, own_below HOW5.out HB7.out, HLOW.out, fun e => (H0.out e).below hb7, HF.out, HB5.out.then HB7.out⟩)
  clear hb7 HF HB7 HB6 HB5 HO5 HOW5 HRF H0 HO2
  generalize w6.alloc (.cells #[.int .i64 er, .int .i64 i] 45) = w7 at *
  generalize w6.heap.size = bf at *
  go_wp2_with fail
  go_loopg [33] L.length (fun q vi W => ∃ n : Nat, n ≤ L.length ∧ L.length ≤ n + q ∧ vi = .int .i64 n ∧ NSt w w2 (.slice a L.length c) g cap L vc bf er i n W)
  case atStart => exact ⟨0, Nat.zero_le _, by omega, rfl, ST0.out⟩
  case round =>
    obtain ⟨n, hn, hg, rfl, st⟩ := hrel
    rename World => w8
    clear ST0
    have HG := hid hg
    have ST8 := hid st
    clear hg st
    by_cases hlt : n < L.length
    · obtain ⟨kv, hkv⟩ : ∃ kv, kv = L[n]'hlt := ⟨_, rfl⟩
      obtain ⟨k, v⟩ := kv
      have hne : L ≠ [] := by intro e; rw [e] at hlt; simp at hlt
      obtain ⟨p1, rfl⟩ := own_some ST8.out.own hne
      obtain ⟨x0, x1, _, _, ltx⟩ := ST8.out.own.cells2 n k v (by rw [hkv]; exact List.getElem?_eq_getElem hlt)
      obtain ⟨y0, y1, fy, _, lty⟩ := ST8.out.full.cells2 n k v (by rw [hkv]; exact markF_get L n hlt)
      have hni : (n : Int) < (L.length : Int) := by omega
      have hni1 : (n : Int) < (L.length : Int) + 1 := by omega
      have hn0 : (0 : Int) ≤ (n : Int) := by omega
      clear hkv hne
      go_wp2_with fail
      go_quiet (fail)
      have ST9 := hid (ST8.out.drewN nq)
      clear x0 x1 ltx y0 y1 fy lty ST8
      generalize w8.drewN nq = w9 at *
      obtain ⟨kv, hkv⟩ : ∃ kv, kv = L[n]'hlt := ⟨_, rfl⟩
      obtain ⟨y0, y1, fy, _, lty⟩ := ST9.out.full.cells2 n kv.1 kv.2 (by rw [hkv]; exact markF_get L n hlt)
      have STN := hid (ST9.out.step hlt)
      clear hkv
      go_wp2_with fail
      go_roundg (gk - 1)
      case measure => have := HG.out; omega
      case rel => exact ⟨n + 1, by omega, by have := HG.out; omega, by simp, STN.out⟩
    · have hnl : n = L.length := by omega
      subst hnl
      clear hlt HG hn
      have f0 : w8.drew.cell? ⟨bf, 0, none⟩ = some (.int .i64 er) := by show w8.cell? _ = _; rw [cell_of_row _ _ _ _ _ _ ST8.out.fb]; rfl
      have f1 : w8.drew.cell? ⟨bf, 1, none⟩ = some (.int .i64 i) := by show w8.cell? _ = _; rw [cell_of_row _ _ _ _ _ _ ST8.out.fb]; rfl
      have S0 : w8.drew.cell? ⟨bf, 0, none⟩ = some (.int .i64 er) ∧ w8.drew.cell? ⟨bf, 1, none⟩ = some (.int .i64 i) ∧ w8.drew.cell? ⟨g, L.length * 2, none⟩ = some (.string ⟨#[126]⟩) ∧ Below w8.heap.size w8 w8.drew :=
        ⟨f0, f1, (ST8.out.full.cells2 L.length [126] [] (markF_last L)).1, (Below.refl _ _).drew⟩
      have KF : Hid (∀ W, (W.cell? ⟨bf, 0, none⟩ = some (.int .i64 er) ∧ W.cell? ⟨bf, 1, none⟩ = some (.int .i64 i) ∧ W.cell? ⟨g, L.length * 2, none⟩ = some (.string ⟨#[126]⟩) ∧ Below w8.heap.size w8 W) → Calls Tryz.prog 24 #[.slice a L.length c] W (fun e w' => e = .returned (.agg #[.int .i64 er, .int .i64 i]) ∧ (w'.cell? ⟨bf, 0, none⟩ = some (.int .i64 er) ∧ w'.cell? ⟨bf, 1, none⟩ = some (.int .i64 i) ∧ w'.cell? ⟨g, L.length * 2, none⟩ = some (.string ⟨#[126]⟩) ∧ Below w8.heap.size w8 w'))) := fun W h => by
        have st := ST8.out.below h.2.2.2
        refine (rfault_any W a c L st.own.rd (own_capP st.own) HSZ.out (by have := HLEN.out; omega)).mono ?_
        rintro e w' ⟨er', i', rfl, ho', hb'⟩
        obtain ⟨rfl, rfl⟩ := made_one HOUT.out ho'
        have st2 := st.below hb'
        exact ⟨rfl, by rw [cell_of_row _ _ _ _ _ _ st2.fb]; rfl, by rw [cell_of_row _ _ _ _ _ _ st2.fb]; rfl, (st2.full.cells2 L.length [126] [] (markF_last L)).1, h.2.2.2.then hb'⟩
      have hll : (L.length : Int) < (L.length : Int) + 1 := by omega
      have hl0 : (0 : Int) ≤ (L.length : Int) := by omega
      clear f0 f1
      go_upto_region 13 with fail
      go_region_held3 (fun W => W.cell? ⟨bf, 0, none⟩ = some (.int .i64 er) ∧ W.cell? ⟨bf, 1, none⟩ = some (.int .i64 i) ∧ W.cell? ⟨g, L.length * 2, none⟩ = some (.string ⟨#[126]⟩) ∧ Below w8.heap.size w8 W) (first | with_reducible assumption) (first
        | (go_at_call 24; (with_reducible refine (KF.out _ (by assumption)).mono ?_); rintro e w' ⟨rfl, hs'⟩))
      have ST9 := hid (ST8.out.below (show Below w8.heap.size w8 w' from hs'.2.2.2))
      clear S0 KF hs' hll hl0
      by_cases her : er = 0
      · subst her
        have HBN := hid (show badL [] L = none by
          rcases HOUT.out with h | h
          · rcases badL_err h with e | e <;> omega
          · exact h.1)
        have HX9 := hid (ST9.out.lk rfl)
        obtain ⟨bc, bm, nn, rfl, _, _, _⟩ := ST9.out.lk rfl
        have HLM := hid (srtK_perm L).length_eq
        go_wp2_with fail
        refine (tsaid_any _ _ (dOf L) HX9.out (badL_ok HBN.out).2 (goodD_of (badL_ok HBN.out).1) (by rw [dOf_len]; exact HLEN.out)).mono ?_
        rintro e w10 ⟨vs, rfl, owns, hb10⟩
        rw [told_back (badL_ok HBN.out).1] at owns
        obtain ⟨sa, cs, hvs⟩ := own_sliceP owns
        rw [HLM.out] at hvs
        subst hvs
        have HS10 := hid owns
        have HB10 := hid hb10
        have ST10 := hid (ST9.out.below hb10)
        clear owns hb10
        have f0 : w10.cell? ⟨bf, 0, none⟩ = some (.int .i64 (0 : Nat)) := by rw [cell_of_row _ _ _ _ _ _ ST10.out.fb]; rfl
        have ltf := lt_of_block ST10.out.fb
        have hb11 : Below w10.heap.size w10 (w10.alloc (.cells #[] 42)) := (Below.refl _ _).alloc (Nat.le_refl _) _
        have HB11 := hid hb11
        have HO11 := hid (show OwnP (w10.alloc (.cells #[] 42)) w10.heap.size (.slice (some ⟨w10.heap.size, 0, none⟩) 0 0) [] from fresh_ownP0 w10 [] w10.heap.size (Nat.le_refl _) (by decide))
        have HR11 := hid (ST10.out.own.rd.below hb11)
        have HLL := hid (show ([] : List (Str × Str)).length + L.length ≤ 1000000000000 by have := HLEN.out; simp; omega)
        clear hb11
        go_upto_region 19 with (at_builtin; refine wpList_appP rfl (.tmp 75) (.tmp 76) rfl w10.heap.size _ _ [] L rfl HO11.out rfl HR11.out HLL.out HB11.out.size ?_; intro v11 w11 own11 gr11 mv11; rw [List.nil_append] at own11; obtain ⟨aw, cw, rfl⟩ := own_sliceP own11; have HW11 := hid own11; have HB11b := hid (HB11.out.grown gr11 HB11.out.size (fun j hj => (World.ownsRow.lt HO11.out _ hj).1)); clear own11 gr11 mv11)
        have hb12 : Below w11.heap.size w11 (w11.alloc (.cells #[.slice aw L.length cw] 22)) := (Below.refl _ _).alloc (Nat.le_refl _) _
        have HB12 := hid (HB11b.out.then hb12)
        have HW12 := hid (own_below HW11.out hb12)
        have HBX := hid (heap_alloc_new w11 (.cells #[.slice aw L.length cw] 22))
        have H8 := hid (fun k (h : (Value.slice aw L.length cw).ownBlock = some k) => (World.ownsRow.lt HW11.out k h).2)
        clear hb12 f0 ltf HB11b HW11 HO11 HR11 HLL HB11
        generalize w11.alloc (.cells #[.slice aw L.length cw] 22) = w12 at *
        generalize w11.heap.size = b8 at *
        have c0 : w12.cell? ⟨b8, 0, none⟩ = some (.slice aw L.length cw) := cell_of_one HBX.out
        have lt8 := lt_of_block HBX.out
        go_wp2_with fail
        refine (sort_any _ w10.heap.size _ L HW12.out (by have := HLEN.out; omega) b8 HBX.out).mono ?_
        rintro e w13 ⟨rfl, ⟨L', hp', hs', own13⟩, gr13⟩
        obtain rfl := srtK_one L L' hp' (keys_nodup HBN.out) hs'
        have ST13 := hid (NSt2.start HS10.out HB10.out HB12.out HW12.out HBX.out H8.out own13 gr13 HLM.out)
        have HBB := hid ST9.out.bel
        have TSD := hid (fun W (hb : Below w'.heap.size w' W) => tsaid_any W _ (dOf L) (HX9.out.below hb) (badL_ok HBN.out).2 (goodD_of (badL_ok HBN.out).1) (by rw [dOf_len]; exact HLEN.out))
        rw [told_back (badL_ok HBN.out).1] at TSD
        clear hp' hs' own13 gr13 c0 lt8 HB12 HW12 HBX H8 HS10 HB10 ST10 ST9 HX9 HSZ
        generalize srtK L = M at *
        have c0 : w13.cell? ⟨b8, 0, none⟩ = some (.slice aw L.length cw) := cell_of_one ST13.out.box
        have lt8 := lt_of_block ST13.out.box
        go_wp2_with fail
        go_loopg [93] L.length (fun q vi W => ∃ n : Nat, n ≤ L.length ∧ L.length ≤ n + q ∧ vi = .int .i64 n ∧ NSt2 w' sa aw L.length cs cw b8 M n W)
        case atStart => exact ⟨0, Nat.zero_le _, by omega, rfl, ST13.out⟩
        case round =>
          obtain ⟨n, hn, hg, rfl, st⟩ := hrel
          rename World => w14
          clear ST13 c0 lt8
          have HG := hid hg
          have ST14 := hid st
          clear hg st
          by_cases hlt : n < L.length
          · have hltM : n < M.length := by rw [ST14.out.len]; exact hlt
            obtain ⟨kv, hkv⟩ : ∃ kv, kv = M[n]'hltM := ⟨_, rfl⟩
            obtain ⟨k, v⟩ := kv
            obtain ⟨gw, rfl⟩ := own_some ST14.out.want (by intro e; rw [e] at hltM; simp at hltM)
            obtain ⟨gs, rfl⟩ := own_some ST14.out.said (by intro e; have := turnF_len blank M n; rw [e] at this; simp at this; omega)
            obtain ⟨x0, x1, _, _, ltx⟩ := ST14.out.want.cells2 n k v (by rw [hkv]; exact List.getElem?_eq_getElem hltM)
            obtain ⟨y0, y1, _, _, lty⟩ := ST14.out.said.cells2 n k v (by rw [hkv]; exact turnF_get blank M n hltM)
            have c0 : w14.cell? ⟨b8, 0, none⟩ = some (.slice (some ⟨gw, 0, none⟩) L.length cw) := cell_of_one ST14.out.box
            have lt8 := lt_of_block ST14.out.box
            have hni : (n : Int) < (L.length : Int) := by omega
            have hn0 : (0 : Int) ≤ (n : Int) := by omega
            clear hkv
            go_wp2_with fail
            go_quiet (fail)
            have ST15 := hid (ST14.out.drewN nq)
            clear x0 x1 ltx y0 y1 lty c0 lt8 ST14
            generalize w14.drewN nq = w15 at *
            obtain ⟨kv, hkv⟩ : ∃ kv, kv = M[n]'hltM := ⟨_, rfl⟩
            obtain ⟨y0, y1, fy0, fy1, lty⟩ := ST15.out.said.cells2 n kv.1 kv.2 (by rw [hkv]; exact turnF_get blank M n hltM)
            have STN := hid (ST15.out.step hltM)
            clear hkv
            go_wp2_with fail
            go_roundg (gk - 1)
            case measure => have := HG.out; omega
            case rel => exact ⟨n + 1, by omega, by have := HG.out; omega, by simp, STN.out⟩
          · have hnl : n = L.length := by omega
            subst hnl
            clear hlt HG hn
            by_cases hL : L.length = 0
            · have c0 : w14.cell? ⟨b8, 0, none⟩ = some (.slice aw L.length cw) := cell_of_one ST14.out.box
              have lt8 := lt_of_block ST14.out.box
              have hb0 : ((L.length : Int) == 0) = true := by rw [beq_iff_eq]; omega
              go_wp2_with fail
              go_quiet (fail)
              go_wp2_with fail
              go_ret
              exact ⟨rfl, (HB2.out.then HBB.out).then (ST14.out.drewN _).bel⟩
            · have hlM : 0 < M.length := by rw [ST14.out.len]; omega
              obtain ⟨kv, hkv⟩ : ∃ kv, kv = M[0]'hlM := ⟨_, rfl⟩
              obtain ⟨k, v⟩ := kv
              have HKV := hid (show M[0]? = some (k, v) by rw [hkv]; exact List.getElem?_eq_getElem hlM)
              have hMne : M ≠ [] := by intro e; rw [e] at hlM; simp at hlM
              obtain ⟨gw, rfl⟩ := own_some ST14.out.want hMne
              have hb0 : ((L.length : Int) == 0) = false := by rw [beq_eq_false_iff_ne]; omega
              have hpos : (0 : Int) < (L.length : Int) := by omega
              have HLN := hid ST14.out.len
              have S0 : w14.drew.cell? ⟨b8, 0, none⟩ = some (.slice (some ⟨gw, 0, none⟩) L.length cw) ∧ w14.drew.cell? ⟨gw, 0, none⟩ = some (.string ⟨k.toArray⟩) ∧ w14.drew.cell? ⟨gw, 1, none⟩ = some (.string ⟨v.toArray⟩) ∧ Below w14.heap.size w14 w14.drew :=
                ⟨cell_of_one ST14.out.box, by have := (ST14.out.want.cells2 0 k v HKV.out).1; rwa [Nat.zero_mul] at this, by have := (ST14.out.want.cells2 0 k v HKV.out).2.1; rwa [Nat.zero_mul] at this, (Below.refl _ _).drew⟩
              have KF : Hid (∀ W, (W.cell? ⟨b8, 0, none⟩ = some (.slice (some ⟨gw, 0, none⟩) L.length cw) ∧ W.cell? ⟨gw, 0, none⟩ = some (.string ⟨k.toArray⟩) ∧ W.cell? ⟨gw, 1, none⟩ = some (.string ⟨v.toArray⟩) ∧ Below w14.heap.size w14 W) → Calls Tryz.prog 23 #[.pointer (some ⟨bc, 0, none⟩)] W (fun e w' => ∃ ga ca, e = .returned (.slice (some ⟨ga, 0, none⟩) L.length ca) ∧ w'.cell? ⟨ga, 0, none⟩ = some (.string ⟨k.toArray⟩) ∧ w'.cell? ⟨ga, 1, none⟩ = some (.string ⟨v.toArray⟩) ∧ (w'.cell? ⟨b8, 0, none⟩ = some (.slice (some ⟨gw, 0, none⟩) L.length cw) ∧ w'.cell? ⟨gw, 0, none⟩ = some (.string ⟨k.toArray⟩) ∧ w'.cell? ⟨gw, 1, none⟩ = some (.string ⟨v.toArray⟩) ∧ Below w14.heap.size w14 w'))) := fun W h => by
                refine (TSD.out W (ST14.out.bel.then h.2.2.2)).mono ?_
                rintro e wS ⟨vs, rfl, owns, hb'⟩
                obtain ⟨sa', cs', hvs⟩ := own_sliceP owns
                rw [HLN.out] at hvs
                subst hvs
                obtain ⟨ga, rfl⟩ := own_some owns hMne
                have hb := h.2.2.2.then hb'
                have hw : OwnP wS w'.heap.size (.slice (some ⟨gw, 0, none⟩) L.length cw) M := own_below ST14.out.want hb
                have hbx := (hb.block _ (lt_of_block ST14.out.box)).trans ST14.out.box
                exact ⟨ga, cs', rfl, by have := (owns.cells2 0 k v HKV.out).1; rwa [Nat.zero_mul] at this, by have := (owns.cells2 0 k v HKV.out).2.1; rwa [Nat.zero_mul] at this, cell_of_one hbx, by have := (hw.cells2 0 k v HKV.out).1; rwa [Nat.zero_mul] at this, by have := (hw.cells2 0 k v HKV.out).2.1; rwa [Nat.zero_mul] at this, hb⟩
              have HBW := hid ST14.out.bel
              clear hkv hlM hMne
              have hposN : 0 < L.length := by omega
              have hneL : ¬ L = [] := by intro e; rw [e] at hposN; simp at hposN
              go_upto_region 29 with fail
              go_cut [2] from 110 to 122 (fun o wx => o = .bool true ∧ Below w14.heap.size w14 wx)
              case first =>
                obtain ⟨s0, s1, s2, s3⟩ := id S0
                first
                  | (go_region_with (first
                  | (go_at_call 23; (with_reducible refine (KF.out _ (by assumption)).mono ?_); rintro e wS ⟨ga, ca, rfl, y0, y1, hs'⟩; obtain ⟨z0, z1, z2, z3⟩ := id hs')))
                  | fail "region"
                all_goals
                  go_wp2_with fail
                  go_meet
                  exact ⟨rfl, hs'.2.2.2⟩
              case rest =>
                obtain ⟨rfl, hbe⟩ := hcut
                go_wp2_with fail
                go_ret
                exact ⟨rfl, (HB2.out.then HBB.out).then (HBW.out.then hbe)⟩
      · have hne : ((er : Int) != 0) = true := by rw [bne_iff_ne]; omega
        have hvc : vc = .pointer none := H1.out her
        subst hvc
        go_wp2_with fail
        refine (tsaid_nil _).mono ?_
        rintro e w10 ⟨rfl, hb10⟩
        have HB10 := hid hb10
        have ST10 := hid (ST9.out.below hb10)
        clear hb10
        have f0 : w10.cell? ⟨bf, 0, none⟩ = some (.int .i64 er) := by rw [cell_of_row _ _ _ _ _ _ ST10.out.fb]; rfl
        have ltf := lt_of_block ST10.out.fb
        go_wp2_with fail
        go_ret
        exact ⟨rfl, HB2.out.then ST10.out.bel⟩
end Go.Proofs.YtlmgmifaknlolaaGreat

/- LikelyNews: which pairs may be said of tags, and what was said; they stay as they were; for every list of pairs. Condition: what came in is of bulk at most 1048576 (the form's own bound). -/
namespace Go.Proofs.YtlmgmifaknlolaaGreat
open Go.ChangeShapes Go.WideShapes Go.ChangeAt Go.RowKit
open Go.ChangeMaps (open_string shut_string)
set_option linter.unusedVariables false

theorem own : ownKnob Tryz.prog.godebug = none := by kernel_rfl

set_option maxRecDepth 100000 in
theorem lifted (os : Os) (started : os.Started) (H : Type) (enc : TypeId × Value → H) (F : Stop.Interp) :
    ReturnsInHanded {} Tryz.checked os 8 .any ((Rows.OpenSpec.upto Rows.likelyNewsSpec).pre6 enc Tryz.prog Tryz.f8 Rows.likelyNewsUptoRow.domain false) (((Rows.OpenSpec.upto Rows.likelyNewsSpec).at F).post enc Tryz.prog Tryz.f8 false true false false) := by
  refine returnsInHanded_of_cond (C := Tryz.checked) (s := Rows.OpenSpec.upto Rows.likelyNewsSpec) (k := Rows.uptoSmall) rfl own started (by kernel_rfl) Tryz.func8
    (OpenSpec.witness (enc := enc) (C := Tryz.checked) (s := Rows.OpenSpec.upto Rows.likelyNewsSpec) (k := Rows.uptoSmall) rfl false ⟨#[], #[.slice none 0 0], []⟩ 8 (by kernel_rfl) (by kernel_rfl) (by kernel_rfl)
      (x := ([.nil], [], [])) (by kernel_rfl) rfl (by kernel_rfl)) ?_
  intro W base args ds gs before hval0 hW _ hk _
  have hval : ∀ (j : Nat) t v, Tryz.f8.params[j]? = some t → args[j]? = some v → Value.okWide Tryz.prog W .any base t v := hval0
  have hW' := hW
  obtain ⟨p, q, hA0, hV, rfl, hfz, hnd⟩ := hW
  have hA : DataW.TrodAll enc Tryz.prog W 0 (fun _ => true) true Tryz.f8.params.toList args.toList ds p := hA0
  rw [Tryz.params8] at hA hval
  obtain ⟨v0, vs0, d0, ds0, p0, q0, hargs, rfl, rfl, h0, r0⟩ := trodAll_cons hA
  obtain ⟨rfl, rfl, rfl⟩ := trodAll_nil r0
  obtain rfl : args = #[v0] := by cases args; simp_all
  obtain ⟨rfl, rfl⟩ := trodVars_none hV
  obtain ⟨a0, len0, cap0, rfl⟩ := okWide_slice Tryz.underlying22 (hval 0 22 v0 rfl rfl)
  have k0 := h0
  have lt0 : ∀ x ∈ p0, x.block < W.heap.size := by obtain ⟨m, hm⟩ := k0; exact DataW.trod_lt m _ _ _ hm
  obtain ⟨l, rd, psz⟩ : ∃ l, RdP W (.slice a0 len0 cap0) l ∧ PSz l := by
    obtain ⟨fuel, hf⟩ := h0
    obtain ⟨ao, n, cp, l, e, rd, _, psz, _⟩ := open_rdP2 hf
    rw [← List.head_eq_of_cons_eq e] at rd
    exact ⟨l, rd, psz⟩
  clear hA0 hval0
  refine (news_law W _ l rd psz).mono fun e W' ⟨he, bel⟩ => ?_
  subst he
  exact ⟨_, rfl, _, _, _, [], _, [], hW', trodAll_mk1 (shut_bool Tryz.underlying4 _), (trodAll_cons_mk (Below.trod laidOut (by kernel_rfl) (of_decide_eq_true (by kernel_rfl)) k0 bel lt0) trodAll_mk0), rfl, bel.frame _, fun h => by cases h⟩

/-- the statement -/
theorem likelyNewsUpto : Rows.LikelyNewsUptoSaid :=
  OpenClaim.holds_of_cond 8 Tryz.f8 rfl rfl rfl rfl rfl rfl rfl ⟨rfl, rfl, rfl, rfl, rfl⟩ rfl rfl rfl rfl rfl (by kernel_rfl) Tryz.func8 (by kernel_rfl)
    (of_decide_eq_true (by kernel_rfl)) (by unfold Func.isWrapper; first | (rw [if_pos (by decide +kernel)]; kernel_rfl) | (rw [if_neg (by decide +kernel)]; exact ⟨rfl, rfl⟩))
    (fun os started H enc _ F => lifted os started H enc F)
#print axioms likelyNewsUpto
end Go.Proofs.YtlmgmifaknlolaaGreat
