/- The contract of (*reader).next: what a text's next subtag is. -/
import Derived.Test.YtjlfchnnhglbjaaGreatAny
set_option linter.unusedVariables false
set_option linter.unusedSimpArgs false
namespace Go.Proofs.YtjlfchnnhglbjaaGreat
open Go.RowKit Go.Lib

/-- a string value -/
def S (l : List UInt8) : Value := .string ⟨l.toArray⟩

/-- the reader's five fields -/
def rdr (rest : List UInt8) (at_ : Nat) (sub : List UInt8) (bg en : Bool) : Array Value := #[S rest, .int .i64 at_, S sub, .bool bg, .bool en]

theorem idx_split (l : List UInt8) : (Lib.indexAny l seps = -1 ∧ l.takeWhile noSep = l ∧ l.dropWhile noSep = []) ∨
    (∃ k : Nat, Lib.indexAny l seps = k ∧ k < l.length ∧ l.takeWhile noSep = l.take k ∧ l.dropWhile noSep = l.drop k) := by
  induction l with
  | nil => left; exact ⟨rfl, rfl, rfl⟩
  | cons c r ih =>
    by_cases h : seps.contains c = true
    · right
      refine ⟨0, ?_, by simp, ?_, ?_⟩
      · simp only [Lib.indexAny, h, if_true]; rfl
      · have hn : noSep c = false := by unfold noSep; rw [h]; rfl
        simp [List.takeWhile_cons, hn]
      · have hn : noSep c = false := by unfold noSep; rw [h]; rfl
        simp [List.dropWhile_cons, hn]
    · have hn : noSep c = true := by simpa [noSep] using h
      rcases ih with ⟨h1, h2, h3⟩ | ⟨k, h1, h2, h3, h4⟩
      · left
        refine ⟨?_, by simp [List.takeWhile_cons, hn, h2], by simp [List.dropWhile_cons, hn, h3]⟩
        simp only [Lib.indexAny, h, h1]; rfl
      · right
        refine ⟨k + 1, ?_, by simp; omega, by simp [List.takeWhile_cons, hn, h3], by simp [List.dropWhile_cons, hn, h4]⟩
        simp only [Lib.indexAny, h, h1]
        have : ((k : Int) == -1) = false := beq_eq_false_iff_ne.2 (by omega)
        rw [this]; simp

/-- new blocks, and writes to one block alone -/
def Only (b : Nat) (w w' : World) : Prop := w.grownBy w' (some b)
theorem Only.refl (w : World) (b : Nat) : Only b w w := ⟨rfl, rfl, rfl, Nat.le_refl _, fun _ _ _ => rfl⟩
theorem Only.trans {b : Nat} {a w w' : World} (h : Only b a w) (k : Only b w w') : Only b a w' :=
  ⟨k.os.trans h.os, k.tape.trans h.tape, k.output.trans h.output, Nat.le_trans h.size k.size, fun i hi hne => (k.block i (Nat.lt_of_lt_of_le hi h.size) hne).trans (h.block i hi hne)⟩
theorem Only.set {b : Nat} {a w : World} (h : Only b a w) (i : Nat) (v : Value) : Only b a (w.setCell ⟨b, i, none⟩ v) :=
  h.trans ⟨rfl, rfl, rfl, by simp, fun k _ hne => heap_setCell_other w _ k v (fun e => hne (by rw [e]))⟩
theorem Only.drew {b : Nat} {a w : World} (h : Only b a w) : Only b a w.drew := ⟨h.os, h.tape, h.output, h.size, h.block⟩
theorem Only.below {b : Nat} {a w w' : World} (h : Only b a w) (k : Below w.heap.size w w') : Only b a w' :=
  h.trans ⟨k.os, k.tape, k.output, k.size, fun i hi _ => k.block i hi⟩

set_option maxRecDepth 100000 in
set_option maxHeartbeats 2000000 in
theorem next_end (br : Nat) (at_ : Nat) (sub : List UInt8) (bg en : Bool) (w : World) (hat : at_ ≤ 1000) (hsub : sub.length ≤ 1000)
    (hb : w.heap[br]? = some (.cells (rdr [] at_ sub bg en) 158 (0, 0))) :
    Calls Tryz.prog 103 #[.pointer (some ⟨br, 0, none⟩)] w fun e w' => e = .returned (.tuple #[]) ∧
      w'.heap[br]? = some (.cells (rdr [] (at_ + sub.length) [] bg true) 158 (0, 0)) ∧ Only br w w' := by
  have c0 : w.cell? ⟨br, 0, none⟩ = some (.string ⟨#[]⟩) := by rw [cell_of_row _ _ _ _ _ _ hb]; rfl
  have c1 : w.cell? ⟨br, 1, none⟩ = some (.int .i64 at_) := by rw [cell_of_row _ _ _ _ _ _ hb]; rfl
  have c2 : w.cell? ⟨br, 2, none⟩ = some (.string ⟨sub.toArray⟩) := by rw [cell_of_row _ _ _ _ _ _ hb]; rfl
  have c4 : w.cell? ⟨br, 4, none⟩ = some (.bool en) := by rw [cell_of_row _ _ _ _ _ _ hb]; rfl
  have f : ∀ j, w.frozen? ⟨br, j, none⟩ = false := fun j => frozen_of_row _ _ _ _ _ hb
  have f1 := f 1
  have f2 := f 2
  have f4 := f 4
  have hsz : (⟨sub.toArray⟩ : ByteArray).size ≤ 1000 := by rw [Lib.size_eq]; simpa using hsub
  have HB := hid hb
  clear f hb
  go_enter Tryz.func103, Tryz.ntmps103
  go_wp2_with fail
  go_region
  go_wp2_with fail
  refine bodyPost_ret (results_none rfl _ _ _) rfl ⟨rfl, ?_, ?_⟩
  · rw [heap_drew, heap_setCell_same _ _ _ _ _ _ (heap_setCell_same _ _ _ _ _ _ (heap_setCell_same _ _ _ _ _ _ HB.out))]
    simp [rdr, S]
  · exact (((Only.refl w br).set 1 _).set 2 _).set 4 _ |>.drew

theorem takeWhile_len (l : List UInt8) : (l.takeWhile noSep).length ≤ l.length := (List.takeWhile_sublist _).length_le

set_option maxRecDepth 100000 in
set_option maxHeartbeats 2000000 in
/-- the first subtag of a text that is not empty -/
theorem next_first (br : Nat) (l : List UInt8) (w : World) (hl : l.length ≤ 1000) (h0 : l ≠ [])
    (hb : w.heap[br]? = some (.cells (rdr l 0 [] false false) 158 (0, 0))) :
    Calls Tryz.prog 103 #[.pointer (some ⟨br, 0, none⟩)] w fun e w' => e = .returned (.tuple #[]) ∧
      w'.heap[br]? = some (.cells (rdr (l.dropWhile noSep) 0 (l.takeWhile noSep) true false) 158 (0, 0)) ∧ Only br w w' := by
  have c0 : w.cell? ⟨br, 0, none⟩ = some (.string ⟨l.toArray⟩) := by rw [cell_of_row _ _ _ _ _ _ hb]; rfl
  have c3 : w.cell? ⟨br, 3, none⟩ = some (.bool false) := by rw [cell_of_row _ _ _ _ _ _ hb]; rfl
  have hne : (⟨l.toArray⟩ : ByteArray).toList.isEmpty = false := by rw [Lib.toList_data]; cases l with | nil => exact absurd rfl h0 | cons a r => rfl
  have hsz : (⟨l.toArray⟩ : ByteArray).size ≤ 1000 := by rw [Lib.size_eq]; simpa using hl
  have hsl : (⟨l.toArray⟩ : ByteArray).size = l.length := by rw [Lib.size_eq]
  have ha := any_seps ⟨l.toArray⟩
  have hix := idx_split l
  change ∀ w : World, _ → Calls _ _ _ _ fun e w' => e = .returned (.int .i64 (Lib.indexAny l seps)) ∧ _ at ha
  have HB := hid hb
  have HL := hid hsl
  clear hb h0 hsl
  generalize hs : (⟨l.toArray⟩ : ByteArray) = s at *
  have HS := hid hs
  clear hs
  rcases hix with ⟨h1, h2, h3⟩ | ⟨k, h1, hk, h2, h3⟩
  · rw [h1] at ha
    have H2 := hid h2
    have H3 := hid h3
    clear h1 h2 h3
    go_enter Tryz.func103, Tryz.ntmps103
    go_wp2_with fail
    refine (ha _ hsz).mono ?_
    rintro e w1 ⟨rfl, hb1⟩
    have hb1' : w1.heap[br]? = some (.cells (rdr l 0 [] false false) 158 (0, 0)) := by rw [hb1.block _ (lt_of_block HB.out)]; exact HB.out
    have c0' : w1.cell? ⟨br, 0, none⟩ = some (.string s) := by rw [cell_of_row _ _ _ _ _ _ hb1', ← HS.out]; rfl
    have f : ∀ j, w1.frozen? ⟨br, j, none⟩ = false := fun j => frozen_of_row _ _ _ _ _ hb1'
    have f0 := f 0
    have f2 := f 2
    have f3 := f 3
    have c2' : w1.cell? ⟨br, 2, none⟩ = some (.string ⟨#[]⟩) := by rw [cell_of_row _ _ _ _ _ _ hb1']; rfl
    have c3' : w1.cell? ⟨br, 3, none⟩ = some (.bool false) := by rw [cell_of_row _ _ _ _ _ _ hb1']; rfl
    have HB1 := hid hb1'
    have HO := hid hb1
    clear c0 c3 f hb1 hb1' ha
    go_wp2_with fail
    go_region
    go_wp2_with fail
    go_end0
    refine ⟨rfl, ?_, ?_⟩
    · rw [heap_drew, heap_setCell_same _ _ _ _ _ _ (heap_setCell_same _ _ _ _ _ _ (heap_setCell_same _ _ _ _ _ _ HB1.out))]
      rw [H2.out, H3.out, ← HS.out]
      simp [rdr, S]
      rfl
    · exact (((((Only.refl w br).below HO.out).set _ _).set _ _).set _ _).drew
  · have hks : k ≤ s.size := by rw [HL.out]; omega
    rw [h1] at ha
    have H2 := hid h2
    have H3 := hid h3
    clear h1 h2 h3
    go_enter Tryz.func103, Tryz.ntmps103
    go_wp2_with fail
    refine (ha _ hsz).mono ?_
    rintro e w1 ⟨rfl, hb1⟩
    have hb1' : w1.heap[br]? = some (.cells (rdr l 0 [] false false) 158 (0, 0)) := by rw [hb1.block _ (lt_of_block HB.out)]; exact HB.out
    have c0' : w1.cell? ⟨br, 0, none⟩ = some (.string s) := by rw [cell_of_row _ _ _ _ _ _ hb1', ← HS.out]; rfl
    have f : ∀ j, w1.frozen? ⟨br, j, none⟩ = false := fun j => frozen_of_row _ _ _ _ _ hb1'
    have f0 := f 0
    have f2 := f 2
    have f3 := f 3
    have c2' : w1.cell? ⟨br, 2, none⟩ = some (.string ⟨#[]⟩) := by rw [cell_of_row _ _ _ _ _ _ hb1']; rfl
    have c3' : w1.cell? ⟨br, 3, none⟩ = some (.bool false) := by rw [cell_of_row _ _ _ _ _ _ hb1']; rfl
    have HB1 := hid hb1'
    have HO := hid hb1
    clear c0 c3 f hb1 hb1' ha
    go_wp2_with fail
    go_region
    go_wp2_with fail
    go_end0
    refine ⟨rfl, ?_, ?_⟩
    · rw [heap_drew, heap_setCell_same _ _ _ _ _ _ (heap_setCell_same _ _ _ _ _ _ (heap_setCell_same _ _ _ _ _ _ HB1.out))]
      rw [H2.out, H3.out, Lib.extract_eq, Lib.extract_eq, ← HS.out]
      simp [rdr, S]
      rw [List.take_of_length_le (by rw [Lib.size_eq]; simp)]
    · exact (((((Only.refl w br).below HO.out).set _ _).set _ _).set _ _).drew

set_option maxRecDepth 100000 in
set_option maxHeartbeats 4000000 in
/-- the next subtag behind another -/
theorem next_more (br : Nat) (c : UInt8) (l : List UInt8) (at_ : Nat) (sub : List UInt8) (en : Bool) (w : World) (hl : l.length ≤ 999) (hat : at_ ≤ 1000) (hsub : sub.length ≤ 1000)
    (hb : w.heap[br]? = some (.cells (rdr (c :: l) at_ sub true en) 158 (0, 0))) :
    Calls Tryz.prog 103 #[.pointer (some ⟨br, 0, none⟩)] w fun e w' => e = .returned (.tuple #[]) ∧
      w'.heap[br]? = some (.cells (rdr (l.dropWhile noSep) (at_ + sub.length + 1) (l.takeWhile noSep) true en) 158 (0, 0)) ∧ Only br w w' := by
  have c0 : w.cell? ⟨br, 0, none⟩ = some (.string ⟨(c :: l).toArray⟩) := by rw [cell_of_row _ _ _ _ _ _ hb]; rfl
  have c1 : w.cell? ⟨br, 1, none⟩ = some (.int .i64 at_) := by rw [cell_of_row _ _ _ _ _ _ hb]; rfl
  have c2 : w.cell? ⟨br, 2, none⟩ = some (.string ⟨sub.toArray⟩) := by rw [cell_of_row _ _ _ _ _ _ hb]; rfl
  have c3 : w.cell? ⟨br, 3, none⟩ = some (.bool true) := by rw [cell_of_row _ _ _ _ _ _ hb]; rfl
  have f : ∀ j, w.frozen? ⟨br, j, none⟩ = false := fun j => frozen_of_row _ _ _ _ _ hb
  have f0 := f 0
  have f1 := f 1
  have hne : (⟨(c :: l).toArray⟩ : ByteArray).toList.isEmpty = false := by rw [Lib.toList_data]; rfl
  have hsz : (⟨(c :: l).toArray⟩ : ByteArray).size ≤ 1000 := by rw [Lib.size_eq]; simpa using hl
  have hs1 : 1 ≤ (⟨(c :: l).toArray⟩ : ByteArray).size := by rw [Lib.size_eq]; simp
  have hss : (⟨sub.toArray⟩ : ByteArray).size ≤ 1000 := by rw [Lib.size_eq]; simpa using hsub
  have hex : (⟨(c :: l).toArray⟩ : ByteArray).extract 1 (⟨(c :: l).toArray⟩ : ByteArray).size = ⟨l.toArray⟩ := by
    rw [Lib.extract_eq, Lib.size_eq]
    simp
  have hsl : (⟨l.toArray⟩ : ByteArray).size = l.length := by rw [Lib.size_eq]
  have hsz1 : (⟨l.toArray⟩ : ByteArray).size ≤ 999 := by rw [Lib.size_eq]; simpa using hl
  have ha := any_seps ⟨l.toArray⟩
  have hix := idx_split l
  change ∀ w : World, _ → Calls _ _ _ _ fun e w' => e = .returned (.int .i64 (Lib.indexAny l seps)) ∧ _ at ha
  have HB := hid hb
  have HL := hid hsl
  have HC := hid (f)
  clear hb hsl f
  generalize hs : (⟨(c :: l).toArray⟩ : ByteArray) = s0 at *
  generalize hs' : (⟨l.toArray⟩ : ByteArray) = s at *
  have HS := hid hs'
  have HS0 := hid hs
  clear hs hs'
  rcases hix with ⟨h1, h2, h3⟩ | ⟨k, h1, hk, h2, h3⟩
  · rw [h1] at ha
    have H2 := hid h2
    have H3 := hid h3
    clear h1 h2 h3
    go_enter Tryz.func103, Tryz.ntmps103
    go_wp2_with fail
    go_region
    go_wp2_with fail
    generalize hW : (World.setCell (World.setCell w _ _) _ _).drew = Wm
    have hWm : Wm.heap[br]? = some (.cells (rdr l (at_ + sub.length + 1) sub true en) 158 (0, 0)) ∧ Only br w Wm := by
      rw [← hW]
      refine ⟨?_, (((Only.refl w br).set _ _).set _ _).drew⟩
      rw [heap_drew, heap_setCell_same _ _ _ _ _ _ (heap_setCell_same _ _ _ _ _ _ HB.out), ← HS.out]
      simp [rdr, S]
      omega
    clear hW c0 c1 c2 c3 f0 f1 hne hsz hs1 hss hex
    refine (ha _ (by omega)).mono ?_
    rintro e w1 ⟨rfl, hb1⟩
    have hb1' : w1.heap[br]? = some (.cells (rdr l (at_ + sub.length + 1) sub true en) 158 (0, 0)) := by rw [hb1.block _ (lt_of_block hWm.1)]; exact hWm.1
    have HO := hid (hWm.2.below hb1)
    have c0' : w1.cell? ⟨br, 0, none⟩ = some (.string s) := by rw [cell_of_row _ _ _ _ _ _ hb1', ← HS.out]; rfl
    have f : ∀ j, w1.frozen? ⟨br, j, none⟩ = false := fun j => frozen_of_row _ _ _ _ _ hb1'
    have f0 := f 0
    have f2 := f 2
    have f3 := f 3
    have c2' : w1.cell? ⟨br, 2, none⟩ = some (.string ⟨sub.toArray⟩) := by rw [cell_of_row _ _ _ _ _ _ hb1']; rfl
    have c3' : w1.cell? ⟨br, 3, none⟩ = some (.bool true) := by rw [cell_of_row _ _ _ _ _ _ hb1']; rfl
    have HB1 := hid hb1'
    clear f hb1 hb1' ha hWm
    go_wp2_with fail
    go_region
    go_wp2_with fail
    go_end0
    refine ⟨rfl, ?_, ?_⟩
    · rw [heap_drew, heap_setCell_same _ _ _ _ _ _ (heap_setCell_same _ _ _ _ _ _ (heap_setCell_same _ _ _ _ _ _ HB1.out))]
      rw [H2.out, H3.out, ← HS.out]
      simp [rdr, S]
      try rfl
    · exact (((HO.out.set _ _).set _ _).set _ _).drew
  · have hks : k ≤ s.size := by rw [HL.out]; omega
    rw [h1] at ha
    have H2 := hid h2
    have H3 := hid h3
    clear h1 h2 h3
    go_enter Tryz.func103, Tryz.ntmps103
    go_wp2_with fail
    go_region
    go_wp2_with fail
    generalize hW : (World.setCell (World.setCell w _ _) _ _).drew = Wm
    have hWm : Wm.heap[br]? = some (.cells (rdr l (at_ + sub.length + 1) sub true en) 158 (0, 0)) ∧ Only br w Wm := by
      rw [← hW]
      refine ⟨?_, (((Only.refl w br).set _ _).set _ _).drew⟩
      rw [heap_drew, heap_setCell_same _ _ _ _ _ _ (heap_setCell_same _ _ _ _ _ _ HB.out), ← HS.out]
      simp [rdr, S]
      omega
    clear hW c0 c1 c2 c3 f0 f1 hne hsz hs1 hss hex
    refine (ha _ (by omega)).mono ?_
    rintro e w1 ⟨rfl, hb1⟩
    have hb1' : w1.heap[br]? = some (.cells (rdr l (at_ + sub.length + 1) sub true en) 158 (0, 0)) := by rw [hb1.block _ (lt_of_block hWm.1)]; exact hWm.1
    have HO := hid (hWm.2.below hb1)
    have c0' : w1.cell? ⟨br, 0, none⟩ = some (.string s) := by rw [cell_of_row _ _ _ _ _ _ hb1', ← HS.out]; rfl
    have f : ∀ j, w1.frozen? ⟨br, j, none⟩ = false := fun j => frozen_of_row _ _ _ _ _ hb1'
    have f0 := f 0
    have f2 := f 2
    have f3 := f 3
    have c2' : w1.cell? ⟨br, 2, none⟩ = some (.string ⟨sub.toArray⟩) := by rw [cell_of_row _ _ _ _ _ _ hb1']; rfl
    have c3' : w1.cell? ⟨br, 3, none⟩ = some (.bool true) := by rw [cell_of_row _ _ _ _ _ _ hb1']; rfl
    have HB1 := hid hb1'
    clear f hb1 hb1' ha hWm
    go_wp2_with fail
    go_region
    go_wp2_with fail
    go_end0
    refine ⟨rfl, ?_, ?_⟩
    · rw [heap_drew, heap_setCell_same _ _ _ _ _ _ (heap_setCell_same _ _ _ _ _ _ (heap_setCell_same _ _ _ _ _ _ HB1.out))]
      rw [H2.out, H3.out, Lib.extract_eq, Lib.extract_eq, ← HS.out]
      simp [rdr, S]
      rw [List.take_of_length_le (by rw [Lib.size_eq]; simp)]
    · exact (((HO.out.set _ _).set _ _).set _ _).drew
end Go.Proofs.YtjlfchnnhglbjaaGreat
