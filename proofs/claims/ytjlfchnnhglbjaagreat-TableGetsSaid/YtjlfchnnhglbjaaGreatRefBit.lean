/- Small facts for the reference's Parse: flags, subtags in memory, the last key's value. -/
import Derived.Test.YtjlfchnnhglbjaaGreatRefSt
set_option linter.unusedVariables false
set_option linter.unusedSimpArgs false
namespace Go.Proofs.YtjlfchnnhglbjaaGreat
open Go.RowKit Go.Lib Go.Sort

def fls (b1 b2 b3 b4 b5 b6 b7 : Bool) : Nat := fl b1 2 + fl b2 4 + fl b3 8 + fl b4 16 + fl b5 32 + fl b6 64 + fl b7 128
theorem and2 : ∀ b1 b2 b3 b4 b5 b6 b7 : Bool, bits BinOp.and IntKind.i64 (fls b1 b2 b3 b4 b5 b6 b7 : Nat) 2 = (fl b1 2 : Nat) := by decide +kernel
theorem and4 : ∀ b1 b2 b3 b4 b5 b6 b7 : Bool, bits BinOp.and IntKind.i64 (fls b1 b2 b3 b4 b5 b6 b7 : Nat) 4 = (fl b2 4 : Nat) := by decide +kernel
theorem and8 : ∀ b1 b2 b3 b4 b5 b6 b7 : Bool, bits BinOp.and IntKind.i64 (fls b1 b2 b3 b4 b5 b6 b7 : Nat) 8 = (fl b3 8 : Nat) := by decide +kernel
theorem and16 : ∀ b1 b2 b3 b4 b5 b6 b7 : Bool, bits BinOp.and IntKind.i64 (fls b1 b2 b3 b4 b5 b6 b7 : Nat) 16 = (fl b4 16 : Nat) := by decide +kernel
theorem and32 : ∀ b1 b2 b3 b4 b5 b6 b7 : Bool, bits BinOp.and IntKind.i64 (fls b1 b2 b3 b4 b5 b6 b7 : Nat) 32 = (fl b5 32 : Nat) := by decide +kernel
theorem and64 : ∀ b1 b2 b3 b4 b5 b6 b7 : Bool, bits BinOp.and IntKind.i64 (fls b1 b2 b3 b4 b5 b6 b7 : Nat) 64 = (fl b6 64 : Nat) := by decide +kernel
theorem and128 : ∀ b1 b2 b3 b4 b5 b6 b7 : Bool, bits BinOp.and IntKind.i64 (fls b1 b2 b3 b4 b5 b6 b7 : Nat) 128 = (fl b7 128 : Nat) := by decide +kernel
/-- what the flags of a subtag say -/
structure Flags (x : Str) (k : Int) : Prop where
  f2 : bits BinOp.and IntKind.i64 k 2 = (fl (isLang x) 2 : Nat)
  f4 : bits BinOp.and IntKind.i64 k 4 = (fl (isScript x) 4 : Nat)
  f8 : bits BinOp.and IntKind.i64 k 8 = (fl (isRegion x) 8 : Nat)
  f16 : bits BinOp.and IntKind.i64 k 16 = (fl (isVariant x) 16 : Nat)
  f32 : bits BinOp.and IntKind.i64 k 32 = (fl (lower x == [117]) 32 : Nat)
  f64 : bits BinOp.and IntKind.i64 k 64 = (fl (isKey x) 64 : Nat)
  f128 : bits BinOp.and IntKind.i64 k 128 = (fl (isType x) 128 : Nat)
theorem flags (x : Str) : Flags x (kindsF x : Nat) := ⟨and2 .., and4 .., and8 .., and16 .., and32 .., and64 .., and128 ..⟩

theorem cutU_short : ∀ (n p : Nat) (l : Str), ∀ q ∈ cutU n p l, q.1.length ≤ l.length
  | 0, _, _ => by simp [cutU]
  | n + 1, p, l => by
    have h := take_drop_len l
    intro q hq
    simp only [cutU] at hq
    rcases List.mem_cons.1 hq with rfl | hq
    · show (l.takeWhile noSep).length ≤ _; omega
    · cases hd : l.dropWhile noSep with
      | nil => rw [hd] at hq; simp at hq
      | cons c r =>
        rw [hd] at hq h
        have := cutU_short n _ r q hq
        simp at h
        omega
theorem OwnU.rd {w : World} {B : Nat} {v : Value} {l : List (Str × Nat)} (h : OwnU w B v l) (hne : l ≠ []) : ∃ g cp, v = .slice (some ⟨g, 0, none⟩) l.length cp ∧ g < w.heap.size ∧ l.length ≤ maxLen ∧
    ∀ j (hj : j < l.length), w.cell? ⟨g, j * 2, none⟩ = some (.string ⟨l[j].1.toArray⟩) ∧ w.cell? ⟨g, j * 2 + 1, none⟩ = some (.int .i64 (l[j].2 : Int)) := by
  rcases h.2 with ⟨h1, h2⟩ | ⟨g, cap, cur, h1, h2, h3, h4, h5, h6, h7⟩
  · exact absurd (List.eq_nil_of_length_eq_zero h2) hne
  · refine ⟨g, cap, h1, lt_of_block h3, by omega, fun j hj => ⟨?_, ?_⟩⟩
    · exact cells_at h3 h7 (j * 2) _ (by have := flatU_get l j 0 hj (by omega); rw [Nat.add_zero] at this; rw [this]; rfl)
    · exact cells_at h3 h7 (j * 2 + 1) _ (by rw [flatU_get l j 1 hj (by omega)]; rfl)

theorem OwnP.setVal {w : World} {B g cp : Nat} {ks : List (Str × Str)} {k v : Str} {n : Nat} (h : OwnP w B (.slice (some ⟨g, 0, none⟩) n cp) (ks ++ [(k, v)])) (x : Str) : OwnP (w.setCell ⟨g, ks.length * 2 + 1, none⟩ (S x)) B (.slice (some ⟨g, 0, none⟩) n cp) (ks ++ [(k, x)]) := by
  have hlen : (flat2 ks).length = ks.length * 2 := flat2_len ks
  have e1 : ∀ y : Str, flat2 (ks ++ [(k, y)]) = flat2 ks ++ [S k, S y] := fun y => by simp [flat2, enc2]
  rcases h.2 with ⟨h1, _⟩ | ⟨g', cap, cur, h1, h2, h3, h4, h5, h6, h7⟩
  · cases h1
  · injection h1 with a1 a2 a3
    injection a1 with a1
    injection a1 with a1
    subst a1 a3
    refine ⟨by rw [flat2_len], Or.inr ⟨g, cp, _, by rw [a2]; simp, h2, heap_setCell_same _ _ _ _ _ _ h3, by simpa using h4, h5, by simpa using h6, ?_⟩⟩
    rw [e1] at h7 ⊢
    simp only [List.length_append, List.length_cons, List.length_nil] at h7 ⊢
    have h8 : (cur.setIfInBounds (ks.length * 2 + 1) (S x)).toList.take ((ks.length + (0 + 1)) * 2) = (cur.toList.take ((ks.length + (0 + 1)) * 2)).set (ks.length * 2 + 1) (S x) := by
      rw [Array.toList_setIfInBounds, List.take_set]
    refine Eq.trans h8 ?_
    rw [h7, List.set_append_right _ _ (by omega), hlen]
    simp
theorem setLast_snoc (ks : List (Str × Str)) (k v x : Str) : setLast (ks ++ [(k, v)]) x = ks ++ [(k, addV v x)] := by
  unfold setLast
  rw [List.dropLast_concat, List.getLast?_concat]
  rfl
theorem RS.last {w0 w : World} {t : Tg} {vv : Value} {g cp n : Nat} {ks : List (Str × Str)} {k v : Str} (h : RS w0 w t vv (.slice (some ⟨g, 0, none⟩) n cp)) (hk : t.keys = ks ++ [(k, v)]) (x : Str) :
    RS w0 (w.setCell ⟨g, ks.length * 2 + 1, none⟩ (S x)) { t with keys := ks ++ [(k, x)] } vv (.slice (some ⟨g, 0, none⟩) n cp) := by
  have hop := h.op
  rw [hk] at hop
  have hg : w0.heap.size + 1 ≤ g := (World.ownsRow.lt hop g rfl).1
  have hn : vv.ownBlock ≠ some g := fun e => ne_own h.os h.op e rfl
  have hrt : (w.setCell ⟨g, ks.length * 2 + 1, none⟩ (S x)).heap[w0.heap.size]? = some (.cells (tagCells t vv (.slice (some ⟨g, 0, none⟩) n cp)) 108 (0, 0)) := by
    rw [heap_setCell_other _ _ _ _ (by show w0.heap.size ≠ g; omega)]; exact h.rt
  exact ⟨by simpa [tagCells] using hrt, own_set h.os hn _ _, OwnP.setVal hop x, h.bel.setCell (show w0.heap.size ≤ g by omega) _⟩
end Go.Proofs.YtjlfchnnhglbjaaGreat
