/- The law's wakes, and the copy of a list of pairs. -/
import Derived.Test.YtffaoejahnildaaGreatChNew
import Derived.Test.YtffaoejahnildaaGreatChUp
import Derived.Test.YtffaoejahnildaaGreatChSame
set_option linter.unusedVariables false
set_option linter.unusedSimpArgs false
namespace Go.Proofs.YtffaoejahnildaaGreat
open Go.RowKit Go.Lib Go.Sort Go.Maps

/-- pairs of a slice that can be read, at the end of a list that the call owns -/
theorem wpList_appP {w : World} {ops : Array Oper} {rest : List Oper} {o : Oper} {a : Act} {Q : Exit → Act → World → Prop} (hgd : o.guard = none) (s x : Operand)
    (ho : o.op = .call { callee := .builtin .append, args := #[s, x], argTypes := #[22, 22] })
    (B : Nat) (v vx : Value) (l m : List (Str × Str)) (hs : a.eval s = v) (hown : OwnP w B v l) (hx : a.eval x = vx) (hr : RdP w vx m) (hl : l.length + m.length ≤ 1000000000000) (hB : B ≤ w.heap.size)
    (h : ∀ v' w', OwnP w' B v' (l ++ m) → w.grownBy w' v.ownBlock → Moved w v v' → wpList Tryz.prog ops Q rest (a.put o.dst v') w') :
    wpList Tryz.prog ops Q (o :: rest) a w := by
  obtain ⟨i0, hi, hz0, hz1, hz2⟩ := info_parts infoP
  obtain ⟨ao, cp, rfl, hl1, hr1⟩ := hr
  cases ao with
  | none =>
    obtain ⟨rfl, rfl⟩ := hl1.2 rfl
    exact wpList_append_own_none hgd s x 22 ho B 44 i0 2 Tryz.underlying22 hi v l.length (flat2 l) hs hown hx (h v w (by rw [List.append_nil]; exact hown) (World.grownBy.refl _ _) (Or.inl rfl))
  | some ad =>
    refine wpList_app hgd s x 22 ho B 44 i0 (.agg #[.string ⟨#[]⟩, .string ⟨#[]⟩]) 2 32 Tryz.underlying22 hi hz0 hz1 hz2 rfl (by decide) v l.length (flat2 l) hs hown ad m.length cp (flat2 m) hx (flat2_len m) ?_ ?_ (by unfold maxLen; omega) (by omega) hB ?_
    · intro j u hu
      have hj := (List.getElem?_eq_some_iff.1 hu).1
      rw [flat2_len] at hj
      have hne : m ≠ [] := by rintro rfl; simp at hj
      obtain ⟨b, off, he, hlt, hc⟩ := hr1 hne
      obtain rfl : ad = ⟨b, off, none⟩ := Option.some.inj he
      have hjm : j / 2 < m.length := by omega
      have hdm : j / 2 * 2 + j % 2 = j := by omega
      have h2 := flat2_get m (j / 2) (j % 2) hjm (by omega)
      rw [hdm, hu] at h2
      have := hc (j / 2) (j % 2) u hjm h2.symm
      rw [add_of]
      rw [show off + j / 2 * 2 + j % 2 = off + j by omega] at this
      exact this
    · intro u hu
      obtain ⟨x, _, hx⟩ := List.mem_flatMap.1 hu
      simp only [enc2, List.mem_cons, List.not_mem_nil, or_false] at hx
      rcases hx with rfl | rfl <;> rfl
    · intro v' w' own gr mv
      exact h v' w' (own_cast own (by simp) (by simp [flat2])) gr mv
theorem fresh_ownP (w : World) (l : List (Str × Str)) (B : Nat) (hB : B ≤ w.heap.size) (hl : l.length ≤ 1000) : OwnP (w.alloc (.cells (flat2 l).toArray 44)) B (.slice (some ⟨w.heap.size, 0, none⟩) l.length l.length) l :=
  ⟨by rw [flat2_len], Or.inr ⟨w.heap.size, l.length, _, rfl, hB, heap_alloc_new w _, Nat.le_refl _, by unfold maxLen; omega, by simp [flat2_len], List.take_of_length_le (by simp [flat2_len])⟩⟩

set_option maxRecDepth 100000 in
set_option maxHeartbeats 8000000 in
theorem lwakes_any (w : World) : Calls Tryz.prog 6 #[] w fun e w' => e = .returned (.bool true) ∧ Below w.heap.size w w' := by
  have hb1 : Below w.heap.size w (w.alloc (.cells (flat2 wkD).toArray 44)) := (Below.refl _ _).alloc (Nat.le_refl _) _
  have hrd : RdP (w.alloc (.cells (flat2 wkD).toArray 44)) (.slice (some ⟨w.heap.size, 0, none⟩) 1 1) wkD := (fresh_ownP w wkD w.heap.size (Nat.le_refl _) (by decide)).rd
  have NW := hid (new_any _ _ wkD hrd (fun p hp => by rw [show p = (enAU, en001) from List.mem_singleton.1 hp]; exact ⟨by decide, by decide⟩) (by decide))
  have HB1 := hid hb1
  clear hb1 hrd
  go_enter Tryz.func6, Tryz.ntmps6
  go_wp2_with fail
  refine NW.out.mono ?_
  rintro e w2 ⟨er, i, vc, rfl, ho, h0, h1, hb2⟩
  obtain ⟨rfl, rfl⟩ := new_one wk_new ho
  have HC := hid (h0 rfl)
  have HB2 := hid (HB1.out.then hb2)
  obtain ⟨bc, bm, n0, rfl, _, _, _⟩ := h0 rfl
  clear ho h0 h1 hb2 HB1
  have hb3 : Below w2.heap.size w2 (w2.alloc (.cells #[.int .i64 0, .int .i64 0] 26)) := (Below.refl _ _).alloc (Nat.le_refl _) _
  have CH := hid (chain_any (w2.alloc (.cells #[.int .i64 0, .int .i64 0] 26)) _ wkD enAU [enAU, en001, enS, tRoot] (HC.out.below hb3) wk_said (Or.inl ⟨nm_AU, wk_up⟩) (by decide) (by decide))
  have HB3 := hid (HB2.out.then hb3)
  clear hb3
  go_wp2_with fail
  refine CH.out.mono ?_
  rintro e w4 ⟨vv, rfl, own, hb4⟩
  have HR4 := hid own.rd
  have HB4 := hid (HB3.out.then hb4)
  have hb5 : Below w4.heap.size w4 (w4.alloc (.cells ([enAU, en001, enS, tRoot].map S).toArray 9)) := (Below.refl _ _).alloc (Nat.le_refl _) _
  have SM := hid (lsame_any _ vv (.slice (some ⟨w4.heap.size, 0, none⟩) 4 4) [enAU, en001, enS, tRoot] (HR4.out.below hb5) (fresh_own w4 [enAU, en001, enS, tRoot] w4.heap.size (Nat.le_refl _) (by decide)).rd)
  have HB5 := hid (HB4.out.then hb5)
  obtain ⟨ag, cg, rfl⟩ := own_sliceS own
  clear own hb4 hb5 CH HC
  go_wp2_with fail
  refine SM.out.mono ?_
  rintro e w6 ⟨rfl, hb6⟩
  go_wp2_with fail
  go_ret
  exact ⟨rfl, HB5.out.then hb6⟩
end Go.Proofs.YtffaoejahnildaaGreat
