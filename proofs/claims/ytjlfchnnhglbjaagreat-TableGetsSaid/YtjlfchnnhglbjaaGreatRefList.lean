/- The contracts of the reference's has and find; pairs at the end of a list that a call owns. -/
import Derived.Test.YtjlfchnnhglbjaaGreatWrite
import Derived.Test.YtjlfchnnhglbjaaGreatRefKinds
set_option linter.unusedVariables false
set_option linter.unusedSimpArgs false
namespace Go.Proofs.YtjlfchnnhglbjaaGreat
open Go.RowKit Go.Lib Go.Sort

theorem cell_two_new (w : World) (a b : Value) (e : TypeId) (j : Nat) (u : Value) (h : [a, b][j]? = some u) : (w.alloc (.cells #[a, b] e)).cell? ((⟨w.heap.size, 0, none⟩ : Addr).add j) = some u := by
  have hr := heap_alloc_new w (.cells #[a, b] e)
  have hx := cell_of_row _ _ j _ _ _ hr
  have hadd : ((⟨w.heap.size, 0, none⟩ : Addr).add j) = ⟨w.heap.size, j, none⟩ := by
    unfold Addr.add
    split
    · next e => subst e; rfl
    · simp
  rw [hadd, hx]
  match j, h with
  | 0, h => simpa using h
  | 1, h => simpa using h

/-- one pair more at the end of a list that the call owns -/
theorem wpList_pushP {w : World} {ops : Array Oper} {rest : List Oper} {o : Oper} {a : Act} {Q : Exit → Act → World → Prop} (hgd : o.guard = none) (s x : Operand)
    (ho : o.op = .call { callee := .builtin .append, args := #[s, x], argTypes := #[43, 43] })
    (B : Nat) (v : Value) (l : List (Str × Str)) (y : Str × Str) (hs : a.eval s = v) (hown : OwnP w B v l) (hx : a.eval x = .slice (some ⟨w.heap.size, 0, none⟩) 1 1) (hl : l.length ≤ 1000000) (hB : B ≤ w.heap.size)
    (h : ∀ v' w', OwnP w' B v' (l ++ [y]) → w.grownBy w' v.ownBlock → Moved w v v' → wpList Tryz.prog ops Q rest (a.put o.dst v') w') :
    wpList Tryz.prog ops Q (o :: rest) a (w.alloc (.cells #[.string ⟨y.1.toArray⟩, .string ⟨y.2.toArray⟩] 48)) := by
  obtain ⟨i0, hi, hz0, hz1, hz2⟩ := info_parts infoP
  refine wpList_app hgd s x 43 ho B 48 i0 (.agg #[.string ⟨#[]⟩, .string ⟨#[]⟩]) 2 32 Tryz.underlying43 hi hz0 hz1 hz2 rfl (by decide) v l.length (flat2 l) hs (World.ownsRow.alloc hown _) ⟨w.heap.size, 0, none⟩ 1 1 [.string ⟨y.1.toArray⟩, .string ⟨y.2.toArray⟩] hx rfl (cell_two_new _ _ _ _) (fun u hu => by simp at hu; rcases hu with rfl | rfl <;> rfl) (by unfold maxLen; omega) (by omega) (by simp; omega) ?_
  intro v' w' own gr mv
  refine h v' w' (own_cast own (by simp) (by simp [flat2, enc2, S])) ⟨gr.os, gr.tape, gr.output, Nat.le_trans (by simp) gr.size, fun k hk hne => ?_⟩ ?_
  · rw [gr.block k (by simp; omega) hne]; exact heap_alloc_old _ _ hk
  · rcases mv with m | ⟨k, h1, h2⟩
    · exact Or.inl m
    · exact Or.inr ⟨k, h1, by simp at h2; omega⟩

theorem take_cont (l : List Str) (n : Nat) (h : n < l.length) (s : Str) : (l.take (n + 1)).contains s = ((l.take n).contains s || (s == l[n])) := by
  have e : l.take (n + 1) = l.take n ++ [l[n]] := by rw [List.take_add_one, List.getElem?_eq_getElem h]; rfl
  rw [e]
  generalize l[n] = y
  generalize l.take n = m
  rw [Bool.eq_iff_iff]
  simp
theorem cont_get {l : List Str} {n : Nat} {s : Str} (h : n < l.length) (e : l[n] = s) : l.contains s = true := by
  rw [List.contains_iff_mem, ← e]
  exact List.getElem_mem _

set_option maxHeartbeats 1000000 in
theorem rhas_any (w : World) (v : Value) (l : List Str) (s : Str) (h : RdS w v l) (hl : l.length ≤ 1000) :
    Calls Tryz.prog 127 #[v, .string ⟨s.toArray⟩] w fun e w' => e = .returned (.bool (l.contains s)) ∧ w' = w := by
  obtain ⟨ao, cp, rfl, hz, hr⟩ := h
  go_enter Tryz.func127, Tryz.ntmps127
  go_wp2
  go_loopg [5] l.length (fun g vi W => ∃ n : Nat, n ≤ l.length ∧ l.length ≤ n + g ∧ vi = .int .i64 n ∧ (l.take n).contains s = false ∧ W = w)
  case atStart => exact ⟨0, Nat.zero_le _, by omega, rfl, by simp, rfl⟩
  case round =>
    obtain ⟨n, hn, hg, rfl, hc, rfl⟩ := hrel
    have HG := hid hg
    clear hg
    by_cases hlt : n < l.length
    · have hne : l ≠ [] := by rintro rfl; simp at hlt
      obtain ⟨b, off, rfl, hbl, hcell⟩ := hr hne
      have c0 := hcell n _ (List.getElem?_eq_getElem hlt)
      have ht := take_cont l n hlt s
      have hq := cont_get (s := s) hlt
      generalize l[n] = y at *
      rw [S] at c0
      have HT := hid ht
      have HQ := hid hq
      have HC := hid hc
      clear ht hq hc hcell hr hz hne
      by_cases hy : y = s
      · have hb : (y == s) = true := by rw [hy]; simp
        have HY := hid (HQ.out hy)
        clear hy
        go_wp2
        go_ret
        exact ⟨by rw [HY.out]; rfl, rfl⟩
      · have hb : (y == s) = false := by rw [beq_eq_false_iff_ne]; exact hy
        have HY := hid hy
        clear hy
        go_wp2
        go_roundg (gk - 1)
        case measure => have := HG.out; omega
        case rel => exact ⟨n + 1, by omega, by have := HG.out; omega, by simp, by rw [HT.out, HC.out, Bool.false_or, beq_eq_false_iff_ne]; exact fun e => HY.out e.symm, rfl⟩
    · have ht : l.take n = l := List.take_of_length_le (by omega)
      rw [ht] at hc
      have HC := hid hc
      clear hc ht
      go_wp2
      go_ret
      exact ⟨by rw [HC.out]; rfl, rfl⟩

theorem take_any (l : List (Str × Str)) (n : Nat) (h : n < l.length) (s : Str) : (l.take (n + 1)).any (fun p => p.1 == s) = ((l.take n).any (fun p => p.1 == s) || (l[n].1 == s)) := by
  have e : l.take (n + 1) = l.take n ++ [l[n]] := by rw [List.take_add_one, List.getElem?_eq_getElem h]; rfl
  rw [e, List.any_append]
  simp
theorem any_get {l : List (Str × Str)} {n : Nat} {s : Str} (h : n < l.length) (e : l[n].1 = s) : l.any (fun p => p.1 == s) = true :=
  List.any_eq_true.2 ⟨l[n], List.getElem_mem _, by simp [e]⟩
/-- what the reference's find hands back: a place, or -1 -/
def FindV (l : List (Str × Str)) (s : Str) (r : Int) : Prop := (l.any (fun p => p.1 == s) = true ∧ 0 ≤ r ∧ r < l.length) ∨ (l.any (fun p => p.1 == s) = false ∧ r = -1)

set_option maxHeartbeats 1000000 in
theorem rfind_any (w : World) (v : Value) (l : List (Str × Str)) (s : Str) (h : RdP w v l) (hl : l.length ≤ 1000) :
    Calls Tryz.prog 129 #[v, .string ⟨s.toArray⟩] w fun e w' => ∃ r, e = .returned (.int .i64 r) ∧ FindV l s r ∧ w' = w := by
  obtain ⟨ao, cp, rfl, hz, hr⟩ := h
  go_enter Tryz.func129, Tryz.ntmps129
  go_wp2
  go_loopg [5] l.length (fun g vi W => ∃ n : Nat, n ≤ l.length ∧ l.length ≤ n + g ∧ vi = .int .i64 n ∧ (l.take n).any (fun p => p.1 == s) = false ∧ W = w)
  case atStart => exact ⟨0, Nat.zero_le _, by omega, rfl, by simp, rfl⟩
  case round =>
    obtain ⟨n, hn, hg, rfl, hc, rfl⟩ := hrel
    have HG := hid hg
    clear hg
    by_cases hlt : n < l.length
    · have hne : l ≠ [] := by rintro rfl; simp at hlt
      obtain ⟨b, off, rfl, hbl, hcell⟩ := hr hne
      have c0 := hcell n 0 (.string ⟨l[n].1.toArray⟩) hlt rfl
      have ht := take_any l n hlt s
      have hq := any_get (s := s) hlt
      generalize l[n].1 = y at *
      rw [Nat.add_zero] at c0
      have HT := hid ht
      have HQ := hid hq
      have HC := hid hc
      clear ht hq hc hcell hr hz hne
      by_cases hy : y = s
      · have hb : (y == s) = true := by rw [hy]; simp
        have HY := hid (HQ.out hy)
        clear hy
        go_wp2
        go_ret
        exact ⟨_, rfl, Or.inl ⟨HY.out, by omega, by omega⟩, rfl⟩
      · have hb : (y == s) = false := by rw [beq_eq_false_iff_ne]; exact hy
        have HY := hid hb
        clear hy
        go_wp2
        go_roundg (gk - 1)
        case measure => have := HG.out; omega
        case rel => exact ⟨n + 1, by omega, by have := HG.out; omega, by simp, by rw [HT.out, HC.out, HY.out]; rfl, rfl⟩
    · have ht : l.take n = l := List.take_of_length_le (by omega)
      rw [ht] at hc
      have HC := hid hc
      clear hc ht
      go_wp2
      go_ret
      exact ⟨_, rfl, Or.inr ⟨HC.out, rfl⟩, rfl⟩
end Go.Proofs.YtjlfchnnhglbjaaGreat
