/- The contract of chain.Chains.rings. -/
import Derived.Test.YtffaoejahnildaaGreatChPar
import Derived.WalkMore
set_option linter.unusedVariables false
set_option linter.unusedSimpArgs false
namespace Go.Proofs.YtffaoejahnildaaGreat
open Go.RowKit Go.Lib Go.Sort Go.Maps

/-- what rings hands back -/
def RingOut (D : List (Str × Str)) (k : Str) (w : World) (e : Ending) (w' : World) : Prop := (∃ b : Bool, e = .returned (.bool b) ∧ (b = true ↔ ringP D k)) ∧ Below w.heap.size w w'
theorem ringOut_yes {D : List (Str × Str)} {k : Str} {w w' : World} (h : ringP D k) (hb : Below w.heap.size w w') : RingOut D k w (.returned (.bool true)) w' := ⟨⟨true, rfl, fun _ => h, fun _ => rfl⟩, hb⟩
theorem ringOut_no {D : List (Str × Str)} {k : Str} {w w' : World} (h : ¬ ringP D k) (hb : Below w.heap.size w w') : RingOut D k w (.returned (.bool false)) w' := ⟨⟨false, rfl, fun e => (by cases e), fun e => absurd e h⟩, hb⟩

/-- the state of a round: at a, behind j steps; L: what was met -/
structure RingSt (w : World) (D : List (Str × Str)) (k : Str) (g : Nat) (W : World) (j : Nat) (a : Str) (L : List Str) : Prop where
  it : iter D j k = some a
  own : OwnB W w.heap.size j L
  len : L.length = j
  nd : L.Nodup
  mem : ∀ x, x ∈ L ↔ ∃ i, i < j ∧ iter D (i + 1) k = some x
  no : k ∉ L
  gas : (reach D k).length + 1 ≤ j + g
  bel : Below w.heap.size w W
theorem RingSt.room {w W : World} {D : List (Str × Str)} {k a : Str} {g j : Nat} {L : List Str} (hD : saidOK D) (hk : namedB k = true) (h : RingSt w D k g W j a L) : j ≤ (reach D k).length := by
  rw [← h.len]
  refine nodup_le L _ h.nd fun x hx => ?_
  obtain ⟨i, _, hi⟩ := (h.mem x).1 hx
  exact iter_reach hD hk _ _ hi
theorem RingSt.hits {w W : World} {D : List (Str × Str)} {k a : Str} {g j : Nat} {L : List Str} (h : RingSt w D k g W j a L) : ∀ i, i < j → iter D (i + 1) k ≠ some k := fun i hi e => h.no ((h.mem k).2 ⟨i, hi, e⟩)
theorem RingSt.next {w W W' : World} {D : List (Str × Str)} {k a x : Str} {g j : Nat} {L : List Str} (h : RingSt w D k g W j a L) (hs : stepF D a = some x) (hx : x ≠ k) (hm : x ∉ L) (own : OwnB W' w.heap.size (j + 1) (x :: L)) (hg : 1 ≤ g) (bel : Below w.heap.size w W') : RingSt w D k (g - 1) W' (j + 1) x (x :: L) := by
  have hit : iter D (j + 1) k = some x := by rw [iter, h.it]; exact hs
  refine ⟨hit, own, by rw [List.length_cons, h.len], List.nodup_cons.2 ⟨hm, h.nd⟩, fun y => ?_, ?_, by have := h.gas; omega, bel⟩
  · rw [List.mem_cons, h.mem]
    constructor
    · rintro (rfl | ⟨i, hi, hy⟩)
      · exact ⟨j, by omega, hit⟩
      · exact ⟨i, by omega, hy⟩
    · rintro ⟨i, hi, hy⟩
      by_cases he : i = j
      · subst he; rw [hit] at hy; cases hy; exact Or.inl rfl
      · exact Or.inr ⟨i, by omega, hy⟩
  · rw [List.mem_cons]
    rintro (e | e)
    · exact hx e.symm
    · exact h.no e

set_option maxRecDepth 100000 in
set_option maxHeartbeats 16000000 in
theorem rings_any (w : World) (v : Value) (D : List (Str × Str)) (k : Str) (h : ChRd w v D) (hD : saidOK D) (hk : namedB k = true) (hsz : D.length ≤ 4398046511104) :
    Calls Tryz.prog 23 #[v, .string ⟨k.toArray⟩] w fun e w' => RingOut D k w e w' := by
  have hmm := @run_makeMap Tryz.prog
  have PA := hid (fun W (hb : Below w.heap.size w W) (a : Str) (ha : a.length ≤ maxLen) => parent_any W v D a (h.below hb) ha)
  have hrl := reach_len D k
  have HRL := hid hrl
  have HD := hid hD
  have HK := hid hk
  have HSZ := hid hsz
  obtain ⟨bc, bm, n0, rfl, _, _, _⟩ := h
  clear hrl hD hsz
  have hb0 : Below w.heap.size w (w.alloc (.map #[] 0)) := (Below.refl _ _).alloc (Nat.le_refl _) _
  have ST0 := hid (show RingSt w D k ((reach D k).length + 1) (w.alloc (.map #[] 0)) 0 k [] from ⟨rfl, OwnB.made w, rfl, List.nodup_nil, fun x => ⟨fun h => (by cases h), fun ⟨i, hi, _⟩ => (by omega)⟩, by simp, by omega, hb0⟩)
  clear hb0 hk
  obtain ⟨N, hN⟩ : ∃ N, N = (reach D k).length := ⟨_, rfl⟩
  have HN := hid hN
  clear hN
  go_enter Tryz.func23, Tryz.ntmps23
  go_wp2_with fail
  go_step3
  go_wp2_with fail
  go_step3
  go_wp2_with fail
  go_loopg [6] (N + 1) (fun g va W => ∃ (j : Nat) (a : Str) (L : List Str), va = .string ⟨a.toArray⟩ ∧ RingSt w D k g W j a L)
  case atStart => exact ⟨0, k, [], rfl, by rw [HN.out]; exact ST0.out⟩
  case round =>
    obtain ⟨j, a, L, rfl, st⟩ := hrel
    rename World => w1
    have ST := hid st
    have hal : a.length ≤ maxLen := Nat.le_trans (named_len (iter_named HD.out HK.out j a st.it)) (by decide)
    have hbl := st.bel
    have HRM := hid (RingSt.room HD.out HK.out st)
    clear st ST0
    go_wp2_with fail
    refine (PA.out _ hbl a hal).mono ?_
    rintro e w2 ⟨rfl, hb2⟩
    have HB2 := hid (hbl.then hb2)
    have HOW := hid (ST.out.own.below hb2)
    clear hb2 hbl hal
    generalize hq : parentF D a = q
    have HQ := hid hq
    clear hq
    obtain ⟨x, ok⟩ := q
    simp only
    cases ok with
    | false =>
      have HNO := hid (ring_no1 ST.out.it (parent_none (by rw [HQ.out])) ST.out.hits)
      go_wp2_with fail
      go_ret
      exact ringOut_no HNO.out HB2.out
    | true =>
      have HS := hid (parent_step HQ.out)
      have HXN := hid (step_named HD.out HS.out)
      have hxl : x.length ≤ maxLen := Nat.le_trans (named_len HXN.out) (by decide)
      by_cases hxk : x = k
      · have hub : (x == k) = true := by rw [hxk]; simp
        have HYES := hid (show ringP D k from ⟨j, by rw [iter, ST.out.it]; show stepF D a = some k; rw [← hxk]; exact HS.out⟩)
        clear hxk
        go_wp2_with fail
        go_ret
        exact ringOut_yes HYES.out HB2.out
      · have hub : (x == k) = false := by rw [beq_eq_false_iff_ne]; exact hxk
        have HXK := hid hxk
        clear hxk
        by_cases hm : x ∈ L
        · have HM := hid (show decide (x ∈ L) = true by simp [hm])
          have HNO := hid (show ¬ ringP D k by
            obtain ⟨i, hi, hx⟩ := (ST.out.mem x).1 hm
            exact ring_no3 ST.out.it HS.out hi hx ST.out.hits)
          clear hm
          go_wp2_with (at_lookup; refine wpList_met_b HOW.out rfl _ _ rfl rfl x rfl hxl true HM.out ?_)
          go_ret
          exact ringOut_no HNO.out HB2.out
        · have HM := hid (show decide (x ∈ L) = false by simp [hm])
          have HXL := hid hm
          have hjn : j < maxLen := by have := HRM.out; have := HRL.out; have := HSZ.out; unfold maxLen; omega
          have HJN := hid hjn
          clear hm hjn
          go_wp2_with (first
            | (at_lookup; refine wpList_met_b HOW.out rfl _ _ rfl rfl x rfl hxl false HM.out ?_)
            | (at_mapUpdate; refine wpList_mark HOW.out rfl _ _ _ rfl rfl HJN.out x rfl rfl hxl ?_; intro w3 hown3 hgr3))
          have HO3 := hid hown3
          have HB3 := hid (HB2.out.grown hgr3 HB2.out.size (fun j hj => by cases hj; exact Nat.le_refl _))
          clear hown3 hgr3
          go_wp2_with fail
          have hgk : 1 ≤ gk := by have := HRM.out; have := ST.out.gas; omega
          go_roundg (gk - 1)
          case measure => omega
          case rel => exact ⟨j + 1, x, x :: L, rfl, ST.out.next HS.out HXK.out HXL.out HO3.out hgk HB3.out⟩
end Go.Proofs.YtffaoejahnildaaGreat
