/- PtRestB, TbWithin, PtPutG, AliasP, PtJoin, PtEnds, PtBack, AlHas -/
import Derived.Test.YtbbmdbolkicpcaaGreatDoorING12
import Derived.Test.YtbbmdbolkicpcaaGreatDoorING11
import Derived.Test.YtbbmdbolkicpcaaGreatDoorING05
import Derived.Test.YtbbmdbolkicpcaaGreatDoorING02
set_option linter.unusedVariables false
set_option linter.unusedSimpArgs false
namespace Go.Proofs.YtbbmdbolkicpcaaGreatDoor
open Go.RowKit Go.Lib
theorem ParseOut.open' {w w' : World} {s : Str} {x : Ending} (h : ParseOut w s x w') : ∃ (v : Value) (er : Nat) (at' : Int), x = .returned (.tuple #[v, .agg #[.int .i64 er, .int .i64 at']]) ∧ Below w.heap.size w w' ∧ ∃ l : List Stp,
  RdSt w' v l ∧ ((er = 0 ∧ pathP s = some l) ∨ (er ≠ 0 ∧ pathP s = none)) ∧ ∃ ao cp, v = .slice ao l.length cp ∧ l.length ≤ cp ∧ ((ao = none ∧ l = [] ∧ cp = 0) ∨ ∃ g, ao = some ⟨g, 0, none⟩) := by
 obtain ⟨⟨l, v, h1, rfl, h2⟩ | ⟨h1, er, a, h2, rfl⟩, hb⟩ := h
 ·refine ⟨v, 0, 0, rfl, hb, l, h2.rd, Or.inl ⟨rfl, h1⟩, ?_⟩
  obtain ⟨zs, rfl, h3, _⟩ := h2
  rw [List.length_map]
  rcases h3.shape with ⟨rfl, rfl⟩ | ⟨g, cap, cur, rfl, _, _, hn, _⟩
  ·exact ⟨none, 0, rfl, Nat.le_refl _, Or.inl ⟨rfl, rfl, rfl⟩⟩
  ·exact ⟨_, cap, rfl, hn, Or.inr ⟨g, rfl⟩⟩
 ·exact ⟨_, er, a, rfl, hb, [], ⟨[], rfl, RdL.nil _ _, fun z hz => by cases hz⟩, Or.inr ⟨h2, h1⟩, none, 0, rfl, Nat.le_refl _, Or.inl ⟨rfl, rfl, rfl⟩⟩
def restV (o : Option Str) : Value := match o with | some t => .tuple #[.string ⟨t.toArray⟩, .bool true] | none => .tuple #[.string ⟨#[]⟩, .bool false]
theorem RdSt.take {w : World} {a : Option Addr} {n c : Nat} {l : List Stp} (h : RdSt w (.slice a n c) l) (m : Nat) (hm : m ≤ l.length) : RdSt w (.slice a m c) (l.take m) := by
 obtain ⟨zs, rfl, h2, h3⟩ := h
 refine ⟨zs.take m, List.map_take, h2.take m (by rw [List.length_map] at hm; exact hm), fun z hz => h3 z (List.mem_of_mem_take hz)⟩
theorem RdSt.drop {w : World} {p : Nat} {o n c : Nat} {l : List Stp} (h : RdSt w (.slice (some ⟨p, o, none⟩) n c) l) (m : Nat) (hm : m ≤ l.length) :
  ∃ zs : List (Stp × (Option Addr × Nat)), zs.map (·.1) = l.drop m ∧ RdL encSt w (.slice (some ⟨p, o + m * 2, none⟩) (n - m) (c - m)) zs ∧ ∀ z ∈ zs, RdP w (keysV z) z.1.2 := by
 obtain ⟨zs, rfl, ⟨ao, cp, e, ⟨h1, h2, _⟩, hc⟩, h3⟩ := h
 cases e
 rw [List.length_map] at hm
 refine ⟨zs.drop m, List.map_drop, ⟨_, _, by rw [List.length_drop], ⟨by rw [List.length_drop]; omega, by rw [List.length_drop]; omega, fun e => by cases e⟩, fun hne => ?_⟩, fun z hz => h3 z (List.mem_of_mem_drop hz)⟩
 obtain ⟨b, off, ha, hlt, hx⟩ := hc (by rintro rfl; simp at hne)
 cases ha
 refine ⟨_, _, rfl, hlt, fun j i x hj hx2 => ?_⟩
 rw [List.length_drop] at hj
 rw [List.getElem_drop] at hx2
 have := hx (m + j) i x (by omega) hx2
 rw [show o + m * 2 + j * 2 + i = o + (m + j) * 2 + i by rw [Nat.add_mul]; omega]
 exact this
theorem put_one (w : World) (u : Value) (zs : List (Stp × (Option Addr × Nat))) (t : Str) (hu : RdL encSt w u zs) (hk : ∀ z ∈ zs, RdP w (keysV z) z.1.2) (hp : printS (zs.map (·.1)) = some t) :
  Calls Tryz.prog 89 #[.slice (some ⟨w.heap.size, 0, none⟩) 1 1] (w.alloc (.cells #[u] 99)) fun e w' => e = .returned (.tuple #[.string ⟨t.toArray⟩, .int .i64 0]) ∧ Below w.heap.size w w' := by
 have hB : Below w.heap.size w (w.alloc (.cells #[u] 99)) := (Below.refl _ _).alloc (Nat.le_refl _) _
 have hf : ([zs] : List (List (Stp × (Option Addr × Nat)))).flatten = zs := by simp
 refine (pput_any (w.alloc (.cells #[u] 99)) (.slice (some ⟨w.heap.size, 0, none⟩) 1 1) [zs] t ⟨_, _, rfl, fun n hn => ?_⟩ (by rw [hf]; exact fun z hz => (hk z hz).below hB) (by simp) (by rw [hf]; exact hp)).mono ?_
 ·have h0 : n = 0 := by simp at hn; omega
  subst h0
  refine ⟨_, _, u, rfl, lt_of_block (heap_alloc_new w _), ?_, hu.below hB⟩
  rw [cell_of_row _ _ _ _ _ _ (heap_alloc_new w _)]
  rfl
 ·rintro e w' ⟨rfl, hb⟩
  exact ⟨rfl, hB.then hb⟩
set_option maxRecDepth 100000 in
set_option maxHeartbeats 4000000 in
theorem prest_any (w : World) (a b : Str) (ha : a.length ≤ maxLen) (hb : b.length ≤ maxLen) :
  Calls Tryz.prog 76 #[.string ⟨a.toArray⟩, .string ⟨b.toArray⟩] w fun e w' => e = .returned (restV (restF a b)) ∧ Below w.heap.size w w' := by
 have HB := hid hb
 go_enter Tryz.func76, Tryz.ntmps76
 go_wp2_with fail
 refine (pparse_any a w ha).mono ?_
 rintro e w1 h1
 obtain ⟨v1, e1, t1, rfl, hb1, l, hl, hc1, a1, k1, rfl, hcap1, hs1⟩ := h1.open'
 have S1 := hid hs1
 have L1 := hid hl
 have C1 := hid hc1
 have B1 := hid hb1
 clear h1 hl hc1 hb1 hs1
 have HA2 := hid (show Below w1.heap.size w1 (w1.alloc (.cells #[.int .i64 e1, .int .i64 t1] 77)) from (Below.refl _ _).alloc (Nat.le_refl _) _)
 have F2 := hid (heap_alloc_new w1 (.cells #[.int .i64 e1, .int .i64 t1] 77))
 go_upto_region 2 with fail
 generalize w1.alloc (.cells #[.int .i64 e1, .int .i64 t1] 77) = w2 at *
 have L2 := hid (L1.out.below HA2.out)
 have B2 := hid (B1.out.then HA2.out)
 clear L1 B1 HA2
 generalize w1.heap.size = Xb at *
 go_wp2_with fail
 refine (pparse_any b w2 HB.out).mono ?_
 rintro e w3 h3
 obtain ⟨v3, e3, t3, rfl, hb3, m, hm, hc3, a3, k3, rfl, hcap3, _⟩ := h3.open'
 have L3 := hid (L2.out.below hb3)
 have M3 := hid hm
 have C3 := hid hc3
 have B3 := hid (B2.out.then hb3)
 have F3 := hid ((hb3.block _ (lt_of_block F2.out)).trans F2.out)
 clear h3 hm hc3 hb3 L2 B2 F2
 have HA4 := hid (show Below w3.heap.size w3 (w3.alloc (.cells #[.int .i64 e3, .int .i64 t3] 77)) from (Below.refl _ _).alloc (Nat.le_refl _) _)
 have F4 := hid (heap_alloc_new w3 (.cells #[.int .i64 e3, .int .i64 t3] 77))
 go_upto_region 3 with fail
 generalize w3.alloc (.cells #[.int .i64 e3, .int .i64 t3] 77) = w4 at *
 have L4 := hid (L3.out.below HA4.out)
 have M4 := hid (M3.out.below HA4.out)
 have B4 := hid (B3.out.then HA4.out)
 have G4 := hid ((HA4.out.block _ (lt_of_block F3.out)).trans F3.out)
 clear L3 M3 B3 HA4 F3
 generalize w3.heap.size = Yb at *
 obtain ⟨x0, x1, _, _, xl⟩ := box2_cells G4.out
 obtain ⟨y0, y1, _, _, yl⟩ := box2_cells F4.out
 rcases C1.out with ⟨rfl, hp1⟩ | ⟨hz1, hp1⟩
 ·rcases C3.out with ⟨rfl, hp3⟩ | ⟨hz3, hp3⟩
  ·by_cases hle : m.length ≤ l.length
   ·have h64 := (path_all hp1).2.2.1
    have HP1 := hid hp1
    have hzi : ¬ (l.length : Int) < (m.length : Int) := by omega
    have hm64 : (m.length : Int) ≤ 64 := by omega
    have hcm : (m.length : Int) ≤ (k1 : Int) := by omega
    have hm0 : (0 : Int) ≤ (m.length : Int) := by omega
    have hml : (m.length : Int) ≤ (l.length : Int) := by omega
    have EF := hid (eqFunc_any w4 _ _ (l.take m.length) m (L4.out.take m.length hle) M4.out (by rw [List.length_take]; omega) (by omega))
    by_cases heq : l.take m.length = m
    ·have HR := hid (show restF a b = some (joinT (l.drop m.length)) by unfold restF; rw [hp1, hp3]; exact if_pos ⟨hle, heq⟩)
     rw [decide_eq_true heq] at EF
     clear heq hp1 hp3 C1 C3
     have HPR0 := print_drop HP1.out m.length
     rcases S1.out with ⟨rfl, rfl, rfl⟩ | ⟨g, rfl⟩
     ·obtain rfl : m = [] := List.eq_nil_of_length_eq_zero (by simpa using hle)
      obtain ⟨zs, hzs⟩ : ∃ zs : List (Stp × (Option Addr × Nat)), zs = [] := ⟨_, rfl⟩
      have RU := hid (show RdL encSt w4 (.slice none 0 0) zs from by rw [hzs]; exact RdL.nil _ _)
      have RK := hid (show ∀ z ∈ zs, RdP w4 (keysV z) z.1.2 from fun z hz => by rw [hzs] at hz; cases hz)
      have HPR := hid (show printS (zs.map (·.1)) = some (joinT (([] : List Stp).drop ([] : List Stp).length)) by rw [hzs]; exact HPR0)
      clear HPR0 hzs
      simp only [List.length_nil, List.take_nil] at EF ⊢
      go_wp2_with (first
       | (go_at_call 104; refine EF.out.mono ?_; rintro e w5 ⟨rfl, hb5⟩; have B5 := hid (B4.out.then hb5); have U5 := hid (RU.out.below hb5); have K5 := hid (fun z hz => (RK.out z hz).below hb5); clear hb5)
       | (go_at_call 89; refine (put_one _ _ zs _ U5.out K5.out HPR.out).mono ?_; rintro e w6 ⟨rfl, hb6⟩; have B6 := hid (B5.out.then hb6); clear hb6))
      exact bodyPost_ret (v := .tuple #[.string ⟨(joinT (([] : List Stp).drop ([] : List Stp).length)).toArray⟩, .bool true]) (by simp [results, Tryz.results76, go_sem]) rfl ⟨by rw [HR.out]; rfl, B6.out⟩
     ·by_cases hkm : k1 = m.length
      ·subst hkm
       have hlm : l.length - m.length = 0 := by omega
       obtain ⟨zs, hzs⟩ : ∃ zs : List (Stp × (Option Addr × Nat)), zs = [] := ⟨_, rfl⟩
       have RU := hid (show RdL encSt w4 (.slice (some ⟨g, 0, none⟩) 0 0) zs from by rw [hzs]; exact ⟨_, _, rfl, ⟨Nat.le_refl _, by simp, fun e => by cases e⟩, fun h => absurd rfl h⟩)
       have RK := hid (show ∀ z ∈ zs, RdP w4 (keysV z) z.1.2 from fun z hz => by rw [hzs] at hz; cases hz)
       have HPR := hid (show printS (zs.map (·.1)) = some (joinT (l.drop m.length)) by rw [hzs, ← HPR0, List.drop_eq_nil_of_le (by omega)]; rfl)
       clear HPR0 hzs
       go_wp2_with (first
        | (go_at_call 104; refine EF.out.mono ?_; rintro e w5 ⟨rfl, hb5⟩; have B5 := hid (B4.out.then hb5); have U5 := hid (RU.out.below hb5); have K5 := hid (fun z hz => (RK.out z hz).below hb5); clear hb5)
        | (go_at_call 89; refine (put_one _ _ zs _ U5.out K5.out HPR.out).mono ?_; rintro e w6 ⟨rfl, hb6⟩; have B6 := hid (B5.out.then hb6); clear hb6))
       exact bodyPost_ret (v := .tuple #[.string ⟨(joinT (l.drop m.length)).toArray⟩, .bool true]) (by simp [results, Tryz.results76, go_sem]) rfl ⟨by rw [HR.out]; rfl, B6.out⟩
      ·have hki : ¬ (k1 : Int) = (m.length : Int) := by omega
       obtain ⟨zs, hz1, hz2, hz3⟩ := L4.out.drop m.length hle
       rw [Nat.zero_add] at hz2
       have RU := hid hz2
       have RK := hid hz3
       have HPR := hid (show printS (zs.map (·.1)) = some (joinT (l.drop m.length)) by rw [hz1]; exact HPR0)
       clear HPR0 hz1 hz2 hz3
       go_wp2_with (first
        | (go_at_call 104; refine EF.out.mono ?_; rintro e w5 ⟨rfl, hb5⟩; have B5 := hid (B4.out.then hb5); have U5 := hid (RU.out.below hb5); have K5 := hid (fun z hz => (RK.out z hz).below hb5); clear hb5)
        | (go_at_call 89; refine (put_one _ _ zs _ U5.out K5.out HPR.out).mono ?_; rintro e w6 ⟨rfl, hb6⟩; have B6 := hid (B5.out.then hb6); clear hb6))
       exact bodyPost_ret (v := .tuple #[.string ⟨(joinT (l.drop m.length)).toArray⟩, .bool true]) (by simp [results, Tryz.results76, go_sem]) rfl ⟨by rw [HR.out]; rfl, B6.out⟩
    ·have HR := hid (show restF a b = none by unfold restF; rw [hp1, hp3]; exact if_neg (fun h => heq h.2))
     rw [decide_eq_false heq] at EF
     clear heq hp1 hp3 C1 C3
     rcases S1.out with ⟨rfl, rfl, rfl⟩ | ⟨g, rfl⟩
     ·obtain rfl : m = [] := List.eq_nil_of_length_eq_zero (by simpa using hle)
      simp only [List.length_nil, List.take_nil] at EF ⊢
      go_wp2_with (go_at_call 104; refine EF.out.mono ?_; rintro e w5 ⟨rfl, hb5⟩; have B5 := hid (B4.out.then hb5); clear hb5)
      exact bodyPost_ret (v := .tuple #[.string ⟨#[]⟩, .bool false]) (by simp [results, Tryz.results76, go_sem]) rfl ⟨by rw [HR.out]; rfl, B5.out⟩
     ·go_wp2_with (go_at_call 104; refine EF.out.mono ?_; rintro e w5 ⟨rfl, hb5⟩; have B5 := hid (B4.out.then hb5); clear hb5)
      exact bodyPost_ret (v := .tuple #[.string ⟨#[]⟩, .bool false]) (by simp [results, Tryz.results76, go_sem]) rfl ⟨by rw [HR.out]; rfl, B5.out⟩
   ·have hzi : (l.length : Int) < (m.length : Int) := by omega
    have HR := hid (show restF a b = none by unfold restF; rw [hp1, hp3]; exact if_neg (fun h => hle h.1))
    clear hp1 hp3 C1 C3
    go_wp2_with fail
    exact bodyPost_ret (v := .tuple #[.string ⟨#[]⟩, .bool false]) (by simp [results, Tryz.results76, go_sem]) rfl ⟨by rw [HR.out]; rfl, B4.out⟩
  ·have hne : (e3 : Int) ≠ 0 := by omega
   have HR := hid (show restF a b = none by unfold restF; rw [hp1, hp3])
   clear hp1 hp3 C1 C3
   go_wp2_with fail
   exact bodyPost_ret (v := .tuple #[.string ⟨#[]⟩, .bool false]) (by simp [results, Tryz.results76, go_sem]) rfl ⟨by rw [HR.out]; rfl, B4.out⟩
 ·have hne : (e1 : Int) ≠ 0 := by omega
  have HR := hid (show restF a b = none by unfold restF; rw [hp1])
  clear hp1 C1 C3
  go_wp2_with fail
  exact bodyPost_ret (v := .tuple #[.string ⟨#[]⟩, .bool false]) (by simp [results, Tryz.results76, go_sem]) rfl ⟨by rw [HR.out]; rfl, B4.out⟩
theorem pin_any (w : World) (a b : Str) (ha : a.length ≤ maxLen) (hb : b.length ≤ maxLen) :
  Calls Tryz.prog 95 #[.string ⟨a.toArray⟩, .string ⟨b.toArray⟩] w fun e w' => e = .returned (.bool (inB a b)) ∧ Below w.heap.size w w' := by
 have RS := hid (prest_any w a b ha hb)
 cases h : restF a b with
 | none =>
  have HI := hid (show inB a b = false by unfold inB; rw [h]; rfl)
  rw [h] at RS
  clear h
  go_enter Tryz.func95, Tryz.ntmps95
  go_wp2_with (go_at_call 76; refine RS.out.mono ?_; unfold restV; rintro e w6 ⟨rfl, hb6⟩)
  exact bodyPost_ret (v := .bool false) (by simp [results, Tryz.results95, go_sem]) rfl ⟨by rw [HI.out], hb6⟩
 | some t =>
  have HI := hid (show inB a b = true by unfold inB; rw [h]; rfl)
  rw [h] at RS
  clear h
  go_enter Tryz.func95, Tryz.ntmps95
  go_wp2_with (go_at_call 76; refine RS.out.mono ?_; unfold restV; rintro e w6 ⟨rfl, hb6⟩)
  exact bodyPost_ret (v := .bool true) (by simp [results, Tryz.results95, go_sem]) rfl ⟨by rw [HI.out], hb6⟩
end Go.Proofs.YtbbmdbolkicpcaaGreatDoor
namespace Go.Proofs.YtbbmdbolkicpcaaGreatDoor
open Go.RowKit Go.Lib Go.Sort Go.Maps Go.WideMaps Go.Shelf
structure KpB (kb n0 : Nat) (A B : World) : Prop where
 size : A.heap.size ≤ B.heap.size
 low : ∀ k, k < n0 → k ≠ kb → B.heap[k]? = A.heap[k]?
 high : ∀ k cs ty, n0 ≤ k → A.heap[k]? = some (.cells cs ty (0, 0)) → B.heap[k]? = some (.cells cs ty (0, 0))
theorem KpB.refl (kb n0 : Nat) (A : World) : KpB kb n0 A A := ⟨Nat.le_refl _, fun _ _ _ => rfl, fun _ _ _ _ h => h⟩
theorem KpB.trans {kb n0 : Nat} {A B C : World} (h : KpB kb n0 A B) (g : KpB kb n0 B C) : KpB kb n0 A C :=
 ⟨Nat.le_trans h.size g.size, fun k h1 h2 => (g.low k h1 h2).trans (h.low k h1 h2), fun k cs ty h1 h2 => g.high k cs ty h1 (h.high k cs ty h1 h2)⟩
theorem KpB.of_below {kb n0 : Nat} {A B : World} (h : Below A.heap.size A B) (hn : n0 ≤ A.heap.size) : KpB kb n0 A B :=
 ⟨h.size, fun k h1 _ => h.block k (by omega), fun k cs ty _ hc => (h.block k (lt_of_block hc)).trans hc⟩
theorem KpB.put {kb n0 l : Nat} {A : World} {o o' : Obj} (hl : n0 ≤ l) (h : A.heap[l]? = some o) (ho : o.isCells = false) : KpB kb n0 A (A.putObj l o') := by
 have hg := grownBy_putObj' A l o'
 refine ⟨hg.size, fun k h1 _ => ?_, fun k cs ty _ hc => ?_⟩
 ·by_cases hk : k < A.heap.size
  ·exact hg.block k hk (fun e => by cases e; omega)
  ·have := (Array.getElem?_eq_some_iff.1 h).1; omega
 ·refine (hg.block k (lt_of_block hc) (fun e => ?_)).trans hc
  cases e
  rw [h] at hc
  cases hc
  cases ho
theorem own_kp {kb n0 B k n : Nat} {e : TypeId} {A W : World} {v : Value} {xs : List Value} (h : A.ownsRow B e k v n xs) (hk : KpB kb n0 A W) (hn : n0 ≤ B) : W.ownsRow B e k v n xs := by
 refine ⟨h.1, ?_⟩
 rcases h.2 with h | ⟨g, cap, cur, h1, h2, h3, h4⟩
 ·exact Or.inl h
 ·exact Or.inr ⟨g, cap, cur, h1, h2, hk.high g _ _ (Nat.le_trans hn h2) h3, h4⟩
theorem below_grown {w w' : World} (h : Below w.heap.size w w') : w.grownBy w' none := ⟨h.os, h.tape, h.output, h.size, fun k hk _ => h.block k hk⟩
def inP (t : Tb) (loc grp : Str) (ps : List Str) : List (Str × Str) := (ps.filter (fun p => inB p grp)).map (fun p => (p, rText (findR t.rows loc p)))
theorem inP_take {t : Tb} {loc grp : Str} {ps : List Str} {k : Nat} (h : k < ps.length) : inP t loc grp (ps.take (k + 1)) = inP t loc grp (ps.take k) ++ (if inB (ps[k]'h) grp then [(ps[k]'h, rText (findR t.rows loc (ps[k]'h)))] else []) := by
 unfold inP
 rw [List.take_succ_eq_append_getElem h, List.filter_append, List.map_append]
 congr 1
 by_cases e : inB (ps[k]'h) grp = true
 ·simp [e]
 ·simp [e]
theorem inP_pre {t : Tb} {loc grp : Str} (ps : List Str) (k : Nat) : inP t loc grp (ps.take k) <+: inP t loc grp ps := by
 refine ⟨inP t loc grp (ps.drop k), ?_⟩
 unfold inP
 rw [← List.map_append, ← List.filter_append, List.take_append_drop]
end Go.Proofs.YtbbmdbolkicpcaaGreatDoor
namespace Go.Proofs.YtbbmdbolkicpcaaGreatDoor
open Go.RowKit Go.Lib
def putT (m : List Stp) : Str := (printS m).getD []
def putE (m : List Stp) : Nat := if (printS m).isSome then 0 else 3
theorem put_ok {m : List Stp} (hm : ∀ x ∈ m, mayB x = true) (h1 : m.length ≤ 64) (h2 : m.all fitB = true) (h3 : szS m ≤ 513) : printS m = some (joinT m) := by
 have hj : (joinT m).length ≤ 512 := by
  cases m with
  | nil => simp [joinT]
  | cons x r => have := szS_join (x :: r) (by simp); omega
 unfold printS
 rw [if_pos]
 simp only [Bool.and_eq_true, List.all_eq_true, decide_eq_true_eq]
 exact ⟨⟨⟨hm, List.all_eq_true.1 h2⟩, h1⟩, hj⟩
theorem put_no {m : List Stp} (h : ¬ (m.length ≤ 64 ∧ m.all fitB = true ∧ szS m ≤ 513)) : printS m = none := by
 cases e : printS m with
 | none => rfl
 | some t =>
  obtain ⟨h1, h2, h3, _⟩ := print_parts e
  exact absurd ⟨h2, List.all_eq_true.2 (fun x hx => (h1 x hx).2), szS_513 h3⟩ h
theorem all_take1 {α : Type} {p : α → Bool} {m : List α} {k : Nat} (h : k < m.length) : (m.take (k + 1)).all p = ((m.take k).all p && p (m[k]'h)) := by
 rw [List.take_succ_eq_append_getElem h, List.all_append]; simp
set_option maxRecDepth 100000 in
set_option maxHeartbeats 8000000 in
theorem pput_gen (w : World) (va : Value) (ls : List (List (Stp × (Option Addr × Nat)))) (hr : RdLs w va ls) (hk : ∀ z ∈ ls.flatten, RdP w (keysV z) z.1.2) (hl : ls.length ≤ 1000000) (hm : ∀ z ∈ ls.flatten, mayB z.1 = true ∧ (textP z.1).length ≤ 1073741824) (hz : ls.flatten.length ≤ 1000000000) :
  Calls Tryz.prog 89 #[va] w fun e w' => e = .returned (.tuple #[.string ⟨(putT (ls.flatten.map (·.1))).toArray⟩, .int .i64 (putE (ls.flatten.map (·.1)))]) ∧ Below w.heap.size w w' := by
 have CC := hid (concat_any w va ls hr hl hz)
 have HK := hid hk
 have HM := hid hm
 have HZ := hid hz
 clear hr hk hm hz hl
 obtain ⟨zs, hzs⟩ : ∃ zs, zs = ls.flatten := ⟨_, rfl⟩
 rw [← hzs] at CC HK HM HZ ⊢
 clear hzs
 have HML := hid (show (zs.map (·.1)).length = zs.length from List.length_map _)
 have hzl : (zs.length : Int) ≤ 1000000000 := by have h1 := HZ.out; omega
 have HMM := hid (show ∀ x ∈ zs.map (·.1), mayB x = true from by
  intro x hx
  obtain ⟨z, hz, rfl⟩ := List.mem_map.1 hx
  exact (HM.out z hz).1)
 have HDL := hid (show decide ((zs.length : Int) ≤ 64) = decide (zs.length ≤ 64) from decide_eq_decide.2 (by omega))
 go_enter Tryz.func89, Tryz.ntmps89
 go_wp2_with (go_at_call 113; refine CC.out.mono ?_; rintro e w1 ⟨v1, rfl, o1, hb1⟩; have O1 := hid o1; have B1 := hid hb1; clear CC hb1; obtain ⟨a1, c1, rfl, hc1⟩ := o1.slice; clear o1)
 go_loopg [5, 6, 7, 20] zs.length (fun g v5 v6 v7 v20 W => ∃ (k S : Nat) (T : List Str), k ≤ zs.length ∧ zs.length ≤ k + g ∧ v5 = .bool (decide (zs.length ≤ 64) && ((zs.map (·.1)).take k).all fitB) ∧ v6 = .int .i64 S ∧ v20 = .int .i64 k ∧ T.length ≤ S ∧ S ≤ 1073742500 ∧ (S ≤ 513 → S = szS ((zs.map (·.1)).take k) ∧ T = ((zs.map (·.1)).take k).map textP) ∧ (513 < S → 513 < szS ((zs.map (·.1)).take k)) ∧ T.length ≤ 514 ∧ OwnS W w.heap.size v7 T ∧ OwnL encSt 106 W w.heap.size (.slice a1 zs.length c1) zs ∧ Below w.heap.size w W)
 case atStart => exact ⟨0, 0, [], Nat.zero_le _, by omega, by rw [List.take_zero, List.all_nil, Bool.and_true]; first | rfl | (rw [← HDL.out]; done) | (rw [HDL.out]; done), rfl, rfl, by simp, by omega, fun _ => ⟨rfl, rfl⟩, fun h => by omega, by simp, ⟨rfl, Or.inl ⟨rfl, rfl⟩⟩, O1.out, B1.out⟩
 case round =>
  obtain ⟨k, S, T, hk, hg, rfl, rfl, rfl, htl, hsz, hs1, hs2, ht5, os, oz, hb⟩ := hrel
  rename World => w2
  have HG := hid hg
  have OS := hid os
  have OZ := hid oz
  have B2 := hid hb
  have HTL5 := hid ht5
  have HTLS := hid htl
  have HSZ := hid hsz
  have HS1 := hid hs1
  have HS2 := hid hs2
  clear hg os oz hb O1 B1 htl hsz hs1 hs2 ht5
  have hS0 : (0 : Int) ≤ (S : Int) := by omega
  have hS1 : (S : Int) ≤ 1073742500 := by have := HSZ.out; omega
  by_cases hlt : k < zs.length
  ·have hni : (k : Int) < (zs.length : Int) := by omega
   have hn0 : (0 : Int) ≤ (k : Int) := by omega
   have hltm : k < (zs.map (·.1)).length := by rw [HML.out]; exact hlt
   have hmk : (zs.map (·.1))[k]'hltm = (zs[k]'hlt).1 := List.getElem_map _
   have HST := hid (szS_take hltm)
   have HTT := hid (text_take hltm)
   have HAT := hid (all_take1 (p := fitB) hltm)
   have HTL := hid (HM.out (zs[k]'hlt) (List.getElem_mem hlt)).2
   have HMB := hid (HMM.out ((zs.map (·.1))[k]'hltm) (List.getElem_mem hltm))
   have hkeys := HK.out (zs[k]'hlt) (List.getElem_mem hlt)
   rw [hmk] at HST HTT HMB HAT
   obtain ⟨g, rfl⟩ := OwnL.some' OZ.out (by intro e; rw [e] at hlt; simp at hlt)
   obtain ⟨r0, _, gl⟩ := OZ.out.cell k 0 (.string ⟨((zs[k]'hlt).1.1).toArray⟩) hlt rfl
   obtain ⟨r1, _, _⟩ := OZ.out.cell k 1 (keysV (zs[k]'hlt)) hlt rfl
   rw [Nat.add_zero] at r0
   generalize zs[k]'hlt = z at *
   obtain ⟨⟨nm, ks⟩, az, cz⟩ := z
   simp only [keysV] at r0 r1 hkeys HST HTT HTL HMB HAT
   have HA5 := hid (show Below w2.heap.size w2 (w2.alloc (.cells #[.string ⟨nm.toArray⟩, .slice az ks.length cz] 106)) from (Below.refl _ _).alloc (Nat.le_refl _) _)
   have F5 := hid (heap_alloc_new w2 (.cells #[.string ⟨nm.toArray⟩, .slice az ks.length cz] 106))
   clear hmk
   go_upto_region 8 with fail
   generalize w2.alloc (.cells #[.string ⟨nm.toArray⟩, .slice az ks.length cz] 106) = w5 at *
   obtain ⟨y0, y1, _, _, yl⟩ := box2_cells F5.out
   have B5 := hid (B2.out.then HA5.out)
   have OS5 := hid (show OwnS w5 w.heap.size _ _ from own_below OS.out HA5.out)
   have OZ5 := hid (OZ.out.below HA5.out)
   have RK5 := hid (show RdP w5 (.slice az ks.length cz) ks from hkeys.below B5.out)
   clear HA5 OS OZ B2 hkeys r0 r1 gl
   generalize w2.heap.size = Sb at *
   have MY := hid (pmay_any w5 (nm, ks) (.slice az ks.length cz) RK5.out HMB.out (by have := HTL.out; omega))
   generalize fitB (nm, ks) = fb at *
   generalize hsv : (decide (zs.length ≤ 64) && ((zs.map (·.1)).take k).all fitB) = sv at *
   have HSV := hid hsv
   clear hsv
   have HNS := hid (show (decide (zs.length ≤ 64) && ((zs.map (·.1)).take (k + 1)).all fitB) = (sv && fb) from by rw [HAT.out, ← HSV.out, Bool.and_assoc])
   go_wp2_with fail
   refine MY.out.mono ?_
   rintro e w6 ⟨rfl, hb6⟩
   have F6 := hid ((hb6.block _ (lt_of_block F5.out)).trans F5.out)
   have B6 := hid (B5.out.then hb6)
   have OS6 := hid (show OwnS w6 w.heap.size _ _ from own_below OS5.out hb6)
   have OZ6 := hid (OZ5.out.below hb6)
   have RK6 := hid (RK5.out.below hb6)
   clear hb6 y0 y1 yl F5 B5 OS5 OZ5 RK5 MY
   obtain ⟨y0, y1, _, _, yl⟩ := box2_cells F6.out
   cases sv with
   | true =>
    have TX := hid (ptext_any w6 (nm, ks) (.slice az ks.length cz) RK6.out (by have := HTL.out; omega))
    go_wp2_with fail
    refine TX.out.mono ?_
    rintro e w7 ⟨rfl, hb7⟩
    have B7 := hid (B6.out.then hb7)
    have OS7 := hid (show OwnS w7 w.heap.size _ _ from own_below OS6.out hb7)
    have OZ7 := hid (OZ6.out.below hb7)
    clear hb7 y0 y1 yl F6 B6 OS6 OZ6 RK6 TX
    generalize htx : textP (nm, ks) = tx at *
    have htx1 : (tx.length : Int) ≤ 1073741824 := by have := HTL.out; omega
    have htx0 : (0 : Int) ≤ (tx.length : Int) := by omega
    have HZ7 := hid B7.out.size
    have HAB := hid (show Below w7.heap.size w7 (w7.alloc (.cells #[.string ⟨tx.toArray⟩] 9)) from (Below.refl _ _).alloc (Nat.le_refl _) _)
    by_cases hs5 : S ≤ 513
    ·have hsi : (S : Int) ≤ 513 := by omega
     obtain ⟨hq1, hq2⟩ := HS1.out hs5
     have HQ1 := hid hq1
     have HQ2 := hid hq2
     clear hq1 hq2
     go_wp2_with (at_builtin; refine wpList_pushS rfl (.tmp 39) (.tmp 41) rfl w.heap.size _ T tx rfl OS7.out rfl (by have := HTL5.out; omega) HZ7.out ?_; intro v8 w8 own gr mv; have OS8 := hid (show OwnS w8 w.heap.size v8 (T ++ [tx]) from own); have OZ8 := hid (show OwnL encSt 106 w8 w.heap.size _ zs from World.ownsRow.kept OZ7.out gr (ne_kinds OZ7.out OS7.out (by decide))); have B8 := hid (B7.out.grown gr HZ7.out (fun k hk => (World.ownsRow.lt OS7.out k hk).1)); clear own gr mv)
     go_wp2_with fail
     go_roundg (gk - 1)
     case measure => have := HG.out; omega
     case rel => exact ⟨k + 1, S + (tx.length + 1), T ++ [tx], by omega, by have := HG.out; omega, by rw [HNS.out]; rfl, by simp, by simp, by have := HTLS.out; simp; omega, by omega, fun _ => ⟨by rw [HST.out, ← HQ1.out], by rw [HTT.out, ← HQ2.out]⟩, fun _ => by rw [HST.out, ← HQ1.out]; omega, by have := HTLS.out; simp; omega, OS8.out, OZ8.out, B8.out⟩
    ·have hsi : ¬ (S : Int) ≤ 513 := by omega
     have HQ3 := hid (HS2.out (by omega))
     go_wp2_with fail
     go_roundg (gk - 1)
     case measure => have := HG.out; omega
     case rel => exact ⟨k + 1, S, T, by omega, by have := HG.out; omega, by rw [HNS.out]; rfl, rfl, by simp, HTLS.out, HSZ.out, fun h => absurd h hs5, fun _ => by rw [HST.out]; have := HQ3.out; omega, HTL5.out, OS7.out, OZ7.out, B7.out⟩
   | false =>
    have TX := hid (ptext_any w6 (nm, ks) (.slice az ks.length cz) RK6.out (by have := HTL.out; omega))
    go_wp2_with fail
    refine TX.out.mono ?_
    rintro e w7 ⟨rfl, hb7⟩
    have B7 := hid (B6.out.then hb7)
    have OS7 := hid (show OwnS w7 w.heap.size _ _ from own_below OS6.out hb7)
    have OZ7 := hid (OZ6.out.below hb7)
    clear hb7 y0 y1 yl F6 B6 OS6 OZ6 RK6 TX
    generalize htx : textP (nm, ks) = tx at *
    have htx1 : (tx.length : Int) ≤ 1073741824 := by have := HTL.out; omega
    have htx0 : (0 : Int) ≤ (tx.length : Int) := by omega
    have HZ7 := hid B7.out.size
    have HAB := hid (show Below w7.heap.size w7 (w7.alloc (.cells #[.string ⟨tx.toArray⟩] 9)) from (Below.refl _ _).alloc (Nat.le_refl _) _)
    by_cases hs5 : S ≤ 513
    ·have hsi : (S : Int) ≤ 513 := by omega
     obtain ⟨hq1, hq2⟩ := HS1.out hs5
     have HQ1 := hid hq1
     have HQ2 := hid hq2
     clear hq1 hq2
     go_wp2_with (at_builtin; refine wpList_pushS rfl (.tmp 39) (.tmp 41) rfl w.heap.size _ T tx rfl OS7.out rfl (by have := HTL5.out; omega) HZ7.out ?_; intro v8 w8 own gr mv; have OS8 := hid (show OwnS w8 w.heap.size v8 (T ++ [tx]) from own); have OZ8 := hid (show OwnL encSt 106 w8 w.heap.size _ zs from World.ownsRow.kept OZ7.out gr (ne_kinds OZ7.out OS7.out (by decide))); have B8 := hid (B7.out.grown gr HZ7.out (fun k hk => (World.ownsRow.lt OS7.out k hk).1)); clear own gr mv)
     go_wp2_with fail
     go_roundg (gk - 1)
     case measure => have := HG.out; omega
     case rel => exact ⟨k + 1, S + (tx.length + 1), T ++ [tx], by omega, by have := HG.out; omega, by rw [HNS.out]; rfl, by simp, by simp, by have := HTLS.out; simp; omega, by omega, fun _ => ⟨by rw [HST.out, ← HQ1.out], by rw [HTT.out, ← HQ2.out]⟩, fun _ => by rw [HST.out, ← HQ1.out]; omega, by have := HTLS.out; simp; omega, OS8.out, OZ8.out, B8.out⟩
    ·have hsi : ¬ (S : Int) ≤ 513 := by omega
     have HQ3 := hid (HS2.out (by omega))
     go_wp2_with fail
     go_roundg (gk - 1)
     case measure => have := HG.out; omega
     case rel => exact ⟨k + 1, S, T, by omega, by have := HG.out; omega, by rw [HNS.out]; rfl, rfl, by simp, HTLS.out, HSZ.out, fun h => absurd h hs5, fun _ => by rw [HST.out]; have := HQ3.out; omega, HTL5.out, OS7.out, OZ7.out, B7.out⟩
  ·have hni : ¬ (k : Int) < (zs.length : Int) := by omega
   have hkn : k = zs.length := by omega
   have HTA := hid (show (zs.map (·.1)).take k = zs.map (·.1) by rw [hkn, ← HML.out]; exact List.take_length)
   rw [HTA.out] at HS1 HS2 ⊢
   by_cases hgood : (zs.length ≤ 64 ∧ (zs.map (·.1)).all fitB = true ∧ szS (zs.map (·.1)) ≤ 513)
   ·obtain ⟨g1, g2, g3⟩ := hgood
    have hs5 : S ≤ 513 := by
     rcases Nat.lt_or_ge 513 S with h | h
     ·have := HS2.out h; omega
     ·exact h
    obtain ⟨rfl, rfl⟩ := HS1.out hs5
    have HP := hid (put_ok HMM.out (by rw [HML.out]; exact g1) g2 g3)
    have JN := hid (join_any w2 w.heap.size _ _ OS.out (by have := HTL5.out; omega) (by rw [join_texts]; have h5 := (print_parts HP.out).2.2.1; omega))
    rw [join_texts] at JN
    have HPT := hid (show putT (zs.map (·.1)) = joinT (zs.map (·.1)) by rw [putT, HP.out]; rfl)
    have HPE := hid (show putE (zs.map (·.1)) = 0 by rw [putE, HP.out]; rfl)
    rw [g2]
    have hd : decide (zs.length ≤ 64) = true := decide_eq_true g1
    rw [hd]
    generalize szS (zs.map (·.1)) = S at *
    have hS5 : (S : Int) ≤ 513 := by omega
    have hS2 : (S : Int) - 1 ≤ 512 := by omega
    go_wp2_with (go_at_call 116; refine JN.out.mono ?_; rintro e w9 ⟨rfl, hb9⟩; have B9 := hid (B2.out.then hb9); clear hb9)
    exact bodyPost_ret (by rw [HPT.out, HPE.out]; simp [results, Tryz.results89, go_sem]) rfl ⟨rfl, B9.out⟩
   ·have HP := hid (put_no (m := zs.map (·.1)) (by rw [HML.out]; exact hgood))
    have HPT := hid (show putT (zs.map (·.1)) = [] by rw [putT, HP.out]; rfl)
    have HPE := hid (show putE (zs.map (·.1)) = 3 by rw [putE, HP.out]; rfl)
    cases hsv : (decide (zs.length ≤ 64) && (zs.map (·.1)).all fitB) with
    | false =>
     go_wp2_with fail
     exact bodyPost_ret (by rw [HPT.out, HPE.out]; simp [results, Tryz.results89, go_sem]) rfl ⟨rfl, B2.out⟩
    | true =>
     have h513 : 513 < S := by
      rcases Nat.lt_or_ge 513 S with h | h
      ·exact h
      ·rw [Bool.and_eq_true, decide_eq_true_eq] at hsv
       exact absurd ⟨hsv.1, hsv.2, by rw [← (HS1.out h).1]; exact h⟩ hgood
     have hS2 : ¬ (S : Int) - 1 ≤ 512 := by omega
     have hS3 : (512 : Int) < (S : Int) - 1 := by omega
     go_wp2_with fail
     exact bodyPost_ret (by rw [HPT.out, HPE.out]; simp [results, Tryz.results89, go_sem]) rfl ⟨rfl, B2.out⟩
end Go.Proofs.YtbbmdbolkicpcaaGreatDoor
namespace Go.Proofs.YtbbmdbolkicpcaaGreatDoor
open Go.Lib
abbrev Al := Str × Str
theorem rest_some {a b r : Str} (h : restF a b = some r) : ∃ l m, pathP a = some (m ++ l) ∧ pathP b = some m ∧ r = joinT l ∧ pathP r = some l := by
 unfold restF at h
 split at h
 ·next l m h1 h2 =>
  split at h
  ·next hc =>
   refine ⟨l.drop m.length, m, ?_, h2, (Option.some.inj h).symm, ?_⟩
   ·rw [h1]
    conv => lhs; rw [← List.take_append_drop m.length l, hc.2]
   ·rw [← Option.some.inj h]
    exact print_path (print_drop h1 _)
  ·cases h
 ·cases h
theorem rest_of {a b : Str} {l m : List Stp} (h1 : pathP a = some (m ++ l)) (h2 : pathP b = some m) : restF a b = some (joinT l) := by
 unfold restF
 rw [h1, h2]
 simp
theorem in_iff {a b : Str} : inB a b = true ↔ ∃ l m, pathP a = some (m ++ l) ∧ pathP b = some m := by
 unfold inB
 constructor
 ·intro h
  obtain ⟨r, hr⟩ := Option.isSome_iff_exists.1 h
  obtain ⟨l, m, h1, h2, _⟩ := rest_some hr
  exact ⟨l, m, h1, h2⟩
 ·rintro ⟨l, m, h1, h2⟩
  rw [rest_of h1 h2]; rfl
theorem in_two {p a b : Str} (h1 : inB p a = true) (h2 : inB p b = true) : inB a b = true ∨ inB b a = true := by
 obtain ⟨l, m, e1, e2⟩ := in_iff.1 h1
 obtain ⟨l', m', e3, e4⟩ := in_iff.1 h2
 rw [e1] at e3
 have e5 := Option.some.inj e3
 rcases List.append_eq_append_iff.1 e5 with ⟨c, rfl, _⟩ | ⟨c, rfl, _⟩
 ·exact Or.inr (in_iff.2 ⟨c, m, e4, e2⟩)
 ·exact Or.inl (in_iff.2 ⟨c, m', e2, e4⟩)
def joinF (a b : Str) : Option Str := match pathP a, pathP b with
 | some l, some m => printS (l ++ m)
 | _, _ => none
theorem join_some {a b t : Str} (h : joinF a b = some t) : ∃ l m, pathP a = some l ∧ pathP b = some m ∧ pathP t = some (l ++ m) ∧ printS (l ++ m) = some t := by
 unfold joinF at h
 split at h
 ·next l m h1 h2 => exact ⟨l, m, h1, h2, print_path h, h⟩
 ·cases h
theorem join_of {a b : Str} {l m : List Stp} (h1 : pathP a = some l) (h2 : pathP b = some m) : joinF a b = printS (l ++ m) := by
 unfold joinF
 rw [h1, h2]
def betA (x : Al) : Option Al → Bool
 | none => true
 | some b => inB x.1 b.1
def bestA (p : Str) (best : Option Al) (x : Al) : Option Al := if (inB p x.1 && betA x best) = true then some x else best
theorem bestA_pos {p : Str} {b : Option Al} {x : Al} (h : (inB p x.1 && betA x b) = true) : bestA p b x = some x := if_pos h
theorem bestA_neg {p : Str} {b : Option Al} {x : Al} (h : ¬ (inB p x.1 && betA x b) = true) : bestA p b x = b := if_neg h
theorem bestA_cases (p : Str) (b : Option Al) (x : Al) : ((inB p x.1 && betA x b) = true ∧ bestA p b x = some x) ∨ (¬ (inB p x.1 && betA x b) = true ∧ bestA p b x = b) := by
 by_cases h : (inB p x.1 && betA x b) = true
 ·exact Or.inl ⟨h, bestA_pos h⟩
 ·exact Or.inr ⟨h, bestA_neg h⟩
def findA (D : List Al) (p : Str) : Option Al := D.foldl (bestA p) none
theorem best_some {p : Str} : ∀ {D : List Al} {b : Option Al} {x : Al}, D.foldl (bestA p) b = some x → b = some x ∨ (x ∈ D ∧ inB p x.1 = true)
 | [], b, x, h => Or.inl h
 | y :: D, b, x, h => by
  rw [List.foldl_cons] at h
  rcases best_some h with h | ⟨h1, h2⟩
  ·rcases bestA_cases p b y with ⟨hc, e⟩ | ⟨hc, e⟩
   ·rw [e] at h
    cases h
    simp only [Bool.and_eq_true] at hc
    exact Or.inr ⟨List.mem_cons_self .., hc.1⟩
   ·rw [e] at h; exact Or.inl h
  ·exact Or.inr ⟨List.mem_cons_of_mem _ h1, h2⟩
theorem find_some {D : List Al} {p : Str} {x : Al} (h : findA D p = some x) : x ∈ D ∧ inB p x.1 = true := by
 rcases best_some h with h | h
 ·cases h
 ·exact h
theorem find_snoc (D : List Al) (p : Str) (x : Al) : findA (D ++ [x]) p = bestA p (findA D p) x := by
 unfold findA; rw [List.foldl_append]; rfl
def leadA (D : List Al) (p : Str) : Option Str := match findA D p with
 | none => none
 | some x => (restF p x.1).bind fun r => joinF x.2 r
theorem lead_some {D : List Al} {p q : Str} (h : leadA D p = some q) : ∃ x l m n, findA D p = some x ∧ x ∈ D ∧ pathP p = some (m ++ l) ∧ pathP x.1 = some m ∧ pathP x.2 = some n ∧ pathP q = some (n ++ l) ∧ printS (n ++ l) = some q := by
 unfold leadA at h
 split at h
 ·cases h
 ·next x hx =>
  obtain ⟨r, hr, hj⟩ := Option.bind_eq_some_iff.1 h
  obtain ⟨l, m, h1, h2, rfl, h3⟩ := rest_some hr
  obtain ⟨n, l', h4, h5, h6, h7⟩ := join_some hj
  rw [h3] at h5
  cases h5
  exact ⟨x, l, m, n, hx, (find_some hx).1, h1, h2, h4, h6, h7⟩
theorem lead_path {D : List Al} {p q : Str} (h : leadA D p = some q) : pathB q = true := by
 obtain ⟨_, _, _, _, _, _, _, _, _, h, _⟩ := lead_some h
 unfold pathB; rw [h]; rfl
def folB (next one : Al) : Bool := inB one.2 next.1 || inB next.1 one.2
theorem lead_fol {D : List Al} {p q : Str} {x y : Al} (hx : findA D p = some x) (h : leadA D p = some q) (hy : findA D q = some y) : folB y x = true := by
 obtain ⟨x', l, m, n, h1, _, _, _, h2, h3, _⟩ := lead_some h
 rw [hx] at h1
 cases h1
 have i1 : inB q x.2 = true := in_iff.2 ⟨l, n, h3, h2⟩
 have i2 := (find_some hy).2
 unfold folB
 rw [Bool.or_eq_true]
 exact in_two i1 i2
def reachA (D : List Al) : Nat → Al → Al → Prop
 | 0, a, b => a ∈ D ∧ b ∈ D ∧ folB b a = true
 | n + 1, a, b => ∃ c, reachA D n a c ∧ b ∈ D ∧ folB b c = true
def ringA (D : List Al) (a : Al) : Prop := ∃ n, reachA D n a a
def WayIs (D : List Al) : Str → List Str → Prop
 | _, [] => False
 | p, [x] => x = p ∧ leadA D p = none
 | p, x :: y :: l => x = p ∧ leadA D p = some y ∧ WayIs D y (y :: l)
theorem way_head {D : List Al} : ∀ {l : List Str} {p : Str}, WayIs D p l → ∃ r, l = p :: r
 | [], _, h => h.elim
 | [x], p, h => ⟨[], by rw [h.1]⟩
 | x :: y :: l, p, h => ⟨y :: l, by rw [h.1]⟩
theorem way_one {D : List Al} : ∀ {l m : List Str} {p : Str}, WayIs D p l → WayIs D p m → l = m
 | [], _, _, h, _ => h.elim
 | _, [], _, _, h => h.elim
 | [x], [y], p, h, h2 => by rw [h.1, h2.1]
 | [x], y :: z :: m, p, h, h2 => by have e := h2.2.1; rw [h.2] at e; cases e
 | x :: z :: l, [y], p, h, h2 => by have e := h.2.1; rw [h2.2] at e; cases e
 | x :: y :: l, z :: u :: m, p, h, h2 => by
  have h3 := h.2.1
  rw [h2.2.1] at h3
  cases h3
  rw [h.1, h2.1, way_one h.2.2 h2.2.2]
theorem way_path {D : List Al} : ∀ {l : List Str} {p : Str}, pathB p = true → WayIs D p l → ∀ q ∈ l, pathB q = true
 | [], _, _, h, _, _ => h.elim
 | [x], p, hp, h, q, hq => by rw [List.mem_singleton.1 hq, h.1]; exact hp
 | x :: y :: l, p, hp, h, q, hq => by
  rcases List.mem_cons.1 hq with rfl | hq
  ·rw [h.1]; exact hp
  ·exact way_path (lead_path h.2.1) h.2.2 q hq
def iterA (D : List Al) : Nat → Str → Option Str
 | 0, p => some p
 | n + 1, p => (iterA D n p).bind (leadA D)
theorem iterA_succ (D : List Al) : ∀ (n : Nat) (p q : Str), leadA D p = some q → iterA D (n + 1) p = iterA D n q
 | 0, p, q, h => by simp [iterA, h]
 | n + 1, p, q, h => by
  rw [iterA, iterA_succ D n p q h]; rfl
theorem way_of_iter {D : List Al} : ∀ (n : Nat) (p : Str), iterA D n p = none → ∃ l, WayIs D p l ∧ l.length ≤ n
 | 0, p, h => by cases h
 | n + 1, p, h => by
  cases hl : leadA D p with
  | none => exact ⟨[p], ⟨rfl, hl⟩, by simp⟩
  | some q =>
   rw [iterA_succ D n p q hl] at h
   obtain ⟨l, h1, h2⟩ := way_of_iter n q h
   obtain ⟨r, rfl⟩ := way_head h1
   exact ⟨p :: q :: r, ⟨rfl, hl, h1⟩, by simpa using h2⟩
theorem reach_more {D : List Al} {f : Nat → Al} (hf : ∀ n, f n ∈ D) {N : Nat} (h : ∀ n, n < N → folB (f (n + 1)) (f n) = true) (i : Nat) : ∀ k, i + k < N → reachA D k (f i) (f (i + (k + 1)))
 | 0, hk => ⟨hf _, hf _, h i hk⟩
 | k + 1, hk => ⟨_, reach_more hf h i k (by omega), hf _, h _ hk⟩
theorem way_ex {D : List Al} (hn : (D.map (·.1)).Nodup) (hr : ∀ a ∈ D, ¬ ringA D a) (p : Str) : ∃ l, WayIs D p l ∧ l.length ≤ D.length + 1 := by
  refine way_of_iter (D.length + 1) p ?_
  cases hc : iterA D (D.length + 1) p with
  | none => rfl
  | some z =>
    exfalso
    have hall : ∀ k, k ≤ D.length + 1 → ∃ q, iterA D k p = some q := by
      intro k hk
      obtain ⟨d, hd⟩ : ∃ d, d = D.length + 1 - k := ⟨_, rfl⟩
      revert k
      induction d with
      | zero => intro k hk hd; have : k = D.length + 1 := by omega
                subst this; exact ⟨z, hc⟩
      | succ d ih =>
        intro k hk hd
        obtain ⟨q, hq⟩ := ih (k + 1) (by omega) (by omega)
        rw [iterA] at hq
        obtain ⟨y, hy, _⟩ := Option.bind_eq_some_iff.1 hq
        exact ⟨y, hy⟩
    have hfind : ∀ k, k ≤ D.length → ∃ q x, iterA D k p = some q ∧ findA D q = some x ∧ (∃ q', iterA D (k + 1) p = some q' ∧ leadA D q = some q') := by
      intro k hk
      obtain ⟨q, hq⟩ := hall k (by omega)
      obtain ⟨q', hq'⟩ := hall (k + 1) (by omega)
      have h1 := hq'
      rw [iterA, hq] at h1
      have h2 : leadA D q = some q' := h1
      obtain ⟨x, _, _, _, h3, _⟩ := lead_some h2
      exact ⟨q, x, hq, h3, q', hq', h2⟩
    have hDne : D ≠ [] := by
      rintro rfl
      obtain ⟨q, x, _, h3, _⟩ := hfind 0 (Nat.zero_le _)
      cases h3
    obtain ⟨a0, ha0⟩ := List.exists_mem_of_ne_nil _ hDne
    let f : Nat → Al := fun k => if h : k ≤ D.length then (hfind k h).choose_spec.choose else a0
    have hf : ∀ k (h : k ≤ D.length), ∃ q, iterA D k p = some q ∧ findA D q = some (f k) ∧ (∃ q', iterA D (k + 1) p = some q' ∧ leadA D q = some q') := by
      intro k h
      have := (hfind k h).choose_spec.choose_spec
      refine ⟨_, this.1, ?_, this.2.2⟩
      rw [this.2.1]
      show _ = some (if h : k ≤ D.length then _ else _)
      rw [dif_pos h]
    have hfD : ∀ k, f k ∈ D := by
      intro k
      by_cases h : k ≤ D.length
      · obtain ⟨q, _, h2, _⟩ := hf k h
        exact (find_some h2).1
      · show (if h : k ≤ D.length then _ else _) ∈ D
        rw [dif_neg h]; exact ha0
    have hfol : ∀ k, k < D.length → folB (f (k + 1)) (f k) = true := by
      intro k hk
      obtain ⟨q, h1, h2, q', h3, h4⟩ := hf k (by omega)
      obtain ⟨r, h5, h6, _⟩ := hf (k + 1) (by omega)
      rw [h3] at h5
      cases h5
      exact lead_fol h2 h4 h6
    have htw : ∃ i j, i < j ∧ j ≤ D.length ∧ f i = f j := by
      apply Classical.byContradiction
      intro hno
      have hnd : ((List.range (D.length + 1)).map fun k => (f k).1).Nodup := by
        rw [List.Nodup, List.pairwise_map]
        refine List.Pairwise.imp_of_mem ?_ (List.pairwise_lt_range (n := D.length + 1))
        intro a b ha hb hlt e
        refine hno ⟨a, b, hlt, ?_, ?_⟩
        · have := List.mem_range.1 hb; omega
        · exact key_one hn (hfD a) (hfD b) e
      have := nodup_le _ (D.map (·.1)) hnd (fun x hx => by
        obtain ⟨k, _, rfl⟩ := List.mem_map.1 hx
        exact List.mem_map.2 ⟨_, hfD k, rfl⟩)
      rw [List.length_map, List.length_map, List.length_range] at this
      omega
    obtain ⟨i, j, hij, hj, he⟩ := htw
    refine hr (f i) (hfD i) ⟨j - i - 1, ?_⟩
    have := reach_more hfD hfol i (j - i - 1) (by omega)
    rw [show i + (j - i - 1 + 1) = j by omega, ← he] at this
    exact this
where
 key_one {D : List Al} (hn : (D.map (·.1)).Nodup) {a b : Al} (ha : a ∈ D) (hb : b ∈ D) (e : a.1 = b.1) : a = b := by
  obtain ⟨i, hi, rfl⟩ := List.getElem_of_mem ha
  obtain ⟨j, hj, rfl⟩ := List.getElem_of_mem hb
  have h1 : (D.map (·.1))[i]'(by simpa using hi) = (D.map (·.1))[j]'(by simpa using hj) := by simpa using e
  have : i = j := (List.getElem_inj hn).1 h1
  subst this; rfl
def okAl (p : Al) : Prop := pathB p.1 = true ∧ pathB p.2 = true ∧ p.1 ≠ [] ∧ p.2 ≠ []
instance (p : Al) : Decidable (okAl p) := by unfold okAl; infer_instance
def badA (done : List Al) : List Al → Option (Nat × Nat)
 | [] => none
 | p :: r => if okAl p then (if p.1 ∈ done.map (·.1) then some (211, done.length) else badA (done ++ [p]) r) else some (2, done.length)
theorem badA_none {done r : List Al} (h : badA done r = none) (hd : (∀ p ∈ done, okAl p) ∧ (done.map (·.1)).Nodup) : (∀ p ∈ done ++ r, okAl p) ∧ ((done ++ r).map (·.1)).Nodup := by
 induction r generalizing done with
 | nil => rw [List.append_nil]; exact hd
 | cons p r ih =>
  unfold badA at h
  split at h
  ·next hp =>
   split at h
   ·cases h
   ·next hm =>
    have := ih h ⟨fun q hq => by
     rcases List.mem_append.1 hq with hq | hq
     ·exact hd.1 q hq
     ·rw [List.mem_singleton.1 hq]; exact hp, by
     rw [List.map_append, List.nodup_append]
     refine ⟨hd.2, by simp, fun a ha b hb e => ?_⟩
     simp only [List.map_cons, List.map_nil, List.mem_singleton] at hb
     subst hb; subst e; exact hm ha⟩
    rw [List.append_assoc] at this
    exact this
  ·cases h
theorem badA_of : ∀ {r done : List Al}, (∀ p ∈ r, okAl p) → ((done ++ r).map (·.1)).Nodup → badA done r = none
 | [], _, _, _ => rfl
 | p :: r, done, h, hn => by
  unfold badA
  rw [if_pos (h p (List.mem_cons_self ..)), if_neg, badA_of (fun q hq => h q (List.mem_cons_of_mem _ hq)) (by rw [List.append_assoc]; exact hn)]
  intro hm
  rw [List.map_append, List.nodup_append] at hn
  exact hn.2.2 _ hm _ (List.mem_cons_self ..) rfl
def AlOut (l : List Al) (e i : Nat) : Prop :=
 (badA [] l = some (e, i)) ∨ (badA [] l = none ∧ e = 210 ∧ (∃ p, l[i]? = some p ∧ ringA l p) ∧ ∀ j p, j < i → l[j]? = some p → ¬ ringA l p) ∨ (badA [] l = none ∧ e = 0 ∧ i = 0 ∧ ∀ p ∈ l, ¬ ringA l p)
end Go.Proofs.YtbbmdbolkicpcaaGreatDoor
namespace Go.Proofs.YtbbmdbolkicpcaaGreatDoor
open Go.RowKit Go.Lib
theorem text_len {s : Str} {l : List Stp} (h : pathP s = some l) {x : Stp} (hx : x ∈ l) : (textP x).length ≤ 513 := by
 obtain ⟨k, hk, rfl⟩ := List.getElem_of_mem hx
 exact Nat.le_trans (text_le hk) (szS_513 (path_all h).2.2.2.1)
theorem put_gen1 (w : World) (u : Value) (zs : List (Stp × (Option Addr × Nat))) (hu : RdL encSt w u zs) (hk : ∀ z ∈ zs, RdP w (keysV z) z.1.2) (hm : ∀ z ∈ zs, mayB z.1 = true ∧ (textP z.1).length ≤ 1073741824) (hz : zs.length ≤ 1000000000) :
  Calls Tryz.prog 89 #[.slice (some ⟨w.heap.size, 0, none⟩) 1 1] (w.alloc (.cells #[u] 99)) fun e w' => e = .returned (.tuple #[.string ⟨(putT (zs.map (·.1))).toArray⟩, .int .i64 (putE (zs.map (·.1)))]) ∧ Below w.heap.size w w' := by
 have hB : Below w.heap.size w (w.alloc (.cells #[u] 99)) := (Below.refl _ _).alloc (Nat.le_refl _) _
 have hf : ([zs] : List (List (Stp × (Option Addr × Nat)))).flatten = zs := by simp
 refine (pput_gen (w.alloc (.cells #[u] 99)) (.slice (some ⟨w.heap.size, 0, none⟩) 1 1) [zs] ⟨_, _, rfl, fun n hn => ?_⟩ (by rw [hf]; exact fun z hz => (hk z hz).below hB) (by simp) (by rw [hf]; exact hm) (by rw [hf]; exact hz)).mono ?_
 ·have h0 : n = 0 := by simp at hn; omega
  subst h0
  refine ⟨_, _, u, rfl, lt_of_block (heap_alloc_new w _), ?_, hu.below hB⟩
  rw [cell_of_row _ _ _ _ _ _ (heap_alloc_new w _)]
  rfl
 ·rintro e w' ⟨rfl, hb⟩
  rw [hf]
  exact ⟨rfl, hB.then hb⟩
theorem put_gen2 (w : World) (u v : Value) (zs ys : List (Stp × (Option Addr × Nat))) (hu : RdL encSt w u zs) (hv : RdL encSt w v ys) (hk : ∀ z ∈ zs ++ ys, RdP w (keysV z) z.1.2) (hm : ∀ z ∈ zs ++ ys, mayB z.1 = true ∧ (textP z.1).length ≤ 1073741824) (hz : (zs ++ ys).length ≤ 1000000000) :
  Calls Tryz.prog 89 #[.slice (some ⟨w.heap.size, 0, none⟩) 2 2] (w.alloc (.cells #[u, v] 99)) fun e w' => e = .returned (.tuple #[.string ⟨(putT ((zs ++ ys).map (·.1))).toArray⟩, .int .i64 (putE ((zs ++ ys).map (·.1)))]) ∧ Below w.heap.size w w' := by
 have hB : Below w.heap.size w (w.alloc (.cells #[u, v] 99)) := (Below.refl _ _).alloc (Nat.le_refl _) _
 have hf : ([zs, ys] : List (List (Stp × (Option Addr × Nat)))).flatten = zs ++ ys := by simp
 refine (pput_gen (w.alloc (.cells #[u, v] 99)) (.slice (some ⟨w.heap.size, 0, none⟩) 2 2) [zs, ys] ⟨_, _, rfl, fun n hn => ?_⟩ (by rw [hf]; exact fun z hz => (hk z hz).below hB) (by simp) (by rw [hf]; exact hm) (by rw [hf]; exact hz)).mono ?_
 ·have h0 : n = 0 ∨ n = 1 := by simp at hn; omega
  rcases h0 with rfl | rfl
  ·refine ⟨_, _, u, rfl, lt_of_block (heap_alloc_new w _), ?_, hu.below hB⟩
   rw [cell_of_row _ _ _ _ _ _ (heap_alloc_new w _)]
   rfl
  ·refine ⟨_, _, v, rfl, lt_of_block (heap_alloc_new w _), ?_, hv.below hB⟩
   rw [cell_of_row _ _ _ _ _ _ (heap_alloc_new w _)]
   rfl
 ·rintro e w' ⟨rfl, hb⟩
  rw [hf]
  exact ⟨rfl, hB.then hb⟩
theorem put_none {m : List Stp} (h : printS m = none) : putT m = [] ∧ putE m = 3 := ⟨by rw [putT, h]; rfl, by rw [putE, h]; rfl⟩
theorem put_some {m : List Stp} {t : Str} (h : printS m = some t) : putT m = t ∧ putE m = 0 := ⟨by rw [putT, h]; rfl, by rw [putE, h]; rfl⟩
set_option maxRecDepth 100000 in
set_option maxHeartbeats 4000000 in
theorem pjoin_any (w : World) (a b : Str) (ha : a.length ≤ maxLen) (hb : b.length ≤ maxLen) :
  Calls Tryz.prog 77 #[.string ⟨a.toArray⟩, .string ⟨b.toArray⟩] w fun e w' => (∃ er : Nat, e = .returned (.tuple #[.string ⟨((joinF a b).getD []).toArray⟩, .int .i64 er]) ∧ (er = 0 ↔ (joinF a b).isSome = true)) ∧ Below w.heap.size w w' := by
 have HB := hid hb
 go_enter Tryz.func77, Tryz.ntmps77
 go_wp2_with fail
 refine (pparse_any a w ha).mono ?_
 rintro e w1 h1
 obtain ⟨v1, e1, t1, rfl, hb1, l, hl, hc1, a1, k1, rfl, hcap1, hs1⟩ := h1.open'
 have L1 := hid hl
 have C1 := hid hc1
 have B1 := hid hb1
 clear h1 hl hc1 hb1 hs1
 have HA2 := hid (show Below w1.heap.size w1 (w1.alloc (.cells #[.int .i64 e1, .int .i64 t1] 77)) from (Below.refl _ _).alloc (Nat.le_refl _) _)
 have F2 := hid (heap_alloc_new w1 (.cells #[.int .i64 e1, .int .i64 t1] 77))
 go_upto_region 2 with fail
 generalize w1.alloc (.cells #[.int .i64 e1, .int .i64 t1] 77) = w2 at *
 have L2 := hid (L1.out.below HA2.out)
 have B2 := hid (B1.out.then HA2.out)
 clear L1 B1 HA2
 generalize w1.heap.size = Xb at *
 obtain ⟨x0, x1, _, _, xl⟩ := box2_cells F2.out
 rcases C1.out with ⟨rfl, hp1⟩ | ⟨hz1, hp1⟩
 ·go_wp2_with fail
  refine (pparse_any b w2 HB.out).mono ?_
  rintro e w3 h3
  obtain ⟨v3, e3, t3, rfl, hb3, m, hm, hc3, a3, k3, rfl, hcap3, _⟩ := h3.open'
  have L3 := hid (L2.out.below hb3)
  have M3 := hid hm
  have C3 := hid hc3
  have B3 := hid (B2.out.then hb3)
  clear h3 hm hc3 hb3 L2 B2 F2 x0 x1 xl
  have HA4 := hid (show Below w3.heap.size w3 (w3.alloc (.cells #[.int .i64 e3, .int .i64 t3] 77)) from (Below.refl _ _).alloc (Nat.le_refl _) _)
  have F4 := hid (heap_alloc_new w3 (.cells #[.int .i64 e3, .int .i64 t3] 77))
  go_upto_region 5 with fail
  generalize w3.alloc (.cells #[.int .i64 e3, .int .i64 t3] 77) = w4 at *
  have L4 := hid (L3.out.below HA4.out)
  have M4 := hid (M3.out.below HA4.out)
  have B4 := hid (B3.out.then HA4.out)
  clear L3 M3 B3 HA4
  generalize w3.heap.size = Yb at *
  obtain ⟨y0, y1, _, _, yl⟩ := box2_cells F4.out
  rcases C3.out with ⟨rfl, hp3⟩ | ⟨hz3, hp3⟩
  ·obtain ⟨zs, hz1, hz2, hz3⟩ := L4.out
   obtain ⟨ys, hy1, hy2, hy3⟩ := M4.out
   have RZ := hid hz2
   have RY := hid hy2
   have RK := hid (show ∀ z ∈ zs ++ ys, RdP w4 (keysV z) z.1.2 from fun z hz => by
    rcases List.mem_append.1 hz with hz | hz
    ·exact hz3 z hz
    ·exact hy3 z hz)
   have RM := hid (show ∀ z ∈ zs ++ ys, mayB z.1 = true ∧ (textP z.1).length ≤ 1073741824 from fun z hz => by
    rcases List.mem_append.1 hz with hz | hz
    ·have hm : z.1 ∈ l := hz1 ▸ List.mem_map_of_mem hz
     exact ⟨List.all_eq_true.1 (path_all hp1).1 _ hm, by have := text_len hp1 hm; omega⟩
    ·have hm : z.1 ∈ m := hy1 ▸ List.mem_map_of_mem hz
     exact ⟨List.all_eq_true.1 (path_all hp3).1 _ hm, by have := text_len hp3 hm; omega⟩)
   have RL := hid (show (zs ++ ys).length ≤ 1000000000 from by
    have h1 := congrArg List.length hz1
    have h2 := congrArg List.length hy1
    rw [List.length_map] at h1 h2
    have h3 := (path_all hp1).2.2.1
    have h4 := (path_all hp3).2.2.1
    rw [List.length_append]; omega)
   have HM := hid (show (zs ++ ys).map (·.1) = l ++ m by rw [List.map_append, hz1, hy1])
   have HJ := hid (join_of hp1 hp3)
   clear hz1 hz2 hz3 hy1 hy2 hy3 hp1 hp3 C1 C3 L4 M4
   go_wp2_with (go_at_call 89; refine (put_gen2 _ _ _ zs ys RZ.out RY.out RK.out RM.out RL.out).mono ?_; rintro e w6 ⟨rfl, hb6⟩; have B6 := hid (B4.out.then hb6); clear hb6)
   refine bodyPost_ret (v := .tuple #[.string ⟨(putT ((zs ++ ys).map (·.1))).toArray⟩, .int .i64 (putE ((zs ++ ys).map (·.1)))]) (by simp [results, Tryz.results77, go_sem]) rfl ⟨?_, B6.out⟩
   rw [HM.out, HJ.out]
   cases h : printS (l ++ m) with
   | none => rw [(put_none h).1, (put_none h).2]; exact ⟨3, rfl, by simp⟩
   | some t => rw [(put_some h).1, (put_some h).2]; exact ⟨0, rfl, by simp⟩
  ·have hne : (e3 : Int) ≠ 0 := by omega
   have HR := hid (show joinF a b = none by unfold joinF; rw [hp1, hp3])
   have HZ := hid hz3
   clear hp1 hp3 C1 C3
   go_wp2_with fail
   go_quiet (fail)
   have BQ := hid (below_drewN B4.out nq)
   try go_wp2_with fail
   refine bodyPost_ret (v := .tuple #[.string ⟨#[]⟩, .int .i64 e3]) (by simp [results, Tryz.results77, go_sem]) rfl ?_
   exact ⟨⟨e3, by rw [HR.out]; rfl, by rw [HR.out]; simpa using HZ.out⟩, BQ.out⟩
 ·have hne : (e1 : Int) ≠ 0 := by omega
  have HR := hid (show joinF a b = none by unfold joinF; rw [hp1])
  have HZ := hid hz1
  clear hp1 C1
  go_wp2_with fail
  go_quiet (fail)
  have BQ := hid (below_drewN B2.out nq)
  try go_wp2_with fail
  refine bodyPost_ret (v := .tuple #[.string ⟨#[]⟩, .int .i64 e1]) (by simp [results, Tryz.results77, go_sem]) rfl ?_
  exact ⟨⟨e1, by rw [HR.out]; rfl, by rw [HR.out]; simpa using HZ.out⟩, BQ.out⟩
end Go.Proofs.YtbbmdbolkicpcaaGreatDoor
namespace Go.Proofs.YtbbmdbolkicpcaaGreatDoor
open Go.RowKit Go.Lib
theorem RdSt.at' {w : World} {a : Option Addr} {n c : Nat} {l : List Stp} (h : RdSt w (.slice a n c) l) (k : Nat) (hk : k < l.length) : ∃ p o kv, a = some ⟨p, o, none⟩ ∧ p < w.heap.size ∧ w.cell? ⟨p, o + k * 2, none⟩ = some (.string ⟨((l[k]'hk).1).toArray⟩) ∧ w.cell? ⟨p, o + k * 2 + 1, none⟩ = some kv ∧ RdP w kv (l[k]'hk).2 := by
 obtain ⟨ao, cp, e, _, _, hx⟩ := h.cells
 cases e
 obtain ⟨p, o, kv, h1, h2, h3, h4, h5⟩ := hx k hk
 exact ⟨p, o, kv, h1, h2, h3, h4, h5⟩
theorem ParseOut.own' {w w' : World} {s : Str} {x : Ending} (h : ParseOut w s x w') : ∃ (v : Value) (er : Nat) (at' : Int), x = .returned (.tuple #[v, .agg #[.int .i64 er, .int .i64 at']]) ∧ Below w.heap.size w w' ∧ ∃ l : List Stp,
  OwnSt w' w.heap.size v l ∧ ((er = 0 ∧ pathP s = some l) ∨ (er ≠ 0 ∧ pathP s = none ∧ l = [])) ∧ ∃ ao cp, v = .slice ao l.length cp ∧ l.length ≤ cp ∧ ((ao = none ∧ l = [] ∧ cp = 0) ∨ ∃ g, ao = some ⟨g, 0, none⟩) := by
 obtain ⟨⟨l, v, h1, rfl, h2⟩ | ⟨h1, er, a, h2, rfl⟩, hb⟩ := h
 ·refine ⟨v, 0, 0, rfl, hb, l, h2, Or.inl ⟨rfl, h1⟩, ?_⟩
  obtain ⟨zs, rfl, h3, _⟩ := h2
  rw [List.length_map]
  rcases h3.shape with ⟨rfl, rfl⟩ | ⟨g, cap, cur, rfl, _, _, hn, _⟩
  ·exact ⟨none, 0, rfl, Nat.le_refl _, Or.inl ⟨rfl, rfl, rfl⟩⟩
  ·exact ⟨_, cap, rfl, hn, Or.inr ⟨g, rfl⟩⟩
 ·exact ⟨_, er, a, rfl, hb, [], ⟨[], rfl, OwnL.nil _ _ _ _, fun z hz => (by cases hz), List.Pairwise.nil⟩, Or.inr ⟨h2, h1, rfl⟩, none, 0, rfl, Nat.le_refl _, Or.inl ⟨rfl, rfl, rfl⟩⟩
theorem OwnSt.below {w w' : World} {B : Nat} {v : Value} {l : List Stp} (h : OwnSt w B v l) (hb : Below w.heap.size w w') : OwnSt w' B v l := by
 obtain ⟨zs, h1, h2, h3, h4⟩ := h
 exact ⟨zs, h1, h2.below hb, fun z hz => own_below (h3 z hz) hb, h4⟩
theorem row_ne {W : World} {B k n : Nat} {e : TypeId} {v : Value} {xs : List Value} (h : W.ownsRow B e k v n xs) {b : Nat} (hb : b < B) : v.ownBlock ≠ some b := fun e => by
 have := (World.ownsRow.lt h b e).1
 omega
theorem OwnSt.set {w : World} {B b : Nat} {v : Value} {l : List Stp} (h : OwnSt w B v l) (hb : b < B) (i : Nat) (x : Value) : OwnSt (w.setCell ⟨b, i, none⟩ x) B v l := by
 obtain ⟨zs, h1, h2, h3, h4⟩ := h
 exact ⟨zs, h1, own_set h2 (row_ne h2 hb) i x, fun z hz => own_set (h3 z hz) (row_ne (h3 z hz) hb) i x, h4⟩
theorem OwnSt.at' {w : World} {B : Nat} {a : Option Addr} {n c : Nat} {l : List Stp} (h : OwnSt w B (.slice a n c) l) (k : Nat) (hk : k < l.length) : ∃ g kv, a = some ⟨g, 0, none⟩ ∧ g < w.heap.size ∧ w.cell? ⟨g, k * 2, none⟩ = some (.string ⟨((l[k]'hk).1).toArray⟩) ∧ w.cell? ⟨g, k * 2 + 1, none⟩ = some kv ∧ OwnP w B kv (l[k]'hk).2 := by
 obtain ⟨zs, rfl, h2, h3, _⟩ := h
 rw [List.length_map] at hk
 obtain ⟨g, rfl⟩ := OwnL.some' h2 (by intro e; rw [e] at hk; simp at hk)
 obtain ⟨q0, _, gl⟩ := OwnL.cell h2 k 0 (.string ⟨((zs[k]'hk).1.1).toArray⟩) hk rfl
 obtain ⟨q1, _, _⟩ := OwnL.cell h2 k 1 (keysV (zs[k]'hk)) hk rfl
 rw [Nat.add_zero] at q0
 refine ⟨g, keysV (zs[k]'hk), rfl, gl, ?_, q1, ?_⟩
 ·rw [List.getElem_map]; exact q0
 ·rw [List.getElem_map]; exact h3 _ (List.getElem_mem hk)
end Go.Proofs.YtbbmdbolkicpcaaGreatDoor
namespace Go.Proofs.YtbbmdbolkicpcaaGreatDoor
open Go.RowKit Go.Lib Go.Sort Go.Maps Go.WideMaps Go.Shelf
theorem back_any (v : Value) (w : World) (hv : ∃ a n c, v = .slice a n c) :
  Calls Tryz.prog 48 #[v] w fun e w' => e = .returned (.func (.func 90) #[] #[.pointer (some ⟨w.heap.size, 0, none⟩)]) ∧ w' = w.alloc (.cells #[v] 99) := by
 obtain ⟨a, n, c, rfl⟩ := hv
 go_enter Tryz.func48, Tryz.ntmps48
 go_wp2_with fail
 exact bodyPost_ret (v := .func (.func 90) #[] #[.pointer (some ⟨w.heap.size, 0, none⟩)]) (by simp [results, Tryz.results48, go_sem]) rfl ⟨rfl, rfl⟩
abbrev Zst := Stp × (Option Addr × Nat)
def stD : Zst := (([], []), (none, 0))
def stV (z : Zst) : Value := .agg #[.string ⟨z.1.1.toArray⟩, keysV z]
def backL (m : Nat) : List Nat := (List.range m).reverse
theorem backL_len (m : Nat) : (backL m).length = m := by simp [backL]
theorem backL_take {m k : Nat} (h : k < m) : (backL m).take (m - (k + 1)) ++ [k] = (backL m).take (m - k) := by
 have e : m - k = (m - (k + 1)) + 1 := by omega
 have hl : m - (k + 1) < (backL m).length := by rw [backL_len]; omega
 rw [e, List.take_succ_eq_append_getElem hl]
 congr 1
 simp [backL, List.getElem_reverse]
 omega
set_option maxRecDepth 100000 in
set_option maxHeartbeats 8000000 in
theorem back1_goes (n : Nat) (hn : 1 ≤ n) (b0 c : Nat) (a : Option Addr) (zs : List Zst) (w : World) (h0 : w.heap[b0]? = some (.cells #[.slice a zs.length c] 99 (0, 0))) (hl : RdL encSt w (.slice a zs.length c) zs) (hz : zs.length ≤ 1000) :
  SeqStopsK Fence.wide n Tryz.prog 90 #[.pointer (some ⟨b0, 0, none⟩)] (fun x : Nat => #[.int .i64 x, stV (zs.getD x stD)]) (KpB w.heap.size w.heap.size)
   (fun xs => xs = backL zs.length) (fun pre => pre <+: backL zs.length) zs.length w := fun l J Jx W hW hJ _ hY hJ0 => by
 have BX := hid (fun (V : World) (hk : KpB w.heap.size w.heap.size w V) => (show V.cell? ⟨b0, 0, none⟩ = some (.slice a zs.length c) ∧ b0 < V.heap.size ∧ ∀ k (hk : k < zs.length), ∃ p o, a = some ⟨p, o, none⟩ ∧ p < V.heap.size ∧ V.cell? ⟨p, o + k * 2, none⟩ = some (.string ⟨(zs[k]'hk).1.1.toArray⟩) ∧ V.cell? ⟨p, o + k * 2 + 1, none⟩ = some (keysV (zs[k]'hk)) from by
  have hlow : ∀ k, k < w.heap.size → V.heap[k]? = w.heap[k]? := fun k h => hk.low k h (Nat.ne_of_lt h)
  have e0 := (hlow b0 (lt_of_block h0)).trans h0
  refine ⟨by rw [cell_of_row _ _ _ _ _ _ e0]; rfl, lt_of_block e0, fun k hkl => ?_⟩
  obtain ⟨ao, cp, e, _, hx⟩ := hl
  cases e
  obtain ⟨p, o, rfl, hp, hc⟩ := hx (by intro e; rw [e] at hkl; simp at hkl)
  have hpb := hlow p hp
  refine ⟨p, o, rfl, Nat.lt_of_lt_of_le hp hk.size, ?_, ?_⟩
  ·have := hc k 0 _ hkl rfl
   rw [Nat.add_zero] at this
   exact (World.cell?_of_block (w := w) hpb).trans this
  ·exact (World.cell?_of_block (w := w) hpb).trans (hc k 1 _ hkl rfl)))
 have KW := hid (show KpB w.heap.size w.heap.size w W from KpB.of_below hW (Nat.le_refl _))
 clear h0 hl hW
 have HY := hid hY
 have HJ0 := hid hJ0
 have HZ := hid hz
 clear hJ hY hJ0
 obtain ⟨m, hm⟩ : ∃ m, m = zs.length := ⟨_, rfl⟩
 obtain ⟨x0, x1, _⟩ := BX.out W KW.out
 have hmi : (0 : Int) ≤ (zs.length : Int) := by omega
 refine callsIn_of_wp Tryz.func90 rfl trivial ?_ rfl
 simp only [Tryz.ntmps90, List.size_toArray, List.length_cons, List.length_nil, Nat.reduceAdd, Nat.reduceSub, Array.replicate_succ, Array.replicate_zero, List.push_toArray, List.append_toArray, List.nil_append, List.cons_append]
 gi_wp2
 clear x0 x1
 gi_loopw [3] (fun i wr => ∃ k : Nat, k ≤ zs.length ∧ i = .int .i64 ((k : Int) - 1) ∧ J ((backL zs.length).take (zs.length - k)) wr ∧ KpB w.heap.size w.heap.size w wr) (fun i _ => (intOf i + 1).toNat)
 case atStart => exact ⟨zs.length, Nat.le_refl _, rfl, by simpa using HJ0.out, KW.out⟩
 case round =>
  obtain ⟨k, hk, rfl, hJ2, hK2⟩ := hrel
  rename World => w2
  have J2 := hid hJ2
  have K2 := hid hK2
  clear hJ2 hK2 KW HJ0
  cases k with
  | zero =>
   have HJ3 := hid (show J (backL zs.length) w2 from by
    have := J2.out
    rw [Nat.sub_zero, List.take_of_length_le (by rw [backL_len]; exact Nat.le_refl _)] at this
    exact this)
   gi_wp2
   go_end0
   first | exact ⟨⟨_, rfl⟩, .inl ⟨_, rfl, HJ3.out⟩⟩ | exact ⟨⟨_, rfl⟩, .inl HJ3.out⟩
  | succ k =>
   have hkl : k < zs.length := hk
   have hk1 : (((k + 1 : Nat) : Int) - 1) = (k : Int) := by omega
   rw [hk1]
   have hk0 : (0 : Int) ≤ (k : Int) := by omega
   have hki : (k : Int) < (zs.length : Int) := by omega
   have hkb : (k : Int) ≤ 1000 := by have := HZ.out; omega
   obtain ⟨x0, x1, hx⟩ := BX.out w2 K2.out
   obtain ⟨p, o, rfl, hp, c0, c1⟩ := hx k hkl
   have HTK := hid (backL_take hkl)
   have HGD := hid (show zs.getD k stD = zs[k]'hkl by rw [List.getD_eq_getElem?_getD, List.getElem?_eq_getElem hkl]; rfl)
   have hyy := HY.out _ k w2 J2.out (by rw [List.length_take, backL_len]; omega)
   simp only [HGD.out] at hyy
   generalize zs[k]'hkl = z at *
   clear hx
   unfold keysV at c1
   unfold stV keysV at hyy
   obtain ⟨fn, tmps, assign, body, hy, hR⟩ := hyy
   gi_wp2
   refine hR.mono ?_
   rintro e w5 (⟨rfl, hJ5, hk5⟩ | ⟨rfl, hJx5⟩)
   ·have K5 := hid (K2.out.trans hk5)
    gi_wp2
    go_roundw
    case rel => exact ⟨k, by omega, rfl, by rw [← HTK.out]; exact hJ5, K5.out⟩
    case measure => simp [intOf]
   ·gi_wp2
    refine bodyPost_ret (results_none rfl _ _ _) rfl ?_
    exact ⟨⟨_, rfl⟩, .inr ⟨_, by rw [HTK.out]; exact List.take_prefix _ _, hJx5⟩⟩
end Go.Proofs.YtbbmdbolkicpcaaGreatDoor
namespace Go.Proofs.YtbbmdbolkicpcaaGreatDoor
open Go.RowKit Go.Lib Go.Sort
set_option maxHeartbeats 1000000 in
theorem key_closureAT (bk : Nat) (key : Str) (x : Str × Str) (W : World) (hk : W.cell? ⟨bk, 0, none⟩ = some (S key)) (hb : bk < W.heap.size) :
  Calls Tryz.prog 64 #[.agg #[S x.1, S x.2], .pointer (some ⟨bk, 0, none⟩)] W fun e w' => e = .returned (.bool (x.1 == key)) ∧ Below W.heap.size W w' := by
 unfold S at hk ⊢
 go_enter Tryz.func64, Tryz.ntmps64
 go_wp2
 all_goals go_ret
 all_goals refine ⟨ret_bool ?_, ?_⟩
 all_goals first | exact (Below.refl _ _).alloc (Nat.le_refl _) _ | simp [Lib.toList_data]
theorem key_predAT (w : World) (bk : Nat) (key : Str) (hk : w.heap[bk]? = some (.cells #[S key] 9 (0, 0))) :
  PredBelow Tryz.prog 64 #[.pointer (some ⟨bk, 0, none⟩)] (fun x => .agg (enc2 x).toArray) (fun x => x.1 == key) w := by
 intro W x hb
 have hlt := lt_of_block hk
 have h := key_closureAT bk key x W ((hb.cell (p := ⟨bk, 0, none⟩) hlt).trans (cell_of_one hk)) (Nat.lt_of_lt_of_le hlt hb.size)
 exact h.mono fun e w' hh => ⟨hh.1, hb.then hh.2⟩
set_option maxHeartbeats 1000000 in
theorem indexFunc_nilAT (lb : Array Value) (w : World) :
  Calls Tryz.prog 102 #[.slice none 0 0, .func (.func 64) #[] lb] w fun e w' => e = .returned (.int .i64 (-1)) ∧ w' = w := by
 go_enter Tryz.func102, Tryz.ntmps102
 go_wp2
 refine wp_loop_rounds 1 ?_
 rw [rounds_succ]
 go_wp2
 go_ret
 exact ⟨rfl, rfl⟩
theorem containsFunc_nilAT (lb : Array Value) (w : World) :
  Calls Tryz.prog 63 #[.slice none 0 0, .func (.func 64) #[] lb] w fun e w' => e = .returned (.bool false) ∧ w' = w := by
 go_enter Tryz.func63, Tryz.ntmps63
 go_wp2_with (go_at_call 102; refine (indexFunc_nilAT _ _).mono ?_; rintro e w' ⟨rfl, rfl⟩)
 go_ret
 exact ⟨rfl, rfl⟩
set_option maxHeartbeats 1000000 in
theorem key_closureAN (bk : Nat) (key : Str) (x : Str × Str) (W : World) (hk : W.cell? ⟨bk, 0, none⟩ = some (S key)) (hb : bk < W.heap.size) :
  Calls Tryz.prog 69 #[.agg #[S x.1, S x.2], .pointer (some ⟨bk, 0, none⟩)] W fun e w' => e = .returned (.bool (x.1 == key)) ∧ Below W.heap.size W w' := by
 unfold S at hk ⊢
 go_enter Tryz.func69, Tryz.ntmps69
 go_wp2
 all_goals go_ret
 all_goals refine ⟨ret_bool ?_, ?_⟩
 all_goals first | exact (Below.refl _ _).alloc (Nat.le_refl _) _ | simp [Lib.toList_data]
theorem key_predAN (w : World) (bk : Nat) (key : Str) (kv : Value) (hk : w.heap[bk]? = some (.cells #[S key, kv] 76 (0, 0))) :
  PredBelow Tryz.prog 69 #[.pointer (some ⟨bk, 0, none⟩)] (fun x => .agg (enc2 x).toArray) (fun x => x.1 == key) w := by
 intro W x hb
 have hlt := lt_of_block hk
 have h := key_closureAN bk key x W ((hb.cell (p := ⟨bk, 0, none⟩) hlt).trans (by rw [cell_of_row _ _ _ _ _ _ hk]; rfl)) (Nat.lt_of_lt_of_le hlt hb.size)
 exact h.mono fun e w' hh => ⟨hh.1, hb.then hh.2⟩
set_option maxHeartbeats 1000000 in
theorem indexFunc_nilAN (lb : Array Value) (w : World) :
  Calls Tryz.prog 102 #[.slice none 0 0, .func (.func 69) #[] lb] w fun e w' => e = .returned (.int .i64 (-1)) ∧ w' = w := by
 go_enter Tryz.func102, Tryz.ntmps102
 go_wp2
 refine wp_loop_rounds 1 ?_
 rw [rounds_succ]
 go_wp2
 go_ret
 exact ⟨rfl, rfl⟩
theorem containsFunc_nilAN (lb : Array Value) (w : World) :
  Calls Tryz.prog 63 #[.slice none 0 0, .func (.func 69) #[] lb] w fun e w' => e = .returned (.bool false) ∧ w' = w := by
 go_enter Tryz.func63, Tryz.ntmps63
 go_wp2_with (go_at_call 102; refine (indexFunc_nilAN _ _).mono ?_; rintro e w' ⟨rfl, rfl⟩)
 go_ret
 exact ⟨rfl, rfl⟩
theorem rd_cells2 {w : World} {a : Option Addr} {n c : Nat} {l : List (Str × Str)} (h : RdP w (.slice a n c) l) {p o : Nat} (ha : a = some ⟨p, o, none⟩) :
  ∀ j, j < l.length → ∀ i v, (enc2 l[j]!)[i]? = some v → w.cell? ⟨p, o + j * 2 + i, none⟩ = some v := by
 intro j hj i v hv
 obtain ⟨ao, cp, e, _, hc⟩ := h
 cases e
 obtain ⟨b, off, hb, hlt, hx⟩ := hc (by intro e; rw [e] at hj; simp at hj)
 rw [ha] at hb
 cases hb
 refine hx j i v hj ?_
 rwa [getElem!_pos l j hj] at hv
theorem hasKeyAT (w : World) (v : Value) (l : List (Str × Str)) (bk : Nat) (key : Str) (h : RdP w v l) (hl : l.length ≤ 1000000) (hp : ∀ a n c, v = .slice (some a) n c → ∃ p o, a = ⟨p, o, none⟩ ∧ p < w.heap.size) (hk : w.heap[bk]? = some (.cells #[S key] 9 (0, 0))) :
  Calls Tryz.prog 63 #[v, .func (.func 64) #[] #[.pointer (some ⟨bk, 0, none⟩)]] w fun e w' => e = .returned (.bool (l.any fun p => p.1 == key)) ∧ Below w.heap.size w w' := by
 have eg : ∀ args w, (callFunc 64 args).run Tryz.prog w = .ok (.enter 64 args) w := enters_of Tryz.func64 (by kernel_rfl) rfl
 obtain ⟨ao, cp, rfl, hl1, _⟩ := id h
 cases ao with
 | none =>
  obtain ⟨hn, rfl⟩ := hl1.2 rfl
  subst hn
  exact (containsFunc_nilAT _ w).mono fun e w' hh => ⟨hh.1, hh.2 ▸ Below.refl _ _⟩
 | some a =>
  obtain ⟨p, o, rfl, hlt⟩ := hp a _ _ rfl
  have hc := AnyQ.slices_ContainsFunc Tryz.cfPair 2 Tryz.isAgg76 Tryz.sizeOf76 enc2 (fun _ => rfl) (fun x => x.1 == key) 64 #[.pointer (some ⟨bk, 0, none⟩)] eg p o l.length cp l w (key_predAT w bk key hk) (Nat.le_refl _) (by omega) hlt (rd_cells2 h rfl)
  change Calls Tryz.prog 63 _ _ _ at hc
  rw [List.take_length] at hc
  exact hc
theorem hasKeyAN (w : World) (v : Value) (l : List (Str × Str)) (bk : Nat) (key : Str) (h : RdP w v l) (hl : l.length ≤ 1000000) (hp : ∀ a n c, v = .slice (some a) n c → ∃ p o, a = ⟨p, o, none⟩ ∧ p < w.heap.size) (kv : Value) (hk : w.heap[bk]? = some (.cells #[S key, kv] 76 (0, 0))) :
  Calls Tryz.prog 63 #[v, .func (.func 69) #[] #[.pointer (some ⟨bk, 0, none⟩)]] w fun e w' => e = .returned (.bool (l.any fun p => p.1 == key)) ∧ Below w.heap.size w w' := by
 have eg : ∀ args w, (callFunc 69 args).run Tryz.prog w = .ok (.enter 69 args) w := enters_of Tryz.func69 (by kernel_rfl) rfl
 obtain ⟨ao, cp, rfl, hl1, _⟩ := id h
 cases ao with
 | none =>
  obtain ⟨hn, rfl⟩ := hl1.2 rfl
  subst hn
  exact (containsFunc_nilAN _ w).mono fun e w' hh => ⟨hh.1, hh.2 ▸ Below.refl _ _⟩
 | some a =>
  obtain ⟨p, o, rfl, hlt⟩ := hp a _ _ rfl
  have hc := AnyQ.slices_ContainsFunc Tryz.cfPair 2 Tryz.isAgg76 Tryz.sizeOf76 enc2 (fun _ => rfl) (fun x => x.1 == key) 69 #[.pointer (some ⟨bk, 0, none⟩)] eg p o l.length cp l w (key_predAN w bk key kv hk) (Nat.le_refl _) (by omega) hlt (rd_cells2 h rfl)
  change Calls Tryz.prog 63 _ _ _ at hc
  rw [List.take_length] at hc
  exact hc
end Go.Proofs.YtbbmdbolkicpcaaGreatDoor
