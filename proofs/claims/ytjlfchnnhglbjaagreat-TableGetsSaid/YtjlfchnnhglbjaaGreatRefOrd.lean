/- The contract of the reference's ordered. (printed by wip/gen_ord.py) -/
import Derived.Test.YtjlfchnnhglbjaaGreatRefList
import Derived.Test.YtjlfchnnhglbjaaGreatBoxes
import Derived.BigQuiet
import Derived.IntWalk
import Derived.WalkSmall
set_option linter.unusedVariables false
set_option linter.unusedSimpArgs false
namespace Go.Proofs.YtjlfchnnhglbjaaGreat
open Go.RowKit Go.Lib Go.Sort

def fixP (p : Str × Str) : Str × Str := if p.2 = tTrue then (p.1, []) else p
theorem fix_fst (p : Str × Str) : (fixP p).1 = p.1 := by unfold fixP; split <;> rfl
theorem fix_map (l : List (Str × Str)) : (l.map fixP).map (·.1) = l.map (·.1) := by
  rw [List.map_map]; exact List.map_congr_left fun p _ => fix_fst p
theorem ins_sorted {l : List (Str × Str)} {a : Nat} {p : Str × Str} (hs : l.Pairwise (fun a b => ¬ b.1 < a.1)) (h1 : ∀ q ∈ l.drop a, p.1 < q.1) (h2 : ∀ q ∈ l.take a, ¬ p.1 < q.1) : (l.take a ++ p :: l.drop a).Pairwise (fun a b => ¬ b.1 < a.1) := by
  rw [← List.take_append_drop a l, List.pairwise_append] at hs
  rw [List.pairwise_append]
  refine ⟨hs.1, List.pairwise_cons.2 ⟨fun q hq => fun h => ?_, hs.2.1⟩, fun x hx y hy => ?_⟩
  · exact absurd (List.lt_trans h (h1 q hq)) (List.lt_irrefl _)
  · rcases List.mem_cons.1 hy with rfl | hy
    · exact h2 x hx
    · exact hs.2.2 x hx y hy
theorem take_low {l : List (Str × Str)} {a : Nat} {k : Str} (hs : l.Pairwise (fun a b => ¬ b.1 < a.1)) (ha : a ≤ l.length) (h : a = 0 ∨ ∃ (hl : a - 1 < l.length), ¬ k < l[a - 1].1) : ∀ q ∈ l.take a, ¬ k < q.1 := by
  intro q hq
  rcases h with rfl | ⟨hl, h⟩
  · simp at hq
  · obtain ⟨j, hj, rfl⟩ := List.mem_iff_getElem.1 hq
    rw [List.getElem_take]
    have hj2 : j < a := by rw [List.length_take] at hj; omega
    by_cases e : j = a - 1
    · simp only [e]; exact h
    · have := List.pairwise_iff_getElem.1 hs j (a - 1) (by omega) hl (by omega)
      intro hk
      have h3 : l[j].1 ≤ l[a - 1].1 := List.not_lt.1 this
      exact absurd hk (List.not_lt.2 (List.le_trans h3 (List.not_lt.1 h)))
theorem ins_perm {l m : List (Str × Str)} {a : Nat} {p : Str × Str} (h : l.Perm m) : (l.take a ++ p :: l.drop a).Perm (m ++ [p]) := by
  refine List.perm_middle.trans ?_
  rw [List.take_append_drop]
  exact (h.cons p).trans (List.perm_append_comm (l₁ := [p]) (l₂ := m))
theorem OwnP.mono {w : World} {B C : Nat} {v : Value} {l : List (Str × Str)} (h : OwnP w B v l) (hc : C ≤ B) : OwnP w C v l := by
  unfold OwnP World.ownsRow at *
  refine ⟨h.1, ?_⟩
  rcases h.2 with h | ⟨g, cap, cur, h1, h2, h3⟩
  · exact Or.inl h
  · exact Or.inr ⟨g, cap, cur, h1, Nat.le_trans hc h2, h3⟩
theorem drop_step (l : List (Str × Str)) (a k : Nat) (h : k < l.length) (ha : a ≤ k) : (l.take (k + 1)).drop a = (l.take k).drop a ++ [l[k]] := by
  rw [List.take_add_one, List.getElem?_eq_getElem h, List.drop_append_of_le_length (by rw [List.length_take]; omega)]; rfl
theorem take_step (l : List (Str × Str)) (k : Nat) (h : k < l.length) : l.take (k + 1) = l.take k ++ [l[k]] := by
  rw [List.take_add_one, List.getElem?_eq_getElem h]; rfl

theorem gt_yes {a b : Str} (h : a < b) : (!Op.bytesLess b a && !(b == a)) = true := by
  have h1 : Op.bytesLess b a = false := by rw [Proofs.bytesLess_eq]; exact decide_eq_false (fun h2 => absurd (List.lt_trans h2 h) (List.lt_irrefl _))
  have h2 : (b == a) = false := by rw [beq_eq_false_iff_ne]; rintro rfl; exact absurd h (List.lt_irrefl _)
  rw [h1, h2]; rfl
theorem gt_no {a b : Str} (h : ¬ a < b) : (!Op.bytesLess b a && !(b == a)) = false := by
  by_cases e : b = a
  · have h2 : (b == a) = true := by rw [e]; simp
    rw [h2]; simp
  · have h1 : Op.bytesLess b a = true := by
      rw [Proofs.bytesLess_eq]
      refine decide_eq_true ?_
      by_cases h3 : b < a
      · exact h3
      · exact absurd (List.le_antisymm (List.not_lt.1 h) (List.not_lt.1 h3)) e
    rw [h1]; rfl
/-- a world with a pair's box -/
structure Boxed (w W : World) (a b : Str) : Prop where
  row : W.heap[w.heap.size]? = some (.cells #[.string ⟨a.toArray⟩, .string ⟨b.toArray⟩] 48 (0, 0))
  bel : Below w.heap.size w W
  own : ∀ (B : Nat) (v : Value) (l : List (Str × Str)), OwnP w B v l → OwnP W B v l
  size : W.heap.size = w.heap.size + 1
theorem boxed (w : World) (a b : Str) : Boxed w (w.alloc (.cells #[.string ⟨a.toArray⟩, .string ⟨b.toArray⟩] 48)) a b :=
  ⟨heap_alloc_new w _, (Below.refl _ _).alloc (Nat.le_refl _) _, fun B v l h => World.ownsRow.alloc h _, by simp⟩

set_option maxRecDepth 100000 in
set_option maxHeartbeats 16000000 in
theorem rord_any (w : World) (vv kv : Value) (t : Tg) (hS : RdS w vv t.vars) (hP : RdP w kv t.keys) (hk : t.keys.length ≤ 1000) (hn : (t.keys.map (·.1)).Nodup) :
    Calls Tryz.prog 130 #[.agg (tagCells t vv kv)] w fun e w' => ∃ kv', e = .returned (.agg (tagCells { t with keys := srtK (t.keys.map fixP) } vv kv')) ∧ OwnP w' w.heap.size kv' (srtK (t.keys.map fixP)) ∧ Below w.heap.size w w' := by
  obtain ⟨av, cv, rfl, _, _⟩ := hS
  obtain ⟨ak, ck, rfl, _, hr⟩ := hP
  have HN := hid hn
  clear hn
  obtain ⟨ks, hks⟩ : ∃ x, x = srtK (t.keys.map fixP) := ⟨_, rfl⟩
  rw [← hks]
  have HKS := hid hks
  clear hks
  simp only [tagCells, S]
  have hx0 : ((w.alloc (.cells #[.string ⟨t.lang.toArray⟩, .string ⟨t.script.toArray⟩, .string ⟨t.region.toArray⟩, .slice av t.vars.length cv, .slice ak t.keys.length ck] 108)).alloc (.cells #[.string ⟨#[]⟩, .string ⟨#[]⟩, .string ⟨#[]⟩, .slice none 0 0, .slice none 0 0] 108)).heap[w.heap.size]? = some (.cells #[.string ⟨t.lang.toArray⟩, .string ⟨t.script.toArray⟩, .string ⟨t.region.toArray⟩, .slice av t.vars.length cv, .slice ak t.keys.length ck] 108 (0, 0)) := heap_alloc2_old _ _ _
  have hz0 : ((w.alloc (.cells #[.string ⟨t.lang.toArray⟩, .string ⟨t.script.toArray⟩, .string ⟨t.region.toArray⟩, .slice av t.vars.length cv, .slice ak t.keys.length ck] 108)).alloc (.cells #[.string ⟨#[]⟩, .string ⟨#[]⟩, .string ⟨#[]⟩, .slice none 0 0, .slice none 0 0] 108)).heap[w.heap.size + 1]? = some (.cells #[.string ⟨#[]⟩, .string ⟨#[]⟩, .string ⟨#[]⟩, .slice none 0 0, .slice none 0 0] 108 (0, 0)) := heap_alloc2_new _ _ _
  have hb0 : Below w.heap.size w ((w.alloc (.cells #[.string ⟨t.lang.toArray⟩, .string ⟨t.script.toArray⟩, .string ⟨t.region.toArray⟩, .slice av t.vars.length cv, .slice ak t.keys.length ck] 108)).alloc (.cells #[.string ⟨#[]⟩, .string ⟨#[]⟩, .string ⟨#[]⟩, .slice none 0 0, .slice none 0 0] 108)) := below2 _ _ _
  have hs0 : ((w.alloc (.cells #[.string ⟨t.lang.toArray⟩, .string ⟨t.script.toArray⟩, .string ⟨t.region.toArray⟩, .slice av t.vars.length cv, .slice ak t.keys.length ck] 108)).alloc (.cells #[.string ⟨#[]⟩, .string ⟨#[]⟩, .string ⟨#[]⟩, .slice none 0 0, .slice none 0 0] 108)).heap.size = w.heap.size + 2 := by simp
  generalize hw0 : ((w.alloc (.cells #[.string ⟨t.lang.toArray⟩, .string ⟨t.script.toArray⟩, .string ⟨t.region.toArray⟩, .slice av t.vars.length cv, .slice ak t.keys.length ck] 108)).alloc (.cells #[.string ⟨#[]⟩, .string ⟨#[]⟩, .string ⟨#[]⟩, .slice none 0 0, .slice none 0 0] 108)) = w0 at hx0 hz0 hb0 hs0
  have HX0 := hid hx0
  have HZ0 := hid hz0
  have HB0 := hid hb0
  have HR := hid hr
  clear hx0 hz0 hb0 hr
  go_enter Tryz.func130, Tryz.ntmps130
  go_wp2_with fail
  clear hw0
  go_loopg [3, 4] t.keys.length (fun g vo vi W => ∃ (n : Nat) (l : List (Str × Str)), n ≤ t.keys.length ∧ t.keys.length ≤ n + g ∧ l.length = n ∧ vi = .int .i64 n ∧ OwnP W (w.heap.size + 2) vo l ∧ Below (w.heap.size + 2) w0 W ∧ w.heap.size + 2 ≤ W.heap.size ∧ l.Perm ((t.keys.take n).map fixP) ∧ l.Pairwise (fun a b => ¬ b.1 < a.1))
  case atStart => exact ⟨0, [], Nat.zero_le _, by omega, rfl, rfl, World.ownsRow_nil _ _ _ _, Below.refl _ _, by omega, by simp, by simp⟩
  case round =>
    rename World => w1
    rename Nat => g1
    obtain ⟨n, l, hn, hg, rfl, rfl, ow, hb, hws, hpm, hso⟩ := hrel
    have HG := hid hg
    have HPM := hid hpm
    have HSO := hid hso
    have HO := hid ow
    have HB := hid hb
    clear hg hpm hso
    have hxr : w1.heap[w.heap.size]? = some (.cells #[.string ⟨t.lang.toArray⟩, .string ⟨t.script.toArray⟩, .string ⟨t.region.toArray⟩, .slice av t.vars.length cv, .slice ak t.keys.length ck] 108 (0, 0)) := (hb.block _ (by omega)).trans HX0.out
    have c4 : w1.cell? ⟨w.heap.size, 4, none⟩ = some (.slice ak t.keys.length ck) := cell_of_row _ _ _ _ _ _ hxr
    have HXR := hid hxr
    clear hxr hb
    by_cases hlt : l.length < t.keys.length
    · have hne : t.keys ≠ [] := by intro e; rw [e] at hlt; simp at hlt
      obtain ⟨b, off, rfl, hbl, hcell⟩ := HR.out hne
      obtain ⟨ky, vy, hp⟩ : ∃ a b, t.keys[l.length] = (a, b) := ⟨_, _, rfl⟩
      have hbw : ∀ j, w1.cell? ⟨b, j, none⟩ = w.cell? ⟨b, j, none⟩ := fun j => (HB.out.cell (p := ⟨b, j, none⟩) (by show b < _; omega)).trans (HB0.out.cell (p := ⟨b, j, none⟩) hbl)
      have e0 : w1.cell? ⟨b, off + l.length * 2, none⟩ = some (.string ⟨ky.toArray⟩) := (hbw _).trans (hcell l.length 0 _ hlt (by rw [hp]; rfl))
      have e1 : w1.cell? ⟨b, off + l.length * 2 + 1, none⟩ = some (.string ⟨vy.toArray⟩) := (hbw _).trans (hcell l.length 1 _ hlt (by rw [hp]; rfl))
      have hstep : (t.keys.take (l.length + 1)).map fixP = (t.keys.take l.length).map fixP ++ [fixP (ky, vy)] := by rw [take_step _ _ hlt, List.map_append, hp]; rfl
      have HST := hid hstep
      clear hstep hp hbw hcell hne ow
      obtain ⟨ao, co, rfl, hzo, _⟩ := OwnP.rd HO.out
      by_cases hv : vy = tTrue
      · have hvb : (vy == [116, 114, 117, 101]) = true := by rw [hv]; rfl
        have HFX := hid (show fixP (ky, vy) = (ky, []) from if_pos hv)
        have bx := boxed w1 ky []
        change Boxed w1 (w1.alloc (.cells #[.string ⟨ky.toArray⟩, .string ⟨#[]⟩] 48)) ky [] at bx
        clear hv
        go_wp2_with fail
        generalize w1.alloc (.cells #[.string ⟨ky.toArray⟩, .string ⟨#[]⟩] 48) = W2 at *
        have HBX := hid bx
        have hs2 : w1.heap.size < W2.heap.size := by have := bx.size; omega
        have p0 : W2.cell? ⟨w1.heap.size, 0, none⟩ = some (.string ⟨ky.toArray⟩) := cell_of_row _ _ _ _ _ _ bx.row
        have p1 : W2.cell? ⟨w1.heap.size, 1, none⟩ = some (.string ⟨([] : Str).toArray⟩) := cell_of_row _ _ _ _ _ _ bx.row
        have hin := OwnP.rd (bx.own _ _ _ HO.out)
        obtain ⟨ao', co', hev, _, hro⟩ := hin
        injection hev with e1 _ e2
        subst e1 e2
        have HRO := hid hro
        have HIN := hid (bx.own _ _ _ HO.out)
        have hb2 := HB.out.trans (bx.bel.mono hws)
        have HB2 := hid hb2
        clear bx hro hb2 e0 e1
        go_loopg [6] l.length (fun g va W => ∃ a : Nat, a ≤ l.length ∧ a ≤ g ∧ va = .int .i64 a ∧ (∀ q ∈ l.drop a, ky < q.1) ∧ ∃ m : Nat, W = W2.drewN m)
        case atStart => exact ⟨l.length, Nat.le_refl _, Nat.le_refl _, rfl, by simp, 0, rfl⟩
        case round =>
          obtain ⟨a, ha, hga, rfl, hgt, nq0, rfl⟩ := hrel
          have HGA := hid hga
          have HGT := hid hgt
          clear hga hgt
          by_cases h0 : a = 0
          · subst h0
            have HLOW := hid (take_low (k := ky) HSO.out ha (Or.inl rfl))
            go_wp2_with fail
            go_quiet (fail)
            go_wp2_with fail
            go_loopg [7, 8] 0 (fun g vn vk W => ∃ k : Nat, k ≤ 0 ∧ 0 ≤ k + g ∧ vk = .int .i64 k ∧ OwnP W W2.heap.size vn (l.take k) ∧ Below W2.heap.size W2 W)
            case atStart => exact ⟨0, Nat.zero_le _, by omega, rfl, by rw [List.take_zero]; exact World.ownsRow_nil _ _ _ _, below_drewN (below_drewN (Below.refl _ _) _) _⟩
            case round =>
              rename World => w3
              rename Nat => g3
              obtain ⟨k, hka, hgk, rfl, own, hbn⟩ := hrel
              have HGK := hid hgk
              have HOW := hid own
              have HBN := hid hbn
              have hwn := hbn.size
              clear hgk own hbn
              by_cases hkl : k < 0
              · exfalso; omega
              · obtain rfl : k = 0 := by omega
                have q0 := (HBN.out.cell (p := ⟨w1.heap.size, 0, none⟩) (by show w1.heap.size < _; omega)).trans p0
                have q1 := (HBN.out.cell (p := ⟨w1.heap.size, 1, none⟩) (by show w1.heap.size < _; omega)).trans p1
                go_wp2_with (at_builtin; refine wpList_pushP rfl (.tmp 55) (.tmp 57) rfl W2.heap.size _ _ (ky, []) rfl HOW.out rfl ?db1 ?db2 ?_)
                case db1 => rw [List.length_take]; omega
                case db2 => exact hwn
                intro v5 w5 own5 gr5 mv5
                have hb5 := HBN.out.grown gr5 hwn (fun k hk => (World.ownsRow.lt HOW.out k hk).1)
                have O5 := hid own5
                have HB5 := hid hb5
                clear own5 gr5 mv5 hb5 q0 q1 HOW HBN HGK hwn
                go_wp2_with fail
                go_loopg [7, 9] l.length (fun g vn vk W => ∃ j : Nat, 0 ≤ j ∧ j ≤ l.length ∧ l.length ≤ j + g ∧ vk = .int .i64 j ∧ OwnP W W2.heap.size vn (l.take 0 ++ (ky, []) :: (l.take j).drop 0) ∧ Below W2.heap.size W2 W)
                case atStart => exact ⟨0, Nat.le_refl _, ha, by omega, rfl, by rw [List.drop_of_length_le (by rw [List.length_take]; omega)]; first | exact O5.out | simpa using O5.out, HB5.out⟩
                case round =>
                  rename World => w6
                  rename Nat => g6
                  obtain ⟨j, hkj, hjl, hgj, rfl, own, hbn⟩ := hrel
                  have HGJ := hid hgj
                  have HOW := hid own
                  have HBN := hid hbn
                  have hwn := hbn.size
                  clear hgj own hbn O5 HB5
                  by_cases hjl2 : j < l.length
                  · have hne2 : l ≠ [] := by intro e; rw [e] at hjl2; simp at hjl2
                    obtain ⟨b2, off2, e2, hbl2, hc2⟩ := HRO.out hne2
                    obtain ⟨qk, qv, hq⟩ : ∃ x y, l[j] = (x, y) := ⟨_, _, rfl⟩
                    have d0 : w6.cell? ⟨b2, off2 + j * 2, none⟩ = some (.string ⟨qk.toArray⟩) := (HBN.out.cell (p := ⟨b2, off2 + j * 2, none⟩) hbl2).trans (hc2 j 0 _ (by omega) (by rw [hq]; rfl))
                    have d1 : w6.cell? ⟨b2, off2 + j * 2 + 1, none⟩ = some (.string ⟨qv.toArray⟩) := (HBN.out.cell (p := ⟨b2, off2 + j * 2 + 1, none⟩) hbl2).trans (hc2 j 1 _ (by omega) (by rw [hq]; rfl))
                    cases e2
                    have HTS := hid (drop_step l 0 j hjl2 hkj)
                    have HQ := hid hq
                    clear hc2 hq hne2
                    go_wp2_with (at_builtin; refine wpList_pushP rfl (.tmp 66) (.tmp 71) rfl W2.heap.size _ _ (qk, qv) rfl HOW.out rfl ?dc1 ?dc2 ?_)
                    case dc1 => simp; omega
                    case dc2 => exact hwn
                    intro v7 w7 own7 gr7 mv7
                    have hb7 := HBN.out.grown gr7 hwn (fun k hk => (World.ownsRow.lt HOW.out k hk).1)
                    have O7 := hid own7
                    have HB7 := hid hb7
                    clear own7 gr7 mv7 hb7 d0 d1
                    go_wp2_with fail
                    go_roundg (g6 - 1)
                    case measure => have := HGJ.out; omega
                    case rel => exact ⟨j + 1, by omega, by omega, by have := HGJ.out; omega, by simp, by rw [HTS.out, HQ.out]; simpa using O7.out, HB7.out⟩
                  · obtain rfl : j = l.length := by omega
                    have HFO := hid (OwnP.mono HOW.out (show w.heap.size + 2 ≤ W2.heap.size by omega))
                    have HFB := hid (HB2.out.trans (HBN.out.mono (show w.heap.size + 2 ≤ W2.heap.size by omega)))
                    have hlen := hid (show (l.take 0 ++ (ky, []) :: (l.take l.length).drop 0).length = l.length + 1 by rw [List.take_length]; simp <;> omega)
                    clear HOW HBN HGJ HRO
                    go_wp2_with fail
                    go_roundg (g1 - 1)
                    case measure => have := HG.out; omega
                    case rel => exact ⟨l.length + 1, _, by omega, by have := HG.out; omega, hlen.out, by simp, HFO.out, HFB.out, by omega, by rw [List.take_length, HST.out, HFX.out]; exact ins_perm HPM.out, by rw [List.take_length]; exact ins_sorted HSO.out HGT.out HLOW.out⟩
          · obtain ⟨m, rfl⟩ : ∃ m, a = m + 1 := ⟨a - 1, by omega⟩
            have hne2 : l ≠ [] := by intro e; rw [e] at ha; simp at ha
            obtain ⟨b3, off3, e3, hbl3, hc3⟩ := HRO.out hne2
            cases e3
            obtain ⟨qk, qv, hq⟩ : ∃ x y, l[m]'(by omega) = (x, y) := ⟨_, _, rfl⟩
            have hw1 : IntKind.i64.wrap ((m : Int) + 1 - 1) = (m : Int) := by rw [Int.add_sub_cancel]; exact IntWalk.i64_in _ (by omega)
            have hw2 : IntKind.i64.wrap (m : Int) = (m : Int) := IntWalk.i64_in _ (by omega)
            have hm0 : (0 : Int) ≤ (m : Int) := by omega
            have hmt : ((m : Int)).toNat = m := by omega
            have hml : (m : Int) < (l.length : Int) := by omega
            have hmp : (0 : Int) < (m : Int) + 1 := by omega
            have d0 : W2.cell? ⟨b3, off3 + m * 2, none⟩ = some (.string ⟨qk.toArray⟩) := hc3 m 0 _ (by omega) (by rw [hq]; rfl)
            by_cases hlt2 : ky < qk
            · have hbl4 : (!Op.bytesLess qk ky && !(qk == ky)) = true := gt_yes hlt2
              have hbl5 : Op.bytesLess qk ky = false := by rw [Proofs.bytesLess_eq]; exact decide_eq_false (fun h => absurd (List.lt_trans h hlt2) (List.lt_irrefl _))
              have hbl6 : (qk == ky) = false := by rw [beq_eq_false_iff_ne]; rintro rfl; exact absurd hlt2 (List.lt_irrefl _)
              have HGT2 := hid (show ∀ q ∈ l.drop m, ky < q.1 from fun q hqm => by
                rw [List.drop_eq_getElem_cons (by omega), hq] at hqm
                rcases List.mem_cons.1 hqm with rfl | hqm
                · exact hlt2
                · exact HGT.out q hqm)
              clear hlt2 hc3 hq hne2
              go_wp2_with fail
              go_quiet (fail)
              go_wp2_with fail
              go_roundg (gk - 1)
              case measure => have := HGA.out; omega
              case rel => exact ⟨m, by omega, by have := HGA.out; omega, by simp, HGT2.out, _, rfl⟩
            · have hbl4 : (!Op.bytesLess qk ky && !(qk == ky)) = false := gt_no hlt2
              have hlow := take_low HSO.out ha (Or.inr ⟨by omega, by simp only [Nat.add_sub_cancel]; rw [hq]; exact hlt2⟩)
              clear hlt2 hc3 hq hne2
              have HLOW := hid hlow
              go_wp2_with fail
              go_quiet (fail)
              go_wp2_with fail
              go_loopg [7, 8] (m + 1) (fun g vn vk W => ∃ k : Nat, k ≤ m + 1 ∧ m + 1 ≤ k + g ∧ vk = .int .i64 k ∧ OwnP W W2.heap.size vn (l.take k) ∧ Below W2.heap.size W2 W)
              case atStart => exact ⟨0, Nat.zero_le _, by omega, rfl, by rw [List.take_zero]; exact World.ownsRow_nil _ _ _ _, below_drewN (below_drewN (Below.refl _ _) _) _⟩
              case round =>
                rename World => w3
                rename Nat => g3
                obtain ⟨k, hka, hgk, rfl, own, hbn⟩ := hrel
                have HGK := hid hgk
                have HOW := hid own
                have HBN := hid hbn
                have hwn := hbn.size
                clear hgk own hbn
                by_cases hkl : k < m + 1
                · have hne2 : l ≠ [] := by intro e; rw [e] at ha; simp at ha <;> omega
                  obtain ⟨b2, off2, e2, hbl2, hc2⟩ := HRO.out hne2
                  obtain ⟨qk, qv, hq⟩ : ∃ x y, l[k]'(by omega) = (x, y) := ⟨_, _, rfl⟩
                  have d0 : w3.cell? ⟨b2, off2 + k * 2, none⟩ = some (.string ⟨qk.toArray⟩) := (HBN.out.cell (p := ⟨b2, off2 + k * 2, none⟩) hbl2).trans (hc2 k 0 _ (by omega) (by rw [hq]; rfl))
                  have d1 : w3.cell? ⟨b2, off2 + k * 2 + 1, none⟩ = some (.string ⟨qv.toArray⟩) := (HBN.out.cell (p := ⟨b2, off2 + k * 2 + 1, none⟩) hbl2).trans (hc2 k 1 _ (by omega) (by rw [hq]; rfl))
                  cases e2
                  have HTS := hid (take_step l k (by omega))
                  have HQ := hid hq
                  clear hc2 hq hne2
                  go_wp2_with (at_builtin; refine wpList_pushP rfl (.tmp 48) (.tmp 53) rfl W2.heap.size _ _ (qk, qv) rfl HOW.out rfl ?da1 ?da2 ?_)
                  case da1 => rw [List.length_take]; omega
                  case da2 => exact hwn
                  intro v4 w4 own4 gr4 mv4
                  have hb4 := HBN.out.grown gr4 hwn (fun k hk => (World.ownsRow.lt HOW.out k hk).1)
                  have O4 := hid own4
                  have HB4 := hid hb4
                  clear own4 gr4 mv4 hb4 d0 d1
                  go_wp2_with fail
                  go_roundg (g3 - 1)
                  case measure => have := HGK.out; omega
                  case rel => exact ⟨k + 1, by omega, by have := HGK.out; omega, by simp, by rw [HTS.out, HQ.out]; exact O4.out, HB4.out⟩
                · obtain rfl : k = m + 1 := by omega
                  have q0 := (HBN.out.cell (p := ⟨w1.heap.size, 0, none⟩) (by show w1.heap.size < _; omega)).trans p0
                  have q1 := (HBN.out.cell (p := ⟨w1.heap.size, 1, none⟩) (by show w1.heap.size < _; omega)).trans p1
                  go_wp2_with (at_builtin; refine wpList_pushP rfl (.tmp 55) (.tmp 57) rfl W2.heap.size _ _ (ky, []) rfl HOW.out rfl ?db1 ?db2 ?_)
                  case db1 => rw [List.length_take]; omega
                  case db2 => exact hwn
                  intro v5 w5 own5 gr5 mv5
                  have hb5 := HBN.out.grown gr5 hwn (fun k hk => (World.ownsRow.lt HOW.out k hk).1)
                  have O5 := hid own5
                  have HB5 := hid hb5
                  clear own5 gr5 mv5 hb5 q0 q1 HOW HBN HGK hwn
                  go_wp2_with fail
                  go_loopg [7, 9] l.length (fun g vn vk W => ∃ j : Nat, (m + 1) ≤ j ∧ j ≤ l.length ∧ l.length ≤ j + g ∧ vk = .int .i64 j ∧ OwnP W W2.heap.size vn (l.take (m + 1) ++ (ky, []) :: (l.take j).drop (m + 1)) ∧ Below W2.heap.size W2 W)
                  case atStart => exact ⟨(m + 1), Nat.le_refl _, ha, by omega, rfl, by rw [List.drop_of_length_le (by rw [List.length_take]; omega)]; first | exact O5.out | simpa using O5.out, HB5.out⟩
                  case round =>
                    rename World => w6
                    rename Nat => g6
                    obtain ⟨j, hkj, hjl, hgj, rfl, own, hbn⟩ := hrel
                    have HGJ := hid hgj
                    have HOW := hid own
                    have HBN := hid hbn
                    have hwn := hbn.size
                    clear hgj own hbn O5 HB5
                    by_cases hjl2 : j < l.length
                    · have hne2 : l ≠ [] := by intro e; rw [e] at hjl2; simp at hjl2
                      obtain ⟨b2, off2, e2, hbl2, hc2⟩ := HRO.out hne2
                      obtain ⟨qk, qv, hq⟩ : ∃ x y, l[j] = (x, y) := ⟨_, _, rfl⟩
                      have d0 : w6.cell? ⟨b2, off2 + j * 2, none⟩ = some (.string ⟨qk.toArray⟩) := (HBN.out.cell (p := ⟨b2, off2 + j * 2, none⟩) hbl2).trans (hc2 j 0 _ (by omega) (by rw [hq]; rfl))
                      have d1 : w6.cell? ⟨b2, off2 + j * 2 + 1, none⟩ = some (.string ⟨qv.toArray⟩) := (HBN.out.cell (p := ⟨b2, off2 + j * 2 + 1, none⟩) hbl2).trans (hc2 j 1 _ (by omega) (by rw [hq]; rfl))
                      cases e2
                      have HTS := hid (drop_step l (m + 1) j hjl2 hkj)
                      have HQ := hid hq
                      clear hc2 hq hne2
                      go_wp2_with (at_builtin; refine wpList_pushP rfl (.tmp 66) (.tmp 71) rfl W2.heap.size _ _ (qk, qv) rfl HOW.out rfl ?dc1 ?dc2 ?_)
                      case dc1 => simp; omega
                      case dc2 => exact hwn
                      intro v7 w7 own7 gr7 mv7
                      have hb7 := HBN.out.grown gr7 hwn (fun k hk => (World.ownsRow.lt HOW.out k hk).1)
                      have O7 := hid own7
                      have HB7 := hid hb7
                      clear own7 gr7 mv7 hb7 d0 d1
                      go_wp2_with fail
                      go_roundg (g6 - 1)
                      case measure => have := HGJ.out; omega
                      case rel => exact ⟨j + 1, by omega, by omega, by have := HGJ.out; omega, by simp, by rw [HTS.out, HQ.out]; simpa using O7.out, HB7.out⟩
                    · obtain rfl : j = l.length := by omega
                      have HFO := hid (OwnP.mono HOW.out (show w.heap.size + 2 ≤ W2.heap.size by omega))
                      have HFB := hid (HB2.out.trans (HBN.out.mono (show w.heap.size + 2 ≤ W2.heap.size by omega)))
                      have hlen := hid (show (l.take (m + 1) ++ (ky, []) :: (l.take l.length).drop (m + 1)).length = l.length + 1 by rw [List.take_length]; simp <;> omega)
                      clear HOW HBN HGJ HRO
                      go_wp2_with fail
                      go_roundg (g1 - 1)
                      case measure => have := HG.out; omega
                      case rel => exact ⟨l.length + 1, _, by omega, by have := HG.out; omega, hlen.out, by simp, HFO.out, HFB.out, by omega, by rw [List.take_length, HST.out, HFX.out]; exact ins_perm HPM.out, by rw [List.take_length]; exact ins_sorted HSO.out HGT.out HLOW.out⟩

      · have hvb : (vy == [116, 114, 117, 101]) = false := by rw [beq_eq_false_iff_ne]; exact hv
        have HFX := hid (show fixP (ky, vy) = (ky, vy) from if_neg hv)
        have bx := boxed w1 ky vy
        clear hv
        go_wp2_with fail
        generalize w1.alloc (.cells #[.string ⟨ky.toArray⟩, .string ⟨vy.toArray⟩] 48) = W2 at *
        have HBX := hid bx
        have hs2 : w1.heap.size < W2.heap.size := by have := bx.size; omega
        have p0 : W2.cell? ⟨w1.heap.size, 0, none⟩ = some (.string ⟨ky.toArray⟩) := cell_of_row _ _ _ _ _ _ bx.row
        have p1 : W2.cell? ⟨w1.heap.size, 1, none⟩ = some (.string ⟨vy.toArray⟩) := cell_of_row _ _ _ _ _ _ bx.row
        have hin := OwnP.rd (bx.own _ _ _ HO.out)
        obtain ⟨ao', co', hev, _, hro⟩ := hin
        injection hev with e1 _ e2
        subst e1 e2
        have HRO := hid hro
        have HIN := hid (bx.own _ _ _ HO.out)
        have hb2 := HB.out.trans (bx.bel.mono hws)
        have HB2 := hid hb2
        clear bx hro hb2 e0 e1
        go_loopg [6] l.length (fun g va W => ∃ a : Nat, a ≤ l.length ∧ a ≤ g ∧ va = .int .i64 a ∧ (∀ q ∈ l.drop a, ky < q.1) ∧ ∃ m : Nat, W = W2.drewN m)
        case atStart => exact ⟨l.length, Nat.le_refl _, Nat.le_refl _, rfl, by simp, 0, rfl⟩
        case round =>
          obtain ⟨a, ha, hga, rfl, hgt, nq0, rfl⟩ := hrel
          have HGA := hid hga
          have HGT := hid hgt
          clear hga hgt
          by_cases h0 : a = 0
          · subst h0
            have HLOW := hid (take_low (k := ky) HSO.out ha (Or.inl rfl))
            go_wp2_with fail
            go_quiet (fail)
            go_wp2_with fail
            go_loopg [7, 8] 0 (fun g vn vk W => ∃ k : Nat, k ≤ 0 ∧ 0 ≤ k + g ∧ vk = .int .i64 k ∧ OwnP W W2.heap.size vn (l.take k) ∧ Below W2.heap.size W2 W)
            case atStart => exact ⟨0, Nat.zero_le _, by omega, rfl, by rw [List.take_zero]; exact World.ownsRow_nil _ _ _ _, below_drewN (below_drewN (Below.refl _ _) _) _⟩
            case round =>
              rename World => w3
              rename Nat => g3
              obtain ⟨k, hka, hgk, rfl, own, hbn⟩ := hrel
              have HGK := hid hgk
              have HOW := hid own
              have HBN := hid hbn
              have hwn := hbn.size
              clear hgk own hbn
              by_cases hkl : k < 0
              · exfalso; omega
              · obtain rfl : k = 0 := by omega
                have q0 := (HBN.out.cell (p := ⟨w1.heap.size, 0, none⟩) (by show w1.heap.size < _; omega)).trans p0
                have q1 := (HBN.out.cell (p := ⟨w1.heap.size, 1, none⟩) (by show w1.heap.size < _; omega)).trans p1
                go_wp2_with (at_builtin; refine wpList_pushP rfl (.tmp 55) (.tmp 57) rfl W2.heap.size _ _ (ky, vy) rfl HOW.out rfl ?db1 ?db2 ?_)
                case db1 => rw [List.length_take]; omega
                case db2 => exact hwn
                intro v5 w5 own5 gr5 mv5
                have hb5 := HBN.out.grown gr5 hwn (fun k hk => (World.ownsRow.lt HOW.out k hk).1)
                have O5 := hid own5
                have HB5 := hid hb5
                clear own5 gr5 mv5 hb5 q0 q1 HOW HBN HGK hwn
                go_wp2_with fail
                go_loopg [7, 9] l.length (fun g vn vk W => ∃ j : Nat, 0 ≤ j ∧ j ≤ l.length ∧ l.length ≤ j + g ∧ vk = .int .i64 j ∧ OwnP W W2.heap.size vn (l.take 0 ++ (ky, vy) :: (l.take j).drop 0) ∧ Below W2.heap.size W2 W)
                case atStart => exact ⟨0, Nat.le_refl _, ha, by omega, rfl, by rw [List.drop_of_length_le (by rw [List.length_take]; omega)]; first | exact O5.out | simpa using O5.out, HB5.out⟩
                case round =>
                  rename World => w6
                  rename Nat => g6
                  obtain ⟨j, hkj, hjl, hgj, rfl, own, hbn⟩ := hrel
                  have HGJ := hid hgj
                  have HOW := hid own
                  have HBN := hid hbn
                  have hwn := hbn.size
                  clear hgj own hbn O5 HB5
                  by_cases hjl2 : j < l.length
                  · have hne2 : l ≠ [] := by intro e; rw [e] at hjl2; simp at hjl2
                    obtain ⟨b2, off2, e2, hbl2, hc2⟩ := HRO.out hne2
                    obtain ⟨qk, qv, hq⟩ : ∃ x y, l[j] = (x, y) := ⟨_, _, rfl⟩
                    have d0 : w6.cell? ⟨b2, off2 + j * 2, none⟩ = some (.string ⟨qk.toArray⟩) := (HBN.out.cell (p := ⟨b2, off2 + j * 2, none⟩) hbl2).trans (hc2 j 0 _ (by omega) (by rw [hq]; rfl))
                    have d1 : w6.cell? ⟨b2, off2 + j * 2 + 1, none⟩ = some (.string ⟨qv.toArray⟩) := (HBN.out.cell (p := ⟨b2, off2 + j * 2 + 1, none⟩) hbl2).trans (hc2 j 1 _ (by omega) (by rw [hq]; rfl))
                    cases e2
                    have HTS := hid (drop_step l 0 j hjl2 hkj)
                    have HQ := hid hq
                    clear hc2 hq hne2
                    go_wp2_with (at_builtin; refine wpList_pushP rfl (.tmp 66) (.tmp 71) rfl W2.heap.size _ _ (qk, qv) rfl HOW.out rfl ?dc1 ?dc2 ?_)
                    case dc1 => simp; omega
                    case dc2 => exact hwn
                    intro v7 w7 own7 gr7 mv7
                    have hb7 := HBN.out.grown gr7 hwn (fun k hk => (World.ownsRow.lt HOW.out k hk).1)
                    have O7 := hid own7
                    have HB7 := hid hb7
                    clear own7 gr7 mv7 hb7 d0 d1
                    go_wp2_with fail
                    go_roundg (g6 - 1)
                    case measure => have := HGJ.out; omega
                    case rel => exact ⟨j + 1, by omega, by omega, by have := HGJ.out; omega, by simp, by rw [HTS.out, HQ.out]; simpa using O7.out, HB7.out⟩
                  · obtain rfl : j = l.length := by omega
                    have HFO := hid (OwnP.mono HOW.out (show w.heap.size + 2 ≤ W2.heap.size by omega))
                    have HFB := hid (HB2.out.trans (HBN.out.mono (show w.heap.size + 2 ≤ W2.heap.size by omega)))
                    have hlen := hid (show (l.take 0 ++ (ky, vy) :: (l.take l.length).drop 0).length = l.length + 1 by rw [List.take_length]; simp <;> omega)
                    clear HOW HBN HGJ HRO
                    go_wp2_with fail
                    go_roundg (g1 - 1)
                    case measure => have := HG.out; omega
                    case rel => exact ⟨l.length + 1, _, by omega, by have := HG.out; omega, hlen.out, by simp, HFO.out, HFB.out, by omega, by rw [List.take_length, HST.out, HFX.out]; exact ins_perm HPM.out, by rw [List.take_length]; exact ins_sorted HSO.out HGT.out HLOW.out⟩
          · obtain ⟨m, rfl⟩ : ∃ m, a = m + 1 := ⟨a - 1, by omega⟩
            have hne2 : l ≠ [] := by intro e; rw [e] at ha; simp at ha
            obtain ⟨b3, off3, e3, hbl3, hc3⟩ := HRO.out hne2
            cases e3
            obtain ⟨qk, qv, hq⟩ : ∃ x y, l[m]'(by omega) = (x, y) := ⟨_, _, rfl⟩
            have hw1 : IntKind.i64.wrap ((m : Int) + 1 - 1) = (m : Int) := by rw [Int.add_sub_cancel]; exact IntWalk.i64_in _ (by omega)
            have hw2 : IntKind.i64.wrap (m : Int) = (m : Int) := IntWalk.i64_in _ (by omega)
            have hm0 : (0 : Int) ≤ (m : Int) := by omega
            have hmt : ((m : Int)).toNat = m := by omega
            have hml : (m : Int) < (l.length : Int) := by omega
            have hmp : (0 : Int) < (m : Int) + 1 := by omega
            have d0 : W2.cell? ⟨b3, off3 + m * 2, none⟩ = some (.string ⟨qk.toArray⟩) := hc3 m 0 _ (by omega) (by rw [hq]; rfl)
            by_cases hlt2 : ky < qk
            · have hbl4 : (!Op.bytesLess qk ky && !(qk == ky)) = true := gt_yes hlt2
              have hbl5 : Op.bytesLess qk ky = false := by rw [Proofs.bytesLess_eq]; exact decide_eq_false (fun h => absurd (List.lt_trans h hlt2) (List.lt_irrefl _))
              have hbl6 : (qk == ky) = false := by rw [beq_eq_false_iff_ne]; rintro rfl; exact absurd hlt2 (List.lt_irrefl _)
              have HGT2 := hid (show ∀ q ∈ l.drop m, ky < q.1 from fun q hqm => by
                rw [List.drop_eq_getElem_cons (by omega), hq] at hqm
                rcases List.mem_cons.1 hqm with rfl | hqm
                · exact hlt2
                · exact HGT.out q hqm)
              clear hlt2 hc3 hq hne2
              go_wp2_with fail
              go_quiet (fail)
              go_wp2_with fail
              go_roundg (gk - 1)
              case measure => have := HGA.out; omega
              case rel => exact ⟨m, by omega, by have := HGA.out; omega, by simp, HGT2.out, _, rfl⟩
            · have hbl4 : (!Op.bytesLess qk ky && !(qk == ky)) = false := gt_no hlt2
              have hlow := take_low HSO.out ha (Or.inr ⟨by omega, by simp only [Nat.add_sub_cancel]; rw [hq]; exact hlt2⟩)
              clear hlt2 hc3 hq hne2
              have HLOW := hid hlow
              go_wp2_with fail
              go_quiet (fail)
              go_wp2_with fail
              go_loopg [7, 8] (m + 1) (fun g vn vk W => ∃ k : Nat, k ≤ m + 1 ∧ m + 1 ≤ k + g ∧ vk = .int .i64 k ∧ OwnP W W2.heap.size vn (l.take k) ∧ Below W2.heap.size W2 W)
              case atStart => exact ⟨0, Nat.zero_le _, by omega, rfl, by rw [List.take_zero]; exact World.ownsRow_nil _ _ _ _, below_drewN (below_drewN (Below.refl _ _) _) _⟩
              case round =>
                rename World => w3
                rename Nat => g3
                obtain ⟨k, hka, hgk, rfl, own, hbn⟩ := hrel
                have HGK := hid hgk
                have HOW := hid own
                have HBN := hid hbn
                have hwn := hbn.size
                clear hgk own hbn
                by_cases hkl : k < m + 1
                · have hne2 : l ≠ [] := by intro e; rw [e] at ha; simp at ha <;> omega
                  obtain ⟨b2, off2, e2, hbl2, hc2⟩ := HRO.out hne2
                  obtain ⟨qk, qv, hq⟩ : ∃ x y, l[k]'(by omega) = (x, y) := ⟨_, _, rfl⟩
                  have d0 : w3.cell? ⟨b2, off2 + k * 2, none⟩ = some (.string ⟨qk.toArray⟩) := (HBN.out.cell (p := ⟨b2, off2 + k * 2, none⟩) hbl2).trans (hc2 k 0 _ (by omega) (by rw [hq]; rfl))
                  have d1 : w3.cell? ⟨b2, off2 + k * 2 + 1, none⟩ = some (.string ⟨qv.toArray⟩) := (HBN.out.cell (p := ⟨b2, off2 + k * 2 + 1, none⟩) hbl2).trans (hc2 k 1 _ (by omega) (by rw [hq]; rfl))
                  cases e2
                  have HTS := hid (take_step l k (by omega))
                  have HQ := hid hq
                  clear hc2 hq hne2
                  go_wp2_with (at_builtin; refine wpList_pushP rfl (.tmp 48) (.tmp 53) rfl W2.heap.size _ _ (qk, qv) rfl HOW.out rfl ?da1 ?da2 ?_)
                  case da1 => rw [List.length_take]; omega
                  case da2 => exact hwn
                  intro v4 w4 own4 gr4 mv4
                  have hb4 := HBN.out.grown gr4 hwn (fun k hk => (World.ownsRow.lt HOW.out k hk).1)
                  have O4 := hid own4
                  have HB4 := hid hb4
                  clear own4 gr4 mv4 hb4 d0 d1
                  go_wp2_with fail
                  go_roundg (g3 - 1)
                  case measure => have := HGK.out; omega
                  case rel => exact ⟨k + 1, by omega, by have := HGK.out; omega, by simp, by rw [HTS.out, HQ.out]; exact O4.out, HB4.out⟩
                · obtain rfl : k = m + 1 := by omega
                  have q0 := (HBN.out.cell (p := ⟨w1.heap.size, 0, none⟩) (by show w1.heap.size < _; omega)).trans p0
                  have q1 := (HBN.out.cell (p := ⟨w1.heap.size, 1, none⟩) (by show w1.heap.size < _; omega)).trans p1
                  go_wp2_with (at_builtin; refine wpList_pushP rfl (.tmp 55) (.tmp 57) rfl W2.heap.size _ _ (ky, vy) rfl HOW.out rfl ?db1 ?db2 ?_)
                  case db1 => rw [List.length_take]; omega
                  case db2 => exact hwn
                  intro v5 w5 own5 gr5 mv5
                  have hb5 := HBN.out.grown gr5 hwn (fun k hk => (World.ownsRow.lt HOW.out k hk).1)
                  have O5 := hid own5
                  have HB5 := hid hb5
                  clear own5 gr5 mv5 hb5 q0 q1 HOW HBN HGK hwn
                  go_wp2_with fail
                  go_loopg [7, 9] l.length (fun g vn vk W => ∃ j : Nat, (m + 1) ≤ j ∧ j ≤ l.length ∧ l.length ≤ j + g ∧ vk = .int .i64 j ∧ OwnP W W2.heap.size vn (l.take (m + 1) ++ (ky, vy) :: (l.take j).drop (m + 1)) ∧ Below W2.heap.size W2 W)
                  case atStart => exact ⟨(m + 1), Nat.le_refl _, ha, by omega, rfl, by rw [List.drop_of_length_le (by rw [List.length_take]; omega)]; first | exact O5.out | simpa using O5.out, HB5.out⟩
                  case round =>
                    rename World => w6
                    rename Nat => g6
                    obtain ⟨j, hkj, hjl, hgj, rfl, own, hbn⟩ := hrel
                    have HGJ := hid hgj
                    have HOW := hid own
                    have HBN := hid hbn
                    have hwn := hbn.size
                    clear hgj own hbn O5 HB5
                    by_cases hjl2 : j < l.length
                    · have hne2 : l ≠ [] := by intro e; rw [e] at hjl2; simp at hjl2
                      obtain ⟨b2, off2, e2, hbl2, hc2⟩ := HRO.out hne2
                      obtain ⟨qk, qv, hq⟩ : ∃ x y, l[j] = (x, y) := ⟨_, _, rfl⟩
                      have d0 : w6.cell? ⟨b2, off2 + j * 2, none⟩ = some (.string ⟨qk.toArray⟩) := (HBN.out.cell (p := ⟨b2, off2 + j * 2, none⟩) hbl2).trans (hc2 j 0 _ (by omega) (by rw [hq]; rfl))
                      have d1 : w6.cell? ⟨b2, off2 + j * 2 + 1, none⟩ = some (.string ⟨qv.toArray⟩) := (HBN.out.cell (p := ⟨b2, off2 + j * 2 + 1, none⟩) hbl2).trans (hc2 j 1 _ (by omega) (by rw [hq]; rfl))
                      cases e2
                      have HTS := hid (drop_step l (m + 1) j hjl2 hkj)
                      have HQ := hid hq
                      clear hc2 hq hne2
                      go_wp2_with (at_builtin; refine wpList_pushP rfl (.tmp 66) (.tmp 71) rfl W2.heap.size _ _ (qk, qv) rfl HOW.out rfl ?dc1 ?dc2 ?_)
                      case dc1 => simp; omega
                      case dc2 => exact hwn
                      intro v7 w7 own7 gr7 mv7
                      have hb7 := HBN.out.grown gr7 hwn (fun k hk => (World.ownsRow.lt HOW.out k hk).1)
                      have O7 := hid own7
                      have HB7 := hid hb7
                      clear own7 gr7 mv7 hb7 d0 d1
                      go_wp2_with fail
                      go_roundg (g6 - 1)
                      case measure => have := HGJ.out; omega
                      case rel => exact ⟨j + 1, by omega, by omega, by have := HGJ.out; omega, by simp, by rw [HTS.out, HQ.out]; simpa using O7.out, HB7.out⟩
                    · obtain rfl : j = l.length := by omega
                      have HFO := hid (OwnP.mono HOW.out (show w.heap.size + 2 ≤ W2.heap.size by omega))
                      have HFB := hid (HB2.out.trans (HBN.out.mono (show w.heap.size + 2 ≤ W2.heap.size by omega)))
                      have hlen := hid (show (l.take (m + 1) ++ (ky, vy) :: (l.take l.length).drop (m + 1)).length = l.length + 1 by rw [List.take_length]; simp <;> omega)
                      clear HOW HBN HGJ HRO
                      go_wp2_with fail
                      go_roundg (g1 - 1)
                      case measure => have := HG.out; omega
                      case rel => exact ⟨l.length + 1, _, by omega, by have := HG.out; omega, hlen.out, by simp, HFO.out, HFB.out, by omega, by rw [List.take_length, HST.out, HFX.out]; exact ins_perm HPM.out, by rw [List.take_length]; exact ins_sorted HSO.out HGT.out HLOW.out⟩
    · have hll : l.length = t.keys.length := by omega
      have hpm2 := HPM.out
      rw [hll, List.take_length] at hpm2
      have hl : l = ks := by rw [HKS.out]; exact srtK_one (t.keys.map fixP) l hpm2 (by rw [fix_map]; exact HN.out) HSO.out
      have HL := hid hl
      have HO2 := hid (hl ▸ HO.out)
      clear hpm2 hl ow HO HPM HSO
      obtain ⟨ao, co, rfl⟩ := own_sliceP HO2.out
      have hz1 := (HB.out.block (w.heap.size + 1) (by omega)).trans HZ0.out
      obtain ⟨c0, c1, c2, _, _⟩ := box_cells HXR.out
      have c3 : w1.cell? ⟨w.heap.size, 3, none⟩ = some (.slice av t.vars.length cv) := cell_of_row _ _ _ _ _ _ HXR.out
      obtain ⟨d0, d1, d2, d3, d4⟩ := box_cells hz1
      have hfz := frozen_of_row w1 w.heap.size 4 _ _ HXR.out
      have fz0 := frozen_of_row w1 (w.heap.size + 1) 0 _ _ hz1
      have fz1 := frozen_of_row w1 (w.heap.size + 1) 1 _ _ hz1
      have fz2 := frozen_of_row w1 (w.heap.size + 1) 2 _ _ hz1
      have fz3 := frozen_of_row w1 (w.heap.size + 1) 3 _ _ hz1
      have fz4 := frozen_of_row w1 (w.heap.size + 1) 4 _ _ hz1
      have hsz := lt_of_block hz1
      have HZ1 := hid hz1
      clear hz1
      go_wp2_with fail
      clear c0 c1 c2 c3 c4 d0 d1 d2 d3 d4 fz0 fz1 fz2 fz3 fz4 hfz
      have hno : ∀ b, b < w.heap.size + 2 → (Value.slice ao ks.length co).ownBlock ≠ some b := fun b hb e => by have := (World.ownsRow.lt HO2.out b e).1; omega
      have hz3 : (w1.setCell ⟨w.heap.size, 4, none⟩ (.slice ao ks.length co)).heap[w.heap.size + 1]? = some (.cells #[.string ⟨#[]⟩, .string ⟨#[]⟩, .string ⟨#[]⟩, .slice none 0 0, .slice none 0 0] 108 (0, 0)) := by
        rw [heap_setCell_other _ _ _ _ (by simp)]; exact HZ1.out
      have on3 := own_set HO2.out (hno w.heap.size (by omega)) 4 (.slice ao ks.length co)
      have hw3 := ((HB0.out.trans (HB.out.mono (Nat.le_add_right w.heap.size 2))).setCell (p := ⟨w.heap.size, 4, none⟩) (Nat.le_refl _) (.slice ao ks.length co))
      generalize w1.setCell ⟨w.heap.size, 4, none⟩ (.slice ao ks.length co) = w3 at *
      have hr := P5_row (.string ⟨t.lang.toArray⟩) (.string ⟨t.script.toArray⟩) (.string ⟨t.region.toArray⟩) (.slice av t.vars.length cv) (.slice ao ks.length co) hz3
      have hw := P5_below (.string ⟨t.lang.toArray⟩) (.string ⟨t.script.toArray⟩) (.string ⟨t.region.toArray⟩) (.slice av t.vars.length cv) (.slice ao ks.length co) hw3 (Nat.le_succ w.heap.size)
      have on4 := P5_own (.string ⟨t.lang.toArray⟩) (.string ⟨t.script.toArray⟩) (.string ⟨t.region.toArray⟩) (.slice av t.vars.length cv) (.slice ao ks.length co) on3 (hno (w.heap.size + 1) (by omega))
      change bodyPost _ _ _ _ _ (P5 w3 (w.heap.size + 1) (.string ⟨t.lang.toArray⟩) (.string ⟨t.script.toArray⟩) (.string ⟨t.region.toArray⟩) (.slice av t.vars.length cv) (.slice ao ks.length co))
      generalize P5 w3 (w.heap.size + 1) (.string ⟨t.lang.toArray⟩) (.string ⟨t.script.toArray⟩) (.string ⟨t.region.toArray⟩) (.slice av t.vars.length cv) (.slice ao ks.length co) = W at *
      obtain ⟨d0, d1, d2, d3, d4⟩ := box_cells hr
      refine bodyPost_ret (v := .agg #[.string ⟨t.lang.toArray⟩, .string ⟨t.script.toArray⟩, .string ⟨t.region.toArray⟩, .slice av t.vars.length cv, .slice ao ks.length co]) (by simp [results, Tryz.results130, go_sem, d0, d1, d2, d3, d4]) rfl ⟨.slice ao ks.length co, rfl, OwnP.mono on4 (Nat.le_add_right _ 2), hw⟩
end Go.Proofs.YtjlfchnnhglbjaaGreat

