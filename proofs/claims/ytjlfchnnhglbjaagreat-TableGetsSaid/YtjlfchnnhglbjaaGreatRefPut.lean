/- The contract of the reference's put. -/
import Derived.Test.YtjlfchnnhglbjaaGreatRefList
set_option linter.unusedVariables false
set_option linter.unusedSimpArgs false
namespace Go.Proofs.YtjlfchnnhglbjaaGreat
open Go.RowKit Go.Lib Go.Sort

def putF : List Str → Str → List Str
  | [], s => [s]
  | x :: l, s => if x < s then x :: putF l s else s :: x :: l
theorem putF_cut : ∀ (l : List Str) (m : Nat) (s : Str), m ≤ l.length → (∀ y ∈ l.take m, y < s) → (∀ (h : m < l.length), ¬ l[m] < s) → putF l s = l.take m ++ s :: l.drop m
  | [], m, s, _, _, _ => by simp [putF]
  | x :: l, 0, s, _, _, h => by
    have := h (by simp)
    simp only [putF]
    rw [if_neg (by simpa using this)]
    simp
  | x :: l, m + 1, s, hm, h1, h2 => by
    simp only [putF]
    rw [if_pos (h1 x (by simp)), putF_cut l m s (by simpa using hm) (fun y hy => h1 y (by simp [hy])) (fun h => by have := h2 (by simpa using h); simpa using this)]
    simp

set_option maxRecDepth 100000 in
set_option maxHeartbeats 4000000 in
theorem rput_any (w : World) (v : Value) (l : List Str) (s : Str) (h : RdS w v l) (hl : l.length ≤ 1000) :
    Calls Tryz.prog 128 #[v, .string ⟨s.toArray⟩] w fun e w' => ∃ v', e = .returned v' ∧ OwnS w' w.heap.size v' (putF l s) ∧ Below w.heap.size w w' := by
  obtain ⟨ao, cp, rfl, hz, hr⟩ := h
  go_enter Tryz.func128, Tryz.ntmps128
  go_wp2_with fail
  go_loopg [5, 6] l.length (fun g vo vi W => ∃ n : Nat, n ≤ l.length ∧ l.length ≤ n + g ∧ vi = .int .i64 n ∧ (∀ y ∈ l.take n, y < s) ∧ OwnS W w.heap.size vo (l.take n) ∧ Below w.heap.size w W)
  case atStart => exact ⟨0, Nat.zero_le _, by omega, rfl, by simp, World.ownsRow_nil _ _ _ _, Below.refl _ _⟩
  case round =>
    obtain ⟨n, hn, hg, rfl, hall, ow, hb⟩ := hrel
    have HG := hid hg
    have HA := hid hall
    have HO := hid ow
    have HB := hid hb
    have hws := hb.size
    have HR := hid hr
    clear hg hall ow hb
    by_cases hlt : n < l.length
    · have hne : l ≠ [] := by rintro rfl; simp at hlt
      obtain ⟨b, off, rfl, hbl, hcell⟩ := hr hne
      have c0 := (HB.out.cell (p := ⟨b, off + n, none⟩) hbl).trans (hcell n _ (List.getElem?_eq_getElem hlt))
      have ht : l.take (n + 1) = l.take n ++ [l[n]] := by rw [List.take_add_one, List.getElem?_eq_getElem hlt]; rfl
      obtain ⟨y, hy⟩ : ∃ y, y = l[n] := ⟨_, rfl⟩
      rw [← hy] at ht c0
      rw [S] at c0
      have HT := hid ht
      have HC := hid hcell
      have HY := hid hy
      clear ht hcell hy hr hne
      by_cases hys : y < s
      · have hbl2 : Op.bytesLess y s = true := by rw [Proofs.bytesLess_eq]; exact decide_eq_true hys
        have HYS := hid hys
        clear hys
        go_wp2_with (at_builtin; refine wpList_pushS rfl (.tmp 19) (.tmp 24) rfl w.heap.size u5 _ y rfl HO.out rfl ?ca1 ?ca2 ?_)
        case ca1 => simp; omega
        case ca2 => exact hws
        intro v2 w2 own2 gr2 mv2
        have hb2 := HB.out.grown gr2 hws (fun k hk => (World.ownsRow.lt HO.out k hk).1)
        have O2 := hid own2
        have HB2 := hid hb2
        clear own2 gr2 mv2 hb2 c0
        go_wp2_with fail
        go_roundg (gk - 1)
        case measure => have := HG.out; omega
        case rel => exact ⟨n + 1, by omega, by have := HG.out; omega, by simp, by rw [HT.out]; intro z hz; rcases List.mem_append.1 hz with hz | hz; exact HA.out z hz; rw [List.mem_singleton.1 hz]; exact HYS.out, by rw [HT.out]; exact O2.out, HB2.out⟩
      · have hbl2 : Op.bytesLess y s = false := by rw [Proofs.bytesLess_eq]; exact decide_eq_false hys
        have hcut := putF_cut l n s hn HA.out (fun h => by rw [← HY.out]; exact hys)
        have HCUT := hid hcut
        clear hcut hys
        clear HC
        go_wp2_with (at_builtin; refine wpList_pushS rfl (.tmp 28) (.tmp 30) rfl w.heap.size u5 _ s rfl HO.out rfl ?cb1 ?cb2 ?_)
        case cb1 => simp; omega
        case cb2 => exact hws
        intro v2 w2 own2 gr2 mv2
        have hb2 := HB.out.grown gr2 hws (fun k hk => (World.ownsRow.lt HO.out k hk).1)
        have O2 := hid own2
        have HB2 := hid hb2
        clear own2 gr2 mv2 hb2 HO HB hws HG HA
        go_wp2_with fail
        go_loopg [5, 6] l.length (fun g vo vi W => ∃ m : Nat, n ≤ m ∧ m ≤ l.length ∧ l.length ≤ m + g ∧ vi = .int .i64 m ∧ OwnS W w.heap.size vo (l.take n ++ s :: (l.take m).drop n) ∧ Below w.heap.size w W)
        case atStart => exact ⟨n, Nat.le_refl _, hn, by omega, by first | rfl | (have := HNL.out; simp [this]), by rw [List.drop_of_length_le (by rw [List.length_take]; omega)]; exact O2.out, HB2.out⟩
        case round =>
          obtain ⟨m, hnm, hm, hg2, rfl, ow2, hb3⟩ := hrel
          have HG2 := hid hg2
          have HO3 := hid ow2
          have HB3 := hid hb3
          have hws3 := hb3.size
          clear hg2 ow2 hb3 O2 HB2
          by_cases hlt2 : m < l.length
          · have hne : l ≠ [] := by rintro rfl; simp at hlt2
            obtain ⟨b2, off2, e2, hbl3, hcell2⟩ := HR.out hne
            have c2 := (HB3.out.cell (p := ⟨b2, off2 + m, none⟩) hbl3).trans (hcell2 m _ (List.getElem?_eq_getElem hlt2))
            cases e2
            have ht2 : (l.take (m + 1)).drop n = (l.take m).drop n ++ [l[m]] := by
              rw [List.take_add_one, List.getElem?_eq_getElem hlt2, List.drop_append_of_le_length (by simp; omega)]; rfl
            obtain ⟨z, hz2⟩ : ∃ z, z = l[m] := ⟨_, rfl⟩
            rw [← hz2] at ht2 c2
            rw [S] at c2
            have HT2 := hid ht2
            clear ht2 hcell2 hz2
            go_wp2_with (at_builtin; refine wpList_pushS rfl (.tmp 36) (.tmp 41) rfl w.heap.size _ _ z rfl HO3.out rfl ?cc1 ?cc2 ?_)
            case cc1 => simp; omega
            case cc2 => exact hws3
            intro v4 w4 own4 gr4 mv4
            have hb4 := HB3.out.grown gr4 hws3 (fun k hk => (World.ownsRow.lt HO3.out k hk).1)
            have O4 := hid own4
            have HB4 := hid hb4
            clear own4 gr4 mv4 hb4 c2
            go_wp2_with fail
            go_roundg (gk - 1)
            case measure => have := HG2.out; omega
            case rel => exact ⟨m + 1, by omega, by omega, by have := HG2.out; omega, by simp, by rw [HT2.out]; simpa using O4.out, HB4.out⟩
          · obtain rfl : m = l.length := by omega
            have hfin : l.take n ++ s :: (l.take l.length).drop n = putF l s := by rw [HCUT.out, List.take_length]
            have HO5 := hid (hfin ▸ HO3.out)
            clear HO3 hfin
            go_wp2_with fail
            go_ret
            exact ⟨_, rfl, HO5.out, HB3.out⟩
    · have HNL := hid (show n = l.length by omega)
      have hcut := putF_cut l n s hn HA.out (fun h => absurd h hlt)
      have HCUT := hid hcut
      clear hcut hr
      go_wp2_with (at_builtin; refine wpList_pushS rfl (.tmp 28) (.tmp 30) rfl w.heap.size u5 _ s rfl HO.out rfl ?cb1 ?cb2 ?_)
      case cb1 => simp; omega
      case cb2 => exact hws
      intro v2 w2 own2 gr2 mv2
      have hb2 := HB.out.grown gr2 hws (fun k hk => (World.ownsRow.lt HO.out k hk).1)
      have O2 := hid own2
      have HB2 := hid hb2
      clear own2 gr2 mv2 hb2 HO HB hws HG HA
      go_wp2_with fail
      go_loopg [5, 6] l.length (fun g vo vi W => ∃ m : Nat, n ≤ m ∧ m ≤ l.length ∧ l.length ≤ m + g ∧ vi = .int .i64 m ∧ OwnS W w.heap.size vo (l.take n ++ s :: (l.take m).drop n) ∧ Below w.heap.size w W)
      case atStart => exact ⟨n, Nat.le_refl _, hn, by omega, by first | rfl | (have := HNL.out; simp [this]), by rw [List.drop_of_length_le (by rw [List.length_take]; omega)]; exact O2.out, HB2.out⟩
      case round =>
        obtain ⟨m, hnm, hm, hg2, rfl, ow2, hb3⟩ := hrel
        have HG2 := hid hg2
        have HO3 := hid ow2
        have HB3 := hid hb3
        have hws3 := hb3.size
        clear hg2 ow2 hb3 O2 HB2
        by_cases hlt2 : m < l.length
        · exfalso; omega
        · obtain rfl : m = l.length := by omega
          have hfin : l.take n ++ s :: (l.take l.length).drop n = putF l s := by rw [HCUT.out, List.take_length]
          have HO5 := hid (hfin ▸ HO3.out)
          clear HO3 hfin
          go_wp2_with fail
          go_ret
          exact ⟨_, rfl, HO5.out, HB3.out⟩
end Go.Proofs.YtjlfchnnhglbjaaGreat
