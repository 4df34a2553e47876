/- The walk of the law ChainEnds. -/
import Derived.Test.YtffaoejahnildaaChWakes
import Derived.Deep.RegionHeld3
set_option linter.unusedVariables false
set_option linter.unusedSimpArgs false
namespace Go.Proofs.Ytffaoejahnildaa
open Go.RowKit Go.Lib Go.Sort Go.Maps

/-- a row of the list that Chain handed back, from i on -/
theorem rd_cells {w : World} {g cap : Nat} {l : List Str} {i : Nat} (hg : g < w.heap.size) (hc : ∀ j x, l[j]? = some x → w.cell? ⟨g, j, none⟩ = some (S x)) (hl : l.length ≤ 9223372036854775807) (hi : i < l.length) :
    RdS w (.slice (some ⟨g, i, none⟩) (l.length - i) cap) (l.drop i) := by
  have hlen : (l.drop i).length = l.length - i := List.length_drop
  refine ⟨some ⟨g, i, none⟩, cap, by rw [hlen], ⟨by rw [hlen]; omega, fun e => by cases e⟩, fun _ => ⟨g, i, rfl, hg, fun j x hx => hc (i + j) x ?_⟩⟩
  rw [List.getElem?_drop] at hx
  exact hx

/-- what the laws know of a list that Chain handed back: where it lies -/
theorem own_at {w : World} {B : Nat} {v : Value} {l : List Str} (h : OwnS w B v l) (hne : l ≠ []) : ∃ g cap, v = .slice (some ⟨g, 0, none⟩) l.length cap ∧ g < w.heap.size ∧ l.length ≤ cap ∧ cap ≤ maxLen ∧ ∀ j x, l[j]? = some x → w.cell? ⟨g, j, none⟩ = some (S x) := by
  rcases h.shape with ⟨_, e⟩ | ⟨g, cap, cur, e, _, hg, h1, h2, _, h4⟩
  · exact absurd e hne
  · exact ⟨g, cap, e, lt_of_block hg, h1, h2, fun j x hx => cells_at hg h4 j _ (by rw [List.getElem?_map, hx]; rfl)⟩

set_option maxRecDepth 100000 in
set_option maxHeartbeats 16000000 in
theorem ends_any (w : World) (va : Value) (D : List (Str × Str)) (s : Str) (hl : RdP w va D) (hp : PSz D) (hsz : D.length ≤ 1000000000) (hs : s.length ≤ maxLen) :
    Calls Try.prog 4 #[va, .string ⟨s.toArray⟩] w fun e w' => e = .returned (.bool true) ∧ Below w.heap.size w w' := by
  have HL := hid hl
  obtain ⟨ao, cp, rfl, hlen, _⟩ := hl
  have NW := hid (fun W v (h : RdP W v D) => new_any W v D h hp (by omega))
  have HSZ := hid (show ([] : List (Str × Str)).length + D.length ≤ 1000000000000 by simp; omega)
  have HSZ2 := hid (show D.length ≤ 10000000000 by omega)
  clear hp hsz
  go_enter Try.func4, Try.ntmps4
  go_wp2_with fail
  refine (lwakes_any _).mono ?_
  rintro e w1 ⟨rfl, hb1⟩
  have HB1 := hid hb1
  have hb2 : Below w1.heap.size w1 (w1.alloc (.cells (flat2 []).toArray 33)) := (Below.refl _ _).alloc (Nat.le_refl _) _
  have HO2 := hid (fresh_ownP w1 [] w1.heap.size (Nat.le_refl _) (by decide))
  have HR2 := hid (HL.out.below (HB1.out.then hb2))
  have HB2 := hid (HB1.out.then hb2)
  have HSS := hid (show w1.heap.size ≤ (w1.alloc (.cells (flat2 []).toArray 33)).heap.size by simp)
  have HU2 := hid hb2
  clear hb1 hb2
  go_wp2_with (at_builtin; refine wpList_appP rfl (.tmp 15) (.tmp 16) rfl w1.heap.size _ _ [] D rfl HO2.out rfl HR2.out HSZ.out HSS.out ?_; intro v3 w3 own3 gr3 mv3)
  have HR3 := hid own3.rd
  have HB3 := hid (HB1.out.then (HU2.out.grown gr3 HSS.out (fun j hj => by cases hj; exact Nat.le_refl _)))
  rw [List.nil_append] at HR3
  clear own3 gr3 mv3 HO2 HR2 HB2 HU2
  refine (NW.out _ _ HR3.out).mono ?_
  rintro e w4 ⟨er, i, vc, rfl, ho, h0, h1, hb4⟩
  have HB4 := hid (HB3.out.then hb4)
  have HNO := hid ho
  have H0 := hid h0
  have H1 := hid h1
  have hb5 : Below w4.heap.size w4 (w4.alloc (.cells #[.int .i64 (er : Int), .int .i64 (i : Int)] 27)) := (Below.refl _ _).alloc (Nat.le_refl _) _
  have HB5 := hid (HB4.out.then hb5)
  have HU5 := hid hb5
  clear ho h0 h1 hb4 hb5
  by_cases her : er = 0
  · subst her
    have HC := hid (H0.out rfl)
    obtain ⟨hsd, hrg, _, hi0⟩ := new_ok HNO.out
    subst hi0
    have HSD := hid hsd
    obtain ⟨bc, bm, n0, rfl, _, _, _⟩ := HC.out
    obtain ⟨ul, hul⟩ := chain_ex HNO.out s
    have HUL := hid hul
    have CH := hid (fun W (hb : Below w4.heap.size w4 W) (t : Str) (m : List Str) (ht : ChainIs D t m) (htl : t.length ≤ maxLen) => chain_any W _ D t m (HC.out.below hb) HSD.out ht htl HSZ2.out)
    have AB := hid (fun W (hb : Below w4.heap.size w4 W) (a t : Str) (m : List Str) (ht : ChainIs D t m) (htl : t.length ≤ maxLen) => above_any W _ D a t m (HC.out.below hb) HSD.out ht htl HSZ2.out)
    have c0 : (w4.alloc (.cells #[.int .i64 0, .int .i64 0] 27)).cell? ⟨w4.heap.size, 0, none⟩ = some (.int .i64 0) := by rw [cell_of_row _ _ _ _ _ _ (heap_alloc_new w4 _)]; rfl
    clear hsd hrg hul H0 H1
    go_wp2_with fail
    refine (CH.out _ HU5.out s ul HUL.out hs).mono ?_
    rintro e w6 ⟨vv, rfl, own, hb6⟩
    have HB6 := hid (HB5.out.then hb6)
    have HU6 := hid (HU5.out.then hb6)
    have HO6 := hid own
    clear hb6 c0
    rcases HUL.out with ⟨hn, hu⟩ | ⟨hn, rfl⟩
    · obtain ⟨g, cap, rfl, hg, hlc, hcm, hcells⟩ := own_at own (up_ne hu)
      have HCL := hid hcells
      have HU := hid hu
      have HNA := hid (up_named HSD.out hn hu)
      have hl0 : 0 < ul.length := List.length_pos_iff.2 (up_ne hu)
      have hlm : ul.length ≤ 9223372036854775807 := by unfold maxLen at hcm; omega
      have HLM := hid hlm
      clear own hcells hu hn hcm
      -- a round's three calls
      have K1 : Hid (∀ (n : Nat) (hn : n < ul.length) W, Below w6.heap.size w6 W → Calls Try.prog 10 #[.pointer (some ⟨bc, 0, none⟩), .string ⟨(ul[n]'hn).toArray⟩] W (fun e w' => ∃ vv', e = .returned vv' ∧ RdS w' vv' (ul.drop n) ∧ Below w6.heap.size w6 w')) := fun n hn W hb => by
        refine (CH.out W (HU6.out.then hb) _ (ul.drop n) (Or.inl ⟨HNA.out _ (List.getElem_mem hn), up_drop n hn HU.out⟩) (Nat.le_trans (named_len (HNA.out _ (List.getElem_mem hn))) (by decide))).mono ?_
        rintro e w' ⟨vv', rfl, o', hb'⟩
        exact ⟨vv', rfl, o'.rd, hb.then hb'⟩
      have K2 : Hid (∀ (n : Nat) (hn : n < ul.length) W v' q, RdS W v' (ul.drop n) → Below w6.heap.size w6 W → Calls Try.prog 9 #[v', .slice (some ⟨g, n, none⟩) (ul.length - n) q] W (fun e w' => e = .returned (.bool true) ∧ Below w6.heap.size w6 w')) := fun n hn W v' q hr hb => by
        have hr2 : RdS W (.slice (some ⟨g, n, none⟩) (ul.length - n) q) (ul.drop n) := rd_cells (Nat.lt_of_lt_of_le hg hb.size) (fun j x hx => (hb.cell (p := ⟨g, j, none⟩) hg).trans (HCL.out j x hx)) HLM.out hn
        refine (lsame_any W v' _ (ul.drop n) hr hr2).mono ?_
        rintro e w' ⟨rfl, hb'⟩
        exact ⟨rfl, hb.then hb'⟩
      have K3 : Hid (∀ (n : Nat) (hn : n < ul.length) W, Below w6.heap.size w6 W → Calls Try.prog 11 #[.pointer (some ⟨bc, 0, none⟩), .string ⟨(ul[n]'hn).toArray⟩, .string ⟨s.toArray⟩] W (fun e w' => e = .returned (.bool true) ∧ Below w6.heap.size w6 w')) := fun n hn W hb => by
        refine (AB.out W (HU6.out.then hb) _ s ul HUL.out hs).mono ?_
        rintro e w' ⟨rfl, hb'⟩
        exact ⟨by simp, hb.then hb'⟩
      clear CH AB
      go_wp2_with fail
      go_loopg [31] ul.length (fun g' vi W => ∃ n : Nat, n ≤ ul.length ∧ ul.length ≤ n + g' ∧ vi = .int .i64 n ∧ Below w6.heap.size w6 W)
      case atStart => exact ⟨0, Nat.zero_le _, by omega, rfl, Below.refl _ _⟩
      case round =>
        rename World => w7
        rename Nat => g1
        obtain ⟨n, hn, hg2, rfl, hb⟩ := hrel
        have HG := hid hg2
        have HB7 := hid hb
        clear hg2 hb
        by_cases hlt : n < ul.length
        · have K1' := hid (K1.out n hlt)
          have K2' := hid (K2.out n hlt)
          have K3' := hid (K3.out n hlt)
          obtain ⟨t, ht⟩ : ∃ t, t = ul[n]'hlt := ⟨_, rfl⟩
          have q1 : w7.cell? ⟨g, n, none⟩ = some (S t) := (HB7.out.cell (p := ⟨g, n, none⟩) hg).trans (HCL.out n t (by rw [ht, List.getElem?_eq_getElem hlt]))
          rw [S] at q1
          rw [← ht] at K1' K3'
          have HT := hid ht
          have hni : (n : Int) < (ul.length : Int) := by omega
          have hni2 : (n : Int) ≤ (ul.length : Int) := by omega
          have hnc : (n : Int) ≤ (cap : Int) := by omega
          have hncn : ¬ (cap - n = 0) := by omega
          have hn0 : (0 : Int) ≤ (n : Int) := by omega
          clear ht
          go_wp2_with fail
          have S0 : Below w6.heap.size w6 w7.drew := HB7.out.drew
          go_region_held3 (fun W => Below w6.heap.size w6 W) (first | assumption) (first
            | (go_at_call 10; (with_reducible refine (K1'.out _ (by assumption)).mono ?_); rintro e w' ⟨vv', rfl, hr', hs'⟩)
            | (go_at_call 9; refine (K2'.out _ _ _ (by assumption) (by assumption)).mono ?_; rintro e w' ⟨rfl, hs'⟩)
            | (go_at_call 11; (with_reducible refine (K3'.out _ (by assumption)).mono ?_); rintro e w' ⟨rfl, hs'⟩))
          rename World => w9
          have HB9 := hid (show Below w6.heap.size w6 w9 by assumption)
          have hnn : ∀ m : Nat, m < n → (m : Int) < (n : Int) := fun m h => by omega
          have HNN := hid hnn
          clear S0 q1 hnn
          go_wp2_with fail
          go_loopg [55] n (fun g' vi W => ∃ m : Nat, m ≤ n ∧ n ≤ m + g' ∧ vi = .int .i64 m ∧ Below w6.heap.size w6 W)
          case atStart => exact ⟨0, Nat.zero_le _, by omega, rfl, HB9.out⟩
          case round =>
            obtain ⟨m, hm, hg3, rfl, hb⟩ := hrel
            rename World => w10
            have HG3 := hid hg3
            have HB10 := hid hb
            clear hg3 hb
            by_cases hlt2 : m < n
            · have hmu : m < ul.length := by omega
              obtain ⟨u, hu⟩ : ∃ u, u = ul[m]'hmu := ⟨_, rfl⟩
              have q1 : w10.cell? ⟨g, m, none⟩ = some (S u) := (HB10.out.cell (p := ⟨g, m, none⟩) hg).trans (HCL.out m u (by rw [hu, List.getElem?_eq_getElem hmu]))
              rw [S] at q1
              have htu : (t == u) = false := by rw [beq_eq_false_iff_ne, HT.out, hu]; exact fun e => up_nodup HU.out m n hlt hlt2 e.symm
              have hmi := HNN.out m hlt2
              have hm0 : (0 : Int) ≤ (m : Int) := by omega
              clear hu
              go_wp2_with fail
              go_roundg (gk - 1)
              case measure => have := HG3.out; omega
              case rel => exact ⟨m + 1, by omega, by have := HG3.out; omega, by simp, HB10.out⟩
            · go_wp2_with fail
              go_roundg (g1 - 1)
              case measure => have := HG.out; omega
              case rel => exact ⟨n + 1, by omega, by have := HG.out; omega, by simp, HB10.out⟩
        · have hnl : n = ul.length := by omega
          obtain ⟨r, hr⟩ := up_head HU.out
          obtain ⟨r2, hr2⟩ := up_last HU.out
          have q0 : w7.cell? ⟨g, 0, none⟩ = some (S s) := (HB7.out.cell (p := ⟨g, 0, none⟩) hg).trans (HCL.out 0 s (by rw [hr]; rfl))
          have q2 : w7.cell? ⟨g, ul.length - 1, none⟩ = some (S tRoot) := (HB7.out.cell (p := ⟨g, ul.length - 1, none⟩) hg).trans (HCL.out _ tRoot (by
            have : ul.length - 1 = r2.length := by rw [hr2]; simp
            rw [this]
            conv => lhs; rw [hr2]
            simp))
          rw [S] at q0 q2
          have hz1 : ((ul.length : Int) == 0) = false := by rw [beq_eq_false_iff_ne]; omega
          have hz2 : (0 : Int) < (ul.length : Int) := by omega
          have hz3 : (0 : Int) ≤ (ul.length : Int) - 1 := by omega
          have hz4 : ((ul.length : Int) - 1).toNat = ul.length - 1 := by omega
          have hss : (s == s) = true := by simp
          clear hr hr2 hnl
          go_wp2_with fail
          go_ret
          exact ⟨rfl, HB6.out.then HB7.out⟩
    · rcases own.shape with ⟨rfl, _⟩ | ⟨g, cap, cur, rfl, _, _, _, _, _, _⟩
      · clear own CH AB
        go_wp2_with fail
        go_loopg [31] 0 (fun g' vi W => vi = .int .i64 0 ∧ W = w6)
        case atStart => exact ⟨rfl, rfl⟩
        case round =>
          obtain ⟨rfl, rfl⟩ := hrel
          go_wp2_with fail
          go_ret
          exact ⟨rfl, HB6.out⟩
      · clear own CH AB
        go_wp2_with fail
        go_loopg [31] 0 (fun g' vi W => vi = .int .i64 0 ∧ W = w6)
        case atStart => exact ⟨rfl, rfl⟩
        case round =>
          obtain ⟨rfl, rfl⟩ := hrel
          go_wp2_with fail
          go_ret
          exact ⟨rfl, HB6.out⟩
  · have hvc := H1.out her
    subst hvc
    have heb : ((er : Int) != 0) = true := by rw [bne_iff_ne]; omega
    have heb2 : ((er : Int) == 0) = false := by rw [beq_eq_false_iff_ne]; omega
    have c0 : (w4.alloc (.cells #[.int .i64 (er : Int), .int .i64 (i : Int)] 27)).cell? ⟨w4.heap.size, 0, none⟩ = some (.int .i64 (er : Int)) := by rw [cell_of_row _ _ _ _ _ _ (heap_alloc_new w4 _)]; rfl
    clear her H0 H1
    go_wp2_with fail
    go_ret
    exact ⟨rfl, HB5.out⟩
end Go.Proofs.Ytffaoejahnildaa
