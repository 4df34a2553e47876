/- The contract of chain.Plain. (printed by wip/gen_chplain.py) -/
import Derived.Test.YtffaoejahnildaaGreatNamedC
import Derived.Test.YtffaoejahnildaaGreatChainP
set_option linter.unusedVariables false
set_option linter.unusedSimpArgs false
namespace Go.Proofs.YtffaoejahnildaaGreat
open Go.RowKit Go.Lib Go.Sort

theorem rdS_take {w : World} {ao : Option Addr} {cp : Nat} {l : List Str} (h : RdS w (.slice ao l.length cp) l) (k : Nat) (hk : k ≤ l.length) : RdS w (.slice ao k cp) (l.take k) := by
  obtain ⟨ao', cp', hv, hl, hr⟩ := h
  cases hv
  have hlen : (l.take k).length = k := by rw [List.length_take]; omega
  refine ⟨ao, cp, by rw [hlen], ⟨by rw [hlen]; omega, fun e => ⟨by rw [(hl.2 e).1]; simp, (hl.2 e).2⟩⟩, fun hne => ?_⟩
  have hne2 : l ≠ [] := fun e => hne (by rw [e]; simp)
  obtain ⟨b, off, h1, h2, h3⟩ := hr hne2
  refine ⟨b, off, h1, h2, fun j x hx => h3 j x ?_⟩
  rw [List.getElem?_take] at hx
  split at hx
  · exact hx
  · cases hx
theorem plainT_V {t : Tg} (h : t.vars ≠ []) : plainT t = { t with vars := t.vars.take (t.vars.length - 1) } := by unfold plainT; rw [if_pos h]
theorem plainT_R {t : Tg} (h : t.vars = []) (h2 : t.region ≠ []) : plainT t = { t with region := [] } := by unfold plainT; rw [if_neg (by simp [h]), if_pos h2]
theorem plainT_S {t : Tg} (h : t.vars = []) (h2 : t.region = []) (h3 : t.script ≠ []) : plainT t = { t with script := [] } := by unfold plainT; rw [if_neg (by simp [h]), if_neg (by simp [h2]), if_pos h3]
theorem plainT_L {t : Tg} (h : t.vars = []) (h2 : t.region = []) (h3 : t.script = []) : plainT t = { t with lang := [] } := by unfold plainT; rw [if_neg (by simp [h]), if_neg (by simp [h2]), if_neg (by simp [h3])]

set_option maxRecDepth 100000 in
set_option maxHeartbeats 16000000 in
theorem plain_any (l : Str) (w : World) (hs : l.length ≤ maxLen) :
    Calls Tryz.prog 12 #[.string ⟨l.toArray⟩] w fun e w' => e = .returned (.tuple #[.string ⟨(plainF l).1.toArray⟩, .bool (plainF l).2]) ∧ Below w.heap.size w w' := by
  have NM := hid (fun W => namedC_any l W hs)
  simp only [NamedOutC] at NM
  by_cases hn : namedB l = true
  · obtain ⟨_, hg, hk, _⟩ := named_facts hn
    have hnt : namedT l = tagOf l := by unfold namedT tagOf; rw [if_pos hn]
    rw [hnt, hn] at NM
    by_cases hr : l = tRoot
    · have hpl : plainF l = ([], false) := plain_no (fun h => h.2 hr)
      rw [hpl]
      have hub : (l == [114, 111, 111, 116]) = true := by rw [hr]; rfl
      have hub2 : (l != [114, 111, 111, 116]) = false := by rw [hr]; rfl
      clear hnt hg hk hn hpl hr
      generalize tagOf l = t at *
      go_enter Tryz.func12, Tryz.ntmps12
      go_wp2_with fail
      refine (NM.out _).mono ?_
      rintro e w1 ⟨v, rfl, ⟨vv, kv, rfl, ⟨av, cv, rfl, _, _⟩, ⟨ak, ck, rfl, _, _⟩⟩, _, hb1⟩
      simp only [tagCells, S]
      go_wp2_with fail
      exact bodyPost_ret (v := .tuple #[.string ⟨#[]⟩, .bool false]) (by simp [results, Tryz.results12, go_sem]) rfl ⟨rfl, hb1.then ((Below.refl _ _).alloc (Nat.le_refl _) _)⟩
    · have hpl : plainF l = (nameOf (writeF (bareT (plainT (tagOf l)))), true) := by
        unfold plainF; rw [if_pos ⟨hn, hr⟩, good_name _ (good_plainT hg hk).1]; rfl
      rw [hpl]
      have hub : (l == [114, 111, 111, 116]) = false := by rw [beq_eq_false_iff_ne]; exact hr
      have hub2 : (l != [114, 111, 111, 116]) = true := by rw [bne_iff_ne]; exact hr
      clear hnt hn hpl
      generalize tagOf l = t at *
      have hgp := (good_plainT hg hk).1
      have N1 : Hid (∀ W v, RdT W v (plainT t) → Calls Tryz.prog 24 #[v] W fun e w' => e = .returned (.tuple #[.string ⟨(nameOf (writeF (bareT (plainT t)))).toArray⟩, .int .i64 0]) ∧ Below W.heap.size W w') := fun W v h => by
        refine (name_any W v (plainT t) h (by have := hgp.vars; omega) (by have := hgp.keys; omega) (by have := hgp.write; omega) (by have := hgp.bare.write; unfold bareT at this; omega)).mono ?_
        rintro e w' ⟨rfl, hb⟩
        exact ⟨by rw [good_name _ hgp]; rfl, hb⟩
      generalize nameOf (writeF (bareT (plainT t))) = nm at *
      have HK := hid hk
      clear hg hgp hr hk
      have hvl : Hid (t.vars = [] ∨ t.vars ≠ []) := (Classical.em _)
      by_cases hv : t.vars = []
      · by_cases h2 : t.region = []
        · by_cases h3 : t.script = []
          · have hv0 : ¬ (0 : Int) < (t.vars.length : Int) := by rw [hv]; simp
            have p1 : (t.region == []) = true := by rw [h2]; rfl
            have p1' : (t.region != []) = false := by rw [h2]; rfl
            have p2 : (t.script == []) = true := by rw [h3]; rfl
            have p2' : (t.script != []) = false := by rw [h3]; rfl
            have HPT0 := hid (plainT_L hv h2 h3)
            clear hv hvl h2 h3
            have HPT := HPT0
            clear HPT0
            go_enter Tryz.func12, Tryz.ntmps12
            go_wp2_with fail
            refine (NM.out _).mono ?_
            rintro e w1 ⟨v, rfl, ⟨vv, kv, rfl, hS, hP⟩, hcap, hb1⟩
            have HS := hid hS
            have HP := hid hP
            obtain ⟨av, cv, rfl, hav, _⟩ := hS
            obtain ⟨ak, ck, rfl, _, _⟩ := hP
            simp only [tagCells, S] at hcap ⊢
            have hcp : t.vars.length ≤ cv := hcap _ _ _ _ _ _ _ rfl
            have hcpi : (t.vars.length : Int) - 1 ≤ (cv : Int) := by omega
            clear hcap hcp
            have hx1 := heap_alloc_new w1 (.cells #[.string ⟨t.lang.toArray⟩, .string ⟨t.script.toArray⟩, .string ⟨t.region.toArray⟩, .slice av t.vars.length cv, .slice ak t.keys.length ck] 53)
            have hb2 : Below w1.heap.size w1 (w1.alloc (.cells #[.string ⟨t.lang.toArray⟩, .string ⟨t.script.toArray⟩, .string ⟨t.region.toArray⟩, .slice av t.vars.length cv, .slice ak t.keys.length ck] 53)) := (Below.refl _ _).alloc (Nat.le_refl _) _
            obtain ⟨c0, c1, c2, c3, c4⟩ := box_cells hx1
            have fz0 := frozen_of_row _ w1.heap.size 0 _ _ hx1
            have fz1 := frozen_of_row _ w1.heap.size 1 _ _ hx1
            have fz2 := frozen_of_row _ w1.heap.size 2 _ _ hx1
            have fz3 := frozen_of_row _ w1.heap.size 3 _ _ hx1
            have hsz := lt_of_block hx1
            have HB1 := hid hb1
            clear hb1 hb2 hx1
            go_wp2_with fail
            refine (N1.out _ _ ?_).mono ?_
            · have hal : ∀ o, Below w1.heap.size w1 (w1.alloc o) := fun o => (Below.refl _ _).alloc (Nat.le_refl _) _
              rw [HPT.out]
              exact ⟨_, _, rfl, (HS.out).below (hal _), HP.out.below (hal _)⟩
            rintro e w3 ⟨rfl, hb3⟩
            have hw3 := HB1.out.then (Below.then ((Below.refl _ _).alloc (Nat.le_refl _) _) hb3)
            clear c0 c1 c2 c3 c4 fz0 fz1 fz2 fz3 hsz hb3
            go_wp2_with fail
            exact bodyPost_ret (v := .tuple #[.string ⟨nm.toArray⟩, .bool true]) (by simp [results, Tryz.results12, go_sem]) rfl ⟨rfl, hw3⟩
          · have hv0 : ¬ (0 : Int) < (t.vars.length : Int) := by rw [hv]; simp
            have p1 : (t.region == []) = true := by rw [h2]; rfl
            have p1' : (t.region != []) = false := by rw [h2]; rfl
            have p2 : (t.script == []) = false := by rw [beq_eq_false_iff_ne]; exact h3
            have p2' : (t.script != []) = true := by rw [bne_iff_ne]; exact h3
            have HPT0 := hid (plainT_S hv h2 h3)
            clear hv hvl h2 h3
            have HPT := HPT0
            clear HPT0
            go_enter Tryz.func12, Tryz.ntmps12
            go_wp2_with fail
            refine (NM.out _).mono ?_
            rintro e w1 ⟨v, rfl, ⟨vv, kv, rfl, hS, hP⟩, hcap, hb1⟩
            have HS := hid hS
            have HP := hid hP
            obtain ⟨av, cv, rfl, hav, _⟩ := hS
            obtain ⟨ak, ck, rfl, _, _⟩ := hP
            simp only [tagCells, S] at hcap ⊢
            have hcp : t.vars.length ≤ cv := hcap _ _ _ _ _ _ _ rfl
            have hcpi : (t.vars.length : Int) - 1 ≤ (cv : Int) := by omega
            clear hcap hcp
            have hx1 := heap_alloc_new w1 (.cells #[.string ⟨t.lang.toArray⟩, .string ⟨t.script.toArray⟩, .string ⟨t.region.toArray⟩, .slice av t.vars.length cv, .slice ak t.keys.length ck] 53)
            have hb2 : Below w1.heap.size w1 (w1.alloc (.cells #[.string ⟨t.lang.toArray⟩, .string ⟨t.script.toArray⟩, .string ⟨t.region.toArray⟩, .slice av t.vars.length cv, .slice ak t.keys.length ck] 53)) := (Below.refl _ _).alloc (Nat.le_refl _) _
            obtain ⟨c0, c1, c2, c3, c4⟩ := box_cells hx1
            have fz0 := frozen_of_row _ w1.heap.size 0 _ _ hx1
            have fz1 := frozen_of_row _ w1.heap.size 1 _ _ hx1
            have fz2 := frozen_of_row _ w1.heap.size 2 _ _ hx1
            have fz3 := frozen_of_row _ w1.heap.size 3 _ _ hx1
            have hsz := lt_of_block hx1
            have HB1 := hid hb1
            clear hb1 hb2 hx1
            go_wp2_with fail
            refine (N1.out _ _ ?_).mono ?_
            · have hal : ∀ o, Below w1.heap.size w1 (w1.alloc o) := fun o => (Below.refl _ _).alloc (Nat.le_refl _) _
              rw [HPT.out]
              exact ⟨_, _, rfl, (HS.out).below (hal _), HP.out.below (hal _)⟩
            rintro e w3 ⟨rfl, hb3⟩
            have hw3 := HB1.out.then (Below.then ((Below.refl _ _).alloc (Nat.le_refl _) _) hb3)
            clear c0 c1 c2 c3 c4 fz0 fz1 fz2 fz3 hsz hb3
            go_wp2_with fail
            exact bodyPost_ret (v := .tuple #[.string ⟨nm.toArray⟩, .bool true]) (by simp [results, Tryz.results12, go_sem]) rfl ⟨rfl, hw3⟩
        · have hv0 : ¬ (0 : Int) < (t.vars.length : Int) := by rw [hv]; simp
          have p1 : (t.region == []) = false := by rw [beq_eq_false_iff_ne]; exact h2
          have p1' : (t.region != []) = true := by rw [bne_iff_ne]; exact h2
          have HPT0 := hid (plainT_R hv h2)
          clear hv hvl h2
          have HPT := HPT0
          clear HPT0
          go_enter Tryz.func12, Tryz.ntmps12
          go_wp2_with fail
          refine (NM.out _).mono ?_
          rintro e w1 ⟨v, rfl, ⟨vv, kv, rfl, hS, hP⟩, hcap, hb1⟩
          have HS := hid hS
          have HP := hid hP
          obtain ⟨av, cv, rfl, hav, _⟩ := hS
          obtain ⟨ak, ck, rfl, _, _⟩ := hP
          simp only [tagCells, S] at hcap ⊢
          have hcp : t.vars.length ≤ cv := hcap _ _ _ _ _ _ _ rfl
          have hcpi : (t.vars.length : Int) - 1 ≤ (cv : Int) := by omega
          clear hcap hcp
          have hx1 := heap_alloc_new w1 (.cells #[.string ⟨t.lang.toArray⟩, .string ⟨t.script.toArray⟩, .string ⟨t.region.toArray⟩, .slice av t.vars.length cv, .slice ak t.keys.length ck] 53)
          have hb2 : Below w1.heap.size w1 (w1.alloc (.cells #[.string ⟨t.lang.toArray⟩, .string ⟨t.script.toArray⟩, .string ⟨t.region.toArray⟩, .slice av t.vars.length cv, .slice ak t.keys.length ck] 53)) := (Below.refl _ _).alloc (Nat.le_refl _) _
          obtain ⟨c0, c1, c2, c3, c4⟩ := box_cells hx1
          have fz0 := frozen_of_row _ w1.heap.size 0 _ _ hx1
          have fz1 := frozen_of_row _ w1.heap.size 1 _ _ hx1
          have fz2 := frozen_of_row _ w1.heap.size 2 _ _ hx1
          have fz3 := frozen_of_row _ w1.heap.size 3 _ _ hx1
          have hsz := lt_of_block hx1
          have HB1 := hid hb1
          clear hb1 hb2 hx1
          go_wp2_with fail
          refine (N1.out _ _ ?_).mono ?_
          · have hal : ∀ o, Below w1.heap.size w1 (w1.alloc o) := fun o => (Below.refl _ _).alloc (Nat.le_refl _) _
            rw [HPT.out]
            exact ⟨_, _, rfl, (HS.out).below (hal _), HP.out.below (hal _)⟩
          rintro e w3 ⟨rfl, hb3⟩
          have hw3 := HB1.out.then (Below.then ((Below.refl _ _).alloc (Nat.le_refl _) _) hb3)
          clear c0 c1 c2 c3 c4 fz0 fz1 fz2 fz3 hsz hb3
          go_wp2_with fail
          exact bodyPost_ret (v := .tuple #[.string ⟨nm.toArray⟩, .bool true]) (by simp [results, Tryz.results12, go_sem]) rfl ⟨rfl, hw3⟩
      · have hv0 : (0 : Int) < (t.vars.length : Int) := by have := List.length_pos_iff.2 hv; omega
        have HPT0 := hid (plainT_V hv)
        clear hv hvl
        have HPT := HPT0
        clear HPT0
        go_enter Tryz.func12, Tryz.ntmps12
        go_wp2_with fail
        refine (NM.out _).mono ?_
        rintro e w1 ⟨v, rfl, ⟨vv, kv, rfl, hS, hP⟩, hcap, hb1⟩
        have HS := hid hS
        have HP := hid hP
        obtain ⟨av, cv, rfl, hav, _⟩ := hS
        obtain ⟨ak, ck, rfl, _, _⟩ := hP
        simp only [tagCells, S] at hcap ⊢
        have hcp : t.vars.length ≤ cv := hcap _ _ _ _ _ _ _ rfl
        have hcpi : (t.vars.length : Int) - 1 ≤ (cv : Int) := by omega
        have hcp0 : (0 : Int) ≤ (t.vars.length : Int) - 1 := by omega
        have hcpn : ((t.vars.length : Int) - 1).toNat = t.vars.length - 1 := by omega
        clear hcap hcp
        have hx1 := heap_alloc_new w1 (.cells #[.string ⟨t.lang.toArray⟩, .string ⟨t.script.toArray⟩, .string ⟨t.region.toArray⟩, .slice av t.vars.length cv, .slice ak t.keys.length ck] 53)
        have hb2 : Below w1.heap.size w1 (w1.alloc (.cells #[.string ⟨t.lang.toArray⟩, .string ⟨t.script.toArray⟩, .string ⟨t.region.toArray⟩, .slice av t.vars.length cv, .slice ak t.keys.length ck] 53)) := (Below.refl _ _).alloc (Nat.le_refl _) _
        obtain ⟨c0, c1, c2, c3, c4⟩ := box_cells hx1
        have fz0 := frozen_of_row _ w1.heap.size 0 _ _ hx1
        have fz1 := frozen_of_row _ w1.heap.size 1 _ _ hx1
        have fz2 := frozen_of_row _ w1.heap.size 2 _ _ hx1
        have fz3 := frozen_of_row _ w1.heap.size 3 _ _ hx1
        have hsz := lt_of_block hx1
        have HB1 := hid hb1
        clear hb1 hb2 hx1
        go_wp2_with fail
        refine (N1.out _ _ ?_).mono ?_
        · have hal : ∀ o, Below w1.heap.size w1 (w1.alloc o) := fun o => (Below.refl _ _).alloc (Nat.le_refl _) _
          rw [HPT.out]
          exact ⟨_, _, rfl, (rdS_take HS.out (t.vars.length - 1) (by omega)).below (hal _), HP.out.below (hal _)⟩
        rintro e w3 ⟨rfl, hb3⟩
        have hw3 := HB1.out.then (Below.then ((Below.refl _ _).alloc (Nat.le_refl _) _) hb3)
        clear c0 c1 c2 c3 c4 fz0 fz1 fz2 fz3 hsz hb3
        go_wp2_with fail
        exact bodyPost_ret (v := .tuple #[.string ⟨nm.toArray⟩, .bool true]) (by simp [results, Tryz.results12, go_sem]) rfl ⟨rfl, hw3⟩
  · have hpl : plainF l = ([], false) := plain_no (fun h => hn h.1)
    rw [hpl]
    have hn2 : namedB l = false := by simpa using hn
    have hnt : namedT l = Tg.zero := by unfold namedT; rw [if_neg hn]
    rw [hnt, hn2] at NM
    clear hnt hn hpl hn2
    go_enter Tryz.func12, Tryz.ntmps12
    go_wp2_with fail
    refine (NM.out _).mono ?_
    rintro e w1 ⟨v, rfl, ⟨vv, kv, rfl, ⟨av, cv, rfl, _, _⟩, ⟨ak, ck, rfl, _, _⟩⟩, _, hb1⟩
    simp only [tagCells, S]
    go_wp2_with fail
    exact bodyPost_ret (v := .tuple #[.string ⟨#[]⟩, .bool false]) (by simp [results, Tryz.results12, go_sem]) rfl ⟨rfl, hb1.then ((Below.refl _ _).alloc (Nat.le_refl _) _)⟩
end Go.Proofs.YtffaoejahnildaaGreat
