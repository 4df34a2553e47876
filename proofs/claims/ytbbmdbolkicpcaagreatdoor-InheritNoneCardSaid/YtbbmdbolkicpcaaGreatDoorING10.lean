/- ChPlain, TbNewA, TbNew, TbKeys, TbGet -/
import Derived.Test.YtbbmdbolkicpcaaGreatDoorING09
import Derived.Test.YtbbmdbolkicpcaaGreatDoorING05
import Derived.Test.YtbbmdbolkicpcaaGreatDoorINShelfM
set_option linter.unusedVariables false
set_option linter.unusedSimpArgs false
namespace Go.Proofs.YtbbmdbolkicpcaaGreatDoor
open Go.RowKit Go.Lib Go.Sort
theorem rdS_take {w : World} {ao : Option Addr} {cp : Nat} {l : List Str} (h : RdS w (.slice ao l.length cp) l) (k : Nat) (hk : k ≤ l.length) : RdS w (.slice ao k cp) (l.take k) := by
 obtain ⟨ao', cp', hv, hl, hr⟩ := h
 cases hv
 have hlen : (l.take k).length = k := by rw [List.length_take]; omega
 refine ⟨ao, cp, by rw [hlen], ⟨by rw [hlen]; omega, fun e => ⟨by rw [(hl.2 e).1]; simp, (hl.2 e).2⟩⟩, fun hne => ?_⟩
 have hne2 : l ≠ [] := fun e => hne (by rw [e]; simp)
 obtain ⟨b, off, h1, h2, h3⟩ := hr hne2
 refine ⟨b, off, h1, h2, fun j x hx => h3 j x ?_⟩
 rw [List.getElem?_take] at hx
 split at hx
 ·exact hx
 ·cases hx
theorem plainT_V {t : Tg} (h : t.vars ≠ []) : plainT t = { t with vars := t.vars.take (t.vars.length - 1) } := by unfold plainT; rw [if_pos h]
theorem plainT_R {t : Tg} (h : t.vars = []) (h2 : t.region ≠ []) : plainT t = { t with region := [] } := by unfold plainT; rw [if_neg (by simp [h]), if_pos h2]
theorem plainT_S {t : Tg} (h : t.vars = []) (h2 : t.region = []) (h3 : t.script ≠ []) : plainT t = { t with script := [] } := by unfold plainT; rw [if_neg (by simp [h]), if_neg (by simp [h2]), if_pos h3]
theorem plainT_L {t : Tg} (h : t.vars = []) (h2 : t.region = []) (h3 : t.script = []) : plainT t = { t with lang := [] } := by unfold plainT; rw [if_neg (by simp [h]), if_neg (by simp [h2]), if_neg (by simp [h3])]
set_option maxRecDepth 100000 in
set_option maxHeartbeats 16000000 in
theorem plain_any (l : Str) (w : World) (hs : l.length ≤ maxLen) :
  Calls Tryz.prog 50 #[.string ⟨l.toArray⟩] w fun e w' => e = .returned (.tuple #[.string ⟨(plainF l).1.toArray⟩, .bool (plainF l).2]) ∧ Below w.heap.size w w' := by
 have NM := hid (fun W => namedC_any l W hs)
 simp only [NamedOutC] at NM
 by_cases hn : namedB l = true
 ·obtain ⟨_, hg, hk, _⟩ := named_facts hn
  have hnt : namedT l = tagOf l := by unfold namedT tagOf; rw [if_pos hn]
  rw [hnt, hn] at NM
  by_cases hr : l = tRoot
  ·have hpl : plainF l = ([], false) := plain_no (fun h => h.2 hr)
   rw [hpl]
   have hub : (l == [114, 111, 111, 116]) = true := by rw [hr]; rfl
   have hub2 : (l != [114, 111, 111, 116]) = false := by rw [hr]; rfl
   clear hnt hg hk hn hpl hr
   generalize tagOf l = t at *
   go_enter Tryz.func50, Tryz.ntmps50
   go_wp2_with fail
   refine (NM.out _).mono ?_
   rintro e w1 ⟨v, rfl, ⟨vv, kv, rfl, ⟨av, cv, rfl, _, _⟩, ⟨ak, ck, rfl, _, _⟩⟩, _, hb1⟩
   simp only [tagCells, S]
   go_wp2_with fail
   exact bodyPost_ret (v := .tuple #[.string ⟨#[]⟩, .bool false]) (by simp [results, Tryz.results50, go_sem]) rfl ⟨rfl, hb1.then ((Below.refl _ _).alloc (Nat.le_refl _) _)⟩
  ·have hpl : plainF l = (nameOf (writeF (bareT (plainT (tagOf l)))), true) := by
    unfold plainF; rw [if_pos ⟨hn, hr⟩, good_name _ (good_plainT hg hk).1]; rfl
   rw [hpl]
   have hub : (l == [114, 111, 111, 116]) = false := by rw [beq_eq_false_iff_ne]; exact hr
   have hub2 : (l != [114, 111, 111, 116]) = true := by rw [bne_iff_ne]; exact hr
   clear hnt hn hpl
   generalize tagOf l = t at *
   have hgp := (good_plainT hg hk).1
   have N1 : Hid (∀ W v, RdT W v (plainT t) → Calls Tryz.prog 91 #[v] W fun e w' => e = .returned (.tuple #[.string ⟨(nameOf (writeF (bareT (plainT t)))).toArray⟩, .int .i64 0]) ∧ Below W.heap.size W w') := fun W v h => by
    refine (name_any W v (plainT t) h (by have := hgp.vars; omega) (by have := hgp.keys; omega) (by have := hgp.write; omega) (by have := hgp.bare.write; unfold bareT at this; omega)).mono ?_
    rintro e w' ⟨rfl, hb⟩
    exact ⟨by rw [good_name _ hgp]; rfl, hb⟩
   generalize nameOf (writeF (bareT (plainT t))) = nm at *
   have HK := hid hk
   clear hg hgp hr hk
   have hvl : Hid (t.vars = [] ∨ t.vars ≠ []) := (Classical.em _)
   by_cases hv : t.vars = []
   ·by_cases h2 : t.region = []
    ·by_cases h3 : t.script = []
     ·have hv0 : ¬ (0 : Int) < (t.vars.length : Int) := by rw [hv]; simp
      have p1 : (t.region == []) = true := by rw [h2]; rfl
      have p1' : (t.region != []) = false := by rw [h2]; rfl
      have p2 : (t.script == []) = true := by rw [h3]; rfl
      have p2' : (t.script != []) = false := by rw [h3]; rfl
      have HPT0 := hid (plainT_L hv h2 h3)
      clear hv hvl h2 h3
      have HPT := HPT0
      clear HPT0
      go_enter Tryz.func50, Tryz.ntmps50
      go_wp2_with fail
      refine (NM.out _).mono ?_
      rintro e w1 ⟨v, rfl, ⟨vv, kv, rfl, hS, hP⟩, hcap, hb1⟩
      have HS := hid hS
      have HP := hid hP
      obtain ⟨av, cv, rfl, hav, _⟩ := hS
      obtain ⟨ak, ck, rfl, _, _⟩ := hP
      simp only [tagCells, S] at hcap ⊢
      have hcp : t.vars.length ≤ cv := hcap _ _ _ _ _ _ _ rfl
      have hcpi : (t.vars.length : Int) - 1 ≤ (cv : Int) := by omega
      clear hcap hcp
      have hx1 := heap_alloc_new w1 (.cells #[.string ⟨t.lang.toArray⟩, .string ⟨t.script.toArray⟩, .string ⟨t.region.toArray⟩, .slice av t.vars.length cv, .slice ak t.keys.length ck] 113)
      have hb2 : Below w1.heap.size w1 (w1.alloc (.cells #[.string ⟨t.lang.toArray⟩, .string ⟨t.script.toArray⟩, .string ⟨t.region.toArray⟩, .slice av t.vars.length cv, .slice ak t.keys.length ck] 113)) := (Below.refl _ _).alloc (Nat.le_refl _) _
      obtain ⟨c0, c1, c2, c3, c4⟩ := box_cells hx1
      have fz0 := frozen_of_row _ w1.heap.size 0 _ _ hx1
      have fz1 := frozen_of_row _ w1.heap.size 1 _ _ hx1
      have fz2 := frozen_of_row _ w1.heap.size 2 _ _ hx1
      have fz3 := frozen_of_row _ w1.heap.size 3 _ _ hx1
      have hsz := lt_of_block hx1
      have HB1 := hid hb1
      clear hb1 hb2 hx1
      go_wp2_with fail
      refine (N1.out _ _ ?_).mono ?_
      ·have hal : ∀ o, Below w1.heap.size w1 (w1.alloc o) := fun o => (Below.refl _ _).alloc (Nat.le_refl _) _
       rw [HPT.out]
       exact ⟨_, _, rfl, (HS.out).below (hal _), HP.out.below (hal _)⟩
      rintro e w3 ⟨rfl, hb3⟩
      have hw3 := HB1.out.then (Below.then ((Below.refl _ _).alloc (Nat.le_refl _) _) hb3)
      clear c0 c1 c2 c3 c4 fz0 fz1 fz2 fz3 hsz hb3
      go_wp2_with fail
      exact bodyPost_ret (v := .tuple #[.string ⟨nm.toArray⟩, .bool true]) (by simp [results, Tryz.results50, go_sem]) rfl ⟨rfl, hw3⟩
     ·have hv0 : ¬ (0 : Int) < (t.vars.length : Int) := by rw [hv]; simp
      have p1 : (t.region == []) = true := by rw [h2]; rfl
      have p1' : (t.region != []) = false := by rw [h2]; rfl
      have p2 : (t.script == []) = false := by rw [beq_eq_false_iff_ne]; exact h3
      have p2' : (t.script != []) = true := by rw [bne_iff_ne]; exact h3
      have HPT0 := hid (plainT_S hv h2 h3)
      clear hv hvl h2 h3
      have HPT := HPT0
      clear HPT0
      go_enter Tryz.func50, Tryz.ntmps50
      go_wp2_with fail
      refine (NM.out _).mono ?_
      rintro e w1 ⟨v, rfl, ⟨vv, kv, rfl, hS, hP⟩, hcap, hb1⟩
      have HS := hid hS
      have HP := hid hP
      obtain ⟨av, cv, rfl, hav, _⟩ := hS
      obtain ⟨ak, ck, rfl, _, _⟩ := hP
      simp only [tagCells, S] at hcap ⊢
      have hcp : t.vars.length ≤ cv := hcap _ _ _ _ _ _ _ rfl
      have hcpi : (t.vars.length : Int) - 1 ≤ (cv : Int) := by omega
      clear hcap hcp
      have hx1 := heap_alloc_new w1 (.cells #[.string ⟨t.lang.toArray⟩, .string ⟨t.script.toArray⟩, .string ⟨t.region.toArray⟩, .slice av t.vars.length cv, .slice ak t.keys.length ck] 113)
      have hb2 : Below w1.heap.size w1 (w1.alloc (.cells #[.string ⟨t.lang.toArray⟩, .string ⟨t.script.toArray⟩, .string ⟨t.region.toArray⟩, .slice av t.vars.length cv, .slice ak t.keys.length ck] 113)) := (Below.refl _ _).alloc (Nat.le_refl _) _
      obtain ⟨c0, c1, c2, c3, c4⟩ := box_cells hx1
      have fz0 := frozen_of_row _ w1.heap.size 0 _ _ hx1
      have fz1 := frozen_of_row _ w1.heap.size 1 _ _ hx1
      have fz2 := frozen_of_row _ w1.heap.size 2 _ _ hx1
      have fz3 := frozen_of_row _ w1.heap.size 3 _ _ hx1
      have hsz := lt_of_block hx1
      have HB1 := hid hb1
      clear hb1 hb2 hx1
      go_wp2_with fail
      refine (N1.out _ _ ?_).mono ?_
      ·have hal : ∀ o, Below w1.heap.size w1 (w1.alloc o) := fun o => (Below.refl _ _).alloc (Nat.le_refl _) _
       rw [HPT.out]
       exact ⟨_, _, rfl, (HS.out).below (hal _), HP.out.below (hal _)⟩
      rintro e w3 ⟨rfl, hb3⟩
      have hw3 := HB1.out.then (Below.then ((Below.refl _ _).alloc (Nat.le_refl _) _) hb3)
      clear c0 c1 c2 c3 c4 fz0 fz1 fz2 fz3 hsz hb3
      go_wp2_with fail
      exact bodyPost_ret (v := .tuple #[.string ⟨nm.toArray⟩, .bool true]) (by simp [results, Tryz.results50, go_sem]) rfl ⟨rfl, hw3⟩
    ·have hv0 : ¬ (0 : Int) < (t.vars.length : Int) := by rw [hv]; simp
     have p1 : (t.region == []) = false := by rw [beq_eq_false_iff_ne]; exact h2
     have p1' : (t.region != []) = true := by rw [bne_iff_ne]; exact h2
     have HPT0 := hid (plainT_R hv h2)
     clear hv hvl h2
     have HPT := HPT0
     clear HPT0
     go_enter Tryz.func50, Tryz.ntmps50
     go_wp2_with fail
     refine (NM.out _).mono ?_
     rintro e w1 ⟨v, rfl, ⟨vv, kv, rfl, hS, hP⟩, hcap, hb1⟩
     have HS := hid hS
     have HP := hid hP
     obtain ⟨av, cv, rfl, hav, _⟩ := hS
     obtain ⟨ak, ck, rfl, _, _⟩ := hP
     simp only [tagCells, S] at hcap ⊢
     have hcp : t.vars.length ≤ cv := hcap _ _ _ _ _ _ _ rfl
     have hcpi : (t.vars.length : Int) - 1 ≤ (cv : Int) := by omega
     clear hcap hcp
     have hx1 := heap_alloc_new w1 (.cells #[.string ⟨t.lang.toArray⟩, .string ⟨t.script.toArray⟩, .string ⟨t.region.toArray⟩, .slice av t.vars.length cv, .slice ak t.keys.length ck] 113)
     have hb2 : Below w1.heap.size w1 (w1.alloc (.cells #[.string ⟨t.lang.toArray⟩, .string ⟨t.script.toArray⟩, .string ⟨t.region.toArray⟩, .slice av t.vars.length cv, .slice ak t.keys.length ck] 113)) := (Below.refl _ _).alloc (Nat.le_refl _) _
     obtain ⟨c0, c1, c2, c3, c4⟩ := box_cells hx1
     have fz0 := frozen_of_row _ w1.heap.size 0 _ _ hx1
     have fz1 := frozen_of_row _ w1.heap.size 1 _ _ hx1
     have fz2 := frozen_of_row _ w1.heap.size 2 _ _ hx1
     have fz3 := frozen_of_row _ w1.heap.size 3 _ _ hx1
     have hsz := lt_of_block hx1
     have HB1 := hid hb1
     clear hb1 hb2 hx1
     go_wp2_with fail
     refine (N1.out _ _ ?_).mono ?_
     ·have hal : ∀ o, Below w1.heap.size w1 (w1.alloc o) := fun o => (Below.refl _ _).alloc (Nat.le_refl _) _
      rw [HPT.out]
      exact ⟨_, _, rfl, (HS.out).below (hal _), HP.out.below (hal _)⟩
     rintro e w3 ⟨rfl, hb3⟩
     have hw3 := HB1.out.then (Below.then ((Below.refl _ _).alloc (Nat.le_refl _) _) hb3)
     clear c0 c1 c2 c3 c4 fz0 fz1 fz2 fz3 hsz hb3
     go_wp2_with fail
     exact bodyPost_ret (v := .tuple #[.string ⟨nm.toArray⟩, .bool true]) (by simp [results, Tryz.results50, go_sem]) rfl ⟨rfl, hw3⟩
   ·have hv0 : (0 : Int) < (t.vars.length : Int) := by have := List.length_pos_iff.2 hv; omega
    have HPT0 := hid (plainT_V hv)
    clear hv hvl
    have HPT := HPT0
    clear HPT0
    go_enter Tryz.func50, Tryz.ntmps50
    go_wp2_with fail
    refine (NM.out _).mono ?_
    rintro e w1 ⟨v, rfl, ⟨vv, kv, rfl, hS, hP⟩, hcap, hb1⟩
    have HS := hid hS
    have HP := hid hP
    obtain ⟨av, cv, rfl, hav, _⟩ := hS
    obtain ⟨ak, ck, rfl, _, _⟩ := hP
    simp only [tagCells, S] at hcap ⊢
    have hcp : t.vars.length ≤ cv := hcap _ _ _ _ _ _ _ rfl
    have hcpi : (t.vars.length : Int) - 1 ≤ (cv : Int) := by omega
    have hcp0 : (0 : Int) ≤ (t.vars.length : Int) - 1 := by omega
    have hcpn : ((t.vars.length : Int) - 1).toNat = t.vars.length - 1 := by omega
    clear hcap hcp
    have hx1 := heap_alloc_new w1 (.cells #[.string ⟨t.lang.toArray⟩, .string ⟨t.script.toArray⟩, .string ⟨t.region.toArray⟩, .slice av t.vars.length cv, .slice ak t.keys.length ck] 113)
    have hb2 : Below w1.heap.size w1 (w1.alloc (.cells #[.string ⟨t.lang.toArray⟩, .string ⟨t.script.toArray⟩, .string ⟨t.region.toArray⟩, .slice av t.vars.length cv, .slice ak t.keys.length ck] 113)) := (Below.refl _ _).alloc (Nat.le_refl _) _
    obtain ⟨c0, c1, c2, c3, c4⟩ := box_cells hx1
    have fz0 := frozen_of_row _ w1.heap.size 0 _ _ hx1
    have fz1 := frozen_of_row _ w1.heap.size 1 _ _ hx1
    have fz2 := frozen_of_row _ w1.heap.size 2 _ _ hx1
    have fz3 := frozen_of_row _ w1.heap.size 3 _ _ hx1
    have hsz := lt_of_block hx1
    have HB1 := hid hb1
    clear hb1 hb2 hx1
    go_wp2_with fail
    refine (N1.out _ _ ?_).mono ?_
    ·have hal : ∀ o, Below w1.heap.size w1 (w1.alloc o) := fun o => (Below.refl _ _).alloc (Nat.le_refl _) _
     rw [HPT.out]
     exact ⟨_, _, rfl, (rdS_take HS.out (t.vars.length - 1) (by omega)).below (hal _), HP.out.below (hal _)⟩
    rintro e w3 ⟨rfl, hb3⟩
    have hw3 := HB1.out.then (Below.then ((Below.refl _ _).alloc (Nat.le_refl _) _) hb3)
    clear c0 c1 c2 c3 c4 fz0 fz1 fz2 fz3 hsz hb3
    go_wp2_with fail
    exact bodyPost_ret (v := .tuple #[.string ⟨nm.toArray⟩, .bool true]) (by simp [results, Tryz.results50, go_sem]) rfl ⟨rfl, hw3⟩
 ·have hpl : plainF l = ([], false) := plain_no (fun h => hn h.1)
  rw [hpl]
  have hn2 : namedB l = false := by simpa using hn
  have hnt : namedT l = Tg.zero := by unfold namedT; rw [if_neg hn]
  rw [hnt, hn2] at NM
  clear hnt hn hpl hn2
  go_enter Tryz.func50, Tryz.ntmps50
  go_wp2_with fail
  refine (NM.out _).mono ?_
  rintro e w1 ⟨v, rfl, ⟨vv, kv, rfl, ⟨av, cv, rfl, _, _⟩, ⟨ak, ck, rfl, _, _⟩⟩, _, hb1⟩
  simp only [tagCells, S]
  go_wp2_with fail
  exact bodyPost_ret (v := .tuple #[.string ⟨#[]⟩, .bool false]) (by simp [results, Tryz.results50, go_sem]) rfl ⟨rfl, hb1.then ((Below.refl _ _).alloc (Nat.le_refl _) _)⟩
end Go.Proofs.YtbbmdbolkicpcaaGreatDoor
namespace Go.Proofs.YtbbmdbolkicpcaaGreatDoor
open Go.RowKit Go.Lib Go.Sort Go.Maps Go.WideMaps
def encI : Enc Itm 5 where
 enc := fun x => [.string ⟨x.path.toArray⟩, .string ⟨x.value.toArray⟩, .bool x.alias', .string ⟨x.draft.toArray⟩, .int .i64 x.at']
 len := fun _ => rfl
 one := fun x u hu => by simp at hu; rcases hu with rfl | rfl | rfl | rfl | rfl <;> rfl
def encD : Enc (Dc × (Option Addr × Nat)) 3 where
 enc := fun z => [.string ⟨z.1.loc.toArray⟩, .bool z.1.supp, .slice z.2.1 z.1.items.length z.2.2]
 len := fun _ => rfl
 one := fun x u hu => by simp at hu; rcases hu with rfl | rfl | rfl <;> rfl
def RdD (w : World) (v : Value) (l : List Dc) : Prop := ∃ zs : List (Dc × (Option Addr × Nat)), zs.map (·.1) = l ∧ RdL encD w v zs ∧ ∀ z ∈ zs, RdL encI w (.slice z.2.1 z.1.items.length z.2.2) z.1.items
theorem RdD.cells {w : World} {v : Value} {l : List Dc} (h : RdD w v l) : ∃ ao cp, v = .slice ao l.length cp ∧ l.length ≤ cp ∧ l.length ≤ 9223372036854775807 ∧ ∀ n (hn : n < l.length), ∃ p o a c, ao = some ⟨p, o, none⟩ ∧ p < w.heap.size ∧
  w.cell? ⟨p, o + n * 3, none⟩ = some (.string ⟨(l[n]'hn).loc.toArray⟩) ∧ w.cell? ⟨p, o + n * 3 + 1, none⟩ = some (.bool (l[n]'hn).supp) ∧ w.cell? ⟨p, o + n * 3 + 2, none⟩ = some (.slice a (l[n]'hn).items.length c) ∧ RdL encI w (.slice a (l[n]'hn).items.length c) (l[n]'hn).items := by
 obtain ⟨zs, rfl, ⟨ao, cp, rfl, ⟨h1, h2, _⟩, hc⟩, hi⟩ := h
 refine ⟨ao, cp, by rw [List.length_map], by rw [List.length_map]; exact h1, by rw [List.length_map]; exact h2, fun n hn => ?_⟩
 rw [List.length_map] at hn
 obtain ⟨p, o, ha, hp, hx⟩ := hc (by intro e; rw [e] at hn; simp at hn)
 simp only [List.getElem_map]
 exact ⟨p, o, (zs[n]).2.1, (zs[n]).2.2, ha, hp, hx n 0 _ hn rfl, hx n 1 _ hn rfl, hx n 2 _ hn rfl, hi _ (List.getElem_mem hn)⟩
theorem RdI.cells {w : World} {a : Option Addr} {k c : Nat} {l : List Itm} (h : RdL encI w (.slice a k c) l) : k = l.length ∧ k ≤ c ∧ k ≤ 9223372036854775807 ∧ ∀ n (hn : n < l.length), ∃ p o, a = some ⟨p, o, none⟩ ∧ p < w.heap.size ∧
  w.cell? ⟨p, o + n * 5, none⟩ = some (.string ⟨(l[n]'hn).path.toArray⟩) ∧ w.cell? ⟨p, o + n * 5 + 1, none⟩ = some (.string ⟨(l[n]'hn).value.toArray⟩) ∧ w.cell? ⟨p, o + n * 5 + 2, none⟩ = some (.bool (l[n]'hn).alias') ∧ w.cell? ⟨p, o + n * 5 + 3, none⟩ = some (.string ⟨(l[n]'hn).draft.toArray⟩) ∧ w.cell? ⟨p, o + n * 5 + 4, none⟩ = some (.int .i64 (l[n]'hn).at') := by
 obtain ⟨ao, cp, e, ⟨h1, h2, _⟩, hc⟩ := h
 cases e
 refine ⟨rfl, h1, h2, fun n hn => ?_⟩
 obtain ⟨p, o, ha, hp, hx⟩ := hc (by intro e; rw [e] at hn; simp at hn)
 exact ⟨p, o, ha, hp, hx n 0 _ hn rfl, hx n 1 _ hn rfl, hx n 2 _ hn rfl, hx n 3 _ hn rfl, hx n 4 _ hn rfl⟩
def costD : List Dc → Nat
 | [] => 0
 | d :: r => 4 * d.items.length + 1 + costD r
def SzD (l : List Dc) : Prop := (∀ d ∈ l, d.loc.length ≤ maxLen ∧ ∀ x ∈ d.items, x.path.length ≤ maxLen) ∧ costD l + 8 < maxLen
def P3 (W : World) (B : Nat) (a0 a1 a2 : Value) : World := ((W.setCell ⟨B, 0, none⟩ a0).setCell ⟨B, 1, none⟩ a1).setCell ⟨B, 2, none⟩ a2
theorem P3_row {W : World} {B : Nat} {z0 z1 z2 : Value} {ty : TypeId} (a0 a1 a2 : Value) (h : W.heap[B]? = some (.cells #[z0, z1, z2] ty (0, 0))) : (P3 W B a0 a1 a2).heap[B]? = some (.cells #[a0, a1, a2] ty (0, 0)) := by
 unfold P3
 rw [heap_setCell_same _ _ _ _ _ _ (heap_setCell_same _ _ _ _ _ _ (heap_setCell_same _ _ _ _ _ _ h))]; simp
theorem P3_below {B b : Nat} {w W : World} (a0 a1 a2 : Value) (h : Below B w W) (hb : B ≤ b) : Below B w (P3 W b a0 a1 a2) :=
 ((h.setCell (p := ⟨b, 0, none⟩) hb a0).setCell (p := ⟨b, 1, none⟩) hb a1).setCell (p := ⟨b, 2, none⟩) hb a2
theorem P3_kept {W : World} {b c : Nat} (a0 a1 a2 : Value) (hne : c ≠ b) : (P3 W b a0 a1 a2).heap[c]? = W.heap[c]? := by
 unfold P3
 rw [heap_setCell_other _ _ _ _ hne, heap_setCell_other _ _ _ _ hne, heap_setCell_other _ _ _ _ hne]
theorem box3_frozen {W : World} {B : Nat} {a b c : Value} {ty : TypeId} (h : W.heap[B]? = some (.cells #[a, b, c] ty (0, 0))) : W.frozen? ⟨B, 0, none⟩ = false ∧ W.frozen? ⟨B, 1, none⟩ = false ∧ W.frozen? ⟨B, 2, none⟩ = false :=
 ⟨frozen_of_row W B 0 _ _ h, frozen_of_row W B 1 _ _ h, frozen_of_row W B 2 _ _ h⟩
def TNewOut (w : World) (l : List Dc) (x : Ending) (w' : World) : Prop :=
  Below w.heap.size w w' ∧
    (((newF l).1.err = 0 ∧ ∃ Bt bv ba bn bp N V, x = .returned (.tuple #[.pointer (some ⟨Bt, 0, none⟩), .agg #[.int .i64 0, .int .i64 0, .int .i64 0]]) ∧ TbIn w.heap.size w' Bt bv ba bn bp N V (newF l).2 ∧ TbOk (newF l).2) ∨
     ((newF l).1.err ≠ 0 ∧ x = .returned (.tuple #[.pointer none, .agg #[.int .i64 (newF l).1.err, .int .i64 (newF l).1.file, .int .i64 (newF l).1.at']])))
theorem tnew_ret {V : World} {Pb : Nat} {v : Value} {e f a : Int} (hr : V.heap[Pb]? = some (.cells #[.int .i64 e, .int .i64 f, .int .i64 a] 26 (0, 0))) {Q : Ending → World → Prop} {act : Act} (hd : act.defers = [])
  (h2 : act.tmps.getD 2 undef = v) (h3 : act.tmps.getD 3 undef = .pointer (some ⟨Pb, 0, none⟩)) (hQ : Q (.returned (.tuple #[v, .agg #[.int .i64 e, .int .i64 f, .int .i64 a]])) V) :
  bodyPost Tryz.prog Tryz.f26 Q Exit.ret act V := by
 obtain ⟨e0, e1, e2, _⟩ := box3_cells hr
 refine bodyPost_ret (v := .tuple #[v, .agg #[.int .i64 e, .int .i64 f, .int .i64 a]]) ?_ hd hQ
 obtain ⟨tmps, defers⟩ := act
 simp only [Array.getD_eq_getD_getElem?] at h2 h3
 simp [results, Tryz.results26, go_sem, h2, h3, e0, e1, e2]
structure NwSt (w W : World) (Bt bv ba bn bp N : Nat) (V : List (Str × Nat)) (t : Tb) : Prop where
 tb : TbIn w.heap.size.succ W Bt bv ba bn bp N V t
 ok : TbOk t
 f : W.heap[w.heap.size]? = some (.cells #[.int .i64 0, .int .i64 0, .int .i64 0] 26 (0, 0))
 bel : Below w.heap.size w W
section
variable {w W W' : World} {Bt bv ba bn bp N : Nat} {V : List (Str × Nat)} {t : Tb}
theorem TbIn.lower {B0 B1 : Nat} (h : TbIn B0 W Bt bv ba bn bp N V t) (hb : B1 ≤ B0) : TbIn B1 W Bt bv ba bn bp N V t := by
 obtain ⟨h1, ⟨l1, l2, l3, l4, l5⟩, h3⟩ := h
 exact ⟨h1, ⟨by omega, by omega, by omega, by omega, by omega⟩, fun p hp => Nat.le_trans hb (h3 p hp)⟩
theorem TbIn.agree {B0 : Nat} (h : TbIn B0 W Bt bv ba bn bp N V t) (he : ∀ k, B0 ≤ k → W'.heap[k]? = W.heap[k]?) : TbIn B0 W' Bt bv ba bn bp N V t := by
 obtain ⟨⟨a1, a2, a3, a4, a5, a6, a7, a8, a9, a10⟩, ⟨l1, l2, l3, l4, l5⟩, h3⟩ := h
 exact ⟨⟨(he _ l1).trans a1, a2.block (he _ l2), a3.block (he _ l3), a4.block (he _ l4), a5.block (he _ l5), fun p hp => (a6 p hp).block (he _ (h3 p hp)), a7, a8, a9, a10⟩, ⟨l1, l2, l3, l4, l5⟩, h3⟩
theorem NwSt.below (h : NwSt w W Bt bv ba bn bp N V t) (hb : Below W.heap.size W W') : NwSt w W' Bt bv ba bn bp N V t :=
 ⟨h.tb.below hb, h.ok, (hb.block _ (lt_of_block h.f)).trans h.f, h.bel.then hb⟩
theorem NwSt.mono {N' : Nat} (h : NwSt w W Bt bv ba bn bp N V t) (hn : N ≤ N') : NwSt w W Bt bv ba bn bp N' V t := ⟨h.tb.mono hn, h.ok, h.f, h.bel⟩
theorem NwSt.size (h : NwSt w W Bt bv ba bn bp N V t) : w.heap.size.succ ≤ W.heap.size := lt_of_block h.f
theorem NwSt.turned (h : NwSt w W Bt bv ba bn bp N V t) {N' : Nat} {V' : List (Str × Nat)} {t' : Tb} (ht : TbIn w.heap.size.succ W' Bt bv ba bn bp N' V' t') (ok : TbOk t') (hb : Below w.heap.size.succ W W') : NwSt w W' Bt bv ba bn bp N' V' t' :=
 ⟨ht, ok, (hb.block _ (Nat.lt_succ_self _)).trans h.f, h.bel.trans (hb.mono (Nat.le_succ _))⟩
theorem NwSt.wrong (h : NwSt w W Bt bv ba bn bp N V t) : W.cell? ⟨w.heap.size, 0, none⟩ = some (.int .i64 0) ∧ W.cell? ⟨w.heap.size, 1, none⟩ = some (.int .i64 0) ∧ W.cell? ⟨w.heap.size, 2, none⟩ = some (.int .i64 0) ∧ w.heap.size < W.heap.size ∧
  W.frozen? ⟨w.heap.size, 0, none⟩ = false ∧ W.frozen? ⟨w.heap.size, 1, none⟩ = false ∧ W.frozen? ⟨w.heap.size, 2, none⟩ = false := by
 obtain ⟨a, b, c, d⟩ := box3_cells h.f
 exact ⟨a, b, c, d, box3_frozen h.f⟩
end
theorem tnew_good {w W : World} {l : List Dc} {Bt bv ba bn bp N : Nat} {V : List (Str × Nat)} {t : Tb} (h : newF l = (Wrg.ok, t)) (st : NwSt w W Bt bv ba bn bp N V t) : TNewOut w l (.returned (.tuple #[.pointer (some ⟨Bt, 0, none⟩), .agg #[.int .i64 0, .int .i64 0, .int .i64 0]])) (P3 W w.heap.size (.int .i64 0) (.int .i64 0) (.int .i64 0)) := by
 refine ⟨P3_below _ _ _ st.bel (Nat.le_refl _), Or.inl ?_⟩
 rw [h]
 exact ⟨rfl, Bt, bv, ba, bn, bp, N, V, rfl, (st.tb.agree (fun k hk => P3_kept _ _ _ (by omega))).lower (Nat.le_succ _), st.ok⟩
theorem start_tb (w W : World) (B : Nat) (hB : B = w.heap.size) (h0 : W.heap[B]? = some (.cells #[.int .i64 0, .int .i64 0, .int .i64 0] 26 (0, 0)))
  (h1 : W.heap[B + 1]? = some (.map #[] 0)) (h2 : W.heap[B + 1 + 1]? = some (.map #[] 0)) (h3 : W.heap[B + 1 + 1 + 1]? = some (.map #[] 0)) (h4 : W.heap[B + 1 + 1 + 1 + 1]? = some (.map #[] 0))
  (h5 : W.heap[B + 1 + 1 + 1 + 1 + 1]? = some (.cells #[.map (some (B + 1)), .map (some (B + 1 + 1)), .map (some (B + 1 + 1 + 1)), .map (some (B + 1 + 1 + 1 + 1))] 93 (0, 0))) (hb : Below w.heap.size w W) :
  NwSt w W (B + 1 + 1 + 1 + 1 + 1) (B + 1) (B + 1 + 1) (B + 1 + 1 + 1) (B + 1 + 1 + 1 + 1) 0 [] Tb.zero := by
 have mk : ∀ {α : Type} (E : El α) (b : Nat), W.heap[b]? = some (.map #[] 0) → OwnE E W b 0 [] := fun E b hb => by
  have := OwnE.made E (w.alloc (.map #[] 0))
  obtain ⟨m, ⟨es, ck, hm, F, hs, hD⟩, h2⟩ := this
  have e := heap_alloc_new (w.alloc (.map #[] 0)) (.map #[] 0)
  rw [e] at hm
  cases hm
  exact ⟨m, ⟨_, _, hb, F, hs, hD⟩, h2⟩
 refine ⟨⟨⟨h5, mk _ _ h1, mk _ _ h2, mk _ _ h3, mk _ _ h4, (fun p hp => by cases hp), (by simp), (fun r hr => by cases hr), (fun r hr => by cases hr), ?_⟩, ⟨by omega, by omega, by omega, by omega, by omega⟩, (fun p hp => by cases hp)⟩, TbOk.zero, by rw [← hB]; exact h0, hb⟩
 simp
theorem start_new (w : World) : NwSt w ((((((w.alloc (.cells #[.int .i64 0, .int .i64 0, .int .i64 0] 26)).alloc (.map #[] 0)).alloc (.map #[] 0)).alloc (.map #[] 0)).alloc (.map #[] 0)).alloc (.cells #[.map (some (w.heap.size + 1)), .map (some (w.heap.size + 1 + 1)), .map (some (w.heap.size + 1 + 1 + 1)), .map (some (w.heap.size + 1 + 1 + 1 + 1))] 93))
  (w.heap.size + 1 + 1 + 1 + 1 + 1) (w.heap.size + 1) (w.heap.size + 1 + 1) (w.heap.size + 1 + 1 + 1) (w.heap.size + 1 + 1 + 1 + 1) 0 [] Tb.zero := by
 have a1 : ∀ (W : World) (o : Obj), (W.alloc o).heap.size = W.heap.size + 1 := fun W o => by simp
 have a2 : ∀ (W : World) (o : Obj) (k : Nat), (W.alloc o).heap[k]? = if k = W.heap.size then some o else W.heap[k]? := fun W o k => by
  show (W.heap.push o)[k]? = _
  rw [Array.getElem?_push]
 refine start_tb w _ w.heap.size rfl ?_ ?_ ?_ ?_ ?_ ?_ ?_
 ·simp only [a2, a1]
  rw [if_neg (by omega), if_neg (by omega), if_neg (by omega), if_neg (by omega), if_neg (by omega), if_pos trivial]
 ·simp only [a2, a1]
  rw [if_neg (by omega), if_neg (by omega), if_neg (by omega), if_neg (by omega), if_pos trivial]
 ·simp only [a2, a1]
  rw [if_neg (by omega), if_neg (by omega), if_neg (by omega), if_pos trivial]
 ·simp only [a2, a1]
  rw [if_neg (by omega), if_neg (by omega), if_pos trivial]
 ·simp only [a2, a1]
  rw [if_neg (by omega), if_pos trivial]
 ·simp only [a2, a1]
  rw [if_pos trivial]
 ·exact ((((((Below.refl _ _).alloc (Nat.le_refl _) _).alloc (by simp) _).alloc (by simp; omega) _).alloc (by simp; omega) _).alloc (by simp; omega) _).alloc (by simp; omega) _
theorem head_bad {t : Tb} {d : Dc} (h : (d.supp = true ∧ d.loc ≠ []) ∨ (d.supp = false ∧ namedB d.loc = false)) : headF t d = (2, t) := by unfold headF; rw [if_pos h]
theorem head_keep {t : Tb} {d : Dc} (h : ¬ ((d.supp = true ∧ d.loc ≠ []) ∨ (d.supp = false ∧ namedB d.loc = false))) (h2 : d.supp = true ∨ d.loc ∈ t.names) : headF t d = (0, t) := by unfold headF; rw [if_neg h, if_pos h2]
theorem head_full {t : Tb} {d : Dc} (h : ¬ ((d.supp = true ∧ d.loc ≠ []) ∨ (d.supp = false ∧ namedB d.loc = false))) (h2 : ¬ (d.supp = true ∨ d.loc ∈ t.names)) (h3 : t.names.length = 512) : headF t d = (3, t) := by unfold headF; rw [if_neg h, if_neg h2, if_pos h3]
theorem head_more {t : Tb} {d : Dc} (h : ¬ ((d.supp = true ∧ d.loc ≠ []) ∨ (d.supp = false ∧ namedB d.loc = false))) (h2 : ¬ (d.supp = true ∨ d.loc ∈ t.names)) (h3 : ¬ t.names.length = 512) : headF t d = (0, { t with names := t.names ++ [d.loc] }) := by unfold headF; rw [if_neg h, if_neg h2, if_neg h3]
def fromD (n : Nat) (r : List Dc) (d : Dc) (x : Nat × Tb) : Wrg × Tb := match x with
  | (0, t1) => match itemsF d.loc n t1 d.items with
   | (none, t2) => docsF (n + 1) t2 r
   | (some (e, a), t2) => (⟨e, n, a⟩, t2)
  | (e, t1) => (⟨e, n, 0⟩, t1)
def fromI (n : Nat) (r : List Dc) (x : Option (Nat × Int) × Tb) : Wrg × Tb := match x with
  | (none, t2) => docsF (n + 1) t2 r
  | (some (e, a), t2) => (⟨e, n, a⟩, t2)
theorem tnew_bad {w W' : World} {l : List Dc} {e : Nat} {f a : Int} {t : Tb} (h : newF l = (⟨e, f, a⟩, t)) (he : e ≠ 0) (hb : Below w.heap.size w W') : TNewOut w l (.returned (.tuple #[.pointer none, .agg #[.int .i64 e, .int .i64 f, .int .i64 a]])) W' := by
 refine ⟨hb, Or.inr ?_⟩
 rw [h]; exact ⟨he, rfl⟩
theorem docs_step {n : Nat} {t : Tb} {l : List Dc} (hn : n < l.length) : docsF n t (l.drop n) = fromD n (l.drop (n + 1)) (l[n]'hn) (headF t (l[n]'hn)) := by
 rw [List.drop_eq_getElem_cons hn]; rfl
theorem cost_step {n : Nat} {l : List Dc} (hn : n < l.length) : costD (l.drop n) = 4 * (l[n]'hn).items.length + 1 + costD (l.drop (n + 1)) := by
 rw [List.drop_eq_getElem_cons hn]; rfl
theorem items_step {m f : Nat} {t : Tb} {loc : Str} {l : List Itm} (hm : m < l.length) : itemsF loc f t (l.drop m) = match itemF t loc f (l[m]'hm) with
  | (0, t') => itemsF loc f t' (l.drop (m + 1))
  | (e, t') => (some (e, (l[m]'hm).at'), t') := by
 rw [List.drop_eq_getElem_cons hm]; rfl
theorem items_next {m f : Nat} {t t' : Tb} {loc : Str} {l : List Itm} (hm : m < l.length) (h : itemF t loc f (l[m]'hm) = (0, t')) : itemsF loc f t (l.drop m) = itemsF loc f t' (l.drop (m + 1)) := by
 rw [items_step hm, h]; rfl
theorem items_stop {m f e : Nat} {t t' : Tb} {loc : Str} {l : List Itm} (hm : m < l.length) (h : itemF t loc f (l[m]'hm) = (e, t')) (he : e ≠ 0) : itemsF loc f t (l.drop m) = (some (e, (l[m]'hm).at'), t') := by
 rw [items_step hm, h]
 cases e with
 | zero => exact absurd rfl he
 | succ e => rfl
end Go.Proofs.YtbbmdbolkicpcaaGreatDoor
namespace Go.Proofs.YtbbmdbolkicpcaaGreatDoor
open Go.RowKit Go.Lib Go.Sort Go.Maps Go.WideMaps
theorem named_plain (s : Str) : ((plainF s).2 || s == tRoot) = namedB s := by
 by_cases hn : namedB s = true
 ·by_cases hr : s = tRoot
  ·rw [hn, show (s == tRoot) = true by rw [hr]; rfl]; simp
  ·obtain ⟨p, hp, _⟩ := plain_ok hn hr
   rw [hn, hp]; rfl
 ·have hn2 : namedB s = false := by simpa using hn
  rw [plain_no (fun h => hn h.1), hn2, show (s == tRoot) = false by
   rw [beq_eq_false_iff_ne]; rintro rfl; exact hn named_root]; rfl
set_option maxRecDepth 100000 in
set_option maxHeartbeats 8000000 in
theorem tnew_any (w : World) (l : List Dc) (v : Value) (hd : RdD w v l) (hs : SzD l) :
  Calls Tryz.prog 26 #[v] w fun x w' => TNewOut w l x w' := by
 have HS := hid hs
 obtain ⟨ao, cp, rfl, hln, h63, hcell⟩ := hd.cells
 have HCELL := hid hcell
 clear hcell hs hd
 have hmm := @run_makeMap Tryz.prog
 have ST0 := hid (start_new w)
 go_enter Tryz.func26, Tryz.ntmps26
 go_wp2_with fail
 go_step3
 go_wp2_with fail
 go_step3
 clear hmm
 generalize (((((w.alloc (.cells #[.int .i64 0, .int .i64 0, .int .i64 0] 26)).alloc (.map #[] 0)).alloc (.map #[] 0)).alloc (.map #[] 0)).alloc (.map #[] 0)).alloc (.cells #[.map (some (w.heap.size + 1)), .map (some (w.heap.size + 1 + 1)), .map (some (w.heap.size + 1 + 1 + 1)), .map (some (w.heap.size + 1 + 1 + 1 + 1))] 93) = w1 at *
 generalize w.heap.size + 1 + 1 + 1 + 1 + 1 = Bt at *
 generalize w.heap.size + 1 + 1 + 1 + 1 = bp at *
 generalize w.heap.size + 1 + 1 + 1 = bn at *
 generalize w.heap.size + 1 + 1 = ba at *
 generalize w.heap.size + 1 = bv at *
 go_wp2_with fail
 go_loopg [20] l.length (fun g vi W => ∃ (n N : Nat) (V : List (Str × Nat)) (t : Tb), n ≤ l.length ∧ l.length ≤ n + g ∧ vi = .int .i64 n ∧ NwSt w W Bt bv ba bn bp N V t ∧ newF l = docsF n t (l.drop n) ∧ N + costD (l.drop n) + 8 < maxLen)
 case atStart => exact ⟨0, 0, [], Tb.zero, Nat.zero_le _, by omega, rfl, ST0.out, rfl, by have := HS.out.2; rw [List.drop_zero]; omega⟩
 case round =>
  obtain ⟨n, N, V, t, hn, hg, rfl, st, hrun, hcost⟩ := hrel
  rename World => w2
  obtain ⟨go, hgo⟩ : ∃ go, go = gk := ⟨_, rfl⟩
  have HG := hid (show l.length ≤ n + go by rw [hgo]; exact hg)
  have HGO := hid hgo
  clear hgo
  have ST2 := hid st
  have HRUN := hid hrun
  have HCO := hid hcost
  clear hg st hrun hcost ST0
  by_cases hlt : n < l.length
  ·have hni : (n : Int) < (l.length : Int) := by omega
   have hn0 : (0 : Int) ≤ (n : Int) := by omega
   obtain ⟨p, o, a, c, rfl, hp, q0, q1, q2, hits⟩ := HCELL.out n hlt
   have r0 := (ST2.out.bel.cell (p := ⟨p, o + n * 3, none⟩) hp).trans q0
   have r1 := (ST2.out.bel.cell (p := ⟨p, o + n * 3 + 1, none⟩) hp).trans q1
   have r2 := (ST2.out.bel.cell (p := ⟨p, o + n * 3 + 2, none⟩) hp).trans q2
   have HRUN2 := hid (HRUN.out.trans (docs_step hlt))
   have HCO2 := hid (show N + (4 * (l[n]'hlt).items.length + 1 + costD (l.drop (n + 1))) + 8 < maxLen by rw [← cost_step hlt]; exact HCO.out)
   have HSZ := hid (HS.out.1 _ (List.getElem_mem hlt))
   have HITS := hid hits
   clear q0 q1 q2 hits HRUN HCO HCELL
   generalize l[n]'hlt = d at *
   obtain ⟨loc, supp, its⟩ := d
   simp only at r0 r1 r2
   have hp2 : p < w2.heap.size := Nat.lt_of_lt_of_le hp ST2.out.bel.size
   go_upto_region 5 with fail
   have HB3 := hid (show Below w2.heap.size w2 (w2.alloc (.cells #[.string ⟨loc.toArray⟩, .bool supp, .slice a its.length c] 53)) from (Below.refl _ _).alloc (Nat.le_refl _) _)
   have F3 := hid (heap_alloc_new w2 (.cells #[.string ⟨loc.toArray⟩, .bool supp, .slice a its.length c] 53))
   generalize w2.alloc (.cells #[.string ⟨loc.toArray⟩, .bool supp, .slice a its.length c] 53) = w3 at *
   have ST3 := hid (ST2.out.below HB3.out)
   clear r0 r1 r2 hp2 ST2
   obtain ⟨d0, d1, d2, dl⟩ := box3_cells F3.out
   go_wp2_with fail
   refine (plain_any loc w3 HSZ.out.1).mono ?_
   rintro e w4 ⟨rfl, hb4⟩
   have F4 := hid ((hb4.block _ (lt_of_block F3.out)).trans F3.out)
   have ST4 := hid (ST3.out.below hb4)
   clear hb4 d0 d1 d2 dl F3 ST3
   generalize w2.heap.size = Db at *
   obtain ⟨d0, d1, d2, dl⟩ := box3_cells F4.out
   have HNM := hid (named_plain loc)
   generalize (plainF loc).1 = pl1 at *
   generalize (plainF loc).2 = P at *
   obtain ⟨nm, hnm⟩ : ∃ nm, nm = namedB loc := ⟨_, rfl⟩
   rw [← hnm] at HNM
   have HN := hid hnm
   clear hnm
   go_upto_region 6 with fail
   go_cut [8, 20] from 20 to 109 (fun v8 v20 wx => v8 = .bool nm ∧ v20 = .int .i64 n ∧ wx = w4)
   case first =>
    cases P with
    | true =>
     go_wp2_with fail
     go_meet
     exact ⟨by rw [← HNM.out]; rfl, rfl, rfl⟩
    | false =>
     have hub : (loc == [114, 111, 111, 116]) = nm := by rw [← HNM.out]; rfl
     go_wp2_with fail
     go_meet
     exact ⟨by first | rfl | rw [← hub] | simp [hub], rfl, rfl⟩
   case rest =>
    obtain ⟨rfl, rfl, rfl⟩ := hcut
    rename World => w4
    go_upto_block 2 with fail
    go_cut [20] from 20 to 109 (fun v20 wx => v20 = .int .i64 n ∧ ∃ t1, headF t ⟨loc, supp, its⟩ = (0, t1) ∧ NwSt w wx Bt bv ba bn bp (N + 1) V t1 ∧ wx.heap[Db]? = some (.cells #[.string ⟨loc.toArray⟩, .bool supp, .slice a its.length c] 53 (0, 0)))
    case first =>
     obtain ⟨z0, z1, z2, zl, zf0, zf1, zf2⟩ := ST4.out.wrong
     obtain ⟨t0, t1, t2, t3, tl⟩ := ST4.out.tb.box
     cases supp with
     | true =>
      by_cases hl : loc = []
      ·have hle : List.isEmpty loc = true := by rw [hl]; rfl
       have hle2 : (loc == []) = true := by rw [hl]; rfl
       have hle3 : (loc != []) = false := by rw [hl]; rfl
       have HH := hid (head_keep (t := t) (d := ⟨loc, true, its⟩) (by rintro (⟨_, h⟩ | ⟨h, _⟩); exact h hl; cases h) (Or.inl rfl))
       clear hl
       go_wp2_with fail
       first
        | go_quiet (fail)
        | fail "q10a"
       go_wp2_with fail
       go_meet
       exact ⟨rfl, t, HH.out, (ST4.out.below (below_drewN (Below.refl _ _) nq)).mono (Nat.le_succ _), F4.out⟩
      ·have hle : List.isEmpty loc = false := isEmpty_ne hl
       have hle2 : (loc == []) = false := by rw [beq_eq_false_iff_ne]; exact hl
       have hle3 : (loc != []) = true := by rw [bne_iff_ne]; exact hl
       have HH := hid (head_bad (t := t) (d := ⟨loc, true, its⟩) (Or.inl ⟨rfl, hl⟩))
       clear hl
       go_wp2_with fail
       refine tnew_ret (Pb := w.heap.size) (e := 2) (f := n) (a := 0) (P3_row _ _ _ ST4.out.f) rfl rfl rfl (tnew_bad (e := 2) (HRUN2.out.trans (by rw [HH.out]; rfl)) (by decide) (P3_below _ _ _ ST4.out.bel (Nat.le_refl _)))
     | false =>
      cases nm with
      | false =>
       have HH := hid (head_bad (t := t) (d := ⟨loc, false, its⟩) (Or.inr ⟨rfl, HN.out.symm⟩))
       go_wp2_with fail
       refine tnew_ret (Pb := w.heap.size) (e := 2) (f := n) (a := 0) (P3_row _ _ _ ST4.out.f) rfl rfl rfl (tnew_bad (e := 2) (HRUN2.out.trans (by rw [HH.out]; rfl)) (by decide) (P3_below _ _ _ ST4.out.bel (Nat.le_refl _)))
      | true =>
       have NB := hid (show ¬ (((⟨loc, false, its⟩ : Dc).supp = true ∧ loc ≠ []) ∨ ((⟨loc, false, its⟩ : Dc).supp = false ∧ namedB loc = false)) by rintro (⟨h, _⟩ | ⟨_, h⟩); exact absurd h (by simp); rw [← HN.out] at h; cases h)
       have LN : ∀ m ty, (Builtin.len_ #[61] ty #[.map (some bn)]).run Tryz.prog (w4.drewN m) = .ok (.int .i64 t.names.length) (w4.drewN m) := fun m ty => by
        have := (show OwnE elBo (w4.drewN m) bn N (setL t.names) from ST4.out.tb.at_.names.block rfl).len Tryz.underlying61 (by rw [setL_keys]; exact ST4.out.ok.names) ty
        rw [this]; simp [setL]
       by_cases hmp : loc ∈ t.names
       ·have LK : ∀ m, (Instr.lookup 61 (.map (some bn)) (.string ⟨loc.toArray⟩) false).run Tryz.prog (w4.drewN m) = .ok (.bool true) (w4.drewN m) := fun m => by
         have := (show OwnE elBo (w4.drewN m) bn N (setL t.names) from ST4.out.tb.at_.names.block rfl).look Tryz.underlying61 zeroBo loc HSZ.out.1
         rw [look_set, if_pos hmp] at this
         exact this
        have HH := hid (head_keep (t := t) (d := ⟨loc, false, its⟩) NB.out (Or.inr hmp))
        have HMP := hid (show lookE (setL t.names) loc = some true by rw [look_set, if_pos hmp])
        clear hmp
        go_wp2_with fail
        first
         | go_quiet (fail)
         | fail "q10b"
        go_wp2_with fail
        have HB7 := hid (show Below w4.heap.size w4 (w4.drewN nq) from below_drewN (Below.refl _ _) nq)
        clear LK LN z0 z1 z2 zl zf0 zf1 zf2 t0 t1 t2 t3 tl d0 d1 d2 dl
        generalize w4.drewN nq = w7 at *
        have F7 := hid ((HB7.out.block _ (lt_of_block F4.out)).trans F4.out)
        have ST7 := hid (ST4.out.below HB7.out)
        obtain ⟨d0, d1, d2, dl⟩ := box3_cells F7.out
        obtain ⟨t0, t1, t2, t3, tl⟩ := ST7.out.tb.box
        obtain ⟨w8, hrun, ho8, hg8⟩ := (show OwnE elBo w7.drew bn N (setL t.names) from ST7.out.tb.at_.names.block rfl).again (by have := HCO2.out; omega) Tryz.underlying61 loc true HSZ.out.1 HMP.out
        have hrun2 : (Instr.mapUpdate 61 (.map (some bn)) (.string ⟨loc.toArray⟩) (.bool true)).run Tryz.prog w7.drew = .ok () w8 := hrun
        have ST8 := hid ((show NwSt w w7.drew Bt bv ba bn bp N V t from ST7.out.below (Below.refl _ _).drew).turned (t' := { t with names := t.names }) (N' := N + 1) (V' := V) (W' := w8) ⟨(show TbAt w7.drew Bt bv ba bn bp N V t from (ST7.out.tb.below (Below.refl _ _).drew).at_).addName (by  exact ho8) hg8, ST7.out.tb.lo, ST7.out.tb.each⟩ (by have := head_tb ST7.out.ok ⟨loc, false, its⟩; rw [HH.out] at this; exact this) ((Below.refl _ _).grown hg8 (show w.heap.size.succ ≤ w7.heap.size from ST7.out.size) (fun k hk => by cases hk; exact ST7.out.tb.lo.2.2.2.1)))
        have F8 := hid (box_kept (show w7.drew.heap[Db]? = _ from F7.out) (show OwnE elBo w7.drew bn N (setL t.names) from ST7.out.tb.at_.names.block rfl) hg8)
        clear hrun ho8 hg8
        first
         | go_region
         | fail "r13"
        all_goals
         go_wp2_with fail
         go_meet
         exact ⟨rfl, _, HH.out, ST8.out, F8.out⟩
       ·have LK : ∀ m, (Instr.lookup 61 (.map (some bn)) (.string ⟨loc.toArray⟩) false).run Tryz.prog (w4.drewN m) = .ok (.bool false) (w4.drewN m) := fun m => by
         have := (show OwnE elBo (w4.drewN m) bn N (setL t.names) from ST4.out.tb.at_.names.block rfl).look Tryz.underlying61 zeroBo loc HSZ.out.1
         rw [look_set, if_neg hmp] at this
         exact this
        have HNN := hid (show ¬ ((⟨loc, false, its⟩ : Dc).supp = true ∨ loc ∈ t.names) by rintro (h | h); exact absurd h (by simp); exact hmp h)
        have HMP := hid (show lookE (setL t.names) loc = none by rw [look_set, if_neg hmp])
        clear hmp
        by_cases hful : t.names.length = 512
        ·have hfl : ((t.names.length : Int) == 512) = true := by rw [beq_iff_eq]; omega
         have HH := hid (head_full (t := t) (d := ⟨loc, false, its⟩) NB.out HNN.out hful)
         clear hful
         go_wp2_with fail
         first
          | go_quiet (fail)
          | fail "q10c"
         go_wp2_with fail
         refine tnew_ret (V := P3 (w4.drewN nq) w.heap.size _ _ _) (Pb := w.heap.size) (e := 3) (f := n) (a := 0) (P3_row (W := w4.drewN nq) _ _ _ ST4.out.f) rfl rfl rfl (tnew_bad (e := 3) (HRUN2.out.trans (by rw [HH.out]; rfl)) (by decide) (P3_below _ _ _ (below_drewN ST4.out.bel nq) (Nat.le_refl _)))
        ·have hfl : ((t.names.length : Int) == 512) = false := by rw [beq_eq_false_iff_ne]; omega
         have HH := hid (head_more (t := t) (d := ⟨loc, false, its⟩) NB.out HNN.out hful)
         clear hful
         go_wp2_with fail
         first
          | go_quiet (fail)
          | fail "q10d"
         go_wp2_with fail
         have HB7 := hid (show Below w4.heap.size w4 (w4.drewN nq) from below_drewN (Below.refl _ _) nq)
         clear LK LN z0 z1 z2 zl zf0 zf1 zf2 t0 t1 t2 t3 tl d0 d1 d2 dl
         generalize w4.drewN nq = w7 at *
         have F7 := hid ((HB7.out.block _ (lt_of_block F4.out)).trans F4.out)
         have ST7 := hid (ST4.out.below HB7.out)
         obtain ⟨d0, d1, d2, dl⟩ := box3_cells F7.out
         obtain ⟨t0, t1, t2, t3, tl⟩ := ST7.out.tb.box
         obtain ⟨w8, hrun, ho8, hg8⟩ := (show OwnE elBo w7.drew bn N (setL t.names) from ST7.out.tb.at_.names.block rfl).say (by have := HCO2.out; omega) Tryz.underlying61 loc true HSZ.out.1 HMP.out
         have hrun2 : (Instr.mapUpdate 61 (.map (some bn)) (.string ⟨loc.toArray⟩) (.bool true)).run Tryz.prog w7.drew = .ok () w8 := hrun
         have ST8 := hid ((show NwSt w w7.drew Bt bv ba bn bp N V t from ST7.out.below (Below.refl _ _).drew).turned (t' := { t with names := t.names ++ [loc] }) (N' := N + 1) (V' := V) (W' := w8) ⟨(show TbAt w7.drew Bt bv ba bn bp N V t from (ST7.out.tb.below (Below.refl _ _).drew).at_).addName (by rw [setL, List.map_append]; exact ho8) hg8, ST7.out.tb.lo, ST7.out.tb.each⟩ (by have := head_tb ST7.out.ok ⟨loc, false, its⟩; rw [HH.out] at this; exact this) ((Below.refl _ _).grown hg8 (show w.heap.size.succ ≤ w7.heap.size from ST7.out.size) (fun k hk => by cases hk; exact ST7.out.tb.lo.2.2.2.1)))
         have F8 := hid (box_kept (show w7.drew.heap[Db]? = _ from F7.out) (show OwnE elBo w7.drew bn N (setL t.names) from ST7.out.tb.at_.names.block rfl) hg8)
         clear hrun ho8 hg8
         first
          | go_region
          | fail "r13"
         all_goals
          go_wp2_with fail
          go_meet
          exact ⟨rfl, _, HH.out, ST8.out, F8.out⟩
    case rest =>
     obtain ⟨rfl, t1, hh, st5, f5⟩ := hcut
     rename World => w5
     have ST5 := hid st5
     have F5 := hid f5
     have HRUN3 := hid (HRUN2.out.trans (show _ = fromI n (l.drop (n + 1)) (itemsF loc n t1 its) by rw [hh]; rfl))
     clear hh st5 f5 ST4 F4 HRUN2 d0 d1 d2 dl HNM HN
     obtain ⟨d0, d1, d2, dl⟩ := box3_cells F5.out
     obtain ⟨_, hkc, hk63, hic⟩ := RdI.cells HITS.out
     have HIC := hid hic
     clear hic HITS
     go_wp2_with fail
     go_loopg [91] its.length (fun g vi W => ∃ (m N' : Nat) (V' : List (Str × Nat)) (t' : Tb), m ≤ its.length ∧ its.length ≤ m + g ∧ vi = .int .i64 m ∧ NwSt w W Bt bv ba bn bp N' V' t' ∧ W.heap[Db]? = some (.cells #[.string ⟨loc.toArray⟩, .bool supp, .slice a its.length c] 53 (0, 0)) ∧ itemsF loc n t1 its = itemsF loc n t' (its.drop m) ∧ N' + (4 * (its.length - m) + costD (l.drop (n + 1))) + 8 < maxLen)
     case atStart => exact ⟨0, N + 1, V, t1, Nat.zero_le _, by omega, rfl, ST5.out, F5.out, rfl, by have := HCO2.out; omega⟩
     case round =>
      obtain ⟨m, N', V', t', hm, hg, rfl, st, fd, hitr, hcost⟩ := hrel
      rename World => w6
      have HG2 := hid hg
      have ST6 := hid st
      have F6 := hid fd
      have HIT := hid hitr
      have HCO3 := hid hcost
      clear hg st fd hitr hcost ST5 F5 d0 d1 d2 dl
      obtain ⟨d0, d1, d2, dl⟩ := box3_cells F6.out
      by_cases hlt2 : m < its.length
      ·have hmi : (m : Int) < (its.length : Int) := by omega
       have hm0 : (0 : Int) ≤ (m : Int) := by omega
       obtain ⟨p2, o2, rfl, hp2, q0, q1, q2, q3, q4⟩ := HIC.out m hlt2
       have r0 := (ST6.out.bel.cell (p := ⟨p2, o2 + m * 5, none⟩) hp2).trans q0
       have r1 := (ST6.out.bel.cell (p := ⟨p2, o2 + m * 5 + 1, none⟩) hp2).trans q1
       have r2 := (ST6.out.bel.cell (p := ⟨p2, o2 + m * 5 + 2, none⟩) hp2).trans q2
       have r3 := (ST6.out.bel.cell (p := ⟨p2, o2 + m * 5 + 3, none⟩) hp2).trans q3
       have r4 := (ST6.out.bel.cell (p := ⟨p2, o2 + m * 5 + 4, none⟩) hp2).trans q4
       have hp3 : p2 < w6.heap.size := Nat.lt_of_lt_of_le hp2 ST6.out.bel.size
       have HPL := hid (HSZ.out.2 _ (List.getElem_mem hlt2))
       have HNX := hid (fun t'' (h : itemF t' loc n (its[m]'hlt2) = (0, t'')) => HIT.out.trans (items_next hlt2 h))
       have HSP := hid (fun e t'' (h : itemF t' loc n (its[m]'hlt2) = (e, t'')) (he : e ≠ 0) => HIT.out.trans (items_stop hlt2 h he))
       clear q0 q1 q2 q3 q4 HIT HIC
       generalize its[m]'hlt2 = x at *
       obtain ⟨xp, xv, xal, xd, xa⟩ := x
       simp only at r0 r1 r2 r3 r4
       go_upto_region 17 with fail
       have HB7 := hid (show Below w6.heap.size w6 (w6.alloc (.cells #[.string ⟨xp.toArray⟩, .string ⟨xv.toArray⟩, .bool xal, .string ⟨xd.toArray⟩, .int .i64 xa] 55)) from (Below.refl _ _).alloc (Nat.le_refl _) _)
       have I7 := hid (heap_alloc_new w6 (.cells #[.string ⟨xp.toArray⟩, .string ⟨xv.toArray⟩, .bool xal, .string ⟨xd.toArray⟩, .int .i64 xa] 55))
       generalize w6.alloc (.cells #[.string ⟨xp.toArray⟩, .string ⟨xv.toArray⟩, .bool xal, .string ⟨xd.toArray⟩, .int .i64 xa] 55) = w7 at *
       have ST7 := hid (ST6.out.below HB7.out)
       have F7 := hid ((HB7.out.block _ (lt_of_block F6.out)).trans F6.out)
       clear r0 r1 r2 r3 r4 hp3 ST6 F6 HB7 d0 d1 d2 dl
       obtain ⟨d0, d1, d2, dl⟩ := box3_cells F7.out
       obtain ⟨c0, c1, c2, c3, c4, cl⟩ := box5_cells I7.out
       generalize w6.heap.size = Ib at *
       go_wp2_with fail
       refine (item_any w.heap.size.succ w7 loc n ⟨xp, xv, xal, xd, xa⟩ ST7.out.tb ST7.out.ok ST7.out.size (by have := HCO3.out; omega) HSZ.out.1 HPL.out).mono ?_
       rintro e w8 ⟨rfl, hk, htb⟩
       have hok := item_ok ST7.out.ok loc n ⟨xp, xv, xal, xd, xa⟩
       obtain ⟨it, hit⟩ : ∃ it, it = itemF t' loc n ⟨xp, xv, xal, xd, xa⟩ := ⟨_, rfl⟩
       rw [← hit] at htb hok ⊢
       obtain ⟨er, t''⟩ := it
       simp only at htb hok ⊢
       have HTB := hid htb
       have HOK := hid hok
       have HIT2 := hid hit.symm
       have F8 := hid (hk.cells _ _ _ _ F7.out)
       have I8 := hid (hk.cells _ _ _ _ I7.out)
       have W8 := hid (hk.cells _ _ _ _ ST7.out.f)
       have B8 := hid (ST7.out.bel.trans (hk.bel.mono (Nat.le_succ _)))
       have HK8 := hid hk.bel
       clear htb hok hit hk d0 d1 d2 dl c0 c1 c2 c3 c4 cl
       by_cases her : er = 0
       ·subst her
        obtain ⟨V'', tb⟩ := HTB.out rfl
        have ST8 := hid (ST7.out.turned tb HOK.out HK8.out)
        have HN2 := hid (HNX.out t'' HIT2.out)
        clear tb HTB HNX HSP
        go_wp2_with fail
        go_roundg (gk - 1)
        case measure => have := HG2.out; omega
        case rel => exact ⟨m + 1, N' + 4, V'', t'', by omega, by have := HG2.out; omega, by simp, ST8.out, F8.out, HN2.out, by have := HCO3.out; omega⟩
       ·have hne : ((er : Int) != 0) = true := by rw [bne_iff_ne]; omega
        have HS2 := hid (HSP.out er t'' HIT2.out her)
        have HRES := hid (show newF l = (⟨er, n, xa⟩, t'') by rw [HRUN3.out, HS2.out]; rfl)
        have HER := hid her
        obtain ⟨c0, c1, c2, c3, c4, cl⟩ := box5_cells I8.out
        obtain ⟨z0, z1, z2, zl⟩ := box3_cells W8.out
        obtain ⟨zf0, zf1, zf2⟩ := box3_frozen W8.out
        clear her HTB HNX HSP HS2 HIT2 HOK HK8 F8 I8 ST7 F7 I7
        go_wp2_with fail
        first
         | go_region
         | fail "r19"
        all_goals
         go_wp2_with fail
         refine tnew_ret (V := P3 w8.drew w.heap.size _ _ _) (Pb := w.heap.size) (e := er) (f := n) (a := xa) (P3_row (W := w8.drew) _ _ _ W8.out) rfl rfl rfl (tnew_bad (e := er) HRES.out HER.out (P3_below _ _ _ B8.out.drew (Nat.le_refl _)))
      ·have hml : m = its.length := by omega
       have HR4 := hid (show newF l = docsF (n + 1) t' (l.drop (n + 1)) by rw [HRUN3.out, HIT.out, hml, List.drop_length]; rfl)
       clear d0 d1 d2 dl
       go_wp2_with fail
       go_roundg (go - 1)
       case measure => have := HG.out; have := HGO.out; omega
       case rel => exact ⟨n + 1, N', V', t', by omega, by have := HG.out; omega, by simp, ST6.out, HR4.out, by have := HCO3.out; omega⟩
  ·have hnl : n = l.length := by omega
   have HRES := hid (show newF l = (Wrg.ok, t) by rw [HRUN.out, hnl, List.drop_length]; rfl)
   obtain ⟨z0, z1, z2, zl, zf0, zf1, zf2⟩ := ST2.out.wrong
   clear HRUN HCO HCELL
   go_wp2_with fail
   exact tnew_ret (Pb := w.heap.size) (v := .pointer (some ⟨Bt, 0, none⟩)) (e := 0) (f := 0) (a := 0) (P3_row _ _ _ ST2.out.f) rfl rfl rfl (tnew_good HRES.out ST2.out)
end Go.Proofs.YtbbmdbolkicpcaaGreatDoor
namespace Go.Proofs.YtbbmdbolkicpcaaGreatDoor
open Go.RowKit Go.Lib Go.Sort Go.Maps Go.WideMaps Go.Shelf
theorem sortsA (m : Nat) : AnyZ.SortsIn Tryz.prog Tryz.sortedA_ren Fence.wide m :=
  ⟨fun blk off cap ss W hH hblk hsz => callsIn_wide.2 (AnyM.slices_Sort_string Tryz.sortA blk off cap ss W hH hblk hsz),
   fun p cap W => callsIn_wide.2 (AnyM.slices_Sort_string_none Tryz.sortA p cap W)⟩
def srtT (l : List Str) : List Str := l.mergeSort (fun x y => decide (x ≤ y))
theorem srtT_perm (l : List Str) : (srtT l).Perm l := List.mergeSort_perm _ _
theorem keysFN (mb : Option Nat) (W : World) : Calls Tryz.prog 43 #[.map mb] W fun e w' => e = .returned (.func (.func 81) #[] #[.pointer (some ⟨W.heap.size, 0, none⟩)]) ∧ w' = W.alloc (.cells #[.map mb] 61) := by
 have h := AnyZ.keys_in Tryz.keysA Fence.wide 5 trivial rfl mb W
 exact (callsIn_wide (n := 5)).1 h
set_option maxHeartbeats 1000000 in
theorem sortedN {w : World} {b n : Nat} {L : List (Str × Bool)} (h : OwnE elBo w b n L) (hn : (L.map (·.1)).Nodup) (hsz : L.length ≤ 1000000) :
  Calls Tryz.prog 42 #[.func (.func 81) #[] #[.pointer (some ⟨w.heap.size, 0, none⟩)]] (w.alloc (.cells #[.map (some b)] 61)) fun e w' =>
   ∃ v, e = .returned v ∧ OwnS w' (w.heap.size + 1) v (srtT (L.map (·.1))) ∧ Below (w.heap.size + 1) (w.alloc (.cells #[.map (some b)] 61)) w' := by
 obtain ⟨m, hown, hat⟩ := h
 have hp := OwnE.keys hown hat hn
 have hlen : Maps.size m = L.length := by
  obtain ⟨es, rfl, _⟩ := hown.keysOf
  have := hp.length_eq
  simp [strKeys] at this
  simp [Maps.size, this]
 have hbl := hown.lt
 have hseq : SeqGives Fence.wide 2 Tryz.prog 81 #[.pointer (some ⟨w.heap.size, 0, none⟩)] encStr (fun ss => ss.Perm (strKeys m)) (Maps.size m) (w.alloc (.cells #[.map (some b)] 61)) :=
  AnyZ.keys_gives (ρ := Tryz.keysA_ren) { Tryz.keysA with } Fence.wide _ trivial rfl (by omega) w.heap.size b n m _ (by simp) (by simp) (by
   obtain ⟨es, clock, hb, Ft, hs, hD⟩ := hown
   exact ⟨es, clock, (Below.heap_alloc _ _ b hbl).trans hb, Ft, hs, hD⟩)
 have cS := AnyZ.sorted_in Tryz.sortedA Fence.wide 5 trivial trivial trivial trivial rfl (by omega) (sortsA _) (enters_of Tryz.func80 (by kernel_rfl) rfl) 81 #[.pointer (some ⟨w.heap.size, 0, none⟩)] trivial (enters_of Tryz.func81 (by kernel_rfl) rfl) _ _ (by rw [hlen]; unfold maxLen; omega) (by rw [hlen]; omega) _ hseq
 change CallsIn _ _ Tryz.prog 42 _ _ _ at cS
 have hs : (w.alloc (.cells #[.map (some b)] 61)).heap.size = w.heap.size + 1 := by simp
 refine ((callsIn_wide (n := 5)).1 cS).mono ?_
 rintro e w' ⟨v, ss, rfl, hS, hrow, hnil, hb⟩
 rw [hs] at hrow hb
 refine ⟨v, rfl, ?_, hb⟩
 have hsrt : ss.mergeSort (fun x y => decide (x ≤ y)) = srtT (L.map (·.1)) := mergeSort_of_perm (hS.trans hp.symm)
 rw [hsrt] at hrow
 have hl2 : ss.length = (srtT (L.map (·.1))).length := by unfold srtT; rw [List.length_mergeSort]; exact (hS.trans hp.symm).length_eq
 exact own_cast hrow hl2.symm rfl
theorem keysFV (mb : Option Nat) (W : World) : Calls Tryz.prog 44 #[.map mb] W fun e w' => e = .returned (.func (.func 82) #[] #[.pointer (some ⟨W.heap.size, 0, none⟩)]) ∧ w' = W.alloc (.cells #[.map mb] 91) := by
 have h := AnyZ.keys_in Tryz.keysB Fence.wide 5 trivial rfl mb W
 exact (callsIn_wide (n := 5)).1 h
set_option maxHeartbeats 1000000 in
theorem sortedV {w : World} {b n : Nat} {L : List (Str × (Str × Int × Int))} (h : OwnE elSd w b n L) (hn : (L.map (·.1)).Nodup) (hsz : L.length ≤ 1000000) :
  Calls Tryz.prog 42 #[.func (.func 82) #[] #[.pointer (some ⟨w.heap.size, 0, none⟩)]] (w.alloc (.cells #[.map (some b)] 91)) fun e w' =>
   ∃ v, e = .returned v ∧ OwnS w' (w.heap.size + 1) v (srtT (L.map (·.1))) ∧ Below (w.heap.size + 1) (w.alloc (.cells #[.map (some b)] 91)) w' := by
 obtain ⟨m, hown, hat⟩ := h
 have hp := OwnE.keys hown hat hn
 have hlen : Maps.size m = L.length := by
  obtain ⟨es, rfl, _⟩ := hown.keysOf
  have := hp.length_eq
  simp [strKeys] at this
  simp [Maps.size, this]
 have hbl := hown.lt
 have hseq : SeqGives Fence.wide 2 Tryz.prog 82 #[.pointer (some ⟨w.heap.size, 0, none⟩)] encStr (fun ss => ss.Perm (strKeys m)) (Maps.size m) (w.alloc (.cells #[.map (some b)] 91)) :=
  AnyZ.keys_gives (ρ := Tryz.keysB_ren) { Tryz.keysB with } Fence.wide _ trivial rfl (by omega) w.heap.size b n m _ (by simp) (by simp) (by
   obtain ⟨es, clock, hb, Ft, hs, hD⟩ := hown
   exact ⟨es, clock, (Below.heap_alloc _ _ b hbl).trans hb, Ft, hs, hD⟩)
 have cS := AnyZ.sorted_in Tryz.sortedA Fence.wide 5 trivial trivial trivial trivial rfl (by omega) (sortsA _) (enters_of Tryz.func80 (by kernel_rfl) rfl) 82 #[.pointer (some ⟨w.heap.size, 0, none⟩)] trivial (enters_of Tryz.func82 (by kernel_rfl) rfl) _ _ (by rw [hlen]; unfold maxLen; omega) (by rw [hlen]; omega) _ hseq
 change CallsIn _ _ Tryz.prog 42 _ _ _ at cS
 have hs : (w.alloc (.cells #[.map (some b)] 91)).heap.size = w.heap.size + 1 := by simp
 refine ((callsIn_wide (n := 5)).1 cS).mono ?_
 rintro e w' ⟨v, ss, rfl, hS, hrow, hnil, hb⟩
 rw [hs] at hrow hb
 refine ⟨v, rfl, ?_, hb⟩
 have hsrt : ss.mergeSort (fun x y => decide (x ≤ y)) = srtT (L.map (·.1)) := mergeSort_of_perm (hS.trans hp.symm)
 rw [hsrt] at hrow
 have hl2 : ss.length = (srtT (L.map (·.1))).length := by unfold srtT; rw [List.length_mergeSort]; exact (hS.trans hp.symm).length_eq
 exact own_cast hrow hl2.symm rfl
set_option maxHeartbeats 1000000 in
theorem sortedV_nil {w : World} :
  Calls Tryz.prog 42 #[.func (.func 82) #[] #[.pointer (some ⟨w.heap.size, 0, none⟩)]] (w.alloc (.cells #[.map none] 91)) fun e w' =>
   ∃ v, e = .returned v ∧ OwnS w' (w.heap.size + 1) v [] ∧ Below (w.heap.size + 1) (w.alloc (.cells #[.map none] 91)) w' := by
 have hseq : SeqGives Fence.wide 2 Tryz.prog 82 #[.pointer (some ⟨w.heap.size, 0, none⟩)] encStr (fun ss : List (List UInt8) => ss = []) 0 (w.alloc (.cells #[.map none] 91)) :=
  AnyZ.keys_gives_nil (ρ := Tryz.keysB_ren) { Tryz.keysB with } Fence.wide _ trivial rfl w.heap.size _ (by simp) (cells_new w #[.map none] 91 0 (.map none) rfl)
 have cS := AnyZ.sorted_in Tryz.sortedA Fence.wide 5 trivial trivial trivial trivial rfl (by omega) (sortsA _) (enters_of Tryz.func80 (by kernel_rfl) rfl) 82 #[.pointer (some ⟨w.heap.size, 0, none⟩)] trivial (enters_of Tryz.func82 (by kernel_rfl) rfl) _ _ (by unfold maxLen; omega) (by omega) _ hseq
 change CallsIn _ _ Tryz.prog 42 _ _ _ at cS
 have hs : (w.alloc (.cells #[.map none] 91)).heap.size = w.heap.size + 1 := by simp
 refine ((callsIn_wide (n := 5)).1 cS).mono ?_
 rintro e w' ⟨v, ss, rfl, rfl, hrow, hnil, hb⟩
 rw [hs] at hrow hb
 exact ⟨v, rfl, own_cast hrow rfl (by simp), hb⟩
end Go.Proofs.YtbbmdbolkicpcaaGreatDoor
namespace Go.Proofs.YtbbmdbolkicpcaaGreatDoor
open Go.RowKit Go.Lib Go.Sort Go.Maps Go.WideMaps
def rText (r : Option Rw) : Str := (r.map (·.text)).getD []
def rFile (r : Option Rw) : Int := (r.map fun r => (r.file : Int)).getD 0
def rAt (r : Option Rw) : Int := (r.map (·.at')).getD 0
theorem look_nilMap (k : Str) (hk : k.length ≤ maxLen) (W : World) : (Instr.lookup 91 (.map none) (.string ⟨k.toArray⟩) true).run Tryz.prog W = .ok (.tuple #[.agg #[.string ⟨#[]⟩, .int .i64 0, .int .i64 0], .bool false]) W := by
 simpa using Maps.look_nil (w := W) true lawS Tryz.underlying91 (show (zeroValue 96).run Tryz.prog W = .ok (.agg #[.string ⟨#[]⟩, .int .i64 0, .int .i64 0]) W by kernel_rfl) (key_ofS hk)
def rVal (r : Option Rw) : Value := .agg #[.string ⟨(rText r).toArray⟩, .int .i64 (rFile r), .int .i64 (rAt r)]
theorem rVal_sd (l : Option Rw) : elSd.v ((l.map sdOf).getD ([], 0, 0)) = rVal l := by cases l <;> rfl
theorem find_ret {V : World} {Pb : Nat} {a b c : Value} {q : Bool} (hr : V.heap[Pb]? = some (.cells #[a, b, c] 96 (0, 0))) {Q : Ending → World → Prop} {act : Act} (hd : act.defers = [])
  (h6 : act.tmps.getD 6 undef = .pointer (some ⟨Pb, 0, none⟩)) (h7 : act.tmps.getD 7 undef = .bool q) (hQ : Q (.returned (.tuple #[.agg #[a, b, c], .bool q])) V) :
  bodyPost Tryz.prog Tryz.f45 Q Exit.ret act V := by
 obtain ⟨e0, e1, e2, _⟩ := box3_cells hr
 refine bodyPost_ret (v := .tuple #[.agg #[a, b, c], .bool q]) ?_ hd hQ
 obtain ⟨tmps, defers⟩ := act
 simp only [Array.getD_eq_getD_getElem?] at h6 h7
 simp [results, Tryz.results45, go_sem, h6, h7, e0, e1, e2]
section
variable {w : World} {B0 Bt bv ba bn bp N : Nat} {V : List (Str × Nat)} {t : Tb}
theorem find_any (h : TbIn B0 w Bt bv ba bn bp N V t) (loc path : Str) (hl : loc.length ≤ maxLen) (hp : path.length ≤ maxLen) :
  Calls Tryz.prog 45 #[.pointer (some ⟨Bt, 0, none⟩), .string ⟨loc.toArray⟩, .string ⟨path.toArray⟩] w fun e w' => e = .returned (.tuple #[rVal (findR t.rows loc path), .bool (findR t.rows loc path).isSome]) ∧ Below w.heap.size w w' := by
 have HB1 := hid (show Below w.heap.size w (w.alloc (.cells #[.string ⟨#[]⟩, .int .i64 0, .int .i64 0] 96)) from (Below.refl _ _).alloc (Nat.le_refl _) _)
 have F1 := hid (heap_alloc_new w (.cells #[.string ⟨#[]⟩, .int .i64 0, .int .i64 0] 96))
 have T1 := hid (h.below HB1.out)
 obtain ⟨o, ho⟩ : ∃ o, o = lookE V loc := ⟨_, rfl⟩
 have HO := hid ho
 obtain ⟨r, hr⟩ : ∃ r, r = findR t.rows loc path := ⟨_, rfl⟩
 have hrn : o = none → r = none := by
  intro e
  rw [hr, findR_none]
  rintro x hx ⟨h1, _⟩
  obtain ⟨q, hq, he⟩ := List.mem_map.1 (h.at_.has x hx)
  exact lookE_none.1 (ho.symm.trans e) q hq (he.trans h1)
 have HR := hid hr
 rw [← hr]
 clear ho hr h
 go_enter Tryz.func45, Tryz.ntmps45
 go_upto_region 1 with fail
 generalize w.alloc (.cells #[.string ⟨#[]⟩, .int .i64 0, .int .i64 0] 96) = w1 at *
 obtain ⟨t0, t1, t2, t3, tl⟩ := T1.out.box
 cases o with
 | none =>
  obtain rfl := hrn rfl
  have LN := look_nilMap path hp
  go_upto_region 4 with (at_lookup; refine wpList_lookE1 (E := elMp) T1.out.at_.vals Tryz.underlying90 zeroMap rfl _ _ rfl rfl loc rfl hl (.map none) (by rw [look_mp, ← HO.out]; rfl) ?_)
  have HB2 := hid (show Below w1.heap.size w1 (w1.alloc (.cells #[.string ⟨#[]⟩, .int .i64 0, .int .i64 0] 96)) from (Below.refl _ _).alloc (Nat.le_refl _) _)
  have F2 := hid (heap_alloc_new w1 (.cells #[.string ⟨#[]⟩, .int .i64 0, .int .i64 0] 96))
  generalize w1.alloc (.cells #[.string ⟨#[]⟩, .int .i64 0, .int .i64 0] 96) = w2 at *
  have G2 := hid ((HB2.out.block _ (lt_of_block F1.out)).trans F1.out)
  obtain ⟨x0, x1, x2, xl⟩ := box3_cells F2.out
  obtain ⟨y0, y1, y2, yl⟩ := box3_cells G2.out
  obtain ⟨z0, z1, z2⟩ := box3_frozen G2.out
  go_wp2_with fail
  exact find_ret (Pb := w.heap.size) (q := false) (P3_row _ _ _ G2.out) rfl rfl rfl ⟨rfl, P3_below _ _ _ (HB1.out.then HB2.out) (Nat.le_refl _)⟩
 | some bm =>
  have OM := hid (T1.out.at_.each _ (lookE_in HO.out.symm))
  have LKM := hid (show lookE (sdL (rowsOf t loc)) path = r.map sdOf by rw [look_rows, HR.out])
  obtain ⟨rt, hrt⟩ : ∃ x, x = rText r := ⟨_, rfl⟩
  obtain ⟨rf, hrf⟩ : ∃ x, x = rFile r := ⟨_, rfl⟩
  obtain ⟨ra, hra⟩ : ∃ x, x = rAt r := ⟨_, rfl⟩
  have HV := hid (show rVal r = .agg #[.string ⟨rt.toArray⟩, .int .i64 rf, .int .i64 ra] by rw [hrt, hrf, hra]; rfl)
  obtain ⟨q, hq⟩ : ∃ q, q = r.isSome := ⟨_, rfl⟩
  have HQ := hid hq
  clear hrt hrf hra hq
  go_upto_region 4 with first
   | (at_lookup; refine wpList_lookE1 (E := elMp) T1.out.at_.vals Tryz.underlying90 zeroMap rfl _ _ rfl rfl loc rfl hl (.map (some bm)) (by rw [look_mp, ← HO.out]; rfl) ?_)
   | (at_lookup; refine wpList_lookE (E := elSd) OM.out Tryz.underlying91 zeroSd rfl _ _ rfl rfl path rfl hp (.agg #[.string ⟨rt.toArray⟩, .int .i64 rf, .int .i64 ra]) q (by rw [LKM.out, rVal_sd, HV.out]) (by rw [LKM.out, Option.isSome_map, HQ.out]) ?_)
  have HB2 := hid (show Below w1.heap.size w1 (w1.alloc (.cells #[.string ⟨rt.toArray⟩, .int .i64 rf, .int .i64 ra] 96)) from (Below.refl _ _).alloc (Nat.le_refl _) _)
  have F2 := hid (heap_alloc_new w1 (.cells #[.string ⟨rt.toArray⟩, .int .i64 rf, .int .i64 ra] 96))
  generalize w1.alloc (.cells #[.string ⟨rt.toArray⟩, .int .i64 rf, .int .i64 ra] 96) = w2 at *
  have G2 := hid ((HB2.out.block _ (lt_of_block F1.out)).trans F1.out)
  obtain ⟨x0, x1, x2, xl⟩ := box3_cells F2.out
  obtain ⟨y0, y1, y2, yl⟩ := box3_cells G2.out
  obtain ⟨z0, z1, z2⟩ := box3_frozen G2.out
  go_wp2_with fail
  exact find_ret (Pb := w.heap.size) (q := q) (P3_row _ _ _ G2.out) rfl rfl rfl ⟨by rw [HV.out, HQ.out], P3_below _ _ _ (HB1.out.then HB2.out) (Nat.le_refl _)⟩
end
section
variable {w : World} {pt : Option Addr} {loc path : Str} {r : Option Rw}
theorem get_of (h : Calls Tryz.prog 45 #[.pointer pt, .string ⟨loc.toArray⟩, .string ⟨path.toArray⟩] w fun e w' => e = .returned (.tuple #[rVal r, .bool r.isSome]) ∧ Below w.heap.size w w') :
  Calls Tryz.prog 19 #[.pointer pt, .string ⟨loc.toArray⟩, .string ⟨path.toArray⟩] w fun e w' => e = .returned (.tuple #[.string ⟨(rText r).toArray⟩, .bool r.isSome]) ∧ Below w.heap.size w w' := by
 simp only [rVal] at h
 have H := hid h
 clear h
 generalize rText r = rt at *
 generalize rFile r = rf at *
 generalize rAt r = ra at *
 generalize r.isSome = q at *
 go_enter Tryz.func19, Tryz.ntmps19
 go_wp2_with fail
 refine H.out.mono ?_
 rintro e w1 ⟨rfl, hb⟩
 have HB := hid hb
 clear hb
 go_upto_region 2 with fail
 have HB2 := hid (show Below w1.heap.size w1 (w1.alloc (.cells #[.string ⟨rt.toArray⟩, .int .i64 rf, .int .i64 ra] 96)) from (Below.refl _ _).alloc (Nat.le_refl _) _)
 have F2 := hid (heap_alloc_new w1 (.cells #[.string ⟨rt.toArray⟩, .int .i64 rf, .int .i64 ra] 96))
 generalize w1.alloc (.cells #[.string ⟨rt.toArray⟩, .int .i64 rf, .int .i64 ra] 96) = w2 at *
 obtain ⟨x0, x1, x2, xl⟩ := box3_cells F2.out
 go_wp2_with fail
 exact bodyPost_ret (v := .tuple #[.string ⟨rt.toArray⟩, .bool q]) (by simp [results, Tryz.results19, go_sem]) rfl ⟨rfl, HB.out.then HB2.out⟩
end
section
variable {w : World} {B0 Bt bv ba bn bp N : Nat} {V : List (Str × Nat)} {t : Tb}
theorem get_any (h : TbIn B0 w Bt bv ba bn bp N V t) (loc path : Str) (hl : loc.length ≤ maxLen) (hp : path.length ≤ maxLen) :
  Calls Tryz.prog 19 #[.pointer (some ⟨Bt, 0, none⟩), .string ⟨loc.toArray⟩, .string ⟨path.toArray⟩] w fun e w' => e = .returned (.tuple #[.string ⟨(rText (findR t.rows loc path)).toArray⟩, .bool (findR t.rows loc path).isSome]) ∧ Below w.heap.size w w' := get_of (find_any h loc path hl hp)
end
end Go.Proofs.YtbbmdbolkicpcaaGreatDoor
