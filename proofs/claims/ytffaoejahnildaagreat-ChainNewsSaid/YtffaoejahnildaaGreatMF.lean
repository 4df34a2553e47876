/- Several texts in one: RchLoc, RchPlain, RchUp, RchFault. (joined by wip/merge.py) -/
import Derived.Test.YtffaoejahnildaaGreatRefParse
import Derived.Test.YtffaoejahnildaaGreatRefEq
import Derived.Test.YtffaoejahnildaaGreatME
import Derived.Test.YtffaoejahnildaaGreatMA
import Derived.Test.YtffaoejahnildaaGreatMB
import Derived.Test.YtffaoejahnildaaGreatMC
import Derived.Test.YtffaoejahnildaaGreatMD
import Derived.Deep.RegionHeld3

/- The contracts of the reference's Locale, Find, Has. -/
set_option linter.unusedVariables false
set_option linter.unusedSimpArgs false
namespace Go.Proofs.YtffaoejahnildaaGreat
open Go.RowKit Go.Lib Go.Sort

theorem named_ref2 (l : Str) : namedB l = ((parseF l).err == 0 && (nameOf (printB (parseF l).tag) == l)) := by
  unfold namedB
  by_cases h : (parseF l).err = 0
  · have hg := good_of l h
    rw [good_name _ hg, printB_bare _ hg]; rfl
  · rw [beq_eq_false_iff_ne.2 h]; rfl

set_option maxRecDepth 100000 in
set_option maxHeartbeats 8000000 in
theorem rlocale_any (s : Str) (w : World) (hs : s.length ≤ maxLen) : Calls Tryz.prog 20 #[.string ⟨s.toArray⟩] w fun e w' => e = .returned (.bool (namedB s)) ∧ Below w.heap.size w w' := by
  have RP := hid (fun W => rparse_any ⟨s.toArray⟩ W (by rw [Lib.size_eq]; exact hs))
  rw [ref_eq] at RP
  rw [show (⟨s.toArray⟩ : ByteArray).data.toList = s from rfl] at RP
  have his := named_ref2 s
  have hgood := good_of s
  generalize namedB s = is at *
  generalize hx : parseF s = x at *
  clear hx
  have HIS := hid his
  have HG := hid hgood
  clear his hgood
  go_enter Tryz.func20, Tryz.ntmps20
  go_wp2_with fail
  refine (RP.out _).mono ?_
  rintro e w1 ⟨vv, kv, rfl, ⟨r1, _⟩, r2, hb1⟩
  have HR1 := hid (show RdT w1 (.agg (tagCells x.tag vv kv)) x.tag from ⟨_, _, rfl, r1, r2⟩)
  obtain ⟨fv, hv, rfl, _, _⟩ := r1
  obtain ⟨fk, hk, rfl, _, _⟩ := r2
  simp only [tagCells, S] at HR1 ⊢
  have hb2 := below2 w1 (.cells #[.string ⟨x.tag.lang.toArray⟩, .string ⟨x.tag.script.toArray⟩, .string ⟨x.tag.region.toArray⟩, .slice fv x.tag.vars.length hv, .slice fk x.tag.keys.length hk] 53) (.cells #[.int .i64 (x.err : Int), .int .i64 (x.pos : Int)] 58)
  have HT2 := hid (heap_alloc2_old w1 (.cells #[.string ⟨x.tag.lang.toArray⟩, .string ⟨x.tag.script.toArray⟩, .string ⟨x.tag.region.toArray⟩, .slice fv x.tag.vars.length hv, .slice fk x.tag.keys.length hk] 53) (.cells #[.int .i64 (x.err : Int), .int .i64 (x.pos : Int)] 58))
  have HB2 := hid hb2
  have HW2 := hid (hb1.then hb2)
  clear hb1 hb2 RP
  by_cases he : x.err = 0
  · have hg := HG.out he
    have N1 := hid (fun W (hb : Below w1.heap.size w1 W) => rname_any W _ x.tag (HR1.out.below hb) (printB_len _ hg))
    have his2 : is = (nameOf (printB x.tag) == s) := by rw [HIS.out, he]; rfl
    generalize nameOf (printB x.tag) = nm at *
    have e0 : (x.err == 0) = true := by rw [he]; rfl
    have HIS2 := hid his2
    rw [he] at HT2 HB2 HW2 ⊢
    clear hg his2 HIS HG
    obtain ⟨c0, c1, c2, c3, c4⟩ := box_cells HT2.out
    have hst := lt_of_block HT2.out
    go_wp2_with fail
    refine (N1.out _ HB2.out).mono ?_
    rintro e w3 ⟨rfl, hb3⟩
    have HW3 := hid (HW2.out.then hb3)
    clear c0 c1 c2 c3 c4 hst hb3
    by_cases hn : nm = s
    · have hub : (nm == s) = true := by rw [hn]; simp
      have hi : is = true := by rw [HIS2.out]; exact hub
      clear HIS2 hn
      go_wp2_with fail
      go_ret
      exact ⟨by rw [hi]; rfl, HW3.out⟩
    · have hub : (nm == s) = false := by rw [beq_eq_false_iff_ne]; exact hn
      have hi : is = false := by rw [HIS2.out]; exact hub
      clear HIS2 hn
      go_wp2_with fail
      go_ret
      exact ⟨by rw [hi]; rfl, HW3.out⟩
  · have heb : (x.err != 0) = true := by rw [bne_iff_ne]; exact he
    have heb2 : (x.err == 0) = false := by rw [beq_eq_false_iff_ne]; exact he
    have heb3 : ((x.err : Int) == 0) = false := by rw [beq_eq_false_iff_ne]; omega
    have hi : is = false := by rw [HIS.out, heb2]; rfl
    clear HIS HG he
    go_wp2_with fail
    go_ret
    exact ⟨by rw [hi]; rfl, HW2.out⟩

/-- a place as the program tells it -/
def placeOf (o : Option Nat) : Int := match o with | some i => i | none => -1

set_option maxRecDepth 100000 in
set_option maxHeartbeats 8000000 in
theorem rfind11_any (w : World) (va : Value) (D : List (Str × Str)) (k : Str) (hl : RdP w va D) :
    Calls Tryz.prog 19 #[va, .string ⟨k.toArray⟩] w fun e w' => e = .returned (.int .i64 (placeOf (findAt D k))) ∧ Below w.heap.size w w' := by
  obtain ⟨ao, cp, rfl, hlen, hcell⟩ := hl
  have HC := hid hcell
  clear hcell
  go_enter Tryz.func19, Tryz.ntmps19
  go_wp2_with fail
  go_loopg [5] D.length (fun g vi W => ∃ n : Nat, n ≤ D.length ∧ D.length ≤ n + g ∧ vi = .int .i64 n ∧ (∀ j q, j < n → D[j]? = some q → q.1 ≠ k) ∧ W = w)
  case atStart => exact ⟨0, Nat.zero_le _, by omega, rfl, (fun j q hj => by omega), rfl⟩
  case round =>
    obtain ⟨n, hn, hg, rfl, hno, rfl⟩ := hrel
    have HG := hid hg
    have HNO := hid hno
    clear hg hno
    by_cases hlt : n < D.length
    · have hne : D ≠ [] := by intro e; rw [e] at hlt; simp at hlt
      obtain ⟨p1, o1, rfl, hp1, hc1⟩ := HC.out hne
      obtain ⟨kv, hkv⟩ : ∃ kv, kv = D[n]'hlt := ⟨_, rfl⟩
      obtain ⟨k2, v2⟩ := kv
      have HKV := hid (show D[n]? = some (k2, v2) by rw [List.getElem?_eq_getElem hlt, hkv])
      have q1 := hc1 n 0 (S k2) hlt (by rw [← hkv]; rfl)
      rw [S, Nat.add_zero] at q1
      have hni : (n : Int) < (D.length : Int) := by omega
      have hn0 : (0 : Int) ≤ (n : Int) := by omega
      clear hkv hc1 hne
      by_cases hk : k2 = k
      · have hub : (k2 == k) = true := by rw [hk]; simp
        have HF := hid (findAt_is HKV.out hk HNO.out)
        clear hk
        go_wp2_with fail
        go_ret
        exact ⟨by rw [HF.out]; rfl, Below.refl _ _⟩
      · have hub : (k2 == k) = false := by rw [beq_eq_false_iff_ne]; exact hk
        have HK := hid hk
        clear hk
        go_wp2_with fail
        go_roundg (gk - 1)
        case measure => have := HG.out; omega
        case rel => exact ⟨n + 1, by omega, by have := HG.out; omega, by simp, (fun j q hj hq => by
          by_cases he : j = n
          · subst he; rw [HKV.out] at hq; cases hq; exact HK.out
          · exact HNO.out j q (by omega) hq), rfl⟩
    · have HF := hid (findAt_no (l := D) (k := k) (fun j q hq => HNO.out j q (by have := (List.getElem?_eq_some_iff.1 hq).1; omega) hq))
      go_wp2_with fail
      go_ret
      exact ⟨by rw [HF.out]; rfl, Below.refl _ _⟩

set_option maxRecDepth 100000 in
set_option maxHeartbeats 8000000 in
theorem rhas11_any (w : World) (v : Value) (l : List Str) (s : Str) (h : RdS w v l) :
    Calls Tryz.prog 10 #[v, .string ⟨s.toArray⟩] w fun e w' => e = .returned (.bool (decide (s ∈ l))) ∧ Below w.heap.size w w' := by
  obtain ⟨ao, cp, rfl, hz, hr⟩ := h
  have HR := hid hr
  clear hr
  go_enter Tryz.func10, Tryz.ntmps10
  go_wp2_with fail
  go_loopg [5] l.length (fun g vi W => ∃ n : Nat, n ≤ l.length ∧ l.length ≤ n + g ∧ vi = .int .i64 n ∧ s ∉ l.take n ∧ W = w)
  case atStart => exact ⟨0, Nat.zero_le _, by omega, rfl, by simp, rfl⟩
  case round =>
    obtain ⟨n, hn, hg, rfl, hno, rfl⟩ := hrel
    have HG := hid hg
    have HNO := hid hno
    clear hg hno
    by_cases hlt : n < l.length
    · have hne : l ≠ [] := by intro e; rw [e] at hlt; simp at hlt
      obtain ⟨p1, o1, rfl, hp1, hc1⟩ := HR.out hne
      obtain ⟨x, hx⟩ : ∃ x, x = l[n]'hlt := ⟨_, rfl⟩
      have q1 := hc1 n x (by rw [List.getElem?_eq_getElem hlt, hx])
      rw [S] at q1
      have HX := hid hx
      have hni : (n : Int) < (l.length : Int) := by omega
      have hn0 : (0 : Int) ≤ (n : Int) := by omega
      clear hx hc1 hne
      by_cases he : x = s
      · have hub : (x == s) = true := by rw [he]; simp
        have HIN := hid (show decide (s ∈ l) = true by rw [← he, HX.out]; simp)
        clear he
        go_wp2_with fail
        go_ret
        exact ⟨by rw [HIN.out]; rfl, Below.refl _ _⟩
      · have hub : (x == s) = false := by rw [beq_eq_false_iff_ne]; exact he
        have HE := hid he
        clear he
        go_wp2_with fail
        go_roundg (gk - 1)
        case measure => have := HG.out; omega
        case rel => exact ⟨n + 1, by omega, by have := HG.out; omega, by simp, (fun hm => by
          rw [List.take_add_one, List.getElem?_eq_getElem hlt, ← HX.out] at hm
          rcases List.mem_append.1 hm with hm | hm
          · exact HNO.out hm
          · simp at hm; exact HE.out hm.symm), rfl⟩
    · have HIN := hid (show decide (s ∈ l) = false by have := HNO.out; rw [List.take_of_length_le (by omega)] at this; simp [this])
      go_wp2_with fail
      go_ret
      exact ⟨by rw [HIN.out]; rfl, Below.refl _ _⟩
end Go.Proofs.YtffaoejahnildaaGreat

/- The contract of the reference's Plain. (printed by wip/gen_rchplain.py) -/
set_option linter.unusedVariables false
set_option linter.unusedSimpArgs false
namespace Go.Proofs.YtffaoejahnildaaGreat
open Go.RowKit Go.Lib Go.Sort

set_option maxRecDepth 100000 in
set_option maxHeartbeats 16000000 in
theorem rplain_any (s : Str) (w : World) (hn : namedB s = true) (hr : s ≠ tRoot) :
    Calls Tryz.prog 13 #[.string ⟨s.toArray⟩] w fun e w' => e = .returned (.string ⟨(plainF s).1.toArray⟩) ∧ Below w.heap.size w w' := by
  have hs : s.length ≤ maxLen := Nat.le_trans (named_len hn) (by decide)
  have RP := hid (fun W => rparse_any ⟨s.toArray⟩ W (by rw [Lib.size_eq]; exact hs))
  rw [ref_eq] at RP
  rw [show (⟨s.toArray⟩ : ByteArray).data.toList = s from rfl] at RP
  obtain ⟨_, hg, hk, _⟩ := named_facts hn
  have hpl : plainF s = (nameOf (writeF (bareT (plainT (tagOf s)))), true) := by
    unfold plainF; rw [if_pos ⟨hn, hr⟩, good_name _ (good_plainT hg hk).1]; rfl
  rw [hpl]
  have htg : (parseF s).tag = tagOf s := rfl
  unfold RefOut at RP
  rw [htg] at RP
  generalize (parseF s).err = er at *
  generalize (parseF s).pos = ps at *
  clear hpl htg hn hr hs
  generalize tagOf s = t at *
  have hgp := (good_plainT hg hk).1
  have N1 : Hid (∀ W v, RdT W v (plainT t) → Calls Tryz.prog 26 #[v] W fun e w' => e = .returned (.string ⟨(nameOf (writeF (bareT (plainT t)))).toArray⟩) ∧ Below W.heap.size W w') := fun W v h => by
    have := rname_any W v (plainT t) h (printB_len _ hgp)
    rw [printB_bare _ hgp] at this
    exact this
  generalize nameOf (writeF (bareT (plainT t))) = nm at *
  clear hg hgp hk
  by_cases hv : t.vars = []
  · by_cases h2 : t.region = []
    · by_cases h3 : t.script = []
      · have hv0 : ¬ (0 : Int) < (t.vars.length : Int) := by rw [hv]; simp
        have p1 : (t.region == []) = true := by rw [h2]; rfl
        have p1' : (t.region != []) = false := by rw [h2]; rfl
        have p2 : (t.script == []) = true := by rw [h3]; rfl
        have p2' : (t.script != []) = false := by rw [h3]; rfl
        have HPT0 := hid (plainT_L hv h2 h3)
        clear hv h2 h3
        have HPT := HPT0
        clear HPT0
        go_enter Tryz.func13, Tryz.ntmps13
        go_wp2_with fail
        refine (RP.out _).mono ?_
        rintro e w1 ⟨vv, kv, rfl, ⟨hS, hcap⟩, hP, hb1⟩
        have HS := hid hS
        have HP := hid hP
        obtain ⟨av, cv, rfl, hav, _⟩ := hS
        obtain ⟨ak, ck, rfl, _, _⟩ := hP
        simp only [tagCells, S]
        have hcp : t.vars.length ≤ cv := hcap _ _ _ rfl
        have hcpi : (t.vars.length : Int) - 1 ≤ (cv : Int) := by omega
        clear hcap hcp
        have hx1 := heap_alloc2_old w1 (.cells #[.string ⟨t.lang.toArray⟩, .string ⟨t.script.toArray⟩, .string ⟨t.region.toArray⟩, .slice av t.vars.length cv, .slice ak t.keys.length ck] 53) (.cells #[.int .i64 (er : Int), .int .i64 (ps : Int)] 58)
        obtain ⟨c0, c1, c2, c3, c4⟩ := box_cells hx1
        have fz0 := frozen_of_row _ w1.heap.size 0 _ _ hx1
        have fz1 := frozen_of_row _ w1.heap.size 1 _ _ hx1
        have fz2 := frozen_of_row _ w1.heap.size 2 _ _ hx1
        have fz3 := frozen_of_row _ w1.heap.size 3 _ _ hx1
        have hsz := lt_of_block hx1
        have HB1 := hid hb1
        clear hb1 hx1
        go_wp2_with fail
        refine (N1.out _ _ ?_).mono ?_
        · have hal : ∀ o1 o2, Below w1.heap.size w1 ((w1.alloc o1).alloc o2) := fun o1 o2 => below2 w1 o1 o2
          rw [HPT.out]
          exact ⟨_, _, rfl, (HS.out).below (hal _ _), HP.out.below (hal _ _)⟩
        rintro e w3 ⟨rfl, hb3⟩
        have hw3 := HB1.out.then (Below.then (below2 w1 _ _) hb3)
        clear c0 c1 c2 c3 c4 fz0 fz1 fz2 fz3 hsz hb3
        go_wp2_with fail
        go_ret
        exact ⟨rfl, hw3⟩
      · have hv0 : ¬ (0 : Int) < (t.vars.length : Int) := by rw [hv]; simp
        have p1 : (t.region == []) = true := by rw [h2]; rfl
        have p1' : (t.region != []) = false := by rw [h2]; rfl
        have p2 : (t.script == []) = false := by rw [beq_eq_false_iff_ne]; exact h3
        have p2' : (t.script != []) = true := by rw [bne_iff_ne]; exact h3
        have HPT0 := hid (plainT_S hv h2 h3)
        clear hv h2 h3
        have HPT := HPT0
        clear HPT0
        go_enter Tryz.func13, Tryz.ntmps13
        go_wp2_with fail
        refine (RP.out _).mono ?_
        rintro e w1 ⟨vv, kv, rfl, ⟨hS, hcap⟩, hP, hb1⟩
        have HS := hid hS
        have HP := hid hP
        obtain ⟨av, cv, rfl, hav, _⟩ := hS
        obtain ⟨ak, ck, rfl, _, _⟩ := hP
        simp only [tagCells, S]
        have hcp : t.vars.length ≤ cv := hcap _ _ _ rfl
        have hcpi : (t.vars.length : Int) - 1 ≤ (cv : Int) := by omega
        clear hcap hcp
        have hx1 := heap_alloc2_old w1 (.cells #[.string ⟨t.lang.toArray⟩, .string ⟨t.script.toArray⟩, .string ⟨t.region.toArray⟩, .slice av t.vars.length cv, .slice ak t.keys.length ck] 53) (.cells #[.int .i64 (er : Int), .int .i64 (ps : Int)] 58)
        obtain ⟨c0, c1, c2, c3, c4⟩ := box_cells hx1
        have fz0 := frozen_of_row _ w1.heap.size 0 _ _ hx1
        have fz1 := frozen_of_row _ w1.heap.size 1 _ _ hx1
        have fz2 := frozen_of_row _ w1.heap.size 2 _ _ hx1
        have fz3 := frozen_of_row _ w1.heap.size 3 _ _ hx1
        have hsz := lt_of_block hx1
        have HB1 := hid hb1
        clear hb1 hx1
        go_wp2_with fail
        refine (N1.out _ _ ?_).mono ?_
        · have hal : ∀ o1 o2, Below w1.heap.size w1 ((w1.alloc o1).alloc o2) := fun o1 o2 => below2 w1 o1 o2
          rw [HPT.out]
          exact ⟨_, _, rfl, (HS.out).below (hal _ _), HP.out.below (hal _ _)⟩
        rintro e w3 ⟨rfl, hb3⟩
        have hw3 := HB1.out.then (Below.then (below2 w1 _ _) hb3)
        clear c0 c1 c2 c3 c4 fz0 fz1 fz2 fz3 hsz hb3
        go_wp2_with fail
        go_ret
        exact ⟨rfl, hw3⟩
    · have hv0 : ¬ (0 : Int) < (t.vars.length : Int) := by rw [hv]; simp
      have p1 : (t.region == []) = false := by rw [beq_eq_false_iff_ne]; exact h2
      have p1' : (t.region != []) = true := by rw [bne_iff_ne]; exact h2
      have HPT0 := hid (plainT_R hv h2)
      clear hv h2
      have HPT := HPT0
      clear HPT0
      go_enter Tryz.func13, Tryz.ntmps13
      go_wp2_with fail
      refine (RP.out _).mono ?_
      rintro e w1 ⟨vv, kv, rfl, ⟨hS, hcap⟩, hP, hb1⟩
      have HS := hid hS
      have HP := hid hP
      obtain ⟨av, cv, rfl, hav, _⟩ := hS
      obtain ⟨ak, ck, rfl, _, _⟩ := hP
      simp only [tagCells, S]
      have hcp : t.vars.length ≤ cv := hcap _ _ _ rfl
      have hcpi : (t.vars.length : Int) - 1 ≤ (cv : Int) := by omega
      clear hcap hcp
      have hx1 := heap_alloc2_old w1 (.cells #[.string ⟨t.lang.toArray⟩, .string ⟨t.script.toArray⟩, .string ⟨t.region.toArray⟩, .slice av t.vars.length cv, .slice ak t.keys.length ck] 53) (.cells #[.int .i64 (er : Int), .int .i64 (ps : Int)] 58)
      obtain ⟨c0, c1, c2, c3, c4⟩ := box_cells hx1
      have fz0 := frozen_of_row _ w1.heap.size 0 _ _ hx1
      have fz1 := frozen_of_row _ w1.heap.size 1 _ _ hx1
      have fz2 := frozen_of_row _ w1.heap.size 2 _ _ hx1
      have fz3 := frozen_of_row _ w1.heap.size 3 _ _ hx1
      have hsz := lt_of_block hx1
      have HB1 := hid hb1
      clear hb1 hx1
      go_wp2_with fail
      refine (N1.out _ _ ?_).mono ?_
      · have hal : ∀ o1 o2, Below w1.heap.size w1 ((w1.alloc o1).alloc o2) := fun o1 o2 => below2 w1 o1 o2
        rw [HPT.out]
        exact ⟨_, _, rfl, (HS.out).below (hal _ _), HP.out.below (hal _ _)⟩
      rintro e w3 ⟨rfl, hb3⟩
      have hw3 := HB1.out.then (Below.then (below2 w1 _ _) hb3)
      clear c0 c1 c2 c3 c4 fz0 fz1 fz2 fz3 hsz hb3
      go_wp2_with fail
      go_ret
      exact ⟨rfl, hw3⟩
  · have hv0 : (0 : Int) < (t.vars.length : Int) := by have := List.length_pos_iff.2 hv; omega
    have HPT0 := hid (plainT_V hv)
    clear hv
    have HPT := HPT0
    clear HPT0
    go_enter Tryz.func13, Tryz.ntmps13
    go_wp2_with fail
    refine (RP.out _).mono ?_
    rintro e w1 ⟨vv, kv, rfl, ⟨hS, hcap⟩, hP, hb1⟩
    have HS := hid hS
    have HP := hid hP
    obtain ⟨av, cv, rfl, hav, _⟩ := hS
    obtain ⟨ak, ck, rfl, _, _⟩ := hP
    simp only [tagCells, S]
    have hcp : t.vars.length ≤ cv := hcap _ _ _ rfl
    have hcpi : (t.vars.length : Int) - 1 ≤ (cv : Int) := by omega
    have hcp0 : (0 : Int) ≤ (t.vars.length : Int) - 1 := by omega
    have hcpn : ((t.vars.length : Int) - 1).toNat = t.vars.length - 1 := by omega
    clear hcap hcp
    have hx1 := heap_alloc2_old w1 (.cells #[.string ⟨t.lang.toArray⟩, .string ⟨t.script.toArray⟩, .string ⟨t.region.toArray⟩, .slice av t.vars.length cv, .slice ak t.keys.length ck] 53) (.cells #[.int .i64 (er : Int), .int .i64 (ps : Int)] 58)
    obtain ⟨c0, c1, c2, c3, c4⟩ := box_cells hx1
    have fz0 := frozen_of_row _ w1.heap.size 0 _ _ hx1
    have fz1 := frozen_of_row _ w1.heap.size 1 _ _ hx1
    have fz2 := frozen_of_row _ w1.heap.size 2 _ _ hx1
    have fz3 := frozen_of_row _ w1.heap.size 3 _ _ hx1
    have hsz := lt_of_block hx1
    have HB1 := hid hb1
    clear hb1 hx1
    go_wp2_with fail
    refine (N1.out _ _ ?_).mono ?_
    · have hal : ∀ o1 o2, Below w1.heap.size w1 ((w1.alloc o1).alloc o2) := fun o1 o2 => below2 w1 o1 o2
      rw [HPT.out]
      exact ⟨_, _, rfl, (rdS_take HS.out (t.vars.length - 1) (by omega)).below (hal _ _), HP.out.below (hal _ _)⟩
    rintro e w3 ⟨rfl, hb3⟩
    have hw3 := HB1.out.then (Below.then (below2 w1 _ _) hb3)
    clear c0 c1 c2 c3 c4 fz0 fz1 fz2 fz3 hsz hb3
    go_wp2_with fail
    go_ret
    exact ⟨rfl, hw3⟩
end Go.Proofs.YtffaoejahnildaaGreat

/- The contracts of the reference's Parent and Chain. -/
set_option linter.unusedVariables false
set_option linter.unusedSimpArgs false
namespace Go.Proofs.YtffaoejahnildaaGreat
open Go.RowKit Go.Lib Go.Sort

set_option maxRecDepth 100000 in
set_option maxHeartbeats 8000000 in
theorem rparent_any (w : World) (va : Value) (D : List (Str × Str)) (s : Str) (hl : RdP w va D) (hn : namedB s = true) (hr : s ≠ tRoot) :
    Calls Tryz.prog 21 #[va, .string ⟨s.toArray⟩] w fun e w' => e = .returned (.string ⟨(parentF D s).1.toArray⟩) ∧ Below w.heap.size w w' := by
  have FI := hid (rfind11_any w va D s hl)
  have PL := hid (fun W => rplain_any s W hn hr)
  have HL := hid hl
  obtain ⟨ao, cp, rfl, hlen, hcell⟩ := hl
  have HC := hid hcell
  clear hcell hn hr
  cases hf : findAt D s with
  | some i =>
    obtain ⟨p, h1, h2, h3, h4, _⟩ := findAt_some hf
    have hpf : (parentF D s).1 = p.2 := by unfold parentF; rw [h4]
    rw [hpf]
    rw [hf] at FI
    simp only [placeOf] at FI
    have hne : D ≠ [] := by intro e; rw [e] at h3; simp at h3
    obtain ⟨p1, o1, rfl, hp1, hc1⟩ := HC.out hne
    have HQ := hid (fun W (hb : Below w.heap.size w W) => show World.cell? W ⟨p1, o1 + i * 2 + 1, none⟩ = some (S p.2) from (hb.cell (p := ⟨p1, o1 + i * 2 + 1, none⟩) hp1).trans (hc1 i 1 (S p.2) h3 (by
      have : D[i]'h3 = p := by have := h1; rw [List.getElem?_eq_getElem h3] at this; exact Option.some.inj this
      rw [this]; rfl)))
    have hi1 : (i : Int) < (D.length : Int) := by omega
    have hi0 : (0 : Int) ≤ (i : Int) := by omega
    obtain ⟨y, hy⟩ : ∃ y, y = p.2 := ⟨_, rfl⟩
    rw [← hy] at HQ ⊢
    clear hf h1 h2 h3 h4 hpf hne hc1 hy
    go_enter Tryz.func21, Tryz.ntmps21
    go_wp2_with fail
    refine FI.out.mono ?_
    rintro e w1 ⟨rfl, hb1⟩
    have HB1 := hid hb1
    have q1 := HQ.out w1 hb1
    rw [S] at q1
    clear hb1 FI
    go_wp2_with fail
    go_ret
    exact ⟨rfl, HB1.out⟩
  | none =>
    have hlk := findAt_none.1 hf
    have hpf : (parentF D s).1 = (plainF s).1 := by unfold parentF; rw [hlk]
    rw [hpf]
    rw [hf] at FI
    simp only [placeOf] at FI
    generalize (plainF s).1 = y at *
    clear hf hlk hpf
    go_enter Tryz.func21, Tryz.ntmps21
    go_wp2_with fail
    refine FI.out.mono ?_
    rintro e w1 ⟨rfl, hb1⟩
    have HB1 := hid hb1
    clear hb1 FI
    go_wp2_with fail
    refine (PL.out _).mono ?_
    rintro e w2 ⟨rfl, hb2⟩
    go_wp2_with fail
    go_ret
    exact ⟨rfl, HB1.out.then hb2⟩

set_option maxRecDepth 100000 in
set_option maxHeartbeats 16000000 in
theorem rchain_any (w : World) (va : Value) (D : List (Str × Str)) (s : Str) (l : List Str) (h : RdP w va D) (hD : saidOK D) (hl : ChainIs D s l) (hs : s.length ≤ maxLen) (hsz : D.length ≤ 10000000000) :
    Calls Tryz.prog 9 #[va, .string ⟨s.toArray⟩] w fun e w' => ChainOut w l e w' := by
  have PA := hid (fun W (hb : Below w.heap.size w W) (a : Str) (ha : namedB a = true) (hr : a ≠ tRoot) => rparent_any W va D a (h.below hb) ha hr)
  have LO := hid (fun W => rlocale_any s W hs)
  obtain ⟨ao, cp, rfl, _, _⟩ := h
  rcases hl with ⟨hn, hu⟩ | ⟨hn, rfl⟩
  · rw [hn] at LO
    have hlen := up_len hD hn hu
    have HU := hid hu
    have HLEN := hid (show l.length ≤ 200000000000 by omega)
    have HNA := hid (up_named hD hn hu)
    have hl0 : 0 < l.length := List.length_pos_iff.2 (up_ne hu)
    have hh : l.take 1 = [s] := by obtain ⟨r, rfl⟩ := up_head hu; simp
    have hg : ∀ hj : 0 < l.length, l[0]'hj = s := by obtain ⟨r, rfl⟩ := up_head hu; intro _; rfl
    have HL0 := hid hl0
    have HH := hid hh
    have HG0 := hid hg
    clear hu hlen hD hsz hl0 hh hg hn
    go_enter Tryz.func9, Tryz.ntmps9
    go_wp2_with fail
    refine (LO.out _).mono ?_
    rintro e w2 ⟨rfl, hb1⟩
    have HB2 := hid hb1
    clear hb1
    have ho := fresh_own w2 [s] w.heap.size HB2.out.size (by simp)
    have HOW := hid ho
    have HB3 := hid (HB2.out.then (show Below w2.heap.size w2 (w2.alloc (.cells #[.string ⟨s.toArray⟩] 9)) from (Below.refl _ _).alloc (Nat.le_refl _) _))
    clear ho
    go_wp2_with fail
    go_loopg [1, 5] l.length (fun g va vl W => ∃ (j : Nat) (hj : j < l.length), va = .string ⟨l[j].toArray⟩ ∧ OwnS W w.heap.size vl (l.take (j + 1)) ∧ l.length ≤ j + 1 + g ∧ Below w.heap.size w W)
    case atStart => exact ⟨0, HL0.out, by rw [HG0.out HL0.out], by rw [HH.out]; simpa [S] using HOW.out, by omega, HB3.out⟩
    case round =>
      obtain ⟨j, hj, rfl, own, hg, hb⟩ := hrel
      rename World => w4
      have HOJ := hid own
      have HGJ := hid hg
      have HBJ := hid hb
      obtain ⟨a, ha⟩ : ∃ a, a = l[j]'hj := ⟨_, rfl⟩
      have HAN := hid (show namedB a = true by rw [ha]; exact HNA.out _ (List.getElem_mem hj))
      have HEND := hid (show a = tRoot → j + 1 = l.length from fun h => up_end HU.out j hj (by rw [← ha]; exact h))
      have HNXT := hid (show a ≠ tRoot → ∃ hj' : j + 1 < l.length, stepF D a = some (l[j + 1]'hj') from fun h => by rw [ha]; exact up_next HU.out j hj (by rw [← ha]; exact h))
      clear own hg hb HOW HB3 HB2
      rw [← ha]
      clear ha hj
      by_cases hr : a = tRoot
      · have hub : (a == [114, 111, 111, 116]) = true := by rw [hr]; rfl
        have hub2 : (a != [114, 111, 111, 116]) = false := by rw [hr]; rfl
        have hjl := HEND.out hr
        have hown := HOJ.out
        rw [List.take_of_length_le (by omega)] at hown
        have HOWN := hid hown
        clear hr hjl hown
        go_wp2_with fail
        go_ret
        exact ⟨_, rfl, HOWN.out, HBJ.out⟩
      · have hub : (a == [114, 111, 111, 116]) = false := by rw [beq_eq_false_iff_ne]; exact hr
        have hub2 : (a != [114, 111, 111, 116]) = true := by rw [bne_iff_ne]; exact hr
        obtain ⟨hj2, hst⟩ := HNXT.out hr
        have hpa := step_parent hst
        have HAR := hid hr
        have htk : l.take (j + 1) ++ [l[j + 1]'hj2] = l.take (j + 1 + 1) := by rw [List.take_add_one (i := j + 1), List.getElem?_eq_getElem hj2]; rfl
        have HTK := hid htk
        obtain ⟨y, hy⟩ : ∃ y, y = l[j + 1]'hj2 := ⟨_, rfl⟩
        have HJ2 := hid hj2
        have HY := hid (show ∀ h : j + 1 < l.length, y = l[j + 1]'h from fun _ => hy)
        rw [← hy] at hpa HTK
        have HPA := hid hpa
        clear hr hst hpa htk hy hj2
        go_wp2_with fail
        refine (PA.out _ HBJ.out a HAN.out HAR.out).mono ?_
        rintro e w5 ⟨rfl, hb5⟩
        rw [HPA.out]
        simp only
        have HO5 := hid (own_below HOJ.out hb5)
        have HB5 := hid (HBJ.out.then hb5)
        have hll : (l.take (j + 1)).length ≤ 1000000000000 := by rw [List.length_take]; have := HLEN.out; omega
        have HLL := hid hll
        clear hb5 hll
        go_wp2_with (at_builtin; refine wpList_pushL rfl (.tmp 16) (.tmp 18) rfl w.heap.size _ _ y rfl HO5.out rfl HLL.out HB5.out.size ?_; intro v6 w6 own6 gr6 mv6)
        have HO6 := hid own6
        have HB6 := hid (HB5.out.grown gr6 HB5.out.size (fun j hj => (World.ownsRow.lt HO5.out _ hj).1))
        clear own6 gr6 mv6
        go_wp2_with fail
        go_roundg (gk - 1)
        case measure => have := HGJ.out; have := HJ2.out; omega
        case rel => exact ⟨j + 1, HJ2.out, by rw [HY.out HJ2.out], by rw [← HTK.out]; exact HO6.out, by have := HGJ.out; have := HJ2.out; omega, HB6.out⟩
  · rw [hn] at LO
    go_enter Tryz.func9, Tryz.ntmps9
    go_wp2_with fail
    refine (LO.out _).mono ?_
    rintro e w1 ⟨rfl, hb1⟩
    go_wp2_with fail
    go_ret
    exact ⟨_, rfl, World.ownsRow_nil _ _ _ _, hb1⟩
end Go.Proofs.YtffaoejahnildaaGreat

/- The contract of the reference's Fault. -/
set_option linter.unusedVariables false
set_option linter.unusedSimpArgs false
namespace Go.Proofs.YtffaoejahnildaaGreat
open Go.RowKit Go.Lib Go.Sort Go.Maps

/-- what Fault hands back -/
def RfRes (w : World) (l : List (Str × Str)) (e : Ending) (w' : World) : Prop := ∃ er i : Nat, e = .returned (.agg #[.int .i64 er, .int .i64 i]) ∧ NewOut l er i ∧ Below w.heap.size w w'
theorem rf_ret {w W : World} {l : List (Str × Str)} (er i : Nat) (hf : W.heap[w.heap.size]? = some (.cells #[.int .i64 0, .int .i64 0] 26 (0, 0))) (hb : Below w.heap.size w W) (ho : NewOut l er i)
    {a : Act} (hd : a.defers = []) (h2 : a.tmps.getD 2 undef = .pointer (some ⟨w.heap.size, 0, none⟩)) :
    bodyPost Tryz.prog Tryz.f7 (fun e w' => RfRes w l e w') Exit.ret a (F2 W w.heap.size er i) := by
  have hr := F2_row er i hf
  have hbb := F2_below er i hb
  generalize F2 W w.heap.size er i = V at *
  have e0 : V.cell? ⟨w.heap.size, 0, none⟩ = some (.int .i64 er) := by rw [cell_of_row _ _ _ _ _ _ hr]; rfl
  have e1 : V.cell? ⟨w.heap.size, 1, none⟩ = some (.int .i64 i) := by rw [cell_of_row _ _ _ _ _ _ hr]; rfl
  refine bodyPost_ret (v := .agg #[.int .i64 er, .int .i64 i]) ?_ hd ⟨er, i, rfl, ho, hbb⟩
  obtain ⟨tmps, defers⟩ := a
  simp only [Array.getD_eq_getD_getElem?] at h2
  simp [results, Tryz.results7, go_sem, h2, e0, e1]
theorem rdP_take {w : World} {ao : Option Addr} {cp cq : Nat} {D : List (Str × Str)} (h : RdP w (.slice ao D.length cp) D) (k : Nat) (hk : k ≤ D.length) (hq : ao = none → cq = 0) : RdP w (.slice ao k cq) (D.take k) := by
  obtain ⟨ao', cp', hv, hl, hr⟩ := h
  cases hv
  have hlen : (D.take k).length = k := by rw [List.length_take]; omega
  refine ⟨ao, cq, by rw [hlen], ⟨by rw [hlen]; omega, fun e => ⟨by rw [(hl.2 e).1]; simp, hq e⟩⟩, fun hne => ?_⟩
  have hne2 : D ≠ [] := fun e => hne (by rw [e]; simp)
  obtain ⟨b, off, h1, h2, h3⟩ := hr hne2
  refine ⟨b, off, h1, h2, fun j i x hj hx => h3 j i x (by omega) ?_⟩
  rw [List.getElem_take] at hx
  exact hx

/-- the state of Fault's first loop -/
structure RfSt (w : World) (D : List (Str × Str)) (W : World) (n : Nat) : Prop where
  bad : badAt [] D = badAt (D.take n) (D.drop n)
  f : W.heap[w.heap.size]? = some (.cells #[.int .i64 0, .int .i64 0] 26 (0, 0))
  bel : Below w.heap.size w W
theorem RfSt.below {w W W' : World} {D : List (Str × Str)} {n : Nat} (h : RfSt w D W n) (hb : Below W.heap.size W W') : RfSt w D W' n :=
  ⟨h.bad, (hb.block _ (lt_of_block h.f)).trans h.f, h.bel.then hb⟩
theorem RfSt.step {w W : World} {D : List (Str × Str)} {n : Nat} (h : RfSt w D W n) (hn : n < D.length) (h1 : (namedB D[n].1 = true ∧ namedB D[n].2 = true) ∧ D[n].1 ≠ tRoot) (h2 : look (D.take n) D[n].1 = none) : RfSt w D W (n + 1) :=
  ⟨by rw [h.bad, bad_step hn, if_pos h1, if_pos h2], h.f, h.bel⟩

set_option maxRecDepth 100000 in
set_option maxHeartbeats 16000000 in
theorem rfault_any (w : World) (ao : Option Addr) (cp : Nat) (D : List (Str × Str)) (hl : RdP w (.slice ao D.length cp) D) (hcap : D.length ≤ cp) (hp : PSz D) (hsz : D.length ≤ 60) :
    Calls Tryz.prog 7 #[.slice ao D.length cp] w fun e w' => RfRes w D e w' := by
  have HL := hid hl
  obtain ⟨ao', cp', hv, hlen, hcell⟩ := hl
  cases hv
  have HC := hid hcell
  have HP := hid hp
  have LO := hid (fun W (s : Str) (hs : s.length ≤ maxLen) => rlocale_any s W hs)
  have PA := hid (fun W (hb : Below w.heap.size w W) (a : Str) (ha : namedB a = true) (hr : a ≠ tRoot) => rparent_any W _ D a (HL.out.below hb) ha hr)
  have FI := hid (fun W (hb : Below w.heap.size w W) (k : Nat) (hk : k ≤ D.length) (x : Str) (q : Nat) (hq : ao = none → q = 0) => rfind11_any W (.slice ao k q) (D.take k) x (rdP_take (HL.out.below hb) k hk hq))
  have ST0 := hid (show RfSt w D (w.alloc (.cells #[.int .i64 0, .int .i64 0] 26)) 0 from ⟨by simp, heap_alloc_new w _, (Below.refl _ _).alloc (Nat.le_refl _) _⟩)
  clear hcell hp
  go_enter Tryz.func7, Tryz.ntmps7
  go_wp2_with fail
  go_loopg [3] D.length (fun g vi W => ∃ n : Nat, n ≤ D.length ∧ D.length ≤ n + g ∧ vi = .int .i64 n ∧ RfSt w D W n)
  case atStart => exact ⟨0, Nat.zero_le _, by omega, rfl, ST0.out⟩
  case round =>
    obtain ⟨n, hn, hg, rfl, st⟩ := hrel
    rename World => w1
    have HG := hid hg
    have ST1 := hid st
    clear st ST0 hg
    by_cases hlt : n < D.length
    · have hne : D ≠ [] := by intro e; rw [e] at hlt; simp at hlt
      obtain ⟨p1, o1, rfl, hp1, hc1⟩ := HC.out hne
      have hps := HP.out _ (List.getElem_mem hlt)
      obtain ⟨kv, hkv⟩ : ∃ kv, kv = D[n]'hlt := ⟨_, rfl⟩
      obtain ⟨k, v⟩ := kv
      have hk : (D[n]'hlt).1 = k := by rw [← hkv]
      have hv : (D[n]'hlt).2 = v := by rw [← hkv]
      have HQ := hid (fun W (hb : Below w.heap.size w W) => show World.cell? W ⟨p1, o1 + n * 2, none⟩ = some (S k) ∧ World.cell? W ⟨p1, o1 + n * 2 + 1, none⟩ = some (S v) from
        ⟨(hb.cell (p := ⟨p1, o1 + n * 2, none⟩) hp1).trans (by have := hc1 n 0 (S k) hlt (by rw [← hkv]; rfl); rw [Nat.add_zero] at this; exact this), (hb.cell (p := ⟨p1, o1 + n * 2 + 1, none⟩) hp1).trans (hc1 n 1 (S v) hlt (by rw [← hkv]; rfl))⟩)
      have hkl : k.length ≤ maxLen := by rw [← hk]; exact hps.1
      have hvl : v.length ≤ maxLen := by rw [← hv]; exact hps.2
      have HK := hid hk
      have HV := hid hv
      have hni : (n : Int) < (D.length : Int) := by omega
      have hn0 : (0 : Int) ≤ (n : Int) := by omega
      have hnc : (n : Int) ≤ (cp : Int) := by omega
      clear hk hv hkv hc1 hps hne
      obtain ⟨q1, q2⟩ := HQ.out w1 ST1.out.bel
      rw [S] at q1 q2
      go_wp2_with fail
      refine (LO.out _ k hkl).mono ?_
      rintro e w2 ⟨rfl, hb2⟩
      have ST2 := hid (ST1.out.below hb2)
      clear hb2 q1 q2 ST1
      obtain ⟨q1, q2⟩ := HQ.out w2 ST2.out.bel
      rw [S] at q1 q2
      have y0 : w2.cell? ⟨w.heap.size, 0, none⟩ = some (.int .i64 0) := by rw [cell_of_row _ _ _ _ _ _ ST2.out.f]; rfl
      have y1 : w2.cell? ⟨w.heap.size, 1, none⟩ = some (.int .i64 0) := by rw [cell_of_row _ _ _ _ _ _ ST2.out.f]; rfl
      have fy0 := frozen_of_row w2 w.heap.size 0 _ _ ST2.out.f
      have fy1 := frozen_of_row w2 w.heap.size 1 _ _ ST2.out.f
      have lty := lt_of_block ST2.out.f
      cases hn1 : namedB k with
      | false =>
        have hout := hid (new_bad2 ST2.out.bad hlt (by rw [HK.out, hn1]; simp))
        go_wp2_with fail
        change bodyPost _ _ _ _ _ (F2 w2 w.heap.size 2 n)
        exact rf_ret 2 n ST2.out.f ST2.out.bel hout.out rfl rfl
      | true =>
        clear y0 y1 fy0 fy1 lty
        go_wp2_with fail
        refine (LO.out _ v hvl).mono ?_
        rintro e w3 ⟨rfl, hb3⟩
        have ST3 := hid (ST2.out.below hb3)
        clear hb3 q1 q2 ST2
        obtain ⟨q1, q2⟩ := HQ.out w3 ST3.out.bel
        rw [S] at q1 q2
        have y0 : w3.cell? ⟨w.heap.size, 0, none⟩ = some (.int .i64 0) := by rw [cell_of_row _ _ _ _ _ _ ST3.out.f]; rfl
        have y1 : w3.cell? ⟨w.heap.size, 1, none⟩ = some (.int .i64 0) := by rw [cell_of_row _ _ _ _ _ _ ST3.out.f]; rfl
        have fy0 := frozen_of_row w3 w.heap.size 0 _ _ ST3.out.f
        have fy1 := frozen_of_row w3 w.heap.size 1 _ _ ST3.out.f
        have lty := lt_of_block ST3.out.f
        cases hn2 : namedB v with
        | false =>
          have hout := hid (new_bad2 ST3.out.bad hlt (by rw [HV.out, hn2]; simp))
          go_wp2_with fail
          change bodyPost _ _ _ _ _ (F2 w3 w.heap.size 2 n)
          exact rf_ret 2 n ST3.out.f ST3.out.bel hout.out rfl rfl
        | true =>
          by_cases hkr : k = tRoot
          · have hub : (k == [114, 111, 111, 116]) = true := by rw [hkr]; rfl
            have hout := hid (new_bad2 ST3.out.bad hlt (by rw [HK.out, hkr]; simp))
            clear hkr
            go_wp2_with fail
            change bodyPost _ _ _ _ _ (F2 w3 w.heap.size 2 n)
            exact rf_ret 2 n ST3.out.f ST3.out.bel hout.out rfl rfl
          · have hub : (k == [114, 111, 111, 116]) = false := by rw [beq_eq_false_iff_ne]; exact hkr
            have HGOOD := hid (show (namedB (D[n]'hlt).1 = true ∧ namedB (D[n]'hlt).2 = true) ∧ (D[n]'hlt).1 ≠ tRoot by rw [HK.out, HV.out]; exact ⟨⟨hn1, hn2⟩, hkr⟩)
            clear hkr y0 y1 fy0 fy1 lty
            go_wp2_with fail
            cases hfa : findAt (D.take n) k with
            | some j =>
              have hj0 : (0 : Int) ≤ (j : Int) := by omega
              have S0 : w3.drew.cell? ⟨p1, o1 + n * 2, none⟩ = some (.string ⟨k.toArray⟩) ∧ Below w3.heap.size w3 w3.drew := ⟨q1, (Below.refl _ _).drew⟩
              have KF : Hid (∀ W q, (W.cell? ⟨p1, o1 + n * 2, none⟩ = some (.string ⟨k.toArray⟩) ∧ Below w3.heap.size w3 W) → Calls Tryz.prog 19 #[.slice (some ⟨p1, o1, none⟩) n q, .string ⟨k.toArray⟩] W (fun e w' => e = .returned (.int .i64 (j : Int)) ∧ (w'.cell? ⟨p1, o1 + n * 2, none⟩ = some (.string ⟨k.toArray⟩) ∧ Below w3.heap.size w3 w'))) := fun W q h => by
                refine (FI.out W (ST3.out.bel.then h.2) n hn k q (fun e => by cases e)).mono ?_
                rintro e w' ⟨rfl, hb'⟩
                have hb2 := h.2.then hb'
                exact ⟨by rw [hfa]; rfl, (HQ.out w' (ST3.out.bel.then hb2)).1, hb2⟩
              have HFA := hid hfa
              clear hfa
              go_region_held3 (fun W => W.cell? ⟨p1, o1 + n * 2, none⟩ = some (.string ⟨k.toArray⟩) ∧ Below w3.heap.size w3 W) (first | assumption) (first
                | (go_at_call 19; refine (KF.out _ _ (by assumption)).mono ?_; rintro e w' ⟨rfl, hs'⟩))
              rename World => w4
              have hs4 : w4.cell? ⟨p1, o1 + n * 2, none⟩ = some (.string ⟨k.toArray⟩) ∧ Below w3.heap.size w3 w4 := by assumption
              have ST4 := hid (ST3.out.below hs4.2)
              clear q1 q2 hs4 S0 KF
              have HOUT := hid (show NewOut D 211 n by
                obtain ⟨p, _, _, _, hlk, _⟩ := findAt_some HFA.out
                exact new_bad211 ST4.out.bad hlt HGOOD.out (by rw [HK.out]; exact hlk))
              have y0 : w4.cell? ⟨w.heap.size, 0, none⟩ = some (.int .i64 0) := by rw [cell_of_row _ _ _ _ _ _ ST4.out.f]; rfl
              have y1 : w4.cell? ⟨w.heap.size, 1, none⟩ = some (.int .i64 0) := by rw [cell_of_row _ _ _ _ _ _ ST4.out.f]; rfl
              have fy0 := frozen_of_row w4 w.heap.size 0 _ _ ST4.out.f
              have fy1 := frozen_of_row w4 w.heap.size 1 _ _ ST4.out.f
              have lty := lt_of_block ST4.out.f
              go_wp2_with fail
              change bodyPost _ _ _ _ _ (F2 w4 w.heap.size 211 n)
              exact rf_ret 211 n ST4.out.f ST4.out.bel HOUT.out rfl rfl
            | none =>
              have S0 : w3.drew.cell? ⟨p1, o1 + n * 2, none⟩ = some (.string ⟨k.toArray⟩) ∧ Below w3.heap.size w3 w3.drew := ⟨q1, (Below.refl _ _).drew⟩
              have KF : Hid (∀ W q, (W.cell? ⟨p1, o1 + n * 2, none⟩ = some (.string ⟨k.toArray⟩) ∧ Below w3.heap.size w3 W) → Calls Tryz.prog 19 #[.slice (some ⟨p1, o1, none⟩) n q, .string ⟨k.toArray⟩] W (fun e w' => e = .returned (.int .i64 (-1)) ∧ (w'.cell? ⟨p1, o1 + n * 2, none⟩ = some (.string ⟨k.toArray⟩) ∧ Below w3.heap.size w3 w'))) := fun W q h => by
                refine (FI.out W (ST3.out.bel.then h.2) n hn k q (fun e => by cases e)).mono ?_
                rintro e w' ⟨rfl, hb'⟩
                have hb2 := h.2.then hb'
                exact ⟨by rw [hfa]; rfl, (HQ.out w' (ST3.out.bel.then hb2)).1, hb2⟩
              have HFA := hid hfa
              clear hfa
              go_region_held3 (fun W => W.cell? ⟨p1, o1 + n * 2, none⟩ = some (.string ⟨k.toArray⟩) ∧ Below w3.heap.size w3 W) (first | assumption) (first
                | (go_at_call 19; refine (KF.out _ _ (by assumption)).mono ?_; rintro e w' ⟨rfl, hs'⟩))
              rename World => w4
              have hs4 : w4.cell? ⟨p1, o1 + n * 2, none⟩ = some (.string ⟨k.toArray⟩) ∧ Below w3.heap.size w3 w4 := by assumption
              have ST4 := hid (ST3.out.below hs4.2)
              clear q1 q2 hs4 S0 KF
              go_wp2_with fail
              go_roundg (gk - 1)
              case measure => have := HG.out; omega
              case rel => exact ⟨n + 1, by omega, by have := HG.out; omega, by simp, ST4.out.step hlt HGOOD.out (by rw [HK.out]; exact findAt_none.1 HFA.out)⟩
    · have hnl : n = D.length := by omega
      have HNB := hid (show badAt [] D = none by have := ST1.out.bad; rw [hnl, List.take_length, List.drop_length] at this; rw [this]; rfl)
      have HSA := hid (show saidOK D from bad_none (done := []) HNB.out (fun p hp => by cases hp))
      have HF1 := hid ST1.out.f
      have HB1 := hid ST1.out.bel
      clear hnl ST1
      go_wp2_with fail
      go_loopg [4] D.length (fun g vi W => ∃ m : Nat, m ≤ D.length ∧ D.length ≤ m + g ∧ vi = .int .i64 m ∧ (W.heap[w.heap.size]? = some (.cells #[.int .i64 0, .int .i64 0] 26 (0, 0)) ∧ Below w.heap.size w W) ∧ ∀ j p, j < m → D[j]? = some p → ¬ ringP D p.1)
      case atStart => exact ⟨0, Nat.zero_le _, by omega, rfl, ⟨HF1.out, HB1.out⟩, fun j p hj => by omega⟩
      case round =>
        rename World => w2
        rename Nat => g1
        obtain ⟨m, hm, hg2, rfl, ⟨hf2, hb2⟩, hno⟩ := hrel
        have HG2 := hid hg2
        have HF2 := hid hf2
        have HB2 := hid hb2
        have HNO := hid hno
        clear hg2 hf2 hb2 hno HF1 HB1
        by_cases hlt2 : m < D.length
        · have hne : D ≠ [] := by intro e; rw [e] at hlt2; simp at hlt2
          obtain ⟨p1, o1, rfl, hp1, hc1⟩ := HC.out hne
          obtain ⟨kv, hkv⟩ : ∃ kv, kv = D[m]'hlt2 := ⟨_, rfl⟩
          obtain ⟨k, v⟩ := kv
          have hk : (D[m]'hlt2).1 = k := by rw [← hkv]
          have HQ := hid (fun W (hb : Below w.heap.size w W) => show World.cell? W ⟨p1, o1 + m * 2, none⟩ = some (S k) from
            (hb.cell (p := ⟨p1, o1 + m * 2, none⟩) hp1).trans (by have := hc1 m 0 (S k) hlt2 (by rw [← hkv]; rfl); rw [Nat.add_zero] at this; exact this))
          have HKN := hid (show namedB k = true by rw [← hk]; exact (HSA.out _ (List.getElem_mem hlt2)).1)
          have HKV := hid (show D[m]? = some (k, v) by rw [List.getElem?_eq_getElem hlt2, hkv])
          have hni : (m : Int) < (D.length : Int) := by omega
          have hn0 : (0 : Int) ≤ (m : Int) := by omega
          clear hk hkv hc1 hne
          have q1 := HQ.out w2 HB2.out
          rw [S] at q1
          go_wp2_with fail
          clear q1
          go_loopg [5, 6] 2440 (fun g vs vt W => ∃ (j : Nat) (x : Str), vs = .string ⟨x.toArray⟩ ∧ vt = .int .i64 j ∧ j ≤ 40 * (D.length + 1) ∧ 40 * (D.length + 1) ≤ j + g ∧ iter D j k = some x ∧ (∀ i, i < j → iter D (i + 1) k ≠ some k) ∧ W.heap[w.heap.size]? = some (.cells #[.int .i64 0, .int .i64 0] 26 (0, 0)) ∧ Below w.heap.size w W)
          case atStart => exact ⟨0, k, rfl, rfl, Nat.zero_le _, by omega, rfl, (fun i hi => by omega), HF2.out, HB2.out⟩
          case round =>
            obtain ⟨j, x, rfl, rfl, hj, hgj, hit, hno2, hf5, hb5⟩ := hrel
            rename World => w5
            have HJ := hid hj
            have HGJ := hid hgj
            have HIT := hid hit
            have HN2 := hid hno2
            have HF5 := hid hf5
            have HB5 := hid hb5
            clear hj hgj hit hno2 hf5 hb5 HF2 HB2
            have hj24 : (j : Int) ≤ 2440 := by have := HJ.out; omega
            have hxr1 : x = tRoot → Hid (¬ ringP D k) := fun e => ring_no1 HIT.out (by rw [e]; exact step_root HSA.out) HN2.out
            by_cases hxr : x = tRoot
            · have hub : (x != [114, 111, 111, 116]) = false := by rw [hxr]; rfl
              have hub3 : (x == [114, 111, 111, 116]) = true := by rw [hxr]; rfl
              have HNR := hxr1 hxr
              clear hxr hxr1
              go_wp2_with fail
              go_roundg (g1 - 1)
              case measure => have := HG2.out; omega
              case rel => exact ⟨m + 1, by omega, by have := HG2.out; omega, by simp, ⟨HF5.out, HB5.out⟩, fun i p hi hp => by
                by_cases he : i = m
                · subst he; rw [HKV.out] at hp; cases hp; exact HNR.out
                · exact HNO.out i p (by omega) hp⟩
            · have hub : (x != [114, 111, 111, 116]) = true := by rw [bne_iff_ne]; exact hxr
              have hub3 : (x == [114, 111, 111, 116]) = false := by rw [beq_eq_false_iff_ne]; exact hxr
              have HXR := hid hxr
              clear hxr hxr1
              by_cases hjj : j < 40 * (D.length + 1)
              · have hji : (j : Int) < 40 * ((D.length : Int) + 1) := by omega
                have HXN := hid (iter_named HSA.out HKN.out j x HIT.out)
                obtain ⟨u, hu⟩ := step_some HSA.out HXN.out HXR.out
                have hpa := step_parent hu
                have HU := hid hu
                have RP2 := hid (PA.out w5 HB5.out x HXN.out HXR.out)
                rw [hpa] at RP2
                clear hu hpa
                go_wp2_with fail
                refine RP2.out.mono ?_
                rintro e w6 ⟨rfl, hb6⟩
                simp only
                have HB6 := hid (HB5.out.then hb6)
                have HF6 := hid ((hb6.block _ (lt_of_block HF5.out)).trans HF5.out)
                have q1 := HQ.out w6 HB6.out
                rw [S] at q1
                clear hb6 RP2
                by_cases huk : u = k
                · have hub2 : (u == k) = true := by rw [huk]; simp
                  have HOUT := hid (show NewOut D 210 m from Or.inr (Or.inl ⟨HNB.out, rfl, ⟨(k, v), HKV.out, j, by rw [iter, HIT.out]; show stepF D x = some k; rw [← huk]; exact HU.out⟩, HNO.out⟩))
                  have y0 : w6.cell? ⟨w.heap.size, 0, none⟩ = some (.int .i64 0) := by rw [cell_of_row _ _ _ _ _ _ HF6.out]; rfl
                  have y1 : w6.cell? ⟨w.heap.size, 1, none⟩ = some (.int .i64 0) := by rw [cell_of_row _ _ _ _ _ _ HF6.out]; rfl
                  have fy0 := frozen_of_row w6 w.heap.size 0 _ _ HF6.out
                  have fy1 := frozen_of_row w6 w.heap.size 1 _ _ HF6.out
                  have lty := lt_of_block HF6.out
                  clear huk
                  go_wp2_with fail
                  change bodyPost _ _ _ _ _ (F2 w6 w.heap.size 210 m)
                  exact rf_ret 210 m HF6.out HB6.out HOUT.out rfl rfl
                · have hub2 : (u == k) = false := by rw [beq_eq_false_iff_ne]; exact huk
                  have HUK := hid huk
                  clear huk
                  go_wp2_with fail
                  go_roundg (gk - 1)
                  case measure => have := HGJ.out; omega
                  case rel => exact ⟨j + 1, u, rfl, by simp, by omega, by have := HGJ.out; omega, (by rw [iter, HIT.out]; exact HU.out), (fun i hi => by
                    by_cases he : i = j
                    · subst he; rw [iter, HIT.out]; intro e; exact HUK.out (Option.some.inj (HU.out.symm.trans e))
                    · exact HN2.out i (by omega)), HF6.out, HB6.out⟩
              · have hji : ¬ (j : Int) < 40 * ((D.length : Int) + 1) := by omega
                have HNR := hid (show ¬ ringP D k from fun hr => by
                  obtain ⟨i, hi, he⟩ := ring_soon HSA.out HKN.out hr
                  exact HN2.out i (by omega) he)
                go_wp2_with fail
                go_roundg (g1 - 1)
                case measure => have := HG2.out; omega
                case rel => exact ⟨m + 1, by omega, by have := HG2.out; omega, by simp, ⟨HF5.out, HB5.out⟩, fun i p hi hp => by
                  by_cases he : i = m
                  · subst he; rw [HKV.out] at hp; cases hp; exact HNR.out
                  · exact HNO.out i p (by omega) hp⟩
        · have HOUT := hid (show NewOut D 0 0 from Or.inr (Or.inr ⟨HNB.out, rfl, rfl, fun p hp => by
            obtain ⟨j, hj, rfl⟩ := List.getElem_of_mem hp
            exact HNO.out j _ (by omega) (List.getElem?_eq_getElem hj)⟩))
          have y0 : w2.cell? ⟨w.heap.size, 0, none⟩ = some (.int .i64 0) := by rw [cell_of_row _ _ _ _ _ _ HF2.out]; rfl
          have y1 : w2.cell? ⟨w.heap.size, 1, none⟩ = some (.int .i64 0) := by rw [cell_of_row _ _ _ _ _ _ HF2.out]; rfl
          have fy0 := frozen_of_row w2 w.heap.size 0 _ _ HF2.out
          have fy1 := frozen_of_row w2 w.heap.size 1 _ _ HF2.out
          have lty := lt_of_block HF2.out
          go_wp2_with fail
          change bodyPost _ _ _ _ _ (F2 w2 w.heap.size 0 0)
          exact rf_ret 0 0 HF2.out HB2.out HOUT.out rfl rfl
end Go.Proofs.YtffaoejahnildaaGreat
