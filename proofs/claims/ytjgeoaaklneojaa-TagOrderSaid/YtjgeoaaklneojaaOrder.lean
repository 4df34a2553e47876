/- The walk of the law TagOrder. -/
import Derived.Test.YtjgeoaaklneojaaWakes
import Derived.Test.YtjgeoaaklneojaaBare
import Derived.Test.YtjgeoaaklneojaaOrderP
set_option linter.unusedVariables false
set_option linter.unusedSimpArgs false
namespace Go.Proofs.Ytjgeoaaklneojaa
open Go.RowKit Go.Lib Go.Sort

set_option maxRecDepth 100000 in
set_option maxHeartbeats 8000000 in
theorem order_any (s : ByteArray) (w : World) (hs : s.size ≤ maxLen) :
    Calls Try.prog 4 #[.string s] w fun e w' => e = .returned (.bool true) ∧ Below w.heap.size w w' := by
  have PA := hid (fun W => parse_any s W hs)
  have hgood := good_of s.data.toList
  have hfine := parse_fine s.data.toList
  generalize hx : parseF s.data.toList = x at *
  clear hx
  go_enter Try.func4, Try.ntmps4
  go_wp2_with fail
  refine (wakes_any _).mono ?_
  rintro e w1 ⟨rfl, hb1⟩
  go_wp2_with fail
  refine (PA.out _).mono ?_
  rintro e w2 ⟨vv, kv, rfl, o1, o2, hb2⟩
  obtain ⟨av, cv, rfl⟩ := own_sliceS o1
  obtain ⟨ak, ck, rfl⟩ := own_sliceP o2
  have hw2 := hb1.then hb2
  have HR := hid (show RdT w2 (.agg (tagCells x.tag (.slice av x.tag.vars.length cv) (.slice ak x.tag.keys.length ck))) x.tag from ⟨_, _, rfl, o1.rd, o2.rd⟩)
  have o2rd := o2.rd
  clear o1 o2 PA hb1 hb2
  simp only [tagCells, S] at HR ⊢
  have HW := hid hw2
  clear hw2
  have HK := hid o2rd
  clear o2rd
  by_cases he : x.err = 0
  · have hg := hgood he
    have hp := hfine.1 he
    have hch := good_check x.tag hg
    have hor := order_read x.tag hg
    have hol := order_len x.tag hg
    have hpr := good_print (bareT x.tag) hg.bare
    have b1 := hg.vars
    have b2 := hg.keys
    have b3 := hg.write
    have b4 := hg.bare.write
    have b5 := hg.bare.vars
    have b6 := hg.bare.keys
    rw [he, hp]
    generalize x.tag = t at *
    have hb3 := below2 w2 (.cells #[.string ⟨t.lang.toArray⟩, .string ⟨t.script.toArray⟩, .string ⟨t.region.toArray⟩, .slice av t.vars.length cv, .slice ak t.keys.length ck] 28) (.cells #[.int .i64 ((0 : Nat) : Int), .int .i64 ((0 : Nat) : Int)] 31)
    have ht3 := heap_alloc2_old w2 (.cells #[.string ⟨t.lang.toArray⟩, .string ⟨t.script.toArray⟩, .string ⟨t.region.toArray⟩, .slice av t.vars.length cv, .slice ak t.keys.length ck] 28) (.cells #[.int .i64 ((0 : Nat) : Int), .int .i64 ((0 : Nat) : Int)] 31)
    have HB3 := hid hb3
    have HT3 := hid ht3
    have hlt3 := lt_of_block ht3
    obtain ⟨c0, c1, c2, c3, c4⟩ := box_cells ht3
    clear hb3 ht3
    by_cases hk0 : t.keys = []
    · have hkl : t.keys.length = 0 := by rw [hk0]; rfl
      have hkb : (t.keys.length == 0) = true := by rw [hkl]; rfl
      clear hk0 hor hol hpr hg hgood hfine
      go_wp2_with fail
      all_goals go_ret
      all_goals exact ⟨rfl, HW.out.then (below2 _ _ _)⟩
    · have hkp : 0 < t.keys.length := List.length_pos_iff.2 hk0
      have hkb : (t.keys.length == 0) = false := by rw [beq_eq_false_iff_ne]; omega
      have HO := hid (hor hk0)
      have HL := hid (hol hk0)
      have BA := hid (fun W (hb : Below w2.heap.size w2 W) => bare_any W _ t (HR.out.below hb) (by omega) (by omega) (by omega))
      unfold BareOut at BA
      rw [hch, if_pos rfl] at BA
      have PR := hid (fun W v (hr : RdT W v (bareT t)) => print_any W v (bareT t) hr (by omega) (by omega) (by omega))
      rw [hpr] at PR
      simp only [strErr] at PR
      obtain ⟨ao, cp, hao, _, hrk⟩ := HK.out
      injection hao with e1 _ e2
      subst e1 e2
      obtain ⟨kb, off, rfl, hbl, hc⟩ := hrk hk0
      have HC := hid hc
      generalize hlo : writeF (bareT t) = ws at *
      generalize bareT t = u at *
      clear hc hrk HK hk0 hor hol hpr hch hg hgood hfine b3 b4 b5 b6 hlo
      go_wp2_with fail
      refine (BA.out _ HB3.out).mono ?_
      rintro e w4 ⟨v4, rfl, hr4, hb4⟩
      have HR4 := hid hr4
      obtain ⟨vv4, kv4, rfl, hS4, hP4⟩ := hr4
      obtain ⟨av4, cv4, rfl, _, _⟩ := hS4
      obtain ⟨ak4, ck4, rfl, _, _⟩ := hP4
      simp only [tagCells, S] at HR4 ⊢
      have HT4 := hid ((hb4.block _ (lt_of_block HT3.out)).trans HT3.out)
      have HB4 := hid (HB3.out.then hb4)
      have hb5 : Below w4.heap.size w4 (w4.alloc (.cells #[.string ⟨u.lang.toArray⟩, .string ⟨u.script.toArray⟩, .string ⟨u.region.toArray⟩, .slice av4 u.vars.length cv4, .slice ak4 u.keys.length ck4] 28)) := (Below.refl _ _).alloc (Nat.le_refl _) _
      have HB5 := hid (HB4.out.then hb5)
      have HU5 := hid hb5
      have hr5 := HR4.out.below hb5
      have HQ := hid (PR.out _ _ hr5)
      clear hb4 hb5 hr5 HB3 HT3 HR4 PR BA c0 c1 c2 c3 c4 hlt3
      go_wp2_with fail
      refine HQ.out.mono ?_
      rintro e w6 ⟨rfl, hb6⟩
      have HT6 := hid (((HU5.out.then hb6).block _ (lt_of_block HT4.out)).trans HT4.out)
      have HB6 := hid (HB5.out.then hb6)
      clear hb6 HB5 HU5 HT4 HB4 HQ
      have c4 : w6.cell? ⟨w2.heap.size, 4, none⟩ = some (.slice (some ⟨kb, off, none⟩) t.keys.length ck) := cell_of_row _ _ _ _ _ _ HT6.out
      have hlt6 := lt_of_block HT6.out
      have ho := fresh_own w6 [ws, [117]] w6.heap.size (Nat.le_refl _) (by simp)
      have HOW := hid ho
      have hb7 : Below w6.heap.size w6 (w6.alloc (.cells #[.string ⟨ws.toArray⟩, .string ⟨#[117]⟩] 9)) := (Below.refl _ _).alloc (Nat.le_refl _) _
      have HB7 := hid hb7
      clear ho hb7
      go_wp2_with fail
      go_loopg [9, 10] t.keys.length (fun g v9 vi W => ∃ n : Nat, n ≤ t.keys.length ∧ t.keys.length ≤ n + g ∧ vi = .int .i64 ((t.keys.length : Int) - 1 - n) ∧ OwnS W w6.heap.size v9 ([ws, [117]] ++ (t.keys.reverse.take n).flatMap pairParts) ∧ Below w6.heap.size w6 W)
      case atStart => exact ⟨0, Nat.zero_le _, by omega, by simp, by simpa [S] using HOW.out, HB7.out⟩
      case round =>
        obtain ⟨n, hn, hg, rfl, ow, hb⟩ := hrel
        have HG := hid hg
        have hw6 := hb.size
        have c4r := (hb.cell (p := ⟨w2.heap.size, 4, none⟩) hlt6).trans c4
        have HOR := hid ow
        have HBR := hid hb
        have hkl6 : kb < w6.heap.size := Nat.lt_of_lt_of_le hbl HB6.out.size
        clear hg c4 HOW HB7
        by_cases hlt : n < t.keys.length
        · obtain ⟨m, hm⟩ : ∃ m : Nat, m = t.keys.length - 1 - n := ⟨_, rfl⟩
          have hmi : (t.keys.length : Int) - 1 - n = (m : Int) := by omega
          have hmlt : m < t.keys.length := by omega
          obtain ⟨ky, vy, hp⟩ : ∃ a b, t.keys[m] = (a, b) := ⟨_, _, rfl⟩
          have step := rev_get t.keys n hlt ky vy (by rw [← hp]; congr 1; omega)
          have HST := hid step
          have d0 : w6.cell? ⟨kb, off + m * 2, none⟩ = some (.string ⟨ky.toArray⟩) := (HB6.out.cell (p := ⟨kb, off + m * 2, none⟩) hbl).trans (HC.out m 0 _ hmlt (by rw [hp]; rfl))
          have d1 : w6.cell? ⟨kb, off + m * 2 + 1, none⟩ = some (.string ⟨vy.toArray⟩) := (HB6.out.cell (p := ⟨kb, off + m * 2 + 1, none⟩) hbl).trans (HC.out m 1 _ hmlt (by rw [hp]; rfl))
          have e0 := (hb.cell (p := ⟨kb, off + m * 2, none⟩) hkl6).trans d0
          have hlp := len_pairs_le (t.keys.reverse.take n)
          rw [List.length_take] at hlp
          have hl5 : ([ws, [117]] ++ (t.keys.reverse.take n).flatMap pairParts).length ≤ 10000 := by simp only [List.length_append, List.length_cons, List.length_nil]; omega
          have HL5 := hid hl5
          have HM := hid hmi
          rw [hmi]
          clear step hp hl5 hlp ow hb hmi hm
          go_wp2_with (at_builtin; refine wpList_pushS rfl (.tmp 49) (.tmp 56) rfl w6.heap.size _ _ ky rfl HOR.out rfl ?xe1 ?xe2 ?_)
          case xe1 => have := HL5.out; omega
          case xe2 => exact hw6
          intro v8 w8 own8 gr8 mv8
          have hb8 := HBR.out.grown gr8 hw6 (fun k hk => (World.ownsRow.lt HOR.out k hk).1)
          have hw8 := hb8.size
          have c48 := (hb8.cell (p := ⟨w2.heap.size, 4, none⟩) hlt6).trans ((HBR.out.cell (p := ⟨w2.heap.size, 4, none⟩) hlt6).symm.trans c4r)
          have e1 := (hb8.cell (p := ⟨kb, off + m * 2 + 1, none⟩) hkl6).trans d1
          have O8 := hid own8
          have HB8 := hid hb8
          clear gr8 mv8 own8 hb8 e0 c4r
          by_cases hv0 : vy = []
          · have hvb : (vy != []) = false := by rw [hv0]; rfl
            have hvb2 : vy.isEmpty = true := by rw [hv0]; rfl
            have HV := hid hv0
            clear hv0
            go_wp2_with fail
            go_roundg (gk - 1)
            case measure => have := HG.out; omega
            case rel => exact ⟨n + 1, by omega, by have := HG.out; omega, by have := HM.out; simp; omega, by rw [HST.out, show pairParts (ky, vy) = [ky] from if_pos HV.out]; simpa using O8.out, HB8.out⟩
          · have hvb : (vy != []) = true := by rw [bne_iff_ne]; exact hv0
            have hvb2 : vy.isEmpty = false := by cases hh : vy with | nil => exact absurd hh hv0 | cons => rfl
            have HV := hid hv0
            clear hv0
            go_wp2_with (at_builtin; refine wpList_pushS rfl (.tmp 65) (.tmp 72) rfl w6.heap.size _ _ vy rfl O8.out rfl ?xf1 ?xf2 ?_)
            case xf1 => have := HL5.out; simp at this ⊢; omega
            case xf2 => exact hw8
            intro v9 w9 own9 gr9 mv9
            have hb9 := HB8.out.grown gr9 hw8 (fun k hk => (World.ownsRow.lt O8.out k hk).1)
            have O9 := hid own9
            have HB9 := hid hb9
            clear gr9 mv9 own9 hb9 c48 e1 O8 HB8
            go_wp2_with fail
            go_roundg (gk - 1)
            case measure => have := HG.out; omega
            case rel => exact ⟨n + 1, by omega, by have := HG.out; omega, by have := HM.out; simp; omega, by rw [HST.out, show pairParts (ky, vy) = [ky, vy] from if_neg HV.out]; simpa using O9.out, HB9.out⟩
        · have hnl : n = t.keys.length := by omega
          have hmi : (t.keys.length : Int) - 1 - n = -1 := by omega
          rw [hmi]
          have htk : t.keys.reverse.take n = t.keys.reverse := List.take_of_length_le (by simp; omega)
          rw [htk] at ow
          have hlp := len_pairs_le t.keys.reverse
          rw [List.length_reverse] at hlp
          have hjo := join_own wr w6.heap.size u9 _ ow (by simp only [List.length_append, List.length_cons, List.length_nil]; omega) (by have := HL.out; omega)
          generalize hjs : Lib.join ([ws, [117]] ++ t.keys.reverse.flatMap pairParts) [45] = js at *
          have HJ := hid hjo
          have P2 := hid (fun W => parse_any ⟨js.toArray⟩ W (by have := HL.out; rw [Lib.size_eq]; show js.length ≤ _; unfold maxLen; omega))
          rw [show (⟨js.toArray⟩ : ByteArray).data.toList = js from rfl, HO.out] at P2
          clear hjo htk hlp hmi HOR ow hjs c4r hlt hn
          simp only [S] at HJ
          go_wp2_with fail
          refine HJ.out.mono ?_
          rintro e w7 ⟨rfl, hb7⟩
          go_wp2_with fail
          refine (P2.out _).mono ?_
          rintro e w9 ⟨vv9, kv9, rfl, p1, p2, hb9⟩
          obtain ⟨av9, cv9, rfl⟩ := own_sliceS p1
          obtain ⟨ak9, ck9, rfl⟩ := own_sliceP p2
          have HA9 := hid (show RdT w9 (.agg (tagCells t (.slice av9 t.vars.length cv9) (.slice ak9 t.keys.length ck9))) t from ⟨_, _, rfl, p1.rd, p2.rd⟩)
          simp only [tagCells, S] at HA9 ⊢
          have hb69 := (HBR.out.trans (hb7.mono hw6)).trans (hb9.mono (Nat.le_trans hw6 hb7.size))
          have HT9 := hid ((hb69.block _ hlt6).trans HT6.out)
          have HB9 := hid (HB6.out.then hb69)
          have hb10 := below2 w9 (.cells #[.string ⟨t.lang.toArray⟩, .string ⟨t.script.toArray⟩, .string ⟨t.region.toArray⟩, .slice av9 t.vars.length cv9, .slice ak9 t.keys.length ck9] 28) (.cells #[.int .i64 ((0 : Nat) : Int), .int .i64 ((0 : Nat) : Int)] 31)
          have ha10 := heap_alloc2_old w9 (.cells #[.string ⟨t.lang.toArray⟩, .string ⟨t.script.toArray⟩, .string ⟨t.region.toArray⟩, .slice av9 t.vars.length cv9, .slice ak9 t.keys.length ck9] 28) (.cells #[.int .i64 ((0 : Nat) : Int), .int .i64 ((0 : Nat) : Int)] 31)
          have hn10 := heap_alloc2_new w9 (.cells #[.string ⟨t.lang.toArray⟩, .string ⟨t.script.toArray⟩, .string ⟨t.region.toArray⟩, .slice av9 t.vars.length cv9, .slice ak9 t.keys.length ck9] 28) (.cells #[.int .i64 ((0 : Nat) : Int), .int .i64 ((0 : Nat) : Int)] 31)
          have SM := hid (same_any _ _ _ t t (HR.out.below (HB9.out.then hb10)) (HA9.out.below hb10))
          rw [sameB_refl] at SM
          have HB10 := hid (HB9.out.then hb10)
          have hlt9 := lt_of_block HT9.out
          obtain ⟨c0, c1, c2, c3, c4⟩ := box_cells HT9.out
          clear hb7 hb9 hb10 hb69 p1 p2 ha10 hn10 P2 HJ
          go_wp2_with fail
          refine SM.out.mono ?_
          rintro e w11 ⟨rfl, hb11⟩
          go_wp2_with fail
          go_ret
          exact ⟨rfl, HW.out.then (HB10.out.then hb11)⟩
  · have heb : (x.err != 0) = true := by rw [bne_iff_ne]; exact he
    have heb3 : ((x.err : Int) != 0) = true := by rw [bne_iff_ne]; omega
    have hz := hfine.2 he
    have hb3 := below2 w2 (.cells #[.string ⟨x.tag.lang.toArray⟩, .string ⟨x.tag.script.toArray⟩, .string ⟨x.tag.region.toArray⟩, .slice av x.tag.vars.length cv, .slice ak x.tag.keys.length ck] 28) (.cells #[.int .i64 (x.err : Int), .int .i64 (x.pos : Int)] 31)
    clear hz hgood hfine hb3
    go_wp2_with fail
    go_ret
    exact ⟨rfl, HW.out.then (below2 _ _ _)⟩
end Go.Proofs.Ytjgeoaaklneojaa
