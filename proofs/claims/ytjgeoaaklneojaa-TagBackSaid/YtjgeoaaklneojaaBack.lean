/- The walk of the law TagBack. -/
import Derived.Test.YtjgeoaaklneojaaWakes
import Derived.Test.YtjgeoaaklneojaaNamed
set_option linter.unusedVariables false
set_option linter.unusedSimpArgs false
namespace Go.Proofs.Ytjgeoaaklneojaa
open Go.RowKit Go.Lib Go.Sort

theorem nameOf_len {s : Str} (h : s.length ≤ 128) : (nameOf s).length ≤ 128 := by
  unfold nameOf
  split
  · decide
  · exact h
set_option maxRecDepth 100000 in
set_option maxHeartbeats 8000000 in
theorem back_any (s : ByteArray) (w : World) (hs : s.size ≤ maxLen) :
    Calls Try.prog 5 #[.string s] w fun e w' => e = .returned (.bool true) ∧ Below w.heap.size w w' := by
  have PA := hid (fun W => parse_any s W hs)
  have hgood := good_of s.data.toList
  have hfine := parse_fine s.data.toList
  generalize hx : parseF s.data.toList = x at *
  clear hx
  go_enter Try.func5, Try.ntmps5
  go_wp2_with fail
  refine (wakes_any _).mono ?_
  rintro e w1 ⟨rfl, hb1⟩
  go_wp2_with fail
  refine (PA.out _).mono ?_
  rintro e w2 ⟨vv, kv, rfl, o1, o2, hb2⟩
  obtain ⟨av, cv, rfl⟩ := own_sliceS o1
  obtain ⟨ak, ck, rfl⟩ := own_sliceP o2
  have hw2 := hb1.then hb2
  have HR := hid (show RdT w2 (.agg (tagCells x.tag (.slice av x.tag.vars.length cv) (.slice ak x.tag.keys.length ck))) x.tag from ⟨_, _, rfl, o1.rd, o2.rd⟩)
  clear o1 o2 PA hb1 hb2
  simp only [tagCells, S] at HR ⊢
  have HW := hid hw2
  clear hw2
  by_cases he : x.err = 0
  · have hg := hgood he
    have hp := hfine.1 he
    have hpr := good_print x.tag hg
    have hba := good_back x.tag hg
    have hna := good_name x.tag hg
    have hnr := good_nameRead x.tag hg
    have hnd := good_named x.tag hg
    have hch := good_check x.tag hg
    have b1 := hg.vars
    have b2 := hg.keys
    have b3 := hg.write
    have b4 := hg.bare.write
    rw [he, hp]
    generalize x.tag = t at *
    have PR := hid (fun W (hb : Below w2.heap.size w2 W) => print_any W _ t (HR.out.below hb) (by omega) (by omega) (by omega))
    rw [hpr] at PR
    have P2 := hid (fun W => parse_any ⟨(writeF t).toArray⟩ W (by rw [Lib.size_eq]; show (writeF t).length ≤ _; unfold maxLen; omega))
    rw [show (⟨(writeF t).toArray⟩ : ByteArray).data.toList = writeF t from rfl, hba] at P2
    have NA := hid (fun W (hb : Below w2.heap.size w2 W) => name_any W _ t (HR.out.below hb) (by omega) (by omega) (by omega) (by unfold bareT at b4; omega))
    rw [hna] at NA
    have ND := hid (fun W => named_any (nameOf (writeF (bareT t))) W (Nat.le_trans (nameOf_len b4) (by decide)))
    have BA := hid (fun W (hb : Below w2.heap.size w2 W) => bare_any W _ t (HR.out.below hb) (by omega) (by omega) (by omega))
    have CH := hid (fun W (hb : Below w2.heap.size w2 W) => check_any W _ t (HR.out.below hb) (by omega) (by omega) (by omega))
    rw [hch] at CH
    unfold NamedOut namedT at ND
    unfold BareOut at BA
    rw [hnd, if_pos rfl, hnr] at ND
    rw [hch, if_pos rfl] at BA
    generalize writeF t = ws at *
    generalize nameOf (writeF (bareT t)) = ns at *
    generalize bareT t = u at *
    clear hgood hfine he hp hpr hba hna hnr hnd hch hg b1 b2 b3 b4
    simp only [strErr] at PR NA
    have hb3 := below2 w2 (.cells #[.string ⟨t.lang.toArray⟩, .string ⟨t.script.toArray⟩, .string ⟨t.region.toArray⟩, .slice av t.vars.length cv, .slice ak t.keys.length ck] 28) (.cells #[.int .i64 ((0 : Nat) : Int), .int .i64 ((0 : Nat) : Int)] 31)
    have ht3 := heap_alloc2_old w2 (.cells #[.string ⟨t.lang.toArray⟩, .string ⟨t.script.toArray⟩, .string ⟨t.region.toArray⟩, .slice av t.vars.length cv, .slice ak t.keys.length ck] 28) (.cells #[.int .i64 ((0 : Nat) : Int), .int .i64 ((0 : Nat) : Int)] 31)
    have HB3 := hid hb3
    have HT3 := hid ht3
    clear hb3 ht3
    go_wp2_with fail
    refine (PR.out _ HB3.out).mono ?_
    rintro e w4 ⟨rfl, hb4⟩
    have HT4 := hid ((hb4.block _ (lt_of_block HT3.out)).trans HT3.out)
    have HB4 := hid (HB3.out.then hb4)
    clear hb4 HB3 HT3 PR
    obtain ⟨c0, c1, c2, c3, c4⟩ := box_cells HT4.out
    go_wp2_with fail
    refine (P2.out _).mono ?_
    rintro e w5 ⟨vv5, kv5, rfl, p1, p2, hb5⟩
    obtain ⟨av5, cv5, rfl⟩ := own_sliceS p1
    obtain ⟨ak5, ck5, rfl⟩ := own_sliceP p2
    have HA5 := hid (show RdT w5 (.agg (tagCells t (.slice av5 t.vars.length cv5) (.slice ak5 t.keys.length ck5))) t from ⟨_, _, rfl, p1.rd, p2.rd⟩)
    simp only [tagCells, S] at HA5 ⊢
    have HT5 := hid ((hb5.block _ (lt_of_block HT4.out)).trans HT4.out)
    have HB5 := hid (HB4.out.then hb5)
    clear hb5 HB4 HT4 P2 p1 p2 c0 c1 c2 c3 c4
    have hb6 := below2 w5 (.cells #[.string ⟨t.lang.toArray⟩, .string ⟨t.script.toArray⟩, .string ⟨t.region.toArray⟩, .slice av5 t.vars.length cv5, .slice ak5 t.keys.length ck5] 28) (.cells #[.int .i64 ((0 : Nat) : Int), .int .i64 ((0 : Nat) : Int)] 31)
    have ha6 := heap_alloc2_old w5 (.cells #[.string ⟨t.lang.toArray⟩, .string ⟨t.script.toArray⟩, .string ⟨t.region.toArray⟩, .slice av5 t.vars.length cv5, .slice ak5 t.keys.length ck5] 28) (.cells #[.int .i64 ((0 : Nat) : Int), .int .i64 ((0 : Nat) : Int)] 31)
    have hn6 := heap_alloc2_new w5 (.cells #[.string ⟨t.lang.toArray⟩, .string ⟨t.script.toArray⟩, .string ⟨t.region.toArray⟩, .slice av5 t.vars.length cv5, .slice ak5 t.keys.length ck5] 28) (.cells #[.int .i64 ((0 : Nat) : Int), .int .i64 ((0 : Nat) : Int)] 31)
    have HT6 := hid ((hb6.block _ (lt_of_block HT5.out)).trans HT5.out)
    have HB6 := hid (HB5.out.then hb6)
    have HS6 := hid hb6
    have HA6 := hid ha6
    have HN6 := hid hn6
    have hlt5 := lt_of_block HT5.out
    obtain ⟨c0, c1, c2, c3, c4⟩ := box_cells HT5.out
    clear hb6 ha6 hn6 HT5 HB5
    go_wp2_with fail
    refine (NA.out _ HB6.out).mono ?_
    rintro e w7 ⟨rfl, hb7⟩
    have HT7 := hid ((hb7.block _ (lt_of_block HT6.out)).trans HT6.out)
    have HA7 := hid ((hb7.block _ (lt_of_block HA6.out)).trans HA6.out)
    have HN7 := hid ((hb7.block _ (lt_of_block HN6.out)).trans HN6.out)
    have HB7 := hid (HB6.out.then hb7)
    have HS7 := hid (HS6.out.then hb7)
    clear hb7 HT6 HB6 HA6 HN6 HS6 NA c0 c1 c2 c3 c4
    obtain ⟨c0, c1, c2, c3, c4⟩ := box_cells HT7.out
    go_wp2_with fail
    refine (ND.out _).mono ?_
    rintro e w8 ⟨v8, rfl, hr8, hb8⟩
    have HR8 := hid hr8
    obtain ⟨vv8, kv8, rfl, hS8, hP8⟩ := hr8
    obtain ⟨av8, cv8, rfl, _, _⟩ := hS8
    obtain ⟨ak8, ck8, rfl, _, _⟩ := hP8
    simp only [tagCells, S] at HR8 ⊢
    have HT8 := hid ((hb8.block _ (lt_of_block HT7.out)).trans HT7.out)
    have HA8 := hid ((hb8.block _ (lt_of_block HA7.out)).trans HA7.out)
    have HN8 := hid ((hb8.block _ (lt_of_block HN7.out)).trans HN7.out)
    have HB8 := hid (HB7.out.then hb8)
    have HS8 := hid (HS7.out.then hb8)
    clear hb8 HT7 HB7 HA7 HN7 HS7 ND c0 c1 c2 c3 c4 hlt5
    have hb9 : Below w8.heap.size w8 (w8.alloc (.cells #[.string ⟨u.lang.toArray⟩, .string ⟨u.script.toArray⟩, .string ⟨u.region.toArray⟩, .slice av8 u.vars.length cv8, .slice ak8 u.keys.length ck8] 28)) := (Below.refl _ _).alloc (Nat.le_refl _) _
    have hd9 := heap_alloc_new w8 (.cells #[.string ⟨u.lang.toArray⟩, .string ⟨u.script.toArray⟩, .string ⟨u.region.toArray⟩, .slice av8 u.vars.length cv8, .slice ak8 u.keys.length ck8] 28)
    have HB9 := hid (HB8.out.then hb9)
    have HD9 := hid hd9
    have HU9 := hid hb9
    have hlt8 := lt_of_block HT8.out
    obtain ⟨c0, c1, c2, c3, c4⟩ := box_cells HT8.out
    clear hb9 hd9
    go_wp2_with fail
    refine (BA.out _ HB9.out).mono ?_
    rintro e w10 ⟨v10, rfl, hr10, hb10⟩
    have HR10 := hid hr10
    obtain ⟨vv10, kv10, rfl, hS10, hP10⟩ := hr10
    obtain ⟨av10, cv10, rfl, _, _⟩ := hS10
    obtain ⟨ak10, ck10, rfl, _, _⟩ := hP10
    simp only [tagCells, S] at HR10 ⊢
    have hu10 := HU9.out.then hb10
    have HT10 := hid ((hu10.block _ (lt_of_block HT8.out)).trans HT8.out)
    have HA10 := hid ((hu10.block _ (lt_of_block HA8.out)).trans HA8.out)
    have HN10 := hid ((hu10.block _ (lt_of_block HN8.out)).trans HN8.out)
    have HD10 := hid ((hb10.block _ (lt_of_block HD9.out)).trans HD9.out)
    have HB10 := hid (HB9.out.then hb10)
    have HS10 := hid (HS8.out.then hu10)
    have HU10 := hid hu10
    clear hb10 hu10 HT8 HB8 HA8 HN8 HS8 HD9 HB9 HU9 BA c0 c1 c2 c3 c4 hlt8
    have hb11 : Below w10.heap.size w10 (w10.alloc (.cells #[.string ⟨u.lang.toArray⟩, .string ⟨u.script.toArray⟩, .string ⟨u.region.toArray⟩, .slice av10 u.vars.length cv10, .slice ak10 u.keys.length ck10] 28)) := (Below.refl _ _).alloc (Nat.le_refl _) _
    have hd11 := heap_alloc_new w10 (.cells #[.string ⟨u.lang.toArray⟩, .string ⟨u.script.toArray⟩, .string ⟨u.region.toArray⟩, .slice av10 u.vars.length cv10, .slice ak10 u.keys.length ck10] 28)
    have SM := hid (same_any (w10.alloc (.cells #[.string ⟨u.lang.toArray⟩, .string ⟨u.script.toArray⟩, .string ⟨u.region.toArray⟩, .slice av10 u.vars.length cv10, .slice ak10 u.keys.length ck10] 28)) _ _ t t (HA5.out.below (HS10.out.then hb11)) (HR.out.below (HB10.out.then hb11)))
    rw [sameB_refl] at SM
    have HB11 := hid (HB10.out.then hb11)
    have HU11 := hid (HU10.out.then hb11)
    have HV11 := hid hb11
    have HD11 := hid hd11
    have hltT := lt_of_block HT10.out
    have hltA := lt_of_block HA10.out
    have hltN := lt_of_block HN10.out
    obtain ⟨c0, c1, c2, c3, c4⟩ := box_cells HT10.out
    obtain ⟨d0, d1, d2, d3, d4⟩ := box_cells HA10.out
    have n0 : w10.cell? ⟨w5.heap.size + 1, 0, none⟩ = some (.int .i64 ((0 : Nat) : Int)) := by rw [cell_of_row _ _ _ _ _ _ HN10.out]; rfl
    have n1 : w10.cell? ⟨w5.heap.size + 1, 1, none⟩ = some (.int .i64 ((0 : Nat) : Int)) := by rw [cell_of_row _ _ _ _ _ _ HN10.out]; rfl
    clear hb11 hd11
    go_wp2_with fail
    refine SM.out.mono ?_
    rintro e w12 ⟨rfl, hb12⟩
    have HT12 := hid (((HV11.out.then hb12).block _ hltT).trans HT10.out)
    have HB12 := hid (HB11.out.then hb12)
    have HU12 := hid (HU11.out.then hb12)
    have HV12 := hid (HV11.out.then hb12)
    have hD12 := ((HV11.out.then hb12).block _ (lt_of_block HD10.out)).trans HD10.out
    have hE12 := (hb12.block _ (lt_of_block HD11.out)).trans HD11.out
    clear hb12 c0 c1 c2 c3 c4 d0 d1 d2 d3 d4 n0 n1 hltT hltA hltN
    have SN := hid (same_any w12 _ _ u u (HR8.out.below HU12.out) (HR10.out.below HV12.out))
    rw [sameB_refl] at SN
    obtain ⟨c0, c1, c2, c3, c4⟩ := box_cells HT12.out
    obtain ⟨d0, d1, d2, d3, d4⟩ := box_cells hD12
    obtain ⟨f0, f1, f2, f3, f4⟩ := box_cells hE12
    clear hD12 hE12
    go_wp2_with fail
    refine SN.out.mono ?_
    rintro e w13 ⟨rfl, hb13⟩
    have HB13 := hid (HB12.out.then hb13)
    have HT13 := hid ((hb13.block _ (lt_of_block HT12.out)).trans HT12.out)
    clear hb13 c0 c1 c2 c3 c4 d0 d1 d2 d3 d4 f0 f1 f2 f3 f4
    obtain ⟨c0, c1, c2, c3, c4⟩ := box_cells HT13.out
    go_wp2_with fail
    refine (CH.out _ HB13.out).mono ?_
    rintro e w14 ⟨rfl, hb14⟩
    go_wp2_with fail
    go_ret
    exact ⟨rfl, HW.out.then (HB13.out.then hb14)⟩
  · have heb : (x.err != 0) = true := by rw [bne_iff_ne]; exact he
    have heb3 : ((x.err : Int) != 0) = true := by rw [bne_iff_ne]; omega
    have hz := hfine.2 he
    have hb3 := below2 w2 (.cells #[.string ⟨x.tag.lang.toArray⟩, .string ⟨x.tag.script.toArray⟩, .string ⟨x.tag.region.toArray⟩, .slice av x.tag.vars.length cv, .slice ak x.tag.keys.length ck] 28) (.cells #[.int .i64 (x.err : Int), .int .i64 (x.pos : Int)] 31)
    have SM := hid (same_any _ _ _ x.tag Tg.zero (HR.out.below hb3) (RdT.zero _))
    rw [show sameB x.tag Tg.zero = true by rw [hz]; exact sameB_refl _] at SM
    have HB3 := hid hb3
    clear hb3 hz hgood hfine
    go_wp2_with fail
    refine SM.out.mono ?_
    rintro e w4 ⟨rfl, hb4⟩
    go_wp2_with fail
    go_ret
    exact ⟨rfl, HW.out.then (HB3.out.then hb4)⟩
end Go.Proofs.Ytjgeoaaklneojaa
