/- Several texts in one: TbSame, TbTables. (joined by wip/merge.py) -/
import Derived.Test.YtjlfchnnhglbjaaGreatTH
import Derived.Deep.RegionHeld3

/- law12.tables: tables that say the same. -/
set_option linter.unusedVariables false
set_option linter.unusedSimpArgs false
namespace Go.Proofs.YtjlfchnnhglbjaaGreat
open Go.RowKit Go.Lib Go.Sort Go.Maps Go.WideMaps

/-- a table at a pointer -/
def TbP (B0 : Nat) (W : World) (pt : Nat) (t : Tb) : Prop := ∃ bv ba bn bp N V, TbIn B0 W pt bv ba bn bp N V t
section
variable {B0 : Nat} {W W' : World} {pt : Nat} {t : Tb}
theorem TbP.below (h : TbP B0 W pt t) (hb : Below W.heap.size W W') : TbP B0 W' pt t := by
  obtain ⟨bv, ba, bn, bp, N, V, h⟩ := h
  exact ⟨bv, ba, bn, bp, N, V, h.below hb⟩
theorem TbP.locales (h : TbP B0 W pt t) (ok : TbOk t) : Calls Tryz.prog 15 #[.pointer (some ⟨pt, 0, none⟩)] W fun e w' => OutS W (srtT t.names) e w' := by
  obtain ⟨bv, ba, bn, bp, N, V, h⟩ := h
  exact locales_any h ok
theorem TbP.all (h : TbP B0 W pt t) (ok : TbOk t) : Calls Tryz.prog 16 #[.pointer (some ⟨pt, 0, none⟩)] W fun e w' => OutS W (srtT t.paths) e w' := by
  obtain ⟨bv, ba, bn, bp, N, V, h⟩ := h
  exact all_any h ok
theorem TbP.paths (h : TbP B0 W pt t) (ok : TbOk t) (loc : Str) (hl : loc.length ≤ maxLen) : Calls Tryz.prog 22 #[.pointer (some ⟨pt, 0, none⟩), .string ⟨loc.toArray⟩] W fun e w' => OutS W (pathsF t loc) e w' := by
  obtain ⟨bv, ba, bn, bp, N, V, h⟩ := h
  exact paths_any h ok loc hl
theorem TbP.aliases (h : TbP B0 W pt t) (ok : TbOk t) (hs : t.als.length ≤ 1000) : Calls Tryz.prog 17 #[.pointer (some ⟨pt, 0, none⟩)] W fun e w' => OutP W (aliasesF t) e w' := by
  obtain ⟨bv, ba, bn, bp, N, V, h⟩ := h
  exact aliases_any h ok hs
theorem TbP.get (h : TbP B0 W pt t) (loc path : Str) (hl : loc.length ≤ maxLen) (hp : path.length ≤ maxLen) : Calls Tryz.prog 24 #[.pointer (some ⟨pt, 0, none⟩), .string ⟨loc.toArray⟩, .string ⟨path.toArray⟩] W fun e w' => e = .returned (.tuple #[.string ⟨(rText (findR t.rows loc path)).toArray⟩, .bool (findR t.rows loc path).isSome]) ∧ Below W.heap.size W w' := by
  obtain ⟨bv, ba, bn, bp, N, V, h⟩ := h
  exact get_any h loc path hl hp
theorem TbP.where_ (h : TbP B0 W pt t) (loc path : Str) (hl : loc.length ≤ maxLen) (hp : path.length ≤ maxLen) : Calls Tryz.prog 25 #[.pointer (some ⟨pt, 0, none⟩), .string ⟨loc.toArray⟩, .string ⟨path.toArray⟩] W fun e w' => e = .returned (.tuple #[.int .i64 (rFile (findR t.rows loc path)), .int .i64 (rAt (findR t.rows loc path)), .bool (findR t.rows loc path).isSome]) ∧ Below W.heap.size W w' := by
  obtain ⟨bv, ba, bn, bp, N, V, h⟩ := h
  exact where_any h loc path hl hp
end
/-- tables that say the same -/
structure SameT (a b : Tb) : Prop where
  names : srtT a.names = srtT b.names
  paths : srtT a.paths = srtT b.paths
  als : aliasesF a = aliasesF b
  each : ∀ loc, pathsF a loc = pathsF b loc
  text : ∀ loc path, (findR a.rows loc path).map (·.text) = (findR b.rows loc path).map (·.text)
theorem rText_eq {a b : Option Rw} (h : a.map (·.text) = b.map (·.text)) : rText a = rText b := by
  unfold rText; rw [h]
theorem isSome_eq {a b : Option Rw} (h : a.map (·.text) = b.map (·.text)) : a.isSome = b.isSome := by
  rw [← Option.isSome_map, h, Option.isSome_map]
theorem path_has {t : Tb} {loc p : Str} (h : p ∈ pathsF t loc) : (findR t.rows loc p).isSome = true := by
  have h1 := (srtT_perm _).mem_iff.1 h
  obtain ⟨r, hr, rfl⟩ := List.mem_map.1 h1
  obtain ⟨h2, h3⟩ := List.mem_filter.1 hr
  cases hf : findR t.rows loc r.path with
  | some x => rfl
  | none => exact absurd ⟨by simpa using h3, rfl⟩ (findR_none.1 hf r h2)
/-- texts that the model can hold -/
structure SzT (t : Tb) : Prop where
  names : ∀ s ∈ t.names, s.length ≤ maxLen
  rows : ∀ r ∈ t.rows, r.path.length ≤ maxLen
theorem paths_sz {t : Tb} (h : SzT t) {loc p : Str} (hp : p ∈ pathsF t loc) : p.length ≤ maxLen := by
  have h1 := (srtT_perm _).mem_iff.1 hp
  obtain ⟨r, hr, rfl⟩ := List.mem_map.1 h1
  exact h.rows r (List.mem_filter.1 hr).1
theorem names_sz {t : Tb} (h : SzT t) {s : Str} (hp : s ∈ srtT t.names) : s.length ≤ maxLen := h.names s ((srtT_perm _).mem_iff.1 hp)
/-- a pair of a list, in memory -/
theorem ownP_cells {W : World} {B : Nat} {a : Option Addr} {n c : Nat} {l : List (Str × Str)} (h : OwnP W B (.slice a n c) l) (hne : l ≠ []) : ∃ g, a = some ⟨g, 0, none⟩ ∧ g < W.heap.size ∧ ∀ j (hj : j < l.length), W.cell? ⟨g, j * 2, none⟩ = some (.string ⟨(l[j]'hj).1.toArray⟩) ∧ W.cell? ⟨g, j * 2 + 1, none⟩ = some (.string ⟨(l[j]'hj).2.toArray⟩) := by
  rcases h.shape with ⟨_, e⟩ | ⟨g, cap, cur, e, hB, hg, hn, hm, hs, ht⟩
  · exact absurd e hne
  · cases e
    refine ⟨g, rfl, lt_of_block hg, fun j hj => ⟨?_, ?_⟩⟩
    · exact cells_at hg ht _ _ (by have := flat2_get l j 0 hj (by decide); rw [Nat.add_zero] at this; rw [this]; rfl)
    · exact cells_at hg ht _ _ (by rw [flat2_get l j 1 hj (by decide)]; rfl)
end Go.Proofs.YtjlfchnnhglbjaaGreat

/- The walk of law12.tables. -/
set_option linter.unusedVariables false
set_option linter.unusedSimpArgs false
namespace Go.Proofs.YtjlfchnnhglbjaaGreat
open Go.RowKit Go.Lib Go.Sort Go.Maps Go.WideMaps

theorem rdS_at {W : World} {a : Option Addr} {n c : Nat} {l : List Str} (h : RdS W (.slice a n c) l) (j : Nat) (hj : j < l.length) : ∃ p o, a = some ⟨p, o, none⟩ ∧ p < W.heap.size ∧ W.cell? ⟨p, o + j, none⟩ = some (.string ⟨(l[j]'hj).toArray⟩) := by
  obtain ⟨ao, cp, e, _, hr⟩ := h
  cases e
  obtain ⟨b, off, ha, hb, hc⟩ := hr (by rintro rfl; simp at hj)
  exact ⟨b, off, ha, hb, hc j _ (List.getElem?_eq_getElem hj)⟩
set_option maxRecDepth 100000 in
set_option maxHeartbeats 8000000 in
theorem tables_any (B0 B1 : Nat) (w : World) (p1 p2 : Nat) (t1 t2 : Tb) (h1 : TbP B0 w p1 t1) (h2 : TbP B1 w p2 t2) (ok1 : TbOk t1) (ok2 : TbOk t2) (sz1 : SzT t1) (ha1 : t1.als.length ≤ 1000) (ha2 : t2.als.length ≤ 1000) (hs : SameT t1 t2) :
    Calls Tryz.prog 29 #[.pointer (some ⟨p1, 0, none⟩), .pointer (some ⟨p2, 0, none⟩)] w fun e w' => e = .returned (.bool true) ∧ Below w.heap.size w w' := by
  have HS := hid hs
  have O1 := hid ok1
  have O2 := hid ok2
  have A1 := hid ha1
  have A2 := hid ha2
  have SZ := hid sz1
  have T1 := hid h1
  have T2 := hid h2
  have LO1 := hid (fun W (h : TbP B0 W p1 t1) => h.locales O1.out)
  have LO2 := hid (fun W (h : TbP B1 W p2 t2) => h.locales O2.out)
  have AL1 := hid (fun W (h : TbP B0 W p1 t1) => h.all O1.out)
  have AL2 := hid (fun W (h : TbP B1 W p2 t2) => h.all O2.out)
  have AS1 := hid (fun W (h : TbP B0 W p1 t1) => h.aliases O1.out A1.out)
  have AS2 := hid (fun W (h : TbP B1 W p2 t2) => h.aliases O2.out A2.out)
  rw [← hs.names] at LO2
  rw [← hs.paths] at AL2
  rw [← hs.als] at AS2
  clear hs ok1 ok2 ha1 ha2 sz1 h1 h2
  obtain ⟨ns, hns⟩ : ∃ ns, ns = srtT t1.names := ⟨_, rfl⟩
  have HNS := hid hns
  rw [← hns] at LO1 LO2
  clear hns
  have HAL := hid (show (aliasesF t1).length ≤ 1000 by rw [(aliasesF_perm t1).length_eq, alP_len]; exact A1.out)
  generalize srtT t1.paths = ps at *
  generalize aliasesF t1 = als at *
  have BW := hid (Below.refl w.heap.size w)
  go_enter Tryz.func29, Tryz.ntmps29
  go_wp2_with fail
  refine (LO1.out _ T1.out).mono ?_
  rintro e wt1 ⟨vt1, rfl, ot1, bt1⟩
  have T1 := hid (T1.out.below bt1)
  have T2 := hid (T2.out.below bt1)
  have BW := hid (BW.out.then bt1)
  obtain ⟨at1, ct1, rfl⟩ := own_sliceS ot1
  have Q1 := hid ot1
  clear ot1
  clear bt1
  go_wp2_with fail
  refine (LO2.out _ T2.out).mono ?_
  rintro e wt2 ⟨vt2, rfl, ot2, bt2⟩
  have T1 := hid (T1.out.below bt2)
  have T2 := hid (T2.out.below bt2)
  have BW := hid (BW.out.then bt2)
  have Q1 := hid (own_below Q1.out bt2)
  obtain ⟨at2, ct2, rfl⟩ := own_sliceS ot2
  have Q2 := hid ot2
  clear ot2
  clear bt2
  go_wp2_with fail
  refine (texts_any _ _ _ ns (OwnS.rd Q1.out) (OwnS.rd Q2.out)).mono ?_
  rintro e wt3 ⟨rfl, bt3⟩
  have T1 := hid (T1.out.below bt3)
  have T2 := hid (T2.out.below bt3)
  have BW := hid (BW.out.then bt3)
  clear bt3
  go_wp2_with fail
  clear Q1 Q2
  refine (AL1.out _ T1.out).mono ?_
  rintro e wt4 ⟨vt4, rfl, ot4, bt4⟩
  have T1 := hid (T1.out.below bt4)
  have T2 := hid (T2.out.below bt4)
  have BW := hid (BW.out.then bt4)
  obtain ⟨at4, ct4, rfl⟩ := own_sliceS ot4
  have Q1 := hid ot4
  clear ot4
  clear bt4
  go_wp2_with fail
  refine (AL2.out _ T2.out).mono ?_
  rintro e wt5 ⟨vt5, rfl, ot5, bt5⟩
  have T1 := hid (T1.out.below bt5)
  have T2 := hid (T2.out.below bt5)
  have BW := hid (BW.out.then bt5)
  have Q1 := hid (own_below Q1.out bt5)
  obtain ⟨at5, ct5, rfl⟩ := own_sliceS ot5
  have Q2 := hid ot5
  clear ot5
  clear bt5
  go_wp2_with fail
  refine (texts_any _ _ _ ps (OwnS.rd Q1.out) (OwnS.rd Q2.out)).mono ?_
  rintro e wt6 ⟨rfl, bt6⟩
  have T1 := hid (T1.out.below bt6)
  have T2 := hid (T2.out.below bt6)
  have BW := hid (BW.out.then bt6)
  clear bt6
  go_wp2_with fail
  clear Q1 Q2
  refine (AS1.out _ T1.out).mono ?_
  rintro e wt7 ⟨vt7, rfl, ot7, bt7⟩
  have T1 := hid (T1.out.below bt7)
  have T2 := hid (T2.out.below bt7)
  have BW := hid (BW.out.then bt7)
  obtain ⟨at7, ct7, rfl⟩ := own_sliceP ot7
  have Q1 := hid ot7
  clear ot7
  clear bt7
  go_wp2_with fail
  refine (AS2.out _ T2.out).mono ?_
  rintro e wt8 ⟨vt8, rfl, ot8, bt8⟩
  have T1 := hid (T1.out.below bt8)
  have T2 := hid (T2.out.below bt8)
  have BW := hid (BW.out.then bt8)
  obtain ⟨at8, ct8, rfl⟩ := own_sliceP ot8
  have Q2 := hid ot8
  clear ot8
  clear bt8
  go_wp2_with fail
  clear Q1 Q2
  refine (AS1.out _ T1.out).mono ?_
  rintro e wt9 ⟨vt9, rfl, ot9, bt9⟩
  have T1 := hid (T1.out.below bt9)
  have T2 := hid (T2.out.below bt9)
  have BW := hid (BW.out.then bt9)
  obtain ⟨at9, ct9, rfl⟩ := own_sliceP ot9
  have Q1 := hid ot9
  clear ot9
  clear bt9
  go_wp2_with fail
  go_loopg [41] als.length (fun g v W => ∃ n : Nat, n ≤ als.length ∧ als.length ≤ n + g ∧ v = .int .i64 n ∧ Below wt9.heap.size wt9 W)
  case atStart => exact ⟨0, Nat.zero_le _, by omega, rfl, Below.refl _ _⟩
  case round =>
    obtain ⟨n, hn, hg, rfl, hb⟩ := hrel
    rename World => wa
    have HG := hid hg
    have HB := hid hb
    clear hg hb
    have T1a := hid (T1.out.below HB.out)
    have T2a := hid (T2.out.below HB.out)
    by_cases hlt : n < als.length
    · have hne : als ≠ [] := by intro e; rw [e] at hlt; simp at hlt
      obtain ⟨g1, rfl, hg1, hc1⟩ := ownP_cells Q1.out hne
      obtain ⟨q1, q2⟩ := hc1 n hlt
      have r1 := (HB.out.cell (p := ⟨g1, n * 2, none⟩) hg1).trans q1
      have r2 := (HB.out.cell (p := ⟨g1, n * 2 + 1, none⟩) hg1).trans q2
      have hg2 : g1 < wa.heap.size := Nat.lt_of_lt_of_le hg1 HB.out.size
      have hni : (n : Int) < (als.length : Int) := by omega
      have hal : (als.length : Int) ≤ 1000 := by have := HAL.out; omega
      have hn0 : (0 : Int) ≤ (n : Int) := by omega
      obtain ⟨kv, hkv⟩ : ∃ kv, kv = als[n]'hlt := ⟨_, rfl⟩
      have HKV := hid hkv
      rw [← hkv] at r1 r2
      obtain ⟨k, v⟩ := kv
      simp only at r1 r2
      clear q1 q2 hc1 hkv hne
      go_upto_region 6 with fail
      have HA := hid (show Below wa.heap.size wa (wa.alloc (.cells #[.string ⟨k.toArray⟩, .string ⟨v.toArray⟩] 48)) from (Below.refl _ _).alloc (Nat.le_refl _) _)
      have FP := hid (heap_alloc_new wa (.cells #[.string ⟨k.toArray⟩, .string ⟨v.toArray⟩] 48))
      generalize wa.alloc (.cells #[.string ⟨k.toArray⟩, .string ⟨v.toArray⟩] 48) = wb at *
      have T2b := hid ((T2a.out.below HA.out).below (Below.refl _ _).drew)
      have HBb := hid (HB.out.then HA.out)
      generalize wa.heap.size = Pb at *
      obtain ⟨x0, x1, _, _, xl⟩ := box2_cells FP.out
      clear r1 r2 hg2
      have KC := hid (fun (W : World) (a : Option Addr) (c : Nat) (ho : OwnP W wb.drew.heap.size (.slice a als.length c) als) (hb : Below wb.drew.heap.size wb.drew W) => show ∃ g, a = some ⟨g, 0, none⟩ ∧ g < W.heap.size ∧ W.cell? ⟨g, n * 2, none⟩ = some (.string ⟨k.toArray⟩) ∧ W.cell? ⟨g, n * 2 + 1, none⟩ = some (.string ⟨v.toArray⟩) ∧ W.cell? ⟨Pb, 0, none⟩ = some (.string ⟨k.toArray⟩) ∧ W.cell? ⟨Pb, 1, none⟩ = some (.string ⟨v.toArray⟩) from by
        obtain ⟨g, e, hg, hc⟩ := ownP_cells ho (by intro e; rw [e] at hlt; simp at hlt)
        obtain ⟨c1, c2⟩ := hc n hlt
        rw [← HKV.out] at c1 c2
        exact ⟨g, e, hg, c1, c2, (hb.cell (p := ⟨Pb, 0, none⟩) (lt_of_block FP.out)).trans x0, (hb.cell (p := ⟨Pb, 1, none⟩) (lt_of_block FP.out)).trans x1⟩)
      have x0d : wb.drew.cell? ⟨Pb, 0, none⟩ = some (.string ⟨k.toArray⟩) := x0
      have x1d : wb.drew.cell? ⟨Pb, 1, none⟩ = some (.string ⟨v.toArray⟩) := x1
      have xld : Pb < wb.drew.heap.size := xl
      have AS2d := hid (AS2.out _ T2b.out)
      clear x0 x1 xl
      go_region_with (first | (go_at_call 17; refine AS2d.out.mono ?_; rintro e w' ⟨v', rfl, ho, hb⟩; obtain ⟨a2, c2, rfl⟩ := own_sliceP ho; obtain ⟨g2, rfl, hg2, y1, y2, x3, x4⟩ := KC.out _ _ _ ho hb))
      all_goals
        have HB2 := hid (HBb.out.drew.then hb)
        clear x0d x1d xld y1 y2 x3 x4 ho hb hg2
        go_wp2_with fail
        go_roundg (gk - 1)
      all_goals first
        | (have := HG.out; omega)
        | exact ⟨n + 1, by omega, by have := HG.out; omega, by simp, HB2.out⟩
    · have hni : ¬ (n : Int) < (als.length : Int) := by omega
      have HBW := hid (BW.out.then HB.out)
      obtain ⟨L2, hL2⟩ : ∃ L2, L2 = ns ++ [([] : Str)] := ⟨_, rfl⟩
      have HL2 := hid hL2
      have HLD := hid (show L2.length = ns.length + 1 by rw [hL2]; simp)
      clear hL2
      have HNL := hid (show ns.length ≤ 1000000 by rw [HNS.out]; unfold srtT; rw [List.length_mergeSort]; have := O1.out.n512; omega)
      go_wp2_with fail
      refine (LO1.out _ T1a.out).mono ?_
      rintro e wc ⟨vc, rfl, oc, bc⟩
      have BC := hid bc
      have QC := hid oc
      have HSB := hid (show wa.heap.size ≤ wc.heap.size from bc.size)
      obtain ⟨ac, cc, rfl⟩ := own_sliceS oc
      clear oc bc
      go_wp2_with (at_builtin; refine wpList_pushS rfl (.tmp 55) (.tmp 56) rfl wa.heap.size _ ns [] rfl QC.out rfl HNL.out HSB.out ?_; intro vd wd od' gd md; have od : OwnS wd wa.heap.size vd L2 := (by rw [HL2.out]; exact od'); have QD := hid od; have BD := hid (BC.out.grown gd HSB.out (fun k hk => (World.ownsRow.lt QC.out k hk).1)); obtain ⟨ad, cd, rfl⟩ := own_sliceS od; clear od od' gd md)
      have T1d := hid (T1a.out.below BD.out)
      have T2d := hid (T2a.out.below BD.out)
      have BWd := hid (HBW.out.then BD.out)
      have HLZ := hid (show ∀ x ∈ L2, x.length ≤ maxLen by
        intro x hx
        rw [HL2.out] at hx
        rcases List.mem_append.1 hx with hx | hx
        · exact names_sz SZ.out (by rw [← HNS.out]; exact hx)
        · rw [List.mem_singleton.1 hx]; exact Nat.zero_le _)
      clear HB T1a T2a HBW QC HSB BC hni
      go_loopg [59] L2.length (fun g v W => ∃ n : Nat, n ≤ L2.length ∧ L2.length ≤ n + g ∧ v = .int .i64 n ∧ Below wd.heap.size wd W)
      case atStart => exact ⟨0, Nat.zero_le _, by omega, rfl, Below.refl _ _⟩
      case round =>
        obtain ⟨i, hi, hg, rfl, hb⟩ := hrel
        rename World => we
        obtain ⟨go, hgo⟩ : ∃ go, go = gk := ⟨_, rfl⟩
        have HGO := hid hgo
        have HG := hid (show L2.length ≤ i + go by rw [hgo]; exact hg)
        have HBE := hid hb
        clear hg hb hgo
        by_cases hlt2 : i < L2.length
        · have T1 := hid (T1d.out.below HBE.out)
          have T2 := hid (T2d.out.below HBE.out)
          have BW := hid (BWd.out.then HBE.out)
          have BE := HBE
          obtain ⟨g1, o1, rfl, hg1, hc1⟩ := rdS_at (OwnS.rd QD.out) i hlt2
          have r1 := (HBE.out.cell (p := ⟨g1, o1 + i, none⟩) hg1).trans hc1
          have hg2 : g1 < we.heap.size := Nat.lt_of_lt_of_le hg1 HBE.out.size
          have HL := hid (HLZ.out _ (List.getElem_mem hlt2))
          have hni : (i : Int) < (L2.length : Int) := by omega
          have hnl : (L2.length : Int) ≤ 1000001 := by have := HNL.out; have := HLD.out; omega
          have hn0 : (0 : Int) ≤ (i : Int) := by omega
          generalize L2[i]'hlt2 = loc at *
          clear hc1
          have PA1 := hid (fun W (h : TbP B0 W p1 t1) => h.paths O1.out loc HL.out)
          have PA2 := hid (fun W (h : TbP B1 W p2 t2) => h.paths O2.out loc HL.out)
          rw [← HS.out.each loc] at PA2
          obtain ⟨pl, hpl⟩ : ∃ pl, pl = pathsF t1 loc := ⟨_, rfl⟩
          rw [← hpl] at PA1 PA2
          have HPL := hid hpl
          clear hpl
          go_wp2_with fail
          refine (PA1.out _ T1.out).mono ?_
          rintro e wt10 ⟨vt10, rfl, ot10, bt10⟩
          have T1 := hid (T1.out.below bt10)
          have T2 := hid (T2.out.below bt10)
          have BW := hid (BW.out.then bt10)
          have BE := hid (BE.out.then bt10)
          obtain ⟨at10, ct10, rfl⟩ := own_sliceS ot10
          have Q1 := hid ot10
          clear ot10
          clear bt10
          go_wp2_with fail
          refine (PA2.out _ T2.out).mono ?_
          rintro e wt11 ⟨vt11, rfl, ot11, bt11⟩
          have T1 := hid (T1.out.below bt11)
          have T2 := hid (T2.out.below bt11)
          have BW := hid (BW.out.then bt11)
          have BE := hid (BE.out.then bt11)
          have Q1 := hid (own_below Q1.out bt11)
          obtain ⟨at11, ct11, rfl⟩ := own_sliceS ot11
          have Q2 := hid ot11
          clear ot11
          clear bt11
          go_wp2_with fail
          refine (texts_any _ _ _ pl (OwnS.rd Q1.out) (OwnS.rd Q2.out)).mono ?_
          rintro e wt12 ⟨rfl, bt12⟩
          have T1 := hid (T1.out.below bt12)
          have T2 := hid (T2.out.below bt12)
          have BW := hid (BW.out.then bt12)
          have BE := hid (BE.out.then bt12)
          clear bt12
          go_wp2_with fail
          clear Q1 Q2
          refine (PA1.out _ T1.out).mono ?_
          rintro e wt13 ⟨vt13, rfl, ot13, bt13⟩
          have T1 := hid (T1.out.below bt13)
          have T2 := hid (T2.out.below bt13)
          have BW := hid (BW.out.then bt13)
          have BE := hid (BE.out.then bt13)
          obtain ⟨at13, ct13, rfl⟩ := own_sliceS ot13
          have Q1 := hid ot13
          clear ot13
          clear bt13
          go_wp2_with fail
          have HPN := hid (show pl.length ≤ 16384 by rw [HPL.out]; unfold pathsF srtT; rw [List.length_mergeSort, List.length_map]; exact rows_le O1.out loc)
          go_loopg [75] pl.length (fun g v W => ∃ m : Nat, m ≤ pl.length ∧ pl.length ≤ m + g ∧ v = .int .i64 m ∧ Below wt13.heap.size wt13 W)
          case atStart => exact ⟨0, Nat.zero_le _, by omega, rfl, Below.refl _ _⟩
          case round =>
            obtain ⟨m, hm, hg, rfl, hb⟩ := hrel
            rename World => wf
            have HG2 := hid hg
            have HBF := hid hb
            clear hg hb r1 hg2
            have T1 := hid (T1.out.below HBF.out)
            have T2 := hid (T2.out.below HBF.out)
            have BE := hid (BE.out.then HBF.out)
            have BW := hid (BW.out.then HBF.out)
            have BF := HBF
            by_cases hlt3 : m < pl.length
            · obtain ⟨g2, o2, rfl, hgg, hc2⟩ := rdS_at (OwnS.rd Q1.out) m hlt3
              have r2 := (HBF.out.cell (p := ⟨g2, o2 + m, none⟩) hgg).trans hc2
              have hgf : g2 < wf.heap.size := Nat.lt_of_lt_of_le hgg HBF.out.size
              have hmi : (m : Int) < (pl.length : Int) := by omega
              have hm0 : (0 : Int) ≤ (m : Int) := by omega
              have hpl : (pl.length : Int) ≤ 16384 := by have := HPN.out; omega
              have hmem := List.getElem_mem hlt3
              clear hc2
              generalize pl[m]'hlt3 = p at *
              have hin : p ∈ pathsF t1 loc := by rw [← HPL.out]; exact hmem
              have HP2 := hid (paths_sz SZ.out hin)
              have HIS := hid (path_has hin)
              clear hin hmem
              have GT1 := hid (fun W (h : TbP B0 W p1 t1) => h.get loc p HL.out HP2.out)
              have GT2 := hid (fun W (h : TbP B1 W p2 t2) => h.get loc p HL.out HP2.out)
              rw [← rText_eq (HS.out.text loc p), ← isSome_eq (HS.out.text loc p), HIS.out] at GT2
              rw [HIS.out] at GT1
              generalize rText (findR t1.rows loc p) = tx at *
              have hb1 : (tx == tx) = true := by simp
              have hb2 : (tx != tx) = false := by simp
              go_wp2_with fail
              refine (GT1.out _ T1.out).mono ?_
              rintro e wt14 ⟨rfl, bt14⟩
              have T1 := hid (T1.out.below bt14)
              have T2 := hid (T2.out.below bt14)
              have BW := hid (BW.out.then bt14)
              have BE := hid (BE.out.then bt14)
              have BF := hid (BF.out.then bt14)
              clear bt14
              go_wp2_with fail
              refine (GT2.out _ T2.out).mono ?_
              rintro e wt15 ⟨rfl, bt15⟩
              have T1 := hid (T1.out.below bt15)
              have T2 := hid (T2.out.below bt15)
              have BW := hid (BW.out.then bt15)
              have BE := hid (BE.out.then bt15)
              have BF := hid (BF.out.then bt15)
              clear bt15
              go_wp2_with fail
              go_roundg (gk - 1)
              case measure => have := HG2.out; omega
              case rel => exact ⟨m + 1, by omega, by have := HG2.out; omega, by simp, BF.out⟩
            · have hmi : ¬ (m : Int) < (pl.length : Int) := by omega
              go_wp2_with fail
              go_roundg (go - 1)
              case measure => have := HG.out; have := HGO.out; omega
              case rel => exact ⟨i + 1, by omega, by have := HG.out; omega, by simp, BE.out⟩
        · have hni : ¬ (i : Int) < (L2.length : Int) := by omega
          have BW := hid (BWd.out.then HBE.out)
          go_wp2_with fail
          exact bodyPost_ret (v := .bool true) (by simp [results, Tryz.results29, go_sem]) rfl ⟨rfl, BW.out⟩
end Go.Proofs.YtjlfchnnhglbjaaGreat
