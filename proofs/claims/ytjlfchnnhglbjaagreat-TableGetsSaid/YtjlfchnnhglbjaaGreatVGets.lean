/- TableGets: what each locale says at each path, and where it was said, for all documents, locales and paths. No condition. -/
/- Several texts in one: RtbGets, TableGets. (joined by wip/pgroup.py) -/
import Derived.Test.YtjlfchnnhglbjaaGreatVS
import Derived.Test.YtjlfchnnhglbjaaGreatRows
import Derived.Test.YtjlfchnnhglbjaaGreatVG
import Derived.WalkKit
import Derived.ProofKit
import Derived.OpenShut
import Derived.ShutString
import Derived.ChangeOld
import Derived.ChangeSlices
import Derived.ChangeArms
import Derived.Below

/- The walk of TableGets. -/
set_option linter.unusedVariables false
set_option linter.unusedSimpArgs false
namespace Go.Proofs.YtjlfchnnhglbjaaGreat
open Go.RowKit Go.Lib Go.Sort Go.Maps Go.WideMaps

theorem ext600 (s : Str) : ByteArray.extract ⟨s.toArray⟩ 0 (min (s.length : Int) 600).toNat = ⟨(s.take 600).toArray⟩ := by
  rw [ext_at]
  congr 2
  rw [List.drop_zero, Nat.sub_zero]
  by_cases h : s.length ≤ 600
  · rw [show (min (s.length : Int) 600).toNat = s.length by omega, List.take_of_length_le (by simp), List.take_of_length_le h]
  · rw [show (min (s.length : Int) 600).toNat = 600 by omega]
theorem als_sz {l : List Dc} (hs : SzL l) (hz : (newF l).1.err = 0) : ∀ r ∈ (newF l).2.als, r.path.length ≤ maxLen := by
  obtain ⟨_, h2, h3, h4⟩ := docs_inv l 0 Inv.zero TbOk.zero hz
  rw [List.nil_append, List.nil_append] at h3
  intro r hr
  obtain ⟨l', x, hx, _, e, _⟩ := (h3.als r.path r.text).1 (by
    have := als_find h4 hr
    rw [this]; rfl)
  obtain ⟨d, hd, y, hy, e2⟩ := evs_mem.1 hx
  cases e2
  rw [← e]; exact (hs d hd).2 _ hy
theorem TbP.alias_ {B0 : Nat} {W : World} {pt : Nat} {t : Tb} (h : TbP B0 W pt t) (g : Str) (hg : g.length ≤ maxLen) : Calls Tryz.prog 27 #[.pointer (some ⟨pt, 0, none⟩), .string ⟨g.toArray⟩] W fun e w' => e = .returned (.tuple #[.int .i64 (rFile (findR t.als tRoot g)), .int .i64 (rAt (findR t.als tRoot g)), .bool (findR t.als tRoot g).isSome]) ∧ Below W.heap.size W w' := by
  obtain ⟨bv, ba, bn, bp, N, V, h⟩ := h
  exact alias_any h g hg
/-- a row's locale and path -/
def rLoc (r : Option Rw) : Str := (r.map (·.loc)).getD []
def rPth (r : Option Rw) : Str := (r.map (·.path)).getD []
theorem rRow_eq (r : Option Rw) : rRow r = .agg #[.string ⟨(rLoc r).toArray⟩, .string ⟨(rPth r).toArray⟩, .string ⟨(rText r).toArray⟩, .int .i64 (rFile r), .int .i64 (rAt r)] := by cases r <;> rfl

set_option maxRecDepth 100000 in
set_option maxHeartbeats 16000000 in
theorem gets12_any (w : World) (l : List Dc) (v : Value) (loc path : Str) (hd : RdD w v l) (hs : SzL l) (hloc : loc.length ≤ maxLen) (hpath : path.length ≤ maxLen) :
    Calls Tryz.prog 5 #[v, .string ⟨loc.toArray⟩, .string ⟨path.toArray⟩] w fun e w' => e = .returned (.bool true) ∧ Below w.heap.size w w' := by
  have WK := hid (fun W => twakes_any W)
  have CU := hid (fun W h => cut_any W l v h)
  have HD := hid hd
  have HSZ := hid (sz_cut hs)
  have H12 := hid (cutD_len l)
  have H40 := hid (fun d h => cutD_40 (l := l) (d := d) h)
  have HLOC := hid hloc
  have HP6 := hid (show (path.take 600).length ≤ maxLen by rw [List.length_take]; omega)
  have HEX := hid (ext600 path)
  clear hd hs hloc
  go_enter Tryz.func5, Tryz.ntmps5
  go_wp2_with fail
  refine (WK.out w).mono ?_
  rintro e w1 ⟨rfl, hb1⟩
  have HD1 := hid (show RdD w1 v l from by
    obtain ⟨zs, h1, h2, h3⟩ := HD.out
    exact ⟨zs, h1, h2.below hb1, fun z hz => (h3 z hz).below hb1⟩)
  have B1 := hid hb1
  clear hb1
  go_wp2_with fail
  refine (CU.out w1 HD1.out).mono ?_
  rintro e w2 ⟨v2, rfl, hod, hb2⟩
  have B2 := hid (B1.out.then hb2)
  have OD := hid hod
  clear hb2 hod HD HD1 B1
  generalize cutD l = D at *
  go_wp2_with fail
  refine (made12_any w2 D v2 OD.out.rd HSZ.out H12.out H40.out).mono ?_
  rintro x w3 ⟨hb3, hx⟩
  have B3 := hid (B2.out.then hb3)
  clear hb3 B2 OD WK CU
  rcases hx with ⟨hz, Bt, Br, rfl, tp, rp, ok⟩ | ⟨hz, rfl⟩
  · have T3 := hid tp
    have R3 := hid rp
    have OK := hid ok
    have HCN := hid (show (newF D).2.rows.length + (newF D).2.als.length ≤ 480 by have h1 := new_cnt D 40 H40.out; have h2 : 40 * D.length ≤ 40 * 12 := Nat.mul_le_mul_left _ H12.out; omega)
    have HNM := hid ok.n512
    have SZT := hid (szT_of HSZ.out hz)
    have SZA := hid (als_sz HSZ.out hz)
    clear tp rp ok hz
    generalize (newF D).2 = t at *
    have HNZ := hid (fun s (h : s ∈ srtT t.names) => names_sz SZT.out h)
    have HPZ := hid (show ∀ s ∈ srtT t.paths, s.length ≤ maxLen from fun s h => by
      obtain ⟨r, hr, e⟩ := OK.out.pr s ((srtT_perm _).mem_iff.1 h)
      rw [← e]; exact SZT.out.rows r hr)
    have HAZ := hid (show ∀ p ∈ aliasesF t, p.1.length ≤ maxLen from fun p h => by
      have h2 := (aliasesF_perm t).mem_iff.1 h
      obtain ⟨r, hr, rfl⟩ := List.mem_map.1 h2
      exact SZA.out r hr)
    have PA := hid (fun W (h : TbP w2.heap.size W Bt t) s (hs : s.length ≤ maxLen) => h.paths OK.out s hs)
    have RP := hid (fun W (h : RfP w2.heap.size W Br t) s => rpaths_any h s (by have := HCN.out; omega))
    have GE := hid (fun W (h : TbP w2.heap.size W Bt t) s p (hs : s.length ≤ maxLen) (hp : p.length ≤ maxLen) => h.get s p hs hp)
    have WH := hid (fun W (h : TbP w2.heap.size W Bt t) s p (hs : s.length ≤ maxLen) (hp : p.length ≤ maxLen) => h.where_ s p hs hp)
    have RG := hid (fun W (h : RfP w2.heap.size W Br t) s p => rget_any h s p)
    have AA := hid (fun W (h : TbP w2.heap.size W Bt t) g (hg : g.length ≤ maxLen) => h.alias_ g hg)
    have RAL := hid (fun W (h : RfP w2.heap.size W Br t) g => ralias_any h g)
    have GR := hid (fun W (h : RfP w2.heap.size W Br t) => rgroups_any h OK.out (by have := HCN.out; omega))
    have RL := hid (fun W (h : RfP w2.heap.size W Br t) => rlocales_any h (by have := HNM.out; omega))
    have RA := hid (fun W (h : RfP w2.heap.size W Br t) => rall_any h false (by have := HCN.out; omega))
    rw [allR_eq OK.out] at RA
    have TX := hid (fun W va vb L (h1 : RdS W va L) (h2 : RdS W vb L) => texts_any W va vb L h1 h2)
    have HLA := hid (show (aliasesF t).length ≤ 480 by unfold aliasesF; rw [List.length_mergeSort, alP_len]; have := HCN.out; omega)
    have HLN := hid (show (srtT t.names).length ≤ 512 by unfold srtT; rw [List.length_mergeSort]; exact HNM.out)
    have HLP := hid (show (srtT t.paths).length ≤ 16384 by unfold srtT; rw [List.length_mergeSort]; exact OK.out.p16)
    generalize srtT t.names = ns at *
    generalize srtT t.paths = ps at *
    generalize aliasesF t = als at *
    have hmn1 : (0 : Int) ≤ min (path.length : Int) 600 := by omega
    have hmn2 : min (path.length : Int) 600 ≤ (path.length : Int) := by omega
    go_upto_region 8 with fail
    rw [HEX.out]
    clear hmn1 hmn2 HEX
    generalize path.take 600 = pth at *
    go_wp2_with fail
    refine (RL.out w3 R3.out).mono ?_
    rintro e wa ⟨va, rfl, oa, hba⟩
    have Oa := hid (ownT_S.2 oa)
    have Ba := hid hba
    obtain ⟨aa, ca, rfl⟩ := own_sliceS oa
    clear oa hba
    have HRw := hid (show RdL encT (wa.alloc (.cells #[.string ⟨loc.toArray⟩, .string ⟨#[]⟩] 9)) (.slice (some ⟨wa.heap.size, 0, none⟩) 2 2) [loc, []] from RdL.of_row (l := [loc, []]) (cp := 2) encT (heap_alloc_new wa _) rfl (by simp) (by simp))
    have HOw := hid (Oa.out.below (show Below wa.heap.size wa (wa.alloc (.cells #[.string ⟨loc.toArray⟩, .string ⟨#[]⟩] 9)) from (Below.refl _ _).alloc (Nat.le_refl _) _))
    have Baw := hid (Ba.out.alloc Ba.out.size (.cells #[.string ⟨loc.toArray⟩, .string ⟨#[]⟩] 9))
    have HBZ := hid Baw.out.size
    obtain ⟨L1, hL1⟩ : ∃ L1, L1 = ns ++ [loc, []] := ⟨_, rfl⟩
    have HL1 := hid hL1
    have HLL := hid (show L1.length = ns.length + 2 by rw [hL1]; simp)
    have HZ1 := hid (show ∀ s ∈ L1, s.length ≤ maxLen by
      rw [hL1]; intro s h
      rcases List.mem_append.1 h with h | h
      · exact HNZ.out s h
      · simp at h
        rcases h with rfl | rfl
        · exact HLOC.out
        · simp [maxLen])
    clear hL1
    go_wp2_with (at_builtin; refine wpList_appL (E := encT) rfl (.tmp 47) (.tmp 49) rfl Tryz.underlying41 infoS rfl (by decide) w3.heap.size _ ns [loc, []] rfl HOw.out rfl HRw.out (by have := HLN.out; unfold maxLen; simp; omega) (by have := HLN.out; simp; omega) HBZ.out ?_; intro vb wb own gr; have Ob := hid (show OwnS wb w3.heap.size vb L1 by rw [HL1.out]; exact ownT_S.1 own); have Bb := hid (Baw.out.grown gr HBZ.out (fun k hk => (World.ownsRow.lt HOw.out k hk).1)); clear own gr; obtain ⟨ab, cb, rfl⟩ := own_sliceS Ob.out)
    go_loopg [52] L1.length (fun g v52 W => ∃ n : Nat, n ≤ L1.length ∧ L1.length ≤ n + g ∧ v52 = .int .i64 n ∧ OwnS W w3.heap.size (.slice ab L1.length cb) L1 ∧ Below w3.heap.size w3 W)
    case atStart => exact ⟨0, Nat.zero_le _, by omega, rfl, Ob.out, Bb.out⟩
    case round =>
      obtain ⟨n, hn, hg, rfl, ho, hb⟩ := hrel
      rename World => wc
      obtain ⟨go, hgo⟩ : ∃ go, go = gk := ⟨_, rfl⟩
      have HG := hid (show L1.length ≤ n + go by rw [hgo]; exact hg)
      have HGO := hid hgo
      have HO := hid ho
      have HB := hid hb
      clear hg hgo ho hb Ob Bb HRw HOw Baw
      by_cases hlt : n < L1.length
      · have hni : (n : Int) < (L1.length : Int) := by omega
        have hL1z : (L1.length : Int) ≤ 9223372036854775807 := by have := HLL.out; have := HLN.out; omega
        have hn0 : (0 : Int) ≤ (n : Int) := by omega
        have hso := ownT_S.2 HO.out
        obtain ⟨gb, rfl⟩ := OwnL.some' hso (by intro e; rw [e] at hlt; simp at hlt)
        obtain ⟨r0, _, gl⟩ := hso.cell n 0 (.string ⟨(L1[n]'hlt).toArray⟩) hlt rfl
        rw [Nat.mul_one, Nat.add_zero] at r0
        have HSL := hid (HZ1.out _ (List.getElem_mem hlt))
        generalize L1[n]'hlt = s at *
        clear hso
        have Tc := hid (T3.out.below HB.out)
        have Rc := hid (R3.out.below HB.out)
        go_wp2_with fail
        refine (PA.out wc Tc.out s HSL.out).mono ?_
        rintro e wd ⟨vd, rfl, od, hbd⟩
        have Od := hid (show OwnS wd _ vd _ from od)
        have Rd := hid (Rc.out.below hbd)
        have Bd := hid hbd
        clear od hbd r0 gl
        go_wp2_with fail
        refine (RP.out wd Rd.out s).mono ?_
        rintro e we ⟨ve, rfl, oe, hbe⟩
        have TX1 := hid (TX.out we vd ve _ (show OwnS we _ vd _ from own_below Od.out hbe).rd (show OwnS we _ ve _ from oe).rd)
        have Be := hid (Bd.out.then hbe)
        clear oe hbe Od Rd Bd
        go_wp2_with fail
        refine TX1.out.mono ?_
        rintro e wf ⟨rfl, hbf⟩
        have Bf := hid (Be.out.then hbf)
        have Rf := hid (Rc.out.below Bf.out)
        clear hbf TX1 Be
        go_wp2_with fail
        refine (RA.out wf Rf.out).mono ?_
        rintro e wg ⟨vg, rfl, og, hbg⟩
        have Og := hid (ownT_S.2 og)
        have Bg := hid hbg
        obtain ⟨ag, cg, rfl⟩ := own_sliceS og
        clear og hbg
        have HAw := hid (show Below wf.heap.size wf (wg.alloc (.cells #[.string ⟨pth.toArray⟩] 9)) from Bg.out.alloc Bg.out.size _)
        have HBY := hid Bg.out.size
        obtain ⟨L2, hL2⟩ : ∃ L2, L2 = ps ++ [pth] := ⟨_, rfl⟩
        have HL2 := hid hL2
        have HZ2 := hid (show ∀ s ∈ L2, s.length ≤ maxLen by
          rw [hL2]; intro s h
          rcases List.mem_append.1 h with h | h
          · exact HPZ.out s h
          · rw [List.mem_singleton.1 h]; exact HP6.out)
        have HLL2 := hid (show L2.length = ps.length + 1 by rw [hL2]; simp)
        clear hL2
        go_wp2_with (at_builtin; refine wpList_pushS rfl (.tmp 65) (.tmp 67) rfl wf.heap.size _ ps pth rfl (ownT_S.1 Og.out) rfl (by have := HLP.out; omega) HBY.out ?_; intro vh wh own gr mv; have Oh := hid (show OwnS wh wf.heap.size vh L2 by rw [HL2.out]; exact own); have Bh := hid (Bg.out.grown gr HBY.out (fun k hk => (World.ownsRow.lt Og.out k hk).1)); clear own gr mv; obtain ⟨ah, ch, rfl⟩ := own_sliceS Oh.out)
        go_loopg [70] L2.length (fun g v70 W => ∃ m : Nat, m ≤ L2.length ∧ L2.length ≤ m + g ∧ v70 = .int .i64 m ∧ OwnS W wf.heap.size (.slice ah L2.length ch) L2 ∧ Below wf.heap.size wf W)
        case atStart => exact ⟨0, Nat.zero_le _, by omega, rfl, Oh.out, Bh.out⟩
        case round =>
          obtain ⟨m, hm, hg2, rfl, ho, hb⟩ := hrel
          rename World => wi
          have HG2 := hid hg2
          have HO2 := hid ho
          have HB2 := hid hb
          clear hg2 ho hb Oh Bh Og
          by_cases hlt2 : m < L2.length
          · have hmi : (m : Int) < (L2.length : Int) := by omega
            have hL2z : (L2.length : Int) ≤ 9223372036854775807 := by have h1 := HLL2.out; first | (have h2 := HLP.out; omega) | (have h2 := HLA.out; omega)
            have hm0 : (0 : Int) ≤ (m : Int) := by omega
            have hso := ownT_S.2 HO2.out
            obtain ⟨gh, rfl⟩ := OwnL.some' hso (by intro e; rw [e] at hlt2; simp at hlt2)
            obtain ⟨r0, _, gl⟩ := hso.cell m 0 (.string ⟨(L2[m]'hlt2).toArray⟩) hlt2 rfl
            rw [Nat.mul_one, Nat.add_zero] at r0
            have HPL := hid (HZ2.out _ (List.getElem_mem hlt2))
            generalize L2[m]'hlt2 = p at *
            clear hso
            have Ti := hid ((T3.out.below HB.out).below (Bf.out.then HB2.out))
            have Ri := hid (Rf.out.below HB2.out)
            have GEi := hid (GE.out wi Ti.out s p HSL.out HPL.out)
            have WHi := hid (fun W (h : Below wi.heap.size wi W) => WH.out W (Ti.out.below h) s p HSL.out HPL.out)
            have RGi := hid (fun W (h : Below wi.heap.size wi W) => RG.out W (Ri.out.below h) s p)
            rw [rRow_eq] at RGi
            generalize rLoc (findR t.rows s p) = x0 at *
            generalize rPth (findR t.rows s p) = x1 at *
            generalize rText (findR t.rows s p) = x2 at *
            generalize rFile (findR t.rows s p) = x3 at *
            generalize rAt (findR t.rows s p) = x4 at *
            generalize (findR t.rows s p).isSome = x5 at *
            go_wp2_with fail
            refine GEi.out.mono ?_
            rintro e wj ⟨rfl, hbj⟩
            have Bj := hid hbj
            clear hbj r0 gl
            go_wp2_with fail
            refine (WHi.out wj Bj.out).mono ?_
            rintro e wk ⟨rfl, hbk⟩
            have Bk := hid (Bj.out.then hbk)
            clear hbk
            go_wp2_with fail
            refine (RGi.out wk Bk.out).mono ?_
            rintro e wl ⟨rfl, hbl⟩
            have Bl := hid (Bk.out.then hbl)
            clear hbl Bk Bj
            have HAl := hid (show Below wi.heap.size wi (wl.alloc (.cells #[.string ⟨x0.toArray⟩, .string ⟨x1.toArray⟩, .string ⟨x2.toArray⟩, .int .i64 x3, .int .i64 x4] 56)) from Bl.out.alloc Bl.out.size _)
            have Fl := hid (heap_alloc_new wl (.cells #[.string ⟨x0.toArray⟩, .string ⟨x1.toArray⟩, .string ⟨x2.toArray⟩, .int .i64 x3, .int .i64 x4] 56))
            go_upto_region 19 with fail
            generalize wl.alloc (.cells #[.string ⟨x0.toArray⟩, .string ⟨x1.toArray⟩, .string ⟨x2.toArray⟩, .int .i64 x3, .int .i64 x4] 56) = wm at *
            obtain ⟨c0, c1, c2, c3, c4, cl⟩ := box5_cells Fl.out
            go_wp2_with fail
            go_roundg (gk - 1)
            case measure => have := HG2.out; omega
            case rel => exact ⟨m + 1, by omega, by have := HG2.out; omega, by simp, own_below HO2.out HAl.out, HB2.out.then HAl.out⟩
          · have hmi : ¬ (m : Int) < (L2.length : Int) := by omega
            go_wp2_with fail
            go_roundg (go - 1)
            case measure => have := HG.out; have := HGO.out; omega
            case rel => exact ⟨n + 1, by omega, by have := HG.out; omega, by simp, own_below HO.out (Bf.out.then HB2.out), HB.out.then (Bf.out.then HB2.out)⟩
      · have hni : ¬ (n : Int) < (L1.length : Int) := by omega
        have Rc := hid (R3.out.below HB.out)
        go_wp2_with fail
        refine (GR.out wc Rc.out).mono ?_
        rintro e wd ⟨vd, rfl, od, hbd⟩
        have Od := hid od
        have Bd := hid hbd
        obtain ⟨ad, cd, rfl⟩ := own_sliceP od
        clear od hbd
        have HBY := hid Bd.out.size
        obtain ⟨L2, hL2⟩ : ∃ L2, L2 = als ++ [(pth, ([] : Str))] := ⟨_, rfl⟩
        have HL2 := hid hL2
        have HZ2 := hid (show ∀ p ∈ L2, p.1.length ≤ maxLen by
          rw [hL2]; intro p h
          rcases List.mem_append.1 h with h | h
          · exact HAZ.out p h
          · rw [List.mem_singleton.1 h]; exact HP6.out)
        have HLL2 := hid (show L2.length = als.length + 1 by rw [hL2]; simp)
        clear hL2
        go_wp2_with (at_builtin; refine wpList_pushP rfl (.tmp 125) (.tmp 128) rfl wc.heap.size _ als (pth, ([] : Str)) rfl Od.out rfl (by have := HLA.out; omega) HBY.out ?_; intro vh wh own gr mv; have Oh := hid (show OwnP wh wc.heap.size vh L2 by rw [HL2.out]; exact own); have Bh := hid (Bd.out.grown gr HBY.out (fun k hk => (World.ownsRow.lt Od.out k hk).1)); clear own gr mv; obtain ⟨ah, ch, rfl⟩ := own_sliceP Oh.out)
        go_loopg [131] L2.length (fun g v131 W => ∃ m : Nat, m ≤ L2.length ∧ L2.length ≤ m + g ∧ v131 = .int .i64 m ∧ OwnP W wc.heap.size (.slice ah L2.length ch) L2 ∧ Below wc.heap.size wc W)
        case atStart => exact ⟨0, Nat.zero_le _, by omega, rfl, Oh.out, Bh.out⟩
        case round =>
          obtain ⟨m, hm, hg2, rfl, ho, hb⟩ := hrel
          rename World => wi
          have HG2 := hid hg2
          have HO2 := hid ho
          have HB2 := hid hb
          clear hg2 ho hb Oh Bh Od
          by_cases hlt2 : m < L2.length
          · have hmi : (m : Int) < (L2.length : Int) := by omega
            have hL2z : (L2.length : Int) ≤ 9223372036854775807 := by have h1 := HLL2.out; first | (have h2 := HLP.out; omega) | (have h2 := HLA.out; omega)
            have hm0 : (0 : Int) ≤ (m : Int) := by omega
            have hso := ownPr_P.2 HO2.out
            obtain ⟨gh, rfl⟩ := OwnL.some' hso (by intro e; rw [e] at hlt2; simp at hlt2)
            obtain ⟨r0, _, gl⟩ := hso.cell m 0 (.string ⟨(L2[m]'hlt2).1.toArray⟩) hlt2 rfl
            obtain ⟨r1, _, _⟩ := hso.cell m 1 (.string ⟨(L2[m]'hlt2).2.toArray⟩) hlt2 rfl
            rw [Nat.add_zero] at r0
            have HPL := hid (HZ2.out _ (List.getElem_mem hlt2))
            generalize L2[m]'hlt2 = kv at *
            obtain ⟨k, u⟩ := kv
            simp only at r0 r1 HPL
            clear hso
            have HA1 := hid (show Below wi.heap.size wi (wi.alloc (.cells #[.string ⟨k.toArray⟩, .string ⟨u.toArray⟩] 48)) from (Below.refl _ _).alloc (Nat.le_refl _) _)
            have F1 := hid (heap_alloc_new wi (.cells #[.string ⟨k.toArray⟩, .string ⟨u.toArray⟩] 48))
            go_upto_region 26 with fail
            generalize wi.alloc (.cells #[.string ⟨k.toArray⟩, .string ⟨u.toArray⟩] 48) = wj at *
            have Ti := hid ((T3.out.below HB.out).below (HB2.out.then HA1.out))
            have Ri := hid ((Rc.out.below HB2.out).below HA1.out)
            have AAi := hid (AA.out wj Ti.out k HPL.out)
            have RAi := hid (fun W (h : Below wj.heap.size wj W) => RAL.out W (Ri.out.below h) k)
            rw [rRow_eq] at RAi
            generalize rLoc (findR t.als tRoot k) = x0 at *
            generalize rPth (findR t.als tRoot k) = x1 at *
            generalize rText (findR t.als tRoot k) = x2 at *
            generalize rFile (findR t.als tRoot k) = x3 at *
            generalize rAt (findR t.als tRoot k) = x4 at *
            generalize (findR t.als tRoot k).isSome = x5 at *
            obtain ⟨y0, y1, _, _, yl⟩ := box2_cells F1.out
            clear r0 r1 gl
            go_wp2_with fail
            refine AAi.out.mono ?_
            rintro e wk ⟨rfl, hbk⟩
            have Bk := hid hbk
            have F2 := hid ((hbk.block _ (lt_of_block F1.out)).trans F1.out)
            clear hbk y0 y1 yl F1
            obtain ⟨y0, y1, _, _, yl⟩ := box2_cells F2.out
            go_wp2_with fail
            refine (RAi.out wk Bk.out).mono ?_
            rintro e wl ⟨rfl, hbl⟩
            have Bl := hid ((HA1.out.then Bk.out).then hbl)
            clear hbl Bk y0 y1 yl
            have HAl := hid (show Below wi.heap.size wi (wl.alloc (.cells #[.string ⟨x0.toArray⟩, .string ⟨x1.toArray⟩, .string ⟨x2.toArray⟩, .int .i64 x3, .int .i64 x4] 56)) from Bl.out.alloc Bl.out.size _)
            have Fl := hid (heap_alloc_new wl (.cells #[.string ⟨x0.toArray⟩, .string ⟨x1.toArray⟩, .string ⟨x2.toArray⟩, .int .i64 x3, .int .i64 x4] 56))
            go_upto_region 28 with fail
            generalize wl.alloc (.cells #[.string ⟨x0.toArray⟩, .string ⟨x1.toArray⟩, .string ⟨x2.toArray⟩, .int .i64 x3, .int .i64 x4] 56) = wm at *
            obtain ⟨c0, c1, c2, c3, c4, cl⟩ := box5_cells Fl.out
            go_wp2_with fail
            go_roundg (gk - 1)
            case measure => have := HG2.out; omega
            case rel => exact ⟨m + 1, by omega, by have := HG2.out; omega, by simp, own_below HO2.out HAl.out, HB2.out.then HAl.out⟩
          · have hmi : ¬ (m : Int) < (L2.length : Int) := by omega
            go_wp2_with fail
            exact bodyPost_ret (v := .bool true) (by simp [results, Tryz.results5, go_sem]) rfl ⟨rfl, B3.out.then (HB.out.then HB2.out)⟩
  · go_wp2_with fail
    exact bodyPost_ret (v := .bool true) (by simp [results, Tryz.results5, go_sem]) rfl ⟨rfl, B3.out⟩
end Go.Proofs.YtjlfchnnhglbjaaGreat

/- TableGets: what each locale says at each path, and where it was said, for all documents, locales and paths. No condition. -/
namespace Go.Proofs.YtjlfchnnhglbjaaGreat
open Go.ChangeShapes Go.WideShapes Go.ChangeAt Go.RowKit
open Go.ChangeMaps (open_string shut_string)
set_option linter.unusedVariables false

theorem gets12_bytes (w : World) (l : List Dc) (v : Value) (a b : ByteArray) (hd : RdD w v l) (hs : SzL l) (ha : a.size ≤ maxLen) (hb : b.size ≤ maxLen) :
    Calls Tryz.prog 5 #[v, .string a, .string b] w fun e w' => e = .returned (.bool true) ∧ Below w.heap.size w w' := by
  have := gets12_any w l v a.data.toList b.data.toList hd hs (by rw [Array.length_toList]; exact ha) (by rw [Array.length_toList]; exact hb)
  have e : ∀ c : ByteArray, (⟨c.data.toList.toArray⟩ : ByteArray) = c := fun c => by apply ByteArray.ext; simp
  rw [e, e] at this
  exact this
theorem own : ownKnob Tryz.prog.godebug = none := by kernel_rfl
theorem laidOut : laidOutB Tryz.prog = true := by kernel_rfl

set_option maxRecDepth 100000 in
theorem lifted (os : Os) (started : os.Started) (H : Type) (enc : TypeId × Value → H) :
    ReturnsInHanded {} Tryz.checked os 5 .any (Rows.tableGetsSpec.pre6 enc Tryz.prog Tryz.f5 Rows.tableGetsRow.domain false) (Rows.tableGetsSpec.post enc Tryz.prog Tryz.f5 false true false false) := by
  refine returnsInHanded_of_change (C := Tryz.checked) own started (by kernel_rfl) Tryz.func5
    (ChangeSpec.witness6 (enc := enc) (C := Tryz.checked) false ⟨#[], #[.slice none 0 0, .string ByteArray.empty, .string ByteArray.empty], []⟩ 8 (by kernel_rfl) (by kernel_rfl) (by kernel_rfl) (by kernel_rfl)) ?_
  intro W base args ds gs before hval0 hW hcnd _
  have hval : ∀ (j : Nat) t v, Tryz.f5.params[j]? = some t → args[j]? = some v → Value.okWide Tryz.prog W .any base t v := hval0
  have hW' := hW
  obtain ⟨p, q, hA0, hV, rfl, hfz, hnd⟩ := hW
  have hA : DataW.TrodAll enc Tryz.prog W 0 (fun _ => true) true Tryz.f5.params.toList args.toList ds p := hA0
  rw [Tryz.params5] at hA hval
  obtain ⟨v0, vs0, d0, ds0, p0, q0, hargs, rfl, rfl, h0, r0⟩ := trodAll_cons hA
  obtain ⟨v1, vs1, d1, ds1, p1, q1, rfl, rfl, rfl, h1, r1⟩ := trodAll_cons r0
  obtain ⟨v2, vs2, d2, ds2, p2, q2, rfl, rfl, rfl, h2, r2⟩ := trodAll_cons r1
  obtain ⟨rfl, rfl, rfl⟩ := trodAll_nil r2
  obtain rfl : args = #[v0, v1, v2] := by cases args; simp_all
  obtain ⟨rfl, rfl⟩ := trodVars_none hV
  obtain ⟨l, rd, sz⟩ := open_docs (hval 0 23 v0 rfl rfl) h0
  obtain ⟨a1, rfl, rfl, rfl, w1⟩ := open_string Tryz.underlying9 (hval 1 9 v1 rfl rfl) h1
  obtain ⟨a2, rfl, rfl, rfl, w2⟩ := open_string Tryz.underlying9 (hval 2 9 v2 rfl rfl) h2
  have k0 := h0
  have lt0 : ∀ x ∈ p0, x.block < W.heap.size := by obtain ⟨m, hm⟩ := k0; exact DataW.trod_lt m _ _ _ hm
  clear hA0 hval0
  refine (gets12_bytes W l v0 a1 a2 rd sz w1 w2).mono fun e W' ⟨he, bel⟩ => ?_
  subst he
  exact ⟨_, rfl, _, _, _, [], _, [], hW', trodAll_mk1 (shut_bool Tryz.underlying4 _), (trodAll_cons_mk (Below.trod laidOut (by kernel_rfl) (of_decide_eq_true (by kernel_rfl)) k0 bel lt0) (trodAll_cons_mk (shut_string Tryz.underlying9 w1) (trodAll_cons_mk (shut_string Tryz.underlying9 w2) trodAll_mk0))), rfl, bel.frame _, fun h => by cases h⟩

theorem over : Rows.tableGetsRow.holds Tryz.pinned (OpenSpec.ofChange Rows.tableGetsSpec) :=
  OpenClaim.holds_of_wide 5 Tryz.f5 rfl rfl rfl rfl rfl rfl rfl ⟨rfl, rfl, rfl, rfl, rfl⟩ rfl rfl rfl rfl rfl (by kernel_rfl) Tryz.func5 (by kernel_rfl)
    (of_decide_eq_true (by kernel_rfl)) (by unfold Func.isWrapper; first | (rw [if_pos (by decide +kernel)]; kernel_rfl) | (rw [if_neg (by decide +kernel)]; exact ⟨rfl, rfl⟩))
    (fun os started H enc _ => lifted os started H enc)

/-- the statement -/
theorem tableGets : Rows.TableGetsSaid := over
#print axioms tableGets
end Go.Proofs.YtjlfchnnhglbjaaGreat
