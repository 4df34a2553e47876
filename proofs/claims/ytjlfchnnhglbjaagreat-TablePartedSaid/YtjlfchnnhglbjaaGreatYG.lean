/- TbKeys, TbGet, TbList, TbWakes, TbSort, TbAlias, TbTexts, TbCut, TbCutW, TbSame, TbTables, TableO, TableO2, TableO3, TbOrder, OpenD -/
import Derived.Test.YtjlfchnnhglbjaaGreatYE
import Derived.Test.YtjlfchnnhglbjaaGreatYShelfM
import Derived.Shelf.SlSortCmp.NoneTotal
import Derived.BigQuiet
import Derived.IntWalk
import Derived.WalkSmall
import Derived.Laws.AppendOwnNone
import Derived.Deep.RegionHeld3
import Derived.Test.YtjlfchnnhglbjaaGreatYA
import Derived.Deep.AppendLies
import Derived.Test.YtjlfchnnhglbjaaGreatYB4
set_option linter.unusedVariables false
set_option linter.unusedSimpArgs false
namespace Go.Proofs.YtjlfchnnhglbjaaGreat
open Go.RowKit Go.Lib Go.Sort Go.Maps Go.WideMaps Go.Shelf
theorem sortsA (m : Nat) : AnyZ.SortsIn Tryz.prog Tryz.sortedA_ren Fence.wide m :=
  ⟨fun blk off cap ss W hH hblk hsz => callsIn_wide.2 (AnyM.slices_Sort_string Tryz.sortA blk off cap ss W hH hblk hsz),
   fun p cap W => callsIn_wide.2 (AnyM.slices_Sort_string_none Tryz.sortA p cap W)⟩
def srtT (l : List Str) : List Str := l.mergeSort (fun x y => decide (x ≤ y))
theorem srtT_perm (l : List Str) : (srtT l).Perm l := List.mergeSort_perm _ _
theorem srtT_of_perm {l m : List Str} (h : l.Perm m) : srtT l = srtT m := mergeSort_of_perm h
theorem keysFN (mb : Option Nat) (W : World) : Calls Tryz.prog 37 #[.map mb] W fun e w' => e = .returned (.func (.func 59) #[] #[.pointer (some ⟨W.heap.size, 0, none⟩)]) ∧ w' = W.alloc (.cells #[.map mb] 71) := by
 have h := AnyZ.keys_in Tryz.keysA Fence.wide 5 trivial rfl mb W
 exact (callsIn_wide (n := 5)).1 h
set_option maxHeartbeats 1000000 in
theorem sortedN {w : World} {b n : Nat} {L : List (Str × Bool)} (h : OwnE elBo w b n L) (hn : (L.map (·.1)).Nodup) (hsz : L.length ≤ 1000000) :
  Calls Tryz.prog 36 #[.func (.func 59) #[] #[.pointer (some ⟨w.heap.size, 0, none⟩)]] (w.alloc (.cells #[.map (some b)] 71)) fun e w' =>
   ∃ v, e = .returned v ∧ OwnS w' (w.heap.size + 1) v (srtT (L.map (·.1))) ∧ Below (w.heap.size + 1) (w.alloc (.cells #[.map (some b)] 71)) w' := by
 obtain ⟨m, hown, hat⟩ := h
 have hp := OwnE.keys hown hat hn
 have hlen : Maps.size m = L.length := by
  obtain ⟨es, rfl, _⟩ := hown.keysOf
  have := hp.length_eq
  simp [strKeys] at this
  simp [Maps.size, this]
 have hbl := hown.lt
 have hseq : SeqGives Fence.wide 2 Tryz.prog 59 #[.pointer (some ⟨w.heap.size, 0, none⟩)] encStr (fun ss => ss.Perm (strKeys m)) (Maps.size m) (w.alloc (.cells #[.map (some b)] 71)) :=
  AnyZ.keys_gives (ρ := Tryz.keysA_ren) { Tryz.keysA with } Fence.wide _ trivial rfl (by omega) w.heap.size b n m _ (by simp) (by simp) (by
   obtain ⟨es, clock, hb, Ft, hs, hD⟩ := hown
   exact ⟨es, clock, (Below.heap_alloc _ _ b hbl).trans hb, Ft, hs, hD⟩)
 have cS := AnyZ.sorted_in Tryz.sortedA Fence.wide 5 trivial trivial trivial trivial rfl (by omega) (sortsA _) (enters_of Tryz.func58 (by kernel_rfl) rfl) 59 #[.pointer (some ⟨w.heap.size, 0, none⟩)] trivial (enters_of Tryz.func59 (by kernel_rfl) rfl) _ _ (by rw [hlen]; unfold maxLen; omega) (by rw [hlen]; omega) _ hseq
 change CallsIn _ _ Tryz.prog 36 _ _ _ at cS
 have hs : (w.alloc (.cells #[.map (some b)] 71)).heap.size = w.heap.size + 1 := by simp
 refine ((callsIn_wide (n := 5)).1 cS).mono ?_
 rintro e w' ⟨v, ss, rfl, hS, hrow, hnil, hb⟩
 rw [hs] at hrow hb
 refine ⟨v, rfl, ?_, hb⟩
 have hsrt : ss.mergeSort (fun x y => decide (x ≤ y)) = srtT (L.map (·.1)) := mergeSort_of_perm (hS.trans hp.symm)
 rw [hsrt] at hrow
 have hl2 : ss.length = (srtT (L.map (·.1))).length := by unfold srtT; rw [List.length_mergeSort]; exact (hS.trans hp.symm).length_eq
 exact own_cast hrow hl2.symm rfl
theorem keysFV (mb : Option Nat) (W : World) : Calls Tryz.prog 43 #[.map mb] W fun e w' => e = .returned (.func (.func 63) #[] #[.pointer (some ⟨W.heap.size, 0, none⟩)]) ∧ w' = W.alloc (.cells #[.map mb] 70) := by
 have h := AnyZ.keys_in Tryz.keysB Fence.wide 5 trivial rfl mb W
 exact (callsIn_wide (n := 5)).1 h
set_option maxHeartbeats 1000000 in
theorem sortedV {w : World} {b n : Nat} {L : List (Str × (Str × Int × Int))} (h : OwnE elSd w b n L) (hn : (L.map (·.1)).Nodup) (hsz : L.length ≤ 1000000) :
  Calls Tryz.prog 36 #[.func (.func 63) #[] #[.pointer (some ⟨w.heap.size, 0, none⟩)]] (w.alloc (.cells #[.map (some b)] 70)) fun e w' =>
   ∃ v, e = .returned v ∧ OwnS w' (w.heap.size + 1) v (srtT (L.map (·.1))) ∧ Below (w.heap.size + 1) (w.alloc (.cells #[.map (some b)] 70)) w' := by
 obtain ⟨m, hown, hat⟩ := h
 have hp := OwnE.keys hown hat hn
 have hlen : Maps.size m = L.length := by
  obtain ⟨es, rfl, _⟩ := hown.keysOf
  have := hp.length_eq
  simp [strKeys] at this
  simp [Maps.size, this]
 have hbl := hown.lt
 have hseq : SeqGives Fence.wide 2 Tryz.prog 63 #[.pointer (some ⟨w.heap.size, 0, none⟩)] encStr (fun ss => ss.Perm (strKeys m)) (Maps.size m) (w.alloc (.cells #[.map (some b)] 70)) :=
  AnyZ.keys_gives (ρ := Tryz.keysB_ren) { Tryz.keysB with } Fence.wide _ trivial rfl (by omega) w.heap.size b n m _ (by simp) (by simp) (by
   obtain ⟨es, clock, hb, Ft, hs, hD⟩ := hown
   exact ⟨es, clock, (Below.heap_alloc _ _ b hbl).trans hb, Ft, hs, hD⟩)
 have cS := AnyZ.sorted_in Tryz.sortedA Fence.wide 5 trivial trivial trivial trivial rfl (by omega) (sortsA _) (enters_of Tryz.func58 (by kernel_rfl) rfl) 63 #[.pointer (some ⟨w.heap.size, 0, none⟩)] trivial (enters_of Tryz.func63 (by kernel_rfl) rfl) _ _ (by rw [hlen]; unfold maxLen; omega) (by rw [hlen]; omega) _ hseq
 change CallsIn _ _ Tryz.prog 36 _ _ _ at cS
 have hs : (w.alloc (.cells #[.map (some b)] 70)).heap.size = w.heap.size + 1 := by simp
 refine ((callsIn_wide (n := 5)).1 cS).mono ?_
 rintro e w' ⟨v, ss, rfl, hS, hrow, hnil, hb⟩
 rw [hs] at hrow hb
 refine ⟨v, rfl, ?_, hb⟩
 have hsrt : ss.mergeSort (fun x y => decide (x ≤ y)) = srtT (L.map (·.1)) := mergeSort_of_perm (hS.trans hp.symm)
 rw [hsrt] at hrow
 have hl2 : ss.length = (srtT (L.map (·.1))).length := by unfold srtT; rw [List.length_mergeSort]; exact (hS.trans hp.symm).length_eq
 exact own_cast hrow hl2.symm rfl
set_option maxHeartbeats 1000000 in
theorem sortedV_nil {w : World} :
  Calls Tryz.prog 36 #[.func (.func 63) #[] #[.pointer (some ⟨w.heap.size, 0, none⟩)]] (w.alloc (.cells #[.map none] 70)) fun e w' =>
   ∃ v, e = .returned v ∧ OwnS w' (w.heap.size + 1) v [] ∧ Below (w.heap.size + 1) (w.alloc (.cells #[.map none] 70)) w' := by
 have hseq : SeqGives Fence.wide 2 Tryz.prog 63 #[.pointer (some ⟨w.heap.size, 0, none⟩)] encStr (fun ss : List (List UInt8) => ss = []) 0 (w.alloc (.cells #[.map none] 70)) :=
  AnyZ.keys_gives_nil (ρ := Tryz.keysB_ren) { Tryz.keysB with } Fence.wide _ trivial rfl w.heap.size _ (by simp) (cells_new w #[.map none] 70 0 (.map none) rfl)
 have cS := AnyZ.sorted_in Tryz.sortedA Fence.wide 5 trivial trivial trivial trivial rfl (by omega) (sortsA _) (enters_of Tryz.func58 (by kernel_rfl) rfl) 63 #[.pointer (some ⟨w.heap.size, 0, none⟩)] trivial (enters_of Tryz.func63 (by kernel_rfl) rfl) _ _ (by unfold maxLen; omega) (by omega) _ hseq
 change CallsIn _ _ Tryz.prog 36 _ _ _ at cS
 have hs : (w.alloc (.cells #[.map none] 70)).heap.size = w.heap.size + 1 := by simp
 refine ((callsIn_wide (n := 5)).1 cS).mono ?_
 rintro e w' ⟨v, ss, rfl, rfl, hrow, hnil, hb⟩
 rw [hs] at hrow hb
 exact ⟨v, rfl, own_cast hrow rfl (by simp), hb⟩
end Go.Proofs.YtjlfchnnhglbjaaGreat
namespace Go.Proofs.YtjlfchnnhglbjaaGreat
open Go.RowKit Go.Lib Go.Sort Go.Maps Go.WideMaps
def rText (r : Option Rw) : Str := (r.map (·.text)).getD []
def rFile (r : Option Rw) : Int := (r.map fun r => (r.file : Int)).getD 0
def rAt (r : Option Rw) : Int := (r.map (·.at')).getD 0
theorem look_nilMap (k : Str) (hk : k.length ≤ maxLen) (W : World) : (Instr.lookup 70 (.map none) (.string ⟨k.toArray⟩) true).run Tryz.prog W = .ok (.tuple #[.agg #[.string ⟨#[]⟩, .int .i64 0, .int .i64 0], .bool false]) W := by
 simpa using Maps.look_nil (w := W) true lawS Tryz.underlying70 (show (zeroValue 84).run Tryz.prog W = .ok (.agg #[.string ⟨#[]⟩, .int .i64 0, .int .i64 0]) W by kernel_rfl) (key_ofS hk)
def rVal (r : Option Rw) : Value := .agg #[.string ⟨(rText r).toArray⟩, .int .i64 (rFile r), .int .i64 (rAt r)]
theorem rVal_sd (l : Option Rw) : elSd.v ((l.map sdOf).getD ([], 0, 0)) = rVal l := by cases l <;> rfl
theorem find_ret {V : World} {Pb : Nat} {a b c : Value} {q : Bool} (hr : V.heap[Pb]? = some (.cells #[a, b, c] 84 (0, 0))) {Q : Ending → World → Prop} {act : Act} (hd : act.defers = [])
  (h6 : act.tmps.getD 6 undef = .pointer (some ⟨Pb, 0, none⟩)) (h7 : act.tmps.getD 7 undef = .bool q) (hQ : Q (.returned (.tuple #[.agg #[a, b, c], .bool q])) V) :
  bodyPost Tryz.prog Tryz.f44 Q Exit.ret act V := by
 obtain ⟨e0, e1, e2, _⟩ := box3_cells hr
 refine bodyPost_ret (v := .tuple #[.agg #[a, b, c], .bool q]) ?_ hd hQ
 obtain ⟨tmps, defers⟩ := act
 simp only [Array.getD_eq_getD_getElem?] at h6 h7
 simp [results, Tryz.results44, go_sem, h6, h7, e0, e1, e2]
section
variable {w : World} {B0 Bt bv ba bn bp N : Nat} {V : List (Str × Nat)} {t : Tb}
theorem find_any (h : TbIn B0 w Bt bv ba bn bp N V t) (loc path : Str) (hl : loc.length ≤ maxLen) (hp : path.length ≤ maxLen) :
  Calls Tryz.prog 44 #[.pointer (some ⟨Bt, 0, none⟩), .string ⟨loc.toArray⟩, .string ⟨path.toArray⟩] w fun e w' => e = .returned (.tuple #[rVal (findR t.rows loc path), .bool (findR t.rows loc path).isSome]) ∧ Below w.heap.size w w' := by
 have HB1 := hid (show Below w.heap.size w (w.alloc (.cells #[.string ⟨#[]⟩, .int .i64 0, .int .i64 0] 84)) from (Below.refl _ _).alloc (Nat.le_refl _) _)
 have F1 := hid (heap_alloc_new w (.cells #[.string ⟨#[]⟩, .int .i64 0, .int .i64 0] 84))
 have T1 := hid (h.below HB1.out)
 obtain ⟨o, ho⟩ : ∃ o, o = lookE V loc := ⟨_, rfl⟩
 have HO := hid ho
 obtain ⟨r, hr⟩ : ∃ r, r = findR t.rows loc path := ⟨_, rfl⟩
 have hrn : o = none → r = none := by
  intro e
  rw [hr, findR_none]
  rintro x hx ⟨h1, _⟩
  obtain ⟨q, hq, he⟩ := List.mem_map.1 (h.at_.has x hx)
  exact lookE_none.1 (ho.symm.trans e) q hq (he.trans h1)
 have HR := hid hr
 rw [← hr]
 clear ho hr h
 go_enter Tryz.func44, Tryz.ntmps44
 go_upto_region 1 with fail
 generalize w.alloc (.cells #[.string ⟨#[]⟩, .int .i64 0, .int .i64 0] 84) = w1 at *
 obtain ⟨t0, t1, t2, t3, tl⟩ := T1.out.box
 cases o with
 | none =>
  obtain rfl := hrn rfl
  have LN := look_nilMap path hp
  go_upto_region 4 with (at_lookup; refine wpList_lookE1 (E := elMp) T1.out.at_.vals Tryz.underlying69 zeroMap rfl _ _ rfl rfl loc rfl hl (.map none) (by rw [look_mp, ← HO.out]; rfl) ?_)
  have HB2 := hid (show Below w1.heap.size w1 (w1.alloc (.cells #[.string ⟨#[]⟩, .int .i64 0, .int .i64 0] 84)) from (Below.refl _ _).alloc (Nat.le_refl _) _)
  have F2 := hid (heap_alloc_new w1 (.cells #[.string ⟨#[]⟩, .int .i64 0, .int .i64 0] 84))
  generalize w1.alloc (.cells #[.string ⟨#[]⟩, .int .i64 0, .int .i64 0] 84) = w2 at *
  have G2 := hid ((HB2.out.block _ (lt_of_block F1.out)).trans F1.out)
  obtain ⟨x0, x1, x2, xl⟩ := box3_cells F2.out
  obtain ⟨y0, y1, y2, yl⟩ := box3_cells G2.out
  obtain ⟨z0, z1, z2⟩ := box3_frozen G2.out
  go_wp2_with fail
  exact find_ret (Pb := w.heap.size) (q := false) (P3_row _ _ _ G2.out) rfl rfl rfl ⟨rfl, P3_below _ _ _ (HB1.out.then HB2.out) (Nat.le_refl _)⟩
 | some bm =>
  have OM := hid (T1.out.at_.each _ (lookE_in HO.out.symm))
  have LKM := hid (show lookE (sdL (rowsOf t loc)) path = r.map sdOf by rw [look_rows, HR.out])
  obtain ⟨rt, hrt⟩ : ∃ x, x = rText r := ⟨_, rfl⟩
  obtain ⟨rf, hrf⟩ : ∃ x, x = rFile r := ⟨_, rfl⟩
  obtain ⟨ra, hra⟩ : ∃ x, x = rAt r := ⟨_, rfl⟩
  have HV := hid (show rVal r = .agg #[.string ⟨rt.toArray⟩, .int .i64 rf, .int .i64 ra] by rw [hrt, hrf, hra]; rfl)
  obtain ⟨q, hq⟩ : ∃ q, q = r.isSome := ⟨_, rfl⟩
  have HQ := hid hq
  clear hrt hrf hra hq
  go_upto_region 4 with first
   | (at_lookup; refine wpList_lookE1 (E := elMp) T1.out.at_.vals Tryz.underlying69 zeroMap rfl _ _ rfl rfl loc rfl hl (.map (some bm)) (by rw [look_mp, ← HO.out]; rfl) ?_)
   | (at_lookup; refine wpList_lookE (E := elSd) OM.out Tryz.underlying70 zeroSd rfl _ _ rfl rfl path rfl hp (.agg #[.string ⟨rt.toArray⟩, .int .i64 rf, .int .i64 ra]) q (by rw [LKM.out, rVal_sd, HV.out]) (by rw [LKM.out, Option.isSome_map, HQ.out]) ?_)
  have HB2 := hid (show Below w1.heap.size w1 (w1.alloc (.cells #[.string ⟨rt.toArray⟩, .int .i64 rf, .int .i64 ra] 84)) from (Below.refl _ _).alloc (Nat.le_refl _) _)
  have F2 := hid (heap_alloc_new w1 (.cells #[.string ⟨rt.toArray⟩, .int .i64 rf, .int .i64 ra] 84))
  generalize w1.alloc (.cells #[.string ⟨rt.toArray⟩, .int .i64 rf, .int .i64 ra] 84) = w2 at *
  have G2 := hid ((HB2.out.block _ (lt_of_block F1.out)).trans F1.out)
  obtain ⟨x0, x1, x2, xl⟩ := box3_cells F2.out
  obtain ⟨y0, y1, y2, yl⟩ := box3_cells G2.out
  obtain ⟨z0, z1, z2⟩ := box3_frozen G2.out
  go_wp2_with fail
  exact find_ret (Pb := w.heap.size) (q := q) (P3_row _ _ _ G2.out) rfl rfl rfl ⟨by rw [HV.out, HQ.out], P3_below _ _ _ (HB1.out.then HB2.out) (Nat.le_refl _)⟩
end
section
variable {w : World} {pt : Option Addr} {loc path : Str} {r : Option Rw}
theorem get_of (h : Calls Tryz.prog 44 #[.pointer pt, .string ⟨loc.toArray⟩, .string ⟨path.toArray⟩] w fun e w' => e = .returned (.tuple #[rVal r, .bool r.isSome]) ∧ Below w.heap.size w w') :
  Calls Tryz.prog 24 #[.pointer pt, .string ⟨loc.toArray⟩, .string ⟨path.toArray⟩] w fun e w' => e = .returned (.tuple #[.string ⟨(rText r).toArray⟩, .bool r.isSome]) ∧ Below w.heap.size w w' := by
 simp only [rVal] at h
 have H := hid h
 clear h
 generalize rText r = rt at *
 generalize rFile r = rf at *
 generalize rAt r = ra at *
 generalize r.isSome = q at *
 go_enter Tryz.func24, Tryz.ntmps24
 go_wp2_with fail
 refine H.out.mono ?_
 rintro e w1 ⟨rfl, hb⟩
 have HB := hid hb
 clear hb
 go_upto_region 2 with fail
 have HB2 := hid (show Below w1.heap.size w1 (w1.alloc (.cells #[.string ⟨rt.toArray⟩, .int .i64 rf, .int .i64 ra] 84)) from (Below.refl _ _).alloc (Nat.le_refl _) _)
 have F2 := hid (heap_alloc_new w1 (.cells #[.string ⟨rt.toArray⟩, .int .i64 rf, .int .i64 ra] 84))
 generalize w1.alloc (.cells #[.string ⟨rt.toArray⟩, .int .i64 rf, .int .i64 ra] 84) = w2 at *
 obtain ⟨x0, x1, x2, xl⟩ := box3_cells F2.out
 go_wp2_with fail
 exact bodyPost_ret (v := .tuple #[.string ⟨rt.toArray⟩, .bool q]) (by simp [results, Tryz.results24, go_sem]) rfl ⟨rfl, HB.out.then HB2.out⟩
theorem where_of (h : Calls Tryz.prog 44 #[.pointer pt, .string ⟨loc.toArray⟩, .string ⟨path.toArray⟩] w fun e w' => e = .returned (.tuple #[rVal r, .bool r.isSome]) ∧ Below w.heap.size w w') :
  Calls Tryz.prog 25 #[.pointer pt, .string ⟨loc.toArray⟩, .string ⟨path.toArray⟩] w fun e w' => e = .returned (.tuple #[.int .i64 (rFile r), .int .i64 (rAt r), .bool r.isSome]) ∧ Below w.heap.size w w' := by
 simp only [rVal] at h
 have H := hid h
 clear h
 generalize rText r = rt at *
 generalize rFile r = rf at *
 generalize rAt r = ra at *
 generalize r.isSome = q at *
 go_enter Tryz.func25, Tryz.ntmps25
 go_wp2_with fail
 refine H.out.mono ?_
 rintro e w1 ⟨rfl, hb⟩
 have HB := hid hb
 clear hb
 go_upto_region 2 with fail
 have HB2 := hid (show Below w1.heap.size w1 (w1.alloc (.cells #[.string ⟨rt.toArray⟩, .int .i64 rf, .int .i64 ra] 84)) from (Below.refl _ _).alloc (Nat.le_refl _) _)
 have F2 := hid (heap_alloc_new w1 (.cells #[.string ⟨rt.toArray⟩, .int .i64 rf, .int .i64 ra] 84))
 generalize w1.alloc (.cells #[.string ⟨rt.toArray⟩, .int .i64 rf, .int .i64 ra] 84) = w2 at *
 obtain ⟨x0, x1, x2, xl⟩ := box3_cells F2.out
 go_quiet (fail)
 go_wp2_with fail
 exact bodyPost_ret (v := .tuple #[.int .i64 rf, .int .i64 ra, .bool q]) (by simp [results, Tryz.results25, go_sem]) rfl ⟨rfl, below_drewN (HB.out.then HB2.out) _⟩
end
section
variable {w : World} {B0 Bt bv ba bn bp N : Nat} {V : List (Str × Nat)} {t : Tb}
theorem get_any (h : TbIn B0 w Bt bv ba bn bp N V t) (loc path : Str) (hl : loc.length ≤ maxLen) (hp : path.length ≤ maxLen) :
  Calls Tryz.prog 24 #[.pointer (some ⟨Bt, 0, none⟩), .string ⟨loc.toArray⟩, .string ⟨path.toArray⟩] w fun e w' => e = .returned (.tuple #[.string ⟨(rText (findR t.rows loc path)).toArray⟩, .bool (findR t.rows loc path).isSome]) ∧ Below w.heap.size w w' := get_of (find_any h loc path hl hp)
theorem where_any (h : TbIn B0 w Bt bv ba bn bp N V t) (loc path : Str) (hl : loc.length ≤ maxLen) (hp : path.length ≤ maxLen) :
  Calls Tryz.prog 25 #[.pointer (some ⟨Bt, 0, none⟩), .string ⟨loc.toArray⟩, .string ⟨path.toArray⟩] w fun e w' => e = .returned (.tuple #[.int .i64 (rFile (findR t.rows loc path)), .int .i64 (rAt (findR t.rows loc path)), .bool (findR t.rows loc path).isSome]) ∧ Below w.heap.size w w' := where_of (find_any h loc path hl hp)
end
end Go.Proofs.YtjlfchnnhglbjaaGreat
namespace Go.Proofs.YtjlfchnnhglbjaaGreat
open Go.RowKit Go.Lib Go.Sort Go.Maps Go.WideMaps
theorem row_mono {W : World} {B C n k : Nat} {e : TypeId} {v : Value} {xs : List Value} (h : W.ownsRow B e k v n xs) (hc : C ≤ B) : W.ownsRow C e k v n xs := by
 unfold World.ownsRow at *
 refine ⟨h.1, ?_⟩
 rcases h.2 with h | ⟨g, cap, cur, h1, h2, h3⟩
 ·exact Or.inl h
 ·exact Or.inr ⟨g, cap, cur, h1, Nat.le_trans hc h2, h3⟩
theorem sdL_keys (l : List Rw) : (sdL l).map (·.1) = l.map (·.path) := by unfold sdL; rw [List.map_map]; rfl
def pathsF (t : Tb) (loc : Str) : List Str := srtT ((rowsOf t loc).map (·.path))
theorem rows_nodup {t : Tb} (ok : TbOk t) (loc : Str) : ((rowsOf t loc).map (·.path)).Nodup := by
 have h := ok.rows
 rw [List.Nodup, List.pairwise_map] at h
 rw [List.Nodup, List.pairwise_map, rowsOf]
 refine (List.Pairwise.filter _ h).imp_of_mem fun {a b} ha hb hne e => hne ?_
 have h1 := (List.mem_filter.1 ha).2
 have h2 := (List.mem_filter.1 hb).2
 simp only [beq_iff_eq] at h1 h2
 rw [h1, h2, e]
theorem rows_le {t : Tb} (ok : TbOk t) (loc : Str) : (rowsOf t loc).length ≤ 16384 := by
 have := nodup_le ((rowsOf t loc).map (·.path)) t.paths (rows_nodup ok loc) (fun x hx => by
  obtain ⟨r, hr, rfl⟩ := List.mem_map.1 hx
  exact ok.rp r (List.mem_filter.1 hr).1)
 rw [List.length_map] at this
 exact Nat.le_trans this ok.p16
def OutS (w : World) (l : List Str) (e : Ending) (w' : World) : Prop := ∃ v, e = .returned v ∧ OwnS w' w.heap.size v l ∧ Below w.heap.size w w'
theorem outS_sorted {w w1 w' : World} {l : List Str} {v : Value} (h1 : w1.heap.size = w.heap.size + 1) (hb1 : Below w.heap.size w w1) (ho : OwnS w' (w.heap.size + 1) v l) (hb : Below (w.heap.size + 1) w1 w') : OutS w l (.returned v) w' :=
 ⟨v, rfl, row_mono ho (Nat.le_succ _), hb1.trans (hb.mono (Nat.le_succ _))⟩
section
variable {w : World} {B0 Bt bv ba bn bp N : Nat} {V : List (Str × Nat)} {t : Tb}
theorem locales_any (h : TbIn B0 w Bt bv ba bn bp N V t) (ok : TbOk t) :
  Calls Tryz.prog 15 #[.pointer (some ⟨Bt, 0, none⟩)] w fun e w' => OutS w (srtT t.names) e w' := by
 have KC := hid (keysFN (some bn) w)
 have SC := hid (sortedN h.at_.names (by rw [setL_keys]; exact ok.names) (by unfold setL; rw [List.length_map]; have := ok.n512; omega))
 rw [setL_keys] at SC
 have HB1 := hid (show Below w.heap.size w (w.alloc (.cells #[.map (some bn)] 71)) from (Below.refl _ _).alloc (Nat.le_refl _) _)
 have HZ1 := hid (show (w.alloc (.cells #[.map (some bn)] 71)).heap.size = w.heap.size + 1 by simp)
 obtain ⟨t0, t1, t2, t3, tl⟩ := h.box
 clear h
 go_enter Tryz.func15, Tryz.ntmps15
 go_wp2_with fail
 refine KC.out.mono ?_
 rintro e w1 ⟨rfl, rfl⟩
 go_wp2_with fail
 refine SC.out.mono ?_
 rintro e w2 ⟨v, rfl, ho, hb⟩
 have HO := hid (outS_sorted HZ1.out HB1.out ho hb)
 clear ho hb
 go_wp2_with fail
 exact bodyPost_ret (v := v) (by simp [results, Tryz.results15, go_sem]) rfl HO.out
theorem all_any (h : TbIn B0 w Bt bv ba bn bp N V t) (ok : TbOk t) :
  Calls Tryz.prog 16 #[.pointer (some ⟨Bt, 0, none⟩)] w fun e w' => OutS w (srtT t.paths) e w' := by
 have KC := hid (keysFN (some bp) w)
 have SC := hid (sortedN h.at_.paths (by rw [setL_keys]; exact ok.paths) (by unfold setL; rw [List.length_map]; have := ok.p16; omega))
 rw [setL_keys] at SC
 have HB1 := hid (show Below w.heap.size w (w.alloc (.cells #[.map (some bp)] 71)) from (Below.refl _ _).alloc (Nat.le_refl _) _)
 have HZ1 := hid (show (w.alloc (.cells #[.map (some bp)] 71)).heap.size = w.heap.size + 1 by simp)
 obtain ⟨t0, t1, t2, t3, tl⟩ := h.box
 clear h
 go_enter Tryz.func16, Tryz.ntmps16
 go_wp2_with fail
 refine KC.out.mono ?_
 rintro e w1 ⟨rfl, rfl⟩
 go_wp2_with fail
 refine SC.out.mono ?_
 rintro e w2 ⟨v, rfl, ho, hb⟩
 have HO := hid (outS_sorted HZ1.out HB1.out ho hb)
 clear ho hb
 go_wp2_with fail
 exact bodyPost_ret (v := v) (by simp [results, Tryz.results16, go_sem]) rfl HO.out
theorem paths_any (h : TbIn B0 w Bt bv ba bn bp N V t) (ok : TbOk t) (loc : Str) (hl : loc.length ≤ maxLen) :
  Calls Tryz.prog 22 #[.pointer (some ⟨Bt, 0, none⟩), .string ⟨loc.toArray⟩] w fun e w' => OutS w (pathsF t loc) e w' := by
 obtain ⟨t0, t1, t2, t3, tl⟩ := h.box
 have HVAL := hid h.at_.vals
 cases hlk : lookE V loc with
 | some bm =>
  have KC := hid (keysFV (some bm) w)
  have SC := hid (sortedV (h.at_.each _ (lookE_in hlk)) (by rw [sdL_keys]; exact rows_nodup ok loc) (by unfold sdL; rw [List.length_map]; have := rows_le ok loc; simp only; omega))
  rw [sdL_keys] at SC
  change Hid (Calls _ _ _ _ fun e w' => ∃ v, e = Ending.returned v ∧ OwnS w' (w.heap.size + 1) v (pathsF t loc) ∧ _) at SC
  generalize pathsF t loc = ps at *
  have HB1 := hid (show Below w.heap.size w (w.alloc (.cells #[.map (some bm)] 70)) from (Below.refl _ _).alloc (Nat.le_refl _) _)
  have HZ1 := hid (show (w.alloc (.cells #[.map (some bm)] 70)).heap.size = w.heap.size + 1 by simp)
  have HLK := hid hlk
  clear h hlk
  go_enter Tryz.func22, Tryz.ntmps22
  go_wp2_with (at_lookup; refine wpList_lookE1 (E := elMp) HVAL.out Tryz.underlying69 zeroMap rfl _ _ rfl rfl loc rfl hl (.map (some bm)) (by rw [look_mp, HLK.out]; rfl) ?_)
  refine KC.out.mono ?_
  rintro e w1 ⟨rfl, rfl⟩
  go_wp2_with fail
  refine SC.out.mono ?_
  rintro e w2 ⟨v, rfl, ho, hb⟩
  have HO := hid (outS_sorted HZ1.out HB1.out ho hb)
  clear ho hb
  go_wp2_with fail
  exact bodyPost_ret (v := v) (by simp [results, Tryz.results22, go_sem]) rfl HO.out
 | none =>
  have KC := hid (keysFV none w)
  have SC := hid (sortedV_nil (w := w))
  have HP := hid (show pathsF t loc = [] by
   unfold pathsF
   rw [show rowsOf t loc = [] by
    unfold rowsOf
    rw [List.filter_eq_nil_iff]
    intro r hr e
    obtain ⟨q, hq, he⟩ := List.mem_map.1 (h.at_.has r hr)
    exact lookE_none.1 hlk q hq (he.trans (by simpa using e))]
   simp [srtT])
  generalize pathsF t loc = ps at *
  have HB1 := hid (show Below w.heap.size w (w.alloc (.cells #[.map none] 70)) from (Below.refl _ _).alloc (Nat.le_refl _) _)
  have HZ1 := hid (show (w.alloc (.cells #[.map none] 70)).heap.size = w.heap.size + 1 by simp)
  have HLK := hid hlk
  clear h hlk
  go_enter Tryz.func22, Tryz.ntmps22
  go_wp2_with (at_lookup; refine wpList_lookE1 (E := elMp) HVAL.out Tryz.underlying69 zeroMap rfl _ _ rfl rfl loc rfl hl (.map none) (by rw [look_mp, HLK.out]; rfl) ?_)
  refine KC.out.mono ?_
  rintro e w1 ⟨rfl, rfl⟩
  go_wp2_with fail
  refine SC.out.mono ?_
  rintro e w2 ⟨v, rfl, ho, hb⟩
  have HO := hid (outS_sorted HZ1.out HB1.out ho hb)
  clear ho hb
  go_wp2_with fail
  exact bodyPost_ret (v := v) (by simp [results, Tryz.results22, go_sem]) rfl (by rw [HP.out]; exact HO.out)
end
theorem all_nil (w : World) :
  Calls Tryz.prog 16 #[.pointer none] w fun e w' => e = .returned (.slice none 0 0) ∧ w' = w := by
 go_enter Tryz.func16, Tryz.ntmps16
 go_wp2_with fail
 exact bodyPost_ret (v := .slice none 0 0) (by simp [results, Tryz.results16, go_sem]) rfl ⟨rfl, rfl⟩
end Go.Proofs.YtjlfchnnhglbjaaGreat
namespace Go.Proofs.YtjlfchnnhglbjaaGreat
open Go.RowKit Go.Lib Go.Sort Go.Maps Go.WideMaps
theorem RdL.of_row {α : Type} {k : Nat} (E : Enc α k) {W : World} {b cp : Nat} {cs : Array Value} {ty : TypeId} {l : List α} (h : W.heap[b]? = some (.cells cs ty (0, 0))) (hc : cs.toList = flatL E l) (h1 : l.length ≤ cp) (h2 : l.length ≤ 9223372036854775807) : RdL E W (.slice (some ⟨b, 0, none⟩) l.length cp) l := by
 refine ⟨_, _, rfl, ⟨h1, h2, fun e => by cases e⟩, fun _ => ⟨b, 0, rfl, lt_of_block h, fun j i x hj hx => ?_⟩⟩
 have hi : i < k := by have := (List.getElem?_eq_some_iff.1 hx).1; rwa [E.len] at this
 rw [Nat.zero_add, cell_of_row _ _ _ _ _ _ h, ← Array.getElem?_toList, hc, flatL_get E l j i hj hi]
 exact hx
def wakeI : Itm := ⟨[97, 47, 98], [49], false, [], 7⟩
def wakeD : Dc := ⟨[101, 110], false, [wakeI]⟩
def wakeT : Tb := ⟨[⟨[101, 110], [97, 47, 98], [49], 0, 7⟩], [], [[101, 110]], [[97, 47, 98]]⟩
theorem wake_named : namedB [101, 110] = true := by decide +kernel
theorem wake_path : pathB [97, 47, 98] = true := by decide +kernel
theorem wake_new : newF [wakeD] = (Wrg.ok, wakeT) := by
 have h1 : headF Tb.zero wakeD = (0, { Tb.zero with names := [[101, 110]] }) := head_more (by simp [wakeD, wake_named]) (by simp [wakeD, Tb.zero]) (by simp [Tb.zero])
 have h2 : itemF { Tb.zero with names := [[101, 110]] } [101, 110] 0 wakeI = (0, wakeT) := by
  rw [item_new (by simp [wakeI, wake_path]) rfl rfl, if_neg (by simp [Tb.zero]), if_neg (by simp [Tb.zero])]; rfl
 show docsF 0 Tb.zero [wakeD] = _
 have := docs_step (n := 0) (t := Tb.zero) (l := [wakeD]) (by simp)
 rw [List.drop_zero] at this
 rw [this]
 show fromD 0 [] wakeD (headF Tb.zero wakeD) = _
 rw [h1]
 show fromI 0 [] (itemsF [101, 110] 0 { Tb.zero with names := [[101, 110]] } [wakeI]) = _
 have h3 := items_next (m := 0) (l := [wakeI]) (by simp) h2
 rw [List.drop_zero] at h3
 rw [h3]; rfl
theorem wake_rd {w : World} : RdD ((w.alloc (.cells #[.string ⟨#[97, 47, 98]⟩, .string ⟨#[49]⟩, .bool false, .string ⟨#[]⟩, .int .i64 7] 35)).alloc (.cells #[.string ⟨#[101, 110]⟩, .bool false, .slice (some ⟨w.heap.size, 0, none⟩) 1 1] 27)) (.slice (some ⟨w.heap.size + 1, 0, none⟩) 1 1) [wakeD] := by
 have e1 := heap_alloc_new (w.alloc (.cells #[.string ⟨#[97, 47, 98]⟩, .string ⟨#[49]⟩, .bool false, .string ⟨#[]⟩, .int .i64 7] 35)) (.cells #[.string ⟨#[101, 110]⟩, .bool false, .slice (some ⟨w.heap.size, 0, none⟩) 1 1] 27)
 rw [show (w.alloc (.cells #[.string ⟨#[97, 47, 98]⟩, .string ⟨#[49]⟩, .bool false, .string ⟨#[]⟩, .int .i64 7] 35)).heap.size = w.heap.size + 1 by simp] at e1
 have e0 := (Below.heap_alloc (w.alloc (.cells #[.string ⟨#[97, 47, 98]⟩, .string ⟨#[49]⟩, .bool false, .string ⟨#[]⟩, .int .i64 7] 35)) (.cells #[.string ⟨#[101, 110]⟩, .bool false, .slice (some ⟨w.heap.size, 0, none⟩) 1 1] 27) w.heap.size (by simp)).trans (heap_alloc_new w _)
 refine ⟨[(wakeD, (some ⟨w.heap.size, 0, none⟩, 1))], rfl, RdL.of_row (l := [(wakeD, (some ⟨w.heap.size, 0, none⟩, 1))]) (cp := 1) encD e1 rfl (by simp) (by simp), fun z hz => ?_⟩
 rw [List.mem_singleton.1 hz]
 exact RdL.of_row (l := [wakeI]) (cp := 1) encI e0 rfl (by simp) (by simp)
theorem wake_sz : SzD [wakeD] := by
 refine ⟨fun d hd => ?_, by simp [costD, wakeD, maxLen]⟩
 rw [List.mem_singleton.1 hd]
 refine ⟨by simp [wakeD, maxLen], fun x hx => ?_⟩
 rw [List.mem_singleton.1 hx]
 simp [wakeI, maxLen]
theorem twakes_any (w : World) : Calls Tryz.prog 10 #[] w fun e w' => e = .returned (.bool true) ∧ Below w.heap.size w w' := by
 have HB1 := hid (show Below w.heap.size w ((w.alloc (.cells #[.string ⟨#[97, 47, 98]⟩, .string ⟨#[49]⟩, .bool false, .string ⟨#[]⟩, .int .i64 7] 35)).alloc (.cells #[.string ⟨#[101, 110]⟩, .bool false, .slice (some ⟨w.heap.size, 0, none⟩) 1 1] 27)) from ((Below.refl _ _).alloc (Nat.le_refl _) _).alloc (by simp) _)
 have NW := hid (tnew_any _ _ _ (wake_rd (w := w)) wake_sz)
 go_enter Tryz.func10, Tryz.ntmps10
 go_wp2_with fail
 refine NW.out.mono ?_
 rintro e w1 ⟨hb1, hx⟩
 rw [wake_new] at hx
 rcases hx with ⟨_, Bt, bv, ba, bn, bp, N, V, rfl, tb, ok⟩ | ⟨h, _⟩
 ·have B1 := hid (HB1.out.trans (hb1.mono HB1.out.size))
  have T1 := hid tb
  have OK := hid ok
  clear hb1 tb ok NW
  go_upto_region 2 with fail
  have HB2 := hid (show Below w1.heap.size w1 (w1.alloc (.cells #[.int .i64 0, .int .i64 0, .int .i64 0] 30)) from (Below.refl _ _).alloc (Nat.le_refl _) _)
  have F2 := hid (heap_alloc_new w1 (.cells #[.int .i64 0, .int .i64 0, .int .i64 0] 30))
  generalize w1.alloc (.cells #[.int .i64 0, .int .i64 0, .int .i64 0] 30) = w2 at *
  have T2 := hid (T1.out.below HB2.out)
  have GT := hid (show Calls Tryz.prog 24 #[.pointer (some ⟨Bt, 0, none⟩), .string ⟨#[101, 110]⟩, .string ⟨#[97, 47, 98]⟩] w2 fun e w' => e = .returned (.tuple #[.string ⟨#[49]⟩, .bool true]) ∧ Below w2.heap.size w2 w' from get_any T2.out [101, 110] [97, 47, 98] (by simp [maxLen]) (by simp [maxLen]))
  go_wp2_with fail
  refine GT.out.mono ?_
  rintro e w3 ⟨rfl, hb3⟩
  have T3 := hid (T2.out.below hb3)
  have F3 := hid ((hb3.block _ (lt_of_block F2.out)).trans F2.out)
  have B3 := hid ((B1.out.then HB2.out).then hb3)
  clear hb3 T1 T2 F2 B1 HB2 GT
  have LO := hid (locales_any T3.out OK.out)
  rw [show srtT wakeT.names = [[101, 110]] by simp [srtT, wakeT]] at LO
  obtain ⟨x0, x1, x2, xl⟩ := box3_cells F3.out
  go_wp2_with fail
  refine LO.out.mono ?_
  rintro e w4 ⟨v, rfl, ho, hb4⟩
  obtain ⟨av, cv, rfl⟩ := own_sliceS ho
  have B4 := hid (B3.out.then hb4)
  clear ho hb4
  go_wp2_with fail
  exact bodyPost_ret (v := .bool true) (by simp [results, Tryz.results10, go_sem]) rfl ⟨rfl, B4.out⟩
 ·exact absurd rfl h
end Go.Proofs.YtjlfchnnhglbjaaGreat
namespace Go.Proofs.YtjlfchnnhglbjaaGreat
open Go.RowKit Go.Lib Go.Sort
theorem cmp_closure12 (x y : Str × Str) (W : World) : Calls Tryz.prog 39 #[.agg #[S x.1, S x.2], .agg #[S y.1, S y.2]] W fun e w' => e = .returned (.int .i64 (Lib.compareBytes x.1 y.1)) ∧ ∃ q os', w' = grow (W.drewN q) os' := by
 have hcon := fun W' => Tryz.strings_Compare ⟨x.1.toArray⟩ ⟨y.1.toArray⟩ W'
 change ∀ W', Calls _ _ _ _ fun e w' => e = .returned (.int .i64 (Lib.compareBytes x.1 y.1)) ∧ _ at hcon
 generalize Lib.compareBytes x.1 y.1 = r at hcon ⊢
 unfold S
 go_enter Tryz.func39, Tryz.ntmps39
 go_wp2_with (go_at_call 40; refine (hcon _).mono ?_; rintro e w' ⟨rfl, rfl⟩)
 go_ret
 exact ⟨rfl, 0, _, by rw [alloc_eq_grow, alloc_eq_grow, grow_grow]; rfl⟩
theorem cmpLays12 (blk off size : Nat) (w : World) : CmpLays Tryz.prog 39 #[] enc2 2 cmpK blk off size w :=
 fun _ _ _ _ x y => cmp_closure12 x y _
theorem sortPairs12 (w : World) (B : Nat) (v : Value) (l : List (Str × Str)) (h : OwnP w B v l) (hl : l.length ≤ 1000) :
  Calls Tryz.prog 38 #[v, .func (.func 39) #[] #[]] w fun e w' => e = .returned (.tuple #[]) ∧
   (∃ l' : List (Str × Str), l'.Perm l ∧ l'.Pairwise (fun a b => ¬ b.1 < a.1) ∧ OwnP w' B v l') ∧ w.grownBy w' v.ownBlock := by
 have eg : ∀ args w, (callFunc 39 args).run Tryz.prog w = .ok (.enter 39 args) w := enters_of Tryz.func39 (by kernel_rfl) rfl
 rcases h.shape with ⟨rfl, rfl⟩ | ⟨g, cap, cur, rfl, hB, hg, hn, hm, hs, ht⟩
 ·have hc := AnyF.slices_SortFunc_none Tryz.sfPair none 0 (.func (.func 39) #[] #[]) w
  change Calls Tryz.prog 38 _ _ _ at hc
  refine hc.mono ?_
  rintro e w' ⟨rfl, rfl⟩
  exact ⟨rfl, ⟨[], List.Perm.refl _, List.Pairwise.nil, h⟩, World.grownBy.refl _ _⟩
 ·have hc := AnyQ.slices_SortFunc Tryz.sfPair 2 Tryz.isAgg48 Tryz.sizeOf48 enc2 (fun _ => rfl) (fun x v hv => by simp [enc2] at hv; rcases hv with rfl | rfl <;> rfl) cmpK swo 39 #[] g 0 cap l.toArray w eg (cmpLays12 g 0 _ w) (holdsK_of hg ht) (lt_of_block hg) (by simp; omega)
  change Calls Tryz.prog 38 _ _ _ at hc
  refine hc.mono fun e w' hh => ⟨hh.1, ?_⟩
  obtain ⟨d', n, os, hp, hsd, rfl⟩ := hh.2
  have hsz : d'.size = l.length := by simpa using hp.1
  have hperm : d'.toList.Perm l := by
   have := hp.2.2
   simp only [List.size_toArray] at this
   rw [← hsz] at this
   have ht' : List.take l.length d'.toList = d'.toList := List.take_of_length_le (by simp [hsz])
   simpa [hsz, ht'] using this
  refine ⟨⟨d'.toList, hperm, ?_, ?_⟩, ?_⟩
  ·rw [List.pairwise_iff_getElem]
   intro i j hi hj hij
   have := hsd i j (Nat.zero_le _) hij (by simp at hj ⊢; omega)
   rw [getElem!_pos _ i (by simpa using hi), getElem!_pos _ j (by simpa using hj)] at this
   intro hlt
   have h2 : ltOf cmpK d'[j] d'[i] = true := by
    show decide (Lib.compareBytes _ _ < 0) = true
    exact decide_eq_true ((cb_lt _ _).2 (by simpa using hlt))
   rw [this] at h2; cases h2
  ·have hlen : d'.toList.length = l.length := hperm.length_eq
   refine ⟨flat2_len _, Or.inr ⟨g, cap, putCells id 0 (flatK enc2 2 d') cur, by rw [hlen], hB, ?_, by omega, hm, by simpa [putCells] using hs, ?_⟩⟩
   ·unfold sortWorldK putRowK
    rw [heap_grow_old _ _ (by simpa using lt_of_block hg)]
    simp [putRow, mapBlock, Sort.ahead, Array.getElem?_modify, hg, onCells]
   ·have := take_putCells2 cur d'.toList (by rw [hlen, hs]; omega)
    simpa using this
  ·refine ⟨rfl, rfl, rfl, by simp [sortWorldK, putRowK], fun k hk hne => ?_⟩
   unfold sortWorldK putRowK
   rw [heap_grow_old _ _ (by simpa using hk)]
   have : g ≠ k := fun e => hne (by rw [e]; rfl)
   simp [putRow, mapBlock, Sort.ahead, Array.getElem?_modify, this]
end Go.Proofs.YtjlfchnnhglbjaaGreat
namespace Go.Proofs.YtjlfchnnhglbjaaGreat
open Go.RowKit Go.Lib Go.Sort Go.Maps Go.WideMaps
theorem nodup_len {α : Type} [BEq α] [LawfulBEq α] : ∀ (l R : List α), l.Nodup → (∀ x ∈ l, x ∈ R) → l.length ≤ R.length
 | [], R, _, _ => Nat.zero_le _
 | x :: l, R, hn, hs => by
  rw [List.nodup_cons] at hn
  have hx := hs x List.mem_cons_self
  have h2 := nodup_len l (R.erase x) hn.2 fun y hy => (List.mem_erase_of_ne (fun e => hn.1 (by rw [← e]; exact hy))).2 (hs y (List.mem_cons_of_mem _ hy))
  rw [List.length_erase_of_mem hx] at h2
  have : 0 < R.length := List.length_pos_of_mem hx
  rw [List.length_cons]; omega
theorem wpList_next_sd {w : World} {ops : Array Oper} {rest : List Oper} {o : Oper} {a : Act} {Q : Exit → Act → World → Prop} (hg : o.guard = none) (it : Operand) (hop : o.op = Op.next it false)
  (b r n : Nat) (m : DataW Unit) (left : Lit → Bool) (cnt : Nat) (hit : a.eval it = .pointer (some ⟨r, 0, none⟩)) (h : w.ranges Tryz.prog 9 rdSd b r n m left cnt)
  (hDone : cnt = 0 → (∀ kl, left kl = false) → wpList Tryz.prog ops Q rest (a.put o.dst (.tuple #[.bool false])) w)
  (hMore : ∀ (x : Str) (ct : Str) (cf ca : Int) (w' : World) (cnt' : Nat), x.length ≤ maxLen → left (.string x) = true → (∀ zd, m.atKey (.string x) zd = sdD (ct, cf, ca)) → w'.ranges Tryz.prog 9 rdSd b r n m (fun z => left z && !z.sameKey (.string x)) cnt' → cnt' < cnt →
   w.grownBy w' (some r) → w'.heap.size = w.heap.size → (Instr.entry (.pointer (some ⟨r, 0, none⟩))).run Tryz.prog w' = .ok (.tuple #[.string ⟨x.toArray⟩, .agg #[.string ⟨ct.toArray⟩, .int .i64 cf, .int .i64 ca]]) w' → wpList Tryz.prog ops Q rest (a.put o.dst (.tuple #[.bool true, .string ⟨x.toArray⟩, .agg #[.string ⟨ct.toArray⟩, .int .i64 cf, .int .i64 ca]])) w') :
  wpList Tryz.prog ops Q (o :: rest) a w :=
 wpList_next_ranges w hg it hop 9 lawS rdSd (fun s : Str => Value.string ⟨s.toArray⟩) sdV
  (fun key kl hkey => by obtain ⟨s, rfl, _⟩ := string_of_keyOf Tryz.underlying9 hkey; exact ⟨s.data.toList, rfl⟩)
  (fun v y hv => by obtain ⟨c, rfl, _⟩ := elSd.inv hv; exact ⟨c, rfl⟩)
  b r n m left cnt hit h hDone (fun x c kl y w' cnt' hkey hlk hv hat hrg hlt hgr hsz hen => by
   obtain ⟨s, e1, e2, hs⟩ := string_of_keyOf Tryz.underlying9 hkey
   cases e1
   subst e2
   obtain ⟨c', ec, rfl⟩ := elSd.inv (show elSd.rd (elSd.v c) = some y from hv)
   have : c = c' := elSd.inj (by
    have h1 := elSd.ok c
    have h2 := elSd.ok c'
    rw [show elSd.v c = elSd.v c' from ec, h2] at h1
    exact ((Prod.mk.inj (Option.some.inj h1)).1).symm)
   subst this
   obtain ⟨ct, cf, ca⟩ := c
   exact hMore x ct cf ca w' cnt' (by have := hs; rw [Lib.size_eq] at this; exact this) hlk hat hrg hlt hgr hsz hen)
def alP (t : Tb) : List (Str × Str) := t.als.map fun r => (r.path, r.text)
def keyLe (a b : Str × Str) : Bool := decide (a.1 ≤ b.1)
def aliasesF (t : Tb) : List (Str × Str) := (alP t).mergeSort keyLe
theorem sortedK_one : ∀ {l m : List (Str × Str)}, l.Perm m → (l.map (·.1)).Nodup → l.Pairwise (fun a b => ¬ b.1 < a.1) → m.Pairwise (fun a b => ¬ b.1 < a.1) → l = m
 | l, m, hp, hn, h1, h2 => by
  refine List.Perm.eq_of_pairwise (le := fun a b => ¬ b.1 < a.1) (fun a b ha hb hab hba => ?_) h1 h2 hp
  have e : a.1 = b.1 := List.le_antisymm (by simpa using hab) (by simpa using hba)
  have hb' : b ∈ l := hp.mem_iff.2 hb
  obtain ⟨i, hi, rfl⟩ := List.getElem_of_mem ha
  obtain ⟨j, hj, rfl⟩ := List.getElem_of_mem hb'
  by_cases hij : i = j
  ·subst hij; rfl
  ·exfalso
   have hk := fun i j hi hj hij => (List.pairwise_iff_getElem.1 hn) i j hi hj hij
   rcases Nat.lt_or_gt_of_ne hij with hl | hl
   ·exact hk i j (by simpa using hi) (by simpa using hj) hl (by simpa using e)
   ·exact hk j i (by simpa using hj) (by simpa using hi) hl (by simpa using e.symm)
theorem aliasesF_sorted (t : Tb) : (aliasesF t).Pairwise (fun a b => ¬ b.1 < a.1) := by
 have := List.pairwise_mergeSort (le := keyLe) (fun a b c h1 h2 => by simp only [keyLe, decide_eq_true_eq] at *; exact List.le_trans h1 h2) (fun a b => by simp only [keyLe, Bool.or_eq_true, decide_eq_true_eq]; exact List.le_total a.1 b.1) (alP t)
 exact this.imp fun {a b} h => by simpa [keyLe] using h
theorem aliasesF_perm (t : Tb) : (aliasesF t).Perm (alP t) := List.mergeSort_perm _ _
theorem alP_keys (t : Tb) : (alP t).map (·.1) = t.als.map (·.path) := by unfold alP; rw [List.map_map]; rfl
theorem aliases_one {t : Tb} (ok : TbOk t) {l : List (Str × Str)} (hp : l.Perm (alP t)) (hs : l.Pairwise (fun a b => ¬ b.1 < a.1)) : l = aliasesF t :=
 sortedK_one (hp.trans (aliasesF_perm t).symm) (by rw [(hp.map _).nodup_iff, alP_keys]; exact ok.als) hs (aliasesF_sorted t)
theorem alP_len (t : Tb) : (alP t).length = t.als.length := by unfold alP; rw [List.length_map]
structure AlsSt (w : World) (t : Tb) (ba n : Nat) (m : DataW Unit) (g : Nat) (vl : Value) (W : World) (left : Lit → Bool) (cnt : Nat) (l : List (Str × Str)) : Prop where
 rng : W.ranges Tryz.prog 9 rdSd ba w.heap.size n m left cnt
 gas : cnt ≤ g
 own : OwnP W (w.heap.size + 1) vl l
 nd : l.Nodup
 mem : ∀ p, p ∈ l ↔ p ∈ alP t ∧ left (.string p.1) = false
 bel : Below w.heap.size w W
theorem AlsSt.len {w W : World} {t : Tb} {ba n g cnt : Nat} {m : DataW Unit} {vl : Value} {left : Lit → Bool} {l : List (Str × Str)} (h : AlsSt w t ba n m g vl W left cnt l) : l.length ≤ (alP t).length :=
 nodup_len l (alP t) h.nd fun x hx => ((h.mem x).1 hx).1
theorem als_mem {t : Tb} (ok : TbOk t) {l : List (Str × Str)} {left : Lit → Bool} {x ct : Str} {cf ca : Int} (hm : ∀ p, p ∈ l ↔ p ∈ alP t ∧ left (.string p.1) = false) (hl : left (.string x) = true) (hlk : lookE (sdL t.als) x = some (ct, cf, ca)) :
  (x, ct) ∉ l ∧ ∀ p, p ∈ l ++ [(x, ct)] ↔ p ∈ alP t ∧ (left (.string p.1) && !(Lit.string p.1).sameKey (.string x)) = false := by
 refine ⟨fun h => (by have := ((hm _).1 h).2; rw [hl] at this; cases this), fun p => ?_⟩
 have hs : (Lit.string p.1).sameKey (.string x) = decide (p.1 = x) := by
  by_cases e : p.1 = x
  ·rw [e]; simp [Lit.sameKey]
  ·rw [sameKey_ne (fun h => e (by simpa using h))]; simp [e]
 have hin : (x, ct) ∈ alP t := by
  have := lookE_in hlk
  unfold sdL at this
  obtain ⟨r, hr, e⟩ := List.mem_map.1 this
  simp only [sdOf, Prod.mk.injEq] at e
  exact List.mem_map.2 ⟨r, hr, by rw [e.1, e.2.1]⟩
 have hone : ∀ q ∈ alP t, q.1 = x → q = (x, ct) := by
  intro q hq e
  have hn : ((alP t).map (·.1)).Nodup := by rw [alP_keys]; exact ok.als
  have h1 := lookE_is hn hq
  have h2 := lookE_is hn hin
  rw [e] at h1
  simp only at h2
  rw [h1] at h2
  obtain ⟨q1, q2⟩ := q
  simp only at e h2
  rw [e, Option.some.inj h2]
 rw [List.mem_append, hm, List.mem_singleton, hs]
 constructor
 ·rintro (⟨h1, h2⟩ | rfl)
  ·exact ⟨h1, by rw [h2]; rfl⟩
  ·exact ⟨hin, by simp⟩
 ·rintro ⟨h1, h2⟩
  by_cases e : p.1 = x
  ·right; exact hone p h1 e
  ·left
   refine ⟨h1, ?_⟩
   simpa [e] using h2
def OutP (w : World) (l : List (Str × Str)) (e : Ending) (w' : World) : Prop := ∃ v, e = .returned v ∧ OwnP w' w.heap.size v l ∧ Below w.heap.size w w'
set_option maxRecDepth 100000 in
set_option maxHeartbeats 16000000 in
theorem aliases_any {w : World} {B0 Bt bv ba bn bp N : Nat} {V : List (Str × Nat)} {t : Tb} (h : TbIn B0 w Bt bv ba bn bp N V t) (ok : TbOk t) (hsz : t.als.length ≤ 1000) :
  Calls Tryz.prog 17 #[.pointer (some ⟨Bt, 0, none⟩)] w fun e w' => OutP w (aliasesF t) e w' := by
 obtain ⟨t0, t1, t2, t3, tl⟩ := h.box
 obtain ⟨m, hown, hat⟩ := h.at_.als
 have HOK := hid ok
 have HSZ := hid (show (alP t).length ≤ 1000 by rw [alP_len]; exact hsz)
 have HAT := hid hat
 have HOWN := hid hown
 have hbm := hown.lt
 have HND := hid (show (alP t).Nodup from by
  have := ok.als
  rw [← alP_keys, List.Nodup, List.pairwise_map] at this
  exact this.imp fun h e => h (by rw [e]))
 clear ok hsz hat hown
 go_enter Tryz.func17, Tryz.ntmps17
 go_wp2_with (at_range; refine wpList_range_own _ rfl _ 70 rfl 9 84 lawS Tryz.underlying70 _ ba N m rfl HOWN.out ?_; intro w1 hrg0 hg0 hs0)
 go_frame
 have ST0 := hid (show AlsSt w t ba N m (Maps.size m) (.slice none 0 0) w1 (Maps.has m) (Maps.size m) [] from ⟨hrg0, Nat.le_refl _, World.ownsRow_nil _ _ _ _, List.nodup_nil, (fun p => ⟨fun h => (by cases h), fun ⟨h1, h2⟩ => by
   obtain ⟨r, hr, rfl⟩ := List.mem_map.1 h1
   have h3 : (lookE (sdL t.als) r.path).isSome = true := lookE_mem (List.mem_map.2 ⟨(r.path, sdOf r), List.mem_map.2 ⟨r, hr, rfl⟩, rfl⟩)
   obtain ⟨y, hy⟩ := Option.isSome_iff_exists.1 h3
   rw [has_true_of_atKey (y := sdD y) (fun z => by rw [HAT.out, hy]; rfl)] at h2
   cases h2⟩), (Below.refl _ _).grown hg0 (Nat.le_refl _) (fun j hj => by cases hj)⟩)
 clear hrg0 hg0 hs0 t0 t1 t2 t3 tl h
 obtain ⟨NN, hN⟩ : ∃ NN, NN = Maps.size m := ⟨_, rfl⟩
 have HN := hid hN
 clear hN
 go_loopg [3] NN (fun g vl W => ∃ left cnt l, AlsSt w t ba N m g vl W left cnt l)
 case atStart => exact ⟨_, _, _, by rw [HN.out]; exact ST0.out⟩
 case round =>
  obtain ⟨left, cnt, l, st⟩ := hrel
  rename World => w2
  have ST := hid st
  clear st ST0
  go_wp2_with (at_next; refine wpList_next_sd rfl _ rfl ba w.heap.size N m left cnt rfl ST.out.rng ?_ ?_)
  ·intro _ hl0
   have HPM := hid (show l.Perm (alP t) from (List.perm_ext_iff_of_nodup ST.out.nd HND.out).2 fun p => by rw [ST.out.mem]; simp [hl0])
   have HOW := hid ST.out.own
   have HBL := hid ST.out.bel
   have hll : l.length ≤ 1000 := by have := ST.out.len; have := HSZ.out; omega
   have HLL := hid hll
   clear hl0 hll ST
   go_wp2_with fail
   refine (sortPairs12 w2 _ _ l HOW.out HLL.out).mono ?_
   rintro e w3 ⟨rfl, ⟨l2, hp, hs, own2⟩, hgr⟩
   have hl2 := aliases_one HOK.out (hp.trans HPM.out) hs
   subst hl2
   have HO2 := hid own2
   have HB3 := hid (HBL.out.grown hgr HBL.out.size (fun j hj => by have := (World.ownsRow.lt HOW.out _ hj).1; omega))
   clear hp hs own2 hgr
   go_wp2_with fail
   go_ret
   exact ⟨_, rfl, ownP_monoS HO2.out (by omega), HB3.out⟩
  ·intro x ct cf ca w3 cnt1 hxl hlx hatx hrg1 hlt1 hg1 hs1 hen
   have hlk : lookE (sdL t.als) x = some (ct, cf, ca) := by
    have h1 := hatx .nil
    rw [HAT.out] at h1
    cases hl : lookE (sdL t.als) x with
    | some y => rw [hl] at h1; rw [elSd.inj (show elSd.d y = elSd.d (ct, cf, ca) from h1)]
    | none => rw [hl] at h1; cases h1
   have HMM := hid (als_mem HOK.out ST.out.mem hlx hlk)
   have hown3 : OwnP w3 (w.heap.size + 1) _ l := World.ownsRow.kept ST.out.own hg1 (Or.inr fun e => by have := (World.ownsRow.lt ST.out.own _ e).1; omega)
   have HO3 := hid hown3
   have HB3 := hid (ST.out.bel.grown hg1 ST.out.bel.size (fun j hj => by cases hj; exact Nat.le_refl _))
   have HRG := hid hrg1
   have hll : l.length ≤ 1000000 := by have := ST.out.len; have := HSZ.out; omega
   have HLL := hid hll
   have HS3 := hid (show w.heap.size + 1 ≤ w3.heap.size by have := hrg1.lt; omega)
   have HC := hid hlt1
   clear hlk hown3 hll hatx hrg1 hlt1 hg1 hs1 hlx
   go_upto_region 7 with fail
   have HA := hid (show Below w3.heap.size w3 (w3.alloc (.cells #[.string ⟨ct.toArray⟩, .int .i64 cf, .int .i64 ca] 84)) from (Below.refl _ _).alloc (Nat.le_refl _) _)
   have GA := hid (World.grownBy_alloc w3 (.cells #[.string ⟨ct.toArray⟩, .int .i64 cf, .int .i64 ca] 84) none)
   have Y4 := hid (heap_alloc_new w3 (.cells #[.string ⟨ct.toArray⟩, .int .i64 cf, .int .i64 ca] 84))
   generalize w3.alloc (.cells #[.string ⟨ct.toArray⟩, .int .i64 cf, .int .i64 ca] 84) = w4 at *
   obtain ⟨y0, y1, y2, yl⟩ := box3_cells Y4.out
   have HO4 := hid (show OwnP w4 (w.heap.size + 1) _ l from own_below HO3.out HA.out)
   have HR4 := hid (HRG.out.kept GA.out (fun e => by cases e) (fun e => by cases e))
   have HB4 := hid (HB3.out.then HA.out)
   have HS4 := hid (Nat.le_trans HS3.out HA.out.size)
   clear HO3 HRG HB3 HA GA hen
   go_wp2_with (at_builtin; refine wpList_pushP rfl (.tmp 18) (.tmp 23) rfl (w.heap.size + 1) _ l (x, ct) rfl HO4.out rfl HLL.out HS4.out ?_; intro v5 w5 own5 gr5 mv5)
   have HO5 := hid own5
   have HR5 := hid (HR4.out.kept gr5 (fun e => by have h1 := (World.ownsRow.lt HO4.out _ e.symm).1; omega) (fun e => by have h1 := (World.ownsRow.lt HO4.out _ e.symm).1; omega))
   have HB5 := hid (HB4.out.grown gr5 HB4.out.size (fun j hj => by have := (World.ownsRow.lt HO4.out _ hj).1; omega))
   clear own5 gr5 mv5
   go_wp2_with fail
   go_roundg (gk - 1)
   case measure => have := ST.out.gas; have := HC.out; omega
   case rel => exact ⟨_, cnt1, l ++ [(x, ct)], HR5.out, by have := ST.out.gas; have := HC.out; omega, HO5.out, by
    rw [List.nodup_append]
    exact ⟨ST.out.nd, by simp, fun p hp q hq => by rw [List.mem_singleton.1 hq]; exact fun e => HMM.out.1 (e ▸ hp)⟩, HMM.out.2, HB5.out⟩
end Go.Proofs.YtjlfchnnhglbjaaGreat
namespace Go.Proofs.YtjlfchnnhglbjaaGreat
open Go.RowKit Go.Lib Go.Sort
set_option maxRecDepth 100000 in
set_option maxHeartbeats 8000000 in
theorem texts_any (w : World) (va vb : Value) (l : List Str) (ha : RdS w va l) (hb : RdS w vb l) :
  Calls Tryz.prog 19 #[va, vb] w fun e w' => e = .returned (.bool true) ∧ Below w.heap.size w w' := by
 obtain ⟨av, cv, rfl, hav, hsa⟩ := ha
 obtain ⟨bv, dv, rfl, hbv, hsb⟩ := hb
 have HSA := hid hsa
 have HSB := hid hsb
 clear hsa hsb
 go_enter Tryz.func19, Tryz.ntmps19
 go_wp2_with fail
 go_loopg [13] l.length (fun g vi W => ∃ n : Nat, n ≤ l.length ∧ l.length ≤ n + g ∧ vi = .int .i64 n ∧ ∃ k : Nat, W = w.drewN k)
 case atStart => exact ⟨0, Nat.zero_le _, by omega, rfl, 0, rfl⟩
 case round =>
  obtain ⟨n, hn, hg, rfl, nq1, rfl⟩ := hrel
  have HG := hid hg
  clear hg
  by_cases hlt : n < l.length
  ·have hne : l ≠ [] := by intro e; rw [e] at hlt; simp at hlt
   obtain ⟨p1, o1, rfl, hp1, hc1⟩ := HSA.out hne
   obtain ⟨p2, o2, rfl, hp2, hc2⟩ := HSB.out hne
   have q1 := hc1 n _ (List.getElem?_eq_getElem hlt)
   have q2 := hc2 n _ (List.getElem?_eq_getElem hlt)
   obtain ⟨x, hx⟩ : ∃ x, x = l[n] := ⟨_, rfl⟩
   rw [← hx, S] at q1 q2
   clear hc1 hc2 hx hne
   have hni : (n : Int) < (l.length : Int) := by omega
   have hn0 : (0 : Int) ≤ (n : Int) := by omega
   have hb1 : (x == x) = true := by simp
   have hb2 : (x != x) = false := by simp
   go_wp2_with fail
   go_quiet (fail)
   go_wp2_with fail
   go_roundg (gk - 1)
   case measure => have := HG.out; omega
   case rel => exact ⟨n + 1, by omega, by have := HG.out; omega, by simp, _, rfl⟩
  ·go_wp2_with fail
   go_ret
   exact ⟨rfl, below_drewN (Below.refl _ _) _⟩
end Go.Proofs.YtjlfchnnhglbjaaGreat
namespace Go.Proofs.YtjlfchnnhglbjaaGreat
open Go.RowKit Go.Lib Go.Sort Go.Maps Go.WideMaps
theorem infoDoc' : (Tryz.prog.info? 27).map (fun i => (i.zero, i.size, i.bytes)) = some (some (.agg #[.string ⟨#[]⟩, .bool false, .slice none 0 0]), 3, 48) := by kernel_rfl
theorem infoItm' : (Tryz.prog.info? 35).map (fun i => (i.zero, i.size, i.bytes)) = some (some (.agg #[.string ⟨#[]⟩, .string ⟨#[]⟩, .bool false, .string ⟨#[]⟩, .int .i64 0]), 5, 64) := by kernel_rfl
def cutDoc (d : Dc) : Dc := { d with items := d.items.take 40 }
def cutD (l : List Dc) : List Dc := (l.take 12).map cutDoc
def OwnD (w : World) (B : Nat) (v : Value) (l : List Dc) : Prop := ∃ zs : List (Dc × (Option Addr × Nat)), zs.map (·.1) = l ∧ OwnL encD 27 w B v zs ∧ ∀ z ∈ zs, OwnL encI 35 w B (.slice z.2.1 z.1.items.length z.2.2) z.1.items
section
variable {w w' : World} {B : Nat} {v : Value} {l : List Dc}
theorem OwnD.rd (h : OwnD w B v l) : RdD w v l := by
 obtain ⟨zs, h1, h2, h3⟩ := h
 exact ⟨zs, h1, h2.rd, fun z hz => (h3 z hz).rd⟩
theorem OwnD.below (h : OwnD w B v l) (hb : Below w.heap.size w w') : OwnD w' B v l := by
 obtain ⟨zs, h1, h2, h3⟩ := h
 exact ⟨zs, h1, h2.below hb, fun z hz => (h3 z hz).below hb⟩
theorem OwnD.slice (h : OwnD w B v l) : ∃ ao cp, v = .slice ao l.length cp ∧ l.length ≤ cp := by
 obtain ⟨zs, rfl, h2, h3⟩ := h
 obtain ⟨ao, cp, h, hc⟩ := h2.slice
 exact ⟨ao, cp, by rw [List.length_map]; exact h, by rw [List.length_map]; exact hc⟩
end
theorem own_fresh {α : Type} {k : Nat} (E : Enc α k) {W : World} {b B : Nat} {cs : Array Value} {ty : TypeId} (l : List α) (h : W.heap[b]? = some (.cells cs ty (0, 0))) (hc : cs.toList = flatL E l) (hB : B ≤ b) (hl : l.length ≤ maxLen) : OwnL E ty W B (.slice (some ⟨b, 0, none⟩) l.length l.length) l :=
 ⟨flatL_len E l, Or.inr ⟨b, l.length, cs, rfl, hB, h, Nat.le_refl _, hl, by rw [← Array.length_toList, hc, flatL_len], by rw [hc, List.take_of_length_le (by rw [flatL_len]; exact Nat.le_refl _)]⟩⟩
theorem RdL.take {α : Type} {k : Nat} {E : Enc α k} {W : World} {a : Option Addr} {n c : Nat} {l : List α} (h : RdL E W (.slice a n c) l) (m : Nat) (hm : m ≤ l.length) : RdL E W (.slice a m c) (l.take m) := by
 obtain ⟨ao, cp, e, ⟨h1, h2, h3⟩, hc⟩ := h
 cases e
 have hl : (l.take m).length = m := by rw [List.length_take]; omega
 refine ⟨a, c, by rw [hl], ⟨by omega, by omega, fun e => ?_⟩, fun hne => ?_⟩
 ·obtain ⟨e1, e2⟩ := h3 e
  exact ⟨by rw [e1]; simp, e2⟩
 ·obtain ⟨b, off, ha, hlt, hx⟩ := hc (by rintro rfl; simp at hne)
  refine ⟨b, off, ha, hlt, fun j i x hj hx2 => hx j i x (by rw [hl] at hj; omega) ?_⟩
  rw [List.getElem_take] at hx2
  exact hx2
theorem wpList_appL {α : Type} {k : Nat} {E : Enc α k} {ty : TypeId} {w : World} {ops : Array Oper} {rest : List Oper} {o : Oper} {a : Act} {Q : Exit → Act → World → Prop} (hgd : o.guard = none) (s x : Operand) {t : TypeId}
  (ho : o.op = .call { callee := .builtin .append, args := #[s, x], argTypes := #[t, t] })
  {z : Value} {bytes : Nat} (ht : Tryz.prog.underlying t = some (.slice ty)) (hinf : (Tryz.prog.info? ty).map (fun i => (i.zero, i.size, i.bytes)) = some (some z, k, bytes)) (hzs : z.cells.size = k) (hk : 0 < k)
  (B : Nat) (v : Value) (l m : List α) (hs : a.eval s = v) (hown : OwnL E ty w B v l) {u : Value} (hx : a.eval x = u) (hr : RdL E w u m) (hl : l.length + m.length ≤ maxLen) (hl2 : (l.length + m.length) * bytes ≤ 140737488355328) (hB : B ≤ w.heap.size)
  (h : ∀ v' w', OwnL E ty w' B v' (l ++ m) → w.grownBy w' v.ownBlock → wpList Tryz.prog ops Q rest (a.put o.dst v') w') :
  wpList Tryz.prog ops Q (o :: rest) a w := by
 obtain ⟨i0, hi, hz0, hz1, hz2⟩ := info_parts hinf
 obtain ⟨ao, cp, rfl, ⟨h1, h2, h3⟩, hc⟩ := hr
 cases hao : ao with
 | none =>
  subst hao
  obtain ⟨rfl, rfl⟩ := h3 rfl
  refine wpList_append_own_none hgd s x t ho B ty i0 k ht hi v l.length (flatL E l) hs hown hx (h v w (by rw [List.append_nil]; exact hown) (World.grownBy.refl _ _))
 | some ad =>
  by_cases hm : m = []
  ·subst hm
   subst hao
   refine wpList_app hgd s x t ho B ty i0 z k bytes ht hi hz0 hz1 hz2 hzs hk v l.length (flatL E l) hs hown ad 0 cp [] hx (by simp) (fun j u hu => by simp at hu) (fun u hu => by cases hu) (by simpa using hl) (by simpa using hl2) hB ?_
   intro v' w' own gr mv
   exact h v' w' (by rw [List.append_nil]; exact own_cast own rfl (by simp)) gr
  ·obtain ⟨b, off, ha, hlt, hcell⟩ := hc hm
   rw [hao] at ha
   cases ha
   subst hao
   refine wpList_app hgd s x t ho B ty i0 z k bytes ht hi hz0 hz1 hz2 hzs hk v l.length (flatL E l) hs hown ⟨b, off, none⟩ m.length cp (flatL E m) hx (flatL_len E m) (fun j u hu => ?_) (fun u hu => ?_) hl hl2 hB ?_
   ·have hj : j < m.length * k := by have := (List.getElem?_eq_some_iff.1 hu).1; rwa [flatL_len] at this
    have hq : j / k < m.length := Nat.div_lt_of_lt_mul (by rw [Nat.mul_comm]; exact hj)
    have hr := Nat.mod_lt j hk
    have he : j = j / k * k + j % k := by rw [Nat.mul_comm]; exact (Nat.div_add_mod j k).symm
    rw [he, flatL_get E m (j / k) (j % k) hq hr] at hu
    have := hcell (j / k) (j % k) u hq hu
    rw [Nat.add_assoc, ← he] at this
    have hadd : ((⟨b, off, none⟩ : Addr).add j) = ⟨b, off + j, none⟩ := by
     unfold Addr.add
     split
     ·next e => subst e; rfl
     ·rfl
    rw [hadd]; exact this
   ·obtain ⟨y, _, hy⟩ := List.mem_flatMap.1 hu
    exact E.one y u hy
   ·intro v' w' own gr mv
    exact h v' w' (own_cast own (by simp) (by rw [flatL_append])) gr
end Go.Proofs.YtjlfchnnhglbjaaGreat
namespace Go.Proofs.YtjlfchnnhglbjaaGreat
open Go.RowKit Go.Lib Go.Sort Go.Maps Go.WideMaps
theorem cut_take {l : List Dc} {n : Nat} (hn : n < l.length) : (l.take (n + 1)).map cutDoc = (l.take n).map cutDoc ++ [cutDoc (l[n]'hn)] := by
 rw [List.take_succ_eq_append_getElem hn, List.map_append]; rfl
structure CutSt (w W : World) (l : List Dc) (n : Nat) (v : Value) (zs : List (Dc × (Option Addr × Nat))) : Prop where
 eq : zs.map (·.1) = (l.take n).map cutDoc
 own : OwnL encD 27 W w.heap.size v zs
 each : ∀ z ∈ zs, OwnL encI 35 W w.heap.size (.slice z.2.1 z.1.items.length z.2.2) z.1.items
 bel : Below w.heap.size w W
section
variable {w W W' : World} {l : List Dc} {n : Nat} {v v' : Value} {zs : List (Dc × (Option Addr × Nat))}
theorem CutSt.below (h : CutSt w W l n v zs) (hb : Below W.heap.size W W') : CutSt w W' l n v zs :=
 ⟨h.eq, h.own.below hb, fun z hz => (h.each z hz).below hb, h.bel.then hb⟩
theorem CutSt.len (h : CutSt w W l n v zs) (hn : n ≤ l.length) : zs.length = n := by
 have := congrArg List.length h.eq
 rw [List.length_map, List.length_map, List.length_take] at this
 omega
theorem CutSt.push (h : CutSt w W l n v zs) {z : Dc × (Option Addr × Nat)} (hn : n < l.length) (he : z.1 = cutDoc (l[n]'hn)) (hz : OwnL encI 35 W w.heap.size (.slice z.2.1 z.1.items.length z.2.2) z.1.items) (o : OwnL encD 27 W' w.heap.size v' (zs ++ [z])) (gr : W.grownBy W' v.ownBlock) : CutSt w W' l (n + 1) v' (zs ++ [z]) := by
 refine ⟨by rw [List.map_append, h.eq, cut_take hn, ← he]; rfl, o, fun x hx => ?_, h.bel.grown gr h.bel.size (fun k hk => (World.ownsRow.lt h.own k hk).1)⟩
 rcases List.mem_append.1 hx with hx | hx
 ·exact World.ownsRow.kept (h.each x hx) gr (ne_kinds (h.each x hx) h.own (by decide))
 ·rw [List.mem_singleton.1 hx]
  exact World.ownsRow.kept hz gr (ne_kinds hz h.own (by decide))
theorem CutSt.done (h : CutSt w W l n v zs) (hn : n = 12 ∨ (n = l.length ∧ n ≤ 12)) : OwnD W w.heap.size v (cutD l) := by
 refine ⟨zs, ?_, h.own, h.each⟩
 rw [h.eq]
 unfold cutD
 rcases hn with rfl | ⟨rfl, h2⟩
 ·rfl
 ·rw [List.take_of_length_le (Nat.le_refl _), List.take_of_length_le h2]
end
set_option maxRecDepth 100000 in
set_option maxHeartbeats 8000000 in
theorem cut_any (w : World) (l : List Dc) (v : Value) (hd : RdD w v l) :
  Calls Tryz.prog 13 #[v] w fun e w' => ∃ v', e = .returned v' ∧ OwnD w' w.heap.size v' (cutD l) ∧ Below w.heap.size w w' := by
 obtain ⟨ao, cp, rfl, hln, h63, hcell⟩ := hd.cells
 have HCELL := hid hcell
 clear hcell hd
 go_enter Tryz.func13, Tryz.ntmps13
 go_wp2_with fail
 go_loopg [3, 8] l.length (fun g v3 v8 W => ∃ (n : Nat) (zs : List (Dc × (Option Addr × Nat))), n ≤ l.length ∧ n ≤ 12 ∧ l.length ≤ n + g ∧ v8 = .int .i64 n ∧ CutSt w W l n v3 zs)
 case atStart => exact ⟨0, [], Nat.zero_le _, by omega, by omega, rfl, rfl, OwnL.nil _ _ _ _, fun z hz => (by cases hz), Below.refl _ _⟩
 case round =>
  obtain ⟨n, zs, hn, h12, hg, rfl, st⟩ := hrel
  rename World => w2
  have HG := hid hg
  have ST2 := hid st
  have H12 := hid h12
  clear hg st h12
  by_cases hlt : n < l.length
  ·have hni : (n : Int) < (l.length : Int) := by omega
   have hn0 : (0 : Int) ≤ (n : Int) := by omega
   obtain ⟨p, o, a, c, rfl, hp, q0, q1, q2, hits⟩ := HCELL.out n hlt
   have r0 := (ST2.out.bel.cell (p := ⟨p, o + n * 3, none⟩) hp).trans q0
   have r1 := (ST2.out.bel.cell (p := ⟨p, o + n * 3 + 1, none⟩) hp).trans q1
   have r2 := (ST2.out.bel.cell (p := ⟨p, o + n * 3 + 2, none⟩) hp).trans q2
   have hp2 : p < w2.heap.size := Nat.lt_of_lt_of_le hp ST2.out.bel.size
   have HITS := hid (hits.take (min (l[n]'hlt).items.length 40) (Nat.min_le_left _ _))
   have HCD := hid (show cutDoc (l[n]'hlt) = { l[n]'hlt with items := (l[n]'hlt).items.take (min (l[n]'hlt).items.length 40) } by
    unfold cutDoc
    congr 1
    by_cases h : (l[n]'hlt).items.length ≤ 40
    ·rw [Nat.min_eq_left h, List.take_of_length_le h, List.take_of_length_le (Nat.le_refl _)]
    ·rw [Nat.min_eq_right (by omega)])
   obtain ⟨_, hic, _⟩ := RdI.cells hits
   have HIC := hid hic
   clear q0 q1 q2 hits hic
   obtain ⟨d, hdd⟩ : ∃ d, d = l[n]'hlt := ⟨_, rfl⟩
   have HDD := hid hdd
   rw [← hdd] at r0 r1 r2 HITS HCD HIC
   clear hdd
   obtain ⟨loc, supp, its⟩ := d
   simp only at r0 r1 r2 HITS HCD HIC
   go_upto_region 5 with fail
   have HB3 := hid (show Below w2.heap.size w2 (w2.alloc (.cells #[.string ⟨loc.toArray⟩, .bool supp, .slice a its.length c] 27)) from (Below.refl _ _).alloc (Nat.le_refl _) _)
   have F3 := hid (heap_alloc_new w2 (.cells #[.string ⟨loc.toArray⟩, .bool supp, .slice a its.length c] 27))
   generalize w2.alloc (.cells #[.string ⟨loc.toArray⟩, .bool supp, .slice a its.length c] 27) = w3 at *
   have ST3 := hid (ST2.out.below HB3.out)
   have HDB := hid (show w.heap.size ≤ w2.heap.size from ST2.out.bel.size)
   have HLT := hid (fun k (e : u3.ownBlock = some k) => (World.ownsRow.lt ST2.out.own k e).2)
   have HLE := hid (fun z (hz : z ∈ zs) k (e : (Value.slice z.2.1 z.1.items.length z.2.2).ownBlock = some k) => (World.ownsRow.lt (ST2.out.each z hz) k e).2)
   clear r0 r1 r2 hp2 ST2 HB3
   generalize w2.heap.size = Db at *
   obtain ⟨d0, d1, d2, dl⟩ := box3_cells F3.out
   obtain ⟨df0, df1, df2⟩ := box3_frozen F3.out
   by_cases he : n = 12
   ·have heb : ((n : Int) == 12) = true := by rw [beq_iff_eq]; omega
    have HD := hid (ST3.out.done (Or.inl he))
    clear he
    go_wp2_with fail
    exact bodyPost_ret (v := u3) (by simp [results, Tryz.results13, go_sem]) rfl ⟨_, rfl, HD.out, ST3.out.bel⟩
   ·have heb : ((n : Int) == 12) = false := by rw [beq_eq_false_iff_ne]; omega
    have HE := hid he
    clear he
    have HM := hid (show (min (its.length : Int) 40).toNat = min its.length 40 by omega)
    have HML := hid (show min its.length 40 ≤ 40 by omega)
    have HR := hid (show RdL encI (w3.alloc (.cells #[] 35)) (.slice a (min (its.length : Int) 40).toNat c) (its.take (min its.length 40)) by
     rw [HM.out]
     exact HITS.out.below ((ST3.out.bel.alloc ST3.out.bel.size _).mono (Nat.le_refl _)))
    have HF := hid (own_fresh encI (B := w.heap.size) [] (heap_alloc_new w3 (.cells #[] 35)) rfl ST3.out.bel.size (by simp [maxLen]))
    have HBZ := hid (show w.heap.size ≤ (w3.alloc (.cells #[] 35)).heap.size by have := ST3.out.bel.size; simp; omega)
    have HA := hid (show Below w3.heap.size w3 (w3.alloc (.cells #[] 35)) from (Below.refl _ _).alloc (Nat.le_refl _) _)
    have ST4 := hid (ST3.out.below HA.out)
    have F4 := hid ((HA.out.block _ (lt_of_block F3.out)).trans F3.out)
    have HIT := hid (show (its.take (min its.length 40)).length ≤ 40 by rw [List.length_take]; omega)
    have HD3 := hid (lt_of_block F3.out)
    have KF := hid (fun (W : World) (gr : (w3.alloc (.cells #[] 35)).grownBy W (some w3.heap.size)) => show W.heap[Db]? = some (.cells #[.string ⟨loc.toArray⟩, .bool supp, .slice a its.length c] 27 (0, 0)) from (gr.block _ (lt_of_block F4.out) (by have := HD3.out; simp; omega)).trans F4.out)
    have KS := hid (fun (W : World) (gr : (w3.alloc (.cells #[] 35)).grownBy W (some w3.heap.size)) => show CutSt w W l n u3 zs from ⟨ST4.out.eq, World.ownsRow.kept ST4.out.own gr (Or.inr (fun e => by have := (World.ownsRow.lt ST3.out.own _ e).2; omega)), fun z hz => World.ownsRow.kept (ST4.out.each z hz) gr (Or.inr (fun e => by have := (World.ownsRow.lt (ST3.out.each z hz) _ e).2; omega)), ST4.out.bel.grown gr HBZ.out (fun k hk => by cases hk; exact ST3.out.bel.size)⟩)
    have hm1 : (0 : Int) ≤ min (its.length : Int) 40 := by omega
    have hm2 : min (its.length : Int) 40 ≤ (c : Int) := by have := HIC.out; omega
    generalize its.take (min its.length 40) = its2 at *
    go_upto_region 7 with (at_builtin; refine wpList_appL (E := encI) rfl (.tmp 15) (.tmp 22) rfl Tryz.underlying25 infoItm' rfl (by decide) w.heap.size _ [] its2 rfl HF.out rfl HR.out (by have := HIT.out; unfold maxLen; simp; omega) (by have := HIT.out; simp; omega) HBZ.out ?_; intro v5 w5 own5 gr5; have HO5 := hid own5; have F5 := hid (KF.out w5 gr5); have ST5 := hid (KS.out w5 gr5); obtain ⟨a5, c5, rfl, hc5⟩ := own5.slice; clear own5 gr5 hc5 d0 d1 d2 dl df0 df1 df2; obtain ⟨d0, d1, d2, dl⟩ := box3_cells F5.out; obtain ⟨df0, df1, df2⟩ := box3_frozen F5.out)
    have F6 := hid (show (w5.setCell ⟨Db, 2, none⟩ (.slice a5 its2.length c5)).heap[Db]? = some (.cells #[.string ⟨loc.toArray⟩, .bool supp, .slice a5 its2.length c5] 27 (0, 0)) by rw [heap_setCell_same _ _ _ _ _ _ F5.out]; simp)
    have HO6 := hid (show OwnL encI 35 (w5.setCell ⟨Db, 2, none⟩ (.slice a5 its2.length c5)) w.heap.size (.slice a5 its2.length c5) its2 from own_set HO5.out (own_type HO5.out F5.out (by decide)) 2 _)
    have ST6 := hid (show CutSt w (w5.setCell ⟨Db, 2, none⟩ (.slice a5 its2.length c5)) l n u3 zs from ⟨ST5.out.eq, own_set ST5.out.own (fun e => Nat.lt_irrefl _ (HLT.out _ e)) 2 _, fun z hz => own_set (ST5.out.each z hz) (fun e => Nat.lt_irrefl _ (HLE.out z hz _ e)) 2 _, ST5.out.bel.setCell (p := ⟨Db, 2, none⟩) HDB.out _⟩)
    clear d0 d1 d2 dl df0 df1 df2 ST5 HO5 F5 KF KS HF HR ST4 F4 HA
    generalize w5.setCell ⟨Db, 2, none⟩ (.slice a5 its2.length c5) = w6 at *
    obtain ⟨d0, d1, d2, dl⟩ := box3_cells F6.out
    have HLN := hid (show zs.length ≤ 12 by rw [ST6.out.len hn]; exact H12.out)
    have HB2 := hid ST6.out.bel.size
    go_wp2_with (at_builtin; refine wpList_pushL (E := encD) rfl (.tmp 25) (.tmp 27) rfl Tryz.underlying23 infoDoc' rfl (by decide) w.heap.size _ zs (⟨loc, supp, its2⟩, (a5, c5)) rfl ST6.out.own rfl (by have := HLN.out; unfold maxLen; omega) (by have := HLN.out; omega) HB2.out #[.string ⟨loc.toArray⟩, .bool supp, .slice a5 its2.length c5] rfl ?_; intro v7 w7 own7 gr7 mv7; have ST7 := hid (ST6.out.push hlt (show _ = _ by rw [← HDD.out]; exact HCD.out.symm) HO6.out own7 gr7); clear own7 gr7 mv7)
    go_roundg (gk - 1)
    case measure => have := HG.out; omega
    case rel => exact ⟨n + 1, _, by omega, by have := H12.out; have := HE.out; omega, by have := HG.out; omega, by simp, ST7.out⟩
  ·have hni : ¬ (n : Int) < (l.length : Int) := by omega
   have HD := hid (ST2.out.done (Or.inr ⟨by omega, H12.out⟩))
   go_wp2_with fail
   exact bodyPost_ret (v := u3) (by simp [results, Tryz.results13, go_sem]) rfl ⟨_, rfl, HD.out, ST2.out.bel⟩
end Go.Proofs.YtjlfchnnhglbjaaGreat
namespace Go.Proofs.YtjlfchnnhglbjaaGreat
open Go.RowKit Go.Lib Go.Sort Go.Maps Go.WideMaps
def TbP (B0 : Nat) (W : World) (pt : Nat) (t : Tb) : Prop := ∃ bv ba bn bp N V, TbIn B0 W pt bv ba bn bp N V t
section
variable {B0 : Nat} {W W' : World} {pt : Nat} {t : Tb}
theorem TbP.below (h : TbP B0 W pt t) (hb : Below W.heap.size W W') : TbP B0 W' pt t := by
 obtain ⟨bv, ba, bn, bp, N, V, h⟩ := h
 exact ⟨bv, ba, bn, bp, N, V, h.below hb⟩
theorem TbP.locales (h : TbP B0 W pt t) (ok : TbOk t) : Calls Tryz.prog 15 #[.pointer (some ⟨pt, 0, none⟩)] W fun e w' => OutS W (srtT t.names) e w' := by
 obtain ⟨bv, ba, bn, bp, N, V, h⟩ := h
 exact locales_any h ok
theorem TbP.all (h : TbP B0 W pt t) (ok : TbOk t) : Calls Tryz.prog 16 #[.pointer (some ⟨pt, 0, none⟩)] W fun e w' => OutS W (srtT t.paths) e w' := by
 obtain ⟨bv, ba, bn, bp, N, V, h⟩ := h
 exact all_any h ok
theorem TbP.paths (h : TbP B0 W pt t) (ok : TbOk t) (loc : Str) (hl : loc.length ≤ maxLen) : Calls Tryz.prog 22 #[.pointer (some ⟨pt, 0, none⟩), .string ⟨loc.toArray⟩] W fun e w' => OutS W (pathsF t loc) e w' := by
 obtain ⟨bv, ba, bn, bp, N, V, h⟩ := h
 exact paths_any h ok loc hl
theorem TbP.aliases (h : TbP B0 W pt t) (ok : TbOk t) (hs : t.als.length ≤ 1000) : Calls Tryz.prog 17 #[.pointer (some ⟨pt, 0, none⟩)] W fun e w' => OutP W (aliasesF t) e w' := by
 obtain ⟨bv, ba, bn, bp, N, V, h⟩ := h
 exact aliases_any h ok hs
theorem TbP.get (h : TbP B0 W pt t) (loc path : Str) (hl : loc.length ≤ maxLen) (hp : path.length ≤ maxLen) : Calls Tryz.prog 24 #[.pointer (some ⟨pt, 0, none⟩), .string ⟨loc.toArray⟩, .string ⟨path.toArray⟩] W fun e w' => e = .returned (.tuple #[.string ⟨(rText (findR t.rows loc path)).toArray⟩, .bool (findR t.rows loc path).isSome]) ∧ Below W.heap.size W w' := by
 obtain ⟨bv, ba, bn, bp, N, V, h⟩ := h
 exact get_any h loc path hl hp
theorem TbP.where_ (h : TbP B0 W pt t) (loc path : Str) (hl : loc.length ≤ maxLen) (hp : path.length ≤ maxLen) : Calls Tryz.prog 25 #[.pointer (some ⟨pt, 0, none⟩), .string ⟨loc.toArray⟩, .string ⟨path.toArray⟩] W fun e w' => e = .returned (.tuple #[.int .i64 (rFile (findR t.rows loc path)), .int .i64 (rAt (findR t.rows loc path)), .bool (findR t.rows loc path).isSome]) ∧ Below W.heap.size W w' := by
 obtain ⟨bv, ba, bn, bp, N, V, h⟩ := h
 exact where_any h loc path hl hp
end
structure SameT (a b : Tb) : Prop where
 names : srtT a.names = srtT b.names
 paths : srtT a.paths = srtT b.paths
 als : aliasesF a = aliasesF b
 each : ∀ loc, pathsF a loc = pathsF b loc
 text : ∀ loc path, (findR a.rows loc path).map (·.text) = (findR b.rows loc path).map (·.text)
theorem rText_eq {a b : Option Rw} (h : a.map (·.text) = b.map (·.text)) : rText a = rText b := by
 unfold rText; rw [h]
theorem isSome_eq {a b : Option Rw} (h : a.map (·.text) = b.map (·.text)) : a.isSome = b.isSome := by
 rw [← Option.isSome_map, h, Option.isSome_map]
theorem path_has {t : Tb} {loc p : Str} (h : p ∈ pathsF t loc) : (findR t.rows loc p).isSome = true := by
 have h1 := (srtT_perm _).mem_iff.1 h
 obtain ⟨r, hr, rfl⟩ := List.mem_map.1 h1
 obtain ⟨h2, h3⟩ := List.mem_filter.1 hr
 cases hf : findR t.rows loc r.path with
 | some x => rfl
 | none => exact absurd ⟨by simpa using h3, rfl⟩ (findR_none.1 hf r h2)
structure SzT (t : Tb) : Prop where
 names : ∀ s ∈ t.names, s.length ≤ maxLen
 rows : ∀ r ∈ t.rows, r.path.length ≤ maxLen
theorem paths_sz {t : Tb} (h : SzT t) {loc p : Str} (hp : p ∈ pathsF t loc) : p.length ≤ maxLen := by
 have h1 := (srtT_perm _).mem_iff.1 hp
 obtain ⟨r, hr, rfl⟩ := List.mem_map.1 h1
 exact h.rows r (List.mem_filter.1 hr).1
theorem names_sz {t : Tb} (h : SzT t) {s : Str} (hp : s ∈ srtT t.names) : s.length ≤ maxLen := h.names s ((srtT_perm _).mem_iff.1 hp)
theorem ownP_cells {W : World} {B : Nat} {a : Option Addr} {n c : Nat} {l : List (Str × Str)} (h : OwnP W B (.slice a n c) l) (hne : l ≠ []) : ∃ g, a = some ⟨g, 0, none⟩ ∧ g < W.heap.size ∧ ∀ j (hj : j < l.length), W.cell? ⟨g, j * 2, none⟩ = some (.string ⟨(l[j]'hj).1.toArray⟩) ∧ W.cell? ⟨g, j * 2 + 1, none⟩ = some (.string ⟨(l[j]'hj).2.toArray⟩) := by
 rcases h.shape with ⟨_, e⟩ | ⟨g, cap, cur, e, hB, hg, hn, hm, hs, ht⟩
 ·exact absurd e hne
 ·cases e
  refine ⟨g, rfl, lt_of_block hg, fun j hj => ⟨?_, ?_⟩⟩
  ·exact cells_at hg ht _ _ (by have := flat2_get l j 0 hj (by decide); rw [Nat.add_zero] at this; rw [this]; rfl)
  ·exact cells_at hg ht _ _ (by rw [flat2_get l j 1 hj (by decide)]; rfl)
end Go.Proofs.YtjlfchnnhglbjaaGreat
namespace Go.Proofs.YtjlfchnnhglbjaaGreat
open Go.RowKit Go.Lib Go.Sort Go.Maps Go.WideMaps
theorem rdS_at {W : World} {a : Option Addr} {n c : Nat} {l : List Str} (h : RdS W (.slice a n c) l) (j : Nat) (hj : j < l.length) : ∃ p o, a = some ⟨p, o, none⟩ ∧ p < W.heap.size ∧ W.cell? ⟨p, o + j, none⟩ = some (.string ⟨(l[j]'hj).toArray⟩) := by
 obtain ⟨ao, cp, e, _, hr⟩ := h
 cases e
 obtain ⟨b, off, ha, hb, hc⟩ := hr (by rintro rfl; simp at hj)
 exact ⟨b, off, ha, hb, hc j _ (List.getElem?_eq_getElem hj)⟩
set_option maxRecDepth 100000 in
set_option maxHeartbeats 8000000 in
theorem tables_any (B0 B1 : Nat) (w : World) (p1 p2 : Nat) (t1 t2 : Tb) (h1 : TbP B0 w p1 t1) (h2 : TbP B1 w p2 t2) (ok1 : TbOk t1) (ok2 : TbOk t2) (sz1 : SzT t1) (ha1 : t1.als.length ≤ 1000) (ha2 : t2.als.length ≤ 1000) (hs : SameT t1 t2) :
  Calls Tryz.prog 29 #[.pointer (some ⟨p1, 0, none⟩), .pointer (some ⟨p2, 0, none⟩)] w fun e w' => e = .returned (.bool true) ∧ Below w.heap.size w w' := by
 have HS := hid hs
 have O1 := hid ok1
 have O2 := hid ok2
 have A1 := hid ha1
 have A2 := hid ha2
 have SZ := hid sz1
 have T1 := hid h1
 have T2 := hid h2
 have LO1 := hid (fun W (h : TbP B0 W p1 t1) => h.locales O1.out)
 have LO2 := hid (fun W (h : TbP B1 W p2 t2) => h.locales O2.out)
 have AL1 := hid (fun W (h : TbP B0 W p1 t1) => h.all O1.out)
 have AL2 := hid (fun W (h : TbP B1 W p2 t2) => h.all O2.out)
 have AS1 := hid (fun W (h : TbP B0 W p1 t1) => h.aliases O1.out A1.out)
 have AS2 := hid (fun W (h : TbP B1 W p2 t2) => h.aliases O2.out A2.out)
 rw [← hs.names] at LO2
 rw [← hs.paths] at AL2
 rw [← hs.als] at AS2
 clear hs ok1 ok2 ha1 ha2 sz1 h1 h2
 obtain ⟨ns, hns⟩ : ∃ ns, ns = srtT t1.names := ⟨_, rfl⟩
 have HNS := hid hns
 rw [← hns] at LO1 LO2
 clear hns
 have HAL := hid (show (aliasesF t1).length ≤ 1000 by rw [(aliasesF_perm t1).length_eq, alP_len]; exact A1.out)
 generalize srtT t1.paths = ps at *
 generalize aliasesF t1 = als at *
 have BW := hid (Below.refl w.heap.size w)
 go_enter Tryz.func29, Tryz.ntmps29
 go_wp2_with fail
 refine (LO1.out _ T1.out).mono ?_
 rintro e wt1 ⟨vt1, rfl, ot1, bt1⟩
 have T1 := hid (T1.out.below bt1)
 have T2 := hid (T2.out.below bt1)
 have BW := hid (BW.out.then bt1)
 obtain ⟨at1, ct1, rfl⟩ := own_sliceS ot1
 have Q1 := hid ot1
 clear ot1
 clear bt1
 go_wp2_with fail
 refine (LO2.out _ T2.out).mono ?_
 rintro e wt2 ⟨vt2, rfl, ot2, bt2⟩
 have T1 := hid (T1.out.below bt2)
 have T2 := hid (T2.out.below bt2)
 have BW := hid (BW.out.then bt2)
 have Q1 := hid (own_below Q1.out bt2)
 obtain ⟨at2, ct2, rfl⟩ := own_sliceS ot2
 have Q2 := hid ot2
 clear ot2
 clear bt2
 go_wp2_with fail
 refine (texts_any _ _ _ ns (OwnS.rd Q1.out) (OwnS.rd Q2.out)).mono ?_
 rintro e wt3 ⟨rfl, bt3⟩
 have T1 := hid (T1.out.below bt3)
 have T2 := hid (T2.out.below bt3)
 have BW := hid (BW.out.then bt3)
 clear bt3
 go_wp2_with fail
 clear Q1 Q2
 refine (AL1.out _ T1.out).mono ?_
 rintro e wt4 ⟨vt4, rfl, ot4, bt4⟩
 have T1 := hid (T1.out.below bt4)
 have T2 := hid (T2.out.below bt4)
 have BW := hid (BW.out.then bt4)
 obtain ⟨at4, ct4, rfl⟩ := own_sliceS ot4
 have Q1 := hid ot4
 clear ot4
 clear bt4
 go_wp2_with fail
 refine (AL2.out _ T2.out).mono ?_
 rintro e wt5 ⟨vt5, rfl, ot5, bt5⟩
 have T1 := hid (T1.out.below bt5)
 have T2 := hid (T2.out.below bt5)
 have BW := hid (BW.out.then bt5)
 have Q1 := hid (own_below Q1.out bt5)
 obtain ⟨at5, ct5, rfl⟩ := own_sliceS ot5
 have Q2 := hid ot5
 clear ot5
 clear bt5
 go_wp2_with fail
 refine (texts_any _ _ _ ps (OwnS.rd Q1.out) (OwnS.rd Q2.out)).mono ?_
 rintro e wt6 ⟨rfl, bt6⟩
 have T1 := hid (T1.out.below bt6)
 have T2 := hid (T2.out.below bt6)
 have BW := hid (BW.out.then bt6)
 clear bt6
 go_wp2_with fail
 clear Q1 Q2
 refine (AS1.out _ T1.out).mono ?_
 rintro e wt7 ⟨vt7, rfl, ot7, bt7⟩
 have T1 := hid (T1.out.below bt7)
 have T2 := hid (T2.out.below bt7)
 have BW := hid (BW.out.then bt7)
 obtain ⟨at7, ct7, rfl⟩ := own_sliceP ot7
 have Q1 := hid ot7
 clear ot7
 clear bt7
 go_wp2_with fail
 refine (AS2.out _ T2.out).mono ?_
 rintro e wt8 ⟨vt8, rfl, ot8, bt8⟩
 have T1 := hid (T1.out.below bt8)
 have T2 := hid (T2.out.below bt8)
 have BW := hid (BW.out.then bt8)
 obtain ⟨at8, ct8, rfl⟩ := own_sliceP ot8
 have Q2 := hid ot8
 clear ot8
 clear bt8
 go_wp2_with fail
 clear Q1 Q2
 refine (AS1.out _ T1.out).mono ?_
 rintro e wt9 ⟨vt9, rfl, ot9, bt9⟩
 have T1 := hid (T1.out.below bt9)
 have T2 := hid (T2.out.below bt9)
 have BW := hid (BW.out.then bt9)
 obtain ⟨at9, ct9, rfl⟩ := own_sliceP ot9
 have Q1 := hid ot9
 clear ot9
 clear bt9
 go_wp2_with fail
 go_loopg [41] als.length (fun g v W => ∃ n : Nat, n ≤ als.length ∧ als.length ≤ n + g ∧ v = .int .i64 n ∧ Below wt9.heap.size wt9 W)
 case atStart => exact ⟨0, Nat.zero_le _, by omega, rfl, Below.refl _ _⟩
 case round =>
  obtain ⟨n, hn, hg, rfl, hb⟩ := hrel
  rename World => wa
  have HG := hid hg
  have HB := hid hb
  clear hg hb
  have T1a := hid (T1.out.below HB.out)
  have T2a := hid (T2.out.below HB.out)
  by_cases hlt : n < als.length
  ·have hne : als ≠ [] := by intro e; rw [e] at hlt; simp at hlt
   obtain ⟨g1, rfl, hg1, hc1⟩ := ownP_cells Q1.out hne
   obtain ⟨q1, q2⟩ := hc1 n hlt
   have r1 := (HB.out.cell (p := ⟨g1, n * 2, none⟩) hg1).trans q1
   have r2 := (HB.out.cell (p := ⟨g1, n * 2 + 1, none⟩) hg1).trans q2
   have hg2 : g1 < wa.heap.size := Nat.lt_of_lt_of_le hg1 HB.out.size
   have hni : (n : Int) < (als.length : Int) := by omega
   have hal : (als.length : Int) ≤ 1000 := by have := HAL.out; omega
   have hn0 : (0 : Int) ≤ (n : Int) := by omega
   obtain ⟨kv, hkv⟩ : ∃ kv, kv = als[n]'hlt := ⟨_, rfl⟩
   have HKV := hid hkv
   rw [← hkv] at r1 r2
   obtain ⟨k, v⟩ := kv
   simp only at r1 r2
   clear q1 q2 hc1 hkv hne
   go_upto_region 6 with fail
   have HA := hid (show Below wa.heap.size wa (wa.alloc (.cells #[.string ⟨k.toArray⟩, .string ⟨v.toArray⟩] 48)) from (Below.refl _ _).alloc (Nat.le_refl _) _)
   have FP := hid (heap_alloc_new wa (.cells #[.string ⟨k.toArray⟩, .string ⟨v.toArray⟩] 48))
   generalize wa.alloc (.cells #[.string ⟨k.toArray⟩, .string ⟨v.toArray⟩] 48) = wb at *
   have T2b := hid ((T2a.out.below HA.out).below (Below.refl _ _).drew)
   have HBb := hid (HB.out.then HA.out)
   generalize wa.heap.size = Pb at *
   obtain ⟨x0, x1, _, _, xl⟩ := box2_cells FP.out
   clear r1 r2 hg2
   have KC := hid (fun (W : World) (a : Option Addr) (c : Nat) (ho : OwnP W wb.drew.heap.size (.slice a als.length c) als) (hb : Below wb.drew.heap.size wb.drew W) => show ∃ g, a = some ⟨g, 0, none⟩ ∧ g < W.heap.size ∧ W.cell? ⟨g, n * 2, none⟩ = some (.string ⟨k.toArray⟩) ∧ W.cell? ⟨g, n * 2 + 1, none⟩ = some (.string ⟨v.toArray⟩) ∧ W.cell? ⟨Pb, 0, none⟩ = some (.string ⟨k.toArray⟩) ∧ W.cell? ⟨Pb, 1, none⟩ = some (.string ⟨v.toArray⟩) from by
    obtain ⟨g, e, hg, hc⟩ := ownP_cells ho (by intro e; rw [e] at hlt; simp at hlt)
    obtain ⟨c1, c2⟩ := hc n hlt
    rw [← HKV.out] at c1 c2
    exact ⟨g, e, hg, c1, c2, (hb.cell (p := ⟨Pb, 0, none⟩) (lt_of_block FP.out)).trans x0, (hb.cell (p := ⟨Pb, 1, none⟩) (lt_of_block FP.out)).trans x1⟩)
   have x0d : wb.drew.cell? ⟨Pb, 0, none⟩ = some (.string ⟨k.toArray⟩) := x0
   have x1d : wb.drew.cell? ⟨Pb, 1, none⟩ = some (.string ⟨v.toArray⟩) := x1
   have xld : Pb < wb.drew.heap.size := xl
   have AS2d := hid (AS2.out _ T2b.out)
   clear x0 x1 xl
   go_region_with (first | (go_at_call 17; refine AS2d.out.mono ?_; rintro e w' ⟨v', rfl, ho, hb⟩; obtain ⟨a2, c2, rfl⟩ := own_sliceP ho; obtain ⟨g2, rfl, hg2, y1, y2, x3, x4⟩ := KC.out _ _ _ ho hb))
   all_goals
    have HB2 := hid (HBb.out.drew.then hb)
    clear x0d x1d xld y1 y2 x3 x4 ho hb hg2
    go_wp2_with fail
    go_roundg (gk - 1)
   all_goals first
    | (have := HG.out; omega)
    | exact ⟨n + 1, by omega, by have := HG.out; omega, by simp, HB2.out⟩
  ·have hni : ¬ (n : Int) < (als.length : Int) := by omega
   have HBW := hid (BW.out.then HB.out)
   obtain ⟨L2, hL2⟩ : ∃ L2, L2 = ns ++ [([] : Str)] := ⟨_, rfl⟩
   have HL2 := hid hL2
   have HLD := hid (show L2.length = ns.length + 1 by rw [hL2]; simp)
   clear hL2
   have HNL := hid (show ns.length ≤ 1000000 by rw [HNS.out]; unfold srtT; rw [List.length_mergeSort]; have := O1.out.n512; omega)
   go_wp2_with fail
   refine (LO1.out _ T1a.out).mono ?_
   rintro e wc ⟨vc, rfl, oc, bc⟩
   have BC := hid bc
   have QC := hid oc
   have HSB := hid (show wa.heap.size ≤ wc.heap.size from bc.size)
   obtain ⟨ac, cc, rfl⟩ := own_sliceS oc
   clear oc bc
   go_wp2_with (at_builtin; refine wpList_pushS rfl (.tmp 55) (.tmp 56) rfl wa.heap.size _ ns [] rfl QC.out rfl HNL.out HSB.out ?_; intro vd wd od' gd md; have od : OwnS wd wa.heap.size vd L2 := (by rw [HL2.out]; exact od'); have QD := hid od; have BD := hid (BC.out.grown gd HSB.out (fun k hk => (World.ownsRow.lt QC.out k hk).1)); obtain ⟨ad, cd, rfl⟩ := own_sliceS od; clear od od' gd md)
   have T1d := hid (T1a.out.below BD.out)
   have T2d := hid (T2a.out.below BD.out)
   have BWd := hid (HBW.out.then BD.out)
   have HLZ := hid (show ∀ x ∈ L2, x.length ≤ maxLen by
    intro x hx
    rw [HL2.out] at hx
    rcases List.mem_append.1 hx with hx | hx
    ·exact names_sz SZ.out (by rw [← HNS.out]; exact hx)
    ·rw [List.mem_singleton.1 hx]; exact Nat.zero_le _)
   clear HB T1a T2a HBW QC HSB BC hni
   go_loopg [59] L2.length (fun g v W => ∃ n : Nat, n ≤ L2.length ∧ L2.length ≤ n + g ∧ v = .int .i64 n ∧ Below wd.heap.size wd W)
   case atStart => exact ⟨0, Nat.zero_le _, by omega, rfl, Below.refl _ _⟩
   case round =>
    obtain ⟨i, hi, hg, rfl, hb⟩ := hrel
    rename World => we
    obtain ⟨go, hgo⟩ : ∃ go, go = gk := ⟨_, rfl⟩
    have HGO := hid hgo
    have HG := hid (show L2.length ≤ i + go by rw [hgo]; exact hg)
    have HBE := hid hb
    clear hg hb hgo
    by_cases hlt2 : i < L2.length
    ·have T1 := hid (T1d.out.below HBE.out)
     have T2 := hid (T2d.out.below HBE.out)
     have BW := hid (BWd.out.then HBE.out)
     have BE := HBE
     obtain ⟨g1, o1, rfl, hg1, hc1⟩ := rdS_at (OwnS.rd QD.out) i hlt2
     have r1 := (HBE.out.cell (p := ⟨g1, o1 + i, none⟩) hg1).trans hc1
     have hg2 : g1 < we.heap.size := Nat.lt_of_lt_of_le hg1 HBE.out.size
     have HL := hid (HLZ.out _ (List.getElem_mem hlt2))
     have hni : (i : Int) < (L2.length : Int) := by omega
     have hnl : (L2.length : Int) ≤ 1000001 := by have := HNL.out; have := HLD.out; omega
     have hn0 : (0 : Int) ≤ (i : Int) := by omega
     generalize L2[i]'hlt2 = loc at *
     clear hc1
     have PA1 := hid (fun W (h : TbP B0 W p1 t1) => h.paths O1.out loc HL.out)
     have PA2 := hid (fun W (h : TbP B1 W p2 t2) => h.paths O2.out loc HL.out)
     rw [← HS.out.each loc] at PA2
     obtain ⟨pl, hpl⟩ : ∃ pl, pl = pathsF t1 loc := ⟨_, rfl⟩
     rw [← hpl] at PA1 PA2
     have HPL := hid hpl
     clear hpl
     go_wp2_with fail
     refine (PA1.out _ T1.out).mono ?_
     rintro e wt10 ⟨vt10, rfl, ot10, bt10⟩
     have T1 := hid (T1.out.below bt10)
     have T2 := hid (T2.out.below bt10)
     have BW := hid (BW.out.then bt10)
     have BE := hid (BE.out.then bt10)
     obtain ⟨at10, ct10, rfl⟩ := own_sliceS ot10
     have Q1 := hid ot10
     clear ot10
     clear bt10
     go_wp2_with fail
     refine (PA2.out _ T2.out).mono ?_
     rintro e wt11 ⟨vt11, rfl, ot11, bt11⟩
     have T1 := hid (T1.out.below bt11)
     have T2 := hid (T2.out.below bt11)
     have BW := hid (BW.out.then bt11)
     have BE := hid (BE.out.then bt11)
     have Q1 := hid (own_below Q1.out bt11)
     obtain ⟨at11, ct11, rfl⟩ := own_sliceS ot11
     have Q2 := hid ot11
     clear ot11
     clear bt11
     go_wp2_with fail
     refine (texts_any _ _ _ pl (OwnS.rd Q1.out) (OwnS.rd Q2.out)).mono ?_
     rintro e wt12 ⟨rfl, bt12⟩
     have T1 := hid (T1.out.below bt12)
     have T2 := hid (T2.out.below bt12)
     have BW := hid (BW.out.then bt12)
     have BE := hid (BE.out.then bt12)
     clear bt12
     go_wp2_with fail
     clear Q1 Q2
     refine (PA1.out _ T1.out).mono ?_
     rintro e wt13 ⟨vt13, rfl, ot13, bt13⟩
     have T1 := hid (T1.out.below bt13)
     have T2 := hid (T2.out.below bt13)
     have BW := hid (BW.out.then bt13)
     have BE := hid (BE.out.then bt13)
     obtain ⟨at13, ct13, rfl⟩ := own_sliceS ot13
     have Q1 := hid ot13
     clear ot13
     clear bt13
     go_wp2_with fail
     have HPN := hid (show pl.length ≤ 16384 by rw [HPL.out]; unfold pathsF srtT; rw [List.length_mergeSort, List.length_map]; exact rows_le O1.out loc)
     go_loopg [75] pl.length (fun g v W => ∃ m : Nat, m ≤ pl.length ∧ pl.length ≤ m + g ∧ v = .int .i64 m ∧ Below wt13.heap.size wt13 W)
     case atStart => exact ⟨0, Nat.zero_le _, by omega, rfl, Below.refl _ _⟩
     case round =>
      obtain ⟨m, hm, hg, rfl, hb⟩ := hrel
      rename World => wf
      have HG2 := hid hg
      have HBF := hid hb
      clear hg hb r1 hg2
      have T1 := hid (T1.out.below HBF.out)
      have T2 := hid (T2.out.below HBF.out)
      have BE := hid (BE.out.then HBF.out)
      have BW := hid (BW.out.then HBF.out)
      have BF := HBF
      by_cases hlt3 : m < pl.length
      ·obtain ⟨g2, o2, rfl, hgg, hc2⟩ := rdS_at (OwnS.rd Q1.out) m hlt3
       have r2 := (HBF.out.cell (p := ⟨g2, o2 + m, none⟩) hgg).trans hc2
       have hgf : g2 < wf.heap.size := Nat.lt_of_lt_of_le hgg HBF.out.size
       have hmi : (m : Int) < (pl.length : Int) := by omega
       have hm0 : (0 : Int) ≤ (m : Int) := by omega
       have hpl : (pl.length : Int) ≤ 16384 := by have := HPN.out; omega
       have hmem := List.getElem_mem hlt3
       clear hc2
       generalize pl[m]'hlt3 = p at *
       have hin : p ∈ pathsF t1 loc := by rw [← HPL.out]; exact hmem
       have HP2 := hid (paths_sz SZ.out hin)
       have HIS := hid (path_has hin)
       clear hin hmem
       have GT1 := hid (fun W (h : TbP B0 W p1 t1) => h.get loc p HL.out HP2.out)
       have GT2 := hid (fun W (h : TbP B1 W p2 t2) => h.get loc p HL.out HP2.out)
       rw [← rText_eq (HS.out.text loc p), ← isSome_eq (HS.out.text loc p), HIS.out] at GT2
       rw [HIS.out] at GT1
       generalize rText (findR t1.rows loc p) = tx at *
       have hb1 : (tx == tx) = true := by simp
       have hb2 : (tx != tx) = false := by simp
       go_wp2_with fail
       refine (GT1.out _ T1.out).mono ?_
       rintro e wt14 ⟨rfl, bt14⟩
       have T1 := hid (T1.out.below bt14)
       have T2 := hid (T2.out.below bt14)
       have BW := hid (BW.out.then bt14)
       have BE := hid (BE.out.then bt14)
       have BF := hid (BF.out.then bt14)
       clear bt14
       go_wp2_with fail
       refine (GT2.out _ T2.out).mono ?_
       rintro e wt15 ⟨rfl, bt15⟩
       have T1 := hid (T1.out.below bt15)
       have T2 := hid (T2.out.below bt15)
       have BW := hid (BW.out.then bt15)
       have BE := hid (BE.out.then bt15)
       have BF := hid (BF.out.then bt15)
       clear bt15
       go_wp2_with fail
       go_roundg (gk - 1)
       case measure => have := HG2.out; omega
       case rel => exact ⟨m + 1, by omega, by have := HG2.out; omega, by simp, BF.out⟩
      ·have hmi : ¬ (m : Int) < (pl.length : Int) := by omega
       go_wp2_with fail
       go_roundg (go - 1)
       case measure => have := HG.out; have := HGO.out; omega
       case rel => exact ⟨i + 1, by omega, by have := HG.out; omega, by simp, BE.out⟩
    ·have hni : ¬ (i : Int) < (L2.length : Int) := by omega
     have BW := hid (BWd.out.then HBE.out)
     go_wp2_with fail
     exact bodyPost_ret (v := .bool true) (by simp [results, Tryz.results29, go_sem]) rfl ⟨rfl, BW.out⟩
end Go.Proofs.YtjlfchnnhglbjaaGreat
namespace Go.Proofs.YtjlfchnnhglbjaaGreat
open Go.Lib
abbrev Ev := Str × Itm
structure Inv (E : List Ev) (NS : List Str) (t : Tb) : Prop where
 rows : ∀ loc p v, (findR t.rows loc p).map (·.text) = some v ↔ ∃ x, (loc, x) ∈ E ∧ x.alias' = false ∧ x.path = p ∧ x.value = v
 als : ∀ p v, (findR t.als tRoot p).map (·.text) = some v ↔ ∃ loc x, (loc, x) ∈ E ∧ x.alias' = true ∧ x.path = p ∧ x.value = v
 names : ∀ s, s ∈ t.names ↔ s ∈ NS
 paths : ∀ p, p ∈ t.paths ↔ ∃ loc x, (loc, x) ∈ E ∧ x.alias' = false ∧ x.path = p
theorem Inv.zero : Inv [] [] Tb.zero := ⟨fun loc p v => by simp [findR, Tb.zero], fun p v => by simp [findR, Tb.zero], fun s => by simp [Tb.zero], fun p => by simp [Tb.zero]⟩
theorem ev_one {E : List Ev} {loc : Str} {x : Itm} {l : Str} {Q : Itm → Prop} : (∃ y, (l, y) ∈ E ++ [(loc, x)] ∧ Q y) ↔ (∃ y, (l, y) ∈ E ∧ Q y) ∨ (l = loc ∧ Q x) := by
 constructor
 ·rintro ⟨y, hy, q⟩
  rcases List.mem_append.1 hy with hy | hy
  ·exact Or.inl ⟨y, hy, q⟩
  ·have := List.mem_singleton.1 hy
   cases this
   exact Or.inr ⟨rfl, q⟩
 ·rintro (⟨y, hy, q⟩ | ⟨rfl, q⟩)
  ·exact ⟨y, List.mem_append.2 (Or.inl hy), q⟩
  ·exact ⟨x, List.mem_append.2 (Or.inr (List.mem_singleton.2 rfl)), q⟩
theorem ev_any {E : List Ev} {loc : Str} {x : Itm} {Q : Itm → Prop} : (∃ l y, (l, y) ∈ E ++ [(loc, x)] ∧ Q y) ↔ (∃ l y, (l, y) ∈ E ∧ Q y) ∨ Q x := by
 constructor
 ·rintro ⟨l, h⟩
  rcases ev_one.1 h with h | ⟨_, q⟩
  ·exact Or.inl ⟨l, h⟩
  ·exact Or.inr q
 ·rintro (⟨l, h⟩ | q)
  ·exact ⟨l, ev_one.2 (Or.inl h)⟩
  ·exact ⟨loc, ev_one.2 (Or.inr ⟨rfl, q⟩)⟩
theorem findR_app (l : List Rw) (r : Rw) (loc p : Str) : findR (l ++ [r]) loc p = (findR l loc p).or (if r.loc = loc ∧ r.path = p then some r else none) := by
 unfold findR
 rw [List.find?_append]
 cases List.find? (fun r => r.loc == loc && r.path == p) l with
 | some x => rfl
 | none =>
  by_cases h : r.loc = loc ∧ r.path = p
  ·rw [if_pos h]; simp [h.1, h.2]
  ·rw [if_neg h]
   have : (r.loc == loc && r.path == p) = false := by
    rw [Bool.eq_false_iff]
    intro e
    simp only [Bool.and_eq_true, beq_iff_eq] at e
    exact h e
   simp [List.find?_cons, this]
section
variable {E : List Ev} {NS : List Str} {t : Tb} {loc : Str} {f : Nat} {x : Itm}
theorem inv_alias_keep (h : Inv E NS t) (ha : x.alias' = true) (hv : (findR t.als tRoot x.path).map (·.text) = some x.value) : Inv (E ++ [(loc, x)]) NS t := by
 refine ⟨fun l p v => ?_, fun p v => ?_, h.names, fun p => ?_⟩
 ·rw [h.rows, ev_one]
  exact ⟨Or.inl, fun e => e.elim id (fun e => by rw [ha] at e; exact absurd e.2.1 (by simp))⟩
 ·rw [ev_any, ← h.als]
  refine ⟨Or.inl, fun e => e.elim id ?_⟩
  rintro ⟨_, rfl, rfl⟩
  exact hv
 ·rw [h.paths, ev_any]
  exact ⟨Or.inl, fun e => e.elim id (fun e => by rw [ha] at e; exact absurd e.1 (by simp))⟩
theorem inv_alias_new (h : Inv E NS t) (ha : x.alias' = true) (hl : loc = tRoot) (hf : findR t.als tRoot x.path = none) : Inv (E ++ [(loc, x)]) NS { t with als := t.als ++ [⟨loc, x.path, x.value, f, x.at'⟩] } := by
 refine ⟨fun l p v => ?_, fun p v => ?_, h.names, fun p => ?_⟩
 ·show (findR t.rows l p).map (·.text) = some v ↔ _
  rw [h.rows, ev_one]
  exact ⟨Or.inl, fun e => e.elim id (fun e => by rw [ha] at e; exact absurd e.2.1 (by simp))⟩
 ·show (findR (t.als ++ [⟨loc, x.path, x.value, f, x.at'⟩]) tRoot p).map (·.text) = some v ↔ _
  rw [ev_any, ← h.als, findR_app]
  by_cases hp : x.path = p
  ·subst hp
   rw [hf, if_pos ⟨hl, rfl⟩]
   simp [ha]
  ·rw [if_neg (fun e => hp e.2), Option.or_none]
   exact ⟨Or.inl, fun e => e.elim id (fun e => absurd e.2.1 hp)⟩
 ·show p ∈ t.paths ↔ _
  rw [h.paths, ev_any]
  exact ⟨Or.inl, fun e => e.elim id (fun e => by rw [ha] at e; exact absurd e.1 (by simp))⟩
theorem inv_row_keep (h : Inv E NS t) (ok : TbOk t) (ha : x.alias' = false) (hv : (findR t.rows loc x.path).map (·.text) = some x.value) : Inv (E ++ [(loc, x)]) NS t := by
 refine ⟨fun l p v => ?_, fun p v => ?_, h.names, fun p => ?_⟩
 ·rw [ev_one, ← h.rows]
  refine ⟨Or.inl, fun e => e.elim id ?_⟩
  rintro ⟨rfl, _, rfl, rfl⟩
  exact hv
 ·rw [h.als, ev_any]
  exact ⟨Or.inl, fun e => e.elim id (fun e => by rw [ha] at e; exact absurd e.1 (by simp))⟩
 ·rw [ev_any, ← h.paths]
  refine ⟨Or.inl, fun e => e.elim id ?_⟩
  rintro ⟨_, rfl⟩
  obtain ⟨r, hr, _⟩ := Option.map_eq_some_iff.1 hv
  obtain ⟨h1, _, h3⟩ := findR_some hr
  rw [← h3]; exact ok.rp r h1
theorem inv_row_new (h : Inv E NS t) (ha : x.alias' = false) (hf : findR t.rows loc x.path = none) {ps : List Str} (hps : ∀ p, p ∈ ps ↔ p ∈ t.paths ∨ p = x.path) : Inv (E ++ [(loc, x)]) NS { t with rows := t.rows ++ [⟨loc, x.path, x.value, f, x.at'⟩], paths := ps } := by
 refine ⟨fun l p v => ?_, fun p v => ?_, h.names, fun p => ?_⟩
 ·show (findR (t.rows ++ [⟨loc, x.path, x.value, f, x.at'⟩]) l p).map (·.text) = some v ↔ _
  rw [ev_one, ← h.rows, findR_app]
  by_cases hp : loc = l ∧ x.path = p
  ·obtain ⟨rfl, rfl⟩ := hp
   rw [hf, if_pos ⟨rfl, rfl⟩]
   simp [ha]
  ·rw [if_neg hp, Option.or_none]
   exact ⟨Or.inl, fun e => e.elim id (fun e => absurd ⟨e.1.symm, e.2.2.1⟩ hp)⟩
 ·show (findR t.als tRoot p).map (·.text) = some v ↔ _
  rw [h.als, ev_any]
  exact ⟨Or.inl, fun e => e.elim id (fun e => by rw [ha] at e; exact absurd e.1 (by simp))⟩
 ·show p ∈ ps ↔ _
  rw [hps, h.paths, ev_any]
  constructor
  ·rintro (e | rfl)
   ·exact Or.inl e
   ·exact Or.inr ⟨ha, rfl⟩
  ·rintro (e | ⟨_, e⟩)
   ·exact Or.inl e
   ·exact Or.inr e.symm
def okItm (loc : Str) (x : Itm) : Prop := ¬ (x.path = [] ∨ pathB x.path = false) ∧ ¬ (x.alias' = true ∧ loc ≠ tRoot)
theorem item_inv {t' : Tb} (h : Inv E NS t) (ok : TbOk t) (hi : itemF t loc f x = (0, t')) : okItm loc x ∧ Inv (E ++ [(loc, x)]) NS t' := by
 unfold itemF at hi
 split at hi
 ·cases hi
 rename_i h1
 split at hi
 ·cases hi
 rename_i h2
 refine ⟨⟨h1, h2⟩, ?_⟩
 split at hi
 ·rename_i h3
  have hl : loc = tRoot := by
   by_cases e : loc = tRoot
   ·exact e
   ·exact absurd ⟨h3, e⟩ h2
  subst hl
  split at hi
  ·rename_i r hr
   split at hi
   ·rename_i h4
    cases hi
    exact inv_alias_keep h h3 (by rw [hr]; simp [h4])
   ·cases hi
  ·rename_i hr
   cases hi
   exact inv_alias_new h h3 rfl hr
 ·rename_i h3
  have ha : x.alias' = false := by simpa using h3
  split at hi
  ·rename_i r hr
   split at hi
   ·rename_i h4
    cases hi
    exact inv_row_keep h ok ha (by rw [hr]; simp [h4])
   ·cases hi
  ·rename_i hr
   split at hi
   ·rename_i hp
    cases hi
    have := inv_row_new (f := f) h ha hr (ps := t.paths) (fun p => ⟨Or.inl, fun e => e.elim id (fun e => e ▸ hp)⟩)
    exact this
   ·split at hi
    ·cases hi
    ·cases hi
     exact inv_row_new h ha hr (fun p => by simp)
end
end Go.Proofs.YtjlfchnnhglbjaaGreat
namespace Go.Proofs.YtjlfchnnhglbjaaGreat
open Go.Lib
def evI (loc : Str) (l : List Itm) : List Ev := l.map fun x => (loc, x)
def evs (L : List Dc) : List Ev := L.flatMap fun d => evI d.loc d.items
def nms (L : List Dc) : List Str := (L.filter fun d => !d.supp).map (·.loc)
def okHead (d : Dc) : Prop := ¬ ((d.supp = true ∧ d.loc ≠ []) ∨ (d.supp = false ∧ namedB d.loc = false))
def okDoc (d : Dc) : Prop := okHead d ∧ ∀ x ∈ d.items, okItm d.loc x
theorem evs_cons (d : Dc) (L : List Dc) : evs (d :: L) = evI d.loc d.items ++ evs L := by simp [evs]
theorem nms_cons (d : Dc) (L : List Dc) : nms (d :: L) = (if d.supp = true then [] else [d.loc]) ++ nms L := by
 unfold nms
 cases hs : d.supp <;> simp [List.filter_cons, hs]
theorem items_inv (loc : Str) (f : Nat) : ∀ (l : List Itm) {E : List Ev} {NS : List Str} {t t' : Tb}, Inv E NS t → TbOk t → itemsF loc f t l = (none, t') → (∀ x ∈ l, okItm loc x) ∧ Inv (E ++ evI loc l) NS t' ∧ TbOk t'
 | [], E, NS, t, t', h, ok, hi => by
  cases hi
  exact ⟨(fun x hx => by cases hx), (by simpa [evI] using h), ok⟩
 | x :: r, E, NS, t, t', h, ok, hi => by
  rw [itemsF] at hi
  cases he : itemF t loc f x with
  | mk e t1 =>
   rw [he] at hi
   cases e with
   | succ e => cases hi
   | zero =>
    obtain ⟨h1, h2⟩ := item_inv h ok he
    have ok1 := item_ok ok loc f x
    rw [he] at ok1
    obtain ⟨h3, h4, h5⟩ := items_inv loc f r h2 ok1 hi
    refine ⟨fun y hy => ?_, by rw [List.append_assoc] at h4; exact h4, h5⟩
    rcases List.mem_cons.1 hy with rfl | hy
    ·exact h1
    ·exact h3 y hy
theorem items_err (loc : Str) (f : Nat) : ∀ (l : List Itm) {t t' : Tb} {e : Nat} {a : Int}, itemsF loc f t l = (some (e, a), t') → e ≠ 0
 | [], t, t', e, a, hi => by cases hi
 | x :: r, t, t', e, a, hi => by
  rw [itemsF] at hi
  cases he : itemF t loc f x with
  | mk e1 t1 =>
   rw [he] at hi
   cases e1 with
   | zero => exact items_err loc f r hi
   | succ e1 => cases hi; exact Nat.succ_ne_zero _
theorem head_inv {E : List Ev} {NS : List Str} {t t1 : Tb} {d : Dc} (h : Inv E NS t) (hh : headF t d = (0, t1)) : okHead d ∧ Inv E (NS ++ (if d.supp = true then [] else [d.loc])) t1 := by
 unfold headF at hh
 split at hh
 ·cases hh
 rename_i h1
 refine ⟨h1, ?_⟩
 split at hh
 ·rename_i h2
  cases hh
  refine ⟨h.rows, h.als, fun s => ?_, h.paths⟩
  by_cases hs : d.supp = true
  ·rw [if_pos hs, List.append_nil]; exact h.names s
  ·rw [if_neg hs, List.mem_append, List.mem_singleton, ← h.names]
   exact ⟨Or.inl, fun e => e.elim id (fun e => by rw [e]; exact h2.resolve_left hs)⟩
 ·rename_i h2
  split at hh
  ·cases hh
  ·cases hh
   refine ⟨h.rows, h.als, fun s => ?_, h.paths⟩
   have hs : ¬ d.supp = true := fun e => h2 (Or.inl e)
   rw [if_neg hs]
   show s ∈ t.names ++ [d.loc] ↔ _
   rw [List.mem_append, List.mem_append, h.names]
theorem docs_inv : ∀ (L : List Dc) (f : Nat) {t : Tb} {E : List Ev} {NS : List Str}, Inv E NS t → TbOk t → (docsF f t L).1.err = 0 →
  (docsF f t L).1 = Wrg.ok ∧ (∀ d ∈ L, okDoc d) ∧ Inv (E ++ evs L) (NS ++ nms L) (docsF f t L).2 ∧ TbOk (docsF f t L).2
 | [], f, t, E, NS, h, ok, hz => ⟨rfl, (fun d hd => by cases hd), (by simpa [evs, nms, docsF] using h), ok⟩
 | d :: r, f, t, E, NS, h, ok, hz => by
  rw [docsF] at hz ⊢
  cases hh : headF t d with
  | mk e t1 =>
   rw [hh] at hz
   cases e with
   | succ e => cases hz
   | zero =>
    obtain ⟨o1, i1⟩ := head_inv h hh
    have k1 := head_tb ok d
    rw [hh] at k1
    simp only at hz ⊢
    cases hi : itemsF d.loc f t1 d.items with
    | mk x t2 =>
     rw [hi] at hz
     cases x with
     | some y =>
      obtain ⟨e, a⟩ := y
      exact absurd hz (items_err _ _ _ hi)
     | none =>
      obtain ⟨o2, i2, k2⟩ := items_inv d.loc f d.items i1 k1 hi
      simp only at hz ⊢
      obtain ⟨r1, r2, r3, r4⟩ := docs_inv r (f + 1) i2 k2 hz
      refine ⟨r1, fun y hy => ?_, ?_, r4⟩
      ·rcases List.mem_cons.1 hy with rfl | hy
       ·exact ⟨o1, o2⟩
       ·exact r2 y hy
      ·rw [evs_cons, nms_cons, ← List.append_assoc, ← List.append_assoc]; exact r3
def Cons (E : List Ev) : Prop := ∀ e ∈ E, ∀ e' ∈ E, e.2.alias' = e'.2.alias' → e.2.path = e'.2.path → (e.2.alias' = true ∨ e.1 = e'.1) → e.2.value = e'.2.value
theorem inv_cons {E : List Ev} {NS : List Str} {t : Tb} (h : Inv E NS t) : Cons E := by
 rintro ⟨l, x⟩ hx ⟨l', x'⟩ hx' ha hp hl
 simp only at ha hp hl ⊢
 cases hb : x.alias' with
 | true =>
  have e1 := (h.als x.path x.value).2 ⟨l, x, hx, hb, rfl, rfl⟩
  have e2 := (h.als x'.path x'.value).2 ⟨l', x', hx', by rw [← ha]; exact hb, rfl, rfl⟩
  rw [hp] at e1
  exact Option.some.inj (e1.symm.trans e2)
 | false =>
  have hll : l = l' := hl.resolve_left (by rw [hb]; simp)
  subst hll
  have e1 := (h.rows l x.path x.value).2 ⟨x, hx, hb, rfl, rfl⟩
  have e2 := (h.rows l x'.path x'.value).2 ⟨x', hx', by rw [← ha]; exact hb, rfl, rfl⟩
  rw [hp] at e1
  exact Option.some.inj (e1.symm.trans e2)
theorem item_go {E : List Ev} {NS : List Str} {t : Tb} {loc : Str} {f : Nat} {x : Itm} (h : Inv E NS t) (ok : TbOk t) (ho : okItm loc x) (hc : Cons (E ++ [(loc, x)])) (hl : E.length < 16384) : ∃ t', itemF t loc f x = (0, t') := by
 have hin : (loc, x) ∈ E ++ [(loc, x)] := by simp
 unfold itemF
 rw [if_neg ho.1, if_neg ho.2]
 by_cases ha : x.alias' = true
 ·rw [if_pos ha]
  have hlr : loc = tRoot := by
   by_cases e : loc = tRoot
   ·exact e
   ·exact absurd ⟨ha, e⟩ ho.2
  subst hlr
  cases hf : findR t.als tRoot x.path with
  | none => exact ⟨_, rfl⟩
  | some r =>
   obtain ⟨l', x', hx', a1, a2, a3⟩ := (h.als x.path r.text).1 (by rw [hf]; rfl)
   have := hc _ hin _ (List.mem_append.2 (Or.inl hx')) (by show x.alias' = x'.alias'; rw [ha, a1]) a2.symm (Or.inl ha)
   simp only
   rw [if_pos (by rw [← a3]; exact this.symm)]
   exact ⟨_, rfl⟩
 ·rw [if_neg ha]
  have hb : x.alias' = false := by simpa using ha
  cases hf : findR t.rows loc x.path with
  | some r =>
   obtain ⟨x', hx', a1, a2, a3⟩ := (h.rows loc x.path r.text).1 (by rw [hf]; rfl)
   have := hc _ hin _ (List.mem_append.2 (Or.inl hx')) (by show x.alias' = x'.alias'; rw [hb, a1]) a2.symm (Or.inr rfl)
   simp only
   rw [if_pos (by rw [← a3]; exact this.symm)]
   exact ⟨_, rfl⟩
  | none =>
   simp only
   by_cases hp : x.path ∈ t.paths
   ·rw [if_pos hp]; exact ⟨_, rfl⟩
   ·rw [if_neg hp]
    have := nodup_le t.paths (E.map (fun e => e.2.path)) ok.paths (fun p hp => by
     obtain ⟨l, y, hy, _, e⟩ := (h.paths p).1 hp
     exact List.mem_map.2 ⟨(l, y), hy, e⟩)
    rw [List.length_map] at this
    rw [if_neg (by omega)]; exact ⟨_, rfl⟩
theorem items_go (loc : Str) (f : Nat) : ∀ (l : List Itm) {E : List Ev} {NS : List Str} {t : Tb}, Inv E NS t → TbOk t → (∀ x ∈ l, okItm loc x) → Cons (E ++ evI loc l) → (E ++ evI loc l).length ≤ 16384 → ∃ t', itemsF loc f t l = (none, t')
 | [], E, NS, t, h, ok, ho, hc, hl => ⟨t, rfl⟩
 | x :: r, E, NS, t, h, ok, ho, hc, hl => by
  have e : E ++ evI loc (x :: r) = (E ++ [(loc, x)]) ++ evI loc r := by simp [evI]
  rw [e] at hc hl
  obtain ⟨t1, h1⟩ := item_go (f := f) h ok (ho x (List.mem_cons_self ..)) (fun a ha b hb => hc a (List.mem_append.2 (Or.inl ha)) b (List.mem_append.2 (Or.inl hb))) (by simp only [List.length_append, List.length_singleton] at hl; omega)
  obtain ⟨_, h2⟩ := item_inv h ok h1
  have k1 := item_ok ok loc f x
  rw [h1] at k1
  obtain ⟨t2, h3⟩ := items_go loc f r h2 k1 (fun y hy => ho y (List.mem_cons_of_mem _ hy)) hc hl
  exact ⟨t2, by rw [itemsF, h1]; exact h3⟩
theorem head_go {E : List Ev} {NS : List Str} {t : Tb} {d : Dc} (h : Inv E NS t) (ok : TbOk t) (ho : okHead d) (hl : (NS ++ (if d.supp = true then [] else [d.loc])).length ≤ 512) : ∃ t1, headF t d = (0, t1) := by
 unfold headF
 rw [if_neg ho]
 by_cases h2 : d.supp = true ∨ d.loc ∈ t.names
 ·rw [if_pos h2]; exact ⟨_, rfl⟩
 ·rw [if_neg h2]
  have hs : ¬ d.supp = true := fun e => h2 (Or.inl e)
  rw [if_neg hs] at hl
  have := nodup_le (t.names ++ [d.loc]) (NS ++ [d.loc]) (by
   rw [List.nodup_append]
   exact ⟨ok.names, by simp, fun a ha b hb e => h2 (Or.inr (by rw [List.mem_singleton.1 hb] at e; exact e ▸ ha))⟩) (fun s hs => by
    rcases List.mem_append.1 hs with hs | hs
    ·exact List.mem_append.2 (Or.inl ((h.names s).1 hs))
    ·exact List.mem_append.2 (Or.inr hs))
  rw [List.length_append, List.length_singleton] at this
  rw [if_neg (by omega)]; exact ⟨_, rfl⟩
theorem docs_go : ∀ (L : List Dc) (f : Nat) {t : Tb} {E : List Ev} {NS : List Str}, Inv E NS t → TbOk t → (∀ d ∈ L, okDoc d) → Cons (E ++ evs L) → (NS ++ nms L).length ≤ 512 → (E ++ evs L).length ≤ 16384 → (docsF f t L).1.err = 0
 | [], f, t, E, NS, h, ok, ho, hc, hn, hl => rfl
 | d :: r, f, t, E, NS, h, ok, ho, hc, hn, hl => by
  rw [evs_cons, ← List.append_assoc] at hc hl
  rw [nms_cons, ← List.append_assoc] at hn
  obtain ⟨t1, h1⟩ := head_go h ok (ho d (List.mem_cons_self ..)).1 (by rw [List.length_append] at hn; omega)
  obtain ⟨_, i1⟩ := head_inv h h1
  have k1 := head_tb ok d
  rw [h1] at k1
  obtain ⟨t2, h2⟩ := items_go d.loc f d.items i1 k1 (ho d (List.mem_cons_self ..)).2 (fun a ha b hb => hc a (List.mem_append.2 (Or.inl ha)) b (List.mem_append.2 (Or.inl hb))) (by rw [List.length_append] at hl; omega)
  obtain ⟨_, i2, k2⟩ := items_inv d.loc f d.items i1 k1 h2
  rw [docsF, h1]
  simp only [h2]
  exact docs_go r (f + 1) i2 k2 (fun y hy => ho y (List.mem_cons_of_mem _ hy)) hc hn hl
end Go.Proofs.YtjlfchnnhglbjaaGreat
namespace Go.Proofs.YtjlfchnnhglbjaaGreat
open Go.Lib
theorem srtT_mem {l m : List Str} (hl : l.Nodup) (hm : m.Nodup) (h : ∀ x, x ∈ l ↔ x ∈ m) : srtT l = srtT m := srtT_of_perm ((List.perm_ext_iff_of_nodup hl hm).2 h)
theorem opt_ext {a b : Option Str} (h : ∀ v, a = some v ↔ b = some v) : a = b := by
 cases a with
 | none =>
  cases b with
  | none => rfl
  | some v => have := (h v).2 rfl; cases this
 | some v => exact ((h v).1 rfl).symm
theorem rows_mem {t : Tb} {loc p : Str} : p ∈ (rowsOf t loc).map (·.path) ↔ ∃ v, (findR t.rows loc p).map (·.text) = some v := by
 constructor
 ·intro h
  obtain ⟨r, hr, rfl⟩ := List.mem_map.1 h
  obtain ⟨h2, h3⟩ := List.mem_filter.1 hr
  cases hf : findR t.rows loc r.path with
  | some x => exact ⟨x.text, rfl⟩
  | none => exact absurd ⟨by simpa using h3, rfl⟩ (findR_none.1 hf r h2)
 ·rintro ⟨v, h⟩
  obtain ⟨r, hr, _⟩ := Option.map_eq_some_iff.1 h
  obtain ⟨h1, h2, h3⟩ := findR_some hr
  exact List.mem_map.2 ⟨r, List.mem_filter.2 ⟨h1, by simpa using h2⟩, h3⟩
theorem als_find {t : Tb} (ok : TbOk t) {r : Rw} (h : r ∈ t.als) : findR t.als tRoot r.path = some r := by
 cases hf : findR t.als tRoot r.path with
 | none => exact absurd ⟨ok.root r h, rfl⟩ (findR_none.1 hf r h)
 | some x =>
  obtain ⟨h1, h2, h3⟩ := findR_some hf
  have hn := ok.als
  rw [List.Nodup, List.pairwise_map, List.pairwise_iff_getElem] at hn
  obtain ⟨i, hi, rfl⟩ := List.getElem_of_mem h
  obtain ⟨j, hj, rfl⟩ := List.getElem_of_mem h1
  by_cases hij : i = j
  ·subst hij; rfl
  ·exfalso
   rcases Nat.lt_or_gt_of_ne hij with hl | hl
   ·exact hn i j hi hj hl h3.symm
   ·exact hn j i hj hi hl h3
theorem alP_mem {t : Tb} (ok : TbOk t) {p v : Str} : (p, v) ∈ alP t ↔ (findR t.als tRoot p).map (·.text) = some v := by
 constructor
 ·intro h
  obtain ⟨r, hr, e⟩ := List.mem_map.1 h
  simp only [Prod.mk.injEq] at e
  rw [← e.1, als_find ok hr, ← e.2]; rfl
 ·intro h
  obtain ⟨r, hr, e⟩ := Option.map_eq_some_iff.1 h
  obtain ⟨h1, h2, h3⟩ := findR_some hr
  exact List.mem_map.2 ⟨r, h1, by rw [h3, e]⟩
theorem alP_nodup {t : Tb} (ok : TbOk t) : (alP t).Nodup := by
 have := ok.als
 rw [← alP_keys, List.Nodup, List.pairwise_map] at this
 exact this.imp fun h e => h (by rw [e])
theorem inv_same {E E' : List Ev} {NS NS' : List Str} {a b : Tb} (ha : Inv E NS a) (hb : Inv E' NS' b) (oa : TbOk a) (ob : TbOk b) (hE : ∀ e, e ∈ E ↔ e ∈ E') (hN : ∀ s, s ∈ NS ↔ s ∈ NS') : SameT a b := by
 have htext : ∀ loc path, (findR a.rows loc path).map (·.text) = (findR b.rows loc path).map (·.text) := fun loc path => opt_ext fun v => by
  rw [ha.rows, hb.rows]; simp only [hE]
 refine ⟨srtT_mem oa.names ob.names fun s => by rw [ha.names, hb.names, hN], srtT_mem oa.paths ob.paths fun p => by rw [ha.paths, hb.paths]; simp only [hE], ?_, fun loc => srtT_mem (rows_nodup oa loc) (rows_nodup ob loc) fun p => by rw [rows_mem, rows_mem, htext], htext⟩
 have hp : (alP a).Perm (alP b) := (List.perm_ext_iff_of_nodup (alP_nodup oa) (alP_nodup ob)).2 fun ⟨p, v⟩ => by
  rw [alP_mem oa, alP_mem ob, ha.als, hb.als]; simp only [hE]
 exact aliases_one ob ((aliasesF_perm a).trans hp) (aliasesF_sorted a)
theorem new_same {L M : List Dc} (h : (newF L).1.err = 0) (hE : ∀ e, e ∈ evs L ↔ e ∈ evs M) (hN : ∀ s, s ∈ nms L ↔ s ∈ nms M) (ho : ∀ d ∈ M, okDoc d) (hn : (nms M).length ≤ 512) (hl : (evs M).length ≤ 16384) :
  (newF M).1 = Wrg.ok ∧ SameT (newF L).2 (newF M).2 ∧ TbOk (newF L).2 ∧ TbOk (newF M).2 := by
 obtain ⟨_, h2, h3, h4⟩ := docs_inv L 0 Inv.zero TbOk.zero h
 rw [List.nil_append, List.nil_append] at h3
 have hc := inv_cons h3
 have hz := docs_go M 0 Inv.zero TbOk.zero ho (by rw [List.nil_append]; exact fun a ha b hb => hc a ((hE a).2 ha) b ((hE b).2 hb)) (by rw [List.nil_append]; exact hn) (by rw [List.nil_append]; exact hl)
 obtain ⟨g1, g2, g3, g4⟩ := docs_inv M 0 Inv.zero TbOk.zero hz
 rw [List.nil_append, List.nil_append] at g3
 exact ⟨g1, inv_same h3 g3 h4 g4 hE hN, h4, g4⟩
theorem evs_mem {L : List Dc} {e : Ev} : e ∈ evs L ↔ ∃ d ∈ L, ∃ x ∈ d.items, e = (d.loc, x) := by
 unfold evs evI
 simp only [List.mem_flatMap, List.mem_map]
 exact ⟨fun ⟨d, hd, x, hx, he⟩ => ⟨d, hd, x, hx, he.symm⟩, fun ⟨d, hd, x, hx, he⟩ => ⟨d, hd, x, hx, he.symm⟩⟩
theorem nms_mem {L : List Dc} {s : Str} : s ∈ nms L ↔ ∃ d ∈ L, d.supp = false ∧ d.loc = s := by
 unfold nms
 simp only [List.mem_map, List.mem_filter, Bool.not_eq_true', and_assoc]
theorem evs_len : ∀ (L : List Dc) (k : Nat), (∀ d ∈ L, d.items.length ≤ k) → (evs L).length ≤ k * L.length
 | [], k, h => Nat.zero_le _
 | d :: r, k, h => by
  have h1 := h d (List.mem_cons_self ..)
  have ih := evs_len r k (fun x hx => h x (List.mem_cons_of_mem _ hx))
  rw [evs_cons, List.length_append, List.length_cons, Nat.mul_succ]
  simp only [evI, List.length_map]
  omega
theorem nms_len (L : List Dc) : (nms L).length ≤ L.length := by
 unfold nms
 rw [List.length_map]; exact List.length_filter_le _ _
end Go.Proofs.YtjlfchnnhglbjaaGreat
namespace Go.Proofs.YtjlfchnnhglbjaaGreat
open Go.RowKit Go.Lib Go.Sort Go.Maps Go.WideMaps
def SzL (l : List Dc) : Prop := ∀ d ∈ l, d.loc.length ≤ maxLen ∧ ∀ x ∈ d.items, x.path.length ≤ maxLen
theorem cutD_len (l : List Dc) : (cutD l).length ≤ 12 := by unfold cutD; rw [List.length_map, List.length_take]; omega
theorem cutD_mem {l : List Dc} {d : Dc} (h : d ∈ cutD l) : ∃ c ∈ l, d = cutDoc c := by
 obtain ⟨c, hc, rfl⟩ := List.mem_map.1 h
 exact ⟨c, List.mem_of_mem_take hc, rfl⟩
theorem cutD_40 {l : List Dc} {d : Dc} (h : d ∈ cutD l) : d.items.length ≤ 40 := by
 obtain ⟨c, _, rfl⟩ := cutD_mem h
 show (c.items.take 40).length ≤ 40
 rw [List.length_take]; omega
theorem costD_le' : ∀ (l : List Dc) (k : Nat), (∀ d ∈ l, d.items.length ≤ k) → costD l ≤ (4 * k + 1) * l.length
 | [], k, h => Nat.zero_le _
 | d :: r, k, h => by
  have h1 := h d (List.mem_cons_self ..)
  have ih := costD_le' r k (fun x hx => h x (List.mem_cons_of_mem _ hx))
  rw [costD, List.length_cons, Nat.mul_succ]
  omega
theorem sz_cut {l : List Dc} (h : SzL l) : SzL (cutD l) := by
 intro d hd
 obtain ⟨c, hc, rfl⟩ := cutD_mem hd
 exact ⟨(h c hc).1, fun x hx => (h c hc).2 x (List.mem_of_mem_take hx)⟩
theorem szD_of {l : List Dc} (h : SzL l) (h12 : l.length ≤ 1000) (h40 : ∀ d ∈ l, d.items.length ≤ 1000) : SzD l := by
 refine ⟨h, ?_⟩
 have := costD_le' l 1000 h40
 have h2 : (4 * 1000 + 1) * l.length ≤ 4001 * 1000 := Nat.mul_le_mul_left _ h12
 unfold maxLen
 omega
theorem szT_of {l : List Dc} (h : SzL l) (hz : (newF l).1.err = 0) : SzT (newF l).2 := by
 obtain ⟨_, h2, h3, h4⟩ := docs_inv l 0 Inv.zero TbOk.zero hz
 rw [List.nil_append, List.nil_append] at h3
 refine ⟨fun s hs => ?_, fun r hr => ?_⟩
 ·obtain ⟨d, hd, _, rfl⟩ := nms_mem.1 ((h3.names s).1 hs)
  exact (h d hd).1
 ·obtain ⟨l', x, hx, _, e⟩ := (h3.paths r.path).1 (h4.rp r hr)
  obtain ⟨d, hd, y, hy, e2⟩ := evs_mem.1 hx
  cases e2
  rw [← e]; exact (h d hd).2 _ hy
theorem als_len {l : List Dc} (hz : (newF l).1.err = 0) (hl : (evs l).length ≤ 1000) : (newF l).2.als.length ≤ 1000 := by
 obtain ⟨_, h2, h3, h4⟩ := docs_inv l 0 Inv.zero TbOk.zero hz
 rw [List.nil_append, List.nil_append] at h3
 have := nodup_le ((newF l).2.als.map (·.path)) ((evs l).map fun e => e.2.path) h4.als (fun p hp => by
  obtain ⟨r, hr, rfl⟩ := List.mem_map.1 hp
  obtain ⟨l', x, hx, _, e, _⟩ := (h3.als r.path r.text).1 (by
   have := als_find h4 hr
   rw [this]; rfl)
  exact List.mem_map.2 ⟨(l', x), hx, e⟩)
 rw [List.length_map, List.length_map] at this
 omega
theorem u64_mod (turn : Int) {n : Nat} (hn : 0 < n) : ∃ k : Nat, (IntKind.u64.wrap turn).tmod (n : Int) = (k : Int) ∧ k < n := by
 have h0 : 0 ≤ IntKind.u64.wrap turn := by
  simp only [IntKind.wrap]
  exact Int.emod_nonneg _ (by decide)
 have h1 := Int.tmod_nonneg (n : Int) h0
 have h2 := Int.tmod_lt_of_pos (IntKind.u64.wrap turn) (show (0 : Int) < (n : Int) by omega)
 exact ⟨((IntKind.u64.wrap turn).tmod (n : Int)).toNat, by omega, by omega⟩
theorem wrap_small (n : Int) (h0 : 0 ≤ n) (h1 : n < 1000) : IntKind.i64.wrap n = n := by
 rw [IntKind.wrap_i64]; omega
section
variable {w W W' : World} {R : List Dc} {n : Nat} {v v' : Value} {zs : List (Dc × (Option Addr × Nat))}
end
theorem TbP.set3 {B0 : Nat} {W : World} {pt b : Nat} {t : Tb} {cs : Array Value} (h : TbP B0 W pt t) (hw : W.heap[b]? = some (.cells cs 30 (0, 0))) (x y z : Value) : TbP B0 (P3 W b x y z) pt t := by
 obtain ⟨bv, ba, bn, bp, N, V, ⟨⟨a1, a2, a3, a4, a5, a6, a7, a8, a9, a10⟩, lo, h3⟩⟩ := h
 have hm : ∀ {α : Type} {E : El α} {k n : Nat} {L : List (Str × α)}, OwnE E W k n L → OwnE E (P3 W b x y z) k n L := fun {α E k n L} ho => by
  refine ho.block (P3_kept x y z ?_)
  rintro rfl
  obtain ⟨es, ck, e⟩ := ho.isMap
  rw [hw] at e; cases e
 refine ⟨bv, ba, bn, bp, N, V, ⟨⟨?_, hm a2, hm a3, hm a4, hm a5, fun p hp => hm (a6 p hp), a7, a8, a9, a10⟩, lo, h3⟩⟩
 rw [P3_kept x y z (by rintro rfl; rw [hw] at a1; have := Option.some.inj a1; injection this with _ e _; revert e; decide)]
 exact a1
end Go.Proofs.YtjlfchnnhglbjaaGreat
namespace Go.Proofs.YtjlfchnnhglbjaaGreat
open Go.RowKit Go.Lib Go.Sort Go.ChangeShapes Go.WideShapes
theorem list3 {α : Type} {cs : List α} (h : cs.length = 3) : ∃ c0 c1 c2, cs = [c0, c1, c2] := by
 match cs, h with
 | [c0, c1, c2], _ => exact ⟨c0, c1, c2, rfl⟩
theorem list5 {α : Type} {cs : List α} (h : cs.length = 5) : ∃ c0 c1 c2 c3 c4, cs = [c0, c1, c2, c3, c4] := by
 match cs, h with
 | [c0, c1, c2, c3, c4], _ => exact ⟨c0, c1, c2, c3, c4, rfl⟩
section
variable {H : Type} {enc : TypeId × Value → H} {w : World} {base : Nat} {spare : Nat → Bool} {held : Bool}
theorem open_rdL {α : Type} {k : Nat} (E : Enc α k) (hk : 0 < k) {tS tE : TypeId} (hu : Tryz.prog.underlying tS = some (.slice tE)) (hC : Tryz.prog.cellsOf tE = k) (P : α → Prop)
  (hel : ∀ (n : Nat) (cs : List Value) (y : DataW H × List MemPlace), DataW.trod enc Tryz.prog w base spare held n tE cs = some y → ∃ x, cs = E.enc x ∧ P x) {fuel : Nat} {cs : List Value} {x : DataW H × List MemPlace} (h : DataW.trod enc Tryz.prog w base spare held fuel tS cs = some x) :
  ∃ v l, cs = [v] ∧ RdL E w v l ∧ ∀ x ∈ l, P x := by
 rcases DataW.trod_slice hu h with ⟨rfl, _⟩ | ⟨a, len, cap, elems, rest, n, _, rfl, hx, hb, hl, hm, hlen, hel2, _, _⟩
 ·exact ⟨_, [], rfl, RdL.nil E w, fun p hp => by cases hp⟩
 ·rw [hC] at hel2
  have key : ∀ i : Fin len, ∃ p : α, w.cells? base (a.add (i.1 * k)) k = some (E.enc p) ∧ P p := by
   intro i
   have hy := hel2 i.1 i.2
   rw [List.getElem?_eq_getElem (by omega), Option.bind_eq_some_iff] at hy
   obtain ⟨cs', hcs, hy'⟩ := hy
   obtain ⟨p, rfl, hp⟩ := hel _ _ _ hy'
   exact ⟨p, hcs, hp⟩
  have hf := fun i => (key i).choose_spec
  obtain ⟨f, hfe⟩ : ∃ f : Fin len → α, f = fun i => (key i).choose := ⟨_, rfl⟩
  have hf2 : ∀ i, w.cells? base (a.add (i.1 * k)) k = some (E.enc (f i)) ∧ P (f i) := by rw [hfe]; exact hf
  have hlen2 : (List.ofFn f).length = len := List.length_ofFn
  refine ⟨.slice (some a) len cap, List.ofFn f, rfl, ⟨some a, cap, by rw [hlen2], ⟨by rw [hlen2]; exact hl, by rw [hlen2]; unfold maxLen at hm; omega, fun e => by cases e⟩, fun hne => ?_⟩, fun p hp => ?_⟩
  ·have h0 : 0 < len := by
    rcases Nat.eq_zero_or_pos len with h0 | h0
    ·subst h0; simp at hne
    ·exact h0
   have c0 := (World.cells?_some (hf2 ⟨0, h0⟩).1).2.2 0 (by omega)
   rw [List.getElem?_eq_getElem (show 0 < (E.enc (f ⟨0, h0⟩)).length by rw [E.len]; exact hk)] at c0
   rw [show (a.add (0 * k)).add 0 = a from by unfold Addr.add; simp] at c0
   obtain ⟨hs, hlt⟩ := spot_of_cell c0
   obtain ⟨b, off, sp⟩ := a
   simp only at hs hlt
   subst hs
   refine ⟨b, off, rfl, hlt, fun j i y hj hy => ?_⟩
   rw [hlen2] at hj
   have hc := (World.cells?_some (hf2 ⟨j, hj⟩).1)
   have hi : i < k := by have := (List.getElem?_eq_some_iff.1 hy).1; rwa [E.len] at this
   have hci := hc.2.2 i hi
   rw [add_of, add_of] at hci
   rw [hci]
   rw [List.getElem_ofFn] at hy
   exact hy
  ·obtain ⟨i, rfl⟩ := (List.mem_ofFn).1 hp
   exact (hf2 i).2
set_option maxRecDepth 100000 in
theorem open_item (n : Nat) (cs : List Value) (y : DataW H × List MemPlace) (h : DataW.trod enc Tryz.prog w base spare held n 35 cs = some y) : ∃ x : Itm, cs = encI.enc x ∧ x.path.length ≤ maxLen := by
 have hC : Tryz.prog.cellsOf 35 = 5 := by kernel_rfl
 have hD : Tryz.prog.cellsOf 9 = 1 := by kernel_rfl
 have hE : Tryz.prog.cellsOf 4 = 1 := by kernel_rfl
 have hF : Tryz.prog.cellsOf 3 = 1 := by kernel_rfl
 obtain ⟨xs, m, _, _, hl, hlen, hfs⟩ := DataW.trod_struct Tryz.underlying35 h
 rw [hC] at hl
 obtain ⟨c0, c1, c2, c3, c4, rfl⟩ := list5 hl
 have g0 := hfs 0 _ rfl
 have g1 := hfs 1 _ rfl
 have g2 := hfs 2 _ rfl
 have g3 := hfs 3 _ rfl
 have g4 := hfs 4 _ rfl
 have hx : xs.length = 5 := hlen
 rw [List.getElem?_eq_getElem (by omega)] at g0 g1 g2 g3 g4
 simp only [List.getElem_toArray, List.getElem_cons_zero, List.getElem_cons_succ, hD, hE, hF, List.drop_zero, List.drop_succ_cons, List.take_succ_cons, List.take_zero] at g0 g1 g2 g3 g4
 obtain ⟨s0, e0, _, z0⟩ := DataW.trod_string Tryz.underlying9 g0
 obtain ⟨s1, e1, _, z1⟩ := DataW.trod_string Tryz.underlying9 g1
 obtain ⟨b2, e2, _⟩ := DataW.trod_bool Tryz.underlying4 g2
 obtain ⟨s3, e3, _, z3⟩ := DataW.trod_string Tryz.underlying9 g3
 obtain ⟨i4, e4, _, _⟩ := DataW.trod_int Tryz.underlying3 g4
 obtain rfl := List.head_eq_of_cons_eq e0
 obtain rfl := List.head_eq_of_cons_eq e1
 obtain rfl := List.head_eq_of_cons_eq e2
 obtain rfl := List.head_eq_of_cons_eq e3
 obtain rfl := List.head_eq_of_cons_eq e4
 refine ⟨⟨s0.data.toList, s1.data.toList, b2, s3.data.toList, i4⟩, ?_, z0⟩
 rw [S_of s0, S_of s1, S_of s3]; rfl
set_option maxRecDepth 100000 in
theorem open_doc (n : Nat) (cs : List Value) (y : DataW H × List MemPlace) (h : DataW.trod enc Tryz.prog w base spare held n 27 cs = some y) : ∃ z : Dc × (Option Addr × Nat), cs = encD.enc z ∧ (z.1.loc.length ≤ maxLen ∧ ∀ x ∈ z.1.items, x.path.length ≤ maxLen) ∧ RdL encI w (.slice z.2.1 z.1.items.length z.2.2) z.1.items := by
 have hC : Tryz.prog.cellsOf 27 = 3 := by kernel_rfl
 have hD : Tryz.prog.cellsOf 9 = 1 := by kernel_rfl
 have hE : Tryz.prog.cellsOf 4 = 1 := by kernel_rfl
 have hF : Tryz.prog.cellsOf 25 = 1 := by kernel_rfl
 have hI : Tryz.prog.cellsOf 35 = 5 := by kernel_rfl
 obtain ⟨xs, m, _, _, hl, hlen, hfs⟩ := DataW.trod_struct Tryz.underlying27 h
 rw [hC] at hl
 obtain ⟨c0, c1, c2, rfl⟩ := list3 hl
 have g0 := hfs 0 _ rfl
 have g1 := hfs 1 _ rfl
 have g2 := hfs 2 _ rfl
 have hx : xs.length = 3 := hlen
 rw [List.getElem?_eq_getElem (by omega)] at g0 g1 g2
 simp only [List.getElem_toArray, List.getElem_cons_zero, List.getElem_cons_succ, hD, hE, hF, List.drop_zero, List.drop_succ_cons, List.take_succ_cons, List.take_zero] at g0 g1 g2
 obtain ⟨s0, e0, _, z0⟩ := DataW.trod_string Tryz.underlying9 g0
 obtain ⟨b1, e1, _⟩ := DataW.trod_bool Tryz.underlying4 g1
 obtain ⟨v2, l2, e2, r2, p2⟩ := open_rdL encI (by decide) Tryz.underlying25 hI (fun x => x.path.length ≤ maxLen) open_item g2
 obtain rfl := List.head_eq_of_cons_eq e0
 obtain rfl := List.head_eq_of_cons_eq e1
 obtain rfl := List.head_eq_of_cons_eq e2
 obtain ⟨ao, cp, rfl, _⟩ := r2.slice
 refine ⟨(⟨s0.data.toList, b1, l2⟩, (ao, cp)), ?_, ⟨z0, p2⟩, r2⟩
 rw [S_of s0]; rfl
set_option maxRecDepth 100000 in
theorem open_docs {v : Value} {d : DataW H} {p : List MemPlace} {r : Reach} {b0 : Nat} (hv : Value.okWide Tryz.prog w r b0 23 v) (h : DataW.Trod enc Tryz.prog w base spare held 23 v d p) : ∃ l : List Dc, RdD w v l ∧ SzL l := by
 have hC : Tryz.prog.cellsOf 27 = 3 := by kernel_rfl
 obtain ⟨fuel, hf⟩ := h
 obtain ⟨v', zs, e, hr, hp⟩ := open_rdL encD (by decide) Tryz.underlying23 hC (fun z => (z.1.loc.length ≤ maxLen ∧ ∀ x ∈ z.1.items, x.path.length ≤ maxLen) ∧ RdL encI w (.slice z.2.1 z.1.items.length z.2.2) z.1.items) open_doc hf
 obtain ⟨ao, cp, rfl, _⟩ := hr.slice
 have hvv : v = .slice ao zs.length cp := by
  obtain ⟨a0, n0, c0, rfl⟩ := okWide_slice Tryz.underlying23 hv
  exact List.head_eq_of_cons_eq e
 subst hvv
 exact ⟨zs.map (·.1), ⟨zs, rfl, hr, fun z hz => (hp z hz).2⟩, fun d hd => by
  obtain ⟨z, hz, rfl⟩ := List.mem_map.1 hd
  exact (hp z hz).1⟩
end
end Go.Proofs.YtjlfchnnhglbjaaGreat
