/- Several texts in one: TbKeys, TbGet, TbList, TbWakes. (joined by wip/merge.py) -/
import Derived.Test.YtjlfchnnhglbjaaGreatTF
import Derived.Test.YtjlfchnnhglbjaaGreatShelfM

/- slices.Sorted(maps.Keys(m)): the keys of the table's maps, in order. -/
set_option linter.unusedVariables false
set_option linter.unusedSimpArgs false
namespace Go.Proofs.YtjlfchnnhglbjaaGreat
open Go.RowKit Go.Lib Go.Sort Go.Maps Go.WideMaps Go.Shelf

/-- slices.Sort's two contracts here, at the fence that asks nothing. -/
theorem sortsA (m : Nat) : AnyZ.SortsIn Tryz.prog Tryz.sortedA_ren Fence.wide m :=
  ⟨fun blk off cap ss W hH hblk hsz => callsIn_wide.2 (AnyM.slices_Sort_string Tryz.sortA blk off cap ss W hH hblk hsz),
   fun p cap W => callsIn_wide.2 (AnyM.slices_Sort_string_none Tryz.sortA p cap W)⟩
/-- the keys, sorted -/
def srtT (l : List Str) : List Str := l.mergeSort (fun x y => decide (x ≤ y))
theorem srtT_perm (l : List Str) : (srtT l).Perm l := List.mergeSort_perm _ _
theorem srtT_of_perm {l m : List Str} (h : l.Perm m) : srtT l = srtT m := mergeSort_of_perm h
theorem keysFN (mb : Option Nat) (W : World) : Calls Tryz.prog 37 #[.map mb] W fun e w' => e = .returned (.func (.func 59) #[] #[.pointer (some ⟨W.heap.size, 0, none⟩)]) ∧ w' = W.alloc (.cells #[.map mb] 71) := by
  have h := AnyZ.keys_in Tryz.keysA Fence.wide 5 trivial rfl mb W
  exact (callsIn_wide (n := 5)).1 h
set_option maxHeartbeats 1000000 in
theorem sortedN {w : World} {b n : Nat} {L : List (Str × Bool)} (h : OwnE elBo w b n L) (hn : (L.map (·.1)).Nodup) (hsz : L.length ≤ 1000000) :
    Calls Tryz.prog 36 #[.func (.func 59) #[] #[.pointer (some ⟨w.heap.size, 0, none⟩)]] (w.alloc (.cells #[.map (some b)] 71)) fun e w' =>
      ∃ v, e = .returned v ∧ OwnS w' (w.heap.size + 1) v (srtT (L.map (·.1))) ∧ Below (w.heap.size + 1) (w.alloc (.cells #[.map (some b)] 71)) w' := by
  obtain ⟨m, hown, hat⟩ := h
  have hp := OwnE.keys hown hat hn
  have hlen : Maps.size m = L.length := by
    obtain ⟨es, rfl, _⟩ := hown.keysOf
    have := hp.length_eq
    simp [strKeys] at this
    simp [Maps.size, this]
  have hbl := hown.lt
  have hseq : SeqGives Fence.wide 2 Tryz.prog 59 #[.pointer (some ⟨w.heap.size, 0, none⟩)] encStr (fun ss => ss.Perm (strKeys m)) (Maps.size m) (w.alloc (.cells #[.map (some b)] 71)) :=
    AnyZ.keys_gives (ρ := Tryz.keysA_ren) { Tryz.keysA with } Fence.wide _ trivial rfl (by omega) w.heap.size b n m _ (by simp) (by simp) (by
      obtain ⟨es, clock, hb, Ft, hs, hD⟩ := hown
      exact ⟨es, clock, (Below.heap_alloc _ _ b hbl).trans hb, Ft, hs, hD⟩)
  have cS := AnyZ.sorted_in Tryz.sortedA Fence.wide 5 trivial trivial trivial trivial rfl (by omega) (sortsA _) (enters_of Tryz.func58 (by kernel_rfl) rfl) 59 #[.pointer (some ⟨w.heap.size, 0, none⟩)] trivial (enters_of Tryz.func59 (by kernel_rfl) rfl) _ _ (by rw [hlen]; unfold maxLen; omega) (by rw [hlen]; omega) _ hseq
  change CallsIn _ _ Tryz.prog 36 _ _ _ at cS
  have hs : (w.alloc (.cells #[.map (some b)] 71)).heap.size = w.heap.size + 1 := by simp
  refine ((callsIn_wide (n := 5)).1 cS).mono ?_
  rintro e w' ⟨v, ss, rfl, hS, hrow, hnil, hb⟩
  rw [hs] at hrow hb
  refine ⟨v, rfl, ?_, hb⟩
  have hsrt : ss.mergeSort (fun x y => decide (x ≤ y)) = srtT (L.map (·.1)) := mergeSort_of_perm (hS.trans hp.symm)
  rw [hsrt] at hrow
  have hl2 : ss.length = (srtT (L.map (·.1))).length := by unfold srtT; rw [List.length_mergeSort]; exact (hS.trans hp.symm).length_eq
  exact own_cast hrow hl2.symm rfl
theorem keysFV (mb : Option Nat) (W : World) : Calls Tryz.prog 43 #[.map mb] W fun e w' => e = .returned (.func (.func 63) #[] #[.pointer (some ⟨W.heap.size, 0, none⟩)]) ∧ w' = W.alloc (.cells #[.map mb] 70) := by
  have h := AnyZ.keys_in Tryz.keysB Fence.wide 5 trivial rfl mb W
  exact (callsIn_wide (n := 5)).1 h
set_option maxHeartbeats 1000000 in
theorem sortedV {w : World} {b n : Nat} {L : List (Str × (Str × Int × Int))} (h : OwnE elSd w b n L) (hn : (L.map (·.1)).Nodup) (hsz : L.length ≤ 1000000) :
    Calls Tryz.prog 36 #[.func (.func 63) #[] #[.pointer (some ⟨w.heap.size, 0, none⟩)]] (w.alloc (.cells #[.map (some b)] 70)) fun e w' =>
      ∃ v, e = .returned v ∧ OwnS w' (w.heap.size + 1) v (srtT (L.map (·.1))) ∧ Below (w.heap.size + 1) (w.alloc (.cells #[.map (some b)] 70)) w' := by
  obtain ⟨m, hown, hat⟩ := h
  have hp := OwnE.keys hown hat hn
  have hlen : Maps.size m = L.length := by
    obtain ⟨es, rfl, _⟩ := hown.keysOf
    have := hp.length_eq
    simp [strKeys] at this
    simp [Maps.size, this]
  have hbl := hown.lt
  have hseq : SeqGives Fence.wide 2 Tryz.prog 63 #[.pointer (some ⟨w.heap.size, 0, none⟩)] encStr (fun ss => ss.Perm (strKeys m)) (Maps.size m) (w.alloc (.cells #[.map (some b)] 70)) :=
    AnyZ.keys_gives (ρ := Tryz.keysB_ren) { Tryz.keysB with } Fence.wide _ trivial rfl (by omega) w.heap.size b n m _ (by simp) (by simp) (by
      obtain ⟨es, clock, hb, Ft, hs, hD⟩ := hown
      exact ⟨es, clock, (Below.heap_alloc _ _ b hbl).trans hb, Ft, hs, hD⟩)
  have cS := AnyZ.sorted_in Tryz.sortedA Fence.wide 5 trivial trivial trivial trivial rfl (by omega) (sortsA _) (enters_of Tryz.func58 (by kernel_rfl) rfl) 63 #[.pointer (some ⟨w.heap.size, 0, none⟩)] trivial (enters_of Tryz.func63 (by kernel_rfl) rfl) _ _ (by rw [hlen]; unfold maxLen; omega) (by rw [hlen]; omega) _ hseq
  change CallsIn _ _ Tryz.prog 36 _ _ _ at cS
  have hs : (w.alloc (.cells #[.map (some b)] 70)).heap.size = w.heap.size + 1 := by simp
  refine ((callsIn_wide (n := 5)).1 cS).mono ?_
  rintro e w' ⟨v, ss, rfl, hS, hrow, hnil, hb⟩
  rw [hs] at hrow hb
  refine ⟨v, rfl, ?_, hb⟩
  have hsrt : ss.mergeSort (fun x y => decide (x ≤ y)) = srtT (L.map (·.1)) := mergeSort_of_perm (hS.trans hp.symm)
  rw [hsrt] at hrow
  have hl2 : ss.length = (srtT (L.map (·.1))).length := by unfold srtT; rw [List.length_mergeSort]; exact (hS.trans hp.symm).length_eq
  exact own_cast hrow hl2.symm rfl
set_option maxHeartbeats 1000000 in
theorem sortedV_nil {w : World} :
    Calls Tryz.prog 36 #[.func (.func 63) #[] #[.pointer (some ⟨w.heap.size, 0, none⟩)]] (w.alloc (.cells #[.map none] 70)) fun e w' =>
      ∃ v, e = .returned v ∧ OwnS w' (w.heap.size + 1) v [] ∧ Below (w.heap.size + 1) (w.alloc (.cells #[.map none] 70)) w' := by
  have hseq : SeqGives Fence.wide 2 Tryz.prog 63 #[.pointer (some ⟨w.heap.size, 0, none⟩)] encStr (fun ss : List (List UInt8) => ss = []) 0 (w.alloc (.cells #[.map none] 70)) :=
    AnyZ.keys_gives_nil (ρ := Tryz.keysB_ren) { Tryz.keysB with } Fence.wide _ trivial rfl w.heap.size _ (by simp) (cells_new w #[.map none] 70 0 (.map none) rfl)
  have cS := AnyZ.sorted_in Tryz.sortedA Fence.wide 5 trivial trivial trivial trivial rfl (by omega) (sortsA _) (enters_of Tryz.func58 (by kernel_rfl) rfl) 63 #[.pointer (some ⟨w.heap.size, 0, none⟩)] trivial (enters_of Tryz.func63 (by kernel_rfl) rfl) _ _ (by unfold maxLen; omega) (by omega) _ hseq
  change CallsIn _ _ Tryz.prog 36 _ _ _ at cS
  have hs : (w.alloc (.cells #[.map none] 70)).heap.size = w.heap.size + 1 := by simp
  refine ((callsIn_wide (n := 5)).1 cS).mono ?_
  rintro e w' ⟨v, ss, rfl, rfl, hrow, hnil, hb⟩
  rw [hs] at hrow hb
  exact ⟨v, rfl, own_cast hrow rfl (by simp), hb⟩
end Go.Proofs.YtjlfchnnhglbjaaGreat

/- table.find, Get, Where, Alias. -/
set_option linter.unusedVariables false
set_option linter.unusedSimpArgs false
namespace Go.Proofs.YtjlfchnnhglbjaaGreat
open Go.RowKit Go.Lib Go.Sort Go.Maps Go.WideMaps

/-- what stands in a row, or nothing -/
def rText (r : Option Rw) : Str := (r.map (·.text)).getD []
def rFile (r : Option Rw) : Int := (r.map fun r => (r.file : Int)).getD 0
def rAt (r : Option Rw) : Int := (r.map (·.at')).getD 0
theorem look_nilMap (k : Str) (hk : k.length ≤ maxLen) (W : World) : (Instr.lookup 70 (.map none) (.string ⟨k.toArray⟩) true).run Tryz.prog W = .ok (.tuple #[.agg #[.string ⟨#[]⟩, .int .i64 0, .int .i64 0], .bool false]) W := by
  simpa using Maps.look_nil (w := W) true lawS Tryz.underlying70 (show (zeroValue 84).run Tryz.prog W = .ok (.agg #[.string ⟨#[]⟩, .int .i64 0, .int .i64 0]) W by kernel_rfl) (key_ofS hk)
/-- what a row gives: three cells -/
def rVal (r : Option Rw) : Value := .agg #[.string ⟨(rText r).toArray⟩, .int .i64 (rFile r), .int .i64 (rAt r)]
theorem rVal_sd (l : Option Rw) : elSd.v ((l.map sdOf).getD ([], 0, 0)) = rVal l := by cases l <;> rfl
theorem find_ret {V : World} {Pb : Nat} {a b c : Value} {q : Bool} (hr : V.heap[Pb]? = some (.cells #[a, b, c] 84 (0, 0))) {Q : Ending → World → Prop} {act : Act} (hd : act.defers = [])
    (h6 : act.tmps.getD 6 undef = .pointer (some ⟨Pb, 0, none⟩)) (h7 : act.tmps.getD 7 undef = .bool q) (hQ : Q (.returned (.tuple #[.agg #[a, b, c], .bool q])) V) :
    bodyPost Tryz.prog Tryz.f44 Q Exit.ret act V := by
  obtain ⟨e0, e1, e2, _⟩ := box3_cells hr
  refine bodyPost_ret (v := .tuple #[.agg #[a, b, c], .bool q]) ?_ hd hQ
  obtain ⟨tmps, defers⟩ := act
  simp only [Array.getD_eq_getD_getElem?] at h6 h7
  simp [results, Tryz.results44, go_sem, h6, h7, e0, e1, e2]
section
variable {w : World} {B0 Bt bv ba bn bp N : Nat} {V : List (Str × Nat)} {t : Tb}
/-- table.find of a table -/
theorem find_any (h : TbIn B0 w Bt bv ba bn bp N V t) (loc path : Str) (hl : loc.length ≤ maxLen) (hp : path.length ≤ maxLen) :
    Calls Tryz.prog 44 #[.pointer (some ⟨Bt, 0, none⟩), .string ⟨loc.toArray⟩, .string ⟨path.toArray⟩] w fun e w' => e = .returned (.tuple #[rVal (findR t.rows loc path), .bool (findR t.rows loc path).isSome]) ∧ Below w.heap.size w w' := by
  have HB1 := hid (show Below w.heap.size w (w.alloc (.cells #[.string ⟨#[]⟩, .int .i64 0, .int .i64 0] 84)) from (Below.refl _ _).alloc (Nat.le_refl _) _)
  have F1 := hid (heap_alloc_new w (.cells #[.string ⟨#[]⟩, .int .i64 0, .int .i64 0] 84))
  have T1 := hid (h.below HB1.out)
  obtain ⟨o, ho⟩ : ∃ o, o = lookE V loc := ⟨_, rfl⟩
  have HO := hid ho
  obtain ⟨r, hr⟩ : ∃ r, r = findR t.rows loc path := ⟨_, rfl⟩
  have hrn : o = none → r = none := by
    intro e
    rw [hr, findR_none]
    rintro x hx ⟨h1, _⟩
    obtain ⟨q, hq, he⟩ := List.mem_map.1 (h.at_.has x hx)
    exact lookE_none.1 (ho.symm.trans e) q hq (he.trans h1)
  have HR := hid hr
  rw [← hr]
  clear ho hr h
  go_enter Tryz.func44, Tryz.ntmps44
  go_upto_region 1 with fail
  generalize w.alloc (.cells #[.string ⟨#[]⟩, .int .i64 0, .int .i64 0] 84) = w1 at *
  obtain ⟨t0, t1, t2, t3, tl⟩ := T1.out.box
  cases o with
  | none =>
    obtain rfl := hrn rfl
    have LN := look_nilMap path hp
    go_upto_region 4 with (at_lookup; refine wpList_lookE1 (E := elMp) T1.out.at_.vals Tryz.underlying69 zeroMap rfl _ _ rfl rfl loc rfl hl (.map none) (by rw [look_mp, ← HO.out]; rfl) ?_)
    have HB2 := hid (show Below w1.heap.size w1 (w1.alloc (.cells #[.string ⟨#[]⟩, .int .i64 0, .int .i64 0] 84)) from (Below.refl _ _).alloc (Nat.le_refl _) _)
    have F2 := hid (heap_alloc_new w1 (.cells #[.string ⟨#[]⟩, .int .i64 0, .int .i64 0] 84))
    generalize w1.alloc (.cells #[.string ⟨#[]⟩, .int .i64 0, .int .i64 0] 84) = w2 at *
    have G2 := hid ((HB2.out.block _ (lt_of_block F1.out)).trans F1.out)
    obtain ⟨x0, x1, x2, xl⟩ := box3_cells F2.out
    obtain ⟨y0, y1, y2, yl⟩ := box3_cells G2.out
    obtain ⟨z0, z1, z2⟩ := box3_frozen G2.out
    go_wp2_with fail
    exact find_ret (Pb := w.heap.size) (q := false) (P3_row _ _ _ G2.out) rfl rfl rfl ⟨rfl, P3_below _ _ _ (HB1.out.then HB2.out) (Nat.le_refl _)⟩
  | some bm =>
    have OM := hid (T1.out.at_.each _ (lookE_in HO.out.symm))
    have LKM := hid (show lookE (sdL (rowsOf t loc)) path = r.map sdOf by rw [look_rows, HR.out])
    obtain ⟨rt, hrt⟩ : ∃ x, x = rText r := ⟨_, rfl⟩
    obtain ⟨rf, hrf⟩ : ∃ x, x = rFile r := ⟨_, rfl⟩
    obtain ⟨ra, hra⟩ : ∃ x, x = rAt r := ⟨_, rfl⟩
    have HV := hid (show rVal r = .agg #[.string ⟨rt.toArray⟩, .int .i64 rf, .int .i64 ra] by rw [hrt, hrf, hra]; rfl)
    obtain ⟨q, hq⟩ : ∃ q, q = r.isSome := ⟨_, rfl⟩
    have HQ := hid hq
    clear hrt hrf hra hq
    go_upto_region 4 with first
      | (at_lookup; refine wpList_lookE1 (E := elMp) T1.out.at_.vals Tryz.underlying69 zeroMap rfl _ _ rfl rfl loc rfl hl (.map (some bm)) (by rw [look_mp, ← HO.out]; rfl) ?_)
      | (at_lookup; refine wpList_lookE (E := elSd) OM.out Tryz.underlying70 zeroSd rfl _ _ rfl rfl path rfl hp (.agg #[.string ⟨rt.toArray⟩, .int .i64 rf, .int .i64 ra]) q (by rw [LKM.out, rVal_sd, HV.out]) (by rw [LKM.out, Option.isSome_map, HQ.out]) ?_)
    have HB2 := hid (show Below w1.heap.size w1 (w1.alloc (.cells #[.string ⟨rt.toArray⟩, .int .i64 rf, .int .i64 ra] 84)) from (Below.refl _ _).alloc (Nat.le_refl _) _)
    have F2 := hid (heap_alloc_new w1 (.cells #[.string ⟨rt.toArray⟩, .int .i64 rf, .int .i64 ra] 84))
    generalize w1.alloc (.cells #[.string ⟨rt.toArray⟩, .int .i64 rf, .int .i64 ra] 84) = w2 at *
    have G2 := hid ((HB2.out.block _ (lt_of_block F1.out)).trans F1.out)
    obtain ⟨x0, x1, x2, xl⟩ := box3_cells F2.out
    obtain ⟨y0, y1, y2, yl⟩ := box3_cells G2.out
    obtain ⟨z0, z1, z2⟩ := box3_frozen G2.out
    go_wp2_with fail
    exact find_ret (Pb := w.heap.size) (q := q) (P3_row _ _ _ G2.out) rfl rfl rfl ⟨by rw [HV.out, HQ.out], P3_below _ _ _ (HB1.out.then HB2.out) (Nat.le_refl _)⟩
end
/-- of no table -/
theorem find_nil (w : World) (loc path : Str) :
    Calls Tryz.prog 44 #[.pointer none, .string ⟨loc.toArray⟩, .string ⟨path.toArray⟩] w fun e w' => e = .returned (.tuple #[rVal none, .bool false]) ∧ Below w.heap.size w w' := by
  have HB1 := hid (show Below w.heap.size w (w.alloc (.cells #[.string ⟨#[]⟩, .int .i64 0, .int .i64 0] 84)) from (Below.refl _ _).alloc (Nat.le_refl _) _)
  have F1 := hid (heap_alloc_new w (.cells #[.string ⟨#[]⟩, .int .i64 0, .int .i64 0] 84))
  go_enter Tryz.func44, Tryz.ntmps44
  go_upto_region 1 with fail
  generalize w.alloc (.cells #[.string ⟨#[]⟩, .int .i64 0, .int .i64 0] 84) = w1 at *
  obtain ⟨y0, y1, y2, yl⟩ := box3_cells F1.out
  obtain ⟨z0, z1, z2⟩ := box3_frozen F1.out
  go_wp2_with fail
  exact find_ret (Pb := w.heap.size) (q := false) (P3_row _ _ _ F1.out) rfl rfl rfl ⟨rfl, P3_below _ _ _ HB1.out (Nat.le_refl _)⟩

section
variable {w : World} {pt : Option Addr} {loc path : Str} {r : Option Rw}
/-- Get and Where, over what find tells -/
theorem get_of (h : Calls Tryz.prog 44 #[.pointer pt, .string ⟨loc.toArray⟩, .string ⟨path.toArray⟩] w fun e w' => e = .returned (.tuple #[rVal r, .bool r.isSome]) ∧ Below w.heap.size w w') :
    Calls Tryz.prog 24 #[.pointer pt, .string ⟨loc.toArray⟩, .string ⟨path.toArray⟩] w fun e w' => e = .returned (.tuple #[.string ⟨(rText r).toArray⟩, .bool r.isSome]) ∧ Below w.heap.size w w' := by
  simp only [rVal] at h
  have H := hid h
  clear h
  generalize rText r = rt at *
  generalize rFile r = rf at *
  generalize rAt r = ra at *
  generalize r.isSome = q at *
  go_enter Tryz.func24, Tryz.ntmps24
  go_wp2_with fail
  refine H.out.mono ?_
  rintro e w1 ⟨rfl, hb⟩
  have HB := hid hb
  clear hb
  go_upto_region 2 with fail
  have HB2 := hid (show Below w1.heap.size w1 (w1.alloc (.cells #[.string ⟨rt.toArray⟩, .int .i64 rf, .int .i64 ra] 84)) from (Below.refl _ _).alloc (Nat.le_refl _) _)
  have F2 := hid (heap_alloc_new w1 (.cells #[.string ⟨rt.toArray⟩, .int .i64 rf, .int .i64 ra] 84))
  generalize w1.alloc (.cells #[.string ⟨rt.toArray⟩, .int .i64 rf, .int .i64 ra] 84) = w2 at *
  obtain ⟨x0, x1, x2, xl⟩ := box3_cells F2.out
  go_wp2_with fail
  exact bodyPost_ret (v := .tuple #[.string ⟨rt.toArray⟩, .bool q]) (by simp [results, Tryz.results24, go_sem]) rfl ⟨rfl, HB.out.then HB2.out⟩
theorem where_of (h : Calls Tryz.prog 44 #[.pointer pt, .string ⟨loc.toArray⟩, .string ⟨path.toArray⟩] w fun e w' => e = .returned (.tuple #[rVal r, .bool r.isSome]) ∧ Below w.heap.size w w') :
    Calls Tryz.prog 25 #[.pointer pt, .string ⟨loc.toArray⟩, .string ⟨path.toArray⟩] w fun e w' => e = .returned (.tuple #[.int .i64 (rFile r), .int .i64 (rAt r), .bool r.isSome]) ∧ Below w.heap.size w w' := by
  simp only [rVal] at h
  have H := hid h
  clear h
  generalize rText r = rt at *
  generalize rFile r = rf at *
  generalize rAt r = ra at *
  generalize r.isSome = q at *
  go_enter Tryz.func25, Tryz.ntmps25
  go_wp2_with fail
  refine H.out.mono ?_
  rintro e w1 ⟨rfl, hb⟩
  have HB := hid hb
  clear hb
  go_upto_region 2 with fail
  have HB2 := hid (show Below w1.heap.size w1 (w1.alloc (.cells #[.string ⟨rt.toArray⟩, .int .i64 rf, .int .i64 ra] 84)) from (Below.refl _ _).alloc (Nat.le_refl _) _)
  have F2 := hid (heap_alloc_new w1 (.cells #[.string ⟨rt.toArray⟩, .int .i64 rf, .int .i64 ra] 84))
  generalize w1.alloc (.cells #[.string ⟨rt.toArray⟩, .int .i64 rf, .int .i64 ra] 84) = w2 at *
  obtain ⟨x0, x1, x2, xl⟩ := box3_cells F2.out
  go_quiet (fail)
  go_wp2_with fail
  exact bodyPost_ret (v := .tuple #[.int .i64 rf, .int .i64 ra, .bool q]) (by simp [results, Tryz.results25, go_sem]) rfl ⟨rfl, below_drewN (HB.out.then HB2.out) _⟩
end
section
variable {w : World} {B0 Bt bv ba bn bp N : Nat} {V : List (Str × Nat)} {t : Tb}
theorem get_any (h : TbIn B0 w Bt bv ba bn bp N V t) (loc path : Str) (hl : loc.length ≤ maxLen) (hp : path.length ≤ maxLen) :
    Calls Tryz.prog 24 #[.pointer (some ⟨Bt, 0, none⟩), .string ⟨loc.toArray⟩, .string ⟨path.toArray⟩] w fun e w' => e = .returned (.tuple #[.string ⟨(rText (findR t.rows loc path)).toArray⟩, .bool (findR t.rows loc path).isSome]) ∧ Below w.heap.size w w' := get_of (find_any h loc path hl hp)
theorem where_any (h : TbIn B0 w Bt bv ba bn bp N V t) (loc path : Str) (hl : loc.length ≤ maxLen) (hp : path.length ≤ maxLen) :
    Calls Tryz.prog 25 #[.pointer (some ⟨Bt, 0, none⟩), .string ⟨loc.toArray⟩, .string ⟨path.toArray⟩] w fun e w' => e = .returned (.tuple #[.int .i64 (rFile (findR t.rows loc path)), .int .i64 (rAt (findR t.rows loc path)), .bool (findR t.rows loc path).isSome]) ∧ Below w.heap.size w w' := where_of (find_any h loc path hl hp)
/-- where an alias was said -/
theorem alias_any (h : TbIn B0 w Bt bv ba bn bp N V t) (g : Str) (hg : g.length ≤ maxLen) :
    Calls Tryz.prog 27 #[.pointer (some ⟨Bt, 0, none⟩), .string ⟨g.toArray⟩] w fun e w' => e = .returned (.tuple #[.int .i64 (rFile (findR t.als tRoot g)), .int .i64 (rAt (findR t.als tRoot g)), .bool (findR t.als tRoot g).isSome]) ∧ Below w.heap.size w w' := by
  have T := hid h
  have LKA := hid (look_als h.at_.root g)
  clear h
  generalize findR t.als tRoot g = r at *
  obtain ⟨rt, hrt⟩ : ∃ x, x = rText r := ⟨_, rfl⟩
  obtain ⟨rf, hrf⟩ : ∃ x, x = rFile r := ⟨_, rfl⟩
  obtain ⟨ra, hra⟩ : ∃ x, x = rAt r := ⟨_, rfl⟩
  have HV := hid (show rVal r = .agg #[.string ⟨rt.toArray⟩, .int .i64 rf, .int .i64 ra] by rw [hrt, hrf, hra]; rfl)
  rw [← hrf, ← hra]
  obtain ⟨q, hq⟩ : ∃ q, q = r.isSome := ⟨_, rfl⟩
  have HQ := hid hq
  rw [← hq]
  clear hrt hrf hra hq
  obtain ⟨t0, t1, t2, t3, tl⟩ := T.out.box
  go_enter Tryz.func27, Tryz.ntmps27
  go_upto_region 4 with (at_lookup; refine wpList_lookE (E := elSd) T.out.at_.als Tryz.underlying70 zeroSd rfl _ _ rfl rfl g rfl hg (.agg #[.string ⟨rt.toArray⟩, .int .i64 rf, .int .i64 ra]) q (by rw [LKA.out, rVal_sd, HV.out]) (by rw [LKA.out, Option.isSome_map, HQ.out]) ?_)
  have HB2 := hid (show Below w.heap.size w (w.alloc (.cells #[.string ⟨rt.toArray⟩, .int .i64 rf, .int .i64 ra] 84)) from (Below.refl _ _).alloc (Nat.le_refl _) _)
  have F2 := hid (heap_alloc_new w (.cells #[.string ⟨rt.toArray⟩, .int .i64 rf, .int .i64 ra] 84))
  generalize w.alloc (.cells #[.string ⟨rt.toArray⟩, .int .i64 rf, .int .i64 ra] 84) = w2 at *
  obtain ⟨x0, x1, x2, xl⟩ := box3_cells F2.out
  go_quiet (fail)
  go_wp2_with fail
  exact bodyPost_ret (v := .tuple #[.int .i64 rf, .int .i64 ra, .bool q]) (by simp [results, Tryz.results27, go_sem]) rfl ⟨rfl, below_drewN HB2.out _⟩
end
theorem get_nil (w : World) (loc path : Str) :
    Calls Tryz.prog 24 #[.pointer none, .string ⟨loc.toArray⟩, .string ⟨path.toArray⟩] w fun e w' => e = .returned (.tuple #[.string ⟨#[]⟩, .bool false]) ∧ Below w.heap.size w w' := get_of (r := none) (find_nil w loc path)
theorem where_nil (w : World) (loc path : Str) :
    Calls Tryz.prog 25 #[.pointer none, .string ⟨loc.toArray⟩, .string ⟨path.toArray⟩] w fun e w' => e = .returned (.tuple #[.int .i64 0, .int .i64 0, .bool false]) ∧ Below w.heap.size w w' := where_of (r := none) (find_nil w loc path)
theorem alias_nil (w : World) (g : Str) :
    Calls Tryz.prog 27 #[.pointer none, .string ⟨g.toArray⟩] w fun e w' => e = .returned (.tuple #[.int .i64 0, .int .i64 0, .bool false]) ∧ Below w.heap.size w w' := by
  go_enter Tryz.func27, Tryz.ntmps27
  go_wp2_with fail
  exact bodyPost_ret (v := .tuple #[.int .i64 0, .int .i64 0, .bool false]) (by simp [results, Tryz.results27, go_sem]) rfl ⟨rfl, Below.refl _ _⟩
end Go.Proofs.YtjlfchnnhglbjaaGreat

/- table.Locales, All, Paths. -/
set_option linter.unusedVariables false
set_option linter.unusedSimpArgs false
namespace Go.Proofs.YtjlfchnnhglbjaaGreat
open Go.RowKit Go.Lib Go.Sort Go.Maps Go.WideMaps

theorem row_mono {W : World} {B C n k : Nat} {e : TypeId} {v : Value} {xs : List Value} (h : W.ownsRow B e k v n xs) (hc : C ≤ B) : W.ownsRow C e k v n xs := by
  unfold World.ownsRow at *
  refine ⟨h.1, ?_⟩
  rcases h.2 with h | ⟨g, cap, cur, h1, h2, h3⟩
  · exact Or.inl h
  · exact Or.inr ⟨g, cap, cur, h1, Nat.le_trans hc h2, h3⟩
theorem sdL_keys (l : List Rw) : (sdL l).map (·.1) = l.map (·.path) := by unfold sdL; rw [List.map_map]; rfl
/-- a locale's paths, in order -/
def pathsF (t : Tb) (loc : Str) : List Str := srtT ((rowsOf t loc).map (·.path))
theorem rows_nodup {t : Tb} (ok : TbOk t) (loc : Str) : ((rowsOf t loc).map (·.path)).Nodup := by
  have h := ok.rows
  rw [List.Nodup, List.pairwise_map] at h
  rw [List.Nodup, List.pairwise_map, rowsOf]
  refine (List.Pairwise.filter _ h).imp_of_mem fun {a b} ha hb hne e => hne ?_
  have h1 := (List.mem_filter.1 ha).2
  have h2 := (List.mem_filter.1 hb).2
  simp only [beq_iff_eq] at h1 h2
  rw [h1, h2, e]
theorem rows_le {t : Tb} (ok : TbOk t) (loc : Str) : (rowsOf t loc).length ≤ 16384 := by
  have := nodup_le ((rowsOf t loc).map (·.path)) t.paths (rows_nodup ok loc) (fun x hx => by
    obtain ⟨r, hr, rfl⟩ := List.mem_map.1 hx
    exact ok.rp r (List.mem_filter.1 hr).1)
  rw [List.length_map] at this
  exact Nat.le_trans this ok.p16
/-- what a list of texts leaves -/
def OutS (w : World) (l : List Str) (e : Ending) (w' : World) : Prop := ∃ v, e = .returned v ∧ OwnS w' w.heap.size v l ∧ Below w.heap.size w w'
theorem outS_sorted {w w1 w' : World} {l : List Str} {v : Value} (h1 : w1.heap.size = w.heap.size + 1) (hb1 : Below w.heap.size w w1) (ho : OwnS w' (w.heap.size + 1) v l) (hb : Below (w.heap.size + 1) w1 w') : OutS w l (.returned v) w' :=
  ⟨v, rfl, row_mono ho (Nat.le_succ _), hb1.trans (hb.mono (Nat.le_succ _))⟩
section
variable {w : World} {B0 Bt bv ba bn bp N : Nat} {V : List (Str × Nat)} {t : Tb}
theorem locales_any (h : TbIn B0 w Bt bv ba bn bp N V t) (ok : TbOk t) :
    Calls Tryz.prog 15 #[.pointer (some ⟨Bt, 0, none⟩)] w fun e w' => OutS w (srtT t.names) e w' := by
  have KC := hid (keysFN (some bn) w)
  have SC := hid (sortedN h.at_.names (by rw [setL_keys]; exact ok.names) (by unfold setL; rw [List.length_map]; have := ok.n512; omega))
  rw [setL_keys] at SC
  have HB1 := hid (show Below w.heap.size w (w.alloc (.cells #[.map (some bn)] 71)) from (Below.refl _ _).alloc (Nat.le_refl _) _)
  have HZ1 := hid (show (w.alloc (.cells #[.map (some bn)] 71)).heap.size = w.heap.size + 1 by simp)
  obtain ⟨t0, t1, t2, t3, tl⟩ := h.box
  clear h
  go_enter Tryz.func15, Tryz.ntmps15
  go_wp2_with fail
  refine KC.out.mono ?_
  rintro e w1 ⟨rfl, rfl⟩
  go_wp2_with fail
  refine SC.out.mono ?_
  rintro e w2 ⟨v, rfl, ho, hb⟩
  have HO := hid (outS_sorted HZ1.out HB1.out ho hb)
  clear ho hb
  go_wp2_with fail
  exact bodyPost_ret (v := v) (by simp [results, Tryz.results15, go_sem]) rfl HO.out
theorem all_any (h : TbIn B0 w Bt bv ba bn bp N V t) (ok : TbOk t) :
    Calls Tryz.prog 16 #[.pointer (some ⟨Bt, 0, none⟩)] w fun e w' => OutS w (srtT t.paths) e w' := by
  have KC := hid (keysFN (some bp) w)
  have SC := hid (sortedN h.at_.paths (by rw [setL_keys]; exact ok.paths) (by unfold setL; rw [List.length_map]; have := ok.p16; omega))
  rw [setL_keys] at SC
  have HB1 := hid (show Below w.heap.size w (w.alloc (.cells #[.map (some bp)] 71)) from (Below.refl _ _).alloc (Nat.le_refl _) _)
  have HZ1 := hid (show (w.alloc (.cells #[.map (some bp)] 71)).heap.size = w.heap.size + 1 by simp)
  obtain ⟨t0, t1, t2, t3, tl⟩ := h.box
  clear h
  go_enter Tryz.func16, Tryz.ntmps16
  go_wp2_with fail
  refine KC.out.mono ?_
  rintro e w1 ⟨rfl, rfl⟩
  go_wp2_with fail
  refine SC.out.mono ?_
  rintro e w2 ⟨v, rfl, ho, hb⟩
  have HO := hid (outS_sorted HZ1.out HB1.out ho hb)
  clear ho hb
  go_wp2_with fail
  exact bodyPost_ret (v := v) (by simp [results, Tryz.results16, go_sem]) rfl HO.out
theorem paths_any (h : TbIn B0 w Bt bv ba bn bp N V t) (ok : TbOk t) (loc : Str) (hl : loc.length ≤ maxLen) :
    Calls Tryz.prog 22 #[.pointer (some ⟨Bt, 0, none⟩), .string ⟨loc.toArray⟩] w fun e w' => OutS w (pathsF t loc) e w' := by
  obtain ⟨t0, t1, t2, t3, tl⟩ := h.box
  have HVAL := hid h.at_.vals
  cases hlk : lookE V loc with
  | some bm =>
    have KC := hid (keysFV (some bm) w)
    have SC := hid (sortedV (h.at_.each _ (lookE_in hlk)) (by rw [sdL_keys]; exact rows_nodup ok loc) (by unfold sdL; rw [List.length_map]; have := rows_le ok loc; simp only; omega))
    rw [sdL_keys] at SC
    change Hid (Calls _ _ _ _ fun e w' => ∃ v, e = Ending.returned v ∧ OwnS w' (w.heap.size + 1) v (pathsF t loc) ∧ _) at SC
    generalize pathsF t loc = ps at *
    have HB1 := hid (show Below w.heap.size w (w.alloc (.cells #[.map (some bm)] 70)) from (Below.refl _ _).alloc (Nat.le_refl _) _)
    have HZ1 := hid (show (w.alloc (.cells #[.map (some bm)] 70)).heap.size = w.heap.size + 1 by simp)
    have HLK := hid hlk
    clear h hlk
    go_enter Tryz.func22, Tryz.ntmps22
    go_wp2_with (at_lookup; refine wpList_lookE1 (E := elMp) HVAL.out Tryz.underlying69 zeroMap rfl _ _ rfl rfl loc rfl hl (.map (some bm)) (by rw [look_mp, HLK.out]; rfl) ?_)
    refine KC.out.mono ?_
    rintro e w1 ⟨rfl, rfl⟩
    go_wp2_with fail
    refine SC.out.mono ?_
    rintro e w2 ⟨v, rfl, ho, hb⟩
    have HO := hid (outS_sorted HZ1.out HB1.out ho hb)
    clear ho hb
    go_wp2_with fail
    exact bodyPost_ret (v := v) (by simp [results, Tryz.results22, go_sem]) rfl HO.out
  | none =>
    have KC := hid (keysFV none w)
    have SC := hid (sortedV_nil (w := w))
    have HP := hid (show pathsF t loc = [] by
      unfold pathsF
      rw [show rowsOf t loc = [] by
        unfold rowsOf
        rw [List.filter_eq_nil_iff]
        intro r hr e
        obtain ⟨q, hq, he⟩ := List.mem_map.1 (h.at_.has r hr)
        exact lookE_none.1 hlk q hq (he.trans (by simpa using e))]
      simp [srtT])
    generalize pathsF t loc = ps at *
    have HB1 := hid (show Below w.heap.size w (w.alloc (.cells #[.map none] 70)) from (Below.refl _ _).alloc (Nat.le_refl _) _)
    have HZ1 := hid (show (w.alloc (.cells #[.map none] 70)).heap.size = w.heap.size + 1 by simp)
    have HLK := hid hlk
    clear h hlk
    go_enter Tryz.func22, Tryz.ntmps22
    go_wp2_with (at_lookup; refine wpList_lookE1 (E := elMp) HVAL.out Tryz.underlying69 zeroMap rfl _ _ rfl rfl loc rfl hl (.map none) (by rw [look_mp, HLK.out]; rfl) ?_)
    refine KC.out.mono ?_
    rintro e w1 ⟨rfl, rfl⟩
    go_wp2_with fail
    refine SC.out.mono ?_
    rintro e w2 ⟨v, rfl, ho, hb⟩
    have HO := hid (outS_sorted HZ1.out HB1.out ho hb)
    clear ho hb
    go_wp2_with fail
    exact bodyPost_ret (v := v) (by simp [results, Tryz.results22, go_sem]) rfl (by rw [HP.out]; exact HO.out)
end
theorem locales_nil (w : World) :
    Calls Tryz.prog 15 #[.pointer none] w fun e w' => e = .returned (.slice none 0 0) ∧ w' = w := by
  go_enter Tryz.func15, Tryz.ntmps15
  go_wp2_with fail
  exact bodyPost_ret (v := .slice none 0 0) (by simp [results, Tryz.results15, go_sem]) rfl ⟨rfl, rfl⟩
theorem all_nil (w : World) :
    Calls Tryz.prog 16 #[.pointer none] w fun e w' => e = .returned (.slice none 0 0) ∧ w' = w := by
  go_enter Tryz.func16, Tryz.ntmps16
  go_wp2_with fail
  exact bodyPost_ret (v := .slice none 0 0) (by simp [results, Tryz.results16, go_sem]) rfl ⟨rfl, rfl⟩
theorem paths_nil (w : World) (loc : Str) :
    Calls Tryz.prog 22 #[.pointer none, .string ⟨loc.toArray⟩] w fun e w' => e = .returned (.slice none 0 0) ∧ w' = w := by
  go_enter Tryz.func22, Tryz.ntmps22
  go_wp2_with fail
  exact bodyPost_ret (v := .slice none 0 0) (by simp [results, Tryz.results22, go_sem]) rfl ⟨rfl, rfl⟩
theorem aliases_nil (w : World) :
    Calls Tryz.prog 17 #[.pointer none] w fun e w' => e = .returned (.slice none 0 0) ∧ w' = w := by
  go_enter Tryz.func17, Tryz.ntmps17
  go_wp2_with fail
  exact bodyPost_ret (v := .slice none 0 0) (by simp [results, Tryz.results17, go_sem]) rfl ⟨rfl, rfl⟩
end Go.Proofs.YtjlfchnnhglbjaaGreat

/- law12.wakes. -/
set_option linter.unusedVariables false
set_option linter.unusedSimpArgs false
namespace Go.Proofs.YtjlfchnnhglbjaaGreat
open Go.RowKit Go.Lib Go.Sort Go.Maps Go.WideMaps

theorem RdL.of_row {α : Type} {k : Nat} (E : Enc α k) {W : World} {b cp : Nat} {cs : Array Value} {ty : TypeId} {l : List α} (h : W.heap[b]? = some (.cells cs ty (0, 0))) (hc : cs.toList = flatL E l) (h1 : l.length ≤ cp) (h2 : l.length ≤ 9223372036854775807) : RdL E W (.slice (some ⟨b, 0, none⟩) l.length cp) l := by
  refine ⟨_, _, rfl, ⟨h1, h2, fun e => by cases e⟩, fun _ => ⟨b, 0, rfl, lt_of_block h, fun j i x hj hx => ?_⟩⟩
  have hi : i < k := by have := (List.getElem?_eq_some_iff.1 hx).1; rwa [E.len] at this
  rw [Nat.zero_add, cell_of_row _ _ _ _ _ _ h, ← Array.getElem?_toList, hc, flatL_get E l j i hj hi]
  exact hx
/-- the documents that wake the layer -/
def wakeI : Itm := ⟨[97, 47, 98], [49], false, [], 7⟩
def wakeD : Dc := ⟨[101, 110], false, [wakeI]⟩
def wakeT : Tb := ⟨[⟨[101, 110], [97, 47, 98], [49], 0, 7⟩], [], [[101, 110]], [[97, 47, 98]]⟩
theorem wake_named : namedB [101, 110] = true := by decide +kernel
theorem wake_path : pathB [97, 47, 98] = true := by decide +kernel
theorem wake_new : newF [wakeD] = (Wrg.ok, wakeT) := by
  have h1 : headF Tb.zero wakeD = (0, { Tb.zero with names := [[101, 110]] }) := head_more (by simp [wakeD, wake_named]) (by simp [wakeD, Tb.zero]) (by simp [Tb.zero])
  have h2 : itemF { Tb.zero with names := [[101, 110]] } [101, 110] 0 wakeI = (0, wakeT) := by
    rw [item_new (by simp [wakeI, wake_path]) rfl rfl, if_neg (by simp [Tb.zero]), if_neg (by simp [Tb.zero])]; rfl
  show docsF 0 Tb.zero [wakeD] = _
  have := docs_step (n := 0) (t := Tb.zero) (l := [wakeD]) (by simp)
  rw [List.drop_zero] at this
  rw [this]
  show fromD 0 [] wakeD (headF Tb.zero wakeD) = _
  rw [h1]
  show fromI 0 [] (itemsF [101, 110] 0 { Tb.zero with names := [[101, 110]] } [wakeI]) = _
  have h3 := items_next (m := 0) (l := [wakeI]) (by simp) h2
  rw [List.drop_zero] at h3
  rw [h3]; rfl
theorem wake_get : findR wakeT.rows [101, 110] [97, 47, 98] = some ⟨[101, 110], [97, 47, 98], [49], 0, 7⟩ := rfl
theorem wake_rd {w : World} : RdD ((w.alloc (.cells #[.string ⟨#[97, 47, 98]⟩, .string ⟨#[49]⟩, .bool false, .string ⟨#[]⟩, .int .i64 7] 35)).alloc (.cells #[.string ⟨#[101, 110]⟩, .bool false, .slice (some ⟨w.heap.size, 0, none⟩) 1 1] 27)) (.slice (some ⟨w.heap.size + 1, 0, none⟩) 1 1) [wakeD] := by
  have e1 := heap_alloc_new (w.alloc (.cells #[.string ⟨#[97, 47, 98]⟩, .string ⟨#[49]⟩, .bool false, .string ⟨#[]⟩, .int .i64 7] 35)) (.cells #[.string ⟨#[101, 110]⟩, .bool false, .slice (some ⟨w.heap.size, 0, none⟩) 1 1] 27)
  rw [show (w.alloc (.cells #[.string ⟨#[97, 47, 98]⟩, .string ⟨#[49]⟩, .bool false, .string ⟨#[]⟩, .int .i64 7] 35)).heap.size = w.heap.size + 1 by simp] at e1
  have e0 := (Below.heap_alloc (w.alloc (.cells #[.string ⟨#[97, 47, 98]⟩, .string ⟨#[49]⟩, .bool false, .string ⟨#[]⟩, .int .i64 7] 35)) (.cells #[.string ⟨#[101, 110]⟩, .bool false, .slice (some ⟨w.heap.size, 0, none⟩) 1 1] 27) w.heap.size (by simp)).trans (heap_alloc_new w _)
  refine ⟨[(wakeD, (some ⟨w.heap.size, 0, none⟩, 1))], rfl, RdL.of_row (l := [(wakeD, (some ⟨w.heap.size, 0, none⟩, 1))]) (cp := 1) encD e1 rfl (by simp) (by simp), fun z hz => ?_⟩
  rw [List.mem_singleton.1 hz]
  exact RdL.of_row (l := [wakeI]) (cp := 1) encI e0 rfl (by simp) (by simp)
theorem wake_sz : SzD [wakeD] := by
  refine ⟨fun d hd => ?_, by simp [costD, wakeD, maxLen]⟩
  rw [List.mem_singleton.1 hd]
  refine ⟨by simp [wakeD, maxLen], fun x hx => ?_⟩
  rw [List.mem_singleton.1 hx]
  simp [wakeI, maxLen]

theorem twakes_any (w : World) : Calls Tryz.prog 10 #[] w fun e w' => e = .returned (.bool true) ∧ Below w.heap.size w w' := by
  have HB1 := hid (show Below w.heap.size w ((w.alloc (.cells #[.string ⟨#[97, 47, 98]⟩, .string ⟨#[49]⟩, .bool false, .string ⟨#[]⟩, .int .i64 7] 35)).alloc (.cells #[.string ⟨#[101, 110]⟩, .bool false, .slice (some ⟨w.heap.size, 0, none⟩) 1 1] 27)) from ((Below.refl _ _).alloc (Nat.le_refl _) _).alloc (by simp) _)
  have NW := hid (tnew_any _ _ _ (wake_rd (w := w)) wake_sz)
  go_enter Tryz.func10, Tryz.ntmps10
  go_wp2_with fail
  refine NW.out.mono ?_
  rintro e w1 ⟨hb1, hx⟩
  rw [wake_new] at hx
  rcases hx with ⟨_, Bt, bv, ba, bn, bp, N, V, rfl, tb, ok⟩ | ⟨h, _⟩
  · have B1 := hid (HB1.out.trans (hb1.mono HB1.out.size))
    have T1 := hid tb
    have OK := hid ok
    clear hb1 tb ok NW
    go_upto_region 2 with fail
    have HB2 := hid (show Below w1.heap.size w1 (w1.alloc (.cells #[.int .i64 0, .int .i64 0, .int .i64 0] 30)) from (Below.refl _ _).alloc (Nat.le_refl _) _)
    have F2 := hid (heap_alloc_new w1 (.cells #[.int .i64 0, .int .i64 0, .int .i64 0] 30))
    generalize w1.alloc (.cells #[.int .i64 0, .int .i64 0, .int .i64 0] 30) = w2 at *
    have T2 := hid (T1.out.below HB2.out)
    have GT := hid (show Calls Tryz.prog 24 #[.pointer (some ⟨Bt, 0, none⟩), .string ⟨#[101, 110]⟩, .string ⟨#[97, 47, 98]⟩] w2 fun e w' => e = .returned (.tuple #[.string ⟨#[49]⟩, .bool true]) ∧ Below w2.heap.size w2 w' from get_any T2.out [101, 110] [97, 47, 98] (by simp [maxLen]) (by simp [maxLen]))
    go_wp2_with fail
    refine GT.out.mono ?_
    rintro e w3 ⟨rfl, hb3⟩
    have T3 := hid (T2.out.below hb3)
    have F3 := hid ((hb3.block _ (lt_of_block F2.out)).trans F2.out)
    have B3 := hid ((B1.out.then HB2.out).then hb3)
    clear hb3 T1 T2 F2 B1 HB2 GT
    have LO := hid (locales_any T3.out OK.out)
    rw [show srtT wakeT.names = [[101, 110]] by simp [srtT, wakeT]] at LO
    obtain ⟨x0, x1, x2, xl⟩ := box3_cells F3.out
    go_wp2_with fail
    refine LO.out.mono ?_
    rintro e w4 ⟨v, rfl, ho, hb4⟩
    obtain ⟨av, cv, rfl⟩ := own_sliceS ho
    have B4 := hid (B3.out.then hb4)
    clear ho hb4
    go_wp2_with fail
    exact bodyPost_ret (v := .bool true) (by simp [results, Tryz.results10, go_sem]) rfl ⟨rfl, B4.out⟩
  · exact absurd rfl h
end Go.Proofs.YtjlfchnnhglbjaaGreat
