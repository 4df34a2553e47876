/- InhWakeP, InhWakes, InhNil, InhNone -/
import Derived.Test.YtbbmdbolkicpcaaGreatDoorING16
import Derived.Test.YtbbmdbolkicpcaaGreatDoorING20
import Derived.Test.YtbbmdbolkicpcaaGreatDoorING11
import Derived.RangeFuncNested
import Derived.RangeFuncBound
import Derived.RangeFuncCalls
import Derived.RangeFuncLeaves
import Derived.Shelf.Abstract
import Derived.Shelf.RegionOpen
import Derived.OwnWalkIn
import Derived.TacticsInMore
import Derived.LoopNIn
import Derived.LoopIn
set_option linter.unusedVariables false
set_option linter.unusedSimpArgs false
namespace Go.Proofs.YtbbmdbolkicpcaaGreatDoor
open Go.RowKit Go.Lib
def w14I : List Itm := [⟨[97, 47, 98], [49], false, [], 0⟩, ⟨[99], [46, 46, 47, 97], true, [], 0⟩]
def w14D : Dc := ⟨[114, 111, 111, 116], false, w14I⟩
def w14T : Tb := ⟨[⟨[114, 111, 111, 116], [97, 47, 98], [49], 0, 0⟩], [⟨[114, 111, 111, 116], [99], [46, 46, 47, 97], 0, 0⟩], [[114, 111, 111, 116]], [[97, 47, 98]]⟩
def w14A : List Al := [([99], [97])]
def enGB : Str := [101, 110, 45, 71, 66]
theorem w14_new : newF [w14D] = (Wrg.ok, w14T) := by kernel_rfl
theorem w14_none : pathsF w14T [] = [] := by decide +kernel
theorem w14_tgts : tgtsF (aliasesF w14T) [] = .inl w14A := by decide +kernel
theorem w14_srt : srtK w14A = w14A := by decide +kernel
theorem w14_base : basePs w14T = [[97, 47, 98]] := by decide +kernel
theorem w14_names : srtT w14T.names = [[114, 111, 111, 116]] := by decide +kernel
theorem w14_root : pathsF w14T [114, 111, 111, 116] = [[97, 47, 98]] := by decide +kernel
theorem w14_mv1 : movedF [97, 47, 98] ([99], [97]) = some [99, 47, 98] := by decide +kernel
theorem w14_mv2 : movedF [99, 47, 98] ([99], [97]) = none := by decide +kernel
theorem w14_fol : folB ([99], [97]) ([99], [97]) = false := by decide +kernel
theorem w14_bad : badA [] w14A = none := by decide +kernel
theorem w14_asks : asksB enGB [99, 47, 98] = true := by decide +kernel
theorem w14_path : pathP [99, 47, 98] = some [([99], []), ([98], [])] := by decide +kernel
theorem w14_ld1 : leadA w14A [99, 47, 98] = some [97, 47, 98] := by decide +kernel
theorem w14_ld2 : leadA w14A [97, 47, 98] = none := by decide +kernel
theorem w14_step : stepF [] enGB = some [101, 110] := by decide +kernel
theorem w14_step2 : stepF [] [101, 110] = some tRoot := by decide +kernel
theorem w14_named : namedB enGB = true := by decide +kernel
theorem w14_chain : chainF [] enGB = [enGB, [101, 110], tRoot] :=
 chainF_of (Or.inl ⟨w14_named, rfl, by decide, w14_step, rfl, by decide, w14_step2, rfl, rfl⟩)
theorem w14_way : wayF w14A [99, 47, 98] = [[99, 47, 98], [97, 47, 98]] := wayF_of ⟨rfl, w14_ld1, rfl, w14_ld2⟩
theorem w14_ring : ∀ (n : Nat) (a b : Al), a ∈ w14A → ¬ reachA w14A n a b
 | 0, a, b, ha, h => by
  obtain ⟨_, hb, hf⟩ := h
  simp only [w14A, List.mem_singleton] at ha hb
  subst ha; subst hb
  rw [w14_fol] at hf; cases hf
 | n + 1, a, b, ha, h => by
  obtain ⟨c, h1, _⟩ := h
  exact w14_ring n a c ha h1
theorem w14_out : AlOut w14A 0 0 := Or.inr (Or.inr ⟨w14_bad, rfl, rfl, fun p hp => fun ⟨n, h⟩ => w14_ring n p p hp h⟩)
theorem w14_al (e i : Nat) (h : AlOut w14A e i) : e = 0 := (alOut_uniq h w14_out).1
theorem w14_gen {p : Str} (g : Gen w14A (basePs w14T) p) : p ∈ [[97, 47, 98], [99, 47, 98]] := by
 induction g with
 | base h => rw [w14_base] at h; rw [List.mem_singleton.1 h]; simp
 | step _ ha hm ih =>
  simp only [w14A, List.mem_singleton] at ha
  subst ha
  simp only [List.mem_cons, List.not_mem_nil, or_false] at ih
  rcases ih with rfl | rfl
  ·rw [w14_mv1] at hm; cases hm; simp
  ·rw [w14_mv2] at hm; cases hm
theorem w14_kn (b : Bool) (K : List Str) (h : KnownOut w14A (basePs w14T) b K) : b = true := by
 rcases h with ⟨h, _⟩ | ⟨_, L, h1, h2, h3⟩
 ·exact h
 ·have := nodup_le L [[97, 47, 98], [99, 47, 98]] h1 fun p hp => w14_gen (h2 p hp)
  simp at this
  omega
theorem w14_hb (p : Str) : p ∈ basePs w14T ↔ ∃ l ∈ srtT w14T.names, p ∈ pathsF w14T l := by
 rw [w14_base, w14_names]
 constructor
 ·intro h; exact ⟨_, List.mem_singleton.2 rfl, by rw [w14_root]; exact h⟩
 ·rintro ⟨l, hl, h⟩
  rw [List.mem_singleton.1 hl, w14_root] at h
  exact h
theorem w14_stops (K : List Str) : stopsF ⟨w14T, [], w14A, K⟩ enGB [99, 47, 98] = [(enGB, [99, 47, 98]), ([101, 110], [99, 47, 98]), (tRoot, [99, 47, 98]), (enGB, [97, 47, 98]), ([101, 110], [97, 47, 98]), (tRoot, [97, 47, 98])] := by
 unfold stopsF
 rw [if_neg (by decide)]
 simp only [w14_way, w14_chain]
 rfl
theorem w14_look (K : List Str) : (lookF w14T (stopsF ⟨w14T, [], w14A, K⟩ enGB [99, 47, 98])).2 = some [49] := by
 rw [w14_stops]
 decide +kernel
theorem w14_ok {K : List Str} (hk : KnownOut w14A (basePs w14T) true K) (ok : TbOk w14T) : RsvOk ⟨w14T, [], w14A, K⟩ := by
 rcases hk with ⟨_, h1, h2⟩ | ⟨h, _⟩
 ·exact ⟨Or.inr (Or.inr ⟨rfl, rfl, rfl, fun p hp => by cases hp⟩), w14_out, h1, h2, fun p hp => by
   simp only [w14T, List.mem_singleton] at hp
   subst hp
   decide +kernel, ok⟩
 ·cases h
end Go.Proofs.YtbbmdbolkicpcaaGreatDoor
namespace Go.Proofs.YtbbmdbolkicpcaaGreatDoor
open Go.RowKit Go.Lib Go.Sort Go.Maps Go.WideMaps
abbrev cellsI : Array Value := #[.string ⟨#[97, 47, 98]⟩, .string ⟨#[49]⟩, .bool false, .string ⟨#[]⟩, .int .i64 0, .string ⟨#[99]⟩, .string ⟨#[46, 46, 47, 97]⟩, .bool true, .string ⟨#[]⟩, .int .i64 0]
theorem w14_rd {w : World} : RdD ((w.alloc (.cells #[.string ⟨#[97, 47, 98]⟩, .string ⟨#[49]⟩, .bool false, .string ⟨#[]⟩, .int .i64 0, .string ⟨#[99]⟩, .string ⟨#[46, 46, 47, 97]⟩, .bool true, .string ⟨#[]⟩, .int .i64 0] 55)).alloc (.cells #[.string ⟨#[114, 111, 111, 116]⟩, .bool false, .slice (some ⟨w.heap.size, 0, none⟩) 2 2] 53)) (.slice (some ⟨w.heap.size + 1, 0, none⟩) 1 1) [w14D] := by
 have z1 : (w.alloc (.cells cellsI 55)).heap.size = w.heap.size + 1 := by simp
 have e1 := heap_alloc_new (w.alloc (.cells cellsI 55)) (.cells #[.string ⟨#[114, 111, 111, 116]⟩, .bool false, .slice (some ⟨w.heap.size, 0, none⟩) 2 2] 53)
 rw [z1] at e1
 have e0 := (Below.heap_alloc (w.alloc (.cells cellsI 55)) (.cells #[.string ⟨#[114, 111, 111, 116]⟩, .bool false, .slice (some ⟨w.heap.size, 0, none⟩) 2 2] 53) w.heap.size (by rw [z1]; omega)).trans (heap_alloc_new w _)
 refine ⟨[(w14D, (some ⟨w.heap.size, 0, none⟩, 2))], rfl, RdL.of_row (l := [(w14D, (some ⟨w.heap.size, 0, none⟩, 2))]) (cp := 1) encD e1 rfl (by simp) (by simp), fun z hz => ?_⟩
 rw [List.mem_singleton.1 hz]
 exact RdL.of_row (l := w14I) (cp := 2) encI e0 rfl (by simp [w14I]) (by simp [w14I])
theorem w14_sz : SzD [w14D] := by
 refine ⟨fun d hd => ?_, by simp [costD, w14D, w14I, maxLen]⟩
 rw [List.mem_singleton.1 hd]
 refine ⟨by simp [w14D, maxLen], fun x hx => ?_⟩
 simp only [w14D, w14I, List.mem_cons, List.not_mem_nil, or_false] at hx
 rcases hx with rfl | rfl <;> simp [maxLen]
theorem w14_szt : SzT w14T := by
 constructor
 all_goals (intro r hr; simp only [w14T, List.mem_singleton] at hr; subst hr; simp [maxLen])
theorem w14_sza : szA w14A := fun x hx => by
 simp only [w14A, List.mem_singleton] at hx
 subst hx
 simp [maxLen]
theorem w14_hav : ∀ g ∈ aliasesF w14T, g.1.length ≤ maxLen ∧ g.2.length ≤ 1048576 := by
 have e : aliasesF w14T = [([99], [46, 46, 47, 97])] := by decide +kernel
 rw [e]
 intro g hg
 rw [List.mem_singleton.1 hg]
 simp [maxLen]
theorem setCell_self {W : World} {g i : Nat} {cs : Array Value} {t : TypeId} {v : Value} (h : W.heap[g]? = some (.cells cs t (0, 0))) (hv : cs[i]? = some v) : W.setCell ⟨g, i, none⟩ v = W := by
 have hh : (W.setCell ⟨g, i, none⟩ v).heap = W.heap := by
  apply Array.ext_getElem?
  intro k
  by_cases hk : k = g
  ·subst hk
   rw [heap_setCell_same _ _ _ _ _ _ h, h]
   congr 2
   apply Array.ext_getElem?
   intro j
   by_cases hj : i = j
   ·subst hj
    rw [Array.getElem?_setIfInBounds_self_of_lt (Array.getElem?_eq_some_iff.1 hv).1, hv]
   ·rw [Array.getElem?_setIfInBounds_ne hj]
  ·exact heap_setCell_other _ _ _ _ hk
 have e : W.setCell ⟨g, i, none⟩ v = { W with heap := (W.setCell ⟨g, i, none⟩ v).heap } := rfl
 rw [e, hh]
set_option maxRecDepth 100000 in
set_option maxHeartbeats 8000000 in
theorem w14wakes_any (w : World) (hT : TabsB w.heap.size w) : Calls Tryz.prog 7 #[] w fun e w' => e = .returned (.bool true) ∧ Below w.heap.size w w' := by
 have HT := hid (fun W (h : Below w.heap.size w W) => (show TabsB W.heap.size W from ⟨(hT.below h).1, Nat.lt_of_lt_of_le hT.2.1 h.size, Nat.lt_of_lt_of_le hT.2.2 h.size⟩))
 have HB1 := hid (show Below w.heap.size w ((w.alloc (.cells #[.string ⟨#[97, 47, 98]⟩, .string ⟨#[49]⟩, .bool false, .string ⟨#[]⟩, .int .i64 0, .string ⟨#[99]⟩, .string ⟨#[46, 46, 47, 97]⟩, .bool true, .string ⟨#[]⟩, .int .i64 0] 55)).alloc (.cells #[.string ⟨#[114, 111, 111, 116]⟩, .bool false, .slice (some ⟨w.heap.size, 0, none⟩) 2 2] 53)) from ((Below.refl _ _).alloc (Nat.le_refl _) _).alloc (by simp) _)
 have NW := hid (tnew_any _ _ _ (w14_rd (w := w)) w14_sz)
 clear hT
 go_enter Tryz.func7, Tryz.ntmps7
 go_wp2_with fail
 refine NW.out.mono ?_
 rintro e w1 ⟨hb1, hx⟩
 rw [w14_new] at hx
 rcases hx with ⟨_, Bt, bv, ba, bn, bp, N, V, rfl, tb, ok⟩ | ⟨h, _⟩
 ·have B1 := hid (HB1.out.trans (hb1.mono HB1.out.size))
  have OK := hid ok
  have A2 := hid (show Below w1.heap.size w1 (w1.alloc (.cells #[.int .i64 0, .int .i64 0, .int .i64 0] 26)) from (Below.refl _ _).alloc (Nat.le_refl _) _)
  have F2 := hid (heap_alloc_new w1 (.cells #[.int .i64 0, .int .i64 0, .int .i64 0] 26))
  have T2 := hid (show TbP _ (w1.alloc (.cells #[.int .i64 0, .int .i64 0, .int .i64 0] 26)) Bt w14T from ⟨bv, ba, bn, bp, N, V, tb.below A2.out⟩)
  have B2 := hid (B1.out.then A2.out)
  clear hb1 tb ok NW B1 A2
  go_upto_region 2 with fail
  generalize w1.alloc (.cells #[.int .i64 0, .int .i64 0, .int .i64 0] 26) = w2 at *
  obtain ⟨x0, x1, x2, xl⟩ := box3_cells F2.out
  have RN := hid (rnew_ok w2 Bt w14T T2.out OK.out w14_szt w14_none (by simp [w14T]) w14_hav w14A w14_tgts w14_sza w14_srt w14_al w14_kn w14_hb (HT.out _ B2.out))
  go_wp2_with fail
  refine RN.out.mono ?_
  rintro e w3 ⟨rb, K, rfl, hrs, hkn, hb3⟩
  have F3 := hid ((hb3.block _ (lt_of_block F2.out)).trans F2.out)
  have B3 := hid (B2.out.then hb3)
  have RS := hid hrs
  have RO := hid (w14_ok hkn OK.out)
  clear x0 x1 x2 xl hb3 hrs hkn RN F2 B2 T2
  obtain ⟨x0, x1, x2, xl⟩ := box3_cells F3.out
  obtain ⟨xf0, xf1, xf2⟩ := box3_frozen F3.out
  have VN := hid (value_none RS.out RO.out enGB [99, 47, 98] (by decide) (by decide) (by decide) w14_asks _ w14_path (by decide) (by decide) (by simp [w14A]) (by simp) w14_sza)
  simp only [w14_look, Option.getD_some, Option.isSome_some] at VN
  go_upto_region 5 with fail
  rw [setCell_self (W := w3) F3.out rfl, setCell_self (W := w3) F3.out rfl, setCell_self (W := w3) F3.out rfl]
  go_wp2_with fail
  refine VN.out.mono ?_
  rintro e w4 ⟨rfl, hb4⟩
  have F4 := hid ((hb4.block _ (lt_of_block F3.out)).trans F3.out)
  have B4 := hid (B3.out.then hb4)
  clear x0 x1 x2 xl xf0 xf1 xf2 hb4
  obtain ⟨x0, x1, x2, xl⟩ := box3_cells F4.out
  go_wp2_with fail
  exact bodyPost_ret (v := .bool true) (by simp [results, Tryz.results7, go_sem]) rfl ⟨rfl, B4.out⟩
 ·exact absurd rfl h
end Go.Proofs.YtbbmdbolkicpcaaGreatDoor
namespace Go.Proofs.YtbbmdbolkicpcaaGreatDoor
open Go.RowKit Go.Lib Go.Sort Go.Maps Go.WideMaps Go.Shelf
theorem inew_nil (w : World) :
  Calls Tryz.prog 8 #[.pointer none] w fun e w' => e = .returned (.tuple #[.pointer none, .agg #[.int .i64 1, .int .i64 0, .int .i64 0]]) ∧ Below w.heap.size w w' := by
 go_enter Tryz.func8, Tryz.ntmps8
 have F1 := hid (heap_alloc_new w (.cells #[.int .i64 0, .int .i64 0, .int .i64 0] 26))
 go_wp2_with fail
 refine rnew_ret (Pb := w.heap.size) (e := 1) (f := 0) (a := 0) (heap_alloc_new w _) rfl rfl rfl ⟨rfl, (Below.refl _ _).alloc (Nat.le_refl _) _⟩
theorem rasks_nil (w : World) (l p : Str) :
  Calls Tryz.prog 35 #[.pointer none, .string ⟨l.toArray⟩, .string ⟨p.toArray⟩] w fun e w' => e = .returned (.bool false) ∧ w' = w := by
 go_enter Tryz.func35, Tryz.ntmps35
 go_wp2_with fail
 exact bodyPost_ret (v := .bool false) (by simp [results, Tryz.results35, go_sem]) rfl ⟨rfl, rfl⟩
theorem rvalue_nil (w : World) (l p : Str) :
  Calls Tryz.prog 9 #[.pointer none, .string ⟨l.toArray⟩, .string ⟨p.toArray⟩] w fun e w' => e = .returned (.tuple #[.string ⟨#[]⟩, .bool false]) ∧ w' = w := by
 go_enter Tryz.func9, Tryz.ntmps9
 go_wp2_with fail
 refine (rasks_nil w l p).mono ?_
 rintro e w1 ⟨rfl, rfl⟩
 go_wp2_with fail
 exact bodyPost_ret (v := .tuple #[.string ⟨#[]⟩, .bool false]) (by simp [results, Tryz.results9, go_sem]) rfl ⟨rfl, rfl⟩
theorem rdirect_nil (w : World) (l p : Str) :
  Calls Tryz.prog 10 #[.pointer none, .string ⟨l.toArray⟩, .string ⟨p.toArray⟩] w fun e w' => e = .returned (.tuple #[.string ⟨#[]⟩, .bool false]) ∧ w' = w := by
 go_enter Tryz.func10, Tryz.ntmps10
 go_wp2_with fail
 refine (rasks_nil w l p).mono ?_
 rintro e w1 ⟨rfl, rfl⟩
 go_wp2_with fail
 exact bodyPost_ret (v := .tuple #[.string ⟨#[]⟩, .bool false]) (by simp [results, Tryz.results10, go_sem]) rfl ⟨rfl, rfl⟩
theorem rtrail_nil (w : World) (l p : Str) :
  Calls Tryz.prog 12 #[.pointer none, .string ⟨l.toArray⟩, .string ⟨p.toArray⟩] w fun e w' => e = .returned (.slice none 0 0) ∧ w' = w := by
 go_enter Tryz.func12, Tryz.ntmps12
 go_wp2_with fail
 refine (rasks_nil w l p).mono ?_
 rintro e w1 ⟨rfl, rfl⟩
 go_wp2_with fail
 exact bodyPost_ret (v := .slice none 0 0) (by simp [results, Tryz.results12, go_sem]) rfl ⟨rfl, rfl⟩
theorem rknown_nil (w : World) :
  Calls Tryz.prog 13 #[.pointer none] w fun e w' => e = .returned (.slice none 0 0) ∧ w' = w := by
 go_enter Tryz.func13, Tryz.ntmps13
 go_wp2_with fail
 exact bodyPost_ret (v := .slice none 0 0) (by simp [results, Tryz.results13, go_sem]) rfl ⟨rfl, rfl⟩
theorem rchains_nil (w : World) :
  Calls Tryz.prog 14 #[.pointer none] w fun e w' => e = .returned (.pointer none) ∧ w' = w := by
 go_enter Tryz.func14, Tryz.ntmps14
 go_wp2_with fail
 exact bodyPost_ret (v := .pointer none) (by simp [results, Tryz.results14, go_sem]) rfl ⟨rfl, rfl⟩
theorem rtable_nil (w : World) :
  Calls Tryz.prog 15 #[.pointer none] w fun e w' => e = .returned (.pointer none) ∧ w' = w := by
 go_enter Tryz.func15, Tryz.ntmps15
 go_wp2_with fail
 exact bodyPost_ret (v := .pointer none) (by simp [results, Tryz.results15, go_sem]) rfl ⟨rfl, rfl⟩
theorem rall_any (v : Value) (loc : Str) (w : World) (hv : ∃ pt, v = .pointer pt) :
  Calls Tryz.prog 11 #[v, .string ⟨loc.toArray⟩] w fun e w' => e = .returned (.func (.func 40) #[] #[.pointer (some ⟨w.heap.size, 0, none⟩), .pointer (some ⟨w.heap.size + 1, 0, none⟩)]) ∧
   w' = (w.alloc (.cells #[v] 23)).alloc (.cells #[.string ⟨loc.toArray⟩] 9) := by
 obtain ⟨pt, rfl⟩ := hv
 go_enter Tryz.func11, Tryz.ntmps11
 go_wp2_with fail
 exact bodyPost_ret (v := .func (.func 40) #[] #[.pointer (some ⟨w.heap.size, 0, none⟩), .pointer (some ⟨w.heap.size + 1, 0, none⟩)]) (by simp [results, Tryz.results11, go_sem]) rfl ⟨rfl, rfl⟩
theorem rall1_nil (l b0 b1 : Nat) (w : World) (h0 : w.cell? ⟨b0, 0, none⟩ = some (.pointer none)) (l0 : b0 < w.heap.size) :
  Calls Tryz.prog 40 #[.func (.yield l) #[] #[], .pointer (some ⟨b0, 0, none⟩), .pointer (some ⟨b1, 0, none⟩)] w fun e w' => e = .returned (.tuple #[]) ∧ w' = w := by
 go_enter Tryz.func40, Tryz.ntmps40
 go_wp2_with fail
 exact bodyPost_ret (v := .tuple #[]) (results_none Tryz.results40 _ _ _) rfl ⟨rfl, rfl⟩
theorem rall1_stops (b0 b1 : Nat) (w : World) (h0 : w.cell? ⟨b0, 0, none⟩ = some (.pointer none)) (l0 : b0 < w.heap.size) (n : Nat) :
  SeqStopsK Fence.wide n Tryz.prog 40 #[.pointer (some ⟨b0, 0, none⟩), .pointer (some ⟨b1, 0, none⟩)] (fun _ : Empty => #[undef, undef]) (fun _ _ => True) (fun _ => True) (fun _ => False) 0 w := by
 intro l J Jx W hW hJ hJx _ h0'
 refine callsIn_wide.2 ((rall1_nil l b0 b1 W ((hW.cell (p := ⟨b0, 0, none⟩) l0).trans h0) (Nat.lt_of_lt_of_le l0 hW.size)).mono ?_)
 rintro e W' ⟨rfl, rfl⟩
 exact ⟨⟨_, rfl⟩, Or.inl ⟨[], trivial, h0'⟩⟩
end Go.Proofs.YtbbmdbolkicpcaaGreatDoor
namespace Go.Proofs.YtbbmdbolkicpcaaGreatDoor
open Go.RowKit Go.Lib Go.Sort Go.Maps Go.WideMaps Go.Shelf
theorem bytes_str14 (a : ByteArray) : (⟨a.data.toList.toArray⟩ : ByteArray) = a := by cases a; simp
set_option maxRecDepth 100000 in
set_option maxHeartbeats 4000000 in
theorem inone_any (loc path : Str) (w : World) (hl : loc.length ≤ maxLen) (hp : path.length ≤ maxLen) (hT : TabsB w.heap.size w) :
  Calls Tryz.prog 3 #[.string ⟨loc.toArray⟩, .string ⟨path.toArray⟩] w fun e w' => e = .returned (.bool true) ∧ Below w.heap.size w w' := by
 have HT := hid (fun W (h : Below w.heap.size w W) => (show TabsB W.heap.size W from ⟨(hT.below h).1, Nat.lt_of_lt_of_le hT.2.1 h.size, Nat.lt_of_lt_of_le hT.2.2 h.size⟩))
 clear hT
 refine (callsIn_wide (n := 6)).1 ?_
 refine callsIn_of_wp_marks Tryz.func3 rfl trivial ?_ rfl
 simp only [Tryz.ntmps3, List.size_toArray, List.length_cons, List.length_nil, Nat.reduceAdd, Nat.reduceSub, Array.replicate_succ, Array.replicate_zero, List.push_toArray, List.append_toArray, List.nil_append, List.cons_append]
 have F1 := hid (heap_alloc_new w (.cells #[.bool false] 4))
 have B1 := hid (show Below w.heap.size w (w.alloc (.cells #[.bool false] 4)) from (Below.refl _ _).alloc (Nat.le_refl _) _)
 gi_wp2
 generalize w.alloc (.cells #[.bool false] 4) = w1 at *
 refine ⟨trivial, callsIn_wide.2 ((w14wakes_any w1 (HT.out _ B1.out)).mono ?_)⟩
 rintro e w2 ⟨rfl, hb2⟩
 have F2 := hid ((hb2.block _ (lt_of_block F1.out)).trans F1.out)
 have B2 := hid (B1.out.then hb2)
 clear hb2 F1 B1
 gi_wp2
 refine ⟨trivial, callsIn_wide.2 ((inew_nil w2).mono ?_)⟩
 rintro e w3 ⟨rfl, hb3⟩
 have F3 := hid ((hb3.block _ (lt_of_block F2.out)).trans F2.out)
 have B3 := hid (B2.out.then hb3)
 clear hb3 F2 B2
 have G4 := hid (heap_alloc_new w3 (.cells #[.int .i64 1, .int .i64 0, .int .i64 0] 26))
 have A4 := hid (show Below w3.heap.size w3 (w3.alloc (.cells #[.int .i64 1, .int .i64 0, .int .i64 0] 26)) from (Below.refl _ _).alloc (Nat.le_refl _) _)
 gi_wp2
 generalize w3.alloc (.cells #[.int .i64 1, .int .i64 0, .int .i64 0] 26) = w4 at *
 have F4 := hid ((A4.out.block _ (lt_of_block F3.out)).trans F3.out)
 have B4 := hid (B3.out.then A4.out)
 generalize w3.heap.size = wb at *
 clear A4 F3 B3
 refine ⟨trivial, callsIn_wide.2 ((rvalue_nil w4 loc path).mono ?_)⟩
 rintro e w5 ⟨rfl, rfl⟩
 gi_wp2
 refine ⟨trivial, callsIn_wide.2 ((rdirect_nil w5 loc path).mono ?_)⟩
 rintro e w6 ⟨rfl, rfl⟩
 gi_wp2
 refine ⟨trivial, callsIn_wide.2 ((rall_any (.pointer none) loc w6 ⟨none, rfl⟩).mono ?_)⟩
 rintro e w7 ⟨rfl, hw7⟩
 have HB := hid (show Below w6.heap.size w6 ((w6.alloc (.cells #[.pointer none] 23)).alloc (.cells #[.string ⟨loc.toArray⟩] 9)) from ((Below.refl _ _).alloc (Nat.le_refl _) _).alloc (by simp) _)
 have c0 : ((w6.alloc (.cells #[.pointer none] 23)).alloc (.cells #[.string ⟨loc.toArray⟩] 9)).cell? ⟨w6.heap.size, 0, none⟩ = some (.pointer none) := by
  rw [cell_of_row _ _ _ _ _ _ ((Below.heap_alloc _ _ _ (by simp)).trans (heap_alloc_new w6 (.cells #[.pointer none] 23)))]; rfl
 have l0 : w6.heap.size < ((w6.alloc (.cells #[.pointer none] 23)).alloc (.cells #[.string ⟨loc.toArray⟩] 9)).heap.size := by simp; omega
 gi_wp2
 clear hw7
 generalize (w6.alloc (.cells #[.pointer none] 23)).alloc (.cells #[.string ⟨loc.toArray⟩] 9) = W6 at *
 have F6 := hid ((HB.out.block _ (lt_of_block F4.out)).trans F4.out)
 have G6 := hid ((HB.out.block _ (lt_of_block G4.out)).trans G4.out)
 have B6 := hid (B4.out.then HB.out)
 refine wpIn_rangeFunc_ownF (Kp := fun _ _ => True) (α := Empty) rfl (by omega) (gf := 40) rfl trivial (enters_of Tryz.func40 (by kernel_rfl) rfl)
  (rall1_stops w6.heap.size (w6.heap.size + 1) W6 c0 l0 5) (fun _ _ => trivial) (fun _ _ _ _ _ _ _ _ => trivial) (Below.refl _ _) (fun _ => rfl)
  (fun _ W => Below W6.heap.size W6 W) (fun _ _ _ => False) (ownFrom_below (Nat.le_refl _) (Nat.le_refl _)) (fun _ _ _ _ _ h _ _ => h) (Below.refl _ _) (fun x => x.elim) (fun l x => x.elim) (fun l pre x => x.elim) ?done (fun D c pre W _ h => h.elim)
 case done =>
  rintro D xs W hD _ hb hK
  have F7 := hid ((hb.block _ (lt_of_block F6.out)).trans F6.out)
  have G7 := hid ((hb.block _ (lt_of_block G6.out)).trans G6.out)
  have B7 := hid (B6.out.then hb)
  have hcell : W.cell? ⟨w.heap.size, 0, none⟩ = some (.bool false) := by rw [cell_of_row _ _ _ _ _ _ F7.out]; rfl
  have hfr := frozen_of_row W w.heap.size 0 _ _ F7.out
  have hlt := lt_of_block F7.out
  obtain ⟨g0, g1, g2, gl⟩ := box3_cells G7.out
  gi_wp2
  refine ⟨trivial, callsIn_wide.2 ((rtrail_nil _ loc path).mono ?_)⟩
  rintro e w' ⟨rfl, rfl⟩
  gi_wp2
  refine ⟨trivial, callsIn_wide.2 ((rknown_nil _).mono ?_)⟩
  rintro e w' ⟨rfl, rfl⟩
  gi_wp2
  refine ⟨trivial, callsIn_wide.2 ((rchains_nil _).mono ?_)⟩
  rintro e w' ⟨rfl, rfl⟩
  gi_wp2
  refine ⟨trivial, callsIn_wide.2 ((rtable_nil _).mono ?_)⟩
  rintro e w' ⟨rfl, rfl⟩
  gi_wp2
  have hK' := (KeepsOthers.setCell w' ⟨w.heap.size, 0, none⟩ (.bool true)).same D _ hK rfl
  refine ⟨by simp, .inl ⟨_, _, rfl, run_takeDeferred hK', ?_⟩⟩
  have hc5 := cell_kept (World.cell?_setCell_same' w' ⟨w.heap.size, 0, none⟩ (.bool true) (by rw [hcell]; rfl)) (grownBy_putObj' _ D (.deferred none)) (fun r e => by cases e; exact ⟨_, hK', rfl⟩)
  refine ⟨.bool true, ?_, rfl, ?_⟩
  ·simp [results, Tryz.f3, go_sem, hc5]
  ·exact (B7.out.setCell (p := ⟨w.heap.size, 0, none⟩) (Nat.le_refl _) _).trans (belowK_b (w := w) (Nat.le_refl _) _ D _ _ (Nat.le_trans B6.out.size hD) hK' rfl rfl)
theorem inone_bytes (a b : ByteArray) (w : World) (ha : a.size ≤ maxLen) (hb : b.size ≤ maxLen) (hT : TabsB w.heap.size w) :
  Calls Tryz.prog 3 #[.string a, .string b] w fun e w' => e = .returned (.bool true) ∧ Below w.heap.size w w' := by
 have := inone_any a.data.toList b.data.toList w (by rw [Array.length_toList]; exact ha) (by rw [Array.length_toList]; exact hb) hT
 rw [bytes_str14, bytes_str14] at this
 exact this
end Go.Proofs.YtbbmdbolkicpcaaGreatDoor
