/- TbList, TbWakes, TbNil, TbSort, TbAlias, TbTexts, TbSame, PtBuild, PrintP, PrintQ -/
import Derived.Test.YtbbmdbolkicpcaaGreatDoorING10
import Derived.RangeFuncNested
import Derived.RangeFuncBound
import Derived.RangeFuncCalls
import Derived.RangeFuncLeaves
import Derived.Shelf.Abstract
import Derived.Shelf.RegionOpen
import Derived.OwnWalkIn
import Derived.TacticsInMore
import Derived.LoopNIn
import Derived.LoopIn
import Derived.Shelf.SlSortCmp.NoneTotal
import Derived.BigQuiet
import Derived.IntWalk
import Derived.WalkSmall
import Derived.Test.YtbbmdbolkicpcaaGreatDoorING06
import Derived.Test.YtbbmdbolkicpcaaGreatDoorING07
import Derived.Test.YtbbmdbolkicpcaaGreatDoorINShelf
import Derived.Shelf.Strings.OnBuilder
import Derived.Lib.Builder
import Derived.Lib.AppendStr
import Derived.Lib.MapLaws
set_option linter.unusedVariables false
set_option linter.unusedSimpArgs false
namespace Go.Proofs.YtbbmdbolkicpcaaGreatDoor
open Go.RowKit Go.Lib Go.Sort Go.Maps Go.WideMaps
theorem row_mono {W : World} {B C n k : Nat} {e : TypeId} {v : Value} {xs : List Value} (h : W.ownsRow B e k v n xs) (hc : C ≤ B) : W.ownsRow C e k v n xs := by
 unfold World.ownsRow at *
 refine ⟨h.1, ?_⟩
 rcases h.2 with h | ⟨g, cap, cur, h1, h2, h3⟩
 ·exact Or.inl h
 ·exact Or.inr ⟨g, cap, cur, h1, Nat.le_trans hc h2, h3⟩
theorem sdL_keys (l : List Rw) : (sdL l).map (·.1) = l.map (·.path) := by unfold sdL; rw [List.map_map]; rfl
def pathsF (t : Tb) (loc : Str) : List Str := srtT ((rowsOf t loc).map (·.path))
theorem rows_nodup {t : Tb} (ok : TbOk t) (loc : Str) : ((rowsOf t loc).map (·.path)).Nodup := by
 have h := ok.rows
 rw [List.Nodup, List.pairwise_map] at h
 rw [List.Nodup, List.pairwise_map, rowsOf]
 refine (List.Pairwise.filter _ h).imp_of_mem fun {a b} ha hb hne e => hne ?_
 have h1 := (List.mem_filter.1 ha).2
 have h2 := (List.mem_filter.1 hb).2
 simp only [beq_iff_eq] at h1 h2
 rw [h1, h2, e]
theorem rows_le {t : Tb} (ok : TbOk t) (loc : Str) : (rowsOf t loc).length ≤ 16384 := by
 have := nodup_le ((rowsOf t loc).map (·.path)) t.paths (rows_nodup ok loc) (fun x hx => by
  obtain ⟨r, hr, rfl⟩ := List.mem_map.1 hx
  exact ok.rp r (List.mem_filter.1 hr).1)
 rw [List.length_map] at this
 exact Nat.le_trans this ok.p16
def OutS (w : World) (l : List Str) (e : Ending) (w' : World) : Prop := ∃ v, e = .returned v ∧ OwnS w' w.heap.size v l ∧ Below w.heap.size w w'
theorem outS_sorted {w w1 w' : World} {l : List Str} {v : Value} (h1 : w1.heap.size = w.heap.size + 1) (hb1 : Below w.heap.size w w1) (ho : OwnS w' (w.heap.size + 1) v l) (hb : Below (w.heap.size + 1) w1 w') : OutS w l (.returned v) w' :=
 ⟨v, rfl, row_mono ho (Nat.le_succ _), hb1.trans (hb.mono (Nat.le_succ _))⟩
section
variable {w : World} {B0 Bt bv ba bn bp N : Nat} {V : List (Str × Nat)} {t : Tb}
theorem locales_any (h : TbIn B0 w Bt bv ba bn bp N V t) (ok : TbOk t) :
  Calls Tryz.prog 17 #[.pointer (some ⟨Bt, 0, none⟩)] w fun e w' => OutS w (srtT t.names) e w' := by
 have KC := hid (keysFN (some bn) w)
 have SC := hid (sortedN h.at_.names (by rw [setL_keys]; exact ok.names) (by unfold setL; rw [List.length_map]; have := ok.n512; omega))
 rw [setL_keys] at SC
 have HB1 := hid (show Below w.heap.size w (w.alloc (.cells #[.map (some bn)] 61)) from (Below.refl _ _).alloc (Nat.le_refl _) _)
 have HZ1 := hid (show (w.alloc (.cells #[.map (some bn)] 61)).heap.size = w.heap.size + 1 by simp)
 obtain ⟨t0, t1, t2, t3, tl⟩ := h.box
 clear h
 go_enter Tryz.func17, Tryz.ntmps17
 go_wp2_with fail
 refine KC.out.mono ?_
 rintro e w1 ⟨rfl, rfl⟩
 go_wp2_with fail
 refine SC.out.mono ?_
 rintro e w2 ⟨v, rfl, ho, hb⟩
 have HO := hid (outS_sorted HZ1.out HB1.out ho hb)
 clear ho hb
 go_wp2_with fail
 exact bodyPost_ret (v := v) (by simp [results, Tryz.results17, go_sem]) rfl HO.out
theorem paths_any (h : TbIn B0 w Bt bv ba bn bp N V t) (ok : TbOk t) (loc : Str) (hl : loc.length ≤ maxLen) :
  Calls Tryz.prog 18 #[.pointer (some ⟨Bt, 0, none⟩), .string ⟨loc.toArray⟩] w fun e w' => OutS w (pathsF t loc) e w' := by
 obtain ⟨t0, t1, t2, t3, tl⟩ := h.box
 have HVAL := hid h.at_.vals
 cases hlk : lookE V loc with
 | some bm =>
  have KC := hid (keysFV (some bm) w)
  have SC := hid (sortedV (h.at_.each _ (lookE_in hlk)) (by rw [sdL_keys]; exact rows_nodup ok loc) (by unfold sdL; rw [List.length_map]; have := rows_le ok loc; simp only; omega))
  rw [sdL_keys] at SC
  change Hid (Calls _ _ _ _ fun e w' => ∃ v, e = Ending.returned v ∧ OwnS w' (w.heap.size + 1) v (pathsF t loc) ∧ _) at SC
  generalize pathsF t loc = ps at *
  have HB1 := hid (show Below w.heap.size w (w.alloc (.cells #[.map (some bm)] 91)) from (Below.refl _ _).alloc (Nat.le_refl _) _)
  have HZ1 := hid (show (w.alloc (.cells #[.map (some bm)] 91)).heap.size = w.heap.size + 1 by simp)
  have HLK := hid hlk
  clear h hlk
  go_enter Tryz.func18, Tryz.ntmps18
  go_wp2_with (at_lookup; refine wpList_lookE1 (E := elMp) HVAL.out Tryz.underlying90 zeroMap rfl _ _ rfl rfl loc rfl hl (.map (some bm)) (by rw [look_mp, HLK.out]; rfl) ?_)
  refine KC.out.mono ?_
  rintro e w1 ⟨rfl, rfl⟩
  go_wp2_with fail
  refine SC.out.mono ?_
  rintro e w2 ⟨v, rfl, ho, hb⟩
  have HO := hid (outS_sorted HZ1.out HB1.out ho hb)
  clear ho hb
  go_wp2_with fail
  exact bodyPost_ret (v := v) (by simp [results, Tryz.results18, go_sem]) rfl HO.out
 | none =>
  have KC := hid (keysFV none w)
  have SC := hid (sortedV_nil (w := w))
  have HP := hid (show pathsF t loc = [] by
   unfold pathsF
   rw [show rowsOf t loc = [] by
    unfold rowsOf
    rw [List.filter_eq_nil_iff]
    intro r hr e
    obtain ⟨q, hq, he⟩ := List.mem_map.1 (h.at_.has r hr)
    exact lookE_none.1 hlk q hq (he.trans (by simpa using e))]
   simp [srtT])
  generalize pathsF t loc = ps at *
  have HB1 := hid (show Below w.heap.size w (w.alloc (.cells #[.map none] 91)) from (Below.refl _ _).alloc (Nat.le_refl _) _)
  have HZ1 := hid (show (w.alloc (.cells #[.map none] 91)).heap.size = w.heap.size + 1 by simp)
  have HLK := hid hlk
  clear h hlk
  go_enter Tryz.func18, Tryz.ntmps18
  go_wp2_with (at_lookup; refine wpList_lookE1 (E := elMp) HVAL.out Tryz.underlying90 zeroMap rfl _ _ rfl rfl loc rfl hl (.map none) (by rw [look_mp, HLK.out]; rfl) ?_)
  refine KC.out.mono ?_
  rintro e w1 ⟨rfl, rfl⟩
  go_wp2_with fail
  refine SC.out.mono ?_
  rintro e w2 ⟨v, rfl, ho, hb⟩
  have HO := hid (outS_sorted HZ1.out HB1.out ho hb)
  clear ho hb
  go_wp2_with fail
  exact bodyPost_ret (v := v) (by simp [results, Tryz.results18, go_sem]) rfl (by rw [HP.out]; exact HO.out)
end
end Go.Proofs.YtbbmdbolkicpcaaGreatDoor
namespace Go.Proofs.YtbbmdbolkicpcaaGreatDoor
open Go.RowKit Go.Lib Go.Sort Go.Maps Go.WideMaps
theorem RdL.of_row {α : Type} {k : Nat} (E : Enc α k) {W : World} {b cp : Nat} {cs : Array Value} {ty : TypeId} {l : List α} (h : W.heap[b]? = some (.cells cs ty (0, 0))) (hc : cs.toList = flatL E l) (h1 : l.length ≤ cp) (h2 : l.length ≤ 9223372036854775807) : RdL E W (.slice (some ⟨b, 0, none⟩) l.length cp) l := by
 refine ⟨_, _, rfl, ⟨h1, h2, fun e => by cases e⟩, fun _ => ⟨b, 0, rfl, lt_of_block h, fun j i x hj hx => ?_⟩⟩
 have hi : i < k := by have := (List.getElem?_eq_some_iff.1 hx).1; rwa [E.len] at this
 rw [Nat.zero_add, cell_of_row _ _ _ _ _ _ h, ← Array.getElem?_toList, hc, flatL_get E l j i hj hi]
 exact hx
end Go.Proofs.YtbbmdbolkicpcaaGreatDoor
namespace Go.Proofs.YtbbmdbolkicpcaaGreatDoor
open Go.RowKit Go.Lib Go.Sort Go.Maps Go.WideMaps Go.Shelf
theorem within_any (pt : Option Addr) (loc path : Str) (w : World) :
  Calls Tryz.prog 53 #[.pointer pt, .string ⟨loc.toArray⟩, .string ⟨path.toArray⟩] w fun e w' => e = .returned (.func (.func 94) #[] #[.pointer (some ⟨w.heap.size, 0, none⟩), .pointer (some ⟨w.heap.size + 1, 0, none⟩), .pointer (some ⟨w.heap.size + 1 + 1, 0, none⟩)]) ∧
   w' = ((w.alloc (.cells #[.pointer pt] 40)).alloc (.cells #[.string ⟨loc.toArray⟩] 9)).alloc (.cells #[.string ⟨path.toArray⟩] 9) := by
 go_enter Tryz.func53, Tryz.ntmps53
 go_wp2_with fail
 exact bodyPost_ret (v := .func (.func 94) #[] #[.pointer (some ⟨w.heap.size, 0, none⟩), .pointer (some ⟨w.heap.size + 1, 0, none⟩), .pointer (some ⟨w.heap.size + 1 + 1, 0, none⟩)]) (by simp [results, Tryz.results53, go_sem]) rfl ⟨rfl, rfl⟩
end Go.Proofs.YtbbmdbolkicpcaaGreatDoor
namespace Go.Proofs.YtbbmdbolkicpcaaGreatDoor
open Go.RowKit Go.Lib Go.Sort
theorem cmp_closure12 (x y : Str × Str) (W : World) : Calls Tryz.prog 58 #[.agg #[S x.1, S x.2], .agg #[S y.1, S y.2]] W fun e w' => e = .returned (.int .i64 (Lib.compareBytes x.1 y.1)) ∧ ∃ q os', w' = grow (W.drewN q) os' := by
 have hcon := fun W' => Tryz.strings_Compare ⟨x.1.toArray⟩ ⟨y.1.toArray⟩ W'
 change ∀ W', Calls _ _ _ _ fun e w' => e = .returned (.int .i64 (Lib.compareBytes x.1 y.1)) ∧ _ at hcon
 generalize Lib.compareBytes x.1 y.1 = r at hcon ⊢
 unfold S
 go_enter Tryz.func58, Tryz.ntmps58
 go_wp2_with (go_at_call 59; refine (hcon _).mono ?_; rintro e w' ⟨rfl, rfl⟩)
 go_ret
 exact ⟨rfl, 0, _, by rw [alloc_eq_grow, alloc_eq_grow, grow_grow]; rfl⟩
theorem cmpLays12 (blk off size : Nat) (w : World) : CmpLays Tryz.prog 58 #[] enc2 2 cmpK blk off size w :=
 fun _ _ _ _ x y => cmp_closure12 x y _
theorem sortPairs12 (w : World) (B : Nat) (v : Value) (l : List (Str × Str)) (h : OwnP w B v l) (hl : l.length ≤ 1000) :
  Calls Tryz.prog 57 #[v, .func (.func 58) #[] #[]] w fun e w' => e = .returned (.tuple #[]) ∧
   (∃ l' : List (Str × Str), l'.Perm l ∧ l'.Pairwise (fun a b => ¬ b.1 < a.1) ∧ OwnP w' B v l') ∧ w.grownBy w' v.ownBlock := by
 have eg : ∀ args w, (callFunc 58 args).run Tryz.prog w = .ok (.enter 58 args) w := enters_of Tryz.func58 (by kernel_rfl) rfl
 rcases h.shape with ⟨rfl, rfl⟩ | ⟨g, cap, cur, rfl, hB, hg, hn, hm, hs, ht⟩
 ·have hc := AnyF.slices_SortFunc_none Tryz.sfPair none 0 (.func (.func 58) #[] #[]) w
  change Calls Tryz.prog 57 _ _ _ at hc
  refine hc.mono ?_
  rintro e w' ⟨rfl, rfl⟩
  exact ⟨rfl, ⟨[], List.Perm.refl _, List.Pairwise.nil, h⟩, World.grownBy.refl _ _⟩
 ·have hc := AnyQ.slices_SortFunc Tryz.sfPair 2 Tryz.isAgg76 Tryz.sizeOf76 enc2 (fun _ => rfl) (fun x v hv => by simp [enc2] at hv; rcases hv with rfl | rfl <;> rfl) cmpK swo 58 #[] g 0 cap l.toArray w eg (cmpLays12 g 0 _ w) (holdsK_of hg ht) (lt_of_block hg) (by simp; omega)
  change Calls Tryz.prog 57 _ _ _ at hc
  refine hc.mono fun e w' hh => ⟨hh.1, ?_⟩
  obtain ⟨d', n, os, hp, hsd, rfl⟩ := hh.2
  have hsz : d'.size = l.length := by simpa using hp.1
  have hperm : d'.toList.Perm l := by
   have := hp.2.2
   simp only [List.size_toArray] at this
   rw [← hsz] at this
   have ht' : List.take l.length d'.toList = d'.toList := List.take_of_length_le (by simp [hsz])
   simpa [hsz, ht'] using this
  refine ⟨⟨d'.toList, hperm, ?_, ?_⟩, ?_⟩
  ·rw [List.pairwise_iff_getElem]
   intro i j hi hj hij
   have := hsd i j (Nat.zero_le _) hij (by simp at hj ⊢; omega)
   rw [getElem!_pos _ i (by simpa using hi), getElem!_pos _ j (by simpa using hj)] at this
   intro hlt
   have h2 : ltOf cmpK d'[j] d'[i] = true := by
    show decide (Lib.compareBytes _ _ < 0) = true
    exact decide_eq_true ((cb_lt _ _).2 (by simpa using hlt))
   rw [this] at h2; cases h2
  ·have hlen : d'.toList.length = l.length := hperm.length_eq
   refine ⟨flat2_len _, Or.inr ⟨g, cap, putCells id 0 (flatK enc2 2 d') cur, by rw [hlen], hB, ?_, by omega, hm, by simpa [putCells] using hs, ?_⟩⟩
   ·unfold sortWorldK putRowK
    rw [heap_grow_old _ _ (by simpa using lt_of_block hg)]
    simp [putRow, mapBlock, Sort.ahead, Array.getElem?_modify, hg, onCells]
   ·have := take_putCells2 cur d'.toList (by rw [hlen, hs]; omega)
    simpa using this
  ·refine ⟨rfl, rfl, rfl, by simp [sortWorldK, putRowK], fun k hk hne => ?_⟩
   unfold sortWorldK putRowK
   rw [heap_grow_old _ _ (by simpa using hk)]
   have : g ≠ k := fun e => hne (by rw [e]; rfl)
   simp [putRow, mapBlock, Sort.ahead, Array.getElem?_modify, this]
end Go.Proofs.YtbbmdbolkicpcaaGreatDoor
namespace Go.Proofs.YtbbmdbolkicpcaaGreatDoor
open Go.RowKit Go.Lib Go.Sort Go.Maps Go.WideMaps
theorem nodup_len {α : Type} [BEq α] [LawfulBEq α] : ∀ (l R : List α), l.Nodup → (∀ x ∈ l, x ∈ R) → l.length ≤ R.length
 | [], R, _, _ => Nat.zero_le _
 | x :: l, R, hn, hs => by
  rw [List.nodup_cons] at hn
  have hx := hs x List.mem_cons_self
  have h2 := nodup_len l (R.erase x) hn.2 fun y hy => (List.mem_erase_of_ne (fun e => hn.1 (by rw [← e]; exact hy))).2 (hs y (List.mem_cons_of_mem _ hy))
  rw [List.length_erase_of_mem hx] at h2
  have : 0 < R.length := List.length_pos_of_mem hx
  rw [List.length_cons]; omega
theorem wpList_next_sd {w : World} {ops : Array Oper} {rest : List Oper} {o : Oper} {a : Act} {Q : Exit → Act → World → Prop} (hg : o.guard = none) (it : Operand) (hop : o.op = Op.next it false)
  (b r n : Nat) (m : DataW Unit) (left : Lit → Bool) (cnt : Nat) (hit : a.eval it = .pointer (some ⟨r, 0, none⟩)) (h : w.ranges Tryz.prog 9 rdSd b r n m left cnt)
  (hDone : cnt = 0 → (∀ kl, left kl = false) → wpList Tryz.prog ops Q rest (a.put o.dst (.tuple #[.bool false])) w)
  (hMore : ∀ (x : Str) (ct : Str) (cf ca : Int) (w' : World) (cnt' : Nat), x.length ≤ maxLen → left (.string x) = true → (∀ zd, m.atKey (.string x) zd = sdD (ct, cf, ca)) → w'.ranges Tryz.prog 9 rdSd b r n m (fun z => left z && !z.sameKey (.string x)) cnt' → cnt' < cnt →
   w.grownBy w' (some r) → w'.heap.size = w.heap.size → (Instr.entry (.pointer (some ⟨r, 0, none⟩))).run Tryz.prog w' = .ok (.tuple #[.string ⟨x.toArray⟩, .agg #[.string ⟨ct.toArray⟩, .int .i64 cf, .int .i64 ca]]) w' → wpList Tryz.prog ops Q rest (a.put o.dst (.tuple #[.bool true, .string ⟨x.toArray⟩, .agg #[.string ⟨ct.toArray⟩, .int .i64 cf, .int .i64 ca]])) w') :
  wpList Tryz.prog ops Q (o :: rest) a w :=
 wpList_next_ranges w hg it hop 9 lawS rdSd (fun s : Str => Value.string ⟨s.toArray⟩) sdV
  (fun key kl hkey => by obtain ⟨s, rfl, _⟩ := string_of_keyOf Tryz.underlying9 hkey; exact ⟨s.data.toList, rfl⟩)
  (fun v y hv => by obtain ⟨c, rfl, _⟩ := elSd.inv hv; exact ⟨c, rfl⟩)
  b r n m left cnt hit h hDone (fun x c kl y w' cnt' hkey hlk hv hat hrg hlt hgr hsz hen => by
   obtain ⟨s, e1, e2, hs⟩ := string_of_keyOf Tryz.underlying9 hkey
   cases e1
   subst e2
   obtain ⟨c', ec, rfl⟩ := elSd.inv (show elSd.rd (elSd.v c) = some y from hv)
   have : c = c' := elSd.inj (by
    have h1 := elSd.ok c
    have h2 := elSd.ok c'
    rw [show elSd.v c = elSd.v c' from ec, h2] at h1
    exact ((Prod.mk.inj (Option.some.inj h1)).1).symm)
   subst this
   obtain ⟨ct, cf, ca⟩ := c
   exact hMore x ct cf ca w' cnt' (by have := hs; rw [Lib.size_eq] at this; exact this) hlk hat hrg hlt hgr hsz hen)
def alP (t : Tb) : List (Str × Str) := t.als.map fun r => (r.path, r.text)
def keyLe (a b : Str × Str) : Bool := decide (a.1 ≤ b.1)
def aliasesF (t : Tb) : List (Str × Str) := (alP t).mergeSort keyLe
theorem sortedK_one : ∀ {l m : List (Str × Str)}, l.Perm m → (l.map (·.1)).Nodup → l.Pairwise (fun a b => ¬ b.1 < a.1) → m.Pairwise (fun a b => ¬ b.1 < a.1) → l = m
 | l, m, hp, hn, h1, h2 => by
  refine List.Perm.eq_of_pairwise (le := fun a b => ¬ b.1 < a.1) (fun a b ha hb hab hba => ?_) h1 h2 hp
  have e : a.1 = b.1 := List.le_antisymm (by simpa using hab) (by simpa using hba)
  have hb' : b ∈ l := hp.mem_iff.2 hb
  obtain ⟨i, hi, rfl⟩ := List.getElem_of_mem ha
  obtain ⟨j, hj, rfl⟩ := List.getElem_of_mem hb'
  by_cases hij : i = j
  ·subst hij; rfl
  ·exfalso
   have hk := fun i j hi hj hij => (List.pairwise_iff_getElem.1 hn) i j hi hj hij
   rcases Nat.lt_or_gt_of_ne hij with hl | hl
   ·exact hk i j (by simpa using hi) (by simpa using hj) hl (by simpa using e)
   ·exact hk j i (by simpa using hj) (by simpa using hi) hl (by simpa using e.symm)
theorem aliasesF_sorted (t : Tb) : (aliasesF t).Pairwise (fun a b => ¬ b.1 < a.1) := by
 have := List.pairwise_mergeSort (le := keyLe) (fun a b c h1 h2 => by simp only [keyLe, decide_eq_true_eq] at *; exact List.le_trans h1 h2) (fun a b => by simp only [keyLe, Bool.or_eq_true, decide_eq_true_eq]; exact List.le_total a.1 b.1) (alP t)
 exact this.imp fun {a b} h => by simpa [keyLe] using h
theorem aliasesF_perm (t : Tb) : (aliasesF t).Perm (alP t) := List.mergeSort_perm _ _
theorem alP_keys (t : Tb) : (alP t).map (·.1) = t.als.map (·.path) := by unfold alP; rw [List.map_map]; rfl
theorem aliases_one {t : Tb} (ok : TbOk t) {l : List (Str × Str)} (hp : l.Perm (alP t)) (hs : l.Pairwise (fun a b => ¬ b.1 < a.1)) : l = aliasesF t :=
 sortedK_one (hp.trans (aliasesF_perm t).symm) (by rw [(hp.map _).nodup_iff, alP_keys]; exact ok.als) hs (aliasesF_sorted t)
theorem alP_len (t : Tb) : (alP t).length = t.als.length := by unfold alP; rw [List.length_map]
structure AlsSt (w : World) (t : Tb) (ba n : Nat) (m : DataW Unit) (g : Nat) (vl : Value) (W : World) (left : Lit → Bool) (cnt : Nat) (l : List (Str × Str)) : Prop where
 rng : W.ranges Tryz.prog 9 rdSd ba w.heap.size n m left cnt
 gas : cnt ≤ g
 own : OwnP W (w.heap.size + 1) vl l
 nd : l.Nodup
 mem : ∀ p, p ∈ l ↔ p ∈ alP t ∧ left (.string p.1) = false
 bel : Below w.heap.size w W
theorem AlsSt.len {w W : World} {t : Tb} {ba n g cnt : Nat} {m : DataW Unit} {vl : Value} {left : Lit → Bool} {l : List (Str × Str)} (h : AlsSt w t ba n m g vl W left cnt l) : l.length ≤ (alP t).length :=
 nodup_len l (alP t) h.nd fun x hx => ((h.mem x).1 hx).1
theorem als_mem {t : Tb} (ok : TbOk t) {l : List (Str × Str)} {left : Lit → Bool} {x ct : Str} {cf ca : Int} (hm : ∀ p, p ∈ l ↔ p ∈ alP t ∧ left (.string p.1) = false) (hl : left (.string x) = true) (hlk : lookE (sdL t.als) x = some (ct, cf, ca)) :
  (x, ct) ∉ l ∧ ∀ p, p ∈ l ++ [(x, ct)] ↔ p ∈ alP t ∧ (left (.string p.1) && !(Lit.string p.1).sameKey (.string x)) = false := by
 refine ⟨fun h => (by have := ((hm _).1 h).2; rw [hl] at this; cases this), fun p => ?_⟩
 have hs : (Lit.string p.1).sameKey (.string x) = decide (p.1 = x) := by
  by_cases e : p.1 = x
  ·rw [e]; simp [Lit.sameKey]
  ·rw [sameKey_ne (fun h => e (by simpa using h))]; simp [e]
 have hin : (x, ct) ∈ alP t := by
  have := lookE_in hlk
  unfold sdL at this
  obtain ⟨r, hr, e⟩ := List.mem_map.1 this
  simp only [sdOf, Prod.mk.injEq] at e
  exact List.mem_map.2 ⟨r, hr, by rw [e.1, e.2.1]⟩
 have hone : ∀ q ∈ alP t, q.1 = x → q = (x, ct) := by
  intro q hq e
  have hn : ((alP t).map (·.1)).Nodup := by rw [alP_keys]; exact ok.als
  have h1 := lookE_is hn hq
  have h2 := lookE_is hn hin
  rw [e] at h1
  simp only at h2
  rw [h1] at h2
  obtain ⟨q1, q2⟩ := q
  simp only at e h2
  rw [e, Option.some.inj h2]
 rw [List.mem_append, hm, List.mem_singleton, hs]
 constructor
 ·rintro (⟨h1, h2⟩ | rfl)
  ·exact ⟨h1, by rw [h2]; rfl⟩
  ·exact ⟨hin, by simp⟩
 ·rintro ⟨h1, h2⟩
  by_cases e : p.1 = x
  ·right; exact hone p h1 e
  ·left
   refine ⟨h1, ?_⟩
   simpa [e] using h2
def OutP (w : World) (l : List (Str × Str)) (e : Ending) (w' : World) : Prop := ∃ v, e = .returned v ∧ OwnP w' w.heap.size v l ∧ Below w.heap.size w w'
set_option maxRecDepth 100000 in
set_option maxHeartbeats 16000000 in
theorem aliases_any {w : World} {B0 Bt bv ba bn bp N : Nat} {V : List (Str × Nat)} {t : Tb} (h : TbIn B0 w Bt bv ba bn bp N V t) (ok : TbOk t) (hsz : t.als.length ≤ 1000) :
  Calls Tryz.prog 30 #[.pointer (some ⟨Bt, 0, none⟩)] w fun e w' => OutP w (aliasesF t) e w' := by
 obtain ⟨t0, t1, t2, t3, tl⟩ := h.box
 obtain ⟨m, hown, hat⟩ := h.at_.als
 have HOK := hid ok
 have HSZ := hid (show (alP t).length ≤ 1000 by rw [alP_len]; exact hsz)
 have HAT := hid hat
 have HOWN := hid hown
 have hbm := hown.lt
 have HND := hid (show (alP t).Nodup from by
  have := ok.als
  rw [← alP_keys, List.Nodup, List.pairwise_map] at this
  exact this.imp fun h e => h (by rw [e]))
 clear ok hsz hat hown
 go_enter Tryz.func30, Tryz.ntmps30
 go_wp2_with (at_range; refine wpList_range_own _ rfl _ 91 rfl 9 96 lawS Tryz.underlying91 _ ba N m rfl HOWN.out ?_; intro w1 hrg0 hg0 hs0)
 go_frame
 have ST0 := hid (show AlsSt w t ba N m (Maps.size m) (.slice none 0 0) w1 (Maps.has m) (Maps.size m) [] from ⟨hrg0, Nat.le_refl _, World.ownsRow_nil _ _ _ _, List.nodup_nil, (fun p => ⟨fun h => (by cases h), fun ⟨h1, h2⟩ => by
   obtain ⟨r, hr, rfl⟩ := List.mem_map.1 h1
   have h3 : (lookE (sdL t.als) r.path).isSome = true := lookE_mem (List.mem_map.2 ⟨(r.path, sdOf r), List.mem_map.2 ⟨r, hr, rfl⟩, rfl⟩)
   obtain ⟨y, hy⟩ := Option.isSome_iff_exists.1 h3
   rw [has_true_of_atKey (y := sdD y) (fun z => by rw [HAT.out, hy]; rfl)] at h2
   cases h2⟩), (Below.refl _ _).grown hg0 (Nat.le_refl _) (fun j hj => by cases hj)⟩)
 clear hrg0 hg0 hs0 t0 t1 t2 t3 tl h
 obtain ⟨NN, hN⟩ : ∃ NN, NN = Maps.size m := ⟨_, rfl⟩
 have HN := hid hN
 clear hN
 go_loopg [3] NN (fun g vl W => ∃ left cnt l, AlsSt w t ba N m g vl W left cnt l)
 case atStart => exact ⟨_, _, _, by rw [HN.out]; exact ST0.out⟩
 case round =>
  obtain ⟨left, cnt, l, st⟩ := hrel
  rename World => w2
  have ST := hid st
  clear st ST0
  go_wp2_with (at_next; refine wpList_next_sd rfl _ rfl ba w.heap.size N m left cnt rfl ST.out.rng ?_ ?_)
  ·intro _ hl0
   have HPM := hid (show l.Perm (alP t) from (List.perm_ext_iff_of_nodup ST.out.nd HND.out).2 fun p => by rw [ST.out.mem]; simp [hl0])
   have HOW := hid ST.out.own
   have HBL := hid ST.out.bel
   have hll : l.length ≤ 1000 := by have := ST.out.len; have := HSZ.out; omega
   have HLL := hid hll
   clear hl0 hll ST
   go_wp2_with fail
   refine (sortPairs12 w2 _ _ l HOW.out HLL.out).mono ?_
   rintro e w3 ⟨rfl, ⟨l2, hp, hs, own2⟩, hgr⟩
   have hl2 := aliases_one HOK.out (hp.trans HPM.out) hs
   subst hl2
   have HO2 := hid own2
   have HB3 := hid (HBL.out.grown hgr HBL.out.size (fun j hj => by have := (World.ownsRow.lt HOW.out _ hj).1; omega))
   clear hp hs own2 hgr
   go_wp2_with fail
   go_ret
   exact ⟨_, rfl, ownP_monoS HO2.out (by omega), HB3.out⟩
  ·intro x ct cf ca w3 cnt1 hxl hlx hatx hrg1 hlt1 hg1 hs1 hen
   have hlk : lookE (sdL t.als) x = some (ct, cf, ca) := by
    have h1 := hatx .nil
    rw [HAT.out] at h1
    cases hl : lookE (sdL t.als) x with
    | some y => rw [hl] at h1; rw [elSd.inj (show elSd.d y = elSd.d (ct, cf, ca) from h1)]
    | none => rw [hl] at h1; cases h1
   have HMM := hid (als_mem HOK.out ST.out.mem hlx hlk)
   have hown3 : OwnP w3 (w.heap.size + 1) _ l := World.ownsRow.kept ST.out.own hg1 (Or.inr fun e => by have := (World.ownsRow.lt ST.out.own _ e).1; omega)
   have HO3 := hid hown3
   have HB3 := hid (ST.out.bel.grown hg1 ST.out.bel.size (fun j hj => by cases hj; exact Nat.le_refl _))
   have HRG := hid hrg1
   have hll : l.length ≤ 1000000 := by have := ST.out.len; have := HSZ.out; omega
   have HLL := hid hll
   have HS3 := hid (show w.heap.size + 1 ≤ w3.heap.size by have := hrg1.lt; omega)
   have HC := hid hlt1
   clear hlk hown3 hll hatx hrg1 hlt1 hg1 hs1 hlx
   go_upto_region 7 with fail
   have HA := hid (show Below w3.heap.size w3 (w3.alloc (.cells #[.string ⟨ct.toArray⟩, .int .i64 cf, .int .i64 ca] 96)) from (Below.refl _ _).alloc (Nat.le_refl _) _)
   have GA := hid (World.grownBy_alloc w3 (.cells #[.string ⟨ct.toArray⟩, .int .i64 cf, .int .i64 ca] 96) none)
   have Y4 := hid (heap_alloc_new w3 (.cells #[.string ⟨ct.toArray⟩, .int .i64 cf, .int .i64 ca] 96))
   generalize w3.alloc (.cells #[.string ⟨ct.toArray⟩, .int .i64 cf, .int .i64 ca] 96) = w4 at *
   obtain ⟨y0, y1, y2, yl⟩ := box3_cells Y4.out
   have HO4 := hid (show OwnP w4 (w.heap.size + 1) _ l from own_below HO3.out HA.out)
   have HR4 := hid (HRG.out.kept GA.out (fun e => by cases e) (fun e => by cases e))
   have HB4 := hid (HB3.out.then HA.out)
   have HS4 := hid (Nat.le_trans HS3.out HA.out.size)
   clear HO3 HRG HB3 HA GA hen
   go_wp2_with (at_builtin; refine wpList_pushP rfl (.tmp 18) (.tmp 23) rfl (w.heap.size + 1) _ l (x, ct) rfl HO4.out rfl HLL.out HS4.out ?_; intro v5 w5 own5 gr5 mv5)
   have HO5 := hid own5
   have HR5 := hid (HR4.out.kept gr5 (fun e => by have h1 := (World.ownsRow.lt HO4.out _ e.symm).1; omega) (fun e => by have h1 := (World.ownsRow.lt HO4.out _ e.symm).1; omega))
   have HB5 := hid (HB4.out.grown gr5 HB4.out.size (fun j hj => by have := (World.ownsRow.lt HO4.out _ hj).1; omega))
   clear own5 gr5 mv5
   go_wp2_with fail
   go_roundg (gk - 1)
   case measure => have := ST.out.gas; have := HC.out; omega
   case rel => exact ⟨_, cnt1, l ++ [(x, ct)], HR5.out, by have := ST.out.gas; have := HC.out; omega, HO5.out, by
    rw [List.nodup_append]
    exact ⟨ST.out.nd, by simp, fun p hp q hq => by rw [List.mem_singleton.1 hq]; exact fun e => HMM.out.1 (e ▸ hp)⟩, HMM.out.2, HB5.out⟩
end Go.Proofs.YtbbmdbolkicpcaaGreatDoor
namespace Go.Proofs.YtbbmdbolkicpcaaGreatDoor
open Go.RowKit Go.Lib Go.Sort
end Go.Proofs.YtbbmdbolkicpcaaGreatDoor
namespace Go.Proofs.YtbbmdbolkicpcaaGreatDoor
open Go.RowKit Go.Lib Go.Sort Go.Maps Go.WideMaps
def TbP (B0 : Nat) (W : World) (pt : Nat) (t : Tb) : Prop := ∃ bv ba bn bp N V, TbIn B0 W pt bv ba bn bp N V t
section
variable {B0 : Nat} {W W' : World} {pt : Nat} {t : Tb}
theorem TbP.below (h : TbP B0 W pt t) (hb : Below W.heap.size W W') : TbP B0 W' pt t := by
 obtain ⟨bv, ba, bn, bp, N, V, h⟩ := h
 exact ⟨bv, ba, bn, bp, N, V, h.below hb⟩
theorem TbP.locales (h : TbP B0 W pt t) (ok : TbOk t) : Calls Tryz.prog 17 #[.pointer (some ⟨pt, 0, none⟩)] W fun e w' => OutS W (srtT t.names) e w' := by
 obtain ⟨bv, ba, bn, bp, N, V, h⟩ := h
 exact locales_any h ok
theorem TbP.paths (h : TbP B0 W pt t) (ok : TbOk t) (loc : Str) (hl : loc.length ≤ maxLen) : Calls Tryz.prog 18 #[.pointer (some ⟨pt, 0, none⟩), .string ⟨loc.toArray⟩] W fun e w' => OutS W (pathsF t loc) e w' := by
 obtain ⟨bv, ba, bn, bp, N, V, h⟩ := h
 exact paths_any h ok loc hl
theorem TbP.aliases (h : TbP B0 W pt t) (ok : TbOk t) (hs : t.als.length ≤ 1000) : Calls Tryz.prog 30 #[.pointer (some ⟨pt, 0, none⟩)] W fun e w' => OutP W (aliasesF t) e w' := by
 obtain ⟨bv, ba, bn, bp, N, V, h⟩ := h
 exact aliases_any h ok hs
theorem TbP.get (h : TbP B0 W pt t) (loc path : Str) (hl : loc.length ≤ maxLen) (hp : path.length ≤ maxLen) : Calls Tryz.prog 19 #[.pointer (some ⟨pt, 0, none⟩), .string ⟨loc.toArray⟩, .string ⟨path.toArray⟩] W fun e w' => e = .returned (.tuple #[.string ⟨(rText (findR t.rows loc path)).toArray⟩, .bool (findR t.rows loc path).isSome]) ∧ Below W.heap.size W w' := by
 obtain ⟨bv, ba, bn, bp, N, V, h⟩ := h
 exact get_any h loc path hl hp
end
structure SzT (t : Tb) : Prop where
 names : ∀ s ∈ t.names, s.length ≤ maxLen
 rows : ∀ r ∈ t.rows, r.path.length ≤ maxLen
theorem paths_sz {t : Tb} (h : SzT t) {loc p : Str} (hp : p ∈ pathsF t loc) : p.length ≤ maxLen := by
 have h1 := (srtT_perm _).mem_iff.1 hp
 obtain ⟨r, hr, rfl⟩ := List.mem_map.1 h1
 exact h.rows r (List.mem_filter.1 hr).1
theorem names_sz {t : Tb} (h : SzT t) {s : Str} (hp : s ∈ srtT t.names) : s.length ≤ maxLen := h.names s ((srtT_perm _).mem_iff.1 hp)
end Go.Proofs.YtbbmdbolkicpcaaGreatDoor
namespace Go.Proofs.YtbbmdbolkicpcaaGreatDoor
open Go.RowKit Go.Lib
theorem infoBld : (Tryz.prog.info? 213).map (·.size) = some 2 := by kernel_rfl
theorem liesBld : liesAt Tryz.prog Tryz.prog.depth 213 (2 / Tryz.prog.cellsOf 213) 0 213 1 = true := by kernel_rfl
abbrev Bld (B b : Nat) (l : Str) (W : World) : Prop := Lib.BuilderAt 213 5 B b (.pointer (some ⟨b, 0, none⟩)) (Lib.byteCells l) W
def KeepB (w w' : World) : Prop := ∀ (k : Nat) (cs : Array Value) (ty : TypeId), w.heap[k]? = some (.cells cs ty (0, 0)) → ty ≠ 213 → ty ≠ 5 → w'.heap[k]? = some (.cells cs ty (0, 0))
theorem KeepB.refl (w : World) : KeepB w w := fun k cs ty h _ _ => h
theorem KeepB.trans {a b c : World} (h : KeepB a b) (g : KeepB b c) : KeepB a c := fun k cs ty h1 h2 h3 => g k cs ty (h k cs ty h1 h2 h3) h2 h3
theorem KeepB.set {w : World} {b i : Nat} {u : Value} {cs0 : Array Value} (hb : w.heap[b]? = some (.cells cs0 213 (0, 0))) : KeepB w (w.setCell ⟨b, i, none⟩ u) := fun k cs ty h1 h2 _ => by
 rw [heap_setCell_other _ _ _ _ (by rintro rfl; rw [hb] at h1; have := Option.some.inj h1; injection this with _ e _; exact h2 e.symm)]
 exact h1
theorem KeepB.grown {w w' : World} {B n : Nat} {v : Value} {xs : List Value} (o : w.ownsRow B 5 1 v n xs) (gr : w.grownBy w' v.ownBlock) : KeepB w w' := fun k cs ty h1 _ h3 =>
 (gr.block k (lt_of_block h1) (Ne.symm (own_type o h1 (Ne.symm h3)))).trans h1
set_option maxHeartbeats 1000000 in
set_option maxRecDepth 100000 in
theorem bcheck_used (b : Nat) (w : World) (h0 : w.cell? ⟨b, 0, none⟩ = some (.pointer (some ⟨b, 0, none⟩))) :
  Calls Tryz.prog 186 #[.pointer (some ⟨b, 0, none⟩)] w fun e w' => e = .returned (.tuple #[]) ∧ w' = w := by
 obtain ⟨j, hj, _⟩ := Option.map_eq_some_iff.1 infoBld
 go_enter Tryz.func186, Tryz.ntmps186
 go_wp2
 rw [Lib.run_neq_ptr_same w _ Tryz.underlying211 hj]
 go_wp2
 go_end0
 exact ⟨rfl, rfl⟩
set_option maxHeartbeats 1000000 in
set_option maxRecDepth 100000 in
theorem bcheck_fresh (b : Nat) (w : World) (h0 : w.cell? ⟨b, 0, none⟩ = some (.pointer none)) (hsh : w.shape? b = some (213, 2)) (hfz : w.frozen? ⟨b, 0, none⟩ = false) :
  Calls Tryz.prog 186 #[.pointer (some ⟨b, 0, none⟩)] w fun e w' => e = .returned (.tuple #[]) ∧ w' = w.setCell ⟨b, 0, none⟩ (.pointer (some ⟨b, 0, none⟩)) := by
 obtain ⟨j, hj, hjs⟩ := Option.map_eq_some_iff.1 infoBld
 go_enter Tryz.func186, Tryz.ntmps186
 go_wp2
 rw [Lib.run_to_unsafe w ⟨b, 0, none⟩ Tryz.underlying211 Tryz.underlying251 hj (by rw [hjs]; decide) hsh (Nat.zero_lt_succ 1)]
 simp only [Result.andThen]
 rw [Oper.upon_value]
 go_wp2
 rw [run_callFunc_extern Tryz.func197 (by kernel_rfl) (by kernel_rfl) (by kernel_rfl) (e := Extern.AbiNoEscape.same) (by kernel_rfl)]
 rw [Lib.run_noEscape]
 simp only [Result.andThen]
 rw [Oper.upon_value]
 go_wp2
 rw [Lib.run_from_unsafe w ⟨b, 0, none⟩ Tryz.underlying251 Tryz.underlying211 hj hsh liesBld]
 simp only [Result.andThen]
 rw [Oper.upon_value]
 go_wp2
 go_end0
 exact ⟨rfl, rfl⟩
theorem bcheck_any (B b : Nat) (bs : List Value) (w : World) (h : Lib.IsBuilder 213 5 B b bs w) :
  Calls Tryz.prog 186 #[.pointer (some ⟨b, 0, none⟩)] w fun e w' => e = .returned (.tuple #[]) ∧ (Lib.BuilderAt 213 5 B b (.pointer (some ⟨b, 0, none⟩)) bs w' ∧ Below B w w' ∧ KeepB w w') := by
 rcases h with h | h
 ·refine (bcheck_fresh b w h.cell0 h.shape h.frozen0).mono ?_
  rintro e w' ⟨rfl, rfl⟩
  exact ⟨rfl, h.used _, (Below.refl B w).setCell (p := ⟨b, 0, none⟩) h.1 _, by obtain ⟨_, v, hb, _⟩ := h; exact KeepB.set hb⟩
 ·refine (bcheck_used b w h.cell0).mono ?_
  rintro e w' ⟨rfl, rfl⟩
  exact ⟨rfl, h, Below.refl B _, KeepB.refl _⟩
theorem byte_cells (l : Str) : Lib.byteCells l = flatL encBy l := by
 rw [flat_by]; rfl
theorem bld_own {W : World} {B : Nat} {v : Value} {l : Str} (h : W.ownsRow B 5 1 v (Lib.byteCells l).length (Lib.byteCells l)) : OwnL encBy 5 W B v l := by
 unfold OwnL
 refine own_cast h ?_ (byte_cells l).symm
 rw [byte_cells, flatL_len, Nat.mul_one]
theorem bld_put {W : World} {B b : Nat} {p v v' : Value} {l : Str} (hB : B ≤ b) (hb : W.heap[b]? = some (.cells #[p, v] 213 (0, 0))) (o : OwnL encBy 5 W B v' l) :
  Lib.BuilderAt 213 5 B b p (Lib.byteCells l) (W.setCell ⟨b, 1, none⟩ v') := by
 refine Lib.BuilderAt.put hB hb (v' := v') ?_ (by decide)
 refine own_cast o ?_ (byte_cells l)
 rw [byte_cells, flatL_len, Nat.mul_one]
set_option maxHeartbeats 2000000 in
set_option maxRecDepth 100000 in
theorem bbyte_any (B b : Nat) (l : Str) (c : UInt8) (w : World) (h : Lib.IsBuilder 213 5 B b (Lib.byteCells l) w) (hlen : l.length + 1 ≤ 140737488355328) (hBw : B ≤ w.heap.size) :
  Calls Tryz.prog 163 #[.pointer (some ⟨b, 0, none⟩), .int .u8 (c.toNat : Int)] w fun e w' => e = .returned .nilIface ∧ Bld B b (l ++ [c]) w' ∧ Below B w w' ∧ KeepB w w' := by
 have CC := hid (bcheck_any B b _ w h)
 have HLEN := hid hlen
 have HBW := hid hBw
 clear h hlen hBw
 go_enter Tryz.func163, Tryz.ntmps163
 go_upto_region 2 with (go_at_call 186; refine CC.out.mono ?_; rintro e w1 ⟨rfl, h1, hb1, hk1⟩)
 obtain ⟨hB, v, hbk, hown, hne⟩ := h1
 have HBK := hid hbk
 have HB1 := hid hb1
 have HK1 := hid hk1
 have HOWN := hid (bld_own hown)
 have HNE := hid hne
 have HBB := hid hB
 have HSZ := hid (show B ≤ w1.heap.size from Nat.le_trans HBW.out hb1.size)
 clear hbk hb1 hk1 hown hne hB CC
 obtain ⟨ao, cp, rfl, _⟩ := HOWN.out.slice
 obtain ⟨c0, c1, f0, f1, lt⟩ := box2_cells HBK.out
 have KB := hid (fun (W : World) (gr : w1.grownBy W (Value.slice ao l.length cp).ownBlock) => (gr.block _ (lt_of_block HBK.out) (fun e => HNE.out e.symm)).trans HBK.out)
 go_wp2_with (at_builtin; refine wpList_pushL (E := encBy) rfl (.tmp 11) (.tmp 13) rfl Tryz.underlying206 infoBy rfl (by decide) B _ l c rfl HOWN.out rfl (by have := HLEN.out; unfold maxLen; omega) (by have := HLEN.out; omega) HSZ.out #[.int .u8 (c.toNat : Int)] rfl ?_; intro v' w2 own' gr mv; obtain ⟨d0, d1, g0, g1, lt2⟩ := box2_cells (KB.out w2 gr); have OWN2 := hid own'; have GR := hid gr; obtain ⟨ao', cp', rfl, _⟩ := own'.slice; clear own' gr mv)
 go_ret
 have OWN3 := OWN2.out
 rw [List.length_append, List.length_singleton] at OWN3
 refine ⟨rfl, bld_put HBB.out (KB.out w2 GR.out) OWN3, (HB1.out.grown GR.out HSZ.out (fun k hk => (World.ownsRow.lt HOWN.out k hk).1)).setCell (p := ⟨b, 1, none⟩) HBB.out _, (HK1.out.trans (KeepB.grown HOWN.out GR.out)).trans (KeepB.set (KB.out w2 GR.out))⟩
set_option maxHeartbeats 2000000 in
set_option maxRecDepth 100000 in
theorem bstr_any (B b : Nat) (l s : Str) (w : World) (h : Lib.IsBuilder 213 5 B b (Lib.byteCells l) w) (hlen : l.length + s.length ≤ 140737488355328) (hBw : B ≤ w.heap.size) :
  Calls Tryz.prog 162 #[.pointer (some ⟨b, 0, none⟩), .string ⟨s.toArray⟩] w fun e w' => e = .returned (.tuple #[.int .i64 s.length, .nilIface]) ∧ Bld B b (l ++ s) w' ∧ Below B w w' ∧ KeepB w w' := by
 obtain ⟨i0, hi, hz0, hz1, hz2⟩ := info_parts infoBy
 have CC := hid (bcheck_any B b _ w h)
 have HLEN := hid hlen
 have HBW := hid hBw
 have hsz : (⟨s.toArray⟩ : ByteArray).size = s.length := Lib.size_eq _
 have HSS := hid hsz
 clear h hlen hBw
 go_enter Tryz.func162, Tryz.ntmps162
 go_upto_region 2 with (go_at_call 186; refine CC.out.mono ?_; rintro e w1 ⟨rfl, h1, hb1, hk1⟩)
 obtain ⟨hB, v, hbk, hown, hne⟩ := h1
 have HBK := hid hbk
 have HB1 := hid hb1
 have HK1 := hid hk1
 have HOWN := hid (bld_own hown)
 have HNE := hid hne
 have HBB := hid hB
 have HSZ := hid (show B ≤ w1.heap.size from Nat.le_trans HBW.out hb1.size)
 clear hbk hb1 hk1 hown hne hB CC
 obtain ⟨ao, cp, rfl, _⟩ := HOWN.out.slice
 obtain ⟨c0, c1, f0, f1, lt⟩ := box2_cells HBK.out
 have KB := hid (fun (W : World) (gr : w1.grownBy W (Value.slice ao l.length cp).ownBlock) => (gr.block _ (lt_of_block HBK.out) (fun e => HNE.out e.symm)).trans HBK.out)
 have HFL := hid (show flatL encBy l ++ Lib.strCells ⟨s.toArray⟩ = flatL encBy (l ++ s) by rw [flatL_append, ← byte_cells s]; rfl)
 go_wp2_with (at_builtin; refine Lib.wpList_append_own_string _ rfl (.tmp 12) (.tmp 13) 206 9 rfl B 5 i0 Tryz.underlying206 Tryz.underlying9 hi hz0 hz1 hz2 _ _ _ rfl HOWN.out ⟨s.toArray⟩ rfl (by rw [HSS.out]; have := HLEN.out; unfold maxLen; omega) (by rw [HSS.out]; have := HLEN.out; omega) HSZ.out ?_; intro v' w2 own' gr mv; obtain ⟨d0, d1, g0, g1, lt2⟩ := box2_cells (KB.out w2 gr); have OWN2 := hid (show OwnL encBy 5 w2 B v' (l ++ s) from own_cast own' (by rw [HSS.out, List.length_append]) HFL.out.symm); have GR := hid gr; obtain ⟨ao', cp', rfl, _⟩ := OWN2.out.slice; clear own' gr mv)
 go_ret2
 have OWN3 := OWN2.out
 rw [List.length_append] at OWN3
 refine ⟨rfl, bld_put HBB.out (KB.out w2 GR.out) OWN3, (HB1.out.grown GR.out HSZ.out (fun k hk => (World.ownsRow.lt HOWN.out k hk).1)).setCell (p := ⟨b, 1, none⟩) HBB.out _, (HK1.out.trans (KeepB.grown HOWN.out GR.out)).trans (KeepB.set (KB.out w2 GR.out))⟩
end Go.Proofs.YtbbmdbolkicpcaaGreatDoor
namespace Go.Proofs.YtbbmdbolkicpcaaGreatDoor
open Go.Lib
theorem decodeN_pre (n n' b0 b1 b2 b3 c1 c2 c3 : Nat) (hne : decodeN n b0 b1 b2 b3 ≠ (65533, 1)) (hk : (decodeN n b0 b1 b2 b3).2 ≤ n')
  (h1 : 1 < (decodeN n b0 b1 b2 b3).2 → c1 = b1) (h2 : 2 < (decodeN n b0 b1 b2 b3).2 → c2 = b2) (h3 : 3 < (decodeN n b0 b1 b2 b3).2 → c3 = b3) :
  decodeN n' b0 c1 c2 c3 = decodeN n b0 b1 b2 b3 := by
 unfold decodeN at hne hk h1 h2 h3 ⊢
 by_cases a : b0 < 128
 ·simp only [a, if_true]
 ·simp only [a, if_false] at hne hk h1 h2 h3 ⊢
  by_cases b : b0 / 32 = 6 ∧ (1 < n ∧ b1 / 64 = 2)
  ·rw [if_pos b] at hne hk h1 h2 h3 ⊢
   by_cases b' : b0 % 32 * 64 + b1 % 64 ≥ 128
   ·rw [if_pos b'] at hne hk h1 h2 h3 ⊢
    simp only at hk h1
    have e1 := h1 (by decide)
    subst e1
    rw [if_pos ⟨b.1, by omega, b.2.2⟩, if_pos b']
   ·rw [if_neg b'] at hne; exact absurd rfl hne
  ·rw [if_neg b] at hne hk h1 h2 h3 ⊢
   by_cases c : b0 / 16 = 14 ∧ (1 < n ∧ b1 / 64 = 2) ∧ (2 < n ∧ b2 / 64 = 2)
   ·rw [if_pos c] at hne hk h1 h2 h3 ⊢
    split at hne
    ·next c' =>
     rw [if_pos c'] at hk h1 h2 h3 ⊢
     simp only at hk h1 h2
     have e1 := h1 (by decide)
     have e2 := h2 (by decide)
     subst e1 e2
     rw [if_neg (by omega), if_pos ⟨c.1, ⟨by omega, c.2.1.2⟩, by omega, c.2.2.2⟩, if_pos c']
    ·exact absurd rfl hne
   ·rw [if_neg c] at hne hk h1 h2 h3 ⊢
    by_cases d : b0 / 8 = 30 ∧ (1 < n ∧ b1 / 64 = 2) ∧ (2 < n ∧ b2 / 64 = 2) ∧ (3 < n ∧ b3 / 64 = 2)
    ·rw [if_pos d] at hne hk h1 h2 h3 ⊢
     split at hne
     ·next d' =>
      rw [if_pos d'] at hk h1 h2 h3 ⊢
      simp only at hk h1 h2 h3
      have e1 := h1 (by decide)
      have e2 := h2 (by decide)
      have e3 := h3 (by decide)
      subst e1 e2 e3
      rw [if_neg (by omega), if_neg (by omega), if_pos ⟨d.1, ⟨by omega, d.2.1.2⟩, ⟨by omega, d.2.2.1.2⟩, by omega, d.2.2.2.2⟩, if_pos d']
     ·exact absurd rfl hne
    ·rw [if_neg d] at hne; exact absurd rfl hne
theorem getD_app {a b : Str} {i : Nat} (h : i < a.length) : (a ++ b).getD i 0 = a.getD i 0 := by
 simp [List.getD, List.getElem?_append_left h]
theorem decode_pre {a b : Str} (ha : a ≠ []) (h : decodeL a ≠ (65533, 1)) (b' : Str) (hb : b' = a.take (decodeL a).2 ++ b) : decodeL b' = decodeL a := by
 have hle := decodeL_le a ha
 have hp := (rune_any a).pos
 subst hb
 rw [decodeL_N a] at *
 generalize hd : decodeN a.length (a.getD 0 0).toNat (a.getD 1 0).toNat (a.getD 2 0).toNat (a.getD 3 0).toNat = d at *
 have ht : (a.take d.2).length = d.2 := by rw [List.length_take]; omega
 have hg : ∀ i, i < d.2 → (a.take d.2 ++ b).getD i 0 = a.getD i 0 := fun i hi => by rw [getD_app (by omega), getD_takeU _ _ _ hi]
 rw [decodeL_N, hg 0 (by omega), ← hd]
 refine decodeN_pre _ _ _ _ _ _ _ _ _ (by rw [hd]; exact h) (by rw [hd, List.length_append, ht]; omega) ?_ ?_ ?_
 all_goals
  rw [hd]; intro hi; rw [hg _ hi]
theorem utfB_ascii {c : UInt8} {t : Str} (h : c.toNat < 128) : utfB (c :: t) = utfB t := by
 have hd : decodeL (c :: t) = (c.toNat, 1) := by rw [decodeL_N]; exact decodeN_ascii _ _ _ _ _ h
 rw [utfB_step (by simp), hd]
 have : ((c.toNat, 1) == ((65533, 1) : Nat × Nat)) = false := by
  rw [beq_eq_false_iff_ne]; intro e
  have := (Prod.mk.inj e).1; omega
 rw [this]; rfl
theorem utfB_app : ∀ (n : Nat) (a b : Str), a.length ≤ n → utfB a = true → utfB b = true → utfB (a ++ b) = true
 | 0, a, b, hn, _, hb => by rw [List.eq_nil_of_length_eq_zero (Nat.le_zero.1 hn)]; exact hb
 | n + 1, a, b, hn, ha, hb => by
  by_cases h0 : a = []
  ·subst h0; exact hb
  ·have hs := ha
   rw [utfB_step h0] at hs
   simp only [Bool.and_eq_true, Bool.not_eq_true', beq_eq_false_iff_ne] at hs
   have hle := decodeL_le a h0
   have hp := (rune_any a).pos
   have hd : decodeL (a ++ b) = decodeL a := decode_pre h0 hs.1 (b := a.drop (decodeL a).2 ++ b) _ (by rw [← List.append_assoc, List.take_append_drop])
   rw [utfB_step (by simp [h0]), hd]
   simp only [Bool.and_eq_true, Bool.not_eq_true', beq_eq_false_iff_ne]
   refine ⟨hs.1, ?_⟩
   rw [List.drop_append_of_le_length hle]
   exact utfB_app n _ b (by rw [List.length_drop]; omega) hs.2 hb
theorem utfB_append {a b : Str} (ha : utfB a = true) (hb : utfB b = true) : utfB (a ++ b) = true := utfB_app a.length a b (Nat.le_refl _) ha hb
theorem utfB_part : ∀ (n : Nat) (a : Str) (c : UInt8) (b : Str), a.length ≤ n → c.toNat < 128 → utfB (a ++ c :: b) = true → utfB a = true ∧ utfB b = true
 | 0, a, c, b, hn, hc, h => by
  rw [List.eq_nil_of_length_eq_zero (Nat.le_zero.1 hn)] at h ⊢
  rw [List.nil_append, utfB_ascii hc] at h
  exact ⟨rfl, h⟩
 | n + 1, a, c, b, hn, hc, h => by
  by_cases h0 : a = []
  ·subst h0
   rw [List.nil_append, utfB_ascii hc] at h
   exact ⟨rfl, h⟩
  ·obtain ⟨hs, hd⟩ := utfB_sound (by simp [h0]) h
   have hbad : decodeL (a ++ c :: b) ≠ (65533, 1) := by
    rw [utfB_step (by simp [h0])] at h
    simp only [Bool.and_eq_true, Bool.not_eq_true', beq_eq_false_iff_ne] at h
    exact h.1
   have hp := (rune_any (a ++ c :: b)).pos
   have hle : (decodeL (a ++ c :: b)).2 ≤ a.length := by
    generalize hk : decodeL (a ++ c :: b) = k at *
    obtain ⟨r, k⟩ := k
    simp only at hs hp ⊢
    generalize hl : a ++ c :: b = l at *
    cases hs with
    | one c0 t h1 =>
     exact List.length_pos_iff.2 h0
    | more run t r h2 h4 hr hm hb he =>
     rcases Nat.lt_or_ge a.length run.length with hlt | hge
     ·have hx : (run ++ t)[a.length]? = some c := by rw [← hl]; simp
      rw [List.getElem?_append_left hlt] at hx
      have := hb c (List.mem_of_getElem? hx)
      omega
     ·exact hge
   rw [List.drop_append_of_le_length hle] at hd
   obtain ⟨i1, i2⟩ := utfB_part n _ c b (by rw [List.length_drop]; omega) hc hd
   refine ⟨?_, i2⟩
   have e : decodeL a = decodeL (a ++ c :: b) := decode_pre (by simp) hbad (b := a.drop (decodeL (a ++ c :: b)).2) _ (by rw [List.take_append_of_le_length hle, List.take_append_drop])
   rw [utfB_step h0, e]
   simp only [Bool.and_eq_true, Bool.not_eq_true', beq_eq_false_iff_ne]
   exact ⟨hbad, i1⟩
def dressV (s : Str) : Str := s.flatMap (fun c => if specB c then [92, c] else [c])
def keyT (k : Str × Str) : Str := 91 :: (k.1 ++ 61 :: (dressV k.2 ++ [93]))
def keysT (l : List (Str × Str)) : Str := l.flatMap keyT
def textP (x : Stp) : Str := x.1 ++ keysT x.2
def nameOk (s : Str) : Bool := headB startB s && s.all nameB
def valOk (v : Str) : Bool := utfB v && v.all (fun c => !ctlB c)
def keysOk : List (Str × Str) → List (Str × Str) → Bool
 | _, [] => true
 | ks, k :: r => nameOk k.1 && !lastGE ks k.1 && valOk k.2 && keysOk (ks ++ [k]) r
def mayB (x : Stp) : Bool := nameOk x.1 && keysOk [] x.2
def fitK (k : Str × Str) : Bool := decide (k.1.length ≤ 64) && decide (k.2.length ≤ 64)
def fitB (x : Stp) : Bool := decide (x.1.length ≤ 64) && x.2.all fitK
def joinT : List Stp → Str
 | [] => []
 | [x] => textP x
 | x :: r => textP x ++ 47 :: joinT r
def printS (l : List Stp) : Option Str :=
 if l.all mayB && l.all fitB && decide (l.length ≤ 64) && decide ((joinT l).length ≤ 512) then some (joinT l) else none
theorem nameOk_ne {s : Str} (h : nameOk s = true) : s ≠ [] := by
 rintro rfl; simp [nameOk, headB] at h
theorem takeWhile_all : ∀ (n r : Str), n.all nameB = true → headB nameB r = false → (n ++ r).takeWhile nameB = n ∧ (n ++ r).dropWhile nameB = r
 | [], [], _, _ => ⟨rfl, rfl⟩
 | [], c :: r, _, h => by
  simp only [headB] at h
  simp [List.takeWhile_cons, List.dropWhile_cons, h]
 | c :: n, r, ha, h => by
  simp only [List.all_cons, Bool.and_eq_true] at ha
  have ih := takeWhile_all n r ha.2 h
  simp [List.takeWhile_cons, List.dropWhile_cons, ha.1, ih]
theorem head_start {n r : Str} (h : headB startB n = true) : headB startB (n ++ r) = true := by
 cases n with
 | nil => cases h
 | cons c t => exact h
theorem nameP_text {n r : Str} (hn : nameOk n = true) (hl : n.length ≤ 64) (hr : headB nameB r = false) : nameP (n ++ r) = some (n, r) := by
 simp only [nameOk, Bool.and_eq_true] at hn
 obtain ⟨h1, h2⟩ := takeWhile_all n r hn.2 hr
 unfold nameP
 rw [h1, h2, head_start hn.1]
 simp [hl]
theorem nameP_ok {s n r : Str} (h : nameP s = some (n, r)) : nameOk n = true ∧ headB nameB r = false := by
 unfold nameP at h
 split at h
 ·next hc =>
  simp only [Bool.and_eq_true, decide_eq_true_eq] at hc
  cases h
  refine ⟨?_, ?_⟩
  ·simp only [nameOk, Bool.and_eq_true]
   refine ⟨?_, ?_⟩
   ·cases s with
    | nil => exact hc.1
    | cons c t =>
     have : nameB c = true := by have := hc.1; simp only [headB] at this; simp [nameB, this]
     rw [List.takeWhile_cons, this]
     exact hc.1
   ·exact List.all_takeWhile
  ·induction s with
   | nil => rfl
   | cons c t ih =>
    rw [List.dropWhile_cons]
    by_cases hb : nameB c = true
    ·rw [hb]
     simp only [if_true]
     clear ih hc
     induction t with
     | nil => rfl
     | cons d t ih2 =>
      rw [List.dropWhile_cons]
      by_cases hd : nameB d = true
      ·rw [hd]; exact ih2
      ·have hd2 : nameB d = false := by simpa using hd
       rw [hd2]; exact hd2
    ·have hb2 : nameB c = false := by simpa using hb
     rw [hb2]; exact hb2
 ·cases h
theorem spec_cases {c : UInt8} (h : specB c = false) : c ≠ 92 ∧ c ≠ 93 ∧ c ≠ 91 ∧ c ≠ 47 ∧ c ≠ 61 := by
 simp only [specB, Bool.or_eq_false_iff, beq_eq_false_iff_ne] at h
 exact ⟨h.2, h.1.1.1.2, h.1.1.1.1, h.1.1.2, h.1.2⟩
theorem spec_noctl {c : UInt8} (h : specB c = true) : ctlB c = false := by
 revert h; revert c; apply forall_byte; decide +kernel
theorem valueP_text : ∀ (v acc r : Str), v.all (fun c => !ctlB c) = true → (acc ++ v).length ≤ 64 → valueP false acc (dressV v ++ 93 :: r) = some (acc ++ v, r)
 | [], acc, r, _, hl => by
  simp only [List.append_nil] at hl ⊢
  show valueP false acc (93 :: r) = _
  simp only [valueP]
  rw [if_neg (by decide)]
  simp [hl]
 | c :: v, acc, r, ha, hl => by
  simp only [List.all_cons, Bool.and_eq_true, Bool.not_eq_true'] at ha
  have hl2 : ((acc ++ [c]) ++ v).length ≤ 64 := by rw [List.append_assoc]; exact hl
  have ih := valueP_text v (acc ++ [c]) r ha.2 hl2
  rw [List.append_assoc, List.singleton_append] at ih
  have hd : dressV (c :: v) = (if specB c then [92, c] else [c]) ++ dressV v := by simp [dressV]
  rw [hd]
  by_cases hs : specB c = true
  ·rw [if_pos hs]
   show valueP false acc (92 :: c :: (dressV v ++ 93 :: r)) = _
   simp only [valueP]
   rw [if_pos trivial, if_pos hs]
   exact ih
  ·have hs2 : specB c = false := by simpa using hs
   obtain ⟨e1, e2, e3, e4, e5⟩ := spec_cases hs2
   rw [if_neg hs]
   show valueP false acc (c :: (dressV v ++ 93 :: r)) = _
   simp only [valueP]
   rw [if_neg e1, if_neg e2, ha.1, beq_eq_false_iff_ne.2 e3, beq_eq_false_iff_ne.2 e4, beq_eq_false_iff_ne.2 e5]
   exact ih
theorem valueP_ok : ∀ (s : Str) (acc v r : Str), (valueP false acc s = some (v, r) → ∃ u, v = acc ++ u ∧ s = dressV u ++ 93 :: r ∧ u.all (fun c => !ctlB c) = true) ∧
  (valueP true acc s = some (v, r) → ∃ u, v = acc ++ u ∧ 92 :: s = dressV u ++ 93 :: r ∧ u.all (fun c => !ctlB c) = true)
 | [], acc, v, r => ⟨fun h => (by cases h), fun h => (by cases h)⟩
 | c :: t, acc, v, r => by
  have ih := valueP_ok t
  refine ⟨fun h => ?_, fun h => ?_⟩
  ·simp only [valueP] at h
   split at h
   ·next e =>
    subst e
    exact (ih acc v r).2 h
   ·split at h
    ·next e1 e2 =>
     subst e2
     split at h
     ·cases h
      exact ⟨[], by simp, rfl, rfl⟩
     ·cases h
    ·next e1 e2 =>
     split at h
     ·cases h
     ·next hc =>
      simp only [Bool.or_eq_true, beq_iff_eq, not_or, Bool.not_eq_true] at hc
      obtain ⟨u, h1, h2, h3⟩ := (ih (acc ++ [c]) v r).1 h
      have hs : specB c = false := by
       simp only [specB, Bool.or_eq_false_iff, beq_eq_false_iff_ne]
       exact ⟨⟨⟨⟨hc.1.1.2, e2⟩, hc.1.2⟩, hc.2⟩, e1⟩
      refine ⟨c :: u, by rw [h1]; simp, ?_, ?_⟩
      ·have hd : dressV (c :: u) = [c] ++ dressV u := by simp [dressV, hs]
       rw [hd, h2]; rfl
      ·simp only [List.all_cons, Bool.and_eq_true, Bool.not_eq_true']
       exact ⟨hc.1.1.1, h3⟩
  ·simp only [valueP] at h
   split at h
   ·next hs =>
    obtain ⟨u, h1, h2, h3⟩ := (ih (acc ++ [c]) v r).1 h
    refine ⟨c :: u, by rw [h1]; simp, ?_, ?_⟩
    ·have hd : dressV (c :: u) = [92, c] ++ dressV u := by simp [dressV, hs]
     rw [hd, h2]; rfl
    ·simp only [List.all_cons, Bool.and_eq_true, Bool.not_eq_true']
     exact ⟨spec_noctl hs, h3⟩
   ·cases h
end Go.Proofs.YtbbmdbolkicpcaaGreatDoor
namespace Go.Proofs.YtbbmdbolkicpcaaGreatDoor
open Go.Lib
theorem utfB_mid {a : Str} {c : UInt8} {b : Str} (h : c.toNat < 128) : utfB (a ++ c :: b) = (utfB a && utfB b) := by
 cases hh : utfB (a ++ c :: b) with
 | true =>
  obtain ⟨h1, h2⟩ := utfB_part a.length a c b (Nat.le_refl _) h hh
  rw [h1, h2]; rfl
 | false =>
  cases ha : utfB a with
  | false => rfl
  | true =>
   cases hb : utfB b with
   | false => rfl
   | true =>
    have := utfB_append ha (show utfB (c :: b) = true by rw [utfB_ascii h]; exact hb)
    rw [hh] at this; cases this
theorem utfB_ascii_app : ∀ (n r : Str), (∀ c ∈ n, c.toNat < 128) → utfB (n ++ r) = utfB r
 | [], r, _ => rfl
 | c :: n, r, h => by
  rw [List.cons_append, utfB_ascii (h c (List.mem_cons_self ..))]
  exact utfB_ascii_app n r (fun d hd => h d (List.mem_cons_of_mem _ hd))
theorem name_ascii {c : UInt8} (h : nameB c = true) : c.toNat < 128 := by
 revert h; revert c; apply forall_byte; decide +kernel
theorem utfB_nameOk {n r : Str} (h : nameOk n = true) : utfB (n ++ r) = utfB r := by
 simp only [nameOk, Bool.and_eq_true] at h
 exact utfB_ascii_app n r (fun c hc => name_ascii (List.all_eq_true.1 h.2 c hc))
theorem dress_append (a b : Str) : dressV (a ++ b) = dressV a ++ dressV b := by simp [dressV]
theorem dress_run : ∀ (a : Str), (∀ c ∈ a, 128 ≤ c.toNat) → dressV a = a
 | [], _ => rfl
 | c :: a, h => by
  have hc : specB c = false := (run_no (h c (List.mem_cons_self ..))).1
  have ih := dress_run a (fun d hd => h d (List.mem_cons_of_mem _ hd))
  show (if specB c then [92, c] else [c]) ++ dressV a = c :: a
  rw [hc, ih]; rfl
theorem run_split : ∀ (v : Str), ∃ a t : Str, v = a ++ t ∧ (∀ c ∈ a, 128 ≤ c.toNat) ∧ (t = [] ∨ ∃ c t', t = c :: t' ∧ c.toNat < 128)
 | [] => ⟨[], [], rfl, by simp, Or.inl rfl⟩
 | c :: v => by
  by_cases h : c.toNat < 128
  ·exact ⟨[], c :: v, rfl, by simp, Or.inr ⟨c, v, rfl, h⟩⟩
  ·obtain ⟨a, t, h1, h2, h3⟩ := run_split v
   refine ⟨c :: a, t, by rw [h1]; rfl, fun d hd => ?_, h3⟩
   rcases List.mem_cons.1 hd with rfl | hd
   ·omega
   ·exact h2 d hd
theorem utfB_dressN : ∀ (n : Nat) (v : Str), v.length ≤ n → utfB (dressV v) = utfB v
 | 0, v, h => by rw [List.eq_nil_of_length_eq_zero (Nat.le_zero.1 h)]; rfl
 | n + 1, v, h => by
  obtain ⟨a, t, rfl, ha, ht⟩ := run_split v
  rcases ht with rfl | ⟨c, t', rfl, hc⟩
  ·rw [List.append_nil, dress_run a ha]
  ·have ih := utfB_dressN n t' (by rw [List.length_append, List.length_cons] at h; omega)
   rw [dress_append, dress_run a ha, utfB_mid hc]
   show utfB (a ++ ((if specB c then [92, c] else [c]) ++ dressV t')) = _
   by_cases hs : specB c = true
   ·rw [if_pos hs]
    show utfB (a ++ 92 :: (c :: dressV t')) = _
    rw [utfB_mid (by decide), utfB_ascii hc, ih]
   ·rw [if_neg hs]
    show utfB (a ++ c :: dressV t') = _
    rw [utfB_mid hc, ih]
theorem utfB_dress (v : Str) : utfB (dressV v) = utfB v := utfB_dressN v.length v (Nat.le_refl _)
theorem keyP_text {ks : List (Str × Str)} {k : Str × Str} {r : Str} (hn : nameOk k.1 = true) (hl : lastGE ks k.1 = false) (hv : valOk k.2 = true) (hf : fitK k = true) :
  keyP ks (k.1 ++ 61 :: (dressV k.2 ++ 93 :: r)) = some (k, r) := by
 simp only [fitK, Bool.and_eq_true, decide_eq_true_eq] at hf
 simp only [valOk, Bool.and_eq_true] at hv
 unfold keyP
 rw [nameP_text hn hf.1 (show headB nameB (61 :: _) = false from rfl)]
 simp only
 rw [hl]
 simp only [Bool.false_eq_true, if_false, takeB, if_true]
 rw [valueP_text k.2 [] r hv.2 (by simpa using hf.2)]
 rfl
theorem keyT_app (k : Str × Str) (r : Str) : keyT k ++ r = 91 :: (k.1 ++ 61 :: (dressV k.2 ++ 93 :: r)) := by simp [keyT]
theorem keysP_text : ∀ (l : List (Str × Str)) (f : Nat) (ks : List (Str × Str)) (r : Str), keysOk ks l = true → l.all fitK = true → takeB 91 r = none → (keysT l ++ r).length ≤ f → keysP f ks (keysT l ++ r) = some (ks ++ l, r)
 | [], f, ks, r, _, _, hr, hf => by
  show keysP f ks r = _
  rw [List.append_nil]
  cases f with
  | zero => rfl
  | succ f => simp only [keysP, hr]
 | k :: l, f, ks, r, hk, ha, hr, hf => by
  simp only [keysOk, Bool.and_eq_true, Bool.not_eq_true'] at hk
  simp only [List.all_cons, Bool.and_eq_true] at ha
  have hs : keysT (k :: l) ++ r = 91 :: (k.1 ++ 61 :: (dressV k.2 ++ 93 :: (keysT l ++ r))) := by
   show (keyT k ++ keysT l) ++ r = _
   rw [List.append_assoc, keyT_app]
  rw [hs] at hf ⊢
  cases f with
  | zero => simp at hf
  | succ f =>
   simp only [keysP, takeB, if_true]
   rw [keyP_text hk.1.1.1 hk.1.1.2 hk.1.2 ha.1]
   simp only
   rw [keysP_text l f (ks ++ [k]) r hk.2 ha.2 hr (by simp only [List.length_cons, List.length_append] at hf ⊢; omega)]
   simp
def endB (r : Str) : Bool := !headB (fun c => nameB c || c == 91) r
theorem end_name {r : Str} (h : endB r = true) : headB nameB r = false ∧ takeB 91 r = none := by
 cases r with
 | nil => exact ⟨rfl, rfl⟩
 | cons c t =>
  simp only [endB, headB, Bool.not_eq_true', Bool.or_eq_false_iff, beq_eq_false_iff_ne] at h
  exact ⟨h.1, by simp only [takeB]; rw [if_neg h.2]⟩
theorem keys_head {l : List (Str × Str)} {r : Str} (h : endB r = true) : headB nameB (keysT l ++ r) = false := by
 cases l with
 | nil => exact (end_name h).1
 | cons k l => rfl
theorem stepP_text {x : Stp} {r : Str} (hm : mayB x = true) (hf : fitB x = true) (hr : endB r = true) : stepP (textP x ++ r) = some (x, r) := by
 simp only [mayB, Bool.and_eq_true] at hm
 simp only [fitB, Bool.and_eq_true, decide_eq_true_eq] at hf
 unfold stepP textP
 rw [List.append_assoc, nameP_text hm.1 hf.1 (keys_head hr)]
 simp only
 rw [keysP_text x.2 _ [] r hm.2 hf.2 (end_name hr).2 (Nat.le_refl _)]
 rfl
theorem join_cons (x : Stp) {r : List Stp} (h : r ≠ []) : joinT (x :: r) = textP x ++ 47 :: joinT r := by
 cases r with
 | nil => exact absurd rfl h
 | cons y r => rfl
theorem stepsP_text : ∀ (m : List Stp) (f : Nat) (l : List Stp), m ≠ [] → m.all mayB = true → m.all fitB = true → m.length ≤ f → stepsP f l (joinT m) = some (l ++ m)
 | [], f, l, h, _, _, _ => absurd rfl h
 | x :: m, 0, l, _, _, _, hf => by simp at hf
 | x :: m, f + 1, l, _, hm, hfi, hf => by
  simp only [List.all_cons, Bool.and_eq_true] at hm hfi
  by_cases h0 : m = []
  ·subst h0
   have := stepP_text (r := []) hm.1 hfi.1 rfl
   rw [List.append_nil] at this
   show stepsP (f + 1) l (textP x) = _
   simp only [stepsP, this, if_true]
  ·rw [join_cons x h0]
   simp only [stepsP]
   rw [stepP_text hm.1 hfi.1 (by rfl)]
   simp only
   rw [if_neg (by simp)]
   simp only [takeB, if_true]
   rw [stepsP_text m f (l ++ [x]) h0 hm.2 hfi.2 (by simp only [List.length_cons] at hf; omega)]
   simp
theorem utfB_keys : ∀ (l : List (Str × Str)) (ks : List (Str × Str)), keysOk ks l = true → utfB (keysT l) = true
 | [], ks, _ => rfl
 | k :: l, ks, h => by
  simp only [keysOk, Bool.and_eq_true, valOk] at h
  show utfB (keyT k ++ keysT l) = true
  rw [keyT_app, utfB_ascii (by decide), utfB_nameOk h.1.1.1, utfB_ascii (by decide), utfB_mid (by decide), utfB_dress, h.1.2.1, utfB_keys l _ h.2]
  rfl
theorem utfB_text {x : Stp} (h : mayB x = true) : utfB (textP x) = true := by
 simp only [mayB, Bool.and_eq_true] at h
 unfold textP
 rw [utfB_nameOk h.1]; exact utfB_keys _ _ h.2
theorem utfB_join : ∀ (m : List Stp), m.all mayB = true → utfB (joinT m) = true
 | [], _ => rfl
 | x :: m, h => by
  simp only [List.all_cons, Bool.and_eq_true] at h
  by_cases h0 : m = []
  ·subst h0; exact utfB_text h.1
  ·rw [join_cons x h0, utfB_mid (by decide), utfB_text h.1, utfB_join m h.2]; rfl
theorem text_ne {x : Stp} (h : mayB x = true) : textP x ≠ [] := by
 simp only [mayB, Bool.and_eq_true] at h
 intro e
 unfold textP at e
 exact nameOk_ne h.1 (List.append_eq_nil_iff.1 e).1
theorem join_ne {m : List Stp} (h : m.all mayB = true) (h0 : m ≠ []) : joinT m ≠ [] := by
 cases m with
 | nil => exact absurd rfl h0
 | cons x m =>
  simp only [List.all_cons, Bool.and_eq_true] at h
  by_cases h1 : m = []
  ·subst h1; exact text_ne h.1
  ·rw [join_cons x h1]; simp
theorem print_path {m : List Stp} {s : Str} (h : printS m = some s) : pathP s = some m := by
 unfold printS at h
 split at h
 ·next hc =>
  simp only [Bool.and_eq_true, decide_eq_true_eq] at hc
  cases h
  unfold pathP
  rw [if_neg (by omega), utfB_join m hc.1.1.1]
  simp only [Bool.true_eq_false, if_false]
  by_cases h0 : m = []
  ·subst h0; rfl
  ·rw [if_neg (join_ne hc.1.1.1 h0), stepsP_text m 64 [] h0 hc.1.1.1 hc.1.1.2 hc.1.2]; rfl
 ·cases h
theorem keyP_ok {ks : List (Str × Str)} {s r : Str} {k : Str × Str} (h : keyP ks s = some (k, r)) (hu : utfB s = true) :
  s = k.1 ++ 61 :: (dressV k.2 ++ 93 :: r) ∧ nameOk k.1 = true ∧ lastGE ks k.1 = false ∧ valOk k.2 = true ∧ fitK k = true ∧ utfB r = true := by
 have hlen := keyP_len h
 unfold keyP at h
 split at h
 ·cases h
 ·next n r1 hn =>
  split at h
  ·cases h
  ·next hl =>
   split at h
   ·cases h
   ·next r2 h2 =>
    split at h
    ·cases h
    ·next v r3 hv =>
     cases h
     obtain ⟨e1, _, _⟩ := nameP_split hn
     obtain ⟨n1, _⟩ := nameP_ok hn
     have e2 := takeB_len h2
     obtain ⟨u, e3, e4, e5⟩ := (valueP_ok _ _ _ _).1 hv
     rw [List.nil_append] at e3
     subst e3 e4 e2 e1
     rw [utfB_nameOk n1, utfB_ascii (by decide), utfB_mid (by decide), utfB_dress] at hu
     simp only [Bool.and_eq_true] at hu
     refine ⟨rfl, n1, by simpa using hl, ?_, ?_, hu.2⟩
     ·simp only [valOk, Bool.and_eq_true]; exact ⟨hu.1, e5⟩
     ·simp only [fitK, Bool.and_eq_true, decide_eq_true_eq]; exact hlen.2
theorem keysP_ok : ∀ (f : Nat) (ks : List (Str × Str)) (s : Str) {l : List (Str × Str)} {r : Str}, keysP f ks s = some (l, r) → utfB s = true →
  ∃ m, l = ks ++ m ∧ s = keysT m ++ r ∧ keysOk ks m = true ∧ m.all fitK = true ∧ utfB r = true
 | 0, ks, s, l, r, h, hu => by cases h; exact ⟨[], by simp, rfl, rfl, rfl, hu⟩
 | f + 1, ks, s, l, r, h, hu => by
  simp only [keysP] at h
  split at h
  ·cases h; exact ⟨[], by simp, rfl, rfl, rfl, hu⟩
  ·next r1 h1 =>
   split at h
   ·cases h
   ·next p r3 h3 =>
    have e1 := takeB_len h1
    subst e1
    rw [utfB_ascii (by decide)] at hu
    obtain ⟨k1, k2, k3, k4, k5, k6⟩ := keyP_ok h3 hu
    obtain ⟨m, m1, m2, m3, m4, m5⟩ := keysP_ok f _ _ h k6
    refine ⟨p :: m, by rw [m1]; simp, ?_, ?_, ?_, m5⟩
    ·show _ = (keyT p ++ keysT m) ++ r
     rw [List.append_assoc, keyT_app, ← m2, k1]
    ·simp only [keysOk, Bool.and_eq_true, Bool.not_eq_true']; exact ⟨⟨⟨k2, k3⟩, k4⟩, m3⟩
    ·simp only [List.all_cons, Bool.and_eq_true]; exact ⟨k5, m4⟩
theorem stepP_ok {s r : Str} {x : Stp} (h : stepP s = some (x, r)) (hu : utfB s = true) : s = textP x ++ r ∧ mayB x = true ∧ fitB x = true ∧ utfB r = true := by
 unfold stepP at h
 split at h
 ·cases h
 ·next n r1 hn =>
  split at h
  ·cases h
  ·next ks r' hk =>
   cases h
   obtain ⟨e1, _, e3⟩ := nameP_split hn
   obtain ⟨n1, _⟩ := nameP_ok hn
   subst e1
   rw [utfB_nameOk n1] at hu
   obtain ⟨m, m1, m2, m3, m4, m5⟩ := keysP_ok _ _ _ hk hu
   rw [List.nil_append] at m1
   subst m1
   refine ⟨?_, ?_, ?_, m5⟩
   ·unfold textP
    rw [List.append_assoc, ← m2]
   ·simp only [mayB, Bool.and_eq_true]; exact ⟨n1, m3⟩
   ·simp only [fitB, Bool.and_eq_true, decide_eq_true_eq]; exact ⟨e3, m4⟩
theorem stepsP_ok : ∀ (f : Nat) (l : List Stp) (s : Str) {m : List Stp}, stepsP f l s = some m → utfB s = true →
  ∃ q, m = l ++ q ∧ q ≠ [] ∧ s = joinT q ∧ q.all mayB = true ∧ q.all fitB = true ∧ q.length ≤ f
 | 0, l, s, m, h, _ => by cases h
 | f + 1, l, s, m, h, hu => by
  simp only [stepsP] at h
  split at h
  ·cases h
  ·next x r hx =>
   obtain ⟨s1, s2, s3, s4⟩ := stepP_ok hx hu
   split at h
   ·next hr =>
    cases h
    subst hr
    rw [List.append_nil] at s1
    exact ⟨[x], rfl, by simp, s1, by simp [s2], by simp [s3], by simp⟩
   ·split at h
    ·cases h
    ·next r' hr' =>
     have e := takeB_len hr'
     subst e
     rw [utfB_ascii (by decide)] at s4
     obtain ⟨q, q1, q2, q3, q4, q5, q6⟩ := stepsP_ok f _ _ h s4
     refine ⟨x :: q, by rw [q1]; simp, by simp, ?_, by simp [s2, q4], by simp [s3, q5], by simp only [List.length_cons]; omega⟩
     rw [join_cons x q2, ← q3, s1]
theorem path_print {s : Str} {l : List Stp} (h : pathP s = some l) : printS l = some s := by
 unfold pathP at h
 split at h
 ·cases h
 ·next h1 =>
  split at h
  ·cases h
  ·next h2 =>
   have hu : utfB s = true := by simpa using h2
   split at h
   ·next h3 => cases h; subst h3; rfl
   ·obtain ⟨q, q1, q2, q3, q4, q5, q6⟩ := stepsP_ok _ _ _ h hu
    rw [List.nil_append] at q1
    subst q1
    unfold printS
    rw [q4, q5, ← q3]
    simp [q6]; omega
theorem path_all {s : Str} {l : List Stp} (h : pathP s = some l) : l.all mayB = true ∧ l.all fitB = true ∧ l.length ≤ 64 ∧ (joinT l).length ≤ 512 ∧ joinT l = s := by
 have := path_print h
 unfold printS at this
 split at this
 ·next hc =>
  simp only [Bool.and_eq_true, decide_eq_true_eq] at hc
  exact ⟨hc.1.1.1, hc.1.1.2, hc.1.2, hc.2, Option.some.inj this⟩
 ·cases this
def restF (a b : Str) : Option Str :=
 match pathP a, pathP b with
 | some l, some m => if m.length ≤ l.length ∧ l.take m.length = m then some (joinT (l.drop m.length)) else none
 | _, _ => none
def inB (a b : Str) : Bool := (restF a b).isSome
theorem join_drop_le : ∀ (l : List Stp) (k : Nat), (joinT (l.drop k)).length ≤ (joinT l).length
 | [], k => by rw [List.drop_nil]; exact Nat.le_refl _
 | x :: l, 0 => Nat.le_refl _
 | x :: l, k + 1 => by
  rw [List.drop_succ_cons]
  refine Nat.le_trans (join_drop_le l k) ?_
  by_cases h0 : l = []
  ·subst h0; exact Nat.zero_le _
  ·rw [join_cons x h0]; simp only [List.length_append, List.length_cons]; omega
theorem all_drop {p : Stp → Bool} {l : List Stp} (h : l.all p = true) (k : Nat) : (l.drop k).all p = true :=
 List.all_eq_true.2 fun x hx => List.all_eq_true.1 h x (List.mem_of_mem_drop hx)
theorem print_drop {s : Str} {l : List Stp} (h : pathP s = some l) (k : Nat) : printS (l.drop k) = some (joinT (l.drop k)) := by
 obtain ⟨h1, h2, h3, h4, h5⟩ := path_all h
 unfold printS
 rw [all_drop h1 k, all_drop h2 k]
 have := join_drop_le l k
 rw [if_pos]
 simp only [Bool.and_self, Bool.true_and, Bool.and_eq_true, decide_eq_true_eq, List.length_drop]
 omega
end Go.Proofs.YtbbmdbolkicpcaaGreatDoor
