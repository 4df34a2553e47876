/- Several texts in one: TbSort, TbAlias, TbTexts, TbCut, TbCutW. (joined by wip/merge.py) -/
import Derived.Test.YtjlfchnnhglbjaaGreatTG
import Derived.Shelf.SlSortCmp.NoneTotal
import Derived.BigQuiet
import Derived.IntWalk
import Derived.WalkSmall
import Derived.Laws.AppendOwnNone

/- slices.SortFunc at the closure of table.Aliases. (as XChSort) -/
set_option linter.unusedVariables false
set_option linter.unusedSimpArgs false
namespace Go.Proofs.YtjlfchnnhglbjaaGreat
open Go.RowKit Go.Lib Go.Sort

/-- the closure of slices.SortFunc: which key comes first? -/
theorem cmp_closure12 (x y : Str × Str) (W : World) : Calls Tryz.prog 39 #[.agg #[S x.1, S x.2], .agg #[S y.1, S y.2]] W fun e w' => e = .returned (.int .i64 (Lib.compareBytes x.1 y.1)) ∧ ∃ q os', w' = grow (W.drewN q) os' := by
  have hcon := fun W' => Tryz.strings_Compare ⟨x.1.toArray⟩ ⟨y.1.toArray⟩ W'
  change ∀ W', Calls _ _ _ _ fun e w' => e = .returned (.int .i64 (Lib.compareBytes x.1 y.1)) ∧ _ at hcon
  generalize Lib.compareBytes x.1 y.1 = r at hcon ⊢
  unfold S
  go_enter Tryz.func39, Tryz.ntmps39
  go_wp2_with (go_at_call 40; refine (hcon _).mono ?_; rintro e w' ⟨rfl, rfl⟩)
  go_ret
  exact ⟨rfl, 0, _, by rw [alloc_eq_grow, alloc_eq_grow, grow_grow]; rfl⟩

theorem cmpLays12 (blk off size : Nat) (w : World) : CmpLays Tryz.prog 39 #[] enc2 2 cmpK blk off size w :=
  fun _ _ _ _ x y => cmp_closure12 x y _

theorem sortPairs12 (w : World) (B : Nat) (v : Value) (l : List (Str × Str)) (h : OwnP w B v l) (hl : l.length ≤ 1000) :
    Calls Tryz.prog 38 #[v, .func (.func 39) #[] #[]] w fun e w' => e = .returned (.tuple #[]) ∧
      (∃ l' : List (Str × Str), l'.Perm l ∧ l'.Pairwise (fun a b => ¬ b.1 < a.1) ∧ OwnP w' B v l') ∧ w.grownBy w' v.ownBlock := by
  have eg : ∀ args w, (callFunc 39 args).run Tryz.prog w = .ok (.enter 39 args) w := enters_of Tryz.func39 (by kernel_rfl) rfl
  rcases h.shape with ⟨rfl, rfl⟩ | ⟨g, cap, cur, rfl, hB, hg, hn, hm, hs, ht⟩
  · have hc := AnyF.slices_SortFunc_none Tryz.sfPair none 0 (.func (.func 39) #[] #[]) w
    change Calls Tryz.prog 38 _ _ _ at hc
    refine hc.mono ?_
    rintro e w' ⟨rfl, rfl⟩
    exact ⟨rfl, ⟨[], List.Perm.refl _, List.Pairwise.nil, h⟩, World.grownBy.refl _ _⟩
  · have hc := AnyQ.slices_SortFunc Tryz.sfPair 2 Tryz.isAgg48 Tryz.sizeOf48 enc2 (fun _ => rfl) (fun x v hv => by simp [enc2] at hv; rcases hv with rfl | rfl <;> rfl) cmpK swo 39 #[] g 0 cap l.toArray w eg (cmpLays12 g 0 _ w) (holdsK_of hg ht) (lt_of_block hg) (by simp; omega)
    change Calls Tryz.prog 38 _ _ _ at hc
    refine hc.mono fun e w' hh => ⟨hh.1, ?_⟩
    obtain ⟨d', n, os, hp, hsd, rfl⟩ := hh.2
    have hsz : d'.size = l.length := by simpa using hp.1
    have hperm : d'.toList.Perm l := by
      have := hp.2.2
      simp only [List.size_toArray] at this
      rw [← hsz] at this
      have ht' : List.take l.length d'.toList = d'.toList := List.take_of_length_le (by simp [hsz])
      simpa [hsz, ht'] using this
    refine ⟨⟨d'.toList, hperm, ?_, ?_⟩, ?_⟩
    · rw [List.pairwise_iff_getElem]
      intro i j hi hj hij
      have := hsd i j (Nat.zero_le _) hij (by simp at hj ⊢; omega)
      rw [getElem!_pos _ i (by simpa using hi), getElem!_pos _ j (by simpa using hj)] at this
      intro hlt
      have h2 : ltOf cmpK d'[j] d'[i] = true := by
        show decide (Lib.compareBytes _ _ < 0) = true
        exact decide_eq_true ((cb_lt _ _).2 (by simpa using hlt))
      rw [this] at h2; cases h2
    · have hlen : d'.toList.length = l.length := hperm.length_eq
      refine ⟨flat2_len _, Or.inr ⟨g, cap, putCells id 0 (flatK enc2 2 d') cur, by rw [hlen], hB, ?_, by omega, hm, by simpa [putCells] using hs, ?_⟩⟩
      · unfold sortWorldK putRowK
        rw [heap_grow_old _ _ (by simpa using lt_of_block hg)]
        simp [putRow, mapBlock, Sort.ahead, Array.getElem?_modify, hg, onCells]
      · have := take_putCells2 cur d'.toList (by rw [hlen, hs]; omega)
        simpa using this
    · refine ⟨rfl, rfl, rfl, by simp [sortWorldK, putRowK], fun k hk hne => ?_⟩
      unfold sortWorldK putRowK
      rw [heap_grow_old _ _ (by simpa using hk)]
      have : g ≠ k := fun e => hne (by rw [e]; rfl)
      simp [putRow, mapBlock, Sort.ahead, Array.getElem?_modify, this]
end Go.Proofs.YtjlfchnnhglbjaaGreat

/- table.Aliases. -/
set_option linter.unusedVariables false
set_option linter.unusedSimpArgs false
namespace Go.Proofs.YtjlfchnnhglbjaaGreat
open Go.RowKit Go.Lib Go.Sort Go.Maps Go.WideMaps

theorem nodup_len {α : Type} [BEq α] [LawfulBEq α] : ∀ (l R : List α), l.Nodup → (∀ x ∈ l, x ∈ R) → l.length ≤ R.length
  | [], R, _, _ => Nat.zero_le _
  | x :: l, R, hn, hs => by
    rw [List.nodup_cons] at hn
    have hx := hs x List.mem_cons_self
    have h2 := nodup_len l (R.erase x) hn.2 fun y hy => (List.mem_erase_of_ne (fun e => hn.1 (by rw [← e]; exact hy))).2 (hs y (List.mem_cons_of_mem _ hy))
    rw [List.length_erase_of_mem hx] at h2
    have : 0 < R.length := List.length_pos_of_mem hx
    rw [List.length_cons]; omega
/-- the step of a range over a map of what was said -/
theorem wpList_next_sd {w : World} {ops : Array Oper} {rest : List Oper} {o : Oper} {a : Act} {Q : Exit → Act → World → Prop} (hg : o.guard = none) (it : Operand) (hop : o.op = Op.next it false)
    (b r n : Nat) (m : DataW Unit) (left : Lit → Bool) (cnt : Nat) (hit : a.eval it = .pointer (some ⟨r, 0, none⟩)) (h : w.ranges Tryz.prog 9 rdSd b r n m left cnt)
    (hDone : cnt = 0 → (∀ kl, left kl = false) → wpList Tryz.prog ops Q rest (a.put o.dst (.tuple #[.bool false])) w)
    (hMore : ∀ (x : Str) (ct : Str) (cf ca : Int) (w' : World) (cnt' : Nat), x.length ≤ maxLen → left (.string x) = true → (∀ zd, m.atKey (.string x) zd = sdD (ct, cf, ca)) → w'.ranges Tryz.prog 9 rdSd b r n m (fun z => left z && !z.sameKey (.string x)) cnt' → cnt' < cnt →
      w.grownBy w' (some r) → w'.heap.size = w.heap.size → (Instr.entry (.pointer (some ⟨r, 0, none⟩))).run Tryz.prog w' = .ok (.tuple #[.string ⟨x.toArray⟩, .agg #[.string ⟨ct.toArray⟩, .int .i64 cf, .int .i64 ca]]) w' → wpList Tryz.prog ops Q rest (a.put o.dst (.tuple #[.bool true, .string ⟨x.toArray⟩, .agg #[.string ⟨ct.toArray⟩, .int .i64 cf, .int .i64 ca]])) w') :
    wpList Tryz.prog ops Q (o :: rest) a w :=
  wpList_next_ranges w hg it hop 9 lawS rdSd (fun s : Str => Value.string ⟨s.toArray⟩) sdV
    (fun key kl hkey => by obtain ⟨s, rfl, _⟩ := string_of_keyOf Tryz.underlying9 hkey; exact ⟨s.data.toList, rfl⟩)
    (fun v y hv => by obtain ⟨c, rfl, _⟩ := elSd.inv hv; exact ⟨c, rfl⟩)
    b r n m left cnt hit h hDone (fun x c kl y w' cnt' hkey hlk hv hat hrg hlt hgr hsz hen => by
      obtain ⟨s, e1, e2, hs⟩ := string_of_keyOf Tryz.underlying9 hkey
      cases e1
      subst e2
      obtain ⟨c', ec, rfl⟩ := elSd.inv (show elSd.rd (elSd.v c) = some y from hv)
      have : c = c' := elSd.inj (by
        have h1 := elSd.ok c
        have h2 := elSd.ok c'
        rw [show elSd.v c = elSd.v c' from ec, h2] at h1
        exact ((Prod.mk.inj (Option.some.inj h1)).1).symm)
      subst this
      obtain ⟨ct, cf, ca⟩ := c
      exact hMore x ct cf ca w' cnt' (by have := hs; rw [Lib.size_eq] at this; exact this) hlk hat hrg hlt hgr hsz hen)

/-- the aliases, in order -/
def alP (t : Tb) : List (Str × Str) := t.als.map fun r => (r.path, r.text)
def keyLe (a b : Str × Str) : Bool := decide (a.1 ≤ b.1)
def aliasesF (t : Tb) : List (Str × Str) := (alP t).mergeSort keyLe
theorem sortedK_one : ∀ {l m : List (Str × Str)}, l.Perm m → (l.map (·.1)).Nodup → l.Pairwise (fun a b => ¬ b.1 < a.1) → m.Pairwise (fun a b => ¬ b.1 < a.1) → l = m
  | l, m, hp, hn, h1, h2 => by
    refine List.Perm.eq_of_pairwise (le := fun a b => ¬ b.1 < a.1) (fun a b ha hb hab hba => ?_) h1 h2 hp
    have e : a.1 = b.1 := List.le_antisymm (by simpa using hab) (by simpa using hba)
    have hb' : b ∈ l := hp.mem_iff.2 hb
    obtain ⟨i, hi, rfl⟩ := List.getElem_of_mem ha
    obtain ⟨j, hj, rfl⟩ := List.getElem_of_mem hb'
    by_cases hij : i = j
    · subst hij; rfl
    · exfalso
      have hk := fun i j hi hj hij => (List.pairwise_iff_getElem.1 hn) i j hi hj hij
      rcases Nat.lt_or_gt_of_ne hij with hl | hl
      · exact hk i j (by simpa using hi) (by simpa using hj) hl (by simpa using e)
      · exact hk j i (by simpa using hj) (by simpa using hi) hl (by simpa using e.symm)
theorem aliasesF_sorted (t : Tb) : (aliasesF t).Pairwise (fun a b => ¬ b.1 < a.1) := by
  have := List.pairwise_mergeSort (le := keyLe) (fun a b c h1 h2 => by simp only [keyLe, decide_eq_true_eq] at *; exact List.le_trans h1 h2) (fun a b => by simp only [keyLe, Bool.or_eq_true, decide_eq_true_eq]; exact List.le_total a.1 b.1) (alP t)
  exact this.imp fun {a b} h => by simpa [keyLe] using h
theorem aliasesF_perm (t : Tb) : (aliasesF t).Perm (alP t) := List.mergeSort_perm _ _
theorem alP_keys (t : Tb) : (alP t).map (·.1) = t.als.map (·.path) := by unfold alP; rw [List.map_map]; rfl
theorem aliases_one {t : Tb} (ok : TbOk t) {l : List (Str × Str)} (hp : l.Perm (alP t)) (hs : l.Pairwise (fun a b => ¬ b.1 < a.1)) : l = aliasesF t :=
  sortedK_one (hp.trans (aliasesF_perm t).symm) (by rw [(hp.map _).nodup_iff, alP_keys]; exact ok.als) hs (aliasesF_sorted t)
theorem alP_len (t : Tb) : (alP t).length = t.als.length := by unfold alP; rw [List.length_map]

/-- what the loop has gathered -/
structure AlsSt (w : World) (t : Tb) (ba n : Nat) (m : DataW Unit) (g : Nat) (vl : Value) (W : World) (left : Lit → Bool) (cnt : Nat) (l : List (Str × Str)) : Prop where
  rng : W.ranges Tryz.prog 9 rdSd ba w.heap.size n m left cnt
  gas : cnt ≤ g
  own : OwnP W (w.heap.size + 1) vl l
  nd : l.Nodup
  mem : ∀ p, p ∈ l ↔ p ∈ alP t ∧ left (.string p.1) = false
  bel : Below w.heap.size w W
theorem AlsSt.len {w W : World} {t : Tb} {ba n g cnt : Nat} {m : DataW Unit} {vl : Value} {left : Lit → Bool} {l : List (Str × Str)} (h : AlsSt w t ba n m g vl W left cnt l) : l.length ≤ (alP t).length :=
  nodup_len l (alP t) h.nd fun x hx => ((h.mem x).1 hx).1
theorem als_mem {t : Tb} (ok : TbOk t) {l : List (Str × Str)} {left : Lit → Bool} {x ct : Str} {cf ca : Int} (hm : ∀ p, p ∈ l ↔ p ∈ alP t ∧ left (.string p.1) = false) (hl : left (.string x) = true) (hlk : lookE (sdL t.als) x = some (ct, cf, ca)) :
    (x, ct) ∉ l ∧ ∀ p, p ∈ l ++ [(x, ct)] ↔ p ∈ alP t ∧ (left (.string p.1) && !(Lit.string p.1).sameKey (.string x)) = false := by
  refine ⟨fun h => (by have := ((hm _).1 h).2; rw [hl] at this; cases this), fun p => ?_⟩
  have hs : (Lit.string p.1).sameKey (.string x) = decide (p.1 = x) := by
    by_cases e : p.1 = x
    · rw [e]; simp [Lit.sameKey]
    · rw [sameKey_ne (fun h => e (by simpa using h))]; simp [e]
  have hin : (x, ct) ∈ alP t := by
    have := lookE_in hlk
    unfold sdL at this
    obtain ⟨r, hr, e⟩ := List.mem_map.1 this
    simp only [sdOf, Prod.mk.injEq] at e
    exact List.mem_map.2 ⟨r, hr, by rw [e.1, e.2.1]⟩
  have hone : ∀ q ∈ alP t, q.1 = x → q = (x, ct) := by
    intro q hq e
    have hn : ((alP t).map (·.1)).Nodup := by rw [alP_keys]; exact ok.als
    have h1 := lookE_is hn hq
    have h2 := lookE_is hn hin
    rw [e] at h1
    simp only at h2
    rw [h1] at h2
    obtain ⟨q1, q2⟩ := q
    simp only at e h2
    rw [e, Option.some.inj h2]
  rw [List.mem_append, hm, List.mem_singleton, hs]
  constructor
  · rintro (⟨h1, h2⟩ | rfl)
    · exact ⟨h1, by rw [h2]; rfl⟩
    · exact ⟨hin, by simp⟩
  · rintro ⟨h1, h2⟩
    by_cases e : p.1 = x
    · right; exact hone p h1 e
    · left
      refine ⟨h1, ?_⟩
      simpa [e] using h2

/-- what Aliases hands back -/
def OutP (w : World) (l : List (Str × Str)) (e : Ending) (w' : World) : Prop := ∃ v, e = .returned v ∧ OwnP w' w.heap.size v l ∧ Below w.heap.size w w'
set_option maxRecDepth 100000 in
set_option maxHeartbeats 16000000 in
theorem aliases_any {w : World} {B0 Bt bv ba bn bp N : Nat} {V : List (Str × Nat)} {t : Tb} (h : TbIn B0 w Bt bv ba bn bp N V t) (ok : TbOk t) (hsz : t.als.length ≤ 1000) :
    Calls Tryz.prog 17 #[.pointer (some ⟨Bt, 0, none⟩)] w fun e w' => OutP w (aliasesF t) e w' := by
  obtain ⟨t0, t1, t2, t3, tl⟩ := h.box
  obtain ⟨m, hown, hat⟩ := h.at_.als
  have HOK := hid ok
  have HSZ := hid (show (alP t).length ≤ 1000 by rw [alP_len]; exact hsz)
  have HAT := hid hat
  have HOWN := hid hown
  have hbm := hown.lt
  have HND := hid (show (alP t).Nodup from by
    have := ok.als
    rw [← alP_keys, List.Nodup, List.pairwise_map] at this
    exact this.imp fun h e => h (by rw [e]))
  clear ok hsz hat hown
  go_enter Tryz.func17, Tryz.ntmps17
  go_wp2_with (at_range; refine wpList_range_own _ rfl _ 70 rfl 9 84 lawS Tryz.underlying70 _ ba N m rfl HOWN.out ?_; intro w1 hrg0 hg0 hs0)
  go_frame
  have ST0 := hid (show AlsSt w t ba N m (Maps.size m) (.slice none 0 0) w1 (Maps.has m) (Maps.size m) [] from ⟨hrg0, Nat.le_refl _, World.ownsRow_nil _ _ _ _, List.nodup_nil, (fun p => ⟨fun h => (by cases h), fun ⟨h1, h2⟩ => by
      obtain ⟨r, hr, rfl⟩ := List.mem_map.1 h1
      have h3 : (lookE (sdL t.als) r.path).isSome = true := lookE_mem (List.mem_map.2 ⟨(r.path, sdOf r), List.mem_map.2 ⟨r, hr, rfl⟩, rfl⟩)
      obtain ⟨y, hy⟩ := Option.isSome_iff_exists.1 h3
      rw [has_true_of_atKey (y := sdD y) (fun z => by rw [HAT.out, hy]; rfl)] at h2
      cases h2⟩), (Below.refl _ _).grown hg0 (Nat.le_refl _) (fun j hj => by cases hj)⟩)
  clear hrg0 hg0 hs0 t0 t1 t2 t3 tl h
  obtain ⟨NN, hN⟩ : ∃ NN, NN = Maps.size m := ⟨_, rfl⟩
  have HN := hid hN
  clear hN
  go_loopg [3] NN (fun g vl W => ∃ left cnt l, AlsSt w t ba N m g vl W left cnt l)
  case atStart => exact ⟨_, _, _, by rw [HN.out]; exact ST0.out⟩
  case round =>
    obtain ⟨left, cnt, l, st⟩ := hrel
    rename World => w2
    have ST := hid st
    clear st ST0
    go_wp2_with (at_next; refine wpList_next_sd rfl _ rfl ba w.heap.size N m left cnt rfl ST.out.rng ?_ ?_)
    · intro _ hl0
      have HPM := hid (show l.Perm (alP t) from (List.perm_ext_iff_of_nodup ST.out.nd HND.out).2 fun p => by rw [ST.out.mem]; simp [hl0])
      have HOW := hid ST.out.own
      have HBL := hid ST.out.bel
      have hll : l.length ≤ 1000 := by have := ST.out.len; have := HSZ.out; omega
      have HLL := hid hll
      clear hl0 hll ST
      go_wp2_with fail
      refine (sortPairs12 w2 _ _ l HOW.out HLL.out).mono ?_
      rintro e w3 ⟨rfl, ⟨l2, hp, hs, own2⟩, hgr⟩
      have hl2 := aliases_one HOK.out (hp.trans HPM.out) hs
      subst hl2
      have HO2 := hid own2
      have HB3 := hid (HBL.out.grown hgr HBL.out.size (fun j hj => by have := (World.ownsRow.lt HOW.out _ hj).1; omega))
      clear hp hs own2 hgr
      go_wp2_with fail
      go_ret
      exact ⟨_, rfl, ownP_monoS HO2.out (by omega), HB3.out⟩
    · intro x ct cf ca w3 cnt1 hxl hlx hatx hrg1 hlt1 hg1 hs1 hen
      have hlk : lookE (sdL t.als) x = some (ct, cf, ca) := by
        have h1 := hatx .nil
        rw [HAT.out] at h1
        cases hl : lookE (sdL t.als) x with
        | some y => rw [hl] at h1; rw [elSd.inj (show elSd.d y = elSd.d (ct, cf, ca) from h1)]
        | none => rw [hl] at h1; cases h1
      have HMM := hid (als_mem HOK.out ST.out.mem hlx hlk)
      have hown3 : OwnP w3 (w.heap.size + 1) _ l := World.ownsRow.kept ST.out.own hg1 (Or.inr fun e => by have := (World.ownsRow.lt ST.out.own _ e).1; omega)
      have HO3 := hid hown3
      have HB3 := hid (ST.out.bel.grown hg1 ST.out.bel.size (fun j hj => by cases hj; exact Nat.le_refl _))
      have HRG := hid hrg1
      have hll : l.length ≤ 1000000 := by have := ST.out.len; have := HSZ.out; omega
      have HLL := hid hll
      have HS3 := hid (show w.heap.size + 1 ≤ w3.heap.size by have := hrg1.lt; omega)
      have HC := hid hlt1
      clear hlk hown3 hll hatx hrg1 hlt1 hg1 hs1 hlx
      go_upto_region 7 with fail
      have HA := hid (show Below w3.heap.size w3 (w3.alloc (.cells #[.string ⟨ct.toArray⟩, .int .i64 cf, .int .i64 ca] 84)) from (Below.refl _ _).alloc (Nat.le_refl _) _)
      have GA := hid (World.grownBy_alloc w3 (.cells #[.string ⟨ct.toArray⟩, .int .i64 cf, .int .i64 ca] 84) none)
      have Y4 := hid (heap_alloc_new w3 (.cells #[.string ⟨ct.toArray⟩, .int .i64 cf, .int .i64 ca] 84))
      generalize w3.alloc (.cells #[.string ⟨ct.toArray⟩, .int .i64 cf, .int .i64 ca] 84) = w4 at *
      obtain ⟨y0, y1, y2, yl⟩ := box3_cells Y4.out
      have HO4 := hid (show OwnP w4 (w.heap.size + 1) _ l from own_below HO3.out HA.out)
      have HR4 := hid (HRG.out.kept GA.out (fun e => by cases e) (fun e => by cases e))
      have HB4 := hid (HB3.out.then HA.out)
      have HS4 := hid (Nat.le_trans HS3.out HA.out.size)
      clear HO3 HRG HB3 HA GA hen
      go_wp2_with (at_builtin; refine wpList_pushP rfl (.tmp 18) (.tmp 23) rfl (w.heap.size + 1) _ l (x, ct) rfl HO4.out rfl HLL.out HS4.out ?_; intro v5 w5 own5 gr5 mv5)
      have HO5 := hid own5
      have HR5 := hid (HR4.out.kept gr5 (fun e => by have h1 := (World.ownsRow.lt HO4.out _ e.symm).1; omega) (fun e => by have h1 := (World.ownsRow.lt HO4.out _ e.symm).1; omega))
      have HB5 := hid (HB4.out.grown gr5 HB4.out.size (fun j hj => by have := (World.ownsRow.lt HO4.out _ hj).1; omega))
      clear own5 gr5 mv5
      go_wp2_with fail
      go_roundg (gk - 1)
      case measure => have := ST.out.gas; have := HC.out; omega
      case rel => exact ⟨_, cnt1, l ++ [(x, ct)], HR5.out, by have := ST.out.gas; have := HC.out; omega, HO5.out, by
        rw [List.nodup_append]
        exact ⟨ST.out.nd, by simp, fun p hp q hq => by rw [List.mem_singleton.1 hq]; exact fun e => HMM.out.1 (e ▸ hp)⟩, HMM.out.2, HB5.out⟩
end Go.Proofs.YtjlfchnnhglbjaaGreat

/- law12.texts, where the two lists are the same. -/
set_option linter.unusedVariables false
set_option linter.unusedSimpArgs false
namespace Go.Proofs.YtjlfchnnhglbjaaGreat
open Go.RowKit Go.Lib Go.Sort

set_option maxRecDepth 100000 in
set_option maxHeartbeats 8000000 in
theorem texts_any (w : World) (va vb : Value) (l : List Str) (ha : RdS w va l) (hb : RdS w vb l) :
    Calls Tryz.prog 19 #[va, vb] w fun e w' => e = .returned (.bool true) ∧ Below w.heap.size w w' := by
  obtain ⟨av, cv, rfl, hav, hsa⟩ := ha
  obtain ⟨bv, dv, rfl, hbv, hsb⟩ := hb
  have HSA := hid hsa
  have HSB := hid hsb
  clear hsa hsb
  go_enter Tryz.func19, Tryz.ntmps19
  go_wp2_with fail
  go_loopg [13] l.length (fun g vi W => ∃ n : Nat, n ≤ l.length ∧ l.length ≤ n + g ∧ vi = .int .i64 n ∧ ∃ k : Nat, W = w.drewN k)
  case atStart => exact ⟨0, Nat.zero_le _, by omega, rfl, 0, rfl⟩
  case round =>
    obtain ⟨n, hn, hg, rfl, nq1, rfl⟩ := hrel
    have HG := hid hg
    clear hg
    by_cases hlt : n < l.length
    · have hne : l ≠ [] := by intro e; rw [e] at hlt; simp at hlt
      obtain ⟨p1, o1, rfl, hp1, hc1⟩ := HSA.out hne
      obtain ⟨p2, o2, rfl, hp2, hc2⟩ := HSB.out hne
      have q1 := hc1 n _ (List.getElem?_eq_getElem hlt)
      have q2 := hc2 n _ (List.getElem?_eq_getElem hlt)
      obtain ⟨x, hx⟩ : ∃ x, x = l[n] := ⟨_, rfl⟩
      rw [← hx, S] at q1 q2
      clear hc1 hc2 hx hne
      have hni : (n : Int) < (l.length : Int) := by omega
      have hn0 : (0 : Int) ≤ (n : Int) := by omega
      have hb1 : (x == x) = true := by simp
      have hb2 : (x != x) = false := by simp
      go_wp2_with fail
      go_quiet (fail)
      go_wp2_with fail
      go_roundg (gk - 1)
      case measure => have := HG.out; omega
      case rel => exact ⟨n + 1, by omega, by have := HG.out; omega, by simp, _, rfl⟩
    · go_wp2_with fail
      go_ret
      exact ⟨rfl, below_drewN (Below.refl _ _) _⟩
end Go.Proofs.YtjlfchnnhglbjaaGreat

/- law12.cut: documents that can be played in time, in memory of their own. -/
set_option linter.unusedVariables false
set_option linter.unusedSimpArgs false
namespace Go.Proofs.YtjlfchnnhglbjaaGreat
open Go.RowKit Go.Lib Go.Sort Go.Maps Go.WideMaps

theorem infoDoc' : (Tryz.prog.info? 27).map (fun i => (i.zero, i.size, i.bytes)) = some (some (.agg #[.string ⟨#[]⟩, .bool false, .slice none 0 0]), 3, 48) := by kernel_rfl
theorem infoItm' : (Tryz.prog.info? 35).map (fun i => (i.zero, i.size, i.bytes)) = some (some (.agg #[.string ⟨#[]⟩, .string ⟨#[]⟩, .bool false, .string ⟨#[]⟩, .int .i64 0]), 5, 64) := by kernel_rfl
def cutDoc (d : Dc) : Dc := { d with items := d.items.take 40 }
def cutD (l : List Dc) : List Dc := (l.take 12).map cutDoc
/-- v is l, in rows from B on that nobody else has -/
def OwnD (w : World) (B : Nat) (v : Value) (l : List Dc) : Prop := ∃ zs : List (Dc × (Option Addr × Nat)), zs.map (·.1) = l ∧ OwnL encD 27 w B v zs ∧ ∀ z ∈ zs, OwnL encI 35 w B (.slice z.2.1 z.1.items.length z.2.2) z.1.items
section
variable {w w' : World} {B : Nat} {v : Value} {l : List Dc}
theorem OwnD.rd (h : OwnD w B v l) : RdD w v l := by
  obtain ⟨zs, h1, h2, h3⟩ := h
  exact ⟨zs, h1, h2.rd, fun z hz => (h3 z hz).rd⟩
theorem OwnD.below (h : OwnD w B v l) (hb : Below w.heap.size w w') : OwnD w' B v l := by
  obtain ⟨zs, h1, h2, h3⟩ := h
  exact ⟨zs, h1, h2.below hb, fun z hz => (h3 z hz).below hb⟩
theorem OwnD.slice (h : OwnD w B v l) : ∃ ao cp, v = .slice ao l.length cp ∧ l.length ≤ cp := by
  obtain ⟨zs, rfl, h2, h3⟩ := h
  obtain ⟨ao, cp, h, hc⟩ := h2.slice
  exact ⟨ao, cp, by rw [List.length_map]; exact h, by rw [List.length_map]; exact hc⟩
end
theorem own_fresh {α : Type} {k : Nat} (E : Enc α k) {W : World} {b B : Nat} {cs : Array Value} {ty : TypeId} (l : List α) (h : W.heap[b]? = some (.cells cs ty (0, 0))) (hc : cs.toList = flatL E l) (hB : B ≤ b) (hl : l.length ≤ maxLen) : OwnL E ty W B (.slice (some ⟨b, 0, none⟩) l.length l.length) l :=
  ⟨flatL_len E l, Or.inr ⟨b, l.length, cs, rfl, hB, h, Nat.le_refl _, hl, by rw [← Array.length_toList, hc, flatL_len], by rw [hc, List.take_of_length_le (by rw [flatL_len]; exact Nat.le_refl _)]⟩⟩
theorem RdL.take {α : Type} {k : Nat} {E : Enc α k} {W : World} {a : Option Addr} {n c : Nat} {l : List α} (h : RdL E W (.slice a n c) l) (m : Nat) (hm : m ≤ l.length) : RdL E W (.slice a m c) (l.take m) := by
  obtain ⟨ao, cp, e, ⟨h1, h2, h3⟩, hc⟩ := h
  cases e
  have hl : (l.take m).length = m := by rw [List.length_take]; omega
  refine ⟨a, c, by rw [hl], ⟨by omega, by omega, fun e => ?_⟩, fun hne => ?_⟩
  · obtain ⟨e1, e2⟩ := h3 e
    exact ⟨by rw [e1]; simp, e2⟩
  · obtain ⟨b, off, ha, hlt, hx⟩ := hc (by rintro rfl; simp at hne)
    refine ⟨b, off, ha, hlt, fun j i x hj hx2 => hx j i x (by rw [hl] at hj; omega) ?_⟩
    rw [List.getElem_take] at hx2
    exact hx2
/-- 'append(s, x...)' of a row that reads as a list -/
theorem wpList_appL {α : Type} {k : Nat} {E : Enc α k} {ty : TypeId} {w : World} {ops : Array Oper} {rest : List Oper} {o : Oper} {a : Act} {Q : Exit → Act → World → Prop} (hgd : o.guard = none) (s x : Operand) {t : TypeId}
    (ho : o.op = .call { callee := .builtin .append, args := #[s, x], argTypes := #[t, t] })
    {z : Value} {bytes : Nat} (ht : Tryz.prog.underlying t = some (.slice ty)) (hinf : (Tryz.prog.info? ty).map (fun i => (i.zero, i.size, i.bytes)) = some (some z, k, bytes)) (hzs : z.cells.size = k) (hk : 0 < k)
    (B : Nat) (v : Value) (l m : List α) (hs : a.eval s = v) (hown : OwnL E ty w B v l) {u : Value} (hx : a.eval x = u) (hr : RdL E w u m) (hl : l.length + m.length ≤ maxLen) (hl2 : (l.length + m.length) * bytes ≤ 140737488355328) (hB : B ≤ w.heap.size)
    (h : ∀ v' w', OwnL E ty w' B v' (l ++ m) → w.grownBy w' v.ownBlock → wpList Tryz.prog ops Q rest (a.put o.dst v') w') :
    wpList Tryz.prog ops Q (o :: rest) a w := by
  obtain ⟨i0, hi, hz0, hz1, hz2⟩ := info_parts hinf
  obtain ⟨ao, cp, rfl, ⟨h1, h2, h3⟩, hc⟩ := hr
  cases hao : ao with
  | none =>
    subst hao
    obtain ⟨rfl, rfl⟩ := h3 rfl
    refine wpList_append_own_none hgd s x t ho B ty i0 k ht hi v l.length (flatL E l) hs hown hx (h v w (by rw [List.append_nil]; exact hown) (World.grownBy.refl _ _))
  | some ad =>
    by_cases hm : m = []
    · subst hm
      subst hao
      refine wpList_app hgd s x t ho B ty i0 z k bytes ht hi hz0 hz1 hz2 hzs hk v l.length (flatL E l) hs hown ad 0 cp [] hx (by simp) (fun j u hu => by simp at hu) (fun u hu => by cases hu) (by simpa using hl) (by simpa using hl2) hB ?_
      intro v' w' own gr mv
      exact h v' w' (by rw [List.append_nil]; exact own_cast own rfl (by simp)) gr
    · obtain ⟨b, off, ha, hlt, hcell⟩ := hc hm
      rw [hao] at ha
      cases ha
      subst hao
      refine wpList_app hgd s x t ho B ty i0 z k bytes ht hi hz0 hz1 hz2 hzs hk v l.length (flatL E l) hs hown ⟨b, off, none⟩ m.length cp (flatL E m) hx (flatL_len E m) (fun j u hu => ?_) (fun u hu => ?_) hl hl2 hB ?_
      · have hj : j < m.length * k := by have := (List.getElem?_eq_some_iff.1 hu).1; rwa [flatL_len] at this
        have hq : j / k < m.length := Nat.div_lt_of_lt_mul (by rw [Nat.mul_comm]; exact hj)
        have hr := Nat.mod_lt j hk
        have he : j = j / k * k + j % k := by rw [Nat.mul_comm]; exact (Nat.div_add_mod j k).symm
        rw [he, flatL_get E m (j / k) (j % k) hq hr] at hu
        have := hcell (j / k) (j % k) u hq hu
        rw [Nat.add_assoc, ← he] at this
        have hadd : ((⟨b, off, none⟩ : Addr).add j) = ⟨b, off + j, none⟩ := by
          unfold Addr.add
          split
          · next e => subst e; rfl
          · rfl
        rw [hadd]; exact this
      · obtain ⟨y, _, hy⟩ := List.mem_flatMap.1 hu
        exact E.one y u hy
      · intro v' w' own gr mv
        exact h v' w' (own_cast own (by simp) (by rw [flatL_append])) gr
end Go.Proofs.YtjlfchnnhglbjaaGreat

/- The walk of law12.cut. -/
set_option linter.unusedVariables false
set_option linter.unusedSimpArgs false
namespace Go.Proofs.YtjlfchnnhglbjaaGreat
open Go.RowKit Go.Lib Go.Sort Go.Maps Go.WideMaps

theorem cut_take {l : List Dc} {n : Nat} (hn : n < l.length) : (l.take (n + 1)).map cutDoc = (l.take n).map cutDoc ++ [cutDoc (l[n]'hn)] := by
  rw [List.take_succ_eq_append_getElem hn, List.map_append]; rfl
structure CutSt (w W : World) (l : List Dc) (n : Nat) (v : Value) (zs : List (Dc × (Option Addr × Nat))) : Prop where
  eq : zs.map (·.1) = (l.take n).map cutDoc
  own : OwnL encD 27 W w.heap.size v zs
  each : ∀ z ∈ zs, OwnL encI 35 W w.heap.size (.slice z.2.1 z.1.items.length z.2.2) z.1.items
  bel : Below w.heap.size w W
section
variable {w W W' : World} {l : List Dc} {n : Nat} {v v' : Value} {zs : List (Dc × (Option Addr × Nat))}
theorem CutSt.below (h : CutSt w W l n v zs) (hb : Below W.heap.size W W') : CutSt w W' l n v zs :=
  ⟨h.eq, h.own.below hb, fun z hz => (h.each z hz).below hb, h.bel.then hb⟩
theorem CutSt.len (h : CutSt w W l n v zs) (hn : n ≤ l.length) : zs.length = n := by
  have := congrArg List.length h.eq
  rw [List.length_map, List.length_map, List.length_take] at this
  omega
theorem CutSt.push (h : CutSt w W l n v zs) {z : Dc × (Option Addr × Nat)} (hn : n < l.length) (he : z.1 = cutDoc (l[n]'hn)) (hz : OwnL encI 35 W w.heap.size (.slice z.2.1 z.1.items.length z.2.2) z.1.items) (o : OwnL encD 27 W' w.heap.size v' (zs ++ [z])) (gr : W.grownBy W' v.ownBlock) : CutSt w W' l (n + 1) v' (zs ++ [z]) := by
  refine ⟨by rw [List.map_append, h.eq, cut_take hn, ← he]; rfl, o, fun x hx => ?_, h.bel.grown gr h.bel.size (fun k hk => (World.ownsRow.lt h.own k hk).1)⟩
  rcases List.mem_append.1 hx with hx | hx
  · exact World.ownsRow.kept (h.each x hx) gr (ne_kinds (h.each x hx) h.own (by decide))
  · rw [List.mem_singleton.1 hx]
    exact World.ownsRow.kept hz gr (ne_kinds hz h.own (by decide))
theorem CutSt.done (h : CutSt w W l n v zs) (hn : n = 12 ∨ (n = l.length ∧ n ≤ 12)) : OwnD W w.heap.size v (cutD l) := by
  refine ⟨zs, ?_, h.own, h.each⟩
  rw [h.eq]
  unfold cutD
  rcases hn with rfl | ⟨rfl, h2⟩
  · rfl
  · rw [List.take_of_length_le (Nat.le_refl _), List.take_of_length_le h2]
end

set_option maxRecDepth 100000 in
set_option maxHeartbeats 8000000 in
theorem cut_any (w : World) (l : List Dc) (v : Value) (hd : RdD w v l) :
    Calls Tryz.prog 13 #[v] w fun e w' => ∃ v', e = .returned v' ∧ OwnD w' w.heap.size v' (cutD l) ∧ Below w.heap.size w w' := by
  obtain ⟨ao, cp, rfl, hln, h63, hcell⟩ := hd.cells
  have HCELL := hid hcell
  clear hcell hd
  go_enter Tryz.func13, Tryz.ntmps13
  go_wp2_with fail
  go_loopg [3, 8] l.length (fun g v3 v8 W => ∃ (n : Nat) (zs : List (Dc × (Option Addr × Nat))), n ≤ l.length ∧ n ≤ 12 ∧ l.length ≤ n + g ∧ v8 = .int .i64 n ∧ CutSt w W l n v3 zs)
  case atStart => exact ⟨0, [], Nat.zero_le _, by omega, by omega, rfl, rfl, OwnL.nil _ _ _ _, fun z hz => (by cases hz), Below.refl _ _⟩
  case round =>
    obtain ⟨n, zs, hn, h12, hg, rfl, st⟩ := hrel
    rename World => w2
    have HG := hid hg
    have ST2 := hid st
    have H12 := hid h12
    clear hg st h12
    by_cases hlt : n < l.length
    · have hni : (n : Int) < (l.length : Int) := by omega
      have hn0 : (0 : Int) ≤ (n : Int) := by omega
      obtain ⟨p, o, a, c, rfl, hp, q0, q1, q2, hits⟩ := HCELL.out n hlt
      have r0 := (ST2.out.bel.cell (p := ⟨p, o + n * 3, none⟩) hp).trans q0
      have r1 := (ST2.out.bel.cell (p := ⟨p, o + n * 3 + 1, none⟩) hp).trans q1
      have r2 := (ST2.out.bel.cell (p := ⟨p, o + n * 3 + 2, none⟩) hp).trans q2
      have hp2 : p < w2.heap.size := Nat.lt_of_lt_of_le hp ST2.out.bel.size
      have HITS := hid (hits.take (min (l[n]'hlt).items.length 40) (Nat.min_le_left _ _))
      have HCD := hid (show cutDoc (l[n]'hlt) = { l[n]'hlt with items := (l[n]'hlt).items.take (min (l[n]'hlt).items.length 40) } by
        unfold cutDoc
        congr 1
        by_cases h : (l[n]'hlt).items.length ≤ 40
        · rw [Nat.min_eq_left h, List.take_of_length_le h, List.take_of_length_le (Nat.le_refl _)]
        · rw [Nat.min_eq_right (by omega)])
      obtain ⟨_, hic, _⟩ := RdI.cells hits
      have HIC := hid hic
      clear q0 q1 q2 hits hic
      obtain ⟨d, hdd⟩ : ∃ d, d = l[n]'hlt := ⟨_, rfl⟩
      have HDD := hid hdd
      rw [← hdd] at r0 r1 r2 HITS HCD HIC
      clear hdd
      obtain ⟨loc, supp, its⟩ := d
      simp only at r0 r1 r2 HITS HCD HIC
      go_upto_region 5 with fail
      have HB3 := hid (show Below w2.heap.size w2 (w2.alloc (.cells #[.string ⟨loc.toArray⟩, .bool supp, .slice a its.length c] 27)) from (Below.refl _ _).alloc (Nat.le_refl _) _)
      have F3 := hid (heap_alloc_new w2 (.cells #[.string ⟨loc.toArray⟩, .bool supp, .slice a its.length c] 27))
      generalize w2.alloc (.cells #[.string ⟨loc.toArray⟩, .bool supp, .slice a its.length c] 27) = w3 at *
      have ST3 := hid (ST2.out.below HB3.out)
      have HDB := hid (show w.heap.size ≤ w2.heap.size from ST2.out.bel.size)
      have HLT := hid (fun k (e : u3.ownBlock = some k) => (World.ownsRow.lt ST2.out.own k e).2)
      have HLE := hid (fun z (hz : z ∈ zs) k (e : (Value.slice z.2.1 z.1.items.length z.2.2).ownBlock = some k) => (World.ownsRow.lt (ST2.out.each z hz) k e).2)
      clear r0 r1 r2 hp2 ST2 HB3
      generalize w2.heap.size = Db at *
      obtain ⟨d0, d1, d2, dl⟩ := box3_cells F3.out
      obtain ⟨df0, df1, df2⟩ := box3_frozen F3.out
      by_cases he : n = 12
      · have heb : ((n : Int) == 12) = true := by rw [beq_iff_eq]; omega
        have HD := hid (ST3.out.done (Or.inl he))
        clear he
        go_wp2_with fail
        exact bodyPost_ret (v := u3) (by simp [results, Tryz.results13, go_sem]) rfl ⟨_, rfl, HD.out, ST3.out.bel⟩
      · have heb : ((n : Int) == 12) = false := by rw [beq_eq_false_iff_ne]; omega
        have HE := hid he
        clear he
        have HM := hid (show (min (its.length : Int) 40).toNat = min its.length 40 by omega)
        have HML := hid (show min its.length 40 ≤ 40 by omega)
        have HR := hid (show RdL encI (w3.alloc (.cells #[] 35)) (.slice a (min (its.length : Int) 40).toNat c) (its.take (min its.length 40)) by
          rw [HM.out]
          exact HITS.out.below ((ST3.out.bel.alloc ST3.out.bel.size _).mono (Nat.le_refl _)))
        have HF := hid (own_fresh encI (B := w.heap.size) [] (heap_alloc_new w3 (.cells #[] 35)) rfl ST3.out.bel.size (by simp [maxLen]))
        have HBZ := hid (show w.heap.size ≤ (w3.alloc (.cells #[] 35)).heap.size by have := ST3.out.bel.size; simp; omega)
        have HA := hid (show Below w3.heap.size w3 (w3.alloc (.cells #[] 35)) from (Below.refl _ _).alloc (Nat.le_refl _) _)
        have ST4 := hid (ST3.out.below HA.out)
        have F4 := hid ((HA.out.block _ (lt_of_block F3.out)).trans F3.out)
        have HIT := hid (show (its.take (min its.length 40)).length ≤ 40 by rw [List.length_take]; omega)
        have HD3 := hid (lt_of_block F3.out)
        have KF := hid (fun (W : World) (gr : (w3.alloc (.cells #[] 35)).grownBy W (some w3.heap.size)) => show W.heap[Db]? = some (.cells #[.string ⟨loc.toArray⟩, .bool supp, .slice a its.length c] 27 (0, 0)) from (gr.block _ (lt_of_block F4.out) (by have := HD3.out; simp; omega)).trans F4.out)
        have KS := hid (fun (W : World) (gr : (w3.alloc (.cells #[] 35)).grownBy W (some w3.heap.size)) => show CutSt w W l n u3 zs from ⟨ST4.out.eq, World.ownsRow.kept ST4.out.own gr (Or.inr (fun e => by have := (World.ownsRow.lt ST3.out.own _ e).2; omega)), fun z hz => World.ownsRow.kept (ST4.out.each z hz) gr (Or.inr (fun e => by have := (World.ownsRow.lt (ST3.out.each z hz) _ e).2; omega)), ST4.out.bel.grown gr HBZ.out (fun k hk => by cases hk; exact ST3.out.bel.size)⟩)
        have hm1 : (0 : Int) ≤ min (its.length : Int) 40 := by omega
        have hm2 : min (its.length : Int) 40 ≤ (c : Int) := by have := HIC.out; omega
        generalize its.take (min its.length 40) = its2 at *
        go_upto_region 7 with (at_builtin; refine wpList_appL (E := encI) rfl (.tmp 15) (.tmp 22) rfl Tryz.underlying25 infoItm' rfl (by decide) w.heap.size _ [] its2 rfl HF.out rfl HR.out (by have := HIT.out; unfold maxLen; simp; omega) (by have := HIT.out; simp; omega) HBZ.out ?_; intro v5 w5 own5 gr5; have HO5 := hid own5; have F5 := hid (KF.out w5 gr5); have ST5 := hid (KS.out w5 gr5); obtain ⟨a5, c5, rfl, hc5⟩ := own5.slice; clear own5 gr5 hc5 d0 d1 d2 dl df0 df1 df2; obtain ⟨d0, d1, d2, dl⟩ := box3_cells F5.out; obtain ⟨df0, df1, df2⟩ := box3_frozen F5.out)
        have F6 := hid (show (w5.setCell ⟨Db, 2, none⟩ (.slice a5 its2.length c5)).heap[Db]? = some (.cells #[.string ⟨loc.toArray⟩, .bool supp, .slice a5 its2.length c5] 27 (0, 0)) by rw [heap_setCell_same _ _ _ _ _ _ F5.out]; simp)
        have HO6 := hid (show OwnL encI 35 (w5.setCell ⟨Db, 2, none⟩ (.slice a5 its2.length c5)) w.heap.size (.slice a5 its2.length c5) its2 from own_set HO5.out (own_type HO5.out F5.out (by decide)) 2 _)
        have ST6 := hid (show CutSt w (w5.setCell ⟨Db, 2, none⟩ (.slice a5 its2.length c5)) l n u3 zs from ⟨ST5.out.eq, own_set ST5.out.own (fun e => Nat.lt_irrefl _ (HLT.out _ e)) 2 _, fun z hz => own_set (ST5.out.each z hz) (fun e => Nat.lt_irrefl _ (HLE.out z hz _ e)) 2 _, ST5.out.bel.setCell (p := ⟨Db, 2, none⟩) HDB.out _⟩)
        clear d0 d1 d2 dl df0 df1 df2 ST5 HO5 F5 KF KS HF HR ST4 F4 HA
        generalize w5.setCell ⟨Db, 2, none⟩ (.slice a5 its2.length c5) = w6 at *
        obtain ⟨d0, d1, d2, dl⟩ := box3_cells F6.out
        have HLN := hid (show zs.length ≤ 12 by rw [ST6.out.len hn]; exact H12.out)
        have HB2 := hid ST6.out.bel.size
        go_wp2_with (at_builtin; refine wpList_pushL (E := encD) rfl (.tmp 25) (.tmp 27) rfl Tryz.underlying23 infoDoc' rfl (by decide) w.heap.size _ zs (⟨loc, supp, its2⟩, (a5, c5)) rfl ST6.out.own rfl (by have := HLN.out; unfold maxLen; omega) (by have := HLN.out; omega) HB2.out #[.string ⟨loc.toArray⟩, .bool supp, .slice a5 its2.length c5] rfl ?_; intro v7 w7 own7 gr7 mv7; have ST7 := hid (ST6.out.push hlt (show _ = _ by rw [← HDD.out]; exact HCD.out.symm) HO6.out own7 gr7); clear own7 gr7 mv7)
        go_roundg (gk - 1)
        case measure => have := HG.out; omega
        case rel => exact ⟨n + 1, _, by omega, by have := H12.out; have := HE.out; omega, by have := HG.out; omega, by simp, ST7.out⟩
    · have hni : ¬ (n : Int) < (l.length : Int) := by omega
      have HD := hid (ST2.out.done (Or.inr ⟨by omega, H12.out⟩))
      go_wp2_with fail
      exact bodyPost_ret (v := u3) (by simp [results, Tryz.results13, go_sem]) rfl ⟨_, rfl, HD.out, ST2.out.bel⟩
end Go.Proofs.YtjlfchnnhglbjaaGreat
