/- Several texts in one: ChSort, ChTold, ChNews, ChainNews. (joined by wip/merge.py) -/
import Derived.Test.YtffaoejahnildaaGreatMB
import Derived.Shelf.SlSortCmp.NoneTotal
import Derived.Test.YtffaoejahnildaaGreatMD
import Derived.Test.YtffaoejahnildaaGreatRefList
import Derived.Maps.RangeWalk
import Derived.Test.YtffaoejahnildaaGreatMF
import Derived.BigQuiet
import Derived.Deep.RegionHeld3
import Derived.IntWalk
import Derived.WalkSmall
import Derived.Test.YtffaoejahnildaaGreatRows
import Derived.WalkKit
import Derived.ProofKit
import Derived.OpenShut
import Derived.ShutString
import Derived.ChangeOld
import Derived.ChangeSlices
import Derived.ChangeArms
import Derived.Below

/- slices.SortFunc at the closure of chain.Chains.Said. (turned from XLists) -/
set_option linter.unusedVariables false
set_option linter.unusedSimpArgs false
namespace Go.Proofs.YtffaoejahnildaaGreat
open Go.RowKit Go.Lib Go.Sort

/-- the closure of slices.SortFunc: which key comes first? -/
theorem cmp_closure11 (x y : Str × Str) (W : World) : Calls Tryz.prog 29 #[.agg #[S x.1, S x.2], .agg #[S y.1, S y.2]] W fun e w' => e = .returned (.int .i64 (Lib.compareBytes x.1 y.1)) ∧ ∃ q os', w' = grow (W.drewN q) os' := by
  have hcon := fun W' => Tryz.strings_Compare ⟨x.1.toArray⟩ ⟨y.1.toArray⟩ W'
  change ∀ W', Calls _ _ _ _ fun e w' => e = .returned (.int .i64 (Lib.compareBytes x.1 y.1)) ∧ _ at hcon
  generalize Lib.compareBytes x.1 y.1 = r at hcon ⊢
  unfold S
  go_enter Tryz.func29, Tryz.ntmps29
  go_wp2_with (go_at_call 30; refine (hcon _).mono ?_; rintro e w' ⟨rfl, rfl⟩)
  go_ret
  exact ⟨rfl, 0, _, by rw [alloc_eq_grow, alloc_eq_grow, grow_grow]; rfl⟩

theorem cmpLays11 (blk off size : Nat) (w : World) : CmpLays Tryz.prog 29 #[] enc2 2 cmpK blk off size w :=
  fun _ _ _ _ x y => cmp_closure11 x y _

theorem sortPairs11 (w : World) (B : Nat) (v : Value) (l : List (Str × Str)) (h : OwnP w B v l) (hl : l.length ≤ 1000) :
    Calls Tryz.prog 28 #[v, .func (.func 29) #[] #[]] w fun e w' => e = .returned (.tuple #[]) ∧
      (∃ l' : List (Str × Str), l'.Perm l ∧ l'.Pairwise (fun a b => ¬ b.1 < a.1) ∧ OwnP w' B v l') ∧ w.grownBy w' v.ownBlock := by
  have eg : ∀ args w, (callFunc 29 args).run Tryz.prog w = .ok (.enter 29 args) w := enters_of Tryz.func29 (by kernel_rfl) rfl
  rcases h.shape with ⟨rfl, rfl⟩ | ⟨g, cap, cur, rfl, hB, hg, hn, hm, hs, ht⟩
  · have hc := AnyF.slices_SortFunc_none Tryz.sfPair none 0 (.func (.func 29) #[] #[]) w
    change Calls Tryz.prog 28 _ _ _ at hc
    refine hc.mono ?_
    rintro e w' ⟨rfl, rfl⟩
    exact ⟨rfl, ⟨[], List.Perm.refl _, List.Pairwise.nil, h⟩, World.grownBy.refl _ _⟩
  · have hc := AnyQ.slices_SortFunc Tryz.sfPair 2 Tryz.isAgg44 Tryz.sizeOf44 enc2 (fun _ => rfl) (fun x v hv => by simp [enc2] at hv; rcases hv with rfl | rfl <;> rfl) cmpK swo 29 #[] g 0 cap l.toArray w eg (cmpLays11 g 0 _ w) (holdsK_of hg ht) (lt_of_block hg) (by simp; omega)
    change Calls Tryz.prog 28 _ _ _ at hc
    refine hc.mono fun e w' hh => ⟨hh.1, ?_⟩
    obtain ⟨d', n, os, hp, hsd, rfl⟩ := hh.2
    have hsz : d'.size = l.length := by simpa using hp.1
    have hperm : d'.toList.Perm l := by
      have := hp.2.2
      simp only [List.size_toArray] at this
      rw [← hsz] at this
      have ht' : List.take l.length d'.toList = d'.toList := List.take_of_length_le (by simp [hsz])
      simpa [hsz, ht'] using this
    refine ⟨⟨d'.toList, hperm, ?_, ?_⟩, ?_⟩
    · rw [List.pairwise_iff_getElem]
      intro i j hi hj hij
      have := hsd i j (Nat.zero_le _) hij (by simp at hj ⊢; omega)
      rw [getElem!_pos _ i (by simpa using hi), getElem!_pos _ j (by simpa using hj)] at this
      intro hlt
      have h2 : ltOf cmpK d'[j] d'[i] = true := by
        show decide (Lib.compareBytes _ _ < 0) = true
        exact decide_eq_true ((cb_lt _ _).2 (by simpa using hlt))
      rw [this] at h2; cases h2
    · have hlen : d'.toList.length = l.length := hperm.length_eq
      refine ⟨flat2_len _, Or.inr ⟨g, cap, putCells id 0 (flatK enc2 2 d') cur, by rw [hlen], hB, ?_, by omega, hm, by simpa [putCells] using hs, ?_⟩⟩
      · unfold sortWorldK putRowK
        rw [heap_grow_old _ _ (by simpa using lt_of_block hg)]
        simp [putRow, mapBlock, Sort.ahead, Array.getElem?_modify, hg, onCells]
      · have := take_putCells2 cur d'.toList (by rw [hlen, hs]; omega)
        simpa using this
    · refine ⟨rfl, rfl, rfl, by simp [sortWorldK, putRowK], fun k hk hne => ?_⟩
      unfold sortWorldK putRowK
      rw [heap_grow_old _ _ (by simpa using hk)]
      have : g ≠ k := fun e => hne (by rw [e]; rfl)
      simp [putRow, mapBlock, Sort.ahead, Array.getElem?_modify, this]
end Go.Proofs.YtffaoejahnildaaGreat

/- The contract of chain.Chains.Said. -/
set_option linter.unusedVariables false
set_option linter.unusedSimpArgs false
namespace Go.Proofs.YtffaoejahnildaaGreat
open Go.RowKit Go.Lib Go.Sort Go.Maps Go.WideMaps

theorem nodup_len {α : Type} [BEq α] [LawfulBEq α] : ∀ (l R : List α), l.Nodup → (∀ x ∈ l, x ∈ R) → l.length ≤ R.length
  | [], R, _, _ => Nat.zero_le _
  | x :: l, R, hn, hs => by
    rw [List.nodup_cons] at hn
    have hx := hs x List.mem_cons_self
    have h2 := nodup_len l (R.erase x) hn.2 fun y hy => (List.mem_erase_of_ne (fun e => hn.1 (by rw [← e]; exact hy))).2 (hs y (List.mem_cons_of_mem _ hy))
    rw [List.length_erase_of_mem hx] at h2
    have : 0 < R.length := List.length_pos_of_mem hx
    rw [List.length_cons]; omega
/-- one pair more at the end of a list that the call owns -/
theorem wpList_pushPR {w : World} {ops : Array Oper} {rest : List Oper} {o : Oper} {a : Act} {Q : Exit → Act → World → Prop} (hgd : o.guard = none) (s x : Operand)
    (ho : o.op = .call { callee := .builtin .append, args := #[s, x], argTypes := #[22, 22] })
    (B : Nat) (v : Value) (l : List (Str × Str)) (y : Str × Str) (hs : a.eval s = v) (hown : OwnP w B v l) (hx : a.eval x = .slice (some ⟨w.heap.size, 0, none⟩) 1 1) (hl : l.length ≤ 1000000) (hB : B ≤ w.heap.size)
    (h : ∀ v' w', OwnP w' B v' (l ++ [y]) → w.grownBy w' v.ownBlock → Moved w v v' → wpList Tryz.prog ops Q rest (a.put o.dst v') w') :
    wpList Tryz.prog ops Q (o :: rest) a (w.alloc (.cells #[.string ⟨y.1.toArray⟩, .string ⟨y.2.toArray⟩] 44)) := wpList_pushP hgd s x ho B v l y hs hown hx hl hB h

/-- the step of a range over a map of texts -/
theorem wpList_next_ss {w : World} {ops : Array Oper} {rest : List Oper} {o : Oper} {a : Act} {Q : Exit → Act → World → Prop} (hg : o.guard = none) (it : Operand) (hop : o.op = Op.next it false)
    (b r n : Nat) (m : DataW Unit) (left : Lit → Bool) (cnt : Nat) (hit : a.eval it = .pointer (some ⟨r, 0, none⟩)) (h : w.ranges Tryz.prog 9 (plainElem Tryz.prog 9) b r n m left cnt)
    (hDone : cnt = 0 → (∀ kl, left kl = false) → wpList Tryz.prog ops Q rest (a.put o.dst (.tuple #[.bool false])) w)
    (hMore : ∀ (x c : Str) (w' : World) (cnt' : Nat), x.length ≤ maxLen → c.length ≤ maxLen → left (.string x) = true → (∀ zd, m.atKey (.string x) zd = .lit (.string c)) → w'.ranges Tryz.prog 9 (plainElem Tryz.prog 9) b r n m (fun z => left z && !z.sameKey (.string x)) cnt' → cnt' < cnt →
      w.grownBy w' (some r) → w'.heap.size = w.heap.size → (Instr.entry (.pointer (some ⟨r, 0, none⟩))).run Tryz.prog w' = .ok (.tuple #[.string ⟨x.toArray⟩, .string ⟨c.toArray⟩]) w' → wpList Tryz.prog ops Q rest (a.put o.dst (.tuple #[.bool true, .string ⟨x.toArray⟩, .string ⟨c.toArray⟩])) w') :
    wpList Tryz.prog ops Q (o :: rest) a w :=
  wpList_next_ranges w hg it hop 9 law (plainElem Tryz.prog 9) (fun s : Str => Value.string ⟨s.toArray⟩) (fun s : Str => Value.string ⟨s.toArray⟩)
    (fun key kl hkey => by obtain ⟨s, rfl, _⟩ := string_of_keyOf Tryz.underlying9 hkey; exact ⟨s.data.toList, rfl⟩)
    (fun v y hv => by obtain ⟨c, rfl, _⟩ := plainElem_string_inv Tryz.underlying9 hv; exact ⟨c.data.toList, rfl⟩)
    b r n m left cnt hit h hDone (fun x c kl y w' cnt' hkey hlk hv hat hrg hlt hgr hsz hen => by
      obtain ⟨s, e1, e2, hs⟩ := string_of_keyOf Tryz.underlying9 hkey
      cases e1
      subst e2
      obtain ⟨c', ec, rfl, hwc⟩ := plainElem_string_inv Tryz.underlying9 hv
      cases ec
      exact hMore x c w' cnt' (by have := hs; rw [Lib.size_eq] at this; exact this) (by rw [Lib.size_eq] at hwc; exact hwc) hlk hat hrg hlt hgr hsz hen)

theorem ownP_mono {w : World} {B C : Nat} {v : Value} {l : List (Str × Str)} (h : OwnP w B v l) (hc : C ≤ B) : OwnP w C v l := by
  unfold OwnP World.ownsRow at *
  refine ⟨h.1, ?_⟩
  rcases h.2 with h | ⟨g, cap, cur, h1, h2, h3⟩
  · exact Or.inl h
  · exact Or.inr ⟨g, cap, cur, h1, Nat.le_trans hc h2, h3⟩
/-- what Said's loop has gathered -/
structure ToldSt (w : World) (D : List (Str × Str)) (bm n : Nat) (m : DataW Unit) (g : Nat) (vl : Value) (W : World) (left : Lit → Bool) (cnt : Nat) (l : List (Str × Str)) : Prop where
  rng : W.ranges Tryz.prog 9 (plainElem Tryz.prog 9) bm w.heap.size n m left cnt
  gas : cnt ≤ g
  own : OwnP W (w.heap.size + 1) vl l
  nd : l.Nodup
  mem : ∀ p, p ∈ l ↔ p ∈ D ∧ left (.string p.1) = false
  bel : Below w.heap.size w W
theorem ToldSt.len {w W : World} {D : List (Str × Str)} {bm n g cnt : Nat} {m : DataW Unit} {vl : Value} {left : Lit → Bool} {l : List (Str × Str)} (h : ToldSt w D bm n m g vl W left cnt l) : l.length ≤ D.length :=
  nodup_len l D h.nd fun x hx => ((h.mem x).1 hx).1
theorem told_mem {D l : List (Str × Str)} {left : Lit → Bool} {x c : Str} (hD : ∀ p ∈ D, look D p.1 = some p.2) (hm : ∀ p, p ∈ l ↔ p ∈ D ∧ left (.string p.1) = false) (hl : left (.string x) = true) (hlk : look D x = some c) :
    (x, c) ∉ l ∧ ∀ p, p ∈ l ++ [(x, c)] ↔ p ∈ D ∧ (left (.string p.1) && !(Lit.string p.1).sameKey (.string x)) = false := by
  refine ⟨fun h => (by have := ((hm _).1 h).2; rw [hl] at this; cases this), fun p => ?_⟩
  have hs : (Lit.string p.1).sameKey (.string x) = decide (p.1 = x) := by
    by_cases e : p.1 = x
    · rw [e]; simp [Lit.sameKey]
    · rw [sameKey_ne (fun h => e (by simpa using h))]; simp [e]
  rw [List.mem_append, hm, List.mem_singleton, hs]
  constructor
  · rintro (⟨h1, h2⟩ | rfl)
    · exact ⟨h1, by rw [h2]; rfl⟩
    · exact ⟨look_mem hlk, by simp⟩
  · rintro ⟨h1, h2⟩
    by_cases e : p.1 = x
    · right
      have h3 := hD p h1
      rw [e, hlk] at h3
      obtain ⟨p1, p2⟩ := p
      simp only at e h3
      rw [e, Option.some.inj h3]
    · left
      refine ⟨h1, ?_⟩
      simpa [e] using h2

/-- what Said hands back -/
def ToldOut (w : World) (D : List (Str × Str)) (e : Ending) (w' : World) : Prop := ∃ vv l, e = .returned vv ∧ OwnP w' w.heap.size vv l ∧ l.Perm D ∧ l.Pairwise (fun a b => ¬ b.1 < a.1) ∧ Below w.heap.size w w'

set_option maxRecDepth 100000 in
set_option maxHeartbeats 16000000 in
theorem told_any (w : World) (v : Value) (D : List (Str × Str)) (h : ChRd w v D) (hD : ∀ p ∈ D, look D p.1 = some p.2) (hnd : D.Nodup) (hsz : D.length ≤ 60) :
    Calls Tryz.prog 18 #[v] w fun e w' => ToldOut w D e w' := by
  obtain ⟨bc, bm, n, rfl, hlt, hc, m, hown, hat⟩ := h
  have HD := hid hD
  have HND := hid hnd
  have HSZ := hid hsz
  have HAT := hid hat
  have HOWN := hid hown
  have hbm := hown.lt
  clear hD hnd hsz hat hown
  go_enter Tryz.func18, Tryz.ntmps18
  go_wp2_with (at_range; refine wpList_range_own _ rfl _ 49 rfl 9 9 law Tryz.underlying49 _ bm n m rfl HOWN.out ?_; intro w1 hrg0 hg0 hs0)
  go_frame
  have ST0 := hid (show ToldSt w D bm n m (Maps.size m) (.slice none 0 0) w1 (Maps.has m) (Maps.size m) [] from ⟨hrg0, Nat.le_refl _, World.ownsRow_nil _ _ _ _, List.nodup_nil, (fun p => ⟨fun h => (by cases h), fun ⟨h1, h2⟩ => by
      have h3 := HD.out p h1
      rw [has_true_of_atKey (y := .lit (.string p.2)) (fun z => by rw [HAT.out, h3])] at h2
      cases h2⟩), (Below.refl _ _).grown hg0 (Nat.le_refl _) (fun j hj => by cases hj)⟩)
  clear hrg0 hg0 hs0
  obtain ⟨N, hN⟩ : ∃ N, N = Maps.size m := ⟨_, rfl⟩
  have HN := hid hN
  clear hN
  go_loopg [3] N (fun g vl W => ∃ left cnt l, ToldSt w D bm n m g vl W left cnt l)
  case atStart => exact ⟨_, _, _, by rw [HN.out]; exact ST0.out⟩
  case round =>
    obtain ⟨left, cnt, l, st⟩ := hrel
    rename World => w2
    have ST := hid st
    clear st ST0
    go_wp2_with (at_next; refine wpList_next_ss rfl _ rfl bm w.heap.size n m left cnt rfl ST.out.rng ?_ ?_)
    · intro _ hl0
      have HPM := hid (show l.Perm D from (List.perm_ext_iff_of_nodup ST.out.nd HND.out).2 fun p => by rw [ST.out.mem]; simp [hl0])
      have HOW := hid ST.out.own
      have HBL := hid ST.out.bel
      have hll : l.length ≤ 1000 := by have := ST.out.len; have := HSZ.out; omega
      have HLL := hid hll
      clear hl0 hll ST
      go_wp2_with fail
      refine (sortPairs11 w2 _ _ l HOW.out HLL.out).mono ?_
      rintro e w3 ⟨rfl, ⟨l2, hp, hs, own2⟩, hgr⟩
      have HO2 := hid own2
      have HP2 := hid (hp.trans HPM.out)
      have HS2 := hid hs
      have HB3 := hid (HBL.out.grown hgr HBL.out.size (fun j hj => by have := (World.ownsRow.lt HOW.out _ hj).1; omega))
      clear hp hs own2 hgr
      go_wp2_with fail
      go_ret
      exact ⟨_, l2, rfl, ownP_mono HO2.out (by omega), HP2.out, HS2.out, HB3.out⟩
    · intro x c w3 cnt1 hxl hcl hlx hatx hrg1 hlt1 hg1 hs1 hen
      have hlk : look D x = some c := by
        have h1 := hatx .nil
        rw [HAT.out] at h1
        cases hl : look D x with
        | some y => rw [hl] at h1; simp at h1; rw [h1]
        | none => rw [hl] at h1; cases h1
      have HMM := hid (told_mem HD.out ST.out.mem hlx hlk)
      have hown3 : OwnP w3 (w.heap.size + 1) _ l := World.ownsRow.kept ST.out.own hg1 (Or.inr fun e => by have := (World.ownsRow.lt ST.out.own _ e).1; omega)
      have HO3 := hid hown3
      have HB3 := hid (ST.out.bel.grown hg1 ST.out.bel.size (fun j hj => by cases hj; exact Nat.le_refl _))
      have HRG := hid hrg1
      have hll : l.length ≤ 1000000 := by have := ST.out.len; have := HSZ.out; omega
      have HLL := hid hll
      have HS3 := hid (show w.heap.size + 1 ≤ w3.heap.size by have := hrg1.lt; omega)
      have HC := hid hlt1
      clear hlk hown3 hll hatx hrg1 hlt1 hg1 hs1 hlx
      go_wp2_with (at_builtin; refine wpList_pushPR rfl (.tmp 18) (.tmp 22) rfl (w.heap.size + 1) _ l (x, c) rfl HO3.out rfl HLL.out HS3.out ?_; intro v4 w4 own4 gr4 mv4)
      have HO4 := hid own4
      have HR4 := hid (HRG.out.kept gr4 (fun e => by have h1 := (World.ownsRow.lt HO3.out _ e.symm).1; omega) (fun e => by have h1 := (World.ownsRow.lt HO3.out _ e.symm).1; omega))
      have HB4 := hid (HB3.out.grown gr4 HB3.out.size (fun j hj => by have := (World.ownsRow.lt HO3.out _ hj).1; omega))
      clear own4 gr4 mv4 hen
      go_wp2_with fail
      go_roundg (gk - 1)
      case measure => have := ST.out.gas; have := HC.out; omega
      case rel => exact ⟨_, cnt1, l ++ [(x, c)], HR4.out, by have := ST.out.gas; have := HC.out; omega, HO4.out, by
        rw [List.nodup_append]
        exact ⟨ST.out.nd, by simp, fun p hp q hq => by rw [List.mem_singleton.1 hq]; exact fun e => HMM.out.1 (e ▸ hp)⟩, HMM.out.2, HB4.out⟩
end Go.Proofs.YtffaoejahnildaaGreat

/- The walk of the law ChainNews. -/
set_option linter.unusedVariables false
set_option linter.unusedSimpArgs false
namespace Go.Proofs.YtffaoejahnildaaGreat
open Go.RowKit Go.Lib Go.Sort Go.Maps

theorem look_each : ∀ {r done : List (Str × Str)}, badAt done r = none → (∀ p ∈ done, look done p.1 = some p.2) → done.Nodup → (∀ p ∈ done ++ r, look (done ++ r) p.1 = some p.2) ∧ (done ++ r).Nodup
  | [], done, _, h1, h2 => by rw [List.append_nil]; exact ⟨h1, h2⟩
  | p :: r, done, h, h1, h2 => by
    unfold badAt at h
    split at h
    · split at h
      · rename_i hl
        have h3 : ∀ q ∈ done ++ [p], look (done ++ [p]) q.1 = some q.2 := by
          intro q hq
          rw [look_append]
          rcases List.mem_append.1 hq with hq | hq
          · rw [h1 q hq]; rfl
          · rw [List.mem_singleton.1 hq, hl]; simp [look]
        have h4 : (done ++ [p]).Nodup := by
          rw [List.nodup_append]
          refine ⟨h2, by simp, fun a ha b hb => ?_⟩
          rw [List.mem_singleton.1 hb]
          intro e
          have := h1 a ha
          rw [e, hl] at this
          cases this
        have := look_each h h3 h4
        rw [List.append_assoc, List.singleton_append] at this
        exact this
      · cases h
    · cases h
theorem news_each {D : List (Str × Str)} (h : NewOut D 0 0) : (∀ p ∈ D, look D p.1 = some p.2) ∧ D.Nodup := by
  obtain ⟨_, _, h3, _⟩ := new_ok h
  have := look_each h3 (fun p hp => by cases hp) List.nodup_nil
  rwa [List.nil_append] at this
/-- the sorted list's keys rise -/
theorem news_rise {D l : List (Str × Str)} (hD : ∀ p ∈ D, look D p.1 = some p.2) (hnd : D.Nodup) (hp : l.Perm D) (hs : l.Pairwise (fun a b => ¬ b.1 < a.1)) {n : Nat} (hn : n + 1 < l.length) : (l[n]'(by omega)).1 < (l[n + 1]'hn).1 := by
  have h1 := (List.pairwise_iff_getElem.1 hs) n (n + 1) (by omega) hn (by omega)
  have h2 : l.Nodup := hp.nodup_iff.2 hnd
  have h3 : (l[n]'(by omega)).1 ≠ (l[n + 1]'hn).1 := by
    intro e
    have a1 := hD _ (hp.mem_iff.1 (List.getElem_mem (h := (by omega : n < l.length))))
    have a2 := hD _ (hp.mem_iff.1 (List.getElem_mem (h := hn)))
    rw [e, a2] at a1
    have e2 : l[n]'(by omega) = l[n + 1]'hn := Prod.ext e (Option.some.inj a1).symm
    exact (List.pairwise_iff_getElem.1 h2) n (n + 1) (by omega) hn (by omega) e2
  rcases List.le_iff_lt_or_eq.1 (List.not_lt.1 h1) with h | h
  · exact h
  · exact absurd h h3
theorem news_find {D : List (Str × Str)} (hD : ∀ p ∈ D, look D p.1 = some p.2) {p : Str × Str} (hp : p ∈ D) : ∃ j, findAt D p.1 = some j ∧ D[j]? = some p := by
  cases hf : findAt D p.1 with
  | none => have := findAt_none.1 hf; rw [hD p hp] at this; cases this
  | some j =>
    obtain ⟨q, h1, h2, _, h4, _⟩ := findAt_some hf
    rw [hD p hp] at h4
    exact ⟨j, rfl, by rw [h1, Prod.ext h2 (Option.some.inj h4).symm]⟩

set_option maxRecDepth 100000 in
set_option maxHeartbeats 8000000 in
theorem rfind_same (w : World) (va : Value) (D : List (Str × Str)) (k : Str) (hl : RdP w va D) :
    Calls Tryz.prog 19 #[va, .string ⟨k.toArray⟩] w fun e w' => e = .returned (.int .i64 (placeOf (findAt D k))) ∧ w' = w := by
  obtain ⟨ao, cp, rfl, hlen, hcell⟩ := hl
  have HC := hid hcell
  clear hcell
  go_enter Tryz.func19, Tryz.ntmps19
  go_wp2_with fail
  go_loopg [5] D.length (fun g vi W => ∃ n : Nat, n ≤ D.length ∧ D.length ≤ n + g ∧ vi = .int .i64 n ∧ (∀ j q, j < n → D[j]? = some q → q.1 ≠ k) ∧ W = w)
  case atStart => exact ⟨0, Nat.zero_le _, by omega, rfl, (fun j q hj => by omega), rfl⟩
  case round =>
    obtain ⟨n, hn, hg, rfl, hno, rfl⟩ := hrel
    have HG := hid hg
    have HNO := hid hno
    clear hg hno
    by_cases hlt : n < D.length
    · have hne : D ≠ [] := by intro e; rw [e] at hlt; simp at hlt
      obtain ⟨p1, o1, rfl, hp1, hc1⟩ := HC.out hne
      obtain ⟨kv, hkv⟩ : ∃ kv, kv = D[n]'hlt := ⟨_, rfl⟩
      obtain ⟨k2, v2⟩ := kv
      have HKV := hid (show D[n]? = some (k2, v2) by rw [List.getElem?_eq_getElem hlt, hkv])
      have q1 := hc1 n 0 (S k2) hlt (by rw [← hkv]; rfl)
      rw [S, Nat.add_zero] at q1
      have hni : (n : Int) < (D.length : Int) := by omega
      have hn0 : (0 : Int) ≤ (n : Int) := by omega
      clear hkv hc1 hne
      by_cases hk : k2 = k
      · have hub : (k2 == k) = true := by rw [hk]; simp
        have HF := hid (findAt_is HKV.out hk HNO.out)
        clear hk
        go_wp2_with fail
        go_ret
        exact ⟨by rw [HF.out]; rfl, rfl⟩
      · have hub : (k2 == k) = false := by rw [beq_eq_false_iff_ne]; exact hk
        have HK := hid hk
        clear hk
        go_wp2_with fail
        go_roundg (gk - 1)
        case measure => have := HG.out; omega
        case rel => exact ⟨n + 1, by omega, by have := HG.out; omega, by simp, (fun j q hj hq => by
          by_cases he : j = n
          · subst he; rw [HKV.out] at hq; cases hq; exact HK.out
          · exact HNO.out j q (by omega) hq), rfl⟩
    · have HF := hid (findAt_no (l := D) (k := k) (fun j q hq => HNO.out j q (by have := (List.getElem?_eq_some_iff.1 hq).1; omega) hq))
      go_wp2_with fail
      go_ret
      exact ⟨by rw [HF.out]; rfl, rfl⟩

set_option maxRecDepth 100000 in
set_option maxHeartbeats 16000000 in
theorem news_law (w : World) (a0 : Option Addr) (cap0 : Nat) (D : List (Str × Str)) (hl : RdP w (.slice a0 D.length cap0) D) (hcap : D.length ≤ cap0) (hp : PSz D) :
    Calls Tryz.prog 4 #[.slice a0 D.length cap0] w fun e w' => e = .returned (.bool true) ∧ Below w.heap.size w w' := by
  have HL := hid hl
  have HP := hid hp
  have HCAP := hid hcap
  clear hl hp hcap
  go_enter Tryz.func4, Tryz.ntmps4
  go_wp2_with fail
  refine (lwakes_any _).mono ?_
  rintro e w1 ⟨rfl, hb1⟩
  have HB1 := hid hb1
  clear hb1
  by_cases h60 : (60 : Int) < (D.length : Int)
  · go_wp2_with fail
    go_ret
    exact ⟨rfl, HB1.out⟩
  · have HN60 := hid (show D.length ≤ 60 by omega)
    have hb3 : Below w1.heap.size w1 (w1.alloc (.cells (flat2 []).toArray 44)) := (Below.refl _ _).alloc (Nat.le_refl _) _
    have HO3 := hid (fresh_ownP w1 [] w1.heap.size (Nat.le_refl _) (by decide))
    have HR3 := hid (HL.out.below (HB1.out.then hb3))
    have HSS := hid (show w1.heap.size ≤ (w1.alloc (.cells (flat2 []).toArray 44)).heap.size by simp)
    have HU3 := hid hb3
    have HSZ := hid (show ([] : List (Str × Str)).length + D.length ≤ 1000000000000 by have := HN60.out; simp; omega)
    have HSZ2 := hid (show D.length ≤ 10000000000 by have := HN60.out; omega)
    clear hb3
    go_wp2_with (at_builtin; refine wpList_appP rfl (.tmp 15) (.tmp 16) rfl w1.heap.size _ _ [] D rfl HO3.out rfl HR3.out HSZ.out HSS.out ?_; intro v3 w3 own3 gr3 mv3)
    have HR4 := hid own3.rd
    have HB3 := hid (HB1.out.then (HU3.out.grown gr3 HSS.out (fun j hj => by cases hj; exact Nat.le_refl _)))
    rw [List.nil_append] at HR4
    clear own3 gr3 mv3 HO3 HR3 HU3
    refine (new_any w3 _ D HR4.out HP.out HSZ2.out).mono ?_
    rintro e w4 ⟨er, i, vc, rfl, ho, h0, h1, hb4⟩
    have HB4 := hid (HB3.out.then hb4)
    have HNO := hid ho
    have H0 := hid h0
    have H1 := hid h1
    have hb5 : Below w4.heap.size w4 (w4.alloc (.cells #[.int .i64 (er : Int), .int .i64 (i : Int)] 26)) := (Below.refl _ _).alloc (Nat.le_refl _) _
    have HF5 := hid (heap_alloc_new w4 (.cells #[.int .i64 (er : Int), .int .i64 (i : Int)] 26))
    have HB5 := hid (HB4.out.then hb5)
    have HU5 := hid hb5
    have RF := hid (rfault_any _ a0 cap0 D (HL.out.below HB5.out) HCAP.out HP.out HN60.out)
    clear ho h0 h1 hb4 hb5
    go_wp2_with fail
    refine RF.out.mono ?_
    rintro e w6 ⟨er2, i2, rfl, ho2, hb6⟩
    obtain ⟨rfl, rfl⟩ := new_uniq HNO.out ho2
    have HF6 := hid ((hb6.block _ (lt_of_block HF5.out)).trans HF5.out)
    have HB6 := hid (HB5.out.then hb6)
    have HU6 := hid (HU5.out.then hb6)
    have hb7 : Below w6.heap.size w6 (w6.alloc (.cells #[.int .i64 (er : Int), .int .i64 (i : Int)] 26)) := (Below.refl _ _).alloc (Nat.le_refl _) _
    have HB7 := hid (HB6.out.then hb7)
    have HU7 := hid (HU6.out.then hb7)
    have HF7 := hid ((hb7.block _ (lt_of_block HF6.out)).trans HF6.out)
    have HG7 := hid (heap_alloc_new w6 (.cells #[.int .i64 (er : Int), .int .i64 (i : Int)] 26))
    clear ho2 hb6 hb7 RF HF5
    go_upto_region 7 with (fail)
    generalize w6.alloc (.cells #[.int .i64 (er : Int), .int .i64 (i : Int)] 26) = w7 at *
    have c0 : w7.cell? ⟨w4.heap.size, 0, none⟩ = some (.int .i64 (er : Int)) := by rw [cell_of_row _ _ _ _ _ _ HF7.out]; rfl
    have c1 : w7.cell? ⟨w4.heap.size, 1, none⟩ = some (.int .i64 (i : Int)) := by rw [cell_of_row _ _ _ _ _ _ HF7.out]; rfl
    have d0 : w7.cell? ⟨w6.heap.size, 0, none⟩ = some (.int .i64 (er : Int)) := by rw [cell_of_row _ _ _ _ _ _ HG7.out]; rfl
    have d1 : w7.cell? ⟨w6.heap.size, 1, none⟩ = some (.int .i64 (i : Int)) := by rw [cell_of_row _ _ _ _ _ _ HG7.out]; rfl
    by_cases her : er = 0
    · subst her
      obtain ⟨hsd, _, _, hi0⟩ := new_ok HNO.out
      subst hi0
      have HC := hid (H0.out rfl)
      obtain ⟨bc, bm, n0, rfl, _, _, _⟩ := HC.out
      obtain ⟨hea, hnd⟩ := news_each HNO.out
      have HEA := hid hea
      have HND := hid hnd
      have TO := hid (told_any w7 _ D (HC.out.below HU7.out) hea hnd HN60.out)
      clear hsd hea hnd
      go_wp2_with fail
      refine TO.out.mono ?_
      rintro e w8 ⟨vv, l, rfl, own, hpm, hso, hb8⟩
      have HPM := hid hpm
      have HSO := hid hso
      have hll : l.length = D.length := hpm.length_eq
      have HLL := hid hll
      have HB8 := hid (HB7.out.then hb8)
      have HRL := hid own.rd
      have HF8 := hid ((hb8.block _ (lt_of_block HF7.out)).trans HF7.out)
      have HG8 := hid ((hb8.block _ (lt_of_block HG7.out)).trans HG7.out)
      obtain ⟨lg, lc, rfl⟩ := own_sliceP own
      have hlq : ((l.length : Int) == (D.length : Int)) = true := by rw [hll]; simp
      have hlq2 : ((l.length : Int) != (D.length : Int)) = false := by rw [hll]; simp
      have hl60 : (l.length : Int) ≤ 60 := by have := HN60.out; omega
      clear own hpm hso hb8 c0 c1 d0 d1 hll TO
      have c0 : w8.cell? ⟨w4.heap.size, 0, none⟩ = some (.int .i64 0) := by rw [cell_of_row _ _ _ _ _ _ HF8.out]; rfl
      have c1 : w8.cell? ⟨w4.heap.size, 1, none⟩ = some (.int .i64 0) := by rw [cell_of_row _ _ _ _ _ _ HF8.out]; rfl
      have d0 : w8.cell? ⟨w6.heap.size, 0, none⟩ = some (.int .i64 0) := by rw [cell_of_row _ _ _ _ _ _ HG8.out]; rfl
      have d1 : w8.cell? ⟨w6.heap.size, 1, none⟩ = some (.int .i64 0) := by rw [cell_of_row _ _ _ _ _ _ HG8.out]; rfl
      have ltc := lt_of_block HF8.out
      have ltd := lt_of_block HG8.out
      go_wp2_with fail
      clear c0 c1 d0 d1 ltc ltd
      go_loopg [47] l.length (fun g' vi W => ∃ n : Nat, n ≤ l.length ∧ l.length ≤ n + g' ∧ vi = .int .i64 n ∧ Below w8.heap.size w8 W)
      case atStart => exact ⟨0, Nat.zero_le _, by omega, rfl, Below.refl _ _⟩
      case round =>
        obtain ⟨n, hn, hg, rfl, hb9⟩ := hrel
        rename World => w9
        have HG := hid hg
        have HB9 := hid hb9
        clear hg hb9
        by_cases hlt : n < l.length
        · have hne : l ≠ [] := by intro e; rw [e] at hlt; simp at hlt
          obtain ⟨ao, cp, hv, _, hr⟩ := HRL.out
          injection hv with e1 e2 e3
          subst e1 e3
          obtain ⟨p1, o1, rfl, hp1, hc1⟩ := hr hne
          have HCL := hid hc1
          obtain ⟨kv, hkv⟩ : ∃ kv, kv = l[n]'hlt := ⟨_, rfl⟩
          obtain ⟨k, v⟩ := kv
          have HKV := hid hkv
          have HIN := hid (show (k, v) ∈ D from HPM.out.mem_iff.1 (by rw [hkv]; exact List.getElem_mem hlt))
          obtain ⟨j, hj1, hj2⟩ := news_find HEA.out HIN.out
          have q1 := (HB9.out.cell (p := ⟨p1, o1 + n * 2 + 0, none⟩) hp1).trans (hc1 n 0 (S k) hlt (by rw [← hkv]; rfl))
          have q2 := (HB9.out.cell (p := ⟨p1, o1 + n * 2 + 1, none⟩) hp1).trans (hc1 n 1 (S v) hlt (by rw [← hkv]; rfl))
          rw [S] at q1 q2
          rw [Nat.add_zero] at q1
          have hjl : j < D.length := (List.getElem?_eq_some_iff.1 hj2).1
          have hDne : D ≠ [] := by intro e; rw [e] at hjl; simp at hjl
          obtain ⟨aD, cD, hvD, _, hrD⟩ := HL.out
          injection hvD with f1 f2 f3
          subst f1 f3
          obtain ⟨p2, o2, rfl, hp2, hc2⟩ := hrD hDne
          have hDj : D[j]'hjl = (k, v) := by rw [List.getElem?_eq_getElem hjl] at hj2; exact Option.some.inj hj2
          have HJ1 := hid hj1
          have HQD := hid (fun W (hb : Below w8.heap.size w8 W) => show World.cell? W ⟨p2, o2 + j * 2, none⟩ = some (.string ⟨k.toArray⟩) ∧ World.cell? W ⟨p2, o2 + j * 2 + 1, none⟩ = some (.string ⟨v.toArray⟩) from
            ⟨((HB8.out.then hb).cell (p := ⟨p2, o2 + j * 2, none⟩) hp2).trans (by have := hc2 j 0 (S k) hjl (by rw [hDj]; rfl); rw [Nat.add_zero] at this; exact this), ((HB8.out.then hb).cell (p := ⟨p2, o2 + j * 2 + 1, none⟩) hp2).trans (hc2 j 1 (S v) hjl (by rw [hDj]; rfl))⟩)
          have hni : (n : Int) < (l.length : Int) := by omega
          have hn0 : (0 : Int) ≤ (n : Int) := by omega
          have hji : (j : Int) < (D.length : Int) := by omega
          have hj0 : (0 : Int) ≤ (j : Int) := by omega
          have hj3 : ¬ (j : Int) < 0 := by omega
          have hkk : (k == k) = true := by simp
          have hvv : (v == v) = true := by simp
          have HPB := hid (heap_alloc_new w9 (.cells #[.string ⟨k.toArray⟩, .string ⟨v.toArray⟩] 44))
          have HB10 := hid (HB9.out.then (show Below w9.heap.size w9 (w9.alloc (.cells #[.string ⟨k.toArray⟩, .string ⟨v.toArray⟩] 44)) from (Below.refl _ _).alloc (Nat.le_refl _) _))
          clear hc1 hc2 hr hrD hne hDne hkv hj1 hj2 hDj
          go_upto_region 15 with (fail)
          generalize w9.alloc (.cells #[.string ⟨k.toArray⟩, .string ⟨v.toArray⟩] 44) = w10 at *
          clear q1 q2
          have HFQ := hid (fun m => (show Calls Tryz.prog 19 #[.slice (some ⟨p2, o2, none⟩) D.length cap0, .string ⟨k.toArray⟩] (w10.drewN m) (fun e w' => e = .returned (.int .i64 (j : Int)) ∧ w' = w10.drewN m) from by
            have h := rfind_same (w10.drewN m) (.slice (some ⟨p2, o2, none⟩) D.length cap0) D k (HL.out.below (HB8.out.then (below_drewN HB10.out m)))
            rw [HJ1.out] at h
            exact h))
          obtain ⟨x2, x3⟩ := HQD.out w10 HB10.out
          have x0 : w10.cell? ⟨w9.heap.size, 0, none⟩ = some (.string ⟨k.toArray⟩) := cell_of_row _ _ _ _ _ _ HPB.out
          have x1 : w10.cell? ⟨w9.heap.size, 1, none⟩ = some (.string ⟨v.toArray⟩) := cell_of_row _ _ _ _ _ _ HPB.out
          have ltx := lt_of_block HPB.out
          by_cases hn1 : n = 0
          · subst hn1
            have hd : decide ((0 : Int) < ((0 : Nat) : Int)) = false := by decide
            clear HL HP HCAP HNO H0 H1 HB1 HB3 HB4 HB5 HB6 HB7 HU5 HU6 HU7 HF6 HF7 HG7 HF8 HG8 HR4 HRL HEA HND HPM HSO HLL HSZ HSZ2 HSS HN60 HC hlq hlq2 HKV HIN HCL HQD HPB
            go_wp2_with fail
            have hdj : decide ((j : Int) < 0) = false := decide_eq_false (by omega)
            go_quiet ((go_at_call 19; exact Calls.quiet_of_same (HFQ.out _)))
            go_wp2_with fail
            go_roundg (gk - 1)
            case measure => have := HG.out; omega
            case rel => exact ⟨0 + 1, by omega, by have := HG.out; omega, by simp, below_drewN HB10.out _⟩
          · obtain ⟨m, rfl⟩ : ∃ m, n = m + 1 := ⟨n - 1, by omega⟩
            have hmn : m < l.length := by omega
            obtain ⟨u, hu⟩ : ∃ u, u = (l[m]'hmn).1 := ⟨_, rfl⟩
            have hlt9 : u < k := by
              have h9 := news_rise HEA.out HND.out HPM.out HSO.out hlt
              rw [← hu, ← HKV.out] at h9
              exact h9
            have hbl : Op.bytesLess u k = true := by rw [Proofs.bytesLess_eq]; exact decide_eq_true hlt9
            have xu : w10.cell? ⟨p1, o1 + m * 2, none⟩ = some (.string ⟨u.toArray⟩) := (HB10.out.cell (p := ⟨p1, o1 + m * 2, none⟩) hp1).trans (by have := HCL.out m 0 (S u) hmn (by rw [hu]; rfl); rw [Nat.add_zero] at this; exact this)
            have HXU := hid (show w8.cell? ⟨p1, o1 + m * 2, none⟩ = some (.string ⟨u.toArray⟩) from by have := HCL.out m 0 (S u) hmn (by rw [hu]; rfl); rw [Nat.add_zero] at this; exact this)
            have hm3 : ((m : Int) + 1 - 1) = (m : Int) := by omega
            have hm4 : (m : Int) < (l.length : Int) := by omega
            have hm5 : (0 : Int) ≤ (m : Int) := by omega
            have hw1 : IntKind.i64.wrap ((m : Int) + 1 - 1) = (m : Int) := by rw [Int.add_sub_cancel]; exact IntWalk.i64_in _ (by omega)
            have hw2 : IntKind.i64.wrap (m : Int) = (m : Int) := IntWalk.i64_in _ (by omega)
            have hngA : (0 : Int) < (m : Int) + 1 := by omega
            have hd1 : decide ((0 : Int) < (m : Int) + 1) = true := decide_eq_true hngA
            clear hu hlt9 hn1
            have S0 : w10.drew.cell? ⟨w9.heap.size, 0, none⟩ = some (.string ⟨k.toArray⟩) ∧ w10.drew.cell? ⟨w9.heap.size, 1, none⟩ = some (.string ⟨v.toArray⟩) ∧ w10.drew.cell? ⟨p2, o2 + j * 2, none⟩ = some (.string ⟨k.toArray⟩) ∧ w10.drew.cell? ⟨p2, o2 + j * 2 + 1, none⟩ = some (.string ⟨v.toArray⟩) ∧ w10.drew.cell? ⟨p1, o1 + m * 2, none⟩ = some (.string ⟨u.toArray⟩) ∧ Below w10.heap.size w10 w10.drew := ⟨x0, x1, x2, x3, xu, (Below.refl _ _).drew⟩
            have KF : Hid (∀ W, (W.cell? ⟨w9.heap.size, 0, none⟩ = some (.string ⟨k.toArray⟩) ∧ W.cell? ⟨w9.heap.size, 1, none⟩ = some (.string ⟨v.toArray⟩) ∧ W.cell? ⟨p2, o2 + j * 2, none⟩ = some (.string ⟨k.toArray⟩) ∧ W.cell? ⟨p2, o2 + j * 2 + 1, none⟩ = some (.string ⟨v.toArray⟩) ∧ W.cell? ⟨p1, o1 + m * 2, none⟩ = some (.string ⟨u.toArray⟩) ∧ Below w10.heap.size w10 W) → Calls Tryz.prog 19 #[.slice (some ⟨p2, o2, none⟩) D.length cap0, .string ⟨k.toArray⟩] W (fun e w' => e = .returned (.int .i64 (j : Int)) ∧ (w'.cell? ⟨w9.heap.size, 0, none⟩ = some (.string ⟨k.toArray⟩) ∧ w'.cell? ⟨w9.heap.size, 1, none⟩ = some (.string ⟨v.toArray⟩) ∧ w'.cell? ⟨p2, o2 + j * 2, none⟩ = some (.string ⟨k.toArray⟩) ∧ w'.cell? ⟨p2, o2 + j * 2 + 1, none⟩ = some (.string ⟨v.toArray⟩) ∧ w'.cell? ⟨p1, o1 + m * 2, none⟩ = some (.string ⟨u.toArray⟩) ∧ Below w10.heap.size w10 w'))) := fun W h => by
              refine (rfind11_any W (.slice (some ⟨p2, o2, none⟩) D.length cap0) D k (HL.out.below (HB8.out.then (HB10.out.then h.2.2.2.2.2)))).mono ?_
              rintro e w' ⟨rfl, hb'⟩
              have hb := h.2.2.2.2.2.then hb'
              have hr := (hb.block _ (lt_of_block HPB.out)).trans HPB.out
              have hd9 := HQD.out w' (HB10.out.then hb)
              exact ⟨by rw [HJ1.out]; rfl, cell_of_row _ _ _ _ _ _ hr, cell_of_row _ _ _ _ _ _ hr, hd9.1, hd9.2, ((HB10.out.then hb).cell (p := ⟨p1, o1 + m * 2, none⟩) hp1).trans HXU.out, hb⟩
            go_wp2_with fail
            go_region_held3 (fun W => W.cell? ⟨w9.heap.size, 0, none⟩ = some (.string ⟨k.toArray⟩) ∧ W.cell? ⟨w9.heap.size, 1, none⟩ = some (.string ⟨v.toArray⟩) ∧ W.cell? ⟨p2, o2 + j * 2, none⟩ = some (.string ⟨k.toArray⟩) ∧ W.cell? ⟨p2, o2 + j * 2 + 1, none⟩ = some (.string ⟨v.toArray⟩) ∧ W.cell? ⟨p1, o1 + m * 2, none⟩ = some (.string ⟨u.toArray⟩) ∧ Below w10.heap.size w10 W) (first | assumption) (first
              | (go_at_call 19; (with_reducible refine (KF.out _ (by assumption)).mono ?_); rintro e w' ⟨rfl, hs'⟩))
            rename World => w11
            have hs11 : w11.cell? ⟨w9.heap.size, 0, none⟩ = some (.string ⟨k.toArray⟩) ∧ w11.cell? ⟨w9.heap.size, 1, none⟩ = some (.string ⟨v.toArray⟩) ∧ w11.cell? ⟨p2, o2 + j * 2, none⟩ = some (.string ⟨k.toArray⟩) ∧ w11.cell? ⟨p2, o2 + j * 2 + 1, none⟩ = some (.string ⟨v.toArray⟩) ∧ w11.cell? ⟨p1, o1 + m * 2, none⟩ = some (.string ⟨u.toArray⟩) ∧ Below w10.heap.size w10 w11 := by assumption
            have HB11 := hid (HB10.out.then hs11.2.2.2.2.2)
            clear hs11
            go_wp2_with fail
            go_roundg (gk - 1)
            case measure => have := HG.out; omega
            case rel => exact ⟨(m + 1) + 1, by omega, by have := HG.out; omega, by simp, HB11.out⟩
        · go_wp2_with fail
          go_ret
          exact ⟨rfl, HB8.out.then HB9.out⟩
    · have heb : ((er : Int) != 0) = true := by rw [bne_iff_ne]; omega
      have heb2 : ((er : Int) == 0) = false := by rw [beq_eq_false_iff_ne]; omega
      have hee : ((er : Int) == (er : Int)) = true := by simp
      have hii : ((i : Int) == (i : Int)) = true := by simp
      have hvc := H1.out her
      subst hvc
      clear her H0 H1
      go_wp2_with fail
      go_ret
      exact ⟨rfl, HB7.out⟩
end Go.Proofs.YtffaoejahnildaaGreat

/- ChainNews: whatever is said is taken or refused as the reference says, and told again by rising keys, for every list of pairs. No condition. -/
namespace Go.Proofs.YtffaoejahnildaaGreat
open Go.ChangeShapes Go.WideShapes Go.ChangeAt Go.RowKit
open Go.ChangeMaps (open_string shut_string)
set_option linter.unusedVariables false

theorem own : ownKnob Tryz.prog.godebug = none := by kernel_rfl
theorem laidOut : laidOutB Tryz.prog = true := by kernel_rfl

set_option maxRecDepth 100000 in
theorem lifted (os : Os) (started : os.Started) (H : Type) (enc : TypeId × Value → H) :
    ReturnsInHanded {} Tryz.checked os 4 .any (Rows.chainNewsSpec.pre6 enc Tryz.prog Tryz.f4 Rows.chainNewsRow.domain false) (Rows.chainNewsSpec.post enc Tryz.prog Tryz.f4 false true false false) := by
  refine returnsInHanded_of_change (C := Tryz.checked) own started (by kernel_rfl) Tryz.func4
    (ChangeSpec.witness6 (enc := enc) (C := Tryz.checked) false ⟨#[], #[.slice none 0 0], []⟩ 8 (by kernel_rfl) (by kernel_rfl) (by kernel_rfl) (by kernel_rfl)) ?_
  intro W base args ds gs before hval0 hW hcnd _
  have hval : ∀ (j : Nat) t v, Tryz.f4.params[j]? = some t → args[j]? = some v → Value.okWide Tryz.prog W .any base t v := hval0
  have hW' := hW
  obtain ⟨p, q, hA0, hV, rfl, hfz, hnd⟩ := hW
  have hA : DataW.TrodAll enc Tryz.prog W 0 (fun _ => true) true Tryz.f4.params.toList args.toList ds p := hA0
  rw [Tryz.params4] at hA hval
  obtain ⟨v0, vs0, d0, ds0, p0, q0, hargs, rfl, rfl, h0, r0⟩ := trodAll_cons hA
  obtain ⟨rfl, rfl, rfl⟩ := trodAll_nil r0
  obtain rfl : args = #[v0] := by cases args; simp_all
  obtain ⟨rfl, rfl⟩ := trodVars_none hV
  obtain ⟨a0, len0, cap0, rfl⟩ := okWide_slice Tryz.underlying22 (hval 0 22 v0 rfl rfl)
  have k0 := h0
  have lt0 : ∀ x ∈ p0, x.block < W.heap.size := by obtain ⟨m, hm⟩ := k0; exact DataW.trod_lt m _ _ _ hm
  obtain ⟨l, rd, psz, hcap⟩ : ∃ l, RdP W (.slice a0 len0 cap0) l ∧ PSz l ∧ len0 ≤ cap0 := by
    obtain ⟨fuel, hf⟩ := h0
    have hc := open_cap hf
    obtain ⟨v, l, e, rd, _, psz, hd⟩ := open_rdP hf
    rw [← List.head_eq_of_cons_eq e] at rd
    exact ⟨l, rd, psz, hc⟩
  obtain rfl : len0 = l.length := by obtain ⟨_, _, e, _⟩ := rd; injection e
  clear hA0 hval0
  refine (news_law W a0 cap0 l rd hcap psz).mono fun e W' ⟨he, bel⟩ => ?_
  subst he
  exact ⟨_, rfl, _, _, _, [], _, [], hW', trodAll_mk1 (shut_bool Tryz.underlying4 _), (trodAll_cons_mk (Below.trod laidOut (by kernel_rfl) (of_decide_eq_true (by kernel_rfl)) k0 bel lt0) trodAll_mk0), rfl, bel.frame _, fun h => by cases h⟩

theorem over : Rows.chainNewsRow.holds Tryz.pinned (OpenSpec.ofChange Rows.chainNewsSpec) :=
  OpenClaim.holds_of_wide 4 Tryz.f4 rfl rfl rfl rfl rfl rfl rfl ⟨rfl, rfl, rfl, rfl, rfl⟩ rfl rfl rfl rfl rfl (by kernel_rfl) Tryz.func4 (by kernel_rfl)
    (of_decide_eq_true (by kernel_rfl)) (by unfold Func.isWrapper; first | (rw [if_pos (by decide +kernel)]; kernel_rfl) | (rw [if_neg (by decide +kernel)]; exact ⟨rfl, rfl⟩))
    (fun os started H enc _ => lifted os started H enc)

/-- the statement -/
theorem chainNews : Rows.ChainNewsSaid := over
#print axioms chainNews
end Go.Proofs.YtffaoejahnildaaGreat
