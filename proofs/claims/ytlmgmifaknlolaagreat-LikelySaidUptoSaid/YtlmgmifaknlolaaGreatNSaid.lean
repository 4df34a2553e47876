/- Several texts in one: LkMapJ, LkSaid, LkLSaid, LikelySaid. (joined by wip/merge.py) -/
import Derived.Test.YtlmgmifaknlolaaGreatNB
import Derived.Test.YtlmgmifaknlolaaGreatNC
import Derived.Test.YtlmgmifaknlolaaGreatNA
import Derived.Test.YtlmgmifaknlolaaGreatShelfM
import Derived.Maps.RangeWalk
import Derived.Sort.KeysCollected
import Derived.Test.YtlmgmifaknlolaaGreatNE
import Derived.Test.YtlmgmifaknlolaaGreatRefList
import Derived.Deep.RegionHeld3
import Derived.Deep.LoopGhost
import Derived.Deep.CutBlock
import Derived.Test.YtlmgmifaknlolaaGreatRows
import Derived.WalkKit
import Derived.ProofKit
import Derived.OpenShut
import Derived.ShutString
import Derived.ChangeOld
import Derived.ChangeSlices
import Derived.ChangeArms
import Derived.Below

/- The map of texts that likely.Said makes; its sorted keys; the range over what is said. -/
set_option linter.unusedVariables false
set_option linter.unusedSimpArgs false
namespace Go.Proofs.YtlmgmifaknlolaaGreat
open Go.RowKit Go.Lib Go.Sort Go.Maps Go.WideMaps Go.Shelf

theorem lawS : Keyed Tryz.prog 9 := string_keyed Tryz.underlying9
theorem key_ofS {k : Str} (h : k.length ≤ maxLen) : keyOf Tryz.prog 9 (.string ⟨k.toArray⟩) = some (.string k) := by
  have := keyOf_string_mk (P := Tryz.prog) Tryz.underlying9 (s := ⟨k.toArray⟩) (by rw [Lib.size_eq]; exact h)
  simpa using this
theorem strLit (k : Str) : WideAt.IsKeyLit (.string k) := by simp [WideAt.IsKeyLit]
def lookJ (E : List (Str × Pt)) (k : Str) : Option Pt := (E.find? (fun p => p.1 == k)).map (·.2)
theorem lookJ_append (E F : List (Str × Pt)) (k : Str) : lookJ (E ++ F) k = (lookJ E k).or (lookJ F k) := by
  unfold lookJ
  rw [List.find?_append]
  cases E.find? (fun p => p.1 == k) <;> rfl
theorem lookJ_none {E : List (Str × Pt)} {k : Str} : lookJ E k = none ↔ ∀ p ∈ E, p.1 ≠ k := by
  unfold lookJ
  rw [Option.map_eq_none_iff, List.find?_eq_none]
  simp
theorem lookJ_some {E : List (Str × Pt)} {k : Str} (h : (lookJ E k).isSome = true) : k ∈ E.map (·.1) := by
  unfold lookJ at h
  rw [Option.isSome_map] at h
  obtain ⟨p, hp⟩ := Option.isSome_iff_exists.1 h
  have h1 := List.find?_some hp
  have h2 := List.mem_of_find?_eq_some hp
  simp at h1
  exact List.mem_map.2 ⟨p, h2, h1⟩
theorem lookJ_mem {E : List (Str × Pt)} {k : Str} (h : k ∈ E.map (·.1)) : (lookJ E k).isSome = true := by
  cases hl : lookJ E k with
  | some v => rfl
  | none =>
    obtain ⟨p, hp, rfl⟩ := List.mem_map.1 h
    exact absurd rfl (lookJ_none.1 hl p hp)
theorem lookJ_is {E : List (Str × Pt)} (hn : (E.map (·.1)).Nodup) {p : Str × Pt} (hp : p ∈ E) : lookJ E p.1 = some p.2 := by
  induction E with
  | nil => cases hp
  | cons q E ih =>
    rw [List.map_cons, List.nodup_cons] at hn
    unfold lookJ
    rw [List.find?_cons]
    rcases List.mem_cons.1 hp with rfl | hp
    · simp
    · have : q.1 ≠ p.1 := fun e => hn.1 (by rw [e]; exact List.mem_map.2 ⟨p, hp, rfl⟩)
      rw [show (q.1 == p.1) = false by simpa using this]
      exact ih hn.2 hp
theorem OwnJ.lt {w : World} {b n : Nat} {E : List (Str × Pt)} (h : OwnJ w b n E) : b < w.heap.size := by obtain ⟨m, h, _⟩ := h; exact h.lt
theorem OwnJ.block {w w' : World} {b n : Nat} {E : List (Str × Pt)} (h : OwnJ w b n E) (he : w'.heap[b]? = w.heap[b]?) : OwnJ w' b n E := by obtain ⟨m, h, h2⟩ := h; exact ⟨m, ownsMap_block h he, h2⟩
theorem OwnJ.below {w w' : World} {b n : Nat} {E : List (Str × Pt)} (h : OwnJ w b n E) (hb : Below w.heap.size w w') : OwnJ w' b n E := h.block (hb.block _ h.lt)
theorem OwnJ.made (w : World) : OwnJ (w.alloc (.map #[] 0)) w.heap.size 0 [] := ⟨.map [], World.ownsMap_made _ _ _ _, fun k z => rfl⟩
set_option maxRecDepth 100000 in
theorem OwnJ.look_run {w : World} {b n : Nat} {E : List (Str × Pt)} (h : OwnJ w b n E) (k : Str) (hk : k.length ≤ maxLen) {c : Pt} (hc : lookJ E k = some c) :
    (Instr.lookup 72 (.map (some b)) (.string ⟨k.toArray⟩) false).run Tryz.prog w = .ok (ptV c) w := by
  obtain ⟨mm, hown, hat⟩ := h
  obtain ⟨v, ps, hrun, hv⟩ := hown.lookup lawS Tryz.underlying72 (zeroPt w) (rdPt_mk Pt.zero) (key_ofS hk)
  obtain ⟨s, rfl, hz⟩ := rdPt_inv hv
  rw [hat] at hz
  unfold lookJ at hc
  rw [hc] at hz
  have hs : s = c := (ptD_inj (Prod.mk.inj hz).1).symm
  rw [← hs]
  exact hrun
set_option maxRecDepth 100000 in
theorem OwnJ.say_run {w : World} {b n : Nat} {E : List (Str × Pt)} (h : OwnJ w b n E) (hn : n < maxLen) (k : Str) (y : Pt) (hk : k.length ≤ maxLen) (hno : lookJ E k = none) :
    ∃ w', (Instr.mapUpdate 72 (.map (some b)) (.string ⟨k.toArray⟩) (ptV y)).run Tryz.prog w = .ok () w' ∧ OwnJ w' b (n + 1) (E ++ [(k, y)]) ∧ w.grownBy w' (some b) := by
  obtain ⟨mm, hown, hat⟩ := h
  obtain ⟨w', hrun, hown', hgr⟩ := hown.update lawS Tryz.underlying72 hn (key_ofS hk) (rdPt_mk y)
  refine ⟨w', hrun, ⟨_, hown', fun k' z => ?_⟩, hgr⟩
  show _ = match lookJ (E ++ [(k, y)]) k' with | some v => ptD v | none => z
  rw [lookJ_append]
  by_cases he : k' = k
  · subst he
    rw [atKey_put_same hown.isMap (strLit _), hno]
    simp [lookJ]
  · rw [atKey_put_other (fun e => he (by simpa using e)), hat]
    show (match lookJ E k' with | some v => ptD v | none => z) = _
    cases hl : lookJ E k' with
    | some u => rfl
    | none => simp [lookJ, Ne.symm he]
/-- the keys of the map's datum -/
theorem OwnJ.keys {w : World} {b n : Nat} {E : List (Str × Pt)} {m : DataW Unit} (hown : w.ownsMap Tryz.prog 9 rdPt b n m) (hat : ∀ k z, m.atKey (.string k) z = match (E.find? (fun p => p.1 == k)).map (·.2) with | some v => ptD v | none => z) (hn : (E.map (·.1)).Nodup) : (E.map (·.1)).Perm (strKeys m) := by
  obtain ⟨es, hD, hpw, _⟩ := hown.entries lawS
  obtain ⟨es', hD', hko⟩ := hown.keysOf
  obtain rfl : es = es' := by rw [hD] at hD'; simpa using hD'
  subst hD
  refine perm_strKeys hpw (fun p hp => by obtain ⟨v, hv⟩ := hko p hp; obtain ⟨x, _, hx, _⟩ := Maps.keyOf_str Tryz.underlying9 hv; exact ⟨x, hx⟩) hn (fun x => ?_)
  have hl : ∀ z, (DataW.map es).atKey (.string x) z = match lookJ E x with | some v => ptD v | none => z := hat x
  cases hx : lookJ E x with
  | some v => rw [has_true_of_atKey (y := ptD v) (fun z => by rw [hl, hx])]; exact ⟨fun _ => rfl, fun _ => lookJ_some (by rw [hx]; rfl)⟩
  | none =>
    rw [has_false_of_atKey (fun z => by rw [hl, hx])]
    exact ⟨fun h => (by have := lookJ_mem h; rw [hx] at this; cases this), fun h => by cases h⟩

/-- slices.Sort's two contracts here, at the fence that asks nothing. -/
theorem sortsA (m : Nat) : AnyZ.SortsIn Tryz.prog Tryz.sortedA_ren Fence.wide m :=
  ⟨fun blk off cap ss W hH hblk hsz => callsIn_wide.2 (AnyM.slices_Sort_string Tryz.sortA blk off cap ss W hH hblk hsz),
   fun p cap W => callsIn_wide.2 (AnyM.slices_Sort_string_none Tryz.sortA p cap W)⟩
theorem keysC (b : Nat) (W : World) : Calls Tryz.prog 40 #[.map (some b)] W fun e w' => e = .returned (.func (.func 66) #[] #[.pointer (some ⟨W.heap.size, 0, none⟩)]) ∧ w' = W.alloc (.cells #[.map (some b)] 72) := by
  have h := AnyZ.keys_in Tryz.keysA Fence.wide 5 trivial rfl (some b) W
  exact (callsIn_wide (n := 5)).1 h
/-- the keys, sorted -/
def srtT (l : List Str) : List Str := l.mergeSort (fun x y => decide (x ≤ y))
set_option maxHeartbeats 1000000 in
theorem sortedC {w : World} {b n : Nat} {E : List (Str × Pt)} (h : OwnJ w b n E) (hn : (E.map (·.1)).Nodup) (hsz : E.length ≤ 1000) :
    Calls Tryz.prog 39 #[.func (.func 66) #[] #[.pointer (some ⟨w.heap.size, 0, none⟩)]] (w.alloc (.cells #[.map (some b)] 72)) fun e w' =>
      ∃ v, e = .returned v ∧ OwnS w' (w.heap.size + 1) v (srtT (E.map (·.1))) ∧ Below (w.heap.size + 1) (w.alloc (.cells #[.map (some b)] 72)) w' := by
  obtain ⟨m, hown, hat⟩ := h
  have hp := OwnJ.keys hown hat hn
  have hlen : Maps.size m = E.length := by
    obtain ⟨es, rfl, _⟩ := hown.keysOf
    have := hp.length_eq
    simp [strKeys] at this
    simp [Maps.size, this]
  have hbl := hown.lt
  have hseq : SeqGives Fence.wide 2 Tryz.prog 66 #[.pointer (some ⟨w.heap.size, 0, none⟩)] encStr (fun ss => ss.Perm (strKeys m)) (Maps.size m) (w.alloc (.cells #[.map (some b)] 72)) :=
    AnyZ.keys_gives (ρ := Tryz.keysA_ren) { Tryz.keysA with } Fence.wide _ trivial rfl (by omega) w.heap.size b n m _ (by simp) (by simp) (by
      obtain ⟨es, clock, hb, Ft, hs, hD⟩ := hown
      exact ⟨es, clock, (Below.heap_alloc _ _ b hbl).trans hb, Ft, hs, hD⟩)
  have cS := AnyZ.sorted_in Tryz.sortedA Fence.wide 5 trivial trivial trivial trivial rfl (by omega) (sortsA _) (enters_of Tryz.func65 (by kernel_rfl) rfl) 66 #[.pointer (some ⟨w.heap.size, 0, none⟩)] trivial (enters_of Tryz.func66 (by kernel_rfl) rfl) _ _ (by rw [hlen]; unfold maxLen; omega) (by rw [hlen]; omega) _ hseq
  change CallsIn _ _ Tryz.prog 39 _ _ _ at cS
  have hs : (w.alloc (.cells #[.map (some b)] 72)).heap.size = w.heap.size + 1 := by simp
  refine ((callsIn_wide (n := 5)).1 cS).mono ?_
  rintro e w' ⟨v, ss, rfl, hS, hrow, hnil, hb⟩
  rw [hs] at hrow hb
  refine ⟨v, rfl, ?_, hb⟩
  have hsrt : ss.mergeSort (fun x y => decide (x ≤ y)) = srtT (E.map (·.1)) := mergeSort_of_perm (hS.trans hp.symm)
  rw [hsrt] at hrow
  have hl2 : ss.length = (srtT (E.map (·.1))).length := by unfold srtT; rw [List.length_mergeSort]; exact (hS.trans hp.symm).length_eq
  exact own_cast hrow hl2.symm rfl

set_option maxRecDepth 100000 in
/-- the step of a range over what is said -/
theorem wpList_next_pp {w : World} {ops : Array Oper} {rest : List Oper} {o : Oper} {a : Act} {Q : Exit → Act → World → Prop} (hg : o.guard = none) (it : Operand) (hop : o.op = Op.next it false)
    (b r n : Nat) (m : DataW Unit) (left : Lit → Bool) (cnt : Nat) (hit : a.eval it = .pointer (some ⟨r, 0, none⟩)) (h : w.ranges Tryz.prog 57 rdPt b r n m left cnt)
    (hDone : cnt = 0 → (∀ kl, left kl = false) → wpList Tryz.prog ops Q rest (a.put o.dst (.tuple #[.bool false])) w)
    (hMore : ∀ (x c : Pt) (w' : World) (cnt' : Nat), PtSz x → left (kL x) = true → (∀ zd, m.atKey (kL x) zd = ptD c) → w'.ranges Tryz.prog 57 rdPt b r n m (fun z => left z && !z.sameKey (kL x)) cnt' → cnt' < cnt →
      w.grownBy w' (some r) → w'.heap.size = w.heap.size → (Instr.entry (.pointer (some ⟨r, 0, none⟩))).run Tryz.prog w' = .ok (.tuple #[ptV x, ptV c]) w' → wpList Tryz.prog ops Q rest (a.put o.dst (.tuple #[.bool true, ptV x, ptV c])) w') :
    wpList Tryz.prog ops Q (o :: rest) a w :=
  wpList_next_ranges w hg it hop 57 lawPt rdPt ptV ptV
    (fun key kl hkey => by obtain ⟨p, rfl, _⟩ := keyP_inv hkey; exact ⟨p, rfl⟩)
    (fun v y hv => by obtain ⟨c, rfl, _⟩ := rdPt_inv hv; exact ⟨c, rfl⟩)
    b r n m left cnt hit h hDone (fun x c kl y w' cnt' hkey hlk hv hat hrg hlt hgr hsz hen => by
      obtain ⟨p, e1, hp⟩ := keyP_inv hkey
      obtain rfl := ptV_inj e1
      have e2 := key_ofP hp
      rw [hkey] at e2
      obtain rfl := Option.some.inj e2
      obtain ⟨c', ec, hy⟩ := rdPt_inv hv
      obtain rfl := ptV_inj ec
      exact hMore x c w' cnt' hp hlk (fun zd => by rw [hat zd, hy]) hrg hlt hgr hsz hen)
end Go.Proofs.YtlmgmifaknlolaaGreat

/- The contract of likely.Said. -/
set_option linter.unusedVariables false
set_option linter.unusedSimpArgs false
namespace Go.Proofs.YtlmgmifaknlolaaGreat
open Go.RowKit Go.Lib Go.Sort Go.Maps Go.WideMaps

theorem nodup_of_map {α β : Type} {f : α → β} {l : List α} (h : (l.map f).Nodup) : l.Nodup := by
  unfold List.Nodup at *
  rw [List.pairwise_map] at h
  exact h.imp (fun hne e => hne (by rw [e]))
theorem nodup_len {α : Type} [DecidableEq α] : ∀ (l R : List α), l.Nodup → (∀ x ∈ l, x ∈ R) → l.length ≤ R.length
  | [], R, _, _ => Nat.zero_le _
  | x :: l, R, hn, hs => by
    rw [List.nodup_cons] at hn
    have hx := hs x List.mem_cons_self
    have h2 := nodup_len l (R.erase x) hn.2 fun y hy => (List.mem_erase_of_ne (fun e => hn.1 (by rw [← e]; exact hy))).2 (hs y (List.mem_cons_of_mem _ hy))
    rw [List.length_erase_of_mem hx] at h2
    have : 0 < R.length := List.length_pos_of_mem hx
    rw [List.length_cons]; omega
theorem key_injD {D : List (Pt × Pt)} (hD : goodD D) {x y : Pt × Pt} (hx : x ∈ D) (hy : y ∈ D) (h : ptKey x.1 = ptKey y.1) : x.1 = y.1 := by
  have h1 := key_back (hD x hx).1
  have h2 := key_back (hD y hy).1
  rw [h, h2] at h1
  exact ((Prod.mk.inj h1).1).symm
theorem told_nodup {D : List (Pt × Pt)} (hS : saidP D) (hD : goodD D) : ((toldP D).map (·.1)).Nodup := by
  unfold toldP
  rw [List.map_map]
  unfold List.Nodup
  rw [List.pairwise_map]
  exact hS.2.imp_of_mem (fun {a b} ha hb hne e => hne (key_injD hD ha hb e))
def pairJ (E : List (Str × Pt)) (k : Str) : Str × Str := (k, ptKey ((lookJ E k).getD Pt.zero))
theorem said_eq {D : List (Pt × Pt)} {E : List (Str × Pt)} (hS : saidP D) (hD : goodD D) (hn : (E.map (·.1)).Nodup) (hm : ∀ p : Str × Pt, p ∈ E ↔ ∃ x, (x, p.2) ∈ D ∧ p.1 = ptKey x) :
    (srtT (E.map (·.1))).map (pairJ E) = srtK (toldP D) := by
  have hnE : E.Nodup := nodup_of_map hn
  have htn := told_nodup hS hD
  have hF : (E.map fun p => (p.1, ptKey p.2)).Perm (toldP D) := by
    have hDn : (D.map fun x => (ptKey x.1, x.2)).Nodup := by
      refine nodup_of_map (f := fun p : Str × Pt => p.1) ?_
      rw [List.map_map]
      have := htn
      unfold toldP at this
      rw [List.map_map] at this
      exact this
    have hp : E.Perm (D.map fun x => (ptKey x.1, x.2)) := by
      refine (List.perm_ext_iff_of_nodup hnE hDn).2 fun p => ?_
      rw [hm, List.mem_map]
      constructor
      · rintro ⟨x, hx, he⟩
        exact ⟨(x, p.2), hx, by rw [← he]⟩
      · rintro ⟨x, hx, rfl⟩
        exact ⟨x.1, hx, rfl⟩
    have := hp.map (fun p => (p.1, ptKey p.2))
    rw [List.map_map] at this
    exact this
  refine srtK_one (toldP D) _ ?_ htn ?_
  · refine (((List.mergeSort_perm (E.map (·.1)) _).map (pairJ E)).trans ?_).trans hF
    rw [List.map_map]
    refine List.Perm.of_eq (List.map_congr_left fun p hp => ?_)
    show (p.1, ptKey ((lookJ E p.1).getD Pt.zero)) = (p.1, ptKey p.2)
    rw [lookJ_is hn hp]; rfl
  · have tr : ∀ a b c : Str, (decide (a ≤ b)) = true → (decide (b ≤ c)) = true → (decide (a ≤ c)) = true := fun a b c h1 h2 => by simp only [decide_eq_true_eq] at *; exact List.le_trans h1 h2
    have tt : ∀ a b : Str, (decide (a ≤ b) || decide (b ≤ a)) = true := fun a b => by simp only [Bool.or_eq_true, decide_eq_true_eq]; exact List.le_total a b
    have hs := List.pairwise_mergeSort tr tt (E.map (·.1))
    rw [List.pairwise_map]
    refine hs.imp (fun {a b} h => ?_)
    simp only [decide_eq_true_eq] at h
    exact List.not_lt.2 h

/-- the state of Said's first loop -/
structure SaidSt (kf : Pt → Lit) (w : World) (D : List (Pt × Pt)) (bm n : Nat) (m : DataW Unit) (g : Nat) (W : World) (left : Lit → Bool) (cnt : Nat) (E : List (Str × Pt)) : Prop where
  rng : W.ranges Tryz.prog 57 rdPt bm (w.heap.size + 1) n m left cnt
  gas : cnt ≤ g
  own : OwnJ W w.heap.size E.length E
  nd : (E.map (·.1)).Nodup
  mem : ∀ p : Str × Pt, p ∈ E ↔ ∃ x, (x, p.2) ∈ D ∧ p.1 = ptKey x ∧ left (kf x) = false
  bel : Below w.heap.size w W
theorem SaidSt.len {kf : Pt → Lit} {w W : World} {D : List (Pt × Pt)} {bm n g cnt : Nat} {m : DataW Unit} {left : Lit → Bool} {E : List (Str × Pt)} (h : SaidSt kf w D bm n m g W left cnt E) : E.length ≤ D.length := by
  have h1 : ∀ p ∈ E, p ∈ D.map fun x => (ptKey x.1, x.2) := fun p hp => by
    obtain ⟨x, hx, he, _⟩ := (h.mem p).1 hp
    exact List.mem_map.2 ⟨(x, p.2), hx, by rw [← he]⟩
  have h2 : E.Nodup := nodup_of_map h.nd
  generalize hF : (D.map fun x => (ptKey x.1, x.2)) = F at *
  have h3 : F.length = D.length := by rw [← hF, List.length_map]
  rw [← h3]
  exact nodup_len E F h2 h1
theorem said_mem {D : List (Pt × Pt)} {E : List (Str × Pt)} {left : Lit → Bool} {x c : Pt} {kf : Pt → Lit} (hS : saidP D) (hD : goodD D) (hm : ∀ p : Str × Pt, p ∈ E ↔ ∃ x, (x, p.2) ∈ D ∧ p.1 = ptKey x ∧ left (kf x) = false) (hl : left (kf x) = true) (hx : (x, c) ∈ D) (hk : ∀ y ∈ D, ((kf y.1).sameKey (kf x) = true ↔ y.1 = x)) :
    (∀ p ∈ E, p.1 ≠ ptKey x) ∧ ∀ p : Str × Pt, p ∈ E ++ [(ptKey x, c)] ↔ ∃ y, (y, p.2) ∈ D ∧ p.1 = ptKey y ∧ (left (kf y) && !(kf y).sameKey (kf x)) = false := by
  have hne : ∀ p ∈ E, p.1 ≠ ptKey x := fun p hp e => by
    obtain ⟨y, hy, he, hly⟩ := (hm p).1 hp
    have : y = x := key_injD (x := (y, p.2)) (y := (x, c)) hD hy hx (by rw [← he, e])
    rw [this, hl] at hly
    cases hly
  refine ⟨hne, fun p => ?_⟩
  rw [List.mem_append, hm, List.mem_singleton]
  constructor
  · rintro (⟨y, hy, he, hl2⟩ | rfl)
    · exact ⟨y, hy, he, by rw [hl2]; rfl⟩
    · exact ⟨x, hx, rfl, by rw [(hk _ hx).2 rfl]; simp⟩
  · rintro ⟨y, hy, he, hl2⟩
    by_cases e : y = x
    · right
      have h1 := lookP_is hS.2 hy
      have h2 := lookP_is hS.2 hx
      simp only at h1 h2
      rw [e, h2] at h1
      obtain ⟨p1, p2⟩ := p
      simp only at he h1 ⊢
      rw [he, e, Option.some.inj h1]
    · left
      refine ⟨y, hy, he, ?_⟩
      have h3 : (kf y).sameKey (kf x) = false := by
        cases h : (kf y).sameKey (kf x) with
        | true => exact absurd ((hk _ hy).1 h) e
        | false => rfl
      rw [h3] at hl2
      simpa using hl2
set_option maxRecDepth 100000 in
theorem kL_same {x y : Pt} (hx : PtSz x) (hy : PtSz y) : (kL y).sameKey (kL x) = true ↔ y = x :=
  ⟨fun h => kL_inj hy hx ((WideAt.sameKey_iff (kL_lit hx)).1 h), fun h => (WideAt.sameKey_iff (kL_lit hx)).2 (congrArg kL h)⟩
theorem ptsz_of {D : List (Pt × Pt)} (hD : goodD D) : ∀ y ∈ D, PtSz y.1 := fun y hy => good_ptsz (hD y hy).1
theorem key_wr {p : Pt} (h : Good p.tag) : (writeF p.tag).length ≤ 140737488355328 := Nat.le_trans h.write (by decide)
theorem key_le {p : Pt} (h : Good p.tag) : (ptKey p).length ≤ maxLen := by
  unfold ptKey
  rw [good_print _ h]
  have := h.write
  unfold maxLen
  simp only
  omega

set_option maxRecDepth 100000 in
set_option maxHeartbeats 16000000 in
theorem tsaid_any (w : World) (v : Value) (D : List (Pt × Pt)) (hL : LkRd w v D) (hS : saidP D) (hD : goodD D) (hsz : D.length ≤ 40) :
    Calls Tryz.prog 23 #[v] w fun e w' => ∃ vv, e = .returned vv ∧ OwnP w' w.heap.size vv (srtK (toldP D)) ∧ Below w.heap.size w w' := by
  have hmm := @run_makeMap Tryz.prog
  obtain ⟨bc, bm, n, rfl, hlt, hc, m, hown, hat⟩ := hL
  have HSD := hid hS
  have HD := hid hD
  have HSZ := hid hsz
  have HAT := hid hat
  have HPS := hid (ptsz_of hD)
  have KY := hid (fun W (p : Pt) (h : Good p.tag) => key_any W p (key_wr h))
  have hbl := hown.lt
  have HJ1 := hid (OwnJ.made w)
  have hb1 : Below w.heap.size w (w.alloc (.map #[] 0)) := (Below.refl _ _).alloc (Nat.le_refl _) _
  have HB1 := hid hb1
  have HOWN := hid (ownsMap_block hown (hb1.block bm hbl))
  have hc1 : (w.alloc (.map #[] 0)).cell? ⟨bc, 0, none⟩ = some (.map (some bm)) := (hb1.cell (p := ⟨bc, 0, none⟩) hlt).trans hc
  have hlt1 : bc < (w.alloc (.map #[] 0)).heap.size := Nat.lt_of_lt_of_le hlt hb1.size
  have hs1 : (w.alloc (.map #[] 0)).heap.size = w.heap.size + 1 := by simp
  have HS1 := hid hs1
  clear hS hD hsz hat hown hb1 hc hlt hs1
  go_enter Tryz.func23, Tryz.ntmps23
  go_upto_region 4 with fail
  generalize w.alloc (.map #[] 0) = w1 at *
  go_wp2_with (at_range; refine wpList_range_own _ rfl _ 68 rfl 57 57 lawPt Tryz.underlying68 _ bm n m rfl HOWN.out ?_; intro w2 hrg0 hg0 hs0)
  obtain ⟨kf, hkf⟩ : ∃ kf, kf = kL := ⟨_, rfl⟩
  have HKF := hid hkf
  have hstart : SaidSt kf w D bm n m (Maps.size m) w2 (Maps.has m) (Maps.size m) [] := by
    have h1 := HS1.out
    rw [h1] at hrg0
    refine ⟨hrg0, Nat.le_refl _, ?_, List.nodup_nil, (fun p => ⟨fun h => (by cases h), fun ⟨x, hx, _, h2⟩ => ?_⟩), HB1.out.grown hg0 HB1.out.size (fun j hj => by cases hj)⟩
    · exact HJ1.out.block (hg0.block _ (by omega) (by simp))
    · have h3 := lookP_is HSD.out.2 hx
      rw [HKF.out, has_true_of_atKey (y := ptD p.2) (fun z => by rw [HAT.out _ _ (HPS.out _ hx), h3])] at h2
      cases h2
  have ST0 := hid hstart
  go_frame
  clear hrg0 hg0 hs0 hstart HJ1 HB1
  obtain ⟨N, hN⟩ : ∃ N, N = Maps.size m := ⟨_, rfl⟩
  have HN := hid hN
  clear hN hkf
  go_loopg [] N (fun g W => ∃ left cnt E, SaidSt kf w D bm n m g W left cnt E)
  case atStart => exact ⟨_, _, _, by rw [HN.out]; exact ST0.out⟩
  case round =>
    obtain ⟨left, cnt, E, st⟩ := hrel
    rename World => w3
    have ST := hid st
    clear st ST0
    go_wp2_with (at_next; refine wpList_next_pp rfl _ rfl bm (w.heap.size + 1) n m left cnt (by rw [← HS1.out]; rfl) ST.out.rng ?_ ?_)
    · intro _ hl0
      have HEQ := hid (said_eq HSD.out HD.out ST.out.nd (fun p => by rw [ST.out.mem]; simp [hl0]))
      have HJ3 := hid ST.out.own
      have HB3 := hid ST.out.bel
      have HN3 := hid ST.out.nd
      have HL3 := hid (show E.length ≤ 1000 by have := ST.out.len; have := HSZ.out; omega)
      have HME := hid (fun p hp => (ST.out.mem p).1 hp)
      have SC := hid (sortedC HJ3.out HN3.out HL3.out)
      clear hl0 ST
      go_wp2_with fail
      refine (keysC w.heap.size w3).mono ?_
      rintro e w4 ⟨rfl, rfl⟩
      have hb4 : Below w3.heap.size w3 (w3.alloc (.cells #[.map (some w.heap.size)] 72)) := (Below.refl _ _).alloc (Nat.le_refl _) _
      have HB4 := hid (HB3.out.then hb4)
      have HJ4 := hid (HJ3.out.below hb4)
      have hs4 : (w3.alloc (.cells #[.map (some w.heap.size)] 72)).heap.size = w3.heap.size + 1 := by simp
      have HS4 := hid hs4
      clear hb4 hs4
      go_wp2_with fail
      refine SC.out.mono ?_
      rintro e w5 ⟨vk, rfl, ok, hb5⟩
      obtain ⟨ak, ck, rfl⟩ := own_sliceS ok
      have hb5' : Below w3.heap.size w3 w5 := ((Below.refl w3.heap.size w3).alloc (Nat.le_refl _) _).trans (hb5.mono (Nat.le_succ _))
      have HB5 := hid (HB3.out.then hb5')
      have HJ5 := hid (HJ3.out.below hb5')
      have HR5 := hid ok.rd
      have HEQ2 := hid HEQ.out
      generalize hks : srtT (E.map (·.1)) = ks at *
      have HKS := hid hks
      have HKL2 := hid (show ks.length ≤ 1000 by rw [← hks]; unfold srtT; rw [List.length_mergeSort, List.length_map]; exact HL3.out)
      have HLK := hid (show ∀ k ∈ ks, ∃ c : Pt, lookJ E k = some c ∧ Good c.tag ∧ k.length ≤ maxLen from fun k hk => by
        rw [← hks] at hk
        have hk2 : k ∈ E.map (·.1) := (List.mergeSort_perm (E.map (·.1)) _).mem_iff.1 hk
        obtain ⟨p, hp, rfl⟩ := List.mem_map.1 hk2
        obtain ⟨x, hx, he, _⟩ := HME.out p hp
        exact ⟨p.2, lookJ_is HN3.out hp, (HD.out _ hx).2, by rw [he]; exact key_le (HD.out _ hx).1⟩)
      clear hks hb5 hb5' ok SC HB3 HJ3 HB4 HJ4 HS4 HME HN3 HL3
      obtain ⟨ak', ck', hv, hlen, hcell⟩ := HR5.out
      cases hv
      have HCELL := hid hcell
      have hkb : ks.length ≤ 9223372036854775807 := hlen.1
      clear hcell hlen
      go_wp2_with fail
      go_loopg [6, 30] ks.length (fun g vo vi W => ∃ n2 : Nat, n2 ≤ ks.length ∧ ks.length ≤ n2 + g ∧ vi = .int .i64 n2 ∧ OwnP W w5.heap.size vo ((ks.take n2).map (pairJ E)) ∧ Below w5.heap.size w5 W)
      case atStart => exact ⟨0, Nat.zero_le _, by omega, rfl, World.ownsRow_nil _ _ _ _, Below.refl _ _⟩
      case round =>
        obtain ⟨n2, hn2, hg2, rfl, own, hb⟩ := hrel
        rename World => w6
        have HO := hid own
        have HB6 := hid hb
        have HG2 := hid hg2
        clear own hb hg2
        by_cases hlt2 : n2 < ks.length
        · have hne : ks ≠ [] := by intro e; rw [e] at hlt2; simp at hlt2
          obtain ⟨p1, o1, rfl, hp1, hc1⟩ := HCELL.out hne
          obtain ⟨k, hk⟩ : ∃ k, k = ks[n2]'hlt2 := ⟨_, rfl⟩
          have q1 := (HB6.out.cell (p := ⟨p1, o1 + n2, none⟩) hp1).trans (hc1 n2 _ (List.getElem?_eq_getElem hlt2))
          rw [← hk, S] at q1
          obtain ⟨c, hlc, hgc, hkl⟩ := HLK.out k (by rw [hk]; exact List.getElem_mem hlt2)
          have HST2 := hid (show (ks.take (n2 + 1)).map (pairJ E) = (ks.take n2).map (pairJ E) ++ [(k, ptKey c)] by
            rw [List.take_add_one, List.getElem?_eq_getElem hlt2, List.map_append, ← hk]
            show _ ++ [pairJ E k] = _
            unfold pairJ
            rw [hlc]; rfl)
          have hlook := (HJ5.out.below HB6.out).look_run k hkl hlc
          have KC := hid (KY.out w6 c hgc)
          have hni : (n2 : Int) < (ks.length : Int) := by omega
          have hn0 : (0 : Int) ≤ (n2 : Int) := by omega
          have hll : ((ks.take n2).map (pairJ E)).length ≤ 1000000 := by have := HKL2.out; rw [List.length_map, List.length_take]; omega
          have HLL := hid hll
          obtain ⟨cl, cs, cr⟩ := c
          simp only [ptV, S] at hlook KC
          clear hk hlc hgc hkl hc1 hne hll
          go_wp2_with fail
          refine KC.out.mono ?_
          rintro e w7 ⟨rfl, hb7⟩
          have HO7 := hid (own_below HO.out hb7)
          have HB7 := hid (HB6.out.then hb7)
          have HSZ7 := hid (show w5.heap.size ≤ w7.heap.size from HB7.out.size)
          clear hlook hb7 KC q1
          go_wp2_with (at_builtin; refine wpList_pushP rfl (.tmp 34) (.tmp 41) rfl w5.heap.size _ ((ks.take n2).map (pairJ E)) (k, ptKey ⟨cl, cs, cr⟩) rfl HO7.out rfl HLL.out HSZ7.out ?_; intro v8 w8 own8 gr8 mv8)
          have HO8 := hid own8
          have HB8 := hid (HB7.out.grown gr8 HSZ7.out (fun j hj => (World.ownsRow.lt HO7.out _ hj).1))
          clear own8 gr8 mv8
          go_wp2_with fail
          go_roundg (gk - 1)
          case measure => have := HG2.out; omega
          case rel => exact ⟨n2 + 1, by omega, by have := HG2.out; omega, by simp, by rw [HST2.out]; exact HO8.out, HB8.out⟩
        · have hnl : n2 = ks.length := by omega
          subst hnl
          go_wp2_with fail
          go_ret
          refine ⟨_, rfl, ownP_mono (C := w.heap.size) ?_ HB5.out.size, HB5.out.then HB6.out⟩
          have h := HO.out
          rw [List.take_length, HEQ2.out] at h
          exact h
    · intro x c w4 cnt1 hxz hlx hatx hrg1 hlt1 hg1 hs1 hen
      have hlk : lookP D x = some c := by
        have h1 := hatx .nil
        rw [HAT.out _ _ hxz] at h1
        cases hl : lookP D x with
        | some y => rw [hl] at h1; rw [ptD_inj h1]
        | none => rw [hl] at h1; cases h1
      have hxD := lookP_mem hlk
      have hgx : Good x.tag := (HD.out _ hxD).1
      rw [← HKF.out] at hlx hrg1
      have HMM := hid (said_mem (x := x) (c := c) HSD.out HD.out ST.out.mem hlx hxD (fun y hy => by rw [HKF.out]; exact kL_same hxz (HPS.out _ hy)))
      have HRG4 := hid hrg1
      have hr1 : w.heap.size + 1 < w3.heap.size := ST.out.rng.lt
      have HJ4 := hid (ST.out.own.block (hg1.block _ (by omega) (by simp)))
      have HB4 := hid (ST.out.bel.grown hg1 ST.out.bel.size (fun j hj => by cases hj; omega))
      have HLX := hid hlt1
      have HKL := hid (key_le hgx)
      have HNO := hid (show lookJ E (ptKey x) = none from lookJ_none.2 HMM.out.1)
      have HLE := hid (show E.length < maxLen by have := ST.out.len; have := HSZ.out; unfold maxLen; omega)
      have KX := hid (fun W => KY.out W x hgx)
      obtain ⟨xl, xs, xr⟩ := x
      obtain ⟨cl, cs, cr⟩ := c
      have hs4 : w4.heap.size = w3.heap.size := hs1
      rw [← HS1.out] at hen
      have HS4 := hid (show w.heap.size + 1 < w4.heap.size by rw [hs4]; exact hr1)
      clear hlk hxD hgx hlx hrg1 hr1 hg1 hlt1 hs1 hs4 hatx
      simp only [ptV, S] at hen KX ⊢
      go_upto_region 7 with fail
      have HB5 := hid (below2 w4 (.cells #[.string ⟨xl.toArray⟩, .string ⟨xs.toArray⟩, .string ⟨xr.toArray⟩] 57) (.cells #[.string ⟨cl.toArray⟩, .string ⟨cs.toArray⟩, .string ⟨cr.toArray⟩] 57))
      have HX5 := hid (heap_alloc2_old w4 (.cells #[.string ⟨xl.toArray⟩, .string ⟨xs.toArray⟩, .string ⟨xr.toArray⟩] 57) (.cells #[.string ⟨cl.toArray⟩, .string ⟨cs.toArray⟩, .string ⟨cr.toArray⟩] 57))
      have HC5 := hid (heap_alloc2_new w4 (.cells #[.string ⟨xl.toArray⟩, .string ⟨xs.toArray⟩, .string ⟨xr.toArray⟩] 57) (.cells #[.string ⟨cl.toArray⟩, .string ⟨cs.toArray⟩, .string ⟨cr.toArray⟩] 57))
      generalize (w4.alloc (.cells #[.string ⟨xl.toArray⟩, .string ⟨xs.toArray⟩, .string ⟨xr.toArray⟩] 57)).alloc (.cells #[.string ⟨cl.toArray⟩, .string ⟨cs.toArray⟩, .string ⟨cr.toArray⟩] 57) = w5 at *
      have HJ5 := hid (HJ4.out.below HB5.out)
      clear hen
      have KK : Hid (∀ W, Below w5.heap.size w5 W → Calls Tryz.prog 38 #[.agg #[.string ⟨xl.toArray⟩, .string ⟨xs.toArray⟩, .string ⟨xr.toArray⟩]] W (fun e w' => e = .returned (.string ⟨(ptKey ⟨xl, xs, xr⟩).toArray⟩) ∧ (w'.cell? ⟨w4.heap.size, 0, none⟩ = some (.string ⟨xl.toArray⟩) ∧ w'.cell? ⟨w4.heap.size, 1, none⟩ = some (.string ⟨xs.toArray⟩) ∧ w'.cell? ⟨w4.heap.size, 2, none⟩ = some (.string ⟨xr.toArray⟩) ∧ w'.cell? ⟨w4.heap.size + 1, 0, none⟩ = some (.string ⟨cl.toArray⟩) ∧ w'.cell? ⟨w4.heap.size + 1, 1, none⟩ = some (.string ⟨cs.toArray⟩) ∧ w'.cell? ⟨w4.heap.size + 1, 2, none⟩ = some (.string ⟨cr.toArray⟩)) ∧ Below w5.heap.size w5 w' ∧ ∃ w9, (Instr.mapUpdate 72 (.map (some w.heap.size)) (.string ⟨(ptKey ⟨xl, xs, xr⟩).toArray⟩) (.agg #[.string ⟨cl.toArray⟩, .string ⟨cs.toArray⟩, .string ⟨cr.toArray⟩])).run Tryz.prog w' = .ok () w9 ∧ OwnJ w9 w.heap.size (E.length + 1) (E ++ [(ptKey ⟨xl, xs, xr⟩, ⟨cl, cs, cr⟩)]) ∧ w'.grownBy w9 (some w.heap.size) ∧ (w9.cell? ⟨w4.heap.size, 0, none⟩ = some (.string ⟨xl.toArray⟩) ∧ w9.cell? ⟨w4.heap.size, 1, none⟩ = some (.string ⟨xs.toArray⟩) ∧ w9.cell? ⟨w4.heap.size, 2, none⟩ = some (.string ⟨xr.toArray⟩) ∧ w9.cell? ⟨w4.heap.size + 1, 0, none⟩ = some (.string ⟨cl.toArray⟩) ∧ w9.cell? ⟨w4.heap.size + 1, 1, none⟩ = some (.string ⟨cs.toArray⟩) ∧ w9.cell? ⟨w4.heap.size + 1, 2, none⟩ = some (.string ⟨cr.toArray⟩)))) := fun W hb => by
        refine (KX.out W).mono ?_
        rintro e w' ⟨rfl, hb'⟩
        have hb2 := hb.then hb'
        have hx := (hb2.block _ (lt_of_block HX5.out)).trans HX5.out
        have hc := (hb2.block _ (lt_of_block HC5.out)).trans HC5.out
        obtain ⟨a0, a1, a2⟩ := box3_cells hx
        obtain ⟨b0, b1, b2⟩ := box3_cells hc
        obtain ⟨w9, hrun, ho, hg⟩ := (HJ5.out.below hb2).say_run HLE.out (ptKey ⟨xl, xs, xr⟩) ⟨cl, cs, cr⟩ HKL.out HNO.out
        have h4 := HS4.out
        have hx9 := (hg.block w4.heap.size (lt_of_block hx) (by simp; omega)).trans hx
        have hc9 := (hg.block (w4.heap.size + 1) (lt_of_block hc) (by simp; omega)).trans hc
        obtain ⟨c0, c1, c2⟩ := box3_cells hx9
        obtain ⟨d0, d1, d2⟩ := box3_cells hc9
        exact ⟨rfl, ⟨a0, a1, a2, b0, b1, b2⟩, hb2, w9, hrun, ho, hg, c0, c1, c2, d0, d1, d2⟩
      have hb5d : Below w5.heap.size w5 w5.drew := (Below.refl _ _).drew
      have S0 : w5.drew.cell? ⟨w4.heap.size, 0, none⟩ = some (.string ⟨xl.toArray⟩) ∧ w5.drew.cell? ⟨w4.heap.size, 1, none⟩ = some (.string ⟨xs.toArray⟩) ∧ w5.drew.cell? ⟨w4.heap.size, 2, none⟩ = some (.string ⟨xr.toArray⟩) ∧ w5.drew.cell? ⟨w4.heap.size + 1, 0, none⟩ = some (.string ⟨cl.toArray⟩) ∧ w5.drew.cell? ⟨w4.heap.size + 1, 1, none⟩ = some (.string ⟨cs.toArray⟩) ∧ w5.drew.cell? ⟨w4.heap.size + 1, 2, none⟩ = some (.string ⟨cr.toArray⟩) := by
        obtain ⟨a0, a1, a2⟩ := box3_cells HX5.out
        obtain ⟨b0, b1, b2⟩ := box3_cells HC5.out
        exact ⟨a0, a1, a2, b0, b1, b2⟩
      go_region_held3 (fun W => W.cell? ⟨w4.heap.size, 0, none⟩ = some (.string ⟨xl.toArray⟩) ∧ W.cell? ⟨w4.heap.size, 1, none⟩ = some (.string ⟨xs.toArray⟩) ∧ W.cell? ⟨w4.heap.size, 2, none⟩ = some (.string ⟨xr.toArray⟩) ∧ W.cell? ⟨w4.heap.size + 1, 0, none⟩ = some (.string ⟨cl.toArray⟩) ∧ W.cell? ⟨w4.heap.size + 1, 1, none⟩ = some (.string ⟨cs.toArray⟩) ∧ W.cell? ⟨w4.heap.size + 1, 2, none⟩ = some (.string ⟨cr.toArray⟩)) (first | with_reducible assumption) (first
        | (go_at_call 38; (with_reducible refine (KK.out _ (by assumption)).mono ?_); rintro e w8 ⟨rfl, hs8, hb8, w9, hrun, ho9, hg9, hs9⟩))
      have h4 := HS4.out
      have hgw5 : w4.grownBy w5 none := grown_of_below HB5.out
      have hgw8 : w5.grownBy w8 none := grown_of_below hb8
      have HST := hid (show ∃ left cnt E', SaidSt kf w D bm n m (gk - 1) w9 left cnt E' from ⟨_, cnt1, E ++ [(ptKey ⟨xl, xs, xr⟩, ⟨cl, cs, cr⟩)],
        ((HRG4.out.kept hgw5 (by simp) (by simp)).kept hgw8 (by simp) (by simp)).kept hg9 (by simp; omega) (by simp),
        by have := ST.out.gas; have := HLX.out; omega,
        by rw [List.length_append]; exact ho9,
        by
          rw [List.map_append, List.nodup_append]
          exact ⟨ST.out.nd, by simp, fun p hp q hq => by
            obtain ⟨z, hz, rfl⟩ := List.mem_map.1 hp
            simp at hq
            rw [hq]
            exact HMM.out.1 z hz⟩,
        HMM.out.2,
        ((HB4.out.then HB5.out).then hb8).grown hg9 ((HB4.out.then HB5.out).then hb8).size (fun j hj => by cases hj; exact Nat.le_refl _)⟩)
      have HGK := hid (show gk - 1 < gk by have := ST.out.gas; have := HLX.out; omega)
      clear hs8 hs9 hrun ho9 hg9 hb8 hgw5 hgw8 S0 KK hb5d ST HMM HRG4
      go_wp2_with fail
      go_roundg (gk - 1)
      case measure => exact HGK.out
      case rel => exact HST.out
end Go.Proofs.YtlmgmifaknlolaaGreat

/- The walk of the law LikelySaid. (printed by wip/gen_lklaw.py) -/
set_option linter.unusedVariables false
set_option linter.unusedSimpArgs false
namespace Go.Proofs.YtlmgmifaknlolaaGreat
open Go.RowKit Go.Lib Go.Sort Go.Maps

set_option maxRecDepth 100000 in
set_option maxHeartbeats 16000000 in
theorem said_law (w : World) (va v : Value) (D : List (Str × Str)) (t : Tg) (hl : RdP w va D) (hp : PSz D) (hT : RdTc w v t) (hz : szT t ≤ 1000000000) :
    Calls Tryz.prog 6 #[va, v] w fun e w' => e = .returned (.bool true) ∧ Below w.heap.size w w' := by
  obtain ⟨av, cv, ak, ck, rfl, hS, hP, hcv, hck⟩ := hT
  have HT := hid (RdTc.short ⟨av, cv, ak, ck, rfl, hS, hP, hcv, hck⟩)
  have HL := hid hl
  have HP := hid hp
  have HZ := hid (Nat.le_trans (short_sz t) hz)
  have HV := hid (short_vars t)
  have HK := hid (short_keys t)
  clear hp hz hS hP
  have ST0 := hid (show LawS0 w t (.slice av t.vars.length cv) (.slice ak t.keys.length ck) (w.alloc (.cells (tagCells t (.slice av t.vars.length cv) (.slice ak t.keys.length ck)) 25)) from ⟨heap_alloc_new w _, (Below.refl _ _).alloc (Nat.le_refl _) _⟩)
  obtain ⟨ao, cp, rfl, _, _⟩ := hl
  simp only [tagCells, S] at ST0 HT ⊢
  go_enter Tryz.func6, Tryz.ntmps6
  go_upto_region 1 with fail
  generalize w.alloc (.cells #[.string ⟨t.lang.toArray⟩, .string ⟨t.script.toArray⟩, .string ⟨t.region.toArray⟩, .slice av t.vars.length cv, .slice ak t.keys.length ck] 25) = w0 at *
  go_wp2_with fail
  refine (lwakes_any _).mono ?_
  rintro e w1 ⟨rfl, hb1⟩
  have ST1 := hid (ST0.out.below hb1)
  clear hb1 ST0
  go_upto_region 3 with fail
  have CA := hid (fun W (h : LawS0 w t (.slice av t.vars.length cv) (.slice ak t.keys.length ck) W) => cut_at h HL.out HP.out)
  have SA := hid (fun W (h : LawS0 w t (.slice av t.vars.length cv) (.slice ak t.keys.length ck) W) => short_at h hcv hck)
  have s1d : LawS0 w t (.slice av t.vars.length cv) (.slice ak t.keys.length ck) w1.drew := ⟨ST1.out.bt, ST1.out.bel.drew⟩
  obtain ⟨c0, c1, c2, c3, c4⟩ := box_cells ST1.out.bt
  have lt0 := lt_of_block ST1.out.bt
  simp only [S] at c0 c1 c2 CA SA
  generalize hn1 : (t.vars.take 12).length = n1 at *
  generalize hn2 : (t.keys.take 20).length = n2 at *
  go_cut [0] from 21 to 24 (fun vx wx => ∃ a c, vx = .slice a (cutF D).length c ∧ LawSt w D (shortF t) (.slice av n1 cv) (.slice ak n2 ck) vx wx)
  case first =>
    go_region_with (first
      | (go_at_call 10; (with_reducible refine (CA.out _ (by assumption)).mono ?_); rintro e wC ⟨a1, e1, rfl, oC, sC, x0, x1, x2, x3, x4⟩)
      | (go_at_call 11; (with_reducible refine (SA.out _ (by assumption)).mono ?_); rintro e wS ⟨rfl, kS, sS, ⟨y0, y1, y2, y3, y4⟩, z0, z1, z2, z3, z4, lS⟩))
    all_goals
      go_wp2_with fail
      go_meet
      have he := law_end sS (kS D _ oC)
      rw [hn1, hn2] at he
      exact ⟨a1, e1, rfl, he⟩
  case rest =>
    obtain ⟨a1, e1, rfl, st⟩ := hcut
    have ST2 := hid st
    clear st CA SA s1d c0 c1 c2 c3 c4 lt0 ST1
    go_wp2_with fail
    refine (made_any wc a1 e1 (cutF D) ST2.out.own.rd (own_capP ST2.out.own) (cut_sz D) (Nat.le_trans (cut_len D) (by decide))).mono ?_
    rintro e w3 ⟨vc, rfl, hm, hb3⟩
    have ST3 := hid (ST2.out.below hb3)
    clear hb3 ST2
    rcases hm with ⟨hbad, hC⟩ | ⟨hbad, rfl⟩
    · have HC := hid hC
      have HGD := hid (goodD_of (badL_ok hbad).1)
      have HSD := hid (badL_ok hbad).2
      obtain ⟨bc, bm, nn, rfl, _, _, _⟩ := hC
      have HBD := hid hbad
      clear hbad
      have HRDT := hid HT.out.rd
      generalize shortF t = u at *
      have NW := hid (fun W v (l : List (Str × Str)) (h : RdP W v l) (hp : l.Perm (cutF D)) => lnew_any W v l h (fun q hq => cut_sz D q (hp.mem_iff.1 hq)) (by rw [hp.length_eq]; exact Nat.le_trans (cut_len D) (by decide)))
      have SD := hid (fun W (hb : Below w3.heap.size w3 W) => tsaid_any W _ (dOf (cutF D)) (HC.out.below hb) HSD.out HGD.out (by rw [dOf_len]; exact cut_len D))
      have AD := hid (fun W v (l : List (Str × Str)) (h : LkRd W v (dOf l)) (hp : l.Perm (cutF D)) (hb : Below w.heap.size w W) => tadd_any W v _ (dOf l) u h (HRDT.out.below hb) HV.out HK.out HZ.out (goodD_of (badL_ok (bad_perm HBD.out hp)).1))
      have HRD3 := hid ST3.out.own.rd
      have HTB := hid (told_back (badL_ok HBD.out).1)
      have HLEN := hid (cut_len D)
      have HAP := hid (fun (l : List (Str × Str)) (hp : l.Perm (cutF D)) => addT_perm HBD.out hp u)
      have HBP := hid (fun (l : List (Str × Str)) (hp : l.Perm (cutF D)) => bad_perm HBD.out hp)
      generalize cutF D = L at *
      obtain ⟨ao', cp', hv, hlen, hcell⟩ := HRD3.out
      cases hv
      have HCELL := hid hcell
      have hkb : L.length ≤ 9223372036854775807 := hlen.1
      clear hcell hlen
      go_wp2_with fail
      go_loopg [7, 35] L.length (fun g vo vi W => ∃ n : Nat, n ≤ L.length ∧ L.length ≤ n + g ∧ vi = .int .i64 n ∧ OwnP W w3.heap.size vo (L.reverse.take n) ∧ Below w3.heap.size w3 W)
      case atStart => exact ⟨0, Nat.zero_le _, by omega, rfl, World.ownsRow_nil _ _ _ _, Below.refl _ _⟩
      case round =>
        obtain ⟨n, hn, hg, rfl, own, hb⟩ := hrel
        rename World => w4
        have HG := hid hg
        have HO := hid own
        have HB4 := hid hb
        clear hg own hb
        by_cases hlt : n < L.length
        · have hne : L ≠ [] := by intro e; rw [e] at hlt; simp at hlt
          obtain ⟨p1, o1, rfl, hp1, hc1⟩ := HCELL.out hne
          obtain ⟨m, hm⟩ : ∃ m : Nat, m = L.length - 1 - n := ⟨_, rfl⟩
          have hmi : (L.length : Int) - 1 - n = (m : Int) := by omega
          have hmlt : m < L.length := by omega
          have hmz : (m : Int) < (L.length : Int) := by omega
          have hm0 : (0 : Int) ≤ (m : Int) := by omega
          obtain ⟨kv, hkv⟩ : ∃ kv, kv = L[m]'hmlt := ⟨_, rfl⟩
          obtain ⟨k, v⟩ := kv
          have q1 := (HB4.out.cell (p := ⟨p1, o1 + m * 2 + 0, none⟩) hp1).trans (hc1 m 0 (S k) hmlt (by rw [← hkv]; rfl))
          have q2 := (HB4.out.cell (p := ⟨p1, o1 + m * 2 + 1, none⟩) hp1).trans (hc1 m 1 (S v) hmlt (by rw [← hkv]; rfl))
          rw [S] at q1 q2
          rw [Nat.add_zero] at q1
          have HST := hid (show L.reverse.take (n + 1) = L.reverse.take n ++ [(k, v)] by
            rw [List.take_add_one, List.getElem?_eq_getElem (by rw [List.length_reverse]; exact hlt), List.getElem_reverse]
            simp only [hkv, hm]
            rfl)
          have hni : (n : Int) < (L.length : Int) := by omega
          have hn0 : (0 : Int) ≤ (n : Int) := by omega
          have hll : (L.reverse.take n).length ≤ 1000000 := by have := HLEN.out; rw [List.length_take, List.length_reverse]; omega
          have HLL := hid hll
          have HSZ := hid (show w3.heap.size ≤ w4.heap.size from HB4.out.size)
          clear hkv hc1 hne hm hll
          go_wp2_with (at_builtin; refine wpList_pushP rfl (.tmp 38) (.tmp 47) rfl w3.heap.size _ (L.reverse.take n) (k, v) rfl HO.out rfl HLL.out HSZ.out ?_; intro v5 w5 own5 gr5 mv5)
          have HO5 := hid own5
          have HB5 := hid (HB4.out.grown gr5 HSZ.out (fun j hj => (World.ownsRow.lt HO.out _ hj).1))
          clear own5 gr5 mv5
          go_wp2_with fail
          go_roundg (gk - 1)
          case measure => have := HG.out; omega
          case rel => exact ⟨n + 1, by omega, by have := HG.out; omega, by simp, by rw [HST.out]; exact HO5.out, HB5.out⟩
        · have hnl : n = L.length := by omega
          subst hnl
          have ho := HO.out
          rw [show L.reverse.take L.length = L.reverse from List.take_of_length_le (by rw [List.length_reverse]; exact Nat.le_refl _)] at ho
          have HRD4 := hid ho.rd
          obtain ⟨ar, cr, rfl⟩ := own_sliceP ho
          clear ho HO HG hlt
          rw [List.length_reverse] at HRD4 ⊢
          have ST4 := hid (ST3.out.below HB4.out)
          have HX4 := hid (HC.out.below HB4.out)
          go_wp2_with fail
          with_reducible refine (NW.out _ _ L.reverse HRD4.out (List.reverse_perm L)).mono ?_
          rintro e w6 ⟨er, i, vy, rfl, ho, h0, h1, hb6⟩
          obtain ⟨rfl, rfl⟩ := lnew_one (HBP.out _ (List.reverse_perm L)) ho
          have HY6 := hid (h0 rfl)
          obtain ⟨by1, by2, ny, rfl, _, _, _⟩ := h0 rfl
          have ST6 := hid (ST4.out.below hb6)
          have HX6 := hid (HX4.out.below hb6)
          have HB6 := hid (HB4.out.then hb6)
          clear ho h0 h1 hb6 ST4 HX4 HRD4 HB4
          go_upto_region 14 with fail
          have F7 := hid (heap_alloc_new w6 (.cells #[.int .i64 0, .int .i64 0] 45))
          have hb7 : Below w6.heap.size w6 (w6.alloc (.cells #[.int .i64 0, .int .i64 0] 45)) := (Below.refl _ _).alloc (Nat.le_refl _) _
          generalize w6.alloc (.cells #[.int .i64 0, .int .i64 0] 45) = w7 at *
          have ST7 := hid (ST6.out.below hb7)
          have HX7 := hid (HX6.out.below hb7)
          have HY7 := hid (HY6.out.below hb7)
          have HB7 := hid (HB6.out.then hb7)
          clear hb7 ST6 HX6 HY6 HB6
          go_wp2_with fail
          with_reducible refine (SD.out _ HB7.out).mono ?_
          rintro e w8 ⟨vv, rfl, own8, hb8⟩
          rw [HTB.out] at own8
          have HRD8 := hid own8.rd
          obtain ⟨a8, c8, rfl⟩ := own_sliceP own8
          have ST8 := hid (ST7.out.below hb8)
          have HX8 := hid (HX7.out.below hb8)
          have HY8 := hid (HY7.out.below hb8)
          have F8 := hid ((hb8.block _ (lt_of_block F7.out)).trans F7.out)
          clear own8 hb8 ST7 HX7 HY7 HB7 F7
          go_wp2_with fail
          with_reducible refine (NW.out _ _ (srtK L) HRD8.out (srtK_perm L)).mono ?_
          rintro e w9 ⟨er, i, vz, rfl, ho, h0, h1, hb9⟩
          obtain ⟨rfl, rfl⟩ := lnew_one (HBP.out _ (srtK_perm L)) ho
          have HZ9 := hid (h0 rfl)
          obtain ⟨bz1, bz2, nz, rfl, _, _, _⟩ := h0 rfl
          have ST9 := hid (ST8.out.below hb9)
          have HX9 := hid (HX8.out.below hb9)
          have HY9 := hid (HY8.out.below hb9)
          have F9 := hid ((hb9.block _ (lt_of_block F8.out)).trans F8.out)
          clear ho h0 h1 hb9 ST8 HX8 HY8 F8 HRD8
          go_upto_region 15 with fail
          have G10 := hid (heap_alloc_new w9 (.cells #[.int .i64 0, .int .i64 0] 45))
          have hb10 : Below w9.heap.size w9 (w9.alloc (.cells #[.int .i64 0, .int .i64 0] 45)) := (Below.refl _ _).alloc (Nat.le_refl _) _
          generalize w9.alloc (.cells #[.int .i64 0, .int .i64 0] 45) = w10 at *
          have ST10 := hid (ST9.out.below hb10)
          have HX10 := hid (HX9.out.below hb10)
          have HY10 := hid (HY9.out.below hb10)
          have HZ10 := hid (HZ9.out.below hb10)
          have F10 := hid ((hb10.block _ (lt_of_block F9.out)).trans F9.out)
          clear hb10 ST9 HX9 HY9 HZ9 F9
          have f0 : w10.cell? ⟨w6.heap.size, 0, none⟩ = some (.int .i64 0) := by rw [cell_of_row _ _ _ _ _ _ F10.out]; rfl
          have g0 : w10.cell? ⟨w9.heap.size, 0, none⟩ = some (.int .i64 0) := by rw [cell_of_row _ _ _ _ _ _ G10.out]; rfl
          have ltf := lt_of_block F10.out
          have ltg := lt_of_block G10.out
          generalize hq : addT (dOf L) u = q at *
          have HQ := hid hq
          clear hq
          obtain ⟨m, ok⟩ := q
          have Cw10 := hid (AD.out w10 _ L HX10.out (List.Perm.refl L) ST10.out.bel)
          rw [HAP.out _ (List.Perm.refl L)] at Cw10
          obtain ⟨x0, x1, x2, x3, x4⟩ := box_cells ST10.out.bt
          have lt0 := lt_of_block ST10.out.bt
          simp only [S] at x0 x1 x2
          go_wp2_with fail
          with_reducible refine Cw10.out.mono ?_
          rintro e w10a ⟨v', rfl, own10, hb10⟩
          simp only at own10 ⊢
          obtain ⟨a10, b10, c10, d10, rfl⟩ := own10.shape
          clear x0 x1 x2 x3 x4 lt0 Cw10
          go_upto_region 18 with fail
          have BX10 := hid (heap_alloc_new w10a (.cells #[.string ⟨m.lang.toArray⟩, .string ⟨m.script.toArray⟩, .string ⟨m.region.toArray⟩, .slice a10 m.vars.length b10, .slice c10 m.keys.length d10] 25))
          have hb10b : Below w10a.heap.size w10a (w10a.alloc (.cells #[.string ⟨m.lang.toArray⟩, .string ⟨m.script.toArray⟩, .string ⟨m.region.toArray⟩, .slice a10 m.vars.length b10, .slice c10 m.keys.length d10] 25)) := (Below.refl _ _).alloc (Nat.le_refl _) _
          generalize w10a.alloc (.cells #[.string ⟨m.lang.toArray⟩, .string ⟨m.script.toArray⟩, .string ⟨m.region.toArray⟩, .slice a10 m.vars.length b10, .slice c10 m.keys.length d10] 25) = w12 at *
          have hb10c := hb10.then hb10b
          have ST12 := hid (ST10.out.below hb10c)
          have RD10 := hid (own10.rd.below hb10b)
          have HY12 := hid (HY10.out.below hb10c)
          have HZ12 := hid (HZ10.out.below hb10c)
          clear own10 hb10 hb10b hb10c
          clear f0 g0 ltf ltg F10 G10 HX10 HY10 HZ10 ST10
          have Cw12 := hid (AD.out w12 _ L.reverse HY12.out (List.reverse_perm L) ST12.out.bel)
          rw [HAP.out _ (List.reverse_perm L)] at Cw12
          obtain ⟨x0, x1, x2, x3, x4⟩ := box_cells ST12.out.bt
          have lt0 := lt_of_block ST12.out.bt
          simp only [S] at x0 x1 x2
          go_wp2_with fail
          with_reducible refine Cw12.out.mono ?_
          rintro e w12a ⟨v', rfl, own12, hb12⟩
          simp only at own12 ⊢
          obtain ⟨a12, b12, c12, d12, rfl⟩ := own12.shape
          clear x0 x1 x2 x3 x4 lt0 Cw12
          go_upto_region 19 with fail
          have BX12 := hid (heap_alloc_new w12a (.cells #[.string ⟨m.lang.toArray⟩, .string ⟨m.script.toArray⟩, .string ⟨m.region.toArray⟩, .slice a12 m.vars.length b12, .slice c12 m.keys.length d12] 25))
          have hb12b : Below w12a.heap.size w12a (w12a.alloc (.cells #[.string ⟨m.lang.toArray⟩, .string ⟨m.script.toArray⟩, .string ⟨m.region.toArray⟩, .slice a12 m.vars.length b12, .slice c12 m.keys.length d12] 25)) := (Below.refl _ _).alloc (Nat.le_refl _) _
          generalize w12a.alloc (.cells #[.string ⟨m.lang.toArray⟩, .string ⟨m.script.toArray⟩, .string ⟨m.region.toArray⟩, .slice a12 m.vars.length b12, .slice c12 m.keys.length d12] 25) = w14 at *
          have hb12c := hb12.then hb12b
          have ST14 := hid (ST12.out.below hb12c)
          have RD12 := hid (own12.rd.below hb12b)
          have HZ14 := hid (HZ12.out.below hb12c)
          have RD10b := hid (RD10.out.below hb12c)
          have BX10b := hid ((hb12c.block _ (lt_of_block BX10.out)).trans BX10.out)
          clear own12 hb12 hb12b hb12c
          clear HY12 HZ12 ST12 RD10 BX10
          have Cw14 := hid (AD.out w14 _ (srtK L) HZ14.out (srtK_perm L) ST14.out.bel)
          rw [HAP.out _ (srtK_perm L)] at Cw14
          obtain ⟨x0, x1, x2, x3, x4⟩ := box_cells ST14.out.bt
          have lt0 := lt_of_block ST14.out.bt
          simp only [S] at x0 x1 x2
          go_wp2_with fail
          with_reducible refine Cw14.out.mono ?_
          rintro e w14a ⟨v', rfl, own14, hb14⟩
          simp only at own14 ⊢
          obtain ⟨a14, b14, c14, d14, rfl⟩ := own14.shape
          clear x0 x1 x2 x3 x4 lt0 Cw14
          go_upto_region 20 with fail
          have BX14 := hid (heap_alloc_new w14a (.cells #[.string ⟨m.lang.toArray⟩, .string ⟨m.script.toArray⟩, .string ⟨m.region.toArray⟩, .slice a14 m.vars.length b14, .slice c14 m.keys.length d14] 25))
          have hb14b : Below w14a.heap.size w14a (w14a.alloc (.cells #[.string ⟨m.lang.toArray⟩, .string ⟨m.script.toArray⟩, .string ⟨m.region.toArray⟩, .slice a14 m.vars.length b14, .slice c14 m.keys.length d14] 25)) := (Below.refl _ _).alloc (Nat.le_refl _) _
          generalize w14a.alloc (.cells #[.string ⟨m.lang.toArray⟩, .string ⟨m.script.toArray⟩, .string ⟨m.region.toArray⟩, .slice a14 m.vars.length b14, .slice c14 m.keys.length d14] 25) = w16 at *
          have hb14c := hb14.then hb14b
          have ST16 := hid (ST14.out.below hb14c)
          have RD14 := hid (own14.rd.below hb14b)
          have RD10c := hid (RD10b.out.below hb14c)
          have BX10c := hid ((hb14c.block _ (lt_of_block BX10b.out)).trans BX10b.out)
          have RD12b := hid (RD12.out.below hb14c)
          have BX12b := hid ((hb14c.block _ (lt_of_block BX12.out)).trans BX12.out)
          clear own14 hb14 hb14b hb14c
          clear HZ14 ST14 RD10b BX10b RD12 BX12
          have SM1 := hid (lsame_any w16 _ _ m m RD10c.out RD12b.out)
          rw [sameB_refl] at SM1
          obtain ⟨y0, y1, y2, y3, y4⟩ := box_cells BX10c.out
          obtain ⟨z0, z1, z2, z3, z4⟩ := box_cells BX12b.out
          have lty := lt_of_block BX10c.out
          have ltz := lt_of_block BX12b.out
          cases ok
          all_goals
            go_wp2_with fail
            with_reducible refine SM1.out.mono ?_
            rintro e w17 ⟨rfl, hb17⟩
            have BA := hid ((hb17.block _ (lt_of_block BX10c.out)).trans BX10c.out)
            have BB := hid ((hb17.block _ (lt_of_block BX14.out)).trans BX14.out)
            have SM2 := hid (lsame_any w17 _ _ m m (RD10c.out.below hb17) (RD14.out.below hb17))
            rw [sameB_refl] at SM2
            have HB17 := hid (ST16.out.bel.then hb17)
            clear y0 y1 y2 y3 y4 z0 z1 z2 z3 z4 lty ltz hb17 SM1
            obtain ⟨y0, y1, y2, y3, y4⟩ := box_cells BA.out
            obtain ⟨z0, z1, z2, z3, z4⟩ := box_cells BB.out
            have lty := lt_of_block BA.out
            have ltz := lt_of_block BB.out
            go_wp2_with fail
            with_reducible refine SM2.out.mono ?_
            rintro e w18 ⟨rfl, hb18⟩
            go_wp2_with fail
            go_ret
            exact ⟨rfl, HB17.out.then hb18⟩
    · go_wp2_with fail
      go_ret
      exact ⟨rfl, ST3.out.bel⟩
end Go.Proofs.YtlmgmifaknlolaaGreat

/- LikelySaid: the order in which pairs are said is no matter, for every list of pairs and every tag. Condition: what came in is of bulk at most 1048576 (the form's own bound). -/
namespace Go.Proofs.YtlmgmifaknlolaaGreat
open Go.ChangeShapes Go.WideShapes Go.ChangeAt Go.RowKit
open Go.ChangeMaps (open_string shut_string)
set_option linter.unusedVariables false

theorem own : ownKnob Tryz.prog.godebug = none := by kernel_rfl

set_option maxRecDepth 100000 in
theorem lifted (os : Os) (started : os.Started) (H : Type) (enc : TypeId × Value → H) (F : Stop.Interp) :
    ReturnsInHanded {} Tryz.checked os 6 .any ((Rows.OpenSpec.upto Rows.likelySaidSpec).pre6 enc Tryz.prog Tryz.f6 Rows.likelySaidUptoRow.domain false) (((Rows.OpenSpec.upto Rows.likelySaidSpec).at F).post enc Tryz.prog Tryz.f6 false true false false) := by
  refine returnsInHanded_of_cond (C := Tryz.checked) (s := Rows.OpenSpec.upto Rows.likelySaidSpec) (k := Rows.uptoSmall) rfl own started (by kernel_rfl) Tryz.func6
    (OpenSpec.witness (enc := enc) (C := Tryz.checked) (s := Rows.OpenSpec.upto Rows.likelySaidSpec) (k := Rows.uptoSmall) rfl false ⟨#[], #[.slice none 0 0, .agg #[.string ByteArray.empty, .string ByteArray.empty, .string ByteArray.empty, .slice none 0 0, .slice none 0 0]], []⟩ 8 (by kernel_rfl) (by kernel_rfl) (by kernel_rfl)
      (x := ([.nil, .agg [.lit (.string []), .lit (.string []), .lit (.string []), .nil, .nil]], [], [])) (by kernel_rfl) rfl (by kernel_rfl)) ?_
  intro W base args ds gs before hval0 hW _ hk _
  have hval : ∀ (j : Nat) t v, Tryz.f6.params[j]? = some t → args[j]? = some v → Value.okWide Tryz.prog W .any base t v := hval0
  have hW' := hW
  obtain ⟨p, q, hA0, hV, rfl, hfz, hnd⟩ := hW
  have hA : DataW.TrodAll enc Tryz.prog W 0 (fun _ => true) true Tryz.f6.params.toList args.toList ds p := hA0
  rw [Tryz.params6] at hA hval
  obtain ⟨v0, vs0, d0, ds0, p0, q0, hargs, rfl, rfl, h0, r0⟩ := trodAll_cons hA
  obtain ⟨v1, vs1, d1, ds1, p1, q1, rfl, rfl, rfl, h1, r1⟩ := trodAll_cons r0
  obtain ⟨rfl, rfl, rfl⟩ := trodAll_nil r1
  obtain rfl : args = #[v0, v1] := by cases args; simp_all
  obtain ⟨rfl, rfl⟩ := trodVars_none hV
  obtain ⟨a0, len0, cap0, rfl⟩ := okWide_slice Tryz.underlying22 (hval 0 22 v0 rfl rfl)
  have k0 := h0
  have k1 := h1
  have lt0 : ∀ x ∈ p0, x.block < W.heap.size := by obtain ⟨m, hm⟩ := k0; exact DataW.trod_lt m _ _ _ hm
  have lt1 : ∀ x ∈ p1, x.block < W.heap.size := by obtain ⟨m, hm⟩ := k1; exact DataW.trod_lt m _ _ _ hm
  obtain ⟨l, rd, psz⟩ : ∃ l, RdP W (.slice a0 len0 cap0) l ∧ PSz l := by
    obtain ⟨fuel, hf⟩ := h0
    obtain ⟨ao, n, cp, l, e, rd, _, psz, _⟩ := open_rdP2 hf
    rw [← List.head_eq_of_cons_eq e] at rd
    exact ⟨l, rd, psz⟩
  obtain ⟨t1, rd1, sz1⟩ := open_tag2 (hval 1 25 v1 rfl rfl) h1
  have hz : szT t1 ≤ 1000000000 := by
    have hb : Rows.uptoBulkAll [d0, d1] ≤ 1048576 := of_decide_eq_true hk
    simp only [Rows.uptoBulkAll] at hb
    omega
  clear hA0 hval0
  refine (said_law W _ v1 l t1 rd psz rd1 hz).mono fun e W' ⟨he, bel⟩ => ?_
  subst he
  exact ⟨_, rfl, _, _, _, [], _, [], hW', trodAll_mk1 (shut_bool Tryz.underlying4 _), (trodAll_cons_mk (Below.trod laidOut (by kernel_rfl) (of_decide_eq_true (by kernel_rfl)) k0 bel lt0) (trodAll_cons_mk (Below.trod laidOut (by kernel_rfl) (of_decide_eq_true (by kernel_rfl)) k1 bel lt1) trodAll_mk0)), rfl, bel.frame _, fun h => by cases h⟩

/-- the statement -/
theorem likelySaidUpto : Rows.LikelySaidUptoSaid :=
  OpenClaim.holds_of_cond 6 Tryz.f6 rfl rfl rfl rfl rfl rfl rfl ⟨rfl, rfl, rfl, rfl, rfl⟩ rfl rfl rfl rfl rfl (by kernel_rfl) Tryz.func6 (by kernel_rfl)
    (of_decide_eq_true (by kernel_rfl)) (by unfold Func.isWrapper; first | (rw [if_pos (by decide +kernel)]; kernel_rfl) | (rw [if_neg (by decide +kernel)]; exact ⟨rfl, rfl⟩))
    (fun os started H enc _ F => lifted os started H enc F)
#print axioms likelySaidUpto
end Go.Proofs.YtlmgmifaknlolaaGreat
