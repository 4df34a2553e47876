/- Several texts in one: TbMem, TbSt, TbRow, TbPut. (joined by wip/merge.py) -/
import Derived.Test.YtjlfchnnhglbjaaGreatOpen
import Derived.Maps.OwnSet
import Derived.Maps.OwnOps
import Derived.Maps.StringElems
import Derived.Maps.RangeWalk
import Derived.Sort.KeysCollected
import Derived.Test.YtjlfchnnhglbjaaGreatTA
import Derived.Test.YtjlfchnnhglbjaaGreatApp
import Derived.Laws.OwnMore
import Derived.BigQuiet

/- Maps from texts that the program makes: what they hold (whatever their elements are), and their runs. -/
set_option linter.unusedVariables false
set_option linter.unusedSimpArgs false
namespace Go.Proofs.YtjlfchnnhglbjaaGreat
open Go.RowKit Go.Lib Go.Sort Go.Maps Go.WideMaps

theorem lawS : Keyed Tryz.prog 9 := string_keyed Tryz.underlying9
theorem key_ofS {k : Str} (h : k.length ≤ maxLen) : keyOf Tryz.prog 9 (.string ⟨k.toArray⟩) = some (.string k) := by
  have := keyOf_string_mk (P := Tryz.prog) Tryz.underlying9 (s := ⟨k.toArray⟩) (by rw [Lib.size_eq]; exact h)
  simpa using this
theorem strLit (k : Str) : WideAt.IsKeyLit (.string k) := by simp [WideAt.IsKeyLit]

/-- a kind of elements: as values, as data -/
structure El (α : Type) where
  v : α → Value
  d : α → DataW Unit
  rd : Value → Option (DataW Unit × List MemPlace)
  ok : ∀ x, rd (v x) = some (d x, [])
  inv : ∀ {u : Value} {z : DataW Unit × List MemPlace}, rd u = some z → ∃ x, u = v x ∧ z = (d x, [])
  inj : ∀ {x y : α}, d x = d y → x = y

/-- what a list says of a key -/
def lookE {α : Type} (L : List (Str × α)) (k : Str) : Option α := (L.find? (fun p => p.1 == k)).map (·.2)
theorem lookE_append {α : Type} (E F : List (Str × α)) (k : Str) : lookE (E ++ F) k = (lookE E k).or (lookE F k) := by
  unfold lookE
  rw [List.find?_append]
  cases E.find? (fun p => p.1 == k) <;> rfl
theorem lookE_none {α : Type} {E : List (Str × α)} {k : Str} : lookE E k = none ↔ ∀ p ∈ E, p.1 ≠ k := by
  unfold lookE
  rw [Option.map_eq_none_iff, List.find?_eq_none]
  simp
theorem lookE_some {α : Type} {E : List (Str × α)} {k : Str} (h : (lookE E k).isSome = true) : k ∈ E.map (·.1) := by
  unfold lookE at h
  rw [Option.isSome_map] at h
  obtain ⟨p, hp⟩ := Option.isSome_iff_exists.1 h
  have h1 := List.find?_some hp
  have h2 := List.mem_of_find?_eq_some hp
  simp at h1
  exact List.mem_map.2 ⟨p, h2, h1⟩
theorem lookE_mem {α : Type} {E : List (Str × α)} {k : Str} (h : k ∈ E.map (·.1)) : (lookE E k).isSome = true := by
  cases hl : lookE E k with
  | some v => rfl
  | none =>
    obtain ⟨p, hp, rfl⟩ := List.mem_map.1 h
    exact absurd rfl (lookE_none.1 hl p hp)
theorem lookE_in {α : Type} {E : List (Str × α)} {k : Str} {x : α} (h : lookE E k = some x) : (k, x) ∈ E := by
  unfold lookE at h
  obtain ⟨p, hp, rfl⟩ := Option.map_eq_some_iff.1 h
  have h1 := List.find?_some hp
  simp at h1
  have h2 := List.mem_of_find?_eq_some hp
  rw [← h1]; exact h2
theorem lookE_is {α : Type} {E : List (Str × α)} (hn : (E.map (·.1)).Nodup) {p : Str × α} (hp : p ∈ E) : lookE E p.1 = some p.2 := by
  induction E with
  | nil => cases hp
  | cons q E ih =>
    rw [List.map_cons, List.nodup_cons] at hn
    unfold lookE
    rw [List.find?_cons]
    rcases List.mem_cons.1 hp with rfl | hp
    · simp
    · have : q.1 ≠ p.1 := fun e => hn.1 (by rw [e]; exact List.mem_map.2 ⟨p, hp, rfl⟩)
      rw [show (q.1 == p.1) = false by simpa using this]
      exact ih hn.2 hp

/-- block b is a map of at most n entries that says L -/
def OwnE {α : Type} (E : El α) (w : World) (b n : Nat) (L : List (Str × α)) : Prop :=
  ∃ m : DataW Unit, w.ownsMap Tryz.prog 9 E.rd b n m ∧ ∀ k z, m.atKey (.string k) z = match lookE L k with | some v => E.d v | none => z

section
variable {α : Type} {E : El α} {w w' : World} {b n : Nat} {L : List (Str × α)}
theorem OwnE.lt (h : OwnE E w b n L) : b < w.heap.size := by obtain ⟨m, h, _⟩ := h; exact h.lt
theorem OwnE.mono {n' : Nat} (h : OwnE E w b n L) (hn : n ≤ n') : OwnE E w b n' L := by obtain ⟨m, h, h2⟩ := h; exact ⟨m, h.mono hn, h2⟩
theorem ownsMapE_block {P : Program} {k : TypeId} {R : Value → Option (DataW Unit × List MemPlace)} {m : DataW Unit} (h : w.ownsMap P k R b n m) (he : w'.heap[b]? = w.heap[b]?) : w'.ownsMap P k R b n m := by
  obtain ⟨es, clock, hb, F, hs, hD⟩ := h
  exact ⟨es, clock, he.trans hb, F, hs, hD⟩
theorem OwnE.block (h : OwnE E w b n L) (he : w'.heap[b]? = w.heap[b]?) : OwnE E w' b n L := by obtain ⟨m, h, h2⟩ := h; exact ⟨m, ownsMapE_block h he, h2⟩
theorem OwnE.below (h : OwnE E w b n L) (hb : Below w.heap.size w w') : OwnE E w' b n L := h.block (hb.block _ h.lt)
theorem OwnE.made (E : El α) (w : World) : OwnE E (w.alloc (.map #[] 0)) w.heap.size 0 [] := ⟨.map [], World.ownsMap_made _ _ _ _, fun k z => rfl⟩
theorem OwnE.isMap (h : OwnE E w b n L) : ∃ es clock, w.heap[b]? = some (.map es clock) := by obtain ⟨m, ⟨es, ck, hb, _⟩, _⟩ := h; exact ⟨es, ck, hb⟩

/-- 'v, ok := m[k]' -/
theorem OwnE.look_ok (h : OwnE E w b n L) {mt e : TypeId} (hu : Tryz.prog.underlying mt = some (.map 9 e)) {x0 : α} (hz : ∀ W : World, (zeroValue e).run Tryz.prog W = .ok (E.v x0) W) (k : Str) (hk : k.length ≤ maxLen) :
    (Instr.lookup mt (.map (some b)) (.string ⟨k.toArray⟩) true).run Tryz.prog w = .ok (.tuple #[E.v ((lookE L k).getD x0), .bool (lookE L k).isSome]) w := by
  obtain ⟨mm, hown, hat⟩ := h
  obtain ⟨v, ps, hrun, hv⟩ := hown.look_ok lawS hu (hz w) (E.ok x0) (key_ofS hk)
  obtain ⟨s, rfl, hz⟩ := E.inv hv
  rw [hat] at hz
  have hhas : Maps.has mm (.string k) = (lookE L k).isSome := by
    cases hl : lookE L k with
    | some v => rw [has_true_of_atKey (y := E.d v) (fun z => by rw [hat, hl])]; rfl
    | none => rw [has_false_of_atKey (fun z => by rw [hat, hl])]; rfl
  have hs : s = (lookE L k).getD x0 := by
    cases hl : lookE L k with
    | some v => rw [hl] at hz; exact (E.inj (Prod.mk.inj hz).1).symm
    | none => rw [hl] at hz; exact (E.inj (Prod.mk.inj hz).1).symm
  rw [← hhas, ← hs]
  exact hrun
/-- 'v := m[k]' -/
theorem OwnE.look (h : OwnE E w b n L) {mt e : TypeId} (hu : Tryz.prog.underlying mt = some (.map 9 e)) {x0 : α} (hz : ∀ W : World, (zeroValue e).run Tryz.prog W = .ok (E.v x0) W) (k : Str) (hk : k.length ≤ maxLen) :
    (Instr.lookup mt (.map (some b)) (.string ⟨k.toArray⟩) false).run Tryz.prog w = .ok (E.v ((lookE L k).getD x0)) w := by
  obtain ⟨mm, hown, hat⟩ := h
  obtain ⟨v, ps, hrun, hv⟩ := hown.lookup lawS hu (hz w) (E.ok x0) (key_ofS hk)
  obtain ⟨s, rfl, hz⟩ := E.inv hv
  rw [hat] at hz
  have hs : s = (lookE L k).getD x0 := by
    cases hl : lookE L k with
    | some v => rw [hl] at hz; exact (E.inj (Prod.mk.inj hz).1).symm
    | none => rw [hl] at hz; exact (E.inj (Prod.mk.inj hz).1).symm
  rw [← hs]
  exact hrun
/-- 'm[k] = x', of a key that was not there -/
theorem OwnE.say (h : OwnE E w b n L) (hn : n < maxLen) {mt e : TypeId} (hu : Tryz.prog.underlying mt = some (.map 9 e)) (k : Str) (x : α) (hk : k.length ≤ maxLen) (hno : lookE L k = none) :
    ∃ w', (Instr.mapUpdate mt (.map (some b)) (.string ⟨k.toArray⟩) (E.v x)).run Tryz.prog w = .ok () w' ∧ OwnE E w' b (n + 1) (L ++ [(k, x)]) ∧ w.grownBy w' (some b) := by
  obtain ⟨mm, hown, hat⟩ := h
  obtain ⟨w', hrun, hown', hgr⟩ := hown.update lawS hu hn (key_ofS hk) (E.ok x)
  refine ⟨w', hrun, ⟨_, hown', fun k' z => ?_⟩, hgr⟩
  rw [lookE_append]
  by_cases he : k' = k
  · subst he
    rw [atKey_put_same hown.isMap (strLit _), hno]
    simp [lookE]
  · rw [atKey_put_other (fun e => he (by simpa using e)), hat]
    cases hl : lookE L k' with
    | some u => rfl
    | none => simp [lookE, Ne.symm he]
/-- 'm[k] = x', where it says x already -/
theorem OwnE.again (h : OwnE E w b n L) (hn : n < maxLen) {mt e : TypeId} (hu : Tryz.prog.underlying mt = some (.map 9 e)) (k : Str) (x : α) (hk : k.length ≤ maxLen) (his : lookE L k = some x) :
    ∃ w', (Instr.mapUpdate mt (.map (some b)) (.string ⟨k.toArray⟩) (E.v x)).run Tryz.prog w = .ok () w' ∧ OwnE E w' b (n + 1) L ∧ w.grownBy w' (some b) := by
  obtain ⟨mm, hown, hat⟩ := h
  obtain ⟨w', hrun, hown', hgr⟩ := hown.update lawS hu hn (key_ofS hk) (E.ok x)
  refine ⟨w', hrun, ⟨_, hown', fun k' z => ?_⟩, hgr⟩
  by_cases he : k' = k
  · subst he
    rw [atKey_put_same hown.isMap (strLit _), his]
  · rw [atKey_put_other (fun e => he (by simpa using e)), hat]
/-- the keys of the map's datum -/
theorem OwnE.keys {m : DataW Unit} (hown : w.ownsMap Tryz.prog 9 E.rd b n m) (hat : ∀ k z, m.atKey (.string k) z = match lookE L k with | some v => E.d v | none => z) (hn : (L.map (·.1)).Nodup) : (L.map (·.1)).Perm (strKeys m) := by
  obtain ⟨es, hD, hpw, _⟩ := hown.entries lawS
  obtain ⟨es', hD', hko⟩ := hown.keysOf
  obtain rfl : es = es' := by rw [hD] at hD'; simpa using hD'
  subst hD
  refine perm_strKeys hpw (fun p hp => by obtain ⟨v, hv⟩ := hko p hp; obtain ⟨x, _, hx, _⟩ := Maps.keyOf_str Tryz.underlying9 hv; exact ⟨x, hx⟩) hn (fun x => ?_)
  have hl : ∀ z, (DataW.map es).atKey (.string x) z = match lookE L x with | some v => E.d v | none => z := hat x
  cases hx : lookE L x with
  | some v => rw [has_true_of_atKey (y := E.d v) (fun z => by rw [hl, hx])]; exact ⟨fun _ => rfl, fun _ => lookE_some (by rw [hx]; rfl)⟩
  | none =>
    rw [has_false_of_atKey (fun z => by rw [hl, hx])]
    exact ⟨fun h => (by have := lookE_mem h; rw [hx] at this; cases this), fun h => by cases h⟩
end

/-! ### the three kinds -/
/-- what was said, and where -/
def sdV (x : Str × Int × Int) : Value := .agg #[.string ⟨x.1.toArray⟩, .int .i64 x.2.1, .int .i64 x.2.2]
def sdD (x : Str × Int × Int) : DataW Unit := .agg [.lit (.string x.1), .lit (.int .i64 x.2.1), .lit (.int .i64 x.2.2)]
def rdSd (v : Value) : Option (DataW Unit × List MemPlace) := match v with
  | .agg cs => match cs.toList with
    | [.string a, .int .i64 b, .int .i64 c] => some (sdD (a.data.toList, b, c), [])
    | _ => none
  | _ => none
def elSd : El (Str × Int × Int) where
  v := sdV
  d := sdD
  rd := rdSd
  ok := fun x => by simp [rdSd, sdV]
  inv := by
    intro u z h
    unfold rdSd at h
    split at h
    · rename_i cs
      split at h
      · rename_i a b c e
        cases h
        refine ⟨(a.data.toList, b, c), ?_, rfl⟩
        obtain ⟨l⟩ := cs
        simp only at e
        simp [sdV, e]
      · cases h
    · cases h
  inj := by
    rintro ⟨a, b, c⟩ ⟨d, e, f⟩ h
    simpa [sdD] using h
/-- a map: nil, or its block -/
def mpI : Option Nat → Int
  | none => -1
  | some b => b
def rdMp (v : Value) : Option (DataW Unit × List MemPlace) := match v with
  | .map b => some (.lit (.int .i64 (mpI b)), [])
  | _ => none
def elMp : El (Option Nat) where
  v := fun b => .map b
  d := fun b => .lit (.int .i64 (mpI b))
  rd := rdMp
  ok := fun x => rfl
  inv := by
    intro u z h
    unfold rdMp at h
    split at h
    · cases h; exact ⟨_, rfl, rfl⟩
    · cases h
  inj := by
    intro x y h
    have h : mpI x = mpI y := by simpa using h
    cases x <;> cases y <;> simp [mpI] at h ⊢ <;> omega
/-- maps by their blocks -/
def mpL (V : List (Str × Nat)) : List (Str × Option Nat) := V.map fun p => (p.1, some p.2)
theorem look_mp (V : List (Str × Nat)) (k : Str) : lookE (mpL V) k = (lookE V k).map some := by
  unfold lookE mpL
  rw [List.find?_map, Option.map_map, Option.map_map]; rfl
theorem mpL_append (V U : List (Str × Nat)) : mpL (V ++ U) = mpL V ++ mpL U := by simp [mpL]
def rdBo (v : Value) : Option (DataW Unit × List MemPlace) := match v with
  | .bool b => some (.lit (.bool b), [])
  | _ => none
def elBo : El Bool where
  v := fun b => .bool b
  d := fun b => .lit (.bool b)
  rd := rdBo
  ok := fun x => rfl
  inv := by
    intro u z h
    unfold rdBo at h
    split at h
    · cases h; exact ⟨_, rfl, rfl⟩
    · cases h
  inj := by intro x y h; simpa using h
/-- a set of texts -/
def setL (L : List Str) : List (Str × Bool) := L.map fun k => (k, true)
theorem look_set (L : List Str) (k : Str) : lookE (setL L) k = if k ∈ L then some true else none := by
  unfold lookE setL
  rw [List.find?_map]
  by_cases h : k ∈ L
  · rw [if_pos h]
    cases hf : L.find? ((fun p : Str × Bool => p.1 == k) ∘ fun k => (k, true)) with
    | none =>
      rw [List.find?_eq_none] at hf
      exact absurd (by simp) (hf k h)
    | some x => rfl
  · rw [if_neg h]
    cases hf : L.find? ((fun p : Str × Bool => p.1 == k) ∘ fun k => (k, true)) with
    | none => rfl
    | some x =>
      have h1 := List.find?_some hf
      have h2 := List.mem_of_find?_eq_some hf
      simp at h1
      exact absurd (h1 ▸ h2) h
end Go.Proofs.YtjlfchnnhglbjaaGreat

/- The table in memory: a map of maps, a map, two sets; what a turn of one of them does. -/
set_option linter.unusedVariables false
set_option linter.unusedSimpArgs false
namespace Go.Proofs.YtjlfchnnhglbjaaGreat
open Go.RowKit Go.Lib Go.Sort Go.Maps Go.WideMaps

def sdOf (r : Rw) : Str × Int × Int := (r.text, (r.file : Int), r.at')
def sdL (l : List Rw) : List (Str × (Str × Int × Int)) := l.map fun r => (r.path, sdOf r)
def rowsOf (t : Tb) (loc : Str) : List Rw := t.rows.filter (fun r => r.loc == loc)
theorem look_sd (l : List Rw) (k : Str) : lookE (sdL l) k = (l.find? (fun r => r.path == k)).map sdOf := by
  unfold lookE sdL
  rw [List.find?_map, Option.map_map]; rfl
theorem look_rows (t : Tb) (loc path : Str) : lookE (sdL (rowsOf t loc)) path = (findR t.rows loc path).map sdOf := by
  rw [look_sd, rowsOf, findR, List.find?_filter]
  congr 2
  funext r
  rw [Bool.eq_iff_iff]
  simp
theorem look_als {l : List Rw} (h : ∀ r ∈ l, r.loc = tRoot) (path : Str) : lookE (sdL l) path = (findR l tRoot path).map sdOf := by
  rw [look_sd]
  congr 1
  unfold findR
  induction l with
  | nil => rfl
  | cons r l ih =>
    have hr := h r (List.mem_cons_self ..)
    rw [List.find?_cons, List.find?_cons, hr, ih (fun x hx => h x (List.mem_cons_of_mem _ hx))]
    simp
theorem find_no {l : List Rw} {loc path : Str} (h : ∀ r ∈ l, r.loc ≠ loc) : findR l loc path = none := by
  unfold findR
  rw [List.find?_eq_none]
  intro r hr
  simp [h r hr]

structure TbAt (W : World) (Bt bv ba bn bp N : Nat) (V : List (Str × Nat)) (t : Tb) : Prop where
  box : W.heap[Bt]? = some (.cells #[.map (some bv), .map (some ba), .map (some bn), .map (some bp)] 73 (0, 0))
  vals : OwnE elMp W bv N (mpL V)
  als : OwnE elSd W ba N (sdL t.als)
  names : OwnE elBo W bn N (setL t.names)
  paths : OwnE elBo W bp N (setL t.paths)
  each : ∀ p ∈ V, OwnE elSd W p.2 N (sdL (rowsOf t p.1))
  keys : (V.map (·.1)).Nodup
  has : ∀ r ∈ t.rows, r.loc ∈ V.map (·.1)
  root : ∀ r ∈ t.als, r.loc = tRoot
  apart : (bv :: ba :: bn :: bp :: V.map (·.2)).Nodup

section
variable {W W' : World} {Bt bv ba bn bp N : Nat} {V : List (Str × Nat)} {t : Tb} {α : Type} {E : El α} {b n c : Nat} {L : List (Str × α)}
theorem OwnE.kept (h : OwnE E W b n L) (gr : W.grownBy W' (some c)) (ne : b ≠ c) : OwnE E W' b n L := h.block (gr.block b h.lt (by simpa using ne))
theorem box_kept {cs : Array Value} {ty : TypeId} (hb : W.heap[Bt]? = some (.cells cs ty (0, 0))) (h : OwnE E W c n L) (gr : W.grownBy W' (some c)) : W'.heap[Bt]? = some (.cells cs ty (0, 0)) := by
  have ne : Bt ≠ c := by
    rintro rfl
    obtain ⟨es, ck, hm⟩ := h.isMap
    rw [hb] at hm; cases hm
  rw [gr.block Bt (Array.getElem?_eq_some_iff.1 hb).1 (by simpa using ne)]; exact hb
theorem TbAt.below (h : TbAt W Bt bv ba bn bp N V t) (hb : Below W.heap.size W W') : TbAt W' Bt bv ba bn bp N V t :=
  ⟨(hb.block _ (Array.getElem?_eq_some_iff.1 h.box).1).trans h.box, h.vals.below hb, h.als.below hb, h.names.below hb, h.paths.below hb, fun p hp => (h.each p hp).below hb, h.keys, h.has, h.root, h.apart⟩
theorem TbAt.mono {N' : Nat} (h : TbAt W Bt bv ba bn bp N V t) (hn : N ≤ N') : TbAt W Bt bv ba bn bp N' V t :=
  ⟨h.box, h.vals.mono hn, h.als.mono hn, h.names.mono hn, h.paths.mono hn, fun p hp => (h.each p hp).mono hn, h.keys, h.has, h.root, h.apart⟩
theorem TbAt.lo (h : TbAt W Bt bv ba bn bp N V t) : bv ≠ ba ∧ bv ≠ bn ∧ bv ≠ bp ∧ ba ≠ bn ∧ ba ≠ bp ∧ bn ≠ bp ∧ ∀ p ∈ V, p.2 ≠ bv ∧ p.2 ≠ ba ∧ p.2 ≠ bn ∧ p.2 ≠ bp := by
  have ha := h.apart
  simp only [List.nodup_cons, List.mem_cons, not_or] at ha
  obtain ⟨⟨h1, h2, h3, h4⟩, ⟨h5, h6, h7⟩, ⟨h8, h9⟩, h10, _⟩ := ha
  refine ⟨h1, h2, h3, h5, h6, h8, fun p hp => ?_⟩
  have hm : p.2 ∈ V.map (·.2) := List.mem_map.2 ⟨p, hp, rfl⟩
  exact ⟨fun e => h4 (e ▸ hm), fun e => h7 (e ▸ hm), fun e => h9 (e ▸ hm), fun e => h10 (e ▸ hm)⟩
/-- an alias more -/
theorem TbAt.addAl (h : TbAt W Bt bv ba bn bp N V t) (r : Rw) (hr : r.loc = tRoot) (o : OwnE elSd W' ba (N + 1) (sdL t.als ++ [(r.path, sdOf r)])) (gr : W.grownBy W' (some ba)) : TbAt W' Bt bv ba bn bp (N + 1) V { t with als := t.als ++ [r] } := by
  obtain ⟨h1, h2, h3, h5, h6, h8, hV⟩ := h.lo
  have hN : N ≤ N + 1 := Nat.le_succ N
  exact ⟨box_kept h.box h.als gr, (h.vals.kept gr h1).mono hN, by rw [show sdL (t.als ++ [r]) = sdL t.als ++ [(r.path, sdOf r)] by simp [sdL]]; exact o, (h.names.kept gr (Ne.symm h5)).mono hN, (h.paths.kept gr (Ne.symm h6)).mono hN,
    fun p hp => ((h.each p hp).kept gr (hV p hp).2.1).mono hN, h.keys, h.has, fun x hx => by
      rcases List.mem_append.1 hx with hx | hx
      · exact h.root x hx
      · rw [List.mem_singleton.1 hx]; exact hr, h.apart⟩
/-- a path more -/
theorem TbAt.addPath (h : TbAt W Bt bv ba bn bp N V t) {ps : List Str} (o : OwnE elBo W' bp (N + 1) (setL ps)) (gr : W.grownBy W' (some bp)) : TbAt W' Bt bv ba bn bp (N + 1) V { t with paths := ps } := by
  obtain ⟨h1, h2, h3, h5, h6, h8, hV⟩ := h.lo
  have hN : N ≤ N + 1 := Nat.le_succ N
  exact ⟨box_kept h.box h.paths gr, (h.vals.kept gr h3).mono hN, (h.als.kept gr h6).mono hN, (h.names.kept gr h8).mono hN, o, fun p hp => ((h.each p hp).kept gr (hV p hp).2.2.2).mono hN, h.keys, h.has, h.root, h.apart⟩
/-- a locale more -/
theorem TbAt.addName (h : TbAt W Bt bv ba bn bp N V t) {ns : List Str} (o : OwnE elBo W' bn (N + 1) (setL ns)) (gr : W.grownBy W' (some bn)) : TbAt W' Bt bv ba bn bp (N + 1) V { t with names := ns } := by
  obtain ⟨h1, h2, h3, h5, h6, h8, hV⟩ := h.lo
  have hN : N ≤ N + 1 := Nat.le_succ N
  exact ⟨box_kept h.box h.names gr, (h.vals.kept gr h2).mono hN, (h.als.kept gr h5).mono hN, o, (h.paths.kept gr (Ne.symm h8)).mono hN, fun p hp => ((h.each p hp).kept gr (hV p hp).2.2.1).mono hN, h.keys, h.has, h.root, h.apart⟩
/-- a row more, in the map of its locale -/
theorem TbAt.addRow (h : TbAt W Bt bv ba bn bp N V t) (r : Rw) {b : Nat} (hp : (r.loc, b) ∈ V) (o : OwnE elSd W' b (N + 1) (sdL (rowsOf t r.loc) ++ [(r.path, sdOf r)])) (gr : W.grownBy W' (some b)) : TbAt W' Bt bv ba bn bp (N + 1) V { t with rows := t.rows ++ [r] } := by
  obtain ⟨h1, h2, h3, h5, h6, h8, hV⟩ := h.lo
  obtain ⟨v1, v2, v3, v4⟩ := hV _ hp
  have hN : N ≤ N + 1 := Nat.le_succ N
  have ho := h.each _ hp
  have hap := h.apart
  refine ⟨box_kept h.box ho gr, (h.vals.kept gr (Ne.symm v1)).mono hN, (h.als.kept gr (Ne.symm v2)).mono hN, (h.names.kept gr (Ne.symm v3)).mono hN, (h.paths.kept gr (Ne.symm v4)).mono hN, fun p hq => ?_, h.keys, fun x hx => ?_, h.root, h.apart⟩
  · by_cases e : p.1 = r.loc
    · have : p = (r.loc, b) := by
        have hk := h.keys
        have i1 := lookE_is hk hq
        have i2 := lookE_is hk hp
        rw [e, i2] at i1
        cases i1
        obtain ⟨x, y⟩ := p
        simp only at e ⊢
        rw [e]
      subst this
      rw [show rowsOf { t with rows := t.rows ++ [r] } r.loc = rowsOf t r.loc ++ [r] by simp [rowsOf], show sdL (rowsOf t r.loc ++ [r]) = sdL (rowsOf t r.loc) ++ [(r.path, sdOf r)] by simp [sdL]]
      exact o
    · have hne : p.2 ≠ b := by
        intro e2
        have hnd : (V.map (·.2)).Nodup := by
          simp only [List.nodup_cons] at hap
          exact hap.2.2.2.2
        exact e (by
          have := (List.pairwise_map.1 hnd)
          obtain ⟨i, hi, hpi⟩ := List.getElem_of_mem hq
          obtain ⟨j, hj, hpj⟩ := List.getElem_of_mem hp
          by_cases hij : i = j
          · subst hij; rw [← hpi, hpj]
          · exfalso
            have key : ∀ (i j : Nat) (hi : i < V.length) (hj : j < V.length), i < j → V[i].2 ≠ V[j].2 := fun i j hi hj hlt => (List.pairwise_iff_getElem.1 this) i j hi hj hlt
            rcases Nat.lt_or_gt_of_ne hij with hl | hl
            · exact key i j hi hj hl (by rw [hpi, hpj]; exact e2)
            · exact key j i hj hi hl (by rw [hpi, hpj]; exact e2.symm))
      rw [show rowsOf { t with rows := t.rows ++ [r] } p.1 = rowsOf t p.1 by simp [rowsOf, Ne.symm e]]
      exact ((h.each p hq).kept gr hne).mono hN
  · rcases List.mem_append.1 hx with hx | hx
    · exact h.has x hx
    · rw [List.mem_singleton.1 hx]; exact List.mem_map.2 ⟨_, hp, rfl⟩
/-- a map for a locale that has none -/
theorem TbAt.addMap (h : TbAt W Bt bv ba bn bp N V t) (loc : Str) (hno : lookE V loc = none) (o : OwnE elMp W' bv (N + 1) (mpL V ++ [(loc, some W.heap.size)])) (gr : (W.alloc (.map #[] 0)).grownBy W' (some bv)) : TbAt W' Bt bv ba bn bp (N + 1) (V ++ [(loc, W.heap.size)]) t := by
  have ha : Below W.heap.size W (W.alloc (.map #[] 0)) := (Below.refl _ _).alloc (Nat.le_refl _) _
  have h' := h.below ha
  obtain ⟨h1, h2, h3, h5, h6, h8, hV⟩ := h.lo
  have hN : N ≤ N + 1 := Nat.le_succ N
  have hnl := lookE_none.1 hno
  have lv := h.vals.lt
  refine ⟨box_kept h'.box h'.vals gr, by rw [mpL_append]; exact o, (h'.als.kept gr (Ne.symm h1)).mono hN, (h'.names.kept gr (Ne.symm h2)).mono hN, (h'.paths.kept gr (Ne.symm h3)).mono hN, fun p hp => ?_, ?_, fun r hr => ?_, h.root, ?_⟩
  · rcases List.mem_append.1 hp with hp | hp
    · exact ((h'.each p hp).kept gr (hV p hp).1).mono hN
    · rw [List.mem_singleton.1 hp]
      have he : rowsOf t loc = [] := by
        unfold rowsOf
        rw [List.filter_eq_nil_iff]
        intro r hr e
        obtain ⟨q, hq, he⟩ := List.mem_map.1 (h.has r hr)
        have : r.loc = loc := by simpa using e
        exact hnl q hq (he.trans this)
      show OwnE elSd W' W.heap.size (N + 1) (sdL (rowsOf t loc))
      rw [he]
      exact ((OwnE.made elSd W).kept gr (by omega)).mono (Nat.zero_le _)
  · rw [List.map_append, List.nodup_append]
    refine ⟨h.keys, by simp, fun a ha' b hb => ?_⟩
    obtain ⟨q, hq, rfl⟩ := List.mem_map.1 ha'
    simp only [List.map_cons, List.map_nil, List.mem_singleton] at hb
    rw [hb]; exact hnl q hq
  · rw [List.map_append]; exact List.mem_append.2 (Or.inl (h.has r hr))
  · have hap := h.apart
    have hlt : ∀ x ∈ bv :: ba :: bn :: bp :: V.map (·.2), x < W.heap.size := by
      intro x hx
      simp only [List.mem_cons] at hx
      rcases hx with rfl | rfl | rfl | rfl | hx
      · exact lv
      · exact h.als.lt
      · exact h.names.lt
      · exact h.paths.lt
      · obtain ⟨q, hq, rfl⟩ := List.mem_map.1 hx
        exact (h.each q hq).lt
    rw [List.map_append, show bv :: ba :: bn :: bp :: (V.map (·.2) ++ [(loc, W.heap.size)].map (·.2)) = (bv :: ba :: bn :: bp :: V.map (·.2)) ++ [W.heap.size] by simp, List.nodup_append]
    refine ⟨hap, by simp, fun x hx y hy => ?_⟩
    rw [List.mem_singleton.1 hy]
    have := hlt x hx
    omega
end
end Go.Proofs.YtjlfchnnhglbjaaGreat

/- Rows of elements of several cells: read, owned, appended to, turned. -/
set_option linter.unusedVariables false
set_option linter.unusedSimpArgs false
namespace Go.Proofs.YtjlfchnnhglbjaaGreat
open Go.RowKit Go.Lib Go.Sort

/-- elements of k cells -/
structure Enc (α : Type) (k : Nat) where
  enc : α → List Value
  len : ∀ x, (enc x).length = k
  one : ∀ x, ∀ u ∈ enc x, u.oneCell' = true

section
variable {α : Type} {k : Nat} {E : Enc α k}
def flatL (E : Enc α k) (l : List α) : List Value := l.flatMap E.enc
theorem flatL_len (E : Enc α k) : ∀ l : List α, (flatL E l).length = l.length * k
  | [] => by simp [flatL]
  | a :: r => by
    have := flatL_len E r
    simp only [flatL, List.flatMap_cons, List.length_append, List.length_cons] at this ⊢
    rw [this, E.len, Nat.succ_mul, Nat.add_comm]
theorem flatL_append (E : Enc α k) (l m : List α) : flatL E (l ++ m) = flatL E l ++ flatL E m := by simp [flatL]
theorem flatL_get (E : Enc α k) : ∀ (l : List α) (j i : Nat) (h : j < l.length) (hi : i < k), (flatL E l)[j * k + i]? = (E.enc (l[j]'h))[i]?
  | [], j, i, h, hi => by simp at h
  | a :: r, 0, i, h, hi => by
    simp only [flatL, List.flatMap_cons, Nat.zero_mul, Nat.zero_add]
    rw [List.getElem?_append_left (by rw [E.len]; exact hi)]; rfl
  | a :: r, j + 1, i, h, hi => by
    have ih := flatL_get E r j i (by simpa using h) hi
    simp only [flatL, List.flatMap_cons] at ih ⊢
    rw [List.getElem?_append_right (by rw [E.len, Nat.succ_mul]; omega), E.len, show (j + 1) * k + i - k = j * k + i by rw [Nat.succ_mul]; omega, ih]
    rfl
theorem flatL_set (E : Enc α k) : ∀ (l : List α) (j i : Nat) (h : j < l.length) (hi : i < k) (u : Value) (y : α), E.enc y = (E.enc (l[j]'h)).set i u → (flatL E l).set (j * k + i) u = flatL E (l.set j y)
  | [], j, i, h, hi, u, y, he => by simp at h
  | a :: r, 0, i, h, hi, u, y, he => by
    simp only [flatL, List.flatMap_cons, Nat.zero_mul, Nat.zero_add, List.set_cons_zero]
    rw [List.set_append_left _ _ (by rw [E.len]; exact hi), he]; rfl
  | a :: r, j + 1, i, h, hi, u, y, he => by
    have ih := flatL_set E r j i (by simpa using h) hi u y he
    simp only [flatL, List.flatMap_cons, List.set_cons_succ] at ih ⊢
    rw [List.set_append_right _ _ (by rw [E.len, Nat.succ_mul]; omega), E.len, show (j + 1) * k + i - k = j * k + i by rw [Nat.succ_mul]; omega, ih]

/-- v reads as l -/
def RdL (E : Enc α k) (w : World) (v : Value) (l : List α) : Prop :=
  ∃ ao cp, v = .slice ao l.length cp ∧ (l.length ≤ cp ∧ l.length ≤ 9223372036854775807 ∧ (ao = none → l = [] ∧ cp = 0)) ∧
    (l ≠ [] → ∃ b off, ao = some ⟨b, off, none⟩ ∧ b < w.heap.size ∧ ∀ j i x, (hj : j < l.length) → (E.enc (l[j]'hj))[i]? = some x → w.cell? ⟨b, off + j * k + i, none⟩ = some x)
/-- v is l, in a block from B on that nobody else has -/
def OwnL (E : Enc α k) (ty : TypeId) (w : World) (B : Nat) (v : Value) (l : List α) : Prop := w.ownsRow B ty k v l.length (flatL E l)

variable {w w' : World} {v : Value} {l : List α} {B : Nat} {ty : TypeId}
theorem RdL.nil (E : Enc α k) (w : World) : RdL E w (.slice none 0 0) [] := ⟨none, 0, rfl, by simp, fun h => absurd rfl h⟩
theorem RdL.below (h : RdL E w v l) (hb : Below w.heap.size w w') : RdL E w' v l := by
  obtain ⟨ao, cp, hv, hl, hr⟩ := h
  refine ⟨ao, cp, hv, hl, fun hne => ?_⟩
  obtain ⟨b, off, ha, hlt, hc⟩ := hr hne
  exact ⟨b, off, ha, Nat.lt_of_lt_of_le hlt hb.size, fun j i x hj hx => (hb.cell (p := ⟨b, off + j * k + i, none⟩) hlt).trans (hc j i x hj hx)⟩
theorem RdL.slice (h : RdL E w v l) : ∃ ao cp, v = .slice ao l.length cp ∧ l.length ≤ cp := by obtain ⟨ao, cp, hv, hl, _⟩ := h; exact ⟨ao, cp, hv, hl.1⟩
theorem OwnL.shape (h : OwnL E ty w B v l) : (v = .slice none 0 0 ∧ l = []) ∨
    ∃ g cap cur, v = .slice (some ⟨g, 0, none⟩) l.length cap ∧ B ≤ g ∧ w.heap[g]? = some (.cells cur ty (0, 0)) ∧ l.length ≤ cap ∧ cap ≤ maxLen ∧ cur.size = cap * k ∧ cur.toList.take (l.length * k) = flatL E l := by
  rcases h.2 with ⟨h1, h2⟩ | ⟨g, cap, cur, h1, h2, h3, h4, h5, h6, h7⟩
  · exact Or.inl ⟨h1, List.eq_nil_of_length_eq_zero h2⟩
  · exact Or.inr ⟨g, cap, cur, h1, h2, h3, h4, h5, h6, h7⟩
theorem OwnL.slice (h : OwnL E ty w B v l) : ∃ ao cp, v = .slice ao l.length cp ∧ l.length ≤ cp := by
  rcases h.shape with ⟨rfl, rfl⟩ | ⟨g, cap, cur, rfl, _, _, hn, _⟩
  · exact ⟨none, 0, rfl, Nat.le_refl _⟩
  · exact ⟨_, cap, rfl, hn⟩
theorem OwnL.rd (h : OwnL E ty w B v l) : RdL E w v l := by
  rcases h.shape with ⟨rfl, rfl⟩ | ⟨g, cap, cur, rfl, hB, hg, hn, hm, hs, ht⟩
  · exact RdL.nil E w
  · refine ⟨_, _, rfl, ⟨hn, by unfold maxLen at hm; omega, fun e => by cases e⟩, fun _ => ⟨g, 0, rfl, lt_of_block hg, fun j i x hj hx => ?_⟩⟩
    have hi : i < k := by have := (List.getElem?_eq_some_iff.1 hx).1; rwa [E.len] at this
    rw [Nat.zero_add]
    exact cells_at hg ht _ _ (by rw [flatL_get E l j i hj hi]; exact hx)
theorem OwnL.nil (E : Enc α k) (ty : TypeId) (w : World) (B : Nat) : OwnL E ty w B (.slice none 0 0) [] := World.ownsRow_nil _ _ _ _
theorem OwnL.below (h : OwnL E ty w B v l) (hb : Below w.heap.size w w') : OwnL E ty w' B v l := own_below h hb
theorem OwnL.mono {C : Nat} (h : OwnL E ty w B v l) (hc : C ≤ B) : OwnL E ty w C v l := by
  unfold OwnL World.ownsRow at *
  refine ⟨h.1, ?_⟩
  rcases h.2 with h | ⟨g, cap, cur, h1, h2, h3⟩
  · exact Or.inl h
  · exact Or.inr ⟨g, cap, cur, h1, Nat.le_trans hc h2, h3⟩
theorem OwnL.row {g m c : Nat} (h : OwnL E ty w B (.slice (some ⟨g, 0, none⟩) m c) l) : ∃ cur, w.heap[g]? = some (.cells cur ty (0, 0)) := by
  rcases h.2 with ⟨h1, _⟩ | ⟨g', cap, cur, h1, _, hg, _⟩
  · cases h1
  · simp only [Value.slice.injEq, Option.some.injEq, Addr.mk.injEq, and_true, true_and] at h1
    obtain ⟨rfl, _⟩ := h1
    exact ⟨cur, hg⟩
theorem OwnL.some' {n c : Nat} {a : Option Addr} (h : OwnL E ty w B (.slice a n c) l) (hne : l ≠ []) : ∃ g, a = some ⟨g, 0, none⟩ := by
  rcases h.shape with ⟨_, e⟩ | ⟨g, cap, cur, e, _⟩
  · exact absurd e hne
  · cases e; exact ⟨g, rfl⟩
theorem OwnL.cell {g m c : Nat} (h : OwnL E ty w B (.slice (some ⟨g, 0, none⟩) m c) l) (j i : Nat) (x : Value) (hj : j < l.length) (hx : (E.enc (l[j]'hj))[i]? = some x) :
    w.cell? ⟨g, j * k + i, none⟩ = some x ∧ w.frozen? ⟨g, j * k + i, none⟩ = false ∧ g < w.heap.size := by
  rcases h.shape with ⟨e, rfl⟩ | ⟨g', cap, cur, e, hB, hg, hn, hm, hs, ht⟩
  · cases e
  · cases e
    have hi : i < k := by have := (List.getElem?_eq_some_iff.1 hx).1; rwa [E.len] at this
    exact ⟨cells_at hg ht _ _ (by rw [flatL_get E l j i hj hi]; exact hx), frozen_of_row w g _ _ _ hg, lt_of_block hg⟩
theorem OwnL.set {g c m : Nat} {l2 : List α} (h : OwnL E ty w B (.slice (some ⟨g, 0, none⟩) m c) l) (hm : m = l.length) (j i : Nat) (hj : j < l.length) (hi : i < k) (u : Value) (y : α) (hy : E.enc y = (E.enc (l[j]'hj)).set i u) (hl2 : l.set j y = l2) :
    OwnL E ty (w.setCell ⟨g, j * k + i, none⟩ u) B (.slice (some ⟨g, 0, none⟩) m c) l2 := by
  subst hm
  have := (World.ownsRow.stored h (j * k + i) u).1
  rw [flatL_set E l j i hj hi u y hy, hl2] at this
  exact own_cast this (by rw [← hl2, List.length_set]) rfl

theorem cells_new (w : World) (cs : Array Value) (e : TypeId) (j : Nat) (u : Value) (h : cs.toList[j]? = some u) : (w.alloc (.cells cs e)).cell? ((⟨w.heap.size, 0, none⟩ : Addr).add j) = some u := by
  have hx := cell_of_row _ _ j _ _ _ (heap_alloc_new w (.cells cs e))
  have hadd : ((⟨w.heap.size, 0, none⟩ : Addr).add j) = ⟨w.heap.size, j, none⟩ := by
    unfold Addr.add
    split
    · next e => subst e; rfl
    · simp
  rw [hadd, hx]
  simpa using h

/-- one element more at the end of a list that the call owns -/
theorem wpList_pushL {ops : Array Oper} {rest : List Oper} {o : Oper} {a : Act} {Q : Exit → Act → World → Prop} (hgd : o.guard = none) (s x : Operand) {t : TypeId}
    (ho : o.op = .call { callee := .builtin .append, args := #[s, x], argTypes := #[t, t] })
    {z : Value} {bytes : Nat} (ht : Tryz.prog.underlying t = some (.slice ty)) (hinf : (Tryz.prog.info? ty).map (fun i => (i.zero, i.size, i.bytes)) = some (some z, k, bytes)) (hzs : z.cells.size = k) (hk : 0 < k)
    (B : Nat) (v : Value) (l : List α) (y : α) (hs : a.eval s = v) (hown : OwnL E ty w B v l) (hx : a.eval x = .slice (some ⟨w.heap.size, 0, none⟩) 1 1) (hl : l.length + 1 ≤ maxLen) (hl2 : (l.length + 1) * bytes ≤ 140737488355328) (hB : B ≤ w.heap.size) (cs : Array Value) (hcs : cs.toList = E.enc y)
    (h : ∀ v' w', OwnL E ty w' B v' (l ++ [y]) → w.grownBy w' v.ownBlock → Moved w v v' → wpList Tryz.prog ops Q rest (a.put o.dst v') w') :
    wpList Tryz.prog ops Q (o :: rest) a (w.alloc (.cells cs ty)) := by
  obtain ⟨i0, hi, hz0, hz1, hz2⟩ := info_parts hinf
  refine wpList_app hgd s x t ho B ty i0 z k bytes ht hi hz0 hz1 hz2 hzs hk v l.length (flatL E l) hs (World.ownsRow.alloc hown _) ⟨w.heap.size, 0, none⟩ 1 1 (E.enc y) hx (by rw [E.len, Nat.one_mul]) (fun j u hu => cells_new w cs ty j u (by rw [hcs]; exact hu)) (E.one y) hl hl2 (by simp; omega) ?_
  intro v' w' own gr mv
  refine h v' w' (own_cast own (by simp) (by rw [flatL_append]; simp [flatL])) ⟨gr.os, gr.tape, gr.output, Nat.le_trans (by simp) gr.size, fun k hk hne => ?_⟩ ?_
  · rw [gr.block k (by simp; omega) hne]; exact heap_alloc_old _ _ hk
  · rcases mv with m | ⟨k, h1, h2⟩
    · exact Or.inl m
    · exact Or.inr ⟨k, h1, by simp at h2; omega⟩
end
end Go.Proofs.YtjlfchnnhglbjaaGreat

/- The operations on the table's maps, at the operation; table.put. -/
set_option linter.unusedVariables false
set_option linter.unusedSimpArgs false
namespace Go.Proofs.YtjlfchnnhglbjaaGreat
open Go.RowKit Go.Lib Go.Sort Go.Maps Go.WideMaps

section
variable {α : Type} {E : El α} {w : World} {b n : Nat} {L : List (Str × α)} {ops : Array Oper} {rest : List Oper} {o : Oper} {a : Act} {Q : Exit → Act → World → Prop} {mt e : TypeId}
/-- 'v, ok := m[k]' -/
theorem wpList_lookE (h : OwnE E w b n L) (hu : Tryz.prog.underlying mt = some (.map 9 e)) {x0 : α} (hz : ∀ W : World, (zeroValue e).run Tryz.prog W = .ok (E.v x0) W) (hg : o.guard = none) (m x : Operand) (hop : o.op = Op.lookup mt m x true) (hm : a.eval m = .map (some b)) (k : Str) (hx : a.eval x = .string ⟨k.toArray⟩) (hk : k.length ≤ maxLen)
    (v : Value) (q : Bool) (hv : E.v ((lookE L k).getD x0) = v) (hq : (lookE L k).isSome = q)
    (hK : wpList Tryz.prog ops Q rest (a.put o.dst (.tuple #[v, .bool q])) w) : wpList Tryz.prog ops Q (o :: rest) a w := by
  refine wpList_plain hg fun K' hK' => ?_
  have hrun := h.look_ok hu hz k hk
  rw [hv, hq] at hrun
  unfold Oper.wp
  simp [execOp, hop, hm, hx, hrun, Result.andThen]
  exact hK' _ _ hK
/-- 'v := m[k]' -/
theorem wpList_lookE1 (h : OwnE E w b n L) (hu : Tryz.prog.underlying mt = some (.map 9 e)) {x0 : α} (hz : ∀ W : World, (zeroValue e).run Tryz.prog W = .ok (E.v x0) W) (hg : o.guard = none) (m x : Operand) (hop : o.op = Op.lookup mt m x false) (hm : a.eval m = .map (some b)) (k : Str) (hx : a.eval x = .string ⟨k.toArray⟩) (hk : k.length ≤ maxLen)
    (v : Value) (hv : E.v ((lookE L k).getD x0) = v)
    (hK : wpList Tryz.prog ops Q rest (a.put o.dst v) w) : wpList Tryz.prog ops Q (o :: rest) a w := by
  refine wpList_plain hg fun K' hK' => ?_
  have hrun := h.look hu hz k hk
  rw [hv] at hrun
  unfold Oper.wp
  simp [execOp, hop, hm, hx, hrun, Result.andThen]
  exact hK' _ _ hK
/-- 'm[k] = x', of a key that was not there -/
theorem wpList_sayE (h : OwnE E w b n L) (hn : n < maxLen) (hu : Tryz.prog.underlying mt = some (.map 9 e)) (hg : o.guard = none) (m x v : Operand) (hop : o.op = Op.mapUpdate mt m x v) (hm : a.eval m = .map (some b)) (k : Str) (hx : a.eval x = .string ⟨k.toArray⟩) (hk : k.length ≤ maxLen) (y : α) (hv : a.eval v = E.v y) (hno : lookE L k = none)
    (hK : ∀ w', OwnE E w' b (n + 1) (L ++ [(k, y)]) → w.grownBy w' (some b) → wpList Tryz.prog ops Q rest (a.put o.dst undef) w') : wpList Tryz.prog ops Q (o :: rest) a w := by
  refine wpList_plain hg fun K' hK' => ?_
  obtain ⟨w', hrun, ho, hgr⟩ := h.say hn hu k y hk hno
  unfold Oper.wp
  simp [execOp, hop, hm, hx, hv, hrun, Result.andThen]
  exact hK' _ _ (hK w' ho hgr)
end
theorem zeroSd (W : World) : (zeroValue 84).run Tryz.prog W = .ok (elSd.v ([], 0, 0)) W := by kernel_rfl
theorem zeroBo (W : World) : (zeroValue 4).run Tryz.prog W = .ok (elBo.v false) W := by kernel_rfl
theorem zeroMap (W : World) : (zeroValue 70).run Tryz.prog W = .ok (elMp.v none) W := by kernel_rfl
theorem box3_cells {W : World} {B : Nat} {a b c : Value} {ty : TypeId} (h : W.heap[B]? = some (.cells #[a, b, c] ty (0, 0))) :
    W.cell? ⟨B, 0, none⟩ = some a ∧ W.cell? ⟨B, 1, none⟩ = some b ∧ W.cell? ⟨B, 2, none⟩ = some c ∧ B < W.heap.size :=
  ⟨by rw [cell_of_row _ _ _ _ _ _ h]; rfl, by rw [cell_of_row _ _ _ _ _ _ h]; rfl, by rw [cell_of_row _ _ _ _ _ _ h]; rfl, lt_of_block h⟩
theorem grown_from {w w1 w2 : World} {b : Nat} (h : Below w.heap.size w w1) (g : w1.grownBy w2 (some b)) (ht : w1.tape = w.tape) : w.grownBy w2 (some b) :=
  ⟨g.os.trans h.os, g.tape.trans ht, g.output.trans h.output, Nat.le_trans h.size g.size, fun k hk hne => by rw [g.block k (Nat.lt_of_lt_of_le hk h.size) hne]; exact h.block k hk⟩

theorem grown_below {w w1 : World} {b : Nat} (h : Below w.heap.size w w1) (ht : w1.tape = w.tape) : w.grownBy w1 (some b) := ⟨h.os, ht, h.output, h.size, fun k hk _ => h.block k hk⟩
/-- what put leaves, and tells -/
def putL (L : List (Str × (Str × Int × Int))) (k : Str) (x : Str × Int × Int) : List (Str × (Str × Int × Int)) := match lookE L k with | none => L ++ [(k, x)] | some _ => L
def putR (L : List (Str × (Str × Int × Int))) (k : Str) (s : Str) : Bool := match lookE L k with | none => true | some y => y.1 == s

/-- table.put: what was said is kept; something else that was said is told -/
theorem put_any (w : World) (b N : Nat) (L : List (Str × (Str × Int × Int))) (key : Str) (xt : Str) (xf xa : Int) (h : OwnE elSd w b N L) (hN : N < maxLen) (hk : key.length ≤ maxLen) :
    Calls Tryz.prog 54 #[.map (some b), .string ⟨key.toArray⟩, .agg #[.string ⟨xt.toArray⟩, .int .i64 xf, .int .i64 xa]] w fun e w' => e = .returned (.bool (putR L key xt)) ∧ OwnE elSd w' b (N + 1) (putL L key (xt, xf, xa)) ∧ w.grownBy w' (some b) := by
  have hb1 : Below w.heap.size w (w.alloc (.cells #[.string ⟨xt.toArray⟩, .int .i64 xf, .int .i64 xa] 84)) := (Below.refl _ _).alloc (Nat.le_refl _) _
  have HB1 := hid hb1
  have F1 := hid (heap_alloc_new w (.cells #[.string ⟨xt.toArray⟩, .int .i64 xf, .int .i64 xa] 84))
  have HT1 := hid (show (w.alloc (.cells #[.string ⟨xt.toArray⟩, .int .i64 xf, .int .i64 xa] 84)).tape = w.tape from rfl)
  have HO1 := hid (h.below hb1)
  clear hb1
  cases hlk : lookE L key with
  | some y =>
    obtain ⟨yt, yf, ya⟩ := y
    have HLK := hid hlk
    clear hlk
    go_enter Tryz.func54, Tryz.ntmps54
    go_upto_region 1 with fail
    generalize w.alloc (.cells #[.string ⟨xt.toArray⟩, .int .i64 xf, .int .i64 xa] 84) = w1 at *
    go_upto_region 2 with (at_lookup; refine wpList_lookE (E := elSd) HO1.out Tryz.underlying70 zeroSd rfl _ _ rfl rfl key rfl hk (.agg #[.string ⟨yt.toArray⟩, .int .i64 yf, .int .i64 ya]) true (by rw [HLK.out]; rfl) (by rw [HLK.out]; rfl) ?_)
    have hb2 : Below w1.heap.size w1 (w1.alloc (.cells #[.string ⟨yt.toArray⟩, .int .i64 yf, .int .i64 ya] 84)) := (Below.refl _ _).alloc (Nat.le_refl _) _
    have F2 := hid (heap_alloc_new w1 (.cells #[.string ⟨yt.toArray⟩, .int .i64 yf, .int .i64 ya] 84))
    have HT2 := hid (show (w1.alloc (.cells #[.string ⟨yt.toArray⟩, .int .i64 yf, .int .i64 ya] 84)).tape = w.tape from HT1.out)
    have HB2 := hid hb2
    clear hb2
    generalize w1.alloc (.cells #[.string ⟨yt.toArray⟩, .int .i64 yf, .int .i64 ya] 84) = w2 at *
    have HB := hid (HB1.out.then HB2.out)
    obtain ⟨x0, x1, x2, xl⟩ := box3_cells ((HB2.out.block _ (lt_of_block F1.out)).trans F1.out)
    obtain ⟨y0, y1, y2, yl⟩ := box3_cells F2.out
    go_wp2_with fail
    exact bodyPost_ret (v := .bool (yt == xt)) (by simp [results, Tryz.results54, go_sem]) rfl ⟨by unfold putR; rw [HLK.out], by unfold putL; rw [HLK.out]; exact (h.below HB.out).mono (Nat.le_succ N), grown_below HB.out HT2.out⟩
  | none =>
    have HLK := hid hlk
    clear hlk
    go_enter Tryz.func54, Tryz.ntmps54
    go_upto_region 1 with fail
    generalize w.alloc (.cells #[.string ⟨xt.toArray⟩, .int .i64 xf, .int .i64 xa] 84) = w1 at *
    go_upto_region 2 with (at_lookup; refine wpList_lookE (E := elSd) HO1.out Tryz.underlying70 zeroSd rfl _ _ rfl rfl key rfl hk (.agg #[.string ⟨#[]⟩, .int .i64 0, .int .i64 0]) false (by rw [HLK.out]; rfl) (by rw [HLK.out]; rfl) ?_)
    have hb2 : Below w1.heap.size w1 (w1.alloc (.cells #[.string ⟨#[]⟩, .int .i64 0, .int .i64 0] 84)) := (Below.refl _ _).alloc (Nat.le_refl _) _
    have F2 := hid (heap_alloc_new w1 (.cells #[.string ⟨#[]⟩, .int .i64 0, .int .i64 0] 84))
    have HT2 := hid (show (w1.alloc (.cells #[.string ⟨#[]⟩, .int .i64 0, .int .i64 0] 84)).tape = w.tape from HT1.out)
    have HB2 := hid hb2
    clear hb2
    generalize w1.alloc (.cells #[.string ⟨#[]⟩, .int .i64 0, .int .i64 0] 84) = w2 at *
    have HB := hid (HB1.out.then HB2.out)
    have HO2 := hid (HO1.out.below HB2.out)
    obtain ⟨x0, x1, x2, xl⟩ := box3_cells ((HB2.out.block _ (lt_of_block F1.out)).trans F1.out)
    go_wp2_with (at_mapUpdate; refine wpList_sayE (E := elSd) HO2.out hN Tryz.underlying70 rfl _ _ _ rfl rfl key rfl hk (xt, xf, xa) rfl HLK.out ?_; intro w3 ho3 hg3; have HO3 := hid ho3; have HG3 := hid (grown_from HB.out hg3 HT2.out); clear ho3 hg3)
    exact bodyPost_ret (v := .bool true) (by simp [results, Tryz.results54, go_sem]) rfl ⟨by unfold putR; rw [HLK.out], by unfold putL; rw [HLK.out]; exact HO3.out, HG3.out⟩
end Go.Proofs.YtjlfchnnhglbjaaGreat
