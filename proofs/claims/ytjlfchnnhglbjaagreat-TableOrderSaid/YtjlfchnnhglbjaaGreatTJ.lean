/- Several texts in one: TableO, TableO2, TableO3. (joined by wip/merge.py) -/
import Derived.Test.YtjlfchnnhglbjaaGreatTA
import Derived.Test.YtjlfchnnhglbjaaGreatTI

/- Tables of documents: the order of what is said is no matter (plain Lean). -/
set_option linter.unusedVariables false
set_option linter.unusedSimpArgs false
namespace Go.Proofs.YtjlfchnnhglbjaaGreat
open Go.Lib

abbrev Ev := Str × Itm
/-- what a table says, by the items that were taken and the locales that were named -/
structure Inv (E : List Ev) (NS : List Str) (t : Tb) : Prop where
  rows : ∀ loc p v, (findR t.rows loc p).map (·.text) = some v ↔ ∃ x, (loc, x) ∈ E ∧ x.alias' = false ∧ x.path = p ∧ x.value = v
  als : ∀ p v, (findR t.als tRoot p).map (·.text) = some v ↔ ∃ loc x, (loc, x) ∈ E ∧ x.alias' = true ∧ x.path = p ∧ x.value = v
  names : ∀ s, s ∈ t.names ↔ s ∈ NS
  paths : ∀ p, p ∈ t.paths ↔ ∃ loc x, (loc, x) ∈ E ∧ x.alias' = false ∧ x.path = p
theorem Inv.zero : Inv [] [] Tb.zero := ⟨fun loc p v => by simp [findR, Tb.zero], fun p v => by simp [findR, Tb.zero], fun s => by simp [Tb.zero], fun p => by simp [Tb.zero]⟩
theorem ev_one {E : List Ev} {loc : Str} {x : Itm} {l : Str} {Q : Itm → Prop} : (∃ y, (l, y) ∈ E ++ [(loc, x)] ∧ Q y) ↔ (∃ y, (l, y) ∈ E ∧ Q y) ∨ (l = loc ∧ Q x) := by
  constructor
  · rintro ⟨y, hy, q⟩
    rcases List.mem_append.1 hy with hy | hy
    · exact Or.inl ⟨y, hy, q⟩
    · have := List.mem_singleton.1 hy
      cases this
      exact Or.inr ⟨rfl, q⟩
  · rintro (⟨y, hy, q⟩ | ⟨rfl, q⟩)
    · exact ⟨y, List.mem_append.2 (Or.inl hy), q⟩
    · exact ⟨x, List.mem_append.2 (Or.inr (List.mem_singleton.2 rfl)), q⟩
theorem ev_any {E : List Ev} {loc : Str} {x : Itm} {Q : Itm → Prop} : (∃ l y, (l, y) ∈ E ++ [(loc, x)] ∧ Q y) ↔ (∃ l y, (l, y) ∈ E ∧ Q y) ∨ Q x := by
  constructor
  · rintro ⟨l, h⟩
    rcases ev_one.1 h with h | ⟨_, q⟩
    · exact Or.inl ⟨l, h⟩
    · exact Or.inr q
  · rintro (⟨l, h⟩ | q)
    · exact ⟨l, ev_one.2 (Or.inl h)⟩
    · exact ⟨loc, ev_one.2 (Or.inr ⟨rfl, q⟩)⟩
theorem findR_app (l : List Rw) (r : Rw) (loc p : Str) : findR (l ++ [r]) loc p = (findR l loc p).or (if r.loc = loc ∧ r.path = p then some r else none) := by
  unfold findR
  rw [List.find?_append]
  cases List.find? (fun r => r.loc == loc && r.path == p) l with
  | some x => rfl
  | none =>
    by_cases h : r.loc = loc ∧ r.path = p
    · rw [if_pos h]; simp [h.1, h.2]
    · rw [if_neg h]
      have : (r.loc == loc && r.path == p) = false := by
        rw [Bool.eq_false_iff]
        intro e
        simp only [Bool.and_eq_true, beq_iff_eq] at e
        exact h e
      simp [List.find?_cons, this]
section
variable {E : List Ev} {NS : List Str} {t : Tb} {loc : Str} {f : Nat} {x : Itm}
theorem inv_alias_keep (h : Inv E NS t) (ha : x.alias' = true) (hv : (findR t.als tRoot x.path).map (·.text) = some x.value) : Inv (E ++ [(loc, x)]) NS t := by
  refine ⟨fun l p v => ?_, fun p v => ?_, h.names, fun p => ?_⟩
  · rw [h.rows, ev_one]
    exact ⟨Or.inl, fun e => e.elim id (fun e => by rw [ha] at e; exact absurd e.2.1 (by simp))⟩
  · rw [ev_any, ← h.als]
    refine ⟨Or.inl, fun e => e.elim id ?_⟩
    rintro ⟨_, rfl, rfl⟩
    exact hv
  · rw [h.paths, ev_any]
    exact ⟨Or.inl, fun e => e.elim id (fun e => by rw [ha] at e; exact absurd e.1 (by simp))⟩
theorem inv_alias_new (h : Inv E NS t) (ha : x.alias' = true) (hl : loc = tRoot) (hf : findR t.als tRoot x.path = none) : Inv (E ++ [(loc, x)]) NS { t with als := t.als ++ [⟨loc, x.path, x.value, f, x.at'⟩] } := by
  refine ⟨fun l p v => ?_, fun p v => ?_, h.names, fun p => ?_⟩
  · show (findR t.rows l p).map (·.text) = some v ↔ _
    rw [h.rows, ev_one]
    exact ⟨Or.inl, fun e => e.elim id (fun e => by rw [ha] at e; exact absurd e.2.1 (by simp))⟩
  · show (findR (t.als ++ [⟨loc, x.path, x.value, f, x.at'⟩]) tRoot p).map (·.text) = some v ↔ _
    rw [ev_any, ← h.als, findR_app]
    by_cases hp : x.path = p
    · subst hp
      rw [hf, if_pos ⟨hl, rfl⟩]
      simp [ha]
    · rw [if_neg (fun e => hp e.2), Option.or_none]
      exact ⟨Or.inl, fun e => e.elim id (fun e => absurd e.2.1 hp)⟩
  · show p ∈ t.paths ↔ _
    rw [h.paths, ev_any]
    exact ⟨Or.inl, fun e => e.elim id (fun e => by rw [ha] at e; exact absurd e.1 (by simp))⟩
theorem inv_row_keep (h : Inv E NS t) (ok : TbOk t) (ha : x.alias' = false) (hv : (findR t.rows loc x.path).map (·.text) = some x.value) : Inv (E ++ [(loc, x)]) NS t := by
  refine ⟨fun l p v => ?_, fun p v => ?_, h.names, fun p => ?_⟩
  · rw [ev_one, ← h.rows]
    refine ⟨Or.inl, fun e => e.elim id ?_⟩
    rintro ⟨rfl, _, rfl, rfl⟩
    exact hv
  · rw [h.als, ev_any]
    exact ⟨Or.inl, fun e => e.elim id (fun e => by rw [ha] at e; exact absurd e.1 (by simp))⟩
  · rw [ev_any, ← h.paths]
    refine ⟨Or.inl, fun e => e.elim id ?_⟩
    rintro ⟨_, rfl⟩
    obtain ⟨r, hr, _⟩ := Option.map_eq_some_iff.1 hv
    obtain ⟨h1, _, h3⟩ := findR_some hr
    rw [← h3]; exact ok.rp r h1
theorem inv_row_new (h : Inv E NS t) (ha : x.alias' = false) (hf : findR t.rows loc x.path = none) {ps : List Str} (hps : ∀ p, p ∈ ps ↔ p ∈ t.paths ∨ p = x.path) : Inv (E ++ [(loc, x)]) NS { t with rows := t.rows ++ [⟨loc, x.path, x.value, f, x.at'⟩], paths := ps } := by
  refine ⟨fun l p v => ?_, fun p v => ?_, h.names, fun p => ?_⟩
  · show (findR (t.rows ++ [⟨loc, x.path, x.value, f, x.at'⟩]) l p).map (·.text) = some v ↔ _
    rw [ev_one, ← h.rows, findR_app]
    by_cases hp : loc = l ∧ x.path = p
    · obtain ⟨rfl, rfl⟩ := hp
      rw [hf, if_pos ⟨rfl, rfl⟩]
      simp [ha]
    · rw [if_neg hp, Option.or_none]
      exact ⟨Or.inl, fun e => e.elim id (fun e => absurd ⟨e.1.symm, e.2.2.1⟩ hp)⟩
  · show (findR t.als tRoot p).map (·.text) = some v ↔ _
    rw [h.als, ev_any]
    exact ⟨Or.inl, fun e => e.elim id (fun e => by rw [ha] at e; exact absurd e.1 (by simp))⟩
  · show p ∈ ps ↔ _
    rw [hps, h.paths, ev_any]
    constructor
    · rintro (e | rfl)
      · exact Or.inl e
      · exact Or.inr ⟨ha, rfl⟩
    · rintro (e | ⟨_, e⟩)
      · exact Or.inl e
      · exact Or.inr e.symm
/-- may an item be taken (for itself)? -/
def okItm (loc : Str) (x : Itm) : Prop := ¬ (x.path = [] ∨ pathB x.path = false) ∧ ¬ (x.alias' = true ∧ loc ≠ tRoot)
theorem item_inv {t' : Tb} (h : Inv E NS t) (ok : TbOk t) (hi : itemF t loc f x = (0, t')) : okItm loc x ∧ Inv (E ++ [(loc, x)]) NS t' := by
  unfold itemF at hi
  split at hi
  · cases hi
  rename_i h1
  split at hi
  · cases hi
  rename_i h2
  refine ⟨⟨h1, h2⟩, ?_⟩
  split at hi
  · rename_i h3
    have hl : loc = tRoot := by
      by_cases e : loc = tRoot
      · exact e
      · exact absurd ⟨h3, e⟩ h2
    subst hl
    split at hi
    · rename_i r hr
      split at hi
      · rename_i h4
        cases hi
        exact inv_alias_keep h h3 (by rw [hr]; simp [h4])
      · cases hi
    · rename_i hr
      cases hi
      exact inv_alias_new h h3 rfl hr
  · rename_i h3
    have ha : x.alias' = false := by simpa using h3
    split at hi
    · rename_i r hr
      split at hi
      · rename_i h4
        cases hi
        exact inv_row_keep h ok ha (by rw [hr]; simp [h4])
      · cases hi
    · rename_i hr
      split at hi
      · rename_i hp
        cases hi
        have := inv_row_new (f := f) h ha hr (ps := t.paths) (fun p => ⟨Or.inl, fun e => e.elim id (fun e => e ▸ hp)⟩)
        exact this
      · split at hi
        · cases hi
        · cases hi
          exact inv_row_new h ha hr (fun p => by simp)
end
end Go.Proofs.YtjlfchnnhglbjaaGreat

/- Tables of documents: which documents make one; two that say the same make the same (plain Lean). -/
set_option linter.unusedVariables false
set_option linter.unusedSimpArgs false
namespace Go.Proofs.YtjlfchnnhglbjaaGreat
open Go.Lib

def evI (loc : Str) (l : List Itm) : List Ev := l.map fun x => (loc, x)
def evs (L : List Dc) : List Ev := L.flatMap fun d => evI d.loc d.items
def nms (L : List Dc) : List Str := (L.filter fun d => !d.supp).map (·.loc)
def okHead (d : Dc) : Prop := ¬ ((d.supp = true ∧ d.loc ≠ []) ∨ (d.supp = false ∧ namedB d.loc = false))
def okDoc (d : Dc) : Prop := okHead d ∧ ∀ x ∈ d.items, okItm d.loc x
theorem evs_cons (d : Dc) (L : List Dc) : evs (d :: L) = evI d.loc d.items ++ evs L := by simp [evs]
theorem nms_cons (d : Dc) (L : List Dc) : nms (d :: L) = (if d.supp = true then [] else [d.loc]) ++ nms L := by
  unfold nms
  cases hs : d.supp <;> simp [List.filter_cons, hs]
theorem items_inv (loc : Str) (f : Nat) : ∀ (l : List Itm) {E : List Ev} {NS : List Str} {t t' : Tb}, Inv E NS t → TbOk t → itemsF loc f t l = (none, t') → (∀ x ∈ l, okItm loc x) ∧ Inv (E ++ evI loc l) NS t' ∧ TbOk t'
  | [], E, NS, t, t', h, ok, hi => by
    cases hi
    exact ⟨(fun x hx => by cases hx), (by simpa [evI] using h), ok⟩
  | x :: r, E, NS, t, t', h, ok, hi => by
    rw [itemsF] at hi
    cases he : itemF t loc f x with
    | mk e t1 =>
      rw [he] at hi
      cases e with
      | succ e => cases hi
      | zero =>
        obtain ⟨h1, h2⟩ := item_inv h ok he
        have ok1 := item_ok ok loc f x
        rw [he] at ok1
        obtain ⟨h3, h4, h5⟩ := items_inv loc f r h2 ok1 hi
        refine ⟨fun y hy => ?_, by rw [List.append_assoc] at h4; exact h4, h5⟩
        rcases List.mem_cons.1 hy with rfl | hy
        · exact h1
        · exact h3 y hy
theorem items_err (loc : Str) (f : Nat) : ∀ (l : List Itm) {t t' : Tb} {e : Nat} {a : Int}, itemsF loc f t l = (some (e, a), t') → e ≠ 0
  | [], t, t', e, a, hi => by cases hi
  | x :: r, t, t', e, a, hi => by
    rw [itemsF] at hi
    cases he : itemF t loc f x with
    | mk e1 t1 =>
      rw [he] at hi
      cases e1 with
      | zero => exact items_err loc f r hi
      | succ e1 => cases hi; exact Nat.succ_ne_zero _
theorem head_inv {E : List Ev} {NS : List Str} {t t1 : Tb} {d : Dc} (h : Inv E NS t) (hh : headF t d = (0, t1)) : okHead d ∧ Inv E (NS ++ (if d.supp = true then [] else [d.loc])) t1 := by
  unfold headF at hh
  split at hh
  · cases hh
  rename_i h1
  refine ⟨h1, ?_⟩
  split at hh
  · rename_i h2
    cases hh
    refine ⟨h.rows, h.als, fun s => ?_, h.paths⟩
    by_cases hs : d.supp = true
    · rw [if_pos hs, List.append_nil]; exact h.names s
    · rw [if_neg hs, List.mem_append, List.mem_singleton, ← h.names]
      exact ⟨Or.inl, fun e => e.elim id (fun e => by rw [e]; exact h2.resolve_left hs)⟩
  · rename_i h2
    split at hh
    · cases hh
    · cases hh
      refine ⟨h.rows, h.als, fun s => ?_, h.paths⟩
      have hs : ¬ d.supp = true := fun e => h2 (Or.inl e)
      rw [if_neg hs]
      show s ∈ t.names ++ [d.loc] ↔ _
      rw [List.mem_append, List.mem_append, h.names]
theorem docs_inv : ∀ (L : List Dc) (f : Nat) {t : Tb} {E : List Ev} {NS : List Str}, Inv E NS t → TbOk t → (docsF f t L).1.err = 0 →
    (docsF f t L).1 = Wrg.ok ∧ (∀ d ∈ L, okDoc d) ∧ Inv (E ++ evs L) (NS ++ nms L) (docsF f t L).2 ∧ TbOk (docsF f t L).2
  | [], f, t, E, NS, h, ok, hz => ⟨rfl, (fun d hd => by cases hd), (by simpa [evs, nms, docsF] using h), ok⟩
  | d :: r, f, t, E, NS, h, ok, hz => by
    rw [docsF] at hz ⊢
    cases hh : headF t d with
    | mk e t1 =>
      rw [hh] at hz
      cases e with
      | succ e => cases hz
      | zero =>
        obtain ⟨o1, i1⟩ := head_inv h hh
        have k1 := head_tb ok d
        rw [hh] at k1
        simp only at hz ⊢
        cases hi : itemsF d.loc f t1 d.items with
        | mk x t2 =>
          rw [hi] at hz
          cases x with
          | some y =>
            obtain ⟨e, a⟩ := y
            exact absurd hz (items_err _ _ _ hi)
          | none =>
            obtain ⟨o2, i2, k2⟩ := items_inv d.loc f d.items i1 k1 hi
            simp only at hz ⊢
            obtain ⟨r1, r2, r3, r4⟩ := docs_inv r (f + 1) i2 k2 hz
            refine ⟨r1, fun y hy => ?_, ?_, r4⟩
            · rcases List.mem_cons.1 hy with rfl | hy
              · exact ⟨o1, o2⟩
              · exact r2 y hy
            · rw [evs_cons, nms_cons, ← List.append_assoc, ← List.append_assoc]; exact r3
/-- what is said of one place is one text -/
def Cons (E : List Ev) : Prop := ∀ e ∈ E, ∀ e' ∈ E, e.2.alias' = e'.2.alias' → e.2.path = e'.2.path → (e.2.alias' = true ∨ e.1 = e'.1) → e.2.value = e'.2.value
theorem inv_cons {E : List Ev} {NS : List Str} {t : Tb} (h : Inv E NS t) : Cons E := by
  rintro ⟨l, x⟩ hx ⟨l', x'⟩ hx' ha hp hl
  simp only at ha hp hl ⊢
  cases hb : x.alias' with
  | true =>
    have e1 := (h.als x.path x.value).2 ⟨l, x, hx, hb, rfl, rfl⟩
    have e2 := (h.als x'.path x'.value).2 ⟨l', x', hx', by rw [← ha]; exact hb, rfl, rfl⟩
    rw [hp] at e1
    exact Option.some.inj (e1.symm.trans e2)
  | false =>
    have hll : l = l' := hl.resolve_left (by rw [hb]; simp)
    subst hll
    have e1 := (h.rows l x.path x.value).2 ⟨x, hx, hb, rfl, rfl⟩
    have e2 := (h.rows l x'.path x'.value).2 ⟨x', hx', by rw [← ha]; exact hb, rfl, rfl⟩
    rw [hp] at e1
    exact Option.some.inj (e1.symm.trans e2)
theorem item_go {E : List Ev} {NS : List Str} {t : Tb} {loc : Str} {f : Nat} {x : Itm} (h : Inv E NS t) (ok : TbOk t) (ho : okItm loc x) (hc : Cons (E ++ [(loc, x)])) (hl : E.length < 16384) : ∃ t', itemF t loc f x = (0, t') := by
  have hin : (loc, x) ∈ E ++ [(loc, x)] := by simp
  unfold itemF
  rw [if_neg ho.1, if_neg ho.2]
  by_cases ha : x.alias' = true
  · rw [if_pos ha]
    have hlr : loc = tRoot := by
      by_cases e : loc = tRoot
      · exact e
      · exact absurd ⟨ha, e⟩ ho.2
    subst hlr
    cases hf : findR t.als tRoot x.path with
    | none => exact ⟨_, rfl⟩
    | some r =>
      obtain ⟨l', x', hx', a1, a2, a3⟩ := (h.als x.path r.text).1 (by rw [hf]; rfl)
      have := hc _ hin _ (List.mem_append.2 (Or.inl hx')) (by show x.alias' = x'.alias'; rw [ha, a1]) a2.symm (Or.inl ha)
      simp only
      rw [if_pos (by rw [← a3]; exact this.symm)]
      exact ⟨_, rfl⟩
  · rw [if_neg ha]
    have hb : x.alias' = false := by simpa using ha
    cases hf : findR t.rows loc x.path with
    | some r =>
      obtain ⟨x', hx', a1, a2, a3⟩ := (h.rows loc x.path r.text).1 (by rw [hf]; rfl)
      have := hc _ hin _ (List.mem_append.2 (Or.inl hx')) (by show x.alias' = x'.alias'; rw [hb, a1]) a2.symm (Or.inr rfl)
      simp only
      rw [if_pos (by rw [← a3]; exact this.symm)]
      exact ⟨_, rfl⟩
    | none =>
      simp only
      by_cases hp : x.path ∈ t.paths
      · rw [if_pos hp]; exact ⟨_, rfl⟩
      · rw [if_neg hp]
        have := nodup_le t.paths (E.map (fun e => e.2.path)) ok.paths (fun p hp => by
          obtain ⟨l, y, hy, _, e⟩ := (h.paths p).1 hp
          exact List.mem_map.2 ⟨(l, y), hy, e⟩)
        rw [List.length_map] at this
        rw [if_neg (by omega)]; exact ⟨_, rfl⟩
theorem items_go (loc : Str) (f : Nat) : ∀ (l : List Itm) {E : List Ev} {NS : List Str} {t : Tb}, Inv E NS t → TbOk t → (∀ x ∈ l, okItm loc x) → Cons (E ++ evI loc l) → (E ++ evI loc l).length ≤ 16384 → ∃ t', itemsF loc f t l = (none, t')
  | [], E, NS, t, h, ok, ho, hc, hl => ⟨t, rfl⟩
  | x :: r, E, NS, t, h, ok, ho, hc, hl => by
    have e : E ++ evI loc (x :: r) = (E ++ [(loc, x)]) ++ evI loc r := by simp [evI]
    rw [e] at hc hl
    obtain ⟨t1, h1⟩ := item_go (f := f) h ok (ho x (List.mem_cons_self ..)) (fun a ha b hb => hc a (List.mem_append.2 (Or.inl ha)) b (List.mem_append.2 (Or.inl hb))) (by simp only [List.length_append, List.length_singleton] at hl; omega)
    obtain ⟨_, h2⟩ := item_inv h ok h1
    have k1 := item_ok ok loc f x
    rw [h1] at k1
    obtain ⟨t2, h3⟩ := items_go loc f r h2 k1 (fun y hy => ho y (List.mem_cons_of_mem _ hy)) hc hl
    exact ⟨t2, by rw [itemsF, h1]; exact h3⟩
theorem head_go {E : List Ev} {NS : List Str} {t : Tb} {d : Dc} (h : Inv E NS t) (ok : TbOk t) (ho : okHead d) (hl : (NS ++ (if d.supp = true then [] else [d.loc])).length ≤ 512) : ∃ t1, headF t d = (0, t1) := by
  unfold headF
  rw [if_neg ho]
  by_cases h2 : d.supp = true ∨ d.loc ∈ t.names
  · rw [if_pos h2]; exact ⟨_, rfl⟩
  · rw [if_neg h2]
    have hs : ¬ d.supp = true := fun e => h2 (Or.inl e)
    rw [if_neg hs] at hl
    have := nodup_le (t.names ++ [d.loc]) (NS ++ [d.loc]) (by
      rw [List.nodup_append]
      exact ⟨ok.names, by simp, fun a ha b hb e => h2 (Or.inr (by rw [List.mem_singleton.1 hb] at e; exact e ▸ ha))⟩) (fun s hs => by
        rcases List.mem_append.1 hs with hs | hs
        · exact List.mem_append.2 (Or.inl ((h.names s).1 hs))
        · exact List.mem_append.2 (Or.inr hs))
    rw [List.length_append, List.length_singleton] at this
    rw [if_neg (by omega)]; exact ⟨_, rfl⟩
theorem docs_go : ∀ (L : List Dc) (f : Nat) {t : Tb} {E : List Ev} {NS : List Str}, Inv E NS t → TbOk t → (∀ d ∈ L, okDoc d) → Cons (E ++ evs L) → (NS ++ nms L).length ≤ 512 → (E ++ evs L).length ≤ 16384 → (docsF f t L).1.err = 0
  | [], f, t, E, NS, h, ok, ho, hc, hn, hl => rfl
  | d :: r, f, t, E, NS, h, ok, ho, hc, hn, hl => by
    rw [evs_cons, ← List.append_assoc] at hc hl
    rw [nms_cons, ← List.append_assoc] at hn
    obtain ⟨t1, h1⟩ := head_go h ok (ho d (List.mem_cons_self ..)).1 (by rw [List.length_append] at hn; omega)
    obtain ⟨_, i1⟩ := head_inv h h1
    have k1 := head_tb ok d
    rw [h1] at k1
    obtain ⟨t2, h2⟩ := items_go d.loc f d.items i1 k1 (ho d (List.mem_cons_self ..)).2 (fun a ha b hb => hc a (List.mem_append.2 (Or.inl ha)) b (List.mem_append.2 (Or.inl hb))) (by rw [List.length_append] at hl; omega)
    obtain ⟨_, i2, k2⟩ := items_inv d.loc f d.items i1 k1 h2
    rw [docsF, h1]
    simp only [h2]
    exact docs_go r (f + 1) i2 k2 (fun y hy => ho y (List.mem_cons_of_mem _ hy)) hc hn hl
theorem docs_file : ∀ (L : List Dc) (f : Nat) (t : Tb), (docsF f t L).1.err ≠ 0 → (f : Int) ≤ (docsF f t L).1.file ∧ (docsF f t L).1.file < (f + L.length : Nat)
  | [], f, t, h => absurd rfl h
  | d :: r, f, t, h => by
    rw [docsF] at h ⊢
    cases hh : headF t d with
    | mk e t1 =>
      rw [hh] at h
      cases e with
      | succ e => simp only [List.length_cons]; omega
      | zero =>
        simp only at h ⊢
        cases hi : itemsF d.loc f t1 d.items with
        | mk x t2 =>
          rw [hi] at h
          cases x with
          | some y => obtain ⟨e, a⟩ := y; simp only [List.length_cons]; omega
          | none =>
            have := docs_file r (f + 1) t2 h
            simp only [List.length_cons] at this ⊢
            omega
end Go.Proofs.YtjlfchnnhglbjaaGreat

/- Tables that say the same: what is read of them is the same (plain Lean). -/
set_option linter.unusedVariables false
set_option linter.unusedSimpArgs false
namespace Go.Proofs.YtjlfchnnhglbjaaGreat
open Go.Lib

theorem srtT_mem {l m : List Str} (hl : l.Nodup) (hm : m.Nodup) (h : ∀ x, x ∈ l ↔ x ∈ m) : srtT l = srtT m := srtT_of_perm ((List.perm_ext_iff_of_nodup hl hm).2 h)
theorem opt_ext {a b : Option Str} (h : ∀ v, a = some v ↔ b = some v) : a = b := by
  cases a with
  | none =>
    cases b with
    | none => rfl
    | some v => have := (h v).2 rfl; cases this
  | some v => exact ((h v).1 rfl).symm
theorem rows_mem {t : Tb} {loc p : Str} : p ∈ (rowsOf t loc).map (·.path) ↔ ∃ v, (findR t.rows loc p).map (·.text) = some v := by
  constructor
  · intro h
    obtain ⟨r, hr, rfl⟩ := List.mem_map.1 h
    obtain ⟨h2, h3⟩ := List.mem_filter.1 hr
    cases hf : findR t.rows loc r.path with
    | some x => exact ⟨x.text, rfl⟩
    | none => exact absurd ⟨by simpa using h3, rfl⟩ (findR_none.1 hf r h2)
  · rintro ⟨v, h⟩
    obtain ⟨r, hr, _⟩ := Option.map_eq_some_iff.1 h
    obtain ⟨h1, h2, h3⟩ := findR_some hr
    exact List.mem_map.2 ⟨r, List.mem_filter.2 ⟨h1, by simpa using h2⟩, h3⟩
theorem als_find {t : Tb} (ok : TbOk t) {r : Rw} (h : r ∈ t.als) : findR t.als tRoot r.path = some r := by
  cases hf : findR t.als tRoot r.path with
  | none => exact absurd ⟨ok.root r h, rfl⟩ (findR_none.1 hf r h)
  | some x =>
    obtain ⟨h1, h2, h3⟩ := findR_some hf
    have hn := ok.als
    rw [List.Nodup, List.pairwise_map, List.pairwise_iff_getElem] at hn
    obtain ⟨i, hi, rfl⟩ := List.getElem_of_mem h
    obtain ⟨j, hj, rfl⟩ := List.getElem_of_mem h1
    by_cases hij : i = j
    · subst hij; rfl
    · exfalso
      rcases Nat.lt_or_gt_of_ne hij with hl | hl
      · exact hn i j hi hj hl h3.symm
      · exact hn j i hj hi hl h3
theorem alP_mem {t : Tb} (ok : TbOk t) {p v : Str} : (p, v) ∈ alP t ↔ (findR t.als tRoot p).map (·.text) = some v := by
  constructor
  · intro h
    obtain ⟨r, hr, e⟩ := List.mem_map.1 h
    simp only [Prod.mk.injEq] at e
    rw [← e.1, als_find ok hr, ← e.2]; rfl
  · intro h
    obtain ⟨r, hr, e⟩ := Option.map_eq_some_iff.1 h
    obtain ⟨h1, h2, h3⟩ := findR_some hr
    exact List.mem_map.2 ⟨r, h1, by rw [h3, e]⟩
theorem alP_nodup {t : Tb} (ok : TbOk t) : (alP t).Nodup := by
  have := ok.als
  rw [← alP_keys, List.Nodup, List.pairwise_map] at this
  exact this.imp fun h e => h (by rw [e])
theorem inv_same {E E' : List Ev} {NS NS' : List Str} {a b : Tb} (ha : Inv E NS a) (hb : Inv E' NS' b) (oa : TbOk a) (ob : TbOk b) (hE : ∀ e, e ∈ E ↔ e ∈ E') (hN : ∀ s, s ∈ NS ↔ s ∈ NS') : SameT a b := by
  have htext : ∀ loc path, (findR a.rows loc path).map (·.text) = (findR b.rows loc path).map (·.text) := fun loc path => opt_ext fun v => by
    rw [ha.rows, hb.rows]; simp only [hE]
  refine ⟨srtT_mem oa.names ob.names fun s => by rw [ha.names, hb.names, hN], srtT_mem oa.paths ob.paths fun p => by rw [ha.paths, hb.paths]; simp only [hE], ?_, fun loc => srtT_mem (rows_nodup oa loc) (rows_nodup ob loc) fun p => by rw [rows_mem, rows_mem, htext], htext⟩
  have hp : (alP a).Perm (alP b) := (List.perm_ext_iff_of_nodup (alP_nodup oa) (alP_nodup ob)).2 fun ⟨p, v⟩ => by
    rw [alP_mem oa, alP_mem ob, ha.als, hb.als]; simp only [hE]
  exact aliases_one ob ((aliasesF_perm a).trans hp) (aliasesF_sorted a)
/-- documents that say the same as a table's make the same table -/
theorem new_same {L M : List Dc} (h : (newF L).1.err = 0) (hE : ∀ e, e ∈ evs L ↔ e ∈ evs M) (hN : ∀ s, s ∈ nms L ↔ s ∈ nms M) (ho : ∀ d ∈ M, okDoc d) (hn : (nms M).length ≤ 512) (hl : (evs M).length ≤ 16384) :
    (newF M).1 = Wrg.ok ∧ SameT (newF L).2 (newF M).2 ∧ TbOk (newF L).2 ∧ TbOk (newF M).2 := by
  obtain ⟨_, h2, h3, h4⟩ := docs_inv L 0 Inv.zero TbOk.zero h
  rw [List.nil_append, List.nil_append] at h3
  have hc := inv_cons h3
  have hz := docs_go M 0 Inv.zero TbOk.zero ho (by rw [List.nil_append]; exact fun a ha b hb => hc a ((hE a).2 ha) b ((hE b).2 hb)) (by rw [List.nil_append]; exact hn) (by rw [List.nil_append]; exact hl)
  obtain ⟨g1, g2, g3, g4⟩ := docs_inv M 0 Inv.zero TbOk.zero hz
  rw [List.nil_append, List.nil_append] at g3
  exact ⟨g1, inv_same h3 g3 h4 g4 hE hN, h4, g4⟩

/-! ### turned documents -/
def dupI (l : List Itm) : List Itm := l.reverse.flatMap fun x => [x, x]
def dupD (d : Dc) : Dc := { d with items := dupI d.items }
/-- the documents from k on, round about -/
def turnD (L : List Dc) (k : Nat) : List Dc := (L.drop k ++ L.take k).map dupD
theorem dupI_mem {l : List Itm} {x : Itm} : x ∈ dupI l ↔ x ∈ l := by
  unfold dupI
  simp [List.mem_flatMap]
theorem two_len : ∀ (l : List Itm), (l.flatMap fun x => [x, x]).length = 2 * l.length
  | [] => rfl
  | x :: r => by
    have := two_len r
    rw [List.flatMap_cons, List.length_append, this, List.length_cons]
    simp only [List.length_cons, List.length_nil]
    omega
theorem dupI_len (l : List Itm) : (dupI l).length = 2 * l.length := by
  unfold dupI
  rw [two_len, List.length_reverse]
theorem evs_mem {L : List Dc} {e : Ev} : e ∈ evs L ↔ ∃ d ∈ L, ∃ x ∈ d.items, e = (d.loc, x) := by
  unfold evs evI
  simp only [List.mem_flatMap, List.mem_map]
  exact ⟨fun ⟨d, hd, x, hx, he⟩ => ⟨d, hd, x, hx, he.symm⟩, fun ⟨d, hd, x, hx, he⟩ => ⟨d, hd, x, hx, he.symm⟩⟩
theorem nms_mem {L : List Dc} {s : Str} : s ∈ nms L ↔ ∃ d ∈ L, d.supp = false ∧ d.loc = s := by
  unfold nms
  simp only [List.mem_map, List.mem_filter, Bool.not_eq_true', and_assoc]
theorem turn_mem {L : List Dc} {k : Nat} {d : Dc} : d ∈ turnD L k ↔ ∃ c ∈ L, d = dupD c := by
  unfold turnD
  rw [List.mem_map]
  constructor
  · rintro ⟨c, hc, rfl⟩
    refine ⟨c, ?_, rfl⟩
    rcases List.mem_append.1 hc with hc | hc
    · exact List.mem_of_mem_drop hc
    · exact List.mem_of_mem_take hc
  · rintro ⟨c, hc, rfl⟩
    refine ⟨c, ?_, rfl⟩
    rw [← List.take_append_drop k L] at hc
    rcases List.mem_append.1 hc with hc | hc
    · exact List.mem_append.2 (Or.inr hc)
    · exact List.mem_append.2 (Or.inl hc)
theorem evs_len : ∀ (L : List Dc) (k : Nat), (∀ d ∈ L, d.items.length ≤ k) → (evs L).length ≤ k * L.length
  | [], k, h => Nat.zero_le _
  | d :: r, k, h => by
    have h1 := h d (List.mem_cons_self ..)
    have ih := evs_len r k (fun x hx => h x (List.mem_cons_of_mem _ hx))
    rw [evs_cons, List.length_append, List.length_cons, Nat.mul_succ]
    simp only [evI, List.length_map]
    omega
theorem nms_len (L : List Dc) : (nms L).length ≤ L.length := by
  unfold nms
  rw [List.length_map]; exact List.length_filter_le _ _
theorem turn_len (L : List Dc) (k : Nat) : (turnD L k).length = L.length := by
  unfold turnD
  rw [List.length_map, List.length_append, List.length_drop, List.length_take]; omega
theorem turn_same {L : List Dc} {k : Nat} (h : (newF L).1.err = 0) (h12 : L.length ≤ 12) (h40 : ∀ d ∈ L, d.items.length ≤ 40) : (newF (turnD L k)).1 = Wrg.ok ∧ SameT (newF L).2 (newF (turnD L k)).2 ∧ TbOk (newF L).2 ∧ TbOk (newF (turnD L k)).2 := by
  obtain ⟨_, h2, _, _⟩ := docs_inv L 0 Inv.zero TbOk.zero h
  have hl := turn_len L k
  refine new_same h (fun e => ?_) (fun s => ?_) (fun d hd => ?_) ?_ ?_
  · rw [evs_mem, evs_mem]
    constructor
    · rintro ⟨d, hd, x, hx, rfl⟩
      exact ⟨dupD d, turn_mem.2 ⟨d, hd, rfl⟩, x, dupI_mem.2 hx, rfl⟩
    · rintro ⟨d, hd, x, hx, rfl⟩
      obtain ⟨c, hc, rfl⟩ := turn_mem.1 hd
      exact ⟨c, hc, x, dupI_mem.1 hx, rfl⟩
  · rw [nms_mem, nms_mem]
    constructor
    · rintro ⟨d, hd, hs, rfl⟩
      exact ⟨dupD d, turn_mem.2 ⟨d, hd, rfl⟩, hs, rfl⟩
    · rintro ⟨d, hd, hs, rfl⟩
      obtain ⟨c, hc, rfl⟩ := turn_mem.1 hd
      exact ⟨c, hc, hs, rfl⟩
  · obtain ⟨c, hc, rfl⟩ := turn_mem.1 hd
    obtain ⟨o1, o2⟩ := h2 c hc
    exact ⟨o1, fun x hx => o2 x (dupI_mem.1 hx)⟩
  · have := nms_len (turnD L k); omega
  · have := evs_len (turnD L k) 80 (fun d hd => by
      obtain ⟨c, hc, rfl⟩ := turn_mem.1 hd
      show (dupI c.items).length ≤ 80
      rw [dupI_len]
      have := h40 c hc
      omega)
    rw [hl] at this
    omega
end Go.Proofs.YtjlfchnnhglbjaaGreat
