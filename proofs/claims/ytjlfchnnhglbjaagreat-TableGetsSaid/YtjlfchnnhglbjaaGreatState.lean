/- The state of tag.Parse between two calls: where its variables lie and what they hold; a scope with several labels. -/
import Derived.Test.YtjlfchnnhglbjaaGreatLists
set_option linter.unusedVariables false
set_option linter.unusedSimpArgs false
namespace Go
/-- As Q; by a goto to label l: J l. -/
def Exit.jumps (J : Nat → Act → World → Prop) (Q : Exit → Act → World → Prop) : Exit → Act → World → Prop
  | .goto l, a, w => J l a w
  | e, a, w => Q e a w

theorem wp_scope_labels {P : Program} {a : Act} {w : World} {Q : Exit → Act → World → Prop} {c : Code} (J : Nat → Nat → Act → World → Prop)
    (first : c.wp P (Exit.jumps (fun l a w => ∃ n, J l n a w) Q) a w)
    (pass : ∀ l n a w, J l n a w → ∃ rest, findLabel c l = some rest ∧ rest.wp P (Exit.jumps (fun l' a' w' => ∃ n', n' < n ∧ J l' n' a' w') Q) a w) : (Code.scope c).wp P Q a w := by
  intro b k cs
  have key : ∀ n l a w rest, J l n a w → findLabel c l = some rest → ∃ e a' w', Q e a' w' ∧ Arrives P (lone (b.at a (.code rest :: .inScope c :: k)) cs w) b k cs e a' w' := by
    intro n
    induction n using Nat.strongRecOn with
    | _ n ih =>
      intro l a w rest hJ hf
      obtain ⟨rest', hf', hp⟩ := pass l n a w hJ
      rw [hf] at hf'
      injection hf' with hf'
      subst hf'
      obtain ⟨e, a₁, w₁, hq, harr⟩ := hp b (.inScope c :: k) cs
      cases e with
      | normal => exact ⟨.normal, a₁, w₁, hq, Steps.trans harr (.one step_inScope)⟩
      | exit id => exact ⟨.exit id, a₁, w₁, hq, fun k' hk => harr k' (by simp [exitTo, hk])⟩
      | goto l' =>
        obtain ⟨n', hlt, hJ'⟩ := hq
        obtain ⟨rest2, hf2, _⟩ := pass l' n' a₁ w₁ hJ'
        have hg : gotoIn l' (.inScope c :: k) = some (.code rest2 :: .inScope c :: k) := by simp [gotoIn, hf2]
        obtain ⟨e₂, a₂, w₂, hq₂, harr₂⟩ := ih n' hlt l' a₁ w₁ rest2 hJ' hf2
        exact ⟨e₂, a₂, w₂, hq₂, .of_steps (harr _ hg) harr₂⟩
      | ret => exact ⟨_, a₁, w₁, hq, harr⟩
      | panic ch => exact ⟨_, a₁, w₁, hq, harr⟩
      | outgrown => exact ⟨_, a₁, w₁, hq, harr⟩
  obtain ⟨e, a₁, w₁, hq, harr⟩ := first b (.inScope c :: k) cs
  cases e with
  | normal => exact ⟨.normal, a₁, w₁, hq, .head step_scope (Steps.trans harr (.one step_inScope))⟩
  | exit id => exact ⟨.exit id, a₁, w₁, hq, fun k' hk => .head step_scope (harr k' (by simp [exitTo, hk]))⟩
  | goto l' =>
    obtain ⟨n', hJ'⟩ := hq
    obtain ⟨rest2, hf2, _⟩ := pass l' n' a₁ w₁ hJ'
    have hg : gotoIn l' (.inScope c :: k) = some (.code rest2 :: .inScope c :: k) := by simp [gotoIn, hf2]
    obtain ⟨e₂, a₂, w₂, hq₂, harr₂⟩ := key n' l' a₁ w₁ rest2 hJ' hf2
    exact ⟨e₂, a₂, w₂, hq₂, .of_steps (.head step_scope (harr _ hg)) harr₂⟩
  | ret => exact ⟨_, a₁, w₁, hq, .of_steps (.one step_scope) harr⟩
  | panic ch => exact ⟨_, a₁, w₁, hq, .of_steps (.one step_scope) harr⟩
  | outgrown => exact ⟨_, a₁, w₁, hq, .of_steps (.one step_scope) harr⟩
end Go

namespace Go.Proofs.YtjlfchnnhglbjaaGreat
open Go.RowKit Go.Lib Go.Sort

def vnil : Value := .slice none 0 0
/-- the five cells of a tag -/
def tagCells (t : Tg) (vv kv : Value) : Array Value := #[S t.lang, S t.script, S t.region, vv, kv]

/-- what tag.Parse's variables hold: the two results, the tag, the reader, the pointer to it -/
structure St (B Br Bp : Nat) (w0 w : World) (vv kv : Value) (t : Tg) (r : Rd) : Prop where
  bel : Below B w0 w
  h0 : w.heap[B]? = some (.cells (tagCells Tg.zero vnil vnil) 108 (0, 0))
  h1 : w.heap[B + 1]? = some (.cells #[.int .i64 0, .int .i64 0] 99 (0, 0))
  ht : w.heap[B + 2]? = some (.cells (tagCells t vv kv) 108 (0, 0))
  hr : w.heap[Br]? = some (.cells (rdr r.rest r.pos r.sub true r.fin) 158 (0, 0))
  hp : w.heap[Bp]? = some (.cells #[.pointer (some ⟨Br, 0, none⟩)] 156 (0, 0))
  os : OwnS w B vv t.vars
  op : OwnP w B kv t.keys
  lo : B + 3 ≤ Br

theorem own_type {w : World} {base : Nat} {e : TypeId} {size : Nat} {v : Value} {n : Nat} {xs : List Value} (h : w.ownsRow base e size v n xs) {b : Nat} {cs : Array Value} {t : TypeId} (hb : w.heap[b]? = some (.cells cs t (0, 0))) (hne : e ≠ t) : v.ownBlock ≠ some b := by
  rcases h.2 with ⟨rfl, _⟩ | ⟨g, cap, cur, rfl, _, hg, _⟩
  · simp [Value.ownBlock]
  · simp only [Value.ownBlock]
    intro e
    injection e with e
    rw [e, hb] at hg
    injection hg with hg
    injection hg with _ h2 _
    exact hne h2.symm
theorem grown_of_below {w w1 : World} (h : Below w.heap.size w w1) : w.grownBy w1 none := ⟨h.os, h.tape, h.output, h.size, fun k hk _ => h.block k hk⟩
theorem own_below {w w1 : World} {base : Nat} {e : TypeId} {size : Nat} {v : Value} {n : Nat} {xs : List Value} (h : w.ownsRow base e size v n xs) (hb : Below w.heap.size w w1) : w1.ownsRow base e size v n xs :=
  h.kept (grown_of_below hb) (by cases v.ownBlock <;> simp)

section
variable {B Br Bp : Nat} {w0 w w1 : World} {vv kv : Value} {t : Tg} {r : Rd}

theorem St.below (st : St B Br Bp w0 w vv kv t r) (h : Below w.heap.size w w1) : St B Br Bp w0 w1 vv kv t r := by
  have k : ∀ b o, w.heap[b]? = some o → w1.heap[b]? = some o := fun b o hb => by rw [h.block b (lt_of_block hb)]; exact hb
  have hB : B ≤ w.heap.size := Nat.le_of_lt (lt_of_block st.h0)
  exact ⟨st.bel.trans (h.mono hB), k _ _ st.h0, k _ _ st.h1, k _ _ st.ht, k _ _ st.hr, k _ _ st.hp, own_below st.os h, own_below st.op h, st.lo⟩

theorem St.drew (st : St B Br Bp w0 w vv kv t r) : St B Br Bp w0 w.drew vv kv t r :=
  ⟨st.bel.drew, st.h0, st.h1, st.ht, st.hr, st.hp, st.os, st.op, st.lo⟩

theorem ne_of_types {w : World} {a b : Nat} {c d : Array Value} {e f : TypeId} (h : w.heap[a]? = some (.cells c e (0, 0))) (k : w.heap[b]? = some (.cells d f (0, 0))) (hne : e ≠ f) : a ≠ b := by
  intro e1; subst e1; rw [h] at k; injection k with k; injection k with _ k2 _; exact hne k2

/-- the reader has moved on -/
theorem St.read (st : St B Br Bp w0 w vv kv t r) {r' : Rd} (h : w1.heap[Br]? = some (.cells (rdr r'.rest r'.pos r'.sub true r'.fin) 158 (0, 0)) ∧ Only Br w w1) : St B Br Bp w0 w1 vv kv t r' := by
  obtain ⟨h, ho⟩ := h
  have k : ∀ b o, w.heap[b]? = some o → b ≠ Br → w1.heap[b]? = some o := fun b o hb hne => by rw [ho.block b (lt_of_block hb) (fun e => hne (Option.some.inj e))]; exact hb
  have hB : B ≤ w.heap.size := Nat.le_of_lt (lt_of_block st.h0)
  have lo := st.lo
  refine ⟨st.bel.grown ho hB (fun k hk => by injection hk with hk; omega), k _ _ st.h0 (by omega), k _ _ st.h1 (by omega), k _ _ st.ht (by omega), h, k _ _ st.hp (ne_of_types st.hp st.hr (by decide)), ?_, ?_, lo⟩
  · exact World.ownsRow.kept st.os ho (Or.inr (own_type st.os st.hr (by decide)))
  · exact World.ownsRow.kept st.op ho (Or.inr (own_type st.op st.hr (by decide)))

/-- a field of the tag is written -/
theorem St.set (st : St B Br Bp w0 w vv kv t r) (i : Nat) (x : Value) {t' : Tg} {vv' kv' : Value} (hc : (tagCells t vv kv).setIfInBounds i x = tagCells t' vv' kv')
    (os : OwnS w B vv' t'.vars) (op : OwnP w B kv' t'.keys) : St B Br Bp w0 (w.setCell ⟨B + 2, i, none⟩ x) vv' kv' t' r := by
  have hB : B ≤ w.heap.size := Nat.le_of_lt (lt_of_block st.h0)
  have lo := st.lo
  have k : ∀ b o, w.heap[b]? = some o → b ≠ B + 2 → (w.setCell ⟨B + 2, i, none⟩ x).heap[b]? = some o := fun b o hb hne => by rw [heap_setCell_other _ _ _ _ hne]; exact hb
  refine ⟨st.bel.setCell (by simp) _, k _ _ st.h0 (by omega), k _ _ st.h1 (by omega), ?_, k _ _ st.hr (by omega), k _ _ st.hp (ne_of_types st.hp st.ht (by decide)), ?_, ?_, lo⟩
  · rw [heap_setCell_same _ _ _ _ _ _ st.ht, hc]
  · exact ownsRow_setCell_other os (own_type os st.ht (by decide)) _
  · exact ownsRow_setCell_other op (own_type op st.ht (by decide)) _

/-- a list of the tag's was written: blocks of other kinds stand -/
theorem St.grown (st : St B Br Bp w0 w vv kv t r) {b : Option Nat} (h : w.grownBy w1 b) (hlo : ∀ k, b = some k → B ≤ k) (hne : ∀ k cs e, b = some k → w.heap[k]? = some (.cells cs e (0, 0)) → e = 9 ∨ e = 48)
    {vv' kv' : Value} {t' : Tg} (hc : tagCells t vv kv = tagCells t' vv' kv') (os : OwnS w1 B vv' t'.vars) (op : OwnP w1 B kv' t'.keys) : St B Br Bp w0 w1 vv' kv' t' r := by
  have hB : B ≤ w.heap.size := Nat.le_of_lt (lt_of_block st.h0)
  have k : ∀ (b1 : Nat) (cs : Array Value) (e : TypeId), w.heap[b1]? = some (.cells cs e (0, 0)) → e ≠ 9 → e ≠ 48 → w1.heap[b1]? = some (.cells cs e (0, 0)) := fun b1 cs e hb n1 n2 => by
    rw [h.block b1 (lt_of_block hb) (fun e1 => by
      rcases hne b1 cs e e1.symm hb with h1 | h1
      · exact n1 h1
      · exact n2 h1)]
    exact hb
  refine ⟨st.bel.grown h hB hlo, k _ _ _ st.h0 (by decide) (by decide), k _ _ _ st.h1 (by decide) (by decide), ?_, k _ _ _ st.hr (by decide) (by decide), k _ _ _ st.hp (by decide) (by decide), os, op, st.lo⟩
  rw [← hc]
  exact k _ _ _ st.ht (by decide) (by decide)

theorem own_ne {w : World} {B : Nat} {l1 : List Str} {l2 : List (Str × Str)} (a : OwnS w B vv l1) (b : OwnP w B kv l2) : (vv.ownBlock = none ∨ vv.ownBlock ≠ kv.ownBlock) ∧ (kv.ownBlock = none ∨ kv.ownBlock ≠ vv.ownBlock) := by
  rcases b.shape with ⟨rfl, _⟩ | ⟨g, cap, cur, rfl, _, hg, _⟩
  · refine ⟨?_, Or.inl rfl⟩
    cases h : vv.ownBlock with
    | none => exact Or.inl rfl
    | some x => exact Or.inr (by simp [Value.ownBlock])
  · have h := own_type a hg (by decide)
    exact ⟨Or.inr h, Or.inr (fun e => h e.symm)⟩
theorem own_kind {w : World} {base : Nat} {e : TypeId} {size : Nat} {v : Value} {n : Nat} {xs : List Value} (h : w.ownsRow base e size v n xs) : ∀ (k : Nat) (cs : Array Value) (e' : TypeId), v.ownBlock = some k → w.heap[k]? = some (.cells cs e' (0, 0)) → e' = e := by
  intro k cs e' hk hb
  rcases h.2 with ⟨rfl, _⟩ | ⟨g, cap, cur, rfl, _, hg, _⟩
  · simp [Value.ownBlock] at hk
  · simp only [Value.ownBlock] at hk
    injection hk with hk
    rw [hk, hb] at hg
    injection hg with hg
    injection hg

theorem own_sliceS {l : List Str} (h : OwnS w B vv l) : ∃ ao cp, vv = .slice ao l.length cp := by
  rcases h.shape with ⟨rfl, rfl⟩ | ⟨g, cap, cur, rfl, _⟩
  · exact ⟨none, 0, rfl⟩
  · exact ⟨_, _, rfl⟩
theorem own_sliceP {l : List (Str × Str)} (h : OwnP w B kv l) : ∃ ao cp, kv = .slice ao l.length cp := by
  rcases h.shape with ⟨rfl, rfl⟩ | ⟨g, cap, cur, rfl, _⟩
  · exact ⟨none, 0, rfl⟩
  · exact ⟨_, _, rfl⟩
/-- behind the sort of the keywords, of the variants -/
theorem St.sortP (st : St B Br Bp w0 w vv kv t r) {l : List (Str × Str)} (op : OwnP w1 B kv l) (h : w.grownBy w1 kv.ownBlock) : St B Br Bp w0 w1 vv kv { t with keys := l } r :=
  st.grown h (fun k hk => (World.ownsRow.lt st.op k hk).1) (fun k cs e hk hb => Or.inr (own_kind st.op k cs e hk hb)) rfl (World.ownsRow.kept st.os h (own_ne st.os st.op).1) op
theorem St.sortS (st : St B Br Bp w0 w vv kv t r) {l : List Str} (os : OwnS w1 B vv l) (h : w.grownBy w1 vv.ownBlock) : St B Br Bp w0 w1 vv kv { t with vars := l } r :=
  st.grown h (fun k hk => (World.ownsRow.lt st.os k hk).1) (fun k cs e hk hb => Or.inl (own_kind st.os k cs e hk hb)) rfl os (World.ownsRow.kept st.op h (own_ne st.os st.op).2)

/-- behind an append to a list of the tag's, and the store of what it gave -/
theorem St.app (st : St B Br Bp w0 w vv kv t r) {b : Option Nat} (h : w.grownBy w1 b) (hlo : ∀ k, b = some k → B ≤ k) (hne : ∀ (k : Nat) (cs : Array Value) (e : TypeId), b = some k → w.heap[k]? = some (.cells cs e (0, 0)) → e = 9 ∨ e = 48)
    (i : Nat) (x : Value) {vv' kv' : Value} {t' : Tg} (hc : (tagCells t vv kv).setIfInBounds i x = tagCells t' vv' kv') (os : OwnS w1 B vv' t'.vars) (op : OwnP w1 B kv' t'.keys) : St B Br Bp w0 (w1.setCell ⟨B + 2, i, none⟩ x) vv' kv' t' r := by
  have hB : B ≤ w.heap.size := Nat.le_of_lt (lt_of_block st.h0)
  have lo := st.lo
  have k : ∀ (b1 : Nat) (cs : Array Value) (e : TypeId), w.heap[b1]? = some (.cells cs e (0, 0)) → e ≠ 9 → e ≠ 48 → w1.heap[b1]? = some (.cells cs e (0, 0)) := fun b1 cs e hb n1 n2 => by
    rw [h.block b1 (lt_of_block hb) (fun e1 => by
      rcases hne b1 cs e e1.symm hb with h1 | h1
      · exact n1 h1
      · exact n2 h1)]
    exact hb
  have k2 : ∀ (b1 : Nat) (cs : Array Value) (e : TypeId), w.heap[b1]? = some (.cells cs e (0, 0)) → e ≠ 9 → e ≠ 48 → b1 ≠ B + 2 → (w1.setCell ⟨B + 2, i, none⟩ x).heap[b1]? = some (.cells cs e (0, 0)) := fun b1 cs e hb n1 n2 n3 => by
    rw [heap_setCell_other _ _ _ _ n3]; exact k b1 cs e hb n1 n2
  have ht1 := k _ _ _ st.ht (by decide) (by decide)
  refine ⟨(st.bel.grown h hB hlo).setCell (by simp) _, k2 _ _ _ st.h0 (by decide) (by decide) (by omega), k2 _ _ _ st.h1 (by decide) (by decide) (by omega), ?_, k2 _ _ _ st.hr (by decide) (by decide) (by omega), k2 _ _ _ st.hp (by decide) (by decide) (ne_of_types st.hp st.ht (by decide)), ?_, ?_, lo⟩
  · rw [heap_setCell_same _ _ _ _ _ _ ht1, hc]
  · exact ownsRow_setCell_other os (own_type os ht1 (by decide)) _
  · exact ownsRow_setCell_other op (own_type op ht1 (by decide)) _
theorem St.appP (st : St B Br Bp w0 w vv kv t r) {l : List (Str × Str)} {kv' : Value} (op : OwnP w1 B kv' l) (h : w.grownBy w1 kv.ownBlock) : St B Br Bp w0 (w1.setCell ⟨B + 2, 4, none⟩ kv') vv kv' { t with keys := l } r :=
  st.app h (fun k hk => (World.ownsRow.lt st.op k hk).1) (fun k cs e hk hb => Or.inr (own_kind st.op k cs e hk hb)) 4 kv' (by simp [tagCells]) (World.ownsRow.kept st.os h (own_ne st.os st.op).1) op
theorem St.appS (st : St B Br Bp w0 w vv kv t r) {l : List Str} {vv' : Value} (os : OwnS w1 B vv' l) (h : w.grownBy w1 vv.ownBlock) : St B Br Bp w0 (w1.setCell ⟨B + 2, 3, none⟩ vv') vv' kv { t with vars := l } r :=
  st.app h (fun k hk => (World.ownsRow.lt st.os k hk).1) (fun k cs e hk hb => Or.inl (own_kind st.os k cs e hk hb)) 3 vv' (by simp [tagCells]) os (World.ownsRow.kept st.op h (own_ne st.os st.op).2)

/-- all of the state lies below a block number -/
structure Low (B Br Bp B2 : Nat) (vv kv : Value) : Prop where
  a : B + 2 < B2
  b : Br < B2
  c : Bp < B2
  v : ∀ k, vv.ownBlock = some k → k < B2
  k : ∀ k, kv.ownBlock = some k → k < B2
theorem St.low (st : St B Br Bp w0 w vv kv t r) : Low B Br Bp w.heap.size vv kv :=
  ⟨lt_of_block st.ht, lt_of_block st.hr, lt_of_block st.hp, fun k hk => (World.ownsRow.lt st.os k hk).2, fun k hk => (World.ownsRow.lt st.op k hk).2⟩
theorem own_low {w w1 : World} {base B2 : Nat} {e : TypeId} {size : Nat} {v : Value} {n : Nat} {xs : List Value} (h : w.ownsRow base e size v n xs) (hv : ∀ k, v.ownBlock = some k → k < B2) (hb : Below B2 w w1) : w1.ownsRow base e size v n xs := by
  refine ⟨h.1, ?_⟩
  rcases h.2 with h1 | ⟨g, cap, cur, rfl, h2, h3, h4⟩
  · exact Or.inl h1
  · exact Or.inr ⟨g, cap, cur, rfl, h2, by rw [hb.block g (hv g rfl)]; exact h3, h4⟩
theorem St.above (st : St B Br Bp w0 w vv kv t r) {B2 : Nat} (l : Low B Br Bp B2 vv kv) (h : Below B2 w w1) : St B Br Bp w0 w1 vv kv t r := by
  have la := l.a
  have k : ∀ b o, b < B2 → w.heap[b]? = some o → w1.heap[b]? = some o := fun b o hl hb => by rw [h.block b hl]; exact hb
  exact ⟨st.bel.trans (h.mono (by omega)), k _ _ (by omega) st.h0, k _ _ (by omega) st.h1, k _ _ (by omega) st.ht, k _ _ l.b st.hr, k _ _ l.c st.hp, own_low st.os l.v h, own_low st.op l.k h, st.lo⟩

/-- (*reader).next -/
theorem St.next (st : St B Br Bp w0 w vv kv t r) (hall : r.all ≤ 128) : Calls Tryz.prog 103 #[.pointer (some ⟨Br, 0, none⟩)] w fun e w' => e = .returned (.tuple #[]) ∧ (w'.heap[Br]? = some (.cells (rdr r.next.rest r.next.pos r.next.sub true r.next.fin) 158 (0, 0)) ∧ Only Br w w') := by
  have h := st.hr
  unfold Rd.all at hall
  unfold Rd.next
  cases hr : r.rest with
  | nil => rw [hr] at h; exact next_end Br r.pos r.sub true r.fin w (by omega) (by omega) h
  | cons c l => rw [hr] at h hall; exact next_more Br c l r.pos r.sub r.fin w (by simp at hall; omega) (by omega) (by omega) h

/-- the cells, as the walk asks for them -/
theorem St.cp (st : St B Br Bp w0 w vv kv t r) : w.cell? ⟨Bp, 0, none⟩ = some (.pointer (some ⟨Br, 0, none⟩)) := cell_of_one st.hp
theorem St.cr1 (st : St B Br Bp w0 w vv kv t r) : w.cell? ⟨Br, 1, none⟩ = some (.int .i64 r.pos) := by rw [cell_of_row _ _ _ _ _ _ st.hr]; rfl
theorem St.cr2 (st : St B Br Bp w0 w vv kv t r) : w.cell? ⟨Br, 2, none⟩ = some (.string ⟨r.sub.toArray⟩) := by rw [cell_of_row _ _ _ _ _ _ st.hr]; rfl
theorem St.cr4 (st : St B Br Bp w0 w vv kv t r) : w.cell? ⟨Br, 4, none⟩ = some (.bool r.fin) := by rw [cell_of_row _ _ _ _ _ _ st.hr]; rfl
theorem St.ct0 (st : St B Br Bp w0 w vv kv t r) : w.cell? ⟨B + 2, 0, none⟩ = some (.string ⟨t.lang.toArray⟩) := by rw [cell_of_row _ _ _ _ _ _ st.ht]; rfl
theorem St.ct1 (st : St B Br Bp w0 w vv kv t r) : w.cell? ⟨B + 2, 1, none⟩ = some (.string ⟨t.script.toArray⟩) := by rw [cell_of_row _ _ _ _ _ _ st.ht]; rfl
theorem St.ct2 (st : St B Br Bp w0 w vv kv t r) : w.cell? ⟨B + 2, 2, none⟩ = some (.string ⟨t.region.toArray⟩) := by rw [cell_of_row _ _ _ _ _ _ st.ht]; rfl
theorem St.ct3 (st : St B Br Bp w0 w vv kv t r) : w.cell? ⟨B + 2, 3, none⟩ = some vv := by rw [cell_of_row _ _ _ _ _ _ st.ht]; rfl
theorem St.ct4 (st : St B Br Bp w0 w vv kv t r) : w.cell? ⟨B + 2, 4, none⟩ = some kv := by rw [cell_of_row _ _ _ _ _ _ st.ht]; rfl
theorem St.z0 (st : St B Br Bp w0 w vv kv t r) : w.cell? ⟨B, 0, none⟩ = some (.string ⟨#[]⟩) := by rw [cell_of_row _ _ _ _ _ _ st.h0]; rfl
theorem St.z1 (st : St B Br Bp w0 w vv kv t r) : w.cell? ⟨B, 1, none⟩ = some (.string ⟨#[]⟩) := by rw [cell_of_row _ _ _ _ _ _ st.h0]; rfl
theorem St.z2 (st : St B Br Bp w0 w vv kv t r) : w.cell? ⟨B, 2, none⟩ = some (.string ⟨#[]⟩) := by rw [cell_of_row _ _ _ _ _ _ st.h0]; rfl
theorem St.z3 (st : St B Br Bp w0 w vv kv t r) : w.cell? ⟨B, 3, none⟩ = some (.slice none 0 0) := by rw [cell_of_row _ _ _ _ _ _ st.h0]; rfl
theorem St.z4 (st : St B Br Bp w0 w vv kv t r) : w.cell? ⟨B, 4, none⟩ = some (.slice none 0 0) := by rw [cell_of_row _ _ _ _ _ _ st.h0]; rfl
theorem St.fz (st : St B Br Bp w0 w vv kv t r) (j : Nat) : w.frozen? ⟨B, j, none⟩ = false := frozen_of_row _ _ _ _ _ st.h0
theorem St.y0 (st : St B Br Bp w0 w vv kv t r) : w.cell? ⟨B + 1, 0, none⟩ = some (.int .i64 0) := by rw [cell_of_row _ _ _ _ _ _ st.h1]; rfl
theorem St.y1 (st : St B Br Bp w0 w vv kv t r) : w.cell? ⟨B + 1, 1, none⟩ = some (.int .i64 0) := by rw [cell_of_row _ _ _ _ _ _ st.h1]; rfl
theorem St.fy (st : St B Br Bp w0 w vv kv t r) (j : Nat) : w.frozen? ⟨B + 1, j, none⟩ = false := frozen_of_row _ _ _ _ _ st.h1
theorem St.ft (st : St B Br Bp w0 w vv kv t r) (j : Nat) : w.frozen? ⟨B + 2, j, none⟩ = false := frozen_of_row _ _ _ _ _ st.ht
end

/-- what tag.Parse hands back -/
def Parsed (B : Nat) (w0 : World) (x : Res) (e : Ending) (w' : World) : Prop :=
  ∃ vv kv, e = .returned (.tuple #[.agg (tagCells x.tag vv kv), .agg #[.int .i64 x.err, .int .i64 x.pos]]) ∧ OwnS w' B vv x.tag.vars ∧ OwnP w' B kv x.tag.keys ∧ Below B w0 w'

theorem infoS : (Tryz.prog.info? 9).map (fun i => (i.zero, i.size, i.bytes)) = some (some (.string ⟨#[]⟩), 1, 16) := by kernel_rfl
theorem infoP : (Tryz.prog.info? 48).map (fun i => (i.zero, i.size, i.bytes)) = some (some (.agg #[.string ⟨#[]⟩, .string ⟨#[]⟩]), 2, 32) := by kernel_rfl
theorem own_cast {w : World} {base : Nat} {e : TypeId} {size : Nat} {v : Value} {n m : Nat} {xs ys : List Value} (h : w.ownsRow base e size v n xs) (hn : m = n) (hx : ys = xs) : w.ownsRow base e size v m ys := by rw [hn, hx]; exact h
theorem nodup_snoc {l : List (Str × Str)} {key v : Str} (h : (l.any fun p => p.1 == key) = false) (hn : (l.map (·.1)).Nodup) : ((l ++ [(key, v)]).map (·.1)).Nodup := by
  rw [List.map_append, List.nodup_append]
  refine ⟨hn, by simp, fun a ha b hb => ?_⟩
  simp only [List.map_cons, List.map_nil, List.mem_singleton] at hb
  subst hb
  obtain ⟨p, hp, rfl⟩ := List.mem_map.1 ha
  have := List.any_eq_false.1 h p hp
  simpa using this
end Go.Proofs.YtjlfchnnhglbjaaGreat
