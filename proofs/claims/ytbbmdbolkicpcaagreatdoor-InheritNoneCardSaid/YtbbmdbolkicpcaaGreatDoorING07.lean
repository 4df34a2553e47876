/- PtStepA, Write, PushP -/
import Derived.Test.YtbbmdbolkicpcaaGreatDoorING06
import Derived.Test.YtbbmdbolkicpcaaGreatDoorING05
import Derived.Test.YtbbmdbolkicpcaaGreatDoorING03
set_option linter.unusedVariables false
set_option linter.unusedSimpArgs false
namespace Go.Proofs.YtbbmdbolkicpcaaGreatDoor
open Go.RowKit Go.Lib
def keysW (ks : List (Str × Str)) (s : Str) : Option (List (Str × Str) × Str) := keysP s.length ks s
theorem keysW_eq (ks : List (Str × Str)) (s : Str) : keysW ks s = match takeB 91 s with
  | none => some (ks, s)
  | some r => match keyP ks r with
   | none => none
   | some (p, r3) => keysW (ks ++ [p]) r3 := by
 unfold keysW
 cases s with
 | nil => rfl
 | cons c t =>
  simp only [List.length_cons, keysP]
  cases h1 : takeB 91 (c :: t) with
  | none => rfl
  | some r =>
   simp only
   have e1 := takeB_len h1
   cases e1
   cases h3 : keyP ks t with
   | none => rfl
   | some q =>
    obtain ⟨p, r3⟩ := q
    have e2 := (keyP_len h3).1
    exact keysP_more _ _ _ _ (by omega) (Nat.le_refl _)
theorem stepP_none {s : Str} (h : nameP s = none) : stepP s = none := by unfold stepP; rw [h]
theorem stepP_eq {s n r : Str} (h : nameP s = some (n, r)) : stepP s = (keysW [] r).map fun q => ((n, q.1), q.2) := by
 unfold stepP keysW
 rw [h]
 simp only
 cases keysP r.length [] r with
 | none => rfl
 | some q => obtain ⟨a, b⟩ := q; rfl
theorem utfB_low {c : UInt8} {t : Str} (h : c.toNat < 128) (hu : utfB (c :: t) = true) : utfB t = true := by
 have hd : decodeL (c :: t) = (c.toNat, 1) := by
  rw [decodeL_N]; unfold decodeN
  rw [show ((c :: t).getD 0 0).toNat = c.toNat from rfl, if_pos h]
 have := (utfB_sound (List.cons_ne_nil c t) hu).2
 rw [hd] at this
 exact this
theorem utfB_lows : ∀ (n t : Str), (∀ c ∈ n, c.toNat < 128) → utfB (n ++ t) = true → utfB t = true
 | [], t, _, h => h
 | c :: r, t, hn, h => utfB_lows r t (fun d hd => hn d (List.mem_cons_of_mem _ hd)) (utfB_low (hn c (List.mem_cons_self ..)) h)
theorem nameB_low (c : UInt8) (h : nameB c = true) : c.toNat < 128 := by
 revert c; apply forall_byte; decide +kernel
theorem utfB_name {s n r : Str} (h : nameP s = some (n, r)) (hu : utfB s = true) : utfB r = true := by
 have he := (nameP_split h).1
 rw [he] at hu
 refine utfB_lows n r (fun c hc => ?_) hu
 unfold nameP at h
 split at h
 ·cases h
  exact nameB_low c (List.all_eq_true.1 (List.all_takeWhile) c hc)
 ·cases h
theorem utfB_take {c : UInt8} {s r : Str} (hc : c.toNat < 128) (h : takeB c s = some r) (hu : utfB s = true) : utfB r = true := by
 rw [takeB_len h] at hu; exact utfB_low hc hu
def P2 (W : World) (B : Nat) (a0 a1 : Value) : World := (W.setCell ⟨B, 0, none⟩ a0).setCell ⟨B, 1, none⟩ a1
theorem P2_row {W : World} {B : Nat} {z0 z1 : Value} (a0 a1 : Value) (h : W.heap[B]? = some (.cells #[z0, z1] 106 (0, 0))) : (P2 W B a0 a1).heap[B]? = some (.cells #[a0, a1] 106 (0, 0)) := by
 unfold P2
 rw [heap_setCell_same _ _ _ _ _ _ (heap_setCell_same _ _ _ _ _ _ h)]; simp
theorem P2_other {W : World} {B b : Nat} (a0 a1 : Value) (h : b ≠ B) : (P2 W B a0 a1).heap[b]? = W.heap[b]? := by
 unfold P2
 rw [heap_setCell_other _ _ _ _ (by simp; exact fun e => absurd e h), heap_setCell_other _ _ _ _ (by simp; exact fun e => absurd e h)]
theorem P2_size {W : World} {B : Nat} (a0 a1 : Value) : (P2 W B a0 a1).heap.size = W.heap.size := by simp [P2]
theorem box2_cells {W : World} {B : Nat} {a0 a1 : Value} {ty : TypeId} (h : W.heap[B]? = some (.cells #[a0, a1] ty (0, 0))) :
  W.cell? ⟨B, 0, none⟩ = some a0 ∧ W.cell? ⟨B, 1, none⟩ = some a1 ∧ W.frozen? ⟨B, 0, none⟩ = false ∧ W.frozen? ⟨B, 1, none⟩ = false ∧ B < W.heap.size := by
 refine ⟨?_, ?_, frozen_of_row _ _ _ _ _ h, frozen_of_row _ _ _ _ _ h, lt_of_block h⟩
 all_goals rw [cell_of_row _ _ _ _ _ _ h]; rfl
theorem step_ret {W : World} {Rb : Nat} {a0 a1 z0 z1 : Value} {ok : Bool} (h : W.heap[Rb]? = some (.cells #[z0, z1] 106 (0, 0))) {Q : Ending → World → Prop} {a : Act} (hd : a.defers = [])
  (h2 : a.tmps.getD 2 undef = .pointer (some ⟨Rb, 0, none⟩)) (h3 : a.tmps.getD 3 undef = .bool ok) (hQ : Q (.returned (.tuple #[.agg #[a0, a1], .bool ok])) (P2 W Rb a0 a1)) :
  bodyPost Tryz.prog Tryz.f85 Q Exit.ret a (P2 W Rb a0 a1) := by
 have hr := P2_row a0 a1 h
 generalize P2 W Rb a0 a1 = V at *
 obtain ⟨e0, e1, _, _, _⟩ := box2_cells hr
 refine bodyPost_ret (v := .tuple #[.agg #[a0, a1], .bool ok]) ?_ hd hQ
 obtain ⟨tmps, defers⟩ := a
 simp only [Array.getD_eq_getD_getElem?] at h2 h3
 simp [results, Tryz.results85, go_sem, h2, h3, e0, e1]
structure SSt (w : World) (Br Sb : Nat) (n : Str) (W : World) (kv : Value) (ks : List (Str × Str)) : Prop where
 rb : W.heap[w.heap.size]? = some (.cells #[.string ⟨#[]⟩, .slice none 0 0] 106 (0, 0))
 sb : W.heap[Sb]? = some (.cells #[.string ⟨n.toArray⟩, kv] 106 (0, 0))
 own : OwnP W (w.heap.size + 1) kv ks
 only : Only Br w W
 lt : w.heap.size < Sb
 br : Br < w.heap.size
section
variable {w W W' : World} {Br Sb : Nat} {n : Str} {kv : Value} {ks : List (Str × Str)}
theorem SSt.step (h : SSt w Br Sb n W kv ks) (o : Only Br W W') : SSt w Br Sb n W' kv ks := by
 have hlt := h.lt
 have hbr := h.br
 refine ⟨(o.block _ (lt_of_block h.rb) (by simp; omega)).trans h.rb, (o.block _ (lt_of_block h.sb) (by simp; omega)).trans h.sb, World.ownsRow.kept h.own o (Or.inr (fun e => ?_)), h.only.trans o, h.lt, h.br⟩
 have := (World.ownsRow.lt h.own _ e).1
 omega
theorem SSt.below (h : SSt w Br Sb n W kv ks) (hb : Below W.heap.size W W') : SSt w Br Sb n W' kv ks :=
 ⟨(hb.block _ (lt_of_block h.rb)).trans h.rb, (hb.block _ (lt_of_block h.sb)).trans h.sb, own_below h.own hb, h.only.below hb, h.lt, h.br⟩
theorem SSt.set (h : SSt w Br Sb n W kv ks) {k : Nat} (hk : Sb < k) (hne : kv.ownBlock ≠ some k) (i : Nat) (x : Value) : SSt w Br Sb n (W.setCell ⟨k, i, none⟩ x) kv ks := by
 have hlt := h.lt
 have hbr := h.br
 have o := h.only
 refine ⟨(heap_setCell_other _ _ _ _ (by simp; omega)).trans h.rb, (heap_setCell_other _ _ _ _ (by simp; omega)).trans h.sb, own_set h.own hne _ _, ?_, h.lt, h.br⟩
 exact ⟨o.os, o.tape, o.output, by simpa using o.size, fun j hj hn => (heap_setCell_other _ _ _ _ (by simp; omega)).trans (o.block j hj hn)⟩
theorem SSt.keys (h : SSt w Br Sb n W kv ks) {kv' : Value} {ks' : List (Str × Str)} (o : OwnP W' (w.heap.size + 1) kv' ks') (gr : W.grownBy W' kv.ownBlock) : SSt w Br Sb n (W'.setCell ⟨Sb, 1, none⟩ kv') kv' ks' := by
 have hlt := h.lt
 have n1 : kv.ownBlock ≠ some w.heap.size := own_type h.own h.rb (by decide)
 have n2 : kv.ownBlock ≠ some Sb := own_type h.own h.sb (by decide)
 have rb' := (gr.block _ (lt_of_block h.rb) (Ne.symm n1)).trans h.rb
 have sb' := (gr.block _ (lt_of_block h.sb) (Ne.symm n2)).trans h.sb
 have n3 : kv'.ownBlock ≠ some Sb := own_type o sb' (by decide)
 have oo := h.only
 refine ⟨(heap_setCell_other _ _ _ _ (by simp; omega)).trans rb', by rw [heap_setCell_same _ _ _ _ _ _ sb']; simp, own_set o n3 _ _, ?_, h.lt, h.br⟩
 refine ⟨gr.os.trans oo.os, gr.tape.trans oo.tape, gr.output.trans oo.output, by simpa using Nat.le_trans oo.size gr.size, fun j hj hne => ?_⟩
 rw [heap_setCell_other _ _ _ _ (by simp; omega)]
 refine (gr.block j (Nat.lt_of_lt_of_le hj oo.size) (fun e => ?_)).trans (oo.block j hj hne)
 have := (World.ownsRow.lt h.own j e.symm).1
 omega
theorem SSt.ret (h : SSt w Br Sb n W kv ks) (a0 a1 : Value) : Only Br w (P2 W w.heap.size a0 a1) := by
 have o := h.only
 exact ⟨o.os, o.tape, o.output, by rw [P2_size]; exact o.size, fun j hj hne => (P2_other a0 a1 (by omega)).trans (o.block j hj hne)⟩
theorem SSt.own2 (h : SSt w Br Sb n W kv ks) (a0 a1 : Value) : OwnP (P2 W w.heap.size a0 a1) w.heap.size kv ks := by
 have n1 : kv.ownBlock ≠ some w.heap.size := own_type h.own h.rb (by decide)
 have := own_set (own_set h.own n1 0 a0) n1 1 a1
 unfold OwnP World.ownsRow at *
 refine ⟨this.1, ?_⟩
 rcases this.2 with h | ⟨g, cap, cur, h1, h2, h3⟩
 ·exact Or.inl h
 ·exact Or.inr ⟨g, cap, cur, h1, by omega, h3⟩
theorem SSt.rd2 (h : SSt w Br Sb n W kv ks) {b : ByteArray} {q e : Nat} {a : Int} (hr : PRd W Br b q e a) (a0 a1 : Value) : PRd (P2 W w.heap.size a0 a1) Br b q e a := by
 have := h.br
 unfold PRd at *
 rw [P2_other a0 a1 (by omega)]; exact hr
end
def StepRes (Br : Nat) (b : ByteArray) (p : Nat) (w : World) (x : Ending) (w' : World) : Prop :=
 (∃ st r q kv, stepP (b.data.toList.drop p) = some (st, r) ∧ x = .returned (.tuple #[.agg #[.string ⟨st.1.toArray⟩, kv], .bool true]) ∧ OwnP w' w.heap.size kv st.2 ∧ PRd w' Br b q 0 0 ∧ q ≤ b.size ∧ p < q ∧ r = b.data.toList.drop q ∧ utfB r = true ∧ Only Br w w') ∨
 (stepP (b.data.toList.drop p) = none ∧ (∃ (n : Str) (a : Option Addr) (l c : Nat), x = .returned (.tuple #[.agg #[.string ⟨n.toArray⟩, .slice a l c], .bool false])) ∧ (∃ q e a, e ≠ 0 ∧ PRd w' Br b q e a) ∧ Only Br w w')
end Go.Proofs.YtbbmdbolkicpcaaGreatDoor
namespace Go.Proofs.YtbbmdbolkicpcaaGreatDoor
open Go.RowKit Go.Lib Go.Sort
theorem fresh_own (w : World) (l : List Str) (B : Nat) (hB : B ≤ w.heap.size) (hl : l.length ≤ 1000) : OwnS (w.alloc (.cells (l.map S).toArray 9)) B (.slice (some ⟨w.heap.size, 0, none⟩) l.length l.length) l :=
 ⟨by simp, Or.inr ⟨w.heap.size, l.length, _, rfl, hB, heap_alloc_new w _, Nat.le_refl _, by unfold maxLen; omega, by simp, List.take_of_length_le (by simp)⟩⟩
theorem wpList_appRd {w : World} {ops : Array Oper} {rest : List Oper} {o : Oper} {a : Act} {Q : Exit → Act → World → Prop} (hgd : o.guard = none) (s x : Operand)
  (ho : o.op = .call { callee := .builtin .append, args := #[s, x], argTypes := #[36, 36] })
  (B : Nat) (v vx : Value) (l m : List Str) (hs : a.eval s = v) (hown : OwnS w B v l) (hx : a.eval x = vx) (hr : RdS w vx m) (hl : l.length + m.length ≤ 1000000) (hB : B ≤ w.heap.size)
  (h : ∀ v' w', OwnS w' B v' (l ++ m) → w.grownBy w' v.ownBlock → Moved w v v' → wpList Tryz.prog ops Q rest (a.put o.dst v') w') :
  wpList Tryz.prog ops Q (o :: rest) a w := by
 obtain ⟨i0, hi, hz0, hz1, hz2⟩ := info_parts infoS
 obtain ⟨ao, cp, rfl, hl1, hr1⟩ := hr
 cases ao with
 | none =>
  obtain ⟨rfl, rfl⟩ := hl1.2 rfl
  exact wpList_append_own_none hgd s x 36 ho B 9 i0 1 Tryz.underlying36 hi v l.length (l.map S) hs hown hx (h v w (by rw [List.append_nil]; exact hown) (World.grownBy.refl _ _) (Or.inl rfl))
 | some ad =>
  refine wpList_app hgd s x 36 ho B 9 i0 (.string ⟨#[]⟩) 1 16 Tryz.underlying36 hi hz0 hz1 hz2 rfl (by decide) v l.length (l.map S) hs hown ad m.length cp (m.map S) hx (by simp) ?_ ?_ (by unfold maxLen; omega) (by omega) hB ?_
  ·intro j u hu
   rw [List.getElem?_map] at hu
   obtain ⟨x, hx1, rfl⟩ := Option.map_eq_some_iff.1 hu
   have hne : m ≠ [] := by rintro rfl; simp at hx1
   obtain ⟨b, off, he, hlt, hc⟩ := hr1 hne
   obtain rfl : ad = ⟨b, off, none⟩ := Option.some.inj he
   have := hc j x hx1
   unfold Addr.add
   split
   ·next e => subst e; exact this
   ·exact this
  ·intro u hu
   obtain ⟨x, _, rfl⟩ := List.mem_map.1 hu
   rfl
  ·intro v' w' own gr mv
   exact h v' w' (own_cast own (by simp) (by simp)) gr mv
theorem wpList_pushK {w : World} {ops : Array Oper} {rest : List Oper} {o : Oper} {a : Act} {Q : Exit → Act → World → Prop} (hgd : o.guard = none) (s x : Operand)
  (ho : o.op = .call { callee := .builtin .append, args := #[s, x], argTypes := #[36, 36] })
  (B : Nat) (v : Value) (l : List Str) (y : Str) (k : Nat) (hk : w.heap.size = k) (hs : a.eval s = v) (hown : OwnS w B v l) (hx : a.eval x = .slice (some ⟨k, 0, none⟩) 1 1) (hl : l.length ≤ 1000000) (hB : B ≤ w.heap.size)
  (h : ∀ v' w', OwnS w' B v' (l ++ [y]) → w.grownBy w' v.ownBlock → Moved w v v' → wpList Tryz.prog ops Q rest (a.put o.dst v') w') :
  wpList Tryz.prog ops Q (o :: rest) a (w.alloc (.cells #[.string ⟨y.toArray⟩] 9)) := by
 subst hk
 exact wpList_pushS hgd s x ho B v l y hs hown hx hl hB h
structure Wr (w0 : World) (H : Nat) (w : World) (v3 : Value) (g c : Nat) (box : Array Value) (l r : List Str) : Prop where
 box : w.heap[H]? = some (.cells box 113 (0, 0))
 os : OwnS w (H + 1) v3 l
 or : OwnS w (H + 1) (.slice (some ⟨g, 0, none⟩) r.length c) r
 ne : v3.ownBlock ≠ some g
 bel : Below H w0 w
theorem Wr.push {w0 w w1 : World} {H : Nat} {v3 v' : Value} {g c : Nat} {box : Array Value} {l r l' : List Str} (h : Wr w0 H w v3 g c box l r) (hs : H + 1 ≤ w.heap.size) (o : OwnS w1 (H + 1) v' l') (gw : w.grownBy w1 v3.ownBlock) (m : Moved w v3 v') : Wr w0 H w1 v' g c box l' r := by
 have hlt := fun k hk => World.ownsRow.lt h.os k hk
 have hlr := (World.ownsRow.lt h.or g rfl).2
 refine ⟨?_, o, ?_, ?_, ?_⟩
 ·rw [gw.block H (by omega) (fun e => by have := hlt H e.symm; omega)]; exact h.box
 ·exact World.ownsRow.kept h.or gw (Or.inr fun e => h.ne e.symm)
 ·intro hk
  rcases m with m | ⟨q, h1, h2⟩
  ·exact h.ne (m ▸ hk)
  ·rw [hk] at h1
   injection h1 with h1
   omega
 ·exact h.bel.grown gw (by omega) (fun k hk => by have := (hlt k hk).1; omega)
theorem Wr.below {w0 w w1 : World} {H : Nat} {v3 : Value} {g c : Nat} {box : Array Value} {l r : List Str} (h : Wr w0 H w v3 g c box l r) (hs : H + 1 ≤ w.heap.size) (hb : Below w.heap.size w w1) : Wr w0 H w1 v3 g c box l r := by
 have hlr := (World.ownsRow.lt h.or g rfl).2
 refine ⟨?_, own_below h.os hb, own_below h.or hb, h.ne, ?_⟩
 ·rw [hb.block H (by omega)]; exact h.box
 ·exact h.bel.trans ⟨hb.os, hb.tape, hb.output, hb.size, fun k hk => hb.block k (by omega)⟩
theorem Wr.first (w w4 : World) (box : Array Value) (hd : Str) (sc rg : Value) (r : List Str) (g c : Nat) (own4 : OwnS w4 (w.heap.size + 1) (.slice (some ⟨g, 0, none⟩) r.length c) r)
  (gr4 : (((w.alloc (.cells box 113)).alloc (.cells #[.string ⟨hd.toArray⟩] 9)).alloc (.cells #[sc, rg] 9)).grownBy w4 (some (w.heap.size + 1 + 1)))
  (mv4 : Moved (((w.alloc (.cells box 113)).alloc (.cells #[.string ⟨hd.toArray⟩] 9)).alloc (.cells #[sc, rg] 9)) (.slice (some ⟨w.heap.size + 1 + 1, 0, none⟩) 2 2) (.slice (some ⟨g, 0, none⟩) r.length c)) :
  Wr w w.heap.size w4 (.slice (some ⟨w.heap.size + 1, 0, none⟩) 1 1) g c box [hd] r := by
 have o1 : OwnS ((w.alloc (.cells box 113)).alloc (.cells #[.string ⟨hd.toArray⟩] 9)) (w.heap.size + 1) (.slice (some ⟨w.heap.size + 1, 0, none⟩) 1 1) [hd] := by
  simpa [S] using fresh_own (w.alloc (.cells box 113)) [hd] (w.heap.size + 1) (by simp) (by simp)
 refine ⟨?_, ?_, own4, ?_, ?_⟩
 ·rw [gr4.block w.heap.size (by simp; omega) (by simp; omega)]
  rw [heap_alloc_old _ _ (by simp; omega), heap_alloc_old _ _ (by simp)]
  exact heap_alloc_new w _
 ·exact World.ownsRow.kept (World.ownsRow.alloc o1 _) gr4 (Or.inr (by simp [Value.ownBlock]))
 ·intro e
  simp [Value.ownBlock] at e
  subst e
  rcases mv4 with m | ⟨q, h1, h2⟩
  ·simp [Value.ownBlock] at m
  ·simp [Value.ownBlock] at h1 h2; omega
 ·exact ((((Below.refl _ _).alloc (Nat.le_refl _) _).alloc (by simp) _).alloc (by simp; omega) _).grown gr4 (by simp; omega) (fun k hk => by simp at hk; omega)
theorem take_full (r : List Str) (n : Nat) (h : n < r.length) : (r.take (n + 1)).filter full = (r.take n).filter full ++ (if r[n] = [] then [] else [r[n]]) := by
 rw [List.take_add_one, List.filter_append, List.getElem?_eq_getElem h]
 congr 1
 simp only [Option.toList, List.filter_cons, List.filter_nil]
 by_cases hy : r[n] = []
 ·simp [hy, full]
 ·have : r[n].isEmpty = false := by cases hh : r[n] with | nil => exact absurd hh hy | cons => rfl
  simp [hy, full, this]
theorem take_pairs (k : List (Str × Str)) (n : Nat) (h : n < k.length) : (k.take (n + 1)).flatMap pairParts = (k.take n).flatMap pairParts ++ pairParts k[n] := by
 rw [List.take_add_one, List.flatMap_append, List.getElem?_eq_getElem h]
 simp
theorem len_full (r : List Str) (n : Nat) : ((r.take n).filter full).length ≤ n :=
 Nat.le_trans (List.length_filter_le _ _) (by simp; omega)
theorem len_pairs (k : List (Str × Str)) : (k.flatMap pairParts).length ≤ 2 * k.length := by
 induction k with
 | nil => simp
 | cons a k ih =>
  simp only [List.flatMap_cons, List.length_append, List.length_cons]
  have : (pairParts a).length ≤ 2 := by unfold pairParts; split <;> simp
  omega
set_option maxRecDepth 100000 in
set_option maxHeartbeats 8000000 in
theorem write_any (w : World) (v : Value) (t : Tg) (h : RdT w v t) (hv : t.vars.length ≤ 1000) (hk : t.keys.length ≤ 1000) (hj : (writeF t).length ≤ 140737488355328) :
  Calls Tryz.prog 118 #[v] w fun e w' => e = .returned (S (writeF t)) ∧ Below w.heap.size w w' := by
 obtain ⟨vv, kv, rfl, hS, hP⟩ := h
 have HSS := hid hS
 obtain ⟨av, cv, rfl, hl1, hr1⟩ := hS
 obtain ⟨ak, ck, rfl, hl2, hr2⟩ := hP
 have HP := hid hr2
 have HL1 := hid hl1
 have HL2 := hid hl2
 have HJ := hid hj
 clear hr1 hr2 hl1 hl2 hj
 obtain ⟨hd, hhd⟩ : ∃ x, x = headPart t.lang := ⟨_, rfl⟩
 have HH := hid hhd
 simp only [tagCells, S]
 by_cases hlang : t.lang = []
 ·have hlb : t.lang.isEmpty = true := by rw [hlang]; rfl
  have hhd2 : hd = [117, 110, 100] := by rw [hhd]; unfold headPart; rw [if_pos hlang]; rfl
  have HLG := hid hlang
  clear hhd hlang
  go_enter Tryz.func118, Tryz.ntmps118
  have o20 : ∀ (W : World) (k : Nat), W.heap.size = k → w.heap.size + 1 ≤ k → OwnS (W.alloc (.cells #[.string ⟨t.script.toArray⟩, .string ⟨t.region.toArray⟩] 9)) (w.heap.size + 1) (.slice (some ⟨k, 0, none⟩) 2 2) [t.script, t.region] := fun W k hk hW => by
   subst hk
   simpa [S] using fresh_own W [t.script, t.region] (w.heap.size + 1) hW (by simp)
  go_wp2_with (at_builtin; refine wpList_appRd rfl (.tmp 20) (.tmp 22) rfl (w.heap.size + 1) _ _ [t.script, t.region] t.vars rfl ?xown rfl ?xrd ?xhl ?xhB ?_)
  case xown => exact o20 ((w.alloc _).alloc _) (w.heap.size + 1 + 1) (by simp) (by omega)
  case xrd => exact HSS.out.below (((Below.refl _ _).alloc (Nat.le_refl _) _).alloc (by simp) _ |>.alloc (by simp; omega) _)
  case xhl => simp; omega
  case xhB => simp
  intro vr w4 own4 gr4 mv4
  obtain ⟨g, c, hvr⟩ : ∃ g c, vr = .slice (some ⟨g, 0, none⟩) ((t.script :: t.region :: t.vars).length) c := by
   rcases own4.shape with ⟨_, e⟩ | ⟨g, cap, cur, e, _⟩
   ·simp at e
   ·exact ⟨g, cap, e⟩
  obtain ⟨r, hr⟩ : ∃ x, x = t.script :: t.region :: t.vars := ⟨_, rfl⟩
  rw [← hr] at own4 hvr
  have hrl : r.length ≤ 1002 := by rw [hr]; simp; omega
  have hr0 : 2 ≤ r.length := by rw [hr]; simp
  subst hvr
  have HR := hid hr
  have wq := Wr.first w w4 _ _ _ _ r g c own4 gr4 mv4
  clear own4 gr4 mv4 o20 hr
  go_wp2_with fail
  go_loopg [3, 5, 25] r.length (fun k v3 _ vn W => ∃ n : Nat, n ≤ r.length ∧ r.length ≤ n + k ∧ vn = .int .i64 n ∧ Wr w w.heap.size W v3 g c #[.string ⟨t.lang.toArray⟩, .string ⟨t.script.toArray⟩, .string ⟨t.region.toArray⟩, .slice av t.vars.length cv, .slice ak t.keys.length ck] (hd :: (r.take n).filter full) r)
  case atStart => exact ⟨0, Nat.zero_le _, by omega, rfl, by rw [hhd2]; exact wq⟩
  case round =>
   obtain ⟨n, hn, hg, rfl, st⟩ := hrel
   clear wq hhd2
   have HG := hid hg
   have hsz : w.heap.size + 1 ≤ wr.heap.size := by have := (World.ownsRow.lt st.or g rfl); omega
   clear hg
   by_cases hlt : n < r.length
   ·obtain ⟨y, hy⟩ : ∃ y, y = r[n] := ⟨_, rfl⟩
    have cy : wr.cell? ⟨g, n, none⟩ = some (.string ⟨y.toArray⟩) := by
     rw [World.ownsRow.cellAt st.or n (by omega), hy]
     simp [S, hlt]
    have step := take_full r n hlt
    rw [← hy] at step
    have HST := hid step
    clear step hy
    by_cases hy0 : y = []
    ·have hb : (y != []) = false := by rw [hy0]; rfl
     have hb2 : y.isEmpty = true := by rw [hy0]; rfl
     have HY := hid hy0
     clear hy0
     go_wp2_with fail
     go_roundg (gk - 1)
     case measure => have := HG.out; omega
     case rel => exact ⟨n + 1, by omega, by have := HG.out; omega, by simp, by rw [HST.out, if_pos HY.out, List.append_nil]; exact st⟩
    ·have hb : (y != []) = true := by rw [bne_iff_ne]; exact hy0
     have hb2 : y.isEmpty = false := by cases hh : y with | nil => exact absurd hh hy0 | cons => rfl
     have HY := hid hy0
     clear hy0
     go_wp2_with (at_builtin; refine wpList_pushS rfl (.tmp 31) (.tmp 33) rfl (w.heap.size + 1) u3 _ y rfl st.os rfl ?xc1 ?xc2 ?_)
     case xc1 => have := len_full r n; simp; omega
     case xc2 => exact hsz
     intro v5 w5 own5 gr5 mv5
     have st5 := st.push hsz own5 gr5 mv5
     clear own5 gr5 mv5 cy
     go_wp2_with fail
     go_roundg (gk - 1)
     case measure => have := HG.out; omega
     case rel => exact ⟨n + 1, by omega, by have := HG.out; omega, by simp, by rw [HST.out, if_neg HY.out]; exact st5⟩
   ·obtain rfl : n = r.length := by omega
    rw [List.take_length] at st
    have c4 : wr.cell? ⟨w.heap.size, 4, none⟩ = some (.slice ak t.keys.length ck) := cell_of_row _ _ _ _ _ _ st.box
    have hlf := len_full r r.length
    rw [List.take_length] at hlf
    by_cases hk0 : t.keys = []
    ·have hkl : t.keys.length = 0 := by rw [hk0]; rfl
     rw [hkl] at c4
     have HK := hid hk0
     have hw : hd :: r.filter full = parts t := by unfold parts partsA; rw [hk0, ← HH.out, HR.out]; simp [uPart]
     have hjo := join_own wr _ u3 _ st.os (by simp; omega) (by rw [hw]; exact HJ.out)
     rw [hw] at hjo
     change Calls _ _ _ _ fun e w' => e = .returned (.string ⟨(writeF t).toArray⟩) ∧ _ at hjo
     have HJJ := hid hjo
     have bel := hid st.bel
     clear hk0 hw st hjo
     go_wp2_with fail
     refine wp_loop_rounds 1 ?_
     rw [rounds_succ]
     go_wp2_with fail
     refine HJJ.out.mono ?_
     rintro e w6 ⟨rfl, hb6⟩
     go_wp2_with fail
     go_ret
     exact ⟨rfl, bel.out.then hb6⟩
    ·obtain ⟨b, off, rfl, hbl, hc⟩ := HP.out hk0
     have hkp : 0 < t.keys.length := List.length_pos_iff.2 hk0
     have hkl : (t.keys.length == 0) = false := by rw [beq_eq_false_iff_ne]; omega
     have HK := hid hk0
     have HC := hid hc
     have HKP := hid hkp
     clear hc hk0
     go_wp2_with (at_builtin; refine wpList_pushS rfl (.tmp 40) (.tmp 41) rfl (w.heap.size + 1) u3 _ [117] rfl st.os rfl ?xd1 ?xd2 ?_)
     case xd1 => simp; omega
     case xd2 => exact hsz
     intro v5 w5 own5 gr5 mv5
     have st5 := st.push hsz own5 gr5 mv5
     have hz5 : w.heap.size + 1 ≤ w5.heap.size := by have := (World.ownsRow.lt st5.or g rfl); omega
     clear own5 gr5 mv5 c4 st
     have c4 : w5.cell? ⟨w.heap.size, 4, none⟩ = some (.slice (some ⟨b, off, none⟩) t.keys.length ck) := cell_of_row _ _ _ _ _ _ st5.box
     go_wp2_with fail
     go_loopg [3, 7, 46] t.keys.length (fun k v3 _ vn W => ∃ n : Nat, n ≤ t.keys.length ∧ t.keys.length ≤ n + k ∧ vn = .int .i64 n ∧ Wr w w.heap.size W v3 g c #[.string ⟨t.lang.toArray⟩, .string ⟨t.script.toArray⟩, .string ⟨t.region.toArray⟩, .slice av t.vars.length cv, .slice (some ⟨b, off, none⟩) t.keys.length ck] ((hd :: r.filter full) ++ [[117]] ++ (t.keys.take n).flatMap pairParts) r)
     case atStart => exact ⟨0, Nat.zero_le _, by omega, rfl, by simpa using st5⟩
     case round =>
      clear st5 hsz hlt hn HG
      obtain ⟨n, hn, hg, rfl, st⟩ := hrel
      have HG := hid hg
      have hsz : w.heap.size + 1 ≤ wr.heap.size := by have := (World.ownsRow.lt st.or g rfl); omega
      clear hg
      by_cases hlt : n < t.keys.length
      ·obtain ⟨ky, vy, hp⟩ : ∃ a b, t.keys[n] = (a, b) := ⟨_, _, rfl⟩
       have c0 : wr.cell? ⟨b, off + n * 2, none⟩ = some (.string ⟨ky.toArray⟩) := (st.bel.cell (p := ⟨b, off + n * 2, none⟩) hbl).trans (HC.out n 0 _ hlt (by rw [hp]; rfl))
       have c1 : wr.cell? ⟨b, off + n * 2 + 1, none⟩ = some (.string ⟨vy.toArray⟩) := (st.bel.cell (p := ⟨b, off + n * 2 + 1, none⟩) hbl).trans (HC.out n 1 _ hlt (by rw [hp]; rfl))
       have step := take_pairs t.keys n hlt
       rw [hp] at step
       have HST := hid step
       have hlp := len_pairs (t.keys.take n)
       rw [List.length_take] at hlp
       have hl5 : ((hd :: r.filter full) ++ [[117]] ++ (t.keys.take n).flatMap pairParts).length ≤ 10000 := by simp only [List.length_append, List.length_cons, List.length_nil]; omega
       have HL5 := hid hl5
       clear step hp hl5 hlp
       have st1 := st.below hsz ((Below.refl _ _).alloc (Nat.le_refl _) (.cells #[.string ⟨ky.toArray⟩, .string ⟨vy.toArray⟩] 76))
       have hbox : (wr.alloc (.cells #[.string ⟨ky.toArray⟩, .string ⟨vy.toArray⟩] 76)).heap[wr.heap.size]? = some (.cells #[.string ⟨ky.toArray⟩, .string ⟨vy.toArray⟩] 76 (0, 0)) := heap_alloc_new wr _
       have how := World.ownsRow.lt st.os
       clear st
       go_wp2_with (at_builtin; refine wpList_pushK rfl (.tmp 50) (.tmp 53) rfl (w.heap.size + 1) _ _ ky (wr.heap.size + 1) (by simp) rfl st1.os rfl ?xe1 ?xe2 ?_)
       case xe1 => have := HL5.out; omega
       case xe2 => simp; omega
       intro v6 w6 own6 gr6 mv6
       have st6 := st1.push (by simp; omega) own6 gr6 mv6
       have hbox6 : w6.heap[wr.heap.size]? = some (.cells #[.string ⟨ky.toArray⟩, .string ⟨vy.toArray⟩] 76 (0, 0)) := by
        rw [gr6.block wr.heap.size (by simp) (fun e => by have := (how _ e.symm).2; omega)]; exact hbox
       have hz6 : w.heap.size + 1 ≤ w6.heap.size := by have := (World.ownsRow.lt st6.or g rfl); omega
       have hzb : wr.heap.size < w6.heap.size := lt_of_block hbox6
       have cb1 : w6.cell? ⟨wr.heap.size, 1, none⟩ = some (.string ⟨vy.toArray⟩) := cell_of_row _ _ _ _ _ _ hbox6
       clear own6 gr6 mv6 st1 hbox how c0 c1 hbox6
       by_cases hv0 : vy = []
       ·have hb : (vy != []) = false := by rw [hv0]; rfl
        have hb2 : vy.isEmpty = true := by rw [hv0]; rfl
        have HV := hid hv0
        clear hv0
        go_wp2_with fail
        go_roundg (gk - 1)
        case measure => have := HG.out; omega
        case rel => exact ⟨n + 1, by omega, by have := HG.out; omega, by simp, by rw [HST.out, show pairParts (ky, vy) = [ky] from if_pos HV.out]; simpa using st6⟩
       ·have hb : (vy != []) = true := by rw [bne_iff_ne]; exact hv0
        have hb2 : vy.isEmpty = false := by cases hh : vy with | nil => exact absurd hh hv0 | cons => rfl
        have HV := hid hv0
        clear hv0
        go_wp2_with (at_builtin; refine wpList_pushS rfl (.tmp 58) (.tmp 61) rfl (w.heap.size + 1) _ _ vy rfl st6.os rfl ?xf1 ?xf2 ?_)
        case xf1 => have := HL5.out; simp at this ⊢; omega
        case xf2 => exact hz6
        intro v7 w7 own7 gr7 mv7
        have st7 := st6.push hz6 own7 gr7 mv7
        clear own7 gr7 mv7 st6 cb1
        go_wp2_with fail
        go_roundg (gk - 1)
        case measure => have := HG.out; omega
        case rel => exact ⟨n + 1, by omega, by have := HG.out; omega, by simp, by rw [HST.out, show pairParts (ky, vy) = [ky, vy] from if_neg HV.out]; simpa using st7⟩
      ·obtain rfl : n = t.keys.length := by omega
       rw [List.take_length] at st
       have hlp := len_pairs t.keys
       have hw : (hd :: r.filter full) ++ [[117]] ++ t.keys.flatMap pairParts = parts t := by unfold parts partsA; rw [← HH.out, HR.out]; simp [uPart, HK.out]
       have hjo := join_own wr _ _ _ st.os (by simp only [List.length_append, List.length_cons, List.length_nil]; omega) (by rw [hw]; exact HJ.out)
       rw [hw] at hjo
       change Calls _ _ _ _ fun e w' => e = .returned (.string ⟨(writeF t).toArray⟩) ∧ _ at hjo
       have HJJ := hid hjo
       have bel := hid st.bel
       clear hw st hjo hlp
       go_wp2_with fail
       refine HJJ.out.mono ?_
       rintro e w6 ⟨rfl, hb6⟩
       go_wp2_with fail
       go_ret
       exact ⟨rfl, bel.out.then hb6⟩
 ·have hlb : t.lang.isEmpty = false := by cases hh : t.lang with | nil => exact absurd hh hlang | cons => rfl
  have hhd2 : hd = t.lang := by rw [hhd]; unfold headPart; rw [if_neg hlang]
  have HLG := hid hlang
  clear hhd hlang
  go_enter Tryz.func118, Tryz.ntmps118
  have o20 : ∀ (W : World) (k : Nat), W.heap.size = k → w.heap.size + 1 ≤ k → OwnS (W.alloc (.cells #[.string ⟨t.script.toArray⟩, .string ⟨t.region.toArray⟩] 9)) (w.heap.size + 1) (.slice (some ⟨k, 0, none⟩) 2 2) [t.script, t.region] := fun W k hk hW => by
   subst hk
   simpa [S] using fresh_own W [t.script, t.region] (w.heap.size + 1) hW (by simp)
  go_wp2_with (at_builtin; refine wpList_appRd rfl (.tmp 20) (.tmp 22) rfl (w.heap.size + 1) _ _ [t.script, t.region] t.vars rfl ?yown rfl ?yrd ?yhl ?yhB ?_)
  case yown => exact o20 ((w.alloc _).alloc _) (w.heap.size + 1 + 1) (by simp) (by omega)
  case yrd => exact HSS.out.below (((Below.refl _ _).alloc (Nat.le_refl _) _).alloc (by simp) _ |>.alloc (by simp; omega) _)
  case yhl => simp; omega
  case yhB => simp
  intro vr w4 own4 gr4 mv4
  obtain ⟨g, c, hvr⟩ : ∃ g c, vr = .slice (some ⟨g, 0, none⟩) ((t.script :: t.region :: t.vars).length) c := by
   rcases own4.shape with ⟨_, e⟩ | ⟨g, cap, cur, e, _⟩
   ·simp at e
   ·exact ⟨g, cap, e⟩
  obtain ⟨r, hr⟩ : ∃ x, x = t.script :: t.region :: t.vars := ⟨_, rfl⟩
  rw [← hr] at own4 hvr
  have hrl : r.length ≤ 1002 := by rw [hr]; simp; omega
  have hr0 : 2 ≤ r.length := by rw [hr]; simp
  subst hvr
  have HR := hid hr
  have wq := Wr.first w w4 _ _ _ _ r g c own4 gr4 mv4
  clear own4 gr4 mv4 o20 hr
  go_wp2_with fail
  go_loopg [3, 5, 25] r.length (fun k v3 _ vn W => ∃ n : Nat, n ≤ r.length ∧ r.length ≤ n + k ∧ vn = .int .i64 n ∧ Wr w w.heap.size W v3 g c #[.string ⟨t.lang.toArray⟩, .string ⟨t.script.toArray⟩, .string ⟨t.region.toArray⟩, .slice av t.vars.length cv, .slice ak t.keys.length ck] (hd :: (r.take n).filter full) r)
  case atStart => exact ⟨0, Nat.zero_le _, by omega, rfl, by rw [hhd2]; exact wq⟩
  case round =>
   obtain ⟨n, hn, hg, rfl, st⟩ := hrel
   clear wq hhd2
   have HG := hid hg
   have hsz : w.heap.size + 1 ≤ wr.heap.size := by have := (World.ownsRow.lt st.or g rfl); omega
   clear hg
   by_cases hlt : n < r.length
   ·obtain ⟨y, hy⟩ : ∃ y, y = r[n] := ⟨_, rfl⟩
    have cy : wr.cell? ⟨g, n, none⟩ = some (.string ⟨y.toArray⟩) := by
     rw [World.ownsRow.cellAt st.or n (by omega), hy]
     simp [S, hlt]
    have step := take_full r n hlt
    rw [← hy] at step
    have HST := hid step
    clear step hy
    by_cases hy0 : y = []
    ·have hb : (y != []) = false := by rw [hy0]; rfl
     have hb2 : y.isEmpty = true := by rw [hy0]; rfl
     have HY := hid hy0
     clear hy0
     go_wp2_with fail
     go_roundg (gk - 1)
     case measure => have := HG.out; omega
     case rel => exact ⟨n + 1, by omega, by have := HG.out; omega, by simp, by rw [HST.out, if_pos HY.out, List.append_nil]; exact st⟩
    ·have hb : (y != []) = true := by rw [bne_iff_ne]; exact hy0
     have hb2 : y.isEmpty = false := by cases hh : y with | nil => exact absurd hh hy0 | cons => rfl
     have HY := hid hy0
     clear hy0
     go_wp2_with (at_builtin; refine wpList_pushS rfl (.tmp 31) (.tmp 33) rfl (w.heap.size + 1) u3 _ y rfl st.os rfl ?yc1 ?yc2 ?_)
     case yc1 => have := len_full r n; simp; omega
     case yc2 => exact hsz
     intro v5 w5 own5 gr5 mv5
     have st5 := st.push hsz own5 gr5 mv5
     clear own5 gr5 mv5 cy
     go_wp2_with fail
     go_roundg (gk - 1)
     case measure => have := HG.out; omega
     case rel => exact ⟨n + 1, by omega, by have := HG.out; omega, by simp, by rw [HST.out, if_neg HY.out]; exact st5⟩
   ·obtain rfl : n = r.length := by omega
    rw [List.take_length] at st
    have c4 : wr.cell? ⟨w.heap.size, 4, none⟩ = some (.slice ak t.keys.length ck) := cell_of_row _ _ _ _ _ _ st.box
    have hlf := len_full r r.length
    rw [List.take_length] at hlf
    by_cases hk0 : t.keys = []
    ·have hkl : t.keys.length = 0 := by rw [hk0]; rfl
     rw [hkl] at c4
     have HK := hid hk0
     have hw : hd :: r.filter full = parts t := by unfold parts partsA; rw [hk0, ← HH.out, HR.out]; simp [uPart]
     have hjo := join_own wr _ u3 _ st.os (by simp; omega) (by rw [hw]; exact HJ.out)
     rw [hw] at hjo
     change Calls _ _ _ _ fun e w' => e = .returned (.string ⟨(writeF t).toArray⟩) ∧ _ at hjo
     have HJJ := hid hjo
     have bel := hid st.bel
     clear hk0 hw st hjo
     go_wp2_with fail
     refine wp_loop_rounds 1 ?_
     rw [rounds_succ]
     go_wp2_with fail
     refine HJJ.out.mono ?_
     rintro e w6 ⟨rfl, hb6⟩
     go_wp2_with fail
     go_ret
     exact ⟨rfl, bel.out.then hb6⟩
    ·obtain ⟨b, off, rfl, hbl, hc⟩ := HP.out hk0
     have hkp : 0 < t.keys.length := List.length_pos_iff.2 hk0
     have hkl : (t.keys.length == 0) = false := by rw [beq_eq_false_iff_ne]; omega
     have HK := hid hk0
     have HC := hid hc
     have HKP := hid hkp
     clear hc hk0
     go_wp2_with (at_builtin; refine wpList_pushS rfl (.tmp 40) (.tmp 41) rfl (w.heap.size + 1) u3 _ [117] rfl st.os rfl ?yd1 ?yd2 ?_)
     case yd1 => simp; omega
     case yd2 => exact hsz
     intro v5 w5 own5 gr5 mv5
     have st5 := st.push hsz own5 gr5 mv5
     have hz5 : w.heap.size + 1 ≤ w5.heap.size := by have := (World.ownsRow.lt st5.or g rfl); omega
     clear own5 gr5 mv5 c4 st
     have c4 : w5.cell? ⟨w.heap.size, 4, none⟩ = some (.slice (some ⟨b, off, none⟩) t.keys.length ck) := cell_of_row _ _ _ _ _ _ st5.box
     go_wp2_with fail
     go_loopg [3, 7, 46] t.keys.length (fun k v3 _ vn W => ∃ n : Nat, n ≤ t.keys.length ∧ t.keys.length ≤ n + k ∧ vn = .int .i64 n ∧ Wr w w.heap.size W v3 g c #[.string ⟨t.lang.toArray⟩, .string ⟨t.script.toArray⟩, .string ⟨t.region.toArray⟩, .slice av t.vars.length cv, .slice (some ⟨b, off, none⟩) t.keys.length ck] ((hd :: r.filter full) ++ [[117]] ++ (t.keys.take n).flatMap pairParts) r)
     case atStart => exact ⟨0, Nat.zero_le _, by omega, rfl, by simpa using st5⟩
     case round =>
      clear st5 hsz hlt hn HG
      obtain ⟨n, hn, hg, rfl, st⟩ := hrel
      have HG := hid hg
      have hsz : w.heap.size + 1 ≤ wr.heap.size := by have := (World.ownsRow.lt st.or g rfl); omega
      clear hg
      by_cases hlt : n < t.keys.length
      ·obtain ⟨ky, vy, hp⟩ : ∃ a b, t.keys[n] = (a, b) := ⟨_, _, rfl⟩
       have c0 : wr.cell? ⟨b, off + n * 2, none⟩ = some (.string ⟨ky.toArray⟩) := (st.bel.cell (p := ⟨b, off + n * 2, none⟩) hbl).trans (HC.out n 0 _ hlt (by rw [hp]; rfl))
       have c1 : wr.cell? ⟨b, off + n * 2 + 1, none⟩ = some (.string ⟨vy.toArray⟩) := (st.bel.cell (p := ⟨b, off + n * 2 + 1, none⟩) hbl).trans (HC.out n 1 _ hlt (by rw [hp]; rfl))
       have step := take_pairs t.keys n hlt
       rw [hp] at step
       have HST := hid step
       have hlp := len_pairs (t.keys.take n)
       rw [List.length_take] at hlp
       have hl5 : ((hd :: r.filter full) ++ [[117]] ++ (t.keys.take n).flatMap pairParts).length ≤ 10000 := by simp only [List.length_append, List.length_cons, List.length_nil]; omega
       have HL5 := hid hl5
       clear step hp hl5 hlp
       have st1 := st.below hsz ((Below.refl _ _).alloc (Nat.le_refl _) (.cells #[.string ⟨ky.toArray⟩, .string ⟨vy.toArray⟩] 76))
       have hbox : (wr.alloc (.cells #[.string ⟨ky.toArray⟩, .string ⟨vy.toArray⟩] 76)).heap[wr.heap.size]? = some (.cells #[.string ⟨ky.toArray⟩, .string ⟨vy.toArray⟩] 76 (0, 0)) := heap_alloc_new wr _
       have how := World.ownsRow.lt st.os
       clear st
       go_wp2_with (at_builtin; refine wpList_pushK rfl (.tmp 50) (.tmp 53) rfl (w.heap.size + 1) _ _ ky (wr.heap.size + 1) (by simp) rfl st1.os rfl ?ye1 ?ye2 ?_)
       case ye1 => have := HL5.out; omega
       case ye2 => simp; omega
       intro v6 w6 own6 gr6 mv6
       have st6 := st1.push (by simp; omega) own6 gr6 mv6
       have hbox6 : w6.heap[wr.heap.size]? = some (.cells #[.string ⟨ky.toArray⟩, .string ⟨vy.toArray⟩] 76 (0, 0)) := by
        rw [gr6.block wr.heap.size (by simp) (fun e => by have := (how _ e.symm).2; omega)]; exact hbox
       have hz6 : w.heap.size + 1 ≤ w6.heap.size := by have := (World.ownsRow.lt st6.or g rfl); omega
       have hzb : wr.heap.size < w6.heap.size := lt_of_block hbox6
       have cb1 : w6.cell? ⟨wr.heap.size, 1, none⟩ = some (.string ⟨vy.toArray⟩) := cell_of_row _ _ _ _ _ _ hbox6
       clear own6 gr6 mv6 st1 hbox how c0 c1 hbox6
       by_cases hv0 : vy = []
       ·have hb : (vy != []) = false := by rw [hv0]; rfl
        have hb2 : vy.isEmpty = true := by rw [hv0]; rfl
        have HV := hid hv0
        clear hv0
        go_wp2_with fail
        go_roundg (gk - 1)
        case measure => have := HG.out; omega
        case rel => exact ⟨n + 1, by omega, by have := HG.out; omega, by simp, by rw [HST.out, show pairParts (ky, vy) = [ky] from if_pos HV.out]; simpa using st6⟩
       ·have hb : (vy != []) = true := by rw [bne_iff_ne]; exact hv0
        have hb2 : vy.isEmpty = false := by cases hh : vy with | nil => exact absurd hh hv0 | cons => rfl
        have HV := hid hv0
        clear hv0
        go_wp2_with (at_builtin; refine wpList_pushS rfl (.tmp 58) (.tmp 61) rfl (w.heap.size + 1) _ _ vy rfl st6.os rfl ?yf1 ?yf2 ?_)
        case yf1 => have := HL5.out; simp at this ⊢; omega
        case yf2 => exact hz6
        intro v7 w7 own7 gr7 mv7
        have st7 := st6.push hz6 own7 gr7 mv7
        clear own7 gr7 mv7 st6 cb1
        go_wp2_with fail
        go_roundg (gk - 1)
        case measure => have := HG.out; omega
        case rel => exact ⟨n + 1, by omega, by have := HG.out; omega, by simp, by rw [HST.out, show pairParts (ky, vy) = [ky, vy] from if_neg HV.out]; simpa using st7⟩
      ·obtain rfl : n = t.keys.length := by omega
       rw [List.take_length] at st
       have hlp := len_pairs t.keys
       have hw : (hd :: r.filter full) ++ [[117]] ++ t.keys.flatMap pairParts = parts t := by unfold parts partsA; rw [← HH.out, HR.out]; simp [uPart, HK.out]
       have hjo := join_own wr _ _ _ st.os (by simp only [List.length_append, List.length_cons, List.length_nil]; omega) (by rw [hw]; exact HJ.out)
       rw [hw] at hjo
       change Calls _ _ _ _ fun e w' => e = .returned (.string ⟨(writeF t).toArray⟩) ∧ _ at hjo
       have HJJ := hid hjo
       have bel := hid st.bel
       clear hw st hjo hlp
       go_wp2_with fail
       refine HJJ.out.mono ?_
       rintro e w6 ⟨rfl, hb6⟩
       go_wp2_with fail
       go_ret
       exact ⟨rfl, bel.out.then hb6⟩
end Go.Proofs.YtbbmdbolkicpcaaGreatDoor
namespace Go.Proofs.YtbbmdbolkicpcaaGreatDoor
open Go.RowKit Go.Lib Go.Sort
theorem cell_two_new (w : World) (a b : Value) (e : TypeId) (j : Nat) (u : Value) (h : [a, b][j]? = some u) : (w.alloc (.cells #[a, b] e)).cell? ((⟨w.heap.size, 0, none⟩ : Addr).add j) = some u := by
 have hr := heap_alloc_new w (.cells #[a, b] e)
 have hx := cell_of_row _ _ j _ _ _ hr
 have hadd : ((⟨w.heap.size, 0, none⟩ : Addr).add j) = ⟨w.heap.size, j, none⟩ := by
  unfold Addr.add
  split
  ·next e => subst e; rfl
  ·simp
 rw [hadd, hx]
 match j, h with
 | 0, h => simpa using h
 | 1, h => simpa using h
theorem wpList_pushP {w : World} {ops : Array Oper} {rest : List Oper} {o : Oper} {a : Act} {Q : Exit → Act → World → Prop} (hgd : o.guard = none) (s x : Operand)
  (ho : o.op = .call { callee := .builtin .append, args := #[s, x], argTypes := #[65, 65] })
  (B : Nat) (v : Value) (l : List (Str × Str)) (y : Str × Str) (hs : a.eval s = v) (hown : OwnP w B v l) (hx : a.eval x = .slice (some ⟨w.heap.size, 0, none⟩) 1 1) (hl : l.length ≤ 1000000) (hB : B ≤ w.heap.size)
  (h : ∀ v' w', OwnP w' B v' (l ++ [y]) → w.grownBy w' v.ownBlock → Moved w v v' → wpList Tryz.prog ops Q rest (a.put o.dst v') w') :
  wpList Tryz.prog ops Q (o :: rest) a (w.alloc (.cells #[.string ⟨y.1.toArray⟩, .string ⟨y.2.toArray⟩] 76)) := by
 obtain ⟨i0, hi, hz0, hz1, hz2⟩ := info_parts infoP
 refine wpList_app hgd s x 65 ho B 76 i0 (.agg #[.string ⟨#[]⟩, .string ⟨#[]⟩]) 2 32 Tryz.underlying65 hi hz0 hz1 hz2 rfl (by decide) v l.length (flat2 l) hs (World.ownsRow.alloc hown _) ⟨w.heap.size, 0, none⟩ 1 1 [.string ⟨y.1.toArray⟩, .string ⟨y.2.toArray⟩] hx rfl (cell_two_new _ _ _ _) (fun u hu => by simp at hu; rcases hu with rfl | rfl <;> rfl) (by unfold maxLen; omega) (by omega) (by simp; omega) ?_
 intro v' w' own gr mv
 refine h v' w' (own_cast own (by simp) (by simp [flat2, enc2, S])) ⟨gr.os, gr.tape, gr.output, Nat.le_trans (by simp) gr.size, fun k hk hne => ?_⟩ ?_
 ·rw [gr.block k (by simp; omega) hne]; exact heap_alloc_old _ _ hk
 ·rcases mv with m | ⟨k, h1, h2⟩
  ·exact Or.inl m
  ·exact Or.inr ⟨k, h1, by simp at h2; omega⟩
end Go.Proofs.YtbbmdbolkicpcaaGreatDoor
