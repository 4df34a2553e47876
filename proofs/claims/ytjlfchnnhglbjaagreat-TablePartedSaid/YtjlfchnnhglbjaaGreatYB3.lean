/- WriteP, Same, App, Write, Check, BoxC, Name, Boxes -/
import Derived.Test.YtjlfchnnhglbjaaGreatYB1
import Derived.Test.YtjlfchnnhglbjaaGreatYB2
import Derived.Laws.AppendOwnNone
set_option linter.unusedVariables false
set_option linter.unusedSimpArgs false
namespace Go.Proofs.YtjlfchnnhglbjaaGreat
def full (x : Str) : Bool := !x.isEmpty
def pairParts (p : Str × Str) : List Str := if p.2 = [] then [p.1] else [p.1, p.2]
def headPart (l : Str) : Str := if l = [] then tUnd else l
def partsA (t : Tg) (l : List Str) : List Str := headPart t.lang :: l.filter full
def uPart (k : List (Str × Str)) : List Str := if k = [] then [] else [[117]]
def parts (t : Tg) : List Str := partsA t ([t.script, t.region] ++ t.vars) ++ (uPart t.keys ++ t.keys.flatMap pairParts)
def writeF (t : Tg) : Str := Lib.join (parts t) [45]
def sameB (a b : Tg) : Bool := a.lang == b.lang && (a.script == b.script && (a.region == b.region && (decide (a.vars = b.vars) && decide (a.keys = b.keys))))
theorem sameB_refl (a : Tg) : sameB a a = true := by simp [sameB]
def checkF (t : Tg) : Int := if (parseF (writeF t)).err ≠ 0 ∨ sameB (parseF (writeF t)).tag t = false then 2 else 0
def nameOf (s : Str) : Str := if s = tUnd then tRoot else s
def nameF (t : Tg) : Str × Int := if checkF t = 0 then (nameOf (writeF { t with keys := [] }), 0) else ([], checkF t)
def bareT (t : Tg) : Tg := { t with keys := [] }
end Go.Proofs.YtjlfchnnhglbjaaGreat
namespace Go.Proofs.YtjlfchnnhglbjaaGreat
open Go.RowKit Go.Lib Go.Sort
def RdS (w : World) (v : Value) (l : List Str) : Prop :=
 ∃ ao cp, v = .slice ao l.length cp ∧ (l.length ≤ 9223372036854775807 ∧ (ao = none → l = [] ∧ cp = 0)) ∧ (l ≠ [] → ∃ b off, ao = some ⟨b, off, none⟩ ∧ b < w.heap.size ∧ ∀ j x, l[j]? = some x → w.cell? ⟨b, off + j, none⟩ = some (S x))
def RdP (w : World) (v : Value) (l : List (Str × Str)) : Prop :=
 ∃ ao cp, v = .slice ao l.length cp ∧ (l.length ≤ 9223372036854775807 ∧ (ao = none → l = [] ∧ cp = 0)) ∧ (l ≠ [] → ∃ b off, ao = some ⟨b, off, none⟩ ∧ b < w.heap.size ∧ ∀ j i x, (hj : j < l.length) → (enc2 l[j])[i]? = some x → w.cell? ⟨b, off + j * 2 + i, none⟩ = some x)
theorem OwnS.rd {w : World} {B : Nat} {v : Value} {l : List Str} (h : OwnS w B v l) : RdS w v l := by
 rcases h.shape with ⟨rfl, rfl⟩ | ⟨g, cap, cur, rfl, hB, hg, hn, hm, hs, ht⟩
 ·exact ⟨none, 0, rfl, by simp, fun h => absurd rfl h⟩
 ·refine ⟨_, _, rfl, ⟨by unfold maxLen at hm; omega, fun e => by cases e⟩, fun _ => ⟨g, 0, rfl, lt_of_block hg, fun j x hx => ?_⟩⟩
  rw [Nat.zero_add]
  exact cells_at hg ht j _ (by simp [hx])
theorem OwnP.rd {w : World} {B : Nat} {v : Value} {l : List (Str × Str)} (h : OwnP w B v l) : RdP w v l := by
 rcases h.shape with ⟨rfl, rfl⟩ | ⟨g, cap, cur, rfl, hB, hg, hn, hm, hs, ht⟩
 ·exact ⟨none, 0, rfl, by simp, fun h => absurd rfl h⟩
 ·refine ⟨_, _, rfl, ⟨by unfold maxLen at hm; omega, fun e => by cases e⟩, fun _ => ⟨g, 0, rfl, lt_of_block hg, fun j i x hj hx => ?_⟩⟩
  exact pair_cells hg ht j hj i x (by rw [getElem!_pos l j hj]; exact hx)
theorem RdS.nil (w : World) : RdS w vnil [] := ⟨none, 0, rfl, by simp, fun h => absurd rfl h⟩
theorem RdP.nil (w : World) : RdP w vnil [] := ⟨none, 0, rfl, by simp, fun h => absurd rfl h⟩
theorem RdS.below {w w1 : World} {v : Value} {l : List Str} (h : RdS w v l) (hb : Below w.heap.size w w1) : RdS w1 v l := by
 obtain ⟨ao, cp, hv, hl, hr⟩ := h
 refine ⟨ao, cp, hv, hl, fun hne => ?_⟩
 obtain ⟨b, off, ha, hlt, hc⟩ := hr hne
 exact ⟨b, off, ha, Nat.lt_of_lt_of_le hlt hb.size, fun j x hx => (hb.cell (p := ⟨b, off + j, none⟩) hlt).trans (hc j x hx)⟩
theorem RdP.below {w w1 : World} {v : Value} {l : List (Str × Str)} (h : RdP w v l) (hb : Below w.heap.size w w1) : RdP w1 v l := by
 obtain ⟨ao, cp, hv, hl, hr⟩ := h
 refine ⟨ao, cp, hv, hl, fun hne => ?_⟩
 obtain ⟨b, off, ha, hlt, hc⟩ := hr hne
 exact ⟨b, off, ha, Nat.lt_of_lt_of_le hlt hb.size, fun j i x hj hx => (hb.cell (p := ⟨b, off + j * 2 + i, none⟩) hlt).trans (hc j i x hj hx)⟩
theorem ba_inj {a b : Str} (h : (⟨a.toArray⟩ : ByteArray) = ⟨b.toArray⟩) : a = b := by
 have := congrArg (fun b : ByteArray => b.data.toList) h
 simpa using this
theorem bas_inj {l m : List Str} : bas l = bas m ↔ l = m := by
 constructor
 ·intro h
  induction l generalizing m with
  | nil => cases m with | nil => rfl | cons a r => simp [bas] at h
  | cons a r ih =>
   cases m with
   | nil => simp [bas] at h
   | cons b q =>
    simp only [bas, List.map_cons, List.cons.injEq] at h
    have h2 := ih (m := q) (by simpa [bas] using h.2)
    have h3 : a = b := ba_inj h.1
    rw [h2, h3]
 ·intro h; rw [h]
theorem eqS_any (w : World) (v v' : Value) (l m : List Str) (h : RdS w v l) (h' : RdS w v' m) :
  Calls Tryz.prog 163 #[v, v'] w fun e w' => e = .returned (.bool (decide (l = m))) ∧ Below w.heap.size w w' := by
 obtain ⟨ao, cp, rfl, hl, hr⟩ := h
 obtain ⟨ao', cp', rfl, hl', hr'⟩ := h'
 have hlA := hl.1
 have hlB := hl'.1
 by_cases hlen : l.length = m.length
 ·by_cases hn : l = []
  ·subst hn
   have hm : m = [] := List.eq_nil_of_length_eq_zero hlen.symm
   subst hm
   exact (Tryz.slices_Equal_string_empty ao ao' cp 0 cp' w (by omega)).mono fun e w' hh => ⟨hh.1, hh.2 ▸ Below.refl _ _⟩
  ·have hm : m ≠ [] := fun e => hn (List.eq_nil_of_length_eq_zero (by rw [hlen, e]; rfl))
   obtain ⟨b, off, rfl, hb, hc⟩ := hr hn
   obtain ⟨b', off', rfl, hb', hc'⟩ := hr' hm
   have lb : ∀ x : List Str, (bas x).length = x.length := fun x => by simp [bas]
   have hcall := Tryz.slices_Equal_string b off l.length cp b' off' m.length cp' (bas l) (bas m) w (by rw [lb]; exact Nat.le_refl _) (by rw [lb]; exact Nat.le_refl _) hlA hlB
    (fun j hj => by rw [lb] at hj; rw [bas_get l j hj]; exact hc j _ (List.getElem?_eq_getElem hj)) (fun j hj => by rw [lb] at hj; rw [bas_get m j hj]; exact hc' j _ (List.getElem?_eq_getElem hj))
   refine hcall.mono fun e w' hh => ⟨?_, ?_⟩
   ·rw [hh.1, List.take_of_length_le (by rw [lb]; exact Nat.le_refl _), List.take_of_length_le (by rw [lb]; exact Nat.le_refl _)]
    exact ret_bool (decide_eq_decide.2 bas_inj)
   ·obtain ⟨q, rfl⟩ := hh.2; exact below_drewN (Below.refl _ _) q
 ·have hne : l ≠ m := fun e => hlen (by rw [e])
  exact (Tryz.slices_Equal_string_lens ao ao' l.length cp m.length cp' w hlen).mono fun e w' hh => ⟨by rw [hh.1]; exact ret_bool (decide_eq_false hne).symm, hh.2 ▸ Below.refl _ _⟩
theorem neqPair : NeqAt Tryz.prog 48 (fun x => .agg (enc2 x).toArray) (fun x y : Str × Str => decide (x = y)) := by
 refine ⟨fun x y w => ?_, GuardAt.agg _ (by kernel_rfl)⟩
 have u3 := Tryz.underlying9
 have a3 := Tryz.isAgg9
 have z3 := Tryz.sizeOf9
 have hS : Tryz.prog.underlying 48 = some (.struct (Tryz.prog.fieldsOf 48)) := by kernel_rfl
 have hp : Tryz.prog.stoodInHeld 48 = false := by kernel_rfl
 simp only [enc2, S]
 rw [run_neq_struct, show (10000 : Nat) = 9999 + 1 from rfl, run_equalIn_agg w 9999 48 _ _ hS hp]
 simp only [Program.fieldsOf, Tryz.underlying48]
 go_simp
 obtain ⟨x1, x2⟩ := x
 obtain ⟨y1, y2⟩ := y
 by_cases h1 : x1 = y1 <;> by_cases h2 : x2 = y2 <;> simp [h1, h2]
theorem allEq_pairs : ∀ l m : List (Str × Str), Lib.allEq (fun x y => decide (x = y)) l m = decide (l = m)
 | [], [] => rfl
 | [], b :: m => rfl
 | a :: l, [] => rfl
 | a :: l, b :: m => by
  have ih := allEq_pairs l m
  simp only [Lib.allEq] at ih ⊢
  rw [ih]
  by_cases h1 : a = b <;> by_cases h2 : l = m <;> simp [h1, h2]
theorem eqP_any (w : World) (v v' : Value) (l m : List (Str × Str)) (h : RdP w v l) (h' : RdP w v' m) :
  Calls Tryz.prog 92 #[v, v'] w fun e w' => e = .returned (.bool (decide (l = m))) ∧ Below w.heap.size w w' := by
 obtain ⟨ao, cp, rfl, hl, hr⟩ := h
 obtain ⟨ao', cp', rfl, hl', hr'⟩ := h'
 have hlA := hl.1
 have hlB := hl'.1
 by_cases hlen : l.length = m.length
 ·by_cases hn : l = []
  ·subst hn
   have hm : m = [] := List.eq_nil_of_length_eq_zero hlen.symm
   subst hm
   simp only [List.length_nil]
   go_enter Tryz.func92, Tryz.ntmps92
   go_wp2
   refine wp_loop_rounds 1 ?_
   rw [rounds_succ]
   go_wp2
   go_ret
   exact ⟨rfl, Below.refl _ _⟩
  ·have hm : m ≠ [] := fun e => hn (List.eq_nil_of_length_eq_zero (by rw [hlen, e]; rfl))
   obtain ⟨b, off, rfl, hb, hc⟩ := hr hn
   obtain ⟨b', off', rfl, hb', hc'⟩ := hr' hm
   have hcall := AnyQ.slices_Equal Tryz.eqPair 2 Tryz.isAgg48 Tryz.sizeOf48 enc2 (fun _ => rfl) _ neqPair b off l.length cp b' off' m.length cp' l m w (Nat.le_refl _) (Nat.le_refl _) hlA hlB
    (fun j hj i v hv => hc j i v hj (by rw [getElem!_pos l j hj] at hv; exact hv)) (fun j hj i v hv => hc' j i v hj (by rw [getElem!_pos m j hj] at hv; exact hv))
   change Calls Tryz.prog 92 _ _ _ at hcall
   rw [List.take_length, List.take_length, allEq_pairs] at hcall
   exact hcall.mono fun e w' hh => ⟨hh.1, by obtain ⟨q, rfl⟩ := hh.2; exact below_drewN (Below.refl _ _) q⟩
 ·have hne : l ≠ m := fun e => hlen (by rw [e])
  have hb : ((l.length : Int) != (m.length : Int)) = true := by rw [bne_iff_ne]; omega
  have HN := hid (decide_eq_false hne : decide (l = m) = false)
  clear hne hlen hr hr'
  go_enter Tryz.func92, Tryz.ntmps92
  go_wp2
  go_ret
  exact ⟨by rw [HN.out]; rfl, Below.refl _ _⟩
def RdT (w : World) (v : Value) (t : Tg) : Prop := ∃ vv kv, v = .agg (tagCells t vv kv) ∧ RdS w vv t.vars ∧ RdP w kv t.keys
theorem RdT.below {w w1 : World} {v : Value} {t : Tg} (h : RdT w v t) (hb : Below w.heap.size w w1) : RdT w1 v t := by
 obtain ⟨vv, kv, hv, h1, h2⟩ := h
 exact ⟨vv, kv, hv, h1.below hb, h2.below hb⟩
theorem RdT.zero (w : World) : RdT w (.agg (tagCells Tg.zero vnil vnil)) Tg.zero := ⟨vnil, vnil, rfl, RdS.nil w, RdP.nil w⟩
theorem below2 (w : World) (A B : Obj) : Below w.heap.size w ((w.alloc A).alloc B) := ((Below.refl _ _).alloc (Nat.le_refl _) _).alloc (by simp) _
set_option maxHeartbeats 4000000 in
theorem same_any (w : World) (v v' : Value) (a b : Tg) (h : RdT w v a) (h' : RdT w v' b) :
  Calls Tryz.prog 117 #[v, v'] w fun e w' => e = .returned (.bool (sameB a b)) ∧ Below w.heap.size w w' := by
 obtain ⟨va, ka, rfl, h1, h2⟩ := h
 obtain ⟨vb, kb, rfl, h3, h4⟩ := h'
 have E1 := hid (fun W (hb : Below w.heap.size w W) => eqS_any W va vb a.vars b.vars (h1.below hb) (h3.below hb))
 have E2 := hid (fun W (hb : Below w.heap.size w W) => eqP_any W ka kb a.keys b.keys (h2.below hb) (h4.below hb))
 obtain ⟨_, _, rfl, _, _⟩ := h1
 obtain ⟨_, _, rfl, _, _⟩ := h2
 obtain ⟨_, _, rfl, _, _⟩ := h3
 obtain ⟨_, _, rfl, _, _⟩ := h4
 unfold sameB
 simp only [tagCells, S]
 generalize decide (a.vars = b.vars) = d1 at *
 generalize decide (a.keys = b.keys) = d2 at *
 go_enter Tryz.func117, Tryz.ntmps117
 go_wp2_with fail
 ·refine (E1.out _ (below2 _ _ _)).mono ?_
  rintro e w2 ⟨rfl, hb⟩
  have d4 := (hb.cell (p := ⟨w.heap.size, 4, none⟩) (by simp; omega)).trans (cell_of_row _ _ _ _ _ _ (heap_alloc2_old _ _ _))
  have d5 := (hb.cell (p := ⟨w.heap.size + 1, 4, none⟩) (by simp)).trans (cell_of_row _ _ _ _ _ _ (heap_alloc2_new _ _ _))
  have d4' : w2.cell? ⟨w.heap.size, 4, none⟩ = some (.slice _ _ _) := d4
  have d5' : w2.cell? ⟨w.heap.size + 1, 4, none⟩ = some (.slice _ _ _) := d5
  have hb2 := hid (Below.then (below2 _ _ _) hb)
  clear d4 d5 hb E1
  cases d1
  ·go_wp2_with fail
   go_ret
   exact ⟨ret_bool (by simp), hb2.out⟩
  ·go_wp2_with fail
   refine (E2.out _ hb2.out).mono ?_
   rintro e w3 ⟨rfl, hb3⟩
   go_wp2_with fail
   go_ret
   exact ⟨ret_bool (by simp [*]), hb2.out.then hb3⟩
 all_goals go_ret
 all_goals exact ⟨ret_bool (by simp [*]), ((Below.refl _ _).alloc (Nat.le_refl _) _).alloc (by simp) _⟩
end Go.Proofs.YtjlfchnnhglbjaaGreat
namespace Go.Proofs.YtjlfchnnhglbjaaGreat
open Go.RowKit Go.Lib Go.Sort
def Moved (w : World) (v v' : Value) : Prop := v'.ownBlock = v.ownBlock ∨ ∃ k, v'.ownBlock = some k ∧ w.heap.size ≤ k
theorem run_app {P : Program} (w : World) (base : Nat) (t ty e : TypeId) (i : TypeInfo) (z : Value) (size bytes : Nat) (ht : P.underlying t = some (.slice e)) (hi : P.info? e = some i) (hz : i.zero = some z)
  (hsize : i.size = size) (hby : i.bytes = bytes) (hzs : z.cells.size = size) (hsz : 0 < size)
  (v : Value) (n : Nat) (xs : List Value) (hown : w.ownsRow base e size v n xs)
  (a : Addr) (m c : Nat) (news : List Value) (hl : news.length = m * size) (hnews : ∀ j u, news[j]? = some u → w.cell? (a.add j) = some u) (h1 : ∀ u ∈ news, u.oneCell' = true)
  (h63 : n + m ≤ maxLen) (hbytes : (n + m) * bytes ≤ 140737488355328) (hbase : base ≤ w.heap.size) :
  ∃ v' w', (Builtin.append_ #[t, t] ty #[v, .slice (some a) m c]).run P w = .ok v' w' ∧ w'.ownsRow base e size v' (n + m) (xs ++ news) ∧ w.grownBy w' v.ownBlock ∧ Moved w v v' := by
 obtain ⟨v', w', hr, h2, h3, h4⟩ := run_append_own (P := P) w base t ty e i z size bytes ht hi hz hsize hby hzs hsz v n xs hown a m c news hl hnews h1 h63 hbytes hbase
 refine ⟨v', w', hr, h2, h3, ?_⟩
 subst hsize
 subst hby
 rcases hown.2 with ⟨rfl, rfl⟩ | ⟨g, cap, cur, rfl, hbg, hg, hnc, hcm, hcs, htake⟩
 ·by_cases hm : m = 0
  ·left; rw [h4.2 ⟨rfl, hm⟩]
  ·have hr2 := run_append_nil (P := P) w t ty e i z ht hi hz a m c news hl hnews (by omega) (by unfold maxLen at h63; omega) (by simp only [Nat.zero_add] at hbytes; omega)
   rw [hr] at hr2
   injection hr2 with e1 e2
   right
   exact ⟨w.heap.size, by rw [e1]; rfl, Nat.le_refl _⟩
 ·by_cases hroom : n + m ≤ cap
  ·have hfit : n * i.size + news.length ≤ cur.size := by rw [hl, hcs, ← Nat.add_mul]; exact Nat.mul_le_mul_right _ hroom
   have hr2 := run_append_room (P := P) w t ty e i ht hi g n cap cur hg a m c news hl hnews h1 hroom hfit
   rw [hr] at hr2
   injection hr2 with e1 e2
   left
   rw [e1]; rfl
  ·have holds : ∀ j u, xs[j]? = some u → w.cell? ((⟨g, 0, none⟩ : Addr).add j) = some u := hown.cells (g := g) rfl
   have hr2 := run_append_grow (P := P) w t ty e i z ht hi hz ⟨g, 0, none⟩ n cap xs hown.1 holds a m c news hl hnews (by omega) (by unfold maxLen at h63; omega) (growslice_fits (by omega) hbytes)
   rw [hr] at hr2
   injection hr2 with e1 e2
   right
   exact ⟨w.heap.size, by rw [e1]; rfl, Nat.le_refl _⟩
theorem wpList_app {P : Program} {w : World} {ops : Array Oper} {rest : List Oper} {o : Oper} {a : Act} {Q : Exit → Act → World → Prop} (hgd : o.guard = none) (s x : Operand) (t : TypeId)
  (ho : o.op = .call { callee := .builtin .append, args := #[s, x], argTypes := #[t, t] })
  (base : Nat) (e : TypeId) (i : TypeInfo) (z : Value) (size bytes : Nat) (ht : P.underlying t = some (.slice e)) (hi : P.info? e = some i) (hz : i.zero = some z)
  (hsize : i.size = size) (hby : i.bytes = bytes) (hzs : z.cells.size = size) (hsz : 0 < size)
  (v : Value) (n : Nat) (xs : List Value) (hs : a.eval s = v) (hown : w.ownsRow base e size v n xs)
  (ad : Addr) (m c : Nat) (news : List Value) (hx : a.eval x = .slice (some ad) m c) (hl : news.length = m * size) (hnews : ∀ j u, news[j]? = some u → w.cell? (ad.add j) = some u) (h1 : ∀ u ∈ news, u.oneCell' = true)
  (h63 : n + m ≤ maxLen) (hbytes : (n + m) * bytes ≤ 140737488355328) (hbase : base ≤ w.heap.size)
  (h : ∀ v' w', w'.ownsRow base e size v' (n + m) (xs ++ news) → w.grownBy w' v.ownBlock → Moved w v v' → wpList P ops Q rest (a.put o.dst v') w') : wpList P ops Q (o :: rest) a w := by
 refine wpList_plain hgd fun _ hK => ?_
 obtain ⟨v', w', hr, h2, h3, h4⟩ := run_app (P := P) w base t o.type e i z size bytes ht hi hz hsize hby hzs hsz v n xs hown ad m c news hl hnews h1 h63 hbytes hbase
 unfold Oper.wp execOp
 simp only [ho, resolve, invoke, builtin, Sem.run_bind, Sem.run_pure, Result.andThen_ok, List.map_toArray, List.map_cons, List.map_nil, hs, hx, hr]
 exact hK _ _ (h v' w' h2 h3 h4)
theorem wpList_pushS {w : World} {ops : Array Oper} {rest : List Oper} {o : Oper} {a : Act} {Q : Exit → Act → World → Prop} (hgd : o.guard = none) (s x : Operand)
  (ho : o.op = .call { callee := .builtin .append, args := #[s, x], argTypes := #[41, 41] })
  (B : Nat) (v : Value) (l : List Str) (y : Str) (hs : a.eval s = v) (hown : OwnS w B v l) (hx : a.eval x = .slice (some ⟨w.heap.size, 0, none⟩) 1 1) (hl : l.length ≤ 1000000) (hB : B ≤ w.heap.size)
  (h : ∀ v' w', OwnS w' B v' (l ++ [y]) → w.grownBy w' v.ownBlock → Moved w v v' → wpList Tryz.prog ops Q rest (a.put o.dst v') w') :
  wpList Tryz.prog ops Q (o :: rest) a (w.alloc (.cells #[.string ⟨y.toArray⟩] 9)) := by
 obtain ⟨i0, hi, hz0, hz1, hz2⟩ := info_parts infoS
 refine wpList_app hgd s x 41 ho B 9 i0 (.string ⟨#[]⟩) 1 16 Tryz.underlying41 hi hz0 hz1 hz2 rfl (by decide) v l.length (l.map S) hs (World.ownsRow.alloc hown _) ⟨w.heap.size, 0, none⟩ 1 1 [.string ⟨y.toArray⟩] hx rfl (cell_one_new _ _ _) (fun u hu => by simp at hu; subst hu; rfl) (by unfold maxLen; omega) (by omega) (by simp; omega) ?_
 intro v' w' own gr mv
 refine h v' w' (own_cast own (by simp) (by simp [S])) ⟨gr.os, gr.tape, gr.output, Nat.le_trans (by simp) gr.size, fun k hk hne => ?_⟩ ?_
 ·rw [gr.block k (by simp; omega) hne]; exact heap_alloc_old _ _ hk
 ·rcases mv with m | ⟨k, h1, h2⟩
  ·exact Or.inl m
  ·exact Or.inr ⟨k, h1, by simp at h2; omega⟩
end Go.Proofs.YtjlfchnnhglbjaaGreat
namespace Go.Proofs.YtjlfchnnhglbjaaGreat
open Go.RowKit Go.Lib Go.Sort
theorem fresh_own (w : World) (l : List Str) (B : Nat) (hB : B ≤ w.heap.size) (hl : l.length ≤ 1000) : OwnS (w.alloc (.cells (l.map S).toArray 9)) B (.slice (some ⟨w.heap.size, 0, none⟩) l.length l.length) l :=
 ⟨by simp, Or.inr ⟨w.heap.size, l.length, _, rfl, hB, heap_alloc_new w _, Nat.le_refl _, by unfold maxLen; omega, by simp, List.take_of_length_le (by simp)⟩⟩
theorem wpList_appRd {w : World} {ops : Array Oper} {rest : List Oper} {o : Oper} {a : Act} {Q : Exit → Act → World → Prop} (hgd : o.guard = none) (s x : Operand)
  (ho : o.op = .call { callee := .builtin .append, args := #[s, x], argTypes := #[41, 41] })
  (B : Nat) (v vx : Value) (l m : List Str) (hs : a.eval s = v) (hown : OwnS w B v l) (hx : a.eval x = vx) (hr : RdS w vx m) (hl : l.length + m.length ≤ 1000000) (hB : B ≤ w.heap.size)
  (h : ∀ v' w', OwnS w' B v' (l ++ m) → w.grownBy w' v.ownBlock → Moved w v v' → wpList Tryz.prog ops Q rest (a.put o.dst v') w') :
  wpList Tryz.prog ops Q (o :: rest) a w := by
 obtain ⟨i0, hi, hz0, hz1, hz2⟩ := info_parts infoS
 obtain ⟨ao, cp, rfl, hl1, hr1⟩ := hr
 cases ao with
 | none =>
  obtain ⟨rfl, rfl⟩ := hl1.2 rfl
  exact wpList_append_own_none hgd s x 41 ho B 9 i0 1 Tryz.underlying41 hi v l.length (l.map S) hs hown hx (h v w (by rw [List.append_nil]; exact hown) (World.grownBy.refl _ _) (Or.inl rfl))
 | some ad =>
  refine wpList_app hgd s x 41 ho B 9 i0 (.string ⟨#[]⟩) 1 16 Tryz.underlying41 hi hz0 hz1 hz2 rfl (by decide) v l.length (l.map S) hs hown ad m.length cp (m.map S) hx (by simp) ?_ ?_ (by unfold maxLen; omega) (by omega) hB ?_
  ·intro j u hu
   rw [List.getElem?_map] at hu
   obtain ⟨x, hx1, rfl⟩ := Option.map_eq_some_iff.1 hu
   have hne : m ≠ [] := by rintro rfl; simp at hx1
   obtain ⟨b, off, he, hlt, hc⟩ := hr1 hne
   obtain rfl : ad = ⟨b, off, none⟩ := Option.some.inj he
   have := hc j x hx1
   unfold Addr.add
   split
   ·next e => subst e; exact this
   ·exact this
  ·intro u hu
   obtain ⟨x, _, rfl⟩ := List.mem_map.1 hu
   rfl
  ·intro v' w' own gr mv
   exact h v' w' (own_cast own (by simp) (by simp)) gr mv
theorem wpList_pushK {w : World} {ops : Array Oper} {rest : List Oper} {o : Oper} {a : Act} {Q : Exit → Act → World → Prop} (hgd : o.guard = none) (s x : Operand)
  (ho : o.op = .call { callee := .builtin .append, args := #[s, x], argTypes := #[41, 41] })
  (B : Nat) (v : Value) (l : List Str) (y : Str) (k : Nat) (hk : w.heap.size = k) (hs : a.eval s = v) (hown : OwnS w B v l) (hx : a.eval x = .slice (some ⟨k, 0, none⟩) 1 1) (hl : l.length ≤ 1000000) (hB : B ≤ w.heap.size)
  (h : ∀ v' w', OwnS w' B v' (l ++ [y]) → w.grownBy w' v.ownBlock → Moved w v v' → wpList Tryz.prog ops Q rest (a.put o.dst v') w') :
  wpList Tryz.prog ops Q (o :: rest) a (w.alloc (.cells #[.string ⟨y.toArray⟩] 9)) := by
 subst hk
 exact wpList_pushS hgd s x ho B v l y hs hown hx hl hB h
structure Wr (w0 : World) (H : Nat) (w : World) (v3 : Value) (g c : Nat) (box : Array Value) (l r : List Str) : Prop where
 box : w.heap[H]? = some (.cells box 108 (0, 0))
 os : OwnS w (H + 1) v3 l
 or : OwnS w (H + 1) (.slice (some ⟨g, 0, none⟩) r.length c) r
 ne : v3.ownBlock ≠ some g
 bel : Below H w0 w
theorem Wr.push {w0 w w1 : World} {H : Nat} {v3 v' : Value} {g c : Nat} {box : Array Value} {l r l' : List Str} (h : Wr w0 H w v3 g c box l r) (hs : H + 1 ≤ w.heap.size) (o : OwnS w1 (H + 1) v' l') (gw : w.grownBy w1 v3.ownBlock) (m : Moved w v3 v') : Wr w0 H w1 v' g c box l' r := by
 have hlt := fun k hk => World.ownsRow.lt h.os k hk
 have hlr := (World.ownsRow.lt h.or g rfl).2
 refine ⟨?_, o, ?_, ?_, ?_⟩
 ·rw [gw.block H (by omega) (fun e => by have := hlt H e.symm; omega)]; exact h.box
 ·exact World.ownsRow.kept h.or gw (Or.inr fun e => h.ne e.symm)
 ·intro hk
  rcases m with m | ⟨q, h1, h2⟩
  ·exact h.ne (m ▸ hk)
  ·rw [hk] at h1
   injection h1 with h1
   omega
 ·exact h.bel.grown gw (by omega) (fun k hk => by have := (hlt k hk).1; omega)
theorem Wr.below {w0 w w1 : World} {H : Nat} {v3 : Value} {g c : Nat} {box : Array Value} {l r : List Str} (h : Wr w0 H w v3 g c box l r) (hs : H + 1 ≤ w.heap.size) (hb : Below w.heap.size w w1) : Wr w0 H w1 v3 g c box l r := by
 have hlr := (World.ownsRow.lt h.or g rfl).2
 refine ⟨?_, own_below h.os hb, own_below h.or hb, h.ne, ?_⟩
 ·rw [hb.block H (by omega)]; exact h.box
 ·exact h.bel.trans ⟨hb.os, hb.tape, hb.output, hb.size, fun k hk => hb.block k (by omega)⟩
theorem Wr.first (w w4 : World) (box : Array Value) (hd : Str) (sc rg : Value) (r : List Str) (g c : Nat) (own4 : OwnS w4 (w.heap.size + 1) (.slice (some ⟨g, 0, none⟩) r.length c) r)
  (gr4 : (((w.alloc (.cells box 108)).alloc (.cells #[.string ⟨hd.toArray⟩] 9)).alloc (.cells #[sc, rg] 9)).grownBy w4 (some (w.heap.size + 1 + 1)))
  (mv4 : Moved (((w.alloc (.cells box 108)).alloc (.cells #[.string ⟨hd.toArray⟩] 9)).alloc (.cells #[sc, rg] 9)) (.slice (some ⟨w.heap.size + 1 + 1, 0, none⟩) 2 2) (.slice (some ⟨g, 0, none⟩) r.length c)) :
  Wr w w.heap.size w4 (.slice (some ⟨w.heap.size + 1, 0, none⟩) 1 1) g c box [hd] r := by
 have o1 : OwnS ((w.alloc (.cells box 108)).alloc (.cells #[.string ⟨hd.toArray⟩] 9)) (w.heap.size + 1) (.slice (some ⟨w.heap.size + 1, 0, none⟩) 1 1) [hd] := by
  simpa [S] using fresh_own (w.alloc (.cells box 108)) [hd] (w.heap.size + 1) (by simp) (by simp)
 refine ⟨?_, ?_, own4, ?_, ?_⟩
 ·rw [gr4.block w.heap.size (by simp; omega) (by simp; omega)]
  rw [heap_alloc_old _ _ (by simp; omega), heap_alloc_old _ _ (by simp)]
  exact heap_alloc_new w _
 ·exact World.ownsRow.kept (World.ownsRow.alloc o1 _) gr4 (Or.inr (by simp [Value.ownBlock]))
 ·intro e
  simp [Value.ownBlock] at e
  subst e
  rcases mv4 with m | ⟨q, h1, h2⟩
  ·simp [Value.ownBlock] at m
  ·simp [Value.ownBlock] at h1 h2; omega
 ·exact ((((Below.refl _ _).alloc (Nat.le_refl _) _).alloc (by simp) _).alloc (by simp; omega) _).grown gr4 (by simp; omega) (fun k hk => by simp at hk; omega)
theorem take_full (r : List Str) (n : Nat) (h : n < r.length) : (r.take (n + 1)).filter full = (r.take n).filter full ++ (if r[n] = [] then [] else [r[n]]) := by
 rw [List.take_add_one, List.filter_append, List.getElem?_eq_getElem h]
 congr 1
 simp only [Option.toList, List.filter_cons, List.filter_nil]
 by_cases hy : r[n] = []
 ·simp [hy, full]
 ·have : r[n].isEmpty = false := by cases hh : r[n] with | nil => exact absurd hh hy | cons => rfl
  simp [hy, full, this]
theorem take_pairs (k : List (Str × Str)) (n : Nat) (h : n < k.length) : (k.take (n + 1)).flatMap pairParts = (k.take n).flatMap pairParts ++ pairParts k[n] := by
 rw [List.take_add_one, List.flatMap_append, List.getElem?_eq_getElem h]
 simp
theorem len_full (r : List Str) (n : Nat) : ((r.take n).filter full).length ≤ n :=
 Nat.le_trans (List.length_filter_le _ _) (by simp; omega)
theorem len_pairs (k : List (Str × Str)) : (k.flatMap pairParts).length ≤ 2 * k.length := by
 induction k with
 | nil => simp
 | cons a k ih =>
  simp only [List.flatMap_cons, List.length_append, List.length_cons]
  have : (pairParts a).length ≤ 2 := by unfold pairParts; split <;> simp
  omega
set_option maxRecDepth 100000 in
set_option maxHeartbeats 8000000 in
theorem write_any (w : World) (v : Value) (t : Tg) (h : RdT w v t) (hv : t.vars.length ≤ 1000) (hk : t.keys.length ≤ 1000) (hj : (writeF t).length ≤ 140737488355328) :
  Calls Tryz.prog 73 #[v] w fun e w' => e = .returned (S (writeF t)) ∧ Below w.heap.size w w' := by
 obtain ⟨vv, kv, rfl, hS, hP⟩ := h
 have HSS := hid hS
 obtain ⟨av, cv, rfl, hl1, hr1⟩ := hS
 obtain ⟨ak, ck, rfl, hl2, hr2⟩ := hP
 have HP := hid hr2
 have HL1 := hid hl1
 have HL2 := hid hl2
 have HJ := hid hj
 clear hr1 hr2 hl1 hl2 hj
 obtain ⟨hd, hhd⟩ : ∃ x, x = headPart t.lang := ⟨_, rfl⟩
 have HH := hid hhd
 simp only [tagCells, S]
 by_cases hlang : t.lang = []
 ·have hlb : t.lang.isEmpty = true := by rw [hlang]; rfl
  have hhd2 : hd = [117, 110, 100] := by rw [hhd]; unfold headPart; rw [if_pos hlang]; rfl
  have HLG := hid hlang
  clear hhd hlang
  go_enter Tryz.func73, Tryz.ntmps73
  have o20 : ∀ (W : World) (k : Nat), W.heap.size = k → w.heap.size + 1 ≤ k → OwnS (W.alloc (.cells #[.string ⟨t.script.toArray⟩, .string ⟨t.region.toArray⟩] 9)) (w.heap.size + 1) (.slice (some ⟨k, 0, none⟩) 2 2) [t.script, t.region] := fun W k hk hW => by
   subst hk
   simpa [S] using fresh_own W [t.script, t.region] (w.heap.size + 1) hW (by simp)
  go_wp2_with (at_builtin; refine wpList_appRd rfl (.tmp 20) (.tmp 22) rfl (w.heap.size + 1) _ _ [t.script, t.region] t.vars rfl ?xown rfl ?xrd ?xhl ?xhB ?_)
  case xown => exact o20 ((w.alloc _).alloc _) (w.heap.size + 1 + 1) (by simp) (by omega)
  case xrd => exact HSS.out.below (((Below.refl _ _).alloc (Nat.le_refl _) _).alloc (by simp) _ |>.alloc (by simp; omega) _)
  case xhl => simp; omega
  case xhB => simp
  intro vr w4 own4 gr4 mv4
  obtain ⟨g, c, hvr⟩ : ∃ g c, vr = .slice (some ⟨g, 0, none⟩) ((t.script :: t.region :: t.vars).length) c := by
   rcases own4.shape with ⟨_, e⟩ | ⟨g, cap, cur, e, _⟩
   ·simp at e
   ·exact ⟨g, cap, e⟩
  obtain ⟨r, hr⟩ : ∃ x, x = t.script :: t.region :: t.vars := ⟨_, rfl⟩
  rw [← hr] at own4 hvr
  have hrl : r.length ≤ 1002 := by rw [hr]; simp; omega
  have hr0 : 2 ≤ r.length := by rw [hr]; simp
  subst hvr
  have HR := hid hr
  have wq := Wr.first w w4 _ _ _ _ r g c own4 gr4 mv4
  clear own4 gr4 mv4 o20 hr
  go_wp2_with fail
  go_loopg [3, 5, 25] r.length (fun k v3 _ vn W => ∃ n : Nat, n ≤ r.length ∧ r.length ≤ n + k ∧ vn = .int .i64 n ∧ Wr w w.heap.size W v3 g c #[.string ⟨t.lang.toArray⟩, .string ⟨t.script.toArray⟩, .string ⟨t.region.toArray⟩, .slice av t.vars.length cv, .slice ak t.keys.length ck] (hd :: (r.take n).filter full) r)
  case atStart => exact ⟨0, Nat.zero_le _, by omega, rfl, by rw [hhd2]; exact wq⟩
  case round =>
   obtain ⟨n, hn, hg, rfl, st⟩ := hrel
   clear wq hhd2
   have HG := hid hg
   have hsz : w.heap.size + 1 ≤ wr.heap.size := by have := (World.ownsRow.lt st.or g rfl); omega
   clear hg
   by_cases hlt : n < r.length
   ·obtain ⟨y, hy⟩ : ∃ y, y = r[n] := ⟨_, rfl⟩
    have cy : wr.cell? ⟨g, n, none⟩ = some (.string ⟨y.toArray⟩) := by
     rw [World.ownsRow.cellAt st.or n (by omega), hy]
     simp [S, hlt]
    have step := take_full r n hlt
    rw [← hy] at step
    have HST := hid step
    clear step hy
    by_cases hy0 : y = []
    ·have hb : (y != []) = false := by rw [hy0]; rfl
     have hb2 : y.isEmpty = true := by rw [hy0]; rfl
     have HY := hid hy0
     clear hy0
     go_wp2_with fail
     go_roundg (gk - 1)
     case measure => have := HG.out; omega
     case rel => exact ⟨n + 1, by omega, by have := HG.out; omega, by simp, by rw [HST.out, if_pos HY.out, List.append_nil]; exact st⟩
    ·have hb : (y != []) = true := by rw [bne_iff_ne]; exact hy0
     have hb2 : y.isEmpty = false := by cases hh : y with | nil => exact absurd hh hy0 | cons => rfl
     have HY := hid hy0
     clear hy0
     go_wp2_with (at_builtin; refine wpList_pushS rfl (.tmp 31) (.tmp 33) rfl (w.heap.size + 1) u3 _ y rfl st.os rfl ?xc1 ?xc2 ?_)
     case xc1 => have := len_full r n; simp; omega
     case xc2 => exact hsz
     intro v5 w5 own5 gr5 mv5
     have st5 := st.push hsz own5 gr5 mv5
     clear own5 gr5 mv5 cy
     go_wp2_with fail
     go_roundg (gk - 1)
     case measure => have := HG.out; omega
     case rel => exact ⟨n + 1, by omega, by have := HG.out; omega, by simp, by rw [HST.out, if_neg HY.out]; exact st5⟩
   ·obtain rfl : n = r.length := by omega
    rw [List.take_length] at st
    have c4 : wr.cell? ⟨w.heap.size, 4, none⟩ = some (.slice ak t.keys.length ck) := cell_of_row _ _ _ _ _ _ st.box
    have hlf := len_full r r.length
    rw [List.take_length] at hlf
    by_cases hk0 : t.keys = []
    ·have hkl : t.keys.length = 0 := by rw [hk0]; rfl
     rw [hkl] at c4
     have HK := hid hk0
     have hw : hd :: r.filter full = parts t := by unfold parts partsA; rw [hk0, ← HH.out, HR.out]; simp [uPart]
     have hjo := join_own wr _ u3 _ st.os (by simp; omega) (by rw [hw]; exact HJ.out)
     rw [hw] at hjo
     change Calls _ _ _ _ fun e w' => e = .returned (.string ⟨(writeF t).toArray⟩) ∧ _ at hjo
     have HJJ := hid hjo
     have bel := hid st.bel
     clear hk0 hw st hjo
     go_wp2_with fail
     refine wp_loop_rounds 1 ?_
     rw [rounds_succ]
     go_wp2_with fail
     refine HJJ.out.mono ?_
     rintro e w6 ⟨rfl, hb6⟩
     go_wp2_with fail
     go_ret
     exact ⟨rfl, bel.out.then hb6⟩
    ·obtain ⟨b, off, rfl, hbl, hc⟩ := HP.out hk0
     have hkp : 0 < t.keys.length := List.length_pos_iff.2 hk0
     have hkl : (t.keys.length == 0) = false := by rw [beq_eq_false_iff_ne]; omega
     have HK := hid hk0
     have HC := hid hc
     have HKP := hid hkp
     clear hc hk0
     go_wp2_with (at_builtin; refine wpList_pushS rfl (.tmp 40) (.tmp 41) rfl (w.heap.size + 1) u3 _ [117] rfl st.os rfl ?xd1 ?xd2 ?_)
     case xd1 => simp; omega
     case xd2 => exact hsz
     intro v5 w5 own5 gr5 mv5
     have st5 := st.push hsz own5 gr5 mv5
     have hz5 : w.heap.size + 1 ≤ w5.heap.size := by have := (World.ownsRow.lt st5.or g rfl); omega
     clear own5 gr5 mv5 c4 st
     have c4 : w5.cell? ⟨w.heap.size, 4, none⟩ = some (.slice (some ⟨b, off, none⟩) t.keys.length ck) := cell_of_row _ _ _ _ _ _ st5.box
     go_wp2_with fail
     go_loopg [3, 7, 46] t.keys.length (fun k v3 _ vn W => ∃ n : Nat, n ≤ t.keys.length ∧ t.keys.length ≤ n + k ∧ vn = .int .i64 n ∧ Wr w w.heap.size W v3 g c #[.string ⟨t.lang.toArray⟩, .string ⟨t.script.toArray⟩, .string ⟨t.region.toArray⟩, .slice av t.vars.length cv, .slice (some ⟨b, off, none⟩) t.keys.length ck] ((hd :: r.filter full) ++ [[117]] ++ (t.keys.take n).flatMap pairParts) r)
     case atStart => exact ⟨0, Nat.zero_le _, by omega, rfl, by simpa using st5⟩
     case round =>
      clear st5 hsz hlt hn HG
      obtain ⟨n, hn, hg, rfl, st⟩ := hrel
      have HG := hid hg
      have hsz : w.heap.size + 1 ≤ wr.heap.size := by have := (World.ownsRow.lt st.or g rfl); omega
      clear hg
      by_cases hlt : n < t.keys.length
      ·obtain ⟨ky, vy, hp⟩ : ∃ a b, t.keys[n] = (a, b) := ⟨_, _, rfl⟩
       have c0 : wr.cell? ⟨b, off + n * 2, none⟩ = some (.string ⟨ky.toArray⟩) := (st.bel.cell (p := ⟨b, off + n * 2, none⟩) hbl).trans (HC.out n 0 _ hlt (by rw [hp]; rfl))
       have c1 : wr.cell? ⟨b, off + n * 2 + 1, none⟩ = some (.string ⟨vy.toArray⟩) := (st.bel.cell (p := ⟨b, off + n * 2 + 1, none⟩) hbl).trans (HC.out n 1 _ hlt (by rw [hp]; rfl))
       have step := take_pairs t.keys n hlt
       rw [hp] at step
       have HST := hid step
       have hlp := len_pairs (t.keys.take n)
       rw [List.length_take] at hlp
       have hl5 : ((hd :: r.filter full) ++ [[117]] ++ (t.keys.take n).flatMap pairParts).length ≤ 10000 := by simp only [List.length_append, List.length_cons, List.length_nil]; omega
       have HL5 := hid hl5
       clear step hp hl5 hlp
       have st1 := st.below hsz ((Below.refl _ _).alloc (Nat.le_refl _) (.cells #[.string ⟨ky.toArray⟩, .string ⟨vy.toArray⟩] 48))
       have hbox : (wr.alloc (.cells #[.string ⟨ky.toArray⟩, .string ⟨vy.toArray⟩] 48)).heap[wr.heap.size]? = some (.cells #[.string ⟨ky.toArray⟩, .string ⟨vy.toArray⟩] 48 (0, 0)) := heap_alloc_new wr _
       have how := World.ownsRow.lt st.os
       clear st
       go_wp2_with (at_builtin; refine wpList_pushK rfl (.tmp 50) (.tmp 53) rfl (w.heap.size + 1) _ _ ky (wr.heap.size + 1) (by simp) rfl st1.os rfl ?xe1 ?xe2 ?_)
       case xe1 => have := HL5.out; omega
       case xe2 => simp; omega
       intro v6 w6 own6 gr6 mv6
       have st6 := st1.push (by simp; omega) own6 gr6 mv6
       have hbox6 : w6.heap[wr.heap.size]? = some (.cells #[.string ⟨ky.toArray⟩, .string ⟨vy.toArray⟩] 48 (0, 0)) := by
        rw [gr6.block wr.heap.size (by simp) (fun e => by have := (how _ e.symm).2; omega)]; exact hbox
       have hz6 : w.heap.size + 1 ≤ w6.heap.size := by have := (World.ownsRow.lt st6.or g rfl); omega
       have hzb : wr.heap.size < w6.heap.size := lt_of_block hbox6
       have cb1 : w6.cell? ⟨wr.heap.size, 1, none⟩ = some (.string ⟨vy.toArray⟩) := cell_of_row _ _ _ _ _ _ hbox6
       clear own6 gr6 mv6 st1 hbox how c0 c1 hbox6
       by_cases hv0 : vy = []
       ·have hb : (vy != []) = false := by rw [hv0]; rfl
        have hb2 : vy.isEmpty = true := by rw [hv0]; rfl
        have HV := hid hv0
        clear hv0
        go_wp2_with fail
        go_roundg (gk - 1)
        case measure => have := HG.out; omega
        case rel => exact ⟨n + 1, by omega, by have := HG.out; omega, by simp, by rw [HST.out, show pairParts (ky, vy) = [ky] from if_pos HV.out]; simpa using st6⟩
       ·have hb : (vy != []) = true := by rw [bne_iff_ne]; exact hv0
        have hb2 : vy.isEmpty = false := by cases hh : vy with | nil => exact absurd hh hv0 | cons => rfl
        have HV := hid hv0
        clear hv0
        go_wp2_with (at_builtin; refine wpList_pushS rfl (.tmp 58) (.tmp 61) rfl (w.heap.size + 1) _ _ vy rfl st6.os rfl ?xf1 ?xf2 ?_)
        case xf1 => have := HL5.out; simp at this ⊢; omega
        case xf2 => exact hz6
        intro v7 w7 own7 gr7 mv7
        have st7 := st6.push hz6 own7 gr7 mv7
        clear own7 gr7 mv7 st6 cb1
        go_wp2_with fail
        go_roundg (gk - 1)
        case measure => have := HG.out; omega
        case rel => exact ⟨n + 1, by omega, by have := HG.out; omega, by simp, by rw [HST.out, show pairParts (ky, vy) = [ky, vy] from if_neg HV.out]; simpa using st7⟩
      ·obtain rfl : n = t.keys.length := by omega
       rw [List.take_length] at st
       have hlp := len_pairs t.keys
       have hw : (hd :: r.filter full) ++ [[117]] ++ t.keys.flatMap pairParts = parts t := by unfold parts partsA; rw [← HH.out, HR.out]; simp [uPart, HK.out]
       have hjo := join_own wr _ _ _ st.os (by simp only [List.length_append, List.length_cons, List.length_nil]; omega) (by rw [hw]; exact HJ.out)
       rw [hw] at hjo
       change Calls _ _ _ _ fun e w' => e = .returned (.string ⟨(writeF t).toArray⟩) ∧ _ at hjo
       have HJJ := hid hjo
       have bel := hid st.bel
       clear hw st hjo hlp
       go_wp2_with fail
       refine HJJ.out.mono ?_
       rintro e w6 ⟨rfl, hb6⟩
       go_wp2_with fail
       go_ret
       exact ⟨rfl, bel.out.then hb6⟩
 ·have hlb : t.lang.isEmpty = false := by cases hh : t.lang with | nil => exact absurd hh hlang | cons => rfl
  have hhd2 : hd = t.lang := by rw [hhd]; unfold headPart; rw [if_neg hlang]
  have HLG := hid hlang
  clear hhd hlang
  go_enter Tryz.func73, Tryz.ntmps73
  have o20 : ∀ (W : World) (k : Nat), W.heap.size = k → w.heap.size + 1 ≤ k → OwnS (W.alloc (.cells #[.string ⟨t.script.toArray⟩, .string ⟨t.region.toArray⟩] 9)) (w.heap.size + 1) (.slice (some ⟨k, 0, none⟩) 2 2) [t.script, t.region] := fun W k hk hW => by
   subst hk
   simpa [S] using fresh_own W [t.script, t.region] (w.heap.size + 1) hW (by simp)
  go_wp2_with (at_builtin; refine wpList_appRd rfl (.tmp 20) (.tmp 22) rfl (w.heap.size + 1) _ _ [t.script, t.region] t.vars rfl ?yown rfl ?yrd ?yhl ?yhB ?_)
  case yown => exact o20 ((w.alloc _).alloc _) (w.heap.size + 1 + 1) (by simp) (by omega)
  case yrd => exact HSS.out.below (((Below.refl _ _).alloc (Nat.le_refl _) _).alloc (by simp) _ |>.alloc (by simp; omega) _)
  case yhl => simp; omega
  case yhB => simp
  intro vr w4 own4 gr4 mv4
  obtain ⟨g, c, hvr⟩ : ∃ g c, vr = .slice (some ⟨g, 0, none⟩) ((t.script :: t.region :: t.vars).length) c := by
   rcases own4.shape with ⟨_, e⟩ | ⟨g, cap, cur, e, _⟩
   ·simp at e
   ·exact ⟨g, cap, e⟩
  obtain ⟨r, hr⟩ : ∃ x, x = t.script :: t.region :: t.vars := ⟨_, rfl⟩
  rw [← hr] at own4 hvr
  have hrl : r.length ≤ 1002 := by rw [hr]; simp; omega
  have hr0 : 2 ≤ r.length := by rw [hr]; simp
  subst hvr
  have HR := hid hr
  have wq := Wr.first w w4 _ _ _ _ r g c own4 gr4 mv4
  clear own4 gr4 mv4 o20 hr
  go_wp2_with fail
  go_loopg [3, 5, 25] r.length (fun k v3 _ vn W => ∃ n : Nat, n ≤ r.length ∧ r.length ≤ n + k ∧ vn = .int .i64 n ∧ Wr w w.heap.size W v3 g c #[.string ⟨t.lang.toArray⟩, .string ⟨t.script.toArray⟩, .string ⟨t.region.toArray⟩, .slice av t.vars.length cv, .slice ak t.keys.length ck] (hd :: (r.take n).filter full) r)
  case atStart => exact ⟨0, Nat.zero_le _, by omega, rfl, by rw [hhd2]; exact wq⟩
  case round =>
   obtain ⟨n, hn, hg, rfl, st⟩ := hrel
   clear wq hhd2
   have HG := hid hg
   have hsz : w.heap.size + 1 ≤ wr.heap.size := by have := (World.ownsRow.lt st.or g rfl); omega
   clear hg
   by_cases hlt : n < r.length
   ·obtain ⟨y, hy⟩ : ∃ y, y = r[n] := ⟨_, rfl⟩
    have cy : wr.cell? ⟨g, n, none⟩ = some (.string ⟨y.toArray⟩) := by
     rw [World.ownsRow.cellAt st.or n (by omega), hy]
     simp [S, hlt]
    have step := take_full r n hlt
    rw [← hy] at step
    have HST := hid step
    clear step hy
    by_cases hy0 : y = []
    ·have hb : (y != []) = false := by rw [hy0]; rfl
     have hb2 : y.isEmpty = true := by rw [hy0]; rfl
     have HY := hid hy0
     clear hy0
     go_wp2_with fail
     go_roundg (gk - 1)
     case measure => have := HG.out; omega
     case rel => exact ⟨n + 1, by omega, by have := HG.out; omega, by simp, by rw [HST.out, if_pos HY.out, List.append_nil]; exact st⟩
    ·have hb : (y != []) = true := by rw [bne_iff_ne]; exact hy0
     have hb2 : y.isEmpty = false := by cases hh : y with | nil => exact absurd hh hy0 | cons => rfl
     have HY := hid hy0
     clear hy0
     go_wp2_with (at_builtin; refine wpList_pushS rfl (.tmp 31) (.tmp 33) rfl (w.heap.size + 1) u3 _ y rfl st.os rfl ?yc1 ?yc2 ?_)
     case yc1 => have := len_full r n; simp; omega
     case yc2 => exact hsz
     intro v5 w5 own5 gr5 mv5
     have st5 := st.push hsz own5 gr5 mv5
     clear own5 gr5 mv5 cy
     go_wp2_with fail
     go_roundg (gk - 1)
     case measure => have := HG.out; omega
     case rel => exact ⟨n + 1, by omega, by have := HG.out; omega, by simp, by rw [HST.out, if_neg HY.out]; exact st5⟩
   ·obtain rfl : n = r.length := by omega
    rw [List.take_length] at st
    have c4 : wr.cell? ⟨w.heap.size, 4, none⟩ = some (.slice ak t.keys.length ck) := cell_of_row _ _ _ _ _ _ st.box
    have hlf := len_full r r.length
    rw [List.take_length] at hlf
    by_cases hk0 : t.keys = []
    ·have hkl : t.keys.length = 0 := by rw [hk0]; rfl
     rw [hkl] at c4
     have HK := hid hk0
     have hw : hd :: r.filter full = parts t := by unfold parts partsA; rw [hk0, ← HH.out, HR.out]; simp [uPart]
     have hjo := join_own wr _ u3 _ st.os (by simp; omega) (by rw [hw]; exact HJ.out)
     rw [hw] at hjo
     change Calls _ _ _ _ fun e w' => e = .returned (.string ⟨(writeF t).toArray⟩) ∧ _ at hjo
     have HJJ := hid hjo
     have bel := hid st.bel
     clear hk0 hw st hjo
     go_wp2_with fail
     refine wp_loop_rounds 1 ?_
     rw [rounds_succ]
     go_wp2_with fail
     refine HJJ.out.mono ?_
     rintro e w6 ⟨rfl, hb6⟩
     go_wp2_with fail
     go_ret
     exact ⟨rfl, bel.out.then hb6⟩
    ·obtain ⟨b, off, rfl, hbl, hc⟩ := HP.out hk0
     have hkp : 0 < t.keys.length := List.length_pos_iff.2 hk0
     have hkl : (t.keys.length == 0) = false := by rw [beq_eq_false_iff_ne]; omega
     have HK := hid hk0
     have HC := hid hc
     have HKP := hid hkp
     clear hc hk0
     go_wp2_with (at_builtin; refine wpList_pushS rfl (.tmp 40) (.tmp 41) rfl (w.heap.size + 1) u3 _ [117] rfl st.os rfl ?yd1 ?yd2 ?_)
     case yd1 => simp; omega
     case yd2 => exact hsz
     intro v5 w5 own5 gr5 mv5
     have st5 := st.push hsz own5 gr5 mv5
     have hz5 : w.heap.size + 1 ≤ w5.heap.size := by have := (World.ownsRow.lt st5.or g rfl); omega
     clear own5 gr5 mv5 c4 st
     have c4 : w5.cell? ⟨w.heap.size, 4, none⟩ = some (.slice (some ⟨b, off, none⟩) t.keys.length ck) := cell_of_row _ _ _ _ _ _ st5.box
     go_wp2_with fail
     go_loopg [3, 7, 46] t.keys.length (fun k v3 _ vn W => ∃ n : Nat, n ≤ t.keys.length ∧ t.keys.length ≤ n + k ∧ vn = .int .i64 n ∧ Wr w w.heap.size W v3 g c #[.string ⟨t.lang.toArray⟩, .string ⟨t.script.toArray⟩, .string ⟨t.region.toArray⟩, .slice av t.vars.length cv, .slice (some ⟨b, off, none⟩) t.keys.length ck] ((hd :: r.filter full) ++ [[117]] ++ (t.keys.take n).flatMap pairParts) r)
     case atStart => exact ⟨0, Nat.zero_le _, by omega, rfl, by simpa using st5⟩
     case round =>
      clear st5 hsz hlt hn HG
      obtain ⟨n, hn, hg, rfl, st⟩ := hrel
      have HG := hid hg
      have hsz : w.heap.size + 1 ≤ wr.heap.size := by have := (World.ownsRow.lt st.or g rfl); omega
      clear hg
      by_cases hlt : n < t.keys.length
      ·obtain ⟨ky, vy, hp⟩ : ∃ a b, t.keys[n] = (a, b) := ⟨_, _, rfl⟩
       have c0 : wr.cell? ⟨b, off + n * 2, none⟩ = some (.string ⟨ky.toArray⟩) := (st.bel.cell (p := ⟨b, off + n * 2, none⟩) hbl).trans (HC.out n 0 _ hlt (by rw [hp]; rfl))
       have c1 : wr.cell? ⟨b, off + n * 2 + 1, none⟩ = some (.string ⟨vy.toArray⟩) := (st.bel.cell (p := ⟨b, off + n * 2 + 1, none⟩) hbl).trans (HC.out n 1 _ hlt (by rw [hp]; rfl))
       have step := take_pairs t.keys n hlt
       rw [hp] at step
       have HST := hid step
       have hlp := len_pairs (t.keys.take n)
       rw [List.length_take] at hlp
       have hl5 : ((hd :: r.filter full) ++ [[117]] ++ (t.keys.take n).flatMap pairParts).length ≤ 10000 := by simp only [List.length_append, List.length_cons, List.length_nil]; omega
       have HL5 := hid hl5
       clear step hp hl5 hlp
       have st1 := st.below hsz ((Below.refl _ _).alloc (Nat.le_refl _) (.cells #[.string ⟨ky.toArray⟩, .string ⟨vy.toArray⟩] 48))
       have hbox : (wr.alloc (.cells #[.string ⟨ky.toArray⟩, .string ⟨vy.toArray⟩] 48)).heap[wr.heap.size]? = some (.cells #[.string ⟨ky.toArray⟩, .string ⟨vy.toArray⟩] 48 (0, 0)) := heap_alloc_new wr _
       have how := World.ownsRow.lt st.os
       clear st
       go_wp2_with (at_builtin; refine wpList_pushK rfl (.tmp 50) (.tmp 53) rfl (w.heap.size + 1) _ _ ky (wr.heap.size + 1) (by simp) rfl st1.os rfl ?ye1 ?ye2 ?_)
       case ye1 => have := HL5.out; omega
       case ye2 => simp; omega
       intro v6 w6 own6 gr6 mv6
       have st6 := st1.push (by simp; omega) own6 gr6 mv6
       have hbox6 : w6.heap[wr.heap.size]? = some (.cells #[.string ⟨ky.toArray⟩, .string ⟨vy.toArray⟩] 48 (0, 0)) := by
        rw [gr6.block wr.heap.size (by simp) (fun e => by have := (how _ e.symm).2; omega)]; exact hbox
       have hz6 : w.heap.size + 1 ≤ w6.heap.size := by have := (World.ownsRow.lt st6.or g rfl); omega
       have hzb : wr.heap.size < w6.heap.size := lt_of_block hbox6
       have cb1 : w6.cell? ⟨wr.heap.size, 1, none⟩ = some (.string ⟨vy.toArray⟩) := cell_of_row _ _ _ _ _ _ hbox6
       clear own6 gr6 mv6 st1 hbox how c0 c1 hbox6
       by_cases hv0 : vy = []
       ·have hb : (vy != []) = false := by rw [hv0]; rfl
        have hb2 : vy.isEmpty = true := by rw [hv0]; rfl
        have HV := hid hv0
        clear hv0
        go_wp2_with fail
        go_roundg (gk - 1)
        case measure => have := HG.out; omega
        case rel => exact ⟨n + 1, by omega, by have := HG.out; omega, by simp, by rw [HST.out, show pairParts (ky, vy) = [ky] from if_pos HV.out]; simpa using st6⟩
       ·have hb : (vy != []) = true := by rw [bne_iff_ne]; exact hv0
        have hb2 : vy.isEmpty = false := by cases hh : vy with | nil => exact absurd hh hv0 | cons => rfl
        have HV := hid hv0
        clear hv0
        go_wp2_with (at_builtin; refine wpList_pushS rfl (.tmp 58) (.tmp 61) rfl (w.heap.size + 1) _ _ vy rfl st6.os rfl ?yf1 ?yf2 ?_)
        case yf1 => have := HL5.out; simp at this ⊢; omega
        case yf2 => exact hz6
        intro v7 w7 own7 gr7 mv7
        have st7 := st6.push hz6 own7 gr7 mv7
        clear own7 gr7 mv7 st6 cb1
        go_wp2_with fail
        go_roundg (gk - 1)
        case measure => have := HG.out; omega
        case rel => exact ⟨n + 1, by omega, by have := HG.out; omega, by simp, by rw [HST.out, show pairParts (ky, vy) = [ky, vy] from if_neg HV.out]; simpa using st7⟩
      ·obtain rfl : n = t.keys.length := by omega
       rw [List.take_length] at st
       have hlp := len_pairs t.keys
       have hw : (hd :: r.filter full) ++ [[117]] ++ t.keys.flatMap pairParts = parts t := by unfold parts partsA; rw [← HH.out, HR.out]; simp [uPart, HK.out]
       have hjo := join_own wr _ _ _ st.os (by simp only [List.length_append, List.length_cons, List.length_nil]; omega) (by rw [hw]; exact HJ.out)
       rw [hw] at hjo
       change Calls _ _ _ _ fun e w' => e = .returned (.string ⟨(writeF t).toArray⟩) ∧ _ at hjo
       have HJJ := hid hjo
       have bel := hid st.bel
       clear hw st hjo hlp
       go_wp2_with fail
       refine HJJ.out.mono ?_
       rintro e w6 ⟨rfl, hb6⟩
       go_wp2_with fail
       go_ret
       exact ⟨rfl, bel.out.then hb6⟩
end Go.Proofs.YtjlfchnnhglbjaaGreat
namespace Go.Proofs.YtjlfchnnhglbjaaGreat
open Go.RowKit Go.Lib Go.Sort
set_option maxRecDepth 100000 in
set_option maxHeartbeats 8000000 in
theorem check_any (w : World) (v : Value) (t : Tg) (h : RdT w v t) (hv : t.vars.length ≤ 1000) (hk : t.keys.length ≤ 1000) (hj : (writeF t).length ≤ 140737488355328) :
  Calls Tryz.prog 72 #[v] w fun e w' => e = .returned (.int .i64 (checkF t)) ∧ Below w.heap.size w w' := by
 have W1 := hid (fun W (hb : Below w.heap.size w W) => write_any W v t (h.below hb) hv hk hj)
 have HT := hid h
 have HJ := hid hj
 obtain ⟨vv, kv, rfl, hS, hP⟩ := h
 obtain ⟨av, cv, rfl, _, _⟩ := hS
 obtain ⟨ak, ck, rfl, _, _⟩ := hP
 unfold checkF
 obtain ⟨s, hs⟩ : ∃ x, x = writeF t := ⟨_, rfl⟩
 rw [← hs] at HJ ⊢
 rw [← hs] at W1
 obtain ⟨x, hx⟩ : ∃ k, k = parseF s := ⟨_, rfl⟩
 rw [← hx]
 simp only [tagCells, S] at W1 HT ⊢
 have HX := hid hx
 clear hs hx hj
 go_enter Tryz.func72, Tryz.ntmps72
 go_wp2_with fail
 have hb0 : Below w.heap.size w (w.alloc (.cells #[.string ⟨t.lang.toArray⟩, .string ⟨t.script.toArray⟩, .string ⟨t.region.toArray⟩, .slice av t.vars.length cv, .slice ak t.keys.length ck] 108)) := (Below.refl _ _).alloc (Nat.le_refl _) _
 refine (W1.out _ hb0).mono ?_
 rintro e w1 ⟨rfl, hb1⟩
 have hx1 : w1.heap[w.heap.size]? = some (.cells #[.string ⟨t.lang.toArray⟩, .string ⟨t.script.toArray⟩, .string ⟨t.region.toArray⟩, .slice av t.vars.length cv, .slice ak t.keys.length ck] 108 (0, 0)) := by
  rw [hb1.block w.heap.size (by simp)]; exact heap_alloc_new w _
 have hw1 := hb0.then hb1
 clear hb0 hb1
 go_wp2_with fail
 have hp := parse_any ⟨s.toArray⟩ w1 (by rw [Lib.size_eq]; have := HJ.out; unfold maxLen; simp; omega)
 rw [show (⟨s.toArray⟩ : ByteArray).data.toList = s from rfl, ← HX.out] at hp
 refine hp.mono ?_
 rintro e w2 ⟨vv2, kv2, rfl, o1, o2, hb2⟩
 obtain ⟨av2, cv2, rfl⟩ := own_sliceS o1
 obtain ⟨ak2, ck2, rfl⟩ := own_sliceP o2
 have hw2 := hw1.then hb2
 have hx2 : w2.heap[w.heap.size]? = some (.cells #[.string ⟨t.lang.toArray⟩, .string ⟨t.script.toArray⟩, .string ⟨t.region.toArray⟩, .slice av t.vars.length cv, .slice ak t.keys.length ck] 108 (0, 0)) := by
  rw [hb2.block w.heap.size (lt_of_block hx1)]; exact hx1
 have hsz2 := lt_of_block hx2
 have RB := hid (show RdT w2 (.agg (tagCells x.tag (.slice av2 x.tag.vars.length cv2) (.slice ak2 x.tag.keys.length ck2))) x.tag from ⟨_, _, rfl, o1.rd, o2.rd⟩)
 have HW := hid hw2
 have HX2 := hid hx2
 clear o1 o2 hb2 hx1 hw1 hp hx2 hw2 W1
 simp only [tagCells, S] at RB ⊢
 by_cases he : x.err = 0
 ·have c0 : w2.cell? ⟨w.heap.size, 0, none⟩ = some _ := cell_of_row _ _ _ _ _ _ HX2.out
  have c1 : w2.cell? ⟨w.heap.size, 1, none⟩ = some _ := cell_of_row _ _ _ _ _ _ HX2.out
  have c2 : w2.cell? ⟨w.heap.size, 2, none⟩ = some _ := cell_of_row _ _ _ _ _ _ HX2.out
  have c3 : w2.cell? ⟨w.heap.size, 3, none⟩ = some (.slice av t.vars.length cv) := cell_of_row _ _ _ _ _ _ HX2.out
  have c4 : w2.cell? ⟨w.heap.size, 4, none⟩ = some (.slice ak t.keys.length ck) := cell_of_row _ _ _ _ _ _ HX2.out
  rw [he]
  have HE := hid he
  clear he
  have hb4 := below2 w2 (.cells #[.string ⟨x.tag.lang.toArray⟩, .string ⟨x.tag.script.toArray⟩, .string ⟨x.tag.region.toArray⟩, .slice av2 x.tag.vars.length cv2, .slice ak2 x.tag.keys.length ck2] 108) (.cells #[.int .i64 ((0 : Nat) : Int), .int .i64 (x.pos : Int)] 99)
  have hw4 := HW.out.then hb4
  have hs := same_any _ _ _ x.tag t (RB.out.below hb4) (HT.out.below hw4)
  have HS := hid hs
  have HW4 := hid hw4
  clear hb4 hs hw4
  generalize hq : sameB x.tag t = q at HS ⊢
  go_wp2_with fail
  refine HS.out.mono ?_
  rintro e w5 ⟨rfl, hb5⟩
  have hw5 := HW4.out.then hb5
  clear HS hb5
  cases q
  ·go_wp2_with fail
   all_goals go_ret
   all_goals exact ⟨by simp, hw5⟩
  ·go_wp2_with fail
   all_goals go_ret
   all_goals exact ⟨by simp [HE.out], hw5⟩
 ·have he2 : (x.err != 0) = true := by rw [bne_iff_ne]; exact he
  have he3 : ((x.err : Int) != 0) = true := by rw [bne_iff_ne]; omega
  go_wp2_with fail
  go_ret
  exact ⟨rfl, HW.out.then (below2 _ _ _)⟩
end Go.Proofs.YtjlfchnnhglbjaaGreat
namespace Go.Proofs.YtjlfchnnhglbjaaGreat
open Go.RowKit Go.Lib Go.Sort
def strErr (p : Str × Int) : Value := .tuple #[.string ⟨p.1.toArray⟩, .int .i64 p.2]
theorem box_cells {W : World} {b : Nat} {a0 a1 a2 a3 a4 : Value} (h : W.heap[b]? = some (.cells #[a0, a1, a2, a3, a4] 108 (0, 0))) :
  W.cell? ⟨b, 0, none⟩ = some a0 ∧ W.cell? ⟨b, 1, none⟩ = some a1 ∧ W.cell? ⟨b, 2, none⟩ = some a2 ∧ W.cell? ⟨b, 3, none⟩ = some a3 ∧ W.cell? ⟨b, 4, none⟩ = some a4 :=
 ⟨cell_of_row _ _ _ _ _ _ h, cell_of_row _ _ _ _ _ _ h, cell_of_row _ _ _ _ _ _ h, cell_of_row _ _ _ _ _ _ h, cell_of_row _ _ _ _ _ _ h⟩
end Go.Proofs.YtjlfchnnhglbjaaGreat
namespace Go.Proofs.YtjlfchnnhglbjaaGreat
open Go.RowKit Go.Lib Go.Sort
set_option maxRecDepth 100000 in
set_option maxHeartbeats 8000000 in
theorem name_any (w : World) (v : Value) (t : Tg) (h : RdT w v t) (hv : t.vars.length ≤ 1000) (hk : t.keys.length ≤ 1000) (hj : (writeF t).length ≤ 140737488355328) (hj2 : (writeF { t with keys := [] }).length ≤ 140737488355328) :
  Calls Tryz.prog 52 #[v] w fun e w' => e = .returned (strErr (nameF t)) ∧ Below w.heap.size w w' := by
 have C1 := hid (fun W (hb : Below w.heap.size w W) => check_any W v t (h.below hb) hv hk hj)
 obtain ⟨vv, kv, rfl, hS, hP⟩ := h
 have W1 := hid (fun W (hb : Below w.heap.size w W) => write_any W (.agg (tagCells { t with keys := [] } vv vnil)) { t with keys := [] } ⟨vv, vnil, rfl, hS.below hb, RdP.nil W⟩ hv (Nat.zero_le _) hj2)
 obtain ⟨av, cv, rfl, _, _⟩ := hS
 obtain ⟨ak, ck, rfl, _, _⟩ := hP
 clear hj hj2
 unfold nameF strErr nameOf
 generalize hq : checkF t = q at *
 generalize hs : writeF { t with keys := [] } = s at *
 simp only [tagCells, S, vnil] at W1 C1 ⊢
 have hb0 : Below w.heap.size w (w.alloc (.cells #[.string ⟨t.lang.toArray⟩, .string ⟨t.script.toArray⟩, .string ⟨t.region.toArray⟩, .slice av t.vars.length cv, .slice ak t.keys.length ck] 108)) := (Below.refl _ _).alloc (Nat.le_refl _) _
 have hx0 : (w.alloc (.cells #[.string ⟨t.lang.toArray⟩, .string ⟨t.script.toArray⟩, .string ⟨t.region.toArray⟩, .slice av t.vars.length cv, .slice ak t.keys.length ck] 108)).heap[w.heap.size]? = some (.cells #[.string ⟨t.lang.toArray⟩, .string ⟨t.script.toArray⟩, .string ⟨t.region.toArray⟩, .slice av t.vars.length cv, .slice ak t.keys.length ck] 108 (0, 0)) := heap_alloc_new w _
 have HX0 := hid hx0
 have HB0 := hid hb0
 clear hx0 hb0
 go_enter Tryz.func52, Tryz.ntmps52
 go_wp2_with fail
 refine (C1.out _ HB0.out).mono ?_
 rintro e w1 ⟨rfl, hb1⟩
 have hw1 := HB0.out.then hb1
 have hx1 : w1.heap[w.heap.size]? = some (.cells #[.string ⟨t.lang.toArray⟩, .string ⟨t.script.toArray⟩, .string ⟨t.region.toArray⟩, .slice av t.vars.length cv, .slice ak t.keys.length ck] 108 (0, 0)) := by
  rw [hb1.block w.heap.size (by simp)]; exact HX0.out
 obtain ⟨c0, c1, c2, c3, c4⟩ := box_cells hx1
 have hsz := lt_of_block hx1
 have HW := hid hw1
 have HX1 := hid hx1
 clear hb1 hw1 hx1 HX0 HB0 C1
 by_cases h0 : q = 0
 ·subst h0
  have hfz := frozen_of_row w1 w.heap.size 4 _ _ HX1.out
  go_wp2_with fail
  have hw2 := HW.out.setCell (p := ⟨w.heap.size, 4, none⟩) (Nat.le_refl _) (.slice none 0 0)
  refine (W1.out _ hw2).mono ?_
  rintro e w2 ⟨rfl, hb2⟩
  have hw3 := hw2.then hb2
  clear hb2 hw2 W1 c0 c1 c2 c3 c4
  by_cases hu : s = [117, 110, 100]
  ·have hub : (s != [117, 110, 100]) = false := by rw [hu]; rfl
   have hub2 : (s == [117, 110, 100]) = true := by rw [hu]; rfl
   have hu2 : s = tUnd := hu
   clear hu
   go_wp2_with fail
   exact bodyPost_ret (v := .tuple #[.string ⟨tRoot.toArray⟩, .int .i64 0]) (by simp [results, Tryz.results52, go_sem, tRoot]) rfl ⟨by simp [hu2], hw3⟩
  ·have hub : (s != [117, 110, 100]) = true := by rw [bne_iff_ne]; exact hu
   have hub2 : (s == [117, 110, 100]) = false := by rw [beq_eq_false_iff_ne]; exact hu
   have hu2 : ¬ s = tUnd := hu
   clear hu
   go_wp2_with fail
   exact bodyPost_ret (v := .tuple #[.string ⟨s.toArray⟩, .int .i64 0]) (by simp [results, Tryz.results52, go_sem]) rfl ⟨by simp [hu2], hw3⟩
 ·have hb : (q != 0) = true := by rw [bne_iff_ne]; exact h0
  go_wp2_with fail
  exact bodyPost_ret (v := .tuple #[.string ⟨#[]⟩, .int .i64 q]) (by simp [results, Tryz.results52, go_sem]) rfl ⟨by simp [h0], HW.out⟩
end Go.Proofs.YtjlfchnnhglbjaaGreat
namespace Go.Proofs.YtjlfchnnhglbjaaGreat
open Go.RowKit Go.Lib Go.Sort
def P5 (w : World) (b : Nat) (a0 a1 a2 a3 a4 : Value) : World :=
 ((((w.setCell ⟨b, 0, none⟩ a0).setCell ⟨b, 1, none⟩ a1).setCell ⟨b, 2, none⟩ a2).setCell ⟨b, 3, none⟩ a3).setCell ⟨b, 4, none⟩ a4
theorem P5_row {w : World} {b : Nat} {z0 z1 z2 z3 z4 : Value} (a0 a1 a2 a3 a4 : Value) (h : w.heap[b]? = some (.cells #[z0, z1, z2, z3, z4] 108 (0, 0))) : (P5 w b a0 a1 a2 a3 a4).heap[b]? = some (.cells #[a0, a1, a2, a3, a4] 108 (0, 0)) := by
 unfold P5
 rw [heap_setCell_same _ _ _ _ _ _ (heap_setCell_same _ _ _ _ _ _ (heap_setCell_same _ _ _ _ _ _ (heap_setCell_same _ _ _ _ _ _ (heap_setCell_same _ _ _ _ _ _ h))))]
 simp
theorem P5_below {B b : Nat} {w0 w : World} (a0 a1 a2 a3 a4 : Value) (h : Below B w0 w) (hb : B ≤ b) : Below B w0 (P5 w b a0 a1 a2 a3 a4) :=
 ((((h.setCell (by simpa using hb) _).setCell (by simpa using hb) _).setCell (by simpa using hb) _).setCell (by simpa using hb) _).setCell (by simpa using hb) _
theorem P5_own {w : World} {b base : Nat} {e : TypeId} {size : Nat} {v : Value} {n : Nat} {xs : List Value} (a0 a1 a2 a3 a4 : Value) (h : w.ownsRow base e size v n xs) (hb : v.ownBlock ≠ some b) : (P5 w b a0 a1 a2 a3 a4).ownsRow base e size v n xs :=
 own_set (own_set (own_set (own_set (own_set h hb _ _) hb _ _) hb _ _) hb _ _) hb _ _
end Go.Proofs.YtjlfchnnhglbjaaGreat
