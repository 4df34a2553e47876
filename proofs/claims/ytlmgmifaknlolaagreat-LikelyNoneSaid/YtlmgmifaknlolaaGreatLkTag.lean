/- The contracts of likely.Full, Add: the frames. -/
import Derived.Test.YtlmgmifaknlolaaGreatLkWith
import Derived.Test.YtlmgmifaknlolaaGreatLkAdd
import Derived.Deep.RegionHeld3
set_option linter.unusedVariables false
set_option linter.unusedSimpArgs false
namespace Go.Proofs.YtlmgmifaknlolaaGreat
open Go.RowKit Go.Lib Go.Sort

def szT (t : Tg) : Nat := t.lang.length + t.script.length + t.region.length + sz t.vars + sz (t.keys.flatMap pairParts) + 16
theorem sz_head (l : Str) : sz [headPart l] ≤ l.length + 4 := by
  rw [sz_cons, sz_nil]
  unfold headPart
  split
  · simp [tUnd]
  · omega
theorem sz_filter (l : List Str) : sz (l.filter full) ≤ sz l := by
  induction l with
  | nil => exact Nat.le_refl _
  | cons a l ih =>
    rw [List.filter_cons]
    split
    · rw [sz_cons, sz_cons]; omega
    · rw [sz_cons]; omega
theorem write_le (t : Tg) : (writeF t).length ≤ szT t := by
  have h1 : (writeF t).length + 1 = sz (parts t) := by
    unfold writeF parts partsA
    exact join_sz _ _
  have h2 : sz (parts t) ≤ szT t + 1 := by
    unfold parts partsA szT
    rw [List.cons_append, show (∀ (a : Str) (l : List Str), a :: l = [a] ++ l) from fun _ _ => rfl, sz_append, sz_append, sz_append]
    have h3 := sz_head t.lang
    have h4 := sz_filter ([t.script, t.region] ++ t.vars)
    rw [sz_append, sz_cons, sz_cons, sz_nil] at h4
    have h5 : sz (uPart t.keys) ≤ 2 := by unfold uPart; split <;> simp [sz_nil, sz_cons]
    omega
  omega
/-- the keys and values that may be said -/
def goodD (D : List (Pt × Pt)) : Prop := ∀ x ∈ D, Good x.1.tag ∧ Good x.2.tag
theorem goodD_of {l : List (Str × Str)} (h : ∀ x ∈ l, okP x) : goodD (dOf l) := by
  intro y hy
  obtain ⟨x, hx, rfl⟩ := List.mem_map.1 hy
  obtain ⟨h1, h2, _⟩ := h x hx
  exact ⟨(read_ok (p := (ptRead x.1).1) (k := x.1) (by rw [← h1])).1, (read_ok (p := (ptRead x.2).1) (k := x.2) (by rw [← h2])).1⟩
theorem good_lens {p : Pt} (h : Good p.tag) : p.l.length ≤ 129 ∧ p.s.length ≤ 129 ∧ p.r.length ≤ 129 := by
  have hs := h.short
  unfold partsR at hs
  rw [sz_cons, sz_append, sz_append, sz_append] at hs
  have ho : ∀ x : Str, x.length ≤ sz (opt x) := fun x => by
    unfold opt
    split
    · rename_i e; rw [e]; exact Nat.zero_le _
    · rw [sz_cons]; omega
  have h1 := ho p.s
  have h2 := ho p.r
  have h3 : p.l.length ≤ (headPart p.l).length := by
    unfold headPart
    split
    · rename_i e; rw [e]; exact Nat.zero_le _
    · exact Nat.le_refl _
  change (headPart p.l).length + 1 + (sz (opt p.s) + sz (opt p.r) + _ + _) ≤ 129 at hs
  omega
theorem orStr_le (a b : Str) : (orStr a b).length ≤ a.length + b.length := by unfold orStr; split <;> omega
theorem addP_lens {D : List (Pt × Pt)} (hD : goodD D) (p : Pt) : (addP D p).1.l.length ≤ p.l.length + 129 ∧ (addP D p).1.s.length ≤ p.s.length + 129 ∧ (addP D p).1.r.length ≤ p.r.length + 129 := by
  unfold addP
  split
  · exact ⟨by simp, by simp, by simp⟩
  · cases hf : findP D (tryKeys p) with
    | none => exact ⟨by simp, by simp, by simp⟩
    | some q =>
      obtain ⟨k, _, hm⟩ := findP_mem hf
      obtain ⟨h1, h2, h3⟩ := good_lens (hD _ hm).2
      have a1 := orStr_le p.l q.l
      have a2 := orStr_le p.s q.s
      have a3 := orStr_le p.r q.r
      simp only [fillP]
      simp only at h1 h2 h3
      omega
theorem szT_with {D : List (Pt × Pt)} (hD : goodD D) (t : Tg) : szT (withT t (addP D (ptOf t)).1) ≤ szT t + 400 := by
  obtain ⟨h1, h2, h3⟩ := addP_lens hD (ptOf t)
  unfold szT withT
  simp only [ptOf] at h1 h2 h3 ⊢
  omega
theorem szT_pt {t : Tg} (h : szT t ≤ 1000000000) : PtSz (ptOf t) := by
  unfold szT at h
  unfold PtSz maxLen ptOf
  simp only
  omega

theorem OwnT.mono {w : World} {B C : Nat} {v : Value} {t : Tg} (h : OwnT w B v t) (hc : C ≤ B) : OwnT w C v t := by
  obtain ⟨vv, kv, hv, h1, h2⟩ := h
  exact ⟨vv, kv, hv, ownS_mono h1 hc, ownP_mono h2 hc⟩
theorem OwnT.below {w w' : World} {B : Nat} {v : Value} {t : Tg} (h : OwnT w B v t) (hb : Below w.heap.size w w') : OwnT w' B v t := by
  obtain ⟨vv, kv, hv, h1, h2⟩ := h
  exact ⟨vv, kv, hv, own_below h1 hb, own_below h2 hb⟩
theorem OwnT.p5 {w : World} {B b : Nat} {v : Value} {t : Tg} (h : OwnT w B v t) (hb : b < B) (a0 a1 a2 a3 a4 : Value) : OwnT (P5 w b a0 a1 a2 a3 a4) B v t := by
  obtain ⟨vv, kv, hv, h1, h2⟩ := h
  refine ⟨vv, kv, hv, P5_own a0 a1 a2 a3 a4 h1 (fun e => ?_), P5_own a0 a1 a2 a3 a4 h2 (fun e => ?_)⟩
  · have := (World.ownsRow.lt h1 _ e).1; omega
  · have := (World.ownsRow.lt h2 _ e).1; omega
theorem OwnT.shape {w : World} {B : Nat} {v : Value} {t : Tg} (h : OwnT w B v t) : ∃ a c b d, v = .agg #[.string ⟨t.lang.toArray⟩, .string ⟨t.script.toArray⟩, .string ⟨t.region.toArray⟩, .slice a t.vars.length c, .slice b t.keys.length d] := by
  obtain ⟨vv, kv, rfl, h1, h2⟩ := h
  obtain ⟨a, c, rfl⟩ := own_sliceS h1
  obtain ⟨b, d, rfl⟩ := own_sliceP h2
  exact ⟨a, c, b, d, rfl⟩

/-- the boxes of a tag that came in and of the tag that goes out -/
structure AdSt (w : World) (t : Tg) (vv kv : Value) (W : World) : Prop where
  bt : W.heap[w.heap.size]? = some (.cells (tagCells t vv kv) 25 (0, 0))
  bz : W.heap[w.heap.size + 1]? = some (.cells (tagCells Tg.zero vnil vnil) 25 (0, 0))
  rs : RdS W vv t.vars
  rp : RdP W kv t.keys
  bel : Below w.heap.size w W
theorem AdSt.below {w W W' : World} {t : Tg} {vv kv : Value} (h : AdSt w t vv kv W) (hb : Below W.heap.size W W') : AdSt w t vv kv W' :=
  ⟨(hb.block _ (lt_of_block h.bt)).trans h.bt, (hb.block _ (lt_of_block h.bz)).trans h.bz, h.rs.below hb, h.rp.below hb, h.bel.then hb⟩
theorem AdSt.drew {w W : World} {t : Tg} {vv kv : Value} (h : AdSt w t vv kv W) : AdSt w t vv kv W.drew := ⟨h.bt, h.bz, h.rs, h.rp, h.bel.drew⟩
theorem AdSt.c0 {w W : World} {t : Tg} {vv kv : Value} (h : AdSt w t vv kv W) : W.cell? ⟨w.heap.size, 0, none⟩ = some (.string ⟨t.lang.toArray⟩) := (box_cells h.bt).1
theorem AdSt.c1 {w W : World} {t : Tg} {vv kv : Value} (h : AdSt w t vv kv W) : W.cell? ⟨w.heap.size, 1, none⟩ = some (.string ⟨t.script.toArray⟩) := (box_cells h.bt).2.1
theorem AdSt.c2 {w W : World} {t : Tg} {vv kv : Value} (h : AdSt w t vv kv W) : W.cell? ⟨w.heap.size, 2, none⟩ = some (.string ⟨t.region.toArray⟩) := (box_cells h.bt).2.2.1
theorem AdSt.c3 {w W : World} {t : Tg} {vv kv : Value} (h : AdSt w t vv kv W) : W.cell? ⟨w.heap.size, 3, none⟩ = some vv := (box_cells h.bt).2.2.2.1
theorem AdSt.c4 {w W : World} {t : Tg} {vv kv : Value} (h : AdSt w t vv kv W) : W.cell? ⟨w.heap.size, 4, none⟩ = some kv := (box_cells h.bt).2.2.2.2
theorem AdSt.z0 {w W : World} {t : Tg} {vv kv : Value} (h : AdSt w t vv kv W) : W.cell? ⟨w.heap.size + 1, 0, none⟩ = some (.string ⟨#[]⟩) := (box_cells h.bz).1
theorem AdSt.z1 {w W : World} {t : Tg} {vv kv : Value} (h : AdSt w t vv kv W) : W.cell? ⟨w.heap.size + 1, 1, none⟩ = some (.string ⟨#[]⟩) := (box_cells h.bz).2.1
theorem AdSt.z2 {w W : World} {t : Tg} {vv kv : Value} (h : AdSt w t vv kv W) : W.cell? ⟨w.heap.size + 1, 2, none⟩ = some (.string ⟨#[]⟩) := (box_cells h.bz).2.2.1
theorem AdSt.z3 {w W : World} {t : Tg} {vv kv : Value} (h : AdSt w t vv kv W) : W.cell? ⟨w.heap.size + 1, 3, none⟩ = some (.slice none 0 0) := (box_cells h.bz).2.2.2.1
theorem AdSt.z4 {w W : World} {t : Tg} {vv kv : Value} (h : AdSt w t vv kv W) : W.cell? ⟨w.heap.size + 1, 4, none⟩ = some (.slice none 0 0) := (box_cells h.bz).2.2.2.2
theorem AdSt.fz {w W : World} {t : Tg} {vv kv : Value} (h : AdSt w t vv kv W) (j : Nat) : W.frozen? ⟨w.heap.size + 1, j, none⟩ = false := frozen_of_row W _ j _ _ h.bz
theorem AdSt.lz {w W : World} {t : Tg} {vv kv : Value} (h : AdSt w t vv kv W) : w.heap.size + 1 < W.heap.size := lt_of_block h.bz
theorem AdSt.lt {w W : World} {t : Tg} {vv kv : Value} (h : AdSt w t vv kv W) : w.heap.size < W.heap.size := lt_of_block h.bt
theorem AdSt.start {w : World} {t : Tg} {vv kv : Value} (hs : RdS w vv t.vars) (hp : RdP w kv t.keys) :
    AdSt w t vv kv ((w.alloc (.cells (tagCells t vv kv) 25)).alloc (.cells (tagCells Tg.zero vnil vnil) 25)) := by
  have hb := below2 w (.cells (tagCells t vv kv) 25) (.cells (tagCells Tg.zero vnil vnil) 25)
  exact ⟨heap_alloc2_old w _ _, heap_alloc2_new w _ _, hs.below hb, hp.below hb, hb⟩
theorem AdSt.rd {w W : World} {t : Tg} {vv kv : Value} (h : AdSt w t vv kv W) : RdT W (.agg (tagCells t vv kv)) t := ⟨vv, kv, rfl, h.rs, h.rp⟩

/-- what Add and Remove hand back -/
def TagOut (w : World) (r : Tg × Bool) (e : Ending) (w' : World) : Prop := ∃ v', e = .returned (.tuple #[v', .bool r.2]) ∧ OwnT w' w.heap.size v' r.1 ∧ Below w.heap.size w w'
/-- the way out of Add -/
theorem addT_ret {w W : World} {t t' : Tg} {vv kv : Value} {r : Tg × Bool} (st : AdSt w t vv kv W) {B : Nat} (hB : w.heap.size + 1 < B) (b : Bool) (hr : r = (t', b)) {ca cb : Option Addr} {na nb : Nat}
    (own : OwnT W B (.agg #[.string ⟨t'.lang.toArray⟩, .string ⟨t'.script.toArray⟩, .string ⟨t'.region.toArray⟩, .slice ca t'.vars.length na, .slice cb t'.keys.length nb]) t') {a : Act} (hd : a.defers = [])
    (h4 : a.tmps.getD 4 undef = .pointer (some ⟨w.heap.size + 1, 0, none⟩)) (h5 : a.tmps.getD 5 undef = .bool b) :
    bodyPost Tryz.prog Tryz.f15 (TagOut w r) Exit.ret a (P5 W (w.heap.size + 1) (.string ⟨t'.lang.toArray⟩) (.string ⟨t'.script.toArray⟩) (.string ⟨t'.region.toArray⟩) (.slice ca t'.vars.length na) (.slice cb t'.keys.length nb)) := by
  have hrow := P5_row (.string ⟨t'.lang.toArray⟩) (.string ⟨t'.script.toArray⟩) (.string ⟨t'.region.toArray⟩) (.slice ca t'.vars.length na) (.slice cb t'.keys.length nb) st.bz
  have hw := P5_below (.string ⟨t'.lang.toArray⟩) (.string ⟨t'.script.toArray⟩) (.string ⟨t'.region.toArray⟩) (.slice ca t'.vars.length na) (.slice cb t'.keys.length nb) st.bel (Nat.le_succ w.heap.size)
  have ho := (own.p5 hB (.string ⟨t'.lang.toArray⟩) (.string ⟨t'.script.toArray⟩) (.string ⟨t'.region.toArray⟩) (.slice ca t'.vars.length na) (.slice cb t'.keys.length nb)).mono (C := w.heap.size) (by omega)
  generalize P5 W (w.heap.size + 1) (.string ⟨t'.lang.toArray⟩) (.string ⟨t'.script.toArray⟩) (.string ⟨t'.region.toArray⟩) (.slice ca t'.vars.length na) (.slice cb t'.keys.length nb) = V at *
  obtain ⟨d0, d1, d2, d3, d4⟩ := box_cells hrow
  subst hr
  refine bodyPost_ret (v := .tuple #[.agg #[.string ⟨t'.lang.toArray⟩, .string ⟨t'.script.toArray⟩, .string ⟨t'.region.toArray⟩, .slice ca t'.vars.length na, .slice cb t'.keys.length nb], .bool b]) ?_ hd ⟨_, rfl, ho, hw⟩
  obtain ⟨tmps, defers⟩ := a
  simp only [Array.getD_eq_getD_getElem?] at h4 h5
  simp [results, Tryz.results15, go_sem, h4, h5, d0, d1, d2, d3, d4]

theorem add_chk {D : List (Pt × Pt)} {t : Tg} (h : checkF t ≠ 0) : addT D t = (Tg.zero, false) := if_pos h
theorem add_none {D : List (Pt × Pt)} {t : Tg} {m : Pt} (h : checkF t = 0) (ha : addP D (ptOf t) = (m, false)) : addT D t = (withT t m, false) := by
  unfold addT; rw [if_neg (by omega), ha, if_pos (Or.inl rfl)]
theorem add_yes {D : List (Pt × Pt)} {t : Tg} {m : Pt} (h : checkF t = 0) (ha : addP D (ptOf t) = (m, true)) (hm : checkF (withT t m) = 0) : addT D t = (withT t m, true) := by
  unfold addT; rw [if_neg (by omega), ha, if_pos (Or.inr hm)]
theorem add_no {D : List (Pt × Pt)} {t : Tg} {m : Pt} (h : checkF t = 0) (ha : addP D (ptOf t) = (m, true)) (hm : checkF (withT t m) ≠ 0) : addT D t = (t, false) := by
  unfold addT; rw [if_neg (by omega), ha, if_neg (by rintro (e | e); · cases e
                                                     · exact hm e)]
end Go.Proofs.YtlmgmifaknlolaaGreat
