/- PtStep, PtParseA, PtParse, TbItem -/
import Derived.Test.YtbbmdbolkicpcaaGreatDoorING07
import Derived.Test.YtbbmdbolkicpcaaGreatDoorING02
import Derived.WalkMore
import Derived.Deep.LoopGhost
import Derived.Deep.CutBlock
import Derived.Test.YtbbmdbolkicpcaaGreatDoorING05
import Derived.Deep.RegionHeld3
set_option linter.unusedVariables false
set_option linter.unusedSimpArgs false
namespace Go.Proofs.YtbbmdbolkicpcaaGreatDoor
open Go.RowKit Go.Lib
theorem pname_one (Br : Nat) (b : ByteArray) (p : Nat) (w : World) (h : PRd w Br b p 0 0) (hp : p ≤ b.size) (hb : b.size ≤ 1000) :
  Calls Tryz.prog 110 #[.pointer (some ⟨Br, 0, none⟩)] w fun x w' => ∃ (n : Str) (ok : Bool), x = .returned (.tuple #[.string ⟨n.toArray⟩, .bool ok]) ∧ Only Br w w' ∧
   ((ok = true ∧ ∃ q, nameP (b.data.toList.drop p) = some (n, b.data.toList.drop q) ∧ PRd w' Br b q 0 0 ∧ q ≤ b.size ∧ p ≤ q) ∨ (ok = false ∧ nameP (b.data.toList.drop p) = none ∧ ∃ q e a, e ≠ 0 ∧ PRd w' Br b q e a)) := by
 refine (pname_any Br b p w h hp hb).mono fun x w' hr => ?_
 rcases hr with ⟨n, r, q, h1, h2, h3, h4, h5, h6, h7⟩ | ⟨h1, h2, h3, h4⟩
 ·exact ⟨n, true, h2, h7, Or.inl ⟨rfl, q, by rw [h1, h6], h3, h4, h5⟩⟩
 ·exact ⟨[], false, h2, h4, Or.inr ⟨rfl, h1, h3⟩⟩
theorem name_q {b : ByteArray} {p q : Nat} {n : Str} (h : nameP (b.data.toList.drop p) = some (n, b.data.toList.drop q)) (hq : q ≤ b.size) (hp : p ≤ b.size) : p < q := by
 obtain ⟨e, h0, _⟩ := nameP_split h
 have := congrArg List.length e
 rw [List.length_append, List.length_drop, List.length_drop, ← Lib.size_eq] at this
 omega
theorem pnext_two (c : UInt8) (Br : Nat) (b : ByteArray) (p : Nat) (w : World) (h : PRd w Br b p 0 0) (hp : p ≤ b.size) (hb : b.size ≤ 1000) :
  Calls Tryz.prog 86 #[.pointer (some ⟨Br, 0, none⟩), .int .u8 (c.toNat : Int)] w fun x w' => Only Br w w' ∧
   ∃ ok : Bool, x = .returned (.bool ok) ∧ ((ok = false ∧ takeB c (b.data.toList.drop p) = none ∧ PRd w' Br b p 0 0) ∨ (ok = true ∧ takeB c (b.data.toList.drop p) = some (b.data.toList.drop (p + 1)) ∧ p < b.size ∧ PRd w' Br b (p + 1) 0 0)) := by
 refine (pnext_any Br b p 0 0 c w h hp hb).mono fun x w' hr => ?_
 obtain ⟨h1, h2, h3⟩ := hr
 refine ⟨h3, _, h1, ?_⟩
 cases htb : takeB c (b.data.toList.drop p) with
 | none => rw [htb] at h2; exact Or.inl ⟨rfl, rfl, h2⟩
 | some r =>
  rw [htb] at h2
  have hlt : p < b.size := by
   rcases Nat.lt_or_ge p b.size with h | h
   ·exact h
   ·rw [takeB_end b p c (by omega)] at htb; cases htb
  refine Or.inr ⟨rfl, ?_, hlt, h2⟩
  rw [takeB_at b p c hlt] at htb
  split at htb
  ·exact htb.symm
  ·cases htb
theorem pvalue_one (Br : Nat) (b : ByteArray) (p : Nat) (w : World) (h : PRd w Br b p 0 0) (hp : p ≤ b.size) (hb : b.size ≤ 1000) (hu : utfB (b.data.toList.drop p) = true) :
  Calls Tryz.prog 111 #[.pointer (some ⟨Br, 0, none⟩)] w fun x w' => ∃ (v : Str) (ok : Bool), x = .returned (.tuple #[.string ⟨v.toArray⟩, .bool ok]) ∧ Only Br w w' ∧
   ((ok = true ∧ ∃ q, valueP false [] (b.data.toList.drop p) = some (v, b.data.toList.drop q) ∧ PRd w' Br b q 0 0 ∧ q ≤ b.size ∧ p ≤ q ∧ utfB (b.data.toList.drop q) = true) ∨ (ok = false ∧ valueP false [] (b.data.toList.drop p) = none ∧ ∃ q e a, e ≠ 0 ∧ PRd w' Br b q e a)) := by
 refine (pvalue_any Br b p w h hp hb hu).mono fun x w' hr => ?_
 rcases hr with ⟨n, r, q, h1, h2, h3, h4, h5, h6, h7, h8⟩ | ⟨h1, h2, h3, h4⟩
 ·exact ⟨n, true, h2, h8, Or.inl ⟨rfl, q, by rw [h1, h6], h3, h4, h5, by rw [← h6]; exact h7⟩⟩
 ·exact ⟨[], false, h2, h4, Or.inr ⟨rfl, h1, h3⟩⟩
def KeySt (w : World) (Br Sb : Nat) (b : ByteArray) (p : Nat) (n : Str) (g : Nat) (v5 : Value) (W : World) : Prop :=
  ∃ (ok : Bool) (kv : Value) (ks : List (Str × Str)), v5 = .bool ok ∧ SSt w Br Sb n W kv ks ∧
    ((ok = true ∧ ∃ q, PRd W Br b q 0 0 ∧ p < q ∧ q ≤ b.size ∧ utfB (b.data.toList.drop q) = true ∧ stepP (b.data.toList.drop p) = (keysW ks (b.data.toList.drop q)).map (fun z => ((n, z.1), z.2)) ∧ ks.length ≤ q ∧ b.size + 2 ≤ q + g) ∨
     (ok = false ∧ stepP (b.data.toList.drop p) = none ∧ ∃ q e a, e ≠ 0 ∧ PRd W Br b q e a))
theorem wp_sameS {P : Program} {c d : Code} {Q : Exit → Act → World → Prop} {a : Act} {w : World} (h : c.wp P Q a w) (e : some (Code.seq .skip c) = some (Code.seq .skip d)) : d.wp P Q a w := by
 injection e with e
 injection e with _ e
 exact e ▸ h
theorem wp_skip_seqS {P : Program} {c : Code} {Q : Exit → Act → World → Prop} {a : Act} {w : World} (h : c.wp P Q a w) : (Code.seq .skip c).wp P Q a w := by
 go_wp2_with fail
 exact h
theorem list_litS (n : Nat) (l : List Value) (h : l.length = n) : l = (List.range n).map fun i => l.getD i undef := by
 apply List.ext_getElem?
 intro i
 by_cases hi : i < n
 ·simp [hi, h]
 ·rw [List.getElem?_eq_none (by omega), List.getElem?_eq_none (by simp; omega)]
set_option maxRecDepth 100000 in
theorem frame_litS (t : Array Value) (h : t.size = 83) : ∃ u : Nat → Value, (∀ i, t.getD i undef = u i) ∧ t = #[u 0, u 1, u 2, u 3, u 4, u 5, u 6, u 7, u 8, u 9, u 10, u 11, u 12, u 13, u 14, u 15, u 16, u 17, u 18, u 19, u 20, u 21, u 22, u 23, u 24, u 25, u 26, u 27, u 28, u 29, u 30, u 31, u 32, u 33, u 34, u 35, u 36, u 37, u 38, u 39, u 40, u 41, u 42, u 43, u 44, u 45, u 46, u 47, u 48, u 49, u 50, u 51, u 52, u 53, u 54, u 55, u 56, u 57, u 58, u 59, u 60, u 61, u 62, u 63, u 64, u 65, u 66, u 67, u 68, u 69, u 70, u 71, u 72, u 73, u 74, u 75, u 76, u 77, u 78, u 79, u 80, u 81, u 82] := by
 refine ⟨fun i => t.getD i undef, fun _ => rfl, ?_⟩
 have e := list_litS 83 t.toList (by simpa using h)
 have e2 : t = ⟨(List.range 83).map fun i => t.toList.getD i undef⟩ := by
  rw [← e]
 have e3 : ∀ i, t.toList.getD i undef = t.getD i undef := fun i => by simp [Array.getD_eq_getD_getElem?]
 simp only [e3] at e2
 exact e2
structure FrS (Br Rb Sb : Nat) (v5 : Value) (a : Act) : Prop where
 d : a.defers = []
 n : a.tmps.size = 83
 s0 : a.tmps.getD 0 undef = .pointer (some ⟨Br, 0, none⟩)
 s2 : a.tmps.getD 2 undef = .pointer (some ⟨Rb, 0, none⟩)
 s5 : a.tmps.getD 5 undef = v5
 s6 : a.tmps.getD 6 undef = .pointer (some ⟨Sb, 0, none⟩)
theorem FrS.lit {Br Rb Sb : Nat} {v5 : Value} {a : Act} (h : FrS Br Rb Sb v5 a) : ∃ u : Nat → Value, a = { tmps := #[.pointer (some ⟨Br, 0, none⟩), u 1, .pointer (some ⟨Rb, 0, none⟩), u 3, u 4, v5, .pointer (some ⟨Sb, 0, none⟩), u 7, u 8, u 9, u 10, u 11, u 12, u 13, u 14, u 15, u 16, u 17, u 18, u 19, u 20, u 21, u 22, u 23, u 24, u 25, u 26, u 27, u 28, u 29, u 30, u 31, u 32, u 33, u 34, u 35, u 36, u 37, u 38, u 39, u 40, u 41, u 42, u 43, u 44, u 45, u 46, u 47, u 48, u 49, u 50, u 51, u 52, u 53, u 54, u 55, u 56, u 57, u 58, u 59, u 60, u 61, u 62, u 63, u 64, u 65, u 66, u 67, u 68, u 69, u 70, u 71, u 72, u 73, u 74, u 75, u 76, u 77, u 78, u 79, u 80, u 81, u 82], defers := [] } := by
 obtain ⟨t, d⟩ := a
 obtain ⟨hd, hn, h0, h2, h5, h6⟩ := h
 simp only at hd hn h0 h2 h5 h6
 obtain ⟨u, hu, e⟩ := frame_litS t hn
 rw [hu] at h0 h2 h5 h6
 refine ⟨u, ?_⟩
 rw [h0, h2, h5, h6] at e
 rw [e, hd]
def JS (w : World) (Br : Nat) (b : ByteArray) (p : Nat) : Nat → Nat → Act → World → Prop
 | 0, n, a, W => ∃ Sb nm v5, FrS Br w.heap.size Sb v5 a ∧ KeySt w Br Sb b p nm n v5 W
 | _, _, _, _ => False
def bodyOfS (f : Func) (l : Nat) : Option Code := f.body.bind fun c => match c with | .seq _ (.scope c) => findLabel c l | _ => none
theorem last_cells {W : World} {B g c : Nat} {ks : List (Str × Str)} (h : OwnP W B (.slice (some ⟨g, 0, none⟩) ks.length c) ks) (hne : ks ≠ []) : ∃ k0, (∀ k, lastGE ks k = decide (k ≤ k0)) ∧ W.cell? ⟨g, (ks.length - 1) * 2, none⟩ = some (.string ⟨k0.toArray⟩) := by
 have hl : 0 < ks.length := List.length_pos_iff.2 hne
 refine ⟨(ks[ks.length - 1]'(by omega)).1, fun k => ?_, ?_⟩
 ·unfold lastGE
  rw [List.getLast?_eq_getElem?, List.getElem?_eq_getElem (by omega)]
 ·rcases h.shape with ⟨e, _⟩ | ⟨g', cap, cur, e, hB, hg, hn, hm, hs, ht⟩
  ·cases e
  ·cases e
   have := flat2_get ks (ks.length - 1) 0 (by omega) (by decide)
   rw [Nat.add_zero] at this
   exact cells_at hg ht _ _ (by rw [this]; rfl)
set_option maxRecDepth 100000 in
set_option maxHeartbeats 16000000 in
theorem step_run (w : World) (Br : Nat) (b : ByteArray) (p : Nat) (hp : p ≤ b.size) (hb : b.size ≤ 512) : ∃ rest, bodyOfS Tryz.f85 0 = some (.seq .skip rest) ∧ ∀ n a W, JS w Br b p 0 n a W → ∀ Jx : Nat → Act → World → Prop, (∀ n' a' w', n' < n → JS w Br b p 0 n' a' w' → Jx 0 a' w') →
  rest.wp Tryz.prog (Exit.jumps Jx (bodyPost Tryz.prog Tryz.f85 (fun x w' => StepRes Br b p w x w'))) a W := by
 refine ⟨_, rfl, ?_⟩
 intro g a W hJ Jx hJx
 obtain ⟨Sb, n, v5, hfr, ok, kv, ks, rfl, st, hst⟩ := hJ
 obtain ⟨u, rfl⟩ := hfr.lit
 have HX := hid hJx
 have ST := hid st
 have HK := hid hst
 have NM := hid (fun q W (h : PRd W Br b q 0 0) (hq : q ≤ b.size) => pname_one Br b q W h hq (by omega))
 have NX1 := hid (fun q W (h : PRd W Br b q 0 0) (hq : q ≤ b.size) => (show Calls Tryz.prog 86 #[.pointer (some ⟨Br, 0, none⟩), .int .u8 91] W _ from pnext_two 91 Br b q W h hq (by omega)))
 have NX2 := hid (fun q W (h : PRd W Br b q 0 0) (hq : q ≤ b.size) => (show Calls Tryz.prog 86 #[.pointer (some ⟨Br, 0, none⟩), .int .u8 61] W _ from pnext_two 61 Br b q W h hq (by omega)))
 have VL := hid (fun q W (h : PRd W Br b q 0 0) (hq : q ≤ b.size) (hu : utfB (b.data.toList.drop q) = true) => pvalue_one Br b q W h hq (by omega) hu)
 have FA := hid (fun q er ea e a W (h : PRd W Br b q er ea) => pfail_any Br b q er ea e a W h)
 clear hfr hJx st hst
 obtain ⟨ak, ck, rfl⟩ := own_sliceP ST.out.own
 obtain ⟨s0, s1, sf0, sf1, slt⟩ := box2_cells ST.out.sb
 obtain ⟨r0, r1, rf0, rf1, rlt⟩ := box2_cells ST.out.rb
 cases ok with
 | false =>
  obtain ⟨hno, q, er, ea, hne, hrd⟩ : stepP (b.data.toList.drop p) = none ∧ ∃ q e a, e ≠ 0 ∧ PRd W Br b q e a := by
   rcases HK.out with ⟨h, _⟩ | ⟨_, h⟩
   ·cases h
   ·exact h
  have HNO := hid hno
  have HRD := hid hrd
  have HNE := hid hne
  clear hno hrd hne HK
  go_wp2_with fail
  simp only [Exit.jumps]
  change bodyPost _ _ _ _ _ (P2 W w.heap.size (.string ⟨n.toArray⟩) (.slice ak ks.length ck))
  exact step_ret ST.out.rb rfl rfl rfl (Or.inr ⟨HNO.out, ⟨_, _, _, _, rfl⟩, ⟨q, er, ea, HNE.out, ST.out.rd2 HRD.out _ _⟩, ST.out.ret _ _⟩)
 | true =>
  obtain ⟨q, hrd, hpq, hqb, huq, hke, hks, hg⟩ : ∃ q, PRd W Br b q 0 0 ∧ p < q ∧ q ≤ b.size ∧ utfB (b.data.toList.drop q) = true ∧ stepP (b.data.toList.drop p) = (keysW ks (b.data.toList.drop q)).map (fun z => ((n, z.1), z.2)) ∧ ks.length ≤ q ∧ b.size + 2 ≤ q + g := by
   rcases HK.out with ⟨_, h⟩ | ⟨h, _⟩
   ·exact h
   ·cases h
  have HRD := hid hrd
  have HUQ := hid huq
  have HKE := hid hke
  have HKS := hid hks
  have HG := hid hg
  have HPQ := hid hpq
  have HQB := hid hqb
  clear hrd huq hke hks hg HK hpq hqb
  go_wp2_with fail
  refine (NX1.out q W HRD.out HQB.out).mono ?_
  rintro e W2 ⟨o2, okx, rfl, hx⟩
  have ST2 := hid (ST.out.step o2)
  clear s0 s1 sf0 sf1 slt r0 r1 rf0 rf1 rlt o2 ST HRD
  obtain ⟨s0, s1, sf0, sf1, slt⟩ := box2_cells ST2.out.sb
  obtain ⟨r0, r1, rf0, rf1, rlt⟩ := box2_cells ST2.out.rb
  cases okx with
  | false =>
   obtain ⟨htb, hrd⟩ : takeB 91 (b.data.toList.drop q) = none ∧ PRd W2 Br b q 0 0 := by
    rcases hx with ⟨_, h1, h2⟩ | ⟨h, _⟩
    ·exact ⟨h1, h2⟩
    ·cases h
   have HE := hid (show stepP (b.data.toList.drop p) = some ((n, ks), b.data.toList.drop q) by rw [HKE.out, keysW_eq, htb]; rfl)
   have HRD := hid hrd
   clear hx htb hrd
   go_wp2_with fail
   simp only [Exit.jumps]
   change bodyPost _ _ _ _ _ (P2 W2 w.heap.size (.string ⟨n.toArray⟩) (.slice ak ks.length ck))
   exact step_ret ST2.out.rb rfl rfl rfl (Or.inl ⟨(n, ks), _, q, _, HE.out, rfl, ST2.out.own2 _ _, ST2.out.rd2 HRD.out _ _, HQB.out, HPQ.out, rfl, HUQ.out, ST2.out.ret _ _⟩)
  | true =>
   obtain ⟨htb, hql, hrd⟩ : takeB 91 (b.data.toList.drop q) = some (b.data.toList.drop (q + 1)) ∧ q < b.size ∧ PRd W2 Br b (q + 1) 0 0 := by
    rcases hx with ⟨h, _⟩ | ⟨_, h1, h2, h3⟩
    ·cases h
    ·exact ⟨h1, h2, h3⟩
   have HU1 := hid (utfB_take (by decide) htb HUQ.out)
   have HE1 := hid (show keysW ks (b.data.toList.drop q) = match keyP ks (b.data.toList.drop (q + 1)) with
    | none => none
    | some (p, r3) => keysW (ks ++ [p]) r3 by rw [keysW_eq, htb] <;> rfl)
   have HRD := hid hrd
   have HQL := hid hql
   clear hx htb hrd hql
   obtain ⟨c0, c1, c2, c3, f1, f2, f3, lt⟩ := HRD.out.cells
   have FK := hid (heap_alloc_new W2 (.cells #[.string ⟨#[]⟩, .string ⟨#[]⟩] 76))
   have hb3 : Below W2.heap.size W2 (W2.alloc (.cells #[.string ⟨#[]⟩, .string ⟨#[]⟩] 76)) := (Below.refl _ _).alloc (Nat.le_refl _) _
   have ST3 := hid (ST2.out.below hb3)
   have HR3 := hid (HRD.out.below hb3)
   have HNK := hid (show (Value.slice ak ks.length ck).ownBlock ≠ some W2.heap.size from fun e => by have := (World.ownsRow.lt ST2.out.own _ e).2; omega)
   have HSK := hid (show Sb < W2.heap.size from slt)
   clear hb3
   go_upto_region 7 with fail
   generalize W2.alloc (.cells #[.string ⟨#[]⟩, .string ⟨#[]⟩] 76) = W3 at *
   clear s0 s1 sf0 sf1 slt r0 r1 rf0 rf1 rlt c0 c1 c2 c3 f1 f2 f3 lt ST2 HRD
   generalize W2.heap.size = kb at *
   go_wp2_with fail
   refine (NM.out (q + 1) W3 HR3.out HQL.out).mono ?_
   rintro e W4 ⟨k, okn, rfl, o4, hr4⟩
   have ST4 := hid (ST3.out.step o4)
   have FK4 := hid ((o4.block kb (lt_of_block FK.out) (by have := ST3.out.br; have := ST3.out.lt; have := HSK.out; simp; omega)).trans FK.out)
   have HR4 := hid hr4
   clear o4 hr4 ST3 HR3 FK
   obtain ⟨k0, k1, kf0, kf1, klt⟩ := box2_cells FK4.out
   have ST5 := hid (ST4.out.set HSK.out HNK.out 0 (.string ⟨k.toArray⟩))
   have FK5 := hid (show (W4.setCell ⟨kb, 0, none⟩ (.string ⟨k.toArray⟩)).heap[kb]? = some (.cells #[.string ⟨k.toArray⟩, .string ⟨#[]⟩] 76 (0, 0)) from by rw [heap_setCell_same _ _ _ _ _ _ FK4.out]; simp)
   have HRP := hid (fun q e a (h : PRd W4 Br b q e a) => (show PRd (W4.setCell ⟨kb, 0, none⟩ (.string ⟨k.toArray⟩)) Br b q e a from (heap_setCell_other _ _ _ _ (by have := ST4.out.br; have := ST4.out.lt; have := HSK.out; simp; omega)).trans h))
   go_upto_region 8 with fail
   generalize W4.setCell ⟨kb, 0, none⟩ (.string ⟨k.toArray⟩) = W5 at *
   clear k0 k1 kf0 kf1 klt FK4
   obtain ⟨s0, s1, sf0, sf1, slt⟩ := box2_cells ST5.out.sb
   obtain ⟨r0, r1, rf0, rf1, rlt⟩ := box2_cells ST5.out.rb
   cases okn with
   | false =>
    obtain ⟨hnn, q2, er, ea, hne, hrd⟩ : nameP (b.data.toList.drop (q + 1)) = none ∧ ∃ q e a, e ≠ 0 ∧ PRd W4 Br b q e a := by
     rcases HR4.out with ⟨h, _⟩ | ⟨_, h⟩
     ·cases h
     ·exact h
    have HNO := hid (show stepP (b.data.toList.drop p) = none by rw [HKE.out, HE1.out]; unfold keyP; rw [hnn]; rfl)
    have HRD := hid (HRP.out _ _ _ hrd)
    have HNE := hid hne
    clear hnn hrd hne HR4
    go_wp2_with fail
    simp only [Exit.jumps]
    change bodyPost _ _ _ _ _ (P2 W5 w.heap.size (.string ⟨n.toArray⟩) (.slice ak ks.length ck))
    exact step_ret ST5.out.rb rfl rfl rfl (Or.inr ⟨HNO.out, ⟨_, _, _, _, rfl⟩, ⟨q2, er, ea, HNE.out, ST5.out.rd2 HRD.out _ _⟩, ST5.out.ret _ _⟩)
   | true =>
    obtain ⟨q2, hnn, hrd, hq2, hqq⟩ : ∃ q2, nameP (b.data.toList.drop (q + 1)) = some (k, b.data.toList.drop q2) ∧ PRd W4 Br b q2 0 0 ∧ q2 ≤ b.size ∧ q + 1 ≤ q2 := by
     rcases HR4.out with ⟨_, h⟩ | ⟨h, _⟩
     ·exact h
     ·cases h
    have HRD := hid (HRP.out _ _ _ hrd)
    have HU2 := hid (utfB_name hnn HU1.out)
    have HKP := hid (show keyP ks (b.data.toList.drop (q + 1)) = if lastGE ks k then none else
      match takeB 61 (b.data.toList.drop q2) with
      | none => none
      | some r2 =>
       match valueP false [] r2 with
       | none => none
       | some (v, r3) => some ((k, v), r3) by unfold keyP; rw [hnn]; rfl)
    have HQ2 := hid hq2
    have HQQ := hid hqq
    clear hnn hrd hq2 hqq HR4 HRP HU1
    obtain ⟨k0, k1, kf0, kf1, klt⟩ := box2_cells FK5.out
    have hkl : (ks.length : Int) ≤ 600 := by have := HKS.out; have := HQB.out; omega
    go_upto_region 11 with fail
    go_cut [55] from 42 to 55 (fun o wx => o = .bool (lastGE ks k) ∧ ∃ m, wx = W5.drewN m)
    case first =>
     by_cases hnil : ks = []
     ·subst hnil
      go_quiet (fail)
      go_wp2_with fail
      go_meet
      exact ⟨rfl, nq, rfl⟩
     ·obtain ⟨g1, rfl⟩ : ∃ g1, ak = some ⟨g1, 0, none⟩ := by
       rcases ST5.out.own.shape with ⟨_, e⟩ | ⟨g, cap, cur, e, _⟩
       ·exact absurd e hnil
       ·cases e; exact ⟨g, rfl⟩
      obtain ⟨kl, hkl2, hkc⟩ := last_cells ST5.out.own hnil
      have hpos : 0 < ks.length := List.length_pos_iff.2 hnil
      have HKL := hid (hkl2 k)
      have HBL := hid (Proofs.bytesLess_eq kl k)
      clear hkl2
      generalize hln : ks.length = L at *
      obtain ⟨m, rfl⟩ : ∃ m, L = m + 1 := ⟨L - 1, by omega⟩
      rw [Nat.add_sub_cancel] at hkc
      have hm1 : ((m : Int) + 1 - 1) = (m : Int) := by omega
      have hm2 : (m : Int) < (m : Int) + 1 := by omega
      have hm3 : (0 : Int) ≤ (m : Int) := by omega
      have hm4 : (m : Int) ≤ 1000 := by omega
      by_cases hlt : kl < k
      ·have hbl : Op.bytesLess kl k = true := by rw [HBL.out]; exact decide_eq_true hlt
       go_quiet (fail)
       go_wp2_with fail
       go_meet
       exact ⟨by rw [HKL.out, decide_eq_false (List.not_le.2 hlt)], nq, rfl⟩
      ·have hbl : Op.bytesLess kl k = false := by rw [HBL.out]; exact decide_eq_false hlt
       go_quiet (fail)
       go_wp2_with fail
       go_meet
       exact ⟨by rw [HKL.out, decide_eq_true (List.not_lt.1 hlt)], nq, rfl⟩
    case rest =>
     obtain ⟨rfl, m5, rfl⟩ := hcut
     have HRD5 := hid (HRD.out.drewN m5)
     have ST5d := hid (show SSt w Br Sb n (W5.drewN m5) (.slice ak ks.length ck) ks from ST5.out.below ⟨rfl, rfl, rfl, Nat.le_refl _, fun _ _ => rfl⟩)
     have FK5d := hid (show (W5.drewN m5).heap[kb]? = some (.cells #[.string ⟨k.toArray⟩, .string ⟨#[]⟩] 76 (0, 0)) from FK5.out)
     clear s0 s1 sf0 sf1 slt r0 r1 rf0 rf1 rlt k0 k1 kf0 kf1 klt ST5 HRD FK5
     generalize W5.drewN m5 = W6 at *
     obtain ⟨s0, s1, sf0, sf1, slt⟩ := box2_cells ST5d.out.sb
     obtain ⟨r0, r1, rf0, rf1, rlt⟩ := box2_cells ST5d.out.rb
     obtain ⟨k0, k1, kf0, kf1, klt⟩ := box2_cells FK5d.out
     cases hge : lastGE ks k with
     | true =>
      have HNO := hid (show stepP (b.data.toList.drop p) = none by rw [HKE.out, HE1.out, HKP.out, if_pos hge]; rfl)
      clear hge
      go_upto_region 12 with fail
      first
       | (go_region_with (first
        | (go_at_call 84; refine (FA.out q2 0 0 160 ((q : Int) + 1) _ (by first | exact HRD5.out | exact HRD5.out.drewN _)).mono ?_; rintro e W7 ⟨rfl, h7, o7⟩; have ST7 := hid (SSt.step (by first | exact ST5d.out | exact ST5d.out.below ⟨rfl, rfl, rfl, Nat.le_refl _, fun _ _ => rfl⟩) o7); obtain ⟨ss0, ss1, ssf0, ssf1, sslt⟩ := box2_cells ST7.out.sb; obtain ⟨rr0, rr1, rrf0, rrf1, rrlt⟩ := box2_cells ST7.out.rb)))
       | fail "region"
      all_goals
       go_wp2_with fail
       simp only [Exit.jumps]
       change bodyPost _ _ _ _ _ (P2 _ w.heap.size (.string ⟨n.toArray⟩) (.slice ak ks.length ck))
       exact step_ret ST7.out.rb rfl rfl rfl (Or.inr ⟨HNO.out, ⟨_, _, _, _, rfl⟩, ⟨q2, 160, _, by decide, ST7.out.rd2 h7 _ _⟩, ST7.out.ret _ _⟩)
     | false =>
      have HKP2 := hid (show keyP ks (b.data.toList.drop (q + 1)) = match takeB 61 (b.data.toList.drop q2) with
       | none => none
       | some r2 =>
        match valueP false [] r2 with
        | none => none
        | some (v, r3) => some ((k, v), r3) by rw [HKP.out, if_neg (by rw [hge]; decide)])
      clear hge HKP
      go_wp2_with fail
      refine (NX2.out q2 W6 HRD5.out HQ2.out).mono ?_
      rintro e W7 ⟨o7, okx, rfl, hx⟩
      have ST7 := hid (ST5d.out.step o7)
      have FK7 := hid ((o7.block kb (lt_of_block FK5d.out) (by have := ST5d.out.br; have := ST5d.out.lt; have := HSK.out; simp; omega)).trans FK5d.out)
      clear s0 s1 sf0 sf1 slt r0 r1 rf0 rf1 rlt k0 k1 kf0 kf1 klt o7 ST5d FK5d HRD5
      obtain ⟨s0, s1, sf0, sf1, slt⟩ := box2_cells ST7.out.sb
      obtain ⟨r0, r1, rf0, rf1, rlt⟩ := box2_cells ST7.out.rb
      obtain ⟨k0, k1, kf0, kf1, klt⟩ := box2_cells FK7.out
      cases okx with
      | false =>
       obtain ⟨htb, hrd⟩ : takeB 61 (b.data.toList.drop q2) = none ∧ PRd W7 Br b q2 0 0 := by
        rcases hx with ⟨_, h1, h2⟩ | ⟨h, _⟩
        ·exact ⟨h1, h2⟩
        ·cases h
       have HNO := hid (show stepP (b.data.toList.drop p) = none by rw [HKE.out, HE1.out, HKP2.out, htb]; rfl)
       have HRD7 := hid hrd
       clear hx htb hrd
       obtain ⟨c0, c1, c2, c3, f1, f2, f3, lt⟩ := HRD7.out.cells
       go_upto_region 14 with fail
       first
        | (go_region_with (first
         | (go_at_call 84; refine (FA.out q2 0 0 160 q2 _ (by first | exact HRD7.out | exact HRD7.out.drewN _)).mono ?_; rintro e W8 ⟨rfl, h8, o8⟩; have ST8 := hid (SSt.step (by first | exact ST7.out | exact ST7.out.below ⟨rfl, rfl, rfl, Nat.le_refl _, fun _ _ => rfl⟩) o8); obtain ⟨ss0, ss1, ssf0, ssf1, sslt⟩ := box2_cells ST8.out.sb; obtain ⟨rr0, rr1, rrf0, rrf1, rrlt⟩ := box2_cells ST8.out.rb)))
        | fail "region"
       all_goals
        go_wp2_with fail
        simp only [Exit.jumps]
        change bodyPost _ _ _ _ _ (P2 _ w.heap.size (.string ⟨n.toArray⟩) (.slice ak ks.length ck))
        exact step_ret ST8.out.rb rfl rfl rfl (Or.inr ⟨HNO.out, ⟨_, _, _, _, rfl⟩, ⟨q2, 160, _, by decide, ST8.out.rd2 h8 _ _⟩, ST8.out.ret _ _⟩)
      | true =>
       obtain ⟨htb, hq3, hrd⟩ : takeB 61 (b.data.toList.drop q2) = some (b.data.toList.drop (q2 + 1)) ∧ q2 < b.size ∧ PRd W7 Br b (q2 + 1) 0 0 := by
        rcases hx with ⟨h, _⟩ | ⟨_, h1, h2, h3⟩
        ·cases h
        ·exact ⟨h1, h2, h3⟩
       have HU3 := hid (utfB_take (by decide) htb HU2.out)
       have HKP3 := hid (show keyP ks (b.data.toList.drop (q + 1)) = match valueP false [] (b.data.toList.drop (q2 + 1)) with
        | none => none
        | some (v, r3) => some ((k, v), r3) by rw [HKP2.out, htb])
       have HRD7 := hid hrd
       have HQ3 := hid hq3
       clear hx htb hrd hq3 HKP2 HU2
       go_wp2_with fail
       refine (VL.out (q2 + 1) W7 HRD7.out HQ3.out HU3.out).mono ?_
       rintro e W8 ⟨v, okv, rfl, o8, hr8⟩
       have ST8 := hid (ST7.out.step o8)
       have FK8 := hid ((o8.block kb (lt_of_block FK7.out) (by have := ST7.out.br; have := ST7.out.lt; have := HSK.out; simp; omega)).trans FK7.out)
       have HR8 := hid hr8
       clear s0 s1 sf0 sf1 slt r0 r1 rf0 rf1 rlt k0 k1 kf0 kf1 klt o8 hr8 ST7 FK7 HRD7
       obtain ⟨k0, k1, kf0, kf1, klt⟩ := box2_cells FK8.out
       have ST9 := hid (ST8.out.set HSK.out HNK.out 1 (.string ⟨v.toArray⟩))
       have FK9 := hid (show (W8.setCell ⟨kb, 1, none⟩ (.string ⟨v.toArray⟩)).heap[kb]? = some (.cells #[.string ⟨k.toArray⟩, .string ⟨v.toArray⟩] 76 (0, 0)) from by rw [heap_setCell_same _ _ _ _ _ _ FK8.out]; simp)
       have HRP := hid (fun q e a (h : PRd W8 Br b q e a) => (show PRd (W8.setCell ⟨kb, 1, none⟩ (.string ⟨v.toArray⟩)) Br b q e a from (heap_setCell_other _ _ _ _ (by have := ST8.out.br; have := ST8.out.lt; have := HSK.out; simp; omega)).trans h))
       go_upto_region 16 with fail
       generalize W8.setCell ⟨kb, 1, none⟩ (.string ⟨v.toArray⟩) = W9 at *
       clear k0 k1 kf0 kf1 klt FK8
       cases okv with
       | false =>
        obtain ⟨hnn, q4, er, ea, hne, hrd⟩ : valueP false [] (b.data.toList.drop (q2 + 1)) = none ∧ ∃ q e a, e ≠ 0 ∧ PRd W8 Br b q e a := by
         rcases HR8.out with ⟨h, _⟩ | ⟨_, h⟩
         ·cases h
         ·exact h
        have HNO := hid (show stepP (b.data.toList.drop p) = none by rw [HKE.out, HE1.out, HKP3.out, hnn]; rfl)
        have HRD := hid (HRP.out _ _ _ hrd)
        have HNE := hid hne
        clear hnn hrd hne HR8
        go_wp2_with fail
        go_step3
        refine HX.out (g - 1) _ _ (by have := HG.out; have := HQB.out; omega) ?_
        exact ⟨Sb, n, .bool false, ⟨rfl, rfl, rfl, rfl, rfl, rfl⟩, false, _, ks, rfl, ST9.out, Or.inr ⟨rfl, HNO.out, q4, er, ea, HNE.out, HRD.out⟩⟩
       | true =>
        obtain ⟨q4, hnn, hrd, hq4, hqq, hu4⟩ : ∃ q4, valueP false [] (b.data.toList.drop (q2 + 1)) = some (v, b.data.toList.drop q4) ∧ PRd W8 Br b q4 0 0 ∧ q4 ≤ b.size ∧ q2 + 1 ≤ q4 ∧ utfB (b.data.toList.drop q4) = true := by
         rcases HR8.out with ⟨_, h⟩ | ⟨h, _⟩
         ·exact h
         ·cases h
        have HRD := hid (HRP.out _ _ _ hrd)
        have HE4 := hid (show stepP (b.data.toList.drop p) = (keysW (ks ++ [(k, v)]) (b.data.toList.drop q4)).map (fun z => ((n, z.1), z.2)) by rw [HKE.out, HE1.out, HKP3.out, hnn])
        have HU4 := hid hu4
        have HQ4 := hid (show p < q4 ∧ q4 ≤ b.size ∧ (ks ++ [(k, v)]).length ≤ q4 ∧ b.size + 2 ≤ q4 + (g - 1) ∧ g - 1 < g from by
         have h1 := HPQ.out
         have h2 := HQQ.out
         have h3 := HKS.out
         have h4 := HG.out
         have h5 := HQB.out
         refine ⟨by omega, hq4, by simp; omega, by omega, by omega⟩)
        have HLL := hid (show ks.length ≤ 1000000 by omega)
        have HSZ := hid (show w.heap.size + 1 ≤ W9.heap.size by have := lt_of_block ST9.out.sb; have := ST9.out.lt; omega)
        clear hnn hrd hq4 hqq hu4 HR8 HKP3 HE1 HKE HRP hkl
        obtain ⟨s0, s1, sf0, sf1, slt⟩ := box2_cells ST9.out.sb
        obtain ⟨k0, k1, kf0, kf1, klt⟩ := box2_cells FK9.out
        go_wp2_with (at_builtin; refine wpList_pushP rfl (.tmp 78) (.tmp 80) rfl (w.heap.size + 1) _ ks (k, v) rfl ST9.out.own rfl HLL.out HSZ.out ?_; intro kv' W10 own10 gr10 mv10; obtain ⟨a', c', rfl⟩ := own_sliceP own10; rw [show (ks ++ [(k, v)]).length = ks.length + 1 from by simp] at own10; have sb10 := (gr10.block Sb (lt_of_block ST9.out.sb) (Ne.symm (own_type ST9.out.own ST9.out.sb (by decide)))).trans ST9.out.sb; have HRD10 := hid (show PRd W10 Br b q4 0 0 from (gr10.block Br (lt_of_block HRD.out) (fun e => by have := (World.ownsRow.lt ST9.out.own Br e.symm).1; have := ST9.out.br; omega)).trans HRD.out); have ST10 := hid (ST9.out.keys own10 gr10); obtain ⟨t0, t1, tf0, tf1, tlt⟩ := box2_cells sb10; clear own10 gr10 mv10)
        go_step3
        refine HX.out (g - 1) _ _ HQ4.out.2.2.2.2 ?_
        exact ⟨Sb, n, .bool true, ⟨rfl, rfl, rfl, rfl, rfl, rfl⟩, true, _, ks ++ [(k, v)], rfl, ST10.out, Or.inl ⟨rfl, q4, (heap_setCell_other _ _ _ _ (by have := ST9.out.br; have := ST9.out.lt; simp; omega)).trans HRD10.out, HQ4.out.1, HQ4.out.2.1, HU4.out, HE4.out, HQ4.out.2.2.1, HQ4.out.2.2.2.1⟩⟩
set_option maxRecDepth 100000 in
set_option maxHeartbeats 8000000 in
theorem pstep_any (Br : Nat) (b : ByteArray) (p : Nat) (w : World) (h : PRd w Br b p 0 0) (hp : p ≤ b.size) (hb : b.size ≤ 512) (hu : utfB (b.data.toList.drop p) = true) :
  Calls Tryz.prog 85 #[.pointer (some ⟨Br, 0, none⟩)] w fun x w' => StepRes Br b p w x w' := by
 have HU := hid hu
 have hbr := h.cells.2.2.2.2.2.2.2
 have HBR := hid hbr
 have hb7 : Below w.heap.size w (w.alloc (.cells #[.string ⟨#[]⟩, .slice none 0 0] 106)) := (Below.refl _ _).alloc (Nat.le_refl _) _
 have H1 := hid (h.below hb7)
 have O1 := hid ((Only.refl w Br).below hb7)
 have F1 := hid (heap_alloc_new w (.cells #[.string ⟨#[]⟩, .slice none 0 0] 106))
 have NM := hid (fun q W (h : PRd W Br b q 0 0) (hq : q ≤ b.size) => pname_one Br b q W h hq (by omega))
 have LT1 := hid (show w.heap.size < (w.alloc (.cells #[.string ⟨#[]⟩, .slice none 0 0] 106)).heap.size from lt_of_block F1.out)
 obtain ⟨rest0, hr0, hvr⟩ := step_run w Br b p hp hb
 have HR0 := hid hr0
 have HVR := hid hvr
 clear h hu hb7 hbr hr0 hvr
 go_enter Tryz.func85, Tryz.ntmps85
 go_wp2_with fail
 refine wp_scope_labels (JS w Br b p) ?_ ?_
 ·go_wp2_with fail
  refine (NM.out p _ H1.out hp).mono ?_
  rintro e w2 ⟨n, ok, rfl, o2, hr⟩
  have HR := hid hr
  have O2 := hid o2
  clear o2 hr
  have F2 := hid (heap_alloc_new w2 (.cells #[.string ⟨n.toArray⟩, .slice none 0 0] 106))
  have hb3 : Below w2.heap.size w2 (w2.alloc (.cells #[.string ⟨n.toArray⟩, .slice none 0 0] 106)) := (Below.refl _ _).alloc (Nat.le_refl _) _
  have ST3 := hid (show KeySt w Br w2.heap.size b p n (b.size + 2) (.bool ok) (w2.alloc (.cells #[.string ⟨n.toArray⟩, .slice none 0 0] 106)) from by
   refine ⟨ok, .slice none 0 0, [], rfl, ⟨(hb3.block _ (Nat.lt_of_lt_of_le LT1.out O2.out.size)).trans ((O2.out.block _ LT1.out (by have := HBR.out; simp; omega)).trans F1.out), F2.out, World.ownsRow_nil _ _ _ _, (O1.out.trans O2.out).below hb3, Nat.lt_of_lt_of_le LT1.out O2.out.size, HBR.out⟩, ?_⟩
   rcases HR.out with ⟨rfl, q, h1, h2, h3, h4⟩ | ⟨rfl, h1, q, er, ea, hne, h2⟩
   ·exact Or.inl ⟨rfl, q, h2.below hb3, name_q h1 h3 hp, h3, utfB_name h1 HU.out, stepP_eq h1, Nat.zero_le _, by omega⟩
   ·exact Or.inr ⟨rfl, stepP_none h1, q, er, ea, hne, h2.below hb3⟩)
  clear hb3
  go_wp2_with fail
  go_step3
  rename_i K hK
  refine hK _ _ ?_
  refine wp_sameS (HVR.out (b.size + 2) _ _ ⟨w2.heap.size, n, .bool ok, ⟨rfl, rfl, rfl, rfl, rfl, rfl⟩, ST3.out⟩ _ ?_) (HR0.out.symm.trans rfl)
  exact fun n' a' w' hlt hj => ⟨n', hj⟩
 ·intro l n a W hJ
  match l, hJ with
  | 0, hJ => exact ⟨.seq .skip rest0, HR0.out, wp_skip_seqS (HVR.out n a W hJ _ (fun n' a' w' hlt hj => ⟨n', hlt, hj⟩))⟩
  | l + 1, hJ => exact hJ.elim
end Go.Proofs.YtbbmdbolkicpcaaGreatDoor
namespace Go.Proofs.YtbbmdbolkicpcaaGreatDoor
open Go.RowKit Go.Lib
def encSt : Enc (Stp × (Option Addr × Nat)) 2 where
 enc := fun z => [.string ⟨z.1.1.toArray⟩, .slice z.2.1 z.1.2.length z.2.2]
 len := fun _ => rfl
 one := fun x u hu => by simp at hu; rcases hu with rfl | rfl <;> rfl
theorem infoSt : (Tryz.prog.info? 106).map (fun i => (i.zero, i.size, i.bytes)) = some (some (.agg #[.string ⟨#[]⟩, .slice none 0 0]), 2, 40) := by kernel_rfl
def keysV (z : Stp × (Option Addr × Nat)) : Value := .slice z.2.1 z.1.2.length z.2.2
def KDis (x y : Stp × (Option Addr × Nat)) : Prop := ∀ k, (keysV x).ownBlock = some k → (keysV y).ownBlock ≠ some k
def OwnSt (w : World) (B : Nat) (v : Value) (l : List Stp) : Prop := ∃ zs : List (Stp × (Option Addr × Nat)), zs.map (·.1) = l ∧ OwnL encSt 106 w B v zs ∧ (∀ z ∈ zs, OwnP w B (keysV z) z.1.2) ∧ zs.Pairwise KDis
theorem P2_rowT {W : World} {B : Nat} {z0 z1 : Value} {ty : TypeId} (a0 a1 : Value) (h : W.heap[B]? = some (.cells #[z0, z1] ty (0, 0))) : (P2 W B a0 a1).heap[B]? = some (.cells #[a0, a1] ty (0, 0)) := by
 unfold P2
 rw [heap_setCell_same _ _ _ _ _ _ (heap_setCell_same _ _ _ _ _ _ h)]; simp
theorem P2_below {B b : Nat} {w W : World} (a0 a1 : Value) (h : Below B w W) (hb : B ≤ b) : Below B w (P2 W b a0 a1) :=
 (h.setCell (p := ⟨b, 0, none⟩) hb a0).setCell (p := ⟨b, 1, none⟩) hb a1
theorem P2_own {W : World} {b base size n : Nat} {e : TypeId} {v : Value} {xs : List Value} (a0 a1 : Value) (h : W.ownsRow base e size v n xs) (hb : v.ownBlock ≠ some b) : (P2 W b a0 a1).ownsRow base e size v n xs :=
 own_set (own_set h hb 0 a0) hb 1 a1
theorem parse_ret {V : World} {Pb : Nat} {v : Value} {e a : Int} (hr : V.heap[Pb]? = some (.cells #[.int .i64 e, .int .i64 a] 77 (0, 0))) {Q : Ending → World → Prop} {act : Act} (hd : act.defers = [])
  (h2 : act.tmps.getD 2 undef = v) (h3 : act.tmps.getD 3 undef = .pointer (some ⟨Pb, 0, none⟩)) (hQ : Q (.returned (.tuple #[v, .agg #[.int .i64 e, .int .i64 a]])) V) :
  bodyPost Tryz.prog Tryz.f46 Q Exit.ret act V := by
 obtain ⟨e0, e1, _, _, _⟩ := box2_cells hr
 refine bodyPost_ret (v := .tuple #[v, .agg #[.int .i64 e, .int .i64 a]]) ?_ hd hQ
 obtain ⟨tmps, defers⟩ := act
 simp only [Array.getD_eq_getD_getElem?] at h2 h3
 simp [results, Tryz.results46, go_sem, h2, h3, e0, e1]
structure PaSt (w : World) (s : Str) (Rb : Nat) (W : World) (v : Value) (zs : List (Stp × (Option Addr × Nat))) : Prop where
 pb : W.heap[w.heap.size]? = some (.cells #[.int .i64 0, .int .i64 0] 77 (0, 0))
 own : OwnL encSt 106 W (w.heap.size + 1) v zs
 each : ∀ z ∈ zs, OwnP W (w.heap.size + 1) (keysV z) z.1.2
 bel : Below w.heap.size w W
 lt : w.heap.size < Rb
 dis : zs.Pairwise KDis
section
variable {w W W' : World} {s : Str} {Rb : Nat} {v : Value} {zs : List (Stp × (Option Addr × Nat))}
theorem ownP_monoS {w : World} {B C : Nat} {v : Value} {l : List (Str × Str)} (h : OwnP w B v l) (hc : C ≤ B) : OwnP w C v l := by
 unfold OwnP World.ownsRow at *
 refine ⟨h.1, ?_⟩
 rcases h.2 with h | ⟨g, cap, cur, h1, h2, h3⟩
 ·exact Or.inl h
 ·exact Or.inr ⟨g, cap, cur, h1, Nat.le_trans hc h2, h3⟩
theorem ne_kinds {W : World} {B1 B2 k1 k2 n1 n2 : Nat} {e1 e2 : TypeId} {v1 v2 : Value} {x1 x2 : List Value} (h1 : W.ownsRow B1 e1 k1 v1 n1 x1) (h2 : W.ownsRow B2 e2 k2 v2 n2 x2) (hne : e1 ≠ e2) : v1.ownBlock = none ∨ v1.ownBlock ≠ v2.ownBlock := by
 cases hk : v1.ownBlock with
 | none => exact Or.inl rfl
 | some k =>
  refine Or.inr (fun e => ?_)
  rcases h1.2 with ⟨a, _⟩ | ⟨g, cap, cur, a, _, hg, _⟩
  ·rw [a] at hk; cases hk
  ·rw [a] at hk; cases hk
   rcases h2.2 with ⟨a2, _⟩ | ⟨g2, cap2, cur2, a2, _, hg2, _⟩
   ·rw [a2] at e; cases e
   ·rw [a2] at e; cases e
    rw [hg] at hg2; cases hg2; exact hne rfl
theorem PaSt.step (h : PaSt w s Rb W v zs) {b : ByteArray} {q e : Nat} {a : Int} (hr : PRd W Rb b q e a) (o : Only Rb W W') : PaSt w s Rb W' v zs := by
 have hlt := h.lt
 unfold PRd at hr
 refine ⟨(o.block _ (lt_of_block h.pb) (by simp; omega)).trans h.pb, World.ownsRow.kept h.own o (Or.inr (own_type h.own hr (by decide))), fun z hz => World.ownsRow.kept (h.each z hz) o (Or.inr (own_type (h.each z hz) hr (by decide))), ?_, hlt, h.dis⟩
 exact h.bel.grown o h.bel.size (fun k hk => by cases hk; omega)
theorem PaSt.below (h : PaSt w s Rb W v zs) (hb : Below W.heap.size W W') : PaSt w s Rb W' v zs :=
 ⟨(hb.block _ (lt_of_block h.pb)).trans h.pb, h.own.below hb, fun z hz => own_below (h.each z hz) hb, h.bel.then hb, h.lt, h.dis⟩
theorem PaSt.push (h : PaSt w s Rb W v zs) {v' : Value} {z : Stp × (Option Addr × Nat)} (o : OwnL encSt 106 W' (w.heap.size + 1) v' (zs ++ [z])) (gr : W.grownBy W' v.ownBlock) (hz : OwnP W (w.heap.size + 1) (keysV z) z.1.2) (hn : ∀ x ∈ zs, KDis x z) : PaSt w s Rb W' v' (zs ++ [z]) := by
 have hlt := h.lt
 have n1 : v.ownBlock ≠ some w.heap.size := own_type h.own h.pb (by decide)
 refine ⟨(gr.block _ (lt_of_block h.pb) (Ne.symm n1)).trans h.pb, o, fun x hx => ?_, h.bel.grown gr h.bel.size (fun k hk => by have := (World.ownsRow.lt h.own k hk).1; omega), hlt, List.pairwise_append.2 ⟨h.dis, List.pairwise_singleton _ _, fun a ha b hb => by rw [List.mem_singleton.1 hb]; exact hn a ha⟩⟩
 rcases List.mem_append.1 hx with hx | hx
 ·exact World.ownsRow.kept (h.each x hx) gr (ne_kinds (h.each x hx) h.own (by decide))
 ·rw [List.mem_singleton.1 hx]
  exact World.ownsRow.kept hz gr (ne_kinds hz h.own (by decide))
theorem PaSt.rd (h : PaSt w s Rb W v zs) {b : ByteArray} {q e : Nat} {a : Int} (hr : PRd W Rb b q e a) (gr : W.grownBy W' v.ownBlock) : PRd W' Rb b q e a := by
 unfold PRd at *
 exact (gr.block _ (lt_of_block hr) (Ne.symm (own_type h.own hr (by decide)))).trans hr
theorem PaSt.done (h : PaSt w s Rb W v zs) (a0 a1 : Value) : OwnSt (P2 W w.heap.size a0 a1) w.heap.size v (zs.map (·.1)) := by
 refine ⟨zs, rfl, (OwnL.mono (show OwnL encSt 106 (P2 W w.heap.size a0 a1) (w.heap.size + 1) v zs from P2_own a0 a1 h.own (own_type h.own h.pb (by decide))) (Nat.le_succ _)), fun z hz => ?_, h.dis⟩
 exact ownP_monoS (show OwnP (P2 W w.heap.size a0 a1) (w.heap.size + 1) (keysV z) z.1.2 from P2_own a0 a1 (h.each z hz) (own_type (h.each z hz) h.pb (by decide))) (Nat.le_succ _)
end
def ParseOut (w : World) (s : Str) (x : Ending) (w' : World) : Prop :=
  ((∃ l v, pathP s = some l ∧ x = .returned (.tuple #[v, .agg #[.int .i64 0, .int .i64 0]]) ∧ OwnSt w' w.heap.size v l) ∨
   (pathP s = none ∧ ∃ (er : Nat) (a : Int), er ≠ 0 ∧ x = .returned (.tuple #[.slice none 0 0, .agg #[.int .i64 er, .int .i64 a]]))) ∧ Below w.heap.size w w'
end Go.Proofs.YtbbmdbolkicpcaaGreatDoor
namespace Go.Proofs.YtbbmdbolkicpcaaGreatDoor
open Go.RowKit Go.Lib
theorem pstep_one (Br : Nat) (b : ByteArray) (p : Nat) (w : World) (h : PRd w Br b p 0 0) (hp : p ≤ b.size) (hb : b.size ≤ 512) (hu : utfB (b.data.toList.drop p) = true) :
    Calls Tryz.prog 85 #[.pointer (some ⟨Br, 0, none⟩)] w fun x w' => ∃ (n : Str) (ax : Option Addr) (lx cx : Nat) (ok : Bool), x = .returned (.tuple #[.agg #[.string ⟨n.toArray⟩, .slice ax lx cx], .bool ok]) ∧ Only Br w w' ∧
      ((ok = true ∧ ∃ st a c q, stepP (b.data.toList.drop p) = some (st, b.data.toList.drop q) ∧ n = st.1 ∧ ax = a ∧ lx = st.2.length ∧ cx = c ∧ OwnP w' w.heap.size (keysV (st, (a, c))) st.2 ∧ PRd w' Br b q 0 0 ∧ q ≤ b.size ∧ p < q ∧ utfB (b.data.toList.drop q) = true) ∨
       (ok = false ∧ stepP (b.data.toList.drop p) = none ∧ ∃ q e a, e ≠ 0 ∧ PRd w' Br b q e a)) := by
  refine (pstep_any Br b p w h hp hb hu).mono fun x w' hr => ?_
  rcases hr with ⟨st, r, q, kv, h1, h2, h3, h4, h5, h6, h7, h8, h9⟩ | ⟨h1, ⟨n, a, l, c, h2⟩, h3, h4⟩
  · obtain ⟨a, c, rfl⟩ := own_sliceP h3
    exact ⟨_, _, _, _, true, h2, h9, Or.inl ⟨rfl, st, a, c, q, by rw [h1, h7], rfl, rfl, rfl, rfl, h3, h4, h5, h6, by rw [← h7]; exact h8⟩⟩
  · exact ⟨n, a, l, c, false, h2, h4, Or.inr ⟨rfl, h1, h3⟩⟩
theorem isEmpty_ne {s : Str} (h : s ≠ []) : List.isEmpty s = false := by cases s with
 | nil => exact absurd rfl h
 | cons c t => rfl
theorem stepsP_no {f : Nat} {l : List Stp} {s : Str} (h : stepP s = none) : stepsP f l s = none := by
 cases f with
 | zero => rfl
 | succ f => simp only [stepsP, h]
set_option maxRecDepth 100000 in
set_option maxHeartbeats 16000000 in
theorem pparse_any (s : Str) (w : World) (hs : s.length ≤ maxLen) : Calls Tryz.prog 46 #[.string ⟨s.toArray⟩] w fun x w' => ParseOut w s x w' := by
 have F0 := hid (heap_alloc_new w (.cells #[.int .i64 0, .int .i64 0] 77))
 have hb0 : Below w.heap.size w (w.alloc (.cells #[.int .i64 0, .int .i64 0] 77)) := (Below.refl _ _).alloc (Nat.le_refl _) _
 have B0 := hid hb0
 have UC := hid (fun W => ucheck_any s W hs)
 have hsz : (⟨s.toArray⟩ : ByteArray).size = s.length := Lib.size_eq _
 have HSZ := hid hsz
 clear hb0
 by_cases h512 : 512 < s.length
 ·have hli : (512 : Int) < (s.length : Int) := by omega
  have HNO := hid (show pathP s = none by unfold pathP; rw [if_pos h512])
  obtain ⟨z0, z1, zf0, zf1, zlt⟩ := box2_cells F0.out
  clear hsz h512
  go_enter Tryz.func46, Tryz.ntmps46
  go_upto_region 1 with fail
  generalize w.alloc (.cells #[.int .i64 0, .int .i64 0] 77) = w1 at *
  go_wp2_with fail
  refine parse_ret (Pb := w.heap.size) (e := 3) (a := 512) ?_ rfl rfl rfl ?_
  ·exact P2_rowT (.int .i64 3) (.int .i64 512) F0.out
  ·exact ⟨Or.inr ⟨HNO.out, 3, 512, by decide, rfl⟩, P2_below _ _ B0.out (Nat.le_refl _)⟩
 ·have hli : ¬ (512 : Int) < (s.length : Int) := by omega
  have H512 := hid h512
  clear hsz
  go_enter Tryz.func46, Tryz.ntmps46
  go_upto_region 1 with fail
  generalize w.alloc (.cells #[.int .i64 0, .int .i64 0] 77) = w1 at *
  go_wp2_with fail
  refine (UC.out w1).mono ?_
  rintro e w2 ⟨⟨er, at', rfl, hut⟩, hb2⟩
  have HUT := hid hut
  have F2 := hid ((hb2.block _ (lt_of_block F0.out)).trans F0.out)
  have B2 := hid (B0.out.then hb2)
  clear hut hb2 h512 hli
  have hb3 : Below w2.heap.size w2 (w2.alloc (.cells #[.int .i64 er, .int .i64 at'] 77)) := (Below.refl _ _).alloc (Nat.le_refl _) _
  have F3 := hid ((hb3.block _ (lt_of_block F2.out)).trans F2.out)
  have B3 := hid (B2.out.then hb3)
  have G3 := hid (heap_alloc_new w2 (.cells #[.int .i64 er, .int .i64 at'] 77))
  have LT3 := hid (show w.heap.size < w2.heap.size from lt_of_block F2.out)
  clear hb3
  go_upto_region 4 with fail
  generalize w2.alloc (.cells #[.int .i64 er, .int .i64 at'] 77) = w3 at *
  clear F2 B2
  obtain ⟨z0, z1, zf0, zf1, zlt⟩ := box2_cells F3.out
  obtain ⟨y0, y1, yf0, yf1, ylt⟩ := box2_cells G3.out
  rcases HUT.out with ⟨hu, rfl, rfl⟩ | ⟨hu, rfl⟩
  ·by_cases hemp : s = []
   ·subst hemp
    go_wp2_with fail
    first
     | go_region
     | fail "r5"
    all_goals
     go_wp2_with fail
     refine parse_ret (Pb := w.heap.size) (e := 0) (a := 0) ?_ rfl rfl rfl ?_
     ·exact P2_rowT (.int .i64 0) (.int .i64 0) F3.out
     ·exact ⟨Or.inl ⟨[], _, by unfold pathP; rw [if_neg H512.out, hu]; rfl, rfl, [], rfl, OwnL.nil _ _ _ _, (fun z hz => by cases hz), List.Pairwise.nil⟩, (P2_below _ _ B3.out (Nat.le_refl _)).drew⟩
   ·have hne : List.isEmpty s = false := isEmpty_ne hemp
    go_wp2_with fail
    have HPP := hid (show pathP s = stepsP 64 [] s by unfold pathP; rw [if_neg H512.out, hu]; simp [hemp])
    have hbr : Below w3.heap.size w3 (w3.alloc (.cells #[.string ⟨s.toArray⟩, .int .i64 0, .int .i64 0, .int .i64 0] 147)) := (Below.refl _ _).alloc (Nat.le_refl _) _
    have HRD0 := hid (show PRd (w3.alloc (.cells #[.string ⟨s.toArray⟩, .int .i64 0, .int .i64 0, .int .i64 0] 147)) w3.heap.size ⟨s.toArray⟩ 0 0 0 from heap_alloc_new w3 _)
    have ST0 := hid (show PaSt w s w3.heap.size (w3.alloc (.cells #[.string ⟨s.toArray⟩, .int .i64 0, .int .i64 0, .int .i64 0] 147)) (.slice none 0 0) [] from
     ⟨(hbr.block _ (lt_of_block F3.out)).trans F3.out, OwnL.nil _ _ _ _, (fun z hz => by cases hz), B3.out.then hbr, lt_of_block F3.out, List.Pairwise.nil⟩)
    have HU0 := hid hu
    clear hbr z0 z1 zf0 zf1 zlt y0 y1 yf0 yf1 ylt hne hu hemp HUT
    generalize w3.alloc (.cells #[.string ⟨s.toArray⟩, .int .i64 0, .int .i64 0, .int .i64 0] 147) = w4 at *
    have SP := hid (fun q W (h : PRd W w3.heap.size ⟨s.toArray⟩ q 0 0) (hq : q ≤ s.length) (hu : utfB (s.drop q) = true) => pstep_one w3.heap.size ⟨s.toArray⟩ q W h (by rw [HSZ.out]; exact hq) (by rw [HSZ.out]; have := H512.out; omega) hu)
    have NX := hid (fun q W (h : PRd W w3.heap.size ⟨s.toArray⟩ q 0 0) (hq : q ≤ s.length) => (show Calls Tryz.prog 86 #[.pointer (some ⟨w3.heap.size, 0, none⟩), .int .u8 47] W _ from pnext_two 47 w3.heap.size ⟨s.toArray⟩ q W h (by rw [HSZ.out]; exact hq) (by rw [HSZ.out]; have := H512.out; omega)))
    have FA := hid (fun q e a W (h : PRd W w3.heap.size ⟨s.toArray⟩ q 0 0) => pfail_any w3.heap.size ⟨s.toArray⟩ q 0 0 e a W h)
    generalize w3.heap.size = Rb at *
    go_loopg [6] 65 (fun g v6 W => ∃ (zs : List (Stp × (Option Addr × Nat))) (q : Nat), PaSt w s Rb W v6 zs ∧ PRd W Rb ⟨s.toArray⟩ q 0 0 ∧ q ≤ s.length ∧ utfB (s.drop q) = true ∧ pathP s = stepsP (64 - zs.length) (zs.map (·.1)) (s.drop q) ∧ zs.length ≤ 64 ∧ 65 ≤ zs.length + g)
    case atStart => exact ⟨[], 0, ST0.out, HRD0.out, Nat.zero_le _, HU0.out, by rw [HPP.out]; rfl, Nat.zero_le _, Nat.le_refl _⟩
    case round =>
     obtain ⟨zs, q, st, rd, hq, hu, hpp, h64, hg⟩ := hrel
     rename World => w5
     have ST5 := hid st
     have RD5 := hid rd
     have HU5 := hid hu
     have HP5 := hid hpp
     have HG := hid hg
     have HQ := hid hq
     have HZ := hid h64
     clear st rd hu hpp hg hq ST0 HRD0 HU0 HPP h64
     obtain ⟨av, cv, rfl, hcap⟩ := ST5.out.own.slice
     clear hcap
     obtain ⟨c0, c1, c2, c3, f1, f2, f3, lt⟩ := RD5.out.cells
     by_cases hfull : zs.length = 64
     ·have HNO := hid (show pathP s = none by rw [HP5.out, hfull]; rfl)
      have hz64 : ((zs.length : Int) == 64) = true := by rw [beq_iff_eq]; omega
      clear hfull
      go_wp2_with (go_at_call 84; refine (FA.out q 3 q w5 RD5.out).mono ?_; rintro e w6 ⟨rfl, h6, o6⟩)
      have ST6 := hid (ST5.out.step RD5.out o6)
      have H6 := hid h6
      clear h6 o6 c0 c1 c2 c3 f1 f2 f3 lt
      obtain ⟨c0, c1, c2, c3, f1, f2, f3, lt⟩ := H6.out.cells
      obtain ⟨z0, z1, zf0, zf1, zlt⟩ := box2_cells ST6.out.pb
      go_wp2_with fail
      first
       | go_region
       | fail "r10"
      all_goals
       go_wp2_with fail
       refine parse_ret (Pb := w.heap.size) (e := 3) (a := q) ?_ rfl rfl rfl ?_
       ·exact P2_rowT (.int .i64 3) (.int .i64 q) ST6.out.pb
       ·exact ⟨Or.inr ⟨HNO.out, 3, q, by decide, rfl⟩, (P2_below _ _ ST6.out.bel (Nat.le_refl _)).drew⟩
     ·have hz64 : ((zs.length : Int) == 64) = false := by rw [beq_eq_false_iff_ne]; omega
      have HL := hid (show zs.length < 64 by have := HZ.out; omega)
      clear hfull
      go_wp2_with fail
      refine (SP.out q w5 RD5.out HQ.out HU5.out).mono ?_
      rintro e w6 ⟨nx, ax, lx, cx, ok, rfl, o6, hst⟩
      have ST6 := hid (ST5.out.step RD5.out o6)
      have HSP := hid hst
      have HW5 := hid ST5.out.bel.size
      clear c0 c1 c2 c3 f1 f2 f3 lt o6 hst
      have hb7 : Below w6.heap.size w6 (w6.alloc (.cells #[.string ⟨nx.toArray⟩, .slice ax lx cx] 106)) := (Below.refl _ _).alloc (Nat.le_refl _) _
      have FX := hid (heap_alloc_new w6 (.cells #[.string ⟨nx.toArray⟩, .slice ax lx cx] 106))
      have ST7 := hid (ST6.out.below hb7)
      have HB7 := hid hb7
      clear hb7
      cases ok with
      | false =>
       obtain ⟨hno, q6, er, ea, hne, hrd⟩ : stepP (s.drop q) = none ∧ ∃ q e a, e ≠ 0 ∧ PRd w6 Rb ⟨s.toArray⟩ q e a := by
        rcases HSP.out with ⟨h, _⟩ | ⟨_, h⟩
        ·cases h
        ·exact h
       have HNO := hid (show pathP s = none by rw [HP5.out]; exact stepsP_no hno)
       have HRD := hid (hrd.below HB7.out)
       have HNE := hid hne
       clear hno hrd hne HSP
       clear ST6 FX HB7
       obtain ⟨c0, c1, c2, c3, f1, f2, f3, lt⟩ := HRD.out.cells
       obtain ⟨z0, z1, zf0, zf1, zlt⟩ := box2_cells ST7.out.pb
       go_upto_region 12 with fail
       generalize w6.alloc (.cells #[.string ⟨nx.toArray⟩, .slice ax lx cx] 106) = w7 at *
       go_wp2_with fail
       first
        | go_region
        | fail "r13"
       all_goals
        go_wp2_with fail
        refine parse_ret (Pb := w.heap.size) (e := er) (a := ea) ?_ rfl rfl rfl ?_
        ·exact P2_rowT (.int .i64 er) (.int .i64 ea) ST7.out.pb
        ·exact ⟨Or.inr ⟨HNO.out, er, ea, HNE.out, rfl⟩, (P2_below _ _ ST7.out.bel (Nat.le_refl _)).drew⟩
      | true =>
       obtain ⟨xs, xa, xc, q6, hsp, rfl, rfl, rfl, rfl, hown, hrd, hq6, hqq, hu6⟩ : ∃ st a c q6, stepP (s.drop q) = some (st, s.drop q6) ∧ nx = st.1 ∧ ax = a ∧ lx = st.2.length ∧ cx = c ∧ OwnP w6 w5.heap.size (keysV (st, (a, c))) st.2 ∧ PRd w6 Rb ⟨s.toArray⟩ q6 0 0 ∧ q6 ≤ (⟨s.toArray⟩ : ByteArray).size ∧ q < q6 ∧ utfB (s.drop q6) = true := by
        rcases HSP.out with ⟨_, h⟩ | ⟨h, _⟩
        ·exact h
        ·cases h
       rw [HSZ.out] at hq6
       have HOX := hid (own_below (show w6.ownsRow (w.heap.size + 1) 76 2 _ _ _ from ownP_monoS hown (by have := lt_of_block ST5.out.pb; omega)) HB7.out)
       have HDX := hid (show ∀ x ∈ zs, KDis x (xs, (ax, cx)) from fun x hx k hk e => by have h1 := (World.ownsRow.lt (ST5.out.each x hx) k hk).2; have h2 := (World.ownsRow.lt hown k e).1; omega)
       have HRD := hid (hrd.below HB7.out)
       have HQ6 := hid hq6
       have HU6 := hid hu6
       have HPX := hid (show pathP s = if s.drop q6 = [] then some (zs.map (·.1) ++ [xs]) else match takeB 47 (s.drop q6) with
        | none => none
        | some r' => stepsP (64 - (zs.length + 1)) (zs.map (·.1) ++ [xs]) r' by
        rw [HP5.out, show 64 - zs.length = (64 - (zs.length + 1)) + 1 by have := HL.out; omega]
        simp only [stepsP, hsp]
        rfl)
       clear hsp hown hrd hq6 hqq hu6 HSP ST6
       simp only [keysV] at *
       obtain ⟨c0, c1, c2, c3, f1, f2, f3, lt⟩ := HRD.out.cells
       obtain ⟨z0, z1, zf0, zf1, zlt⟩ := box2_cells ST7.out.pb
       obtain ⟨x0, x1, xf0, xf1, xlt⟩ := box2_cells FX.out
       go_upto_region 12 with fail
       generalize w6.alloc (.cells #[.string ⟨xs.1.toArray⟩, .slice ax xs.2.length cx] 106) = w7 at *
       have HLA := hid (show zs.length + 1 ≤ maxLen by have := HL.out; unfold maxLen; omega)
       have HLB := hid (show (zs.length + 1) * 40 ≤ 140737488355328 by have := HL.out; omega)
       have HSZ7 := hid (show w.heap.size + 1 ≤ w7.heap.size by have := lt_of_block ST7.out.pb; omega)
       by_cases hend : q6 = s.length
       ·have heq : ((q6 : Int) == (s.length : Int)) = true := by rw [beq_iff_eq]; omega
        have HE := hid (show pathP s = some (zs.map (·.1) ++ [xs]) by rw [HPX.out, if_pos (List.drop_eq_nil_of_le (by omega))])
        clear hend HPX c0 c1 c2 c3 f1 f2 f3 lt z0 z1 zf0 zf1 zlt
        go_wp2_with (at_builtin; refine wpList_pushL (E := encSt) rfl (.tmp 50) (.tmp 52) rfl Tryz.underlying99 infoSt rfl (by decide) (w.heap.size + 1) _ zs (xs, (ax, cx)) rfl ST7.out.own rfl HLA.out HLB.out HSZ7.out #[.string ⟨xs.1.toArray⟩, .slice ax xs.2.length cx] rfl ?_; intro v8 w8 own8 gr8 mv8; obtain ⟨a8, c8, rfl, hc8⟩ := own8.slice; rw [show (zs ++ [(xs, (ax, cx))]).length = zs.length + 1 from by simp] at own8 hc8 ⊢; have ST8 := hid (ST7.out.push own8 gr8 HOX.out HDX.out); have RD8 := hid (ST7.out.rd HRD.out gr8); clear own8 gr8 mv8 hc8; obtain ⟨c0, c1, c2, c3, f1, f2, f3, lt⟩ := RD8.out.cells; obtain ⟨z0, z1, zf0, zf1, zlt⟩ := box2_cells ST8.out.pb)
        refine parse_ret (Pb := w.heap.size) (e := 0) (a := 0) ?_ rfl rfl rfl ?_
        ·exact P2_rowT (.int .i64 0) (.int .i64 0) ST8.out.pb
        ·exact ⟨Or.inl ⟨_, _, HE.out, rfl, by have := ST8.out.done (.int .i64 0) (.int .i64 0); rwa [List.map_append] at this⟩, P2_below _ _ ST8.out.bel (Nat.le_refl _)⟩
       ·have heq : ((q6 : Int) == (s.length : Int)) = false := by rw [beq_eq_false_iff_ne]; omega
        have HE := hid (show pathP s = match takeB 47 (s.drop q6) with
         | none => none
         | some r' => stepsP (64 - (zs.length + 1)) (zs.map (·.1) ++ [xs]) r' by
         rw [HPX.out, if_neg (fun e => hend (by have := congrArg List.length e; simp at this; have := HQ6.out; omega))])
        clear hend HPX c0 c1 c2 c3 f1 f2 f3 lt z0 z1 zf0 zf1 zlt
        go_wp2_with (at_builtin; refine wpList_pushL (E := encSt) rfl (.tmp 50) (.tmp 52) rfl Tryz.underlying99 infoSt rfl (by decide) (w.heap.size + 1) _ zs (xs, (ax, cx)) rfl ST7.out.own rfl HLA.out HLB.out HSZ7.out #[.string ⟨xs.1.toArray⟩, .slice ax xs.2.length cx] rfl ?_; intro v8 w8 own8 gr8 mv8; obtain ⟨a8, c8, rfl, hc8⟩ := own8.slice; rw [show (zs ++ [(xs, (ax, cx))]).length = zs.length + 1 from by simp] at own8 hc8 ⊢; have ST8 := hid (ST7.out.push own8 gr8 HOX.out HDX.out); have RD8 := hid (ST7.out.rd HRD.out gr8); clear own8 gr8 mv8 hc8; obtain ⟨c0, c1, c2, c3, f1, f2, f3, lt⟩ := RD8.out.cells; obtain ⟨z0, z1, zf0, zf1, zlt⟩ := box2_cells ST8.out.pb)
        refine (NX.out q6 w8 RD8.out HQ6.out).mono ?_
        rintro e w9 ⟨o9, okx, rfl, hx⟩
        have ST9 := hid (ST8.out.step RD8.out o9)
        clear o9 c0 c1 c2 c3 f1 f2 f3 lt z0 z1 zf0 zf1 zlt
        cases okx with
        | false =>
         obtain ⟨htb, hrd⟩ : takeB 47 (s.drop q6) = none ∧ PRd w9 Rb ⟨s.toArray⟩ q6 0 0 := by
          rcases hx with ⟨_, h1, h2⟩ | ⟨h, _⟩
          ·exact ⟨h1, h2⟩
          ·cases h
         have HNO := hid (show pathP s = none by rw [HE.out, htb])
         have HRD9 := hid hrd
         clear hx htb hrd
         obtain ⟨c0, c1, c2, c3, f1, f2, f3, lt⟩ := HRD9.out.cells
         go_wp2_with (go_at_call 84; refine (FA.out q6 160 q6 w9 HRD9.out).mono ?_; rintro e w10 ⟨rfl, h10, o10⟩; have ST10 := hid (ST9.out.step HRD9.out o10); have H10 := hid h10; clear h10 o10 c0 c1 c2 c3 f1 f2 f3 lt; obtain ⟨c0, c1, c2, c3, f1, f2, f3, lt⟩ := H10.out.cells; obtain ⟨z0, z1, zf0, zf1, zlt⟩ := box2_cells ST10.out.pb)
         first
          | go_region
          | fail "r19"
         all_goals
          go_wp2_with fail
          refine parse_ret (Pb := w.heap.size) (e := 160) (a := q6) ?_ rfl rfl rfl ?_
          ·exact P2_rowT (.int .i64 160) (.int .i64 q6) ST10.out.pb
          ·exact ⟨Or.inr ⟨HNO.out, 160, q6, by decide, rfl⟩, (P2_below _ _ ST10.out.bel (Nat.le_refl _)).drew⟩
        | true =>
         obtain ⟨htb, hq7, hrd⟩ : takeB 47 (s.drop q6) = some (s.drop (q6 + 1)) ∧ q6 < (⟨s.toArray⟩ : ByteArray).size ∧ PRd w9 Rb ⟨s.toArray⟩ (q6 + 1) 0 0 := by
          rcases hx with ⟨h, _⟩ | ⟨_, h1, h2, h3⟩
          ·cases h
          ·exact ⟨h1, h2, h3⟩
         rw [HSZ.out] at hq7
         have HE2 := hid (show pathP s = stepsP (64 - (zs.length + 1)) (zs.map (·.1) ++ [xs]) (s.drop (q6 + 1)) by rw [HE.out, htb])
         have HU7 := hid (utfB_take (by decide) htb HU6.out)
         have HRD9 := hid hrd
         clear hx htb hrd HE
         go_wp2_with fail
         go_roundg (gk - 1)
         case measure => have := HG.out; have := HL.out; omega
         case rel => exact ⟨zs ++ [(xs, (ax, cx))], q6 + 1, ST9.out, HRD9.out, by omega, HU7.out, by rw [HE2.out]; simp, by have := HL.out; simp; omega, by have := HG.out; have := HL.out; simp; omega⟩
  ·have HNO := hid (show pathP s = none by unfold pathP; rw [if_neg H512.out, if_pos hu])
   go_wp2_with fail
   first
    | go_region
    | fail "r5"
   all_goals
    go_wp2_with fail
    refine parse_ret (Pb := w.heap.size) (e := 6) (a := at') ?_ rfl rfl rfl ?_
    ·exact P2_rowT (.int .i64 6) (.int .i64 at') F3.out
    ·exact ⟨Or.inr ⟨HNO.out, 6, at', by decide, rfl⟩, (P2_below _ _ B3.out (Nat.le_refl _)).drew⟩
theorem pcheck_any (s : Str) (w : World) (hs : s.length ≤ maxLen) : Calls Tryz.prog 68 #[.string ⟨s.toArray⟩] w fun x w' => (∃ (er : Nat) (a : Int), x = .returned (.agg #[.int .i64 er, .int .i64 a]) ∧ (er = 0 ↔ pathB s = true)) ∧ Below w.heap.size w w' := by
 have F0 := hid (heap_alloc_new w (.cells #[.int .i64 0, .int .i64 0] 77))
 have hb0 : Below w.heap.size w (w.alloc (.cells #[.int .i64 0, .int .i64 0] 77)) := (Below.refl _ _).alloc (Nat.le_refl _) _
 have B0 := hid hb0
 have PP := hid (fun W => (show Calls Tryz.prog 46 #[.string ⟨s.toArray⟩] W fun x w' => ∃ (v : Value) (er : Nat) (a : Int), x = .returned (.tuple #[v, .agg #[.int .i64 er, .int .i64 a]]) ∧ (er = 0 ↔ pathB s = true) ∧ Below W.heap.size W w' from
  (pparse_any s W hs).mono (by
   rintro x w' ⟨h, hb⟩
   rcases h with ⟨l, v, h1, h2, _⟩ | ⟨h1, er, a, h2, h3⟩
   ·exact ⟨v, 0, 0, h2, by unfold pathB; rw [h1]; simp, hb⟩
   ·exact ⟨_, er, a, h3, by unfold pathB; rw [h1]; simp [h2], hb⟩)))
 clear hb0
 go_enter Tryz.func68, Tryz.ntmps68
 go_upto_region 1 with fail
 generalize w.alloc (.cells #[.int .i64 0, .int .i64 0] 77) = w1 at *
 go_wp2_with fail
 refine (PP.out w1).mono ?_
 rintro e w2 ⟨v, er, a, rfl, hi, hb2⟩
 have F2 := hid ((hb2.block _ (lt_of_block F0.out)).trans F0.out)
 have B2 := hid (B0.out.then hb2)
 have HI := hid hi
 have hb3 : Below w2.heap.size w2 (w2.alloc (.cells #[.int .i64 er, .int .i64 a] 77)) := (Below.refl _ _).alloc (Nat.le_refl _) _
 have F3 := hid ((hb3.block _ (lt_of_block F2.out)).trans F2.out)
 have B3 := hid (B2.out.then hb3)
 have G3 := hid (heap_alloc_new w2 (.cells #[.int .i64 er, .int .i64 a] 77))
 clear hb2 hb3 hi F2 B2
 go_upto_region 2 with fail
 generalize w2.alloc (.cells #[.int .i64 er, .int .i64 a] 77) = w3 at *
 obtain ⟨z0, z1, zf0, zf1, zlt⟩ := box2_cells F3.out
 obtain ⟨y0, y1, yf0, yf1, ylt⟩ := box2_cells G3.out
 go_wp2_with fail
 have hr := P2_rowT (.int .i64 er) (.int .i64 a) F3.out
 have hbw := P2_below (.int .i64 er) (.int .i64 a) B3.out (Nat.le_refl w.heap.size)
 change bodyPost _ _ _ _ _ (P2 w3 w.heap.size (.int .i64 er) (.int .i64 a))
 generalize P2 w3 w.heap.size (.int .i64 er) (.int .i64 a) = V at *
 obtain ⟨e0, e1, _, _, _⟩ := box2_cells hr
 exact bodyPost_ret (v := .agg #[.int .i64 er, .int .i64 a]) (by simp [results, Tryz.results68, go_sem, e0, e1]) rfl ⟨⟨er, a, rfl, HI.out⟩, hbw⟩
end Go.Proofs.YtbbmdbolkicpcaaGreatDoor
namespace Go.Proofs.YtbbmdbolkicpcaaGreatDoor
open Go.RowKit Go.Lib Go.Sort Go.Maps Go.WideMaps
theorem OwnE.len {α : Type} {E : El α} {w : World} {b n : Nat} {L : List (Str × α)} (h : OwnE E w b n L) {mt e : TypeId} (hu : Tryz.prog.underlying mt = some (.map 9 e)) (hn : (L.map (·.1)).Nodup) (ty : TypeId) :
  (Builtin.len_ #[mt] ty #[.map (some b)]).run Tryz.prog w = .ok (.int .i64 L.length) w := by
 obtain ⟨m, hown, hat⟩ := h
 have hp := (OwnE.keys hown hat hn).length_eq
 obtain ⟨es, rfl, _⟩ := hown.keysOf
 rw [hown.len hu ty]
 have : Maps.size (DataW.map es) = L.length := by
  rw [List.length_map] at hp
  rw [hp]
  simp [Maps.size, strKeys]
 rw [this]
structure KeptC (B : Nat) (w w' : World) : Prop where
 bel : Below B w w'
 cells : ∀ (k : Nat) (cs : Array Value) (ty : TypeId) (z : Nat × Nat), w.heap[k]? = some (Obj.cells cs ty z) → w'.heap[k]? = some (Obj.cells cs ty z)
section
variable {B : Nat} {w w1 w2 : World}
theorem KeptC.of (hb : Below w.heap.size w w1) (hB : B ≤ w.heap.size) : KeptC B w w1 := ⟨hb.mono hB, fun k cs ty z h => (hb.block k (lt_of_block h)).trans h⟩
theorem KeptC.then (h : KeptC B w w1) (hb : Below w1.heap.size w1 w2) (hB : B ≤ w1.heap.size) : KeptC B w w2 :=
 ⟨h.bel.trans (hb.mono hB), fun k cs ty z hk => (hb.block k (lt_of_block (h.cells k cs ty z hk))).trans (h.cells k cs ty z hk)⟩
theorem KeptC.drew (h : KeptC B w w1) : KeptC B w w1.drew := ⟨h.bel.drew, h.cells⟩
theorem KeptC.drewN (h : KeptC B w w1) (n : Nat) : KeptC B w (w1.drewN n) := ⟨below_drewN h.bel n, h.cells⟩
theorem KeptC.grown (h : KeptC B w w1) {α : Type} {E : El α} {b n : Nat} {L : List (Str × α)} (o : OwnE E w1 b n L) (gr : w1.grownBy w2 (some b)) (hB : B ≤ w1.heap.size) (hb : B ≤ b) : KeptC B w w2 := by
 refine ⟨h.bel.grown gr hB (fun k hk => by cases hk; exact hb), fun k cs ty z hk => ?_⟩
 have h1 := h.cells k cs ty z hk
 obtain ⟨es, ck, hm⟩ := o.isMap
 rw [gr.block k (lt_of_block h1) (by rintro e; cases e; rw [hm] at h1; cases h1)]
 exact h1
end
structure TbIn (B0 : Nat) (W : World) (Bt bv ba bn bp N : Nat) (V : List (Str × Nat)) (t : Tb) : Prop where
 at_ : TbAt W Bt bv ba bn bp N V t
 lo : B0 ≤ Bt ∧ B0 ≤ bv ∧ B0 ≤ ba ∧ B0 ≤ bn ∧ B0 ≤ bp
 each : ∀ p ∈ V, B0 ≤ p.2
section
variable {B0 : Nat} {W W' : World} {Bt bv ba bn bp N : Nat} {V : List (Str × Nat)} {t : Tb}
theorem TbIn.below (h : TbIn B0 W Bt bv ba bn bp N V t) (hb : Below W.heap.size W W') : TbIn B0 W' Bt bv ba bn bp N V t := ⟨h.at_.below hb, h.lo, h.each⟩
theorem TbIn.mono {N' : Nat} (h : TbIn B0 W Bt bv ba bn bp N V t) (hn : N ≤ N') : TbIn B0 W Bt bv ba bn bp N' V t := ⟨h.at_.mono hn, h.lo, h.each⟩
theorem TbIn.box (h : TbIn B0 W Bt bv ba bn bp N V t) : W.cell? ⟨Bt, 0, none⟩ = some (.map (some bv)) ∧ W.cell? ⟨Bt, 1, none⟩ = some (.map (some ba)) ∧ W.cell? ⟨Bt, 2, none⟩ = some (.map (some bn)) ∧ W.cell? ⟨Bt, 3, none⟩ = some (.map (some bp)) ∧ Bt < W.heap.size := by
 have hb := h.at_.box
 exact ⟨by rw [cell_of_row _ _ _ _ _ _ hb]; rfl, by rw [cell_of_row _ _ _ _ _ _ hb]; rfl, by rw [cell_of_row _ _ _ _ _ _ hb]; rfl, by rw [cell_of_row _ _ _ _ _ _ hb]; rfl, lt_of_block hb⟩
theorem TbAt.putAl (h : TbAt W Bt bv ba bn bp N V t) (l : List Rw) (hl : ∀ r ∈ l, r.loc = tRoot) (o : OwnE elSd W' ba (N + 1) (sdL l)) (gr : W.grownBy W' (some ba)) : TbAt W' Bt bv ba bn bp (N + 1) V { t with als := l } := by
 obtain ⟨h1, h2, h3, h5, h6, h8, hV⟩ := h.lo
 have hN : N ≤ N + 1 := Nat.le_succ N
 exact ⟨box_kept h.box h.als gr, (h.vals.kept gr h1).mono hN, o, (h.names.kept gr (Ne.symm h5)).mono hN, (h.paths.kept gr (Ne.symm h6)).mono hN,
  fun p hp => ((h.each p hp).kept gr (hV p hp).2.1).mono hN, h.keys, h.has, hl, h.apart⟩
end
def putAl (t : Tb) (f : Nat) (x : Itm) : List Rw := match findR t.als tRoot x.path with | none => t.als ++ [⟨tRoot, x.path, x.value, f, x.at'⟩] | some _ => t.als
section
variable {t : Tb} {loc : Str} {f : Nat} {x : Itm}
theorem putAl_root (h : ∀ r ∈ t.als, r.loc = tRoot) : ∀ r ∈ putAl t f x, r.loc = tRoot := by
 intro r hr
 unfold putAl at hr
 cases hf : findR t.als tRoot x.path with
 | none =>
  rw [hf] at hr
  rcases List.mem_append.1 hr with hr | hr
  ·exact h r hr
  ·rw [List.mem_singleton.1 hr]
 | some y => rw [hf] at hr; exact h r hr
theorem putAl_sd (h : ∀ r ∈ t.als, r.loc = tRoot) : putL (sdL t.als) x.path (x.value, (f : Int), x.at') = sdL (putAl t f x) := by
 unfold putL putAl
 rw [look_als h]
 cases hf : findR t.als tRoot x.path with
 | none => simp [sdL, sdOf]
 | some y => rfl
theorem item_path (h : x.path = [] ∨ pathB x.path = false) : itemF t loc f x = (2, t) := by unfold itemF; rw [if_pos h]
theorem item_place (h : ¬ (x.path = [] ∨ pathB x.path = false)) (ha : x.alias' = true) (hl : loc ≠ tRoot) : itemF t loc f x = (221, t) := by unfold itemF; rw [if_neg h, if_pos ⟨ha, hl⟩]
theorem item_alias (hr : ∀ r ∈ t.als, r.loc = tRoot) (h : ¬ (x.path = [] ∨ pathB x.path = false)) (ha : x.alias' = true) (hl : loc = tRoot) : itemF t loc f x = if putR (sdL t.als) x.path x.value = true then (0, { t with als := putAl t f x }) else (220, t) := by
 unfold itemF
 rw [if_neg h, if_neg (fun e => e.2 hl), if_pos ha]
 subst hl
 have hR : putR (sdL t.als) x.path x.value = match findR t.als tRoot x.path with | none => true | some y => y.text == x.value := by
  unfold putR
  rw [look_als hr]
  cases findR t.als tRoot x.path <;> rfl
 rw [hR]
 unfold putAl
 cases hf : findR t.als tRoot x.path with
 | none => rfl
 | some y =>
  show (if y.text = x.value then ((0 : Nat), t) else (220, t)) = if (y.text == x.value) = true then (0, t) else (220, t)
  by_cases e : y.text = x.value
  ·rw [if_pos e, if_pos (by rw [e]; exact beq_self_eq_true _)]
  ·rw [if_neg e, if_neg (by rw [beq_iff_eq]; exact e)]
theorem item_old (h : ¬ (x.path = [] ∨ pathB x.path = false)) (ha : x.alias' = false) {r : Rw} (hf : findR t.rows loc x.path = some r) : itemF t loc f x = if r.text = x.value then (0, t) else (220, t) := by
 unfold itemF
 rw [if_neg h, if_neg (by simp [ha]), if_neg (by simp [ha]), hf]
theorem item_new (h : ¬ (x.path = [] ∨ pathB x.path = false)) (ha : x.alias' = false) (hf : findR t.rows loc x.path = none) : itemF t loc f x = if x.path ∈ t.paths then (0, { t with rows := t.rows ++ [⟨loc, x.path, x.value, f, x.at'⟩] })
      else if t.paths.length = 16384 then (3, t)
      else (0, { t with rows := t.rows ++ [⟨loc, x.path, x.value, f, x.at'⟩], paths := t.paths ++ [x.path] }) := by
  unfold itemF
  rw [if_neg h, if_neg (by simp [ha]), if_neg (by simp [ha]), hf]
end
theorem box5_cells {W : World} {B : Nat} {a b c d e : Value} {ty : TypeId} (h : W.heap[B]? = some (.cells #[a, b, c, d, e] ty (0, 0))) :
  W.cell? ⟨B, 0, none⟩ = some a ∧ W.cell? ⟨B, 1, none⟩ = some b ∧ W.cell? ⟨B, 2, none⟩ = some c ∧ W.cell? ⟨B, 3, none⟩ = some d ∧ W.cell? ⟨B, 4, none⟩ = some e ∧ B < W.heap.size :=
 ⟨by rw [cell_of_row _ _ _ _ _ _ h]; rfl, by rw [cell_of_row _ _ _ _ _ _ h]; rfl, by rw [cell_of_row _ _ _ _ _ _ h]; rfl, by rw [cell_of_row _ _ _ _ _ _ h]; rfl, by rw [cell_of_row _ _ _ _ _ _ h]; rfl, lt_of_block h⟩
theorem cell_grown {W W' : World} {b c i : Nat} {v : Value} (gr : W.grownBy W' (some c)) (hlt : b < W.heap.size) (hne : b ≠ c) (h : W.cell? ⟨b, i, none⟩ = some v) : W'.cell? ⟨b, i, none⟩ = some v := by
 rw [World.cell?_of_block (gr.block b hlt (by simpa using hne))]; exact h
theorem keep_said {B0 Bt bv ba bn bp N bi bs : Nat} {W W' : World} {V : List (Str × Nat)} {t : Tb} {p s0 s1 s2 : Value} {c1 c2 c3 c4 : Value} {ty ty2 : TypeId} (h : TbIn B0 W Bt bv ba bn bp N V t) (hi : W.heap[bi]? = some (.cells #[p, c1, c2, c3, c4] ty (0, 0))) (hs : W.heap[bs]? = some (.cells #[s0, s1, s2] ty2 (0, 0))) (g : W.drew.grownBy W' (some ba)) :
  W'.cell? ⟨Bt, 1, none⟩ = some (.map (some ba)) ∧ W'.cell? ⟨bi, 0, none⟩ = some p ∧ W'.cell? ⟨bs, 0, none⟩ = some s0 ∧ W'.cell? ⟨bs, 1, none⟩ = some s1 ∧ W'.cell? ⟨bs, 2, none⟩ = some s2 := by
 obtain ⟨es, ck, hm⟩ := h.at_.als.isMap
 have n1 : Bt ≠ ba := by rintro rfl; have := h.at_.box; rw [hm] at this; cases this
 have n2 : bi ≠ ba := by rintro rfl; rw [hm] at hi; cases hi
 have n3 : bs ≠ ba := by rintro rfl; rw [hm] at hs; cases hs
 obtain ⟨_, t1, _, _, tl⟩ := h.box
 obtain ⟨i0, _, _, _, _, il⟩ := box5_cells hi
 obtain ⟨x0, x1, x2, xl⟩ := box3_cells hs
 exact ⟨cell_grown g tl n1 t1, cell_grown g il n2 i0, cell_grown g xl n3 x0, cell_grown g xl n3 x1, cell_grown g xl n3 x2⟩
theorem item_leaf {B0 : Nat} {w W' : World} {Bt bv ba bn bp N e1 : Nat} {t t1 : Tb} {loc : Str} {f : Nat} {x : Itm} (h : itemF t loc f x = (e1, t1)) (hb : KeptC B0 w W') (ht : e1 = 0 → ∃ V', TbIn B0 W' Bt bv ba bn bp (N + 4) V' t1) :
  Ending.returned (.int .i64 (e1 : Int)) = Ending.returned (.int .i64 (itemF t loc f x).1) ∧ KeptC B0 w W' ∧ ((itemF t loc f x).1 = 0 → ∃ V', TbIn B0 W' Bt bv ba bn bp (N + 4) V' (itemF t loc f x).2) := by
 rw [h]; exact ⟨rfl, hb, ht⟩
theorem setL_keys (L : List Str) : (setL L).map (·.1) = L := by unfold setL; rw [List.map_map]; exact List.map_id' L
theorem spot_err (x y : Int) (w : World) : (Instr.field 77 (.agg #[.int .i64 x, .int .i64 y]) 0).run Tryz.prog w = .ok (.int .i64 x) w := by kernel_rfl
theorem not_both {a b : Prop} (ha : ¬ a) (hb : ¬ b) : ¬ (a ∨ b) := fun h => h.elim ha hb
end Go.Proofs.YtbbmdbolkicpcaaGreatDoor
