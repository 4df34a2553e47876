/- ChainP, PathP, PathQ, TableP, TableQ, TbMem, TbSt, TbRow, TbPut, PrintP, PrintQ -/
import Derived.Test.YtjlfchnnhglbjaaGreatYB4
import Derived.Test.YtjlfchnnhglbjaaGreatYB1
import Derived.Lib.TrimUEq
import Derived.Lib.RuneBytes
import Derived.Maps.OwnSet
import Derived.Maps.OwnOps
import Derived.Maps.StringElems
import Derived.Maps.RangeWalk
import Derived.Sort.KeysCollected
import Derived.Test.YtjlfchnnhglbjaaGreatYB3
import Derived.Laws.OwnMore
import Derived.BigQuiet
import Derived.Lib.MapLaws
set_option linter.unusedVariables false
set_option linter.unusedSimpArgs false
namespace Go.Proofs.YtjlfchnnhglbjaaGreat
def plainT (t : Tg) : Tg :=
 if t.vars ≠ [] then { t with vars := t.vars.take (t.vars.length - 1) } else if t.region ≠ [] then { t with region := [] } else if t.script ≠ [] then { t with script := [] } else { t with lang := [] }
def lack (s : Str) : Nat := if s = [] then 0 else 1
def depth (t : Tg) : Nat := t.vars.length + (lack t.region + (lack t.script + lack t.lang))
def tagOf (s : Str) : Tg := (parseF s).tag
def depthS (s : Str) : Nat := depth (tagOf s)
def plainF (s : Str) : Str × Bool := if namedB s = true ∧ s ≠ tRoot then ((nameF (plainT (tagOf s))).1, (nameF (plainT (tagOf s))).2 == 0) else ([], false)
theorem named_facts {s : Str} (h : namedB s = true) : (parseF s).err = 0 ∧ Good (tagOf s) ∧ (tagOf s).keys = [] ∧ nameOf (writeF (tagOf s)) = s := by
 unfold namedB at h
 rw [Bool.and_eq_true, Bool.and_eq_true, beq_iff_eq, beq_iff_eq, beq_iff_eq] at h
 obtain ⟨h1, h2, h3⟩ := h
 have hg := good_of s h1
 rw [good_name _ hg] at h3
 simp only at h3
 have h4 := good_nameRead _ hg
 rw [h3] at h4
 have h5 : tagOf s = bareT (tagOf s) := by
  show (parseF s).tag = bareT (parseF s).tag
  have := congrArg Res.tag h4
  exact this
 refine ⟨h1, hg, by rw [h5]; rfl, ?_⟩
 rw [h5]
 exact h3
theorem good_lang {t : Tg} (h : Good t) (hk : t.keys = []) (hs : t.script = []) (hr : t.region = []) (hv : t.vars = []) : Good { t with lang := [] } := by
 refine ⟨⟨Or.inl rfl, h.canon.script, h.canon.region, h.canon.vars, h.canon.vsort, h.canon.keys, h.canon.ksort⟩, ?_⟩
 unfold partsR
 simp only [hk, hs, hr, hv, opt_nil]
 decide
theorem good_plainT {t : Tg} (h : Good t) (hk : t.keys = []) : Good (plainT t) ∧ (plainT t).keys = [] := by
 have hp := h.short
 unfold partsR at hp
 rw [sz_cons, sz_append, sz_append, sz_append] at hp
 unfold plainT
 by_cases h1 : t.vars = []
 ·rw [if_neg (by simp [h1])]
  by_cases h2 : t.region = []
  ·rw [if_neg (by simp [h2])]
   by_cases h3 : t.script = []
   ·rw [if_neg (by simp [h3])]
    exact ⟨good_lang h hk h3 h2 h1, hk⟩
   ·rw [if_pos h3]
    refine ⟨⟨⟨h.canon.lang, Or.inl rfl, h.canon.region, h.canon.vars, h.canon.vsort, h.canon.keys, h.canon.ksort⟩, ?_⟩, hk⟩
    unfold partsR
    rw [sz_cons, sz_append, sz_append, sz_append]
    simp only [opt_nil, sz_nil]
    omega
  ·rw [if_pos h2]
   refine ⟨⟨⟨h.canon.lang, h.canon.script, Or.inl rfl, h.canon.vars, h.canon.vsort, h.canon.keys, h.canon.ksort⟩, ?_⟩, hk⟩
   unfold partsR
   rw [sz_cons, sz_append, sz_append, sz_append]
   simp only [opt_nil, sz_nil]
   omega
 ·rw [if_pos h1]
  have hd := List.take_append_drop (t.vars.length - 1) t.vars
  have hz : sz (t.vars.take (t.vars.length - 1)) ≤ sz t.vars := by
   conv => rhs; rw [← hd, sz_append]
   omega
  have hv := h.canon.vars
  have hs : srtS (t.vars.take (t.vars.length - 1)) = t.vars.take (t.vars.length - 1) := by
   have h5 := srtS_sorted t.vars
   rw [h.canon.vsort] at h5
   exact List.mergeSort_of_pairwise (h5.sublist (List.take_sublist _ _))
  refine ⟨⟨⟨h.canon.lang, h.canon.script, h.canon.region, ⟨hv.1.sublist (List.take_sublist _ _), fun v hm => hv.2.1 v (List.mem_of_mem_take hm), ?_⟩, hs, h.canon.keys, h.canon.ksort⟩, ?_⟩, hk⟩
  ·have := hv.2.2; rw [List.length_take]; omega
  ·unfold partsR
   rw [sz_cons, sz_append, sz_append, sz_append]
   simp only
   omega
theorem lack_pos {s : Str} (h : s ≠ []) : lack s = 1 := if_neg h
theorem lack_nil : lack [] = 0 := rfl
theorem depth_plainT {t : Tg} (h : depth t ≠ 0) : depth (plainT t) + 1 = depth t := by
 unfold plainT
 by_cases h1 : t.vars = []
 ·rw [if_neg (by simp [h1])]
  by_cases h2 : t.region = []
  ·rw [if_neg (by simp [h2])]
   by_cases h3 : t.script = []
   ·rw [if_neg (by simp [h3])]
    unfold depth at h ⊢
    simp only [h1, h2, h3, lack_nil, List.length_nil] at h ⊢
    by_cases h4 : t.lang = []
    ·rw [h4] at h; exact absurd rfl h
    ·rw [lack_pos h4]
   ·rw [if_pos h3]
    unfold depth
    simp only [lack_nil, lack_pos h3]
    omega
  ·rw [if_pos h2]
   unfold depth
   simp only [lack_nil, lack_pos h2]
   omega
 ·rw [if_pos h1]
  have : 0 < t.vars.length := List.length_pos_iff.2 h1
  unfold depth
  simp only [List.length_take]
  omega
theorem depth_zero {t : Tg} (h : depth t = 0) (hk : t.keys = []) : t = Tg.zero := by
  unfold depth at h
  have h1 : t.vars = [] := List.length_eq_zero_iff.1 (by omega)
  have h2 : t.region = [] := by by_cases e : t.region = []; · exact e
                                · rw [lack_pos e] at h; omega
  have h3 : t.script = [] := by by_cases e : t.script = []; · exact e
                                · rw [lack_pos e] at h; omega
  have h4 : t.lang = [] := by by_cases e : t.lang = []; · exact e
                              · rw [lack_pos e] at h; omega
  cases t
  simp only at *
  subst h1; subst h2; subst h3; subst h4; subst hk; rfl
theorem root_name : nameOf (writeF (bareT Tg.zero)) = tRoot := by decide
theorem named_root : namedB tRoot = true := by rw [← root_name]; exact good_named _ Good.zero
theorem depth_root {s : Str} (h : namedB s = true) (hd : depthS s = 0) : s = tRoot := by
 obtain ⟨_, _, hk, hn⟩ := named_facts h
 rw [depth_zero hd hk] at hn
 rw [← hn]; exact root_name
theorem plain_ok {s : Str} (h : namedB s = true) (hr : s ≠ tRoot) : ∃ p, plainF s = (p, true) ∧ namedB p = true ∧ depthS p + 1 = depthS s := by
 obtain ⟨_, hg, hk, hn⟩ := named_facts h
 obtain ⟨hg2, hk2⟩ := good_plainT hg hk
 refine ⟨nameOf (writeF (bareT (plainT (tagOf s)))), ?_, good_named _ hg2, ?_⟩
 ·unfold plainF
  rw [if_pos ⟨h, hr⟩, good_name _ hg2]; rfl
 ·have hq : tagOf (nameOf (writeF (bareT (plainT (tagOf s))))) = bareT (plainT (tagOf s)) := congrArg Res.tag (good_nameRead _ hg2)
  unfold depthS
  rw [hq]
  have hd : depth (tagOf s) ≠ 0 := fun e => hr (depth_root h e)
  have := depth_plainT hd
  rw [← this]; rfl
theorem plain_no {s : Str} (h : ¬ (namedB s = true ∧ s ≠ tRoot)) : plainF s = ([], false) := by unfold plainF; rw [if_neg h]
def look : List (Str × Str) → Str → Option Str
 | [], _ => none
 | p :: l, k => if p.1 = k then some p.2 else look l k
def parentF (D : List (Str × Str)) (s : Str) : Str × Bool := match look D s with
 | some p => (p, true)
 | none => plainF s
def stepF (D : List (Str × Str)) (s : Str) : Option Str := if (parentF D s).2 = true then some (parentF D s).1 else none
def iter (D : List (Str × Str)) : Nat → Str → Option Str
 | 0, s => some s
 | n + 1, s => (iter D n s).bind (stepF D)
theorem nodup_le : ∀ (l R : List Str), l.Nodup → (∀ x ∈ l, x ∈ R) → l.length ≤ R.length
 | [], R, _, _ => Nat.zero_le _
 | x :: l, R, hn, hs => by
  rw [List.nodup_cons] at hn
  have hx := hs x List.mem_cons_self
  have h2 := nodup_le l (R.erase x) hn.2 fun y hy => (List.mem_erase_of_ne (fun e => hn.1 (by rw [← e]; exact hy))).2 (hs y (List.mem_cons_of_mem _ hy))
  rw [List.length_erase_of_mem hx] at h2
  have : 0 < R.length := List.length_pos_of_mem hx
  rw [List.length_cons]; omega
end Go.Proofs.YtjlfchnnhglbjaaGreat
namespace Go.Proofs.YtjlfchnnhglbjaaGreat
open Go.Lib
abbrev Stp := Str × List (Str × Str)
def startB (c : UInt8) : Bool := letB c || c == 95
def nameB (c : UInt8) : Bool := startB c || digB c || c == 45 || c == 46
def specB (c : UInt8) : Bool := c == 91 || c == 93 || c == 47 || c == 61 || c == 92
def ctlB (c : UInt8) : Bool := decide (c.toNat < 32) || c.toNat == 127
def headB (p : UInt8 → Bool) : Str → Bool
 | [] => false
 | c :: _ => p c
def takeB (c : UInt8) : Str → Option Str
 | [] => none
 | d :: r => if d = c then some r else none
def nameP (s : Str) : Option (Str × Str) :=
 if headB startB s && decide ((s.takeWhile nameB).length ≤ 64) then some (s.takeWhile nameB, s.dropWhile nameB) else none
def valueP : Bool → Str → Str → Option (Str × Str)
 | _, _, [] => none
 | true, acc, c :: r => if specB c then valueP false (acc ++ [c]) r else none
 | false, acc, c :: r =>
  if c = 92 then valueP true acc r
  else if c = 93 then (if acc.length ≤ 64 then some (acc, r) else none)
  else if ctlB c || c == 91 || c == 47 || c == 61 then none
  else valueP false (acc ++ [c]) r
def lastGE (ks : List (Str × Str)) (k : Str) : Bool :=
 match ks.getLast? with
 | none => false
 | some p => decide (k ≤ p.1)
def keyP (ks : List (Str × Str)) (r : Str) : Option ((Str × Str) × Str) :=
 match nameP r with
 | none => none
 | some (k, r1) =>
  if lastGE ks k then none else
  match takeB 61 r1 with
  | none => none
  | some r2 =>
   match valueP false [] r2 with
   | none => none
   | some (v, r3) => some ((k, v), r3)
def keysP : Nat → List (Str × Str) → Str → Option (List (Str × Str) × Str)
 | 0, ks, s => some (ks, s)
 | f + 1, ks, s =>
  match takeB 91 s with
  | none => some (ks, s)
  | some r =>
   match keyP ks r with
   | none => none
   | some (p, r3) => keysP f (ks ++ [p]) r3
def stepP (s : Str) : Option (Stp × Str) :=
 match nameP s with
 | none => none
 | some (n, r) =>
  match keysP r.length [] r with
  | none => none
  | some (ks, r') => some ((n, ks), r')
def stepsP : Nat → List Stp → Str → Option (List Stp)
 | 0, _, _ => none
 | f + 1, l, s =>
  match stepP s with
  | none => none
  | some (x, r) => if r = [] then some (l ++ [x]) else
   match takeB 47 r with
   | none => none
   | some r' => stepsP f (l ++ [x]) r'
def utfG : Nat → Str → Bool
 | 0, l => l.isEmpty
 | f + 1, l => l.isEmpty || (!(decodeL l == (65533, 1)) && utfG f (l.drop (decodeL l).2))
def utfB (l : Str) : Bool := utfG l.length l
def pathP (s : Str) : Option (List Stp) :=
 if 512 < s.length then none else if utfB s = false then none else if s = [] then some [] else stepsP 64 [] s
def pathB (s : Str) : Bool := (pathP s).isSome
theorem takeB_len {c : UInt8} {s r : Str} (h : takeB c s = some r) : s = c :: r := by
  cases s with
  | nil => cases h
  | cons d t => simp only [takeB] at h; split at h
                · next e => cases h; rw [e]
                · cases h
theorem nameP_split {s n r : Str} (h : nameP s = some (n, r)) : s = n ++ r ∧ 0 < n.length ∧ n.length ≤ 64 := by
 unfold nameP at h
 split at h
 ·next hc =>
  simp only [Bool.and_eq_true, decide_eq_true_eq] at hc
  cases h
  refine ⟨(List.takeWhile_append_dropWhile).symm, ?_, hc.2⟩
  cases s with
  | nil => exact absurd hc.1 (by simp [headB])
  | cons c t =>
   have : nameB c = true := by have := hc.1; simp only [headB] at this; simp [nameB, this]
   simp [List.takeWhile_cons, this]
 ·cases h
theorem valueP_len : ∀ (s : Str) (e : Bool) (acc : Str) {v r : Str}, valueP e acc s = some (v, r) → r.length < s.length ∧ v.length ≤ 64
 | [], e, acc, v, r, h => by cases e <;> cases h
 | c :: t, true, acc, v, r, h => by
  simp only [valueP] at h
  split at h
  ·have := valueP_len t _ _ h; exact ⟨by simp only [List.length_cons]; omega, this.2⟩
  ·cases h
 | c :: t, false, acc, v, r, h => by
  simp only [valueP] at h
  split at h
  ·have := valueP_len t _ _ h; exact ⟨by simp only [List.length_cons]; omega, this.2⟩
  ·split at h
   ·split at h
    ·next hl => cases h; exact ⟨by simp, hl⟩
    ·cases h
   ·split at h
    ·cases h
    ·have := valueP_len t _ _ h; exact ⟨by simp only [List.length_cons]; omega, this.2⟩
theorem keyP_len {ks : List (Str × Str)} {s r : Str} {p : Str × Str} (h : keyP ks s = some (p, r)) : r.length + 3 ≤ s.length ∧ p.1.length ≤ 64 ∧ p.2.length ≤ 64 := by
 unfold keyP at h
 split at h
 ·cases h
 ·next k r1 hn =>
  split at h
  ·cases h
  ·split at h
   ·cases h
   ·next r2 h2 =>
    split at h
    ·cases h
    ·next v r3 hv =>
     cases h
     obtain ⟨e1, e2, e3⟩ := nameP_split hn
     have e4 := takeB_len h2
     have e5 := valueP_len _ _ _ hv
     rw [e1, e4]
     simp only [List.length_append, List.length_cons]
     exact ⟨by omega, e3, e5.2⟩
theorem keysP_more : ∀ (f g : Nat) (ks : List (Str × Str)) (s : Str), s.length ≤ f → s.length ≤ g → keysP f ks s = keysP g ks s
 | 0, 0, ks, s, _, _ => rfl
 | 0, g + 1, ks, s, h, _ => by
  have : s = [] := List.eq_nil_of_length_eq_zero (by omega)
  subst this; rfl
 | f + 1, 0, ks, s, _, h => by
  have : s = [] := List.eq_nil_of_length_eq_zero (by omega)
  subst this; rfl
 | f + 1, g + 1, ks, s, hf, hg => by
  simp only [keysP]
  split
  ·rfl
  ·next r1 h1 =>
   split
   ·rfl
   ·next p r3 h3 =>
    have e1 := takeB_len h1
    have e2 := (keyP_len h3).1
    rw [e1] at hf hg
    simp only [List.length_cons] at hf hg
    exact keysP_more f g _ _ (by omega) (by omega)
theorem utfG_more : ∀ (f g : Nat) (l : Str), l.length ≤ f → l.length ≤ g → utfG f l = utfG g l
 | 0, 0, l, _, _ => rfl
 | 0, g + 1, l, h, _ => by
  have : l = [] := List.eq_nil_of_length_eq_zero (by omega)
  subst this; rfl
 | f + 1, 0, l, _, h => by
  have : l = [] := List.eq_nil_of_length_eq_zero (by omega)
  subst this; rfl
 | f + 1, g + 1, l, hf, hg => by
  simp only [utfG]
  cases l with
  | nil => rfl
  | cons c t =>
   have h1 : 1 ≤ (decodeL (c :: t)).2 := by
    rw [decodeL_N]; unfold decodeN
    repeat' split
    all_goals simp
   rw [utfG_more f g ((c :: t).drop (decodeL (c :: t)).2) (by simp only [List.length_drop, List.length_cons] at hf ⊢; omega) (by simp only [List.length_drop, List.length_cons] at hg ⊢; omega)]
structure Rune (l : Str) (r k : Nat) : Prop where
 dec : decodeL l = (r, k)
 pos : 1 ≤ k
 le : k ≤ 4
theorem rune_any (l : Str) : Rune l (decodeL l).1 (decodeL l).2 := by
 refine ⟨rfl, ?_, ?_⟩
 all_goals
  rw [decodeL_N]; unfold decodeN
  repeat' split
  all_goals simp
theorem utfB_step {l : Str} (hl : l ≠ []) : utfB l = (!(decodeL l == (65533, 1)) && utfB (l.drop (decodeL l).2)) := by
 cases l with
 | nil => exact absurd rfl hl
 | cons c t =>
  have h1 := (rune_any (c :: t)).pos
  show utfG (t.length + 1) (c :: t) = _
  simp only [utfG, List.isEmpty_cons, Bool.false_or]
  rw [utfG_more t.length ((c :: t).drop (decodeL (c :: t)).2).length _ (by simp only [List.length_drop, List.length_cons]; omega) (Nat.le_refl _)]
  rfl
end Go.Proofs.YtjlfchnnhglbjaaGreat
namespace Go.Proofs.YtjlfchnnhglbjaaGreat
open Go.Lib
theorem u8_ext {a b : UInt8} (h : a.toNat = b.toNat) : a = b := UInt8.toNat_inj.1 h
set_option maxRecDepth 100000 in
theorem utf2 (a b : UInt8) (h1 : a.toNat / 32 = 6) (h2 : b.toNat / 64 = 2) (h3 : a.toNat % 32 * 64 + b.toNat % 64 ≥ 128) :
  (Utf8.encode ((a.toNat % 32 * 64 + b.toNat % 64 : Nat) : Int)).data.toList = [a, b] := by
 have ha := a.toNat_lt
 have hb := b.toNat_lt
 generalize hr : a.toNat % 32 * 64 + b.toNat % 64 = r at *
 have hv : Utf8.valid (r : Int) = true := by simp [Utf8.valid]; omega
 unfold Utf8.encode
 simp only [hv, if_true, Int.toNat_natCast]
 rw [if_neg (by omega), if_pos (by omega)]
 have e1 : UInt8.ofNat (192 + r / 64) = a := u8_ext (by simp; omega)
 have e2 : UInt8.ofNat (128 + r % 64) = b := u8_ext (by simp; omega)
 simp only [e1, e2]
set_option maxRecDepth 100000 in
theorem utf3 (a b c : UInt8) (h1 : a.toNat / 16 = 14) (h2 : b.toNat / 64 = 2) (h4 : c.toNat / 64 = 2) (h3 : a.toNat % 16 * 4096 + b.toNat % 64 * 64 + c.toNat % 64 ≥ 2048)
  (h5 : a.toNat % 16 * 4096 + b.toNat % 64 * 64 + c.toNat % 64 < 55296 ∨ 57344 ≤ a.toNat % 16 * 4096 + b.toNat % 64 * 64 + c.toNat % 64) :
  (Utf8.encode ((a.toNat % 16 * 4096 + b.toNat % 64 * 64 + c.toNat % 64 : Nat) : Int)).data.toList = [a, b, c] := by
 have ha := a.toNat_lt
 have hb := b.toNat_lt
 have hc := c.toNat_lt
 generalize hr : a.toNat % 16 * 4096 + b.toNat % 64 * 64 + c.toNat % 64 = r at *
 have hv : Utf8.valid (r : Int) = true := by simp [Utf8.valid]; omega
 unfold Utf8.encode
 simp only [hv, if_true, Int.toNat_natCast]
 rw [if_neg (by omega), if_neg (by omega), if_pos (by omega)]
 have e1 : UInt8.ofNat (224 + r / 4096) = a := u8_ext (by simp; omega)
 have e2 : UInt8.ofNat (128 + r / 64 % 64) = b := u8_ext (by simp; omega)
 have e3 : UInt8.ofNat (128 + r % 64) = c := u8_ext (by simp; omega)
 simp only [e1, e2, e3]
set_option maxRecDepth 100000 in
theorem utf4 (a b c d : UInt8) (h1 : a.toNat / 8 = 30) (h2 : b.toNat / 64 = 2) (h4 : c.toNat / 64 = 2) (h6 : d.toNat / 64 = 2)
  (h3 : a.toNat % 8 * 262144 + b.toNat % 64 * 4096 + c.toNat % 64 * 64 + d.toNat % 64 ≥ 65536) (h5 : a.toNat % 8 * 262144 + b.toNat % 64 * 4096 + c.toNat % 64 * 64 + d.toNat % 64 ≤ 1114111) :
  (Utf8.encode ((a.toNat % 8 * 262144 + b.toNat % 64 * 4096 + c.toNat % 64 * 64 + d.toNat % 64 : Nat) : Int)).data.toList = [a, b, c, d] := by
 have ha := a.toNat_lt
 have hb := b.toNat_lt
 have hc := c.toNat_lt
 have hd := d.toNat_lt
 generalize hr : a.toNat % 8 * 262144 + b.toNat % 64 * 4096 + c.toNat % 64 * 64 + d.toNat % 64 = r at *
 have hv : Utf8.valid (r : Int) = true := by simp [Utf8.valid]; omega
 unfold Utf8.encode
 simp only [hv, if_true, Int.toNat_natCast]
 rw [if_neg (by omega), if_neg (by omega), if_neg (by omega)]
 have e1 : UInt8.ofNat (240 + r / 262144) = a := u8_ext (by simp; omega)
 have e2 : UInt8.ofNat (128 + r / 4096 % 64) = b := u8_ext (by simp; omega)
 have e3 : UInt8.ofNat (128 + r / 64 % 64) = c := u8_ext (by simp; omega)
 have e4 : UInt8.ofNat (128 + r % 64) = d := u8_ext (by simp; omega)
 simp only [e1, e2, e3, e4]
inductive Sound : Str → Nat → Nat → Prop
 | one (c : UInt8) (t : Str) (h : c.toNat < 128) : Sound (c :: t) c.toNat 1
 | more (run t : Str) (r : Nat) (h2 : 2 ≤ run.length) (h4 : run.length ≤ 4) (hr : 128 ≤ r) (hm : r ≤ 1114111) (hb : ∀ c ∈ run, 128 ≤ c.toNat) (he : (Utf8.encode (r : Int)).data.toList = run) : Sound (run ++ t) r run.length
set_option maxRecDepth 100000 in
theorem sound_of : ∀ (l : Str), l ≠ [] → decodeL l ≠ (65533, 1) → Sound l (decodeL l).1 (decodeL l).2
 | [], h, _ => absurd rfl h
 | a :: t, _, h => by
  have ha := a.toNat_lt
  rw [decodeL_N] at h ⊢
  simp only [List.getD_cons_zero, List.getD_cons_succ, List.length_cons] at h ⊢
  unfold decodeN at h ⊢
  by_cases h1 : a.toNat < 128
  ·simp only [h1, if_true]; exact Sound.one a t h1
  ·simp only [h1, if_false] at h ⊢
   match t with
   | [] => simp at h
   | b :: t =>
    have hb := b.toNat_lt
    simp only [List.getD_cons_zero, List.getD_cons_succ, List.length_cons] at h ⊢
    split at h
    ·next c2 =>
     split at h
     ·next c3 =>
      rw [if_pos c2, if_pos c3]
      have he := utf2 a b c2.1 c2.2.2 c3
      have h5 : ∀ c ∈ [a, b], 128 ≤ c.toNat := by
       intro c hc
       rcases List.mem_cons.1 hc with rfl | hc
       ·omega
       ·rw [List.mem_singleton.1 hc]; omega
      have h6 : a.toNat % 32 * 64 + b.toNat % 64 ≤ 1114111 := by omega
      simp only
      generalize a.toNat % 32 * 64 + b.toNat % 64 = r at *
      exact Sound.more [a, b] t r (by simp) (by simp) c3 h6 h5 he
     ·exact absurd rfl h
    ·next c2 =>
     rw [if_neg c2]
     match t with
     | [] => simp at h
     | c :: t =>
      have hc := c.toNat_lt
      simp only [List.getD_cons_zero, List.getD_cons_succ, List.length_cons] at h ⊢
      split at h
      ·next c4 =>
       split at h
       ·next c5 =>
        rw [if_pos c4, if_pos c5]
        have he := utf3 a b c c4.1 c4.2.1.2 c4.2.2.2 c5.1 (by omega)
        have h5 : ∀ x ∈ [a, b, c], 128 ≤ x.toNat := by
         intro x hx
         rcases List.mem_cons.1 hx with rfl | hx
         ·omega
         ·rcases List.mem_cons.1 hx with rfl | hx
          ·omega
          ·rw [List.mem_singleton.1 hx]; omega
        have h6 : a.toNat % 16 * 4096 + b.toNat % 64 * 64 + c.toNat % 64 ≤ 1114111 := by omega
        have h7 : 128 ≤ a.toNat % 16 * 4096 + b.toNat % 64 * 64 + c.toNat % 64 := by omega
        simp only
        generalize a.toNat % 16 * 4096 + b.toNat % 64 * 64 + c.toNat % 64 = r at *
        exact Sound.more [a, b, c] t r (by simp) (by simp) h7 h6 h5 he
       ·exact absurd rfl h
      ·next c4 =>
       rw [if_neg c4]
       match t with
       | [] => simp at h
       | d :: t =>
        have hd := d.toNat_lt
        simp only [List.getD_cons_zero, List.getD_cons_succ, List.length_cons] at h ⊢
        split at h
        ·next c6 =>
         split at h
         ·next c7 =>
          rw [if_pos c6, if_pos c7]
          have he := utf4 a b c d c6.1 c6.2.1.2 c6.2.2.1.2 c6.2.2.2.2 c7.1 (by omega)
          have h5 : ∀ x ∈ [a, b, c, d], 128 ≤ x.toNat := by
           intro x hx
           rcases List.mem_cons.1 hx with rfl | hx
           ·omega
           ·rcases List.mem_cons.1 hx with rfl | hx
            ·omega
            ·rcases List.mem_cons.1 hx with rfl | hx
             ·omega
             ·rw [List.mem_singleton.1 hx]; omega
          have h6 : a.toNat % 8 * 262144 + b.toNat % 64 * 4096 + c.toNat % 64 * 64 + d.toNat % 64 ≤ 1114111 := by omega
          have h7 : 128 ≤ a.toNat % 8 * 262144 + b.toNat % 64 * 4096 + c.toNat % 64 * 64 + d.toNat % 64 := by omega
          simp only
          generalize a.toNat % 8 * 262144 + b.toNat % 64 * 4096 + c.toNat % 64 * 64 + d.toNat % 64 = r at *
          exact Sound.more [a, b, c, d] t r (by simp) (by simp) h7 h6 h5 he
         ·exact absurd rfl h
        ·exact absurd rfl h
theorem utfB_sound {l : Str} (hl : l ≠ []) (h : utfB l = true) : Sound l (decodeL l).1 (decodeL l).2 ∧ utfB (l.drop (decodeL l).2) = true := by
 rw [utfB_step hl] at h
 simp only [Bool.and_eq_true, Bool.not_eq_true', beq_eq_false_iff_ne] at h
 exact ⟨sound_of l hl h.1, h.2⟩
theorem run_no {c : UInt8} (h : 128 ≤ c.toNat) : specB c = false ∧ c ≠ 92 ∧ c ≠ 93 ∧ (ctlB c || c == 91 || c == 47 || c == 61) = false := by
 have k : ∀ d : UInt8, d.toNat < 128 → c ≠ d := fun d hd e => by rw [e] at h; omega
 have k2 : ∀ d : UInt8, d.toNat < 128 → (c == d) = false := fun d hd => beq_eq_false_iff_ne.2 (k d hd)
 refine ⟨?_, k 92 (by decide), k 93 (by decide), ?_⟩
 ·simp [specB, k2 91 (by decide), k2 93 (by decide), k2 47 (by decide), k2 61 (by decide), k2 92 (by decide)]
 ·simp [ctlB, k2 91 (by decide), k2 47 (by decide), k2 61 (by decide)]; omega
theorem valueP_run : ∀ (run acc t : Str), (∀ c ∈ run, 128 ≤ c.toNat) → valueP false acc (run ++ t) = valueP false (acc ++ run) t
 | [], acc, t, _ => by simp
 | c :: r, acc, t, h => by
  obtain ⟨_, h2, h3, h4⟩ := run_no (h c (List.mem_cons_self ..))
  simp only [List.cons_append, valueP]
  rw [if_neg h2, if_neg h3, h4]
  simp only [Bool.false_eq_true, if_false]
  rw [valueP_run r (acc ++ [c]) t (fun d hd => h d (List.mem_cons_of_mem _ hd)), List.append_assoc, List.singleton_append]
end Go.Proofs.YtjlfchnnhglbjaaGreat
namespace Go.Proofs.YtjlfchnnhglbjaaGreat
open Go.Lib
structure Itm where
 path : Str
 value : Str
 alias' : Bool
 draft : Str
 at' : Int
structure Dc where
 loc : Str
 supp : Bool
 items : List Itm
structure Rw where
 loc : Str
 path : Str
 text : Str
 file : Nat
 at' : Int
structure Tb where
 rows : List Rw
 als : List Rw
 names : List Str
 paths : List Str
def Tb.zero : Tb := ⟨[], [], [], []⟩
def findR (l : List Rw) (loc path : Str) : Option Rw := l.find? (fun r => r.loc == loc && r.path == path)
structure Wrg where
 err : Nat
 file : Int
 at' : Int
def Wrg.ok : Wrg := ⟨0, 0, 0⟩
def itemF (t : Tb) (loc : Str) (f : Nat) (x : Itm) : Nat × Tb :=
 if x.path = [] ∨ pathB x.path = false then (2, t)
 else if x.alias' = true ∧ loc ≠ tRoot then (221, t)
 else if x.alias' = true then
  match findR t.als loc x.path with
  | some r => if r.text = x.value then (0, t) else (220, t)
  | none => (0, { t with als := t.als ++ [⟨loc, x.path, x.value, f, x.at'⟩] })
 else
  match findR t.rows loc x.path with
  | some r => if r.text = x.value then (0, t) else (220, t)
  | none =>
   if x.path ∈ t.paths then (0, { t with rows := t.rows ++ [⟨loc, x.path, x.value, f, x.at'⟩] })
   else if t.paths.length = 16384 then (3, t)
   else (0, { t with rows := t.rows ++ [⟨loc, x.path, x.value, f, x.at'⟩], paths := t.paths ++ [x.path] })
def itemsF (loc : Str) (f : Nat) : Tb → List Itm → Option (Nat × Int) × Tb
 | t, [] => (none, t)
 | t, x :: r => match itemF t loc f x with
  | (0, t') => itemsF loc f t' r
  | (e, t') => (some (e, x.at'), t')
def headF (t : Tb) (d : Dc) : Nat × Tb :=
 if (d.supp = true ∧ d.loc ≠ []) ∨ (d.supp = false ∧ namedB d.loc = false) then (2, t)
 else if d.supp = true ∨ d.loc ∈ t.names then (0, t)
 else if t.names.length = 512 then (3, t)
 else (0, { t with names := t.names ++ [d.loc] })
def docsF : Nat → Tb → List Dc → Wrg × Tb
 | _, t, [] => (Wrg.ok, t)
 | f, t, d :: r => match headF t d with
  | (0, t1) => match itemsF d.loc f t1 d.items with
   | (none, t2) => docsF (f + 1) t2 r
   | (some (e, a), t2) => (⟨e, f, a⟩, t2)
  | (e, t1) => (⟨e, f, 0⟩, t1)
def newF (l : List Dc) : Wrg × Tb := docsF 0 Tb.zero l
end Go.Proofs.YtjlfchnnhglbjaaGreat
namespace Go.Proofs.YtjlfchnnhglbjaaGreat
open Go.Lib
structure TbOk (t : Tb) : Prop where
 names : t.names.Nodup
 paths : t.paths.Nodup
 n512 : t.names.length ≤ 512
 p16 : t.paths.length ≤ 16384
 rows : (t.rows.map fun r => (r.loc, r.path)).Nodup
 als : (t.als.map fun r => r.path).Nodup
 root : ∀ r ∈ t.als, r.loc = tRoot
 rp : ∀ r ∈ t.rows, r.path ∈ t.paths
 pr : ∀ p ∈ t.paths, ∃ r ∈ t.rows, r.path = p
theorem TbOk.zero : TbOk Tb.zero := ⟨by simp [Tb.zero], by simp [Tb.zero], by simp [Tb.zero], by simp [Tb.zero], by simp [Tb.zero], by simp [Tb.zero], by simp [Tb.zero], by simp [Tb.zero], by simp [Tb.zero]⟩
theorem findR_none {l : List Rw} {loc path : Str} : findR l loc path = none ↔ ∀ r ∈ l, ¬ (r.loc = loc ∧ r.path = path) := by
 unfold findR
 rw [List.find?_eq_none]
 simp
theorem findR_some {l : List Rw} {loc path : Str} {r : Rw} (h : findR l loc path = some r) : r ∈ l ∧ r.loc = loc ∧ r.path = path := by
 unfold findR at h
 have h1 := List.find?_some h
 simp at h1
 exact ⟨List.mem_of_find?_eq_some h, h1⟩
theorem rows_more {l : List Rw} (h : (l.map fun r => (r.loc, r.path)).Nodup) {r : Rw} (hn : findR l r.loc r.path = none) : ((l ++ [r]).map fun r => (r.loc, r.path)).Nodup := by
 rw [List.map_append, List.nodup_append]
 refine ⟨h, by simp, fun a ha b hb e => ?_⟩
 obtain ⟨x, hx, rfl⟩ := List.mem_map.1 ha
 simp only [List.map_cons, List.map_nil, List.mem_singleton] at hb
 subst hb
 exact findR_none.1 hn x hx (Prod.mk.inj e)
theorem item_ok {t : Tb} (h : TbOk t) (loc : Str) (f : Nat) (x : Itm) : TbOk (itemF t loc f x).2 := by
 unfold itemF
 split
 ·exact h
 split
 ·exact h
 split
 ·rename_i h1 h2 h3
  have hl : loc = tRoot := by
   by_cases e : loc = tRoot
   ·exact e
   ·exact absurd ⟨h3, e⟩ h2
  split
  ·split <;> exact h
  ·rename_i hf
   refine ⟨h.names, h.paths, h.n512, h.p16, h.rows, ?_, fun r hr => ?_, h.rp, h.pr⟩
   ·show ((t.als ++ [(⟨loc, x.path, x.value, f, x.at'⟩ : Rw)]).map fun (r : Rw) => r.path).Nodup
    rw [List.map_append, List.nodup_append]
    refine ⟨h.als, by simp, fun a ha b hb e => ?_⟩
    obtain ⟨y, hy, rfl⟩ := List.mem_map.1 ha
    simp only [List.map_cons, List.map_nil, List.mem_singleton] at hb
    subst hb
    exact findR_none.1 hf y hy ⟨(h.root y hy).trans hl.symm, e⟩
   ·rcases List.mem_append.1 hr with hr | hr
    ·exact h.root r hr
    ·rw [List.mem_singleton.1 hr]; exact hl
 ·split
  ·split <;> exact h
  ·rename_i hf
   split
   ·rename_i hp
    refine ⟨h.names, h.paths, h.n512, h.p16, rows_more h.rows hf, h.als, h.root, fun r hr => ?_, fun p hp => ?_⟩
    ·rcases List.mem_append.1 hr with hr | hr
     ·exact h.rp r hr
     ·rw [List.mem_singleton.1 hr]; exact hp
    ·obtain ⟨r, hr, e⟩ := h.pr p hp
     exact ⟨r, List.mem_append.2 (Or.inl hr), e⟩
   ·split
    ·exact h
    ·rename_i hp hn
     refine ⟨h.names, ?_, h.n512, ?_, rows_more h.rows hf, h.als, h.root, fun r hr => ?_, fun p hp => ?_⟩
     ·show (t.paths ++ [x.path]).Nodup
      rw [List.nodup_append]
      exact ⟨h.paths, by simp, fun a ha b hb e => hp (by rw [List.mem_singleton.1 hb] at e; exact e ▸ ha)⟩
     ·show (t.paths ++ [x.path]).length ≤ 16384
      have := h.p16
      rw [List.length_append, List.length_singleton]; omega
     ·rcases List.mem_append.1 hr with hr | hr
      ·exact List.mem_append.2 (Or.inl (h.rp r hr))
      ·rw [List.mem_singleton.1 hr]; exact List.mem_append.2 (Or.inr (by simp))
     ·rcases List.mem_append.1 hp with hp | hp
      ·obtain ⟨r, hr, e⟩ := h.pr p hp
       exact ⟨r, List.mem_append.2 (Or.inl hr), e⟩
      ·exact ⟨_, List.mem_append.2 (Or.inr (List.mem_singleton.2 rfl)), (List.mem_singleton.1 hp).symm⟩
theorem head_tb {t : Tb} (h : TbOk t) (d : Dc) : TbOk (headF t d).2 := by
 unfold headF
 split
 ·exact h
 split
 ·exact h
 rename_i h1 h2
 split
 ·exact h
 ·rename_i h3
  refine ⟨?_, h.paths, ?_, h.p16, h.rows, h.als, h.root, h.rp, h.pr⟩
  ·show (t.names ++ [d.loc]).Nodup
   rw [List.nodup_append]
   exact ⟨h.names, by simp, fun a ha b hb e => h2 (Or.inr (by rw [List.mem_singleton.1 hb] at e; exact e ▸ ha))⟩
  ·show (t.names ++ [d.loc]).length ≤ 512
   have := h.n512
   rw [List.length_append, List.length_singleton]; omega
end Go.Proofs.YtjlfchnnhglbjaaGreat
namespace Go.Proofs.YtjlfchnnhglbjaaGreat
open Go.RowKit Go.Lib Go.Sort Go.Maps Go.WideMaps
theorem lawS : Keyed Tryz.prog 9 := string_keyed Tryz.underlying9
theorem key_ofS {k : Str} (h : k.length ≤ maxLen) : keyOf Tryz.prog 9 (.string ⟨k.toArray⟩) = some (.string k) := by
 have := keyOf_string_mk (P := Tryz.prog) Tryz.underlying9 (s := ⟨k.toArray⟩) (by rw [Lib.size_eq]; exact h)
 simpa using this
theorem strLit (k : Str) : WideAt.IsKeyLit (.string k) := by simp [WideAt.IsKeyLit]
structure El (α : Type) where
 v : α → Value
 d : α → DataW Unit
 rd : Value → Option (DataW Unit × List MemPlace)
 ok : ∀ x, rd (v x) = some (d x, [])
 inv : ∀ {u : Value} {z : DataW Unit × List MemPlace}, rd u = some z → ∃ x, u = v x ∧ z = (d x, [])
 inj : ∀ {x y : α}, d x = d y → x = y
def lookE {α : Type} (L : List (Str × α)) (k : Str) : Option α := (L.find? (fun p => p.1 == k)).map (·.2)
theorem lookE_append {α : Type} (E F : List (Str × α)) (k : Str) : lookE (E ++ F) k = (lookE E k).or (lookE F k) := by
 unfold lookE
 rw [List.find?_append]
 cases E.find? (fun p => p.1 == k) <;> rfl
theorem lookE_none {α : Type} {E : List (Str × α)} {k : Str} : lookE E k = none ↔ ∀ p ∈ E, p.1 ≠ k := by
 unfold lookE
 rw [Option.map_eq_none_iff, List.find?_eq_none]
 simp
theorem lookE_some {α : Type} {E : List (Str × α)} {k : Str} (h : (lookE E k).isSome = true) : k ∈ E.map (·.1) := by
 unfold lookE at h
 rw [Option.isSome_map] at h
 obtain ⟨p, hp⟩ := Option.isSome_iff_exists.1 h
 have h1 := List.find?_some hp
 have h2 := List.mem_of_find?_eq_some hp
 simp at h1
 exact List.mem_map.2 ⟨p, h2, h1⟩
theorem lookE_mem {α : Type} {E : List (Str × α)} {k : Str} (h : k ∈ E.map (·.1)) : (lookE E k).isSome = true := by
 cases hl : lookE E k with
 | some v => rfl
 | none =>
  obtain ⟨p, hp, rfl⟩ := List.mem_map.1 h
  exact absurd rfl (lookE_none.1 hl p hp)
theorem lookE_in {α : Type} {E : List (Str × α)} {k : Str} {x : α} (h : lookE E k = some x) : (k, x) ∈ E := by
 unfold lookE at h
 obtain ⟨p, hp, rfl⟩ := Option.map_eq_some_iff.1 h
 have h1 := List.find?_some hp
 simp at h1
 have h2 := List.mem_of_find?_eq_some hp
 rw [← h1]; exact h2
theorem lookE_is {α : Type} {E : List (Str × α)} (hn : (E.map (·.1)).Nodup) {p : Str × α} (hp : p ∈ E) : lookE E p.1 = some p.2 := by
 induction E with
 | nil => cases hp
 | cons q E ih =>
  rw [List.map_cons, List.nodup_cons] at hn
  unfold lookE
  rw [List.find?_cons]
  rcases List.mem_cons.1 hp with rfl | hp
  ·simp
  ·have : q.1 ≠ p.1 := fun e => hn.1 (by rw [e]; exact List.mem_map.2 ⟨p, hp, rfl⟩)
   rw [show (q.1 == p.1) = false by simpa using this]
   exact ih hn.2 hp
def OwnE {α : Type} (E : El α) (w : World) (b n : Nat) (L : List (Str × α)) : Prop :=
 ∃ m : DataW Unit, w.ownsMap Tryz.prog 9 E.rd b n m ∧ ∀ k z, m.atKey (.string k) z = match lookE L k with | some v => E.d v | none => z
section
variable {α : Type} {E : El α} {w w' : World} {b n : Nat} {L : List (Str × α)}
theorem OwnE.lt (h : OwnE E w b n L) : b < w.heap.size := by obtain ⟨m, h, _⟩ := h; exact h.lt
theorem OwnE.mono {n' : Nat} (h : OwnE E w b n L) (hn : n ≤ n') : OwnE E w b n' L := by obtain ⟨m, h, h2⟩ := h; exact ⟨m, h.mono hn, h2⟩
theorem ownsMapE_block {P : Program} {k : TypeId} {R : Value → Option (DataW Unit × List MemPlace)} {m : DataW Unit} (h : w.ownsMap P k R b n m) (he : w'.heap[b]? = w.heap[b]?) : w'.ownsMap P k R b n m := by
 obtain ⟨es, clock, hb, F, hs, hD⟩ := h
 exact ⟨es, clock, he.trans hb, F, hs, hD⟩
theorem OwnE.block (h : OwnE E w b n L) (he : w'.heap[b]? = w.heap[b]?) : OwnE E w' b n L := by obtain ⟨m, h, h2⟩ := h; exact ⟨m, ownsMapE_block h he, h2⟩
theorem OwnE.below (h : OwnE E w b n L) (hb : Below w.heap.size w w') : OwnE E w' b n L := h.block (hb.block _ h.lt)
theorem OwnE.made (E : El α) (w : World) : OwnE E (w.alloc (.map #[] 0)) w.heap.size 0 [] := ⟨.map [], World.ownsMap_made _ _ _ _, fun k z => rfl⟩
theorem OwnE.isMap (h : OwnE E w b n L) : ∃ es clock, w.heap[b]? = some (.map es clock) := by obtain ⟨m, ⟨es, ck, hb, _⟩, _⟩ := h; exact ⟨es, ck, hb⟩
theorem OwnE.look_ok (h : OwnE E w b n L) {mt e : TypeId} (hu : Tryz.prog.underlying mt = some (.map 9 e)) {x0 : α} (hz : ∀ W : World, (zeroValue e).run Tryz.prog W = .ok (E.v x0) W) (k : Str) (hk : k.length ≤ maxLen) :
  (Instr.lookup mt (.map (some b)) (.string ⟨k.toArray⟩) true).run Tryz.prog w = .ok (.tuple #[E.v ((lookE L k).getD x0), .bool (lookE L k).isSome]) w := by
 obtain ⟨mm, hown, hat⟩ := h
 obtain ⟨v, ps, hrun, hv⟩ := hown.look_ok lawS hu (hz w) (E.ok x0) (key_ofS hk)
 obtain ⟨s, rfl, hz⟩ := E.inv hv
 rw [hat] at hz
 have hhas : Maps.has mm (.string k) = (lookE L k).isSome := by
  cases hl : lookE L k with
  | some v => rw [has_true_of_atKey (y := E.d v) (fun z => by rw [hat, hl])]; rfl
  | none => rw [has_false_of_atKey (fun z => by rw [hat, hl])]; rfl
 have hs : s = (lookE L k).getD x0 := by
  cases hl : lookE L k with
  | some v => rw [hl] at hz; exact (E.inj (Prod.mk.inj hz).1).symm
  | none => rw [hl] at hz; exact (E.inj (Prod.mk.inj hz).1).symm
 rw [← hhas, ← hs]
 exact hrun
theorem OwnE.look (h : OwnE E w b n L) {mt e : TypeId} (hu : Tryz.prog.underlying mt = some (.map 9 e)) {x0 : α} (hz : ∀ W : World, (zeroValue e).run Tryz.prog W = .ok (E.v x0) W) (k : Str) (hk : k.length ≤ maxLen) :
  (Instr.lookup mt (.map (some b)) (.string ⟨k.toArray⟩) false).run Tryz.prog w = .ok (E.v ((lookE L k).getD x0)) w := by
 obtain ⟨mm, hown, hat⟩ := h
 obtain ⟨v, ps, hrun, hv⟩ := hown.lookup lawS hu (hz w) (E.ok x0) (key_ofS hk)
 obtain ⟨s, rfl, hz⟩ := E.inv hv
 rw [hat] at hz
 have hs : s = (lookE L k).getD x0 := by
  cases hl : lookE L k with
  | some v => rw [hl] at hz; exact (E.inj (Prod.mk.inj hz).1).symm
  | none => rw [hl] at hz; exact (E.inj (Prod.mk.inj hz).1).symm
 rw [← hs]
 exact hrun
theorem OwnE.say (h : OwnE E w b n L) (hn : n < maxLen) {mt e : TypeId} (hu : Tryz.prog.underlying mt = some (.map 9 e)) (k : Str) (x : α) (hk : k.length ≤ maxLen) (hno : lookE L k = none) :
  ∃ w', (Instr.mapUpdate mt (.map (some b)) (.string ⟨k.toArray⟩) (E.v x)).run Tryz.prog w = .ok () w' ∧ OwnE E w' b (n + 1) (L ++ [(k, x)]) ∧ w.grownBy w' (some b) := by
 obtain ⟨mm, hown, hat⟩ := h
 obtain ⟨w', hrun, hown', hgr⟩ := hown.update lawS hu hn (key_ofS hk) (E.ok x)
 refine ⟨w', hrun, ⟨_, hown', fun k' z => ?_⟩, hgr⟩
 rw [lookE_append]
 by_cases he : k' = k
 ·subst he
  rw [atKey_put_same hown.isMap (strLit _), hno]
  simp [lookE]
 ·rw [atKey_put_other (fun e => he (by simpa using e)), hat]
  cases hl : lookE L k' with
  | some u => rfl
  | none => simp [lookE, Ne.symm he]
theorem OwnE.again (h : OwnE E w b n L) (hn : n < maxLen) {mt e : TypeId} (hu : Tryz.prog.underlying mt = some (.map 9 e)) (k : Str) (x : α) (hk : k.length ≤ maxLen) (his : lookE L k = some x) :
  ∃ w', (Instr.mapUpdate mt (.map (some b)) (.string ⟨k.toArray⟩) (E.v x)).run Tryz.prog w = .ok () w' ∧ OwnE E w' b (n + 1) L ∧ w.grownBy w' (some b) := by
 obtain ⟨mm, hown, hat⟩ := h
 obtain ⟨w', hrun, hown', hgr⟩ := hown.update lawS hu hn (key_ofS hk) (E.ok x)
 refine ⟨w', hrun, ⟨_, hown', fun k' z => ?_⟩, hgr⟩
 by_cases he : k' = k
 ·subst he
  rw [atKey_put_same hown.isMap (strLit _), his]
 ·rw [atKey_put_other (fun e => he (by simpa using e)), hat]
theorem OwnE.keys {m : DataW Unit} (hown : w.ownsMap Tryz.prog 9 E.rd b n m) (hat : ∀ k z, m.atKey (.string k) z = match lookE L k with | some v => E.d v | none => z) (hn : (L.map (·.1)).Nodup) : (L.map (·.1)).Perm (strKeys m) := by
 obtain ⟨es, hD, hpw, _⟩ := hown.entries lawS
 obtain ⟨es', hD', hko⟩ := hown.keysOf
 obtain rfl : es = es' := by rw [hD] at hD'; simpa using hD'
 subst hD
 refine perm_strKeys hpw (fun p hp => by obtain ⟨v, hv⟩ := hko p hp; obtain ⟨x, _, hx, _⟩ := Maps.keyOf_str Tryz.underlying9 hv; exact ⟨x, hx⟩) hn (fun x => ?_)
 have hl : ∀ z, (DataW.map es).atKey (.string x) z = match lookE L x with | some v => E.d v | none => z := hat x
 cases hx : lookE L x with
 | some v => rw [has_true_of_atKey (y := E.d v) (fun z => by rw [hl, hx])]; exact ⟨fun _ => rfl, fun _ => lookE_some (by rw [hx]; rfl)⟩
 | none =>
  rw [has_false_of_atKey (fun z => by rw [hl, hx])]
  exact ⟨fun h => (by have := lookE_mem h; rw [hx] at this; cases this), fun h => by cases h⟩
end
def sdV (x : Str × Int × Int) : Value := .agg #[.string ⟨x.1.toArray⟩, .int .i64 x.2.1, .int .i64 x.2.2]
def sdD (x : Str × Int × Int) : DataW Unit := .agg [.lit (.string x.1), .lit (.int .i64 x.2.1), .lit (.int .i64 x.2.2)]
def rdSd (v : Value) : Option (DataW Unit × List MemPlace) := match v with
 | .agg cs => match cs.toList with
  | [.string a, .int .i64 b, .int .i64 c] => some (sdD (a.data.toList, b, c), [])
  | _ => none
 | _ => none
def elSd : El (Str × Int × Int) where
 v := sdV
 d := sdD
 rd := rdSd
 ok := fun x => by simp [rdSd, sdV]
 inv := by
  intro u z h
  unfold rdSd at h
  split at h
  ·rename_i cs
   split at h
   ·rename_i a b c e
    cases h
    refine ⟨(a.data.toList, b, c), ?_, rfl⟩
    obtain ⟨l⟩ := cs
    simp only at e
    simp [sdV, e]
   ·cases h
  ·cases h
 inj := by
  rintro ⟨a, b, c⟩ ⟨d, e, f⟩ h
  simpa [sdD] using h
def mpI : Option Nat → Int
 | none => -1
 | some b => b
def rdMp (v : Value) : Option (DataW Unit × List MemPlace) := match v with
 | .map b => some (.lit (.int .i64 (mpI b)), [])
 | _ => none
def elMp : El (Option Nat) where
 v := fun b => .map b
 d := fun b => .lit (.int .i64 (mpI b))
 rd := rdMp
 ok := fun x => rfl
 inv := by
  intro u z h
  unfold rdMp at h
  split at h
  ·cases h; exact ⟨_, rfl, rfl⟩
  ·cases h
 inj := by
  intro x y h
  have h : mpI x = mpI y := by simpa using h
  cases x <;> cases y <;> simp [mpI] at h ⊢ <;> omega
def mpL (V : List (Str × Nat)) : List (Str × Option Nat) := V.map fun p => (p.1, some p.2)
theorem look_mp (V : List (Str × Nat)) (k : Str) : lookE (mpL V) k = (lookE V k).map some := by
 unfold lookE mpL
 rw [List.find?_map, Option.map_map, Option.map_map]; rfl
theorem mpL_append (V U : List (Str × Nat)) : mpL (V ++ U) = mpL V ++ mpL U := by simp [mpL]
def rdBo (v : Value) : Option (DataW Unit × List MemPlace) := match v with
 | .bool b => some (.lit (.bool b), [])
 | _ => none
def elBo : El Bool where
 v := fun b => .bool b
 d := fun b => .lit (.bool b)
 rd := rdBo
 ok := fun x => rfl
 inv := by
  intro u z h
  unfold rdBo at h
  split at h
  ·cases h; exact ⟨_, rfl, rfl⟩
  ·cases h
 inj := by intro x y h; simpa using h
def setL (L : List Str) : List (Str × Bool) := L.map fun k => (k, true)
theorem look_set (L : List Str) (k : Str) : lookE (setL L) k = if k ∈ L then some true else none := by
 unfold lookE setL
 rw [List.find?_map]
 by_cases h : k ∈ L
 ·rw [if_pos h]
  cases hf : L.find? ((fun p : Str × Bool => p.1 == k) ∘ fun k => (k, true)) with
  | none =>
   rw [List.find?_eq_none] at hf
   exact absurd (by simp) (hf k h)
  | some x => rfl
 ·rw [if_neg h]
  cases hf : L.find? ((fun p : Str × Bool => p.1 == k) ∘ fun k => (k, true)) with
  | none => rfl
  | some x =>
   have h1 := List.find?_some hf
   have h2 := List.mem_of_find?_eq_some hf
   simp at h1
   exact absurd (h1 ▸ h2) h
end Go.Proofs.YtjlfchnnhglbjaaGreat
namespace Go.Proofs.YtjlfchnnhglbjaaGreat
open Go.RowKit Go.Lib Go.Sort Go.Maps Go.WideMaps
def sdOf (r : Rw) : Str × Int × Int := (r.text, (r.file : Int), r.at')
def sdL (l : List Rw) : List (Str × (Str × Int × Int)) := l.map fun r => (r.path, sdOf r)
def rowsOf (t : Tb) (loc : Str) : List Rw := t.rows.filter (fun r => r.loc == loc)
theorem look_sd (l : List Rw) (k : Str) : lookE (sdL l) k = (l.find? (fun r => r.path == k)).map sdOf := by
 unfold lookE sdL
 rw [List.find?_map, Option.map_map]; rfl
theorem look_rows (t : Tb) (loc path : Str) : lookE (sdL (rowsOf t loc)) path = (findR t.rows loc path).map sdOf := by
 rw [look_sd, rowsOf, findR, List.find?_filter]
 congr 2
 funext r
 rw [Bool.eq_iff_iff]
 simp
theorem look_als {l : List Rw} (h : ∀ r ∈ l, r.loc = tRoot) (path : Str) : lookE (sdL l) path = (findR l tRoot path).map sdOf := by
 rw [look_sd]
 congr 1
 unfold findR
 induction l with
 | nil => rfl
 | cons r l ih =>
  have hr := h r (List.mem_cons_self ..)
  rw [List.find?_cons, List.find?_cons, hr, ih (fun x hx => h x (List.mem_cons_of_mem _ hx))]
  simp
structure TbAt (W : World) (Bt bv ba bn bp N : Nat) (V : List (Str × Nat)) (t : Tb) : Prop where
 box : W.heap[Bt]? = some (.cells #[.map (some bv), .map (some ba), .map (some bn), .map (some bp)] 73 (0, 0))
 vals : OwnE elMp W bv N (mpL V)
 als : OwnE elSd W ba N (sdL t.als)
 names : OwnE elBo W bn N (setL t.names)
 paths : OwnE elBo W bp N (setL t.paths)
 each : ∀ p ∈ V, OwnE elSd W p.2 N (sdL (rowsOf t p.1))
 keys : (V.map (·.1)).Nodup
 has : ∀ r ∈ t.rows, r.loc ∈ V.map (·.1)
 root : ∀ r ∈ t.als, r.loc = tRoot
 apart : (bv :: ba :: bn :: bp :: V.map (·.2)).Nodup
section
variable {W W' : World} {Bt bv ba bn bp N : Nat} {V : List (Str × Nat)} {t : Tb} {α : Type} {E : El α} {b n c : Nat} {L : List (Str × α)}
theorem OwnE.kept (h : OwnE E W b n L) (gr : W.grownBy W' (some c)) (ne : b ≠ c) : OwnE E W' b n L := h.block (gr.block b h.lt (by simpa using ne))
theorem box_kept {cs : Array Value} {ty : TypeId} (hb : W.heap[Bt]? = some (.cells cs ty (0, 0))) (h : OwnE E W c n L) (gr : W.grownBy W' (some c)) : W'.heap[Bt]? = some (.cells cs ty (0, 0)) := by
 have ne : Bt ≠ c := by
  rintro rfl
  obtain ⟨es, ck, hm⟩ := h.isMap
  rw [hb] at hm; cases hm
 rw [gr.block Bt (Array.getElem?_eq_some_iff.1 hb).1 (by simpa using ne)]; exact hb
theorem TbAt.below (h : TbAt W Bt bv ba bn bp N V t) (hb : Below W.heap.size W W') : TbAt W' Bt bv ba bn bp N V t :=
 ⟨(hb.block _ (Array.getElem?_eq_some_iff.1 h.box).1).trans h.box, h.vals.below hb, h.als.below hb, h.names.below hb, h.paths.below hb, fun p hp => (h.each p hp).below hb, h.keys, h.has, h.root, h.apart⟩
theorem TbAt.mono {N' : Nat} (h : TbAt W Bt bv ba bn bp N V t) (hn : N ≤ N') : TbAt W Bt bv ba bn bp N' V t :=
 ⟨h.box, h.vals.mono hn, h.als.mono hn, h.names.mono hn, h.paths.mono hn, fun p hp => (h.each p hp).mono hn, h.keys, h.has, h.root, h.apart⟩
theorem TbAt.lo (h : TbAt W Bt bv ba bn bp N V t) : bv ≠ ba ∧ bv ≠ bn ∧ bv ≠ bp ∧ ba ≠ bn ∧ ba ≠ bp ∧ bn ≠ bp ∧ ∀ p ∈ V, p.2 ≠ bv ∧ p.2 ≠ ba ∧ p.2 ≠ bn ∧ p.2 ≠ bp := by
 have ha := h.apart
 simp only [List.nodup_cons, List.mem_cons, not_or] at ha
 obtain ⟨⟨h1, h2, h3, h4⟩, ⟨h5, h6, h7⟩, ⟨h8, h9⟩, h10, _⟩ := ha
 refine ⟨h1, h2, h3, h5, h6, h8, fun p hp => ?_⟩
 have hm : p.2 ∈ V.map (·.2) := List.mem_map.2 ⟨p, hp, rfl⟩
 exact ⟨fun e => h4 (e ▸ hm), fun e => h7 (e ▸ hm), fun e => h9 (e ▸ hm), fun e => h10 (e ▸ hm)⟩
theorem TbAt.addPath (h : TbAt W Bt bv ba bn bp N V t) {ps : List Str} (o : OwnE elBo W' bp (N + 1) (setL ps)) (gr : W.grownBy W' (some bp)) : TbAt W' Bt bv ba bn bp (N + 1) V { t with paths := ps } := by
 obtain ⟨h1, h2, h3, h5, h6, h8, hV⟩ := h.lo
 have hN : N ≤ N + 1 := Nat.le_succ N
 exact ⟨box_kept h.box h.paths gr, (h.vals.kept gr h3).mono hN, (h.als.kept gr h6).mono hN, (h.names.kept gr h8).mono hN, o, fun p hp => ((h.each p hp).kept gr (hV p hp).2.2.2).mono hN, h.keys, h.has, h.root, h.apart⟩
theorem TbAt.addName (h : TbAt W Bt bv ba bn bp N V t) {ns : List Str} (o : OwnE elBo W' bn (N + 1) (setL ns)) (gr : W.grownBy W' (some bn)) : TbAt W' Bt bv ba bn bp (N + 1) V { t with names := ns } := by
 obtain ⟨h1, h2, h3, h5, h6, h8, hV⟩ := h.lo
 have hN : N ≤ N + 1 := Nat.le_succ N
 exact ⟨box_kept h.box h.names gr, (h.vals.kept gr h2).mono hN, (h.als.kept gr h5).mono hN, o, (h.paths.kept gr (Ne.symm h8)).mono hN, fun p hp => ((h.each p hp).kept gr (hV p hp).2.2.1).mono hN, h.keys, h.has, h.root, h.apart⟩
theorem TbAt.addRow (h : TbAt W Bt bv ba bn bp N V t) (r : Rw) {b : Nat} (hp : (r.loc, b) ∈ V) (o : OwnE elSd W' b (N + 1) (sdL (rowsOf t r.loc) ++ [(r.path, sdOf r)])) (gr : W.grownBy W' (some b)) : TbAt W' Bt bv ba bn bp (N + 1) V { t with rows := t.rows ++ [r] } := by
 obtain ⟨h1, h2, h3, h5, h6, h8, hV⟩ := h.lo
 obtain ⟨v1, v2, v3, v4⟩ := hV _ hp
 have hN : N ≤ N + 1 := Nat.le_succ N
 have ho := h.each _ hp
 have hap := h.apart
 refine ⟨box_kept h.box ho gr, (h.vals.kept gr (Ne.symm v1)).mono hN, (h.als.kept gr (Ne.symm v2)).mono hN, (h.names.kept gr (Ne.symm v3)).mono hN, (h.paths.kept gr (Ne.symm v4)).mono hN, fun p hq => ?_, h.keys, fun x hx => ?_, h.root, h.apart⟩
 ·by_cases e : p.1 = r.loc
  ·have : p = (r.loc, b) := by
    have hk := h.keys
    have i1 := lookE_is hk hq
    have i2 := lookE_is hk hp
    rw [e, i2] at i1
    cases i1
    obtain ⟨x, y⟩ := p
    simp only at e ⊢
    rw [e]
   subst this
   rw [show rowsOf { t with rows := t.rows ++ [r] } r.loc = rowsOf t r.loc ++ [r] by simp [rowsOf], show sdL (rowsOf t r.loc ++ [r]) = sdL (rowsOf t r.loc) ++ [(r.path, sdOf r)] by simp [sdL]]
   exact o
  ·have hne : p.2 ≠ b := by
    intro e2
    have hnd : (V.map (·.2)).Nodup := by
     simp only [List.nodup_cons] at hap
     exact hap.2.2.2.2
    exact e (by
     have := (List.pairwise_map.1 hnd)
     obtain ⟨i, hi, hpi⟩ := List.getElem_of_mem hq
     obtain ⟨j, hj, hpj⟩ := List.getElem_of_mem hp
     by_cases hij : i = j
     ·subst hij; rw [← hpi, hpj]
     ·exfalso
      have key : ∀ (i j : Nat) (hi : i < V.length) (hj : j < V.length), i < j → V[i].2 ≠ V[j].2 := fun i j hi hj hlt => (List.pairwise_iff_getElem.1 this) i j hi hj hlt
      rcases Nat.lt_or_gt_of_ne hij with hl | hl
      ·exact key i j hi hj hl (by rw [hpi, hpj]; exact e2)
      ·exact key j i hj hi hl (by rw [hpi, hpj]; exact e2.symm))
   rw [show rowsOf { t with rows := t.rows ++ [r] } p.1 = rowsOf t p.1 by simp [rowsOf, Ne.symm e]]
   exact ((h.each p hq).kept gr hne).mono hN
 ·rcases List.mem_append.1 hx with hx | hx
  ·exact h.has x hx
  ·rw [List.mem_singleton.1 hx]; exact List.mem_map.2 ⟨_, hp, rfl⟩
theorem TbAt.addMap (h : TbAt W Bt bv ba bn bp N V t) (loc : Str) (hno : lookE V loc = none) (o : OwnE elMp W' bv (N + 1) (mpL V ++ [(loc, some W.heap.size)])) (gr : (W.alloc (.map #[] 0)).grownBy W' (some bv)) : TbAt W' Bt bv ba bn bp (N + 1) (V ++ [(loc, W.heap.size)]) t := by
 have ha : Below W.heap.size W (W.alloc (.map #[] 0)) := (Below.refl _ _).alloc (Nat.le_refl _) _
 have h' := h.below ha
 obtain ⟨h1, h2, h3, h5, h6, h8, hV⟩ := h.lo
 have hN : N ≤ N + 1 := Nat.le_succ N
 have hnl := lookE_none.1 hno
 have lv := h.vals.lt
 refine ⟨box_kept h'.box h'.vals gr, by rw [mpL_append]; exact o, (h'.als.kept gr (Ne.symm h1)).mono hN, (h'.names.kept gr (Ne.symm h2)).mono hN, (h'.paths.kept gr (Ne.symm h3)).mono hN, fun p hp => ?_, ?_, fun r hr => ?_, h.root, ?_⟩
 ·rcases List.mem_append.1 hp with hp | hp
  ·exact ((h'.each p hp).kept gr (hV p hp).1).mono hN
  ·rw [List.mem_singleton.1 hp]
   have he : rowsOf t loc = [] := by
    unfold rowsOf
    rw [List.filter_eq_nil_iff]
    intro r hr e
    obtain ⟨q, hq, he⟩ := List.mem_map.1 (h.has r hr)
    have : r.loc = loc := by simpa using e
    exact hnl q hq (he.trans this)
   show OwnE elSd W' W.heap.size (N + 1) (sdL (rowsOf t loc))
   rw [he]
   exact ((OwnE.made elSd W).kept gr (by omega)).mono (Nat.zero_le _)
 ·rw [List.map_append, List.nodup_append]
  refine ⟨h.keys, by simp, fun a ha' b hb => ?_⟩
  obtain ⟨q, hq, rfl⟩ := List.mem_map.1 ha'
  simp only [List.map_cons, List.map_nil, List.mem_singleton] at hb
  rw [hb]; exact hnl q hq
 ·rw [List.map_append]; exact List.mem_append.2 (Or.inl (h.has r hr))
 ·have hap := h.apart
  have hlt : ∀ x ∈ bv :: ba :: bn :: bp :: V.map (·.2), x < W.heap.size := by
   intro x hx
   simp only [List.mem_cons] at hx
   rcases hx with rfl | rfl | rfl | rfl | hx
   ·exact lv
   ·exact h.als.lt
   ·exact h.names.lt
   ·exact h.paths.lt
   ·obtain ⟨q, hq, rfl⟩ := List.mem_map.1 hx
    exact (h.each q hq).lt
  rw [List.map_append, show bv :: ba :: bn :: bp :: (V.map (·.2) ++ [(loc, W.heap.size)].map (·.2)) = (bv :: ba :: bn :: bp :: V.map (·.2)) ++ [W.heap.size] by simp, List.nodup_append]
  refine ⟨hap, by simp, fun x hx y hy => ?_⟩
  rw [List.mem_singleton.1 hy]
  have := hlt x hx
  omega
end
end Go.Proofs.YtjlfchnnhglbjaaGreat
namespace Go.Proofs.YtjlfchnnhglbjaaGreat
open Go.RowKit Go.Lib Go.Sort
structure Enc (α : Type) (k : Nat) where
 enc : α → List Value
 len : ∀ x, (enc x).length = k
 one : ∀ x, ∀ u ∈ enc x, u.oneCell' = true
section
variable {α : Type} {k : Nat} {E : Enc α k}
def flatL (E : Enc α k) (l : List α) : List Value := l.flatMap E.enc
theorem flatL_len (E : Enc α k) : ∀ l : List α, (flatL E l).length = l.length * k
 | [] => by simp [flatL]
 | a :: r => by
  have := flatL_len E r
  simp only [flatL, List.flatMap_cons, List.length_append, List.length_cons] at this ⊢
  rw [this, E.len, Nat.succ_mul, Nat.add_comm]
theorem flatL_append (E : Enc α k) (l m : List α) : flatL E (l ++ m) = flatL E l ++ flatL E m := by simp [flatL]
theorem flatL_get (E : Enc α k) : ∀ (l : List α) (j i : Nat) (h : j < l.length) (hi : i < k), (flatL E l)[j * k + i]? = (E.enc (l[j]'h))[i]?
 | [], j, i, h, hi => by simp at h
 | a :: r, 0, i, h, hi => by
  simp only [flatL, List.flatMap_cons, Nat.zero_mul, Nat.zero_add]
  rw [List.getElem?_append_left (by rw [E.len]; exact hi)]; rfl
 | a :: r, j + 1, i, h, hi => by
  have ih := flatL_get E r j i (by simpa using h) hi
  simp only [flatL, List.flatMap_cons] at ih ⊢
  rw [List.getElem?_append_right (by rw [E.len, Nat.succ_mul]; omega), E.len, show (j + 1) * k + i - k = j * k + i by rw [Nat.succ_mul]; omega, ih]
  rfl
theorem flatL_set (E : Enc α k) : ∀ (l : List α) (j i : Nat) (h : j < l.length) (hi : i < k) (u : Value) (y : α), E.enc y = (E.enc (l[j]'h)).set i u → (flatL E l).set (j * k + i) u = flatL E (l.set j y)
 | [], j, i, h, hi, u, y, he => by simp at h
 | a :: r, 0, i, h, hi, u, y, he => by
  simp only [flatL, List.flatMap_cons, Nat.zero_mul, Nat.zero_add, List.set_cons_zero]
  rw [List.set_append_left _ _ (by rw [E.len]; exact hi), he]; rfl
 | a :: r, j + 1, i, h, hi, u, y, he => by
  have ih := flatL_set E r j i (by simpa using h) hi u y he
  simp only [flatL, List.flatMap_cons, List.set_cons_succ] at ih ⊢
  rw [List.set_append_right _ _ (by rw [E.len, Nat.succ_mul]; omega), E.len, show (j + 1) * k + i - k = j * k + i by rw [Nat.succ_mul]; omega, ih]
def RdL (E : Enc α k) (w : World) (v : Value) (l : List α) : Prop :=
 ∃ ao cp, v = .slice ao l.length cp ∧ (l.length ≤ cp ∧ l.length ≤ 9223372036854775807 ∧ (ao = none → l = [] ∧ cp = 0)) ∧
  (l ≠ [] → ∃ b off, ao = some ⟨b, off, none⟩ ∧ b < w.heap.size ∧ ∀ j i x, (hj : j < l.length) → (E.enc (l[j]'hj))[i]? = some x → w.cell? ⟨b, off + j * k + i, none⟩ = some x)
def OwnL (E : Enc α k) (ty : TypeId) (w : World) (B : Nat) (v : Value) (l : List α) : Prop := w.ownsRow B ty k v l.length (flatL E l)
variable {w w' : World} {v : Value} {l : List α} {B : Nat} {ty : TypeId}
theorem RdL.nil (E : Enc α k) (w : World) : RdL E w (.slice none 0 0) [] := ⟨none, 0, rfl, by simp, fun h => absurd rfl h⟩
theorem RdL.below (h : RdL E w v l) (hb : Below w.heap.size w w') : RdL E w' v l := by
 obtain ⟨ao, cp, hv, hl, hr⟩ := h
 refine ⟨ao, cp, hv, hl, fun hne => ?_⟩
 obtain ⟨b, off, ha, hlt, hc⟩ := hr hne
 exact ⟨b, off, ha, Nat.lt_of_lt_of_le hlt hb.size, fun j i x hj hx => (hb.cell (p := ⟨b, off + j * k + i, none⟩) hlt).trans (hc j i x hj hx)⟩
theorem RdL.slice (h : RdL E w v l) : ∃ ao cp, v = .slice ao l.length cp ∧ l.length ≤ cp := by obtain ⟨ao, cp, hv, hl, _⟩ := h; exact ⟨ao, cp, hv, hl.1⟩
theorem OwnL.shape (h : OwnL E ty w B v l) : (v = .slice none 0 0 ∧ l = []) ∨
  ∃ g cap cur, v = .slice (some ⟨g, 0, none⟩) l.length cap ∧ B ≤ g ∧ w.heap[g]? = some (.cells cur ty (0, 0)) ∧ l.length ≤ cap ∧ cap ≤ maxLen ∧ cur.size = cap * k ∧ cur.toList.take (l.length * k) = flatL E l := by
 rcases h.2 with ⟨h1, h2⟩ | ⟨g, cap, cur, h1, h2, h3, h4, h5, h6, h7⟩
 ·exact Or.inl ⟨h1, List.eq_nil_of_length_eq_zero h2⟩
 ·exact Or.inr ⟨g, cap, cur, h1, h2, h3, h4, h5, h6, h7⟩
theorem OwnL.slice (h : OwnL E ty w B v l) : ∃ ao cp, v = .slice ao l.length cp ∧ l.length ≤ cp := by
 rcases h.shape with ⟨rfl, rfl⟩ | ⟨g, cap, cur, rfl, _, _, hn, _⟩
 ·exact ⟨none, 0, rfl, Nat.le_refl _⟩
 ·exact ⟨_, cap, rfl, hn⟩
theorem OwnL.rd (h : OwnL E ty w B v l) : RdL E w v l := by
 rcases h.shape with ⟨rfl, rfl⟩ | ⟨g, cap, cur, rfl, hB, hg, hn, hm, hs, ht⟩
 ·exact RdL.nil E w
 ·refine ⟨_, _, rfl, ⟨hn, by unfold maxLen at hm; omega, fun e => by cases e⟩, fun _ => ⟨g, 0, rfl, lt_of_block hg, fun j i x hj hx => ?_⟩⟩
  have hi : i < k := by have := (List.getElem?_eq_some_iff.1 hx).1; rwa [E.len] at this
  rw [Nat.zero_add]
  exact cells_at hg ht _ _ (by rw [flatL_get E l j i hj hi]; exact hx)
theorem OwnL.nil (E : Enc α k) (ty : TypeId) (w : World) (B : Nat) : OwnL E ty w B (.slice none 0 0) [] := World.ownsRow_nil _ _ _ _
theorem OwnL.below (h : OwnL E ty w B v l) (hb : Below w.heap.size w w') : OwnL E ty w' B v l := own_below h hb
theorem OwnL.mono {C : Nat} (h : OwnL E ty w B v l) (hc : C ≤ B) : OwnL E ty w C v l := by
 unfold OwnL World.ownsRow at *
 refine ⟨h.1, ?_⟩
 rcases h.2 with h | ⟨g, cap, cur, h1, h2, h3⟩
 ·exact Or.inl h
 ·exact Or.inr ⟨g, cap, cur, h1, Nat.le_trans hc h2, h3⟩
theorem OwnL.row {g m c : Nat} (h : OwnL E ty w B (.slice (some ⟨g, 0, none⟩) m c) l) : ∃ cur, w.heap[g]? = some (.cells cur ty (0, 0)) := by
 rcases h.2 with ⟨h1, _⟩ | ⟨g', cap, cur, h1, _, hg, _⟩
 ·cases h1
 ·simp only [Value.slice.injEq, Option.some.injEq, Addr.mk.injEq, and_true, true_and] at h1
  obtain ⟨rfl, _⟩ := h1
  exact ⟨cur, hg⟩
theorem OwnL.some' {n c : Nat} {a : Option Addr} (h : OwnL E ty w B (.slice a n c) l) (hne : l ≠ []) : ∃ g, a = some ⟨g, 0, none⟩ := by
 rcases h.shape with ⟨_, e⟩ | ⟨g, cap, cur, e, _⟩
 ·exact absurd e hne
 ·cases e; exact ⟨g, rfl⟩
theorem OwnL.cell {g m c : Nat} (h : OwnL E ty w B (.slice (some ⟨g, 0, none⟩) m c) l) (j i : Nat) (x : Value) (hj : j < l.length) (hx : (E.enc (l[j]'hj))[i]? = some x) :
  w.cell? ⟨g, j * k + i, none⟩ = some x ∧ w.frozen? ⟨g, j * k + i, none⟩ = false ∧ g < w.heap.size := by
 rcases h.shape with ⟨e, rfl⟩ | ⟨g', cap, cur, e, hB, hg, hn, hm, hs, ht⟩
 ·cases e
 ·cases e
  have hi : i < k := by have := (List.getElem?_eq_some_iff.1 hx).1; rwa [E.len] at this
  exact ⟨cells_at hg ht _ _ (by rw [flatL_get E l j i hj hi]; exact hx), frozen_of_row w g _ _ _ hg, lt_of_block hg⟩
theorem OwnL.set {g c m : Nat} {l2 : List α} (h : OwnL E ty w B (.slice (some ⟨g, 0, none⟩) m c) l) (hm : m = l.length) (j i : Nat) (hj : j < l.length) (hi : i < k) (u : Value) (y : α) (hy : E.enc y = (E.enc (l[j]'hj)).set i u) (hl2 : l.set j y = l2) :
  OwnL E ty (w.setCell ⟨g, j * k + i, none⟩ u) B (.slice (some ⟨g, 0, none⟩) m c) l2 := by
 subst hm
 have := (World.ownsRow.stored h (j * k + i) u).1
 rw [flatL_set E l j i hj hi u y hy, hl2] at this
 exact own_cast this (by rw [← hl2, List.length_set]) rfl
theorem cells_new (w : World) (cs : Array Value) (e : TypeId) (j : Nat) (u : Value) (h : cs.toList[j]? = some u) : (w.alloc (.cells cs e)).cell? ((⟨w.heap.size, 0, none⟩ : Addr).add j) = some u := by
 have hx := cell_of_row _ _ j _ _ _ (heap_alloc_new w (.cells cs e))
 have hadd : ((⟨w.heap.size, 0, none⟩ : Addr).add j) = ⟨w.heap.size, j, none⟩ := by
  unfold Addr.add
  split
  ·next e => subst e; rfl
  ·simp
 rw [hadd, hx]
 simpa using h
theorem wpList_pushL {ops : Array Oper} {rest : List Oper} {o : Oper} {a : Act} {Q : Exit → Act → World → Prop} (hgd : o.guard = none) (s x : Operand) {t : TypeId}
  (ho : o.op = .call { callee := .builtin .append, args := #[s, x], argTypes := #[t, t] })
  {z : Value} {bytes : Nat} (ht : Tryz.prog.underlying t = some (.slice ty)) (hinf : (Tryz.prog.info? ty).map (fun i => (i.zero, i.size, i.bytes)) = some (some z, k, bytes)) (hzs : z.cells.size = k) (hk : 0 < k)
  (B : Nat) (v : Value) (l : List α) (y : α) (hs : a.eval s = v) (hown : OwnL E ty w B v l) (hx : a.eval x = .slice (some ⟨w.heap.size, 0, none⟩) 1 1) (hl : l.length + 1 ≤ maxLen) (hl2 : (l.length + 1) * bytes ≤ 140737488355328) (hB : B ≤ w.heap.size) (cs : Array Value) (hcs : cs.toList = E.enc y)
  (h : ∀ v' w', OwnL E ty w' B v' (l ++ [y]) → w.grownBy w' v.ownBlock → Moved w v v' → wpList Tryz.prog ops Q rest (a.put o.dst v') w') :
  wpList Tryz.prog ops Q (o :: rest) a (w.alloc (.cells cs ty)) := by
 obtain ⟨i0, hi, hz0, hz1, hz2⟩ := info_parts hinf
 refine wpList_app hgd s x t ho B ty i0 z k bytes ht hi hz0 hz1 hz2 hzs hk v l.length (flatL E l) hs (World.ownsRow.alloc hown _) ⟨w.heap.size, 0, none⟩ 1 1 (E.enc y) hx (by rw [E.len, Nat.one_mul]) (fun j u hu => cells_new w cs ty j u (by rw [hcs]; exact hu)) (E.one y) hl hl2 (by simp; omega) ?_
 intro v' w' own gr mv
 refine h v' w' (own_cast own (by simp) (by rw [flatL_append]; simp [flatL])) ⟨gr.os, gr.tape, gr.output, Nat.le_trans (by simp) gr.size, fun k hk hne => ?_⟩ ?_
 ·rw [gr.block k (by simp; omega) hne]; exact heap_alloc_old _ _ hk
 ·rcases mv with m | ⟨k, h1, h2⟩
  ·exact Or.inl m
  ·exact Or.inr ⟨k, h1, by simp at h2; omega⟩
end
end Go.Proofs.YtjlfchnnhglbjaaGreat
namespace Go.Proofs.YtjlfchnnhglbjaaGreat
open Go.RowKit Go.Lib Go.Sort Go.Maps Go.WideMaps
section
variable {α : Type} {E : El α} {w : World} {b n : Nat} {L : List (Str × α)} {ops : Array Oper} {rest : List Oper} {o : Oper} {a : Act} {Q : Exit → Act → World → Prop} {mt e : TypeId}
theorem wpList_lookE (h : OwnE E w b n L) (hu : Tryz.prog.underlying mt = some (.map 9 e)) {x0 : α} (hz : ∀ W : World, (zeroValue e).run Tryz.prog W = .ok (E.v x0) W) (hg : o.guard = none) (m x : Operand) (hop : o.op = Op.lookup mt m x true) (hm : a.eval m = .map (some b)) (k : Str) (hx : a.eval x = .string ⟨k.toArray⟩) (hk : k.length ≤ maxLen)
  (v : Value) (q : Bool) (hv : E.v ((lookE L k).getD x0) = v) (hq : (lookE L k).isSome = q)
  (hK : wpList Tryz.prog ops Q rest (a.put o.dst (.tuple #[v, .bool q])) w) : wpList Tryz.prog ops Q (o :: rest) a w := by
 refine wpList_plain hg fun K' hK' => ?_
 have hrun := h.look_ok hu hz k hk
 rw [hv, hq] at hrun
 unfold Oper.wp
 simp [execOp, hop, hm, hx, hrun, Result.andThen]
 exact hK' _ _ hK
theorem wpList_lookE1 (h : OwnE E w b n L) (hu : Tryz.prog.underlying mt = some (.map 9 e)) {x0 : α} (hz : ∀ W : World, (zeroValue e).run Tryz.prog W = .ok (E.v x0) W) (hg : o.guard = none) (m x : Operand) (hop : o.op = Op.lookup mt m x false) (hm : a.eval m = .map (some b)) (k : Str) (hx : a.eval x = .string ⟨k.toArray⟩) (hk : k.length ≤ maxLen)
  (v : Value) (hv : E.v ((lookE L k).getD x0) = v)
  (hK : wpList Tryz.prog ops Q rest (a.put o.dst v) w) : wpList Tryz.prog ops Q (o :: rest) a w := by
 refine wpList_plain hg fun K' hK' => ?_
 have hrun := h.look hu hz k hk
 rw [hv] at hrun
 unfold Oper.wp
 simp [execOp, hop, hm, hx, hrun, Result.andThen]
 exact hK' _ _ hK
theorem wpList_sayE (h : OwnE E w b n L) (hn : n < maxLen) (hu : Tryz.prog.underlying mt = some (.map 9 e)) (hg : o.guard = none) (m x v : Operand) (hop : o.op = Op.mapUpdate mt m x v) (hm : a.eval m = .map (some b)) (k : Str) (hx : a.eval x = .string ⟨k.toArray⟩) (hk : k.length ≤ maxLen) (y : α) (hv : a.eval v = E.v y) (hno : lookE L k = none)
  (hK : ∀ w', OwnE E w' b (n + 1) (L ++ [(k, y)]) → w.grownBy w' (some b) → wpList Tryz.prog ops Q rest (a.put o.dst undef) w') : wpList Tryz.prog ops Q (o :: rest) a w := by
 refine wpList_plain hg fun K' hK' => ?_
 obtain ⟨w', hrun, ho, hgr⟩ := h.say hn hu k y hk hno
 unfold Oper.wp
 simp [execOp, hop, hm, hx, hv, hrun, Result.andThen]
 exact hK' _ _ (hK w' ho hgr)
end
theorem zeroSd (W : World) : (zeroValue 84).run Tryz.prog W = .ok (elSd.v ([], 0, 0)) W := by kernel_rfl
theorem zeroBo (W : World) : (zeroValue 4).run Tryz.prog W = .ok (elBo.v false) W := by kernel_rfl
theorem zeroMap (W : World) : (zeroValue 70).run Tryz.prog W = .ok (elMp.v none) W := by kernel_rfl
theorem box3_cells {W : World} {B : Nat} {a b c : Value} {ty : TypeId} (h : W.heap[B]? = some (.cells #[a, b, c] ty (0, 0))) :
  W.cell? ⟨B, 0, none⟩ = some a ∧ W.cell? ⟨B, 1, none⟩ = some b ∧ W.cell? ⟨B, 2, none⟩ = some c ∧ B < W.heap.size :=
 ⟨by rw [cell_of_row _ _ _ _ _ _ h]; rfl, by rw [cell_of_row _ _ _ _ _ _ h]; rfl, by rw [cell_of_row _ _ _ _ _ _ h]; rfl, lt_of_block h⟩
theorem grown_from {w w1 w2 : World} {b : Nat} (h : Below w.heap.size w w1) (g : w1.grownBy w2 (some b)) (ht : w1.tape = w.tape) : w.grownBy w2 (some b) :=
 ⟨g.os.trans h.os, g.tape.trans ht, g.output.trans h.output, Nat.le_trans h.size g.size, fun k hk hne => by rw [g.block k (Nat.lt_of_lt_of_le hk h.size) hne]; exact h.block k hk⟩
theorem grown_below {w w1 : World} {b : Nat} (h : Below w.heap.size w w1) (ht : w1.tape = w.tape) : w.grownBy w1 (some b) := ⟨h.os, ht, h.output, h.size, fun k hk _ => h.block k hk⟩
def putL (L : List (Str × (Str × Int × Int))) (k : Str) (x : Str × Int × Int) : List (Str × (Str × Int × Int)) := match lookE L k with | none => L ++ [(k, x)] | some _ => L
def putR (L : List (Str × (Str × Int × Int))) (k : Str) (s : Str) : Bool := match lookE L k with | none => true | some y => y.1 == s
theorem put_any (w : World) (b N : Nat) (L : List (Str × (Str × Int × Int))) (key : Str) (xt : Str) (xf xa : Int) (h : OwnE elSd w b N L) (hN : N < maxLen) (hk : key.length ≤ maxLen) :
  Calls Tryz.prog 54 #[.map (some b), .string ⟨key.toArray⟩, .agg #[.string ⟨xt.toArray⟩, .int .i64 xf, .int .i64 xa]] w fun e w' => e = .returned (.bool (putR L key xt)) ∧ OwnE elSd w' b (N + 1) (putL L key (xt, xf, xa)) ∧ w.grownBy w' (some b) := by
 have hb1 : Below w.heap.size w (w.alloc (.cells #[.string ⟨xt.toArray⟩, .int .i64 xf, .int .i64 xa] 84)) := (Below.refl _ _).alloc (Nat.le_refl _) _
 have HB1 := hid hb1
 have F1 := hid (heap_alloc_new w (.cells #[.string ⟨xt.toArray⟩, .int .i64 xf, .int .i64 xa] 84))
 have HT1 := hid (show (w.alloc (.cells #[.string ⟨xt.toArray⟩, .int .i64 xf, .int .i64 xa] 84)).tape = w.tape from rfl)
 have HO1 := hid (h.below hb1)
 clear hb1
 cases hlk : lookE L key with
 | some y =>
  obtain ⟨yt, yf, ya⟩ := y
  have HLK := hid hlk
  clear hlk
  go_enter Tryz.func54, Tryz.ntmps54
  go_upto_region 1 with fail
  generalize w.alloc (.cells #[.string ⟨xt.toArray⟩, .int .i64 xf, .int .i64 xa] 84) = w1 at *
  go_upto_region 2 with (at_lookup; refine wpList_lookE (E := elSd) HO1.out Tryz.underlying70 zeroSd rfl _ _ rfl rfl key rfl hk (.agg #[.string ⟨yt.toArray⟩, .int .i64 yf, .int .i64 ya]) true (by rw [HLK.out]; rfl) (by rw [HLK.out]; rfl) ?_)
  have hb2 : Below w1.heap.size w1 (w1.alloc (.cells #[.string ⟨yt.toArray⟩, .int .i64 yf, .int .i64 ya] 84)) := (Below.refl _ _).alloc (Nat.le_refl _) _
  have F2 := hid (heap_alloc_new w1 (.cells #[.string ⟨yt.toArray⟩, .int .i64 yf, .int .i64 ya] 84))
  have HT2 := hid (show (w1.alloc (.cells #[.string ⟨yt.toArray⟩, .int .i64 yf, .int .i64 ya] 84)).tape = w.tape from HT1.out)
  have HB2 := hid hb2
  clear hb2
  generalize w1.alloc (.cells #[.string ⟨yt.toArray⟩, .int .i64 yf, .int .i64 ya] 84) = w2 at *
  have HB := hid (HB1.out.then HB2.out)
  obtain ⟨x0, x1, x2, xl⟩ := box3_cells ((HB2.out.block _ (lt_of_block F1.out)).trans F1.out)
  obtain ⟨y0, y1, y2, yl⟩ := box3_cells F2.out
  go_wp2_with fail
  exact bodyPost_ret (v := .bool (yt == xt)) (by simp [results, Tryz.results54, go_sem]) rfl ⟨by unfold putR; rw [HLK.out], by unfold putL; rw [HLK.out]; exact (h.below HB.out).mono (Nat.le_succ N), grown_below HB.out HT2.out⟩
 | none =>
  have HLK := hid hlk
  clear hlk
  go_enter Tryz.func54, Tryz.ntmps54
  go_upto_region 1 with fail
  generalize w.alloc (.cells #[.string ⟨xt.toArray⟩, .int .i64 xf, .int .i64 xa] 84) = w1 at *
  go_upto_region 2 with (at_lookup; refine wpList_lookE (E := elSd) HO1.out Tryz.underlying70 zeroSd rfl _ _ rfl rfl key rfl hk (.agg #[.string ⟨#[]⟩, .int .i64 0, .int .i64 0]) false (by rw [HLK.out]; rfl) (by rw [HLK.out]; rfl) ?_)
  have hb2 : Below w1.heap.size w1 (w1.alloc (.cells #[.string ⟨#[]⟩, .int .i64 0, .int .i64 0] 84)) := (Below.refl _ _).alloc (Nat.le_refl _) _
  have F2 := hid (heap_alloc_new w1 (.cells #[.string ⟨#[]⟩, .int .i64 0, .int .i64 0] 84))
  have HT2 := hid (show (w1.alloc (.cells #[.string ⟨#[]⟩, .int .i64 0, .int .i64 0] 84)).tape = w.tape from HT1.out)
  have HB2 := hid hb2
  clear hb2
  generalize w1.alloc (.cells #[.string ⟨#[]⟩, .int .i64 0, .int .i64 0] 84) = w2 at *
  have HB := hid (HB1.out.then HB2.out)
  have HO2 := hid (HO1.out.below HB2.out)
  obtain ⟨x0, x1, x2, xl⟩ := box3_cells ((HB2.out.block _ (lt_of_block F1.out)).trans F1.out)
  go_wp2_with (at_mapUpdate; refine wpList_sayE (E := elSd) HO2.out hN Tryz.underlying70 rfl _ _ _ rfl rfl key rfl hk (xt, xf, xa) rfl HLK.out ?_; intro w3 ho3 hg3; have HO3 := hid ho3; have HG3 := hid (grown_from HB.out hg3 HT2.out); clear ho3 hg3)
  exact bodyPost_ret (v := .bool true) (by simp [results, Tryz.results54, go_sem]) rfl ⟨by unfold putR; rw [HLK.out], by unfold putL; rw [HLK.out]; exact HO3.out, HG3.out⟩
end Go.Proofs.YtjlfchnnhglbjaaGreat
namespace Go.Proofs.YtjlfchnnhglbjaaGreat
open Go.Lib
theorem decodeN_pre (n n' b0 b1 b2 b3 c1 c2 c3 : Nat) (hne : decodeN n b0 b1 b2 b3 ≠ (65533, 1)) (hk : (decodeN n b0 b1 b2 b3).2 ≤ n')
  (h1 : 1 < (decodeN n b0 b1 b2 b3).2 → c1 = b1) (h2 : 2 < (decodeN n b0 b1 b2 b3).2 → c2 = b2) (h3 : 3 < (decodeN n b0 b1 b2 b3).2 → c3 = b3) :
  decodeN n' b0 c1 c2 c3 = decodeN n b0 b1 b2 b3 := by
 unfold decodeN at hne hk h1 h2 h3 ⊢
 by_cases a : b0 < 128
 ·simp only [a, if_true]
 ·simp only [a, if_false] at hne hk h1 h2 h3 ⊢
  by_cases b : b0 / 32 = 6 ∧ (1 < n ∧ b1 / 64 = 2)
  ·rw [if_pos b] at hne hk h1 h2 h3 ⊢
   by_cases b' : b0 % 32 * 64 + b1 % 64 ≥ 128
   ·rw [if_pos b'] at hne hk h1 h2 h3 ⊢
    simp only at hk h1
    have e1 := h1 (by decide)
    subst e1
    rw [if_pos ⟨b.1, by omega, b.2.2⟩, if_pos b']
   ·rw [if_neg b'] at hne; exact absurd rfl hne
  ·rw [if_neg b] at hne hk h1 h2 h3 ⊢
   by_cases c : b0 / 16 = 14 ∧ (1 < n ∧ b1 / 64 = 2) ∧ (2 < n ∧ b2 / 64 = 2)
   ·rw [if_pos c] at hne hk h1 h2 h3 ⊢
    split at hne
    ·next c' =>
     rw [if_pos c'] at hk h1 h2 h3 ⊢
     simp only at hk h1 h2
     have e1 := h1 (by decide)
     have e2 := h2 (by decide)
     subst e1 e2
     rw [if_neg (by omega), if_pos ⟨c.1, ⟨by omega, c.2.1.2⟩, by omega, c.2.2.2⟩, if_pos c']
    ·exact absurd rfl hne
   ·rw [if_neg c] at hne hk h1 h2 h3 ⊢
    by_cases d : b0 / 8 = 30 ∧ (1 < n ∧ b1 / 64 = 2) ∧ (2 < n ∧ b2 / 64 = 2) ∧ (3 < n ∧ b3 / 64 = 2)
    ·rw [if_pos d] at hne hk h1 h2 h3 ⊢
     split at hne
     ·next d' =>
      rw [if_pos d'] at hk h1 h2 h3 ⊢
      simp only at hk h1 h2 h3
      have e1 := h1 (by decide)
      have e2 := h2 (by decide)
      have e3 := h3 (by decide)
      subst e1 e2 e3
      rw [if_neg (by omega), if_neg (by omega), if_pos ⟨d.1, ⟨by omega, d.2.1.2⟩, ⟨by omega, d.2.2.1.2⟩, by omega, d.2.2.2.2⟩, if_pos d']
     ·exact absurd rfl hne
    ·rw [if_neg d] at hne; exact absurd rfl hne
theorem getD_app {a b : Str} {i : Nat} (h : i < a.length) : (a ++ b).getD i 0 = a.getD i 0 := by
 simp [List.getD, List.getElem?_append_left h]
theorem decode_pre {a b : Str} (ha : a ≠ []) (h : decodeL a ≠ (65533, 1)) (b' : Str) (hb : b' = a.take (decodeL a).2 ++ b) : decodeL b' = decodeL a := by
 have hle := decodeL_le a ha
 have hp := (rune_any a).pos
 subst hb
 rw [decodeL_N a] at *
 generalize hd : decodeN a.length (a.getD 0 0).toNat (a.getD 1 0).toNat (a.getD 2 0).toNat (a.getD 3 0).toNat = d at *
 have ht : (a.take d.2).length = d.2 := by rw [List.length_take]; omega
 have hg : ∀ i, i < d.2 → (a.take d.2 ++ b).getD i 0 = a.getD i 0 := fun i hi => by rw [getD_app (by omega), getD_takeU _ _ _ hi]
 rw [decodeL_N, hg 0 (by omega), ← hd]
 refine decodeN_pre _ _ _ _ _ _ _ _ _ (by rw [hd]; exact h) (by rw [hd, List.length_append, ht]; omega) ?_ ?_ ?_
 all_goals
  rw [hd]; intro hi; rw [hg _ hi]
theorem utfB_ascii {c : UInt8} {t : Str} (h : c.toNat < 128) : utfB (c :: t) = utfB t := by
 have hd : decodeL (c :: t) = (c.toNat, 1) := by rw [decodeL_N]; exact decodeN_ascii _ _ _ _ _ h
 rw [utfB_step (by simp), hd]
 have : ((c.toNat, 1) == ((65533, 1) : Nat × Nat)) = false := by
  rw [beq_eq_false_iff_ne]; intro e
  have := (Prod.mk.inj e).1; omega
 rw [this]; rfl
theorem utfB_app : ∀ (n : Nat) (a b : Str), a.length ≤ n → utfB a = true → utfB b = true → utfB (a ++ b) = true
 | 0, a, b, hn, _, hb => by rw [List.eq_nil_of_length_eq_zero (Nat.le_zero.1 hn)]; exact hb
 | n + 1, a, b, hn, ha, hb => by
  by_cases h0 : a = []
  ·subst h0; exact hb
  ·have hs := ha
   rw [utfB_step h0] at hs
   simp only [Bool.and_eq_true, Bool.not_eq_true', beq_eq_false_iff_ne] at hs
   have hle := decodeL_le a h0
   have hp := (rune_any a).pos
   have hd : decodeL (a ++ b) = decodeL a := decode_pre h0 hs.1 (b := a.drop (decodeL a).2 ++ b) _ (by rw [← List.append_assoc, List.take_append_drop])
   rw [utfB_step (by simp [h0]), hd]
   simp only [Bool.and_eq_true, Bool.not_eq_true', beq_eq_false_iff_ne]
   refine ⟨hs.1, ?_⟩
   rw [List.drop_append_of_le_length hle]
   exact utfB_app n _ b (by rw [List.length_drop]; omega) hs.2 hb
theorem utfB_append {a b : Str} (ha : utfB a = true) (hb : utfB b = true) : utfB (a ++ b) = true := utfB_app a.length a b (Nat.le_refl _) ha hb
theorem utfB_part : ∀ (n : Nat) (a : Str) (c : UInt8) (b : Str), a.length ≤ n → c.toNat < 128 → utfB (a ++ c :: b) = true → utfB a = true ∧ utfB b = true
 | 0, a, c, b, hn, hc, h => by
  rw [List.eq_nil_of_length_eq_zero (Nat.le_zero.1 hn)] at h ⊢
  rw [List.nil_append, utfB_ascii hc] at h
  exact ⟨rfl, h⟩
 | n + 1, a, c, b, hn, hc, h => by
  by_cases h0 : a = []
  ·subst h0
   rw [List.nil_append, utfB_ascii hc] at h
   exact ⟨rfl, h⟩
  ·obtain ⟨hs, hd⟩ := utfB_sound (by simp [h0]) h
   have hbad : decodeL (a ++ c :: b) ≠ (65533, 1) := by
    rw [utfB_step (by simp [h0])] at h
    simp only [Bool.and_eq_true, Bool.not_eq_true', beq_eq_false_iff_ne] at h
    exact h.1
   have hp := (rune_any (a ++ c :: b)).pos
   have hle : (decodeL (a ++ c :: b)).2 ≤ a.length := by
    generalize hk : decodeL (a ++ c :: b) = k at *
    obtain ⟨r, k⟩ := k
    simp only at hs hp ⊢
    generalize hl : a ++ c :: b = l at *
    cases hs with
    | one c0 t h1 =>
     exact List.length_pos_iff.2 h0
    | more run t r h2 h4 hr hm hb he =>
     rcases Nat.lt_or_ge a.length run.length with hlt | hge
     ·have hx : (run ++ t)[a.length]? = some c := by rw [← hl]; simp
      rw [List.getElem?_append_left hlt] at hx
      have := hb c (List.mem_of_getElem? hx)
      omega
     ·exact hge
   rw [List.drop_append_of_le_length hle] at hd
   obtain ⟨i1, i2⟩ := utfB_part n _ c b (by rw [List.length_drop]; omega) hc hd
   refine ⟨?_, i2⟩
   have e : decodeL a = decodeL (a ++ c :: b) := decode_pre (by simp) hbad (b := a.drop (decodeL (a ++ c :: b)).2) _ (by rw [List.take_append_of_le_length hle, List.take_append_drop])
   rw [utfB_step h0, e]
   simp only [Bool.and_eq_true, Bool.not_eq_true', beq_eq_false_iff_ne]
   exact ⟨hbad, i1⟩
def dressV (s : Str) : Str := s.flatMap (fun c => if specB c then [92, c] else [c])
def keyT (k : Str × Str) : Str := 91 :: (k.1 ++ 61 :: (dressV k.2 ++ [93]))
def keysT (l : List (Str × Str)) : Str := l.flatMap keyT
def textP (x : Stp) : Str := x.1 ++ keysT x.2
def nameOk (s : Str) : Bool := headB startB s && s.all nameB
def valOk (v : Str) : Bool := utfB v && v.all (fun c => !ctlB c)
def keysOk : List (Str × Str) → List (Str × Str) → Bool
 | _, [] => true
 | ks, k :: r => nameOk k.1 && !lastGE ks k.1 && valOk k.2 && keysOk (ks ++ [k]) r
def mayB (x : Stp) : Bool := nameOk x.1 && keysOk [] x.2
def fitK (k : Str × Str) : Bool := decide (k.1.length ≤ 64) && decide (k.2.length ≤ 64)
def fitB (x : Stp) : Bool := decide (x.1.length ≤ 64) && x.2.all fitK
def joinT : List Stp → Str
 | [] => []
 | [x] => textP x
 | x :: r => textP x ++ 47 :: joinT r
def printS (l : List Stp) : Option Str :=
 if l.all mayB && l.all fitB && decide (l.length ≤ 64) && decide ((joinT l).length ≤ 512) then some (joinT l) else none
theorem nameOk_ne {s : Str} (h : nameOk s = true) : s ≠ [] := by
 rintro rfl; simp [nameOk, headB] at h
theorem takeWhile_all : ∀ (n r : Str), n.all nameB = true → headB nameB r = false → (n ++ r).takeWhile nameB = n ∧ (n ++ r).dropWhile nameB = r
 | [], [], _, _ => ⟨rfl, rfl⟩
 | [], c :: r, _, h => by
  simp only [headB] at h
  simp [List.takeWhile_cons, List.dropWhile_cons, h]
 | c :: n, r, ha, h => by
  simp only [List.all_cons, Bool.and_eq_true] at ha
  have ih := takeWhile_all n r ha.2 h
  simp [List.takeWhile_cons, List.dropWhile_cons, ha.1, ih]
theorem head_start {n r : Str} (h : headB startB n = true) : headB startB (n ++ r) = true := by
 cases n with
 | nil => cases h
 | cons c t => exact h
theorem nameP_text {n r : Str} (hn : nameOk n = true) (hl : n.length ≤ 64) (hr : headB nameB r = false) : nameP (n ++ r) = some (n, r) := by
 simp only [nameOk, Bool.and_eq_true] at hn
 obtain ⟨h1, h2⟩ := takeWhile_all n r hn.2 hr
 unfold nameP
 rw [h1, h2, head_start hn.1]
 simp [hl]
theorem nameP_ok {s n r : Str} (h : nameP s = some (n, r)) : nameOk n = true ∧ headB nameB r = false := by
 unfold nameP at h
 split at h
 ·next hc =>
  simp only [Bool.and_eq_true, decide_eq_true_eq] at hc
  cases h
  refine ⟨?_, ?_⟩
  ·simp only [nameOk, Bool.and_eq_true]
   refine ⟨?_, ?_⟩
   ·cases s with
    | nil => exact hc.1
    | cons c t =>
     have : nameB c = true := by have := hc.1; simp only [headB] at this; simp [nameB, this]
     rw [List.takeWhile_cons, this]
     exact hc.1
   ·exact List.all_takeWhile
  ·induction s with
   | nil => rfl
   | cons c t ih =>
    rw [List.dropWhile_cons]
    by_cases hb : nameB c = true
    ·rw [hb]
     simp only [if_true]
     clear ih hc
     induction t with
     | nil => rfl
     | cons d t ih2 =>
      rw [List.dropWhile_cons]
      by_cases hd : nameB d = true
      ·rw [hd]; exact ih2
      ·have hd2 : nameB d = false := by simpa using hd
       rw [hd2]; exact hd2
    ·have hb2 : nameB c = false := by simpa using hb
     rw [hb2]; exact hb2
 ·cases h
theorem spec_cases {c : UInt8} (h : specB c = false) : c ≠ 92 ∧ c ≠ 93 ∧ c ≠ 91 ∧ c ≠ 47 ∧ c ≠ 61 := by
 simp only [specB, Bool.or_eq_false_iff, beq_eq_false_iff_ne] at h
 exact ⟨h.2, h.1.1.1.2, h.1.1.1.1, h.1.1.2, h.1.2⟩
theorem spec_noctl {c : UInt8} (h : specB c = true) : ctlB c = false := by
 revert h; revert c; apply forall_byte; decide +kernel
theorem valueP_text : ∀ (v acc r : Str), v.all (fun c => !ctlB c) = true → (acc ++ v).length ≤ 64 → valueP false acc (dressV v ++ 93 :: r) = some (acc ++ v, r)
 | [], acc, r, _, hl => by
  simp only [List.append_nil] at hl ⊢
  show valueP false acc (93 :: r) = _
  simp only [valueP]
  rw [if_neg (by decide)]
  simp [hl]
 | c :: v, acc, r, ha, hl => by
  simp only [List.all_cons, Bool.and_eq_true, Bool.not_eq_true'] at ha
  have hl2 : ((acc ++ [c]) ++ v).length ≤ 64 := by rw [List.append_assoc]; exact hl
  have ih := valueP_text v (acc ++ [c]) r ha.2 hl2
  rw [List.append_assoc, List.singleton_append] at ih
  have hd : dressV (c :: v) = (if specB c then [92, c] else [c]) ++ dressV v := by simp [dressV]
  rw [hd]
  by_cases hs : specB c = true
  ·rw [if_pos hs]
   show valueP false acc (92 :: c :: (dressV v ++ 93 :: r)) = _
   simp only [valueP]
   rw [if_pos trivial, if_pos hs]
   exact ih
  ·have hs2 : specB c = false := by simpa using hs
   obtain ⟨e1, e2, e3, e4, e5⟩ := spec_cases hs2
   rw [if_neg hs]
   show valueP false acc (c :: (dressV v ++ 93 :: r)) = _
   simp only [valueP]
   rw [if_neg e1, if_neg e2, ha.1, beq_eq_false_iff_ne.2 e3, beq_eq_false_iff_ne.2 e4, beq_eq_false_iff_ne.2 e5]
   exact ih
theorem valueP_ok : ∀ (s : Str) (acc v r : Str), (valueP false acc s = some (v, r) → ∃ u, v = acc ++ u ∧ s = dressV u ++ 93 :: r ∧ u.all (fun c => !ctlB c) = true) ∧
  (valueP true acc s = some (v, r) → ∃ u, v = acc ++ u ∧ 92 :: s = dressV u ++ 93 :: r ∧ u.all (fun c => !ctlB c) = true)
 | [], acc, v, r => ⟨fun h => (by cases h), fun h => (by cases h)⟩
 | c :: t, acc, v, r => by
  have ih := valueP_ok t
  refine ⟨fun h => ?_, fun h => ?_⟩
  ·simp only [valueP] at h
   split at h
   ·next e =>
    subst e
    exact (ih acc v r).2 h
   ·split at h
    ·next e1 e2 =>
     subst e2
     split at h
     ·cases h
      exact ⟨[], by simp, rfl, rfl⟩
     ·cases h
    ·next e1 e2 =>
     split at h
     ·cases h
     ·next hc =>
      simp only [Bool.or_eq_true, beq_iff_eq, not_or, Bool.not_eq_true] at hc
      obtain ⟨u, h1, h2, h3⟩ := (ih (acc ++ [c]) v r).1 h
      have hs : specB c = false := by
       simp only [specB, Bool.or_eq_false_iff, beq_eq_false_iff_ne]
       exact ⟨⟨⟨⟨hc.1.1.2, e2⟩, hc.1.2⟩, hc.2⟩, e1⟩
      refine ⟨c :: u, by rw [h1]; simp, ?_, ?_⟩
      ·have hd : dressV (c :: u) = [c] ++ dressV u := by simp [dressV, hs]
       rw [hd, h2]; rfl
      ·simp only [List.all_cons, Bool.and_eq_true, Bool.not_eq_true']
       exact ⟨hc.1.1.1, h3⟩
  ·simp only [valueP] at h
   split at h
   ·next hs =>
    obtain ⟨u, h1, h2, h3⟩ := (ih (acc ++ [c]) v r).1 h
    refine ⟨c :: u, by rw [h1]; simp, ?_, ?_⟩
    ·have hd : dressV (c :: u) = [92, c] ++ dressV u := by simp [dressV, hs]
     rw [hd, h2]; rfl
    ·simp only [List.all_cons, Bool.and_eq_true, Bool.not_eq_true']
     exact ⟨spec_noctl hs, h3⟩
   ·cases h
end Go.Proofs.YtjlfchnnhglbjaaGreat
namespace Go.Proofs.YtjlfchnnhglbjaaGreat
open Go.Lib
theorem utfB_mid {a : Str} {c : UInt8} {b : Str} (h : c.toNat < 128) : utfB (a ++ c :: b) = (utfB a && utfB b) := by
 cases hh : utfB (a ++ c :: b) with
 | true =>
  obtain ⟨h1, h2⟩ := utfB_part a.length a c b (Nat.le_refl _) h hh
  rw [h1, h2]; rfl
 | false =>
  cases ha : utfB a with
  | false => rfl
  | true =>
   cases hb : utfB b with
   | false => rfl
   | true =>
    have := utfB_append ha (show utfB (c :: b) = true by rw [utfB_ascii h]; exact hb)
    rw [hh] at this; cases this
theorem utfB_ascii_app : ∀ (n r : Str), (∀ c ∈ n, c.toNat < 128) → utfB (n ++ r) = utfB r
 | [], r, _ => rfl
 | c :: n, r, h => by
  rw [List.cons_append, utfB_ascii (h c (List.mem_cons_self ..))]
  exact utfB_ascii_app n r (fun d hd => h d (List.mem_cons_of_mem _ hd))
theorem name_ascii {c : UInt8} (h : nameB c = true) : c.toNat < 128 := by
 revert h; revert c; apply forall_byte; decide +kernel
theorem utfB_nameOk {n r : Str} (h : nameOk n = true) : utfB (n ++ r) = utfB r := by
 simp only [nameOk, Bool.and_eq_true] at h
 exact utfB_ascii_app n r (fun c hc => name_ascii (List.all_eq_true.1 h.2 c hc))
theorem dress_append (a b : Str) : dressV (a ++ b) = dressV a ++ dressV b := by simp [dressV]
theorem dress_run : ∀ (a : Str), (∀ c ∈ a, 128 ≤ c.toNat) → dressV a = a
 | [], _ => rfl
 | c :: a, h => by
  have hc : specB c = false := (run_no (h c (List.mem_cons_self ..))).1
  have ih := dress_run a (fun d hd => h d (List.mem_cons_of_mem _ hd))
  show (if specB c then [92, c] else [c]) ++ dressV a = c :: a
  rw [hc, ih]; rfl
theorem run_split : ∀ (v : Str), ∃ a t : Str, v = a ++ t ∧ (∀ c ∈ a, 128 ≤ c.toNat) ∧ (t = [] ∨ ∃ c t', t = c :: t' ∧ c.toNat < 128)
 | [] => ⟨[], [], rfl, by simp, Or.inl rfl⟩
 | c :: v => by
  by_cases h : c.toNat < 128
  ·exact ⟨[], c :: v, rfl, by simp, Or.inr ⟨c, v, rfl, h⟩⟩
  ·obtain ⟨a, t, h1, h2, h3⟩ := run_split v
   refine ⟨c :: a, t, by rw [h1]; rfl, fun d hd => ?_, h3⟩
   rcases List.mem_cons.1 hd with rfl | hd
   ·omega
   ·exact h2 d hd
theorem utfB_dressN : ∀ (n : Nat) (v : Str), v.length ≤ n → utfB (dressV v) = utfB v
 | 0, v, h => by rw [List.eq_nil_of_length_eq_zero (Nat.le_zero.1 h)]; rfl
 | n + 1, v, h => by
  obtain ⟨a, t, rfl, ha, ht⟩ := run_split v
  rcases ht with rfl | ⟨c, t', rfl, hc⟩
  ·rw [List.append_nil, dress_run a ha]
  ·have ih := utfB_dressN n t' (by rw [List.length_append, List.length_cons] at h; omega)
   rw [dress_append, dress_run a ha, utfB_mid hc]
   show utfB (a ++ ((if specB c then [92, c] else [c]) ++ dressV t')) = _
   by_cases hs : specB c = true
   ·rw [if_pos hs]
    show utfB (a ++ 92 :: (c :: dressV t')) = _
    rw [utfB_mid (by decide), utfB_ascii hc, ih]
   ·rw [if_neg hs]
    show utfB (a ++ c :: dressV t') = _
    rw [utfB_mid hc, ih]
theorem utfB_dress (v : Str) : utfB (dressV v) = utfB v := utfB_dressN v.length v (Nat.le_refl _)
theorem keyP_text {ks : List (Str × Str)} {k : Str × Str} {r : Str} (hn : nameOk k.1 = true) (hl : lastGE ks k.1 = false) (hv : valOk k.2 = true) (hf : fitK k = true) :
  keyP ks (k.1 ++ 61 :: (dressV k.2 ++ 93 :: r)) = some (k, r) := by
 simp only [fitK, Bool.and_eq_true, decide_eq_true_eq] at hf
 simp only [valOk, Bool.and_eq_true] at hv
 unfold keyP
 rw [nameP_text hn hf.1 (show headB nameB (61 :: _) = false from rfl)]
 simp only
 rw [hl]
 simp only [Bool.false_eq_true, if_false, takeB, if_true]
 rw [valueP_text k.2 [] r hv.2 (by simpa using hf.2)]
 rfl
theorem keyT_app (k : Str × Str) (r : Str) : keyT k ++ r = 91 :: (k.1 ++ 61 :: (dressV k.2 ++ 93 :: r)) := by simp [keyT]
theorem keysP_text : ∀ (l : List (Str × Str)) (f : Nat) (ks : List (Str × Str)) (r : Str), keysOk ks l = true → l.all fitK = true → takeB 91 r = none → (keysT l ++ r).length ≤ f → keysP f ks (keysT l ++ r) = some (ks ++ l, r)
 | [], f, ks, r, _, _, hr, hf => by
  show keysP f ks r = _
  rw [List.append_nil]
  cases f with
  | zero => rfl
  | succ f => simp only [keysP, hr]
 | k :: l, f, ks, r, hk, ha, hr, hf => by
  simp only [keysOk, Bool.and_eq_true, Bool.not_eq_true'] at hk
  simp only [List.all_cons, Bool.and_eq_true] at ha
  have hs : keysT (k :: l) ++ r = 91 :: (k.1 ++ 61 :: (dressV k.2 ++ 93 :: (keysT l ++ r))) := by
   show (keyT k ++ keysT l) ++ r = _
   rw [List.append_assoc, keyT_app]
  rw [hs] at hf ⊢
  cases f with
  | zero => simp at hf
  | succ f =>
   simp only [keysP, takeB, if_true]
   rw [keyP_text hk.1.1.1 hk.1.1.2 hk.1.2 ha.1]
   simp only
   rw [keysP_text l f (ks ++ [k]) r hk.2 ha.2 hr (by simp only [List.length_cons, List.length_append] at hf ⊢; omega)]
   simp
def endB (r : Str) : Bool := !headB (fun c => nameB c || c == 91) r
theorem end_name {r : Str} (h : endB r = true) : headB nameB r = false ∧ takeB 91 r = none := by
 cases r with
 | nil => exact ⟨rfl, rfl⟩
 | cons c t =>
  simp only [endB, headB, Bool.not_eq_true', Bool.or_eq_false_iff, beq_eq_false_iff_ne] at h
  exact ⟨h.1, by simp only [takeB]; rw [if_neg h.2]⟩
theorem keys_head {l : List (Str × Str)} {r : Str} (h : endB r = true) : headB nameB (keysT l ++ r) = false := by
 cases l with
 | nil => exact (end_name h).1
 | cons k l => rfl
theorem stepP_text {x : Stp} {r : Str} (hm : mayB x = true) (hf : fitB x = true) (hr : endB r = true) : stepP (textP x ++ r) = some (x, r) := by
 simp only [mayB, Bool.and_eq_true] at hm
 simp only [fitB, Bool.and_eq_true, decide_eq_true_eq] at hf
 unfold stepP textP
 rw [List.append_assoc, nameP_text hm.1 hf.1 (keys_head hr)]
 simp only
 rw [keysP_text x.2 _ [] r hm.2 hf.2 (end_name hr).2 (Nat.le_refl _)]
 rfl
theorem join_cons (x : Stp) {r : List Stp} (h : r ≠ []) : joinT (x :: r) = textP x ++ 47 :: joinT r := by
 cases r with
 | nil => exact absurd rfl h
 | cons y r => rfl
theorem stepsP_text : ∀ (m : List Stp) (f : Nat) (l : List Stp), m ≠ [] → m.all mayB = true → m.all fitB = true → m.length ≤ f → stepsP f l (joinT m) = some (l ++ m)
 | [], f, l, h, _, _, _ => absurd rfl h
 | x :: m, 0, l, _, _, _, hf => by simp at hf
 | x :: m, f + 1, l, _, hm, hfi, hf => by
  simp only [List.all_cons, Bool.and_eq_true] at hm hfi
  by_cases h0 : m = []
  ·subst h0
   have := stepP_text (r := []) hm.1 hfi.1 rfl
   rw [List.append_nil] at this
   show stepsP (f + 1) l (textP x) = _
   simp only [stepsP, this, if_true]
  ·rw [join_cons x h0]
   simp only [stepsP]
   rw [stepP_text hm.1 hfi.1 (by rfl)]
   simp only
   rw [if_neg (by simp)]
   simp only [takeB, if_true]
   rw [stepsP_text m f (l ++ [x]) h0 hm.2 hfi.2 (by simp only [List.length_cons] at hf; omega)]
   simp
theorem utfB_keys : ∀ (l : List (Str × Str)) (ks : List (Str × Str)), keysOk ks l = true → utfB (keysT l) = true
 | [], ks, _ => rfl
 | k :: l, ks, h => by
  simp only [keysOk, Bool.and_eq_true, valOk] at h
  show utfB (keyT k ++ keysT l) = true
  rw [keyT_app, utfB_ascii (by decide), utfB_nameOk h.1.1.1, utfB_ascii (by decide), utfB_mid (by decide), utfB_dress, h.1.2.1, utfB_keys l _ h.2]
  rfl
theorem utfB_text {x : Stp} (h : mayB x = true) : utfB (textP x) = true := by
 simp only [mayB, Bool.and_eq_true] at h
 unfold textP
 rw [utfB_nameOk h.1]; exact utfB_keys _ _ h.2
theorem utfB_join : ∀ (m : List Stp), m.all mayB = true → utfB (joinT m) = true
 | [], _ => rfl
 | x :: m, h => by
  simp only [List.all_cons, Bool.and_eq_true] at h
  by_cases h0 : m = []
  ·subst h0; exact utfB_text h.1
  ·rw [join_cons x h0, utfB_mid (by decide), utfB_text h.1, utfB_join m h.2]; rfl
theorem text_ne {x : Stp} (h : mayB x = true) : textP x ≠ [] := by
 simp only [mayB, Bool.and_eq_true] at h
 intro e
 unfold textP at e
 exact nameOk_ne h.1 (List.append_eq_nil_iff.1 e).1
theorem join_ne {m : List Stp} (h : m.all mayB = true) (h0 : m ≠ []) : joinT m ≠ [] := by
 cases m with
 | nil => exact absurd rfl h0
 | cons x m =>
  simp only [List.all_cons, Bool.and_eq_true] at h
  by_cases h1 : m = []
  ·subst h1; exact text_ne h.1
  ·rw [join_cons x h1]; simp
theorem print_path {m : List Stp} {s : Str} (h : printS m = some s) : pathP s = some m := by
 unfold printS at h
 split at h
 ·next hc =>
  simp only [Bool.and_eq_true, decide_eq_true_eq] at hc
  cases h
  unfold pathP
  rw [if_neg (by omega), utfB_join m hc.1.1.1]
  simp only [Bool.true_eq_false, if_false]
  by_cases h0 : m = []
  ·subst h0; rfl
  ·rw [if_neg (join_ne hc.1.1.1 h0), stepsP_text m 64 [] h0 hc.1.1.1 hc.1.1.2 hc.1.2]; rfl
 ·cases h
theorem keyP_ok {ks : List (Str × Str)} {s r : Str} {k : Str × Str} (h : keyP ks s = some (k, r)) (hu : utfB s = true) :
  s = k.1 ++ 61 :: (dressV k.2 ++ 93 :: r) ∧ nameOk k.1 = true ∧ lastGE ks k.1 = false ∧ valOk k.2 = true ∧ fitK k = true ∧ utfB r = true := by
 have hlen := keyP_len h
 unfold keyP at h
 split at h
 ·cases h
 ·next n r1 hn =>
  split at h
  ·cases h
  ·next hl =>
   split at h
   ·cases h
   ·next r2 h2 =>
    split at h
    ·cases h
    ·next v r3 hv =>
     cases h
     obtain ⟨e1, _, _⟩ := nameP_split hn
     obtain ⟨n1, _⟩ := nameP_ok hn
     have e2 := takeB_len h2
     obtain ⟨u, e3, e4, e5⟩ := (valueP_ok _ _ _ _).1 hv
     rw [List.nil_append] at e3
     subst e3 e4 e2 e1
     rw [utfB_nameOk n1, utfB_ascii (by decide), utfB_mid (by decide), utfB_dress] at hu
     simp only [Bool.and_eq_true] at hu
     refine ⟨rfl, n1, by simpa using hl, ?_, ?_, hu.2⟩
     ·simp only [valOk, Bool.and_eq_true]; exact ⟨hu.1, e5⟩
     ·simp only [fitK, Bool.and_eq_true, decide_eq_true_eq]; exact hlen.2
theorem keysP_ok : ∀ (f : Nat) (ks : List (Str × Str)) (s : Str) {l : List (Str × Str)} {r : Str}, keysP f ks s = some (l, r) → utfB s = true →
  ∃ m, l = ks ++ m ∧ s = keysT m ++ r ∧ keysOk ks m = true ∧ m.all fitK = true ∧ utfB r = true
 | 0, ks, s, l, r, h, hu => by cases h; exact ⟨[], by simp, rfl, rfl, rfl, hu⟩
 | f + 1, ks, s, l, r, h, hu => by
  simp only [keysP] at h
  split at h
  ·cases h; exact ⟨[], by simp, rfl, rfl, rfl, hu⟩
  ·next r1 h1 =>
   split at h
   ·cases h
   ·next p r3 h3 =>
    have e1 := takeB_len h1
    subst e1
    rw [utfB_ascii (by decide)] at hu
    obtain ⟨k1, k2, k3, k4, k5, k6⟩ := keyP_ok h3 hu
    obtain ⟨m, m1, m2, m3, m4, m5⟩ := keysP_ok f _ _ h k6
    refine ⟨p :: m, by rw [m1]; simp, ?_, ?_, ?_, m5⟩
    ·show _ = (keyT p ++ keysT m) ++ r
     rw [List.append_assoc, keyT_app, ← m2, k1]
    ·simp only [keysOk, Bool.and_eq_true, Bool.not_eq_true']; exact ⟨⟨⟨k2, k3⟩, k4⟩, m3⟩
    ·simp only [List.all_cons, Bool.and_eq_true]; exact ⟨k5, m4⟩
theorem stepP_ok {s r : Str} {x : Stp} (h : stepP s = some (x, r)) (hu : utfB s = true) : s = textP x ++ r ∧ mayB x = true ∧ fitB x = true ∧ utfB r = true := by
 unfold stepP at h
 split at h
 ·cases h
 ·next n r1 hn =>
  split at h
  ·cases h
  ·next ks r' hk =>
   cases h
   obtain ⟨e1, _, e3⟩ := nameP_split hn
   obtain ⟨n1, _⟩ := nameP_ok hn
   subst e1
   rw [utfB_nameOk n1] at hu
   obtain ⟨m, m1, m2, m3, m4, m5⟩ := keysP_ok _ _ _ hk hu
   rw [List.nil_append] at m1
   subst m1
   refine ⟨?_, ?_, ?_, m5⟩
   ·unfold textP
    rw [List.append_assoc, ← m2]
   ·simp only [mayB, Bool.and_eq_true]; exact ⟨n1, m3⟩
   ·simp only [fitB, Bool.and_eq_true, decide_eq_true_eq]; exact ⟨e3, m4⟩
theorem stepsP_ok : ∀ (f : Nat) (l : List Stp) (s : Str) {m : List Stp}, stepsP f l s = some m → utfB s = true →
  ∃ q, m = l ++ q ∧ q ≠ [] ∧ s = joinT q ∧ q.all mayB = true ∧ q.all fitB = true ∧ q.length ≤ f
 | 0, l, s, m, h, _ => by cases h
 | f + 1, l, s, m, h, hu => by
  simp only [stepsP] at h
  split at h
  ·cases h
  ·next x r hx =>
   obtain ⟨s1, s2, s3, s4⟩ := stepP_ok hx hu
   split at h
   ·next hr =>
    cases h
    subst hr
    rw [List.append_nil] at s1
    exact ⟨[x], rfl, by simp, s1, by simp [s2], by simp [s3], by simp⟩
   ·split at h
    ·cases h
    ·next r' hr' =>
     have e := takeB_len hr'
     subst e
     rw [utfB_ascii (by decide)] at s4
     obtain ⟨q, q1, q2, q3, q4, q5, q6⟩ := stepsP_ok f _ _ h s4
     refine ⟨x :: q, by rw [q1]; simp, by simp, ?_, by simp [s2, q4], by simp [s3, q5], by simp only [List.length_cons]; omega⟩
     rw [join_cons x q2, ← q3, s1]
theorem path_print {s : Str} {l : List Stp} (h : pathP s = some l) : printS l = some s := by
 unfold pathP at h
 split at h
 ·cases h
 ·next h1 =>
  split at h
  ·cases h
  ·next h2 =>
   have hu : utfB s = true := by simpa using h2
   split at h
   ·next h3 => cases h; subst h3; rfl
   ·obtain ⟨q, q1, q2, q3, q4, q5, q6⟩ := stepsP_ok _ _ _ h hu
    rw [List.nil_append] at q1
    subst q1
    unfold printS
    rw [q4, q5, ← q3]
    simp [q6]; omega
theorem path_all {s : Str} {l : List Stp} (h : pathP s = some l) : l.all mayB = true ∧ l.all fitB = true ∧ l.length ≤ 64 ∧ (joinT l).length ≤ 512 ∧ joinT l = s := by
 have := path_print h
 unfold printS at this
 split at this
 ·next hc =>
  simp only [Bool.and_eq_true, decide_eq_true_eq] at hc
  exact ⟨hc.1.1.1, hc.1.1.2, hc.1.2, hc.2, Option.some.inj this⟩
 ·cases this
def restF (a b : Str) : Option Str :=
 match pathP a, pathP b with
 | some l, some m => if m.length ≤ l.length ∧ l.take m.length = m then some (joinT (l.drop m.length)) else none
 | _, _ => none
def inB (a b : Str) : Bool := (restF a b).isSome
theorem join_drop_le : ∀ (l : List Stp) (k : Nat), (joinT (l.drop k)).length ≤ (joinT l).length
 | [], k => by rw [List.drop_nil]; exact Nat.le_refl _
 | x :: l, 0 => Nat.le_refl _
 | x :: l, k + 1 => by
  rw [List.drop_succ_cons]
  refine Nat.le_trans (join_drop_le l k) ?_
  by_cases h0 : l = []
  ·subst h0; exact Nat.zero_le _
  ·rw [join_cons x h0]; simp only [List.length_append, List.length_cons]; omega
theorem all_drop {p : Stp → Bool} {l : List Stp} (h : l.all p = true) (k : Nat) : (l.drop k).all p = true :=
 List.all_eq_true.2 fun x hx => List.all_eq_true.1 h x (List.mem_of_mem_drop hx)
theorem print_drop {s : Str} {l : List Stp} (h : pathP s = some l) (k : Nat) : printS (l.drop k) = some (joinT (l.drop k)) := by
 obtain ⟨h1, h2, h3, h4, h5⟩ := path_all h
 unfold printS
 rw [all_drop h1 k, all_drop h2 k]
 have := join_drop_le l k
 rw [if_pos]
 simp only [Bool.and_self, Bool.true_and, Bool.and_eq_true, decide_eq_true_eq, List.length_drop]
 omega
end Go.Proofs.YtjlfchnnhglbjaaGreat
