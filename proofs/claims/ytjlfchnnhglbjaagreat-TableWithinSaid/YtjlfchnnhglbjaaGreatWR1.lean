/- RefLow, RefKinds, RefKind, RefList, RefPut, RefSplit, RefOrd -/
import Derived.Test.YtjlfchnnhglbjaaGreatWB1
import Derived.Test.YtjlfchnnhglbjaaGreatWB4
import Derived.Deep.RegionWith
import Derived.Deep.LoopGhost
import Derived.Test.YtjlfchnnhglbjaaGreatWB3
import Derived.BigQuiet
import Derived.IntWalk
import Derived.WalkSmall
set_option linter.unusedVariables false
set_option linter.unusedSimpArgs false
namespace Go.Proofs.YtjlfchnnhglbjaaGreat
open Go.RowKit
theorem low_add (c : UInt8) : 65 ≤ (c.toNat : Int) → (c.toNat : Int) ≤ 90 → ((lowB c).toNat : Int) = (c.toNat : Int) + 32 := all_bytes (p := fun c => 65 ≤ (c.toNat : Int) → (c.toNat : Int) ≤ 90 → ((lowB c).toNat : Int) = (c.toNat : Int) + 32) (by decide +kernel) c
theorem low_not (c : UInt8) : ¬ (65 ≤ (c.toNat : Int) ∧ (c.toNat : Int) ≤ 90) → lowB c = c := fun h => lowB_no c (by omega)
theorem upp_add (c : UInt8) : 97 ≤ (c.toNat : Int) → (c.toNat : Int) ≤ 122 → ((uppB c).toNat : Int) = (c.toNat : Int) - 32 := all_bytes (p := fun c => 97 ≤ (c.toNat : Int) → (c.toNat : Int) ≤ 122 → ((uppB c).toNat : Int) = (c.toNat : Int) - 32) (by decide +kernel) c
theorem upp_not (c : UInt8) : ¬ (97 ≤ (c.toNat : Int) ∧ (c.toNat : Int) ≤ 122) → uppB c = c := fun h => uppB_no c (by omega)
set_option maxHeartbeats 1000000 in
theorem rLow_any (s : ByteArray) (w : World) (hs : s.size ≤ 1000) :
  Calls Tryz.prog 122 #[.string s] w fun e w' => e = .returned (.string ⟨(lower s.data.toList).toArray⟩) ∧ Below w.heap.size w w' := by
 have hcv := fun W => run_bytes_of_string (P := Tryz.prog) W 9 196 5 s Tryz.underlying9 Tryz.underlying196 Tryz.underlying5
 generalize hcap : grownCap w s.size 0 5 = cap at *
 have hcw := hcv w
 rw [hcap] at hcw
 clear hcv hcap
 have hrow := BytesAt.row w s cap 5
 have hbel : Below w.heap.size w ((w.alloc (.cells (bytesRow s cap) 5 ((bytesRow s cap).size, (bytesRow s cap).size + 1))).drew) := ((Below.refl _ _).alloc (Nat.le_refl _) _).drew
 go_enter Tryz.func122, Tryz.ntmps122
 go_wp2
 go_loopw [4] (fun i wr => ∃ k : Nat, k ≤ s.size ∧ i = .int .i64 k ∧ BytesAt wr w.heap.size (stt lowB s.data.toList k) ∧ Below w.heap.size w wr) (fun i _ => s.size - (intOf i).toNat)
 case atStart => exact ⟨0, Nat.zero_le _, rfl, by rw [stt_zero]; exact hrow.drew, hbel⟩
 case round =>
  obtain ⟨k, hk, rfl, hby, hbw⟩ := hrel
  clear hrow hbel hcw
  by_cases hlt : k < s.size
  ·have hc : s.data.toList[k]? = some s[k] := by simp [hlt]; rfl
   generalize s[k] = c at hc
   have h0 := hby k c (by rw [stt_get, hc]; simp)
   have HY' := hid (fun v => BytesAt.turn (v := v) hby hc)
   have HN' := hid (BytesAt.keep hby hc)
   have H1' := hid (low_add c)
   have H2' := hid (low_not c)
   have hb : (c.toNat : Int) < 256 := by have := c.toNat_lt; omega
   have hb0 : 0 ≤ (c.toNat : Int) := by omega
   have hcell := h0.1
   have hfz := h0.2
   clear h0 hby hc
   generalize (c.toNat : Int) = n at *
   have hwsz := hbw.size
   have HB := hid hbw
   clear hbw
   by_cases h : 65 ≤ n ∧ n ≤ 90
   ·obtain ⟨ha, hb'⟩ := h
    go_wp2
    go_roundw
    case rel => exact ⟨k + 1, by omega, by go_num, HY'.out _ (by rw [H1'.out ha hb']), HB.out.setCell (Nat.le_refl _) _⟩
    case measure => simp [intOf]; omega
   ·by_cases ha : 65 ≤ n
    ·have hb' : ¬ n ≤ 90 := fun x => h ⟨ha, x⟩
     clear h
     go_wp2
     go_roundw
     case rel => exact ⟨k + 1, by omega, by go_num, HN'.out (H2'.out (by omega)), HB.out⟩
     case measure => simp [intOf]; omega
    ·clear h
     go_wp2
     go_roundw
     case rel => exact ⟨k + 1, by omega, by go_num, HN'.out (H2'.out (by omega)), HB.out⟩
     case measure => simp [intOf]; omega
  ·have hback := run_convert_bytes_back (P := Tryz.prog) wr 196 9 5 ⟨w.heap.size, 0, none⟩ cap (lower s.data.toList) Tryz.underlying196 Tryz.underlying5 Tryz.underlying9 (fun j hj => by
    have := (hby j _ (by rw [stt_all _ _ _ (by simp; omega)]; exact List.getElem?_eq_getElem hj)).1
    simpa [Addr.add_lit] using this)
   rw [lower_length] at hback
   have hsz : s.data.toList.length = s.size := by simp
   rw [hsz] at hback
   clear hsz
   have HB := hid hbw
   clear hbw hby
   generalize hr : lower s.data.toList = r at *
   have HR := hid hr
   clear hr
   go_wp2
   go_ret
   exact ⟨by rw [HR.out]; rfl, HB.out⟩
set_option maxHeartbeats 1000000 in
theorem rHigh_any (s : ByteArray) (w : World) (hs : s.size ≤ 1000) :
  Calls Tryz.prog 126 #[.string s] w fun e w' => e = .returned (.string ⟨(upper s.data.toList).toArray⟩) ∧ Below w.heap.size w w' := by
 have hcv := fun W => run_bytes_of_string (P := Tryz.prog) W 9 196 5 s Tryz.underlying9 Tryz.underlying196 Tryz.underlying5
 generalize hcap : grownCap w s.size 0 5 = cap at *
 have hcw := hcv w
 rw [hcap] at hcw
 clear hcv hcap
 have hrow := BytesAt.row w s cap 5
 have hbel : Below w.heap.size w ((w.alloc (.cells (bytesRow s cap) 5 ((bytesRow s cap).size, (bytesRow s cap).size + 1))).drew) := ((Below.refl _ _).alloc (Nat.le_refl _) _).drew
 go_enter Tryz.func126, Tryz.ntmps126
 go_wp2
 go_loopw [4] (fun i wr => ∃ k : Nat, k ≤ s.size ∧ i = .int .i64 k ∧ BytesAt wr w.heap.size (stt uppB s.data.toList k) ∧ Below w.heap.size w wr) (fun i _ => s.size - (intOf i).toNat)
 case atStart => exact ⟨0, Nat.zero_le _, rfl, by rw [stt_zero]; exact hrow.drew, hbel⟩
 case round =>
  obtain ⟨k, hk, rfl, hby, hbw⟩ := hrel
  clear hrow hbel hcw
  by_cases hlt : k < s.size
  ·have hc : s.data.toList[k]? = some s[k] := by simp [hlt]; rfl
   generalize s[k] = c at hc
   have h0 := hby k c (by rw [stt_get, hc]; simp)
   have HY' := hid (fun v => BytesAt.turn (v := v) hby hc)
   have HN' := hid (BytesAt.keep hby hc)
   have H1' := hid (upp_add c)
   have H2' := hid (upp_not c)
   have hb : (c.toNat : Int) < 256 := by have := c.toNat_lt; omega
   have hb0 : 0 ≤ (c.toNat : Int) := by omega
   have hcell := h0.1
   have hfz := h0.2
   clear h0 hby hc
   generalize (c.toNat : Int) = n at *
   have hwsz := hbw.size
   have HB := hid hbw
   clear hbw
   by_cases h : 97 ≤ n ∧ n ≤ 122
   ·obtain ⟨ha, hb'⟩ := h
    go_wp2
    go_roundw
    case rel => exact ⟨k + 1, by omega, by go_num, HY'.out _ (by rw [H1'.out ha hb']), HB.out.setCell (Nat.le_refl _) _⟩
    case measure => simp [intOf]; omega
   ·by_cases ha : 97 ≤ n
    ·have hb' : ¬ n ≤ 122 := fun x => h ⟨ha, x⟩
     clear h
     go_wp2
     go_roundw
     case rel => exact ⟨k + 1, by omega, by go_num, HN'.out (H2'.out (by omega)), HB.out⟩
     case measure => simp [intOf]; omega
    ·clear h
     go_wp2
     go_roundw
     case rel => exact ⟨k + 1, by omega, by go_num, HN'.out (H2'.out (by omega)), HB.out⟩
     case measure => simp [intOf]; omega
  ·have hback := run_convert_bytes_back (P := Tryz.prog) wr 196 9 5 ⟨w.heap.size, 0, none⟩ cap (upper s.data.toList) Tryz.underlying196 Tryz.underlying5 Tryz.underlying9 (fun j hj => by
    have := (hby j _ (by rw [stt_all _ _ _ (by simp; omega)]; exact List.getElem?_eq_getElem hj)).1
    simpa [Addr.add_lit] using this)
   rw [upper_length] at hback
   have hsz : s.data.toList.length = s.size := by simp
   rw [hsz] at hback
   clear hsz
   have HB := hid hbw
   clear hbw hby
   generalize hr : upper s.data.toList = r at *
   have HR := hid hr
   clear hr
   go_wp2
   go_ret
   exact ⟨by rw [HR.out]; rfl, HB.out⟩
theorem rHigh_r (s : ByteArray) (w : World) (hs : s.size ≤ 1000) :
  Calls Tryz.prog 126 #[.string s] w fun e w' => ∃ r : ByteArray, e = .returned (.string r) ∧ Hid (r = ⟨(upper s.data.toList).toArray⟩) ∧ r.size ≤ 1000 ∧ Below w.heap.size w w' :=
 (rHigh_any s w hs).mono fun e w' h => ⟨_, h.1, rfl, by rw [Lib.size_eq]; simp [upper_length]; exact hs, h.2⟩
theorem rLow_r (s : ByteArray) (w : World) (hs : s.size ≤ 1000) :
  Calls Tryz.prog 122 #[.string s] w fun e w' => ∃ r : ByteArray, e = .returned (.string r) ∧ Hid (r = ⟨(lower s.data.toList).toArray⟩) ∧ r.size ≤ 1000 ∧ Below w.heap.size w w' :=
 (rLow_any s w hs).mono fun e w' h => ⟨_, h.1, rfl, by rw [Lib.size_eq]; simp [lower_length]; exact hs, h.2⟩
set_option maxHeartbeats 1000000 in
theorem rTitle_any (s : ByteArray) (w : World) (hs : s.size ≤ 1000) (h0 : 0 < s.size) :
  Calls Tryz.prog 125 #[.string s] w fun e w' => e = .returned (.string ⟨(title s.data.toList).toArray⟩) ∧ Below w.heap.size w w' := by
 go_enter Tryz.func125, Tryz.ntmps125
 go_wp2_with fail
 go_region_with (first | (go_at_call 126; refine (rHigh_r _ _ (by exact Nat.le_trans (extract_le s _ _) hs)).mono ?_; rintro e w1 ⟨r1, rfl, hr1, hrs1, hb1⟩) | (go_at_call 122; refine (rLow_r _ _ (by exact Nat.le_trans (extract_le s _ _) hs)).mono ?_; rintro e w2 ⟨r2, rfl, hr2, hrs2, hb2⟩))
 all_goals go_wp2
 all_goals go_ret
 all_goals refine ⟨?_, by first | exact hb1.undrew.then hb2 | exact hb2.undrew.then hb1⟩
 all_goals show Ending.returned (.string (r1 ++ r2)) = _
 all_goals rw [hr1.out, hr2.out, str_cat, title_cut]
end Go.Proofs.YtjlfchnnhglbjaaGreat
namespace Go.Proofs.YtjlfchnnhglbjaaGreat
open Go.RowKit
theorem let_int (c : UInt8) : letB c = ((decide (97 ≤ (c.toNat : Int)) && decide ((c.toNat : Int) ≤ 122)) || (decide (65 ≤ (c.toNat : Int)) && decide ((c.toNat : Int) ≤ 90))) := all_bytes (p := fun c => letB c = ((decide (97 ≤ (c.toNat : Int)) && decide ((c.toNat : Int) ≤ 122)) || (decide (65 ≤ (c.toNat : Int)) && decide ((c.toNat : Int) ≤ 90)))) (by decide +kernel) c
def mixL (l : Str) : Bool := l.all fun c => letB c || digB c
def countV (l : Str) : Value := if mixL l = true then .tuple #[.int .i64 (l.countP letB : Nat), .int .i64 (l.countP digB : Nat)] else .tuple #[.int .i64 (-1), .int .i64 (-1)]
theorem take_more (s : ByteArray) (k : Nat) (h : k < s.size) : s.data.toList.take (k + 1) = s.data.toList.take k ++ [s[k]] := by
 rw [List.take_succ_eq_append_getElem (by simpa using h)]; simp; rfl
set_option maxHeartbeats 1000000 in
theorem rcount_any (s : ByteArray) (w : World) (hs : s.size ≤ 1000) :
  Calls Tryz.prog 166 #[.string s] w fun e w' => e = .returned (countV s.data.toList) ∧ w' = w := by
 go_enter Tryz.func166, Tryz.ntmps166
 go_wp2
 go_loopg [4, 5, 6] s.size (fun g vl vd vi W => ∃ k : Nat, k ≤ s.size ∧ s.size ≤ k + g ∧ vl = .int .i64 ((s.data.toList.take k).countP letB : Nat) ∧ vd = .int .i64 ((s.data.toList.take k).countP digB : Nat) ∧ vi = .int .i64 k ∧ mixL (s.data.toList.take k) = true ∧ W = w)
 case atStart => exact ⟨0, Nat.zero_le _, by omega, by simp, by simp, rfl, by simp [mixL], rfl⟩
 case round =>
  obtain ⟨k, hk, hg, rfl, rfl, rfl, hm, rfl⟩ := hrel
  have HG := hid hg
  have hc1 : (s.data.toList.take k).countP letB ≤ 1000 := by have := List.countP_le_length (p := letB) (l := s.data.toList.take k); simp at this; omega
  have hc2 : (s.data.toList.take k).countP digB ≤ 1000 := by have := List.countP_le_length (p := digB) (l := s.data.toList.take k); simp at this; omega
  clear hg
  by_cases hlt : k < s.size
  ·have ht := take_more s k hlt
   have HL := hid (show ∀ b, letB s[k] = b → (s.data.toList.take (k + 1)).countP letB = (s.data.toList.take k).countP letB + (if b = true then 1 else 0) from fun b hb => by rw [ht, List.countP_append, ← hb]; simp [List.countP_cons])
   have HD := hid (show ∀ b, digB s[k] = b → (s.data.toList.take (k + 1)).countP digB = (s.data.toList.take k).countP digB + (if b = true then 1 else 0) from fun b hb => by rw [ht, List.countP_append, ← hb]; simp [List.countP_cons])
   have HM := hid (show (letB s[k] || digB s[k]) = true → mixL (s.data.toList.take (k + 1)) = true from fun h => by rw [ht]; unfold mixL at *; rw [List.all_append, hm]; simpa using h)
   have HN := hid (show (letB s[k] || digB s[k]) = false → mixL s.data.toList = false from fun h => by
    refine List.all_eq_false.2 ⟨s[k], ?_, by simp [h]⟩
    have : s[k] = s.data.toList[k]'(by simpa using hlt) := rfl
    rw [this]; exact List.getElem_mem _)
   have H1 := hid (let_int s[k])
   have H2 := hid (digB_int s[k])
   have H3 := hid (dig_let s[k])
   have hb : (s[k].toNat : Int) < 256 := by have := s[k].toNat_lt; omega
   have hb0 : 0 ≤ (s[k].toNat : Int) := by omega
   clear hm ht
   generalize (s.data.toList.take k).countP letB = nl at *
   generalize (s.data.toList.take k).countP digB = nd at *
   generalize hn : (s[k].toNat : Int) = n at *
   by_cases h1 : (97 ≤ n ∧ n ≤ 122) ∨ (65 ≤ n ∧ n ≤ 90)
   ·have hl : letB s[k] = true := by rw [H1.out]; simpa using h1
    have hd : digB s[k] = false := by cases hq : digB s[k] with
     | false => rfl
     | true => rw [H3.out hq] at hl; cases hl
    have e1 := hid (HL.out _ hl)
    have e2 := hid (HD.out _ hd)
    have e3 := hid (HM.out (by rw [hl]; rfl))
    clear hl hd
    go_wp2
    all_goals go_roundg (gk - 1)
    all_goals first
     | (have := HG.out; omega)
     | exact ⟨k + 1, by omega, by have := HG.out; omega, by rw [e1.out]; simp, by rw [e2.out]; simp, by simp, e3.out, rfl⟩
   ·have hl : letB s[k] = false := by rw [H1.out]; simpa using h1
    by_cases h2 : 48 ≤ n ∧ n ≤ 57
    ·have hd : digB s[k] = true := by rw [H2.out]; simpa using h2
     have e1 := hid (HL.out _ hl)
     have e2 := hid (HD.out _ hd)
     have e3 := hid (HM.out (by rw [hd]; simp))
     clear hl hd
     go_wp2
     all_goals go_roundg (gk - 1)
     all_goals first
      | (have := HG.out; omega)
      | exact ⟨k + 1, by omega, by have := HG.out; omega, by rw [e1.out]; simp, by rw [e2.out]; simp, by simp, e3.out, rfl⟩
    ·have hd : digB s[k] = false := by rw [H2.out]; simpa using h2
     have e3 := hid (HN.out (by rw [hl, hd]; rfl))
     clear hl hd
     go_wp2
     all_goals exact bodyPost_ret (v := .tuple #[.int .i64 (-1), .int .i64 (-1)]) (by simp [results, Tryz.results166, go_sem]) rfl ⟨by unfold countV; rw [e3.out]; rfl, rfl⟩
  ·have ht : s.data.toList.take k = s.data.toList := List.take_of_length_le (by simp; omega)
   rw [ht] at hm ⊢
   have HM := hid hm
   clear hm
   go_wp2
   exact bodyPost_ret (v := .tuple #[.int .i64 (s.data.toList.countP letB : Nat), .int .i64 (s.data.toList.countP digB : Nat)]) (by simp [results, Tryz.results166, go_sem]) rfl ⟨by unfold countV; rw [HM.out]; rfl, rfl⟩
def fl (b : Bool) (n : Nat) : Nat := if b = true then n else 0
def kindsF (l : Str) : Nat := fl (isLang l) 2 + fl (isScript l) 4 + fl (isRegion l) 8 + fl (isVariant l) 16 + fl (lower l == [117]) 32 + fl (isKey l) 64 + fl (isType l) 128
theorem mix_split : ∀ (l : Str), mixL l = true → l.countP letB + l.countP digB = l.length
 | [], _ => rfl
 | c :: l, h => by
  have h1 : (letB c || digB c) = true ∧ mixL l = true := by simpa [mixL] using h
  have ih := mix_split l h1.2
  have h2 := dig_let c
  rw [List.countP_cons, List.countP_cons, List.length_cons]
  cases hl : letB c <;> cases hd : digB c
  ·rw [hl, hd] at h1; simp at h1
  ·simp; omega
  ·simp; omega
  ·rw [h2 hd] at hl; cases hl
theorem all_let {l : Str} (h : mixL l = true) (h0 : l ≠ []) : allB letB l = decide (l.countP digB = 0) := by
 rw [allB_ne _ _ h0]
 have hs := mix_split l h
 rw [Bool.eq_iff_iff, decide_eq_true_eq, List.all_eq_true]
 constructor
 ·intro ha
  have := List.countP_eq_length.2 ha
  omega
 ·intro h0
  exact List.countP_eq_length.1 (by omega)
theorem all_dig {l : Str} (h : mixL l = true) (h0 : l ≠ []) : allB digB l = decide (l.countP letB = 0) := by
 rw [allB_ne _ _ h0]
 have hs := mix_split l h
 rw [Bool.eq_iff_iff, decide_eq_true_eq, List.all_eq_true]
 constructor
 ·intro ha
  have := List.countP_eq_length.2 ha
  omega
 ·intro h0
  exact List.countP_eq_length.1 (by omega)
theorem mixedB_mix {l : Str} (h : mixL l = true) (a b : Nat) : mixedB l a b = (decide (a ≤ l.length) && decide (l.length ≤ b)) := by
 unfold mixedB
 rw [show (l.all fun c => letB c || digB c) = true from h, Bool.and_true]
theorem mixedB_not {l : Str} (h : mixL l = false) (a b : Nat) : mixedB l a b = false := by
 unfold mixedB
 rw [show (l.all fun c => letB c || digB c) = false from h, Bool.and_false, Bool.and_false]
theorem allL_not {l : Str} (h : mixL l = false) : allB letB l = false := by
 by_cases ha : allB letB l = true
 ·unfold allB at ha
  simp only [Bool.and_eq_true, List.all_eq_true] at ha
  rw [show mixL l = true from List.all_eq_true.2 fun c hc => by rw [ha.1 c hc]; rfl] at h
  cases h
 ·simpa using ha
theorem allD_not {l : Str} (h : mixL l = false) : allB digB l = false := by
 by_cases ha : allB digB l = true
 ·unfold allB at ha
  simp only [Bool.and_eq_true, List.all_eq_true] at ha
  rw [show mixL l = true from List.all_eq_true.2 fun c hc => by rw [ha.1 c hc]; simp] at h
  cases h
 ·simpa using ha
theorem low_u {l : Str} (h : lower l = [117]) : l = [117] ∨ l = [85] := by
 have h1 := congrArg List.length h
 rw [lower_length] at h1
 match l, h1 with
 | [c], _ =>
  have h2 : lowB c = 117 := by simpa [lower] using h
  have := all_bytes (p := fun c => lowB c = 117 → c = 117 ∨ c = 85) (by decide +kernel) c h2
  rcases this with rfl | rfl
  ·exact Or.inl rfl
  ·exact Or.inr rfl
theorem kinds_not {l : Str} (h : mixL l = false) : kindsF l = 0 := by
 have hu : (lower l == [117]) = false := by
  rw [beq_eq_false_iff_ne]
  intro he
  rcases low_u he with rfl | rfl <;> revert h <;> decide
 unfold kindsF
 rw [hu]
 unfold isLang isScript isRegion isVariant isKey isType lettersB
 rw [mixedB_not h, mixedB_not h, mixedB_not h, mixedB_not h, allL_not h, allD_not h]
 simp [fl]
theorem kinds_yes {l : Str} (h : mixL l = true) (h0 : l ≠ []) : kindsF l =
  fl (decide (l.countP digB = 0) && (l.length == 2 || l.length == 3 || (decide (5 ≤ l.length) && decide (l.length ≤ 8)))) 2 +
  fl (l.length == 4 && decide (l.countP digB = 0)) 4 +
  fl ((l.length == 2 && decide (l.countP digB = 0)) || (l.length == 3 && decide (l.countP letB = 0))) 8 +
  fl ((decide (5 ≤ l.length) && decide (l.length ≤ 8)) || (decide (4 ≤ l.length) && decide (l.length ≤ 4) && allB digB (l.take 1))) 16 +
  fl (lower l == [117]) 32 + fl ((decide (2 ≤ l.length) && decide (l.length ≤ 2)) && allB letB (l.drop 1)) 64 + fl (decide (3 ≤ l.length) && decide (l.length ≤ 8)) 128 := by
 unfold kindsF isLang isScript isRegion isVariant isKey isType lettersB
 rw [mixedB_mix h, mixedB_mix h, mixedB_mix h, mixedB_mix h, all_let h h0, all_dig h h0]
end Go.Proofs.YtjlfchnnhglbjaaGreat
namespace Go.Proofs.YtjlfchnnhglbjaaGreat
open Go.RowKit
theorem take_one (s : ByteArray) (h : 0 < s.size) : s.data.toList.take 1 = [s[0]] := by
 have := take_more s 0 h
 simpa using this
theorem drop_one (s : ByteArray) (h : s.size = 2) : s.data.toList.drop 1 = [s[1]] := by
 rw [List.drop_eq_getElem_cons (by simpa using (by omega : 1 < s.size)), List.drop_of_length_le (by simp; omega)]
 rfl
theorem let_of_mix {s : ByteArray} (h : mixL s.data.toList = true) (h1 : 1 < s.size) : letB s[1] = !digB s[1] := by
 have hm : s[1] ∈ s.data.toList := by
  have : s[1] = s.data.toList[1]'(by simpa using h1) := rfl
  rw [this]; exact List.getElem_mem _
 have h2 := List.all_eq_true.1 h _ hm
 have h3 := dig_let s[1]
 cases hd : digB s[1]
 ·rw [hd, Bool.or_false] at h2; rw [h2]; rfl
 ·rw [h3 hd]; rfl
set_option maxHeartbeats 4000000 in
theorem rKinds_any (s : ByteArray) (w : World) (hs : s.size ≤ 1000) :
  Calls Tryz.prog 124 #[.string s] w fun e w' => e = .returned (.int .i64 (kindsF s.data.toList : Nat)) ∧ Below w.heap.size w w' := by
 have h1 := rcount_any s w hs
 have h2 := hid (fun W => rLow_any s W hs)
 have hl : s.data.toList.length = s.size := by simp
 cases hm : mixL s.data.toList
 ·have hk := kinds_not hm
  unfold countV at h1
  rw [hm] at h1
  rw [hk]
  clear hm hk
  go_enter Tryz.func124, Tryz.ntmps124
  go_wp2_with fail
  refine h1.mono ?_
  rintro e w' ⟨rfl, rfl⟩
  go_wp2_with fail
  go_ret
  exact ⟨rfl, Below.refl _ _⟩
 ·by_cases h0 : s.size = 0
  ·have hnil : s.data.toList = [] := List.eq_nil_of_length_eq_zero (by omega)
   unfold countV at h1
   rw [hm] at h1
   rw [hnil] at h1 ⊢
   clear hm
   go_enter Tryz.func124, Tryz.ntmps124
   go_wp2_with fail
   refine h1.mono ?_
   rintro e w' ⟨rfl, rfl⟩
   go_wp2_with fail
   go_ret
   exact ⟨rfl, Below.refl _ _⟩
  ·have hnil : s.data.toList ≠ [] := fun e => h0 (by rw [← hl, e]; rfl)
   have hk := kinds_yes hm hnil
   unfold countV at h1
   rw [hm] at h1
   have hc1 : s.data.toList.countP letB ≤ 1000 := by have := List.countP_le_length (p := letB) (l := s.data.toList); omega
   have hc2 : s.data.toList.countP digB ≤ 1000 := by have := List.countP_le_length (p := digB) (l := s.data.toList); omega
   have hu : s.size ≠ 1 → (lower s.data.toList == [117]) = false := fun hne => by
    rw [beq_eq_false_iff_ne]; intro he
    have := congrArg List.length he
    rw [lower_length, hl] at this
    exact hne (by simpa using this)
   rw [hl] at hk
   have HM := hid hm
   clear hm
   generalize hlo : lower s.data.toList = lo at *
   generalize s.data.toList.countP letB = nl at *
   generalize s.data.toList.countP digB = nd at *
   have H2 := h2
   clear h2
   rcases (by omega : s.size = 1 ∨ s.size = 2 ∨ s.size = 3 ∨ s.size = 4 ∨ (5 ≤ s.size ∧ s.size ≤ 8) ∨ 9 ≤ s.size) with hn | hn | hn | hn | ⟨hn, hn2⟩ | hn
   ·have hk1 : kindsF s.data.toList = fl (lo == [117]) 32 := by rw [hk, hn]; simp [fl]
    rw [hk1]
    clear hk hk1 hlo hu h0 hnil
    by_cases hu : lo = [117]
    ·have hub : (lo == [117]) = true := by rw [hu]; rfl
     clear hu
     go_enter Tryz.func124, Tryz.ntmps124
     go_wp2_with fail
     refine h1.mono ?_
     rintro e w' ⟨rfl, rfl⟩
     go_wp2_with fail
     all_goals (refine (H2.out _).mono ?_; rintro e w2 ⟨rfl, hb2⟩)
     all_goals go_wp2_with fail
     all_goals go_ret
     all_goals refine ⟨?_, hb2⟩
     all_goals first | (exfalso; omega) | (simp [fl, *]; done) | (simp [fl, *]; decide) | (simp [fl, *]; rw [if_neg (by omega)]; decide) | (simp [fl, *]; rw [if_pos (by omega)]; decide)
    ·have hub : (lo == [117]) = false := by rw [beq_eq_false_iff_ne]; exact hu
     clear hu
     go_enter Tryz.func124, Tryz.ntmps124
     go_wp2_with fail
     refine h1.mono ?_
     rintro e w' ⟨rfl, rfl⟩
     go_wp2_with fail
     all_goals (refine (H2.out _).mono ?_; rintro e w2 ⟨rfl, hb2⟩)
     all_goals go_wp2_with fail
     all_goals go_ret
     all_goals refine ⟨?_, hb2⟩
     all_goals first | (exfalso; omega) | (simp [fl, *]; done) | (simp [fl, *]; decide) | (simp [fl, *]; rw [if_neg (by omega)]; decide) | (simp [fl, *]; rw [if_pos (by omega)]; decide)
   ·have hk1 : kindsF s.data.toList = fl (decide (nd = 0)) 2 + fl (decide (nd = 0)) 8 + fl (!digB s[1]) 64 := by rw [hk, hu (by omega), drop_one s hn, allB_one, let_of_mix HM.out (by omega)]; simp [fl, hn]
    have hu2 : (lo == [117]) = false := hu (by omega)
    rw [hk1, digB_int]
    have hx0 : 0 ≤ (s[1].toNat : Int) := by omega
    clear hk hk1 hlo hu h0 hnil
    generalize hx : (s[1].toNat : Int) = x at *
    go_enter Tryz.func124, Tryz.ntmps124
    go_wp2_with fail
    refine h1.mono ?_
    rintro e w' ⟨rfl, rfl⟩
    go_wp2_with fail
    all_goals (refine (H2.out _).mono ?_; rintro e w2 ⟨rfl, hb2⟩)
    all_goals go_wp2_with fail
    all_goals go_ret
    all_goals refine ⟨?_, hb2⟩
    all_goals first | (exfalso; omega) | (simp [fl, *]; done) | (simp [fl, *]; decide) | (simp [fl, *]; rw [if_neg (by omega)]; decide) | (simp [fl, *]; rw [if_pos (by omega)]; decide)
   ·have hk1 : kindsF s.data.toList = fl (decide (nd = 0)) 2 + fl (decide (nl = 0)) 8 + 128 := by rw [hk, hu (by omega), hn]; simp [fl]
    have hu2 : (lo == [117]) = false := hu (by omega)
    rw [hk1]
    clear hk hk1 hlo hu h0 hnil
    go_enter Tryz.func124, Tryz.ntmps124
    go_wp2_with fail
    refine h1.mono ?_
    rintro e w' ⟨rfl, rfl⟩
    go_wp2_with fail
    all_goals (refine (H2.out _).mono ?_; rintro e w2 ⟨rfl, hb2⟩)
    all_goals go_wp2_with fail
    all_goals go_ret
    all_goals refine ⟨?_, hb2⟩
    all_goals first | (exfalso; omega) | (simp [fl, *]; done) | (simp [fl, *]; decide) | (simp [fl, *]; rw [if_neg (by omega)]; decide) | (simp [fl, *]; rw [if_pos (by omega)]; decide)
   ·have hk1 : kindsF s.data.toList = fl (decide (nd = 0)) 4 + fl (digB s[0]) 16 + 128 := by rw [hk, hu (by omega), take_one s (by omega), allB_one]; simp [fl, hn]
    have hu2 : (lo == [117]) = false := hu (by omega)
    rw [hk1, digB_int]
    have hx0 : 0 ≤ (s[0].toNat : Int) := by omega
    clear hk hk1 hlo hu h0 hnil
    generalize hx : (s[0].toNat : Int) = x at *
    go_enter Tryz.func124, Tryz.ntmps124
    go_wp2_with fail
    refine h1.mono ?_
    rintro e w' ⟨rfl, rfl⟩
    go_wp2_with fail
    all_goals (refine (H2.out _).mono ?_; rintro e w2 ⟨rfl, hb2⟩)
    all_goals go_wp2_with fail
    all_goals go_ret
    all_goals refine ⟨?_, hb2⟩
    all_goals first | (exfalso; omega) | (simp [fl, *]; done) | (simp [fl, *]; decide) | (simp [fl, *]; rw [if_neg (by omega)]; decide) | (simp [fl, *]; rw [if_pos (by omega)]; decide)
   ·have hz0 : ((s.size : Int) == 0) = false := by rw [beq_eq_false_iff_ne]; omega
    have hz2 : ((s.size : Int) == 2) = false := by rw [beq_eq_false_iff_ne]; omega
    have hz3 : ((s.size : Int) == 3) = false := by rw [beq_eq_false_iff_ne]; omega
    have hz4 : ((s.size : Int) == 4) = false := by rw [beq_eq_false_iff_ne]; omega
    have hk1 : kindsF s.data.toList = fl (decide (nd = 0)) 2 + 16 + 128 := by rw [hk, hu (by omega)]; simp [fl, hn, hn2, show ¬ s.size = 2 by omega, show ¬ s.size = 3 by omega, show ¬ s.size = 4 by omega, show 3 ≤ s.size by omega, show ¬ s.size ≤ 2 by omega]
    have hu2 : (lo == [117]) = false := hu (by omega)
    rw [hk1]
    clear hk hk1 hlo hu h0 hnil
    go_enter Tryz.func124, Tryz.ntmps124
    go_wp2_with fail
    refine h1.mono ?_
    rintro e w' ⟨rfl, rfl⟩
    go_wp2_with fail
    all_goals (refine (H2.out _).mono ?_; rintro e w2 ⟨rfl, hb2⟩)
    all_goals go_wp2_with fail
    all_goals go_ret
    all_goals refine ⟨?_, hb2⟩
    all_goals first | (exfalso; omega) | (simp [fl, *]; done) | (simp [fl, *]; decide) | (simp [fl, *]; rw [if_neg (by omega)]; decide) | (simp [fl, *]; rw [if_pos (by omega)]; decide)
   ·have hz0 : ((s.size : Int) == 0) = false := by rw [beq_eq_false_iff_ne]; omega
    have hz2 : ((s.size : Int) == 2) = false := by rw [beq_eq_false_iff_ne]; omega
    have hz3 : ((s.size : Int) == 3) = false := by rw [beq_eq_false_iff_ne]; omega
    have hz4 : ((s.size : Int) == 4) = false := by rw [beq_eq_false_iff_ne]; omega
    have hk1 : kindsF s.data.toList = 0 := by rw [hk, hu (by omega)]; simp [fl, show ¬ s.size = 2 by omega, show ¬ s.size = 3 by omega, show ¬ s.size = 4 by omega, show ¬ s.size ≤ 8 by omega, show ¬ s.size ≤ 2 by omega, show ¬ s.size ≤ 4 by omega]
    have hu2 : (lo == [117]) = false := hu (by omega)
    rw [hk1]
    clear hk hk1 hlo hu h0 hnil
    go_enter Tryz.func124, Tryz.ntmps124
    go_wp2_with fail
    refine h1.mono ?_
    rintro e w' ⟨rfl, rfl⟩
    go_wp2_with fail
    all_goals (refine (H2.out _).mono ?_; rintro e w2 ⟨rfl, hb2⟩)
    all_goals go_wp2_with fail
    all_goals go_ret
    all_goals refine ⟨?_, hb2⟩
    all_goals first | (exfalso; omega) | (simp [fl, *]; done) | (simp [fl, *]; decide) | (simp [fl, *]; rw [if_neg (by omega)]; decide) | (simp [fl, *]; rw [if_pos (by omega)]; decide)
end Go.Proofs.YtjlfchnnhglbjaaGreat
namespace Go.Proofs.YtjlfchnnhglbjaaGreat
open Go.RowKit Go.Lib Go.Sort
theorem cell_two_new (w : World) (a b : Value) (e : TypeId) (j : Nat) (u : Value) (h : [a, b][j]? = some u) : (w.alloc (.cells #[a, b] e)).cell? ((⟨w.heap.size, 0, none⟩ : Addr).add j) = some u := by
 have hr := heap_alloc_new w (.cells #[a, b] e)
 have hx := cell_of_row _ _ j _ _ _ hr
 have hadd : ((⟨w.heap.size, 0, none⟩ : Addr).add j) = ⟨w.heap.size, j, none⟩ := by
  unfold Addr.add
  split
  ·next e => subst e; rfl
  ·simp
 rw [hadd, hx]
 match j, h with
 | 0, h => simpa using h
 | 1, h => simpa using h
theorem wpList_pushP {w : World} {ops : Array Oper} {rest : List Oper} {o : Oper} {a : Act} {Q : Exit → Act → World → Prop} (hgd : o.guard = none) (s x : Operand)
  (ho : o.op = .call { callee := .builtin .append, args := #[s, x], argTypes := #[43, 43] })
  (B : Nat) (v : Value) (l : List (Str × Str)) (y : Str × Str) (hs : a.eval s = v) (hown : OwnP w B v l) (hx : a.eval x = .slice (some ⟨w.heap.size, 0, none⟩) 1 1) (hl : l.length ≤ 1000000) (hB : B ≤ w.heap.size)
  (h : ∀ v' w', OwnP w' B v' (l ++ [y]) → w.grownBy w' v.ownBlock → Moved w v v' → wpList Tryz.prog ops Q rest (a.put o.dst v') w') :
  wpList Tryz.prog ops Q (o :: rest) a (w.alloc (.cells #[.string ⟨y.1.toArray⟩, .string ⟨y.2.toArray⟩] 48)) := by
 obtain ⟨i0, hi, hz0, hz1, hz2⟩ := info_parts infoP
 refine wpList_app hgd s x 43 ho B 48 i0 (.agg #[.string ⟨#[]⟩, .string ⟨#[]⟩]) 2 32 Tryz.underlying43 hi hz0 hz1 hz2 rfl (by decide) v l.length (flat2 l) hs (World.ownsRow.alloc hown _) ⟨w.heap.size, 0, none⟩ 1 1 [.string ⟨y.1.toArray⟩, .string ⟨y.2.toArray⟩] hx rfl (cell_two_new _ _ _ _) (fun u hu => by simp at hu; rcases hu with rfl | rfl <;> rfl) (by unfold maxLen; omega) (by omega) (by simp; omega) ?_
 intro v' w' own gr mv
 refine h v' w' (own_cast own (by simp) (by simp [flat2, enc2, S])) ⟨gr.os, gr.tape, gr.output, Nat.le_trans (by simp) gr.size, fun k hk hne => ?_⟩ ?_
 ·rw [gr.block k (by simp; omega) hne]; exact heap_alloc_old _ _ hk
 ·rcases mv with m | ⟨k, h1, h2⟩
  ·exact Or.inl m
  ·exact Or.inr ⟨k, h1, by simp at h2; omega⟩
theorem take_cont (l : List Str) (n : Nat) (h : n < l.length) (s : Str) : (l.take (n + 1)).contains s = ((l.take n).contains s || (s == l[n])) := by
 have e : l.take (n + 1) = l.take n ++ [l[n]] := by rw [List.take_add_one, List.getElem?_eq_getElem h]; rfl
 rw [e]
 generalize l[n] = y
 generalize l.take n = m
 rw [Bool.eq_iff_iff]
 simp
theorem cont_get {l : List Str} {n : Nat} {s : Str} (h : n < l.length) (e : l[n] = s) : l.contains s = true := by
 rw [List.contains_iff_mem, ← e]
 exact List.getElem_mem _
set_option maxHeartbeats 1000000 in
theorem rhas_any (w : World) (v : Value) (l : List Str) (s : Str) (h : RdS w v l) (hl : l.length ≤ 1000) :
  Calls Tryz.prog 127 #[v, .string ⟨s.toArray⟩] w fun e w' => e = .returned (.bool (l.contains s)) ∧ w' = w := by
 obtain ⟨ao, cp, rfl, hz, hr⟩ := h
 go_enter Tryz.func127, Tryz.ntmps127
 go_wp2
 go_loopg [5] l.length (fun g vi W => ∃ n : Nat, n ≤ l.length ∧ l.length ≤ n + g ∧ vi = .int .i64 n ∧ (l.take n).contains s = false ∧ W = w)
 case atStart => exact ⟨0, Nat.zero_le _, by omega, rfl, by simp, rfl⟩
 case round =>
  obtain ⟨n, hn, hg, rfl, hc, rfl⟩ := hrel
  have HG := hid hg
  clear hg
  by_cases hlt : n < l.length
  ·have hne : l ≠ [] := by rintro rfl; simp at hlt
   obtain ⟨b, off, rfl, hbl, hcell⟩ := hr hne
   have c0 := hcell n _ (List.getElem?_eq_getElem hlt)
   have ht := take_cont l n hlt s
   have hq := cont_get (s := s) hlt
   generalize l[n] = y at *
   rw [S] at c0
   have HT := hid ht
   have HQ := hid hq
   have HC := hid hc
   clear ht hq hc hcell hr hz hne
   by_cases hy : y = s
   ·have hb : (y == s) = true := by rw [hy]; simp
    have HY := hid (HQ.out hy)
    clear hy
    go_wp2
    go_ret
    exact ⟨by rw [HY.out]; rfl, rfl⟩
   ·have hb : (y == s) = false := by rw [beq_eq_false_iff_ne]; exact hy
    have HY := hid hy
    clear hy
    go_wp2
    go_roundg (gk - 1)
    case measure => have := HG.out; omega
    case rel => exact ⟨n + 1, by omega, by have := HG.out; omega, by simp, by rw [HT.out, HC.out, Bool.false_or, beq_eq_false_iff_ne]; exact fun e => HY.out e.symm, rfl⟩
  ·have ht : l.take n = l := List.take_of_length_le (by omega)
   rw [ht] at hc
   have HC := hid hc
   clear hc ht
   go_wp2
   go_ret
   exact ⟨by rw [HC.out]; rfl, rfl⟩
theorem take_any (l : List (Str × Str)) (n : Nat) (h : n < l.length) (s : Str) : (l.take (n + 1)).any (fun p => p.1 == s) = ((l.take n).any (fun p => p.1 == s) || (l[n].1 == s)) := by
 have e : l.take (n + 1) = l.take n ++ [l[n]] := by rw [List.take_add_one, List.getElem?_eq_getElem h]; rfl
 rw [e, List.any_append]
 simp
theorem any_get {l : List (Str × Str)} {n : Nat} {s : Str} (h : n < l.length) (e : l[n].1 = s) : l.any (fun p => p.1 == s) = true :=
 List.any_eq_true.2 ⟨l[n], List.getElem_mem _, by simp [e]⟩
def FindV (l : List (Str × Str)) (s : Str) (r : Int) : Prop := (l.any (fun p => p.1 == s) = true ∧ 0 ≤ r ∧ r < l.length) ∨ (l.any (fun p => p.1 == s) = false ∧ r = -1)
set_option maxHeartbeats 1000000 in
theorem rfind_any (w : World) (v : Value) (l : List (Str × Str)) (s : Str) (h : RdP w v l) (hl : l.length ≤ 1000) :
  Calls Tryz.prog 129 #[v, .string ⟨s.toArray⟩] w fun e w' => ∃ r, e = .returned (.int .i64 r) ∧ FindV l s r ∧ w' = w := by
 obtain ⟨ao, cp, rfl, hz, hr⟩ := h
 go_enter Tryz.func129, Tryz.ntmps129
 go_wp2
 go_loopg [5] l.length (fun g vi W => ∃ n : Nat, n ≤ l.length ∧ l.length ≤ n + g ∧ vi = .int .i64 n ∧ (l.take n).any (fun p => p.1 == s) = false ∧ W = w)
 case atStart => exact ⟨0, Nat.zero_le _, by omega, rfl, by simp, rfl⟩
 case round =>
  obtain ⟨n, hn, hg, rfl, hc, rfl⟩ := hrel
  have HG := hid hg
  clear hg
  by_cases hlt : n < l.length
  ·have hne : l ≠ [] := by rintro rfl; simp at hlt
   obtain ⟨b, off, rfl, hbl, hcell⟩ := hr hne
   have c0 := hcell n 0 (.string ⟨l[n].1.toArray⟩) hlt rfl
   have ht := take_any l n hlt s
   have hq := any_get (s := s) hlt
   generalize l[n].1 = y at *
   rw [Nat.add_zero] at c0
   have HT := hid ht
   have HQ := hid hq
   have HC := hid hc
   clear ht hq hc hcell hr hz hne
   by_cases hy : y = s
   ·have hb : (y == s) = true := by rw [hy]; simp
    have HY := hid (HQ.out hy)
    clear hy
    go_wp2
    go_ret
    exact ⟨_, rfl, Or.inl ⟨HY.out, by omega, by omega⟩, rfl⟩
   ·have hb : (y == s) = false := by rw [beq_eq_false_iff_ne]; exact hy
    have HY := hid hb
    clear hy
    go_wp2
    go_roundg (gk - 1)
    case measure => have := HG.out; omega
    case rel => exact ⟨n + 1, by omega, by have := HG.out; omega, by simp, by rw [HT.out, HC.out, HY.out]; rfl, rfl⟩
  ·have ht : l.take n = l := List.take_of_length_le (by omega)
   rw [ht] at hc
   have HC := hid hc
   clear hc ht
   go_wp2
   go_ret
   exact ⟨_, rfl, Or.inr ⟨HC.out, rfl⟩, rfl⟩
end Go.Proofs.YtjlfchnnhglbjaaGreat
namespace Go.Proofs.YtjlfchnnhglbjaaGreat
open Go.RowKit Go.Lib Go.Sort
def putF : List Str → Str → List Str
 | [], s => [s]
 | x :: l, s => if x < s then x :: putF l s else s :: x :: l
theorem putF_cut : ∀ (l : List Str) (m : Nat) (s : Str), m ≤ l.length → (∀ y ∈ l.take m, y < s) → (∀ (h : m < l.length), ¬ l[m] < s) → putF l s = l.take m ++ s :: l.drop m
 | [], m, s, _, _, _ => by simp [putF]
 | x :: l, 0, s, _, _, h => by
  have := h (by simp)
  simp only [putF]
  rw [if_neg (by simpa using this)]
  simp
 | x :: l, m + 1, s, hm, h1, h2 => by
  simp only [putF]
  rw [if_pos (h1 x (by simp)), putF_cut l m s (by simpa using hm) (fun y hy => h1 y (by simp [hy])) (fun h => by have := h2 (by simpa using h); simpa using this)]
  simp
set_option maxRecDepth 100000 in
set_option maxHeartbeats 4000000 in
theorem rput_any (w : World) (v : Value) (l : List Str) (s : Str) (h : RdS w v l) (hl : l.length ≤ 1000) :
  Calls Tryz.prog 128 #[v, .string ⟨s.toArray⟩] w fun e w' => ∃ v', e = .returned v' ∧ OwnS w' w.heap.size v' (putF l s) ∧ Below w.heap.size w w' := by
 obtain ⟨ao, cp, rfl, hz, hr⟩ := h
 go_enter Tryz.func128, Tryz.ntmps128
 go_wp2_with fail
 go_loopg [5, 6] l.length (fun g vo vi W => ∃ n : Nat, n ≤ l.length ∧ l.length ≤ n + g ∧ vi = .int .i64 n ∧ (∀ y ∈ l.take n, y < s) ∧ OwnS W w.heap.size vo (l.take n) ∧ Below w.heap.size w W)
 case atStart => exact ⟨0, Nat.zero_le _, by omega, rfl, by simp, World.ownsRow_nil _ _ _ _, Below.refl _ _⟩
 case round =>
  obtain ⟨n, hn, hg, rfl, hall, ow, hb⟩ := hrel
  have HG := hid hg
  have HA := hid hall
  have HO := hid ow
  have HB := hid hb
  have hws := hb.size
  have HR := hid hr
  clear hg hall ow hb
  by_cases hlt : n < l.length
  ·have hne : l ≠ [] := by rintro rfl; simp at hlt
   obtain ⟨b, off, rfl, hbl, hcell⟩ := hr hne
   have c0 := (HB.out.cell (p := ⟨b, off + n, none⟩) hbl).trans (hcell n _ (List.getElem?_eq_getElem hlt))
   have ht : l.take (n + 1) = l.take n ++ [l[n]] := by rw [List.take_add_one, List.getElem?_eq_getElem hlt]; rfl
   obtain ⟨y, hy⟩ : ∃ y, y = l[n] := ⟨_, rfl⟩
   rw [← hy] at ht c0
   rw [S] at c0
   have HT := hid ht
   have HC := hid hcell
   have HY := hid hy
   clear ht hcell hy hr hne
   by_cases hys : y < s
   ·have hbl2 : Op.bytesLess y s = true := by rw [Proofs.bytesLess_eq]; exact decide_eq_true hys
    have HYS := hid hys
    clear hys
    go_wp2_with (at_builtin; refine wpList_pushS rfl (.tmp 19) (.tmp 24) rfl w.heap.size u5 _ y rfl HO.out rfl ?ca1 ?ca2 ?_)
    case ca1 => simp; omega
    case ca2 => exact hws
    intro v2 w2 own2 gr2 mv2
    have hb2 := HB.out.grown gr2 hws (fun k hk => (World.ownsRow.lt HO.out k hk).1)
    have O2 := hid own2
    have HB2 := hid hb2
    clear own2 gr2 mv2 hb2 c0
    go_wp2_with fail
    go_roundg (gk - 1)
    case measure => have := HG.out; omega
    case rel => exact ⟨n + 1, by omega, by have := HG.out; omega, by simp, by rw [HT.out]; intro z hz; rcases List.mem_append.1 hz with hz | hz; exact HA.out z hz; rw [List.mem_singleton.1 hz]; exact HYS.out, by rw [HT.out]; exact O2.out, HB2.out⟩
   ·have hbl2 : Op.bytesLess y s = false := by rw [Proofs.bytesLess_eq]; exact decide_eq_false hys
    have hcut := putF_cut l n s hn HA.out (fun h => by rw [← HY.out]; exact hys)
    have HCUT := hid hcut
    clear hcut hys
    clear HC
    go_wp2_with (at_builtin; refine wpList_pushS rfl (.tmp 28) (.tmp 30) rfl w.heap.size u5 _ s rfl HO.out rfl ?cb1 ?cb2 ?_)
    case cb1 => simp; omega
    case cb2 => exact hws
    intro v2 w2 own2 gr2 mv2
    have hb2 := HB.out.grown gr2 hws (fun k hk => (World.ownsRow.lt HO.out k hk).1)
    have O2 := hid own2
    have HB2 := hid hb2
    clear own2 gr2 mv2 hb2 HO HB hws HG HA
    go_wp2_with fail
    go_loopg [5, 6] l.length (fun g vo vi W => ∃ m : Nat, n ≤ m ∧ m ≤ l.length ∧ l.length ≤ m + g ∧ vi = .int .i64 m ∧ OwnS W w.heap.size vo (l.take n ++ s :: (l.take m).drop n) ∧ Below w.heap.size w W)
    case atStart => exact ⟨n, Nat.le_refl _, hn, by omega, by first | rfl | (have := HNL.out; simp [this]), by rw [List.drop_of_length_le (by rw [List.length_take]; omega)]; exact O2.out, HB2.out⟩
    case round =>
     obtain ⟨m, hnm, hm, hg2, rfl, ow2, hb3⟩ := hrel
     have HG2 := hid hg2
     have HO3 := hid ow2
     have HB3 := hid hb3
     have hws3 := hb3.size
     clear hg2 ow2 hb3 O2 HB2
     by_cases hlt2 : m < l.length
     ·have hne : l ≠ [] := by rintro rfl; simp at hlt2
      obtain ⟨b2, off2, e2, hbl3, hcell2⟩ := HR.out hne
      have c2 := (HB3.out.cell (p := ⟨b2, off2 + m, none⟩) hbl3).trans (hcell2 m _ (List.getElem?_eq_getElem hlt2))
      cases e2
      have ht2 : (l.take (m + 1)).drop n = (l.take m).drop n ++ [l[m]] := by
       rw [List.take_add_one, List.getElem?_eq_getElem hlt2, List.drop_append_of_le_length (by simp; omega)]; rfl
      obtain ⟨z, hz2⟩ : ∃ z, z = l[m] := ⟨_, rfl⟩
      rw [← hz2] at ht2 c2
      rw [S] at c2
      have HT2 := hid ht2
      clear ht2 hcell2 hz2
      go_wp2_with (at_builtin; refine wpList_pushS rfl (.tmp 36) (.tmp 41) rfl w.heap.size _ _ z rfl HO3.out rfl ?cc1 ?cc2 ?_)
      case cc1 => simp; omega
      case cc2 => exact hws3
      intro v4 w4 own4 gr4 mv4
      have hb4 := HB3.out.grown gr4 hws3 (fun k hk => (World.ownsRow.lt HO3.out k hk).1)
      have O4 := hid own4
      have HB4 := hid hb4
      clear own4 gr4 mv4 hb4 c2
      go_wp2_with fail
      go_roundg (gk - 1)
      case measure => have := HG2.out; omega
      case rel => exact ⟨m + 1, by omega, by omega, by have := HG2.out; omega, by simp, by rw [HT2.out]; simpa using O4.out, HB4.out⟩
     ·obtain rfl : m = l.length := by omega
      have hfin : l.take n ++ s :: (l.take l.length).drop n = putF l s := by rw [HCUT.out, List.take_length]
      have HO5 := hid (hfin ▸ HO3.out)
      clear HO3 hfin
      go_wp2_with fail
      go_ret
      exact ⟨_, rfl, HO5.out, HB3.out⟩
  ·have HNL := hid (show n = l.length by omega)
   have hcut := putF_cut l n s hn HA.out (fun h => absurd h hlt)
   have HCUT := hid hcut
   clear hcut hr
   go_wp2_with (at_builtin; refine wpList_pushS rfl (.tmp 28) (.tmp 30) rfl w.heap.size u5 _ s rfl HO.out rfl ?cb1 ?cb2 ?_)
   case cb1 => simp; omega
   case cb2 => exact hws
   intro v2 w2 own2 gr2 mv2
   have hb2 := HB.out.grown gr2 hws (fun k hk => (World.ownsRow.lt HO.out k hk).1)
   have O2 := hid own2
   have HB2 := hid hb2
   clear own2 gr2 mv2 hb2 HO HB hws HG HA
   go_wp2_with fail
   go_loopg [5, 6] l.length (fun g vo vi W => ∃ m : Nat, n ≤ m ∧ m ≤ l.length ∧ l.length ≤ m + g ∧ vi = .int .i64 m ∧ OwnS W w.heap.size vo (l.take n ++ s :: (l.take m).drop n) ∧ Below w.heap.size w W)
   case atStart => exact ⟨n, Nat.le_refl _, hn, by omega, by first | rfl | (have := HNL.out; simp [this]), by rw [List.drop_of_length_le (by rw [List.length_take]; omega)]; exact O2.out, HB2.out⟩
   case round =>
    obtain ⟨m, hnm, hm, hg2, rfl, ow2, hb3⟩ := hrel
    have HG2 := hid hg2
    have HO3 := hid ow2
    have HB3 := hid hb3
    have hws3 := hb3.size
    clear hg2 ow2 hb3 O2 HB2
    by_cases hlt2 : m < l.length
    ·exfalso; omega
    ·obtain rfl : m = l.length := by omega
     have hfin : l.take n ++ s :: (l.take l.length).drop n = putF l s := by rw [HCUT.out, List.take_length]
     have HO5 := hid (hfin ▸ HO3.out)
     clear HO3 hfin
     go_wp2_with fail
     go_ret
     exact ⟨_, rfl, HO5.out, HB3.out⟩
end Go.Proofs.YtjlfchnnhglbjaaGreat
namespace Go.Proofs.YtjlfchnnhglbjaaGreat
open Go.RowKit Go.Lib Go.Sort
def cutU : Nat → Nat → Str → List (Str × Nat)
 | 0, _, _ => []
 | n + 1, p, l => (l.takeWhile noSep, p) :: (match l.dropWhile noSep with
   | [] => []
   | _ :: r => cutU n (p + (l.takeWhile noSep).length + 1) r)
theorem cutU_more : ∀ (n m p : Nat) (l : Str), l.length < n → l.length < m → cutU n p l = cutU m p l
 | 0, _, _, _, h, _ => by omega
 | _ + 1, 0, _, _, _, h => by omega
 | n + 1, m + 1, p, l, h1, h2 => by
  have := take_drop_len l
  simp only [cutU]
  congr 1
  cases hd : l.dropWhile noSep with
  | nil => rfl
  | cons c r =>
   rw [hd, List.length_cons] at this
   exact cutU_more n m _ r (by omega) (by omega)
theorem noSep_int (c : UInt8) : noSep c = !(decide ((c.toNat : Int) = 45) || decide ((c.toNat : Int) = 95)) := all_bytes (p := fun c => noSep c = !(decide ((c.toNat : Int) = 45) || decide ((c.toNat : Int) = 95))) (by decide +kernel) c
def cutS (p : Nat) (l : Str) : List (Str × Nat) := cutU (l.length + 1) p l
theorem cutS_eq (p : Nat) (l : Str) : cutS p l = (l.takeWhile noSep, p) :: (match l.dropWhile noSep with
      | [] => []
      | _ :: r => cutS (p + (l.takeWhile noSep).length + 1) r) := by
  have := take_drop_len l
  unfold cutS
  simp only [cutU]
  congr 1
  cases hd : l.dropWhile noSep with
  | nil => rfl
  | cons c r =>
    rw [hd, List.length_cons] at this
    exact cutU_more l.length (r.length + 1) _ r (by omega) (by omega)
theorem while_at {l : Str} {k : Nat} (h1 : ∀ c ∈ l.take k, noSep c = true) (h2 : ∀ (h : k < l.length), noSep l[k] = false) (hk : k ≤ l.length) : l.takeWhile noSep = l.take k ∧ l.dropWhile noSep = l.drop k := by
 induction l generalizing k with
 | nil => simp
 | cons c l ih =>
  cases k with
  | zero =>
   have := h2 (by simp)
   simp only [List.getElem_cons_zero] at this
   simp [List.takeWhile_cons, List.dropWhile_cons, this]
  | succ k =>
   have hc := h1 c (by simp)
   obtain ⟨h3, h4⟩ := ih (k := k) (fun d hd => h1 d (by simp [hd])) (fun h => by have := h2 (by simpa using h); simpa using this) (by simpa using hk)
   simp [List.takeWhile_cons, List.dropWhile_cons, hc, h3, h4]
theorem cutS_sep {l : Str} {f i : Nat} (hf : f ≤ i) (hi : i < l.length) (h1 : ∀ c ∈ (l.drop f).take (i - f), noSep c = true) (h2 : noSep l[i] = false) : cutS f (l.drop f) = ((l.drop f).take (i - f), f) :: cutS (i + 1) (l.drop (i + 1)) := by
  obtain ⟨h3, h4⟩ := while_at (l := l.drop f) (k := i - f) h1 (fun h => by rw [List.getElem_drop]; have e : f + (i - f) = i := by omega
                                                                           simp only [e]; exact h2) (by simp; omega)
  rw [cutS_eq, h3, h4, List.drop_drop, show f + (i - f) = i by omega, List.drop_eq_getElem_cons hi]
  simp only [List.length_take, List.length_drop]
  rw [show f + min (i - f) (l.length - f) + 1 = i + 1 by omega]
theorem cutS_end {l : Str} {f : Nat} (hf : f ≤ l.length) (h1 : ∀ c ∈ (l.drop f).take (l.length - f), noSep c = true) : cutS f (l.drop f) = [((l.drop f).take (l.length - f), f)] := by
 obtain ⟨h3, h4⟩ := while_at (l := l.drop f) (k := l.length - f) h1 (fun h => by simp at h) (by simp)
 have h5 : l.drop (f + (l.length - f)) = [] := List.drop_of_length_le (by omega)
 rw [cutS_eq, h3, h4, List.drop_drop, h5]
def encU (p : Str × Nat) : List Value := [S p.1, .int .i64 (p.2 : Int)]
def flatU (l : List (Str × Nat)) : List Value := l.flatMap encU
theorem flatU_get (l : List (Str × Nat)) (j i : Nat) (h : j < l.length) (hi : i < 2) : (flatU l)[j * 2 + i]? = (encU l[j])[i]? := by
 induction l generalizing j with
 | nil => simp at h
 | cons a r ih =>
  simp only [flatU, List.flatMap_cons]
  cases j with
  | zero => rw [List.getElem?_append_left (by simp [encU]; omega)]; simp
  | succ j =>
   rw [List.getElem?_append_right (by simp [encU]; omega)]
   have := ih j (by simpa using h)
   simp only [flatU] at this
   simp only [encU, List.length_cons, List.length_nil] at this ⊢
   rw [show (j + 1) * 2 + i - (0 + 1 + 1) = j * 2 + i by omega, this]; rfl
def OwnU (w : World) (B : Nat) (v : Value) (l : List (Str × Nat)) : Prop := w.ownsRow B 173 2 v l.length (flatU l)
theorem infoU : (Tryz.prog.info? 173).map (fun i => (i.zero, i.size, i.bytes)) = some (some (.agg #[.string ⟨#[]⟩, .int .i64 0]), 2, 24) := by kernel_rfl
theorem wpList_pushU {w : World} {ops : Array Oper} {rest : List Oper} {o : Oper} {a : Act} {Q : Exit → Act → World → Prop} (hgd : o.guard = none) (s x : Operand)
  (ho : o.op = .call { callee := .builtin .append, args := #[s, x], argTypes := #[170, 170] })
  (B : Nat) (v : Value) (l : List (Str × Nat)) (y : ByteArray) (p : Nat) (hs : a.eval s = v) (hown : OwnU w B v l) (hx : a.eval x = .slice (some ⟨w.heap.size, 0, none⟩) 1 1) (hl : l.length ≤ 1000000) (hB : B ≤ w.heap.size)
  (h : ∀ v' w', OwnU w' B v' (l ++ [(y.data.toList, p)]) → w.grownBy w' v.ownBlock → Moved w v v' → wpList Tryz.prog ops Q rest (a.put o.dst v') w') :
  wpList Tryz.prog ops Q (o :: rest) a (w.alloc (.cells #[.string y, .int .i64 (p : Int)] 173)) := by
 obtain ⟨i0, hi, hz0, hz1, hz2⟩ := info_parts infoU
 refine wpList_app hgd s x 170 ho B 173 i0 (.agg #[.string ⟨#[]⟩, .int .i64 0]) 2 24 Tryz.underlying170 hi hz0 hz1 hz2 rfl (by decide) v l.length (flatU l) hs (World.ownsRow.alloc hown _) ⟨w.heap.size, 0, none⟩ 1 1 [.string y, .int .i64 (p : Int)] hx rfl (cell_two_new _ _ _ _) (fun u hu => by simp at hu; rcases hu with rfl | rfl <;> rfl) (by unfold maxLen; omega) (by omega) (by simp; omega) ?_
 intro v' w' own gr mv
 refine h v' w' (own_cast own (by simp) (by simp [flatU, encU, S])) ⟨gr.os, gr.tape, gr.output, Nat.le_trans (by simp) gr.size, fun k hk hne => ?_⟩ ?_
 ·rw [gr.block k (by simp; omega) hne]; exact heap_alloc_old _ _ hk
 ·rcases mv with m | ⟨k, h1, h2⟩
  ·exact Or.inl m
  ·exact Or.inr ⟨k, h1, by simp at h2; omega⟩
theorem cutU_len : ∀ (n p : Nat) (l : Str), (cutU n p l).length ≤ n
 | 0, _, _ => by simp [cutU]
 | n + 1, p, l => by
  simp only [cutU, List.length_cons]
  cases l.dropWhile noSep with
  | nil => simp
  | cons c r => have := cutU_len n (p + (l.takeWhile noSep).length + 1) r; simp; omega
set_option maxRecDepth 100000 in
set_option maxHeartbeats 4000000 in
theorem rsplit_any (s : ByteArray) (w : World) (hs : s.size ≤ 1000) :
  Calls Tryz.prog 123 #[.string s] w fun e w' => ∃ v', e = .returned v' ∧ OwnU w' w.heap.size v' (cutS 0 s.data.toList) ∧ Below w.heap.size w w' := by
 go_enter Tryz.func123, Tryz.ntmps123
 go_wp2_with fail
 go_loopg [3, 4, 5] (s.size + 1) (fun g vo vf vi W => ∃ (i f : Nat) (l : List (Str × Nat)), s.size + 1 ≤ i + g ∧ i ≤ s.size + 1 ∧ f ≤ i ∧ l.length ≤ i ∧ vi = .int .i64 i ∧ vf = .int .i64 f ∧ OwnU W w.heap.size vo l ∧ Below w.heap.size w W ∧
  ((i = s.size + 1 ∧ l = cutS 0 s.data.toList) ∨ (i ≤ s.size ∧ l ++ cutS f (s.data.toList.drop f) = cutS 0 s.data.toList ∧ ∀ c ∈ (s.data.toList.drop f).take (i - f), noSep c = true)))
 case atStart => exact ⟨0, 0, [], by omega, Nat.zero_le _, Nat.le_refl _, Nat.le_refl _, rfl, rfl, World.ownsRow_nil _ _ _ _, Below.refl _ _, Or.inr ⟨Nat.zero_le _, by simp, by simp⟩⟩
 case round =>
  obtain ⟨i, f, l, hg, hi, hf, hll, rfl, rfl, ow, hb, hc⟩ := hrel
  have HG := hid hg
  have HO := hid ow
  have HB := hid hb
  have hws := hb.size
  have hsl : s.data.toList.length = s.size := by simp
  clear hg ow hb
  by_cases hlt : i ≤ s.size
  ·obtain ⟨hu, hn⟩ := (hc.resolve_left (fun h => by omega)).2
   clear hc
   by_cases he : i < s.size
   ·have hx : s.data.toList[i]'(by omega) = s[i] := rfl
    have hint := noSep_int s[i]
    have HS := hid (fun (h : noSep s[i] = false) => cutS_sep (l := s.data.toList) hf (by omega) hn (by rw [hx]; exact h))
    have HN := hid (show noSep s[i] = true → ∀ c ∈ (s.data.toList.drop f).take (i + 1 - f), noSep c = true from fun h c hc => by
     rw [show i + 1 - f = (i - f) + 1 by omega, List.take_add_one, List.mem_append] at hc
     rcases hc with hc | hc
     ·exact hn c hc
     ·rw [List.getElem?_drop, show f + (i - f) = i by omega, List.getElem?_eq_getElem (by omega), hx] at hc
      have : c = s[i] := by simpa using hc
      rw [this]; exact h)
    have hb : (s[i].toNat : Int) < 256 := by have := s[i].toNat_lt; omega
    have hb0 : 0 ≤ (s[i].toNat : Int) := by omega
    have HU := hid hu
    have HX := hid (show (s.extract f i).data.toList = (s.data.toList.drop f).take (i - f) by rw [Lib.extract_data])
    clear hu hn hx
    generalize hy : (s[i].toNat : Int) = y at *
    have HI := hid hint
    clear hint
    by_cases h45 : y = 45
    ·have HSS := hid (HS.out (HI.out.trans (by rw [h45]; decide)))
     go_wp2_with (at_builtin; refine wpList_pushU rfl (.tmp 28) (.tmp 35) rfl w.heap.size u3 l (s.extract f i) f rfl HO.out rfl ?ca1 ?ca2 ?_)
     case ca1 => omega
     case ca2 => exact hws
     intro v2 w2 own2 gr2 mv2
     have hb2 := HB.out.grown gr2 hws (fun k hk => (World.ownsRow.lt HO.out k hk).1)
     have O2 := hid own2
     have HB2 := hid hb2
     clear own2 gr2 mv2 hb2
     go_wp2_with fail
     go_roundg (gk - 1)
     case measure => have := HG.out; omega
     case rel => exact ⟨i + 1, i + 1, l ++ [((s.data.toList.drop f).take (i - f), f)], by have := HG.out; omega, by omega, Nat.le_refl _, by simp; omega, by simp, by simp, by first | exact O2.out | (rw [← HX.out]; exact O2.out), HB2.out, Or.inr ⟨by omega, by rw [List.append_assoc, List.singleton_append, ← HSS.out]; exact HU.out, by simp⟩⟩
    ·by_cases h95 : y = 95
     ·have HSS := hid (HS.out (HI.out.trans (by rw [h95]; decide)))
      go_wp2_with (at_builtin; refine wpList_pushU rfl (.tmp 28) (.tmp 35) rfl w.heap.size u3 l (s.extract f i) f rfl HO.out rfl ?ca1 ?ca2 ?_)
      case ca1 => omega
      case ca2 => exact hws
      intro v2 w2 own2 gr2 mv2
      have hb2 := HB.out.grown gr2 hws (fun k hk => (World.ownsRow.lt HO.out k hk).1)
      have O2 := hid own2
      have HB2 := hid hb2
      clear own2 gr2 mv2 hb2
      go_wp2_with fail
      go_roundg (gk - 1)
      case measure => have := HG.out; omega
      case rel => exact ⟨i + 1, i + 1, l ++ [((s.data.toList.drop f).take (i - f), f)], by have := HG.out; omega, by omega, Nat.le_refl _, by simp; omega, by simp, by simp, by first | exact O2.out | (rw [← HX.out]; exact O2.out), HB2.out, Or.inr ⟨by omega, by rw [List.append_assoc, List.singleton_append, ← HSS.out]; exact HU.out, by simp⟩⟩
     ·have HNN := hid (HN.out (HI.out.trans (by rw [decide_eq_false h45, decide_eq_false h95]; rfl)))
      have hb45 : (y == 45) = false := by rw [beq_eq_false_iff_ne]; exact h45
      have hb95 : (y == 95) = false := by rw [beq_eq_false_iff_ne]; exact h95
      have hbi : ((i : Int) == (s.size : Int)) = false := by rw [beq_eq_false_iff_ne]; omega
      go_wp2_with fail
      go_roundg (gk - 1)
      case measure => have := HG.out; omega
      case rel => exact ⟨i + 1, f, l, by have := HG.out; omega, by omega, by omega, by omega, by simp, rfl, HO.out, HB.out, Or.inr ⟨by omega, HU.out, HNN.out⟩⟩
   ·obtain rfl : i = s.size := by omega
    have HEND := hid (cutS_end (l := s.data.toList) (f := f) (by omega) (by rw [hsl]; exact hn))
    have HU := hid hu
    have HX := hid (show (s.extract f s.size).data.toList = (s.data.toList.drop f).take (s.data.toList.length - f) by rw [Lib.extract_data, hsl])
    clear hu hn
    go_wp2_with (at_builtin; refine wpList_pushU rfl (.tmp 28) (.tmp 35) rfl w.heap.size u3 l (s.extract f s.size) f rfl HO.out rfl ?ca1 ?ca2 ?_)
    case ca1 => omega
    case ca2 => exact hws
    intro v2 w2 own2 gr2 mv2
    have hb2 := HB.out.grown gr2 hws (fun k hk => (World.ownsRow.lt HO.out k hk).1)
    have O2 := hid own2
    have HB2 := hid hb2
    clear own2 gr2 mv2 hb2
    go_wp2_with fail
    go_roundg (gk - 1)
    case measure => have := HG.out; omega
    case rel => exact ⟨s.size + 1, s.size + 1, l ++ [((s.data.toList.drop f).take (s.data.toList.length - f), f)], by have := HG.out; omega, by omega, Nat.le_refl _, by simp; omega, by simp, by simp, by first | exact O2.out | (rw [← HX.out]; exact O2.out), HB2.out, Or.inl ⟨rfl, by rw [← HEND.out]; exact HU.out⟩⟩
  ·obtain ⟨rfl, hl⟩ := hc.resolve_right (fun h => hlt h.1)
   have HL := hid (hl ▸ HO.out)
   clear hc hl HO
   go_wp2_with fail
   go_ret
   exact ⟨_, rfl, HL.out, HB.out⟩
end Go.Proofs.YtjlfchnnhglbjaaGreat
namespace Go.Proofs.YtjlfchnnhglbjaaGreat
open Go.RowKit Go.Lib Go.Sort
def fixP (p : Str × Str) : Str × Str := if p.2 = tTrue then (p.1, []) else p
theorem fix_fst (p : Str × Str) : (fixP p).1 = p.1 := by unfold fixP; split <;> rfl
theorem fix_map (l : List (Str × Str)) : (l.map fixP).map (·.1) = l.map (·.1) := by
 rw [List.map_map]; exact List.map_congr_left fun p _ => fix_fst p
theorem ins_sorted {l : List (Str × Str)} {a : Nat} {p : Str × Str} (hs : l.Pairwise (fun a b => ¬ b.1 < a.1)) (h1 : ∀ q ∈ l.drop a, p.1 < q.1) (h2 : ∀ q ∈ l.take a, ¬ p.1 < q.1) : (l.take a ++ p :: l.drop a).Pairwise (fun a b => ¬ b.1 < a.1) := by
 rw [← List.take_append_drop a l, List.pairwise_append] at hs
 rw [List.pairwise_append]
 refine ⟨hs.1, List.pairwise_cons.2 ⟨fun q hq => fun h => ?_, hs.2.1⟩, fun x hx y hy => ?_⟩
 ·exact absurd (List.lt_trans h (h1 q hq)) (List.lt_irrefl _)
 ·rcases List.mem_cons.1 hy with rfl | hy
  ·exact h2 x hx
  ·exact hs.2.2 x hx y hy
theorem take_low {l : List (Str × Str)} {a : Nat} {k : Str} (hs : l.Pairwise (fun a b => ¬ b.1 < a.1)) (ha : a ≤ l.length) (h : a = 0 ∨ ∃ (hl : a - 1 < l.length), ¬ k < l[a - 1].1) : ∀ q ∈ l.take a, ¬ k < q.1 := by
 intro q hq
 rcases h with rfl | ⟨hl, h⟩
 ·simp at hq
 ·obtain ⟨j, hj, rfl⟩ := List.mem_iff_getElem.1 hq
  rw [List.getElem_take]
  have hj2 : j < a := by rw [List.length_take] at hj; omega
  by_cases e : j = a - 1
  ·simp only [e]; exact h
  ·have := List.pairwise_iff_getElem.1 hs j (a - 1) (by omega) hl (by omega)
   intro hk
   have h3 : l[j].1 ≤ l[a - 1].1 := List.not_lt.1 this
   exact absurd hk (List.not_lt.2 (List.le_trans h3 (List.not_lt.1 h)))
theorem ins_perm {l m : List (Str × Str)} {a : Nat} {p : Str × Str} (h : l.Perm m) : (l.take a ++ p :: l.drop a).Perm (m ++ [p]) := by
 refine List.perm_middle.trans ?_
 rw [List.take_append_drop]
 exact (h.cons p).trans (List.perm_append_comm (l₁ := [p]) (l₂ := m))
theorem OwnP.mono {w : World} {B C : Nat} {v : Value} {l : List (Str × Str)} (h : OwnP w B v l) (hc : C ≤ B) : OwnP w C v l := by
 unfold OwnP World.ownsRow at *
 refine ⟨h.1, ?_⟩
 rcases h.2 with h | ⟨g, cap, cur, h1, h2, h3⟩
 ·exact Or.inl h
 ·exact Or.inr ⟨g, cap, cur, h1, Nat.le_trans hc h2, h3⟩
theorem drop_step (l : List (Str × Str)) (a k : Nat) (h : k < l.length) (ha : a ≤ k) : (l.take (k + 1)).drop a = (l.take k).drop a ++ [l[k]] := by
 rw [List.take_add_one, List.getElem?_eq_getElem h, List.drop_append_of_le_length (by rw [List.length_take]; omega)]; rfl
theorem take_step (l : List (Str × Str)) (k : Nat) (h : k < l.length) : l.take (k + 1) = l.take k ++ [l[k]] := by
 rw [List.take_add_one, List.getElem?_eq_getElem h]; rfl
theorem gt_yes {a b : Str} (h : a < b) : (!Op.bytesLess b a && !(b == a)) = true := by
 have h1 : Op.bytesLess b a = false := by rw [Proofs.bytesLess_eq]; exact decide_eq_false (fun h2 => absurd (List.lt_trans h2 h) (List.lt_irrefl _))
 have h2 : (b == a) = false := by rw [beq_eq_false_iff_ne]; rintro rfl; exact absurd h (List.lt_irrefl _)
 rw [h1, h2]; rfl
theorem gt_no {a b : Str} (h : ¬ a < b) : (!Op.bytesLess b a && !(b == a)) = false := by
 by_cases e : b = a
 ·have h2 : (b == a) = true := by rw [e]; simp
  rw [h2]; simp
 ·have h1 : Op.bytesLess b a = true := by
   rw [Proofs.bytesLess_eq]
   refine decide_eq_true ?_
   by_cases h3 : b < a
   ·exact h3
   ·exact absurd (List.le_antisymm (List.not_lt.1 h) (List.not_lt.1 h3)) e
  rw [h1]; rfl
structure Boxed (w W : World) (a b : Str) : Prop where
 row : W.heap[w.heap.size]? = some (.cells #[.string ⟨a.toArray⟩, .string ⟨b.toArray⟩] 48 (0, 0))
 bel : Below w.heap.size w W
 own : ∀ (B : Nat) (v : Value) (l : List (Str × Str)), OwnP w B v l → OwnP W B v l
 size : W.heap.size = w.heap.size + 1
theorem boxed (w : World) (a b : Str) : Boxed w (w.alloc (.cells #[.string ⟨a.toArray⟩, .string ⟨b.toArray⟩] 48)) a b :=
 ⟨heap_alloc_new w _, (Below.refl _ _).alloc (Nat.le_refl _) _, fun B v l h => World.ownsRow.alloc h _, by simp⟩
set_option maxRecDepth 100000 in
set_option maxHeartbeats 16000000 in
theorem rord_any (w : World) (vv kv : Value) (t : Tg) (hS : RdS w vv t.vars) (hP : RdP w kv t.keys) (hk : t.keys.length ≤ 1000) (hn : (t.keys.map (·.1)).Nodup) :
  Calls Tryz.prog 130 #[.agg (tagCells t vv kv)] w fun e w' => ∃ kv', e = .returned (.agg (tagCells { t with keys := srtK (t.keys.map fixP) } vv kv')) ∧ OwnP w' w.heap.size kv' (srtK (t.keys.map fixP)) ∧ Below w.heap.size w w' := by
 obtain ⟨av, cv, rfl, _, _⟩ := hS
 obtain ⟨ak, ck, rfl, _, hr⟩ := hP
 have HN := hid hn
 clear hn
 obtain ⟨ks, hks⟩ : ∃ x, x = srtK (t.keys.map fixP) := ⟨_, rfl⟩
 rw [← hks]
 have HKS := hid hks
 clear hks
 simp only [tagCells, S]
 have hx0 : ((w.alloc (.cells #[.string ⟨t.lang.toArray⟩, .string ⟨t.script.toArray⟩, .string ⟨t.region.toArray⟩, .slice av t.vars.length cv, .slice ak t.keys.length ck] 108)).alloc (.cells #[.string ⟨#[]⟩, .string ⟨#[]⟩, .string ⟨#[]⟩, .slice none 0 0, .slice none 0 0] 108)).heap[w.heap.size]? = some (.cells #[.string ⟨t.lang.toArray⟩, .string ⟨t.script.toArray⟩, .string ⟨t.region.toArray⟩, .slice av t.vars.length cv, .slice ak t.keys.length ck] 108 (0, 0)) := heap_alloc2_old _ _ _
 have hz0 : ((w.alloc (.cells #[.string ⟨t.lang.toArray⟩, .string ⟨t.script.toArray⟩, .string ⟨t.region.toArray⟩, .slice av t.vars.length cv, .slice ak t.keys.length ck] 108)).alloc (.cells #[.string ⟨#[]⟩, .string ⟨#[]⟩, .string ⟨#[]⟩, .slice none 0 0, .slice none 0 0] 108)).heap[w.heap.size + 1]? = some (.cells #[.string ⟨#[]⟩, .string ⟨#[]⟩, .string ⟨#[]⟩, .slice none 0 0, .slice none 0 0] 108 (0, 0)) := heap_alloc2_new _ _ _
 have hb0 : Below w.heap.size w ((w.alloc (.cells #[.string ⟨t.lang.toArray⟩, .string ⟨t.script.toArray⟩, .string ⟨t.region.toArray⟩, .slice av t.vars.length cv, .slice ak t.keys.length ck] 108)).alloc (.cells #[.string ⟨#[]⟩, .string ⟨#[]⟩, .string ⟨#[]⟩, .slice none 0 0, .slice none 0 0] 108)) := below2 _ _ _
 have hs0 : ((w.alloc (.cells #[.string ⟨t.lang.toArray⟩, .string ⟨t.script.toArray⟩, .string ⟨t.region.toArray⟩, .slice av t.vars.length cv, .slice ak t.keys.length ck] 108)).alloc (.cells #[.string ⟨#[]⟩, .string ⟨#[]⟩, .string ⟨#[]⟩, .slice none 0 0, .slice none 0 0] 108)).heap.size = w.heap.size + 2 := by simp
 generalize hw0 : ((w.alloc (.cells #[.string ⟨t.lang.toArray⟩, .string ⟨t.script.toArray⟩, .string ⟨t.region.toArray⟩, .slice av t.vars.length cv, .slice ak t.keys.length ck] 108)).alloc (.cells #[.string ⟨#[]⟩, .string ⟨#[]⟩, .string ⟨#[]⟩, .slice none 0 0, .slice none 0 0] 108)) = w0 at hx0 hz0 hb0 hs0
 have HX0 := hid hx0
 have HZ0 := hid hz0
 have HB0 := hid hb0
 have HR := hid hr
 clear hx0 hz0 hb0 hr
 go_enter Tryz.func130, Tryz.ntmps130
 go_wp2_with fail
 clear hw0
 go_loopg [3, 4] t.keys.length (fun g vo vi W => ∃ (n : Nat) (l : List (Str × Str)), n ≤ t.keys.length ∧ t.keys.length ≤ n + g ∧ l.length = n ∧ vi = .int .i64 n ∧ OwnP W (w.heap.size + 2) vo l ∧ Below (w.heap.size + 2) w0 W ∧ w.heap.size + 2 ≤ W.heap.size ∧ l.Perm ((t.keys.take n).map fixP) ∧ l.Pairwise (fun a b => ¬ b.1 < a.1))
 case atStart => exact ⟨0, [], Nat.zero_le _, by omega, rfl, rfl, World.ownsRow_nil _ _ _ _, Below.refl _ _, by omega, by simp, by simp⟩
 case round =>
  rename World => w1
  rename Nat => g1
  obtain ⟨n, l, hn, hg, rfl, rfl, ow, hb, hws, hpm, hso⟩ := hrel
  have HG := hid hg
  have HPM := hid hpm
  have HSO := hid hso
  have HO := hid ow
  have HB := hid hb
  clear hg hpm hso
  have hxr : w1.heap[w.heap.size]? = some (.cells #[.string ⟨t.lang.toArray⟩, .string ⟨t.script.toArray⟩, .string ⟨t.region.toArray⟩, .slice av t.vars.length cv, .slice ak t.keys.length ck] 108 (0, 0)) := (hb.block _ (by omega)).trans HX0.out
  have c4 : w1.cell? ⟨w.heap.size, 4, none⟩ = some (.slice ak t.keys.length ck) := cell_of_row _ _ _ _ _ _ hxr
  have HXR := hid hxr
  clear hxr hb
  by_cases hlt : l.length < t.keys.length
  ·have hne : t.keys ≠ [] := by intro e; rw [e] at hlt; simp at hlt
   obtain ⟨b, off, rfl, hbl, hcell⟩ := HR.out hne
   obtain ⟨ky, vy, hp⟩ : ∃ a b, t.keys[l.length] = (a, b) := ⟨_, _, rfl⟩
   have hbw : ∀ j, w1.cell? ⟨b, j, none⟩ = w.cell? ⟨b, j, none⟩ := fun j => (HB.out.cell (p := ⟨b, j, none⟩) (by show b < _; omega)).trans (HB0.out.cell (p := ⟨b, j, none⟩) hbl)
   have e0 : w1.cell? ⟨b, off + l.length * 2, none⟩ = some (.string ⟨ky.toArray⟩) := (hbw _).trans (hcell l.length 0 _ hlt (by rw [hp]; rfl))
   have e1 : w1.cell? ⟨b, off + l.length * 2 + 1, none⟩ = some (.string ⟨vy.toArray⟩) := (hbw _).trans (hcell l.length 1 _ hlt (by rw [hp]; rfl))
   have hstep : (t.keys.take (l.length + 1)).map fixP = (t.keys.take l.length).map fixP ++ [fixP (ky, vy)] := by rw [take_step _ _ hlt, List.map_append, hp]; rfl
   have HST := hid hstep
   clear hstep hp hbw hcell hne ow
   obtain ⟨ao, co, rfl, hzo, _⟩ := OwnP.rd HO.out
   by_cases hv : vy = tTrue
   ·have hvb : (vy == [116, 114, 117, 101]) = true := by rw [hv]; rfl
    have HFX := hid (show fixP (ky, vy) = (ky, []) from if_pos hv)
    have bx := boxed w1 ky []
    change Boxed w1 (w1.alloc (.cells #[.string ⟨ky.toArray⟩, .string ⟨#[]⟩] 48)) ky [] at bx
    clear hv
    go_wp2_with fail
    generalize w1.alloc (.cells #[.string ⟨ky.toArray⟩, .string ⟨#[]⟩] 48) = W2 at *
    have HBX := hid bx
    have hs2 : w1.heap.size < W2.heap.size := by have := bx.size; omega
    have p0 : W2.cell? ⟨w1.heap.size, 0, none⟩ = some (.string ⟨ky.toArray⟩) := cell_of_row _ _ _ _ _ _ bx.row
    have p1 : W2.cell? ⟨w1.heap.size, 1, none⟩ = some (.string ⟨([] : Str).toArray⟩) := cell_of_row _ _ _ _ _ _ bx.row
    have hin := OwnP.rd (bx.own _ _ _ HO.out)
    obtain ⟨ao', co', hev, _, hro⟩ := hin
    injection hev with e1 _ e2
    subst e1 e2
    have HRO := hid hro
    have HIN := hid (bx.own _ _ _ HO.out)
    have hb2 := HB.out.trans (bx.bel.mono hws)
    have HB2 := hid hb2
    clear bx hro hb2 e0 e1
    go_loopg [6] l.length (fun g va W => ∃ a : Nat, a ≤ l.length ∧ a ≤ g ∧ va = .int .i64 a ∧ (∀ q ∈ l.drop a, ky < q.1) ∧ ∃ m : Nat, W = W2.drewN m)
    case atStart => exact ⟨l.length, Nat.le_refl _, Nat.le_refl _, rfl, by simp, 0, rfl⟩
    case round =>
     obtain ⟨a, ha, hga, rfl, hgt, nq0, rfl⟩ := hrel
     have HGA := hid hga
     have HGT := hid hgt
     clear hga hgt
     by_cases h0 : a = 0
     ·subst h0
      have HLOW := hid (take_low (k := ky) HSO.out ha (Or.inl rfl))
      go_wp2_with fail
      go_quiet (fail)
      go_wp2_with fail
      go_loopg [7, 8] 0 (fun g vn vk W => ∃ k : Nat, k ≤ 0 ∧ 0 ≤ k + g ∧ vk = .int .i64 k ∧ OwnP W W2.heap.size vn (l.take k) ∧ Below W2.heap.size W2 W)
      case atStart => exact ⟨0, Nat.zero_le _, by omega, rfl, by rw [List.take_zero]; exact World.ownsRow_nil _ _ _ _, below_drewN (below_drewN (Below.refl _ _) _) _⟩
      case round =>
       rename World => w3
       rename Nat => g3
       obtain ⟨k, hka, hgk, rfl, own, hbn⟩ := hrel
       have HGK := hid hgk
       have HOW := hid own
       have HBN := hid hbn
       have hwn := hbn.size
       clear hgk own hbn
       by_cases hkl : k < 0
       ·exfalso; omega
       ·obtain rfl : k = 0 := by omega
        have q0 := (HBN.out.cell (p := ⟨w1.heap.size, 0, none⟩) (by show w1.heap.size < _; omega)).trans p0
        have q1 := (HBN.out.cell (p := ⟨w1.heap.size, 1, none⟩) (by show w1.heap.size < _; omega)).trans p1
        go_wp2_with (at_builtin; refine wpList_pushP rfl (.tmp 55) (.tmp 57) rfl W2.heap.size _ _ (ky, []) rfl HOW.out rfl ?db1 ?db2 ?_)
        case db1 => rw [List.length_take]; omega
        case db2 => exact hwn
        intro v5 w5 own5 gr5 mv5
        have hb5 := HBN.out.grown gr5 hwn (fun k hk => (World.ownsRow.lt HOW.out k hk).1)
        have O5 := hid own5
        have HB5 := hid hb5
        clear own5 gr5 mv5 hb5 q0 q1 HOW HBN HGK hwn
        go_wp2_with fail
        go_loopg [7, 9] l.length (fun g vn vk W => ∃ j : Nat, 0 ≤ j ∧ j ≤ l.length ∧ l.length ≤ j + g ∧ vk = .int .i64 j ∧ OwnP W W2.heap.size vn (l.take 0 ++ (ky, []) :: (l.take j).drop 0) ∧ Below W2.heap.size W2 W)
        case atStart => exact ⟨0, Nat.le_refl _, ha, by omega, rfl, by rw [List.drop_of_length_le (by rw [List.length_take]; omega)]; first | exact O5.out | simpa using O5.out, HB5.out⟩
        case round =>
         rename World => w6
         rename Nat => g6
         obtain ⟨j, hkj, hjl, hgj, rfl, own, hbn⟩ := hrel
         have HGJ := hid hgj
         have HOW := hid own
         have HBN := hid hbn
         have hwn := hbn.size
         clear hgj own hbn O5 HB5
         by_cases hjl2 : j < l.length
         ·have hne2 : l ≠ [] := by intro e; rw [e] at hjl2; simp at hjl2
          obtain ⟨b2, off2, e2, hbl2, hc2⟩ := HRO.out hne2
          obtain ⟨qk, qv, hq⟩ : ∃ x y, l[j] = (x, y) := ⟨_, _, rfl⟩
          have d0 : w6.cell? ⟨b2, off2 + j * 2, none⟩ = some (.string ⟨qk.toArray⟩) := (HBN.out.cell (p := ⟨b2, off2 + j * 2, none⟩) hbl2).trans (hc2 j 0 _ (by omega) (by rw [hq]; rfl))
          have d1 : w6.cell? ⟨b2, off2 + j * 2 + 1, none⟩ = some (.string ⟨qv.toArray⟩) := (HBN.out.cell (p := ⟨b2, off2 + j * 2 + 1, none⟩) hbl2).trans (hc2 j 1 _ (by omega) (by rw [hq]; rfl))
          cases e2
          have HTS := hid (drop_step l 0 j hjl2 hkj)
          have HQ := hid hq
          clear hc2 hq hne2
          go_wp2_with (at_builtin; refine wpList_pushP rfl (.tmp 66) (.tmp 71) rfl W2.heap.size _ _ (qk, qv) rfl HOW.out rfl ?dc1 ?dc2 ?_)
          case dc1 => simp; omega
          case dc2 => exact hwn
          intro v7 w7 own7 gr7 mv7
          have hb7 := HBN.out.grown gr7 hwn (fun k hk => (World.ownsRow.lt HOW.out k hk).1)
          have O7 := hid own7
          have HB7 := hid hb7
          clear own7 gr7 mv7 hb7 d0 d1
          go_wp2_with fail
          go_roundg (g6 - 1)
          case measure => have := HGJ.out; omega
          case rel => exact ⟨j + 1, by omega, by omega, by have := HGJ.out; omega, by simp, by rw [HTS.out, HQ.out]; simpa using O7.out, HB7.out⟩
         ·obtain rfl : j = l.length := by omega
          have HFO := hid (OwnP.mono HOW.out (show w.heap.size + 2 ≤ W2.heap.size by omega))
          have HFB := hid (HB2.out.trans (HBN.out.mono (show w.heap.size + 2 ≤ W2.heap.size by omega)))
          have hlen := hid (show (l.take 0 ++ (ky, []) :: (l.take l.length).drop 0).length = l.length + 1 by rw [List.take_length]; simp <;> omega)
          clear HOW HBN HGJ HRO
          go_wp2_with fail
          go_roundg (g1 - 1)
          case measure => have := HG.out; omega
          case rel => exact ⟨l.length + 1, _, by omega, by have := HG.out; omega, hlen.out, by simp, HFO.out, HFB.out, by omega, by rw [List.take_length, HST.out, HFX.out]; exact ins_perm HPM.out, by rw [List.take_length]; exact ins_sorted HSO.out HGT.out HLOW.out⟩
     ·obtain ⟨m, rfl⟩ : ∃ m, a = m + 1 := ⟨a - 1, by omega⟩
      have hne2 : l ≠ [] := by intro e; rw [e] at ha; simp at ha
      obtain ⟨b3, off3, e3, hbl3, hc3⟩ := HRO.out hne2
      cases e3
      obtain ⟨qk, qv, hq⟩ : ∃ x y, l[m]'(by omega) = (x, y) := ⟨_, _, rfl⟩
      have hw1 : IntKind.i64.wrap ((m : Int) + 1 - 1) = (m : Int) := by rw [Int.add_sub_cancel]; exact IntWalk.i64_in _ (by omega)
      have hw2 : IntKind.i64.wrap (m : Int) = (m : Int) := IntWalk.i64_in _ (by omega)
      have hm0 : (0 : Int) ≤ (m : Int) := by omega
      have hmt : ((m : Int)).toNat = m := by omega
      have hml : (m : Int) < (l.length : Int) := by omega
      have hmp : (0 : Int) < (m : Int) + 1 := by omega
      have d0 : W2.cell? ⟨b3, off3 + m * 2, none⟩ = some (.string ⟨qk.toArray⟩) := hc3 m 0 _ (by omega) (by rw [hq]; rfl)
      by_cases hlt2 : ky < qk
      ·have hbl4 : (!Op.bytesLess qk ky && !(qk == ky)) = true := gt_yes hlt2
       have hbl5 : Op.bytesLess qk ky = false := by rw [Proofs.bytesLess_eq]; exact decide_eq_false (fun h => absurd (List.lt_trans h hlt2) (List.lt_irrefl _))
       have hbl6 : (qk == ky) = false := by rw [beq_eq_false_iff_ne]; rintro rfl; exact absurd hlt2 (List.lt_irrefl _)
       have HGT2 := hid (show ∀ q ∈ l.drop m, ky < q.1 from fun q hqm => by
        rw [List.drop_eq_getElem_cons (by omega), hq] at hqm
        rcases List.mem_cons.1 hqm with rfl | hqm
        ·exact hlt2
        ·exact HGT.out q hqm)
       clear hlt2 hc3 hq hne2
       go_wp2_with fail
       go_quiet (fail)
       go_wp2_with fail
       go_roundg (gk - 1)
       case measure => have := HGA.out; omega
       case rel => exact ⟨m, by omega, by have := HGA.out; omega, by simp, HGT2.out, _, rfl⟩
      ·have hbl4 : (!Op.bytesLess qk ky && !(qk == ky)) = false := gt_no hlt2
       have hlow := take_low HSO.out ha (Or.inr ⟨by omega, by simp only [Nat.add_sub_cancel]; rw [hq]; exact hlt2⟩)
       clear hlt2 hc3 hq hne2
       have HLOW := hid hlow
       go_wp2_with fail
       go_quiet (fail)
       go_wp2_with fail
       go_loopg [7, 8] (m + 1) (fun g vn vk W => ∃ k : Nat, k ≤ m + 1 ∧ m + 1 ≤ k + g ∧ vk = .int .i64 k ∧ OwnP W W2.heap.size vn (l.take k) ∧ Below W2.heap.size W2 W)
       case atStart => exact ⟨0, Nat.zero_le _, by omega, rfl, by rw [List.take_zero]; exact World.ownsRow_nil _ _ _ _, below_drewN (below_drewN (Below.refl _ _) _) _⟩
       case round =>
        rename World => w3
        rename Nat => g3
        obtain ⟨k, hka, hgk, rfl, own, hbn⟩ := hrel
        have HGK := hid hgk
        have HOW := hid own
        have HBN := hid hbn
        have hwn := hbn.size
        clear hgk own hbn
        by_cases hkl : k < m + 1
        ·have hne2 : l ≠ [] := by intro e; rw [e] at ha; simp at ha <;> omega
         obtain ⟨b2, off2, e2, hbl2, hc2⟩ := HRO.out hne2
         obtain ⟨qk, qv, hq⟩ : ∃ x y, l[k]'(by omega) = (x, y) := ⟨_, _, rfl⟩
         have d0 : w3.cell? ⟨b2, off2 + k * 2, none⟩ = some (.string ⟨qk.toArray⟩) := (HBN.out.cell (p := ⟨b2, off2 + k * 2, none⟩) hbl2).trans (hc2 k 0 _ (by omega) (by rw [hq]; rfl))
         have d1 : w3.cell? ⟨b2, off2 + k * 2 + 1, none⟩ = some (.string ⟨qv.toArray⟩) := (HBN.out.cell (p := ⟨b2, off2 + k * 2 + 1, none⟩) hbl2).trans (hc2 k 1 _ (by omega) (by rw [hq]; rfl))
         cases e2
         have HTS := hid (take_step l k (by omega))
         have HQ := hid hq
         clear hc2 hq hne2
         go_wp2_with (at_builtin; refine wpList_pushP rfl (.tmp 48) (.tmp 53) rfl W2.heap.size _ _ (qk, qv) rfl HOW.out rfl ?da1 ?da2 ?_)
         case da1 => rw [List.length_take]; omega
         case da2 => exact hwn
         intro v4 w4 own4 gr4 mv4
         have hb4 := HBN.out.grown gr4 hwn (fun k hk => (World.ownsRow.lt HOW.out k hk).1)
         have O4 := hid own4
         have HB4 := hid hb4
         clear own4 gr4 mv4 hb4 d0 d1
         go_wp2_with fail
         go_roundg (g3 - 1)
         case measure => have := HGK.out; omega
         case rel => exact ⟨k + 1, by omega, by have := HGK.out; omega, by simp, by rw [HTS.out, HQ.out]; exact O4.out, HB4.out⟩
        ·obtain rfl : k = m + 1 := by omega
         have q0 := (HBN.out.cell (p := ⟨w1.heap.size, 0, none⟩) (by show w1.heap.size < _; omega)).trans p0
         have q1 := (HBN.out.cell (p := ⟨w1.heap.size, 1, none⟩) (by show w1.heap.size < _; omega)).trans p1
         go_wp2_with (at_builtin; refine wpList_pushP rfl (.tmp 55) (.tmp 57) rfl W2.heap.size _ _ (ky, []) rfl HOW.out rfl ?db1 ?db2 ?_)
         case db1 => rw [List.length_take]; omega
         case db2 => exact hwn
         intro v5 w5 own5 gr5 mv5
         have hb5 := HBN.out.grown gr5 hwn (fun k hk => (World.ownsRow.lt HOW.out k hk).1)
         have O5 := hid own5
         have HB5 := hid hb5
         clear own5 gr5 mv5 hb5 q0 q1 HOW HBN HGK hwn
         go_wp2_with fail
         go_loopg [7, 9] l.length (fun g vn vk W => ∃ j : Nat, (m + 1) ≤ j ∧ j ≤ l.length ∧ l.length ≤ j + g ∧ vk = .int .i64 j ∧ OwnP W W2.heap.size vn (l.take (m + 1) ++ (ky, []) :: (l.take j).drop (m + 1)) ∧ Below W2.heap.size W2 W)
         case atStart => exact ⟨(m + 1), Nat.le_refl _, ha, by omega, rfl, by rw [List.drop_of_length_le (by rw [List.length_take]; omega)]; first | exact O5.out | simpa using O5.out, HB5.out⟩
         case round =>
          rename World => w6
          rename Nat => g6
          obtain ⟨j, hkj, hjl, hgj, rfl, own, hbn⟩ := hrel
          have HGJ := hid hgj
          have HOW := hid own
          have HBN := hid hbn
          have hwn := hbn.size
          clear hgj own hbn O5 HB5
          by_cases hjl2 : j < l.length
          ·have hne2 : l ≠ [] := by intro e; rw [e] at hjl2; simp at hjl2
           obtain ⟨b2, off2, e2, hbl2, hc2⟩ := HRO.out hne2
           obtain ⟨qk, qv, hq⟩ : ∃ x y, l[j] = (x, y) := ⟨_, _, rfl⟩
           have d0 : w6.cell? ⟨b2, off2 + j * 2, none⟩ = some (.string ⟨qk.toArray⟩) := (HBN.out.cell (p := ⟨b2, off2 + j * 2, none⟩) hbl2).trans (hc2 j 0 _ (by omega) (by rw [hq]; rfl))
           have d1 : w6.cell? ⟨b2, off2 + j * 2 + 1, none⟩ = some (.string ⟨qv.toArray⟩) := (HBN.out.cell (p := ⟨b2, off2 + j * 2 + 1, none⟩) hbl2).trans (hc2 j 1 _ (by omega) (by rw [hq]; rfl))
           cases e2
           have HTS := hid (drop_step l (m + 1) j hjl2 hkj)
           have HQ := hid hq
           clear hc2 hq hne2
           go_wp2_with (at_builtin; refine wpList_pushP rfl (.tmp 66) (.tmp 71) rfl W2.heap.size _ _ (qk, qv) rfl HOW.out rfl ?dc1 ?dc2 ?_)
           case dc1 => simp; omega
           case dc2 => exact hwn
           intro v7 w7 own7 gr7 mv7
           have hb7 := HBN.out.grown gr7 hwn (fun k hk => (World.ownsRow.lt HOW.out k hk).1)
           have O7 := hid own7
           have HB7 := hid hb7
           clear own7 gr7 mv7 hb7 d0 d1
           go_wp2_with fail
           go_roundg (g6 - 1)
           case measure => have := HGJ.out; omega
           case rel => exact ⟨j + 1, by omega, by omega, by have := HGJ.out; omega, by simp, by rw [HTS.out, HQ.out]; simpa using O7.out, HB7.out⟩
          ·obtain rfl : j = l.length := by omega
           have HFO := hid (OwnP.mono HOW.out (show w.heap.size + 2 ≤ W2.heap.size by omega))
           have HFB := hid (HB2.out.trans (HBN.out.mono (show w.heap.size + 2 ≤ W2.heap.size by omega)))
           have hlen := hid (show (l.take (m + 1) ++ (ky, []) :: (l.take l.length).drop (m + 1)).length = l.length + 1 by rw [List.take_length]; simp <;> omega)
           clear HOW HBN HGJ HRO
           go_wp2_with fail
           go_roundg (g1 - 1)
           case measure => have := HG.out; omega
           case rel => exact ⟨l.length + 1, _, by omega, by have := HG.out; omega, hlen.out, by simp, HFO.out, HFB.out, by omega, by rw [List.take_length, HST.out, HFX.out]; exact ins_perm HPM.out, by rw [List.take_length]; exact ins_sorted HSO.out HGT.out HLOW.out⟩
   ·have hvb : (vy == [116, 114, 117, 101]) = false := by rw [beq_eq_false_iff_ne]; exact hv
    have HFX := hid (show fixP (ky, vy) = (ky, vy) from if_neg hv)
    have bx := boxed w1 ky vy
    clear hv
    go_wp2_with fail
    generalize w1.alloc (.cells #[.string ⟨ky.toArray⟩, .string ⟨vy.toArray⟩] 48) = W2 at *
    have HBX := hid bx
    have hs2 : w1.heap.size < W2.heap.size := by have := bx.size; omega
    have p0 : W2.cell? ⟨w1.heap.size, 0, none⟩ = some (.string ⟨ky.toArray⟩) := cell_of_row _ _ _ _ _ _ bx.row
    have p1 : W2.cell? ⟨w1.heap.size, 1, none⟩ = some (.string ⟨vy.toArray⟩) := cell_of_row _ _ _ _ _ _ bx.row
    have hin := OwnP.rd (bx.own _ _ _ HO.out)
    obtain ⟨ao', co', hev, _, hro⟩ := hin
    injection hev with e1 _ e2
    subst e1 e2
    have HRO := hid hro
    have HIN := hid (bx.own _ _ _ HO.out)
    have hb2 := HB.out.trans (bx.bel.mono hws)
    have HB2 := hid hb2
    clear bx hro hb2 e0 e1
    go_loopg [6] l.length (fun g va W => ∃ a : Nat, a ≤ l.length ∧ a ≤ g ∧ va = .int .i64 a ∧ (∀ q ∈ l.drop a, ky < q.1) ∧ ∃ m : Nat, W = W2.drewN m)
    case atStart => exact ⟨l.length, Nat.le_refl _, Nat.le_refl _, rfl, by simp, 0, rfl⟩
    case round =>
     obtain ⟨a, ha, hga, rfl, hgt, nq0, rfl⟩ := hrel
     have HGA := hid hga
     have HGT := hid hgt
     clear hga hgt
     by_cases h0 : a = 0
     ·subst h0
      have HLOW := hid (take_low (k := ky) HSO.out ha (Or.inl rfl))
      go_wp2_with fail
      go_quiet (fail)
      go_wp2_with fail
      go_loopg [7, 8] 0 (fun g vn vk W => ∃ k : Nat, k ≤ 0 ∧ 0 ≤ k + g ∧ vk = .int .i64 k ∧ OwnP W W2.heap.size vn (l.take k) ∧ Below W2.heap.size W2 W)
      case atStart => exact ⟨0, Nat.zero_le _, by omega, rfl, by rw [List.take_zero]; exact World.ownsRow_nil _ _ _ _, below_drewN (below_drewN (Below.refl _ _) _) _⟩
      case round =>
       rename World => w3
       rename Nat => g3
       obtain ⟨k, hka, hgk, rfl, own, hbn⟩ := hrel
       have HGK := hid hgk
       have HOW := hid own
       have HBN := hid hbn
       have hwn := hbn.size
       clear hgk own hbn
       by_cases hkl : k < 0
       ·exfalso; omega
       ·obtain rfl : k = 0 := by omega
        have q0 := (HBN.out.cell (p := ⟨w1.heap.size, 0, none⟩) (by show w1.heap.size < _; omega)).trans p0
        have q1 := (HBN.out.cell (p := ⟨w1.heap.size, 1, none⟩) (by show w1.heap.size < _; omega)).trans p1
        go_wp2_with (at_builtin; refine wpList_pushP rfl (.tmp 55) (.tmp 57) rfl W2.heap.size _ _ (ky, vy) rfl HOW.out rfl ?db1 ?db2 ?_)
        case db1 => rw [List.length_take]; omega
        case db2 => exact hwn
        intro v5 w5 own5 gr5 mv5
        have hb5 := HBN.out.grown gr5 hwn (fun k hk => (World.ownsRow.lt HOW.out k hk).1)
        have O5 := hid own5
        have HB5 := hid hb5
        clear own5 gr5 mv5 hb5 q0 q1 HOW HBN HGK hwn
        go_wp2_with fail
        go_loopg [7, 9] l.length (fun g vn vk W => ∃ j : Nat, 0 ≤ j ∧ j ≤ l.length ∧ l.length ≤ j + g ∧ vk = .int .i64 j ∧ OwnP W W2.heap.size vn (l.take 0 ++ (ky, vy) :: (l.take j).drop 0) ∧ Below W2.heap.size W2 W)
        case atStart => exact ⟨0, Nat.le_refl _, ha, by omega, rfl, by rw [List.drop_of_length_le (by rw [List.length_take]; omega)]; first | exact O5.out | simpa using O5.out, HB5.out⟩
        case round =>
         rename World => w6
         rename Nat => g6
         obtain ⟨j, hkj, hjl, hgj, rfl, own, hbn⟩ := hrel
         have HGJ := hid hgj
         have HOW := hid own
         have HBN := hid hbn
         have hwn := hbn.size
         clear hgj own hbn O5 HB5
         by_cases hjl2 : j < l.length
         ·have hne2 : l ≠ [] := by intro e; rw [e] at hjl2; simp at hjl2
          obtain ⟨b2, off2, e2, hbl2, hc2⟩ := HRO.out hne2
          obtain ⟨qk, qv, hq⟩ : ∃ x y, l[j] = (x, y) := ⟨_, _, rfl⟩
          have d0 : w6.cell? ⟨b2, off2 + j * 2, none⟩ = some (.string ⟨qk.toArray⟩) := (HBN.out.cell (p := ⟨b2, off2 + j * 2, none⟩) hbl2).trans (hc2 j 0 _ (by omega) (by rw [hq]; rfl))
          have d1 : w6.cell? ⟨b2, off2 + j * 2 + 1, none⟩ = some (.string ⟨qv.toArray⟩) := (HBN.out.cell (p := ⟨b2, off2 + j * 2 + 1, none⟩) hbl2).trans (hc2 j 1 _ (by omega) (by rw [hq]; rfl))
          cases e2
          have HTS := hid (drop_step l 0 j hjl2 hkj)
          have HQ := hid hq
          clear hc2 hq hne2
          go_wp2_with (at_builtin; refine wpList_pushP rfl (.tmp 66) (.tmp 71) rfl W2.heap.size _ _ (qk, qv) rfl HOW.out rfl ?dc1 ?dc2 ?_)
          case dc1 => simp; omega
          case dc2 => exact hwn
          intro v7 w7 own7 gr7 mv7
          have hb7 := HBN.out.grown gr7 hwn (fun k hk => (World.ownsRow.lt HOW.out k hk).1)
          have O7 := hid own7
          have HB7 := hid hb7
          clear own7 gr7 mv7 hb7 d0 d1
          go_wp2_with fail
          go_roundg (g6 - 1)
          case measure => have := HGJ.out; omega
          case rel => exact ⟨j + 1, by omega, by omega, by have := HGJ.out; omega, by simp, by rw [HTS.out, HQ.out]; simpa using O7.out, HB7.out⟩
         ·obtain rfl : j = l.length := by omega
          have HFO := hid (OwnP.mono HOW.out (show w.heap.size + 2 ≤ W2.heap.size by omega))
          have HFB := hid (HB2.out.trans (HBN.out.mono (show w.heap.size + 2 ≤ W2.heap.size by omega)))
          have hlen := hid (show (l.take 0 ++ (ky, vy) :: (l.take l.length).drop 0).length = l.length + 1 by rw [List.take_length]; simp <;> omega)
          clear HOW HBN HGJ HRO
          go_wp2_with fail
          go_roundg (g1 - 1)
          case measure => have := HG.out; omega
          case rel => exact ⟨l.length + 1, _, by omega, by have := HG.out; omega, hlen.out, by simp, HFO.out, HFB.out, by omega, by rw [List.take_length, HST.out, HFX.out]; exact ins_perm HPM.out, by rw [List.take_length]; exact ins_sorted HSO.out HGT.out HLOW.out⟩
     ·obtain ⟨m, rfl⟩ : ∃ m, a = m + 1 := ⟨a - 1, by omega⟩
      have hne2 : l ≠ [] := by intro e; rw [e] at ha; simp at ha
      obtain ⟨b3, off3, e3, hbl3, hc3⟩ := HRO.out hne2
      cases e3
      obtain ⟨qk, qv, hq⟩ : ∃ x y, l[m]'(by omega) = (x, y) := ⟨_, _, rfl⟩
      have hw1 : IntKind.i64.wrap ((m : Int) + 1 - 1) = (m : Int) := by rw [Int.add_sub_cancel]; exact IntWalk.i64_in _ (by omega)
      have hw2 : IntKind.i64.wrap (m : Int) = (m : Int) := IntWalk.i64_in _ (by omega)
      have hm0 : (0 : Int) ≤ (m : Int) := by omega
      have hmt : ((m : Int)).toNat = m := by omega
      have hml : (m : Int) < (l.length : Int) := by omega
      have hmp : (0 : Int) < (m : Int) + 1 := by omega
      have d0 : W2.cell? ⟨b3, off3 + m * 2, none⟩ = some (.string ⟨qk.toArray⟩) := hc3 m 0 _ (by omega) (by rw [hq]; rfl)
      by_cases hlt2 : ky < qk
      ·have hbl4 : (!Op.bytesLess qk ky && !(qk == ky)) = true := gt_yes hlt2
       have hbl5 : Op.bytesLess qk ky = false := by rw [Proofs.bytesLess_eq]; exact decide_eq_false (fun h => absurd (List.lt_trans h hlt2) (List.lt_irrefl _))
       have hbl6 : (qk == ky) = false := by rw [beq_eq_false_iff_ne]; rintro rfl; exact absurd hlt2 (List.lt_irrefl _)
       have HGT2 := hid (show ∀ q ∈ l.drop m, ky < q.1 from fun q hqm => by
        rw [List.drop_eq_getElem_cons (by omega), hq] at hqm
        rcases List.mem_cons.1 hqm with rfl | hqm
        ·exact hlt2
        ·exact HGT.out q hqm)
       clear hlt2 hc3 hq hne2
       go_wp2_with fail
       go_quiet (fail)
       go_wp2_with fail
       go_roundg (gk - 1)
       case measure => have := HGA.out; omega
       case rel => exact ⟨m, by omega, by have := HGA.out; omega, by simp, HGT2.out, _, rfl⟩
      ·have hbl4 : (!Op.bytesLess qk ky && !(qk == ky)) = false := gt_no hlt2
       have hlow := take_low HSO.out ha (Or.inr ⟨by omega, by simp only [Nat.add_sub_cancel]; rw [hq]; exact hlt2⟩)
       clear hlt2 hc3 hq hne2
       have HLOW := hid hlow
       go_wp2_with fail
       go_quiet (fail)
       go_wp2_with fail
       go_loopg [7, 8] (m + 1) (fun g vn vk W => ∃ k : Nat, k ≤ m + 1 ∧ m + 1 ≤ k + g ∧ vk = .int .i64 k ∧ OwnP W W2.heap.size vn (l.take k) ∧ Below W2.heap.size W2 W)
       case atStart => exact ⟨0, Nat.zero_le _, by omega, rfl, by rw [List.take_zero]; exact World.ownsRow_nil _ _ _ _, below_drewN (below_drewN (Below.refl _ _) _) _⟩
       case round =>
        rename World => w3
        rename Nat => g3
        obtain ⟨k, hka, hgk, rfl, own, hbn⟩ := hrel
        have HGK := hid hgk
        have HOW := hid own
        have HBN := hid hbn
        have hwn := hbn.size
        clear hgk own hbn
        by_cases hkl : k < m + 1
        ·have hne2 : l ≠ [] := by intro e; rw [e] at ha; simp at ha <;> omega
         obtain ⟨b2, off2, e2, hbl2, hc2⟩ := HRO.out hne2
         obtain ⟨qk, qv, hq⟩ : ∃ x y, l[k]'(by omega) = (x, y) := ⟨_, _, rfl⟩
         have d0 : w3.cell? ⟨b2, off2 + k * 2, none⟩ = some (.string ⟨qk.toArray⟩) := (HBN.out.cell (p := ⟨b2, off2 + k * 2, none⟩) hbl2).trans (hc2 k 0 _ (by omega) (by rw [hq]; rfl))
         have d1 : w3.cell? ⟨b2, off2 + k * 2 + 1, none⟩ = some (.string ⟨qv.toArray⟩) := (HBN.out.cell (p := ⟨b2, off2 + k * 2 + 1, none⟩) hbl2).trans (hc2 k 1 _ (by omega) (by rw [hq]; rfl))
         cases e2
         have HTS := hid (take_step l k (by omega))
         have HQ := hid hq
         clear hc2 hq hne2
         go_wp2_with (at_builtin; refine wpList_pushP rfl (.tmp 48) (.tmp 53) rfl W2.heap.size _ _ (qk, qv) rfl HOW.out rfl ?da1 ?da2 ?_)
         case da1 => rw [List.length_take]; omega
         case da2 => exact hwn
         intro v4 w4 own4 gr4 mv4
         have hb4 := HBN.out.grown gr4 hwn (fun k hk => (World.ownsRow.lt HOW.out k hk).1)
         have O4 := hid own4
         have HB4 := hid hb4
         clear own4 gr4 mv4 hb4 d0 d1
         go_wp2_with fail
         go_roundg (g3 - 1)
         case measure => have := HGK.out; omega
         case rel => exact ⟨k + 1, by omega, by have := HGK.out; omega, by simp, by rw [HTS.out, HQ.out]; exact O4.out, HB4.out⟩
        ·obtain rfl : k = m + 1 := by omega
         have q0 := (HBN.out.cell (p := ⟨w1.heap.size, 0, none⟩) (by show w1.heap.size < _; omega)).trans p0
         have q1 := (HBN.out.cell (p := ⟨w1.heap.size, 1, none⟩) (by show w1.heap.size < _; omega)).trans p1
         go_wp2_with (at_builtin; refine wpList_pushP rfl (.tmp 55) (.tmp 57) rfl W2.heap.size _ _ (ky, vy) rfl HOW.out rfl ?db1 ?db2 ?_)
         case db1 => rw [List.length_take]; omega
         case db2 => exact hwn
         intro v5 w5 own5 gr5 mv5
         have hb5 := HBN.out.grown gr5 hwn (fun k hk => (World.ownsRow.lt HOW.out k hk).1)
         have O5 := hid own5
         have HB5 := hid hb5
         clear own5 gr5 mv5 hb5 q0 q1 HOW HBN HGK hwn
         go_wp2_with fail
         go_loopg [7, 9] l.length (fun g vn vk W => ∃ j : Nat, (m + 1) ≤ j ∧ j ≤ l.length ∧ l.length ≤ j + g ∧ vk = .int .i64 j ∧ OwnP W W2.heap.size vn (l.take (m + 1) ++ (ky, vy) :: (l.take j).drop (m + 1)) ∧ Below W2.heap.size W2 W)
         case atStart => exact ⟨(m + 1), Nat.le_refl _, ha, by omega, rfl, by rw [List.drop_of_length_le (by rw [List.length_take]; omega)]; first | exact O5.out | simpa using O5.out, HB5.out⟩
         case round =>
          rename World => w6
          rename Nat => g6
          obtain ⟨j, hkj, hjl, hgj, rfl, own, hbn⟩ := hrel
          have HGJ := hid hgj
          have HOW := hid own
          have HBN := hid hbn
          have hwn := hbn.size
          clear hgj own hbn O5 HB5
          by_cases hjl2 : j < l.length
          ·have hne2 : l ≠ [] := by intro e; rw [e] at hjl2; simp at hjl2
           obtain ⟨b2, off2, e2, hbl2, hc2⟩ := HRO.out hne2
           obtain ⟨qk, qv, hq⟩ : ∃ x y, l[j] = (x, y) := ⟨_, _, rfl⟩
           have d0 : w6.cell? ⟨b2, off2 + j * 2, none⟩ = some (.string ⟨qk.toArray⟩) := (HBN.out.cell (p := ⟨b2, off2 + j * 2, none⟩) hbl2).trans (hc2 j 0 _ (by omega) (by rw [hq]; rfl))
           have d1 : w6.cell? ⟨b2, off2 + j * 2 + 1, none⟩ = some (.string ⟨qv.toArray⟩) := (HBN.out.cell (p := ⟨b2, off2 + j * 2 + 1, none⟩) hbl2).trans (hc2 j 1 _ (by omega) (by rw [hq]; rfl))
           cases e2
           have HTS := hid (drop_step l (m + 1) j hjl2 hkj)
           have HQ := hid hq
           clear hc2 hq hne2
           go_wp2_with (at_builtin; refine wpList_pushP rfl (.tmp 66) (.tmp 71) rfl W2.heap.size _ _ (qk, qv) rfl HOW.out rfl ?dc1 ?dc2 ?_)
           case dc1 => simp; omega
           case dc2 => exact hwn
           intro v7 w7 own7 gr7 mv7
           have hb7 := HBN.out.grown gr7 hwn (fun k hk => (World.ownsRow.lt HOW.out k hk).1)
           have O7 := hid own7
           have HB7 := hid hb7
           clear own7 gr7 mv7 hb7 d0 d1
           go_wp2_with fail
           go_roundg (g6 - 1)
           case measure => have := HGJ.out; omega
           case rel => exact ⟨j + 1, by omega, by omega, by have := HGJ.out; omega, by simp, by rw [HTS.out, HQ.out]; simpa using O7.out, HB7.out⟩
          ·obtain rfl : j = l.length := by omega
           have HFO := hid (OwnP.mono HOW.out (show w.heap.size + 2 ≤ W2.heap.size by omega))
           have HFB := hid (HB2.out.trans (HBN.out.mono (show w.heap.size + 2 ≤ W2.heap.size by omega)))
           have hlen := hid (show (l.take (m + 1) ++ (ky, vy) :: (l.take l.length).drop (m + 1)).length = l.length + 1 by rw [List.take_length]; simp <;> omega)
           clear HOW HBN HGJ HRO
           go_wp2_with fail
           go_roundg (g1 - 1)
           case measure => have := HG.out; omega
           case rel => exact ⟨l.length + 1, _, by omega, by have := HG.out; omega, hlen.out, by simp, HFO.out, HFB.out, by omega, by rw [List.take_length, HST.out, HFX.out]; exact ins_perm HPM.out, by rw [List.take_length]; exact ins_sorted HSO.out HGT.out HLOW.out⟩
  ·have hll : l.length = t.keys.length := by omega
   have hpm2 := HPM.out
   rw [hll, List.take_length] at hpm2
   have hl : l = ks := by rw [HKS.out]; exact srtK_one (t.keys.map fixP) l hpm2 (by rw [fix_map]; exact HN.out) HSO.out
   have HL := hid hl
   have HO2 := hid (hl ▸ HO.out)
   clear hpm2 hl ow HO HPM HSO
   obtain ⟨ao, co, rfl⟩ := own_sliceP HO2.out
   have hz1 := (HB.out.block (w.heap.size + 1) (by omega)).trans HZ0.out
   obtain ⟨c0, c1, c2, _, _⟩ := box_cells HXR.out
   have c3 : w1.cell? ⟨w.heap.size, 3, none⟩ = some (.slice av t.vars.length cv) := cell_of_row _ _ _ _ _ _ HXR.out
   obtain ⟨d0, d1, d2, d3, d4⟩ := box_cells hz1
   have hfz := frozen_of_row w1 w.heap.size 4 _ _ HXR.out
   have fz0 := frozen_of_row w1 (w.heap.size + 1) 0 _ _ hz1
   have fz1 := frozen_of_row w1 (w.heap.size + 1) 1 _ _ hz1
   have fz2 := frozen_of_row w1 (w.heap.size + 1) 2 _ _ hz1
   have fz3 := frozen_of_row w1 (w.heap.size + 1) 3 _ _ hz1
   have fz4 := frozen_of_row w1 (w.heap.size + 1) 4 _ _ hz1
   have hsz := lt_of_block hz1
   have HZ1 := hid hz1
   clear hz1
   go_wp2_with fail
   clear c0 c1 c2 c3 c4 d0 d1 d2 d3 d4 fz0 fz1 fz2 fz3 fz4 hfz
   have hno : ∀ b, b < w.heap.size + 2 → (Value.slice ao ks.length co).ownBlock ≠ some b := fun b hb e => by have := (World.ownsRow.lt HO2.out b e).1; omega
   have hz3 : (w1.setCell ⟨w.heap.size, 4, none⟩ (.slice ao ks.length co)).heap[w.heap.size + 1]? = some (.cells #[.string ⟨#[]⟩, .string ⟨#[]⟩, .string ⟨#[]⟩, .slice none 0 0, .slice none 0 0] 108 (0, 0)) := by
    rw [heap_setCell_other _ _ _ _ (by simp)]; exact HZ1.out
   have on3 := own_set HO2.out (hno w.heap.size (by omega)) 4 (.slice ao ks.length co)
   have hw3 := ((HB0.out.trans (HB.out.mono (Nat.le_add_right w.heap.size 2))).setCell (p := ⟨w.heap.size, 4, none⟩) (Nat.le_refl _) (.slice ao ks.length co))
   generalize w1.setCell ⟨w.heap.size, 4, none⟩ (.slice ao ks.length co) = w3 at *
   have hr := P5_row (.string ⟨t.lang.toArray⟩) (.string ⟨t.script.toArray⟩) (.string ⟨t.region.toArray⟩) (.slice av t.vars.length cv) (.slice ao ks.length co) hz3
   have hw := P5_below (.string ⟨t.lang.toArray⟩) (.string ⟨t.script.toArray⟩) (.string ⟨t.region.toArray⟩) (.slice av t.vars.length cv) (.slice ao ks.length co) hw3 (Nat.le_succ w.heap.size)
   have on4 := P5_own (.string ⟨t.lang.toArray⟩) (.string ⟨t.script.toArray⟩) (.string ⟨t.region.toArray⟩) (.slice av t.vars.length cv) (.slice ao ks.length co) on3 (hno (w.heap.size + 1) (by omega))
   change bodyPost _ _ _ _ _ (P5 w3 (w.heap.size + 1) (.string ⟨t.lang.toArray⟩) (.string ⟨t.script.toArray⟩) (.string ⟨t.region.toArray⟩) (.slice av t.vars.length cv) (.slice ao ks.length co))
   generalize P5 w3 (w.heap.size + 1) (.string ⟨t.lang.toArray⟩) (.string ⟨t.script.toArray⟩) (.string ⟨t.region.toArray⟩) (.slice av t.vars.length cv) (.slice ao ks.length co) = W at *
   obtain ⟨d0, d1, d2, d3, d4⟩ := box_cells hr
   refine bodyPost_ret (v := .agg #[.string ⟨t.lang.toArray⟩, .string ⟨t.script.toArray⟩, .string ⟨t.region.toArray⟩, .slice av t.vars.length cv, .slice ao ks.length co]) (by simp [results, Tryz.results130, go_sem, d0, d1, d2, d3, d4]) rfl ⟨.slice ao ks.length co, rfl, OwnP.mono on4 (Nat.le_add_right _ 2), hw⟩
end Go.Proofs.YtjlfchnnhglbjaaGreat
