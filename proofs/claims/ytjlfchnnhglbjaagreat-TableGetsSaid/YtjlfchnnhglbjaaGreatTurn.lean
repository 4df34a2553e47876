/- The contracts of utf.turn (at 'A' and at 'a'), Lower, Upper, Title. -/
import Derived.Test.YtjlfchnnhglbjaaGreatUtf
import Derived.Deep.RegionWith
set_option linter.unusedVariables false
set_option linter.unusedSimpArgs false
namespace Go.Proofs.YtjlfchnnhglbjaaGreat
open Go.RowKit

/-- the bytes of a block of the call's own, which may be written -/
def BytesAt (w : World) (b : Nat) (l : List UInt8) : Prop :=
  ∀ j c, l[j]? = some c → w.cell? ⟨b, j, none⟩ = some (.int .u8 (c.toNat : Int)) ∧ w.frozen? ⟨b, j, none⟩ = false

/-- a list whose first k members are turned -/
def stt (f : UInt8 → UInt8) (l : List UInt8) (k : Nat) : List UInt8 := (l.take k).map f ++ l.drop k
theorem stt_zero (f : UInt8 → UInt8) (l : List UInt8) : stt f l 0 = l := by simp [stt]
theorem stt_all (f : UInt8 → UInt8) (l : List UInt8) (k : Nat) (h : l.length ≤ k) : stt f l k = l.map f := by
  simp [stt, List.take_of_length_le h, List.drop_of_length_le h]
theorem stt_len (f : UInt8 → UInt8) (l : List UInt8) (k : Nat) : (stt f l k).length = l.length := by simp [stt]; omega
theorem stt_get (f : UInt8 → UInt8) (l : List UInt8) (k j : Nat) : (stt f l k)[j]? = (l[j]?).map fun c => if j < k then f c else c := by
  unfold stt
  rw [List.getElem?_append]
  simp only [List.length_map, List.length_take]
  by_cases h : j < min k l.length
  · rw [if_pos h, List.getElem?_map, List.getElem?_take, if_pos (by omega)]
    have hk : j < k := by omega
    simp [hk]
  · rw [if_neg h, List.getElem?_drop]
    by_cases hj : j < l.length
    · have hk : ¬ j < k := by omega
      have e : k + (j - min k l.length) = j := by omega
      rw [e]; simp [hk]
    · rw [List.getElem?_eq_none (by omega), List.getElem?_eq_none (by omega)]; rfl
theorem BytesAt.keep {w : World} {b : Nat} {f : UInt8 → UInt8} {l : List UInt8} {k : Nat} {c : UInt8} (h : BytesAt w b (stt f l k)) (hc : l[k]? = some c) (hf : f c = c) : BytesAt w b (stt f l (k + 1)) := by
  intro j d hd
  apply h
  rw [stt_get] at hd ⊢
  by_cases e : j = k
  · subst e; rw [hc] at hd ⊢; simpa [hf] using hd
  · have : j < k + 1 ↔ j < k := by omega
    simpa [this] using hd
theorem BytesAt.turn {w : World} {b : Nat} {f : UInt8 → UInt8} {l : List UInt8} {k : Nat} {c : UInt8} {v : Value} (h : BytesAt w b (stt f l k)) (hc : l[k]? = some c) (hv : v = .int .u8 ((f c).toNat : Int)) : BytesAt (w.setCell ⟨b, k, none⟩ v) b (stt f l (k + 1)) := by
  intro j d hd
  rw [World.frozen?_setCell]
  rw [stt_get] at hd
  by_cases e : j = k
  · subst e
    rw [hc] at hd
    simp at hd
    subst hd
    have h0 := h j c (by rw [stt_get, hc]; simp)
    exact ⟨by rw [World.cell?_setCell_same w _ _ h0.1, hv], h0.2⟩
  · have h1 : j < k + 1 ↔ j < k := by omega
    have h0 := h j d (by rw [stt_get]; simpa [h1] using hd)
    exact ⟨by rw [World.cell?_setCell_other _ _ _ _ (by simp [Ne.symm e])]; exact h0.1, h0.2⟩
theorem BytesAt.row (w : World) (s : ByteArray) (cap : Nat) (e : TypeId) : BytesAt (w.alloc (.cells (bytesRow s cap) e ((bytesRow s cap).size, (bytesRow s cap).size + 1))) w.heap.size s.data.toList := by
  intro j c hc
  have hj : j < s.size := by have := (List.getElem?_eq_some_iff.1 hc).1; simpa using this
  rw [World.cell?_alloc_mark, World.frozen?_alloc_mark]
  have hsz : s.size ≤ (bytesRow s cap).size := by simp [bytesRow]
  refine ⟨?_, by simp; omega⟩
  unfold bytesRow
  rw [Array.getElem?_append_left (by simpa using hj)]
  simp at hc ⊢
  exact ⟨c, hc, rfl⟩
theorem BytesAt.drew {w : World} {b : Nat} {l : List UInt8} (h : BytesAt w b l) : BytesAt w.drew b l := h

theorem xor32 (c : UInt8) : bits BinOp.xor IntKind.u8 (c.toNat : Int) 32 = ((c ^^^ 32).toNat : Int) := by
  revert c; apply forall_byte; decide +kernel
theorem lowB_yes (c : UInt8) (h1 : 65 ≤ (c.toNat : Int)) (h2 : (c.toNat : Int) < 91) : lowB c = c ^^^ 32 := by
  have : 65 ≤ c && c ≤ 90 := by simp [UInt8.le_iff_toNat_le]; omega
  simp only [lowB]; rw [if_pos this]
theorem lowB_no (c : UInt8) (h : ¬ (65 ≤ (c.toNat : Int) ∧ (c.toNat : Int) < 91)) : lowB c = c := by
  have : ¬ (65 ≤ c && c ≤ 90) = true := by simp [UInt8.le_iff_toNat_le]; omega
  simp only [lowB]; rw [if_neg this]
theorem uppB_yes (c : UInt8) (h1 : 97 ≤ (c.toNat : Int)) (h2 : (c.toNat : Int) < 123) : uppB c = c ^^^ 32 := by
  have : 97 ≤ c && c ≤ 122 := by simp [UInt8.le_iff_toNat_le]; omega
  simp only [uppB]; rw [if_pos this]
theorem uppB_no (c : UInt8) (h : ¬ (97 ≤ (c.toNat : Int) ∧ (c.toNat : Int) < 123)) : uppB c = c := by
  have : ¬ (97 ≤ c && c ≤ 122) = true := by simp [UInt8.le_iff_toNat_le]; omega
  simp only [uppB]; rw [if_neg this]

set_option maxHeartbeats 1000000 in
theorem turnLow (s : ByteArray) (w : World) (hs : s.size ≤ 1000) :
    Calls Tryz.prog 152 #[.string s, .int .u8 65] w fun e w' => e = .returned (.string ⟨(lower s.data.toList).toArray⟩) ∧ Below w.heap.size w w' := by
  have hcv := fun W => run_bytes_of_string (P := Tryz.prog) W 9 196 5 s Tryz.underlying9 Tryz.underlying196 Tryz.underlying5
  generalize hcap : grownCap w s.size 0 5 = cap at *
  have hcw := hcv w
  rw [hcap] at hcw
  clear hcv hcap
  have hrow := BytesAt.row w s cap 5
  have hbel : Below w.heap.size w ((w.alloc (.cells (bytesRow s cap) 5 ((bytesRow s cap).size, (bytesRow s cap).size + 1))).drew) := ((Below.refl _ _).alloc (Nat.le_refl _) _).drew
  go_enter Tryz.func152, Tryz.ntmps152
  go_wp2
  go_loopw [12] (fun i wr => ∃ k : Nat, k ≤ s.size ∧ i = .int .i64 k ∧ BytesAt wr w.heap.size (stt lowB s.data.toList k) ∧ Below w.heap.size w wr) (fun i _ => s.size - (intOf i).toNat)
  case atStart => exact ⟨0, Nat.zero_le _, rfl, by rw [stt_zero]; exact hrow.drew, hbel⟩
  case round =>
    obtain ⟨k, hk, rfl, hby, hbw⟩ := hrel
    clear hrow hbel hcw
    by_cases hlt : k < s.size
    · have hc : s.data.toList[k]? = some s[k] := by simp [hlt]; rfl
      generalize s[k] = c at hc
      have h0 := hby k c (by rw [stt_get, hc]; simp)
      have HY := fun v => BytesAt.turn (v := v) hby hc
      have HN := BytesAt.keep hby hc
      have HX := xor32 c
      have H1 := lowB_yes c
      have H2 := lowB_no c
      have hb : (c.toNat : Int) < 256 := by have := c.toNat_lt; omega
      have hb0 : 0 ≤ (c.toNat : Int) := by omega
      have hcell := h0.1
      have hfz := h0.2
      clear h0 hby hc
      generalize (c.toNat : Int) = n at *
      have HX' := hid HX
      have HY' := hid HY
      have HN' := hid HN
      have H1' := hid H1
      have H2' := hid H2
      clear HX HY HN H1 H2
      have hwsz := hbw.size
      have HB := hid hbw
      clear hbw
      by_cases h : 65 ≤ n ∧ n < 91
      · obtain ⟨ha, hb'⟩ := h
        go_wp2
        go_roundw
        case rel => exact ⟨k + 1, by omega, by go_num, HY'.out _ (by rw [H1'.out ha (by omega), ← HX'.out]), HB.out.setCell (Nat.le_refl _) _⟩
        case measure => simp [intOf]; omega
      · by_cases ha : 65 ≤ n
        · have hb' : ¬ n < 91 := fun x => h ⟨ha, x⟩
          clear h
          go_wp2
          go_roundw
          case rel => exact ⟨k + 1, by omega, by go_num, HN'.out (H2'.out (by omega)), HB.out⟩
          case measure => simp [intOf]; omega
        · clear h
          go_wp2
          go_roundw
          case rel => exact ⟨k + 1, by omega, by go_num, HN'.out (H2'.out (by omega)), HB.out⟩
          case measure => simp [intOf]; omega
    · have hback := run_convert_bytes_back (P := Tryz.prog) wr 196 9 5 ⟨w.heap.size, 0, none⟩ cap (lower s.data.toList) Tryz.underlying196 Tryz.underlying5 Tryz.underlying9 (fun j hj => by
        have := (hby j _ (by rw [stt_all _ _ _ (by simp; omega)]; exact List.getElem?_eq_getElem hj)).1
        simpa [Addr.add_lit] using this)
      rw [lower_length] at hback
      have hsz : s.data.toList.length = s.size := by simp
      rw [hsz] at hback
      clear hsz
      have HB := hid hbw
      clear hbw hby
      generalize hr : lower s.data.toList = r at *
      have HR := hid hr
      clear hr
      go_wp2
      go_ret
      exact ⟨by rw [HR.out]; rfl, HB.out⟩

set_option maxHeartbeats 1000000 in
theorem turnUpp (s : ByteArray) (w : World) (hs : s.size ≤ 1000) :
    Calls Tryz.prog 152 #[.string s, .int .u8 97] w fun e w' => e = .returned (.string ⟨(upper s.data.toList).toArray⟩) ∧ Below w.heap.size w w' := by
  have hcv := fun W => run_bytes_of_string (P := Tryz.prog) W 9 196 5 s Tryz.underlying9 Tryz.underlying196 Tryz.underlying5
  generalize hcap : grownCap w s.size 0 5 = cap at *
  have hcw := hcv w
  rw [hcap] at hcw
  clear hcv hcap
  have hrow := BytesAt.row w s cap 5
  have hbel : Below w.heap.size w ((w.alloc (.cells (bytesRow s cap) 5 ((bytesRow s cap).size, (bytesRow s cap).size + 1))).drew) := ((Below.refl _ _).alloc (Nat.le_refl _) _).drew
  go_enter Tryz.func152, Tryz.ntmps152
  go_wp2
  go_loopw [12] (fun i wr => ∃ k : Nat, k ≤ s.size ∧ i = .int .i64 k ∧ BytesAt wr w.heap.size (stt uppB s.data.toList k) ∧ Below w.heap.size w wr) (fun i _ => s.size - (intOf i).toNat)
  case atStart => exact ⟨0, Nat.zero_le _, rfl, by rw [stt_zero]; exact hrow.drew, hbel⟩
  case round =>
    obtain ⟨k, hk, rfl, hby, hbw⟩ := hrel
    clear hrow hbel hcw
    by_cases hlt : k < s.size
    · have hc : s.data.toList[k]? = some s[k] := by simp [hlt]; rfl
      generalize s[k] = c at hc
      have h0 := hby k c (by rw [stt_get, hc]; simp)
      have HY := fun v => BytesAt.turn (v := v) hby hc
      have HN := BytesAt.keep hby hc
      have HX := xor32 c
      have H1 := uppB_yes c
      have H2 := uppB_no c
      have hb : (c.toNat : Int) < 256 := by have := c.toNat_lt; omega
      have hb0 : 0 ≤ (c.toNat : Int) := by omega
      have hcell := h0.1
      have hfz := h0.2
      clear h0 hby hc
      generalize (c.toNat : Int) = n at *
      have HX' := hid HX
      have HY' := hid HY
      have HN' := hid HN
      have H1' := hid H1
      have H2' := hid H2
      clear HX HY HN H1 H2
      have hwsz := hbw.size
      have HB := hid hbw
      clear hbw
      by_cases h : 97 ≤ n ∧ n < 123
      · obtain ⟨ha, hb'⟩ := h
        go_wp2
        go_roundw
        case rel => exact ⟨k + 1, by omega, by go_num, HY'.out _ (by rw [H1'.out ha (by omega), ← HX'.out]), HB.out.setCell (Nat.le_refl _) _⟩
        case measure => simp [intOf]; omega
      · by_cases ha : 97 ≤ n
        · have hb' : ¬ n < 123 := fun x => h ⟨ha, x⟩
          clear h
          go_wp2
          go_roundw
          case rel => exact ⟨k + 1, by omega, by go_num, HN'.out (H2'.out (by omega)), HB.out⟩
          case measure => simp [intOf]; omega
        · clear h
          go_wp2
          go_roundw
          case rel => exact ⟨k + 1, by omega, by go_num, HN'.out (H2'.out (by omega)), HB.out⟩
          case measure => simp [intOf]; omega
    · have hback := run_convert_bytes_back (P := Tryz.prog) wr 196 9 5 ⟨w.heap.size, 0, none⟩ cap (upper s.data.toList) Tryz.underlying196 Tryz.underlying5 Tryz.underlying9 (fun j hj => by
        have := (hby j _ (by rw [stt_all _ _ _ (by simp; omega)]; exact List.getElem?_eq_getElem hj)).1
        simpa [Addr.add_lit] using this)
      rw [upper_length] at hback
      have hsz : s.data.toList.length = s.size := by simp
      rw [hsz] at hback
      clear hsz
      have HB := hid hbw
      clear hbw hby
      generalize hr : upper s.data.toList = r at *
      have HR := hid hr
      clear hr
      go_wp2
      go_ret
      exact ⟨by rw [HR.out]; rfl, HB.out⟩

theorem Lower_any (s : ByteArray) (w : World) (hs : s.size ≤ 1000) :
    Calls Tryz.prog 101 #[.string s] w fun e w' => e = .returned (.string ⟨(lower s.data.toList).toArray⟩) ∧ Below w.heap.size w w' := by
  have h := turnLow s w hs
  generalize lower s.data.toList = b at *
  go_enter Tryz.func101, Tryz.ntmps101
  go_wp2_with (go_at_call 152; refine h.mono ?_; rintro e w' ⟨rfl, hb⟩)
  go_ret
  exact ⟨rfl, by assumption⟩

theorem Upper_any (s : ByteArray) (w : World) (hs : s.size ≤ 1000) :
    Calls Tryz.prog 108 #[.string s] w fun e w' => e = .returned (.string ⟨(upper s.data.toList).toArray⟩) ∧ Below w.heap.size w w' := by
  have h := turnUpp s w hs
  generalize upper s.data.toList = b at *
  go_enter Tryz.func108, Tryz.ntmps108
  go_wp2_with (go_at_call 152; refine h.mono ?_; rintro e w' ⟨rfl, hb⟩)
  go_ret
  exact ⟨rfl, by assumption⟩

theorem str_cat (a b : List UInt8) : (⟨a.toArray⟩ : ByteArray) ++ ⟨b.toArray⟩ = ⟨(a ++ b).toArray⟩ := by
  apply ByteArray.ext; simp [ByteArray.data_append]

theorem extract_le (s : ByteArray) (a b : Nat) : (s.extract a b).size ≤ s.size := by
  rw [Lib.size_eq, Lib.extract_data, Lib.size_eq]; simp only [List.length_take, List.length_drop]; omega

theorem title_cut (s : ByteArray) : upper (s.extract 0 1).data.toList ++ lower (s.extract 1 s.size).data.toList = title s.data.toList := by
  unfold title
  rw [Lib.extract_data, Lib.extract_data]
  congr 2
  rw [List.take_of_length_le]; simp
theorem _root_.Go.RowKit.Below.then {w w1 w2 : World} (h : Below w.heap.size w w1) (k : Below w1.heap.size w1 w2) : Below w.heap.size w w2 := h.trans (k.mono h.size)
theorem _root_.Go.RowKit.Below.undrew {w w1 : World} (h : Below w.drew.heap.size w.drew w1) : Below w.heap.size w w1 := ⟨h.os, h.tape, h.output, h.size, h.block⟩
theorem Upper_r (s : ByteArray) (w : World) (hs : s.size ≤ 1000) :
    Calls Tryz.prog 108 #[.string s] w fun e w' => ∃ r : ByteArray, e = .returned (.string r) ∧ Hid (r = ⟨(upper s.data.toList).toArray⟩) ∧ r.size ≤ 1000 ∧ Below w.heap.size w w' :=
  (Upper_any s w hs).mono fun e w' h => ⟨_, h.1, rfl, by rw [Lib.size_eq]; simp [upper_length]; exact hs, h.2⟩
theorem Lower_r (s : ByteArray) (w : World) (hs : s.size ≤ 1000) :
    Calls Tryz.prog 101 #[.string s] w fun e w' => ∃ r : ByteArray, e = .returned (.string r) ∧ Hid (r = ⟨(lower s.data.toList).toArray⟩) ∧ r.size ≤ 1000 ∧ Below w.heap.size w w' :=
  (Lower_any s w hs).mono fun e w' h => ⟨_, h.1, rfl, by rw [Lib.size_eq]; simp [lower_length]; exact hs, h.2⟩

set_option maxHeartbeats 1000000 in
theorem Title_any (s : ByteArray) (w : World) (hs : s.size ≤ 1000) (h0 : 0 < s.size) :
    Calls Tryz.prog 106 #[.string s] w fun e w' => e = .returned (.string ⟨(title s.data.toList).toArray⟩) ∧ Below w.heap.size w w' := by
  have hne : s.toList.isEmpty = false := by
    rw [Lib.toList_data]; cases h : s.data.toList with
    | nil => have h' : s.data.toList.length = 0 := by rw [h]; rfl
             have := Lib.size_eq s; omega
    | cons a r => rfl
  go_enter Tryz.func106, Tryz.ntmps106
  go_wp2_with fail
  go_region_with (first | (go_at_call 108; refine (Upper_r _ _ (by exact Nat.le_trans (extract_le s _ _) hs)).mono ?_; rintro e w1 ⟨r1, rfl, hr1, hrs1, hb1⟩) | (go_at_call 101; refine (Lower_r _ _ (by exact Nat.le_trans (extract_le s _ _) hs)).mono ?_; rintro e w2 ⟨r2, rfl, hr2, hrs2, hb2⟩))
  all_goals go_wp2
  all_goals go_ret
  all_goals refine ⟨?_, by first | exact hb1.undrew.then hb2 | exact hb2.undrew.then hb1⟩
  all_goals show Ending.returned (.string (r1 ++ r2)) = _
  all_goals rw [hr1.out, hr2.out, str_cat, title_cut]
end Go.Proofs.YtjlfchnnhglbjaaGreat
