/- The contracts of the reference's Low, High and Title. -/
import Derived.Test.YtjlfchnnhglbjaaGreatUtf
import Derived.Test.YtjlfchnnhglbjaaGreatTurn
import Derived.Test.YtjlfchnnhglbjaaGreatDressP
import Derived.Deep.RegionWith
set_option linter.unusedVariables false
set_option linter.unusedSimpArgs false
namespace Go.Proofs.YtjlfchnnhglbjaaGreat
open Go.RowKit

theorem low_add (c : UInt8) : 65 ≤ (c.toNat : Int) → (c.toNat : Int) ≤ 90 → ((lowB c).toNat : Int) = (c.toNat : Int) + 32 := all_bytes (p := fun c => 65 ≤ (c.toNat : Int) → (c.toNat : Int) ≤ 90 → ((lowB c).toNat : Int) = (c.toNat : Int) + 32) (by decide +kernel) c
theorem low_not (c : UInt8) : ¬ (65 ≤ (c.toNat : Int) ∧ (c.toNat : Int) ≤ 90) → lowB c = c := fun h => lowB_no c (by omega)
theorem upp_add (c : UInt8) : 97 ≤ (c.toNat : Int) → (c.toNat : Int) ≤ 122 → ((uppB c).toNat : Int) = (c.toNat : Int) - 32 := all_bytes (p := fun c => 97 ≤ (c.toNat : Int) → (c.toNat : Int) ≤ 122 → ((uppB c).toNat : Int) = (c.toNat : Int) - 32) (by decide +kernel) c
theorem upp_not (c : UInt8) : ¬ (97 ≤ (c.toNat : Int) ∧ (c.toNat : Int) ≤ 122) → uppB c = c := fun h => uppB_no c (by omega)

set_option maxHeartbeats 1000000 in
theorem rLow_any (s : ByteArray) (w : World) (hs : s.size ≤ 1000) :
    Calls Tryz.prog 122 #[.string s] w fun e w' => e = .returned (.string ⟨(lower s.data.toList).toArray⟩) ∧ Below w.heap.size w w' := by
  have hcv := fun W => run_bytes_of_string (P := Tryz.prog) W 9 196 5 s Tryz.underlying9 Tryz.underlying196 Tryz.underlying5
  generalize hcap : grownCap w s.size 0 5 = cap at *
  have hcw := hcv w
  rw [hcap] at hcw
  clear hcv hcap
  have hrow := BytesAt.row w s cap 5
  have hbel : Below w.heap.size w ((w.alloc (.cells (bytesRow s cap) 5 ((bytesRow s cap).size, (bytesRow s cap).size + 1))).drew) := ((Below.refl _ _).alloc (Nat.le_refl _) _).drew
  go_enter Tryz.func122, Tryz.ntmps122
  go_wp2
  go_loopw [4] (fun i wr => ∃ k : Nat, k ≤ s.size ∧ i = .int .i64 k ∧ BytesAt wr w.heap.size (stt lowB s.data.toList k) ∧ Below w.heap.size w wr) (fun i _ => s.size - (intOf i).toNat)
  case atStart => exact ⟨0, Nat.zero_le _, rfl, by rw [stt_zero]; exact hrow.drew, hbel⟩
  case round =>
    obtain ⟨k, hk, rfl, hby, hbw⟩ := hrel
    clear hrow hbel hcw
    by_cases hlt : k < s.size
    · have hc : s.data.toList[k]? = some s[k] := by simp [hlt]; rfl
      generalize s[k] = c at hc
      have h0 := hby k c (by rw [stt_get, hc]; simp)
      have HY' := hid (fun v => BytesAt.turn (v := v) hby hc)
      have HN' := hid (BytesAt.keep hby hc)
      have H1' := hid (low_add c)
      have H2' := hid (low_not c)
      have hb : (c.toNat : Int) < 256 := by have := c.toNat_lt; omega
      have hb0 : 0 ≤ (c.toNat : Int) := by omega
      have hcell := h0.1
      have hfz := h0.2
      clear h0 hby hc
      generalize (c.toNat : Int) = n at *
      have hwsz := hbw.size
      have HB := hid hbw
      clear hbw
      by_cases h : 65 ≤ n ∧ n ≤ 90
      · obtain ⟨ha, hb'⟩ := h
        go_wp2
        go_roundw
        case rel => exact ⟨k + 1, by omega, by go_num, HY'.out _ (by rw [H1'.out ha hb']), HB.out.setCell (Nat.le_refl _) _⟩
        case measure => simp [intOf]; omega
      · by_cases ha : 65 ≤ n
        · have hb' : ¬ n ≤ 90 := fun x => h ⟨ha, x⟩
          clear h
          go_wp2
          go_roundw
          case rel => exact ⟨k + 1, by omega, by go_num, HN'.out (H2'.out (by omega)), HB.out⟩
          case measure => simp [intOf]; omega
        · clear h
          go_wp2
          go_roundw
          case rel => exact ⟨k + 1, by omega, by go_num, HN'.out (H2'.out (by omega)), HB.out⟩
          case measure => simp [intOf]; omega
    · have hback := run_convert_bytes_back (P := Tryz.prog) wr 196 9 5 ⟨w.heap.size, 0, none⟩ cap (lower s.data.toList) Tryz.underlying196 Tryz.underlying5 Tryz.underlying9 (fun j hj => by
        have := (hby j _ (by rw [stt_all _ _ _ (by simp; omega)]; exact List.getElem?_eq_getElem hj)).1
        simpa [Addr.add_lit] using this)
      rw [lower_length] at hback
      have hsz : s.data.toList.length = s.size := by simp
      rw [hsz] at hback
      clear hsz
      have HB := hid hbw
      clear hbw hby
      generalize hr : lower s.data.toList = r at *
      have HR := hid hr
      clear hr
      go_wp2
      go_ret
      exact ⟨by rw [HR.out]; rfl, HB.out⟩

set_option maxHeartbeats 1000000 in
theorem rHigh_any (s : ByteArray) (w : World) (hs : s.size ≤ 1000) :
    Calls Tryz.prog 126 #[.string s] w fun e w' => e = .returned (.string ⟨(upper s.data.toList).toArray⟩) ∧ Below w.heap.size w w' := by
  have hcv := fun W => run_bytes_of_string (P := Tryz.prog) W 9 196 5 s Tryz.underlying9 Tryz.underlying196 Tryz.underlying5
  generalize hcap : grownCap w s.size 0 5 = cap at *
  have hcw := hcv w
  rw [hcap] at hcw
  clear hcv hcap
  have hrow := BytesAt.row w s cap 5
  have hbel : Below w.heap.size w ((w.alloc (.cells (bytesRow s cap) 5 ((bytesRow s cap).size, (bytesRow s cap).size + 1))).drew) := ((Below.refl _ _).alloc (Nat.le_refl _) _).drew
  go_enter Tryz.func126, Tryz.ntmps126
  go_wp2
  go_loopw [4] (fun i wr => ∃ k : Nat, k ≤ s.size ∧ i = .int .i64 k ∧ BytesAt wr w.heap.size (stt uppB s.data.toList k) ∧ Below w.heap.size w wr) (fun i _ => s.size - (intOf i).toNat)
  case atStart => exact ⟨0, Nat.zero_le _, rfl, by rw [stt_zero]; exact hrow.drew, hbel⟩
  case round =>
    obtain ⟨k, hk, rfl, hby, hbw⟩ := hrel
    clear hrow hbel hcw
    by_cases hlt : k < s.size
    · have hc : s.data.toList[k]? = some s[k] := by simp [hlt]; rfl
      generalize s[k] = c at hc
      have h0 := hby k c (by rw [stt_get, hc]; simp)
      have HY' := hid (fun v => BytesAt.turn (v := v) hby hc)
      have HN' := hid (BytesAt.keep hby hc)
      have H1' := hid (upp_add c)
      have H2' := hid (upp_not c)
      have hb : (c.toNat : Int) < 256 := by have := c.toNat_lt; omega
      have hb0 : 0 ≤ (c.toNat : Int) := by omega
      have hcell := h0.1
      have hfz := h0.2
      clear h0 hby hc
      generalize (c.toNat : Int) = n at *
      have hwsz := hbw.size
      have HB := hid hbw
      clear hbw
      by_cases h : 97 ≤ n ∧ n ≤ 122
      · obtain ⟨ha, hb'⟩ := h
        go_wp2
        go_roundw
        case rel => exact ⟨k + 1, by omega, by go_num, HY'.out _ (by rw [H1'.out ha hb']), HB.out.setCell (Nat.le_refl _) _⟩
        case measure => simp [intOf]; omega
      · by_cases ha : 97 ≤ n
        · have hb' : ¬ n ≤ 122 := fun x => h ⟨ha, x⟩
          clear h
          go_wp2
          go_roundw
          case rel => exact ⟨k + 1, by omega, by go_num, HN'.out (H2'.out (by omega)), HB.out⟩
          case measure => simp [intOf]; omega
        · clear h
          go_wp2
          go_roundw
          case rel => exact ⟨k + 1, by omega, by go_num, HN'.out (H2'.out (by omega)), HB.out⟩
          case measure => simp [intOf]; omega
    · have hback := run_convert_bytes_back (P := Tryz.prog) wr 196 9 5 ⟨w.heap.size, 0, none⟩ cap (upper s.data.toList) Tryz.underlying196 Tryz.underlying5 Tryz.underlying9 (fun j hj => by
        have := (hby j _ (by rw [stt_all _ _ _ (by simp; omega)]; exact List.getElem?_eq_getElem hj)).1
        simpa [Addr.add_lit] using this)
      rw [upper_length] at hback
      have hsz : s.data.toList.length = s.size := by simp
      rw [hsz] at hback
      clear hsz
      have HB := hid hbw
      clear hbw hby
      generalize hr : upper s.data.toList = r at *
      have HR := hid hr
      clear hr
      go_wp2
      go_ret
      exact ⟨by rw [HR.out]; rfl, HB.out⟩

theorem rHigh_r (s : ByteArray) (w : World) (hs : s.size ≤ 1000) :
    Calls Tryz.prog 126 #[.string s] w fun e w' => ∃ r : ByteArray, e = .returned (.string r) ∧ Hid (r = ⟨(upper s.data.toList).toArray⟩) ∧ r.size ≤ 1000 ∧ Below w.heap.size w w' :=
  (rHigh_any s w hs).mono fun e w' h => ⟨_, h.1, rfl, by rw [Lib.size_eq]; simp [upper_length]; exact hs, h.2⟩
theorem rLow_r (s : ByteArray) (w : World) (hs : s.size ≤ 1000) :
    Calls Tryz.prog 122 #[.string s] w fun e w' => ∃ r : ByteArray, e = .returned (.string r) ∧ Hid (r = ⟨(lower s.data.toList).toArray⟩) ∧ r.size ≤ 1000 ∧ Below w.heap.size w w' :=
  (rLow_any s w hs).mono fun e w' h => ⟨_, h.1, rfl, by rw [Lib.size_eq]; simp [lower_length]; exact hs, h.2⟩

set_option maxHeartbeats 1000000 in
theorem rTitle_any (s : ByteArray) (w : World) (hs : s.size ≤ 1000) (h0 : 0 < s.size) :
    Calls Tryz.prog 125 #[.string s] w fun e w' => e = .returned (.string ⟨(title s.data.toList).toArray⟩) ∧ Below w.heap.size w w' := by
  go_enter Tryz.func125, Tryz.ntmps125
  go_wp2_with fail
  go_region_with (first | (go_at_call 126; refine (rHigh_r _ _ (by exact Nat.le_trans (extract_le s _ _) hs)).mono ?_; rintro e w1 ⟨r1, rfl, hr1, hrs1, hb1⟩) | (go_at_call 122; refine (rLow_r _ _ (by exact Nat.le_trans (extract_le s _ _) hs)).mono ?_; rintro e w2 ⟨r2, rfl, hr2, hrs2, hb2⟩))
  all_goals go_wp2
  all_goals go_ret
  all_goals refine ⟨?_, by first | exact hb1.undrew.then hb2 | exact hb2.undrew.then hb1⟩
  all_goals show Ending.returned (.string (r1 ++ r2)) = _
  all_goals rw [hr1.out, hr2.out, str_cat, title_cut]
end Go.Proofs.YtjlfchnnhglbjaaGreat
