/- The contract of strings.IndexAny at the two signs minus and underline, for every text of at most a thousand bytes (valid UTF-8 or not). -/
import Derived.Test.YtjlfchnnhglbjaaGreatTurn
import Derived.Test.YtjlfchnnhglbjaaGreatParseP
import Derived.Test.YtjlfchnnhglbjaaGreatShelf
import Derived.Deep.QuietTactic
import Derived.BigQuiet
import Derived.Deep.LoopGhost
import Derived.WalkSmall
import Derived.Lib.OthersKept
set_option linter.unusedVariables false
set_option linter.unusedSimpArgs false
namespace Go.Proofs.YtjlfchnnhglbjaaGreat
open Go.RowKit Go.Lib

theorem get_le (s : ByteArray) (k : Nat) (h : k < s.size) : s.get! k = s[k]'h := by
  show s.get! k = _
  simp [ByteArray.get!, getElem!_pos, h]
  rfl

/-- a sign that begins with a high byte is of high bytes alone, and lies in the text -/
theorem decode_bytes (s : ByteArray) (pos : Nat) (h : pos < s.size) (ha : 128 ≤ (s[pos]'h).toNat) :
    pos + (Utf8.decode s pos).2 ≤ s.size ∧ ∀ j, pos ≤ j → j < pos + (Utf8.decode s pos).2 → ∀ hj : j < s.size, 128 ≤ (s[j]'hj).toNat := by
  have e0 : s.get! (pos + 0) = s[pos]'h := get_le s pos h
  have c : ∀ k, (decide (pos + k < s.size) && (s.get! (pos + k)).toNat / 64 == 2) = true → pos + k < s.size ∧ ∀ hj : pos + k < s.size, 128 ≤ (s[pos + k]'hj).toNat := by
    intro k hk
    simp only [Bool.and_eq_true, decide_eq_true_eq, beq_iff_eq] at hk
    refine ⟨hk.1, fun hj => ?_⟩
    rw [← get_le s _ hj]; omega
  have one : pos + 1 ≤ s.size ∧ ∀ j, pos ≤ j → j < pos + 1 → ∀ hj : j < s.size, 128 ≤ (s[j]'hj).toNat := by
    refine ⟨by omega, fun j h1 h2 hj => ?_⟩
    obtain rfl : j = pos := by omega
    exact ha
  have c1 := c 1
  have c2 := c 2
  have c3 := c 3
  have two : ((decide (pos + 1 < s.size) && (s.get! (pos + 1)).toNat / 64 == 2) = true) → pos + 2 ≤ s.size ∧ ∀ j, pos ≤ j → j < pos + 2 → ∀ hj : j < s.size, 128 ≤ (s[j]'hj).toNat := by
    intro h1
    have := c1 h1
    refine ⟨by omega, fun j g1 g2 hj => ?_⟩
    by_cases e : j = pos
    · subst e; exact ha
    · obtain rfl : j = pos + 1 := by omega
      exact this.2 hj
  have three : ((decide (pos + 1 < s.size) && (s.get! (pos + 1)).toNat / 64 == 2) = true) → ((decide (pos + 2 < s.size) && (s.get! (pos + 2)).toNat / 64 == 2) = true) → pos + 3 ≤ s.size ∧ ∀ j, pos ≤ j → j < pos + 3 → ∀ hj : j < s.size, 128 ≤ (s[j]'hj).toNat := by
    intro h1 h2
    have a1 := two h1
    have a2 := c2 h2
    refine ⟨by omega, fun j g1 g2 hj => ?_⟩
    by_cases e : j < pos + 2
    · exact a1.2 j g1 e hj
    · obtain rfl : j = pos + 2 := by omega
      exact a2.2 hj
  have four : ((decide (pos + 1 < s.size) && (s.get! (pos + 1)).toNat / 64 == 2) = true) → ((decide (pos + 2 < s.size) && (s.get! (pos + 2)).toNat / 64 == 2) = true) → ((decide (pos + 3 < s.size) && (s.get! (pos + 3)).toNat / 64 == 2) = true) → pos + 4 ≤ s.size ∧ ∀ j, pos ≤ j → j < pos + 4 → ∀ hj : j < s.size, 128 ≤ (s[j]'hj).toNat := by
    intro h1 h2 h3
    have a1 := three h1 h2
    have a2 := c3 h3
    refine ⟨by omega, fun j g1 g2 hj => ?_⟩
    by_cases e : j < pos + 3
    · exact a1.2 j g1 e hj
    · obtain rfl : j = pos + 3 := by omega
      exact a2.2 hj
  clear c c1 c2 c3
  unfold Utf8.decode
  simp only []
  split
  · rename_i h1; rw [e0] at h1; omega
  split
  · rename_i h1; simp only [Bool.and_eq_true] at h1 two
    split
    · exact two (by simpa using h1.2)
    · exact one
  split
  · rename_i h1
    simp only [Bool.and_eq_true] at h1
    split
    · exact three (by simpa using h1.1.2) (by simpa using h1.2)
    · exact one
  split
  · rename_i h1
    simp only [Bool.and_eq_true] at h1
    split
    · exact four (by simpa using h1.1.1.2) (by simpa using h1.1.2) (by simpa using h1.2)
    · exact one
  · exact one



theorem high_no (b : UInt8) (h : 128 ≤ b.toNat) : seps.contains b = false := by
  revert h; revert b; apply forall_byte; decide +kernel

theorem encode_two (r : Int) (h1 : 128 ≤ r) (h2 : r < 2048) (hv : Utf8.valid r = true) : ∃ a b : UInt8, Utf8.encode r = ⟨#[a, b]⟩ ∧ 128 ≤ b.toNat := by
  unfold Utf8.encode
  rw [if_pos hv]
  simp only []
  rw [if_neg (by omega), if_pos (by omega)]
  exact ⟨_, _, rfl, by simp; omega⟩
theorem encode_more (r : Int) (h2 : 2048 ≤ r) (hv : Utf8.valid r = true) : 3 ≤ (Utf8.encode r).size ∧ (Utf8.encode r).size ≤ 4 := by
  unfold Utf8.encode
  rw [if_pos hv]
  simp only []
  rw [if_neg (by omega), if_neg (by omega)]
  split <;> simp [ByteArray.size]

set_option maxRecDepth 100000 in
set_option maxHeartbeats 1000000 in
theorem rune_error (w : World) : Calls Tryz.prog 180 #[.string ⟨#[45, 95]⟩, .int .i32 65533] w fun e w' => e = .returned (.int .i64 (-1)) ∧ Below w.heap.size w w' := by
  have n0 := fun ty => run_next_ascii (P := Tryz.prog) w ⟨#[45, 95]⟩ 0 ty (by decide) (by decide)
  have n1 := fun ty => run_next_ascii (P := Tryz.prog) w ⟨#[45, 95]⟩ 1 ty (by decide) (by decide)
  have n2 := fun ty => run_next_end (P := Tryz.prog) w ⟨#[45, 95]⟩ 2 ty (by decide)
  have b : ∀ k, Below w.heap.size w (w.iter ⟨#[45, 95]⟩ k) := fun k => (Below.refl _ _).alloc (Nat.le_refl _) _
  have B := hid b
  clear b
  go_enter Tryz.func180, Tryz.ntmps180
  go_wp2_with fail
  refine wp_loop_rounds 3 ?_
  rw [rounds_succ]
  go_wp2_with fail
  rw [rounds_succ]
  go_wp2_with fail
  rw [rounds_succ]
  go_wp2_with fail
  go_ret
  exact ⟨rfl, B.out _⟩

set_option maxRecDepth 100000 in
set_option maxHeartbeats 1000000 in
theorem rune_none (r : Int) (w : World) (h1 : 128 ≤ r) (h2 : r ≤ 2147483647) (he : (r == 65533) = false) (hv : Lib.validRune r = false) :
    Calls Tryz.prog 180 #[.string ⟨#[45, 95]⟩, .int .i32 r] w fun e w' => e = .returned (.int .i64 (-1)) ∧ w' = w := by
  have h := Tryz.utf8_ValidRune r
  rw [hv] at h
  clear hv
  go_enter Tryz.func180, Tryz.ntmps180
  go_wp2_with (go_at_call 193; refine (h _).mono ?_; rintro e w' ⟨rfl, rfl⟩)
  go_ret
  exact ⟨rfl, rfl⟩

set_option maxRecDepth 100000 in
set_option maxHeartbeats 1000000 in
theorem rune_two (r : Int) (w : World) (h1 : 128 ≤ r) (h2 : r < 2048) (he : (r == 65533) = false) (hv : Lib.validRune r = true) :
    Calls Tryz.prog 180 #[.string ⟨#[45, 95]⟩, .int .i32 r] w fun e w' => e = .returned (.int .i64 (-1)) ∧ Below w.heap.size w w' := by
  have h := Tryz.utf8_ValidRune r
  rw [hv] at h
  have hvv : Utf8.valid r = true := by simp only [Utf8.valid]; simp; omega
  obtain ⟨a, b, hab, hb⟩ := encode_two r h1 h2 hvv
  have hb2 := b.toNat_lt
  clear hv hvv
  go_enter Tryz.func180, Tryz.ntmps180
  go_wp2_with (go_at_call 193; refine (h _).mono ?_; rintro e w' ⟨rfl, rfl⟩)
  go_step3
  go_wp2_with fail
  refine wp_loop_rounds 1 ?_
  rw [rounds_succ]
  go_wp2_with fail
  go_step3
  go_wp2_with fail
  have hne : ((((⟨#[45, 95]⟩ : ByteArray)[1]'(by decide)).toNat : Int) != (((⟨#[a, b]⟩ : ByteArray)[1]'(by show 1 < 2; omega)).toNat : Int)) = true := by
    show ((95 : Int) != (b.toNat : Int)) = true
    rw [bne_iff_ne]; omega
  have hix : ∀ (s : ByteArray) (c : Int) (W : World), s.size = 0 → Calls Tryz.prog 97 #[.string s, .int .u8 c] W fun e w' => e = .returned (.int .i64 (-1)) ∧ w' = W := fun s c W h0 =>
    (Tryz.strings_IndexByte s c W).mono fun _ _ h => ⟨by rw [h.1, List.eq_nil_of_length_eq_zero (l := s.data.toList) (by rw [← Lib.size_eq]; exact h0)]; rfl, h.2⟩
  go_quiet (fail)
  go_wp2_with fail
  have hB : Below w'.heap.size w' (w'.drewN nq) := below_drewN (Below.refl _ _) nq
  generalize w'.drewN nq = W at *
  have hw2 : IntKind.i64.wrap 2 = 2 := by decide
  go_quiet ((go_at_call 97; exact Calls.quiet_of_same (hix _ _ _ (by rfl))))
  go_wp2_with fail
  try simp only [Exit.inBlock, Exit.then]
  try rw [Exit.noGoto_ret]
  try simp only [Exit.inBlock, Exit.then]
  try rw [Exit.noGoto_ret]
  go_ret
  exact ⟨rfl, below_drewN hB nq⟩

set_option maxRecDepth 100000 in
set_option maxHeartbeats 1000000 in
theorem rune_more (r : Int) (w : World) (h1 : 2048 ≤ r) (h2 : r ≤ 2147483647) (he : (r == 65533) = false) (hv : Lib.validRune r = true) :
    Calls Tryz.prog 180 #[.string ⟨#[45, 95]⟩, .int .i32 r] w fun e w' => e = .returned (.int .i64 (-1)) ∧ w' = w := by
  have h := Tryz.utf8_ValidRune r
  rw [hv] at h
  have hvv : Utf8.valid r = true := by simp only [Lib.validRune, Utf8.valid, decide_eq_true_eq] at hv ⊢; simp; omega
  have hm := encode_more r h1 hvv
  obtain ⟨hm1, hm2⟩ := hm
  clear hv hvv
  go_enter Tryz.func180, Tryz.ntmps180
  go_wp2_with (go_at_call 193; refine (h _).mono ?_; rintro e w' ⟨rfl, rfl⟩)
  go_step3
  go_wp2_with fail
  refine wp_loop_rounds 1 ?_
  rw [rounds_succ]
  go_wp2_with fail
  try rw [Exit.noGoto_ret]
  try rw [Exit.noGoto_ret]
  go_ret
  exact ⟨rfl, rfl⟩

/-- strings.IndexRune at minus and underline finds no sign beyond ASCII. -/
theorem rune_high (r : Int) (w : World) (h1 : 128 ≤ r) (h2 : r ≤ 2147483647) :
    Calls Tryz.prog 180 #[.string ⟨#[45, 95]⟩, .int .i32 r] w fun e w' => e = .returned (.int .i64 (-1)) ∧ Below w.heap.size w w' := by
  by_cases he : r = 65533
  · subst he; exact rune_error w
  · have he' : (r == 65533) = false := beq_eq_false_iff_ne.2 he
    cases hv : Lib.validRune r
    · exact (rune_none r w h1 h2 he' hv).mono fun _ _ h => ⟨h.1, h.2 ▸ Below.refl _ _⟩
    · by_cases h3 : r < 2048
      · exact rune_two r w h1 h3 he' hv
      · exact (rune_more r w (by omega) h2 he' hv).mono fun _ _ h => ⟨h.1, h.2 ▸ Below.refl _ _⟩

theorem iter_set_above (w : World) (s : ByteArray) (i : Nat) (w1 : World) (h : Below (w.iter s i).heap.size (w.iter s i) w1) : w1.heap[w.heap.size]? = some (.stringIter s i) := by
  rw [h.block _ (by show w.heap.size < (w.heap.push _).size; simp)]
  exact World.iter_heap w s i

set_option maxHeartbeats 2000000 in
set_option maxRecDepth 1000000 in
theorem any_short (s : ByteArray) (w : World) (h8 : s.size ≤ 8) :
    Calls Tryz.prog 153 #[.string s, .string ⟨#[45, 95]⟩] w fun e w' => e = .returned (.int .i64 (Lib.indexAny s.data.toList seps)) ∧ Below w.heap.size w w' := by
  have h8z : decide ((8 : Int) < (s.size : Int)) = false := decide_eq_false (by omega)
  have hsh := Tryz.strings_shouldUseASCIISet s.size
  rw [h8z] at hsh
  go_enter Tryz.func153, Tryz.ntmps153
  go_wp2_with (go_at_call 181; refine (hsh _).mono ?_; rintro e w' ⟨rfl, rfl⟩)
  obtain ⟨B, hB⟩ : ∃ B, B = w'.heap.size := ⟨_, rfl⟩
  rw [← hB]
  have HB := hid hB
  clear hB
  go_loopg [9, 10] s.size (fun g _ _ wx => ∃ i : Nat, i ≤ s.size ∧ s.size ≤ i + g ∧ wx.heap[B]? = some (.stringIter s i) ∧ Below B w' wx ∧ Lib.NoAny s.data.toList seps i)
  case atStart => exact ⟨0, by omega, by omega, by rw [HB.out]; exact World.iter_heap _ _ _, by rw [HB.out]; exact (Below.refl _ _).alloc (Nat.le_refl _) _, Lib.NoAny.zero _ _⟩
  case round =>
    obtain ⟨i, hi, hig, hit, hbel, hno⟩ := hrel
    have HN := hid hno
    have HL := hid hbel
    have hsz : B < wr.heap.size := lt_of_block hit
    clear hno hbel
    by_cases hlt : i < s.size
    · cases gk with
      | zero => omega
      | succ g =>
      by_cases ha : (s[i]'hlt).toNat < 128
      · have hnx := fun ty => Lib.run_next_ascii_at (P := Tryz.prog) wr B s i ty hit hlt ha
        have hxl : s.data.toList[i]? = some (s[i]'hlt) := Lib.data_getElem? s i hlt
        generalize s[i]'hlt = x at *
        have Hx := hid hxl
        have hv : (wr.iterAt B s (i + 1)).heap[B]? = some (.stringIter s (i + 1)) ∧ Below B w' (wr.iterAt B s (i + 1)) := ⟨Lib.iterAt_heap wr B s i (i + 1) hit, Lib.below_iterAt HL.out (Nat.le_refl _) s (i + 1)⟩
        clear hxl hit
        have hcon := Lib.contains_iff_indexByte seps x
        have hback : ((x.toNat : Int)).toNat.toUInt8 = x := by simp
        have hcall := fun W => Tryz.strings_IndexRune_ascii ⟨#[45, 95]⟩ (x.toNat : Int) W (by omega) (by omega)
        rw [hback] at hcall
        change ∀ W, Calls _ _ _ _ (fun e w' => e = .returned (.int .i64 (Lib.indexByte seps x)) ∧ w' = W) at hcall
        cases hin : seps.contains x
        · rw [hin] at hcon
          have hneg : Lib.indexByte seps x < 0 := by have := of_decide_eq_false hcon.symm; omega
          have HI := hid hin
          generalize Lib.indexByte seps x = y at *
          clear hcon hin hback
          generalize wr.iterAt B s (i + 1) = w2 at *
          have HV := hid hv
          clear hv
          go_wp2_with (go_at_call 180; refine (hcall _).mono ?_; rintro e w3 ⟨rfl, rfl⟩)
          go_roundg g
          case measure => omega
          case rel => exact ⟨i + 1, by omega, by omega, HV.out.1, HV.out.2, HN.out.succ Hx.out HI.out⟩
        · rw [hin] at hcon
          have hpos : 0 ≤ Lib.indexByte seps x := of_decide_eq_true hcon.symm
          have HI := hid hin
          generalize Lib.indexByte seps x = y at *
          clear hcon hin hback
          generalize wr.iterAt B s (i + 1) = w2 at *
          have HV := hid hv
          clear hv
          go_wp2_with (go_at_call 180; refine (hcall _).mono ?_; rintro e w3 ⟨rfl, rfl⟩)
          go_ret
          exact ⟨by rw [Lib.indexAny_hit HN.out Hx.out HI.out]; rfl, by rw [← HB.out]; exact HV.out.2⟩
      · have hnx := fun ty => Lib.run_next_any_at (P := Tryz.prog) wr B s i ty hit hlt
        have hd := hid (decode_bytes s i hlt (by omega))
        have hd2 := decode_high s i hlt (by omega)
        have hd3 := decode_le s i
        generalize hdec : Utf8.decode s i = d at *
        obtain ⟨r, n⟩ := d
        simp only [] at hd2 hd3 hnx
        obtain ⟨hr1, hn1⟩ := hd2
        have hdn : i + n ≤ s.size := hd.out.1
        have HD := hid hdec
        have hv : (wr.iterAt B s (i + n)).heap[B]? = some (.stringIter s (i + n)) ∧ Below B w' (wr.iterAt B s (i + n)) := ⟨Lib.iterAt_heap wr B s i (i + n) hit, Lib.below_iterAt HL.out (Nat.le_refl _) s (i + n)⟩
        clear hit hdec
        generalize wr.iterAt B s (i + n) = w2 at *
        have HV := hid hv
        clear hv
        go_wp2_with (go_at_call 180; refine (rune_high _ _ (by omega) (by omega)).mono ?_; rintro e w3 ⟨rfl, hb3⟩)
        go_roundg g
        case measure => omega
        case rel =>
          refine ⟨i + n, by omega, by omega, ?_, ?_, ?_⟩
          · rw [hb3.block _ (lt_of_block HV.out.1)]; exact HV.out.1
          · exact HV.out.2.trans (hb3.mono (Nat.le_of_lt (lt_of_block HV.out.1)))
          · intro j b hj hb
            by_cases hji : j < i
            · exact HN.out j b hji hb
            · have hjs : j < s.size := by omega
              have h128 := hd.out.2 j (by omega) (by omega) hjs
              rw [Lib.data_getElem? s j hjs] at hb
              simp at hb
              exact high_no b (by rw [← hb]; exact h128)
    · obtain rfl : i = s.size := by omega
      have hnx := fun ty => Lib.run_next_end_at (P := Tryz.prog) wr B s s.size ty hit (by omega)
      clear hit
      go_wp2
      go_ret
      exact ⟨by rw [Lib.indexAny_none (by rw [← Lib.size_eq]; exact HN.out)]; rfl, by rw [← HB.out]; exact HL.out⟩

theorem any_seps (s : ByteArray) (w : World) (hs : s.size ≤ 1000) :
    Calls Tryz.prog 153 #[.string s, .string ⟨#[45, 95]⟩] w fun e w' => e = .returned (.int .i64 (Lib.indexAny s.data.toList seps)) ∧ Below w.heap.size w w' := by
  by_cases h8 : s.size ≤ 8
  · exact any_short s w h8
  · have h := Tryz.strings_IndexAny_long (zero_of_info (n := 256) (by kernel_rfl)).1 s ⟨#[45, 95]⟩ w (by decide) (by omega) (by omega) (by decide) (fun j b hb => by
      match j, hb with
      | 0, hb => simp at hb; subst hb; decide
      | 1, hb => simp at hb; subst hb; decide)
    exact h.mono fun _ _ h => ⟨h.1, h.2 ▸ ((Below.refl _ _).alloc (Nat.le_refl _) _).alloc (by simp) _⟩
end Go.Proofs.YtjlfchnnhglbjaaGreat
