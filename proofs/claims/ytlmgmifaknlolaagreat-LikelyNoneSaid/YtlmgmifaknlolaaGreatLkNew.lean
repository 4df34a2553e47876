/- The contract of likely.New. (turned from XChNew) -/
import Derived.Test.YtlmgmifaknlolaaGreatLkKey
import Derived.Test.YtlmgmifaknlolaaGreatLikelyR
import Derived.BigQuiet
import Derived.Deep.Cut
set_option linter.unusedVariables false
set_option linter.unusedSimpArgs false
namespace Go.Proofs.YtlmgmifaknlolaaGreat
open Go.RowKit Go.Lib Go.Sort Go.Maps

def LNewOut (l : List (Str × Str)) (e i : Nat) : Prop := badL [] l = some (e, i) ∨ (badL [] l = none ∧ e = 0 ∧ i = 0)
/-- what New hands back -/
def LNewRes (w : World) (l : List (Str × Str)) (e : Ending) (w' : World) : Prop :=
  ∃ (er i : Nat) (vc : Value), e = .returned (.tuple #[vc, .agg #[.int .i64 er, .int .i64 i]]) ∧ LNewOut l er i ∧ (er = 0 → LkRd w' vc (dOf l)) ∧ (er ≠ 0 → vc = .pointer none) ∧ Below w.heap.size w w'
theorem good_ptsz {p : Pt} (h : Good p.tag) : PtSz p := by
  have hs := h.short
  unfold partsR at hs
  rw [sz_cons, sz_append, sz_append, sz_append] at hs
  have ho : ∀ x : Str, x.length ≤ sz (opt x) := fun x => by
    unfold opt
    split
    · rename_i e; rw [e]; exact Nat.zero_le _
    · rw [sz_cons]; omega
  have h1 := ho p.s
  have h2 := ho p.r
  have h3 : p.l.length ≤ (headPart p.l).length := by
    unfold headPart
    split
    · rename_i e; rw [e]; exact Nat.zero_le _
    · exact Nat.le_refl _
  change (headPart p.l).length + 1 + (sz (opt p.s) + sz (opt p.r) + _ + _) ≤ 129 at hs
  unfold PtSz maxLen
  omega
/-- a fault's box, stored -/
def F2 (w : World) (B e i : Nat) : World := (w.setCell ⟨B, 0, none⟩ (.int .i64 e)).setCell ⟨B, 1, none⟩ (.int .i64 i)
/-- the state of New: n pairs are said -/
structure LNewSt (w : World) (l : List (Str × Str)) (W : World) (n : Nat) : Prop where
  bad : badL [] l = badL (dOf (l.take n)) (l.drop n)
  own : OwnK W (w.heap.size + 1) n (dOf (l.take n))
  f : W.heap[w.heap.size]? = some (.cells #[.int .i64 0, .int .i64 0] 45 (0, 0))
  c : W.heap[w.heap.size + 1 + 1]? = some (.cells #[.map (some (w.heap.size + 1))] 70 (0, 0))
  bel : Below w.heap.size w W
theorem LNewSt.below {w W W' : World} {l : List (Str × Str)} {n : Nat} (h : LNewSt w l W n) (hb : Below W.heap.size W W') : LNewSt w l W' n :=
  ⟨h.bad, h.own.below hb, (hb.block _ (lt_of_block h.f)).trans h.f, (hb.block _ (lt_of_block h.c)).trans h.c, h.bel.then hb⟩
theorem LNewSt.step {w W W' : World} {l : List (Str × Str)} {n : Nat} (h : LNewSt w l W n) (hn : n < l.length) (h1 : okP l[n]) (h2 : lookP (dOf (l.take n)) (entryP l[n]).1 = none)
    (own : OwnK W' (w.heap.size + 1) (n + 1) (dOf (l.take n) ++ [entryP l[n]])) (hg : W.grownBy W' (some (w.heap.size + 1))) : LNewSt w l W' (n + 1) := by
  have hf := lt_of_block h.f
  have hc := lt_of_block h.c
  refine ⟨?_, ?_, (hg.block _ hf (by simp)).trans h.f, (hg.block _ hc (by simp)).trans h.c, h.bel.grown hg h.bel.size (fun j hj => by cases hj; omega)⟩
  · rw [h.bad, badL_step hn, if_pos h1, if_pos h2]
  · rw [dOf_take hn]; exact own
theorem lnew_bad {l : List (Str × Str)} {n : Nat} (hb : badL [] l = badL (dOf (l.take n)) (l.drop n)) (hn : n < l.length) (h1 : ¬ okP l[n]) : LNewOut l 200 n :=
  Or.inl (by rw [hb, badL_step hn, if_neg h1])
theorem lnew_again {l : List (Str × Str)} {n : Nat} {y : Pt} (hb : badL [] l = badL (dOf (l.take n)) (l.drop n)) (hn : n < l.length) (h1 : okP l[n]) (h2 : lookP (dOf (l.take n)) (entryP l[n]).1 = some y) : LNewOut l 211 n :=
  Or.inl (by rw [hb, badL_step hn, if_pos h1, if_neg (by rw [h2]; simp)])
theorem F2_row {w : World} {B : Nat} (e i : Nat) (h : w.heap[B]? = some (.cells #[.int .i64 0, .int .i64 0] 45 (0, 0))) : (F2 w B e i).heap[B]? = some (.cells #[.int .i64 e, .int .i64 i] 45 (0, 0)) := by
  unfold F2
  rw [heap_setCell_same _ _ _ _ _ _ (heap_setCell_same _ _ _ _ _ _ h)]
  simp
theorem F2_other {w : World} {B b : Nat} (e i : Nat) (h : b ≠ B) : (F2 w B e i).heap[b]? = w.heap[b]? := by
  unfold F2
  rw [heap_setCell_other _ _ _ _ h, heap_setCell_other _ _ _ _ h]
theorem F2_below {w w0 : World} {B : Nat} (e i : Nat) (h : Below B w0 w) : Below B w0 (F2 w B e i) := (h.setCell (Nat.le_refl _) _).setCell (Nat.le_refl _) _

/-- New's way out -/
theorem lnew_ret {w W : World} {l : List (Str × Str)} (er i : Nat) (vc : Value) (hf : W.heap[w.heap.size]? = some (.cells #[.int .i64 0, .int .i64 0] 45 (0, 0))) (hb : Below w.heap.size w W) (ho : LNewOut l er i)
    (h0 : er = 0 → LkRd (F2 W w.heap.size er i) vc (dOf l)) (h1 : er ≠ 0 → vc = .pointer none) {a : Act} (hd : a.defers = []) (h2 : a.tmps.getD 2 undef = vc) (h3 : a.tmps.getD 3 undef = .pointer (some ⟨w.heap.size, 0, none⟩)) :
    bodyPost Tryz.prog Tryz.f22 (fun e w' => LNewRes w l e w') Exit.ret a (F2 W w.heap.size er i) := by
  have hr := F2_row er i hf
  have hbb := F2_below er i hb
  generalize F2 W w.heap.size er i = V at *
  have e0 : V.cell? ⟨w.heap.size, 0, none⟩ = some (.int .i64 er) := by rw [cell_of_row _ _ _ _ _ _ hr]; rfl
  have e1 : V.cell? ⟨w.heap.size, 1, none⟩ = some (.int .i64 i) := by rw [cell_of_row _ _ _ _ _ _ hr]; rfl
  refine bodyPost_ret (v := .tuple #[vc, .agg #[.int .i64 er, .int .i64 i]]) ?_ hd ⟨er, i, vc, rfl, ho, h0, h1, hbb⟩
  obtain ⟨tmps, defers⟩ := a
  simp only [Array.getD_eq_getD_getElem?] at h2 h3
  simp [results, Tryz.results22, go_sem, h2, h3, e0, e1]

theorem LNewSt.start (w : World) (l : List (Str × Str)) : LNewSt w l (((w.alloc (.cells #[.int .i64 0, .int .i64 0] 45)).alloc (.map #[] 0)).alloc (.cells #[.map (some (w.heap.size + 1))] 70)) 0 := by
  have s1 : (w.alloc (.cells #[.int .i64 0, .int .i64 0] 45)).heap.size = w.heap.size + 1 := by simp
  have s2 : ((w.alloc (.cells #[.int .i64 0, .int .i64 0] 45)).alloc (.map #[] 0)).heap.size = w.heap.size + 1 + 1 := by simp
  refine ⟨by simp [dOf], ?_, ?_, ?_, ?_⟩
  · have := OwnK.made (w.alloc (.cells #[.int .i64 0, .int .i64 0] 45))
    rw [s1] at this
    exact this.block (heap_alloc_old _ _ (by rw [s2]; omega))
  · exact (heap_alloc_old _ _ (by rw [s2]; omega)).trans ((heap_alloc_old _ _ (by rw [s1]; omega)).trans (heap_alloc_new w _))
  · have := heap_alloc_new ((w.alloc (.cells #[.int .i64 0, .int .i64 0] 45)).alloc (.map #[] 0)) (.cells #[.map (some (w.heap.size + 1))] 70)
    rw [s2] at this
    exact this
  · exact (((Below.refl _ _).alloc (Nat.le_refl _) _).alloc (by rw [s1]; omega) _).alloc (by rw [s2]; omega) _
theorem LNewSt.okB {w W : World} {l : List (Str × Str)} (h : LNewSt w l W l.length) : badL [] l = none := by
  rw [h.bad]; exact badL_end l
theorem LNewSt.done {w W : World} {l : List (Str × Str)} (h : LNewSt w l W l.length) : LkRd (F2 W w.heap.size 0 0) (.pointer (some ⟨w.heap.size + 1 + 1, 0, none⟩)) (dOf l) := by
  have e1 : (F2 W w.heap.size 0 0).heap[w.heap.size + 1 + 1]? = W.heap[w.heap.size + 1 + 1]? := F2_other 0 0 (by omega)
  have hc := e1.trans h.c
  refine ⟨_, w.heap.size + 1, l.length, rfl, lt_of_block hc, by rw [cell_of_row _ _ _ _ _ _ hc]; rfl, ?_⟩
  have := h.own.block (w' := F2 W w.heap.size 0 0) (F2_other 0 0 (by omega))
  rw [List.take_length] at this
  exact this

set_option maxRecDepth 100000 in
set_option maxHeartbeats 16000000 in
theorem lnew_any (w : World) (va : Value) (l : List (Str × Str)) (hl : RdP w va l) (hp : PSz l) (hsz : l.length ≤ 10000000000) :
    Calls Tryz.prog 22 #[va] w fun e w' => LNewRes w l e w' := by
  have hmm := @run_makeMap Tryz.prog
  obtain ⟨ao, cp, rfl, hlen, hcell⟩ := hl
  have HCELL := hid hcell
  have HP := hid hp
  have HSZ := hid hsz
  have RD := hid (fun W (s : Str) (hs : s.length ≤ maxLen) => read_any W s hs)
  have FU := hid full_any
  have ST0 := hid (LNewSt.start w l)
  clear hcell hp hsz
  go_enter Tryz.func22, Tryz.ntmps22
  go_upto_region 2 with (fail)
  generalize (((w.alloc (.cells #[.int .i64 0, .int .i64 0] 45)).alloc (.map #[] 0)).alloc (.cells #[.map (some (w.heap.size + 1))] 70)) = w0 at *
  go_wp2_with fail
  go_loopg [18] l.length (fun g vi W => ∃ n : Nat, n ≤ l.length ∧ l.length ≤ n + g ∧ vi = .int .i64 n ∧ LNewSt w l W n)
  case atStart => exact ⟨0, Nat.zero_le _, by omega, rfl, ST0.out⟩
  case round =>
    obtain ⟨n, hn, hg, rfl, st⟩ := hrel
    rename World => w1
    have HG := hid hg
    have ST1 := hid st
    clear st ST0 hg
    by_cases hlt : n < l.length
    · have hne : l ≠ [] := by intro e; rw [e] at hlt; simp at hlt
      obtain ⟨p1, o1, rfl, hp1, hc1⟩ := HCELL.out hne
      have hps := HP.out _ (List.getElem_mem hlt)
      obtain ⟨kv, hkv⟩ : ∃ kv, kv = l[n]'hlt := ⟨_, rfl⟩
      obtain ⟨k, v⟩ := kv
      have q1 := (ST1.out.bel.cell (p := ⟨p1, o1 + n * 2 + 0, none⟩) hp1).trans (hc1 n 0 (S k) hlt (by rw [← hkv]; rfl))
      have q2 := (ST1.out.bel.cell (p := ⟨p1, o1 + n * 2 + 1, none⟩) hp1).trans (hc1 n 1 (S v) hlt (by rw [← hkv]; rfl))
      rw [S] at q1 q2
      rw [Nat.add_zero] at q1
      have hkl : k.length ≤ maxLen := by rw [← hkv] at hps; exact hps.1
      have hvl : v.length ≤ maxLen := by rw [← hkv] at hps; exact hps.2
      have HK := hid hkv
      have hni : (n : Int) < (l.length : Int) := by omega
      have hn0 : (0 : Int) ≤ (n : Int) := by omega
      clear hkv hc1 hps hne
      go_upto_region 5 with (fail)
      have HPB := hid (heap_alloc_new w1 (.cells #[.string ⟨k.toArray⟩, .string ⟨v.toArray⟩] 42))
      have HB2 := hid (show Below w1.heap.size w1 (w1.alloc (.cells #[.string ⟨k.toArray⟩, .string ⟨v.toArray⟩] 42)) from (Below.refl _ _).alloc (Nat.le_refl _) _)
      generalize w1.alloc (.cells #[.string ⟨k.toArray⟩, .string ⟨v.toArray⟩] 42) = w2 at *
      have ST2 := hid (ST1.out.below HB2.out)
      clear q1 q2 HB2
      have c0 : w2.cell? ⟨w1.heap.size, 0, none⟩ = some (.string ⟨k.toArray⟩) := by rw [cell_of_row _ _ _ _ _ _ HPB.out]; rfl
      have lt0 := lt_of_block HPB.out
      go_wp2_with fail
      refine (RD.out _ k hkl).mono ?_
      rintro e w3 ⟨rfl, hb3⟩
      have HR1 := hid (show ptRead k = ((ptRead k).1, (ptRead k).2) from rfl)
      generalize (ptRead k).1 = f at *
      generalize (ptRead k).2 = b1 at *
      obtain ⟨fl, fs, fr⟩ := f
      simp only [ptV, S]
      clear c0 lt0
      have HPB3 := hid ((hb3.block _ (lt_of_block HPB.out)).trans HPB.out)
      have ST3 := hid (ST2.out.below hb3)
      clear hb3 HPB ST2
      go_upto_region 6 with (fail)
      have HB4 := hid (show Below w3.heap.size w3 (w3.alloc (.cells #[.string ⟨fl.toArray⟩, .string ⟨fs.toArray⟩, .string ⟨fr.toArray⟩] 57)) from (Below.refl _ _).alloc (Nat.le_refl _) _)
      have HF4 := hid (heap_alloc_new w3 (.cells #[.string ⟨fl.toArray⟩, .string ⟨fs.toArray⟩, .string ⟨fr.toArray⟩] 57))
      generalize w3.alloc (.cells #[.string ⟨fl.toArray⟩, .string ⟨fs.toArray⟩, .string ⟨fr.toArray⟩] 57) = w4 at *
      have HPB4 := hid ((HB4.out.block _ (lt_of_block HPB3.out)).trans HPB3.out)
      have ST4 := hid (ST3.out.below HB4.out)
      clear HB4 HPB3 ST3
      have c1 : w4.cell? ⟨w1.heap.size, 1, none⟩ = some (.string ⟨v.toArray⟩) := by rw [cell_of_row _ _ _ _ _ _ HPB4.out]; rfl
      have lt1 := lt_of_block HPB4.out
      go_wp2_with fail
      refine (RD.out _ v hvl).mono ?_
      rintro e w5 ⟨rfl, hb5⟩
      have HR2 := hid (show ptRead v = ((ptRead v).1, (ptRead v).2) from rfl)
      generalize (ptRead v).1 = t at *
      generalize (ptRead v).2 = b2 at *
      obtain ⟨tl, ts, tr⟩ := t
      simp only [ptV, S]
      clear c1 lt1
      have HPB5 := hid ((hb5.block _ (lt_of_block HPB4.out)).trans HPB4.out)
      have HF5 := hid ((hb5.block _ (lt_of_block HF4.out)).trans HF4.out)
      have ST5 := hid (ST4.out.below hb5)
      clear hb5 HPB4 ST4 HF4
      go_upto_region 7 with (fail)
      have HB6 := hid (show Below w5.heap.size w5 (w5.alloc (.cells #[.string ⟨tl.toArray⟩, .string ⟨ts.toArray⟩, .string ⟨tr.toArray⟩] 57)) from (Below.refl _ _).alloc (Nat.le_refl _) _)
      have HT6 := hid (heap_alloc_new w5 (.cells #[.string ⟨tl.toArray⟩, .string ⟨ts.toArray⟩, .string ⟨tr.toArray⟩] 57))
      generalize w5.alloc (.cells #[.string ⟨tl.toArray⟩, .string ⟨ts.toArray⟩, .string ⟨tr.toArray⟩] 57) = w6 at *
      have HF6 := hid ((HB6.out.block _ (lt_of_block HF5.out)).trans HF5.out)
      have ST6 := hid (ST5.out.below HB6.out)
      clear HB6 HPB5 ST5 HF5
      have HOK := hid (show okP (l[n]'hlt) ↔ (b1 = true ∧ b2 = true ∧ Pt.full ⟨tl, ts, tr⟩) by
        rw [← HK.out]
        unfold okP
        simp only [HR1.out, HR2.out])
      have HE := hid (show entryP (l[n]'hlt) = (⟨fl, fs, fr⟩, ⟨tl, ts, tr⟩) by
        rw [← HK.out]
        unfold entryP
        simp only [HR1.out, HR2.out])
      have y0 : w6.cell? ⟨w.heap.size, 0, none⟩ = some (.int .i64 0) := by rw [cell_of_row _ _ _ _ _ _ ST6.out.f]; rfl
      have y1 : w6.cell? ⟨w.heap.size, 1, none⟩ = some (.int .i64 0) := by rw [cell_of_row _ _ _ _ _ _ ST6.out.f]; rfl
      have fy0 := frozen_of_row w6 w.heap.size 0 _ _ ST6.out.f
      have fy1 := frozen_of_row w6 w.heap.size 1 _ _ ST6.out.f
      have lty := lt_of_block ST6.out.f
      cases b1 with
      | false =>
        have hout := hid (lnew_bad ST6.out.bad hlt (fun h => by have := (HOK.out.1 h).1; cases this))
        go_wp2_with fail
        change bodyPost _ _ _ _ _ (F2 w6 w.heap.size 200 n)
        exact lnew_ret 200 n (.pointer none) ST6.out.f ST6.out.bel hout.out (fun h => by cases h) (fun _ => rfl) rfl rfl rfl
      | true =>
        cases b2 with
        | false =>
          have hout := hid (lnew_bad ST6.out.bad hlt (fun h => by have := (HOK.out.1 h).2.1; cases this))
          go_wp2_with fail
          change bodyPost _ _ _ _ _ (F2 w6 w.heap.size 200 n)
          exact lnew_ret 200 n (.pointer none) ST6.out.f ST6.out.bel hout.out (fun h => by cases h) (fun _ => rfl) rfl rfl rfl
        | true =>
          obtain ⟨d0, d1, d2⟩ := box3_cells HT6.out
          have ltt := lt_of_block HT6.out
          have FU2 := hid (FU.out w6 ⟨tl, ts, tr⟩)
          simp only [ptV, S] at FU2
          go_wp2_with fail
          refine FU2.out.mono ?_
          rintro e w7 ⟨rfl, hb7⟩
          have HT7 := hid ((hb7.block _ (lt_of_block HT6.out)).trans HT6.out)
          have HF7 := hid ((hb7.block _ (lt_of_block HF6.out)).trans HF6.out)
          have ST7 := hid (ST6.out.below hb7)
          clear hb7 y0 y1 fy0 fy1 lty d0 d1 d2 ltt HT6 HF6 ST6 FU2
          have y0 : w7.cell? ⟨w.heap.size, 0, none⟩ = some (.int .i64 0) := by rw [cell_of_row _ _ _ _ _ _ ST7.out.f]; rfl
          have y1 : w7.cell? ⟨w.heap.size, 1, none⟩ = some (.int .i64 0) := by rw [cell_of_row _ _ _ _ _ _ ST7.out.f]; rfl
          have fy0 := frozen_of_row w7 w.heap.size 0 _ _ ST7.out.f
          have fy1 := frozen_of_row w7 w.heap.size 1 _ _ ST7.out.f
          have lty := lt_of_block ST7.out.f
          by_cases hful : Pt.full ⟨tl, ts, tr⟩
          · have HOK2 := hid (HOK.out.2 (by first | exact ⟨rfl, rfl, hful⟩ | exact ⟨trivial, trivial, hful⟩))
            rw [decide_eq_true hful]
            clear hful
            have hgk : PtSz ⟨fl, fs, fr⟩ := good_ptsz (read_ok (p := ⟨fl, fs, fr⟩) (k := k) HR1.out).1
            have LK := OwnK.look_run (show OwnK (w7.alloc (.cells #[.string ⟨#[]⟩, .string ⟨#[]⟩, .string ⟨#[]⟩] 57)).drew (w.heap.size + 1) n (dOf (l.take n)) from (ST7.out.own.below ((Below.refl _ _).alloc (Nat.le_refl _) _)).block rfl) ⟨fl, fs, fr⟩ hgk
            have LK0 := OwnK.look_run (show OwnK w7.drew (w.heap.size + 1) n (dOf (l.take n)) from ST7.out.own.block rfl) ⟨fl, fs, fr⟩ hgk
            obtain ⟨c0, c1, c2⟩ := box3_cells HF7.out
            have ltf := lt_of_block HF7.out
            have cc : w7.cell? ⟨w.heap.size + 1 + 1, 0, none⟩ = some (.map (some (w.heap.size + 1))) := by rw [cell_of_row _ _ _ _ _ _ ST7.out.c]; rfl
            have ltc := lt_of_block ST7.out.c
            cases hlk : lookP (dOf (l.take n)) ⟨fl, fs, fr⟩ with
            | some y =>
              rw [hlk] at LK LK0
              simp only [Option.getD_some, Option.isSome_some] at LK LK0
              have HLK := hid hlk
              obtain ⟨yl, ys, yr⟩ := y
              simp only [ptV, S] at LK LK0
              clear hlk
              have HOUT := hid (lnew_again ST7.out.bad hlt HOK2.out (by rw [HE.out]; exact HLK.out))
              go_wp2_with fail
              clear y0 y1 fy0 fy1 lty
              go_region
              all_goals
                have HB8 := hid (show Below w7.heap.size w7 (w7.alloc (.cells #[.string ⟨yl.toArray⟩, .string ⟨ys.toArray⟩, .string ⟨yr.toArray⟩] 57)).drew from ((Below.refl _ _).alloc (Nat.le_refl _) _).drew)
                generalize (w7.alloc (.cells #[.string ⟨yl.toArray⟩, .string ⟨ys.toArray⟩, .string ⟨yr.toArray⟩] 57)).drew = w8 at *
                have ST8 := hid (ST7.out.below HB8.out)
                have y0 : w8.cell? ⟨w.heap.size, 0, none⟩ = some (.int .i64 0) := by rw [cell_of_row _ _ _ _ _ _ ST8.out.f]; rfl
                have y1 : w8.cell? ⟨w.heap.size, 1, none⟩ = some (.int .i64 0) := by rw [cell_of_row _ _ _ _ _ _ ST8.out.f]; rfl
                have fy0 := frozen_of_row w8 w.heap.size 0 _ _ ST8.out.f
                have fy1 := frozen_of_row w8 w.heap.size 1 _ _ ST8.out.f
                have lty := lt_of_block ST8.out.f
                go_wp2_with fail
                change bodyPost _ _ _ _ _ (F2 w8 w.heap.size 211 n)
                exact lnew_ret 211 n (.pointer none) ST8.out.f ST8.out.bel HOUT.out (fun h => by cases h) (fun _ => rfl) rfl rfl rfl
            | none =>
              rw [hlk] at LK LK0
              simp only [Option.getD_none, Option.isSome_none] at LK LK0
              have HLK := hid hlk
              simp only [ptV, S, Pt.zero] at LK LK0
              clear hlk y0 y1 fy0 fy1 lty
              go_wp2_with fail
              go_region
              all_goals
                have HB8 := hid (show Below w7.heap.size w7 (w7.alloc (.cells #[.string ⟨#[]⟩, .string ⟨#[]⟩, .string ⟨#[]⟩] 57)).drew from ((Below.refl _ _).alloc (Nat.le_refl _) _).drew)
                generalize (w7.alloc (.cells #[.string ⟨#[]⟩, .string ⟨#[]⟩, .string ⟨#[]⟩] 57)).drew = w8 at *
                have ST8 := hid (ST7.out.below HB8.out)
                have HF8 := hid ((HB8.out.block _ (lt_of_block HF7.out)).trans HF7.out)
                have HT8 := hid ((HB8.out.block _ (lt_of_block HT7.out)).trans HT7.out)
                clear c0 c1 c2 ltf cc ltc LK LK0
                obtain ⟨c0, c1, c2⟩ := box3_cells HF8.out
                have ltf := lt_of_block HF8.out
                obtain ⟨d0, d1, d2⟩ := box3_cells HT8.out
                have ltt := lt_of_block HT8.out
                have cc : w8.cell? ⟨w.heap.size + 1 + 1, 0, none⟩ = some (.map (some (w.heap.size + 1))) := by rw [cell_of_row _ _ _ _ _ _ ST8.out.c]; rfl
                have ltc := lt_of_block ST8.out.c
                obtain ⟨w9, hrun, hown9, hgr9⟩ := (show OwnK w8.drew (w.heap.size + 1) n (dOf (l.take n)) from ST8.out.own.block rfl).say_run (by have := HSZ.out; unfold maxLen; omega) ⟨fl, fs, fr⟩ ⟨tl, ts, tr⟩ hgk HLK.out
                have HO9 := hid hown9
                have HG9 := hid hgr9
                simp only [ptV, S] at hrun
                clear hown9 hgr9
                go_wp2_with fail
                go_region
                all_goals go_wp2_with fail
                all_goals go_roundg (gk - 1)
                all_goals first
                  | (have := HG.out; omega)
                  | exact ⟨n + 1, by omega, by have := HG.out; omega, by simp, LNewSt.step (W := w8.drew) (show LNewSt w l w8.drew n from ⟨ST8.out.bad, ST8.out.own, ST8.out.f, ST8.out.c, ST8.out.bel.drew⟩) hlt HOK2.out (by rw [HE.out]; exact HLK.out) (by rw [HE.out]; exact HO9.out) HG9.out⟩
          · have hout := hid (lnew_bad ST7.out.bad hlt (fun h => hful (HOK.out.1 h).2.2))
            rw [decide_eq_false hful]
            clear hful
            go_wp2_with fail
            change bodyPost _ _ _ _ _ (F2 w7 w.heap.size 200 n)
            exact lnew_ret 200 n (.pointer none) ST7.out.f ST7.out.bel hout.out (fun h => by cases h) (fun _ => rfl) rfl rfl rfl
    · have hnl : n = l.length := by omega
      subst hnl
      have HOUT := hid (show LNewOut l 0 0 from Or.inr ⟨ST1.out.okB, rfl, rfl⟩)
      have y0 : w1.cell? ⟨w.heap.size, 0, none⟩ = some (.int .i64 0) := by rw [cell_of_row _ _ _ _ _ _ ST1.out.f]; rfl
      have y1 : w1.cell? ⟨w.heap.size, 1, none⟩ = some (.int .i64 0) := by rw [cell_of_row _ _ _ _ _ _ ST1.out.f]; rfl
      have fy0 := frozen_of_row w1 w.heap.size 0 _ _ ST1.out.f
      have fy1 := frozen_of_row w1 w.heap.size 1 _ _ ST1.out.f
      have lty := lt_of_block ST1.out.f
      go_wp2_with fail
      change bodyPost _ _ _ _ _ (F2 w1 w.heap.size 0 0)
      exact lnew_ret 0 0 (.pointer (some ⟨w.heap.size + 1 + 1, 0, none⟩)) ST1.out.f ST1.out.bel HOUT.out (fun _ => ST1.out.done) (fun h => absurd rfl h) rfl rfl rfl
end Go.Proofs.YtlmgmifaknlolaaGreat
