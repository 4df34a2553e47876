/- The contract of chain.New. -/
import Derived.Test.YtffaoejahnildaaGreatChRings
import Derived.Test.YtffaoejahnildaaGreatBoxes
import Derived.BigQuiet
import Derived.Deep.Cut
set_option linter.unusedVariables false
set_option linter.unusedSimpArgs false
namespace Go.Proofs.YtffaoejahnildaaGreat
open Go.RowKit Go.Lib Go.Sort Go.Maps

/-- what New hands back -/
def NewRes (w : World) (l : List (Str × Str)) (e : Ending) (w' : World) : Prop :=
  ∃ (er i : Nat) (vc : Value), e = .returned (.tuple #[vc, .agg #[.int .i64 er, .int .i64 i]]) ∧ NewOut l er i ∧ (er = 0 → ChRd w' vc l) ∧ (er ≠ 0 → vc = .pointer none) ∧ Below w.heap.size w w'
/-- a fault's box, stored -/
def F2 (w : World) (B e i : Nat) : World := (w.setCell ⟨B, 0, none⟩ (.int .i64 e)).setCell ⟨B, 1, none⟩ (.int .i64 i)
/-- the state of New: n pairs are said -/
structure NewSt (w : World) (l : List (Str × Str)) (W : World) (n : Nat) : Prop where
  bad : badAt [] l = badAt (l.take n) (l.drop n)
  own : OwnM W (w.heap.size + 1) n (l.take n)
  f : W.heap[w.heap.size]? = some (.cells #[.int .i64 0, .int .i64 0] 26 (0, 0))
  c : W.heap[w.heap.size + 1 + 1]? = some (.cells #[.map (some (w.heap.size + 1))] 51 (0, 0))
  bel : Below w.heap.size w W
theorem NewSt.below {w W W' : World} {l : List (Str × Str)} {n : Nat} (h : NewSt w l W n) (hb : Below W.heap.size W W') : NewSt w l W' n :=
  ⟨h.bad, h.own.below hb, (hb.block _ (lt_of_block h.f)).trans h.f, (hb.block _ (lt_of_block h.c)).trans h.c, h.bel.then hb⟩
theorem NewSt.step {w W W' : World} {l : List (Str × Str)} {n : Nat} (h : NewSt w l W n) (hn : n < l.length) (h1 : (namedB l[n].1 = true ∧ namedB l[n].2 = true) ∧ l[n].1 ≠ tRoot) (h2 : look (l.take n) l[n].1 = none)
    (own : OwnM W' (w.heap.size + 1) (n + 1) (l.take n ++ [(l[n].1, l[n].2)])) (hg : W.grownBy W' (some (w.heap.size + 1))) : NewSt w l W' (n + 1) := by
  have hf := lt_of_block h.f
  have hc := lt_of_block h.c
  refine ⟨?_, ?_, (hg.block _ hf (by simp)).trans h.f, (hg.block _ hc (by simp)).trans h.c, h.bel.grown hg h.bel.size (fun j hj => by cases hj; omega)⟩
  · rw [h.bad, bad_step hn, if_pos h1, if_pos h2]
  · rw [List.take_add_one, List.getElem?_eq_getElem hn]; exact own
theorem new_bad2 {l : List (Str × Str)} {n : Nat} (hb : badAt [] l = badAt (l.take n) (l.drop n)) (hn : n < l.length) (h1 : ¬ ((namedB l[n].1 = true ∧ namedB l[n].2 = true) ∧ l[n].1 ≠ tRoot)) : NewOut l 2 n :=
  Or.inl (by rw [hb, bad_step hn, if_neg h1])
theorem new_bad211 {l : List (Str × Str)} {n : Nat} {y : Str} (hb : badAt [] l = badAt (l.take n) (l.drop n)) (hn : n < l.length) (h1 : (namedB l[n].1 = true ∧ namedB l[n].2 = true) ∧ l[n].1 ≠ tRoot) (h2 : look (l.take n) l[n].1 = some y) : NewOut l 211 n :=
  Or.inl (by rw [hb, bad_step hn, if_pos h1, if_neg (by rw [h2]; simp)])
theorem F2_row {w : World} {B : Nat} (e i : Nat) (h : w.heap[B]? = some (.cells #[.int .i64 0, .int .i64 0] 26 (0, 0))) : (F2 w B e i).heap[B]? = some (.cells #[.int .i64 e, .int .i64 i] 26 (0, 0)) := by
  unfold F2
  rw [heap_setCell_same _ _ _ _ _ _ (heap_setCell_same _ _ _ _ _ _ h)]
  simp
theorem F2_other {w : World} {B b : Nat} (e i : Nat) (h : b ≠ B) : (F2 w B e i).heap[b]? = w.heap[b]? := by
  unfold F2
  rw [heap_setCell_other _ _ _ _ h, heap_setCell_other _ _ _ _ h]
theorem F2_below {w w0 : World} {B : Nat} (e i : Nat) (h : Below B w0 w) : Below B w0 (F2 w B e i) := (h.setCell (Nat.le_refl _) _).setCell (Nat.le_refl _) _

/-- New's way out -/
theorem new_ret {w W : World} {l : List (Str × Str)} (er i : Nat) (vc : Value) (hf : W.heap[w.heap.size]? = some (.cells #[.int .i64 0, .int .i64 0] 26 (0, 0))) (hb : Below w.heap.size w W) (ho : NewOut l er i)
    (h0 : er = 0 → ChRd (F2 W w.heap.size er i) vc l) (h1 : er ≠ 0 → vc = .pointer none) {a : Act} (hd : a.defers = []) (h2 : a.tmps.getD 2 undef = vc) (h3 : a.tmps.getD 3 undef = .pointer (some ⟨w.heap.size, 0, none⟩)) :
    bodyPost Tryz.prog Tryz.f8 (fun e w' => NewRes w l e w') Exit.ret a (F2 W w.heap.size er i) := by
  have hr := F2_row er i hf
  have hbb := F2_below er i hb
  generalize F2 W w.heap.size er i = V at *
  have e0 : V.cell? ⟨w.heap.size, 0, none⟩ = some (.int .i64 er) := by rw [cell_of_row _ _ _ _ _ _ hr]; rfl
  have e1 : V.cell? ⟨w.heap.size, 1, none⟩ = some (.int .i64 i) := by rw [cell_of_row _ _ _ _ _ _ hr]; rfl
  refine bodyPost_ret (v := .tuple #[vc, .agg #[.int .i64 er, .int .i64 i]]) ?_ hd ⟨er, i, vc, rfl, ho, h0, h1, hbb⟩
  obtain ⟨tmps, defers⟩ := a
  simp only [Array.getD_eq_getD_getElem?] at h2 h3
  simp [results, Tryz.results8, go_sem, h2, h3, e0, e1]

theorem NewSt.start (w : World) (l : List (Str × Str)) : NewSt w l (((w.alloc (.cells #[.int .i64 0, .int .i64 0] 26)).alloc (.map #[] 0)).alloc (.cells #[.map (some (w.heap.size + 1))] 51)) 0 := by
  have s1 : (w.alloc (.cells #[.int .i64 0, .int .i64 0] 26)).heap.size = w.heap.size + 1 := by simp
  have s2 : ((w.alloc (.cells #[.int .i64 0, .int .i64 0] 26)).alloc (.map #[] 0)).heap.size = w.heap.size + 1 + 1 := by simp
  refine ⟨by simp, ?_, ?_, ?_, ?_⟩
  · have := OwnM.made (w.alloc (.cells #[.int .i64 0, .int .i64 0] 26))
    rw [s1] at this
    exact this.block (heap_alloc_old _ _ (by rw [s2]; omega))
  · exact (heap_alloc_old _ _ (by rw [s2]; omega)).trans ((heap_alloc_old _ _ (by rw [s1]; omega)).trans (heap_alloc_new w _))
  · have := heap_alloc_new ((w.alloc (.cells #[.int .i64 0, .int .i64 0] 26)).alloc (.map #[] 0)) (.cells #[.map (some (w.heap.size + 1))] 51)
    rw [s2] at this
    exact this
  · exact (((Below.refl _ _).alloc (Nat.le_refl _) _).alloc (by rw [s1]; omega) _).alloc (by rw [s2]; omega) _

theorem NewSt.chRd {w W : World} {l : List (Str × Str)} (h : NewSt w l W l.length) : ChRd W (.pointer (some ⟨w.heap.size + 1 + 1, 0, none⟩)) l :=
  ⟨_, w.heap.size + 1, l.length, rfl, lt_of_block h.c, by rw [cell_of_row _ _ _ _ _ _ h.c]; rfl, by have := h.own; rw [List.take_length] at this; exact this⟩
theorem NewSt.okB {w W : World} {l : List (Str × Str)} (h : NewSt w l W l.length) : badAt [] l = none := by
  have := h.bad
  rw [List.take_length, List.drop_length] at this
  rw [this]; rfl
theorem NewSt.done {w W : World} {l : List (Str × Str)} (h : NewSt w l W l.length) : ChRd (F2 W w.heap.size 0 0) (.pointer (some ⟨w.heap.size + 1 + 1, 0, none⟩)) l := by
  have e1 : (F2 W w.heap.size 0 0).heap[w.heap.size + 1 + 1]? = W.heap[w.heap.size + 1 + 1]? := F2_other 0 0 (by omega)
  have hc := e1.trans h.c
  refine ⟨_, w.heap.size + 1, l.length, rfl, lt_of_block hc, by rw [cell_of_row _ _ _ _ _ _ hc]; rfl, ?_⟩
  have := h.own.block (w' := F2 W w.heap.size 0 0) (F2_other 0 0 (by omega))
  rw [List.take_length] at this
  exact this

set_option maxRecDepth 100000 in
set_option maxHeartbeats 16000000 in
theorem new_any (w : World) (va : Value) (l : List (Str × Str)) (hl : RdP w va l) (hp : PSz l) (hsz : l.length ≤ 10000000000) :
    Calls Tryz.prog 8 #[va] w fun e w' => NewRes w l e w' := by
  have hmm := @run_makeMap Tryz.prog
  obtain ⟨ao, cp, rfl, hlen, hcell⟩ := hl
  have HCELL := hid hcell
  have HP := hid hp
  have HSZ := hid hsz
  have NM := hid (fun W (s : Str) (hs : s.length ≤ maxLen) => named_any s W hs)
  simp only [NamedOut] at NM
  have ST0 := hid (NewSt.start w l)
  clear hcell hp hsz
  go_enter Tryz.func8, Tryz.ntmps8
  go_upto_region 2 with (fail)
  generalize (((w.alloc (.cells #[.int .i64 0, .int .i64 0] 26)).alloc (.map #[] 0)).alloc (.cells #[.map (some (w.heap.size + 1))] 51)) = w0 at *
  go_wp2_with fail
  go_loopg [20] l.length (fun g vi W => ∃ n : Nat, n ≤ l.length ∧ l.length ≤ n + g ∧ vi = .int .i64 n ∧ NewSt w l W n)
  case atStart => exact ⟨0, Nat.zero_le _, by omega, rfl, ST0.out⟩
  case round =>
    obtain ⟨n, hn, hg, rfl, st⟩ := hrel
    rename World => w1
    have HG := hid hg
    have ST1 := hid st
    clear st ST0 hg
    by_cases hlt : n < l.length
    · have hne : l ≠ [] := by intro e; rw [e] at hlt; simp at hlt
      obtain ⟨p1, o1, rfl, hp1, hc1⟩ := HCELL.out hne
      have hps := HP.out _ (List.getElem_mem hlt)
      obtain ⟨kv, hkv⟩ : ∃ kv, kv = l[n]'hlt := ⟨_, rfl⟩
      obtain ⟨k, v⟩ := kv
      have hk : (l[n]'hlt).1 = k := by rw [← hkv]
      have hv : (l[n]'hlt).2 = v := by rw [← hkv]
      have q1 := (ST1.out.bel.cell (p := ⟨p1, o1 + n * 2 + 0, none⟩) hp1).trans (hc1 n 0 (S k) hlt (by rw [← hkv]; rfl))
      have q2 := (ST1.out.bel.cell (p := ⟨p1, o1 + n * 2 + 1, none⟩) hp1).trans (hc1 n 1 (S v) hlt (by rw [← hkv]; rfl))
      rw [S] at q1 q2
      rw [Nat.add_zero] at q1
      have hkl : k.length ≤ maxLen := by rw [← hk]; exact hps.1
      have hvl : v.length ≤ maxLen := by rw [← hv]; exact hps.2
      have HK := hid hk
      have HV := hid hv
      have hni : (n : Int) < (l.length : Int) := by omega
      have hn0 : (0 : Int) ≤ (n : Int) := by omega
      clear hk hv hkv hc1 hps hne
      go_upto_region 5 with (fail)
      have HPB := hid (heap_alloc_new w1 (.cells #[.string ⟨k.toArray⟩, .string ⟨v.toArray⟩] 44))
      have HB2 := hid (show Below w1.heap.size w1 (w1.alloc (.cells #[.string ⟨k.toArray⟩, .string ⟨v.toArray⟩] 44)) from (Below.refl _ _).alloc (Nat.le_refl _) _)
      generalize w1.alloc (.cells #[.string ⟨k.toArray⟩, .string ⟨v.toArray⟩] 44) = w2 at *
      have ST2 := hid (ST1.out.below HB2.out)
      clear q1 q2 HB2
      have c0 : w2.cell? ⟨w1.heap.size, 0, none⟩ = some (.string ⟨k.toArray⟩) := by rw [cell_of_row _ _ _ _ _ _ HPB.out]; rfl
      have lt0 := lt_of_block HPB.out
      go_wp2_with fail
      refine (NM.out _ k hkl).mono ?_
      rintro e w3 ⟨v3, rfl, ⟨vv3, kv3, rfl, ⟨a3, b3, rfl, _, _⟩, ⟨a4, b4, rfl, _, _⟩⟩, hb3⟩
      generalize namedT k = t3 at *
      simp only [tagCells, S]
      clear c0 lt0
      have HPB3 := hid ((hb3.block _ (lt_of_block HPB.out)).trans HPB.out)
      have ST3 := hid (ST2.out.below hb3)
      clear hb3 HPB ST2
      go_upto_region 6 with (fail)
      have HB4 := hid (show Below w3.heap.size w3 (w3.alloc (.cells #[.string ⟨t3.lang.toArray⟩, .string ⟨t3.script.toArray⟩, .string ⟨t3.region.toArray⟩, .slice a3 t3.vars.length b3, .slice a4 t3.keys.length b4] 53)) from (Below.refl _ _).alloc (Nat.le_refl _) _)
      generalize w3.alloc (.cells #[.string ⟨t3.lang.toArray⟩, .string ⟨t3.script.toArray⟩, .string ⟨t3.region.toArray⟩, .slice a3 t3.vars.length b3, .slice a4 t3.keys.length b4] 53) = w4 at *
      have HPB4 := hid ((HB4.out.block _ (lt_of_block HPB3.out)).trans HPB3.out)
      have ST4 := hid (ST3.out.below HB4.out)
      clear HB4 HPB3 ST3
      have c1 : w4.cell? ⟨w1.heap.size, 1, none⟩ = some (.string ⟨v.toArray⟩) := by rw [cell_of_row _ _ _ _ _ _ HPB4.out]; rfl
      have lt1 := lt_of_block HPB4.out
      go_wp2_with fail
      refine (NM.out _ v hvl).mono ?_
      rintro e w5 ⟨v5, rfl, ⟨vv5, kv5, rfl, ⟨a5, b5, rfl, _, _⟩, ⟨a6, b6, rfl, _, _⟩⟩, hb5⟩
      generalize namedT v = t5 at *
      simp only [tagCells, S]
      clear c1 lt1
      have HPB5 := hid ((hb5.block _ (lt_of_block HPB4.out)).trans HPB4.out)
      have ST5 := hid (ST4.out.below hb5)
      clear hb5 HPB4 ST4
      go_upto_region 7 with (fail)
      have HB6 := hid (show Below w5.heap.size w5 (w5.alloc (.cells #[.string ⟨t5.lang.toArray⟩, .string ⟨t5.script.toArray⟩, .string ⟨t5.region.toArray⟩, .slice a5 t5.vars.length b5, .slice a6 t5.keys.length b6] 53)) from (Below.refl _ _).alloc (Nat.le_refl _) _)
      generalize w5.alloc (.cells #[.string ⟨t5.lang.toArray⟩, .string ⟨t5.script.toArray⟩, .string ⟨t5.region.toArray⟩, .slice a5 t5.vars.length b5, .slice a6 t5.keys.length b6] 53) = w6 at *
      have HPB6 := hid ((HB6.out.block _ (lt_of_block HPB5.out)).trans HPB5.out)
      have ST6 := hid (ST5.out.below HB6.out)
      clear HB6 HPB5 ST5
      have d0 : w6.cell? ⟨w1.heap.size, 0, none⟩ = some (.string ⟨k.toArray⟩) := by rw [cell_of_row _ _ _ _ _ _ HPB6.out]; rfl
      have d1 : w6.cell? ⟨w1.heap.size, 1, none⟩ = some (.string ⟨v.toArray⟩) := by rw [cell_of_row _ _ _ _ _ _ HPB6.out]; rfl
      have ltd := lt_of_block HPB6.out
      have y0 : w6.cell? ⟨w.heap.size, 0, none⟩ = some (.int .i64 0) := by rw [cell_of_row _ _ _ _ _ _ ST6.out.f]; rfl
      have y1 : w6.cell? ⟨w.heap.size, 1, none⟩ = some (.int .i64 0) := by rw [cell_of_row _ _ _ _ _ _ ST6.out.f]; rfl
      have fy0 := frozen_of_row w6 w.heap.size 0 _ _ ST6.out.f
      have fy1 := frozen_of_row w6 w.heap.size 1 _ _ ST6.out.f
      have lty := lt_of_block ST6.out.f
      have cc : w6.cell? ⟨w.heap.size + 1 + 1, 0, none⟩ = some (.map (some (w.heap.size + 1))) := by rw [cell_of_row _ _ _ _ _ _ ST6.out.c]; rfl
      have ltc := lt_of_block ST6.out.c
      by_cases hgood : (namedB k = true ∧ namedB v = true) ∧ k ≠ tRoot
      · obtain ⟨⟨g1, g2⟩, g3⟩ := hgood
        have hub : (k == [114, 111, 111, 116]) = false := by rw [beq_eq_false_iff_ne]; exact g3
        have hub2 : (k != [114, 111, 111, 116]) = true := by rw [bne_iff_ne]; exact g3
        have HGOOD := hid (show (namedB (l[n]'hlt).1 = true ∧ namedB (l[n]'hlt).2 = true) ∧ (l[n]'hlt).1 ≠ tRoot by rw [HK.out, HV.out]; exact ⟨⟨g1, g2⟩, g3⟩)
        rw [g1, g2]
        clear g1 g2 g3
        have LK := ST6.out.own.look_run k hkl
        have LKd : ∀ m, (Instr.lookup 49 (.map (some (w.heap.size + 1))) (.string ⟨k.toArray⟩) true).run Tryz.prog (w6.drewN m) = .ok (.tuple #[.string ⟨((look (l.take n) k).getD []).toArray⟩, .bool (look (l.take n) k).isSome]) (w6.drewN m) := fun m => (show OwnM (w6.drewN m) (w.heap.size + 1) n (l.take n) from ST6.out.own.block rfl).look_run k hkl
        cases hlk : look (l.take n) k with
        | some y =>
          rw [hlk] at LK LKd
          simp only [Option.getD_some, Option.isSome_some] at LK LKd
          have HLK := hid hlk
          clear hlk
          go_wp2_with fail
          go_quiet (fail)
          go_wp2_with fail
          change bodyPost _ _ _ _ _ (F2 (w6.drewN _) w.heap.size 211 n)
          exact new_ret (W := w6.drewN nq) 211 n (.pointer none) ST6.out.f (below_drewN ST6.out.bel _) (new_bad211 ST6.out.bad hlt HGOOD.out (by rw [HK.out]; exact HLK.out)) (fun h => by cases h) (fun _ => rfl) rfl rfl rfl
        | none =>
          rw [hlk] at LK LKd
          simp only [Option.getD_none, Option.isSome_none] at LK LKd
          have HLK := hid hlk
          clear hlk
          go_wp2_with fail
          go_quiet (fail)
          go_wp2_with fail
          have HB7 := hid (show Below w6.heap.size w6 (w6.drewN nq) from below_drewN (Below.refl _ _) nq)
          clear LK LKd d0 d1 ltd y0 y1 fy0 fy1 lty cc ltc
          generalize w6.drewN nq = w7 at *
          have HPB7 := hid ((HB7.out.block _ (lt_of_block HPB6.out)).trans HPB6.out)
          have ST7 := hid (ST6.out.below HB7.out)
          clear HB7 HPB6 ST6
          have d0 : w7.cell? ⟨w1.heap.size, 0, none⟩ = some (.string ⟨k.toArray⟩) := by rw [cell_of_row _ _ _ _ _ _ HPB7.out]; rfl
          have d1 : w7.cell? ⟨w1.heap.size, 1, none⟩ = some (.string ⟨v.toArray⟩) := by rw [cell_of_row _ _ _ _ _ _ HPB7.out]; rfl
          have ltd := lt_of_block HPB7.out
          have cc : w7.cell? ⟨w.heap.size + 1 + 1, 0, none⟩ = some (.map (some (w.heap.size + 1))) := by rw [cell_of_row _ _ _ _ _ _ ST7.out.c]; rfl
          have ltc := lt_of_block ST7.out.c
          obtain ⟨w8, hrun, hown8, hgr8⟩ := (show OwnM w7.drew (w.heap.size + 1) n (l.take n) from ST7.out.own).say_run (by have := HSZ.out; unfold maxLen; omega) k v hkl hvl HLK.out
          have HO8 := hid hown8
          have HG8 := hid hgr8
          clear hown8 hgr8
          go_region
          all_goals go_wp2_with fail
          all_goals go_roundg (gk - 1)
          all_goals first
            | (have := HG.out; omega)
            | exact ⟨n + 1, by omega, by have := HG.out; omega, by simp, NewSt.step (W := w7.drew) (show NewSt w l w7.drew n from ⟨ST7.out.bad, ST7.out.own, ST7.out.f, ST7.out.c, ST7.out.bel.drew⟩) hlt HGOOD.out (by rw [HK.out]; exact HLK.out) (by rw [HK.out, HV.out]; exact HO8.out) HG8.out⟩
      · have HBAD := hid (show ¬ ((namedB (l[n]'hlt).1 = true ∧ namedB (l[n]'hlt).2 = true) ∧ (l[n]'hlt).1 ≠ tRoot) by rw [HK.out, HV.out]; exact hgood)
        have hout := hid (new_bad2 ST6.out.bad hlt HBAD.out)
        cases hn1 : namedB k with
        | false =>
          clear hgood
          go_wp2_with fail
          change bodyPost _ _ _ _ _ (F2 w6 w.heap.size 2 n)
          exact new_ret 2 n (.pointer none) ST6.out.f ST6.out.bel hout.out (fun h => by cases h) (fun _ => rfl) rfl rfl rfl
        | true =>
          cases hn2 : namedB v with
          | false =>
            clear hgood
            go_wp2_with fail
            change bodyPost _ _ _ _ _ (F2 w6 w.heap.size 2 n)
            exact new_ret 2 n (.pointer none) ST6.out.f ST6.out.bel hout.out (fun h => by cases h) (fun _ => rfl) rfl rfl rfl
          | true =>
            have hkr : k = tRoot := by
              apply Classical.byContradiction
              intro hc
              exact hgood ⟨⟨hn1, hn2⟩, hc⟩
            have hub : (k == [114, 111, 111, 116]) = true := by rw [hkr]; rfl
            have hub2 : (k != [114, 111, 111, 116]) = false := by rw [hkr]; rfl
            clear hgood hkr
            go_wp2_with fail
            change bodyPost _ _ _ _ _ (F2 w6 w.heap.size 2 n)
            exact new_ret 2 n (.pointer none) ST6.out.f ST6.out.bel hout.out (fun h => by cases h) (fun _ => rfl) rfl rfl rfl
    · have hnl : n = l.length := by omega
      subst hnl
      have HNB := hid ST1.out.okB
      have HSA := hid (bad_none (done := []) HNB.out (fun p hp => by cases hp))
      have RI := hid (fun W (k : Str) (hst : NewSt w l W l.length) (hk : namedB k = true) => rings_any W _ l k hst.chRd HSA.out hk (by have := HSZ.out; omega))
      go_wp2_with fail
      go_loopg [74] l.length (fun g vi W => ∃ m : Nat, m ≤ l.length ∧ l.length ≤ m + g ∧ vi = .int .i64 m ∧ NewSt w l W l.length ∧ ∀ j p, j < m → l[j]? = some p → ¬ ringP l p.1)
      case atStart => exact ⟨0, Nat.zero_le _, by omega, rfl, ST1.out, fun j p hj => by omega⟩
      case round =>
        obtain ⟨m, hm, hg2, rfl, st, hno⟩ := hrel
        rename World => w2
        have HG2 := hid hg2
        have ST2 := hid st
        have HNO := hid hno
        clear st hg2 hno ST1
        by_cases hlt2 : m < l.length
        · have hne : l ≠ [] := by intro e; rw [e] at hlt2; simp at hlt2
          obtain ⟨p1, o1, rfl, hp1, hc1⟩ := HCELL.out hne
          obtain ⟨kv, hkv⟩ : ∃ kv, kv = l[m]'hlt2 := ⟨_, rfl⟩
          obtain ⟨k, v⟩ := kv
          have hk : (l[m]'hlt2).1 = k := by rw [← hkv]
          have q1 := (ST2.out.bel.cell (p := ⟨p1, o1 + m * 2 + 0, none⟩) hp1).trans (hc1 m 0 (S k) hlt2 (by rw [← hkv]; rfl))
          have q2 := (ST2.out.bel.cell (p := ⟨p1, o1 + m * 2 + 1, none⟩) hp1).trans (hc1 m 1 (S v) hlt2 (by rw [← hkv]; rfl))
          rw [S] at q1 q2
          rw [Nat.add_zero] at q1
          have HKN := hid (show namedB k = true by rw [← hk]; exact (HSA.out _ (List.getElem_mem hlt2)).1)
          have HKV := hid (show l[m]? = some (k, v) by rw [List.getElem?_eq_getElem hlt2, hkv])
          have hni : (m : Int) < (l.length : Int) := by omega
          have hn0 : (0 : Int) ≤ (m : Int) := by omega
          clear hk hkv hc1 hne
          go_upto_region 17 with (fail)
          have HPB := hid (heap_alloc_new w2 (.cells #[.string ⟨k.toArray⟩, .string ⟨v.toArray⟩] 44))
          have HB3 := hid (show Below w2.heap.size w2 (w2.alloc (.cells #[.string ⟨k.toArray⟩, .string ⟨v.toArray⟩] 44)) from (Below.refl _ _).alloc (Nat.le_refl _) _)
          generalize w2.alloc (.cells #[.string ⟨k.toArray⟩, .string ⟨v.toArray⟩] 44) = w3 at *
          have ST3 := hid (ST2.out.below HB3.out)
          clear q1 q2 HB3
          have c0 : w3.cell? ⟨w2.heap.size, 0, none⟩ = some (.string ⟨k.toArray⟩) := by rw [cell_of_row _ _ _ _ _ _ HPB.out]; rfl
          have lt0 := lt_of_block HPB.out
          go_wp2_with fail
          refine (RI.out _ k ST3.out HKN.out).mono ?_
          rintro e w4 ⟨⟨b, rfl, hb⟩, hb4⟩
          have HRB := hid hb
          have ST4 := hid (ST3.out.below hb4)
          clear hb hb4 c0 lt0 HPB
          have y0 : w4.cell? ⟨w.heap.size, 0, none⟩ = some (.int .i64 0) := by rw [cell_of_row _ _ _ _ _ _ ST4.out.f]; rfl
          have y1 : w4.cell? ⟨w.heap.size, 1, none⟩ = some (.int .i64 0) := by rw [cell_of_row _ _ _ _ _ _ ST4.out.f]; rfl
          have fy0 := frozen_of_row w4 w.heap.size 0 _ _ ST4.out.f
          have fy1 := frozen_of_row w4 w.heap.size 1 _ _ ST4.out.f
          have lty := lt_of_block ST4.out.f
          cases b with
          | true =>
            have HOUT := hid (show NewOut l 210 m from Or.inr (Or.inl ⟨HNB.out, rfl, ⟨(k, v), HKV.out, HRB.out.1 rfl⟩, HNO.out⟩))
            go_wp2_with fail
            change bodyPost _ _ _ _ _ (F2 w4 w.heap.size 210 m)
            exact new_ret 210 m (.pointer none) ST4.out.f ST4.out.bel HOUT.out (fun h => by cases h) (fun _ => rfl) rfl rfl rfl
          | false =>
            have HNR := hid (show ¬ ringP l k from fun h => by have := HRB.out.2 h; cases this)
            clear y0 y1 fy0 fy1 lty
            go_wp2_with fail
            go_roundg (gk - 1)
            case measure => have := HG2.out; omega
            case rel => exact ⟨m + 1, by omega, by have := HG2.out; omega, by simp, ST4.out, fun j p hj hp => by
              by_cases he : j = m
              · subst he; rw [HKV.out] at hp; cases hp; exact HNR.out
              · exact HNO.out j p (by omega) hp⟩
        · have hml : m = l.length := by omega
          have HOUT := hid (show NewOut l 0 0 from Or.inr (Or.inr ⟨HNB.out, rfl, rfl, fun p hp => by
            obtain ⟨j, hj, rfl⟩ := List.getElem_of_mem hp
            exact HNO.out j _ (by omega) (List.getElem?_eq_getElem hj)⟩))
          have y0 : w2.cell? ⟨w.heap.size, 0, none⟩ = some (.int .i64 0) := by rw [cell_of_row _ _ _ _ _ _ ST2.out.f]; rfl
          have y1 : w2.cell? ⟨w.heap.size, 1, none⟩ = some (.int .i64 0) := by rw [cell_of_row _ _ _ _ _ _ ST2.out.f]; rfl
          have fy0 := frozen_of_row w2 w.heap.size 0 _ _ ST2.out.f
          have fy1 := frozen_of_row w2 w.heap.size 1 _ _ ST2.out.f
          have lty := lt_of_block ST2.out.f
          clear hml
          go_wp2_with fail
          change bodyPost _ _ _ _ _ (F2 w2 w.heap.size 0 0)
          exact new_ret 0 0 (.pointer (some ⟨w.heap.size + 1 + 1, 0, none⟩)) ST2.out.f ST2.out.bel HOUT.out (fun _ => ST2.out.done) (fun h => absurd rfl h) rfl rfl rfl
end Go.Proofs.YtffaoejahnildaaGreat
