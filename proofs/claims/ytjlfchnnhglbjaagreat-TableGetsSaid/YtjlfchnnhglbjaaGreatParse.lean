/- The contract of tag.Parse. -/
import Derived.Test.YtjlfchnnhglbjaaGreatVars
set_option linter.unusedVariables false
set_option linter.unusedSimpArgs false
namespace Go.Proofs.YtjlfchnnhglbjaaGreat
open Go.RowKit Go.Lib Go.Sort

def J' (s : ByteArray) (B : Nat) (w0 : World) (goal : Res) (l n : Nat) (a : Act) (w : World) : Prop := ∃ Bp, J s B Bp w0 goal l n a w

theorem wp_skip_seq {P : Program} {c : Code} {Q : Exit → Act → World → Prop} {a : Act} {w : World} (h : c.wp P Q a w) : (Code.seq .skip c).wp P Q a w := by
  go_wp2_with fail
  exact h

/-- the world when the three variables have been made -/
def W3 (w : World) : World := ((w.alloc (.cells (tagCells Tg.zero vnil vnil) 108)).alloc (.cells #[.int .i64 0, .int .i64 0] 99)).alloc (.cells (tagCells Tg.zero vnil vnil) 108)
theorem W3_facts (w : World) : Below w.heap.size w (W3 w) ∧ (W3 w).heap[w.heap.size]? = some (.cells (tagCells Tg.zero vnil vnil) 108 (0, 0)) ∧ (W3 w).heap[w.heap.size + 1]? = some (.cells #[.int .i64 0, .int .i64 0] 99 (0, 0)) ∧
    (W3 w).heap[w.heap.size + 2]? = some (.cells (tagCells Tg.zero vnil vnil) 108 (0, 0)) ∧ (W3 w).heap.size = w.heap.size + 3 := by
  refine ⟨(((Below.refl _ _).alloc (Nat.le_refl _) _).alloc (by simp) _).alloc (by simp; omega) _, ?_, ?_, ?_, by simp [W3]⟩
  · unfold W3; rw [heap_alloc_old _ _ (by simp; omega), heap_alloc_old _ _ (by simp)]; exact heap_alloc_new w _
  · unfold W3; rw [heap_alloc_old _ _ (by simp)]
    have := heap_alloc_new (w.alloc (.cells (tagCells Tg.zero vnil vnil) 108)) (.cells #[.int .i64 0, .int .i64 0] 99)
    simpa using this
  · unfold W3
    have := heap_alloc_new ((w.alloc (.cells (tagCells Tg.zero vnil vnil) 108)).alloc (.cells #[.int .i64 0, .int .i64 0] 99)) (.cells (tagCells Tg.zero vnil vnil) 108)
    simpa using this

set_option maxRecDepth 100000 in
set_option maxHeartbeats 8000000 in
theorem parse_any (s : ByteArray) (w : World) (hs : s.size ≤ maxLen) : Calls Tryz.prog 71 #[.string s] w (Parsed w.heap.size w (parseF s.data.toList)) := by
  unfold maxLen at hs
  obtain ⟨goal, hgoal⟩ : ∃ g, g = parseF s.data.toList := ⟨_, rfl⟩
  rw [← hgoal]
  have HG := hid hgoal
  clear hgoal
  have hl : s.data.toList.length = s.size := by simp
  have HL := hid hl
  clear hl
  go_enter Tryz.func71, Tryz.ntmps71
  go_wp2_with fail
  refine wp_scope_labels (J' s w.heap.size w goal) ?_ ?_
  · by_cases h128 : 128 < s.size
    · go_wp2_with fail
      have hgl : goal = ⟨Tg.zero, 3, 0⟩ := by rw [HG.out, parseF, if_pos (by rw [HL.out]; exact h128)]
      rw [hgl]
      simp only [Exit.jumps]
      refine bodyPost_ret (v := .tuple #[.agg (tagCells Tg.zero vnil vnil), .agg #[.int .i64 3, .int .i64 0]]) ?_ rfl ?_
      · simp [results, Tryz.results71, go_sem, tagCells, S, Tg.zero, vnil]
      · exact ⟨vnil, vnil, rfl, World.ownsRow_nil _ _ _ _, World.ownsRow_nil _ _ _ _, (((Below.refl _ _).alloc (Nat.le_refl _) _).alloc (by simp) _).alloc (by simp; omega) _⟩
    · have hlo := Lower_any s
      obtain ⟨x, hx⟩ : ∃ k, k = lower s.data.toList := ⟨_, rfl⟩
      rw [← hx] at hlo
      have HX' := hid hx
      clear hx
      have hs' : s.size ≤ 1000 := by omega
      go_wp2_with fail
      refine (hlo _ hs').mono ?_
      rintro e w1 ⟨rfl, hb1⟩
      change Below (W3 w).heap.size (W3 w) w1 at hb1
      obtain ⟨f1, f2, f3, f4, f5⟩ := W3_facts w
      have k : ∀ b o, (W3 w).heap[b]? = some o → w1.heap[b]? = some o := fun b o hb => by rw [hb1.block b (lt_of_block hb)]; exact hb
      have h0 := hid (k _ _ f2)
      have h1 := hid (k _ _ f3)
      have ht := hid (k _ _ f4)
      have hbel := hid (f1.trans (hb1.mono (by omega)))
      clear k f1 f2 f3 f4 f5 hb1 hlo
      by_cases hr : x = [114, 111, 111, 116]
      · have hrb : (x == [114, 111, 111, 116]) = true := by rw [hr]; rfl
        have HR := hid hr
        clear hr
        have z0 : w1.cell? ⟨w.heap.size, 0, none⟩ = some (.string ⟨#[]⟩) := by rw [cell_of_row _ _ _ _ _ _ h0.out]; rfl
        have z1 : w1.cell? ⟨w.heap.size, 1, none⟩ = some (.string ⟨#[]⟩) := by rw [cell_of_row _ _ _ _ _ _ h0.out]; rfl
        have z2 : w1.cell? ⟨w.heap.size, 2, none⟩ = some (.string ⟨#[]⟩) := by rw [cell_of_row _ _ _ _ _ _ h0.out]; rfl
        have z3 : w1.cell? ⟨w.heap.size, 3, none⟩ = some (.slice none 0 0) := by rw [cell_of_row _ _ _ _ _ _ h0.out]; rfl
        have z4 : w1.cell? ⟨w.heap.size, 4, none⟩ = some (.slice none 0 0) := by rw [cell_of_row _ _ _ _ _ _ h0.out]; rfl
        have fz : ∀ j, w1.frozen? ⟨w.heap.size, j, none⟩ = false := fun j => frozen_of_row _ _ _ _ _ h0.out
        have fz0 := fz 0
        have fz1 := fz 1
        have fz2 := fz 2
        have fz3 := fz 3
        have fz4 := fz 4
        have y0 : w1.cell? ⟨w.heap.size + 1, 0, none⟩ = some (.int .i64 0) := by rw [cell_of_row _ _ _ _ _ _ h1.out]; rfl
        have y1 : w1.cell? ⟨w.heap.size + 1, 1, none⟩ = some (.int .i64 0) := by rw [cell_of_row _ _ _ _ _ _ h1.out]; rfl
        have fy : ∀ j, w1.frozen? ⟨w.heap.size + 1, j, none⟩ = false := fun j => frozen_of_row _ _ _ _ _ h1.out
        have fy0 := fy 0
        have fy1 := fy 1
        have ct0 : w1.cell? ⟨w.heap.size + 1 + 1, 0, none⟩ = some (.string ⟨#[]⟩) := by rw [cell_of_row _ _ _ _ _ _ ht.out]; rfl
        have ct1 : w1.cell? ⟨w.heap.size + 1 + 1, 1, none⟩ = some (.string ⟨#[]⟩) := by rw [cell_of_row _ _ _ _ _ _ ht.out]; rfl
        have ct2 : w1.cell? ⟨w.heap.size + 1 + 1, 2, none⟩ = some (.string ⟨#[]⟩) := by rw [cell_of_row _ _ _ _ _ _ ht.out]; rfl
        have ct3 : w1.cell? ⟨w.heap.size + 1 + 1, 3, none⟩ = some (.slice none 0 0) := by rw [cell_of_row _ _ _ _ _ _ ht.out]; rfl
        have ct4 : w1.cell? ⟨w.heap.size + 1 + 1, 4, none⟩ = some (.slice none 0 0) := by rw [cell_of_row _ _ _ _ _ _ ht.out]; rfl
        clear fz fy
        go_wp2_with fail
        have hgl : goal = ⟨Tg.zero, 0, 0⟩ := by rw [HG.out, parseF, if_neg (by rw [HL.out]; exact h128), if_pos (by rw [← HX'.out]; exact HR.out)]
        rw [hgl]
        exact ret_core hbel.out h0.out h1.out ⟨Tg.zero, 0, 0⟩ vnil vnil rfl rfl rfl (World.ownsRow_nil _ _ _ _) (World.ownsRow_nil _ _ _ _)
      · have hrb : (x == [114, 111, 111, 116]) = false := by rw [beq_eq_false_iff_ne]; exact hr
        have HR := hid hr
        clear hr
        go_wp2_with fail
        generalize hW : World.alloc (World.alloc w1 _) _ = W2
        have hW2 : Below w1.heap.size w1 W2 ∧ W2.heap[w1.heap.size]? = some (.cells (rdr s.data.toList 0 [] false false) 158 (0, 0)) ∧ W2.heap[w1.heap.size + 1]? = some (.cells #[.pointer (some ⟨w1.heap.size, 0, none⟩)] 156 (0, 0)) := by
          rw [← hW]
          refine ⟨((Below.refl _ _).alloc (Nat.le_refl _) _).alloc (by simp) _, ?_, ?_⟩
          · rw [heap_alloc2_old]; simp [rdr, S]
          · rw [heap_alloc2_new]
        obtain ⟨b2, hrd, hpp⟩ := hW2
        clear hW
        have k : ∀ b o, w1.heap[b]? = some o → W2.heap[b]? = some o := fun b o hb => by rw [b2.block b (lt_of_block hb)]; exact hb
        have h0' := hid (k _ _ h0.out)
        have h1' := hid (k _ _ h1.out)
        have ht' := hid (k _ _ ht.out)
        have hbel' := hid (hbel.out.trans (b2.mono (Nat.le_of_lt (lt_of_block h0.out))))
        have hlo := hid (Nat.lt_of_lt_of_le (lt_of_block ht.out) (Nat.le_refl w1.heap.size))
        have hg2 : goal = if isLang (Rd.first s.data.toList).sub then scriptF { Tg.zero with lang := langOf (Rd.first s.data.toList).sub } (Rd.first s.data.toList).next else bad 180 (Rd.first s.data.toList) := by
          rw [HG.out, parseF, if_neg (by rw [HL.out]; exact h128), if_neg (by rw [← HX'.out]; exact HR.out)]
        have HG2 := hid hg2
        clear hg2 k h0 h1 ht hbel
        generalize w1.heap.size = Br at *
        have hl128 : s.data.toList.length ≤ 128 := by rw [HL.out]; omega
        generalize s.data.toList = l at *
        by_cases hnil : l = []
        · subst hnil
          refine (next_end Br 0 [] false false W2 (by omega) (by simp) hrd).mono ?_
          rintro e w4 ⟨rfl, hr4, ho4⟩
          have hpp4 : w4.heap[Br + 1]? = some (.cells #[.pointer (some ⟨Br, 0, none⟩)] 156 (0, 0)) := by
            rw [ho4.block _ (lt_of_block hpp) (fun e => by have := Option.some.inj e; omega)]; exact hpp
          have cp : w4.cell? ⟨Br + 1, 0, none⟩ = some (.pointer (some ⟨Br, 0, none⟩)) := cell_of_one hpp4
          have cr2 : w4.cell? ⟨Br, 2, none⟩ = some (.string ⟨#[]⟩) := by rw [cell_of_row _ _ _ _ _ _ hr4]; rfl
          have cr1 : w4.cell? ⟨Br, 1, none⟩ = some (.int .i64 0) := by rw [cell_of_row _ _ _ _ _ _ hr4]; rfl
          have hloo := hlo.out
          have k : ∀ b o, b ≠ Br → W2.heap[b]? = some o → w4.heap[b]? = some o := fun b o hne hb => by rw [ho4.block b (lt_of_block hb) (fun e => hne (Option.some.inj e))]; exact hb
          have h04 := k _ _ (by omega) h0'.out
          have h14 := k _ _ (by omega) h1'.out
          have bel4 := hbel'.out.grown ho4 (Nat.le_of_lt (lt_of_block h0'.out)) (fun k hk => by injection hk with hk; omega)
          have H0 := hid h04
          have H1 := hid h14
          have BEL := hid bel4
          clear h04 h14 bel4 k hpp4 hr4 ho4 hpp hrd b2
          have hil := fun W => isLanguage_any ⟨#[]⟩ W (by decide)
          change ∀ w : World, Calls _ _ _ _ fun e w' => e = .returned (.bool false) ∧ _ at hil
          go_wp2_with fail
          refine (hil _).mono ?_
          rintro e w5 ⟨rfl, rfl⟩
          go_wp2_with fail
          refine (wrong_any 180 (Br + 1) Br 0 _ cp cr1).mono ?_
          rintro e w6 ⟨rfl, hb6⟩
          have k6 : ∀ b o, w5.heap[b]? = some o → w6.heap[b]? = some o := fun b o hb => by rw [hb6.block b (lt_of_block hb)]; exact hb
          have h06 := hid (k6 _ _ H0.out)
          have h16 := hid (k6 _ _ H1.out)
          have bel6 := hid (BEL.out.trans (hb6.mono (Nat.le_of_lt (lt_of_block H0.out))))
          clear k6 hb6 cp cr1 cr2 hil
          have z0 : w6.cell? ⟨w.heap.size, 0, none⟩ = some (.string ⟨#[]⟩) := by rw [cell_of_row _ _ _ _ _ _ h06.out]; rfl
          have z1 : w6.cell? ⟨w.heap.size, 1, none⟩ = some (.string ⟨#[]⟩) := by rw [cell_of_row _ _ _ _ _ _ h06.out]; rfl
          have z2 : w6.cell? ⟨w.heap.size, 2, none⟩ = some (.string ⟨#[]⟩) := by rw [cell_of_row _ _ _ _ _ _ h06.out]; rfl
          have z3 : w6.cell? ⟨w.heap.size, 3, none⟩ = some (.slice none 0 0) := by rw [cell_of_row _ _ _ _ _ _ h06.out]; rfl
          have z4 : w6.cell? ⟨w.heap.size, 4, none⟩ = some (.slice none 0 0) := by rw [cell_of_row _ _ _ _ _ _ h06.out]; rfl
          have fz : ∀ j, w6.frozen? ⟨w.heap.size, j, none⟩ = false := fun j => frozen_of_row _ _ _ _ _ h06.out
          have fz0 := fz 0
          have fz1 := fz 1
          have fz2 := fz 2
          have fz3 := fz 3
          have fz4 := fz 4
          have y0 : w6.cell? ⟨w.heap.size + 1, 0, none⟩ = some (.int .i64 0) := by rw [cell_of_row _ _ _ _ _ _ h16.out]; rfl
          have y1 : w6.cell? ⟨w.heap.size + 1, 1, none⟩ = some (.int .i64 0) := by rw [cell_of_row _ _ _ _ _ _ h16.out]; rfl
          have fy : ∀ j, w6.frozen? ⟨w.heap.size + 1, j, none⟩ = false := fun j => frozen_of_row _ _ _ _ _ h16.out
          have fy0 := fy 0
          have fy1 := fy 1
          clear fz fy
          go_wp2_with fail
          have hgl : goal = ⟨Tg.zero, 180, 0⟩ := by rw [HG2.out]; rfl
          rw [hgl]
          exact ret_core bel6.out h06.out h16.out ⟨Tg.zero, 180, 0⟩ vnil vnil rfl rfl rfl (World.ownsRow_nil _ _ _ _) (World.ownsRow_nil _ _ _ _)
        · refine (next_first Br l W2 (by omega) hnil hrd).mono ?_
          rintro e w4 ⟨rfl, hr4, ho4⟩
          have hpp4 : w4.heap[Br + 1]? = some (.cells #[.pointer (some ⟨Br, 0, none⟩)] 156 (0, 0)) := by
            rw [ho4.block _ (lt_of_block hpp) (fun e => by have := Option.some.inj e; omega)]; exact hpp
          have hloo := hlo.out
          have k : ∀ b o, b ≠ Br → W2.heap[b]? = some o → w4.heap[b]? = some o := fun b o hne hb => by rw [ho4.block b (lt_of_block hb) (fun e => hne (Option.some.inj e))]; exact hb
          have st4 : St w.heap.size Br (Br + 1) w w4 vnil vnil Tg.zero (Rd.first l) := by
            refine ⟨hbel'.out.grown ho4 (Nat.le_of_lt (lt_of_block h0'.out)) (fun k hk => by injection hk with hk; omega), k _ _ (by omega) h0'.out, k _ _ (by omega) h1'.out, k _ _ (by omega) ht'.out, ?_, hpp4, World.ownsRow_nil _ _ _ _, World.ownsRow_nil _ _ _ _, by omega⟩
            rw [hr4]; unfold Rd.first; rw [if_neg hnil]
          have hall : (Rd.first l).all ≤ 128 := by rw [Rd.first_all]; exact hl128
          clear k hpp4 hr4 ho4 hpp hrd b2 hnil h0' h1' ht' hbel' hlo
          generalize Rd.first l = r at *
          have cp := st4.cp
          have cr2 := st4.cr2
          have hsub : r.sub.length ≤ 128 := by have := hall; unfold Rd.all at this; omega
          have hsz : (⟨r.sub.toArray⟩ : ByteArray).size ≤ 1000 := by rw [Lib.size_eq]; show r.sub.length ≤ 1000; omega
          have hil := isLanguage_any ⟨r.sub.toArray⟩
          change ∀ w : World, _ → Calls _ _ _ _ fun e w' => e = .returned (.bool (isLang r.sub)) ∧ _ at hil
          cases hq : isLang r.sub
          · rw [hq] at hil HG2
            have cr1 := st4.cr1
            go_wp2_with fail
            refine (hil _ hsz).mono ?_
            rintro e w5 ⟨rfl, rfl⟩
            go_wp2_with fail
            refine (wrong_any 180 (Br + 1) Br r.pos _ cp cr1).mono ?_
            rintro e w6 ⟨rfl, hb6⟩
            have st6 := st4.below hb6
            clear cp cr1 cr2 hil
            have z0 := st6.z0
            have z1 := st6.z1
            have z2 := st6.z2
            have z3 := st6.z3
            have z4 := st6.z4
            have fz0 := st6.fz 0
            have fz1 := st6.fz 1
            have fz2 := st6.fz 2
            have fz3 := st6.fz 3
            have fz4 := st6.fz 4
            have y0 := st6.y0
            have y1 := st6.y1
            have fy0 := st6.fy 0
            have fy1 := st6.fy 1
            go_wp2_with fail
            rw [HG2.out]
            exact ret_all st6 (bad 180 r) vnil vnil rfl rfl rfl (World.ownsRow_nil _ _ _ _) (World.ownsRow_nil _ _ _ _)
          · rw [hq] at hil HG2
            obtain ⟨y, hy⟩ : ∃ k, k = lower r.sub := ⟨_, rfl⟩
            have hlw := Lower_any ⟨r.sub.toArray⟩
            change ∀ w : World, _ → Calls _ _ _ _ fun e w' => e = .returned (.string ⟨(lower r.sub).toArray⟩) ∧ _ at hlw
            rw [← hy] at hlw
            have HY := hid hy
            clear hy hq
            go_wp2_with fail
            refine (hil _ hsz).mono ?_
            rintro e w5 ⟨rfl, rfl⟩
            go_wp2_with fail
            refine (hlw _ hsz).mono ?_
            rintro e w6 ⟨rfl, hb6⟩
            have st6 := st4.below hb6
            clear st4 hb6 cp cr2 hil hlw
            rename_i KA hKA KB hKB KC hKC
            have hA : ∀ (a : Act) (W : World), Fr s w.heap.size (Br + 1) a → St w.heap.size Br (Br + 1) w W vnil vnil { Tg.zero with lang := langOf r.sub } r → KA a W := by
              intro a W hfr st
              obtain ⟨u, rfl⟩ := hfr.lit
              have cp := st.cp
              have HG3 : Hid (goal = scriptF { Tg.zero with lang := langOf r.sub } r.next) := by rw [HG2.out]; rfl
              apply hKA
              clear hKA hKB hKC HG2 HY hfr st6
              go_step
              rename_i KD hKD
              have hB : ∀ (a : Act) (W : World) (t : Tg) (r : Rd), Fr s w.heap.size (Br + 1) a → St w.heap.size Br (Br + 1) w W vnil vnil t r → r.all ≤ 128 → t.vars = [] → t.keys = [] → goal = regionF t r → KD a W := by
                clear HG3 cp st hsub hsz hall
                intro a W t r hfr st hall hv0 hk0 hgr
                obtain ⟨u, rfl⟩ := hfr.lit
                have cp := st.cp
                have cr2 := st.cr2
                have HG4 := hid hgr
                have HV0 := hid hv0
                have HK0 := hid hk0
                clear hgr hv0 hk0 hfr
                apply hKD
                clear hKD
                go_step
                rename_i KE hKE
                have hC : ∀ (a : Act) (W : World) (t : Tg) (r : Rd), Fr s w.heap.size (Br + 1) a → St w.heap.size Br (Br + 1) w W vnil vnil t r → r.all ≤ 128 → t.vars = [] → t.keys = [] → goal = varsF 9 t r → KE a W := by
                  clear cp cr2 HG4 HV0 HK0 st hall
                  intro a W t r hfr st hall hv0 hk0 hgr
                  obtain ⟨rest0, hr0, hvr⟩ := vars_run s w.heap.size (Br + 1) w goal
                  have HR0 := hid hr0
                  have HVR := hid hvr
                  clear hr0 hvr
                  apply hKE
                  clear hKE
                  go_step
                  go_step3
                  go_step
                  go_step
                  refine wp_same (HVR.out 109 _ _ ?_ _ ?_) (HR0.out.symm.trans rfl)
                  · refine ⟨hfr, Br, vnil, t, r, st, hk0, by rw [hv0]; simp, by rw [hv0]; simp, hall, by rw [hgr, hv0]; rfl⟩
                  · exact fun l' n' a' w' hlt hj => ⟨n', Br + 1, hj⟩
                clear hKE
                have hsub : r.sub.length ≤ 128 := by have := hall; unfold Rd.all at this; omega
                have hsz : (⟨r.sub.toArray⟩ : ByteArray).size ≤ 1000 := by rw [Lib.size_eq]; show r.sub.length ≤ 1000; omega
                have hik := isRegion_any ⟨r.sub.toArray⟩
                change ∀ w : World, _ → Calls _ _ _ _ fun e w' => e = .returned (.bool (isRegion r.sub)) ∧ _ at hik
                cases hq : isRegion r.sub
                · rw [hq] at hik
                  have hg5 : goal = varsF 9 t r := by rw [HG4.out, regionF, hq]; rfl
                  have HG5 := hid hg5
                  clear hg5 hq
                  go_wp2_with fail
                  refine (hik _ hsz).mono ?_
                  rintro e w8 ⟨rfl, rfl⟩
                  go_wp2_with fail
                  exact hC _ _ t r ⟨rfl, rfl, rfl, rfl, rfl, rfl, rfl, rfl⟩ st hall HV0.out HK0.out HG5.out
                · rw [hq] at hik
                  have hg5 : goal = varsF 9 { t with region := upper r.sub } r.next := by rw [HG4.out, regionF, hq]; rfl
                  have HG5 := hid hg5
                  clear hg5 hq
                  obtain ⟨y, hy⟩ : ∃ k, k = upper r.sub := ⟨_, rfl⟩
                  have hup := Upper_any ⟨r.sub.toArray⟩
                  change ∀ w : World, _ → Calls _ _ _ _ fun e w' => e = .returned (.string ⟨(upper r.sub).toArray⟩) ∧ _ at hup
                  rw [← hy] at hup
                  have HY := hid hy
                  clear hy
                  go_wp2_with fail
                  refine (hik _ hsz).mono ?_
                  rintro e w8 ⟨rfl, rfl⟩
                  go_wp2_with fail
                  refine (hup _ hsz).mono ?_
                  rintro e w9 ⟨rfl, hb9⟩
                  have st9 := st.below hb9
                  clear hb9 hup hik cp cr2 st
                  have ct2 := st9.ct2
                  have ft2 := st9.ft 2
                  have st10 := st9.set 2 (.string ⟨y.toArray⟩) (t' := { t with region := y }) (vv' := vnil) (kv' := vnil) (by simp [tagCells, S]) st9.os st9.op
                  have cp10 : (w9.setCell ⟨w.heap.size + 2, 2, none⟩ (.string ⟨y.toArray⟩)).cell? ⟨Br + 1, 0, none⟩ = some (.pointer (some ⟨Br, 0, none⟩)) := st10.cp
                  go_wp2_with fail
                  refine (st10.next hall).mono ?_
                  rintro e w11 ⟨rfl, hn11⟩
                  have st11 := st10.read hn11
                  clear hn11 cp10 ct2 ft2 st9
                  go_wp2_with fail
                  exact hC _ _ { t with region := y } r.next ⟨rfl, rfl, rfl, rfl, rfl, rfl, rfl, rfl⟩ st11 (by rw [Rd.next_all]; exact hall) HV0.out HK0.out (by rw [HY.out]; exact HG5.out)
              clear hKD
              go_wp2_with fail
              refine (st.next hall).mono ?_
              rintro e w7 ⟨rfl, hn7⟩
              have st7 := st.read hn7
              have ha7 : r.next.all ≤ 128 := by rw [Rd.next_all]; exact hall
              clear hn7 st cp hsub hsz hall
              generalize r.next = r1 at *
              have cp := st7.cp
              have cr2 := st7.cr2
              have hsub : r1.sub.length ≤ 128 := by have := ha7; unfold Rd.all at this; omega
              have hsz : (⟨r1.sub.toArray⟩ : ByteArray).size ≤ 1000 := by rw [Lib.size_eq]; show r1.sub.length ≤ 1000; omega
              have hik := isScript_any ⟨r1.sub.toArray⟩
              change ∀ w : World, _ → Calls _ _ _ _ fun e w' => e = .returned (.bool (isScript r1.sub)) ∧ _ at hik
              cases hq : isScript r1.sub
              · rw [hq] at hik
                have hg5 : goal = regionF { Tg.zero with lang := langOf r.sub } r1 := by rw [HG3.out, scriptF, hq]; rfl
                have HG5 := hid hg5
                clear hg5 hq
                go_wp2_with fail
                refine (hik _ hsz).mono ?_
                rintro e w8 ⟨rfl, rfl⟩
                go_wp2_with fail
                exact hB _ _ _ r1 ⟨rfl, rfl, rfl, rfl, rfl, rfl, rfl, rfl⟩ st7 ha7 rfl rfl HG5.out
              · rw [hq] at hik
                have h04 : 0 < (⟨r1.sub.toArray⟩ : ByteArray).size := by
                  rw [Lib.size_eq]; show 0 < r1.sub.length
                  have := hq; simp only [isScript, lettersB, Bool.and_eq_true, beq_iff_eq] at this; omega
                have hg5 : goal = regionF { Tg.zero with lang := langOf r.sub, script := title r1.sub } r1.next := by rw [HG3.out, scriptF, hq]; rfl
                have HG5 := hid hg5
                clear hg5 hq
                obtain ⟨y2, hy2⟩ : ∃ k, k = title r1.sub := ⟨_, rfl⟩
                have hup := Title_any ⟨r1.sub.toArray⟩
                change ∀ w : World, _ → _ → Calls _ _ _ _ fun e w' => e = .returned (.string ⟨(title r1.sub).toArray⟩) ∧ _ at hup
                rw [← hy2] at hup
                have HY2 := hid hy2
                clear hy2
                go_wp2_with fail
                refine (hik _ hsz).mono ?_
                rintro e w8 ⟨rfl, rfl⟩
                go_wp2_with fail
                refine (hup _ hsz h04).mono ?_
                rintro e w9 ⟨rfl, hb9⟩
                have st9 := st7.below hb9
                clear hb9 hup hik cp cr2 st7
                have ct1 := st9.ct1
                have ft1 := st9.ft 1
                have st10 := st9.set 1 (.string ⟨y2.toArray⟩) (t' := { Tg.zero with lang := langOf r.sub, script := y2 }) (vv' := vnil) (kv' := vnil) (by simp [tagCells, S, Tg.zero]) st9.os st9.op
                have cp10 : (w9.setCell ⟨w.heap.size + 2, 1, none⟩ (.string ⟨y2.toArray⟩)).cell? ⟨Br + 1, 0, none⟩ = some (.pointer (some ⟨Br, 0, none⟩)) := st10.cp
                go_wp2_with fail
                refine (st10.next ha7).mono ?_
                rintro e w11 ⟨rfl, hn11⟩
                have st11 := st10.read hn11
                clear hn11 cp10 ct1 ft1 st9
                go_wp2_with fail
                exact hB _ _ { Tg.zero with lang := langOf r.sub, script := y2 } r1.next ⟨rfl, rfl, rfl, rfl, rfl, rfl, rfl, rfl⟩ st11 (by rw [Rd.next_all]; exact ha7) rfl rfl (by rw [HY2.out]; exact HG5.out)
            clear hKA
            have ct0 := st6.ct0
            have ft0 := st6.ft 0
            have ct0' : w6.cell? ⟨w.heap.size + 1 + 1, 0, none⟩ = some (.string ⟨#[]⟩) := ct0
            have ft0' : w6.frozen? ⟨w.heap.size + 1 + 1, 0, none⟩ = false := ft0
            have st7 := st6.set 0 (.string ⟨y.toArray⟩) (t' := { Tg.zero with lang := y }) (vv' := vnil) (kv' := vnil) (by simp [tagCells, S, Tg.zero]) st6.os st6.op
            clear ct0 ft0
            by_cases hu : y = [117, 110, 100]
            · have hub : (y == [117, 110, 100]) = true := by rw [hu]; rfl
              have HU := hid hu
              clear hu
              go_wp2_with fail
              refine hA _ _ ⟨rfl, rfl, rfl, rfl, rfl, rfl, rfl, rfl⟩ ?_
              have hlg : langOf r.sub = [] := by unfold langOf; rw [← HY.out, HU.out]; rfl
              rw [hlg]
              exact st7.set 0 (.string ⟨#[]⟩) (t' := Tg.zero) (vv' := vnil) (kv' := vnil) (by simp [tagCells, S, Tg.zero]) st7.os st7.op
            · have hub : (y == [117, 110, 100]) = false := by rw [beq_eq_false_iff_ne]; exact hu
              have HU := hid hu
              clear hu
              go_wp2_with fail
              refine hA _ _ ⟨rfl, rfl, rfl, rfl, rfl, rfl, rfl, rfl⟩ ?_
              have hlg : langOf r.sub = y := by unfold langOf; rw [← HY.out]; exact if_neg HU.out
              rw [hlg]
              exact st7
  · rintro l n a wl ⟨Bp, hJ⟩
    match l, hJ with
    | 0, hJ =>
      obtain ⟨rest, hr, hp⟩ := vars_run s w.heap.size Bp w goal
      exact ⟨_, hr, wp_skip_seq (hp n a wl hJ _ (fun l' n' a' w' hlt hj => ⟨n', hlt, Bp, hj⟩))⟩
    | 1, hJ =>
      obtain ⟨rest, hr, hp⟩ := keys_run s w.heap.size Bp w goal
      exact ⟨_, hr, wp_skip_seq (hp n a wl hJ _ (fun n' a' w' hlt hj => ⟨n', hlt, Bp, hj⟩))⟩
    | l + 2, hJ => exact absurd hJ (by simp [J])
end Go.Proofs.YtjlfchnnhglbjaaGreat
