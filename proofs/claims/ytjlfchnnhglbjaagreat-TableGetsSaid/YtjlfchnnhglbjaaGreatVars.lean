/- tag.Parse from the label 'variants' on. -/
import Derived.Test.YtjlfchnnhglbjaaGreatKeys
set_option linter.unusedVariables false
set_option linter.unusedSimpArgs false
namespace Go.Proofs.YtjlfchnnhglbjaaGreat
open Go.RowKit Go.Lib Go.Sort

theorem wp_same {P : Program} {c d : Code} {Q : Exit → Act → World → Prop} {a : Act} {w : World} (h : c.wp P Q a w) (e : some (Code.seq .skip c) = some (Code.seq .skip d)) : d.wp P Q a w := by
  injection e with e
  injection e with _ e
  exact e ▸ h

set_option maxRecDepth 100000 in
set_option maxHeartbeats 8000000 in
theorem vars_run (s : ByteArray) (B Bp : Nat) (w0 : World) (goal : Res) : ∃ rest, bodyOf Tryz.f71 0 = some (.seq .skip rest) ∧ ∀ n a w, J s B Bp w0 goal 0 n a w → ∀ Jx : Nat → Act → World → Prop, (∀ l' n' a' w', n' < n → J s B Bp w0 goal l' n' a' w' → Jx l' a' w') →
    rest.wp Tryz.prog (Exit.jumps Jx (bodyPost Tryz.prog Tryz.f71 (Parsed B w0 goal))) a w := by
  obtain ⟨rest1, hr1, hkeys⟩ := keys_run s B Bp w0 goal
  have HKEYS := hid hkeys
  clear hkeys
  refine ⟨_, rfl, ?_⟩
  intro n a w hJ Jx hJx
  obtain ⟨hfr, Br, vv, t, r, st, hke, hvl, hn, hall, hg⟩ := hJ
  obtain ⟨u, rfl⟩ := hfr.lit
  obtain ⟨av, cv, rfl⟩ := own_sliceS st.os
  have HN := hid hn
  have HG := hid hg
  have HX := hid hJx
  have HE := hid hke
  have HR1 := hid hr1
  clear hn hg hJx hfr hke hr1
  have cp := st.cp
  have cr2 := st.cr2
  have hsub : r.sub.length ≤ 128 := by have := hall; unfold Rd.all at this; omega
  have hsz : (⟨r.sub.toArray⟩ : ByteArray).size ≤ 1000 := by rw [Lib.size_eq]; show r.sub.length ≤ 1000; omega
  have hik := isVariant_any ⟨r.sub.toArray⟩
  change ∀ w : World, _ → Calls _ _ _ _ fun e w' => e = .returned (.bool (isVariant r.sub)) ∧ _ at hik
  have e9 : 9 - t.vars.length = (8 - t.vars.length) + 1 := by omega
  cases hq : isVariant r.sub
  · rw [hq] at hik
    have hg2 : goal = tailF t r := by rw [HG.out, e9, varsF, hq]; rfl
    have HG2 := hid hg2
    clear hg2 hq e9
    go_wp2_with fail
    refine (hik _ hsz).mono ?_
    rintro e w1 ⟨rfl, rfl⟩
    have ct3 := st.ct3
    clear hik
    go_wp2_with fail
    refine (sort_own _ B _ t.vars st.os (by omega)).mono ?_
    rintro e w2 ⟨rfl, os2, hgr2⟩
    have st2 := st.sortS os2 hgr2
    clear os2 hgr2 st cp cr2 ct3
    have cp := st2.cp
    have cr4 := st2.cr4
    cases hf : r.fin
    · rw [hf] at cr4
      have HF := hid hf
      clear hf
      have cr2 := st2.cr2
      obtain ⟨x, hx⟩ : ∃ k, k = lower r.sub := ⟨_, rfl⟩
      have hlo := Lower_any ⟨r.sub.toArray⟩
      change ∀ w : World, _ → Calls _ _ _ _ fun e w' => e = .returned (.string ⟨(lower r.sub).toArray⟩) ∧ _ at hlo
      rw [← hx] at hlo
      have HX' := hid hx
      clear hx
      go_wp2_with fail
      refine (hlo _ hsz).mono ?_
      rintro e w3 ⟨rfl, hb3⟩
      have st3 := st2.below hb3
      clear hb3 st2 hlo cp cr2 cr4
      have cp := st3.cp
      by_cases hu : x = [117]
      · have hub : (x != [117]) = false := by rw [hu]; rfl
        have hub2 : (x == [117]) = true := by rw [hu]; rfl
        have HU := hid hu
        clear hu
        go_wp2_with fail
        refine (st3.next hall).mono ?_
        rintro e w4 ⟨rfl, hn4⟩
        have st4 := st3.read hn4
        have ha4 : r.next.all ≤ 128 := by rw [Rd.next_all]; exact hall
        clear hn4 st3 cp
        have cp := st4.cp
        have cr2 := st4.cr2
        have hsub4 : r.next.sub.length ≤ 128 := by have := ha4; unfold Rd.all at this; omega
        have hsz4 : (⟨r.next.sub.toArray⟩ : ByteArray).size ≤ 1000 := by rw [Lib.size_eq]; show r.next.sub.length ≤ 1000; omega
        have hik := isKey_any ⟨r.next.sub.toArray⟩
        change ∀ w : World, _ → Calls _ _ _ _ fun e w' => e = .returned (.bool (isKey r.next.sub)) ∧ _ at hik
        have hgl : goal = if isKey r.next.sub then keysF 17 { t with vars := srtS t.vars } r.next else bad 180 r.next := by
          rw [HG2.out]; unfold tailF; rw [HF.out, if_neg (by simp), ← HX'.out, if_pos HU.out]
        have HGL := hid hgl
        clear hgl
        cases hq2 : isKey r.next.sub
        · rw [hq2] at hik HGL
          have cr1 := st4.cr1
          go_wp2_with fail
          refine (hik _ hsz4).mono ?_
          rintro e w5 ⟨rfl, rfl⟩
          go_wp2_with fail
          refine (wrong_any 180 Bp Br r.next.pos _ cp cr1).mono ?_
          rintro e w6 ⟨rfl, hb6⟩
          have st6 := st4.below hb6
          clear cp cr1
          have z0 := st6.z0
          have z1 := st6.z1
          have z2 := st6.z2
          have z3 := st6.z3
          have z4 := st6.z4
          have fz0 := st6.fz 0
          have fz1 := st6.fz 1
          have fz2 := st6.fz 2
          have fz3 := st6.fz 3
          have fz4 := st6.fz 4
          have y0 := st6.y0
          have y1 := st6.y1
          have fy0 := st6.fy 0
          have fy1 := st6.fy 1
          go_wp2_with fail
          rw [HGL.out]
          exact ret_all st6 (bad 180 r.next) vnil vnil rfl rfl rfl (World.ownsRow_nil _ _ _ _) (World.ownsRow_nil _ _ _ _)
        · rw [hq2] at hik HGL
          go_wp2_with fail
          refine (hik _ hsz4).mono ?_
          rintro e w5 ⟨rfl, rfl⟩
          go_wp2_with fail
          go_step3
          go_step
          go_step
          refine wp_same (HKEYS.out 17 _ _ ?_ Jx ?_) (HR1.out.symm.trans rfl)
          · refine ⟨⟨rfl, rfl, rfl, rfl, rfl, rfl, rfl, rfl⟩, Br, _, _, _, _, st4, ?_, ?_, ?_, fun _ => hq2, ha4, ?_⟩
            · show t.keys.length ≤ 16; rw [HE.out]; simp
            · show 17 = 17 - t.keys.length; rw [HE.out]; simp
            · show (t.keys.map (·.1)).Nodup; rw [HE.out]; simp
            · rw [HGL.out]
              simp only [if_true]
              show keysF 17 _ _ = keysF (17 - t.keys.length) _ _
              rw [HE.out]; rfl
          · exact fun n' a' w' hlt hj => HX.out 1 n' a' w' (by rw [HN.out]; omega) hj
      · have hub : (x != [117]) = true := by rw [bne_iff_ne]; exact hu
        have hub2 : (x == [117]) = false := by rw [beq_eq_false_iff_ne]; exact hu
        have HU := hid hu
        clear hu
        have cr1 := st3.cr1
        go_wp2_with fail
        refine (wrong_any 180 Bp Br r.pos _ cp cr1).mono ?_
        rintro e w5 ⟨rfl, hb5⟩
        have st5 := st3.below hb5
        clear cp cr1
        have z0 := st5.z0
        have z1 := st5.z1
        have z2 := st5.z2
        have z3 := st5.z3
        have z4 := st5.z4
        have fz0 := st5.fz 0
        have fz1 := st5.fz 1
        have fz2 := st5.fz 2
        have fz3 := st5.fz 3
        have fz4 := st5.fz 4
        have y0 := st5.y0
        have y1 := st5.y1
        have fy0 := st5.fy 0
        have fy1 := st5.fy 1
        go_wp2_with fail
        rw [HG2.out]
        have hgl : tailF t r = bad 180 r := by unfold tailF; rw [HF.out, if_neg (by simp), ← HX'.out, if_neg HU.out]
        rw [hgl]
        exact ret_all st5 (bad 180 r) vnil vnil rfl rfl rfl (World.ownsRow_nil _ _ _ _) (World.ownsRow_nil _ _ _ _)
    · rw [hf] at cr4
      have HF := hid hf
      clear hf
      have z0 := st2.z0
      have z1 := st2.z1
      have z2 := st2.z2
      have z3 := st2.z3
      have z4 := st2.z4
      have fz0 := st2.fz 0
      have fz1 := st2.fz 1
      have fz2 := st2.fz 2
      have fz3 := st2.fz 3
      have fz4 := st2.fz 4
      have y0 := st2.y0
      have y1 := st2.y1
      have fy0 := st2.fy 0
      have fy1 := st2.fy 1
      have ct0 := st2.ct0
      have ct1 := st2.ct1
      have ct2 := st2.ct2
      have ct3 := st2.ct3
      have ct4 := st2.ct4
      unfold vnil at ct4
      go_wp2_with fail
      have hgl : goal = ⟨{ t with vars := srtS t.vars }, 0, 0⟩ := by rw [HG2.out]; unfold tailF; rw [HF.out, if_pos rfl]
      rw [hgl]
      exact ret_all st2 ⟨{ t with vars := srtS t.vars }, 0, 0⟩ _ vnil rfl rfl rfl st2.os st2.op
  · rw [hq] at hik
    obtain ⟨x, hx⟩ : ∃ k, k = lower r.sub := ⟨_, rfl⟩
    have hlo := Lower_any ⟨r.sub.toArray⟩
    change ∀ w : World, _ → Calls _ _ _ _ fun e w' => e = .returned (.string ⟨(lower r.sub).toArray⟩) ∧ _ at hlo
    rw [← hx] at hlo
    have hg2 : goal = if t.vars.contains x then bad 181 r
      else if t.vars.length = 8 then bad 3 r
      else varsF (8 - t.vars.length) { t with vars := t.vars ++ [x] } r.next := by
      rw [HG.out, e9, varsF, hq, if_pos rfl, ← hx]
    have HG2 := hid hg2
    clear hg2 hq e9 hx
    go_wp2_with fail
    refine (hik _ hsz).mono ?_
    rintro e w1 ⟨rfl, rfl⟩
    go_wp2_with fail
    refine (hlo _ hsz).mono ?_
    rintro e w2 ⟨rfl, hb2⟩
    have st2 := st.below hb2
    clear cp cr2 hik hlo hb2 st
    have ct3 := st2.ct3
    have cp := st2.cp
    have cr1 := st2.cr1
    have hc := contains_own w2 B _ t.vars x st2.os
    unfold S at hc
    cases hq : t.vars.contains x
    · rw [hq] at hc HG2
      by_cases hlen : t.vars.length = 8
      · have hl8 : ((t.vars.length : Int) == 8) = true := by simp; omega
        have HL := hid hlen
        clear hlen
        go_wp2_with fail
        refine hc.mono ?_
        rintro e w4 ⟨rfl, rfl⟩
        go_wp2_with fail
        refine (wrong_any 3 Bp Br r.pos _ cp cr1).mono ?_
        rintro e w5 ⟨rfl, hb5⟩
        have st5 := st2.below hb5
        clear cp cr1 ct3
        have z0 := st5.z0
        have z1 := st5.z1
        have z2 := st5.z2
        have z3 := st5.z3
        have z4 := st5.z4
        have fz0 := st5.fz 0
        have fz1 := st5.fz 1
        have fz2 := st5.fz 2
        have fz3 := st5.fz 3
        have fz4 := st5.fz 4
        have y0 := st5.y0
        have y1 := st5.y1
        have fy0 := st5.fy 0
        have fy1 := st5.fy 1
        go_wp2_with fail
        rw [HG2.out, if_neg (by simp), if_pos HL.out]
        exact ret_all st5 (bad 3 r) vnil vnil rfl rfl rfl (World.ownsRow_nil _ _ _ _) (World.ownsRow_nil _ _ _ _)
      · have hl8 : ((t.vars.length : Int) == 8) = false := by simp; omega
        have HL := hid hlen
        clear hlen
        go_wp2_with fail
        refine hc.mono ?_
        rintro e w4 ⟨rfl, rfl⟩
        clear hc
        have hB8 : B ≤ w4.heap.size := Nat.le_of_lt (lt_of_block st2.h0)
        have hlt : B + 2 < w4.heap.size := lt_of_block st2.ht
        obtain ⟨i0, hi, hz0, hz1, hz2⟩ := info_parts infoS
        go_wp2_with (at_builtin; refine wpList_append_own _ rfl _ _ 41 rfl B 9 i0 (.string ⟨#[]⟩) 1 16 Tryz.underlying41 hi hz0 hz1 hz2 rfl (by decide) _ _ _ rfl (World.ownsRow.alloc st2.os _) ⟨w4.heap.size, 0, none⟩ 1 1 [.string ⟨x.toArray⟩] rfl rfl (cell_one_new _ _ _) ?c2 ?c3 ?c4 ?c5 ?_)
        case c2 => intro y hy; simp at hy; subst hy; rfl
        case c3 => unfold maxLen; omega
        case c4 => omega
        case c5 => simp; omega
        intro vv9 w9 own9 hgr9 _
        have own9' : OwnS w9 B vv9 (t.vars ++ [x]) := own_cast own9 (by simp) (by simp [S])
        have st8 := st2.below ((Below.refl _ _).alloc (Nat.le_refl _) (.cells #[.string ⟨x.toArray⟩] 9))
        have st9 := st8.appS own9' hgr9
        have fr9 : w9.frozen? ⟨B + 2, 3, none⟩ = false := by
          have := frozen_of_row (w9.setCell ⟨B + 2, 3, none⟩ vv9) (B + 2) 3 _ _ st9.ht
          rwa [World.frozen?_setCell] at this
        obtain ⟨ao9, cp9, hk9⟩ := own_sliceS own9'
        simp only [List.length_append, List.length_cons, List.length_nil, Nat.zero_add] at hk9
        subst hk9
        have c9 : ∃ v, w9.cell? ⟨B + 2, 3, none⟩ = some v := by
          have hne : (Value.slice av t.vars.length cv).ownBlock ≠ some (B + 2) := own_type st2.os st2.ht (by decide)
          rw [World.cell?_of_block (w := w4.alloc (.cells #[.string ⟨x.toArray⟩] 9)) (hgr9.block (B + 2) (by simp; omega) (fun e => hne e.symm))]
          exact ⟨_, st8.ct3⟩
        obtain ⟨v9, c9⟩ := c9
        have cp9' : (w9.setCell ⟨B + 2, 3, none⟩ (.slice ao9 (t.vars.length + 1) cp9)).cell? ⟨Bp, 0, none⟩ = some (.pointer (some ⟨Br, 0, none⟩)) := st9.cp
        clear own9 hgr9 own9' hi hz0 hz1 hz2 st8 st2 ct3 cr1 cp
        go_wp2_with fail
        refine (st9.next hall).mono ?_
        rintro e w10 ⟨rfl, hn10⟩
        have st10 := st9.read hn10
        have ha10 : r.next.all ≤ 128 := by rw [Rd.next_all]; exact hall
        clear hn10 st9 cp9' c9 fr9
        go_wp2_with fail
        go_step3
        refine HX.out 0 (108 - t.vars.length) _ _ (by rw [HN.out]; omega) ?_
        have hlen8 := HL.out
        refine ⟨⟨rfl, rfl, rfl, rfl, rfl, rfl, rfl, rfl⟩, Br, _, _, _, st10, HE.out, ?_, ?_, ha10, ?_⟩
        · simp; omega
        · simp; try omega
        · rw [HG2.out, if_neg (by simp), if_neg hlen8]
          simp; try omega
    · rw [hq] at hc HG2
      go_wp2_with fail
      refine hc.mono ?_
      rintro e w4 ⟨rfl, rfl⟩
      go_wp2_with fail
      refine (wrong_any 181 Bp Br r.pos _ cp cr1).mono ?_
      rintro e w5 ⟨rfl, hb5⟩
      have st5 := st2.below hb5
      clear cp cr1 ct3 hc
      have z0 := st5.z0
      have z1 := st5.z1
      have z2 := st5.z2
      have z3 := st5.z3
      have z4 := st5.z4
      have fz0 := st5.fz 0
      have fz1 := st5.fz 1
      have fz2 := st5.fz 2
      have fz3 := st5.fz 3
      have fz4 := st5.fz 4
      have y0 := st5.y0
      have y1 := st5.y1
      have fy0 := st5.fy 0
      have fy1 := st5.fy 1
      go_wp2_with fail
      rw [HG2.out]
      exact ret_all st5 (bad 181 r) vnil vnil rfl rfl rfl (World.ownsRow_nil _ _ _ _) (World.ownsRow_nil _ _ _ _)
end Go.Proofs.YtjlfchnnhglbjaaGreat
