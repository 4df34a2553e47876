/- tag.Parse from the label 'keys' on. -/
import Derived.Test.YtjlfchnnhglbjaaGreatWrong
import Derived.Test.YtjlfchnnhglbjaaGreatKinds
set_option linter.unusedVariables false
set_option linter.unusedSimpArgs false
namespace Go.Proofs.YtjlfchnnhglbjaaGreat
open Go.RowKit Go.Lib Go.Sort

/-- what holds at a jump to a label; the number falls -/
def J (s : ByteArray) (B Bp : Nat) (w0 : World) (goal : Res) : Nat → Nat → Act → World → Prop
  | 0, n, a, w => Fr s B Bp a ∧ ∃ Br vv t r, St B Br Bp w0 w vv vnil t r ∧ t.keys = [] ∧ t.vars.length ≤ 8 ∧ n = 109 - t.vars.length ∧ r.all ≤ 128 ∧ goal = varsF (9 - t.vars.length) t r
  | 1, n, a, w => Fr s B Bp a ∧ ∃ Br vv kv t r, St B Br Bp w0 w vv kv t r ∧ t.keys.length ≤ 16 ∧ n = 17 - t.keys.length ∧ (t.keys.map (·.1)).Nodup ∧ (t.keys = [] → isKey r.sub = true) ∧ r.all ≤ 128 ∧ goal = keysF (17 - t.keys.length) t r
  | _, _, _, _ => False

def bodyOf (f : Func) (l : Nat) : Option Code := f.body.bind fun c => match c with | .seq _ (.scope c) => findLabel c l | _ => none

set_option maxRecDepth 100000 in
set_option maxHeartbeats 4000000 in
theorem keys_run (s : ByteArray) (B Bp : Nat) (w0 : World) (goal : Res) : ∃ rest, bodyOf Tryz.f71 1 = some (.seq .skip rest) ∧ ∀ n a w, J s B Bp w0 goal 1 n a w → ∀ Jx : Nat → Act → World → Prop, (∀ n' a' w', n' < n → J s B Bp w0 goal 1 n' a' w' → Jx 1 a' w') →
    rest.wp Tryz.prog (Exit.jumps Jx (bodyPost Tryz.prog Tryz.f71 (Parsed B w0 goal))) a w := by
  refine ⟨_, rfl, ?_⟩
  intro n a w hJ Jx hJx
  obtain ⟨hfr, Br, vv, kv, t, r, st, hk, hn, hnd, hke, hall, hg⟩ := hJ
  obtain ⟨u, rfl⟩ := hfr.lit
  obtain ⟨av, cv, rfl⟩ := own_sliceS st.os
  obtain ⟨ak, ck, rfl⟩ := own_sliceP st.op
  have HN := hid hn
  have HG := hid hg
  have HD := hid hnd
  have HX := hid hJx
  have HE := hid hke
  clear hke hn hg hnd hJx hfr
  have cp := st.cp
  have cr2 := st.cr2
  have cr4 := st.cr4
  have ct4 := st.ct4
  have hsub : r.sub.length ≤ 128 := by have := hall; unfold Rd.all at this; omega
  have hsz : (⟨r.sub.toArray⟩ : ByteArray).size ≤ 1000 := by rw [Lib.size_eq]; show r.sub.length ≤ 1000; omega
  have hik := isKey_any ⟨r.sub.toArray⟩
  change ∀ w : World, _ → Calls _ _ _ _ fun e w' => e = .returned (.bool (isKey r.sub)) ∧ _ at hik
  have e17 : 17 - t.keys.length = (16 - t.keys.length) + 1 := by omega
  cases hq : isKey r.sub
  · rw [hq] at hik
    have hg2 : goal = if r.fin then ⟨{ t with keys := srtK t.keys }, 0, 0⟩ else bad 180 r := by
      rw [HG.out, e17, keysF, hq]; rfl
    have HG2 := hid hg2
    have HQ := hid hq
    clear hg2 hq e17
    cases hf : r.fin
    · rw [hf] at cr4
      have HF := hid hf
      have cr1 := st.cr1
      clear hf
      go_wp2_with fail
      refine (hik _ hsz).mono ?_
      rintro e w1 ⟨rfl, rfl⟩
      go_wp2_with fail
      refine (wrong_any 180 Bp Br r.pos _ cp cr1).mono ?_
      rintro e w2 ⟨rfl, hb⟩
      have st2 := st.below hb
      have z0 := st2.z0
      have z1 := st2.z1
      have z2 := st2.z2
      have z3 := st2.z3
      have z4 := st2.z4
      have fz0 := st2.fz 0
      have fz1 := st2.fz 1
      have fz2 := st2.fz 2
      have fz3 := st2.fz 3
      have fz4 := st2.fz 4
      have y0 := st2.y0
      have y1 := st2.y1
      have fy0 := st2.fy 0
      have fy1 := st2.fy 1
      clear cp cr1 cr2 cr4 ct4 hik hall
      go_wp2_with fail
      rw [HG2.out, HF.out]
      exact ret_all st2 (bad 180 r) vnil vnil rfl rfl rfl (World.ownsRow_nil _ _ _ _) (World.ownsRow_nil _ _ _ _)
    · rw [hf] at cr4
      have HF := hid hf
      clear hf
      go_wp2_with fail
      refine (hik _ hsz).mono ?_
      rintro e w1 ⟨rfl, rfl⟩
      go_wp2_with fail
      refine (sortPairs_own _ B _ t.keys st.op (by omega) (fun e => by have := HE.out e; rw [HQ.out] at this; cases this)).mono ?_
      rintro e w2 ⟨rfl, ⟨l', hp1, hp2, op2⟩, hgr⟩
      have hl' : l' = srtK t.keys := srtK_one _ _ hp1 HD.out hp2
      have st2 := st.sortP op2 hgr
      rw [hl'] at st2
      clear hl' hp1 hp2 op2 hgr cp cr2 cr4 ct4 hik hall
      have z0 := st2.z0
      have z1 := st2.z1
      have z2 := st2.z2
      have z3 := st2.z3
      have z4 := st2.z4
      have fz0 := st2.fz 0
      have fz1 := st2.fz 1
      have fz2 := st2.fz 2
      have fz3 := st2.fz 3
      have fz4 := st2.fz 4
      have y0 := st2.y0
      have y1 := st2.y1
      have fy0 := st2.fy 0
      have fy1 := st2.fy 1
      have ct0 := st2.ct0
      have ct1 := st2.ct1
      have ct2 := st2.ct2
      have ct3 := st2.ct3
      have ct4 := st2.ct4
      go_wp2_with fail
      rw [HG2.out, HF.out]
      exact ret_all st2 ⟨{ t with keys := srtK t.keys }, 0, 0⟩ _ _ rfl rfl rfl st2.os st2.op
  · rw [hq] at hik
    obtain ⟨key, hkey⟩ : ∃ k, k = lower r.sub := ⟨_, rfl⟩
    have hlo := Lower_any ⟨r.sub.toArray⟩
    change ∀ w : World, _ → Calls _ _ _ _ fun e w' => e = .returned (.string ⟨(lower r.sub).toArray⟩) ∧ _ at hlo
    rw [← hkey] at hlo
    have hg2 : goal = if t.keys.any (fun p => p.1 == key) then bad 181 r
      else if t.keys.length = 16 then bad 3 r
      else keysF (16 - t.keys.length) { t with keys := t.keys ++ [(key, value (types 130 r.next []).1)] } (types 130 r.next []).2 := by
      rw [HG.out, e17, keysF, hq, if_pos rfl, ← hkey]
    have HG2 := hid hg2
    have HK := hid hkey
    clear hg2 hq e17 hkey
    go_wp2_with fail
    refine (hik _ hsz).mono ?_
    rintro e w1 ⟨rfl, rfl⟩
    go_wp2_with fail
    refine (hlo _ hsz).mono ?_
    rintro e w2 ⟨rfl, hb2⟩
    have st2 := st.below hb2
    have HS := hid hb2.size
    clear cp cr2 cr4 ct4 hik hlo hb2
    have ct4 := st2.ct4
    have lt1 : B + 2 < w2.heap.size := lt_of_block st2.ht
    go_wp2_with fail
    generalize hW3 : w2.alloc (.cells #[.string ⟨key.toArray⟩] 9) = w3
    have hW3' : St B Br Bp w0 w3 (.slice av t.vars.length cv) (.slice ak t.keys.length ck) t r ∧ w3.heap[w2.heap.size]? = some (.cells #[S key] 9 (0, 0)) := by
      rw [← hW3]
      exact ⟨st2.below ((Below.refl _ _).alloc (Nat.le_refl _) _), heap_alloc_new w2 _⟩
    obtain ⟨st3, hbk⟩ := hW3'
    obtain ⟨bk, hbk'⟩ : ∃ k, k = w2.heap.size := ⟨_, rfl⟩
    rw [← hbk'] at hbk ⊢
    clear hW3 ct4 lt1 hbk' HS st2 st
    have hc := hasKey_own w3 B (.slice ak t.keys.length ck) t.keys bk key st3.op hbk
    cases hq : t.keys.any fun p => p.1 == key
    · rw [hq] at hc HG2
      refine hc.mono ?_
      rintro e w4 ⟨rfl, hb4⟩
      have st4 := st3.below hb4
      have hbk4 : w4.heap[bk]? = some (.cells #[S key] 9 (0, 0)) := by rw [hb4.block _ (lt_of_block hbk)]; exact hbk
      clear hc hb4 hbk st3
      have ct4 := st4.ct4
      have cp := st4.cp
      have cr1 := st4.cr1
      by_cases hlen : t.keys.length = 16
      · have hl16 : ((t.keys.length : Int) == 16) = true := by simp; omega
        have HL := hid hlen
        clear hlen
        go_wp2_with fail
        refine (wrong_any 3 Bp Br r.pos _ cp cr1).mono ?_
        rintro e w5 ⟨rfl, hb5⟩
        have st5 := st4.below hb5
        clear cp cr1 ct4
        have z0 := st5.z0
        have z1 := st5.z1
        have z2 := st5.z2
        have z3 := st5.z3
        have z4 := st5.z4
        have fz0 := st5.fz 0
        have fz1 := st5.fz 1
        have fz2 := st5.fz 2
        have fz3 := st5.fz 3
        have fz4 := st5.fz 4
        have y0 := st5.y0
        have y1 := st5.y1
        have fy0 := st5.fy 0
        have fy1 := st5.fy 1
        go_wp2_with fail
        rw [HG2.out, if_neg (by simp), if_pos HL.out]
        exact ret_all st5 (bad 3 r) vnil vnil rfl rfl rfl (World.ownsRow_nil _ _ _ _) (World.ownsRow_nil _ _ _ _)
      · have hl16 : ((t.keys.length : Int) == 16) = false := by simp; omega
        have HL := hid hlen
        clear hlen
        go_wp2_with fail
        refine (st4.next hall).mono ?_
        rintro e w5 ⟨rfl, hn5⟩
        have st5 := st4.read hn5
        have hbk5 : w5.heap[bk]? = some (.cells #[S key] 9 (0, 0)) := by
          rw [hn5.2.block _ (lt_of_block hbk4) (fun e => ne_of_types hbk4 st4.hr (by decide) (Option.some.inj e))]; exact hbk4
        clear hn5 hbk4 st4 ct4 cp cr1
        go_wp2_with fail
        have ha5 : r.next.all ≤ 128 := by rw [Rd.next_all]; exact hall
        have HLow := st5.low
        have hbl := lt_of_block hbk5
        obtain ⟨B2, hB2⟩ : ∃ k, k = w5.heap.size := ⟨_, rfl⟩
        rw [← hB2] at HLow hbl
        have HB2 := hid hB2
        clear hB2
        go_loopg [9] 130 (fun g v9 wr => ∃ r' acc, St B Br Bp w0 wr (.slice av t.vars.length cv) (.slice ak t.keys.length ck) t r' ∧ wr.heap[bk]? = some (.cells #[S key] 9 (0, 0)) ∧ OwnS wr B2 v9 acc ∧ B2 ≤ wr.heap.size ∧ r'.all ≤ 128 ∧ types g r' acc = types 130 r.next [] ∧ (∀ y ∈ acc, y.length ≤ 128) ∧ (r'.rest.length + 2 ≤ g ∨ (isType r'.sub = false ∧ 1 ≤ g)) ∧ acc.length + g ≤ 130)
        case atStart => exact ⟨r.next, [], st5, hbk5, World.ownsRow_nil _ _ _ _, Nat.le_of_eq HB2.out, ha5, rfl, by simp, Or.inl (by unfold Rd.all at ha5; omega), by simp⟩
        case round =>
          obtain ⟨r', acc, st6, hbk6, own6, hB6, hall6, hty, hy8, hm, hacc⟩ := hrel
          have cp := st6.cp
          have cr2 := st6.cr2
          have hsub6 : r'.sub.length ≤ 128 := by have := hall6; unfold Rd.all at this; omega
          have hsz6 : (⟨r'.sub.toArray⟩ : ByteArray).size ≤ 1000 := by rw [Lib.size_eq]; show r'.sub.length ≤ 1000; omega
          have hit := isType_any ⟨r'.sub.toArray⟩
          change ∀ w : World, _ → Calls _ _ _ _ fun e w' => e = .returned (.bool (isType r'.sub)) ∧ _ at hit
          have HT := hid hty
          have HY8 := hid hy8
          clear hy8
          have HM := hid hm
          clear hty hm st5 hbk5
          cases hq2 : isType r'.sub
          · rw [hq2] at hit
            have HQ2 := hid hq2
            clear hq2
            go_wp2_with fail
            refine (hit _ hsz6).mono ?_
            rintro e w7 ⟨rfl, rfl⟩
            have hg1 : 1 ≤ gk := by rcases HM.out with h | h; omega; exact h.2
            have hend := types_end HT.out hg1 HQ2.out
            have HEnd := hid hend
            have hjl := join_len acc HY8.out
            have hj := join_own w7 B2 u9 acc own6 (by omega) (by omega)
            clear hend hit cp cr2 HT HM
            unfold S at hj
            generalize hjj : Lib.join acc [45] = j at *
            have HJ := hid hjj
            clear hjj
            go_wp2_with fail
            refine hj.mono ?_
            rintro e w8 ⟨rfl, hb8⟩
            have st8 := st6.below hb8
            have hbk8 : w8.heap[bk]? = some (.cells #[S key] 9 (0, 0)) := by rw [hb8.block _ (lt_of_block hbk6)]; exact hbk6
            clear hj hb8 st6 hbk6 own6
            have ct4 := st8.ct4
            have cbk := cell_of_one hbk8
            unfold S at cbk
            have hB8 : B ≤ w8.heap.size := Nat.le_of_lt (lt_of_block st8.h0)
            have hlb : bk < w8.heap.size := lt_of_block hbk8
            have hlt : B + 2 < w8.heap.size := lt_of_block st8.ht
            obtain ⟨i0, hi, hz0, hz1, hz2⟩ := info_parts infoP
            by_cases hT : j = tTrue
            · have hTb : (j == [116, 114, 117, 101]) = true := by rw [hT]; rfl
              have HT := hid hT
              clear hT
              have hval : value acc = [] := by unfold value; rw [HJ.out, if_pos HT.out]
              have HV := hid hval
              clear hval
              go_wp2_with (at_builtin; refine wpList_append_own _ rfl _ _ 43 rfl B 48 i0 (.agg #[.string ⟨#[]⟩, .string ⟨#[]⟩]) 2 32 Tryz.underlying43 hi hz0 hz1 hz2 rfl (by decide) _ _ _ rfl (World.ownsRow.alloc st8.op _) ⟨w8.heap.size, 0, none⟩ 1 1 [.string ⟨key.toArray⟩, .string ⟨#[]⟩] rfl rfl (cell_two_new _ _ _ _) ?d2t ?d3t ?d4t ?d5t ?_)
              case d2t => intro u hu; simp at hu; rcases hu with rfl | rfl <;> rfl
              case d3t => unfold maxLen; omega
              case d4t => omega
              case d5t => simp; omega
              intro kv9 w9 own9 hgr9 _
              have own9' : OwnP w9 B kv9 (t.keys ++ [(key, [])]) := by
                refine own_cast own9 (by simp) ?_
                simp [flat2, enc2, S]
              have st8' := st8.below ((Below.refl _ _).alloc (Nat.le_refl _) (.cells #[.string ⟨key.toArray⟩, .string ⟨#[]⟩] 48))
              have st9 := st8'.appP own9' hgr9
              have fr9 : w9.frozen? ⟨B + 2, 4, none⟩ = false := by
                have := frozen_of_row (w9.setCell ⟨B + 2, 4, none⟩ kv9) (B + 2) 4 _ _ st9.ht
                rwa [World.frozen?_setCell] at this
              have hl9 : B + 2 < w9.heap.size := by have := lt_of_block st9.ht; simpa using this
              obtain ⟨ao9, cp9, hk9⟩ := own_sliceP own9'
              simp only [List.length_append, List.length_cons, List.length_nil, Nat.zero_add] at hk9
              subst hk9
              have c9 : ∃ v, w9.cell? ⟨B + 2, 4, none⟩ = some v := by
                have hne : (Value.slice ak t.keys.length ck).ownBlock ≠ some (B + 2) := own_type st8.op st8.ht (by decide)
                rw [World.cell?_of_block (w := w8.alloc (.cells #[.string ⟨key.toArray⟩, .string ⟨#[]⟩] 48)) (hgr9.block (B + 2) (by simp; omega) (fun e => hne e.symm))]
                exact ⟨_, st8'.ct4⟩
              obtain ⟨v9, c9⟩ := c9
              clear own9 hgr9 own9' hi hz0 hz1 hz2 st8 st8' hbk8 cbk ct4
              go_wp2_with fail
              go_step3
              have hlen17 := HL.out
              have hgoal : goal = keysF (16 - t.keys.length) { t with keys := t.keys ++ [(key, [])] } r' := by
                rw [HG2.out, if_neg (by simp), if_neg HL.out, HEnd.out, HV.out]
              refine HX.out (16 - t.keys.length) _ _ (by rw [HN.out]; omega) ?_
              refine ⟨⟨rfl, rfl, rfl, rfl, rfl, rfl, rfl, rfl⟩, Br, _, _, _, _, st9, ?_, ?_, ?_, ?_, hall6, ?_⟩
              · simp; omega
              · simp; try omega
              · exact nodup_snoc hq HD.out
              · intro e; simp at e
              · rw [hgoal]; simp; try omega
            · have hTb : (j == [116, 114, 117, 101]) = false := by
                rw [beq_eq_false_iff_ne]; exact hT
              have HT := hid hT
              clear hT
              have hval : value acc = j := by unfold value; rw [HJ.out, if_neg HT.out]
              have HV := hid hval
              clear hval
              go_wp2_with (at_builtin; refine wpList_append_own _ rfl _ _ 43 rfl B 48 i0 (.agg #[.string ⟨#[]⟩, .string ⟨#[]⟩]) 2 32 Tryz.underlying43 hi hz0 hz1 hz2 rfl (by decide) _ _ _ rfl (World.ownsRow.alloc st8.op _) ⟨w8.heap.size, 0, none⟩ 1 1 [.string ⟨key.toArray⟩, .string ⟨j.toArray⟩] rfl rfl (cell_two_new _ _ _ _) ?d2f ?d3f ?d4f ?d5f ?_)
              case d2f => intro u hu; simp at hu; rcases hu with rfl | rfl <;> rfl
              case d3f => unfold maxLen; omega
              case d4f => omega
              case d5f => simp; omega
              intro kv9 w9 own9 hgr9 _
              have own9' : OwnP w9 B kv9 (t.keys ++ [(key, j)]) := by
                refine own_cast own9 (by simp) ?_
                simp [flat2, enc2, S]
              have st8' := st8.below ((Below.refl _ _).alloc (Nat.le_refl _) (.cells #[.string ⟨key.toArray⟩, .string ⟨j.toArray⟩] 48))
              have st9 := st8'.appP own9' hgr9
              have fr9 : w9.frozen? ⟨B + 2, 4, none⟩ = false := by
                have := frozen_of_row (w9.setCell ⟨B + 2, 4, none⟩ kv9) (B + 2) 4 _ _ st9.ht
                rwa [World.frozen?_setCell] at this
              have hl9 : B + 2 < w9.heap.size := by have := lt_of_block st9.ht; simpa using this
              obtain ⟨ao9, cp9, hk9⟩ := own_sliceP own9'
              simp only [List.length_append, List.length_cons, List.length_nil, Nat.zero_add] at hk9
              subst hk9
              have c9 : ∃ v, w9.cell? ⟨B + 2, 4, none⟩ = some v := by
                have hne : (Value.slice ak t.keys.length ck).ownBlock ≠ some (B + 2) := own_type st8.op st8.ht (by decide)
                rw [World.cell?_of_block (w := w8.alloc (.cells #[.string ⟨key.toArray⟩, .string ⟨j.toArray⟩] 48)) (hgr9.block (B + 2) (by simp; omega) (fun e => hne e.symm))]
                exact ⟨_, st8'.ct4⟩
              obtain ⟨v9, c9⟩ := c9
              clear own9 hgr9 own9' hi hz0 hz1 hz2 st8 st8' hbk8 cbk ct4
              go_wp2_with fail
              go_step3
              have hlen17 := HL.out
              have hgoal : goal = keysF (16 - t.keys.length) { t with keys := t.keys ++ [(key, j)] } r' := by
                rw [HG2.out, if_neg (by simp), if_neg HL.out, HEnd.out, HV.out]
              refine HX.out (16 - t.keys.length) _ _ (by rw [HN.out]; omega) ?_
              refine ⟨⟨rfl, rfl, rfl, rfl, rfl, rfl, rfl, rfl⟩, Br, _, _, _, _, st9, ?_, ?_, ?_, ?_, hall6, ?_⟩
              · simp; omega
              · simp; try omega
              · exact nodup_snoc hq HD.out
              · intro e; simp at e
              · rw [hgoal]; simp; try omega
          · rw [hq2] at hit
            have HQ2 := hid hq2
            clear hq2
            go_wp2_with fail
            refine (hit _ hsz6).mono ?_
            rintro e w7 ⟨rfl, rfl⟩
            go_wp2_with fail
            obtain ⟨x, hx⟩ : ∃ k, k = lower r'.sub := ⟨_, rfl⟩
            have hlo := Lower_any ⟨r'.sub.toArray⟩
            change ∀ w : World, _ → Calls _ _ _ _ fun e w' => e = .returned (.string ⟨(lower r'.sub).toArray⟩) ∧ _ at hlo
            rw [← hx] at hlo
            have HX' := hid hx
            clear hx
            refine (hlo _ hsz6).mono ?_
            rintro e w8 ⟨rfl, hb8⟩
            have st8 := st6.below hb8
            have own8 := own_below own6 hb8
            have hbk8 : w8.heap[bk]? = some (.cells #[S key] 9 (0, 0)) := by rw [hb8.block _ (lt_of_block hbk6)]; exact hbk6
            have hz8 := hb8.size
            clear hlo hit cp cr2 hb8 own6 st6 hbk6
            have cp := st8.cp
            have hB8 : B2 ≤ w8.heap.size := Nat.le_trans hB6 hz8
            have hlp : Bp < w8.heap.size := lt_of_block st8.hp
            obtain ⟨i0, hi, hz0, hz1, hz2⟩ := info_parts infoS
            go_wp2_with (at_builtin; refine wpList_append_own _ rfl _ _ 41 rfl B2 9 i0 (.string ⟨#[]⟩) 1 16 Tryz.underlying41 hi hz0 hz1 hz2 rfl (by decide) _ _ _ rfl (World.ownsRow.alloc own8 _) ⟨w8.heap.size, 0, none⟩ 1 1 [.string ⟨x.toArray⟩] rfl rfl (cell_one_new _ _ _) ?c2 ?c3 ?c4 ?c5 ?_)
            case c2 => intro u hu; simp at hu; subst hu; rfl
            case c3 => unfold maxLen; omega
            case c4 => omega
            case c5 => simp; omega
            intro v9' w9 own9 hgr9 _
            have hbel9 : Below B2 w8 w9 := ((Below.refl _ _).alloc hB8 _).grown hgr9 (by simp; omega) (fun k hk => (World.ownsRow.lt own8 k hk).1)
            have st9 := st8.above HLow hbel9
            have hbk9 : w9.heap[bk]? = some (.cells #[S key] 9 (0, 0)) := by rw [hbel9.block _ hbl]; exact hbk8
            have own9' : OwnS w9 B2 v9' (acc ++ [x]) := by
              unfold OwnS
              rw [List.length_append, List.map_append]
              exact own9
            have hz9 := hbel9.size
            clear own9 hgr9 hbel9 own8 cp hi hz0 hz1 hz2 st8 hbk8 hlp
            have cp := st9.cp
            have cr2 := st9.cr2
            go_wp2_with fail
            refine (st9.next hall6).mono ?_
            rintro e w10 ⟨rfl, hn10⟩
            have st10 := st9.read hn10
            have hbk10 : w10.heap[bk]? = some (.cells #[S key] 9 (0, 0)) := by
              rw [hn10.2.block _ (lt_of_block hbk9) (fun e => ne_of_types hbk9 st9.hr (by decide) (Option.some.inj e))]; exact hbk9
            have own10 : OwnS w10 B2 v9' (acc ++ [x]) := World.ownsRow.kept own9' hn10.2 (Or.inr (own_type own9' st9.hr (by decide)))
            have hz10 := hn10.2.size
            clear hn10 st9 cp cr2 hbk9 own9'
            go_wp2_with fail
            have hg2 : r'.rest.length + 2 ≤ gk := by rcases HM.out with h | h; exact h; rw [HQ2.out] at h; cases h.1
            go_roundg (gk - 1)
            case measure => omega
            case rel => exact ⟨r'.next, acc ++ [x], st10, hbk10, own10, by omega, by rw [Rd.next_all]; exact hall6, by rw [HX'.out]; exact types_step HT.out (by omega) HQ2.out, (by
                intro y hy
                rcases List.mem_append.1 hy with h | h
                · exact HY8.out y h
                · rw [List.mem_singleton.1 h, HX'.out, lower_length]; exact hsub6), types_inv hg2, by simp; omega⟩
    · rw [hq] at hc HG2
      refine hc.mono ?_
      rintro e w4 ⟨rfl, hb4⟩
      have st4 := st3.below hb4
      clear hc hb4 hbk st3
      have cp := st4.cp
      have cr1 := st4.cr1
      go_wp2_with fail
      refine (wrong_any 181 Bp Br r.pos _ cp cr1).mono ?_
      rintro e w5 ⟨rfl, hb5⟩
      have st5 := st4.below hb5
      clear cp cr1
      have z0 := st5.z0
      have z1 := st5.z1
      have z2 := st5.z2
      have z3 := st5.z3
      have z4 := st5.z4
      have fz0 := st5.fz 0
      have fz1 := st5.fz 1
      have fz2 := st5.fz 2
      have fz3 := st5.fz 3
      have fz4 := st5.fz 4
      have y0 := st5.y0
      have y1 := st5.y1
      have fy0 := st5.fy 0
      have fy1 := st5.fy 1
      go_wp2_with fail
      rw [HG2.out]
      exact ret_all st5 (bad 181 r) vnil vnil rfl rfl rfl (World.ownsRow_nil _ _ _ _) (World.ownsRow_nil _ _ _ _)
end Go.Proofs.YtjlfchnnhglbjaaGreat
