/- RefParse -/
import Derived.Test.YtjlfchnnhglbjaaGreatWR2
import Derived.Deep.Cut
set_option linter.unusedVariables false
set_option linter.unusedSimpArgs false
namespace Go.Proofs.YtjlfchnnhglbjaaGreat
open Go.RowKit Go.Lib Go.Sort
theorem capS_nil : capS vnil := fun ao n cp e => by cases e; exact Nat.le_refl _
theorem rx_size (x : Str) (h : x.length ≤ 128) : (⟨x.toArray⟩ : ByteArray).size ≤ 1000 := by rw [Lib.size_eq]; show x.length ≤ 1000; omega
theorem kb_up {l : List (Str × Str)} {n : Nat} (h : ∀ p ∈ l, p.2.length ≤ n * 130) : ∀ p ∈ l, p.2.length ≤ (n + 1) * 130 := fun p hp => by have := h p hp; omega
theorem kb_new {l : List (Str × Str)} {n : Nat} (h : ∀ p ∈ l, p.2.length ≤ n * 130) (k : Str) : ∀ p ∈ l ++ [(k, [])], p.2.length ≤ (n + 1) * 130 := fun p hp => by
 rcases List.mem_append.1 hp with hp | hp
 ·exact kb_up h p hp
 ·rw [List.mem_singleton.1 hp]; simp
theorem kb_set {l ks : List (Str × Str)} {n : Nat} {k v x : Str} (hl : l = ks ++ [(k, v)]) (h : ∀ p ∈ l, p.2.length ≤ n * 130) (hx : x.length ≤ (n + 1) * 130) : ∀ p ∈ ks ++ [(k, x)], p.2.length ≤ (n + 1) * 130 := fun p hp => by
 rcases List.mem_append.1 hp with hp | hp
 ·exact kb_up h p (by rw [hl]; exact List.mem_append_left _ hp)
 ·rw [List.mem_singleton.1 hp]; exact hx
theorem putF_len : ∀ (l : List Str) (s : Str), (putF l s).length = l.length + 1
 | [], s => rfl
 | x :: l, s => by simp only [putF]; split <;> simp [putF_len l s]
theorem snoc_of {l : List (Str × Str)} (h : l ≠ []) : ∃ ks p, l = ks ++ [p] := ⟨l.dropLast, l.getLast h, (List.dropLast_concat_getLast h).symm⟩
theorem cutS_ne (p : Nat) (l : Str) : cutS p l ≠ [] := by rw [cutS_eq]; simp
set_option maxRecDepth 100000 in
set_option maxHeartbeats 64000000 in
theorem rparse_any (s : ByteArray) (w : World) (hs : s.size ≤ maxLen) :
  Calls Tryz.prog 75 #[.string s] w fun e w' => RefOut w (refF s.data.toList) e w' := by
 have hsl : s.data.toList.length = s.size := by simp
 have hw0 : Below w.heap.size w (((w.alloc (.cells #[.string ⟨#[]⟩, .string ⟨#[]⟩, .string ⟨#[]⟩, .slice none 0 0, .slice none 0 0] 108)).alloc (.cells #[.int .i64 0, .int .i64 0] 99)).alloc (.cells #[.string ⟨#[]⟩, .string ⟨#[]⟩, .string ⟨#[]⟩, .slice none 0 0, .slice none 0 0] 108)) := (((Below.refl _ _).alloc (Nat.le_refl _) _).alloc (by simp) _).alloc (by simp; omega) _
 have hr0 : (((w.alloc (.cells #[.string ⟨#[]⟩, .string ⟨#[]⟩, .string ⟨#[]⟩, .slice none 0 0, .slice none 0 0] 108)).alloc (.cells #[.int .i64 0, .int .i64 0] 99)).alloc (.cells #[.string ⟨#[]⟩, .string ⟨#[]⟩, .string ⟨#[]⟩, .slice none 0 0, .slice none 0 0] 108)).heap[w.heap.size]? = some (.cells #[.string ⟨#[]⟩, .string ⟨#[]⟩, .string ⟨#[]⟩, .slice none 0 0, .slice none 0 0] 108 (0, 0)) := by
  rw [heap_alloc_old _ _ (by simp; omega), heap_alloc_old _ _ (by simp)]; exact heap_alloc_new w _
 have hr1 : (((w.alloc (.cells #[.string ⟨#[]⟩, .string ⟨#[]⟩, .string ⟨#[]⟩, .slice none 0 0, .slice none 0 0] 108)).alloc (.cells #[.int .i64 0, .int .i64 0] 99)).alloc (.cells #[.string ⟨#[]⟩, .string ⟨#[]⟩, .string ⟨#[]⟩, .slice none 0 0, .slice none 0 0] 108)).heap[w.heap.size + 1]? = some (.cells #[.int .i64 0, .int .i64 0] 99 (0, 0)) := by
  rw [heap_alloc_old _ _ (by simp)]; simpa using heap_alloc_new (w.alloc (.cells #[.string ⟨#[]⟩, .string ⟨#[]⟩, .string ⟨#[]⟩, .slice none 0 0, .slice none 0 0] 108)) (.cells #[.int .i64 0, .int .i64 0] 99)
 have hr2 : (((w.alloc (.cells #[.string ⟨#[]⟩, .string ⟨#[]⟩, .string ⟨#[]⟩, .slice none 0 0, .slice none 0 0] 108)).alloc (.cells #[.int .i64 0, .int .i64 0] 99)).alloc (.cells #[.string ⟨#[]⟩, .string ⟨#[]⟩, .string ⟨#[]⟩, .slice none 0 0, .slice none 0 0] 108)).heap[w.heap.size + 1 + 1]? = some (.cells #[.string ⟨#[]⟩, .string ⟨#[]⟩, .string ⟨#[]⟩, .slice none 0 0, .slice none 0 0] 108 (0, 0)) := by
  simpa using heap_alloc_new ((w.alloc (.cells #[.string ⟨#[]⟩, .string ⟨#[]⟩, .string ⟨#[]⟩, .slice none 0 0, .slice none 0 0] 108)).alloc (.cells #[.int .i64 0, .int .i64 0] 99)) (.cells #[.string ⟨#[]⟩, .string ⟨#[]⟩, .string ⟨#[]⟩, .slice none 0 0, .slice none 0 0] 108)
 by_cases h1 : 128 < s.size
 ·have hrf : refF s.data.toList = ⟨Tg.zero, 3, 0⟩ := by unfold refF; rw [if_pos (by rw [hsl]; exact h1)]
  generalize refF s.data.toList = X at *
  subst hrf
  clear hw0 hr0 hr1 hr2
  go_enter Tryz.func75, Tryz.ntmps75
  go_wp2_with fail
  refine bodyPost_ret (v := .tuple #[.agg (tagCells Tg.zero vnil vnil), .agg #[.int .i64 (3 : Nat), .int .i64 (0 : Nat)]]) (by simp [results, Tryz.results75, go_sem, tagCells, Tg.zero, vnil, S]) rfl ⟨vnil, vnil, rfl, ⟨RdS.nil _, capS_nil⟩, RdP.nil _, ?_⟩
  exact (((Below.refl _ _).alloc (Nat.le_refl _) _).alloc (by simp) _).alloc (by simp; omega) _
 ·have LO := hid (fun W => rLow_any s W (by omega))
  by_cases h2 : lower s.data.toList = tRoot
  ·have hrf : refF s.data.toList = ⟨Tg.zero, 0, 0⟩ := by unfold refF; rw [if_neg (by rw [hsl]; exact h1), if_pos h2]
   generalize refF s.data.toList = X at *
   rw [h2] at LO
   have HW0 := hid hw0
   have HR0 := hid hr0
   have HR1 := hid hr1
   have HR2 := hid hr2
   clear hw0 hr0 hr1 hr2 h2
   go_enter Tryz.func75, Tryz.ntmps75
   go_wp2_with fail
   refine (LO.out _).mono ?_
   rintro e w1 ⟨rfl, hb1⟩
   have hr0 := (hb1.block _ (by simp; omega)).trans HR0.out
   have hr1 := (hb1.block _ (by simp)).trans HR1.out
   have hr2 := (hb1.block _ (by simp)).trans HR2.out
   have hbt : (tRoot == [114, 111, 111, 116]) = true := by decide
   obtain ⟨z0, z1, z2, z3, z4⟩ := box_cells hr0
   have y0 : w1.cell? ⟨w.heap.size + 1, 0, none⟩ = some (.int .i64 0) := cell_of_row _ _ _ _ _ _ hr1
   have y1 : w1.cell? ⟨w.heap.size + 1, 1, none⟩ = some (.int .i64 0) := cell_of_row _ _ _ _ _ _ hr1
   have fz0 := frozen_of_row w1 w.heap.size 0 _ _ hr0
   have fz1 := frozen_of_row w1 w.heap.size 1 _ _ hr0
   have fz2 := frozen_of_row w1 w.heap.size 2 _ _ hr0
   have fz3 := frozen_of_row w1 w.heap.size 3 _ _ hr0
   have fz4 := frozen_of_row w1 w.heap.size 4 _ _ hr0
   have fy0 := frozen_of_row w1 (w.heap.size + 1) 0 _ _ hr1
   have fy1 := frozen_of_row w1 (w.heap.size + 1) 1 _ _ hr1
   obtain ⟨m0, m1, m2, m3, m4⟩ := box_cells hr2
   have lz := lt_of_block hr0
   have ly := lt_of_block hr1
   have lm := lt_of_block hr2
   have Q0 := hid hr0
   have Q1 := hid hr1
   have QB := hid (HW0.out.then hb1)
   clear hr0 hr1 hr2 hb1
   go_wp2_with fail
   change bodyPost _ _ _ _ _ (retW w1 w.heap.size ⟨Tg.zero, 0, 0⟩ vnil vnil)
   exact rret (w := w) ⟨Tg.zero, 0, 0⟩ vnil vnil hrf.symm Q0.out Q1.out QB.out (World.ownsRow_nil _ _ _ _) (World.ownsRow_nil _ _ _ _) rfl rfl rfl
  ·have SPL := hid (fun W => rsplit_any s W (by omega))
   have hrf : refF s.data.toList = refL s.size finT 2 Tg.zero (cutS 0 s.data.toList) := by
    unfold refF; rw [if_neg (by rw [hsl]; exact h1), if_neg h2, hsl]
   have hsh : ∀ q ∈ cutS 0 s.data.toList, q.1.length ≤ 128 := fun q hq => by have := cutU_short _ _ _ q hq; omega
   have hne := cutS_ne 0 s.data.toList
   have hul9 : (cutS 0 s.data.toList).length ≤ 129 := by have := cutU_len (s.data.toList.length + 1) 0 s.data.toList; unfold cutS; omega
   generalize hlo : lower s.data.toList = lo at *
   generalize cutS 0 s.data.toList = us at *
   generalize refF s.data.toList = X at *
   have hb : (lo == [114, 111, 111, 116]) = false := by rw [beq_eq_false_iff_ne]; exact h2
   have HRF := hid hrf
   have HSH := hid hsh
   clear hrf hsh h2 hlo
   have HW0 := hid hw0
   have HR0 := hid hr0
   have HR1 := hid hr1
   have HR2 := hid hr2
   clear hw0 hr0 hr1 hr2
   go_enter Tryz.func75, Tryz.ntmps75
   go_wp2_with fail
   refine (LO.out _).mono ?_
   rintro e w1 ⟨rfl, hb1⟩
   go_wp2_with fail
   refine (SPL.out _).mono ?_
   rintro e w2 ⟨sv, rfl, ou, hb2⟩
   have hb02 := hb1.then hb2
   have hr0 := (hb02.block _ (by simp; omega)).trans HR0.out
   have hr1 := (hb02.block _ (by simp)).trans HR1.out
   have hr2 := (hb02.block _ (by simp)).trans HR2.out
   have hw2 := HW0.out.then hb02
   obtain ⟨g, cp, rfl, hgl, hul, huc⟩ := OwnU.rd ou hne
   have HUC := hid huc
   have HR0 := hid hr0
   have HR1 := hid hr1
   have HW2 := hid hw2
   have hsz2 := lt_of_block hr2
   obtain ⟨n0, n1, n2, n3, n4⟩ := box_cells hr2
   have HR2 := hid hr2
   clear hb1 hb2 hb02 hr0 hr1 hr2 hw2 ou huc HW0 SPL LO
   have rs0 : RS w2 (w2.alloc (.cells #[.string ⟨#[]⟩, .string ⟨#[]⟩, .string ⟨#[]⟩, .slice none 0 0, .slice none 0 0] 108)) Tg.zero vnil vnil := ⟨heap_alloc_new w2 _, World.ownsRow_nil _ _ _ _, World.ownsRow_nil _ _ _ _, (Below.refl _ _).alloc (Nat.le_refl _) _⟩
   have HRS0 := hid rs0
   clear rs0
   go_wp2_with fail
   go_loopg [7, 8] us.length (fun gm vs vi W => ∃ (n st : Nat) (t : Tg) (vv kv : Value), n ≤ us.length ∧ us.length ≤ n + gm ∧ vs = .int .i64 st ∧ vi = .int .i64 n ∧ RS w2 W t vv kv ∧
    refL s.size finT st t (us.drop n) = X ∧ (st = 2 ∨ st = 4 ∨ st = 8 ∨ st = 16 ∨ st = 32 ∨ st = 64) ∧ t.vars.length ≤ 8 ∧ t.keys.length ≤ 16 ∧ (t.keys.map (·.1)).Nodup ∧ (st = 64 → t.keys ≠ []) ∧ ∀ p ∈ t.keys, p.2.length ≤ n * 130)
   case atStart => exact ⟨0, 2, Tg.zero, vnil, vnil, Nat.zero_le _, by omega, rfl, rfl, HRS0.out, by rw [List.drop_zero]; exact HRF.out.symm, Or.inl rfl, by decide, by decide, by decide, (fun h => by cases h), fun p hp => absurd hp (by simp [Tg.zero])⟩
   case round =>
    obtain ⟨n, st, t, vv, kv, hn, hg, rfl, rfl, rs, hX, hst, hv8, hkl16, hnd, h64, hkb⟩ := hrel
    have HKB := hid hkb
    clear hkb
    have HG := hid hg
    have HRS := hid rs
    have HND := hid hnd
    have hlow := rs.low
    clear hg rs hnd HRS0
    by_cases hlt : n < us.length
    ·obtain ⟨x, at_, hx⟩ : ∃ a b, us[n] = (a, b) := ⟨_, _, rfl⟩
     have hxl : x.length ≤ 128 := by have := HSH.out us[n] (List.getElem_mem _); rw [hx] at this; exact this
     rw [List.drop_eq_getElem_cons hlt, hx] at hX
     simp only [refL] at hX
     have u0 : wr.cell? ⟨g, n * 2, none⟩ = some (.string ⟨x.toArray⟩) := (HRS.out.bel.cell (p := ⟨g, n * 2, none⟩) hgl).trans (by have := (HUC.out n hlt).1; rw [hx] at this; exact this)
     have u1 : wr.cell? ⟨g, n * 2 + 1, none⟩ = some (.int .i64 (at_ : Int)) := (HRS.out.bel.cell (p := ⟨g, n * 2 + 1, none⟩) hgl).trans (by have := (HUC.out n hlt).2; rw [hx] at this; exact this)
     have KI := hid (fun W => rKinds_any ⟨x.toArray⟩ W (rx_size x hxl))
     have LX := hid (fun W => rLow_any ⟨x.toArray⟩ W (rx_size x hxl))
     rw [show (⟨x.toArray⟩ : ByteArray).data.toList = x from rfl] at KI LX
     have FL := hid (flags x)
     generalize hkk : ((kindsF x : Nat) : Int) = kk at *
     obtain ⟨lx, hlx⟩ : ∃ y, y = lower x := ⟨_, rfl⟩
     rw [← hlx] at LX hX
     have HLX := hid hlx
     clear hlx hkk hx
     have hnb : n < 9223372036854775807 := by unfold maxLen at hul; omega
     go_wp2_with fail
     go_quiet (fail)
     go_wp2_with fail
     refine (KI.out _).mono ?_
     rintro e w3 ⟨rfl, hb3⟩
     go_wp2_with fail
     refine (LX.out _).mono ?_
     rintro e w4 ⟨rfl, hb4⟩
     have hb13 : Below wr.heap.size wr w3 := (below_drewN (Below.refl wr.heap.size wr) nq).trans hb3
     have rs4 := HRS.out.below (hb13.then hb4)
     have hlow4 := rs4.low
     have hsz4 : w2.heap.size ≤ w4.heap.size := Nat.le_of_lt hlow4
     clear hb3 hb4 hb13 u0 u1 KI LX HRS hlow
     have HR4 := hid rs4
     have HX := hid hX
     clear rs4 hX
     obtain ⟨av, cv, rfl⟩ := own_sliceS HR4.out.os
     obtain ⟨ak, ck, rfl⟩ := own_sliceP HR4.out.op
     rcases hst with rfl | rfl | rfl | rfl | rfl | rfl
     ·by_cases hq2 : isLang x = true
      ·as_aux_lemma =>
        have hk2 : bits BinOp.and IntKind.i64 kk 2 = 2 := by rw [FL.out.f2]; simp [fl, hq2]
        have hX2 := HX.out
        rw [if_pos rfl, if_pos hq2] at hX2
        have HERR := hid (HR4.out.below ((Below.refl w4.heap.size w4).alloc (Nat.le_refl _) (.cells #[.int .i64 180, .int .i64 (at_ : Int)] 99)))
        have hlowE := HERR.out.low
        obtain ⟨c0, c1, c2, c3, c4⟩ := box_cells HR4.out.rt
        have fzt0 := frozen_of_row w4 w2.heap.size 0 _ _ HR4.out.rt
        have fzt1 := frozen_of_row w4 w2.heap.size 1 _ _ HR4.out.rt
        have fzt2 := frozen_of_row w4 w2.heap.size 2 _ _ HR4.out.rt
        have fzt3 := frozen_of_row w4 w2.heap.size 3 _ _ HR4.out.rt
        have fzt4 := frozen_of_row w4 w2.heap.size 4 _ _ HR4.out.rt
        by_cases hu : lx = tUnd
        ·have hub : (lx != [117, 110, 100]) = false := by rw [hu]; rfl
         have hub2 : (lx == [117, 110, 100]) = true := by rw [hu]; rfl
         rw [if_pos hu] at hX2
         clear hu
         go_wp2_with fail
         go_roundg (gk - 1)
         case measure => have := HG.out; omega
         case rel => exact ⟨n + 1, 4, t, (.slice av t.vars.length cv), (.slice ak t.keys.length ck), by omega, by have := HG.out; omega, by simp, by simp, HERR.out, hX2, by simp, hv8, hkl16, HND.out, fun h => absurd h (by decide), kb_up HKB.out⟩
        ·have hub : (lx != [117, 110, 100]) = true := by rw [bne_iff_ne]; exact hu
         have hub2 : (lx == [117, 110, 100]) = false := by rw [beq_eq_false_iff_ne]; exact hu
         rw [if_neg hu] at hX2
         clear hu
         go_wp2_with fail
         go_roundg (gk - 1)
         case measure => have := HG.out; omega
         case rel => exact ⟨n + 1, 4, { t with lang := lx }, (.slice av t.vars.length cv), (.slice ak t.keys.length ck), by omega, by have := HG.out; omega, by simp, by simp, (HR4.out.lang lx).below ((Below.refl _ _).alloc (Nat.le_refl _) _), hX2, by simp, hv8, hkl16, HND.out, fun h => absurd h (by decide), kb_up HKB.out⟩
      ·have hk2 : bits BinOp.and IntKind.i64 kk 2 = 0 := by rw [FL.out.f2]; simp [fl, hq2]
       have hX2 := HX.out
       rw [if_pos rfl, if_neg hq2] at hX2
       have HERR := hid (HR4.out.below ((Below.refl w4.heap.size w4).alloc (Nat.le_refl _) (.cells #[.int .i64 180, .int .i64 (at_ : Int)] 99)))
       have HBX := hid (heap_alloc_new w4 (.cells #[.int .i64 180, .int .i64 (at_ : Int)] 99))
       go_wp2_with fail
       generalize (w4.alloc (.cells #[.int .i64 180, .int .i64 (at_ : Int)] 99)) = w5 at *
       have hne : w4.heap.size ≠ w.heap.size := by have := HR4.out.low; have := HW2.out.size; omega
       refine err_region (.tmp 4) (.tmp 13) (.tmp 2) (.tmp 3) (.tmp 56) (.tmp 57) rfl rfl rfl rfl rfl rfl rfl rfl rfl rfl (by kernel_rfl) (by kernel_rfl) (by kernel_rfl) (by kernel_rfl) (by kernel_rfl) (by kernel_rfl) (by kernel_rfl) w.heap.size (w.heap.size + 1 + 1) w4.heap.size 180 (at_ : Int) _ _ _ _ _ _ _ ((HERR.out.bel.block _ (lt_of_block HR2.out)).trans HR2.out) HBX.out ((HERR.out.bel.block _ (lt_of_block HR0.out)).trans HR0.out) ((HERR.out.bel.block _ (lt_of_block HR1.out)).trans HR1.out) hne rfl rfl rfl rfl rfl rfl rfl rfl rfl rfl rfl rfl rfl rfl ?_ ?_ (by decide) (by omega)
       all_goals go_wp2_with fail
       all_goals change bodyPost _ _ _ _ _ (retW w5.drew w.heap.size ⟨Tg.zero, 180, at_⟩ vnil vnil)
       all_goals exact rret (w := w) (W := w5.drew) ⟨Tg.zero, 180, at_⟩ vnil vnil hX2 ((HERR.out.bel.block _ (lt_of_block HR0.out)).trans HR0.out) ((HERR.out.bel.block _ (lt_of_block HR1.out)).trans HR1.out) (HW2.out.then HERR.out.bel).drew (World.ownsRow_nil _ _ _ _) (World.ownsRow_nil _ _ _ _) rfl rfl rfl
     ·by_cases hq4 : isScript x = true
      ·as_aux_lemma =>
        have hk4 : bits BinOp.and IntKind.i64 kk 4 = 4 := by rw [FL.out.f4]; simp [fl, hq4]
        have hX2 := HX.out
        rw [if_neg (by decide), if_pos ⟨by decide, hq4⟩] at hX2
        have HERR := hid (HR4.out.below ((Below.refl w4.heap.size w4).alloc (Nat.le_refl _) (.cells #[.int .i64 180, .int .i64 (at_ : Int)] 99)))
        have hlowE := HERR.out.low
        obtain ⟨c0, c1, c2, c3, c4⟩ := box_cells HR4.out.rt
        have fzt0 := frozen_of_row w4 w2.heap.size 0 _ _ HR4.out.rt
        have fzt1 := frozen_of_row w4 w2.heap.size 1 _ _ HR4.out.rt
        have fzt2 := frozen_of_row w4 w2.heap.size 2 _ _ HR4.out.rt
        have fzt3 := frozen_of_row w4 w2.heap.size 3 _ _ HR4.out.rt
        have fzt4 := frozen_of_row w4 w2.heap.size 4 _ _ HR4.out.rt
        have TI := hid (fun W => rTitle_any ⟨x.toArray⟩ W (rx_size x hxl) (by have := (script_clean hq4).2; rw [Lib.size_eq]; show 0 < x.length; omega))
        rw [show (⟨x.toArray⟩ : ByteArray).data.toList = x from rfl] at TI
        generalize title x = tx at *
        go_wp2_with fail
        refine (TI.out _).mono ?_
        rintro e w6 ⟨rfl, hb6⟩
        clear c0 c1 c2 c3 c4 fzt0 fzt1 fzt2 fzt3 fzt4
        have H6 := hid (HERR.out.below hb6)
        have hlow6 := H6.out.low
        obtain ⟨c0, c1, c2, c3, c4⟩ := box_cells H6.out.rt
        have fzt1 := frozen_of_row w6 w2.heap.size 1 _ _ H6.out.rt
        clear hb6
        go_wp2_with fail
        go_roundg (gk - 1)
        case measure => have := HG.out; omega
        case rel => exact ⟨n + 1, 8, { t with script := tx }, (.slice av t.vars.length cv), (.slice ak t.keys.length ck), by omega, by have := HG.out; omega, by simp, by simp, H6.out.script tx, hX2, by simp, hv8, hkl16, HND.out, fun h => absurd h (by decide), kb_up HKB.out⟩
      ·have hk4 : bits BinOp.and IntKind.i64 kk 4 = 0 := by rw [FL.out.f4]; simp [fl, hq4]
       by_cases hq8 : isRegion x = true
       ·as_aux_lemma =>
         have hk8 : bits BinOp.and IntKind.i64 kk 8 = 8 := by rw [FL.out.f8]; simp [fl, hq8]
         have hX2 := HX.out
         rw [if_neg (by decide), if_neg (fun h => hq4 h.2), if_pos ⟨by decide, hq8⟩] at hX2
         have HERR := hid (HR4.out.below ((Below.refl w4.heap.size w4).alloc (Nat.le_refl _) (.cells #[.int .i64 180, .int .i64 (at_ : Int)] 99)))
         have hlowE := HERR.out.low
         obtain ⟨c0, c1, c2, c3, c4⟩ := box_cells HR4.out.rt
         have fzt0 := frozen_of_row w4 w2.heap.size 0 _ _ HR4.out.rt
         have fzt1 := frozen_of_row w4 w2.heap.size 1 _ _ HR4.out.rt
         have fzt2 := frozen_of_row w4 w2.heap.size 2 _ _ HR4.out.rt
         have fzt3 := frozen_of_row w4 w2.heap.size 3 _ _ HR4.out.rt
         have fzt4 := frozen_of_row w4 w2.heap.size 4 _ _ HR4.out.rt
         have TI := hid (fun W => rHigh_any ⟨x.toArray⟩ W (rx_size x hxl))
         rw [show (⟨x.toArray⟩ : ByteArray).data.toList = x from rfl] at TI
         generalize upper x = tx at *
         go_wp2_with fail
         refine (TI.out _).mono ?_
         rintro e w6 ⟨rfl, hb6⟩
         clear c0 c1 c2 c3 c4 fzt0 fzt1 fzt2 fzt3 fzt4
         have H6 := hid (HERR.out.below hb6)
         have hlow6 := H6.out.low
         obtain ⟨c0, c1, c2, c3, c4⟩ := box_cells H6.out.rt
         have fzt2 := frozen_of_row w6 w2.heap.size 2 _ _ H6.out.rt
         clear hb6
         go_wp2_with fail
         go_roundg (gk - 1)
         case measure => have := HG.out; omega
         case rel => exact ⟨n + 1, 16, { t with region := tx }, (.slice av t.vars.length cv), (.slice ak t.keys.length ck), by omega, by have := HG.out; omega, by simp, by simp, H6.out.region tx, hX2, by simp, hv8, hkl16, HND.out, fun h => absurd h (by decide), kb_up HKB.out⟩
       ·have hk8 : bits BinOp.and IntKind.i64 kk 8 = 0 := by rw [FL.out.f8]; simp [fl, hq8]
        by_cases hq16 : isVariant x = true
        ·as_aux_lemma =>
          have hk16 : bits BinOp.and IntKind.i64 kk 16 = 16 := by rw [FL.out.f16]; simp [fl, hq16]
          have hX2 := HX.out
          rw [if_neg (by decide), if_neg (fun h => hq4 h.2), if_neg (fun h => hq8 h.2), if_pos ⟨by decide, hq16⟩] at hX2
          have HERR := hid (HR4.out.below ((Below.refl w4.heap.size w4).alloc (Nat.le_refl _) (.cells #[.int .i64 180, .int .i64 (at_ : Int)] 99)))
          have hlowE := HERR.out.low
          obtain ⟨c0, c1, c2, c3, c4⟩ := box_cells HR4.out.rt
          have fzt0 := frozen_of_row w4 w2.heap.size 0 _ _ HR4.out.rt
          have fzt1 := frozen_of_row w4 w2.heap.size 1 _ _ HR4.out.rt
          have fzt2 := frozen_of_row w4 w2.heap.size 2 _ _ HR4.out.rt
          have fzt3 := frozen_of_row w4 w2.heap.size 3 _ _ HR4.out.rt
          have fzt4 := frozen_of_row w4 w2.heap.size 4 _ _ HR4.out.rt
          have HAS := hid (fun W (h : RdS W (.slice av t.vars.length cv) t.vars) => rhas_any W _ t.vars lx h (by omega))
          have hrd := HERR.out.os.rd
          by_cases hc : t.vars.contains lx = true
          ·rw [if_pos hc] at hX2
           rw [hc] at HAS
           go_wp2_with fail
           refine (HAS.out _ hrd).mono ?_
           rintro e w6 ⟨rfl, rfl⟩
           generalize (w4.alloc (.cells #[.int .i64 180, .int .i64 (at_ : Int)] 99)) = w5 at *
           have lz := lt_of_block ((HERR.out.bel.block _ (lt_of_block HR0.out)).trans HR0.out)
           have lm := lt_of_block ((HERR.out.bel.block _ (lt_of_block HR2.out)).trans HR2.out)
           obtain ⟨k0, k1, k2, k3, k4⟩ := box_cells HERR.out.rt
           go_upto_region 30 with (fail)
           refine wp_region_lit ?_
           refine wpList_load5 rfl (.tmp 4) rfl (w.heap.size + 1 + 1) _ _ _ _ _ rfl ((HERR.out.bel.block _ (lt_of_block HR2.out)).trans HR2.out) ?_
           refine wpList_move rfl (.tmp 10) rfl (.int .i64 (at_ : Int)) rfl ?_
           refine wpList_build2 rfl 106 181 rfl (at_ : Int) rfl ?_
           refine wpList_store5 rfl (.tmp 2) (.tmp 105) rfl rfl w.heap.size _ _ _ _ _ _ _ _ _ _ _ _ _ _ rfl rfl ((HERR.out.bel.block _ (lt_of_block HR0.out)).trans HR0.out) ?_
           refine wpList_store2 rfl (.tmp 3) (.tmp 107) rfl rfl (w.heap.size + 1) _ _ 181 (at_ : Int) rfl rfl ((P5_other _ _ _ _ _ (by omega)).trans ((HERR.out.bel.block _ (lt_of_block HR1.out)).trans HR1.out)) ?_
           go_wp2_with fail
           exact rret (w := w) ⟨Tg.zero, 181, at_⟩ vnil vnil hX2 ((HERR.out.bel.block _ (lt_of_block HR0.out)).trans HR0.out) ((HERR.out.bel.block _ (lt_of_block HR1.out)).trans HR1.out) (HW2.out.then HERR.out.bel) (World.ownsRow_nil _ _ _ _) (World.ownsRow_nil _ _ _ _) rfl rfl rfl
          ·rw [if_neg hc] at hX2
           have hc2 : t.vars.contains lx = false := Bool.eq_false_iff.2 hc
           rw [hc2] at HAS
           clear hc
           by_cases h8 : t.vars.length = 8
           ·rw [if_pos h8] at hX2
            have h8b : ((t.vars.length : Int) == 8) = true := by rw [h8]; rfl
            clear h8
            go_wp2_with fail
            refine (HAS.out _ hrd).mono ?_
            rintro e w6 ⟨rfl, rfl⟩
            generalize (w4.alloc (.cells #[.int .i64 180, .int .i64 (at_ : Int)] 99)) = w5 at *
            have lz := lt_of_block ((HERR.out.bel.block _ (lt_of_block HR0.out)).trans HR0.out)
            have lm := lt_of_block ((HERR.out.bel.block _ (lt_of_block HR2.out)).trans HR2.out)
            obtain ⟨k0, k1, k2, k3, k4⟩ := box_cells HERR.out.rt
            go_upto_region 32 with (fail)
            refine wp_region_lit ?_
            refine wpList_load5 rfl (.tmp 4) rfl (w.heap.size + 1 + 1) _ _ _ _ _ rfl ((HERR.out.bel.block _ (lt_of_block HR2.out)).trans HR2.out) ?_
            refine wpList_move rfl (.tmp 10) rfl (.int .i64 (at_ : Int)) rfl ?_
            refine wpList_build2 rfl 113 3 rfl (at_ : Int) rfl ?_
            refine wpList_store5 rfl (.tmp 2) (.tmp 112) rfl rfl w.heap.size _ _ _ _ _ _ _ _ _ _ _ _ _ _ rfl rfl ((HERR.out.bel.block _ (lt_of_block HR0.out)).trans HR0.out) ?_
            refine wpList_store2 rfl (.tmp 3) (.tmp 114) rfl rfl (w.heap.size + 1) _ _ 3 (at_ : Int) rfl rfl ((P5_other _ _ _ _ _ (by omega)).trans ((HERR.out.bel.block _ (lt_of_block HR1.out)).trans HR1.out)) ?_
            go_wp2_with fail
            exact rret (w := w) ⟨Tg.zero, 3, at_⟩ vnil vnil hX2 ((HERR.out.bel.block _ (lt_of_block HR0.out)).trans HR0.out) ((HERR.out.bel.block _ (lt_of_block HR1.out)).trans HR1.out) (HW2.out.then HERR.out.bel) (World.ownsRow_nil _ _ _ _) (World.ownsRow_nil _ _ _ _) rfl rfl rfl
           ·rw [if_neg h8] at hX2
            have h8b : ((t.vars.length : Int) == 8) = false := by rw [beq_eq_false_iff_ne]; omega
            have PUT := hid (fun W (h : RdS W (.slice av t.vars.length cv) t.vars) => rput_any W _ t.vars lx h (by omega))
            go_wp2_with fail
            refine (HAS.out _ hrd).mono ?_
            rintro e w6 ⟨rfl, hw6⟩
            subst hw6
            go_wp2_with fail
            refine (PUT.out _ hrd).mono ?_
            rintro e w7 ⟨v7, rfl, o7, hb7⟩
            have H7 := hid (HERR.out.vars hb7 o7)
            have H7b := hid (HERR.out.below hb7)
            have HPL := hid (putF_len t.vars lx)
            obtain ⟨av7, cv7, rfl⟩ := own_sliceS o7
            clear c0 c1 c2 c3 c4 fzt0 fzt1 fzt2 fzt3 fzt4 hb7 o7
            have hlow7 := H7b.out.low
            obtain ⟨c0, c1, c2, c3, c4⟩ := box_cells H7b.out.rt
            have fzt3 := frozen_of_row w7 w2.heap.size 3 _ _ H7b.out.rt
            go_wp2_with fail
            go_roundg (gk - 1)
            case measure => have := HG.out; omega
            case rel => exact ⟨n + 1, 16, { t with vars := putF t.vars lx }, _, (.slice ak t.keys.length ck), by omega, by have := HG.out; omega, by simp, by simp, H7.out, hX2, by simp, by show (putF t.vars lx).length ≤ 8; have := HPL.out; omega, hkl16, HND.out, fun h => absurd h (by decide), kb_up HKB.out⟩
        ·have hk16 : bits BinOp.and IntKind.i64 kk 16 = 0 := by rw [FL.out.f16]; simp [fl, hq16]
         by_cases hq32 : lx = [117]
         ·as_aux_lemma =>
           have hk32 : bits BinOp.and IntKind.i64 kk 32 = 32 := by rw [FL.out.f32, ← HLX.out]; simp [fl, hq32]
           have hX2 := HX.out
           rw [if_neg (by decide), if_neg (fun h => hq4 h.2), if_neg (fun h => hq8 h.2), if_neg (fun h => hq16 h.2), if_pos ⟨by decide, hq32⟩] at hX2
           have HERR := hid (HR4.out.below ((Below.refl w4.heap.size w4).alloc (Nat.le_refl _) (.cells #[.int .i64 180, .int .i64 (at_ : Int)] 99)))
           have hlowE := HERR.out.low
           obtain ⟨c0, c1, c2, c3, c4⟩ := box_cells HR4.out.rt
           have fzt0 := frozen_of_row w4 w2.heap.size 0 _ _ HR4.out.rt
           have fzt1 := frozen_of_row w4 w2.heap.size 1 _ _ HR4.out.rt
           have fzt2 := frozen_of_row w4 w2.heap.size 2 _ _ HR4.out.rt
           have fzt3 := frozen_of_row w4 w2.heap.size 3 _ _ HR4.out.rt
           have fzt4 := frozen_of_row w4 w2.heap.size 4 _ _ HR4.out.rt
           go_wp2_with fail
           go_roundg (gk - 1)
           case measure => have := HG.out; omega
           case rel => exact ⟨n + 1, 32, t, (.slice av t.vars.length cv), (.slice ak t.keys.length ck), by omega, by have := HG.out; omega, by simp, by simp, HERR.out, hX2, by simp, hv8, hkl16, HND.out, fun h => absurd h (by decide), kb_up HKB.out⟩
         ·have hk32 : bits BinOp.and IntKind.i64 kk 32 = 0 := by rw [FL.out.f32, ← HLX.out]; simp [fl, hq32]
          have hX2 := HX.out
          rw [if_neg (by decide), if_neg (fun h => hq4 h.2), if_neg (fun h => hq8 h.2), if_neg (fun h => hq16 h.2), if_neg (fun h => hq32 h.2), if_neg (fun h => absurd h.1 (by decide)), if_neg (fun h => absurd h.1 (by decide))] at hX2
          have HERR := hid (HR4.out.below ((Below.refl w4.heap.size w4).alloc (Nat.le_refl _) (.cells #[.int .i64 180, .int .i64 (at_ : Int)] 99)))
          have hlowE := HERR.out.low
          obtain ⟨c0, c1, c2, c3, c4⟩ := box_cells HR4.out.rt
          have fzt0 := frozen_of_row w4 w2.heap.size 0 _ _ HR4.out.rt
          have fzt1 := frozen_of_row w4 w2.heap.size 1 _ _ HR4.out.rt
          have fzt2 := frozen_of_row w4 w2.heap.size 2 _ _ HR4.out.rt
          have fzt3 := frozen_of_row w4 w2.heap.size 3 _ _ HR4.out.rt
          have fzt4 := frozen_of_row w4 w2.heap.size 4 _ _ HR4.out.rt
          have HBX := hid (heap_alloc_new w4 (.cells #[.int .i64 180, .int .i64 (at_ : Int)] 99))
          go_wp2_with fail
          generalize (w4.alloc (.cells #[.int .i64 180, .int .i64 (at_ : Int)] 99)) = w5 at *
          have hne : w4.heap.size ≠ w.heap.size := by have := HR4.out.low; have := HW2.out.size; omega
          refine err_region (.tmp 4) (.tmp 13) (.tmp 2) (.tmp 3) (.tmp 201) (.tmp 202) rfl rfl rfl rfl rfl rfl rfl rfl rfl rfl (by kernel_rfl) (by kernel_rfl) (by kernel_rfl) (by kernel_rfl) (by kernel_rfl) (by kernel_rfl) (by kernel_rfl) w.heap.size (w.heap.size + 1 + 1) w4.heap.size 180 (at_ : Int) _ _ _ _ _ _ _ ((HERR.out.bel.block _ (lt_of_block HR2.out)).trans HR2.out) HBX.out ((HERR.out.bel.block _ (lt_of_block HR0.out)).trans HR0.out) ((HERR.out.bel.block _ (lt_of_block HR1.out)).trans HR1.out) hne rfl rfl rfl rfl rfl rfl rfl rfl rfl rfl rfl rfl rfl rfl ?_ ?_ (by decide) (by omega)
          all_goals go_wp2_with fail
          all_goals change bodyPost _ _ _ _ _ (retW w5.drew w.heap.size ⟨Tg.zero, 180, at_⟩ vnil vnil)
          all_goals exact rret (w := w) (W := w5.drew) ⟨Tg.zero, 180, at_⟩ vnil vnil hX2 ((HERR.out.bel.block _ (lt_of_block HR0.out)).trans HR0.out) ((HERR.out.bel.block _ (lt_of_block HR1.out)).trans HR1.out) (HW2.out.then HERR.out.bel).drew (World.ownsRow_nil _ _ _ _) (World.ownsRow_nil _ _ _ _) rfl rfl rfl
     ·by_cases hq8 : isRegion x = true
      ·as_aux_lemma =>
        have hk8 : bits BinOp.and IntKind.i64 kk 8 = 8 := by rw [FL.out.f8]; simp [fl, hq8]
        have hX2 := HX.out
        rw [if_neg (by decide), if_neg (fun h => absurd h.1 (by decide)), if_pos ⟨by decide, hq8⟩] at hX2
        have HERR := hid (HR4.out.below ((Below.refl w4.heap.size w4).alloc (Nat.le_refl _) (.cells #[.int .i64 180, .int .i64 (at_ : Int)] 99)))
        have hlowE := HERR.out.low
        obtain ⟨c0, c1, c2, c3, c4⟩ := box_cells HR4.out.rt
        have fzt0 := frozen_of_row w4 w2.heap.size 0 _ _ HR4.out.rt
        have fzt1 := frozen_of_row w4 w2.heap.size 1 _ _ HR4.out.rt
        have fzt2 := frozen_of_row w4 w2.heap.size 2 _ _ HR4.out.rt
        have fzt3 := frozen_of_row w4 w2.heap.size 3 _ _ HR4.out.rt
        have fzt4 := frozen_of_row w4 w2.heap.size 4 _ _ HR4.out.rt
        have TI := hid (fun W => rHigh_any ⟨x.toArray⟩ W (rx_size x hxl))
        rw [show (⟨x.toArray⟩ : ByteArray).data.toList = x from rfl] at TI
        generalize upper x = tx at *
        go_wp2_with fail
        refine (TI.out _).mono ?_
        rintro e w6 ⟨rfl, hb6⟩
        clear c0 c1 c2 c3 c4 fzt0 fzt1 fzt2 fzt3 fzt4
        have H6 := hid (HERR.out.below hb6)
        have hlow6 := H6.out.low
        obtain ⟨c0, c1, c2, c3, c4⟩ := box_cells H6.out.rt
        have fzt2 := frozen_of_row w6 w2.heap.size 2 _ _ H6.out.rt
        clear hb6
        go_wp2_with fail
        go_roundg (gk - 1)
        case measure => have := HG.out; omega
        case rel => exact ⟨n + 1, 16, { t with region := tx }, (.slice av t.vars.length cv), (.slice ak t.keys.length ck), by omega, by have := HG.out; omega, by simp, by simp, H6.out.region tx, hX2, by simp, hv8, hkl16, HND.out, fun h => absurd h (by decide), kb_up HKB.out⟩
      ·have hk8 : bits BinOp.and IntKind.i64 kk 8 = 0 := by rw [FL.out.f8]; simp [fl, hq8]
       by_cases hq16 : isVariant x = true
       ·as_aux_lemma =>
         have hk16 : bits BinOp.and IntKind.i64 kk 16 = 16 := by rw [FL.out.f16]; simp [fl, hq16]
         have hX2 := HX.out
         rw [if_neg (by decide), if_neg (fun h => absurd h.1 (by decide)), if_neg (fun h => hq8 h.2), if_pos ⟨by decide, hq16⟩] at hX2
         have HERR := hid (HR4.out.below ((Below.refl w4.heap.size w4).alloc (Nat.le_refl _) (.cells #[.int .i64 180, .int .i64 (at_ : Int)] 99)))
         have hlowE := HERR.out.low
         obtain ⟨c0, c1, c2, c3, c4⟩ := box_cells HR4.out.rt
         have fzt0 := frozen_of_row w4 w2.heap.size 0 _ _ HR4.out.rt
         have fzt1 := frozen_of_row w4 w2.heap.size 1 _ _ HR4.out.rt
         have fzt2 := frozen_of_row w4 w2.heap.size 2 _ _ HR4.out.rt
         have fzt3 := frozen_of_row w4 w2.heap.size 3 _ _ HR4.out.rt
         have fzt4 := frozen_of_row w4 w2.heap.size 4 _ _ HR4.out.rt
         have HAS := hid (fun W (h : RdS W (.slice av t.vars.length cv) t.vars) => rhas_any W _ t.vars lx h (by omega))
         have hrd := HERR.out.os.rd
         by_cases hc : t.vars.contains lx = true
         ·rw [if_pos hc] at hX2
          rw [hc] at HAS
          go_wp2_with fail
          refine (HAS.out _ hrd).mono ?_
          rintro e w6 ⟨rfl, rfl⟩
          generalize (w4.alloc (.cells #[.int .i64 180, .int .i64 (at_ : Int)] 99)) = w5 at *
          have lz := lt_of_block ((HERR.out.bel.block _ (lt_of_block HR0.out)).trans HR0.out)
          have lm := lt_of_block ((HERR.out.bel.block _ (lt_of_block HR2.out)).trans HR2.out)
          obtain ⟨k0, k1, k2, k3, k4⟩ := box_cells HERR.out.rt
          go_upto_region 30 with (fail)
          refine wp_region_lit ?_
          refine wpList_load5 rfl (.tmp 4) rfl (w.heap.size + 1 + 1) _ _ _ _ _ rfl ((HERR.out.bel.block _ (lt_of_block HR2.out)).trans HR2.out) ?_
          refine wpList_move rfl (.tmp 10) rfl (.int .i64 (at_ : Int)) rfl ?_
          refine wpList_build2 rfl 106 181 rfl (at_ : Int) rfl ?_
          refine wpList_store5 rfl (.tmp 2) (.tmp 105) rfl rfl w.heap.size _ _ _ _ _ _ _ _ _ _ _ _ _ _ rfl rfl ((HERR.out.bel.block _ (lt_of_block HR0.out)).trans HR0.out) ?_
          refine wpList_store2 rfl (.tmp 3) (.tmp 107) rfl rfl (w.heap.size + 1) _ _ 181 (at_ : Int) rfl rfl ((P5_other _ _ _ _ _ (by omega)).trans ((HERR.out.bel.block _ (lt_of_block HR1.out)).trans HR1.out)) ?_
          go_wp2_with fail
          exact rret (w := w) ⟨Tg.zero, 181, at_⟩ vnil vnil hX2 ((HERR.out.bel.block _ (lt_of_block HR0.out)).trans HR0.out) ((HERR.out.bel.block _ (lt_of_block HR1.out)).trans HR1.out) (HW2.out.then HERR.out.bel) (World.ownsRow_nil _ _ _ _) (World.ownsRow_nil _ _ _ _) rfl rfl rfl
         ·rw [if_neg hc] at hX2
          have hc2 : t.vars.contains lx = false := Bool.eq_false_iff.2 hc
          rw [hc2] at HAS
          clear hc
          by_cases h8 : t.vars.length = 8
          ·rw [if_pos h8] at hX2
           have h8b : ((t.vars.length : Int) == 8) = true := by rw [h8]; rfl
           clear h8
           go_wp2_with fail
           refine (HAS.out _ hrd).mono ?_
           rintro e w6 ⟨rfl, rfl⟩
           generalize (w4.alloc (.cells #[.int .i64 180, .int .i64 (at_ : Int)] 99)) = w5 at *
           have lz := lt_of_block ((HERR.out.bel.block _ (lt_of_block HR0.out)).trans HR0.out)
           have lm := lt_of_block ((HERR.out.bel.block _ (lt_of_block HR2.out)).trans HR2.out)
           obtain ⟨k0, k1, k2, k3, k4⟩ := box_cells HERR.out.rt
           go_upto_region 32 with (fail)
           refine wp_region_lit ?_
           refine wpList_load5 rfl (.tmp 4) rfl (w.heap.size + 1 + 1) _ _ _ _ _ rfl ((HERR.out.bel.block _ (lt_of_block HR2.out)).trans HR2.out) ?_
           refine wpList_move rfl (.tmp 10) rfl (.int .i64 (at_ : Int)) rfl ?_
           refine wpList_build2 rfl 113 3 rfl (at_ : Int) rfl ?_
           refine wpList_store5 rfl (.tmp 2) (.tmp 112) rfl rfl w.heap.size _ _ _ _ _ _ _ _ _ _ _ _ _ _ rfl rfl ((HERR.out.bel.block _ (lt_of_block HR0.out)).trans HR0.out) ?_
           refine wpList_store2 rfl (.tmp 3) (.tmp 114) rfl rfl (w.heap.size + 1) _ _ 3 (at_ : Int) rfl rfl ((P5_other _ _ _ _ _ (by omega)).trans ((HERR.out.bel.block _ (lt_of_block HR1.out)).trans HR1.out)) ?_
           go_wp2_with fail
           exact rret (w := w) ⟨Tg.zero, 3, at_⟩ vnil vnil hX2 ((HERR.out.bel.block _ (lt_of_block HR0.out)).trans HR0.out) ((HERR.out.bel.block _ (lt_of_block HR1.out)).trans HR1.out) (HW2.out.then HERR.out.bel) (World.ownsRow_nil _ _ _ _) (World.ownsRow_nil _ _ _ _) rfl rfl rfl
          ·rw [if_neg h8] at hX2
           have h8b : ((t.vars.length : Int) == 8) = false := by rw [beq_eq_false_iff_ne]; omega
           have PUT := hid (fun W (h : RdS W (.slice av t.vars.length cv) t.vars) => rput_any W _ t.vars lx h (by omega))
           go_wp2_with fail
           refine (HAS.out _ hrd).mono ?_
           rintro e w6 ⟨rfl, hw6⟩
           subst hw6
           go_wp2_with fail
           refine (PUT.out _ hrd).mono ?_
           rintro e w7 ⟨v7, rfl, o7, hb7⟩
           have H7 := hid (HERR.out.vars hb7 o7)
           have H7b := hid (HERR.out.below hb7)
           have HPL := hid (putF_len t.vars lx)
           obtain ⟨av7, cv7, rfl⟩ := own_sliceS o7
           clear c0 c1 c2 c3 c4 fzt0 fzt1 fzt2 fzt3 fzt4 hb7 o7
           have hlow7 := H7b.out.low
           obtain ⟨c0, c1, c2, c3, c4⟩ := box_cells H7b.out.rt
           have fzt3 := frozen_of_row w7 w2.heap.size 3 _ _ H7b.out.rt
           go_wp2_with fail
           go_roundg (gk - 1)
           case measure => have := HG.out; omega
           case rel => exact ⟨n + 1, 16, { t with vars := putF t.vars lx }, _, (.slice ak t.keys.length ck), by omega, by have := HG.out; omega, by simp, by simp, H7.out, hX2, by simp, by show (putF t.vars lx).length ≤ 8; have := HPL.out; omega, hkl16, HND.out, fun h => absurd h (by decide), kb_up HKB.out⟩
       ·have hk16 : bits BinOp.and IntKind.i64 kk 16 = 0 := by rw [FL.out.f16]; simp [fl, hq16]
        by_cases hq32 : lx = [117]
        ·as_aux_lemma =>
          have hk32 : bits BinOp.and IntKind.i64 kk 32 = 32 := by rw [FL.out.f32, ← HLX.out]; simp [fl, hq32]
          have hX2 := HX.out
          rw [if_neg (by decide), if_neg (fun h => absurd h.1 (by decide)), if_neg (fun h => hq8 h.2), if_neg (fun h => hq16 h.2), if_pos ⟨by decide, hq32⟩] at hX2
          have HERR := hid (HR4.out.below ((Below.refl w4.heap.size w4).alloc (Nat.le_refl _) (.cells #[.int .i64 180, .int .i64 (at_ : Int)] 99)))
          have hlowE := HERR.out.low
          obtain ⟨c0, c1, c2, c3, c4⟩ := box_cells HR4.out.rt
          have fzt0 := frozen_of_row w4 w2.heap.size 0 _ _ HR4.out.rt
          have fzt1 := frozen_of_row w4 w2.heap.size 1 _ _ HR4.out.rt
          have fzt2 := frozen_of_row w4 w2.heap.size 2 _ _ HR4.out.rt
          have fzt3 := frozen_of_row w4 w2.heap.size 3 _ _ HR4.out.rt
          have fzt4 := frozen_of_row w4 w2.heap.size 4 _ _ HR4.out.rt
          go_wp2_with fail
          go_roundg (gk - 1)
          case measure => have := HG.out; omega
          case rel => exact ⟨n + 1, 32, t, (.slice av t.vars.length cv), (.slice ak t.keys.length ck), by omega, by have := HG.out; omega, by simp, by simp, HERR.out, hX2, by simp, hv8, hkl16, HND.out, fun h => absurd h (by decide), kb_up HKB.out⟩
        ·have hk32 : bits BinOp.and IntKind.i64 kk 32 = 0 := by rw [FL.out.f32, ← HLX.out]; simp [fl, hq32]
         have hX2 := HX.out
         rw [if_neg (by decide), if_neg (fun h => absurd h.1 (by decide)), if_neg (fun h => hq8 h.2), if_neg (fun h => hq16 h.2), if_neg (fun h => hq32 h.2), if_neg (fun h => absurd h.1 (by decide)), if_neg (fun h => absurd h.1 (by decide))] at hX2
         have HERR := hid (HR4.out.below ((Below.refl w4.heap.size w4).alloc (Nat.le_refl _) (.cells #[.int .i64 180, .int .i64 (at_ : Int)] 99)))
         have hlowE := HERR.out.low
         obtain ⟨c0, c1, c2, c3, c4⟩ := box_cells HR4.out.rt
         have fzt0 := frozen_of_row w4 w2.heap.size 0 _ _ HR4.out.rt
         have fzt1 := frozen_of_row w4 w2.heap.size 1 _ _ HR4.out.rt
         have fzt2 := frozen_of_row w4 w2.heap.size 2 _ _ HR4.out.rt
         have fzt3 := frozen_of_row w4 w2.heap.size 3 _ _ HR4.out.rt
         have fzt4 := frozen_of_row w4 w2.heap.size 4 _ _ HR4.out.rt
         have HBX := hid (heap_alloc_new w4 (.cells #[.int .i64 180, .int .i64 (at_ : Int)] 99))
         go_wp2_with fail
         generalize (w4.alloc (.cells #[.int .i64 180, .int .i64 (at_ : Int)] 99)) = w5 at *
         have hne : w4.heap.size ≠ w.heap.size := by have := HR4.out.low; have := HW2.out.size; omega
         refine err_region (.tmp 4) (.tmp 13) (.tmp 2) (.tmp 3) (.tmp 201) (.tmp 202) rfl rfl rfl rfl rfl rfl rfl rfl rfl rfl (by kernel_rfl) (by kernel_rfl) (by kernel_rfl) (by kernel_rfl) (by kernel_rfl) (by kernel_rfl) (by kernel_rfl) w.heap.size (w.heap.size + 1 + 1) w4.heap.size 180 (at_ : Int) _ _ _ _ _ _ _ ((HERR.out.bel.block _ (lt_of_block HR2.out)).trans HR2.out) HBX.out ((HERR.out.bel.block _ (lt_of_block HR0.out)).trans HR0.out) ((HERR.out.bel.block _ (lt_of_block HR1.out)).trans HR1.out) hne rfl rfl rfl rfl rfl rfl rfl rfl rfl rfl rfl rfl rfl rfl ?_ ?_ (by decide) (by omega)
         all_goals go_wp2_with fail
         all_goals change bodyPost _ _ _ _ _ (retW w5.drew w.heap.size ⟨Tg.zero, 180, at_⟩ vnil vnil)
         all_goals exact rret (w := w) (W := w5.drew) ⟨Tg.zero, 180, at_⟩ vnil vnil hX2 ((HERR.out.bel.block _ (lt_of_block HR0.out)).trans HR0.out) ((HERR.out.bel.block _ (lt_of_block HR1.out)).trans HR1.out) (HW2.out.then HERR.out.bel).drew (World.ownsRow_nil _ _ _ _) (World.ownsRow_nil _ _ _ _) rfl rfl rfl
     ·by_cases hq16 : isVariant x = true
      ·as_aux_lemma =>
        have hk16 : bits BinOp.and IntKind.i64 kk 16 = 16 := by rw [FL.out.f16]; simp [fl, hq16]
        have hX2 := HX.out
        rw [if_neg (by decide), if_neg (fun h => absurd h.1 (by decide)), if_neg (fun h => absurd h.1 (by decide)), if_pos ⟨by decide, hq16⟩] at hX2
        have HERR := hid (HR4.out.below ((Below.refl w4.heap.size w4).alloc (Nat.le_refl _) (.cells #[.int .i64 180, .int .i64 (at_ : Int)] 99)))
        have hlowE := HERR.out.low
        obtain ⟨c0, c1, c2, c3, c4⟩ := box_cells HR4.out.rt
        have fzt0 := frozen_of_row w4 w2.heap.size 0 _ _ HR4.out.rt
        have fzt1 := frozen_of_row w4 w2.heap.size 1 _ _ HR4.out.rt
        have fzt2 := frozen_of_row w4 w2.heap.size 2 _ _ HR4.out.rt
        have fzt3 := frozen_of_row w4 w2.heap.size 3 _ _ HR4.out.rt
        have fzt4 := frozen_of_row w4 w2.heap.size 4 _ _ HR4.out.rt
        have HAS := hid (fun W (h : RdS W (.slice av t.vars.length cv) t.vars) => rhas_any W _ t.vars lx h (by omega))
        have hrd := HERR.out.os.rd
        by_cases hc : t.vars.contains lx = true
        ·rw [if_pos hc] at hX2
         rw [hc] at HAS
         go_wp2_with fail
         refine (HAS.out _ hrd).mono ?_
         rintro e w6 ⟨rfl, rfl⟩
         generalize (w4.alloc (.cells #[.int .i64 180, .int .i64 (at_ : Int)] 99)) = w5 at *
         have lz := lt_of_block ((HERR.out.bel.block _ (lt_of_block HR0.out)).trans HR0.out)
         have lm := lt_of_block ((HERR.out.bel.block _ (lt_of_block HR2.out)).trans HR2.out)
         obtain ⟨k0, k1, k2, k3, k4⟩ := box_cells HERR.out.rt
         go_upto_region 30 with (fail)
         refine wp_region_lit ?_
         refine wpList_load5 rfl (.tmp 4) rfl (w.heap.size + 1 + 1) _ _ _ _ _ rfl ((HERR.out.bel.block _ (lt_of_block HR2.out)).trans HR2.out) ?_
         refine wpList_move rfl (.tmp 10) rfl (.int .i64 (at_ : Int)) rfl ?_
         refine wpList_build2 rfl 106 181 rfl (at_ : Int) rfl ?_
         refine wpList_store5 rfl (.tmp 2) (.tmp 105) rfl rfl w.heap.size _ _ _ _ _ _ _ _ _ _ _ _ _ _ rfl rfl ((HERR.out.bel.block _ (lt_of_block HR0.out)).trans HR0.out) ?_
         refine wpList_store2 rfl (.tmp 3) (.tmp 107) rfl rfl (w.heap.size + 1) _ _ 181 (at_ : Int) rfl rfl ((P5_other _ _ _ _ _ (by omega)).trans ((HERR.out.bel.block _ (lt_of_block HR1.out)).trans HR1.out)) ?_
         go_wp2_with fail
         exact rret (w := w) ⟨Tg.zero, 181, at_⟩ vnil vnil hX2 ((HERR.out.bel.block _ (lt_of_block HR0.out)).trans HR0.out) ((HERR.out.bel.block _ (lt_of_block HR1.out)).trans HR1.out) (HW2.out.then HERR.out.bel) (World.ownsRow_nil _ _ _ _) (World.ownsRow_nil _ _ _ _) rfl rfl rfl
        ·rw [if_neg hc] at hX2
         have hc2 : t.vars.contains lx = false := Bool.eq_false_iff.2 hc
         rw [hc2] at HAS
         clear hc
         by_cases h8 : t.vars.length = 8
         ·rw [if_pos h8] at hX2
          have h8b : ((t.vars.length : Int) == 8) = true := by rw [h8]; rfl
          clear h8
          go_wp2_with fail
          refine (HAS.out _ hrd).mono ?_
          rintro e w6 ⟨rfl, rfl⟩
          generalize (w4.alloc (.cells #[.int .i64 180, .int .i64 (at_ : Int)] 99)) = w5 at *
          have lz := lt_of_block ((HERR.out.bel.block _ (lt_of_block HR0.out)).trans HR0.out)
          have lm := lt_of_block ((HERR.out.bel.block _ (lt_of_block HR2.out)).trans HR2.out)
          obtain ⟨k0, k1, k2, k3, k4⟩ := box_cells HERR.out.rt
          go_upto_region 32 with (fail)
          refine wp_region_lit ?_
          refine wpList_load5 rfl (.tmp 4) rfl (w.heap.size + 1 + 1) _ _ _ _ _ rfl ((HERR.out.bel.block _ (lt_of_block HR2.out)).trans HR2.out) ?_
          refine wpList_move rfl (.tmp 10) rfl (.int .i64 (at_ : Int)) rfl ?_
          refine wpList_build2 rfl 113 3 rfl (at_ : Int) rfl ?_
          refine wpList_store5 rfl (.tmp 2) (.tmp 112) rfl rfl w.heap.size _ _ _ _ _ _ _ _ _ _ _ _ _ _ rfl rfl ((HERR.out.bel.block _ (lt_of_block HR0.out)).trans HR0.out) ?_
          refine wpList_store2 rfl (.tmp 3) (.tmp 114) rfl rfl (w.heap.size + 1) _ _ 3 (at_ : Int) rfl rfl ((P5_other _ _ _ _ _ (by omega)).trans ((HERR.out.bel.block _ (lt_of_block HR1.out)).trans HR1.out)) ?_
          go_wp2_with fail
          exact rret (w := w) ⟨Tg.zero, 3, at_⟩ vnil vnil hX2 ((HERR.out.bel.block _ (lt_of_block HR0.out)).trans HR0.out) ((HERR.out.bel.block _ (lt_of_block HR1.out)).trans HR1.out) (HW2.out.then HERR.out.bel) (World.ownsRow_nil _ _ _ _) (World.ownsRow_nil _ _ _ _) rfl rfl rfl
         ·rw [if_neg h8] at hX2
          have h8b : ((t.vars.length : Int) == 8) = false := by rw [beq_eq_false_iff_ne]; omega
          have PUT := hid (fun W (h : RdS W (.slice av t.vars.length cv) t.vars) => rput_any W _ t.vars lx h (by omega))
          go_wp2_with fail
          refine (HAS.out _ hrd).mono ?_
          rintro e w6 ⟨rfl, hw6⟩
          subst hw6
          go_wp2_with fail
          refine (PUT.out _ hrd).mono ?_
          rintro e w7 ⟨v7, rfl, o7, hb7⟩
          have H7 := hid (HERR.out.vars hb7 o7)
          have H7b := hid (HERR.out.below hb7)
          have HPL := hid (putF_len t.vars lx)
          obtain ⟨av7, cv7, rfl⟩ := own_sliceS o7
          clear c0 c1 c2 c3 c4 fzt0 fzt1 fzt2 fzt3 fzt4 hb7 o7
          have hlow7 := H7b.out.low
          obtain ⟨c0, c1, c2, c3, c4⟩ := box_cells H7b.out.rt
          have fzt3 := frozen_of_row w7 w2.heap.size 3 _ _ H7b.out.rt
          go_wp2_with fail
          go_roundg (gk - 1)
          case measure => have := HG.out; omega
          case rel => exact ⟨n + 1, 16, { t with vars := putF t.vars lx }, _, (.slice ak t.keys.length ck), by omega, by have := HG.out; omega, by simp, by simp, H7.out, hX2, by simp, by show (putF t.vars lx).length ≤ 8; have := HPL.out; omega, hkl16, HND.out, fun h => absurd h (by decide), kb_up HKB.out⟩
      ·have hk16 : bits BinOp.and IntKind.i64 kk 16 = 0 := by rw [FL.out.f16]; simp [fl, hq16]
       by_cases hq32 : lx = [117]
       ·as_aux_lemma =>
         have hk32 : bits BinOp.and IntKind.i64 kk 32 = 32 := by rw [FL.out.f32, ← HLX.out]; simp [fl, hq32]
         have hX2 := HX.out
         rw [if_neg (by decide), if_neg (fun h => absurd h.1 (by decide)), if_neg (fun h => absurd h.1 (by decide)), if_neg (fun h => hq16 h.2), if_pos ⟨by decide, hq32⟩] at hX2
         have HERR := hid (HR4.out.below ((Below.refl w4.heap.size w4).alloc (Nat.le_refl _) (.cells #[.int .i64 180, .int .i64 (at_ : Int)] 99)))
         have hlowE := HERR.out.low
         obtain ⟨c0, c1, c2, c3, c4⟩ := box_cells HR4.out.rt
         have fzt0 := frozen_of_row w4 w2.heap.size 0 _ _ HR4.out.rt
         have fzt1 := frozen_of_row w4 w2.heap.size 1 _ _ HR4.out.rt
         have fzt2 := frozen_of_row w4 w2.heap.size 2 _ _ HR4.out.rt
         have fzt3 := frozen_of_row w4 w2.heap.size 3 _ _ HR4.out.rt
         have fzt4 := frozen_of_row w4 w2.heap.size 4 _ _ HR4.out.rt
         go_wp2_with fail
         go_roundg (gk - 1)
         case measure => have := HG.out; omega
         case rel => exact ⟨n + 1, 32, t, (.slice av t.vars.length cv), (.slice ak t.keys.length ck), by omega, by have := HG.out; omega, by simp, by simp, HERR.out, hX2, by simp, hv8, hkl16, HND.out, fun h => absurd h (by decide), kb_up HKB.out⟩
       ·have hk32 : bits BinOp.and IntKind.i64 kk 32 = 0 := by rw [FL.out.f32, ← HLX.out]; simp [fl, hq32]
        have hX2 := HX.out
        rw [if_neg (by decide), if_neg (fun h => absurd h.1 (by decide)), if_neg (fun h => absurd h.1 (by decide)), if_neg (fun h => hq16 h.2), if_neg (fun h => hq32 h.2), if_neg (fun h => absurd h.1 (by decide)), if_neg (fun h => absurd h.1 (by decide))] at hX2
        have HERR := hid (HR4.out.below ((Below.refl w4.heap.size w4).alloc (Nat.le_refl _) (.cells #[.int .i64 180, .int .i64 (at_ : Int)] 99)))
        have hlowE := HERR.out.low
        obtain ⟨c0, c1, c2, c3, c4⟩ := box_cells HR4.out.rt
        have fzt0 := frozen_of_row w4 w2.heap.size 0 _ _ HR4.out.rt
        have fzt1 := frozen_of_row w4 w2.heap.size 1 _ _ HR4.out.rt
        have fzt2 := frozen_of_row w4 w2.heap.size 2 _ _ HR4.out.rt
        have fzt3 := frozen_of_row w4 w2.heap.size 3 _ _ HR4.out.rt
        have fzt4 := frozen_of_row w4 w2.heap.size 4 _ _ HR4.out.rt
        have HBX := hid (heap_alloc_new w4 (.cells #[.int .i64 180, .int .i64 (at_ : Int)] 99))
        go_wp2_with fail
        generalize (w4.alloc (.cells #[.int .i64 180, .int .i64 (at_ : Int)] 99)) = w5 at *
        have hne : w4.heap.size ≠ w.heap.size := by have := HR4.out.low; have := HW2.out.size; omega
        refine err_region (.tmp 4) (.tmp 13) (.tmp 2) (.tmp 3) (.tmp 201) (.tmp 202) rfl rfl rfl rfl rfl rfl rfl rfl rfl rfl (by kernel_rfl) (by kernel_rfl) (by kernel_rfl) (by kernel_rfl) (by kernel_rfl) (by kernel_rfl) (by kernel_rfl) w.heap.size (w.heap.size + 1 + 1) w4.heap.size 180 (at_ : Int) _ _ _ _ _ _ _ ((HERR.out.bel.block _ (lt_of_block HR2.out)).trans HR2.out) HBX.out ((HERR.out.bel.block _ (lt_of_block HR0.out)).trans HR0.out) ((HERR.out.bel.block _ (lt_of_block HR1.out)).trans HR1.out) hne rfl rfl rfl rfl rfl rfl rfl rfl rfl rfl rfl rfl rfl rfl ?_ ?_ (by decide) (by omega)
        all_goals go_wp2_with fail
        all_goals change bodyPost _ _ _ _ _ (retW w5.drew w.heap.size ⟨Tg.zero, 180, at_⟩ vnil vnil)
        all_goals exact rret (w := w) (W := w5.drew) ⟨Tg.zero, 180, at_⟩ vnil vnil hX2 ((HERR.out.bel.block _ (lt_of_block HR0.out)).trans HR0.out) ((HERR.out.bel.block _ (lt_of_block HR1.out)).trans HR1.out) (HW2.out.then HERR.out.bel).drew (World.ownsRow_nil _ _ _ _) (World.ownsRow_nil _ _ _ _) rfl rfl rfl
     ·by_cases hq64 : isKey x = true
      ·as_aux_lemma =>
        have hk64 : bits BinOp.and IntKind.i64 kk 64 = 64 := by rw [FL.out.f64]; simp [fl, hq64]
        have hX2 := HX.out
        rw [if_neg (by decide), if_neg (fun h => absurd h.1 (by decide)), if_neg (fun h => absurd h.1 (by decide)), if_neg (fun h => absurd h.1 (by decide)), if_neg (fun h => absurd h.1 (by decide)), if_pos ⟨by decide, hq64⟩] at hX2
        have HERR := hid (HR4.out.below ((Below.refl w4.heap.size w4).alloc (Nat.le_refl _) (.cells #[.int .i64 180, .int .i64 (at_ : Int)] 99)))
        have hlowE := HERR.out.low
        obtain ⟨c0, c1, c2, c3, c4⟩ := box_cells HR4.out.rt
        have fzt0 := frozen_of_row w4 w2.heap.size 0 _ _ HR4.out.rt
        have fzt1 := frozen_of_row w4 w2.heap.size 1 _ _ HR4.out.rt
        have fzt2 := frozen_of_row w4 w2.heap.size 2 _ _ HR4.out.rt
        have fzt3 := frozen_of_row w4 w2.heap.size 3 _ _ HR4.out.rt
        have fzt4 := frozen_of_row w4 w2.heap.size 4 _ _ HR4.out.rt
        have FI := hid (fun W (h : RdP W (.slice ak t.keys.length ck) t.keys) => rfind_any W _ t.keys lx h (by omega))
        have hrd := HERR.out.op.rd
        by_cases hc : t.keys.any (fun p => p.1 == lx) = true
        ·rw [if_pos hc] at hX2
         go_wp2_with fail
         refine (FI.out _ hrd).mono ?_
         rintro e w6 ⟨r, rfl, hfv, hw6⟩
         subst hw6
         have hr0 : 0 ≤ r := by rcases hfv with h | h; exact h.2.1; rw [hc] at h; cases h.1
         have hr1 : r < 1000 := by rcases hfv with h | h; omega; rw [hc] at h; cases h.1
         clear hfv
         generalize (w4.alloc (.cells #[.int .i64 180, .int .i64 (at_ : Int)] 99)) = w5 at *
         have lz := lt_of_block ((HERR.out.bel.block _ (lt_of_block HR0.out)).trans HR0.out)
         have lm := lt_of_block ((HERR.out.bel.block _ (lt_of_block HR2.out)).trans HR2.out)
         obtain ⟨k0, k1, k2, k3, k4⟩ := box_cells HERR.out.rt
         go_upto_region 39 with (fail)
         refine wp_region_lit ?_
         refine wpList_load5 rfl (.tmp 4) rfl (w.heap.size + 1 + 1) _ _ _ _ _ rfl ((HERR.out.bel.block _ (lt_of_block HR2.out)).trans HR2.out) ?_
         refine wpList_move rfl (.tmp 10) rfl (.int .i64 (at_ : Int)) rfl ?_
         refine wpList_build2 rfl 152 181 rfl (at_ : Int) rfl ?_
         refine wpList_store5 rfl (.tmp 2) (.tmp 151) rfl rfl w.heap.size _ _ _ _ _ _ _ _ _ _ _ _ _ _ rfl rfl ((HERR.out.bel.block _ (lt_of_block HR0.out)).trans HR0.out) ?_
         refine wpList_store2 rfl (.tmp 3) (.tmp 153) rfl rfl (w.heap.size + 1) _ _ 181 (at_ : Int) rfl rfl ((P5_other _ _ _ _ _ (by omega)).trans ((HERR.out.bel.block _ (lt_of_block HR1.out)).trans HR1.out)) ?_
         go_wp2_with fail
         exact rret (w := w) ⟨Tg.zero, 181, at_⟩ vnil vnil hX2 ((HERR.out.bel.block _ (lt_of_block HR0.out)).trans HR0.out) ((HERR.out.bel.block _ (lt_of_block HR1.out)).trans HR1.out) (HW2.out.then HERR.out.bel) (World.ownsRow_nil _ _ _ _) (World.ownsRow_nil _ _ _ _) rfl rfl rfl
        ·rw [if_neg hc] at hX2
         have hc2 : (t.keys.any fun p => p.1 == lx) = false := Bool.eq_false_iff.2 hc
         by_cases h16 : t.keys.length = 16
         ·rw [if_pos h16] at hX2
          have h16b : ((t.keys.length : Int) == 16) = true := by rw [h16]; rfl
          clear h16
          go_wp2_with fail
          refine (FI.out _ hrd).mono ?_
          rintro e w6 ⟨r, rfl, hfv, hw6⟩
          subst hw6
          obtain rfl : r = -1 := by rcases hfv with h | h; exact absurd h.1 hc; exact h.2
          clear hfv
          generalize (w4.alloc (.cells #[.int .i64 180, .int .i64 (at_ : Int)] 99)) = w5 at *
          have lz := lt_of_block ((HERR.out.bel.block _ (lt_of_block HR0.out)).trans HR0.out)
          have lm := lt_of_block ((HERR.out.bel.block _ (lt_of_block HR2.out)).trans HR2.out)
          obtain ⟨k0, k1, k2, k3, k4⟩ := box_cells HERR.out.rt
          go_upto_region 41 with (fail)
          refine wp_region_lit ?_
          refine wpList_load5 rfl (.tmp 4) rfl (w.heap.size + 1 + 1) _ _ _ _ _ rfl ((HERR.out.bel.block _ (lt_of_block HR2.out)).trans HR2.out) ?_
          refine wpList_move rfl (.tmp 10) rfl (.int .i64 (at_ : Int)) rfl ?_
          refine wpList_build2 rfl 159 3 rfl (at_ : Int) rfl ?_
          refine wpList_store5 rfl (.tmp 2) (.tmp 158) rfl rfl w.heap.size _ _ _ _ _ _ _ _ _ _ _ _ _ _ rfl rfl ((HERR.out.bel.block _ (lt_of_block HR0.out)).trans HR0.out) ?_
          refine wpList_store2 rfl (.tmp 3) (.tmp 160) rfl rfl (w.heap.size + 1) _ _ 3 (at_ : Int) rfl rfl ((P5_other _ _ _ _ _ (by omega)).trans ((HERR.out.bel.block _ (lt_of_block HR1.out)).trans HR1.out)) ?_
          go_wp2_with fail
          exact rret (w := w) ⟨Tg.zero, 3, at_⟩ vnil vnil hX2 ((HERR.out.bel.block _ (lt_of_block HR0.out)).trans HR0.out) ((HERR.out.bel.block _ (lt_of_block HR1.out)).trans HR1.out) (HW2.out.then HERR.out.bel) (World.ownsRow_nil _ _ _ _) (World.ownsRow_nil _ _ _ _) rfl rfl rfl
         ·rw [if_neg h16] at hX2
          have h16b : ((t.keys.length : Int) == 16) = false := by rw [beq_eq_false_iff_ne]; omega
          go_wp2_with fail
          refine (FI.out _ hrd).mono ?_
          rintro e w6 ⟨r, rfl, hfv, hw6⟩
          subst hw6
          obtain rfl : r = -1 := by rcases hfv with h | h; exact absurd h.1 hc; exact h.2
          clear hfv
          generalize (w4.alloc (.cells #[.int .i64 180, .int .i64 (at_ : Int)] 99)) = w5 at *
          obtain ⟨k0, k1, k2, k3, k4⟩ := box_cells HERR.out.rt
          go_wp2_with (at_builtin; refine wpList_pushP rfl (.tmp 162) (.tmp 165) rfl (w2.heap.size + 1) _ _ (lx, []) rfl HERR.out.op rfl ?ka1 ?ka2 ?_)
          case ka1 => omega
          case ka2 => exact hlowE
          intro v7 w7 own7 gr7 mv7
          have H7 := hid (HERR.out.keys gr7 own7)
          have hrt7 := hid ((gr7.block _ hlowE (fun e => HERR.out.nk e.symm)).trans HERR.out.rt)
          obtain ⟨ak7, ck7, rfl⟩ := own_sliceP own7
          have hnd7 := nodup_snoc hc2 HND.out (v := ([] : Str))
          clear c0 c1 c2 c3 c4 k0 k1 k2 k3 k4 fzt0 fzt1 fzt2 fzt3 fzt4 gr7 mv7 own7
          have hlow7 := lt_of_block hrt7.out
          obtain ⟨c0, c1, c2, c3, c4⟩ := box_cells hrt7.out
          have fzt4 := frozen_of_row w7 w2.heap.size 4 _ _ hrt7.out
          go_wp2_with fail
          go_roundg (gk - 1)
          case measure => have := HG.out; omega
          case rel => exact ⟨n + 1, 64, { t with keys := t.keys ++ [(lx, [])] }, (.slice av t.vars.length cv), _, by omega, by have := HG.out; omega, by simp, by simp, (by have h := H7.out; rw [show (t.keys ++ [(lx, ([] : Str))]).length = t.keys.length + 1 by simp] at h; exact h), hX2, by simp, hv8, by simp; omega, hnd7, fun _ => by simp, kb_new HKB.out lx⟩
      ·have hk64 : bits BinOp.and IntKind.i64 kk 64 = 0 := by rw [FL.out.f64]; simp [fl, hq64]
       have hX2 := HX.out
       rw [if_neg (by decide), if_neg (fun h => absurd h.1 (by decide)), if_neg (fun h => absurd h.1 (by decide)), if_neg (fun h => absurd h.1 (by decide)), if_neg (fun h => absurd h.1 (by decide)), if_neg (fun h => hq64 h.2), if_neg (fun h => absurd h.1 (by decide))] at hX2
       have HERR := hid (HR4.out.below ((Below.refl w4.heap.size w4).alloc (Nat.le_refl _) (.cells #[.int .i64 180, .int .i64 (at_ : Int)] 99)))
       have hlowE := HERR.out.low
       obtain ⟨c0, c1, c2, c3, c4⟩ := box_cells HR4.out.rt
       have fzt0 := frozen_of_row w4 w2.heap.size 0 _ _ HR4.out.rt
       have fzt1 := frozen_of_row w4 w2.heap.size 1 _ _ HR4.out.rt
       have fzt2 := frozen_of_row w4 w2.heap.size 2 _ _ HR4.out.rt
       have fzt3 := frozen_of_row w4 w2.heap.size 3 _ _ HR4.out.rt
       have fzt4 := frozen_of_row w4 w2.heap.size 4 _ _ HR4.out.rt
       have HBX := hid (heap_alloc_new w4 (.cells #[.int .i64 180, .int .i64 (at_ : Int)] 99))
       go_wp2_with fail
       generalize (w4.alloc (.cells #[.int .i64 180, .int .i64 (at_ : Int)] 99)) = w5 at *
       have hne : w4.heap.size ≠ w.heap.size := by have := HR4.out.low; have := HW2.out.size; omega
       refine err_region (.tmp 4) (.tmp 13) (.tmp 2) (.tmp 3) (.tmp 201) (.tmp 202) rfl rfl rfl rfl rfl rfl rfl rfl rfl rfl (by kernel_rfl) (by kernel_rfl) (by kernel_rfl) (by kernel_rfl) (by kernel_rfl) (by kernel_rfl) (by kernel_rfl) w.heap.size (w.heap.size + 1 + 1) w4.heap.size 180 (at_ : Int) _ _ _ _ _ _ _ ((HERR.out.bel.block _ (lt_of_block HR2.out)).trans HR2.out) HBX.out ((HERR.out.bel.block _ (lt_of_block HR0.out)).trans HR0.out) ((HERR.out.bel.block _ (lt_of_block HR1.out)).trans HR1.out) hne rfl rfl rfl rfl rfl rfl rfl rfl rfl rfl rfl rfl rfl rfl ?_ ?_ (by decide) (by omega)
       all_goals go_wp2_with fail
       all_goals change bodyPost _ _ _ _ _ (retW w5.drew w.heap.size ⟨Tg.zero, 180, at_⟩ vnil vnil)
       all_goals exact rret (w := w) (W := w5.drew) ⟨Tg.zero, 180, at_⟩ vnil vnil hX2 ((HERR.out.bel.block _ (lt_of_block HR0.out)).trans HR0.out) ((HERR.out.bel.block _ (lt_of_block HR1.out)).trans HR1.out) (HW2.out.then HERR.out.bel).drew (World.ownsRow_nil _ _ _ _) (World.ownsRow_nil _ _ _ _) rfl rfl rfl
     ·by_cases hq64 : isKey x = true
      ·as_aux_lemma =>
        have hk64 : bits BinOp.and IntKind.i64 kk 64 = 64 := by rw [FL.out.f64]; simp [fl, hq64]
        have hX2 := HX.out
        rw [if_neg (by decide), if_neg (fun h => absurd h.1 (by decide)), if_neg (fun h => absurd h.1 (by decide)), if_neg (fun h => absurd h.1 (by decide)), if_neg (fun h => absurd h.1 (by decide)), if_pos ⟨by decide, hq64⟩] at hX2
        have HERR := hid (HR4.out.below ((Below.refl w4.heap.size w4).alloc (Nat.le_refl _) (.cells #[.int .i64 180, .int .i64 (at_ : Int)] 99)))
        have hlowE := HERR.out.low
        obtain ⟨c0, c1, c2, c3, c4⟩ := box_cells HR4.out.rt
        have fzt0 := frozen_of_row w4 w2.heap.size 0 _ _ HR4.out.rt
        have fzt1 := frozen_of_row w4 w2.heap.size 1 _ _ HR4.out.rt
        have fzt2 := frozen_of_row w4 w2.heap.size 2 _ _ HR4.out.rt
        have fzt3 := frozen_of_row w4 w2.heap.size 3 _ _ HR4.out.rt
        have fzt4 := frozen_of_row w4 w2.heap.size 4 _ _ HR4.out.rt
        have FI := hid (fun W (h : RdP W (.slice ak t.keys.length ck) t.keys) => rfind_any W _ t.keys lx h (by omega))
        have hrd := HERR.out.op.rd
        by_cases hc : t.keys.any (fun p => p.1 == lx) = true
        ·rw [if_pos hc] at hX2
         go_wp2_with fail
         refine (FI.out _ hrd).mono ?_
         rintro e w6 ⟨r, rfl, hfv, hw6⟩
         subst hw6
         have hr0 : 0 ≤ r := by rcases hfv with h | h; exact h.2.1; rw [hc] at h; cases h.1
         have hr1 : r < 1000 := by rcases hfv with h | h; omega; rw [hc] at h; cases h.1
         clear hfv
         generalize (w4.alloc (.cells #[.int .i64 180, .int .i64 (at_ : Int)] 99)) = w5 at *
         have lz := lt_of_block ((HERR.out.bel.block _ (lt_of_block HR0.out)).trans HR0.out)
         have lm := lt_of_block ((HERR.out.bel.block _ (lt_of_block HR2.out)).trans HR2.out)
         obtain ⟨k0, k1, k2, k3, k4⟩ := box_cells HERR.out.rt
         go_upto_region 39 with (fail)
         refine wp_region_lit ?_
         refine wpList_load5 rfl (.tmp 4) rfl (w.heap.size + 1 + 1) _ _ _ _ _ rfl ((HERR.out.bel.block _ (lt_of_block HR2.out)).trans HR2.out) ?_
         refine wpList_move rfl (.tmp 10) rfl (.int .i64 (at_ : Int)) rfl ?_
         refine wpList_build2 rfl 152 181 rfl (at_ : Int) rfl ?_
         refine wpList_store5 rfl (.tmp 2) (.tmp 151) rfl rfl w.heap.size _ _ _ _ _ _ _ _ _ _ _ _ _ _ rfl rfl ((HERR.out.bel.block _ (lt_of_block HR0.out)).trans HR0.out) ?_
         refine wpList_store2 rfl (.tmp 3) (.tmp 153) rfl rfl (w.heap.size + 1) _ _ 181 (at_ : Int) rfl rfl ((P5_other _ _ _ _ _ (by omega)).trans ((HERR.out.bel.block _ (lt_of_block HR1.out)).trans HR1.out)) ?_
         go_wp2_with fail
         exact rret (w := w) ⟨Tg.zero, 181, at_⟩ vnil vnil hX2 ((HERR.out.bel.block _ (lt_of_block HR0.out)).trans HR0.out) ((HERR.out.bel.block _ (lt_of_block HR1.out)).trans HR1.out) (HW2.out.then HERR.out.bel) (World.ownsRow_nil _ _ _ _) (World.ownsRow_nil _ _ _ _) rfl rfl rfl
        ·rw [if_neg hc] at hX2
         have hc2 : (t.keys.any fun p => p.1 == lx) = false := Bool.eq_false_iff.2 hc
         by_cases h16 : t.keys.length = 16
         ·rw [if_pos h16] at hX2
          have h16b : ((t.keys.length : Int) == 16) = true := by rw [h16]; rfl
          clear h16
          go_wp2_with fail
          refine (FI.out _ hrd).mono ?_
          rintro e w6 ⟨r, rfl, hfv, hw6⟩
          subst hw6
          obtain rfl : r = -1 := by rcases hfv with h | h; exact absurd h.1 hc; exact h.2
          clear hfv
          generalize (w4.alloc (.cells #[.int .i64 180, .int .i64 (at_ : Int)] 99)) = w5 at *
          have lz := lt_of_block ((HERR.out.bel.block _ (lt_of_block HR0.out)).trans HR0.out)
          have lm := lt_of_block ((HERR.out.bel.block _ (lt_of_block HR2.out)).trans HR2.out)
          obtain ⟨k0, k1, k2, k3, k4⟩ := box_cells HERR.out.rt
          go_upto_region 41 with (fail)
          refine wp_region_lit ?_
          refine wpList_load5 rfl (.tmp 4) rfl (w.heap.size + 1 + 1) _ _ _ _ _ rfl ((HERR.out.bel.block _ (lt_of_block HR2.out)).trans HR2.out) ?_
          refine wpList_move rfl (.tmp 10) rfl (.int .i64 (at_ : Int)) rfl ?_
          refine wpList_build2 rfl 159 3 rfl (at_ : Int) rfl ?_
          refine wpList_store5 rfl (.tmp 2) (.tmp 158) rfl rfl w.heap.size _ _ _ _ _ _ _ _ _ _ _ _ _ _ rfl rfl ((HERR.out.bel.block _ (lt_of_block HR0.out)).trans HR0.out) ?_
          refine wpList_store2 rfl (.tmp 3) (.tmp 160) rfl rfl (w.heap.size + 1) _ _ 3 (at_ : Int) rfl rfl ((P5_other _ _ _ _ _ (by omega)).trans ((HERR.out.bel.block _ (lt_of_block HR1.out)).trans HR1.out)) ?_
          go_wp2_with fail
          exact rret (w := w) ⟨Tg.zero, 3, at_⟩ vnil vnil hX2 ((HERR.out.bel.block _ (lt_of_block HR0.out)).trans HR0.out) ((HERR.out.bel.block _ (lt_of_block HR1.out)).trans HR1.out) (HW2.out.then HERR.out.bel) (World.ownsRow_nil _ _ _ _) (World.ownsRow_nil _ _ _ _) rfl rfl rfl
         ·rw [if_neg h16] at hX2
          have h16b : ((t.keys.length : Int) == 16) = false := by rw [beq_eq_false_iff_ne]; omega
          go_wp2_with fail
          refine (FI.out _ hrd).mono ?_
          rintro e w6 ⟨r, rfl, hfv, hw6⟩
          subst hw6
          obtain rfl : r = -1 := by rcases hfv with h | h; exact absurd h.1 hc; exact h.2
          clear hfv
          generalize (w4.alloc (.cells #[.int .i64 180, .int .i64 (at_ : Int)] 99)) = w5 at *
          obtain ⟨k0, k1, k2, k3, k4⟩ := box_cells HERR.out.rt
          go_wp2_with (at_builtin; refine wpList_pushP rfl (.tmp 162) (.tmp 165) rfl (w2.heap.size + 1) _ _ (lx, []) rfl HERR.out.op rfl ?ka1 ?ka2 ?_)
          case ka1 => omega
          case ka2 => exact hlowE
          intro v7 w7 own7 gr7 mv7
          have H7 := hid (HERR.out.keys gr7 own7)
          have hrt7 := hid ((gr7.block _ hlowE (fun e => HERR.out.nk e.symm)).trans HERR.out.rt)
          obtain ⟨ak7, ck7, rfl⟩ := own_sliceP own7
          have hnd7 := nodup_snoc hc2 HND.out (v := ([] : Str))
          clear c0 c1 c2 c3 c4 k0 k1 k2 k3 k4 fzt0 fzt1 fzt2 fzt3 fzt4 gr7 mv7 own7
          have hlow7 := lt_of_block hrt7.out
          obtain ⟨c0, c1, c2, c3, c4⟩ := box_cells hrt7.out
          have fzt4 := frozen_of_row w7 w2.heap.size 4 _ _ hrt7.out
          go_wp2_with fail
          go_roundg (gk - 1)
          case measure => have := HG.out; omega
          case rel => exact ⟨n + 1, 64, { t with keys := t.keys ++ [(lx, [])] }, (.slice av t.vars.length cv), _, by omega, by have := HG.out; omega, by simp, by simp, (by have h := H7.out; rw [show (t.keys ++ [(lx, ([] : Str))]).length = t.keys.length + 1 by simp] at h; exact h), hX2, by simp, hv8, by simp; omega, hnd7, fun _ => by simp, kb_new HKB.out lx⟩
      ·have hk64 : bits BinOp.and IntKind.i64 kk 64 = 0 := by rw [FL.out.f64]; simp [fl, hq64]
       by_cases hq128 : isType x = true
       ·as_aux_lemma =>
         have hk128 : bits BinOp.and IntKind.i64 kk 128 = 128 := by rw [FL.out.f128]; simp [fl, hq128]
         have hX2 := HX.out
         rw [if_neg (by decide), if_neg (fun h => absurd h.1 (by decide)), if_neg (fun h => absurd h.1 (by decide)), if_neg (fun h => absurd h.1 (by decide)), if_neg (fun h => absurd h.1 (by decide)), if_neg (fun h => hq64 h.2), if_pos ⟨by decide, hq128⟩] at hX2
         have HERR := hid (HR4.out.below ((Below.refl w4.heap.size w4).alloc (Nat.le_refl _) (.cells #[.int .i64 180, .int .i64 (at_ : Int)] 99)))
         have hlowE := HERR.out.low
         obtain ⟨c0, c1, c2, c3, c4⟩ := box_cells HR4.out.rt
         obtain ⟨ks, ⟨ky, vy⟩, hks⟩ := snoc_of (h64 rfl)
         have hkl : t.keys.length = ks.length + 1 := by rw [hks]; simp
         have fzt0 := frozen_of_row w4 w2.heap.size 0 _ _ HR4.out.rt
         have fzt1 := frozen_of_row w4 w2.heap.size 1 _ _ HR4.out.rt
         have fzt2 := frozen_of_row w4 w2.heap.size 2 _ _ HR4.out.rt
         have fzt3 := frozen_of_row w4 w2.heap.size 3 _ _ HR4.out.rt
         have fzt4 := frozen_of_row w4 w2.heap.size 4 _ _ HR4.out.rt
         have hvl : vy.length ≤ 20000 := by have := HKB.out (ky, vy) (by rw [hks]; simp); simp only at this; omega
         have hvn : vy.length ≤ n * 130 := HKB.out (ky, vy) (by rw [hks]; simp)
         have hlxl : lx.length ≤ 128 := by rw [HLX.out, lower_length]; exact hxl
         have HKS := hid hks
         have hop := HR4.out.op
         rw [hks, setLast_snoc] at hX2
         obtain ⟨g2, hg2⟩ : ∃ g2, ak = some ⟨g2, 0, none⟩ := by
          rcases hop.shape with ⟨h, h2⟩ | ⟨g2, cap, cur, h, _⟩
          ·exact absurd h2 (h64 rfl)
          ·injection h with h; exact ⟨g2, h⟩
         subst hg2
         have hgl2 : w2.heap.size + 1 ≤ g2 ∧ g2 < w4.heap.size := World.ownsRow.lt hop g2 rfl
         have hvc : w4.cell? ⟨g2, ks.length * 2 + 1, none⟩ = some (.string ⟨vy.toArray⟩) := by
          rcases hop.shape with ⟨h, _⟩ | ⟨g3, cap, cur, h, _, hg, _, _, _, ht⟩
          ·cases h
          ·injection h with h _ _
           injection h with h
           injection h with h
           subst h
           have := pair_cells hg ht ks.length (by omega) 1 (.string ⟨vy.toArray⟩) (by rw [getElem!_pos t.keys ks.length (by omega)]; simp only [hks]; simp [enc2, S])
           simpa using this
         have hfv : w4.frozen? ⟨g2, ks.length * 2 + 1, none⟩ = false := by
          rcases hop.shape with ⟨h, _⟩ | ⟨g3, cap, cur, h, _, hg, _⟩
          ·cases h
          ·injection h with h _ _
           injection h with h
           injection h with h
           subst h
           exact frozen_of_row _ _ _ _ _ hg
         have hki : (t.keys.length : Int) = (ks.length : Int) + 1 := by omega
         have HL8 := hid ((HR4.out.last hks (addV vy lx)).below ((Below.refl _ _).alloc (Nat.le_refl _) (.cells #[.int .i64 180, .int .i64 (at_ : Int)] 99)))
         have hmap : (ks ++ [(ky, addV vy lx)]).map (·.1) = t.keys.map (·.1) := by rw [hks]; simp
         have hln : (ks ++ [(ky, addV vy lx)]).length = t.keys.length := by rw [hks]; simp
         clear hop
         by_cases hv0 : vy = []
         ·have hvb : (vy != []) = false := by rw [hv0]; rfl
          have hvb2 : vy.isEmpty = true := by rw [hv0]; rfl
          have hav : addV vy lx = lx := by unfold addV; rw [if_pos hv0]
          clear hv0
          rw [hav] at hX2 HL8 hmap hln
          go_wp2_with fail
          go_roundg (gk - 1)
          case measure => have := HG.out; omega
          case rel => exact ⟨n + 1, 64, { t with keys := ks ++ [(ky, lx)] }, (.slice av t.vars.length cv), _, by omega, by have := HG.out; omega, by simp, by simp, HL8.out, hX2, by simp, hv8, by show (ks ++ [(ky, lx)]).length ≤ 16; omega, by rw [hmap]; exact HND.out, fun _ => by simp, kb_set HKS.out HKB.out (by omega)⟩
         ·have hvb : (vy != []) = true := by rw [bne_iff_ne]; exact hv0
          have hvb2 : vy.isEmpty = false := by cases hh : vy with | nil => exact absurd hh hv0 | cons => rfl
          have hav : addV vy lx = vy ++ [45] ++ lx := by unfold addV; rw [if_neg hv0]
          clear hv0
          rw [hav] at hX2 HL8 hmap hln
          go_wp2_with fail
          go_roundg (gk - 1)
          case measure => have := HG.out; omega
          case rel => exact ⟨n + 1, 64, { t with keys := ks ++ [(ky, vy ++ [45] ++ lx)] }, (.slice av t.vars.length cv), _, by omega, by have := HG.out; omega, by simp, by simp, HL8.out, hX2, by simp, hv8, by show (ks ++ [(ky, vy ++ [45] ++ lx)]).length ≤ 16; omega, by rw [hmap]; exact HND.out, fun _ => by simp, kb_set HKS.out HKB.out (by simp; omega)⟩
       ·have hk128 : bits BinOp.and IntKind.i64 kk 128 = 0 := by rw [FL.out.f128]; simp [fl, hq128]
        have hX2 := HX.out
        rw [if_neg (by decide), if_neg (fun h => absurd h.1 (by decide)), if_neg (fun h => absurd h.1 (by decide)), if_neg (fun h => absurd h.1 (by decide)), if_neg (fun h => absurd h.1 (by decide)), if_neg (fun h => hq64 h.2), if_neg (fun h => hq128 h.2)] at hX2
        have HERR := hid (HR4.out.below ((Below.refl w4.heap.size w4).alloc (Nat.le_refl _) (.cells #[.int .i64 180, .int .i64 (at_ : Int)] 99)))
        have hlowE := HERR.out.low
        obtain ⟨c0, c1, c2, c3, c4⟩ := box_cells HR4.out.rt
        have fzt0 := frozen_of_row w4 w2.heap.size 0 _ _ HR4.out.rt
        have fzt1 := frozen_of_row w4 w2.heap.size 1 _ _ HR4.out.rt
        have fzt2 := frozen_of_row w4 w2.heap.size 2 _ _ HR4.out.rt
        have fzt3 := frozen_of_row w4 w2.heap.size 3 _ _ HR4.out.rt
        have fzt4 := frozen_of_row w4 w2.heap.size 4 _ _ HR4.out.rt
        have HBX := hid (heap_alloc_new w4 (.cells #[.int .i64 180, .int .i64 (at_ : Int)] 99))
        go_wp2_with fail
        generalize (w4.alloc (.cells #[.int .i64 180, .int .i64 (at_ : Int)] 99)) = w5 at *
        have hne : w4.heap.size ≠ w.heap.size := by have := HR4.out.low; have := HW2.out.size; omega
        refine err_region (.tmp 4) (.tmp 13) (.tmp 2) (.tmp 3) (.tmp 201) (.tmp 202) rfl rfl rfl rfl rfl rfl rfl rfl rfl rfl (by kernel_rfl) (by kernel_rfl) (by kernel_rfl) (by kernel_rfl) (by kernel_rfl) (by kernel_rfl) (by kernel_rfl) w.heap.size (w.heap.size + 1 + 1) w4.heap.size 180 (at_ : Int) _ _ _ _ _ _ _ ((HERR.out.bel.block _ (lt_of_block HR2.out)).trans HR2.out) HBX.out ((HERR.out.bel.block _ (lt_of_block HR0.out)).trans HR0.out) ((HERR.out.bel.block _ (lt_of_block HR1.out)).trans HR1.out) hne rfl rfl rfl rfl rfl rfl rfl rfl rfl rfl rfl rfl rfl rfl ?_ ?_ (by decide) (by omega)
        all_goals go_wp2_with fail
        all_goals change bodyPost _ _ _ _ _ (retW w5.drew w.heap.size ⟨Tg.zero, 180, at_⟩ vnil vnil)
        all_goals exact rret (w := w) (W := w5.drew) ⟨Tg.zero, 180, at_⟩ vnil vnil hX2 ((HERR.out.bel.block _ (lt_of_block HR0.out)).trans HR0.out) ((HERR.out.bel.block _ (lt_of_block HR1.out)).trans HR1.out) (HW2.out.then HERR.out.bel).drew (World.ownsRow_nil _ _ _ _) (World.ownsRow_nil _ _ _ _) rfl rfl rfl
    ·have hne2 : us.drop n = [] := List.drop_of_length_le (by omega)
     rw [hne2] at hX
     simp only [refL] at hX
     clear hne2
     have hlz := lt_of_block ((HRS.out.bel.block _ (lt_of_block HR0.out)).trans HR0.out)
     obtain ⟨av, cv, rfl⟩ := own_sliceS HRS.out.os
     obtain ⟨ak, ck, rfl⟩ := own_sliceP HRS.out.op
     by_cases h32 : st = 32
     ·rw [if_pos h32] at hX
      subst h32
      obtain ⟨z0, z1, z2, z3, z4⟩ := box_cells ((HRS.out.bel.block _ (lt_of_block HR0.out)).trans HR0.out)
      have y0 : World.cell? wr ⟨w.heap.size + 1, 0, none⟩ = some (.int .i64 0) := cell_of_row _ _ _ _ _ _ ((HRS.out.bel.block _ (lt_of_block HR1.out)).trans HR1.out)
      have y1 : World.cell? wr ⟨w.heap.size + 1, 1, none⟩ = some (.int .i64 0) := cell_of_row _ _ _ _ _ _ ((HRS.out.bel.block _ (lt_of_block HR1.out)).trans HR1.out)
      have fz0 := frozen_of_row wr w.heap.size 0 _ _ ((HRS.out.bel.block _ (lt_of_block HR0.out)).trans HR0.out)
      have fz1 := frozen_of_row wr w.heap.size 1 _ _ ((HRS.out.bel.block _ (lt_of_block HR0.out)).trans HR0.out)
      have fz2 := frozen_of_row wr w.heap.size 2 _ _ ((HRS.out.bel.block _ (lt_of_block HR0.out)).trans HR0.out)
      have fz3 := frozen_of_row wr w.heap.size 3 _ _ ((HRS.out.bel.block _ (lt_of_block HR0.out)).trans HR0.out)
      have fz4 := frozen_of_row wr w.heap.size 4 _ _ ((HRS.out.bel.block _ (lt_of_block HR0.out)).trans HR0.out)
      have fy0 := frozen_of_row wr (w.heap.size + 1) 0 _ _ ((HRS.out.bel.block _ (lt_of_block HR1.out)).trans HR1.out)
      have fy1 := frozen_of_row wr (w.heap.size + 1) 1 _ _ ((HRS.out.bel.block _ (lt_of_block HR1.out)).trans HR1.out)
      obtain ⟨m0, m1, m2, m3, m4⟩ := box_cells ((HRS.out.bel.block _ (lt_of_block HR2.out)).trans HR2.out)
      have lz := lt_of_block ((HRS.out.bel.block _ (lt_of_block HR0.out)).trans HR0.out)
      have ly := lt_of_block ((HRS.out.bel.block _ (lt_of_block HR1.out)).trans HR1.out)
      have lm := lt_of_block ((HRS.out.bel.block _ (lt_of_block HR2.out)).trans HR2.out)
      go_wp2_with fail
      change bodyPost _ _ _ _ _ (retW wr w.heap.size ⟨Tg.zero, 180, s.size⟩ vnil vnil)
      exact rret (w := w) ⟨Tg.zero, 180, s.size⟩ vnil vnil hX ((HRS.out.bel.block _ (lt_of_block HR0.out)).trans HR0.out) ((HRS.out.bel.block _ (lt_of_block HR1.out)).trans HR1.out) (HW2.out.then HRS.out.bel) (World.ownsRow_nil _ _ _ _) (World.ownsRow_nil _ _ _ _) rfl rfl rfl
     ·rw [if_neg h32] at hX
      have hsb : ((st : Int) == 32) = false := by rw [beq_eq_false_iff_ne]; omega
      have OR := hid (fun W (hS : RdS W (.slice av t.vars.length cv) t.vars) (hP : RdP W (.slice ak t.keys.length ck) t.keys) => rord_any W _ _ t hS hP (by omega) HND.out)
      simp only [tagCells, S] at OR
      obtain ⟨c0, c1, c2, c3, c4⟩ := box_cells HRS.out.rt
      go_wp2_with fail
      refine (OR.out _ HRS.out.os.rd HRS.out.op.rd).mono ?_
      rintro e w6 ⟨k6, rfl, o6, hb6⟩
      have H6 := hid (HRS.out.below hb6)
      clear c0 c1 c2 c3 c4 hlz hlow
      have hlow6 := H6.out.low
      obtain ⟨ak6, ck6, rfl⟩ := own_sliceP o6
      have O6 := hid (OwnP.mono o6 (show w.heap.size + 2 ≤ wr.heap.size by have := HRS.out.low; omega))
      have OV := hid (OwnS.mono H6.out.os (show w.heap.size + 2 ≤ w2.heap.size + 1 by omega))
      clear o6 hb6
      obtain ⟨z0, z1, z2, z3, z4⟩ := box_cells ((H6.out.bel.block _ (lt_of_block HR0.out)).trans HR0.out)
      have y0 : World.cell? w6 ⟨w.heap.size + 1, 0, none⟩ = some (.int .i64 0) := cell_of_row _ _ _ _ _ _ ((H6.out.bel.block _ (lt_of_block HR1.out)).trans HR1.out)
      have y1 : World.cell? w6 ⟨w.heap.size + 1, 1, none⟩ = some (.int .i64 0) := cell_of_row _ _ _ _ _ _ ((H6.out.bel.block _ (lt_of_block HR1.out)).trans HR1.out)
      have fz0 := frozen_of_row w6 w.heap.size 0 _ _ ((H6.out.bel.block _ (lt_of_block HR0.out)).trans HR0.out)
      have fz1 := frozen_of_row w6 w.heap.size 1 _ _ ((H6.out.bel.block _ (lt_of_block HR0.out)).trans HR0.out)
      have fz2 := frozen_of_row w6 w.heap.size 2 _ _ ((H6.out.bel.block _ (lt_of_block HR0.out)).trans HR0.out)
      have fz3 := frozen_of_row w6 w.heap.size 3 _ _ ((H6.out.bel.block _ (lt_of_block HR0.out)).trans HR0.out)
      have fz4 := frozen_of_row w6 w.heap.size 4 _ _ ((H6.out.bel.block _ (lt_of_block HR0.out)).trans HR0.out)
      have fy0 := frozen_of_row w6 (w.heap.size + 1) 0 _ _ ((H6.out.bel.block _ (lt_of_block HR1.out)).trans HR1.out)
      have fy1 := frozen_of_row w6 (w.heap.size + 1) 1 _ _ ((H6.out.bel.block _ (lt_of_block HR1.out)).trans HR1.out)
      obtain ⟨m0, m1, m2, m3, m4⟩ := box_cells ((H6.out.bel.block _ (lt_of_block HR2.out)).trans HR2.out)
      have lz := lt_of_block ((H6.out.bel.block _ (lt_of_block HR0.out)).trans HR0.out)
      have ly := lt_of_block ((H6.out.bel.block _ (lt_of_block HR1.out)).trans HR1.out)
      have lm := lt_of_block ((H6.out.bel.block _ (lt_of_block HR2.out)).trans HR2.out)
      go_wp2_with fail
      change bodyPost _ _ _ _ _ (retW w6 w.heap.size ⟨finT t, 0, 0⟩ _ _)
      exact rret (w := w) ⟨finT t, 0, 0⟩ _ _ hX ((H6.out.bel.block _ (lt_of_block HR0.out)).trans HR0.out) ((H6.out.bel.block _ (lt_of_block HR1.out)).trans HR1.out) (HW2.out.then H6.out.bel) OV.out O6.out rfl rfl rfl
end Go.Proofs.YtjlfchnnhglbjaaGreat
