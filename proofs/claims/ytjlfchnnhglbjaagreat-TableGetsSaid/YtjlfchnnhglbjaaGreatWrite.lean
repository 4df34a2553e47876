/- The contract of tag.write. (printed by wip/gen_write.py) -/
import Derived.Test.YtjlfchnnhglbjaaGreatApp
import Derived.Test.YtjlfchnnhglbjaaGreatWriteP
set_option linter.unusedVariables false
set_option linter.unusedSimpArgs false
namespace Go.Proofs.YtjlfchnnhglbjaaGreat
open Go.RowKit Go.Lib Go.Sort

theorem fresh_own (w : World) (l : List Str) (B : Nat) (hB : B ≤ w.heap.size) (hl : l.length ≤ 1000) : OwnS (w.alloc (.cells (l.map S).toArray 9)) B (.slice (some ⟨w.heap.size, 0, none⟩) l.length l.length) l :=
  ⟨by simp, Or.inr ⟨w.heap.size, l.length, _, rfl, hB, heap_alloc_new w _, Nat.le_refl _, by unfold maxLen; omega, by simp, List.take_of_length_le (by simp)⟩⟩

/-- texts of a slice that can be read, at the end of a list that the call owns -/
theorem wpList_appRd {w : World} {ops : Array Oper} {rest : List Oper} {o : Oper} {a : Act} {Q : Exit → Act → World → Prop} (hgd : o.guard = none) (s x : Operand)
    (ho : o.op = .call { callee := .builtin .append, args := #[s, x], argTypes := #[41, 41] })
    (B : Nat) (v vx : Value) (l m : List Str) (hs : a.eval s = v) (hown : OwnS w B v l) (hx : a.eval x = vx) (hr : RdS w vx m) (hl : l.length + m.length ≤ 1000000) (hB : B ≤ w.heap.size)
    (h : ∀ v' w', OwnS w' B v' (l ++ m) → w.grownBy w' v.ownBlock → Moved w v v' → wpList Tryz.prog ops Q rest (a.put o.dst v') w') :
    wpList Tryz.prog ops Q (o :: rest) a w := by
  obtain ⟨i0, hi, hz0, hz1, hz2⟩ := info_parts infoS
  obtain ⟨ao, cp, rfl, hl1, hr1⟩ := hr
  cases ao with
  | none =>
    obtain ⟨rfl, rfl⟩ := hl1.2 rfl
    exact wpList_append_own_none hgd s x 41 ho B 9 i0 1 Tryz.underlying41 hi v l.length (l.map S) hs hown hx (h v w (by rw [List.append_nil]; exact hown) (World.grownBy.refl _ _) (Or.inl rfl))
  | some ad =>
    refine wpList_app hgd s x 41 ho B 9 i0 (.string ⟨#[]⟩) 1 16 Tryz.underlying41 hi hz0 hz1 hz2 rfl (by decide) v l.length (l.map S) hs hown ad m.length cp (m.map S) hx (by simp) ?_ ?_ (by unfold maxLen; omega) (by omega) hB ?_
    · intro j u hu
      rw [List.getElem?_map] at hu
      obtain ⟨x, hx1, rfl⟩ := Option.map_eq_some_iff.1 hu
      have hne : m ≠ [] := by rintro rfl; simp at hx1
      obtain ⟨b, off, he, hlt, hc⟩ := hr1 hne
      obtain rfl : ad = ⟨b, off, none⟩ := Option.some.inj he
      have := hc j x hx1
      unfold Addr.add
      split
      · next e => subst e; exact this
      · exact this
    · intro u hu
      obtain ⟨x, _, rfl⟩ := List.mem_map.1 hu
      rfl
    · intro v' w' own gr mv
      exact h v' w' (own_cast own (by simp) (by simp)) gr mv

theorem wpList_pushK {w : World} {ops : Array Oper} {rest : List Oper} {o : Oper} {a : Act} {Q : Exit → Act → World → Prop} (hgd : o.guard = none) (s x : Operand)
    (ho : o.op = .call { callee := .builtin .append, args := #[s, x], argTypes := #[41, 41] })
    (B : Nat) (v : Value) (l : List Str) (y : Str) (k : Nat) (hk : w.heap.size = k) (hs : a.eval s = v) (hown : OwnS w B v l) (hx : a.eval x = .slice (some ⟨k, 0, none⟩) 1 1) (hl : l.length ≤ 1000000) (hB : B ≤ w.heap.size)
    (h : ∀ v' w', OwnS w' B v' (l ++ [y]) → w.grownBy w' v.ownBlock → Moved w v v' → wpList Tryz.prog ops Q rest (a.put o.dst v') w') :
    wpList Tryz.prog ops Q (o :: rest) a (w.alloc (.cells #[.string ⟨y.toArray⟩] 9)) := by
  subst hk
  exact wpList_pushS hgd s x ho B v l y hs hown hx hl hB h
theorem hold {p : Prop} (h : Hid p) : p := h.out
structure Wr (w0 : World) (H : Nat) (w : World) (v3 : Value) (g c : Nat) (box : Array Value) (l r : List Str) : Prop where
  box : w.heap[H]? = some (.cells box 108 (0, 0))
  os : OwnS w (H + 1) v3 l
  or : OwnS w (H + 1) (.slice (some ⟨g, 0, none⟩) r.length c) r
  ne : v3.ownBlock ≠ some g
  bel : Below H w0 w

theorem Wr.push {w0 w w1 : World} {H : Nat} {v3 v' : Value} {g c : Nat} {box : Array Value} {l r l' : List Str} (h : Wr w0 H w v3 g c box l r) (hs : H + 1 ≤ w.heap.size) (o : OwnS w1 (H + 1) v' l') (gw : w.grownBy w1 v3.ownBlock) (m : Moved w v3 v') : Wr w0 H w1 v' g c box l' r := by
  have hlt := fun k hk => World.ownsRow.lt h.os k hk
  have hlr := (World.ownsRow.lt h.or g rfl).2
  refine ⟨?_, o, ?_, ?_, ?_⟩
  · rw [gw.block H (by omega) (fun e => by have := hlt H e.symm; omega)]; exact h.box
  · exact World.ownsRow.kept h.or gw (Or.inr fun e => h.ne e.symm)
  · intro hk
    rcases m with m | ⟨q, h1, h2⟩
    · exact h.ne (m ▸ hk)
    · rw [hk] at h1
      injection h1 with h1
      omega
  · exact h.bel.grown gw (by omega) (fun k hk => by have := (hlt k hk).1; omega)

theorem Wr.below {w0 w w1 : World} {H : Nat} {v3 : Value} {g c : Nat} {box : Array Value} {l r : List Str} (h : Wr w0 H w v3 g c box l r) (hs : H + 1 ≤ w.heap.size) (hb : Below w.heap.size w w1) : Wr w0 H w1 v3 g c box l r := by
  have hlr := (World.ownsRow.lt h.or g rfl).2
  refine ⟨?_, own_below h.os hb, own_below h.or hb, h.ne, ?_⟩
  · rw [hb.block H (by omega)]; exact h.box
  · exact h.bel.trans ⟨hb.os, hb.tape, hb.output, hb.size, fun k hk => hb.block k (by omega)⟩

theorem Wr.first (w w4 : World) (box : Array Value) (hd : Str) (sc rg : Value) (r : List Str) (g c : Nat) (own4 : OwnS w4 (w.heap.size + 1) (.slice (some ⟨g, 0, none⟩) r.length c) r)
    (gr4 : (((w.alloc (.cells box 108)).alloc (.cells #[.string ⟨hd.toArray⟩] 9)).alloc (.cells #[sc, rg] 9)).grownBy w4 (some (w.heap.size + 1 + 1)))
    (mv4 : Moved (((w.alloc (.cells box 108)).alloc (.cells #[.string ⟨hd.toArray⟩] 9)).alloc (.cells #[sc, rg] 9)) (.slice (some ⟨w.heap.size + 1 + 1, 0, none⟩) 2 2) (.slice (some ⟨g, 0, none⟩) r.length c)) :
    Wr w w.heap.size w4 (.slice (some ⟨w.heap.size + 1, 0, none⟩) 1 1) g c box [hd] r := by
  have o1 : OwnS ((w.alloc (.cells box 108)).alloc (.cells #[.string ⟨hd.toArray⟩] 9)) (w.heap.size + 1) (.slice (some ⟨w.heap.size + 1, 0, none⟩) 1 1) [hd] := by
    simpa [S] using fresh_own (w.alloc (.cells box 108)) [hd] (w.heap.size + 1) (by simp) (by simp)
  refine ⟨?_, ?_, own4, ?_, ?_⟩
  · rw [gr4.block w.heap.size (by simp; omega) (by simp; omega)]
    rw [heap_alloc_old _ _ (by simp; omega), heap_alloc_old _ _ (by simp)]
    exact heap_alloc_new w _
  · exact World.ownsRow.kept (World.ownsRow.alloc o1 _) gr4 (Or.inr (by simp [Value.ownBlock]))
  · intro e
    simp [Value.ownBlock] at e
    subst e
    rcases mv4 with m | ⟨q, h1, h2⟩
    · simp [Value.ownBlock] at m
    · simp [Value.ownBlock] at h1 h2; omega
  · exact ((((Below.refl _ _).alloc (Nat.le_refl _) _).alloc (by simp) _).alloc (by simp; omega) _).grown gr4 (by simp; omega) (fun k hk => by simp at hk; omega)

theorem take_full (r : List Str) (n : Nat) (h : n < r.length) : (r.take (n + 1)).filter full = (r.take n).filter full ++ (if r[n] = [] then [] else [r[n]]) := by
  rw [List.take_add_one, List.filter_append, List.getElem?_eq_getElem h]
  congr 1
  simp only [Option.toList, List.filter_cons, List.filter_nil]
  by_cases hy : r[n] = []
  · simp [hy, full]
  · have : r[n].isEmpty = false := by cases hh : r[n] with | nil => exact absurd hh hy | cons => rfl
    simp [hy, full, this]
theorem take_pairs (k : List (Str × Str)) (n : Nat) (h : n < k.length) : (k.take (n + 1)).flatMap pairParts = (k.take n).flatMap pairParts ++ pairParts k[n] := by
  rw [List.take_add_one, List.flatMap_append, List.getElem?_eq_getElem h]
  simp
theorem len_full (r : List Str) (n : Nat) : ((r.take n).filter full).length ≤ n :=
  Nat.le_trans (List.length_filter_le _ _) (by simp; omega)
theorem len_pairs (k : List (Str × Str)) : (k.flatMap pairParts).length ≤ 2 * k.length := by
  induction k with
  | nil => simp
  | cons a k ih =>
    simp only [List.flatMap_cons, List.length_append, List.length_cons]
    have : (pairParts a).length ≤ 2 := by unfold pairParts; split <;> simp
    omega

set_option maxRecDepth 100000 in
set_option maxHeartbeats 8000000 in
theorem write_any (w : World) (v : Value) (t : Tg) (h : RdT w v t) (hv : t.vars.length ≤ 1000) (hk : t.keys.length ≤ 1000) (hj : (writeF t).length ≤ 140737488355328) :
    Calls Tryz.prog 73 #[v] w fun e w' => e = .returned (S (writeF t)) ∧ Below w.heap.size w w' := by
  obtain ⟨vv, kv, rfl, hS, hP⟩ := h
  have HSS := hid hS
  obtain ⟨av, cv, rfl, hl1, hr1⟩ := hS
  obtain ⟨ak, ck, rfl, hl2, hr2⟩ := hP
  have HP := hid hr2
  have HL1 := hid hl1
  have HL2 := hid hl2
  have HJ := hid hj
  clear hr1 hr2 hl1 hl2 hj
  obtain ⟨hd, hhd⟩ : ∃ x, x = headPart t.lang := ⟨_, rfl⟩
  have HH := hid hhd
  simp only [tagCells, S]
  by_cases hlang : t.lang = []
  · have hlb : t.lang.isEmpty = true := by rw [hlang]; rfl
    have hhd2 : hd = [117, 110, 100] := by rw [hhd]; unfold headPart; rw [if_pos hlang]; rfl
    have HLG := hid hlang
    clear hhd hlang
    go_enter Tryz.func73, Tryz.ntmps73
    have o20 : ∀ (W : World) (k : Nat), W.heap.size = k → w.heap.size + 1 ≤ k → OwnS (W.alloc (.cells #[.string ⟨t.script.toArray⟩, .string ⟨t.region.toArray⟩] 9)) (w.heap.size + 1) (.slice (some ⟨k, 0, none⟩) 2 2) [t.script, t.region] := fun W k hk hW => by
      subst hk
      simpa [S] using fresh_own W [t.script, t.region] (w.heap.size + 1) hW (by simp)
    go_wp2_with (at_builtin; refine wpList_appRd rfl (.tmp 20) (.tmp 22) rfl (w.heap.size + 1) _ _ [t.script, t.region] t.vars rfl ?xown rfl ?xrd ?xhl ?xhB ?_)
    case xown => exact o20 ((w.alloc _).alloc _) (w.heap.size + 1 + 1) (by simp) (by omega)
    case xrd => exact HSS.out.below (((Below.refl _ _).alloc (Nat.le_refl _) _).alloc (by simp) _ |>.alloc (by simp; omega) _)
    case xhl => simp; omega
    case xhB => simp
    intro vr w4 own4 gr4 mv4
    obtain ⟨g, c, hvr⟩ : ∃ g c, vr = .slice (some ⟨g, 0, none⟩) ((t.script :: t.region :: t.vars).length) c := by
      rcases own4.shape with ⟨_, e⟩ | ⟨g, cap, cur, e, _⟩
      · simp at e
      · exact ⟨g, cap, e⟩
    obtain ⟨r, hr⟩ : ∃ x, x = t.script :: t.region :: t.vars := ⟨_, rfl⟩
    rw [← hr] at own4 hvr
    have hrl : r.length ≤ 1002 := by rw [hr]; simp; omega
    have hr0 : 2 ≤ r.length := by rw [hr]; simp
    subst hvr
    have HR := hid hr
    have wq := Wr.first w w4 _ _ _ _ r g c own4 gr4 mv4
    clear own4 gr4 mv4 o20 hr
    go_wp2_with fail
    go_loopg [3, 5, 25] r.length (fun k v3 _ vn W => ∃ n : Nat, n ≤ r.length ∧ r.length ≤ n + k ∧ vn = .int .i64 n ∧ Wr w w.heap.size W v3 g c #[.string ⟨t.lang.toArray⟩, .string ⟨t.script.toArray⟩, .string ⟨t.region.toArray⟩, .slice av t.vars.length cv, .slice ak t.keys.length ck] (hd :: (r.take n).filter full) r)
    case atStart => exact ⟨0, Nat.zero_le _, by omega, rfl, by rw [hhd2]; exact wq⟩
    case round =>
      obtain ⟨n, hn, hg, rfl, st⟩ := hrel
      clear wq hhd2
      have HG := hid hg
      have hsz : w.heap.size + 1 ≤ wr.heap.size := by have := (World.ownsRow.lt st.or g rfl); omega
      clear hg
      by_cases hlt : n < r.length
      · obtain ⟨y, hy⟩ : ∃ y, y = r[n] := ⟨_, rfl⟩
        have cy : wr.cell? ⟨g, n, none⟩ = some (.string ⟨y.toArray⟩) := by
          rw [World.ownsRow.cellAt st.or n (by omega), hy]
          simp [S, hlt]
        have step := take_full r n hlt
        rw [← hy] at step
        have HST := hid step
        clear step hy
        by_cases hy0 : y = []
        · have hb : (y != []) = false := by rw [hy0]; rfl
          have hb2 : y.isEmpty = true := by rw [hy0]; rfl
          have HY := hid hy0
          clear hy0
          go_wp2_with fail
          go_roundg (gk - 1)
          case measure => have := HG.out; omega
          case rel => exact ⟨n + 1, by omega, by have := HG.out; omega, by simp, by rw [HST.out, if_pos HY.out, List.append_nil]; exact st⟩
        · have hb : (y != []) = true := by rw [bne_iff_ne]; exact hy0
          have hb2 : y.isEmpty = false := by cases hh : y with | nil => exact absurd hh hy0 | cons => rfl
          have HY := hid hy0
          clear hy0
          go_wp2_with (at_builtin; refine wpList_pushS rfl (.tmp 31) (.tmp 33) rfl (w.heap.size + 1) u3 _ y rfl st.os rfl ?xc1 ?xc2 ?_)
          case xc1 => have := len_full r n; simp; omega
          case xc2 => exact hsz
          intro v5 w5 own5 gr5 mv5
          have st5 := st.push hsz own5 gr5 mv5
          clear own5 gr5 mv5 cy
          go_wp2_with fail
          go_roundg (gk - 1)
          case measure => have := HG.out; omega
          case rel => exact ⟨n + 1, by omega, by have := HG.out; omega, by simp, by rw [HST.out, if_neg HY.out]; exact st5⟩
      · obtain rfl : n = r.length := by omega
        rw [List.take_length] at st
        have c4 : wr.cell? ⟨w.heap.size, 4, none⟩ = some (.slice ak t.keys.length ck) := cell_of_row _ _ _ _ _ _ st.box
        have hlf := len_full r r.length
        rw [List.take_length] at hlf
        by_cases hk0 : t.keys = []
        · have hkl : t.keys.length = 0 := by rw [hk0]; rfl
          rw [hkl] at c4
          have HK := hid hk0
          have hw : hd :: r.filter full = parts t := by unfold parts partsA; rw [hk0, ← HH.out, HR.out]; simp [uPart]
          have hjo := join_own wr _ u3 _ st.os (by simp; omega) (by rw [hw]; exact HJ.out)
          rw [hw] at hjo
          change Calls _ _ _ _ fun e w' => e = .returned (.string ⟨(writeF t).toArray⟩) ∧ _ at hjo
          have HJJ := hid hjo
          have bel := hid st.bel
          clear hk0 hw st hjo
          go_wp2_with fail
          refine wp_loop_rounds 1 ?_
          rw [rounds_succ]
          go_wp2_with fail
          refine HJJ.out.mono ?_
          rintro e w6 ⟨rfl, hb6⟩
          go_wp2_with fail
          go_ret
          exact ⟨rfl, bel.out.then hb6⟩
        · obtain ⟨b, off, rfl, hbl, hc⟩ := HP.out hk0
          have hkp : 0 < t.keys.length := List.length_pos_iff.2 hk0
          have hkl : (t.keys.length == 0) = false := by rw [beq_eq_false_iff_ne]; omega
          have HK := hid hk0
          have HC := hid hc
          have HKP := hid hkp
          clear hc hk0
          go_wp2_with (at_builtin; refine wpList_pushS rfl (.tmp 40) (.tmp 41) rfl (w.heap.size + 1) u3 _ [117] rfl st.os rfl ?xd1 ?xd2 ?_)
          case xd1 => simp; omega
          case xd2 => exact hsz
          intro v5 w5 own5 gr5 mv5
          have st5 := st.push hsz own5 gr5 mv5
          have hz5 : w.heap.size + 1 ≤ w5.heap.size := by have := (World.ownsRow.lt st5.or g rfl); omega
          clear own5 gr5 mv5 c4 st
          have c4 : w5.cell? ⟨w.heap.size, 4, none⟩ = some (.slice (some ⟨b, off, none⟩) t.keys.length ck) := cell_of_row _ _ _ _ _ _ st5.box
          go_wp2_with fail
          go_loopg [3, 7, 46] t.keys.length (fun k v3 _ vn W => ∃ n : Nat, n ≤ t.keys.length ∧ t.keys.length ≤ n + k ∧ vn = .int .i64 n ∧ Wr w w.heap.size W v3 g c #[.string ⟨t.lang.toArray⟩, .string ⟨t.script.toArray⟩, .string ⟨t.region.toArray⟩, .slice av t.vars.length cv, .slice (some ⟨b, off, none⟩) t.keys.length ck] ((hd :: r.filter full) ++ [[117]] ++ (t.keys.take n).flatMap pairParts) r)
          case atStart => exact ⟨0, Nat.zero_le _, by omega, rfl, by simpa using st5⟩
          case round =>
            clear st5 hsz hlt hn HG
            obtain ⟨n, hn, hg, rfl, st⟩ := hrel
            have HG := hid hg
            have hsz : w.heap.size + 1 ≤ wr.heap.size := by have := (World.ownsRow.lt st.or g rfl); omega
            clear hg
            by_cases hlt : n < t.keys.length
            · obtain ⟨ky, vy, hp⟩ : ∃ a b, t.keys[n] = (a, b) := ⟨_, _, rfl⟩
              have c0 : wr.cell? ⟨b, off + n * 2, none⟩ = some (.string ⟨ky.toArray⟩) := (st.bel.cell (p := ⟨b, off + n * 2, none⟩) hbl).trans (HC.out n 0 _ hlt (by rw [hp]; rfl))
              have c1 : wr.cell? ⟨b, off + n * 2 + 1, none⟩ = some (.string ⟨vy.toArray⟩) := (st.bel.cell (p := ⟨b, off + n * 2 + 1, none⟩) hbl).trans (HC.out n 1 _ hlt (by rw [hp]; rfl))
              have step := take_pairs t.keys n hlt
              rw [hp] at step
              have HST := hid step
              have hlp := len_pairs (t.keys.take n)
              rw [List.length_take] at hlp
              have hl5 : ((hd :: r.filter full) ++ [[117]] ++ (t.keys.take n).flatMap pairParts).length ≤ 10000 := by simp only [List.length_append, List.length_cons, List.length_nil]; omega
              have HL5 := hid hl5
              clear step hp hl5 hlp
              have st1 := st.below hsz ((Below.refl _ _).alloc (Nat.le_refl _) (.cells #[.string ⟨ky.toArray⟩, .string ⟨vy.toArray⟩] 48))
              have hbox : (wr.alloc (.cells #[.string ⟨ky.toArray⟩, .string ⟨vy.toArray⟩] 48)).heap[wr.heap.size]? = some (.cells #[.string ⟨ky.toArray⟩, .string ⟨vy.toArray⟩] 48 (0, 0)) := heap_alloc_new wr _
              have how := World.ownsRow.lt st.os
              clear st
              go_wp2_with (at_builtin; refine wpList_pushK rfl (.tmp 50) (.tmp 53) rfl (w.heap.size + 1) _ _ ky (wr.heap.size + 1) (by simp) rfl st1.os rfl ?xe1 ?xe2 ?_)
              case xe1 => have := HL5.out; omega
              case xe2 => simp; omega
              intro v6 w6 own6 gr6 mv6
              have st6 := st1.push (by simp; omega) own6 gr6 mv6
              have hbox6 : w6.heap[wr.heap.size]? = some (.cells #[.string ⟨ky.toArray⟩, .string ⟨vy.toArray⟩] 48 (0, 0)) := by
                rw [gr6.block wr.heap.size (by simp) (fun e => by have := (how _ e.symm).2; omega)]; exact hbox
              have hz6 : w.heap.size + 1 ≤ w6.heap.size := by have := (World.ownsRow.lt st6.or g rfl); omega
              have hzb : wr.heap.size < w6.heap.size := lt_of_block hbox6
              have cb1 : w6.cell? ⟨wr.heap.size, 1, none⟩ = some (.string ⟨vy.toArray⟩) := cell_of_row _ _ _ _ _ _ hbox6
              clear own6 gr6 mv6 st1 hbox how c0 c1 hbox6
              by_cases hv0 : vy = []
              · have hb : (vy != []) = false := by rw [hv0]; rfl
                have hb2 : vy.isEmpty = true := by rw [hv0]; rfl
                have HV := hid hv0
                clear hv0
                go_wp2_with fail
                go_roundg (gk - 1)
                case measure => have := HG.out; omega
                case rel => exact ⟨n + 1, by omega, by have := HG.out; omega, by simp, by rw [HST.out, show pairParts (ky, vy) = [ky] from if_pos HV.out]; simpa using st6⟩
              · have hb : (vy != []) = true := by rw [bne_iff_ne]; exact hv0
                have hb2 : vy.isEmpty = false := by cases hh : vy with | nil => exact absurd hh hv0 | cons => rfl
                have HV := hid hv0
                clear hv0
                go_wp2_with (at_builtin; refine wpList_pushS rfl (.tmp 58) (.tmp 61) rfl (w.heap.size + 1) _ _ vy rfl st6.os rfl ?xf1 ?xf2 ?_)
                case xf1 => have := HL5.out; simp at this ⊢; omega
                case xf2 => exact hz6
                intro v7 w7 own7 gr7 mv7
                have st7 := st6.push hz6 own7 gr7 mv7
                clear own7 gr7 mv7 st6 cb1
                go_wp2_with fail
                go_roundg (gk - 1)
                case measure => have := HG.out; omega
                case rel => exact ⟨n + 1, by omega, by have := HG.out; omega, by simp, by rw [HST.out, show pairParts (ky, vy) = [ky, vy] from if_neg HV.out]; simpa using st7⟩
            · obtain rfl : n = t.keys.length := by omega
              rw [List.take_length] at st
              have hlp := len_pairs t.keys
              have hw : (hd :: r.filter full) ++ [[117]] ++ t.keys.flatMap pairParts = parts t := by unfold parts partsA; rw [← HH.out, HR.out]; simp [uPart, HK.out]
              have hjo := join_own wr _ _ _ st.os (by simp only [List.length_append, List.length_cons, List.length_nil]; omega) (by rw [hw]; exact HJ.out)
              rw [hw] at hjo
              change Calls _ _ _ _ fun e w' => e = .returned (.string ⟨(writeF t).toArray⟩) ∧ _ at hjo
              have HJJ := hid hjo
              have bel := hid st.bel
              clear hw st hjo hlp
              go_wp2_with fail
              refine HJJ.out.mono ?_
              rintro e w6 ⟨rfl, hb6⟩
              go_wp2_with fail
              go_ret
              exact ⟨rfl, bel.out.then hb6⟩
  · have hlb : t.lang.isEmpty = false := by cases hh : t.lang with | nil => exact absurd hh hlang | cons => rfl
    have hhd2 : hd = t.lang := by rw [hhd]; unfold headPart; rw [if_neg hlang]
    have HLG := hid hlang
    clear hhd hlang
    go_enter Tryz.func73, Tryz.ntmps73
    have o20 : ∀ (W : World) (k : Nat), W.heap.size = k → w.heap.size + 1 ≤ k → OwnS (W.alloc (.cells #[.string ⟨t.script.toArray⟩, .string ⟨t.region.toArray⟩] 9)) (w.heap.size + 1) (.slice (some ⟨k, 0, none⟩) 2 2) [t.script, t.region] := fun W k hk hW => by
      subst hk
      simpa [S] using fresh_own W [t.script, t.region] (w.heap.size + 1) hW (by simp)
    go_wp2_with (at_builtin; refine wpList_appRd rfl (.tmp 20) (.tmp 22) rfl (w.heap.size + 1) _ _ [t.script, t.region] t.vars rfl ?yown rfl ?yrd ?yhl ?yhB ?_)
    case yown => exact o20 ((w.alloc _).alloc _) (w.heap.size + 1 + 1) (by simp) (by omega)
    case yrd => exact HSS.out.below (((Below.refl _ _).alloc (Nat.le_refl _) _).alloc (by simp) _ |>.alloc (by simp; omega) _)
    case yhl => simp; omega
    case yhB => simp
    intro vr w4 own4 gr4 mv4
    obtain ⟨g, c, hvr⟩ : ∃ g c, vr = .slice (some ⟨g, 0, none⟩) ((t.script :: t.region :: t.vars).length) c := by
      rcases own4.shape with ⟨_, e⟩ | ⟨g, cap, cur, e, _⟩
      · simp at e
      · exact ⟨g, cap, e⟩
    obtain ⟨r, hr⟩ : ∃ x, x = t.script :: t.region :: t.vars := ⟨_, rfl⟩
    rw [← hr] at own4 hvr
    have hrl : r.length ≤ 1002 := by rw [hr]; simp; omega
    have hr0 : 2 ≤ r.length := by rw [hr]; simp
    subst hvr
    have HR := hid hr
    have wq := Wr.first w w4 _ _ _ _ r g c own4 gr4 mv4
    clear own4 gr4 mv4 o20 hr
    go_wp2_with fail
    go_loopg [3, 5, 25] r.length (fun k v3 _ vn W => ∃ n : Nat, n ≤ r.length ∧ r.length ≤ n + k ∧ vn = .int .i64 n ∧ Wr w w.heap.size W v3 g c #[.string ⟨t.lang.toArray⟩, .string ⟨t.script.toArray⟩, .string ⟨t.region.toArray⟩, .slice av t.vars.length cv, .slice ak t.keys.length ck] (hd :: (r.take n).filter full) r)
    case atStart => exact ⟨0, Nat.zero_le _, by omega, rfl, by rw [hhd2]; exact wq⟩
    case round =>
      obtain ⟨n, hn, hg, rfl, st⟩ := hrel
      clear wq hhd2
      have HG := hid hg
      have hsz : w.heap.size + 1 ≤ wr.heap.size := by have := (World.ownsRow.lt st.or g rfl); omega
      clear hg
      by_cases hlt : n < r.length
      · obtain ⟨y, hy⟩ : ∃ y, y = r[n] := ⟨_, rfl⟩
        have cy : wr.cell? ⟨g, n, none⟩ = some (.string ⟨y.toArray⟩) := by
          rw [World.ownsRow.cellAt st.or n (by omega), hy]
          simp [S, hlt]
        have step := take_full r n hlt
        rw [← hy] at step
        have HST := hid step
        clear step hy
        by_cases hy0 : y = []
        · have hb : (y != []) = false := by rw [hy0]; rfl
          have hb2 : y.isEmpty = true := by rw [hy0]; rfl
          have HY := hid hy0
          clear hy0
          go_wp2_with fail
          go_roundg (gk - 1)
          case measure => have := HG.out; omega
          case rel => exact ⟨n + 1, by omega, by have := HG.out; omega, by simp, by rw [HST.out, if_pos HY.out, List.append_nil]; exact st⟩
        · have hb : (y != []) = true := by rw [bne_iff_ne]; exact hy0
          have hb2 : y.isEmpty = false := by cases hh : y with | nil => exact absurd hh hy0 | cons => rfl
          have HY := hid hy0
          clear hy0
          go_wp2_with (at_builtin; refine wpList_pushS rfl (.tmp 31) (.tmp 33) rfl (w.heap.size + 1) u3 _ y rfl st.os rfl ?yc1 ?yc2 ?_)
          case yc1 => have := len_full r n; simp; omega
          case yc2 => exact hsz
          intro v5 w5 own5 gr5 mv5
          have st5 := st.push hsz own5 gr5 mv5
          clear own5 gr5 mv5 cy
          go_wp2_with fail
          go_roundg (gk - 1)
          case measure => have := HG.out; omega
          case rel => exact ⟨n + 1, by omega, by have := HG.out; omega, by simp, by rw [HST.out, if_neg HY.out]; exact st5⟩
      · obtain rfl : n = r.length := by omega
        rw [List.take_length] at st
        have c4 : wr.cell? ⟨w.heap.size, 4, none⟩ = some (.slice ak t.keys.length ck) := cell_of_row _ _ _ _ _ _ st.box
        have hlf := len_full r r.length
        rw [List.take_length] at hlf
        by_cases hk0 : t.keys = []
        · have hkl : t.keys.length = 0 := by rw [hk0]; rfl
          rw [hkl] at c4
          have HK := hid hk0
          have hw : hd :: r.filter full = parts t := by unfold parts partsA; rw [hk0, ← HH.out, HR.out]; simp [uPart]
          have hjo := join_own wr _ u3 _ st.os (by simp; omega) (by rw [hw]; exact HJ.out)
          rw [hw] at hjo
          change Calls _ _ _ _ fun e w' => e = .returned (.string ⟨(writeF t).toArray⟩) ∧ _ at hjo
          have HJJ := hid hjo
          have bel := hid st.bel
          clear hk0 hw st hjo
          go_wp2_with fail
          refine wp_loop_rounds 1 ?_
          rw [rounds_succ]
          go_wp2_with fail
          refine HJJ.out.mono ?_
          rintro e w6 ⟨rfl, hb6⟩
          go_wp2_with fail
          go_ret
          exact ⟨rfl, bel.out.then hb6⟩
        · obtain ⟨b, off, rfl, hbl, hc⟩ := HP.out hk0
          have hkp : 0 < t.keys.length := List.length_pos_iff.2 hk0
          have hkl : (t.keys.length == 0) = false := by rw [beq_eq_false_iff_ne]; omega
          have HK := hid hk0
          have HC := hid hc
          have HKP := hid hkp
          clear hc hk0
          go_wp2_with (at_builtin; refine wpList_pushS rfl (.tmp 40) (.tmp 41) rfl (w.heap.size + 1) u3 _ [117] rfl st.os rfl ?yd1 ?yd2 ?_)
          case yd1 => simp; omega
          case yd2 => exact hsz
          intro v5 w5 own5 gr5 mv5
          have st5 := st.push hsz own5 gr5 mv5
          have hz5 : w.heap.size + 1 ≤ w5.heap.size := by have := (World.ownsRow.lt st5.or g rfl); omega
          clear own5 gr5 mv5 c4 st
          have c4 : w5.cell? ⟨w.heap.size, 4, none⟩ = some (.slice (some ⟨b, off, none⟩) t.keys.length ck) := cell_of_row _ _ _ _ _ _ st5.box
          go_wp2_with fail
          go_loopg [3, 7, 46] t.keys.length (fun k v3 _ vn W => ∃ n : Nat, n ≤ t.keys.length ∧ t.keys.length ≤ n + k ∧ vn = .int .i64 n ∧ Wr w w.heap.size W v3 g c #[.string ⟨t.lang.toArray⟩, .string ⟨t.script.toArray⟩, .string ⟨t.region.toArray⟩, .slice av t.vars.length cv, .slice (some ⟨b, off, none⟩) t.keys.length ck] ((hd :: r.filter full) ++ [[117]] ++ (t.keys.take n).flatMap pairParts) r)
          case atStart => exact ⟨0, Nat.zero_le _, by omega, rfl, by simpa using st5⟩
          case round =>
            clear st5 hsz hlt hn HG
            obtain ⟨n, hn, hg, rfl, st⟩ := hrel
            have HG := hid hg
            have hsz : w.heap.size + 1 ≤ wr.heap.size := by have := (World.ownsRow.lt st.or g rfl); omega
            clear hg
            by_cases hlt : n < t.keys.length
            · obtain ⟨ky, vy, hp⟩ : ∃ a b, t.keys[n] = (a, b) := ⟨_, _, rfl⟩
              have c0 : wr.cell? ⟨b, off + n * 2, none⟩ = some (.string ⟨ky.toArray⟩) := (st.bel.cell (p := ⟨b, off + n * 2, none⟩) hbl).trans (HC.out n 0 _ hlt (by rw [hp]; rfl))
              have c1 : wr.cell? ⟨b, off + n * 2 + 1, none⟩ = some (.string ⟨vy.toArray⟩) := (st.bel.cell (p := ⟨b, off + n * 2 + 1, none⟩) hbl).trans (HC.out n 1 _ hlt (by rw [hp]; rfl))
              have step := take_pairs t.keys n hlt
              rw [hp] at step
              have HST := hid step
              have hlp := len_pairs (t.keys.take n)
              rw [List.length_take] at hlp
              have hl5 : ((hd :: r.filter full) ++ [[117]] ++ (t.keys.take n).flatMap pairParts).length ≤ 10000 := by simp only [List.length_append, List.length_cons, List.length_nil]; omega
              have HL5 := hid hl5
              clear step hp hl5 hlp
              have st1 := st.below hsz ((Below.refl _ _).alloc (Nat.le_refl _) (.cells #[.string ⟨ky.toArray⟩, .string ⟨vy.toArray⟩] 48))
              have hbox : (wr.alloc (.cells #[.string ⟨ky.toArray⟩, .string ⟨vy.toArray⟩] 48)).heap[wr.heap.size]? = some (.cells #[.string ⟨ky.toArray⟩, .string ⟨vy.toArray⟩] 48 (0, 0)) := heap_alloc_new wr _
              have how := World.ownsRow.lt st.os
              clear st
              go_wp2_with (at_builtin; refine wpList_pushK rfl (.tmp 50) (.tmp 53) rfl (w.heap.size + 1) _ _ ky (wr.heap.size + 1) (by simp) rfl st1.os rfl ?ye1 ?ye2 ?_)
              case ye1 => have := HL5.out; omega
              case ye2 => simp; omega
              intro v6 w6 own6 gr6 mv6
              have st6 := st1.push (by simp; omega) own6 gr6 mv6
              have hbox6 : w6.heap[wr.heap.size]? = some (.cells #[.string ⟨ky.toArray⟩, .string ⟨vy.toArray⟩] 48 (0, 0)) := by
                rw [gr6.block wr.heap.size (by simp) (fun e => by have := (how _ e.symm).2; omega)]; exact hbox
              have hz6 : w.heap.size + 1 ≤ w6.heap.size := by have := (World.ownsRow.lt st6.or g rfl); omega
              have hzb : wr.heap.size < w6.heap.size := lt_of_block hbox6
              have cb1 : w6.cell? ⟨wr.heap.size, 1, none⟩ = some (.string ⟨vy.toArray⟩) := cell_of_row _ _ _ _ _ _ hbox6
              clear own6 gr6 mv6 st1 hbox how c0 c1 hbox6
              by_cases hv0 : vy = []
              · have hb : (vy != []) = false := by rw [hv0]; rfl
                have hb2 : vy.isEmpty = true := by rw [hv0]; rfl
                have HV := hid hv0
                clear hv0
                go_wp2_with fail
                go_roundg (gk - 1)
                case measure => have := HG.out; omega
                case rel => exact ⟨n + 1, by omega, by have := HG.out; omega, by simp, by rw [HST.out, show pairParts (ky, vy) = [ky] from if_pos HV.out]; simpa using st6⟩
              · have hb : (vy != []) = true := by rw [bne_iff_ne]; exact hv0
                have hb2 : vy.isEmpty = false := by cases hh : vy with | nil => exact absurd hh hv0 | cons => rfl
                have HV := hid hv0
                clear hv0
                go_wp2_with (at_builtin; refine wpList_pushS rfl (.tmp 58) (.tmp 61) rfl (w.heap.size + 1) _ _ vy rfl st6.os rfl ?yf1 ?yf2 ?_)
                case yf1 => have := HL5.out; simp at this ⊢; omega
                case yf2 => exact hz6
                intro v7 w7 own7 gr7 mv7
                have st7 := st6.push hz6 own7 gr7 mv7
                clear own7 gr7 mv7 st6 cb1
                go_wp2_with fail
                go_roundg (gk - 1)
                case measure => have := HG.out; omega
                case rel => exact ⟨n + 1, by omega, by have := HG.out; omega, by simp, by rw [HST.out, show pairParts (ky, vy) = [ky, vy] from if_neg HV.out]; simpa using st7⟩
            · obtain rfl : n = t.keys.length := by omega
              rw [List.take_length] at st
              have hlp := len_pairs t.keys
              have hw : (hd :: r.filter full) ++ [[117]] ++ t.keys.flatMap pairParts = parts t := by unfold parts partsA; rw [← HH.out, HR.out]; simp [uPart, HK.out]
              have hjo := join_own wr _ _ _ st.os (by simp only [List.length_append, List.length_cons, List.length_nil]; omega) (by rw [hw]; exact HJ.out)
              rw [hw] at hjo
              change Calls _ _ _ _ fun e w' => e = .returned (.string ⟨(writeF t).toArray⟩) ∧ _ at hjo
              have HJJ := hid hjo
              have bel := hid st.bel
              clear hw st hjo hlp
              go_wp2_with fail
              refine HJJ.out.mono ?_
              rintro e w6 ⟨rfl, hb6⟩
              go_wp2_with fail
              go_ret
              exact ⟨rfl, bel.out.then hb6⟩
end Go.Proofs.YtjlfchnnhglbjaaGreat
