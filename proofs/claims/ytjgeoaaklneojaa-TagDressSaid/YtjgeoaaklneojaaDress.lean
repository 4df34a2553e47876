/- The walk of the law TagDress. -/
import Derived.Test.YtjgeoaaklneojaaWakes
import Derived.Test.YtjgeoaaklneojaaDressP
set_option linter.unusedVariables false
set_option linter.unusedSimpArgs false
namespace Go.Proofs.Ytjgeoaaklneojaa
open Go.RowKit Go.Lib Go.Sort

theorem BytesAt.set {w : World} {b : Nat} {l : List UInt8} {k : Nat} {c d : UInt8} {v : Value} (h : BytesAt w b l) (hc : l[k]? = some c) (hv : v = .int .u8 (d.toNat : Int)) : BytesAt (w.setCell ⟨b, k, none⟩ v) b (l.set k d) := by
  intro j e he
  rw [World.frozen?_setCell]
  by_cases hj : j = k
  · subst hj
    have hlt := (List.getElem?_eq_some_iff.1 hc).1
    rw [List.getElem?_set_self hlt] at he
    injection he with he
    subst he
    have h0 := h j c hc
    exact ⟨by rw [World.cell?_setCell_same w _ _ h0.1, hv], h0.2⟩
  · rw [List.getElem?_set_ne (Ne.symm hj)] at he
    have h0 := h j e he
    exact ⟨by rw [World.cell?_setCell_other _ _ _ _ (by simp [Ne.symm hj])]; exact h0.1, h0.2⟩
theorem map_set_cls {l : Str} {k : Nat} {c d : UInt8} (hc : l[k]? = some c) (h : cls d = cls c) : (l.set k d).map cls = l.map cls := by
  apply List.ext_getElem?
  intro j
  rw [List.getElem?_map, List.getElem?_map]
  by_cases hj : j = k
  · subst hj
    rw [List.getElem?_set_self (List.getElem?_eq_some_iff.1 hc).1, hc]
    simp [h]
  · rw [List.getElem?_set_ne (Ne.symm hj)]
theorem cls_up (c : UInt8) : 97 ≤ (c.toNat : Int) → (c.toNat : Int) ≤ 122 → cls (c - 32) = cls c ∧ (((c - 32 : UInt8)).toNat : Int) = (c.toNat : Int) - 32 := all_bytes (p := fun c => 97 ≤ (c.toNat : Int) → (c.toNat : Int) ≤ 122 → cls (c - 32) = cls c ∧ (((c - 32 : UInt8)).toNat : Int) = (c.toNat : Int) - 32) (by decide +kernel) c
theorem cls_down (c : UInt8) : 65 ≤ (c.toNat : Int) → (c.toNat : Int) ≤ 90 → cls (c + 32) = cls c ∧ (((c + 32 : UInt8)).toNat : Int) = (c.toNat : Int) + 32 := all_bytes (p := fun c => 65 ≤ (c.toNat : Int) → (c.toNat : Int) ≤ 90 → cls (c + 32) = cls c ∧ (((c + 32 : UInt8)).toNat : Int) = (c.toNat : Int) + 32) (by decide +kernel) c
theorem cls_45 (c : UInt8) : (c.toNat : Int) = 45 → cls 95 = cls c := all_bytes (p := fun c => (c.toNat : Int) = 45 → cls 95 = cls c) (by decide +kernel) c
theorem cls_95 (c : UInt8) : (c.toNat : Int) = 95 → cls 45 = cls c := all_bytes (p := fun c => (c.toNat : Int) = 95 → cls 45 = cls c) (by decide +kernel) c

theorem BytesAt.below {w w' : World} {b : Nat} {l : List UInt8} (h : BytesAt w b l) (hb : b < w.heap.size) (hw : Below w.heap.size w w') : BytesAt w' b l := fun j c hc =>
  ⟨(hw.cell (p := ⟨b, j, none⟩) hb).trans (h j c hc).1, (hw.frozen (p := ⟨b, j, none⟩) hb).trans (h j c hc).2⟩
theorem sameB_refl (a : Tg) : sameB a a = true := by simp [sameB]

set_option maxRecDepth 100000 in
set_option maxHeartbeats 8000000 in
theorem dress_any (s : ByteArray) (a : Option Addr) (len cap : Nat) (w : World) (hs : s.size ≤ maxLen) (hl : len ≤ maxLen)
    (hc : ∀ i, i < len → ∃ x : Addr, a = some x ∧ ∃ b : Bool, w.cell? (x.add i) = some (.bool b)) :
    Calls Try.prog 3 #[.string s, .slice a len cap] w fun e w' => e = .returned (.bool true) ∧ Below w.heap.size w w' := by
  unfold maxLen at hs hl
  have hcv := fun W => run_bytes_of_string (P := Try.prog) W 9 24 5 s Try.underlying9 Try.underlying24 Try.underlying5
  have HCV := hid hcv
  clear hcv
  go_enter Try.func3, Try.ntmps3
  go_wp2_with fail
  refine (wakes_any _).mono ?_
  rintro e w1 ⟨rfl, hb1⟩
  have hcw := HCV.out w1
  generalize grownCap w1 s.size 0 5 = cc at hcw
  have hrow := BytesAt.row w1 s cc 5
  have hbel : Below w.heap.size w ((w1.alloc (.cells (bytesRow s cc) 5 ((bytesRow s cc).size, (bytesRow s cc).size + 1))).drew) := (hb1.alloc hb1.size _).drew
  go_wp2_with fail
  go_loopg [19] len (fun g v W => ∃ (n : Nat) (l : Str), n ≤ len ∧ len ≤ n + g ∧ v = .int .i64 n ∧ l.length = s.size ∧ BytesAt W w1.heap.size l ∧ l.map cls = s.data.toList.map cls ∧ Below w.heap.size w W ∧ w1.heap.size < W.heap.size)
  case atStart => exact ⟨0, s.data.toList, Nat.zero_le _, by omega, rfl, by simp, hrow.drew, rfl, hbel, by simp⟩
  case round =>
    obtain ⟨n, l, hn, hg, rfl, hll, hby, hcl, hbw, hsz⟩ := hrel
    clear hrow hbel hcw HCV
    have HG := hid hg
    have HCL := hid hcl
    have HB := hid hbw
    clear hg hcl
    by_cases hlt : n < len
    · obtain ⟨x, rfl, up, hcell⟩ := hc n hlt
      have cu : wr.cell? (x.add n) = some (.bool up) := (hbw.cell (p := x.add n) (World.block_lt_of_cell? w _ hcell)).trans hcell
      clear hbw hcell hc
      by_cases hns : n < s.size
      · obtain ⟨c, hcn⟩ : ∃ c, l[n]? = some c := ⟨l[n], List.getElem?_eq_getElem _⟩
        obtain ⟨cb, fb⟩ := hby n c hcn
        have hb : (c.toNat : Int) < 256 := by have := c.toNat_lt; omega
        have hb0 : 0 ≤ (c.toNat : Int) := by omega
        have HY := hid (fun d v => BytesAt.set (d := d) (v := v) hby hcn)
        have HN := hid hcn
        have HBY := hid hby
        have H1 := hid (cls_up c)
        have H2 := hid (cls_down c)
        have H3 := hid (cls_45 c)
        have H4 := hid (cls_95 c)
        clear hby hcn
        generalize hm : (c.toNat : Int) = m at *
        cases up
        · go_wp2_with fail
          go_roundg (gk - 1)
          case measure => have := HG.out; omega
          case rel => exact ⟨n + 1, l, by omega, by have := HG.out; omega, by simp, hll, HBY.out, HCL.out, HB.out, hsz⟩
        · by_cases h1 : 97 ≤ m ∧ m ≤ 122
          · obtain ⟨ha, hb'⟩ := h1
            have e1 := (H1.out ha hb').2
            go_wp2_with fail
            go_roundg (gk - 1)
            case measure => have := HG.out; omega
            case rel => exact ⟨n + 1, l.set n (c - 32), by omega, by have := HG.out; omega, by simp, by simpa using hll, HY.out (c - 32) _ (by rw [e1]), by rw [map_set_cls HN.out ((H1.out ha hb').1)]; exact HCL.out, HB.out.setCell (p := ⟨w1.heap.size, n, none⟩) hb1.size _, by simpa using hsz⟩
          · by_cases h2 : 65 ≤ m ∧ m ≤ 90
            · obtain ⟨ha, hb'⟩ := h2
              have e1 := (H2.out ha hb').2
              go_wp2_with fail
              go_roundg (gk - 1)
              case measure => have := HG.out; omega
              case rel => exact ⟨n + 1, l.set n (c + 32), by omega, by have := HG.out; omega, by simp, by simpa using hll, HY.out (c + 32) _ (by rw [e1]), by rw [map_set_cls HN.out ((H2.out ha hb').1)]; exact HCL.out, HB.out.setCell (p := ⟨w1.heap.size, n, none⟩) hb1.size _, by simpa using hsz⟩
            · by_cases h3 : m = 45
              · go_wp2_with fail
                go_roundg (gk - 1)
                case measure => have := HG.out; omega
                case rel => exact ⟨n + 1, l.set n (95), by omega, by have := HG.out; omega, by simp, by simpa using hll, HY.out (95) _ (rfl), by rw [map_set_cls HN.out (H3.out h3)]; exact HCL.out, HB.out.setCell (p := ⟨w1.heap.size, n, none⟩) hb1.size _, by simpa using hsz⟩
              · by_cases h4 : m = 95
                · go_wp2_with fail
                  go_roundg (gk - 1)
                  case measure => have := HG.out; omega
                  case rel => exact ⟨n + 1, l.set n (45), by omega, by have := HG.out; omega, by simp, by simpa using hll, HY.out (45) _ (rfl), by rw [map_set_cls HN.out (H4.out h4)]; exact HCL.out, HB.out.setCell (p := ⟨w1.heap.size, n, none⟩) hb1.size _, by simpa using hsz⟩
                · go_wp2_with fail
                  all_goals go_roundg (gk - 1)
                  all_goals first
                    | (have := HG.out; omega)
                    | exact ⟨n + 1, l, by omega, by have := HG.out; omega, by simp, hll, HBY.out, HCL.out, HB.out, hsz⟩
      · go_wp2_with fail
        refine (parse_any s wr (by unfold maxLen; omega)).mono ?_
        rintro e w3 ⟨vv, kv, rfl, o1, o2, hb3⟩
        obtain ⟨x3, hx3⟩ : ∃ k, k = parseF s.data.toList := ⟨_, rfl⟩
        rw [← hx3] at o1 o2 ⊢
        have hpl : parseF l = x3 := by rw [hx3]; exact parse_same HCL.out
        have RA := hid (show RdT w3 (.agg (tagCells x3.tag vv kv)) x3.tag from ⟨vv, kv, rfl, o1.rd, o2.rd⟩)
        obtain ⟨av, cv, rfl⟩ := own_sliceS o1
        obtain ⟨ak, ck, rfl⟩ := own_sliceP o2
        have hby3 := hby.below hsz hb3
        have hB3 := HB.out.then hb3
        have hsz3 : w1.heap.size < w3.heap.size := Nat.lt_of_lt_of_le hsz hb3.size
        clear o1 o2 hb3 hby hx3
        simp only [tagCells, S] at RA ⊢
        have hby4 := hby3.below hsz3 (below2 w3 (.cells #[.string ⟨x3.tag.lang.toArray⟩, .string ⟨x3.tag.script.toArray⟩, .string ⟨x3.tag.region.toArray⟩, .slice av x3.tag.vars.length cv, .slice ak x3.tag.keys.length ck] 28) (.cells #[.int .i64 (x3.err : Int), .int .i64 (x3.pos : Int)] 31))
        have hback := run_convert_bytes_back (P := Try.prog) _ 24 9 5 ⟨w1.heap.size, 0, none⟩ cc l Try.underlying24 Try.underlying5 Try.underlying9 (fun j hj => by
          have := (hby4 j _ (List.getElem?_eq_getElem hj)).1
          simpa [Addr.add_lit] using this)
        rw [hll] at hback
        go_wp2_with fail
        have hp := parse_any ⟨l.toArray⟩ ((w3.alloc (.cells #[.string ⟨x3.tag.lang.toArray⟩, .string ⟨x3.tag.script.toArray⟩, .string ⟨x3.tag.region.toArray⟩, .slice av x3.tag.vars.length cv, .slice ak x3.tag.keys.length ck] 28)).alloc (.cells #[.int .i64 (x3.err : Int), .int .i64 (x3.pos : Int)] 31)) (by rw [Lib.size_eq]; unfold maxLen; show l.length ≤ _; omega)
        rw [show (⟨l.toArray⟩ : ByteArray).data.toList = l from rfl, hpl] at hp
        refine hp.mono ?_
        rintro e w5 ⟨vv5, kv5, rfl, o5, p5, hb5⟩
        have RB := hid (show RdT w5 (.agg (tagCells x3.tag vv5 kv5)) x3.tag from ⟨vv5, kv5, rfl, o5.rd, p5.rd⟩)
        obtain ⟨av5, cv5, rfl⟩ := own_sliceS o5
        obtain ⟨ak5, ck5, rfl⟩ := own_sliceP p5
        have ht5 : w5.heap[w3.heap.size]? = some _ := (hb5.block _ (by simp; omega)).trans (heap_alloc2_old _ _ _)
        have hs5 : w5.heap[w3.heap.size + 1]? = some _ := (hb5.block _ (by simp)).trans (heap_alloc2_new _ _ _)
        have hb5' := (below2 w3 _ _).then hb5
        have hB5 := hB3.then hb5'
        have RA5 := hid (RA.out.below hb5')
        have HB5 := hid hB5
        obtain ⟨c0, c1, c2, c3, c4⟩ := box_cells ht5
        have d0 : w5.cell? ⟨w3.heap.size + 1, 0, none⟩ = some (.int .i64 (x3.err : Int)) := cell_of_row _ _ _ _ _ _ hs5
        have d1 : w5.cell? ⟨w3.heap.size + 1, 1, none⟩ = some (.int .i64 (x3.pos : Int)) := cell_of_row _ _ _ _ _ _ hs5
        have z0 := lt_of_block ht5
        have z1 := lt_of_block hs5
        clear o5 p5 hb5 hb5' hB5 hp hback hby3 hby4 hB3 hsz3 ht5 hs5 RA
        simp only [tagCells, S] at RB ⊢
        go_wp2_with fail
        have hs6 := same_any _ _ _ x3.tag x3.tag (RA5.out.below (below2 w5 (.cells #[.string ⟨x3.tag.lang.toArray⟩, .string ⟨x3.tag.script.toArray⟩, .string ⟨x3.tag.region.toArray⟩, .slice av5 x3.tag.vars.length cv5, .slice ak5 x3.tag.keys.length ck5] 28) (.cells #[.int .i64 (x3.err : Int), .int .i64 (x3.pos : Int)] 31))) (RB.out.below (below2 w5 _ _))
        rw [sameB_refl] at hs6
        refine hs6.mono ?_
        rintro e w7 ⟨rfl, hb7⟩
        have hB7 := HB5.out.then ((below2 w5 _ _).then hb7)
        clear hs6 hb7 c0 c1 c2 c3 c4 d0 d1 z0 z1
        go_wp2_with fail
        go_ret
        exact ⟨rfl, hB7⟩
    · go_wp2_with fail
      refine (parse_any s wr (by unfold maxLen; omega)).mono ?_
      rintro e w3 ⟨vv, kv, rfl, o1, o2, hb3⟩
      obtain ⟨x3, hx3⟩ : ∃ k, k = parseF s.data.toList := ⟨_, rfl⟩
      rw [← hx3] at o1 o2 ⊢
      have hpl : parseF l = x3 := by rw [hx3]; exact parse_same HCL.out
      have RA := hid (show RdT w3 (.agg (tagCells x3.tag vv kv)) x3.tag from ⟨vv, kv, rfl, o1.rd, o2.rd⟩)
      obtain ⟨av, cv, rfl⟩ := own_sliceS o1
      obtain ⟨ak, ck, rfl⟩ := own_sliceP o2
      have hby3 := hby.below hsz hb3
      have hB3 := HB.out.then hb3
      have hsz3 : w1.heap.size < w3.heap.size := Nat.lt_of_lt_of_le hsz hb3.size
      clear o1 o2 hb3 hby hx3
      simp only [tagCells, S] at RA ⊢
      have hby4 := hby3.below hsz3 (below2 w3 (.cells #[.string ⟨x3.tag.lang.toArray⟩, .string ⟨x3.tag.script.toArray⟩, .string ⟨x3.tag.region.toArray⟩, .slice av x3.tag.vars.length cv, .slice ak x3.tag.keys.length ck] 28) (.cells #[.int .i64 (x3.err : Int), .int .i64 (x3.pos : Int)] 31))
      have hback := run_convert_bytes_back (P := Try.prog) _ 24 9 5 ⟨w1.heap.size, 0, none⟩ cc l Try.underlying24 Try.underlying5 Try.underlying9 (fun j hj => by
        have := (hby4 j _ (List.getElem?_eq_getElem hj)).1
        simpa [Addr.add_lit] using this)
      rw [hll] at hback
      go_wp2_with fail
      have hp := parse_any ⟨l.toArray⟩ ((w3.alloc (.cells #[.string ⟨x3.tag.lang.toArray⟩, .string ⟨x3.tag.script.toArray⟩, .string ⟨x3.tag.region.toArray⟩, .slice av x3.tag.vars.length cv, .slice ak x3.tag.keys.length ck] 28)).alloc (.cells #[.int .i64 (x3.err : Int), .int .i64 (x3.pos : Int)] 31)) (by rw [Lib.size_eq]; unfold maxLen; show l.length ≤ _; omega)
      rw [show (⟨l.toArray⟩ : ByteArray).data.toList = l from rfl, hpl] at hp
      refine hp.mono ?_
      rintro e w5 ⟨vv5, kv5, rfl, o5, p5, hb5⟩
      have RB := hid (show RdT w5 (.agg (tagCells x3.tag vv5 kv5)) x3.tag from ⟨vv5, kv5, rfl, o5.rd, p5.rd⟩)
      obtain ⟨av5, cv5, rfl⟩ := own_sliceS o5
      obtain ⟨ak5, ck5, rfl⟩ := own_sliceP p5
      have ht5 : w5.heap[w3.heap.size]? = some _ := (hb5.block _ (by simp; omega)).trans (heap_alloc2_old _ _ _)
      have hs5 : w5.heap[w3.heap.size + 1]? = some _ := (hb5.block _ (by simp)).trans (heap_alloc2_new _ _ _)
      have hb5' := (below2 w3 _ _).then hb5
      have hB5 := hB3.then hb5'
      have RA5 := hid (RA.out.below hb5')
      have HB5 := hid hB5
      obtain ⟨c0, c1, c2, c3, c4⟩ := box_cells ht5
      have d0 : w5.cell? ⟨w3.heap.size + 1, 0, none⟩ = some (.int .i64 (x3.err : Int)) := cell_of_row _ _ _ _ _ _ hs5
      have d1 : w5.cell? ⟨w3.heap.size + 1, 1, none⟩ = some (.int .i64 (x3.pos : Int)) := cell_of_row _ _ _ _ _ _ hs5
      have z0 := lt_of_block ht5
      have z1 := lt_of_block hs5
      clear o5 p5 hb5 hb5' hB5 hp hback hby3 hby4 hB3 hsz3 ht5 hs5 RA
      simp only [tagCells, S] at RB ⊢
      go_wp2_with fail
      have hs6 := same_any _ _ _ x3.tag x3.tag (RA5.out.below (below2 w5 (.cells #[.string ⟨x3.tag.lang.toArray⟩, .string ⟨x3.tag.script.toArray⟩, .string ⟨x3.tag.region.toArray⟩, .slice av5 x3.tag.vars.length cv5, .slice ak5 x3.tag.keys.length ck5] 28) (.cells #[.int .i64 (x3.err : Int), .int .i64 (x3.pos : Int)] 31))) (RB.out.below (below2 w5 _ _))
      rw [sameB_refl] at hs6
      refine hs6.mono ?_
      rintro e w7 ⟨rfl, hb7⟩
      have hB7 := HB5.out.then ((below2 w5 _ _).then hb7)
      clear hs6 hb7 c0 c1 c2 c3 c4 d0 d1 z0 z1
      go_wp2_with fail
      go_ret
      exact ⟨rfl, hB7⟩
end Go.Proofs.Ytjgeoaaklneojaa

