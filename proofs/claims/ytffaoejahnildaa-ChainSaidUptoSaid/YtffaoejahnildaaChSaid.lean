/- The walk of the law ChainSaid. -/
import Derived.Test.YtffaoejahnildaaChEnds
set_option linter.unusedVariables false
set_option linter.unusedSimpArgs false
namespace Go.Proofs.Ytffaoejahnildaa
open Go.RowKit Go.Lib Go.Sort Go.Maps

theorem cell_two_new2 (w : World) (a b : Value) (e : TypeId) (j : Nat) (u : Value) (h : [a, b][j]? = some u) : (w.alloc (.cells #[a, b] e)).cell? ((⟨w.heap.size, 0, none⟩ : Addr).add j) = some u := by
  have hr := heap_alloc_new w (.cells #[a, b] e)
  have hx := cell_of_row _ _ j _ _ _ hr
  have hadd : ((⟨w.heap.size, 0, none⟩ : Addr).add j) = ⟨w.heap.size, j, none⟩ := by
    unfold Addr.add
    split
    · next e => subst e; rfl
    · simp
  rw [hadd, hx]
  match j, h with
  | 0, h => simpa using h
  | 1, h => simpa using h

/-- one pair more at the end of a list that the call owns -/
theorem wpList_pushPL {w : World} {ops : Array Oper} {rest : List Oper} {o : Oper} {a : Act} {Q : Exit → Act → World → Prop} (hgd : o.guard = none) (s x : Operand)
    (ho : o.op = .call { callee := .builtin .append, args := #[s, x], argTypes := #[22, 22] })
    (B : Nat) (v : Value) (l : List (Str × Str)) (y : Str × Str) (hs : a.eval s = v) (hown : OwnP w B v l) (hx : a.eval x = .slice (some ⟨w.heap.size, 0, none⟩) 1 1) (hl : l.length ≤ 1000000000000) (hB : B ≤ w.heap.size)
    (h : ∀ v' w', OwnP w' B v' (l ++ [y]) → w.grownBy w' v.ownBlock → Moved w v v' → wpList Try.prog ops Q rest (a.put o.dst v') w') :
    wpList Try.prog ops Q (o :: rest) a (w.alloc (.cells #[.string ⟨y.1.toArray⟩, .string ⟨y.2.toArray⟩] 33)) := by
  obtain ⟨i0, hi, hz0, hz1, hz2⟩ := info_parts infoP
  refine wpList_app hgd s x 22 ho B 33 i0 (.agg #[.string ⟨#[]⟩, .string ⟨#[]⟩]) 2 32 Try.underlying22 hi hz0 hz1 hz2 rfl (by decide) v l.length (flat2 l) hs (World.ownsRow.alloc hown _) ⟨w.heap.size, 0, none⟩ 1 1 [.string ⟨y.1.toArray⟩, .string ⟨y.2.toArray⟩] hx rfl (cell_two_new2 _ _ _ _) (fun u hu => by simp at hu; rcases hu with rfl | rfl <;> rfl) (by unfold maxLen; omega) (by omega) (by simp; omega) ?_
  intro v' w' own gr mv
  refine h v' w' (own_cast own (by simp) (by simp [flat2, enc2, S])) ⟨gr.os, gr.tape, gr.output, Nat.le_trans (by simp) gr.size, fun k hk hne => ?_⟩ ?_
  · rw [gr.block k (by simp; omega) hne]; exact heap_alloc_old _ _ hk
  · rcases mv with m | ⟨k, h1, h2⟩
    · exact Or.inl m
    · exact Or.inr ⟨k, h1, by simp at h2; omega⟩

set_option maxRecDepth 100000 in
set_option maxHeartbeats 16000000 in
theorem said_law (w : World) (va : Value) (D : List (Str × Str)) (more s : Str) (hl : RdP w va D) (hp : PSz D) (hsz : D.length ≤ 1000000000) (hm : more.length ≤ maxLen) (hs : s.length ≤ maxLen) :
    Calls Try.prog 3 #[va, .string ⟨more.toArray⟩, .string ⟨s.toArray⟩] w fun e w' => e = .returned (.bool true) ∧ Below w.heap.size w w' := by
  have HL := hid hl
  obtain ⟨ao, cp, rfl, hlen, hcell⟩ := hl
  have HCELL := hid hcell
  have NW := hid (fun W v (h : RdP W v D) => new_any W v D h hp (by omega))
  have HSZ := hid (show ([] : List (Str × Str)).length + D.length ≤ 1000000000000 by simp; omega)
  have HSZ2 := hid (show D.length ≤ 10000000000 by omega)
  have PLN := hid (fun W => plain_any more W hm)
  have NW2 := hid (fun W v (E : List (Str × Str)) (p : Str) (hp2 : p.length ≤ maxLen) (he : E = D ++ [(more, p)]) (h : RdP W v E) => new_any W v E h (by
    subst he
    intro q hq
    rcases List.mem_append.1 hq with hq | hq
    · exact hp q hq
    · rw [List.mem_singleton.1 hq]; exact ⟨hm, hp2⟩) (by subst he; simp; omega))
  have HSZ3 := hid (show D.length ≤ 1000000000000 by omega)
  have HSZ4 := hid (show D.length + 1 ≤ 10000000000 by omega)
  clear hp hsz hcell
  go_enter Try.func3, Try.ntmps3
  go_wp2_with fail
  refine (lwakes_any _).mono ?_
  rintro e w1 ⟨rfl, hb1⟩
  have HB1 := hid hb1
  have hb2 : Below w1.heap.size w1 (w1.alloc (.cells (flat2 []).toArray 33)) := (Below.refl _ _).alloc (Nat.le_refl _) _
  have HO2 := hid (fresh_ownP w1 [] w1.heap.size (Nat.le_refl _) (by decide))
  have HR2 := hid (HL.out.below (HB1.out.then hb2))
  have HB2 := hid (HB1.out.then hb2)
  have HSS := hid (show w1.heap.size ≤ (w1.alloc (.cells (flat2 []).toArray 33)).heap.size by simp)
  have HU2 := hid hb2
  clear hb1 hb2
  go_wp2_with (at_builtin; refine wpList_appP rfl (.tmp 18) (.tmp 19) rfl w1.heap.size _ _ [] D rfl HO2.out rfl HR2.out HSZ.out HSS.out ?_; intro v3 w3 own3 gr3 mv3)
  have HR3 := hid own3.rd
  have HB3 := hid (HB1.out.then (HU2.out.grown gr3 HSS.out (fun j hj => by cases hj; exact Nat.le_refl _)))
  rw [List.nil_append] at HR3
  clear own3 gr3 mv3 HO2 HR2 HB2 HU2
  refine (NW.out _ _ HR3.out).mono ?_
  rintro e w4 ⟨er, i, vc, rfl, ho, h0, h1, hb4⟩
  have HB4 := hid (HB3.out.then hb4)
  have HNO := hid ho
  have H0 := hid h0
  have H1 := hid h1
  have hb5 : Below w4.heap.size w4 (w4.alloc (.cells #[.int .i64 (er : Int), .int .i64 (i : Int)] 27)) := (Below.refl _ _).alloc (Nat.le_refl _) _
  have HB5 := hid (HB4.out.then hb5)
  have HU5 := hid hb5
  clear ho h0 h1 hb4 hb5
  have HF5 := hid (heap_alloc_new w4 (.cells #[.int .i64 (er : Int), .int .i64 (i : Int)] 27))
  generalize hq : plainF more = q at *
  have HQ := hid hq
  clear hq
  go_wp2_with fail
  refine (PLN.out _).mono ?_
  rintro e w6 ⟨rfl, hb6⟩
  obtain ⟨p, ok⟩ := q
  simp only
  have HB6 := hid (HB5.out.then hb6)
  have HU6 := hid (HU5.out.then hb6)
  have HF6 := hid ((hb6.block _ (lt_of_block HF5.out)).trans HF5.out)
  clear hb6 PLN
  have c0 : w6.cell? ⟨w4.heap.size, 0, none⟩ = some (.int .i64 (er : Int)) := by rw [cell_of_row _ _ _ _ _ _ HF6.out]; rfl
  have ltf := lt_of_block HF6.out
  by_cases her : er = 0
  · subst her
    cases ok with
    | false =>
      go_wp2_with fail
      go_ret
      exact ⟨rfl, HB6.out⟩
    | true =>
      have HC := hid (H0.out rfl)
      obtain ⟨hsd, hrg, _, hi0⟩ := new_ok HNO.out
      subst hi0
      have HSD := hid hsd
      obtain ⟨bc, bm, n0, rfl, _, _, _⟩ := HC.out
      obtain ⟨ul, hul⟩ := chain_ex HNO.out s
      have HUL := hid hul
      have HPN := hid (plain_true HQ.out)
      have hpl : p.length ≤ maxLen := Nat.le_trans (named_len HPN.out.2.2) (by decide)
      have HPL := hid hpl
      clear hsd hrg hul H0 H1 hpl
      go_wp2_with fail
      clear c0 ltf
      go_loopg [38] D.length (fun g' vi W => ∃ n : Nat, n ≤ D.length ∧ D.length ≤ n + g' ∧ vi = .int .i64 n ∧ (∀ x ∈ D.take n, x.1 ≠ more) ∧ Below w6.heap.size w6 W)
      case atStart => exact ⟨0, Nat.zero_le _, by omega, rfl, by simp, Below.refl _ _⟩
      case round =>
        obtain ⟨n, hn, hg2, rfl, hno, hb⟩ := hrel
        rename World => w7
        have HG := hid hg2
        have HNM := hid hno
        have HB7 := hid hb
        clear hg2 hno hb
        by_cases hlt : n < D.length
        · have hne : D ≠ [] := by intro e; rw [e] at hlt; simp at hlt
          obtain ⟨p1, o1, rfl, hp1, hc1⟩ := HCELL.out hne
          obtain ⟨kv, hkv⟩ : ∃ kv, kv = D[n]'hlt := ⟨_, rfl⟩
          obtain ⟨k, v⟩ := kv
          have HKV := hid (show D.take (n + 1) = D.take n ++ [(k, v)] by rw [List.take_add_one, List.getElem?_eq_getElem hlt, ← hkv]; rfl)
          have q1 := ((HB6.out.then HB7.out).cell (p := ⟨p1, o1 + n * 2 + 0, none⟩) hp1).trans (hc1 n 0 (S k) hlt (by rw [← hkv]; rfl))
          have q2 := ((HB6.out.then HB7.out).cell (p := ⟨p1, o1 + n * 2 + 1, none⟩) hp1).trans (hc1 n 1 (S v) hlt (by rw [← hkv]; rfl))
          rw [S] at q1 q2
          rw [Nat.add_zero] at q1
          have hni : (n : Int) < (D.length : Int) := by omega
          have hn0 : (0 : Int) ≤ (n : Int) := by omega
          clear hkv hc1 hne
          have HB8 := hid (HB7.out.then (show Below w7.heap.size w7 (w7.alloc (.cells #[.string ⟨k.toArray⟩, .string ⟨v.toArray⟩] 33)) from (Below.refl _ _).alloc (Nat.le_refl _) _))
          by_cases hkm : k = more
          · have hub : (k == more) = true := by rw [hkm]; simp
            clear hkm
            go_wp2_with fail
            go_ret
            exact ⟨rfl, HB6.out.then HB8.out⟩
          · have hub : (k == more) = false := by rw [beq_eq_false_iff_ne]; exact hkm
            have HKM := hid hkm
            clear hkm
            go_wp2_with fail
            go_roundg (gk - 1)
            case measure => have := HG.out; omega
            case rel => exact ⟨n + 1, by omega, by have := HG.out; omega, by simp, (fun x hx => by
              rw [HKV.out] at hx
              rcases List.mem_append.1 hx with hx | hx
              · exact HNM.out x hx
              · rw [List.mem_singleton.1 hx]; exact HKM.out), HB8.out⟩
        · have hall : ∀ x ∈ D, x.1 ≠ more := by have := HNM.out; rw [List.take_of_length_le (by omega)] at this; exact this
          have HSM := hid (show NewOut (D ++ [(more, p)]) 0 0 from (said_more HNO.out HQ.out hall).1)
          have HUS := hid (show ∀ (s : Str) (l : List Str), Up D s l → Up (D ++ [(more, p)]) s l from fun s l hu => (said_more HNO.out HQ.out hall).2 hu)
          have hb8 : Below w7.heap.size w7 (w7.alloc (.cells (flat2 []).toArray 33)) := (Below.refl _ _).alloc (Nat.le_refl _) _
          have HO8 := hid (fresh_ownP w7 [] w7.heap.size (Nat.le_refl _) (by decide))
          have HR8 := hid (HL.out.below ((HB6.out.then HB7.out).then hb8))
          have HS8 := hid (show w7.heap.size ≤ (w7.alloc (.cells (flat2 []).toArray 33)).heap.size by simp)
          have HU8 := hid hb8
          clear hall hb8
          go_wp2_with (first
            | (at_builtin; refine wpList_appP rfl (.tmp 48) (.tmp 49) rfl w7.heap.size _ _ [] D rfl HO8.out rfl HR8.out HSZ.out HS8.out ?_; intro v9 w9 own9 gr9 mv9)
            | (at_builtin; refine wpList_pushPL rfl (.tmp 50) (.tmp 54) rfl w7.heap.size v9 D (more, p) rfl own9 rfl HSZ3.out (Nat.le_trans HS8.out gr9.size) ?_; intro v10 w10 own10 gr10 mv10))
          have HR10 := hid own10.rd
          have HB9 := hid ((HB6.out.then HB7.out).then (HU8.out.grown gr9 HS8.out (fun j hj => by cases hj; exact Nat.le_refl _)))
          have HB67 := hid (HU6.out.then HB7.out)
          have HU9 := hid (HB67.out.then (HU8.out.grown gr9 HS8.out (fun j hj => by cases hj; exact Nat.le_refl _)))
          have HW9 := hid (HU8.out.grown gr9 HS8.out (fun j hj => by cases hj; exact Nat.le_refl _))
          have HW10 := hid (HW9.out.grown gr10 (Nat.le_trans HS8.out gr9.size) (fun j hj => (World.ownsRow.lt own9 _ hj).1))
          clear own9 gr9 mv9 own10 gr10 mv10 HO8 HR8
          refine (NW2.out _ _ (D ++ [(more, p)]) p HPL.out rfl HR10.out).mono ?_
          rintro e w11 ⟨er2, i2, vc2, rfl, ho2, h02, h12, hb11⟩
          obtain ⟨rfl, rfl⟩ := new_one HSM.out ho2
          have HC2 := hid (h02 rfl)
          obtain ⟨hsd2, _, _, _⟩ := new_ok HSM.out
          have HSD2 := hid hsd2
          obtain ⟨bc2, bm2, n2, rfl, _, _, _⟩ := HC2.out
          have HUL2 := hid (show ChainIs (D ++ [(more, p)]) s ul from by
            rcases HUL.out with ⟨h1, h2⟩ | h
            · exact Or.inl ⟨h1, HUS.out s ul h2⟩
            · exact Or.inr h)
          have HB11 := hid (((HB6.out.then HB7.out).then HW10.out).then hb11)
          have HU11 := hid ((HB67.out.then HW10.out).then hb11)
          have hb12 : Below w11.heap.size w11 (w11.alloc (.cells #[.int .i64 0, .int .i64 0] 27)) := (Below.refl _ _).alloc (Nat.le_refl _) _
          have c0 : (w11.alloc (.cells #[.int .i64 0, .int .i64 0] 27)).cell? ⟨w11.heap.size, 0, none⟩ = some (.int .i64 0) := by rw [cell_of_row _ _ _ _ _ _ (heap_alloc_new w11 _)]; rfl
          have CH1 := hid (chain_any _ _ D s ul (HC.out.below (HU11.out.then hb12)) HSD.out HUL.out hs HSZ2.out)
          have CH2 := hid (fun W (hb : Below w11.heap.size w11 W) => chain_any W _ (D ++ [(more, p)]) s ul (HC2.out.below hb) HSD2.out HUL2.out hs (by have := HSZ4.out; simp; omega))
          have HB12 := hid (HB11.out.then hb12)
          have HV12 := hid hb12
          clear ho2 h02 h12 hb11 hb12 hsd2
          go_wp2_with fail
          refine CH1.out.mono ?_
          rintro e w13 ⟨vv, rfl, own, hb13⟩
          have HR13 := hid own.rd
          have HB13 := hid (HB12.out.then hb13)
          have HV13 := hid (HV12.out.then hb13)
          obtain ⟨ag, cg, rfl⟩ := own_sliceS own
          clear own hb13 c0 CH1
          go_wp2_with fail
          refine (CH2.out _ HV13.out).mono ?_
          rintro e w14 ⟨vv2, rfl, own2, hb14⟩
          have SM := hid (lsame_any w14 _ vv2 ul (HR13.out.below hb14) own2.rd)
          have HB14 := hid (HB13.out.then hb14)
          obtain ⟨ag2, cg2, rfl⟩ := own_sliceS own2
          clear own2 hb14 CH2
          go_wp2_with fail
          refine SM.out.mono ?_
          rintro e w15 ⟨rfl, hb15⟩
          go_wp2_with fail
          go_ret
          exact ⟨rfl, HB14.out.then hb15⟩
  · have heb : ((er : Int) != 0) = true := by rw [bne_iff_ne]; omega
    have heb2 : ((er : Int) == 0) = false := by rw [beq_eq_false_iff_ne]; omega
    clear her H0 H1
    go_wp2_with fail
    go_ret
    exact ⟨rfl, HB6.out⟩
end Go.Proofs.Ytffaoejahnildaa
