/- The contract of the reference's Split. -/
import Derived.Test.YtjlfchnnhglbjaaGreatRefList
set_option linter.unusedVariables false
set_option linter.unusedSimpArgs false
namespace Go.Proofs.YtjlfchnnhglbjaaGreat
open Go.RowKit Go.Lib Go.Sort

/-- the subtags of a text, each with its place -/
def cutU : Nat → Nat → Str → List (Str × Nat)
  | 0, _, _ => []
  | n + 1, p, l => (l.takeWhile noSep, p) :: (match l.dropWhile noSep with
      | [] => []
      | _ :: r => cutU n (p + (l.takeWhile noSep).length + 1) r)
theorem cutU_more : ∀ (n m p : Nat) (l : Str), l.length < n → l.length < m → cutU n p l = cutU m p l
  | 0, _, _, _, h, _ => by omega
  | _ + 1, 0, _, _, _, h => by omega
  | n + 1, m + 1, p, l, h1, h2 => by
    have := take_drop_len l
    simp only [cutU]
    congr 1
    cases hd : l.dropWhile noSep with
    | nil => rfl
    | cons c r =>
      rw [hd, List.length_cons] at this
      exact cutU_more n m _ r (by omega) (by omega)
theorem noSep_int (c : UInt8) : noSep c = !(decide ((c.toNat : Int) = 45) || decide ((c.toNat : Int) = 95)) := all_bytes (p := fun c => noSep c = !(decide ((c.toNat : Int) = 45) || decide ((c.toNat : Int) = 95))) (by decide +kernel) c
def cutS (p : Nat) (l : Str) : List (Str × Nat) := cutU (l.length + 1) p l
theorem cutS_eq (p : Nat) (l : Str) : cutS p l = (l.takeWhile noSep, p) :: (match l.dropWhile noSep with
      | [] => []
      | _ :: r => cutS (p + (l.takeWhile noSep).length + 1) r) := by
  have := take_drop_len l
  unfold cutS
  simp only [cutU]
  congr 1
  cases hd : l.dropWhile noSep with
  | nil => rfl
  | cons c r =>
    rw [hd, List.length_cons] at this
    exact cutU_more l.length (r.length + 1) _ r (by omega) (by omega)
theorem while_at {l : Str} {k : Nat} (h1 : ∀ c ∈ l.take k, noSep c = true) (h2 : ∀ (h : k < l.length), noSep l[k] = false) (hk : k ≤ l.length) : l.takeWhile noSep = l.take k ∧ l.dropWhile noSep = l.drop k := by
  induction l generalizing k with
  | nil => simp
  | cons c l ih =>
    cases k with
    | zero =>
      have := h2 (by simp)
      simp only [List.getElem_cons_zero] at this
      simp [List.takeWhile_cons, List.dropWhile_cons, this]
    | succ k =>
      have hc := h1 c (by simp)
      obtain ⟨h3, h4⟩ := ih (k := k) (fun d hd => h1 d (by simp [hd])) (fun h => by have := h2 (by simpa using h); simpa using this) (by simpa using hk)
      simp [List.takeWhile_cons, List.dropWhile_cons, hc, h3, h4]
theorem cutS_sep {l : Str} {f i : Nat} (hf : f ≤ i) (hi : i < l.length) (h1 : ∀ c ∈ (l.drop f).take (i - f), noSep c = true) (h2 : noSep l[i] = false) : cutS f (l.drop f) = ((l.drop f).take (i - f), f) :: cutS (i + 1) (l.drop (i + 1)) := by
  obtain ⟨h3, h4⟩ := while_at (l := l.drop f) (k := i - f) h1 (fun h => by rw [List.getElem_drop]; have e : f + (i - f) = i := by omega
                                                                           simp only [e]; exact h2) (by simp; omega)
  rw [cutS_eq, h3, h4, List.drop_drop, show f + (i - f) = i by omega, List.drop_eq_getElem_cons hi]
  simp only [List.length_take, List.length_drop]
  rw [show f + min (i - f) (l.length - f) + 1 = i + 1 by omega]
theorem cutS_end {l : Str} {f : Nat} (hf : f ≤ l.length) (h1 : ∀ c ∈ (l.drop f).take (l.length - f), noSep c = true) : cutS f (l.drop f) = [((l.drop f).take (l.length - f), f)] := by
  obtain ⟨h3, h4⟩ := while_at (l := l.drop f) (k := l.length - f) h1 (fun h => by simp at h) (by simp)
  have h5 : l.drop (f + (l.length - f)) = [] := List.drop_of_length_le (by omega)
  rw [cutS_eq, h3, h4, List.drop_drop, h5]

/-- a subtag's two cells; a slice of them that the call owns -/
def encU (p : Str × Nat) : List Value := [S p.1, .int .i64 (p.2 : Int)]
def flatU (l : List (Str × Nat)) : List Value := l.flatMap encU
theorem flatU_get (l : List (Str × Nat)) (j i : Nat) (h : j < l.length) (hi : i < 2) : (flatU l)[j * 2 + i]? = (encU l[j])[i]? := by
  induction l generalizing j with
  | nil => simp at h
  | cons a r ih =>
    simp only [flatU, List.flatMap_cons]
    cases j with
    | zero => rw [List.getElem?_append_left (by simp [encU]; omega)]; simp
    | succ j =>
      rw [List.getElem?_append_right (by simp [encU]; omega)]
      have := ih j (by simpa using h)
      simp only [flatU] at this
      simp only [encU, List.length_cons, List.length_nil] at this ⊢
      rw [show (j + 1) * 2 + i - (0 + 1 + 1) = j * 2 + i by omega, this]; rfl
def OwnU (w : World) (B : Nat) (v : Value) (l : List (Str × Nat)) : Prop := w.ownsRow B 173 2 v l.length (flatU l)
theorem infoU : (Tryz.prog.info? 173).map (fun i => (i.zero, i.size, i.bytes)) = some (some (.agg #[.string ⟨#[]⟩, .int .i64 0]), 2, 24) := by kernel_rfl

theorem wpList_pushU {w : World} {ops : Array Oper} {rest : List Oper} {o : Oper} {a : Act} {Q : Exit → Act → World → Prop} (hgd : o.guard = none) (s x : Operand)
    (ho : o.op = .call { callee := .builtin .append, args := #[s, x], argTypes := #[170, 170] })
    (B : Nat) (v : Value) (l : List (Str × Nat)) (y : ByteArray) (p : Nat) (hs : a.eval s = v) (hown : OwnU w B v l) (hx : a.eval x = .slice (some ⟨w.heap.size, 0, none⟩) 1 1) (hl : l.length ≤ 1000000) (hB : B ≤ w.heap.size)
    (h : ∀ v' w', OwnU w' B v' (l ++ [(y.data.toList, p)]) → w.grownBy w' v.ownBlock → Moved w v v' → wpList Tryz.prog ops Q rest (a.put o.dst v') w') :
    wpList Tryz.prog ops Q (o :: rest) a (w.alloc (.cells #[.string y, .int .i64 (p : Int)] 173)) := by
  obtain ⟨i0, hi, hz0, hz1, hz2⟩ := info_parts infoU
  refine wpList_app hgd s x 170 ho B 173 i0 (.agg #[.string ⟨#[]⟩, .int .i64 0]) 2 24 Tryz.underlying170 hi hz0 hz1 hz2 rfl (by decide) v l.length (flatU l) hs (World.ownsRow.alloc hown _) ⟨w.heap.size, 0, none⟩ 1 1 [.string y, .int .i64 (p : Int)] hx rfl (cell_two_new _ _ _ _) (fun u hu => by simp at hu; rcases hu with rfl | rfl <;> rfl) (by unfold maxLen; omega) (by omega) (by simp; omega) ?_
  intro v' w' own gr mv
  refine h v' w' (own_cast own (by simp) (by simp [flatU, encU, S])) ⟨gr.os, gr.tape, gr.output, Nat.le_trans (by simp) gr.size, fun k hk hne => ?_⟩ ?_
  · rw [gr.block k (by simp; omega) hne]; exact heap_alloc_old _ _ hk
  · rcases mv with m | ⟨k, h1, h2⟩
    · exact Or.inl m
    · exact Or.inr ⟨k, h1, by simp at h2; omega⟩

theorem cutU_len : ∀ (n p : Nat) (l : Str), (cutU n p l).length ≤ n
  | 0, _, _ => by simp [cutU]
  | n + 1, p, l => by
    simp only [cutU, List.length_cons]
    cases l.dropWhile noSep with
    | nil => simp
    | cons c r => have := cutU_len n (p + (l.takeWhile noSep).length + 1) r; simp; omega

set_option maxRecDepth 100000 in
set_option maxHeartbeats 4000000 in
theorem rsplit_any (s : ByteArray) (w : World) (hs : s.size ≤ 1000) :
    Calls Tryz.prog 123 #[.string s] w fun e w' => ∃ v', e = .returned v' ∧ OwnU w' w.heap.size v' (cutS 0 s.data.toList) ∧ Below w.heap.size w w' := by
  go_enter Tryz.func123, Tryz.ntmps123
  go_wp2_with fail
  go_loopg [3, 4, 5] (s.size + 1) (fun g vo vf vi W => ∃ (i f : Nat) (l : List (Str × Nat)), s.size + 1 ≤ i + g ∧ i ≤ s.size + 1 ∧ f ≤ i ∧ l.length ≤ i ∧ vi = .int .i64 i ∧ vf = .int .i64 f ∧ OwnU W w.heap.size vo l ∧ Below w.heap.size w W ∧
    ((i = s.size + 1 ∧ l = cutS 0 s.data.toList) ∨ (i ≤ s.size ∧ l ++ cutS f (s.data.toList.drop f) = cutS 0 s.data.toList ∧ ∀ c ∈ (s.data.toList.drop f).take (i - f), noSep c = true)))
  case atStart => exact ⟨0, 0, [], by omega, Nat.zero_le _, Nat.le_refl _, Nat.le_refl _, rfl, rfl, World.ownsRow_nil _ _ _ _, Below.refl _ _, Or.inr ⟨Nat.zero_le _, by simp, by simp⟩⟩
  case round =>
    obtain ⟨i, f, l, hg, hi, hf, hll, rfl, rfl, ow, hb, hc⟩ := hrel
    have HG := hid hg
    have HO := hid ow
    have HB := hid hb
    have hws := hb.size
    have hsl : s.data.toList.length = s.size := by simp
    clear hg ow hb
    by_cases hlt : i ≤ s.size
    · obtain ⟨hu, hn⟩ := (hc.resolve_left (fun h => by omega)).2
      clear hc
      by_cases he : i < s.size
      · have hx : s.data.toList[i]'(by omega) = s[i] := rfl
        have hint := noSep_int s[i]
        have HS := hid (fun (h : noSep s[i] = false) => cutS_sep (l := s.data.toList) hf (by omega) hn (by rw [hx]; exact h))
        have HN := hid (show noSep s[i] = true → ∀ c ∈ (s.data.toList.drop f).take (i + 1 - f), noSep c = true from fun h c hc => by
          rw [show i + 1 - f = (i - f) + 1 by omega, List.take_add_one, List.mem_append] at hc
          rcases hc with hc | hc
          · exact hn c hc
          · rw [List.getElem?_drop, show f + (i - f) = i by omega, List.getElem?_eq_getElem (by omega), hx] at hc
            have : c = s[i] := by simpa using hc
            rw [this]; exact h)
        have hb : (s[i].toNat : Int) < 256 := by have := s[i].toNat_lt; omega
        have hb0 : 0 ≤ (s[i].toNat : Int) := by omega
        have HU := hid hu
        have HX := hid (show (s.extract f i).data.toList = (s.data.toList.drop f).take (i - f) by rw [Lib.extract_data])
        clear hu hn hx
        generalize hy : (s[i].toNat : Int) = y at *
        have HI := hid hint
        clear hint
        by_cases h45 : y = 45
        · have HSS := hid (HS.out (HI.out.trans (by rw [h45]; decide)))
          go_wp2_with (at_builtin; refine wpList_pushU rfl (.tmp 28) (.tmp 35) rfl w.heap.size u3 l (s.extract f i) f rfl HO.out rfl ?ca1 ?ca2 ?_)
          case ca1 => omega
          case ca2 => exact hws
          intro v2 w2 own2 gr2 mv2
          have hb2 := HB.out.grown gr2 hws (fun k hk => (World.ownsRow.lt HO.out k hk).1)
          have O2 := hid own2
          have HB2 := hid hb2
          clear own2 gr2 mv2 hb2
          go_wp2_with fail
          go_roundg (gk - 1)
          case measure => have := HG.out; omega
          case rel => exact ⟨i + 1, i + 1, l ++ [((s.data.toList.drop f).take (i - f), f)], by have := HG.out; omega, by omega, Nat.le_refl _, by simp; omega, by simp, by simp, by first | exact O2.out | (rw [← HX.out]; exact O2.out), HB2.out, Or.inr ⟨by omega, by rw [List.append_assoc, List.singleton_append, ← HSS.out]; exact HU.out, by simp⟩⟩
        · by_cases h95 : y = 95
          · have HSS := hid (HS.out (HI.out.trans (by rw [h95]; decide)))
            go_wp2_with (at_builtin; refine wpList_pushU rfl (.tmp 28) (.tmp 35) rfl w.heap.size u3 l (s.extract f i) f rfl HO.out rfl ?ca1 ?ca2 ?_)
            case ca1 => omega
            case ca2 => exact hws
            intro v2 w2 own2 gr2 mv2
            have hb2 := HB.out.grown gr2 hws (fun k hk => (World.ownsRow.lt HO.out k hk).1)
            have O2 := hid own2
            have HB2 := hid hb2
            clear own2 gr2 mv2 hb2
            go_wp2_with fail
            go_roundg (gk - 1)
            case measure => have := HG.out; omega
            case rel => exact ⟨i + 1, i + 1, l ++ [((s.data.toList.drop f).take (i - f), f)], by have := HG.out; omega, by omega, Nat.le_refl _, by simp; omega, by simp, by simp, by first | exact O2.out | (rw [← HX.out]; exact O2.out), HB2.out, Or.inr ⟨by omega, by rw [List.append_assoc, List.singleton_append, ← HSS.out]; exact HU.out, by simp⟩⟩
          · have HNN := hid (HN.out (HI.out.trans (by rw [decide_eq_false h45, decide_eq_false h95]; rfl)))
            have hb45 : (y == 45) = false := by rw [beq_eq_false_iff_ne]; exact h45
            have hb95 : (y == 95) = false := by rw [beq_eq_false_iff_ne]; exact h95
            have hbi : ((i : Int) == (s.size : Int)) = false := by rw [beq_eq_false_iff_ne]; omega
            go_wp2_with fail
            go_roundg (gk - 1)
            case measure => have := HG.out; omega
            case rel => exact ⟨i + 1, f, l, by have := HG.out; omega, by omega, by omega, by omega, by simp, rfl, HO.out, HB.out, Or.inr ⟨by omega, HU.out, HNN.out⟩⟩
      · obtain rfl : i = s.size := by omega
        have HEND := hid (cutS_end (l := s.data.toList) (f := f) (by omega) (by rw [hsl]; exact hn))
        have HU := hid hu
        have HX := hid (show (s.extract f s.size).data.toList = (s.data.toList.drop f).take (s.data.toList.length - f) by rw [Lib.extract_data, hsl])
        clear hu hn
        go_wp2_with (at_builtin; refine wpList_pushU rfl (.tmp 28) (.tmp 35) rfl w.heap.size u3 l (s.extract f s.size) f rfl HO.out rfl ?ca1 ?ca2 ?_)
        case ca1 => omega
        case ca2 => exact hws
        intro v2 w2 own2 gr2 mv2
        have hb2 := HB.out.grown gr2 hws (fun k hk => (World.ownsRow.lt HO.out k hk).1)
        have O2 := hid own2
        have HB2 := hid hb2
        clear own2 gr2 mv2 hb2
        go_wp2_with fail
        go_roundg (gk - 1)
        case measure => have := HG.out; omega
        case rel => exact ⟨s.size + 1, s.size + 1, l ++ [((s.data.toList.drop f).take (s.data.toList.length - f), f)], by have := HG.out; omega, by omega, Nat.le_refl _, by simp; omega, by simp, by simp, by first | exact O2.out | (rw [← HX.out]; exact O2.out), HB2.out, Or.inl ⟨rfl, by rw [← HEND.out]; exact HU.out⟩⟩
    · obtain ⟨rfl, hl⟩ := hc.resolve_right (fun h => hlt h.1)
      have HL := hid (hl ▸ HO.out)
      clear hc hl HO
      go_wp2_with fail
      go_ret
      exact ⟨_, rfl, HL.out, HB.out⟩
end Go.Proofs.YtjlfchnnhglbjaaGreat
