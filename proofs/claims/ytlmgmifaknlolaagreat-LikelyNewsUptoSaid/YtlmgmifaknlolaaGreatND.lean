/- Several texts in one: RefPrintK, RtKey, RtBare, RtFault. (joined by wip/merge.py) -/
import Derived.Test.YtlmgmifaknlolaaGreatRefList
import Derived.Test.YtlmgmifaknlolaaGreatBoxes
import Derived.Test.YtlmgmifaknlolaaGreatNA
import Derived.BigQuiet
import Derived.IntWalk
import Derived.WalkSmall
import Derived.Deep.CutBlock
import Derived.Deep.LoopGhost
import Derived.Test.YtlmgmifaknlolaaGreatRefParse
import Derived.Test.YtlmgmifaknlolaaGreatRefEq
import Derived.Test.YtlmgmifaknlolaaGreatNC
import Derived.Test.YtlmgmifaknlolaaGreatNB

/- The contract of the reference's Print, for every tag. -/
set_option linter.unusedVariables false
set_option linter.unusedSimpArgs false
namespace Go.Proofs.YtlmgmifaknlolaaGreat
open Go.RowKit Go.Lib Go.Sort

def pr2 (t : Tg) : Str := headPart t.lang ++ jt (opt t.script)
def pr3 (t : Tg) : Str := pr2 t ++ jt (opt t.region)
def pr4 (t : Tg) (n : Nat) : Str := pr3 t ++ jt (t.vars.take n)
def uN (n : Nat) : List Str := if n = 0 then [] else [[117]]
def pr5 (t : Tg) (n : Nat) : Str := pr4 t t.vars.length ++ jt (uN n ++ (t.keys.take n).flatMap pairParts)
theorem pr5_all (t : Tg) : pr5 t t.keys.length = printR t := by
  unfold pr5 pr4 pr3 pr2 printR
  rw [List.take_length, List.take_length]
  simp only [jt_append, List.append_assoc]
  have : uN t.keys.length = uPart t.keys := by unfold uN uPart; cases t.keys <;> simp
  rw [this]
theorem len_mono {f : Nat → Str} {N : Nat} (h : ∀ n, n < N → (f n).length ≤ (f (n + 1)).length) : ∀ k n, n + k = N → (f n).length ≤ (f N).length
  | 0, n, e => by rw [Nat.add_zero] at e; rw [e]; exact Nat.le_refl _
  | k + 1, n, e => Nat.le_trans (h n (by omega)) (len_mono h k (n + 1) (by omega))
theorem pr4_step (t : Tg) (n : Nat) (h : n < t.vars.length) : pr4 t (n + 1) = pr4 t n ++ [45] ++ t.vars[n] := by
  unfold pr4
  rw [List.take_add_one, List.getElem?_eq_getElem h, jt_append]
  simp [jt_cons, jt_nil]
theorem pr5_step (t : Tg) (n : Nat) (h : n < t.keys.length) : pr5 t (n + 1) = (if n = 0 then pr5 t n ++ [45, 117] else pr5 t n) ++ [45] ++ t.keys[n].1 ++ (if t.keys[n].2 = [] then [] else [45] ++ t.keys[n].2) := by
  unfold pr5
  rw [List.take_add_one, List.getElem?_eq_getElem h]
  have hu : jt (uN (n + 1)) = [45, 117] := by unfold uN; rw [if_neg (by omega)]; simp [jt_cons, jt_nil]
  have hp : jt (pairParts t.keys[n]) = [45] ++ t.keys[n].1 ++ (if t.keys[n].2 = [] then [] else [45] ++ t.keys[n].2) := by
    unfold pairParts
    by_cases h2 : t.keys[n].2 = []
    · rw [if_pos h2, if_pos h2]; simp [jt_cons, jt_nil]
    · rw [if_neg h2, if_neg h2]; simp [jt_cons, jt_nil]
  simp only [List.flatMap_append, Option.toList_some, List.flatMap_cons, List.flatMap_nil, List.append_nil, jt_append, hu, hp]
  by_cases h0 : n = 0
  · subst h0
    simp [uN, jt_nil]
  · have h3 : jt (uN n) = [45, 117] := by unfold uN; rw [if_neg h0]; simp [jt_cons, jt_nil]
    simp only [if_neg h0, h3]
    simp
theorem pr5_le (t : Tg) (n : Nat) (h : n ≤ t.keys.length) : (pr5 t n).length ≤ (printR t).length := by
  rw [← pr5_all]
  refine len_mono (N := t.keys.length) (fun k hk => ?_) (t.keys.length - n) n (by omega)
  rw [pr5_step t k hk]
  split <;> simp only [List.length_append] <;> omega
theorem pr4_le (t : Tg) (n : Nat) (h : n ≤ t.vars.length) : (pr4 t n).length ≤ (printR t).length := by
  have h1 : (pr4 t t.vars.length).length ≤ (pr5 t 0).length := by unfold pr5; rw [List.length_append]; omega
  refine Nat.le_trans (Nat.le_trans ?_ h1) (pr5_le t 0 (Nat.zero_le _))
  refine len_mono (N := t.vars.length) (fun k hk => ?_) (t.vars.length - n) n (by omega)
  rw [pr4_step t k hk]
  simp only [List.length_append]
  omega
theorem pr3_le (t : Tg) : (pr3 t).length ≤ (printR t).length := by
  have h1 : (pr3 t).length ≤ (pr4 t 0).length := by unfold pr4; rw [List.length_append]; omega
  exact Nat.le_trans h1 (pr4_le t 0 (Nat.zero_le _))
theorem pr2_le (t : Tg) : (pr2 t).length ≤ (printR t).length := by
  have h1 : (pr2 t).length ≤ (pr3 t).length := by unfold pr3; rw [List.length_append]; omega
  exact Nat.le_trans h1 (pr3_le t)
theorem pr1_le (t : Tg) : (headPart t.lang).length ≤ (printR t).length := by
  have h1 : (headPart t.lang).length ≤ (pr2 t).length := by unfold pr2; rw [List.length_append]; omega
  exact Nat.le_trans h1 (pr2_le t)
theorem isEmpty_no {s : Str} (h : s ≠ []) : List.isEmpty s = false := by
  cases s with
  | nil => exact absurd rfl h
  | cons a b => rfl
theorem pr4_zero (t : Tg) : pr4 t 0 = pr3 t := by unfold pr4; simp [jt_nil]
theorem pr5_zero (t : Tg) : pr5 t 0 = pr4 t t.vars.length := by unfold pr5 uN; simp [jt_nil]
theorem pr2_eq (t : Tg) (h : t.script ≠ []) : pr2 t = headPart t.lang ++ [45] ++ t.script := by unfold pr2 opt; rw [if_neg h]; simp [jt_cons, jt_nil]
theorem pr2_nil (t : Tg) (h : t.script = []) : pr2 t = headPart t.lang := by unfold pr2 opt; rw [if_pos h]; simp [jt_nil]
theorem pr3_eq (t : Tg) (h : t.region ≠ []) : pr3 t = pr2 t ++ [45] ++ t.region := by unfold pr3 opt; rw [if_neg h]; simp [jt_cons, jt_nil]
theorem pr3_nil (t : Tg) (h : t.region = []) : pr3 t = pr2 t := by unfold pr3 opt; rw [if_pos h]; simp [jt_nil]

set_option maxRecDepth 100000 in
set_option maxHeartbeats 16000000 in
theorem rprintK_any (w : World) (v : Value) (t : Tg) (hR : RdT w v t) (hb : (printR t).length ≤ 1000000000) :
    Calls Tryz.prog 36 #[v] w fun e w' => e = .returned (.string ⟨(printR t).toArray⟩) ∧ Below w.heap.size w w' := by
  obtain ⟨vv, kv, rfl, hS, hP⟩ := hR
  obtain ⟨av, cv, rfl, hav, hsa⟩ := hS
  obtain ⟨ak, ck, rfl, hak, hsk⟩ := hP
  simp only [tagCells, S, vnil]
  have HB0 := hid ((Below.refl w.heap.size w).alloc (Nat.le_refl _) (.cells #[.string ⟨t.lang.toArray⟩, .string ⟨t.script.toArray⟩, .string ⟨t.region.toArray⟩, .slice av t.vars.length cv, .slice ak t.keys.length ck] 25))
  have HXA := hid (heap_alloc_new w (.cells #[.string ⟨t.lang.toArray⟩, .string ⟨t.script.toArray⟩, .string ⟨t.region.toArray⟩, .slice av t.vars.length cv, .slice ak t.keys.length ck] 25))
  have HSA := hid hsa
  have HSK := hid hsk
  have L1 := hid (Nat.le_trans (pr1_le t) hb)
  have L2 := hid (Nat.le_trans (pr2_le t) hb)
  have L3 := hid (Nat.le_trans (pr3_le t) hb)
  have L4 := hid (fun n h => Nat.le_trans (pr4_le t n h) hb)
  have L5 := hid (fun n h => Nat.le_trans (pr5_le t n h) hb)
  have HALL := hid (pr5_all t)
  clear hsa hsk hb
  go_enter Tryz.func36, Tryz.ntmps36
  go_upto_region 1 with fail
  generalize w.alloc (.cells #[.string ⟨t.lang.toArray⟩, .string ⟨t.script.toArray⟩, .string ⟨t.region.toArray⟩, .slice av t.vars.length cv, .slice ak t.keys.length ck] 25) = W0 at *
  obtain ⟨c0, c1, c2, c3, c4⟩ := box_cells HXA.out
  have ltx := lt_of_block HXA.out
  go_upto_if 9 with fail
  go_cut [3] from 6 to 25 (fun o wx => o = .string ⟨(headPart t.lang).toArray⟩ ∧ wx = W0)
  case first =>
    by_cases h0 : t.lang = []
    · have p0 : List.isEmpty t.lang = true := by rw [h0]; rfl
      have HE := hid (show headPart t.lang = [117, 110, 100] from if_pos h0)
      clear h0
      rw [p0]
      go_wp2_with fail
      go_meet
      case rel => exact ⟨by rw [HE.out], rfl⟩
    · have p0 : List.isEmpty t.lang = false := isEmpty_no h0
      have HE := hid (show headPart t.lang = t.lang from if_neg h0)
      clear h0
      rw [p0]
      go_wp2_with fail
      go_meet
      case rel => exact ⟨by rw [HE.out], rfl⟩
  case rest =>
    obtain ⟨rfl, rfl⟩ := hcut
    generalize hout : headPart t.lang = out at *
    have HOUT := hid hout
    clear hout
    go_upto_if 12 with fail
    go_cut [3] from 6 to 25 (fun o wx => o = .string ⟨(pr2 t).toArray⟩ ∧ wx = wc)
    case first =>
      by_cases h0 : t.script = []
      · have p0 : List.isEmpty t.script = true := by rw [h0]; rfl
        have HE := hid (show pr2 t = out by rw [pr2_nil t h0, HOUT.out])
        clear h0
        rw [p0]
        go_wp2_with fail
        go_meet
        case rel => exact ⟨by rw [HE.out], rfl⟩
      · have p0 : List.isEmpty t.script = false := isEmpty_no h0
        have HE := hid (show pr2 t = out ++ [45] ++ t.script by rw [pr2_eq t h0, HOUT.out])
        have hl : out.length + 1 + t.script.length ≤ 1000000000 := by have := L2.out; rw [HE.out] at this; simp only [List.length_append, List.length_cons, List.length_nil] at this; omega
        clear h0
        rw [p0]
        go_wp2_with fail
        go_meet
        case rel => exact ⟨by rw [HE.out, ← str_cat, ← str_cat], rfl⟩
    case rest =>
      obtain ⟨rfl, rfl⟩ := hcut
      clear HOUT L1
      generalize hout2 : pr2 t = out2 at *
      have HOUT2 := hid hout2
      clear hout2
      go_upto_if 20 with fail
      rename World => w9
      go_cut [3] from 6 to 25 (fun o wx => o = .string ⟨(pr3 t).toArray⟩ ∧ wx = w9)
      case first =>
        by_cases h0 : t.region = []
        · have p0 : List.isEmpty t.region = true := by rw [h0]; rfl
          have HE := hid (show pr3 t = out2 by rw [pr3_nil t h0, HOUT2.out])
          clear h0
          rw [p0]
          go_wp2_with fail
          go_meet
          case rel => exact ⟨by rw [HE.out], rfl⟩
        · have p0 : List.isEmpty t.region = false := isEmpty_no h0
          have HE := hid (show pr3 t = out2 ++ [45] ++ t.region by rw [pr3_eq t h0, HOUT2.out])
          have hl : out2.length + 1 + t.region.length ≤ 1000000000 := by have := L3.out; rw [HE.out] at this; simp only [List.length_append, List.length_cons, List.length_nil] at this; omega
          clear h0
          rw [p0]
          go_wp2_with fail
          go_meet
          case rel => exact ⟨by rw [HE.out, ← str_cat, ← str_cat], rfl⟩
      case rest =>
        obtain ⟨rfl, rfl⟩ := hcut
        rename World => wd
        have HZ4 := hid (pr4_zero t)
        clear HOUT2 L2
        generalize hout3 : pr3 t = out3 at *
        clear hout3
        go_wp2_with fail
        go_loopg [3, 4] t.vars.length (fun g vo vi W => ∃ n : Nat, n ≤ t.vars.length ∧ t.vars.length ≤ n + g ∧ vi = .int .i64 n ∧ vo = .string ⟨(pr4 t n).toArray⟩ ∧ wd = W)
        case atStart => exact ⟨0, Nat.zero_le _, by omega, rfl, by rw [HZ4.out], rfl⟩
        case round =>
          obtain ⟨n, hn, hg, rfl, rfl, rfl⟩ := hrel
          have HG := hid hg
          clear hg
          by_cases hlt : n < t.vars.length
          · have hne : t.vars ≠ [] := by intro e; rw [e] at hlt; simp at hlt
            obtain ⟨p1, o1, rfl, hp1, hc1⟩ := HSA.out hne
            have q1 := (HB0.out.cell (p := ⟨p1, o1 + n, none⟩) hp1).trans (hc1 n _ (List.getElem?_eq_getElem hlt))
            have hst := pr4_step t n hlt
            have hl := L4.out (n + 1) hlt
            rw [hst] at hl
            obtain ⟨x, hx⟩ : ∃ x, x = t.vars[n] := ⟨_, rfl⟩
            rw [← hx, S] at q1
            rw [← hx] at hst hl
            generalize pr4 t n = out at *
            have hl1 : out.length + 1 + x.length ≤ 1000000000 := by simp only [List.length_append, List.length_cons, List.length_nil] at hl; omega
            have HST := hid hst
            clear hst hx hl hc1 hne
            go_wp2_with fail
            go_roundg (gk - 1)
            case measure => have := HG.out; omega
            case rel => exact ⟨n + 1, by omega, by have := HG.out; omega, by simp, by rw [HST.out, ← str_cat, ← str_cat], rfl⟩
          · have hnl : n = t.vars.length := by omega
            subst hnl
            have HZ5 := hid (pr5_zero t)
            generalize hout4 : pr4 t t.vars.length = out4 at *
            clear hout4 HSA L4 L3 hlt HG
            go_wp2_with fail
            go_loopg [3, 5] t.keys.length (fun g vo vi W => ∃ n : Nat, n ≤ t.keys.length ∧ t.keys.length ≤ n + g ∧ vi = .int .i64 n ∧ vo = .string ⟨(pr5 t n).toArray⟩ ∧ wd = W)
            case atStart => exact ⟨0, Nat.zero_le _, by omega, rfl, by rw [HZ5.out], rfl⟩
            case round =>
              obtain ⟨n, hn, hg, rfl, rfl, rfl⟩ := hrel
              have HG := hid hg
              clear hg
              by_cases hlt : n < t.keys.length
              · have hne : t.keys ≠ [] := by intro e; rw [e] at hlt; simp at hlt
                obtain ⟨p1, o1, rfl, hp1, hc1⟩ := HSK.out hne
                have hst := pr5_step t n hlt
                have hl := L5.out (n + 1) hlt
                rw [hst] at hl
                obtain ⟨kv, hkv⟩ : ∃ kv, kv = t.keys[n]'hlt := ⟨_, rfl⟩
                obtain ⟨k, x⟩ := kv
                have q1 := (HB0.out.cell (p := ⟨p1, o1 + n * 2 + 0, none⟩) hp1).trans (hc1 n 0 (S k) hlt (by rw [← hkv]; rfl))
                have q2 := (HB0.out.cell (p := ⟨p1, o1 + n * 2 + 1, none⟩) hp1).trans (hc1 n 1 (S x) hlt (by rw [← hkv]; rfl))
                rw [S] at q1 q2
                rw [Nat.add_zero] at q1
                rw [← hkv] at hst hl
                simp only at hst hl
                generalize pr5 t n = out at *
                have hni : (n : Int) < (t.keys.length : Int) := by omega
                have hn0 : (0 : Int) ≤ (n : Int) := by omega
                by_cases h0 : n = 0
                · subst h0
                  rw [if_pos rfl] at hst hl
                  simp only [Nat.zero_mul, Nat.add_zero] at q1 q2
                  by_cases hx : x = []
                  · rw [if_pos hx] at hst hl
                    have p0 : List.isEmpty x = true := by rw [hx]; rfl
                    have hl1 : out.length + 2 + 1 + k.length ≤ 1000000000 := by simp only [List.length_append, List.length_cons, List.length_nil] at hl; omega
                    have HST := hid hst
                    clear hst hx hl hc1 hne hkv
                    go_wp2_with fail
                    all_goals first | (rename_i hx; rw [p0] at hx; exact absurd hx (by decide)) | skip
                    go_roundg (gk - 1)
                    case measure => have := HG.out; omega
                    case rel => exact ⟨0 + 1, by omega, by have := HG.out; omega, by simp, by rw [HST.out, List.append_nil, ← str_cat, ← str_cat, ← str_cat], rfl⟩
                  · rw [if_neg hx] at hst hl
                    have p0 : List.isEmpty x = false := isEmpty_no hx
                    have hl1 : out.length + 2 + 1 + k.length + 1 + x.length ≤ 1000000000 := by simp only [List.length_append, List.length_cons, List.length_nil] at hl; omega
                    have HST := hid hst
                    clear hst hx hl hc1 hne hkv
                    go_wp2_with fail
                    all_goals first | (rename_i hx; rw [p0] at hx; exact absurd hx (by decide)) | skip
                    go_roundg (gk - 1)
                    case measure => have := HG.out; omega
                    case rel => exact ⟨0 + 1, by omega, by have := HG.out; omega, by simp, by rw [HST.out, ← List.append_assoc, ← str_cat, ← str_cat, ← str_cat, ← str_cat, ← str_cat], rfl⟩
                · have hni0 : ((n : Int) == 0) = false := by rw [beq_eq_false_iff_ne]; omega
                  rw [if_neg h0] at hst hl
                  by_cases hx : x = []
                  · rw [if_pos hx] at hst hl
                    have p0 : List.isEmpty x = true := by rw [hx]; rfl
                    have hl1 : out.length + 1 + k.length ≤ 1000000000 := by simp only [List.length_append, List.length_cons, List.length_nil] at hl; omega
                    have HST := hid hst
                    clear hst hx hl hc1 hne hkv h0
                    go_wp2_with fail
                    all_goals first | (rename_i hx; rw [p0] at hx; exact absurd hx (by decide)) | skip
                    go_roundg (gk - 1)
                    case measure => have := HG.out; omega
                    case rel => exact ⟨n + 1, by omega, by have := HG.out; omega, by simp, by rw [HST.out, List.append_nil, ← str_cat, ← str_cat], rfl⟩
                  · rw [if_neg hx] at hst hl
                    have p0 : List.isEmpty x = false := isEmpty_no hx
                    have hl1 : out.length + 1 + k.length + 1 + x.length ≤ 1000000000 := by simp only [List.length_append, List.length_cons, List.length_nil] at hl; omega
                    have HST := hid hst
                    clear hst hx hl hc1 hne hkv h0
                    go_wp2_with fail
                    all_goals first | (rename_i hx; rw [p0] at hx; exact absurd hx (by decide)) | skip
                    go_roundg (gk - 1)
                    case measure => have := HG.out; omega
                    case rel => exact ⟨n + 1, by omega, by have := HG.out; omega, by simp, by rw [HST.out, ← List.append_assoc, ← str_cat, ← str_cat, ← str_cat, ← str_cat], rfl⟩
              · have hnl : n = t.keys.length := by omega
                subst hnl
                rw [HALL.out]
                go_wp2_with fail
                go_ret
                exact ⟨rfl, HB0.out⟩
end Go.Proofs.YtlmgmifaknlolaaGreat

/- The contract of the reference's Key. -/
set_option linter.unusedVariables false
set_option linter.unusedSimpArgs false
namespace Go.Proofs.YtlmgmifaknlolaaGreat
open Go.RowKit Go.Lib Go.Sort

set_option maxRecDepth 100000 in
theorem index2_0 (w : World) (a b : Str) : (Instr.index 39 (.agg #[.string ⟨a.toArray⟩, .string ⟨b.toArray⟩]) (.int .i64 0)).run Tryz.prog w = .ok (.string ⟨a.toArray⟩) w := by kernel_rfl
set_option maxRecDepth 100000 in
theorem index2_1 (w : World) (a b : Str) : (Instr.index 39 (.agg #[.string ⟨a.toArray⟩, .string ⟨b.toArray⟩]) (.int .i64 1)).run Tryz.prog w = .ok (.string ⟨b.toArray⟩) w := by kernel_rfl
/-- the key after n parts -/
def kyN (l s r : Str) : Nat → Str
  | 0 => headPart l
  | 1 => headPart l ++ jt (opt s)
  | _ => headPart l ++ jt (opt s ++ opt r)
theorem ky_step (o x : Str) (h : x ≠ []) : o ++ jt (opt x) = o ++ ([45] ++ x) := by unfold opt; rw [if_neg h]; simp [jt_cons, jt_nil]
theorem ky_nil (o x : Str) (h : x = []) : o ++ jt (opt x) = o := by unfold opt; rw [if_pos h]; simp [jt_nil]
theorem ky1 (l s r : Str) : kyN l s r 1 = kyN l s r 0 ++ jt (opt s) := rfl
theorem ky2 (l s r : Str) : kyN l s r 2 = kyN l s r 1 ++ jt (opt r) := by unfold kyN; simp [jt_append]
theorem ky_len (l s r : Str) (n : Nat) : (kyN l s r n).length ≤ l.length + s.length + r.length + 5 := by
  have h1 : (headPart l).length ≤ l.length + 3 := by
    unfold headPart
    split
    · simp [tUnd]
    · omega
  have h2 : ∀ x : Str, (jt (opt x)).length ≤ x.length + 1 := fun x => by
    unfold opt
    split
    · simp [jt_nil]
    · simp [jt_cons, jt_nil]
  have h3 := h2 s
  have h4 := h2 r
  unfold kyN
  split <;> (try simp only [jt_append, List.length_append]) <;> omega

set_option maxRecDepth 100000 in
set_option maxHeartbeats 8000000 in
theorem rkey_any (w : World) (l s r : Str) (hl : l.length ≤ 100000000) (hs : s.length ≤ 100000000) (hr : r.length ≤ 100000000) :
    Calls Tryz.prog 27 #[.string ⟨l.toArray⟩, .string ⟨s.toArray⟩, .string ⟨r.toArray⟩] w fun e w' => e = .returned (.string ⟨(ptKeyR ⟨l, s, r⟩).toArray⟩) ∧ Below w.heap.size w w' := by
  have KL := hid (ky_len l s r)
  have LS := hid (show ∀ n, (kyN l s r n).length ≤ 400000000 from fun n => Nat.le_trans (ky_len l s r n) (by omega))
  go_enter Tryz.func27, Tryz.ntmps27
  go_upto_if 10 with fail
  go_cut [0] from 9 to 10 (fun o wx => o = .string ⟨(kyN l s r 0).toArray⟩ ∧ wx = w)
  case first =>
    by_cases h0 : l = []
    · have p0 : List.isEmpty l = true := by rw [h0]; rfl
      have HE := hid (show kyN l s r 0 = [117, 110, 100] from if_pos h0)
      clear h0
      rw [p0]
      go_wp2_with fail
      go_meet
      case rel => exact ⟨by rw [HE.out], rfl⟩
    · have p0 : List.isEmpty l = false := isEmpty_no h0
      have HE := hid (show kyN l s r 0 = l from if_neg h0)
      clear h0
      rw [p0]
      go_wp2_with fail
      go_meet
      case rel => exact ⟨by rw [HE.out], rfl⟩
  case rest =>
    obtain ⟨rfl, rfl⟩ := hcut
    go_wp2_with fail
    go_loopg [0, 14] 2 (fun g vo vi W => ∃ n : Nat, n ≤ 2 ∧ 2 ≤ n + g ∧ vi = .int .i64 n ∧ vo = .string ⟨(kyN l s r n).toArray⟩ ∧ wc = W)
    case atStart => exact ⟨0, by omega, by omega, rfl, rfl, rfl⟩
    case round =>
      obtain ⟨n, hn, hg, hvi, rfl, rfl⟩ := hrel
      have HG := hid hg
      clear hg
      rcases (by omega : n = 0 ∨ n = 1 ∨ n = 2) with rfl | rfl | rfl
      · have hvi0 : _ = Value.int .i64 0 := hvi
        subst hvi0
        have hix := index2_0 wc s r
        by_cases h0 : s = []
        · have p0 : List.isEmpty s = true := by rw [h0]; rfl
          have HE := hid (show kyN l s r 1 = kyN l s r 0 by rw [ky1, ky_nil _ _ h0])
          clear h0
          go_wp2_with fail
          all_goals first | (rename_i hx; rw [p0] at hx; exact absurd hx (by decide)) | skip
          go_roundg (gk - 1)
          case measure => have := HG.out; omega
          case rel => exact ⟨1, by omega, by have := HG.out; omega, rfl, by rw [HE.out], rfl⟩
        · have p0 : List.isEmpty s = false := isEmpty_no h0
          have HE := hid (show kyN l s r 1 = kyN l s r 0 ++ ([45] ++ s) by rw [ky1, ky_step _ _ h0])
          have hl1 : (kyN l s r 0).length + 1 + s.length ≤ 1000000000 := by have := LS.out 0; omega
          clear h0
          generalize kyN l s r 0 = out at *
          go_wp2_with fail
          all_goals first | (rename_i hx; rw [p0] at hx; exact absurd hx (by decide)) | skip
          go_roundg (gk - 1)
          case measure => have := HG.out; omega
          case rel => exact ⟨1, by omega, by have := HG.out; omega, rfl, by rw [HE.out, ← str_cat, ← str_cat], rfl⟩
      · have hvi1 : _ = Value.int .i64 1 := hvi
        subst hvi1
        have hix := index2_1 wc s r
        by_cases h0 : r = []
        · have p0 : List.isEmpty r = true := by rw [h0]; rfl
          have HE := hid (show kyN l s r 2 = kyN l s r 1 by rw [ky2, ky_nil _ _ h0])
          clear h0
          go_wp2_with fail
          all_goals first | (rename_i hx; rw [p0] at hx; exact absurd hx (by decide)) | skip
          go_roundg (gk - 1)
          case measure => have := HG.out; omega
          case rel => exact ⟨2, by omega, by have := HG.out; omega, rfl, by rw [HE.out], rfl⟩
        · have p0 : List.isEmpty r = false := isEmpty_no h0
          have HE := hid (show kyN l s r 2 = kyN l s r 1 ++ ([45] ++ r) by rw [ky2, ky_step _ _ h0])
          have hl1 : (kyN l s r 1).length + 1 + r.length ≤ 1000000000 := by have := LS.out 1; omega
          clear h0
          generalize kyN l s r 1 = out at *
          go_wp2_with fail
          all_goals first | (rename_i hx; rw [p0] at hx; exact absurd hx (by decide)) | skip
          go_roundg (gk - 1)
          case measure => have := HG.out; omega
          case rel => exact ⟨2, by omega, by have := HG.out; omega, rfl, by rw [HE.out, ← str_cat, ← str_cat], rfl⟩
      · have hvi2 : _ = Value.int .i64 2 := hvi
        subst hvi2
        have HF := hid (show kyN l s r 2 = ptKeyR ⟨l, s, r⟩ from rfl)
        rw [HF.out]
        go_wp2_with fail
        go_ret
        exact ⟨rfl, Below.refl _ _⟩
end Go.Proofs.YtlmgmifaknlolaaGreat

/- The contract of the reference's bare. -/
set_option linter.unusedVariables false
set_option linter.unusedSimpArgs false
namespace Go.Proofs.YtlmgmifaknlolaaGreat
open Go.RowKit Go.Lib Go.Sort

theorem RdS.of_nil {w w' : World} {v : Value} (h : RdS w v []) : RdS w' v [] := by
  obtain ⟨ao, cp, hv, hl, hr⟩ := h
  exact ⟨ao, cp, hv, hl, fun h => absurd rfl h⟩
theorem RdP.of_nil {w w' : World} {v : Value} (h : RdP w v []) : RdP w' v [] := by
  obtain ⟨ao, cp, hv, hl, hr⟩ := h
  exact ⟨ao, cp, hv, hl, fun h => absurd rfl h⟩
/-- what bare and find hand back -/
def BareRes (w : World) (x : Tg × Bool) (e : Ending) (w' : World) : Prop :=
  ∃ a c b d, e = .returned (.tuple #[.agg #[.string ⟨x.1.lang.toArray⟩, .string ⟨x.1.script.toArray⟩, .string ⟨x.1.region.toArray⟩, .slice a x.1.vars.length c, .slice b x.1.keys.length d], .bool x.2]) ∧ Below w.heap.size w w'
theorem bare_ret {w W : World} {k : Str} {x : Tg × Bool} (hx : bareR k = x) (hz : W.heap[w.heap.size]? = some (.cells #[.string ⟨#[]⟩, .string ⟨#[]⟩, .string ⟨#[]⟩, .slice none 0 0, .slice none 0 0] 25 (0, 0))) (hb : Below w.heap.size w W) (ca cb : Option Addr) (na nb : Nat) {a : Act} (hd : a.defers = [])
    (h2 : a.tmps.getD 2 undef = .pointer (some ⟨w.heap.size, 0, none⟩)) (h3 : a.tmps.getD 3 undef = .bool x.2) :
    bodyPost Tryz.prog Tryz.f41 (fun e w' => BareRes w (bareR k) e w') Exit.ret a (P5 W w.heap.size (.string ⟨x.1.lang.toArray⟩) (.string ⟨x.1.script.toArray⟩) (.string ⟨x.1.region.toArray⟩) (.slice ca x.1.vars.length na) (.slice cb x.1.keys.length nb)) := by
  have hrow := P5_row (.string ⟨x.1.lang.toArray⟩) (.string ⟨x.1.script.toArray⟩) (.string ⟨x.1.region.toArray⟩) (.slice ca x.1.vars.length na) (.slice cb x.1.keys.length nb) hz
  have hw := P5_below (.string ⟨x.1.lang.toArray⟩) (.string ⟨x.1.script.toArray⟩) (.string ⟨x.1.region.toArray⟩) (.slice ca x.1.vars.length na) (.slice cb x.1.keys.length nb) hb (Nat.le_refl w.heap.size)
  generalize P5 W w.heap.size (.string ⟨x.1.lang.toArray⟩) (.string ⟨x.1.script.toArray⟩) (.string ⟨x.1.region.toArray⟩) (.slice ca x.1.vars.length na) (.slice cb x.1.keys.length nb) = V at *
  obtain ⟨d0, d1, d2, d3, d4⟩ := box_cells hrow
  subst hx
  refine bodyPost_ret (v := .tuple #[.agg #[.string ⟨(bareR k).1.lang.toArray⟩, .string ⟨(bareR k).1.script.toArray⟩, .string ⟨(bareR k).1.region.toArray⟩, .slice ca (bareR k).1.vars.length na, .slice cb (bareR k).1.keys.length nb], .bool (bareR k).2]) ?_ hd ⟨ca, na, cb, nb, rfl, hw⟩
  obtain ⟨tmps, defers⟩ := a
  simp only [Array.getD_eq_getD_getElem?] at h2 h3
  simp [results, Tryz.results41, go_sem, h2, h3, d0, d1, d2, d3, d4]

set_option maxRecDepth 100000 in
set_option maxHeartbeats 8000000 in
theorem rbare_any (w : World) (k : Str) (hk : k.length ≤ maxLen) :
    Calls Tryz.prog 41 #[.string ⟨k.toArray⟩] w fun e w' => BareRes w (bareR k) e w' := by
  have PA := hid (fun W => rparse_any ⟨k.toArray⟩ W (by rw [Lib.size_eq]; exact hk))
  rw [show (⟨k.toArray⟩ : ByteArray).data.toList = k from rfl, ref_eq] at PA
  have hgood := good_of k
  have hrd : ∀ x, parseF k = x → bareR k = if x.err ≠ 0 ∨ x.tag.vars ≠ [] ∨ x.tag.keys ≠ [] ∨ ptKeyR (ptOf x.tag) ≠ k then (Tg.zero, false) else (x.tag, true) := fun x hx => by rw [← hx]; rfl
  generalize hx : parseF k = x at *
  have HRD := hid (hrd x rfl)
  clear hrd hx
  have HB0 := hid (show Below w.heap.size w (w.alloc (.cells #[.string ⟨#[]⟩, .string ⟨#[]⟩, .string ⟨#[]⟩, .slice none 0 0, .slice none 0 0] 25)) from (Below.refl _ _).alloc (Nat.le_refl _) _)
  have HZ0 := hid (heap_alloc_new w (.cells #[.string ⟨#[]⟩, .string ⟨#[]⟩, .string ⟨#[]⟩, .slice none 0 0, .slice none 0 0] 25))
  go_enter Tryz.func41, Tryz.ntmps41
  go_wp2_with fail
  refine (PA.out _).mono ?_
  rintro e w1 ⟨vv, kv, rfl, ⟨o1, _⟩, o2, hb1⟩
  obtain ⟨av, cv, rfl, _, _⟩ := o1
  obtain ⟨ak, ck, rfl, _, _⟩ := o2
  simp only [tagCells, S]
  have HZ1 := hid ((hb1.block _ (lt_of_block HZ0.out)).trans HZ0.out)
  have HB1 := hid (HB0.out.then hb1)
  clear hb1 HZ0 HB0 PA
  go_upto_region 2 with (fail)
  have HB2 := hid (below2 w1 (.cells #[.string ⟨x.tag.lang.toArray⟩, .string ⟨x.tag.script.toArray⟩, .string ⟨x.tag.region.toArray⟩, .slice av x.tag.vars.length cv, .slice ak x.tag.keys.length ck] 25) (.cells #[.int .i64 (x.err : Int), .int .i64 (x.pos : Int)] 62))
  have HT2 := hid (heap_alloc2_old w1 (.cells #[.string ⟨x.tag.lang.toArray⟩, .string ⟨x.tag.script.toArray⟩, .string ⟨x.tag.region.toArray⟩, .slice av x.tag.vars.length cv, .slice ak x.tag.keys.length ck] 25) (.cells #[.int .i64 (x.err : Int), .int .i64 (x.pos : Int)] 62))
  have HS2 := hid (heap_alloc2_new w1 (.cells #[.string ⟨x.tag.lang.toArray⟩, .string ⟨x.tag.script.toArray⟩, .string ⟨x.tag.region.toArray⟩, .slice av x.tag.vars.length cv, .slice ak x.tag.keys.length ck] 25) (.cells #[.int .i64 (x.err : Int), .int .i64 (x.pos : Int)] 62))
  generalize (w1.alloc (.cells #[.string ⟨x.tag.lang.toArray⟩, .string ⟨x.tag.script.toArray⟩, .string ⟨x.tag.region.toArray⟩, .slice av x.tag.vars.length cv, .slice ak x.tag.keys.length ck] 25)).alloc (.cells #[.int .i64 (x.err : Int), .int .i64 (x.pos : Int)] 62) = w2 at *
  have HZ2 := hid ((HB2.out.block _ (lt_of_block HZ1.out)).trans HZ1.out)
  have HW2 := hid (HB1.out.then HB2.out)
  clear HZ1 HB1 HB2
  obtain ⟨c0, c1, c2, c3, c4⟩ := box_cells HT2.out
  obtain ⟨d0, d1, d2, d3, d4⟩ := box_cells HZ2.out
  have hsz := lt_of_block HT2.out
  have hsz1 := lt_of_block HZ2.out
  have hsz2 := lt_of_block HS2.out
  have e0 : w2.cell? ⟨w1.heap.size + 1, 0, none⟩ = some (.int .i64 (x.err : Int)) := by rw [cell_of_row _ _ _ _ _ _ HS2.out]; rfl
  have fz0 := frozen_of_row w2 w.heap.size 0 _ _ HZ2.out
  have fz1 := frozen_of_row w2 w.heap.size 1 _ _ HZ2.out
  have fz2 := frozen_of_row w2 w.heap.size 2 _ _ HZ2.out
  have fz3 := frozen_of_row w2 w.heap.size 3 _ _ HZ2.out
  have fz4 := frozen_of_row w2 w.heap.size 4 _ _ HZ2.out
  by_cases hbad : x.err ≠ 0 ∨ x.tag.vars ≠ [] ∨ x.tag.keys ≠ []
  · have HQ := hid (show bareR k = (Tg.zero, false) by rw [HRD.out, if_pos (by rcases hbad with h | h | h; exact Or.inl h; exact Or.inr (Or.inl h); exact Or.inr (Or.inr (Or.inl h)))])
    have hend : ∀ (a : Act) (hd : a.defers = []) (h2 : a.tmps.getD 2 undef = .pointer (some ⟨w.heap.size, 0, none⟩)) (h3 : a.tmps.getD 3 undef = .bool false),
        bodyPost Tryz.prog Tryz.f41 (fun e w' => BareRes w (bareR k) e w') Exit.ret a (P5 w2 w.heap.size (.string ⟨#[]⟩) (.string ⟨#[]⟩) (.string ⟨#[]⟩) (.slice none 0 0) (.slice none 0 0)) := fun a hd h2 h3 =>
      bare_ret HQ.out HZ2.out HW2.out none none 0 0 hd h2 h3
    have HEND := hid hend
    clear hend
    by_cases he : x.err = 0
    · rw [he] at e0
      by_cases hv : x.tag.vars = []
      · have hkk : x.tag.keys ≠ [] := by
          rcases hbad with h | h | h
          · exact absurd he h
          · exact absurd hv h
          · exact h
        rw [hv] at c3
        simp only [List.length_nil] at c3
        have hk0 : (0 : Int) < (x.tag.keys.length : Int) := by have := List.length_pos_iff.2 hkk; omega
        have hk1 : 0 < x.tag.keys.length := List.length_pos_iff.2 hkk
        clear hbad he hv hkk HT2
        go_wp2_with fail
        all_goals first | exact HEND.out _ rfl rfl rfl | (exfalso; omega)
      · have hv0 : (0 : Int) < (x.tag.vars.length : Int) := by have := List.length_pos_iff.2 hv; omega
        have hv1 : 0 < x.tag.vars.length := List.length_pos_iff.2 hv
        clear hbad he hv HT2
        go_wp2_with fail
        all_goals first | exact HEND.out _ rfl rfl rfl | (exfalso; omega)
    · have heb : ((x.err : Int) != 0) = true := by rw [bne_iff_ne]; omega
      clear hbad he HT2
      go_wp2_with fail
      exact HEND.out _ rfl rfl rfl
  · have he : x.err = 0 := by apply Classical.byContradiction; intro e; exact hbad (Or.inl e)
    have hv : x.tag.vars = [] := by apply Classical.byContradiction; intro e; exact hbad (Or.inr (Or.inl e))
    have hkk : x.tag.keys = [] := by apply Classical.byContradiction; intro e; exact hbad (Or.inr (Or.inr e))
    have HQ1 := hid (show ptKeyR (ptOf x.tag) = k → bareR k = (x.tag, true) from fun h => by
      rw [HRD.out, if_neg (by rintro (e | e | e | e); exact hbad (Or.inl e); exact hbad (Or.inr (Or.inl e)); exact hbad (Or.inr (Or.inr e)); exact e h)])
    have HQ2 := hid (show ptKeyR (ptOf x.tag) ≠ k → bareR k = (Tg.zero, false) from fun h => by
      rw [HRD.out, if_pos (Or.inr (Or.inr (Or.inr h)))])
    have hg := hgood he
    have hpt := pt_tag hv hkk
    have hls := good_lens (p := ptOf x.tag) (by rw [hpt]; exact hg)
    clear hbad hpt hg hgood HRD
    obtain ⟨⟨tl, ts, tr, tv, tk⟩, er, pos⟩ := x
    simp only at he hv hkk
    subst he hv hkk
    have KY := hid (fun W => rkey_any W tl ts tr (Nat.le_trans hls.1 (by decide)) (Nat.le_trans hls.2.1 (by decide)) (Nat.le_trans hls.2.2 (by decide)))
    clear hls
    simp only [List.length_nil, ptOf] at *
    generalize ptKeyR ⟨tl, ts, tr⟩ = s at *
    go_wp2_with fail
    refine (KY.out _).mono ?_
    rintro e w3 ⟨rfl, hb3⟩
    have HZ3 := hid ((hb3.block _ hsz1).trans HZ2.out)
    have HT3 := hid ((hb3.block _ hsz).trans HT2.out)
    have HW3 := hid (HW2.out.then hb3)
    clear c0 c1 c2 c3 c4 d0 d1 d2 d3 d4 e0 fz0 fz1 fz2 fz3 fz4 hsz hsz1 hsz2 hb3 HZ2 HW2 HT2 HS2
    obtain ⟨c0, c1, c2, c3, c4⟩ := box_cells HT3.out
    obtain ⟨d0, d1, d2, d3, d4⟩ := box_cells HZ3.out
    have hsz := lt_of_block HT3.out
    have hsz1 := lt_of_block HZ3.out
    have fz0 := frozen_of_row w3 w.heap.size 0 _ _ HZ3.out
    have fz1 := frozen_of_row w3 w.heap.size 1 _ _ HZ3.out
    have fz2 := frozen_of_row w3 w.heap.size 2 _ _ HZ3.out
    have fz3 := frozen_of_row w3 w.heap.size 3 _ _ HZ3.out
    have fz4 := frozen_of_row w3 w.heap.size 4 _ _ HZ3.out
    by_cases hsk : s = k
    · have hsb : (s == k) = true := by rw [hsk]; simp
      have HE := hid (show bareR k = (⟨tl, ts, tr, [], []⟩, true) from HQ1.out hsk)
      clear hsk
      go_wp2_with fail
      all_goals first | (rename_i hx; rw [hsb] at hx; exact absurd hx (by decide)) | skip
      change bodyPost _ _ _ _ _ (P5 w3 w.heap.size (.string ⟨tl.toArray⟩) (.string ⟨ts.toArray⟩) (.string ⟨tr.toArray⟩) (.slice av 0 cv) (.slice ak 0 ck))
      exact bare_ret HE.out HZ3.out HW3.out av ak cv ck rfl rfl rfl
    · have hsb : (s == k) = false := by rw [beq_eq_false_iff_ne]; exact hsk
      have HE := hid (show bareR k = (Tg.zero, false) from HQ2.out hsk)
      clear hsk
      go_wp2_with fail
      all_goals first | (rename_i hx; rw [hsb] at hx; exact absurd hx (by decide)) | skip
      change bodyPost _ _ _ _ _ (P5 w3 w.heap.size (.string ⟨#[]⟩) (.string ⟨#[]⟩) (.string ⟨#[]⟩) (.slice none 0 0) (.slice none 0 0))
      exact bare_ret HE.out HZ3.out HW3.out none none 0 0 rfl rfl rfl
end Go.Proofs.YtlmgmifaknlolaaGreat

/- The contract of the reference's Fault. -/
set_option linter.unusedVariables false
set_option linter.unusedSimpArgs false
namespace Go.Proofs.YtlmgmifaknlolaaGreat
open Go.RowKit Go.Lib Go.Sort Go.Maps

def RtOut (l : List (Str × Str)) (e i : Nat) : Prop := badR [] l = some (e, i) ∨ (badR [] l = none ∧ e = 0 ∧ i = 0)
/-- what Fault hands back -/
def RtRes (w : World) (l : List (Str × Str)) (e : Ending) (w' : World) : Prop := ∃ er i : Nat, e = .returned (.agg #[.int .i64 er, .int .i64 i]) ∧ RtOut l er i ∧ Below w.heap.size w w'
theorem rt_ret {w W : World} {l : List (Str × Str)} (er i : Nat) (hf : W.heap[w.heap.size]? = some (.cells #[.int .i64 0, .int .i64 0] 45 (0, 0))) (hb : Below w.heap.size w W) (ho : RtOut l er i)
    {a : Act} (hd : a.defers = []) (h2 : a.tmps.getD 2 undef = .pointer (some ⟨w.heap.size, 0, none⟩)) :
    bodyPost Tryz.prog Tryz.f24 (fun e w' => RtRes w l e w') Exit.ret a (F2 W w.heap.size er i) := by
  have hr := F2_row er i hf
  have hbb := F2_below er i hb
  generalize F2 W w.heap.size er i = V at *
  have e0 : V.cell? ⟨w.heap.size, 0, none⟩ = some (.int .i64 er) := by rw [cell_of_row _ _ _ _ _ _ hr]; rfl
  have e1 : V.cell? ⟨w.heap.size, 1, none⟩ = some (.int .i64 i) := by rw [cell_of_row _ _ _ _ _ _ hr]; rfl
  refine bodyPost_ret (v := .agg #[.int .i64 er, .int .i64 i]) ?_ hd ⟨er, i, rfl, ho, hbb⟩
  obtain ⟨tmps, defers⟩ := a
  simp only [Array.getD_eq_getD_getElem?] at h2
  simp [results, Tryz.results24, go_sem, h2, e0, e1]
/-- the state of Fault's loop -/
structure RtSt (w : World) (D : List (Str × Str)) (W : World) (n : Nat) : Prop where
  bad : badR [] D = badR (D.take n) (D.drop n)
  f : W.heap[w.heap.size]? = some (.cells #[.int .i64 0, .int .i64 0] 45 (0, 0))
  bel : Below w.heap.size w W
theorem RtSt.below {w W W' : World} {D : List (Str × Str)} {n : Nat} (h : RtSt w D W n) (hb : Below W.heap.size W W') : RtSt w D W' n :=
  ⟨h.bad, (hb.block _ (lt_of_block h.f)).trans h.f, h.bel.then hb⟩
theorem RtSt.step {w W : World} {D : List (Str × Str)} {n : Nat} (h : RtSt w D W n) (hn : n < D.length) (h1 : okP D[n]) (h2 : ∀ q ∈ D.take n, q.1 ≠ (D[n]).1) : RtSt w D W (n + 1) :=
  ⟨by rw [h.bad, badR_step hn, if_pos h1, if_pos h2], h.f, h.bel⟩
theorem rt_bad {D : List (Str × Str)} {n : Nat} (h : badR [] D = badR (D.take n) (D.drop n)) (hn : n < D.length) (h1 : ¬ okP D[n]) : RtOut D 200 n :=
  Or.inl (by rw [h, badR_step hn, if_neg h1])
theorem rt_again {D : List (Str × Str)} {n m : Nat} (h : badR [] D = badR (D.take n) (D.drop n)) (hn : n < D.length) (h1 : okP D[n]) (hm : m < n) (h2 : (D[m]'(by omega)).1 = (D[n]).1) : RtOut D 211 n :=
  Or.inl (by rw [h, badR_step hn, if_pos h1, if_neg (fun e => e _ (List.mem_take_iff_getElem.2 ⟨m, by omega, rfl⟩) h2)])
theorem RtSt.okB {w W : World} {D : List (Str × Str)} (h : RtSt w D W D.length) : RtOut D 0 0 :=
  Or.inr ⟨by rw [h.bad, List.take_length, List.drop_length]; rfl, rfl, rfl⟩
theorem isE {s : Str} {b : Bool} (h : List.isEmpty s = b) (h2 : List.isEmpty s = !b) : False := by rw [h] at h2; cases b <;> cases h2

set_option maxRecDepth 100000 in
set_option maxHeartbeats 16000000 in
theorem rfault_any (w : World) (ao : Option Addr) (cp : Nat) (D : List (Str × Str)) (hl : RdP w (.slice ao D.length cp) D) (hcap : D.length ≤ cp) (hp : PSz D) (hsz : D.length ≤ 10000000000) :
    Calls Tryz.prog 24 #[.slice ao D.length cp] w fun e w' => RtRes w D e w' := by
  have BA := hid (fun W k (hk : k.length ≤ maxLen) => rbare_any W k hk)
  obtain ⟨ao', cp', hv, hlen, hcell⟩ := hl
  cases hv
  have HC := hid hcell
  have HP := hid hp
  have ST0 := hid (show RtSt w D (w.alloc (.cells #[.int .i64 0, .int .i64 0] 45)) 0 from ⟨by simp, heap_alloc_new w _, (Below.refl _ _).alloc (Nat.le_refl _) _⟩)
  have HCAP := hid hcap
  have HSZ := hid hsz
  clear hcell hp hcap hsz
  go_enter Tryz.func24, Tryz.ntmps24
  go_wp2_with fail
  go_loopg [13] D.length (fun g vi W => ∃ n : Nat, n ≤ D.length ∧ D.length ≤ n + g ∧ vi = .int .i64 n ∧ RtSt w D W n)
  case atStart => exact ⟨0, Nat.zero_le _, by omega, rfl, ST0.out⟩
  case round =>
    obtain ⟨n, hn, hg, rfl, st⟩ := hrel
    rename World => w1
    have HG := hid hg
    have ST1 := hid st
    clear st ST0 hg
    by_cases hlt : n < D.length
    · have hne : D ≠ [] := by intro e; rw [e] at hlt; simp at hlt
      obtain ⟨p1, o1, rfl, hp1, hc1⟩ := HC.out hne
      have hps := HP.out _ (List.getElem_mem hlt)
      obtain ⟨kv, hkv⟩ : ∃ kv, kv = D[n]'hlt := ⟨_, rfl⟩
      obtain ⟨k, v⟩ := kv
      have HCE := hid (fun (j : Nat) (hj : j < D.length) W (hb : Below w.heap.size w W) => show World.cell? W ⟨p1, o1 + j * 2, none⟩ = some (S (D[j]'hj).1) ∧ World.cell? W ⟨p1, o1 + j * 2 + 1, none⟩ = some (S (D[j]'hj).2) from
        ⟨(hb.cell (p := ⟨p1, o1 + j * 2, none⟩) hp1).trans (by have := hc1 j 0 (S (D[j]'hj).1) hj rfl; rw [Nat.add_zero] at this; exact this), (hb.cell (p := ⟨p1, o1 + j * 2 + 1, none⟩) hp1).trans (hc1 j 1 (S (D[j]'hj).2) hj rfl)⟩)
      have HK := hid hkv
      have hkl : k.length ≤ maxLen := by rw [← hkv] at hps; exact hps.1
      have hvl : v.length ≤ maxLen := by rw [← hkv] at hps; exact hps.2
      obtain ⟨q1, q2⟩ := HCE.out n hlt w1 ST1.out.bel
      rw [← hkv, S] at q1 q2
      have HOKP := hid (show okP (D[n]'hlt) ↔ (bareR k).2 = true ∧ (bareR v).2 = true ∧ (bareR v).1.lang ≠ [] ∧ (bareR v).1.script ≠ [] ∧ (bareR v).1.region ≠ [] by rw [← hkv]; exact okP_ref (k, v))
      have HB1K := hid (BA.out w1 k hkl)
      have hni : (n : Int) < (D.length : Int) := by omega
      have hn0 : (0 : Int) ≤ (n : Int) := by omega
      clear hkv hc1 hps hne HC
      go_upto_region 4 with (fail)
      have HPB := hid (heap_alloc_new w1 (.cells #[.string ⟨k.toArray⟩, .string ⟨v.toArray⟩] 42))
      have HB2 := hid (show Below w1.heap.size w1 (w1.alloc (.cells #[.string ⟨k.toArray⟩, .string ⟨v.toArray⟩] 42)) from (Below.refl _ _).alloc (Nat.le_refl _) _)
      generalize w1.alloc (.cells #[.string ⟨k.toArray⟩, .string ⟨v.toArray⟩] 42) = w2 at *
      have ST2 := hid (ST1.out.below HB2.out)
      clear q1 q2 HB2 HB1K
      have c0 : w2.cell? ⟨w1.heap.size, 0, none⟩ = some (.string ⟨k.toArray⟩) := by rw [cell_of_row _ _ _ _ _ _ HPB.out]; rfl
      have lt0 := lt_of_block HPB.out
      go_wp2_with fail
      refine (BA.out _ k hkl).mono ?_
      rintro e w3 ⟨a1, g1, a2, g2, rfl, hb3⟩
      generalize (bareR k).2 = b1 at *
      generalize (bareR k).1 = x at *
      clear c0 lt0
      have HPB3 := hid ((hb3.block _ (lt_of_block HPB.out)).trans HPB.out)
      have ST3 := hid (ST2.out.below hb3)
      clear hb3 HPB ST2
      go_upto_region 5 with (fail)
      have HB4 := hid (show Below w3.heap.size w3 (w3.alloc (.cells #[.string ⟨x.lang.toArray⟩, .string ⟨x.script.toArray⟩, .string ⟨x.region.toArray⟩, .slice a1 x.vars.length g1, .slice a2 x.keys.length g2] 25)) from (Below.refl _ _).alloc (Nat.le_refl _) _)
      generalize w3.alloc (.cells #[.string ⟨x.lang.toArray⟩, .string ⟨x.script.toArray⟩, .string ⟨x.region.toArray⟩, .slice a1 x.vars.length g1, .slice a2 x.keys.length g2] 25) = w4 at *
      have HPB4 := hid ((HB4.out.block _ (lt_of_block HPB3.out)).trans HPB3.out)
      have ST4 := hid (ST3.out.below HB4.out)
      clear HB4 HPB3 ST3
      have c1 : w4.cell? ⟨w1.heap.size, 1, none⟩ = some (.string ⟨v.toArray⟩) := by rw [cell_of_row _ _ _ _ _ _ HPB4.out]; rfl
      have lt1 := lt_of_block HPB4.out
      go_wp2_with fail
      refine (BA.out _ v hvl).mono ?_
      rintro e w5 ⟨a3, g3, a4, g4, rfl, hb5⟩
      generalize (bareR v).2 = b2 at *
      generalize (bareR v).1 = y at *
      clear c1 lt1
      have HPB5 := hid ((hb5.block _ (lt_of_block HPB4.out)).trans HPB4.out)
      have ST5 := hid (ST4.out.below hb5)
      clear hb5 HPB4 ST4
      go_upto_region 6 with (fail)
      have HB6 := hid (show Below w5.heap.size w5 (w5.alloc (.cells #[.string ⟨y.lang.toArray⟩, .string ⟨y.script.toArray⟩, .string ⟨y.region.toArray⟩, .slice a3 y.vars.length g3, .slice a4 y.keys.length g4] 25)) from (Below.refl _ _).alloc (Nat.le_refl _) _)
      have HY6 := hid (heap_alloc_new w5 (.cells #[.string ⟨y.lang.toArray⟩, .string ⟨y.script.toArray⟩, .string ⟨y.region.toArray⟩, .slice a3 y.vars.length g3, .slice a4 y.keys.length g4] 25))
      generalize w5.alloc (.cells #[.string ⟨y.lang.toArray⟩, .string ⟨y.script.toArray⟩, .string ⟨y.region.toArray⟩, .slice a3 y.vars.length g3, .slice a4 y.keys.length g4] 25) = w6 at *
      have HPB6 := hid ((HB6.out.block _ (lt_of_block HPB5.out)).trans HPB5.out)
      have ST6 := hid (ST5.out.below HB6.out)
      clear HB6 HPB5 ST5
      obtain ⟨d0, d1, d2, d3, d4⟩ := box_cells HY6.out
      have ltt := lt_of_block HY6.out
      have y0 : w6.cell? ⟨w.heap.size, 0, none⟩ = some (.int .i64 0) := by rw [cell_of_row _ _ _ _ _ _ ST6.out.f]; rfl
      have y1 : w6.cell? ⟨w.heap.size, 1, none⟩ = some (.int .i64 0) := by rw [cell_of_row _ _ _ _ _ _ ST6.out.f]; rfl
      have fy0 := frozen_of_row w6 w.heap.size 0 _ _ ST6.out.f
      have fy1 := frozen_of_row w6 w.heap.size 1 _ _ ST6.out.f
      have lty := lt_of_block ST6.out.f
      by_cases hok : okP (D[n]'hlt)
      · have hok2 := HOKP.out.1 hok
        obtain ⟨hb1, hb2, hl0, hl1, hl2⟩ := hok2
        subst hb1 hb2
        have HOK := hid hok
        have p0 : List.isEmpty y.lang = false := isEmpty_no hl0
        have p1' : List.isEmpty y.script = false := isEmpty_no hl1
        have p2 : List.isEmpty y.region = false := isEmpty_no hl2
        have hnc : (n : Int) ≤ (cp : Int) := by have := HCAP.out; omega
        clear hok hl0 hl1 hl2 HOKP y0 y1 fy0 fy1 lty
        go_wp2_with fail
        all_goals first | exact (isE p0 (by assumption)).elim | exact (isE p1' (by assumption)).elim | exact (isE p2 (by assumption)).elim | skip
        clear d0 d1 d2 d3 d4 ltt p0 p1' p2
        go_loopg [57] n (fun g vj W => ∃ m : Nat, m ≤ n ∧ n ≤ m + g ∧ vj = .int .i64 m ∧ (∀ j (hj : j < D.length), j < m → (D[j]'hj).1 ≠ k) ∧ RtSt w D W n ∧ W.heap[w1.heap.size]? = some (.cells #[.string ⟨k.toArray⟩, .string ⟨v.toArray⟩] 42 (0, 0)))
        case atStart => exact ⟨0, Nat.zero_le _, by omega, rfl, fun j _ hj => by omega, ST6.out, HPB6.out⟩
        case round =>
          rename World => w7
          rename Nat => gg
          obtain ⟨m, hm, hg2, rfl, hno, st, hpb⟩ := hrel
          have HG2 := hid hg2
          have HNO := hid hno
          have ST7 := hid st
          have HPB7 := hid hpb
          clear hg2 hno st hpb ST6 HPB6
          by_cases hlt2 : m < n
          · have hmd : m < D.length := by omega
            obtain ⟨kw, hkw⟩ : ∃ kw, kw = D[m]'hmd := ⟨_, rfl⟩
            obtain ⟨k2, v2⟩ := kw
            have HKW := hid hkw
            obtain ⟨q1, q2⟩ := HCE.out m hmd w7 ST7.out.bel
            rw [← hkw, S] at q1 q2
            have hmi : (m : Int) < (n : Int) := by omega
            have hm0 : (0 : Int) ≤ (m : Int) := by omega
            have hmd2 : (m : Int) < (D.length : Int) := by omega
            clear hkw
            go_upto_region 11 with (fail)
            have HQB := hid (heap_alloc_new w7 (.cells #[.string ⟨k2.toArray⟩, .string ⟨v2.toArray⟩] 42))
            have HB8 := hid (show Below w7.heap.size w7 (w7.alloc (.cells #[.string ⟨k2.toArray⟩, .string ⟨v2.toArray⟩] 42)) from (Below.refl _ _).alloc (Nat.le_refl _) _)
            generalize w7.alloc (.cells #[.string ⟨k2.toArray⟩, .string ⟨v2.toArray⟩] 42) = w8 at *
            have ST8 := hid (ST7.out.below HB8.out)
            have HPB8 := hid ((HB8.out.block _ (lt_of_block HPB7.out)).trans HPB7.out)
            clear q1 q2 HB8 ST7 HPB7
            have c0 : w8.cell? ⟨w1.heap.size, 0, none⟩ = some (.string ⟨k.toArray⟩) := by rw [cell_of_row _ _ _ _ _ _ HPB8.out]; rfl
            have e0 : w8.cell? ⟨w7.heap.size, 0, none⟩ = some (.string ⟨k2.toArray⟩) := by rw [cell_of_row _ _ _ _ _ _ HQB.out]; rfl
            have lt0 := lt_of_block HPB8.out
            have lt1 := lt_of_block HQB.out
            have y0 : w8.cell? ⟨w.heap.size, 0, none⟩ = some (.int .i64 0) := by rw [cell_of_row _ _ _ _ _ _ ST8.out.f]; rfl
            have y1 : w8.cell? ⟨w.heap.size, 1, none⟩ = some (.int .i64 0) := by rw [cell_of_row _ _ _ _ _ _ ST8.out.f]; rfl
            have fy0 := frozen_of_row w8 w.heap.size 0 _ _ ST8.out.f
            have fy1 := frozen_of_row w8 w.heap.size 1 _ _ ST8.out.f
            have lty := lt_of_block ST8.out.f
            by_cases hkk : k2 = k
            · have hub : (k2 == k) = true := by rw [hkk]; simp
              have HOUT := hid (rt_again ST8.out.bad hlt HOK.out hlt2 (by rw [← HKW.out, ← HK.out]; exact hkk))
              clear hkk
              go_wp2_with fail
              all_goals first | (rename_i hx; rw [hub] at hx; exact absurd hx (by decide)) | skip
              change bodyPost _ _ _ _ _ (F2 w8 w.heap.size 211 n)
              exact rt_ret 211 n ST8.out.f ST8.out.bel HOUT.out rfl rfl
            · have hub : (k2 == k) = false := by rw [beq_eq_false_iff_ne]; exact hkk
              have HKK := hid hkk
              clear hkk
              go_wp2_with fail
              all_goals first | (rename_i hx; rw [hub] at hx; exact absurd hx (by decide)) | skip
              go_roundg (gg - 1)
              case measure => have := HG2.out; omega
              case rel => exact ⟨m + 1, by omega, by have := HG2.out; omega, by simp, fun j hj hjm => by
                by_cases e : j = m
                · subst e; rw [← HKW.out]; exact HKK.out
                · exact HNO.out j hj (by omega), ST8.out, HPB8.out⟩
          · have hmn : m = n := by omega
            subst hmn
            go_wp2_with fail
            go_roundg (gk - 1)
            case measure => have := HG.out; omega
            case rel => exact ⟨m + 1, by omega, by have := HG.out; omega, by simp, ST7.out.step hlt HOK.out (fun q hq => by
              obtain ⟨j, hj, rfl⟩ := List.mem_take_iff_getElem.1 hq
              have := HNO.out j (by omega) (by omega)
              rw [← HK.out]; exact this)⟩
      · have hout := hid (rt_bad ST6.out.bad hlt hok)
        have hnot : ¬ (b1 = true ∧ b2 = true ∧ y.lang ≠ [] ∧ y.script ≠ [] ∧ y.region ≠ []) := fun e => hok (HOKP.out.2 e)
        clear hok HOKP
        cases b1 with
        | false =>
          clear hnot
          go_wp2_with fail
          change bodyPost _ _ _ _ _ (F2 w6 w.heap.size 200 n)
          exact rt_ret 200 n ST6.out.f ST6.out.bel hout.out rfl rfl
        | true =>
          cases b2 with
          | false =>
            clear hnot
            go_wp2_with fail
            change bodyPost _ _ _ _ _ (F2 w6 w.heap.size 200 n)
            exact rt_ret 200 n ST6.out.f ST6.out.bel hout.out rfl rfl
          | true =>
            have hnc : (n : Int) ≤ (cp : Int) := by have := HCAP.out; omega
            by_cases h0 : y.lang = []
            · have p0 : List.isEmpty y.lang = true := by rw [h0]; rfl
              clear hnot h0
              go_wp2_with fail
              all_goals first
                | (change bodyPost _ _ _ _ _ (F2 w6 w.heap.size 200 n); exact rt_ret 200 n ST6.out.f ST6.out.bel hout.out rfl rfl)
                | (exfalso; rename_i hx; simp [p0] at hx; done)
            · have p0 : List.isEmpty y.lang = false := isEmpty_no h0
              by_cases h1 : y.script = []
              · have p1' : List.isEmpty y.script = true := by rw [h1]; rfl
                clear hnot h0 h1
                go_wp2_with fail
                all_goals first
                  | (change bodyPost _ _ _ _ _ (F2 w6 w.heap.size 200 n); exact rt_ret 200 n ST6.out.f ST6.out.bel hout.out rfl rfl)
                  | (exfalso; rename_i hx; simp [p0, p1'] at hx; done)
              · have p1' : List.isEmpty y.script = false := isEmpty_no h1
                have h2 : y.region = [] := by apply Classical.byContradiction; intro e; exact hnot ⟨rfl, rfl, h0, h1, e⟩
                have p2 : List.isEmpty y.region = true := by rw [h2]; rfl
                clear hnot h0 h1 h2
                go_wp2_with fail
                all_goals first
                  | (change bodyPost _ _ _ _ _ (F2 w6 w.heap.size 200 n); exact rt_ret 200 n ST6.out.f ST6.out.bel hout.out rfl rfl)
                  | (exfalso; rename_i hx; simp [p0, p1', p2] at hx; done)
    · have hnl : n = D.length := by omega
      subst hnl
      have HOUT := hid ST1.out.okB
      have y0 : w1.cell? ⟨w.heap.size, 0, none⟩ = some (.int .i64 0) := by rw [cell_of_row _ _ _ _ _ _ ST1.out.f]; rfl
      have y1 : w1.cell? ⟨w.heap.size, 1, none⟩ = some (.int .i64 0) := by rw [cell_of_row _ _ _ _ _ _ ST1.out.f]; rfl
      have fy0 := frozen_of_row w1 w.heap.size 0 _ _ ST1.out.f
      have fy1 := frozen_of_row w1 w.heap.size 1 _ _ ST1.out.f
      have lty := lt_of_block ST1.out.f
      go_wp2_with fail
      change bodyPost _ _ _ _ _ (F2 w1 w.heap.size 0 0)
      exact rt_ret 0 0 ST1.out.f ST1.out.bel HOUT.out rfl rfl
end Go.Proofs.YtlmgmifaknlolaaGreat
