/- Several texts in one: LimP, LimLet, LimW, TableLimits. (joined by wip/merge.py) -/
import Derived.Test.YtjlfchnnhglbjaaGreatTA
import Derived.Test.YtjlfchnnhglbjaaGreatTG
import Derived.Test.YtjlfchnnhglbjaaGreatRows
import Derived.WalkKit
import Derived.ProofKit
import Derived.OpenShut
import Derived.ShutString
import Derived.ChangeOld
import Derived.ChangeSlices
import Derived.ChangeArms
import Derived.Below

/- Names and paths of numbers: the documents of the limits (plain Lean). -/
set_option linter.unusedVariables false
set_option linter.unusedSimpArgs false
namespace Go.Proofs.YtjlfchnnhglbjaaGreat
open Go.Lib

/-- a letter of a number -/
def letC (n : Nat) : UInt8 := UInt8.ofNat (97 + n % 26)
def locN (i : Nat) : Str := [97, letC (i / 26 / 26), letC (i / 26), letC i, 120]
def pathN (i : Nat) : Str := [112, letC (i / 26 / 26 / 26), letC (i / 26 / 26), letC (i / 26), letC i]
theorem letC_nat (n : Nat) : (letC n).toNat = 97 + n % 26 := by
  unfold letC
  rw [UInt8.toNat_ofNat']
  omega
theorem letC_inj {m n : Nat} (h : letC m = letC n) : m % 26 = n % 26 := by
  have := congrArg UInt8.toNat h
  rw [letC_nat, letC_nat] at this
  omega
theorem locN_inj {i j : Nat} (hi : i < 17576) (hj : j < 17576) (h : locN i = locN j) : i = j := by
  simp only [locN, List.cons.injEq, true_and, and_true] at h
  obtain ⟨h1, h2, h3⟩ := h
  have := letC_inj h1
  have := letC_inj h2
  have := letC_inj h3
  omega
theorem pathN_inj {i j : Nat} (hi : i < 456976) (hj : j < 456976) (h : pathN i = pathN j) : i = j := by
  simp only [pathN, List.cons.injEq, true_and, and_true] at h
  obtain ⟨h0, h1, h2, h3⟩ := h
  have := letC_inj h0
  have := letC_inj h1
  have := letC_inj h2
  have := letC_inj h3
  omega
theorem letC_let (n : Nat) : letB (letC n) = true ∧ lowB (letC n) = letC n := by
  have h : ∀ k : Fin 26, letB (UInt8.ofNat (97 + k.1)) = true ∧ lowB (UInt8.ofNat (97 + k.1)) = UInt8.ofNat (97 + k.1) := by decide
  exact h ⟨n % 26, Nat.mod_lt _ (by decide)⟩
theorem letC_name (n : Nat) : startB (letC n) = true ∧ nameB (letC n) = true := by
  have h := (letC_let n).1
  simp [nameB, startB, h]
theorem locN_named (i : Nat) : namedB (locN i) = true := by
  obtain ⟨h1, h2⟩ := letC_let (i / 26 / 26)
  obtain ⟨h3, h4⟩ := letC_let (i / 26)
  obtain ⟨h5, h6⟩ := letC_let i
  have hw : nameOf (writeF (bareT { Tg.zero with lang := locN i })) = locN i := by
    simp [nameOf, writeF, bareT, parts, partsA, Tg.zero, locN, uPart, Lib.join, tUnd, headPart, full]
  rw [← hw]
  refine good_named _ ⟨⟨Or.inr ⟨?_, ?_, ?_⟩, Or.inl rfl, Or.inl rfl, VarsOK.nil, srtS_nil, KeysOK.nil, srtK_nil⟩, ?_⟩
  · show isLang (locN i) = true
    simp [isLang, locN, allB, h1, h3, h5]; decide
  · show lower (locN i) = locN i
    simp [lower, locN, h2, h4, h6]; decide
  · show locN i ≠ tUnd
    simp [locN, tUnd]
  · simp [partsR, headPart, opt, Tg.zero, kuParts, sz, locN, uPart]
theorem letC_low (n : Nat) : (letC n).toNat < 128 := by rw [letC_nat]; omega
theorem utfG_low {c : UInt8} {t : Str} {f : Nat} (h : c.toNat < 128) : utfG (f + 1) (c :: t) = utfG f t := by
  have hd : decodeL (c :: t) = (c.toNat, 1) := by
    rw [decodeL_N]; unfold decodeN
    rw [show ((c :: t).getD 0 0).toNat = c.toNat from rfl, if_pos h]
  have hne : ((c.toNat, 1) == ((65533, 1) : Nat × Nat)) = false := by
    rw [beq_eq_false_iff_ne]; intro e; have := (Prod.mk.inj e).1; omega
  simp only [utfG, hd, hne]
  simp
theorem stepsP_end {f : Nat} {l : List Stp} {s : Str} {x : Stp} (h : stepP s = some (x, [])) : stepsP (f + 1) l s = some (l ++ [x]) := by simp only [stepsP, h]; simp
theorem docs_one {f : Nat} {t t1 t2 : Tb} {d : Dc} {r : List Dc} (h1 : headF t d = (0, t1)) (h2 : itemsF d.loc f t1 d.items = (none, t2)) : docsF f t (d :: r) = docsF (f + 1) t2 r := by
  rw [docsF]; simp only [h1, h2]
theorem docs_bad {f e : Nat} {t t1 : Tb} {d : Dc} {r : List Dc} (h1 : headF t d = (e + 1, t1)) : docsF f t (d :: r) = (⟨e + 1, f, 0⟩, t1) := by
  rw [docsF]; simp only [h1]
theorem docs_end (f : Nat) (t : Tb) : docsF f t [] = (Wrg.ok, t) := rfl
theorem pathN_path (i : Nat) : pathB (pathN i) = true := by
  obtain ⟨h1, g1⟩ := letC_name (i / 26 / 26 / 26)
  obtain ⟨h2, g2⟩ := letC_name (i / 26 / 26)
  obtain ⟨h3, g3⟩ := letC_name (i / 26)
  obtain ⟨h4, g4⟩ := letC_name i
  have hp : startB 112 = true ∧ nameB 112 = true := by decide
  have hnm : nameP (pathN i) = some (pathN i, []) := by
    simp [nameP, pathN, headB, hp.1, hp.2, g1, g2, g3, g4]
  have hu : utfB (pathN i) = true := by
    have q := fun n => letC_low n
    simp only [utfB, pathN, List.length_cons, List.length_nil]
    rw [utfG_low (by decide), utfG_low (q _), utfG_low (q _), utfG_low (q _), utfG_low (q _)]
    rfl
  unfold pathB pathP
  rw [if_neg (by simp [pathN]), if_neg (by simp [hu]), if_neg (by simp [pathN])]
  have hst : stepP (pathN i) = some ((pathN i, []), []) := by
    unfold stepP
    rw [hnm]; rfl
  rw [stepsP_end (f := 63) hst]; rfl

/-! ### the documents -/
def docN (i : Nat) : Dc := ⟨locN i, false, []⟩
def itemN (i : Nat) : Itm := ⟨pathN i, [], false, [], i⟩
theorem headN_new {t : Tb} {i : Nat} (h : locN i ∉ t.names) (hl : t.names.length ≠ 512) : headF t (docN i) = (0, { t with names := t.names ++ [locN i] }) := by
  unfold headF docN
  rw [if_neg (by simp [locN_named]), if_neg (by simp [h]), if_neg hl]
theorem headN_full {t : Tb} {i : Nat} (h : locN i ∉ t.names) (hl : t.names.length = 512) : headF t (docN i) = (3, t) := by
  unfold headF docN
  rw [if_neg (by simp [locN_named]), if_neg (by simp [h]), if_pos hl]
theorem headN_old {t : Tb} {i : Nat} (h : locN i ∈ t.names) : headF t (docN i) = (0, t) := by
  unfold headF docN
  rw [if_neg (by simp [locN_named]), if_pos (Or.inr h)]
/-- a table of n names -/
def tbN (l : List Str) : Tb := ⟨[], [], l, []⟩
theorem not_yet {n : Nat} (h : n < 17576) : locN n ∉ (List.range n).map locN := by
  intro hm
  obtain ⟨j, hj, e⟩ := List.mem_map.1 hm
  rw [List.mem_range] at hj
  have := locN_inj (by omega) (by omega) e
  omega
/-- documents of new names -/
theorem docs_new : ∀ (k n f : Nat) (rest : List Dc), n + k ≤ 512 → docsF f (tbN ((List.range n).map locN)) ((List.range' n k).map docN ++ rest) = docsF (f + k) (tbN ((List.range (n + k)).map locN)) rest
  | 0, n, f, rest, _ => rfl
  | k + 1, n, f, rest, h => by
    have ih := docs_new k (n + 1) (f + 1) rest (by omega)
    rw [List.range'_succ, List.map_cons, List.cons_append, docs_one (headN_new (not_yet (by omega)) (by simp [tbN]; omega)) rfl]
    rw [show f + (k + 1) = f + 1 + k by omega, show n + (k + 1) = n + 1 + k by omega, ← ih, show (List.range (n + 1)).map locN = (List.range n).map locN ++ [locN n] by rw [List.range_succ, List.map_append]; rfl]
    rfl
theorem docs_from (k : Nat) (rest : List Dc) (h : k ≤ 512) : newF ((List.range k).map docN ++ rest) = docsF k (tbN ((List.range k).map locN)) rest := by
  have := docs_new k 0 0 rest (by omega)
  rw [← List.range_eq_range', Nat.zero_add] at this
  exact this
/-- n of names at most: n documents, the first once more -/
theorem lim_docs (n : Nat) (hn : n ≤ 512) (h0 : 0 < n) : (newF ((List.range n).map docN ++ [docN 0])).1 = Wrg.ok := by
  rw [docs_from n _ hn, docs_one (headN_old (List.mem_map.2 ⟨0, List.mem_range.2 h0, rfl⟩)) rfl, docs_end]
theorem lim_docs3 (n : Nat) (hn : n = 512) : (newF ((List.range (n + 1)).map docN)).1 = ⟨3, 512, 0⟩ := by
  rw [List.range_succ, List.map_append, docs_from n _ (by omega), List.map_cons, docs_bad (headN_full (not_yet (by omega)) (by simp [tbN, hn]))]
  rw [hn]; rfl

/-! ### the paths -/
def rowN (loc : Str) (f i : Nat) : Rw := ⟨loc, pathN i, [], f, i⟩
theorem pathN_no (i : Nat) : ¬ ((itemN i).path = [] ∨ pathB (itemN i).path = false) := by
  have h := pathN_path i
  rintro (e | e)
  · simp [itemN, pathN] at e
  · rw [show (itemN i).path = pathN i from rfl, h] at e; cases e
theorem path_not_yet {n : Nat} (h : n < 456976) : pathN n ∉ (List.range n).map pathN := by
  intro hm
  obtain ⟨j, hj, e⟩ := List.mem_map.1 hm
  rw [List.mem_range] at hj
  have := pathN_inj (by omega) (by omega) e
  omega
theorem path_yet {n k : Nat} (h : n < k) : pathN n ∈ (List.range k).map pathN := List.mem_map.2 ⟨n, List.mem_range.2 h, rfl⟩
theorem item_isnew {t : Tb} {loc : Str} {f i : Nat} (hr : findR t.rows loc (pathN i) = none) : itemF t loc f (itemN i) = if pathN i ∈ t.paths then (0, { t with rows := t.rows ++ [rowN loc f i] }) else if t.paths.length = 16384 then (3, t) else (0, { t with rows := t.rows ++ [rowN loc f i], paths := t.paths ++ [pathN i] }) := by
  have := pathN_no i
  unfold itemF
  rw [if_neg this, if_neg (by simp [itemN]), if_neg (by simp [itemN])]
  show (match findR t.rows loc (pathN i) with | some r => _ | none => _) = _
  rw [hr]; rfl
theorem items_one {f : Nat} {t t' : Tb} {loc : Str} {x : Itm} {r : List Itm} (h : itemF t loc f x = (0, t')) : itemsF loc f t (x :: r) = itemsF loc f t' r := by rw [itemsF]; simp only [h]
theorem items_bad {f e : Nat} {t t' : Tb} {loc : Str} {x : Itm} {r : List Itm} (h : itemF t loc f x = (e + 1, t')) : itemsF loc f t (x :: r) = (some (e + 1, x.at'), t') := by rw [itemsF]; simp only [h]
theorem docs_wrong {f e : Nat} {a : Int} {t t1 t2 : Tb} {d : Dc} {r : List Dc} (h1 : headF t d = (0, t1)) (h2 : itemsF d.loc f t1 d.items = (some (e, a), t2)) : docsF f t (d :: r) = (⟨e, f, a⟩, t2) := by
  rw [docsF]; simp only [h1, h2]
theorem find_more {rows : List Rw} {loc loc' : Str} {f n i : Nat} (hi : i < 456976) (hn : n < 456976) (hne : ¬ (loc' = loc ∧ i = n)) : findR (rows ++ [rowN loc f n]) loc' (pathN i) = findR rows loc' (pathN i) := by
  unfold findR
  rw [List.find?_append]
  cases List.find? (fun r => r.loc == loc' && r.path == pathN i) rows with
  | some x => rfl
  | none =>
    have : ((rowN loc f n).loc == loc' && (rowN loc f n).path == pathN i) = false := by
      by_cases e : loc = loc'
      · have hin : i ≠ n := fun e2 => hne ⟨e.symm, e2⟩
        have : pathN n ≠ pathN i := fun e3 => hin (pathN_inj hn hi e3).symm
        simp [rowN, this]
      · simp [rowN, e]
    simp [List.find?_cons, this]
/-- the paths of m .. m + k - 1, said of a locale: p of the paths are there -/
theorem items_run (loc : Str) (f : Nat) : ∀ (k m p : Nat) (t : Tb) (rest : List Itm), t.paths = (List.range p).map pathN → m ≤ p → m + k ≤ 16384 → (∀ i, m ≤ i → i < 456976 → findR t.rows loc (pathN i) = none) →
    ∃ t', itemsF loc f t ((List.range' m k).map itemN ++ rest) = itemsF loc f t' rest ∧ t'.paths = (List.range (max p (m + k))).map pathN ∧ t'.names = t.names ∧ (∀ i, m + k ≤ i → i < 456976 → findR t'.rows loc (pathN i) = none) ∧ (∀ loc', loc' ≠ loc → ∀ i, i < 456976 → findR t'.rows loc' (pathN i) = findR t.rows loc' (pathN i))
  | 0, m, p, t, rest, hp, hm, hk, h => ⟨t, rfl, by rw [hp, show max p (m + 0) = p by omega], rfl, h, fun _ _ _ _ => rfl⟩
  | k + 1, m, p, t, rest, hp, hm, hk, h => by
    rw [List.range'_succ, List.map_cons, List.cons_append]
    have hf := h m (Nat.le_refl _) (by omega)
    have hi := item_isnew (t := t) (f := f) hf
    by_cases hlt : m < p
    · rw [if_pos (by rw [hp]; exact path_yet hlt)] at hi
      obtain ⟨t', e1, e2, e3, e4, e5⟩ := items_run loc f k (m + 1) p { t with rows := t.rows ++ [rowN loc f m] } rest hp (by omega) (by omega) (fun i h1 h2 => (find_more h2 (by omega) (by omega)).trans (h i (by omega) h2))
      refine ⟨t', by rw [items_one hi, e1], by rw [e2, show m + 1 + k = m + (k + 1) by omega], e3, fun i h1 h2 => e4 i (by omega) h2, fun loc' hl i h2 => (e5 loc' hl i h2).trans (find_more h2 (by omega) (fun e => hl e.1))⟩
    · obtain rfl : m = p := by omega
      rw [if_neg (by rw [hp]; exact path_not_yet (by omega)), if_neg (by rw [hp, List.length_map, List.length_range]; omega)] at hi
      obtain ⟨t', e1, e2, e3, e4, e5⟩ := items_run loc f k (m + 1) (m + 1) { t with rows := t.rows ++ [rowN loc f m], paths := t.paths ++ [pathN m] } rest (by rw [List.range_succ, List.map_append, ← hp]; rfl) (by omega) (by omega) (fun i h1 h2 => (find_more h2 (by omega) (by omega)).trans (h i (by omega) h2))
      refine ⟨t', by rw [items_one hi, e1], by rw [e2, show max (m + 1) (m + 1 + k) = max m (m + (k + 1)) by omega], e3, fun i h1 h2 => e4 i (by omega) h2, fun loc' hl i h2 => (e5 loc' hl i h2).trans (find_more h2 (by omega) (fun e => hl e.1))⟩
theorem items_run0 (loc : Str) (f k p : Nat) (t : Tb) (rest : List Itm) (hp : t.paths = (List.range p).map pathN) (hk : k ≤ 16384) (h : ∀ i, i < 456976 → findR t.rows loc (pathN i) = none) :
    ∃ t', itemsF loc f t ((List.range k).map itemN ++ rest) = itemsF loc f t' rest ∧ t'.paths = (List.range (max p k)).map pathN ∧ t'.names = t.names ∧ (∀ i, k ≤ i → i < 456976 → findR t'.rows loc (pathN i) = none) ∧ (∀ loc', loc' ≠ loc → ∀ i, i < 456976 → findR t'.rows loc' (pathN i) = findR t.rows loc' (pathN i)) := by
  obtain ⟨t', e1, e2, e3, e4, e5⟩ := items_run loc f k 0 p t rest hp (Nat.zero_le _) (by omega) (fun i _ h2 => h i h2)
  rw [Nat.zero_add] at e2
  exact ⟨t', by rw [List.range_eq_range']; exact e1, e2, e3, fun i h1 => e4 i (by omega), e5⟩
def lEn : Str := [101, 110]
def lDe : Str := [100, 101]
def lFr : Str := [102, 114]
theorem three_named : namedB lEn = true ∧ namedB lDe = true ∧ namedB lFr = true := by decide +kernel
theorem head_add {t : Tb} {loc : Str} {l : List Itm} (hn : namedB loc = true) (h : loc ∉ t.names) (hl : t.names.length ≠ 512) : headF t ⟨loc, false, l⟩ = (0, { t with names := t.names ++ [loc] }) := by
  unfold headF
  rw [if_neg (by simp [hn]), if_neg (by simp [h]), if_neg hl]
/-- K of paths at most -/
theorem two_docs (K : Nat) (rest : List Itm) (r : List Dc) (hK : K ≤ 16384) : ∃ t, newF (⟨lEn, false, (List.range 100).map itemN⟩ :: ⟨lDe, false, (List.range K).map itemN ++ rest⟩ :: r) = docsF 1 t (⟨lDe, false, rest⟩ :: r) ∧ t.paths = (List.range (max 100 K)).map pathN ∧ t.names = [lEn, lDe] ∧ (∀ i, K ≤ i → i < 456976 → findR t.rows lDe (pathN i) = none) ∧ (∀ i, i < 456976 → findR t.rows lFr (pathN i) = none) := by
  have h1 := head_add (t := Tb.zero) (l := (List.range 100).map itemN) three_named.1 (by simp [Tb.zero]) (by simp [Tb.zero])
  obtain ⟨t1, e1, e2, e3, e4, e5⟩ := items_run0 lEn 0 100 0 { Tb.zero with names := Tb.zero.names ++ [lEn] } [] rfl (by omega) (fun i _ => rfl)
  rw [List.append_nil] at e1
  have h2 := head_add (t := t1) (l := (List.range K).map itemN ++ rest) three_named.2.1 (by rw [e3]; decide) (by rw [e3]; decide)
  obtain ⟨t2, g1, g2, g3, g4, g5⟩ := items_run0 lDe 1 K (max 0 100) { t1 with names := t1.names ++ [lDe] } rest e2 hK (fun i h => (e5 lDe (by decide) i h).trans rfl)
  have h3 : headF t2 ⟨lDe, false, rest⟩ = (0, t2) := by
    unfold headF
    rw [if_neg (by simp [three_named.2.1]), if_pos (Or.inr (by rw [g3]; simp))]
  refine ⟨t2, ?_, g2, by rw [g3, e3]; rfl, g4, fun i h => (g5 lFr (by decide) i h).trans ((e5 lFr (by decide) i h).trans rfl)⟩
  show docsF 0 Tb.zero _ = _
  rw [docs_one h1 (e1.trans rfl)]
  rw [docsF, docsF]
  simp only [h2, h3]
  rw [g1]
theorem lim_all (K : Nat) (hK : K ≤ 16384) : (newF [⟨lEn, false, (List.range 100).map itemN⟩, ⟨lDe, false, (List.range K).map itemN⟩, ⟨lFr, false, (List.range 5).map itemN⟩]).1 = Wrg.ok := by
  obtain ⟨t, e1, e2, e3, e4, e5⟩ := two_docs K [] [⟨lFr, false, (List.range 5).map itemN⟩] hK
  rw [List.append_nil] at e1
  rw [e1]
  have h3 : headF t ⟨lDe, false, []⟩ = (0, t) := by
    unfold headF
    rw [if_neg (by simp [three_named.2.1]), if_pos (Or.inr (by rw [e3]; simp))]
  rw [docs_one h3 rfl]
  have h4 := head_add (t := t) (l := (List.range 5).map itemN) three_named.2.2 (by rw [e3]; decide) (by rw [e3]; decide)
  obtain ⟨t2, g1, _⟩ := items_run0 lFr 2 5 (max 100 K) { t with names := t.names ++ [lFr] } [] e2 (by omega) e5
  rw [List.append_nil] at g1
  rw [docs_one h4 (g1.trans rfl)]; rfl
theorem lim_all3 (n : Nat) (hn : n = 16384) : (newF [⟨lEn, false, (List.range 100).map itemN⟩, ⟨lDe, false, (List.range (n + 1)).map itemN⟩]).1 = ⟨3, 1, 16384⟩ := by
  obtain ⟨t, e1, e2, e3, e4, e5⟩ := two_docs n [itemN n] [] (by omega)
  have hr : List.range (n + 1) = List.range n ++ [n] := List.range_succ
  rw [hr, List.map_append, List.map_cons, List.map_nil, e1]
  have h3 : headF t ⟨lDe, false, [itemN n]⟩ = (0, t) := by
    unfold headF
    rw [if_neg (by simp [three_named.2.1]), if_pos (Or.inr (by rw [e3]; simp))]
  have hi := item_isnew (t := t) (f := 1) (e4 n (Nat.le_refl _) (by omega))
  rw [show max 100 n = n by omega] at e2
  rw [if_neg (by rw [e2]; exact path_not_yet (by omega)), if_pos (by rw [e2, List.length_map, List.length_range]; exact hn)] at hi
  rw [docs_wrong h3 (items_bad hi)]
  show (⟨3, 1, (n : Int)⟩ : Wrg) = _
  rw [hn]; rfl
end Go.Proofs.YtjlfchnnhglbjaaGreat

/- law12.letter. -/
set_option linter.unusedVariables false
set_option linter.unusedSimpArgs false
namespace Go.Proofs.YtjlfchnnhglbjaaGreat
open Go.RowKit Go.Lib Go.Sort Go.Maps Go.WideMaps

theorem enc_let (n : Nat) : Utf8.encode (97 + (n : Int) % 26) = ⟨[letC n].toArray⟩ := by
  have h3 : ∀ (x : ByteArray) (l : Str), x.data.toList = l → x = ⟨l.toArray⟩ := fun x l h => by cases x; simp only at h; rw [← h]
  apply h3
  rw [show (97 + (n : Int) % 26) = ((letC n).toNat : Int) by rw [letC_nat]; omega]
  exact enc_one (letC n) (letC_low n)
theorem lletter_any (n : Nat) (w : World) (hn : n < 20000) : Calls Tryz.prog 11 #[.int .i64 n] w fun e w' => e = .returned (.string ⟨[letC n].toArray⟩) ∧ w' = w := by
  go_enter Tryz.func11, Tryz.ntmps11
  go_wp2_with fail
  rw [enc_let]
  exact bodyPost_ret (v := .string ⟨[letC n].toArray⟩) (by simp [results, Tryz.results11, go_sem]) rfl ⟨rfl, rfl⟩
end Go.Proofs.YtjlfchnnhglbjaaGreat

/- The walk of TableLimits. -/
set_option linter.unusedVariables false
set_option linter.unusedSimpArgs false
namespace Go.Proofs.YtjlfchnnhglbjaaGreat
open Go.RowKit Go.Lib Go.Sort Go.Maps Go.WideMaps

theorem infoDoc : (Tryz.prog.info? 27).map (fun i => (i.zero, i.size, i.bytes)) = some (some (.agg #[.string ⟨#[]⟩, .bool false, .slice none 0 0]), 3, 48) := by kernel_rfl
theorem infoItm : (Tryz.prog.info? 35).map (fun i => (i.zero, i.size, i.bytes)) = some (some (.agg #[.string ⟨#[]⟩, .string ⟨#[]⟩, .bool false, .string ⟨#[]⟩, .int .i64 0]), 5, 64) := by kernel_rfl
def zsN (i : Nat) : List (Dc × (Option Addr × Nat)) := ((List.range i).map docN).map fun d => (d, (none, 0))
theorem zsN_succ (i : Nat) : zsN (i + 1) = zsN i ++ [(docN i, (none, 0))] := by unfold zsN; rw [List.range_succ, List.map_append, List.map_append]; rfl
theorem zsN_len (i : Nat) : (zsN i).length = i := by unfold zsN; rw [List.length_map, List.length_map, List.length_range]
theorem cat5 (x y z a b : UInt8) : (⟨#[a]⟩ : ByteArray) ++ ⟨#[x]⟩ ++ ⟨#[y]⟩ ++ ⟨#[z]⟩ ++ ⟨#[b]⟩ = ⟨[a, x, y, z, b].toArray⟩ := by
  have h : ∀ (p q : ByteArray), p.data.toList = q.data.toList → p = q := fun p q h => by
    cases p; cases q; simp only at h; congr 1; exact Array.ext' h
  apply h
  simp
def limE (j : Nat) : Nat := if j = 3 then 3 else 0
def limF (j : Nat) : Int := if j = 3 then 512 else 0
def limD (j : Nat) : List Dc := if j = 3 then (List.range 513).map docN else (List.range (510 + j)).map docN ++ [docN 0]
theorem lim_newD {j : Nat} (hj : j < 4) : (newF (limD j)).1 = ⟨limE j, limF j, 0⟩ := by
  unfold limD limE limF
  by_cases h : j = 3
  · rw [if_pos h, if_pos h, if_pos h]; exact lim_docs3 512 rfl
  · rw [if_neg h, if_neg h, if_neg h, lim_docs (510 + j) (by omega) (by omega)]; rfl
theorem costD_le : ∀ (l : List Dc) (k : Nat), (∀ d ∈ l, d.items.length ≤ k) → costD l ≤ (4 * k + 1) * l.length
  | [], k, h => Nat.zero_le _
  | d :: r, k, h => by
    have h1 := h d (List.mem_cons_self ..)
    have ih := costD_le r k (fun x hx => h x (List.mem_cons_of_mem _ hx))
    rw [costD, List.length_cons, Nat.mul_succ]
    omega
theorem limD_mem {j : Nat} : ∀ d ∈ limD j, ∃ i, d = docN i := by
  intro d hd
  unfold limD at hd
  split at hd
  · obtain ⟨i, _, rfl⟩ := List.mem_map.1 hd; exact ⟨i, rfl⟩
  · rcases List.mem_append.1 hd with hd | hd
    · obtain ⟨i, _, rfl⟩ := List.mem_map.1 hd; exact ⟨i, rfl⟩
    · exact ⟨0, List.mem_singleton.1 hd⟩
theorem limD_sz {j : Nat} (hj : j < 4) : SzD (limD j) := by
  refine ⟨fun d hd => ?_, ?_⟩
  · obtain ⟨i, rfl⟩ := limD_mem d hd
    exact ⟨by simp [docN, locN, maxLen], fun x hx => by cases hx⟩
  · have h1 := costD_le (limD j) 0 (fun d hd => by obtain ⟨i, rfl⟩ := limD_mem d hd; exact Nat.le_refl _)
    have h2 : (limD j).length ≤ 520 := by
      unfold limD
      split
      · rw [List.length_map, List.length_range]; omega
      · rw [List.length_append, List.length_map, List.length_range, List.length_singleton]; omega
    unfold maxLen
    omega
theorem P3_own {W : World} {b base size n : Nat} {e : TypeId} {v : Value} {xs : List Value} (a0 a1 a2 : Value) (h : W.ownsRow base e size v n xs) (hb : v.ownBlock ≠ some b) : (P3 W b a0 a1 a2).ownsRow base e size v n xs :=
  own_set (own_set (own_set h hb 0 a0) hb 1 a1) hb 2 a2
theorem rd_docs {W : World} {B : Nat} {v : Value} {l : List Dc} (h : OwnL encD 27 W B v (l.map fun d => (d, ((none : Option Addr), 0)))) (hn : ∀ d ∈ l, d.items = []) : RdD W v l := by
  refine ⟨_, by rw [List.map_map]; exact List.map_id' l, h.rd, fun z hz => ?_⟩
  obtain ⟨d, hd, rfl⟩ := List.mem_map.1 hz
  rw [hn d hd]
  exact RdL.nil _ _
def limG (k : Nat) : Int := if k = 3 then 1 else 0
def limH (k : Nat) : Int := if k = 3 then 16384 else 0
def itsN (i : Nat) : List Itm := (List.range i).map itemN
theorem itsN_succ (i : Nat) : itsN (i + 1) = itsN i ++ [itemN i] := by unfold itsN; rw [List.range_succ, List.map_append]; rfl
theorem itsN_len (i : Nat) : (itsN i).length = i := by unfold itsN; rw [List.length_map, List.length_range]
theorem itsN_take (i m : Nat) (h : m ≤ i) : (itsN i).take m = itsN m := by unfold itsN; rw [← List.map_take, List.take_range, Nat.min_eq_left h]
def dEn : Dc := ⟨lEn, false, itsN 100⟩
def dDe (i : Nat) : Dc := ⟨lDe, false, itsN i⟩
def dFr : Dc := ⟨lFr, false, itsN 5⟩
def limA (k : Nat) : List Dc := if k = 3 then [dEn, dDe (16382 + k)] else [dEn, dDe (16382 + k), dFr]
theorem lim_newA {k : Nat} (hk : k < 4) : (newF (limA k)).1 = ⟨limE k, limG k, limH k⟩ := by
  unfold limA limE limG limH
  by_cases h : k = 3
  · rw [if_pos h, if_pos h, if_pos h, if_pos h]
    have e : 16382 + k = 16384 + 1 := by omega
    rw [e]; exact lim_all3 16384 rfl
  · rw [if_neg h, if_neg h, if_neg h, if_neg h]
    exact lim_all (16382 + k) (by omega)
theorem limA_sz {k : Nat} (hk : k < 4) : SzD (limA k) := by
  have hp : ∀ i, ∀ x ∈ itsN i, x.path.length ≤ maxLen := fun i x hx => by
    obtain ⟨q, _, rfl⟩ := List.mem_map.1 hx
    simp [itemN, pathN, maxLen]
  have h3 : (itsN 100).length = 100 := itsN_len _
  have h4 : (itsN 5).length = 5 := itsN_len _
  have h5 : (itsN (16382 + k)).length = 16382 + k := itsN_len _
  unfold limA
  by_cases h : k = 3
  · rw [if_pos h]
    refine ⟨fun d hd => ?_, ?_⟩
    · simp only [List.mem_cons, List.not_mem_nil, or_false] at hd
      rcases hd with rfl | rfl
      · exact ⟨by show lEn.length ≤ maxLen; decide, hp _⟩
      · exact ⟨by show lDe.length ≤ maxLen; decide, hp _⟩
    · simp only [costD, dEn, dDe, h3, h5]; unfold maxLen; omega
  · rw [if_neg h]
    refine ⟨fun d hd => ?_, ?_⟩
    · simp only [List.mem_cons, List.not_mem_nil, or_false] at hd
      rcases hd with rfl | rfl | rfl
      · exact ⟨by show lEn.length ≤ maxLen; decide, hp _⟩
      · exact ⟨by show lDe.length ≤ maxLen; decide, hp _⟩
      · exact ⟨by decide, hp _⟩
    · simp only [costD, dEn, dDe, dFr, h3, h4, h5]; unfold maxLen; omega
theorem own_fresh {α : Type} {k : Nat} (E : Enc α k) {W : World} {b B : Nat} {cs : Array Value} {ty : TypeId} (l : List α) (h : W.heap[b]? = some (.cells cs ty (0, 0))) (hc : cs.toList = flatL E l) (hB : B ≤ b) (hl : l.length ≤ maxLen) : OwnL E ty W B (.slice (some ⟨b, 0, none⟩) l.length l.length) l :=
  ⟨flatL_len E l, Or.inr ⟨b, l.length, cs, rfl, hB, h, Nat.le_refl _, hl, by rw [← Array.length_toList, hc, flatL_len], by rw [hc, List.take_of_length_le (by rw [flatL_len]; exact Nat.le_refl _)]⟩⟩
theorem RdL.take {α : Type} {k : Nat} {E : Enc α k} {W : World} {a : Option Addr} {n c : Nat} {l : List α} (h : RdL E W (.slice a n c) l) (m : Nat) (hm : m ≤ l.length) : RdL E W (.slice a m c) (l.take m) := by
  obtain ⟨ao, cp, e, ⟨h1, h2, h3⟩, hc⟩ := h
  cases e
  have hl : (l.take m).length = m := by rw [List.length_take]; omega
  refine ⟨a, c, by rw [hl], ⟨by omega, by omega, fun e => ?_⟩, fun hne => ?_⟩
  · obtain ⟨e1, e2⟩ := h3 e
    exact ⟨by rw [e1]; simp, e2⟩
  · obtain ⟨b, off, ha, hlt, hx⟩ := hc (by rintro rfl; simp at hne)
    refine ⟨b, off, ha, hlt, fun j i x hj hx2 => hx j i x (by rw [hl] at hj; omega) ?_⟩
    rw [List.getElem_take] at hx2
    exact hx2
theorem rd_its {W : World} {a : Option Addr} {i c : Nat} (h : RdL encI W (.slice a i c) (itsN i)) (m : Nat) (hm : m ≤ i) : RdL encI W (.slice a (itsN m).length c) (itsN m) := by
  have := h.take m (by rw [itsN_len]; exact hm)
  rw [itsN_take i m hm] at this
  rw [itsN_len]; exact this
theorem let_at (i : Nat) (z : Int) (h : z = (i : Int)) (hi : i < 20000) (W : World) : Calls Tryz.prog 11 #[.int .i64 z] W fun e w' => e = .returned (.string ⟨[letC i].toArray⟩) ∧ w' = W := by
  subst h; exact lletter_any i W hi

set_option maxRecDepth 100000 in
set_option maxHeartbeats 8000000 in
theorem limits_any (a b : Int) (w : World) : Calls Tryz.prog 3 #[.int .i64 a, .int .i64 b] w fun e w' => e = .returned (.bool true) ∧ Below w.heap.size w w' := by
  have WK := hid (fun W => twakes_any W)
  go_enter Tryz.func3, Tryz.ntmps3
  go_wp2_with fail
  refine (WK.out w).mono ?_
  rintro e w1 ⟨rfl, hb1⟩
  have HB1 := hid hb1
  clear hb1
  go_upto_region 4 with fail
  obtain ⟨j, hj, hj4⟩ : ∃ j : Nat, max a 0 % 4 = (j : Int) ∧ j < 4 := ⟨(max a 0 % 4).toNat, by omega, by omega⟩
  obtain ⟨k, hk, hk4⟩ : ∃ k : Nat, max b 0 % 4 = (k : Int) ∧ k < 4 := ⟨(max b 0 % 4).toNat, by omega, by omega⟩
  have ha : Value.int .i64 (max a 0 % 4) = .int .i64 (j : Int) := by rw [hj]
  have hb : Value.int .i64 (max b 0 % 4) = .int .i64 (k : Int) := by rw [hk]
  generalize Value.int .i64 (max a 0 % 4) = va at *
  generalize Value.int .i64 (max b 0 % 4) = vb at *
  subst ha
  subst hb
  clear hj hk WK
  generalize Value.int .i64 (max a 0) = u16 at *
  generalize Value.int .i64 (max b 0) = u19 at *
  go_wp2_with fail
  go_loopg [5, 6] 513 (fun g v5 v6 W => ∃ i : Nat, i ≤ 510 + j ∧ 513 ≤ i + g ∧ v6 = .int .i64 i ∧ OwnL encD 27 W w1.heap.size v5 (zsN i) ∧ Below w1.heap.size w1 W)
  case atStart => exact ⟨0, Nat.zero_le _, Nat.le_refl _, rfl, OwnL.nil _ _ _ _, Below.refl _ _⟩
  case round =>
    obtain ⟨i, hi, hg, rfl, own, hb⟩ := hrel
    rename World => w2
    have HG := hid hg
    have HO := hid own
    have HB := hid hb
    clear hg own hb
    by_cases hlt : i < 510 + j
    · have hni : (i : Int) < 510 + (j : Int) := by omega
      have L1 := hid (let_at (i / 26 / 26) ((i : Int) / 26 / 26) (by omega) (by omega))
      have L2 := hid (let_at (i / 26) ((i : Int) / 26) (by omega) (by omega))
      have L3 := hid (let_at i (i : Int) rfl (by omega))
      have HI := hid (show i < 513 by omega)
      go_wp2_with fail
      refine (L1.out _).mono ?_
      rintro e w' ⟨rfl, rfl⟩
      go_wp2_with fail
      refine (L2.out _).mono ?_
      rintro e w' ⟨rfl, rfl⟩
      go_wp2_with fail
      refine (L3.out _).mono ?_
      rintro e w' ⟨rfl, rfl⟩
      have HB2 := hid HB.out.size
      have HL := hid (show (zsN i).length + 1 ≤ maxLen by rw [zsN_len]; unfold maxLen; omega)
      have HL2 := hid (show ((zsN i).length + 1) * 48 ≤ 140737488355328 by rw [zsN_len]; omega)
      have HCS := hid (show (#[Value.string ((⟨#[97]⟩ : ByteArray) ++ ⟨#[letC (i / 26 / 26)]⟩ ++ ⟨#[letC (i / 26)]⟩ ++ ⟨#[letC i]⟩ ++ ⟨#[120]⟩), .bool false, .slice none 0 0] : Array Value).toList = encD.enc (docN i, (none, 0)) by rw [cat5]; rfl)
      go_wp2_with (at_builtin; refine wpList_pushL (E := encD) rfl (.tmp 27) (.tmp 42) rfl Tryz.underlying23 infoDoc rfl (by decide) w1.heap.size _ (zsN i) (docN i, (none, 0)) rfl HO.out rfl HL.out HL2.out HB2.out _ HCS.out ?_; intro v3 w3 own3 gr3 mv3; have HO3 := hid own3; have HB3 := hid (HB.out.grown gr3 HB2.out (fun q hq => (World.ownsRow.lt HO.out q hq).1)); clear own3 gr3 mv3)
      go_roundg (gk - 1)
      case measure => have := HG.out; have := HI.out; omega
      case rel => exact ⟨i + 1, by omega, by have := HG.out; have := HI.out; omega, by simp, by rw [zsN_succ]; exact HO3.out, HB3.out⟩
    · have hij : i = 510 + j := by omega
      have hni : ¬ (i : Int) < 510 + (j : Int) := by omega
      have HIJ := hid hij
      have hi0 : 0 < i := by omega
      have HI := hid (show i < 520 by omega)
      clear hij
      obtain ⟨a5, c5, rfl, hc5⟩ := HO.out.slice
      rw [zsN_len] at *
      clear hc5 HG hi hlt
      go_upto_if 46 with fail
      have HA := hid (show Below w2.heap.size w2 (w2.alloc (.cells #[.int .i64 0, .int .i64 0, .int .i64 0] 30)) from (Below.refl _ _).alloc (Nat.le_refl _) _)
      have F3 := hid (heap_alloc_new w2 (.cells #[.int .i64 0, .int .i64 0, .int .i64 0] 30))
      generalize w2.alloc (.cells #[.int .i64 0, .int .i64 0, .int .i64 0] 30) = w3 at *
      have HO3 := hid (HO.out.below HA.out)
      have HB3 := hid (HB.out.then HA.out)
      have HZ := hid HB.out.size
      clear HO HB HA hni
      generalize w2.heap.size = Wb at *
      go_cut [] from 45 to 47 (fun wx => wx.heap[Wb]? = some (.cells #[.int .i64 (limE j), .int .i64 (limF j), .int .i64 0] 30 (0, 0)) ∧ OwnL encD 27 wx w1.heap.size (.slice a5 i c5) (zsN i) ∧ Below w1.heap.size w1 wx)
      case first =>
        obtain ⟨z0, z1, z2, zl⟩ := box3_cells F3.out
        obtain ⟨zf0, zf1, zf2⟩ := box3_frozen F3.out
        by_cases h3 : j = 3
        · have h3b : ((j : Int) == 3) = true := by rw [beq_iff_eq]; omega
          have h3i : (j : Int) = 3 := by omega
          have H3 := hid h3
          clear h3
          go_wp2_with fail
          go_meet
          refine ⟨?_, P3_own (.int .i64 3) (.int .i64 512) (.int .i64 0) HO3.out (own_type HO3.out F3.out (by decide)), P3_below _ _ _ HB3.out HZ.out⟩
          rw [show ((limE j : Nat) : Int) = 3 by unfold limE; rw [if_pos H3.out]; rfl, show limF j = 512 by unfold limF; rw [if_pos H3.out]]
          exact P3_row _ _ _ F3.out
        · have h3b : ((j : Int) == 3) = false := by rw [beq_eq_false_iff_ne]; omega
          have h3i : ¬ (j : Int) = 3 := by omega
          have H3 := hid h3
          clear h3
          go_wp2_with fail
          go_meet
          refine ⟨?_, HO3.out, HB3.out⟩
          rw [show ((limE j : Nat) : Int) = 0 by unfold limE; rw [if_neg H3.out]; rfl, show limF j = 0 by unfold limF; rw [if_neg H3.out]]
          exact F3.out
      case rest =>
        obtain ⟨f4, ho4, hb4⟩ := hcut
        rename World => w4
        have F4 := hid f4
        have HO4 := hid ho4
        have HB4 := hid hb4
        clear f4 ho4 hb4 HO3 F3 HB3
        go_upto_if 49 with fail
        go_cut [5] from 48 to 55 (fun v5 wx => RdD wx v5 (limD j) ∧ wx.heap[Wb]? = some (.cells #[.int .i64 (limE j), .int .i64 (limF j), .int .i64 0] 30 (0, 0)) ∧ Below w1.heap.size w1 wx)
        case first =>
          by_cases h3 : j = 3
          · have h3i : ¬ (j : Int) < 3 := by omega
            have HRD := hid (show RdD w4 (.slice a5 i c5) (limD j) by
              unfold limD
              rw [if_pos h3]
              have h513 : i = 513 := by have := HIJ.out; omega
              subst h513
              refine rd_docs (B := w1.heap.size) HO4.out (fun d hd => ?_)
              obtain ⟨q, _, rfl⟩ := List.mem_map.1 hd
              rfl)
            clear h3
            go_wp2_with fail
            go_meet
            exact ⟨HRD.out, F4.out, HB4.out⟩
          · have h3i : (j : Int) < 3 := by omega
            have H3 := hid h3
            clear h3
            obtain ⟨g5, rfl⟩ := HO4.out.some' (by intro e; have := congrArg List.length e; rw [zsN_len] at this; simp at this; omega)
            have hz0 : (zsN i)[0]'(by rw [zsN_len]; omega) = (docN 0, (none, 0)) := by
              have : (zsN i)[0]? = some (docN 0, (none, 0)) := by
                unfold zsN
                rw [List.getElem?_map, List.getElem?_map, List.getElem?_range hi0]; rfl
              rw [List.getElem?_eq_getElem (by rw [zsN_len]; omega)] at this
              exact Option.some.inj this
            obtain ⟨q0, _, gl⟩ := HO4.out.cell 0 0 (.string ⟨(locN 0).toArray⟩) (by rw [zsN_len]; omega) (by rw [hz0]; rfl)
            obtain ⟨q1, _, _⟩ := HO4.out.cell 0 1 (.bool false) (by rw [zsN_len]; omega) (by rw [hz0]; rfl)
            obtain ⟨q2, _, _⟩ := HO4.out.cell 0 2 (.slice none 0 0) (by rw [zsN_len]; omega) (by rw [hz0]; rfl)
            simp only [Nat.zero_mul, Nat.zero_add] at q0 q1 q2
            have hpos : (0 : Int) < (i : Int) := by omega
            have HB2 := hid HB4.out.size
            have HL := hid (show (zsN i).length + 1 ≤ maxLen by rw [zsN_len]; have := HI.out; unfold maxLen; omega)
            have HL2 := hid (show ((zsN i).length + 1) * 48 ≤ 140737488355328 by rw [zsN_len]; have := HI.out; omega)
            clear hz0
            generalize hl0 : (⟨(locN 0).toArray⟩ : ByteArray) = l0 at *
            have HCS := hid (show (#[Value.string l0, .bool false, .slice none 0 0] : Array Value).toList = encD.enc (docN 0, (none, 0)) by rw [← hl0]; rfl)
            clear hl0
            go_wp2_with (at_builtin; refine wpList_pushL (E := encD) rfl (.tmp 50) (.tmp 54) rfl Tryz.underlying23 infoDoc rfl (by decide) w1.heap.size _ (zsN i) (docN 0, (none, 0)) rfl HO4.out rfl HL.out HL2.out HB2.out _ HCS.out ?_; intro v5 w5 own5 gr5 mv5; have HO5 := hid own5; have HB5 := hid (HB4.out.grown gr5 HB2.out (fun q hq => (World.ownsRow.lt HO4.out q hq).1)); have F5 := hid ((gr5.block _ (lt_of_block F4.out) (Ne.symm (own_type HO4.out F4.out (by decide)))).trans F4.out); clear own5 gr5 mv5)
            go_meet
            refine ⟨?_, F5.out, HB5.out⟩
            unfold limD
            rw [if_neg H3.out, ← HIJ.out]
            refine rd_docs (B := w1.heap.size) (by rw [List.map_append]; exact HO5.out) (fun d hd => ?_)
            rcases List.mem_append.1 hd with hd | hd
            · obtain ⟨q, _, rfl⟩ := List.mem_map.1 hd; rfl
            · rw [List.mem_singleton.1 hd]; rfl
        case rest =>
          obtain ⟨rd5, f5, hb5⟩ := hcut
          rename World => w5
          have NW := hid (tnew_any w5 _ _ rd5 (limD_sz hj4))
          have F5 := hid f5
          have HB5 := hid hb5
          have HE := hid (lim_newD hj4)
          clear rd5 f5 hb5 HO4 F4 HB4
          go_wp2_with fail
          refine NW.out.mono ?_
          rintro x w6 ⟨hb6, hx⟩
          obtain ⟨pt, rfl⟩ : ∃ pt, x = .returned (.tuple #[pt, .agg #[.int .i64 (limE j), .int .i64 (limF j), .int .i64 0]]) := by
            rw [HE.out] at hx
            rcases hx with ⟨h1, Bt, _, _, _, _, _, _, rfl, _⟩ | ⟨h1, rfl⟩
            · refine ⟨.pointer (some ⟨Bt, 0, none⟩), ?_⟩
              have : j ≠ 3 := by rintro rfl; cases h1
              rw [show ((limE j : Nat) : Int) = 0 by unfold limE; rw [if_neg this]; rfl, show limF j = 0 by unfold limF; rw [if_neg this]]
            · exact ⟨_, rfl⟩
          have F6 := hid ((hb6.block _ (lt_of_block F5.out)).trans F5.out)
          have HB6 := hid (HB5.out.then hb6)
          clear hb6 hx NW F5 HB5 HE
          generalize ((limE j : Nat) : Int) = E at *
          generalize limF j = F at *
          go_upto_region 15 with fail
          have HA := hid (show Below w6.heap.size w6 (w6.alloc (.cells #[.int .i64 E, .int .i64 F, .int .i64 0] 30)) from (Below.refl _ _).alloc (Nat.le_refl _) _)
          have G7 := hid (heap_alloc_new w6 (.cells #[.int .i64 E, .int .i64 F, .int .i64 0] 30))
          generalize w6.alloc (.cells #[.int .i64 E, .int .i64 F, .int .i64 0] 30) = w7 at *
          have F7 := hid ((HA.out.block _ (lt_of_block F6.out)).trans F6.out)
          have HB7 := hid (HB6.out.then HA.out)
          have HW7 := hid (show w1.heap.size ≤ w6.heap.size from HB6.out.size)
          have HNE := hid (show Wb ≠ w6.heap.size from Nat.ne_of_lt (lt_of_block F6.out))
          clear HA F6 HB6
          generalize w6.heap.size = Nb at *
          obtain ⟨z0, z1, z2, zl⟩ := box3_cells F7.out
          obtain ⟨y0, y1, y2, yl⟩ := box3_cells G7.out
          go_wp2_with fail
          go_loopg [10, 11] 16385 (fun g v10 v11 W => ∃ i : Nat, i ≤ 16382 + k ∧ 16385 ≤ i + g ∧ v11 = .int .i64 i ∧ OwnL encI 35 W w7.heap.size v10 (itsN i) ∧ Below w7.heap.size w7 W)
          case atStart => exact ⟨0, Nat.zero_le _, Nat.le_refl _, rfl, OwnL.nil _ _ _ _, Below.refl _ _⟩
          case round =>
            clear z0 z1 z2 zl y0 y1 y2 yl HIJ hi0 HI
            obtain ⟨i2, hi2, hg, rfl, own, hb⟩ := hrel
            rename World => w8
            have HG := hid hg
            have HO := hid own
            have HB := hid hb
            clear hg own hb
            by_cases hlt : i2 < 16382 + k
            · have hni : (i2 : Int) < 16382 + (k : Int) := by omega
              have L0 := hid (let_at (i2 / 26 / 26 / 26) ((i2 : Int) / 26 / 26 / 26) (by omega) (by omega))
              have L1 := hid (let_at (i2 / 26 / 26) ((i2 : Int) / 26 / 26) (by omega) (by omega))
              have L2 := hid (let_at (i2 / 26) ((i2 : Int) / 26) (by omega) (by omega))
              have L3 := hid (let_at i2 (i2 : Int) rfl (by omega))
              have HI := hid (show i2 < 16385 by omega)
              go_wp2_with fail
              refine (L0.out _).mono ?_
              rintro e w' ⟨rfl, rfl⟩
              go_wp2_with fail
              refine (L1.out _).mono ?_
              rintro e w' ⟨rfl, rfl⟩
              go_wp2_with fail
              refine (L2.out _).mono ?_
              rintro e w' ⟨rfl, rfl⟩
              go_wp2_with fail
              refine (L3.out _).mono ?_
              rintro e w' ⟨rfl, rfl⟩
              have HB2 := hid HB.out.size
              have HL := hid (show (itsN i2).length + 1 ≤ maxLen by rw [itsN_len]; unfold maxLen; omega)
              have HL2 := hid (show ((itsN i2).length + 1) * 64 ≤ 140737488355328 by rw [itsN_len]; omega)
              have HCS := hid (show (#[Value.string ((⟨#[112]⟩ : ByteArray) ++ ⟨#[letC (i2 / 26 / 26 / 26)]⟩ ++ ⟨#[letC (i2 / 26 / 26)]⟩ ++ ⟨#[letC (i2 / 26)]⟩ ++ ⟨#[letC i2]⟩), .string ⟨#[]⟩, .bool false, .string ⟨#[]⟩, .int .i64 i2] : Array Value).toList = encI.enc (itemN i2) by rw [cat5]; rfl)
              go_wp2_with (at_builtin; refine wpList_pushL (E := encI) rfl (.tmp 70) (.tmp 91) rfl Tryz.underlying25 infoItm rfl (by decide) w7.heap.size _ (itsN i2) (itemN i2) rfl HO.out rfl HL.out HL2.out HB2.out _ HCS.out ?_; intro v3 w3 own3 gr3 mv3; have HO3 := hid own3; have HB3 := hid (HB.out.grown gr3 HB2.out (fun q hq => (World.ownsRow.lt HO.out q hq).1)); clear own3 gr3 mv3)
              go_roundg (gk - 1)
              case measure => have := HG.out; have := HI.out; omega
              case rel => exact ⟨i2 + 1, by omega, by have := HG.out; have := HI.out; omega, by simp, by rw [itsN_succ]; exact HO3.out, HB3.out⟩
            · have hij : i2 = 16382 + k := by omega
              have hni : ¬ (i2 : Int) < 16382 + (k : Int) := by omega
              have HIJ := hid hij
              obtain ⟨a10, c10, rfl, hc10⟩ := HO.out.slice
              rw [itsN_len] at *
              have HC := hid hc10
              clear hij hc10 HG hi2 hlt
              have F8 := hid ((HB.out.block _ (lt_of_block F7.out)).trans F7.out)
              have G8 := hid ((HB.out.block _ (lt_of_block G7.out)).trans G7.out)
              have HB8 := hid (HB7.out.then HB.out)
              have HR8 := hid HO.out.rd
              have HTY := hid (fun cs z (h : w8.heap[Wb]? = some (.cells cs 30 z)) => h)
              obtain ⟨z0, z1, z2, zl⟩ := box3_cells F8.out
              obtain ⟨zf0, zf1, zf2⟩ := box3_frozen F8.out
              clear F7 G7 HB7
              go_upto_if 95 with fail
              have F9 := hid (P3_row (.int .i64 0) (.int .i64 0) (.int .i64 0) F8.out)
              have G9 := hid ((P3_kept (W := w8) (.int .i64 0) (.int .i64 0) (.int .i64 0) (Ne.symm HNE.out)).trans G8.out)
              have HO9 := hid (show OwnL encI 35 (P3 w8 Wb (.int .i64 0) (.int .i64 0) (.int .i64 0)) w7.heap.size (.slice a10 i2 c10) (itsN i2) from P3_own _ _ _ HO.out (own_type HO.out F8.out (by decide)))
              have HB9 := hid (P3_below (.int .i64 0) (.int .i64 0) (.int .i64 0) HB8.out HZ.out)
              clear z0 z1 z2 zl zf0 zf1 zf2 F8 G8 HO HB8 HR8 HTY HB
              change Code.wp _ _ _ _ (P3 w8 Wb (.int .i64 0) (.int .i64 0) (.int .i64 0))
              generalize P3 w8 Wb (.int .i64 0) (.int .i64 0) (.int .i64 0) = w9 at *
              go_cut [] from 93 to 96 (fun wx => wx.heap[Wb]? = some (.cells #[.int .i64 (limE k), .int .i64 (limG k), .int .i64 (limH k)] 30 (0, 0)) ∧ wx.heap[Nb]? = some (.cells #[.int .i64 E, .int .i64 F, .int .i64 0] 30 (0, 0)) ∧ OwnL encI 35 wx w7.heap.size (.slice a10 i2 c10) (itsN i2) ∧ Below w1.heap.size w1 wx)
              case first =>
                obtain ⟨z0, z1, z2, zl⟩ := box3_cells F9.out
                obtain ⟨zf0, zf1, zf2⟩ := box3_frozen F9.out
                by_cases h3 : k = 3
                · have h3b : ((k : Int) == 3) = true := by rw [beq_iff_eq]; omega
                  have H3 := hid h3
                  clear h3
                  go_wp2_with fail
                  go_meet
                  refine ⟨?_, (P3_kept _ _ _ (Ne.symm HNE.out)).trans G9.out, P3_own (.int .i64 3) (.int .i64 1) (.int .i64 16384) HO9.out (own_type HO9.out F9.out (by decide)), P3_below _ _ _ HB9.out HZ.out⟩
                  rw [show ((limE k : Nat) : Int) = 3 by unfold limE; rw [if_pos H3.out]; rfl, show limG k = 1 by unfold limG; rw [if_pos H3.out], show limH k = 16384 by unfold limH; rw [if_pos H3.out]]
                  exact P3_row _ _ _ F9.out
                · have h3b : ((k : Int) == 3) = false := by rw [beq_eq_false_iff_ne]; omega
                  have h3i : ¬ (k : Int) = 3 := by omega
                  have H3 := hid h3
                  clear h3
                  go_wp2_with fail
                  go_meet
                  refine ⟨?_, G9.out, HO9.out, HB9.out⟩
                  rw [show ((limE k : Nat) : Int) = 0 by unfold limE; rw [if_neg H3.out]; rfl, show limG k = 0 by unfold limG; rw [if_neg H3.out], show limH k = 0 by unfold limH; rw [if_neg H3.out]]
                  exact F9.out
              case rest =>
                obtain ⟨f10, g10, ho10, hb10⟩ := hcut
                rename World => w10
                have F10 := hid f10
                have G10 := hid g10
                have HO10 := hid ho10
                have HB10 := hid hb10
                have HR10 := hid ho10.rd
                have h100 : (100 : Nat) ≤ i2 := by have := HIJ.out; omega
                have hi100 : (100 : Int) ≤ (i2 : Int) := by omega
                have hc100 : (100 : Int) ≤ (c10 : Int) := by have := HC.out; omega
                have hc100n : (100 : Nat) ≤ c10 := by have := HC.out; omega
                have hc5 : (5 : Int) ≤ (c10 : Int) := by omega
                have hc5n : (5 : Nat) ≤ c10 := by omega
                clear f10 g10 ho10 hb10 F9 G9 HO9 HB9
                go_upto_if 104 with fail
                have HA := hid (show Below w10.heap.size w10 (w10.alloc (.cells #[.string ⟨#[101, 110]⟩, .bool false, .slice a10 100 c10, .string ⟨#[100, 101]⟩, .bool false, .slice a10 i2 c10] 27)) from (Below.refl _ _).alloc (Nat.le_refl _) _)
                have R11 := hid (heap_alloc_new w10 (.cells #[.string ⟨#[101, 110]⟩, .bool false, .slice a10 100 c10, .string ⟨#[100, 101]⟩, .bool false, .slice a10 i2 c10] 27))
                generalize w10.alloc (.cells #[.string ⟨#[101, 110]⟩, .bool false, .slice a10 100 c10, .string ⟨#[100, 101]⟩, .bool false, .slice a10 i2 c10] 27) = w11 at *
                have F11 := hid ((HA.out.block _ (lt_of_block F10.out)).trans F10.out)
                have G11 := hid ((HA.out.block _ (lt_of_block G10.out)).trans G10.out)
                have HR11 := hid (HR10.out.below HA.out)
                have HO11 := hid (HO10.out.below HA.out)
                have HB11 := hid (HB10.out.then HA.out)
                have OD := hid (own_fresh encD (B := w1.heap.size) [(dEn, (a10, c10)), (dDe i2, (a10, c10))] R11.out (by show _ = flatL encD _; simp [flatL, encD, dEn, dDe, itsN_len, lEn, lDe]) HB10.out.size (by simp [maxLen]))
                clear HA F10 G10 HO10 HR10 HB10
                generalize w10.heap.size = Db at *
                go_cut [12] from 103 to 110 (fun v12 wx => RdD wx v12 (limA k) ∧ wx.heap[Wb]? = some (.cells #[.int .i64 (limE k), .int .i64 (limG k), .int .i64 (limH k)] 30 (0, 0)) ∧ wx.heap[Nb]? = some (.cells #[.int .i64 E, .int .i64 F, .int .i64 0] 30 (0, 0)) ∧ Below w1.heap.size w1 wx)
                case first =>
                  by_cases h3 : k = 3
                  · have h3i : ¬ (k : Int) < 3 := by omega
                    have HRD := hid (show RdD w11 (.slice (some ⟨Db, 0, none⟩) 2 2) (limA k) by
                      unfold limA
                      rw [if_pos h3, ← HIJ.out]
                      refine ⟨_, rfl, OD.out.rd, fun z hz => ?_⟩
                      simp only [List.mem_cons, List.not_mem_nil, or_false] at hz
                      rcases hz with rfl | rfl
                      · exact rd_its HR11.out 100 h100
                      · exact rd_its HR11.out i2 (Nat.le_refl _))
                    clear h3
                    go_wp2_with fail
                    go_meet
                    exact ⟨HRD.out, F11.out, G11.out, HB11.out⟩
                  · have h3i : (k : Int) < 3 := by omega
                    have H3 := hid h3
                    clear h3
                    have HCS := hid (show (#[Value.string ⟨#[102, 114]⟩, .bool false, .slice a10 5 c10] : Array Value).toList = encD.enc (dFr, (a10, c10)) by simp [encD, dFr, itsN_len, lFr])
                    have HB2 := hid HB11.out.size
                    go_wp2_with (at_builtin; refine wpList_pushL (E := encD) rfl (.tmp 105) (.tmp 109) rfl Tryz.underlying23 infoDoc rfl (by decide) w1.heap.size _ [(dEn, (a10, c10)), (dDe i2, (a10, c10))] (dFr, (a10, c10)) rfl OD.out rfl (by simp [maxLen]) (by simp) HB2.out _ HCS.out ?_; intro v5 w5 own5 gr5 mv5; have HO5 := hid own5; have HB5 := hid (HB11.out.grown gr5 HB2.out (fun q hq => (World.ownsRow.lt OD.out q hq).1)); have F5 := hid ((gr5.block _ (lt_of_block F11.out) (Ne.symm (own_type OD.out F11.out (by decide)))).trans F11.out); have G5 := hid ((gr5.block _ (lt_of_block G11.out) (Ne.symm (own_type OD.out G11.out (by decide)))).trans G11.out); have HI5 := hid (show OwnL encI 35 w5 w7.heap.size (.slice a10 i2 c10) (itsN i2) from World.ownsRow.kept HO11.out gr5 (Or.inr (own_type HO11.out R11.out (by decide)))); clear own5 gr5 mv5)
                    go_meet
                    refine ⟨?_, F5.out, G5.out, HB5.out⟩
                    have hr5 := HI5.out.rd
                    unfold limA
                    rw [if_neg H3.out, ← HIJ.out]
                    refine ⟨_, rfl, HO5.out.rd, fun z hz => ?_⟩
                    simp only [List.cons_append, List.nil_append, List.mem_cons, List.not_mem_nil, or_false] at hz
                    rcases hz with rfl | rfl | rfl
                    · exact rd_its hr5 100 h100
                    · exact rd_its hr5 i2 (Nat.le_refl _)
                    · exact rd_its hr5 5 (by omega)
                case rest =>
                  obtain ⟨rd12, f12, g12, hb12⟩ := hcut
                  rename World => w12
                  have NW := hid (tnew_any w12 _ _ rd12 (limA_sz hk4))
                  have F12 := hid f12
                  have G12 := hid g12
                  have HB12 := hid hb12
                  have HE := hid (lim_newA hk4)
                  clear rd12 f12 g12 hb12 F11 G11 HR11 HB11 OD R11
                  go_wp2_with fail
                  refine NW.out.mono ?_
                  rintro x w13 ⟨hb13, hx⟩
                  obtain ⟨pt2, rfl⟩ : ∃ pt, x = .returned (.tuple #[pt, .agg #[.int .i64 (limE k), .int .i64 (limG k), .int .i64 (limH k)]]) := by
                    rw [HE.out] at hx
                    rcases hx with ⟨h1, Bt, _, _, _, _, _, _, rfl, _⟩ | ⟨h1, rfl⟩
                    · refine ⟨.pointer (some ⟨Bt, 0, none⟩), ?_⟩
                      have : k ≠ 3 := by rintro rfl; cases h1
                      rw [show ((limE k : Nat) : Int) = 0 by unfold limE; rw [if_neg this]; rfl, show limG k = 0 by unfold limG; rw [if_neg this], show limH k = 0 by unfold limH; rw [if_neg this]]
                    · exact ⟨_, rfl⟩
                  have F13 := hid ((hb13.block _ (lt_of_block F12.out)).trans F12.out)
                  have G13 := hid ((hb13.block _ (lt_of_block G12.out)).trans G12.out)
                  have HB13 := hid (HB12.out.then hb13)
                  clear hb13 hx NW F12 G12 HB12 HE
                  generalize ((limE k : Nat) : Int) = E2 at *
                  generalize limG k = G2 at *
                  generalize limH k = H2 at *
                  obtain ⟨z0, z1, z2, zl⟩ := box3_cells G13.out
                  obtain ⟨zf0, zf1, zf2⟩ := box3_frozen G13.out
                  go_upto_region 29 with fail
                  have F14 := hid ((P3_kept (W := w13) (.int .i64 E2) (.int .i64 G2) (.int .i64 H2) HNE.out).trans F13.out)
                  have G14 := hid (P3_row (.int .i64 E2) (.int .i64 G2) (.int .i64 H2) G13.out)
                  have HB14 := hid (P3_below (.int .i64 E2) (.int .i64 G2) (.int .i64 H2) HB13.out HW7.out)
                  change Code.wp _ _ _ _ (P3 w13 Nb (.int .i64 E2) (.int .i64 G2) (.int .i64 H2))
                  generalize P3 w13 Nb (.int .i64 E2) (.int .i64 G2) (.int .i64 H2) = w14 at *
                  clear z0 z1 z2 zl zf0 zf1 zf2 F13 G13 HB13
                  obtain ⟨z0, z1, z2, zl⟩ := box3_cells F14.out
                  obtain ⟨y0, y1, y2, yl⟩ := box3_cells G14.out
                  go_wp2_with fail
                  exact bodyPost_ret (v := .bool true) (by simp [results, Tryz.results3, go_sem]) rfl ⟨rfl, HB1.out.then HB14.out⟩
end Go.Proofs.YtjlfchnnhglbjaaGreat

/- TableLimits: as many locales and paths as there may be make a table, and one more of either is refused at its place, for every two numbers. No condition. -/
namespace Go.Proofs.YtjlfchnnhglbjaaGreat
open Go.ChangeShapes Go.WideShapes Go.ChangeAt Go.RowKit
open Go.ChangeMaps (open_string shut_string)
set_option linter.unusedVariables false

theorem own : ownKnob Tryz.prog.godebug = none := by kernel_rfl

set_option maxRecDepth 100000 in
theorem lifted (os : Os) (started : os.Started) (H : Type) (enc : TypeId × Value → H) :
    ReturnsInHanded {} Tryz.checked os 3 .any (Rows.tableLimitsSpec.pre6 enc Tryz.prog Tryz.f3 Rows.tableLimitsRow.domain false) (Rows.tableLimitsSpec.post enc Tryz.prog Tryz.f3 false true false false) := by
  refine returnsInHanded_of_change (C := Tryz.checked) own started (by kernel_rfl) Tryz.func3
    (ChangeSpec.witness6 (enc := enc) (C := Tryz.checked) false ⟨#[], #[.int .i64 0, .int .i64 0], []⟩ 8 (by kernel_rfl) (by kernel_rfl) (by kernel_rfl) (by kernel_rfl)) ?_
  intro W base args ds gs before hval0 hW hcnd _
  have hval : ∀ (j : Nat) t v, Tryz.f3.params[j]? = some t → args[j]? = some v → Value.okWide Tryz.prog W .any base t v := hval0
  have hW' := hW
  obtain ⟨p, q, hA0, hV, rfl, hfz, hnd⟩ := hW
  have hA : DataW.TrodAll enc Tryz.prog W 0 (fun _ => true) true Tryz.f3.params.toList args.toList ds p := hA0
  rw [Tryz.params3] at hA hval
  obtain ⟨v0, vs0, d0, ds0, p0, q0, hargs, rfl, rfl, h0, r0⟩ := trodAll_cons hA
  obtain ⟨v1, vs1, d1, ds1, p1, q1, rfl, rfl, rfl, h1, r1⟩ := trodAll_cons r0
  obtain ⟨rfl, rfl, rfl⟩ := trodAll_nil r1
  obtain rfl : args = #[v0, v1] := by cases args; simp_all
  obtain ⟨rfl, rfl⟩ := trodVars_none hV
  obtain ⟨a, rfl, rfl, rfl, wa⟩ := open_int Tryz.underlying3 (hval 0 3 v0 rfl rfl) h0
  obtain ⟨b, rfl, rfl, rfl, wb⟩ := open_int Tryz.underlying3 (hval 1 3 v1 rfl rfl) h1
  clear hA0 hval0
  refine (limits_any a b W).mono fun e W' ⟨he, bel⟩ => ?_
  subst he
  exact ⟨_, rfl, _, _, _, [], _, [], hW', trodAll_mk1 (shut_bool Tryz.underlying4 _), (trodAll_cons_mk (shut_int Tryz.underlying3 wa) (trodAll_cons_mk (shut_int Tryz.underlying3 wb) trodAll_mk0)), rfl, bel.frame _, fun h => by cases h⟩

theorem over : Rows.tableLimitsRow.holds Tryz.pinned (OpenSpec.ofChange Rows.tableLimitsSpec) :=
  OpenClaim.holds_of_wide 3 Tryz.f3 rfl rfl rfl rfl rfl rfl rfl ⟨rfl, rfl, rfl, rfl, rfl⟩ rfl rfl rfl rfl rfl (by kernel_rfl) Tryz.func3 (by kernel_rfl)
    (of_decide_eq_true (by kernel_rfl)) (by unfold Func.isWrapper; first | (rw [if_pos (by decide +kernel)]; kernel_rfl) | (rw [if_neg (by decide +kernel)]; exact ⟨rfl, rfl⟩))
    (fun os started H enc _ => lifted os started H enc)

/-- the statement -/
theorem tableLimits : Rows.TableLimitsSaid := over
#print axioms tableLimits
end Go.Proofs.YtjlfchnnhglbjaaGreat
