/- Several texts in one: ChainP, PathP, PathQ, TableP, TableQ. (joined by wip/merge.py) -/
import Derived.Test.YtjlfchnnhglbjaaGreatCanonF
import Derived.Test.YtjlfchnnhglbjaaGreatParseP
import Derived.Lib.TrimUEq
import Derived.Lib.RuneBytes

/- Chains, the plain law: what stands above a locale. No program in sight. -/
set_option linter.unusedVariables false
set_option linter.unusedSimpArgs false
namespace Go.Proofs.YtjlfchnnhglbjaaGreat

/-- the tag of the plain parent -/
def plainT (t : Tg) : Tg :=
  if t.vars ≠ [] then { t with vars := t.vars.take (t.vars.length - 1) } else if t.region ≠ [] then { t with region := [] } else if t.script ≠ [] then { t with script := [] } else { t with lang := [] }
def lack (s : Str) : Nat := if s = [] then 0 else 1
def depth (t : Tg) : Nat := t.vars.length + (lack t.region + (lack t.script + lack t.lang))
def tagOf (s : Str) : Tg := (parseF s).tag
def depthS (s : Str) : Nat := depth (tagOf s)
/-- the plain parent of a locale -/
def plainF (s : Str) : Str × Bool := if namedB s = true ∧ s ≠ tRoot then ((nameF (plainT (tagOf s))).1, (nameF (plainT (tagOf s))).2 == 0) else ([], false)

theorem named_facts {s : Str} (h : namedB s = true) : (parseF s).err = 0 ∧ Good (tagOf s) ∧ (tagOf s).keys = [] ∧ nameOf (writeF (tagOf s)) = s := by
  unfold namedB at h
  rw [Bool.and_eq_true, Bool.and_eq_true, beq_iff_eq, beq_iff_eq, beq_iff_eq] at h
  obtain ⟨h1, h2, h3⟩ := h
  have hg := good_of s h1
  rw [good_name _ hg] at h3
  simp only at h3
  have h4 := good_nameRead _ hg
  rw [h3] at h4
  have h5 : tagOf s = bareT (tagOf s) := by
    show (parseF s).tag = bareT (parseF s).tag
    have := congrArg Res.tag h4
    exact this
  refine ⟨h1, hg, by rw [h5]; rfl, ?_⟩
  rw [h5]
  exact h3
theorem good_lang {t : Tg} (h : Good t) (hk : t.keys = []) (hs : t.script = []) (hr : t.region = []) (hv : t.vars = []) : Good { t with lang := [] } := by
  refine ⟨⟨Or.inl rfl, h.canon.script, h.canon.region, h.canon.vars, h.canon.vsort, h.canon.keys, h.canon.ksort⟩, ?_⟩
  unfold partsR
  simp only [hk, hs, hr, hv, opt_nil]
  decide
theorem good_plainT {t : Tg} (h : Good t) (hk : t.keys = []) : Good (plainT t) ∧ (plainT t).keys = [] := by
  have hp := h.short
  unfold partsR at hp
  rw [sz_cons, sz_append, sz_append, sz_append] at hp
  unfold plainT
  by_cases h1 : t.vars = []
  · rw [if_neg (by simp [h1])]
    by_cases h2 : t.region = []
    · rw [if_neg (by simp [h2])]
      by_cases h3 : t.script = []
      · rw [if_neg (by simp [h3])]
        exact ⟨good_lang h hk h3 h2 h1, hk⟩
      · rw [if_pos h3]
        refine ⟨⟨⟨h.canon.lang, Or.inl rfl, h.canon.region, h.canon.vars, h.canon.vsort, h.canon.keys, h.canon.ksort⟩, ?_⟩, hk⟩
        unfold partsR
        rw [sz_cons, sz_append, sz_append, sz_append]
        simp only [opt_nil, sz_nil]
        omega
    · rw [if_pos h2]
      refine ⟨⟨⟨h.canon.lang, h.canon.script, Or.inl rfl, h.canon.vars, h.canon.vsort, h.canon.keys, h.canon.ksort⟩, ?_⟩, hk⟩
      unfold partsR
      rw [sz_cons, sz_append, sz_append, sz_append]
      simp only [opt_nil, sz_nil]
      omega
  · rw [if_pos h1]
    have hd := List.take_append_drop (t.vars.length - 1) t.vars
    have hz : sz (t.vars.take (t.vars.length - 1)) ≤ sz t.vars := by
      conv => rhs; rw [← hd, sz_append]
      omega
    have hv := h.canon.vars
    have hs : srtS (t.vars.take (t.vars.length - 1)) = t.vars.take (t.vars.length - 1) := by
      have h5 := srtS_sorted t.vars
      rw [h.canon.vsort] at h5
      exact List.mergeSort_of_pairwise (h5.sublist (List.take_sublist _ _))
    refine ⟨⟨⟨h.canon.lang, h.canon.script, h.canon.region, ⟨hv.1.sublist (List.take_sublist _ _), fun v hm => hv.2.1 v (List.mem_of_mem_take hm), ?_⟩, hs, h.canon.keys, h.canon.ksort⟩, ?_⟩, hk⟩
    · have := hv.2.2; rw [List.length_take]; omega
    · unfold partsR
      rw [sz_cons, sz_append, sz_append, sz_append]
      simp only
      omega
theorem lack_pos {s : Str} (h : s ≠ []) : lack s = 1 := if_neg h
theorem lack_nil : lack [] = 0 := rfl
theorem depth_plainT {t : Tg} (h : depth t ≠ 0) : depth (plainT t) + 1 = depth t := by
  unfold plainT
  by_cases h1 : t.vars = []
  · rw [if_neg (by simp [h1])]
    by_cases h2 : t.region = []
    · rw [if_neg (by simp [h2])]
      by_cases h3 : t.script = []
      · rw [if_neg (by simp [h3])]
        unfold depth at h ⊢
        simp only [h1, h2, h3, lack_nil, List.length_nil] at h ⊢
        by_cases h4 : t.lang = []
        · rw [h4] at h; exact absurd rfl h
        · rw [lack_pos h4]
      · rw [if_pos h3]
        unfold depth
        simp only [lack_nil, lack_pos h3]
        omega
    · rw [if_pos h2]
      unfold depth
      simp only [lack_nil, lack_pos h2]
      omega
  · rw [if_pos h1]
    have : 0 < t.vars.length := List.length_pos_iff.2 h1
    unfold depth
    simp only [List.length_take]
    omega
theorem depth_zero {t : Tg} (h : depth t = 0) (hk : t.keys = []) : t = Tg.zero := by
  unfold depth at h
  have h1 : t.vars = [] := List.length_eq_zero_iff.1 (by omega)
  have h2 : t.region = [] := by by_cases e : t.region = []; · exact e
                                · rw [lack_pos e] at h; omega
  have h3 : t.script = [] := by by_cases e : t.script = []; · exact e
                                · rw [lack_pos e] at h; omega
  have h4 : t.lang = [] := by by_cases e : t.lang = []; · exact e
                              · rw [lack_pos e] at h; omega
  cases t
  simp only at *
  subst h1; subst h2; subst h3; subst h4; subst hk; rfl
theorem depth_le {s : Str} (h : namedB s = true) : depthS s ≤ 11 := by
  have := (named_facts h).2.1.vars
  have hl : ∀ x : Str, lack x ≤ 1 := fun x => by unfold lack; split <;> omega
  have h1 := hl (tagOf s).region
  have h2 := hl (tagOf s).script
  have h3 := hl (tagOf s).lang
  unfold depthS depth
  omega
theorem root_name : nameOf (writeF (bareT Tg.zero)) = tRoot := by decide
theorem named_root : namedB tRoot = true := by rw [← root_name]; exact good_named _ Good.zero
theorem depth_root {s : Str} (h : namedB s = true) (hd : depthS s = 0) : s = tRoot := by
  obtain ⟨_, _, hk, hn⟩ := named_facts h
  rw [depth_zero hd hk] at hn
  rw [← hn]; exact root_name
theorem root_depth : depthS tRoot = 0 := by
  have h := good_nameRead _ Good.zero
  rw [root_name] at h
  unfold depthS tagOf
  rw [h]; rfl
/-- the plain parent of a name other than root is a name, one step nearer to root -/
theorem plain_ok {s : Str} (h : namedB s = true) (hr : s ≠ tRoot) : ∃ p, plainF s = (p, true) ∧ namedB p = true ∧ depthS p + 1 = depthS s := by
  obtain ⟨_, hg, hk, hn⟩ := named_facts h
  obtain ⟨hg2, hk2⟩ := good_plainT hg hk
  refine ⟨nameOf (writeF (bareT (plainT (tagOf s)))), ?_, good_named _ hg2, ?_⟩
  · unfold plainF
    rw [if_pos ⟨h, hr⟩, good_name _ hg2]; rfl
  · have hq : tagOf (nameOf (writeF (bareT (plainT (tagOf s))))) = bareT (plainT (tagOf s)) := congrArg Res.tag (good_nameRead _ hg2)
    unfold depthS
    rw [hq]
    have hd : depth (tagOf s) ≠ 0 := fun e => hr (depth_root h e)
    have := depth_plainT hd
    rw [← this]; rfl
theorem plain_no {s : Str} (h : ¬ (namedB s = true ∧ s ≠ tRoot)) : plainF s = ([], false) := by unfold plainF; rw [if_neg h]

/-- what is said of a locale -/
def look : List (Str × Str) → Str → Option Str
  | [], _ => none
  | p :: l, k => if p.1 = k then some p.2 else look l k
theorem look_mem {l : List (Str × Str)} {k v : Str} (h : look l k = some v) : (k, v) ∈ l := by
  induction l with
  | nil => cases h
  | cons p l ih =>
    unfold look at h
    split at h
    · rename_i hk
      subst hk
      cases h
      exact List.mem_cons_self
    · exact List.mem_cons_of_mem _ (ih h)
theorem look_append (l m : List (Str × Str)) (k : Str) : look (l ++ m) k = (look l k).or (look m k) := by
  induction l with
  | nil => simp [look]
  | cons p l ih => rw [List.cons_append, look, look]; split <;> simp_all
theorem look_none {l : List (Str × Str)} {k : Str} : look l k = none ↔ ∀ p ∈ l, p.1 ≠ k := by
  induction l with
  | nil => simp [look]
  | cons p l ih => rw [look]; split <;> simp_all
/-- a locale's parent -/
def parentF (D : List (Str × Str)) (s : Str) : Str × Bool := match look D s with
  | some p => (p, true)
  | none => plainF s
def stepF (D : List (Str × Str)) (s : Str) : Option Str := if (parentF D s).2 = true then some (parentF D s).1 else none
def iter (D : List (Str × Str)) : Nat → Str → Option Str
  | 0, s => some s
  | n + 1, s => (iter D n s).bind (stepF D)
theorem iter_add (D : List (Str × Str)) (m n : Nat) (s : Str) : iter D (m + n) s = (iter D m s).bind (iter D n) := by
  induction n with
  | zero => simp [iter]
  | succ n ih => rw [← Nat.add_assoc, iter, ih]; cases iter D m s <;> simp [iter]

/-- what may be said: names, of none but root, each once -/
def saidOK (D : List (Str × Str)) : Prop := ∀ p ∈ D, namedB p.1 = true ∧ namedB p.2 = true ∧ p.1 ≠ tRoot
theorem step_named {D : List (Str × Str)} (hD : saidOK D) {s t : Str} (h : stepF D s = some t) : namedB t = true := by
  unfold stepF parentF at h
  cases hl : look D s with
  | some p => rw [hl] at h; simp at h; subst h; exact (hD _ (look_mem hl)).2.1
  | none =>
    rw [hl] at h
    simp only at h
    by_cases hp : namedB s = true ∧ s ≠ tRoot
    · obtain ⟨p, h1, h2, _⟩ := plain_ok hp.1 hp.2
      rw [h1] at h
      simp at h
      subst h; exact h2
    · rw [plain_no hp] at h; simp at h
theorem step_some {D : List (Str × Str)} (hD : saidOK D) {s : Str} (h : namedB s = true) (hr : s ≠ tRoot) : ∃ t, stepF D s = some t := by
  unfold stepF parentF
  cases hl : look D s with
  | some p => exact ⟨p, rfl⟩
  | none =>
    obtain ⟨p, h1, _⟩ := plain_ok h hr
    exact ⟨p, by simp only; rw [h1]; rfl⟩
theorem step_root {D : List (Str × Str)} (hD : saidOK D) : stepF D tRoot = none := by
  unfold stepF parentF
  have : look D tRoot = none := look_none.2 fun p hp => (hD p hp).2.2
  rw [this]
  simp only
  rw [plain_no (fun h => h.2 rfl)]
  rfl
theorem step_depth {D : List (Str × Str)} {s t : Str} (hl : look D s = none) (h : stepF D s = some t) : depthS t + 1 = depthS s := by
  unfold stepF parentF at h
  rw [hl] at h
  simp only at h
  by_cases hp : namedB s = true ∧ s ≠ tRoot
  · obtain ⟨p, h1, _, h3⟩ := plain_ok hp.1 hp.2
    rw [h1] at h
    simp at h
    subst h; exact h3
  · rw [plain_no hp] at h; simp at h

/-- the plain parents from a name on -/
def tower : Nat → Str → List Str
  | 0, s => [s]
  | n + 1, s => s :: (if (plainF s).2 = true then tower n (plainF s).1 else [])
theorem tower_self (n : Nat) (s : Str) : s ∈ tower n s := by cases n <;> simp [tower]
theorem tower_len : ∀ (n : Nat) (s : Str), (tower n s).length ≤ n + 1
  | 0, s => by simp [tower]
  | n + 1, s => by
    rw [tower, List.length_cons]
    split
    · have := tower_len n (plainF s).1; omega
    · simp
theorem tower_step : ∀ (n : Nat) (s x : Str), namedB s = true → depthS s ≤ n → x ∈ tower n s → (plainF x).2 = true → (plainF x).1 ∈ tower n s
  | 0, s, x, hs, hd, hx, hp => by
    simp [tower] at hx
    subst hx
    rw [plain_no (fun h => h.2 (depth_root hs (by omega)))] at hp
    cases hp
  | n + 1, s, x, hs, hd, hx, hp => by
    rw [tower] at hx ⊢
    by_cases h : namedB s = true ∧ s ≠ tRoot
    · obtain ⟨p, h1, h2, h3⟩ := plain_ok h.1 h.2
      rw [h1] at hx ⊢
      simp only [if_true] at hx ⊢
      rcases List.mem_cons.1 hx with rfl | hx
      · rw [h1]; exact List.mem_cons_of_mem _ (tower_self _ _)
      · exact List.mem_cons_of_mem _ (tower_step n p x h2 (by omega) hx hp)
    · rw [plain_no h] at hx ⊢
      simp at hx
      subst hx
      rw [plain_no h] at hp
      cases hp
/-- all that can stand in a row from s on -/
def reach (D : List (Str × Str)) (s : Str) : List Str := (s :: D.map (·.2)).flatMap (tower 11)
theorem reach_len (D : List (Str × Str)) (s : Str) : (reach D s).length ≤ 12 * (D.length + 1) := by
  unfold reach
  have h : ∀ l : List Str, (l.flatMap (tower 11)).length ≤ 12 * l.length := by
    intro l
    induction l with
    | nil => simp
    | cons x l ih => rw [List.flatMap_cons, List.length_append, List.length_cons]; have := tower_len 11 x; omega
  have := h (s :: D.map (·.2))
  simpa using this
theorem reach_self (D : List (Str × Str)) (s : Str) : s ∈ reach D s := by
  unfold reach; rw [List.flatMap_cons]; exact List.mem_append_left _ (tower_self _ _)
theorem reach_step {D : List (Str × Str)} (hD : saidOK D) {s x y : Str} (hs : namedB s = true) (hx : x ∈ reach D s) (h : stepF D x = some y) : y ∈ reach D s := by
  unfold reach at hx ⊢
  unfold stepF parentF at h
  cases hl : look D x with
  | some p =>
    rw [hl] at h
    simp at h
    subst h
    refine List.mem_flatMap.2 ⟨p, List.mem_cons_of_mem _ (List.mem_map.2 ⟨_, look_mem hl, rfl⟩), tower_self _ _⟩
  | none =>
    rw [hl] at h
    simp only at h
    split at h
    · rename_i hp
      cases h
      obtain ⟨z, hz, hx2⟩ := List.mem_flatMap.1 hx
      have hzn : namedB z = true := by
        rcases List.mem_cons.1 hz with rfl | hz
        · exact hs
        · obtain ⟨q, hq, rfl⟩ := List.mem_map.1 hz
          exact (hD q hq).2.1
      exact List.mem_flatMap.2 ⟨z, hz, tower_step 11 z x hzn (depth_le hzn) hx2 hp⟩
    · cases h
theorem iter_reach {D : List (Str × Str)} (hD : saidOK D) {s : Str} (hs : namedB s = true) : ∀ (n : Nat) (x : Str), iter D n s = some x → x ∈ reach D s
  | 0, x, h => by cases h; exact reach_self D s
  | n + 1, x, h => by
    rw [iter, Option.bind_eq_some_iff] at h
    obtain ⟨y, h1, h2⟩ := h
    exact reach_step hD hs (iter_reach hD hs n y h1) h2
theorem iter_named {D : List (Str × Str)} (hD : saidOK D) {s : Str} (hs : namedB s = true) : ∀ (n : Nat) (x : Str), iter D n s = some x → namedB x = true
  | 0, x, h => by cases h; exact hs
  | n + 1, x, h => by
    rw [iter, Option.bind_eq_some_iff] at h
    obtain ⟨y, h1, h2⟩ := h
    exact step_named hD h2

theorem nodup_le : ∀ (l R : List Str), l.Nodup → (∀ x ∈ l, x ∈ R) → l.length ≤ R.length
  | [], R, _, _ => Nat.zero_le _
  | x :: l, R, hn, hs => by
    rw [List.nodup_cons] at hn
    have hx := hs x List.mem_cons_self
    have h2 := nodup_le l (R.erase x) hn.2 fun y hy => (List.mem_erase_of_ne (fun e => hn.1 (by rw [← e]; exact hy))).2 (hs y (List.mem_cons_of_mem _ hy))
    rw [List.length_erase_of_mem hx] at h2
    have : 0 < R.length := List.length_pos_of_mem hx
    rw [List.length_cons]; omega
/-- a row that does not end comes to something twice -/
theorem twice (f : Nat → Str) (R : List Str) (h : ∀ n, f n ∈ R) : ∃ i p, f (i + (p + 1)) = f i := by
  by_cases hc : ((List.range (R.length + 1)).map f).Nodup
  · have := nodup_le _ R hc (fun x hx => by obtain ⟨i, _, rfl⟩ := List.mem_map.1 hx; exact h i)
    simp at this
    omega
  · by_cases hall : ∀ i j, i < j → f j ≠ f i
    · exfalso
      apply hc
      have : List.Pairwise (fun a b : Nat => a < b) (List.range (R.length + 1)) := List.pairwise_lt_range
      exact List.Pairwise.map f (fun a b hab => Ne.symm (hall a b hab)) this
    · have : ∃ i j, i < j ∧ f j = f i := by
        apply Classical.byContradiction
        intro hn
        exact hall fun i j hij he => hn ⟨i, j, hij, he⟩
      obtain ⟨i, j, hij, he⟩ := this
      exact ⟨i, j - i - 1, by rw [show i + (j - i - 1 + 1) = j by omega]; exact he⟩
/-- a locale that comes again in the row that goes up from it -/
def ringP (D : List (Str × Str)) (k : Str) : Prop := ∃ n, iter D (n + 1) k = some k
theorem ends {D : List (Str × Str)} (hD : saidOK D) (hr : ∀ p ∈ D, ¬ ringP D p.1) {s : Str} (hs : namedB s = true) : ∃ n, iter D n s = some tRoot := by
  apply Classical.byContradiction
  intro hn
  have hno : ∀ n, iter D n s ≠ some tRoot := fun n e => hn ⟨n, e⟩
  have hall : ∀ n, ∃ x, iter D n s = some x := by
    intro n
    induction n with
    | zero => exact ⟨s, rfl⟩
    | succ n ih =>
      obtain ⟨x, hx⟩ := ih
      have hxr : x ≠ tRoot := fun e => hno n (by rw [hx, e])
      obtain ⟨t, ht⟩ := step_some hD (iter_named hD hs n x hx) hxr
      exact ⟨t, by rw [iter, hx]; exact ht⟩
  obtain ⟨f, hf⟩ : ∃ f : Nat → Str, ∀ n, iter D n s = some (f n) := ⟨fun n => (hall n).choose, fun n => (hall n).choose_spec⟩
  obtain ⟨i, p, hip⟩ := twice f (reach D s) (fun n => iter_reach hD hs n _ (hf n))
  have hgo : ∀ m n, iter D n (f m) = some (f (m + n)) := fun m n => by
    have := iter_add D m n s
    rw [hf, hf] at this
    exact this.symm
  by_cases hc : ∃ q v, look D (f (i + q)) = some v
  · obtain ⟨q, v, hq⟩ := hc
    refine hr _ (look_mem hq) ⟨p, ?_⟩
    show iter D (p + 1) (f (i + q)) = some (f (i + q))
    rw [hgo]
    have h1 := hgo (i + (p + 1)) q
    rw [hip, hgo] at h1
    rw [show i + q + (p + 1) = i + (p + 1) + q by omega]
    exact h1.symm
  · have hlook : ∀ q, look D (f (i + q)) = none := by
      intro q
      cases h : look D (f (i + q)) with
      | none => rfl
      | some v => exact absurd ⟨q, v, h⟩ hc
    have hd : ∀ q, depthS (f (i + q)) + q = depthS (f i) := by
      intro q
      induction q with
      | zero => rfl
      | succ q ih =>
        have h1 := hgo (i + q) 1
        have h2 : stepF D (f (i + q)) = some (f (i + q + 1)) := by simpa [iter] using h1
        have h3 := step_depth (hlook q) h2
        have h4 : depthS (f (i + (q + 1))) = depthS (f (i + q + 1)) := rfl
        omega
    have := hd (p + 1)
    rw [hip] at this
    omega

/-- l is the row that goes up from s to root -/
def Up (D : List (Str × Str)) : Str → List Str → Prop
  | _, [] => False
  | s, [x] => x = s ∧ s = tRoot
  | s, x :: y :: l => x = s ∧ s ≠ tRoot ∧ stepF D s = some y ∧ Up D y (y :: l)
theorem up_root (D : List (Str × Str)) : Up D tRoot [tRoot] := ⟨rfl, rfl⟩
theorem up_head {D : List (Str × Str)} : ∀ {l : List Str} {s : Str}, Up D s l → ∃ r, l = s :: r
  | [], _, h => h.elim
  | [x], s, h => ⟨[], by rw [h.1]⟩
  | x :: y :: l, s, h => ⟨y :: l, by rw [h.1]⟩
theorem up_cons {D : List (Str × Str)} {s t : Str} {l : List Str} (hr : s ≠ tRoot) (h : stepF D s = some t) (hl : Up D t l) : Up D s (s :: l) := by
  obtain ⟨r, rfl⟩ := up_head hl
  exact ⟨rfl, hr, h, hl⟩
theorem up_of_iter {D : List (Str × Str)} (hD : saidOK D) : ∀ (n : Nat) (s : Str), iter D n s = some tRoot → ∃ l, Up D s l
  | 0, s, h => by cases h; exact ⟨_, up_root D⟩
  | n + 1, s, h => by
    by_cases hr : s = tRoot
    · subst hr; exact ⟨_, up_root D⟩
    · rw [show n + 1 = 1 + n by omega, iter_add, Option.bind_eq_some_iff] at h
      obtain ⟨t, h1, h2⟩ := h
      obtain ⟨l, hl⟩ := up_of_iter hD n t h2
      exact ⟨_, up_cons hr (by simpa [iter] using h1) hl⟩
theorem up_ex {D : List (Str × Str)} (hD : saidOK D) (hr : ∀ p ∈ D, ¬ ringP D p.1) {s : Str} (hs : namedB s = true) : ∃ l, Up D s l := by
  obtain ⟨n, hn⟩ := ends hD hr hs
  exact up_of_iter hD n s hn
theorem up_one {D : List (Str × Str)} : ∀ {l m : List Str} {s : Str}, Up D s l → Up D s m → l = m
  | [], _, _, h, _ => h.elim
  | [x], m, s, h, h2 => by
    match m, h2 with
    | [y], h2 => rw [h.1, h2.1]
    | y :: z :: m, h2 => exact absurd h.2 h2.2.1
  | x :: y :: l, m, s, h, h2 => by
    match m, h2 with
    | [z], h2 => exact absurd h2.2 h.2.1
    | z :: u :: m, h2 =>
      have h3 := h.2.2.1
      rw [h2.2.2.1] at h3
      cases h3
      rw [h.1, h2.1, up_one h.2.2.2 h2.2.2.2]
theorem up_drop {D : List (Str × Str)} : ∀ {l : List Str} {s : Str} (i : Nat) (hi : i < l.length), Up D s l → Up D l[i] (l.drop i)
  | [], _, _, hi, h => h.elim
  | [x], s, 0, hi, h => by simpa [h.1] using h
  | [x], s, i + 1, hi, h => by simp at hi
  | x :: y :: l, s, 0, hi, h => by
    have := h.1
    subst this
    exact h
  | x :: y :: l, s, i + 1, hi, h => by
    have := up_drop i (by simpa using hi) h.2.2.2
    simpa using this
theorem up_last {D : List (Str × Str)} : ∀ {l : List Str} {s : Str}, Up D s l → ∃ r, l = r ++ [tRoot]
  | [], _, h => h.elim
  | [x], s, h => ⟨[], by rw [h.1, h.2]; rfl⟩
  | x :: y :: l, s, h => by
    obtain ⟨r, hr⟩ := up_last h.2.2.2
    exact ⟨x :: r, by rw [hr]; rfl⟩
theorem up_named {D : List (Str × Str)} (hD : saidOK D) : ∀ {l : List Str} {s : Str}, namedB s = true → Up D s l → ∀ x ∈ l, namedB x = true
  | [], _, _, h, _, _ => h.elim
  | [x], s, hs, h, z, hz => by
    have := h.1
    subst this
    rw [List.mem_singleton.1 hz]; exact hs
  | x :: y :: l, s, hs, h, z, hz => by
    have := h.1
    subst this
    rcases List.mem_cons.1 hz with rfl | hz
    · exact hs
    · exact up_named hD (step_named hD h.2.2.1) h.2.2.2 z hz
theorem up_nodup {D : List (Str × Str)} {l : List Str} {s : Str} (h : Up D s l) : ∀ i j, (hj : j < l.length) → (hij : i < j) → l[i] ≠ l[j] := by
  intro i j hj hij he
  have h1 := up_drop i (by omega) h
  have h2 := up_drop j hj h
  rw [he] at h1
  have h3 := congrArg List.length (up_one h1 h2)
  simp only [List.length_drop] at h3
  omega
/-- the row is the same where the steps are -/
theorem up_same {D E : List (Str × Str)} (hst : ∀ s, stepF D s = stepF E s) : ∀ {l : List Str} {s : Str}, Up D s l → Up E s l
  | [], _, h => h.elim
  | [x], s, h => h
  | x :: y :: l, s, h => ⟨h.1, h.2.1, by rw [← hst]; exact h.2.2.1, up_same hst h.2.2.2⟩
theorem iter_same {D E : List (Str × Str)} (hst : ∀ s, stepF D s = stepF E s) (n : Nat) (s : Str) : iter D n s = iter E n s := by
  induction n with
  | zero => rfl
  | succ n ih => rw [iter, iter, ih, show stepF D = stepF E from funext hst]
/-- where a row ends there is no ring -/
theorem iter_root {D : List (Str × Str)} (hD : saidOK D) (n : Nat) : iter D (n + 1) tRoot = none := by
  rw [show n + 1 = 1 + n by omega, iter_add]
  simp [iter, step_root hD]
theorem no_ring {D : List (Str × Str)} (hD : saidOK D) {s : Str} {n : Nat} (h : iter D n s = some tRoot) : ¬ ringP D s := by
  rintro ⟨p, hp⟩
  have hm : ∀ k, iter D (k * (p + 1)) s = some s := by
    intro k
    induction k with
    | zero => rw [Nat.zero_mul]; rfl
    | succ k ih => rw [Nat.succ_mul, iter_add, ih]; exact hp
  have h1 := hm (n + 1)
  have h2 : (n + 1) * (p + 1) = n + (n * p + p + 1) := by rw [Nat.add_mul, Nat.mul_add]; omega
  rw [h2, iter_add, h] at h1
  simp only [Option.bind_some] at h1
  rw [iter_root hD (n * p + p)] at h1
  cases h1

/-- the first thing that is wrong with what is said, and where: 2, no name or root; 211, said already -/
def badAt (done : List (Str × Str)) : List (Str × Str) → Option (Nat × Nat)
  | [] => none
  | p :: r => if (namedB p.1 = true ∧ namedB p.2 = true) ∧ p.1 ≠ tRoot then (if look done p.1 = none then badAt (done ++ [p]) r else some (211, done.length)) else some (2, done.length)
theorem bad_none {done r : List (Str × Str)} (h : badAt done r = none) (hd : saidOK done) : saidOK (done ++ r) := by
  induction r generalizing done with
  | nil => rw [List.append_nil]; exact hd
  | cons p r ih =>
    unfold badAt at h
    split at h
    · rename_i hp
      split at h
      · have := ih h (fun q hq => by
          rcases List.mem_append.1 hq with hq | hq
          · exact hd q hq
          · rw [List.mem_singleton.1 hq]; exact ⟨hp.1.1, hp.1.2, hp.2⟩)
        rw [List.append_assoc] at this
        exact this
      · cases h
    · cases h
/-- what chain.New says of a list -/
def NewOut (l : List (Str × Str)) (e i : Nat) : Prop :=
  (badAt [] l = some (e, i)) ∨ (badAt [] l = none ∧ e = 210 ∧ (∃ p, l[i]? = some p ∧ ringP l p.1) ∧ ∀ j p, j < i → l[j]? = some p → ¬ ringP l p.1) ∨ (badAt [] l = none ∧ e = 0 ∧ i = 0 ∧ ∀ p ∈ l, ¬ ringP l p.1)
end Go.Proofs.YtjlfchnnhglbjaaGreat

/- Paths, byte by byte: which texts are paths, and of which steps they are. -/
set_option linter.unusedVariables false
set_option linter.unusedSimpArgs false
namespace Go.Proofs.YtjlfchnnhglbjaaGreat
open Go.Lib

/-- a step: its name and its keys -/
abbrev Stp := Str × List (Str × Str)
def startB (c : UInt8) : Bool := letB c || c == 95
def nameB (c : UInt8) : Bool := startB c || digB c || c == 45 || c == 46
def specB (c : UInt8) : Bool := c == 91 || c == 93 || c == 47 || c == 61 || c == 92
def ctlB (c : UInt8) : Bool := decide (c.toNat < 32) || c.toNat == 127
def headB (p : UInt8 → Bool) : Str → Bool
  | [] => false
  | c :: _ => p c
def takeB (c : UInt8) : Str → Option Str
  | [] => none
  | d :: r => if d = c then some r else none

/-- a name, and what stands behind it -/
def nameP (s : Str) : Option (Str × Str) :=
  if headB startB s && decide ((s.takeWhile nameB).length ≤ 64) then some (s.takeWhile nameB, s.dropWhile nameB) else none
/-- a value, and what stands behind its bracket -/
def valueP : Bool → Str → Str → Option (Str × Str)
  | _, _, [] => none
  | true, acc, c :: r => if specB c then valueP false (acc ++ [c]) r else none
  | false, acc, c :: r =>
    if c = 92 then valueP true acc r
    else if c = 93 then (if acc.length ≤ 64 then some (acc, r) else none)
    else if ctlB c || c == 91 || c == 47 || c == 61 then none
    else valueP false (acc ++ [c]) r
def lastGE (ks : List (Str × Str)) (k : Str) : Bool :=
  match ks.getLast? with
  | none => false
  | some p => decide (k ≤ p.1)
/-- a key with its value (behind the bracket) -/
def keyP (ks : List (Str × Str)) (r : Str) : Option ((Str × Str) × Str) :=
  match nameP r with
  | none => none
  | some (k, r1) =>
    if lastGE ks k then none else
    match takeB 61 r1 with
    | none => none
    | some r2 =>
      match valueP false [] r2 with
      | none => none
      | some (v, r3) => some ((k, v), r3)
def keysP : Nat → List (Str × Str) → Str → Option (List (Str × Str) × Str)
  | 0, ks, s => some (ks, s)
  | f + 1, ks, s =>
    match takeB 91 s with
    | none => some (ks, s)
    | some r =>
      match keyP ks r with
      | none => none
      | some (p, r3) => keysP f (ks ++ [p]) r3
def stepP (s : Str) : Option (Stp × Str) :=
  match nameP s with
  | none => none
  | some (n, r) =>
    match keysP r.length [] r with
    | none => none
    | some (ks, r') => some ((n, ks), r')
def stepsP : Nat → List Stp → Str → Option (List Stp)
  | 0, _, _ => none
  | f + 1, l, s =>
    match stepP s with
    | none => none
    | some (x, r) => if r = [] then some (l ++ [x]) else
      match takeB 47 r with
      | none => none
      | some r' => stepsP f (l ++ [x]) r'
/-- is a text right UTF-8? -/
def utfG : Nat → Str → Bool
  | 0, l => l.isEmpty
  | f + 1, l => l.isEmpty || (!(decodeL l == (65533, 1)) && utfG f (l.drop (decodeL l).2))
def utfB (l : Str) : Bool := utfG l.length l
/-- a path's steps -/
def pathP (s : Str) : Option (List Stp) :=
  if 512 < s.length then none else if utfB s = false then none else if s = [] then some [] else stepsP 64 [] s
def pathB (s : Str) : Bool := (pathP s).isSome

/-! ### the lengths -/
theorem takeB_len {c : UInt8} {s r : Str} (h : takeB c s = some r) : s = c :: r := by
  cases s with
  | nil => cases h
  | cons d t => simp only [takeB] at h; split at h
                · next e => cases h; rw [e]
                · cases h
theorem nameP_split {s n r : Str} (h : nameP s = some (n, r)) : s = n ++ r ∧ 0 < n.length ∧ n.length ≤ 64 := by
  unfold nameP at h
  split at h
  · next hc =>
    simp only [Bool.and_eq_true, decide_eq_true_eq] at hc
    cases h
    refine ⟨(List.takeWhile_append_dropWhile).symm, ?_, hc.2⟩
    cases s with
    | nil => exact absurd hc.1 (by simp [headB])
    | cons c t =>
      have : nameB c = true := by have := hc.1; simp only [headB] at this; simp [nameB, this]
      simp [List.takeWhile_cons, this]
  · cases h
theorem valueP_len : ∀ (s : Str) (e : Bool) (acc : Str) {v r : Str}, valueP e acc s = some (v, r) → r.length < s.length ∧ v.length ≤ 64
  | [], e, acc, v, r, h => by cases e <;> cases h
  | c :: t, true, acc, v, r, h => by
    simp only [valueP] at h
    split at h
    · have := valueP_len t _ _ h; exact ⟨by simp only [List.length_cons]; omega, this.2⟩
    · cases h
  | c :: t, false, acc, v, r, h => by
    simp only [valueP] at h
    split at h
    · have := valueP_len t _ _ h; exact ⟨by simp only [List.length_cons]; omega, this.2⟩
    · split at h
      · split at h
        · next hl => cases h; exact ⟨by simp, hl⟩
        · cases h
      · split at h
        · cases h
        · have := valueP_len t _ _ h; exact ⟨by simp only [List.length_cons]; omega, this.2⟩
theorem keyP_len {ks : List (Str × Str)} {s r : Str} {p : Str × Str} (h : keyP ks s = some (p, r)) : r.length + 3 ≤ s.length ∧ p.1.length ≤ 64 ∧ p.2.length ≤ 64 := by
  unfold keyP at h
  split at h
  · cases h
  · next k r1 hn =>
    split at h
    · cases h
    · split at h
      · cases h
      · next r2 h2 =>
        split at h
        · cases h
        · next v r3 hv =>
          cases h
          obtain ⟨e1, e2, e3⟩ := nameP_split hn
          have e4 := takeB_len h2
          have e5 := valueP_len _ _ _ hv
          rw [e1, e4]
          simp only [List.length_append, List.length_cons]
          exact ⟨by omega, e3, e5.2⟩
theorem keysP_len : ∀ (f : Nat) (ks : List (Str × Str)) (s : Str) {l : List (Str × Str)} {r : Str}, keysP f ks s = some (l, r) → r.length + 4 * (l.length - ks.length) ≤ s.length ∧ ks.length ≤ l.length
  | 0, ks, s, l, r, h => by cases h; simp
  | f + 1, ks, s, l, r, h => by
    simp only [keysP] at h
    split at h
    · cases h; simp
    · next r1 h1 =>
      split at h
      · cases h
      · next p r3 h3 =>
        have := keysP_len f _ _ h
        have e1 := takeB_len h1
        have e2 := (keyP_len h3).1
        rw [e1]
        simp only [List.length_append, List.length_cons, List.length_nil] at this ⊢
        omega
theorem keysP_more : ∀ (f g : Nat) (ks : List (Str × Str)) (s : Str), s.length ≤ f → s.length ≤ g → keysP f ks s = keysP g ks s
  | 0, 0, ks, s, _, _ => rfl
  | 0, g + 1, ks, s, h, _ => by
    have : s = [] := List.eq_nil_of_length_eq_zero (by omega)
    subst this; rfl
  | f + 1, 0, ks, s, _, h => by
    have : s = [] := List.eq_nil_of_length_eq_zero (by omega)
    subst this; rfl
  | f + 1, g + 1, ks, s, hf, hg => by
    simp only [keysP]
    split
    · rfl
    · next r1 h1 =>
      split
      · rfl
      · next p r3 h3 =>
        have e1 := takeB_len h1
        have e2 := (keyP_len h3).1
        rw [e1] at hf hg
        simp only [List.length_cons] at hf hg
        exact keysP_more f g _ _ (by omega) (by omega)
theorem stepP_len {s r : Str} {x : Stp} (h : stepP s = some (x, r)) : r.length < s.length ∧ x.1.length ≤ 64 ∧ x.2.length ≤ s.length := by
  unfold stepP at h
  split at h
  · cases h
  · next n r1 hn =>
    split at h
    · cases h
    · next ks r' hk =>
      cases h
      obtain ⟨e1, e2, e3⟩ := nameP_split hn
      have := keysP_len _ _ _ hk
      rw [e1]
      simp only [List.length_append, List.length_nil] at this ⊢
      exact ⟨by omega, e3, by omega⟩

/-! ### right UTF-8 -/
theorem utfG_more : ∀ (f g : Nat) (l : Str), l.length ≤ f → l.length ≤ g → utfG f l = utfG g l
  | 0, 0, l, _, _ => rfl
  | 0, g + 1, l, h, _ => by
    have : l = [] := List.eq_nil_of_length_eq_zero (by omega)
    subst this; rfl
  | f + 1, 0, l, _, h => by
    have : l = [] := List.eq_nil_of_length_eq_zero (by omega)
    subst this; rfl
  | f + 1, g + 1, l, hf, hg => by
    simp only [utfG]
    cases l with
    | nil => rfl
    | cons c t =>
      have h1 : 1 ≤ (decodeL (c :: t)).2 := by
        rw [decodeL_N]; unfold decodeN
        repeat' split
        all_goals simp
      rw [utfG_more f g ((c :: t).drop (decodeL (c :: t)).2) (by simp only [List.length_drop, List.length_cons] at hf ⊢; omega) (by simp only [List.length_drop, List.length_cons] at hg ⊢; omega)]
/-- the next rune of a text -/
structure Rune (l : Str) (r k : Nat) : Prop where
  dec : decodeL l = (r, k)
  pos : 1 ≤ k
  le : k ≤ 4
theorem rune_any (l : Str) : Rune l (decodeL l).1 (decodeL l).2 := by
  refine ⟨rfl, ?_, ?_⟩
  all_goals
    rw [decodeL_N]; unfold decodeN
    repeat' split
    all_goals simp
theorem utfB_nil : utfB [] = true := rfl
theorem utfB_step {l : Str} (hl : l ≠ []) : utfB l = (!(decodeL l == (65533, 1)) && utfB (l.drop (decodeL l).2)) := by
  cases l with
  | nil => exact absurd rfl hl
  | cons c t =>
    have h1 := (rune_any (c :: t)).pos
    show utfG (t.length + 1) (c :: t) = _
    simp only [utfG, List.isEmpty_cons, Bool.false_or]
    rw [utfG_more t.length ((c :: t).drop (decodeL (c :: t)).2).length _ (by simp only [List.length_drop, List.length_cons]; omega) (Nat.le_refl _)]
    rfl
end Go.Proofs.YtjlfchnnhglbjaaGreat

/- Runes of a text in right UTF-8: their bytes; values run over them byte by byte. -/
set_option linter.unusedVariables false
set_option linter.unusedSimpArgs false
namespace Go.Proofs.YtjlfchnnhglbjaaGreat
open Go.Lib

theorem u8_ext {a b : UInt8} (h : a.toNat = b.toNat) : a = b := UInt8.toNat_inj.1 h
set_option maxRecDepth 100000 in
theorem utf2 (a b : UInt8) (h1 : a.toNat / 32 = 6) (h2 : b.toNat / 64 = 2) (h3 : a.toNat % 32 * 64 + b.toNat % 64 ≥ 128) :
    (Utf8.encode ((a.toNat % 32 * 64 + b.toNat % 64 : Nat) : Int)).data.toList = [a, b] := by
  have ha := a.toNat_lt
  have hb := b.toNat_lt
  generalize hr : a.toNat % 32 * 64 + b.toNat % 64 = r at *
  have hv : Utf8.valid (r : Int) = true := by simp [Utf8.valid]; omega
  unfold Utf8.encode
  simp only [hv, if_true, Int.toNat_natCast]
  rw [if_neg (by omega), if_pos (by omega)]
  have e1 : UInt8.ofNat (192 + r / 64) = a := u8_ext (by simp; omega)
  have e2 : UInt8.ofNat (128 + r % 64) = b := u8_ext (by simp; omega)
  simp only [e1, e2]
set_option maxRecDepth 100000 in
theorem utf3 (a b c : UInt8) (h1 : a.toNat / 16 = 14) (h2 : b.toNat / 64 = 2) (h4 : c.toNat / 64 = 2) (h3 : a.toNat % 16 * 4096 + b.toNat % 64 * 64 + c.toNat % 64 ≥ 2048)
    (h5 : a.toNat % 16 * 4096 + b.toNat % 64 * 64 + c.toNat % 64 < 55296 ∨ 57344 ≤ a.toNat % 16 * 4096 + b.toNat % 64 * 64 + c.toNat % 64) :
    (Utf8.encode ((a.toNat % 16 * 4096 + b.toNat % 64 * 64 + c.toNat % 64 : Nat) : Int)).data.toList = [a, b, c] := by
  have ha := a.toNat_lt
  have hb := b.toNat_lt
  have hc := c.toNat_lt
  generalize hr : a.toNat % 16 * 4096 + b.toNat % 64 * 64 + c.toNat % 64 = r at *
  have hv : Utf8.valid (r : Int) = true := by simp [Utf8.valid]; omega
  unfold Utf8.encode
  simp only [hv, if_true, Int.toNat_natCast]
  rw [if_neg (by omega), if_neg (by omega), if_pos (by omega)]
  have e1 : UInt8.ofNat (224 + r / 4096) = a := u8_ext (by simp; omega)
  have e2 : UInt8.ofNat (128 + r / 64 % 64) = b := u8_ext (by simp; omega)
  have e3 : UInt8.ofNat (128 + r % 64) = c := u8_ext (by simp; omega)
  simp only [e1, e2, e3]
set_option maxRecDepth 100000 in
theorem utf4 (a b c d : UInt8) (h1 : a.toNat / 8 = 30) (h2 : b.toNat / 64 = 2) (h4 : c.toNat / 64 = 2) (h6 : d.toNat / 64 = 2)
    (h3 : a.toNat % 8 * 262144 + b.toNat % 64 * 4096 + c.toNat % 64 * 64 + d.toNat % 64 ≥ 65536) (h5 : a.toNat % 8 * 262144 + b.toNat % 64 * 4096 + c.toNat % 64 * 64 + d.toNat % 64 ≤ 1114111) :
    (Utf8.encode ((a.toNat % 8 * 262144 + b.toNat % 64 * 4096 + c.toNat % 64 * 64 + d.toNat % 64 : Nat) : Int)).data.toList = [a, b, c, d] := by
  have ha := a.toNat_lt
  have hb := b.toNat_lt
  have hc := c.toNat_lt
  have hd := d.toNat_lt
  generalize hr : a.toNat % 8 * 262144 + b.toNat % 64 * 4096 + c.toNat % 64 * 64 + d.toNat % 64 = r at *
  have hv : Utf8.valid (r : Int) = true := by simp [Utf8.valid]; omega
  unfold Utf8.encode
  simp only [hv, if_true, Int.toNat_natCast]
  rw [if_neg (by omega), if_neg (by omega), if_neg (by omega)]
  have e1 : UInt8.ofNat (240 + r / 262144) = a := u8_ext (by simp; omega)
  have e2 : UInt8.ofNat (128 + r / 4096 % 64) = b := u8_ext (by simp; omega)
  have e3 : UInt8.ofNat (128 + r / 64 % 64) = c := u8_ext (by simp; omega)
  have e4 : UInt8.ofNat (128 + r % 64) = d := u8_ext (by simp; omega)
  simp only [e1, e2, e3, e4]

/-- a right rune: one byte below 128, or two to four from 128 on -/
inductive Sound : Str → Nat → Nat → Prop
  | one (c : UInt8) (t : Str) (h : c.toNat < 128) : Sound (c :: t) c.toNat 1
  | more (run t : Str) (r : Nat) (h2 : 2 ≤ run.length) (h4 : run.length ≤ 4) (hr : 128 ≤ r) (hm : r ≤ 1114111) (hb : ∀ c ∈ run, 128 ≤ c.toNat) (he : (Utf8.encode (r : Int)).data.toList = run) : Sound (run ++ t) r run.length
set_option maxRecDepth 100000 in
theorem sound_of : ∀ (l : Str), l ≠ [] → decodeL l ≠ (65533, 1) → Sound l (decodeL l).1 (decodeL l).2
  | [], h, _ => absurd rfl h
  | a :: t, _, h => by
    have ha := a.toNat_lt
    rw [decodeL_N] at h ⊢
    simp only [List.getD_cons_zero, List.getD_cons_succ, List.length_cons] at h ⊢
    unfold decodeN at h ⊢
    by_cases h1 : a.toNat < 128
    · simp only [h1, if_true]; exact Sound.one a t h1
    · simp only [h1, if_false] at h ⊢
      match t with
      | [] => simp at h
      | b :: t =>
        have hb := b.toNat_lt
        simp only [List.getD_cons_zero, List.getD_cons_succ, List.length_cons] at h ⊢
        split at h
        · next c2 =>
          split at h
          · next c3 =>
            rw [if_pos c2, if_pos c3]
            have he := utf2 a b c2.1 c2.2.2 c3
            have h5 : ∀ c ∈ [a, b], 128 ≤ c.toNat := by
              intro c hc
              rcases List.mem_cons.1 hc with rfl | hc
              · omega
              · rw [List.mem_singleton.1 hc]; omega
            have h6 : a.toNat % 32 * 64 + b.toNat % 64 ≤ 1114111 := by omega
            simp only
            generalize a.toNat % 32 * 64 + b.toNat % 64 = r at *
            exact Sound.more [a, b] t r (by simp) (by simp) c3 h6 h5 he
          · exact absurd rfl h
        · next c2 =>
          rw [if_neg c2]
          match t with
          | [] => simp at h
          | c :: t =>
            have hc := c.toNat_lt
            simp only [List.getD_cons_zero, List.getD_cons_succ, List.length_cons] at h ⊢
            split at h
            · next c4 =>
              split at h
              · next c5 =>
                rw [if_pos c4, if_pos c5]
                have he := utf3 a b c c4.1 c4.2.1.2 c4.2.2.2 c5.1 (by omega)
                have h5 : ∀ x ∈ [a, b, c], 128 ≤ x.toNat := by
                  intro x hx
                  rcases List.mem_cons.1 hx with rfl | hx
                  · omega
                  · rcases List.mem_cons.1 hx with rfl | hx
                    · omega
                    · rw [List.mem_singleton.1 hx]; omega
                have h6 : a.toNat % 16 * 4096 + b.toNat % 64 * 64 + c.toNat % 64 ≤ 1114111 := by omega
                have h7 : 128 ≤ a.toNat % 16 * 4096 + b.toNat % 64 * 64 + c.toNat % 64 := by omega
                simp only
                generalize a.toNat % 16 * 4096 + b.toNat % 64 * 64 + c.toNat % 64 = r at *
                exact Sound.more [a, b, c] t r (by simp) (by simp) h7 h6 h5 he
              · exact absurd rfl h
            · next c4 =>
              rw [if_neg c4]
              match t with
              | [] => simp at h
              | d :: t =>
                have hd := d.toNat_lt
                simp only [List.getD_cons_zero, List.getD_cons_succ, List.length_cons] at h ⊢
                split at h
                · next c6 =>
                  split at h
                  · next c7 =>
                    rw [if_pos c6, if_pos c7]
                    have he := utf4 a b c d c6.1 c6.2.1.2 c6.2.2.1.2 c6.2.2.2.2 c7.1 (by omega)
                    have h5 : ∀ x ∈ [a, b, c, d], 128 ≤ x.toNat := by
                      intro x hx
                      rcases List.mem_cons.1 hx with rfl | hx
                      · omega
                      · rcases List.mem_cons.1 hx with rfl | hx
                        · omega
                        · rcases List.mem_cons.1 hx with rfl | hx
                          · omega
                          · rw [List.mem_singleton.1 hx]; omega
                    have h6 : a.toNat % 8 * 262144 + b.toNat % 64 * 4096 + c.toNat % 64 * 64 + d.toNat % 64 ≤ 1114111 := by omega
                    have h7 : 128 ≤ a.toNat % 8 * 262144 + b.toNat % 64 * 4096 + c.toNat % 64 * 64 + d.toNat % 64 := by omega
                    simp only
                    generalize a.toNat % 8 * 262144 + b.toNat % 64 * 4096 + c.toNat % 64 * 64 + d.toNat % 64 = r at *
                    exact Sound.more [a, b, c, d] t r (by simp) (by simp) h7 h6 h5 he
                  · exact absurd rfl h
                · exact absurd rfl h
theorem utfB_sound {l : Str} (hl : l ≠ []) (h : utfB l = true) : Sound l (decodeL l).1 (decodeL l).2 ∧ utfB (l.drop (decodeL l).2) = true := by
  rw [utfB_step hl] at h
  simp only [Bool.and_eq_true, Bool.not_eq_true', beq_eq_false_iff_ne] at h
  exact ⟨sound_of l hl h.1, h.2⟩

theorem run_no {c : UInt8} (h : 128 ≤ c.toNat) : specB c = false ∧ c ≠ 92 ∧ c ≠ 93 ∧ (ctlB c || c == 91 || c == 47 || c == 61) = false := by
  have k : ∀ d : UInt8, d.toNat < 128 → c ≠ d := fun d hd e => by rw [e] at h; omega
  have k2 : ∀ d : UInt8, d.toNat < 128 → (c == d) = false := fun d hd => beq_eq_false_iff_ne.2 (k d hd)
  refine ⟨?_, k 92 (by decide), k 93 (by decide), ?_⟩
  · simp [specB, k2 91 (by decide), k2 93 (by decide), k2 47 (by decide), k2 61 (by decide), k2 92 (by decide)]
  · simp [ctlB, k2 91 (by decide), k2 47 (by decide), k2 61 (by decide)]; omega
/-- a value goes on over bytes from 128 on -/
theorem valueP_run : ∀ (run acc t : Str), (∀ c ∈ run, 128 ≤ c.toNat) → valueP false acc (run ++ t) = valueP false (acc ++ run) t
  | [], acc, t, _ => by simp
  | c :: r, acc, t, h => by
    obtain ⟨_, h2, h3, h4⟩ := run_no (h c (List.mem_cons_self ..))
    simp only [List.cons_append, valueP]
    rw [if_neg h2, if_neg h3, h4]
    simp only [Bool.false_eq_true, if_false]
    rw [valueP_run r (acc ++ [c]) t (fun d hd => h d (List.mem_cons_of_mem _ hd)), List.append_assoc, List.singleton_append]
end Go.Proofs.YtjlfchnnhglbjaaGreat

/- Tables: what documents say, by rows as they came (plain Lean). -/
set_option linter.unusedVariables false
set_option linter.unusedSimpArgs false
namespace Go.Proofs.YtjlfchnnhglbjaaGreat
open Go.Lib

structure Itm where
  path : Str
  value : Str
  alias' : Bool
  draft : Str
  at' : Int
structure Dc where
  loc : Str
  supp : Bool
  items : List Itm
structure Rw where
  loc : Str
  path : Str
  text : Str
  file : Nat
  at' : Int
structure Tb where
  rows : List Rw
  als : List Rw
  names : List Str
  paths : List Str
def Tb.zero : Tb := ⟨[], [], [], []⟩
/-- the row of a locale and a path -/
def findR (l : List Rw) (loc path : Str) : Option Rw := l.find? (fun r => r.loc == loc && r.path == path)
/-- what is wrong: the error, the file, the place -/
structure Wrg where
  err : Nat
  file : Int
  at' : Int
def Wrg.ok : Wrg := ⟨0, 0, 0⟩

/-- an item is taken: the error (0: none), the table -/
def itemF (t : Tb) (loc : Str) (f : Nat) (x : Itm) : Nat × Tb :=
  if x.path = [] ∨ pathB x.path = false then (2, t)
  else if x.alias' = true ∧ loc ≠ tRoot then (221, t)
  else if x.alias' = true then
    match findR t.als loc x.path with
    | some r => if r.text = x.value then (0, t) else (220, t)
    | none => (0, { t with als := t.als ++ [⟨loc, x.path, x.value, f, x.at'⟩] })
  else
    match findR t.rows loc x.path with
    | some r => if r.text = x.value then (0, t) else (220, t)
    | none =>
      if x.path ∈ t.paths then (0, { t with rows := t.rows ++ [⟨loc, x.path, x.value, f, x.at'⟩] })
      else if t.paths.length = 16384 then (3, t)
      else (0, { t with rows := t.rows ++ [⟨loc, x.path, x.value, f, x.at'⟩], paths := t.paths ++ [x.path] })
/-- items are taken: what is wrong, the table -/
def itemsF (loc : Str) (f : Nat) : Tb → List Itm → Option (Nat × Int) × Tb
  | t, [] => (none, t)
  | t, x :: r => match itemF t loc f x with
    | (0, t') => itemsF loc f t' r
    | (e, t') => (some (e, x.at'), t')
/-- a document's head: the error, the names -/
def headF (t : Tb) (d : Dc) : Nat × Tb :=
  if (d.supp = true ∧ d.loc ≠ []) ∨ (d.supp = false ∧ namedB d.loc = false) then (2, t)
  else if d.supp = true ∨ d.loc ∈ t.names then (0, t)
  else if t.names.length = 512 then (3, t)
  else (0, { t with names := t.names ++ [d.loc] })
def docsF : Nat → Tb → List Dc → Wrg × Tb
  | _, t, [] => (Wrg.ok, t)
  | f, t, d :: r => match headF t d with
    | (0, t1) => match itemsF d.loc f t1 d.items with
      | (none, t2) => docsF (f + 1) t2 r
      | (some (e, a), t2) => (⟨e, f, a⟩, t2)
    | (e, t1) => (⟨e, f, 0⟩, t1)
/-- the table of documents, and what is wrong with them -/
def newF (l : List Dc) : Wrg × Tb := docsF 0 Tb.zero l
end Go.Proofs.YtjlfchnnhglbjaaGreat

/- Tables of documents: what always holds of them (plain Lean). -/
set_option linter.unusedVariables false
set_option linter.unusedSimpArgs false
namespace Go.Proofs.YtjlfchnnhglbjaaGreat
open Go.Lib

structure TbOk (t : Tb) : Prop where
  names : t.names.Nodup
  paths : t.paths.Nodup
  n512 : t.names.length ≤ 512
  p16 : t.paths.length ≤ 16384
  rows : (t.rows.map fun r => (r.loc, r.path)).Nodup
  als : (t.als.map fun r => r.path).Nodup
  root : ∀ r ∈ t.als, r.loc = tRoot
  rp : ∀ r ∈ t.rows, r.path ∈ t.paths
  pr : ∀ p ∈ t.paths, ∃ r ∈ t.rows, r.path = p
theorem TbOk.zero : TbOk Tb.zero := ⟨by simp [Tb.zero], by simp [Tb.zero], by simp [Tb.zero], by simp [Tb.zero], by simp [Tb.zero], by simp [Tb.zero], by simp [Tb.zero], by simp [Tb.zero], by simp [Tb.zero]⟩
theorem findR_none {l : List Rw} {loc path : Str} : findR l loc path = none ↔ ∀ r ∈ l, ¬ (r.loc = loc ∧ r.path = path) := by
  unfold findR
  rw [List.find?_eq_none]
  simp
theorem findR_some {l : List Rw} {loc path : Str} {r : Rw} (h : findR l loc path = some r) : r ∈ l ∧ r.loc = loc ∧ r.path = path := by
  unfold findR at h
  have h1 := List.find?_some h
  simp at h1
  exact ⟨List.mem_of_find?_eq_some h, h1⟩
theorem rows_more {l : List Rw} (h : (l.map fun r => (r.loc, r.path)).Nodup) {r : Rw} (hn : findR l r.loc r.path = none) : ((l ++ [r]).map fun r => (r.loc, r.path)).Nodup := by
  rw [List.map_append, List.nodup_append]
  refine ⟨h, by simp, fun a ha b hb e => ?_⟩
  obtain ⟨x, hx, rfl⟩ := List.mem_map.1 ha
  simp only [List.map_cons, List.map_nil, List.mem_singleton] at hb
  subst hb
  exact findR_none.1 hn x hx (Prod.mk.inj e)
theorem item_ok {t : Tb} (h : TbOk t) (loc : Str) (f : Nat) (x : Itm) : TbOk (itemF t loc f x).2 := by
  unfold itemF
  split
  · exact h
  split
  · exact h
  split
  · rename_i h1 h2 h3
    have hl : loc = tRoot := by
      by_cases e : loc = tRoot
      · exact e
      · exact absurd ⟨h3, e⟩ h2
    split
    · split <;> exact h
    · rename_i hf
      refine ⟨h.names, h.paths, h.n512, h.p16, h.rows, ?_, fun r hr => ?_, h.rp, h.pr⟩
      · show ((t.als ++ [(⟨loc, x.path, x.value, f, x.at'⟩ : Rw)]).map fun (r : Rw) => r.path).Nodup
        rw [List.map_append, List.nodup_append]
        refine ⟨h.als, by simp, fun a ha b hb e => ?_⟩
        obtain ⟨y, hy, rfl⟩ := List.mem_map.1 ha
        simp only [List.map_cons, List.map_nil, List.mem_singleton] at hb
        subst hb
        exact findR_none.1 hf y hy ⟨(h.root y hy).trans hl.symm, e⟩
      · rcases List.mem_append.1 hr with hr | hr
        · exact h.root r hr
        · rw [List.mem_singleton.1 hr]; exact hl
  · split
    · split <;> exact h
    · rename_i hf
      split
      · rename_i hp
        refine ⟨h.names, h.paths, h.n512, h.p16, rows_more h.rows hf, h.als, h.root, fun r hr => ?_, fun p hp => ?_⟩
        · rcases List.mem_append.1 hr with hr | hr
          · exact h.rp r hr
          · rw [List.mem_singleton.1 hr]; exact hp
        · obtain ⟨r, hr, e⟩ := h.pr p hp
          exact ⟨r, List.mem_append.2 (Or.inl hr), e⟩
      · split
        · exact h
        · rename_i hp hn
          refine ⟨h.names, ?_, h.n512, ?_, rows_more h.rows hf, h.als, h.root, fun r hr => ?_, fun p hp => ?_⟩
          · show (t.paths ++ [x.path]).Nodup
            rw [List.nodup_append]
            exact ⟨h.paths, by simp, fun a ha b hb e => hp (by rw [List.mem_singleton.1 hb] at e; exact e ▸ ha)⟩
          · show (t.paths ++ [x.path]).length ≤ 16384
            have := h.p16
            rw [List.length_append, List.length_singleton]; omega
          · rcases List.mem_append.1 hr with hr | hr
            · exact List.mem_append.2 (Or.inl (h.rp r hr))
            · rw [List.mem_singleton.1 hr]; exact List.mem_append.2 (Or.inr (by simp))
          · rcases List.mem_append.1 hp with hp | hp
            · obtain ⟨r, hr, e⟩ := h.pr p hp
              exact ⟨r, List.mem_append.2 (Or.inl hr), e⟩
            · exact ⟨_, List.mem_append.2 (Or.inr (List.mem_singleton.2 rfl)), (List.mem_singleton.1 hp).symm⟩
theorem head_tb {t : Tb} (h : TbOk t) (d : Dc) : TbOk (headF t d).2 := by
  unfold headF
  split
  · exact h
  split
  · exact h
  rename_i h1 h2
  split
  · exact h
  · rename_i h3
    refine ⟨?_, h.paths, ?_, h.p16, h.rows, h.als, h.root, h.rp, h.pr⟩
    · show (t.names ++ [d.loc]).Nodup
      rw [List.nodup_append]
      exact ⟨h.names, by simp, fun a ha b hb e => h2 (Or.inr (by rw [List.mem_singleton.1 hb] at e; exact e ▸ ha))⟩
    · show (t.names ++ [d.loc]).length ≤ 512
      have := h.n512
      rw [List.length_append, List.length_singleton]; omega
theorem items_ok (loc : Str) (f : Nat) : ∀ (l : List Itm) {t : Tb}, TbOk t → TbOk (itemsF loc f t l).2
  | [], t, h => h
  | x :: r, t, h => by
    unfold itemsF
    have hi := item_ok h loc f x
    cases he : itemF t loc f x with
    | mk e t' =>
      rw [he] at hi
      cases e with
      | zero => exact items_ok loc f r hi
      | succ e => exact hi
end Go.Proofs.YtjlfchnnhglbjaaGreat
