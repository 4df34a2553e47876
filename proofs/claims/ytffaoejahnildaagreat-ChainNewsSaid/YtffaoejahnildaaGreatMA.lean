/- Several texts in one: ChainP, ChainW, ChainQ, ChainR. (joined by wip/merge.py) -/
import Derived.Test.YtffaoejahnildaaGreatCanonF

/- Chains, the plain law: what stands above a locale. No program in sight. -/
set_option linter.unusedVariables false
set_option linter.unusedSimpArgs false
namespace Go.Proofs.YtffaoejahnildaaGreat

/-- the tag of the plain parent -/
def plainT (t : Tg) : Tg :=
  if t.vars ≠ [] then { t with vars := t.vars.take (t.vars.length - 1) } else if t.region ≠ [] then { t with region := [] } else if t.script ≠ [] then { t with script := [] } else { t with lang := [] }
def lack (s : Str) : Nat := if s = [] then 0 else 1
def depth (t : Tg) : Nat := t.vars.length + (lack t.region + (lack t.script + lack t.lang))
def tagOf (s : Str) : Tg := (parseF s).tag
def depthS (s : Str) : Nat := depth (tagOf s)
/-- the plain parent of a locale -/
def plainF (s : Str) : Str × Bool := if namedB s = true ∧ s ≠ tRoot then ((nameF (plainT (tagOf s))).1, (nameF (plainT (tagOf s))).2 == 0) else ([], false)

theorem named_facts {s : Str} (h : namedB s = true) : (parseF s).err = 0 ∧ Good (tagOf s) ∧ (tagOf s).keys = [] ∧ nameOf (writeF (tagOf s)) = s := by
  unfold namedB at h
  rw [Bool.and_eq_true, Bool.and_eq_true, beq_iff_eq, beq_iff_eq, beq_iff_eq] at h
  obtain ⟨h1, h2, h3⟩ := h
  have hg := good_of s h1
  rw [good_name _ hg] at h3
  simp only at h3
  have h4 := good_nameRead _ hg
  rw [h3] at h4
  have h5 : tagOf s = bareT (tagOf s) := by
    show (parseF s).tag = bareT (parseF s).tag
    have := congrArg Res.tag h4
    exact this
  refine ⟨h1, hg, by rw [h5]; rfl, ?_⟩
  rw [h5]
  exact h3
theorem good_lang {t : Tg} (h : Good t) (hk : t.keys = []) (hs : t.script = []) (hr : t.region = []) (hv : t.vars = []) : Good { t with lang := [] } := by
  refine ⟨⟨Or.inl rfl, h.canon.script, h.canon.region, h.canon.vars, h.canon.vsort, h.canon.keys, h.canon.ksort⟩, ?_⟩
  unfold partsR
  simp only [hk, hs, hr, hv, opt_nil]
  decide
theorem good_plainT {t : Tg} (h : Good t) (hk : t.keys = []) : Good (plainT t) ∧ (plainT t).keys = [] := by
  have hp := h.short
  unfold partsR at hp
  rw [sz_cons, sz_append, sz_append, sz_append] at hp
  unfold plainT
  by_cases h1 : t.vars = []
  · rw [if_neg (by simp [h1])]
    by_cases h2 : t.region = []
    · rw [if_neg (by simp [h2])]
      by_cases h3 : t.script = []
      · rw [if_neg (by simp [h3])]
        exact ⟨good_lang h hk h3 h2 h1, hk⟩
      · rw [if_pos h3]
        refine ⟨⟨⟨h.canon.lang, Or.inl rfl, h.canon.region, h.canon.vars, h.canon.vsort, h.canon.keys, h.canon.ksort⟩, ?_⟩, hk⟩
        unfold partsR
        rw [sz_cons, sz_append, sz_append, sz_append]
        simp only [opt_nil, sz_nil]
        omega
    · rw [if_pos h2]
      refine ⟨⟨⟨h.canon.lang, h.canon.script, Or.inl rfl, h.canon.vars, h.canon.vsort, h.canon.keys, h.canon.ksort⟩, ?_⟩, hk⟩
      unfold partsR
      rw [sz_cons, sz_append, sz_append, sz_append]
      simp only [opt_nil, sz_nil]
      omega
  · rw [if_pos h1]
    have hd := List.take_append_drop (t.vars.length - 1) t.vars
    have hz : sz (t.vars.take (t.vars.length - 1)) ≤ sz t.vars := by
      conv => rhs; rw [← hd, sz_append]
      omega
    have hv := h.canon.vars
    have hs : srtS (t.vars.take (t.vars.length - 1)) = t.vars.take (t.vars.length - 1) := by
      have h5 := srtS_sorted t.vars
      rw [h.canon.vsort] at h5
      exact List.mergeSort_of_pairwise (h5.sublist (List.take_sublist _ _))
    refine ⟨⟨⟨h.canon.lang, h.canon.script, h.canon.region, ⟨hv.1.sublist (List.take_sublist _ _), fun v hm => hv.2.1 v (List.mem_of_mem_take hm), ?_⟩, hs, h.canon.keys, h.canon.ksort⟩, ?_⟩, hk⟩
    · have := hv.2.2; rw [List.length_take]; omega
    · unfold partsR
      rw [sz_cons, sz_append, sz_append, sz_append]
      simp only
      omega
theorem lack_pos {s : Str} (h : s ≠ []) : lack s = 1 := if_neg h
theorem lack_nil : lack [] = 0 := rfl
theorem depth_plainT {t : Tg} (h : depth t ≠ 0) : depth (plainT t) + 1 = depth t := by
  unfold plainT
  by_cases h1 : t.vars = []
  · rw [if_neg (by simp [h1])]
    by_cases h2 : t.region = []
    · rw [if_neg (by simp [h2])]
      by_cases h3 : t.script = []
      · rw [if_neg (by simp [h3])]
        unfold depth at h ⊢
        simp only [h1, h2, h3, lack_nil, List.length_nil] at h ⊢
        by_cases h4 : t.lang = []
        · rw [h4] at h; exact absurd rfl h
        · rw [lack_pos h4]
      · rw [if_pos h3]
        unfold depth
        simp only [lack_nil, lack_pos h3]
        omega
    · rw [if_pos h2]
      unfold depth
      simp only [lack_nil, lack_pos h2]
      omega
  · rw [if_pos h1]
    have : 0 < t.vars.length := List.length_pos_iff.2 h1
    unfold depth
    simp only [List.length_take]
    omega
theorem depth_zero {t : Tg} (h : depth t = 0) (hk : t.keys = []) : t = Tg.zero := by
  unfold depth at h
  have h1 : t.vars = [] := List.length_eq_zero_iff.1 (by omega)
  have h2 : t.region = [] := by by_cases e : t.region = []; · exact e
                                · rw [lack_pos e] at h; omega
  have h3 : t.script = [] := by by_cases e : t.script = []; · exact e
                                · rw [lack_pos e] at h; omega
  have h4 : t.lang = [] := by by_cases e : t.lang = []; · exact e
                              · rw [lack_pos e] at h; omega
  cases t
  simp only at *
  subst h1; subst h2; subst h3; subst h4; subst hk; rfl
theorem depth_le {s : Str} (h : namedB s = true) : depthS s ≤ 11 := by
  have := (named_facts h).2.1.vars
  have hl : ∀ x : Str, lack x ≤ 1 := fun x => by unfold lack; split <;> omega
  have h1 := hl (tagOf s).region
  have h2 := hl (tagOf s).script
  have h3 := hl (tagOf s).lang
  unfold depthS depth
  omega
theorem root_name : nameOf (writeF (bareT Tg.zero)) = tRoot := by decide
theorem named_root : namedB tRoot = true := by rw [← root_name]; exact good_named _ Good.zero
theorem depth_root {s : Str} (h : namedB s = true) (hd : depthS s = 0) : s = tRoot := by
  obtain ⟨_, _, hk, hn⟩ := named_facts h
  rw [depth_zero hd hk] at hn
  rw [← hn]; exact root_name
theorem root_depth : depthS tRoot = 0 := by
  have h := good_nameRead _ Good.zero
  rw [root_name] at h
  unfold depthS tagOf
  rw [h]; rfl
/-- the plain parent of a name other than root is a name, one step nearer to root -/
theorem plain_ok {s : Str} (h : namedB s = true) (hr : s ≠ tRoot) : ∃ p, plainF s = (p, true) ∧ namedB p = true ∧ depthS p + 1 = depthS s := by
  obtain ⟨_, hg, hk, hn⟩ := named_facts h
  obtain ⟨hg2, hk2⟩ := good_plainT hg hk
  refine ⟨nameOf (writeF (bareT (plainT (tagOf s)))), ?_, good_named _ hg2, ?_⟩
  · unfold plainF
    rw [if_pos ⟨h, hr⟩, good_name _ hg2]; rfl
  · have hq : tagOf (nameOf (writeF (bareT (plainT (tagOf s))))) = bareT (plainT (tagOf s)) := congrArg Res.tag (good_nameRead _ hg2)
    unfold depthS
    rw [hq]
    have hd : depth (tagOf s) ≠ 0 := fun e => hr (depth_root h e)
    have := depth_plainT hd
    rw [← this]; rfl
theorem plain_no {s : Str} (h : ¬ (namedB s = true ∧ s ≠ tRoot)) : plainF s = ([], false) := by unfold plainF; rw [if_neg h]

/-- what is said of a locale -/
def look : List (Str × Str) → Str → Option Str
  | [], _ => none
  | p :: l, k => if p.1 = k then some p.2 else look l k
theorem look_mem {l : List (Str × Str)} {k v : Str} (h : look l k = some v) : (k, v) ∈ l := by
  induction l with
  | nil => cases h
  | cons p l ih =>
    unfold look at h
    split at h
    · rename_i hk
      subst hk
      cases h
      exact List.mem_cons_self
    · exact List.mem_cons_of_mem _ (ih h)
theorem look_append (l m : List (Str × Str)) (k : Str) : look (l ++ m) k = (look l k).or (look m k) := by
  induction l with
  | nil => simp [look]
  | cons p l ih => rw [List.cons_append, look, look]; split <;> simp_all
theorem look_none {l : List (Str × Str)} {k : Str} : look l k = none ↔ ∀ p ∈ l, p.1 ≠ k := by
  induction l with
  | nil => simp [look]
  | cons p l ih => rw [look]; split <;> simp_all
/-- a locale's parent -/
def parentF (D : List (Str × Str)) (s : Str) : Str × Bool := match look D s with
  | some p => (p, true)
  | none => plainF s
def stepF (D : List (Str × Str)) (s : Str) : Option Str := if (parentF D s).2 = true then some (parentF D s).1 else none
def iter (D : List (Str × Str)) : Nat → Str → Option Str
  | 0, s => some s
  | n + 1, s => (iter D n s).bind (stepF D)
theorem iter_add (D : List (Str × Str)) (m n : Nat) (s : Str) : iter D (m + n) s = (iter D m s).bind (iter D n) := by
  induction n with
  | zero => simp [iter]
  | succ n ih => rw [← Nat.add_assoc, iter, ih]; cases iter D m s <;> simp [iter]

/-- what may be said: names, of none but root, each once -/
def saidOK (D : List (Str × Str)) : Prop := ∀ p ∈ D, namedB p.1 = true ∧ namedB p.2 = true ∧ p.1 ≠ tRoot
theorem step_named {D : List (Str × Str)} (hD : saidOK D) {s t : Str} (h : stepF D s = some t) : namedB t = true := by
  unfold stepF parentF at h
  cases hl : look D s with
  | some p => rw [hl] at h; simp at h; subst h; exact (hD _ (look_mem hl)).2.1
  | none =>
    rw [hl] at h
    simp only at h
    by_cases hp : namedB s = true ∧ s ≠ tRoot
    · obtain ⟨p, h1, h2, _⟩ := plain_ok hp.1 hp.2
      rw [h1] at h
      simp at h
      subst h; exact h2
    · rw [plain_no hp] at h; simp at h
theorem step_some {D : List (Str × Str)} (hD : saidOK D) {s : Str} (h : namedB s = true) (hr : s ≠ tRoot) : ∃ t, stepF D s = some t := by
  unfold stepF parentF
  cases hl : look D s with
  | some p => exact ⟨p, rfl⟩
  | none =>
    obtain ⟨p, h1, _⟩ := plain_ok h hr
    exact ⟨p, by simp only; rw [h1]; rfl⟩
theorem step_root {D : List (Str × Str)} (hD : saidOK D) : stepF D tRoot = none := by
  unfold stepF parentF
  have : look D tRoot = none := look_none.2 fun p hp => (hD p hp).2.2
  rw [this]
  simp only
  rw [plain_no (fun h => h.2 rfl)]
  rfl
theorem step_depth {D : List (Str × Str)} {s t : Str} (hl : look D s = none) (h : stepF D s = some t) : depthS t + 1 = depthS s := by
  unfold stepF parentF at h
  rw [hl] at h
  simp only at h
  by_cases hp : namedB s = true ∧ s ≠ tRoot
  · obtain ⟨p, h1, _, h3⟩ := plain_ok hp.1 hp.2
    rw [h1] at h
    simp at h
    subst h; exact h3
  · rw [plain_no hp] at h; simp at h

/-- the plain parents from a name on -/
def tower : Nat → Str → List Str
  | 0, s => [s]
  | n + 1, s => s :: (if (plainF s).2 = true then tower n (plainF s).1 else [])
theorem tower_self (n : Nat) (s : Str) : s ∈ tower n s := by cases n <;> simp [tower]
theorem tower_len : ∀ (n : Nat) (s : Str), (tower n s).length ≤ n + 1
  | 0, s => by simp [tower]
  | n + 1, s => by
    rw [tower, List.length_cons]
    split
    · have := tower_len n (plainF s).1; omega
    · simp
theorem tower_step : ∀ (n : Nat) (s x : Str), namedB s = true → depthS s ≤ n → x ∈ tower n s → (plainF x).2 = true → (plainF x).1 ∈ tower n s
  | 0, s, x, hs, hd, hx, hp => by
    simp [tower] at hx
    subst hx
    rw [plain_no (fun h => h.2 (depth_root hs (by omega)))] at hp
    cases hp
  | n + 1, s, x, hs, hd, hx, hp => by
    rw [tower] at hx ⊢
    by_cases h : namedB s = true ∧ s ≠ tRoot
    · obtain ⟨p, h1, h2, h3⟩ := plain_ok h.1 h.2
      rw [h1] at hx ⊢
      simp only [if_true] at hx ⊢
      rcases List.mem_cons.1 hx with rfl | hx
      · rw [h1]; exact List.mem_cons_of_mem _ (tower_self _ _)
      · exact List.mem_cons_of_mem _ (tower_step n p x h2 (by omega) hx hp)
    · rw [plain_no h] at hx ⊢
      simp at hx
      subst hx
      rw [plain_no h] at hp
      cases hp
/-- all that can stand in a row from s on -/
def reach (D : List (Str × Str)) (s : Str) : List Str := (s :: D.map (·.2)).flatMap (tower 11)
theorem reach_len (D : List (Str × Str)) (s : Str) : (reach D s).length ≤ 12 * (D.length + 1) := by
  unfold reach
  have h : ∀ l : List Str, (l.flatMap (tower 11)).length ≤ 12 * l.length := by
    intro l
    induction l with
    | nil => simp
    | cons x l ih => rw [List.flatMap_cons, List.length_append, List.length_cons]; have := tower_len 11 x; omega
  have := h (s :: D.map (·.2))
  simpa using this
theorem reach_self (D : List (Str × Str)) (s : Str) : s ∈ reach D s := by
  unfold reach; rw [List.flatMap_cons]; exact List.mem_append_left _ (tower_self _ _)
theorem reach_step {D : List (Str × Str)} (hD : saidOK D) {s x y : Str} (hs : namedB s = true) (hx : x ∈ reach D s) (h : stepF D x = some y) : y ∈ reach D s := by
  unfold reach at hx ⊢
  unfold stepF parentF at h
  cases hl : look D x with
  | some p =>
    rw [hl] at h
    simp at h
    subst h
    refine List.mem_flatMap.2 ⟨p, List.mem_cons_of_mem _ (List.mem_map.2 ⟨_, look_mem hl, rfl⟩), tower_self _ _⟩
  | none =>
    rw [hl] at h
    simp only at h
    split at h
    · rename_i hp
      cases h
      obtain ⟨z, hz, hx2⟩ := List.mem_flatMap.1 hx
      have hzn : namedB z = true := by
        rcases List.mem_cons.1 hz with rfl | hz
        · exact hs
        · obtain ⟨q, hq, rfl⟩ := List.mem_map.1 hz
          exact (hD q hq).2.1
      exact List.mem_flatMap.2 ⟨z, hz, tower_step 11 z x hzn (depth_le hzn) hx2 hp⟩
    · cases h
theorem iter_reach {D : List (Str × Str)} (hD : saidOK D) {s : Str} (hs : namedB s = true) : ∀ (n : Nat) (x : Str), iter D n s = some x → x ∈ reach D s
  | 0, x, h => by cases h; exact reach_self D s
  | n + 1, x, h => by
    rw [iter, Option.bind_eq_some_iff] at h
    obtain ⟨y, h1, h2⟩ := h
    exact reach_step hD hs (iter_reach hD hs n y h1) h2
theorem iter_named {D : List (Str × Str)} (hD : saidOK D) {s : Str} (hs : namedB s = true) : ∀ (n : Nat) (x : Str), iter D n s = some x → namedB x = true
  | 0, x, h => by cases h; exact hs
  | n + 1, x, h => by
    rw [iter, Option.bind_eq_some_iff] at h
    obtain ⟨y, h1, h2⟩ := h
    exact step_named hD h2

theorem nodup_le : ∀ (l R : List Str), l.Nodup → (∀ x ∈ l, x ∈ R) → l.length ≤ R.length
  | [], R, _, _ => Nat.zero_le _
  | x :: l, R, hn, hs => by
    rw [List.nodup_cons] at hn
    have hx := hs x List.mem_cons_self
    have h2 := nodup_le l (R.erase x) hn.2 fun y hy => (List.mem_erase_of_ne (fun e => hn.1 (by rw [← e]; exact hy))).2 (hs y (List.mem_cons_of_mem _ hy))
    rw [List.length_erase_of_mem hx] at h2
    have : 0 < R.length := List.length_pos_of_mem hx
    rw [List.length_cons]; omega
/-- a row that does not end comes to something twice -/
theorem twice (f : Nat → Str) (R : List Str) (h : ∀ n, f n ∈ R) : ∃ i p, f (i + (p + 1)) = f i := by
  by_cases hc : ((List.range (R.length + 1)).map f).Nodup
  · have := nodup_le _ R hc (fun x hx => by obtain ⟨i, _, rfl⟩ := List.mem_map.1 hx; exact h i)
    simp at this
    omega
  · by_cases hall : ∀ i j, i < j → f j ≠ f i
    · exfalso
      apply hc
      have : List.Pairwise (fun a b : Nat => a < b) (List.range (R.length + 1)) := List.pairwise_lt_range
      exact List.Pairwise.map f (fun a b hab => Ne.symm (hall a b hab)) this
    · have : ∃ i j, i < j ∧ f j = f i := by
        apply Classical.byContradiction
        intro hn
        exact hall fun i j hij he => hn ⟨i, j, hij, he⟩
      obtain ⟨i, j, hij, he⟩ := this
      exact ⟨i, j - i - 1, by rw [show i + (j - i - 1 + 1) = j by omega]; exact he⟩
/-- a locale that comes again in the row that goes up from it -/
def ringP (D : List (Str × Str)) (k : Str) : Prop := ∃ n, iter D (n + 1) k = some k
theorem ends {D : List (Str × Str)} (hD : saidOK D) (hr : ∀ p ∈ D, ¬ ringP D p.1) {s : Str} (hs : namedB s = true) : ∃ n, iter D n s = some tRoot := by
  apply Classical.byContradiction
  intro hn
  have hno : ∀ n, iter D n s ≠ some tRoot := fun n e => hn ⟨n, e⟩
  have hall : ∀ n, ∃ x, iter D n s = some x := by
    intro n
    induction n with
    | zero => exact ⟨s, rfl⟩
    | succ n ih =>
      obtain ⟨x, hx⟩ := ih
      have hxr : x ≠ tRoot := fun e => hno n (by rw [hx, e])
      obtain ⟨t, ht⟩ := step_some hD (iter_named hD hs n x hx) hxr
      exact ⟨t, by rw [iter, hx]; exact ht⟩
  obtain ⟨f, hf⟩ : ∃ f : Nat → Str, ∀ n, iter D n s = some (f n) := ⟨fun n => (hall n).choose, fun n => (hall n).choose_spec⟩
  obtain ⟨i, p, hip⟩ := twice f (reach D s) (fun n => iter_reach hD hs n _ (hf n))
  have hgo : ∀ m n, iter D n (f m) = some (f (m + n)) := fun m n => by
    have := iter_add D m n s
    rw [hf, hf] at this
    exact this.symm
  by_cases hc : ∃ q v, look D (f (i + q)) = some v
  · obtain ⟨q, v, hq⟩ := hc
    refine hr _ (look_mem hq) ⟨p, ?_⟩
    show iter D (p + 1) (f (i + q)) = some (f (i + q))
    rw [hgo]
    have h1 := hgo (i + (p + 1)) q
    rw [hip, hgo] at h1
    rw [show i + q + (p + 1) = i + (p + 1) + q by omega]
    exact h1.symm
  · have hlook : ∀ q, look D (f (i + q)) = none := by
      intro q
      cases h : look D (f (i + q)) with
      | none => rfl
      | some v => exact absurd ⟨q, v, h⟩ hc
    have hd : ∀ q, depthS (f (i + q)) + q = depthS (f i) := by
      intro q
      induction q with
      | zero => rfl
      | succ q ih =>
        have h1 := hgo (i + q) 1
        have h2 : stepF D (f (i + q)) = some (f (i + q + 1)) := by simpa [iter] using h1
        have h3 := step_depth (hlook q) h2
        have h4 : depthS (f (i + (q + 1))) = depthS (f (i + q + 1)) := rfl
        omega
    have := hd (p + 1)
    rw [hip] at this
    omega

/-- l is the row that goes up from s to root -/
def Up (D : List (Str × Str)) : Str → List Str → Prop
  | _, [] => False
  | s, [x] => x = s ∧ s = tRoot
  | s, x :: y :: l => x = s ∧ s ≠ tRoot ∧ stepF D s = some y ∧ Up D y (y :: l)
theorem up_root (D : List (Str × Str)) : Up D tRoot [tRoot] := ⟨rfl, rfl⟩
theorem up_head {D : List (Str × Str)} : ∀ {l : List Str} {s : Str}, Up D s l → ∃ r, l = s :: r
  | [], _, h => h.elim
  | [x], s, h => ⟨[], by rw [h.1]⟩
  | x :: y :: l, s, h => ⟨y :: l, by rw [h.1]⟩
theorem up_cons {D : List (Str × Str)} {s t : Str} {l : List Str} (hr : s ≠ tRoot) (h : stepF D s = some t) (hl : Up D t l) : Up D s (s :: l) := by
  obtain ⟨r, rfl⟩ := up_head hl
  exact ⟨rfl, hr, h, hl⟩
theorem up_of_iter {D : List (Str × Str)} (hD : saidOK D) : ∀ (n : Nat) (s : Str), iter D n s = some tRoot → ∃ l, Up D s l
  | 0, s, h => by cases h; exact ⟨_, up_root D⟩
  | n + 1, s, h => by
    by_cases hr : s = tRoot
    · subst hr; exact ⟨_, up_root D⟩
    · rw [show n + 1 = 1 + n by omega, iter_add, Option.bind_eq_some_iff] at h
      obtain ⟨t, h1, h2⟩ := h
      obtain ⟨l, hl⟩ := up_of_iter hD n t h2
      exact ⟨_, up_cons hr (by simpa [iter] using h1) hl⟩
theorem up_ex {D : List (Str × Str)} (hD : saidOK D) (hr : ∀ p ∈ D, ¬ ringP D p.1) {s : Str} (hs : namedB s = true) : ∃ l, Up D s l := by
  obtain ⟨n, hn⟩ := ends hD hr hs
  exact up_of_iter hD n s hn
theorem up_one {D : List (Str × Str)} : ∀ {l m : List Str} {s : Str}, Up D s l → Up D s m → l = m
  | [], _, _, h, _ => h.elim
  | [x], m, s, h, h2 => by
    match m, h2 with
    | [y], h2 => rw [h.1, h2.1]
    | y :: z :: m, h2 => exact absurd h.2 h2.2.1
  | x :: y :: l, m, s, h, h2 => by
    match m, h2 with
    | [z], h2 => exact absurd h2.2 h.2.1
    | z :: u :: m, h2 =>
      have h3 := h.2.2.1
      rw [h2.2.2.1] at h3
      cases h3
      rw [h.1, h2.1, up_one h.2.2.2 h2.2.2.2]
theorem up_drop {D : List (Str × Str)} : ∀ {l : List Str} {s : Str} (i : Nat) (hi : i < l.length), Up D s l → Up D l[i] (l.drop i)
  | [], _, _, hi, h => h.elim
  | [x], s, 0, hi, h => by simpa [h.1] using h
  | [x], s, i + 1, hi, h => by simp at hi
  | x :: y :: l, s, 0, hi, h => by
    have := h.1
    subst this
    exact h
  | x :: y :: l, s, i + 1, hi, h => by
    have := up_drop i (by simpa using hi) h.2.2.2
    simpa using this
theorem up_last {D : List (Str × Str)} : ∀ {l : List Str} {s : Str}, Up D s l → ∃ r, l = r ++ [tRoot]
  | [], _, h => h.elim
  | [x], s, h => ⟨[], by rw [h.1, h.2]; rfl⟩
  | x :: y :: l, s, h => by
    obtain ⟨r, hr⟩ := up_last h.2.2.2
    exact ⟨x :: r, by rw [hr]; rfl⟩
theorem up_named {D : List (Str × Str)} (hD : saidOK D) : ∀ {l : List Str} {s : Str}, namedB s = true → Up D s l → ∀ x ∈ l, namedB x = true
  | [], _, _, h, _, _ => h.elim
  | [x], s, hs, h, z, hz => by
    have := h.1
    subst this
    rw [List.mem_singleton.1 hz]; exact hs
  | x :: y :: l, s, hs, h, z, hz => by
    have := h.1
    subst this
    rcases List.mem_cons.1 hz with rfl | hz
    · exact hs
    · exact up_named hD (step_named hD h.2.2.1) h.2.2.2 z hz
theorem up_nodup {D : List (Str × Str)} {l : List Str} {s : Str} (h : Up D s l) : ∀ i j, (hj : j < l.length) → (hij : i < j) → l[i] ≠ l[j] := by
  intro i j hj hij he
  have h1 := up_drop i (by omega) h
  have h2 := up_drop j hj h
  rw [he] at h1
  have h3 := congrArg List.length (up_one h1 h2)
  simp only [List.length_drop] at h3
  omega
/-- the row is the same where the steps are -/
theorem up_same {D E : List (Str × Str)} (hst : ∀ s, stepF D s = stepF E s) : ∀ {l : List Str} {s : Str}, Up D s l → Up E s l
  | [], _, h => h.elim
  | [x], s, h => h
  | x :: y :: l, s, h => ⟨h.1, h.2.1, by rw [← hst]; exact h.2.2.1, up_same hst h.2.2.2⟩
theorem iter_same {D E : List (Str × Str)} (hst : ∀ s, stepF D s = stepF E s) (n : Nat) (s : Str) : iter D n s = iter E n s := by
  induction n with
  | zero => rfl
  | succ n ih => rw [iter, iter, ih, show stepF D = stepF E from funext hst]
/-- where a row ends there is no ring -/
theorem iter_root {D : List (Str × Str)} (hD : saidOK D) (n : Nat) : iter D (n + 1) tRoot = none := by
  rw [show n + 1 = 1 + n by omega, iter_add]
  simp [iter, step_root hD]
theorem no_ring {D : List (Str × Str)} (hD : saidOK D) {s : Str} {n : Nat} (h : iter D n s = some tRoot) : ¬ ringP D s := by
  rintro ⟨p, hp⟩
  have hm : ∀ k, iter D (k * (p + 1)) s = some s := by
    intro k
    induction k with
    | zero => rw [Nat.zero_mul]; rfl
    | succ k ih => rw [Nat.succ_mul, iter_add, ih]; exact hp
  have h1 := hm (n + 1)
  have h2 : (n + 1) * (p + 1) = n + (n * p + p + 1) := by rw [Nat.add_mul, Nat.mul_add]; omega
  rw [h2, iter_add, h] at h1
  simp only [Option.bind_some] at h1
  rw [iter_root hD (n * p + p)] at h1
  cases h1

/-- the first thing that is wrong with what is said, and where: 2, no name or root; 211, said already -/
def badAt (done : List (Str × Str)) : List (Str × Str) → Option (Nat × Nat)
  | [] => none
  | p :: r => if (namedB p.1 = true ∧ namedB p.2 = true) ∧ p.1 ≠ tRoot then (if look done p.1 = none then badAt (done ++ [p]) r else some (211, done.length)) else some (2, done.length)
theorem bad_none {done r : List (Str × Str)} (h : badAt done r = none) (hd : saidOK done) : saidOK (done ++ r) := by
  induction r generalizing done with
  | nil => rw [List.append_nil]; exact hd
  | cons p r ih =>
    unfold badAt at h
    split at h
    · rename_i hp
      split at h
      · have := ih h (fun q hq => by
          rcases List.mem_append.1 hq with hq | hq
          · exact hd q hq
          · rw [List.mem_singleton.1 hq]; exact ⟨hp.1.1, hp.1.2, hp.2⟩)
        rw [List.append_assoc] at this
        exact this
      · cases h
    · cases h
/-- what chain.New says of a list -/
def NewOut (l : List (Str × Str)) (e i : Nat) : Prop :=
  (badAt [] l = some (e, i)) ∨ (badAt [] l = none ∧ e = 210 ∧ (∃ p, l[i]? = some p ∧ ringP l p.1) ∧ ∀ j p, j < i → l[j]? = some p → ¬ ringP l p.1) ∨ (badAt [] l = none ∧ e = 0 ∧ i = 0 ∧ ∀ p ∈ l, ¬ ringP l p.1)
end Go.Proofs.YtffaoejahnildaaGreat

/- The chain that the law's wakes asks for, in plain. -/
set_option linter.unusedVariables false
set_option linter.unusedSimpArgs false
namespace Go.Proofs.YtffaoejahnildaaGreat

def enAU : Str := [101, 110, 45, 65, 85]
def en001 : Str := [101, 110, 45, 48, 48, 49]
def enS : Str := [101, 110]
def tAU : Tg := ⟨[101, 110], [], [65, 85], [], []⟩
def t001 : Tg := ⟨[101, 110], [], [48, 48, 49], [], []⟩
def tEn : Tg := ⟨[101, 110], [], [], [], []⟩
def wkD : List (Str × Str) := [(enAU, en001)]
theorem wk_good (l r : Str) (hl : isLang l = true ∧ lower l = l ∧ l ≠ tUnd) (hr : r = [] ∨ (isRegion r = true ∧ upper r = r)) (hs : sz (partsR ⟨l, [], r, [], []⟩) ≤ 129) : Good ⟨l, [], r, [], []⟩ :=
  ⟨⟨Or.inr hl, Or.inl rfl, hr, VarsOK.nil, srtS_nil, KeysOK.nil, srtK_nil⟩, hs⟩
theorem good_AU : Good tAU := wk_good _ _ (by decide) (by decide) (by decide)
theorem good_001 : Good t001 := wk_good _ _ (by decide) (by decide) (by decide)
theorem good_En : Good tEn := wk_good _ _ (by decide) (by decide) (by decide)
theorem name_AU : nameOf (writeF (bareT tAU)) = enAU := by decide
theorem name_001 : nameOf (writeF (bareT t001)) = en001 := by decide
theorem name_En : nameOf (writeF (bareT tEn)) = enS := by decide
theorem nm_AU : namedB enAU = true := by rw [← name_AU]; exact good_named _ good_AU
theorem nm_001 : namedB en001 = true := by rw [← name_001]; exact good_named _ good_001
theorem nm_En : namedB enS = true := by rw [← name_En]; exact good_named _ good_En
theorem tg_001 : tagOf en001 = t001 := by have := good_nameRead _ good_001; rw [name_001] at this; unfold tagOf; rw [this]; rfl
theorem tg_En : tagOf enS = tEn := by have := good_nameRead _ good_En; rw [name_En] at this; unfold tagOf; rw [this]; rfl
theorem pl_001 : plainF en001 = (enS, true) := by
  unfold plainF
  rw [if_pos ⟨nm_001, by decide⟩, tg_001, show plainT t001 = tEn from rfl, good_name _ good_En, name_En]; rfl
theorem pl_En : plainF enS = (tRoot, true) := by
  unfold plainF
  rw [if_pos ⟨nm_En, by decide⟩, tg_En, show plainT tEn = Tg.zero from rfl, good_name _ Good.zero, root_name]; rfl
theorem st_AU : stepF wkD enAU = some en001 := by decide
theorem st_001 : stepF wkD en001 = some enS := by
  unfold stepF parentF
  rw [show look wkD en001 = none by decide]
  simp only
  rw [pl_001]; rfl
theorem st_En : stepF wkD enS = some tRoot := by
  unfold stepF parentF
  rw [show look wkD enS = none by decide]
  simp only
  rw [pl_En]; rfl
theorem wk_up : Up wkD enAU [enAU, en001, enS, tRoot] :=
  up_cons (by decide) st_AU (up_cons (by decide) st_001 (up_cons (by decide) st_En (up_root _)))
theorem wk_bad : badAt [] wkD = none := by
  show (if (namedB enAU = true ∧ namedB en001 = true) ∧ enAU ≠ tRoot then (if look [] enAU = none then badAt ([] ++ [(enAU, en001)]) [] else some (211, 0)) else some (2, 0)) = none
  rw [if_pos ⟨⟨nm_AU, nm_001⟩, by decide⟩]
  rfl
theorem wk_said : saidOK wkD := fun p hp => by
  rw [show p = (enAU, en001) from List.mem_singleton.1 hp]
  exact ⟨nm_AU, nm_001, by decide⟩
theorem wk_ring : ∀ p ∈ wkD, ¬ ringP wkD p.1 := fun p hp => by
  rw [show p = (enAU, en001) from List.mem_singleton.1 hp]
  refine no_ring wk_said (n := 3) ?_
  simp only [iter, Option.bind_some, st_AU, st_001, st_En]
theorem wk_new : NewOut wkD 0 0 := Or.inr (Or.inr ⟨wk_bad, rfl, rfl, wk_ring⟩)
end Go.Proofs.YtffaoejahnildaaGreat

/- Chains, the plain laws that the statements ask. No program in sight. -/
set_option linter.unusedVariables false
set_option linter.unusedSimpArgs false
namespace Go.Proofs.YtffaoejahnildaaGreat

theorem named_len {s : Str} (h : namedB s = true) : s.length ≤ 128 := by
  obtain ⟨h1, _⟩ := named_facts h
  have h2 := parse_L s
  unfold okR at h2
  rw [if_pos h1] at h2
  by_cases h3 : 128 < s.length
  · rw [if_pos h3] at h2; cases h2
  · omega
theorem bad_err : ∀ {r done : List (Str × Str)} {e i : Nat}, badAt done r = some (e, i) → e = 2 ∨ e = 211
  | [], _, _, _, h => by cases h
  | p :: r, done, e, i, h => by
    unfold badAt at h
    split at h
    · split at h
      · exact bad_err h
      · cases h; exact Or.inr rfl
    · cases h; exact Or.inl rfl
theorem bad_snoc : ∀ {r done : List (Str × Str)} (q : Str × Str), badAt done r = none → badAt done (r ++ [q]) = badAt (done ++ r) [q]
  | [], done, q, h => by simp
  | p :: r, done, q, h => by
    rw [List.cons_append]
    unfold badAt at h
    split at h
    · rename_i hp
      split at h
      · rename_i hl
        have := bad_snoc q h
        rw [List.append_assoc, List.singleton_append] at this
        rw [badAt, if_pos hp, if_pos hl, this]
      · cases h
    · cases h
theorem new_ok {D : List (Str × Str)} {i : Nat} (h : NewOut D 0 i) : saidOK D ∧ (∀ p ∈ D, ¬ ringP D p.1) ∧ badAt [] D = none ∧ i = 0 := by
  rcases h with h | ⟨_, h, _⟩ | ⟨h1, _, hi, h2⟩
  · rcases bad_err h with h | h <;> cases h
  · cases h
  · have := bad_none h1 (fun p hp => by cases hp)
    exact ⟨this, h2, h1, hi⟩
theorem new_one {D : List (Str × Str)} {e i : Nat} (h0 : NewOut D 0 0) (h : NewOut D e i) : e = 0 ∧ i = 0 := by
  obtain ⟨_, h2, h3, _⟩ := new_ok h0
  rcases h with h | ⟨_, _, ⟨p, hp, hr⟩, _⟩ | ⟨_, he, hi, _⟩
  · rw [h3] at h; cases h
  · exact absurd hr (h2 p (List.mem_of_getElem? hp))
  · exact ⟨he, hi⟩
/-- what is said as it would be without being said -/
theorem said_more {D : List (Str × Str)} {more p : Str} (h0 : NewOut D 0 0) (hp : plainF more = (p, true)) (hno : ∀ x ∈ D, x.1 ≠ more) :
    NewOut (D ++ [(more, p)]) 0 0 ∧ ∀ {s : Str} {l : List Str}, Up D s l → Up (D ++ [(more, p)]) s l := by
  obtain ⟨h1, h2, h3, _⟩ := new_ok h0
  have hm : namedB more = true ∧ more ≠ tRoot := by
    apply Classical.byContradiction
    intro hc
    rw [plain_no hc] at hp
    cases hp
  obtain ⟨q, hq, hq2, _⟩ := plain_ok hm.1 hm.2
  rw [hp] at hq
  cases hq
  have hlk : look D more = none := look_none.2 hno
  have hst : ∀ s, stepF D s = stepF (D ++ [(more, p)]) s := by
    intro s
    unfold stepF parentF
    rw [look_append]
    cases hl : look D s with
    | some v => rfl
    | none =>
      by_cases hs : more = s
      · subst hs
        simp [look, hp]
      · simp [look, hs]
  have hb : badAt [] (D ++ [(more, p)]) = none := by
    rw [bad_snoc _ h3, List.nil_append, badAt, if_pos ⟨⟨hm.1, hq2⟩, hm.2⟩, if_pos hlk]
    rfl
  have hD : saidOK (D ++ [(more, p)]) := bad_none (done := []) hb (fun p hp => by cases hp)
  refine ⟨Or.inr (Or.inr ⟨hb, rfl, rfl, fun x hx => ?_⟩), fun {s l} hu => up_same hst hu⟩
  obtain ⟨n, hn⟩ := ends h1 h2 (hD x hx).1
  rw [iter_same hst] at hn
  exact no_ring hD hn
theorem plain_true {more p : Str} (hp : plainF more = (p, true)) : namedB more = true ∧ more ≠ tRoot ∧ namedB p = true := by
  have hm : namedB more = true ∧ more ≠ tRoot := by
    apply Classical.byContradiction
    intro hc
    rw [plain_no hc] at hp
    cases hp
  obtain ⟨q, hq, hq2, _⟩ := plain_ok hm.1 hm.2
  rw [hp] at hq
  cases hq
  exact ⟨hm.1, hm.2, hq2⟩

/-- the first of x that stands in y -/
def firstIn (x y : List Str) : Str := (x.find? (fun s => decide (s ∈ y))).getD []
theorem up_mem_root {D : List (Str × Str)} {s : Str} {l : List Str} (h : Up D s l) : tRoot ∈ l := by
  obtain ⟨r, rfl⟩ := up_last h; simp
theorem up_ne {D : List (Str × Str)} {s : Str} {l : List Str} (h : Up D s l) : l ≠ [] := by
  obtain ⟨r, rfl⟩ := up_head h; simp
theorem first_parts {x y : List Str} (h : ∃ s, s ∈ x ∧ s ∈ y) : ∃ a b, x = a ++ firstIn x y :: b ∧ firstIn x y ∈ y ∧ ∀ t ∈ a, t ∉ y := by
  unfold firstIn
  cases hf : x.find? (fun s => decide (s ∈ y)) with
  | none =>
    obtain ⟨s, h1, h2⟩ := h
    have := List.find?_eq_none.1 hf s h1
    simp [h2] at this
  | some s =>
    obtain ⟨h1, a, b, h2, h3⟩ := List.find?_eq_some_iff_append.1 hf
    exact ⟨a, b, h2, by simpa using h1, fun t ht => by simpa using h3 t ht⟩
theorem first_above {D : List (Str × Str)} {a : Str} {x y z : List Str} (hx : Up D a x) (hr : tRoot ∈ y) (hz : Up D (firstIn x y) z) {t : Str} (h1 : t ∈ x) (h2 : t ∈ y) : t ∈ z := by
  obtain ⟨p, q, hp, hy, hn⟩ := first_parts ⟨tRoot, up_mem_root hx, hr⟩
  have hlt : p.length < x.length := by rw [hp]; simp
  have h3 := up_drop p.length hlt hx
  have h4 : x[p.length] = firstIn x y := by
    have h6 : x[p.length]? = some (firstIn x y) := by
      conv => lhs; rw [hp]
      simp
    rw [List.getElem?_eq_getElem hlt] at h6
    exact Option.some.inj h6
  rw [h4] at h3
  rw [up_one hz h3]
  have h5 : x.drop p.length = firstIn x y :: q := by
    conv => lhs; rw [hp]
    simp
  rw [h5]
  rw [hp] at h1
  rcases List.mem_append.1 h1 with h1 | h1
  · exact absurd h2 (hn t h1)
  · exact h1
theorem up_end {D : List (Str × Str)} {s : Str} {l : List Str} (h : Up D s l) (j : Nat) (hj : j < l.length) (hr : l[j] = tRoot) : j + 1 = l.length := by
  have h1 := up_drop j hj h
  rw [hr] at h1
  have h2 := congrArg List.length (up_one h1 (up_root D))
  simp only [List.length_drop, List.length_cons, List.length_nil] at h2
  omega
theorem up_next {D : List (Str × Str)} {s : Str} {l : List Str} (h : Up D s l) (j : Nat) (hj : j < l.length) (hr : l[j] ≠ tRoot) : ∃ hj' : j + 1 < l.length, stepF D l[j] = some l[j + 1] := by
  have h1 := up_drop j hj h
  rw [List.drop_eq_getElem_cons hj] at h1
  by_cases hj' : j + 1 < l.length
  · rw [List.drop_eq_getElem_cons hj'] at h1
    exact ⟨hj', h1.2.2.1⟩
  · rw [List.drop_of_length_le (by omega)] at h1
    exact absurd h1.2 hr
theorem step_parent {D : List (Str × Str)} {s t : Str} (h : stepF D s = some t) : parentF D s = (t, true) := by
  unfold stepF at h
  split at h
  · rename_i h2
    cases h
    generalize parentF D s = q at *
    cases q
    simp only at *
    rw [h2]
  · cases h
theorem parent_step {D : List (Str × Str)} {s t : Str} (h : parentF D s = (t, true)) : stepF D s = some t := by unfold stepF; rw [h]; rfl
theorem parent_none {D : List (Str × Str)} {s : Str} (h : (parentF D s).2 = false) : stepF D s = none := by unfold stepF; rw [h]; rfl
theorem up_len {D : List (Str × Str)} (hD : saidOK D) {s : Str} {l : List Str} (hs : namedB s = true) (h : Up D s l) : l.length ≤ 12 * (D.length + 1) := by
  refine Nat.le_trans (nodup_le l (reach D s) ?_ ?_) (reach_len D s)
  · rw [List.nodup_iff_pairwise_ne, List.pairwise_iff_getElem]
    intro i j hi hj hij
    exact up_nodup h i j hj hij
  · intro x hx
    have key : ∀ j (hj : j < l.length), iter D j s = some l[j] := by
      intro j
      induction j with
      | zero =>
        intro hj
        obtain ⟨r, rfl⟩ := up_head h
        rfl
      | succ j ih =>
        intro hj
        rw [iter, ih (by omega), Option.bind_some]
        have hne : l[j] ≠ tRoot := fun e => by have := up_end h j (by omega) e; omega
        obtain ⟨_, h2⟩ := up_next h j (by omega) hne
        exact h2
    obtain ⟨j, hj, rfl⟩ := List.getElem_of_mem hx
    exact iter_reach hD hs j _ (key j hj)
theorem ring_no1 {D : List (Str × Str)} {k a : Str} {j : Nat} (hj : iter D j k = some a) (hs : stepF D a = none) (hL : ∀ i, i < j → iter D (i + 1) k ≠ some k) : ¬ ringP D k := by
  rintro ⟨n, hn⟩
  by_cases h : n < j
  · exact hL n h hn
  · rw [show n + 1 = j + 1 + (n - j) by omega, iter_add, iter, hj, Option.bind_some, hs] at hn
    cases hn
theorem ring_no3 {D : List (Str × Str)} {k a x : Str} {i j : Nat} (hj : iter D j k = some a) (hs : stepF D a = some x) (hi : i < j) (hx : iter D (i + 1) k = some x) (hL : ∀ i, i < j → iter D (i + 1) k ≠ some k) : ¬ ringP D k := by
  have key : ∀ m, ∃ i', i' < j ∧ iter D (m + 1) k = iter D (i' + 1) k := by
    intro m
    induction m using Nat.strongRecOn with
    | _ m ih =>
      by_cases h : m < j
      · exact ⟨m, h, rfl⟩
      · have h1 : iter D (m + 1) k = iter D (i + (m - j) + 1) k := by
          rw [show m + 1 = j + 1 + (m - j) by omega, iter_add, iter, hj, Option.bind_some, hs, show i + (m - j) + 1 = i + 1 + (m - j) by omega, iter_add, hx]
        obtain ⟨i', h2, h3⟩ := ih (i + (m - j)) (by omega)
        exact ⟨i', h2, h1.trans h3⟩
  rintro ⟨n, hn⟩
  obtain ⟨i', h1, h2⟩ := key n
  exact hL i' h1 (h2 ▸ hn)
/-- the list that chain.Chain hands back -/
def ChainIs (D : List (Str × Str)) (s : Str) (l : List Str) : Prop := (namedB s = true ∧ Up D s l) ∨ (namedB s = false ∧ l = [])
theorem chain_ex {D : List (Str × Str)} (h0 : NewOut D 0 0) (s : Str) : ∃ l, ChainIs D s l := by
  obtain ⟨h1, h2, _⟩ := new_ok h0
  by_cases hs : namedB s = true
  · obtain ⟨l, hl⟩ := up_ex h1 h2 hs
    exact ⟨l, Or.inl ⟨hs, hl⟩⟩
  · exact ⟨[], Or.inr ⟨by simpa using hs, rfl⟩⟩
theorem bad_step {l : List (Str × Str)} {n : Nat} (hn : n < l.length) : badAt (l.take n) (l.drop n) =
    if (namedB l[n].1 = true ∧ namedB l[n].2 = true) ∧ l[n].1 ≠ tRoot then (if look (l.take n) l[n].1 = none then badAt (l.take (n + 1)) (l.drop (n + 1)) else some (211, n)) else some (2, n) := by
  rw [List.drop_eq_getElem_cons hn, badAt, List.length_take, show min n l.length = n by omega, List.take_add_one, List.getElem?_eq_getElem hn]
  rfl
end Go.Proofs.YtffaoejahnildaaGreat

/- Chains, the plain laws that the reference's answers ask. No program in sight. -/
set_option linter.unusedVariables false
set_option linter.unusedSimpArgs false
namespace Go.Proofs.YtffaoejahnildaaGreat

/-- two answers of New are one -/
theorem new_uniq {l : List (Str × Str)} {e i e2 i2 : Nat} (h : NewOut l e i) (h2 : NewOut l e2 i2) : e = e2 ∧ i = i2 := by
  rcases h with h | ⟨hb, rfl, ⟨p, hp, hr⟩, hno⟩ | ⟨hb, rfl, rfl, hno⟩
  · rcases h2 with h2 | ⟨hb2, _⟩ | ⟨hb2, _⟩
    · rw [h] at h2; cases h2; exact ⟨rfl, rfl⟩
    · rw [h] at hb2; cases hb2
    · rw [h] at hb2; cases hb2
  · rcases h2 with h2 | ⟨_, rfl, ⟨q, hq, hr2⟩, hno2⟩ | ⟨_, rfl, rfl, hno2⟩
    · rw [hb] at h2; cases h2
    · refine ⟨rfl, ?_⟩
      rcases Nat.lt_trichotomy i i2 with h | h | h
      · exact absurd hr (hno2 i p h hp)
      · exact h
      · exact absurd hr2 (hno i2 q h hq)
    · exact absurd hr (hno2 p (List.mem_of_getElem? hp))
  · rcases h2 with h2 | ⟨_, rfl, ⟨q, hq, hr2⟩, hno2⟩ | ⟨_, rfl, rfl, hno2⟩
    · rw [hb] at h2; cases h2
    · exact absurd hr2 (hno q (List.mem_of_getElem? hq))
    · exact ⟨rfl, rfl⟩
/-- a ring is met within as many steps as there are places -/
theorem ring_soon {D : List (Str × Str)} (hD : saidOK D) {k : Str} (hk : namedB k = true) (h : ringP D k) : ∃ n, n < 12 * (D.length + 1) ∧ iter D (n + 1) k = some k := by
  obtain ⟨n0, h0⟩ := h
  have key : ∀ n, iter D (n + 1) k = some k → ∃ m, iter D (m + 1) k = some k ∧ ∀ j, j < m → iter D (j + 1) k ≠ some k := by
    intro n
    induction n using Nat.strongRecOn with
    | _ n ih =>
      intro hn
      by_cases h : ∃ j, j < n ∧ iter D (j + 1) k = some k
      · obtain ⟨j, hj, hk⟩ := h
        exact ih j hj hk
      · exact ⟨n, hn, fun j hj e => h ⟨j, hj, e⟩⟩
  obtain ⟨m, hm, hmin⟩ := key n0 h0
  refine ⟨m, ?_, hm⟩
  have hall : ∀ j, j ≤ m → ∃ x, iter D (j + 1) k = some x := by
    intro j hj
    cases hx : iter D (j + 1) k with
    | some x => exact ⟨x, rfl⟩
    | none =>
      rw [show m + 1 = j + 1 + (m - j) by omega, iter_add, hx] at hm
      cases hm
  obtain ⟨f, hf⟩ : ∃ f : Nat → Str, ∀ j, j ≤ m → iter D (j + 1) k = some (f j) := ⟨fun j => if h : j ≤ m then (hall j h).choose else [], fun j hj => by simp only [hj, dif_pos]; exact (hall j hj).choose_spec⟩
  have hnd : ((List.range (m + 1)).map f).Nodup := by
    have hp : List.Pairwise (fun a b : Nat => a < b) (List.range (m + 1)) := List.pairwise_lt_range
    refine List.pairwise_map.2 (hp.imp_of_mem fun {a b} ha hb hab he => ?_)
    have ha' : a ≤ m := by have := List.mem_range.1 ha; omega
    have hb' : b ≤ m := by have := List.mem_range.1 hb; omega
    have e1 := hf a ha'
    have e2 := hf b hb'
    rw [he] at e1
    have e3 : iter D (m + 1) k = iter D (a + (m - b) + 1) k := by
      rw [show m + 1 = b + 1 + (m - b) by omega, iter_add, e2, show a + (m - b) + 1 = a + 1 + (m - b) by omega, iter_add, e1]
    rw [hm] at e3
    exact hmin (a + (m - b)) (by omega) e3.symm
  have h1 := nodup_le _ (reach D k) hnd (fun x hx => by
    obtain ⟨j, hj, rfl⟩ := List.mem_map.1 hx
    exact iter_reach hD hk _ _ (hf j (by have := List.mem_range.1 hj; omega)))
  have h2 := reach_len D k
  simp at h1
  omega
/-- the chain in the reference's words -/
theorem parent_named {D : List (Str × Str)} {s : Str} (hs : namedB s = true) (hr : s ≠ tRoot) : (parentF D s).1 = (look D s).getD (plainF s).1 ∧ (parentF D s).2 = true := by
  unfold parentF
  cases hl : look D s with
  | some p => exact ⟨rfl, rfl⟩
  | none =>
    obtain ⟨p, h, _⟩ := plain_ok hs hr
    exact ⟨rfl, by simp only; rw [h]⟩
/-- the place of a key -/
def findAt : List (Str × Str) → Str → Option Nat
  | [], _ => none
  | p :: l, k => if p.1 = k then some 0 else (findAt l k).map (· + 1)
theorem findAt_look (l : List (Str × Str)) (k : Str) : look l k = (findAt l k).bind (fun i => (l[i]?).map (·.2)) := by
  induction l with
  | nil => rfl
  | cons p l ih =>
    rw [look, findAt]
    split
    · rfl
    · rw [ih]; cases findAt l k <;> simp
theorem findAt_none {l : List (Str × Str)} {k : Str} : findAt l k = none ↔ look l k = none := by
  induction l with
  | nil => simp [findAt, look]
  | cons p l ih =>
    rw [look, findAt]
    split
    · simp
    · simp [ih]
theorem findAt_some {l : List (Str × Str)} {k : Str} {i : Nat} (h : findAt l k = some i) : ∃ p, l[i]? = some p ∧ p.1 = k ∧ i < l.length ∧ look l k = some p.2 ∧ ∀ j q, j < i → l[j]? = some q → q.1 ≠ k := by
  induction l generalizing i with
  | nil => cases h
  | cons p l ih =>
    rw [findAt] at h
    split at h
    · rename_i hp
      cases h
      exact ⟨p, rfl, hp, by simp, by rw [look, if_pos hp], fun j q hj => by omega⟩
    · rename_i hp
      cases hf : findAt l k with
      | none => rw [hf] at h; cases h
      | some j =>
        rw [hf] at h
        simp at h
        subst h
        obtain ⟨q, h1, h2, h3, h4, h5⟩ := ih hf
        refine ⟨q, by simpa using h1, h2, by simp; omega, by rw [look, if_neg hp]; exact h4, fun m r hm hr => ?_⟩
        cases m with
        | zero => simp at hr; subst hr; exact hp
        | succ m => exact h5 m r (by omega) (by simpa using hr)
theorem findAt_is {l : List (Str × Str)} {k : Str} {i : Nat} {p : Str × Str} (h1 : l[i]? = some p) (h2 : p.1 = k) (h3 : ∀ j q, j < i → l[j]? = some q → q.1 ≠ k) : findAt l k = some i := by
  cases hf : findAt l k with
  | none =>
    have := look_none.1 (findAt_none.1 hf) p (List.mem_of_getElem? h1)
    exact absurd h2 this
  | some j =>
    obtain ⟨q, h4, h5, _, _, h6⟩ := findAt_some hf
    rcases Nat.lt_trichotomy i j with h | h | h
    · exact absurd h2 (h6 i p h h1)
    · rw [h]
    · exact absurd h5 (h3 j q h h4)
theorem findAt_no {l : List (Str × Str)} {k : Str} (h : ∀ (j : Nat) (q : Str × Str), l[j]? = some q → q.1 ≠ k) : findAt l k = none :=
  findAt_none.2 (look_none.2 fun p hp => by obtain ⟨j, hj⟩ := List.getElem?_of_mem hp; exact h j p hj)
end Go.Proofs.YtffaoejahnildaaGreat
