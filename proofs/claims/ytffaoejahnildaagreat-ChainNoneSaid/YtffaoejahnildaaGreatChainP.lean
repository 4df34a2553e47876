/- Chains, the plain law: what stands above a locale. No program in sight. -/
import Derived.Test.YtffaoejahnildaaGreatCanonF
set_option linter.unusedVariables false
set_option linter.unusedSimpArgs false
namespace Go.Proofs.YtffaoejahnildaaGreat

/-- the tag of the plain parent -/
def plainT (t : Tg) : Tg :=
  if t.vars ≠ [] then { t with vars := t.vars.take (t.vars.length - 1) } else if t.region ≠ [] then { t with region := [] } else if t.script ≠ [] then { t with script := [] } else { t with lang := [] }
def lack (s : Str) : Nat := if s = [] then 0 else 1
def depth (t : Tg) : Nat := t.vars.length + (lack t.region + (lack t.script + lack t.lang))
def tagOf (s : Str) : Tg := (parseF s).tag
def depthS (s : Str) : Nat := depth (tagOf s)
/-- the plain parent of a locale -/
def plainF (s : Str) : Str × Bool := if namedB s = true ∧ s ≠ tRoot then ((nameF (plainT (tagOf s))).1, (nameF (plainT (tagOf s))).2 == 0) else ([], false)

theorem named_facts {s : Str} (h : namedB s = true) : (parseF s).err = 0 ∧ Good (tagOf s) ∧ (tagOf s).keys = [] ∧ nameOf (writeF (tagOf s)) = s := by
  unfold namedB at h
  rw [Bool.and_eq_true, Bool.and_eq_true, beq_iff_eq, beq_iff_eq, beq_iff_eq] at h
  obtain ⟨h1, h2, h3⟩ := h
  have hg := good_of s h1
  rw [good_name _ hg] at h3
  simp only at h3
  have h4 := good_nameRead _ hg
  rw [h3] at h4
  have h5 : tagOf s = bareT (tagOf s) := by
    show (parseF s).tag = bareT (parseF s).tag
    have := congrArg Res.tag h4
    exact this
  refine ⟨h1, hg, by rw [h5]; rfl, ?_⟩
  rw [h5]
  exact h3
theorem good_lang {t : Tg} (h : Good t) (hk : t.keys = []) (hs : t.script = []) (hr : t.region = []) (hv : t.vars = []) : Good { t with lang := [] } := by
  refine ⟨⟨Or.inl rfl, h.canon.script, h.canon.region, h.canon.vars, h.canon.vsort, h.canon.keys, h.canon.ksort⟩, ?_⟩
  unfold partsR
  simp only [hk, hs, hr, hv, opt_nil]
  decide
theorem good_plainT {t : Tg} (h : Good t) (hk : t.keys = []) : Good (plainT t) ∧ (plainT t).keys = [] := by
  have hp := h.short
  unfold partsR at hp
  rw [sz_cons, sz_append, sz_append, sz_append] at hp
  unfold plainT
  by_cases h1 : t.vars = []
  · rw [if_neg (by simp [h1])]
    by_cases h2 : t.region = []
    · rw [if_neg (by simp [h2])]
      by_cases h3 : t.script = []
      · rw [if_neg (by simp [h3])]
        exact ⟨good_lang h hk h3 h2 h1, hk⟩
      · rw [if_pos h3]
        refine ⟨⟨⟨h.canon.lang, Or.inl rfl, h.canon.region, h.canon.vars, h.canon.vsort, h.canon.keys, h.canon.ksort⟩, ?_⟩, hk⟩
        unfold partsR
        rw [sz_cons, sz_append, sz_append, sz_append]
        simp only [opt_nil, sz_nil]
        omega
    · rw [if_pos h2]
      refine ⟨⟨⟨h.canon.lang, h.canon.script, Or.inl rfl, h.canon.vars, h.canon.vsort, h.canon.keys, h.canon.ksort⟩, ?_⟩, hk⟩
      unfold partsR
      rw [sz_cons, sz_append, sz_append, sz_append]
      simp only [opt_nil, sz_nil]
      omega
  · rw [if_pos h1]
    have hd := List.take_append_drop (t.vars.length - 1) t.vars
    have hz : sz (t.vars.take (t.vars.length - 1)) ≤ sz t.vars := by
      conv => rhs; rw [← hd, sz_append]
      omega
    have hv := h.canon.vars
    have hs : srtS (t.vars.take (t.vars.length - 1)) = t.vars.take (t.vars.length - 1) := by
      have h5 := srtS_sorted t.vars
      rw [h.canon.vsort] at h5
      exact List.mergeSort_of_pairwise (h5.sublist (List.take_sublist _ _))
    refine ⟨⟨⟨h.canon.lang, h.canon.script, h.canon.region, ⟨hv.1.sublist (List.take_sublist _ _), fun v hm => hv.2.1 v (List.mem_of_mem_take hm), ?_⟩, hs, h.canon.keys, h.canon.ksort⟩, ?_⟩, hk⟩
    · have := hv.2.2; rw [List.length_take]; omega
    · unfold partsR
      rw [sz_cons, sz_append, sz_append, sz_append]
      simp only
      omega
theorem lack_pos {s : Str} (h : s ≠ []) : lack s = 1 := if_neg h
theorem lack_nil : lack [] = 0 := rfl
theorem depth_plainT {t : Tg} (h : depth t ≠ 0) : depth (plainT t) + 1 = depth t := by
  unfold plainT
  by_cases h1 : t.vars = []
  · rw [if_neg (by simp [h1])]
    by_cases h2 : t.region = []
    · rw [if_neg (by simp [h2])]
      by_cases h3 : t.script = []
      · rw [if_neg (by simp [h3])]
        unfold depth at h ⊢
        simp only [h1, h2, h3, lack_nil, List.length_nil] at h ⊢
        by_cases h4 : t.lang = []
        · rw [h4] at h; exact absurd rfl h
        · rw [lack_pos h4]
      · rw [if_pos h3]
        unfold depth
        simp only [lack_nil, lack_pos h3]
        omega
    · rw [if_pos h2]
      unfold depth
      simp only [lack_nil, lack_pos h2]
      omega
  · rw [if_pos h1]
    have : 0 < t.vars.length := List.length_pos_iff.2 h1
    unfold depth
    simp only [List.length_take]
    omega
theorem depth_zero {t : Tg} (h : depth t = 0) (hk : t.keys = []) : t = Tg.zero := by
  unfold depth at h
  have h1 : t.vars = [] := List.length_eq_zero_iff.1 (by omega)
  have h2 : t.region = [] := by by_cases e : t.region = []; · exact e
                                · rw [lack_pos e] at h; omega
  have h3 : t.script = [] := by by_cases e : t.script = []; · exact e
                                · rw [lack_pos e] at h; omega
  have h4 : t.lang = [] := by by_cases e : t.lang = []; · exact e
                              · rw [lack_pos e] at h; omega
  cases t
  simp only at *
  subst h1; subst h2; subst h3; subst h4; subst hk; rfl
theorem depth_le {s : Str} (h : namedB s = true) : depthS s ≤ 11 := by
  have := (named_facts h).2.1.vars
  have hl : ∀ x : Str, lack x ≤ 1 := fun x => by unfold lack; split <;> omega
  have h1 := hl (tagOf s).region
  have h2 := hl (tagOf s).script
  have h3 := hl (tagOf s).lang
  unfold depthS depth
  omega
theorem root_name : nameOf (writeF (bareT Tg.zero)) = tRoot := by decide
theorem named_root : namedB tRoot = true := by rw [← root_name]; exact good_named _ Good.zero
theorem depth_root {s : Str} (h : namedB s = true) (hd : depthS s = 0) : s = tRoot := by
  obtain ⟨_, _, hk, hn⟩ := named_facts h
  rw [depth_zero hd hk] at hn
  rw [← hn]; exact root_name
theorem root_depth : depthS tRoot = 0 := by
  have h := good_nameRead _ Good.zero
  rw [root_name] at h
  unfold depthS tagOf
  rw [h]; rfl
/-- the plain parent of a name other than root is a name, one step nearer to root -/
theorem plain_ok {s : Str} (h : namedB s = true) (hr : s ≠ tRoot) : ∃ p, plainF s = (p, true) ∧ namedB p = true ∧ depthS p + 1 = depthS s := by
  obtain ⟨_, hg, hk, hn⟩ := named_facts h
  obtain ⟨hg2, hk2⟩ := good_plainT hg hk
  refine ⟨nameOf (writeF (bareT (plainT (tagOf s)))), ?_, good_named _ hg2, ?_⟩
  · unfold plainF
    rw [if_pos ⟨h, hr⟩, good_name _ hg2]; rfl
  · have hq : tagOf (nameOf (writeF (bareT (plainT (tagOf s))))) = bareT (plainT (tagOf s)) := congrArg Res.tag (good_nameRead _ hg2)
    unfold depthS
    rw [hq]
    have hd : depth (tagOf s) ≠ 0 := fun e => hr (depth_root h e)
    have := depth_plainT hd
    rw [← this]; rfl
theorem plain_no {s : Str} (h : ¬ (namedB s = true ∧ s ≠ tRoot)) : plainF s = ([], false) := by unfold plainF; rw [if_neg h]

/-- what is said of a locale -/
def look : List (Str × Str) → Str → Option Str
  | [], _ => none
  | p :: l, k => if p.1 = k then some p.2 else look l k
theorem look_mem {l : List (Str × Str)} {k v : Str} (h : look l k = some v) : (k, v) ∈ l := by
  induction l with
  | nil => cases h
  | cons p l ih =>
    unfold look at h
    split at h
    · rename_i hk
      subst hk
      cases h
      exact List.mem_cons_self
    · exact List.mem_cons_of_mem _ (ih h)
theorem look_append (l m : List (Str × Str)) (k : Str) : look (l ++ m) k = (look l k).or (look m k) := by
  induction l with
  | nil => simp [look]
  | cons p l ih => rw [List.cons_append, look, look]; split <;> simp_all
theorem look_none {l : List (Str × Str)} {k : Str} : look l k = none ↔ ∀ p ∈ l, p.1 ≠ k := by
  induction l with
  | nil => simp [look]
  | cons p l ih => rw [look]; split <;> simp_all
/-- a locale's parent -/
def parentF (D : List (Str × Str)) (s : Str) : Str × Bool := match look D s with
  | some p => (p, true)
  | none => plainF s
def stepF (D : List (Str × Str)) (s : Str) : Option Str := if (parentF D s).2 = true then some (parentF D s).1 else none
def iter (D : List (Str × Str)) : Nat → Str → Option Str
  | 0, s => some s
  | n + 1, s => (iter D n s).bind (stepF D)
theorem iter_add (D : List (Str × Str)) (m n : Nat) (s : Str) : iter D (m + n) s = (iter D m s).bind (iter D n) := by
  induction n with
  | zero => simp [iter]
  | succ n ih => rw [← Nat.add_assoc, iter, ih]; cases iter D m s <;> simp [iter]

/-- what may be said: names, of none but root, each once -/
def saidOK (D : List (Str × Str)) : Prop := ∀ p ∈ D, namedB p.1 = true ∧ namedB p.2 = true ∧ p.1 ≠ tRoot
theorem step_named {D : List (Str × Str)} (hD : saidOK D) {s t : Str} (h : stepF D s = some t) : namedB t = true := by
  unfold stepF parentF at h
  cases hl : look D s with
  | some p => rw [hl] at h; simp at h; subst h; exact (hD _ (look_mem hl)).2.1
  | none =>
    rw [hl] at h
    simp only at h
    by_cases hp : namedB s = true ∧ s ≠ tRoot
    · obtain ⟨p, h1, h2, _⟩ := plain_ok hp.1 hp.2
      rw [h1] at h
      simp at h
      subst h; exact h2
    · rw [plain_no hp] at h; simp at h
theorem step_some {D : List (Str × Str)} (hD : saidOK D) {s : Str} (h : namedB s = true) (hr : s ≠ tRoot) : ∃ t, stepF D s = some t := by
  unfold stepF parentF
  cases hl : look D s with
  | some p => exact ⟨p, rfl⟩
  | none =>
    obtain ⟨p, h1, _⟩ := plain_ok h hr
    exact ⟨p, by simp only; rw [h1]; rfl⟩
theorem step_root {D : List (Str × Str)} (hD : saidOK D) : stepF D tRoot = none := by
  unfold stepF parentF
  have : look D tRoot = none := look_none.2 fun p hp => (hD p hp).2.2
  rw [this]
  simp only
  rw [plain_no (fun h => h.2 rfl)]
  rfl
theorem step_depth {D : List (Str × Str)} {s t : Str} (hl : look D s = none) (h : stepF D s = some t) : depthS t + 1 = depthS s := by
  unfold stepF parentF at h
  rw [hl] at h
  simp only at h
  by_cases hp : namedB s = true ∧ s ≠ tRoot
  · obtain ⟨p, h1, _, h3⟩ := plain_ok hp.1 hp.2
    rw [h1] at h
    simp at h
    subst h; exact h3
  · rw [plain_no hp] at h; simp at h

/-- the plain parents from a name on -/
def tower : Nat → Str → List Str
  | 0, s => [s]
  | n + 1, s => s :: (if (plainF s).2 = true then tower n (plainF s).1 else [])
theorem tower_self (n : Nat) (s : Str) : s ∈ tower n s := by cases n <;> simp [tower]
theorem tower_len : ∀ (n : Nat) (s : Str), (tower n s).length ≤ n + 1
  | 0, s => by simp [tower]
  | n + 1, s => by
    rw [tower, List.length_cons]
    split
    · have := tower_len n (plainF s).1; omega
    · simp
theorem tower_step : ∀ (n : Nat) (s x : Str), namedB s = true → depthS s ≤ n → x ∈ tower n s → (plainF x).2 = true → (plainF x).1 ∈ tower n s
  | 0, s, x, hs, hd, hx, hp => by
    simp [tower] at hx
    subst hx
    rw [plain_no (fun h => h.2 (depth_root hs (by omega)))] at hp
    cases hp
  | n + 1, s, x, hs, hd, hx, hp => by
    rw [tower] at hx ⊢
    by_cases h : namedB s = true ∧ s ≠ tRoot
    · obtain ⟨p, h1, h2, h3⟩ := plain_ok h.1 h.2
      rw [h1] at hx ⊢
      simp only [if_true] at hx ⊢
      rcases List.mem_cons.1 hx with rfl | hx
      · rw [h1]; exact List.mem_cons_of_mem _ (tower_self _ _)
      · exact List.mem_cons_of_mem _ (tower_step n p x h2 (by omega) hx hp)
    · rw [plain_no h] at hx ⊢
      simp at hx
      subst hx
      rw [plain_no h] at hp
      cases hp
/-- all that can stand in a row from s on -/
def reach (D : List (Str × Str)) (s : Str) : List Str := (s :: D.map (·.2)).flatMap (tower 11)
theorem reach_len (D : List (Str × Str)) (s : Str) : (reach D s).length ≤ 12 * (D.length + 1) := by
  unfold reach
  have h : ∀ l : List Str, (l.flatMap (tower 11)).length ≤ 12 * l.length := by
    intro l
    induction l with
    | nil => simp
    | cons x l ih => rw [List.flatMap_cons, List.length_append, List.length_cons]; have := tower_len 11 x; omega
  have := h (s :: D.map (·.2))
  simpa using this
theorem reach_self (D : List (Str × Str)) (s : Str) : s ∈ reach D s := by
  unfold reach; rw [List.flatMap_cons]; exact List.mem_append_left _ (tower_self _ _)
theorem reach_step {D : List (Str × Str)} (hD : saidOK D) {s x y : Str} (hs : namedB s = true) (hx : x ∈ reach D s) (h : stepF D x = some y) : y ∈ reach D s := by
  unfold reach at hx ⊢
  unfold stepF parentF at h
  cases hl : look D x with
  | some p =>
    rw [hl] at h
    simp at h
    subst h
    refine List.mem_flatMap.2 ⟨p, List.mem_cons_of_mem _ (List.mem_map.2 ⟨_, look_mem hl, rfl⟩), tower_self _ _⟩
  | none =>
    rw [hl] at h
    simp only at h
    split at h
    · rename_i hp
      cases h
      obtain ⟨z, hz, hx2⟩ := List.mem_flatMap.1 hx
      have hzn : namedB z = true := by
        rcases List.mem_cons.1 hz with rfl | hz
        · exact hs
        · obtain ⟨q, hq, rfl⟩ := List.mem_map.1 hz
          exact (hD q hq).2.1
      exact List.mem_flatMap.2 ⟨z, hz, tower_step 11 z x hzn (depth_le hzn) hx2 hp⟩
    · cases h
theorem iter_reach {D : List (Str × Str)} (hD : saidOK D) {s : Str} (hs : namedB s = true) : ∀ (n : Nat) (x : Str), iter D n s = some x → x ∈ reach D s
  | 0, x, h => by cases h; exact reach_self D s
  | n + 1, x, h => by
    rw [iter, Option.bind_eq_some_iff] at h
    obtain ⟨y, h1, h2⟩ := h
    exact reach_step hD hs (iter_reach hD hs n y h1) h2
theorem iter_named {D : List (Str × Str)} (hD : saidOK D) {s : Str} (hs : namedB s = true) : ∀ (n : Nat) (x : Str), iter D n s = some x → namedB x = true
  | 0, x, h => by cases h; exact hs
  | n + 1, x, h => by
    rw [iter, Option.bind_eq_some_iff] at h
    obtain ⟨y, h1, h2⟩ := h
    exact step_named hD h2

theorem nodup_le : ∀ (l R : List Str), l.Nodup → (∀ x ∈ l, x ∈ R) → l.length ≤ R.length
  | [], R, _, _ => Nat.zero_le _
  | x :: l, R, hn, hs => by
    rw [List.nodup_cons] at hn
    have hx := hs x List.mem_cons_self
    have h2 := nodup_le l (R.erase x) hn.2 fun y hy => (List.mem_erase_of_ne (fun e => hn.1 (by rw [← e]; exact hy))).2 (hs y (List.mem_cons_of_mem _ hy))
    rw [List.length_erase_of_mem hx] at h2
    have : 0 < R.length := List.length_pos_of_mem hx
    rw [List.length_cons]; omega
/-- a row that does not end comes to something twice -/
theorem twice (f : Nat → Str) (R : List Str) (h : ∀ n, f n ∈ R) : ∃ i p, f (i + (p + 1)) = f i := by
  by_cases hc : ((List.range (R.length + 1)).map f).Nodup
  · have := nodup_le _ R hc (fun x hx => by obtain ⟨i, _, rfl⟩ := List.mem_map.1 hx; exact h i)
    simp at this
    omega
  · by_cases hall : ∀ i j, i < j → f j ≠ f i
    · exfalso
      apply hc
      have : List.Pairwise (fun a b : Nat => a < b) (List.range (R.length + 1)) := List.pairwise_lt_range
      exact List.Pairwise.map f (fun a b hab => Ne.symm (hall a b hab)) this
    · have : ∃ i j, i < j ∧ f j = f i := by
        apply Classical.byContradiction
        intro hn
        exact hall fun i j hij he => hn ⟨i, j, hij, he⟩
      obtain ⟨i, j, hij, he⟩ := this
      exact ⟨i, j - i - 1, by rw [show i + (j - i - 1 + 1) = j by omega]; exact he⟩
/-- a locale that comes again in the row that goes up from it -/
def ringP (D : List (Str × Str)) (k : Str) : Prop := ∃ n, iter D (n + 1) k = some k
theorem ends {D : List (Str × Str)} (hD : saidOK D) (hr : ∀ p ∈ D, ¬ ringP D p.1) {s : Str} (hs : namedB s = true) : ∃ n, iter D n s = some tRoot := by
  apply Classical.byContradiction
  intro hn
  have hno : ∀ n, iter D n s ≠ some tRoot := fun n e => hn ⟨n, e⟩
  have hall : ∀ n, ∃ x, iter D n s = some x := by
    intro n
    induction n with
    | zero => exact ⟨s, rfl⟩
    | succ n ih =>
      obtain ⟨x, hx⟩ := ih
      have hxr : x ≠ tRoot := fun e => hno n (by rw [hx, e])
      obtain ⟨t, ht⟩ := step_some hD (iter_named hD hs n x hx) hxr
      exact ⟨t, by rw [iter, hx]; exact ht⟩
  obtain ⟨f, hf⟩ : ∃ f : Nat → Str, ∀ n, iter D n s = some (f n) := ⟨fun n => (hall n).choose, fun n => (hall n).choose_spec⟩
  obtain ⟨i, p, hip⟩ := twice f (reach D s) (fun n => iter_reach hD hs n _ (hf n))
  have hgo : ∀ m n, iter D n (f m) = some (f (m + n)) := fun m n => by
    have := iter_add D m n s
    rw [hf, hf] at this
    exact this.symm
  by_cases hc : ∃ q v, look D (f (i + q)) = some v
  · obtain ⟨q, v, hq⟩ := hc
    refine hr _ (look_mem hq) ⟨p, ?_⟩
    show iter D (p + 1) (f (i + q)) = some (f (i + q))
    rw [hgo]
    have h1 := hgo (i + (p + 1)) q
    rw [hip, hgo] at h1
    rw [show i + q + (p + 1) = i + (p + 1) + q by omega]
    exact h1.symm
  · have hlook : ∀ q, look D (f (i + q)) = none := by
      intro q
      cases h : look D (f (i + q)) with
      | none => rfl
      | some v => exact absurd ⟨q, v, h⟩ hc
    have hd : ∀ q, depthS (f (i + q)) + q = depthS (f i) := by
      intro q
      induction q with
      | zero => rfl
      | succ q ih =>
        have h1 := hgo (i + q) 1
        have h2 : stepF D (f (i + q)) = some (f (i + q + 1)) := by simpa [iter] using h1
        have h3 := step_depth (hlook q) h2
        have h4 : depthS (f (i + (q + 1))) = depthS (f (i + q + 1)) := rfl
        omega
    have := hd (p + 1)
    rw [hip] at this
    omega

/-- l is the row that goes up from s to root -/
def Up (D : List (Str × Str)) : Str → List Str → Prop
  | _, [] => False
  | s, [x] => x = s ∧ s = tRoot
  | s, x :: y :: l => x = s ∧ s ≠ tRoot ∧ stepF D s = some y ∧ Up D y (y :: l)
theorem up_root (D : List (Str × Str)) : Up D tRoot [tRoot] := ⟨rfl, rfl⟩
theorem up_head {D : List (Str × Str)} : ∀ {l : List Str} {s : Str}, Up D s l → ∃ r, l = s :: r
  | [], _, h => h.elim
  | [x], s, h => ⟨[], by rw [h.1]⟩
  | x :: y :: l, s, h => ⟨y :: l, by rw [h.1]⟩
theorem up_cons {D : List (Str × Str)} {s t : Str} {l : List Str} (hr : s ≠ tRoot) (h : stepF D s = some t) (hl : Up D t l) : Up D s (s :: l) := by
  obtain ⟨r, rfl⟩ := up_head hl
  exact ⟨rfl, hr, h, hl⟩
theorem up_of_iter {D : List (Str × Str)} (hD : saidOK D) : ∀ (n : Nat) (s : Str), iter D n s = some tRoot → ∃ l, Up D s l
  | 0, s, h => by cases h; exact ⟨_, up_root D⟩
  | n + 1, s, h => by
    by_cases hr : s = tRoot
    · subst hr; exact ⟨_, up_root D⟩
    · rw [show n + 1 = 1 + n by omega, iter_add, Option.bind_eq_some_iff] at h
      obtain ⟨t, h1, h2⟩ := h
      obtain ⟨l, hl⟩ := up_of_iter hD n t h2
      exact ⟨_, up_cons hr (by simpa [iter] using h1) hl⟩
theorem up_ex {D : List (Str × Str)} (hD : saidOK D) (hr : ∀ p ∈ D, ¬ ringP D p.1) {s : Str} (hs : namedB s = true) : ∃ l, Up D s l := by
  obtain ⟨n, hn⟩ := ends hD hr hs
  exact up_of_iter hD n s hn
theorem up_one {D : List (Str × Str)} : ∀ {l m : List Str} {s : Str}, Up D s l → Up D s m → l = m
  | [], _, _, h, _ => h.elim
  | [x], m, s, h, h2 => by
    match m, h2 with
    | [y], h2 => rw [h.1, h2.1]
    | y :: z :: m, h2 => exact absurd h.2 h2.2.1
  | x :: y :: l, m, s, h, h2 => by
    match m, h2 with
    | [z], h2 => exact absurd h2.2 h.2.1
    | z :: u :: m, h2 =>
      have h3 := h.2.2.1
      rw [h2.2.2.1] at h3
      cases h3
      rw [h.1, h2.1, up_one h.2.2.2 h2.2.2.2]
theorem up_drop {D : List (Str × Str)} : ∀ {l : List Str} {s : Str} (i : Nat) (hi : i < l.length), Up D s l → Up D l[i] (l.drop i)
  | [], _, _, hi, h => h.elim
  | [x], s, 0, hi, h => by simpa [h.1] using h
  | [x], s, i + 1, hi, h => by simp at hi
  | x :: y :: l, s, 0, hi, h => by
    have := h.1
    subst this
    exact h
  | x :: y :: l, s, i + 1, hi, h => by
    have := up_drop i (by simpa using hi) h.2.2.2
    simpa using this
theorem up_last {D : List (Str × Str)} : ∀ {l : List Str} {s : Str}, Up D s l → ∃ r, l = r ++ [tRoot]
  | [], _, h => h.elim
  | [x], s, h => ⟨[], by rw [h.1, h.2]; rfl⟩
  | x :: y :: l, s, h => by
    obtain ⟨r, hr⟩ := up_last h.2.2.2
    exact ⟨x :: r, by rw [hr]; rfl⟩
theorem up_named {D : List (Str × Str)} (hD : saidOK D) : ∀ {l : List Str} {s : Str}, namedB s = true → Up D s l → ∀ x ∈ l, namedB x = true
  | [], _, _, h, _, _ => h.elim
  | [x], s, hs, h, z, hz => by
    have := h.1
    subst this
    rw [List.mem_singleton.1 hz]; exact hs
  | x :: y :: l, s, hs, h, z, hz => by
    have := h.1
    subst this
    rcases List.mem_cons.1 hz with rfl | hz
    · exact hs
    · exact up_named hD (step_named hD h.2.2.1) h.2.2.2 z hz
theorem up_nodup {D : List (Str × Str)} {l : List Str} {s : Str} (h : Up D s l) : ∀ i j, (hj : j < l.length) → (hij : i < j) → l[i] ≠ l[j] := by
  intro i j hj hij he
  have h1 := up_drop i (by omega) h
  have h2 := up_drop j hj h
  rw [he] at h1
  have h3 := congrArg List.length (up_one h1 h2)
  simp only [List.length_drop] at h3
  omega
/-- the row is the same where the steps are -/
theorem up_same {D E : List (Str × Str)} (hst : ∀ s, stepF D s = stepF E s) : ∀ {l : List Str} {s : Str}, Up D s l → Up E s l
  | [], _, h => h.elim
  | [x], s, h => h
  | x :: y :: l, s, h => ⟨h.1, h.2.1, by rw [← hst]; exact h.2.2.1, up_same hst h.2.2.2⟩
theorem iter_same {D E : List (Str × Str)} (hst : ∀ s, stepF D s = stepF E s) (n : Nat) (s : Str) : iter D n s = iter E n s := by
  induction n with
  | zero => rfl
  | succ n ih => rw [iter, iter, ih, show stepF D = stepF E from funext hst]
/-- where a row ends there is no ring -/
theorem iter_root {D : List (Str × Str)} (hD : saidOK D) (n : Nat) : iter D (n + 1) tRoot = none := by
  rw [show n + 1 = 1 + n by omega, iter_add]
  simp [iter, step_root hD]
theorem no_ring {D : List (Str × Str)} (hD : saidOK D) {s : Str} {n : Nat} (h : iter D n s = some tRoot) : ¬ ringP D s := by
  rintro ⟨p, hp⟩
  have hm : ∀ k, iter D (k * (p + 1)) s = some s := by
    intro k
    induction k with
    | zero => rw [Nat.zero_mul]; rfl
    | succ k ih => rw [Nat.succ_mul, iter_add, ih]; exact hp
  have h1 := hm (n + 1)
  have h2 : (n + 1) * (p + 1) = n + (n * p + p + 1) := by rw [Nat.add_mul, Nat.mul_add]; omega
  rw [h2, iter_add, h] at h1
  simp only [Option.bind_some] at h1
  rw [iter_root hD (n * p + p)] at h1
  cases h1

/-- the first thing that is wrong with what is said, and where: 2, no name or root; 211, said already -/
def badAt (done : List (Str × Str)) : List (Str × Str) → Option (Nat × Nat)
  | [] => none
  | p :: r => if (namedB p.1 = true ∧ namedB p.2 = true) ∧ p.1 ≠ tRoot then (if look done p.1 = none then badAt (done ++ [p]) r else some (211, done.length)) else some (2, done.length)
theorem bad_none {done r : List (Str × Str)} (h : badAt done r = none) (hd : saidOK done) : saidOK (done ++ r) := by
  induction r generalizing done with
  | nil => rw [List.append_nil]; exact hd
  | cons p r ih =>
    unfold badAt at h
    split at h
    · rename_i hp
      split at h
      · have := ih h (fun q hq => by
          rcases List.mem_append.1 hq with hq | hq
          · exact hd q hq
          · rw [List.mem_singleton.1 hq]; exact ⟨hp.1.1, hp.1.2, hp.2⟩)
        rw [List.append_assoc] at this
        exact this
      · cases h
    · cases h
/-- what chain.New says of a list -/
def NewOut (l : List (Str × Str)) (e i : Nat) : Prop :=
  (badAt [] l = some (e, i)) ∨ (badAt [] l = none ∧ e = 210 ∧ (∃ p, l[i]? = some p ∧ ringP l p.1) ∧ ∀ j p, j < i → l[j]? = some p → ¬ ringP l p.1) ∨ (badAt [] l = none ∧ e = 0 ∧ i = 0 ∧ ∀ p ∈ l, ¬ ringP l p.1)
end Go.Proofs.YtffaoejahnildaaGreat
