/- The chain that the law's wakes asks for, in plain. -/
import Derived.Test.YtffaoejahnildaaGreatChainP
set_option linter.unusedVariables false
set_option linter.unusedSimpArgs false
namespace Go.Proofs.YtffaoejahnildaaGreat

def enAU : Str := [101, 110, 45, 65, 85]
def en001 : Str := [101, 110, 45, 48, 48, 49]
def enS : Str := [101, 110]
def tAU : Tg := ⟨[101, 110], [], [65, 85], [], []⟩
def t001 : Tg := ⟨[101, 110], [], [48, 48, 49], [], []⟩
def tEn : Tg := ⟨[101, 110], [], [], [], []⟩
def wkD : List (Str × Str) := [(enAU, en001)]
theorem wk_good (l r : Str) (hl : isLang l = true ∧ lower l = l ∧ l ≠ tUnd) (hr : r = [] ∨ (isRegion r = true ∧ upper r = r)) (hs : sz (partsR ⟨l, [], r, [], []⟩) ≤ 129) : Good ⟨l, [], r, [], []⟩ :=
  ⟨⟨Or.inr hl, Or.inl rfl, hr, VarsOK.nil, srtS_nil, KeysOK.nil, srtK_nil⟩, hs⟩
theorem good_AU : Good tAU := wk_good _ _ (by decide) (by decide) (by decide)
theorem good_001 : Good t001 := wk_good _ _ (by decide) (by decide) (by decide)
theorem good_En : Good tEn := wk_good _ _ (by decide) (by decide) (by decide)
theorem name_AU : nameOf (writeF (bareT tAU)) = enAU := by decide
theorem name_001 : nameOf (writeF (bareT t001)) = en001 := by decide
theorem name_En : nameOf (writeF (bareT tEn)) = enS := by decide
theorem nm_AU : namedB enAU = true := by rw [← name_AU]; exact good_named _ good_AU
theorem nm_001 : namedB en001 = true := by rw [← name_001]; exact good_named _ good_001
theorem nm_En : namedB enS = true := by rw [← name_En]; exact good_named _ good_En
theorem tg_001 : tagOf en001 = t001 := by have := good_nameRead _ good_001; rw [name_001] at this; unfold tagOf; rw [this]; rfl
theorem tg_En : tagOf enS = tEn := by have := good_nameRead _ good_En; rw [name_En] at this; unfold tagOf; rw [this]; rfl
theorem pl_001 : plainF en001 = (enS, true) := by
  unfold plainF
  rw [if_pos ⟨nm_001, by decide⟩, tg_001, show plainT t001 = tEn from rfl, good_name _ good_En, name_En]; rfl
theorem pl_En : plainF enS = (tRoot, true) := by
  unfold plainF
  rw [if_pos ⟨nm_En, by decide⟩, tg_En, show plainT tEn = Tg.zero from rfl, good_name _ Good.zero, root_name]; rfl
theorem st_AU : stepF wkD enAU = some en001 := by decide
theorem st_001 : stepF wkD en001 = some enS := by
  unfold stepF parentF
  rw [show look wkD en001 = none by decide]
  simp only
  rw [pl_001]; rfl
theorem st_En : stepF wkD enS = some tRoot := by
  unfold stepF parentF
  rw [show look wkD enS = none by decide]
  simp only
  rw [pl_En]; rfl
theorem wk_up : Up wkD enAU [enAU, en001, enS, tRoot] :=
  up_cons (by decide) st_AU (up_cons (by decide) st_001 (up_cons (by decide) st_En (up_root _)))
theorem wk_bad : badAt [] wkD = none := by
  show (if (namedB enAU = true ∧ namedB en001 = true) ∧ enAU ≠ tRoot then (if look [] enAU = none then badAt ([] ++ [(enAU, en001)]) [] else some (211, 0)) else some (2, 0)) = none
  rw [if_pos ⟨⟨nm_AU, nm_001⟩, by decide⟩]
  rfl
theorem wk_said : saidOK wkD := fun p hp => by
  rw [show p = (enAU, en001) from List.mem_singleton.1 hp]
  exact ⟨nm_AU, nm_001, by decide⟩
theorem wk_ring : ∀ p ∈ wkD, ¬ ringP wkD p.1 := fun p hp => by
  rw [show p = (enAU, en001) from List.mem_singleton.1 hp]
  refine no_ring wk_said (n := 3) ?_
  simp only [iter, Option.bind_some, st_AU, st_001, st_En]
theorem wk_new : NewOut wkD 0 0 := Or.inr (Or.inr ⟨wk_bad, rfl, rfl, wk_ring⟩)
end Go.Proofs.YtffaoejahnildaaGreat
