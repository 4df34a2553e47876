/- Capitals and signs change nothing of what tag.Parse computes: no program in sight. -/
import Derived.Test.YtjlfchnnhglbjaaGreatParseP
set_option linter.unusedVariables false
set_option linter.unusedSimpArgs false
namespace Go.Proofs.YtjlfchnnhglbjaaGreat

/-- a byte's class: an underline is a minus, a capital is small -/
def cls (c : UInt8) : UInt8 := if c = 95 then 45 else lowB c
theorem all_bytes {p : UInt8 → Prop} [DecidablePred p] (h : ∀ n : Fin 256, p (UInt8.ofNat n.val)) (c : UInt8) : p c := by
  have := h ⟨c.toNat, c.toNat_lt⟩
  simpa using this
theorem letB_cls (c : UInt8) : letB (cls c) = letB c := all_bytes (p := fun c => letB (cls c) = letB c) (by decide +kernel) c
theorem digB_cls (c : UInt8) : digB (cls c) = digB c := all_bytes (p := fun c => digB (cls c) = digB c) (by decide +kernel) c
theorem noSep_cls (c : UInt8) : noSep (cls c) = noSep c := all_bytes (p := fun c => noSep (cls c) = noSep c) (by decide +kernel) c
theorem noSep_low (c : UInt8) : noSep (lowB c) = noSep c := all_bytes (p := fun c => noSep (lowB c) = noSep c) (by decide +kernel) c
theorem lowB_cls (c : UInt8) : noSep c = true → lowB (cls c) = lowB c := all_bytes (p := fun c => noSep c = true → lowB (cls c) = lowB c) (by decide +kernel) c
theorem uppB_cls (c : UInt8) : noSep c = true → uppB (cls c) = uppB c := all_bytes (p := fun c => noSep c = true → uppB (cls c) = uppB c) (by decide +kernel) c

def clean (l : Str) : Prop := ∀ c ∈ l, noSep c = true
theorem lower_cls {l : Str} (h : clean l) : lower (l.map cls) = lower l := by
  unfold lower
  rw [List.map_map]
  exact List.map_congr_left fun c hc => lowB_cls c (h c hc)
theorem upper_cls {l : Str} (h : clean l) : upper (l.map cls) = upper l := by
  unfold upper
  rw [List.map_map]
  exact List.map_congr_left fun c hc => uppB_cls c (h c hc)
theorem title_cls {l : Str} (h : clean l) : title (l.map cls) = title l := by
  unfold title
  rw [← List.map_take, ← List.map_drop, upper_cls fun c hc => h c (List.mem_of_mem_take hc), lower_cls fun c hc => h c (List.mem_of_mem_drop hc)]
theorem all_cls (p : UInt8 → Bool) (hp : ∀ c, p (cls c) = p c) (l : Str) : (l.map cls).all p = l.all p := by
  rw [List.all_map]
  congr 1
  funext c
  exact hp c
theorem allB_cls (p : UInt8 → Bool) (hp : ∀ c, p (cls c) = p c) (l : Str) : allB p (l.map cls) = allB p l := by
  unfold allB
  rw [all_cls p hp]
  cases l <;> rfl
theorem mixedB_cls (l : Str) (a b : Nat) : mixedB (l.map cls) a b = mixedB l a b := by
  unfold mixedB
  rw [List.length_map, all_cls _ fun c => by rw [letB_cls, digB_cls]]
theorem isLang_cls (l : Str) : isLang (l.map cls) = isLang l := by unfold isLang; rw [allB_cls _ letB_cls, List.length_map]
theorem isScript_cls (l : Str) : isScript (l.map cls) = isScript l := by unfold isScript lettersB; rw [allB_cls _ letB_cls, List.length_map]
theorem isRegion_cls (l : Str) : isRegion (l.map cls) = isRegion l := by unfold isRegion lettersB; rw [allB_cls _ letB_cls, allB_cls _ digB_cls, List.length_map]
theorem isVariant_cls (l : Str) : isVariant (l.map cls) = isVariant l := by unfold isVariant; rw [mixedB_cls, mixedB_cls, ← List.map_take, allB_cls _ digB_cls]
theorem isKey_cls (l : Str) : isKey (l.map cls) = isKey l := by unfold isKey; rw [mixedB_cls, ← List.map_drop, allB_cls _ letB_cls]
theorem isType_cls (l : Str) : isType (l.map cls) = isType l := mixedB_cls l 3 8

def Rd.cl (r : Rd) : Rd := ⟨r.rest.map cls, r.pos, r.sub.map cls, r.fin⟩
theorem take_cls (l : Str) : (l.map cls).takeWhile noSep = (l.takeWhile noSep).map cls := by
  rw [List.takeWhile_map]
  congr 1
  congr 1
  funext c
  exact noSep_cls c
theorem drop_cls (l : Str) : (l.map cls).dropWhile noSep = (l.dropWhile noSep).map cls := by
  rw [List.dropWhile_map]
  congr 1
  congr 1
  funext c
  exact noSep_cls c
theorem next_cl (r : Rd) : r.cl.next = r.next.cl := by
  unfold Rd.next Rd.cl
  cases r.rest with
  | nil => simp
  | cons c l => simp [take_cls, drop_cls]
theorem first_cl (s : Str) : Rd.first (s.map cls) = (Rd.first s).cl := by
  unfold Rd.first Rd.cl
  by_cases h : s = []
  · simp [h]
  · simp [h, take_cls, drop_cls]
theorem clean_take (l : Str) : clean (l.takeWhile noSep) := by
  intro c hc
  induction l with
  | nil => simp at hc
  | cons a l ih =>
    rw [List.takeWhile_cons] at hc
    split at hc
    · rcases List.mem_cons.1 hc with rfl | h
      · assumption
      · exact ih h
    · simp at hc
theorem clean_next (r : Rd) : clean r.next.sub := by
  unfold Rd.next
  cases r.rest with
  | nil => intro c hc; simp at hc
  | cons c l => exact clean_take l
theorem clean_first (s : Str) : clean (Rd.first s).sub := by
  unfold Rd.first
  split
  · intro c hc; simp at hc
  · exact clean_take s

theorem types_cl : ∀ (n : Nat) (r : Rd) (acc : List Str), clean r.sub → types n r.cl acc = ((types n r acc).1, (types n r acc).2.cl) ∧ clean (types n r acc).2.sub
  | 0, r, acc, h => ⟨rfl, h⟩
  | n + 1, r, acc, h => by
    have hs : r.cl.sub = r.sub.map cls := rfl
    unfold types
    rw [hs, isType_cls, lower_cls h, next_cl]
    split
    · exact types_cl n r.next _ (clean_next r)
    · exact ⟨rfl, h⟩
theorem keysF_cl : ∀ (n : Nat) (t : Tg) (r : Rd), clean r.sub → keysF n t r.cl = keysF n t r
  | 0, t, r, h => rfl
  | n + 1, t, r, h => by
    have hs : r.cl.sub = r.sub.map cls := rfl
    have hf : r.cl.fin = r.fin := rfl
    have hb : ∀ e, bad e r.cl = bad e r := fun e => rfl
    obtain ⟨ht, hc⟩ := types_cl 130 r.next [] (clean_next r)
    unfold keysF
    rw [hs, hf, isKey_cls, lower_cls h, next_cl, ht, hb, hb, hb]
    simp only [keysF_cl n _ _ hc]
theorem tailF_cl (t : Tg) (r : Rd) (h : clean r.sub) : tailF t r.cl = tailF t r := by
  have hs : r.cl.sub = r.sub.map cls := rfl
  have hf : r.cl.fin = r.fin := rfl
  have hn : r.next.cl.sub = r.next.sub.map cls := rfl
  unfold tailF
  rw [hs, hf, lower_cls h, next_cl, hn, isKey_cls, keysF_cl _ _ _ (clean_next r)]
  rfl
theorem varsF_cl : ∀ (n : Nat) (t : Tg) (r : Rd), clean r.sub → varsF n t r.cl = varsF n t r
  | 0, t, r, h => rfl
  | n + 1, t, r, h => by
    have hs : r.cl.sub = r.sub.map cls := rfl
    have hb : ∀ e, bad e r.cl = bad e r := fun e => rfl
    unfold varsF
    rw [hs, isVariant_cls, lower_cls h, next_cl, hb, hb, varsF_cl n _ _ (clean_next r), tailF_cl _ _ h]
theorem regionF_cl (t : Tg) (r : Rd) (h : clean r.sub) : regionF t r.cl = regionF t r := by
  have hs : r.cl.sub = r.sub.map cls := rfl
  unfold regionF
  rw [hs, isRegion_cls, upper_cls h, next_cl, varsF_cl _ _ _ (clean_next r), varsF_cl _ _ _ h]
theorem scriptF_cl (t : Tg) (r : Rd) (h : clean r.sub) : scriptF t r.cl = scriptF t r := by
  have hs : r.cl.sub = r.sub.map cls := rfl
  unfold scriptF
  rw [hs, isScript_cls, title_cls h, next_cl, regionF_cl _ _ (clean_next r), regionF_cl _ _ h]
theorem clean_low {s t : Str} (h : lower s = t) (ht : clean t) : clean s := by
  intro c hc
  rw [← noSep_low]
  exact ht _ (h ▸ List.mem_map_of_mem hc)
theorem clean_map {s : Str} (h : clean (s.map cls)) : clean s := by
  intro c hc
  rw [← noSep_cls]
  exact h _ (List.mem_map_of_mem hc)
theorem clean_root : clean tRoot := by
  intro c hc
  have : tRoot.all noSep = true := by decide +kernel
  exact List.all_eq_true.1 this c hc
theorem root_cls (s : Str) : (lower (s.map cls) = tRoot) = (lower s = tRoot) := by
  apply propext
  constructor
  · intro h
    rw [← lower_cls (clean_map (clean_low h clean_root))]; exact h
  · intro h
    rw [lower_cls (clean_low h clean_root)]; exact h
/-- a text is read as its class -/
theorem parse_cls (s : Str) : parseF (s.map cls) = parseF s := by
  have hs : (Rd.first s).cl.sub = (Rd.first s).sub.map cls := rfl
  have hb : ∀ e, bad e (Rd.first s).cl = bad e (Rd.first s) := fun e => rfl
  unfold parseF
  simp only [List.length_map, root_cls, first_cl, hs, isLang_cls, hb, next_cl, scriptF_cl _ _ (clean_next _)]
  unfold langOf
  rw [lower_cls (clean_first s)]
theorem parse_same {s s' : Str} (h : s.map cls = s'.map cls) : parseF s = parseF s' := by rw [← parse_cls s, ← parse_cls s', h]
end Go.Proofs.YtjlfchnnhglbjaaGreat
