/- A tag printed with its keywords turned about: no program in sight. -/
import Derived.Test.YtjgeoaaklneojaaCanonF
set_option linter.unusedVariables false
set_option linter.unusedSimpArgs false
namespace Go.Proofs.Ytjgeoaaklneojaa

theorem kuParts_nil : kuParts [] = [] := rfl
/-- the law's parts, joined -/
theorem order_join (t : Tg) (h : Good t) (hk : t.keys ≠ []) : Lib.join ([writeF (bareT t), [117]] ++ t.keys.reverse.flatMap pairParts) [45] = Lib.join (partsK t t.keys.reverse) [45] := by
  have h1 : writeF (bareT t) = headPart t.lang ++ jt (opt t.script ++ opt t.region ++ t.vars) := by
    rw [write_R _ h.bare.canon]
    show Lib.join (headPart t.lang :: (opt t.script ++ opt t.region ++ t.vars ++ kuParts [])) [45] = _
    rw [join_jt, kuParts_nil, List.append_nil]
  have h2 : t.keys.reverse ≠ [] := fun e => hk (by simpa using e)
  rw [List.cons_append, join_jt, h1]
  unfold partsK
  rw [join_jt, List.append_assoc]
  congr 1
  rw [jt_append (opt t.script ++ opt t.region ++ t.vars)]
  congr 1
  unfold kuParts uPart
  rw [if_neg h2, List.cons_append, List.nil_append, List.singleton_append, jt_cons, jt_cons, jt_pairs _ (fun p hp => h.canon.keys.2.1 p (List.mem_reverse.1 hp))]
theorem order_read (t : Tg) (h : Good t) (hk : t.keys ≠ []) : parseF (Lib.join ([writeF (bareT t), [117]] ++ t.keys.reverse.flatMap pairParts) [45]) = ⟨t, 0, 0⟩ := by
  rw [order_join t h hk]
  exact good_read t h _ (List.reverse_perm _)
theorem order_len (t : Tg) (h : Good t) (hk : t.keys ≠ []) : (Lib.join ([writeF (bareT t), [117]] ++ t.keys.reverse.flatMap pairParts) [45]).length ≤ 128 := by
  rw [order_join t h hk]
  have h5 := join_sz (headPart t.lang) (opt t.script ++ opt t.region ++ t.vars ++ kuParts t.keys.reverse)
  have h6 := h.short
  unfold partsR at h6
  unfold partsK
  rw [sz_cons, sz_append, sz_ku_perm (List.reverse_perm t.keys)] at h5
  rw [sz_cons, sz_append] at h6
  omega
theorem rev_get (ks : List (Str × Str)) (n : Nat) (h : n < ks.length) (k : Str) (v : Str) (hp : ks[ks.length - 1 - n]'(by omega) = (k, v)) : (ks.reverse.take (n + 1)).flatMap pairParts = (ks.reverse.take n).flatMap pairParts ++ pairParts (k, v) := by
  have hr : n < ks.reverse.length := by simpa using h
  have e : ks.reverse[n] = (k, v) := by rw [List.getElem_reverse]; exact hp
  rw [List.take_add_one, List.flatMap_append, List.getElem?_eq_getElem hr, e]
  simp
theorem len_pairs_le (k : List (Str × Str)) : (k.flatMap pairParts).length ≤ 2 * k.length := by
  induction k with
  | nil => simp
  | cons a k ih =>
    simp only [List.flatMap_cons, List.length_append, List.length_cons]
    have : (pairParts a).length ≤ 2 := by unfold pairParts; split <;> simp
    omega
end Go.Proofs.Ytjgeoaaklneojaa
