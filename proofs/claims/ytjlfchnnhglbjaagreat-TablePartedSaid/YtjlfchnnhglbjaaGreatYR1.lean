/- RefLow, RefKinds, RefList -/
import Derived.Test.YtjlfchnnhglbjaaGreatYB1
import Derived.Test.YtjlfchnnhglbjaaGreatYB4
import Derived.Deep.RegionWith
import Derived.Deep.LoopGhost
import Derived.Test.YtjlfchnnhglbjaaGreatYB3
set_option linter.unusedVariables false
set_option linter.unusedSimpArgs false
namespace Go.Proofs.YtjlfchnnhglbjaaGreat
open Go.RowKit
end Go.Proofs.YtjlfchnnhglbjaaGreat
namespace Go.Proofs.YtjlfchnnhglbjaaGreat
open Go.RowKit
end Go.Proofs.YtjlfchnnhglbjaaGreat
namespace Go.Proofs.YtjlfchnnhglbjaaGreat
open Go.RowKit Go.Lib Go.Sort
theorem cell_two_new (w : World) (a b : Value) (e : TypeId) (j : Nat) (u : Value) (h : [a, b][j]? = some u) : (w.alloc (.cells #[a, b] e)).cell? ((⟨w.heap.size, 0, none⟩ : Addr).add j) = some u := by
 have hr := heap_alloc_new w (.cells #[a, b] e)
 have hx := cell_of_row _ _ j _ _ _ hr
 have hadd : ((⟨w.heap.size, 0, none⟩ : Addr).add j) = ⟨w.heap.size, j, none⟩ := by
  unfold Addr.add
  split
  ·next e => subst e; rfl
  ·simp
 rw [hadd, hx]
 match j, h with
 | 0, h => simpa using h
 | 1, h => simpa using h
theorem wpList_pushP {w : World} {ops : Array Oper} {rest : List Oper} {o : Oper} {a : Act} {Q : Exit → Act → World → Prop} (hgd : o.guard = none) (s x : Operand)
  (ho : o.op = .call { callee := .builtin .append, args := #[s, x], argTypes := #[43, 43] })
  (B : Nat) (v : Value) (l : List (Str × Str)) (y : Str × Str) (hs : a.eval s = v) (hown : OwnP w B v l) (hx : a.eval x = .slice (some ⟨w.heap.size, 0, none⟩) 1 1) (hl : l.length ≤ 1000000) (hB : B ≤ w.heap.size)
  (h : ∀ v' w', OwnP w' B v' (l ++ [y]) → w.grownBy w' v.ownBlock → Moved w v v' → wpList Tryz.prog ops Q rest (a.put o.dst v') w') :
  wpList Tryz.prog ops Q (o :: rest) a (w.alloc (.cells #[.string ⟨y.1.toArray⟩, .string ⟨y.2.toArray⟩] 48)) := by
 obtain ⟨i0, hi, hz0, hz1, hz2⟩ := info_parts infoP
 refine wpList_app hgd s x 43 ho B 48 i0 (.agg #[.string ⟨#[]⟩, .string ⟨#[]⟩]) 2 32 Tryz.underlying43 hi hz0 hz1 hz2 rfl (by decide) v l.length (flat2 l) hs (World.ownsRow.alloc hown _) ⟨w.heap.size, 0, none⟩ 1 1 [.string ⟨y.1.toArray⟩, .string ⟨y.2.toArray⟩] hx rfl (cell_two_new _ _ _ _) (fun u hu => by simp at hu; rcases hu with rfl | rfl <;> rfl) (by unfold maxLen; omega) (by omega) (by simp; omega) ?_
 intro v' w' own gr mv
 refine h v' w' (own_cast own (by simp) (by simp [flat2, enc2, S])) ⟨gr.os, gr.tape, gr.output, Nat.le_trans (by simp) gr.size, fun k hk hne => ?_⟩ ?_
 ·rw [gr.block k (by simp; omega) hne]; exact heap_alloc_old _ _ hk
 ·rcases mv with m | ⟨k, h1, h2⟩
  ·exact Or.inl m
  ·exact Or.inr ⟨k, h1, by simp at h2; omega⟩
end Go.Proofs.YtjlfchnnhglbjaaGreat
