/- AlChk, AlNew, PtFind -/
import Derived.Test.YtbbmdbolkicpcaaGreatDoorILG16
import Derived.BigQuiet
import Derived.Test.YtbbmdbolkicpcaaGreatDoorILG15
import Derived.Test.YtbbmdbolkicpcaaGreatDoorILG12
set_option maxRecDepth 100000
set_option maxHeartbeats 32000000
set_option linter.unusedVariables false
set_option linter.unusedSimpArgs false
namespace Go.Proofs.YtbbmdbolkicpcaaGreatDoor
section
open Go.RowKit Go.Lib
def LL (listed:Array Bool)(j:Nat):Prop:=listed.getD j true=true
theorem LL.of {listed:Array Bool}{j:Nat}(h:listed.getD j false=true):LL listed j:=by
 unfold LL;rw [Array.getD_eq_getD_getElem?] at h ⊢
 cases e:listed[j]? with
 | none=>rfl
 | some b=>rw [e] at h;exact h
theorem LL.set {listed:Array Bool}{i j:Nat}(h:LL (listed.setIfInBounds i true) j):j=i∨LL listed j:=by
 by_cases e:j=i
 ·exact Or.inl e
 ·refine Or.inr ?_;unfold LL at h ⊢;rw [Array.getD_eq_getD_getElem?,Array.getElem?_setIfInBounds_ne (Ne.symm e),← Array.getD_eq_getD_getElem?] at h;exact h
theorem LL.mono {listed:Array Bool}{i j:Nat}(h:LL listed j):LL (listed.setIfInBounds i true) j:=by
 unfold LL at h ⊢;rw [Array.getD_eq_getD_getElem?] at h ⊢
 by_cases e:i=j
 ·subst e
  by_cases hs:i<listed.size
  ·rw [Array.getElem?_setIfInBounds_self_of_lt hs];rfl
  ·rw [Array.getElem?_eq_none (by simpa using hs)];rfl
 ·rw [Array.getElem?_setIfInBounds_ne e];exact h
theorem LLno {n j:Nat}(h:j<n):¬ LL (Array.replicate n false) j:=by
 unfold LL;rw [Array.getD_eq_getD_getElem?,Array.getElem?_replicate,if_pos h]
 simp
def upd (f:Nat→Value)(d:Nat)(v:Value):Nat→Value:=fun k=>if k=d then v else f k
structure ChkI (w2:World)(yb:Nat)(yk yv:Str)(listed:Array Bool)(f:Nat→Value)(W:World):Prop where
 b:Below w2.heap.size w2 W
 l0:LL listed 0→f 23=.pointer (some ⟨yb,0,none⟩)
 l1:LL listed 1→f 24=.string ⟨yk.toArray⟩
 l2:LL listed 2→∃ (e:Nat) (x:Int),f 25=.agg #[.int .i64 e,.int .i64 x]∧(e=0↔Qm yk=true)
 l3:LL listed 3→f 26=.pointer (some ⟨yb,1,none⟩)
 l4:LL listed 4→f 27=.string ⟨yv.toArray⟩
 l5:LL listed 5→∃ (e:Nat) (x:Int),f 28=.agg #[.int .i64 e,.int .i64 x]∧(e=0↔Qm yv=true)
 l6:LL listed 6→∃ b z0 z1,f 6=.pointer (some ⟨b,0,none⟩)∧W.heap[b]?=some (.cells #[z0,z1] 77 (0,0))∧w2.heap.size≤b
 l7:LL listed 7→∃ b z0 z1,f 7=.pointer (some ⟨b,0,none⟩)∧W.heap[b]?=some (.cells #[z0,z1] 77 (0,0))∧w2.heap.size≤b
 l67:LL listed 6→LL listed 7→f 6≠f 7
 l8:LL listed 8→LL listed 6∧∃ (b e:Nat) (x:Int),f 6=.pointer (some ⟨b,0,none⟩)∧W.heap[b]?=some (.cells #[.int .i64 e,.int .i64 x] 77 (0,0))∧(e=0↔Qm yk=true)
 l9:LL listed 9→LL listed 7∧∃ (b e:Nat) (x:Int),f 7=.pointer (some ⟨b,0,none⟩)∧W.heap[b]?=some (.cells #[.int .i64 e,.int .i64 x] 77 (0,0))∧(e=0↔Qm yv=true)
section
variable {w2 W W' : World} {yb : Nat} {yk yv : Str} {listed : Array Bool} {f : Nat → Value}
theorem ChkI.world (h:ChkI w2 yb yk yv listed f W)(hb:Below W.heap.size W W'):ChkI w2 yb yk yv listed f W':=by
 refine⟨h.b.then hb,h.l0,h.l1,h.l2,h.l3,h.l4,h.l5,fun g=>?_,fun g=>?_,h.l67,fun g=>?_,fun g=>?_⟩
 ·obtain⟨b,z0,z1,h1,h2,h3⟩:=h.l6 g
  exact⟨b,z0,z1,h1,bk hb h2,h3⟩
 ·obtain⟨b,z0,z1,h1,h2,h3⟩:=h.l7 g
  exact⟨b,z0,z1,h1,bk hb h2,h3⟩
 ·obtain⟨h0,b,e,x,h1,h2,h3⟩:=h.l8 g
  exact⟨h0,b,e,x,h1,bk hb h2,h3⟩
 ·obtain⟨h0,b,e,x,h1,h2,h3⟩:=h.l9 g
  exact⟨h0,b,e,x,h1,bk hb h2,h3⟩
theorem ChkI.n0 (h:ChkI w2 yb yk yv listed f W)(v:Value)(hv:v=.pointer (some ⟨yb,0,none⟩)):ChkI w2 yb yk yv (listed.setIfInBounds 0 true) (upd f 23 v) W:=by
 refine⟨h.b,?_,?_,?_,?_,?_,?_,?_,?_,?_,?_,?_⟩
 ·exact fun _=>by simpa [upd] using hv
 ·intro g
  rcases g.set with e | g
  ·exact absurd e (by decide)
  ·simpa [upd] using h.l1 g
 ·intro g
  rcases g.set with e | g
  ·exact absurd e (by decide)
  ·simpa [upd] using h.l2 g
 ·intro g
  rcases g.set with e | g
  ·exact absurd e (by decide)
  ·simpa [upd] using h.l3 g
 ·intro g
  rcases g.set with e | g
  ·exact absurd e (by decide)
  ·simpa [upd] using h.l4 g
 ·intro g
  rcases g.set with e | g
  ·exact absurd e (by decide)
  ·simpa [upd] using h.l5 g
 ·intro g
  rcases g.set with e | g
  ·exact absurd e (by decide)
  ·simpa [upd] using h.l6 g
 ·intro g
  rcases g.set with e | g
  ·exact absurd e (by decide)
  ·simpa [upd] using h.l7 g
 ·intro g6 g7
  rcases g6.set with e | g6
  ·exact absurd e (by decide)
  rcases g7.set with e | g7
  ·exact absurd e (by decide)
  ·simpa [upd] using h.l67 g6 g7
 ·intro g
  rcases g.set with e | g
  ·exact absurd e (by decide)
  ·obtain⟨h0,h1⟩:=h.l8 g
   exact⟨h0.mono,by simpa [upd] using h1⟩
 ·intro g
  rcases g.set with e | g
  ·exact absurd e (by decide)
  ·obtain⟨h0,h1⟩:=h.l9 g
   exact⟨h0.mono,by simpa [upd] using h1⟩
theorem ChkI.n1 (h:ChkI w2 yb yk yv listed f W)(v:Value)(hv:v=.string ⟨yk.toArray⟩):ChkI w2 yb yk yv (listed.setIfInBounds 1 true) (upd f 24 v) W:=by
 refine⟨h.b,?_,?_,?_,?_,?_,?_,?_,?_,?_,?_,?_⟩
 ·intro g
  rcases g.set with e | g
  ·exact absurd e (by decide)
  ·simpa [upd] using h.l0 g
 ·exact fun _=>by simpa [upd] using hv
 ·intro g
  rcases g.set with e | g
  ·exact absurd e (by decide)
  ·simpa [upd] using h.l2 g
 ·intro g
  rcases g.set with e | g
  ·exact absurd e (by decide)
  ·simpa [upd] using h.l3 g
 ·intro g
  rcases g.set with e | g
  ·exact absurd e (by decide)
  ·simpa [upd] using h.l4 g
 ·intro g
  rcases g.set with e | g
  ·exact absurd e (by decide)
  ·simpa [upd] using h.l5 g
 ·intro g
  rcases g.set with e | g
  ·exact absurd e (by decide)
  ·simpa [upd] using h.l6 g
 ·intro g
  rcases g.set with e | g
  ·exact absurd e (by decide)
  ·simpa [upd] using h.l7 g
 ·intro g6 g7
  rcases g6.set with e | g6
  ·exact absurd e (by decide)
  rcases g7.set with e | g7
  ·exact absurd e (by decide)
  ·simpa [upd] using h.l67 g6 g7
 ·intro g
  rcases g.set with e | g
  ·exact absurd e (by decide)
  ·obtain⟨h0,h1⟩:=h.l8 g
   exact⟨h0.mono,by simpa [upd] using h1⟩
 ·intro g
  rcases g.set with e | g
  ·exact absurd e (by decide)
  ·obtain⟨h0,h1⟩:=h.l9 g
   exact⟨h0.mono,by simpa [upd] using h1⟩
theorem ChkI.n2 (h:ChkI w2 yb yk yv listed f W)(v:Value)(hv:∃ (e:Nat)(x:Int),v=.agg #[.int .i64 e,.int .i64 x]∧(e=0↔Qm yk=true)):ChkI w2 yb yk yv (listed.setIfInBounds 2 true) (upd f 25 v) W:=by
 refine⟨h.b,?_,?_,?_,?_,?_,?_,?_,?_,?_,?_,?_⟩
 ·intro g
  rcases g.set with e | g
  ·exact absurd e (by decide)
  ·simpa [upd] using h.l0 g
 ·intro g
  rcases g.set with e | g
  ·exact absurd e (by decide)
  ·simpa [upd] using h.l1 g
 ·exact fun _=>by simpa [upd] using hv
 ·intro g
  rcases g.set with e | g
  ·exact absurd e (by decide)
  ·simpa [upd] using h.l3 g
 ·intro g
  rcases g.set with e | g
  ·exact absurd e (by decide)
  ·simpa [upd] using h.l4 g
 ·intro g
  rcases g.set with e | g
  ·exact absurd e (by decide)
  ·simpa [upd] using h.l5 g
 ·intro g
  rcases g.set with e | g
  ·exact absurd e (by decide)
  ·simpa [upd] using h.l6 g
 ·intro g
  rcases g.set with e | g
  ·exact absurd e (by decide)
  ·simpa [upd] using h.l7 g
 ·intro g6 g7
  rcases g6.set with e | g6
  ·exact absurd e (by decide)
  rcases g7.set with e | g7
  ·exact absurd e (by decide)
  ·simpa [upd] using h.l67 g6 g7
 ·intro g
  rcases g.set with e | g
  ·exact absurd e (by decide)
  ·obtain⟨h0,h1⟩:=h.l8 g
   exact⟨h0.mono,by simpa [upd] using h1⟩
 ·intro g
  rcases g.set with e | g
  ·exact absurd e (by decide)
  ·obtain⟨h0,h1⟩:=h.l9 g
   exact⟨h0.mono,by simpa [upd] using h1⟩
theorem ChkI.n3 (h:ChkI w2 yb yk yv listed f W)(v:Value)(hv:v=.pointer (some ⟨yb,1,none⟩)):ChkI w2 yb yk yv (listed.setIfInBounds 3 true) (upd f 26 v) W:=by
 refine⟨h.b,?_,?_,?_,?_,?_,?_,?_,?_,?_,?_,?_⟩
 ·intro g
  rcases g.set with e | g
  ·exact absurd e (by decide)
  ·simpa [upd] using h.l0 g
 ·intro g
  rcases g.set with e | g
  ·exact absurd e (by decide)
  ·simpa [upd] using h.l1 g
 ·intro g
  rcases g.set with e | g
  ·exact absurd e (by decide)
  ·simpa [upd] using h.l2 g
 ·exact fun _=>by simpa [upd] using hv
 ·intro g
  rcases g.set with e | g
  ·exact absurd e (by decide)
  ·simpa [upd] using h.l4 g
 ·intro g
  rcases g.set with e | g
  ·exact absurd e (by decide)
  ·simpa [upd] using h.l5 g
 ·intro g
  rcases g.set with e | g
  ·exact absurd e (by decide)
  ·simpa [upd] using h.l6 g
 ·intro g
  rcases g.set with e | g
  ·exact absurd e (by decide)
  ·simpa [upd] using h.l7 g
 ·intro g6 g7
  rcases g6.set with e | g6
  ·exact absurd e (by decide)
  rcases g7.set with e | g7
  ·exact absurd e (by decide)
  ·simpa [upd] using h.l67 g6 g7
 ·intro g
  rcases g.set with e | g
  ·exact absurd e (by decide)
  ·obtain⟨h0,h1⟩:=h.l8 g
   exact⟨h0.mono,by simpa [upd] using h1⟩
 ·intro g
  rcases g.set with e | g
  ·exact absurd e (by decide)
  ·obtain⟨h0,h1⟩:=h.l9 g
   exact⟨h0.mono,by simpa [upd] using h1⟩
theorem ChkI.n4 (h:ChkI w2 yb yk yv listed f W)(v:Value)(hv:v=.string ⟨yv.toArray⟩):ChkI w2 yb yk yv (listed.setIfInBounds 4 true) (upd f 27 v) W:=by
 refine⟨h.b,?_,?_,?_,?_,?_,?_,?_,?_,?_,?_,?_⟩
 ·intro g
  rcases g.set with e | g
  ·exact absurd e (by decide)
  ·simpa [upd] using h.l0 g
 ·intro g
  rcases g.set with e | g
  ·exact absurd e (by decide)
  ·simpa [upd] using h.l1 g
 ·intro g
  rcases g.set with e | g
  ·exact absurd e (by decide)
  ·simpa [upd] using h.l2 g
 ·intro g
  rcases g.set with e | g
  ·exact absurd e (by decide)
  ·simpa [upd] using h.l3 g
 ·exact fun _=>by simpa [upd] using hv
 ·intro g
  rcases g.set with e | g
  ·exact absurd e (by decide)
  ·simpa [upd] using h.l5 g
 ·intro g
  rcases g.set with e | g
  ·exact absurd e (by decide)
  ·simpa [upd] using h.l6 g
 ·intro g
  rcases g.set with e | g
  ·exact absurd e (by decide)
  ·simpa [upd] using h.l7 g
 ·intro g6 g7
  rcases g6.set with e | g6
  ·exact absurd e (by decide)
  rcases g7.set with e | g7
  ·exact absurd e (by decide)
  ·simpa [upd] using h.l67 g6 g7
 ·intro g
  rcases g.set with e | g
  ·exact absurd e (by decide)
  ·obtain⟨h0,h1⟩:=h.l8 g
   exact⟨h0.mono,by simpa [upd] using h1⟩
 ·intro g
  rcases g.set with e | g
  ·exact absurd e (by decide)
  ·obtain⟨h0,h1⟩:=h.l9 g
   exact⟨h0.mono,by simpa [upd] using h1⟩
theorem ChkI.n5 (h:ChkI w2 yb yk yv listed f W)(v:Value)(hv:∃ (e:Nat)(x:Int),v=.agg #[.int .i64 e,.int .i64 x]∧(e=0↔Qm yv=true)):ChkI w2 yb yk yv (listed.setIfInBounds 5 true) (upd f 28 v) W:=by
 refine⟨h.b,?_,?_,?_,?_,?_,?_,?_,?_,?_,?_,?_⟩
 ·intro g
  rcases g.set with e | g
  ·exact absurd e (by decide)
  ·simpa [upd] using h.l0 g
 ·intro g
  rcases g.set with e | g
  ·exact absurd e (by decide)
  ·simpa [upd] using h.l1 g
 ·intro g
  rcases g.set with e | g
  ·exact absurd e (by decide)
  ·simpa [upd] using h.l2 g
 ·intro g
  rcases g.set with e | g
  ·exact absurd e (by decide)
  ·simpa [upd] using h.l3 g
 ·intro g
  rcases g.set with e | g
  ·exact absurd e (by decide)
  ·simpa [upd] using h.l4 g
 ·exact fun _=>by simpa [upd] using hv
 ·intro g
  rcases g.set with e | g
  ·exact absurd e (by decide)
  ·simpa [upd] using h.l6 g
 ·intro g
  rcases g.set with e | g
  ·exact absurd e (by decide)
  ·simpa [upd] using h.l7 g
 ·intro g6 g7
  rcases g6.set with e | g6
  ·exact absurd e (by decide)
  rcases g7.set with e | g7
  ·exact absurd e (by decide)
  ·simpa [upd] using h.l67 g6 g7
 ·intro g
  rcases g.set with e | g
  ·exact absurd e (by decide)
  ·obtain⟨h0,h1⟩:=h.l8 g
   exact⟨h0.mono,by simpa [upd] using h1⟩
 ·intro g
  rcases g.set with e | g
  ·exact absurd e (by decide)
  ·obtain⟨h0,h1⟩:=h.l9 g
   exact⟨h0.mono,by simpa [upd] using h1⟩
theorem ChkI.n6 (h:ChkI w2 yb yk yv listed f W)(v:Value)(hv:∃ b z0 z1,v=.pointer (some ⟨b,0,none⟩)∧W.heap[b]?=some (.cells #[z0,z1] 77 (0,0))∧w2.heap.size≤b)(hn:LL listed 7→v≠f 7)(hun:¬ LL listed 8):ChkI w2 yb yk yv (listed.setIfInBounds 6 true) (upd f 6 v) W:=by
 refine⟨h.b,?_,?_,?_,?_,?_,?_,?_,?_,?_,?_,?_⟩
 ·intro g
  rcases g.set with e | g
  ·exact absurd e (by decide)
  ·simpa [upd] using h.l0 g
 ·intro g
  rcases g.set with e | g
  ·exact absurd e (by decide)
  ·simpa [upd] using h.l1 g
 ·intro g
  rcases g.set with e | g
  ·exact absurd e (by decide)
  ·simpa [upd] using h.l2 g
 ·intro g
  rcases g.set with e | g
  ·exact absurd e (by decide)
  ·simpa [upd] using h.l3 g
 ·intro g
  rcases g.set with e | g
  ·exact absurd e (by decide)
  ·simpa [upd] using h.l4 g
 ·intro g
  rcases g.set with e | g
  ·exact absurd e (by decide)
  ·simpa [upd] using h.l5 g
 ·exact fun _=>by simpa [upd] using hv
 ·intro g
  rcases g.set with e | g
  ·exact absurd e (by decide)
  ·simpa [upd] using h.l7 g
 ·intro g6 g7
  rcases g7.set with e | g7
  ·exact absurd e (by decide)
  ·simpa [upd] using hn g7
 ·intro g
  rcases g.set with e | g
  ·exact absurd e (by decide)
  ·exact absurd g hun
 ·intro g
  rcases g.set with e | g
  ·exact absurd e (by decide)
  ·obtain⟨h0,h1⟩:=h.l9 g
   exact⟨h0.mono,by simpa [upd] using h1⟩
theorem ChkI.n7 (h:ChkI w2 yb yk yv listed f W)(v:Value)(hv:∃ b z0 z1,v=.pointer (some ⟨b,0,none⟩)∧W.heap[b]?=some (.cells #[z0,z1] 77 (0,0))∧w2.heap.size≤b)(hn:LL listed 6→f 6≠v)(hun:¬ LL listed 9):ChkI w2 yb yk yv (listed.setIfInBounds 7 true) (upd f 7 v) W:=by
 refine⟨h.b,?_,?_,?_,?_,?_,?_,?_,?_,?_,?_,?_⟩
 ·intro g
  rcases g.set with e | g
  ·exact absurd e (by decide)
  ·simpa [upd] using h.l0 g
 ·intro g
  rcases g.set with e | g
  ·exact absurd e (by decide)
  ·simpa [upd] using h.l1 g
 ·intro g
  rcases g.set with e | g
  ·exact absurd e (by decide)
  ·simpa [upd] using h.l2 g
 ·intro g
  rcases g.set with e | g
  ·exact absurd e (by decide)
  ·simpa [upd] using h.l3 g
 ·intro g
  rcases g.set with e | g
  ·exact absurd e (by decide)
  ·simpa [upd] using h.l4 g
 ·intro g
  rcases g.set with e | g
  ·exact absurd e (by decide)
  ·simpa [upd] using h.l5 g
 ·intro g
  rcases g.set with e | g
  ·exact absurd e (by decide)
  ·simpa [upd] using h.l6 g
 ·exact fun _=>by simpa [upd] using hv
 ·intro g6 g7
  rcases g6.set with e | g6
  ·exact absurd e (by decide)
  ·simpa [upd] using hn g6
 ·intro g
  rcases g.set with e | g
  ·exact absurd e (by decide)
  ·obtain⟨h0,h1⟩:=h.l8 g
   exact⟨h0.mono,by simpa [upd] using h1⟩
 ·intro g
  rcases g.set with e | g
  ·exact absurd e (by decide)
  ·exact absurd g hun
theorem ChkI.n8 (h:ChkI w2 yb yk yv listed f W)(g6:LL listed 6)(bb e:Nat)(x:Int)(hf:f 6=.pointer (some ⟨bb,0,none⟩))(he:e=0↔Qm yk=true):ChkI w2 yb yk yv (listed.setIfInBounds 8 true) f (P2 W bb (.int .i64 e) (.int .i64 x)):=by
 obtain⟨b0,z0,z1,k1,k2,k3⟩:=h.l6 g6
 obtain rfl:bb=b0:=by
  rw [hf] at k1
  injection k1 with k1
  injection k1 with k1
  injection k1
 have hrow:=Kv (.int .i64 e) (.int .i64 x) k2;have ho:∀ c cs ty,c≠bb→W.heap[c]?=some (.cells cs ty (0,0))→(P2 W bb (.int .i64 e) (.int .i64 x)).heap[c]?=some (.cells cs ty (0,0)):=fun c cs ty hc hk=>by
  unfold P2;rw [heap_setCell_other _ _ _ _ hc,heap_setCell_other _ _ _ _ hc];exact hk
 refine⟨Xd _ _ h.b k3,?_,?_,?_,?_,?_,?_,?_,?_,?_,?_,?_⟩
 ·intro g
  rcases g.set with e' | g
  ·exact absurd e' (by decide)
  ·exact h.l0 g
 ·intro g
  rcases g.set with e' | g
  ·exact absurd e' (by decide)
  ·exact h.l1 g
 ·intro g
  rcases g.set with e' | g
  ·exact absurd e' (by decide)
  ·exact h.l2 g
 ·intro g
  rcases g.set with e' | g
  ·exact absurd e' (by decide)
  ·exact h.l3 g
 ·intro g
  rcases g.set with e' | g
  ·exact absurd e' (by decide)
  ·exact h.l4 g
 ·intro g
  rcases g.set with e' | g
  ·exact absurd e' (by decide)
  ·exact h.l5 g
 ·intro _
  exact⟨bb,_,_,hf,hrow,k3⟩
 ·intro g
  rcases g.set with e' | g
  ·exact absurd e' (by decide)
  ·obtain⟨c,y0,y1,m1,m2,m3⟩:=h.l7 g
   refine⟨c,y0,y1,m1,ho c _ _ ?_ m2,m3⟩
   rintro rfl;exact h.l67 g6 g (by rw [m1,hf])
 ·intro a b
  rcases a.set with e' | a
  ·exact absurd e' (by decide)
  rcases b.set with e' | b
  ·exact absurd e' (by decide)
  ·exact h.l67 a b
 ·intro _
  exact⟨g6.mono,bb,e,x,hf,hrow,he⟩
 ·intro g
  rcases g.set with e' | g
  ·exact absurd e' (by decide)
  ·obtain⟨h0,c,e1,x1,m1,m2,m3⟩:=h.l9 g
   refine⟨h0.mono,c,e1,x1,m1,ho c _ _ ?_ m2,m3⟩
   rintro rfl;exact h.l67 g6 h0 (by rw [m1,hf])
theorem ChkI.n9 (h:ChkI w2 yb yk yv listed f W)(g6:LL listed 7)(bb e:Nat)(x:Int)(hf:f 7=.pointer (some ⟨bb,0,none⟩))(he:e=0↔Qm yv=true):ChkI w2 yb yk yv (listed.setIfInBounds 9 true) f (P2 W bb (.int .i64 e) (.int .i64 x)):=by
 obtain⟨b0,z0,z1,k1,k2,k3⟩:=h.l7 g6
 obtain rfl:bb=b0:=by
  rw [hf] at k1
  injection k1 with k1
  injection k1 with k1
  injection k1
 have hrow:=Kv (.int .i64 e) (.int .i64 x) k2;have ho:∀ c cs ty,c≠bb→W.heap[c]?=some (.cells cs ty (0,0))→(P2 W bb (.int .i64 e) (.int .i64 x)).heap[c]?=some (.cells cs ty (0,0)):=fun c cs ty hc hk=>by
  unfold P2;rw [heap_setCell_other _ _ _ _ hc,heap_setCell_other _ _ _ _ hc];exact hk
 refine⟨Xd _ _ h.b k3,?_,?_,?_,?_,?_,?_,?_,?_,?_,?_,?_⟩
 ·intro g
  rcases g.set with e' | g
  ·exact absurd e' (by decide)
  ·exact h.l0 g
 ·intro g
  rcases g.set with e' | g
  ·exact absurd e' (by decide)
  ·exact h.l1 g
 ·intro g
  rcases g.set with e' | g
  ·exact absurd e' (by decide)
  ·exact h.l2 g
 ·intro g
  rcases g.set with e' | g
  ·exact absurd e' (by decide)
  ·exact h.l3 g
 ·intro g
  rcases g.set with e' | g
  ·exact absurd e' (by decide)
  ·exact h.l4 g
 ·intro g
  rcases g.set with e' | g
  ·exact absurd e' (by decide)
  ·exact h.l5 g
 ·intro g
  rcases g.set with e' | g
  ·exact absurd e' (by decide)
  ·obtain⟨c,y0,y1,m1,m2,m3⟩:=h.l6 g
   refine⟨c,y0,y1,m1,ho c _ _ ?_ m2,m3⟩
   rintro rfl;exact h.l67 g g6 (by rw [m1,hf])
 ·intro _
  exact⟨bb,_,_,hf,hrow,k3⟩
 ·intro a b
  rcases a.set with e' | a
  ·exact absurd e' (by decide)
  rcases b.set with e' | b
  ·exact absurd e' (by decide)
  ·exact h.l67 a b
 ·intro g
  rcases g.set with e' | g
  ·exact absurd e' (by decide)
  ·obtain⟨h0,c,e1,x1,m1,m2,m3⟩:=h.l8 g
   refine⟨h0.mono,c,e1,x1,m1,ho c _ _ ?_ m2,m3⟩
   rintro rfl;exact h.l67 h0 g6 (by rw [m1,hf])
 ·intro _
  exact⟨g6.mono,bb,e,x,hf,hrow,he⟩
theorem wpOp_of {P:Program}{ops:Array Oper}{Q:Exit→Act→World→Prop}{i:Nat}{K:Act→World→Prop}{a:Act}{w:World}{o:Oper}(h:ops[i]?=some o)(hg:o.guard=none)(hw:o.wp P a w K Q):wpOp P ops Q i K a w:=by
 unfold wpOp;rw [h];simp only [Region.wanted,hg,if_true];exact Or.inl hw
end
end
section
open Go.RowKit Go.Lib
def ChkRel (w:World)(k v:Str)(v6 v7:Value)(W:World):Prop:=∃ (b6 b7 e6 e7:Nat) (a6 a7:Int),v6=.pointer (some ⟨b6,0,none⟩)∧v7=.pointer (some ⟨b7,0,none⟩)∧
 W.heap[b6]?=some (.cells #[.int .i64 e6,.int .i64 a6] 77 (0,0))∧W.heap[b7]?=some (.cells #[.int .i64 e7,.int .i64 a7] 77 (0,0))∧(e6=0↔Qm k=true)∧(e7=0↔Qm v=true)∧Below w.heap.size w W
theorem anew_any (w:World)(av:Option Addr)(cv:Nat)(l:List Al)(h:RdP w (.slice av l.length cv) l)(hl:l.length≤1000)(hcv:l.length≤cv)(hs:szA l) :
  Calls Tryz.prog 33 #[.slice av l.length cv] w fun x w'=>ANewOut w l x w':=by
 have HL:=hid h;have HN:=hid hl;have HS:=hid hs;have F0:=hid (heap_alloc_new w (.cells #[.int .i64 0,.int .i64 0] 69));have B0:=hid (bal w (.cells #[.int .i64 0,.int .i64 0] 69));clear h hl hs
 go_enter Tryz.func33,Tryz.ntmps33
 go_upto_region 2 with fail;generalize w.alloc (.cells #[.int .i64 0,.int .i64 0] 69)=w0 at *
 go_loopg [18] l.length (fun g v18 W=>∃ k:Nat,k≤l.length∧l.length≤k+g∧v18=.int .i64 k∧okPre l k∧W.heap[w.heap.size]?=some (.cells #[.int .i64 0,.int .i64 0] 69 (0,0))∧Below w.heap.size w W)
 case atStart=>exact⟨0,Nat.zero_le _,by omega,rfl,okPre.zero l,F0.out,B0.out⟩
 case round =>
  obtain⟨k,hk,hg,rfl,hpre,hf,hb⟩:=hrel
  rename World=>w1
  have HG:=hid hg;have HPRE:=hid hpre;have HF:=hid hf;have HB:=hid hb;have hk0:(0:Int)≤(k:Int):=by omega
  have hkb:(k:Int)≤1000:=by have:=HN.out;omega
  have hkc:(k:Int)≤(cv:Int):=by omega
  clear hg hpre hf hb F0 B0
  by_cases hlt:k<l.length
  ·have hki:(k:Int)<(l.length:Int):=by omega
   obtain⟨ao,cp,e,_,hcc⟩:=Ks (HL.out.below HB.out)
   cases e
   obtain⟨p,o,rfl,hp,c0,c1⟩:=hcc k hlt
   have HPL:=hid (rd_block HL.out (by intro e;rw [e] at hlt;simp at hlt));have HSK:=hid (HS.out _ (List.getElem_mem hlt));have HOKN:=hid (fun(hn:¬ okAl (l[k]'hlt))=>HPRE.out.no hlt hn);have HAG:=hid (fun(hn:okAl (l[k]'hlt)) ha=>HPRE.out.again hlt hn ha);have HMO:=hid (fun(hn:okAl (l[k]'hlt)) ha=>HPRE.out.more hlt hn ha);generalize l[k]'hlt=y at *
   obtain⟨yk,yv⟩:=y
   clear hcc;have F2:=hid (heap_alloc_new w1 (.cells #[.string ⟨yk.toArray⟩,.string ⟨yv.toArray⟩] 76));have HA2:=hid (bal w1 (.cells #[.string ⟨yk.toArray⟩,.string ⟨yv.toArray⟩] 76));have HB2:=hid (HB.out.then HA2.out);have HF2:=hid (bk HA2.out HF.out);have CKK:=hid (fun W=>pcheck_any yk W HSK.out.1);have CKV:=hid (fun W=>pcheck_any yv W HSK.out.2);simp only at c0 c1;go_upto_region 4 with fail;generalize w1.alloc (.cells #[.string ⟨yk.toArray⟩,.string ⟨yv.toArray⟩] 76)=w2 at *;generalize w1.heap.size=yb at *
   obtain⟨y0,y1,_,_,yl⟩:=Qq F2.out
   go_cut [6,7] from 23 to 28 (fun v6 v7 wx=>ChkRel w2 yk yv v6 v7 wx)
   case first =>
    refine wp_region_inv (by kernel_rfl) (by kernel_rfl) [23,24,25,26,27,28,6,7] (ChkI w2 yb yk yv) ?_ ?_ ?_
    ·intro f0
     refine⟨(Below.refl _ w2).drew,?_,?_,?_,?_,?_,?_,?_,?_,?_,?_,?_⟩
     all_goals (intro g;exact absurd g (LLno (by show _<10;decide)))
    ·intro listed f W i hI hl oi hoi haf;have hyb:=(hI.b.block yb (lt_of_block F2.out)).trans F2.out
     obtain⟨q0,q1,qf0,qf1,ql⟩:=Qq hyb
     match i,hl,oi,hoi,haf with
     | 0,hl,oi,hoi,haf =>
      obtain rfl:=Option.some.inj hoi;refine wpOp_of rfl rfl ?_;simp only [Jg,List.foldl_cons,List.foldl_nil,List.setIfInBounds_toArray,List.set_cons_zero,List.set_cons_succ]
      go_simp
      exact⟨upd f 23 (.pointer (some ⟨yb,0,none⟩)),by simp [upd],hI.n0 _ rfl⟩
     | 1,hl,oi,hoi,haf =>
      obtain rfl:=Option.some.inj hoi;have d0:=LL.of (haf ⟨0,Ground.data⟩ (by simp) rfl:listed.getD 0 false=true);have e0:=hI.l0 d0;refine wpOp_of rfl rfl ?_;simp only [Jg,List.foldl_cons,List.foldl_nil,List.setIfInBounds_toArray,List.set_cons_zero,List.set_cons_succ]
      go_simp
      exact⟨upd f 24 (.string ⟨yk.toArray⟩),by simp [upd,e0],hI.n1 _ rfl⟩
     | 2,hl,oi,hoi,haf =>
      obtain rfl:=Option.some.inj hoi;have d1:=LL.of (haf ⟨1,Ground.data⟩ (by simp) rfl:listed.getD 1 false=true);have e0:=hI.l1 d1;refine wpOp_of rfl rfl ?_;simp only [Jg,List.foldl_cons,List.foldl_nil,List.setIfInBounds_toArray,List.set_cons_zero,List.set_cons_succ]
      go_simp
      refine(CKK.out _).mono ?_
      rintro e w3 ⟨⟨er,ea,rfl,he⟩,hb3⟩
      exact⟨upd f 25 (.agg #[.int .i64 er,.int .i64 ea]),by simp [upd,Jg,e0],(hI.world hb3).n2 _ ⟨er,ea,rfl,he⟩⟩
     | 3,hl,oi,hoi,haf =>
      obtain rfl:=Option.some.inj hoi;refine wpOp_of rfl rfl ?_;simp only [Jg,List.foldl_cons,List.foldl_nil,List.setIfInBounds_toArray,List.set_cons_zero,List.set_cons_succ]
      go_simp
      exact⟨upd f 26 (.pointer (some ⟨yb,1,none⟩)),by simp [upd],hI.n3 _ rfl⟩
     | 4,hl,oi,hoi,haf =>
      obtain rfl:=Option.some.inj hoi;have d3:=LL.of (haf ⟨3,Ground.data⟩ (by simp) rfl:listed.getD 3 false=true);have e0:=hI.l3 d3;refine wpOp_of rfl rfl ?_;simp only [Jg,List.foldl_cons,List.foldl_nil,List.setIfInBounds_toArray,List.set_cons_zero,List.set_cons_succ]
      go_simp
      exact⟨upd f 27 (.string ⟨yv.toArray⟩),by simp [upd,e0],hI.n4 _ rfl⟩
     | 5,hl,oi,hoi,haf =>
      obtain rfl:=Option.some.inj hoi;have d4:=LL.of (haf ⟨4,Ground.data⟩ (by simp) rfl:listed.getD 4 false=true);have e0:=hI.l4 d4;refine wpOp_of rfl rfl ?_;simp only [Jg,List.foldl_cons,List.foldl_nil,List.setIfInBounds_toArray,List.set_cons_zero,List.set_cons_succ]
      go_simp
      refine(CKV.out _).mono ?_
      rintro e w3 ⟨⟨er,ea,rfl,he⟩,hb3⟩
      exact⟨upd f 28 (.agg #[.int .i64 er,.int .i64 ea]),by simp [upd,Jg,e0],(hI.world hb3).n5 _ ⟨er,ea,rfl,he⟩⟩
     | 6,hl,oi,hoi,haf =>
      obtain rfl:=Option.some.inj hoi;refine wpOp_of rfl rfl ?_;simp only [Jg,List.foldl_cons,List.foldl_nil,List.setIfInBounds_toArray,List.set_cons_zero,List.set_cons_succ]
      go_simp
      have hbA:Below W.heap.size W (W.alloc (.cells #[.int .i64 0,.int .i64 0] 77)):=bal _ _
      refine⟨upd f 6 (.pointer (some ⟨W.heap.size,0,none⟩)),by simp [upd],(hI.world hbA).n6 _ ⟨W.heap.size,_,_,rfl,heap_alloc_new W _,hI.b.size⟩ ?_ ?_⟩
      ·intro g e
       obtain⟨b',_,_,h1,h2,_⟩:=hI.l7 g
       rw [h1] at e
       have:=lt_of_block h2
       simp at e <;> omega
      ·intro g
       obtain⟨h0,_⟩:=hI.l8 g
       unfold LL at h0;rw [h0] at hl
       cases hl
     | 7,hl,oi,hoi,haf =>
      obtain rfl:=Option.some.inj hoi;refine wpOp_of rfl rfl ?_;simp only [Jg,List.foldl_cons,List.foldl_nil,List.setIfInBounds_toArray,List.set_cons_zero,List.set_cons_succ]
      go_simp
      have hbA:Below W.heap.size W (W.alloc (.cells #[.int .i64 0,.int .i64 0] 77)):=bal _ _
      refine⟨upd f 7 (.pointer (some ⟨W.heap.size,0,none⟩)),by simp [upd],(hI.world hbA).n7 _ ⟨W.heap.size,_,_,rfl,heap_alloc_new W _,hI.b.size⟩ ?_ ?_⟩
      ·intro g e
       obtain⟨b',_,_,h1,h2,_⟩:=hI.l6 g
       rw [h1] at e
       have:=lt_of_block h2
       simp at e <;> omega
      ·intro g
       obtain⟨h0,_⟩:=hI.l9 g
       unfold LL at h0;rw [h0] at hl
       cases hl
     | 8,hl,oi,hoi,haf =>
      obtain rfl:=Option.some.inj hoi;have d2:=LL.of (haf ⟨2,Ground.data⟩ (by simp) rfl:listed.getD 2 false=true);have d6:=LL.of (haf ⟨6,Ground.data⟩ (by simp) rfl:listed.getD 6 false=true)
      obtain⟨e,x,e0,he⟩:=hI.l2 d2
      obtain⟨bb,z0,z1,e1,h2,h3⟩:=hI.l6 d6
      obtain⟨m0,m1,mf0,mf1,ml⟩:=Qq h2
      refine wpOp_of rfl rfl ?_;simp only [Jg,List.foldl_cons,List.foldl_nil,List.setIfInBounds_toArray,List.set_cons_zero,List.set_cons_succ]
      go_simp
      exact⟨f,by simp [Jg,e0,e1],hI.n8 d6 bb e x e1 he⟩
     | 9,hl,oi,hoi,haf =>
      obtain rfl:=Option.some.inj hoi;have d5:=LL.of (haf ⟨5,Ground.data⟩ (by simp) rfl:listed.getD 5 false=true);have d7:=LL.of (haf ⟨7,Ground.data⟩ (by simp) rfl:listed.getD 7 false=true)
      obtain⟨e,x,e0,he⟩:=hI.l5 d5
      obtain⟨bb,z0,z1,e1,h2,h3⟩:=hI.l7 d7
      obtain⟨m0,m1,mf0,mf1,ml⟩:=Qq h2
      refine wpOp_of rfl rfl ?_;simp only [Jg,List.foldl_cons,List.foldl_nil,List.setIfInBounds_toArray,List.set_cons_zero,List.set_cons_succ]
      go_simp
      exact⟨f,by simp [Jg,e0,e1],hI.n9 d7 bb e x e1 he⟩
     | n+10,hl,oi,hoi,haf=>exact absurd hoi (by simp)
    ·intro listed f W hI hr
     obtain⟨_,b6,e6,x6,h61,h62,h63⟩:=hI.l8 (hr 8 (by decide))
     obtain⟨_,b7,e7,x7,h71,h72,h73⟩:=hI.l9 (hr 9 (by decide))
     simp only [Jg,List.foldl_cons,List.foldl_nil,List.setIfInBounds_toArray,List.set_cons_zero,List.set_cons_succ];go_wp2_with fail
     go_meet
     exact⟨b6,b7,e6,e7,x6,x7,rfl,rfl,h62,h72,h63,h73,hI.b⟩
   case rest =>
    obtain⟨b6,b7,e6,e7,x6,x7,rfl,rfl,h6,h7,he6,he7,hbc⟩:=hcut
    rename World=>w3
    have B3:=hid (HB2.out.then hbc);have F3:=hid ((hbc.block yb (lt_of_block F2.out)).trans F2.out);have HF3:=hid (bk hbc HF2.out);have HE6:=hid he6;have HE7:=hid he7;clear y0 y1 yl F2 HA2 HB HF HB2 HF2 hbc he6 he7 c0 c1 hp
    obtain⟨y0,y1,_,_,yl⟩:=Qq F3.out
    obtain⟨m0,m1,_,_,ml⟩:=Qq h6
    obtain⟨n0,n1,_,_,nl⟩:=Qq h7
    clear h6 h7
    obtain⟨r0,r1,rf0,rf1,rlt⟩:=Qq HF3.out
    by_cases hok:okAl (yk,yv)
    ·obtain⟨o1,o2,o3,o4⟩:=hok
     have z6:e6=0:=HE6.out.2 o1;have z7:e7=0:=HE7.out.2 o2;subst z6;subst z7;have hyk:(yk==[])=false:=beq_eq_false_iff_ne.2 o3;have hyv:(yv==[])=false:=beq_eq_false_iff_ne.2 o4;have HOK:=hid (show okAl (yk,yv) from⟨o1,o2,o3,o4⟩);simp only at o3 o4;have HTK:=hid (show RdP w3 (.slice (some ⟨p,o,none⟩) (l.take k).length cv) (l.take k) from rdP_take (HL.out.below B3.out) k hk);rw [show(l.take k).length=k from by rw [List.length_take];omega] at HTK;have HK:=hid (hasKeyAN w3 (.slice (some ⟨p,o,none⟩) k cv) (l.take k) yb yk HTK.out (by rw [List.length_take];have:=HN.out;omega) (by
      intro a n c e
      cases e
      exact⟨p,o,rfl,Nat.lt_of_lt_of_le HPL.out B3.out.size⟩) _ F3.out)
     clear HTK o1 o2;go_wp2_with fail;refine HK.out.mono ?_;rintro e w4 ⟨rfl,hb4⟩;have B4:=hid (B3.out.then hb4);have HF4:=hid (bk hb4 HF3.out);clear y0 y1 yl m0 m1 ml n0 n1 nl r0 r1 rf0 rf1 rlt hb4 B3 HF3 F3 HK
     obtain⟨r0,r1,rf0,rf1,rlt⟩:=Qq HF4.out
     cases hany:(l.take k).any (fun p=>p.1==yk) with
     | true =>
      have HO:=hid (HAG.out HOK.out hany);clear hany;go_wp2_with fail;change bodyPost _ _ _ _ _ (P2 w4 w.heap.size (.int .i64 (211:Nat)) (.int .i64 (k:Nat)));exact anew_ret HF4.out B4.out HO.out (fun h=>by cases h) (fun _=>rfl) rfl rfl rfl
     | false =>
      have HO:=hid (HMO.out HOK.out hany);clear hany;go_wp2_with fail
      go_roundg (gk - 1)
      case measure=>have:=HG.out;omega
      case rel=>exact⟨k+1,by omega,by have:=HG.out;omega,by simp,HO.out,HF4.out,B4.out⟩
    ·have HO:=hid (HOKN.out hok);have HE:=hid (show ¬ (Qm yk=true∧Qm yv=true∧yk≠[]∧yv≠[]) from hok);clear hok HAG HMO HOKN
     by_cases z6:e6=0
     ·subst z6
      by_cases z7:e7=0
      ·subst z7
       by_cases hyk0:yk=[]
       ·clear HE6 HE7 HE CKK CKV HSK F3;subst hyk0;go_wp2_with fail;change bodyPost _ _ _ _ _ (P2 w3 w.heap.size (.int .i64 (2:Nat)) (.int .i64 (k:Nat)));exact anew_ret HF3.out B3.out HO.out (fun h=>by cases h) (fun _=>rfl) rfl rfl rfl
       ·have hyk:(yk==[])=false:=beq_eq_false_iff_ne.2 hyk0;have hyv0:yv=[]:=by
         by_cases h:yv=[]
         ·exact h
         ·exact absurd ⟨HE6.out.1 rfl,HE7.out.1 rfl,hyk0,h⟩ HE.out
        clear HE6 HE7 HE CKK CKV HSK F3;subst hyv0;go_wp2_with fail;change bodyPost _ _ _ _ _ (P2 w3 w.heap.size (.int .i64 (2:Nat)) (.int .i64 (k:Nat)));exact anew_ret HF3.out B3.out HO.out (fun h=>by cases h) (fun _=>rfl) rfl rfl rfl
      ·have hz7:((e7:Int)==0)=false:=beq_eq_false_iff_ne.2 (by omega);have hz8:((e7:Int) != 0)=true:=by rw [bne,hz7];rfl
       clear HE6 HE7 HE;go_wp2_with fail;change bodyPost _ _ _ _ _ (P2 w3 w.heap.size (.int .i64 (2:Nat)) (.int .i64 (k:Nat)));exact anew_ret HF3.out B3.out HO.out (fun h=>by cases h) (fun _=>rfl) rfl rfl rfl
     ·have hz7:((e6:Int)==0)=false:=beq_eq_false_iff_ne.2 (by omega);have hz8:((e6:Int) != 0)=true:=by rw [bne,hz7];rfl
      clear HE6 HE7 HE;go_wp2_with fail;change bodyPost _ _ _ _ _ (P2 w3 w.heap.size (.int .i64 (2:Nat)) (.int .i64 (k:Nat)));exact anew_ret HF3.out B3.out HO.out (fun h=>by cases h) (fun _=>rfl) rfl rfl rfl
  ·have hki:¬ (k:Int)<(l.length:Int):=by omega
   have HKL:=hid (show k=l.length by omega);have HBAD:=hid (okPre.done (by rw [← HKL.out];exact HPRE.out));have HND:=hid (show(l.map (·.1)).Nodup from by
    have:=HPRE.out.2
    rwa [HKL.out,List.take_length] at this)
   clear HG HPRE HKL hkb hkc;go_upto_region 12 with fail;clear hk0 hki hlt hk
   go_loopg [8,59] l.length (fun g v8 v59 W=>∃ (k:Nat) (zs:List (List Bool×(Option Addr×Nat))),k≤l.length∧l.length≤k+g∧v59=.int .i64 k∧RowsM W w.heap.size v8 ((l.take k).map (folRow l)) zs∧W.heap[w.heap.size]?=some (.cells #[.int .i64 0,.int .i64 0] 69 (0,0))∧Below w.heap.size w W)
   case atStart=>exact⟨0,[],Nat.zero_le _,by omega,rfl,⟨by simp,Qf.nil _ _ _ _,fun z hz=>by cases hz⟩,HF.out,HB.out⟩
   case round =>
    obtain⟨k,zs,hk,hg,rfl,hrow,hf,hb⟩:=hrel
    rename World=>w1
    obtain⟨go,hgo⟩:∃ go,go=gk:=⟨_,rfl⟩
    have HG:=hid (show l.length≤k+go by rw [hgo];exact hg);have HGO:=hid hgo;clear hgo;have HROW:=hid hrow;have HF1:=hid hf;have HB1:=hid hb;have hk0:(0:Int)≤(k:Int):=by omega
    have hkb:(k:Int)≤1000:=by have:=HN.out;omega
    clear hg hrow hf hb
    by_cases hlt:k<l.length
    ·have hki:(k:Int)<(l.length:Int):=by omega
     obtain⟨ao,cp,e,_,hcc⟩:=Ks (HL.out.below HB1.out)
     cases e
     obtain⟨p,o,rfl,hp,c0,c1⟩:=hcc k hlt
     have HPL:=hid (rd_block HL.out (by intro e;rw [e] at hlt;simp at hlt));have HSK:=hid (HS.out _ (List.getElem_mem hlt));have HTK:=hid (show(l.take (k+1)).map (folRow l)=(l.take k).map (folRow l)++[folRow l l[k]] by rw [List.take_succ_eq_append_getElem hlt,List.map_append];rfl);generalize l[k]'hlt=y at *
     obtain⟨yk,yv⟩:=y
     clear hcc;simp only at c0 c1;have F2:=hid (heap_alloc_new w1 (.cells #[.string ⟨yk.toArray⟩,.string ⟨yv.toArray⟩] 76));have HA2:=hid (bal w1 (.cells #[.string ⟨yk.toArray⟩,.string ⟨yv.toArray⟩] 76));have B2:=hid (HB1.out.then HA2.out);have HF2:=hid (bk HA2.out HF1.out);have HROW2:=hid (HROW.out.below HA2.out);go_upto_region 14 with fail;generalize w1.alloc (.cells #[.string ⟨yk.toArray⟩,.string ⟨yv.toArray⟩] 76)=w2 at *;generalize w1.heap.size=yb at *;clear c0 c1 hp HA2 HB1 HF1 HROW
     obtain⟨i0,hi0,hz0,hz1,hz2⟩:=info_parts infoBo'
     obtain⟨w3,hmk,hown,hgr⟩:=run_makeSlice_full (P:=Tryz.prog) (w:=w2) w2.heap.size 136 4 i0 (.bool false) 1 Tryz.underlying136 hi0 hz0 hz1 .i64 .i64 l.length (by have:=HN.out;omega) (by rw [hz2];have:=HN.out;omega) (by have:=HN.out;unfold maxLen;omega) (Nat.le_refl _)
     go_upto_region 16 with fail;have MADE:=hid (show Qf encBo 4 w3 w2.heap.size (.slice (some ⟨w2.heap.size,0,none⟩) l.length l.length) (rowAt l (yk,yv) 0) from by
      have e:(madeCells (Value.bool false).cells (l.length * 1)).toList=Xr encBo (List.replicate l.length false):=by
       unfold madeCells Xr;rw [Nat.mul_one]
       simp [Value.cells,encBo,List.flatMap_replicate]
       rw [show(fun x:Nat=>[Value.bool false][x % 1]?.getD default)=fun _=>Value.bool false from by funext x;rw [Nat.mod_one];rfl,List.map_const',List.length_range]
      rw [e] at hown;rw [rowAt_zero];unfold Qf
      simpa using hown)
     have BW3:=hid (show Below w2.heap.size w2 w3 from⟨hgr.os,hgr.tape,hgr.output,hgr.size,fun k hk=>hgr.block k hk (by simp)⟩);clear hmk hown hgr hi0 hz0 hz1 hz2
     go_loopg [68] l.length (fun g v68 W=>∃ u:Nat,u≤l.length∧l.length≤u+g∧v68=.int .i64 u∧Qf encBo 4 W w2.heap.size (.slice (some ⟨w2.heap.size,0,none⟩) l.length l.length) (rowAt l (yk,yv) u)∧Below w2.heap.size w2 W)
     case atStart=>exact⟨0,Nat.zero_le _,by omega,rfl,MADE.out,BW3.out⟩
     case round =>
      obtain⟨u,hu,hg2,rfl,hro,hb4⟩:=hrel
      rename World=>w4
      have HG2:=hid hg2;have HRO:=hid hro;have HB4:=hid hb4;have hu0:(0:Int)≤(u:Int):=by omega
      have hub:(u:Int)≤1000:=by have:=HN.out;omega
      clear hg2 hro hb4 MADE BW3
      by_cases hul:u<l.length
      ·have hui:(u:Int)<(l.length:Int):=by omega
       obtain⟨ao,cp,e,_,hcc⟩:=Ks (HL.out.below (B2.out.then HB4.out))
       cases e
       obtain⟨p2,o2,e2,hp2,c0,c1⟩:=hcc u hul
       cases e2;have HSX:=hid (HS.out _ (List.getElem_mem hul));have HSET:=hid (rowAt_set l (yk,yv) u hul);generalize l[u]'hul=x at *
       obtain⟨xk,xv⟩:=x
       clear hcc;simp only at c0 c1;have F5:=hid (heap_alloc_new w4 (.cells #[.string ⟨xk.toArray⟩,.string ⟨xv.toArray⟩] 76));have HA5:=hid (bal w4 (.cells #[.string ⟨xk.toArray⟩,.string ⟨xv.toArray⟩] 76));have HB5:=hid (HB4.out.then HA5.out);have HRO5:=hid (HRO.out.below HA5.out);have FL:=hid (afollows_any (w4.alloc (.cells #[.string ⟨xk.toArray⟩,.string ⟨xv.toArray⟩] 76)) (xk,xv) (yk,yv) HSX.out.1 HSK.out.2);have G5:=hid ((HB5.out.block yb (lt_of_block F2.out)).trans F2.out);go_upto_region 18 with fail;generalize w4.alloc (.cells #[.string ⟨xk.toArray⟩,.string ⟨xv.toArray⟩] 76)=w5 at *;generalize w4.heap.size=xb at *
       obtain⟨a0,a1,_,_,al⟩:=Qq F5.out
       obtain⟨y0,y1,_,_,yl⟩:=Qq G5.out
       generalize folB (xk,xv) (yk,yv)=fb at *;go_wp2_with fail;refine FL.out.mono ?_;rintro e w6 ⟨rfl,hb6⟩;have HB6:=hid (HB5.out.then hb6);have HRO6:=hid (HRO5.out.below hb6);clear a0 a1 al y0 y1 yl c0 c1 hp2 hb6 HA5 HB4 HB5 HRO HRO5 G5 F5 FL;have hul2:u<(rowAt l (yk,yv) u).length:=by rw [rowAt_len _ _ _ hu];exact hul
       obtain⟨q0,qf,ql⟩:=Qf.cell HRO6.out u 0 (.bool ((rowAt l (yk,yv) u)[u]'hul2)) hul2 rfl
       have hst:=Qf.set HRO6.out (rowAt_len l (yk,yv) u hu).symm u 0 hul2 (by decide) (.bool fb) fb rfl HSET.out;rw [Nat.mul_one,Nat.add_zero] at q0 qf hst;have HST:=hid hst;clear hst;go_wp2_with fail
       go_roundg (gk - 1)
       case measure=>have:=HG2.out;omega
       case rel=>exact⟨u+1,by omega,by have:=HG2.out;omega,by simp,HST.out,HB6.out.setCell (Nat.le_refl _) _⟩
      ·have hui:¬ (u:Int)<(l.length:Int):=by omega
       obtain rfl:u=l.length:=by omega
       have B4:=hid (B2.out.then HB4.out);have HF4:=hid (bk HB4.out HF2.out);have HROW4:=hid (HROW2.out.below HB4.out);have HR4:=hid (show Qf encBo 4 w4 w.heap.size (.slice (some ⟨w2.heap.size,0,none⟩) (folRow l (yk,yv)).length l.length) (folRow l (yk,yv)) from by
        rw [← rowAt_all,rowAt_len _ _ _ (Nat.le_refl _)];exact Qf.mono HRO.out B2.out.size)
       have HZL:=hid (show zs.length≤1000 from by
        have h1:=congrArg List.length HROW4.out.eq;rw [List.length_map,List.length_map,List.length_take] at h1
        have:=HN.out
        omega)
       clear HB4 HRO HROW2 HF2 hu0 hub hui hu
       go_wp2_with (at_builtin;refine Xv (E:=encBr) rfl (.tmp 80) (.tmp 82) rfl Tryz.underlying135 infoBr' rfl (by decide) w.heap.size _ zs (folRow l (yk,yv),(some ⟨w2.heap.size,0,none⟩,l.length)) rfl HROW4.out.own rfl (by have:=HZL.out;unfold maxLen;omega) (by have:=HZL.out;omega) B4.out.size #[.slice (some ⟨w2.heap.size,0,none⟩) l.length l.length] (by simp [encBr,folRow]) ?_;intro v9 W9 own9 gr9 mv9;have ROW9:=hid (HROW4.out.push HR4.out own9 gr9);have B9:=hid (B4.out.grown gr9 B4.out.size (fun k hk=>(World.ownsRow.lt HROW4.out.own k hk).1));have HF9:=hid ((gr9.block _ (lt_of_block HF4.out) (fun e=>Qx HROW4.out.own HF4.out (by decide) e.symm)).trans HF4.out);clear own9 gr9 mv9 HROW4 HR4 B4 HF4)
       go_roundg (go - 1)
       case measure=>have:=HG.out;have:=HGO.out;omega
       case rel=>exact⟨k+1,_,by omega,by have:=HG.out;omega,by simp,by rw [HTK.out];exact ROW9.out,HF9.out,B9.out⟩
    ·have hki:¬ (k:Int)<(l.length:Int):=by omega
     obtain rfl:k=l.length:=by omega
     have h2:=HROW.out;rw [List.take_length] at h2;have HROW2:=hid h2;have HQ:=hid (show ∀ r∈folRows l,r.length=(folRows l).length from fun r hr=>by
      obtain⟨p,_,rfl⟩:=List.mem_map.1 hr
      simp [folRow,folRows])
     clear h2 HROW HG hk0 hkb hki hk hlt;go_upto_region 23 with fail
     go_loopg [87] l.length (fun g v87 W=>∃ k:Nat,k≤l.length∧l.length≤k+g∧v87=.int .i64 k∧(∀ j p,j<k→l[j]?=some p→¬ ringA l p)∧Below w1.heap.size w1 W)
     case atStart=>exact⟨0,Nat.zero_le _,by omega,rfl,fun j p hj=>absurd hj (Nat.not_lt_zero _),Below.refl _ _⟩
     case round =>
      obtain⟨k,hk,hg,rfl,hno,hb⟩:=hrel
      rename World=>w3
      have HG:=hid hg;have HNO:=hid hno;have B3:=hid (HB1.out.then hb);have ROW3:=hid (HROW2.out.below hb);have HF3:=hid (bk hb HF1.out);have HB3:=hid hb;have hk0:(0:Int)≤(k:Int):=by omega
      have hkb:(k:Int)≤1000:=by have:=HN.out;omega
      clear hg hno hb
      by_cases hlt:k<l.length
      ·have hki:(k:Int)<(l.length:Int):=by omega
       have RE:=hid (areaches_any w3 _ (folRows l) k ROW3.out.rd HQ.out (by simpa [folRows] using hlt) (by simpa [folRows] using HN.out));have HRI:=hid (ring_iff HND.out hlt);rw [← fol_edge] at HRI;have HGET:=hid (List.getElem?_eq_getElem hlt);generalize l[k]'hlt=y at *
       obtain⟨r0,r1,rf0,rf1,rlt⟩:=Qq HF3.out
       go_wp2_with fail;refine RE.out.mono ?_;rintro e w5 ⟨⟨br,rfl,hbr⟩,hb5⟩;have HBR:=hid hbr;have B5:=hid (B3.out.then hb5);have HB5:=hid (HB3.out.then hb5);have HF5:=hid (bk hb5 HF3.out);clear hbr hb5 r0 r1 rf0 rf1 rlt RE HF3 B3 HB3 ROW3
       obtain⟨r0,r1,rf0,rf1,rlt⟩:=Qq HF5.out
       cases br with
       | true =>
        have HO:=hid (show AlOut l 210 k from Or.inr (Or.inl ⟨HBAD.out,rfl,⟨y,HGET.out,HRI.out.2 (HBR.out.1 rfl)⟩,HNO.out⟩));go_wp2_with fail;change bodyPost _ _ _ _ _ (P2 w5 w.heap.size (.int .i64 (210:Nat)) (.int .i64 (k:Nat)));exact anew_ret HF5.out B5.out HO.out (fun h=>by cases h) (fun _=>rfl) rfl rfl rfl
       | false =>
        go_wp2_with fail
        go_roundg (gk - 1)
        case measure=>have:=HG.out;omega
        case rel =>
         refine⟨k+1,by omega,by have:=HG.out;omega,by simp,fun j p hj hp=>?_,HB5.out⟩
         by_cases hjk:j=k
         ·subst hjk;rw [HGET.out] at hp
          cases hp;intro hr
          have:=HBR.out.2 (HRI.out.1 hr)
          cases this
         ·exact HNO.out j p (by omega) hp
      ·have hki:¬ (k:Int)<(l.length:Int):=by omega
       obtain rfl:k=l.length:=by omega
       have HO:=hid (show AlOut l 0 0 from Or.inr (Or.inr ⟨HBAD.out,rfl,rfl,fun p hp=>by
        obtain⟨j,hj,rfl⟩:=List.getElem_of_mem hp
        exact HNO.out j _ hj (List.getElem?_eq_getElem hj)⟩))
       have CL:=hid (cloneP_any w3 (.slice av l.length cv) l (HL.out.below B3.out) HN.out);clear HG HNO ROW3 HROW2 HQ hk0 hkb hki hk HB3;go_wp2_with fail;refine CL.out.mono ?_;rintro e w4 ⟨v4,rfl,ho4,hb4⟩
       obtain⟨a4,c4,rfl⟩:=Ql ho4
       have O4:=hid ho4;have B4:=hid (B3.out.then hb4);have HF4:=hid (bk hb4 HF3.out);have HSZ4:=hid (Nat.le_trans B3.out.size (Nat.le_refl _));clear ho4 hb4 B3 HF3 CL;have F5:=hid (heap_alloc_new w4 (.cells #[.slice a4 l.length c4] 141));have HA5:=hid (bal w4 (.cells #[.slice a4 l.length c4] 141));have O5:=hid (show Qd (w4.alloc (.cells #[.slice a4 l.length c4] 141)) w3.heap.size (.slice a4 l.length c4) l from Qz O4.out HA5.out);have B5:=hid (B4.out.then HA5.out);have HF5:=hid (bk HA5.out HF4.out);go_upto_region 29 with fail;generalize w4.alloc (.cells #[.slice a4 l.length c4] 141)=w5 at *;have HAB:=hid (show w.heap.size≤w4.heap.size from B4.out.size);generalize w4.heap.size=ab at *;clear O4 B4 HF4 HA5;have a0:w5.cell? ⟨ab,0,none⟩=some (.slice a4 l.length c4):=cR F5.out;have al:=lt_of_block F5.out;go_wp2_with fail
       refine(sortPairsAN w5 w3.heap.size _ l O5.out (by have:=HN.out;omega)).mono ?_
       rintro e w6 ⟨rfl,⟨l2,hp2,hs2,ho2⟩,gr⟩;obtain rfl:l2=Kh l:=srtK_one l l2 hp2 HND.out hs2;have O6:=hid ho2;have F6:=hid ((gr.block _ (lt_of_block F5.out) (fun e=>Qx O5.out F5.out (by decide) e.symm)).trans F5.out);have HF6:=hid ((gr.block _ (lt_of_block HF5.out) (fun e=>Qx O5.out HF5.out (by decide) e.symm)).trans HF5.out);have B6:=hid (B5.out.grown gr B5.out.size (fun k hk=>Nat.le_trans HSZ4.out (World.ownsRow.lt O5.out k hk).1));clear a0 al hp2 hs2 ho2 gr O5 F5 HF5 B5
       obtain⟨r0,r1,rf0,rf1,rlt⟩:=Qq HF6.out
       go_wp2_with fail;change bodyPost _ _ _ _ _ (P2 w6 w.heap.size (.int .i64 (0:Nat)) (.int .i64 (0:Nat)));refine anew_ret HF6.out B6.out HO.out (fun _=>?_) (fun h=>absurd rfl h) rfl rfl rfl;have hne:ab≠w.heap.size:=ne_row F6.out HF6.out (by decide)
       refine⟨ab,_,rfl,HAB.out,?_,ownP_monoS (show Qd (P2 w6 w.heap.size _ _) w3.heap.size (.slice a4 l.length c4) (Kh l) from P2_own _ _ O6.out (Qx O6.out HF6.out (by decide))) HSZ4.out⟩
       unfold P2;rw [heap_setCell_other _ _ _ _ hne,heap_setCell_other _ _ _ _ hne];exact F6.out
end
section
open Go.RowKit Go.Lib Go.Sort
theorem key_closurePF (bk:Nat)(key:Str)(x:Str×Str)(W:World)(hk:W.cell? ⟨bk,0,none⟩=some (S key))(hb:bk<W.heap.size) :
  Calls Tryz.prog 112 #[.agg #[S x.1,S x.2],.pointer (some ⟨bk,0,none⟩)] W fun e w'=>e=.returned (.bool (x.1==key))∧Below W.heap.size W w':=by
 unfold S at hk ⊢
 go_enter Tryz.func112,Tryz.ntmps112
 go_wp2
 all_goals go_ret
 all_goals refine⟨Qs ?_,?_⟩
 all_goals first | exact bal _ _ | simp [Lib.toList_data]
theorem key_predPF (w:World)(bk:Nat)(key:Str)(hk:w.heap[bk]?=some (.cells #[S key] 9 (0,0))) :
  PredBelow Tryz.prog 112 #[.pointer (some ⟨bk,0,none⟩)] (fun x=>.agg (Jh x).toArray) (fun x=>x.1==key) w:=by
 intro W x hb;have hlt:=lt_of_block hk;have h:=key_closurePF bk key x W ((hb.cell (p:=⟨bk,0,none⟩) hlt).trans (cell_of_one hk)) (Nat.lt_of_lt_of_le hlt hb.size);exact h.mono fun e w' hh=>⟨hh.1,hb.then hh.2⟩
theorem indexFunc_nilPF (lb:Array Value)(w:World) :
  Calls Tryz.prog 102 #[.slice none 0 0,.func (.func 112) #[] lb] w fun e w'=>e=.returned (.int .i64 (-1))∧w'=w:=by
 go_enter Tryz.func102,Tryz.ntmps102
 go_wp2
 refine wp_loop_rounds 1 ?_;rw [rounds_succ]
 go_wp2
 go_ret
 exact⟨rfl,rfl⟩
def idxK (l:List (Str×Str))(key:Str):Int:=Lib.idxBy (fun _ (y:Str×Str)=>y.1==key) l default
theorem idxK_cases (l:List (Str×Str))(key:Str):(idxK l key=-1∧∀ k∈l,k.1≠key)∨∃ n,∃ hn:n<l.length,idxK l key=(n:Int)∧(l[n]'hn).1=key∧∀ j (hj:j<n),(l[j]'(by omega)).1≠key:=by
 by_cases hk:l.findIdx (fun y=>y.1==key)<l.length
 ·have h1:(l[l.findIdx (fun y=>y.1==key)]'hk).1==key:=List.findIdx_getElem (w:=hk);have h2:∀ j (hj:j<l.findIdx (fun y=>y.1==key)),((l[j]'(by omega)).1==key)=false:=fun j hj=>by
   have:=List.not_of_lt_findIdx hj
   simpa using this
  refine Or.inr ⟨_,hk,?_,by simpa using h1,fun j hj e=>by have:=h2 j hj;rw [e] at this;simp at this⟩
  have:=Lib.idxBy_hit (fun _ (y:Str×Str)=>y.1==key) l l.length _ default hk (Nat.le_refl _) (by rw [getElem!_pos l _ hk];exact h1) (fun j hj=>by rw [getElem!_pos l j (by omega)];exact h2 j hj)
  rwa [List.take_length] at this
 ·have h2:∀ k∈l,k.1≠key:=fun x hx e=>by
   have:l.findIdx (fun y=>y.1==key)<l.length:=List.findIdx_lt_length.2 ⟨x,hx,by simp [e]⟩
   exact hk this
  refine Or.inl ⟨?_,h2⟩
  have:=Lib.idxBy_miss (fun _ (y:Str×Str)=>y.1==key) l l.length default (fun j hj=>by rw [getElem!_pos l j hj];exact beq_eq_false_iff_ne.2 (h2 _ (List.getElem_mem hj)))
  rwa [List.take_length] at this
theorem idxKeys (w:World)(v:Value)(l:List (Str×Str))(bk:Nat)(key:Str)(h:RdP w v l)(hl:l.length≤1000)(hp:∀ a n c,v=.slice (some a) n c→∃ p o,a=⟨p,o,none⟩∧p<w.heap.size)(hk:w.heap[bk]?=some (.cells #[S key] 9 (0,0))) :
  Calls Tryz.prog 102 #[v,.func (.func 112) #[] #[.pointer (some ⟨bk,0,none⟩)]] w fun e w'=>e=.returned (.int .i64 (idxK l key))∧Below w.heap.size w w':=by
 have eg:∀ args w,(callFunc 112 args).run Tryz.prog w=.ok (.enter 112 args) w:=enters_of Tryz.func112 (by kernel_rfl) rfl
 obtain⟨ao,cp,rfl,hl1,_⟩:=id h
 cases ao with
 | none =>
  obtain⟨hn,rfl⟩:=hl1.2 rfl
  subst hn
  exact(indexFunc_nilPF _ w).mono fun e w' hh=>⟨hh.1,hh.2 ▸ Below.refl _ _⟩
 | some a =>
  obtain⟨p,o,rfl,hlt⟩:=hp a _ _ rfl
  have hc:=AnyQ.slices_IndexFunc (ρ:=Tryz.cfPair_ren) { Tryz.cfPair with } 2 Tryz.isAgg76 Tryz.sizeOf76 Jh (fun _=>rfl) (fun x=>x.1==key) 112 #[.pointer (some ⟨bk,0,none⟩)] eg p o l.length cp l w (key_predPF w bk key hk) (Nat.le_refl _) (by omega) hlt (rd_cells2 h rfl);change Calls Tryz.prog 102 _ _ _ at hc;rw [List.take_length] at hc;exact hc
theorem pprint_gen (w:World)(u:Value)(zs:List (Stp×(Option Addr×Nat)))(hu:RdL Xf w u zs)(hk:∀ z∈zs,RdP w (Qt z) z.1.2)(hm:∀ z∈zs,mayB z.1=true∧(Zw z.1).length≤1073741824)(hz:zs.length≤1000000000) :
  Calls Tryz.prog 49 #[u] w fun e w'=>e=.returned (.tuple #[.string ⟨(putT (zs.map (·.1))).toArray⟩,.int .i64 (putE (zs.map (·.1)))])∧Below w.heap.size w w':=by
 have PT:=hid (put_gen1 w u zs hu hk hm hz)
 obtain⟨au,cu,rfl,_⟩:=hu.slice
 clear hu hk hm hz
 go_enter Tryz.func49,Tryz.ntmps49
 go_wp2_with (go_at_call 89;refine PT.out.mono ?_;rintro e w6 ⟨rfl,hb6⟩)
 exact bodyPost_ret (v:=.tuple #[.string ⟨(putT (zs.map (·.1))).toArray⟩,.int .i64 (putE (zs.map (·.1)))]) (by simp [results,Tryz.results49,go_sem]) rfl ⟨rfl,hb6⟩
theorem pfind_any (w:World)(n:Str)(ks:List (Str×Str))(a:Option Addr)(c:Nat)(key:Str)(h:RdP w (.slice a ks.length c) ks)(hl:ks.length≤1000)(hp:∀ x,a=some x→∃ p o,x=⟨p,o,none⟩∧p<w.heap.size) :
  Calls Tryz.prog 87 #[.agg #[.string ⟨n.toArray⟩,.slice a ks.length c],.string ⟨key.toArray⟩] w fun e w'=>e=.returned (.int .i64 (idxK ks key))∧Below w.heap.size w w':=by
 have B0:=hid (below2 w (.cells #[.string ⟨n.toArray⟩,.slice a ks.length c] 106) (.cells #[.string ⟨key.toArray⟩] 9));have G0:=hid (show((w.alloc (.cells #[.string ⟨n.toArray⟩,.slice a ks.length c] 106)).alloc (.cells #[.string ⟨key.toArray⟩] 9)).heap[w.heap.size]?=some (.cells #[.string ⟨n.toArray⟩,.slice a ks.length c] 106 (0,0)) from(Below.heap_alloc _ _ _ (lt_of_block (heap_alloc_new w _))).trans (heap_alloc_new w _));have H0:=hid (show((w.alloc (.cells #[.string ⟨n.toArray⟩,.slice a ks.length c] 106)).alloc (.cells #[.string ⟨key.toArray⟩] 9)).heap[w.heap.size+1]?=some (.cells #[.string ⟨key.toArray⟩] 9 (0,0)) from by
  have:=heap_alloc_new (w.alloc (.cells #[.string ⟨n.toArray⟩,.slice a ks.length c] 106)) (.cells #[.string ⟨key.toArray⟩] 9)
  rw [show(w.alloc (.cells #[.string ⟨n.toArray⟩,.slice a ks.length c] 106)).heap.size=w.heap.size+1 by simp] at this;exact this)
 have IX:=hid (idxKeys _ (.slice a ks.length c) ks (w.heap.size+1) key (h.below B0.out) hl (fun x m c' e=>by
  cases e
  obtain⟨p,o,e2,hlt⟩:=hp x rfl
  exact⟨p,o,e2,Nat.lt_of_lt_of_le hlt B0.out.size⟩) H0.out)
 clear h hp
 go_enter Tryz.func87,Tryz.ntmps87
 go_upto_region 1 with fail;generalize (w.alloc (.cells #[.string ⟨n.toArray⟩,.slice a ks.length c] 106)).alloc (.cells #[.string ⟨key.toArray⟩] 9)=w1 at *
 obtain⟨a0,a1,_,_,al⟩:=Qq G0.out
 go_wp2_with (go_at_call 102;refine IX.out.mono ?_;rintro e w2 ⟨rfl,hb⟩;have B2:=hid (B0.out.then hb);clear hb)
 exact bodyPost_ret (v:=.int .i64 (idxK ks key)) (by simp [results,Tryz.results87,go_sem]) rfl ⟨rfl,B2.out⟩
end
end Go.Proofs.YtbbmdbolkicpcaaGreatDoor
