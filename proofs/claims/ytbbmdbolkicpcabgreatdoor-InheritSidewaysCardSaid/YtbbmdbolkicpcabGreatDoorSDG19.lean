/- AlChk, RegInvIn, SlDel, ChMem, ChPar, ChUp, AlWay, ChRings -/
import Derived.Test.YtbbmdbolkicpcabGreatDoorSDG16
import Derived.Test.YtbbmdbolkicpcabGreatDoorSDG18
import Derived.OrdersIn
import Derived.Test.YtbbmdbolkicpcabGreatDoorSDG05
import Derived.Deep.RegionLaw
import Derived.Lib.SliceRun
import Derived.Shelf.RegionOpenPlain
import Derived.BigQuiet
import Derived.Test.YtbbmdbolkicpcabGreatDoorSDG08
import Derived.Test.YtbbmdbolkicpcabGreatDoorSDG07
import Derived.Maps.OwnSet
import Derived.Maps.OwnOps
import Derived.Maps.StringElems
import Derived.Test.YtbbmdbolkicpcabGreatDoorSDG10
import Derived.Test.YtbbmdbolkicpcabGreatDoorSDG04
import Derived.Deep.Cut
import Derived.WalkMore
set_option maxRecDepth 100000
set_option maxHeartbeats 32000000
set_option linter.unusedVariables false
set_option linter.unusedSimpArgs false
namespace Go.Proofs.YtbbmdbolkicpcabGreatDoor
section
open Go.RowKit Go.Lib
def LL (listed:Array Bool)(j:Nat):Prop:=listed.getD j true=true
theorem LL.of {listed:Array Bool}{j:Nat}(h:listed.getD j false=true):LL listed j:=by
 unfold LL;rw[Array.getD_eq_getD_getElem?]at h ⊢
 cases e:listed[j]? with
 |none=>rfl
 |some b=>rw[e]at h;exact h
theorem LL.set {listed:Array Bool}{i j:Nat}(h:LL (listed.setIfInBounds i true) j):j=i∨LL listed j:=by
 by_cases e:j=i
 ·exact Or.inl e
 ·refine Or.inr ?_;unfold LL at h ⊢;rw[Array.getD_eq_getD_getElem?,Array.getElem?_setIfInBounds_ne (Ne.symm e),←Array.getD_eq_getD_getElem?]at h;exact h
theorem LL.mono {listed:Array Bool}{i j:Nat}(h:LL listed j):LL (listed.setIfInBounds i true) j:=by
 unfold LL at h ⊢;rw[Array.getD_eq_getD_getElem?]at h ⊢
 by_cases e:i=j
 ·subst e
  by_cases hs:i<listed.size
  ·rw[Array.getElem?_setIfInBounds_self_of_lt hs];rfl
  ·rw[Array.getElem?_eq_none (by simpa using hs)];rfl
 ·rw[Array.getElem?_setIfInBounds_ne e];exact h
theorem LLno {n j:Nat}(h:j<n):¬LL (Array.replicate n false) j:=by
 unfold LL;rw[Array.getD_eq_getD_getElem?,Array.getElem?_replicate,if_pos h]
 simp
def upd (f:Nat→Value)(d:Nat)(v:Value):Nat→Value:=fun k=>if k=d then v else f k
structure Gv (w2:World)(yb:Nat)(yk yv:Str)(listed:Array Bool)(f:Nat→Value)(W:World):Prop where
 b:Below w2.heap.size w2 W
 l0:LL listed 0→f 23=.pointer (some ⟨yb,0,none⟩)
 l1:LL listed 1→f 24=.string ⟨yk.toArray⟩
 l2:LL listed 2→∃(e:Nat) (x:Int),f 25=.agg #[.int .i64 e,.int .i64 x]∧(e=0↔Zv yk=true)
 l3:LL listed 3→f 26=.pointer (some ⟨yb,1,none⟩)
 l4:LL listed 4→f 27=.string ⟨yv.toArray⟩
 l5:LL listed 5→∃(e:Nat) (x:Int),f 28=.agg #[.int .i64 e,.int .i64 x]∧(e=0↔Zv yv=true)
 l6:LL listed 6→∃b z0 z1,f 6=.pointer (some ⟨b,0,none⟩)∧W.heap[b]?=some (.cells #[z0,z1] 78 (0,0))∧w2.heap.size≤b
 l7:LL listed 7→∃b z0 z1,f 7=.pointer (some ⟨b,0,none⟩)∧W.heap[b]?=some (.cells #[z0,z1] 78 (0,0))∧w2.heap.size≤b
 l67:LL listed 6→LL listed 7→f 6≠f 7
 l8:LL listed 8→LL listed 6∧∃(b e:Nat) (x:Int),f 6=.pointer (some ⟨b,0,none⟩)∧W.heap[b]?=some (.cells #[.int .i64 e,.int .i64 x] 78 (0,0))∧(e=0↔Zv yk=true)
 l9:LL listed 9→LL listed 7∧∃(b e:Nat) (x:Int),f 7=.pointer (some ⟨b,0,none⟩)∧W.heap[b]?=some (.cells #[.int .i64 e,.int .i64 x] 78 (0,0))∧(e=0↔Zv yv=true)
section
variable {w2 W W' : World}{yb:Nat}{yk yv:Str}{listed:Array Bool}{f:Nat→Value}
theorem Gv.world (h:Gv w2 yb yk yv listed f W)(hb:Below W.heap.size W W'):Gv w2 yb yk yv listed f W':=by
 refine⟨h.b.then hb,h.l0,h.l1,h.l2,h.l3,h.l4,h.l5,fun g=>?_,fun g=>?_,h.l67,fun g=>?_,fun g=>?_⟩
 ·obtain⟨b,z0,z1,h1,h2,h3⟩:=h.l6 g
  exact⟨b,z0,z1,h1,bk hb h2,h3⟩
 ·obtain⟨b,z0,z1,h1,h2,h3⟩:=h.l7 g
  exact⟨b,z0,z1,h1,bk hb h2,h3⟩
 ·obtain⟨h0,b,e,x,h1,h2,h3⟩:=h.l8 g
  exact⟨h0,b,e,x,h1,bk hb h2,h3⟩
 ·obtain⟨h0,b,e,x,h1,h2,h3⟩:=h.l9 g
  exact⟨h0,b,e,x,h1,bk hb h2,h3⟩
theorem Gv.n0 (h:Gv w2 yb yk yv listed f W)(v:Value)(hv:v=.pointer (some ⟨yb,0,none⟩)):Gv w2 yb yk yv (listed.setIfInBounds 0 true) (upd f 23 v) W:=by
 refine⟨h.b,?_,?_,?_,?_,?_,?_,?_,?_,?_,?_,?_⟩
 ·exact fun _=>by simpa[upd]using hv
 ·intro g
  rcases g.set with e|g
  ·exact absurd e (by decide)
  ·simpa[upd]using h.l1 g
 ·intro g
  rcases g.set with e|g
  ·exact absurd e (by decide)
  ·simpa[upd]using h.l2 g
 ·intro g
  rcases g.set with e|g
  ·exact absurd e (by decide)
  ·simpa[upd]using h.l3 g
 ·intro g
  rcases g.set with e|g
  ·exact absurd e (by decide)
  ·simpa[upd]using h.l4 g
 ·intro g
  rcases g.set with e|g
  ·exact absurd e (by decide)
  ·simpa[upd]using h.l5 g
 ·intro g
  rcases g.set with e|g
  ·exact absurd e (by decide)
  ·simpa[upd]using h.l6 g
 ·intro g
  rcases g.set with e|g
  ·exact absurd e (by decide)
  ·simpa[upd]using h.l7 g
 ·intro g6 g7
  rcases g6.set with e|g6
  ·exact absurd e (by decide)
  rcases g7.set with e|g7
  ·exact absurd e (by decide)
  ·simpa[upd]using h.l67 g6 g7
 ·intro g
  rcases g.set with e|g
  ·exact absurd e (by decide)
  ·obtain⟨h0,h1⟩:=h.l8 g
   exact⟨h0.mono,by simpa[upd]using h1⟩
 ·intro g
  rcases g.set with e|g
  ·exact absurd e (by decide)
  ·obtain⟨h0,h1⟩:=h.l9 g
   exact⟨h0.mono,by simpa[upd]using h1⟩
theorem Gv.n1 (h:Gv w2 yb yk yv listed f W)(v:Value)(hv:v=.string ⟨yk.toArray⟩):Gv w2 yb yk yv (listed.setIfInBounds 1 true) (upd f 24 v) W:=by
 refine⟨h.b,?_,?_,?_,?_,?_,?_,?_,?_,?_,?_,?_⟩
 ·intro g
  rcases g.set with e|g
  ·exact absurd e (by decide)
  ·simpa[upd]using h.l0 g
 ·exact fun _=>by simpa[upd]using hv
 ·intro g
  rcases g.set with e|g
  ·exact absurd e (by decide)
  ·simpa[upd]using h.l2 g
 ·intro g
  rcases g.set with e|g
  ·exact absurd e (by decide)
  ·simpa[upd]using h.l3 g
 ·intro g
  rcases g.set with e|g
  ·exact absurd e (by decide)
  ·simpa[upd]using h.l4 g
 ·intro g
  rcases g.set with e|g
  ·exact absurd e (by decide)
  ·simpa[upd]using h.l5 g
 ·intro g
  rcases g.set with e|g
  ·exact absurd e (by decide)
  ·simpa[upd]using h.l6 g
 ·intro g
  rcases g.set with e|g
  ·exact absurd e (by decide)
  ·simpa[upd]using h.l7 g
 ·intro g6 g7
  rcases g6.set with e|g6
  ·exact absurd e (by decide)
  rcases g7.set with e|g7
  ·exact absurd e (by decide)
  ·simpa[upd]using h.l67 g6 g7
 ·intro g
  rcases g.set with e|g
  ·exact absurd e (by decide)
  ·obtain⟨h0,h1⟩:=h.l8 g
   exact⟨h0.mono,by simpa[upd]using h1⟩
 ·intro g
  rcases g.set with e|g
  ·exact absurd e (by decide)
  ·obtain⟨h0,h1⟩:=h.l9 g
   exact⟨h0.mono,by simpa[upd]using h1⟩
theorem Gv.n2 (h:Gv w2 yb yk yv listed f W)(v:Value)(hv:∃(e:Nat)(x:Int),v=.agg #[.int .i64 e,.int .i64 x]∧(e=0↔Zv yk=true)):Gv w2 yb yk yv (listed.setIfInBounds 2 true) (upd f 25 v) W:=by
 refine⟨h.b,?_,?_,?_,?_,?_,?_,?_,?_,?_,?_,?_⟩
 ·intro g
  rcases g.set with e|g
  ·exact absurd e (by decide)
  ·simpa[upd]using h.l0 g
 ·intro g
  rcases g.set with e|g
  ·exact absurd e (by decide)
  ·simpa[upd]using h.l1 g
 ·exact fun _=>by simpa[upd]using hv
 ·intro g
  rcases g.set with e|g
  ·exact absurd e (by decide)
  ·simpa[upd]using h.l3 g
 ·intro g
  rcases g.set with e|g
  ·exact absurd e (by decide)
  ·simpa[upd]using h.l4 g
 ·intro g
  rcases g.set with e|g
  ·exact absurd e (by decide)
  ·simpa[upd]using h.l5 g
 ·intro g
  rcases g.set with e|g
  ·exact absurd e (by decide)
  ·simpa[upd]using h.l6 g
 ·intro g
  rcases g.set with e|g
  ·exact absurd e (by decide)
  ·simpa[upd]using h.l7 g
 ·intro g6 g7
  rcases g6.set with e|g6
  ·exact absurd e (by decide)
  rcases g7.set with e|g7
  ·exact absurd e (by decide)
  ·simpa[upd]using h.l67 g6 g7
 ·intro g
  rcases g.set with e|g
  ·exact absurd e (by decide)
  ·obtain⟨h0,h1⟩:=h.l8 g
   exact⟨h0.mono,by simpa[upd]using h1⟩
 ·intro g
  rcases g.set with e|g
  ·exact absurd e (by decide)
  ·obtain⟨h0,h1⟩:=h.l9 g
   exact⟨h0.mono,by simpa[upd]using h1⟩
theorem Gv.n3 (h:Gv w2 yb yk yv listed f W)(v:Value)(hv:v=.pointer (some ⟨yb,1,none⟩)):Gv w2 yb yk yv (listed.setIfInBounds 3 true) (upd f 26 v) W:=by
 refine⟨h.b,?_,?_,?_,?_,?_,?_,?_,?_,?_,?_,?_⟩
 ·intro g
  rcases g.set with e|g
  ·exact absurd e (by decide)
  ·simpa[upd]using h.l0 g
 ·intro g
  rcases g.set with e|g
  ·exact absurd e (by decide)
  ·simpa[upd]using h.l1 g
 ·intro g
  rcases g.set with e|g
  ·exact absurd e (by decide)
  ·simpa[upd]using h.l2 g
 ·exact fun _=>by simpa[upd]using hv
 ·intro g
  rcases g.set with e|g
  ·exact absurd e (by decide)
  ·simpa[upd]using h.l4 g
 ·intro g
  rcases g.set with e|g
  ·exact absurd e (by decide)
  ·simpa[upd]using h.l5 g
 ·intro g
  rcases g.set with e|g
  ·exact absurd e (by decide)
  ·simpa[upd]using h.l6 g
 ·intro g
  rcases g.set with e|g
  ·exact absurd e (by decide)
  ·simpa[upd]using h.l7 g
 ·intro g6 g7
  rcases g6.set with e|g6
  ·exact absurd e (by decide)
  rcases g7.set with e|g7
  ·exact absurd e (by decide)
  ·simpa[upd]using h.l67 g6 g7
 ·intro g
  rcases g.set with e|g
  ·exact absurd e (by decide)
  ·obtain⟨h0,h1⟩:=h.l8 g
   exact⟨h0.mono,by simpa[upd]using h1⟩
 ·intro g
  rcases g.set with e|g
  ·exact absurd e (by decide)
  ·obtain⟨h0,h1⟩:=h.l9 g
   exact⟨h0.mono,by simpa[upd]using h1⟩
theorem Gv.n4 (h:Gv w2 yb yk yv listed f W)(v:Value)(hv:v=.string ⟨yv.toArray⟩):Gv w2 yb yk yv (listed.setIfInBounds 4 true) (upd f 27 v) W:=by
 refine⟨h.b,?_,?_,?_,?_,?_,?_,?_,?_,?_,?_,?_⟩
 ·intro g
  rcases g.set with e|g
  ·exact absurd e (by decide)
  ·simpa[upd]using h.l0 g
 ·intro g
  rcases g.set with e|g
  ·exact absurd e (by decide)
  ·simpa[upd]using h.l1 g
 ·intro g
  rcases g.set with e|g
  ·exact absurd e (by decide)
  ·simpa[upd]using h.l2 g
 ·intro g
  rcases g.set with e|g
  ·exact absurd e (by decide)
  ·simpa[upd]using h.l3 g
 ·exact fun _=>by simpa[upd]using hv
 ·intro g
  rcases g.set with e|g
  ·exact absurd e (by decide)
  ·simpa[upd]using h.l5 g
 ·intro g
  rcases g.set with e|g
  ·exact absurd e (by decide)
  ·simpa[upd]using h.l6 g
 ·intro g
  rcases g.set with e|g
  ·exact absurd e (by decide)
  ·simpa[upd]using h.l7 g
 ·intro g6 g7
  rcases g6.set with e|g6
  ·exact absurd e (by decide)
  rcases g7.set with e|g7
  ·exact absurd e (by decide)
  ·simpa[upd]using h.l67 g6 g7
 ·intro g
  rcases g.set with e|g
  ·exact absurd e (by decide)
  ·obtain⟨h0,h1⟩:=h.l8 g
   exact⟨h0.mono,by simpa[upd]using h1⟩
 ·intro g
  rcases g.set with e|g
  ·exact absurd e (by decide)
  ·obtain⟨h0,h1⟩:=h.l9 g
   exact⟨h0.mono,by simpa[upd]using h1⟩
theorem Gv.n5 (h:Gv w2 yb yk yv listed f W)(v:Value)(hv:∃(e:Nat)(x:Int),v=.agg #[.int .i64 e,.int .i64 x]∧(e=0↔Zv yv=true)):Gv w2 yb yk yv (listed.setIfInBounds 5 true) (upd f 28 v) W:=by
 refine⟨h.b,?_,?_,?_,?_,?_,?_,?_,?_,?_,?_,?_⟩
 ·intro g
  rcases g.set with e|g
  ·exact absurd e (by decide)
  ·simpa[upd]using h.l0 g
 ·intro g
  rcases g.set with e|g
  ·exact absurd e (by decide)
  ·simpa[upd]using h.l1 g
 ·intro g
  rcases g.set with e|g
  ·exact absurd e (by decide)
  ·simpa[upd]using h.l2 g
 ·intro g
  rcases g.set with e|g
  ·exact absurd e (by decide)
  ·simpa[upd]using h.l3 g
 ·intro g
  rcases g.set with e|g
  ·exact absurd e (by decide)
  ·simpa[upd]using h.l4 g
 ·exact fun _=>by simpa[upd]using hv
 ·intro g
  rcases g.set with e|g
  ·exact absurd e (by decide)
  ·simpa[upd]using h.l6 g
 ·intro g
  rcases g.set with e|g
  ·exact absurd e (by decide)
  ·simpa[upd]using h.l7 g
 ·intro g6 g7
  rcases g6.set with e|g6
  ·exact absurd e (by decide)
  rcases g7.set with e|g7
  ·exact absurd e (by decide)
  ·simpa[upd]using h.l67 g6 g7
 ·intro g
  rcases g.set with e|g
  ·exact absurd e (by decide)
  ·obtain⟨h0,h1⟩:=h.l8 g
   exact⟨h0.mono,by simpa[upd]using h1⟩
 ·intro g
  rcases g.set with e|g
  ·exact absurd e (by decide)
  ·obtain⟨h0,h1⟩:=h.l9 g
   exact⟨h0.mono,by simpa[upd]using h1⟩
theorem Gv.n6 (h:Gv w2 yb yk yv listed f W)(v:Value)(hv:∃b z0 z1,v=.pointer (some ⟨b,0,none⟩)∧W.heap[b]?=some (.cells #[z0,z1] 78 (0,0))∧w2.heap.size≤b)(hn:LL listed 7→v≠f 7)(hun:¬LL listed 8):Gv w2 yb yk yv (listed.setIfInBounds 6 true) (upd f 6 v) W:=by
 refine⟨h.b,?_,?_,?_,?_,?_,?_,?_,?_,?_,?_,?_⟩
 ·intro g
  rcases g.set with e|g
  ·exact absurd e (by decide)
  ·simpa[upd]using h.l0 g
 ·intro g
  rcases g.set with e|g
  ·exact absurd e (by decide)
  ·simpa[upd]using h.l1 g
 ·intro g
  rcases g.set with e|g
  ·exact absurd e (by decide)
  ·simpa[upd]using h.l2 g
 ·intro g
  rcases g.set with e|g
  ·exact absurd e (by decide)
  ·simpa[upd]using h.l3 g
 ·intro g
  rcases g.set with e|g
  ·exact absurd e (by decide)
  ·simpa[upd]using h.l4 g
 ·intro g
  rcases g.set with e|g
  ·exact absurd e (by decide)
  ·simpa[upd]using h.l5 g
 ·exact fun _=>by simpa[upd]using hv
 ·intro g
  rcases g.set with e|g
  ·exact absurd e (by decide)
  ·simpa[upd]using h.l7 g
 ·intro g6 g7
  rcases g7.set with e|g7
  ·exact absurd e (by decide)
  ·simpa[upd]using hn g7
 ·intro g
  rcases g.set with e|g
  ·exact absurd e (by decide)
  ·exact absurd g hun
 ·intro g
  rcases g.set with e|g
  ·exact absurd e (by decide)
  ·obtain⟨h0,h1⟩:=h.l9 g
   exact⟨h0.mono,by simpa[upd]using h1⟩
theorem Gv.n7 (h:Gv w2 yb yk yv listed f W)(v:Value)(hv:∃b z0 z1,v=.pointer (some ⟨b,0,none⟩)∧W.heap[b]?=some (.cells #[z0,z1] 78 (0,0))∧w2.heap.size≤b)(hn:LL listed 6→f 6≠v)(hun:¬LL listed 9):Gv w2 yb yk yv (listed.setIfInBounds 7 true) (upd f 7 v) W:=by
 refine⟨h.b,?_,?_,?_,?_,?_,?_,?_,?_,?_,?_,?_⟩
 ·intro g
  rcases g.set with e|g
  ·exact absurd e (by decide)
  ·simpa[upd]using h.l0 g
 ·intro g
  rcases g.set with e|g
  ·exact absurd e (by decide)
  ·simpa[upd]using h.l1 g
 ·intro g
  rcases g.set with e|g
  ·exact absurd e (by decide)
  ·simpa[upd]using h.l2 g
 ·intro g
  rcases g.set with e|g
  ·exact absurd e (by decide)
  ·simpa[upd]using h.l3 g
 ·intro g
  rcases g.set with e|g
  ·exact absurd e (by decide)
  ·simpa[upd]using h.l4 g
 ·intro g
  rcases g.set with e|g
  ·exact absurd e (by decide)
  ·simpa[upd]using h.l5 g
 ·intro g
  rcases g.set with e|g
  ·exact absurd e (by decide)
  ·simpa[upd]using h.l6 g
 ·exact fun _=>by simpa[upd]using hv
 ·intro g6 g7
  rcases g6.set with e|g6
  ·exact absurd e (by decide)
  ·simpa[upd]using hn g6
 ·intro g
  rcases g.set with e|g
  ·exact absurd e (by decide)
  ·obtain⟨h0,h1⟩:=h.l8 g
   exact⟨h0.mono,by simpa[upd]using h1⟩
 ·intro g
  rcases g.set with e|g
  ·exact absurd e (by decide)
  ·exact absurd g hun
theorem Gv.n8 (h:Gv w2 yb yk yv listed f W)(g6:LL listed 6)(bb e:Nat)(x:Int)(hf:f 6=.pointer (some ⟨bb,0,none⟩))(he:e=0↔Zv yk=true):Gv w2 yb yk yv (listed.setIfInBounds 8 true) f (P2 W bb (.int .i64 e) (.int .i64 x)):=by
 obtain⟨b0,z0,z1,k1,k2,k3⟩:=h.l6 g6
 obtain rfl:bb=b0:=by
  rw[hf]at k1
  injection k1 with k1
  injection k1 with k1
  injection k1
 have hrow:=Xy (.int .i64 e) (.int .i64 x) k2;have ho:∀c cs ty,c≠bb→W.heap[c]?=some (.cells cs ty (0,0))→(P2 W bb (.int .i64 e) (.int .i64 x)).heap[c]?=some (.cells cs ty (0,0)):=fun c cs ty hc hk=>by
  unfold P2;rw[heap_setCell_other _ _ _ _ hc,heap_setCell_other _ _ _ _ hc];exact hk
 refine⟨Zr _ _ h.b k3,?_,?_,?_,?_,?_,?_,?_,?_,?_,?_,?_⟩
 ·intro g
  rcases g.set with e' |g
  ·exact absurd e' (by decide)
  ·exact h.l0 g
 ·intro g
  rcases g.set with e' |g
  ·exact absurd e' (by decide)
  ·exact h.l1 g
 ·intro g
  rcases g.set with e' |g
  ·exact absurd e' (by decide)
  ·exact h.l2 g
 ·intro g
  rcases g.set with e' |g
  ·exact absurd e' (by decide)
  ·exact h.l3 g
 ·intro g
  rcases g.set with e' |g
  ·exact absurd e' (by decide)
  ·exact h.l4 g
 ·intro g
  rcases g.set with e' |g
  ·exact absurd e' (by decide)
  ·exact h.l5 g
 ·intro _
  exact⟨bb,_,_,hf,hrow,k3⟩
 ·intro g
  rcases g.set with e' |g
  ·exact absurd e' (by decide)
  ·obtain⟨c,y0,y1,m1,m2,m3⟩:=h.l7 g
   refine⟨c,y0,y1,m1,ho c _ _ ?_ m2,m3⟩
   rintro rfl;exact h.l67 g6 g (by rw[m1,hf])
 ·intro a b
  rcases a.set with e' |a
  ·exact absurd e' (by decide)
  rcases b.set with e' |b
  ·exact absurd e' (by decide)
  ·exact h.l67 a b
 ·intro _
  exact⟨g6.mono,bb,e,x,hf,hrow,he⟩
 ·intro g
  rcases g.set with e' |g
  ·exact absurd e' (by decide)
  ·obtain⟨h0,c,e1,x1,m1,m2,m3⟩:=h.l9 g
   refine⟨h0.mono,c,e1,x1,m1,ho c _ _ ?_ m2,m3⟩
   rintro rfl;exact h.l67 g6 h0 (by rw[m1,hf])
theorem Gv.n9 (h:Gv w2 yb yk yv listed f W)(g6:LL listed 7)(bb e:Nat)(x:Int)(hf:f 7=.pointer (some ⟨bb,0,none⟩))(he:e=0↔Zv yv=true):Gv w2 yb yk yv (listed.setIfInBounds 9 true) f (P2 W bb (.int .i64 e) (.int .i64 x)):=by
 obtain⟨b0,z0,z1,k1,k2,k3⟩:=h.l7 g6
 obtain rfl:bb=b0:=by
  rw[hf]at k1
  injection k1 with k1
  injection k1 with k1
  injection k1
 have hrow:=Xy (.int .i64 e) (.int .i64 x) k2;have ho:∀c cs ty,c≠bb→W.heap[c]?=some (.cells cs ty (0,0))→(P2 W bb (.int .i64 e) (.int .i64 x)).heap[c]?=some (.cells cs ty (0,0)):=fun c cs ty hc hk=>by
  unfold P2;rw[heap_setCell_other _ _ _ _ hc,heap_setCell_other _ _ _ _ hc];exact hk
 refine⟨Zr _ _ h.b k3,?_,?_,?_,?_,?_,?_,?_,?_,?_,?_,?_⟩
 ·intro g
  rcases g.set with e' |g
  ·exact absurd e' (by decide)
  ·exact h.l0 g
 ·intro g
  rcases g.set with e' |g
  ·exact absurd e' (by decide)
  ·exact h.l1 g
 ·intro g
  rcases g.set with e' |g
  ·exact absurd e' (by decide)
  ·exact h.l2 g
 ·intro g
  rcases g.set with e' |g
  ·exact absurd e' (by decide)
  ·exact h.l3 g
 ·intro g
  rcases g.set with e' |g
  ·exact absurd e' (by decide)
  ·exact h.l4 g
 ·intro g
  rcases g.set with e' |g
  ·exact absurd e' (by decide)
  ·exact h.l5 g
 ·intro g
  rcases g.set with e' |g
  ·exact absurd e' (by decide)
  ·obtain⟨c,y0,y1,m1,m2,m3⟩:=h.l6 g
   refine⟨c,y0,y1,m1,ho c _ _ ?_ m2,m3⟩
   rintro rfl;exact h.l67 g g6 (by rw[m1,hf])
 ·intro _
  exact⟨bb,_,_,hf,hrow,k3⟩
 ·intro a b
  rcases a.set with e' |a
  ·exact absurd e' (by decide)
  rcases b.set with e' |b
  ·exact absurd e' (by decide)
  ·exact h.l67 a b
 ·intro g
  rcases g.set with e' |g
  ·exact absurd e' (by decide)
  ·obtain⟨h0,c,e1,x1,m1,m2,m3⟩:=h.l8 g
   refine⟨h0.mono,c,e1,x1,m1,ho c _ _ ?_ m2,m3⟩
   rintro rfl;exact h.l67 h0 g6 (by rw[m1,hf])
 ·intro _
  exact⟨g6.mono,bb,e,x,hf,hrow,he⟩
theorem Dz {P:Program}{ops:Array Oper}{Q:Exit→Act→World→Prop}{i:Nat}{K:Act→World→Prop}{a:Act}{w:World}{o:Oper}(h:ops[i]?=some o)(hg:o.guard=none)(hw:o.wp P a w K Q):wpOp P ops Q i K a w:=by
 unfold wpOp;rw[h];simp only[Region.wanted,hg,if_true];exact Or.inl hw
end
end
section
section
variable {F:Fence}{n:Nat}{P:Program}{ops:Array Oper}{Q:Exit→Act→World→Prop}{md:Region.Mode}
theorem Qhq (I:Array Bool→Act→World→Prop)(step:∀listed a w i,I listed a w→i∈Region.ready md ops listed→wpOpIn F n P ops Q i (fun a' w'=>I (listed.setIfInBounds i true) a' w') a w)
  (done:∀listed a w,I listed a w→Region.ready md ops listed=[]→Q .normal a w):∀(fuel:Nat)(listed:Array Bool)(a:Act)(w:World),I listed a w→unl ops.size listed≤fuel→wpAnyIn F n P md ops Q fuel listed a w
 |0,listed,a,w,h,hf=>by
  have hr:Region.ready md ops listed=[]:=by
   rw[List.eq_nil_iff_forall_not_mem];intro i hi
   obtain⟨h1,oi,h2,_⟩:=mem_ready.1 hi
   have:i∈(List.range ops.size).filter fun i=>!listed.getD i true:=List.mem_filter.2 ⟨List.mem_range.2 (Array.getElem?_eq_some_iff.1 h2).1,by rw[h1];rfl⟩
   have:=List.length_pos_of_mem this
   unfold unl at hf
   omega
  exact⟨hr,done _ _ _ h hr⟩
 |fuel+1,listed,a,w,h,hf=>⟨fun hr=>done _ _ _ h hr,fun i hi=>by
  obtain⟨h1,oi,h2,_⟩:=mem_ready.1 hi
  have:=Xnw (Array.getElem?_eq_some_iff.1 h2).1 h1
  exact wpOpIn_mono (fun a' w' h'=>Qhq I step done fuel _ a' w' h' (by omega)) (step _ _ _ _ h hi)⟩
theorem Qgz {id:Nat}{a:Act}{w:World}(hm:P.follows .mixedOrders=true)(hd:depsB ops=true)(ds:List Nat)(I:Array Bool→(Nat→Value)→World→Prop)(h0:∀f0,I (Array.replicate ops.size false) f0 { w with drawn:=w.drawn+1 })
  (step:∀listed f W i,I listed f W→listed.getD i true=false→∀oi,ops[i]?=some oi→(∀e∈oi.after,Region.binds .any e=true→listed.getD e.on false=true)→wpOpIn F n P ops Q i (fun a' W'=>∃f',a'=Yz a ds f'∧I (listed.setIfInBounds i true) f' W') (Yz a ds f) W)
  (done:∀listed f W,I listed f W→(∀i,i<ops.size→listed.getD i true=true)→Q .normal (Yz a ds f) W):(Code.region id ops true).wpIn F n P Q a w:=by
 refine wpIn_region_any hm (Qhq (fun listed a' W=>(∃f,a'=Yz a ds f∧I listed f W)∧listed.size=ops.size) ?_ ?_ ops.size _ a _ ⟨⟨_,(Zyw a ds).symm,h0 _⟩,by simp⟩ ?_)
 ·rintro listed a' W i ⟨⟨f,rfl,hI⟩,hs⟩ hi
  obtain⟨h1,oi,h2,h3⟩:=mem_ready.1 hi
  exact wpOpIn_mono (fun a' w' h=>⟨h,by simpa using hs⟩) (step listed f W i hI h1 oi h2 h3)
 ·rintro listed a' W ⟨⟨f,rfl,hI⟩,hs⟩ hr;exact done listed f W hI (Zyy hr hs hd)
 ·unfold unl;refine Nat.le_trans (List.length_filter_le _ _) ?_
  simp
theorem Vm {i:Nat}{K:Act→World→Prop}{a:Act}{w:World}{o:Oper}(h:ops[i]?=some o)(hg:o.guard=none)(hw:o.wpIn F n P a w K Q):wpOpIn F n P ops Q i K a w:=by
 unfold wpOpIn;rw[h];simp only[Region.wanted,hg,if_true];exact hw
theorem LL.no {listed:Array Bool}{i:Nat}(h:listed.getD i true=false):¬LL listed i:=fun g=>by
 unfold LL at g;rw[h]at g
 cases g
theorem LL.size {listed:Array Bool}{i:Nat}(h:listed.getD i true=false):i<listed.size:=by
 rcases Nat.lt_or_ge i listed.size with h' |h'
 ·exact h'
 ·simp[Array.getD,Nat.not_lt.2 h']at h
structure RgI (b c s:Nat)(vals:Nat→Value)(W0:World)(Pc Ps:World→Prop)(listed:Array Bool)(f:Nat→Value)(W:World):Prop where
 vals:∀j,j<s→LL listed j→f (b+j)=vals j
 w0:¬LL listed c→W=W0
 wc:LL listed c→¬LL listed s→Pc W
 ws:LL listed s→Ps W
 sc:LL listed s→LL listed c
theorem RgI.start {b c s m:Nat}{vals:Nat→Value}{W0:World}{Pc Ps:World→Prop}{f:Nat→Value}(hc:c<m)(hs:s<m):RgI b c s vals W0 Pc Ps (Array.replicate m false) f W0 :=
 ⟨fun j hjs hj=>absurd hj (LLno (Nat.lt_trans hjs hs)),fun _=>rfl,fun h=>absurd h (LLno hc),fun h=>absurd h (LLno hs),fun h=>absurd h (LLno hs)⟩
theorem LL.other {listed:Array Bool}{i j:Nat}(hne:j≠i):LL (listed.setIfInBounds i true) j↔LL listed j :=
 ⟨fun h=>by
  rcases h.set with e|h
  ·exact absurd e hne
  ·exact h,fun h=>h.mono⟩
theorem RgI.val {b c s : Nat} {vals : Nat → Value} {W0 : World} {Pc Ps : World → Prop} {listed : Array Bool} {f : Nat → Value} {W : World} (h : RgI b c s vals W0 Pc Ps listed f W) (i : Nat) (hc : i ≠ c) (hs : i ≠ s) :
    RgI b c s vals W0 Pc Ps (listed.setIfInBounds i true) (upd f (b + i) (vals i)) W :=
  ⟨fun j hjs hj => by
    by_cases e:j=i
    · subst e;simp[upd]
    · have:b + j≠b + i := by omega
      simp only[upd,if_neg this]
      exact h.vals j hjs ((LL.other e).1 hj),
   fun g => h.w0 fun g' => g g'.mono,fun g1 g2 => h.wc ((LL.other (Ne.symm hc)).1 g1) fun g' => g2 g'.mono,fun g => h.ws ((LL.other (Ne.symm hs)).1 g),fun g => (h.sc ((LL.other (Ne.symm hs)).1 g)).mono⟩
theorem RgI.call {b c s : Nat} {vals : Nat → Value} {W0 : World} {Pc Ps : World → Prop} {listed : Array Bool} {f : Nat → Value} {W W' : World} (h : RgI b c s vals W0 Pc Ps listed f W) (hcs : c ≠ s) (hun : ¬ LL listed c) (hP : Pc W') (hin : c < listed.size) :
    RgI b c s vals W0 Pc Ps (listed.setIfInBounds c true) (upd f (b + c) (vals c)) W' :=
  ⟨fun j hjs hj => by
    by_cases e:j=c
    · subst e;simp[upd]
    · have:b + j≠b + c := by omega
      simp only[upd,if_neg this]
      exact h.vals j hjs ((LL.other e).1 hj),
   fun g => by
    refine absurd ?_ g
    unfold LL
    rw[Array.getD_eq_getD_getElem?,Array.getElem?_setIfInBounds_self_of_lt hin];rfl,fun _ _ => hP,fun g => absurd (h.sc ((LL.other (Ne.symm hcs)).1 g)) hun,fun g => absurd (h.sc ((LL.other (Ne.symm hcs)).1 g)) hun⟩
theorem RgI.store {b c s:Nat}{vals:Nat→Value}{W0:World}{Pc Ps:World→Prop}{listed:Array Bool}{f:Nat→Value}{W W':World}(h:RgI b c s vals W0 Pc Ps listed f W)(hcs:c≠s)(hc:LL listed c)(hP:Ps W')(hin:s<listed.size) :
  RgI b c s vals W0 Pc Ps (listed.setIfInBounds s true) f W' :=
 ⟨fun j hjs hj=>h.vals j hjs ((LL.other (Nat.ne_of_lt hjs)).1 hj),fun g=>absurd hc.mono g,fun _ g2=>by
  refine absurd ?_ g2;unfold LL;rw[Array.getD_eq_getD_getElem?,Array.getElem?_setIfInBounds_self_of_lt hin];rfl,fun _=>hP,fun _=>hc.mono⟩
end
end
section
open Go.RowKit Go.Lib
theorem Rh (a b:List (Str×Str)):Kz (a++b)=Kz a++Kz b:=by simp[Kz]
theorem Xbz (l:List (Str×Str))(i:Nat)(h:i≤l.length):Kz (l.take i)=(Kz l).take (i * 2):=by
 have e:Kz l=Kz (l.take i)++Kz (l.drop i):=by rw[←Rh,List.take_append_drop]
 rw[e,List.take_left' (by rw[Kn,List.length_take,Nat.min_eq_left h])]
theorem Xbx (l:List (Str×Str))(i:Nat)(h:i≤l.length):Kz (l.drop i)=(Kz l).drop (i * 2):=by
 have e:Kz l=Kz (l.take i)++Kz (l.drop i):=by rw[←Rh,List.take_append_drop]
 rw[e,List.drop_left' (by rw[Kn,List.length_take,Nat.min_eq_left h])]
theorem Dx (g:Nat)(ty:TypeId):∀(vs:List Value)(o:Nat)(w:World)(cs:Array Value),w.heap[g]?=some (.cells cs ty (0,0)) →
  ∃cs':Array Value,(w.setCells g o vs).heap[g]?=some (.cells cs' ty (0,0))∧cs'.size=cs.size∧∀k,k<cs.size→cs'[k]?=if o≤k∧k<o+vs.length then vs[k-o]? else cs[k]?
 |[],o,w,cs,h=>⟨cs,h,rfl,fun k hk=>by rw[if_neg (by simp only[List.length_nil];omega)]⟩
 |v::r,o,w,cs,h=>by
  obtain⟨cs',h1,h2,h3⟩:=Dx g ty r (o+1) (w.setCell ⟨g,o,none⟩ v) _ (heap_setCell_same _ _ _ _ _ _ h)
  refine⟨cs',h1,by rw[h2];simp,fun k hk=>?_⟩
  rw[h3 k (by simpa using hk)]
  by_cases hko:k=o
  ·subst hko;rw[if_neg (by omega),if_pos (by simp),Array.getElem?_setIfInBounds_self_of_lt hk,Nat.sub_self]
   rfl
  ·by_cases hk2:o+1≤k∧k<o+1+r.length
   ·rw[if_pos hk2,if_pos (by simp;omega)]
    obtain⟨d,rfl⟩:∃d,k=o+1+d:=⟨k-(o+1),by omega⟩
    rw[show o+1+d-(o+1)=d by omega,show o+1+d-o=d+1 by omega,List.getElem?_cons_succ]
   ·rw[if_neg hk2,if_neg (by simp;omega),Array.getElem?_setIfInBounds_ne (by omega)]
theorem Bw (g:Nat):∀(vs:List Value)(o:Nat)(w:World),w.grownBy (w.setCells g o vs) (some g)
 |[],_,w=>World.grownBy.refl _ _
 |v::r,o,w=>by
  have h:=Bw g r (o+1) (w.setCell ⟨g,o,none⟩ v)
  exact⟨h.os,h.tape,h.output,Nat.le_trans (by simp) h.size,fun k hk hne=>(h.block k (by simpa using hk) hne).trans (heap_setCell_other _ _ _ _ (fun e=>hne (by rw[e])))⟩
theorem Qsk (w:World)(b o c:Nat)(ty:TypeId)(hc:∀j,j<2→(w.cell? ⟨b,o+j,none⟩).isSome=true)(hf:∀j,j<2→w.frozen? ⟨b,o+j,none⟩=false) :
  (Builtin.clear_ #[31] ty #[.slice (some ⟨b,o,none⟩) 1 c]).run Tryz.prog w=.ok (.tuple #[]) (w.setCells b o [.string ⟨#[]⟩,.string ⟨#[]⟩]):=by
 have hv:(zeroValue 37).run Tryz.prog w=.ok (.agg #[.string ⟨#[]⟩,.string ⟨#[]⟩]) w:=Tryz.zeroValue37 w;have hzc:(Builtin.zeroCells (Value.agg #[.string ⟨#[]⟩,.string ⟨#[]⟩]).cells 1).toList=[.string ⟨#[]⟩,.string ⟨#[]⟩]:=by
  simp[Builtin.zeroCells,Value.cells]
  rfl
 have hst:=run_storeCells_cells (P:=Tryz.prog) b o [.string ⟨#[]⟩,.string ⟨#[]⟩] 0 w (by simpa using hc) (by simpa using hf) (by intro v hv';simp at hv';subst hv';rfl);simp only[Nat.add_zero]at hst
 simp[Builtin.clear_,run_underlying Tryz.underlying31,hv,hzc,hst]
theorem sdel_gen (w:World)(g c i j N:Nat)(cur:Array Value)(hg:w.heap[g]?=some (.cells cur 37 (0,0)))(hs:cur.size=c * 2)(hn:N≤c)(hm:c≤maxLen)(hij:i+1=j)(hj:j≤N)(h1c:∀k,k<N * 2→∃u,cur[k]?=some u∧u.oneCell'=true) :
  Calls Tryz.prog 86 #[.slice (some ⟨g,0,none⟩) N c,.int .i64 i,.int .i64 j] w fun e w'=>e=.returned (.slice (some ⟨g,0,none⟩) (i+(N-j)) c)∧w'=(w.drew.setCells g (0+i * 2) ((cur.toList.take (N * 2)).drop (j * 2))).setCells g ((i+(N-j)) * 2) [.string ⟨#[]⟩,.string ⟨#[]⟩]:=by
 obtain⟨i0,hi0,hz0,hz1,hz2⟩:=info_parts Zph
 obtain⟨news,hnews⟩:∃news,news=(cur.toList.take (N * 2)).drop (j * 2):=⟨_,rfl⟩
 rw[←hnews];have hlen:news.length=(N-j) * 2:=by rw[hnews,List.length_drop,List.length_take,Array.length_toList,hs];omega
 have hget:∀t,t<(N-j) * 2→news[t]?=cur[j * 2+t]?:=fun t h=>by
  rw[hnews,List.getElem?_drop,List.getElem?_take,if_pos (by omega),Array.getElem?_toList]
 have hcell:∀k,w.drew.cell? ⟨g,k,none⟩=cur[k]?:=fun k=>by
  rw[cell_of_row w.drew g k _ _ _ hg]
 obtain⟨A,hA,hsrc⟩:∃A:Addr,(if c=j then some (⟨g,0,none⟩:Addr)else some ⟨g,j * 2,none⟩)=some A∧Hid (∀t u,news[t]?=some u→w.drew.cell? (A.add t)=some u):=by
  by_cases h:c=j
  ·refine⟨⟨g,0,none⟩,by simp[h],fun t u hu=>?_⟩
   have h0:news.length=0:=by rw[hlen];omega
   rw[List.length_eq_zero_iff.1 h0]at hu
   simp at hu
  ·refine⟨⟨g,j * 2,none⟩,by simp[h],fun t u hu=>?_⟩
   have ht:t<(N-j) * 2:=by
    have:=(List.getElem?_eq_some_iff.1 hu).1
    rwa [hlen]at this
   rw[hget t ht]at hu;rw[Addr.add_lit]
   exact(hcell _).trans hu
 have s1:Hid (news.length=(N-j) * 2):=hlen;have s2:Hid (∀u∈news,u.oneCell'=true):=by
  intro u hu
  obtain⟨t,ht,rfl⟩:=List.getElem_of_mem hu
  have h2:=hget t (by rw[←hlen];exact ht)
  obtain⟨u',e1,e2⟩:=h1c (j * 2+t) (by rw[hlen]at ht;omega)
  rw[e1,List.getElem?_eq_getElem ht]at h2;rw[Option.some.inj h2];exact e2
 have s3:Hid (∀t,t<news.length→(w.drew.cell? ⟨g,0+i * 2+t,none⟩).isSome=true∧w.drew.frozen? ⟨g,0+i * 2+t,none⟩=false):=by
  intro t ht;rw[hlen]at ht
  refine⟨?_,frozen_of_row w.drew _ _ _ _ hg⟩
  rw[hcell];rw[Array.getElem?_eq_getElem (by omega)]
  rfl
 obtain⟨W1,hW1⟩:∃W1,W1=w.drew.setCells g (0+i * 2) news:=⟨_,rfl⟩
 obtain⟨cur1,hg1,hs1,_⟩:=Dx g 37 news (0+i * 2) w.drew cur hg
 rw[←hW1]at hg1;have hcl:∀ty,(Builtin.clear_ #[31] ty #[.slice (some ⟨g,(i+(N-j)) * 2,none⟩) (N-(i+(N-j))) (c-(i+(N-j)))]).run Tryz.prog W1=.ok (.tuple #[]) (W1.setCells g ((i+(N-j)) * 2) [.string ⟨#[]⟩,.string ⟨#[]⟩]):=fun ty=>by
  rw[show N-(i+(N-j))=1 by omega];refine Qsk W1 _ _ _ _ (fun k hk=>?_) (fun k hk=>frozen_of_row W1 _ _ _ _ hg1);rw[cell_of_row W1 g _ _ _ _ hg1,Array.getElem?_eq_getElem (by omega)]
  rfl
 have X:Hid (W1=w.drew.setCells g (0+i * 2) news):=hW1;have hic:i≤c:=by omega
 have hjc:j≤c:=by omega
 have hnij:¬i=j:=by omega
 have hm2:c≤9223372036854775807:=by unfold maxLen at hm;omega
 have mixed:Tryz.prog.follows Departure.mixedOrders=true:=by kernel_rfl
 clear hW1 hget hnews hlen hg1 hs1 hcell h1c hg hs
 go_enter Tryz.func86,Tryz.ntmps86
 go_wp2_with fail
 go_region_law_o (refine step_append_room rfl (.tmp 22) (.tmp 25) 31 rfl 37 i0 2 Tryz.underlying31 hi0 hz1 g 0 i c (by simp[Act.eval,Act.put]) A (N-j) (c-j) news (by simp[Act.eval,Act.put]) s1.out hsrc.out s2.out (by omega) s3.out ?_;rw[←X.out])
 go_wp2
 go_ret
 exact⟨rfl,by rw[X.out]⟩
theorem flat2_one (ks:List (Str×Str)):∀u∈Kz ks,u.oneCell'=true:=fun u hu=>by
 obtain⟨x,_,hx⟩:=List.mem_flatMap.1 hu
 simp only[Kt,List.mem_cons,List.not_mem_nil,or_false]at hx
 rcases hx with rfl|rfl <;> rfl
theorem sdel_any (w:World)(B g c i:Nat)(ks:List (Str×Str))(h:Qd w B (.slice (some ⟨g,0,none⟩) ks.length c) ks)(hi:i<ks.length) :
  Calls Tryz.prog 86 #[.slice (some ⟨g,0,none⟩) ks.length c,.int .i64 i,.int .i64 ((i:Int)+1)] w fun e w'=>e=.returned (.slice (some ⟨g,0,none⟩) (ks.take i++ks.drop (i+1)).length c)∧
   Qd w' B (.slice (some ⟨g,0,none⟩) (ks.take i++ks.drop (i+1)).length c) (ks.take i++ks.drop (i+1))∧w.grownBy w' (some g):=by
 rcases h.shape with ⟨e,_⟩|⟨g',cap,cur,e,hB,hg,hn,hm,hs,ht⟩
 ·cases e
 cases e;have hcur:∀k,k<ks.length * 2→cur[k]?=(Kz ks)[k]?:=fun k h=>by
  rw[←ht,List.getElem?_take,if_pos h,Array.getElem?_toList]
 have hln:(ks.take i++ks.drop (i+1)).length=ks.length-1:=by rw[List.length_append,List.length_take,List.length_drop];omega
 have hg2:=sdel_gen w g c i (i+1) ks.length cur hg hs hn hm rfl hi (fun k hk=>by
  have hk2:k<(Kz ks).length:=by rw[Kn];exact hk
  exact⟨_,(hcur k hk).trans (List.getElem?_eq_getElem hk2),flat2_one ks _ (List.getElem_mem hk2)⟩)
 refine hg2.mono ?_;rintro e w' ⟨rfl,rfl⟩;have hidx:i+(ks.length-(i+1))=(ks.take i++ks.drop (i+1)).length:=by rw[hln];omega
 rw[hidx]
 refine⟨rfl,?_,?_⟩
 ·obtain⟨cur1,h1,h2,h3⟩:=Dx g 37 ((cur.toList.take (ks.length * 2)).drop ((i+1) * 2)) (0+i * 2) w.drew cur hg
  obtain⟨cur2,k1,k2,k3⟩:=Dx g 37 [.string ⟨#[]⟩,.string ⟨#[]⟩] ((ks.take i++ks.drop (i+1)).length * 2) _ cur1 h1
  refine⟨Kn _,Or.inr ⟨g,c,cur2,rfl,hB,k1,by rw[hln];omega,hm,by rw[k2,h2];exact hs,?_⟩⟩
  apply List.ext_getElem?
  intro k;rw[Rh,Xbz ks i (Nat.le_of_lt hi),Xbx ks (i+1) hi];have l1:((Kz ks).take (i * 2)).length=i * 2:=by rw[List.length_take,Kn];omega
  by_cases hk:k<(ks.take i++ks.drop (i+1)).length * 2
  ·have hkc:k<cur.size:=by rw[hs];rw[hln]at hk;omega
   rw[List.getElem?_take,if_pos hk,Array.getElem?_toList,k3 k (by rw[h2];exact hkc),if_neg (by omega),h3 k hkc];have l2:((cur.toList.take (ks.length * 2)).drop ((i+1) * 2)).length=(ks.length-(i+1)) * 2:=by rw[List.length_drop,List.length_take,show cur.toList.length=c * 2 from(Array.length_toList ..).trans hs];omega
   by_cases hki:k<i * 2
   ·rw[if_neg (by omega),List.getElem?_append_left (by rw[l1];exact hki),List.getElem?_take,if_pos hki,hcur k (by rw[hln]at hk;omega)]
   ·rw[if_pos ⟨by omega,by rw[l2];rw[hln]at hk;omega⟩,List.getElem?_append_right (by rw[l1];omega),l1,Nat.zero_add,ht]
  ·rw[List.getElem?_take,if_neg hk,List.getElem?_eq_none];rw[List.length_append,l1,List.length_drop,Kn];rw[hln]at hk
   omega
 ·have h1:w.grownBy w.drew (some g):=⟨rfl,rfl,rfl,Nat.le_refl _,fun _ _ _=>rfl⟩;have h2:=Bw g ((cur.toList.take (ks.length * 2)).drop ((i+1) * 2)) (0+i * 2) w.drew;have h3:=Bw g [.string ⟨#[]⟩,.string ⟨#[]⟩] ((ks.take i++ks.drop (i+1)).length * 2) (w.drew.setCells g (0+i * 2) ((cur.toList.take (ks.length * 2)).drop ((i+1) * 2)));exact Qf.trans (Qf.trans h1 h2) h3
end
section
open Go.RowKit Go.Lib Go.Sort Go.Maps Go.WideMaps
theorem law:Keyed Tryz.prog 9:=string_keyed Tryz.underlying9
theorem zeroS (w:World):(zeroValue 9).run Tryz.prog w=.ok (.string ⟨#[]⟩) w:=by kernel_rfl
theorem zeroB (w:World):(zeroValue 4).run Tryz.prog w=.ok (.bool false) w:=by kernel_rfl
theorem Qsv {k:Str}(h:k.length≤maxLen):keyOf Tryz.prog 9 (.string ⟨k.toArray⟩)=some (.string k):=by
 have:=keyOf_string_mk (P:=Tryz.prog) Tryz.underlying9 (s:=⟨k.toArray⟩) (by rw[Lib.size_eq];exact h)
 simpa using this
theorem elS {k:Str}(h:k.length≤maxLen):plainElem (H:=Unit) Tryz.prog 9 (.string ⟨k.toArray⟩)=some (.lit (.string k),[]):=by
 have:=plainElem_string (H:=Unit) (P:=Tryz.prog) Tryz.underlying9 (s:=⟨k.toArray⟩) (by rw[Lib.size_eq];exact h)
 simpa using this
def Hj (w:World)(b n:Nat)(D:List (Str×Str)):Prop :=
 ∃m:DataW Unit,w.ownsMap Tryz.prog 9 (plainElem Tryz.prog 9) b n m∧∀k z,m.atKey (.string k) z=match look D k with|some v=>.lit (.string v)|none=>z
def Th (w:World)(b n:Nat)(L:List Str):Prop :=
 ∃m:DataW Unit,w.ownsMap Tryz.prog 9 (plainElem Tryz.prog 4) b n m∧∀k z,m.atKey (.string k) z=if k∈L then .lit (.bool true)else z
theorem Hj.lt {w:World}{b n:Nat}{D:List (Str×Str)}(h:Hj w b n D):b<w.heap.size:=by obtain⟨m,h,_⟩:=h;exact h.lt
theorem Th.lt {w:World}{b n:Nat}{L:List Str}(h:Th w b n L):b<w.heap.size:=by obtain⟨m,h,_⟩:=h;exact h.lt
theorem Hj.mono {w:World}{b n n':Nat}{D:List (Str×Str)}(h:Hj w b n D)(hn:n≤n'):Hj w b n' D:=by obtain⟨m,h,h2⟩:=h;exact⟨m,h.mono hn,h2⟩
theorem Ur {w w':World}{P:Program}{k:TypeId}{R:Value→Option (DataW Unit×List MemPlace)}{b n:Nat}{m:DataW Unit}(h:w.ownsMap P k R b n m)(he:w'.heap[b]?=w.heap[b]?):w'.ownsMap P k R b n m:=by
 obtain⟨es,clock,hb,F,hs,hD⟩:=h
 exact⟨es,clock,he.trans hb,F,hs,hD⟩
theorem Hj.block {w w':World}{b n:Nat}{D:List (Str×Str)}(h:Hj w b n D)(he:w'.heap[b]?=w.heap[b]?):Hj w' b n D:=by obtain⟨m,h,h2⟩:=h;exact⟨m,Ur h he,h2⟩
theorem Th.block {w w':World}{b n:Nat}{L:List Str}(h:Th w b n L)(he:w'.heap[b]?=w.heap[b]?):Th w' b n L:=by obtain⟨m,h,h2⟩:=h;exact⟨m,Ur h he,h2⟩
theorem Hj.below {w w':World}{b n:Nat}{D:List (Str×Str)}(h:Hj w b n D)(hb:Below w.heap.size w w'):Hj w' b n D:=h.block (hb.block _ h.lt)
theorem Th.below {w w':World}{b n:Nat}{L:List Str}(h:Th w b n L)(hb:Below w.heap.size w w'):Th w' b n L:=h.block (hb.block _ h.lt)
theorem Hj.made (w:World):Hj (w.alloc (.map #[] 0)) w.heap.size 0 []:=⟨.map [],World.ownsMap_made _ _ _ _,fun k z=>rfl⟩
theorem Th.made (w:World):Th (w.alloc (.map #[] 0)) w.heap.size 0 []:=⟨.map [],World.ownsMap_made _ _ _ _,fun k z=>by simp;rfl⟩
theorem strKey (k:Str):WideAt.IsKeyLit (.string k):=by
 simp[WideAt.IsKeyLit]
theorem Hj.look_run {w:World}{b n:Nat}{D:List (Str×Str)}(h:Hj w b n D)(k:Str)(hk:k.length≤maxLen) :
  (Instr.lookup 171 (.map (some b)) (.string ⟨k.toArray⟩) true).run Tryz.prog w=.ok (.tuple #[.string ⟨((look D k).getD []).toArray⟩,.bool (look D k).isSome]) w:=by
 obtain⟨mm,hown,hat⟩:=h
 obtain⟨v,ps,hrun,hv⟩:=hown.look_ok law Tryz.underlying171 (zeroS w) (elS (k:=[]) (Nat.zero_le _)) (Qsv hk)
 obtain⟨s,rfl,hz,_⟩:=plainElem_string_inv (H:=Unit) Tryz.underlying9 hv
 rw[hat]at hz;have hhas:Maps.has mm (.string k)=(look D k).isSome:=by
  cases hl:look D k with
  |some v=>rw[has_true_of_atKey (y:=.lit (.string v)) (fun z=>by rw[hat,hl])];rfl
  |none=>rw[has_false_of_atKey (fun z=>by rw[hat,hl])];rfl
 have hs:s=⟨((look D k).getD []).toArray⟩:=by
  cases hl:look D k with
  |some v =>
   rw[hl]at hz
   simp at hz
   cases s
   simp at hz ⊢
   rw[hz.1]
  |none =>
   rw[hl]at hz
   simp at hz
   cases s
   simp at hz ⊢
   exact hz.1
 rw[←hhas,←hs];exact hrun
theorem Hj.say_run {w:World}{b n:Nat}{D:List (Str×Str)}(h:Hj w b n D)(hn:n<maxLen)(k y:Str)(hk:k.length≤maxLen)(hy:y.length≤maxLen)(hno:look D k=none) :
  ∃w',(Instr.mapUpdate 171 (.map (some b)) (.string ⟨k.toArray⟩) (.string ⟨y.toArray⟩)).run Tryz.prog w=.ok () w'∧Hj w' b (n+1) (D++[(k,y)])∧w.grownBy w' (some b):=by
 obtain⟨mm,hown,hat⟩:=h
 obtain⟨w',hrun,hown',hgr⟩:=hown.update law Tryz.underlying171 hn (Qsv hk) (elS hy)
 refine⟨w',hrun,⟨_,hown',fun k' z=>?_⟩,hgr⟩
 rw[Zsy]
 by_cases he:k'=k
 ·subst he;rw[atKey_put_same hown.isMap (strKey _),hno]
  simp[look]
 ·rw[atKey_put_other (fun e=>he (by simpa using e)),hat]
  cases hl:look D k' with
  |some u=>rfl
  |none=>simp[look,Ne.symm he]
section
variable {w:World}{ops:Array Oper}{rest:List Oper}{o:Oper}{a:Act}{Q:Exit→Act→World→Prop}
theorem Qhz {b n:Nat}{D:List (Str×Str)}(h:Hj w b n D)(hg:o.guard=none)(m x:Operand)(hop:o.op=Op.lookup 171 m x true)(hm:a.eval m=.map (some b))(k:Str)(hx:a.eval x=.string ⟨k.toArray⟩)(hk:k.length≤maxLen)
  (hK:wpList Tryz.prog ops Q rest (a.put o.dst (.tuple #[.string ⟨((look D k).getD []).toArray⟩,.bool (look D k).isSome])) w):wpList Tryz.prog ops Q (o::rest) a w:=by
 obtain⟨mm,hown,hat⟩:=h
 refine wpList_lookup_own_ok w hg m x 171 hop 9 9 law Tryz.underlying171 (plainElem Tryz.prog 9) (zeroS w) (.lit (.string [])) [] (elS (k:=[]) (Nat.zero_le _)) b n mm hm hown _ _ hx (Qsv hk) ?_;intro v ps hv
 obtain⟨s,rfl,hz,_⟩:=plainElem_string_inv (H:=Unit) Tryz.underlying9 hv
 rw[hat]at hz;have hhas:Maps.has mm (.string k)=(look D k).isSome:=by
  cases hl:look D k with
  |some v=>rw[has_true_of_atKey (y:=.lit (.string v)) (fun z=>by rw[hat,hl])];rfl
  |none=>rw[has_false_of_atKey (fun z=>by rw[hat,hl])];rfl
 have hs:s=⟨((look D k).getD []).toArray⟩:=by
  cases hl:look D k with
  |some v =>
   rw[hl]at hz
   simp at hz
   cases s
   simp at hz ⊢
   rw[hz.1]
  |none =>
   rw[hl]at hz
   simp at hz
   cases s
   simp at hz ⊢
   exact hz.1
 rw[hhas,hs];exact hK
theorem Qvj {b n:Nat}{D:List (Str×Str)}(h:Hj w b n D)(hg:o.guard=none)(m x:Operand)(hop:o.op=Op.lookup 171 m x true)(hm:a.eval m=.map (some b))(k y:Str)(hx:a.eval x=.string ⟨k.toArray⟩)(hk:k.length≤maxLen)(hL:look D k=some y)
  (hK:wpList Tryz.prog ops Q rest (a.put o.dst (.tuple #[.string ⟨y.toArray⟩,.bool true])) w):wpList Tryz.prog ops Q (o::rest) a w :=
 Qhz h hg m x hop hm k hx hk (by rw[hL];exact hK)
theorem Qvk {b n:Nat}{D:List (Str×Str)}(h:Hj w b n D)(hg:o.guard=none)(m x:Operand)(hop:o.op=Op.lookup 171 m x true)(hm:a.eval m=.map (some b))(k:Str)(hx:a.eval x=.string ⟨k.toArray⟩)(hk:k.length≤maxLen)(hL:look D k=none)
  (hK:wpList Tryz.prog ops Q rest (a.put o.dst (.tuple #[.string ⟨#[]⟩,.bool false])) w):wpList Tryz.prog ops Q (o::rest) a w :=
 Qhz h hg m x hop hm k hx hk (by rw[hL];exact hK)
theorem Xbj {b n:Nat}{L:List Str}(h:Th w b n L)(hg:o.guard=none)(m x:Operand)(hop:o.op=Op.lookup 73 m x false)(hm:a.eval m=.map (some b))(k:Str)(hx:a.eval x=.string ⟨k.toArray⟩)(hk:k.length≤maxLen)
  (hK:wpList Tryz.prog ops Q rest (a.put o.dst (.bool (decide (k∈L)))) w):wpList Tryz.prog ops Q (o::rest) a w:=by
 obtain⟨mm,hown,hat⟩:=h
 refine wpList_plain hg fun K' hK'=>?_
 obtain⟨v,ps,hrun,hv⟩:=hown.lookup law Tryz.underlying73 (zeroB w) (plainElem_bool Tryz.underlying4 false) (Qsv hk)
 have hb:v=.bool (decide (k∈L)):=by
  rw[hat]at hv;unfold plainElem at hv;rw[Tryz.underlying4]at hv
  cases v <;> simp at hv
  rename_i q
  by_cases hm:k∈L
  ·rw[if_pos hm]at hv
   simp at hv
   rw[hv.1];simp[hm]
  ·rw[if_neg hm]at hv
   simp at hv
   rw[hv.1];simp[hm]
 subst hb;unfold Oper.wp
 simp[execOp,hop,hm,hx,hrun,Result.andThen]
 exact hK' _ _ hK
theorem Qqw {b n:Nat}{L:List Str}(h:Th w b n L)(hg:o.guard=none)(m x:Operand)(hop:o.op=Op.lookup 73 m x false)(hm:a.eval m=.map (some b))(k:Str)(hx:a.eval x=.string ⟨k.toArray⟩)(hk:k.length≤maxLen)(q:Bool)(hq:decide (k∈L)=q)
  (hK:wpList Tryz.prog ops Q rest (a.put o.dst (.bool q)) w):wpList Tryz.prog ops Q (o::rest) a w :=
 Xbj h hg m x hop hm k hx hk (by rw[hq];exact hK)
theorem Xxk {b n:Nat}{L:List Str}(h:Th w b n L)(hg:o.guard=none)(m x v:Operand)(hop:o.op=Op.mapUpdate 73 m x v)(hm:a.eval m=.map (some b))(hn:n<maxLen)(k:Str)(hx:a.eval x=.string ⟨k.toArray⟩)(hv:a.eval v=.bool true)(hk:k.length≤maxLen)
  (hK:∀w',Th w' b (n+1) (k::L)→w.grownBy w' (some b)→wpList Tryz.prog ops Q rest (a.put o.dst undef) w'):wpList Tryz.prog ops Q (o::rest) a w:=by
 obtain⟨mm,hown,hat⟩:=h
 refine wpList_mapUpdate_own w hg m x v 73 hop 9 4 law Tryz.underlying73 (plainElem Tryz.prog 4) b n mm hm hown hn _ _ _ hx hv (Qsv hk) _ [] (plainElem_bool Tryz.underlying4 true) ?_;intro w' hown' hgr;refine hK w' ⟨_,hown',fun k' z=>?_⟩ hgr
 by_cases he:k'=k
 ·subst he;rw[atKey_put_same hown.isMap (strKey _)]
  simp
 ·rw[atKey_put_other (fun e=>he (by simpa using e)),hat]
  simp[he]
end
def Zqw (w:World)(v:Value)(D:List (Str×Str)):Prop :=
 ∃bc bm n,v=.pointer (some ⟨bc,0,none⟩)∧bc<w.heap.size∧w.cell? ⟨bc,0,none⟩=some (.map (some bm))∧Hj w bm n D
theorem Zqw.below {w w':World}{v:Value}{D:List (Str×Str)}(h:Zqw w v D)(hb:Below w.heap.size w w'):Zqw w' v D:=by
 obtain⟨bc,bm,n,h1,h2,h3,h4⟩:=h
 exact⟨bc,bm,n,h1,Nat.lt_of_lt_of_le h2 hb.size,(hb.cell (p:=⟨bc,0,none⟩) h2).trans h3,h4.below hb⟩
end
section
open Go.RowKit Go.Lib Go.Sort Go.Maps
theorem Qsw (w:World)(v:Value)(D:List (Str×Str))(l:Str)(h:Zqw w v D)(hl:l.length≤maxLen) :
  Calls Tryz.prog 152 #[v,.string ⟨l.toArray⟩] w fun e w'=>e=.returned (.tuple #[.string ⟨(Vq D l).1.toArray⟩,.bool (Vq D l).2])∧Below w.heap.size w w':=by
 obtain⟨bc,bm,n,rfl,hlt,hc,hown⟩:=h
 have PL:=hid (fun W=>Zvg l W hl);have HOWN:=hid hown;clear hown
 cases hlk:look D l with
 |some p =>
  have hpf:Vq D l=(p,true):=by unfold Vq;rw[hlk]
  rw[hpf];have HLK:=hid hlk;clear hpf hlk
  go_enter Tryz.func152,Tryz.ntmps152
  go_wp2_with (at_lookup;refine Qvj HOWN.out rfl _ _ rfl rfl l _ rfl hl HLK.out ?_)
  exact bodyPost_ret (v:=.tuple #[.string ⟨p.toArray⟩,.bool true]) (by simp[results,Tryz.results152,go_sem]) rfl ⟨rfl,Below.refl _ _⟩
 |none =>
  have hpf:Vq D l=Vj l:=by unfold Vq;rw[hlk]
  rw[hpf];have HLK:=hid hlk;clear hpf hlk;generalize Vj l=q at *
  go_enter Tryz.func152,Tryz.ntmps152
  go_wp2_with (at_lookup;refine Qvk HOWN.out rfl _ _ rfl rfl l rfl hl HLK.out ?_)
  refine(PL.out _).mono ?_
  rintro e w1 ⟨rfl,hb1⟩;go_wp2_with fail;exact bodyPost_ret (v:=.tuple #[.string ⟨q.1.toArray⟩,.bool q.2]) (by simp[results,Tryz.results152,go_sem]) rfl ⟨rfl,hb1⟩
end
section
open Go.RowKit Go.Lib Go.Sort Go.Maps
theorem Qqy {w:World}{ops:Array Oper}{rest:List Oper}{o:Oper}{a:Act}{Q:Exit→Act→World→Prop}(hgd:o.guard=none)(s x:Operand)
  (ho:o.op=.call { callee:=.builtin .append,args:=#[s,x],argTypes:=#[28,28] })
  (B:Nat)(v:Value)(l:List Str)(y:Str)(hs:a.eval s=v)(hown:Qt w B v l)(hx:a.eval x=.slice (some ⟨w.heap.size,0,none⟩) 1 1)(hl:l.length≤1000000000000)(hB:B≤w.heap.size)
  (h:∀v' w',Qt w' B v' (l++[y])→w.grownBy w' v.ownBlock→Nk w v v'→wpList Tryz.prog ops Q rest (a.put o.dst v') w') :
  wpList Tryz.prog ops Q (o::rest) a (w.alloc (.cells #[.string ⟨y.toArray⟩] 9)):=by
 obtain⟨i0,hi,hz0,hz1,hz2⟩:=info_parts Zzw
 refine Gd hgd s x 28 ho B 9 i0 (.string ⟨#[]⟩) 1 16 Tryz.underlying28 hi hz0 hz1 hz2 rfl (by decide) v l.length (l.map S) hs (World.ownsRow.alloc hown _) ⟨w.heap.size,0,none⟩ 1 1 [.string ⟨y.toArray⟩] hx rfl (cell_one_new _ _ _) (fun u hu=>by simp at hu;subst hu;rfl) (by unfold maxLen;omega) (by omega) (by simp;omega) ?_;intro v' w' own gr mv;refine h v' w' (Xh own (by simp) (by simp[S])) ⟨gr.os,gr.tape,gr.output,Nat.le_trans (by simp) gr.size,fun k hk hne=>?_⟩ ?_
 ·rw[gr.block k (by simp;omega) hne];exact heap_alloc_old _ _ hk
 ·rcases mv with m|⟨k,h1,h2⟩
  ·exact Or.inl m
  ·exact Or.inr ⟨k,h1,by simp at h2;omega⟩
def ChainOut (w:World)(l:List Str)(e:Ending)(w':World):Prop:=∃vv,e=.returned vv∧Qt w' w.heap.size vv l∧Below w.heap.size w w'
theorem Zhj (w:World)(v:Value)(D:List (Str×Str))(s:Str)(l:List Str)(h:Zqw w v D)(hD:Gh D)(hl:Pp D s l)(hs:s.length≤maxLen)(hsz:D.length≤10000000000) :
  Calls Tryz.prog 90 #[v,.string ⟨s.toArray⟩] w fun e w'=>ChainOut w l e w':=by
 have PA:=hid (fun W (hb:Below w.heap.size w W) (a:Str) (ha:a.length≤maxLen)=>Qsw W v D a (h.below hb) ha);have NM:=hid (fun W=>Zvh s W hs);simp only[Sr]at NM
 obtain⟨bc,bm,n0,rfl,_,_,_⟩:=h
 rcases hl with ⟨hn,hu⟩|⟨hn,rfl⟩
 ·rw[hn]at NM;have hlen:=up_len hD hn hu;have HU:=hid hu;have HLEN:=hid (show l.length≤200000000000 by omega);have HNA:=hid (Qmv hD hn hu);have hl0:0<l.length:=List.length_pos_iff.2 (up_ne hu);have hh:l.take 1=[s]:=by obtain⟨r,rfl⟩:=Uk hu;simp
  have hg:∀hj:0<l.length,l[0]'hj=s:=by obtain⟨r,rfl⟩:=Uk hu;intro _;rfl
  have HL0:=hid hl0;have HH:=hid hh;have HG0:=hid hg;clear hu hlen hD hsz hl0 hh hg hn;generalize Fl s=nt at *
  go_enter Tryz.func90,Tryz.ntmps90
  go_wp2_with fail
  refine(NM.out _).mono ?_
  rintro e w1 ⟨v1,rfl,⟨vv,kv,rfl,⟨av,cv,rfl,_,_⟩,⟨ak,ck,rfl,_,_⟩⟩,hb1⟩;simp only[Qv,S];have hb2:Below w1.heap.size w1 (w1.alloc (.cells #[.string ⟨nt.lang.toArray⟩,.string ⟨nt.script.toArray⟩,.string ⟨nt.region.toArray⟩,.slice av nt.vars.length cv,.slice ak nt.keys.length ck] 160)):=bal _ _;have HB2:=hid (hb1.then hb2);clear hb1 hb2
  go_upto_region 4 with (fail)
  generalize w1.alloc (.cells #[.string ⟨nt.lang.toArray⟩,.string ⟨nt.script.toArray⟩,.string ⟨nt.region.toArray⟩,.slice av nt.vars.length cv,.slice ak nt.keys.length ck] 160)=w2 at *;have ho:=Nw w2 [s] w.heap.size HB2.out.size (by simp);have HOW:=hid ho;have HB3:=hid (HB2.out.then (bal w2 (.cells #[.string ⟨s.toArray⟩] 9)));clear ho;go_wp2_with fail
  go_loopg[1,7] l.length (fun g va vl W=>∃(j:Nat) (hj:j<l.length),va=.string ⟨l[j].toArray⟩∧Qt W w.heap.size vl (l.take (j+1))∧l.length≤j+1+g∧Below w.heap.size w W)
  case atStart=>exact⟨0,HL0.out,by rw[HG0.out HL0.out],by rw[HH.out];simpa[S]using HOW.out,by omega,HB3.out⟩
  case round =>
   obtain⟨j,hj,rfl,own,hg,hb⟩:=hrel
   rename World=>w4
   have HOJ:=hid own;have HGJ:=hid hg;have HBJ:=hid hb
   obtain⟨a,ha⟩:∃a,a=l[j]'hj:=⟨_,rfl⟩
   have HAL:=hid (show a.length≤maxLen by rw[ha];exact Nat.le_trans (Uy (HNA.out _ (List.getElem_mem hj))) (by decide));have HEND:=hid (show a=Qs→j+1=l.length from fun h=>up_end HU.out j hj (by rw[←ha];exact h));have HNXT:=hid (show a≠Qs→∃hj':j+1<l.length,Vn D a=some (l[j+1]'hj')from fun h=>by rw[ha];exact Xpx HU.out j hj (by rw[←ha];exact h));clear own hg hb HOW HB3 HB2;rw[←ha];clear ha hj
   by_cases hr:a=Qs
   ·have hub:(a==[114,111,111,116])=true:=by rw[hr];rfl
    have hub2:(a != [114,111,111,116])=false:=by rw[hr];rfl
    have hjl:=HEND.out hr;have hown:=HOJ.out;rw[List.take_of_length_le (by omega)]at hown;have HOWN:=hid hown;clear hr hjl hown;go_wp2_with fail
    go_ret
    exact⟨_,rfl,HOWN.out,HBJ.out⟩
   ·have hub:(a==[114,111,111,116])=false:=by rw[beq_eq_false_iff_ne];exact hr
    have hub2:(a != [114,111,111,116])=true:=by rw[bne_iff_ne];exact hr
    obtain⟨hj2,hst⟩:=HNXT.out hr
    have hpa:=Ztx hst;have htk:l.take (j+1)++[l[j+1]'hj2]=l.take (j+1+1):=by rw[List.take_add_one (i:=j+1),List.getElem?_eq_getElem hj2];rfl
    have HTK:=hid htk
    obtain⟨y,hy⟩:∃y,y=l[j+1]'hj2:=⟨_,rfl⟩
    have HJ2:=hid hj2;have HY:=hid (show ∀h:j+1<l.length,y=l[j+1]'h from fun _=>hy);rw[←hy]at hpa HTK;have HPA:=hid hpa;clear hr hst hpa htk hy hj2;go_wp2_with fail
    refine(PA.out _ HBJ.out a HAL.out).mono ?_
    rintro e w5 ⟨rfl,hb5⟩;rw[HPA.out]
    simp only
    have HO5:=hid (Qz HOJ.out hb5);have HB5:=hid (HBJ.out.then hb5);have hll:(l.take (j+1)).length≤1000000000000:=by rw[List.length_take];have:=HLEN.out;omega
    have HLL:=hid hll;clear hb5 hll
    go_wp2_with (at_builtin;refine Qqy rfl (.tmp 29) (.tmp 31) rfl w.heap.size _ _ y rfl HO5.out rfl HLL.out HB5.out.size ?_;intro v6 w6 own6 gr6 mv6)
    have HO6:=hid own6;have HB6:=hid (HB5.out.grown gr6 HB5.out.size (fun j hj=>(World.ownsRow.lt HO5.out _ hj).1));clear own6 gr6 mv6;go_wp2_with fail
    go_roundg (gk-1)
    case measure=>have:=HGJ.out;have:=HJ2.out;omega
    case rel=>exact⟨j+1,HJ2.out,by rw[HY.out HJ2.out],by rw[←HTK.out];exact HO6.out,by have:=HGJ.out;have:=HJ2.out;omega,HB6.out⟩
 ·rw[hn]at NM;generalize Fl s=nt at *
  go_enter Tryz.func90,Tryz.ntmps90
  go_wp2_with fail
  refine(NM.out _).mono ?_
  rintro e w1 ⟨v1,rfl,⟨vv,kv,rfl,⟨av,cv,rfl,_,_⟩,⟨ak,ck,rfl,_,_⟩⟩,hb1⟩;simp only[Qv,S];go_wp2_with fail
  go_ret
  exact⟨_,rfl,World.ownsRow_nil _ _ _ _,hb1.then (bal _ _)⟩
end
section
open Go.RowKit Go.Lib
attribute [local go_sem] Qnh
theorem Qvv {p:Str}(h:Zv p=true):p.length≤512:=by
 unfold Zv at h
 obtain⟨l,hl⟩:=Option.isSome_iff_exists.1 h
 have:=(Zy hl).2.2.2.1
 rwa [(Zy hl).2.2.2.2]at this
theorem Xxv {D:List Al}:∀{d:List Str}{q:Str}{r:List Str}{p:Str},Nm D p (d++q::r)→Nm D q (q::r)
 |[],q,r,p,h=>by
  obtain⟨r',e⟩:=Qmh h
  cases e;exact h
 |[x],q,r,p,h=>h.2.2
 |x::y::d,q,r,p,h=>Xxv (d:=y::d) h.2.2
theorem away_any (w:World)(v:Value)(D:List Al)(p:Str)(l:List Str)(h:Qsz w v D)(hp:Zv p=true)(hs:szA D)(hl:Nm D p l)(hn:l.length≤1000) :
  Calls Tryz.prog 91 #[v,.string ⟨p.toArray⟩] w fun e w'=>∃vv,e=.returned vv∧Qt w' w.heap.size vv l∧Below w.heap.size w w':=by
 have HLQ:=hid (show ∀q∈l,q.length≤maxLen from fun q hq=>by have:=Qvv (Qmg hp hl q hq);unfold maxLen;omega);have LD:=hid (fun W (hb:Below w.heap.size w W) (q:Str) (hq:q∈l)=>alead_any W v D q (h.below hb) (HLQ.out q hq) hs);have CK:=hid (Cf p w (by have:=Qvv hp;unfold maxLen;omega));have HP:=hid hp;have HL:=hid hl;have HN:=hid hn
 obtain⟨r0,hr0⟩:=Qmh hl
 have HR0:=hid hr0
 obtain⟨b,kv,rfl,_,_⟩:=h
 clear hp hs hl hn hr0
 go_enter Tryz.func91,Tryz.ntmps91
 go_wp2_with (go_at_call 89;refine CK.out.mono ?_;rintro e w1 ⟨⟨er,ea,rfl,he⟩,hb1⟩;have he0:=he.2 HP.out;subst he0;have B1:=hid hb1;clear hb1 he)
 have ho:=Nw w1 [p] w.heap.size B1.out.size (by simp);have HOW:=hid ho;have HB3:=hid (B1.out.then (bal w1 (.cells #[.string ⟨p.toArray⟩] 9)));clear ho
 go_loopg[1,5] l.length (fun g v1 v5 W=>∃(d:List Str) (q:Str) (r:List Str),l=d++q::r∧r.length≤g∧v1=.string ⟨q.toArray⟩∧Qt W w.heap.size v5 (d++[q])∧Below w.heap.size w W)
 case atStart=>exact⟨[],p,r0,HR0.out,by rw[HR0.out];simp,rfl,by simpa[S]using HOW.out,HB3.out⟩
 case round =>
  obtain⟨d,q,r,hd,hg,rfl,own,hb⟩:=hrel
  rename World=>w4
  have HD:=hid hd;have HG:=hid hg;have HO:=hid own;have HB:=hid hb;have HT:=hid (Xxv (d:=d) (hd▸HL.out));have LQ:=hid (LD.out w4 hb q (by rw[hd];simp));have HDL:=hid (show(d++[q]).length≤1000 by have:=HN.out;rw[hd]at this;simp at this ⊢;omega);clear hd hg own hb HOW HB3 B1 CK
  cases r with
  |nil =>
   have hno:Ym D q=none:=HT.out.2;rw[hno]at LQ;clear hno
   go_wp2_with (go_at_call 153;refine LQ.out.mono ?_;rintro e w5 ⟨⟨s,rfl,_⟩,hb5⟩;have B5:=hid hb5;clear hb5)
   go_ret
   exact⟨_,rfl,by rw[HD.out];exact Qz HO.out B5.out,HB.out.then B5.out⟩
  |cons y r =>
   have hyes:Ym D q=some y:=HT.out.2.1;rw[hyes]at LQ;clear hyes;go_wp2_with fail;refine LQ.out.mono ?_;rintro e w5 ⟨⟨s,rfl,hs⟩,hb5⟩;have hs2:=hs y rfl;subst hs2;have HO5:=hid (Qz HO.out hb5);have HB5:=hid (HB.out.then hb5);have hll:(d++[q]).length≤1000000000000:=by have:=HDL.out;omega
   have HLL:=hid hll;clear hs hb5 hll
   go_wp2_with (at_builtin;refine Qqy rfl (.tmp 27) (.tmp 29) rfl w.heap.size _ _ s rfl HO5.out rfl HLL.out HB5.out.size ?_;intro v6 w6 own6 gr6 mv6;have HO6:=hid own6;have HB6:=hid (HB5.out.grown gr6 HB5.out.size (fun j hj=>(World.ownsRow.lt HO5.out _ hj).1));clear own6 gr6 mv6)
   go_wp2_with fail
   go_roundg (gk-1)
   case measure=>have:=HG.out;simp only[List.length_cons]at this;omega
   case rel=>exact⟨d++[q],s,r,by rw[HD.out];simp,by have:=HG.out;simp only[List.length_cons]at this;omega,rfl,HO6.out,HB6.out⟩
end
section
open Go.RowKit Go.Lib Go.Sort Go.Maps
def Zmz (D:List (Str×Str))(k:Str)(w:World)(e:Ending)(w':World):Prop:=(∃b:Bool,e=.returned (.bool b)∧(b=true↔Ch D k))∧Below w.heap.size w w'
theorem Xxw {D:List (Str×Str)}{k:Str}{w w':World}(h:Ch D k)(hb:Below w.heap.size w w'):Zmz D k w (.returned (.bool true)) w':=⟨⟨true,rfl,fun _=>h,fun _=>rfl⟩,hb⟩
theorem Qsy {D:List (Str×Str)}{k:Str}{w w':World}(h:¬Ch D k)(hb:Below w.heap.size w w'):Zmz D k w (.returned (.bool false)) w':=⟨⟨false,rfl,fun e=>(by cases e),fun e=>absurd e h⟩,hb⟩
structure Nq (w:World)(D:List (Str×Str))(k:Str)(g:Nat)(W:World)(j:Nat)(a:Str)(L:List Str):Prop where
 it:iter D j k=some a
 own:Th W w.heap.size j L
 len:L.length=j
 nd:L.Nodup
 mem:∀x,x∈L↔∃i,i<j∧iter D (i+1) k=some x
 no:k ∉ L
 gas:(reach D k).length+1≤j+g
 bel:Below w.heap.size w W
theorem Nq.room {w W:World}{D:List (Str×Str)}{k a:Str}{g j:Nat}{L:List Str}(hD:Gh D)(hk:Qj k=true)(h:Nq w D k g W j a L):j≤(reach D k).length:=by
 rw[←h.len];refine Dp L _ h.nd fun x hx=>?_
 obtain⟨i,_,hi⟩:=(h.mem x).1 hx
 exact Pg hD hk _ _ hi
theorem Nq.hits {w W:World}{D:List (Str×Str)}{k a:Str}{g j:Nat}{L:List Str}(h:Nq w D k g W j a L):∀i,i<j→iter D (i+1) k≠some k:=fun i hi e=>h.no ((h.mem k).2 ⟨i,hi,e⟩)
theorem Nq.next {w W W':World}{D:List (Str×Str)}{k a x:Str}{g j:Nat}{L:List Str}(h:Nq w D k g W j a L)(hs:Vn D a=some x)(hx:x≠k)(hm:x ∉ L)(own:Th W' w.heap.size (j+1) (x::L))(hg:1≤g)(bel:Below w.heap.size w W'):Nq w D k (g-1) W' (j+1) x (x::L):=by
 have hit:iter D (j+1) k=some x:=by rw[iter,h.it];exact hs
 refine⟨hit,own,by rw[List.length_cons,h.len],List.nodup_cons.2 ⟨hm,h.nd⟩,fun y=>?_,?_,by have:=h.gas;omega,bel⟩
 ·rw[List.mem_cons,h.mem]
  constructor
  ·rintro(rfl|⟨i,hi,hy⟩)
   ·exact⟨j,by omega,hit⟩
   ·exact⟨i,by omega,hy⟩
  ·rintro⟨i,hi,hy⟩
   by_cases he:i=j
   ·subst he;rw[hit]at hy;cases hy;exact Or.inl rfl
   ·exact Or.inr ⟨i,by omega,hy⟩
 ·rw[List.mem_cons]
  rintro(e|e)
  ·exact hx e.symm
  ·exact h.no e
theorem rings_any (w:World)(v:Value)(D:List (Str×Str))(k:Str)(h:Zqw w v D)(hD:Gh D)(hk:Qj k=true)(hsz:D.length≤4398046511104) :
  Calls Tryz.prog 101 #[v,.string ⟨k.toArray⟩] w fun e w'=>Zmz D k w e w':=by
 have hmm:=@run_makeMap Tryz.prog;have PA:=hid (fun W (hb:Below w.heap.size w W) (a:Str) (ha:a.length≤maxLen)=>Qsw W v D a (h.below hb) ha);have hrl:=Zkh D k;have HRL:=hid hrl;have HD:=hid hD;have HK:=hid hk;have HSZ:=hid hsz
 obtain⟨bc,bm,n0,rfl,_,_,_⟩:=h
 clear hrl hD hsz;have hb0:Below w.heap.size w (w.alloc (.map #[] 0)):=bal _ _;have ST0:=hid (show Nq w D k ((reach D k).length+1) (w.alloc (.map #[] 0)) 0 k [] from⟨rfl,Th.made w,rfl,List.nodup_nil,fun x=>⟨fun h=>(by cases h),fun⟨i,hi,_⟩=>(by omega)⟩,by simp,by omega,hb0⟩);clear hb0 hk
 obtain⟨N,hN⟩:∃N,N=(reach D k).length:=⟨_,rfl⟩
 have HN:=hid hN;clear hN
 go_enter Tryz.func101,Tryz.ntmps101
 go_wp2_with fail
 go_step3
 go_wp2_with fail
 go_step3
 go_wp2_with fail
 go_loopg[6] (N+1) (fun g va W=>∃(j:Nat) (a:Str) (L:List Str),va=.string ⟨a.toArray⟩∧Nq w D k g W j a L)
 case atStart=>exact⟨0,k,[],rfl,by rw[HN.out];exact ST0.out⟩
 case round =>
  obtain⟨j,a,L,rfl,st⟩:=hrel
  rename World=>w1
  have ST:=hid st;have hal:a.length≤maxLen:=Nat.le_trans (Uy (Qmj HD.out HK.out j a st.it)) (by decide);have hbl:=st.bel;have HRM:=hid (Nq.room HD.out HK.out st);clear st ST0;go_wp2_with fail
  refine(PA.out _ hbl a hal).mono ?_
  rintro e w2 ⟨rfl,hb2⟩;have HB2:=hid (hbl.then hb2);have HOW:=hid (ST.out.own.below hb2);clear hb2 hbl hal;generalize hq:Vq D a=q;have HQ:=hid hq;clear hq
  obtain⟨x,ok⟩:=q
  simp only
  cases ok with
  |false =>
   have HNO:=hid (ring_no1 ST.out.it (Ztk (by rw[HQ.out])) ST.out.hits);go_wp2_with fail
   go_ret
   exact Qsy HNO.out HB2.out
  |true =>
   have HS:=hid (Ztj HQ.out);have HXN:=hid (Wd HD.out HS.out);have hxl:x.length≤maxLen:=Nat.le_trans (Uy HXN.out) (by decide)
   by_cases hxk:x=k
   ·have hub:(x==k)=true:=by rw[hxk];simp
    have HYES:=hid (show Ch D k from⟨j,by rw[iter,ST.out.it];show Vn D a=some k;rw[←hxk];exact HS.out⟩);clear hxk;go_wp2_with fail
    go_ret
    exact Xxw HYES.out HB2.out
   ·have hub:(x==k)=false:=by rw[beq_eq_false_iff_ne];exact hxk
    have HXK:=hid hxk;clear hxk
    by_cases hm:x∈L
    ·have HM:=hid (show decide (x∈L)=true by simp[hm]);have HNO:=hid (show ¬Ch D k by
      obtain⟨i,hi,hx⟩:=(ST.out.mem x).1 hm
      exact ring_no3 ST.out.it HS.out hi hx ST.out.hits)
     clear hm
     go_wp2_with (at_lookup;refine Qqw HOW.out rfl _ _ rfl rfl x rfl hxl true HM.out ?_)
     go_ret
     exact Qsy HNO.out HB2.out
    ·have HM:=hid (show decide (x∈L)=false by simp[hm]);have HXL:=hid hm;have hjn:j<maxLen:=by have:=HRM.out;have:=HRL.out;have:=HSZ.out;unfold maxLen;omega
     have HJN:=hid hjn;clear hm hjn
     go_wp2_with (first
      |(at_lookup;refine Qqw HOW.out rfl _ _ rfl rfl x rfl hxl false HM.out ?_)
      |(at_mapUpdate;refine Xxk HOW.out rfl _ _ _ rfl rfl HJN.out x rfl rfl hxl ?_;intro w3 hown3 hgr3))
     have HO3:=hid hown3;have HB3:=hid (HB2.out.grown hgr3 HB2.out.size (fun j hj=>by cases hj;exact Nat.le_refl _));clear hown3 hgr3;go_wp2_with fail;have hgk:1≤gk:=by have:=HRM.out;have:=ST.out.gas;omega
     go_roundg (gk-1)
     case measure=>omega
     case rel=>exact⟨j+1,x,x::L,rfl,ST.out.next HS.out HXK.out HXL.out HO3.out hgk HB3.out⟩
end
end Go.Proofs.YtbbmdbolkicpcabGreatDoor
