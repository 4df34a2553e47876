/- WriteP, Same, App, TbRow, PtVal, PtValue, PtStepA, PtBuild -/
import Derived.Test.YtbbmdbolkicpcabGreatDoorSDG01
import Derived.Test.YtbbmdbolkicpcabGreatDoorSDG03
import Derived.Laws.AppendOwnNone
import Derived.Laws.OwnMore
import Derived.Test.YtbbmdbolkicpcabGreatDoorSDG02
import Derived.Lib.AppendStr
import Derived.Laws.IdiomStrings
import Derived.Laws.BytesArg
import Derived.Test.YtbbmdbolkicpcabGreatDoorSDShelf
import Derived.Shelf.Strings.OnBuilder
import Derived.Lib.Builder
set_option maxRecDepth 100000
set_option maxHeartbeats 32000000
set_option linter.unusedVariables false
set_option linter.unusedSimpArgs false
namespace Go.Proofs.YtbbmdbolkicpcabGreatDoor
section
def Nx (x:Str):Bool:=!x.isEmpty
def Xk (p:Str×Str):List Str:=if p.2=[]then [p.1]else [p.1,p.2]
def Kx (l:Str):Str:=if l=[]then Qth else l
def Wj (t:Tg)(l:List Str):List Str:=Kx t.lang::l.filter Nx
def Nj (k:List (Str×Str)):List Str:=if k=[]then []else [[117]]
def Lm (t:Tg):List Str:=Wj t ([t.script,t.region]++t.vars)++(Nj t.keys++t.keys.flatMap Xk)
def Kj (t:Tg):Str:=Lib.join (Lm t) [45]
def Zxq (a b:Tg):Bool:=a.lang==b.lang&&(a.script==b.script&&(a.region==b.region&&(decide (a.vars=b.vars)&&decide (a.keys=b.keys))))
theorem Xvq (a:Tg):Zxq a a=true:=by simp[Zxq]
def Wk (t:Tg):Int:=if(Xp (Kj t)).err≠0∨Zxq (Xp (Kj t)).tag t=false then 2 else 0
def Hh (s:Str):Str:=if s=Qth then Qs else s
def Sk (t:Tg):Str×Int:=if Wk t=0 then(Hh (Kj { t with keys:=[] }),0) else([],Wk t)
def Fy (t:Tg):Tg:={ t with keys:=[] }
end
section
open Go.RowKit Go.Lib Go.Sort
def RdS (w:World)(v:Value)(l:List Str):Prop :=
 ∃ao cp,v=.slice ao l.length cp∧(l.length≤9223372036854775807∧(ao=none→l=[]∧cp=0))∧(l≠[]→∃b off,ao=some ⟨b,off,none⟩∧b<w.heap.size∧∀j x,l[j]?=some x→w.cell? ⟨b,off+j,none⟩=some (S x))
def RdP (w:World)(v:Value)(l:List (Str×Str)):Prop :=
 ∃ao cp,v=.slice ao l.length cp∧(l.length≤9223372036854775807∧(ao=none→l=[]∧cp=0))∧(l≠[]→∃b off,ao=some ⟨b,off,none⟩∧b<w.heap.size∧∀j i x,(hj:j<l.length)→(Kt l[j])[i]?=some x→w.cell? ⟨b,off+j * 2+i,none⟩=some x)
theorem Qt.rd {w:World}{B:Nat}{v:Value}{l:List Str}(h:Qt w B v l):RdS w v l:=by
 rcases h.shape with ⟨rfl,rfl⟩|⟨g,cap,cur,rfl,hB,hg,hn,hm,hs,ht⟩
 ·exact⟨none,0,rfl,by simp,fun h=>absurd rfl h⟩
 ·refine⟨_,_,rfl,⟨by unfold maxLen at hm;omega,fun e=>by cases e⟩,fun _=>⟨g,0,rfl,lt_of_block hg,fun j x hx=>?_⟩⟩
  rw[Nat.zero_add];exact Yg hg ht j _ (by simp[hx])
theorem Qd.rd {w:World}{B:Nat}{v:Value}{l:List (Str×Str)}(h:Qd w B v l):RdP w v l:=by
 rcases h.shape with ⟨rfl,rfl⟩|⟨g,cap,cur,rfl,hB,hg,hn,hm,hs,ht⟩
 ·exact⟨none,0,rfl,by simp,fun h=>absurd rfl h⟩
 ·refine⟨_,_,rfl,⟨by unfold maxLen at hm;omega,fun e=>by cases e⟩,fun _=>⟨g,0,rfl,lt_of_block hg,fun j i x hj hx=>?_⟩⟩
  exact Qfg hg ht j hj i x (by rw[getElem!_pos l j hj];exact hx)
theorem RdS.nil (w:World):RdS w Xw []:=⟨none,0,rfl,by simp,fun h=>absurd rfl h⟩
theorem RdP.nil (w:World):RdP w Xw []:=⟨none,0,rfl,by simp,fun h=>absurd rfl h⟩
theorem RdS.below {w w1:World}{v:Value}{l:List Str}(h:RdS w v l)(hb:Below w.heap.size w w1):RdS w1 v l:=by
 obtain⟨ao,cp,hv,hl,hr⟩:=h
 refine⟨ao,cp,hv,hl,fun hne=>?_⟩
 obtain⟨b,off,ha,hlt,hc⟩:=hr hne
 exact⟨b,off,ha,Nat.lt_of_lt_of_le hlt hb.size,fun j x hx=>(hb.cell (p:=⟨b,off+j,none⟩) hlt).trans (hc j x hx)⟩
theorem RdP.below {w w1:World}{v:Value}{l:List (Str×Str)}(h:RdP w v l)(hb:Below w.heap.size w w1):RdP w1 v l:=by
 obtain⟨ao,cp,hv,hl,hr⟩:=h
 refine⟨ao,cp,hv,hl,fun hne=>?_⟩
 obtain⟨b,off,ha,hlt,hc⟩:=hr hne
 exact⟨b,off,ha,Nat.lt_of_lt_of_le hlt hb.size,fun j i x hj hx=>(hb.cell (p:=⟨b,off+j * 2+i,none⟩) hlt).trans (hc j i x hj hx)⟩
theorem ba_inj {a b:Str}(h:(⟨a.toArray⟩:ByteArray)=⟨b.toArray⟩):a=b:=by
 have:=congrArg (fun b:ByteArray=>b.data.toList) h
 simpa using this
theorem bas_inj {l m:List Str}:bas l=bas m↔l=m:=by
 constructor
 ·intro h
  induction l generalizing m with
  |nil=>cases m with|nil=>rfl|cons a r=>simp[bas]at h
  |cons a r ih =>
   cases m with
   |nil=>simp[bas]at h
   |cons b q =>
    simp only[bas,List.map_cons,List.cons.injEq]at h;have h2:=ih (m:=q) (by simpa[bas]using h.2);have h3:a=b:=ba_inj h.1;rw[h2,h3]
 ·intro h;rw[h]
theorem eqS_any (w:World)(v v':Value)(l m:List Str)(h:RdS w v l)(h':RdS w v' m) :
  Calls Tryz.prog 256 #[v,v'] w fun e w'=>e=.returned (.bool (decide (l=m)))∧Below w.heap.size w w':=by
 obtain⟨ao,cp,rfl,hl,hr⟩:=h
 obtain⟨ao',cp',rfl,hl',hr'⟩:=h'
 have hlA:=hl.1;have hlB:=hl'.1
 by_cases hlen:l.length=m.length
 ·by_cases hn:l=[]
  ·subst hn;have hm:m=[]:=List.eq_nil_of_length_eq_zero hlen.symm;subst hm
   exact(Tryz.slices_Equal_string_empty ao ao' cp 0 cp' w (by omega)).mono fun e w' hh=>⟨hh.1,hh.2▸Below.refl _ _⟩
  ·have hm:m≠[]:=fun e=>hn (List.eq_nil_of_length_eq_zero (by rw[hlen,e];rfl))
   obtain⟨b,off,rfl,hb,hc⟩:=hr hn
   obtain⟨b',off',rfl,hb',hc'⟩:=hr' hm
   have lb:∀x:List Str,(bas x).length=x.length:=fun x=>by simp[bas]
   have hcall:=Tryz.slices_Equal_string b off l.length cp b' off' m.length cp' (bas l) (bas m) w (by rw[lb];exact Nat.le_refl _) (by rw[lb];exact Nat.le_refl _) hlA hlB
    (fun j hj=>by rw[lb]at hj;rw[Zgh l j hj];exact hc j _ (List.getElem?_eq_getElem hj)) (fun j hj=>by rw[lb]at hj;rw[Zgh m j hj];exact hc' j _ (List.getElem?_eq_getElem hj))
   refine hcall.mono fun e w' hh=>⟨?_,?_⟩
   ·rw[hh.1,List.take_of_length_le (by rw[lb];exact Nat.le_refl _),List.take_of_length_le (by rw[lb];exact Nat.le_refl _)];exact Qc (decide_eq_decide.2 bas_inj)
   ·obtain⟨q,rfl⟩:=hh.2;exact below_drewN (Below.refl _ _) q
 ·have hne:l≠m:=fun e=>hlen (by rw[e])
  exact(Tryz.slices_Equal_string_lens ao ao' l.length cp m.length cp' w hlen).mono fun e w' hh=>⟨by rw[hh.1];exact Qc (decide_eq_false hne).symm,hh.2▸Below.refl _ _⟩
theorem neqPair:NeqAt Tryz.prog 37 (fun x=>.agg (Kt x).toArray) (fun x y:Str×Str=>decide (x=y)):=by
 refine⟨fun x y w=>?_,GuardAt.agg _ (by kernel_rfl)⟩
 have u3:=Tryz.underlying9;have a3:=Tryz.isAgg9;have z3:=Tryz.sizeOf9;have hS:Tryz.prog.underlying 37=some (.struct (Tryz.prog.fieldsOf 37)):=by kernel_rfl
 have hp:Tryz.prog.stoodInHeld 37=false:=by kernel_rfl
 simp only[Kt,S];rw[run_neq_struct,show(10000:Nat)=9999+1 from rfl,run_equalIn_agg w 9999 37 _ _ hS hp];simp only[Program.fieldsOf,Tryz.underlying37]
 go_simp
 obtain⟨x1,x2⟩:=x
 obtain⟨y1,y2⟩:=y
 by_cases h1:x1=y1 <;> by_cases h2:x2=y2 <;> simp[h1,h2]
theorem Qwq:∀l m:List (Str×Str),Lib.allEq (fun x y=>decide (x=y)) l m=decide (l=m)
 |[],[]=>rfl
 |[],b::m=>rfl
 |a::l,[]=>rfl
 |a::l,b::m=>by
  have ih:=Qwq l m;simp only[Lib.allEq]at ih ⊢;rw[ih]
  by_cases h1:a=b <;> by_cases h2:l=m <;> simp[h1,h2]
theorem Xcx (w:World)(v v':Value)(l m:List (Str×Str))(h:RdP w v l)(h':RdP w v' m) :
  Calls Tryz.prog 169 #[v,v'] w fun e w'=>e=.returned (.bool (decide (l=m)))∧Below w.heap.size w w':=by
 obtain⟨ao,cp,rfl,hl,hr⟩:=h
 obtain⟨ao',cp',rfl,hl',hr'⟩:=h'
 have hlA:=hl.1;have hlB:=hl'.1
 by_cases hlen:l.length=m.length
 ·by_cases hn:l=[]
  ·subst hn;have hm:m=[]:=List.eq_nil_of_length_eq_zero hlen.symm;subst hm;simp only[List.length_nil]
   go_enter Tryz.func169,Tryz.ntmps169
   go_wp2
   refine wp_loop_rounds 1 ?_;rw[rounds_succ]
   go_wp2
   go_ret
   exact⟨rfl,Below.refl _ _⟩
  ·have hm:m≠[]:=fun e=>hn (List.eq_nil_of_length_eq_zero (by rw[hlen,e];rfl))
   obtain⟨b,off,rfl,hb,hc⟩:=hr hn
   obtain⟨b',off',rfl,hb',hc'⟩:=hr' hm
   have hcall:=AnyQ.slices_Equal Tryz.eqPair 2 Tryz.isAgg37 Tryz.sizeOf37 Kt (fun _=>rfl) _ neqPair b off l.length cp b' off' m.length cp' l m w (Nat.le_refl _) (Nat.le_refl _) hlA hlB
    (fun j hj i v hv=>hc j i v hj (by rw[getElem!_pos l j hj]at hv;exact hv)) (fun j hj i v hv=>hc' j i v hj (by rw[getElem!_pos m j hj]at hv;exact hv))
   change Calls Tryz.prog 169 _ _ _ at hcall;rw[List.take_length,List.take_length,Qwq]at hcall;exact hcall.mono fun e w' hh=>⟨hh.1,by obtain⟨q,rfl⟩:=hh.2;exact below_drewN (Below.refl _ _) q⟩
 ·have hne:l≠m:=fun e=>hlen (by rw[e])
  have hb:((l.length:Int) != (m.length:Int))=true:=by rw[bne_iff_ne];omega
  have HN:=hid (decide_eq_false hne:decide (l=m)=false);clear hne hlen hr hr'
  go_enter Tryz.func169,Tryz.ntmps169
  go_wp2
  go_ret
  exact⟨by rw[HN.out];rfl,Below.refl _ _⟩
def RdT (w:World)(v:Value)(t:Tg):Prop:=∃vv kv,v=.agg (Qv t vv kv)∧RdS w vv t.vars∧RdP w kv t.keys
theorem RdT.below {w w1:World}{v:Value}{t:Tg}(h:RdT w v t)(hb:Below w.heap.size w w1):RdT w1 v t:=by
 obtain⟨vv,kv,hv,h1,h2⟩:=h
 exact⟨vv,kv,hv,h1.below hb,h2.below hb⟩
theorem RdT.zero (w:World):RdT w (.agg (Qv Tg.zero Xw Xw)) Tg.zero:=⟨Xw,Xw,rfl,RdS.nil w,RdP.nil w⟩
theorem Px (w:World)(A B:Obj):Below w.heap.size w ((w.alloc A).alloc B):=(bal _ _).alloc (by simp) _
theorem same_any (w:World)(v v':Value)(a b:Tg)(h:RdT w v a)(h':RdT w v' b) :
  Calls Tryz.prog 215 #[v,v'] w fun e w'=>e=.returned (.bool (Zxq a b))∧Below w.heap.size w w':=by
 obtain⟨va,ka,rfl,h1,h2⟩:=h
 obtain⟨vb,kb,rfl,h3,h4⟩:=h'
 have E1:=hid (fun W (hb:Below w.heap.size w W)=>eqS_any W va vb a.vars b.vars (h1.below hb) (h3.below hb));have E2:=hid (fun W (hb:Below w.heap.size w W)=>Xcx W ka kb a.keys b.keys (h2.below hb) (h4.below hb))
 obtain⟨_,_,rfl,_,_⟩:=h1
 obtain⟨_,_,rfl,_,_⟩:=h2
 obtain⟨_,_,rfl,_,_⟩:=h3
 obtain⟨_,_,rfl,_,_⟩:=h4
 unfold Zxq;simp only[Qv,S];generalize decide (a.vars=b.vars)=d1 at *;generalize decide (a.keys=b.keys)=d2 at *
 go_enter Tryz.func215,Tryz.ntmps215
 go_wp2_with fail
 ·refine(E1.out _ (Px _ _ _)).mono ?_
  rintro e w2 ⟨rfl,hb⟩;have d4:=(hb.cell (p:=⟨w.heap.size,4,none⟩) (by simp;omega)).trans (cell_of_row _ _ _ _ _ _ (heap_alloc2_old _ _ _));have d5:=(hb.cell (p:=⟨w.heap.size+1,4,none⟩) (by simp)).trans (cell_of_row _ _ _ _ _ _ (heap_alloc2_new _ _ _));have d4':w2.cell? ⟨w.heap.size,4,none⟩=some (.slice _ _ _):=d4;have d5':w2.cell? ⟨w.heap.size+1,4,none⟩=some (.slice _ _ _):=d5;have hb2:=hid (Below.then (Px _ _ _) hb);clear d4 d5 hb E1
  cases d1
  ·go_wp2_with fail
   go_ret
   exact⟨Qc (by simp),hb2.out⟩
  ·go_wp2_with fail
   refine(E2.out _ hb2.out).mono ?_
   rintro e w3 ⟨rfl,hb3⟩;go_wp2_with fail
   go_ret
   exact⟨Qc (by simp[*]),hb2.out.then hb3⟩
 all_goals go_ret
 all_goals exact⟨Qc (by simp[*]),(bal _ _).alloc (by simp) _⟩
end
section
open Go.RowKit Go.Lib Go.Sort
def Nk (w:World)(v v':Value):Prop:=v'.ownBlock=v.ownBlock∨∃k,v'.ownBlock=some k∧w.heap.size≤k
theorem Qgx {P:Program}(w:World)(base:Nat)(t ty e:TypeId)(i:TypeInfo)(z:Value)(size bytes:Nat)(ht:P.underlying t=some (.slice e))(hi:P.info? e=some i)(hz:i.zero=some z)
  (hsize:i.size=size)(hby:i.bytes=bytes)(hzs:z.cells.size=size)(hsz:0<size)
  (v:Value)(n:Nat)(xs:List Value)(hown:w.ownsRow base e size v n xs)
  (a:Addr)(m c:Nat)(news:List Value)(hl:news.length=m * size)(hnews:∀j u,news[j]?=some u→w.cell? (a.add j)=some u)(h1:∀u∈news,u.oneCell'=true)
  (h63:n+m≤maxLen)(hbytes:(n+m) * bytes≤140737488355328)(hbase:base≤w.heap.size) :
  ∃v' w',(Builtin.append_ #[t,t] ty #[v,.slice (some a) m c]).run P w=.ok v' w'∧w'.ownsRow base e size v' (n+m) (xs++news)∧w.grownBy w' v.ownBlock∧Nk w v v':=by
 obtain⟨v',w',hr,h2,h3,h4⟩:=run_append_own (P:=P) w base t ty e i z size bytes ht hi hz hsize hby hzs hsz v n xs hown a m c news hl hnews h1 h63 hbytes hbase
 refine⟨v',w',hr,h2,h3,?_⟩
 subst hsize;subst hby
 rcases hown.2 with ⟨rfl,rfl⟩|⟨g,cap,cur,rfl,hbg,hg,hnc,hcm,hcs,htake⟩
 ·by_cases hm:m=0
  ·left;rw[h4.2 ⟨rfl,hm⟩]
  ·have hr2:=run_append_nil (P:=P) w t ty e i z ht hi hz a m c news hl hnews (by omega) (by unfold maxLen at h63;omega) (by simp only[Nat.zero_add]at hbytes;omega);rw[hr]at hr2
   injection hr2 with e1 e2
   right
   exact⟨w.heap.size,by rw[e1];rfl,Nat.le_refl _⟩
 ·by_cases hroom:n+m≤cap
  ·have hfit:n * i.size+news.length≤cur.size:=by rw[hl,hcs,←Nat.add_mul];exact Nat.mul_le_mul_right _ hroom
   have hr2:=run_append_room (P:=P) w t ty e i ht hi g n cap cur hg a m c news hl hnews h1 hroom hfit;rw[hr]at hr2
   injection hr2 with e1 e2
   left
   rw[e1];rfl
  ·have holds:∀j u,xs[j]?=some u→w.cell? ((⟨g,0,none⟩:Addr).add j)=some u:=hown.cells (g:=g) rfl;have hr2:=run_append_grow (P:=P) w t ty e i z ht hi hz ⟨g,0,none⟩ n cap xs hown.1 holds a m c news hl hnews (by omega) (by unfold maxLen at h63;omega) (growslice_fits (by omega) hbytes);rw[hr]at hr2
   injection hr2 with e1 e2
   right
   exact⟨w.heap.size,by rw[e1];rfl,Nat.le_refl _⟩
theorem Gd {P:Program}{w:World}{ops:Array Oper}{rest:List Oper}{o:Oper}{a:Act}{Q:Exit→Act→World→Prop}(hgd:o.guard=none)(s x:Operand)(t:TypeId)
  (ho:o.op=.call { callee:=.builtin .append,args:=#[s,x],argTypes:=#[t,t] })
  (base:Nat)(e:TypeId)(i:TypeInfo)(z:Value)(size bytes:Nat)(ht:P.underlying t=some (.slice e))(hi:P.info? e=some i)(hz:i.zero=some z)
  (hsize:i.size=size)(hby:i.bytes=bytes)(hzs:z.cells.size=size)(hsz:0<size)
  (v:Value)(n:Nat)(xs:List Value)(hs:a.eval s=v)(hown:w.ownsRow base e size v n xs)
  (ad:Addr)(m c:Nat)(news:List Value)(hx:a.eval x=.slice (some ad) m c)(hl:news.length=m * size)(hnews:∀j u,news[j]?=some u→w.cell? (ad.add j)=some u)(h1:∀u∈news,u.oneCell'=true)
  (h63:n+m≤maxLen)(hbytes:(n+m) * bytes≤140737488355328)(hbase:base≤w.heap.size)
  (h:∀v' w',w'.ownsRow base e size v' (n+m) (xs++news)→w.grownBy w' v.ownBlock→Nk w v v'→wpList P ops Q rest (a.put o.dst v') w'):wpList P ops Q (o::rest) a w:=by
 refine wpList_plain hgd fun _ hK=>?_
 obtain⟨v',w',hr,h2,h3,h4⟩:=Qgx (P:=P) w base t o.type e i z size bytes ht hi hz hsize hby hzs hsz v n xs hown ad m c news hl hnews h1 h63 hbytes hbase
 unfold Oper.wp execOp;simp only[ho,resolve,invoke,builtin,Sem.run_bind,Sem.run_pure,Result.andThen_ok,List.map_toArray,List.map_cons,List.map_nil,hs,hx,hr];exact hK _ _ (h v' w' h2 h3 h4)
theorem Zz {w:World}{ops:Array Oper}{rest:List Oper}{o:Oper}{a:Act}{Q:Exit→Act→World→Prop}(hgd:o.guard=none)(s x:Operand)
  (ho:o.op=.call { callee:=.builtin .append,args:=#[s,x],argTypes:=#[28,28] })
  (B:Nat)(v:Value)(l:List Str)(y:Str)(hs:a.eval s=v)(hown:Qt w B v l)(hx:a.eval x=.slice (some ⟨w.heap.size,0,none⟩) 1 1)(hl:l.length≤1000000)(hB:B≤w.heap.size)
  (h:∀v' w',Qt w' B v' (l++[y])→w.grownBy w' v.ownBlock→Nk w v v'→wpList Tryz.prog ops Q rest (a.put o.dst v') w') :
  wpList Tryz.prog ops Q (o::rest) a (w.alloc (.cells #[.string ⟨y.toArray⟩] 9)):=by
 obtain⟨i0,hi,hz0,hz1,hz2⟩:=info_parts Zzw
 refine Gd hgd s x 28 ho B 9 i0 (.string ⟨#[]⟩) 1 16 Tryz.underlying28 hi hz0 hz1 hz2 rfl (by decide) v l.length (l.map S) hs (World.ownsRow.alloc hown _) ⟨w.heap.size,0,none⟩ 1 1 [.string ⟨y.toArray⟩] hx rfl (cell_one_new _ _ _) (fun u hu=>by simp at hu;subst hu;rfl) (by unfold maxLen;omega) (by omega) (by simp;omega) ?_;intro v' w' own gr mv;refine h v' w' (Xh own (by simp) (by simp[S])) ⟨gr.os,gr.tape,gr.output,Nat.le_trans (by simp) gr.size,fun k hk hne=>?_⟩ ?_
 ·rw[gr.block k (by simp;omega) hne];exact heap_alloc_old _ _ hk
 ·rcases mv with m|⟨k,h1,h2⟩
  ·exact Or.inl m
  ·exact Or.inr ⟨k,h1,by simp at h2;omega⟩
end
section
open Go.RowKit Go.Lib Go.Sort
structure Enc (α:Type)(k:Nat) where
 enc:α→List Value
 len:∀x,(enc x).length=k
 one:∀x,∀u∈enc x,u.oneCell'=true
section
variable {α:Type}{k:Nat}{E:Enc α k}
def Xd (E:Enc α k)(l:List α):List Value:=l.flatMap E.enc
theorem Js (E:Enc α k):∀l:List α,(Xd E l).length=l.length * k
 |[]=>by simp[Xd]
 |a::r=>by
  have:=Js E r
  simp only[Xd,List.flatMap_cons,List.length_append,List.length_cons]at this ⊢;rw[this,E.len,Nat.succ_mul,Nat.add_comm]
theorem Fh (E:Enc α k)(l m:List α):Xd E (l++m)=Xd E l++Xd E m:=by simp[Xd]
theorem Hg (E:Enc α k):∀(l:List α)(j i:Nat)(h:j<l.length)(hi:i<k),(Xd E l)[j * k+i]?=(E.enc (l[j]'h))[i]?
 |[],j,i,h,hi=>by simp at h
 |a::r,0,i,h,hi=>by
  simp only[Xd,List.flatMap_cons,Nat.zero_mul,Nat.zero_add];rw[List.getElem?_append_left (by rw[E.len];exact hi)];rfl
 |a::r,j+1,i,h,hi=>by
  have ih:=Hg E r j i (by simpa using h) hi;simp only[Xd,List.flatMap_cons]at ih ⊢;rw[List.getElem?_append_right (by rw[E.len,Nat.succ_mul];omega),E.len,show(j+1) * k+i-k=j * k+i by rw[Nat.succ_mul];omega,ih]
  rfl
theorem Qzg (E:Enc α k):∀(l:List α)(j i:Nat)(h:j<l.length)(hi:i<k)(u:Value)(y:α),E.enc y=(E.enc (l[j]'h)).set i u→(Xd E l).set (j * k+i) u=Xd E (l.set j y)
 |[],j,i,h,hi,u,y,he=>by simp at h
 |a::r,0,i,h,hi,u,y,he=>by
  simp only[Xd,List.flatMap_cons,Nat.zero_mul,Nat.zero_add,List.set_cons_zero];rw[List.set_append_left _ _ (by rw[E.len];exact hi),he];rfl
 |a::r,j+1,i,h,hi,u,y,he=>by
  have ih:=Qzg E r j i (by simpa using h) hi u y he;simp only[Xd,List.flatMap_cons,List.set_cons_succ]at ih ⊢;rw[List.set_append_right _ _ (by rw[E.len,Nat.succ_mul];omega),E.len,show(j+1) * k+i-k=j * k+i by rw[Nat.succ_mul];omega,ih]
def RdL (E:Enc α k)(w:World)(v:Value)(l:List α):Prop :=
 ∃ao cp,v=.slice ao l.length cp∧(l.length≤cp∧l.length≤9223372036854775807∧(ao=none→l=[]∧cp=0))∧
  (l≠[]→∃b off,ao=some ⟨b,off,none⟩∧b<w.heap.size∧∀j i x,(hj:j<l.length)→(E.enc (l[j]'hj))[i]?=some x→w.cell? ⟨b,off+j * k+i,none⟩=some x)
def Qg (E:Enc α k)(ty:TypeId)(w:World)(B:Nat)(v:Value)(l:List α):Prop:=w.ownsRow B ty k v l.length (Xd E l)
variable {w w' : World}{v:Value}{l:List α}{B:Nat}{ty:TypeId}
theorem RdL.nil (E:Enc α k)(w:World):RdL E w (.slice none 0 0) []:=⟨none,0,rfl,by simp,fun h=>absurd rfl h⟩
theorem RdL.below (h:RdL E w v l)(hb:Below w.heap.size w w'):RdL E w' v l:=by
 obtain⟨ao,cp,hv,hl,hr⟩:=h
 refine⟨ao,cp,hv,hl,fun hne=>?_⟩
 obtain⟨b,off,ha,hlt,hc⟩:=hr hne
 exact⟨b,off,ha,Nat.lt_of_lt_of_le hlt hb.size,fun j i x hj hx=>(hb.cell (p:=⟨b,off+j * k+i,none⟩) hlt).trans (hc j i x hj hx)⟩
theorem RdL.slice (h:RdL E w v l):∃ao cp,v=.slice ao l.length cp∧l.length≤cp:=by obtain⟨ao,cp,hv,hl,_⟩:=h;exact⟨ao,cp,hv,hl.1⟩
theorem Qg.shape (h:Qg E ty w B v l):(v=.slice none 0 0∧l=[]) ∨
  ∃g cap cur,v=.slice (some ⟨g,0,none⟩) l.length cap∧B≤g∧w.heap[g]?=some (.cells cur ty (0,0))∧l.length≤cap∧cap≤maxLen∧cur.size=cap * k∧cur.toList.take (l.length * k)=Xd E l:=by
 rcases h.2 with ⟨h1,h2⟩|⟨g,cap,cur,h1,h2,h3,h4,h5,h6,h7⟩
 ·exact Or.inl ⟨h1,List.eq_nil_of_length_eq_zero h2⟩
 ·exact Or.inr ⟨g,cap,cur,h1,h2,h3,h4,h5,h6,h7⟩
theorem Qg.slice (h:Qg E ty w B v l):∃ao cp,v=.slice ao l.length cp∧l.length≤cp:=by
 rcases h.shape with ⟨rfl,rfl⟩|⟨g,cap,cur,rfl,_,_,hn,_⟩
 ·exact⟨none,0,rfl,Nat.le_refl _⟩
 ·exact⟨_,cap,rfl,hn⟩
theorem Qg.rd (h:Qg E ty w B v l):RdL E w v l:=by
 rcases h.shape with ⟨rfl,rfl⟩|⟨g,cap,cur,rfl,hB,hg,hn,hm,hs,ht⟩
 ·exact RdL.nil E w
 ·refine⟨_,_,rfl,⟨hn,by unfold maxLen at hm;omega,fun e=>by cases e⟩,fun _=>⟨g,0,rfl,lt_of_block hg,fun j i x hj hx=>?_⟩⟩
  have hi:i<k:=by have:=(List.getElem?_eq_some_iff.1 hx).1;rwa [E.len]at this
  rw[Nat.zero_add];exact Yg hg ht _ _ (by rw[Hg E l j i hj hi];exact hx)
theorem Qg.nil (E:Enc α k)(ty:TypeId)(w:World)(B:Nat):Qg E ty w B (.slice none 0 0) []:=World.ownsRow_nil _ _ _ _
theorem Qg.below (h:Qg E ty w B v l)(hb:Below w.heap.size w w'):Qg E ty w' B v l:=Qz h hb
theorem Qg.mono {C:Nat}(h:Qg E ty w B v l)(hc:C≤B):Qg E ty w C v l:=by
 unfold Qg World.ownsRow at *
 refine⟨h.1,?_⟩
 rcases h.2 with h|⟨g,cap,cur,h1,h2,h3⟩
 ·exact Or.inl h
 ·exact Or.inr ⟨g,cap,cur,h1,Nat.le_trans hc h2,h3⟩
theorem Qg.row {g m c:Nat}(h:Qg E ty w B (.slice (some ⟨g,0,none⟩) m c) l):∃cur,w.heap[g]?=some (.cells cur ty (0,0)):=by
 rcases h.2 with ⟨h1,_⟩|⟨g',cap,cur,h1,_,hg,_⟩
 ·cases h1
 ·simp only[Value.slice.injEq,Option.some.injEq,Addr.mk.injEq,and_true,true_and]at h1
  obtain⟨rfl,_⟩:=h1
  exact⟨cur,hg⟩
theorem Qg.some' {n c:Nat}{a:Option Addr}(h:Qg E ty w B (.slice a n c) l)(hne:l≠[]):∃g,a=some ⟨g,0,none⟩:=by
 rcases h.shape with ⟨_,e⟩|⟨g,cap,cur,e,_⟩
 ·exact absurd e hne
 ·cases e;exact⟨g,rfl⟩
theorem Qg.cell {g m c:Nat}(h:Qg E ty w B (.slice (some ⟨g,0,none⟩) m c) l)(j i:Nat)(x:Value)(hj:j<l.length)(hx:(E.enc (l[j]'hj))[i]?=some x) :
  w.cell? ⟨g,j * k+i,none⟩=some x∧w.frozen? ⟨g,j * k+i,none⟩=false∧g<w.heap.size:=by
 rcases h.shape with ⟨e,rfl⟩|⟨g',cap,cur,e,hB,hg,hn,hm,hs,ht⟩
 ·cases e
 ·cases e;have hi:i<k:=by have:=(List.getElem?_eq_some_iff.1 hx).1;rwa [E.len]at this
  exact⟨Yg hg ht _ _ (by rw[Hg E l j i hj hi];exact hx),frozen_of_row w g _ _ _ hg,lt_of_block hg⟩
theorem Qg.set {g c m:Nat}{l2:List α}(h:Qg E ty w B (.slice (some ⟨g,0,none⟩) m c) l)(hm:m=l.length)(j i:Nat)(hj:j<l.length)(hi:i<k)(u:Value)(y:α)(hy:E.enc y=(E.enc (l[j]'hj)).set i u)(hl2:l.set j y=l2) :
  Qg E ty (w.setCell ⟨g,j * k+i,none⟩ u) B (.slice (some ⟨g,0,none⟩) m c) l2:=by
 subst hm
 have:=(World.ownsRow.stored h (j * k+i) u).1
 rw[Qzg E l j i hj hi u y hy,hl2]at this;exact Xh this (by rw[←hl2,List.length_set]) rfl
theorem Zxz (w:World)(cs:Array Value)(e:TypeId)(j:Nat)(u:Value)(h:cs.toList[j]?=some u):(w.alloc (.cells cs e)).cell? ((⟨w.heap.size,0,none⟩:Addr).add j)=some u:=by
 have hx:=cell_of_row _ _ j _ _ _ (heap_alloc_new w (.cells cs e));have hadd:((⟨w.heap.size,0,none⟩:Addr).add j)=⟨w.heap.size,j,none⟩:=by
  unfold Addr.add
  split
  ·next e=>subst e;rfl
  ·simp
 rw[hadd,hx]
 simpa using h
theorem Jl {ops:Array Oper}{rest:List Oper}{o:Oper}{a:Act}{Q:Exit→Act→World→Prop}(hgd:o.guard=none)(s x:Operand){t:TypeId}
  (ho:o.op=.call { callee:=.builtin .append,args:=#[s,x],argTypes:=#[t,t] })
  {z:Value}{bytes:Nat} (ht:Tryz.prog.underlying t=some (.slice ty)) (hinf:(Tryz.prog.info? ty).map (fun i=>(i.zero,i.size,i.bytes))=some (some z,k,bytes)) (hzs:z.cells.size=k) (hk:0<k)
  (B:Nat)(v:Value)(l:List α)(y:α)(hs:a.eval s=v)(hown:Qg E ty w B v l)(hx:a.eval x=.slice (some ⟨w.heap.size,0,none⟩) 1 1)(hl:l.length+1≤maxLen)(hl2:(l.length+1) * bytes≤140737488355328)(hB:B≤w.heap.size)(cs:Array Value)(hcs:cs.toList=E.enc y)
  (h:∀v' w',Qg E ty w' B v' (l++[y])→w.grownBy w' v.ownBlock→Nk w v v'→wpList Tryz.prog ops Q rest (a.put o.dst v') w') :
  wpList Tryz.prog ops Q (o::rest) a (w.alloc (.cells cs ty)):=by
 obtain⟨i0,hi,hz0,hz1,hz2⟩:=info_parts hinf
 refine Gd hgd s x t ho B ty i0 z k bytes ht hi hz0 hz1 hz2 hzs hk v l.length (Xd E l) hs (World.ownsRow.alloc hown _) ⟨w.heap.size,0,none⟩ 1 1 (E.enc y) hx (by rw[E.len,Nat.one_mul]) (fun j u hu=>Zxz w cs ty j u (by rw[hcs];exact hu)) (E.one y) hl hl2 (by simp;omega) ?_;intro v' w' own gr mv;refine h v' w' (Xh own (by simp) (by rw[Fh];simp[Xd])) ⟨gr.os,gr.tape,gr.output,Nat.le_trans (by simp) gr.size,fun k hk hne=>?_⟩ ?_
 ·rw[gr.block k (by simp;omega) hne];exact heap_alloc_old _ _ hk
 ·rcases mv with m|⟨k,h1,h2⟩
  ·exact Or.inl m
  ·exact Or.inr ⟨k,h1,by simp at h2;omega⟩
end
end
section
open Go.RowKit Go.Lib
def Qbk (c:UInt8):Value:=.int .u8 (c.toNat:Int)
def Zxx (W:World)(B:Nat)(v:Value)(l:Str):Prop:=W.ownsRow B 5 1 v l.length (l.map Qbk)
def Lp:Enc UInt8 1 where
 enc:=fun c=>[Qbk c]
 len:=fun _=>rfl
 one:=fun x u hu=>by rw[List.mem_singleton.1 hu];rfl
theorem Zfj (l:Str):Xd Lp l=l.map Qbk:=by
 induction l with
 |nil=>rfl
 |cons c t ih=>simp only[Xd,List.flatMap_cons]at ih ⊢;rw[ih];rfl
theorem Qbv:(Tryz.prog.info? 5).map (fun i=>(i.zero,i.size,i.bytes))=some (some (.int .u8 0),1,1):=by kernel_rfl
theorem Zxx.slice {W:World}{B:Nat}{v:Value}{l:Str}(h:Zxx W B v l):∃ao cp,v=.slice ao l.length cp:=by
 rcases h.2 with ⟨h1,h2⟩|⟨g,cap,cur,h1,_⟩
 ·exact⟨none,0,by rw[h1,h2]⟩
 ·exact⟨_,cap,h1⟩
theorem Zxx.text {W:World}{B:Nat}{v:Value}{l:Str}(h:Zxx W B v l):(convert 237 9 v).run Tryz.prog W=.ok (.string ⟨l.toArray⟩) W:=by
 rcases h.2 with ⟨h1,h2⟩|⟨g,cap,cur,h1,h2,h3,h4,h5,h6,h7⟩
 ·rw[h1,List.eq_nil_of_length_eq_zero h2];exact run_convert_bytes_nil W 237 5 Tryz.underlying237 Tryz.underlying5 0 0 9 Tryz.underlying9
 ·rw[h1];refine run_convert_bytes_back W 237 9 5 ⟨g,0,none⟩ cap l Tryz.underlying237 Tryz.underlying5 Tryz.underlying9 (fun j hj=>?_);rw[show(⟨g,0,none⟩:Addr).add j=⟨g,j,none⟩from by unfold Addr.add;split <;> simp_all];exact Yg h3 h7 j _ (by simp[hj,Qbk])
structure VSt (w:World)(Br:Nat)(b u:ByteArray)(K:Nat)(W:World)(pos:Nat)(acc:Str)(bv:Value)(q:Nat):Prop where
 rd:PRd W Br b q 0 0
 it:W.heap[K]?=some (.stringIter u pos)
 own:Zxx W w.heap.size bv acc
 only:Qf Br w W
 k:w.heap.size≤K
section
variable {w W W' : World}{Br K pos q:Nat}{b u:ByteArray}{acc:Str}{bv:Value}
theorem VSt.ne (h:VSt w Br b u K W pos acc bv q):Br≠K∧bv.ownBlock≠some K∧bv.ownBlock≠some Br∧Br<W.heap.size∧K<W.heap.size:=by
 have hr:=h.rd;unfold PRd at hr
 refine⟨fun e=>?_,fun e=>?_,Qx h.own hr (by decide),lt_of_block hr,(Array.getElem?_eq_some_iff.1 h.it).1⟩
 ·have:=h.it;rw[←e,hr]at this;cases this
 ·rcases h.own.2 with ⟨h1,_⟩|⟨g,cap,cur,h1,_,h3,_⟩
  ·rw[h1]at e;cases e
  ·rw[h1]at e;cases e
   have:=h.it;rw[h3]at this;cases this
theorem VSt.next (h:VSt w Br b u K W pos acc bv q)(pos':Nat):VSt w Br b u K (W.iterAt K u pos') pos' acc bv q:=by
 obtain⟨n1,n2,n3,l1,l2⟩:=h.ne
 have hb:∀j,j≠K→(W.iterAt K u pos').heap[j]?=W.heap[j]?:=fun j hj=>Lib.iterAt_other W K j u pos' hj
 refine⟨(hb Br n1).trans h.rd,Lib.iterAt_heap W K u pos pos' h.it,?_,?_,h.k⟩
 ·refine World.ownsRow.kept h.own (show W.grownBy (W.iterAt K u pos') (some K) from⟨rfl,rfl,rfl,by rw[Lib.iterAt_size];exact Nat.le_refl _,fun j hj hne=>hb j (fun e=>hne (by rw[e]))⟩) (Or.inr n2)
 ·have o:=h.only
  exact⟨o.os,o.tape,o.output,by rw[Lib.iterAt_size];exact o.size,fun j hj hne=>(hb j (fun e=>by have:=h.k;omega)).trans (o.block j hj hne)⟩
theorem VSt.at_ (h:VSt w Br b u K W pos acc bv q)(q':Nat):VSt w Br b u K (W.setCell ⟨Br,1,none⟩ (.int .i64 q')) pos acc bv q':=by
 obtain⟨n1,n2,n3,l1,l2⟩:=h.ne
 exact⟨h.rd.setAt q',(heap_setCell_other _ _ _ _ (by simp;exact fun e=>absurd e.symm n1)).trans h.it,Qb h.own n3 _ _,h.only.set _ _,h.k⟩
theorem VSt.app {acc':Str}{bv':Value}(h:VSt w Br b u K W pos acc bv q)(o:Zxx W' w.heap.size bv' acc')(gr:W.grownBy W' bv.ownBlock):VSt w Br b u K W' pos acc' bv' q:=by
 obtain⟨n1,n2,n3,l1,l2⟩:=h.ne
 refine⟨(gr.block Br l1 (Ne.symm n3)).trans h.rd,(gr.block K l2 (Ne.symm n2)).trans h.it,o,?_,h.k⟩
 have oo:=h.only
 refine⟨gr.os.trans oo.os,gr.tape.trans oo.tape,gr.output.trans oo.output,Nat.le_trans oo.size gr.size,fun j hj hne=>(gr.block j (Nat.lt_of_lt_of_le hj oo.size) (fun e=>?_)).trans (oo.block j hj hne)⟩
 have:=(World.ownsRow.lt h.own j e.symm).1
 omega
end
theorem Zfk (r:Int)(W:World):Calls Tryz.prog 191 #[.int .i32 r] W fun e w'=>e=.returned (.bool (decide (r<32)||r==127))∧w'=W:=by
 by_cases h1:r<32
 ·go_enter Tryz.func191,Tryz.ntmps191
  go_wp2
  go_ret
  exact⟨Qc (by simp[h1]),rfl⟩
 ·cases h2:(r==127)
  all_goals
   go_enter Tryz.func191,Tryz.ntmps191
   go_wp2
   go_ret
   exact⟨Qc (by simp[h1,h2]),rfl⟩
theorem Ln (c:UInt8):(Lib.indexByte [91,93,47,61,92] c<0)↔Km c=false:=by
 revert c;apply Zn;decide +kernel
theorem enc_one (c:UInt8)(h:c.toNat<128):(Utf8.encode (c.toNat:Int)).data.toList=[c]:=by
 have hv:Utf8.valid (c.toNat:Int)=true:=by simp[Utf8.valid];omega
 unfold Utf8.encode;simp only[hv,if_true,Int.toNat_natCast];rw[if_pos (by omega)]
 simp
def ValRes (Br:Nat)(b:ByteArray)(p:Nat)(w:World)(x:Ending)(w':World):Prop :=
 (∃v r q,Qw false [] (b.data.toList.drop p)=some (v,r)∧x=.returned (.tuple #[.string ⟨v.toArray⟩,.bool true])∧PRd w' Br b q 0 0∧q≤b.size∧p≤q∧r=b.data.toList.drop q∧Zq r=true∧Qf Br w w') ∨
 (Qw false [] (b.data.toList.drop p)=none∧x=.returned (.tuple #[.string ⟨#[]⟩,.bool false])∧(∃q e a,e≠0∧PRd w' Br b q e a)∧Qf Br w w')
end
section
open Go.RowKit Go.Lib
theorem Xvz (Br:Nat)(b:ByteArray)(p:Nat)(w:World)(h:PRd w Br b p 0 0)(hp:p≤b.size)(hb:b.size≤1000)(hu:Zq (b.data.toList.drop p)=true) :
  Calls Tryz.prog 145 #[.pointer (some ⟨Br,0,none⟩)] w fun x w'=>ValRes Br b p w x w':=by
 have H:=hid h;have HU:=hid hu;have FA:=hid (fun q er ea e a W (h:PRd W Br b q er ea)=>Tc Br b q er ea e a W h);have HX:=hid (show(b.extract p b.size).data.toList=b.data.toList.drop p from by
  rw[Gw]
  show(b.data.toList.drop p).take (b.size-p)=_
  exact List.take_of_length_le (by rw[List.length_drop,←Lib.size_eq];exact Nat.le_refl _))
 have HXS:=hid (show(b.extract p b.size).size=b.size-p from by rw[Lib.size_eq,HX.out,List.length_drop,←Lib.size_eq]);have hpi:(p:Int)≤(b.size:Int):=by omega
 have hp0:(0:Int)≤(p:Int):=by omega
 have hbi:(b.size:Int)≤1000:=by omega
 obtain⟨c0,c1,c2,c3,f1,f2,f3,lt⟩:=h.cells
 clear h hu
 go_enter Tryz.func145,Tryz.ntmps145
 go_wp2_with fail;generalize b.extract p b.size=u at *
 go_loopw [5,6] (fun v5 v6 wr=>∃(pos:Nat) (esc:Bool) (acc:Str) (q:Nat),v6=.bool esc∧VSt w Br b u w.heap.size wr pos acc v5 q∧pos≤u.size∧Zq (u.data.toList.drop pos)=true∧Qw false [] u.data.toList=Qw esc acc (u.data.toList.drop pos)∧acc.length≤pos∧q≤b.size∧p≤q) (fun _ _ wr=>u.size-wr.iterPos w.heap.size)
 case atStart =>
  refine⟨0,false,[],p,rfl,⟨H.out.below (Below.refl _ _ |>.alloc (Nat.le_refl _) _),World.iter_heap w u 0,World.ownsRow_nil _ _ _ _,(Qf.refl w Br).below (bal _ _),Nat.le_refl _⟩,Nat.zero_le _,?_,rfl,Nat.le_refl _,hp,Nat.le_refl _⟩
  rw[HX.out];exact HU.out
 case round =>
  obtain⟨pos,esc,acc,q,rfl,st,hpos,hutf,hval,hacc,hq,hpq⟩:=hrel
  have ST:=hid st;have HV:=hid (show Qw false [] (b.data.toList.drop p)=Qw esc acc (u.data.toList.drop pos)from by rw[←HX.out];exact hval);have HVU:=hid hval;have hit:=st.it;clear st hval c0 c1 c2 c3 f1 f2 f3 lt;have hul:u.size=b.size-p:=HXS.out
  by_cases hps:pos<u.size
  ·have hne:u.data.toList.drop pos≠[]:=by intro e;have:=congrArg List.length e;rw[List.length_drop,←Lib.size_eq]at this;simp at this;omega
   obtain⟨hsd,hnext⟩:=Hy hne hutf
   have hdl:=(Sz hne).1;have hnx:∀ty,(Instr.next (.pointer (some ⟨w.heap.size,0,none⟩)) true ty).run Tryz.prog wr=_:=fun ty=>Lib.run_next_any_at wr w.heap.size u pos ty hit hps
   rw[←decodeL_drop]at hnx;rw[List.length_drop,←Lib.size_eq]at hdl;generalize hrk:decodeL (u.data.toList.drop pos)=rk at *
   obtain⟨r,k⟩:=rk
   rw[List.drop_drop]at hnext;simp only at hnx hsd hnext hdl;have HSD:=hid hsd;have HNX:=hid hnext;have HPK:=hid (show pos+k≤u.size by omega);have HQ:=hid (show p+pos<b.size by omega)
   obtain⟨q2,hq2⟩:∃q2:Nat,q2=p+pos:=⟨_,rfl⟩
   have hqa:(p:Int)+(pos:Int)=(q2:Int):=by omega
   have ST2:=hid ((ST.out.next (pos+k)).at_ q2);have hbd:(p:Int)+(pos:Int)≤1000:=by omega
   obtain⟨c0,c1,c2,c3,f1,f2,f3,lt⟩:=(ST.out.next (pos+k)).rd.cells
   rw[hq2.symm]at HQ;have HKK:=hid (show pos≤1000 by omega);have HQP:=hid (show p≤q2 by omega);have HQQ:=hid hq2;clear hsd hnext hdl hutf hrk hne hq2;go_upto_region 9 with fail;generalize (wr.iterAt w.heap.size u (pos+k)).setCell ⟨Br,1,none⟩ (.int .i64 (q2:Int))=w2 at *;clear c0 c1 c2 c3 f1 f2 f3 lt hnx ST hbd hqa
   obtain⟨c0,c1,c2,c3,f1,f2,f3,lt⟩:=ST2.out.rd.cells
   have HLA:=hid (show acc.length+1≤maxLen by have:=HKK.out;unfold maxLen;omega);have HLB:=hid (show(acc.length+1) * 1≤140737488355328 by have:=HKK.out;omega);have HSZ:=hid ST2.out.only.size;have hsnd:=HSD.out;generalize hl:u.data.toList.drop pos=l at *;have HLL:=hid hl;have HT0:=hid (show u.data.toList.drop (pos+k)=l.drop k from by rw[←List.drop_drop,hl]);clear hl HSD
   cases hsnd with
   |one c t hc =>
    have hcl:c.toNat<256:=c.toNat_lt;have HT:=hid (show u.data.toList.drop (pos+1)=t from HT0.out);have h128:¬(128:Int)≤(c.toNat:Int):=by omega
    have hwr:IntKind.u8.wrap (c.toNat:Int)=(c.toNat:Int):=by rw[IntKind.wrap];simp[IntKind.bits,IntKind.signed];omega
    cases esc with
    |true =>
     have IX:=hid (fun W=>(show Calls Tryz.prog 190 #[.string ⟨#[91,93,47,61,92]⟩,.int .u8 (c.toNat:Int)] W fun e w'=>e=.returned (.int .i64 (Lib.indexByte [91,93,47,61,92] c))∧w'=W from by
      have h:=Tryz.strings_IndexByte ⟨#[91,93,47,61,92]⟩ (c.toNat:Int) W;have hc:((c.toNat:Int)).toNat.toUInt8=c:=by simp
      rw[hc]at h;exact h))
     cases hsp:Km c
     ·have HN:=hid (show Qw true acc (c::t)=none by simp[Qw,hsp]);have hix:Lib.indexByte [91,93,47,61,92] c<0:=(Ln c).2 hsp
      go_wp2_with (first
       |(go_at_call 82;refine(FA.out q2 0 0 160 q2 _ ST2.out.rd).mono ?_;rintro e w5 ⟨rfl,h5,o5⟩)
       |(go_at_call 190;refine(IX.out _).mono ?_;rintro e w6 ⟨rfl,rfl⟩))
      refine bodyPost_ret (v:=.tuple #[.string ⟨#[]⟩,.bool false]) (by simp[results,Tryz.results145,go_sem]) rfl ?_;exact Or.inr ⟨by rw[HV.out];exact HN.out,rfl,⟨q2,160,q2,by decide,h5⟩,ST2.out.only.trans o5⟩
     ·have HN:=hid (show Qw true acc (c::t)=Qw false (acc++[c]) t by simp[Qw,hsp]);have hix:¬Lib.indexByte [91,93,47,61,92] c<0:=fun h=>by rw[(Ln c).1 h]at hsp;cases hsp
      go_wp2_with (first
       |(at_builtin;refine Jl (E:=Lp) rfl (.tmp 50) (.tmp 53) rfl Tryz.underlying237 Qbv rfl (by decide) w.heap.size u5 acc c rfl (by unfold Qg;rw[Zfj];exact ST2.out.own) rfl HLA.out HLB.out HSZ.out #[Qbk c] rfl ?_;intro v5 w5 own5 gr5 mv5)
       |(go_at_call 190;refine(IX.out _).mono ?_;rintro e w6 ⟨rfl,rfl⟩))
      have ST3:=hid (ST2.out.app (acc':=acc++[c]) (by unfold Qg at own5;rw[Zfj]at own5;exact own5) gr5);clear own5 gr5 mv5
      go_roundw
      case rel=>exact⟨pos+1,false,acc++[c],q2,rfl,ST3.out,by have:=HPK.out;omega,HNX.out,by rw[HVU.out,HN.out,HT.out],by simp;omega,by have:=HQ.out;omega,by have:=HQP.out;omega⟩
      case measure=>simp only[World.iterPos,ST3.out.it,hit];omega
    |false =>
     have CT:=hid (fun W=>(show Calls Tryz.prog 191 #[.int .i32 (c.toNat:Int)] W fun e w'=>e=.returned (.bool (Bz c))∧w'=W from by
      have h:=Zfk (c.toNat:Int) W;have e:(decide ((c.toNat:Int)<32)||((c.toNat:Int)==127))=Bz c:=by
       unfold Bz
       congr 1
       ·exact decide_eq_decide.2 (by omega)
       ·rw[Bool.eq_iff_iff,beq_iff_eq,beq_iff_eq];omega
      rw[e]at h;exact h))
     have e92:((c.toNat:Int)==92)=(c==92):=Fv c 92;have e93:((c.toNat:Int)==93)=(c==93):=Fv c 93;have e91:((c.toNat:Int)==91)=(c==91):=Fv c 91;have e47:((c.toNat:Int)==47)=(c==47):=Fv c 47;have e61:((c.toNat:Int)==61)=(c==61):=Fv c 61
     by_cases h92:c=92
     ·have HN:=hid (show Qw false acc (c::t)=Qw true acc t by simp[Qw,h92]);rw[beq_iff_eq.2 h92]at e92;clear e93 e91 e47 e61 h92;go_wp2_with fail
      go_roundw
      case rel=>exact⟨pos+1,true,acc,q2,rfl,ST2.out,by have:=HPK.out;omega,HNX.out,by rw[HVU.out,HN.out,HT.out],by omega,by have:=HQ.out;omega,by have:=HQP.out;omega⟩
      case measure=>simp only[World.iterPos,ST2.out.it,hit];omega
     ·rw[beq_eq_false_iff_ne.2 h92]at e92
      by_cases h93:c=93
      ·rw[beq_iff_eq.2 h93]at e93;clear e91 e47 e61;have hq1:(q2:Int)+1≤1000:=by have:=HQ.out;omega
       have ST3:=hid (show VSt w Br b u w.heap.size (w2.setCell ⟨Br,1,none⟩ (.int .i64 ((q2:Int)+1))) (pos+1) acc u5 (q2+1)from ST2.out.at_ (q2+1))
       obtain⟨ab,cb,rfl⟩:=ST2.out.own.slice
       by_cases h64:acc.length≤64
       ·have HN:=hid (show Qw false acc (c::t)=some (acc,t)by simp[Qw,h92,h93,h64]);have hng:¬(64:Int)<(acc.length:Int):=by omega
        clear h92 h93;go_upto_region 18 with fail;generalize w2.setCell ⟨Br,1,none⟩ (.int .i64 ((q2:Int)+1))=w3 at *;have htx:=ST3.out.own.text;go_wp2_with fail;refine bodyPost_ret (v:=.tuple #[.string ⟨acc.toArray⟩,.bool true]) (by simp[results,Tryz.results145,go_sem]) rfl ?_;exact Or.inl ⟨acc,t,q2+1,by rw[HV.out];exact HN.out,rfl,ST3.out.rd,by have:=HQ.out;omega,by have:=HQP.out;omega,by rw[←HT.out,HX.out,List.drop_drop];congr 1;have:=HQQ.out;omega,by rw[←HT.out];exact HNX.out,ST3.out.only⟩
       ·have HN:=hid (show Qw false acc (c::t)=none by simp[Qw,h92,h93,h64]);have hng:(64:Int)<(acc.length:Int):=by omega
        clear h92 h93;go_upto_region 18 with fail;generalize w2.setCell ⟨Br,1,none⟩ (.int .i64 ((q2:Int)+1))=w3 at *
        go_wp2_with (first
         |(go_at_call 82;refine(FA.out (q2+1) 0 0 3 p _ ST3.out.rd).mono ?_;rintro e w5 ⟨rfl,h5,o5⟩)
         |fail)
        refine bodyPost_ret (v:=.tuple #[.string ⟨#[]⟩,.bool false]) (by simp[results,Tryz.results145,go_sem]) rfl ?_;exact Or.inr ⟨by rw[HV.out];exact HN.out,rfl,⟨(q2+1),3,p,by decide,h5⟩,ST3.out.only.trans o5⟩
      ·rw[beq_eq_false_iff_ne.2 h93]at e93
       cases hbad:(Bz c||c==91||c==47||c==61)
       ·have HN:=hid (show Qw false acc (c::t)=Qw false (acc++[c]) t by simp only[Qw,if_neg h92,if_neg h93,hbad];rfl);simp only[Bool.or_eq_false_iff]at hbad
        obtain⟨⟨⟨b1,b2⟩,b3⟩,b4⟩:=hbad
        rw[b1]at CT;rw[b2]at e91;rw[b3]at e47;rw[b4]at e61;clear b1 b2 b3 b4 h92 h93;have hen:=enc_one c hc;generalize hE:Utf8.encode (c.toNat:Int)=E at *;have HE:=hid hen;have HSE:=hid (show E.size=1 by rw[Lib.size_eq,hen];rfl);clear hen;have ST2b:=ST2.out.own
        obtain⟨i0,hi,hz0,hz1,hz2⟩:=info_parts Qbv
        have HOB:=hid (show acc.length+E.size≤maxLen by have:=HKK.out;have:=HSE.out;unfold maxLen;omega);have HOC:=hid (show acc.length+E.size≤140737488355328 by have:=HKK.out;have:=HSE.out;omega);have HI:=hid hi;have HZ0:=hid hz0;have HZ1:=hid hz1;have HZ2:=hid hz2;have HST:=hid ST2b;clear hi hz0 hz1 hz2 ST2b
        go_wp2_with (first
         |(at_builtin;refine Lib.wpList_append_own_string _ rfl (.tmp 30) (.tmp 32) 237 9 rfl w.heap.size 5 i0 Tryz.underlying237 Tryz.underlying9 HI.out HZ0.out HZ1.out HZ2.out u5 acc.length (acc.map Qbk) rfl HST.out E rfl HOB.out HOC.out HSZ.out ?_;intro v5 w5 own5 gr5 mv5)
         |(go_at_call 191;refine(CT.out _).mono ?_;rintro e w6 ⟨rfl,rfl⟩))
        have ST3:=hid (ST2.out.app (acc':=acc++[c]) (Xh own5 (by rw[List.length_append,HSE.out];try rfl) (by rw[List.map_append];unfold Lib.strCells;rw[HE.out];rfl)) gr5);clear own5 gr5 mv5
        go_roundw
        case rel=>exact⟨pos+1,false,acc++[c],q2,rfl,ST3.out,by have:=HPK.out;omega,HNX.out,by rw[HVU.out,HN.out,HT.out],by simp;omega,by have:=HQ.out;omega,by have:=HQP.out;omega⟩
        case measure=>simp only[World.iterPos,ST3.out.it,hit];omega
       ·have HN:=hid (show Qw false acc (c::t)=none by simp only[Qw,if_neg h92,if_neg h93,hbad];rfl)
        cases b1:Bz c
        ·rw[b1]at CT hbad
         cases b2:(c==91)
         ·rw[b2]at e91 hbad
          cases b3:(c==47)
          ·rw[b3]at e47 hbad;have b4:(c==61)=true:=by simpa using hbad
           rw[b4]at e61;clear h92 h93 hbad b1 b2 b3 b4
           go_wp2_with (first
            |(go_at_call 82;refine(FA.out q2 0 0 160 q2 _ ST2.out.rd).mono ?_;rintro e w5 ⟨rfl,h5,o5⟩)
            |(go_at_call 191;refine(CT.out _).mono ?_;rintro e w6 ⟨rfl,rfl⟩))
           refine bodyPost_ret (v:=.tuple #[.string ⟨#[]⟩,.bool false]) (by simp[results,Tryz.results145,go_sem]) rfl ?_;exact Or.inr ⟨by rw[HV.out];exact HN.out,rfl,⟨q2,160,q2,by decide,h5⟩,ST2.out.only.trans o5⟩
          ·rw[b3]at e47;clear h92 h93 hbad b1 b2 b3
           go_wp2_with (first
            |(go_at_call 82;refine(FA.out q2 0 0 160 q2 _ ST2.out.rd).mono ?_;rintro e w5 ⟨rfl,h5,o5⟩)
            |(go_at_call 191;refine(CT.out _).mono ?_;rintro e w6 ⟨rfl,rfl⟩))
           refine bodyPost_ret (v:=.tuple #[.string ⟨#[]⟩,.bool false]) (by simp[results,Tryz.results145,go_sem]) rfl ?_;exact Or.inr ⟨by rw[HV.out];exact HN.out,rfl,⟨q2,160,q2,by decide,h5⟩,ST2.out.only.trans o5⟩
         ·rw[b2]at e91;clear h92 h93 hbad b1 b2
          go_wp2_with (first
           |(go_at_call 82;refine(FA.out q2 0 0 160 q2 _ ST2.out.rd).mono ?_;rintro e w5 ⟨rfl,h5,o5⟩)
           |(go_at_call 191;refine(CT.out _).mono ?_;rintro e w6 ⟨rfl,rfl⟩))
          refine bodyPost_ret (v:=.tuple #[.string ⟨#[]⟩,.bool false]) (by simp[results,Tryz.results145,go_sem]) rfl ?_;exact Or.inr ⟨by rw[HV.out];exact HN.out,rfl,⟨q2,160,q2,by decide,h5⟩,ST2.out.only.trans o5⟩
        ·rw[b1]at CT;clear h92 h93 hbad b1
         go_wp2_with (first
          |(go_at_call 82;refine(FA.out q2 0 0 160 q2 _ ST2.out.rd).mono ?_;rintro e w5 ⟨rfl,h5,o5⟩)
          |(go_at_call 191;refine(CT.out _).mono ?_;rintro e w6 ⟨rfl,rfl⟩))
         refine bodyPost_ret (v:=.tuple #[.string ⟨#[]⟩,.bool false]) (by simp[results,Tryz.results145,go_sem]) rfl ?_;exact Or.inr ⟨by rw[HV.out];exact HN.out,rfl,⟨q2,160,q2,by decide,h5⟩,ST2.out.only.trans o5⟩
   |more run t r h2 h4 hr hm hrun he =>
    have h128:(128:Int)≤(r:Int):=by omega
    have HT:=hid (show u.data.toList.drop (pos+run.length)=t from by rw[HT0.out];simp)
    cases esc with
    |true =>
     have HN:=hid (show Qw true acc (run++t)=none from by
      match run,h2,hrun with
      |c::rr,_,hrun =>
       have:=(Zgy (hrun c (List.mem_cons_self ..))).1
       simp[Qw,this])
     go_wp2_with (first
      |(go_at_call 82;refine(FA.out q2 0 0 160 q2 _ ST2.out.rd).mono ?_;rintro e w5 ⟨rfl,h5,o5⟩)
      |fail)
     refine bodyPost_ret (v:=.tuple #[.string ⟨#[]⟩,.bool false]) (by simp[results,Tryz.results145,go_sem]) rfl ?_;exact Or.inr ⟨by rw[HV.out];exact HN.out,rfl,⟨q2,160,q2,by decide,h5⟩,ST2.out.only.trans o5⟩
    |false =>
     have HN:=hid (Wx run acc t hrun);have CT:=hid (fun W=>(show Calls Tryz.prog 191 #[.int .i32 (r:Int)] W fun e w'=>e=.returned (.bool false)∧w'=W from by
      have h:=Zfk (r:Int) W;have e:(decide ((r:Int)<32)||((r:Int)==127))=false:=by
       rw[Bool.or_eq_false_iff];exact⟨decide_eq_false (by omega),beq_eq_false_iff_ne.2 (by omega)⟩
      rw[e]at h;exact h))
     have e92:((r:Int)==92)=false:=beq_eq_false_iff_ne.2 (by omega);have e93:((r:Int)==93)=false:=beq_eq_false_iff_ne.2 (by omega);have e91:((r:Int)==91)=false:=beq_eq_false_iff_ne.2 (by omega);have e47:((r:Int)==47)=false:=beq_eq_false_iff_ne.2 (by omega);have e61:((r:Int)==61)=false:=beq_eq_false_iff_ne.2 (by omega);generalize hE:Utf8.encode (r:Int)=E at *;have HE:=hid he;have HSE:=hid (show E.size=run.length by rw[Lib.size_eq,he]);clear he;have ST2b:=ST2.out.own
     obtain⟨i0,hi,hz0,hz1,hz2⟩:=info_parts Qbv
     have HOB:=hid (show acc.length+E.size≤maxLen by have:=HKK.out;have:=HSE.out;unfold maxLen;omega);have HOC:=hid (show acc.length+E.size≤140737488355328 by have:=HKK.out;have:=HSE.out;omega);have HI:=hid hi;have HZ0:=hid hz0;have HZ1:=hid hz1;have HZ2:=hid hz2;have HST:=hid ST2b;clear hi hz0 hz1 hz2 ST2b
     go_wp2_with (first
      |(at_builtin;refine Lib.wpList_append_own_string _ rfl (.tmp 30) (.tmp 32) 237 9 rfl w.heap.size 5 i0 Tryz.underlying237 Tryz.underlying9 HI.out HZ0.out HZ1.out HZ2.out u5 acc.length (acc.map Qbk) rfl HST.out E rfl HOB.out HOC.out HSZ.out ?_;intro v5 w5 own5 gr5 mv5)
      |(go_at_call 191;refine(CT.out _).mono ?_;rintro e w6 ⟨rfl,rfl⟩))
     have ST3:=hid (ST2.out.app (acc':=acc++run) (Xh own5 (by rw[List.length_append,HSE.out];try rfl) (by rw[List.map_append];unfold Lib.strCells;rw[HE.out];rfl)) gr5);clear own5 gr5 mv5
     go_roundw
     case rel=>exact⟨pos+run.length,false,acc++run,q2,rfl,ST3.out,by have:=HPK.out;omega,HNX.out,by rw[HVU.out,HN.out,HT.out],by simp;omega,by have:=HQ.out;omega,by have:=HQP.out;omega⟩
     case measure=>simp only[World.iterPos,ST3.out.it,hit];omega
  ·have hnx:∀ty,(Instr.next (.pointer (some ⟨w.heap.size,0,none⟩)) true ty).run Tryz.prog wr=_:=fun ty=>Lib.run_next_end_at wr w.heap.size u pos ty hit hps
   have HN:=hid (show Qw esc acc (u.data.toList.drop pos)=none from by
    rw[List.drop_eq_nil_of_le (by rw[←Lib.size_eq];omega)]
    cases esc <;> rfl)
   obtain⟨c0,c1,c2,c3,f1,f2,f3,lt⟩:=ST.out.rd.cells
   go_wp2_with (first
    |(go_at_call 82;refine(FA.out q 0 0 160 b.size _ ST.out.rd).mono ?_;rintro e w5 ⟨rfl,h5,o5⟩)
    |fail)
   refine bodyPost_ret (v:=.tuple #[.string ⟨#[]⟩,.bool false]) (by simp[results,Tryz.results145,go_sem]) rfl ?_;exact Or.inr ⟨by rw[HV.out];exact HN.out,rfl,⟨q,160,b.size,by decide,h5⟩,ST.out.only.trans o5⟩
end
section
open Go.RowKit Go.Lib
def Ck (ks:List (Str×Str))(s:Str):Option (List (Str×Str)×Str):=Mz s.length ks s
theorem Lr (ks:List (Str×Str))(s:Str):Ck ks s=match Xx 91 s with
  |none=>some (ks,s)
  |some r=>match Mf ks r with
   |none=>none
   |some (p,r3)=>Ck (ks++[p]) r3:=by
 unfold Ck
 cases s with
 |nil=>rfl
 |cons c t =>
  simp only[List.length_cons,Mz]
  cases h1:Xx 91 (c::t) with
  |none=>rfl
  |some r =>
   simp only
   have e1:=Kh h1
   cases e1
   cases h3:Mf ks t with
   |none=>rfl
   |some q =>
    obtain⟨p,r3⟩:=q
    have e2:=(Qfk h3).1;exact Qfv _ _ _ _ (by omega) (Nat.le_refl _)
theorem Qbw {s:Str}(h:Jh s=none):Xs s=none:=by unfold Xs;rw[h]
theorem Znz {s n r:Str}(h:Jh s=some (n,r)):Xs s=(Ck [] r).map fun q=>((n,q.1),q.2):=by
 unfold Xs Ck;rw[h]
 simp only
 cases Mz r.length [] r with
 |none=>rfl
 |some q=>obtain⟨a,b⟩:=q;rfl
theorem Znx {c:UInt8}{t:Str}(h:c.toNat<128)(hu:Zq (c::t)=true):Zq t=true:=by
 have hd:decodeL (c::t)=(c.toNat,1):=by
  rw[decodeL_N];unfold decodeN;rw[show((c::t).getD 0 0).toNat=c.toNat from rfl,if_pos h]
 have:=(Hy (List.cons_ne_nil c t) hu).2
 rw[hd]at this;exact this
theorem Zxj:∀(n t:Str),(∀c∈n,c.toNat<128)→Zq (n++t)=true→Zq t=true
 |[],t,_,h=>h
 |c::r,t,hn,h=>Zxj r t (fun d hd=>hn d (List.mem_cons_of_mem _ hd)) (Znx (hn c (List.mem_cons_self ..)) h)
theorem nameB_low (c:UInt8)(h:Zd c=true):c.toNat<128:=by
 revert c;apply Zn;decide +kernel
theorem Tr {s n r:Str}(h:Jh s=some (n,r))(hu:Zq s=true):Zq r=true:=by
 have he:=(Dj h).1;rw[he]at hu;refine Zxj n r (fun c hc=>?_) hu;unfold Jh at h
 split at h
 ·cases h;exact nameB_low c (List.all_eq_true.1 (List.all_takeWhile) c hc)
 ·cases h
theorem Hf {c:UInt8}{s r:Str}(hc:c.toNat<128)(h:Xx c s=some r)(hu:Zq s=true):Zq r=true:=by
 rw[Kh h]at hu;exact Znx hc hu
def P2 (W:World)(B:Nat)(a0 a1:Value):World:=(W.setCell ⟨B,0,none⟩ a0).setCell ⟨B,1,none⟩ a1
theorem Qby {W:World}{B:Nat}{z0 z1:Value}(a0 a1:Value)(h:W.heap[B]?=some (.cells #[z0,z1] 82 (0,0))):(P2 W B a0 a1).heap[B]?=some (.cells #[a0,a1] 82 (0,0)):=by
 unfold P2;rw[heap_setCell_same _ _ _ _ _ _ (heap_setCell_same _ _ _ _ _ _ h)];simp
theorem Qbh {W:World}{B b:Nat}(a0 a1:Value)(h:b≠B):(P2 W B a0 a1).heap[b]?=W.heap[b]?:=by
 unfold P2;rw[heap_setCell_other _ _ _ _ (by simp;exact fun e=>absurd e h),heap_setCell_other _ _ _ _ (by simp;exact fun e=>absurd e h)]
theorem P2_size {W:World}{B:Nat}(a0 a1:Value):(P2 W B a0 a1).heap.size=W.heap.size:=by simp[P2]
theorem Qq {W:World}{B:Nat}{a0 a1:Value}{ty:TypeId}(h:W.heap[B]?=some (.cells #[a0,a1] ty (0,0))) :
  W.cell? ⟨B,0,none⟩=some a0∧W.cell? ⟨B,1,none⟩=some a1∧W.frozen? ⟨B,0,none⟩=false∧W.frozen? ⟨B,1,none⟩=false∧B<W.heap.size:=by
 refine⟨?_,?_,frozen_of_row _ _ _ _ _ h,frozen_of_row _ _ _ _ _ h,lt_of_block h⟩
 all_goals rw[cell_of_row _ _ _ _ _ _ h];rfl
theorem Sv {W:World}{Rb:Nat}{a0 a1 z0 z1:Value}{ok:Bool}(h:W.heap[Rb]?=some (.cells #[z0,z1] 82 (0,0))){Q:Ending→World→Prop}{a:Act}(hd:a.defers=[])
  (h2:a.tmps.getD 2 undef=.pointer (some ⟨Rb,0,none⟩))(h3:a.tmps.getD 3 undef=.bool ok)(hQ:Q (.returned (.tuple #[.agg #[a0,a1],.bool ok])) (P2 W Rb a0 a1)) :
  bodyPost Tryz.prog Tryz.f83 Q Exit.ret a (P2 W Rb a0 a1):=by
 have hr:=Qby a0 a1 h;generalize P2 W Rb a0 a1=V at *
 obtain⟨e0,e1,_,_,_⟩:=Qq hr
 refine bodyPost_ret (v:=.tuple #[.agg #[a0,a1],.bool ok]) ?_ hd hQ
 obtain⟨tmps,defers⟩:=a
 simp only[Array.getD_eq_getD_getElem?]at h2 h3
 simp[results,Tryz.results83,go_sem,h2,h3,e0,e1]
structure SSt (w:World)(Br Sb:Nat)(n:Str)(W:World)(kv:Value)(ks:List (Str×Str)):Prop where
 rb:W.heap[w.heap.size]?=some (.cells #[.string ⟨#[]⟩,.slice none 0 0] 82 (0,0))
 sb:W.heap[Sb]?=some (.cells #[.string ⟨n.toArray⟩,kv] 82 (0,0))
 own:Qd W (w.heap.size+1) kv ks
 only:Qf Br w W
 lt:w.heap.size<Sb
 br:Br<w.heap.size
section
variable {w W W' : World}{Br Sb:Nat}{n:Str}{kv:Value}{ks:List (Str × Str)}
theorem SSt.step (h:SSt w Br Sb n W kv ks)(o:Qf Br W W'):SSt w Br Sb n W' kv ks:=by
 have hlt:=h.lt;have hbr:=h.br
 refine⟨(o.block _ (lt_of_block h.rb) (by simp;omega)).trans h.rb,(o.block _ (lt_of_block h.sb) (by simp;omega)).trans h.sb,World.ownsRow.kept h.own o (Or.inr (fun e=>?_)),h.only.trans o,h.lt,h.br⟩
 have:=(World.ownsRow.lt h.own _ e).1
 omega
theorem SSt.below (h:SSt w Br Sb n W kv ks)(hb:Below W.heap.size W W'):SSt w Br Sb n W' kv ks :=
 ⟨bk hb h.rb,bk hb h.sb,Qz h.own hb,h.only.below hb,h.lt,h.br⟩
theorem SSt.set (h:SSt w Br Sb n W kv ks){k:Nat}(hk:Sb<k)(hne:kv.ownBlock≠some k)(i:Nat)(x:Value):SSt w Br Sb n (W.setCell ⟨k,i,none⟩ x) kv ks:=by
 have hlt:=h.lt;have hbr:=h.br;have o:=h.only
 refine⟨(heap_setCell_other _ _ _ _ (by simp;omega)).trans h.rb,(heap_setCell_other _ _ _ _ (by simp;omega)).trans h.sb,Qb h.own hne _ _,?_,h.lt,h.br⟩
 exact⟨o.os,o.tape,o.output,by simpa using o.size,fun j hj hn=>(heap_setCell_other _ _ _ _ (by simp;omega)).trans (o.block j hj hn)⟩
theorem SSt.keys (h:SSt w Br Sb n W kv ks){kv':Value}{ks':List (Str×Str)}(o:Qd W' (w.heap.size+1) kv' ks')(gr:W.grownBy W' kv.ownBlock):SSt w Br Sb n (W'.setCell ⟨Sb,1,none⟩ kv') kv' ks':=by
 have hlt:=h.lt;have n1:kv.ownBlock≠some w.heap.size:=Qx h.own h.rb (by decide);have n2:kv.ownBlock≠some Sb:=Qx h.own h.sb (by decide);have rb':=(gr.block _ (lt_of_block h.rb) (Ne.symm n1)).trans h.rb;have sb':=(gr.block _ (lt_of_block h.sb) (Ne.symm n2)).trans h.sb;have n3:kv'.ownBlock≠some Sb:=Qx o sb' (by decide);have oo:=h.only
 refine⟨(heap_setCell_other _ _ _ _ (by simp;omega)).trans rb',by rw[heap_setCell_same _ _ _ _ _ _ sb'];simp,Qb o n3 _ _,?_,h.lt,h.br⟩
 refine⟨gr.os.trans oo.os,gr.tape.trans oo.tape,gr.output.trans oo.output,by simpa using Nat.le_trans oo.size gr.size,fun j hj hne=>?_⟩
 rw[heap_setCell_other _ _ _ _ (by simp;omega)]
 refine(gr.block j (Nat.lt_of_lt_of_le hj oo.size) (fun e=>?_)).trans (oo.block j hj hne)
 have:=(World.ownsRow.lt h.own j e.symm).1
 omega
theorem SSt.ret (h:SSt w Br Sb n W kv ks)(a0 a1:Value):Qf Br w (P2 W w.heap.size a0 a1):=by
 have o:=h.only
 exact⟨o.os,o.tape,o.output,by rw[P2_size];exact o.size,fun j hj hne=>(Qbh a0 a1 (by omega)).trans (o.block j hj hne)⟩
theorem SSt.own2 (h:SSt w Br Sb n W kv ks)(a0 a1:Value):Qd (P2 W w.heap.size a0 a1) w.heap.size kv ks:=by
 have n1:kv.ownBlock≠some w.heap.size:=Qx h.own h.rb (by decide)
 have:=Qb (Qb h.own n1 0 a0) n1 1 a1
 unfold Qd World.ownsRow at *
 refine⟨this.1,?_⟩
 rcases this.2 with h|⟨g,cap,cur,h1,h2,h3⟩
 ·exact Or.inl h
 ·exact Or.inr ⟨g,cap,cur,h1,by omega,h3⟩
theorem SSt.rd2 (h:SSt w Br Sb n W kv ks){b:ByteArray}{q e:Nat}{a:Int}(hr:PRd W Br b q e a)(a0 a1:Value):PRd (P2 W w.heap.size a0 a1) Br b q e a:=by
 have:=h.br
 unfold PRd at *;rw[Qbh a0 a1 (by omega)];exact hr
end
def Xcj (Br:Nat)(b:ByteArray)(p:Nat)(w:World)(x:Ending)(w':World):Prop :=
 (∃st r q kv,Xs (b.data.toList.drop p)=some (st,r)∧x=.returned (.tuple #[.agg #[.string ⟨st.1.toArray⟩,kv],.bool true])∧Qd w' w.heap.size kv st.2∧PRd w' Br b q 0 0∧q≤b.size∧p<q∧r=b.data.toList.drop q∧Zq r=true∧Qf Br w w') ∨
 (Xs (b.data.toList.drop p)=none∧(∃(n:Str) (a:Option Addr) (l c:Nat),x=.returned (.tuple #[.agg #[.string ⟨n.toArray⟩,.slice a l c],.bool false]))∧(∃q e a,e≠0∧PRd w' Br b q e a)∧Qf Br w w')
end
section
open Go.RowKit Go.Lib
theorem Xck:(Tryz.prog.info? 242).map (·.size)=some 2:=by kernel_rfl
theorem liesBld:liesAt Tryz.prog Tryz.prog.depth 242 (2 / Tryz.prog.cellsOf 242) 0 242 1=true:=by kernel_rfl
abbrev Bld (B b:Nat)(l:Str)(W:World):Prop:=Lib.BuilderAt 242 5 B b (.pointer (some ⟨b,0,none⟩)) (Lib.byteCells l) W
def Fg (w w':World):Prop:=∀(k:Nat) (cs:Array Value) (ty:TypeId),w.heap[k]?=some (.cells cs ty (0,0))→ty≠242→ty≠5→w'.heap[k]?=some (.cells cs ty (0,0))
theorem Fg.refl (w:World):Fg w w:=fun k cs ty h _ _=>h
theorem Fg.trans {a b c:World}(h:Fg a b)(g:Fg b c):Fg a c:=fun k cs ty h1 h2 h3=>g k cs ty (h k cs ty h1 h2 h3) h2 h3
theorem Fg.set {w:World}{b i:Nat}{u:Value}{cs0:Array Value}(hb:w.heap[b]?=some (.cells cs0 242 (0,0))):Fg w (w.setCell ⟨b,i,none⟩ u):=fun k cs ty h1 h2 _=>by
 rw[heap_setCell_other _ _ _ _ (by rintro rfl;rw[hb]at h1;have:=Option.some.inj h1;injection this with _ e _;exact h2 e.symm)];exact h1
theorem Fg.grown {w w':World}{B n:Nat}{v:Value}{xs:List Value}(o:w.ownsRow B 5 1 v n xs)(gr:w.grownBy w' v.ownBlock):Fg w w':=fun k cs ty h1 _ h3 =>
 (gr.block k (lt_of_block h1) (Ne.symm (Qx o h1 (Ne.symm h3)))).trans h1
theorem Znj (b:Nat)(w:World)(h0:w.cell? ⟨b,0,none⟩=some (.pointer (some ⟨b,0,none⟩))) :
  Calls Tryz.prog 247 #[.pointer (some ⟨b,0,none⟩)] w fun e w'=>e=.returned (.tuple #[])∧w'=w:=by
 obtain⟨j,hj,_⟩:=Option.map_eq_some_iff.1 Xck
 go_enter Tryz.func247,Tryz.ntmps247
 go_wp2
 rw[Lib.run_neq_ptr_same w _ Tryz.underlying240 hj]
 go_wp2
 go_end0
 exact⟨rfl,rfl⟩
theorem Zfv (b:Nat)(w:World)(h0:w.cell? ⟨b,0,none⟩=some (.pointer none))(hsh:w.shape? b=some (242,2))(hfz:w.frozen? ⟨b,0,none⟩=false) :
  Calls Tryz.prog 247 #[.pointer (some ⟨b,0,none⟩)] w fun e w'=>e=.returned (.tuple #[])∧w'=w.setCell ⟨b,0,none⟩ (.pointer (some ⟨b,0,none⟩)):=by
 obtain⟨j,hj,hjs⟩:=Option.map_eq_some_iff.1 Xck
 go_enter Tryz.func247,Tryz.ntmps247
 go_wp2
 rw[Lib.run_to_unsafe w ⟨b,0,none⟩ Tryz.underlying240 Tryz.underlying294 hj (by rw[hjs];decide) hsh (Nat.zero_lt_succ 1)];simp only[Result.andThen];rw[Oper.upon_value]
 go_wp2
 rw[run_callFunc_extern Tryz.func269 (by kernel_rfl) (by kernel_rfl) (by kernel_rfl) (e:=Extern.AbiNoEscape.same) (by kernel_rfl)];rw[Lib.run_noEscape];simp only[Result.andThen];rw[Oper.upon_value]
 go_wp2
 rw[Lib.run_from_unsafe w ⟨b,0,none⟩ Tryz.underlying294 Tryz.underlying240 hj hsh liesBld];simp only[Result.andThen];rw[Oper.upon_value]
 go_wp2
 go_end0
 exact⟨rfl,rfl⟩
theorem Qbg (B b:Nat)(bs:List Value)(w:World)(h:Lib.IsBuilder 242 5 B b bs w) :
  Calls Tryz.prog 247 #[.pointer (some ⟨b,0,none⟩)] w fun e w'=>e=.returned (.tuple #[])∧(Lib.BuilderAt 242 5 B b (.pointer (some ⟨b,0,none⟩)) bs w'∧Below B w w'∧Fg w w'):=by
 rcases h with h|h
 ·refine(Zfv b w h.cell0 h.shape h.frozen0).mono ?_
  rintro e w' ⟨rfl,rfl⟩
  exact⟨rfl,h.used _,(Below.refl B w).setCell (p:=⟨b,0,none⟩) h.1 _,by obtain⟨_,v,hb,_⟩:=h;exact Fg.set hb⟩
 ·refine(Znj b w h.cell0).mono ?_
  rintro e w' ⟨rfl,rfl⟩
  exact⟨rfl,h,Below.refl B _,Fg.refl _⟩
theorem Cv (l:Str):Lib.byteCells l=Xd Lp l:=by
 rw[Zfj];rfl
theorem Xcv {W:World}{B:Nat}{v:Value}{l:Str}(h:W.ownsRow B 5 1 v (Lib.byteCells l).length (Lib.byteCells l)):Qg Lp 5 W B v l:=by
 unfold Qg;refine Xh h ?_ (Cv l).symm;rw[Cv,Js,Nat.mul_one]
theorem Xcw {W:World}{B b:Nat}{p v v':Value}{l:Str}(hB:B≤b)(hb:W.heap[b]?=some (.cells #[p,v] 242 (0,0)))(o:Qg Lp 5 W B v' l) :
  Lib.BuilderAt 242 5 B b p (Lib.byteCells l) (W.setCell ⟨b,1,none⟩ v'):=by
 refine Lib.BuilderAt.put hB hb (v':=v') ?_ (by decide);refine Xh o ?_ (Cv l);rw[Cv,Js,Nat.mul_one]
theorem Ts (B b:Nat)(l:Str)(c:UInt8)(w:World)(h:Lib.IsBuilder 242 5 B b (Lib.byteCells l) w)(hlen:l.length+1≤140737488355328)(hBw:B≤w.heap.size) :
  Calls Tryz.prog 196 #[.pointer (some ⟨b,0,none⟩),.int .u8 (c.toNat:Int)] w fun e w'=>e=.returned .nilIface∧Bld B b (l++[c]) w'∧Below B w w'∧Fg w w':=by
 have CC:=hid (Qbg B b _ w h);have HLEN:=hid hlen;have HBW:=hid hBw;clear h hlen hBw
 go_enter Tryz.func196,Tryz.ntmps196
 go_upto_region 2 with (go_at_call 247;refine CC.out.mono ?_;rintro e w1 ⟨rfl,h1,hb1,hk1⟩)
 obtain⟨hB,v,hbk,hown,hne⟩:=h1
 have HBK:=hid hbk;have HB1:=hid hb1;have HK1:=hid hk1;have HOWN:=hid (Xcv hown);have HNE:=hid hne;have HBB:=hid hB;have HSZ:=hid (show B≤w1.heap.size from Nat.le_trans HBW.out hb1.size);clear hbk hb1 hk1 hown hne hB CC
 obtain⟨ao,cp,rfl,_⟩:=HOWN.out.slice
 obtain⟨c0,c1,f0,f1,lt⟩:=Qq HBK.out
 have KB:=hid (fun(W:World) (gr:w1.grownBy W (Value.slice ao l.length cp).ownBlock)=>(gr.block _ (lt_of_block HBK.out) (fun e=>HNE.out e.symm)).trans HBK.out)
 go_wp2_with (at_builtin;refine Jl (E:=Lp) rfl (.tmp 11) (.tmp 13) rfl Tryz.underlying237 Qbv rfl (by decide) B _ l c rfl HOWN.out rfl (by have:=HLEN.out;unfold maxLen;omega) (by have:=HLEN.out;omega) HSZ.out #[.int .u8 (c.toNat:Int)] rfl ?_;intro v' w2 own' gr mv;obtain⟨d0,d1,g0,g1,lt2⟩:=Qq (KB.out w2 gr);have OWN2:=hid own';have GR:=hid gr;obtain⟨ao',cp',rfl,_⟩:=own'.slice;clear own' gr mv)
 go_ret
 have OWN3:=OWN2.out;rw[List.length_append,List.length_singleton]at OWN3
 refine⟨rfl,Xcw HBB.out (KB.out w2 GR.out) OWN3,(HB1.out.grown GR.out HSZ.out (fun k hk=>(World.ownsRow.lt HOWN.out k hk).1)).setCell (p:=⟨b,1,none⟩) HBB.out _,(HK1.out.trans (Fg.grown HOWN.out GR.out)).trans (Fg.set (KB.out w2 GR.out))⟩
theorem Znk (B b:Nat)(l s:Str)(w:World)(h:Lib.IsBuilder 242 5 B b (Lib.byteCells l) w)(hlen:l.length+s.length≤140737488355328)(hBw:B≤w.heap.size) :
  Calls Tryz.prog 195 #[.pointer (some ⟨b,0,none⟩),.string ⟨s.toArray⟩] w fun e w'=>e=.returned (.tuple #[.int .i64 s.length,.nilIface])∧Bld B b (l++s) w'∧Below B w w'∧Fg w w':=by
 obtain⟨i0,hi,hz0,hz1,hz2⟩:=info_parts Qbv
 have CC:=hid (Qbg B b _ w h);have HLEN:=hid hlen;have HBW:=hid hBw;have hsz:(⟨s.toArray⟩:ByteArray).size=s.length:=Lib.size_eq _;have HSS:=hid hsz;clear h hlen hBw
 go_enter Tryz.func195,Tryz.ntmps195
 go_upto_region 2 with (go_at_call 247;refine CC.out.mono ?_;rintro e w1 ⟨rfl,h1,hb1,hk1⟩)
 obtain⟨hB,v,hbk,hown,hne⟩:=h1
 have HBK:=hid hbk;have HB1:=hid hb1;have HK1:=hid hk1;have HOWN:=hid (Xcv hown);have HNE:=hid hne;have HBB:=hid hB;have HSZ:=hid (show B≤w1.heap.size from Nat.le_trans HBW.out hb1.size);clear hbk hb1 hk1 hown hne hB CC
 obtain⟨ao,cp,rfl,_⟩:=HOWN.out.slice
 obtain⟨c0,c1,f0,f1,lt⟩:=Qq HBK.out
 have KB:=hid (fun(W:World) (gr:w1.grownBy W (Value.slice ao l.length cp).ownBlock)=>(gr.block _ (lt_of_block HBK.out) (fun e=>HNE.out e.symm)).trans HBK.out);have HFL:=hid (show Xd Lp l++Lib.strCells ⟨s.toArray⟩=Xd Lp (l++s)by rw[Fh,←Cv s];rfl)
 go_wp2_with (at_builtin;refine Lib.wpList_append_own_string _ rfl (.tmp 12) (.tmp 13) 237 9 rfl B 5 i0 Tryz.underlying237 Tryz.underlying9 hi hz0 hz1 hz2 _ _ _ rfl HOWN.out ⟨s.toArray⟩ rfl (by rw[HSS.out];have:=HLEN.out;unfold maxLen;omega) (by rw[HSS.out];have:=HLEN.out;omega) HSZ.out ?_;intro v' w2 own' gr mv;obtain⟨d0,d1,g0,g1,lt2⟩:=Qq (KB.out w2 gr);have OWN2:=hid (show Qg Lp 5 w2 B v' (l++s)from Xh own' (by rw[HSS.out,List.length_append]) HFL.out.symm);have GR:=hid gr;obtain⟨ao',cp',rfl,_⟩:=OWN2.out.slice;clear own' gr mv)
 go_ret2
 have OWN3:=OWN2.out;rw[List.length_append]at OWN3
 refine⟨rfl,Xcw HBB.out (KB.out w2 GR.out) OWN3,(HB1.out.grown GR.out HSZ.out (fun k hk=>(World.ownsRow.lt HOWN.out k hk).1)).setCell (p:=⟨b,1,none⟩) HBB.out _,(HK1.out.trans (Fg.grown HOWN.out GR.out)).trans (Fg.set (KB.out w2 GR.out))⟩
end
end Go.Proofs.YtbbmdbolkicpcabGreatDoor
