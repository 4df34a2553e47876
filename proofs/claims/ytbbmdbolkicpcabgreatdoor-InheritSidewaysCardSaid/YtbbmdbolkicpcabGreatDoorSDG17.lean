/- AlSort, AlRing, AlReach, AlReachW, AsRd, AsName -/
import Derived.Test.YtbbmdbolkicpcabGreatDoorSDG15
import Derived.Test.YtbbmdbolkicpcabGreatDoorSDG07
import Derived.Test.YtbbmdbolkicpcabGreatDoorSDG04
import Derived.Test.YtbbmdbolkicpcabGreatDoorSDG08
import Derived.Test.YtbbmdbolkicpcabGreatDoorSDG06
import Derived.Laws.OwnMore
import Derived.Test.YtbbmdbolkicpcabGreatDoorSDG02
import Derived.BigQuiet
set_option maxRecDepth 100000
set_option maxHeartbeats 32000000
set_option linter.unusedVariables false
set_option linter.unusedSimpArgs false
namespace Go.Proofs.YtbbmdbolkicpcabGreatDoor
section
open Go.RowKit Go.Lib Go.Sort
theorem Zqk (x y:Str×Str)(W:World):Calls Tryz.prog 118 #[.agg #[S x.1,S x.2],.agg #[S y.1,S y.2]] W fun e w'=>e=.returned (.int .i64 (Lib.compareBytes x.1 y.1))∧∃q os',w'=grow (W.drewN q) os':=by
 have hcon:=fun W'=>Tryz.strings_Compare ⟨x.1.toArray⟩ ⟨y.1.toArray⟩ W'
 change ∀W',Calls _ _ _ _ fun e w'=>e=.returned (.int .i64 (Lib.compareBytes x.1 y.1))∧_ at hcon
 generalize Lib.compareBytes x.1 y.1=r at hcon ⊢;unfold S
 go_enter Tryz.func118,Tryz.ntmps118
 go_wp2_with (go_at_call 105;refine(hcon _).mono ?_;rintro e w' ⟨rfl,rfl⟩)
 go_ret
 exact⟨rfl,0,_,by rw[alloc_eq_grow,alloc_eq_grow,grow_grow];rfl⟩
theorem cmpLaysAN (blk off size:Nat)(w:World):CmpLays Tryz.prog 118 #[] Kt 2 Lf blk off size w :=
 fun _ _ _ _ x y=>Zqk x y _
theorem Xzh (w:World)(B:Nat)(v:Value)(l:List (Str×Str))(h:Qd w B v l)(hl:l.length≤1000000) :
  Calls Tryz.prog 103 #[v,.func (.func 118) #[] #[]] w fun e w'=>e=.returned (.tuple #[])∧
   (∃l':List (Str×Str),l'.Perm l∧l'.Pairwise (fun a b=>¬b.1<a.1)∧Qd w' B v l')∧w.grownBy w' v.ownBlock:=by
 have eg:∀args w,(callFunc 118 args).run Tryz.prog w=.ok (.enter 118 args) w:=enters_of Tryz.func118 (by kernel_rfl) rfl
 rcases h.shape with ⟨rfl,rfl⟩|⟨g,cap,cur,rfl,hB,hg,hn,hm,hs,ht⟩
 ·have hc:=AnyF.slices_SortFunc_none Tryz.sfPair none 0 (.func (.func 118) #[] #[]) w;change Calls Tryz.prog 103 _ _ _ at hc;refine hc.mono ?_;rintro e w' ⟨rfl,rfl⟩
  exact⟨rfl,⟨[],List.Perm.refl _,List.Pairwise.nil,h⟩,World.grownBy.refl _ _⟩
 ·have hc:=AnyQ.slices_SortFunc Tryz.sfPair 2 Tryz.isAgg37 Tryz.sizeOf37 Kt (fun _=>rfl) (fun x v hv=>by simp[Kt]at hv;rcases hv with rfl|rfl <;> rfl) Lf swo 118 #[] g 0 cap l.toArray w eg (cmpLaysAN g 0 _ w) (Tp hg ht) (lt_of_block hg) (by simp;omega);change Calls Tryz.prog 103 _ _ _ at hc;refine hc.mono fun e w' hh=>⟨hh.1,?_⟩
  obtain⟨d',n,os,hp,hsd,rfl⟩:=hh.2
  have hsz:d'.size=l.length:=by simpa using hp.1
  have hperm:d'.toList.Perm l:=by
   have:=hp.2.2
   simp only[List.size_toArray]at this;rw[←hsz]at this;have ht':List.take l.length d'.toList=d'.toList:=List.take_of_length_le (by simp[hsz])
   simpa[hsz,ht']using this
  refine⟨⟨d'.toList,hperm,?_,?_⟩,?_⟩
  ·rw[List.pairwise_iff_getElem];intro i j hi hj hij
   have:=hsd i j (Nat.zero_le _) hij (by simp at hj ⊢;omega)
   rw[getElem!_pos _ i (by simpa using hi),getElem!_pos _ j (by simpa using hj)]at this;intro hlt;have h2:ltOf Lf d'[j] d'[i]=true:=by
    show decide (Lib.compareBytes _ _<0)=true;exact decide_eq_true ((Zzk _ _).2 (by simpa using hlt))
   rw[this]at h2;cases h2
  ·have hlen:d'.toList.length=l.length:=hperm.length_eq
   refine⟨Kn _,Or.inr ⟨g,cap,putCells id 0 (flatK Kt 2 d') cur,by rw[hlen],hB,?_,by omega,hm,by simpa[putCells]using hs,?_⟩⟩
   ·unfold sortWorldK putRowK;rw[heap_grow_old _ _ (by simpa using lt_of_block hg)]
    simp[putRow,mapBlock,Sort.ahead,Array.getElem?_modify,hg,onCells]
   ·have:=Fw cur d'.toList (by rw[hlen,hs];omega)
    simpa using this
  ·refine⟨rfl,rfl,rfl,by simp[sortWorldK,putRowK],fun k hk hne=>?_⟩
   unfold sortWorldK putRowK;rw[heap_grow_old _ _ (by simpa using hk)]
   have:g≠k:=fun e=>hne (by rw[e];rfl)
   simp[putRow,mapBlock,Sort.ahead,Array.getElem?_modify,this]
theorem Zqv (x y:Str×Str)(W:World):Calls Tryz.prog 112 #[.agg #[S x.1,S x.2],.agg #[S y.1,S y.2]] W fun e w'=>e=.returned (.int .i64 (Lib.compareBytes x.1 y.1))∧∃q os',w'=grow (W.drewN q) os':=by
 have hcon:=fun W'=>Tryz.strings_Compare ⟨x.1.toArray⟩ ⟨y.1.toArray⟩ W'
 change ∀W',Calls _ _ _ _ fun e w'=>e=.returned (.int .i64 (Lib.compareBytes x.1 y.1))∧_ at hcon
 generalize Lib.compareBytes x.1 y.1=r at hcon ⊢;unfold S
 go_enter Tryz.func112,Tryz.ntmps112
 go_wp2_with (go_at_call 105;refine(hcon _).mono ?_;rintro e w' ⟨rfl,rfl⟩)
 go_ret
 exact⟨rfl,0,_,by rw[alloc_eq_grow,alloc_eq_grow,grow_grow];rfl⟩
theorem cmpLaysAT (blk off size:Nat)(w:World):CmpLays Tryz.prog 112 #[] Kt 2 Lf blk off size w :=
 fun _ _ _ _ x y=>Zqv x y _
theorem Xzg (w:World)(B:Nat)(v:Value)(l:List (Str×Str))(h:Qd w B v l)(hl:l.length≤1000000) :
  Calls Tryz.prog 103 #[v,.func (.func 112) #[] #[]] w fun e w'=>e=.returned (.tuple #[])∧
   (∃l':List (Str×Str),l'.Perm l∧l'.Pairwise (fun a b=>¬b.1<a.1)∧Qd w' B v l')∧w.grownBy w' v.ownBlock:=by
 have eg:∀args w,(callFunc 112 args).run Tryz.prog w=.ok (.enter 112 args) w:=enters_of Tryz.func112 (by kernel_rfl) rfl
 rcases h.shape with ⟨rfl,rfl⟩|⟨g,cap,cur,rfl,hB,hg,hn,hm,hs,ht⟩
 ·have hc:=AnyF.slices_SortFunc_none Tryz.sfPair none 0 (.func (.func 112) #[] #[]) w;change Calls Tryz.prog 103 _ _ _ at hc;refine hc.mono ?_;rintro e w' ⟨rfl,rfl⟩
  exact⟨rfl,⟨[],List.Perm.refl _,List.Pairwise.nil,h⟩,World.grownBy.refl _ _⟩
 ·have hc:=AnyQ.slices_SortFunc Tryz.sfPair 2 Tryz.isAgg37 Tryz.sizeOf37 Kt (fun _=>rfl) (fun x v hv=>by simp[Kt]at hv;rcases hv with rfl|rfl <;> rfl) Lf swo 112 #[] g 0 cap l.toArray w eg (cmpLaysAT g 0 _ w) (Tp hg ht) (lt_of_block hg) (by simp;omega);change Calls Tryz.prog 103 _ _ _ at hc;refine hc.mono fun e w' hh=>⟨hh.1,?_⟩
  obtain⟨d',n,os,hp,hsd,rfl⟩:=hh.2
  have hsz:d'.size=l.length:=by simpa using hp.1
  have hperm:d'.toList.Perm l:=by
   have:=hp.2.2
   simp only[List.size_toArray]at this;rw[←hsz]at this;have ht':List.take l.length d'.toList=d'.toList:=List.take_of_length_le (by simp[hsz])
   simpa[hsz,ht']using this
  refine⟨⟨d'.toList,hperm,?_,?_⟩,?_⟩
  ·rw[List.pairwise_iff_getElem];intro i j hi hj hij
   have:=hsd i j (Nat.zero_le _) hij (by simp at hj ⊢;omega)
   rw[getElem!_pos _ i (by simpa using hi),getElem!_pos _ j (by simpa using hj)]at this;intro hlt;have h2:ltOf Lf d'[j] d'[i]=true:=by
    show decide (Lib.compareBytes _ _<0)=true;exact decide_eq_true ((Zzk _ _).2 (by simpa using hlt))
   rw[this]at h2;cases h2
  ·have hlen:d'.toList.length=l.length:=hperm.length_eq
   refine⟨Kn _,Or.inr ⟨g,cap,putCells id 0 (flatK Kt 2 d') cur,by rw[hlen],hB,?_,by omega,hm,by simpa[putCells]using hs,?_⟩⟩
   ·unfold sortWorldK putRowK;rw[heap_grow_old _ _ (by simpa using lt_of_block hg)]
    simp[putRow,mapBlock,Sort.ahead,Array.getElem?_modify,hg,onCells]
   ·have:=Fw cur d'.toList (by rw[hlen,hs];omega)
    simpa using this
  ·refine⟨rfl,rfl,rfl,by simp[sortWorldK,putRowK],fun k hk hne=>?_⟩
   unfold sortWorldK putRowK;rw[heap_grow_old _ _ (by simpa using hk)]
   have:g≠k:=fun e=>hne (by rw[e];rfl)
   simp[putRow,mapBlock,Sort.ahead,Array.getElem?_modify,this]
end
section
open Go.Lib
inductive Rch (E:Nat→Nat→Bool)(a:Nat):Nat→Prop
 |one {b:Nat}:E a b=true→Rch E a b
 |step {b c:Nat}:Rch E a b→E b c=true→Rch E a c
theorem Xfh {E:Nat→Nat→Bool}{a:Nat}(P:Nat→Prop)(h0:∀k,E a k=true→P k)(h1:∀b,P b→∀k,E b k=true→P k)(h2:E a a=false)(h3:∀b,P b→E b a=false):¬Rch E a a:=by
 have all:∀b,Rch E a b→P b:=fun b h=>by
  induction h with
  |one h=>exact h0 _ h
  |step _ h ih=>exact h1 _ ih _ h
 intro h
 cases h with
 |one h=>rw[h2]at h;cases h
 |step hb h=>rw[h3 _ (all _ hb)]at h;cases h
def Zcy (D:List Al)(i k:Nat):Bool:=match D[i]?,D[k]? with
 |some p,some q=>Wp q p
 |_,_=>false
theorem Zch {D:List Al}{i k:Nat}(hi:i<D.length)(hk:k<D.length):Zcy D i k=Wp (D[k]'hk) (D[i]'hi):=by
 unfold Zcy;rw[List.getElem?_eq_getElem hi,List.getElem?_eq_getElem hk]
theorem edg_lt {D:List Al}{i k:Nat}(h:Zcy D i k=true):i<D.length∧k<D.length:=by
 unfold Zcy at h
 split at h
 ·next p q h1 h2=>exact⟨(List.getElem?_eq_some_iff.1 h1).1,(List.getElem?_eq_some_iff.1 h2).1⟩
 ·cases h
theorem nodup_at {D:List Al}(hn:(D.map (·.1)).Nodup){i k:Nat}(hi:i<D.length)(hk:k<D.length)(h:D[i]'hi=D[k]'hk):i=k:=by
 have hp:=List.pairwise_iff_getElem.1 hn
 rcases Nat.lt_trichotomy i k with hlt|rfl|hlt
 ·have:=hp i k (by simpa using hi) (by simpa using hk) hlt
  rw[List.getElem_map,List.getElem_map,h]at this;exact absurd rfl this
 ·rfl
 ·have:=hp k i (by simpa using hk) (by simpa using hi) hlt
  rw[List.getElem_map,List.getElem_map,h]at this;exact absurd rfl this
theorem Zyh {D:List Al}(hn:(D.map (·.1)).Nodup){i:Nat}(hi:i<D.length):∀(n:Nat)(b:Al),Qjw D n (D[i]'hi) b→∃k,∃hk:k<D.length,b=D[k]'hk∧Rch (Zcy D) i k
 |0,b,h=>by
  obtain⟨_,h2,h3⟩:=h
  obtain⟨k,hk,rfl⟩:=List.getElem_of_mem h2
  exact⟨k,hk,rfl,.one (by rw[Zch hi hk];exact h3)⟩
 |n+1,b,h=>by
  obtain⟨c,h1,h2,h3⟩:=h
  obtain⟨j,hj,rfl,hr⟩:=Zyh hn hi n c h1
  obtain⟨k,hk,rfl⟩:=List.getElem_of_mem h2
  exact⟨k,hk,rfl,.step hr (by rw[Zch hj hk];exact h3)⟩
theorem rch_reach {D:List Al}{i:Nat}(hi:i<D.length){k:Nat}(h:Rch (Zcy D) i k):∃hk:k<D.length,∃n,Qjw D n (D[i]'hi) (D[k]'hk):=by
 induction h with
 |one h =>
  obtain⟨_,hk⟩:=edg_lt h
  exact⟨hk,0,List.getElem_mem hi,List.getElem_mem hk,by rw[Zch hi hk]at h;exact h⟩
 |step _ h ih =>
  obtain⟨hj,n,hr⟩:=ih
  obtain⟨_,hk⟩:=edg_lt h
  exact⟨hk,n+1,_,hr,List.getElem_mem hk,by rw[Zch hj hk]at h;exact h⟩
theorem ring_iff {D:List Al}(hn:(D.map (·.1)).Nodup){i:Nat}(hi:i<D.length):Qmy D (D[i]'hi)↔Rch (Zcy D) i i:=by
 constructor
 ·rintro⟨n,h⟩
  obtain⟨k,hk,e,hr⟩:=Zyh hn hi n _ h
  obtain rfl:=nodup_at hn hi hk e;exact hr
 ·intro h
  obtain⟨_,n,hr⟩:=rch_reach hi h
  exact⟨n,hr⟩
end
section
open Go.RowKit Go.Lib
def Bq:Enc Bool 1:=⟨fun b=>[.bool b],fun _=>rfl,fun x u hu=>by simp at hu;subst hu;rfl⟩
def Xxq:Enc Nat 1:=⟨fun n=>[.int .i64 n],fun _=>rfl,fun x u hu=>by simp at hu;subst hu;rfl⟩
def Xxz:Enc (List Bool×(Option Addr×Nat)) 1:=⟨fun z=>[.slice z.2.1 z.1.length z.2.2],fun _=>rfl,fun x u hu=>by simp at hu;subst hu;rfl⟩
theorem infoBo':(Tryz.prog.info? 4).map (fun i=>(i.zero,i.size,i.bytes))=some (some (.bool false),1,1):=by kernel_rfl
theorem infoNa:(Tryz.prog.info? 3).map (fun i=>(i.zero,i.size,i.bytes))=some (some (.int .i64 0),1,8):=by kernel_rfl
def Rk (W:World)(v:Value)(rows:List (List Bool)):Prop:=∃zs:List (List Bool×(Option Addr×Nat)),zs.map (·.1)=rows∧RdL Xxz W v zs∧∀z∈zs,RdL Bq W (.slice z.2.1 z.1.length z.2.2) z.1
theorem Rk.below {W W':World}{v:Value}{rows:List (List Bool)}(h:Rk W v rows)(hb:Below W.heap.size W W'):Rk W' v rows:=by
 obtain⟨zs,h1,h2,h3⟩:=h
 exact⟨zs,h1,h2.below hb,fun z hz=>(h3 z hz).below hb⟩
theorem Rk.shape {W:World}{v:Value}{rows:List (List Bool)}(h:Rk W v rows):∃ao cp,v=.slice ao rows.length cp:=by
 obtain⟨zs,rfl,h2,_⟩:=h
 obtain⟨ao,cp,rfl,_⟩:=h2.slice
 exact⟨ao,cp,by rw[List.length_map]⟩
theorem Rk.at' {W:World}{a:Option Addr}{n c:Nat}{rows:List (List Bool)}(h:Rk W (.slice a n c) rows)(i:Nat)(hi:i<rows.length):∃p o ra rc,a=some ⟨p,o,none⟩∧p<W.heap.size∧W.cell? ⟨p,o+i,none⟩=some (.slice ra (rows[i]'hi).length rc)∧RdL Bq W (.slice ra (rows[i]'hi).length rc) (rows[i]'hi):=by
 obtain⟨zs,rfl,h2,h3⟩:=h
 rw[List.length_map]at hi
 obtain⟨ao,cp,e,_,hc⟩:=h2
 cases e
 obtain⟨p,o,rfl,hp,hx⟩:=hc (by intro e;rw[e]at hi;simp at hi)
 have hx0:=hx i 0 (.slice (zs[i]'hi).2.1 (zs[i]'hi).1.length (zs[i]'hi).2.2) hi rfl;simp only[Nat.mul_one,Nat.add_zero]at hx0
 refine⟨p,o,(zs[i]'hi).2.1,(zs[i]'hi).2.2,rfl,hp,by rw[List.getElem_map];exact hx0,by rw[List.getElem_map];exact h3 _ (List.getElem_mem hi)⟩
theorem bo_at {W:World}{a:Option Addr}{n c:Nat}{l:List Bool}(h:RdL Bq W (.slice a n c) l)(k:Nat)(hk:k<l.length):∃q u,a=some ⟨q,u,none⟩∧q<W.heap.size∧W.cell? ⟨q,u+k,none⟩=some (.bool (l[k]'hk)):=by
 obtain⟨ao2,cp2,e2,_,hc2⟩:=h
 cases e2
 obtain⟨q,u,hq,hq2,hy⟩:=hc2 (by intro e;rw[e]at hk;simp at hk)
 have hy0:=hy k 0 (.bool (l[k]'hk)) hk rfl;simp only[Nat.mul_one,Nat.add_zero]at hy0
 exact⟨q,u,hq,hq2,hy0⟩
def unM (m:List Bool):Nat:=(m.filter (fun b=>!b)).length
theorem Xny:∀(m:List Bool)(k:Nat)(hk:k<m.length),m[k]'hk=false→unM (m.set k true)+1=unM m
 |[],k,hk,_=>absurd hk (by simp)
 |b::r,0,_,h=>by
  have:b=false:=h
  subst this
  simp[unM]
 |b::r,k+1,hk,h=>by
  have ih:=Xny r k (by simpa using hk) (by simpa using h);unfold unM at ih ⊢;rw[List.set_cons_succ,List.filter_cons,List.filter_cons]
  cases b
  ·simp only[Bool.not_false,if_true,List.length_cons];omega
  ·simpa using ih
theorem Qg.pop {α:Type}{k:Nat}{E:Enc α k}{ty:TypeId}{w:World}{B:Nat}{a:Option Addr}{n c:Nat}{l:List α}(h:Qg E ty w B (.slice a n c) l)(m:Nat)(hm:m≤l.length)(hl:l≠[]):Qg E ty w B (.slice a m c) (l.take m):=by
 rcases h.shape with ⟨_,e⟩|⟨g,cap,cur,e,hB,hg,hn,hmx,hs,ht⟩
 ·exact absurd e hl
 ·cases e;have hlen:(l.take m).length=m:=by rw[List.length_take];omega
  unfold Qg World.ownsRow;have hf:Xd E l=Xd E (l.take m)++Xd E (l.drop m):=by rw[←Fh,List.take_append_drop]
  have hfl:(Xd E (l.take m)).length=m * k:=by rw[Js,hlen]
  refine⟨by rw[hfl,hlen],Or.inr ⟨g,c,cur,by rw[hlen],hB,hg,by rw[hlen];omega,hmx,hs,?_⟩⟩
  rw[hlen];have h1:=congrArg (List.take (m * k)) ht;rw[List.take_take,Nat.min_eq_left (Nat.mul_le_mul_right k hm),hf,List.take_left' hfl]at h1;exact h1
end
section
open Go.RowKit Go.Lib
def Rv (rows:List (List Bool))(i k:Nat):Bool:=(rows.getD i []).getD k false
structure Ml (rows:List (List Bool))(from_:Nat)(met:List Bool)(pile:List Nat)(busy:Option (Nat×Nat)):Prop where
 mlen:met.length=rows.length
 sound:∀k,met.getD k false=true→Rch (Rv rows) from_ k
 pl:∀k∈pile,k<rows.length∧(k=from_∨met.getD k false=true)
 closed:∀b,(b=from_∨met.getD b false=true)→b ∉ pile→(∀j u,busy=some (j,u)→b≠j)→(∀k,Rv rows b k=true→met.getD k false=true)∧Rv rows b from_=false
 part:∀j u,busy=some (j,u)→(∀k,k<u→Rv rows j k=true→met.getD k false=true∧k≠from_)
section
variable {rows:List (List Bool)}{i j u:Nat}{met:List Bool}{pile:List Nat}
theorem edgR_at (hj:j<rows.length)(k:Nat):Rv rows j k=(rows[j]'hj).getD k false:=by
 have e:rows.getD j []=rows[j]'hj:=by rw[List.getD_eq_getElem?_getD,List.getElem?_eq_getElem hj];rfl
 unfold Rv;rw[e]
theorem getD_set (m:List Bool)(u k:Nat)(hu:u<m.length):(m.set u true).getD k false=(if k=u then true else m.getD k false):=by
 rw[List.getD_eq_getElem?_getD,List.getElem?_set]
 by_cases h:u=k
 ·subst h;simp[hu]
 ·rw[if_neg h,if_neg (fun e=>h e.symm),List.getD_eq_getElem?_getD]
theorem Ml.start (hi:i<rows.length):Ml rows i (List.replicate rows.length false) [i] none:=by
 have h0:∀k,(List.replicate rows.length false).getD k false=false:=fun k=>by
  rw[List.getD_eq_getElem?_getD,List.getElem?_replicate];split <;> rfl
 refine⟨by simp,fun k h=>(by rw[h0]at h;cases h),fun k hk=>?_,fun b hb hn _=>?_,fun j u h=>(by cases h)⟩
 ·rw[List.mem_singleton.1 hk];exact⟨hi,Or.inl rfl⟩
 ·rcases hb with rfl|hb
  ·simp at hn
  ·rw[h0]at hb;cases hb
theorem Ml.reach (h:Ml rows i met pile none)(hj:j∈pile){k:Nat}(he:Rv rows j k=true):Rch (Rv rows) i k:=by
 rcases(h.pl j hj).2 with rfl|hm
 ·exact .one he
 ·exact .step (h.sound _ hm) he
theorem Ml.pop (h:Ml rows i met pile none){m:Nat}(hm:pile.length=m+1)(hj:pile[m]'(by omega)=j):Ml rows i met (pile.take m) (some (j,0)):=by
 have hp:pile=pile.take m++[j]:=by
  rw[←hj,←List.take_succ_eq_append_getElem,←hm,List.take_length]
 refine⟨h.mlen,h.sound,fun k hk=>h.pl k (List.mem_of_mem_take hk),fun b hb hn hbz=>?_,fun j' u' e k hk=>?_⟩
 ·refine h.closed b hb (fun hmem=>?_) (fun _ _ e=>by cases e);rw[hp]at hmem
  rcases List.mem_append.1 hmem with h1|h1
  ·exact hn h1
  ·exact hbz j 0 rfl (List.mem_singleton.1 h1)
 ·cases e;omega
theorem Ml.skip (h:Ml rows i met pile (some (j,u)))(hs:Rv rows j u=true→met.getD u false=true∧u≠i):Ml rows i met pile (some (j,u+1)):=by
 refine⟨h.mlen,h.sound,h.pl,fun b hb hn hbz=>h.closed b hb hn (fun j' u' e=>by cases e;exact hbz j (u+1) rfl),fun j' u' e k hk he=>?_⟩
 cases e
 rcases Nat.lt_or_ge k u with hlt|hge
 ·exact h.part j u rfl k hlt he
 ·obtain rfl:k=u:=by omega
  exact hs he
theorem Ml.push (h:Ml rows i met pile (some (j,u)))(hu:u<rows.length)(hr:Rch (Rv rows) i u)(hne:u≠i):Ml rows i (met.set u true) (pile++[u]) (some (j,u+1)):=by
 have hg:=fun k=>getD_set met u k (by rw[h.mlen];exact hu)
 have mono:∀k,met.getD k false=true→(met.set u true).getD k false=true:=fun k hk=>by
  rw[hg]
  split
  ·rfl
  ·exact hk
 refine⟨by rw[List.length_set];exact h.mlen,fun k hk=>?_,fun k hk=>?_,fun b hb hn hbz=>?_,fun j' u' e k hk he=>?_⟩
 ·rw[hg]at hk
  split at hk
  ·next e=>rw[e];exact hr
  ·exact h.sound k hk
 ·rcases List.mem_append.1 hk with h1|h1
  ·exact⟨(h.pl k h1).1,(h.pl k h1).2.imp id (mono k)⟩
  ·rw[List.mem_singleton.1 h1];exact⟨hu,Or.inr (by rw[hg,if_pos rfl])⟩
 ·have hbu:b≠u:=fun e=>hn (by rw[e];simp)
  have hb2:b=i∨met.getD b false=true:=hb.imp id (fun h1=>by rwa [hg,if_neg hbu]at h1)
  obtain⟨c1,c2⟩:=h.closed b hb2 (fun h1=>hn (List.mem_append_left _ h1)) (fun j' u' e=>by cases e;exact hbz j (u+1) rfl)
  exact⟨fun k hk=>mono k (c1 k hk),c2⟩
 ·cases e
  rcases Nat.lt_or_ge k u with hlt|hge
  ·obtain⟨p1,p2⟩:=h.part j u rfl k hlt he
   exact⟨mono k p1,p2⟩
  ·obtain rfl:k=u:=by omega
   exact⟨by rw[hg,if_pos rfl],hne⟩
theorem Ml.done (h:Ml rows i met pile (some (j,u)))(hu:∀k,Rv rows j k=true→k<u):Ml rows i met pile none:=by
 refine⟨h.mlen,h.sound,h.pl,fun b hb hn _=>?_,fun j' u' e=>by cases e⟩
 by_cases hbj:b=j
 ·subst hbj
  refine⟨fun k he=>(h.part b u rfl k (hu k he) he).1,?_⟩
  cases he:Rv rows b i with
  |false=>rfl
  |true=>exact absurd rfl (h.part b u rfl i (hu i he) he).2
 ·exact h.closed b hb hn (fun j' u' e=>by cases e;exact hbj)
theorem Ml.stop (h:Ml rows i met [] none):¬Rch (Rv rows) i i:=by
 have hc:=fun b hb=>h.closed b hb (by simp) (fun _ _ e=>by cases e)
 exact Xfh (fun k=>met.getD k false=true) (hc i (Or.inl rfl)).1 (fun b hb=>(hc b (Or.inr hb)).1) (hc i (Or.inl rfl)).2 (fun b hb=>(hc b (Or.inr hb)).2)
theorem Qg.one {α:Type}{k:Nat}(E:Enc α k)(ty:TypeId)(w:World)(B:Nat)(y:α)(cs:Array Value)(hB:B≤w.heap.size)(hcs:cs.toList=E.enc y):Qg E ty (w.alloc (.cells cs ty)) B (.slice (some ⟨w.heap.size,0,none⟩) 1 1) [y]:=by
 have hl:cs.size=1 * k:=by rw[←Array.length_toList,hcs,E.len,Nat.one_mul]
 have hf:Xd E [y]=E.enc y:=by simp[Xd]
 refine⟨by rw[Js],Or.inr ⟨w.heap.size,1,cs,rfl,hB,heap_alloc_new w _,Nat.le_refl _,by unfold maxLen;omega,hl,?_⟩⟩
 show List.take (1 * k) cs.toList=Xd E [y];rw[hf,hcs,List.take_of_length_le (by rw[E.len];omega)]
end
theorem Zcg (w:World)(v:Value)(rows:List (List Bool))(i:Nat)(h:Rk w v rows)(hq:∀r∈rows,r.length=rows.length)(hi:i<rows.length)(hn:rows.length≤1000) :
  Calls Tryz.prog 116 #[v,.int .i64 i] w fun e w'=>(∃b:Bool,e=.returned (.bool b)∧(b=true↔Rch (Rv rows) i i))∧Below w.heap.size w w':=by
 obtain⟨av,cv,rfl⟩:=h.shape
 have HR:=hid h;have HQ:=hid hq;have HI:=hid hi;have HN:=hid hn
 obtain⟨i0,hi0,hz0,hz1,hz2⟩:=info_parts infoBo'
 obtain⟨w1,hmk,hown,hgr⟩:=run_makeSlice_full (P:=Tryz.prog) (w:=w) w.heap.size 187 4 i0 (.bool false) 1 Tryz.underlying187 hi0 hz0 hz1 .i64 .i64 rows.length (by omega) (by rw[hz2];omega) (by unfold maxLen;omega) (Nat.le_refl _)
 clear h hq hi hn
 go_enter Tryz.func116,Tryz.ntmps116
 go_upto_region 3 with fail;have MET0:=hid (show Qg Bq 4 w1 w.heap.size (.slice (some ⟨w.heap.size,0,none⟩) rows.length rows.length) (List.replicate rows.length false)from by
  have e:(madeCells (Value.bool false).cells (rows.length * 1)).toList=Xd Bq (List.replicate rows.length false):=by
   unfold madeCells Xd;rw[Nat.mul_one]
   simp[Value.cells,Bq,List.flatMap_replicate]
   rw[show(fun x:Nat=>[Value.bool false][x % 1]?.getD default)=fun _=>Value.bool false from by funext x;rw[Nat.mod_one];rfl,List.map_const',List.length_range]
  rw[e]at hown;unfold Qg
  simpa using hown)
 have HSZ1:=hid (show w.heap.size≤w1.heap.size from hgr.size);have BW1:=hid (show Below w.heap.size w w1 from⟨hgr.os,hgr.tape,hgr.output,hgr.size,fun k hk=>hgr.block k hk (by simp)⟩);have P0:=hid (Qg.one Xxq 3 w1 w.heap.size i #[.int .i64 i] HSZ1.out rfl);have hb2:Below w1.heap.size w1 (w1.alloc (.cells #[.int .i64 i] 3)):=bal _ _;have M0:=hid (show Qg Bq 4 (w1.alloc (.cells #[.int .i64 i] 3)) w.heap.size _ _ from MET0.out.below hb2);have BW2:=hid (BW1.out.then hb2);have ST0:=hid (Ml.start HI.out);have HIN:=hid (show(i:Int)<(rows.length:Int)by have:=HI.out;omega);clear hb2 hmk hown hgr MET0 BW1 hi0 hz0 hz1 hz2
 go_loopg[6] (2 * rows.length+2) (fun g v6 W=>∃(met:List Bool) (pile:List Nat),2 * unM met+pile.length≤g∧2 * unM met+pile.length≤2 * rows.length+1∧Qg Xxq 3 W w.heap.size v6 pile∧Qg Bq 4 W w.heap.size (.slice (some ⟨w.heap.size,0,none⟩) rows.length rows.length) met∧Ml rows i met pile none∧Below w.heap.size w W)
 case atStart=>exact⟨_,[i],by
  have:unM (List.replicate rows.length false)≤rows.length:=by unfold unM;exact Nat.le_trans (List.length_filter_le _ _) (by simp)
  simp only[List.length_singleton];omega,by
  have:unM (List.replicate rows.length false)≤rows.length:=by unfold unM;exact Nat.le_trans (List.length_filter_le _ _) (by simp)
  simp only[List.length_singleton];omega,P0.out,M0.out,ST0.out,BW2.out⟩
 case round =>
  obtain⟨met,pile,hg,hpz,hp,hm,st,hb⟩:=hrel
  rename World=>w3
  obtain⟨a6,c6,rfl,hc6⟩:=Qg.slice hp
  obtain⟨go,hgo⟩:∃go,go=gk:=⟨_,rfl⟩
  have HGO:=hid hgo;have HG:=hid (show 2 * unM met+pile.length≤go by rw[hgo];exact hg);have HP:=hid hp;have HM:=hid hm;have ST:=hid st;have HB:=hid hb;clear hg hp hm st hb hgo P0 M0 ST0 BW2
  by_cases hpl:pile=[]
  ·subst hpl;have HNO:=hid ST.out.stop;go_wp2_with fail;refine bodyPost_ret (v:=.bool false) (by simp[results,Tryz.results116,go_sem]) rfl ?_
   exact⟨⟨false,rfl,by simpa using HNO.out⟩,HB.out⟩
  ·obtain⟨m,hml⟩:∃m,pile.length=m+1:=⟨pile.length-1,by have:=List.length_pos_iff.2 hpl;omega⟩
   have hne:pile≠[]:=hpl;clear hpl;have hmlt:m<pile.length:=by omega
   obtain⟨j,hj⟩:∃j,j=pile[m]'hmlt:=⟨_,rfl⟩
   have HJM:=hid (show j∈pile by rw[hj];exact List.getElem_mem hmlt);have HJL:=hid (ST.out.pl j HJM.out).1
   obtain⟨gp,rfl⟩:=Qg.some' HP.out hne
   obtain⟨q0,_,gl⟩:=Qg.cell HP.out m 0 (.int .i64 j) hmlt (by rw[←hj];rfl)
   rw[Nat.mul_one,Nat.add_zero]at q0;have HPOP:=hid (ST.out.pop hml hj.symm);have HPW:=hid (Qg.pop HP.out m (by omega) hne);have HREA:=hid (fun k (he:Rv rows j k=true)=>ST.out.reach HJM.out he);have HG2:=hid (show 2 * unM met+m≤go-1 by have:=HG.out;omega);have HGP:=hid (show 0<go by have:=HG.out;omega)
   obtain⟨pr,po,ra,rc,rfl,hprl,r0w,hrow⟩:=HR.out.at' j HJL.out
   have r0:=(HB.out.cell (p:=⟨pr,po+j,none⟩) hprl).trans r0w;have hprl3:pr<w3.heap.size:=Nat.lt_of_lt_of_le hprl HB.out.size;clear r0w;have HROW:=hid hrow;have HRL:=hid (HQ.out _ (List.getElem_mem HJL.out));have HED:=hid (fun k=>edgR_at HJL.out k);generalize hrj:rows[j]'HJL.out=row at *;clear hrow hrj;have hjn:(j:Int)<(rows.length:Int):=by have:=HJL.out;omega
   have hj0:(0:Int)≤(j:Int):=by omega
   have hmm:((m:Int)+1)-1=(m:Int):=by omega
   have hm0:(0:Int)≤(m:Int):=by omega
   have hmb:(m:Int)≤2100:=by have:=HN.out;omega
   have hmc:(m:Int)≤(c6:Int):=by omega
   have HML:=hid (show pile.length=m+1 from hml);clear hj hne hmlt;rw[hml]at hc6 ⊢;have hm1:(m:Int)<(m:Int)+1:=by omega
   clear hml;go_upto_region 7 with fail;rw[HRL.out]
   go_loopg[6,34] rows.length (fun g v6 v34 W=>∃(met:List Bool) (pile:List Nat) (u:Nat),u≤rows.length∧rows.length≤u+g∧v34=.int .i64 u∧2 * unM met+pile.length≤go-1∧2 * unM met+pile.length≤2 * rows.length+1∧Qg Xxq 3 W w.heap.size v6 pile∧Qg Bq 4 W w.heap.size (.slice (some ⟨w.heap.size,0,none⟩) rows.length rows.length) met∧Ml rows i met pile (some (j,u))∧Below w.heap.size w W)
   case atStart=>exact⟨met,pile.take m,0,Nat.zero_le _,by omega,rfl,by rw[List.length_take];have:=HG2.out;have:=HML.out;omega,by rw[List.length_take];have:=HML.out;omega,HPW.out,HM.out,HPOP.out,HB.out⟩
   case round =>
    obtain⟨met2,pile2,u,hu,hg,rfl,hm2,hz2,hp,hm,st,hb⟩:=hrel
    rename World=>w4
    have HGI:=hid hg;have HM2:=hid hm2;have HZ2:=hid hz2;have HP4:=hid hp;have HM4:=hid hm;have ST4:=hid st;have HB4:=hid hb;clear hg hm2 hz2 hp hm st hb q0 gl r0 hprl3 HPOP HPW HP HM ST HB
    obtain⟨a7,c7,rfl,hc7⟩:=Qg.slice HP4.out
    by_cases hlt:u<rows.length
    ·have hui:(u:Int)<(rows.length:Int):=by omega
     have hu0:(0:Int)≤(u:Int):=by omega
     have hub:(u:Int)≤1000:=by have:=HN.out;omega
     have hlr:u<row.length:=by rw[HRL.out];exact hlt
     obtain⟨q,o,rfl,hql,s0⟩:=bo_at (HROW.out.below HB4.out) u hlr
     have HEU:=hid (show Rv rows j u=row[u]'hlr by rw[HED.out,List.getD_eq_getElem?_getD,List.getElem?_eq_getElem hlr];rfl);generalize row[u]'hlr=on at *
     cases on with
     |false =>
      have STN:=hid (ST4.out.skip (fun e=>by rw[HEU.out]at e;cases e));go_wp2_with fail
      go_roundg (gk-1)
      case measure=>have:=HGI.out;omega
      case rel=>exact⟨met2,pile2,u+1,by omega,by have:=HGI.out;omega,by simp,HM2.out,HZ2.out,HP4.out,HM4.out,STN.out,HB4.out⟩
     |true =>
      by_cases hui2:u=i
      ·have HYES:=hid (show Rch (Rv rows) i i from by have:=HREA.out u HEU.out;rwa [hui2]at this);subst hui2;go_wp2_with fail;refine bodyPost_ret (v:=.bool true) (by simp[results,Tryz.results116,go_sem]) rfl ?_
       exact⟨⟨true,rfl,by simpa using HYES.out⟩,HB4.out⟩
      ·have hy:((u:Int)==(i:Int))=false:=beq_eq_false_iff_ne.2 (by omega);have hum:u<met2.length:=by rw[ST4.out.mlen];exact hlt
       obtain⟨m0,mf,mg⟩:=Qg.cell HM4.out u 0 (.bool (met2[u]'hum)) hum rfl
       rw[Nat.mul_one,Nat.add_zero]at m0 mf;have HMU:=hid (show met2.getD u false=met2[u]'hum by rw[List.getD_eq_getElem?_getD,List.getElem?_eq_getElem hum];rfl)
       cases hmu:met2[u]'hum with
       |true =>
        rw[hmu]at m0 HMU;have STN:=hid (ST4.out.skip (fun _=>⟨HMU.out,hui2⟩));clear hmu;go_wp2_with fail
        go_roundg (gk-1)
        case measure=>have:=HGI.out;omega
        case rel=>exact⟨met2,pile2,u+1,by omega,by have:=HGI.out;omega,by simp,HM2.out,HZ2.out,HP4.out,HM4.out,STN.out,HB4.out⟩
       |false =>
        have HUN:=hid (Xny met2 u hum hmu);rw[hmu]at m0;have STN:=hid (ST4.out.push hlt (HREA.out u HEU.out) hui2);have HM5:=hid (Qg.set (l2:=met2.set u true) HM4.out ST4.out.mlen.symm u 0 hum (by decide) (.bool true) true rfl rfl);rw[Nat.mul_one,Nat.add_zero]at HM5;have HP5:=hid (show Qg Xxq 3 (w4.setCell ⟨w.heap.size,u,none⟩ (.bool true)) w.heap.size _ pile2 from Qb HP4.out (by obtain⟨cur,hcur⟩:=Qg.row HM4.out;exact Qx HP4.out hcur (by decide)) u (.bool true));have HB5:=hid (HB4.out.setCell (p:=⟨w.heap.size,u,none⟩) (Nat.le_refl _) (.bool true));have HSZ5:=hid (show w.heap.size≤(w4.setCell ⟨w.heap.size,u,none⟩ (.bool true)).heap.size from HB5.out.size);clear hmu;go_upto_region 13 with fail;generalize w4.setCell ⟨w.heap.size,u,none⟩ (.bool true)=w5 at *
        go_wp2_with (at_builtin;refine Jl (E:=Xxq) rfl (.tmp 56) (.tmp 58) rfl Tryz.underlying222 infoNa rfl (by decide) w.heap.size _ pile2 u rfl HP5.out rfl (by have:=HZ2.out;have:=HN.out;unfold maxLen;omega) (by have:=HZ2.out;have:=HN.out;omega) HSZ5.out #[.int .i64 u] rfl ?_)
        intro v8 w8 own8 gr8 mv8;have HP8:=hid own8;have HM8:=hid (show Qg Bq 4 w8 w.heap.size _ _ from World.ownsRow.kept HM5.out gr8 (Kd HM5.out HP5.out (by decide)));have HB8:=hid (HB5.out.grown gr8 HSZ5.out (fun k hk=>(World.ownsRow.lt HP5.out k hk).1));clear own8 gr8 mv8;go_wp2_with fail
        go_roundg (gk-1)
        case measure=>have:=HGI.out;omega
        case rel=>exact⟨met2.set u true,pile2++[u],u+1,by omega,by have:=HGI.out;omega,by simp,by have:=HM2.out;have:=HUN.out;rw[List.length_append,List.length_singleton];omega,by have:=HM2.out;have:=HUN.out;rw[List.length_append,List.length_singleton];have:=HZ2.out;omega,HP8.out,HM8.out,STN.out,HB8.out⟩
    ·have hui:¬(u:Int)<(rows.length:Int):=by omega
     have STN:=hid (ST4.out.done (fun k he=>by
      have:u=rows.length:=by omega
      rw[this];rw[HED.out,List.getD_eq_getElem?_getD]at he
      rcases Nat.lt_or_ge k row.length with h|h
      ·rw[←HRL.out];exact h
      ·rw[List.getElem?_eq_none h]at he;cases he))
     go_wp2_with fail
     go_roundg (go-1)
     case measure=>have:=HGP.out;have:=HGO.out;omega
     case rel=>exact⟨met2,pile2,HM2.out,HZ2.out,HP4.out,HM4.out,STN.out,HB4.out⟩
end
section
open Go.RowKit Go.Lib
def asc (b:ByteArray)(p:Nat):Array Value:=#[.string b,.int .i64 p]
def ASc (W:World)(Br:Nat)(b:ByteArray)(p:Nat):Prop:=W.heap[Br]?=some (.cells (asc b p) 180 (0,0))
theorem ASc.cells {W:World}{Br:Nat}{b:ByteArray}{p:Nat}(h:ASc W Br b p) :
  W.cell? ⟨Br,0,none⟩=some (.string b)∧W.cell? ⟨Br,1,none⟩=some (.int .i64 p)∧W.frozen? ⟨Br,1,none⟩=false∧Br<W.heap.size:=by
 unfold ASc at h
 refine⟨?_,?_,frozen_of_row _ _ _ _ _ h,lt_of_block h⟩
 all_goals rw[cell_of_row _ _ _ _ _ _ h];rfl
theorem ASc.setAt {W:World}{Br:Nat}{b:ByteArray}{p:Nat}(h:ASc W Br b p)(q:Nat):ASc (W.setCell ⟨Br,1,none⟩ (.int .i64 q)) Br b q:=by
 unfold ASc at *;rw[heap_setCell_same _ _ _ _ _ _ h];simp[asc]
theorem ASc.drewN {W:World}{Br:Nat}{b:ByteArray}{p:Nat}(h:ASc W Br b p)(q:Nat):ASc (W.drewN q) Br b p:=h
theorem ASc.below {W W':World}{Br:Nat}{b:ByteArray}{p:Nat}(h:ASc W Br b p)(hb:Below W.heap.size W W'):ASc W' Br b p:=bk hb h
theorem Dq (b:ByteArray)(p:Nat)(c:UInt8)(h:p<b.size):Zl (fun d=>d==c) (b.data.toList.drop p)=(b[p]==c):=by
 have hl:p<b.data.toList.length:=by rw[←Lib.size_eq];exact h
 rw[List.drop_eq_getElem_cons hl];rfl
theorem Qkw (b:ByteArray)(p:Nat)(c:UInt8)(h:¬p<b.size):Zl (fun d=>d==c) (b.data.toList.drop p)=false:=by
 rw[List.drop_eq_nil_of_le (by rw[←Lib.size_eq];omega)];rfl
theorem Bl (Br:Nat)(b:ByteArray)(p:Nat)(c:UInt8)(w:World)(h:ASc w Br b p)(hp:p≤b.size)(hb:b.size≤4294967296) :
  Calls Tryz.prog 106 #[.pointer (some ⟨Br,0,none⟩),.int .u8 (c.toNat:Int)] w fun x w'=>x=.returned (.bool (Zl (fun d=>d==c) (b.data.toList.drop p)))∧ASc w' Br b p∧Qf Br w w':=by
 have H:=hid h
 by_cases hlt:p<b.size
 ·have hpi:(p:Int)<(b.size:Int):=by omega
  have hp0:(0:Int)≤(p:Int):=by omega
  have HX:=hid (Dq b p c hlt);have hx:((b[p].toNat:Int)==(c.toNat:Int))=(b[p]==c):=Fv _ _
  obtain⟨c0,c1,f1,lt⟩:=h.cells
  clear h;generalize hbc:(b[p]==c)=bc at *
  go_enter Tryz.func106,Tryz.ntmps106
  go_wp2_with fail
  go_quiet (fail)
  go_wp2_with fail;exact bodyPost_ret (v:=.bool bc) (by simp[results,Tryz.results106,go_sem]) rfl ⟨by rw[HX.out],H.out.drewN _,(Qf.refl w Br).drewN _⟩
 ·have hd:decide (p<b.size)=false:=decide_eq_false hlt;have hpi:¬(p:Int)<(b.size:Int):=by omega
  have HX:=hid (Qkw b p c hlt)
  obtain⟨c0,c1,f1,lt⟩:=h.cells
  clear h
  go_enter Tryz.func106,Tryz.ntmps106
  go_wp2_with fail
  go_quiet (fail)
  go_wp2_with fail;exact bodyPost_ret (v:=.bool false) (by simp[results,Tryz.results106,go_sem]) rfl ⟨by rw[HX.out],H.out.drewN _,(Qf.refl w Br).drewN _⟩
theorem take_more {s m:Str}{k:Nat}(h1:k<s.length)(h2:k<m.length)(h:s.take k=m.take k)(he:s[k]'h1=m[k]'h2):s.take (k+1)=m.take (k+1):=by
 rw[List.take_succ_eq_append_getElem h1,List.take_succ_eq_append_getElem h2,h,he]
theorem not_pre {s m:Str}{k:Nat}(h1:k<s.length)(h2:k<m.length)(he:¬s[k]'h1=m[k]'h2):¬m <+: s:=by
 rintro⟨r,rfl⟩
 rw[List.getElem_append_left h2]at he;exact he rfl
theorem Qky (Br : Nat) (b m : ByteArray) (p : Nat) (w : World) (h : ASc w Br b p) (hp : p ≤ b.size) (hb : b.size ≤ 4294967296) (hm : m.size ≤ 1000) :
    Calls Tryz.prog 107 #[.pointer (some ⟨Br,0,none⟩),.string m] w fun x w' => Qf Br w w' ∧
      ((x=.returned (.bool true)∧ASc w' Br b (p + m.size)∧p + m.size≤b.size∧b.data.toList.drop p=m.data.toList++b.data.toList.drop (p + m.size)) ∨
       (x=.returned (.bool false)∧(∃q,ASc w' Br b q∧q≤b.size)∧¬m.data.toList <+: b.data.toList.drop p)) := by
  have H := hid h
  have HLB := hid (show b.data.toList.length=b.size from (Lib.size_eq b).symm)
  have HLM := hid (show m.data.toList.length=m.size from (Lib.size_eq m).symm)
  clear h
  go_enter Tryz.func107,Tryz.ntmps107
  go_wp2_with fail
  go_loopg[5] m.size (fun g v5 W => ∃k q:Nat,q=p + k∧k≤m.size∧m.size≤k + g∧q≤b.size∧v5=.int .i64 k∧(b.data.toList.drop p).take k=m.data.toList.take k∧ASc W Br b q∧Qf Br w W)
  case atStart => exact ⟨0,p,rfl,Nat.zero_le _,by omega,hp,rfl,by simp,H.out,Qf.refl _ _⟩
  case round =>
    obtain ⟨k,q,hq,hk,hg,hqb,rfl,htk,st,o⟩ := hrel
    rename World => w1
    have HG := hid hg
    have HQ := hid hq
    have HTK := hid htk
    have ST := hid st
    have O1 := hid o
    clear hg hq htk st o H
    obtain ⟨c0,c1,f1,lt⟩ := ST.out.cells
    have hk0:(0:Int)≤(k:Int) := by omega
    have hq0:(0:Int)≤(q:Int) := by omega
    by_cases hkm:k < m.size
    · have hki:(k:Int) < (m.size:Int) := by omega
      by_cases hqs:q < b.size
      · have hqi:(q:Int) < (b.size:Int) := by omega
        have hl1:k < (b.data.toList.drop p).length := by rw[List.length_drop,HLB.out];have := HQ.out;omega
        have hl2:k < m.data.toList.length := by rw[HLM.out];exact hkm
        have he1:(b.data.toList.drop p)[k]'hl1=b[q]'hqs := by
          rw[List.getElem_drop]
          have:p + k=q := HQ.out.symm
          subst this
          rfl
        have he2:m.data.toList[k]'hl2=m[k]'hkm := rfl
        by_cases hc:b[q]'hqs=m[k]'hkm
        · have hx:(((b[q]'hqs).toNat:Int) != ((m[k]'hkm).toNat:Int))=false := by unfold bne;rw[Fv,hc];simp
          have hy:((q:Int) == (b.size:Int))=false := beq_eq_false_iff_ne.2 (by omega)
          have HT2 := hid (take_more hl1 hl2 HTK.out (by rw[he1,he2,hc]))
          clear hc he1 he2
          go_wp2_with fail
          go_quiet (fail)
          have S2 := hid (ST.out.drewN nq)
          have O2 := hid (O1.out.drewN nq)
          clear c0 c1 f1 lt ST O1 HTK hx hy
          generalize w1.drewN nq=w2 at *
          obtain ⟨c0,c1,f1,lt⟩ := S2.out.cells
          go_wp2_with fail
          go_roundg (gk-1)
          case measure => have := HG.out;omega
          case rel => exact ⟨k + 1,q + 1,by have := HQ.out;omega,by omega,by have := HG.out;omega,by omega,by simp,HT2.out,S2.out.setAt (q + 1),O2.out.set _ _⟩
        · have hx:(((b[q]'hqs).toNat:Int) != ((m[k]'hkm).toNat:Int))=true := by unfold bne;rw[Fv];simpa using hc
          have hy:((q:Int) == (b.size:Int))=false := beq_eq_false_iff_ne.2 (by omega)
          have HNP := hid (not_pre hl1 hl2 (by rw[he1,he2];exact hc))
          clear hc he1 he2
          go_wp2_with fail
          go_quiet (fail)
          go_wp2_with fail
          exact bodyPost_ret (v := .bool false) (by simp[results,Tryz.results107,go_sem]) rfl ⟨O1.out.drewN _,Or.inr ⟨rfl,⟨q,ST.out.drewN _,hqb⟩,HNP.out⟩⟩
      · have hy:((q:Int) == (b.size:Int))=true := beq_iff_eq.2 (by omega)
        have HNP := hid (show ¬m.data.toList <+: b.data.toList.drop p from fun hpre => by
          have := hpre.length_le
          rw[List.length_drop,HLB.out,HLM.out]at this
          have := HQ.out
          omega)
        go_wp2_with fail
        go_quiet (fail)
        go_wp2_with fail
        exact bodyPost_ret (v := .bool false) (by simp[results,Tryz.results107,go_sem]) rfl ⟨O1.out.drewN _,Or.inr ⟨rfl,⟨q,ST.out.drewN _,hqb⟩,HNP.out⟩⟩
    · have hki:¬(k:Int) < (m.size:Int) := by omega
      have HKM := hid (show k=m.size by omega)
      go_wp2_with fail
      refine bodyPost_ret (v := .bool true) (by simp[results,Tryz.results107,go_sem]) rfl ⟨O1.out,Or.inl ⟨rfl,?_,?_,?_⟩⟩
      · rw[←HKM.out,←HQ.out];exact ST.out
      · rw[←HKM.out,←HQ.out];exact hqb
      · have h1 := List.take_append_drop k (b.data.toList.drop p)
        rw[HTK.out,List.drop_drop,HKM.out,List.take_of_length_le (by rw[HLM.out];exact Nat.le_refl _)]at h1
        exact h1.symm
end
section
open Go.RowKit Go.Lib
theorem nameA_no {s:Str}(h:Zl Xr s=false):Xf s=([],s):=by unfold Xf;rw[h];simp
theorem nameA_yes {s:Str}{k:Nat}(h:Zl Xr s=true)(hk:k≤s.length)(ha:(s.take k).all Zd=true)(hn:∀c,s[k]?=some c→Zd c=false):(Xf s).1=s.take k:=by
 obtain⟨e1,_⟩:=Gq s k hk ha hn
 unfold Xf;rw[if_pos h];exact e1
theorem Xfg {c:UInt8}(h:Xr c=true):Zd c=true:=by simp[Zd,h]
theorem Zyg (Br:Nat)(b:ByteArray)(p:Nat)(w:World)(h:ASc w Br b p)(hp:p≤b.size)(hb:b.size≤4294967296) :
  Calls Tryz.prog 108 #[.pointer (some ⟨Br,0,none⟩)] w fun x w'=>x=.returned (.string ⟨((Xf (b.data.toList.drop p)).1).toArray⟩)∧(∃q,ASc w' Br b q∧q≤b.size∧q=p+(Xf (b.data.toList.drop p)).1.length)∧Qf Br w w':=by
 have H:=hid h;have HLB:=hid (show b.data.toList.length=b.size from(Lib.size_eq b).symm);have hp0:(0:Int)≤(p:Int):=by omega
 obtain⟨c0,c1,f1,lt⟩:=h.cells
 clear h
 go_enter Tryz.func108,Tryz.ntmps108
 go_wp2_with fail
 go_loopg[] b.size (fun g W=>∃q:Nat,p≤q∧q≤b.size∧b.size≤q+g∧((b.data.toList.drop p).take (q-p)).all Zd=true∧(p<q→Zl Xr (b.data.toList.drop p)=true)∧ASc W Br b q∧Qf Br w W)
 case atStart=>exact⟨p,Nat.le_refl _,hp,by omega,by simp,fun h=>absurd h (Nat.lt_irrefl _),H.out,Qf.refl _ _⟩
 case round =>
  obtain⟨q,hple,hqle,hg,hall,hhd,st3,o3⟩:=hrel
  rename World=>w3
  clear c0 c1 f1 lt H;have HG:=hid hg;have ST3:=hid st3;have O3:=hid o3;have HALL:=hid hall;have HHD:=hid hhd;clear hg st3 o3 hall hhd
  obtain⟨c0,c1,f1,lt⟩:=ST3.out.cells
  have hqz:(0:Int)≤(q:Int):=by omega
  have hpq:(p:Int)≤(q:Int):=by omega
  have hqb:(q:Int)≤(b.size:Int):=by omega
  have FIN:=hid (fun(hn:∀c,(b.data.toList.drop p)[q-p]?=some c→(p<q→Zd c=false)∧(p=q→Xr c=false))=>show(Xf (b.data.toList.drop p)).1=(b.data.toList.drop p).take (q-p)∧q=p+(Xf (b.data.toList.drop p)).1.length from by
   have hle:q-p≤(b.data.toList.drop p).length:=by rw[List.length_drop,HLB.out];omega
   have h1:(Xf (b.data.toList.drop p)).1=(b.data.toList.drop p).take (q-p):=by
    rcases Nat.lt_or_ge p q with h|h
    ·exact nameA_yes (HHD.out h) hle HALL.out (fun c hc=>(hn c hc).1 h)
    ·obtain rfl:p=q:=by omega
     rw[Nat.sub_self]at hn ⊢;rw[nameA_no]
     ·simp
     ·cases hd:b.data.toList.drop p with
      |nil=>rfl
      |cons c t=>rw[hd]at hn;exact(hn c rfl).2 rfl
   refine⟨h1,?_⟩
   rw[h1,List.length_take,Nat.min_eq_left hle];omega)
  by_cases hql:q<b.size
  ·have hqi:(q:Int)<(b.size:Int):=by omega
   have hget:(b.data.toList.drop p)[q-p]?=some (b[q]'hql):=by
    rw[List.getElem?_drop,show p+(q-p)=q by omega,List.getElem?_eq_getElem (by rw[HLB.out];exact hql)]
    rfl
   rcases Nat.lt_or_ge p q with hlt|hge
   ·have hlt':(p:Int)<(q:Int):=by omega
    have hy:((q:Int)==(p:Int))=false:=beq_eq_false_iff_ne.2 (by omega)
    cases hnb:Zd (b[q]'hql)
    ·have NB:=hid (fun m=>hnb▸Yl (b[q]'hql) (w3.drewN m));have FI:=hid (FIN.out (fun c hc=>⟨fun _=>by rw[hget]at hc;rw[←Option.some.inj hc];exact hnb,fun e=>by omega⟩));clear HALL hnb HG FIN hget;go_wp2_with fail
     go_quiet ((go_at_call 165;exact Calls.quiet_of_same (NB.out _)))
     have H4:=hid (ST3.out.drewN nq);have O4:=hid (O3.out.drewN nq);clear c0 c1 f1 lt ST3 O3;generalize w3.drewN nq=w4 at *
     obtain⟨c0,c1,f1,lt⟩:=H4.out.cells
     have HXT:=hid (Gw b p q);go_wp2_with fail
     go_quiet (fail)
     go_wp2_with fail;exact bodyPost_ret (v:=.string (b.extract p q)) (by simp[results,Tryz.results108,go_sem]) rfl ⟨by rw[HXT.out,FI.out.1],⟨q,H4.out.drewN _,hqle,FI.out.2⟩,O4.out.drewN _⟩
    ·have NB:=hid (fun m=>hnb▸Yl (b[q]'hql) (w3.drewN m));have HA2:=hid (show((b.data.toList.drop p).take (q+1-p)).all Zd=true from by
      have:=Bd (p:=Zd) b p (q-p) (by omega) HALL.out (by simpa[show p+(q-p)=q by omega]using hnb)
      rwa [show q-p+1=q+1-p by omega]at this)
     have HH2:=hid (HHD.out hlt);clear HALL hnb FIN hget HHD;go_wp2_with fail
     go_quiet ((go_at_call 165;exact Calls.quiet_of_same (NB.out _)))
     have H4:=hid (ST3.out.drewN nq);have O4:=hid (O3.out.drewN nq);clear c0 c1 f1 lt ST3 O3 NB;generalize w3.drewN nq=w4 at *
     obtain⟨c0,c1,f1,lt⟩:=H4.out.cells
     go_wp2_with fail
     go_roundg (gk-1)
     case measure=>have:=HG.out;omega
     case rel=>exact⟨q+1,by omega,by omega,by have:=HG.out;omega,HA2.out,fun _=>HH2.out,H4.out.setAt (q+1),O4.out.set _ _⟩
   ·obtain rfl:p=q:=by omega
    have hd0:(b.data.toList.drop p)[0]?=some (b[p]'hql):=by rw[Nat.sub_self]at hget;exact hget
    cases hnb:Xr (b[p]'hql)
    ·have NB:=hid (fun m=>hnb▸Yk (b[p]'hql) (w3.drewN m));have FI:=hid (FIN.out (fun c hc=>⟨fun h=>absurd h (Nat.lt_irrefl _),fun e=>by rw[hget]at hc;rw[←Option.some.inj hc];exact hnb⟩));clear HALL hnb HG FIN hget hd0;go_wp2_with fail
     go_quiet ((go_at_call 164;exact Calls.quiet_of_same (NB.out _)))
     have H4:=hid (ST3.out.drewN nq);have O4:=hid (O3.out.drewN nq);clear c0 c1 f1 lt ST3 O3;generalize w3.drewN nq=w4 at *
     obtain⟨c0,c1,f1,lt⟩:=H4.out.cells
     have HXT:=hid (Gw b p p);go_wp2_with fail
     go_quiet (fail)
     go_wp2_with fail;exact bodyPost_ret (v:=.string (b.extract p p)) (by simp[results,Tryz.results108,go_sem]) rfl ⟨by rw[HXT.out,FI.out.1],⟨p,H4.out.drewN _,hqle,FI.out.2⟩,O4.out.drewN _⟩
    ·have NB:=hid (fun m=>hnb▸Yk (b[p]'hql) (w3.drewN m));have HH2:=hid (show Zl Xr (b.data.toList.drop p)=true by rw[Lg b p hql];exact hnb);have HA2:=hid (show((b.data.toList.drop p).take (p+1-p)).all Zd=true from by
      have:=Bd (p:=Zd) b p 0 (by omega) (by simp) (by simpa using Xfg hnb)
      rwa [show 0+1=p+1-p by omega]at this)
     clear HALL hnb FIN hget HHD hd0;go_wp2_with fail
     go_quiet ((go_at_call 164;exact Calls.quiet_of_same (NB.out _)))
     have H4:=hid (ST3.out.drewN nq);have O4:=hid (O3.out.drewN nq);clear c0 c1 f1 lt ST3 O3 NB;generalize w3.drewN nq=w4 at *
     obtain⟨c0,c1,f1,lt⟩:=H4.out.cells
     go_wp2_with fail
     go_roundg (gk-1)
     case measure=>have:=HG.out;omega
     case rel=>exact⟨p+1,by omega,by omega,by have:=HG.out;omega,HA2.out,fun _=>HH2.out,H4.out.setAt (p+1),O4.out.set _ _⟩
  ·have hqi:¬(q:Int)<(b.size:Int):=by omega
   have hd:decide (q<b.size)=false:=decide_eq_false hql;have FI:=hid (FIN.out (fun c hc=>by
    rw[List.getElem?_drop,show p+(q-p)=q by omega,List.getElem?_eq_none (by rw[HLB.out];omega)]at hc
    cases hc))
   clear HALL HG FIN;go_wp2_with fail
   go_quiet (fail)
   have H4:=hid (ST3.out.drewN nq);have O4:=hid (O3.out.drewN nq);clear c0 c1 f1 lt ST3 O3;generalize w3.drewN nq=w4 at *
   obtain⟨c0,c1,f1,lt⟩:=H4.out.cells
   have HXT:=hid (Gw b p q);go_wp2_with fail
   go_quiet (fail)
   go_wp2_with fail;exact bodyPost_ret (v:=.string (b.extract p q)) (by simp[results,Tryz.results108,go_sem]) rfl ⟨by rw[HXT.out,FI.out.1],⟨q,H4.out.drewN _,hqle,FI.out.2⟩,O4.out.drewN _⟩
end
end Go.Proofs.YtbbmdbolkicpcabGreatDoor
