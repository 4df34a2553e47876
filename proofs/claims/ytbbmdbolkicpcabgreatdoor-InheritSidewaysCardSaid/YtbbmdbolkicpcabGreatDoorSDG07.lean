/- CanonC, CanonD, CanonE, CanonF, ChainP, AliasP, AliasT -/
import Derived.Test.YtbbmdbolkicpcabGreatDoorSDG06
import Derived.Test.YtbbmdbolkicpcabGreatDoorSDG05
set_option maxRecDepth 100000
set_option maxHeartbeats 32000000
set_option linter.unusedVariables false
set_option linter.unusedSimpArgs false
namespace Go.Proofs.YtbbmdbolkicpcabGreatDoor
section
def Cw (v:Str):List Str:=if v=[]then [] else(Rd.first v).subs
def Gc (p:Str×Str):List Str:=p.1::Cw p.2
def ValOK (v:Str):Prop:=∃ts:List Str,(∀x∈ts,Xj x=true∧lower x=x)∧v=value ts
def Qwk (p:Str×Str):Prop:=Jt p.1=true∧lower p.1=p.1∧ValOK p.2
def Kg (l:List (Str×Str)):Prop:=(l.map (·.1)).Nodup∧(∀p∈l,Qwk p)∧l.length≤16
def Vl (l:List Str):Prop:=l.Nodup∧(∀v∈l,Zh v=true∧lower v=v)∧l.length≤8
theorem Qwv (ts:List Str):value ts=[]∨(value ts=Lib.join ts [45]∧ts≠[]∧value ts≠[]):=by
 unfold value
 by_cases h:Lib.join ts [45]=tTrue
 ·rw[if_pos h];exact Or.inl rfl
 ·rw[if_neg h]
  by_cases h2:Lib.join ts [45]=[]
  ·exact Or.inl h2
  ·exact Or.inr ⟨rfl,fun e=>h2 (by rw[e];rfl),h2⟩
theorem Ev (ts:List Str)(h:∀x∈ts,Xj x=true):Cw (value ts)=if value ts=[]then []else ts:=by
 unfold Cw
 by_cases h0:value ts=[]
 ·rw[if_pos h0,if_pos h0]
 ·rw[if_neg h0,if_neg h0]
  rcases Qwv ts with h1|⟨h1,h2,h3⟩
  ·exact absurd h1 h0
  ·rw[h1]
   cases ts with
   |nil=>exact absurd rfl h2
   |cons x xs =>
    refine Zjh x xs ?_ fun q hq=>(Pw (h q hq)).1
    have:=(Pw (h x (List.mem_cons_self))).2.1
    rintro rfl
    simp at this
theorem sz_value (ts:List Str)(h:∀x∈ts,Xj x=true):sz (Cw (value ts))≤sz ts:=by
 rw[Ev ts h]
 split
 ·exact Nat.zero_le _
 ·exact Nat.le_refl _
theorem Un {p:Str→Bool}:∀(l:List Str),∀x∈l.takeWhile p,p x=true
 |[],x,h=>by simp at h
 |a::l,x,h=>by
  rw[List.takeWhile_cons]at h
  split at h
  ·rcases List.mem_cons.1 h with rfl|h
   ·assumption
   ·exact Un l x h
  ·simp at h
theorem Zbx (p:Str→Bool)(l:List Str):sz (l.takeWhile p)+sz (l.dropWhile p)=sz l:=by
 rw[←Zg,List.takeWhile_append_dropWhile]
theorem nodup_snoc' {l:List (Str×Str)}{key v:Str}(h:¬(l.any fun p=>p.1==key)=true)(hn:(l.map (·.1)).Nodup):((l++[(key,v)]).map (·.1)).Nodup:=by
 rw[List.map_append,List.nodup_append]
 refine⟨hn,by simp,fun a ha b hb=>?_⟩
 simp only[List.map_cons,List.map_nil,List.mem_singleton]at hb;subst hb;rintro rfl
 obtain⟨p,hp,rfl⟩:=List.mem_map.1 ha
 exact h (List.any_eq_true.2 ⟨p,hp,by simp⟩)
theorem Zkz:∀(n:Nat)(t t':Tg)(ps:List Str),Ng n t ps=some t'→Kg t.keys →
  ∃ks,t'={ t with keys:=Ky (t.keys++ks) }∧Kg (t.keys++ks)∧sz (ks.flatMap Gc)≤sz ps
 |0,t,t',ps,h,_=>by simp[Ng]at h
 |n+1,t,t',[],h,hk=>by
  simp only[Ng,Option.some.injEq]at h
  exact⟨[],by rw[←h,List.append_nil],by rw[List.append_nil];exact hk,by simp[Wy]⟩
 |n+1,t,t',x::ps,h,hk=>by
  simp only[Ng]at h
  by_cases hq:Jt x=true
  ·rw[if_pos hq]at h
   by_cases hd:(t.keys.any fun p=>p.1==lower x)=true
   ·rw[if_pos hd]at h;cases h
   ·rw[if_neg hd]at h
    by_cases h16:t.keys.length=16
    ·rw[if_pos h16]at h;cases h
    ·rw[if_neg h16]at h;have hty:∀y∈(ps.takeWhile Xj).map lower,Xj y=true∧lower y=y:=by
      intro y hy
      obtain⟨z,hz,rfl⟩:=List.mem_map.1 hy
      exact⟨by rw[Zbq];exact Un ps z hz,Dy z⟩
     have hok:Qwk (lower x,value ((ps.takeWhile Xj).map lower)):=⟨by rw[Zrg];exact hq,Dy x,_,hty,rfl⟩;have hk2:Kg (t.keys++[(lower x,value ((ps.takeWhile Xj).map lower))]):=by
      refine⟨nodup_snoc' hd hk.1,fun p hp=>?_,by have:=hk.2.2;simp;omega⟩
      rcases List.mem_append.1 hp with hp|hp
      ·exact hk.2.1 p hp
      ·rw[List.mem_singleton.1 hp];exact hok
     obtain⟨ks,h1,h2,h3⟩:=Zkz n _ t' _ h hk2
     refine⟨(lower x,value ((ps.takeWhile Xj).map lower))::ks,?_,?_,?_⟩
     ·rw[h1];simp
     ·simpa using h2
     ·rw[List.flatMap_cons,Zg,Kq]
      have:=Zbx Xj ps
      have h4:=sz_value ((ps.takeWhile Xj).map lower) fun y hy=>(hty y hy).1
      rw[sz_lower]at h4;rw[show Gc (lower x,value ((ps.takeWhile Xj).map lower))=lower x::Cw (value ((ps.takeWhile Xj).map lower))from rfl,Kq,Xt]
      omega
  ·rw[if_neg hq]at h;cases h
end
section
theorem Kg.nil:Kg []:=⟨by simp,by simp,by simp⟩
theorem Vl.nil:Vl []:=⟨by simp,by simp,by simp⟩
theorem Ux (l:List Str):(Fz l).Perm l:=List.mergeSort_perm l _
theorem Qww (l:List Str):(Fz l).Pairwise (fun a b=>decide (a≤b)=true) :=
 List.pairwise_mergeSort (fun a b c h1 h2=>by simp only[decide_eq_true_eq]at *;exact List.le_trans h1 h2) (fun a b=>by simp only[Bool.or_eq_true,decide_eq_true_eq];exact List.le_total _ _) l
theorem srtS_srtS (l:List Str):Fz (Fz l)=Fz l:=List.mergeSort_of_pairwise (Qww l)
theorem Kg.srt {l:List (Str×Str)}(h:Kg l):Kg (Ky l) :=
 ⟨((Vg l).map _).nodup_iff.2 h.1,fun p hp=>h.2.1 p ((Vg l).mem_iff.1 hp),by rw[(Vg l).length_eq];exact h.2.2⟩
theorem Vl.srt {l:List Str}(h:Vl l):Vl (Fz l) :=
 ⟨(Ux l).nodup_iff.2 h.1,fun p hp=>h.2.1 p ((Ux l).mem_iff.1 hp),by rw[(Ux l).length_eq];exact h.2.2⟩
theorem srtK_srtK {l:List (Str×Str)}(h:Kg l):Ky (Ky l)=Ky l :=
 (Rt (Ky l) (Ky l) (List.Perm.refl _) h.srt.1 (Mq l)).symm
def Zf (ks:List (Str×Str)):List Str:=Nj ks++ks.flatMap Gc
theorem Xwz (ks:List (Str×Str)):sz (Zf ks)≤2+sz (ks.flatMap Gc):=by
 unfold Zf Nj
 split
 ·simp[Wy]
 ·rw[Zg,Kq,Wy];simp
theorem Zkx (t t':Tg)(ps:List Str)(h:Nf t ps=some t')(hk:t.keys=[]):∃ks,t'={ t with vars:=Fz t.vars,keys:=Ky ks }∧Kg ks∧sz (Zf ks)≤sz ps:=by
 cases ps with
 |nil =>
  simp only[Nf,Option.some.injEq]at h
  exact⟨[],by rw[←h,hk];simp[Ky],Kg.nil,by simp[Zf,Nj,Wy]⟩
 |cons x ps =>
  simp only[Nf]at h
  by_cases hu:lower x=[117]
  ·rw[if_pos hu]at h
   cases ps with
   |nil=>cases h
   |cons y qs =>
    simp only at h
    by_cases hq:Jt y=true
    ·rw[if_pos hq]at h
     obtain⟨ks,h1,h2,h3⟩:=Zkz 17 _ t' _ h (by simp only[hk];exact Kg.nil)
     simp only[hk,List.nil_append]at h1 h2;have hx:x.length=1:=by rw[←Xt,hu];rfl
     exact⟨ks,h1,h2,by have:=Xwz ks;rw[Kq,hx];omega⟩
    ·rw[if_neg hq]at h;cases h
  ·rw[if_neg hu]at h;cases h
theorem Qxh:∀(n:Nat)(t t':Tg)(ps:List Str),Dw n t ps=some t'→t.keys=[]→Vl t.vars →
  ∃vs ks,t'={ t with vars:=Fz (t.vars++vs),keys:=Ky ks }∧Vl (t.vars++vs)∧Kg ks∧sz (vs++Zf ks)≤sz ps
 |0,t,t',ps,h,_,_=>by simp[Dw]at h
 |n+1,t,t',[],h,hk,hv=>by
  simp only[Dw]at h
  obtain⟨ks,h1,h2,h3⟩:=Zkx t t' [] h hk
  exact⟨[],ks,by rw[List.append_nil];exact h1,by rw[List.append_nil];exact hv,h2,h3⟩
 |n+1,t,t',x::ps,h,hk,hv=>by
  simp only[Dw]at h
  by_cases hq:Zh x=true
  ·rw[if_pos hq]at h
   by_cases hd:t.vars.contains (lower x)=true
   ·rw[if_pos hd]at h;cases h
   ·rw[if_neg hd]at h
    by_cases h8:t.vars.length=8
    ·rw[if_pos h8]at h;cases h
    ·rw[if_neg h8]at h;have hv2:Vl (t.vars++[lower x]):=by
      refine⟨?_,fun p hp=>?_,by have:=hv.2.2;simp;omega⟩
      ·rw[List.nodup_append]
       refine⟨hv.1,by simp,fun a ha b hb=>?_⟩
       rw[List.mem_singleton]at hb;subst hb;rintro rfl;exact hd (List.contains_iff_mem.2 ha)
      ·rcases List.mem_append.1 hp with hp|hp
       ·exact hv.2.1 p hp
       ·rw[List.mem_singleton.1 hp];exact⟨by rw[Qhk];exact hq,Dy x⟩
     obtain⟨vs,ks,h1,h2,h3,h4⟩:=Qxh n _ t' _ h hk hv2
     refine⟨lower x::vs,ks,?_,?_,h3,?_⟩
     ·rw[h1];simp
     ·simpa using h2
     ·rw[List.cons_append,Kq,Kq,Xt];omega
  ·rw[if_neg hq]at h
   obtain⟨ks,h1,h2,h3⟩:=Zkx t t' (x::ps) h hk
   exact⟨[],ks,by rw[List.append_nil];exact h1,by rw[List.append_nil];exact hv,h2,h3⟩
def opt (s:Str):List Str:=if s=[]then []else [s]
theorem Ew:opt []=[]:=rfl
theorem sz_opt (s:Str):sz (opt s)≤s.length+1:=by
 unfold opt
 split
 ·exact Nat.zero_le _
 ·rw[Kq,Wy];simp
theorem Qwy (t t':Tg)(ps:List Str)(h:Vt t ps=some t')(hk:t.keys=[])(hv:t.vars=[])(hr:t.region=[]) :
  ∃rg vs ks,t'={ t with region:=rg,vars:=Fz vs,keys:=Ky ks }∧(rg=[]∨(Xz rg=true∧Kf rg=rg))∧Vl vs∧Kg ks∧sz (opt rg++vs++Zf ks)≤sz ps:=by
 have hnil:∀ps,Dw 9 t ps=some t'→∃rg vs ks,t'={ t with region:=rg,vars:=Fz vs,keys:=Ky ks }∧(rg=[]∨(Xz rg=true∧Kf rg=rg))∧Vl vs∧Kg ks∧sz (opt rg++vs++Zf ks)≤sz ps:=by
  intro ps h
  obtain⟨vs,ks,h1,h2,h3,h4⟩:=Qxh 9 t t' ps h hk (by rw[hv];exact Vl.nil)
  simp only[hv,List.nil_append]at h1 h2
  exact⟨[],vs,ks,by rw[h1,←hr],Or.inl rfl,h2,h3,by rw[Ew];exact h4⟩
 cases ps with
 |nil=>exact hnil [] h
 |cons x ps =>
  simp only[Vt]at h
  by_cases hq:Xz x=true
  ·rw[if_pos hq]at h
   obtain⟨vs,ks,h1,h2,h3,h4⟩:=Qxh 9 _ t' ps h hk (by simp only[hv];exact Vl.nil)
   simp only[hv,List.nil_append]at h1 h2
   refine⟨Kf x,vs,ks,h1,Or.inr ⟨by rw[Qck];exact hq,Zry x⟩,h2,h3,?_⟩
   have:=sz_opt (Kf x)
   rw[Bg]at this;rw[List.append_assoc,Zg,Kq]
   omega
  ·rw[if_neg hq]at h;exact hnil (x::ps) h
theorem Zsq (t t':Tg)(ps:List Str)(h:Fc t ps=some t')(hk:t.keys=[])(hv:t.vars=[])(hr:t.region=[])(hs:t.script=[]) :
  ∃sc rg vs ks,t'={ t with script:=sc,region:=rg,vars:=Fz vs,keys:=Ky ks }∧(sc=[]∨(Xq sc=true∧Vp sc=sc))∧(rg=[]∨(Xz rg=true∧Kf rg=rg))∧Vl vs∧Kg ks∧sz (opt sc++opt rg++vs++Zf ks)≤sz ps:=by
 have hnil:∀ps,Vt t ps=some t'→∃sc rg vs ks,t'={ t with script:=sc,region:=rg,vars:=Fz vs,keys:=Ky ks }∧(sc=[]∨(Xq sc=true∧Vp sc=sc))∧(rg=[]∨(Xz rg=true∧Kf rg=rg))∧Vl vs∧Kg ks∧sz (opt sc++opt rg++vs++Zf ks)≤sz ps:=by
  intro ps h
  obtain⟨rg,vs,ks,h1,h2,h3,h4,h5⟩:=Qwy t t' ps h hk hv hr
  exact⟨[],rg,vs,ks,by rw[h1,←hs],Or.inl rfl,h2,h3,h4,by rw[Ew];exact h5⟩
 cases ps with
 |nil=>exact hnil [] h
 |cons x ps =>
  simp only[Fc]at h
  by_cases hq:Xq x=true
  ·rw[if_pos hq]at h
   obtain⟨rg,vs,ks,h1,h2,h3,h4,h5⟩:=Qwy _ t' ps h hk hv hr
   refine⟨Vp x,rg,vs,ks,h1,Or.inr ⟨by rw[Qcv];exact hq,Zrh x⟩,h2,h3,h4,?_⟩
   have:=sz_opt (Vp x)
   rw[Zgx]at this;rw[List.append_assoc,List.append_assoc,Zg,Kq,←List.append_assoc]
   omega
  ·rw[if_neg hq]at h;exact hnil (x::ps) h
structure Qcw (t:Tg):Prop where
 lang:t.lang=[]∨(Vw t.lang=true∧lower t.lang=t.lang∧t.lang≠Qth)
 script:t.script=[]∨(Xq t.script=true∧Vp t.script=t.script)
 region:t.region=[]∨(Xz t.region=true∧Kf t.region=t.region)
 vars:Vl t.vars
 vsort:Fz t.vars=t.vars
 keys:Kg t.keys
 ksort:Ky t.keys=t.keys
def Cy (t:Tg):List Str:=Kx t.lang::(opt t.script++opt t.region++t.vars++Zf t.keys)
theorem Qcy {a b:List (Str×Str)}(h:a.Perm b):sz (Zf a)=sz (Zf b):=by
 unfold Zf;rw[Zg,Zg,Xmq (h.flatMap_right Gc)]
 congr 2
 unfold Nj
 have:=h.length_eq
 by_cases ha:a=[]
 ·subst ha;have hb:b=[]:=List.eq_nil_of_length_eq_zero (by simpa using this.symm);rw[hb]
 ·have hb:b≠[]:=fun e=>ha (List.eq_nil_of_length_eq_zero (by rw[this,e];rfl))
  rw[if_neg ha,if_neg hb]
theorem Xwx (t:Tg)(ps:List Str)(h:Ww ps=some t):Qcw t∧sz (Cy t)≤sz ps:=by
 cases ps with
 |nil=>cases h
 |cons x ps =>
  simp only[Ww]at h
  by_cases hq:Vw x=true
  ·rw[if_pos hq]at h
   obtain⟨sc,rg,vs,ks,h1,h2,h3,h4,h5,h6⟩:=Zsq _ t ps h rfl rfl rfl rfl
   subst h1
   refine⟨⟨?_,h2,h3,h4.srt,srtS_srtS vs,h5.srt,srtK_srtK h5⟩,?_⟩
   ·show Vh x=[]∨_;unfold Vh
    by_cases hu:lower x=Qth
    ·rw[if_pos hu];exact Or.inl rfl
    ·rw[if_neg hu];exact Or.inr ⟨by rw[Zbz];exact hq,Dy x,hu⟩
   ·have hl:(Kx (Vh x)).length=x.length:=by
     unfold Vh Kx
     by_cases hu:lower x=Qth
     ·rw[if_pos hu,if_pos rfl,←hu,Xt]
     ·rw[if_neg hu,if_neg,Xt];intro e;have e2:=congrArg List.length e;rw[Xt]at e2;have e3:=(Wh hq).2;simp only[List.length_nil]at e2
      omega
    show sz (Kx (Vh x)::(opt sc++opt rg++Fz vs++Zf (Ky ks)))≤_;rw[Kq,Kq,hl,Zg,Zg,Xmq (Ux vs),Qcy (Vg ks)];rw[Zg,Zg]at h6
    omega
  ·rw[if_neg hq]at h;cases h
end
section
def Gy (t:Tg)(ks:List (Str×Str)):List Str:=Kx t.lang::(opt t.script++opt t.region++t.vars++Zf ks)
theorem Qxg {v:Str}(h:ValOK v):(∀x∈Cw v,Xj x=true)∧value ((Cw v).map lower)=v∧(v≠[]→jt (Cw v)=45::v):=by
 obtain⟨ts,h1,rfl⟩:=h
 have hm:ts.map lower=ts:=by
  conv=>rhs;rw[←List.map_id ts]
  exact List.map_congr_left fun x hx=>(h1 x hx).2
 rw[Ev ts fun x hx=>(h1 x hx).1]
 by_cases h0:value ts=[]
 ·rw[if_pos h0]
  exact⟨by simp,by rw[h0];decide,fun h=>absurd h0 h⟩
 ·rw[if_neg h0,hm]
  refine⟨fun x hx=>(h1 x hx).1,rfl,fun _=>?_⟩
  rcases Qwv ts with h2|⟨h2,h3,h4⟩
  ·exact absurd h2 h0
  ·rw[h2]
   cases ts with
   |nil=>exact absurd rfl h3
   |cons x xs=>rw[Uz,Bn]
theorem jt_pair {p:Str×Str}(h:Qwk p):jt (Xk p)=jt (Gc p):=by
 unfold Xk Gc
 by_cases h0:p.2=[]
 ·rw[if_pos h0,h0];rfl
 ·rw[if_neg h0,Bn,Bn,Bn,Xwq,(Qxg h.2.2).2.2 h0,List.append_nil]
theorem Zsz:∀(ks:List (Str×Str)),(∀p∈ks,Qwk p)→jt (ks.flatMap Xk)=jt (ks.flatMap Gc)
 |[],_=>rfl
 |p::ks,h=>by
  rw[List.flatMap_cons,List.flatMap_cons,Qxv,Qxv,jt_pair (h p (List.mem_cons_self)),Zsz ks fun q hq=>h q (List.mem_cons_of_mem _ hq)]
theorem full_vars:∀(l:List Str),(∀v∈l,Zh v=true∧lower v=v)→l.filter Nx=l:=by
 intro l h;refine List.filter_eq_self.2 fun v hv=>?_
 have:=(Mb (h v hv).1).2.1
 unfold Nx
 cases v with
 |nil=>simp at this
 |cons=>rfl
theorem Zsx (s:Str):[s].filter Nx=opt s:=by
 unfold opt Nx
 cases s <;> rfl
theorem head_ne (l:Str):Kx l≠[]:=by
 unfold Kx
 split
 ·decide
 ·assumption
theorem write_K (t:Tg)(h:Qcw t)(ks:List (Str×Str))(hk:∀p∈ks,Qwk p) :
  Lib.join (Wj t ([t.script,t.region]++t.vars)++(Nj ks++ks.flatMap Xk)) [45]=Lib.join (Gy t ks) [45]:=by
 unfold Wj Gy Zf;rw[List.cons_append,Uz,Uz]
 congr 1
 rw[List.filter_append,full_vars _ h.vars.2.1,show [t.script,t.region]=[t.script]++[t.region]from rfl,List.filter_append,Zsx,Zsx];simp only[Qxv];rw[Zsz ks hk]
theorem Xmj (t:Tg)(h:Qcw t):Kj t=Lib.join (Cy t) [45]:=write_K t h t.keys h.keys.2.1
theorem Zkj {s:Str}(h:s=[]∨Dv s):∀q∈opt s,Dv q:=by
 intro q hq;unfold opt at hq
 split at hq
 ·simp at hq
 ·rw[List.mem_singleton.1 hq];exact h.resolve_left (by assumption)
theorem Zbj {p:Str×Str}(h:Qwk p):∀q∈Gc p,Dv q:=by
 intro q hq
 rcases List.mem_cons.1 hq with rfl|hq
 ·exact(Zkq h.1).1
 ·exact(Pw ((Qxg h.2.2).1 q hq)).1
theorem clean_K (t:Tg)(h:Qcw t)(ks:List (Str×Str))(hk:∀p∈ks,Qwk p):∀q∈Gy t ks,Dv q:=by
 intro q hq;unfold Gy Zf at hq
 rcases List.mem_cons.1 hq with rfl|hq
 ·unfold Kx
  by_cases h0:t.lang=[]
  ·rw[if_pos h0];unfold Dv;decide
  ·rw[if_neg h0]
   exact(Wh (h.lang.resolve_left h0).1).1
 ·simp only[List.mem_append,List.mem_flatMap]at hq
  rcases hq with ((hq|hq)|hq)|(hq|⟨p,hp,hq⟩)
  ·exact Zkj (h.script.imp id fun h=>(Py h.1).1) q hq
  ·exact Zkj (h.region.imp id fun h=>(Ph h.1).1) q hq
  ·exact(Mb (h.vars.2.1 q hq).1).1
  ·unfold Nj at hq
   split at hq
   ·simp at hq
   ·rw[List.mem_singleton.1 hq];unfold Dv;decide
  ·exact Zbj (hk p hp) q hq
theorem Zbk {l:Str}(h:Jt l=true):Xj l=false:=by
 by_cases ht:Xj l=true
 ·have h1:=(Pw ht).2.1;have h2:=(Zkq h).2
  omega
 ·simpa using ht
theorem Qlk {p:Str→Bool}(a b:List Str)(ha:∀x∈a,p x=true)(hb:∀x∈b.head?,p x=false):(a++b).takeWhile p=a∧(a++b).dropWhile p=b:=by
 induction a with
 |nil =>
  cases b with
  |nil=>exact⟨rfl,rfl⟩
  |cons y b =>
   have:=hb y rfl
   simp[List.takeWhile_cons,List.dropWhile_cons,this]
 |cons x a ih =>
  have h1:=ha x (List.mem_cons_self)
  obtain⟨h2,h3⟩:=ih fun y hy=>ha y (List.mem_cons_of_mem _ hy)
  simp[List.takeWhile_cons,List.dropWhile_cons,h1,h2,h3]
theorem Zkk:∀(n:Nat)(ks:List (Str×Str))(t:Tg),Kg (t.keys++ks)→17≤n+t.keys.length→Ng n t (ks.flatMap Gc)=some { t with keys:=Ky (t.keys++ks) }
 |0,ks,t,h,hn=>by have:=h.2.2;simp at this;omega
 |n+1,[],t,h,hn=>by simp[Ng]
 |n+1,p::ks,t,h,hn=>by
  have hp:Qwk p:=h.2.1 p (by simp);have hty:=Qxg hp.2.2;rw[List.flatMap_cons];show Ng (n+1) t (p.1::(Cw p.2++ks.flatMap Gc))=_;have hb:∀x∈(ks.flatMap Gc).head?,Xj x=false:=by
   cases ks with
   |nil=>simp
   |cons q ks =>
    intro x hx;rw[List.flatMap_cons]at hx
    have:q.1=x:=by simpa[Gc]using hx
    rw[←this];exact Zbk (h.2.1 q (by simp)).1
  obtain⟨h1,h2⟩:=Qlk (Cw p.2) (ks.flatMap Gc) hty.1 hb
  simp only[Ng];have hd:¬(t.keys.any fun q=>q.1==lower p.1)=true:=by
   intro hh
   obtain⟨q,hq,he⟩:=List.any_eq_true.1 hh
   rw[hp.2.1]at he;have hn1:=h.1;rw[List.map_append,List.nodup_append]at hn1;exact hn1.2.2 q.1 (List.mem_map.2 ⟨q,hq,rfl⟩) p.1 (by simp) (by simpa using he)
  have hl:=h.2.2;simp only[List.length_append,List.length_cons]at hl;rw[if_pos hp.1,if_neg hd,if_neg (by omega),h1,h2,hty.2.1,hp.2.1];rw[Zkk n ks { t with keys:=t.keys++[(p.1,p.2)] } (by simpa using h) (by simp;omega)]
  simp
theorem tail_back (ks:List (Str×Str))(t:Tg)(hk:t.keys=[])(h:Kg ks):Nf t (Zf ks)=some { t with vars:=Fz t.vars,keys:=Ky ks }:=by
 unfold Zf Nj
 cases ks with
 |nil =>
  rw[if_pos rfl];simp only[List.flatMap_nil,List.append_nil,Nf]
  simp[Ky,hk]
 |cons p ks =>
  rw[if_neg (by simp),List.flatMap_cons];show Nf t ([117]::(p.1::(Cw p.2++ks.flatMap Gc)))=_;simp only[Nf];rw[if_pos (by decide),if_pos (h.2.1 p (List.mem_cons_self)).1]
  have:=Zkk 17 (p::ks) { t with vars:=Fz t.vars } (by simpa[hk]using h) (by simp)
  rw[List.flatMap_cons]at this;refine Eq.trans this ?_
  simp[hk]
theorem Xmk (ks:List (Str×Str)):∀x∈(Zf ks).head?,x=[117]:=by
 unfold Zf Nj
 cases ks with
 |nil=>simp
 |cons p ks=>intro x hx;rw[if_neg (by simp)]at hx;simpa using hx.symm
theorem vars_skip (n:Nat)(t:Tg)(ps:List Str)(h:∀x∈ps.head?,Zh x=false):Dw (n+1) t ps=Nf t ps:=by
 cases ps with
 |nil=>rfl
 |cons x ps=>simp only[Dw];rw[if_neg (by rw[h x rfl];decide)]
theorem Qjq:∀(n:Nat)(vs:List Str)(ks:List (Str×Str))(t:Tg),t.keys=[]→Kg ks→Vl (t.vars++vs)→9≤n+t.vars.length →
  Dw n t (vs++Zf ks)=some { t with vars:=Fz (t.vars++vs),keys:=Ky ks }
 |0,vs,ks,t,_,_,h,hn=>by have:=h.2.2;simp at this;omega
 |n+1,[],ks,t,hk,h,hv,hn=>by
  rw[List.nil_append,vars_skip n t _ (fun x hx=>by rw[Xmk ks x hx];decide),tail_back ks t hk h,List.append_nil]
 |n+1,v::vs,ks,t,hk,h,hv,hn=>by
  have hp:=hv.2.1 v (by simp);have hl:=hv.2.2;simp only[List.length_append,List.length_cons]at hl;have hd:¬t.vars.contains (lower v)=true:=by
   intro hh;rw[hp.2]at hh;have hn1:=hv.1;rw[List.nodup_append]at hn1;exact hn1.2.2 v (List.contains_iff_mem.1 hh) v (by simp) rfl
  rw[List.cons_append];simp only[Dw];rw[if_pos hp.1,if_neg hd,if_neg (by omega),hp.2];rw[Qjq n vs ks { t with vars:=t.vars++[v] } hk h (by simpa using hv) (by simp;omega)]
  simp
theorem dig_let (c:UInt8):Gg c=true→Yt c=false:=Gn (p:=fun c=>Gg c=true→Yt c=false) (by decide +kernel) c
theorem Wg {l:Str}(h:Zh l=true):Xq l=false:=by
 by_cases hs:Xq l=true
 ·have h4:=(Py hs).2;unfold Zh at h;simp only[Bool.or_eq_true,Bool.and_eq_true]at h
  rcases h with h|h
  ·have:=(Dh h).2.1;omega
  ·exfalso
   cases l with
   |nil=>simp at h4
   |cons c l =>
    have hc:Gg c=true:=by have:=h.2;simpa[Yh]using this
    unfold Xq Vy Yh at hs;simp only[Bool.and_eq_true,List.all_cons]at hs;rw[dig_let c hc]at hs
    simp at hs
 ·simpa using hs
theorem Wf {l:Str}(h:Zh l=true):Xz l=false:=by
 by_cases hs:Xz l=true
 ·have h4:=(Ph hs).2
  have:=(Mb h).2.1
  omega
 ·simpa using hs
theorem Ey {l:Str}(h:Xz l=true):Xq l=false:=by
 by_cases hs:Xq l=true
 ·have h4:=(Py hs).2
  have:=(Ph h).2
  omega
 ·simpa using hs
theorem Xmv (vs:List Str) (ks:List (Str × Str)):∀x ∈ (vs++Zf ks).head?,x ∈ vs∨x=[117] := by
  cases vs with
  |nil => intro x hx;exact Or.inr (Xmk ks x hx)
  | cons v vs => intro x hx; left; have : v = x := by simpa using hx
                 rw[←this];simp
theorem Qwh (rg:Str)(vs:List Str)(ks:List (Str×Str))(t:Tg)(hr:rg=[]∨(Xz rg=true∧Kf rg=rg))(h0:t.region=[])(h1:t.vars=[])(h2:t.keys=[])(hk:Kg ks)(hv:Vl vs) :
  Vt t (opt rg++vs++Zf ks)=some { t with region:=rg,vars:=Fz vs,keys:=Ky ks }:=by
 unfold opt
 by_cases hn:rg=[]
 ·rw[if_pos hn,List.nil_append];have hskip:Vt t (vs++Zf ks)=Dw 9 t (vs++Zf ks):=by
   have hh:=Xmv vs ks
   cases hl:vs++Zf ks with
   |nil=>rfl
   |cons x ps =>
    rw[hl]at hh
    have:Xz x=false:=by
     rcases hh x rfl with h|h
     ·exact Wf (hv.2.1 x h).1
     ·rw[h];decide
    simp only[Vt];rw[if_neg (by rw[this];decide)]
  rw[hskip,Qjq 9 vs ks t h2 hk (by rw[h1];exact hv) (by omega),h1,hn,List.nil_append,←h0]
 ·rw[if_neg hn];have hr2:=hr.resolve_left hn;show Vt t (rg::(vs++Zf ks))=_;simp only[Vt];rw[if_pos hr2.1,hr2.2,Qjq 9 vs ks { t with region:=rg } h2 hk (by simp only[h1];exact hv) (by simp)]
  simp[h1]
theorem Zsj (sc rg:Str)(vs:List Str)(ks:List (Str×Str))(t:Tg)(hs:sc=[]∨(Xq sc=true∧Vp sc=sc))(hr:rg=[]∨(Xz rg=true∧Kf rg=rg))(h3:t.script=[])(h0:t.region=[])(h1:t.vars=[])(h2:t.keys=[])(hk:Kg ks)(hv:Vl vs) :
  Fc t (opt sc++opt rg++vs++Zf ks)=some { t with script:=sc,region:=rg,vars:=Fz vs,keys:=Ky ks }:=by
 by_cases hn:sc=[]
 ·rw[show opt sc=[]by rw[hn];rfl,List.nil_append];have hskip:Fc t (opt rg++vs++Zf ks)=Vt t (opt rg++vs++Zf ks):=by
   have hh:∀x∈(opt rg++vs++Zf ks).head?,Xq x=false:=by
    by_cases hg:rg=[]
    ·rw[show opt rg=[]by rw[hg];rfl,List.nil_append];intro x hx
     rcases Xmv vs ks x hx with h|h
     ·exact Wg (hv.2.1 x h).1
     ·rw[h];decide
    ·rw[show opt rg=[rg]by unfold opt;rw[if_neg hg]];intro x hx
     have:rg=x:=by simpa using hx
     rw[←this];exact Ey (hr.resolve_left hg).1
   cases hl:opt rg++vs++Zf ks with
   |nil=>rfl
   |cons x ps =>
    rw[hl]at hh;simp only[Fc];rw[if_neg (by rw[hh x rfl];decide)]
  rw[hskip,Qwh rg vs ks t hr h0 h1 h2 hk hv,hn,←h3]
 ·rw[show opt sc=[sc]by unfold opt;rw[if_neg hn]];have hs2:=hs.resolve_left hn;show Fc t (sc::(opt rg++vs++Zf ks))=_;simp only[Fc];rw[if_pos hs2.1,hs2.2,Qwh rg vs ks { t with script:=sc } hr h0 h1 h2 hk hv]
theorem Xwj (t:Tg)(h:Qcw t)(ks:List (Str×Str))(hk:Kg ks):Ww (Gy t ks)=some { t with keys:=Ky ks }:=by
 unfold Gy;simp only[Ww];have hl:Vw (Kx t.lang)=true∧Vh (Kx t.lang)=t.lang:=by
  unfold Kx
  by_cases h0:t.lang=[]
  ·rw[if_pos h0,h0];decide
  ·rw[if_neg h0]
   obtain⟨h1,h2,h3⟩:=h.lang.resolve_left h0
   refine⟨h1,?_⟩
   unfold Vh;rw[h2,if_neg h3]
 rw[if_pos hl.1,hl.2,Zsj t.script t.region t.vars ks _ h.script h.region rfl rfl rfl rfl hk h.vars,h.vsort]
end
section
def Zsk (x:Res):Prop:=(x.err=0→x.pos=0)∧(x.err≠0→x.tag=Tg.zero)
theorem Dg {e:Nat}{r:Rd}(h:e≠0):Zsk (bad e r):=⟨fun h2=>absurd h2 h,fun _=>rfl⟩
theorem Zbv (t:Tg):Zsk ⟨t,0,0⟩:=⟨fun _=>rfl,fun h=>absurd rfl h⟩
theorem Zkv:∀(n:Nat)(t:Tg)(r:Rd),17≤n+t.keys.length→t.keys.length≤16→Zsk (Cj n t r)
 |0,t,r,hn,hk=>by omega
 |n+1,t,r,hn,hk=>by
  unfold Cj
  split
  ·split
   ·exact Dg (by decide)
   ·split
    ·exact Dg (by decide)
    ·exact Zkv n _ _ (by simp;omega) (by simp;omega)
  ·split
   ·exact Zbv _
   ·exact Dg (by decide)
theorem tail_fine (t:Tg)(r:Rd)(hk:t.keys=[]):Zsk (Ud t r):=by
 unfold Ud
 split
 ·exact Zbv _
 ·split
  ·split
   ·exact Zkv 17 _ _ (by simp) (by simp[hk])
   ·exact Dg (by decide)
  ·exact Dg (by decide)
theorem Qjz:∀(n:Nat)(t:Tg)(r:Rd),9≤n+t.vars.length→t.vars.length≤8→t.keys=[]→Zsk (Cl n t r)
 |0,t,r,hn,hk,_=>by omega
 |n+1,t,r,hn,hk,h0=>by
  unfold Cl
  split
  ·split
   ·exact Dg (by decide)
   ·split
    ·exact Dg (by decide)
    ·exact Qjz n _ _ (by simp;omega) (by simp;omega) h0
  ·exact tail_fine t r h0
theorem Qwg (t:Tg)(r:Rd)(h1:t.vars=[])(h2:t.keys=[]):Zsk (Fk t r):=by
 unfold Fk
 split
 ·exact Qjz 9 _ _ (by simp) (by simp[h1]) h2
 ·exact Qjz 9 _ _ (by omega) (by simp[h1]) h2
theorem Zsv (t:Tg)(r:Rd)(h1:t.vars=[])(h2:t.keys=[]):Zsk (Bf t r):=by
 unfold Bf
 split
 ·exact Qwg _ _ h1 h2
 ·exact Qwg _ _ h1 h2
theorem Wb (s:Str):Zsk (Xp s):=by
 unfold Xp
 split
 ·exact⟨fun h=>by simp at h,fun _=>rfl⟩
 ·split
  ·exact Zbv _
  ·split
   ·exact Zsv _ _ rfl rfl
   ·exact Dg (by decide)
structure Df (t:Tg):Prop where
 canon:Qcw t
 short:sz (Cy t)≤129
theorem Zsw:Ky []=[]:=by simp[Ky]
theorem srtS_nil:Fz []=[]:=by simp[Fz]
theorem Xwk:Qcw Tg.zero:=⟨Or.inl rfl,Or.inl rfl,Or.inl rfl,Vl.nil,srtS_nil,Kg.nil,Zsw⟩
theorem Df.zero:Df Tg.zero:=⟨Xwk,by decide⟩
theorem Df.vars {t:Tg}(h:Df t):t.vars.length≤8:=h.canon.vars.2.2
theorem Df.keys {t:Tg}(h:Df t):t.keys.length≤16:=h.canon.keys.2.2
theorem Df.write {t:Tg}(h:Df t):(Kj t).length≤128:=by
 rw[Xmj t h.canon]
 have:=h.short
 have h2:=Xmz (Kx t.lang) (opt t.script++opt t.region++t.vars++Zf t.keys);unfold Cy at this ⊢
 omega
theorem Df.bare {t:Tg}(h:Df t):Df (Fy t):=by
 refine⟨⟨h.canon.lang,h.canon.script,h.canon.region,h.canon.vars,h.canon.vsort,Kg.nil,Zsw⟩,?_⟩
 have:=h.short
 unfold Cy at this ⊢;show sz (Kx t.lang::(opt t.script++opt t.region++t.vars++Zf []))≤129;rw[Kq,Zg]at *
 have:sz (Zf [])=0:=rfl
 omega
theorem Zbw (s:Str)(h:(Xp s).err=0):Df (Xp s).tag:=by
 have h1:=Zfg s;unfold okR at h1;rw[if_pos h]at h1
 by_cases h2:128<s.length
 ·rw[if_pos h2]at h1;cases h1
 ·rw[if_neg h2]at h1
  by_cases h3:lower s=Qs
  ·rw[if_pos h3]at h1;rw[Option.some.inj h1];exact Df.zero
  ·rw[if_neg h3]at h1
   obtain⟨h4,h5⟩:=Xwx _ _ h1.symm
   refine⟨h4,?_⟩
   by_cases hs:s=[]
   ·subst hs;cases h1
   ·rw[subs_sz s hs]at h5
    omega
theorem not_root (p:Str)(ps:List Str)(h:Vw p=true):¬lower (Lib.join (p::ps) [45])=Qs:=by
 intro he;rw[Uz]at he
 cases ps with
 |nil =>
  rw[Xwq,List.append_nil]at he;have h1:=(Wh h).2;have h2:=congrArg List.length he;rw[Xt]at h2
  have:Qs.length=4:=rfl
  omega
 |cons q qs =>
  rw[Bn]at he
  have:(45:UInt8)∈lower (p++45::(q++jt qs)):=by
   unfold lower;exact List.mem_map.2 ⟨45,by simp,by decide⟩
  rw[he]at this
  revert this
  decide
theorem good_read (t:Tg)(h:Df t)(ks:List (Str×Str))(hp:ks.Perm t.keys):Xp (Lib.join (Gy t ks) [45])=⟨t,0,0⟩:=by
 have hk:Kg ks:=⟨(hp.map _).nodup_iff.2 h.canon.keys.1,fun p hq=>h.canon.keys.2.1 p (hp.mem_iff.1 hq),by rw[hp.length_eq];exact h.canon.keys.2.2⟩;have h1:=Zfg (Lib.join (Gy t ks) [45]);have h2:=Xwj t h.canon ks hk;have h3:(Rd.first (Lib.join (Gy t ks) [45])).subs=Gy t ks:=Zjh _ _ (head_ne _) (clean_K t h.canon ks hk.2.1);have h4:(Lib.join (Gy t ks) [45]).length≤128:=by
  have h5:=Xmz (Kx t.lang) (opt t.script++opt t.region++t.vars++Zf ks);have h6:=h.short;unfold Cy at h6;unfold Gy;rw[Kq,Zg,Qcy hp]at h5;rw[Kq,Zg]at h6
  omega
 have h5:¬lower (Lib.join (Gy t ks) [45])=Qs:=by
  refine not_root _ _ ?_;unfold Kx
  by_cases h0:t.lang=[]
  ·rw[if_pos h0];decide
  ·rw[if_neg h0];exact(h.canon.lang.resolve_left h0).1
 have h6:Ky ks=t.keys:=by
  rw[←h.canon.ksort];have hs:=Mq t.keys
  exact(Rt ks (Ky t.keys) ((Vg _).trans hp.symm) hk.1 hs).symm
 rw[if_neg (by omega),if_neg h5,h3,h2,h6]at h1;have h7:=Wb (Lib.join (Gy t ks) [45]);unfold okR at h1
 by_cases he:(Xp (Lib.join (Gy t ks) [45])).err=0
 ·rw[if_pos he]at h1;have h8:=h7.1 he;have h9:=Option.some.inj h1;generalize Xp (Lib.join (Gy t ks) [45])=x at *
  cases x;simp only at *;rw[he,h8,h9]
 ·rw[if_neg he]at h1;cases h1
theorem Uj (t:Tg)(h:Df t):Xp (Kj t)=⟨t,0,0⟩:=by
 rw[Xmj t h.canon];exact good_read t h t.keys (List.Perm.refl _)
theorem Xwv (t:Tg)(h:Df t):Wk t=0:=by
 unfold Wk;rw[Uj t h,if_neg]
 simp[Xvq]
theorem Nd (t:Tg)(h:Df t):Sk t=(Hh (Kj (Fy t)),0):=by
 unfold Sk;rw[if_pos (Xwv t h)];rfl
theorem Md (t:Tg)(h:Df t):Xp (Hh (Kj (Fy t)))=⟨Fy t,0,0⟩:=by
 unfold Hh
 by_cases hu:Kj (Fy t)=Qth
 ·rw[if_pos hu];have h1:=Uj _ h.bare;have h2:=Uj _ Df.zero;have h3:Kj Tg.zero=Qth:=by decide
  rw[hu]at h1;rw[h3,h1]at h2;rw[h2]
  rfl
 ·rw[if_neg hu];exact Uj _ h.bare
def Qj (n:Str):Bool:=(Xp n).err==0&&((Sk (Xp n).tag).2==0&&(Sk (Xp n).tag).1==n)
theorem Qch (t:Tg)(h:Df t):Qj (Hh (Kj (Fy t)))=true:=by
 unfold Qj;rw[Md t h,Nd _ h.bare]
 simp[Fy]
end
section
def Jb (t:Tg):Tg :=
 if t.vars≠[]then { t with vars:=t.vars.take (t.vars.length-1) }else if t.region≠[]then { t with region:=[] }else if t.script≠[]then { t with script:=[] }else { t with lang:=[] }
def Xww (s:Str):Nat:=if s=[]then 0 else 1
def depth (t:Tg):Nat:=t.vars.length+(Xww t.region+(Xww t.script+Xww t.lang))
def Gf (s:Str):Tg:=(Xp s).tag
def Hd (s:Str):Nat:=depth (Gf s)
def Vj (s:Str):Str×Bool:=if Qj s=true∧s≠Qs then((Sk (Jb (Gf s))).1,(Sk (Jb (Gf s))).2==0) else([],false)
theorem Dd {s:Str}(h:Qj s=true):(Xp s).err=0∧Df (Gf s)∧(Gf s).keys=[]∧Hh (Kj (Gf s))=s:=by
 unfold Qj at h;rw[Bool.and_eq_true,Bool.and_eq_true,beq_iff_eq,beq_iff_eq,beq_iff_eq]at h
 obtain⟨h1,h2,h3⟩:=h
 have hg:=Zbw s h1;rw[Nd _ hg]at h3;simp only at h3;have h4:=Md _ hg;rw[h3]at h4;have h5:Gf s=Fy (Gf s):=by
  show(Xp s).tag=Fy (Xp s).tag
  have:=congrArg Res.tag h4
  exact this
 refine⟨h1,hg,by rw[h5];rfl,?_⟩
 rw[h5];exact h3
theorem good_lang {t:Tg}(h:Df t)(hk:t.keys=[])(hs:t.script=[])(hr:t.region=[])(hv:t.vars=[]):Df { t with lang:=[] }:=by
 refine⟨⟨Or.inl rfl,h.canon.script,h.canon.region,h.canon.vars,h.canon.vsort,h.canon.keys,h.canon.ksort⟩,?_⟩
 unfold Cy;simp only[hk,hs,hr,hv,Ew]
 decide
theorem Sf {t:Tg}(h:Df t)(hk:t.keys=[]):Df (Jb t)∧(Jb t).keys=[]:=by
 have hp:=h.short;unfold Cy at hp;rw[Kq,Zg,Zg,Zg]at hp;unfold Jb
 by_cases h1:t.vars=[]
 ·rw[if_neg (by simp[h1])]
  by_cases h2:t.region=[]
  ·rw[if_neg (by simp[h2])]
   by_cases h3:t.script=[]
   ·rw[if_neg (by simp[h3])]
    exact⟨good_lang h hk h3 h2 h1,hk⟩
   ·rw[if_pos h3]
    refine⟨⟨⟨h.canon.lang,Or.inl rfl,h.canon.region,h.canon.vars,h.canon.vsort,h.canon.keys,h.canon.ksort⟩,?_⟩,hk⟩
    unfold Cy;rw[Kq,Zg,Zg,Zg];simp only[Ew,Wy]
    omega
  ·rw[if_pos h2]
   refine⟨⟨⟨h.canon.lang,h.canon.script,Or.inl rfl,h.canon.vars,h.canon.vsort,h.canon.keys,h.canon.ksort⟩,?_⟩,hk⟩
   unfold Cy;rw[Kq,Zg,Zg,Zg];simp only[Ew,Wy]
   omega
 ·rw[if_pos h1];have hd:=List.take_append_drop (t.vars.length-1) t.vars;have hz:sz (t.vars.take (t.vars.length-1))≤sz t.vars:=by
   conv=>rhs;rw[←hd,Zg]
   omega
  have hv:=h.canon.vars;have hs:Fz (t.vars.take (t.vars.length-1))=t.vars.take (t.vars.length-1):=by
   have h5:=Qww t.vars;rw[h.canon.vsort]at h5;exact List.mergeSort_of_pairwise (h5.sublist (List.take_sublist _ _))
  refine⟨⟨⟨h.canon.lang,h.canon.script,h.canon.region,⟨hv.1.sublist (List.take_sublist _ _),fun v hm=>hv.2.1 v (List.mem_of_mem_take hm),?_⟩,hs,h.canon.keys,h.canon.ksort⟩,?_⟩,hk⟩
  ·have:=hv.2.2;rw[List.length_take];omega
  ·unfold Cy;rw[Kq,Zg,Zg,Zg]
   simp only
   omega
theorem Nc {s:Str}(h:s≠[]):Xww s=1:=if_neg h
theorem Qcg:Xww []=0:=rfl
theorem Zby {t:Tg}(h:depth t≠0):depth (Jb t)+1=depth t:=by
 unfold Jb
 by_cases h1:t.vars=[]
 ·rw[if_neg (by simp[h1])]
  by_cases h2:t.region=[]
  ·rw[if_neg (by simp[h2])]
   by_cases h3:t.script=[]
   ·rw[if_neg (by simp[h3])];unfold depth at h ⊢;simp only[h1,h2,h3,Qcg,List.length_nil]at h ⊢
    by_cases h4:t.lang=[]
    ·rw[h4]at h;exact absurd rfl h
    ·rw[Nc h4]
   ·rw[if_pos h3];unfold depth;simp only[Qcg,Nc h3]
    omega
  ·rw[if_pos h2];unfold depth;simp only[Qcg,Nc h2]
   omega
 ·rw[if_pos h1]
  have:0<t.vars.length:=List.length_pos_iff.2 h1
  unfold depth;simp only[List.length_take]
  omega
theorem Xwy {t:Tg} (h:depth t=0) (hk:t.keys=[]):t=Tg.zero := by
  unfold depth at h
  have h1:t.vars=[] := List.length_eq_zero_iff.1 (by omega)
  have h2 : t.region = [] := by by_cases e : t.region = []; · exact e
                                · rw[Nc e]at h;omega
  have h3 : t.script = [] := by by_cases e : t.script = []; · exact e
                                · rw[Nc e]at h;omega
  have h4 : t.lang = [] := by by_cases e : t.lang = []; · exact e
                              · rw[Nc e]at h;omega
  cases t
  simp only at *
  subst h1;subst h2;subst h3;subst h4;subst hk;rfl
theorem depth_le {s:Str}(h:Qj s=true):Hd s≤11:=by
 have:=(Dd h).2.1.vars
 have hl:∀x:Str,Xww x≤1:=fun x=>by unfold Xww;split <;> omega
 have h1:=hl (Gf s).region;have h2:=hl (Gf s).script;have h3:=hl (Gf s).lang;unfold Hd depth
 omega
theorem Zkw:Hh (Kj (Fy Tg.zero))=Qs:=by decide
theorem Xwh:Qj Qs=true:=by rw[←Zkw];exact Qch _ Df.zero
theorem Qmq {s:Str}(h:Qj s=true)(hd:Hd s=0):s=Qs:=by
 obtain⟨_,_,hk,hn⟩:=Dd h
 rw[Xwy hd hk]at hn;rw[←hn];exact Zkw
theorem Sd {s:Str}(h:Qj s=true)(hr:s≠Qs):∃p,Vj s=(p,true)∧Qj p=true∧Hd p+1=Hd s:=by
 obtain⟨_,hg,hk,hn⟩:=Dd h
 obtain⟨hg2,hk2⟩:=Sf hg hk
 refine⟨Hh (Kj (Fy (Jb (Gf s)))),?_,Qch _ hg2,?_⟩
 ·unfold Vj;rw[if_pos ⟨h,hr⟩,Nd _ hg2];rfl
 ·have hq:Gf (Hh (Kj (Fy (Jb (Gf s)))))=Fy (Jb (Gf s)):=congrArg Res.tag (Md _ hg2);unfold Hd;rw[hq];have hd:depth (Gf s)≠0:=fun e=>hr (Qmq h e)
  have:=Zby hd
  rw[←this];rfl
theorem Dm {s:Str}(h:¬(Qj s=true∧s≠Qs)):Vj s=([],false):=by unfold Vj;rw[if_neg h]
def look:List (Str×Str)→Str→Option Str
 |[],_=>none
 |p::l,k=>if p.1=k then some p.2 else look l k
theorem Qmz {l:List (Str×Str)}{k v:Str}(h:look l k=some v):(k,v)∈l:=by
 induction l with
 |nil=>cases h
 |cons p l ih =>
  unfold look at h
  split at h
  ·rename_i hk
   subst hk
   cases h;exact List.mem_cons_self
  ·exact List.mem_cons_of_mem _ (ih h)
theorem Zsy (l m:List (Str×Str))(k:Str):look (l++m) k=(look l k).or (look m k):=by
 induction l with
 |nil=>simp[look]
 |cons p l ih=>rw[List.cons_append,look,look];split <;> simp_all
def Vq (D:List (Str×Str))(s:Str):Str×Bool:=match look D s with
 |some p=>(p,true)
 |none=>Vj s
def Vn (D:List (Str×Str))(s:Str):Option Str:=if(Vq D s).2=true then some (Vq D s).1 else none
def iter (D:List (Str×Str)):Nat→Str→Option Str
 |0,s=>some s
 |n+1,s=>(iter D n s).bind (Vn D)
theorem Sc (D:List (Str×Str))(m n:Nat)(s:Str):iter D (m+n) s=(iter D m s).bind (iter D n):=by
 induction n with
 |zero=>simp[iter]
 |succ n ih=>rw[←Nat.add_assoc,iter,ih];cases iter D m s <;> simp[iter]
def Gh (D:List (Str×Str)):Prop:=∀p∈D,Qj p.1=true∧Qj p.2=true∧p.1≠Qs
theorem Wd {D:List (Str×Str)}(hD:Gh D){s t:Str}(h:Vn D s=some t):Qj t=true:=by
 unfold Vn Vq at h
 cases hl:look D s with
 |some p=>rw[hl]at h;simp at h;subst h;exact(hD _ (Qmz hl)).2.1
 |none =>
  rw[hl]at h;simp only at h
  by_cases hp:Qj s=true∧s≠Qs
  ·obtain⟨p,h1,h2,_⟩:=Sd hp.1 hp.2
   rw[h1]at h
   simp at h
   subst h;exact h2
  ·rw[Dm hp]at h;simp at h
theorem step_some {D:List (Str×Str)}(hD:Gh D){s:Str}(h:Qj s=true)(hr:s≠Qs):∃t,Vn D s=some t:=by
 unfold Vn Vq
 cases hl:look D s with
 |some p=>exact⟨p,rfl⟩
 |none =>
  obtain⟨p,h1,_⟩:=Sd h hr
  exact⟨p,by simp only;rw[h1];rfl⟩
theorem Xwg {D:List (Str×Str)}{s t:Str}(hl:look D s=none)(h:Vn D s=some t):Hd t+1=Hd s:=by
 unfold Vn Vq at h;rw[hl]at h;simp only at h
 by_cases hp:Qj s=true∧s≠Qs
 ·obtain⟨p,h1,_,h3⟩:=Sd hp.1 hp.2
  rw[h1]at h
  simp at h
  subst h;exact h3
 ·rw[Dm hp]at h;simp at h
def Rc:Nat→Str→List Str
 |0,s=>[s]
 |n+1,s=>s::(if(Vj s).2=true then Rc n (Vj s).1 else [])
theorem Wc (n:Nat)(s:Str):s∈Rc n s:=by cases n <;> simp[Rc]
theorem Zky:∀(n:Nat)(s:Str),(Rc n s).length≤n+1
 |0,s=>by simp[Rc]
 |n+1,s=>by
  rw[Rc,List.length_cons]
  split
  ·have:=Zky n (Vj s).1;omega
  ·simp
theorem Qmx:∀(n:Nat)(s x:Str),Qj s=true→Hd s≤n→x∈Rc n s→(Vj x).2=true→(Vj x).1∈Rc n s
 |0,s,x,hs,hd,hx,hp=>by
  simp[Rc]at hx
  subst hx;rw[Dm (fun h=>h.2 (Qmq hs (by omega)))]at hp
  cases hp
 |n+1,s,x,hs,hd,hx,hp=>by
  rw[Rc]at hx ⊢
  by_cases h:Qj s=true∧s≠Qs
  ·obtain⟨p,h1,h2,h3⟩:=Sd h.1 h.2
   rw[h1]at hx ⊢;simp only[if_true]at hx ⊢
   rcases List.mem_cons.1 hx with rfl|hx
   ·rw[h1];exact List.mem_cons_of_mem _ (Wc _ _)
   ·exact List.mem_cons_of_mem _ (Qmx n p x h2 (by omega) hx hp)
  ·rw[Dm h]at hx ⊢
   simp at hx
   subst hx;rw[Dm h]at hp
   cases hp
def reach (D:List (Str×Str))(s:Str):List Str:=(s::D.map (·.2)).flatMap (Rc 11)
theorem Zkh (D:List (Str×Str))(s:Str):(reach D s).length≤12 * (D.length+1):=by
 unfold reach;have h:∀l:List Str,(l.flatMap (Rc 11)).length≤12 * l.length:=by
  intro l
  induction l with
  |nil=>simp
  |cons x l ih=>rw[List.flatMap_cons,List.length_append,List.length_cons];have:=Zky 11 x;omega
 have:=h (s::D.map (·.2))
 simpa using this
theorem Xyq (D:List (Str×Str))(s:Str):s∈reach D s:=by
 unfold reach;rw[List.flatMap_cons];exact List.mem_append_left _ (Wc _ _)
theorem Xyz {D:List (Str×Str)}(hD:Gh D){s x y:Str}(hs:Qj s=true)(hx:x∈reach D s)(h:Vn D x=some y):y∈reach D s:=by
 unfold reach at hx ⊢;unfold Vn Vq at h
 cases hl:look D x with
 |some p =>
  rw[hl]at h
  simp at h
  subst h;refine List.mem_flatMap.2 ⟨p,List.mem_cons_of_mem _ (List.mem_map.2 ⟨_,Qmz hl,rfl⟩),Wc _ _⟩
 |none =>
  rw[hl]at h;simp only at h
  split at h
  ·rename_i hp
   cases h
   obtain⟨z,hz,hx2⟩:=List.mem_flatMap.1 hx
   have hzn:Qj z=true:=by
    rcases List.mem_cons.1 hz with rfl|hz
    ·exact hs
    ·obtain⟨q,hq,rfl⟩:=List.mem_map.1 hz
     exact(hD q hq).2.1
   exact List.mem_flatMap.2 ⟨z,hz,Qmx 11 z x hzn (depth_le hzn) hx2 hp⟩
  ·cases h
theorem Pg {D:List (Str×Str)}(hD:Gh D){s:Str}(hs:Qj s=true):∀(n:Nat)(x:Str),iter D n s=some x→x∈reach D s
 |0,x,h=>by cases h;exact Xyq D s
 |n+1,x,h=>by
  rw[iter,Option.bind_eq_some_iff]at h
  obtain⟨y,h1,h2⟩:=h
  exact Xyz hD hs (Pg hD hs n y h1) h2
theorem Qmj {D:List (Str×Str)}(hD:Gh D){s:Str}(hs:Qj s=true):∀(n:Nat)(x:Str),iter D n s=some x→Qj x=true
 |0,x,h=>by cases h;exact hs
 |n+1,x,h=>by
  rw[iter,Option.bind_eq_some_iff]at h
  obtain⟨y,h1,h2⟩:=h
  exact Wd hD h2
theorem Dp:∀(l R:List Str),l.Nodup→(∀x∈l,x∈R)→l.length≤R.length
 |[],R,_,_=>Nat.zero_le _
 |x::l,R,hn,hs=>by
  rw[List.nodup_cons]at hn;have hx:=hs x List.mem_cons_self;have h2:=Dp l (R.erase x) hn.2 fun y hy=>(List.mem_erase_of_ne (fun e=>hn.1 (by rw[←e];exact hy))).2 (hs y (List.mem_cons_of_mem _ hy))
  rw[List.length_erase_of_mem hx]at h2
  have:0<R.length:=List.length_pos_of_mem hx
  rw[List.length_cons];omega
theorem twice (f:Nat→Str)(R:List Str)(h:∀n,f n∈R):∃i p,f (i+(p+1))=f i:=by
 by_cases hc:((List.range (R.length+1)).map f).Nodup
 ·have:=Dp _ R hc (fun x hx=>by obtain⟨i,_,rfl⟩:=List.mem_map.1 hx;exact h i)
  simp at this
  omega
 ·by_cases hall:∀i j,i<j→f j≠f i
  ·exfalso
   apply hc
   have:List.Pairwise (fun a b:Nat=>a<b) (List.range (R.length+1)):=List.pairwise_lt_range
   exact List.Pairwise.map f (fun a b hab=>Ne.symm (hall a b hab)) this
  ·have:∃i j,i<j∧f j=f i:=by
    apply Classical.byContradiction
    intro hn;exact hall fun i j hij he=>hn ⟨i,j,hij,he⟩
   obtain⟨i,j,hij,he⟩:=this
   exact⟨i,j-i-1,by rw[show i+(j-i-1+1)=j by omega];exact he⟩
def Ch (D:List (Str×Str))(k:Str):Prop:=∃n,iter D (n+1) k=some k
theorem ends {D:List (Str×Str)}(hD:Gh D)(hr:∀p∈D,¬Ch D p.1){s:Str}(hs:Qj s=true):∃n,iter D n s=some Qs:=by
 apply Classical.byContradiction
 intro hn;have hno:∀n,iter D n s≠some Qs:=fun n e=>hn ⟨n,e⟩
 have hall:∀n,∃x,iter D n s=some x:=by
  intro n
  induction n with
  |zero=>exact⟨s,rfl⟩
  |succ n ih =>
   obtain⟨x,hx⟩:=ih
   have hxr:x≠Qs:=fun e=>hno n (by rw[hx,e])
   obtain⟨t,ht⟩:=step_some hD (Qmj hD hs n x hx) hxr
   exact⟨t,by rw[iter,hx];exact ht⟩
 obtain⟨f,hf⟩:∃f:Nat→Str,∀n,iter D n s=some (f n):=⟨fun n=>(hall n).choose,fun n=>(hall n).choose_spec⟩
 obtain⟨i,p,hip⟩:=twice f (reach D s) (fun n=>Pg hD hs n _ (hf n))
 have hgo:∀m n,iter D n (f m)=some (f (m+n)):=fun m n=>by
  have:=Sc D m n s
  rw[hf,hf]at this;exact this.symm
 by_cases hc:∃q v,look D (f (i+q))=some v
 ·obtain⟨q,v,hq⟩:=hc
  refine hr _ (Qmz hq) ⟨p,?_⟩;show iter D (p+1) (f (i+q))=some (f (i+q));rw[hgo];have h1:=hgo (i+(p+1)) q;rw[hip,hgo]at h1;rw[show i+q+(p+1)=i+(p+1)+q by omega];exact h1.symm
 ·have hlook:∀q,look D (f (i+q))=none:=by
   intro q
   cases h:look D (f (i+q)) with
   |none=>rfl
   |some v=>exact absurd ⟨q,v,h⟩ hc
  have hd:∀q,Hd (f (i+q))+q=Hd (f i):=by
   intro q
   induction q with
   |zero=>rfl
   |succ q ih =>
    have h1:=hgo (i+q) 1;have h2:Vn D (f (i+q))=some (f (i+q+1)):=by simpa[iter]using h1
    have h3:=Xwg (hlook q) h2;have h4:Hd (f (i+(q+1)))=Hd (f (i+q+1)):=rfl
    omega
  have:=hd (p+1)
  rw[hip]at this
  omega
def Up (D:List (Str×Str)):Str→List Str→Prop
 |_,[]=>False
 |s,[x]=>x=s∧s=Qs
 |s,x::y::l=>x=s∧s≠Qs∧Vn D s=some y∧Up D y (y::l)
theorem Zbh (D:List (Str×Str)):Up D Qs [Qs]:=⟨rfl,rfl⟩
theorem Uk {D:List (Str×Str)}:∀{l:List Str}{s:Str},Up D s l→∃r,l=s::r
 |[],_,h=>h.elim
 |[x],s,h=>⟨[],by rw[h.1]⟩
 |x::y::l,s,h=>⟨y::l,by rw[h.1]⟩
theorem up_cons {D:List (Str×Str)}{s t:Str}{l:List Str}(hr:s≠Qs)(h:Vn D s=some t)(hl:Up D t l):Up D s (s::l):=by
 obtain⟨r,rfl⟩:=Uk hl
 exact⟨rfl,hr,h,hl⟩
theorem Qmk {D:List (Str×Str)}(hD:Gh D):∀(n:Nat)(s:Str),iter D n s=some Qs→∃l,Up D s l
 |0,s,h=>by cases h;exact⟨_,Zbh D⟩
 |n+1,s,h=>by
  by_cases hr:s=Qs
  ·subst hr;exact⟨_,Zbh D⟩
  ·rw[show n+1=1+n by omega,Sc,Option.bind_eq_some_iff]at h
   obtain⟨t,h1,h2⟩:=h
   obtain⟨l,hl⟩:=Qmk hD n t h2
   exact⟨_,up_cons hr (by simpa[iter]using h1) hl⟩
theorem up_ex {D:List (Str×Str)}(hD:Gh D)(hr:∀p∈D,¬Ch D p.1){s:Str}(hs:Qj s=true):∃l,Up D s l:=by
 obtain⟨n,hn⟩:=ends hD hr hs
 exact Qmk hD n s hn
theorem Zbg {D:List (Str×Str)}:∀{l m:List Str}{s:Str},Up D s l→Up D s m→l=m
 |[],_,_,h,_=>h.elim
 |[x],m,s,h,h2=>by
  match m,h2 with
  |[y],h2=>rw[h.1,h2.1]
  |y::z::m,h2=>exact absurd h.2 h2.2.1
 |x::y::l,m,s,h,h2=>by
  match m,h2 with
  |[z],h2=>exact absurd h2.2 h.2.1
  |z::u::m,h2 =>
   have h3:=h.2.2.1;rw[h2.2.2.1]at h3
   cases h3;rw[h.1,h2.1,Zbg h.2.2.2 h2.2.2.2]
theorem Eh {D:List (Str×Str)}:∀{l:List Str}{s:Str}(i:Nat)(hi:i<l.length),Up D s l→Up D l[i] (l.drop i)
 |[],_,_,hi,h=>h.elim
 |[x],s,0,hi,h=>by simpa[h.1]using h
 |[x],s,i+1,hi,h=>by simp at hi
 |x::y::l,s,0,hi,h=>by
  have:=h.1
  subst this;exact h
 |x::y::l,s,i+1,hi,h=>by
  have:=Eh i (by simpa using hi) h.2.2.2
  simpa using this
theorem Qmv {D:List (Str×Str)}(hD:Gh D):∀{l:List Str}{s:Str},Qj s=true→Up D s l→∀x∈l,Qj x=true
 |[],_,_,h,_,_=>h.elim
 |[x],s,hs,h,z,hz=>by
  have:=h.1
  subst this;rw[List.mem_singleton.1 hz];exact hs
 |x::y::l,s,hs,h,z,hz=>by
  have:=h.1
  subst this
  rcases List.mem_cons.1 hz with rfl|hz
  ·exact hs
  ·exact Qmv hD (Wd hD h.2.2.1) h.2.2.2 z hz
theorem up_nodup {D:List (Str×Str)}{l:List Str}{s:Str}(h:Up D s l):∀i j,(hj:j<l.length)→(hij:i<j)→l[i]≠l[j]:=by
 intro i j hj hij he;have h1:=Eh i (by omega) h;have h2:=Eh j hj h;rw[he]at h1;have h3:=congrArg List.length (Zbg h1 h2);simp only[List.length_drop]at h3
 omega
def Fm (done:List (Str×Str)):List (Str×Str)→Option (Nat×Nat)
 |[]=>none
 |p::r=>if(Qj p.1=true∧Qj p.2=true)∧p.1≠Qs then(if look done p.1=none then Fm (done++[p]) r else some (211,done.length))else some (2,done.length)
theorem Zsh {done r:List (Str×Str)}(h:Fm done r=none)(hd:Gh done):Gh (done++r):=by
 induction r generalizing done with
 |nil=>rw[List.append_nil];exact hd
 |cons p r ih =>
  unfold Fm at h
  split at h
  ·rename_i hp
   split at h
   ·have:=ih h (fun q hq=>by
     rcases List.mem_append.1 hq with hq|hq
     ·exact hd q hq
     ·rw[List.mem_singleton.1 hq];exact⟨hp.1.1,hp.1.2,hp.2⟩)
    rw[List.append_assoc]at this;exact this
   ·cases h
  ·cases h
def Pf (l:List (Str×Str))(e i:Nat):Prop :=
 (Fm [] l=some (e,i))∨(Fm [] l=none∧e=210∧(∃p,l[i]?=some p∧Ch l p.1)∧∀j p,j<i→l[j]?=some p→¬Ch l p.1)∨(Fm [] l=none∧e=0∧i=0∧∀p∈l,¬Ch l p.1)
end
section
open Go.Lib
abbrev Al:=Str×Str
theorem Uv {a b r:Str}(h:Yf a b=some r):∃l m,Qy a=some (m++l)∧Qy b=some m∧r=Zk l∧Qy r=some l:=by
 unfold Yf at h
 split at h
 ·next l m h1 h2 =>
  split at h
  ·next hc =>
   refine⟨l.drop m.length,m,?_,h2,(Option.some.inj h).symm,?_⟩
   ·rw[h1]
    conv=>lhs;rw[←List.take_append_drop m.length l,hc.2]
   ·rw[←Option.some.inj h];exact Vs (Qdw h1 _)
  ·cases h
 ·cases h
theorem rest_of {a b:Str}{l m:List Stp}(h1:Qy a=some (m++l))(h2:Qy b=some m):Yf a b=some (Zk l):=by
 unfold Yf;rw[h1,h2]
 simp
theorem Qmw {a b:Str}:inB a b=true↔∃l m,Qy a=some (m++l)∧Qy b=some m:=by
 unfold inB
 constructor
 ·intro h
  obtain⟨r,hr⟩:=Option.isSome_iff_exists.1 h
  obtain⟨l,m,h1,h2,_⟩:=Uv hr
  exact⟨l,m,h1,h2⟩
 ·rintro⟨l,m,h1,h2⟩
  rw[rest_of h1 h2];rfl
theorem Eg:Qy []=some []:=by decide +kernel
theorem in_two {p a b:Str}(h1:inB p a=true)(h2:inB p b=true):inB a b=true∨inB b a=true:=by
 obtain⟨l,m,e1,e2⟩:=Qmw.1 h1
 obtain⟨l',m',e3,e4⟩:=Qmw.1 h2
 rw[e1]at e3;have e5:=Option.some.inj e3
 rcases List.append_eq_append_iff.1 e5 with ⟨c,rfl,_⟩|⟨c,rfl,_⟩
 ·exact Or.inr (Qmw.2 ⟨c,m,e4,e2⟩)
 ·exact Or.inl (Qmw.2 ⟨c,m',e2,e4⟩)
def Gt (a b:Str):Option Str:=match Qy a,Qy b with
 |some l,some m=>Zw (l++m)
 |_,_=>none
theorem Qjx {a b t:Str}(h:Gt a b=some t):∃l m,Qy a=some l∧Qy b=some m∧Qy t=some (l++m)∧Zw (l++m)=some t:=by
 unfold Gt at h
 split at h
 ·next l m h1 h2=>exact⟨l,m,h1,h2,Vs h,h⟩
 ·cases h
theorem join_of {a b:Str}{l m:List Stp}(h1:Qy a=some l)(h2:Qy b=some m):Gt a b=Zw (l++m):=by
 unfold Gt;rw[h1,h2]
def betA (x:Al):Option Al→Bool
 |none=>true
 |some b=>inB x.1 b.1
def Qyq (p:Str)(best:Option Al)(x:Al):Option Al:=if(inB p x.1&&betA x best)=true then some x else best
theorem Qjj {p:Str}{b:Option Al}{x:Al}(h:(inB p x.1&&betA x b)=true):Qyq p b x=some x:=if_pos h
theorem Qjk {p:Str}{b:Option Al}{x:Al}(h:¬(inB p x.1&&betA x b)=true):Qyq p b x=b:=if_neg h
theorem Zsg (p:Str)(b:Option Al)(x:Al):((inB p x.1&&betA x b)=true∧Qyq p b x=some x)∨(¬(inB p x.1&&betA x b)=true∧Qyq p b x=b):=by
 by_cases h:(inB p x.1&&betA x b)=true
 ·exact Or.inl ⟨h,Qjj h⟩
 ·exact Or.inr ⟨h,Qjk h⟩
def Vb (D:List Al)(p:Str):Option Al:=D.foldl (Qyq p) none
theorem Zkg {p:Str}:∀{D:List Al}{b:Option Al}{x:Al},D.foldl (Qyq p) b=some x→b=some x∨(x∈D∧inB p x.1=true)
 |[],b,x,h=>Or.inl h
 |y::D,b,x,h=>by
  rw[List.foldl_cons]at h
  rcases Zkg h with h|⟨h1,h2⟩
  ·rcases Zsg p b y with ⟨hc,e⟩|⟨hc,e⟩
   ·rw[e]at h
    cases h;simp only[Bool.and_eq_true]at hc;exact Or.inr ⟨List.mem_cons_self ..,hc.1⟩
   ·rw[e]at h;exact Or.inl h
  ·exact Or.inr ⟨List.mem_cons_of_mem _ h1,h2⟩
theorem Cx {D:List Al}{p:Str}{x:Al}(h:Vb D p=some x):x∈D∧inB p x.1=true:=by
 rcases Zkg h with h|h
 ·cases h
 ·exact h
theorem find_snoc (D:List Al)(p:Str)(x:Al):Vb (D++[x]) p=Qyq p (Vb D p) x:=by
 unfold Vb;rw[List.foldl_append];rfl
def Ym (D:List Al)(p:Str):Option Str:=match Vb D p with
 |none=>none
 |some x=>(Yf p x.1).bind fun r=>Gt x.2 r
theorem Qjv {D:List Al}{p q:Str}(h:Ym D p=some q):∃x l m n,Vb D p=some x∧x∈D∧Qy p=some (m++l)∧Qy x.1=some m∧Qy x.2=some n∧Qy q=some (n++l)∧Zw (n++l)=some q:=by
 unfold Ym at h
 split at h
 ·cases h
 ·next x hx =>
  obtain⟨r,hr,hj⟩:=Option.bind_eq_some_iff.1 h
  obtain⟨l,m,h1,h2,rfl,h3⟩:=Uv hr
  obtain⟨n,l',h4,h5,h6,h7⟩:=Qjx hj
  rw[h3]at h5
  cases h5
  exact⟨x,l,m,n,hx,(Cx hx).1,h1,h2,h4,h6,h7⟩
theorem lead_path {D:List Al}{p q:Str}(h:Ym D p=some q):Zv q=true:=by
 obtain⟨_,_,_,_,_,_,_,_,_,h,_⟩:=Qjv h
 unfold Zv;rw[h];rfl
def Wp (next one:Al):Bool:=inB one.2 next.1||inB next.1 one.2
theorem lead_fol {D:List Al}{p q:Str}{x y:Al}(hx:Vb D p=some x)(h:Ym D p=some q)(hy:Vb D q=some y):Wp y x=true:=by
 obtain⟨x',l,m,n,h1,_,_,_,h2,h3,_⟩:=Qjv h
 rw[hx]at h1
 cases h1;have i1:inB q x.2=true:=Qmw.2 ⟨l,n,h3,h2⟩;have i2:=(Cx hy).2;unfold Wp;rw[Bool.or_eq_true];exact in_two i1 i2
def Qjw (D:List Al):Nat→Al→Al→Prop
 |0,a,b=>a∈D∧b∈D∧Wp b a=true
 |n+1,a,b=>∃c,Qjw D n a c∧b∈D∧Wp b c=true
def Qmy (D:List Al)(a:Al):Prop:=∃n,Qjw D n a a
def Nm (D:List Al):Str→List Str→Prop
 |_,[]=>False
 |p,[x]=>x=p∧Ym D p=none
 |p,x::y::l=>x=p∧Ym D p=some y∧Nm D y (y::l)
theorem Qmh {D:List Al}:∀{l:List Str}{p:Str},Nm D p l→∃r,l=p::r
 |[],_,h=>h.elim
 |[x],p,h=>⟨[],by rw[h.1]⟩
 |x::y::l,p,h=>⟨y::l,by rw[h.1]⟩
theorem Xmw {D:List Al}:∀{l m:List Str}{p:Str},Nm D p l→Nm D p m→l=m
 |[],_,_,h,_=>h.elim
 |_,[],_,_,h=>h.elim
 |[x],[y],p,h,h2=>by rw[h.1,h2.1]
 |[x],y::z::m,p,h,h2=>by have e:=h2.2.1;rw[h.2]at e;cases e
 |x::z::l,[y],p,h,h2=>by have e:=h.2.1;rw[h2.2]at e;cases e
 |x::y::l,z::u::m,p,h,h2=>by
  have h3:=h.2.1;rw[h2.2.1]at h3
  cases h3;rw[h.1,h2.1,Xmw h.2.2 h2.2.2]
theorem Qmg {D:List Al}:∀{l:List Str}{p:Str},Zv p=true→Nm D p l→∀q∈l,Zv q=true
 |[],_,_,h,_,_=>h.elim
 |[x],p,hp,h,q,hq=>by rw[List.mem_singleton.1 hq,h.1];exact hp
 |x::y::l,p,hp,h,q,hq=>by
  rcases List.mem_cons.1 hq with rfl|hq
  ·rw[h.1];exact hp
  ·exact Qmg (lead_path h.2.1) h.2.2 q hq
def Mk (D:List Al):Nat→Str→Option Str
 |0,p=>some p
 |n+1,p=>(Mk D n p).bind (Ym D)
theorem Qpq (D:List Al):∀(n:Nat)(p q:Str),Ym D p=some q→Mk D (n+1) p=Mk D n q
 |0,p,q,h=>by simp[Mk,h]
 |n+1,p,q,h=>by
  rw[Mk,Qpq D n p q h];rfl
theorem Qyz {D:List Al}:∀(n:Nat)(p:Str),Mk D n p=none→∃l,Nm D p l∧l.length≤n
 |0,p,h=>by cases h
 |n+1,p,h=>by
  cases hl:Ym D p with
  |none=>exact⟨[p],⟨rfl,hl⟩,by simp⟩
  |some q =>
   rw[Qpq D n p q hl]at h
   obtain⟨l,h1,h2⟩:=Qyz n q h
   obtain⟨r,rfl⟩:=Qmh h1
   exact⟨p::q::r,⟨rfl,hl,h1⟩,by simpa using h2⟩
theorem Qpz {D:List Al}{f:Nat→Al}(hf:∀n,f n∈D){N:Nat}(h:∀n,n<N→Wp (f (n+1)) (f n)=true)(i:Nat):∀k,i+k<N→Qjw D k (f i) (f (i+(k+1)))
 |0,hk=>⟨hf _,hf _,h i hk⟩
 |k+1,hk=>⟨_,Qpz hf h i k (by omega),hf _,h _ hk⟩
theorem way_ex {D:List Al} (hn:(D.map (·.1)).Nodup) (hr:∀a ∈ D,¬Qmy D a) (p:Str):∃l,Nm D p l∧l.length≤D.length + 1 := by
  refine Qyz (D.length + 1) p ?_
  cases hc:Mk D (D.length + 1) p with
  |none => rfl
  |some z =>
    exfalso
    have hall:∀k,k≤D.length + 1→∃q,Mk D k p=some q := by
      intro k hk
      obtain ⟨d,hd⟩ : ∃d,d=D.length + 1-k := ⟨_,rfl⟩
      revert k
      induction d with
      | zero => intro k hk hd; have : k = D.length + 1 := by omega
                subst this;exact ⟨z,hc⟩
      |succ d ih =>
        intro k hk hd
        obtain ⟨q,hq⟩ := ih (k + 1) (by omega) (by omega)
        rw[Mk]at hq
        obtain ⟨y,hy,_⟩ := Option.bind_eq_some_iff.1 hq
        exact ⟨y,hy⟩
    have hfind:∀k,k≤D.length→∃q x,Mk D k p=some q∧Vb D q=some x∧(∃q',Mk D (k + 1) p=some q' ∧ Ym D q=some q') := by
      intro k hk
      obtain ⟨q,hq⟩ := hall k (by omega)
      obtain ⟨q',hq'⟩ := hall (k + 1) (by omega)
      have h1 := hq'
      rw[Mk,hq]at h1
      have h2:Ym D q=some q' := h1
      obtain ⟨x,_,_,_,h3,_⟩ := Qjv h2
      exact ⟨q,x,hq,h3,q',hq',h2⟩
    have hDne:D≠[] := by
      rintro rfl
      obtain ⟨q,x,_,h3,_⟩ := hfind 0 (Nat.zero_le _)
      cases h3
    obtain ⟨a0,ha0⟩ := List.exists_mem_of_ne_nil _ hDne
    let f:Nat→Al := fun k => if h:k≤D.length then (hfind k h).choose_spec.choose else a0
    have hf:∀k (h:k≤D.length),∃q,Mk D k p=some q∧Vb D q=some (f k)∧(∃q',Mk D (k + 1) p=some q' ∧ Ym D q=some q') := by
      intro k h
      have := (hfind k h).choose_spec.choose_spec
      refine ⟨_,this.1,?_,this.2.2⟩
      rw[this.2.1]
      show _=some (if h:k≤D.length then _ else _)
      rw[dif_pos h]
    have hfD:∀k,f k ∈ D := by
      intro k
      by_cases h:k≤D.length
      · obtain ⟨q,_,h2,_⟩ := hf k h
        exact (Cx h2).1
      · show (if h:k≤D.length then _ else _) ∈ D
        rw[dif_neg h];exact ha0
    have hfol:∀k,k < D.length→Wp (f (k + 1)) (f k)=true := by
      intro k hk
      obtain ⟨q,h1,h2,q',h3,h4⟩ := hf k (by omega)
      obtain ⟨r,h5,h6,_⟩ := hf (k + 1) (by omega)
      rw[h3]at h5
      cases h5
      exact lead_fol h2 h4 h6
    have htw:∃i j,i < j∧j≤D.length∧f i=f j := by
      apply Classical.byContradiction
      intro hno
      have hnd:((List.range (D.length + 1)).map fun k => (f k).1).Nodup := by
        rw[List.Nodup,List.pairwise_map]
        refine List.Pairwise.imp_of_mem ?_ (List.pairwise_lt_range (n := D.length + 1))
        intro a b ha hb hlt e
        refine hno ⟨a,b,hlt,?_,?_⟩
        · have := List.mem_range.1 hb;omega
        · exact key_one hn (hfD a) (hfD b) e
      have := Dp _ (D.map (·.1)) hnd (fun x hx => by
        obtain ⟨k,_,rfl⟩ := List.mem_map.1 hx
        exact List.mem_map.2 ⟨_,hfD k,rfl⟩)
      rw[List.length_map,List.length_map,List.length_range]at this
      omega
    obtain ⟨i,j,hij,hj,he⟩ := htw
    refine hr (f i) (hfD i) ⟨j-i-1,?_⟩
    have := Qpz hfD hfol i (j-i-1) (by omega)
    rw[show i + (j-i-1 + 1)=j by omega,←he]at this
    exact this
where
 key_one {D:List Al} (hn:(D.map (·.1)).Nodup) {a b:Al} (ha:a∈D) (hb:b∈D) (e:a.1=b.1):a=b:=by
  obtain⟨i,hi,rfl⟩:=List.getElem_of_mem ha
  obtain⟨j,hj,rfl⟩:=List.getElem_of_mem hb
  have h1:(D.map (·.1))[i]'(by simpa using hi)=(D.map (·.1))[j]'(by simpa using hj):=by simpa using e
  have:i=j:=(List.getElem_inj hn).1 h1
  subst this;rfl
def Sm (p:Al):Prop:=Zv p.1=true∧Zv p.2=true∧p.1≠[]∧p.2≠[]
instance (p:Al):Decidable (Sm p):=by unfold Sm;infer_instance
def Pd (done:List Al):List Al→Option (Nat×Nat)
 |[]=>none
 |p::r=>if Sm p then(if p.1∈done.map (·.1)then some (211,done.length)else Pd (done++[p]) r)else some (2,done.length)
theorem badA_none {done r:List Al}(h:Pd done r=none)(hd:(∀p∈done,Sm p)∧(done.map (·.1)).Nodup):(∀p∈done++r,Sm p)∧((done++r).map (·.1)).Nodup:=by
 induction r generalizing done with
 |nil=>rw[List.append_nil];exact hd
 |cons p r ih =>
  unfold Pd at h
  split at h
  ·next hp =>
   split at h
   ·cases h
   ·next hm =>
    have:=ih h ⟨fun q hq=>by
     rcases List.mem_append.1 hq with hq|hq
     ·exact hd.1 q hq
     ·rw[List.mem_singleton.1 hq];exact hp,by
     rw[List.map_append,List.nodup_append]
     refine⟨hd.2,by simp,fun a ha b hb e=>?_⟩
     simp only[List.map_cons,List.map_nil,List.mem_singleton]at hb;subst hb;subst e;exact hm ha⟩
    rw[List.append_assoc]at this;exact this
  ·cases h
theorem Xmy:∀{r done:List Al},(∀p∈r,Sm p)→((done++r).map (·.1)).Nodup→Pd done r=none
 |[],_,_,_=>rfl
 |p::r,done,h,hn=>by
  unfold Pd;rw[if_pos (h p (List.mem_cons_self ..)),if_neg,Xmy (fun q hq=>h q (List.mem_cons_of_mem _ hq)) (by rw[List.append_assoc];exact hn)];intro hm;rw[List.map_append,List.nodup_append]at hn;exact hn.2.2 _ hm _ (List.mem_cons_self ..) rfl
def Np (l:List Al)(e i:Nat):Prop :=
 (Pd [] l=some (e,i))∨(Pd [] l=none∧e=210∧(∃p,l[i]?=some p∧Qmy l p)∧∀j p,j<i→l[j]?=some p→¬Qmy l p)∨(Pd [] l=none∧e=0∧i=0∧∀p∈l,¬Qmy l p)
end
section
open Go.Lib
def Xf (s:Str):Str×Str:=if Zl Xr s then(s.takeWhile Zd,s.dropWhile Zd) else([],s)
theorem Mv (s:Str):s=(Xf s).1++(Xf s).2:=by
 unfold Xf
 split
 ·exact(List.takeWhile_append_dropWhile).symm
 ·rfl
theorem Ztq {s:Str}(h:(Xf s).1≠[]):Xg (Xf s).1=true:=by
 unfold Xf at h ⊢
 split
 ·next hc =>
  simp only[Xg,Bool.and_eq_true]
  refine⟨?_,List.all_takeWhile⟩
  cases s with
  |nil=>exact hc
  |cons c t =>
   have:Zd c=true:=by simp only[Zl]at hc;simp[Zd,hc]
   rw[List.takeWhile_cons,this];exact hc
 ·next hc=>rw[if_neg hc]at h;exact absurd rfl h
theorem Zvq {s:Str}(h:(Xf s).1≠[]):(Xf s).2.length<s.length:=by
 have h1:=congrArg List.length (Mv s);rw[List.length_append]at h1
 have:=List.length_pos_iff.2 h
 omega
def Fp (q:UInt8)(s:Str):Option (Str×Str):=match s.dropWhile (fun c=>c != q) with
 |[]=>none
 |_::r=>if Jf (s.takeWhile (fun c=>c != q))then some (s.takeWhile (fun c=>c != q),r)else none
def Jr:Str→Option (Str×Str)
 |[]=>none
 |c::s=>if c=39∨c=34 then Fp c s else none
theorem Zvz {q:UInt8}{s v r:Str}(h:Fp q s=some (v,r)):Jf v=true∧r.length<s.length∧v.length+r.length+1=s.length:=by
 unfold Fp at h
 split at h
 ·cases h
 ·next c r' he =>
  split at h
  ·next hv =>
   cases h;have h1:=congrArg List.length (List.takeWhile_append_dropWhile (p:=fun c=>c != q) (l:=s));rw[List.length_append,he,List.length_cons]at h1
   exact⟨hv,by omega,by omega⟩
  ·cases h
theorem valueA_ok {s v r:Str}(h:Jr s=some (v,r)):Jf v=true∧r.length<s.length∧v.length≤s.length:=by
 cases s with
 |nil=>cases h
 |cons c s =>
  change (if c=39∨c=34 then Fp c s else none)=some (v,r)at h
  by_cases hc:c=39∨c=34
  ·rw[if_pos hc]at h
   obtain⟨h1,h2,h3⟩:=Zvz h
   exact⟨h1,by rw[List.length_cons];omega,by rw[List.length_cons];omega⟩
  ·rw[if_neg hc]at h;cases h
def Rp (ks:List (Str×Str))(s:Str):Option ((Str×Str)×Str):=match Xx 64 s with
 |none=>none
 |some s2 =>
  if(Xf s2).1∈ks.map (·.1)then none
  else if(Xf s2).1=[]then none
  else match Xx 61 (Xf s2).2 with
   |none=>none
   |some s4=>match Jr s4 with
    |none=>none
    |some (v,s5)=>match Xx 93 s5 with
     |none=>none
     |some s6=>some (((Xf s2).1,v),s6)
theorem Qgj {ks:List (Str×Str)}{s r:Str}{k:Str×Str}(h:Rp ks s=some (k,r)):Xg k.1=true∧Jf k.2=true∧k.1 ∉ ks.map (·.1)∧r.length<s.length∧k.1.length+k.2.length≤s.length:=by
 unfold Rp at h
 split at h
 ·cases h
 next s2 e2 =>
 split at h
 ·cases h
 next hn =>
 split at h
 ·cases h
 next hne =>
 split at h
 ·cases h
 next s4 e4 =>
 split at h
 ·cases h
 next v s5 e5 =>
 split at h
 ·cases h
 next s6 e6 =>
 cases h
 obtain⟨h1,h2,h3⟩:=valueA_ok e5
 have l2:=congrArg List.length (Kh e2);have l4:=congrArg List.length (Kh e4);have l6:=congrArg List.length (Kh e6);have l3:=congrArg List.length (Mv s2);rw[List.length_append]at l3;rw[List.length_cons]at l2 l4 l6
 exact⟨Ztq hne,h1,hn,by omega,by simp only;omega⟩
def keysA:Nat→List (Str×Str)→Str→Option (List (Str×Str)×Str)
 |0,ks,s=>some (ks,s)
 |f+1,ks,s=>match Xx 91 s with
  |none=>some (ks,s)
  |some s1=>match Rp ks s1 with
   |none=>none
   |some (k,s2)=>keysA f (ks++[k]) s2
theorem Qpx:∀(f g:Nat)(ks:List (Str×Str))(s:Str),s.length≤f→s.length≤g→keysA f ks s=keysA g ks s
 |0,0,_,_,_,_=>rfl
 |0,g+1,ks,s,h,_=>by
  obtain rfl:=List.eq_nil_of_length_eq_zero (Nat.le_zero.1 h)
  rfl
 |f+1,0,ks,s,_,h=>by
  obtain rfl:=List.eq_nil_of_length_eq_zero (Nat.le_zero.1 h)
  rfl
 |f+1,g+1,ks,s,h1,h2=>by
  unfold keysA
  cases e1:Xx 91 s with
  |none=>rfl
  |some s1 =>
   simp only
   cases e2:Rp ks s1 with
   |none=>rfl
   |some z =>
    obtain⟨k,s2⟩:=z
    simp only
    have:=(Qgj e2).2.2.2.1
    have l1:=congrArg List.length (Kh e1);rw[List.length_cons]at l1;exact Qpx f g _ _ (by omega) (by omega)
theorem Qpj:∀(f:Nat)(ks:List (Str×Str))(s:Str){l:List (Str×Str)}{r:Str},keysA f ks s=some (l,r)→(∀k∈ks,Xg k.1=true∧Jf k.2=true)→(ks.map (·.1)).Nodup →
  (∀k∈l,Xg k.1=true∧Jf k.2=true)∧(l.map (·.1)).Nodup∧r.length≤s.length
 |0,ks,s,l,r,h,h1,h2=>by cases h;exact⟨h1,h2,Nat.le_refl _⟩
 |f+1,ks,s,l,r,h,h1,h2=>by
  unfold keysA at h
  split at h
  ·cases h;exact⟨h1,h2,Nat.le_refl _⟩
  next s1 e1 =>
  split at h
  ·cases h
  next k s2 e2 =>
  obtain⟨k1,k2,k3,k4,_⟩:=Qgj e2
  have l1:=congrArg List.length (Kh e1);rw[List.length_cons]at l1
  obtain⟨g1,g2,g3⟩:=Qpj f (ks++[k]) s2 h (fun x hx=>by
   rcases List.mem_append.1 hx with hx|hx
   ·exact h1 x hx
   ·rw[List.mem_singleton.1 hx];exact⟨k1,k2⟩) (by
   rw[List.map_append,List.nodup_append]
   refine⟨h2,by simp,fun a ha b hb e=>?_⟩
   simp only[List.map_cons,List.map_nil,List.mem_singleton]at hb;subst hb;subst e;exact k3 ha)
  exact⟨g1,g2,by omega⟩
def Pm:Nat→Str→Option (List Stp)
 |0,_=>none
 |f+1,s =>
  if(Xf s).1=[]then none
  else match keysA (Xf s).2.length [] (Xf s).2 with
   |none=>none
   |some (ks,[])=>some [((Xf s).1,Ky ks)]
   |some (ks,c::s3)=>if c=47 then(Pm f s3).map (fun l=>((Xf s).1,Ky ks)::l)else none
def Hc:Nat→Bool→List Stp→Str→Option (List Stp×Str)
 |0,_,up,s=>some (up,s)
 |f+1,first,up,s =>
  if first||Zl (fun c=>c==46) s then
   if up=[]then none
   else match s with
    |46::46::47::r=>Hc f false up.dropLast r
    |_=>none
  else some (up,s)
def Gj (g s:Str):Str ⊕ Nat:=match Qy g with
 |none=>.inr 2
 |some []=>.inr 2
 |some (x::up)=>match Hc (s.length+1) true (x::up) s with
  |none=>.inr 230
  |some (l,r)=>match Pm (r.length+1) r with
   |none=>.inr 230
   |some m=>match Zw (l++m) with
    |some t=>.inl t
    |none=>.inr 3
end
end Go.Proofs.YtbbmdbolkicpcabGreatDoor
