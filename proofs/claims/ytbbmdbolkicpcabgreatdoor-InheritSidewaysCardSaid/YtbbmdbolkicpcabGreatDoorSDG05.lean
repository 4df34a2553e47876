/- PrintP, PrintQ, Write, PushP -/
import Derived.Test.YtbbmdbolkicpcabGreatDoorSDG02
import Derived.Lib.MapLaws
import Derived.Test.YtbbmdbolkicpcabGreatDoorSDG04
set_option maxRecDepth 100000
set_option maxHeartbeats 32000000
set_option linter.unusedVariables false
set_option linter.unusedSimpArgs false
namespace Go.Proofs.YtbbmdbolkicpcabGreatDoor
section
open Go.Lib
theorem Znv (n n' b0 b1 b2 b3 c1 c2 c3:Nat)(hne:decodeN n b0 b1 b2 b3≠(65533,1))(hk:(decodeN n b0 b1 b2 b3).2≤n')
  (h1:1<(decodeN n b0 b1 b2 b3).2→c1=b1)(h2:2<(decodeN n b0 b1 b2 b3).2→c2=b2)(h3:3<(decodeN n b0 b1 b2 b3).2→c3=b3) :
  decodeN n' b0 c1 c2 c3=decodeN n b0 b1 b2 b3:=by
 unfold decodeN at hne hk h1 h2 h3 ⊢
 by_cases a:b0<128
 ·simp only[a,if_true]
 ·simp only[a,if_false]at hne hk h1 h2 h3 ⊢
  by_cases b:b0 / 32=6∧(1<n∧b1 / 64=2)
  ·rw[if_pos b]at hne hk h1 h2 h3 ⊢
   by_cases b':b0 % 32 * 64+b1 % 64 ≥ 128
   ·rw[if_pos b']at hne hk h1 h2 h3 ⊢;simp only at hk h1;have e1:=h1 (by decide);subst e1;rw[if_pos ⟨b.1,by omega,b.2.2⟩,if_pos b']
   ·rw[if_neg b']at hne;exact absurd rfl hne
  ·rw[if_neg b]at hne hk h1 h2 h3 ⊢
   by_cases c:b0 / 16=14∧(1<n∧b1 / 64=2)∧(2<n∧b2 / 64=2)
   ·rw[if_pos c]at hne hk h1 h2 h3 ⊢
    split at hne
    ·next c' =>
     rw[if_pos c']at hk h1 h2 h3 ⊢;simp only at hk h1 h2;have e1:=h1 (by decide);have e2:=h2 (by decide);subst e1 e2;rw[if_neg (by omega),if_pos ⟨c.1,⟨by omega,c.2.1.2⟩,by omega,c.2.2.2⟩,if_pos c']
    ·exact absurd rfl hne
   ·rw[if_neg c]at hne hk h1 h2 h3 ⊢
    by_cases d:b0 / 8=30∧(1<n∧b1 / 64=2)∧(2<n∧b2 / 64=2)∧(3<n∧b3 / 64=2)
    ·rw[if_pos d]at hne hk h1 h2 h3 ⊢
     split at hne
     ·next d' =>
      rw[if_pos d']at hk h1 h2 h3 ⊢;simp only at hk h1 h2 h3;have e1:=h1 (by decide);have e2:=h2 (by decide);have e3:=h3 (by decide);subst e1 e2 e3;rw[if_neg (by omega),if_neg (by omega),if_pos ⟨d.1,⟨by omega,d.2.1.2⟩,⟨by omega,d.2.2.1.2⟩,by omega,d.2.2.2.2⟩,if_pos d']
     ·exact absurd rfl hne
    ·rw[if_neg d]at hne;exact absurd rfl hne
theorem getD_app {a b:Str}{i:Nat}(h:i<a.length):(a++b).getD i 0=a.getD i 0:=by
 simp[List.getD,List.getElem?_append_left h]
theorem Pj {a b:Str}(ha:a≠[])(h:decodeL a≠(65533,1))(b':Str)(hb:b'=a.take (decodeL a).2++b):decodeL b'=decodeL a:=by
 have hle:=decodeL_le a ha;have hp:=(Rl a).pos;subst hb;rw[decodeL_N a]at *;generalize hd:decodeN a.length (a.getD 0 0).toNat (a.getD 1 0).toNat (a.getD 2 0).toNat (a.getD 3 0).toNat=d at *;have ht:(a.take d.2).length=d.2:=by rw[List.length_take];omega
 have hg:∀i,i<d.2→(a.take d.2++b).getD i 0=a.getD i 0:=fun i hi=>by rw[getD_app (by omega),getD_takeU _ _ _ hi]
 rw[decodeL_N,hg 0 (by omega),←hd];refine Znv _ _ _ _ _ _ _ _ _ (by rw[hd];exact h) (by rw[hd,List.length_append,ht];omega) ?_ ?_ ?_
 all_goals
  rw[hd];intro hi;rw[hg _ hi]
theorem Jg {c:UInt8}{t:Str}(h:c.toNat<128):Zq (c::t)=Zq t:=by
 have hd:decodeL (c::t)=(c.toNat,1):=by rw[decodeL_N];exact decodeN_ascii _ _ _ _ _ h
 rw[Yj (by simp),hd]
 have:((c.toNat,1)==((65533,1):Nat×Nat))=false:=by
  rw[beq_eq_false_iff_ne];intro e
  have:=(Prod.mk.inj e).1;omega
 rw[this];rfl
theorem Znw:∀(n:Nat)(a b:Str),a.length≤n→Zq a=true→Zq b=true→Zq (a++b)=true
 |0,a,b,hn,_,hb=>by rw[List.eq_nil_of_length_eq_zero (Nat.le_zero.1 hn)];exact hb
 |n+1,a,b,hn,ha,hb=>by
  by_cases h0:a=[]
  ·subst h0;exact hb
  ·have hs:=ha;rw[Yj h0]at hs;simp only[Bool.and_eq_true,Bool.not_eq_true',beq_eq_false_iff_ne]at hs;have hle:=decodeL_le a h0;have hp:=(Rl a).pos;have hd:decodeL (a++b)=decodeL a:=Pj h0 hs.1 (b:=a.drop (decodeL a).2++b) _ (by rw[←List.append_assoc,List.take_append_drop]);rw[Yj (by simp[h0]),hd];simp only[Bool.and_eq_true,Bool.not_eq_true',beq_eq_false_iff_ne]
   refine⟨hs.1,?_⟩
   rw[List.drop_append_of_le_length hle];exact Znw n _ b (by rw[List.length_drop];omega) hs.2 hb
theorem Zny {a b:Str}(ha:Zq a=true)(hb:Zq b=true):Zq (a++b)=true:=Znw a.length a b (Nat.le_refl _) ha hb
theorem Zxk:∀(n:Nat)(a:Str)(c:UInt8)(b:Str),a.length≤n→c.toNat<128→Zq (a++c::b)=true→Zq a=true∧Zq b=true
 |0,a,c,b,hn,hc,h=>by
  rw[List.eq_nil_of_length_eq_zero (Nat.le_zero.1 hn)]at h ⊢;rw[List.nil_append,Jg hc]at h
  exact⟨rfl,h⟩
 |n+1,a,c,b,hn,hc,h=>by
  by_cases h0:a=[]
  ·subst h0;rw[List.nil_append,Jg hc]at h
   exact⟨rfl,h⟩
  ·obtain⟨hs,hd⟩:=Hy (by simp[h0]) h
   have hbad:decodeL (a++c::b)≠(65533,1):=by
    rw[Yj (by simp[h0])]at h;simp only[Bool.and_eq_true,Bool.not_eq_true',beq_eq_false_iff_ne]at h;exact h.1
   have hp:=(Rl (a++c::b)).pos;have hle:(decodeL (a++c::b)).2≤a.length:=by
    generalize hk:decodeL (a++c::b)=k at *
    obtain⟨r,k⟩:=k
    simp only at hs hp ⊢;generalize hl:a++c::b=l at *
    cases hs with
    |one c0 t h1 =>
     exact List.length_pos_iff.2 h0
    |more run t r h2 h4 hr hm hb he =>
     rcases Nat.lt_or_ge a.length run.length with hlt|hge
     ·have hx:(run++t)[a.length]?=some c:=by rw[←hl];simp
      rw[List.getElem?_append_left hlt]at hx
      have:=hb c (List.mem_of_getElem? hx)
      omega
     ·exact hge
   rw[List.drop_append_of_le_length hle]at hd
   obtain⟨i1,i2⟩:=Zxk n _ c b (by rw[List.length_drop];omega) hc hd
   refine⟨?_,i2⟩
   have e:decodeL a=decodeL (a++c::b):=Pj (by simp) hbad (b:=a.drop (decodeL (a++c::b)).2) _ (by rw[List.take_append_of_le_length hle,List.take_append_drop]);rw[Yj h0,e];simp only[Bool.and_eq_true,Bool.not_eq_true',beq_eq_false_iff_ne]
   exact⟨hbad,i1⟩
def Ql (s:Str):Str:=s.flatMap (fun c=>if Km c then [92,c]else [c])
def Ff (k:Str×Str):Str:=91::(k.1++61::(Ql k.2++[93]))
def Zt (l:List (Str×Str)):Str:=l.flatMap Ff
def Qp (x:Stp):Str:=x.1++Zt x.2
def Xg (s:Str):Bool:=Zl Xr s&&s.all Zd
def Jf (v:Str):Bool:=Zq v&&v.all (fun c=>!Bz c)
def Fb:List (Str×Str)→List (Str×Str)→Bool
 |_,[]=>true
 |ks,k::r=>Xg k.1&&!Vx ks k.1&&Jf k.2&&Fb (ks++[k]) r
def Kr (x:Stp):Bool:=Xg x.1&&Fb [] x.2
def Qxq (k:Str×Str):Bool:=decide (k.1.length≤64)&&decide (k.2.length≤64)
def Gx (x:Stp):Bool:=decide (x.1.length≤64)&&x.2.all Qxq
def Zk:List Stp→Str
 |[]=>[]
 |[x]=>Qp x
 |x::r=>Qp x++47::Zk r
def Zw (l:List Stp):Option Str :=
 if l.all Kr&&l.all Gx&&decide (l.length≤64)&&decide ((Zk l).length≤512)then some (Zk l)else none
theorem Tt {s:Str}(h:Xg s=true):s≠[]:=by
 rintro rfl;simp[Xg,Zl]at h
theorem Uc:∀(n r:Str),n.all Zd=true→Zl Zd r=false→(n++r).takeWhile Zd=n∧(n++r).dropWhile Zd=r
 |[],[],_,_=>⟨rfl,rfl⟩
 |[],c::r,_,h=>by
  simp only[Zl]at h
  simp[List.takeWhile_cons,List.dropWhile_cons,h]
 |c::n,r,ha,h=>by
  simp only[List.all_cons,Bool.and_eq_true]at ha;have ih:=Uc n r ha.2 h
  simp[List.takeWhile_cons,List.dropWhile_cons,ha.1,ih]
theorem Xvx {n r:Str}(h:Zl Xr n=true):Zl Xr (n++r)=true:=by
 cases n with
 |nil=>cases h
 |cons c t=>exact h
theorem Qdq {n r:Str}(hn:Xg n=true)(hl:n.length≤64)(hr:Zl Zd r=false):Jh (n++r)=some (n,r):=by
 simp only[Xg,Bool.and_eq_true]at hn
 obtain⟨h1,h2⟩:=Uc n r hn.2 hr
 unfold Jh;rw[h1,h2,Xvx hn.1]
 simp[hl]
theorem Znh {s n r:Str}(h:Jh s=some (n,r)):Xg n=true∧Zl Zd r=false:=by
 unfold Jh at h
 split at h
 ·next hc =>
  simp only[Bool.and_eq_true,decide_eq_true_eq]at hc
  cases h
  refine⟨?_,?_⟩
  ·simp only[Xg,Bool.and_eq_true]
   refine⟨?_,?_⟩
   ·cases s with
    |nil=>exact hc.1
    |cons c t =>
     have:Zd c=true:=by have:=hc.1;simp only[Zl]at this;simp[Zd,this]
     rw[List.takeWhile_cons,this];exact hc.1
   ·exact List.all_takeWhile
  ·induction s with
   |nil=>rfl
   |cons c t ih =>
    rw[List.dropWhile_cons]
    by_cases hb:Zd c=true
    ·rw[hb];simp only[if_true];clear ih hc
     induction t with
     |nil=>rfl
     |cons d t ih2 =>
      rw[List.dropWhile_cons]
      by_cases hd:Zd d=true
      ·rw[hd];exact ih2
      ·have hd2:Zd d=false:=by simpa using hd
       rw[hd2];exact hd2
    ·have hb2:Zd c=false:=by simpa using hb
     rw[hb2];exact hb2
 ·cases h
theorem Xvj {c:UInt8}(h:Km c=false):c≠92∧c≠93∧c≠91∧c≠47∧c≠61:=by
 simp only[Km,Bool.or_eq_false_iff,beq_eq_false_iff_ne]at h
 exact⟨h.2,h.1.1.1.2,h.1.1.1.1,h.1.1.2,h.1.2⟩
theorem Xvk {c:UInt8}(h:Km c=true):Bz c=false:=by
 revert h;revert c;apply Zn;decide +kernel
theorem Qwz:∀(v acc r:Str),v.all (fun c=>!Bz c)=true→(acc++v).length≤64→Qw false acc (Ql v++93::r)=some (acc++v,r)
 |[],acc,r,_,hl=>by
  simp only[List.append_nil]at hl ⊢;show Qw false acc (93::r)=_;simp only[Qw];rw[if_neg (by decide)]
  simp[hl]
 |c::v,acc,r,ha,hl=>by
  simp only[List.all_cons,Bool.and_eq_true,Bool.not_eq_true']at ha;have hl2:((acc++[c])++v).length≤64:=by rw[List.append_assoc];exact hl
  have ih:=Qwz v (acc++[c]) r ha.2 hl2;rw[List.append_assoc,List.singleton_append]at ih;have hd:Ql (c::v)=(if Km c then [92,c]else [c])++Ql v:=by simp[Ql]
  rw[hd]
  by_cases hs:Km c=true
  ·rw[if_pos hs];show Qw false acc (92::c::(Ql v++93::r))=_;simp only[Qw];rw[if_pos trivial,if_pos hs];exact ih
  ·have hs2:Km c=false:=by simpa using hs
   obtain⟨e1,e2,e3,e4,e5⟩:=Xvj hs2
   rw[if_neg hs];show Qw false acc (c::(Ql v++93::r))=_;simp only[Qw];rw[if_neg e1,if_neg e2,ha.1,beq_eq_false_iff_ne.2 e3,beq_eq_false_iff_ne.2 e4,beq_eq_false_iff_ne.2 e5];exact ih
theorem Zxv:∀(s:Str)(acc v r:Str),(Qw false acc s=some (v,r)→∃u,v=acc++u∧s=Ql u++93::r∧u.all (fun c=>!Bz c)=true)∧
  (Qw true acc s=some (v,r)→∃u,v=acc++u∧92::s=Ql u++93::r∧u.all (fun c=>!Bz c)=true)
 |[],acc,v,r=>⟨fun h=>(by cases h),fun h=>(by cases h)⟩
 |c::t,acc,v,r=>by
  have ih:=Zxv t
  refine⟨fun h=>?_,fun h=>?_⟩
  ·simp only[Qw]at h
   split at h
   ·next e =>
    subst e
    exact(ih acc v r).2 h
   ·split at h
    ·next e1 e2 =>
     subst e2
     split at h
     ·cases h
      exact⟨[],by simp,rfl,rfl⟩
     ·cases h
    ·next e1 e2 =>
     split at h
     ·cases h
     ·next hc =>
      simp only[Bool.or_eq_true,beq_iff_eq,not_or,Bool.not_eq_true]at hc
      obtain⟨u,h1,h2,h3⟩:=(ih (acc++[c]) v r).1 h
      have hs:Km c=false:=by
       simp only[Km,Bool.or_eq_false_iff,beq_eq_false_iff_ne]
       exact⟨⟨⟨⟨hc.1.1.2,e2⟩,hc.1.2⟩,hc.2⟩,e1⟩
      refine⟨c::u,by rw[h1];simp,?_,?_⟩
      ·have hd:Ql (c::u)=[c]++Ql u:=by simp[Ql,hs]
       rw[hd,h2];rfl
      ·simp only[List.all_cons,Bool.and_eq_true,Bool.not_eq_true']
       exact⟨hc.1.1.1,h3⟩
  ·simp only[Qw]at h
   split at h
   ·next hs =>
    obtain⟨u,h1,h2,h3⟩:=(ih (acc++[c]) v r).1 h
    refine⟨c::u,by rw[h1];simp,?_,?_⟩
    ·have hd:Ql (c::u)=[92,c]++Ql u:=by simp[Ql,hs]
     rw[hd,h2];rfl
    ·simp only[List.all_cons,Bool.and_eq_true,Bool.not_eq_true']
     exact⟨Xvk hs,h3⟩
   ·cases h
end
section
open Go.Lib
theorem Nv {a:Str}{c:UInt8}{b:Str}(h:c.toNat<128):Zq (a++c::b)=(Zq a&&Zq b):=by
 cases hh:Zq (a++c::b) with
 |true =>
  obtain⟨h1,h2⟩:=Zxk a.length a c b (Nat.le_refl _) h hh
  rw[h1,h2];rfl
 |false =>
  cases ha:Zq a with
  |false=>rfl
  |true =>
   cases hb:Zq b with
   |false=>rfl
   |true =>
    have:=Zny ha (show Zq (c::b)=true by rw[Jg h];exact hb)
    rw[hh]at this;cases this
theorem Sw:∀(n r:Str),(∀c∈n,c.toNat<128)→Zq (n++r)=Zq r
 |[],r,_=>rfl
 |c::n,r,h=>by
  rw[List.cons_append,Jg (h c (List.mem_cons_self ..))];exact Sw n r (fun d hd=>h d (List.mem_cons_of_mem _ hd))
theorem Xvv {c:UInt8}(h:Zd c=true):c.toNat<128:=by
 revert h;revert c;apply Zn;decide +kernel
theorem Mx {n r:Str}(h:Xg n=true):Zq (n++r)=Zq r:=by
 simp only[Xg,Bool.and_eq_true]at h;exact Sw n r (fun c hc=>Xvv (List.all_eq_true.1 h.2 c hc))
theorem Bc (a b:Str):Ql (a++b)=Ql a++Ql b:=by simp[Ql]
theorem Qxz:∀(a:Str),(∀c∈a,128≤c.toNat)→Ql a=a
 |[],_=>rfl
 |c::a,h=>by
  have hc:Km c=false:=(Zgy (h c (List.mem_cons_self ..))).1;have ih:=Qxz a (fun d hd=>h d (List.mem_cons_of_mem _ hd))
  show(if Km c then [92,c]else [c])++Ql a=c::a
  rw[hc,ih];rfl
theorem Zxw:∀(v:Str),∃a t:Str,v=a++t∧(∀c∈a,128≤c.toNat)∧(t=[]∨∃c t',t=c::t'∧c.toNat<128)
 |[]=>⟨[],[],rfl,by simp,Or.inl rfl⟩
 |c::v=>by
  by_cases h:c.toNat<128
  ·exact⟨[],c::v,rfl,by simp,Or.inr ⟨c,v,rfl,h⟩⟩
  ·obtain⟨a,t,h1,h2,h3⟩:=Zxw v
   refine⟨c::a,t,by rw[h1];rfl,fun d hd=>?_,h3⟩
   rcases List.mem_cons.1 hd with rfl|hd
   ·omega
   ·exact h2 d hd
theorem Qwx:∀(n:Nat)(v:Str),v.length≤n→Zq (Ql v)=Zq v
 |0,v,h=>by rw[List.eq_nil_of_length_eq_zero (Nat.le_zero.1 h)];rfl
 |n+1,v,h=>by
  obtain⟨a,t,rfl,ha,ht⟩:=Zxw v
  rcases ht with rfl|⟨c,t',rfl,hc⟩
  ·rw[List.append_nil,Qxz a ha]
  ·have ih:=Qwx n t' (by rw[List.length_append,List.length_cons]at h;omega);rw[Bc,Qxz a ha,Nv hc];show Zq (a++((if Km c then [92,c]else [c])++Ql t'))=_
   by_cases hs:Km c=true
   ·rw[if_pos hs];show Zq (a++92::(c::Ql t'))=_;rw[Nv (by decide),Jg hc,ih]
   ·rw[if_neg hs];show Zq (a++c::Ql t')=_;rw[Nv hc,ih]
theorem Qdz (v:Str):Zq (Ql v)=Zq v:=Qwx v.length v (Nat.le_refl _)
theorem keyP_text {ks:List (Str×Str)}{k:Str×Str}{r:Str}(hn:Xg k.1=true)(hl:Vx ks k.1=false)(hv:Jf k.2=true)(hf:Qxq k=true) :
  Mf ks (k.1++61::(Ql k.2++93::r))=some (k,r):=by
 simp only[Qxq,Bool.and_eq_true,decide_eq_true_eq]at hf;simp only[Jf,Bool.and_eq_true]at hv;unfold Mf;rw[Qdq hn hf.1 (show Zl Zd (61::_)=false from rfl)]
 simp only
 rw[hl];simp only[Bool.false_eq_true,if_false,Xx,if_true];rw[Qwz k.2 [] r hv.2 (by simpa using hf.2)]
 rfl
theorem Qdx (k:Str×Str)(r:Str):Ff k++r=91::(k.1++61::(Ql k.2++93::r)):=by simp[Ff]
theorem Qdj:∀(l:List (Str×Str))(f:Nat)(ks:List (Str×Str))(r:Str),Fb ks l=true→l.all Qxq=true→Xx 91 r=none→(Zt l++r).length≤f→Mz f ks (Zt l++r)=some (ks++l,r)
 |[],f,ks,r,_,_,hr,hf=>by
  show Mz f ks r=_;rw[List.append_nil]
  cases f with
  |zero=>rfl
  |succ f=>simp only[Mz,hr]
 |k::l,f,ks,r,hk,ha,hr,hf=>by
  simp only[Fb,Bool.and_eq_true,Bool.not_eq_true']at hk;simp only[List.all_cons,Bool.and_eq_true]at ha;have hs:Zt (k::l)++r=91::(k.1++61::(Ql k.2++93::(Zt l++r))):=by
   show(Ff k++Zt l)++r=_
   rw[List.append_assoc,Qdx]
  rw[hs]at hf ⊢
  cases f with
  |zero=>simp at hf
  |succ f =>
   simp only[Mz,Xx,if_true];rw[keyP_text hk.1.1.1 hk.1.1.2 hk.1.2 ha.1]
   simp only
   rw[Qdj l f (ks++[k]) r hk.2 ha.2 hr (by simp only[List.length_cons,List.length_append]at hf ⊢;omega)]
   simp
def endB (r:Str):Bool:=!Zl (fun c=>Zd c||c==91) r
theorem Zng {r:Str}(h:endB r=true):Zl Zd r=false∧Xx 91 r=none:=by
 cases r with
 |nil=>exact⟨rfl,rfl⟩
 |cons c t =>
  simp only[endB,Zl,Bool.not_eq_true',Bool.or_eq_false_iff,beq_eq_false_iff_ne]at h
  exact⟨h.1,by simp only[Xx];rw[if_neg h.2]⟩
theorem keys_head {l:List (Str×Str)}{r:Str}(h:endB r=true):Zl Zd (Zt l++r)=false:=by
 cases l with
 |nil=>exact(Zng h).1
 |cons k l=>rfl
theorem Qdk {x:Stp}{r:Str}(hm:Kr x=true)(hf:Gx x=true)(hr:endB r=true):Xs (Qp x++r)=some (x,r):=by
 simp only[Kr,Bool.and_eq_true]at hm;simp only[Gx,Bool.and_eq_true,decide_eq_true_eq]at hf;unfold Xs Qp;rw[List.append_assoc,Qdq hm.1 hf.1 (keys_head hr)]
 simp only
 rw[Qdj x.2 _ [] r hm.2 hf.2 (Zng hr).2 (Nat.le_refl _)]
 rfl
theorem join_cons (x:Stp){r:List Stp}(h:r≠[]):Zk (x::r)=Qp x++47::Zk r:=by
 cases r with
 |nil=>exact absurd rfl h
 |cons y r=>rfl
theorem Qwj:∀(m:List Stp)(f:Nat)(l:List Stp),m≠[]→m.all Kr=true→m.all Gx=true→m.length≤f→Jn f l (Zk m)=some (l++m)
 |[],f,l,h,_,_,_=>absurd rfl h
 |x::m,0,l,_,_,_,hf=>by simp at hf
 |x::m,f+1,l,_,hm,hfi,hf=>by
  simp only[List.all_cons,Bool.and_eq_true]at hm hfi
  by_cases h0:m=[]
  ·subst h0
   have:=Qdk (r:=[]) hm.1 hfi.1 rfl
   rw[List.append_nil]at this;show Jn (f+1) l (Qp x)=_;simp only[Jn,this,if_true]
  ·rw[join_cons x h0];simp only[Jn];rw[Qdk hm.1 hfi.1 (by rfl)]
   simp only
   rw[if_neg (by simp)];simp only[Xx,if_true];rw[Qwj m f (l++[x]) h0 hm.2 hfi.2 (by simp only[List.length_cons]at hf;omega)]
   simp
theorem Zxy:∀(l:List (Str×Str))(ks:List (Str×Str)),Fb ks l=true→Zq (Zt l)=true
 |[],ks,_=>rfl
 |k::l,ks,h=>by
  simp only[Fb,Bool.and_eq_true,Jf]at h;show Zq (Ff k++Zt l)=true;rw[Qdx,Jg (by decide),Mx h.1.1.1,Jg (by decide),Nv (by decide),Qdz,h.1.2.1,Zxy l _ h.2]
  rfl
theorem Zxh {x:Stp}(h:Kr x=true):Zq (Qp x)=true:=by
 simp only[Kr,Bool.and_eq_true]at h;unfold Qp;rw[Mx h.1];exact Zxy _ _ h.2
theorem Zxg:∀(m:List Stp),m.all Kr=true→Zq (Zk m)=true
 |[],_=>rfl
 |x::m,h=>by
  simp only[List.all_cons,Bool.and_eq_true]at h
  by_cases h0:m=[]
  ·subst h0;exact Zxh h.1
  ·rw[join_cons x h0,Nv (by decide),Zxh h.1,Zxg m h.2];rfl
theorem text_ne {x:Stp}(h:Kr x=true):Qp x≠[]:=by
 simp only[Kr,Bool.and_eq_true]at h;intro e;unfold Qp at e;exact Tt h.1 (List.append_eq_nil_iff.1 e).1
theorem join_ne {m:List Stp}(h:m.all Kr=true)(h0:m≠[]):Zk m≠[]:=by
 cases m with
 |nil=>exact absurd rfl h0
 |cons x m =>
  simp only[List.all_cons,Bool.and_eq_true]at h
  by_cases h1:m=[]
  ·subst h1;exact text_ne h.1
  ·rw[join_cons x h1];simp
theorem Vs {m:List Stp}{s:Str}(h:Zw m=some s):Qy s=some m:=by
 unfold Zw at h
 split at h
 ·next hc =>
  simp only[Bool.and_eq_true,decide_eq_true_eq]at hc
  cases h;unfold Qy;rw[if_neg (by omega),Zxg m hc.1.1.1];simp only[Bool.true_eq_false,if_false]
  by_cases h0:m=[]
  ·subst h0;rfl
  ·rw[if_neg (join_ne hc.1.1.1 h0),Qwj m 64 [] h0 hc.1.1.1 hc.1.1.2 hc.1.2];rfl
 ·cases h
theorem keyP_ok {ks:List (Str×Str)}{s r:Str}{k:Str×Str}(h:Mf ks s=some (k,r))(hu:Zq s=true) :
  s=k.1++61::(Ql k.2++93::r)∧Xg k.1=true∧Vx ks k.1=false∧Jf k.2=true∧Qxq k=true∧Zq r=true:=by
 have hlen:=Qfk h;unfold Mf at h
 split at h
 ·cases h
 ·next n r1 hn =>
  split at h
  ·cases h
  ·next hl =>
   split at h
   ·cases h
   ·next r2 h2 =>
    split at h
    ·cases h
    ·next v r3 hv =>
     cases h
     obtain⟨e1,_,_⟩:=Dj hn
     obtain⟨n1,_⟩:=Znh hn
     have e2:=Kh h2
     obtain⟨u,e3,e4,e5⟩:=(Zxv _ _ _ _).1 hv
     rw[List.nil_append]at e3;subst e3 e4 e2 e1;rw[Mx n1,Jg (by decide),Nv (by decide),Qdz]at hu;simp only[Bool.and_eq_true]at hu
     refine⟨rfl,n1,by simpa using hl,?_,?_,hu.2⟩
     ·simp only[Jf,Bool.and_eq_true];exact⟨hu.1,e5⟩
     ·simp only[Qxq,Bool.and_eq_true,decide_eq_true_eq];exact hlen.2
theorem Zrq:∀(f:Nat)(ks:List (Str×Str))(s:Str){l:List (Str×Str)}{r:Str},Mz f ks s=some (l,r)→Zq s=true →
  ∃m,l=ks++m∧s=Zt m++r∧Fb ks m=true∧m.all Qxq=true∧Zq r=true
 |0,ks,s,l,r,h,hu=>by cases h;exact⟨[],by simp,rfl,rfl,rfl,hu⟩
 |f+1,ks,s,l,r,h,hu=>by
  simp only[Mz]at h
  split at h
  ·cases h;exact⟨[],by simp,rfl,rfl,rfl,hu⟩
  ·next r1 h1 =>
   split at h
   ·cases h
   ·next p r3 h3 =>
    have e1:=Kh h1;subst e1;rw[Jg (by decide)]at hu
    obtain⟨k1,k2,k3,k4,k5,k6⟩:=keyP_ok h3 hu
    obtain⟨m,m1,m2,m3,m4,m5⟩:=Zrq f _ _ h k6
    refine⟨p::m,by rw[m1];simp,?_,?_,?_,m5⟩
    ·show _=(Ff p++Zt m)++r;rw[List.append_assoc,Qdx,←m2,k1]
    ·simp only[Fb,Bool.and_eq_true,Bool.not_eq_true'];exact⟨⟨⟨k2,k3⟩,k4⟩,m3⟩
    ·simp only[List.all_cons,Bool.and_eq_true];exact⟨k5,m4⟩
theorem stepP_ok {s r:Str}{x:Stp}(h:Xs s=some (x,r))(hu:Zq s=true):s=Qp x++r∧Kr x=true∧Gx x=true∧Zq r=true:=by
 unfold Xs at h
 split at h
 ·cases h
 ·next n r1 hn =>
  split at h
  ·cases h
  ·next ks r' hk =>
   cases h
   obtain⟨e1,_,e3⟩:=Dj hn
   obtain⟨n1,_⟩:=Znh hn
   subst e1;rw[Mx n1]at hu
   obtain⟨m,m1,m2,m3,m4,m5⟩:=Zrq _ _ _ hk hu
   rw[List.nil_append]at m1;subst m1
   refine⟨?_,?_,?_,m5⟩
   ·unfold Qp;rw[List.append_assoc,←m2]
   ·simp only[Kr,Bool.and_eq_true];exact⟨n1,m3⟩
   ·simp only[Gx,Bool.and_eq_true,decide_eq_true_eq];exact⟨e3,m4⟩
theorem Zjq:∀(f:Nat)(l:List Stp)(s:Str){m:List Stp},Jn f l s=some m→Zq s=true →
  ∃q,m=l++q∧q≠[]∧s=Zk q∧q.all Kr=true∧q.all Gx=true∧q.length≤f
 |0,l,s,m,h,_=>by cases h
 |f+1,l,s,m,h,hu=>by
  simp only[Jn]at h
  split at h
  ·cases h
  ·next x r hx =>
   obtain⟨s1,s2,s3,s4⟩:=stepP_ok hx hu
   split at h
   ·next hr =>
    cases h;subst hr;rw[List.append_nil]at s1
    exact⟨[x],rfl,by simp,s1,by simp[s2],by simp[s3],by simp⟩
   ·split at h
    ·cases h
    ·next r' hr' =>
     have e:=Kh hr';subst e;rw[Jg (by decide)]at s4
     obtain⟨q,q1,q2,q3,q4,q5,q6⟩:=Zjq f _ _ h s4
     refine⟨x::q,by rw[q1];simp,by simp,?_,by simp[s2,q4],by simp[s3,q5],by simp only[List.length_cons];omega⟩
     rw[join_cons x q2,←q3,s1]
theorem Qdv {s:Str}{l:List Stp}(h:Qy s=some l):Zw l=some s:=by
 unfold Qy at h
 split at h
 ·cases h
 ·next h1 =>
  split at h
  ·cases h
  ·next h2 =>
   have hu:Zq s=true:=by simpa using h2
   split at h
   ·next h3=>cases h;subst h3;rfl
   ·obtain⟨q,q1,q2,q3,q4,q5,q6⟩:=Zjq _ _ _ h hu
    rw[List.nil_append]at q1;subst q1;unfold Zw;rw[q4,q5,←q3]
    simp[q6];omega
theorem Zy {s:Str}{l:List Stp}(h:Qy s=some l):l.all Kr=true∧l.all Gx=true∧l.length≤64∧(Zk l).length≤512∧Zk l=s:=by
 have:=Qdv h
 unfold Zw at this
 split at this
 ·next hc =>
  simp only[Bool.and_eq_true,decide_eq_true_eq]at hc
  exact⟨hc.1.1.1,hc.1.1.2,hc.1.2,hc.2,Option.some.inj this⟩
 ·cases this
def Yf (a b:Str):Option Str :=
 match Qy a,Qy b with
 |some l,some m=>if m.length≤l.length∧l.take m.length=m then some (Zk (l.drop m.length))else none
 |_,_=>none
def inB (a b:Str):Bool:=(Yf a b).isSome
theorem Ls:∀(l:List Stp)(k:Nat),(Zk (l.drop k)).length≤(Zk l).length
 |[],k=>by rw[List.drop_nil];exact Nat.le_refl _
 |x::l,0=>Nat.le_refl _
 |x::l,k+1=>by
  rw[List.drop_succ_cons];refine Nat.le_trans (Ls l k) ?_
  by_cases h0:l=[]
  ·subst h0;exact Nat.zero_le _
  ·rw[join_cons x h0];simp only[List.length_append,List.length_cons];omega
theorem Zrz {p:Stp→Bool}{l:List Stp}(h:l.all p=true)(k:Nat):(l.drop k).all p=true :=
 List.all_eq_true.2 fun x hx=>List.all_eq_true.1 h x (List.mem_of_mem_drop hx)
theorem Qdw {s:Str}{l:List Stp}(h:Qy s=some l)(k:Nat):Zw (l.drop k)=some (Zk (l.drop k)):=by
 obtain⟨h1,h2,h3,h4,h5⟩:=Zy h
 unfold Zw;rw[Zrz h1 k,Zrz h2 k]
 have:=Ls l k
 rw[if_pos];simp only[Bool.and_self,Bool.true_and,Bool.and_eq_true,decide_eq_true_eq,List.length_drop]
 omega
end
section
open Go.RowKit Go.Lib Go.Sort
theorem Nw (w:World)(l:List Str)(B:Nat)(hB:B≤w.heap.size)(hl:l.length≤1000):Qt (w.alloc (.cells (l.map S).toArray 9)) B (.slice (some ⟨w.heap.size,0,none⟩) l.length l.length) l :=
 ⟨by simp,Or.inr ⟨w.heap.size,l.length,_,rfl,hB,heap_alloc_new w _,Nat.le_refl _,by unfold maxLen;omega,by simp,List.take_of_length_le (by simp)⟩⟩
theorem Lt {w:World}{ops:Array Oper}{rest:List Oper}{o:Oper}{a:Act}{Q:Exit→Act→World→Prop}(hgd:o.guard=none)(s x:Operand)
  (ho:o.op=.call { callee:=.builtin .append,args:=#[s,x],argTypes:=#[28,28] })
  (B:Nat)(v vx:Value)(l m:List Str)(hs:a.eval s=v)(hown:Qt w B v l)(hx:a.eval x=vx)(hr:RdS w vx m)(hl:l.length+m.length≤1000000)(hB:B≤w.heap.size)
  (h:∀v' w',Qt w' B v' (l++m)→w.grownBy w' v.ownBlock→Nk w v v'→wpList Tryz.prog ops Q rest (a.put o.dst v') w') :
  wpList Tryz.prog ops Q (o::rest) a w:=by
 obtain⟨i0,hi,hz0,hz1,hz2⟩:=info_parts Zzw
 obtain⟨ao,cp,rfl,hl1,hr1⟩:=hr
 cases ao with
 |none =>
  obtain⟨rfl,rfl⟩:=hl1.2 rfl
  exact wpList_append_own_none hgd s x 28 ho B 9 i0 1 Tryz.underlying28 hi v l.length (l.map S) hs hown hx (h v w (by rw[List.append_nil];exact hown) (World.grownBy.refl _ _) (Or.inl rfl))
 |some ad =>
  refine Gd hgd s x 28 ho B 9 i0 (.string ⟨#[]⟩) 1 16 Tryz.underlying28 hi hz0 hz1 hz2 rfl (by decide) v l.length (l.map S) hs hown ad m.length cp (m.map S) hx (by simp) ?_ ?_ (by unfold maxLen;omega) (by omega) hB ?_
  ·intro j u hu;rw[List.getElem?_map]at hu
   obtain⟨x,hx1,rfl⟩:=Option.map_eq_some_iff.1 hu
   have hne:m≠[]:=by rintro rfl;simp at hx1
   obtain⟨b,off,he,hlt,hc⟩:=hr1 hne
   obtain rfl:ad=⟨b,off,none⟩:=Option.some.inj he
   have:=hc j x hx1
   unfold Addr.add
   split
   ·next e=>subst e;exact this
   ·exact this
  ·intro u hu
   obtain⟨x,_,rfl⟩:=List.mem_map.1 hu
   rfl
  ·intro v' w' own gr mv;exact h v' w' (Xh own (by simp) (by simp)) gr mv
theorem Ll {w:World}{ops:Array Oper}{rest:List Oper}{o:Oper}{a:Act}{Q:Exit→Act→World→Prop}(hgd:o.guard=none)(s x:Operand)
  (ho:o.op=.call { callee:=.builtin .append,args:=#[s,x],argTypes:=#[28,28] })
  (B:Nat)(v:Value)(l:List Str)(y:Str)(k:Nat)(hk:w.heap.size=k)(hs:a.eval s=v)(hown:Qt w B v l)(hx:a.eval x=.slice (some ⟨k,0,none⟩) 1 1)(hl:l.length≤1000000)(hB:B≤w.heap.size)
  (h:∀v' w',Qt w' B v' (l++[y])→w.grownBy w' v.ownBlock→Nk w v v'→wpList Tryz.prog ops Q rest (a.put o.dst v') w') :
  wpList Tryz.prog ops Q (o::rest) a (w.alloc (.cells #[.string ⟨y.toArray⟩] 9)):=by
 subst hk;exact Zz hgd s x ho B v l y hs hown hx hl hB h
structure Wr (w0:World)(H:Nat)(w:World)(v3:Value)(g c:Nat)(box:Array Value)(l r:List Str):Prop where
 box:w.heap[H]?=some (.cells box 160 (0,0))
 os:Qt w (H+1) v3 l
 or:Qt w (H+1) (.slice (some ⟨g,0,none⟩) r.length c) r
 ne:v3.ownBlock≠some g
 bel:Below H w0 w
theorem Wr.push {w0 w w1:World}{H:Nat}{v3 v':Value}{g c:Nat}{box:Array Value}{l r l':List Str}(h:Wr w0 H w v3 g c box l r)(hs:H+1≤w.heap.size)(o:Qt w1 (H+1) v' l')(gw:w.grownBy w1 v3.ownBlock)(m:Nk w v3 v'):Wr w0 H w1 v' g c box l' r:=by
 have hlt:=fun k hk=>World.ownsRow.lt h.os k hk
 have hlr:=(World.ownsRow.lt h.or g rfl).2
 refine⟨?_,o,?_,?_,?_⟩
 ·rw[gw.block H (by omega) (fun e=>by have:=hlt H e.symm;omega)];exact h.box
 ·exact World.ownsRow.kept h.or gw (Or.inr fun e=>h.ne e.symm)
 ·intro hk
  rcases m with m|⟨q,h1,h2⟩
  ·exact h.ne (m▸hk)
  ·rw[hk]at h1
   injection h1 with h1
   omega
 ·exact h.bel.grown gw (by omega) (fun k hk=>by have:=(hlt k hk).1;omega)
theorem Wr.below {w0 w w1:World}{H:Nat}{v3:Value}{g c:Nat}{box:Array Value}{l r:List Str}(h:Wr w0 H w v3 g c box l r)(hs:H+1≤w.heap.size)(hb:Below w.heap.size w w1):Wr w0 H w1 v3 g c box l r:=by
 have hlr:=(World.ownsRow.lt h.or g rfl).2
 refine⟨?_,Qz h.os hb,Qz h.or hb,h.ne,?_⟩
 ·rw[hb.block H (by omega)];exact h.box
 ·exact h.bel.trans ⟨hb.os,hb.tape,hb.output,hb.size,fun k hk=>hb.block k (by omega)⟩
theorem Wr.first (w w4:World)(box:Array Value)(hd:Str)(sc rg:Value)(r:List Str)(g c:Nat)(own4:Qt w4 (w.heap.size+1) (.slice (some ⟨g,0,none⟩) r.length c) r)
  (gr4:(((w.alloc (.cells box 160)).alloc (.cells #[.string ⟨hd.toArray⟩] 9)).alloc (.cells #[sc,rg] 9)).grownBy w4 (some (w.heap.size+1+1)))
  (mv4:Nk (((w.alloc (.cells box 160)).alloc (.cells #[.string ⟨hd.toArray⟩] 9)).alloc (.cells #[sc,rg] 9)) (.slice (some ⟨w.heap.size+1+1,0,none⟩) 2 2) (.slice (some ⟨g,0,none⟩) r.length c)) :
  Wr w w.heap.size w4 (.slice (some ⟨w.heap.size+1,0,none⟩) 1 1) g c box [hd] r:=by
 have o1:Qt ((w.alloc (.cells box 160)).alloc (.cells #[.string ⟨hd.toArray⟩] 9)) (w.heap.size+1) (.slice (some ⟨w.heap.size+1,0,none⟩) 1 1) [hd]:=by
  simpa[S]using Nw (w.alloc (.cells box 160)) [hd] (w.heap.size+1) (by simp) (by simp)
 refine⟨?_,?_,own4,?_,?_⟩
 ·rw[gr4.block w.heap.size (by simp;omega) (by simp;omega)];rw[heap_alloc_old _ _ (by simp;omega),heap_alloc_old _ _ (by simp)];exact heap_alloc_new w _
 ·exact World.ownsRow.kept (World.ownsRow.alloc o1 _) gr4 (Or.inr (by simp[Value.ownBlock]))
 ·intro e
  simp[Value.ownBlock]at e
  subst e
  rcases mv4 with m|⟨q,h1,h2⟩
  ·simp[Value.ownBlock]at m
  ·simp[Value.ownBlock]at h1 h2;omega
 ·exact(((bal _ _).alloc (by simp) _).alloc (by simp;omega) _).grown gr4 (by simp;omega) (fun k hk=>by simp at hk;omega)
theorem Zjz (r:List Str)(n:Nat)(h:n<r.length):(r.take (n+1)).filter Nx=(r.take n).filter Nx++(if r[n]=[]then []else [r[n]]):=by
 rw[List.take_add_one,List.filter_append,List.getElem?_eq_getElem h]
 congr 1
 simp only[Option.toList,List.filter_cons,List.filter_nil]
 by_cases hy:r[n]=[]
 ·simp[hy,Nx]
 ·have:r[n].isEmpty=false:=by cases hh:r[n]with|nil=>exact absurd hh hy|cons=>rfl
  simp[hy,Nx,this]
theorem Qdy (k:List (Str×Str))(n:Nat)(h:n<k.length):(k.take (n+1)).flatMap Xk=(k.take n).flatMap Xk++Xk k[n]:=by
 rw[List.take_add_one,List.flatMap_append,List.getElem?_eq_getElem h]
 simp
theorem Ez (r:List Str)(n:Nat):((r.take n).filter Nx).length≤n :=
 Nat.le_trans (List.length_filter_le _ _) (by simp;omega)
theorem Tl (k:List (Str×Str)):(k.flatMap Xk).length≤2 * k.length:=by
 induction k with
 |nil=>simp
 |cons a k ih =>
  simp only[List.flatMap_cons,List.length_append,List.length_cons]
  have:(Xk a).length≤2:=by unfold Xk;split <;> simp
  omega
theorem Zjx (w:World)(v:Value)(t:Tg)(h:RdT w v t)(hv:t.vars.length≤1000)(hk:t.keys.length≤1000)(hj:(Kj t).length≤140737488355328) :
  Calls Tryz.prog 157 #[v] w fun e w'=>e=.returned (S (Kj t))∧Below w.heap.size w w':=by
 obtain⟨vv,kv,rfl,hS,hP⟩:=h
 have HSS:=hid hS
 obtain⟨av,cv,rfl,hl1,hr1⟩:=hS
 obtain⟨ak,ck,rfl,hl2,hr2⟩:=hP
 have HP:=hid hr2;have HL1:=hid hl1;have HL2:=hid hl2;have HJ:=hid hj;clear hr1 hr2 hl1 hl2 hj
 obtain⟨hd,hhd⟩:∃x,x=Kx t.lang:=⟨_,rfl⟩
 have HH:=hid hhd;simp only[Qv,S]
 by_cases hlang:t.lang=[]
 ·have hlb:t.lang.isEmpty=true:=by rw[hlang];rfl
  have hhd2:hd=[117,110,100]:=by rw[hhd];unfold Kx;rw[if_pos hlang];rfl
  have HLG:=hid hlang;clear hhd hlang
  go_enter Tryz.func157,Tryz.ntmps157
  have o20:∀(W:World) (k:Nat),W.heap.size=k→w.heap.size+1≤k→Qt (W.alloc (.cells #[.string ⟨t.script.toArray⟩,.string ⟨t.region.toArray⟩] 9)) (w.heap.size+1) (.slice (some ⟨k,0,none⟩) 2 2) [t.script,t.region]:=fun W k hk hW=>by
   subst hk
   simpa[S]using Nw W [t.script,t.region] (w.heap.size+1) hW (by simp)
  go_wp2_with (at_builtin;refine Lt rfl (.tmp 20) (.tmp 22) rfl (w.heap.size+1) _ _ [t.script,t.region] t.vars rfl ?xown rfl ?xrd ?xhl ?xhB ?_)
  case xown=>exact o20 ((w.alloc _).alloc _) (w.heap.size+1+1) (by simp) (by omega)
  case xrd=>exact HSS.out.below ((bal _ _).alloc (by simp) _ |>.alloc (by simp;omega) _)
  case xhl=>simp;omega
  case xhB=>simp
  intro vr w4 own4 gr4 mv4
  obtain⟨g,c,hvr⟩:∃g c,vr=.slice (some ⟨g,0,none⟩) ((t.script::t.region::t.vars).length) c:=by
   rcases own4.shape with ⟨_,e⟩|⟨g,cap,cur,e,_⟩
   ·simp at e
   ·exact⟨g,cap,e⟩
  obtain⟨r,hr⟩:∃x,x=t.script::t.region::t.vars:=⟨_,rfl⟩
  rw[←hr]at own4 hvr;have hrl:r.length≤1002:=by rw[hr];simp;omega
  have hr0:2≤r.length:=by rw[hr];simp
  subst hvr;have HR:=hid hr;have wq:=Wr.first w w4 _ _ _ _ r g c own4 gr4 mv4;clear own4 gr4 mv4 o20 hr;go_wp2_with fail
  go_loopg[3,5,25] r.length (fun k v3 _ vn W=>∃n:Nat,n≤r.length∧r.length≤n+k∧vn=.int .i64 n∧Wr w w.heap.size W v3 g c #[.string ⟨t.lang.toArray⟩,.string ⟨t.script.toArray⟩,.string ⟨t.region.toArray⟩,.slice av t.vars.length cv,.slice ak t.keys.length ck] (hd::(r.take n).filter Nx) r)
  case atStart=>exact⟨0,Nat.zero_le _,by omega,rfl,by rw[hhd2];exact wq⟩
  case round =>
   obtain⟨n,hn,hg,rfl,st⟩:=hrel
   clear wq hhd2;have HG:=hid hg;have hsz:w.heap.size+1≤wr.heap.size:=by have:=(World.ownsRow.lt st.or g rfl);omega
   clear hg
   by_cases hlt:n<r.length
   ·obtain⟨y,hy⟩:∃y,y=r[n]:=⟨_,rfl⟩
    have cy:wr.cell? ⟨g,n,none⟩=some (.string ⟨y.toArray⟩):=by
     rw[World.ownsRow.cellAt st.or n (by omega),hy]
     simp[S,hlt]
    have step:=Zjz r n hlt;rw[←hy]at step;have HST:=hid step;clear step hy
    by_cases hy0:y=[]
    ·have hb:(y != [])=false:=by rw[hy0];rfl
     have hb2:y.isEmpty=true:=by rw[hy0];rfl
     have HY:=hid hy0;clear hy0;go_wp2_with fail
     go_roundg (gk-1)
     case measure=>have:=HG.out;omega
     case rel=>exact⟨n+1,by omega,by have:=HG.out;omega,by simp,by rw[HST.out,if_pos HY.out,List.append_nil];exact st⟩
    ·have hb:(y != [])=true:=by rw[bne_iff_ne];exact hy0
     have hb2:y.isEmpty=false:=by cases hh:y with|nil=>exact absurd hh hy0|cons=>rfl
     have HY:=hid hy0;clear hy0
     go_wp2_with (at_builtin;refine Zz rfl (.tmp 31) (.tmp 33) rfl (w.heap.size+1) u3 _ y rfl st.os rfl ?xc1 ?xc2 ?_)
     case xc1=>have:=Ez r n;simp;omega
     case xc2=>exact hsz
     intro v5 w5 own5 gr5 mv5;have st5:=st.push hsz own5 gr5 mv5;clear own5 gr5 mv5 cy;go_wp2_with fail
     go_roundg (gk-1)
     case measure=>have:=HG.out;omega
     case rel=>exact⟨n+1,by omega,by have:=HG.out;omega,by simp,by rw[HST.out,if_neg HY.out];exact st5⟩
   ·obtain rfl:n=r.length:=by omega
    rw[List.take_length]at st;have c4:wr.cell? ⟨w.heap.size,4,none⟩=some (.slice ak t.keys.length ck):=cell_of_row _ _ _ _ _ _ st.box;have hlf:=Ez r r.length;rw[List.take_length]at hlf
    by_cases hk0:t.keys=[]
    ·have hkl:t.keys.length=0:=by rw[hk0];rfl
     rw[hkl]at c4;have HK:=hid hk0;have hw:hd::r.filter Nx=Lm t:=by unfold Lm Wj;rw[hk0,←HH.out,HR.out];simp[Nj]
     have hjo:=Sx wr _ u3 _ st.os (by simp;omega) (by rw[hw];exact HJ.out);rw[hw]at hjo;change Calls _ _ _ _ fun e w'=>e=.returned (.string ⟨(Kj t).toArray⟩)∧_ at hjo
     have HJJ:=hid hjo;have bel:=hid st.bel;clear hk0 hw st hjo;go_wp2_with fail;refine wp_loop_rounds 1 ?_;rw[rounds_succ];go_wp2_with fail;refine HJJ.out.mono ?_;rintro e w6 ⟨rfl,hb6⟩;go_wp2_with fail
     go_ret
     exact⟨rfl,bel.out.then hb6⟩
    ·obtain⟨b,off,rfl,hbl,hc⟩:=HP.out hk0
     have hkp:0<t.keys.length:=List.length_pos_iff.2 hk0;have hkl:(t.keys.length==0)=false:=by rw[beq_eq_false_iff_ne];omega
     have HK:=hid hk0;have HC:=hid hc;have HKP:=hid hkp;clear hc hk0
     go_wp2_with (at_builtin;refine Zz rfl (.tmp 40) (.tmp 41) rfl (w.heap.size+1) u3 _ [117] rfl st.os rfl ?xd1 ?xd2 ?_)
     case xd1=>simp;omega
     case xd2=>exact hsz
     intro v5 w5 own5 gr5 mv5;have st5:=st.push hsz own5 gr5 mv5;have hz5:w.heap.size+1≤w5.heap.size:=by have:=(World.ownsRow.lt st5.or g rfl);omega
     clear own5 gr5 mv5 c4 st;have c4:w5.cell? ⟨w.heap.size,4,none⟩=some (.slice (some ⟨b,off,none⟩) t.keys.length ck):=cell_of_row _ _ _ _ _ _ st5.box;go_wp2_with fail
     go_loopg[3,7,46] t.keys.length (fun k v3 _ vn W=>∃n:Nat,n≤t.keys.length∧t.keys.length≤n+k∧vn=.int .i64 n∧Wr w w.heap.size W v3 g c #[.string ⟨t.lang.toArray⟩,.string ⟨t.script.toArray⟩,.string ⟨t.region.toArray⟩,.slice av t.vars.length cv,.slice (some ⟨b,off,none⟩) t.keys.length ck] ((hd::r.filter Nx)++[[117]]++(t.keys.take n).flatMap Xk) r)
     case atStart=>exact⟨0,Nat.zero_le _,by omega,rfl,by simpa using st5⟩
     case round =>
      clear st5 hsz hlt hn HG
      obtain⟨n,hn,hg,rfl,st⟩:=hrel
      have HG:=hid hg;have hsz:w.heap.size+1≤wr.heap.size:=by have:=(World.ownsRow.lt st.or g rfl);omega
      clear hg
      by_cases hlt:n<t.keys.length
      ·obtain⟨ky,vy,hp⟩:∃a b,t.keys[n]=(a,b):=⟨_,_,rfl⟩
       have c0:wr.cell? ⟨b,off+n * 2,none⟩=some (.string ⟨ky.toArray⟩):=(st.bel.cell (p:=⟨b,off+n * 2,none⟩) hbl).trans (HC.out n 0 _ hlt (by rw[hp];rfl));have c1:wr.cell? ⟨b,off+n * 2+1,none⟩=some (.string ⟨vy.toArray⟩):=(st.bel.cell (p:=⟨b,off+n * 2+1,none⟩) hbl).trans (HC.out n 1 _ hlt (by rw[hp];rfl));have step:=Qdy t.keys n hlt;rw[hp]at step;have HST:=hid step;have hlp:=Tl (t.keys.take n);rw[List.length_take]at hlp;have hl5:((hd::r.filter Nx)++[[117]]++(t.keys.take n).flatMap Xk).length≤10000:=by simp only[List.length_append,List.length_cons,List.length_nil];omega
       have HL5:=hid hl5;clear step hp hl5 hlp;have st1:=st.below hsz (bal _ (.cells #[.string ⟨ky.toArray⟩,.string ⟨vy.toArray⟩] 37));have hbox:(wr.alloc (.cells #[.string ⟨ky.toArray⟩,.string ⟨vy.toArray⟩] 37)).heap[wr.heap.size]?=some (.cells #[.string ⟨ky.toArray⟩,.string ⟨vy.toArray⟩] 37 (0,0)):=heap_alloc_new wr _;have how:=World.ownsRow.lt st.os;clear st
       go_wp2_with (at_builtin;refine Ll rfl (.tmp 50) (.tmp 53) rfl (w.heap.size+1) _ _ ky (wr.heap.size+1) (by simp) rfl st1.os rfl ?xe1 ?xe2 ?_)
       case xe1=>have:=HL5.out;omega
       case xe2=>simp;omega
       intro v6 w6 own6 gr6 mv6;have st6:=st1.push (by simp;omega) own6 gr6 mv6;have hbox6:w6.heap[wr.heap.size]?=some (.cells #[.string ⟨ky.toArray⟩,.string ⟨vy.toArray⟩] 37 (0,0)):=by
        rw[gr6.block wr.heap.size (by simp) (fun e=>by have:=(how _ e.symm).2;omega)];exact hbox
       have hz6:w.heap.size+1≤w6.heap.size:=by have:=(World.ownsRow.lt st6.or g rfl);omega
       have hzb:wr.heap.size<w6.heap.size:=lt_of_block hbox6;have cb1:w6.cell? ⟨wr.heap.size,1,none⟩=some (.string ⟨vy.toArray⟩):=cell_of_row _ _ _ _ _ _ hbox6;clear own6 gr6 mv6 st1 hbox how c0 c1 hbox6
       by_cases hv0:vy=[]
       ·have hb:(vy != [])=false:=by rw[hv0];rfl
        have hb2:vy.isEmpty=true:=by rw[hv0];rfl
        have HV:=hid hv0;clear hv0;go_wp2_with fail
        go_roundg (gk-1)
        case measure=>have:=HG.out;omega
        case rel=>exact⟨n+1,by omega,by have:=HG.out;omega,by simp,by rw[HST.out,show Xk (ky,vy)=[ky]from if_pos HV.out];simpa using st6⟩
       ·have hb:(vy != [])=true:=by rw[bne_iff_ne];exact hv0
        have hb2:vy.isEmpty=false:=by cases hh:vy with|nil=>exact absurd hh hv0|cons=>rfl
        have HV:=hid hv0;clear hv0
        go_wp2_with (at_builtin;refine Zz rfl (.tmp 58) (.tmp 61) rfl (w.heap.size+1) _ _ vy rfl st6.os rfl ?xf1 ?xf2 ?_)
        case xf1=>have:=HL5.out;simp at this ⊢;omega
        case xf2=>exact hz6
        intro v7 w7 own7 gr7 mv7;have st7:=st6.push hz6 own7 gr7 mv7;clear own7 gr7 mv7 st6 cb1;go_wp2_with fail
        go_roundg (gk-1)
        case measure=>have:=HG.out;omega
        case rel=>exact⟨n+1,by omega,by have:=HG.out;omega,by simp,by rw[HST.out,show Xk (ky,vy)=[ky,vy]from if_neg HV.out];simpa using st7⟩
      ·obtain rfl:n=t.keys.length:=by omega
       rw[List.take_length]at st;have hlp:=Tl t.keys;have hw:(hd::r.filter Nx)++[[117]]++t.keys.flatMap Xk=Lm t:=by unfold Lm Wj;rw[←HH.out,HR.out];simp[Nj,HK.out]
       have hjo:=Sx wr _ _ _ st.os (by simp only[List.length_append,List.length_cons,List.length_nil];omega) (by rw[hw];exact HJ.out);rw[hw]at hjo;change Calls _ _ _ _ fun e w'=>e=.returned (.string ⟨(Kj t).toArray⟩)∧_ at hjo
       have HJJ:=hid hjo;have bel:=hid st.bel;clear hw st hjo hlp;go_wp2_with fail;refine HJJ.out.mono ?_;rintro e w6 ⟨rfl,hb6⟩;go_wp2_with fail
       go_ret
       exact⟨rfl,bel.out.then hb6⟩
 ·have hlb:t.lang.isEmpty=false:=by cases hh:t.lang with|nil=>exact absurd hh hlang|cons=>rfl
  have hhd2:hd=t.lang:=by rw[hhd];unfold Kx;rw[if_neg hlang]
  have HLG:=hid hlang;clear hhd hlang
  go_enter Tryz.func157,Tryz.ntmps157
  have o20:∀(W:World) (k:Nat),W.heap.size=k→w.heap.size+1≤k→Qt (W.alloc (.cells #[.string ⟨t.script.toArray⟩,.string ⟨t.region.toArray⟩] 9)) (w.heap.size+1) (.slice (some ⟨k,0,none⟩) 2 2) [t.script,t.region]:=fun W k hk hW=>by
   subst hk
   simpa[S]using Nw W [t.script,t.region] (w.heap.size+1) hW (by simp)
  go_wp2_with (at_builtin;refine Lt rfl (.tmp 20) (.tmp 22) rfl (w.heap.size+1) _ _ [t.script,t.region] t.vars rfl ?yown rfl ?yrd ?yhl ?yhB ?_)
  case yown=>exact o20 ((w.alloc _).alloc _) (w.heap.size+1+1) (by simp) (by omega)
  case yrd=>exact HSS.out.below ((bal _ _).alloc (by simp) _ |>.alloc (by simp;omega) _)
  case yhl=>simp;omega
  case yhB=>simp
  intro vr w4 own4 gr4 mv4
  obtain⟨g,c,hvr⟩:∃g c,vr=.slice (some ⟨g,0,none⟩) ((t.script::t.region::t.vars).length) c:=by
   rcases own4.shape with ⟨_,e⟩|⟨g,cap,cur,e,_⟩
   ·simp at e
   ·exact⟨g,cap,e⟩
  obtain⟨r,hr⟩:∃x,x=t.script::t.region::t.vars:=⟨_,rfl⟩
  rw[←hr]at own4 hvr;have hrl:r.length≤1002:=by rw[hr];simp;omega
  have hr0:2≤r.length:=by rw[hr];simp
  subst hvr;have HR:=hid hr;have wq:=Wr.first w w4 _ _ _ _ r g c own4 gr4 mv4;clear own4 gr4 mv4 o20 hr;go_wp2_with fail
  go_loopg[3,5,25] r.length (fun k v3 _ vn W=>∃n:Nat,n≤r.length∧r.length≤n+k∧vn=.int .i64 n∧Wr w w.heap.size W v3 g c #[.string ⟨t.lang.toArray⟩,.string ⟨t.script.toArray⟩,.string ⟨t.region.toArray⟩,.slice av t.vars.length cv,.slice ak t.keys.length ck] (hd::(r.take n).filter Nx) r)
  case atStart=>exact⟨0,Nat.zero_le _,by omega,rfl,by rw[hhd2];exact wq⟩
  case round =>
   obtain⟨n,hn,hg,rfl,st⟩:=hrel
   clear wq hhd2;have HG:=hid hg;have hsz:w.heap.size+1≤wr.heap.size:=by have:=(World.ownsRow.lt st.or g rfl);omega
   clear hg
   by_cases hlt:n<r.length
   ·obtain⟨y,hy⟩:∃y,y=r[n]:=⟨_,rfl⟩
    have cy:wr.cell? ⟨g,n,none⟩=some (.string ⟨y.toArray⟩):=by
     rw[World.ownsRow.cellAt st.or n (by omega),hy]
     simp[S,hlt]
    have step:=Zjz r n hlt;rw[←hy]at step;have HST:=hid step;clear step hy
    by_cases hy0:y=[]
    ·have hb:(y != [])=false:=by rw[hy0];rfl
     have hb2:y.isEmpty=true:=by rw[hy0];rfl
     have HY:=hid hy0;clear hy0;go_wp2_with fail
     go_roundg (gk-1)
     case measure=>have:=HG.out;omega
     case rel=>exact⟨n+1,by omega,by have:=HG.out;omega,by simp,by rw[HST.out,if_pos HY.out,List.append_nil];exact st⟩
    ·have hb:(y != [])=true:=by rw[bne_iff_ne];exact hy0
     have hb2:y.isEmpty=false:=by cases hh:y with|nil=>exact absurd hh hy0|cons=>rfl
     have HY:=hid hy0;clear hy0
     go_wp2_with (at_builtin;refine Zz rfl (.tmp 31) (.tmp 33) rfl (w.heap.size+1) u3 _ y rfl st.os rfl ?yc1 ?yc2 ?_)
     case yc1=>have:=Ez r n;simp;omega
     case yc2=>exact hsz
     intro v5 w5 own5 gr5 mv5;have st5:=st.push hsz own5 gr5 mv5;clear own5 gr5 mv5 cy;go_wp2_with fail
     go_roundg (gk-1)
     case measure=>have:=HG.out;omega
     case rel=>exact⟨n+1,by omega,by have:=HG.out;omega,by simp,by rw[HST.out,if_neg HY.out];exact st5⟩
   ·obtain rfl:n=r.length:=by omega
    rw[List.take_length]at st;have c4:wr.cell? ⟨w.heap.size,4,none⟩=some (.slice ak t.keys.length ck):=cell_of_row _ _ _ _ _ _ st.box;have hlf:=Ez r r.length;rw[List.take_length]at hlf
    by_cases hk0:t.keys=[]
    ·have hkl:t.keys.length=0:=by rw[hk0];rfl
     rw[hkl]at c4;have HK:=hid hk0;have hw:hd::r.filter Nx=Lm t:=by unfold Lm Wj;rw[hk0,←HH.out,HR.out];simp[Nj]
     have hjo:=Sx wr _ u3 _ st.os (by simp;omega) (by rw[hw];exact HJ.out);rw[hw]at hjo;change Calls _ _ _ _ fun e w'=>e=.returned (.string ⟨(Kj t).toArray⟩)∧_ at hjo
     have HJJ:=hid hjo;have bel:=hid st.bel;clear hk0 hw st hjo;go_wp2_with fail;refine wp_loop_rounds 1 ?_;rw[rounds_succ];go_wp2_with fail;refine HJJ.out.mono ?_;rintro e w6 ⟨rfl,hb6⟩;go_wp2_with fail
     go_ret
     exact⟨rfl,bel.out.then hb6⟩
    ·obtain⟨b,off,rfl,hbl,hc⟩:=HP.out hk0
     have hkp:0<t.keys.length:=List.length_pos_iff.2 hk0;have hkl:(t.keys.length==0)=false:=by rw[beq_eq_false_iff_ne];omega
     have HK:=hid hk0;have HC:=hid hc;have HKP:=hid hkp;clear hc hk0
     go_wp2_with (at_builtin;refine Zz rfl (.tmp 40) (.tmp 41) rfl (w.heap.size+1) u3 _ [117] rfl st.os rfl ?yd1 ?yd2 ?_)
     case yd1=>simp;omega
     case yd2=>exact hsz
     intro v5 w5 own5 gr5 mv5;have st5:=st.push hsz own5 gr5 mv5;have hz5:w.heap.size+1≤w5.heap.size:=by have:=(World.ownsRow.lt st5.or g rfl);omega
     clear own5 gr5 mv5 c4 st;have c4:w5.cell? ⟨w.heap.size,4,none⟩=some (.slice (some ⟨b,off,none⟩) t.keys.length ck):=cell_of_row _ _ _ _ _ _ st5.box;go_wp2_with fail
     go_loopg[3,7,46] t.keys.length (fun k v3 _ vn W=>∃n:Nat,n≤t.keys.length∧t.keys.length≤n+k∧vn=.int .i64 n∧Wr w w.heap.size W v3 g c #[.string ⟨t.lang.toArray⟩,.string ⟨t.script.toArray⟩,.string ⟨t.region.toArray⟩,.slice av t.vars.length cv,.slice (some ⟨b,off,none⟩) t.keys.length ck] ((hd::r.filter Nx)++[[117]]++(t.keys.take n).flatMap Xk) r)
     case atStart=>exact⟨0,Nat.zero_le _,by omega,rfl,by simpa using st5⟩
     case round =>
      clear st5 hsz hlt hn HG
      obtain⟨n,hn,hg,rfl,st⟩:=hrel
      have HG:=hid hg;have hsz:w.heap.size+1≤wr.heap.size:=by have:=(World.ownsRow.lt st.or g rfl);omega
      clear hg
      by_cases hlt:n<t.keys.length
      ·obtain⟨ky,vy,hp⟩:∃a b,t.keys[n]=(a,b):=⟨_,_,rfl⟩
       have c0:wr.cell? ⟨b,off+n * 2,none⟩=some (.string ⟨ky.toArray⟩):=(st.bel.cell (p:=⟨b,off+n * 2,none⟩) hbl).trans (HC.out n 0 _ hlt (by rw[hp];rfl));have c1:wr.cell? ⟨b,off+n * 2+1,none⟩=some (.string ⟨vy.toArray⟩):=(st.bel.cell (p:=⟨b,off+n * 2+1,none⟩) hbl).trans (HC.out n 1 _ hlt (by rw[hp];rfl));have step:=Qdy t.keys n hlt;rw[hp]at step;have HST:=hid step;have hlp:=Tl (t.keys.take n);rw[List.length_take]at hlp;have hl5:((hd::r.filter Nx)++[[117]]++(t.keys.take n).flatMap Xk).length≤10000:=by simp only[List.length_append,List.length_cons,List.length_nil];omega
       have HL5:=hid hl5;clear step hp hl5 hlp;have st1:=st.below hsz (bal _ (.cells #[.string ⟨ky.toArray⟩,.string ⟨vy.toArray⟩] 37));have hbox:(wr.alloc (.cells #[.string ⟨ky.toArray⟩,.string ⟨vy.toArray⟩] 37)).heap[wr.heap.size]?=some (.cells #[.string ⟨ky.toArray⟩,.string ⟨vy.toArray⟩] 37 (0,0)):=heap_alloc_new wr _;have how:=World.ownsRow.lt st.os;clear st
       go_wp2_with (at_builtin;refine Ll rfl (.tmp 50) (.tmp 53) rfl (w.heap.size+1) _ _ ky (wr.heap.size+1) (by simp) rfl st1.os rfl ?ye1 ?ye2 ?_)
       case ye1=>have:=HL5.out;omega
       case ye2=>simp;omega
       intro v6 w6 own6 gr6 mv6;have st6:=st1.push (by simp;omega) own6 gr6 mv6;have hbox6:w6.heap[wr.heap.size]?=some (.cells #[.string ⟨ky.toArray⟩,.string ⟨vy.toArray⟩] 37 (0,0)):=by
        rw[gr6.block wr.heap.size (by simp) (fun e=>by have:=(how _ e.symm).2;omega)];exact hbox
       have hz6:w.heap.size+1≤w6.heap.size:=by have:=(World.ownsRow.lt st6.or g rfl);omega
       have hzb:wr.heap.size<w6.heap.size:=lt_of_block hbox6;have cb1:w6.cell? ⟨wr.heap.size,1,none⟩=some (.string ⟨vy.toArray⟩):=cell_of_row _ _ _ _ _ _ hbox6;clear own6 gr6 mv6 st1 hbox how c0 c1 hbox6
       by_cases hv0:vy=[]
       ·have hb:(vy != [])=false:=by rw[hv0];rfl
        have hb2:vy.isEmpty=true:=by rw[hv0];rfl
        have HV:=hid hv0;clear hv0;go_wp2_with fail
        go_roundg (gk-1)
        case measure=>have:=HG.out;omega
        case rel=>exact⟨n+1,by omega,by have:=HG.out;omega,by simp,by rw[HST.out,show Xk (ky,vy)=[ky]from if_pos HV.out];simpa using st6⟩
       ·have hb:(vy != [])=true:=by rw[bne_iff_ne];exact hv0
        have hb2:vy.isEmpty=false:=by cases hh:vy with|nil=>exact absurd hh hv0|cons=>rfl
        have HV:=hid hv0;clear hv0
        go_wp2_with (at_builtin;refine Zz rfl (.tmp 58) (.tmp 61) rfl (w.heap.size+1) _ _ vy rfl st6.os rfl ?yf1 ?yf2 ?_)
        case yf1=>have:=HL5.out;simp at this ⊢;omega
        case yf2=>exact hz6
        intro v7 w7 own7 gr7 mv7;have st7:=st6.push hz6 own7 gr7 mv7;clear own7 gr7 mv7 st6 cb1;go_wp2_with fail
        go_roundg (gk-1)
        case measure=>have:=HG.out;omega
        case rel=>exact⟨n+1,by omega,by have:=HG.out;omega,by simp,by rw[HST.out,show Xk (ky,vy)=[ky,vy]from if_neg HV.out];simpa using st7⟩
      ·obtain rfl:n=t.keys.length:=by omega
       rw[List.take_length]at st;have hlp:=Tl t.keys;have hw:(hd::r.filter Nx)++[[117]]++t.keys.flatMap Xk=Lm t:=by unfold Lm Wj;rw[←HH.out,HR.out];simp[Nj,HK.out]
       have hjo:=Sx wr _ _ _ st.os (by simp only[List.length_append,List.length_cons,List.length_nil];omega) (by rw[hw];exact HJ.out);rw[hw]at hjo;change Calls _ _ _ _ fun e w'=>e=.returned (.string ⟨(Kj t).toArray⟩)∧_ at hjo
       have HJJ:=hid hjo;have bel:=hid st.bel;clear hw st hjo hlp;go_wp2_with fail;refine HJJ.out.mono ?_;rintro e w6 ⟨rfl,hb6⟩;go_wp2_with fail
       go_ret
       exact⟨rfl,bel.out.then hb6⟩
end
section
open Go.RowKit Go.Lib Go.Sort
theorem cell_two_new (w:World)(a b:Value)(e:TypeId)(j:Nat)(u:Value)(h:[a,b][j]?=some u):(w.alloc (.cells #[a,b] e)).cell? ((⟨w.heap.size,0,none⟩:Addr).add j)=some u:=by
 have hr:=heap_alloc_new w (.cells #[a,b] e);have hx:=cell_of_row _ _ j _ _ _ hr;have hadd:((⟨w.heap.size,0,none⟩:Addr).add j)=⟨w.heap.size,j,none⟩:=by
  unfold Addr.add
  split
  ·next e=>subst e;rfl
  ·simp
 rw[hadd,hx]
 match j,h with
 |0,h=>simpa using h
 |1,h=>simpa using h
theorem Xc {w:World}{ops:Array Oper}{rest:List Oper}{o:Oper}{a:Act}{Q:Exit→Act→World→Prop}(hgd:o.guard=none)(s x:Operand)
  (ho:o.op=.call { callee:=.builtin .append,args:=#[s,x],argTypes:=#[31,31] })
  (B:Nat)(v:Value)(l:List (Str×Str))(y:Str×Str)(hs:a.eval s=v)(hown:Qd w B v l)(hx:a.eval x=.slice (some ⟨w.heap.size,0,none⟩) 1 1)(hl:l.length≤1000000)(hB:B≤w.heap.size)
  (h:∀v' w',Qd w' B v' (l++[y])→w.grownBy w' v.ownBlock→Nk w v v'→wpList Tryz.prog ops Q rest (a.put o.dst v') w') :
  wpList Tryz.prog ops Q (o::rest) a (w.alloc (.cells #[.string ⟨y.1.toArray⟩,.string ⟨y.2.toArray⟩] 37)):=by
 obtain⟨i0,hi,hz0,hz1,hz2⟩:=info_parts Zph
 refine Gd hgd s x 31 ho B 37 i0 (.agg #[.string ⟨#[]⟩,.string ⟨#[]⟩]) 2 32 Tryz.underlying31 hi hz0 hz1 hz2 rfl (by decide) v l.length (Kz l) hs (World.ownsRow.alloc hown _) ⟨w.heap.size,0,none⟩ 1 1 [.string ⟨y.1.toArray⟩,.string ⟨y.2.toArray⟩] hx rfl (cell_two_new _ _ _ _) (fun u hu=>by simp at hu;rcases hu with rfl|rfl <;> rfl) (by unfold maxLen;omega) (by omega) (by simp;omega) ?_;intro v' w' own gr mv;refine h v' w' (Xh own (by simp) (by simp[Kz,Kt,S])) ⟨gr.os,gr.tape,gr.output,Nat.le_trans (by simp) gr.size,fun k hk hne=>?_⟩ ?_
 ·rw[gr.block k (by simp;omega) hne];exact heap_alloc_old _ _ hk
 ·rcases mv with m|⟨k,h1,h2⟩
  ·exact Or.inl m
  ·exact Or.inr ⟨k,h1,by simp at h2;omega⟩
end
end Go.Proofs.YtbbmdbolkicpcabGreatDoor
