/- AlGo, ChainW, ChainQ, Open, TbMem, TableP, TbSt, TbPut, TableQ, PtParse -/
import Derived.Test.YtbbmdbolkicpcabGreatDoorSDG07
import Derived.Test.YtbbmdbolkicpcabGreatDoorSDG04
import Derived.SliceStrings
import Derived.WideShapes
import Derived.ChangeArms
import Derived.ChangeSame
import Derived.Maps.OwnSet
import Derived.Maps.OwnOps
import Derived.Maps.StringElems
import Derived.Maps.RangeWalk
import Derived.Sort.KeysCollected
import Derived.Test.YtbbmdbolkicpcabGreatDoorSDG01
import Derived.BigQuiet
import Derived.Test.YtbbmdbolkicpcabGreatDoorSDG06
set_option maxRecDepth 100000
set_option maxHeartbeats 32000000
set_option linter.unusedVariables false
set_option linter.unusedSimpArgs false
namespace Go.Proofs.YtbbmdbolkicpcabGreatDoor
section
open Go.Lib
def Xyx (m:List Stp):Str ⊕ Nat:=match Zw m with
 |some t=>.inl t
 |none=>.inr 3
def goS (l:List Stp)(s:Str):Str ⊕ Nat:=match Pm (s.length+1) s with
 |none=>.inr 230
 |some m=>Xyx (l++m)
def goK (l:List Stp)(n:Str)(ks:List (Str×Str))(s:Str):Str ⊕ Nat:=match keysA s.length ks s with
 |none=>.inr 230
 |some (kk,[])=>Xyx (l++[(n,Ky kk)])
 |some (kk,c::s3)=>if c=47 then goS (l++[(n,Ky kk)]) s3 else .inr 230
def goC (first:Bool)(up:List Stp)(s:Str):Str ⊕ Nat:=match Hc (s.length+1) first up s with
 |none=>.inr 230
 |some (l,r)=>goS l r
theorem Qyx:∀(f g:Nat)(s:Str),s.length<f→s.length<g→Pm f s=Pm g s
 |0,_,_,h,_=>absurd h (Nat.not_lt_zero _)
 |_+1,0,_,_,h=>absurd h (Nat.not_lt_zero _)
 |f+1,g+1,s,h1,h2=>by
  unfold Pm
  by_cases hn:(Xf s).1=[]
  ·rw[if_pos hn,if_pos hn]
  ·rw[if_neg hn,if_neg hn]
   cases e:keysA (Xf s).2.length [] (Xf s).2 with
   |none=>rfl
   |some z =>
    obtain⟨ks,r⟩:=z
    have hr:=(Qpj _ _ _ e (by simp) (by simp)).2.2;have hl:=Zvq hn
    cases r with
    |nil=>rfl
    |cons c s3 =>
     simp only
     rw[List.length_cons]at hr;rw[Qyx f g s3 (by omega) (by omega)]
theorem goS_eq (l:List Stp)(s:Str):goS l s=if(Xf s).1=[]then .inr 230 else goK l (Xf s).1 [] (Xf s).2:=by
 unfold goS Pm
 by_cases hn:(Xf s).1=[]
 ·rw[if_pos hn,if_pos hn]
 ·rw[if_neg hn,if_neg hn];unfold goK
  cases e:keysA (Xf s).2.length [] (Xf s).2 with
  |none=>rfl
  |some z =>
   obtain⟨ks,r⟩:=z
   have hr:=(Qpj _ _ _ e (by simp) (by simp)).2.2;have hl:=Zvq hn
   cases r with
   |nil=>rfl
   |cons c s3 =>
    simp only
    rw[List.length_cons]at hr
    by_cases hc:c=47
    ·rw[if_pos hc,if_pos hc,goS,Qyx s.length (s3.length+1) s3 (by omega) (by omega)]
     cases Pm (s3.length+1) s3 with
     |none=>rfl
     |some m=>simp
    ·rw[if_neg hc,if_neg hc]
theorem Qpk {ks:List (Str×Str)}{s:Str}(h:Xx 91 s=none):keysA s.length ks s=some (ks,s):=by
 cases s with
 |nil=>rfl
 |cons c s=>rw[List.length_cons];unfold keysA;rw[h]
theorem goK_end (l:List Stp)(n:Str)(ks:List (Str×Str)):goK l n ks []=Xyx (l++[(n,Ky ks)]):=rfl
theorem goK_step {s3:Str}(l:List Stp)(n:Str)(ks:List (Str×Str)):goK l n ks (47::s3)=goS (l++[(n,Ky ks)]) s3:=by
 unfold goK;rw[Qpk (by rfl)];rfl
theorem goK_wrong {s3:Str}{c:UInt8}(l:List Stp)(n:Str)(ks:List (Str×Str))(h1:c≠91)(h2:c≠47):goK l n ks (c::s3)=.inr 230:=by
 unfold goK;rw[Qpk (by simp[Xx,h1])];simp only;rw[if_neg h2]
theorem Qpv {ks:List (Str×Str)}{s1:Str}:keysA (91::s1).length ks (91::s1)=match Rp ks s1 with
 |none=>none
 |some (k,s2)=>keysA s1.length (ks++[k]) s2:=by rw[List.length_cons];rfl
theorem Uw {l:List Stp}{n:Str}{ks:List (Str×Str)}{s1:Str}(h:Rp ks s1=none):goK l n ks (91::s1)=.inr 230:=by
 unfold goK;rw[Qpv,h]
theorem goK_more {l:List Stp}{n:Str}{ks:List (Str×Str)}{s1 s2:Str}{k:Str×Str}(h:Rp ks s1=some (k,s2)):goK l n ks (91::s1)=goK l n (ks++[k]) s2:=by
 unfold goK;rw[Qpv,h];simp only;rw[Qpx s1.length s2.length _ _ (Nat.le_of_lt (Qgj h).2.2.2.1) (Nat.le_refl _)]
theorem Qyj:∀(f g:Nat)(first:Bool)(up:List Stp)(s:Str),s.length<f→s.length<g→Hc f first up s=Hc g first up s
 |0,_,_,_,_,h,_=>absurd h (Nat.not_lt_zero _)
 |_+1,0,_,_,_,_,h=>absurd h (Nat.not_lt_zero _)
 |f+1,g+1,first,up,s,h1,h2=>by
  unfold Hc
  split
  ·split
   ·rfl
   ·split
    ·exact Qyj f g false up.dropLast _ (by simp at h1;omega) (by simp at h2;omega)
    ·rfl
  ·rfl
theorem goC_stop {first:Bool}{up:List Stp}{s:Str}(h:(first||Zl (fun c=>c==46) s)=false):goC first up s=goS up s:=by
 unfold goC Hc;rw[h];rfl
theorem Xmh {first:Bool}{s:Str}(h:(first||Zl (fun c=>c==46) s)=true):goC first [] s=.inr 230:=by
 unfold goC Hc;rw[h];rfl
theorem Ztz {first:Bool}{up:List Stp}{r:Str}(h:(first||Zl (fun c=>c==46) (46::46::47::r))=true)(hup:up≠[]):goC first up (46::46::47::r)=goC false up.dropLast r:=by
 unfold goC;rw[show Hc ((46::46::47::r).length+1) first up (46::46::47::r)=Hc (46::46::47::r).length false up.dropLast r from by
  conv=>lhs;unfold Hc
  rw[h,if_pos rfl,if_neg hup]
  rfl]
 rw[Qyj _ (r.length+1) _ _ _ (by simp;omega) (by omega)]
theorem Xmg {first:Bool}{up:List Stp}{s:Str}(h:(first||Zl (fun c=>c==46) s)=true)(hs:¬ [46,46,47] <+: s):goC first up s=.inr 230:=by
 unfold goC Hc;rw[h,if_pos rfl]
 split
 ·rfl
 ·next l r e =>
  split at e
  ·cases e
  ·split at e
   ·next r'=>exact absurd ⟨r',rfl⟩ hs
   ·cases e
theorem target_go {g s:Str}{x:Stp}{up:List Stp}(h:Qy g=some (x::up)):Gj g s=goC true (x::up) s:=by
 unfold Gj goC;rw[h]
 simp only
 cases Hc (s.length+1) true (x::up) s with
 |none=>rfl
 |some z =>
  obtain⟨l,r⟩:=z
  simp only
  unfold goS
  cases Pm (r.length+1) r with
  |none=>rfl
  |some m =>
   simp only
   unfold Xyx
   rfl
theorem Zvx {g s:Str}(h:Qy g=none∨Qy g=some []):Gj g s=.inr 2:=by
 unfold Gj
 rcases h with h|h <;> rw[h]
def kw (ks:List (Str×Str)):Nat:=(ks.map fun k=>k.1.length+k.2.length+2).sum
theorem kw_snoc (ks:List (Str×Str))(k:Str×Str):kw (ks++[k])=kw ks+(k.1.length+k.2.length+2):=by simp[kw]
theorem Qpw {s v r:Str}(h:Jr s=some (v,r)):v.length+r.length+2=s.length:=by
 cases s with
 |nil=>cases h
 |cons c s =>
  change (if c=39∨c=34 then Fp c s else none)=some (v,r)at h
  by_cases hc:c=39∨c=34
  ·rw[if_pos hc]at h
   have:=(Zvz h).2.2
   rw[List.length_cons];omega
  ·rw[if_neg hc]at h;cases h
theorem keyA_len {ks:List (Str×Str)}{s r:Str}{k:Str×Str}(h:Rp ks s=some (k,r)):k.1.length+k.2.length+2+r.length≤s.length:=by
 unfold Rp at h
 split at h
 ·cases h
 next s2 e2 =>
 split at h
 ·cases h
 next hn =>
 split at h
 ·cases h
 next hne =>
 split at h
 ·cases h
 next s4 e4 =>
 split at h
 ·cases h
 next v s5 e5 =>
 split at h
 ·cases h
 next s6 e6 =>
 cases h;have h3:=Qpw e5;have l2:=congrArg List.length (Kh e2);have l4:=congrArg List.length (Kh e4);have l6:=congrArg List.length (Kh e6);have l3:=congrArg List.length (Mv s2);rw[List.length_append]at l3;rw[List.length_cons]at l2 l4 l6
 simp only
 omega
theorem dress_le2 (v:Str):(Ql v).length≤2 * v.length:=by
 unfold Ql
 induction v with
 |nil=>simp
 |cons c v ih =>
  rw[List.flatMap_cons,List.length_append,List.length_cons]
  have:(if Km c then [92,c]else [c]:Str).length≤2:=by split <;> simp
  omega
theorem keysT_len (ks:List (Str×Str)):(Zt ks).length≤2 * kw ks:=by
 unfold Zt kw
 induction ks with
 |nil=>simp
 |cons k r ih =>
  rw[List.flatMap_cons,List.length_append,List.map_cons,List.sum_cons]
  have:(Ff k).length≤2 * (k.1.length+k.2.length+2):=by
   unfold Ff
   have:=dress_le2 k.2
   simp
   omega
  omega
theorem Xpq {a b:List (Str×Str)}(h:a.Perm b):kw a=kw b:=(h.map _).sum_nat
theorem text_srt (n:Str)(ks:List (Str×Str)):(Qp (n,Ky ks)).length≤n.length+2 * kw ks:=by
 unfold Qp;rw[List.length_append,←Xpq (Vg ks)]
 have:=keysT_len (Ky ks)
 simp only
 omega
theorem Qjy:∀(l ks:List (Str×Str)),(∀k∈l,Xg k.1=true∧Jf k.2=true)→(ks++l).Pairwise (fun a b=>a.1<b.1)→Fb ks l=true
 |[],_,_,_=>rfl
 |k::r,ks,h,hp=>by
  simp only[Fb,Bool.and_eq_true,Bool.not_eq_true']
  obtain⟨h1,h2⟩:=h k (List.mem_cons_self ..)
  refine⟨⟨⟨h1,?_⟩,h2⟩,Qjy r (ks++[k]) (fun x hx=>h x (List.mem_cons_of_mem _ hx)) (by rw[List.append_assoc];exact hp)⟩
  unfold Vx
  cases e:ks.getLast? with
  |none=>rfl
  |some x =>
   have hx:x∈ks:=List.mem_of_getLast? e
   have:=(List.pairwise_append.1 hp).2.2 x hx k (List.mem_cons_self ..)
   exact decide_eq_false (fun hle=>(List.not_lt.2 hle) this)
theorem Xyj {ks:List (Str×Str)}(hn:(ks.map (·.1)).Nodup):(Ky ks).Pairwise (fun a b=>a.1<b.1):=by
 have h1:=Mq ks;have h2:((Ky ks).map (·.1)).Nodup:=((Vg ks).map _).nodup_iff.2 hn;rw[List.nodup_iff_pairwise_ne,List.pairwise_map]at h2
 refine(h1.and h2).imp fun {a b} h=>?_
 by_cases hlt:a.1<b.1
 ·exact hlt
 ·exact absurd (List.le_antisymm (List.not_lt.1 h.1) (List.not_lt.1 hlt)) h.2
theorem may_srt {n:Str}{ks:List (Str×Str)}(h1:Xg n=true)(h2:∀k∈ks,Xg k.1=true∧Jf k.2=true)(h3:(ks.map (·.1)).Nodup):Kr (n,Ky ks)=true:=by
 unfold Kr;rw[h1,Qjy _ _ (fun k hk=>h2 k ((Vg ks).mem_iff.1 hk)) (by simpa using Xyj h3)]
 rfl
end
section
theorem Uy {s:Str}(h:Qj s=true):s.length≤128:=by
 obtain⟨h1,_⟩:=Dd h
 have h2:=Zfg s;unfold okR at h2;rw[if_pos h1]at h2
 by_cases h3:128<s.length
 ·rw[if_pos h3]at h2;cases h2
 ·omega
theorem Xpz:∀{r done:List (Str×Str)}{e i:Nat},Fm done r=some (e,i)→e=2∨e=211
 |[],_,_,_,h=>by cases h
 |p::r,done,e,i,h=>by
  unfold Fm at h
  split at h
  ·split at h
   ·exact Xpz h
   ·cases h;exact Or.inr rfl
  ·cases h;exact Or.inl rfl
theorem Zdq {D:List (Str×Str)}{i:Nat}(h:Pf D 0 i):Gh D∧(∀p∈D,¬Ch D p.1)∧Fm [] D=none∧i=0:=by
 rcases h with h|⟨_,h,_⟩|⟨h1,_,hi,h2⟩
 ·rcases Xpz h with h|h <;> cases h
 ·cases h
 ·have:=Zsh h1 (fun p hp=>by cases hp)
  exact⟨this,h2,h1,hi⟩
theorem up_ne {D:List (Str×Str)}{s:Str}{l:List Str}(h:Up D s l):l≠[]:=by
 obtain⟨r,rfl⟩:=Uk h;simp
theorem up_end {D:List (Str×Str)}{s:Str}{l:List Str}(h:Up D s l)(j:Nat)(hj:j<l.length)(hr:l[j]=Qs):j+1=l.length:=by
 have h1:=Eh j hj h;rw[hr]at h1;have h2:=congrArg List.length (Zbg h1 (Zbh D));simp only[List.length_drop,List.length_cons,List.length_nil]at h2
 omega
theorem Xpx {D:List (Str×Str)}{s:Str}{l:List Str}(h:Up D s l)(j:Nat)(hj:j<l.length)(hr:l[j]≠Qs):∃hj':j+1<l.length,Vn D l[j]=some l[j+1]:=by
 have h1:=Eh j hj h;rw[List.drop_eq_getElem_cons hj]at h1
 by_cases hj':j+1<l.length
 ·rw[List.drop_eq_getElem_cons hj']at h1
  exact⟨hj',h1.2.2.1⟩
 ·rw[List.drop_of_length_le (by omega)]at h1;exact absurd h1.2 hr
theorem Ztx {D:List (Str×Str)}{s t:Str}(h:Vn D s=some t):Vq D s=(t,true):=by
 unfold Vn at h
 split at h
 ·rename_i h2
  cases h;generalize Vq D s=q at *
  cases q;simp only at *;rw[h2]
 ·cases h
theorem Ztj {D:List (Str×Str)}{s t:Str}(h:Vq D s=(t,true)):Vn D s=some t:=by unfold Vn;rw[h];rfl
theorem Ztk {D:List (Str×Str)}{s:Str}(h:(Vq D s).2=false):Vn D s=none:=by unfold Vn;rw[h];rfl
theorem up_len {D:List (Str×Str)}(hD:Gh D){s:Str}{l:List Str}(hs:Qj s=true)(h:Up D s l):l.length≤12 * (D.length+1):=by
 refine Nat.le_trans (Dp l (reach D s) ?_ ?_) (Zkh D s)
 ·rw[List.nodup_iff_pairwise_ne,List.pairwise_iff_getElem];intro i j hi hj hij;exact up_nodup h i j hj hij
 ·intro x hx;have key:∀j (hj:j<l.length),iter D j s=some l[j]:=by
   intro j
   induction j with
   |zero =>
    intro hj
    obtain⟨r,rfl⟩:=Uk h
    rfl
   |succ j ih =>
    intro hj;rw[iter,ih (by omega),Option.bind_some];have hne:l[j]≠Qs:=fun e=>by have:=up_end h j (by omega) e;omega
    obtain⟨_,h2⟩:=Xpx h j (by omega) hne
    exact h2
  obtain⟨j,hj,rfl⟩:=List.getElem_of_mem hx
  exact Pg hD hs j _ (key j hj)
theorem ring_no1 {D:List (Str×Str)}{k a:Str}{j:Nat}(hj:iter D j k=some a)(hs:Vn D a=none)(hL:∀i,i<j→iter D (i+1) k≠some k):¬Ch D k:=by
 rintro⟨n,hn⟩
 by_cases h:n<j
 ·exact hL n h hn
 ·rw[show n+1=j+1+(n-j)by omega,Sc,iter,hj,Option.bind_some,hs]at hn
  cases hn
theorem ring_no3 {D:List (Str×Str)}{k a x:Str}{i j:Nat}(hj:iter D j k=some a)(hs:Vn D a=some x)(hi:i<j)(hx:iter D (i+1) k=some x)(hL:∀i,i<j→iter D (i+1) k≠some k):¬Ch D k:=by
 have key:∀m,∃i',i'<j∧iter D (m+1) k=iter D (i'+1) k:=by
  intro m
  induction m using Nat.strongRecOn with
  |_ m ih =>
   by_cases h:m<j
   ·exact⟨m,h,rfl⟩
   ·have h1:iter D (m+1) k=iter D (i+(m-j)+1) k:=by
     rw[show m+1=j+1+(m-j)by omega,Sc,iter,hj,Option.bind_some,hs,show i+(m-j)+1=i+1+(m-j)by omega,Sc,hx]
    obtain⟨i',h2,h3⟩:=ih (i+(m-j)) (by omega)
    exact⟨i',h2,h1.trans h3⟩
 rintro⟨n,hn⟩
 obtain⟨i',h1,h2⟩:=key n
 exact hL i' h1 (h2▸hn)
def Pp (D:List (Str×Str))(s:Str)(l:List Str):Prop:=(Qj s=true∧Up D s l)∨(Qj s=false∧l=[])
theorem chain_ex {D:List (Str×Str)}(h0:Pf D 0 0)(s:Str):∃l,Pp D s l:=by
 obtain⟨h1,h2,_⟩:=Zdq h0
 by_cases hs:Qj s=true
 ·obtain⟨l,hl⟩:=up_ex h1 h2 hs
  exact⟨l,Or.inl ⟨hs,hl⟩⟩
 ·exact⟨[],Or.inr ⟨by simpa using hs,rfl⟩⟩
theorem Qpy {l:List (Str×Str)}{n:Nat}(hn:n<l.length):Fm (l.take n) (l.drop n) =
  if(Qj l[n].1=true∧Qj l[n].2=true)∧l[n].1≠Qs then(if look (l.take n) l[n].1=none then Fm (l.take (n+1)) (l.drop (n+1))else some (211,n))else some (2,n):=by
 rw[List.drop_eq_getElem_cons hn,Fm,List.length_take,show min n l.length=n by omega,List.take_add_one,List.getElem?_eq_getElem hn]
 rfl
end
section
open Go.RowKit Go.Lib Go.Sort Go.ChangeShapes Go.WideShapes
section
variable {H:Type}{enc:TypeId × Value→H}{w:World}{base:Nat}{spare:Nat→Bool}{held:Bool}
def PSz (l:List (Str×Str)):Prop:=∀p∈l,p.1.length≤maxLen∧p.2.length≤maxLen
end
end
section
open Go.RowKit Go.Lib Go.Sort Go.Maps Go.WideMaps
theorem Ztv:Keyed Tryz.prog 9:=string_keyed Tryz.underlying9
theorem Ef {k:Str}(h:k.length≤maxLen):keyOf Tryz.prog 9 (.string ⟨k.toArray⟩)=some (.string k):=by
 have:=keyOf_string_mk (P:=Tryz.prog) Tryz.underlying9 (s:=⟨k.toArray⟩) (by rw[Lib.size_eq];exact h)
 simpa using this
theorem strLit (k:Str):WideAt.IsKeyLit (.string k):=by simp[WideAt.IsKeyLit]
structure El (α:Type) where
 v:α→Value
 d:α→DataW Unit
 rd:Value→Option (DataW Unit×List MemPlace)
 ok:∀x,rd (v x)=some (d x,[])
 inv:∀{u:Value}{z:DataW Unit×List MemPlace},rd u=some z→∃x,u=v x∧z=(d x,[])
 inj:∀{x y:α},d x=d y→x=y
def Zb {α:Type}(L:List (Str×α))(k:Str):Option α:=(L.find? (fun p=>p.1==k)).map (·.2)
theorem Zdz {α:Type}(E F:List (Str×α))(k:Str):Zb (E++F) k=(Zb E k).or (Zb F k):=by
 unfold Zb;rw[List.find?_append]
 cases E.find? (fun p=>p.1==k) <;> rfl
theorem Pn {α:Type}{E:List (Str×α)}{k:Str}:Zb E k=none↔∀p∈E,p.1≠k:=by
 unfold Zb;rw[Option.map_eq_none_iff,List.find?_eq_none]
 simp
theorem Xyk {α:Type}{E:List (Str×α)}{k:Str}(h:(Zb E k).isSome=true):k∈E.map (·.1):=by
 unfold Zb at h;rw[Option.isSome_map]at h
 obtain⟨p,hp⟩:=Option.isSome_iff_exists.1 h
 have h1:=List.find?_some hp;have h2:=List.mem_of_find?_eq_some hp
 simp at h1
 exact List.mem_map.2 ⟨p,h2,h1⟩
theorem Zvj {α:Type}{E:List (Str×α)}{k:Str}(h:k∈E.map (·.1)):(Zb E k).isSome=true:=by
 cases hl:Zb E k with
 |some v=>rfl
 |none =>
  obtain⟨p,hp,rfl⟩:=List.mem_map.1 h
  exact absurd rfl (Pn.1 hl p hp)
theorem Eb {α:Type}{E:List (Str×α)}{k:Str}{x:α}(h:Zb E k=some x):(k,x)∈E:=by
 unfold Zb at h
 obtain⟨p,hp,rfl⟩:=Option.map_eq_some_iff.1 h
 have h1:=List.find?_some hp
 simp at h1
 have h2:=List.mem_of_find?_eq_some hp;rw[←h1];exact h2
theorem Ed {α:Type}{E:List (Str×α)}(hn:(E.map (·.1)).Nodup){p:Str×α}(hp:p∈E):Zb E p.1=some p.2:=by
 induction E with
 |nil=>cases hp
 |cons q E ih =>
  rw[List.map_cons,List.nodup_cons]at hn;unfold Zb;rw[List.find?_cons]
  rcases List.mem_cons.1 hp with rfl|hp
  ·simp
  ·have:q.1≠p.1:=fun e=>hn.1 (by rw[e];exact List.mem_map.2 ⟨p,hp,rfl⟩)
   rw[show(q.1==p.1)=false by simpa using this];exact ih hn.2 hp
def Zm {α:Type}(E:El α)(w:World)(b n:Nat)(L:List (Str×α)):Prop :=
 ∃m:DataW Unit,w.ownsMap Tryz.prog 9 E.rd b n m∧∀k z,m.atKey (.string k) z=match Zb L k with|some v=>E.d v|none=>z
section
variable {α:Type}{E:El α}{w w' : World}{b n:Nat}{L:List (Str × α)}
theorem Zm.lt (h:Zm E w b n L):b<w.heap.size:=by obtain⟨m,h,_⟩:=h;exact h.lt
theorem Zm.mono {n':Nat}(h:Zm E w b n L)(hn:n≤n'):Zm E w b n' L:=by obtain⟨m,h,h2⟩:=h;exact⟨m,h.mono hn,h2⟩
theorem Qph {P:Program}{k:TypeId}{R:Value→Option (DataW Unit×List MemPlace)}{m:DataW Unit}(h:w.ownsMap P k R b n m)(he:w'.heap[b]?=w.heap[b]?):w'.ownsMap P k R b n m:=by
 obtain⟨es,clock,hb,F,hs,hD⟩:=h
 exact⟨es,clock,he.trans hb,F,hs,hD⟩
theorem Zm.block (h:Zm E w b n L)(he:w'.heap[b]?=w.heap[b]?):Zm E w' b n L:=by obtain⟨m,h,h2⟩:=h;exact⟨m,Qph h he,h2⟩
theorem Zm.below (h:Zm E w b n L)(hb:Below w.heap.size w w'):Zm E w' b n L:=h.block (hb.block _ h.lt)
theorem Zm.made (E:El α)(w:World):Zm E (w.alloc (.map #[] 0)) w.heap.size 0 []:=⟨.map [],World.ownsMap_made _ _ _ _,fun k z=>rfl⟩
theorem Zm.isMap (h:Zm E w b n L):∃es clock,w.heap[b]?=some (.map es clock):=by obtain⟨m,⟨es,ck,hb,_⟩,_⟩:=h;exact⟨es,ck,hb⟩
theorem Zm.look_ok (h:Zm E w b n L){mt e:TypeId}(hu:Tryz.prog.underlying mt=some (.map 9 e)){x0:α}(hz:∀W:World,(zeroValue e).run Tryz.prog W=.ok (E.v x0) W)(k:Str)(hk:k.length≤maxLen) :
  (Instr.lookup mt (.map (some b)) (.string ⟨k.toArray⟩) true).run Tryz.prog w=.ok (.tuple #[E.v ((Zb L k).getD x0),.bool (Zb L k).isSome]) w:=by
 obtain⟨mm,hown,hat⟩:=h
 obtain⟨v,ps,hrun,hv⟩:=hown.look_ok Ztv hu (hz w) (E.ok x0) (Ef hk)
 obtain⟨s,rfl,hz⟩:=E.inv hv
 rw[hat]at hz;have hhas:Maps.has mm (.string k)=(Zb L k).isSome:=by
  cases hl:Zb L k with
  |some v=>rw[has_true_of_atKey (y:=E.d v) (fun z=>by rw[hat,hl])];rfl
  |none=>rw[has_false_of_atKey (fun z=>by rw[hat,hl])];rfl
 have hs:s=(Zb L k).getD x0:=by
  cases hl:Zb L k with
  |some v=>rw[hl]at hz;exact(E.inj (Prod.mk.inj hz).1).symm
  |none=>rw[hl]at hz;exact(E.inj (Prod.mk.inj hz).1).symm
 rw[←hhas,←hs];exact hrun
theorem Zm.look (h:Zm E w b n L){mt e:TypeId}(hu:Tryz.prog.underlying mt=some (.map 9 e)){x0:α}(hz:∀W:World,(zeroValue e).run Tryz.prog W=.ok (E.v x0) W)(k:Str)(hk:k.length≤maxLen) :
  (Instr.lookup mt (.map (some b)) (.string ⟨k.toArray⟩) false).run Tryz.prog w=.ok (E.v ((Zb L k).getD x0)) w:=by
 obtain⟨mm,hown,hat⟩:=h
 obtain⟨v,ps,hrun,hv⟩:=hown.lookup Ztv hu (hz w) (E.ok x0) (Ef hk)
 obtain⟨s,rfl,hz⟩:=E.inv hv
 rw[hat]at hz;have hs:s=(Zb L k).getD x0:=by
  cases hl:Zb L k with
  |some v=>rw[hl]at hz;exact(E.inj (Prod.mk.inj hz).1).symm
  |none=>rw[hl]at hz;exact(E.inj (Prod.mk.inj hz).1).symm
 rw[←hs];exact hrun
theorem Zm.say (h:Zm E w b n L)(hn:n<maxLen){mt e:TypeId}(hu:Tryz.prog.underlying mt=some (.map 9 e))(k:Str)(x:α)(hk:k.length≤maxLen)(hno:Zb L k=none) :
  ∃w',(Instr.mapUpdate mt (.map (some b)) (.string ⟨k.toArray⟩) (E.v x)).run Tryz.prog w=.ok () w'∧Zm E w' b (n+1) (L++[(k,x)])∧w.grownBy w' (some b):=by
 obtain⟨mm,hown,hat⟩:=h
 obtain⟨w',hrun,hown',hgr⟩:=hown.update Ztv hu hn (Ef hk) (E.ok x)
 refine⟨w',hrun,⟨_,hown',fun k' z=>?_⟩,hgr⟩
 rw[Zdz]
 by_cases he:k'=k
 ·subst he;rw[atKey_put_same hown.isMap (strLit _),hno]
  simp[Zb]
 ·rw[atKey_put_other (fun e=>he (by simpa using e)),hat]
  cases hl:Zb L k' with
  |some u=>rfl
  |none=>simp[Zb,Ne.symm he]
theorem Zm.again (h:Zm E w b n L)(hn:n<maxLen){mt e:TypeId}(hu:Tryz.prog.underlying mt=some (.map 9 e))(k:Str)(x:α)(hk:k.length≤maxLen)(his:Zb L k=some x) :
  ∃w',(Instr.mapUpdate mt (.map (some b)) (.string ⟨k.toArray⟩) (E.v x)).run Tryz.prog w=.ok () w'∧Zm E w' b (n+1) L∧w.grownBy w' (some b):=by
 obtain⟨mm,hown,hat⟩:=h
 obtain⟨w',hrun,hown',hgr⟩:=hown.update Ztv hu hn (Ef hk) (E.ok x)
 refine⟨w',hrun,⟨_,hown',fun k' z=>?_⟩,hgr⟩
 by_cases he:k'=k
 ·subst he;rw[atKey_put_same hown.isMap (strLit _),his]
 ·rw[atKey_put_other (fun e=>he (by simpa using e)),hat]
theorem Zm.keys {m:DataW Unit}(hown:w.ownsMap Tryz.prog 9 E.rd b n m)(hat:∀k z,m.atKey (.string k) z=match Zb L k with|some v=>E.d v|none=>z)(hn:(L.map (·.1)).Nodup):(L.map (·.1)).Perm (strKeys m):=by
 obtain⟨es,hD,hpw,_⟩:=hown.entries Ztv
 obtain⟨es',hD',hko⟩:=hown.keysOf
 obtain rfl:es=es':=by rw[hD]at hD';simpa using hD'
 subst hD;refine perm_strKeys hpw (fun p hp=>by obtain⟨v,hv⟩:=hko p hp;obtain⟨x,_,hx,_⟩:=Maps.keyOf_str Tryz.underlying9 hv;exact⟨x,hx⟩) hn (fun x=>?_);have hl:∀z,(DataW.map es).atKey (.string x) z=match Zb L x with|some v=>E.d v|none=>z:=hat x
 cases hx:Zb L x with
 |some v=>rw[has_true_of_atKey (y:=E.d v) (fun z=>by rw[hl,hx])];exact⟨fun _=>rfl,fun _=>Xyk (by rw[hx];rfl)⟩
 |none =>
  rw[has_false_of_atKey (fun z=>by rw[hl,hx])]
  exact⟨fun h=>(by have:=Zvj h;rw[hx]at this;cases this),fun h=>by cases h⟩
end
def sdV (x:Str×Int×Int):Value:=.agg #[.string ⟨x.1.toArray⟩,.int .i64 x.2.1,.int .i64 x.2.2]
def sdD (x:Str×Int×Int):DataW Unit:=.agg [.lit (.string x.1),.lit (.int .i64 x.2.1),.lit (.int .i64 x.2.2)]
def Xyv (v:Value):Option (DataW Unit×List MemPlace):=match v with
 | .agg cs=>match cs.toList with
  |[.string a,.int .i64 b,.int .i64 c]=>some (sdD (a.data.toList,b,c),[])
  |_=>none
 |_=>none
def Gm:El (Str×Int×Int) where
 v:=sdV
 d:=sdD
 rd:=Xyv
 ok:=fun x=>by simp[Xyv,sdV]
 inv:=by
  intro u z h;unfold Xyv at h
  split at h
  ·rename_i cs
   split at h
   ·rename_i a b c e
    cases h
    refine⟨(a.data.toList,b,c),?_,rfl⟩
    obtain⟨l⟩:=cs
    simp only at e
    simp[sdV,e]
   ·cases h
  ·cases h
 inj:=by
  rintro⟨a,b,c⟩ ⟨d,e,f⟩ h
  simpa[sdD]using h
def mpI:Option Nat→Int
 |none=>-1
 |some b=>b
def rdMp (v:Value):Option (DataW Unit×List MemPlace):=match v with
 | .map b=>some (.lit (.int .i64 (mpI b)),[])
 |_=>none
def Zdx:El (Option Nat) where
 v:=fun b=>.map b
 d:=fun b=>.lit (.int .i64 (mpI b))
 rd:=rdMp
 ok:=fun x=>rfl
 inv:=by
  intro u z h;unfold rdMp at h
  split at h
  ·cases h;exact⟨_,rfl,rfl⟩
  ·cases h
 inj:=by
  intro x y h;have h:mpI x=mpI y:=by simpa using h
  cases x <;> cases y <;> simp[mpI]at h ⊢ <;> omega
def mpL (V:List (Str×Nat)):List (Str×Option Nat):=V.map fun p=>(p.1,some p.2)
theorem Pr (V:List (Str×Nat))(k:Str):Zb (mpL V) k=(Zb V k).map some:=by
 unfold Zb mpL;rw[List.find?_map,Option.map_map,Option.map_map];rfl
theorem Xyw (V U:List (Str×Nat)):mpL (V++U)=mpL V++mpL U:=by simp[mpL]
def rdBo (v:Value):Option (DataW Unit×List MemPlace):=match v with
 | .bool b=>some (.lit (.bool b),[])
 |_=>none
def Yy:El Bool where
 v:=fun b=>.bool b
 d:=fun b=>.lit (.bool b)
 rd:=rdBo
 ok:=fun x=>rfl
 inv:=by
  intro u z h;unfold rdBo at h
  split at h
  ·cases h;exact⟨_,rfl,rfl⟩
  ·cases h
 inj:=by intro x y h;simpa using h
def Jw (L:List Str):List (Str×Bool):=L.map fun k=>(k,true)
theorem Gb (L:List Str)(k:Str):Zb (Jw L) k=if k∈L then some true else none:=by
 unfold Zb Jw;rw[List.find?_map]
 by_cases h:k∈L
 ·rw[if_pos h]
  cases hf:L.find? ((fun p:Str×Bool=>p.1==k) ∘ fun k=>(k,true)) with
  |none =>
   rw[List.find?_eq_none]at hf;exact absurd (by simp) (hf k h)
  |some x=>rfl
 ·rw[if_neg h]
  cases hf:L.find? ((fun p:Str×Bool=>p.1==k) ∘ fun k=>(k,true)) with
  |none=>rfl
  |some x =>
   have h1:=List.find?_some hf;have h2:=List.mem_of_find?_eq_some hf
   simp at h1
   exact absurd (h1▸h2) h
end
section
open Go.Lib
structure Itm where
 path:Str
 value:Str
 alias':Bool
 draft:Str
 at':Int
structure Dc where
 loc:Str
 supp:Bool
 items:List Itm
structure Rw where
 loc:Str
 path:Str
 text:Str
 file:Nat
 at':Int
structure Tb where
 rows:List Rw
 als:List Rw
 names:List Str
 paths:List Str
def Tb.zero:Tb:=⟨[],[],[],[]⟩
def Jk (l:List Rw)(loc path:Str):Option Rw:=l.find? (fun r=>r.loc==loc&&r.path==path)
structure Wrg where
 err:Nat
 file:Int
 at':Int
def Wrg.ok:Wrg:=⟨0,0,0⟩
def Vr (t:Tb)(loc:Str)(f:Nat)(x:Itm):Nat×Tb :=
 if x.path=[]∨Zv x.path=false then(2,t)
 else if x.alias'=true∧loc≠Qs then(221,t)
 else if x.alias'=true then
  match Jk t.als loc x.path with
  |some r=>if r.text=x.value then(0,t) else(220,t)
  |none=>(0,{ t with als:=t.als++[⟨loc,x.path,x.value,f,x.at'⟩] })
 else
  match Jk t.rows loc x.path with
  |some r=>if r.text=x.value then(0,t) else(220,t)
  |none =>
   if x.path∈t.paths then(0,{ t with rows:=t.rows++[⟨loc,x.path,x.value,f,x.at'⟩] })
   else if t.paths.length=16384 then(3,t)
   else(0,{ t with rows:=t.rows++[⟨loc,x.path,x.value,f,x.at'⟩],paths:=t.paths++[x.path] })
def Cg (loc:Str)(f:Nat):Tb→List Itm→Option (Nat×Int)×Tb
 |t,[]=>(none,t)
 |t,x::r=>match Vr t loc f x with
  |(0,t')=>Cg loc f t' r
  |(e,t')=>(some (e,x.at'),t')
def Nn (t:Tb)(d:Dc):Nat×Tb :=
 if(d.supp=true∧d.loc≠[])∨(d.supp=false∧Qj d.loc=false) then(2,t)
 else if d.supp=true∨d.loc∈t.names then(0,t)
 else if t.names.length=512 then(3,t)
 else(0,{ t with names:=t.names++[d.loc] })
def Qpg:Nat→Tb→List Dc→Wrg×Tb
 |_,t,[]=>(Wrg.ok,t)
 |f,t,d::r=>match Nn t d with
  |(0,t1)=>match Cg d.loc f t1 d.items with
   |(none,t2)=>Qpg (f+1) t2 r
   |(some (e,a),t2)=>(⟨e,f,a⟩,t2)
  |(e,t1)=>(⟨e,f,0⟩,t1)
def Ec (l:List Dc):Wrg×Tb:=Qpg 0 Tb.zero l
end
section
open Go.RowKit Go.Lib Go.Sort Go.Maps Go.WideMaps
def Qhv (r:Rw):Str×Int×Int:=(r.text,(r.file:Int),r.at')
def sdL (l:List Rw):List (Str×(Str×Int×Int)):=l.map fun r=>(r.path,Qhv r)
def Kc (t:Tb)(loc:Str):List Rw:=t.rows.filter (fun r=>r.loc==loc)
theorem Xpj (l:List Rw)(k:Str):Zb (sdL l) k=(l.find? (fun r=>r.path==k)).map Qhv:=by
 unfold Zb sdL;rw[List.find?_map,Option.map_map];rfl
theorem Zvk (t:Tb)(loc path:Str):Zb (sdL (Kc t loc)) path=(Jk t.rows loc path).map Qhv:=by
 rw[Xpj,Kc,Jk,List.find?_filter]
 congr 2
 funext r
 rw[Bool.eq_iff_iff]
 simp
theorem Ztw {l:List Rw}(h:∀r∈l,r.loc=Qs)(path:Str):Zb (sdL l) path=(Jk l Qs path).map Qhv:=by
 rw[Xpj]
 congr 1
 unfold Jk
 induction l with
 |nil=>rfl
 |cons r l ih =>
  have hr:=h r (List.mem_cons_self ..);rw[List.find?_cons,List.find?_cons,hr,ih (fun x hx=>h x (List.mem_cons_of_mem _ hx))]
  simp
structure Fn (W:World)(Bt bv ba bn bp N:Nat)(V:List (Str×Nat))(t:Tb):Prop where
 box:W.heap[Bt]?=some (.cells #[.map (some bv),.map (some ba),.map (some bn),.map (some bp)] 100 (0,0))
 vals:Zm Zdx W bv N (mpL V)
 als:Zm Gm W ba N (sdL t.als)
 names:Zm Yy W bn N (Jw t.names)
 paths:Zm Yy W bp N (Jw t.paths)
 each:∀p∈V,Zm Gm W p.2 N (sdL (Kc t p.1))
 keys:(V.map (·.1)).Nodup
 has:∀r∈t.rows,r.loc∈V.map (·.1)
 root:∀r∈t.als,r.loc=Qs
 apart:(bv::ba::bn::bp::V.map (·.2)).Nodup
section
variable {W W' : World}{Bt bv ba bn bp N:Nat}{V:List (Str × Nat)}{t:Tb}{α:Type}{E:El α}{b n c:Nat}{L:List (Str × α)}
theorem Zm.kept (h:Zm E W b n L)(gr:W.grownBy W' (some c))(ne:b≠c):Zm E W' b n L:=h.block (gr.block b h.lt (by simpa using ne))
theorem Kk {cs:Array Value}{ty:TypeId}(hb:W.heap[Bt]?=some (.cells cs ty (0,0)))(h:Zm E W c n L)(gr:W.grownBy W' (some c)):W'.heap[Bt]?=some (.cells cs ty (0,0)):=by
 have ne:Bt≠c:=by
  rintro rfl
  obtain⟨es,ck,hm⟩:=h.isMap
  rw[hb]at hm;cases hm
 rw[gr.block Bt (Array.getElem?_eq_some_iff.1 hb).1 (by simpa using ne)];exact hb
theorem Fn.below (h:Fn W Bt bv ba bn bp N V t)(hb:Below W.heap.size W W'):Fn W' Bt bv ba bn bp N V t :=
 ⟨(hb.block _ (Array.getElem?_eq_some_iff.1 h.box).1).trans h.box,h.vals.below hb,h.als.below hb,h.names.below hb,h.paths.below hb,fun p hp=>(h.each p hp).below hb,h.keys,h.has,h.root,h.apart⟩
theorem Fn.mono {N':Nat}(h:Fn W Bt bv ba bn bp N V t)(hn:N≤N'):Fn W Bt bv ba bn bp N' V t :=
 ⟨h.box,h.vals.mono hn,h.als.mono hn,h.names.mono hn,h.paths.mono hn,fun p hp=>(h.each p hp).mono hn,h.keys,h.has,h.root,h.apart⟩
theorem Fn.lo (h:Fn W Bt bv ba bn bp N V t):bv≠ba∧bv≠bn∧bv≠bp∧ba≠bn∧ba≠bp∧bn≠bp∧∀p∈V,p.2≠bv∧p.2≠ba∧p.2≠bn∧p.2≠bp:=by
 have ha:=h.apart;simp only[List.nodup_cons,List.mem_cons,not_or]at ha
 obtain⟨⟨h1,h2,h3,h4⟩,⟨h5,h6,h7⟩,⟨h8,h9⟩,h10,_⟩:=ha
 refine⟨h1,h2,h3,h5,h6,h8,fun p hp=>?_⟩
 have hm:p.2∈V.map (·.2):=List.mem_map.2 ⟨p,hp,rfl⟩
 exact⟨fun e=>h4 (e▸hm),fun e=>h7 (e▸hm),fun e=>h9 (e▸hm),fun e=>h10 (e▸hm)⟩
theorem Fn.addPath (h:Fn W Bt bv ba bn bp N V t){ps:List Str}(o:Zm Yy W' bp (N+1) (Jw ps))(gr:W.grownBy W' (some bp)):Fn W' Bt bv ba bn bp (N+1) V { t with paths:=ps }:=by
 obtain⟨h1,h2,h3,h5,h6,h8,hV⟩:=h.lo
 have hN:N≤N+1:=Nat.le_succ N
 exact⟨Kk h.box h.paths gr,(h.vals.kept gr h3).mono hN,(h.als.kept gr h6).mono hN,(h.names.kept gr h8).mono hN,o,fun p hp=>((h.each p hp).kept gr (hV p hp).2.2.2).mono hN,h.keys,h.has,h.root,h.apart⟩
theorem Fn.addName (h:Fn W Bt bv ba bn bp N V t){ns:List Str}(o:Zm Yy W' bn (N+1) (Jw ns))(gr:W.grownBy W' (some bn)):Fn W' Bt bv ba bn bp (N+1) V { t with names:=ns }:=by
 obtain⟨h1,h2,h3,h5,h6,h8,hV⟩:=h.lo
 have hN:N≤N+1:=Nat.le_succ N
 exact⟨Kk h.box h.names gr,(h.vals.kept gr h2).mono hN,(h.als.kept gr h5).mono hN,o,(h.paths.kept gr (Ne.symm h8)).mono hN,fun p hp=>((h.each p hp).kept gr (hV p hp).2.2.1).mono hN,h.keys,h.has,h.root,h.apart⟩
theorem Fn.addRow (h:Fn W Bt bv ba bn bp N V t)(r:Rw){b:Nat}(hp:(r.loc,b)∈V)(o:Zm Gm W' b (N+1) (sdL (Kc t r.loc)++[(r.path,Qhv r)]))(gr:W.grownBy W' (some b)):Fn W' Bt bv ba bn bp (N+1) V { t with rows:=t.rows++[r] }:=by
 obtain⟨h1,h2,h3,h5,h6,h8,hV⟩:=h.lo
 obtain⟨v1,v2,v3,v4⟩:=hV _ hp
 have hN:N≤N+1:=Nat.le_succ N;have ho:=h.each _ hp;have hap:=h.apart
 refine⟨Kk h.box ho gr,(h.vals.kept gr (Ne.symm v1)).mono hN,(h.als.kept gr (Ne.symm v2)).mono hN,(h.names.kept gr (Ne.symm v3)).mono hN,(h.paths.kept gr (Ne.symm v4)).mono hN,fun p hq=>?_,h.keys,fun x hx=>?_,h.root,h.apart⟩
 ·by_cases e:p.1=r.loc
  ·have:p=(r.loc,b):=by
    have hk:=h.keys;have i1:=Ed hk hq;have i2:=Ed hk hp;rw[e,i2]at i1
    cases i1
    obtain⟨x,y⟩:=p
    simp only at e ⊢;rw[e]
   subst this;rw[show Kc { t with rows:=t.rows++[r] } r.loc=Kc t r.loc++[r]by simp[Kc],show sdL (Kc t r.loc++[r])=sdL (Kc t r.loc)++[(r.path,Qhv r)]by simp[sdL]];exact o
  ·have hne:p.2≠b:=by
    intro e2;have hnd:(V.map (·.2)).Nodup:=by
     simp only[List.nodup_cons]at hap;exact hap.2.2.2.2
    exact e (by
     have:=(List.pairwise_map.1 hnd)
     obtain⟨i,hi,hpi⟩:=List.getElem_of_mem hq
     obtain⟨j,hj,hpj⟩:=List.getElem_of_mem hp
     by_cases hij:i=j
     ·subst hij;rw[←hpi,hpj]
     ·exfalso
      have key:∀(i j:Nat) (hi:i<V.length) (hj:j<V.length),i<j→V[i].2≠V[j].2:=fun i j hi hj hlt=>(List.pairwise_iff_getElem.1 this) i j hi hj hlt
      rcases Nat.lt_or_gt_of_ne hij with hl|hl
      ·exact key i j hi hj hl (by rw[hpi,hpj];exact e2)
      ·exact key j i hj hi hl (by rw[hpi,hpj];exact e2.symm))
   rw[show Kc { t with rows:=t.rows++[r] } p.1=Kc t p.1 by simp[Kc,Ne.symm e]]
   exact((h.each p hq).kept gr hne).mono hN
 ·rcases List.mem_append.1 hx with hx|hx
  ·exact h.has x hx
  ·rw[List.mem_singleton.1 hx];exact List.mem_map.2 ⟨_,hp,rfl⟩
theorem Fn.addMap (h:Fn W Bt bv ba bn bp N V t)(loc:Str)(hno:Zb V loc=none)(o:Zm Zdx W' bv (N+1) (mpL V++[(loc,some W.heap.size)]))(gr:(W.alloc (.map #[] 0)).grownBy W' (some bv)):Fn W' Bt bv ba bn bp (N+1) (V++[(loc,W.heap.size)]) t:=by
 have ha:Below W.heap.size W (W.alloc (.map #[] 0)):=bal _ _;have h':=h.below ha
 obtain⟨h1,h2,h3,h5,h6,h8,hV⟩:=h.lo
 have hN:N≤N+1:=Nat.le_succ N;have hnl:=Pn.1 hno;have lv:=h.vals.lt
 refine⟨Kk h'.box h'.vals gr,by rw[Xyw];exact o,(h'.als.kept gr (Ne.symm h1)).mono hN,(h'.names.kept gr (Ne.symm h2)).mono hN,(h'.paths.kept gr (Ne.symm h3)).mono hN,fun p hp=>?_,?_,fun r hr=>?_,h.root,?_⟩
 ·rcases List.mem_append.1 hp with hp|hp
  ·exact((h'.each p hp).kept gr (hV p hp).1).mono hN
  ·rw[List.mem_singleton.1 hp];have he:Kc t loc=[]:=by
    unfold Kc;rw[List.filter_eq_nil_iff];intro r hr e
    obtain⟨q,hq,he⟩:=List.mem_map.1 (h.has r hr)
    have:r.loc=loc:=by simpa using e
    exact hnl q hq (he.trans this)
   show Zm Gm W' W.heap.size (N+1) (sdL (Kc t loc));rw[he]
   exact((Zm.made Gm W).kept gr (by omega)).mono (Nat.zero_le _)
 ·rw[List.map_append,List.nodup_append]
  refine⟨h.keys,by simp,fun a ha' b hb=>?_⟩
  obtain⟨q,hq,rfl⟩:=List.mem_map.1 ha'
  simp only[List.map_cons,List.map_nil,List.mem_singleton]at hb;rw[hb];exact hnl q hq
 ·rw[List.map_append];exact List.mem_append.2 (Or.inl (h.has r hr))
 ·have hap:=h.apart;have hlt:∀x∈bv::ba::bn::bp::V.map (·.2),x<W.heap.size:=by
   intro x hx;simp only[List.mem_cons]at hx
   rcases hx with rfl|rfl|rfl|rfl|hx
   ·exact lv
   ·exact h.als.lt
   ·exact h.names.lt
   ·exact h.paths.lt
   ·obtain⟨q,hq,rfl⟩:=List.mem_map.1 hx
    exact(h.each q hq).lt
  rw[List.map_append,show bv::ba::bn::bp::(V.map (·.2)++[(loc,W.heap.size)].map (·.2))=(bv::ba::bn::bp::V.map (·.2))++[W.heap.size]by simp,List.nodup_append]
  refine⟨hap,by simp,fun x hx y hy=>?_⟩
  rw[List.mem_singleton.1 hy]
  have:=hlt x hx
  omega
end
end
section
open Go.RowKit Go.Lib Go.Sort Go.Maps Go.WideMaps
section
variable {α:Type}{E:El α}{w:World}{b n:Nat}{L:List (Str × α)}{ops:Array Oper}{rest:List Oper}{o:Oper}{a:Act}{Q:Exit→Act→World→Prop}{mt e:TypeId}
theorem Gk (h:Zm E w b n L)(hu:Tryz.prog.underlying mt=some (.map 9 e)){x0:α}(hz:∀W:World,(zeroValue e).run Tryz.prog W=.ok (E.v x0) W)(hg:o.guard=none)(m x:Operand)(hop:o.op=Op.lookup mt m x true)(hm:a.eval m=.map (some b))(k:Str)(hx:a.eval x=.string ⟨k.toArray⟩)(hk:k.length≤maxLen)
  (v:Value)(q:Bool)(hv:E.v ((Zb L k).getD x0)=v)(hq:(Zb L k).isSome=q)
  (hK:wpList Tryz.prog ops Q rest (a.put o.dst (.tuple #[v,.bool q])) w):wpList Tryz.prog ops Q (o::rest) a w:=by
 refine wpList_plain hg fun K' hK'=>?_
 have hrun:=h.look_ok hu hz k hk;rw[hv,hq]at hrun;unfold Oper.wp
 simp[execOp,hop,hm,hx,hrun,Result.andThen]
 exact hK' _ _ hK
theorem Yv (h:Zm E w b n L)(hu:Tryz.prog.underlying mt=some (.map 9 e)){x0:α}(hz:∀W:World,(zeroValue e).run Tryz.prog W=.ok (E.v x0) W)(hg:o.guard=none)(m x:Operand)(hop:o.op=Op.lookup mt m x false)(hm:a.eval m=.map (some b))(k:Str)(hx:a.eval x=.string ⟨k.toArray⟩)(hk:k.length≤maxLen)
  (v:Value)(hv:E.v ((Zb L k).getD x0)=v)
  (hK:wpList Tryz.prog ops Q rest (a.put o.dst v) w):wpList Tryz.prog ops Q (o::rest) a w:=by
 refine wpList_plain hg fun K' hK'=>?_
 have hrun:=h.look hu hz k hk;rw[hv]at hrun;unfold Oper.wp
 simp[execOp,hop,hm,hx,hrun,Result.andThen]
 exact hK' _ _ hK
theorem Sp (h:Zm E w b n L)(hn:n<maxLen)(hu:Tryz.prog.underlying mt=some (.map 9 e))(hg:o.guard=none)(m x v:Operand)(hop:o.op=Op.mapUpdate mt m x v)(hm:a.eval m=.map (some b))(k:Str)(hx:a.eval x=.string ⟨k.toArray⟩)(hk:k.length≤maxLen)(y:α)(hv:a.eval v=E.v y)(hno:Zb L k=none)
  (hK:∀w',Zm E w' b (n+1) (L++[(k,y)])→w.grownBy w' (some b)→wpList Tryz.prog ops Q rest (a.put o.dst undef) w'):wpList Tryz.prog ops Q (o::rest) a w:=by
 refine wpList_plain hg fun K' hK'=>?_
 obtain⟨w',hrun,ho,hgr⟩:=h.say hn hu k y hk hno
 unfold Oper.wp
 simp[execOp,hop,hm,hx,hv,hrun,Result.andThen]
 exact hK' _ _ (hK w' ho hgr)
end
theorem Qnq (W:World):(zeroValue 137).run Tryz.prog W=.ok (Gm.v ([],0,0)) W:=by kernel_rfl
theorem Qjh (W:World):(zeroValue 4).run Tryz.prog W=.ok (Yy.v false) W:=by kernel_rfl
theorem Em (W:World):(zeroValue 98).run Tryz.prog W=.ok (Zdx.v none) W:=by kernel_rfl
theorem Qn {W:World}{B:Nat}{a b c:Value}{ty:TypeId}(h:W.heap[B]?=some (.cells #[a,b,c] ty (0,0))) :
  W.cell? ⟨B,0,none⟩=some a∧W.cell? ⟨B,1,none⟩=some b∧W.cell? ⟨B,2,none⟩=some c∧B<W.heap.size :=
 ⟨by rw[cell_of_row _ _ _ _ _ _ h];rfl,by rw[cell_of_row _ _ _ _ _ _ h];rfl,by rw[cell_of_row _ _ _ _ _ _ h];rfl,lt_of_block h⟩
theorem Xyy {w w1 w2:World}{b:Nat}(h:Below w.heap.size w w1)(g:w1.grownBy w2 (some b))(ht:w1.tape=w.tape):w.grownBy w2 (some b) :=
 ⟨g.os.trans h.os,g.tape.trans ht,g.output.trans h.output,Nat.le_trans h.size g.size,fun k hk hne=>by rw[g.block k (Nat.lt_of_lt_of_le hk h.size) hne];exact h.block k hk⟩
theorem Zty {w w1:World}{b:Nat}(h:Below w.heap.size w w1)(ht:w1.tape=w.tape):w.grownBy w1 (some b):=⟨h.os,ht,h.output,h.size,fun k hk _=>h.block k hk⟩
def Xyh (L:List (Str×(Str×Int×Int)))(k:Str)(x:Str×Int×Int):List (Str×(Str×Int×Int)):=match Zb L k with|none=>L++[(k,x)] |some _=>L
def Xyg (L:List (Str×(Str×Int×Int)))(k:Str)(s:Str):Bool:=match Zb L k with|none=>true|some y=>y.1==s
theorem Zdj (w:World)(b N:Nat)(L:List (Str×(Str×Int×Int)))(key:Str)(xt:Str)(xf xa:Int)(h:Zm Gm w b N L)(hN:N<maxLen)(hk:key.length≤maxLen) :
  Calls Tryz.prog 97 #[.map (some b),.string ⟨key.toArray⟩,.agg #[.string ⟨xt.toArray⟩,.int .i64 xf,.int .i64 xa]] w fun e w'=>e=.returned (.bool (Xyg L key xt))∧Zm Gm w' b (N+1) (Xyh L key (xt,xf,xa))∧w.grownBy w' (some b):=by
 have hb1:Below w.heap.size w (w.alloc (.cells #[.string ⟨xt.toArray⟩,.int .i64 xf,.int .i64 xa] 137)):=bal _ _;have HB1:=hid hb1;have F1:=hid (heap_alloc_new w (.cells #[.string ⟨xt.toArray⟩,.int .i64 xf,.int .i64 xa] 137));have HT1:=hid (show(w.alloc (.cells #[.string ⟨xt.toArray⟩,.int .i64 xf,.int .i64 xa] 137)).tape=w.tape from rfl);have HO1:=hid (h.below hb1);clear hb1
 cases hlk:Zb L key with
 |some y =>
  obtain⟨yt,yf,ya⟩:=y
  have HLK:=hid hlk;clear hlk
  go_enter Tryz.func97,Tryz.ntmps97
  go_upto_region 1 with fail;generalize w.alloc (.cells #[.string ⟨xt.toArray⟩,.int .i64 xf,.int .i64 xa] 137)=w1 at *
  go_upto_region 2 with (at_lookup;refine Gk (E:=Gm) HO1.out Tryz.underlying98 Qnq rfl _ _ rfl rfl key rfl hk (.agg #[.string ⟨yt.toArray⟩,.int .i64 yf,.int .i64 ya]) true (by rw[HLK.out];rfl) (by rw[HLK.out];rfl) ?_)
  have hb2:Below w1.heap.size w1 (w1.alloc (.cells #[.string ⟨yt.toArray⟩,.int .i64 yf,.int .i64 ya] 137)):=bal _ _;have F2:=hid (heap_alloc_new w1 (.cells #[.string ⟨yt.toArray⟩,.int .i64 yf,.int .i64 ya] 137));have HT2:=hid (show(w1.alloc (.cells #[.string ⟨yt.toArray⟩,.int .i64 yf,.int .i64 ya] 137)).tape=w.tape from HT1.out);have HB2:=hid hb2;clear hb2;generalize w1.alloc (.cells #[.string ⟨yt.toArray⟩,.int .i64 yf,.int .i64 ya] 137)=w2 at *;have HB:=hid (HB1.out.then HB2.out)
  obtain⟨x0,x1,x2,xl⟩:=Qn (bk HB2.out F1.out)
  obtain⟨y0,y1,y2,yl⟩:=Qn F2.out
  go_wp2_with fail;exact bodyPost_ret (v:=.bool (yt==xt)) (by simp[results,Tryz.results97,go_sem]) rfl ⟨by unfold Xyg;rw[HLK.out],by unfold Xyh;rw[HLK.out];exact(h.below HB.out).mono (Nat.le_succ N),Zty HB.out HT2.out⟩
 |none =>
  have HLK:=hid hlk;clear hlk
  go_enter Tryz.func97,Tryz.ntmps97
  go_upto_region 1 with fail;generalize w.alloc (.cells #[.string ⟨xt.toArray⟩,.int .i64 xf,.int .i64 xa] 137)=w1 at *
  go_upto_region 2 with (at_lookup;refine Gk (E:=Gm) HO1.out Tryz.underlying98 Qnq rfl _ _ rfl rfl key rfl hk (.agg #[.string ⟨#[]⟩,.int .i64 0,.int .i64 0]) false (by rw[HLK.out];rfl) (by rw[HLK.out];rfl) ?_)
  have hb2:Below w1.heap.size w1 (w1.alloc (.cells #[.string ⟨#[]⟩,.int .i64 0,.int .i64 0] 137)):=bal _ _;have F2:=hid (heap_alloc_new w1 (.cells #[.string ⟨#[]⟩,.int .i64 0,.int .i64 0] 137));have HT2:=hid (show(w1.alloc (.cells #[.string ⟨#[]⟩,.int .i64 0,.int .i64 0] 137)).tape=w.tape from HT1.out);have HB2:=hid hb2;clear hb2;generalize w1.alloc (.cells #[.string ⟨#[]⟩,.int .i64 0,.int .i64 0] 137)=w2 at *;have HB:=hid (HB1.out.then HB2.out);have HO2:=hid (HO1.out.below HB2.out)
  obtain⟨x0,x1,x2,xl⟩:=Qn (bk HB2.out F1.out)
  go_wp2_with (at_mapUpdate;refine Sp (E:=Gm) HO2.out hN Tryz.underlying98 rfl _ _ _ rfl rfl key rfl hk (xt,xf,xa) rfl HLK.out ?_;intro w3 ho3 hg3;have HO3:=hid ho3;have HG3:=hid (Xyy HB.out hg3 HT2.out);clear ho3 hg3)
  exact bodyPost_ret (v:=.bool true) (by simp[results,Tryz.results97,go_sem]) rfl ⟨by unfold Xyg;rw[HLK.out],by unfold Xyh;rw[HLK.out];exact HO3.out,HG3.out⟩
end
section
open Go.Lib
structure Fx (t:Tb):Prop where
 names:t.names.Nodup
 paths:t.paths.Nodup
 n512:t.names.length≤512
 p16:t.paths.length≤16384
 rows:(t.rows.map fun r=>(r.loc,r.path)).Nodup
 als:(t.als.map fun r=>r.path).Nodup
 root:∀r∈t.als,r.loc=Qs
 rp:∀r∈t.rows,r.path∈t.paths
 pr:∀p∈t.paths,∃r∈t.rows,r.path=p
theorem Fx.zero:Fx Tb.zero:=⟨by simp[Tb.zero],by simp[Tb.zero],by simp[Tb.zero],by simp[Tb.zero],by simp[Tb.zero],by simp[Tb.zero],by simp[Tb.zero],by simp[Tb.zero],by simp[Tb.zero]⟩
theorem Wn {l:List Rw}{loc path:Str}:Jk l loc path=none↔∀r∈l,¬(r.loc=loc∧r.path=path):=by
 unfold Jk;rw[List.find?_eq_none]
 simp
theorem Zvv {l:List Rw}(h:(l.map fun r=>(r.loc,r.path)).Nodup){r:Rw}(hn:Jk l r.loc r.path=none):((l++[r]).map fun r=>(r.loc,r.path)).Nodup:=by
 rw[List.map_append,List.nodup_append]
 refine⟨h,by simp,fun a ha b hb e=>?_⟩
 obtain⟨x,hx,rfl⟩:=List.mem_map.1 ha
 simp only[List.map_cons,List.map_nil,List.mem_singleton]at hb;subst hb;exact Wn.1 hn x hx (Prod.mk.inj e)
theorem item_ok {t:Tb}(h:Fx t)(loc:Str)(f:Nat)(x:Itm):Fx (Vr t loc f x).2:=by
 unfold Vr
 split
 ·exact h
 split
 ·exact h
 split
 ·rename_i h1 h2 h3
  have hl:loc=Qs:=by
   by_cases e:loc=Qs
   ·exact e
   ·exact absurd ⟨h3,e⟩ h2
  split
  ·split <;> exact h
  ·rename_i hf
   refine⟨h.names,h.paths,h.n512,h.p16,h.rows,?_,fun r hr=>?_,h.rp,h.pr⟩
   ·show((t.als++[(⟨loc,x.path,x.value,f,x.at'⟩:Rw)]).map fun(r:Rw)=>r.path).Nodup
    rw[List.map_append,List.nodup_append]
    refine⟨h.als,by simp,fun a ha b hb e=>?_⟩
    obtain⟨y,hy,rfl⟩:=List.mem_map.1 ha
    simp only[List.map_cons,List.map_nil,List.mem_singleton]at hb;subst hb;exact Wn.1 hf y hy ⟨(h.root y hy).trans hl.symm,e⟩
   ·rcases List.mem_append.1 hr with hr|hr
    ·exact h.root r hr
    ·rw[List.mem_singleton.1 hr];exact hl
 ·split
  ·split <;> exact h
  ·rename_i hf
   split
   ·rename_i hp
    refine⟨h.names,h.paths,h.n512,h.p16,Zvv h.rows hf,h.als,h.root,fun r hr=>?_,fun p hp=>?_⟩
    ·rcases List.mem_append.1 hr with hr|hr
     ·exact h.rp r hr
     ·rw[List.mem_singleton.1 hr];exact hp
    ·obtain⟨r,hr,e⟩:=h.pr p hp
     exact⟨r,List.mem_append.2 (Or.inl hr),e⟩
   ·split
    ·exact h
    ·rename_i hp hn
     refine⟨h.names,?_,h.n512,?_,Zvv h.rows hf,h.als,h.root,fun r hr=>?_,fun p hp=>?_⟩
     ·show(t.paths++[x.path]).Nodup
      rw[List.nodup_append]
      exact⟨h.paths,by simp,fun a ha b hb e=>hp (by rw[List.mem_singleton.1 hb]at e;exact e▸ha)⟩
     ·show(t.paths++[x.path]).length≤16384
      have:=h.p16
      rw[List.length_append,List.length_singleton];omega
     ·rcases List.mem_append.1 hr with hr|hr
      ·exact List.mem_append.2 (Or.inl (h.rp r hr))
      ·rw[List.mem_singleton.1 hr];exact List.mem_append.2 (Or.inr (by simp))
     ·rcases List.mem_append.1 hp with hp|hp
      ·obtain⟨r,hr,e⟩:=h.pr p hp
       exact⟨r,List.mem_append.2 (Or.inl hr),e⟩
      ·exact⟨_,List.mem_append.2 (Or.inr (List.mem_singleton.2 rfl)),(List.mem_singleton.1 hp).symm⟩
theorem Xpk {t:Tb}(h:Fx t)(d:Dc):Fx (Nn t d).2:=by
 unfold Nn
 split
 ·exact h
 split
 ·exact h
 rename_i h1 h2
 split
 ·exact h
 ·rename_i h3
  refine⟨?_,h.paths,?_,h.p16,h.rows,h.als,h.root,h.rp,h.pr⟩
  ·show(t.names++[d.loc]).Nodup
   rw[List.nodup_append]
   exact⟨h.names,by simp,fun a ha b hb e=>h2 (Or.inr (by rw[List.mem_singleton.1 hb]at e;exact e▸ha))⟩
  ·show(t.names++[d.loc]).length≤512
   have:=h.n512
   rw[List.length_append,List.length_singleton];omega
end
section
open Go.RowKit Go.Lib
theorem pstep_one (Br : Nat) (b : ByteArray) (p : Nat) (w : World) (h : PRd w Br b p 0 0) (hp : p ≤ b.size) (hb : b.size ≤ 512) (hu : Zq (b.data.toList.drop p) = true) :
    Calls Tryz.prog 83 #[.pointer (some ⟨Br,0,none⟩)] w fun x w' => ∃(n:Str) (ax:Option Addr) (lx cx:Nat) (ok:Bool),x=.returned (.tuple #[.agg #[.string ⟨n.toArray⟩,.slice ax lx cx],.bool ok])∧Qf Br w w' ∧
      ((ok=true∧∃st a c q,Xs (b.data.toList.drop p)=some (st,b.data.toList.drop q)∧n=st.1∧ax=a∧lx=st.2.length∧cx=c∧Qd w' w.heap.size (Qr (st,(a,c))) st.2∧PRd w' Br b q 0 0∧q≤b.size∧p < q∧Zq (b.data.toList.drop q)=true) ∨
       (ok=false∧Xs (b.data.toList.drop p)=none∧∃q e a,e≠0∧PRd w' Br b q e a)) := by
  refine (pstep_any Br b p w h hp hb hu).mono fun x w' hr => ?_
  rcases hr with ⟨st,r,q,kv,h1,h2,h3,h4,h5,h6,h7,h8,h9⟩|⟨h1,⟨n,a,l,c,h2⟩,h3,h4⟩
  · obtain ⟨a,c,rfl⟩ := Zx h3
    exact ⟨_,_,_,_,true,h2,h9,Or.inl ⟨rfl,st,a,c,q,by rw[h1,h7],rfl,rfl,rfl,rfl,h3,h4,h5,h6,by rw[←h7];exact h8⟩⟩
  · exact ⟨n,a,l,c,false,h2,h4,Or.inr ⟨rfl,h1,h3⟩⟩
theorem Pt {s:Str}(h:s≠[]):List.isEmpty s=false:=by cases s with
 |nil=>exact absurd rfl h
 |cons c t=>rfl
theorem Zvw {f:Nat}{l:List Stp}{s:Str}(h:Xs s=none):Jn f l s=none:=by
 cases f with
 |zero=>rfl
 |succ f=>simp only[Jn,h]
theorem Jd (s:Str)(w:World)(hs:s.length≤maxLen):Calls Tryz.prog 36 #[.string ⟨s.toArray⟩] w fun x w'=>Ny w s x w':=by
 have F0:=hid (heap_alloc_new w (.cells #[.int .i64 0,.int .i64 0] 78));have hb0:Below w.heap.size w (w.alloc (.cells #[.int .i64 0,.int .i64 0] 78)):=bal _ _;have B0:=hid hb0;have UC:=hid (fun W=>Qfy s W hs);have hsz:(⟨s.toArray⟩:ByteArray).size=s.length:=Lib.size_eq _;have HSZ:=hid hsz;clear hb0
 by_cases h512:512<s.length
 ·have hli:(512:Int)<(s.length:Int):=by omega
  have HNO:=hid (show Qy s=none by unfold Qy;rw[if_pos h512])
  obtain⟨z0,z1,zf0,zf1,zlt⟩:=Qq F0.out
  clear hsz h512
  go_enter Tryz.func36,Tryz.ntmps36
  go_upto_region 1 with fail;generalize w.alloc (.cells #[.int .i64 0,.int .i64 0] 78)=w1 at *;go_wp2_with fail;refine Hb (Pb:=w.heap.size) (e:=3) (a:=512) ?_ rfl rfl rfl ?_
  ·exact Xy (.int .i64 3) (.int .i64 512) F0.out
  ·exact⟨Or.inr ⟨HNO.out,3,512,by decide,rfl⟩,Zr _ _ B0.out (Nat.le_refl _)⟩
 ·have hli:¬(512:Int)<(s.length:Int):=by omega
  have H512:=hid h512;clear hsz
  go_enter Tryz.func36,Tryz.ntmps36
  go_upto_region 1 with fail;generalize w.alloc (.cells #[.int .i64 0,.int .i64 0] 78)=w1 at *;go_wp2_with fail
  refine(UC.out w1).mono ?_
  rintro e w2 ⟨⟨er,at',rfl,hut⟩,hb2⟩;have HUT:=hid hut;have F2:=hid (bk hb2 F0.out);have B2:=hid (B0.out.then hb2);clear hut hb2 h512 hli;have hb3:Below w2.heap.size w2 (w2.alloc (.cells #[.int .i64 er,.int .i64 at'] 78)):=bal _ _;have F3:=hid (bk hb3 F2.out);have B3:=hid (B2.out.then hb3);have G3:=hid (heap_alloc_new w2 (.cells #[.int .i64 er,.int .i64 at'] 78));have LT3:=hid (show w.heap.size<w2.heap.size from lt_of_block F2.out);clear hb3;go_upto_region 4 with fail;generalize w2.alloc (.cells #[.int .i64 er,.int .i64 at'] 78)=w3 at *;clear F2 B2
  obtain⟨z0,z1,zf0,zf1,zlt⟩:=Qq F3.out
  obtain⟨y0,y1,yf0,yf1,ylt⟩:=Qq G3.out
  rcases HUT.out with ⟨hu,rfl,rfl⟩|⟨hu,rfl⟩
  ·by_cases hemp:s=[]
   ·subst hemp;go_wp2_with fail
    first
     |go_region
     | fail "r5"
    all_goals
     go_wp2_with fail;refine Hb (Pb:=w.heap.size) (e:=0) (a:=0) ?_ rfl rfl rfl ?_
     ·exact Xy (.int .i64 0) (.int .i64 0) F3.out
     ·exact⟨Or.inl ⟨[],_,by unfold Qy;rw[if_neg H512.out,hu];rfl,rfl,[],rfl,Qg.nil _ _ _ _,(fun z hz=>by cases hz),List.Pairwise.nil⟩,(Zr _ _ B3.out (Nat.le_refl _)).drew⟩
   ·have hne:List.isEmpty s=false:=Pt hemp;go_wp2_with fail;have HPP:=hid (show Qy s=Jn 64 [] s by unfold Qy;rw[if_neg H512.out,hu];simp[hemp]);have hbr:Below w3.heap.size w3 (w3.alloc (.cells #[.string ⟨s.toArray⟩,.int .i64 0,.int .i64 0,.int .i64 0] 151)):=bal _ _;have HRD0:=hid (show PRd (w3.alloc (.cells #[.string ⟨s.toArray⟩,.int .i64 0,.int .i64 0,.int .i64 0] 151)) w3.heap.size ⟨s.toArray⟩ 0 0 0 from heap_alloc_new w3 _);have ST0:=hid (show Bm w s w3.heap.size (w3.alloc (.cells #[.string ⟨s.toArray⟩,.int .i64 0,.int .i64 0,.int .i64 0] 151)) (.slice none 0 0) [] from
     ⟨bk hbr F3.out,Qg.nil _ _ _ _,(fun z hz=>by cases hz),B3.out.then hbr,lt_of_block F3.out,List.Pairwise.nil⟩)
    have HU0:=hid hu;clear hbr z0 z1 zf0 zf1 zlt y0 y1 yf0 yf1 ylt hne hu hemp HUT;generalize w3.alloc (.cells #[.string ⟨s.toArray⟩,.int .i64 0,.int .i64 0,.int .i64 0] 151)=w4 at *;have SP:=hid (fun q W (h:PRd W w3.heap.size ⟨s.toArray⟩ q 0 0) (hq:q≤s.length) (hu:Zq (s.drop q)=true)=>pstep_one w3.heap.size ⟨s.toArray⟩ q W h (by rw[HSZ.out];exact hq) (by rw[HSZ.out];have:=H512.out;omega) hu);have NX:=hid (fun q W (h:PRd W w3.heap.size ⟨s.toArray⟩ q 0 0) (hq:q≤s.length)=>(show Calls Tryz.prog 84 #[.pointer (some ⟨w3.heap.size,0,none⟩),.int .u8 47] W _ from Qxx 47 w3.heap.size ⟨s.toArray⟩ q W h (by rw[HSZ.out];exact hq) (by rw[HSZ.out];have:=H512.out;omega)));have FA:=hid (fun q e a W (h:PRd W w3.heap.size ⟨s.toArray⟩ q 0 0)=>Tc w3.heap.size ⟨s.toArray⟩ q 0 0 e a W h);generalize w3.heap.size=Rb at *
    go_loopg[6] 65 (fun g v6 W=>∃(zs:List (Stp×(Option Addr×Nat))) (q:Nat),Bm w s Rb W v6 zs∧PRd W Rb ⟨s.toArray⟩ q 0 0∧q≤s.length∧Zq (s.drop q)=true∧Qy s=Jn (64-zs.length) (zs.map (·.1)) (s.drop q)∧zs.length≤64∧65≤zs.length+g)
    case atStart=>exact⟨[],0,ST0.out,HRD0.out,Nat.zero_le _,HU0.out,by rw[HPP.out];rfl,Nat.zero_le _,Nat.le_refl _⟩
    case round =>
     obtain⟨zs,q,st,rd,hq,hu,hpp,h64,hg⟩:=hrel
     rename World=>w5
     have ST5:=hid st;have RD5:=hid rd;have HU5:=hid hu;have HP5:=hid hpp;have HG:=hid hg;have HQ:=hid hq;have HZ:=hid h64;clear st rd hu hpp hg hq ST0 HRD0 HU0 HPP h64
     obtain⟨av,cv,rfl,hcap⟩:=ST5.out.own.slice
     clear hcap
     obtain⟨c0,c1,c2,c3,f1,f2,f3,lt⟩:=RD5.out.cells
     by_cases hfull:zs.length=64
     ·have HNO:=hid (show Qy s=none by rw[HP5.out,hfull];rfl);have hz64:((zs.length:Int)==64)=true:=by rw[beq_iff_eq];omega
      clear hfull
      go_wp2_with (go_at_call 82;refine(FA.out q 3 q w5 RD5.out).mono ?_;rintro e w6 ⟨rfl,h6,o6⟩)
      have ST6:=hid (ST5.out.step RD5.out o6);have H6:=hid h6;clear h6 o6 c0 c1 c2 c3 f1 f2 f3 lt
      obtain⟨c0,c1,c2,c3,f1,f2,f3,lt⟩:=H6.out.cells
      obtain⟨z0,z1,zf0,zf1,zlt⟩:=Qq ST6.out.pb
      go_wp2_with fail
      first
       |go_region
       | fail "r10"
      all_goals
       go_wp2_with fail;refine Hb (Pb:=w.heap.size) (e:=3) (a:=q) ?_ rfl rfl rfl ?_
       ·exact Xy (.int .i64 3) (.int .i64 q) ST6.out.pb
       ·exact⟨Or.inr ⟨HNO.out,3,q,by decide,rfl⟩,(Zr _ _ ST6.out.bel (Nat.le_refl _)).drew⟩
     ·have hz64:((zs.length:Int)==64)=false:=by rw[beq_eq_false_iff_ne];omega
      have HL:=hid (show zs.length<64 by have:=HZ.out;omega);clear hfull;go_wp2_with fail
      refine(SP.out q w5 RD5.out HQ.out HU5.out).mono ?_
      rintro e w6 ⟨nx,ax,lx,cx,ok,rfl,o6,hst⟩;have ST6:=hid (ST5.out.step RD5.out o6);have HSP:=hid hst;have HW5:=hid ST5.out.bel.size;clear c0 c1 c2 c3 f1 f2 f3 lt o6 hst;have hb7:Below w6.heap.size w6 (w6.alloc (.cells #[.string ⟨nx.toArray⟩,.slice ax lx cx] 82)):=bal _ _;have FX:=hid (heap_alloc_new w6 (.cells #[.string ⟨nx.toArray⟩,.slice ax lx cx] 82));have ST7:=hid (ST6.out.below hb7);have HB7:=hid hb7;clear hb7
      cases ok with
      |false =>
       obtain⟨hno,q6,er,ea,hne,hrd⟩:Xs (s.drop q)=none∧∃q e a,e≠0∧PRd w6 Rb ⟨s.toArray⟩ q e a:=by
        rcases HSP.out with ⟨h,_⟩|⟨_,h⟩
        ·cases h
        ·exact h
       have HNO:=hid (show Qy s=none by rw[HP5.out];exact Zvw hno);have HRD:=hid (hrd.below HB7.out);have HNE:=hid hne;clear hno hrd hne HSP;clear ST6 FX HB7
       obtain⟨c0,c1,c2,c3,f1,f2,f3,lt⟩:=HRD.out.cells
       obtain⟨z0,z1,zf0,zf1,zlt⟩:=Qq ST7.out.pb
       go_upto_region 12 with fail;generalize w6.alloc (.cells #[.string ⟨nx.toArray⟩,.slice ax lx cx] 82)=w7 at *;go_wp2_with fail
       first
        |go_region
        | fail "r13"
       all_goals
        go_wp2_with fail;refine Hb (Pb:=w.heap.size) (e:=er) (a:=ea) ?_ rfl rfl rfl ?_
        ·exact Xy (.int .i64 er) (.int .i64 ea) ST7.out.pb
        ·exact⟨Or.inr ⟨HNO.out,er,ea,HNE.out,rfl⟩,(Zr _ _ ST7.out.bel (Nat.le_refl _)).drew⟩
      |true =>
       obtain⟨xs,xa,xc,q6,hsp,rfl,rfl,rfl,rfl,hown,hrd,hq6,hqq,hu6⟩:∃st a c q6,Xs (s.drop q)=some (st,s.drop q6)∧nx=st.1∧ax=a∧lx=st.2.length∧cx=c∧Qd w6 w5.heap.size (Qr (st,(a,c))) st.2∧PRd w6 Rb ⟨s.toArray⟩ q6 0 0∧q6≤(⟨s.toArray⟩:ByteArray).size∧q<q6∧Zq (s.drop q6)=true:=by
        rcases HSP.out with ⟨_,h⟩|⟨h,_⟩
        ·exact h
        ·cases h
       rw[HSZ.out]at hq6;have HOX:=hid (Qz (show w6.ownsRow (w.heap.size+1) 37 2 _ _ _ from Ks hown (by have:=lt_of_block ST5.out.pb;omega)) HB7.out);have HDX:=hid (show ∀x∈zs,Zrx x (xs,(ax,cx))from fun x hx k hk e=>by have h1:=(World.ownsRow.lt (ST5.out.each x hx) k hk).2;have h2:=(World.ownsRow.lt hown k e).1;omega);have HRD:=hid (hrd.below HB7.out);have HQ6:=hid hq6;have HU6:=hid hu6;have HPX:=hid (show Qy s=if s.drop q6=[]then some (zs.map (·.1)++[xs])else match Xx 47 (s.drop q6) with
        |none=>none
        |some r'=>Jn (64-(zs.length+1)) (zs.map (·.1)++[xs]) r' by
        rw[HP5.out,show 64-zs.length=(64-(zs.length+1))+1 by have:=HL.out;omega];simp only[Jn,hsp]
        rfl)
       clear hsp hown hrd hq6 hqq hu6 HSP ST6;simp only[Qr]at *
       obtain⟨c0,c1,c2,c3,f1,f2,f3,lt⟩:=HRD.out.cells
       obtain⟨z0,z1,zf0,zf1,zlt⟩:=Qq ST7.out.pb
       obtain⟨x0,x1,xf0,xf1,xlt⟩:=Qq FX.out
       go_upto_region 12 with fail;generalize w6.alloc (.cells #[.string ⟨xs.1.toArray⟩,.slice ax xs.2.length cx] 82)=w7 at *;have HLA:=hid (show zs.length+1≤maxLen by have:=HL.out;unfold maxLen;omega);have HLB:=hid (show(zs.length+1) * 40≤140737488355328 by have:=HL.out;omega);have HSZ7:=hid (show w.heap.size+1≤w7.heap.size by have:=lt_of_block ST7.out.pb;omega)
       by_cases hend:q6=s.length
       ·have heq:((q6:Int)==(s.length:Int))=true:=by rw[beq_iff_eq];omega
        have HE:=hid (show Qy s=some (zs.map (·.1)++[xs])by rw[HPX.out,if_pos (List.drop_eq_nil_of_le (by omega))]);clear hend HPX c0 c1 c2 c3 f1 f2 f3 lt z0 z1 zf0 zf1 zlt
        go_wp2_with (at_builtin;refine Jl (E:=Qm) rfl (.tmp 50) (.tmp 52) rfl Tryz.underlying76 Yd rfl (by decide) (w.heap.size+1) _ zs (xs,(ax,cx)) rfl ST7.out.own rfl HLA.out HLB.out HSZ7.out #[.string ⟨xs.1.toArray⟩,.slice ax xs.2.length cx] rfl ?_;intro v8 w8 own8 gr8 mv8;obtain⟨a8,c8,rfl,hc8⟩:=own8.slice;rw[show(zs++[(xs,(ax,cx))]).length=zs.length+1 from by simp]at own8 hc8 ⊢;have ST8:=hid (ST7.out.push own8 gr8 HOX.out HDX.out);have RD8:=hid (ST7.out.rd HRD.out gr8);clear own8 gr8 mv8 hc8;obtain⟨c0,c1,c2,c3,f1,f2,f3,lt⟩:=RD8.out.cells;obtain⟨z0,z1,zf0,zf1,zlt⟩:=Qq ST8.out.pb)
        refine Hb (Pb:=w.heap.size) (e:=0) (a:=0) ?_ rfl rfl rfl ?_
        ·exact Xy (.int .i64 0) (.int .i64 0) ST8.out.pb
        ·exact⟨Or.inl ⟨_,_,HE.out,rfl,by have:=ST8.out.done (.int .i64 0) (.int .i64 0);rwa [List.map_append]at this⟩,Zr _ _ ST8.out.bel (Nat.le_refl _)⟩
       ·have heq:((q6:Int)==(s.length:Int))=false:=by rw[beq_eq_false_iff_ne];omega
        have HE:=hid (show Qy s=match Xx 47 (s.drop q6) with
         |none=>none
         |some r'=>Jn (64-(zs.length+1)) (zs.map (·.1)++[xs]) r' by
         rw[HPX.out,if_neg (fun e=>hend (by have:=congrArg List.length e;simp at this;have:=HQ6.out;omega))])
        clear hend HPX c0 c1 c2 c3 f1 f2 f3 lt z0 z1 zf0 zf1 zlt
        go_wp2_with (at_builtin;refine Jl (E:=Qm) rfl (.tmp 50) (.tmp 52) rfl Tryz.underlying76 Yd rfl (by decide) (w.heap.size+1) _ zs (xs,(ax,cx)) rfl ST7.out.own rfl HLA.out HLB.out HSZ7.out #[.string ⟨xs.1.toArray⟩,.slice ax xs.2.length cx] rfl ?_;intro v8 w8 own8 gr8 mv8;obtain⟨a8,c8,rfl,hc8⟩:=own8.slice;rw[show(zs++[(xs,(ax,cx))]).length=zs.length+1 from by simp]at own8 hc8 ⊢;have ST8:=hid (ST7.out.push own8 gr8 HOX.out HDX.out);have RD8:=hid (ST7.out.rd HRD.out gr8);clear own8 gr8 mv8 hc8;obtain⟨c0,c1,c2,c3,f1,f2,f3,lt⟩:=RD8.out.cells;obtain⟨z0,z1,zf0,zf1,zlt⟩:=Qq ST8.out.pb)
        refine(NX.out q6 w8 RD8.out HQ6.out).mono ?_
        rintro e w9 ⟨o9,okx,rfl,hx⟩;have ST9:=hid (ST8.out.step RD8.out o9);clear o9 c0 c1 c2 c3 f1 f2 f3 lt z0 z1 zf0 zf1 zlt
        cases okx with
        |false =>
         obtain⟨htb,hrd⟩:Xx 47 (s.drop q6)=none∧PRd w9 Rb ⟨s.toArray⟩ q6 0 0:=by
          rcases hx with ⟨_,h1,h2⟩|⟨h,_⟩
          ·exact⟨h1,h2⟩
          ·cases h
         have HNO:=hid (show Qy s=none by rw[HE.out,htb]);have HRD9:=hid hrd;clear hx htb hrd
         obtain⟨c0,c1,c2,c3,f1,f2,f3,lt⟩:=HRD9.out.cells
         go_wp2_with (go_at_call 82;refine(FA.out q6 160 q6 w9 HRD9.out).mono ?_;rintro e w10 ⟨rfl,h10,o10⟩;have ST10:=hid (ST9.out.step HRD9.out o10);have H10:=hid h10;clear h10 o10 c0 c1 c2 c3 f1 f2 f3 lt;obtain⟨c0,c1,c2,c3,f1,f2,f3,lt⟩:=H10.out.cells;obtain⟨z0,z1,zf0,zf1,zlt⟩:=Qq ST10.out.pb)
         first
          |go_region
          | fail "r19"
         all_goals
          go_wp2_with fail;refine Hb (Pb:=w.heap.size) (e:=160) (a:=q6) ?_ rfl rfl rfl ?_
          ·exact Xy (.int .i64 160) (.int .i64 q6) ST10.out.pb
          ·exact⟨Or.inr ⟨HNO.out,160,q6,by decide,rfl⟩,(Zr _ _ ST10.out.bel (Nat.le_refl _)).drew⟩
        |true =>
         obtain⟨htb,hq7,hrd⟩:Xx 47 (s.drop q6)=some (s.drop (q6+1))∧q6<(⟨s.toArray⟩:ByteArray).size∧PRd w9 Rb ⟨s.toArray⟩ (q6+1) 0 0:=by
          rcases hx with ⟨h,_⟩|⟨_,h1,h2,h3⟩
          ·cases h
          ·exact⟨h1,h2,h3⟩
         rw[HSZ.out]at hq7;have HE2:=hid (show Qy s=Jn (64-(zs.length+1)) (zs.map (·.1)++[xs]) (s.drop (q6+1))by rw[HE.out,htb]);have HU7:=hid (Hf (by decide) htb HU6.out);have HRD9:=hid hrd;clear hx htb hrd HE;go_wp2_with fail
         go_roundg (gk-1)
         case measure=>have:=HG.out;have:=HL.out;omega
         case rel=>exact⟨zs++[(xs,(ax,cx))],q6+1,ST9.out,HRD9.out,by omega,HU7.out,by rw[HE2.out];simp,by have:=HL.out;simp;omega,by have:=HG.out;have:=HL.out;simp;omega⟩
  ·have HNO:=hid (show Qy s=none by unfold Qy;rw[if_neg H512.out,if_pos hu]);go_wp2_with fail
   first
    |go_region
    | fail "r5"
   all_goals
    go_wp2_with fail;refine Hb (Pb:=w.heap.size) (e:=6) (a:=at') ?_ rfl rfl rfl ?_
    ·exact Xy (.int .i64 6) (.int .i64 at') F3.out
    ·exact⟨Or.inr ⟨HNO.out,6,at',by decide,rfl⟩,(Zr _ _ B3.out (Nat.le_refl _)).drew⟩
theorem Cf (s:Str)(w:World)(hs:s.length≤maxLen):Calls Tryz.prog 89 #[.string ⟨s.toArray⟩] w fun x w'=>(∃(er:Nat)(a:Int),x=.returned (.agg #[.int .i64 er,.int .i64 a])∧(er=0↔Zv s=true))∧Below w.heap.size w w':=by
 have F0:=hid (heap_alloc_new w (.cells #[.int .i64 0,.int .i64 0] 78));have hb0:Below w.heap.size w (w.alloc (.cells #[.int .i64 0,.int .i64 0] 78)):=bal _ _;have B0:=hid hb0;have PP:=hid (fun W=>(show Calls Tryz.prog 36 #[.string ⟨s.toArray⟩] W fun x w'=>∃(v:Value) (er:Nat) (a:Int),x=.returned (.tuple #[v,.agg #[.int .i64 er,.int .i64 a]])∧(er=0↔Zv s=true)∧Below W.heap.size W w' from
  (Jd s W hs).mono (by
   rintro x w' ⟨h,hb⟩
   rcases h with ⟨l,v,h1,h2,_⟩|⟨h1,er,a,h2,h3⟩
   ·exact⟨v,0,0,h2,by unfold Zv;rw[h1];simp,hb⟩
   ·exact⟨_,er,a,h3,by unfold Zv;rw[h1];simp[h2],hb⟩)))
 clear hb0
 go_enter Tryz.func89,Tryz.ntmps89
 go_upto_region 1 with fail;generalize w.alloc (.cells #[.int .i64 0,.int .i64 0] 78)=w1 at *;go_wp2_with fail
 refine(PP.out w1).mono ?_
 rintro e w2 ⟨v,er,a,rfl,hi,hb2⟩;have F2:=hid (bk hb2 F0.out);have B2:=hid (B0.out.then hb2);have HI:=hid hi;have hb3:Below w2.heap.size w2 (w2.alloc (.cells #[.int .i64 er,.int .i64 a] 78)):=bal _ _;have F3:=hid (bk hb3 F2.out);have B3:=hid (B2.out.then hb3);have G3:=hid (heap_alloc_new w2 (.cells #[.int .i64 er,.int .i64 a] 78));clear hb2 hb3 hi F2 B2;go_upto_region 2 with fail;generalize w2.alloc (.cells #[.int .i64 er,.int .i64 a] 78)=w3 at *
 obtain⟨z0,z1,zf0,zf1,zlt⟩:=Qq F3.out
 obtain⟨y0,y1,yf0,yf1,ylt⟩:=Qq G3.out
 go_wp2_with fail;have hr:=Xy (.int .i64 er) (.int .i64 a) F3.out;have hbw:=Zr (.int .i64 er) (.int .i64 a) B3.out (Nat.le_refl w.heap.size);change bodyPost _ _ _ _ _ (P2 w3 w.heap.size (.int .i64 er) (.int .i64 a));generalize P2 w3 w.heap.size (.int .i64 er) (.int .i64 a)=V at *
 obtain⟨e0,e1,_,_,_⟩:=Qq hr
 exact bodyPost_ret (v:=.agg #[.int .i64 er,.int .i64 a]) (by simp[results,Tryz.results89,go_sem,e0,e1]) rfl ⟨⟨er,a,rfl,HI.out⟩,hbw⟩
end
end Go.Proofs.YtbbmdbolkicpcabGreatDoor
