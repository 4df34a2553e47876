/- ChainP, TableP, TbSt, TbPut, TableQ, PtParse, TbItem -/
import Derived.Test.YtbbmdbolkicpcaaGreatDoorILG07
import Derived.Test.YtbbmdbolkicpcaaGreatDoorILG01
import Derived.Test.YtbbmdbolkicpcaaGreatDoorILG04
import Derived.BigQuiet
import Derived.Test.YtbbmdbolkicpcaaGreatDoorILG06
import Derived.Deep.RegionHeld3
set_option maxRecDepth 100000
set_option maxHeartbeats 32000000
set_option linter.unusedVariables false
set_option linter.unusedSimpArgs false
namespace Go.Proofs.YtbbmdbolkicpcaaGreatDoor
section
def plainT (t:Tg):Tg :=
 if t.vars≠[] then { t with vars:=t.vars.take (t.vars.length - 1) } else if t.region≠[] then { t with region:=[] } else if t.script≠[] then { t with script:=[] } else { t with lang:=[] }
def lack (s:Str):Nat:=if s=[] then 0 else 1
def depth (t:Tg):Nat:=t.vars.length+(lack t.region+(lack t.script+lack t.lang))
def tagOf (s:Str):Tg:=(Xs s).tag
def depthS (s:Str):Nat:=depth (tagOf s)
def plainF (s:Str):Str×Bool:=if Qk s=true∧s≠Qv then((nameF (plainT (tagOf s))).1,(nameF (plainT (tagOf s))).2==0) else([],false)
theorem named_facts {s:Str}(h:Qk s=true):(Xs s).err=0∧Good (tagOf s)∧(tagOf s).keys=[]∧nameOf (Kf (tagOf s))=s:=by
 unfold Qk at h;rw [Bool.and_eq_true,Bool.and_eq_true,beq_iff_eq,beq_iff_eq,beq_iff_eq] at h
 obtain⟨h1,h2,h3⟩:=h
 have hg:=good_of s h1;rw [good_name _ hg] at h3;simp only at h3;have h4:=good_nameRead _ hg;rw [h3] at h4;have h5:tagOf s=bareT (tagOf s):=by
  show(Xs s).tag=bareT (Xs s).tag
  have:=congrArg Res.tag h4
  exact this
 refine⟨h1,hg,by rw [h5];rfl,?_⟩
 rw [h5];exact h3
theorem good_lang {t:Tg}(h:Good t)(hk:t.keys=[])(hs:t.script=[])(hr:t.region=[])(hv:t.vars=[]):Good { t with lang:=[] }:=by
 refine⟨⟨Or.inl rfl,h.canon.script,h.canon.region,h.canon.vars,h.canon.vsort,h.canon.keys,h.canon.ksort⟩,?_⟩
 unfold partsR;simp only [hk,hs,hr,hv,opt_nil]
 decide
theorem good_plainT {t:Tg}(h:Good t)(hk:t.keys=[]):Good (plainT t)∧(plainT t).keys=[]:=by
 have hp:=h.short;unfold partsR at hp;rw [Kw,Zz,Zz,Zz] at hp;unfold plainT
 by_cases h1:t.vars=[]
 ·rw [if_neg (by simp [h1])]
  by_cases h2:t.region=[]
  ·rw [if_neg (by simp [h2])]
   by_cases h3:t.script=[]
   ·rw [if_neg (by simp [h3])]
    exact⟨good_lang h hk h3 h2 h1,hk⟩
   ·rw [if_pos h3]
    refine⟨⟨⟨h.canon.lang,Or.inl rfl,h.canon.region,h.canon.vars,h.canon.vsort,h.canon.keys,h.canon.ksort⟩,?_⟩,hk⟩
    unfold partsR;rw [Kw,Zz,Zz,Zz];simp only [opt_nil,sz_nil]
    omega
  ·rw [if_pos h2]
   refine⟨⟨⟨h.canon.lang,h.canon.script,Or.inl rfl,h.canon.vars,h.canon.vsort,h.canon.keys,h.canon.ksort⟩,?_⟩,hk⟩
   unfold partsR;rw [Kw,Zz,Zz,Zz];simp only [opt_nil,sz_nil]
   omega
 ·rw [if_pos h1];have hd:=List.take_append_drop (t.vars.length - 1) t.vars;have hz:sz (t.vars.take (t.vars.length - 1))≤sz t.vars:=by
   conv=>rhs;rw [← hd,Zz]
   omega
  have hv:=h.canon.vars;have hs:srtS (t.vars.take (t.vars.length - 1))=t.vars.take (t.vars.length - 1):=by
   have h5:=srtS_sorted t.vars;rw [h.canon.vsort] at h5;exact List.mergeSort_of_pairwise (h5.sublist (List.take_sublist _ _))
  refine⟨⟨⟨h.canon.lang,h.canon.script,h.canon.region,⟨hv.1.sublist (List.take_sublist _ _),fun v hm=>hv.2.1 v (List.mem_of_mem_take hm),?_⟩,hs,h.canon.keys,h.canon.ksort⟩,?_⟩,hk⟩
  ·have:=hv.2.2;rw [List.length_take];omega
  ·unfold partsR;rw [Kw,Zz,Zz,Zz]
   simp only
   omega
theorem lack_pos {s:Str}(h:s≠[]):lack s=1:=if_neg h
theorem lack_nil:lack []=0:=rfl
theorem depth_plainT {t:Tg}(h:depth t≠0):depth (plainT t)+1=depth t:=by
 unfold plainT
 by_cases h1:t.vars=[]
 ·rw [if_neg (by simp [h1])]
  by_cases h2:t.region=[]
  ·rw [if_neg (by simp [h2])]
   by_cases h3:t.script=[]
   ·rw [if_neg (by simp [h3])];unfold depth at h ⊢;simp only [h1,h2,h3,lack_nil,List.length_nil] at h ⊢
    by_cases h4:t.lang=[]
    ·rw [h4] at h;exact absurd rfl h
    ·rw [lack_pos h4]
   ·rw [if_pos h3];unfold depth;simp only [lack_nil,lack_pos h3]
    omega
  ·rw [if_pos h2];unfold depth;simp only [lack_nil,lack_pos h2]
   omega
 ·rw [if_pos h1]
  have:0<t.vars.length:=List.length_pos_iff.2 h1
  unfold depth;simp only [List.length_take]
  omega
theorem depth_zero {t : Tg} (h : depth t = 0) (hk : t.keys = []) : t = Tg.zero := by
  unfold depth at h
  have h1 : t.vars = [] := List.length_eq_zero_iff.1 (by omega)
  have h2 : t.region = [] := by by_cases e : t.region = []; · exact e
                                · rw [lack_pos e] at h; omega
  have h3 : t.script = [] := by by_cases e : t.script = []; · exact e
                                · rw [lack_pos e] at h; omega
  have h4 : t.lang = [] := by by_cases e : t.lang = []; · exact e
                              · rw [lack_pos e] at h; omega
  cases t
  simp only at *
  subst h1; subst h2; subst h3; subst h4; subst hk; rfl
theorem depth_le {s:Str}(h:Qk s=true):depthS s≤11:=by
 have:=(named_facts h).2.1.vars
 have hl:∀ x:Str,lack x≤1:=fun x=>by unfold lack;split <;> omega
 have h1:=hl (tagOf s).region;have h2:=hl (tagOf s).script;have h3:=hl (tagOf s).lang;unfold depthS depth
 omega
theorem root_name:nameOf (Kf (bareT Tg.zero))=Qv:=by decide
theorem named_root:Qk Qv=true:=by rw [← root_name];exact good_named _ Good.zero
theorem depth_root {s:Str}(h:Qk s=true)(hd:depthS s=0):s=Qv:=by
 obtain⟨_,_,hk,hn⟩:=named_facts h
 rw [depth_zero hd hk] at hn;rw [← hn];exact root_name
theorem plain_ok {s:Str}(h:Qk s=true)(hr:s≠Qv):∃ p,plainF s=(p,true)∧Qk p=true∧depthS p+1=depthS s:=by
 obtain⟨_,hg,hk,hn⟩:=named_facts h
 obtain⟨hg2,hk2⟩:=good_plainT hg hk
 refine⟨nameOf (Kf (bareT (plainT (tagOf s)))),?_,good_named _ hg2,?_⟩
 ·unfold plainF;rw [if_pos ⟨h,hr⟩,good_name _ hg2];rfl
 ·have hq:tagOf (nameOf (Kf (bareT (plainT (tagOf s)))))=bareT (plainT (tagOf s)):=congrArg Res.tag (good_nameRead _ hg2);unfold depthS;rw [hq];have hd:depth (tagOf s)≠0:=fun e=>hr (depth_root h e)
  have:=depth_plainT hd
  rw [← this];rfl
theorem plain_no {s:Str}(h:¬ (Qk s=true∧s≠Qv)):plainF s=([],false):=by unfold plainF;rw [if_neg h]
def look:List (Str×Str)→Str→Option Str
 | [],_=>none
 | p::l,k=>if p.1=k then some p.2 else look l k
theorem look_mem {l:List (Str×Str)}{k v:Str}(h:look l k=some v):(k,v)∈l:=by
 induction l with
 | nil=>cases h
 | cons p l ih =>
  unfold look at h
  split at h
  ·rename_i hk
   subst hk
   cases h;exact List.mem_cons_self
  ·exact List.mem_cons_of_mem _ (ih h)
theorem look_append (l m:List (Str×Str))(k:Str):look (l++m) k=(look l k).or (look m k):=by
 induction l with
 | nil=>simp [look]
 | cons p l ih=>rw [List.cons_append,look,look];split <;> simp_all
theorem look_none {l:List (Str×Str)}{k:Str}:look l k=none↔∀ p∈l,p.1≠k:=by
 induction l with
 | nil=>simp [look]
 | cons p l ih=>rw [look];split <;> simp_all
def Xw (D:List (Str×Str))(s:Str):Str×Bool:=match look D s with
 | some p=>(p,true)
 | none=>plainF s
def stepF (D:List (Str×Str))(s:Str):Option Str:=if(Xw D s).2=true then some (Xw D s).1 else none
def iter (D:List (Str×Str)):Nat→Str→Option Str
 | 0,s=>some s
 | n+1,s=>(iter D n s).bind (stepF D)
theorem iter_add (D:List (Str×Str))(m n:Nat)(s:Str):iter D (m+n) s=(iter D m s).bind (iter D n):=by
 induction n with
 | zero=>simp [iter]
 | succ n ih=>rw [← Nat.add_assoc,iter,ih];cases iter D m s <;> simp [iter]
def saidOK (D:List (Str×Str)):Prop:=∀ p∈D,Qk p.1=true∧Qk p.2=true∧p.1≠Qv
theorem step_named {D:List (Str×Str)}(hD:saidOK D){s t:Str}(h:stepF D s=some t):Qk t=true:=by
 unfold stepF Xw at h
 cases hl:look D s with
 | some p=>rw [hl] at h;simp at h;subst h;exact(hD _ (look_mem hl)).2.1
 | none =>
  rw [hl] at h;simp only at h
  by_cases hp:Qk s=true∧s≠Qv
  ·obtain⟨p,h1,h2,_⟩:=plain_ok hp.1 hp.2
   rw [h1] at h
   simp at h
   subst h;exact h2
  ·rw [plain_no hp] at h;simp at h
theorem step_some {D:List (Str×Str)}(hD:saidOK D){s:Str}(h:Qk s=true)(hr:s≠Qv):∃ t,stepF D s=some t:=by
 unfold stepF Xw
 cases hl:look D s with
 | some p=>exact⟨p,rfl⟩
 | none =>
  obtain⟨p,h1,_⟩:=plain_ok h hr
  exact⟨p,by simp only;rw [h1];rfl⟩
theorem step_depth {D:List (Str×Str)}{s t:Str}(hl:look D s=none)(h:stepF D s=some t):depthS t+1=depthS s:=by
 unfold stepF Xw at h;rw [hl] at h;simp only at h
 by_cases hp:Qk s=true∧s≠Qv
 ·obtain⟨p,h1,_,h3⟩:=plain_ok hp.1 hp.2
  rw [h1] at h
  simp at h
  subst h;exact h3
 ·rw [plain_no hp] at h;simp at h
def tower:Nat→Str→List Str
 | 0,s=>[s]
 | n+1,s=>s::(if(plainF s).2=true then tower n (plainF s).1 else [])
theorem tower_self (n:Nat)(s:Str):s∈tower n s:=by cases n <;> simp [tower]
theorem tower_len:∀ (n:Nat)(s:Str),(tower n s).length≤n+1
 | 0,s=>by simp [tower]
 | n+1,s=>by
  rw [tower,List.length_cons]
  split
  ·have:=tower_len n (plainF s).1;omega
  ·simp
theorem tower_step:∀ (n:Nat)(s x:Str),Qk s=true→depthS s≤n→x∈tower n s→(plainF x).2=true→(plainF x).1∈tower n s
 | 0,s,x,hs,hd,hx,hp=>by
  simp [tower] at hx
  subst hx;rw [plain_no (fun h=>h.2 (depth_root hs (by omega)))] at hp
  cases hp
 | n+1,s,x,hs,hd,hx,hp=>by
  rw [tower] at hx ⊢
  by_cases h:Qk s=true∧s≠Qv
  ·obtain⟨p,h1,h2,h3⟩:=plain_ok h.1 h.2
   rw [h1] at hx ⊢;simp only [if_true] at hx ⊢
   rcases List.mem_cons.1 hx with rfl | hx
   ·rw [h1];exact List.mem_cons_of_mem _ (tower_self _ _)
   ·exact List.mem_cons_of_mem _ (tower_step n p x h2 (by omega) hx hp)
  ·rw [plain_no h] at hx ⊢
   simp at hx
   subst hx;rw [plain_no h] at hp
   cases hp
def reach (D:List (Str×Str))(s:Str):List Str:=(s::D.map (·.2)).flatMap (tower 11)
theorem reach_len (D:List (Str×Str))(s:Str):(reach D s).length≤12 * (D.length+1):=by
 unfold reach;have h:∀ l:List Str,(l.flatMap (tower 11)).length≤12 * l.length:=by
  intro l
  induction l with
  | nil=>simp
  | cons x l ih=>rw [List.flatMap_cons,List.length_append,List.length_cons];have:=tower_len 11 x;omega
 have:=h (s::D.map (·.2))
 simpa using this
theorem reach_self (D:List (Str×Str))(s:Str):s∈reach D s:=by
 unfold reach;rw [List.flatMap_cons];exact List.mem_append_left _ (tower_self _ _)
theorem reach_step {D:List (Str×Str)}(hD:saidOK D){s x y:Str}(hs:Qk s=true)(hx:x∈reach D s)(h:stepF D x=some y):y∈reach D s:=by
 unfold reach at hx ⊢;unfold stepF Xw at h
 cases hl:look D x with
 | some p =>
  rw [hl] at h
  simp at h
  subst h;refine List.mem_flatMap.2 ⟨p,List.mem_cons_of_mem _ (List.mem_map.2 ⟨_,look_mem hl,rfl⟩),tower_self _ _⟩
 | none =>
  rw [hl] at h;simp only at h
  split at h
  ·rename_i hp
   cases h
   obtain⟨z,hz,hx2⟩:=List.mem_flatMap.1 hx
   have hzn:Qk z=true:=by
    rcases List.mem_cons.1 hz with rfl | hz
    ·exact hs
    ·obtain⟨q,hq,rfl⟩:=List.mem_map.1 hz
     exact(hD q hq).2.1
   exact List.mem_flatMap.2 ⟨z,hz,tower_step 11 z x hzn (depth_le hzn) hx2 hp⟩
  ·cases h
theorem iter_reach {D:List (Str×Str)}(hD:saidOK D){s:Str}(hs:Qk s=true):∀ (n:Nat)(x:Str),iter D n s=some x→x∈reach D s
 | 0,x,h=>by cases h;exact reach_self D s
 | n+1,x,h=>by
  rw [iter,Option.bind_eq_some_iff] at h
  obtain⟨y,h1,h2⟩:=h
  exact reach_step hD hs (iter_reach hD hs n y h1) h2
theorem iter_named {D:List (Str×Str)}(hD:saidOK D){s:Str}(hs:Qk s=true):∀ (n:Nat)(x:Str),iter D n s=some x→Qk x=true
 | 0,x,h=>by cases h;exact hs
 | n+1,x,h=>by
  rw [iter,Option.bind_eq_some_iff] at h
  obtain⟨y,h1,h2⟩:=h
  exact step_named hD h2
theorem nodup_le:∀ (l R:List Str),l.Nodup→(∀ x∈l,x∈R)→l.length≤R.length
 | [],R,_,_=>Nat.zero_le _
 | x::l,R,hn,hs=>by
  rw [List.nodup_cons] at hn;have hx:=hs x List.mem_cons_self;have h2:=nodup_le l (R.erase x) hn.2 fun y hy=>(List.mem_erase_of_ne (fun e=>hn.1 (by rw [← e];exact hy))).2 (hs y (List.mem_cons_of_mem _ hy))
  rw [List.length_erase_of_mem hx] at h2
  have:0<R.length:=List.length_pos_of_mem hx
  rw [List.length_cons];omega
theorem twice (f:Nat→Str)(R:List Str)(h:∀ n,f n∈R):∃ i p,f (i+(p+1))=f i:=by
 by_cases hc:((List.range (R.length+1)).map f).Nodup
 ·have:=nodup_le _ R hc (fun x hx=>by obtain⟨i,_,rfl⟩:=List.mem_map.1 hx;exact h i)
  simp at this
  omega
 ·by_cases hall:∀ i j,i<j→f j≠f i
  ·exfalso
   apply hc
   have:List.Pairwise (fun a b:Nat=>a<b) (List.range (R.length+1)):=List.pairwise_lt_range
   exact List.Pairwise.map f (fun a b hab=>Ne.symm (hall a b hab)) this
  ·have:∃ i j,i<j∧f j=f i:=by
    apply Classical.byContradiction
    intro hn;exact hall fun i j hij he=>hn ⟨i,j,hij,he⟩
   obtain⟨i,j,hij,he⟩:=this
   exact⟨i,j - i - 1,by rw [show i+(j - i - 1+1)=j by omega];exact he⟩
def ringP (D:List (Str×Str))(k:Str):Prop:=∃ n,iter D (n+1) k=some k
theorem ends {D:List (Str×Str)}(hD:saidOK D)(hr:∀ p∈D,¬ ringP D p.1){s:Str}(hs:Qk s=true):∃ n,iter D n s=some Qv:=by
 apply Classical.byContradiction
 intro hn;have hno:∀ n,iter D n s≠some Qv:=fun n e=>hn ⟨n,e⟩
 have hall:∀ n,∃ x,iter D n s=some x:=by
  intro n
  induction n with
  | zero=>exact⟨s,rfl⟩
  | succ n ih =>
   obtain⟨x,hx⟩:=ih
   have hxr:x≠Qv:=fun e=>hno n (by rw [hx,e])
   obtain⟨t,ht⟩:=step_some hD (iter_named hD hs n x hx) hxr
   exact⟨t,by rw [iter,hx];exact ht⟩
 obtain⟨f,hf⟩:∃ f:Nat→Str,∀ n,iter D n s=some (f n):=⟨fun n=>(hall n).choose,fun n=>(hall n).choose_spec⟩
 obtain⟨i,p,hip⟩:=twice f (reach D s) (fun n=>iter_reach hD hs n _ (hf n))
 have hgo:∀ m n,iter D n (f m)=some (f (m+n)):=fun m n=>by
  have:=iter_add D m n s
  rw [hf,hf] at this;exact this.symm
 by_cases hc:∃ q v,look D (f (i+q))=some v
 ·obtain⟨q,v,hq⟩:=hc
  refine hr _ (look_mem hq) ⟨p,?_⟩;show iter D (p+1) (f (i+q))=some (f (i+q));rw [hgo];have h1:=hgo (i+(p+1)) q;rw [hip,hgo] at h1;rw [show i+q+(p+1)=i+(p+1)+q by omega];exact h1.symm
 ·have hlook:∀ q,look D (f (i+q))=none:=by
   intro q
   cases h:look D (f (i+q)) with
   | none=>rfl
   | some v=>exact absurd ⟨q,v,h⟩ hc
  have hd:∀ q,depthS (f (i+q))+q=depthS (f i):=by
   intro q
   induction q with
   | zero=>rfl
   | succ q ih =>
    have h1:=hgo (i+q) 1;have h2:stepF D (f (i+q))=some (f (i+q+1)):=by simpa [iter] using h1
    have h3:=step_depth (hlook q) h2;have h4:depthS (f (i+(q+1)))=depthS (f (i+q+1)):=rfl
    omega
  have:=hd (p+1)
  rw [hip] at this
  omega
def Up (D:List (Str×Str)):Str→List Str→Prop
 | _,[]=>False
 | s,[x]=>x=s∧s=Qv
 | s,x::y::l=>x=s∧s≠Qv∧stepF D s=some y∧Up D y (y::l)
theorem up_root (D:List (Str×Str)):Up D Qv [Qv]:=⟨rfl,rfl⟩
theorem up_head {D:List (Str×Str)}:∀ {l:List Str}{s:Str},Up D s l→∃ r,l=s::r
 | [],_,h=>h.elim
 | [x],s,h=>⟨[],by rw [h.1]⟩
 | x::y::l,s,h=>⟨y::l,by rw [h.1]⟩
theorem up_cons {D:List (Str×Str)}{s t:Str}{l:List Str}(hr:s≠Qv)(h:stepF D s=some t)(hl:Up D t l):Up D s (s::l):=by
 obtain⟨r,rfl⟩:=up_head hl
 exact⟨rfl,hr,h,hl⟩
theorem up_of_iter {D:List (Str×Str)}(hD:saidOK D):∀ (n:Nat)(s:Str),iter D n s=some Qv→∃ l,Up D s l
 | 0,s,h=>by cases h;exact⟨_,up_root D⟩
 | n+1,s,h=>by
  by_cases hr:s=Qv
  ·subst hr;exact⟨_,up_root D⟩
  ·rw [show n+1=1+n by omega,iter_add,Option.bind_eq_some_iff] at h
   obtain⟨t,h1,h2⟩:=h
   obtain⟨l,hl⟩:=up_of_iter hD n t h2
   exact⟨_,up_cons hr (by simpa [iter] using h1) hl⟩
theorem up_ex {D:List (Str×Str)}(hD:saidOK D)(hr:∀ p∈D,¬ ringP D p.1){s:Str}(hs:Qk s=true):∃ l,Up D s l:=by
 obtain⟨n,hn⟩:=ends hD hr hs
 exact up_of_iter hD n s hn
theorem up_one {D:List (Str×Str)}:∀ {l m:List Str}{s:Str},Up D s l→Up D s m→l=m
 | [],_,_,h,_=>h.elim
 | [x],m,s,h,h2=>by
  match m,h2 with
  | [y],h2=>rw [h.1,h2.1]
  | y::z::m,h2=>exact absurd h.2 h2.2.1
 | x::y::l,m,s,h,h2=>by
  match m,h2 with
  | [z],h2=>exact absurd h2.2 h.2.1
  | z::u::m,h2 =>
   have h3:=h.2.2.1;rw [h2.2.2.1] at h3
   cases h3;rw [h.1,h2.1,up_one h.2.2.2 h2.2.2.2]
theorem up_drop {D:List (Str×Str)}:∀ {l:List Str}{s:Str}(i:Nat)(hi:i<l.length),Up D s l→Up D l[i] (l.drop i)
 | [],_,_,hi,h=>h.elim
 | [x],s,0,hi,h=>by simpa [h.1] using h
 | [x],s,i+1,hi,h=>by simp at hi
 | x::y::l,s,0,hi,h=>by
  have:=h.1
  subst this;exact h
 | x::y::l,s,i+1,hi,h=>by
  have:=up_drop i (by simpa using hi) h.2.2.2
  simpa using this
theorem up_named {D:List (Str×Str)}(hD:saidOK D):∀ {l:List Str}{s:Str},Qk s=true→Up D s l→∀ x∈l,Qk x=true
 | [],_,_,h,_,_=>h.elim
 | [x],s,hs,h,z,hz=>by
  have:=h.1
  subst this;rw [List.mem_singleton.1 hz];exact hs
 | x::y::l,s,hs,h,z,hz=>by
  have:=h.1
  subst this
  rcases List.mem_cons.1 hz with rfl | hz
  ·exact hs
  ·exact up_named hD (step_named hD h.2.2.1) h.2.2.2 z hz
theorem up_nodup {D:List (Str×Str)}{l:List Str}{s:Str}(h:Up D s l):∀ i j,(hj:j<l.length)→(hij:i<j)→l[i]≠l[j]:=by
 intro i j hj hij he;have h1:=up_drop i (by omega) h;have h2:=up_drop j hj h;rw [he] at h1;have h3:=congrArg List.length (up_one h1 h2);simp only [List.length_drop] at h3
 omega
def badAt (done:List (Str×Str)):List (Str×Str)→Option (Nat×Nat)
 | []=>none
 | p::r=>if(Qk p.1=true∧Qk p.2=true)∧p.1≠Qv then(if look done p.1=none then badAt (done++[p]) r else some (211,done.length)) else some (2,done.length)
theorem bad_none {done r:List (Str×Str)}(h:badAt done r=none)(hd:saidOK done):saidOK (done++r):=by
 induction r generalizing done with
 | nil=>rw [List.append_nil];exact hd
 | cons p r ih =>
  unfold badAt at h
  split at h
  ·rename_i hp
   split at h
   ·have:=ih h (fun q hq=>by
     rcases List.mem_append.1 hq with hq | hq
     ·exact hd q hq
     ·rw [List.mem_singleton.1 hq];exact⟨hp.1.1,hp.1.2,hp.2⟩)
    rw [List.append_assoc] at this;exact this
   ·cases h
  ·cases h
def NewOut (l:List (Str×Str))(e i:Nat):Prop :=
 (badAt [] l=some (e,i))∨(badAt [] l=none∧e=210∧(∃ p,l[i]?=some p∧ringP l p.1)∧∀ j p,j<i→l[j]?=some p→¬ ringP l p.1)∨(badAt [] l=none∧e=0∧i=0∧∀ p∈l,¬ ringP l p.1)
end
section
open Go.Lib
structure Itm where
 path:Str
 value:Str
 alias':Bool
 draft:Str
 at':Int
structure Dc where
 loc:Str
 supp:Bool
 items:List Itm
structure Rw where
 loc:Str
 path:Str
 text:Str
 file:Nat
 at':Int
structure Tb where
 rows:List Rw
 als:List Rw
 names:List Str
 paths:List Str
def Tb.zero:Tb:=⟨[],[],[],[]⟩
def Qy (l:List Rw)(loc path:Str):Option Rw:=l.find? (fun r=>r.loc==loc&&r.path==path)
structure Wrg where
 err:Nat
 file:Int
 at':Int
def Wrg.ok:Wrg:=⟨0,0,0⟩
def itemF (t:Tb)(loc:Str)(f:Nat)(x:Itm):Nat×Tb :=
 if x.path=[]∨Qm x.path=false then(2,t)
 else if x.alias'=true∧loc≠Qv then(221,t)
 else if x.alias'=true then
  match Qy t.als loc x.path with
  | some r=>if r.text=x.value then(0,t) else(220,t)
  | none=>(0,{ t with als:=t.als++[⟨loc,x.path,x.value,f,x.at'⟩] })
 else
  match Qy t.rows loc x.path with
  | some r=>if r.text=x.value then(0,t) else(220,t)
  | none =>
   if x.path∈t.paths then(0,{ t with rows:=t.rows++[⟨loc,x.path,x.value,f,x.at'⟩] })
   else if t.paths.length=16384 then(3,t)
   else(0,{ t with rows:=t.rows++[⟨loc,x.path,x.value,f,x.at'⟩],paths:=t.paths++[x.path] })
def itemsF (loc:Str)(f:Nat):Tb→List Itm→Option (Nat×Int)×Tb
 | t,[]=>(none,t)
 | t,x::r=>match itemF t loc f x with
  | (0,t')=>itemsF loc f t' r
  | (e,t')=>(some (e,x.at'),t')
def headF (t:Tb)(d:Dc):Nat×Tb :=
 if(d.supp=true∧d.loc≠[])∨(d.supp=false∧Qk d.loc=false) then(2,t)
 else if d.supp=true∨d.loc∈t.names then(0,t)
 else if t.names.length=512 then(3,t)
 else(0,{ t with names:=t.names++[d.loc] })
def docsF:Nat→Tb→List Dc→Wrg×Tb
 | _,t,[]=>(Wrg.ok,t)
 | f,t,d::r=>match headF t d with
  | (0,t1)=>match itemsF d.loc f t1 d.items with
   | (none,t2)=>docsF (f+1) t2 r
   | (some (e,a),t2)=>(⟨e,f,a⟩,t2)
  | (e,t1)=>(⟨e,f,0⟩,t1)
def Kc (l:List Dc):Wrg×Tb:=docsF 0 Tb.zero l
end
section
open Go.RowKit Go.Lib Go.Sort Go.Maps Go.WideMaps
def sdOf (r:Rw):Str×Int×Int:=(r.text,(r.file:Int),r.at')
def sdL (l:List Rw):List (Str×(Str×Int×Int)):=l.map fun r=>(r.path,sdOf r)
def Kl (t:Tb)(loc:Str):List Rw:=t.rows.filter (fun r=>r.loc==loc)
theorem look_sd (l:List Rw)(k:Str):Zj (sdL l) k=(l.find? (fun r=>r.path==k)).map sdOf:=by
 unfold Zj sdL;rw [List.find?_map,Option.map_map];rfl
theorem look_rows (t:Tb)(loc path:Str):Zj (sdL (Kl t loc)) path=(Qy t.rows loc path).map sdOf:=by
 rw [look_sd,Kl,Qy,List.find?_filter]
 congr 2
 funext r
 rw [Bool.eq_iff_iff]
 simp
theorem look_als {l:List Rw}(h:∀ r∈l,r.loc=Qv)(path:Str):Zj (sdL l) path=(Qy l Qv path).map sdOf:=by
 rw [look_sd]
 congr 1
 unfold Qy
 induction l with
 | nil=>rfl
 | cons r l ih =>
  have hr:=h r (List.mem_cons_self ..);rw [List.find?_cons,List.find?_cons,hr,ih (fun x hx=>h x (List.mem_cons_of_mem _ hx))]
  simp
structure TbAt (W:World)(Bt bv ba bn bp N:Nat)(V:List (Str×Nat))(t:Tb):Prop where
 box:W.heap[Bt]?=some (.cells #[.map (some bv),.map (some ba),.map (some bn),.map (some bp)] 93 (0,0))
 vals:Zh elMp W bv N (mpL V)
 als:Zh elSd W ba N (sdL t.als)
 names:Zh elBo W bn N (Jb t.names)
 paths:Zh elBo W bp N (Jb t.paths)
 each:∀ p∈V,Zh elSd W p.2 N (sdL (Kl t p.1))
 keys:(V.map (·.1)).Nodup
 has:∀ r∈t.rows,r.loc∈V.map (·.1)
 root:∀ r∈t.als,r.loc=Qv
 apart:(bv::ba::bn::bp::V.map (·.2)).Nodup
section
variable {W W' : World} {Bt bv ba bn bp N : Nat} {V : List (Str × Nat)} {t : Tb} {α : Type} {E : El α} {b n c : Nat} {L : List (Str × α)}
theorem Zh.kept (h:Zh E W b n L)(gr:W.grownBy W' (some c))(ne:b≠c):Zh E W' b n L:=h.block (gr.block b h.lt (by simpa using ne))
theorem Kd {cs:Array Value}{ty:TypeId}(hb:W.heap[Bt]?=some (.cells cs ty (0,0)))(h:Zh E W c n L)(gr:W.grownBy W' (some c)):W'.heap[Bt]?=some (.cells cs ty (0,0)):=by
 have ne:Bt≠c:=by
  rintro rfl
  obtain⟨es,ck,hm⟩:=h.isMap
  rw [hb] at hm;cases hm
 rw [gr.block Bt (Array.getElem?_eq_some_iff.1 hb).1 (by simpa using ne)];exact hb
theorem TbAt.below (h:TbAt W Bt bv ba bn bp N V t)(hb:Below W.heap.size W W'):TbAt W' Bt bv ba bn bp N V t :=
 ⟨(hb.block _ (Array.getElem?_eq_some_iff.1 h.box).1).trans h.box,h.vals.below hb,h.als.below hb,h.names.below hb,h.paths.below hb,fun p hp=>(h.each p hp).below hb,h.keys,h.has,h.root,h.apart⟩
theorem TbAt.mono {N':Nat}(h:TbAt W Bt bv ba bn bp N V t)(hn:N≤N'):TbAt W Bt bv ba bn bp N' V t :=
 ⟨h.box,h.vals.mono hn,h.als.mono hn,h.names.mono hn,h.paths.mono hn,fun p hp=>(h.each p hp).mono hn,h.keys,h.has,h.root,h.apart⟩
theorem TbAt.lo (h:TbAt W Bt bv ba bn bp N V t):bv≠ba∧bv≠bn∧bv≠bp∧ba≠bn∧ba≠bp∧bn≠bp∧∀ p∈V,p.2≠bv∧p.2≠ba∧p.2≠bn∧p.2≠bp:=by
 have ha:=h.apart;simp only [List.nodup_cons,List.mem_cons,not_or] at ha
 obtain⟨⟨h1,h2,h3,h4⟩,⟨h5,h6,h7⟩,⟨h8,h9⟩,h10,_⟩:=ha
 refine⟨h1,h2,h3,h5,h6,h8,fun p hp=>?_⟩
 have hm:p.2∈V.map (·.2):=List.mem_map.2 ⟨p,hp,rfl⟩
 exact⟨fun e=>h4 (e ▸ hm),fun e=>h7 (e ▸ hm),fun e=>h9 (e ▸ hm),fun e=>h10 (e ▸ hm)⟩
theorem TbAt.addPath (h:TbAt W Bt bv ba bn bp N V t){ps:List Str}(o:Zh elBo W' bp (N+1) (Jb ps))(gr:W.grownBy W' (some bp)):TbAt W' Bt bv ba bn bp (N+1) V { t with paths:=ps }:=by
 obtain⟨h1,h2,h3,h5,h6,h8,hV⟩:=h.lo
 have hN:N≤N+1:=Nat.le_succ N
 exact⟨Kd h.box h.paths gr,(h.vals.kept gr h3).mono hN,(h.als.kept gr h6).mono hN,(h.names.kept gr h8).mono hN,o,fun p hp=>((h.each p hp).kept gr (hV p hp).2.2.2).mono hN,h.keys,h.has,h.root,h.apart⟩
theorem TbAt.addName (h:TbAt W Bt bv ba bn bp N V t){ns:List Str}(o:Zh elBo W' bn (N+1) (Jb ns))(gr:W.grownBy W' (some bn)):TbAt W' Bt bv ba bn bp (N+1) V { t with names:=ns }:=by
 obtain⟨h1,h2,h3,h5,h6,h8,hV⟩:=h.lo
 have hN:N≤N+1:=Nat.le_succ N
 exact⟨Kd h.box h.names gr,(h.vals.kept gr h2).mono hN,(h.als.kept gr h5).mono hN,o,(h.paths.kept gr (Ne.symm h8)).mono hN,fun p hp=>((h.each p hp).kept gr (hV p hp).2.2.1).mono hN,h.keys,h.has,h.root,h.apart⟩
theorem TbAt.addRow (h:TbAt W Bt bv ba bn bp N V t)(r:Rw){b:Nat}(hp:(r.loc,b)∈V)(o:Zh elSd W' b (N+1) (sdL (Kl t r.loc)++[(r.path,sdOf r)]))(gr:W.grownBy W' (some b)):TbAt W' Bt bv ba bn bp (N+1) V { t with rows:=t.rows++[r] }:=by
 obtain⟨h1,h2,h3,h5,h6,h8,hV⟩:=h.lo
 obtain⟨v1,v2,v3,v4⟩:=hV _ hp
 have hN:N≤N+1:=Nat.le_succ N;have ho:=h.each _ hp;have hap:=h.apart
 refine⟨Kd h.box ho gr,(h.vals.kept gr (Ne.symm v1)).mono hN,(h.als.kept gr (Ne.symm v2)).mono hN,(h.names.kept gr (Ne.symm v3)).mono hN,(h.paths.kept gr (Ne.symm v4)).mono hN,fun p hq=>?_,h.keys,fun x hx=>?_,h.root,h.apart⟩
 ·by_cases e:p.1=r.loc
  ·have:p=(r.loc,b):=by
    have hk:=h.keys;have i1:=lookE_is hk hq;have i2:=lookE_is hk hp;rw [e,i2] at i1
    cases i1
    obtain⟨x,y⟩:=p
    simp only at e ⊢;rw [e]
   subst this;rw [show Kl { t with rows:=t.rows++[r] } r.loc=Kl t r.loc++[r] by simp [Kl],show sdL (Kl t r.loc++[r])=sdL (Kl t r.loc)++[(r.path,sdOf r)] by simp [sdL]];exact o
  ·have hne:p.2≠b:=by
    intro e2;have hnd:(V.map (·.2)).Nodup:=by
     simp only [List.nodup_cons] at hap;exact hap.2.2.2.2
    exact e (by
     have:=(List.pairwise_map.1 hnd)
     obtain⟨i,hi,hpi⟩:=List.getElem_of_mem hq
     obtain⟨j,hj,hpj⟩:=List.getElem_of_mem hp
     by_cases hij:i=j
     ·subst hij;rw [← hpi,hpj]
     ·exfalso
      have key:∀ (i j:Nat) (hi:i<V.length) (hj:j<V.length),i<j→V[i].2≠V[j].2:=fun i j hi hj hlt=>(List.pairwise_iff_getElem.1 this) i j hi hj hlt
      rcases Nat.lt_or_gt_of_ne hij with hl | hl
      ·exact key i j hi hj hl (by rw [hpi,hpj];exact e2)
      ·exact key j i hj hi hl (by rw [hpi,hpj];exact e2.symm))
   rw [show Kl { t with rows:=t.rows++[r] } p.1=Kl t p.1 by simp [Kl,Ne.symm e]]
   exact((h.each p hq).kept gr hne).mono hN
 ·rcases List.mem_append.1 hx with hx | hx
  ·exact h.has x hx
  ·rw [List.mem_singleton.1 hx];exact List.mem_map.2 ⟨_,hp,rfl⟩
theorem TbAt.addMap (h:TbAt W Bt bv ba bn bp N V t)(loc:Str)(hno:Zj V loc=none)(o:Zh elMp W' bv (N+1) (mpL V++[(loc,some W.heap.size)]))(gr:(W.alloc (.map #[] 0)).grownBy W' (some bv)):TbAt W' Bt bv ba bn bp (N+1) (V++[(loc,W.heap.size)]) t:=by
 have ha:Below W.heap.size W (W.alloc (.map #[] 0)):=bal _ _;have h':=h.below ha
 obtain⟨h1,h2,h3,h5,h6,h8,hV⟩:=h.lo
 have hN:N≤N+1:=Nat.le_succ N;have hnl:=lookE_none.1 hno;have lv:=h.vals.lt
 refine⟨Kd h'.box h'.vals gr,by rw [mpL_append];exact o,(h'.als.kept gr (Ne.symm h1)).mono hN,(h'.names.kept gr (Ne.symm h2)).mono hN,(h'.paths.kept gr (Ne.symm h3)).mono hN,fun p hp=>?_,?_,fun r hr=>?_,h.root,?_⟩
 ·rcases List.mem_append.1 hp with hp | hp
  ·exact((h'.each p hp).kept gr (hV p hp).1).mono hN
  ·rw [List.mem_singleton.1 hp];have he:Kl t loc=[]:=by
    unfold Kl;rw [List.filter_eq_nil_iff];intro r hr e
    obtain⟨q,hq,he⟩:=List.mem_map.1 (h.has r hr)
    have:r.loc=loc:=by simpa using e
    exact hnl q hq (he.trans this)
   show Zh elSd W' W.heap.size (N+1) (sdL (Kl t loc));rw [he]
   exact((Zh.made elSd W).kept gr (by omega)).mono (Nat.zero_le _)
 ·rw [List.map_append,List.nodup_append]
  refine⟨h.keys,by simp,fun a ha' b hb=>?_⟩
  obtain⟨q,hq,rfl⟩:=List.mem_map.1 ha'
  simp only [List.map_cons,List.map_nil,List.mem_singleton] at hb;rw [hb];exact hnl q hq
 ·rw [List.map_append];exact List.mem_append.2 (Or.inl (h.has r hr))
 ·have hap:=h.apart;have hlt:∀ x∈bv::ba::bn::bp::V.map (·.2),x<W.heap.size:=by
   intro x hx;simp only [List.mem_cons] at hx
   rcases hx with rfl | rfl | rfl | rfl | hx
   ·exact lv
   ·exact h.als.lt
   ·exact h.names.lt
   ·exact h.paths.lt
   ·obtain⟨q,hq,rfl⟩:=List.mem_map.1 hx
    exact(h.each q hq).lt
  rw [List.map_append,show bv::ba::bn::bp::(V.map (·.2)++[(loc,W.heap.size)].map (·.2))=(bv::ba::bn::bp::V.map (·.2))++[W.heap.size] by simp,List.nodup_append]
  refine⟨hap,by simp,fun x hx y hy=>?_⟩
  rw [List.mem_singleton.1 hy]
  have:=hlt x hx
  omega
end
end
section
open Go.RowKit Go.Lib Go.Sort Go.Maps Go.WideMaps
section
variable {α : Type} {E : El α} {w : World} {b n : Nat} {L : List (Str × α)} {ops : Array Oper} {rest : List Oper} {o : Oper} {a : Act} {Q : Exit → Act → World → Prop} {mt e : TypeId}
theorem wpList_lookE (h:Zh E w b n L)(hu:Tryz.prog.underlying mt=some (.map 9 e)){x0:α}(hz:∀ W:World,(zeroValue e).run Tryz.prog W=.ok (E.v x0) W)(hg:o.guard=none)(m x:Operand)(hop:o.op=Op.lookup mt m x true)(hm:a.eval m=.map (some b))(k:Str)(hx:a.eval x=.string ⟨k.toArray⟩)(hk:k.length≤maxLen)
  (v:Value)(q:Bool)(hv:E.v ((Zj L k).getD x0)=v)(hq:(Zj L k).isSome=q)
  (hK:wpList Tryz.prog ops Q rest (a.put o.dst (.tuple #[v,.bool q])) w):wpList Tryz.prog ops Q (o::rest) a w:=by
 refine wpList_plain hg fun K' hK'=>?_
 have hrun:=h.look_ok hu hz k hk;rw [hv,hq] at hrun;unfold Oper.wp
 simp [execOp,hop,hm,hx,hrun,Result.andThen]
 exact hK' _ _ hK
theorem wpList_lookE1 (h:Zh E w b n L)(hu:Tryz.prog.underlying mt=some (.map 9 e)){x0:α}(hz:∀ W:World,(zeroValue e).run Tryz.prog W=.ok (E.v x0) W)(hg:o.guard=none)(m x:Operand)(hop:o.op=Op.lookup mt m x false)(hm:a.eval m=.map (some b))(k:Str)(hx:a.eval x=.string ⟨k.toArray⟩)(hk:k.length≤maxLen)
  (v:Value)(hv:E.v ((Zj L k).getD x0)=v)
  (hK:wpList Tryz.prog ops Q rest (a.put o.dst v) w):wpList Tryz.prog ops Q (o::rest) a w:=by
 refine wpList_plain hg fun K' hK'=>?_
 have hrun:=h.look hu hz k hk;rw [hv] at hrun;unfold Oper.wp
 simp [execOp,hop,hm,hx,hrun,Result.andThen]
 exact hK' _ _ hK
theorem wpList_sayE (h:Zh E w b n L)(hn:n<maxLen)(hu:Tryz.prog.underlying mt=some (.map 9 e))(hg:o.guard=none)(m x v:Operand)(hop:o.op=Op.mapUpdate mt m x v)(hm:a.eval m=.map (some b))(k:Str)(hx:a.eval x=.string ⟨k.toArray⟩)(hk:k.length≤maxLen)(y:α)(hv:a.eval v=E.v y)(hno:Zj L k=none)
  (hK:∀ w',Zh E w' b (n+1) (L++[(k,y)])→w.grownBy w' (some b)→wpList Tryz.prog ops Q rest (a.put o.dst undef) w'):wpList Tryz.prog ops Q (o::rest) a w:=by
 refine wpList_plain hg fun K' hK'=>?_
 obtain⟨w',hrun,ho,hgr⟩:=h.say hn hu k y hk hno
 unfold Oper.wp
 simp [execOp,hop,hm,hx,hv,hrun,Result.andThen]
 exact hK' _ _ (hK w' ho hgr)
end
theorem zeroSd (W:World):(zeroValue 96).run Tryz.prog W=.ok (elSd.v ([],0,0)) W:=by kernel_rfl
theorem zeroBo (W:World):(zeroValue 4).run Tryz.prog W=.ok (elBo.v false) W:=by kernel_rfl
theorem zeroMap (W:World):(zeroValue 91).run Tryz.prog W=.ok (elMp.v none) W:=by kernel_rfl
theorem Qj {W:World}{B:Nat}{a b c:Value}{ty:TypeId}(h:W.heap[B]?=some (.cells #[a,b,c] ty (0,0))) :
  W.cell? ⟨B,0,none⟩=some a∧W.cell? ⟨B,1,none⟩=some b∧W.cell? ⟨B,2,none⟩=some c∧B<W.heap.size :=
 ⟨by rw [cell_of_row _ _ _ _ _ _ h];rfl,by rw [cell_of_row _ _ _ _ _ _ h];rfl,by rw [cell_of_row _ _ _ _ _ _ h];rfl,lt_of_block h⟩
theorem grown_from {w w1 w2:World}{b:Nat}(h:Below w.heap.size w w1)(g:w1.grownBy w2 (some b))(ht:w1.tape=w.tape):w.grownBy w2 (some b) :=
 ⟨g.os.trans h.os,g.tape.trans ht,g.output.trans h.output,Nat.le_trans h.size g.size,fun k hk hne=>by rw [g.block k (Nat.lt_of_lt_of_le hk h.size) hne];exact h.block k hk⟩
theorem grown_below {w w1:World}{b:Nat}(h:Below w.heap.size w w1)(ht:w1.tape=w.tape):w.grownBy w1 (some b):=⟨h.os,ht,h.output,h.size,fun k hk _=>h.block k hk⟩
def putL (L:List (Str×(Str×Int×Int)))(k:Str)(x:Str×Int×Int):List (Str×(Str×Int×Int)):=match Zj L k with | none=>L++[(k,x)] | some _=>L
def putR (L:List (Str×(Str×Int×Int)))(k:Str)(s:Str):Bool:=match Zj L k with | none=>true | some y=>y.1==s
theorem put_any (w:World)(b N:Nat)(L:List (Str×(Str×Int×Int)))(key:Str)(xt:Str)(xf xa:Int)(h:Zh elSd w b N L)(hN:N<maxLen)(hk:key.length≤maxLen) :
  Calls Tryz.prog 93 #[.map (some b),.string ⟨key.toArray⟩,.agg #[.string ⟨xt.toArray⟩,.int .i64 xf,.int .i64 xa]] w fun e w'=>e=.returned (.bool (putR L key xt))∧Zh elSd w' b (N+1) (putL L key (xt,xf,xa))∧w.grownBy w' (some b):=by
 have hb1:Below w.heap.size w (w.alloc (.cells #[.string ⟨xt.toArray⟩,.int .i64 xf,.int .i64 xa] 96)):=bal _ _;have HB1:=hid hb1;have F1:=hid (heap_alloc_new w (.cells #[.string ⟨xt.toArray⟩,.int .i64 xf,.int .i64 xa] 96));have HT1:=hid (show(w.alloc (.cells #[.string ⟨xt.toArray⟩,.int .i64 xf,.int .i64 xa] 96)).tape=w.tape from rfl);have HO1:=hid (h.below hb1);clear hb1
 cases hlk:Zj L key with
 | some y =>
  obtain⟨yt,yf,ya⟩:=y
  have HLK:=hid hlk;clear hlk
  go_enter Tryz.func93,Tryz.ntmps93
  go_upto_region 1 with fail;generalize w.alloc (.cells #[.string ⟨xt.toArray⟩,.int .i64 xf,.int .i64 xa] 96)=w1 at *
  go_upto_region 2 with (at_lookup;refine wpList_lookE (E:=elSd) HO1.out Tryz.underlying91 zeroSd rfl _ _ rfl rfl key rfl hk (.agg #[.string ⟨yt.toArray⟩,.int .i64 yf,.int .i64 ya]) true (by rw [HLK.out];rfl) (by rw [HLK.out];rfl) ?_)
  have hb2:Below w1.heap.size w1 (w1.alloc (.cells #[.string ⟨yt.toArray⟩,.int .i64 yf,.int .i64 ya] 96)):=bal _ _;have F2:=hid (heap_alloc_new w1 (.cells #[.string ⟨yt.toArray⟩,.int .i64 yf,.int .i64 ya] 96));have HT2:=hid (show(w1.alloc (.cells #[.string ⟨yt.toArray⟩,.int .i64 yf,.int .i64 ya] 96)).tape=w.tape from HT1.out);have HB2:=hid hb2;clear hb2;generalize w1.alloc (.cells #[.string ⟨yt.toArray⟩,.int .i64 yf,.int .i64 ya] 96)=w2 at *;have HB:=hid (HB1.out.then HB2.out)
  obtain⟨x0,x1,x2,xl⟩:=Qj (bk HB2.out F1.out)
  obtain⟨y0,y1,y2,yl⟩:=Qj F2.out
  go_wp2_with fail;exact bodyPost_ret (v:=.bool (yt==xt)) (by simp [results,Tryz.results93,go_sem]) rfl ⟨by unfold putR;rw [HLK.out],by unfold putL;rw [HLK.out];exact(h.below HB.out).mono (Nat.le_succ N),grown_below HB.out HT2.out⟩
 | none =>
  have HLK:=hid hlk;clear hlk
  go_enter Tryz.func93,Tryz.ntmps93
  go_upto_region 1 with fail;generalize w.alloc (.cells #[.string ⟨xt.toArray⟩,.int .i64 xf,.int .i64 xa] 96)=w1 at *
  go_upto_region 2 with (at_lookup;refine wpList_lookE (E:=elSd) HO1.out Tryz.underlying91 zeroSd rfl _ _ rfl rfl key rfl hk (.agg #[.string ⟨#[]⟩,.int .i64 0,.int .i64 0]) false (by rw [HLK.out];rfl) (by rw [HLK.out];rfl) ?_)
  have hb2:Below w1.heap.size w1 (w1.alloc (.cells #[.string ⟨#[]⟩,.int .i64 0,.int .i64 0] 96)):=bal _ _;have F2:=hid (heap_alloc_new w1 (.cells #[.string ⟨#[]⟩,.int .i64 0,.int .i64 0] 96));have HT2:=hid (show(w1.alloc (.cells #[.string ⟨#[]⟩,.int .i64 0,.int .i64 0] 96)).tape=w.tape from HT1.out);have HB2:=hid hb2;clear hb2;generalize w1.alloc (.cells #[.string ⟨#[]⟩,.int .i64 0,.int .i64 0] 96)=w2 at *;have HB:=hid (HB1.out.then HB2.out);have HO2:=hid (HO1.out.below HB2.out)
  obtain⟨x0,x1,x2,xl⟩:=Qj (bk HB2.out F1.out)
  go_wp2_with (at_mapUpdate;refine wpList_sayE (E:=elSd) HO2.out hN Tryz.underlying91 rfl _ _ _ rfl rfl key rfl hk (xt,xf,xa) rfl HLK.out ?_;intro w3 ho3 hg3;have HO3:=hid ho3;have HG3:=hid (grown_from HB.out hg3 HT2.out);clear ho3 hg3)
  exact bodyPost_ret (v:=.bool true) (by simp [results,Tryz.results93,go_sem]) rfl ⟨by unfold putR;rw [HLK.out],by unfold putL;rw [HLK.out];exact HO3.out,HG3.out⟩
end
section
open Go.Lib
structure Jq (t:Tb):Prop where
 names:t.names.Nodup
 paths:t.paths.Nodup
 n512:t.names.length≤512
 p16:t.paths.length≤16384
 rows:(t.rows.map fun r=>(r.loc,r.path)).Nodup
 als:(t.als.map fun r=>r.path).Nodup
 root:∀ r∈t.als,r.loc=Qv
 rp:∀ r∈t.rows,r.path∈t.paths
 pr:∀ p∈t.paths,∃ r∈t.rows,r.path=p
theorem Jq.zero:Jq Tb.zero:=⟨by simp [Tb.zero],by simp [Tb.zero],by simp [Tb.zero],by simp [Tb.zero],by simp [Tb.zero],by simp [Tb.zero],by simp [Tb.zero],by simp [Tb.zero],by simp [Tb.zero]⟩
theorem findR_none {l:List Rw}{loc path:Str}:Qy l loc path=none↔∀ r∈l,¬ (r.loc=loc∧r.path=path):=by
 unfold Qy;rw [List.find?_eq_none]
 simp
theorem findR_some {l:List Rw}{loc path:Str}{r:Rw}(h:Qy l loc path=some r):r∈l∧r.loc=loc∧r.path=path:=by
 unfold Qy at h;have h1:=List.find?_some h
 simp at h1
 exact⟨List.mem_of_find?_eq_some h,h1⟩
theorem rows_more {l:List Rw}(h:(l.map fun r=>(r.loc,r.path)).Nodup){r:Rw}(hn:Qy l r.loc r.path=none):((l++[r]).map fun r=>(r.loc,r.path)).Nodup:=by
 rw [List.map_append,List.nodup_append]
 refine⟨h,by simp,fun a ha b hb e=>?_⟩
 obtain⟨x,hx,rfl⟩:=List.mem_map.1 ha
 simp only [List.map_cons,List.map_nil,List.mem_singleton] at hb;subst hb;exact findR_none.1 hn x hx (Prod.mk.inj e)
theorem item_ok {t:Tb}(h:Jq t)(loc:Str)(f:Nat)(x:Itm):Jq (itemF t loc f x).2:=by
 unfold itemF
 split
 ·exact h
 split
 ·exact h
 split
 ·rename_i h1 h2 h3
  have hl:loc=Qv:=by
   by_cases e:loc=Qv
   ·exact e
   ·exact absurd ⟨h3,e⟩ h2
  split
  ·split <;> exact h
  ·rename_i hf
   refine⟨h.names,h.paths,h.n512,h.p16,h.rows,?_,fun r hr=>?_,h.rp,h.pr⟩
   ·show((t.als++[(⟨loc,x.path,x.value,f,x.at'⟩:Rw)]).map fun(r:Rw)=>r.path).Nodup
    rw [List.map_append,List.nodup_append]
    refine⟨h.als,by simp,fun a ha b hb e=>?_⟩
    obtain⟨y,hy,rfl⟩:=List.mem_map.1 ha
    simp only [List.map_cons,List.map_nil,List.mem_singleton] at hb;subst hb;exact findR_none.1 hf y hy ⟨(h.root y hy).trans hl.symm,e⟩
   ·rcases List.mem_append.1 hr with hr | hr
    ·exact h.root r hr
    ·rw [List.mem_singleton.1 hr];exact hl
 ·split
  ·split <;> exact h
  ·rename_i hf
   split
   ·rename_i hp
    refine⟨h.names,h.paths,h.n512,h.p16,rows_more h.rows hf,h.als,h.root,fun r hr=>?_,fun p hp=>?_⟩
    ·rcases List.mem_append.1 hr with hr | hr
     ·exact h.rp r hr
     ·rw [List.mem_singleton.1 hr];exact hp
    ·obtain⟨r,hr,e⟩:=h.pr p hp
     exact⟨r,List.mem_append.2 (Or.inl hr),e⟩
   ·split
    ·exact h
    ·rename_i hp hn
     refine⟨h.names,?_,h.n512,?_,rows_more h.rows hf,h.als,h.root,fun r hr=>?_,fun p hp=>?_⟩
     ·show(t.paths++[x.path]).Nodup
      rw [List.nodup_append]
      exact⟨h.paths,by simp,fun a ha b hb e=>hp (by rw [List.mem_singleton.1 hb] at e;exact e ▸ ha)⟩
     ·show(t.paths++[x.path]).length≤16384
      have:=h.p16
      rw [List.length_append,List.length_singleton];omega
     ·rcases List.mem_append.1 hr with hr | hr
      ·exact List.mem_append.2 (Or.inl (h.rp r hr))
      ·rw [List.mem_singleton.1 hr];exact List.mem_append.2 (Or.inr (by simp))
     ·rcases List.mem_append.1 hp with hp | hp
      ·obtain⟨r,hr,e⟩:=h.pr p hp
       exact⟨r,List.mem_append.2 (Or.inl hr),e⟩
      ·exact⟨_,List.mem_append.2 (Or.inr (List.mem_singleton.2 rfl)),(List.mem_singleton.1 hp).symm⟩
theorem head_tb {t:Tb}(h:Jq t)(d:Dc):Jq (headF t d).2:=by
 unfold headF
 split
 ·exact h
 split
 ·exact h
 rename_i h1 h2
 split
 ·exact h
 ·rename_i h3
  refine⟨?_,h.paths,?_,h.p16,h.rows,h.als,h.root,h.rp,h.pr⟩
  ·show(t.names++[d.loc]).Nodup
   rw [List.nodup_append]
   exact⟨h.names,by simp,fun a ha b hb e=>h2 (Or.inr (by rw [List.mem_singleton.1 hb] at e;exact e ▸ ha))⟩
  ·show(t.names++[d.loc]).length≤512
   have:=h.n512
   rw [List.length_append,List.length_singleton];omega
end
section
open Go.RowKit Go.Lib
theorem pstep_one (Br : Nat) (b : ByteArray) (p : Nat) (w : World) (h : PRd w Br b p 0 0) (hp : p ≤ b.size) (hb : b.size ≤ 512) (hu : Zm (b.data.toList.drop p) = true) :
    Calls Tryz.prog 85 #[.pointer (some ⟨Br, 0, none⟩)] w fun x w' => ∃ (n : Str) (ax : Option Addr) (lx cx : Nat) (ok : Bool), x = .returned (.tuple #[.agg #[.string ⟨n.toArray⟩, .slice ax lx cx], .bool ok]) ∧ Qr Br w w' ∧
      ((ok = true ∧ ∃ st a c q, stepP (b.data.toList.drop p) = some (st, b.data.toList.drop q) ∧ n = st.1 ∧ ax = a ∧ lx = st.2.length ∧ cx = c ∧ Qd w' w.heap.size (Qt (st, (a, c))) st.2 ∧ PRd w' Br b q 0 0 ∧ q ≤ b.size ∧ p < q ∧ Zm (b.data.toList.drop q) = true) ∨
       (ok = false ∧ stepP (b.data.toList.drop p) = none ∧ ∃ q e a, e ≠ 0 ∧ PRd w' Br b q e a)) := by
  refine (pstep_any Br b p w h hp hb hu).mono fun x w' hr => ?_
  rcases hr with ⟨st, r, q, kv, h1, h2, h3, h4, h5, h6, h7, h8, h9⟩ | ⟨h1, ⟨n, a, l, c, h2⟩, h3, h4⟩
  · obtain ⟨a, c, rfl⟩ := Ql h3
    exact ⟨_, _, _, _, true, h2, h9, Or.inl ⟨rfl, st, a, c, q, by rw [h1, h7], rfl, rfl, rfl, rfl, h3, h4, h5, h6, by rw [← h7]; exact h8⟩⟩
  · exact ⟨n, a, l, c, false, h2, h4, Or.inr ⟨rfl, h1, h3⟩⟩
theorem isEmpty_ne {s:Str}(h:s≠[]):List.isEmpty s=false:=by cases s with
 | nil=>exact absurd rfl h
 | cons c t=>rfl
theorem stepsP_no {f:Nat}{l:List Stp}{s:Str}(h:stepP s=none):stepsP f l s=none:=by
 cases f with
 | zero=>rfl
 | succ f=>simp only [stepsP,h]
theorem pparse_any (s:Str)(w:World)(hs:s.length≤maxLen):Calls Tryz.prog 46 #[.string ⟨s.toArray⟩] w fun x w'=>ParseOut w s x w':=by
 have F0:=hid (heap_alloc_new w (.cells #[.int .i64 0,.int .i64 0] 77));have hb0:Below w.heap.size w (w.alloc (.cells #[.int .i64 0,.int .i64 0] 77)):=bal _ _;have B0:=hid hb0;have UC:=hid (fun W=>ucheck_any s W hs);have hsz:(⟨s.toArray⟩:ByteArray).size=s.length:=Lib.size_eq _;have HSZ:=hid hsz;clear hb0
 by_cases h512:512<s.length
 ·have hli:(512:Int)<(s.length:Int):=by omega
  have HNO:=hid (show Qb s=none by unfold Qb;rw [if_pos h512])
  obtain⟨z0,z1,zf0,zf1,zlt⟩:=Qq F0.out
  clear hsz h512
  go_enter Tryz.func46,Tryz.ntmps46
  go_upto_region 1 with fail;generalize w.alloc (.cells #[.int .i64 0,.int .i64 0] 77)=w1 at *;go_wp2_with fail;refine parse_ret (Pb:=w.heap.size) (e:=3) (a:=512) ?_ rfl rfl rfl ?_
  ·exact Kv (.int .i64 3) (.int .i64 512) F0.out
  ·exact⟨Or.inr ⟨HNO.out,3,512,by decide,rfl⟩,Xd _ _ B0.out (Nat.le_refl _)⟩
 ·have hli:¬ (512:Int)<(s.length:Int):=by omega
  have H512:=hid h512;clear hsz
  go_enter Tryz.func46,Tryz.ntmps46
  go_upto_region 1 with fail;generalize w.alloc (.cells #[.int .i64 0,.int .i64 0] 77)=w1 at *;go_wp2_with fail
  refine(UC.out w1).mono ?_
  rintro e w2 ⟨⟨er,at',rfl,hut⟩,hb2⟩;have HUT:=hid hut;have F2:=hid (bk hb2 F0.out);have B2:=hid (B0.out.then hb2);clear hut hb2 h512 hli;have hb3:Below w2.heap.size w2 (w2.alloc (.cells #[.int .i64 er,.int .i64 at'] 77)):=bal _ _;have F3:=hid (bk hb3 F2.out);have B3:=hid (B2.out.then hb3);have G3:=hid (heap_alloc_new w2 (.cells #[.int .i64 er,.int .i64 at'] 77));have LT3:=hid (show w.heap.size<w2.heap.size from lt_of_block F2.out);clear hb3;go_upto_region 4 with fail;generalize w2.alloc (.cells #[.int .i64 er,.int .i64 at'] 77)=w3 at *;clear F2 B2
  obtain⟨z0,z1,zf0,zf1,zlt⟩:=Qq F3.out
  obtain⟨y0,y1,yf0,yf1,ylt⟩:=Qq G3.out
  rcases HUT.out with ⟨hu,rfl,rfl⟩ | ⟨hu,rfl⟩
  ·by_cases hemp:s=[]
   ·subst hemp;go_wp2_with fail
    first
     | go_region
     | fail "r5"
    all_goals
     go_wp2_with fail;refine parse_ret (Pb:=w.heap.size) (e:=0) (a:=0) ?_ rfl rfl rfl ?_
     ·exact Kv (.int .i64 0) (.int .i64 0) F3.out
     ·exact⟨Or.inl ⟨[],_,by unfold Qb;rw [if_neg H512.out,hu];rfl,rfl,[],rfl,Qf.nil _ _ _ _,(fun z hz=>by cases hz),List.Pairwise.nil⟩,(Xd _ _ B3.out (Nat.le_refl _)).drew⟩
   ·have hne:List.isEmpty s=false:=isEmpty_ne hemp;go_wp2_with fail;have HPP:=hid (show Qb s=stepsP 64 [] s by unfold Qb;rw [if_neg H512.out,hu];simp [hemp]);have hbr:Below w3.heap.size w3 (w3.alloc (.cells #[.string ⟨s.toArray⟩,.int .i64 0,.int .i64 0,.int .i64 0] 147)):=bal _ _;have HRD0:=hid (show PRd (w3.alloc (.cells #[.string ⟨s.toArray⟩,.int .i64 0,.int .i64 0,.int .i64 0] 147)) w3.heap.size ⟨s.toArray⟩ 0 0 0 from heap_alloc_new w3 _);have ST0:=hid (show PaSt w s w3.heap.size (w3.alloc (.cells #[.string ⟨s.toArray⟩,.int .i64 0,.int .i64 0,.int .i64 0] 147)) (.slice none 0 0) [] from
     ⟨bk hbr F3.out,Qf.nil _ _ _ _,(fun z hz=>by cases hz),B3.out.then hbr,lt_of_block F3.out,List.Pairwise.nil⟩)
    have HU0:=hid hu;clear hbr z0 z1 zf0 zf1 zlt y0 y1 yf0 yf1 ylt hne hu hemp HUT;generalize w3.alloc (.cells #[.string ⟨s.toArray⟩,.int .i64 0,.int .i64 0,.int .i64 0] 147)=w4 at *;have SP:=hid (fun q W (h:PRd W w3.heap.size ⟨s.toArray⟩ q 0 0) (hq:q≤s.length) (hu:Zm (s.drop q)=true)=>pstep_one w3.heap.size ⟨s.toArray⟩ q W h (by rw [HSZ.out];exact hq) (by rw [HSZ.out];have:=H512.out;omega) hu);have NX:=hid (fun q W (h:PRd W w3.heap.size ⟨s.toArray⟩ q 0 0) (hq:q≤s.length)=>(show Calls Tryz.prog 86 #[.pointer (some ⟨w3.heap.size,0,none⟩),.int .u8 47] W _ from pnext_two 47 w3.heap.size ⟨s.toArray⟩ q W h (by rw [HSZ.out];exact hq) (by rw [HSZ.out];have:=H512.out;omega)));have FA:=hid (fun q e a W (h:PRd W w3.heap.size ⟨s.toArray⟩ q 0 0)=>pfail_any w3.heap.size ⟨s.toArray⟩ q 0 0 e a W h);generalize w3.heap.size=Rb at *
    go_loopg [6] 65 (fun g v6 W=>∃ (zs:List (Stp×(Option Addr×Nat))) (q:Nat),PaSt w s Rb W v6 zs∧PRd W Rb ⟨s.toArray⟩ q 0 0∧q≤s.length∧Zm (s.drop q)=true∧Qb s=stepsP (64 - zs.length) (zs.map (·.1)) (s.drop q)∧zs.length≤64∧65≤zs.length+g)
    case atStart=>exact⟨[],0,ST0.out,HRD0.out,Nat.zero_le _,HU0.out,by rw [HPP.out];rfl,Nat.zero_le _,Nat.le_refl _⟩
    case round =>
     obtain⟨zs,q,st,rd,hq,hu,hpp,h64,hg⟩:=hrel
     rename World=>w5
     have ST5:=hid st;have RD5:=hid rd;have HU5:=hid hu;have HP5:=hid hpp;have HG:=hid hg;have HQ:=hid hq;have HZ:=hid h64;clear st rd hu hpp hg hq ST0 HRD0 HU0 HPP h64
     obtain⟨av,cv,rfl,hcap⟩:=ST5.out.own.slice
     clear hcap
     obtain⟨c0,c1,c2,c3,f1,f2,f3,lt⟩:=RD5.out.cells
     by_cases hfull:zs.length=64
     ·have HNO:=hid (show Qb s=none by rw [HP5.out,hfull];rfl);have hz64:((zs.length:Int)==64)=true:=by rw [beq_iff_eq];omega
      clear hfull
      go_wp2_with (go_at_call 84;refine(FA.out q 3 q w5 RD5.out).mono ?_;rintro e w6 ⟨rfl,h6,o6⟩)
      have ST6:=hid (ST5.out.step RD5.out o6);have H6:=hid h6;clear h6 o6 c0 c1 c2 c3 f1 f2 f3 lt
      obtain⟨c0,c1,c2,c3,f1,f2,f3,lt⟩:=H6.out.cells
      obtain⟨z0,z1,zf0,zf1,zlt⟩:=Qq ST6.out.pb
      go_wp2_with fail
      first
       | go_region
       | fail "r10"
      all_goals
       go_wp2_with fail;refine parse_ret (Pb:=w.heap.size) (e:=3) (a:=q) ?_ rfl rfl rfl ?_
       ·exact Kv (.int .i64 3) (.int .i64 q) ST6.out.pb
       ·exact⟨Or.inr ⟨HNO.out,3,q,by decide,rfl⟩,(Xd _ _ ST6.out.bel (Nat.le_refl _)).drew⟩
     ·have hz64:((zs.length:Int)==64)=false:=by rw [beq_eq_false_iff_ne];omega
      have HL:=hid (show zs.length<64 by have:=HZ.out;omega);clear hfull;go_wp2_with fail
      refine(SP.out q w5 RD5.out HQ.out HU5.out).mono ?_
      rintro e w6 ⟨nx,ax,lx,cx,ok,rfl,o6,hst⟩;have ST6:=hid (ST5.out.step RD5.out o6);have HSP:=hid hst;have HW5:=hid ST5.out.bel.size;clear c0 c1 c2 c3 f1 f2 f3 lt o6 hst;have hb7:Below w6.heap.size w6 (w6.alloc (.cells #[.string ⟨nx.toArray⟩,.slice ax lx cx] 106)):=bal _ _;have FX:=hid (heap_alloc_new w6 (.cells #[.string ⟨nx.toArray⟩,.slice ax lx cx] 106));have ST7:=hid (ST6.out.below hb7);have HB7:=hid hb7;clear hb7
      cases ok with
      | false =>
       obtain⟨hno,q6,er,ea,hne,hrd⟩:stepP (s.drop q)=none∧∃ q e a,e≠0∧PRd w6 Rb ⟨s.toArray⟩ q e a:=by
        rcases HSP.out with ⟨h,_⟩ | ⟨_,h⟩
        ·cases h
        ·exact h
       have HNO:=hid (show Qb s=none by rw [HP5.out];exact stepsP_no hno);have HRD:=hid (hrd.below HB7.out);have HNE:=hid hne;clear hno hrd hne HSP;clear ST6 FX HB7
       obtain⟨c0,c1,c2,c3,f1,f2,f3,lt⟩:=HRD.out.cells
       obtain⟨z0,z1,zf0,zf1,zlt⟩:=Qq ST7.out.pb
       go_upto_region 12 with fail;generalize w6.alloc (.cells #[.string ⟨nx.toArray⟩,.slice ax lx cx] 106)=w7 at *;go_wp2_with fail
       first
        | go_region
        | fail "r13"
       all_goals
        go_wp2_with fail;refine parse_ret (Pb:=w.heap.size) (e:=er) (a:=ea) ?_ rfl rfl rfl ?_
        ·exact Kv (.int .i64 er) (.int .i64 ea) ST7.out.pb
        ·exact⟨Or.inr ⟨HNO.out,er,ea,HNE.out,rfl⟩,(Xd _ _ ST7.out.bel (Nat.le_refl _)).drew⟩
      | true =>
       obtain⟨xs,xa,xc,q6,hsp,rfl,rfl,rfl,rfl,hown,hrd,hq6,hqq,hu6⟩:∃ st a c q6,stepP (s.drop q)=some (st,s.drop q6)∧nx=st.1∧ax=a∧lx=st.2.length∧cx=c∧Qd w6 w5.heap.size (Qt (st,(a,c))) st.2∧PRd w6 Rb ⟨s.toArray⟩ q6 0 0∧q6≤(⟨s.toArray⟩:ByteArray).size∧q<q6∧Zm (s.drop q6)=true:=by
        rcases HSP.out with ⟨_,h⟩ | ⟨h,_⟩
        ·exact h
        ·cases h
       rw [HSZ.out] at hq6;have HOX:=hid (Qz (show w6.ownsRow (w.heap.size+1) 76 2 _ _ _ from ownP_monoS hown (by have:=lt_of_block ST5.out.pb;omega)) HB7.out);have HDX:=hid (show ∀ x∈zs,KDis x (xs,(ax,cx)) from fun x hx k hk e=>by have h1:=(World.ownsRow.lt (ST5.out.each x hx) k hk).2;have h2:=(World.ownsRow.lt hown k e).1;omega);have HRD:=hid (hrd.below HB7.out);have HQ6:=hid hq6;have HU6:=hid hu6;have HPX:=hid (show Qb s=if s.drop q6=[] then some (zs.map (·.1)++[xs]) else match Xp 47 (s.drop q6) with
        | none=>none
        | some r'=>stepsP (64 - (zs.length+1)) (zs.map (·.1)++[xs]) r' by
        rw [HP5.out,show 64 - zs.length=(64 - (zs.length+1))+1 by have:=HL.out;omega];simp only [stepsP,hsp]
        rfl)
       clear hsp hown hrd hq6 hqq hu6 HSP ST6;simp only [Qt] at *
       obtain⟨c0,c1,c2,c3,f1,f2,f3,lt⟩:=HRD.out.cells
       obtain⟨z0,z1,zf0,zf1,zlt⟩:=Qq ST7.out.pb
       obtain⟨x0,x1,xf0,xf1,xlt⟩:=Qq FX.out
       go_upto_region 12 with fail;generalize w6.alloc (.cells #[.string ⟨xs.1.toArray⟩,.slice ax xs.2.length cx] 106)=w7 at *;have HLA:=hid (show zs.length+1≤maxLen by have:=HL.out;unfold maxLen;omega);have HLB:=hid (show(zs.length+1) * 40≤140737488355328 by have:=HL.out;omega);have HSZ7:=hid (show w.heap.size+1≤w7.heap.size by have:=lt_of_block ST7.out.pb;omega)
       by_cases hend:q6=s.length
       ·have heq:((q6:Int)==(s.length:Int))=true:=by rw [beq_iff_eq];omega
        have HE:=hid (show Qb s=some (zs.map (·.1)++[xs]) by rw [HPX.out,if_pos (List.drop_eq_nil_of_le (by omega))]);clear hend HPX c0 c1 c2 c3 f1 f2 f3 lt z0 z1 zf0 zf1 zlt
        go_wp2_with (at_builtin;refine Xv (E:=Xf) rfl (.tmp 50) (.tmp 52) rfl Tryz.underlying99 infoSt rfl (by decide) (w.heap.size+1) _ zs (xs,(ax,cx)) rfl ST7.out.own rfl HLA.out HLB.out HSZ7.out #[.string ⟨xs.1.toArray⟩,.slice ax xs.2.length cx] rfl ?_;intro v8 w8 own8 gr8 mv8;obtain⟨a8,c8,rfl,hc8⟩:=own8.slice;rw [show(zs++[(xs,(ax,cx))]).length=zs.length+1 from by simp] at own8 hc8 ⊢;have ST8:=hid (ST7.out.push own8 gr8 HOX.out HDX.out);have RD8:=hid (ST7.out.rd HRD.out gr8);clear own8 gr8 mv8 hc8;obtain⟨c0,c1,c2,c3,f1,f2,f3,lt⟩:=RD8.out.cells;obtain⟨z0,z1,zf0,zf1,zlt⟩:=Qq ST8.out.pb)
        refine parse_ret (Pb:=w.heap.size) (e:=0) (a:=0) ?_ rfl rfl rfl ?_
        ·exact Kv (.int .i64 0) (.int .i64 0) ST8.out.pb
        ·exact⟨Or.inl ⟨_,_,HE.out,rfl,by have:=ST8.out.done (.int .i64 0) (.int .i64 0);rwa [List.map_append] at this⟩,Xd _ _ ST8.out.bel (Nat.le_refl _)⟩
       ·have heq:((q6:Int)==(s.length:Int))=false:=by rw [beq_eq_false_iff_ne];omega
        have HE:=hid (show Qb s=match Xp 47 (s.drop q6) with
         | none=>none
         | some r'=>stepsP (64 - (zs.length+1)) (zs.map (·.1)++[xs]) r' by
         rw [HPX.out,if_neg (fun e=>hend (by have:=congrArg List.length e;simp at this;have:=HQ6.out;omega))])
        clear hend HPX c0 c1 c2 c3 f1 f2 f3 lt z0 z1 zf0 zf1 zlt
        go_wp2_with (at_builtin;refine Xv (E:=Xf) rfl (.tmp 50) (.tmp 52) rfl Tryz.underlying99 infoSt rfl (by decide) (w.heap.size+1) _ zs (xs,(ax,cx)) rfl ST7.out.own rfl HLA.out HLB.out HSZ7.out #[.string ⟨xs.1.toArray⟩,.slice ax xs.2.length cx] rfl ?_;intro v8 w8 own8 gr8 mv8;obtain⟨a8,c8,rfl,hc8⟩:=own8.slice;rw [show(zs++[(xs,(ax,cx))]).length=zs.length+1 from by simp] at own8 hc8 ⊢;have ST8:=hid (ST7.out.push own8 gr8 HOX.out HDX.out);have RD8:=hid (ST7.out.rd HRD.out gr8);clear own8 gr8 mv8 hc8;obtain⟨c0,c1,c2,c3,f1,f2,f3,lt⟩:=RD8.out.cells;obtain⟨z0,z1,zf0,zf1,zlt⟩:=Qq ST8.out.pb)
        refine(NX.out q6 w8 RD8.out HQ6.out).mono ?_
        rintro e w9 ⟨o9,okx,rfl,hx⟩;have ST9:=hid (ST8.out.step RD8.out o9);clear o9 c0 c1 c2 c3 f1 f2 f3 lt z0 z1 zf0 zf1 zlt
        cases okx with
        | false =>
         obtain⟨htb,hrd⟩:Xp 47 (s.drop q6)=none∧PRd w9 Rb ⟨s.toArray⟩ q6 0 0:=by
          rcases hx with ⟨_,h1,h2⟩ | ⟨h,_⟩
          ·exact⟨h1,h2⟩
          ·cases h
         have HNO:=hid (show Qb s=none by rw [HE.out,htb]);have HRD9:=hid hrd;clear hx htb hrd
         obtain⟨c0,c1,c2,c3,f1,f2,f3,lt⟩:=HRD9.out.cells
         go_wp2_with (go_at_call 84;refine(FA.out q6 160 q6 w9 HRD9.out).mono ?_;rintro e w10 ⟨rfl,h10,o10⟩;have ST10:=hid (ST9.out.step HRD9.out o10);have H10:=hid h10;clear h10 o10 c0 c1 c2 c3 f1 f2 f3 lt;obtain⟨c0,c1,c2,c3,f1,f2,f3,lt⟩:=H10.out.cells;obtain⟨z0,z1,zf0,zf1,zlt⟩:=Qq ST10.out.pb)
         first
          | go_region
          | fail "r19"
         all_goals
          go_wp2_with fail;refine parse_ret (Pb:=w.heap.size) (e:=160) (a:=q6) ?_ rfl rfl rfl ?_
          ·exact Kv (.int .i64 160) (.int .i64 q6) ST10.out.pb
          ·exact⟨Or.inr ⟨HNO.out,160,q6,by decide,rfl⟩,(Xd _ _ ST10.out.bel (Nat.le_refl _)).drew⟩
        | true =>
         obtain⟨htb,hq7,hrd⟩:Xp 47 (s.drop q6)=some (s.drop (q6+1))∧q6<(⟨s.toArray⟩:ByteArray).size∧PRd w9 Rb ⟨s.toArray⟩ (q6+1) 0 0:=by
          rcases hx with ⟨h,_⟩ | ⟨_,h1,h2,h3⟩
          ·cases h
          ·exact⟨h1,h2,h3⟩
         rw [HSZ.out] at hq7;have HE2:=hid (show Qb s=stepsP (64 - (zs.length+1)) (zs.map (·.1)++[xs]) (s.drop (q6+1)) by rw [HE.out,htb]);have HU7:=hid (utfB_take (by decide) htb HU6.out);have HRD9:=hid hrd;clear hx htb hrd HE;go_wp2_with fail
         go_roundg (gk - 1)
         case measure=>have:=HG.out;have:=HL.out;omega
         case rel=>exact⟨zs++[(xs,(ax,cx))],q6+1,ST9.out,HRD9.out,by omega,HU7.out,by rw [HE2.out];simp,by have:=HL.out;simp;omega,by have:=HG.out;have:=HL.out;simp;omega⟩
  ·have HNO:=hid (show Qb s=none by unfold Qb;rw [if_neg H512.out,if_pos hu]);go_wp2_with fail
   first
    | go_region
    | fail "r5"
   all_goals
    go_wp2_with fail;refine parse_ret (Pb:=w.heap.size) (e:=6) (a:=at') ?_ rfl rfl rfl ?_
    ·exact Kv (.int .i64 6) (.int .i64 at') F3.out
    ·exact⟨Or.inr ⟨HNO.out,6,at',by decide,rfl⟩,(Xd _ _ B3.out (Nat.le_refl _)).drew⟩
theorem pcheck_any (s:Str)(w:World)(hs:s.length≤maxLen):Calls Tryz.prog 68 #[.string ⟨s.toArray⟩] w fun x w'=>(∃ (er:Nat)(a:Int),x=.returned (.agg #[.int .i64 er,.int .i64 a])∧(er=0↔Qm s=true))∧Below w.heap.size w w':=by
 have F0:=hid (heap_alloc_new w (.cells #[.int .i64 0,.int .i64 0] 77));have hb0:Below w.heap.size w (w.alloc (.cells #[.int .i64 0,.int .i64 0] 77)):=bal _ _;have B0:=hid hb0;have PP:=hid (fun W=>(show Calls Tryz.prog 46 #[.string ⟨s.toArray⟩] W fun x w'=>∃ (v:Value) (er:Nat) (a:Int),x=.returned (.tuple #[v,.agg #[.int .i64 er,.int .i64 a]])∧(er=0↔Qm s=true)∧Below W.heap.size W w' from
  (pparse_any s W hs).mono (by
   rintro x w' ⟨h,hb⟩
   rcases h with ⟨l,v,h1,h2,_⟩ | ⟨h1,er,a,h2,h3⟩
   ·exact⟨v,0,0,h2,by unfold Qm;rw [h1];simp,hb⟩
   ·exact⟨_,er,a,h3,by unfold Qm;rw [h1];simp [h2],hb⟩)))
 clear hb0
 go_enter Tryz.func68,Tryz.ntmps68
 go_upto_region 1 with fail;generalize w.alloc (.cells #[.int .i64 0,.int .i64 0] 77)=w1 at *;go_wp2_with fail
 refine(PP.out w1).mono ?_
 rintro e w2 ⟨v,er,a,rfl,hi,hb2⟩;have F2:=hid (bk hb2 F0.out);have B2:=hid (B0.out.then hb2);have HI:=hid hi;have hb3:Below w2.heap.size w2 (w2.alloc (.cells #[.int .i64 er,.int .i64 a] 77)):=bal _ _;have F3:=hid (bk hb3 F2.out);have B3:=hid (B2.out.then hb3);have G3:=hid (heap_alloc_new w2 (.cells #[.int .i64 er,.int .i64 a] 77));clear hb2 hb3 hi F2 B2;go_upto_region 2 with fail;generalize w2.alloc (.cells #[.int .i64 er,.int .i64 a] 77)=w3 at *
 obtain⟨z0,z1,zf0,zf1,zlt⟩:=Qq F3.out
 obtain⟨y0,y1,yf0,yf1,ylt⟩:=Qq G3.out
 go_wp2_with fail;have hr:=Kv (.int .i64 er) (.int .i64 a) F3.out;have hbw:=Xd (.int .i64 er) (.int .i64 a) B3.out (Nat.le_refl w.heap.size);change bodyPost _ _ _ _ _ (P2 w3 w.heap.size (.int .i64 er) (.int .i64 a));generalize P2 w3 w.heap.size (.int .i64 er) (.int .i64 a)=V at *
 obtain⟨e0,e1,_,_,_⟩:=Qq hr
 exact bodyPost_ret (v:=.agg #[.int .i64 er,.int .i64 a]) (by simp [results,Tryz.results68,go_sem,e0,e1]) rfl ⟨⟨er,a,rfl,HI.out⟩,hbw⟩
end
section
open Go.RowKit Go.Lib Go.Sort Go.Maps Go.WideMaps
theorem Zh.len {α:Type}{E:El α}{w:World}{b n:Nat}{L:List (Str×α)}(h:Zh E w b n L){mt e:TypeId}(hu:Tryz.prog.underlying mt=some (.map 9 e))(hn:(L.map (·.1)).Nodup)(ty:TypeId) :
  (Builtin.len_ #[mt] ty #[.map (some b)]).run Tryz.prog w=.ok (.int .i64 L.length) w:=by
 obtain⟨m,hown,hat⟩:=h
 have hp:=(Zh.keys hown hat hn).length_eq
 obtain⟨es,rfl,_⟩:=hown.keysOf
 rw [hown.len hu ty]
 have:Maps.size (DataW.map es)=L.length:=by
  rw [List.length_map] at hp;rw [hp]
  simp [Maps.size,strKeys]
 rw [this]
structure KeptC (B:Nat)(w w':World):Prop where
 bel:Below B w w'
 cells:∀ (k:Nat) (cs:Array Value) (ty:TypeId) (z:Nat×Nat),w.heap[k]?=some (Obj.cells cs ty z)→w'.heap[k]?=some (Obj.cells cs ty z)
section
variable {B : Nat} {w w1 w2 : World}
theorem KeptC.of (hb:Below w.heap.size w w1)(hB:B≤w.heap.size):KeptC B w w1:=⟨hb.mono hB,fun k cs ty z h=>(hb.block k (lt_of_block h)).trans h⟩
theorem KeptC.then (h:KeptC B w w1)(hb:Below w1.heap.size w1 w2)(hB:B≤w1.heap.size):KeptC B w w2 :=
 ⟨h.bel.trans (hb.mono hB),fun k cs ty z hk=>(hb.block k (lt_of_block (h.cells k cs ty z hk))).trans (h.cells k cs ty z hk)⟩
theorem KeptC.drew (h:KeptC B w w1):KeptC B w w1.drew:=⟨h.bel.drew,h.cells⟩
theorem KeptC.drewN (h:KeptC B w w1)(n:Nat):KeptC B w (w1.drewN n):=⟨below_drewN h.bel n,h.cells⟩
theorem KeptC.grown (h:KeptC B w w1){α:Type}{E:El α}{b n:Nat}{L:List (Str×α)}(o:Zh E w1 b n L)(gr:w1.grownBy w2 (some b))(hB:B≤w1.heap.size)(hb:B≤b):KeptC B w w2:=by
 refine⟨h.bel.grown gr hB (fun k hk=>by cases hk;exact hb),fun k cs ty z hk=>?_⟩
 have h1:=h.cells k cs ty z hk
 obtain⟨es,ck,hm⟩:=o.isMap
 rw [gr.block k (lt_of_block h1) (by rintro e;cases e;rw [hm] at h1;cases h1)];exact h1
end
structure TbIn (B0:Nat)(W:World)(Bt bv ba bn bp N:Nat)(V:List (Str×Nat))(t:Tb):Prop where
 at_:TbAt W Bt bv ba bn bp N V t
 lo:B0≤Bt∧B0≤bv∧B0≤ba∧B0≤bn∧B0≤bp
 each:∀ p∈V,B0≤p.2
section
variable {B0 : Nat} {W W' : World} {Bt bv ba bn bp N : Nat} {V : List (Str × Nat)} {t : Tb}
theorem TbIn.below (h:TbIn B0 W Bt bv ba bn bp N V t)(hb:Below W.heap.size W W'):TbIn B0 W' Bt bv ba bn bp N V t:=⟨h.at_.below hb,h.lo,h.each⟩
theorem TbIn.mono {N':Nat}(h:TbIn B0 W Bt bv ba bn bp N V t)(hn:N≤N'):TbIn B0 W Bt bv ba bn bp N' V t:=⟨h.at_.mono hn,h.lo,h.each⟩
theorem TbIn.box (h:TbIn B0 W Bt bv ba bn bp N V t):W.cell? ⟨Bt,0,none⟩=some (.map (some bv))∧W.cell? ⟨Bt,1,none⟩=some (.map (some ba))∧W.cell? ⟨Bt,2,none⟩=some (.map (some bn))∧W.cell? ⟨Bt,3,none⟩=some (.map (some bp))∧Bt<W.heap.size:=by
 have hb:=h.at_.box
 exact⟨by rw [cell_of_row _ _ _ _ _ _ hb];rfl,by rw [cell_of_row _ _ _ _ _ _ hb];rfl,by rw [cell_of_row _ _ _ _ _ _ hb];rfl,by rw [cell_of_row _ _ _ _ _ _ hb];rfl,lt_of_block hb⟩
theorem TbAt.putAl (h:TbAt W Bt bv ba bn bp N V t)(l:List Rw)(hl:∀ r∈l,r.loc=Qv)(o:Zh elSd W' ba (N+1) (sdL l))(gr:W.grownBy W' (some ba)):TbAt W' Bt bv ba bn bp (N+1) V { t with als:=l }:=by
 obtain⟨h1,h2,h3,h5,h6,h8,hV⟩:=h.lo
 have hN:N≤N+1:=Nat.le_succ N
 exact⟨Kd h.box h.als gr,(h.vals.kept gr h1).mono hN,o,(h.names.kept gr (Ne.symm h5)).mono hN,(h.paths.kept gr (Ne.symm h6)).mono hN,
  fun p hp=>((h.each p hp).kept gr (hV p hp).2.1).mono hN,h.keys,h.has,hl,h.apart⟩
end
def putAl (t:Tb)(f:Nat)(x:Itm):List Rw:=match Qy t.als Qv x.path with | none=>t.als++[⟨Qv,x.path,x.value,f,x.at'⟩] | some _=>t.als
section
variable {t : Tb} {loc : Str} {f : Nat} {x : Itm}
theorem putAl_root (h:∀ r∈t.als,r.loc=Qv):∀ r∈putAl t f x,r.loc=Qv:=by
 intro r hr;unfold putAl at hr
 cases hf:Qy t.als Qv x.path with
 | none =>
  rw [hf] at hr
  rcases List.mem_append.1 hr with hr | hr
  ·exact h r hr
  ·rw [List.mem_singleton.1 hr]
 | some y=>rw [hf] at hr;exact h r hr
theorem putAl_sd (h:∀ r∈t.als,r.loc=Qv):putL (sdL t.als) x.path (x.value,(f:Int),x.at')=sdL (putAl t f x):=by
 unfold putL putAl;rw [look_als h]
 cases hf:Qy t.als Qv x.path with
 | none=>simp [sdL,sdOf]
 | some y=>rfl
theorem item_path (h:x.path=[]∨Qm x.path=false):itemF t loc f x=(2,t):=by unfold itemF;rw [if_pos h]
theorem item_place (h:¬ (x.path=[]∨Qm x.path=false))(ha:x.alias'=true)(hl:loc≠Qv):itemF t loc f x=(221,t):=by unfold itemF;rw [if_neg h,if_pos ⟨ha,hl⟩]
theorem item_alias (hr:∀ r∈t.als,r.loc=Qv)(h:¬ (x.path=[]∨Qm x.path=false))(ha:x.alias'=true)(hl:loc=Qv):itemF t loc f x=if putR (sdL t.als) x.path x.value=true then(0,{ t with als:=putAl t f x }) else(220,t):=by
 unfold itemF;rw [if_neg h,if_neg (fun e=>e.2 hl),if_pos ha];subst hl;have hR:putR (sdL t.als) x.path x.value=match Qy t.als Qv x.path with | none=>true | some y=>y.text==x.value:=by
  unfold putR;rw [look_als hr]
  cases Qy t.als Qv x.path <;> rfl
 rw [hR];unfold putAl
 cases hf:Qy t.als Qv x.path with
 | none=>rfl
 | some y =>
  show(if y.text=x.value then((0:Nat),t) else(220,t))=if(y.text==x.value)=true then(0,t) else(220,t)
  by_cases e:y.text=x.value
  ·rw [if_pos e,if_pos (by rw [e];exact beq_self_eq_true _)]
  ·rw [if_neg e,if_neg (by rw [beq_iff_eq];exact e)]
theorem item_old (h:¬ (x.path=[]∨Qm x.path=false))(ha:x.alias'=false){r:Rw}(hf:Qy t.rows loc x.path=some r):itemF t loc f x=if r.text=x.value then(0,t) else(220,t):=by
 unfold itemF;rw [if_neg h,if_neg (by simp [ha]),if_neg (by simp [ha]),hf]
theorem item_new (h : ¬ (x.path = [] ∨ Qm x.path = false)) (ha : x.alias' = false) (hf : Qy t.rows loc x.path = none) : itemF t loc f x = if x.path ∈ t.paths then (0, { t with rows := t.rows ++ [⟨loc, x.path, x.value, f, x.at'⟩] })
      else if t.paths.length = 16384 then (3, t)
      else (0, { t with rows := t.rows ++ [⟨loc, x.path, x.value, f, x.at'⟩], paths := t.paths ++ [x.path] }) := by
  unfold itemF
  rw [if_neg h, if_neg (by simp [ha]), if_neg (by simp [ha]), hf]
end
theorem Zf {W:World}{B:Nat}{a b c d e:Value}{ty:TypeId}(h:W.heap[B]?=some (.cells #[a,b,c,d,e] ty (0,0))) :
  W.cell? ⟨B,0,none⟩=some a∧W.cell? ⟨B,1,none⟩=some b∧W.cell? ⟨B,2,none⟩=some c∧W.cell? ⟨B,3,none⟩=some d∧W.cell? ⟨B,4,none⟩=some e∧B<W.heap.size :=
 ⟨by rw [cell_of_row _ _ _ _ _ _ h];rfl,by rw [cell_of_row _ _ _ _ _ _ h];rfl,by rw [cell_of_row _ _ _ _ _ _ h];rfl,by rw [cell_of_row _ _ _ _ _ _ h];rfl,by rw [cell_of_row _ _ _ _ _ _ h];rfl,lt_of_block h⟩
theorem cell_grown {W W':World}{b c i:Nat}{v:Value}(gr:W.grownBy W' (some c))(hlt:b<W.heap.size)(hne:b≠c)(h:W.cell? ⟨b,i,none⟩=some v):W'.cell? ⟨b,i,none⟩=some v:=by
 rw [World.cell?_of_block (gr.block b hlt (by simpa using hne))];exact h
theorem keep_said {B0 Bt bv ba bn bp N bi bs:Nat}{W W':World}{V:List (Str×Nat)}{t:Tb}{p s0 s1 s2:Value}{c1 c2 c3 c4:Value}{ty ty2:TypeId}(h:TbIn B0 W Bt bv ba bn bp N V t)(hi:W.heap[bi]?=some (.cells #[p,c1,c2,c3,c4] ty (0,0)))(hs:W.heap[bs]?=some (.cells #[s0,s1,s2] ty2 (0,0)))(g:W.drew.grownBy W' (some ba)) :
  W'.cell? ⟨Bt,1,none⟩=some (.map (some ba))∧W'.cell? ⟨bi,0,none⟩=some p∧W'.cell? ⟨bs,0,none⟩=some s0∧W'.cell? ⟨bs,1,none⟩=some s1∧W'.cell? ⟨bs,2,none⟩=some s2:=by
 obtain⟨es,ck,hm⟩:=h.at_.als.isMap
 have n1:Bt≠ba:=by rintro rfl;have:=h.at_.box;rw [hm] at this;cases this
 have n2:bi≠ba:=by rintro rfl;rw [hm] at hi;cases hi
 have n3:bs≠ba:=by rintro rfl;rw [hm] at hs;cases hs
 obtain⟨_,t1,_,_,tl⟩:=h.box
 obtain⟨i0,_,_,_,_,il⟩:=Zf hi
 obtain⟨x0,x1,x2,xl⟩:=Qj hs
 exact⟨cell_grown g tl n1 t1,cell_grown g il n2 i0,cell_grown g xl n3 x0,cell_grown g xl n3 x1,cell_grown g xl n3 x2⟩
theorem item_leaf {B0:Nat}{w W':World}{Bt bv ba bn bp N e1:Nat}{t t1:Tb}{loc:Str}{f:Nat}{x:Itm}(h:itemF t loc f x=(e1,t1))(hb:KeptC B0 w W')(ht:e1=0→∃ V',TbIn B0 W' Bt bv ba bn bp (N+4) V' t1) :
  Ending.returned (.int .i64 (e1:Int))=Ending.returned (.int .i64 (itemF t loc f x).1)∧KeptC B0 w W'∧((itemF t loc f x).1=0→∃ V',TbIn B0 W' Bt bv ba bn bp (N+4) V' (itemF t loc f x).2):=by
 rw [h];exact⟨rfl,hb,ht⟩
theorem setL_keys (L:List Str):(Jb L).map (·.1)=L:=by unfold Jb;rw [List.map_map];exact List.map_id' L
theorem spot_err (x y:Int)(w:World):(Instr.field 77 (.agg #[.int .i64 x,.int .i64 y]) 0).run Tryz.prog w=.ok (.int .i64 x) w:=by kernel_rfl
theorem not_both {a b:Prop}(ha:¬ a)(hb:¬ b):¬ (a∨b):=fun h=>h.elim ha hb
end
end Go.Proofs.YtbbmdbolkicpcaaGreatDoor
