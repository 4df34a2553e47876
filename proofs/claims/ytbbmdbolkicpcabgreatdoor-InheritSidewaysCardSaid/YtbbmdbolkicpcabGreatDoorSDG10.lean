/- ChPlain, TbNewA, TbNew, TbKeys, TbGet, TbList -/
import Derived.Test.YtbbmdbolkicpcabGreatDoorSDG09
import Derived.Test.YtbbmdbolkicpcabGreatDoorSDG07
import Derived.Test.YtbbmdbolkicpcabGreatDoorSDShelfM
set_option maxRecDepth 100000
set_option maxHeartbeats 32000000
set_option linter.unusedVariables false
set_option linter.unusedSimpArgs false
namespace Go.Proofs.YtbbmdbolkicpcabGreatDoor
section
open Go.RowKit Go.Lib Go.Sort
theorem rdS_take {w:World}{ao:Option Addr}{cp:Nat}{l:List Str}(h:RdS w (.slice ao l.length cp) l)(k:Nat)(hk:k≤l.length):RdS w (.slice ao k cp) (l.take k):=by
 obtain⟨ao',cp',hv,hl,hr⟩:=h
 cases hv;have hlen:(l.take k).length=k:=by rw[List.length_take];omega
 refine⟨ao,cp,by rw[hlen],⟨by rw[hlen];omega,fun e=>⟨by rw[(hl.2 e).1];simp,(hl.2 e).2⟩⟩,fun hne=>?_⟩
 have hne2:l≠[]:=fun e=>hne (by rw[e];simp)
 obtain⟨b,off,h1,h2,h3⟩:=hr hne2
 refine⟨b,off,h1,h2,fun j x hx=>h3 j x ?_⟩
 rw[List.getElem?_take]at hx
 split at hx
 ·exact hx
 ·cases hx
theorem plainT_V {t:Tg}(h:t.vars≠[]):Jb t={ t with vars:=t.vars.take (t.vars.length-1) }:=by unfold Jb;rw[if_pos h]
theorem plainT_R {t:Tg}(h:t.vars=[])(h2:t.region≠[]):Jb t={ t with region:=[] }:=by unfold Jb;rw[if_neg (by simp[h]),if_pos h2]
theorem plainT_S {t:Tg}(h:t.vars=[])(h2:t.region=[])(h3:t.script≠[]):Jb t={ t with script:=[] }:=by unfold Jb;rw[if_neg (by simp[h]),if_neg (by simp[h2]),if_pos h3]
theorem plainT_L {t:Tg}(h:t.vars=[])(h2:t.region=[])(h3:t.script=[]):Jb t={ t with lang:=[] }:=by unfold Jb;rw[if_neg (by simp[h]),if_neg (by simp[h2]),if_neg (by simp[h3])]
theorem Zvg (l:Str)(w:World)(hs:l.length≤maxLen) :
  Calls Tryz.prog 47 #[.string ⟨l.toArray⟩] w fun e w'=>e=.returned (.tuple #[.string ⟨(Vj l).1.toArray⟩,.bool (Vj l).2])∧Below w.heap.size w w':=by
 have NM:=hid (fun W=>Xhj l W hs);simp only[Uh]at NM
 by_cases hn:Qj l=true
 ·obtain⟨_,hg,hk,_⟩:=Dd hn
  have hnt:Fl l=Gf l:=by unfold Fl Gf;rw[if_pos hn]
  rw[hnt,hn]at NM
  by_cases hr:l=Qs
  ·have hpl:Vj l=([],false):=Dm (fun h=>h.2 hr);rw[hpl];have hub:(l==[114,111,111,116])=true:=by rw[hr];rfl
   have hub2:(l != [114,111,111,116])=false:=by rw[hr];rfl
   clear hnt hg hk hn hpl hr;generalize Gf l=t at *
   go_enter Tryz.func47,Tryz.ntmps47
   go_wp2_with fail
   refine(NM.out _).mono ?_
   rintro e w1 ⟨v,rfl,⟨vv,kv,rfl,⟨av,cv,rfl,_,_⟩,⟨ak,ck,rfl,_,_⟩⟩,_,hb1⟩;simp only[Qv,S];go_wp2_with fail;exact bodyPost_ret (v:=.tuple #[.string ⟨#[]⟩,.bool false]) (by simp[results,Tryz.results47,go_sem]) rfl ⟨rfl,hb1.then (bal _ _)⟩
  ·have hpl:Vj l=(Hh (Kj (Fy (Jb (Gf l)))),true):=by
    unfold Vj;rw[if_pos ⟨hn,hr⟩,Nd _ (Sf hg hk).1];rfl
   rw[hpl];have hub:(l==[114,111,111,116])=false:=by rw[beq_eq_false_iff_ne];exact hr
   have hub2:(l != [114,111,111,116])=true:=by rw[bne_iff_ne];exact hr
   clear hnt hn hpl;generalize Gf l=t at *;have hgp:=(Sf hg hk).1;have N1:Hid (∀W v,RdT W v (Jb t)→Calls Tryz.prog 96 #[v] W fun e w'=>e=.returned (.tuple #[.string ⟨(Hh (Kj (Fy (Jb t)))).toArray⟩,.int .i64 0])∧Below W.heap.size W w'):=fun W v h=>by
    refine(Qnz W v (Jb t) h (by have:=hgp.vars;omega) (by have:=hgp.keys;omega) (by have:=hgp.write;omega) (by have:=hgp.bare.write;unfold Fy at this;omega)).mono ?_
    rintro e w' ⟨rfl,hb⟩
    exact⟨by rw[Nd _ hgp];rfl,hb⟩
   generalize Hh (Kj (Fy (Jb t)))=nm at *;have HK:=hid hk;clear hg hgp hr hk;have hvl:Hid (t.vars=[]∨t.vars≠[]):=(Classical.em _)
   by_cases hv:t.vars=[]
   ·by_cases h2:t.region=[]
    ·by_cases h3:t.script=[]
     ·have hv0:¬(0:Int)<(t.vars.length:Int):=by rw[hv];simp
      have p1:(t.region==[])=true:=by rw[h2];rfl
      have p1':(t.region != [])=false:=by rw[h2];rfl
      have p2:(t.script==[])=true:=by rw[h3];rfl
      have p2':(t.script != [])=false:=by rw[h3];rfl
      have HPT0:=hid (plainT_L hv h2 h3);clear hv hvl h2 h3;have HPT:=HPT0;clear HPT0
      go_enter Tryz.func47,Tryz.ntmps47
      go_wp2_with fail
      refine(NM.out _).mono ?_
      rintro e w1 ⟨v,rfl,⟨vv,kv,rfl,hS,hP⟩,hcap,hb1⟩;have HS:=hid hS;have HP:=hid hP
      obtain⟨av,cv,rfl,hav,_⟩:=hS
      obtain⟨ak,ck,rfl,_,_⟩:=hP
      simp only[Qv,S]at hcap ⊢;have hcp:t.vars.length≤cv:=hcap _ _ _ _ _ _ _ rfl;have hcpi:(t.vars.length:Int)-1≤(cv:Int):=by omega
      clear hcap hcp;have hx1:=heap_alloc_new w1 (.cells #[.string ⟨t.lang.toArray⟩,.string ⟨t.script.toArray⟩,.string ⟨t.region.toArray⟩,.slice av t.vars.length cv,.slice ak t.keys.length ck] 160);have hb2:Below w1.heap.size w1 (w1.alloc (.cells #[.string ⟨t.lang.toArray⟩,.string ⟨t.script.toArray⟩,.string ⟨t.region.toArray⟩,.slice av t.vars.length cv,.slice ak t.keys.length ck] 160)):=bal _ _
      obtain⟨c0,c1,c2,c3,c4⟩:=Zp hx1
      have fz0:=frozen_of_row _ w1.heap.size 0 _ _ hx1;have fz1:=frozen_of_row _ w1.heap.size 1 _ _ hx1;have fz2:=frozen_of_row _ w1.heap.size 2 _ _ hx1;have fz3:=frozen_of_row _ w1.heap.size 3 _ _ hx1;have hsz:=lt_of_block hx1;have HB1:=hid hb1;clear hb1 hb2 hx1;go_wp2_with fail
      refine(N1.out _ _ ?_).mono ?_
      ·have hal:∀o,Below w1.heap.size w1 (w1.alloc o):=fun o=>bal _ _
       rw[HPT.out]
       exact⟨_,_,rfl,(HS.out).below (hal _),HP.out.below (hal _)⟩
      rintro e w3 ⟨rfl,hb3⟩;have hw3:=HB1.out.then (Below.then (bal _ _) hb3);clear c0 c1 c2 c3 c4 fz0 fz1 fz2 fz3 hsz hb3;go_wp2_with fail;exact bodyPost_ret (v:=.tuple #[.string ⟨nm.toArray⟩,.bool true]) (by simp[results,Tryz.results47,go_sem]) rfl ⟨rfl,hw3⟩
     ·have hv0:¬(0:Int)<(t.vars.length:Int):=by rw[hv];simp
      have p1:(t.region==[])=true:=by rw[h2];rfl
      have p1':(t.region != [])=false:=by rw[h2];rfl
      have p2:(t.script==[])=false:=by rw[beq_eq_false_iff_ne];exact h3
      have p2':(t.script != [])=true:=by rw[bne_iff_ne];exact h3
      have HPT0:=hid (plainT_S hv h2 h3);clear hv hvl h2 h3;have HPT:=HPT0;clear HPT0
      go_enter Tryz.func47,Tryz.ntmps47
      go_wp2_with fail
      refine(NM.out _).mono ?_
      rintro e w1 ⟨v,rfl,⟨vv,kv,rfl,hS,hP⟩,hcap,hb1⟩;have HS:=hid hS;have HP:=hid hP
      obtain⟨av,cv,rfl,hav,_⟩:=hS
      obtain⟨ak,ck,rfl,_,_⟩:=hP
      simp only[Qv,S]at hcap ⊢;have hcp:t.vars.length≤cv:=hcap _ _ _ _ _ _ _ rfl;have hcpi:(t.vars.length:Int)-1≤(cv:Int):=by omega
      clear hcap hcp;have hx1:=heap_alloc_new w1 (.cells #[.string ⟨t.lang.toArray⟩,.string ⟨t.script.toArray⟩,.string ⟨t.region.toArray⟩,.slice av t.vars.length cv,.slice ak t.keys.length ck] 160);have hb2:Below w1.heap.size w1 (w1.alloc (.cells #[.string ⟨t.lang.toArray⟩,.string ⟨t.script.toArray⟩,.string ⟨t.region.toArray⟩,.slice av t.vars.length cv,.slice ak t.keys.length ck] 160)):=bal _ _
      obtain⟨c0,c1,c2,c3,c4⟩:=Zp hx1
      have fz0:=frozen_of_row _ w1.heap.size 0 _ _ hx1;have fz1:=frozen_of_row _ w1.heap.size 1 _ _ hx1;have fz2:=frozen_of_row _ w1.heap.size 2 _ _ hx1;have fz3:=frozen_of_row _ w1.heap.size 3 _ _ hx1;have hsz:=lt_of_block hx1;have HB1:=hid hb1;clear hb1 hb2 hx1;go_wp2_with fail
      refine(N1.out _ _ ?_).mono ?_
      ·have hal:∀o,Below w1.heap.size w1 (w1.alloc o):=fun o=>bal _ _
       rw[HPT.out]
       exact⟨_,_,rfl,(HS.out).below (hal _),HP.out.below (hal _)⟩
      rintro e w3 ⟨rfl,hb3⟩;have hw3:=HB1.out.then (Below.then (bal _ _) hb3);clear c0 c1 c2 c3 c4 fz0 fz1 fz2 fz3 hsz hb3;go_wp2_with fail;exact bodyPost_ret (v:=.tuple #[.string ⟨nm.toArray⟩,.bool true]) (by simp[results,Tryz.results47,go_sem]) rfl ⟨rfl,hw3⟩
    ·have hv0:¬(0:Int)<(t.vars.length:Int):=by rw[hv];simp
     have p1:(t.region==[])=false:=by rw[beq_eq_false_iff_ne];exact h2
     have p1':(t.region != [])=true:=by rw[bne_iff_ne];exact h2
     have HPT0:=hid (plainT_R hv h2);clear hv hvl h2;have HPT:=HPT0;clear HPT0
     go_enter Tryz.func47,Tryz.ntmps47
     go_wp2_with fail
     refine(NM.out _).mono ?_
     rintro e w1 ⟨v,rfl,⟨vv,kv,rfl,hS,hP⟩,hcap,hb1⟩;have HS:=hid hS;have HP:=hid hP
     obtain⟨av,cv,rfl,hav,_⟩:=hS
     obtain⟨ak,ck,rfl,_,_⟩:=hP
     simp only[Qv,S]at hcap ⊢;have hcp:t.vars.length≤cv:=hcap _ _ _ _ _ _ _ rfl;have hcpi:(t.vars.length:Int)-1≤(cv:Int):=by omega
     clear hcap hcp;have hx1:=heap_alloc_new w1 (.cells #[.string ⟨t.lang.toArray⟩,.string ⟨t.script.toArray⟩,.string ⟨t.region.toArray⟩,.slice av t.vars.length cv,.slice ak t.keys.length ck] 160);have hb2:Below w1.heap.size w1 (w1.alloc (.cells #[.string ⟨t.lang.toArray⟩,.string ⟨t.script.toArray⟩,.string ⟨t.region.toArray⟩,.slice av t.vars.length cv,.slice ak t.keys.length ck] 160)):=bal _ _
     obtain⟨c0,c1,c2,c3,c4⟩:=Zp hx1
     have fz0:=frozen_of_row _ w1.heap.size 0 _ _ hx1;have fz1:=frozen_of_row _ w1.heap.size 1 _ _ hx1;have fz2:=frozen_of_row _ w1.heap.size 2 _ _ hx1;have fz3:=frozen_of_row _ w1.heap.size 3 _ _ hx1;have hsz:=lt_of_block hx1;have HB1:=hid hb1;clear hb1 hb2 hx1;go_wp2_with fail
     refine(N1.out _ _ ?_).mono ?_
     ·have hal:∀o,Below w1.heap.size w1 (w1.alloc o):=fun o=>bal _ _
      rw[HPT.out]
      exact⟨_,_,rfl,(HS.out).below (hal _),HP.out.below (hal _)⟩
     rintro e w3 ⟨rfl,hb3⟩;have hw3:=HB1.out.then (Below.then (bal _ _) hb3);clear c0 c1 c2 c3 c4 fz0 fz1 fz2 fz3 hsz hb3;go_wp2_with fail;exact bodyPost_ret (v:=.tuple #[.string ⟨nm.toArray⟩,.bool true]) (by simp[results,Tryz.results47,go_sem]) rfl ⟨rfl,hw3⟩
   ·have hv0:(0:Int)<(t.vars.length:Int):=by have:=List.length_pos_iff.2 hv;omega
    have HPT0:=hid (plainT_V hv);clear hv hvl;have HPT:=HPT0;clear HPT0
    go_enter Tryz.func47,Tryz.ntmps47
    go_wp2_with fail
    refine(NM.out _).mono ?_
    rintro e w1 ⟨v,rfl,⟨vv,kv,rfl,hS,hP⟩,hcap,hb1⟩;have HS:=hid hS;have HP:=hid hP
    obtain⟨av,cv,rfl,hav,_⟩:=hS
    obtain⟨ak,ck,rfl,_,_⟩:=hP
    simp only[Qv,S]at hcap ⊢;have hcp:t.vars.length≤cv:=hcap _ _ _ _ _ _ _ rfl;have hcpi:(t.vars.length:Int)-1≤(cv:Int):=by omega
    have hcp0:(0:Int)≤(t.vars.length:Int)-1:=by omega
    have hcpn:((t.vars.length:Int)-1).toNat=t.vars.length-1:=by omega
    clear hcap hcp;have hx1:=heap_alloc_new w1 (.cells #[.string ⟨t.lang.toArray⟩,.string ⟨t.script.toArray⟩,.string ⟨t.region.toArray⟩,.slice av t.vars.length cv,.slice ak t.keys.length ck] 160);have hb2:Below w1.heap.size w1 (w1.alloc (.cells #[.string ⟨t.lang.toArray⟩,.string ⟨t.script.toArray⟩,.string ⟨t.region.toArray⟩,.slice av t.vars.length cv,.slice ak t.keys.length ck] 160)):=bal _ _
    obtain⟨c0,c1,c2,c3,c4⟩:=Zp hx1
    have fz0:=frozen_of_row _ w1.heap.size 0 _ _ hx1;have fz1:=frozen_of_row _ w1.heap.size 1 _ _ hx1;have fz2:=frozen_of_row _ w1.heap.size 2 _ _ hx1;have fz3:=frozen_of_row _ w1.heap.size 3 _ _ hx1;have hsz:=lt_of_block hx1;have HB1:=hid hb1;clear hb1 hb2 hx1;go_wp2_with fail
    refine(N1.out _ _ ?_).mono ?_
    ·have hal:∀o,Below w1.heap.size w1 (w1.alloc o):=fun o=>bal _ _
     rw[HPT.out]
     exact⟨_,_,rfl,(rdS_take HS.out (t.vars.length-1) (by omega)).below (hal _),HP.out.below (hal _)⟩
    rintro e w3 ⟨rfl,hb3⟩;have hw3:=HB1.out.then (Below.then (bal _ _) hb3);clear c0 c1 c2 c3 c4 fz0 fz1 fz2 fz3 hsz hb3;go_wp2_with fail;exact bodyPost_ret (v:=.tuple #[.string ⟨nm.toArray⟩,.bool true]) (by simp[results,Tryz.results47,go_sem]) rfl ⟨rfl,hw3⟩
 ·have hpl:Vj l=([],false):=Dm (fun h=>hn h.1);rw[hpl];have hn2:Qj l=false:=by simpa using hn
  have hnt:Fl l=Tg.zero:=by unfold Fl;rw[if_neg hn]
  rw[hnt,hn2]at NM;clear hnt hn hpl hn2
  go_enter Tryz.func47,Tryz.ntmps47
  go_wp2_with fail
  refine(NM.out _).mono ?_
  rintro e w1 ⟨v,rfl,⟨vv,kv,rfl,⟨av,cv,rfl,_,_⟩,⟨ak,ck,rfl,_,_⟩⟩,_,hb1⟩;simp only[Qv,S];go_wp2_with fail;exact bodyPost_ret (v:=.tuple #[.string ⟨#[]⟩,.bool false]) (by simp[results,Tryz.results47,go_sem]) rfl ⟨rfl,hb1.then (bal _ _)⟩
end
section
open Go.RowKit Go.Lib Go.Sort Go.Maps Go.WideMaps
def encI:Enc Itm 5 where
 enc:=fun x=>[.string ⟨x.path.toArray⟩,.string ⟨x.value.toArray⟩,.bool x.alias',.string ⟨x.draft.toArray⟩,.int .i64 x.at']
 len:=fun _=>rfl
 one:=fun x u hu=>by simp at hu;rcases hu with rfl|rfl|rfl|rfl|rfl <;> rfl
def encD:Enc (Dc×(Option Addr×Nat)) 3 where
 enc:=fun z=>[.string ⟨z.1.loc.toArray⟩,.bool z.1.supp,.slice z.2.1 z.1.items.length z.2.2]
 len:=fun _=>rfl
 one:=fun x u hu=>by simp at hu;rcases hu with rfl|rfl|rfl <;> rfl
def RdD (w:World)(v:Value)(l:List Dc):Prop:=∃zs:List (Dc×(Option Addr×Nat)),zs.map (·.1)=l∧RdL encD w v zs∧∀z∈zs,RdL encI w (.slice z.2.1 z.1.items.length z.2.2) z.1.items
theorem RdD.cells {w:World}{v:Value}{l:List Dc}(h:RdD w v l):∃ao cp,v=.slice ao l.length cp∧l.length≤cp∧l.length≤9223372036854775807∧∀n (hn:n<l.length),∃p o a c,ao=some ⟨p,o,none⟩∧p<w.heap.size ∧
  w.cell? ⟨p,o+n * 3,none⟩=some (.string ⟨(l[n]'hn).loc.toArray⟩)∧w.cell? ⟨p,o+n * 3+1,none⟩=some (.bool (l[n]'hn).supp)∧w.cell? ⟨p,o+n * 3+2,none⟩=some (.slice a (l[n]'hn).items.length c)∧RdL encI w (.slice a (l[n]'hn).items.length c) (l[n]'hn).items:=by
 obtain⟨zs,rfl,⟨ao,cp,rfl,⟨h1,h2,_⟩,hc⟩,hi⟩:=h
 refine⟨ao,cp,by rw[List.length_map],by rw[List.length_map];exact h1,by rw[List.length_map];exact h2,fun n hn=>?_⟩
 rw[List.length_map]at hn
 obtain⟨p,o,ha,hp,hx⟩:=hc (by intro e;rw[e]at hn;simp at hn)
 simp only[List.getElem_map]
 exact⟨p,o,(zs[n]).2.1,(zs[n]).2.2,ha,hp,hx n 0 _ hn rfl,hx n 1 _ hn rfl,hx n 2 _ hn rfl,hi _ (List.getElem_mem hn)⟩
theorem RdI.cells {w:World}{a:Option Addr}{k c:Nat}{l:List Itm}(h:RdL encI w (.slice a k c) l):k=l.length∧k≤c∧k≤9223372036854775807∧∀n (hn:n<l.length),∃p o,a=some ⟨p,o,none⟩∧p<w.heap.size ∧
  w.cell? ⟨p,o+n * 5,none⟩=some (.string ⟨(l[n]'hn).path.toArray⟩)∧w.cell? ⟨p,o+n * 5+1,none⟩=some (.string ⟨(l[n]'hn).value.toArray⟩)∧w.cell? ⟨p,o+n * 5+2,none⟩=some (.bool (l[n]'hn).alias')∧w.cell? ⟨p,o+n * 5+3,none⟩=some (.string ⟨(l[n]'hn).draft.toArray⟩)∧w.cell? ⟨p,o+n * 5+4,none⟩=some (.int .i64 (l[n]'hn).at'):=by
 obtain⟨ao,cp,e,⟨h1,h2,_⟩,hc⟩:=h
 cases e
 refine⟨rfl,h1,h2,fun n hn=>?_⟩
 obtain⟨p,o,ha,hp,hx⟩:=hc (by intro e;rw[e]at hn;simp at hn)
 exact⟨p,o,ha,hp,hx n 0 _ hn rfl,hx n 1 _ hn rfl,hx n 2 _ hn rfl,hx n 3 _ hn rfl,hx n 4 _ hn rfl⟩
def Qyk:List Dc→Nat
 |[]=>0
 |d::r=>4 * d.items.length+1+Qyk r
def SzD (l:List Dc):Prop:=(∀d∈l,d.loc.length≤maxLen∧∀x∈d.items,x.path.length≤maxLen)∧Qyk l+8<maxLen
def P3 (W:World)(B:Nat)(a0 a1 a2:Value):World:=((W.setCell ⟨B,0,none⟩ a0).setCell ⟨B,1,none⟩ a1).setCell ⟨B,2,none⟩ a2
theorem Ws {W:World}{B:Nat}{z0 z1 z2:Value}{ty:TypeId}(a0 a1 a2:Value)(h:W.heap[B]?=some (.cells #[z0,z1,z2] ty (0,0))):(P3 W B a0 a1 a2).heap[B]?=some (.cells #[a0,a1,a2] ty (0,0)):=by
 unfold P3;rw[heap_setCell_same _ _ _ _ _ _ (heap_setCell_same _ _ _ _ _ _ (heap_setCell_same _ _ _ _ _ _ h))];simp
theorem Cd {B b:Nat}{w W:World}(a0 a1 a2:Value)(h:Below B w W)(hb:B≤b):Below B w (P3 W b a0 a1 a2) :=
 ((h.setCell (p:=⟨b,0,none⟩) hb a0).setCell (p:=⟨b,1,none⟩) hb a1).setCell (p:=⟨b,2,none⟩) hb a2
theorem P3_kept {W:World}{b c:Nat}(a0 a1 a2:Value)(hne:c≠b):(P3 W b a0 a1 a2).heap[c]?=W.heap[c]?:=by
 unfold P3;rw[heap_setCell_other _ _ _ _ hne,heap_setCell_other _ _ _ _ hne,heap_setCell_other _ _ _ _ hne]
theorem Dr {W:World}{B:Nat}{a b c:Value}{ty:TypeId}(h:W.heap[B]?=some (.cells #[a,b,c] ty (0,0))):W.frozen? ⟨B,0,none⟩=false∧W.frozen? ⟨B,1,none⟩=false∧W.frozen? ⟨B,2,none⟩=false :=
 ⟨frozen_of_row W B 0 _ _ h,frozen_of_row W B 1 _ _ h,frozen_of_row W B 2 _ _ h⟩
def Zdy (w:World) (l:List Dc) (x:Ending) (w' : World):Prop :=
  Below w.heap.size w w' ∧
    (((Ec l).1.err=0∧∃Bt bv ba bn bp N V,x=.returned (.tuple #[.pointer (some ⟨Bt,0,none⟩),.agg #[.int .i64 0,.int .i64 0,.int .i64 0]])∧Yp w.heap.size w' Bt bv ba bn bp N V (Ec l).2∧Fx (Ec l).2) ∨
     ((Ec l).1.err≠0∧x=.returned (.tuple #[.pointer none,.agg #[.int .i64 (Ec l).1.err,.int .i64 (Ec l).1.file,.int .i64 (Ec l).1.at']])))
theorem Ss {V:World}{Pb:Nat}{v:Value}{e f a:Int}(hr:V.heap[Pb]?=some (.cells #[.int .i64 e,.int .i64 f,.int .i64 a] 49 (0,0))){Q:Ending→World→Prop}{act:Act}(hd:act.defers=[])
  (h2:act.tmps.getD 2 undef=v)(h3:act.tmps.getD 3 undef=.pointer (some ⟨Pb,0,none⟩))(hQ:Q (.returned (.tuple #[v,.agg #[.int .i64 e,.int .i64 f,.int .i64 a]])) V) :
  bodyPost Tryz.prog Tryz.f17 Q Exit.ret act V:=by
 obtain⟨e0,e1,e2,_⟩:=Qn hr
 refine bodyPost_ret (v:=.tuple #[v,.agg #[.int .i64 e,.int .i64 f,.int .i64 a]]) ?_ hd hQ
 obtain⟨tmps,defers⟩:=act
 simp only[Array.getD_eq_getD_getElem?]at h2 h3
 simp[results,Tryz.results17,go_sem,h2,h3,e0,e1,e2]
structure Mm (w W:World)(Bt bv ba bn bp N:Nat)(V:List (Str×Nat))(t:Tb):Prop where
 tb:Yp w.heap.size.succ W Bt bv ba bn bp N V t
 ok:Fx t
 f:W.heap[w.heap.size]?=some (.cells #[.int .i64 0,.int .i64 0,.int .i64 0] 49 (0,0))
 bel:Below w.heap.size w W
section
variable {w W W' : World}{Bt bv ba bn bp N:Nat}{V:List (Str × Nat)}{t:Tb}
theorem Yp.lower {B0 B1:Nat}(h:Yp B0 W Bt bv ba bn bp N V t)(hb:B1≤B0):Yp B1 W Bt bv ba bn bp N V t:=by
 obtain⟨h1,⟨l1,l2,l3,l4,l5⟩,h3⟩:=h
 exact⟨h1,⟨by omega,by omega,by omega,by omega,by omega⟩,fun p hp=>Nat.le_trans hb (h3 p hp)⟩
theorem Yp.agree {B0:Nat}(h:Yp B0 W Bt bv ba bn bp N V t)(he:∀k,B0≤k→W'.heap[k]?=W.heap[k]?):Yp B0 W' Bt bv ba bn bp N V t:=by
 obtain⟨⟨a1,a2,a3,a4,a5,a6,a7,a8,a9,a10⟩,⟨l1,l2,l3,l4,l5⟩,h3⟩:=h
 exact⟨⟨(he _ l1).trans a1,a2.block (he _ l2),a3.block (he _ l3),a4.block (he _ l4),a5.block (he _ l5),fun p hp=>(a6 p hp).block (he _ (h3 p hp)),a7,a8,a9,a10⟩,⟨l1,l2,l3,l4,l5⟩,h3⟩
theorem Mm.below (h:Mm w W Bt bv ba bn bp N V t)(hb:Below W.heap.size W W'):Mm w W' Bt bv ba bn bp N V t :=
 ⟨h.tb.below hb,h.ok,bk hb h.f,h.bel.then hb⟩
theorem Mm.mono {N':Nat}(h:Mm w W Bt bv ba bn bp N V t)(hn:N≤N'):Mm w W Bt bv ba bn bp N' V t:=⟨h.tb.mono hn,h.ok,h.f,h.bel⟩
theorem Mm.size (h:Mm w W Bt bv ba bn bp N V t):w.heap.size.succ≤W.heap.size:=lt_of_block h.f
theorem Mm.turned (h:Mm w W Bt bv ba bn bp N V t){N':Nat}{V':List (Str×Nat)}{t':Tb}(ht:Yp w.heap.size.succ W' Bt bv ba bn bp N' V' t')(ok:Fx t')(hb:Below w.heap.size.succ W W'):Mm w W' Bt bv ba bn bp N' V' t' :=
 ⟨ht,ok,(hb.block _ (Nat.lt_succ_self _)).trans h.f,h.bel.trans (hb.mono (Nat.le_succ _))⟩
theorem Mm.wrong (h:Mm w W Bt bv ba bn bp N V t):W.cell? ⟨w.heap.size,0,none⟩=some (.int .i64 0)∧W.cell? ⟨w.heap.size,1,none⟩=some (.int .i64 0)∧W.cell? ⟨w.heap.size,2,none⟩=some (.int .i64 0)∧w.heap.size<W.heap.size ∧
  W.frozen? ⟨w.heap.size,0,none⟩=false∧W.frozen? ⟨w.heap.size,1,none⟩=false∧W.frozen? ⟨w.heap.size,2,none⟩=false:=by
 obtain⟨a,b,c,d⟩:=Qn h.f
 exact⟨a,b,c,d,Dr h.f⟩
end
theorem tnew_good {w W:World}{l:List Dc}{Bt bv ba bn bp N:Nat}{V:List (Str×Nat)}{t:Tb}(h:Ec l=(Wrg.ok,t))(st:Mm w W Bt bv ba bn bp N V t):Zdy w l (.returned (.tuple #[.pointer (some ⟨Bt,0,none⟩),.agg #[.int .i64 0,.int .i64 0,.int .i64 0]])) (P3 W w.heap.size (.int .i64 0) (.int .i64 0) (.int .i64 0)):=by
 refine⟨Cd _ _ _ st.bel (Nat.le_refl _),Or.inl ?_⟩
 rw[h]
 exact⟨rfl,Bt,bv,ba,bn,bp,N,V,rfl,(st.tb.agree (fun k hk=>P3_kept _ _ _ (by omega))).lower (Nat.le_succ _),st.ok⟩
theorem start_tb (w W:World)(B:Nat)(hB:B=w.heap.size)(h0:W.heap[B]?=some (.cells #[.int .i64 0,.int .i64 0,.int .i64 0] 49 (0,0)))
  (h1:W.heap[B+1]?=some (.map #[] 0))(h2:W.heap[B+1+1]?=some (.map #[] 0))(h3:W.heap[B+1+1+1]?=some (.map #[] 0))(h4:W.heap[B+1+1+1+1]?=some (.map #[] 0))
  (h5:W.heap[B+1+1+1+1+1]?=some (.cells #[.map (some (B+1)),.map (some (B+1+1)),.map (some (B+1+1+1)),.map (some (B+1+1+1+1))] 100 (0,0)))(hb:Below w.heap.size w W) :
  Mm w W (B+1+1+1+1+1) (B+1) (B+1+1) (B+1+1+1) (B+1+1+1+1) 0 [] Tb.zero:=by
 have mk:∀{α:Type} (E:El α) (b:Nat),W.heap[b]?=some (.map #[] 0)→Zm E W b 0 []:=fun E b hb=>by
  have:=Zm.made E (w.alloc (.map #[] 0))
  obtain⟨m,⟨es,ck,hm,F,hs,hD⟩,h2⟩:=this
  have e:=heap_alloc_new (w.alloc (.map #[] 0)) (.map #[] 0);rw[e]at hm
  cases hm
  exact⟨m,⟨_,_,hb,F,hs,hD⟩,h2⟩
 refine⟨⟨⟨h5,mk _ _ h1,mk _ _ h2,mk _ _ h3,mk _ _ h4,(fun p hp=>by cases hp),(by simp),(fun r hr=>by cases hr),(fun r hr=>by cases hr),?_⟩,⟨by omega,by omega,by omega,by omega,by omega⟩,(fun p hp=>by cases hp)⟩,Fx.zero,by rw[←hB];exact h0,hb⟩
 simp
theorem start_new (w:World):Mm w ((((((w.alloc (.cells #[.int .i64 0,.int .i64 0,.int .i64 0] 49)).alloc (.map #[] 0)).alloc (.map #[] 0)).alloc (.map #[] 0)).alloc (.map #[] 0)).alloc (.cells #[.map (some (w.heap.size+1)),.map (some (w.heap.size+1+1)),.map (some (w.heap.size+1+1+1)),.map (some (w.heap.size+1+1+1+1))] 100))
  (w.heap.size+1+1+1+1+1) (w.heap.size+1) (w.heap.size+1+1) (w.heap.size+1+1+1) (w.heap.size+1+1+1+1) 0 [] Tb.zero:=by
 have a1:∀(W:World) (o:Obj),(W.alloc o).heap.size=W.heap.size+1:=fun W o=>by simp
 have a2:∀(W:World) (o:Obj) (k:Nat),(W.alloc o).heap[k]?=if k=W.heap.size then some o else W.heap[k]?:=fun W o k=>by
  show(W.heap.push o)[k]?=_
  rw[Array.getElem?_push]
 refine start_tb w _ w.heap.size rfl ?_ ?_ ?_ ?_ ?_ ?_ ?_
 ·simp only[a2,a1];rw[if_neg (by omega),if_neg (by omega),if_neg (by omega),if_neg (by omega),if_neg (by omega),if_pos trivial]
 ·simp only[a2,a1];rw[if_neg (by omega),if_neg (by omega),if_neg (by omega),if_neg (by omega),if_pos trivial]
 ·simp only[a2,a1];rw[if_neg (by omega),if_neg (by omega),if_neg (by omega),if_pos trivial]
 ·simp only[a2,a1];rw[if_neg (by omega),if_neg (by omega),if_pos trivial]
 ·simp only[a2,a1];rw[if_neg (by omega),if_pos trivial]
 ·simp only[a2,a1];rw[if_pos trivial]
 ·exact(((((bal _ _).alloc (by simp) _).alloc (by simp;omega) _).alloc (by simp;omega) _).alloc (by simp;omega) _).alloc (by simp;omega) _
theorem Zlq {t:Tb}{d:Dc}(h:(d.supp=true∧d.loc≠[])∨(d.supp=false∧Qj d.loc=false)):Nn t d=(2,t):=by unfold Nn;rw[if_pos h]
theorem Zwq {t:Tb}{d:Dc}(h:¬((d.supp=true∧d.loc≠[])∨(d.supp=false∧Qj d.loc=false)))(h2:d.supp=true∨d.loc∈t.names):Nn t d=(0,t):=by unfold Nn;rw[if_neg h,if_pos h2]
theorem head_full {t:Tb}{d:Dc}(h:¬((d.supp=true∧d.loc≠[])∨(d.supp=false∧Qj d.loc=false)))(h2:¬(d.supp=true∨d.loc∈t.names))(h3:t.names.length=512):Nn t d=(3,t):=by unfold Nn;rw[if_neg h,if_neg h2,if_pos h3]
theorem head_more {t:Tb}{d:Dc}(h:¬((d.supp=true∧d.loc≠[])∨(d.supp=false∧Qj d.loc=false)))(h2:¬(d.supp=true∨d.loc∈t.names))(h3:¬t.names.length=512):Nn t d=(0,{ t with names:=t.names++[d.loc] }):=by unfold Nn;rw[if_neg h,if_neg h2,if_neg h3]
def fromD (n:Nat)(r:List Dc)(d:Dc)(x:Nat×Tb):Wrg×Tb:=match x with
  |(0,t1)=>match Cg d.loc n t1 d.items with
   |(none,t2)=>Qpg (n+1) t2 r
   |(some (e,a),t2)=>(⟨e,n,a⟩,t2)
  |(e,t1)=>(⟨e,n,0⟩,t1)
def fromI (n:Nat)(r:List Dc)(x:Option (Nat×Int)×Tb):Wrg×Tb:=match x with
  |(none,t2)=>Qpg (n+1) t2 r
  |(some (e,a),t2)=>(⟨e,n,a⟩,t2)
theorem Ep {w W':World}{l:List Dc}{e:Nat}{f a:Int}{t:Tb}(h:Ec l=(⟨e,f,a⟩,t))(he:e≠0)(hb:Below w.heap.size w W'):Zdy w l (.returned (.tuple #[.pointer none,.agg #[.int .i64 e,.int .i64 f,.int .i64 a]])) W':=by
 refine⟨hb,Or.inr ?_⟩
 rw[h];exact⟨he,rfl⟩
theorem docs_step {n:Nat}{t:Tb}{l:List Dc}(hn:n<l.length):Qpg n t (l.drop n)=fromD n (l.drop (n+1)) (l[n]'hn) (Nn t (l[n]'hn)):=by
 rw[List.drop_eq_getElem_cons hn];rfl
theorem cost_step {n:Nat}{l:List Dc}(hn:n<l.length):Qyk (l.drop n)=4 * (l[n]'hn).items.length+1+Qyk (l.drop (n+1)):=by
 rw[List.drop_eq_getElem_cons hn];rfl
theorem Qnx {m f:Nat}{t:Tb}{loc:Str}{l:List Itm}(hm:m<l.length):Cg loc f t (l.drop m)=match Vr t loc f (l[m]'hm) with
  |(0,t')=>Cg loc f t' (l.drop (m+1))
  |(e,t')=>(some (e,(l[m]'hm).at'),t'):=by
 rw[List.drop_eq_getElem_cons hm];rfl
theorem Xhk {m f:Nat}{t t':Tb}{loc:Str}{l:List Itm}(hm:m<l.length)(h:Vr t loc f (l[m]'hm)=(0,t')):Cg loc f t (l.drop m)=Cg loc f t' (l.drop (m+1)):=by
 rw[Qnx hm,h];rfl
theorem Xhv {m f e:Nat}{t t':Tb}{loc:Str}{l:List Itm}(hm:m<l.length)(h:Vr t loc f (l[m]'hm)=(e,t'))(he:e≠0):Cg loc f t (l.drop m)=(some (e,(l[m]'hm).at'),t'):=by
 rw[Qnx hm,h]
 cases e with
 |zero=>exact absurd rfl he
 |succ e=>rfl
end
section
open Go.RowKit Go.Lib Go.Sort Go.Maps Go.WideMaps
theorem Zlz (s:Str):((Vj s).2||s==Qs)=Qj s:=by
 by_cases hn:Qj s=true
 ·by_cases hr:s=Qs
  ·rw[hn,show(s==Qs)=true by rw[hr];rfl];simp
  ·obtain⟨p,hp,_⟩:=Sd hn hr
   rw[hn,hp];rfl
 ·have hn2:Qj s=false:=by simpa using hn
  rw[Dm (fun h=>hn h.1),hn2,show(s==Qs)=false by
   rw[beq_eq_false_iff_ne];rintro rfl;exact hn Xwh];rfl
theorem tnew_any (w:World)(l:List Dc)(v:Value)(hd:RdD w v l)(hs:SzD l) :
  Calls Tryz.prog 17 #[v] w fun x w'=>Zdy w l x w':=by
 have HS:=hid hs
 obtain⟨ao,cp,rfl,hln,h63,hcell⟩:=hd.cells
 have HCELL:=hid hcell;clear hcell hs hd;have hmm:=@run_makeMap Tryz.prog;have ST0:=hid (start_new w)
 go_enter Tryz.func17,Tryz.ntmps17
 go_wp2_with fail
 go_step3
 go_wp2_with fail
 go_step3
 clear hmm;generalize (((((w.alloc (.cells #[.int .i64 0,.int .i64 0,.int .i64 0] 49)).alloc (.map #[] 0)).alloc (.map #[] 0)).alloc (.map #[] 0)).alloc (.map #[] 0)).alloc (.cells #[.map (some (w.heap.size+1)),.map (some (w.heap.size+1+1)),.map (some (w.heap.size+1+1+1)),.map (some (w.heap.size+1+1+1+1))] 100)=w1 at *;generalize w.heap.size+1+1+1+1+1=Bt at *;generalize w.heap.size+1+1+1+1=bp at *;generalize w.heap.size+1+1+1=bn at *;generalize w.heap.size+1+1=ba at *;generalize w.heap.size+1=bv at *;go_wp2_with fail
 go_loopg[20] l.length (fun g vi W=>∃(n N:Nat) (V:List (Str×Nat)) (t:Tb),n≤l.length∧l.length≤n+g∧vi=.int .i64 n∧Mm w W Bt bv ba bn bp N V t∧Ec l=Qpg n t (l.drop n)∧N+Qyk (l.drop n)+8<maxLen)
 case atStart=>exact⟨0,0,[],Tb.zero,Nat.zero_le _,by omega,rfl,ST0.out,rfl,by have:=HS.out.2;rw[List.drop_zero];omega⟩
 case round =>
  obtain⟨n,N,V,t,hn,hg,rfl,st,hrun,hcost⟩:=hrel
  rename World=>w2
  obtain⟨go,hgo⟩:∃go,go=gk:=⟨_,rfl⟩
  have HG:=hid (show l.length≤n+go by rw[hgo];exact hg);have HGO:=hid hgo;clear hgo;have ST2:=hid st;have HRUN:=hid hrun;have HCO:=hid hcost;clear hg st hrun hcost ST0
  by_cases hlt:n<l.length
  ·have hni:(n:Int)<(l.length:Int):=by omega
   have hn0:(0:Int)≤(n:Int):=by omega
   obtain⟨p,o,a,c,rfl,hp,q0,q1,q2,hits⟩:=HCELL.out n hlt
   have r0:=(ST2.out.bel.cell (p:=⟨p,o+n * 3,none⟩) hp).trans q0;have r1:=(ST2.out.bel.cell (p:=⟨p,o+n * 3+1,none⟩) hp).trans q1;have r2:=(ST2.out.bel.cell (p:=⟨p,o+n * 3+2,none⟩) hp).trans q2;have HRUN2:=hid (HRUN.out.trans (docs_step hlt));have HCO2:=hid (show N+(4 * (l[n]'hlt).items.length+1+Qyk (l.drop (n+1)))+8<maxLen by rw[←cost_step hlt];exact HCO.out);have HSZ:=hid (HS.out.1 _ (List.getElem_mem hlt));have HITS:=hid hits;clear q0 q1 q2 hits HRUN HCO HCELL;generalize l[n]'hlt=d at *
   obtain⟨loc,supp,its⟩:=d
   simp only at r0 r1 r2;have hp2:p<w2.heap.size:=Nat.lt_of_lt_of_le hp ST2.out.bel.size;go_upto_region 5 with fail;have HB3:=hid (bal w2 (.cells #[.string ⟨loc.toArray⟩,.bool supp,.slice a its.length c] 56));have F3:=hid (heap_alloc_new w2 (.cells #[.string ⟨loc.toArray⟩,.bool supp,.slice a its.length c] 56));generalize w2.alloc (.cells #[.string ⟨loc.toArray⟩,.bool supp,.slice a its.length c] 56)=w3 at *;have ST3:=hid (ST2.out.below HB3.out);clear r0 r1 r2 hp2 ST2
   obtain⟨d0,d1,d2,dl⟩:=Qn F3.out
   go_wp2_with fail
   refine(Zvg loc w3 HSZ.out.1).mono ?_
   rintro e w4 ⟨rfl,hb4⟩;have F4:=hid (bk hb4 F3.out);have ST4:=hid (ST3.out.below hb4);clear hb4 d0 d1 d2 dl F3 ST3;generalize w2.heap.size=Db at *
   obtain⟨d0,d1,d2,dl⟩:=Qn F4.out
   have HNM:=hid (Zlz loc);generalize (Vj loc).1=pl1 at *;generalize (Vj loc).2=P at *
   obtain⟨nm,hnm⟩:∃nm,nm=Qj loc:=⟨_,rfl⟩
   rw[←hnm]at HNM;have HN:=hid hnm;clear hnm;go_upto_region 6 with fail
   go_cut[8,20]from 20 to 109 (fun v8 v20 wx=>v8=.bool nm∧v20=.int .i64 n∧wx=w4)
   case first =>
    cases P with
    |true =>
     go_wp2_with fail
     go_meet
     exact⟨by rw[←HNM.out];rfl,rfl,rfl⟩
    |false =>
     have hub:(loc==[114,111,111,116])=nm:=by rw[←HNM.out];rfl
     go_wp2_with fail
     go_meet
     exact⟨by first|rfl|rw[←hub] |simp[hub],rfl,rfl⟩
   case rest =>
    obtain⟨rfl,rfl,rfl⟩:=hcut
    rename World=>w4
    go_upto_block 2 with fail
    go_cut[20]from 20 to 109 (fun v20 wx=>v20=.int .i64 n∧∃t1,Nn t ⟨loc,supp,its⟩=(0,t1)∧Mm w wx Bt bv ba bn bp (N+1) V t1∧wx.heap[Db]?=some (.cells #[.string ⟨loc.toArray⟩,.bool supp,.slice a its.length c] 56 (0,0)))
    case first =>
     obtain⟨z0,z1,z2,zl,zf0,zf1,zf2⟩:=ST4.out.wrong
     obtain⟨t0,t1,t2,t3,tl⟩:=ST4.out.tb.box
     cases supp with
     |true =>
      by_cases hl:loc=[]
      ·have hle:List.isEmpty loc=true:=by rw[hl];rfl
       have hle2:(loc==[])=true:=by rw[hl];rfl
       have hle3:(loc != [])=false:=by rw[hl];rfl
       have HH:=hid (Zwq (t:=t) (d:=⟨loc,true,its⟩) (by rintro(⟨_,h⟩|⟨h,_⟩);exact h hl;cases h) (Or.inl rfl));clear hl;go_wp2_with fail
       first
        |go_quiet (fail)
        | fail "q10a"
       go_wp2_with fail
       go_meet
       exact⟨rfl,t,HH.out,(ST4.out.below (below_drewN (Below.refl _ _) nq)).mono (Nat.le_succ _),F4.out⟩
      ·have hle:List.isEmpty loc=false:=Pt hl;have hle2:(loc==[])=false:=by rw[beq_eq_false_iff_ne];exact hl
       have hle3:(loc != [])=true:=by rw[bne_iff_ne];exact hl
       have HH:=hid (Zlq (t:=t) (d:=⟨loc,true,its⟩) (Or.inl ⟨rfl,hl⟩));clear hl;go_wp2_with fail;refine Ss (Pb:=w.heap.size) (e:=2) (f:=n) (a:=0) (Ws _ _ _ ST4.out.f) rfl rfl rfl (Ep (e:=2) (HRUN2.out.trans (by rw[HH.out];rfl)) (by decide) (Cd _ _ _ ST4.out.bel (Nat.le_refl _)))
     |false =>
      cases nm with
      |false =>
       have HH:=hid (Zlq (t:=t) (d:=⟨loc,false,its⟩) (Or.inr ⟨rfl,HN.out.symm⟩));go_wp2_with fail;refine Ss (Pb:=w.heap.size) (e:=2) (f:=n) (a:=0) (Ws _ _ _ ST4.out.f) rfl rfl rfl (Ep (e:=2) (HRUN2.out.trans (by rw[HH.out];rfl)) (by decide) (Cd _ _ _ ST4.out.bel (Nat.le_refl _)))
      |true =>
       have NB:=hid (show ¬(((⟨loc,false,its⟩:Dc).supp=true∧loc≠[])∨((⟨loc,false,its⟩:Dc).supp=false∧Qj loc=false))by rintro(⟨h,_⟩|⟨_,h⟩);exact absurd h (by simp);rw[←HN.out]at h;cases h);have LN:∀m ty,(Builtin.len_ #[73] ty #[.map (some bn)]).run Tryz.prog (w4.drewN m)=.ok (.int .i64 t.names.length) (w4.drewN m):=fun m ty=>by
        have:=(show Zm Yy (w4.drewN m) bn N (Jw t.names)from ST4.out.tb.at_.names.block rfl).len Tryz.underlying73 (by rw[Hm];exact ST4.out.ok.names) ty
        rw[this];simp[Jw]
       by_cases hmp:loc∈t.names
       ·have LK:∀m,(Instr.lookup 73 (.map (some bn)) (.string ⟨loc.toArray⟩) false).run Tryz.prog (w4.drewN m)=.ok (.bool true) (w4.drewN m):=fun m=>by
         have:=(show Zm Yy (w4.drewN m) bn N (Jw t.names)from ST4.out.tb.at_.names.block rfl).look Tryz.underlying73 Qjh loc HSZ.out.1
         rw[Gb,if_pos hmp]at this;exact this
        have HH:=hid (Zwq (t:=t) (d:=⟨loc,false,its⟩) NB.out (Or.inr hmp));have HMP:=hid (show Zb (Jw t.names) loc=some true by rw[Gb,if_pos hmp]);clear hmp;go_wp2_with fail
        first
         |go_quiet (fail)
         | fail "q10b"
        go_wp2_with fail;have HB7:=hid (show Below w4.heap.size w4 (w4.drewN nq)from below_drewN (Below.refl _ _) nq);clear LK LN z0 z1 z2 zl zf0 zf1 zf2 t0 t1 t2 t3 tl d0 d1 d2 dl;generalize w4.drewN nq=w7 at *;have F7:=hid (bk HB7.out F4.out);have ST7:=hid (ST4.out.below HB7.out)
        obtain⟨d0,d1,d2,dl⟩:=Qn F7.out
        obtain⟨t0,t1,t2,t3,tl⟩:=ST7.out.tb.box
        obtain⟨w8,hrun,ho8,hg8⟩:=(show Zm Yy w7.drew bn N (Jw t.names)from ST7.out.tb.at_.names.block rfl).again (by have:=HCO2.out;omega) Tryz.underlying73 loc true HSZ.out.1 HMP.out
        have hrun2:(Instr.mapUpdate 73 (.map (some bn)) (.string ⟨loc.toArray⟩) (.bool true)).run Tryz.prog w7.drew=.ok () w8:=hrun;have ST8:=hid ((show Mm w w7.drew Bt bv ba bn bp N V t from ST7.out.below (Below.refl _ _).drew).turned (t':={ t with names:=t.names }) (N':=N+1) (V':=V) (W':=w8) ⟨(show Fn w7.drew Bt bv ba bn bp N V t from(ST7.out.tb.below (Below.refl _ _).drew).at_).addName (by  exact ho8) hg8,ST7.out.tb.lo,ST7.out.tb.each⟩ (by have:=Xpk ST7.out.ok ⟨loc,false,its⟩;rw[HH.out]at this;exact this) ((Below.refl _ _).grown hg8 (show w.heap.size.succ≤w7.heap.size from ST7.out.size) (fun k hk=>by cases hk;exact ST7.out.tb.lo.2.2.2.1)));have F8:=hid (Kk (show w7.drew.heap[Db]?=_ from F7.out) (show Zm Yy w7.drew bn N (Jw t.names)from ST7.out.tb.at_.names.block rfl) hg8);clear hrun ho8 hg8
        first
         |go_region
         | fail "r13"
        all_goals
         go_wp2_with fail
         go_meet
         exact⟨rfl,_,HH.out,ST8.out,F8.out⟩
       ·have LK:∀m,(Instr.lookup 73 (.map (some bn)) (.string ⟨loc.toArray⟩) false).run Tryz.prog (w4.drewN m)=.ok (.bool false) (w4.drewN m):=fun m=>by
         have:=(show Zm Yy (w4.drewN m) bn N (Jw t.names)from ST4.out.tb.at_.names.block rfl).look Tryz.underlying73 Qjh loc HSZ.out.1
         rw[Gb,if_neg hmp]at this;exact this
        have HNN:=hid (show ¬((⟨loc,false,its⟩:Dc).supp=true∨loc∈t.names)by rintro(h|h);exact absurd h (by simp);exact hmp h);have HMP:=hid (show Zb (Jw t.names) loc=none by rw[Gb,if_neg hmp]);clear hmp
        by_cases hful:t.names.length=512
        ·have hfl:((t.names.length:Int)==512)=true:=by rw[beq_iff_eq];omega
         have HH:=hid (head_full (t:=t) (d:=⟨loc,false,its⟩) NB.out HNN.out hful);clear hful;go_wp2_with fail
         first
          |go_quiet (fail)
          | fail "q10c"
         go_wp2_with fail;refine Ss (V:=P3 (w4.drewN nq) w.heap.size _ _ _) (Pb:=w.heap.size) (e:=3) (f:=n) (a:=0) (Ws (W:=w4.drewN nq) _ _ _ ST4.out.f) rfl rfl rfl (Ep (e:=3) (HRUN2.out.trans (by rw[HH.out];rfl)) (by decide) (Cd _ _ _ (below_drewN ST4.out.bel nq) (Nat.le_refl _)))
        ·have hfl:((t.names.length:Int)==512)=false:=by rw[beq_eq_false_iff_ne];omega
         have HH:=hid (head_more (t:=t) (d:=⟨loc,false,its⟩) NB.out HNN.out hful);clear hful;go_wp2_with fail
         first
          |go_quiet (fail)
          | fail "q10d"
         go_wp2_with fail;have HB7:=hid (show Below w4.heap.size w4 (w4.drewN nq)from below_drewN (Below.refl _ _) nq);clear LK LN z0 z1 z2 zl zf0 zf1 zf2 t0 t1 t2 t3 tl d0 d1 d2 dl;generalize w4.drewN nq=w7 at *;have F7:=hid (bk HB7.out F4.out);have ST7:=hid (ST4.out.below HB7.out)
         obtain⟨d0,d1,d2,dl⟩:=Qn F7.out
         obtain⟨t0,t1,t2,t3,tl⟩:=ST7.out.tb.box
         obtain⟨w8,hrun,ho8,hg8⟩:=(show Zm Yy w7.drew bn N (Jw t.names)from ST7.out.tb.at_.names.block rfl).say (by have:=HCO2.out;omega) Tryz.underlying73 loc true HSZ.out.1 HMP.out
         have hrun2:(Instr.mapUpdate 73 (.map (some bn)) (.string ⟨loc.toArray⟩) (.bool true)).run Tryz.prog w7.drew=.ok () w8:=hrun;have ST8:=hid ((show Mm w w7.drew Bt bv ba bn bp N V t from ST7.out.below (Below.refl _ _).drew).turned (t':={ t with names:=t.names++[loc] }) (N':=N+1) (V':=V) (W':=w8) ⟨(show Fn w7.drew Bt bv ba bn bp N V t from(ST7.out.tb.below (Below.refl _ _).drew).at_).addName (by rw[Jw,List.map_append];exact ho8) hg8,ST7.out.tb.lo,ST7.out.tb.each⟩ (by have:=Xpk ST7.out.ok ⟨loc,false,its⟩;rw[HH.out]at this;exact this) ((Below.refl _ _).grown hg8 (show w.heap.size.succ≤w7.heap.size from ST7.out.size) (fun k hk=>by cases hk;exact ST7.out.tb.lo.2.2.2.1)));have F8:=hid (Kk (show w7.drew.heap[Db]?=_ from F7.out) (show Zm Yy w7.drew bn N (Jw t.names)from ST7.out.tb.at_.names.block rfl) hg8);clear hrun ho8 hg8
         first
          |go_region
          | fail "r13"
         all_goals
          go_wp2_with fail
          go_meet
          exact⟨rfl,_,HH.out,ST8.out,F8.out⟩
    case rest =>
     obtain⟨rfl,t1,hh,st5,f5⟩:=hcut
     rename World=>w5
     have ST5:=hid st5;have F5:=hid f5;have HRUN3:=hid (HRUN2.out.trans (show _=fromI n (l.drop (n+1)) (Cg loc n t1 its)by rw[hh];rfl));clear hh st5 f5 ST4 F4 HRUN2 d0 d1 d2 dl HNM HN
     obtain⟨d0,d1,d2,dl⟩:=Qn F5.out
     obtain⟨_,hkc,hk63,hic⟩:=RdI.cells HITS.out
     have HIC:=hid hic;clear hic HITS;go_wp2_with fail
     go_loopg[91] its.length (fun g vi W=>∃(m N':Nat) (V':List (Str×Nat)) (t':Tb),m≤its.length∧its.length≤m+g∧vi=.int .i64 m∧Mm w W Bt bv ba bn bp N' V' t'∧W.heap[Db]?=some (.cells #[.string ⟨loc.toArray⟩,.bool supp,.slice a its.length c] 56 (0,0))∧Cg loc n t1 its=Cg loc n t' (its.drop m)∧N'+(4 * (its.length-m)+Qyk (l.drop (n+1)))+8<maxLen)
     case atStart=>exact⟨0,N+1,V,t1,Nat.zero_le _,by omega,rfl,ST5.out,F5.out,rfl,by have:=HCO2.out;omega⟩
     case round =>
      obtain⟨m,N',V',t',hm,hg,rfl,st,fd,hitr,hcost⟩:=hrel
      rename World=>w6
      have HG2:=hid hg;have ST6:=hid st;have F6:=hid fd;have HIT:=hid hitr;have HCO3:=hid hcost;clear hg st fd hitr hcost ST5 F5 d0 d1 d2 dl
      obtain⟨d0,d1,d2,dl⟩:=Qn F6.out
      by_cases hlt2:m<its.length
      ·have hmi:(m:Int)<(its.length:Int):=by omega
       have hm0:(0:Int)≤(m:Int):=by omega
       obtain⟨p2,o2,rfl,hp2,q0,q1,q2,q3,q4⟩:=HIC.out m hlt2
       have r0:=(ST6.out.bel.cell (p:=⟨p2,o2+m * 5,none⟩) hp2).trans q0;have r1:=(ST6.out.bel.cell (p:=⟨p2,o2+m * 5+1,none⟩) hp2).trans q1;have r2:=(ST6.out.bel.cell (p:=⟨p2,o2+m * 5+2,none⟩) hp2).trans q2;have r3:=(ST6.out.bel.cell (p:=⟨p2,o2+m * 5+3,none⟩) hp2).trans q3;have r4:=(ST6.out.bel.cell (p:=⟨p2,o2+m * 5+4,none⟩) hp2).trans q4;have hp3:p2<w6.heap.size:=Nat.lt_of_lt_of_le hp2 ST6.out.bel.size;have HPL:=hid (HSZ.out.2 _ (List.getElem_mem hlt2));have HNX:=hid (fun t'' (h:Vr t' loc n (its[m]'hlt2)=(0,t''))=>HIT.out.trans (Xhk hlt2 h));have HSP:=hid (fun e t'' (h:Vr t' loc n (its[m]'hlt2)=(e,t'')) (he:e≠0)=>HIT.out.trans (Xhv hlt2 h he));clear q0 q1 q2 q3 q4 HIT HIC;generalize its[m]'hlt2=x at *
       obtain⟨xp,xv,xal,xd,xa⟩:=x
       simp only at r0 r1 r2 r3 r4;go_upto_region 17 with fail;have HB7:=hid (bal w6 (.cells #[.string ⟨xp.toArray⟩,.string ⟨xv.toArray⟩,.bool xal,.string ⟨xd.toArray⟩,.int .i64 xa] 53));have I7:=hid (heap_alloc_new w6 (.cells #[.string ⟨xp.toArray⟩,.string ⟨xv.toArray⟩,.bool xal,.string ⟨xd.toArray⟩,.int .i64 xa] 53));generalize w6.alloc (.cells #[.string ⟨xp.toArray⟩,.string ⟨xv.toArray⟩,.bool xal,.string ⟨xd.toArray⟩,.int .i64 xa] 53)=w7 at *;have ST7:=hid (ST6.out.below HB7.out);have F7:=hid (bk HB7.out F6.out);clear r0 r1 r2 r3 r4 hp3 ST6 F6 HB7 d0 d1 d2 dl
       obtain⟨d0,d1,d2,dl⟩:=Qn F7.out
       obtain⟨c0,c1,c2,c3,c4,cl⟩:=Xl I7.out
       generalize w6.heap.size=Ib at *;go_wp2_with fail
       refine(item_any w.heap.size.succ w7 loc n ⟨xp,xv,xal,xd,xa⟩ ST7.out.tb ST7.out.ok ST7.out.size (by have:=HCO3.out;omega) HSZ.out.1 HPL.out).mono ?_
       rintro e w8 ⟨rfl,hk,htb⟩;have hok:=item_ok ST7.out.ok loc n ⟨xp,xv,xal,xd,xa⟩
       obtain⟨it,hit⟩:∃it,it=Vr t' loc n ⟨xp,xv,xal,xd,xa⟩:=⟨_,rfl⟩
       rw[←hit]at htb hok ⊢
       obtain⟨er,t''⟩:=it
       simp only at htb hok ⊢;have HTB:=hid htb;have HOK:=hid hok;have HIT2:=hid hit.symm;have F8:=hid (hk.cells _ _ _ _ F7.out);have I8:=hid (hk.cells _ _ _ _ I7.out);have W8:=hid (hk.cells _ _ _ _ ST7.out.f);have B8:=hid (ST7.out.bel.trans (hk.bel.mono (Nat.le_succ _)));have HK8:=hid hk.bel;clear htb hok hit hk d0 d1 d2 dl c0 c1 c2 c3 c4 cl
       by_cases her:er=0
       ·subst her
        obtain⟨V'',tb⟩:=HTB.out rfl
        have ST8:=hid (ST7.out.turned tb HOK.out HK8.out);have HN2:=hid (HNX.out t'' HIT2.out);clear tb HTB HNX HSP;go_wp2_with fail
        go_roundg (gk-1)
        case measure=>have:=HG2.out;omega
        case rel=>exact⟨m+1,N'+4,V'',t'',by omega,by have:=HG2.out;omega,by simp,ST8.out,F8.out,HN2.out,by have:=HCO3.out;omega⟩
       ·have hne:((er:Int) != 0)=true:=by rw[bne_iff_ne];omega
        have HS2:=hid (HSP.out er t'' HIT2.out her);have HRES:=hid (show Ec l=(⟨er,n,xa⟩,t'')by rw[HRUN3.out,HS2.out];rfl);have HER:=hid her
        obtain⟨c0,c1,c2,c3,c4,cl⟩:=Xl I8.out
        obtain⟨z0,z1,z2,zl⟩:=Qn W8.out
        obtain⟨zf0,zf1,zf2⟩:=Dr W8.out
        clear her HTB HNX HSP HS2 HIT2 HOK HK8 F8 I8 ST7 F7 I7;go_wp2_with fail
        first
         |go_region
         | fail "r19"
        all_goals
         go_wp2_with fail;refine Ss (V:=P3 w8.drew w.heap.size _ _ _) (Pb:=w.heap.size) (e:=er) (f:=n) (a:=xa) (Ws (W:=w8.drew) _ _ _ W8.out) rfl rfl rfl (Ep (e:=er) HRES.out HER.out (Cd _ _ _ B8.out.drew (Nat.le_refl _)))
      ·have hml:m=its.length:=by omega
       have HR4:=hid (show Ec l=Qpg (n+1) t' (l.drop (n+1))by rw[HRUN3.out,HIT.out,hml,List.drop_length];rfl);clear d0 d1 d2 dl;go_wp2_with fail
       go_roundg (go-1)
       case measure=>have:=HG.out;have:=HGO.out;omega
       case rel=>exact⟨n+1,N',V',t',by omega,by have:=HG.out;omega,by simp,ST6.out,HR4.out,by have:=HCO3.out;omega⟩
  ·have hnl:n=l.length:=by omega
   have HRES:=hid (show Ec l=(Wrg.ok,t)by rw[HRUN.out,hnl,List.drop_length];rfl)
   obtain⟨z0,z1,z2,zl,zf0,zf1,zf2⟩:=ST2.out.wrong
   clear HRUN HCO HCELL;go_wp2_with fail;exact Ss (Pb:=w.heap.size) (v:=.pointer (some ⟨Bt,0,none⟩)) (e:=0) (f:=0) (a:=0) (Ws _ _ _ ST2.out.f) rfl rfl rfl (tnew_good HRES.out ST2.out)
end
section
open Go.RowKit Go.Lib Go.Sort Go.Maps Go.WideMaps Go.Shelf
theorem Xhw (m:Nat):AnyZ.SortsIn Tryz.prog Tryz.sortedA_ren Fence.wide m :=
  ⟨fun blk off cap ss W hH hblk hsz => callsIn_wide.2 (AnyM.slices_Sort_string Tryz.sortA blk off cap ss W hH hblk hsz),
   fun p cap W => callsIn_wide.2 (AnyM.slices_Sort_string_none Tryz.sortA p cap W)⟩
def Mp (l:List Str):List Str:=l.mergeSort (fun x y=>decide (x≤y))
theorem Qjg (l:List Str):(Mp l).Perm l:=List.mergeSort_perm _ _
theorem keysFN (mb:Option Nat)(W:World):Calls Tryz.prog 72 #[.map mb] W fun e w'=>e=.returned (.func (.func 135) #[] #[.pointer (some ⟨W.heap.size,0,none⟩)])∧w'=W.alloc (.cells #[.map mb] 73):=by
 have h:=AnyZ.keys_in Tryz.keysA Fence.wide 5 trivial rfl mb W
 exact(callsIn_wide (n:=5)).1 h
theorem Xpw {w:World}{b n:Nat}{L:List (Str×Bool)}(h:Zm Yy w b n L)(hn:(L.map (·.1)).Nodup)(hsz:L.length≤1000000) :
  Calls Tryz.prog 71 #[.func (.func 135) #[] #[.pointer (some ⟨w.heap.size,0,none⟩)]] (w.alloc (.cells #[.map (some b)] 73)) fun e w' =>
   ∃v,e=.returned v∧Qt w' (w.heap.size+1) v (Mp (L.map (·.1)))∧Below (w.heap.size+1) (w.alloc (.cells #[.map (some b)] 73)) w':=by
 obtain⟨m,hown,hat⟩:=h
 have hp:=Zm.keys hown hat hn;have hlen:Maps.size m=L.length:=by
  obtain⟨es,rfl,_⟩:=hown.keysOf
  have:=hp.length_eq
  simp[strKeys]at this
  simp[Maps.size,this]
 have hbl:=hown.lt;have hseq:SeqGives Fence.wide 2 Tryz.prog 135 #[.pointer (some ⟨w.heap.size,0,none⟩)] encStr (fun ss=>ss.Perm (strKeys m)) (Maps.size m) (w.alloc (.cells #[.map (some b)] 73)) :=
  AnyZ.keys_gives (ρ:=Tryz.keysA_ren) { Tryz.keysA with } Fence.wide _ trivial rfl (by omega) w.heap.size b n m _ (by simp) (by simp) (by
   obtain⟨es,clock,hb,Ft,hs,hD⟩:=hown
   exact⟨es,clock,(Below.heap_alloc _ _ b hbl).trans hb,Ft,hs,hD⟩)
 have cS:=AnyZ.sorted_in Tryz.sortedA Fence.wide 5 trivial trivial trivial trivial rfl (by omega) (Xhw _) (enters_of Tryz.func133 (by kernel_rfl) rfl) 135 #[.pointer (some ⟨w.heap.size,0,none⟩)] trivial (enters_of Tryz.func135 (by kernel_rfl) rfl) _ _ (by rw[hlen];unfold maxLen;omega) (by rw[hlen];omega) _ hseq;change CallsIn _ _ Tryz.prog 71 _ _ _ at cS;have hs:(w.alloc (.cells #[.map (some b)] 73)).heap.size=w.heap.size+1:=by simp
 refine((callsIn_wide (n:=5)).1 cS).mono ?_
 rintro e w' ⟨v,ss,rfl,hS,hrow,hnil,hb⟩;rw[hs]at hrow hb
 refine⟨v,rfl,?_,hb⟩
 have hsrt:ss.mergeSort (fun x y=>decide (x≤y))=Mp (L.map (·.1)):=mergeSort_of_perm (hS.trans hp.symm);rw[hsrt]at hrow;have hl2:ss.length=(Mp (L.map (·.1))).length:=by unfold Mp;rw[List.length_mergeSort];exact(hS.trans hp.symm).length_eq
 exact Xh hrow hl2.symm rfl
theorem keysFV (mb:Option Nat)(W:World):Calls Tryz.prog 73 #[.map mb] W fun e w'=>e=.returned (.func (.func 136) #[] #[.pointer (some ⟨W.heap.size,0,none⟩)])∧w'=W.alloc (.cells #[.map mb] 98):=by
 have h:=AnyZ.keys_in Tryz.keysB Fence.wide 5 trivial rfl mb W
 exact(callsIn_wide (n:=5)).1 h
theorem sortedV {w:World}{b n:Nat}{L:List (Str×(Str×Int×Int))}(h:Zm Gm w b n L)(hn:(L.map (·.1)).Nodup)(hsz:L.length≤1000000) :
  Calls Tryz.prog 71 #[.func (.func 136) #[] #[.pointer (some ⟨w.heap.size,0,none⟩)]] (w.alloc (.cells #[.map (some b)] 98)) fun e w' =>
   ∃v,e=.returned v∧Qt w' (w.heap.size+1) v (Mp (L.map (·.1)))∧Below (w.heap.size+1) (w.alloc (.cells #[.map (some b)] 98)) w':=by
 obtain⟨m,hown,hat⟩:=h
 have hp:=Zm.keys hown hat hn;have hlen:Maps.size m=L.length:=by
  obtain⟨es,rfl,_⟩:=hown.keysOf
  have:=hp.length_eq
  simp[strKeys]at this
  simp[Maps.size,this]
 have hbl:=hown.lt;have hseq:SeqGives Fence.wide 2 Tryz.prog 136 #[.pointer (some ⟨w.heap.size,0,none⟩)] encStr (fun ss=>ss.Perm (strKeys m)) (Maps.size m) (w.alloc (.cells #[.map (some b)] 98)) :=
  AnyZ.keys_gives (ρ:=Tryz.keysB_ren) { Tryz.keysB with } Fence.wide _ trivial rfl (by omega) w.heap.size b n m _ (by simp) (by simp) (by
   obtain⟨es,clock,hb,Ft,hs,hD⟩:=hown
   exact⟨es,clock,(Below.heap_alloc _ _ b hbl).trans hb,Ft,hs,hD⟩)
 have cS:=AnyZ.sorted_in Tryz.sortedA Fence.wide 5 trivial trivial trivial trivial rfl (by omega) (Xhw _) (enters_of Tryz.func133 (by kernel_rfl) rfl) 136 #[.pointer (some ⟨w.heap.size,0,none⟩)] trivial (enters_of Tryz.func136 (by kernel_rfl) rfl) _ _ (by rw[hlen];unfold maxLen;omega) (by rw[hlen];omega) _ hseq;change CallsIn _ _ Tryz.prog 71 _ _ _ at cS;have hs:(w.alloc (.cells #[.map (some b)] 98)).heap.size=w.heap.size+1:=by simp
 refine((callsIn_wide (n:=5)).1 cS).mono ?_
 rintro e w' ⟨v,ss,rfl,hS,hrow,hnil,hb⟩;rw[hs]at hrow hb
 refine⟨v,rfl,?_,hb⟩
 have hsrt:ss.mergeSort (fun x y=>decide (x≤y))=Mp (L.map (·.1)):=mergeSort_of_perm (hS.trans hp.symm);rw[hsrt]at hrow;have hl2:ss.length=(Mp (L.map (·.1))).length:=by unfold Mp;rw[List.length_mergeSort];exact(hS.trans hp.symm).length_eq
 exact Xh hrow hl2.symm rfl
theorem Zlx {w:World} :
  Calls Tryz.prog 71 #[.func (.func 136) #[] #[.pointer (some ⟨w.heap.size,0,none⟩)]] (w.alloc (.cells #[.map none] 98)) fun e w' =>
   ∃v,e=.returned v∧Qt w' (w.heap.size+1) v []∧Below (w.heap.size+1) (w.alloc (.cells #[.map none] 98)) w':=by
 have hseq:SeqGives Fence.wide 2 Tryz.prog 136 #[.pointer (some ⟨w.heap.size,0,none⟩)] encStr (fun ss:List (List UInt8)=>ss=[]) 0 (w.alloc (.cells #[.map none] 98)) :=
  AnyZ.keys_gives_nil (ρ:=Tryz.keysB_ren) { Tryz.keysB with } Fence.wide _ trivial rfl w.heap.size _ (by simp) (Zxz w #[.map none] 98 0 (.map none) rfl)
 have cS:=AnyZ.sorted_in Tryz.sortedA Fence.wide 5 trivial trivial trivial trivial rfl (by omega) (Xhw _) (enters_of Tryz.func133 (by kernel_rfl) rfl) 136 #[.pointer (some ⟨w.heap.size,0,none⟩)] trivial (enters_of Tryz.func136 (by kernel_rfl) rfl) _ _ (by unfold maxLen;omega) (by omega) _ hseq;change CallsIn _ _ Tryz.prog 71 _ _ _ at cS;have hs:(w.alloc (.cells #[.map none] 98)).heap.size=w.heap.size+1:=by simp
 refine((callsIn_wide (n:=5)).1 cS).mono ?_
 rintro e w' ⟨v,ss,rfl,rfl,hrow,hnil,hb⟩;rw[hs]at hrow hb
 exact⟨v,rfl,Xh hrow rfl (by simp),hb⟩
end
section
open Go.RowKit Go.Lib Go.Sort Go.Maps Go.WideMaps
def Sl (r:Option Rw):Str:=(r.map (·.text)).getD []
def rFile (r:Option Rw):Int:=(r.map fun r=>(r.file:Int)).getD 0
def rAt (r:Option Rw):Int:=(r.map (·.at')).getD 0
theorem Zlj (k:Str)(hk:k.length≤maxLen)(W:World):(Instr.lookup 98 (.map none) (.string ⟨k.toArray⟩) true).run Tryz.prog W=.ok (.tuple #[.agg #[.string ⟨#[]⟩,.int .i64 0,.int .i64 0],.bool false]) W:=by
 simpa using Maps.look_nil (w:=W) true Ztv Tryz.underlying98 (show(zeroValue 137).run Tryz.prog W=.ok (.agg #[.string ⟨#[]⟩,.int .i64 0,.int .i64 0]) W by kernel_rfl) (Ef hk)
def rVal (r:Option Rw):Value:=.agg #[.string ⟨(Sl r).toArray⟩,.int .i64 (rFile r),.int .i64 (rAt r)]
theorem rVal_sd (l:Option Rw):Gm.v ((l.map Qhv).getD ([],0,0))=rVal l:=by cases l <;> rfl
theorem Zlk {V:World}{Pb:Nat}{a b c:Value}{q:Bool}(hr:V.heap[Pb]?=some (.cells #[a,b,c] 137 (0,0))){Q:Ending→World→Prop}{act:Act}(hd:act.defers=[])
  (h6:act.tmps.getD 6 undef=.pointer (some ⟨Pb,0,none⟩))(h7:act.tmps.getD 7 undef=.bool q)(hQ:Q (.returned (.tuple #[.agg #[a,b,c],.bool q])) V) :
  bodyPost Tryz.prog Tryz.f102 Q Exit.ret act V:=by
 obtain⟨e0,e1,e2,_⟩:=Qn hr
 refine bodyPost_ret (v:=.tuple #[.agg #[a,b,c],.bool q]) ?_ hd hQ
 obtain⟨tmps,defers⟩:=act
 simp only[Array.getD_eq_getD_getElem?]at h6 h7
 simp[results,Tryz.results102,go_sem,h6,h7,e0,e1,e2]
section
variable {w:World}{B0 Bt bv ba bn bp N:Nat}{V:List (Str × Nat)}{t:Tb}
theorem find_any (h:Yp B0 w Bt bv ba bn bp N V t)(loc path:Str)(hl:loc.length≤maxLen)(hp:path.length≤maxLen) :
  Calls Tryz.prog 102 #[.pointer (some ⟨Bt,0,none⟩),.string ⟨loc.toArray⟩,.string ⟨path.toArray⟩] w fun e w'=>e=.returned (.tuple #[rVal (Jk t.rows loc path),.bool (Jk t.rows loc path).isSome])∧Below w.heap.size w w':=by
 have HB1:=hid (bal w (.cells #[.string ⟨#[]⟩,.int .i64 0,.int .i64 0] 137));have F1:=hid (heap_alloc_new w (.cells #[.string ⟨#[]⟩,.int .i64 0,.int .i64 0] 137));have T1:=hid (h.below HB1.out)
 obtain⟨o,ho⟩:∃o,o=Zb V loc:=⟨_,rfl⟩
 have HO:=hid ho
 obtain⟨r,hr⟩:∃r,r=Jk t.rows loc path:=⟨_,rfl⟩
 have hrn:o=none→r=none:=by
  intro e;rw[hr,Wn];rintro x hx ⟨h1,_⟩
  obtain⟨q,hq,he⟩:=List.mem_map.1 (h.at_.has x hx)
  exact Pn.1 (ho.symm.trans e) q hq (he.trans h1)
 have HR:=hid hr;rw[←hr];clear ho hr h
 go_enter Tryz.func102,Tryz.ntmps102
 go_upto_region 1 with fail;generalize w.alloc (.cells #[.string ⟨#[]⟩,.int .i64 0,.int .i64 0] 137)=w1 at *
 obtain⟨t0,t1,t2,t3,tl⟩:=T1.out.box
 cases o with
 |none =>
  obtain rfl:=hrn rfl;have LN:=Zlj path hp
  go_upto_region 4 with (at_lookup;refine Yv (E:=Zdx) T1.out.at_.vals Tryz.underlying97 Em rfl _ _ rfl rfl loc rfl hl (.map none) (by rw[Pr,←HO.out];rfl) ?_)
  have HB2:=hid (bal w1 (.cells #[.string ⟨#[]⟩,.int .i64 0,.int .i64 0] 137));have F2:=hid (heap_alloc_new w1 (.cells #[.string ⟨#[]⟩,.int .i64 0,.int .i64 0] 137));generalize w1.alloc (.cells #[.string ⟨#[]⟩,.int .i64 0,.int .i64 0] 137)=w2 at *;have G2:=hid (bk HB2.out F1.out)
  obtain⟨x0,x1,x2,xl⟩:=Qn F2.out
  obtain⟨y0,y1,y2,yl⟩:=Qn G2.out
  obtain⟨z0,z1,z2⟩:=Dr G2.out
  go_wp2_with fail;exact Zlk (Pb:=w.heap.size) (q:=false) (Ws _ _ _ G2.out) rfl rfl rfl ⟨rfl,Cd _ _ _ (HB1.out.then HB2.out) (Nat.le_refl _)⟩
 |some bm =>
  have OM:=hid (T1.out.at_.each _ (Eb HO.out.symm));have LKM:=hid (show Zb (sdL (Kc t loc)) path=r.map Qhv by rw[Zvk,HR.out])
  obtain⟨rt,hrt⟩:∃x,x=Sl r:=⟨_,rfl⟩
  obtain⟨rf,hrf⟩:∃x,x=rFile r:=⟨_,rfl⟩
  obtain⟨ra,hra⟩:∃x,x=rAt r:=⟨_,rfl⟩
  have HV:=hid (show rVal r=.agg #[.string ⟨rt.toArray⟩,.int .i64 rf,.int .i64 ra]by rw[hrt,hrf,hra];rfl)
  obtain⟨q,hq⟩:∃q,q=r.isSome:=⟨_,rfl⟩
  have HQ:=hid hq;clear hrt hrf hra hq
  go_upto_region 4 with first
   |(at_lookup;refine Yv (E:=Zdx) T1.out.at_.vals Tryz.underlying97 Em rfl _ _ rfl rfl loc rfl hl (.map (some bm)) (by rw[Pr,←HO.out];rfl) ?_)
   |(at_lookup;refine Gk (E:=Gm) OM.out Tryz.underlying98 Qnq rfl _ _ rfl rfl path rfl hp (.agg #[.string ⟨rt.toArray⟩,.int .i64 rf,.int .i64 ra]) q (by rw[LKM.out,rVal_sd,HV.out]) (by rw[LKM.out,Option.isSome_map,HQ.out]) ?_)
  have HB2:=hid (bal w1 (.cells #[.string ⟨rt.toArray⟩,.int .i64 rf,.int .i64 ra] 137));have F2:=hid (heap_alloc_new w1 (.cells #[.string ⟨rt.toArray⟩,.int .i64 rf,.int .i64 ra] 137));generalize w1.alloc (.cells #[.string ⟨rt.toArray⟩,.int .i64 rf,.int .i64 ra] 137)=w2 at *;have G2:=hid (bk HB2.out F1.out)
  obtain⟨x0,x1,x2,xl⟩:=Qn F2.out
  obtain⟨y0,y1,y2,yl⟩:=Qn G2.out
  obtain⟨z0,z1,z2⟩:=Dr G2.out
  go_wp2_with fail;exact Zlk (Pb:=w.heap.size) (q:=q) (Ws _ _ _ G2.out) rfl rfl rfl ⟨by rw[HV.out,HQ.out],Cd _ _ _ (HB1.out.then HB2.out) (Nat.le_refl _)⟩
end
section
variable {w:World}{pt:Option Addr}{loc path:Str}{r:Option Rw}
theorem get_of (h:Calls Tryz.prog 102 #[.pointer pt,.string ⟨loc.toArray⟩,.string ⟨path.toArray⟩] w fun e w'=>e=.returned (.tuple #[rVal r,.bool r.isSome])∧Below w.heap.size w w') :
  Calls Tryz.prog 92 #[.pointer pt,.string ⟨loc.toArray⟩,.string ⟨path.toArray⟩] w fun e w'=>e=.returned (.tuple #[.string ⟨(Sl r).toArray⟩,.bool r.isSome])∧Below w.heap.size w w':=by
 simp only[rVal]at h;have H:=hid h;clear h;generalize Sl r=rt at *;generalize rFile r=rf at *;generalize rAt r=ra at *;generalize r.isSome=q at *
 go_enter Tryz.func92,Tryz.ntmps92
 go_wp2_with fail;refine H.out.mono ?_;rintro e w1 ⟨rfl,hb⟩;have HB:=hid hb;clear hb;go_upto_region 2 with fail;have HB2:=hid (bal w1 (.cells #[.string ⟨rt.toArray⟩,.int .i64 rf,.int .i64 ra] 137));have F2:=hid (heap_alloc_new w1 (.cells #[.string ⟨rt.toArray⟩,.int .i64 rf,.int .i64 ra] 137));generalize w1.alloc (.cells #[.string ⟨rt.toArray⟩,.int .i64 rf,.int .i64 ra] 137)=w2 at *
 obtain⟨x0,x1,x2,xl⟩:=Qn F2.out
 go_wp2_with fail;exact bodyPost_ret (v:=.tuple #[.string ⟨rt.toArray⟩,.bool q]) (by simp[results,Tryz.results92,go_sem]) rfl ⟨rfl,HB.out.then HB2.out⟩
end
section
variable {w:World}{B0 Bt bv ba bn bp N:Nat}{V:List (Str × Nat)}{t:Tb}
theorem get_any (h:Yp B0 w Bt bv ba bn bp N V t)(loc path:Str)(hl:loc.length≤maxLen)(hp:path.length≤maxLen) :
  Calls Tryz.prog 92 #[.pointer (some ⟨Bt,0,none⟩),.string ⟨loc.toArray⟩,.string ⟨path.toArray⟩] w fun e w'=>e=.returned (.tuple #[.string ⟨(Sl (Jk t.rows loc path)).toArray⟩,.bool (Jk t.rows loc path).isSome])∧Below w.heap.size w w':=get_of (find_any h loc path hl hp)
end
end
section
open Go.RowKit Go.Lib Go.Sort Go.Maps Go.WideMaps
theorem row_mono {W:World}{B C n k:Nat}{e:TypeId}{v:Value}{xs:List Value}(h:W.ownsRow B e k v n xs)(hc:C≤B):W.ownsRow C e k v n xs:=by
 unfold World.ownsRow at *
 refine⟨h.1,?_⟩
 rcases h.2 with h|⟨g,cap,cur,h1,h2,h3⟩
 ·exact Or.inl h
 ·exact Or.inr ⟨g,cap,cur,h1,Nat.le_trans hc h2,h3⟩
theorem Zlv (l:List Rw):(sdL l).map (·.1)=l.map (·.path):=by unfold sdL;rw[List.map_map];rfl
def Kv (t:Tb)(loc:Str):List Str:=Mp ((Kc t loc).map (·.path))
theorem Qnj {t:Tb}(ok:Fx t)(loc:Str):((Kc t loc).map (·.path)).Nodup:=by
 have h:=ok.rows;rw[List.Nodup,List.pairwise_map]at h;rw[List.Nodup,List.pairwise_map,Kc]
 refine(List.Pairwise.filter _ h).imp_of_mem fun {a b} ha hb hne e=>hne ?_
 have h1:=(List.mem_filter.1 ha).2;have h2:=(List.mem_filter.1 hb).2;simp only[beq_iff_eq]at h1 h2;rw[h1,h2,e]
theorem rows_le {t:Tb}(ok:Fx t)(loc:Str):(Kc t loc).length≤16384:=by
 have:=Dp ((Kc t loc).map (·.path)) t.paths (Qnj ok loc) (fun x hx=>by
  obtain⟨r,hr,rfl⟩:=List.mem_map.1 hx
  exact ok.rp r (List.mem_filter.1 hr).1)
 rw[List.length_map]at this;exact Nat.le_trans this ok.p16
def Xhy (w:World)(l:List Str)(e:Ending)(w':World):Prop:=∃v,e=.returned v∧Qt w' w.heap.size v l∧Below w.heap.size w w'
theorem Mw {w w1 w':World}{l:List Str}{v:Value}(h1:w1.heap.size=w.heap.size+1)(hb1:Below w.heap.size w w1)(ho:Qt w' (w.heap.size+1) v l)(hb:Below (w.heap.size+1) w1 w'):Xhy w l (.returned v) w' :=
 ⟨v,rfl,row_mono ho (Nat.le_succ _),hb1.trans (hb.mono (Nat.le_succ _))⟩
section
variable {w:World}{B0 Bt bv ba bn bp N:Nat}{V:List (Str × Nat)}{t:Tb}
theorem Zlw (h:Yp B0 w Bt bv ba bn bp N V t)(ok:Fx t) :
  Calls Tryz.prog 120 #[.pointer (some ⟨Bt,0,none⟩)] w fun e w'=>Xhy w (Mp t.names) e w':=by
 have KC:=hid (keysFN (some bn) w);have SC:=hid (Xpw h.at_.names (by rw[Hm];exact ok.names) (by unfold Jw;rw[List.length_map];have:=ok.n512;omega));rw[Hm]at SC;have HB1:=hid (bal w (.cells #[.map (some bn)] 73));have HZ1:=hid (show(w.alloc (.cells #[.map (some bn)] 73)).heap.size=w.heap.size+1 by simp)
 obtain⟨t0,t1,t2,t3,tl⟩:=h.box
 clear h
 go_enter Tryz.func120,Tryz.ntmps120
 go_wp2_with fail;refine KC.out.mono ?_;rintro e w1 ⟨rfl,rfl⟩;go_wp2_with fail;refine SC.out.mono ?_;rintro e w2 ⟨v,rfl,ho,hb⟩;have HO:=hid (Mw HZ1.out HB1.out ho hb);clear ho hb;go_wp2_with fail;exact bodyPost_ret (v:=v) (by simp[results,Tryz.results120,go_sem]) rfl HO.out
theorem paths_any (h:Yp B0 w Bt bv ba bn bp N V t)(ok:Fx t)(loc:Str)(hl:loc.length≤maxLen) :
  Calls Tryz.prog 28 #[.pointer (some ⟨Bt,0,none⟩),.string ⟨loc.toArray⟩] w fun e w'=>Xhy w (Kv t loc) e w':=by
 obtain⟨t0,t1,t2,t3,tl⟩:=h.box
 have HVAL:=hid h.at_.vals
 cases hlk:Zb V loc with
 |some bm =>
  have KC:=hid (keysFV (some bm) w);have SC:=hid (sortedV (h.at_.each _ (Eb hlk)) (by rw[Zlv];exact Qnj ok loc) (by unfold sdL;rw[List.length_map];have:=rows_le ok loc;simp only;omega));rw[Zlv]at SC;change Hid (Calls _ _ _ _ fun e w'=>∃v,e=Ending.returned v∧Qt w' (w.heap.size+1) v (Kv t loc)∧_)at SC;generalize Kv t loc=ps at *;have HB1:=hid (bal w (.cells #[.map (some bm)] 98));have HZ1:=hid (show(w.alloc (.cells #[.map (some bm)] 98)).heap.size=w.heap.size+1 by simp);have HLK:=hid hlk;clear h hlk
  go_enter Tryz.func28,Tryz.ntmps28
  go_wp2_with (at_lookup;refine Yv (E:=Zdx) HVAL.out Tryz.underlying97 Em rfl _ _ rfl rfl loc rfl hl (.map (some bm)) (by rw[Pr,HLK.out];rfl) ?_)
  refine KC.out.mono ?_;rintro e w1 ⟨rfl,rfl⟩;go_wp2_with fail;refine SC.out.mono ?_;rintro e w2 ⟨v,rfl,ho,hb⟩;have HO:=hid (Mw HZ1.out HB1.out ho hb);clear ho hb;go_wp2_with fail;exact bodyPost_ret (v:=v) (by simp[results,Tryz.results28,go_sem]) rfl HO.out
 |none =>
  have KC:=hid (keysFV none w);have SC:=hid (Zlx (w:=w));have HP:=hid (show Kv t loc=[] by
   unfold Kv;rw[show Kc t loc=[] by
    unfold Kc;rw[List.filter_eq_nil_iff];intro r hr e
    obtain⟨q,hq,he⟩:=List.mem_map.1 (h.at_.has r hr)
    exact Pn.1 hlk q hq (he.trans (by simpa using e))]
   simp[Mp])
  generalize Kv t loc=ps at *;have HB1:=hid (bal w (.cells #[.map none] 98));have HZ1:=hid (show(w.alloc (.cells #[.map none] 98)).heap.size=w.heap.size+1 by simp);have HLK:=hid hlk;clear h hlk
  go_enter Tryz.func28,Tryz.ntmps28
  go_wp2_with (at_lookup;refine Yv (E:=Zdx) HVAL.out Tryz.underlying97 Em rfl _ _ rfl rfl loc rfl hl (.map none) (by rw[Pr,HLK.out];rfl) ?_)
  refine KC.out.mono ?_;rintro e w1 ⟨rfl,rfl⟩;go_wp2_with fail;refine SC.out.mono ?_;rintro e w2 ⟨v,rfl,ho,hb⟩;have HO:=hid (Mw HZ1.out HB1.out ho hb);clear ho hb;go_wp2_with fail;exact bodyPost_ret (v:=v) (by simp[results,Tryz.results28,go_sem]) rfl (by rw[HP.out];exact HO.out)
end
end
end Go.Proofs.YtbbmdbolkicpcabGreatDoor
