/- PtPutG, PtRest, PtRestB, PtJoin, PtFind, InhW, InhRefP, RTake -/
import Derived.Test.YtbbmdbolkicpcabGreatDoorSDG11
import Derived.Test.YtbbmdbolkicpcabGreatDoorSDG08
import Derived.Test.YtbbmdbolkicpcabGreatDoorSDG04
import Derived.Test.YtbbmdbolkicpcabGreatDoorSDG07
import Derived.Test.YtbbmdbolkicpcabGreatDoorSDG06
import Derived.Deep.RegionHeld3
set_option maxRecDepth 100000
set_option maxHeartbeats 32000000
set_option linter.unusedVariables false
set_option linter.unusedSimpArgs false
namespace Go.Proofs.YtbbmdbolkicpcabGreatDoor
section
open Go.RowKit Go.Lib
def Ub (m:List Stp):Str:=(Zw m).getD []
def Rn (m:List Stp):Nat:=if(Zw m).isSome then 0 else 3
theorem put_ok {m:List Stp}(hm:∀x∈m,Kr x=true)(h1:m.length≤64)(h2:m.all Gx=true)(h3:szS m≤513):Zw m=some (Zk m):=by
 have hj:(Zk m).length≤512:=by
  cases m with
  |nil=>simp[Zk]
  |cons x r=>have:=Et (x::r) (by simp);omega
 unfold Zw;rw[if_pos];simp only[Bool.and_eq_true,List.all_eq_true,decide_eq_true_eq]
 exact⟨⟨⟨hm,List.all_eq_true.1 h2⟩,h1⟩,hj⟩
theorem put_no {m:List Stp}(h:¬(m.length≤64∧m.all Gx=true∧szS m≤513)):Zw m=none:=by
 cases e:Zw m with
 |none=>rfl
 |some t =>
  obtain⟨h1,h2,h3,_⟩:=Tk e
  exact absurd ⟨h2,List.all_eq_true.2 (fun x hx=>(h1 x hx).2),Rq h3⟩ h
theorem all_take1 {α:Type}{p:α→Bool}{m:List α}{k:Nat}(h:k<m.length):(m.take (k+1)).all p=((m.take k).all p&&p (m[k]'h)):=by
 rw[List.take_succ_eq_append_getElem h,List.all_append];simp
theorem Xqv (w:World)(va:Value)(ls:List (List (Stp×(Option Addr×Nat))))(hr:RdLs w va ls)(hk:∀z∈ls.flatten,RdP w (Qr z) z.1.2)(hl:ls.length≤1000000)(hm:∀z∈ls.flatten,Kr z.1=true∧(Qp z.1).length≤1073741824)(hz:ls.flatten.length≤1000000000) :
  Calls Tryz.prog 87 #[va] w fun e w'=>e=.returned (.tuple #[.string ⟨(Ub (ls.flatten.map (·.1))).toArray⟩,.int .i64 (Rn (ls.flatten.map (·.1)))])∧Below w.heap.size w w':=by
 have CC:=hid (Qrq w va ls hr hl hz);have HK:=hid hk;have HM:=hid hm;have HZ:=hid hz;clear hr hk hm hz hl
 obtain⟨zs,hzs⟩:∃zs,zs=ls.flatten:=⟨_,rfl⟩
 rw[←hzs]at CC HK HM HZ ⊢;clear hzs;have HML:=hid (show(zs.map (·.1)).length=zs.length from List.length_map _);have hzl:(zs.length:Int)≤1000000000:=by have h1:=HZ.out;omega
 have HMM:=hid (show ∀x∈zs.map (·.1),Kr x=true from by
  intro x hx
  obtain⟨z,hz,rfl⟩:=List.mem_map.1 hx
  exact(HM.out z hz).1)
 have HDL:=hid (show decide ((zs.length:Int)≤64)=decide (zs.length≤64)from decide_eq_decide.2 (by omega))
 go_enter Tryz.func87,Tryz.ntmps87
 go_wp2_with (go_at_call 148;refine CC.out.mono ?_;rintro e w1 ⟨v1,rfl,o1,hb1⟩;have O1:=hid o1;have B1:=hid hb1;clear CC hb1;obtain⟨a1,c1,rfl,hc1⟩:=o1.slice;clear o1)
 go_loopg[5,6,7,20] zs.length (fun g v5 v6 v7 v20 W=>∃(k S:Nat) (T:List Str),k≤zs.length∧zs.length≤k+g∧v5=.bool (decide (zs.length≤64)&&((zs.map (·.1)).take k).all Gx)∧v6=.int .i64 S∧v20=.int .i64 k∧T.length≤S∧S≤1073742500∧(S≤513→S=szS ((zs.map (·.1)).take k)∧T=((zs.map (·.1)).take k).map Qp)∧(513<S→513<szS ((zs.map (·.1)).take k))∧T.length≤514∧Qt W w.heap.size v7 T∧Qg Qm 82 W w.heap.size (.slice a1 zs.length c1) zs∧Below w.heap.size w W)
 case atStart=>exact⟨0,0,[],Nat.zero_le _,by omega,by rw[List.take_zero,List.all_nil,Bool.and_true];first|rfl|(rw[←HDL.out];done)|(rw[HDL.out];done),rfl,rfl,by simp,by omega,fun _=>⟨rfl,rfl⟩,fun h=>by omega,by simp,⟨rfl,Or.inl ⟨rfl,rfl⟩⟩,O1.out,B1.out⟩
 case round =>
  obtain⟨k,S,T,hk,hg,rfl,rfl,rfl,htl,hsz,hs1,hs2,ht5,os,oz,hb⟩:=hrel
  rename World=>w2
  have HG:=hid hg;have OS:=hid os;have OZ:=hid oz;have B2:=hid hb;have HTL5:=hid ht5;have HTLS:=hid htl;have HSZ:=hid hsz;have HS1:=hid hs1;have HS2:=hid hs2;clear hg os oz hb O1 B1 htl hsz hs1 hs2 ht5;have hS0:(0:Int)≤(S:Int):=by omega
  have hS1:(S:Int)≤1073742500:=by have:=HSZ.out;omega
  by_cases hlt:k<zs.length
  ·have hni:(k:Int)<(zs.length:Int):=by omega
   have hn0:(0:Int)≤(k:Int):=by omega
   have hltm:k<(zs.map (·.1)).length:=by rw[HML.out];exact hlt
   have hmk:(zs.map (·.1))[k]'hltm=(zs[k]'hlt).1:=List.getElem_map _;have HST:=hid (Qrz hltm);have HTT:=hid (Zwv hltm);have HAT:=hid (all_take1 (p:=Gx) hltm);have HTL:=hid (HM.out (zs[k]'hlt) (List.getElem_mem hlt)).2;have HMB:=hid (HMM.out ((zs.map (·.1))[k]'hltm) (List.getElem_mem hltm));have hkeys:=HK.out (zs[k]'hlt) (List.getElem_mem hlt);rw[hmk]at HST HTT HMB HAT
   obtain⟨g,rfl⟩:=Qg.some' OZ.out (by intro e;rw[e]at hlt;simp at hlt)
   obtain⟨r0,_,gl⟩:=OZ.out.cell k 0 (.string ⟨((zs[k]'hlt).1.1).toArray⟩) hlt rfl
   obtain⟨r1,_,_⟩:=OZ.out.cell k 1 (Qr (zs[k]'hlt)) hlt rfl
   rw[Nat.add_zero]at r0;generalize zs[k]'hlt=z at *
   obtain⟨⟨nm,ks⟩,az,cz⟩:=z
   simp only[Qr]at r0 r1 hkeys HST HTT HTL HMB HAT;have HA5:=hid (bal w2 (.cells #[.string ⟨nm.toArray⟩,.slice az ks.length cz] 82));have F5:=hid (heap_alloc_new w2 (.cells #[.string ⟨nm.toArray⟩,.slice az ks.length cz] 82));clear hmk;go_upto_region 8 with fail;generalize w2.alloc (.cells #[.string ⟨nm.toArray⟩,.slice az ks.length cz] 82)=w5 at *
   obtain⟨y0,y1,_,_,yl⟩:=Qq F5.out
   have B5:=hid (B2.out.then HA5.out);have OS5:=hid (show Qt w5 w.heap.size _ _ from Qz OS.out HA5.out);have OZ5:=hid (OZ.out.below HA5.out);have RK5:=hid (show RdP w5 (.slice az ks.length cz) ks from hkeys.below B5.out);clear HA5 OS OZ B2 hkeys r0 r1 gl;generalize w2.heap.size=Sb at *;have MY:=hid (Xqx w5 (nm,ks) (.slice az ks.length cz) RK5.out HMB.out (by have:=HTL.out;omega));generalize Gx (nm,ks)=fb at *;generalize hsv:(decide (zs.length≤64)&&((zs.map (·.1)).take k).all Gx)=sv at *;have HSV:=hid hsv;clear hsv;have HNS:=hid (show(decide (zs.length≤64)&&((zs.map (·.1)).take (k+1)).all Gx)=(sv&&fb)from by rw[HAT.out,←HSV.out,Bool.and_assoc]);go_wp2_with fail;refine MY.out.mono ?_;rintro e w6 ⟨rfl,hb6⟩;have F6:=hid (bk hb6 F5.out);have B6:=hid (B5.out.then hb6);have OS6:=hid (show Qt w6 w.heap.size _ _ from Qz OS5.out hb6);have OZ6:=hid (OZ5.out.below hb6);have RK6:=hid (RK5.out.below hb6);clear hb6 y0 y1 yl F5 B5 OS5 OZ5 RK5 MY
   obtain⟨y0,y1,_,_,yl⟩:=Qq F6.out
   cases sv with
   |true =>
    have TX:=hid (Qxk w6 (nm,ks) (.slice az ks.length cz) RK6.out (by have:=HTL.out;omega));go_wp2_with fail;refine TX.out.mono ?_;rintro e w7 ⟨rfl,hb7⟩;have B7:=hid (B6.out.then hb7);have OS7:=hid (show Qt w7 w.heap.size _ _ from Qz OS6.out hb7);have OZ7:=hid (OZ6.out.below hb7);clear hb7 y0 y1 yl F6 B6 OS6 OZ6 RK6 TX;generalize htx:Qp (nm,ks)=tx at *;have htx1:(tx.length:Int)≤1073741824:=by have:=HTL.out;omega
    have htx0:(0:Int)≤(tx.length:Int):=by omega
    have HZ7:=hid B7.out.size;have HAB:=hid (bal w7 (.cells #[.string ⟨tx.toArray⟩] 9))
    by_cases hs5:S≤513
    ·have hsi:(S:Int)≤513:=by omega
     obtain⟨hq1,hq2⟩:=HS1.out hs5
     have HQ1:=hid hq1;have HQ2:=hid hq2;clear hq1 hq2
     go_wp2_with (at_builtin;refine Zz rfl (.tmp 39) (.tmp 41) rfl w.heap.size _ T tx rfl OS7.out rfl (by have:=HTL5.out;omega) HZ7.out ?_;intro v8 w8 own gr mv;have OS8:=hid (show Qt w8 w.heap.size v8 (T++[tx])from own);have OZ8:=hid (show Qg Qm 82 w8 w.heap.size _ zs from World.ownsRow.kept OZ7.out gr (Kd OZ7.out OS7.out (by decide)));have B8:=hid (B7.out.grown gr HZ7.out (fun k hk=>(World.ownsRow.lt OS7.out k hk).1));clear own gr mv)
     go_wp2_with fail
     go_roundg (gk-1)
     case measure=>have:=HG.out;omega
     case rel=>exact⟨k+1,S+(tx.length+1),T++[tx],by omega,by have:=HG.out;omega,by rw[HNS.out];rfl,by simp,by simp,by have:=HTLS.out;simp;omega,by omega,fun _=>⟨by rw[HST.out,←HQ1.out],by rw[HTT.out,←HQ2.out]⟩,fun _=>by rw[HST.out,←HQ1.out];omega,by have:=HTLS.out;simp;omega,OS8.out,OZ8.out,B8.out⟩
    ·have hsi:¬(S:Int)≤513:=by omega
     have HQ3:=hid (HS2.out (by omega));go_wp2_with fail
     go_roundg (gk-1)
     case measure=>have:=HG.out;omega
     case rel=>exact⟨k+1,S,T,by omega,by have:=HG.out;omega,by rw[HNS.out];rfl,rfl,by simp,HTLS.out,HSZ.out,fun h=>absurd h hs5,fun _=>by rw[HST.out];have:=HQ3.out;omega,HTL5.out,OS7.out,OZ7.out,B7.out⟩
   |false =>
    have TX:=hid (Qxk w6 (nm,ks) (.slice az ks.length cz) RK6.out (by have:=HTL.out;omega));go_wp2_with fail;refine TX.out.mono ?_;rintro e w7 ⟨rfl,hb7⟩;have B7:=hid (B6.out.then hb7);have OS7:=hid (show Qt w7 w.heap.size _ _ from Qz OS6.out hb7);have OZ7:=hid (OZ6.out.below hb7);clear hb7 y0 y1 yl F6 B6 OS6 OZ6 RK6 TX;generalize htx:Qp (nm,ks)=tx at *;have htx1:(tx.length:Int)≤1073741824:=by have:=HTL.out;omega
    have htx0:(0:Int)≤(tx.length:Int):=by omega
    have HZ7:=hid B7.out.size;have HAB:=hid (bal w7 (.cells #[.string ⟨tx.toArray⟩] 9))
    by_cases hs5:S≤513
    ·have hsi:(S:Int)≤513:=by omega
     obtain⟨hq1,hq2⟩:=HS1.out hs5
     have HQ1:=hid hq1;have HQ2:=hid hq2;clear hq1 hq2
     go_wp2_with (at_builtin;refine Zz rfl (.tmp 39) (.tmp 41) rfl w.heap.size _ T tx rfl OS7.out rfl (by have:=HTL5.out;omega) HZ7.out ?_;intro v8 w8 own gr mv;have OS8:=hid (show Qt w8 w.heap.size v8 (T++[tx])from own);have OZ8:=hid (show Qg Qm 82 w8 w.heap.size _ zs from World.ownsRow.kept OZ7.out gr (Kd OZ7.out OS7.out (by decide)));have B8:=hid (B7.out.grown gr HZ7.out (fun k hk=>(World.ownsRow.lt OS7.out k hk).1));clear own gr mv)
     go_wp2_with fail
     go_roundg (gk-1)
     case measure=>have:=HG.out;omega
     case rel=>exact⟨k+1,S+(tx.length+1),T++[tx],by omega,by have:=HG.out;omega,by rw[HNS.out];rfl,by simp,by simp,by have:=HTLS.out;simp;omega,by omega,fun _=>⟨by rw[HST.out,←HQ1.out],by rw[HTT.out,←HQ2.out]⟩,fun _=>by rw[HST.out,←HQ1.out];omega,by have:=HTLS.out;simp;omega,OS8.out,OZ8.out,B8.out⟩
    ·have hsi:¬(S:Int)≤513:=by omega
     have HQ3:=hid (HS2.out (by omega));go_wp2_with fail
     go_roundg (gk-1)
     case measure=>have:=HG.out;omega
     case rel=>exact⟨k+1,S,T,by omega,by have:=HG.out;omega,by rw[HNS.out];rfl,rfl,by simp,HTLS.out,HSZ.out,fun h=>absurd h hs5,fun _=>by rw[HST.out];have:=HQ3.out;omega,HTL5.out,OS7.out,OZ7.out,B7.out⟩
  ·have hni:¬(k:Int)<(zs.length:Int):=by omega
   have hkn:k=zs.length:=by omega
   have HTA:=hid (show(zs.map (·.1)).take k=zs.map (·.1)by rw[hkn,←HML.out];exact List.take_length);rw[HTA.out]at HS1 HS2 ⊢
   by_cases hgood:(zs.length≤64∧(zs.map (·.1)).all Gx=true∧szS (zs.map (·.1))≤513)
   ·obtain⟨g1,g2,g3⟩:=hgood
    have hs5:S≤513:=by
     rcases Nat.lt_or_ge 513 S with h|h
     ·have:=HS2.out h;omega
     ·exact h
    obtain⟨rfl,rfl⟩:=HS1.out hs5
    have HP:=hid (put_ok HMM.out (by rw[HML.out];exact g1) g2 g3);have JN:=hid (Xqj w2 w.heap.size _ _ OS.out (by have:=HTL5.out;omega) (by rw[Cn];have h5:=(Tk HP.out).2.2.1;omega));rw[Cn]at JN;have HPT:=hid (show Ub (zs.map (·.1))=Zk (zs.map (·.1))by rw[Ub,HP.out];rfl);have HPE:=hid (show Rn (zs.map (·.1))=0 by rw[Rn,HP.out];rfl);rw[g2];have hd:decide (zs.length≤64)=true:=decide_eq_true g1;rw[hd];generalize szS (zs.map (·.1))=S at *;have hS5:(S:Int)≤513:=by omega
    have hS2:(S:Int)-1≤512:=by omega
    go_wp2_with (go_at_call 151;refine JN.out.mono ?_;rintro e w9 ⟨rfl,hb9⟩;have B9:=hid (B2.out.then hb9);clear hb9)
    exact bodyPost_ret (by rw[HPT.out,HPE.out];simp[results,Tryz.results87,go_sem]) rfl ⟨rfl,B9.out⟩
   ·have HP:=hid (put_no (m:=zs.map (·.1)) (by rw[HML.out];exact hgood));have HPT:=hid (show Ub (zs.map (·.1))=[]by rw[Ub,HP.out];rfl);have HPE:=hid (show Rn (zs.map (·.1))=3 by rw[Rn,HP.out];rfl)
    cases hsv:(decide (zs.length≤64)&&(zs.map (·.1)).all Gx) with
    |false =>
     go_wp2_with fail;exact bodyPost_ret (by rw[HPT.out,HPE.out];simp[results,Tryz.results87,go_sem]) rfl ⟨rfl,B2.out⟩
    |true =>
     have h513:513<S:=by
      rcases Nat.lt_or_ge 513 S with h|h
      ·exact h
      ·rw[Bool.and_eq_true,decide_eq_true_eq]at hsv;exact absurd ⟨hsv.1,hsv.2,by rw[←(HS1.out h).1];exact h⟩ hgood
     have hS2:¬(S:Int)-1≤512:=by omega
     have hS3:(512:Int)<(S:Int)-1:=by omega
     go_wp2_with fail;exact bodyPost_ret (by rw[HPT.out,HPE.out];simp[results,Tryz.results87,go_sem]) rfl ⟨rfl,B2.out⟩
end
section
open Go.RowKit Go.Lib
theorem Mr.cells {w:World}{v:Value}{l:List Stp}(h:Mr w v l):∃ao cp,v=.slice ao l.length cp∧l.length≤cp∧l.length≤9223372036854775807∧∀n (hn:n<l.length),∃p o kv,ao=some ⟨p,o,none⟩∧p<w.heap.size ∧
  w.cell? ⟨p,o+n * 2,none⟩=some (.string ⟨(l[n]'hn).1.toArray⟩)∧w.cell? ⟨p,o+n * 2+1,none⟩=some kv∧RdP w kv (l[n]'hn).2:=by
 obtain⟨zs,rfl,⟨ao,cp,rfl,⟨h1,h2,h3⟩,hc⟩,hk⟩:=h
 have hlen:(zs.map (·.1)).length=zs.length:=List.length_map _
 refine⟨ao,cp,by rw[hlen],by rw[hlen];exact h1,by rw[hlen];exact h2,fun n hn0=>?_⟩
 have hn:n<zs.length:=by rw[←hlen];exact hn0
 obtain⟨p,o,ha,hp,hx⟩:=hc (by rintro rfl;simp at hn)
 have:=hk (zs[n]'hn) (List.getElem_mem hn)
 refine⟨p,o,Qr (zs[n]'hn),ha,hp,?_,?_,?_⟩
 ·rw[List.getElem_map];exact hx n 0 _ hn rfl
 ·exact hx n 1 _ hn rfl
 ·rw[List.getElem_map];exact this
theorem rest1_any (w:World)(x y:Stp)(kx ky:Value)(hx:RdP w kx x.2)(hy:RdP w ky y.2) :
  Calls Tryz.prog 168 #[.agg #[.string ⟨x.1.toArray⟩,kx],.agg #[.string ⟨y.1.toArray⟩,ky]] w fun e w'=>e=.returned (.bool (decide (x=y)))∧Below w.heap.size w w':=by
 obtain⟨n,ks⟩:=x
 obtain⟨m,js⟩:=y
 simp only at hx hy ⊢;have HX:=hid hx;have HY:=hid hy
 obtain⟨a1,c1,rfl,_⟩:=Xm hx
 obtain⟨a2,c2,rfl,_⟩:=Xm hy
 have HB2:=hid (show Below w.heap.size w ((w.alloc (.cells #[.string ⟨n.toArray⟩,.slice a1 ks.length c1] 82)).alloc (.cells #[.string ⟨m.toArray⟩,.slice a2 js.length c2] 82))from Px w _ _);have G2:=hid (show((w.alloc (.cells #[.string ⟨n.toArray⟩,.slice a1 ks.length c1] 82)).alloc (.cells #[.string ⟨m.toArray⟩,.slice a2 js.length c2] 82)).heap[w.heap.size]?=some (.cells #[.string ⟨n.toArray⟩,.slice a1 ks.length c1] 82 (0,0)) from(Below.heap_alloc _ _ _ (lt_of_block (heap_alloc_new w _))).trans (heap_alloc_new w _));have F2:=hid (show((w.alloc (.cells #[.string ⟨n.toArray⟩,.slice a1 ks.length c1] 82)).alloc (.cells #[.string ⟨m.toArray⟩,.slice a2 js.length c2] 82)).heap[w.heap.size+1]?=some (.cells #[.string ⟨m.toArray⟩,.slice a2 js.length c2] 82 (0,0))from by
  have:=heap_alloc_new (w.alloc (.cells #[.string ⟨n.toArray⟩,.slice a1 ks.length c1] 82)) (.cells #[.string ⟨m.toArray⟩,.slice a2 js.length c2] 82)
  rw[show(w.alloc (.cells #[.string ⟨n.toArray⟩,.slice a1 ks.length c1] 82)).heap.size=w.heap.size+1 by simp]at this;exact this)
 clear hx hy
 go_enter Tryz.func168,Tryz.ntmps168
 go_upto_region 1 with fail;generalize (w.alloc (.cells #[.string ⟨n.toArray⟩,.slice a1 ks.length c1] 82)).alloc (.cells #[.string ⟨m.toArray⟩,.slice a2 js.length c2] 82)=w2 at *;have EQ:=hid (Xcx w2 _ _ ks js (HX.out.below HB2.out) (HY.out.below HB2.out));clear HX HY
 obtain⟨x0,x1,_,_,xl⟩:=Qq G2.out
 obtain⟨y0,y1,_,_,yl⟩:=Qq F2.out
 by_cases hnm:n=m
 ·have hb:(n==m)=true:=by rw[hnm];exact beq_self_eq_true _
  have hsub:=hid hnm;have HD:=hid (show decide (ks=js)=decide ((n,ks)=(m,js))by subst hnm;simp);clear hnm
  go_wp2_with (go_at_call 169;refine EQ.out.mono ?_;rintro e w3 ⟨rfl,hb3⟩;have B3:=hid (HB2.out.then hb3);clear hb3)
  exact bodyPost_ret (v:=.bool (decide (ks=js))) (by simp[results,Tryz.results168,go_sem]) rfl ⟨by rw[HD.out],B3.out⟩
 ·have hb:(n==m)=false:=beq_eq_false_iff_ne.2 hnm;have HD:=hid (show decide ((n,ks)=(m,js))=false from decide_eq_false (fun e=>hnm (Prod.mk.inj e).1));go_wp2_with fail;exact bodyPost_ret (v:=.bool false) (by simp[results,Tryz.results168,go_sem]) rfl ⟨by rw[HD.out],HB2.out⟩
theorem Xgx (w:World)(v1 v2:Value)(l m:List Stp)(h1:Mr w v1 l)(h2:Mr w v2 m)(hl:l.length=m.length)(h64:m.length≤1000) :
  Calls Tryz.prog 167 #[v1,v2,.func (.func 168) #[] #[]] w fun e w'=>e=.returned (.bool (decide (l=m)))∧Below w.heap.size w w':=by
 obtain⟨a1,c1,rfl,_,_,hc1⟩:=h1.cells
 obtain⟨a2,c2,rfl,_,_,hc2⟩:=h2.cells
 have HC1:=hid hc1;have HC2:=hid hc2;have HL:=hid hl;clear hc1 hc2 h1 h2;have hlz:(m.length:Int)≤1000:=by omega
 rw[hl];have hne:((m.length:Int) != (m.length:Int))=false:=by simp
 go_enter Tryz.func167,Tryz.ntmps167
 go_wp2_with fail
 go_loopg[17] m.length (fun g v17 W=>∃k:Nat,k≤m.length∧m.length≤k+g∧v17=.int .i64 k∧l.take k=m.take k∧Below w.heap.size w W)
 case atStart=>exact⟨0,Nat.zero_le _,by omega,rfl,rfl,Below.refl _ _⟩
 case round =>
  obtain⟨k,hk,hg,rfl,heq,hb⟩:=hrel
  rename World=>w2
  have HG:=hid hg;have HE:=hid heq;have B2:=hid hb;clear hg heq hb
  by_cases hlt:k<l.length
  ·have hni2:(k:Int)<(m.length:Int):=by omega
   have hn0:(0:Int)≤(k:Int):=by omega
   have hltm:k<m.length:=by omega
   obtain⟨p,o,kx,rfl,hp,q0,q1,hx⟩:=HC1.out k hlt
   obtain⟨p',o',ky,rfl,hp',s0,s1,hy⟩:=HC2.out k hltm
   have r0:=(B2.out.cell (p:=⟨p,o+k * 2,none⟩) hp).trans q0;have r1:=(B2.out.cell (p:=⟨p,o+k * 2+1,none⟩) hp).trans q1;have hp2:p<w2.heap.size:=Nat.lt_of_lt_of_le hp B2.out.size;have HX:=hid (hx.below B2.out);have HTL:=hid (List.take_succ_eq_append_getElem hlt);have HTM:=hid (List.take_succ_eq_append_getElem hltm);have HEX:=hid (show l=m→l[k]'hlt=m[k]'hltm from fun e=>by subst e;rfl);generalize l[k]'hlt=x at *;generalize m[k]'hltm=y at *
   obtain⟨n,ks⟩:=x
   obtain⟨n',js⟩:=y
   simp only at r0 r1 s0 s1 HX hy;have HA3:=hid (bal w2 (.cells #[.string ⟨n.toArray⟩,kx] 82));have F3:=hid (heap_alloc_new w2 (.cells #[.string ⟨n.toArray⟩,kx] 82))
   obtain⟨ax,cx,rfl,_⟩:=Xm hx
   obtain⟨ay,cy,rfl,_⟩:=Xm hy
   go_upto_region 6 with fail;generalize w2.alloc (.cells #[.string ⟨n.toArray⟩,.slice ax ks.length cx] 82)=w3 at *;have B3:=hid (B2.out.then HA3.out);have t0:=(B3.out.cell (p:=⟨p',o'+k * 2,none⟩) hp').trans s0;have t1:=(B3.out.cell (p:=⟨p',o'+k * 2+1,none⟩) hp').trans s1;have hp3:p'<w3.heap.size:=Nat.lt_of_lt_of_le hp' B3.out.size;have HA4:=hid (bal w3 (.cells #[.string ⟨n'.toArray⟩,.slice ay js.length cy] 82));have F4:=hid (heap_alloc_new w3 (.cells #[.string ⟨n'.toArray⟩,.slice ay js.length cy] 82));clear r0 r1 q0 q1 s0 s1 hp hp2;go_upto_region 7 with fail;generalize w3.alloc (.cells #[.string ⟨n'.toArray⟩,.slice ay js.length cy] 82)=w4 at *;have G4:=hid (bk HA4.out F3.out);have B4:=hid (B3.out.then HA4.out);have HX4:=hid ((HX.out.below HA3.out).below HA4.out);have HY4:=hid (hy.below B4.out);clear t0 t1 hp3 hp' HX hx hy F3 HA3 HA4 B2 B3;generalize w2.heap.size=Xb at *;generalize w3.heap.size=Yb at *
   obtain⟨x0,x1,_,_,xl⟩:=Qq G4.out
   obtain⟨y0,y1,_,_,yl⟩:=Qq F4.out
   have R1:=hid (rest1_any w4 (n,ks) (n',js) _ _ HX4.out HY4.out)
   by_cases hxy:(n,ks)=(n',js)
   ·rw[decide_eq_true hxy]at R1;have HXY:=hid hxy;clear hxy
    go_wp2_with (go_at_call 168;refine R1.out.mono ?_;rintro e w5 ⟨rfl,hb5⟩;have B5:=hid (B4.out.then hb5);clear hb5)
    go_roundg (gk-1)
    case measure=>have:=HG.out;omega
    case rel=>exact⟨k+1,by omega,by have:=HG.out;omega,by simp,by rw[HTL.out,HTM.out,HE.out,HXY.out],B5.out⟩
   ·rw[decide_eq_false hxy]at R1;have HD:=hid (show decide (l=m)=false from decide_eq_false (fun e=>hxy (HEX.out e)));clear hxy
    go_wp2_with (go_at_call 168;refine R1.out.mono ?_;rintro e w5 ⟨rfl,hb5⟩;have B5:=hid (B4.out.then hb5);clear hb5)
    exact bodyPost_ret (v:=.bool false) (by simp[results,Tryz.results167,go_sem]) rfl ⟨by rw[HD.out],B5.out⟩
  ·have hni:¬(k:Int)<(m.length:Int):=by omega
   have HD:=hid (show decide (l=m)=true from decide_eq_true (by
    have h:=HE.out;rw[List.take_of_length_le (by omega),List.take_of_length_le (by omega)]at h;exact h))
   go_wp2_with fail;exact bodyPost_ret (v:=.bool true) (by simp[results,Tryz.results167,go_sem]) rfl ⟨by rw[HD.out],B2.out⟩
end
section
open Go.RowKit Go.Lib
theorem Ny.open' {w w':World}{s:Str}{x:Ending}(h:Ny w s x w'):∃(v:Value)(er:Nat)(at':Int),x=.returned (.tuple #[v,.agg #[.int .i64 er,.int .i64 at']])∧Below w.heap.size w w'∧∃l:List Stp,
  Mr w' v l∧((er=0∧Qy s=some l)∨(er≠0∧Qy s=none))∧∃ao cp,v=.slice ao l.length cp∧l.length≤cp∧((ao=none∧l=[]∧cp=0)∨∃g,ao=some ⟨g,0,none⟩):=by
 obtain⟨⟨l,v,h1,rfl,h2⟩|⟨h1,er,a,h2,rfl⟩,hb⟩:=h
 ·refine⟨v,0,0,rfl,hb,l,h2.rd,Or.inl ⟨rfl,h1⟩,?_⟩
  obtain⟨zs,rfl,h3,_⟩:=h2
  rw[List.length_map]
  rcases h3.shape with ⟨rfl,rfl⟩|⟨g,cap,cur,rfl,_,_,hn,_⟩
  ·exact⟨none,0,rfl,Nat.le_refl _,Or.inl ⟨rfl,rfl,rfl⟩⟩
  ·exact⟨_,cap,rfl,hn,Or.inr ⟨g,rfl⟩⟩
 ·exact⟨_,er,a,rfl,hb,[],⟨[],rfl,RdL.nil _ _,fun z hz=>by cases hz⟩,Or.inr ⟨h2,h1⟩,none,0,rfl,Nat.le_refl _,Or.inl ⟨rfl,rfl,rfl⟩⟩
def Zww (o:Option Str):Value:=match o with|some t=>.tuple #[.string ⟨t.toArray⟩,.bool true] |none=>.tuple #[.string ⟨#[]⟩,.bool false]
theorem Mr.take {w:World}{a:Option Addr}{n c:Nat}{l:List Stp}(h:Mr w (.slice a n c) l)(m:Nat)(hm:m≤l.length):Mr w (.slice a m c) (l.take m):=by
 obtain⟨zs,rfl,h2,h3⟩:=h
 refine⟨zs.take m,List.map_take,h2.take m (by rw[List.length_map]at hm;exact hm),fun z hz=>h3 z (List.mem_of_mem_take hz)⟩
theorem Mr.drop {w:World}{p:Nat}{o n c:Nat}{l:List Stp}(h:Mr w (.slice (some ⟨p,o,none⟩) n c) l)(m:Nat)(hm:m≤l.length) :
  ∃zs:List (Stp×(Option Addr×Nat)),zs.map (·.1)=l.drop m∧RdL Qm w (.slice (some ⟨p,o+m * 2,none⟩) (n-m) (c-m)) zs∧∀z∈zs,RdP w (Qr z) z.1.2:=by
 obtain⟨zs,rfl,⟨ao,cp,e,⟨h1,h2,_⟩,hc⟩,h3⟩:=h
 cases e;rw[List.length_map]at hm
 refine⟨zs.drop m,List.map_drop,⟨_,_,by rw[List.length_drop],⟨by rw[List.length_drop];omega,by rw[List.length_drop];omega,fun e=>by cases e⟩,fun hne=>?_⟩,fun z hz=>h3 z (List.mem_of_mem_drop hz)⟩
 obtain⟨b,off,ha,hlt,hx⟩:=hc (by rintro rfl;simp at hne)
 cases ha
 refine⟨_,_,rfl,hlt,fun j i x hj hx2=>?_⟩
 rw[List.length_drop]at hj;rw[List.getElem_drop]at hx2
 have:=hx (m+j) i x (by omega) hx2
 rw[show o+m * 2+j * 2+i=o+(m+j) * 2+i by rw[Nat.add_mul];omega];exact this
theorem Zcq (w:World)(u:Value)(zs:List (Stp×(Option Addr×Nat)))(t:Str)(hu:RdL Qm w u zs)(hk:∀z∈zs,RdP w (Qr z) z.1.2)(hp:Zw (zs.map (·.1))=some t) :
  Calls Tryz.prog 87 #[.slice (some ⟨w.heap.size,0,none⟩) 1 1] (w.alloc (.cells #[u] 76)) fun e w'=>e=.returned (.tuple #[.string ⟨t.toArray⟩,.int .i64 0])∧Below w.heap.size w w':=by
 have hB:Below w.heap.size w (w.alloc (.cells #[u] 76)):=bal _ _;have hf:([zs]:List (List (Stp×(Option Addr×Nat)))).flatten=zs:=by simp
 refine(Xqk (w.alloc (.cells #[u] 76)) (.slice (some ⟨w.heap.size,0,none⟩) 1 1) [zs] t ⟨_,_,rfl,fun n hn=>?_⟩ (by rw[hf];exact fun z hz=>(hk z hz).below hB) (by simp) (by rw[hf];exact hp)).mono ?_
 ·have h0:n=0:=by simp at hn;omega
  subst h0
  refine⟨_,_,u,rfl,lt_of_block (heap_alloc_new w _),?_,hu.below hB⟩
  rw[cell_of_row _ _ _ _ _ _ (heap_alloc_new w _)]
  rfl
 ·rintro e w' ⟨rfl,hb⟩
  exact⟨rfl,hB.then hb⟩
theorem Qkj (w:World)(a b:Str)(ha:a.length≤maxLen)(hb:b.length≤maxLen) :
  Calls Tryz.prog 122 #[.string ⟨a.toArray⟩,.string ⟨b.toArray⟩] w fun e w'=>e=.returned (Zww (Yf a b))∧Below w.heap.size w w':=by
 have HB:=hid hb
 go_enter Tryz.func122,Tryz.ntmps122
 go_wp2_with fail
 refine(Jd a w ha).mono ?_
 rintro e w1 h1
 obtain⟨v1,e1,t1,rfl,hb1,l,hl,hc1,a1,k1,rfl,hcap1,hs1⟩:=h1.open'
 have S1:=hid hs1;have L1:=hid hl;have C1:=hid hc1;have B1:=hid hb1;clear h1 hl hc1 hb1 hs1;have HA2:=hid (bal w1 (.cells #[.int .i64 e1,.int .i64 t1] 78));have F2:=hid (heap_alloc_new w1 (.cells #[.int .i64 e1,.int .i64 t1] 78));go_upto_region 2 with fail;generalize w1.alloc (.cells #[.int .i64 e1,.int .i64 t1] 78)=w2 at *;have L2:=hid (L1.out.below HA2.out);have B2:=hid (B1.out.then HA2.out);clear L1 B1 HA2;generalize w1.heap.size=Xb at *;go_wp2_with fail
 refine(Jd b w2 HB.out).mono ?_
 rintro e w3 h3
 obtain⟨v3,e3,t3,rfl,hb3,m,hm,hc3,a3,k3,rfl,hcap3,_⟩:=h3.open'
 have L3:=hid (L2.out.below hb3);have M3:=hid hm;have C3:=hid hc3;have B3:=hid (B2.out.then hb3);have F3:=hid (bk hb3 F2.out);clear h3 hm hc3 hb3 L2 B2 F2;have HA4:=hid (bal w3 (.cells #[.int .i64 e3,.int .i64 t3] 78));have F4:=hid (heap_alloc_new w3 (.cells #[.int .i64 e3,.int .i64 t3] 78));go_upto_region 3 with fail;generalize w3.alloc (.cells #[.int .i64 e3,.int .i64 t3] 78)=w4 at *;have L4:=hid (L3.out.below HA4.out);have M4:=hid (M3.out.below HA4.out);have B4:=hid (B3.out.then HA4.out);have G4:=hid (bk HA4.out F3.out);clear L3 M3 B3 HA4 F3;generalize w3.heap.size=Yb at *
 obtain⟨x0,x1,_,_,xl⟩:=Qq G4.out
 obtain⟨y0,y1,_,_,yl⟩:=Qq F4.out
 rcases C1.out with ⟨rfl,hp1⟩|⟨hz1,hp1⟩
 ·rcases C3.out with ⟨rfl,hp3⟩|⟨hz3,hp3⟩
  ·by_cases hle:m.length≤l.length
   ·have h64:=(Zy hp1).2.2.1;have HP1:=hid hp1;have hzi:¬(l.length:Int)<(m.length:Int):=by omega
    have hm64:(m.length:Int)≤64:=by omega
    have hcm:(m.length:Int)≤(k1:Int):=by omega
    have hm0:(0:Int)≤(m.length:Int):=by omega
    have hml:(m.length:Int)≤(l.length:Int):=by omega
    have EF:=hid (Xgx w4 _ _ (l.take m.length) m (L4.out.take m.length hle) M4.out (by rw[List.length_take];omega) (by omega))
    by_cases heq:l.take m.length=m
    ·have HR:=hid (show Yf a b=some (Zk (l.drop m.length))by unfold Yf;rw[hp1,hp3];exact if_pos ⟨hle,heq⟩);rw[decide_eq_true heq]at EF;clear heq hp1 hp3 C1 C3;have HPR0:=Qdw HP1.out m.length
     rcases S1.out with ⟨rfl,rfl,rfl⟩|⟨g,rfl⟩
     ·obtain rfl:m=[]:=List.eq_nil_of_length_eq_zero (by simpa using hle)
      obtain⟨zs,hzs⟩:∃zs:List (Stp×(Option Addr×Nat)),zs=[]:=⟨_,rfl⟩
      have RU:=hid (show RdL Qm w4 (.slice none 0 0) zs from by rw[hzs];exact RdL.nil _ _);have RK:=hid (show ∀z∈zs,RdP w4 (Qr z) z.1.2 from fun z hz=>by rw[hzs]at hz;cases hz);have HPR:=hid (show Zw (zs.map (·.1))=some (Zk (([]:List Stp).drop ([]:List Stp).length))by rw[hzs];exact HPR0);clear HPR0 hzs;simp only[List.length_nil,List.take_nil]at EF ⊢
      go_wp2_with (first
       |(go_at_call 167;refine EF.out.mono ?_;rintro e w5 ⟨rfl,hb5⟩;have B5:=hid (B4.out.then hb5);have U5:=hid (RU.out.below hb5);have K5:=hid (fun z hz=>(RK.out z hz).below hb5);clear hb5)
       |(go_at_call 87;refine(Zcq _ _ zs _ U5.out K5.out HPR.out).mono ?_;rintro e w6 ⟨rfl,hb6⟩;have B6:=hid (B5.out.then hb6);clear hb6))
      exact bodyPost_ret (v:=.tuple #[.string ⟨(Zk (([]:List Stp).drop ([]:List Stp).length)).toArray⟩,.bool true]) (by simp[results,Tryz.results122,go_sem]) rfl ⟨by rw[HR.out];rfl,B6.out⟩
     ·by_cases hkm:k1=m.length
      ·subst hkm;have hlm:l.length-m.length=0:=by omega
       obtain⟨zs,hzs⟩:∃zs:List (Stp×(Option Addr×Nat)),zs=[]:=⟨_,rfl⟩
       have RU:=hid (show RdL Qm w4 (.slice (some ⟨g,0,none⟩) 0 0) zs from by rw[hzs];exact⟨_,_,rfl,⟨Nat.le_refl _,by simp,fun e=>by cases e⟩,fun h=>absurd rfl h⟩);have RK:=hid (show ∀z∈zs,RdP w4 (Qr z) z.1.2 from fun z hz=>by rw[hzs]at hz;cases hz);have HPR:=hid (show Zw (zs.map (·.1))=some (Zk (l.drop m.length))by rw[hzs,←HPR0,List.drop_eq_nil_of_le (by omega)];rfl);clear HPR0 hzs
       go_wp2_with (first
        |(go_at_call 167;refine EF.out.mono ?_;rintro e w5 ⟨rfl,hb5⟩;have B5:=hid (B4.out.then hb5);have U5:=hid (RU.out.below hb5);have K5:=hid (fun z hz=>(RK.out z hz).below hb5);clear hb5)
        |(go_at_call 87;refine(Zcq _ _ zs _ U5.out K5.out HPR.out).mono ?_;rintro e w6 ⟨rfl,hb6⟩;have B6:=hid (B5.out.then hb6);clear hb6))
       exact bodyPost_ret (v:=.tuple #[.string ⟨(Zk (l.drop m.length)).toArray⟩,.bool true]) (by simp[results,Tryz.results122,go_sem]) rfl ⟨by rw[HR.out];rfl,B6.out⟩
      ·have hki:¬(k1:Int)=(m.length:Int):=by omega
       obtain⟨zs,hz1,hz2,hz3⟩:=L4.out.drop m.length hle
       rw[Nat.zero_add]at hz2;have RU:=hid hz2;have RK:=hid hz3;have HPR:=hid (show Zw (zs.map (·.1))=some (Zk (l.drop m.length))by rw[hz1];exact HPR0);clear HPR0 hz1 hz2 hz3
       go_wp2_with (first
        |(go_at_call 167;refine EF.out.mono ?_;rintro e w5 ⟨rfl,hb5⟩;have B5:=hid (B4.out.then hb5);have U5:=hid (RU.out.below hb5);have K5:=hid (fun z hz=>(RK.out z hz).below hb5);clear hb5)
        |(go_at_call 87;refine(Zcq _ _ zs _ U5.out K5.out HPR.out).mono ?_;rintro e w6 ⟨rfl,hb6⟩;have B6:=hid (B5.out.then hb6);clear hb6))
       exact bodyPost_ret (v:=.tuple #[.string ⟨(Zk (l.drop m.length)).toArray⟩,.bool true]) (by simp[results,Tryz.results122,go_sem]) rfl ⟨by rw[HR.out];rfl,B6.out⟩
    ·have HR:=hid (show Yf a b=none by unfold Yf;rw[hp1,hp3];exact if_neg (fun h=>heq h.2));rw[decide_eq_false heq]at EF;clear heq hp1 hp3 C1 C3
     rcases S1.out with ⟨rfl,rfl,rfl⟩|⟨g,rfl⟩
     ·obtain rfl:m=[]:=List.eq_nil_of_length_eq_zero (by simpa using hle);simp only[List.length_nil,List.take_nil]at EF ⊢
      go_wp2_with (go_at_call 167;refine EF.out.mono ?_;rintro e w5 ⟨rfl,hb5⟩;have B5:=hid (B4.out.then hb5);clear hb5)
      exact bodyPost_ret (v:=.tuple #[.string ⟨#[]⟩,.bool false]) (by simp[results,Tryz.results122,go_sem]) rfl ⟨by rw[HR.out];rfl,B5.out⟩
     ·go_wp2_with (go_at_call 167;refine EF.out.mono ?_;rintro e w5 ⟨rfl,hb5⟩;have B5:=hid (B4.out.then hb5);clear hb5)
      exact bodyPost_ret (v:=.tuple #[.string ⟨#[]⟩,.bool false]) (by simp[results,Tryz.results122,go_sem]) rfl ⟨by rw[HR.out];rfl,B5.out⟩
   ·have hzi:(l.length:Int)<(m.length:Int):=by omega
    have HR:=hid (show Yf a b=none by unfold Yf;rw[hp1,hp3];exact if_neg (fun h=>hle h.1));clear hp1 hp3 C1 C3;go_wp2_with fail;exact bodyPost_ret (v:=.tuple #[.string ⟨#[]⟩,.bool false]) (by simp[results,Tryz.results122,go_sem]) rfl ⟨by rw[HR.out];rfl,B4.out⟩
  ·have hne:(e3:Int)≠0:=by omega
   have HR:=hid (show Yf a b=none by unfold Yf;rw[hp1,hp3]);clear hp1 hp3 C1 C3;go_wp2_with fail;exact bodyPost_ret (v:=.tuple #[.string ⟨#[]⟩,.bool false]) (by simp[results,Tryz.results122,go_sem]) rfl ⟨by rw[HR.out];rfl,B4.out⟩
 ·have hne:(e1:Int)≠0:=by omega
  have HR:=hid (show Yf a b=none by unfold Yf;rw[hp1]);clear hp1 C1 C3;go_wp2_with fail;exact bodyPost_ret (v:=.tuple #[.string ⟨#[]⟩,.bool false]) (by simp[results,Tryz.results122,go_sem]) rfl ⟨by rw[HR.out];rfl,B4.out⟩
theorem Qgk (w:World)(a b:Str)(ha:a.length≤maxLen)(hb:b.length≤maxLen) :
  Calls Tryz.prog 159 #[.string ⟨a.toArray⟩,.string ⟨b.toArray⟩] w fun e w'=>e=.returned (.bool (inB a b))∧Below w.heap.size w w':=by
 have RS:=hid (Qkj w a b ha hb)
 cases h:Yf a b with
 |none =>
  have HI:=hid (show inB a b=false by unfold inB;rw[h];rfl);rw[h]at RS;clear h
  go_enter Tryz.func159,Tryz.ntmps159
  go_wp2_with (go_at_call 122;refine RS.out.mono ?_;unfold Zww;rintro e w6 ⟨rfl,hb6⟩)
  exact bodyPost_ret (v:=.bool false) (by simp[results,Tryz.results159,go_sem]) rfl ⟨by rw[HI.out],hb6⟩
 |some t =>
  have HI:=hid (show inB a b=true by unfold inB;rw[h];rfl);rw[h]at RS;clear h
  go_enter Tryz.func159,Tryz.ntmps159
  go_wp2_with (go_at_call 122;refine RS.out.mono ?_;unfold Zww;rintro e w6 ⟨rfl,hb6⟩)
  exact bodyPost_ret (v:=.bool true) (by simp[results,Tryz.results159,go_sem]) rfl ⟨by rw[HI.out],hb6⟩
end
section
open Go.RowKit Go.Lib
theorem Dt {s:Str}{l:List Stp}(h:Qy s=some l){x:Stp}(hx:x∈l):(Qp x).length≤513:=by
 obtain⟨k,hk,rfl⟩:=List.getElem_of_mem hx
 exact Nat.le_trans (Zdg hk) (Rq (Zy h).2.2.2.1)
theorem put_gen1 (w:World)(u:Value)(zs:List (Stp×(Option Addr×Nat)))(hu:RdL Qm w u zs)(hk:∀z∈zs,RdP w (Qr z) z.1.2)(hm:∀z∈zs,Kr z.1=true∧(Qp z.1).length≤1073741824)(hz:zs.length≤1000000000) :
  Calls Tryz.prog 87 #[.slice (some ⟨w.heap.size,0,none⟩) 1 1] (w.alloc (.cells #[u] 76)) fun e w'=>e=.returned (.tuple #[.string ⟨(Ub (zs.map (·.1))).toArray⟩,.int .i64 (Rn (zs.map (·.1)))])∧Below w.heap.size w w':=by
 have hB:Below w.heap.size w (w.alloc (.cells #[u] 76)):=bal _ _;have hf:([zs]:List (List (Stp×(Option Addr×Nat)))).flatten=zs:=by simp
 refine(Xqv (w.alloc (.cells #[u] 76)) (.slice (some ⟨w.heap.size,0,none⟩) 1 1) [zs] ⟨_,_,rfl,fun n hn=>?_⟩ (by rw[hf];exact fun z hz=>(hk z hz).below hB) (by simp) (by rw[hf];exact hm) (by rw[hf];exact hz)).mono ?_
 ·have h0:n=0:=by simp at hn;omega
  subst h0
  refine⟨_,_,u,rfl,lt_of_block (heap_alloc_new w _),?_,hu.below hB⟩
  rw[cell_of_row _ _ _ _ _ _ (heap_alloc_new w _)]
  rfl
 ·rintro e w' ⟨rfl,hb⟩;rw[hf]
  exact⟨rfl,hB.then hb⟩
theorem put_gen2 (w:World)(u v:Value)(zs ys:List (Stp×(Option Addr×Nat)))(hu:RdL Qm w u zs)(hv:RdL Qm w v ys)(hk:∀z∈zs++ys,RdP w (Qr z) z.1.2)(hm:∀z∈zs++ys,Kr z.1=true∧(Qp z.1).length≤1073741824)(hz:(zs++ys).length≤1000000000) :
  Calls Tryz.prog 87 #[.slice (some ⟨w.heap.size,0,none⟩) 2 2] (w.alloc (.cells #[u,v] 76)) fun e w'=>e=.returned (.tuple #[.string ⟨(Ub ((zs++ys).map (·.1))).toArray⟩,.int .i64 (Rn ((zs++ys).map (·.1)))])∧Below w.heap.size w w':=by
 have hB:Below w.heap.size w (w.alloc (.cells #[u,v] 76)):=bal _ _;have hf:([zs,ys]:List (List (Stp×(Option Addr×Nat)))).flatten=zs++ys:=by simp
 refine(Xqv (w.alloc (.cells #[u,v] 76)) (.slice (some ⟨w.heap.size,0,none⟩) 2 2) [zs,ys] ⟨_,_,rfl,fun n hn=>?_⟩ (by rw[hf];exact fun z hz=>(hk z hz).below hB) (by simp) (by rw[hf];exact hm) (by rw[hf];exact hz)).mono ?_
 ·have h0:n=0∨n=1:=by simp at hn;omega
  rcases h0 with rfl|rfl
  ·refine⟨_,_,u,rfl,lt_of_block (heap_alloc_new w _),?_,hu.below hB⟩
   rw[cell_of_row _ _ _ _ _ _ (heap_alloc_new w _)]
   rfl
  ·refine⟨_,_,v,rfl,lt_of_block (heap_alloc_new w _),?_,hv.below hB⟩
   rw[cell_of_row _ _ _ _ _ _ (heap_alloc_new w _)]
   rfl
 ·rintro e w' ⟨rfl,hb⟩;rw[hf]
  exact⟨rfl,hB.then hb⟩
theorem Qqq {m:List Stp}(h:Zw m=none):Ub m=[]∧Rn m=3:=⟨by rw[Ub,h];rfl,by rw[Rn,h];rfl⟩
theorem Qqz {m:List Stp}{t:Str}(h:Zw m=some t):Ub m=t∧Rn m=0:=⟨by rw[Ub,h];rfl,by rw[Rn,h];rfl⟩
theorem Zwy (w:World)(a b:Str)(ha:a.length≤maxLen)(hb:b.length≤maxLen) :
  Calls Tryz.prog 123 #[.string ⟨a.toArray⟩,.string ⟨b.toArray⟩] w fun e w'=>(∃er:Nat,e=.returned (.tuple #[.string ⟨((Gt a b).getD []).toArray⟩,.int .i64 er])∧(er=0↔(Gt a b).isSome=true))∧Below w.heap.size w w':=by
 have HB:=hid hb
 go_enter Tryz.func123,Tryz.ntmps123
 go_wp2_with fail
 refine(Jd a w ha).mono ?_
 rintro e w1 h1
 obtain⟨v1,e1,t1,rfl,hb1,l,hl,hc1,a1,k1,rfl,hcap1,hs1⟩:=h1.open'
 have L1:=hid hl;have C1:=hid hc1;have B1:=hid hb1;clear h1 hl hc1 hb1 hs1;have HA2:=hid (bal w1 (.cells #[.int .i64 e1,.int .i64 t1] 78));have F2:=hid (heap_alloc_new w1 (.cells #[.int .i64 e1,.int .i64 t1] 78));go_upto_region 2 with fail;generalize w1.alloc (.cells #[.int .i64 e1,.int .i64 t1] 78)=w2 at *;have L2:=hid (L1.out.below HA2.out);have B2:=hid (B1.out.then HA2.out);clear L1 B1 HA2;generalize w1.heap.size=Xb at *
 obtain⟨x0,x1,_,_,xl⟩:=Qq F2.out
 rcases C1.out with ⟨rfl,hp1⟩|⟨hz1,hp1⟩
 ·go_wp2_with fail
  refine(Jd b w2 HB.out).mono ?_
  rintro e w3 h3
  obtain⟨v3,e3,t3,rfl,hb3,m,hm,hc3,a3,k3,rfl,hcap3,_⟩:=h3.open'
  have L3:=hid (L2.out.below hb3);have M3:=hid hm;have C3:=hid hc3;have B3:=hid (B2.out.then hb3);clear h3 hm hc3 hb3 L2 B2 F2 x0 x1 xl;have HA4:=hid (bal w3 (.cells #[.int .i64 e3,.int .i64 t3] 78));have F4:=hid (heap_alloc_new w3 (.cells #[.int .i64 e3,.int .i64 t3] 78));go_upto_region 5 with fail;generalize w3.alloc (.cells #[.int .i64 e3,.int .i64 t3] 78)=w4 at *;have L4:=hid (L3.out.below HA4.out);have M4:=hid (M3.out.below HA4.out);have B4:=hid (B3.out.then HA4.out);clear L3 M3 B3 HA4;generalize w3.heap.size=Yb at *
  obtain⟨y0,y1,_,_,yl⟩:=Qq F4.out
  rcases C3.out with ⟨rfl,hp3⟩|⟨hz3,hp3⟩
  ·obtain⟨zs,hz1,hz2,hz3⟩:=L4.out
   obtain⟨ys,hy1,hy2,hy3⟩:=M4.out
   have RZ:=hid hz2;have RY:=hid hy2;have RK:=hid (show ∀z∈zs++ys,RdP w4 (Qr z) z.1.2 from fun z hz=>by
    rcases List.mem_append.1 hz with hz|hz
    ·exact hz3 z hz
    ·exact hy3 z hz)
   have RM:=hid (show ∀z∈zs++ys,Kr z.1=true∧(Qp z.1).length≤1073741824 from fun z hz=>by
    rcases List.mem_append.1 hz with hz|hz
    ·have hm:z.1∈l:=hz1▸List.mem_map_of_mem hz
     exact⟨List.all_eq_true.1 (Zy hp1).1 _ hm,by have:=Dt hp1 hm;omega⟩
    ·have hm:z.1∈m:=hy1▸List.mem_map_of_mem hz
     exact⟨List.all_eq_true.1 (Zy hp3).1 _ hm,by have:=Dt hp3 hm;omega⟩)
   have RL:=hid (show(zs++ys).length≤1000000000 from by
    have h1:=congrArg List.length hz1;have h2:=congrArg List.length hy1;rw[List.length_map]at h1 h2;have h3:=(Zy hp1).2.2.1;have h4:=(Zy hp3).2.2.1;rw[List.length_append];omega)
   have HM:=hid (show(zs++ys).map (·.1)=l++m by rw[List.map_append,hz1,hy1]);have HJ:=hid (join_of hp1 hp3);clear hz1 hz2 hz3 hy1 hy2 hy3 hp1 hp3 C1 C3 L4 M4
   go_wp2_with (go_at_call 87;refine(put_gen2 _ _ _ zs ys RZ.out RY.out RK.out RM.out RL.out).mono ?_;rintro e w6 ⟨rfl,hb6⟩;have B6:=hid (B4.out.then hb6);clear hb6)
   refine bodyPost_ret (v:=.tuple #[.string ⟨(Ub ((zs++ys).map (·.1))).toArray⟩,.int .i64 (Rn ((zs++ys).map (·.1)))]) (by simp[results,Tryz.results123,go_sem]) rfl ⟨?_,B6.out⟩;rw[HM.out,HJ.out]
   cases h:Zw (l++m) with
   |none=>rw[(Qqq h).1,(Qqq h).2];exact⟨3,rfl,by simp⟩
   |some t=>rw[(Qqz h).1,(Qqz h).2];exact⟨0,rfl,by simp⟩
  ·have hne:(e3:Int)≠0:=by omega
   have HR:=hid (show Gt a b=none by unfold Gt;rw[hp1,hp3]);have HZ:=hid hz3;clear hp1 hp3 C1 C3;go_wp2_with fail
   go_quiet (fail)
   have BQ:=hid (below_drewN B4.out nq)
   try go_wp2_with fail
   refine bodyPost_ret (v:=.tuple #[.string ⟨#[]⟩,.int .i64 e3]) (by simp[results,Tryz.results123,go_sem]) rfl ?_
   exact⟨⟨e3,by rw[HR.out];rfl,by rw[HR.out];simpa using HZ.out⟩,BQ.out⟩
 ·have hne:(e1:Int)≠0:=by omega
  have HR:=hid (show Gt a b=none by unfold Gt;rw[hp1]);have HZ:=hid hz1;clear hp1 C1;go_wp2_with fail
  go_quiet (fail)
  have BQ:=hid (below_drewN B2.out nq)
  try go_wp2_with fail
  refine bodyPost_ret (v:=.tuple #[.string ⟨#[]⟩,.int .i64 e1]) (by simp[results,Tryz.results123,go_sem]) rfl ?_
  exact⟨⟨e1,by rw[HR.out];rfl,by rw[HR.out];simpa using HZ.out⟩,BQ.out⟩
end
section
open Go.RowKit Go.Lib Go.Sort
theorem Qly (bk:Nat)(key:Str)(x:Str×Str)(W:World)(hk:W.cell? ⟨bk,0,none⟩=some (S key))(hb:bk<W.heap.size) :
  Calls Tryz.prog 147 #[.agg #[S x.1,S x.2],.pointer (some ⟨bk,0,none⟩)] W fun e w'=>e=.returned (.bool (x.1==key))∧Below W.heap.size W w':=by
 unfold S at hk ⊢
 go_enter Tryz.func147,Tryz.ntmps147
 go_wp2
 all_goals go_ret
 all_goals refine⟨Qc ?_,?_⟩
 all_goals first|exact bal _ _|simp[Lib.toList_data]
theorem Xgj (w:World)(bk:Nat)(key:Str)(hk:w.heap[bk]?=some (.cells #[S key] 9 (0,0))) :
  PredBelow Tryz.prog 147 #[.pointer (some ⟨bk,0,none⟩)] (fun x=>.agg (Kt x).toArray) (fun x=>x.1==key) w:=by
 intro W x hb;have hlt:=lt_of_block hk;have h:=Qly bk key x W ((hb.cell (p:=⟨bk,0,none⟩) hlt).trans (cell_of_one hk)) (Nat.lt_of_lt_of_le hlt hb.size);exact h.mono fun e w' hh=>⟨hh.1,hb.then hh.2⟩
theorem Qhh (lb:Array Value)(w:World) :
  Calls Tryz.prog 146 #[.slice none 0 0,.func (.func 147) #[] lb] w fun e w'=>e=.returned (.int .i64 (-1))∧w'=w:=by
 go_enter Tryz.func146,Tryz.ntmps146
 go_wp2
 refine wp_loop_rounds 1 ?_;rw[rounds_succ]
 go_wp2
 go_ret
 exact⟨rfl,rfl⟩
def Xqw (l:List (Str×Str))(key:Str):Int:=Lib.idxBy (fun _ (y:Str×Str)=>y.1==key) l default
theorem Qrx (l:List (Str×Str))(key:Str):(Xqw l key=-1∧∀k∈l,k.1≠key)∨∃n,∃hn:n<l.length,Xqw l key=(n:Int)∧(l[n]'hn).1=key∧∀j (hj:j<n),(l[j]'(by omega)).1≠key:=by
 by_cases hk:l.findIdx (fun y=>y.1==key)<l.length
 ·have h1:(l[l.findIdx (fun y=>y.1==key)]'hk).1==key:=List.findIdx_getElem (w:=hk);have h2:∀j (hj:j<l.findIdx (fun y=>y.1==key)),((l[j]'(by omega)).1==key)=false:=fun j hj=>by
   have:=List.not_of_lt_findIdx hj
   simpa using this
  refine Or.inr ⟨_,hk,?_,by simpa using h1,fun j hj e=>by have:=h2 j hj;rw[e]at this;simp at this⟩
  have:=Lib.idxBy_hit (fun _ (y:Str×Str)=>y.1==key) l l.length _ default hk (Nat.le_refl _) (by rw[getElem!_pos l _ hk];exact h1) (fun j hj=>by rw[getElem!_pos l j (by omega)];exact h2 j hj)
  rwa [List.take_length]at this
 ·have h2:∀k∈l,k.1≠key:=fun x hx e=>by
   have:l.findIdx (fun y=>y.1==key)<l.length:=List.findIdx_lt_length.2 ⟨x,hx,by simp[e]⟩
   exact hk this
  refine Or.inl ⟨?_,h2⟩
  have:=Lib.idxBy_miss (fun _ (y:Str×Str)=>y.1==key) l l.length default (fun j hj=>by rw[getElem!_pos l j hj];exact beq_eq_false_iff_ne.2 (h2 _ (List.getElem_mem hj)))
  rwa [List.take_length]at this
theorem idxKeys (w:World)(v:Value)(l:List (Str×Str))(bk:Nat)(key:Str)(h:RdP w v l)(hl:l.length≤1000)(hp:∀a n c,v=.slice (some a) n c→∃p o,a=⟨p,o,none⟩∧p<w.heap.size)(hk:w.heap[bk]?=some (.cells #[S key] 9 (0,0))) :
  Calls Tryz.prog 146 #[v,.func (.func 147) #[] #[.pointer (some ⟨bk,0,none⟩)]] w fun e w'=>e=.returned (.int .i64 (Xqw l key))∧Below w.heap.size w w':=by
 have eg:∀args w,(callFunc 147 args).run Tryz.prog w=.ok (.enter 147 args) w:=enters_of Tryz.func147 (by kernel_rfl) rfl
 obtain⟨ao,cp,rfl,hl1,_⟩:=id h
 cases ao with
 |none =>
  obtain⟨hn,rfl⟩:=hl1.2 rfl
  subst hn
  exact(Qhh _ w).mono fun e w' hh=>⟨hh.1,hh.2▸Below.refl _ _⟩
 |some a =>
  obtain⟨p,o,rfl,hlt⟩:=hp a _ _ rfl
  have hc:=AnyQ.slices_IndexFunc (ρ:=Tryz.cfPair_ren) { Tryz.cfPair with } 2 Tryz.isAgg37 Tryz.sizeOf37 Kt (fun _=>rfl) (fun x=>x.1==key) 147 #[.pointer (some ⟨bk,0,none⟩)] eg p o l.length cp l w (Xgj w bk key hk) (Nat.le_refl _) (by omega) hlt (Qkz h rfl);change Calls Tryz.prog 146 _ _ _ at hc;rw[List.take_length]at hc;exact hc
theorem Qrj (w:World)(u:Value)(zs:List (Stp×(Option Addr×Nat)))(hu:RdL Qm w u zs)(hk:∀z∈zs,RdP w (Qr z) z.1.2)(hm:∀z∈zs,Kr z.1=true∧(Qp z.1).length≤1073741824)(hz:zs.length≤1000000000) :
  Calls Tryz.prog 39 #[u] w fun e w'=>e=.returned (.tuple #[.string ⟨(Ub (zs.map (·.1))).toArray⟩,.int .i64 (Rn (zs.map (·.1)))])∧Below w.heap.size w w':=by
 have PT:=hid (put_gen1 w u zs hu hk hm hz)
 obtain⟨au,cu,rfl,_⟩:=hu.slice
 clear hu hk hm hz
 go_enter Tryz.func39,Tryz.ntmps39
 go_wp2_with (go_at_call 87;refine PT.out.mono ?_;rintro e w6 ⟨rfl,hb6⟩)
 exact bodyPost_ret (v:=.tuple #[.string ⟨(Ub (zs.map (·.1))).toArray⟩,.int .i64 (Rn (zs.map (·.1)))]) (by simp[results,Tryz.results39,go_sem]) rfl ⟨rfl,hb6⟩
theorem Qkk (w:World)(n:Str)(ks:List (Str×Str))(a:Option Addr)(c:Nat)(key:Str)(h:RdP w (.slice a ks.length c) ks)(hl:ks.length≤1000)(hp:∀x,a=some x→∃p o,x=⟨p,o,none⟩∧p<w.heap.size) :
  Calls Tryz.prog 85 #[.agg #[.string ⟨n.toArray⟩,.slice a ks.length c],.string ⟨key.toArray⟩] w fun e w'=>e=.returned (.int .i64 (Xqw ks key))∧Below w.heap.size w w':=by
 have B0:=hid (Px w (.cells #[.string ⟨n.toArray⟩,.slice a ks.length c] 82) (.cells #[.string ⟨key.toArray⟩] 9));have G0:=hid (show((w.alloc (.cells #[.string ⟨n.toArray⟩,.slice a ks.length c] 82)).alloc (.cells #[.string ⟨key.toArray⟩] 9)).heap[w.heap.size]?=some (.cells #[.string ⟨n.toArray⟩,.slice a ks.length c] 82 (0,0)) from(Below.heap_alloc _ _ _ (lt_of_block (heap_alloc_new w _))).trans (heap_alloc_new w _));have H0:=hid (show((w.alloc (.cells #[.string ⟨n.toArray⟩,.slice a ks.length c] 82)).alloc (.cells #[.string ⟨key.toArray⟩] 9)).heap[w.heap.size+1]?=some (.cells #[.string ⟨key.toArray⟩] 9 (0,0))from by
  have:=heap_alloc_new (w.alloc (.cells #[.string ⟨n.toArray⟩,.slice a ks.length c] 82)) (.cells #[.string ⟨key.toArray⟩] 9)
  rw[show(w.alloc (.cells #[.string ⟨n.toArray⟩,.slice a ks.length c] 82)).heap.size=w.heap.size+1 by simp]at this;exact this)
 have IX:=hid (idxKeys _ (.slice a ks.length c) ks (w.heap.size+1) key (h.below B0.out) hl (fun x m c' e=>by
  cases e
  obtain⟨p,o,e2,hlt⟩:=hp x rfl
  exact⟨p,o,e2,Nat.lt_of_lt_of_le hlt B0.out.size⟩) H0.out)
 clear h hp
 go_enter Tryz.func85,Tryz.ntmps85
 go_upto_region 1 with fail;generalize (w.alloc (.cells #[.string ⟨n.toArray⟩,.slice a ks.length c] 82)).alloc (.cells #[.string ⟨key.toArray⟩] 9)=w1 at *
 obtain⟨a0,a1,_,_,al⟩:=Qq G0.out
 go_wp2_with (go_at_call 146;refine IX.out.mono ?_;rintro e w2 ⟨rfl,hb⟩;have B2:=hid (B0.out.then hb);clear hb)
 exact bodyPost_ret (v:=.int .i64 (Xqw ks key)) (by simp[results,Tryz.results85,go_sem]) rfl ⟨rfl,B2.out⟩
end
section
open Go.Lib
theorem Zwh:∀(l ks:List (Str×Str)),Fb ks l=true→ks.Pairwise (fun a b=>a.1<b.1)→(ks++l).Pairwise (fun a b=>a.1<b.1)∧∀k∈l,Xg k.1=true∧Jf k.2=true
 |[],ks,_,h=>⟨by simpa using h,fun k hk=>by cases hk⟩
 |k::r,ks,h,hp=>by
  simp only[Fb,Bool.and_eq_true,Bool.not_eq_true']at h
  obtain⟨⟨⟨h1,h2⟩,h3⟩,h4⟩:=h
  have hk:∀x∈ks,x.1<k.1:=by
   unfold Vx at h2
   cases e:ks.getLast? with
   |none =>
    rw[List.getLast?_eq_none_iff.1 e];intro x hx;cases hx
   |some y =>
    rw[e]at h2;have hy:y.1<k.1:=List.not_le.1 (of_decide_eq_false h2)
    obtain⟨l',rfl⟩:∃l',ks=l'++[y]:=List.getLast?_eq_some_iff.1 e
    intro x hx
    rcases List.mem_append.1 hx with hx|hx
    ·exact List.lt_trans ((List.pairwise_append.1 hp).2.2 x hx y (List.mem_singleton.2 rfl)) hy
    ·rw[List.mem_singleton.1 hx];exact hy
  have hp2:(ks++[k]).Pairwise (fun a b:Str×Str=>a.1<b.1):=List.pairwise_append.2 ⟨hp,List.pairwise_singleton _ _,fun x hx y hy=>by rw[List.mem_singleton.1 hy];exact hk x hx⟩
  obtain⟨g1,g2⟩:=Zwh r (ks++[k]) h4 hp2
  refine⟨by simpa using g1,fun x hx=>?_⟩
  rcases List.mem_cons.1 hx with rfl|hx
  ·exact⟨h1,h3⟩
  ·exact g2 x hx
theorem Tv {x:Stp}(h:Kr x=true):Xg x.1=true∧x.2.Pairwise (fun a b=>a.1<b.1)∧∀k∈x.2,Xg k.1=true∧Jf k.2=true:=by
 unfold Kr at h;simp only[Bool.and_eq_true]at h
 obtain⟨h1,h2⟩:=Zwh x.2 [] h.2 List.Pairwise.nil
 exact⟨h.1,by simpa using h1,h2⟩
theorem may_of {x:Stp}(h1:Xg x.1=true)(h2:x.2.Pairwise (fun a b=>a.1<b.1))(h3:∀k∈x.2,Xg k.1=true∧Jf k.2=true):Kr x=true:=by
 unfold Kr;rw[h1,Qjy x.2 [] h3 (by simpa using h2)]
 rfl
theorem may_take {x:Stp}(h:Kr x=true)(key:Str):Kr (Hq x key)=true:=by
 obtain⟨h1,h2,h3⟩:=Tv h
 exact may_of h1 (h2.sublist List.filter_sublist) fun k hk=>h3 k (List.mem_filter.1 hk).1
theorem Xnq {x:Stp}(h:Kr x=true)(key v:Str)(hv:Jf v=true):Kr (Bv key v x)=true:=by
 obtain⟨h1,h2,h3⟩:=Tv h
 have e:∀k:Str×Str,(if k.1=key then(key,v)else k).1=k.1:=fun k=>by
  split
  ·next e=>exact e.symm
  ·rfl
 refine may_of h1 ?_ fun k hk=>?_
 ·show(x.2.map fun k=>if k.1=key then(key,v)else k).Pairwise _
  rw[List.pairwise_map];refine h2.imp fun {a b} hab=>?_
  rw[e a,e b];exact hab
 ·obtain⟨y,hy,rfl⟩:=List.mem_map.1 hk
  rw[e y]
  refine⟨(h3 y hy).1,?_⟩
  split
  ·exact hv
  ·exact(h3 y hy).2
theorem fit_take {x:Stp}(h:Gx x=true)(key:Str):Gx (Hq x key)=true:=by
 unfold Gx at h ⊢;simp only[Bool.and_eq_true,List.all_eq_true]at h ⊢
 exact⟨h.1,fun k hk=>h.2 k (List.mem_filter.1 hk).1⟩
theorem keysT_sub {a b:List (Str×Str)}(h:a.Sublist b):(Zt a).length≤(Zt b).length:=by
 unfold Zt
 induction h with
 |slnil=>exact Nat.le_refl _
 |cons x _ ih=>rw[List.flatMap_cons,List.length_append];omega
 |cons_cons x _ ih=>rw[List.flatMap_cons,List.flatMap_cons,List.length_append,List.length_append];omega
theorem Xgk (x:Stp)(key:Str):(Qp (Hq x key)).length≤(Qp x).length:=by
 show(x.1++Zt (x.2.filter fun k=>k.1 != key)).length≤(x.1++Zt x.2).length
 rw[List.length_append,List.length_append]
 have:=keysT_sub (List.filter_sublist (p:=fun k:Str×Str=>k.1 != key) (l:=x.2))
 omega
theorem Qgv {x:Stp}{key:Str}:Jy x key=false↔∀k∈x.2,k.1≠key:=by
 unfold Jy;rw[List.any_eq_false]
 constructor
 ·intro h k hk e;exact h k hk (by simp[e])
 ·intro h k hk
  have:=h k hk
  simpa using this
theorem Qkv {key:Str}{f:Stp→Stp}:∀{l:List Stp},(∀x∈l,Jy x key=false)→Qyv key f l=none
 |[],_=>rfl
 |x::r,h=>by
  rw[Qyv,Qkv fun y hy=>h y (List.mem_cons_of_mem _ hy)]
  simp[h x (List.mem_cons_self ..)]
theorem Qgw {key:Str}{f:Stp→Stp}:∀{l:List Stp}{n:Nat}(hn:n<l.length),Jy (l[n]'hn) key=true→(∀m (hm:m<l.length),n<m→Jy (l[m]'hm) key=false)→Qyv key f l=some (l.set n (f (l[n]'hn)))
 |x::r,0,hn,h,h2=>by
  rw[Qyv,Qkv fun y hy=>by
   obtain⟨m,hm,rfl⟩:=List.getElem_of_mem hy
   exact h2 (m+1) (by simp;omega) (by omega)]
  have h':Jy x key=true:=h
  simp[h']
 |x::r,n+1,hn,h,h2=>by
  have hn':n<r.length:=by simpa using hn
  rw[Qyv,Qgw hn' h fun m hm hlt=>h2 (m+1) (by simp;omega) (by omega)]
  rfl
theorem Qrk {α:Type}{l:List α}{i:Nat}(hi:i<l.length):l=l.take i++(l[i]'hi)::l.drop (i+1):=by
 rw[←List.drop_eq_getElem_cons hi,List.take_append_drop]
theorem Xqy {ks:List (Str×Str)}(hp:ks.Pairwise (fun a b=>a.1<b.1)){i:Nat}(hi:i<ks.length):∀k∈ks.drop (i+1),k.1≠(ks[i]'hi).1:=fun k hk e=>by
 rw[Qrk hi,List.pairwise_append]at hp
 have:=(List.pairwise_cons.1 hp.2.1).1 k hk
 rw[e]at this;exact List.lt_irrefl _ this
theorem drop_key {ks:List (Str×Str)}{key:Str}(hp:ks.Pairwise (fun a b=>a.1<b.1)){i:Nat}(hi:i<ks.length)(h:(ks[i]'hi).1=key)(h2:∀j (hj:j<i),(ks[j]'(by omega)).1≠key):ks.take i++ks.drop (i+1)=ks.filter fun k=>k.1 != key:=by
 have h3:=Xqy hp hi;rw[h]at h3
 conv=>rhs;rw[Qrk hi]
 rw[List.filter_append,List.filter_cons,if_neg (by simp[h])];rw[List.filter_eq_self.2 fun k hk=>by
  obtain⟨j,hj,rfl⟩:=List.getElem_of_mem hk
  rw[List.getElem_take];rw[List.length_take]at hj
  simpa using h2 j (by omega),List.filter_eq_self.2 fun k hk=>by simpa using h3 k hk]
theorem set_key {ks:List (Str×Str)}{key v:Str}(hp:ks.Pairwise (fun a b=>a.1<b.1)){i:Nat}(hi:i<ks.length)(h:(ks[i]'hi).1=key)(h2:∀j (hj:j<i),(ks[j]'(by omega)).1≠key):ks.set i (key,v)=ks.map fun k=>if k.1=key then(key,v)else k:=by
 have h3:=Xqy hp hi;rw[h]at h3
 conv=>rhs;rw[Qrk hi]
 rw[List.map_append,List.map_cons,if_pos h,List.set_eq_take_append_cons_drop,if_pos hi]
 congr 1
 ·symm
  conv=>rhs;rw[←List.map_id (ks.take i)]
  refine List.map_congr_left fun k hk=>?_
  obtain⟨j,hj,rfl⟩:=List.getElem_of_mem hk
  rw[List.length_take]at hj;rw[List.getElem_take,if_neg (h2 j (by omega))];rfl
 ·congr 1
  symm
  conv=>rhs;rw[←List.map_id (ks.drop (i+1))]
  exact List.map_congr_left fun k hk=>by rw[if_neg (h3 k hk)];rfl
theorem Xnz:∀{l:List Stp}{n:Nat}(hn:n<l.length){y:Stp},(Qp y).length≤(Qp (l[n]'hn)).length→szS (l.set n y)≤szS l
 |x::r,0,_,y,h=>by
  have h':(Qp y).length≤(Qp x).length:=h;rw[List.set_cons_zero,Cm,Cm];omega
 |x::r,n+1,hn,y,h=>by
  rw[List.set_cons_succ,Cm,Cm]
  have:=Xnz (l:=r) (n:=n) (by simpa using hn) (y:=y) h
  omega
theorem Qgy {α:Type}{p:α→Prop}{l:List α}{n:Nat}{y:α}(h:∀x∈l,p x)(hy:p y):∀x∈l.set n y,p x:=fun x hx=>by
 rcases List.mem_or_eq_of_mem_set hx with h' |rfl
 ·exact h x h'
 ·exact hy
theorem Ms {p key:Str}{l:List Stp}(hl:Qy p=some l){n:Nat}(hn:n<l.length):Zw (l.set n (Hq (l[n]'hn) key))=some (Zk (l.set n (Hq (l[n]'hn) key))):=by
 obtain⟨h1,h2,h3,h4,_⟩:=Zy hl
 rw[List.all_eq_true]at h1 h2;exact put_ok (Qgy h1 (may_take (h1 _ (List.getElem_mem hn)) key)) (by rw[List.length_set];exact h3) (List.all_eq_true.2 (Qgy h2 (fit_take (h2 _ (List.getElem_mem hn)) key))) (Nat.le_trans (Xnz hn (Xgk _ _)) (Rq h4))
end
section
open Go.Lib
theorem Xnx {x:Stp}{key:Str}:decide ((Hq x key).2.length<x.2.length)=Jy x key:=by
 cases h:Jy x key with
 |false =>
  refine decide_eq_false fun hl=>?_
  have:(Hq x key).2=x.2:=List.filter_eq_self.2 fun k hk=>by simpa using Qgv.1 h k hk
  rw[this]at hl;exact Nat.lt_irrefl _ hl
 |true =>
  refine decide_eq_true ?_;unfold Jy at h
  obtain⟨k,hk,e⟩:=List.any_eq_true.1 h
  exact List.length_filter_lt_length_iff_exists.2 ⟨k,hk,by simpa using e⟩
def Yq (key v:Str):Bool→List (Str×Str)→List (Str×Str)
 |done,[]=>if done then []else [(key,v)]
 |true,k::r=>(if k.1=key then []else [k])++Yq key v true r
 |false,k::r=>if k.1<key then k::Yq key v false r else(key,v)::((if k.1=key then []else [k])++Yq key v true r)
theorem Xqh {key v:Str}:∀{ks:List (Str×Str)},(∀k∈ks,k.1≠key)→Yq key v true ks=ks
 |[],_=>rfl
 |k::r,h=>by
  rw[Yq,if_neg (h k (List.mem_cons_self ..)),Xqh fun x hx=>h x (List.mem_cons_of_mem _ hx)]
  rfl
theorem Xqg {key v:Str}:∀{ks:List (Str×Str)},ks.Pairwise (fun a b=>a.1<b.1)→(ks.any fun k=>k.1==key)=true→Yq key v false (ks.filter fun k=>k.1 != key)=ks.map fun k=>if k.1=key then(key,v)else k
 |[],_,h=>by cases h
 |k::r,hp,h=>by
  obtain⟨h1,h2⟩:=List.pairwise_cons.1 hp
  by_cases hk:k.1=key
  ·rw[List.filter_cons,if_neg (by simp[hk]),List.map_cons,if_pos hk];have hne:∀x∈r,key<x.1:=fun x hx=>hk▸h1 x hx
   have hf:r.filter (fun k=>k.1 != key)=r:=List.filter_eq_self.2 fun x hx=>by
    have:=hne x hx
    simp only[bne_iff_ne,ne_eq];intro e;rw[e]at this;exact List.lt_irrefl _ this
   have hm:r.map (fun k=>if k.1=key then(key,v)else k)=r:=by
    conv=>rhs;rw[←List.map_id r]
    refine List.map_congr_left fun x hx=>?_
    rw[if_neg (fun e=>by have:=hne x hx;rw[e]at this;exact List.lt_irrefl _ this)]
    rfl
   rw[hf,hm]
   cases r with
   |nil=>rfl
   |cons x s =>
    have hx:=hne x (List.mem_cons_self ..);have hxk:x.1≠key:=fun e=>by rw[e]at hx;exact List.lt_irrefl _ hx
    rw[Yq,if_neg (fun e=>List.lt_irrefl _ (List.lt_trans hx e)),if_neg hxk,Xqh fun y hy e=>by
     have:=hne y (List.mem_cons_of_mem _ hy)
     rw[e]at this;exact List.lt_irrefl _ this]
    rfl
  ·have h':(r.any fun k=>k.1==key)=true:=by
    simp only[List.any_cons,Bool.or_eq_true,beq_iff_eq]at h;exact h.resolve_left hk
   obtain⟨y,hy,e⟩:=List.any_eq_true.1 h'
   have hlt:k.1<key:=by
    have:=h1 y hy
    rw[beq_iff_eq.1 e]at this;exact this
   rw[List.filter_cons,if_pos (by simp[hk]),List.map_cons,if_neg hk,Yq,if_pos hlt,Xqg h2 h']
theorem put_take {x:Stp}{key v:Str}(hm:Kr x=true)(h:Jy x key=true):((Hq x key).1,Yq key v false (Hq x key).2)=Bv key v x:=by
 unfold Bv;rw[←Xqg (Tv hm).2.1 h]
 rfl
theorem ins_go (key v:Str):∀(done:Bool)(k:Str×Str)(r:List (Str×Str)),Yq key v done (k::r)=(if done=false∧¬k.1<key then [(key,v)]else [])++(if k.1=key then []else [k])++Yq key v (done||!decide (k.1<key)) r
 |true,k,r=>by simp[Yq]
 |false,k,r=>by
  by_cases h:k.1<key
  ·have hne:k.1≠key:=fun e=>by rw[e]at h;exact List.lt_irrefl _ h
   simp[Yq,h,hne]
  ·simp[Yq,h]
end
section
open Go.RowKit Go.Lib
theorem Xgv {l:List (Str×Str)}{p:Str×Str→Bool}{m:Nat}(hm:m<l.length):(l.take (m+1)).filter p=(l.take m).filter p++(if p (l[m]'hm)=true then [l[m]'hm]else []):=by
 rw[List.take_succ_eq_append_getElem hm,List.filter_append]
 cases h:p (l[m]'hm) <;> simp[h]
def Xnj (w:World)(n:Str)(ks:List (Str×Str))(ok:Bool)(e:Ending)(w':World):Prop:=∃a c,e=.returned (.tuple #[.agg #[.string ⟨n.toArray⟩,.slice a ks.length c],.bool ok])∧Qd w' w.heap.size (.slice a ks.length c) ks∧Below w.heap.size w w'
theorem take_ret {V:World}{Rb:Nat}{a0 a1:Value}{ok:Bool}(hr:V.heap[Rb]?=some (.cells #[a0,a1] 82 (0,0))){Q:Ending→World→Prop}{a:Act}(hd:a.defers=[])
  (h2:a.tmps.getD 4 undef=.pointer (some ⟨Rb,0,none⟩))(h3:a.tmps.getD 5 undef=.bool ok)(hQ:Q (.returned (.tuple #[.agg #[a0,a1],.bool ok])) V) :
  bodyPost Tryz.prog Tryz.f33 Q Exit.ret a V:=by
 obtain⟨e0,e1,_,_,_⟩:=Qq hr
 refine bodyPost_ret (v:=.tuple #[.agg #[a0,a1],.bool ok]) ?_ hd hQ
 obtain⟨tmps,defers⟩:=a
 simp only[Array.getD_eq_getD_getElem?]at h2 h3
 simp[results,Tryz.results33,go_sem,h2,h3,e0,e1]
theorem Gp {b:Nat}{w W W':World}{v:Value}(h:Qf b w W)(g:W.grownBy W' v.ownBlock)(hv:∀k,v.ownBlock=some k→w.heap.size≤k):Qf b w W' :=
 ⟨g.os.trans h.os,g.tape.trans h.tape,g.output.trans h.output,Nat.le_trans h.size g.size,fun i hi hne=>(g.block i (Nat.lt_of_lt_of_le hi h.size) (fun e=>by have:=hv i e.symm;omega)).trans (h.block i hi hne)⟩
theorem Zwg (w:World)(n key:Str)(ks:List (Str×Str))(kv:Value)(hr:RdP w kv ks)(hz:ks.length≤100000) :
  Calls Tryz.prog 33 #[.agg #[.string ⟨n.toArray⟩,kv],.string ⟨key.toArray⟩] w fun e w'=>Xnj w n (ks.filter fun k=>k.1 != key) (decide ((ks.filter fun k=>k.1 != key).length<ks.length)) e w':=by
 obtain⟨ao,cp,rfl,h63,hcell⟩:=Xm hr
 have HCELL:=hid hcell;have HZ:=hid hz;have HB1:=hid (bal w (.cells #[.string ⟨n.toArray⟩,.slice ao ks.length cp] 82));have F1:=hid (heap_alloc_new w (.cells #[.string ⟨n.toArray⟩,.slice ao ks.length cp] 82));clear hr hcell hz
 go_enter Tryz.func33,Tryz.ntmps33
 go_upto_region 1 with fail;have HZ1:=hid (show(w.alloc (.cells #[.string ⟨n.toArray⟩,.slice ao ks.length cp] 82)).heap.size=w.heap.size+1 by simp);generalize w.alloc (.cells #[.string ⟨n.toArray⟩,.slice ao ks.length cp] 82)=w1 at *;have HB2:=hid (show Below w.heap.size w (w1.alloc (.cells #[.string ⟨#[]⟩,.slice none 0 0] 82))from HB1.out.alloc HB1.out.size _);have F2:=hid ((Below.heap_alloc w1 (.cells #[.string ⟨#[]⟩,.slice none 0 0] 82) _ (lt_of_block F1.out)).trans F1.out);have R2:=hid (show(w1.alloc (.cells #[.string ⟨#[]⟩,.slice none 0 0] 82)).heap[w.heap.size+1]?=some (.cells #[.string ⟨#[]⟩,.slice none 0 0] 82 (0,0))from by have h:=heap_alloc_new w1 (.cells #[.string ⟨#[]⟩,.slice none 0 0] 82);rwa [HZ1.out]at h);generalize w1.alloc (.cells #[.string ⟨#[]⟩,.slice none 0 0] 82)=w2 at *
 obtain⟨s0,s1,_,_,sl⟩:=Qq F2.out
 have HB3:=hid (show Below w.heap.size w (w2.alloc (.cells #[.string ⟨n.toArray⟩,.slice none 0 0] 82))from HB2.out.alloc HB2.out.size _);have F3:=hid ((Below.heap_alloc w2 (.cells #[.string ⟨n.toArray⟩,.slice none 0 0] 82) _ (lt_of_block F2.out)).trans F2.out);have R3:=hid ((Below.heap_alloc w2 (.cells #[.string ⟨n.toArray⟩,.slice none 0 0] 82) _ (lt_of_block R2.out)).trans R2.out);have O3:=hid (heap_alloc_new w2 (.cells #[.string ⟨n.toArray⟩,.slice none 0 0] 82));have HRO:=hid (show w.heap.size+1<w2.heap.size from lt_of_block R2.out);go_upto_region 2 with fail;generalize w2.alloc (.cells #[.string ⟨n.toArray⟩,.slice none 0 0] 82)=w3 at *;clear s0 s1 sl HB1 HB2 F1 F2 R2;generalize w2.heap.size=Ob at *;have HO3:=hid (lt_of_block O3.out)
 obtain⟨s0,s1,_,_,sl⟩:=Qq F3.out
 go_wp2_with fail
 go_loopg[15] ks.length (fun g v15 W=>∃(m:Nat) (u:Value) (done:List (Str×Str)),m≤ks.length∧ks.length≤m+g∧v15=.int .i64 m∧W.heap[Ob]?=some (.cells #[.string ⟨n.toArray⟩,u] 82 (0,0))∧Qd W w3.heap.size u done∧Qf Ob w3 W∧done=(ks.take m).filter (fun k=>k.1 != key))
 case atStart=>exact⟨0,_,[],Nat.zero_le _,by omega,rfl,O3.out,⟨rfl,Or.inl ⟨rfl,rfl⟩⟩,Qf.refl _ _,rfl⟩
 case round =>
  obtain⟨m,u,done,hm,hg,rfl,hrow,hou,hon,hdn⟩:=hrel
  rename World=>w4
  have HG:=hid hg;have HDN:=hid hdn;have HDL:=hid (show done.length≤m from by rw[hdn];exact Nat.le_trans (List.length_filter_le ..) (by rw[List.length_take];omega));have O4:=hid hrow;have OU4:=hid hou;have ON4:=hid hon;have B4:=hid (HB3.out.grown hon HB3.out.size (fun k hk=>by cases hk;have:=HRO.out;omega));have F4:=hid ((hon.block _ (lt_of_block F3.out) (fun e=>by have h:=Option.some.inj e;have:=HRO.out;omega)).trans F3.out);have R4:=hid ((hon.block _ (lt_of_block R3.out) (fun e=>by have h:=Option.some.inj e;have:=HRO.out;omega)).trans R3.out);clear hg hdn hrow hou hon O3 s0 s1 sl
  obtain⟨au,cu,rfl⟩:=Zx OU4.out
  have UGE:=hid (fun k (e:(Value.slice au done.length cu).ownBlock=some k)=>(World.ownsRow.lt OU4.out k e).1);have UNE:=hid (show(Value.slice au done.length cu).ownBlock≠some Ob from fun e=>by have h1:=UGE.out _ e;have h2:=HO3.out;omega)
  by_cases hlt:m<ks.length
  ·have hni:(m:Int)<(ks.length:Int):=by omega
   have hn0:(0:Int)≤(m:Int):=by omega
   have hnz:(ks.length:Int)≤100000:=by have:=HZ.out;omega
   obtain⟨p,o,rfl,hp,q0,q1⟩:=HCELL.out m hlt
   have r0:=(B4.out.cell (p:=⟨p,o+m * 2,none⟩) hp).trans q0;have r1:=(B4.out.cell (p:=⟨p,o+m * 2+1,none⟩) hp).trans q1;have hp2:p<w4.heap.size:=Nat.lt_of_lt_of_le hp B4.out.size;have HST:=hid (show(ks.take (m+1)).filter (fun k=>k.1 != key)=done++(if((ks[m]'hlt).1 != key)=true then [ks[m]'hlt]else [])by rw[HDN.out];exact Xgv hlt);clear q0 q1;generalize ks[m]'hlt=kv at *
   obtain⟨ky,v⟩:=kv
   simp only at r0 r1 HST;have HA5:=hid (bal w4 (.cells #[.string ⟨ky.toArray⟩,.string ⟨v.toArray⟩] 37));have X5:=hid (heap_alloc_new w4 (.cells #[.string ⟨ky.toArray⟩,.string ⟨v.toArray⟩] 37));go_upto_region 5 with fail;generalize w4.alloc (.cells #[.string ⟨ky.toArray⟩,.string ⟨v.toArray⟩] 37)=w5 at *;have O5:=hid (bk HA5.out O4.out);have OU5:=hid (show Qd w5 w3.heap.size _ done from Qz OU4.out HA5.out);have ON5:=hid (ON4.out.below HA5.out);have HBZ5:=hid ON5.out.size;clear r0 r1 hp2 O4 OU4 ON4 HA5 F4 R4 B4;generalize w4.heap.size=Xb at *
   obtain⟨x0,x1,xf0,xf1,xl⟩:=Qq X5.out
   obtain⟨d0,d1,df0,df1,dl⟩:=Qq O5.out
   by_cases he:ky=key
   ·have hs1:(ky != key)=false:=by rw[he];simp
    have hs2:(ky==key)=true:=by rw[he];simp
    have HST2:=hid (show(ks.take (m+1)).filter (fun k=>k.1 != key)=done from by rw[HST.out,hs1];simp);clear he;go_wp2_with fail
    go_roundg (gk-1)
    case measure=>have:=HG.out;omega
    case rel=>exact⟨m+1,_,done,by omega,by have:=HG.out;omega,by simp,O5.out,OU5.out,ON5.out,HST2.out.symm⟩
   ·have hs1:(ky != key)=true:=bne_iff_ne.2 he;have hs2:(ky==key)=false:=beq_eq_false_iff_ne.2 he;have HST2:=hid (show(ks.take (m+1)).filter (fun k=>k.1 != key)=done++[(ky,v)]from by rw[HST.out,hs1];simp);clear he
    go_wp2_with (at_builtin;refine Xc rfl (.tmp 24) (.tmp 26) rfl w3.heap.size _ done (ky,v) rfl OU5.out rfl (by have:=HDL.out;have:=HZ.out;omega) HBZ5.out ?_;intro v8 w8 own8 gr8 mv8;obtain⟨a8,c8,rfl⟩:=Zx own8;have O8:=hid ((gr8.block _ (lt_of_block O5.out) (fun e=>UNE.out e.symm)).trans O5.out);have OU8:=hid own8;have ON8:=hid (Gp ON5.out gr8 UGE.out);clear own8 gr8 mv8 d0 d1 df0 df1 dl;obtain⟨d0,d1,df0,df1,dl⟩:=Qq O8.out)
    go_roundg (gk-1)
    case measure=>have:=HG.out;omega
    case rel =>
     have o8:=OU8.out;simp only[List.length_append,List.length_cons,List.length_nil,Nat.zero_add]at o8
     exact⟨m+1,.slice a8 (done.length+1) c8,done++[(ky,v)],by omega,by have:=HG.out;omega,by simp,by rw[heap_setCell_same _ _ _ _ _ _ O8.out];simp,Qb o8 (Qx o8 O8.out (by decide)) 1 _,ON8.out.set _ _,HST2.out.symm⟩
  ·have hni:¬(m:Int)<(ks.length:Int):=by omega
   have HDO:=hid (show done=ks.filter (fun k=>k.1 != key)by rw[HDN.out,List.take_of_length_le (by omega)])
   obtain⟨d0,d1,df0,df1,dl⟩:=Qq O4.out
   obtain⟨p0,p1,pf0,pf1,pl⟩:=Qq F4.out
   obtain⟨z0,z1,zf0,zf1,zl⟩:=Qq R4.out
   have hne1:Ob≠w.heap.size+1:=by have:=HRO.out;omega
   have hk:=fun a0 a1=>Qq (show((w4.setCell ⟨w.heap.size+1,0,none⟩ a0).setCell ⟨w.heap.size+1,1,none⟩ a1).drew.heap[Ob]?=some (.cells #[.string ⟨n.toArray⟩,.slice au done.length cu] 82 (0,0)) from(heap_setCell_other _ _ _ _ (by simp;exact fun e=>absurd e hne1)).trans ((heap_setCell_other _ _ _ _ (by simp;exact fun e=>absurd e hne1)).trans O4.out))
   have hk0:=(hk (.string ⟨n.toArray⟩) (.slice au done.length cu)).1;have hk1:=(hk (.string ⟨n.toArray⟩) (.slice au done.length cu)).2.1;clear hk;go_upto_region 8 with fail
   go_region_held3 (fun W=>W.cell? ⟨Ob,0,none⟩=some (.string ⟨n.toArray⟩)∧W.cell? ⟨Ob,1,none⟩=some (.slice au done.length cu)∧W.cell? ⟨w.heap.size,1,none⟩=some (.slice ao ks.length cp)) (first|with_reducible assumption|go_keep) (fail)
   all_goals
    go_wp2_with fail;refine take_ret (a0:=.string ⟨n.toArray⟩) (a1:=.slice au done.length cu) (ok:=decide (done.length<ks.length)) (Rb:=w.heap.size+1) ?_ rfl ?_ ?_ ?_
    ·exact Qby _ _ R4.out
    ·rfl
    ·rfl
    ·rw[←HDO.out]
     exact⟨au,cu,rfl,Ks (Qxj _ _ OU4.out (Qx OU4.out R4.out (by decide))) (by have:=HB3.out.size;omega),(Zr _ _ B4.out (Nat.le_succ _)).drew⟩
end
end Go.Proofs.YtbbmdbolkicpcabGreatDoor
