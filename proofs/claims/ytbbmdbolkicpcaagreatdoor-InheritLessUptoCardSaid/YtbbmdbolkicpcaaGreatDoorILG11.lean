/- PtCatB, PtPut, PtPutG, PtRest, PtRestB, AliasP -/
import Derived.Test.YtbbmdbolkicpcaaGreatDoorILG10
import Derived.Test.YtbbmdbolkicpcaaGreatDoorILShelf
import Derived.Test.YtbbmdbolkicpcaaGreatDoorILG08
import Derived.Test.YtbbmdbolkicpcaaGreatDoorILG04
import Derived.Test.YtbbmdbolkicpcaaGreatDoorILG05
set_option maxRecDepth 100000
set_option maxHeartbeats 32000000
set_option linter.unusedVariables false
set_option linter.unusedSimpArgs false
namespace Go.Proofs.YtbbmdbolkicpcaaGreatDoor
section
open Go.RowKit Go.Lib
def RdLs (w:World)(v:Value)(ls:List (List (Stp×(Option Addr×Nat)))):Prop :=
 ∃ ao cp,v=.slice ao ls.length cp∧∀ n (hn:n<ls.length),∃ p o u,ao=some ⟨p,o,none⟩∧p<w.heap.size∧w.cell? ⟨p,o+n,none⟩=some u∧RdL Xf w u (ls[n]'hn)
theorem flat_take {α:Type}{ls:List (List α)}{k:Nat}(h:k<ls.length):(ls.take (k+1)).flatten=(ls.take k).flatten++(ls[k]'h):=by
 rw [List.take_succ_eq_append_getElem h,List.flatten_append]
 simp
theorem flat_take_le {α:Type}(ls:List (List α))(k:Nat):(ls.take k).flatten.length≤ls.flatten.length:=by
 conv=>rhs;rw [← List.take_append_drop k ls,List.flatten_append,List.length_append]
 omega
theorem concat_any (w:World)(va:Value)(ls:List (List (Stp×(Option Addr×Nat))))(hr:RdLs w va ls)(hl:ls.length≤1000000)(hs:ls.flatten.length≤1000000000) :
  Calls Tryz.prog 113 #[va] w fun e w'=>∃ v,e=.returned v∧Qf Xf 106 w' w.heap.size v ls.flatten∧Below w.heap.size w w':=by
 obtain⟨ao,cp,rfl,hcell⟩:=hr
 have HCELL:=hid hcell;have HS:=hid hs;have hlz:(ls.length:Int)≤1000000:=by omega
 have GR:=hid (grow_any w ls.flatten.length hs);clear hcell hs
 go_enter Tryz.func113,Tryz.ntmps113
 go_upto_region 3 with fail
 go_loopg [3,11] ls.length (fun g v3 v11 W=>∃ k:Nat,k≤ls.length∧ls.length≤k+g∧v3=.int .i64 (ls.take k).flatten.length∧v11=.int .i64 k∧W=w)
 case atStart=>exact⟨0,Nat.zero_le _,by omega,rfl,rfl,rfl⟩
 case round =>
  obtain⟨k,hk,hg,rfl,rfl,rfl⟩:=hrel
  rename World=>w
  have HG:=hid hg;clear hg
  by_cases hlt:k<ls.length
  ·have hni:(k:Int)<(ls.length:Int):=by omega
   have hn0:(0:Int)≤(k:Int):=by omega
   obtain⟨p,o,u,rfl,hp,q0,hu⟩:=HCELL.out k hlt
   obtain⟨a1,c1,rfl,_⟩:=hu.slice
   have HF:=hid (congrArg List.length (flat_take hlt));have hle:=flat_take_le ls (k+1);rw [HF.out,List.length_append] at hle;have hS0:(0:Int)≤((ls.take k).flatten.length:Int)+((ls[k]'hlt).length:Int):=by omega
   have hS1:((ls.take k).flatten.length:Int)+((ls[k]'hlt).length:Int)≤1000000000:=by have:=HS.out;omega
   have HFI:=hid (show((ls.take (k+1)).flatten.length:Int)=((ls.take k).flatten.length:Int)+((ls[k]'hlt).length:Int) by have:=HF.out;rw [List.length_append] at this;omega);clear hle hu;generalize (ls[k]'hlt).length=m at *;generalize (ls.take k).flatten.length=S at *;have hm0:(0:Int)≤(S:Int):=by omega
   have hm1:(0:Int)≤(m:Int):=by omega
   go_wp2_with fail
   go_roundg (gk - 1)
   case measure=>have:=HG.out;omega
   case rel=>exact⟨k+1,by omega,by have:=HG.out;omega,by rw [HFI.out],by simp,rfl⟩
  ·have hni:¬ (k:Int)<(ls.length:Int):=by omega
   have hkn:k=ls.length:=by omega
   subst hkn;rw [List.take_length]
   obtain⟨N,hN⟩:∃ N,N=ls.flatten.length:=⟨_,rfl⟩
   have hN0:(0:Int)≤(N:Int):=by omega
   have hN1:(N:Int)≤1000000000:=by have:=HS.out;omega
   rw [← hN] at GR ⊢;clear hN
   go_wp2_with (go_at_call 159;refine GR.out.mono ?_;rintro e w1 ⟨v1,rfl,o1,hb1⟩;have O1:=hid o1;have B1:=hid hb1;clear o1 hb1 GR)
   go_loopg [6,27] ls.length (fun g v6 v27 W=>∃ k:Nat,k≤ls.length∧ls.length≤k+g∧v27=.int .i64 k∧Qf Xf 106 W w.heap.size v6 (ls.take k).flatten∧Below w.heap.size w W)
   case atStart=>exact⟨0,Nat.zero_le _,by omega,rfl,O1.out,B1.out⟩
   case round =>
    obtain⟨k,hk2,hg2,rfl,o2,hb2⟩:=hrel
    rename World=>w2
    have HG2:=hid hg2;have O2:=hid o2;have B2:=hid hb2;clear hg2 o2 hb2 O1 B1
    by_cases hlt2:k<ls.length
    ·have hni2:(k:Int)<(ls.length:Int):=by omega
     have hn0:(0:Int)≤(k:Int):=by omega
     obtain⟨p,o,u,rfl,hp,q0,hu⟩:=HCELL.out k hlt2
     have r0:=(B2.out.cell (p:=⟨p,o+k,none⟩) hp).trans q0;have hp2:p<w2.heap.size:=Nat.lt_of_lt_of_le hp B2.out.size;have HU:=hid (hu.below B2.out);have HF:=hid (flat_take hlt2);have hle:=flat_take_le ls (k+1);rw [HF.out,List.length_append] at hle;have HLE:=hid hle;have HZ:=hid B2.out.size
     obtain⟨a1,c1,rfl,_⟩:=hu.slice
     clear hle hu q0
     go_wp2_with (at_builtin;refine wpList_appL (E:=Xf) rfl (.tmp 31) (.tmp 32) rfl Tryz.underlying99 infoSt rfl (by decide) w.heap.size _ (ls.take k).flatten (ls[k]'hlt2) rfl O2.out rfl HU.out (by have:=HLE.out;have:=HS.out;unfold maxLen;omega) (by have:=HLE.out;have:=HS.out;omega) HZ.out ?_;intro v3 w3 own gr;have O3:=hid (show Qf Xf 106 w3 w.heap.size v3 (ls.take (k+1)).flatten by rw [HF.out];exact own);have B3:=hid (B2.out.grown gr HZ.out (fun k hk=>(World.ownsRow.lt O2.out k hk).1));clear own gr)
     go_roundg (gk - 1)
     case measure=>have:=HG2.out;omega
     case rel=>exact⟨k+1,by omega,by have:=HG2.out;omega,by simp,O3.out,B3.out⟩
    ·have hni2:¬ (k:Int)<(ls.length:Int):=by omega
     have hkn:k=ls.length:=by omega
     subst hkn;have HO:=hid (show Qf Xf 106 w2 w.heap.size _ ls.flatten from by have:=O2.out;rw [List.take_length] at this;exact this);go_wp2_with fail;exact bodyPost_ret (by simp [results,Tryz.results113,go_sem]) rfl ⟨_,rfl,HO.out,B2.out⟩
end
section
open Go.RowKit Go.Lib
theorem join_any (w:World)(B:Nat)(v:Value)(l:List Str)(h:Qg w B v l)(hl:l.length≤1000)(hj:(Lib.join l [47]).length≤140737488355328) :
  Calls Tryz.prog 116 #[v,.string ⟨#[47]⟩] w fun e w'=>e=.returned (.string ⟨(Lib.join l [47]).toArray⟩)∧Below w.heap.size w w':=by
 have hx:(l.map (fun s:Str=>(⟨s.toArray⟩:ByteArray))).map (·.data.toList)=l:=by
  rw [List.map_map]
  conv=>rhs;rw [← List.map_id l]
  rfl
 have hlen:(l.map (fun s:Str=>(⟨s.toArray⟩:ByteArray))).length=l.length:=List.length_map _
 rcases h.shape with ⟨rfl,rfl⟩ | ⟨g,cap,cur,rfl,hB,hg,hn,hm,hs,ht⟩
 ·refine(Tryz.strings_Join_none none 0 ⟨#[47]⟩ w).mono ?_
  rintro e w' ⟨rfl,rfl⟩
  exact⟨rfl,Below.refl _ _⟩
 ·have:=Tryz.strings_Join g 0 cap (l.map (fun s:Str=>(⟨s.toArray⟩:ByteArray))) ⟨#[47]⟩ w (fun j x hx=>by
   rw [Nat.zero_add];rw [List.getElem?_map] at hx
   obtain⟨s,hs2,rfl⟩:=Option.map_eq_some_iff.1 hx
   exact cells_at hg ht j _ (by rw [List.getElem?_map,hs2];rfl)) (lt_of_block hg) (by rw [hlen];omega) (by rw [hlen];exact hn) (by rw [hx];exact hj)
  rw [hx,hlen] at this;exact this
def szS (m:List Stp):Nat:=(m.map (fun x=>(Zw x).length+1)).sum
theorem szS_cons (x:Stp)(m:List Stp):szS (x::m)=(Zw x).length+1+szS m:=by simp [szS]
theorem szS_join:∀ m:List Stp,m≠[]→szS m=(Zb m).length+1
 | [],h=>absurd rfl h
 | [x],_=>by simp [szS,Zb]
 | x::y::r,_=>by
  have ih:=szS_join (y::r) (by simp);rw [szS_cons,ih,join_cons x (by simp),List.length_append,List.length_cons]
  omega
theorem szS_append (a b:List Stp):szS (a++b)=szS a+szS b:=by simp [szS]
theorem szS_take {m:List Stp}{k:Nat}(h:k<m.length):szS (m.take (k+1))=szS (m.take k)+((Zw (m[k]'h)).length+1):=by
 rw [List.take_succ_eq_append_getElem h,szS_append]
 simp [szS]
theorem szS_take_le (m:List Stp)(k:Nat):szS (m.take k)≤szS m:=by
 conv=>rhs;rw [← List.take_append_drop k m,szS_append]
 omega
theorem szS_513 {m:List Stp}(h:(Zb m).length≤512):szS m≤513:=by
 by_cases e:m=[]
 ·subst e;simp [szS]
 ·rw [szS_join m e];omega
theorem join_texts:∀ m:List Stp,Lib.join (m.map Zw) [47]=Zb m
 | []=>rfl
 | [x]=>by rw [List.map_cons,List.map_nil,Lib.join_one];rfl
 | x::y::r=>by
  have ih:=join_texts (y::r);rw [join_cons x (by simp),← ih];rw [List.map_cons,Lib.join_cons,List.map_cons,Lib.join_cons]
  simp [Lib.joinTail]
theorem text_take {m:List Stp}{k:Nat}(h:k<m.length):(m.take (k+1)).map Zw=(m.take k).map Zw++[Zw (m[k]'h)]:=by
 rw [List.take_succ_eq_append_getElem h,List.map_append]
 rfl
theorem text_le {m:List Stp}{k:Nat}(h:k<m.length):(Zw (m[k]'h)).length≤szS m:=by
 have h1:=szS_take h;have h2:=szS_take_le m (k+1)
 omega
theorem print_parts {m:List Stp}{t:Str}(h:Zy m=some t):(∀ x∈m,mayB x=true∧fitB x=true)∧m.length≤64∧(Zb m).length≤512∧t=Zb m:=by
 unfold Zy at h
 split at h
 ·next hc =>
  simp only [Bool.and_eq_true,List.all_eq_true,decide_eq_true_eq] at hc
  exact⟨fun x hx=>⟨hc.1.1.1 x hx,hc.1.1.2 x hx⟩,hc.1.2,hc.2,(Option.some.inj h).symm⟩
 ·cases h
theorem pput_any (w:World)(va:Value)(ls:List (List (Stp×(Option Addr×Nat))))(t:Str)(hr:RdLs w va ls)(hk:∀ z∈ls.flatten,RdP w (Qt z) z.1.2)(hl:ls.length≤1000000)(hp:Zy (ls.flatten.map (·.1))=some t) :
  Calls Tryz.prog 89 #[va] w fun e w'=>e=.returned (.tuple #[.string ⟨t.toArray⟩,.int .i64 0])∧Below w.heap.size w w':=by
 obtain⟨hall,h64,h512,rfl⟩:=print_parts hp
 have CC:=hid (concat_any w va ls hr hl (by rw [List.length_map] at h64;omega));have HK:=hid hk;have HALL:=hid hall;have H64:=hid h64;have H512:=hid h512;clear hr hk hall h64 h512 hp hl
 obtain⟨zs,hzs⟩:∃ zs,zs=ls.flatten:=⟨_,rfl⟩
 rw [← hzs] at CC HK HALL H64 H512 ⊢;clear hzs;have HML:=hid (show(zs.map (·.1)).length=zs.length from List.length_map _);have hzl:(zs.length:Int)≤64:=by have h1:=H64.out;rw [HML.out] at h1;omega
 go_enter Tryz.func89,Tryz.ntmps89
 go_wp2_with (go_at_call 113;refine CC.out.mono ?_;rintro e w1 ⟨v1,rfl,o1,hb1⟩;have O1:=hid o1;have B1:=hid hb1;clear CC hb1;obtain⟨a1,c1,rfl,hc1⟩:=o1.slice;clear o1)
 go_loopg [5,6,7,20] zs.length (fun g v5 v6 v7 v20 W=>∃ k:Nat,k≤zs.length∧zs.length≤k+g∧v5=.bool true∧v6=.int .i64 (szS ((zs.map (·.1)).take k))∧v20=.int .i64 k∧Qg W w.heap.size v7 (((zs.map (·.1)).take k).map Zw)∧Qf Xf 106 W w.heap.size (.slice a1 zs.length c1) zs∧Below w.heap.size w W)
 case atStart=>exact⟨0,Nat.zero_le _,by omega,rfl,rfl,rfl,⟨rfl,Or.inl ⟨rfl,rfl⟩⟩,O1.out,B1.out⟩
 case round =>
  obtain⟨k,hk,hg,rfl,rfl,rfl,os,oz,hb⟩:=hrel
  rename World=>w2
  have HG:=hid hg;have OS:=hid os;have OZ:=hid oz;have B2:=hid hb;clear hg os oz hb O1 B1;have HS2:=hid (Nat.le_trans (szS_take_le (zs.map (·.1)) k) (szS_513 H512.out))
  by_cases hlt:k<zs.length
  ·have hni:(k:Int)<(zs.length:Int):=by omega
   have hn0:(0:Int)≤(k:Int):=by omega
   have hltm:k<(zs.map (·.1)).length:=by rw [HML.out];exact hlt
   have hmk:(zs.map (·.1))[k]'hltm=(zs[k]'hlt).1:=List.getElem_map _;have HST:=hid (szS_take hltm);have HTT:=hid (text_take hltm);have HTL:=hid (Nat.le_trans (text_le hltm) (szS_513 H512.out));have HSX:=hid (Nat.le_trans (szS_take_le (zs.map (·.1)) (k+1)) (szS_513 H512.out));have HMB:=hid (HALL.out ((zs.map (·.1))[k]'hltm) (List.getElem_mem hltm));have hkeys:=HK.out (zs[k]'hlt) (List.getElem_mem hlt);rw [hmk] at HST HTT HTL HMB
   obtain⟨g,rfl⟩:=Qf.some' OZ.out (by intro e;rw [e] at hlt;simp at hlt)
   obtain⟨r0,_,gl⟩:=OZ.out.cell k 0 (.string ⟨((zs[k]'hlt).1.1).toArray⟩) hlt rfl
   obtain⟨r1,_,_⟩:=OZ.out.cell k 1 (Qt (zs[k]'hlt)) hlt rfl
   rw [Nat.add_zero] at r0;generalize zs[k]'hlt=z at *
   obtain⟨⟨nm,ks⟩,az,cz⟩:=z
   simp only [Qt] at r0 r1 hkeys HST HTT HTL HMB;have HA5:=hid (bal w2 (.cells #[.string ⟨nm.toArray⟩,.slice az ks.length cz] 106));have F5:=hid (heap_alloc_new w2 (.cells #[.string ⟨nm.toArray⟩,.slice az ks.length cz] 106));clear hmk;go_upto_region 8 with fail;generalize w2.alloc (.cells #[.string ⟨nm.toArray⟩,.slice az ks.length cz] 106)=w5 at *
   obtain⟨y0,y1,_,_,yl⟩:=Qq F5.out
   have B5:=hid (B2.out.then HA5.out);have OS5:=hid (show Qg w5 w.heap.size _ _ from Qz OS.out HA5.out);have OZ5:=hid (OZ.out.below HA5.out);have RK5:=hid (show RdP w5 (.slice az ks.length cz) ks from hkeys.below B5.out);clear HA5 OS OZ B2 hkeys r0 r1 gl;generalize w2.heap.size=Sb at *;have MY:=hid (pmay_any w5 (nm,ks) (.slice az ks.length cz) RK5.out HMB.out.1 (by have:=HTL.out;omega));rw [HMB.out.2] at MY;go_wp2_with fail;refine MY.out.mono ?_;rintro e w6 ⟨rfl,hb6⟩;have F6:=hid (bk hb6 F5.out);have B6:=hid (B5.out.then hb6);have OS6:=hid (show Qg w6 w.heap.size _ _ from Qz OS5.out hb6);have OZ6:=hid (OZ5.out.below hb6);have RK6:=hid (RK5.out.below hb6);clear hb6 y0 y1 yl F5 B5 OS5 OZ5 RK5 MY
   obtain⟨y0,y1,_,_,yl⟩:=Qq F6.out
   have TX:=hid (ptext_any w6 (nm,ks) (.slice az ks.length cz) RK6.out (by have:=HTL.out;omega));go_wp2_with fail;refine TX.out.mono ?_;rintro e w7 ⟨rfl,hb7⟩;have B7:=hid (B6.out.then hb7);have OS7:=hid (show Qg w7 w.heap.size _ _ from Qz OS6.out hb7);have OZ7:=hid (OZ6.out.below hb7);clear hb7 y0 y1 yl F6 B6 OS6 OZ6 RK6 TX;have HSI:=hid (show(szS ((zs.map (·.1)).take (k+1)):Int)=(szS ((zs.map (·.1)).take k):Int)+(((Zw (nm,ks)).length:Int)+1) by have:=HST.out;omega);have HTK:=hid (show(((zs.map (·.1)).take k).map Zw).length≤64 by have h1:=H64.out;rw [List.length_map,List.length_take];omega);generalize htx:Zw (nm,ks)=tx at *;generalize szS ((zs.map (·.1)).take k)=S at *;generalize ((zs.map (·.1)).take k).map Zw=T at *;have hS1:(S:Int)≤513:=by have:=HS2.out;omega
   have hS0:(0:Int)≤(S:Int):=by omega
   have htx1:(tx.length:Int)≤513:=by have:=HTL.out;omega
   have htx0:(0:Int)≤(tx.length:Int):=by omega
   have HZ7:=hid B7.out.size;have HAB:=hid (bal w7 (.cells #[.string ⟨tx.toArray⟩] 9))
   go_wp2_with (at_builtin;refine Xk rfl (.tmp 39) (.tmp 41) rfl w.heap.size _ T tx rfl OS7.out rfl (by have:=HTK.out;omega) HZ7.out ?_;intro v8 w8 own gr mv;have OS8:=hid (show Qg w8 w.heap.size v8 (T++[tx]) from own);have OZ8:=hid (show Qf Xf 106 w8 w.heap.size _ zs from World.ownsRow.kept OZ7.out gr (Kn OZ7.out OS7.out (by decide)));have B8:=hid (B7.out.grown gr HZ7.out (fun k hk=>(World.ownsRow.lt OS7.out k hk).1));clear own gr mv)
   go_wp2_with fail
   go_roundg (gk - 1)
   case measure=>have:=HG.out;omega
   case rel=>exact⟨k+1,by omega,by have:=HG.out;omega,rfl,by rw [HSI.out],by simp,by rw [HTT.out];exact OS8.out,OZ8.out,B8.out⟩
  ·have hni:¬ (k:Int)<(zs.length:Int):=by omega
   have hkn:k=zs.length:=by omega
   have HTA:=hid (show(zs.map (·.1)).take k=zs.map (·.1) by rw [hkn,← HML.out];exact List.take_length);rw [HTA.out] at OS HS2 ⊢;have JN:=hid (join_any w2 w.heap.size _ _ OS.out (by have h1:=H64.out;rw [List.length_map];omega) (by rw [join_texts];have:=H512.out;omega));rw [join_texts] at JN;generalize szS (zs.map (·.1))=S at *;have hS1:(S:Int)≤513:=by have:=HS2.out;omega
   have hS0:(0:Int)≤(S:Int):=by omega
   have hS2:(S:Int) - 1≤512:=by omega
   go_wp2_with (go_at_call 116;refine JN.out.mono ?_;rintro e w9 ⟨rfl,hb9⟩;have B9:=hid (B2.out.then hb9);clear hb9)
   exact bodyPost_ret (by simp [results,Tryz.results89,go_sem]) rfl ⟨rfl,B9.out⟩
end
section
open Go.RowKit Go.Lib
def putT (m:List Stp):Str:=(Zy m).getD []
def putE (m:List Stp):Nat:=if(Zy m).isSome then 0 else 3
theorem put_ok {m:List Stp}(hm:∀ x∈m,mayB x=true)(h1:m.length≤64)(h2:m.all fitB=true)(h3:szS m≤513):Zy m=some (Zb m):=by
 have hj:(Zb m).length≤512:=by
  cases m with
  | nil=>simp [Zb]
  | cons x r=>have:=szS_join (x::r) (by simp);omega
 unfold Zy;rw [if_pos];simp only [Bool.and_eq_true,List.all_eq_true,decide_eq_true_eq]
 exact⟨⟨⟨hm,List.all_eq_true.1 h2⟩,h1⟩,hj⟩
theorem put_no {m:List Stp}(h:¬ (m.length≤64∧m.all fitB=true∧szS m≤513)):Zy m=none:=by
 cases e:Zy m with
 | none=>rfl
 | some t =>
  obtain⟨h1,h2,h3,_⟩:=print_parts e
  exact absurd ⟨h2,List.all_eq_true.2 (fun x hx=>(h1 x hx).2),szS_513 h3⟩ h
theorem all_take1 {α:Type}{p:α→Bool}{m:List α}{k:Nat}(h:k<m.length):(m.take (k+1)).all p=((m.take k).all p&&p (m[k]'h)):=by
 rw [List.take_succ_eq_append_getElem h,List.all_append];simp
theorem pput_gen (w:World)(va:Value)(ls:List (List (Stp×(Option Addr×Nat))))(hr:RdLs w va ls)(hk:∀ z∈ls.flatten,RdP w (Qt z) z.1.2)(hl:ls.length≤1000000)(hm:∀ z∈ls.flatten,mayB z.1=true∧(Zw z.1).length≤1073741824)(hz:ls.flatten.length≤1000000000) :
  Calls Tryz.prog 89 #[va] w fun e w'=>e=.returned (.tuple #[.string ⟨(putT (ls.flatten.map (·.1))).toArray⟩,.int .i64 (putE (ls.flatten.map (·.1)))])∧Below w.heap.size w w':=by
 have CC:=hid (concat_any w va ls hr hl hz);have HK:=hid hk;have HM:=hid hm;have HZ:=hid hz;clear hr hk hm hz hl
 obtain⟨zs,hzs⟩:∃ zs,zs=ls.flatten:=⟨_,rfl⟩
 rw [← hzs] at CC HK HM HZ ⊢;clear hzs;have HML:=hid (show(zs.map (·.1)).length=zs.length from List.length_map _);have hzl:(zs.length:Int)≤1000000000:=by have h1:=HZ.out;omega
 have HMM:=hid (show ∀ x∈zs.map (·.1),mayB x=true from by
  intro x hx
  obtain⟨z,hz,rfl⟩:=List.mem_map.1 hx
  exact(HM.out z hz).1)
 have HDL:=hid (show decide ((zs.length:Int)≤64)=decide (zs.length≤64) from decide_eq_decide.2 (by omega))
 go_enter Tryz.func89,Tryz.ntmps89
 go_wp2_with (go_at_call 113;refine CC.out.mono ?_;rintro e w1 ⟨v1,rfl,o1,hb1⟩;have O1:=hid o1;have B1:=hid hb1;clear CC hb1;obtain⟨a1,c1,rfl,hc1⟩:=o1.slice;clear o1)
 go_loopg [5,6,7,20] zs.length (fun g v5 v6 v7 v20 W=>∃ (k S:Nat) (T:List Str),k≤zs.length∧zs.length≤k+g∧v5=.bool (decide (zs.length≤64)&&((zs.map (·.1)).take k).all fitB)∧v6=.int .i64 S∧v20=.int .i64 k∧T.length≤S∧S≤1073742500∧(S≤513→S=szS ((zs.map (·.1)).take k)∧T=((zs.map (·.1)).take k).map Zw)∧(513<S→513<szS ((zs.map (·.1)).take k))∧T.length≤514∧Qg W w.heap.size v7 T∧Qf Xf 106 W w.heap.size (.slice a1 zs.length c1) zs∧Below w.heap.size w W)
 case atStart=>exact⟨0,0,[],Nat.zero_le _,by omega,by rw [List.take_zero,List.all_nil,Bool.and_true];first | rfl | (rw [← HDL.out];done) | (rw [HDL.out];done),rfl,rfl,by simp,by omega,fun _=>⟨rfl,rfl⟩,fun h=>by omega,by simp,⟨rfl,Or.inl ⟨rfl,rfl⟩⟩,O1.out,B1.out⟩
 case round =>
  obtain⟨k,S,T,hk,hg,rfl,rfl,rfl,htl,hsz,hs1,hs2,ht5,os,oz,hb⟩:=hrel
  rename World=>w2
  have HG:=hid hg;have OS:=hid os;have OZ:=hid oz;have B2:=hid hb;have HTL5:=hid ht5;have HTLS:=hid htl;have HSZ:=hid hsz;have HS1:=hid hs1;have HS2:=hid hs2;clear hg os oz hb O1 B1 htl hsz hs1 hs2 ht5;have hS0:(0:Int)≤(S:Int):=by omega
  have hS1:(S:Int)≤1073742500:=by have:=HSZ.out;omega
  by_cases hlt:k<zs.length
  ·have hni:(k:Int)<(zs.length:Int):=by omega
   have hn0:(0:Int)≤(k:Int):=by omega
   have hltm:k<(zs.map (·.1)).length:=by rw [HML.out];exact hlt
   have hmk:(zs.map (·.1))[k]'hltm=(zs[k]'hlt).1:=List.getElem_map _;have HST:=hid (szS_take hltm);have HTT:=hid (text_take hltm);have HAT:=hid (all_take1 (p:=fitB) hltm);have HTL:=hid (HM.out (zs[k]'hlt) (List.getElem_mem hlt)).2;have HMB:=hid (HMM.out ((zs.map (·.1))[k]'hltm) (List.getElem_mem hltm));have hkeys:=HK.out (zs[k]'hlt) (List.getElem_mem hlt);rw [hmk] at HST HTT HMB HAT
   obtain⟨g,rfl⟩:=Qf.some' OZ.out (by intro e;rw [e] at hlt;simp at hlt)
   obtain⟨r0,_,gl⟩:=OZ.out.cell k 0 (.string ⟨((zs[k]'hlt).1.1).toArray⟩) hlt rfl
   obtain⟨r1,_,_⟩:=OZ.out.cell k 1 (Qt (zs[k]'hlt)) hlt rfl
   rw [Nat.add_zero] at r0;generalize zs[k]'hlt=z at *
   obtain⟨⟨nm,ks⟩,az,cz⟩:=z
   simp only [Qt] at r0 r1 hkeys HST HTT HTL HMB HAT;have HA5:=hid (bal w2 (.cells #[.string ⟨nm.toArray⟩,.slice az ks.length cz] 106));have F5:=hid (heap_alloc_new w2 (.cells #[.string ⟨nm.toArray⟩,.slice az ks.length cz] 106));clear hmk;go_upto_region 8 with fail;generalize w2.alloc (.cells #[.string ⟨nm.toArray⟩,.slice az ks.length cz] 106)=w5 at *
   obtain⟨y0,y1,_,_,yl⟩:=Qq F5.out
   have B5:=hid (B2.out.then HA5.out);have OS5:=hid (show Qg w5 w.heap.size _ _ from Qz OS.out HA5.out);have OZ5:=hid (OZ.out.below HA5.out);have RK5:=hid (show RdP w5 (.slice az ks.length cz) ks from hkeys.below B5.out);clear HA5 OS OZ B2 hkeys r0 r1 gl;generalize w2.heap.size=Sb at *;have MY:=hid (pmay_any w5 (nm,ks) (.slice az ks.length cz) RK5.out HMB.out (by have:=HTL.out;omega));generalize fitB (nm,ks)=fb at *;generalize hsv:(decide (zs.length≤64)&&((zs.map (·.1)).take k).all fitB)=sv at *;have HSV:=hid hsv;clear hsv;have HNS:=hid (show(decide (zs.length≤64)&&((zs.map (·.1)).take (k+1)).all fitB)=(sv&&fb) from by rw [HAT.out,← HSV.out,Bool.and_assoc]);go_wp2_with fail;refine MY.out.mono ?_;rintro e w6 ⟨rfl,hb6⟩;have F6:=hid (bk hb6 F5.out);have B6:=hid (B5.out.then hb6);have OS6:=hid (show Qg w6 w.heap.size _ _ from Qz OS5.out hb6);have OZ6:=hid (OZ5.out.below hb6);have RK6:=hid (RK5.out.below hb6);clear hb6 y0 y1 yl F5 B5 OS5 OZ5 RK5 MY
   obtain⟨y0,y1,_,_,yl⟩:=Qq F6.out
   cases sv with
   | true =>
    have TX:=hid (ptext_any w6 (nm,ks) (.slice az ks.length cz) RK6.out (by have:=HTL.out;omega));go_wp2_with fail;refine TX.out.mono ?_;rintro e w7 ⟨rfl,hb7⟩;have B7:=hid (B6.out.then hb7);have OS7:=hid (show Qg w7 w.heap.size _ _ from Qz OS6.out hb7);have OZ7:=hid (OZ6.out.below hb7);clear hb7 y0 y1 yl F6 B6 OS6 OZ6 RK6 TX;generalize htx:Zw (nm,ks)=tx at *;have htx1:(tx.length:Int)≤1073741824:=by have:=HTL.out;omega
    have htx0:(0:Int)≤(tx.length:Int):=by omega
    have HZ7:=hid B7.out.size;have HAB:=hid (bal w7 (.cells #[.string ⟨tx.toArray⟩] 9))
    by_cases hs5:S≤513
    ·have hsi:(S:Int)≤513:=by omega
     obtain⟨hq1,hq2⟩:=HS1.out hs5
     have HQ1:=hid hq1;have HQ2:=hid hq2;clear hq1 hq2
     go_wp2_with (at_builtin;refine Xk rfl (.tmp 39) (.tmp 41) rfl w.heap.size _ T tx rfl OS7.out rfl (by have:=HTL5.out;omega) HZ7.out ?_;intro v8 w8 own gr mv;have OS8:=hid (show Qg w8 w.heap.size v8 (T++[tx]) from own);have OZ8:=hid (show Qf Xf 106 w8 w.heap.size _ zs from World.ownsRow.kept OZ7.out gr (Kn OZ7.out OS7.out (by decide)));have B8:=hid (B7.out.grown gr HZ7.out (fun k hk=>(World.ownsRow.lt OS7.out k hk).1));clear own gr mv)
     go_wp2_with fail
     go_roundg (gk - 1)
     case measure=>have:=HG.out;omega
     case rel=>exact⟨k+1,S+(tx.length+1),T++[tx],by omega,by have:=HG.out;omega,by rw [HNS.out];rfl,by simp,by simp,by have:=HTLS.out;simp;omega,by omega,fun _=>⟨by rw [HST.out,← HQ1.out],by rw [HTT.out,← HQ2.out]⟩,fun _=>by rw [HST.out,← HQ1.out];omega,by have:=HTLS.out;simp;omega,OS8.out,OZ8.out,B8.out⟩
    ·have hsi:¬ (S:Int)≤513:=by omega
     have HQ3:=hid (HS2.out (by omega));go_wp2_with fail
     go_roundg (gk - 1)
     case measure=>have:=HG.out;omega
     case rel=>exact⟨k+1,S,T,by omega,by have:=HG.out;omega,by rw [HNS.out];rfl,rfl,by simp,HTLS.out,HSZ.out,fun h=>absurd h hs5,fun _=>by rw [HST.out];have:=HQ3.out;omega,HTL5.out,OS7.out,OZ7.out,B7.out⟩
   | false =>
    have TX:=hid (ptext_any w6 (nm,ks) (.slice az ks.length cz) RK6.out (by have:=HTL.out;omega));go_wp2_with fail;refine TX.out.mono ?_;rintro e w7 ⟨rfl,hb7⟩;have B7:=hid (B6.out.then hb7);have OS7:=hid (show Qg w7 w.heap.size _ _ from Qz OS6.out hb7);have OZ7:=hid (OZ6.out.below hb7);clear hb7 y0 y1 yl F6 B6 OS6 OZ6 RK6 TX;generalize htx:Zw (nm,ks)=tx at *;have htx1:(tx.length:Int)≤1073741824:=by have:=HTL.out;omega
    have htx0:(0:Int)≤(tx.length:Int):=by omega
    have HZ7:=hid B7.out.size;have HAB:=hid (bal w7 (.cells #[.string ⟨tx.toArray⟩] 9))
    by_cases hs5:S≤513
    ·have hsi:(S:Int)≤513:=by omega
     obtain⟨hq1,hq2⟩:=HS1.out hs5
     have HQ1:=hid hq1;have HQ2:=hid hq2;clear hq1 hq2
     go_wp2_with (at_builtin;refine Xk rfl (.tmp 39) (.tmp 41) rfl w.heap.size _ T tx rfl OS7.out rfl (by have:=HTL5.out;omega) HZ7.out ?_;intro v8 w8 own gr mv;have OS8:=hid (show Qg w8 w.heap.size v8 (T++[tx]) from own);have OZ8:=hid (show Qf Xf 106 w8 w.heap.size _ zs from World.ownsRow.kept OZ7.out gr (Kn OZ7.out OS7.out (by decide)));have B8:=hid (B7.out.grown gr HZ7.out (fun k hk=>(World.ownsRow.lt OS7.out k hk).1));clear own gr mv)
     go_wp2_with fail
     go_roundg (gk - 1)
     case measure=>have:=HG.out;omega
     case rel=>exact⟨k+1,S+(tx.length+1),T++[tx],by omega,by have:=HG.out;omega,by rw [HNS.out];rfl,by simp,by simp,by have:=HTLS.out;simp;omega,by omega,fun _=>⟨by rw [HST.out,← HQ1.out],by rw [HTT.out,← HQ2.out]⟩,fun _=>by rw [HST.out,← HQ1.out];omega,by have:=HTLS.out;simp;omega,OS8.out,OZ8.out,B8.out⟩
    ·have hsi:¬ (S:Int)≤513:=by omega
     have HQ3:=hid (HS2.out (by omega));go_wp2_with fail
     go_roundg (gk - 1)
     case measure=>have:=HG.out;omega
     case rel=>exact⟨k+1,S,T,by omega,by have:=HG.out;omega,by rw [HNS.out];rfl,rfl,by simp,HTLS.out,HSZ.out,fun h=>absurd h hs5,fun _=>by rw [HST.out];have:=HQ3.out;omega,HTL5.out,OS7.out,OZ7.out,B7.out⟩
  ·have hni:¬ (k:Int)<(zs.length:Int):=by omega
   have hkn:k=zs.length:=by omega
   have HTA:=hid (show(zs.map (·.1)).take k=zs.map (·.1) by rw [hkn,← HML.out];exact List.take_length);rw [HTA.out] at HS1 HS2 ⊢
   by_cases hgood:(zs.length≤64∧(zs.map (·.1)).all fitB=true∧szS (zs.map (·.1))≤513)
   ·obtain⟨g1,g2,g3⟩:=hgood
    have hs5:S≤513:=by
     rcases Nat.lt_or_ge 513 S with h | h
     ·have:=HS2.out h;omega
     ·exact h
    obtain⟨rfl,rfl⟩:=HS1.out hs5
    have HP:=hid (put_ok HMM.out (by rw [HML.out];exact g1) g2 g3);have JN:=hid (join_any w2 w.heap.size _ _ OS.out (by have:=HTL5.out;omega) (by rw [join_texts];have h5:=(print_parts HP.out).2.2.1;omega));rw [join_texts] at JN;have HPT:=hid (show putT (zs.map (·.1))=Zb (zs.map (·.1)) by rw [putT,HP.out];rfl);have HPE:=hid (show putE (zs.map (·.1))=0 by rw [putE,HP.out];rfl);rw [g2];have hd:decide (zs.length≤64)=true:=decide_eq_true g1;rw [hd];generalize szS (zs.map (·.1))=S at *;have hS5:(S:Int)≤513:=by omega
    have hS2:(S:Int) - 1≤512:=by omega
    go_wp2_with (go_at_call 116;refine JN.out.mono ?_;rintro e w9 ⟨rfl,hb9⟩;have B9:=hid (B2.out.then hb9);clear hb9)
    exact bodyPost_ret (by rw [HPT.out,HPE.out];simp [results,Tryz.results89,go_sem]) rfl ⟨rfl,B9.out⟩
   ·have HP:=hid (put_no (m:=zs.map (·.1)) (by rw [HML.out];exact hgood));have HPT:=hid (show putT (zs.map (·.1))=[] by rw [putT,HP.out];rfl);have HPE:=hid (show putE (zs.map (·.1))=3 by rw [putE,HP.out];rfl)
    cases hsv:(decide (zs.length≤64)&&(zs.map (·.1)).all fitB) with
    | false =>
     go_wp2_with fail;exact bodyPost_ret (by rw [HPT.out,HPE.out];simp [results,Tryz.results89,go_sem]) rfl ⟨rfl,B2.out⟩
    | true =>
     have h513:513<S:=by
      rcases Nat.lt_or_ge 513 S with h | h
      ·exact h
      ·rw [Bool.and_eq_true,decide_eq_true_eq] at hsv;exact absurd ⟨hsv.1,hsv.2,by rw [← (HS1.out h).1];exact h⟩ hgood
     have hS2:¬ (S:Int) - 1≤512:=by omega
     have hS3:(512:Int)<(S:Int) - 1:=by omega
     go_wp2_with fail;exact bodyPost_ret (by rw [HPT.out,HPE.out];simp [results,Tryz.results89,go_sem]) rfl ⟨rfl,B2.out⟩
end
section
open Go.RowKit Go.Lib
theorem RdSt.cells {w:World}{v:Value}{l:List Stp}(h:RdSt w v l):∃ ao cp,v=.slice ao l.length cp∧l.length≤cp∧l.length≤9223372036854775807∧∀ n (hn:n<l.length),∃ p o kv,ao=some ⟨p,o,none⟩∧p<w.heap.size ∧
  w.cell? ⟨p,o+n * 2,none⟩=some (.string ⟨(l[n]'hn).1.toArray⟩)∧w.cell? ⟨p,o+n * 2+1,none⟩=some kv∧RdP w kv (l[n]'hn).2:=by
 obtain⟨zs,rfl,⟨ao,cp,rfl,⟨h1,h2,h3⟩,hc⟩,hk⟩:=h
 have hlen:(zs.map (·.1)).length=zs.length:=List.length_map _
 refine⟨ao,cp,by rw [hlen],by rw [hlen];exact h1,by rw [hlen];exact h2,fun n hn0=>?_⟩
 have hn:n<zs.length:=by rw [← hlen];exact hn0
 obtain⟨p,o,ha,hp,hx⟩:=hc (by rintro rfl;simp at hn)
 have:=hk (zs[n]'hn) (List.getElem_mem hn)
 refine⟨p,o,Qt (zs[n]'hn),ha,hp,?_,?_,?_⟩
 ·rw [List.getElem_map];exact hx n 0 _ hn rfl
 ·exact hx n 1 _ hn rfl
 ·rw [List.getElem_map];exact this
theorem rest1_any (w:World)(x y:Stp)(kx ky:Value)(hx:RdP w kx x.2)(hy:RdP w ky y.2) :
  Calls Tryz.prog 105 #[.agg #[.string ⟨x.1.toArray⟩,kx],.agg #[.string ⟨y.1.toArray⟩,ky]] w fun e w'=>e=.returned (.bool (decide (x=y)))∧Below w.heap.size w w':=by
 obtain⟨n,ks⟩:=x
 obtain⟨m,js⟩:=y
 simp only at hx hy ⊢;have HX:=hid hx;have HY:=hid hy
 obtain⟨a1,c1,rfl,_⟩:=Ks hx
 obtain⟨a2,c2,rfl,_⟩:=Ks hy
 have HB2:=hid (show Below w.heap.size w ((w.alloc (.cells #[.string ⟨n.toArray⟩,.slice a1 ks.length c1] 106)).alloc (.cells #[.string ⟨m.toArray⟩,.slice a2 js.length c2] 106)) from below2 w _ _);have G2:=hid (show((w.alloc (.cells #[.string ⟨n.toArray⟩,.slice a1 ks.length c1] 106)).alloc (.cells #[.string ⟨m.toArray⟩,.slice a2 js.length c2] 106)).heap[w.heap.size]?=some (.cells #[.string ⟨n.toArray⟩,.slice a1 ks.length c1] 106 (0,0)) from(Below.heap_alloc _ _ _ (lt_of_block (heap_alloc_new w _))).trans (heap_alloc_new w _));have F2:=hid (show((w.alloc (.cells #[.string ⟨n.toArray⟩,.slice a1 ks.length c1] 106)).alloc (.cells #[.string ⟨m.toArray⟩,.slice a2 js.length c2] 106)).heap[w.heap.size+1]?=some (.cells #[.string ⟨m.toArray⟩,.slice a2 js.length c2] 106 (0,0)) from by
  have:=heap_alloc_new (w.alloc (.cells #[.string ⟨n.toArray⟩,.slice a1 ks.length c1] 106)) (.cells #[.string ⟨m.toArray⟩,.slice a2 js.length c2] 106)
  rw [show(w.alloc (.cells #[.string ⟨n.toArray⟩,.slice a1 ks.length c1] 106)).heap.size=w.heap.size+1 by simp] at this;exact this)
 clear hx hy
 go_enter Tryz.func105,Tryz.ntmps105
 go_upto_region 1 with fail;generalize (w.alloc (.cells #[.string ⟨n.toArray⟩,.slice a1 ks.length c1] 106)).alloc (.cells #[.string ⟨m.toArray⟩,.slice a2 js.length c2] 106)=w2 at *;have EQ:=hid (eqP_any w2 _ _ ks js (HX.out.below HB2.out) (HY.out.below HB2.out));clear HX HY
 obtain⟨x0,x1,_,_,xl⟩:=Qq G2.out
 obtain⟨y0,y1,_,_,yl⟩:=Qq F2.out
 by_cases hnm:n=m
 ·have hb:(n==m)=true:=by rw [hnm];exact beq_self_eq_true _
  have hsub:=hid hnm;have HD:=hid (show decide (ks=js)=decide ((n,ks)=(m,js)) by subst hnm;simp);clear hnm
  go_wp2_with (go_at_call 106;refine EQ.out.mono ?_;rintro e w3 ⟨rfl,hb3⟩;have B3:=hid (HB2.out.then hb3);clear hb3)
  exact bodyPost_ret (v:=.bool (decide (ks=js))) (by simp [results,Tryz.results105,go_sem]) rfl ⟨by rw [HD.out],B3.out⟩
 ·have hb:(n==m)=false:=beq_eq_false_iff_ne.2 hnm;have HD:=hid (show decide ((n,ks)=(m,js))=false from decide_eq_false (fun e=>hnm (Prod.mk.inj e).1));go_wp2_with fail;exact bodyPost_ret (v:=.bool false) (by simp [results,Tryz.results105,go_sem]) rfl ⟨by rw [HD.out],HB2.out⟩
theorem eqFunc_any (w:World)(v1 v2:Value)(l m:List Stp)(h1:RdSt w v1 l)(h2:RdSt w v2 m)(hl:l.length=m.length)(h64:m.length≤1000) :
  Calls Tryz.prog 104 #[v1,v2,.func (.func 105) #[] #[]] w fun e w'=>e=.returned (.bool (decide (l=m)))∧Below w.heap.size w w':=by
 obtain⟨a1,c1,rfl,_,_,hc1⟩:=h1.cells
 obtain⟨a2,c2,rfl,_,_,hc2⟩:=h2.cells
 have HC1:=hid hc1;have HC2:=hid hc2;have HL:=hid hl;clear hc1 hc2 h1 h2;have hlz:(m.length:Int)≤1000:=by omega
 rw [hl];have hne:((m.length:Int) != (m.length:Int))=false:=by simp
 go_enter Tryz.func104,Tryz.ntmps104
 go_wp2_with fail
 go_loopg [17] m.length (fun g v17 W=>∃ k:Nat,k≤m.length∧m.length≤k+g∧v17=.int .i64 k∧l.take k=m.take k∧Below w.heap.size w W)
 case atStart=>exact⟨0,Nat.zero_le _,by omega,rfl,rfl,Below.refl _ _⟩
 case round =>
  obtain⟨k,hk,hg,rfl,heq,hb⟩:=hrel
  rename World=>w2
  have HG:=hid hg;have HE:=hid heq;have B2:=hid hb;clear hg heq hb
  by_cases hlt:k<l.length
  ·have hni2:(k:Int)<(m.length:Int):=by omega
   have hn0:(0:Int)≤(k:Int):=by omega
   have hltm:k<m.length:=by omega
   obtain⟨p,o,kx,rfl,hp,q0,q1,hx⟩:=HC1.out k hlt
   obtain⟨p',o',ky,rfl,hp',s0,s1,hy⟩:=HC2.out k hltm
   have r0:=(B2.out.cell (p:=⟨p,o+k * 2,none⟩) hp).trans q0;have r1:=(B2.out.cell (p:=⟨p,o+k * 2+1,none⟩) hp).trans q1;have hp2:p<w2.heap.size:=Nat.lt_of_lt_of_le hp B2.out.size;have HX:=hid (hx.below B2.out);have HTL:=hid (List.take_succ_eq_append_getElem hlt);have HTM:=hid (List.take_succ_eq_append_getElem hltm);have HEX:=hid (show l=m→l[k]'hlt=m[k]'hltm from fun e=>by subst e;rfl);generalize l[k]'hlt=x at *;generalize m[k]'hltm=y at *
   obtain⟨n,ks⟩:=x
   obtain⟨n',js⟩:=y
   simp only at r0 r1 s0 s1 HX hy;have HA3:=hid (bal w2 (.cells #[.string ⟨n.toArray⟩,kx] 106));have F3:=hid (heap_alloc_new w2 (.cells #[.string ⟨n.toArray⟩,kx] 106))
   obtain⟨ax,cx,rfl,_⟩:=Ks hx
   obtain⟨ay,cy,rfl,_⟩:=Ks hy
   go_upto_region 6 with fail;generalize w2.alloc (.cells #[.string ⟨n.toArray⟩,.slice ax ks.length cx] 106)=w3 at *;have B3:=hid (B2.out.then HA3.out);have t0:=(B3.out.cell (p:=⟨p',o'+k * 2,none⟩) hp').trans s0;have t1:=(B3.out.cell (p:=⟨p',o'+k * 2+1,none⟩) hp').trans s1;have hp3:p'<w3.heap.size:=Nat.lt_of_lt_of_le hp' B3.out.size;have HA4:=hid (bal w3 (.cells #[.string ⟨n'.toArray⟩,.slice ay js.length cy] 106));have F4:=hid (heap_alloc_new w3 (.cells #[.string ⟨n'.toArray⟩,.slice ay js.length cy] 106));clear r0 r1 q0 q1 s0 s1 hp hp2;go_upto_region 7 with fail;generalize w3.alloc (.cells #[.string ⟨n'.toArray⟩,.slice ay js.length cy] 106)=w4 at *;have G4:=hid (bk HA4.out F3.out);have B4:=hid (B3.out.then HA4.out);have HX4:=hid ((HX.out.below HA3.out).below HA4.out);have HY4:=hid (hy.below B4.out);clear t0 t1 hp3 hp' HX hx hy F3 HA3 HA4 B2 B3;generalize w2.heap.size=Xb at *;generalize w3.heap.size=Yb at *
   obtain⟨x0,x1,_,_,xl⟩:=Qq G4.out
   obtain⟨y0,y1,_,_,yl⟩:=Qq F4.out
   have R1:=hid (rest1_any w4 (n,ks) (n',js) _ _ HX4.out HY4.out)
   by_cases hxy:(n,ks)=(n',js)
   ·rw [decide_eq_true hxy] at R1;have HXY:=hid hxy;clear hxy
    go_wp2_with (go_at_call 105;refine R1.out.mono ?_;rintro e w5 ⟨rfl,hb5⟩;have B5:=hid (B4.out.then hb5);clear hb5)
    go_roundg (gk - 1)
    case measure=>have:=HG.out;omega
    case rel=>exact⟨k+1,by omega,by have:=HG.out;omega,by simp,by rw [HTL.out,HTM.out,HE.out,HXY.out],B5.out⟩
   ·rw [decide_eq_false hxy] at R1;have HD:=hid (show decide (l=m)=false from decide_eq_false (fun e=>hxy (HEX.out e)));clear hxy
    go_wp2_with (go_at_call 105;refine R1.out.mono ?_;rintro e w5 ⟨rfl,hb5⟩;have B5:=hid (B4.out.then hb5);clear hb5)
    exact bodyPost_ret (v:=.bool false) (by simp [results,Tryz.results104,go_sem]) rfl ⟨by rw [HD.out],B5.out⟩
  ·have hni:¬ (k:Int)<(m.length:Int):=by omega
   have HD:=hid (show decide (l=m)=true from decide_eq_true (by
    have h:=HE.out;rw [List.take_of_length_le (by omega),List.take_of_length_le (by omega)] at h;exact h))
   go_wp2_with fail;exact bodyPost_ret (v:=.bool true) (by simp [results,Tryz.results104,go_sem]) rfl ⟨by rw [HD.out],B2.out⟩
end
section
open Go.RowKit Go.Lib
theorem ParseOut.open' {w w':World}{s:Str}{x:Ending}(h:ParseOut w s x w'):∃ (v:Value)(er:Nat)(at':Int),x=.returned (.tuple #[v,.agg #[.int .i64 er,.int .i64 at']])∧Below w.heap.size w w'∧∃ l:List Stp,
  RdSt w' v l∧((er=0∧Qb s=some l)∨(er≠0∧Qb s=none))∧∃ ao cp,v=.slice ao l.length cp∧l.length≤cp∧((ao=none∧l=[]∧cp=0)∨∃ g,ao=some ⟨g,0,none⟩):=by
 obtain⟨⟨l,v,h1,rfl,h2⟩ | ⟨h1,er,a,h2,rfl⟩,hb⟩:=h
 ·refine⟨v,0,0,rfl,hb,l,h2.rd,Or.inl ⟨rfl,h1⟩,?_⟩
  obtain⟨zs,rfl,h3,_⟩:=h2
  rw [List.length_map]
  rcases h3.shape with ⟨rfl,rfl⟩ | ⟨g,cap,cur,rfl,_,_,hn,_⟩
  ·exact⟨none,0,rfl,Nat.le_refl _,Or.inl ⟨rfl,rfl,rfl⟩⟩
  ·exact⟨_,cap,rfl,hn,Or.inr ⟨g,rfl⟩⟩
 ·exact⟨_,er,a,rfl,hb,[],⟨[],rfl,RdL.nil _ _,fun z hz=>by cases hz⟩,Or.inr ⟨h2,h1⟩,none,0,rfl,Nat.le_refl _,Or.inl ⟨rfl,rfl,rfl⟩⟩
def restV (o:Option Str):Value:=match o with | some t=>.tuple #[.string ⟨t.toArray⟩,.bool true] | none=>.tuple #[.string ⟨#[]⟩,.bool false]
theorem RdSt.take {w:World}{a:Option Addr}{n c:Nat}{l:List Stp}(h:RdSt w (.slice a n c) l)(m:Nat)(hm:m≤l.length):RdSt w (.slice a m c) (l.take m):=by
 obtain⟨zs,rfl,h2,h3⟩:=h
 refine⟨zs.take m,List.map_take,h2.take m (by rw [List.length_map] at hm;exact hm),fun z hz=>h3 z (List.mem_of_mem_take hz)⟩
theorem RdSt.drop {w:World}{p:Nat}{o n c:Nat}{l:List Stp}(h:RdSt w (.slice (some ⟨p,o,none⟩) n c) l)(m:Nat)(hm:m≤l.length) :
  ∃ zs:List (Stp×(Option Addr×Nat)),zs.map (·.1)=l.drop m∧RdL Xf w (.slice (some ⟨p,o+m * 2,none⟩) (n - m) (c - m)) zs∧∀ z∈zs,RdP w (Qt z) z.1.2:=by
 obtain⟨zs,rfl,⟨ao,cp,e,⟨h1,h2,_⟩,hc⟩,h3⟩:=h
 cases e;rw [List.length_map] at hm
 refine⟨zs.drop m,List.map_drop,⟨_,_,by rw [List.length_drop],⟨by rw [List.length_drop];omega,by rw [List.length_drop];omega,fun e=>by cases e⟩,fun hne=>?_⟩,fun z hz=>h3 z (List.mem_of_mem_drop hz)⟩
 obtain⟨b,off,ha,hlt,hx⟩:=hc (by rintro rfl;simp at hne)
 cases ha
 refine⟨_,_,rfl,hlt,fun j i x hj hx2=>?_⟩
 rw [List.length_drop] at hj;rw [List.getElem_drop] at hx2
 have:=hx (m+j) i x (by omega) hx2
 rw [show o+m * 2+j * 2+i=o+(m+j) * 2+i by rw [Nat.add_mul];omega];exact this
theorem put_one (w:World)(u:Value)(zs:List (Stp×(Option Addr×Nat)))(t:Str)(hu:RdL Xf w u zs)(hk:∀ z∈zs,RdP w (Qt z) z.1.2)(hp:Zy (zs.map (·.1))=some t) :
  Calls Tryz.prog 89 #[.slice (some ⟨w.heap.size,0,none⟩) 1 1] (w.alloc (.cells #[u] 99)) fun e w'=>e=.returned (.tuple #[.string ⟨t.toArray⟩,.int .i64 0])∧Below w.heap.size w w':=by
 have hB:Below w.heap.size w (w.alloc (.cells #[u] 99)):=bal _ _;have hf:([zs]:List (List (Stp×(Option Addr×Nat)))).flatten=zs:=by simp
 refine(pput_any (w.alloc (.cells #[u] 99)) (.slice (some ⟨w.heap.size,0,none⟩) 1 1) [zs] t ⟨_,_,rfl,fun n hn=>?_⟩ (by rw [hf];exact fun z hz=>(hk z hz).below hB) (by simp) (by rw [hf];exact hp)).mono ?_
 ·have h0:n=0:=by simp at hn;omega
  subst h0
  refine⟨_,_,u,rfl,lt_of_block (heap_alloc_new w _),?_,hu.below hB⟩
  rw [cell_of_row _ _ _ _ _ _ (heap_alloc_new w _)]
  rfl
 ·rintro e w' ⟨rfl,hb⟩
  exact⟨rfl,hB.then hb⟩
theorem prest_any (w:World)(a b:Str)(ha:a.length≤maxLen)(hb:b.length≤maxLen) :
  Calls Tryz.prog 76 #[.string ⟨a.toArray⟩,.string ⟨b.toArray⟩] w fun e w'=>e=.returned (restV (restF a b))∧Below w.heap.size w w':=by
 have HB:=hid hb
 go_enter Tryz.func76,Tryz.ntmps76
 go_wp2_with fail
 refine(pparse_any a w ha).mono ?_
 rintro e w1 h1
 obtain⟨v1,e1,t1,rfl,hb1,l,hl,hc1,a1,k1,rfl,hcap1,hs1⟩:=h1.open'
 have S1:=hid hs1;have L1:=hid hl;have C1:=hid hc1;have B1:=hid hb1;clear h1 hl hc1 hb1 hs1;have HA2:=hid (bal w1 (.cells #[.int .i64 e1,.int .i64 t1] 77));have F2:=hid (heap_alloc_new w1 (.cells #[.int .i64 e1,.int .i64 t1] 77));go_upto_region 2 with fail;generalize w1.alloc (.cells #[.int .i64 e1,.int .i64 t1] 77)=w2 at *;have L2:=hid (L1.out.below HA2.out);have B2:=hid (B1.out.then HA2.out);clear L1 B1 HA2;generalize w1.heap.size=Xb at *;go_wp2_with fail
 refine(pparse_any b w2 HB.out).mono ?_
 rintro e w3 h3
 obtain⟨v3,e3,t3,rfl,hb3,m,hm,hc3,a3,k3,rfl,hcap3,_⟩:=h3.open'
 have L3:=hid (L2.out.below hb3);have M3:=hid hm;have C3:=hid hc3;have B3:=hid (B2.out.then hb3);have F3:=hid (bk hb3 F2.out);clear h3 hm hc3 hb3 L2 B2 F2;have HA4:=hid (bal w3 (.cells #[.int .i64 e3,.int .i64 t3] 77));have F4:=hid (heap_alloc_new w3 (.cells #[.int .i64 e3,.int .i64 t3] 77));go_upto_region 3 with fail;generalize w3.alloc (.cells #[.int .i64 e3,.int .i64 t3] 77)=w4 at *;have L4:=hid (L3.out.below HA4.out);have M4:=hid (M3.out.below HA4.out);have B4:=hid (B3.out.then HA4.out);have G4:=hid (bk HA4.out F3.out);clear L3 M3 B3 HA4 F3;generalize w3.heap.size=Yb at *
 obtain⟨x0,x1,_,_,xl⟩:=Qq G4.out
 obtain⟨y0,y1,_,_,yl⟩:=Qq F4.out
 rcases C1.out with ⟨rfl,hp1⟩ | ⟨hz1,hp1⟩
 ·rcases C3.out with ⟨rfl,hp3⟩ | ⟨hz3,hp3⟩
  ·by_cases hle:m.length≤l.length
   ·have h64:=(Zd hp1).2.2.1;have HP1:=hid hp1;have hzi:¬ (l.length:Int)<(m.length:Int):=by omega
    have hm64:(m.length:Int)≤64:=by omega
    have hcm:(m.length:Int)≤(k1:Int):=by omega
    have hm0:(0:Int)≤(m.length:Int):=by omega
    have hml:(m.length:Int)≤(l.length:Int):=by omega
    have EF:=hid (eqFunc_any w4 _ _ (l.take m.length) m (L4.out.take m.length hle) M4.out (by rw [List.length_take];omega) (by omega))
    by_cases heq:l.take m.length=m
    ·have HR:=hid (show restF a b=some (Zb (l.drop m.length)) by unfold restF;rw [hp1,hp3];exact if_pos ⟨hle,heq⟩);rw [decide_eq_true heq] at EF;clear heq hp1 hp3 C1 C3;have HPR0:=print_drop HP1.out m.length
     rcases S1.out with ⟨rfl,rfl,rfl⟩ | ⟨g,rfl⟩
     ·obtain rfl:m=[]:=List.eq_nil_of_length_eq_zero (by simpa using hle)
      obtain⟨zs,hzs⟩:∃ zs:List (Stp×(Option Addr×Nat)),zs=[]:=⟨_,rfl⟩
      have RU:=hid (show RdL Xf w4 (.slice none 0 0) zs from by rw [hzs];exact RdL.nil _ _);have RK:=hid (show ∀ z∈zs,RdP w4 (Qt z) z.1.2 from fun z hz=>by rw [hzs] at hz;cases hz);have HPR:=hid (show Zy (zs.map (·.1))=some (Zb (([]:List Stp).drop ([]:List Stp).length)) by rw [hzs];exact HPR0);clear HPR0 hzs;simp only [List.length_nil,List.take_nil] at EF ⊢
      go_wp2_with (first
       | (go_at_call 104;refine EF.out.mono ?_;rintro e w5 ⟨rfl,hb5⟩;have B5:=hid (B4.out.then hb5);have U5:=hid (RU.out.below hb5);have K5:=hid (fun z hz=>(RK.out z hz).below hb5);clear hb5)
       | (go_at_call 89;refine(put_one _ _ zs _ U5.out K5.out HPR.out).mono ?_;rintro e w6 ⟨rfl,hb6⟩;have B6:=hid (B5.out.then hb6);clear hb6))
      exact bodyPost_ret (v:=.tuple #[.string ⟨(Zb (([]:List Stp).drop ([]:List Stp).length)).toArray⟩,.bool true]) (by simp [results,Tryz.results76,go_sem]) rfl ⟨by rw [HR.out];rfl,B6.out⟩
     ·by_cases hkm:k1=m.length
      ·subst hkm;have hlm:l.length - m.length=0:=by omega
       obtain⟨zs,hzs⟩:∃ zs:List (Stp×(Option Addr×Nat)),zs=[]:=⟨_,rfl⟩
       have RU:=hid (show RdL Xf w4 (.slice (some ⟨g,0,none⟩) 0 0) zs from by rw [hzs];exact⟨_,_,rfl,⟨Nat.le_refl _,by simp,fun e=>by cases e⟩,fun h=>absurd rfl h⟩);have RK:=hid (show ∀ z∈zs,RdP w4 (Qt z) z.1.2 from fun z hz=>by rw [hzs] at hz;cases hz);have HPR:=hid (show Zy (zs.map (·.1))=some (Zb (l.drop m.length)) by rw [hzs,← HPR0,List.drop_eq_nil_of_le (by omega)];rfl);clear HPR0 hzs
       go_wp2_with (first
        | (go_at_call 104;refine EF.out.mono ?_;rintro e w5 ⟨rfl,hb5⟩;have B5:=hid (B4.out.then hb5);have U5:=hid (RU.out.below hb5);have K5:=hid (fun z hz=>(RK.out z hz).below hb5);clear hb5)
        | (go_at_call 89;refine(put_one _ _ zs _ U5.out K5.out HPR.out).mono ?_;rintro e w6 ⟨rfl,hb6⟩;have B6:=hid (B5.out.then hb6);clear hb6))
       exact bodyPost_ret (v:=.tuple #[.string ⟨(Zb (l.drop m.length)).toArray⟩,.bool true]) (by simp [results,Tryz.results76,go_sem]) rfl ⟨by rw [HR.out];rfl,B6.out⟩
      ·have hki:¬ (k1:Int)=(m.length:Int):=by omega
       obtain⟨zs,hz1,hz2,hz3⟩:=L4.out.drop m.length hle
       rw [Nat.zero_add] at hz2;have RU:=hid hz2;have RK:=hid hz3;have HPR:=hid (show Zy (zs.map (·.1))=some (Zb (l.drop m.length)) by rw [hz1];exact HPR0);clear HPR0 hz1 hz2 hz3
       go_wp2_with (first
        | (go_at_call 104;refine EF.out.mono ?_;rintro e w5 ⟨rfl,hb5⟩;have B5:=hid (B4.out.then hb5);have U5:=hid (RU.out.below hb5);have K5:=hid (fun z hz=>(RK.out z hz).below hb5);clear hb5)
        | (go_at_call 89;refine(put_one _ _ zs _ U5.out K5.out HPR.out).mono ?_;rintro e w6 ⟨rfl,hb6⟩;have B6:=hid (B5.out.then hb6);clear hb6))
       exact bodyPost_ret (v:=.tuple #[.string ⟨(Zb (l.drop m.length)).toArray⟩,.bool true]) (by simp [results,Tryz.results76,go_sem]) rfl ⟨by rw [HR.out];rfl,B6.out⟩
    ·have HR:=hid (show restF a b=none by unfold restF;rw [hp1,hp3];exact if_neg (fun h=>heq h.2));rw [decide_eq_false heq] at EF;clear heq hp1 hp3 C1 C3
     rcases S1.out with ⟨rfl,rfl,rfl⟩ | ⟨g,rfl⟩
     ·obtain rfl:m=[]:=List.eq_nil_of_length_eq_zero (by simpa using hle);simp only [List.length_nil,List.take_nil] at EF ⊢
      go_wp2_with (go_at_call 104;refine EF.out.mono ?_;rintro e w5 ⟨rfl,hb5⟩;have B5:=hid (B4.out.then hb5);clear hb5)
      exact bodyPost_ret (v:=.tuple #[.string ⟨#[]⟩,.bool false]) (by simp [results,Tryz.results76,go_sem]) rfl ⟨by rw [HR.out];rfl,B5.out⟩
     ·go_wp2_with (go_at_call 104;refine EF.out.mono ?_;rintro e w5 ⟨rfl,hb5⟩;have B5:=hid (B4.out.then hb5);clear hb5)
      exact bodyPost_ret (v:=.tuple #[.string ⟨#[]⟩,.bool false]) (by simp [results,Tryz.results76,go_sem]) rfl ⟨by rw [HR.out];rfl,B5.out⟩
   ·have hzi:(l.length:Int)<(m.length:Int):=by omega
    have HR:=hid (show restF a b=none by unfold restF;rw [hp1,hp3];exact if_neg (fun h=>hle h.1));clear hp1 hp3 C1 C3;go_wp2_with fail;exact bodyPost_ret (v:=.tuple #[.string ⟨#[]⟩,.bool false]) (by simp [results,Tryz.results76,go_sem]) rfl ⟨by rw [HR.out];rfl,B4.out⟩
  ·have hne:(e3:Int)≠0:=by omega
   have HR:=hid (show restF a b=none by unfold restF;rw [hp1,hp3]);clear hp1 hp3 C1 C3;go_wp2_with fail;exact bodyPost_ret (v:=.tuple #[.string ⟨#[]⟩,.bool false]) (by simp [results,Tryz.results76,go_sem]) rfl ⟨by rw [HR.out];rfl,B4.out⟩
 ·have hne:(e1:Int)≠0:=by omega
  have HR:=hid (show restF a b=none by unfold restF;rw [hp1]);clear hp1 C1 C3;go_wp2_with fail;exact bodyPost_ret (v:=.tuple #[.string ⟨#[]⟩,.bool false]) (by simp [results,Tryz.results76,go_sem]) rfl ⟨by rw [HR.out];rfl,B4.out⟩
theorem pin_any (w:World)(a b:Str)(ha:a.length≤maxLen)(hb:b.length≤maxLen) :
  Calls Tryz.prog 95 #[.string ⟨a.toArray⟩,.string ⟨b.toArray⟩] w fun e w'=>e=.returned (.bool (inB a b))∧Below w.heap.size w w':=by
 have RS:=hid (prest_any w a b ha hb)
 cases h:restF a b with
 | none =>
  have HI:=hid (show inB a b=false by unfold inB;rw [h];rfl);rw [h] at RS;clear h
  go_enter Tryz.func95,Tryz.ntmps95
  go_wp2_with (go_at_call 76;refine RS.out.mono ?_;unfold restV;rintro e w6 ⟨rfl,hb6⟩)
  exact bodyPost_ret (v:=.bool false) (by simp [results,Tryz.results95,go_sem]) rfl ⟨by rw [HI.out],hb6⟩
 | some t =>
  have HI:=hid (show inB a b=true by unfold inB;rw [h];rfl);rw [h] at RS;clear h
  go_enter Tryz.func95,Tryz.ntmps95
  go_wp2_with (go_at_call 76;refine RS.out.mono ?_;unfold restV;rintro e w6 ⟨rfl,hb6⟩)
  exact bodyPost_ret (v:=.bool true) (by simp [results,Tryz.results95,go_sem]) rfl ⟨by rw [HI.out],hb6⟩
end
section
open Go.Lib
abbrev Al:=Str×Str
theorem rest_some {a b r:Str}(h:restF a b=some r):∃ l m,Qb a=some (m++l)∧Qb b=some m∧r=Zb l∧Qb r=some l:=by
 unfold restF at h
 split at h
 ·next l m h1 h2 =>
  split at h
  ·next hc =>
   refine⟨l.drop m.length,m,?_,h2,(Option.some.inj h).symm,?_⟩
   ·rw [h1]
    conv=>lhs;rw [← List.take_append_drop m.length l,hc.2]
   ·rw [← Option.some.inj h];exact print_path (print_drop h1 _)
  ·cases h
 ·cases h
theorem rest_of {a b:Str}{l m:List Stp}(h1:Qb a=some (m++l))(h2:Qb b=some m):restF a b=some (Zb l):=by
 unfold restF;rw [h1,h2]
 simp
theorem in_iff {a b:Str}:inB a b=true↔∃ l m,Qb a=some (m++l)∧Qb b=some m:=by
 unfold inB
 constructor
 ·intro h
  obtain⟨r,hr⟩:=Option.isSome_iff_exists.1 h
  obtain⟨l,m,h1,h2,_⟩:=rest_some hr
  exact⟨l,m,h1,h2⟩
 ·rintro⟨l,m,h1,h2⟩
  rw [rest_of h1 h2];rfl
theorem path_nil:Qb []=some []:=by decide +kernel
theorem in_all {p:Str}(h:Qm p=true):inB p []=true:=by
 obtain⟨l,hl⟩:=Option.isSome_iff_exists.1 h
 exact in_iff.2 ⟨l,[],hl,path_nil⟩
theorem in_two {p a b:Str}(h1:inB p a=true)(h2:inB p b=true):inB a b=true∨inB b a=true:=by
 obtain⟨l,m,e1,e2⟩:=in_iff.1 h1
 obtain⟨l',m',e3,e4⟩:=in_iff.1 h2
 rw [e1] at e3;have e5:=Option.some.inj e3
 rcases List.append_eq_append_iff.1 e5 with ⟨c,rfl,_⟩ | ⟨c,rfl,_⟩
 ·exact Or.inr (in_iff.2 ⟨c,m,e4,e2⟩)
 ·exact Or.inl (in_iff.2 ⟨c,m',e2,e4⟩)
def joinF (a b:Str):Option Str:=match Qb a,Qb b with
 | some l,some m=>Zy (l++m)
 | _,_=>none
theorem join_some {a b t:Str}(h:joinF a b=some t):∃ l m,Qb a=some l∧Qb b=some m∧Qb t=some (l++m)∧Zy (l++m)=some t:=by
 unfold joinF at h
 split at h
 ·next l m h1 h2=>exact⟨l,m,h1,h2,print_path h,h⟩
 ·cases h
theorem join_of {a b:Str}{l m:List Stp}(h1:Qb a=some l)(h2:Qb b=some m):joinF a b=Zy (l++m):=by
 unfold joinF;rw [h1,h2]
def betA (x:Al):Option Al→Bool
 | none=>true
 | some b=>inB x.1 b.1
def bestA (p:Str)(best:Option Al)(x:Al):Option Al:=if(inB p x.1&&betA x best)=true then some x else best
theorem bestA_pos {p:Str}{b:Option Al}{x:Al}(h:(inB p x.1&&betA x b)=true):bestA p b x=some x:=if_pos h
theorem bestA_neg {p:Str}{b:Option Al}{x:Al}(h:¬ (inB p x.1&&betA x b)=true):bestA p b x=b:=if_neg h
theorem bestA_cases (p:Str)(b:Option Al)(x:Al):((inB p x.1&&betA x b)=true∧bestA p b x=some x)∨(¬ (inB p x.1&&betA x b)=true∧bestA p b x=b):=by
 by_cases h:(inB p x.1&&betA x b)=true
 ·exact Or.inl ⟨h,bestA_pos h⟩
 ·exact Or.inr ⟨h,bestA_neg h⟩
def findA (D:List Al)(p:Str):Option Al:=D.foldl (bestA p) none
theorem best_some {p:Str}:∀ {D:List Al}{b:Option Al}{x:Al},D.foldl (bestA p) b=some x→b=some x∨(x∈D∧inB p x.1=true)
 | [],b,x,h=>Or.inl h
 | y::D,b,x,h=>by
  rw [List.foldl_cons] at h
  rcases best_some h with h | ⟨h1,h2⟩
  ·rcases bestA_cases p b y with ⟨hc,e⟩ | ⟨hc,e⟩
   ·rw [e] at h
    cases h;simp only [Bool.and_eq_true] at hc;exact Or.inr ⟨List.mem_cons_self ..,hc.1⟩
   ·rw [e] at h;exact Or.inl h
  ·exact Or.inr ⟨List.mem_cons_of_mem _ h1,h2⟩
theorem find_some {D:List Al}{p:Str}{x:Al}(h:findA D p=some x):x∈D∧inB p x.1=true:=by
 rcases best_some h with h | h
 ·cases h
 ·exact h
theorem find_snoc (D:List Al)(p:Str)(x:Al):findA (D++[x]) p=bestA p (findA D p) x:=by
 unfold findA;rw [List.foldl_append];rfl
def leadA (D:List Al)(p:Str):Option Str:=match findA D p with
 | none=>none
 | some x=>(restF p x.1).bind fun r=>joinF x.2 r
theorem lead_some {D:List Al}{p q:Str}(h:leadA D p=some q):∃ x l m n,findA D p=some x∧x∈D∧Qb p=some (m++l)∧Qb x.1=some m∧Qb x.2=some n∧Qb q=some (n++l)∧Zy (n++l)=some q:=by
 unfold leadA at h
 split at h
 ·cases h
 ·next x hx =>
  obtain⟨r,hr,hj⟩:=Option.bind_eq_some_iff.1 h
  obtain⟨l,m,h1,h2,rfl,h3⟩:=rest_some hr
  obtain⟨n,l',h4,h5,h6,h7⟩:=join_some hj
  rw [h3] at h5
  cases h5
  exact⟨x,l,m,n,hx,(find_some hx).1,h1,h2,h4,h6,h7⟩
theorem lead_path {D:List Al}{p q:Str}(h:leadA D p=some q):Qm q=true:=by
 obtain⟨_,_,_,_,_,_,_,_,_,h,_⟩:=lead_some h
 unfold Qm;rw [h];rfl
def folB (next one:Al):Bool:=inB one.2 next.1||inB next.1 one.2
theorem lead_fol {D:List Al}{p q:Str}{x y:Al}(hx:findA D p=some x)(h:leadA D p=some q)(hy:findA D q=some y):folB y x=true:=by
 obtain⟨x',l,m,n,h1,_,_,_,h2,h3,_⟩:=lead_some h
 rw [hx] at h1
 cases h1;have i1:inB q x.2=true:=in_iff.2 ⟨l,n,h3,h2⟩;have i2:=(find_some hy).2;unfold folB;rw [Bool.or_eq_true];exact in_two i1 i2
def reachA (D:List Al):Nat→Al→Al→Prop
 | 0,a,b=>a∈D∧b∈D∧folB b a=true
 | n+1,a,b=>∃ c,reachA D n a c∧b∈D∧folB b c=true
def ringA (D:List Al)(a:Al):Prop:=∃ n,reachA D n a a
def WayIs (D:List Al):Str→List Str→Prop
 | _,[]=>False
 | p,[x]=>x=p∧leadA D p=none
 | p,x::y::l=>x=p∧leadA D p=some y∧WayIs D y (y::l)
theorem way_head {D:List Al}:∀ {l:List Str}{p:Str},WayIs D p l→∃ r,l=p::r
 | [],_,h=>h.elim
 | [x],p,h=>⟨[],by rw [h.1]⟩
 | x::y::l,p,h=>⟨y::l,by rw [h.1]⟩
theorem way_one {D:List Al}:∀ {l m:List Str}{p:Str},WayIs D p l→WayIs D p m→l=m
 | [],_,_,h,_=>h.elim
 | _,[],_,_,h=>h.elim
 | [x],[y],p,h,h2=>by rw [h.1,h2.1]
 | [x],y::z::m,p,h,h2=>by have e:=h2.2.1;rw [h.2] at e;cases e
 | x::z::l,[y],p,h,h2=>by have e:=h.2.1;rw [h2.2] at e;cases e
 | x::y::l,z::u::m,p,h,h2=>by
  have h3:=h.2.1;rw [h2.2.1] at h3
  cases h3;rw [h.1,h2.1,way_one h.2.2 h2.2.2]
theorem way_path {D:List Al}:∀ {l:List Str}{p:Str},Qm p=true→WayIs D p l→∀ q∈l,Qm q=true
 | [],_,_,h,_,_=>h.elim
 | [x],p,hp,h,q,hq=>by rw [List.mem_singleton.1 hq,h.1];exact hp
 | x::y::l,p,hp,h,q,hq=>by
  rcases List.mem_cons.1 hq with rfl | hq
  ·rw [h.1];exact hp
  ·exact way_path (lead_path h.2.1) h.2.2 q hq
def iterA (D:List Al):Nat→Str→Option Str
 | 0,p=>some p
 | n+1,p=>(iterA D n p).bind (leadA D)
theorem iterA_succ (D:List Al):∀ (n:Nat)(p q:Str),leadA D p=some q→iterA D (n+1) p=iterA D n q
 | 0,p,q,h=>by simp [iterA,h]
 | n+1,p,q,h=>by
  rw [iterA,iterA_succ D n p q h];rfl
theorem way_of_iter {D:List Al}:∀ (n:Nat)(p:Str),iterA D n p=none→∃ l,WayIs D p l∧l.length≤n
 | 0,p,h=>by cases h
 | n+1,p,h=>by
  cases hl:leadA D p with
  | none=>exact⟨[p],⟨rfl,hl⟩,by simp⟩
  | some q =>
   rw [iterA_succ D n p q hl] at h
   obtain⟨l,h1,h2⟩:=way_of_iter n q h
   obtain⟨r,rfl⟩:=way_head h1
   exact⟨p::q::r,⟨rfl,hl,h1⟩,by simpa using h2⟩
theorem reach_more {D:List Al}{f:Nat→Al}(hf:∀ n,f n∈D){N:Nat}(h:∀ n,n<N→folB (f (n+1)) (f n)=true)(i:Nat):∀ k,i+k<N→reachA D k (f i) (f (i+(k+1)))
 | 0,hk=>⟨hf _,hf _,h i hk⟩
 | k+1,hk=>⟨_,reach_more hf h i k (by omega),hf _,h _ hk⟩
theorem way_ex {D : List Al} (hn : (D.map (·.1)).Nodup) (hr : ∀ a ∈ D, ¬ ringA D a) (p : Str) : ∃ l, WayIs D p l ∧ l.length ≤ D.length + 1 := by
  refine way_of_iter (D.length + 1) p ?_
  cases hc : iterA D (D.length + 1) p with
  | none => rfl
  | some z =>
    exfalso
    have hall : ∀ k, k ≤ D.length + 1 → ∃ q, iterA D k p = some q := by
      intro k hk
      obtain ⟨d, hd⟩ : ∃ d, d = D.length + 1 - k := ⟨_, rfl⟩
      revert k
      induction d with
      | zero => intro k hk hd; have : k = D.length + 1 := by omega
                subst this; exact ⟨z, hc⟩
      | succ d ih =>
        intro k hk hd
        obtain ⟨q, hq⟩ := ih (k + 1) (by omega) (by omega)
        rw [iterA] at hq
        obtain ⟨y, hy, _⟩ := Option.bind_eq_some_iff.1 hq
        exact ⟨y, hy⟩
    have hfind : ∀ k, k ≤ D.length → ∃ q x, iterA D k p = some q ∧ findA D q = some x ∧ (∃ q', iterA D (k + 1) p = some q' ∧ leadA D q = some q') := by
      intro k hk
      obtain ⟨q, hq⟩ := hall k (by omega)
      obtain ⟨q', hq'⟩ := hall (k + 1) (by omega)
      have h1 := hq'
      rw [iterA, hq] at h1
      have h2 : leadA D q = some q' := h1
      obtain ⟨x, _, _, _, h3, _⟩ := lead_some h2
      exact ⟨q, x, hq, h3, q', hq', h2⟩
    have hDne : D ≠ [] := by
      rintro rfl
      obtain ⟨q, x, _, h3, _⟩ := hfind 0 (Nat.zero_le _)
      cases h3
    obtain ⟨a0, ha0⟩ := List.exists_mem_of_ne_nil _ hDne
    let f : Nat → Al := fun k => if h : k ≤ D.length then (hfind k h).choose_spec.choose else a0
    have hf : ∀ k (h : k ≤ D.length), ∃ q, iterA D k p = some q ∧ findA D q = some (f k) ∧ (∃ q', iterA D (k + 1) p = some q' ∧ leadA D q = some q') := by
      intro k h
      have := (hfind k h).choose_spec.choose_spec
      refine ⟨_, this.1, ?_, this.2.2⟩
      rw [this.2.1]
      show _ = some (if h : k ≤ D.length then _ else _)
      rw [dif_pos h]
    have hfD : ∀ k, f k ∈ D := by
      intro k
      by_cases h : k ≤ D.length
      · obtain ⟨q, _, h2, _⟩ := hf k h
        exact (find_some h2).1
      · show (if h : k ≤ D.length then _ else _) ∈ D
        rw [dif_neg h]; exact ha0
    have hfol : ∀ k, k < D.length → folB (f (k + 1)) (f k) = true := by
      intro k hk
      obtain ⟨q, h1, h2, q', h3, h4⟩ := hf k (by omega)
      obtain ⟨r, h5, h6, _⟩ := hf (k + 1) (by omega)
      rw [h3] at h5
      cases h5
      exact lead_fol h2 h4 h6
    have htw : ∃ i j, i < j ∧ j ≤ D.length ∧ f i = f j := by
      apply Classical.byContradiction
      intro hno
      have hnd : ((List.range (D.length + 1)).map fun k => (f k).1).Nodup := by
        rw [List.Nodup, List.pairwise_map]
        refine List.Pairwise.imp_of_mem ?_ (List.pairwise_lt_range (n := D.length + 1))
        intro a b ha hb hlt e
        refine hno ⟨a, b, hlt, ?_, ?_⟩
        · have := List.mem_range.1 hb; omega
        · exact key_one hn (hfD a) (hfD b) e
      have := nodup_le _ (D.map (·.1)) hnd (fun x hx => by
        obtain ⟨k, _, rfl⟩ := List.mem_map.1 hx
        exact List.mem_map.2 ⟨_, hfD k, rfl⟩)
      rw [List.length_map, List.length_map, List.length_range] at this
      omega
    obtain ⟨i, j, hij, hj, he⟩ := htw
    refine hr (f i) (hfD i) ⟨j - i - 1, ?_⟩
    have := reach_more hfD hfol i (j - i - 1) (by omega)
    rw [show i + (j - i - 1 + 1) = j by omega, ← he] at this
    exact this
where
 key_one {D:List Al} (hn:(D.map (·.1)).Nodup) {a b:Al} (ha:a∈D) (hb:b∈D) (e:a.1=b.1):a=b:=by
  obtain⟨i,hi,rfl⟩:=List.getElem_of_mem ha
  obtain⟨j,hj,rfl⟩:=List.getElem_of_mem hb
  have h1:(D.map (·.1))[i]'(by simpa using hi)=(D.map (·.1))[j]'(by simpa using hj):=by simpa using e
  have:i=j:=(List.getElem_inj hn).1 h1
  subst this;rfl
def okAl (p:Al):Prop:=Qm p.1=true∧Qm p.2=true∧p.1≠[]∧p.2≠[]
instance (p:Al):Decidable (okAl p):=by unfold okAl;infer_instance
def badA (done:List Al):List Al→Option (Nat×Nat)
 | []=>none
 | p::r=>if okAl p then(if p.1∈done.map (·.1) then some (211,done.length) else badA (done++[p]) r) else some (2,done.length)
theorem badA_none {done r:List Al}(h:badA done r=none)(hd:(∀ p∈done,okAl p)∧(done.map (·.1)).Nodup):(∀ p∈done++r,okAl p)∧((done++r).map (·.1)).Nodup:=by
 induction r generalizing done with
 | nil=>rw [List.append_nil];exact hd
 | cons p r ih =>
  unfold badA at h
  split at h
  ·next hp =>
   split at h
   ·cases h
   ·next hm =>
    have:=ih h ⟨fun q hq=>by
     rcases List.mem_append.1 hq with hq | hq
     ·exact hd.1 q hq
     ·rw [List.mem_singleton.1 hq];exact hp,by
     rw [List.map_append,List.nodup_append]
     refine⟨hd.2,by simp,fun a ha b hb e=>?_⟩
     simp only [List.map_cons,List.map_nil,List.mem_singleton] at hb;subst hb;subst e;exact hm ha⟩
    rw [List.append_assoc] at this;exact this
  ·cases h
theorem badA_of:∀ {r done:List Al},(∀ p∈r,okAl p)→((done++r).map (·.1)).Nodup→badA done r=none
 | [],_,_,_=>rfl
 | p::r,done,h,hn=>by
  unfold badA;rw [if_pos (h p (List.mem_cons_self ..)),if_neg,badA_of (fun q hq=>h q (List.mem_cons_of_mem _ hq)) (by rw [List.append_assoc];exact hn)];intro hm;rw [List.map_append,List.nodup_append] at hn;exact hn.2.2 _ hm _ (List.mem_cons_self ..) rfl
def AlOut (l:List Al)(e i:Nat):Prop :=
 (badA [] l=some (e,i))∨(badA [] l=none∧e=210∧(∃ p,l[i]?=some p∧ringA l p)∧∀ j p,j<i→l[j]?=some p→¬ ringA l p)∨(badA [] l=none∧e=0∧i=0∧∀ p∈l,¬ ringA l p)
end
end Go.Proofs.YtbbmdbolkicpcaaGreatDoor
