/- InhLearn, TbWithG, PtLast, InhPar0, AlNew -/
import Derived.Test.YtbbmdbolkicpcabGreatDoorSDG20
import Derived.Test.YtbbmdbolkicpcabGreatDoorSDG12
import Derived.Test.YtbbmdbolkicpcabGreatDoorSDG09
import Derived.Deep.LoopGhost
import Derived.Test.YtbbmdbolkicpcabGreatDoorSDG16
import Derived.RegionIn
import Derived.BigRegionIn
import Derived.Test.YtbbmdbolkicpcabGreatDoorSDG18
import Derived.Test.YtbbmdbolkicpcabGreatDoorSDG19
import Derived.BigQuiet
set_option maxRecDepth 100000
set_option maxHeartbeats 32000000
set_option linter.unusedVariables false
set_option linter.unusedSimpArgs false
namespace Go.Proofs.YtbbmdbolkicpcabGreatDoor
section
open Go.RowKit Go.Lib Go.Maps
theorem LrM.len {w W:World}{rb km Rb Pb:Nat}{cs:Array Value}{K pile:List Str}{pv:Value}(h:LrM w W rb km Rb Pb cs K pv pile)(ty:TypeId):(Builtin.len_ #[73] ty #[.map (some km)]).run Tryz.prog W=.ok (.int .i64 (K.length:Nat)) W:=by
 have:=h.mp.len Tryz.underlying73 (by rw[Hm];exact h.nd) ty
 rwa [show(Jw K).length=K.length from by simp[Jw]]at this
def LearnOut (w:World)(t:Tb)(A:List Al)(km:Nat)(x:Ending)(w':World):Prop:=∃(ok:Bool) (K:List Str),x=.returned (.bool ok)∧Tq A (Yn t) ok K∧Zm Yy w' km K.length (Jw K)∧w.grownBy w' (some km)
theorem aps_kinds {W:World}{B1 B2 k1 k2 n1 n2:Nat}{e1 e2:TypeId}{v1 v2:Value}{x1 x2:List Value}(h1:W.ownsRow B1 e1 k1 v1 n1 x1)(h2:W.ownsRow B2 e2 k2 v2 n2 x2)(hne:e1≠e2):ApS v1 v2:=fun g hg e=>by
 rcases Kd h1 h2 hne with h|h
 ·rw[h]at e;cases e
 ·exact h (e.trans hg.symm)
theorem LrM.popS {w W:World}{rb km Rb Pb:Nat}{cs:Array Value}{K pile:List Str}{a:Option Addr}{c n:Nat}(h:LrM w W rb km Rb Pb cs K (.slice a n c) pile)(hn:n=pile.length)(m:Nat)(hm:m≤pile.length)(hp:0<pile.length) :
  LrM w (W.setCell ⟨Pb,0,none⟩ (.slice a m c)) rb km Rb Pb cs K (.slice a m c) (pile.take m):=by
 subst hn;have hrp:Rb≠Pb:=fun e=>by
  have h1:=h.r0;rw[e,h.pb]at h1
  have:=Option.some.inj h1
  injection this with _ e2 _
  revert e2
  decide
 have hsp:rb≠Pb:=fun e=>by
  have h1:=h.rs;rw[e,h.pb]at h1
  have:=Option.some.inj h1
  injection this with _ e2 _
  revert e2
  decide
 have hkp:km≠Pb:=fun e=>by
  obtain⟨es,ck,h2⟩:=h.mp.isMap
  rw[e,h.pb]at h2
  cases h2
 have ht:=own_take h.ps hm hp;have hlt:(pile.take m).length=m:=by rw[List.length_take];omega
 have ho:Qt W w.heap.size (.slice a m c) (pile.take m):=by
  unfold Qt;rw[hlt,List.map_take]
  simpa using ht
 refine⟨(heap_setCell_other _ _ _ _ hrp).trans h.r0,by rw[heap_setCell_same _ _ _ _ _ _ h.pb];rfl,Qb ho (Qx ho h.pb (by decide)) 0 _,h.mp.block (heap_setCell_other _ _ _ _ hkp),?_,(heap_setCell_other _ _ _ _ hsp).trans h.rs,h.lr,h.lp,h.kl,h.nd⟩
 exact⟨h.on.os,h.on.tape,h.on.output,by simpa using h.on.size,fun k hk hne=>(heap_setCell_other _ _ _ _ (fun e=>by have:=h.lp;simp only at e;omega)).trans (h.on.block k hk hne)⟩
theorem learn_any {B0:Nat}(w:World)(rb Bt va km:Nat)(vc:Value)(t:Tb)(A:List Al)(hr:w.heap[rb]?=some (.cells #[.pointer (some ⟨Bt,0,none⟩),vc,.pointer (some ⟨va,0,none⟩),.map (some km)] 75 (0,0)))
  (hT:∀W,w.grownBy W (some km)→TbP B0 W Bt t)(ok:Fx t)(sz:SzT t)(hA:∀W,w.grownBy W (some km)→Qsz W (.pointer (some ⟨va,0,none⟩)) A)(sA:szA A)(nA:A.length≤1000)(hm:Zm Yy w km 0 (Jw []))
  (hbase:∀p,p∈Yn t↔∃l∈Mp t.names,p∈Kv t l) :
  Calls Tryz.prog 56 #[.pointer (some ⟨rb,0,none⟩)] w fun x w'=>LearnOut w t A km x w':=by
 have hsP:∀p∈Yn t,p.length≤maxLen:=fun p hp=>by
  obtain⟨l,_,h⟩:=(hbase p).1 hp
  exact Qrg sz h
 have hK16:∀K:List Str,K.Nodup→(∀p∈K,p∈Yn t)→K.length≤16384:=fun K hn hs=>by
  refine Nat.le_trans (Dp K t.paths hn fun p hp=>?_) ok.p16
  obtain⟨r,hr,rfl⟩:=List.mem_map.1 (hs p hp)
  exact ok.rp r (List.mem_filter.1 hr).1
 have HSP:=hid hsP;have HK16:=hid hK16;have HT:=hid hT;have HA:=hid hA;have HBASE:=hid hbase;have HSA:=hid sA;have HNA:=hid nA;have HNM:=hid ok.n512;have L0:=hid (show LrM w ((w.alloc (.cells #[.pointer (some ⟨rb,0,none⟩)] 24)).alloc (.cells #[.slice none 0 0] 28)) rb km w.heap.size (w.heap.size+1) #[.pointer (some ⟨Bt,0,none⟩),vc,.pointer (some ⟨va,0,none⟩),.map (some km)] [] (.slice none 0 0) []from by
  have b1:Below w.heap.size w (w.alloc (.cells #[.pointer (some ⟨rb,0,none⟩)] 24)):=bal _ _;have b2:Below (w.alloc (.cells #[.pointer (some ⟨rb,0,none⟩)] 24)).heap.size (w.alloc (.cells #[.pointer (some ⟨rb,0,none⟩)] 24)) ((w.alloc (.cells #[.pointer (some ⟨rb,0,none⟩)] 24)).alloc (.cells #[.slice none 0 0] 28)):=bal _ _;have b3:=b1.then b2;have h2:=heap_alloc_new (w.alloc (.cells #[.pointer (some ⟨rb,0,none⟩)] 24)) (.cells #[.slice none 0 0] 28);rw[show(w.alloc (.cells #[.pointer (some ⟨rb,0,none⟩)] 24)).heap.size=w.heap.size+1 by simp]at h2
  exact⟨(b2.block _ (lt_of_block (heap_alloc_new w _))).trans (heap_alloc_new w _),h2,World.ownsRow_nil _ _ _ _,hm.below b3,⟨b3.os,b3.tape,b3.output,b3.size,fun k hk _=>b3.block k hk⟩,bk b3 hr,Nat.le_refl _,Nat.le_succ _,hm.lt,by simp⟩)
 clear hr hT hA hm hbase sA nA hsP hK16
 go_enter Tryz.func56,Tryz.ntmps56
 go_upto_region 3 with fail;generalize (w.alloc (.cells #[.pointer (some ⟨rb,0,none⟩)] 24)).alloc (.cells #[.slice none 0 0] 28)=w2 at *;generalize w.heap.size+1=Pb at *
 obtain⟨Rb,hRb⟩:∃Rb,Rb=w.heap.size:=⟨_,rfl⟩
 rw[←hRb];rw[←hRb]at L0;clear hRb;have RC:=hid (fun(W:World) (K:List Str) (pv:Value) (pile:List Str) (h:LrM w W rb km Rb Pb #[.pointer (some ⟨Bt,0,none⟩),vc,.pointer (some ⟨va,0,none⟩),.map (some km)] K pv pile)=>(show W.cell? ⟨Rb,0,none⟩=some (.pointer (some ⟨rb,0,none⟩))∧Rb<W.heap.size∧W.cell? ⟨Pb,0,none⟩=some pv∧W.frozen? ⟨Pb,0,none⟩=false∧Pb<W.heap.size from⟨by rw[cell_of_row _ _ _ _ _ _ h.r0];rfl,lt_of_block h.r0,by rw[cell_of_row _ _ _ _ _ _ h.pb];rfl,frozen_of_row _ _ _ _ _ h.pb,lt_of_block h.pb⟩))
 obtain⟨r0,rl,p0,pf,pl⟩:=RC.out _ _ _ _ L0.out
 obtain⟨a0,a1,a2,a3,al⟩:=Jm L0.out.rs
 have LO:=hid ((HT.out _ L0.out.on).locales ok);go_wp2_with fail;refine LO.out.mono ?_;rintro e w3 ⟨vn,rfl,on3,hb3⟩
 obtain⟨an,cn,rfl⟩:=Zc on3
 have L3:=hid (L0.out.below hb3);have ON3:=hid on3;clear r0 rl p0 pf pl a0 a1 a2 a3 al on3 hb3 L0 LO
 obtain⟨nm,hnm⟩:∃nm,nm=Mp t.names:=⟨_,rfl⟩
 have HNM2:=hid (show nm.length≤512 by rw[hnm,(Qjg _).length_eq];exact HNM.out);have HNSZ:=hid (show ∀l∈nm,l.length≤maxLen from fun l hl=>names_sz sz (by rw[←hnm];exact hl));rw[←hnm]at ON3 HBASE ⊢;clear hnm;go_upto_region 4 with fail
 go_loopg[24] nm.length (fun g v24 W=>∃(i:Nat) (K:List Str) (pv:Value),i≤nm.length∧nm.length≤i+g∧v24=.int .i64 i∧LrM w W rb km Rb Pb #[.pointer (some ⟨Bt,0,none⟩),vc,.pointer (some ⟨va,0,none⟩),.map (some km)] K pv K∧(∀p∈K,p∈Yn t)∧(∀l∈nm.take i,∀p∈Kv t l,p∈K)∧Qt W w2.heap.size (.slice an nm.length cn) nm∧ApS pv (.slice an nm.length cn))
 case atStart=>exact⟨0,[],_,Nat.zero_le _,by omega,rfl,L3.out,fun p hp=>by simp at hp,fun l hl=>by simp at hl,ON3.out,fun g _ h=>by simp[Value.ownBlock]at h⟩
 case round =>
  obtain⟨i,K,pv,hi,hg,rfl,hL,hKb,hKn,hon,hap⟩:=hrel
  rename World=>w4
  obtain⟨go,hgo⟩:∃go,go=gk:=⟨_,rfl⟩
  have HG:=hid (show nm.length≤i+go by rw[hgo];exact hg);have HGO:=hid hgo;have L4:=hid hL;have HKB:=hid hKb;have HKN:=hid hKn;have ON4:=hid hon;have HAP:=hid hap;have hi0:(0:Int)≤(i:Int):=by omega
  clear hgo hg hL hKb hKn hon hap L3 ON3
  by_cases hlt:i<nm.length
  ·have hii:(i:Int)<(nm.length:Int):=by omega
   have hib:(i:Int)≤512:=by have:=HNM2.out;omega
   have HLM:=hid (HNSZ.out _ (List.getElem_mem hlt));have HLT:=hid (List.take_succ_eq_append_getElem hlt);have HMEM:=hid (List.getElem_mem hlt)
   obtain⟨ao,cp,e,_,hcc⟩:=Qt.rd ON4.out
   cases e
   obtain⟨bq,off,rfl,hbq,hcl⟩:=hcc (by intro e;rw[e]at hlt;simp at hlt)
   have n0:w4.cell? ⟨bq,off+i,none⟩=some (.string ⟨(nm[i]'hlt).toArray⟩):=hcl i _ (List.getElem?_eq_getElem hlt);clear hcc hcl;generalize nm[i]'hlt=l at *
   obtain⟨r0,rl,p0,pf,pl⟩:=RC.out _ _ _ _ L4.out
   obtain⟨a0,a1,a2,a3,al⟩:=Jm L4.out.rs
   have PA:=hid ((HT.out _ L4.out.on).paths ok l HLM.out);have PSZ:=hid (fun p (h:p∈Kv t l)=>Qrg sz h);have PB:=hid (fun p (h:p∈Kv t l)=>(HBASE.out p).2 ⟨l,HMEM.out,h⟩)
   obtain⟨ps,hps⟩:∃ps,ps=Kv t l:=⟨_,rfl⟩
   have HPS:=hid hps;rw[←hps]at PA PSZ PB;clear hps;go_wp2_with fail;refine PA.out.mono ?_;rintro e w5 ⟨vp,rfl,op5,hb5⟩
   obtain⟨aq,cq,rfl⟩:=Zc op5
   have L5:=hid (L4.out.below hb5);have ON5:=hid (show Qt w5 w2.heap.size _ nm from Qz ON4.out hb5);have OP5:=hid op5;have HAP5:=hid (show ApS pv (.slice aq ps.length cq)from fun g hg e=>by
    have h1:=(World.ownsRow.lt op5 g hg).1;have h2:=(World.ownsRow.lt L4.out.ps g e).2
    omega)
   clear r0 rl p0 pf pl a0 a1 a2 a3 al op5 hb5 PA L4 ON4 n0 hbq;go_upto_region 7 with fail
   go_loopg[35] ps.length (fun g v35 W=>∃(j:Nat) (K2:List Str) (pv2:Value),j≤ps.length∧ps.length≤j+g∧v35=.int .i64 j∧LrM w W rb km Rb Pb #[.pointer (some ⟨Bt,0,none⟩),vc,.pointer (some ⟨va,0,none⟩),.map (some km)] K2 pv2 K2∧(∀p∈K2,p∈Yn t)∧(∀p∈K,p∈K2)∧(∀p∈ps.take j,p∈K2)∧Qt W w2.heap.size (.slice (some ⟨bq,off,none⟩) nm.length cn) nm∧ApS pv2 (.slice (some ⟨bq,off,none⟩) nm.length cn)∧Qt W w4.heap.size (.slice aq ps.length cq) ps∧ApS pv2 (.slice aq ps.length cq))
   case atStart=>exact⟨0,K,pv,Nat.zero_le _,by omega,rfl,L5.out,HKB.out,fun p h=>h,fun p hp=>by simp at hp,ON5.out,HAP.out,OP5.out,HAP5.out⟩
   case round =>
    obtain⟨j,K2,pv2,hj,hg2,rfl,hL2,hKb2,hKK,hKj,hon2,hap2,hop2,hap3⟩:=hrel
    rename World=>w6
    have HG2:=hid hg2;have L6:=hid hL2;have HKB2:=hid hKb2;have HKK:=hid hKK;have HKJ:=hid hKj;have ON6:=hid hon2;have HAP2:=hid hap2;have OP6:=hid hop2;have HAP3:=hid hap3;have hj0:(0:Int)≤(j:Int):=by omega
    clear hg2 hL2 hKb2 hKK hKj hon2 hap2 hop2 hap3 L5 ON5 OP5 HAP5
    by_cases hjl:j<ps.length
    ·have hji:(j:Int)<(ps.length:Int):=by omega
     have HPM:=hid (List.getElem_mem hjl);have HPT:=hid (List.take_succ_eq_append_getElem hjl)
     obtain⟨ao,cp,e,⟨hpz,_⟩,hcc⟩:=Qt.rd OP6.out
     cases e
     obtain⟨b2,off2,rfl,hb2,hcl⟩:=hcc (by intro e;rw[e]at hjl;simp at hjl)
     have n0:w6.cell? ⟨b2,off2+j,none⟩=some (.string ⟨(ps[j]'hjl).toArray⟩):=hcl j _ (List.getElem?_eq_getElem hjl);clear hcc hcl;generalize ps[j]'hjl=p at *;have HKL:=hid (HK16.out K2 L6.out.nd HKB2.out);have AD:=hid (Xxh L6.out p (PSZ.out p HPM.out) (by have:=HKL.out;omega) (by have:=HKL.out;omega));have hjb:(j:Int)≤9223372036854775806:=by omega
     go_wp2_with fail;refine AD.out.mono ?_;rintro e w7 ⟨rfl,pv7,hL7,hk7⟩;have L7:=hid hL7;have X1:=hid (Zmx ON6.out hk7 HAP2.out L6.out.mp L6.out.pb (by decide));have X2:=hid (Zmx OP6.out hk7 HAP3.out L6.out.mp L6.out.pb (by decide));clear hL7 hk7 n0 hb2 AD;go_wp2_with fail
     go_roundg (gk-1)
     case measure=>have:=HG2.out;omega
     case rel =>
      refine⟨j+1,Qqh K2 p,pv7,by omega,by have:=HG2.out;omega,by simp,L7.out,fun x hx=>?_,fun x hx=>Qzq.2 (Or.inl (HKK.out x hx)),fun x hx=>?_,X1.out.1,X1.out.2,X2.out.1,X2.out.2⟩
      ·rcases Qzq.1 hx with hx|rfl
       ·exact HKB2.out x hx
       ·exact PB.out _ HPM.out
      ·rw[HPT.out]at hx
       rcases List.mem_append.1 hx with hx|hx
       ·exact Qzq.2 (Or.inl (HKJ.out x hx))
       ·exact Qzq.2 (Or.inr (List.mem_singleton.1 hx))
    ·have hji:¬(j:Int)<(ps.length:Int):=by omega
     obtain rfl:j=ps.length:=by omega
     go_wp2_with fail
     go_roundg (go-1)
     case measure=>have:=HG.out;have:=HGO.out;omega
     case rel =>
      refine⟨i+1,K2,pv2,by omega,by have:=HG.out;omega,by simp,L6.out,HKB2.out,fun x hx q hq=>?_,ON6.out,HAP2.out⟩
      rw[HLT.out]at hx
      rcases List.mem_append.1 hx with hx|hx
      ·exact HKK.out q (HKN.out x hx q hq)
      ·rw[List.mem_singleton.1 hx,←HPS.out]at hq;exact HKJ.out q (by rw[List.take_length];exact hq)
  ·have hii:¬(i:Int)<(nm.length:Int):=by omega
   obtain rfl:i=nm.length:=by omega
   have HI:=hid (Rg.start (D:=A) HKB.out (fun p hp=>by
    obtain⟨l,hl,h⟩:=(HBASE.out p).1 hp
    exact HKN.out l (by rw[List.take_length];exact hl) p h))
   have HK0:=hid (HK16.out K L4.out.nd HKB.out)
   obtain⟨r0,rl,p0,pf,pl⟩:=RC.out _ _ _ _ L4.out
   obtain⟨a0,a1,a2,a3,al⟩:=Jm L4.out.rs
   have AA:=hid (aall_any w4 (.pointer (some ⟨va,0,none⟩)) A (HA.out _ L4.out.on) HNA.out);clear HKB HKN ON4 HAP hi hi0 hii hlt HNSZ HNM2 HG HGO;go_wp2_with fail;refine AA.out.mono ?_;rintro e w5 ⟨vv,rfl,ov5,hb5⟩
   obtain⟨aq,cq,rfl⟩:=Zx ov5
   have L5:=hid (L4.out.below hb5);have OV5:=hid ov5;clear r0 rl p0 pf pl a0 a1 a2 a3 al ov5 hb5 AA L4;go_upto_region 13 with fail
   go_loopg[] 60000 (fun g W=>∃(K2 pile:List Str) (pv2:Value),LrM w W rb km Rb Pb #[.pointer (some ⟨Bt,0,none⟩),vc,.pointer (some ⟨va,0,none⟩),.map (some km)] K2 pv2 pile∧Rg A (Yn t) K2 pile none∧Qd W w4.heap.size (.slice aq A.length cq) A∧K2.length≤20000∧2 * (20000-K2.length)+pile.length≤g∧2 * (20000-K2.length)+pile.length≤60000)
   case atStart=>exact⟨K,K,pv,L5.out,HI.out,OV5.out,by have:=HK0.out;omega,by have:=HK0.out;omega,by have:=HK0.out;omega⟩
   case round =>
    obtain⟨K2,pile,pv2,hL,hI,hov,hk2,hg,hg6⟩:=hrel
    rename World=>w6
    obtain⟨go,hgo⟩:∃go,go=gk:=⟨_,rfl⟩
    have HG:=hid (show 2 * (20000-K2.length)+pile.length≤go by rw[hgo];exact hg);have HG6:=hid hg6;have HGO:=hid hgo;have L6:=hid hL;have HI6:=hid hI;have OV6:=hid hov;have HK2:=hid hk2;clear hgo hg hg6 hL hI hov hk2 L5 OV5 HI HK0
    obtain⟨av,cv,rfl⟩:=Zc L6.out.ps
    obtain⟨r0,rl,p0,pf,pl⟩:=RC.out _ _ _ _ L6.out
    obtain⟨a0,a1,a2,a3,al⟩:=Jm L6.out.rs
    have HLEN:=fun ty=>L6.out.len ty
    by_cases hpl:pile=[]
    ·subst hpl;have HKI:=hid (HI6.out.known L6.out.nd)
     by_cases h16:K2.length≤16384
     ·have h16i:(K2.length:Int)≤16384:=by omega
      go_wp2_with fail;exact bodyPost_ret (v:=.bool true) (by simp[results,Tryz.results56,go_sem]) rfl ⟨true,K2,rfl,Or.inl ⟨rfl,HKI.out,h16⟩,L6.out.mp,L6.out.on⟩
     ·have h16i:¬(K2.length:Int)≤16384:=by omega
      have h16j:(16384:Int)<(K2.length:Int):=by omega
      go_wp2_with fail;exact bodyPost_ret (v:=.bool false) (by simp[results,Tryz.results56,go_sem]) rfl ⟨false,K2,rfl,Or.inr ⟨rfl,K2,L6.out.nd,HI6.out.gen,by omega⟩,L6.out.mp,L6.out.on⟩
    ·obtain⟨m,hml⟩:∃m,pile.length=m+1:=⟨pile.length-1,by have:=List.length_pos_iff.2 hpl;omega⟩
     have hmlt:m<pile.length:=by omega
     have hmi0:(0:Int)<(m:Int)+1:=by omega
     by_cases h16:K2.length≤16384
     ·have h16i:¬(16384:Int)<(K2.length:Int):=by omega
      obtain⟨ao,cp,e,_,hcc⟩:=Qt.rd L6.out.ps
      cases e
      obtain⟨bq,off,rfl,hbq,hcl⟩:=hcc hpl
      obtain⟨c,hc⟩:∃c,c=pile[m]'hmlt:=⟨_,rfl⟩
      have n0:w6.cell? ⟨bq,off+m,none⟩=some (.string ⟨c.toArray⟩):=by rw[hc];exact hcl m _ (List.getElem?_eq_getElem hmlt)
      have hcap:pile.length≤cv:=by
       rcases Qt.shape L6.out.ps with ⟨e,_⟩|⟨g,cap,cur,e,_,_,hn,_⟩
       ·cases e
       ·cases e;exact hn
      have HPI:=hid (HI6.out.pop hml (show pile[m]?=some c from by rw[hc];exact List.getElem?_eq_getElem hmlt));have HPL:=hid (L6.out.popS rfl m (by omega) (by omega));have HCM:=hid (show c∈K2 from HI6.out.pk c (by rw[hc];exact List.getElem_mem hmlt));have HCL:=hid (gen_len HSP.out (HI6.out.gen c HCM.out));have hmm:((m:Int)+1)-1=(m:Int):=by omega
      have hm0:(0:Int)≤(m:Int):=by omega
      have hmb:(m:Int)≤60000:=by have:=HG6.out;omega
      have hmc:(m:Int)≤(cv:Int):=by omega
      have hm1:(m:Int)<(m:Int)+1:=by omega
      have HPZ:=hid (show(pile.take m).length=m by rw[List.length_take];omega);have HGM:=hid (show 2 * (20000-K2.length)+m+1≤go∧2 * (20000-K2.length)+m≤60000 by have:=HG.out;have:=HG6.out;omega);have H16:=hid h16;have OVS:=hid (show Qd (w6.setCell ⟨Pb,0,none⟩ (.slice (some ⟨bq,off,none⟩) m cv)) w4.heap.size (.slice aq A.length cq) A from Qb OV6.out (Qx OV6.out L6.out.pb (by decide)) 0 _);rw[hml]at p0;clear hcc hcl hc hpl hmlt hcap h16;clear hml;go_upto_region 19 with fail;generalize w6.setCell ⟨Pb,0,none⟩ (.slice (some ⟨bq,off,none⟩) m cv)=w7 at *;clear r0 rl p0 pf pl a0 a1 a2 a3 al n0 hbq HLEN L6 OV6 HI6
      go_loopg[71] A.length (fun g v71 W=>∃(u:Nat) (K3 pile3:List Str) (pv3:Value),u≤A.length∧A.length≤u+g∧v71=.int .i64 u∧LrM w W rb km Rb Pb #[.pointer (some ⟨Bt,0,none⟩),vc,.pointer (some ⟨va,0,none⟩),.map (some km)] K3 pv3 pile3∧Rg A (Yn t) K3 pile3 (some (c,u))∧Qd W w4.heap.size (.slice aq A.length cq) A∧K3.length≤K2.length+u∧2 * (20000-K3.length)+pile3.length+1≤go∧2 * (20000-K3.length)+pile3.length≤60000)
      case atStart=>exact⟨0,K2,_,_,Nat.zero_le _,by omega,rfl,HPL.out,HPI.out,OVS.out,Nat.le_refl _,by rw[HPZ.out];exact HGM.out.1,by rw[HPZ.out];exact HGM.out.2⟩
      case round =>
       obtain⟨u,K3,pile3,pv3,hu,hg,rfl,hL,hI,hov,hk3,hg3,hg4⟩:=hrel
       rename World=>w8
       have HGI:=hid hg;have L8:=hid hL;have HI8:=hid hI;have OV8:=hid hov;have HK3:=hid hk3;have HG3:=hid hg3;have HG4:=hid hg4;have hu0:(0:Int)≤(u:Int):=by omega
       have hub:(u:Int)≤1000:=by have:=HNA.out;omega
       clear hg hL hI hov hk3 hg3 hg4 HPL HPI OVS
       by_cases hul:u<A.length
       ·have hui:(u:Int)<(A.length:Int):=by omega
        obtain⟨ao,cp,e,_,hcc⟩:=Xm OV8.out.rd
        cases e
        obtain⟨p2,o2,rfl,hp2,c0,c1⟩:=hcc u hul
        have HSX:=hid (HSA.out _ (List.getElem_mem hul));have HNX:=hid (fun hn=>HI8.out.none_ hul hn);have HAD:=hid (fun q (hq:Bk c A[u]=some q)=>HI8.out.add hul hq);generalize A[u]'hul=x at *
        obtain⟨xk,xv⟩:=x
        clear hcc;simp only at c0 c1;have HMV:=hid (show Bk c (xk,xv)=(Yf c xv).bind fun r=>Gt xk r from rfl);have F9:=hid (heap_alloc_new w8 (.cells #[.string ⟨xk.toArray⟩,.string ⟨xv.toArray⟩] 37));have HA9:=hid (bal w8 (.cells #[.string ⟨xk.toArray⟩,.string ⟨xv.toArray⟩] 37));have L9:=hid (L8.out.below HA9.out);have OV9:=hid (show Qd (w8.alloc (.cells #[.string ⟨xk.toArray⟩,.string ⟨xv.toArray⟩] 37)) w4.heap.size _ A from Qz OV8.out HA9.out);have RS:=hid (Qkj (w8.alloc (.cells #[.string ⟨xk.toArray⟩,.string ⟨xv.toArray⟩] 37)) c xv HCL.out HSX.out.2);go_upto_region 21 with fail;generalize w8.alloc (.cells #[.string ⟨xk.toArray⟩,.string ⟨xv.toArray⟩] 37)=w9 at *;generalize w8.heap.size=xb at *
        obtain⟨x0,x1,_,_,xl⟩:=Qq F9.out
        clear c0 c1 hp2 L8 OV8 HA9;go_wp2_with fail;refine RS.out.mono ?_;rintro e wa ⟨rfl,hba⟩;have La:=hid (L9.out.below hba);have OVa:=hid (show Qd wa w4.heap.size _ A from Qz OV9.out hba);have Fa:=hid (bk hba F9.out);clear x0 x1 xl hba RS L9 OV9 F9
        obtain⟨x0,x1,_,_,xl⟩:=Qq Fa.out
        cases hrf:Yf c xv with
        |none =>
         have HN:=hid (HNX.out (by rw[HMV.out,hrf];rfl));clear hrf;simp only[Zww,Option.getD_none,Option.isSome_none];go_wp2_with fail
         go_roundg (gk-1)
         case measure=>have:=HGI.out;omega
         case rel=>exact⟨u+1,K3,pile3,pv3,by omega,by have:=HGI.out;omega,by simp,La.out,HN.out,OVa.out,by have:=HK3.out;omega,HG3.out,HG4.out⟩
        |some r =>
         have HRL:=hid (show r.length≤maxLen from by
          obtain⟨l',m',_,_,_,h4⟩:=Uv hrf
          have h1:=Zy h4;have h2:=h1.2.2.2.1;rw[h1.2.2.2.2]at h2;unfold maxLen
          omega)
         have HMV2:=hid (show Bk c (xk,xv)=Gt xk r by rw[HMV.out,hrf];rfl);have JN:=hid (Zwy wa xk r HSX.out.1 HRL.out);clear hrf HMV;simp only[Zww,Option.getD_some,Option.isSome_some];go_wp2_with fail;refine JN.out.mono ?_;rintro e wb ⟨⟨er,rfl,her⟩,hbb⟩;have Lb:=hid (La.out.below hbb);have OVb:=hid (show Qd wb w4.heap.size _ A from Qz OVa.out hbb);clear x0 x1 xl hbb JN La OVa Fa
         cases hjf:Gt xk r with
         |none =>
          have HN:=hid (HNX.out (by rw[HMV2.out,hjf]));have hne:er≠0:=fun e=>by have:=her.1 e;rw[hjf]at this;cases this
          have hei:((er:Int)==0)=false:=beq_eq_false_iff_ne.2 (by omega);clear her hjf;go_wp2_with fail
          go_roundg (gk-1)
          case measure=>have:=HGI.out;omega
          case rel=>exact⟨u+1,K3,pile3,pv3,by omega,by have:=HGI.out;omega,by simp,Lb.out,HN.out,OVb.out,by have:=HK3.out;omega,HG3.out,HG4.out⟩
         |some q =>
          have HQ:=hid (HAD.out q (by rw[HMV2.out,hjf]));have hz:er=0:=her.2 (by rw[hjf];rfl);subst hz;have HQL:=hid (show q.length≤maxLen from by
           obtain⟨l',m',_,_,h4,_⟩:=Qjx hjf
           have h1:=Zy h4;have h2:=h1.2.2.2.1;rw[h1.2.2.2.2]at h2;unfold maxLen
           omega)
          have AD:=hid (Xxh Lb.out q HQL.out (by have:=HK3.out;have:=H16.out;have:=HNA.out;omega) (by have:=HG4.out;omega));have HAL:=hid (addK_len (pile:=pile3) K3 q);clear her hjf;simp only[Option.getD_some];go_wp2_with fail;refine AD.out.mono ?_;rintro e wc ⟨rfl,pvc,hLc,hkc⟩;have Lc:=hid hLc;have X1:=hid (Zmx OVb.out hkc (aps_kinds Lb.out.ps OVb.out (by decide)) Lb.out.mp Lb.out.pb (by decide));clear hLc hkc AD;go_wp2_with fail
          go_roundg (gk-1)
          case measure=>have:=HGI.out;omega
          case rel =>
           have hk3:=HK3.out;have hg3:=HG3.out;have hg4:=HG4.out;have h16:=H16.out;have hna:=HNA.out
           refine⟨u+1,Qqh K3 q,Qsh K3 pile3 q,pvc,by omega,by have:=HGI.out;omega,by simp,Lc.out,HQ.out,X1.out.1,?_,?_,?_⟩
           ·rcases HAL.out with ⟨h1,_⟩|⟨h1,_⟩ <;> omega
           ·rcases HAL.out with ⟨h1,h2⟩|⟨h1,h2⟩
            ·rw[h1,h2];exact hg3
            ·omega
           ·rcases HAL.out with ⟨h1,h2⟩|⟨h1,h2⟩
            ·rw[h1,h2];exact hg4
            ·omega
       ·have hui:¬(u:Int)<(A.length:Int):=by omega
        have HFI:=hid (HI8.out.fin (by omega));go_wp2_with fail
        go_roundg (go-1)
        case measure=>have:=HG3.out;have:=HGO.out;omega
        case rel=>exact⟨K3,pile3,pv3,L8.out,HFI.out,OV8.out,by have:=HK3.out;have:=H16.out;have:=HNA.out;omega,by have:=HG3.out;omega,HG4.out⟩
     ·have h16i:(16384:Int)<(K2.length:Int):=by omega
      rw[hml]at p0;go_wp2_with fail;exact bodyPost_ret (v:=.bool false) (by simp[results,Tryz.results56,go_sem]) rfl ⟨false,K2,rfl,Or.inr ⟨rfl,K2,L6.out.nd,HI6.out.gen,by omega⟩,L6.out.mp,L6.out.on⟩
end
section
open Go.RowKit Go.Lib Go.Sort Go.Maps Go.WideMaps Go.Shelf
theorem Xjh (n:Nat)(hn:1≤n)(l b0 b1 b2 C pt:Nat)(t:Tb)(ok:Fx t)(hs:SzT t)(loc grp:Str)(hl:loc.length≤maxLen)(hg:grp.length≤maxLen)(w:World)
  (Kp:World→World→Prop)(Fr:World→Value→Prop)
  (hBX:∀V,Kp w V→TbP C V pt t∧V.cell? ⟨b0,0,none⟩=some (.pointer (some ⟨pt,0,none⟩))∧V.cell? ⟨b1,0,none⟩=some (.string ⟨loc.toArray⟩)∧V.cell? ⟨b2,0,none⟩=some (.string ⟨grp.toArray⟩)∧b0<V.heap.size∧b1<V.heap.size∧b2<V.heap.size)
  (hKB:∀A B,w.heap.size≤A.heap.size→Below A.heap.size A B→Kp A B)(hKT:∀A B C,Kp A B→Kp B C→Kp A C)(hKZ:∀A B,Kp A B→A.heap.size≤B.heap.size)
  (J Jx:List (Str×Str)→World→Prop)(W:World)(hW:Below w.heap.size w W)(hJ:AbidesFrom W.heap.size J)
  (hF0:∀B v,Qt B W.heap.size v (Kv t loc)→Below W.heap.size W B→J [] W→Fr B v)(hF1:∀A B v,Fr A v→Below A.heap.size A B→Fr B v)(hF2:∀A B v,Fr A v→Kp A B→Fr B v)(hF3:∀A v,Fr A v→Qt A W.heap.size v (Kv t loc))
  (hY:∀pre x W1,pre++[x] <+: inP t loc grp (Kv t loc)→J pre W1→YieldAt Fence.wide (n-1) Tryz.prog l #[.string ⟨x.1.toArray⟩,.string ⟨x.2.toArray⟩] W1 fun e W' =>
   (e=.returned (.bool true)∧J (pre++[x]) W'∧Kp W1 W')∨(e=.returned (.bool false)∧Jx (pre++[x]) W'))(hJ0:J [] W) :
  CallsIn Fence.wide n Tryz.prog 158 #[.func (.yield l) #[] #[],.pointer (some ⟨b0,0,none⟩),.pointer (some ⟨b1,0,none⟩),.pointer (some ⟨b2,0,none⟩)] W fun e W'=>(∃v,e=.returned v)∧
   ((∃xs,xs=inP t loc grp (Kv t loc)∧J xs W')∨(∃pre,pre <+: inP t loc grp (Kv t loc)∧Jx pre W')):=by
 have BX:=hid hBX;have KB:=hid hKB;have KT:=hid hKT;have KZ:=hid hKZ;have FR1:=hid hF1;have FR2:=hid hF2;have FR3:=hid hF3;have HP:=hid (fun p (h:p∈Kv t loc)=>Qrg hs h);have KW:=hid (hKB w W (Nat.le_refl _) hW);have FR0:=hid (fun B v h1 h2=>hF0 B v h1 h2 hJ0);have HZW:=hid (show w.heap.size≤W.heap.size from hW.size);clear hBX hKB hKT hKZ hF0 hF1 hF2 hF3 hW hs;have ABJ:=hid hJ;have HY:=hid hY;have HJ0:=hid hJ0;clear hJ hY hJ0
 obtain⟨T0,x0,x1,x2,l0,l1,l2⟩:=BX.out W KW.out
 refine callsIn_of_wp Tryz.func158 rfl trivial ?_ rfl;simp only[Tryz.ntmps158,List.size_toArray,List.length_cons,List.length_nil,Nat.reduceAdd,Nat.reduceSub,Array.replicate_succ,Array.replicate_zero,List.push_toArray,List.append_toArray,List.nil_append,List.cons_append];have PA:=hid (T0.paths ok loc hl);clear T0
 gi_wp2
 refine⟨trivial,callsIn_wide.2 (PA.out.mono ?_)⟩
 rintro e w1 ⟨v1,rfl,o1,hb1⟩;have O1:=hid (FR0.out w1 v1 o1 hb1);have J1:=hid (ABJ.out [] W w1 none HJ0.out (Jv hb1) (fun r e=>by cases e));have K1:=hid (KT.out _ _ _ KW.out (KB.out _ _ HZW.out hb1));have HZ1:=hid hb1.size;clear o1 hb1 FR0 PA x0 x1 x2 l0 l1 l2 HJ0 KW;generalize hps:Kv t loc=ps at *
 obtain⟨a1,c1,rfl⟩:=Zc (FR3.out _ _ O1.out)
 gi_wp2
 gi_loopw [13] (fun i wr=>∃k:Nat,k≤ps.length∧i=.int .i64 k∧J (inP t loc grp (ps.take k)) wr∧Kp w wr∧Fr wr (.slice a1 ps.length c1)∧W.heap.size≤wr.heap.size) (fun i _=>ps.length-(intOf i).toNat)
 case atStart=>exact⟨0,Nat.zero_le _,rfl,J1.out,K1.out,O1.out,HZ1.out⟩
 case round =>
  obtain⟨k,hk,rfl,hJ2,hK2,ho,hz2⟩:=hrel
  rename World=>w2
  have J2:=hid hJ2;have K2:=hid hK2;have O2:=hid ho;have HZ2:=hid hz2
  obtain⟨_,_,e,⟨hpz,_⟩,hcc⟩:=Qt.rd (FR3.out _ _ ho)
  cases e;have HPZ:=hid hpz;have HCC:=hid hcc;clear hJ2 hK2 ho hz2 J1 K1 O1 HZ1 hpz hcc
  by_cases hlt:k<ps.length
  ·have hni:(k:Int)<(ps.length:Int):=by omega
   have hn0:(0:Int)≤(k:Int):=by omega
   have hpz:(ps.length:Int)≤9223372036854775807:=by have:=HPZ.out;omega
   obtain⟨bq,off,rfl,hbq,hcl⟩:=HCC.out (by intro e;rw[e]at hlt;simp at hlt)
   have r0:w2.cell? ⟨bq,off+k,none⟩=some (.string ⟨(ps[k]'hlt).toArray⟩):=hcl k _ (List.getElem?_eq_getElem hlt);have HMP:=hid (HP.out _ (List.getElem_mem hlt));have HIT:=hid (inP_take (t:=t) (loc:=loc) (grp:=grp) hlt);have HLE:=hid (Qgg (t:=t) (loc:=loc) (grp:=grp) ps (k+1)).length_le;have IN:=hid (Qgk w2 (ps[k]'hlt) grp HMP.out hg)
   obtain⟨T2,x0,x1,x2,l0,l1,l2⟩:=BX.out w2 K2.out
   clear T2 hcl HCC;generalize ps[k]'hlt=p at *
   cases hin:inB p grp with
   |false =>
    rw[hin]at IN HIT;have HI2:=hid (show inP t loc grp (ps.take (k+1))=inP t loc grp (ps.take k)by rw[HIT.out];simp);clear hin HIT
    gi_wp2
    refine⟨trivial,callsIn_wide.2 (IN.out.mono ?_)⟩
    rintro e w3 ⟨rfl,hb3⟩;have J3:=hid (ABJ.out _ w2 w3 none J2.out (Jv hb3) (fun r e=>by cases e));have K3:=hid (KT.out _ _ _ K2.out (KB.out _ _ (Nat.le_trans HZW.out HZ2.out) hb3));have O3:=hid (FR1.out _ w3 _ O2.out hb3);have HZ3:=hid (Nat.le_trans HZ2.out hb3.size);clear hb3 x0 x1 x2 l0 l1 l2 r0 hbq
    gi_wp2
    go_roundw
    case rel=>exact⟨k+1,by omega,by simp,by rw[HI2.out];exact J3.out,K3.out,O3.out,HZ3.out⟩
    case measure=>simp[intOf];omega
   |true =>
    rw[hin]at IN HIT;have HI2:=hid (show inP t loc grp (ps.take (k+1))=inP t loc grp (ps.take k)++[(p,Sl (Jk t.rows loc p))]by rw[HIT.out];simp);clear hin HIT
    gi_wp2
    refine⟨trivial,callsIn_wide.2 (IN.out.mono ?_)⟩
    rintro e w3 ⟨rfl,hb3⟩;have J3:=hid (ABJ.out _ w2 w3 none J2.out (Jv hb3) (fun r e=>by cases e));have K3:=hid (KT.out _ _ _ K2.out (KB.out _ _ (Nat.le_trans HZW.out HZ2.out) hb3));have O3:=hid (FR1.out _ w3 _ O2.out hb3);have HZ3:=hid (Nat.le_trans HZ2.out hb3.size);clear hb3 x0 x1 x2 l0 l1 l2 r0 hbq IN
    obtain⟨T3,x0,x1,x2,l0,l1,l2⟩:=BX.out w3 K3.out
    have GT:=hid (T3.get loc p hl HMP.out);clear T3
    gi_wp2
    refine⟨trivial,callsIn_wide.2 (GT.out.mono ?_)⟩
    rintro e w4 ⟨rfl,hb4⟩;have J4:=hid (ABJ.out _ w3 w4 none J3.out (Jv hb4) (fun r e=>by cases e));have K4:=hid (KT.out _ _ _ K3.out (KB.out _ _ (Nat.le_trans HZW.out HZ3.out) hb4));have O4:=hid (FR1.out _ w4 _ O3.out hb4);have HZ4:=hid (Nat.le_trans HZ3.out hb4.size);clear hb4 x0 x1 x2 l0 l1 l2 GT
    obtain⟨fn,tmps,assign,body,hy,hR⟩:=HY.out _ (p,Sl (Jk t.rows loc p)) w4 (by
     rw[←HI2.out];exact Qgg ps (k+1)) J4.out
    dsimp only at hy
    gi_wp2
    refine hR.mono ?_;rintro e w5 (⟨rfl,hJ5,hk5⟩|⟨rfl,hJx5⟩)
    ·have O5:=hid (FR2.out _ w5 _ O4.out hk5);have K5:=hid (KT.out _ _ _ K4.out hk5);have HZ5:=hid (Nat.le_trans HZ4.out (KZ.out _ _ hk5))
     gi_wp2
     go_roundw
     case rel=>exact⟨k+1,by omega,by simp,by rw[HI2.out];exact hJ5,K5.out,O5.out,HZ5.out⟩
     case measure=>simp[intOf];omega
    ·gi_wp2
     refine bodyPost_ret (results_none rfl _ _ _) rfl ?_
     exact⟨⟨_,rfl⟩,.inr ⟨inP t loc grp (ps.take (k+1)),by first|exact Qgg ps (k+1)|(rw[hps];exact Qgg ps (k+1)),by rw[HI2.out];exact hJx5⟩⟩
  ·have hni:¬(k:Int)<(ps.length:Int):=by omega
   have hkn:k=ps.length:=by omega
   have HJ3:=hid (show J (inP t loc grp ps) w2 from by have:=J2.out;rw[hkn,List.take_length]at this;exact this)
   gi_wp2
   go_end0
   first|exact⟨⟨_,rfl⟩,.inl ⟨_,rfl,HJ3.out⟩⟩|exact⟨⟨_,rfl⟩,.inl HJ3.out⟩
end
section
open Go.RowKit Go.Lib Go.Sort Go.Maps Go.WideMaps Go.Shelf
theorem TbP.same {B0:Nat}{W W':World}{pt:Nat}{t:Tb}(h:TbP B0 W pt t)(he:∀k,k<W.heap.size→W'.heap[k]?=W.heap[k]?):TbP B0 W' pt t:=by
 obtain⟨bv,ba,bn,bp,N,V,⟨⟨a1,a2,a3,a4,a5,a6,a7,a8,a9,a10⟩,lo,h3⟩⟩:=h
 have hm:∀{α:Type}{E:El α}{k n:Nat}{L:List (Str×α)},Zm E W k n L→Zm E W' k n L:=fun {α E k n L} ho=>ho.block (he _ ho.lt)
 exact⟨bv,ba,bn,bp,N,V,⟨⟨(he _ (lt_of_block a1)).trans a1,hm a2,hm a3,hm a4,hm a5,fun p hp=>hm (a6 p hp),a7,a8,a9,a10⟩,lo,h3⟩⟩
theorem Zqh (n:Nat)(hn:1≤n)(b0 b1 b2 C pt:Nat)(t:Tb)(ok:Fx t)(hs:SzT t)(loc grp:Str)(hl:loc.length≤maxLen)(hg:grp.length≤maxLen)(w:World)(hT:TbP C w pt t)
  (h0:w.heap[b0]?=some (.cells #[.pointer (some ⟨pt,0,none⟩)] 46 (0,0)))(h1:w.heap[b1]?=some (.cells #[.string ⟨loc.toArray⟩] 9 (0,0)))(h2:w.heap[b2]?=some (.cells #[.string ⟨grp.toArray⟩] 9 (0,0)))(hno:Kv t loc=[]) :
  SeqStopsK Fence.wide n Tryz.prog 158 #[.pointer (some ⟨b0,0,none⟩),.pointer (some ⟨b1,0,none⟩),.pointer (some ⟨b2,0,none⟩)] (fun x:Empty=>#[.string ⟨#[]⟩,.string ⟨#[]⟩]) (fun _ _=>True)
   (fun _=>True) (fun _=>False) 0 w:=fun l J Jx W hW hJ _ hY hJ0=>by
 have hin:inP t loc grp (Kv t loc)=[]:=by rw[hno];rfl
 refine(Xjh n hn l b0 b1 b2 C pt t ok hs loc grp hl hg w (KpB w.heap.size w.heap.size) (fun A v=>Qt A W.heap.size v (Kv t loc)) (fun V hk=>?_) (fun A B hA hb=>KpB.of_below hb hA) (fun A B C h g=>h.trans g) (fun A B h=>h.size)
  (fun pre V=>pre=[]∧J [] V) (fun _ _=>False) W hW (fun s A B row hs hg hr=>⟨hs.1,hJ [] A B row hs.2 hg hr⟩) (fun B v ho _ _=>ho) (fun A B v h hb=>Qz h hb) (fun A B v h hk=>own_kp h hk hW.size) (fun A v h=>h) (fun pre x W1 hp _=>?_) ⟨rfl,hJ0⟩).mono ?_
 ·have hlow:∀k,k<w.heap.size→V.heap[k]?=w.heap[k]?:=fun k h=>hk.low k h (Nat.ne_of_lt h)
  have e0:=(hlow b0 (lt_of_block h0)).trans h0;have e1:=(hlow b1 (lt_of_block h1)).trans h1;have e2:=(hlow b2 (lt_of_block h2)).trans h2
  exact⟨hT.same hlow,by rw[cell_of_row _ _ _ _ _ _ e0];rfl,by rw[cell_of_row _ _ _ _ _ _ e1];rfl,by rw[cell_of_row _ _ _ _ _ _ e2];rfl,lt_of_block e0,lt_of_block e1,lt_of_block e2⟩
 ·rw[hin]at hp;exact absurd (List.prefix_nil.1 hp) (by simp)
 ·rintro e W' ⟨h1,h2⟩
  refine⟨h1,?_⟩
  rcases h2 with ⟨xs,rfl,h3⟩|⟨pre,_,h3⟩
  ·exact Or.inl ⟨[],trivial,h3.2⟩
  ·exact h3.elim
theorem Zmh {C pt:Nat}(w:World)(t:Tb)(hT:TbP C w pt t)(ok:Fx t)(sz:SzT t)(hno:Kv t []=[]) :
  Calls Tryz.prog 49 #[.pointer (some ⟨pt,0,none⟩)] w fun e w'=>e=.returned (.tuple #[.slice none 0 0,.slice none 0 0])∧Below w.heap.size w w':=by
 refine(callsIn_wide (n:=6)).1 ?_
 refine callsIn_of_wp_marks Tryz.func49 rfl trivial ?_ rfl;simp only[Tryz.ntmps49,List.size_toArray,List.length_cons,List.length_nil,Nat.reduceAdd,Nat.reduceSub,Array.replicate_succ,Array.replicate_zero,List.push_toArray,List.append_toArray,List.nil_append,List.cons_append];have F1:=hid (heap_alloc_new w (.cells #[.slice none 0 0] 31));have B1:=hid (bal w (.cells #[.slice none 0 0] 31));have F2:=hid (show((w.alloc (.cells #[.slice none 0 0] 31)).alloc (.cells #[.slice none 0 0] 28)).heap[w.heap.size+1]?=some (.cells #[.slice none 0 0] 28 (0,0))from by
  have e:=heap_alloc_new (w.alloc (.cells #[.slice none 0 0] 31)) (.cells #[.slice none 0 0] 28);rw[show(w.alloc (.cells #[.slice none 0 0] 31)).heap.size=w.heap.size+1 by simp]at e;exact e)
 have HA2:=hid (show Below (w.alloc (.cells #[.slice none 0 0] 31)).heap.size (w.alloc (.cells #[.slice none 0 0] 31)) ((w.alloc (.cells #[.slice none 0 0] 31)).alloc (.cells #[.slice none 0 0] 28))from bal _ _);have B2:=hid (B1.out.then HA2.out);have F12:=hid (bk HA2.out F1.out);have T2:=hid (hT.below B2.out)
 gi_wp2
 generalize (w.alloc (.cells #[.slice none 0 0] 31)).alloc (.cells #[.slice none 0 0] 28)=w5 at *
 refine⟨trivial,callsIn_wide.2 ((Xfv (some ⟨pt,0,none⟩) [] [] w5).mono ?_)⟩
 rintro e w6 ⟨rfl,hw6⟩;have HB:=hid (show Below w5.heap.size w5 (((w5.alloc (.cells #[.pointer (some ⟨pt,0,none⟩)] 46)).alloc (.cells #[.string ⟨#[]⟩] 9)).alloc (.cells #[.string ⟨#[]⟩] 9)) from((bal _ _).alloc (by simp) _).alloc (by simp;omega) _);have c0:(((w5.alloc (.cells #[.pointer (some ⟨pt,0,none⟩)] 46)).alloc (.cells #[.string ⟨#[]⟩] 9)).alloc (.cells #[.string ⟨#[]⟩] 9)).heap[w5.heap.size]?=some (.cells #[.pointer (some ⟨pt,0,none⟩)] 46 (0,0)) :=
  (Below.heap_alloc _ _ _ (by simp;omega)).trans ((Below.heap_alloc _ _ _ (by simp)).trans (heap_alloc_new w5 (.cells #[.pointer (some ⟨pt,0,none⟩)] 46)))
 have c1:(((w5.alloc (.cells #[.pointer (some ⟨pt,0,none⟩)] 46)).alloc (.cells #[.string ⟨#[]⟩] 9)).alloc (.cells #[.string ⟨#[]⟩] 9)).heap[w5.heap.size+1]?=some (.cells #[.string ⟨#[]⟩] 9 (0,0)):=by
  have e:=heap_alloc_new (w5.alloc (.cells #[.pointer (some ⟨pt,0,none⟩)] 46)) (.cells #[.string ⟨#[]⟩] 9);rw[show(w5.alloc (.cells #[.pointer (some ⟨pt,0,none⟩)] 46)).heap.size=w5.heap.size+1 by simp]at e
  exact(Below.heap_alloc _ _ _ (by simp)).trans e
 have c2:(((w5.alloc (.cells #[.pointer (some ⟨pt,0,none⟩)] 46)).alloc (.cells #[.string ⟨#[]⟩] 9)).alloc (.cells #[.string ⟨#[]⟩] 9)).heap[w5.heap.size+1+1]?=some (.cells #[.string ⟨#[]⟩] 9 (0,0)):=by
  have e:=heap_alloc_new ((w5.alloc (.cells #[.pointer (some ⟨pt,0,none⟩)] 46)).alloc (.cells #[.string ⟨#[]⟩] 9)) (.cells #[.string ⟨#[]⟩] 9);rw[show((w5.alloc (.cells #[.pointer (some ⟨pt,0,none⟩)] 46)).alloc (.cells #[.string ⟨#[]⟩] 9)).heap.size=w5.heap.size+1+1 by simp]at e;exact e
 gi_wp2
 clear hw6;generalize ((w5.alloc (.cells #[.pointer (some ⟨pt,0,none⟩)] 46)).alloc (.cells #[.string ⟨#[]⟩] 9)).alloc (.cells #[.string ⟨#[]⟩] 9)=W6 at *;have F6:=hid (bk HB.out F2.out);have F16:=hid (bk HB.out F12.out);have B6:=hid (B2.out.then HB.out);have T6:=hid (T2.out.below HB.out);refine wpIn_rangeFunc_ownF (Kp:=fun _ _=>True) (α:=Empty) rfl (by omega) (gf:=158) rfl trivial (enters_of Tryz.func158 (by kernel_rfl) rfl)
  (Zqh 5 (by decide) w5.heap.size (w5.heap.size+1) (w5.heap.size+1+1) C pt t ok sz [] [] (by decide) (by decide) W6 T6.out c0 c1 c2 hno) (fun _ _=>trivial) (fun _ _ _ _ _ _ _ _=>trivial) (Below.refl _ _) (fun _=>rfl)
  (fun _ W=>Below W6.heap.size W6 W) (fun _ _ _=>False) (ownFrom_below (Nat.le_refl _) (Nat.le_refl _)) (fun _ _ _ _ _ h _ _=>h) (Below.refl _ _) (fun x=>x.elim) (fun l x=>x.elim) (fun l pre x=>x.elim) ?done (fun D c pre W _ h=>h.elim)
 case done =>
  rintro D xs W hD _ hb hK;have F7:=hid (bk hb F6.out);have F17:=hid (bk hb F16.out);have B7:=hid (B6.out.then hb);have d0:W.cell? ⟨w.heap.size,0,none⟩=some (.slice none 0 0):=cR F17.out;have d1:W.cell? ⟨w.heap.size+1,0,none⟩=some (.slice none 0 0):=cR F7.out;have dl0:=lt_of_block F17.out;have dl1:=lt_of_block F7.out
  gi_wp2
  gi_region
  all_goals gi_wp2
  have hK':W.drew.heap[D]?=some (.deferred (some [])):=hK
  refine⟨by simp,.inl ⟨_,_,rfl,run_takeDeferred hK',?_⟩⟩
  refine⟨.tuple #[.slice none 0 0,.slice none 0 0],?_,rfl,?_⟩
  ·simp[results,Tryz.f49,go_sem]
  ·exact B7.out.drew.trans (belowK_b (w:=w) (Nat.le_refl _) _ D _ _ (Nat.le_trans B6.out.size hD) hK' rfl rfl)
end
section
open Go.RowKit Go.Lib
def ChkRel (w:World)(k v:Str)(v6 v7:Value)(W:World):Prop:=∃(b6 b7 e6 e7:Nat) (a6 a7:Int),v6=.pointer (some ⟨b6,0,none⟩)∧v7=.pointer (some ⟨b7,0,none⟩)∧
 W.heap[b6]?=some (.cells #[.int .i64 e6,.int .i64 a6] 78 (0,0))∧W.heap[b7]?=some (.cells #[.int .i64 e7,.int .i64 a7] 78 (0,0))∧(e6=0↔Zv k=true)∧(e7=0↔Zv v=true)∧Below w.heap.size w W
theorem anew_any (w:World)(av:Option Addr)(cv:Nat)(l:List Al)(h:RdP w (.slice av l.length cv) l)(hl:l.length≤1000)(hcv:l.length≤cv)(hs:szA l) :
  Calls Tryz.prog 55 #[.slice av l.length cv] w fun x w'=>Xng w l x w':=by
 have HL:=hid h;have HN:=hid hl;have HS:=hid hs;have F0:=hid (heap_alloc_new w (.cells #[.int .i64 0,.int .i64 0] 105));have B0:=hid (bal w (.cells #[.int .i64 0,.int .i64 0] 105));clear h hl hs
 go_enter Tryz.func55,Tryz.ntmps55
 go_upto_region 2 with fail;generalize w.alloc (.cells #[.int .i64 0,.int .i64 0] 105)=w0 at *
 go_loopg[18] l.length (fun g v18 W=>∃k:Nat,k≤l.length∧l.length≤k+g∧v18=.int .i64 k∧Hv l k∧W.heap[w.heap.size]?=some (.cells #[.int .i64 0,.int .i64 0] 105 (0,0))∧Below w.heap.size w W)
 case atStart=>exact⟨0,Nat.zero_le _,by omega,rfl,Hv.zero l,F0.out,B0.out⟩
 case round =>
  obtain⟨k,hk,hg,rfl,hpre,hf,hb⟩:=hrel
  rename World=>w1
  have HG:=hid hg;have HPRE:=hid hpre;have HF:=hid hf;have HB:=hid hb;have hk0:(0:Int)≤(k:Int):=by omega
  have hkb:(k:Int)≤1000:=by have:=HN.out;omega
  have hkc:(k:Int)≤(cv:Int):=by omega
  clear hg hpre hf hb F0 B0
  by_cases hlt:k<l.length
  ·have hki:(k:Int)<(l.length:Int):=by omega
   obtain⟨ao,cp,e,_,hcc⟩:=Xm (HL.out.below HB.out)
   cases e
   obtain⟨p,o,rfl,hp,c0,c1⟩:=hcc k hlt
   have HPL:=hid (Xxj HL.out (by intro e;rw[e]at hlt;simp at hlt));have HSK:=hid (HS.out _ (List.getElem_mem hlt));have HOKN:=hid (fun(hn:¬Sm (l[k]'hlt))=>HPRE.out.no hlt hn);have HAG:=hid (fun(hn:Sm (l[k]'hlt)) ha=>HPRE.out.again hlt hn ha);have HMO:=hid (fun(hn:Sm (l[k]'hlt)) ha=>HPRE.out.more hlt hn ha);generalize l[k]'hlt=y at *
   obtain⟨yk,yv⟩:=y
   clear hcc;have F2:=hid (heap_alloc_new w1 (.cells #[.string ⟨yk.toArray⟩,.string ⟨yv.toArray⟩] 37));have HA2:=hid (bal w1 (.cells #[.string ⟨yk.toArray⟩,.string ⟨yv.toArray⟩] 37));have HB2:=hid (HB.out.then HA2.out);have HF2:=hid (bk HA2.out HF.out);have CKK:=hid (fun W=>Cf yk W HSK.out.1);have CKV:=hid (fun W=>Cf yv W HSK.out.2);simp only at c0 c1;go_upto_region 4 with fail;generalize w1.alloc (.cells #[.string ⟨yk.toArray⟩,.string ⟨yv.toArray⟩] 37)=w2 at *;generalize w1.heap.size=yb at *
   obtain⟨y0,y1,_,_,yl⟩:=Qq F2.out
   go_cut[6,7]from 23 to 28 (fun v6 v7 wx=>ChkRel w2 yk yv v6 v7 wx)
   case first =>
    refine Zqj (by kernel_rfl) (by kernel_rfl) [23,24,25,26,27,28,6,7] (Gv w2 yb yk yv) ?_ ?_ ?_
    ·intro f0
     refine⟨(Below.refl _ w2).drew,?_,?_,?_,?_,?_,?_,?_,?_,?_,?_,?_⟩
     all_goals (intro g;exact absurd g (LLno (by show _<10;decide)))
    ·intro listed f W i hI hl oi hoi haf;have hyb:=(hI.b.block yb (lt_of_block F2.out)).trans F2.out
     obtain⟨q0,q1,qf0,qf1,ql⟩:=Qq hyb
     match i,hl,oi,hoi,haf with
     |0,hl,oi,hoi,haf =>
      obtain rfl:=Option.some.inj hoi;refine Dz rfl rfl ?_;simp only[Yz,List.foldl_cons,List.foldl_nil,List.setIfInBounds_toArray,List.set_cons_zero,List.set_cons_succ]
      go_simp
      exact⟨upd f 23 (.pointer (some ⟨yb,0,none⟩)),by simp[upd],hI.n0 _ rfl⟩
     |1,hl,oi,hoi,haf =>
      obtain rfl:=Option.some.inj hoi;have d0:=LL.of (haf ⟨0,Ground.data⟩ (by simp) rfl:listed.getD 0 false=true);have e0:=hI.l0 d0;refine Dz rfl rfl ?_;simp only[Yz,List.foldl_cons,List.foldl_nil,List.setIfInBounds_toArray,List.set_cons_zero,List.set_cons_succ]
      go_simp
      exact⟨upd f 24 (.string ⟨yk.toArray⟩),by simp[upd,e0],hI.n1 _ rfl⟩
     |2,hl,oi,hoi,haf =>
      obtain rfl:=Option.some.inj hoi;have d1:=LL.of (haf ⟨1,Ground.data⟩ (by simp) rfl:listed.getD 1 false=true);have e0:=hI.l1 d1;refine Dz rfl rfl ?_;simp only[Yz,List.foldl_cons,List.foldl_nil,List.setIfInBounds_toArray,List.set_cons_zero,List.set_cons_succ]
      go_simp
      refine(CKK.out _).mono ?_
      rintro e w3 ⟨⟨er,ea,rfl,he⟩,hb3⟩
      exact⟨upd f 25 (.agg #[.int .i64 er,.int .i64 ea]),by simp[upd,Yz,e0],(hI.world hb3).n2 _ ⟨er,ea,rfl,he⟩⟩
     |3,hl,oi,hoi,haf =>
      obtain rfl:=Option.some.inj hoi;refine Dz rfl rfl ?_;simp only[Yz,List.foldl_cons,List.foldl_nil,List.setIfInBounds_toArray,List.set_cons_zero,List.set_cons_succ]
      go_simp
      exact⟨upd f 26 (.pointer (some ⟨yb,1,none⟩)),by simp[upd],hI.n3 _ rfl⟩
     |4,hl,oi,hoi,haf =>
      obtain rfl:=Option.some.inj hoi;have d3:=LL.of (haf ⟨3,Ground.data⟩ (by simp) rfl:listed.getD 3 false=true);have e0:=hI.l3 d3;refine Dz rfl rfl ?_;simp only[Yz,List.foldl_cons,List.foldl_nil,List.setIfInBounds_toArray,List.set_cons_zero,List.set_cons_succ]
      go_simp
      exact⟨upd f 27 (.string ⟨yv.toArray⟩),by simp[upd,e0],hI.n4 _ rfl⟩
     |5,hl,oi,hoi,haf =>
      obtain rfl:=Option.some.inj hoi;have d4:=LL.of (haf ⟨4,Ground.data⟩ (by simp) rfl:listed.getD 4 false=true);have e0:=hI.l4 d4;refine Dz rfl rfl ?_;simp only[Yz,List.foldl_cons,List.foldl_nil,List.setIfInBounds_toArray,List.set_cons_zero,List.set_cons_succ]
      go_simp
      refine(CKV.out _).mono ?_
      rintro e w3 ⟨⟨er,ea,rfl,he⟩,hb3⟩
      exact⟨upd f 28 (.agg #[.int .i64 er,.int .i64 ea]),by simp[upd,Yz,e0],(hI.world hb3).n5 _ ⟨er,ea,rfl,he⟩⟩
     |6,hl,oi,hoi,haf =>
      obtain rfl:=Option.some.inj hoi;refine Dz rfl rfl ?_;simp only[Yz,List.foldl_cons,List.foldl_nil,List.setIfInBounds_toArray,List.set_cons_zero,List.set_cons_succ]
      go_simp
      have hbA:Below W.heap.size W (W.alloc (.cells #[.int .i64 0,.int .i64 0] 78)):=bal _ _
      refine⟨upd f 6 (.pointer (some ⟨W.heap.size,0,none⟩)),by simp[upd],(hI.world hbA).n6 _ ⟨W.heap.size,_,_,rfl,heap_alloc_new W _,hI.b.size⟩ ?_ ?_⟩
      ·intro g e
       obtain⟨b',_,_,h1,h2,_⟩:=hI.l7 g
       rw[h1]at e
       have:=lt_of_block h2
       simp at e <;> omega
      ·intro g
       obtain⟨h0,_⟩:=hI.l8 g
       unfold LL at h0;rw[h0]at hl
       cases hl
     |7,hl,oi,hoi,haf =>
      obtain rfl:=Option.some.inj hoi;refine Dz rfl rfl ?_;simp only[Yz,List.foldl_cons,List.foldl_nil,List.setIfInBounds_toArray,List.set_cons_zero,List.set_cons_succ]
      go_simp
      have hbA:Below W.heap.size W (W.alloc (.cells #[.int .i64 0,.int .i64 0] 78)):=bal _ _
      refine⟨upd f 7 (.pointer (some ⟨W.heap.size,0,none⟩)),by simp[upd],(hI.world hbA).n7 _ ⟨W.heap.size,_,_,rfl,heap_alloc_new W _,hI.b.size⟩ ?_ ?_⟩
      ·intro g e
       obtain⟨b',_,_,h1,h2,_⟩:=hI.l6 g
       rw[h1]at e
       have:=lt_of_block h2
       simp at e <;> omega
      ·intro g
       obtain⟨h0,_⟩:=hI.l9 g
       unfold LL at h0;rw[h0]at hl
       cases hl
     |8,hl,oi,hoi,haf =>
      obtain rfl:=Option.some.inj hoi;have d2:=LL.of (haf ⟨2,Ground.data⟩ (by simp) rfl:listed.getD 2 false=true);have d6:=LL.of (haf ⟨6,Ground.data⟩ (by simp) rfl:listed.getD 6 false=true)
      obtain⟨e,x,e0,he⟩:=hI.l2 d2
      obtain⟨bb,z0,z1,e1,h2,h3⟩:=hI.l6 d6
      obtain⟨m0,m1,mf0,mf1,ml⟩:=Qq h2
      refine Dz rfl rfl ?_;simp only[Yz,List.foldl_cons,List.foldl_nil,List.setIfInBounds_toArray,List.set_cons_zero,List.set_cons_succ]
      go_simp
      exact⟨f,by simp[Yz,e0,e1],hI.n8 d6 bb e x e1 he⟩
     |9,hl,oi,hoi,haf =>
      obtain rfl:=Option.some.inj hoi;have d5:=LL.of (haf ⟨5,Ground.data⟩ (by simp) rfl:listed.getD 5 false=true);have d7:=LL.of (haf ⟨7,Ground.data⟩ (by simp) rfl:listed.getD 7 false=true)
      obtain⟨e,x,e0,he⟩:=hI.l5 d5
      obtain⟨bb,z0,z1,e1,h2,h3⟩:=hI.l7 d7
      obtain⟨m0,m1,mf0,mf1,ml⟩:=Qq h2
      refine Dz rfl rfl ?_;simp only[Yz,List.foldl_cons,List.foldl_nil,List.setIfInBounds_toArray,List.set_cons_zero,List.set_cons_succ]
      go_simp
      exact⟨f,by simp[Yz,e0,e1],hI.n9 d7 bb e x e1 he⟩
     |n+10,hl,oi,hoi,haf=>exact absurd hoi (by simp)
    ·intro listed f W hI hr
     obtain⟨_,b6,e6,x6,h61,h62,h63⟩:=hI.l8 (hr 8 (by decide))
     obtain⟨_,b7,e7,x7,h71,h72,h73⟩:=hI.l9 (hr 9 (by decide))
     simp only[Yz,List.foldl_cons,List.foldl_nil,List.setIfInBounds_toArray,List.set_cons_zero,List.set_cons_succ];go_wp2_with fail
     go_meet
     exact⟨b6,b7,e6,e7,x6,x7,rfl,rfl,h62,h72,h63,h73,hI.b⟩
   case rest =>
    obtain⟨b6,b7,e6,e7,x6,x7,rfl,rfl,h6,h7,he6,he7,hbc⟩:=hcut
    rename World=>w3
    have B3:=hid (HB2.out.then hbc);have F3:=hid ((hbc.block yb (lt_of_block F2.out)).trans F2.out);have HF3:=hid (bk hbc HF2.out);have HE6:=hid he6;have HE7:=hid he7;clear y0 y1 yl F2 HA2 HB HF HB2 HF2 hbc he6 he7 c0 c1 hp
    obtain⟨y0,y1,_,_,yl⟩:=Qq F3.out
    obtain⟨m0,m1,_,_,ml⟩:=Qq h6
    obtain⟨n0,n1,_,_,nl⟩:=Qq h7
    clear h6 h7
    obtain⟨r0,r1,rf0,rf1,rlt⟩:=Qq HF3.out
    by_cases hok:Sm (yk,yv)
    ·obtain⟨o1,o2,o3,o4⟩:=hok
     have z6:e6=0:=HE6.out.2 o1;have z7:e7=0:=HE7.out.2 o2;subst z6;subst z7;have hyk:(yk==[])=false:=beq_eq_false_iff_ne.2 o3;have hyv:(yv==[])=false:=beq_eq_false_iff_ne.2 o4;have HOK:=hid (show Sm (yk,yv) from⟨o1,o2,o3,o4⟩);simp only at o3 o4;have HTK:=hid (show RdP w3 (.slice (some ⟨p,o,none⟩) (l.take k).length cv) (l.take k)from rdP_take (HL.out.below B3.out) k hk);rw[show(l.take k).length=k from by rw[List.length_take];omega]at HTK;have HK:=hid (hasKeyAN w3 (.slice (some ⟨p,o,none⟩) k cv) (l.take k) yb yk HTK.out (by rw[List.length_take];have:=HN.out;omega) (by
      intro a n c e
      cases e
      exact⟨p,o,rfl,Nat.lt_of_lt_of_le HPL.out B3.out.size⟩) _ F3.out)
     clear HTK o1 o2;go_wp2_with fail;refine HK.out.mono ?_;rintro e w4 ⟨rfl,hb4⟩;have B4:=hid (B3.out.then hb4);have HF4:=hid (bk hb4 HF3.out);clear y0 y1 yl m0 m1 ml n0 n1 nl r0 r1 rf0 rf1 rlt hb4 B3 HF3 F3 HK
     obtain⟨r0,r1,rf0,rf1,rlt⟩:=Qq HF4.out
     cases hany:(l.take k).any (fun p=>p.1==yk) with
     |true =>
      have HO:=hid (HAG.out HOK.out hany);clear hany;go_wp2_with fail;change bodyPost _ _ _ _ _ (P2 w4 w.heap.size (.int .i64 (211:Nat)) (.int .i64 (k:Nat)));exact Cr HF4.out B4.out HO.out (fun h=>by cases h) (fun _=>rfl) rfl rfl rfl
     |false =>
      have HO:=hid (HMO.out HOK.out hany);clear hany;go_wp2_with fail
      go_roundg (gk-1)
      case measure=>have:=HG.out;omega
      case rel=>exact⟨k+1,by omega,by have:=HG.out;omega,by simp,HO.out,HF4.out,B4.out⟩
    ·have HO:=hid (HOKN.out hok);have HE:=hid (show ¬(Zv yk=true∧Zv yv=true∧yk≠[]∧yv≠[])from hok);clear hok HAG HMO HOKN
     by_cases z6:e6=0
     ·subst z6
      by_cases z7:e7=0
      ·subst z7
       by_cases hyk0:yk=[]
       ·clear HE6 HE7 HE CKK CKV HSK F3;subst hyk0;go_wp2_with fail;change bodyPost _ _ _ _ _ (P2 w3 w.heap.size (.int .i64 (2:Nat)) (.int .i64 (k:Nat)));exact Cr HF3.out B3.out HO.out (fun h=>by cases h) (fun _=>rfl) rfl rfl rfl
       ·have hyk:(yk==[])=false:=beq_eq_false_iff_ne.2 hyk0;have hyv0:yv=[]:=by
         by_cases h:yv=[]
         ·exact h
         ·exact absurd ⟨HE6.out.1 rfl,HE7.out.1 rfl,hyk0,h⟩ HE.out
        clear HE6 HE7 HE CKK CKV HSK F3;subst hyv0;go_wp2_with fail;change bodyPost _ _ _ _ _ (P2 w3 w.heap.size (.int .i64 (2:Nat)) (.int .i64 (k:Nat)));exact Cr HF3.out B3.out HO.out (fun h=>by cases h) (fun _=>rfl) rfl rfl rfl
      ·have hz7:((e7:Int)==0)=false:=beq_eq_false_iff_ne.2 (by omega);have hz8:((e7:Int) != 0)=true:=by rw[bne,hz7];rfl
       clear HE6 HE7 HE;go_wp2_with fail;change bodyPost _ _ _ _ _ (P2 w3 w.heap.size (.int .i64 (2:Nat)) (.int .i64 (k:Nat)));exact Cr HF3.out B3.out HO.out (fun h=>by cases h) (fun _=>rfl) rfl rfl rfl
     ·have hz7:((e6:Int)==0)=false:=beq_eq_false_iff_ne.2 (by omega);have hz8:((e6:Int) != 0)=true:=by rw[bne,hz7];rfl
      clear HE6 HE7 HE;go_wp2_with fail;change bodyPost _ _ _ _ _ (P2 w3 w.heap.size (.int .i64 (2:Nat)) (.int .i64 (k:Nat)));exact Cr HF3.out B3.out HO.out (fun h=>by cases h) (fun _=>rfl) rfl rfl rfl
  ·have hki:¬(k:Int)<(l.length:Int):=by omega
   have HKL:=hid (show k=l.length by omega);have HBAD:=hid (Hv.done (by rw[←HKL.out];exact HPRE.out));have HND:=hid (show(l.map (·.1)).Nodup from by
    have:=HPRE.out.2
    rwa [HKL.out,List.take_length]at this)
   clear HG HPRE HKL hkb hkc;go_upto_region 12 with fail;clear hk0 hki hlt hk
   go_loopg[8,59] l.length (fun g v8 v59 W=>∃(k:Nat) (zs:List (List Bool×(Option Addr×Nat))),k≤l.length∧l.length≤k+g∧v59=.int .i64 k∧Qqv W w.heap.size v8 ((l.take k).map (Hr l)) zs∧W.heap[w.heap.size]?=some (.cells #[.int .i64 0,.int .i64 0] 105 (0,0))∧Below w.heap.size w W)
   case atStart=>exact⟨0,[],Nat.zero_le _,by omega,rfl,⟨by simp,Qg.nil _ _ _ _,fun z hz=>by cases hz⟩,HF.out,HB.out⟩
   case round =>
    obtain⟨k,zs,hk,hg,rfl,hrow,hf,hb⟩:=hrel
    rename World=>w1
    obtain⟨go,hgo⟩:∃go,go=gk:=⟨_,rfl⟩
    have HG:=hid (show l.length≤k+go by rw[hgo];exact hg);have HGO:=hid hgo;clear hgo;have HROW:=hid hrow;have HF1:=hid hf;have HB1:=hid hb;have hk0:(0:Int)≤(k:Int):=by omega
    have hkb:(k:Int)≤1000:=by have:=HN.out;omega
    clear hg hrow hf hb
    by_cases hlt:k<l.length
    ·have hki:(k:Int)<(l.length:Int):=by omega
     obtain⟨ao,cp,e,_,hcc⟩:=Xm (HL.out.below HB1.out)
     cases e
     obtain⟨p,o,rfl,hp,c0,c1⟩:=hcc k hlt
     have HPL:=hid (Xxj HL.out (by intro e;rw[e]at hlt;simp at hlt));have HSK:=hid (HS.out _ (List.getElem_mem hlt));have HTK:=hid (show(l.take (k+1)).map (Hr l)=(l.take k).map (Hr l)++[Hr l l[k]]by rw[List.take_succ_eq_append_getElem hlt,List.map_append];rfl);generalize l[k]'hlt=y at *
     obtain⟨yk,yv⟩:=y
     clear hcc;simp only at c0 c1;have F2:=hid (heap_alloc_new w1 (.cells #[.string ⟨yk.toArray⟩,.string ⟨yv.toArray⟩] 37));have HA2:=hid (bal w1 (.cells #[.string ⟨yk.toArray⟩,.string ⟨yv.toArray⟩] 37));have B2:=hid (HB1.out.then HA2.out);have HF2:=hid (bk HA2.out HF1.out);have HROW2:=hid (HROW.out.below HA2.out);go_upto_region 14 with fail;generalize w1.alloc (.cells #[.string ⟨yk.toArray⟩,.string ⟨yv.toArray⟩] 37)=w2 at *;generalize w1.heap.size=yb at *;clear c0 c1 hp HA2 HB1 HF1 HROW
     obtain⟨i0,hi0,hz0,hz1,hz2⟩:=info_parts infoBo'
     obtain⟨w3,hmk,hown,hgr⟩:=run_makeSlice_full (P:=Tryz.prog) (w:=w2) w2.heap.size 187 4 i0 (.bool false) 1 Tryz.underlying187 hi0 hz0 hz1 .i64 .i64 l.length (by have:=HN.out;omega) (by rw[hz2];have:=HN.out;omega) (by have:=HN.out;unfold maxLen;omega) (Nat.le_refl _)
     go_upto_region 16 with fail;have MADE:=hid (show Qg Bq 4 w3 w2.heap.size (.slice (some ⟨w2.heap.size,0,none⟩) l.length l.length) (Nt l (yk,yv) 0)from by
      have e:(madeCells (Value.bool false).cells (l.length * 1)).toList=Xd Bq (List.replicate l.length false):=by
       unfold madeCells Xd;rw[Nat.mul_one]
       simp[Value.cells,Bq,List.flatMap_replicate]
       rw[show(fun x:Nat=>[Value.bool false][x % 1]?.getD default)=fun _=>Value.bool false from by funext x;rw[Nat.mod_one];rfl,List.map_const',List.length_range]
      rw[e]at hown;rw[Xbq];unfold Qg
      simpa using hown)
     have BW3:=hid (show Below w2.heap.size w2 w3 from⟨hgr.os,hgr.tape,hgr.output,hgr.size,fun k hk=>hgr.block k hk (by simp)⟩);clear hmk hown hgr hi0 hz0 hz1 hz2
     go_loopg[68] l.length (fun g v68 W=>∃u:Nat,u≤l.length∧l.length≤u+g∧v68=.int .i64 u∧Qg Bq 4 W w2.heap.size (.slice (some ⟨w2.heap.size,0,none⟩) l.length l.length) (Nt l (yk,yv) u)∧Below w2.heap.size w2 W)
     case atStart=>exact⟨0,Nat.zero_le _,by omega,rfl,MADE.out,BW3.out⟩
     case round =>
      obtain⟨u,hu,hg2,rfl,hro,hb4⟩:=hrel
      rename World=>w4
      have HG2:=hid hg2;have HRO:=hid hro;have HB4:=hid hb4;have hu0:(0:Int)≤(u:Int):=by omega
      have hub:(u:Int)≤1000:=by have:=HN.out;omega
      clear hg2 hro hb4 MADE BW3
      by_cases hul:u<l.length
      ·have hui:(u:Int)<(l.length:Int):=by omega
       obtain⟨ao,cp,e,_,hcc⟩:=Xm (HL.out.below (B2.out.then HB4.out))
       cases e
       obtain⟨p2,o2,e2,hp2,c0,c1⟩:=hcc u hul
       cases e2;have HSX:=hid (HS.out _ (List.getElem_mem hul));have HSET:=hid (rowAt_set l (yk,yv) u hul);generalize l[u]'hul=x at *
       obtain⟨xk,xv⟩:=x
       clear hcc;simp only at c0 c1;have F5:=hid (heap_alloc_new w4 (.cells #[.string ⟨xk.toArray⟩,.string ⟨xv.toArray⟩] 37));have HA5:=hid (bal w4 (.cells #[.string ⟨xk.toArray⟩,.string ⟨xv.toArray⟩] 37));have HB5:=hid (HB4.out.then HA5.out);have HRO5:=hid (HRO.out.below HA5.out);have FL:=hid (Zcv (w4.alloc (.cells #[.string ⟨xk.toArray⟩,.string ⟨xv.toArray⟩] 37)) (xk,xv) (yk,yv) HSX.out.1 HSK.out.2);have G5:=hid ((HB5.out.block yb (lt_of_block F2.out)).trans F2.out);go_upto_region 18 with fail;generalize w4.alloc (.cells #[.string ⟨xk.toArray⟩,.string ⟨xv.toArray⟩] 37)=w5 at *;generalize w4.heap.size=xb at *
       obtain⟨a0,a1,_,_,al⟩:=Qq F5.out
       obtain⟨y0,y1,_,_,yl⟩:=Qq G5.out
       generalize Wp (xk,xv) (yk,yv)=fb at *;go_wp2_with fail;refine FL.out.mono ?_;rintro e w6 ⟨rfl,hb6⟩;have HB6:=hid (HB5.out.then hb6);have HRO6:=hid (HRO5.out.below hb6);clear a0 a1 al y0 y1 yl c0 c1 hp2 hb6 HA5 HB4 HB5 HRO HRO5 G5 F5 FL;have hul2:u<(Nt l (yk,yv) u).length:=by rw[Qvz _ _ _ hu];exact hul
       obtain⟨q0,qf,ql⟩:=Qg.cell HRO6.out u 0 (.bool ((Nt l (yk,yv) u)[u]'hul2)) hul2 rfl
       have hst:=Qg.set HRO6.out (Qvz l (yk,yv) u hu).symm u 0 hul2 (by decide) (.bool fb) fb rfl HSET.out;rw[Nat.mul_one,Nat.add_zero]at q0 qf hst;have HST:=hid hst;clear hst;go_wp2_with fail
       go_roundg (gk-1)
       case measure=>have:=HG2.out;omega
       case rel=>exact⟨u+1,by omega,by have:=HG2.out;omega,by simp,HST.out,HB6.out.setCell (Nat.le_refl _) _⟩
      ·have hui:¬(u:Int)<(l.length:Int):=by omega
       obtain rfl:u=l.length:=by omega
       have B4:=hid (B2.out.then HB4.out);have HF4:=hid (bk HB4.out HF2.out);have HROW4:=hid (HROW2.out.below HB4.out);have HR4:=hid (show Qg Bq 4 w4 w.heap.size (.slice (some ⟨w2.heap.size,0,none⟩) (Hr l (yk,yv)).length l.length) (Hr l (yk,yv))from by
        rw[←rowAt_all,Qvz _ _ _ (Nat.le_refl _)];exact Qg.mono HRO.out B2.out.size)
       have HZL:=hid (show zs.length≤1000 from by
        have h1:=congrArg List.length HROW4.out.eq;rw[List.length_map,List.length_map,List.length_take]at h1
        have:=HN.out
        omega)
       clear HB4 HRO HROW2 HF2 hu0 hub hui hu
       go_wp2_with (at_builtin;refine Jl (E:=Xxz) rfl (.tmp 80) (.tmp 82) rfl Tryz.underlying186 infoBr' rfl (by decide) w.heap.size _ zs (Hr l (yk,yv),(some ⟨w2.heap.size,0,none⟩,l.length)) rfl HROW4.out.own rfl (by have:=HZL.out;unfold maxLen;omega) (by have:=HZL.out;omega) B4.out.size #[.slice (some ⟨w2.heap.size,0,none⟩) l.length l.length] (by simp[Xxz,Hr]) ?_;intro v9 W9 own9 gr9 mv9;have ROW9:=hid (HROW4.out.push HR4.out own9 gr9);have B9:=hid (B4.out.grown gr9 B4.out.size (fun k hk=>(World.ownsRow.lt HROW4.out.own k hk).1));have HF9:=hid ((gr9.block _ (lt_of_block HF4.out) (fun e=>Qx HROW4.out.own HF4.out (by decide) e.symm)).trans HF4.out);clear own9 gr9 mv9 HROW4 HR4 B4 HF4)
       go_roundg (go-1)
       case measure=>have:=HG.out;have:=HGO.out;omega
       case rel=>exact⟨k+1,_,by omega,by have:=HG.out;omega,by simp,by rw[HTK.out];exact ROW9.out,HF9.out,B9.out⟩
    ·have hki:¬(k:Int)<(l.length:Int):=by omega
     obtain rfl:k=l.length:=by omega
     have h2:=HROW.out;rw[List.take_length]at h2;have HROW2:=hid h2;have HQ:=hid (show ∀r∈Mh l,r.length=(Mh l).length from fun r hr=>by
      obtain⟨p,_,rfl⟩:=List.mem_map.1 hr
      simp[Hr,Mh])
     clear h2 HROW HG hk0 hkb hki hk hlt;go_upto_region 23 with fail
     go_loopg[87] l.length (fun g v87 W=>∃k:Nat,k≤l.length∧l.length≤k+g∧v87=.int .i64 k∧(∀j p,j<k→l[j]?=some p→¬Qmy l p)∧Below w1.heap.size w1 W)
     case atStart=>exact⟨0,Nat.zero_le _,by omega,rfl,fun j p hj=>absurd hj (Nat.not_lt_zero _),Below.refl _ _⟩
     case round =>
      obtain⟨k,hk,hg,rfl,hno,hb⟩:=hrel
      rename World=>w3
      have HG:=hid hg;have HNO:=hid hno;have B3:=hid (HB1.out.then hb);have ROW3:=hid (HROW2.out.below hb);have HF3:=hid (bk hb HF1.out);have HB3:=hid hb;have hk0:(0:Int)≤(k:Int):=by omega
      have hkb:(k:Int)≤1000:=by have:=HN.out;omega
      clear hg hno hb
      by_cases hlt:k<l.length
      ·have hki:(k:Int)<(l.length:Int):=by omega
       have RE:=hid (Zcg w3 _ (Mh l) k ROW3.out.rd HQ.out (by simpa[Mh]using hlt) (by simpa[Mh]using HN.out));have HRI:=hid (ring_iff HND.out hlt);rw[←fol_edge]at HRI;have HGET:=hid (List.getElem?_eq_getElem hlt);generalize l[k]'hlt=y at *
       obtain⟨r0,r1,rf0,rf1,rlt⟩:=Qq HF3.out
       go_wp2_with fail;refine RE.out.mono ?_;rintro e w5 ⟨⟨br,rfl,hbr⟩,hb5⟩;have HBR:=hid hbr;have B5:=hid (B3.out.then hb5);have HB5:=hid (HB3.out.then hb5);have HF5:=hid (bk hb5 HF3.out);clear hbr hb5 r0 r1 rf0 rf1 rlt RE HF3 B3 HB3 ROW3
       obtain⟨r0,r1,rf0,rf1,rlt⟩:=Qq HF5.out
       cases br with
       |true =>
        have HO:=hid (show Np l 210 k from Or.inr (Or.inl ⟨HBAD.out,rfl,⟨y,HGET.out,HRI.out.2 (HBR.out.1 rfl)⟩,HNO.out⟩));go_wp2_with fail;change bodyPost _ _ _ _ _ (P2 w5 w.heap.size (.int .i64 (210:Nat)) (.int .i64 (k:Nat)));exact Cr HF5.out B5.out HO.out (fun h=>by cases h) (fun _=>rfl) rfl rfl rfl
       |false =>
        go_wp2_with fail
        go_roundg (gk-1)
        case measure=>have:=HG.out;omega
        case rel =>
         refine⟨k+1,by omega,by have:=HG.out;omega,by simp,fun j p hj hp=>?_,HB5.out⟩
         by_cases hjk:j=k
         ·subst hjk;rw[HGET.out]at hp
          cases hp;intro hr
          have:=HBR.out.2 (HRI.out.1 hr)
          cases this
         ·exact HNO.out j p (by omega) hp
      ·have hki:¬(k:Int)<(l.length:Int):=by omega
       obtain rfl:k=l.length:=by omega
       have HO:=hid (show Np l 0 0 from Or.inr (Or.inr ⟨HBAD.out,rfl,rfl,fun p hp=>by
        obtain⟨j,hj,rfl⟩:=List.getElem_of_mem hp
        exact HNO.out j _ hj (List.getElem?_eq_getElem hj)⟩))
       have CL:=hid (Qsx w3 (.slice av l.length cv) l (HL.out.below B3.out) HN.out);clear HG HNO ROW3 HROW2 HQ hk0 hkb hki hk HB3;go_wp2_with fail;refine CL.out.mono ?_;rintro e w4 ⟨v4,rfl,ho4,hb4⟩
       obtain⟨a4,c4,rfl⟩:=Zx ho4
       have O4:=hid ho4;have B4:=hid (B3.out.then hb4);have HF4:=hid (bk hb4 HF3.out);have HSZ4:=hid (Nat.le_trans B3.out.size (Nat.le_refl _));clear ho4 hb4 B3 HF3 CL;have F5:=hid (heap_alloc_new w4 (.cells #[.slice a4 l.length c4] 192));have HA5:=hid (bal w4 (.cells #[.slice a4 l.length c4] 192));have O5:=hid (show Qd (w4.alloc (.cells #[.slice a4 l.length c4] 192)) w3.heap.size (.slice a4 l.length c4) l from Qz O4.out HA5.out);have B5:=hid (B4.out.then HA5.out);have HF5:=hid (bk HA5.out HF4.out);go_upto_region 29 with fail;generalize w4.alloc (.cells #[.slice a4 l.length c4] 192)=w5 at *;have HAB:=hid (show w.heap.size≤w4.heap.size from B4.out.size);generalize w4.heap.size=ab at *;clear O4 B4 HF4 HA5;have a0:w5.cell? ⟨ab,0,none⟩=some (.slice a4 l.length c4):=cR F5.out;have al:=lt_of_block F5.out;go_wp2_with fail
       refine(Xzh w5 w3.heap.size _ l O5.out (by have:=HN.out;omega)).mono ?_
       rintro e w6 ⟨rfl,⟨l2,hp2,hs2,ho2⟩,gr⟩;obtain rfl:l2=Ky l:=Rt l l2 hp2 HND.out hs2;have O6:=hid ho2;have F6:=hid ((gr.block _ (lt_of_block F5.out) (fun e=>Qx O5.out F5.out (by decide) e.symm)).trans F5.out);have HF6:=hid ((gr.block _ (lt_of_block HF5.out) (fun e=>Qx O5.out HF5.out (by decide) e.symm)).trans HF5.out);have B6:=hid (B5.out.grown gr B5.out.size (fun k hk=>Nat.le_trans HSZ4.out (World.ownsRow.lt O5.out k hk).1));clear a0 al hp2 hs2 ho2 gr O5 F5 HF5 B5
       obtain⟨r0,r1,rf0,rf1,rlt⟩:=Qq HF6.out
       go_wp2_with fail;change bodyPost _ _ _ _ _ (P2 w6 w.heap.size (.int .i64 (0:Nat)) (.int .i64 (0:Nat)));refine Cr HF6.out B6.out HO.out (fun _=>?_) (fun h=>absurd rfl h) rfl rfl rfl;have hne:ab≠w.heap.size:=Ry F6.out HF6.out (by decide)
       refine⟨ab,_,rfl,HAB.out,?_,Ks (show Qd (P2 w6 w.heap.size _ _) w3.heap.size (.slice a4 l.length c4) (Ky l)from Qxj _ _ O6.out (Qx O6.out HF6.out (by decide))) HSZ4.out⟩
       unfold P2;rw[heap_setCell_other _ _ _ _ hne,heap_setCell_other _ _ _ _ hne];exact F6.out
end
end Go.Proofs.YtbbmdbolkicpcabGreatDoor
