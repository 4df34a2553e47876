/- RpStep, RpParse, RRestE, TbNil, TbSort -/
import Derived.Test.YtbbmdbolkicpcabGreatDoorSDG14
import Derived.Test.YtbbmdbolkicpcabGreatDoorSDG13
import Derived.Test.YtbbmdbolkicpcabGreatDoorSDG08
import Derived.Test.YtbbmdbolkicpcabGreatDoorSDG12
import Derived.Test.YtbbmdbolkicpcabGreatDoorSDG11
import Derived.RangeFuncNested
import Derived.RangeFuncBound
import Derived.RangeFuncCalls
import Derived.RangeFuncLeaves
import Derived.Shelf.Abstract
import Derived.Shelf.RegionOpen
import Derived.OwnWalkIn
import Derived.TacticsInMore
import Derived.LoopNIn
import Derived.LoopIn
import Derived.Shelf.SlSortCmp.NoneTotal
set_option maxRecDepth 100000
set_option maxHeartbeats 32000000
set_option linter.unusedVariables false
set_option linter.unusedSimpArgs false
namespace Go.Proofs.YtbbmdbolkicpcabGreatDoor
section
open Go.RowKit Go.Lib
theorem Rj.open' {W:World}{Br:Nat}{b:ByteArray}(h:Rj W Br b):∃(q e:Nat)(a:Int),q≤b.size∧((e:Int)==0)=false∧SRd W Br b q e a∧Rj W Br b:=by
 obtain⟨q,e,a,h1,h2,h3⟩:=h
 exact⟨q,e,a,h1,by rw[beq_eq_false_iff_ne];omega,h3,q,e,a,h1,h2,h3⟩
theorem rstep_any (Br:Nat)(b:ByteArray)(p:Nat)(w:World)(h:SRd w Br b p 0 0)(hp:p≤b.size)(hb:b.size≤512)(hu:Zq (b.data.toList.drop p)=true) :
  Calls Tryz.prog 77 #[.pointer (some ⟨Br,0,none⟩)] w fun x w'=>RStepRes Br b p w x w':=by
 have HU:=hid hu;have hbr:=h.cells.2.2.2.2.2.2.2;have HBR:=hid hbr;have hb7:Below w.heap.size w (w.alloc (.cells #[.string ⟨#[]⟩,.slice none 0 0] 82)):=bal _ _;have H1:=hid (h.below hb7);have O1:=hid ((Qf.refl w Br).below hb7);have F1:=hid (heap_alloc_new w (.cells #[.string ⟨#[]⟩,.slice none 0 0] 82));have NM:=hid (fun q W (h:SRd W Br b q 0 0) (hq:q≤b.size)=>rname_one Br b q W h hq (by omega));have IS91:=hid (fun q W (h:SRd W Br b q 0 0) (hq:q≤b.size)=>(show Calls Tryz.prog 78 #[.pointer (some ⟨Br,0,none⟩),.int .u8 91] W _ from Qgh Br b q 0 0 91 W h hq (by omega)));have IS61:=hid (fun q W (h:SRd W Br b q 0 0) (hq:q≤b.size)=>(show Calls Tryz.prog 78 #[.pointer (some ⟨Br,0,none⟩),.int .u8 61] W _ from Qgh Br b q 0 0 61 W h hq (by omega)));have ISB:=hid (fun W (h:Rj W Br b)=>(show Calls Tryz.prog 78 #[.pointer (some ⟨Br,0,none⟩),.int .u8 61] W _ from ris_bad Br b 61 W h (by omega)));have VL:=hid (fun q W (h:SRd W Br b q 0 0) (hq:q≤b.size) (hu:Zq (b.data.toList.drop q)=true)=>Xfk Br b q W h hq (by omega) hu);have WR:=hid (fun q er ea (e:Nat) (a:Int) W (h:SRd W Br b q er ea) (hq:q≤b.size) (he:e≠0)=>Xfj Br b q er ea e a W h hq he);have LT1:=hid (show w.heap.size<(w.alloc (.cells #[.string ⟨#[]⟩,.slice none 0 0] 82)).heap.size from lt_of_block F1.out);clear h hu hb7 hbr
 go_enter Tryz.func77,Tryz.ntmps77
 go_wp2_with fail
 refine(NM.out p _ H1.out hp).mono ?_
 rintro e w2 ⟨n,ok,rfl,o2,hr⟩;have HR:=hid hr;have O2:=hid o2;clear o2 hr;have F2:=hid (heap_alloc_new w2 (.cells #[.string ⟨n.toArray⟩,.slice none 0 0] 82));have hb3:Below w2.heap.size w2 (w2.alloc (.cells #[.string ⟨n.toArray⟩,.slice none 0 0] 82)):=bal _ _;have ST0:=hid (show RKey w Br w2.heap.size b p n (b.size+2) (w2.alloc (.cells #[.string ⟨n.toArray⟩,.slice none 0 0] 82))from by
  refine⟨.slice none 0 0,[],⟨(hb3.block _ (Nat.lt_of_lt_of_le LT1.out O2.out.size)).trans ((O2.out.block _ LT1.out (by have:=HBR.out;simp;omega)).trans F1.out),F2.out,World.ownsRow_nil _ _ _ _,(O1.out.trans O2.out).below hb3,Nat.lt_of_lt_of_le LT1.out O2.out.size,HBR.out⟩,Nat.zero_le _,?_⟩
  rcases HR.out with ⟨rfl,q,h1,h2,h3,h4⟩|⟨rfl,h1,h2⟩
  ·exact Or.inl ⟨q,h2.below hb3,name_q h1 h3 hp,h3,Tr h1 HU.out,Znz h1,Nat.zero_le _,by omega⟩
  ·exact Or.inr ⟨Qbw h1,h2.below hb3⟩)
 clear hb3 HR;go_wp2_with fail
 go_loopg[4,5,6,7] (b.size+2) (fun g v4 v5 v6 v7 W=>RKey w Br w2.heap.size b p n g W)
 case atStart=>exact ST0.out
 case round =>
  obtain⟨kv,ks,st,hkb,hs⟩:=hrel
  rename World=>W
  obtain⟨ak,ck,rfl⟩:=Zx st.own
  have ST:=hid st;have HKB:=hid hkb;have hkl:(ks.length:Int)≤600:=by omega
  clear st hkb ST0 F2 F1 O1 O2 H1 LT1;generalize w2.heap.size=Sb at *
  obtain⟨s0,s1,sf0,sf1,slt⟩:=Qq ST.out.sb
  obtain⟨r0,r1,rf0,rf1,rlt⟩:=Qq ST.out.rb
  rcases hs with ⟨q,hrd,hpq,hq,huq,hke,hks,hg⟩|⟨hno,hbad⟩
  ·have S0:=hid hrd;have HUQ:=hid huq;have HKE:=hid hke;have HB:=hid (And.intro hpq (And.intro hq (And.intro hks hg)))
   obtain⟨c0,c1,c2,c3,f1,f2,f3,lt⟩:=hrd.cells
   clear hrd huq hke hpq hks hg;go_wp2_with fail
   refine(IS91.out q W S0.out hq).mono ?_
   rintro e W2 ⟨okx,rfl,o2,h2,hx⟩;have ST2:=hid (ST.out.step o2);have S2:=hid h2;clear o2 h2 ST S0;clear s0 s1 sf0 sf1 slt r0 r1 rf0 rf1 rlt;clear c0 c1 c2 c3 f1 f2 f3 lt
   obtain⟨s0,s1,sf0,sf1,slt⟩:=Qq ST2.out.sb
   obtain⟨r0,r1,rf0,rf1,rlt⟩:=Qq ST2.out.rb
   obtain⟨c0,c1,c2,c3,f1,f2,f3,lt⟩:=S2.out.cells
   rcases hx with ⟨rfl,htb⟩|⟨rfl,htb,hql⟩
   ·have HE:=hid (show Xs (b.data.toList.drop p)=some ((n,ks),b.data.toList.drop q)by rw[HKE.out,Lr,htb];rfl);clear htb;go_wp2_with fail;change bodyPost _ _ _ _ _ (P2 _ w.heap.size (.string ⟨n.toArray⟩) (.slice _ ks.length ck));exact Xn ST2.out.rb rfl rfl ⟨n,ks,true,_,ck,rfl,ST2.out.own2 _ _,ST2.out.ret _ _,Or.inl ⟨rfl,q,HE.out,ST2.out.rdS S2.out _ _,HB.out.2.1,HB.out.1,HUQ.out⟩⟩
   ·have HU1:=hid (Hf (by decide) htb HUQ.out);have HE1:=hid (show Ck ks (b.data.toList.drop q)=match Mf ks (b.data.toList.drop (q+1)) with
     |none=>none
     |some (p,r3)=>Ck (ks++[p]) r3 by rw[Lr,htb] <;> rfl)
    have HQL:=hid hql;have hq0:(0:Int)≤(q:Int):=by omega
    have hq1:(q:Int)≤1000:=by omega
    clear htb hql HUQ;have S3:=hid (show SRd (W2.setCell ⟨Br,1,none⟩ (.int .i64 ((q:Int)+1))) Br b (q+1) 0 0 from S2.out.setAt (q+1));have ST3:=hid (ST2.out.step ((Qf.refl W2 Br).set 1 (.int .i64 ((q:Int)+1))));go_wp2_with fail;generalize W2.setCell ⟨Br,1,none⟩ (.int .i64 ((q:Int)+1))=W3 at *
    refine(NM.out (q+1) W3 S3.out HQL.out).mono ?_
    rintro e W4 ⟨k,okn,rfl,o4,hr4⟩;have ST4:=hid (ST3.out.step o4);clear o4 ST2 ST3 S2 S3;clear s0 s1 sf0 sf1 slt r0 r1 rf0 rf1 rlt;clear c0 c1 c2 c3 f1 f2 f3 lt
    obtain⟨s0,s1,sf0,sf1,slt⟩:=Qq ST4.out.sb
    obtain⟨r0,r1,rf0,rf1,rlt⟩:=Qq ST4.out.rb
    rcases hr4 with ⟨rfl,q4,hnn,hrd4,hq4,hqq4⟩|⟨rfl,hnn,hb4⟩
    ·have HU4:=hid (Tr hnn HU1.out);have HKP:=hid (show Mf ks (b.data.toList.drop (q+1))=if Vx ks k then none else
       match Xx 61 (b.data.toList.drop q4) with
       |none=>none
       |some r2 =>
        match Qw false [] r2 with
        |none=>none
        |some (v,r3)=>some ((k,v),r3)by unfold Mf;rw[hnn];rfl)
     have S4:=hid hrd4;clear hnn hrd4 HU1
     obtain⟨c0,c1,c2,c3,f1,f2,f3,lt⟩:=S4.out.cells
     by_cases hnil:ks=[]
     ·have HGE:=hid (show Vx ks k=false by rw[hnil];rfl);have hk0:¬(0:Int)<(ks.length:Int):=by rw[hnil];decide
      clear hnil;go_wp2_with fail
      refine(IS61.out q4 W4 S4.out hq4).mono ?_
      rintro e W5 ⟨okz,rfl,o5,h5,hx5⟩;have ST5:=hid (ST4.out.step o5);have S5:=hid h5;clear o5 h5 ST4 S4;clear s0 s1 sf0 sf1 slt r0 r1 rf0 rf1 rlt;clear c0 c1 c2 c3 f1 f2 f3 lt
      obtain⟨s0,s1,sf0,sf1,slt⟩:=Qq ST5.out.sb
      obtain⟨r0,r1,rf0,rf1,rlt⟩:=Qq ST5.out.rb
      obtain⟨c0,c1,c2,c3,f1,f2,f3,lt⟩:=S5.out.cells
      have hq40:(0:Int)≤(q4:Int):=by omega
      have hq41:(q4:Int)≤1000:=by omega
      rcases hx5 with ⟨rfl,htb⟩|⟨rfl,htb,hql4⟩
      ·have HNO:=hid (show Xs (b.data.toList.drop p)=none by rw[HKE.out,HE1.out,HKP.out,if_neg (by rw[HGE.out];decide),htb];rfl);clear htb
       go_wp2_with (go_at_call 76;refine(WR.out q4 _ _ 160 q4 _ S5.out hq4 (by decide)).mono ?_;rintro e W9 ⟨rfl,hb9,o9⟩;have ST9:=hid (ST5.out.step o9);clear o9;clear s0 s1 sf0 sf1 slt r0 r1 rf0 rf1 rlt;clear c0 c1 c2 c3 f1 f2 f3 lt;obtain⟨s0,s1,sf0,sf1,slt⟩:=Qq ST9.out.sb;obtain⟨r0,r1,rf0,rf1,rlt⟩:=Qq ST9.out.rb;obtain⟨q9,e9,a9,hq9,hE9,hrd9,hbd9⟩:=hb9.open';obtain⟨c0,c1,c2,c3,f1,f2,f3,lt⟩:=hrd9.cells;have BD9:=hid hbd9;clear hbd9 hb9 hrd9)
       change bodyPost _ _ _ _ _ (P2 _ w.heap.size (.string ⟨n.toArray⟩) (.slice _ ks.length ck));exact Xn ST9.out.rb rfl rfl ⟨n,ks,false,_,ck,rfl,ST9.out.own2 _ _,ST9.out.ret _ _,Or.inr ⟨rfl,HNO.out,ST9.out.badS BD9.out _ _⟩⟩
      ·have HU5:=hid (Hf (by decide) htb HU4.out);have HKP3:=hid (show Mf ks (b.data.toList.drop (q+1))=match Qw false [] (b.data.toList.drop (q4+1)) with
        |none=>none
        |some (v,r3)=>some ((k,v),r3)by rw[HKP.out,if_neg (by rw[HGE.out];decide),htb])
       have HQ5:=hid hql4;clear htb hql4 HKP HU4;have S6:=hid (show SRd (W5.setCell ⟨Br,1,none⟩ (.int .i64 ((q4:Int)+1))) Br b (q4+1) 0 0 from S5.out.setAt (q4+1));have ST6:=hid (ST5.out.step ((Qf.refl W5 Br).set 1 (.int .i64 ((q4:Int)+1))));go_wp2_with fail;generalize W5.setCell ⟨Br,1,none⟩ (.int .i64 ((q4:Int)+1))=W6 at *
       refine(VL.out (q4+1) W6 S6.out HQ5.out HU5.out).mono ?_
       rintro e W7 ⟨v,okv,rfl,o7,hr7⟩;have ST7:=hid (ST6.out.step o7);clear o7 ST5 ST6 S5 S6;clear s0 s1 sf0 sf1 slt r0 r1 rf0 rf1 rlt;clear c0 c1 c2 c3 f1 f2 f3 lt
       obtain⟨s0,s1,sf0,sf1,slt⟩:=Qq ST7.out.sb
       obtain⟨r0,r1,rf0,rf1,rlt⟩:=Qq ST7.out.rb
       rcases hr7 with ⟨rfl,q7,hv,hrd7,hq7,hqq7,hu7⟩|⟨rfl,hv,hb7⟩
       ·have HE4:=hid (show Xs (b.data.toList.drop p)=(Ck (ks++[(k,v)]) (b.data.toList.drop (q7+1))).map (fun z=>((n,z.1),z.2))by rw[HKE.out,HE1.out,HKP3.out,hv]);have HU7:=hid hu7;have S7:=hid hrd7;have HQ7:=hid (show p<q7+1∧q7+1≤b.size∧(ks++[(k,v)]).length≤q7+1∧b.size+2≤q7+1+(gk-1)∧gk-1<gk from by
         have h1:=HB.out
         refine⟨by omega,by omega,by rw[List.length_append,List.length_singleton];omega,by omega,by omega⟩)
        have hq70:(0:Int)≤(q7:Int):=by omega
        have hq71:(q7:Int)≤1000:=by omega
        have HLL:=hid (show ks.length≤1000000 by omega);clear hv hrd7 hq7 hqq7 hu7
        obtain⟨c0,c1,c2,c3,f1,f2,f3,lt⟩:=S7.out.cells
        have S8:=hid (show SRd (W7.setCell ⟨Br,1,none⟩ (.int .i64 ((q7:Int)+1))) Br b (q7+1) 0 0 from S7.out.setAt (q7+1));have ST8:=hid (ST7.out.step ((Qf.refl W7 Br).set 1 (.int .i64 ((q7:Int)+1))));have HSZ:=hid (show w.heap.size+1≤(W7.setCell ⟨Br,1,none⟩ (.int .i64 ((q7:Int)+1))).heap.size by have:=lt_of_block ST8.out.sb;have:=ST8.out.lt;omega);go_upto_region 16 with fail;generalize W7.setCell ⟨Br,1,none⟩ (.int .i64 ((q7:Int)+1))=W8 at *;clear s0 s1 sf0 sf1 slt r0 r1 rf0 rf1 rlt;clear c0 c1 c2 c3 f1 f2 f3 lt
        obtain⟨s0,s1,sf0,sf1,slt⟩:=Qq ST8.out.sb
        obtain⟨r0,r1,rf0,rf1,rlt⟩:=Qq ST8.out.rb
        go_wp2_with (at_builtin;refine Xc rfl (.tmp 91) (.tmp 95) rfl (w.heap.size+1) _ ks (k,v) rfl ST8.out.own rfl HLL.out HSZ.out ?_;intro kv' W10 own10 gr10 mv10;obtain⟨a',c',rfl⟩:=Zx own10;rw[show(ks++[(k,v)]).length=ks.length+1 from by simp]at own10;have sb10:=(gr10.block Sb (lt_of_block ST8.out.sb) (Ne.symm (Qx ST8.out.own ST8.out.sb (by decide)))).trans ST8.out.sb;have HRD10:=hid (show SRd W10 Br b (q7+1) 0 0 from(gr10.block Br (lt_of_block S8.out) (fun e=>by have:=(World.ownsRow.lt ST8.out.own Br e.symm).1;have:=ST8.out.br;omega)).trans S8.out);have ST10:=hid (ST8.out.keys own10 gr10);obtain⟨t0,t1,tf0,tf1,tlt⟩:=Qq sb10;clear own10 gr10 mv10)
        go_roundg (gk-1)
        case measure=>exact HQ7.out.2.2.2.2
        case rel=>exact⟨_,ks++[(k,v)],ST10.out,by have:=HQ7.out;omega,Or.inl ⟨q7+1,(heap_setCell_other _ _ _ _ (by have:=ST8.out.br;have:=ST8.out.lt;simp;omega)).trans HRD10.out,HQ7.out.1,HQ7.out.2.1,HU7.out,HE4.out,HQ7.out.2.2.1,HQ7.out.2.2.2.1⟩⟩
       ·have HNO:=hid (show Xs (b.data.toList.drop p)=none by rw[HKE.out,HE1.out,HKP3.out,hv];rfl)
        obtain⟨q9,e9,a9,hq9,hE9,hrd9,hbd9⟩:=hb7.open'
        obtain⟨c0,c1,c2,c3,f1,f2,f3,lt⟩:=hrd9.cells
        have BD9:=hid hbd9;clear hbd9 hb7 hrd9 hv;go_wp2_with fail;change bodyPost _ _ _ _ _ (P2 _ w.heap.size (.string ⟨n.toArray⟩) (.slice _ ks.length ck));exact Xn ST7.out.rb rfl rfl ⟨n,ks,false,_,ck,rfl,ST7.out.own2 _ _,ST7.out.ret _ _,Or.inr ⟨rfl,HNO.out,ST7.out.badS BD9.out _ _⟩⟩
     ·obtain⟨g1,rfl⟩:∃g1,ak=some ⟨g1,0,none⟩:=by
       rcases ST4.out.own.shape with ⟨_,e⟩|⟨g,cap,cur,e,_⟩
       ·exact absurd e hnil
       ·cases e;exact⟨g,rfl⟩
      obtain⟨kl,hkl2,hkc⟩:=Wv ST4.out.own hnil
      have hpos:0<ks.length:=List.length_pos_iff.2 hnil;have HKL:=hid (hkl2 k);have HBL:=hid (Proofs.bytesLess_eq k kl);clear hkl2 hnil
      obtain⟨m,hm⟩:∃m,ks.length=m+1:=⟨ks.length-1,by omega⟩
      rw[hm,Nat.add_sub_cancel]at hkc;have hm0:(0:Int)<(ks.length:Int):=by omega
      have hm1:(ks.length:Int)-1=(m:Int):=by omega
      have hm2:(m:Int)<(ks.length:Int):=by omega
      have hm3:(0:Int)≤(m:Int):=by omega
      have hm4:(m:Int)≤1000:=by omega
      clear hm hpos
      by_cases hlt:kl<k
      ·have hbl:Op.bytesLess k kl=false:=by rw[HBL.out];exact decide_eq_false (List.lt_asymm hlt)
       have hbe:(k==kl)=false:=beq_eq_false_iff_ne.2 (fun e=>List.lt_irrefl _ (e▸hlt));have HGE:=hid (show Vx ks k=false by rw[HKL.out,decide_eq_false (List.not_le.2 hlt)]);clear hlt;go_wp2_with fail
       refine(IS61.out q4 W4 S4.out hq4).mono ?_
       rintro e W5 ⟨okz,rfl,o5,h5,hx5⟩;have ST5:=hid (ST4.out.step o5);have S5:=hid h5;clear o5 h5 ST4 S4;clear s0 s1 sf0 sf1 slt r0 r1 rf0 rf1 rlt;clear c0 c1 c2 c3 f1 f2 f3 lt
       obtain⟨s0,s1,sf0,sf1,slt⟩:=Qq ST5.out.sb
       obtain⟨r0,r1,rf0,rf1,rlt⟩:=Qq ST5.out.rb
       obtain⟨c0,c1,c2,c3,f1,f2,f3,lt⟩:=S5.out.cells
       have hq40:(0:Int)≤(q4:Int):=by omega
       have hq41:(q4:Int)≤1000:=by omega
       rcases hx5 with ⟨rfl,htb⟩|⟨rfl,htb,hql4⟩
       ·have HNO:=hid (show Xs (b.data.toList.drop p)=none by rw[HKE.out,HE1.out,HKP.out,if_neg (by rw[HGE.out];decide),htb];rfl);clear htb
        go_wp2_with (go_at_call 76;refine(WR.out q4 _ _ 160 q4 _ S5.out hq4 (by decide)).mono ?_;rintro e W9 ⟨rfl,hb9,o9⟩;have ST9:=hid (ST5.out.step o9);clear o9;clear s0 s1 sf0 sf1 slt r0 r1 rf0 rf1 rlt;clear c0 c1 c2 c3 f1 f2 f3 lt;obtain⟨s0,s1,sf0,sf1,slt⟩:=Qq ST9.out.sb;obtain⟨r0,r1,rf0,rf1,rlt⟩:=Qq ST9.out.rb;obtain⟨q9,e9,a9,hq9,hE9,hrd9,hbd9⟩:=hb9.open';obtain⟨c0,c1,c2,c3,f1,f2,f3,lt⟩:=hrd9.cells;have BD9:=hid hbd9;clear hbd9 hb9 hrd9)
        change bodyPost _ _ _ _ _ (P2 _ w.heap.size (.string ⟨n.toArray⟩) (.slice _ ks.length ck));exact Xn ST9.out.rb rfl rfl ⟨n,ks,false,_,ck,rfl,ST9.out.own2 _ _,ST9.out.ret _ _,Or.inr ⟨rfl,HNO.out,ST9.out.badS BD9.out _ _⟩⟩
       ·have HU5:=hid (Hf (by decide) htb HU4.out);have HKP3:=hid (show Mf ks (b.data.toList.drop (q+1))=match Qw false [] (b.data.toList.drop (q4+1)) with
         |none=>none
         |some (v,r3)=>some ((k,v),r3)by rw[HKP.out,if_neg (by rw[HGE.out];decide),htb])
        have HQ5:=hid hql4;clear htb hql4 HKP HU4;have S6:=hid (show SRd (W5.setCell ⟨Br,1,none⟩ (.int .i64 ((q4:Int)+1))) Br b (q4+1) 0 0 from S5.out.setAt (q4+1));have ST6:=hid (ST5.out.step ((Qf.refl W5 Br).set 1 (.int .i64 ((q4:Int)+1))));go_wp2_with fail;generalize W5.setCell ⟨Br,1,none⟩ (.int .i64 ((q4:Int)+1))=W6 at *
        refine(VL.out (q4+1) W6 S6.out HQ5.out HU5.out).mono ?_
        rintro e W7 ⟨v,okv,rfl,o7,hr7⟩;have ST7:=hid (ST6.out.step o7);clear o7 ST5 ST6 S5 S6;clear s0 s1 sf0 sf1 slt r0 r1 rf0 rf1 rlt;clear c0 c1 c2 c3 f1 f2 f3 lt
        obtain⟨s0,s1,sf0,sf1,slt⟩:=Qq ST7.out.sb
        obtain⟨r0,r1,rf0,rf1,rlt⟩:=Qq ST7.out.rb
        rcases hr7 with ⟨rfl,q7,hv,hrd7,hq7,hqq7,hu7⟩|⟨rfl,hv,hb7⟩
        ·have HE4:=hid (show Xs (b.data.toList.drop p)=(Ck (ks++[(k,v)]) (b.data.toList.drop (q7+1))).map (fun z=>((n,z.1),z.2))by rw[HKE.out,HE1.out,HKP3.out,hv]);have HU7:=hid hu7;have S7:=hid hrd7;have HQ7:=hid (show p<q7+1∧q7+1≤b.size∧(ks++[(k,v)]).length≤q7+1∧b.size+2≤q7+1+(gk-1)∧gk-1<gk from by
          have h1:=HB.out
          refine⟨by omega,by omega,by rw[List.length_append,List.length_singleton];omega,by omega,by omega⟩)
         have hq70:(0:Int)≤(q7:Int):=by omega
         have hq71:(q7:Int)≤1000:=by omega
         have HLL:=hid (show ks.length≤1000000 by omega);clear hv hrd7 hq7 hqq7 hu7
         obtain⟨c0,c1,c2,c3,f1,f2,f3,lt⟩:=S7.out.cells
         have S8:=hid (show SRd (W7.setCell ⟨Br,1,none⟩ (.int .i64 ((q7:Int)+1))) Br b (q7+1) 0 0 from S7.out.setAt (q7+1));have ST8:=hid (ST7.out.step ((Qf.refl W7 Br).set 1 (.int .i64 ((q7:Int)+1))));have HSZ:=hid (show w.heap.size+1≤(W7.setCell ⟨Br,1,none⟩ (.int .i64 ((q7:Int)+1))).heap.size by have:=lt_of_block ST8.out.sb;have:=ST8.out.lt;omega);go_upto_region 16 with fail;generalize W7.setCell ⟨Br,1,none⟩ (.int .i64 ((q7:Int)+1))=W8 at *;clear s0 s1 sf0 sf1 slt r0 r1 rf0 rf1 rlt;clear c0 c1 c2 c3 f1 f2 f3 lt
         obtain⟨s0,s1,sf0,sf1,slt⟩:=Qq ST8.out.sb
         obtain⟨r0,r1,rf0,rf1,rlt⟩:=Qq ST8.out.rb
         go_wp2_with (at_builtin;refine Xc rfl (.tmp 91) (.tmp 95) rfl (w.heap.size+1) _ ks (k,v) rfl ST8.out.own rfl HLL.out HSZ.out ?_;intro kv' W10 own10 gr10 mv10;obtain⟨a',c',rfl⟩:=Zx own10;rw[show(ks++[(k,v)]).length=ks.length+1 from by simp]at own10;have sb10:=(gr10.block Sb (lt_of_block ST8.out.sb) (Ne.symm (Qx ST8.out.own ST8.out.sb (by decide)))).trans ST8.out.sb;have HRD10:=hid (show SRd W10 Br b (q7+1) 0 0 from(gr10.block Br (lt_of_block S8.out) (fun e=>by have:=(World.ownsRow.lt ST8.out.own Br e.symm).1;have:=ST8.out.br;omega)).trans S8.out);have ST10:=hid (ST8.out.keys own10 gr10);obtain⟨t0,t1,tf0,tf1,tlt⟩:=Qq sb10;clear own10 gr10 mv10)
         go_roundg (gk-1)
         case measure=>exact HQ7.out.2.2.2.2
         case rel=>exact⟨_,ks++[(k,v)],ST10.out,by have:=HQ7.out;omega,Or.inl ⟨q7+1,(heap_setCell_other _ _ _ _ (by have:=ST8.out.br;have:=ST8.out.lt;simp;omega)).trans HRD10.out,HQ7.out.1,HQ7.out.2.1,HU7.out,HE4.out,HQ7.out.2.2.1,HQ7.out.2.2.2.1⟩⟩
        ·have HNO:=hid (show Xs (b.data.toList.drop p)=none by rw[HKE.out,HE1.out,HKP3.out,hv];rfl)
         obtain⟨q9,e9,a9,hq9,hE9,hrd9,hbd9⟩:=hb7.open'
         obtain⟨c0,c1,c2,c3,f1,f2,f3,lt⟩:=hrd9.cells
         have BD9:=hid hbd9;clear hbd9 hb7 hrd9 hv;go_wp2_with fail;change bodyPost _ _ _ _ _ (P2 _ w.heap.size (.string ⟨n.toArray⟩) (.slice _ ks.length ck));exact Xn ST7.out.rb rfl rfl ⟨n,ks,false,_,ck,rfl,ST7.out.own2 _ _,ST7.out.ret _ _,Or.inr ⟨rfl,HNO.out,ST7.out.badS BD9.out _ _⟩⟩
      ·have HGE:=hid (show Vx ks k=true by rw[HKL.out,decide_eq_true (List.not_lt.1 hlt)])
       by_cases heq:k=kl
       ·have hbl:Op.bytesLess k kl=false:=by rw[HBL.out];exact decide_eq_false (heq▸List.lt_irrefl _)
        have hbe:(k==kl)=true:=beq_iff_eq.2 heq;clear hlt heq;have HNO:=hid (show Xs (b.data.toList.drop p)=none by rw[HKE.out,HE1.out,HKP.out,if_pos HGE.out];rfl)
        go_wp2_with (go_at_call 76;refine(WR.out q4 _ _ 160 _ _ S4.out hq4 (by decide)).mono ?_;rintro e W5 ⟨rfl,hb5,o5⟩;have ST5:=hid (ST4.out.step o5);have BD5:=hid hb5;clear o5 hb5;clear s0 s1 sf0 sf1 slt r0 r1 rf0 rf1 rlt;clear c0 c1 c2 c3 f1 f2 f3 lt;obtain⟨s0,s1,sf0,sf1,slt⟩:=Qq ST5.out.sb;obtain⟨r0,r1,rf0,rf1,rlt⟩:=Qq ST5.out.rb)
        refine(ISB.out _ BD5.out).mono ?_
        rintro e W8 ⟨okz,rfl,o8,hb8⟩;have ST8:=hid (ST5.out.step o8);clear o8;clear s0 s1 sf0 sf1 slt r0 r1 rf0 rf1 rlt
        obtain⟨s0,s1,sf0,sf1,slt⟩:=Qq ST8.out.sb
        obtain⟨r0,r1,rf0,rf1,rlt⟩:=Qq ST8.out.rb
        obtain⟨q8,e8,a8,hq8,hE8,hrd8,hbd8⟩:=hb8.open'
        have S8:=hid hrd8;have BD8:=hid hbd8;clear hbd8 hrd8
        try clear c0 c1 c2 c3 f1 f2 f3 lt
        obtain⟨c0,c1,c2,c3,f1,f2,f3,lt⟩:=S8.out.cells
        cases okz with
        |false =>
         go_wp2_with (go_at_call 76;refine(WR.out q8 _ _ 160 q8 _ S8.out hq8 (by decide)).mono ?_;rintro e W9 ⟨rfl,hb9,o9⟩;have ST9:=hid (ST8.out.step o9);clear o9;clear s0 s1 sf0 sf1 slt r0 r1 rf0 rf1 rlt;clear c0 c1 c2 c3 f1 f2 f3 lt;obtain⟨s0,s1,sf0,sf1,slt⟩:=Qq ST9.out.sb;obtain⟨r0,r1,rf0,rf1,rlt⟩:=Qq ST9.out.rb;obtain⟨q9,e9,a9,hq9,hE9,hrd9,hbd9⟩:=hb9.open';obtain⟨c0,c1,c2,c3,f1,f2,f3,lt⟩:=hrd9.cells;have BD9:=hid hbd9;clear hbd9 hb9 hrd9)
         change bodyPost _ _ _ _ _ (P2 _ w.heap.size (.string ⟨n.toArray⟩) (.slice _ ks.length ck));exact Xn ST9.out.rb rfl rfl ⟨n,ks,false,_,ck,rfl,ST9.out.own2 _ _,ST9.out.ret _ _,Or.inr ⟨rfl,HNO.out,ST9.out.badS BD9.out _ _⟩⟩
        |true =>
         go_wp2_with fail;change bodyPost _ _ _ _ _ (P2 _ w.heap.size (.string ⟨n.toArray⟩) (.slice _ ks.length ck));exact Xn ST8.out.rb rfl rfl ⟨n,ks,false,_,ck,rfl,ST8.out.own2 _ _,ST8.out.ret _ _,Or.inr ⟨rfl,HNO.out,ST8.out.badS BD8.out _ _⟩⟩
       ·have hbl:Op.bytesLess k kl=true:=by
         rw[HBL.out];exact decide_eq_true ((List.le_iff_lt_or_eq.1 (List.not_lt.1 hlt)).resolve_right heq)
        have hbe:(k==kl)=false:=beq_eq_false_iff_ne.2 heq;clear hlt heq;have HNO:=hid (show Xs (b.data.toList.drop p)=none by rw[HKE.out,HE1.out,HKP.out,if_pos HGE.out];rfl)
        go_wp2_with (go_at_call 76;refine(WR.out q4 _ _ 160 _ _ S4.out hq4 (by decide)).mono ?_;rintro e W5 ⟨rfl,hb5,o5⟩;have ST5:=hid (ST4.out.step o5);have BD5:=hid hb5;clear o5 hb5;clear s0 s1 sf0 sf1 slt r0 r1 rf0 rf1 rlt;clear c0 c1 c2 c3 f1 f2 f3 lt;obtain⟨s0,s1,sf0,sf1,slt⟩:=Qq ST5.out.sb;obtain⟨r0,r1,rf0,rf1,rlt⟩:=Qq ST5.out.rb)
        refine(ISB.out _ BD5.out).mono ?_
        rintro e W8 ⟨okz,rfl,o8,hb8⟩;have ST8:=hid (ST5.out.step o8);clear o8;clear s0 s1 sf0 sf1 slt r0 r1 rf0 rf1 rlt
        obtain⟨s0,s1,sf0,sf1,slt⟩:=Qq ST8.out.sb
        obtain⟨r0,r1,rf0,rf1,rlt⟩:=Qq ST8.out.rb
        obtain⟨q8,e8,a8,hq8,hE8,hrd8,hbd8⟩:=hb8.open'
        have S8:=hid hrd8;have BD8:=hid hbd8;clear hbd8 hrd8
        try clear c0 c1 c2 c3 f1 f2 f3 lt
        obtain⟨c0,c1,c2,c3,f1,f2,f3,lt⟩:=S8.out.cells
        cases okz with
        |false =>
         go_wp2_with (go_at_call 76;refine(WR.out q8 _ _ 160 q8 _ S8.out hq8 (by decide)).mono ?_;rintro e W9 ⟨rfl,hb9,o9⟩;have ST9:=hid (ST8.out.step o9);clear o9;clear s0 s1 sf0 sf1 slt r0 r1 rf0 rf1 rlt;clear c0 c1 c2 c3 f1 f2 f3 lt;obtain⟨s0,s1,sf0,sf1,slt⟩:=Qq ST9.out.sb;obtain⟨r0,r1,rf0,rf1,rlt⟩:=Qq ST9.out.rb;obtain⟨q9,e9,a9,hq9,hE9,hrd9,hbd9⟩:=hb9.open';obtain⟨c0,c1,c2,c3,f1,f2,f3,lt⟩:=hrd9.cells;have BD9:=hid hbd9;clear hbd9 hb9 hrd9)
         change bodyPost _ _ _ _ _ (P2 _ w.heap.size (.string ⟨n.toArray⟩) (.slice _ ks.length ck));exact Xn ST9.out.rb rfl rfl ⟨n,ks,false,_,ck,rfl,ST9.out.own2 _ _,ST9.out.ret _ _,Or.inr ⟨rfl,HNO.out,ST9.out.badS BD9.out _ _⟩⟩
        |true =>
         go_wp2_with fail;change bodyPost _ _ _ _ _ (P2 _ w.heap.size (.string ⟨n.toArray⟩) (.slice _ ks.length ck));exact Xn ST8.out.rb rfl rfl ⟨n,ks,false,_,ck,rfl,ST8.out.own2 _ _,ST8.out.ret _ _,Or.inr ⟨rfl,HNO.out,ST8.out.badS BD8.out _ _⟩⟩
    ·have HNO:=hid (show Xs (b.data.toList.drop p)=none by rw[HKE.out,HE1.out];unfold Mf;rw[hnn];rfl)
     obtain⟨q4,e4,a4,hq4,hE4,hrd4,hbd4⟩:=hb4.open'
     have S4:=hid hrd4;have BD4:=hid hbd4;clear hnn hb4 hrd4 hbd4
     obtain⟨c0,c1,c2,c3,f1,f2,f3,lt⟩:=S4.out.cells
     by_cases hnil:ks=[]
     ·have HGE:=hid (show Vx ks k=false by rw[hnil];rfl);have hk0:¬(0:Int)<(ks.length:Int):=by rw[hnil];decide
      clear hnil;go_wp2_with fail
      refine(ISB.out _ BD4.out).mono ?_
      rintro e W8 ⟨okz,rfl,o8,hb8⟩;have ST8:=hid (ST4.out.step o8);clear o8;clear s0 s1 sf0 sf1 slt r0 r1 rf0 rf1 rlt
      obtain⟨s0,s1,sf0,sf1,slt⟩:=Qq ST8.out.sb
      obtain⟨r0,r1,rf0,rf1,rlt⟩:=Qq ST8.out.rb
      obtain⟨q8,e8,a8,hq8,hE8,hrd8,hbd8⟩:=hb8.open'
      have S8:=hid hrd8;have BD8:=hid hbd8;clear hbd8 hrd8
      try clear c0 c1 c2 c3 f1 f2 f3 lt
      obtain⟨c0,c1,c2,c3,f1,f2,f3,lt⟩:=S8.out.cells
      cases okz with
      |false =>
       go_wp2_with (go_at_call 76;refine(WR.out q8 _ _ 160 q8 _ S8.out hq8 (by decide)).mono ?_;rintro e W9 ⟨rfl,hb9,o9⟩;have ST9:=hid (ST8.out.step o9);clear o9;clear s0 s1 sf0 sf1 slt r0 r1 rf0 rf1 rlt;clear c0 c1 c2 c3 f1 f2 f3 lt;obtain⟨s0,s1,sf0,sf1,slt⟩:=Qq ST9.out.sb;obtain⟨r0,r1,rf0,rf1,rlt⟩:=Qq ST9.out.rb;obtain⟨q9,e9,a9,hq9,hE9,hrd9,hbd9⟩:=hb9.open';obtain⟨c0,c1,c2,c3,f1,f2,f3,lt⟩:=hrd9.cells;have BD9:=hid hbd9;clear hbd9 hb9 hrd9)
       change bodyPost _ _ _ _ _ (P2 _ w.heap.size (.string ⟨n.toArray⟩) (.slice _ ks.length ck));exact Xn ST9.out.rb rfl rfl ⟨n,ks,false,_,ck,rfl,ST9.out.own2 _ _,ST9.out.ret _ _,Or.inr ⟨rfl,HNO.out,ST9.out.badS BD9.out _ _⟩⟩
      |true =>
       go_wp2_with fail;change bodyPost _ _ _ _ _ (P2 _ w.heap.size (.string ⟨n.toArray⟩) (.slice _ ks.length ck));exact Xn ST8.out.rb rfl rfl ⟨n,ks,false,_,ck,rfl,ST8.out.own2 _ _,ST8.out.ret _ _,Or.inr ⟨rfl,HNO.out,ST8.out.badS BD8.out _ _⟩⟩
     ·obtain⟨g1,rfl⟩:∃g1,ak=some ⟨g1,0,none⟩:=by
       rcases ST4.out.own.shape with ⟨_,e⟩|⟨g,cap,cur,e,_⟩
       ·exact absurd e hnil
       ·cases e;exact⟨g,rfl⟩
      obtain⟨kl,hkl2,hkc⟩:=Wv ST4.out.own hnil
      have hpos:0<ks.length:=List.length_pos_iff.2 hnil;have HKL:=hid (hkl2 k);have HBL:=hid (Proofs.bytesLess_eq k kl);clear hkl2 hnil
      obtain⟨m,hm⟩:∃m,ks.length=m+1:=⟨ks.length-1,by omega⟩
      rw[hm,Nat.add_sub_cancel]at hkc;have hm0:(0:Int)<(ks.length:Int):=by omega
      have hm1:(ks.length:Int)-1=(m:Int):=by omega
      have hm2:(m:Int)<(ks.length:Int):=by omega
      have hm3:(0:Int)≤(m:Int):=by omega
      have hm4:(m:Int)≤1000:=by omega
      clear hm hpos
      by_cases hlt:kl<k
      ·have hbl:Op.bytesLess k kl=false:=by rw[HBL.out];exact decide_eq_false (List.lt_asymm hlt)
       have hbe:(k==kl)=false:=beq_eq_false_iff_ne.2 (fun e=>List.lt_irrefl _ (e▸hlt));have HGE:=hid (show Vx ks k=false by rw[HKL.out,decide_eq_false (List.not_le.2 hlt)]);clear hlt;go_wp2_with fail
       refine(ISB.out _ BD4.out).mono ?_
       rintro e W8 ⟨okz,rfl,o8,hb8⟩;have ST8:=hid (ST4.out.step o8);clear o8;clear s0 s1 sf0 sf1 slt r0 r1 rf0 rf1 rlt
       obtain⟨s0,s1,sf0,sf1,slt⟩:=Qq ST8.out.sb
       obtain⟨r0,r1,rf0,rf1,rlt⟩:=Qq ST8.out.rb
       obtain⟨q8,e8,a8,hq8,hE8,hrd8,hbd8⟩:=hb8.open'
       have S8:=hid hrd8;have BD8:=hid hbd8;clear hbd8 hrd8
       try clear c0 c1 c2 c3 f1 f2 f3 lt
       obtain⟨c0,c1,c2,c3,f1,f2,f3,lt⟩:=S8.out.cells
       cases okz with
       |false =>
        go_wp2_with (go_at_call 76;refine(WR.out q8 _ _ 160 q8 _ S8.out hq8 (by decide)).mono ?_;rintro e W9 ⟨rfl,hb9,o9⟩;have ST9:=hid (ST8.out.step o9);clear o9;clear s0 s1 sf0 sf1 slt r0 r1 rf0 rf1 rlt;clear c0 c1 c2 c3 f1 f2 f3 lt;obtain⟨s0,s1,sf0,sf1,slt⟩:=Qq ST9.out.sb;obtain⟨r0,r1,rf0,rf1,rlt⟩:=Qq ST9.out.rb;obtain⟨q9,e9,a9,hq9,hE9,hrd9,hbd9⟩:=hb9.open';obtain⟨c0,c1,c2,c3,f1,f2,f3,lt⟩:=hrd9.cells;have BD9:=hid hbd9;clear hbd9 hb9 hrd9)
        change bodyPost _ _ _ _ _ (P2 _ w.heap.size (.string ⟨n.toArray⟩) (.slice _ ks.length ck));exact Xn ST9.out.rb rfl rfl ⟨n,ks,false,_,ck,rfl,ST9.out.own2 _ _,ST9.out.ret _ _,Or.inr ⟨rfl,HNO.out,ST9.out.badS BD9.out _ _⟩⟩
       |true =>
        go_wp2_with fail;change bodyPost _ _ _ _ _ (P2 _ w.heap.size (.string ⟨n.toArray⟩) (.slice _ ks.length ck));exact Xn ST8.out.rb rfl rfl ⟨n,ks,false,_,ck,rfl,ST8.out.own2 _ _,ST8.out.ret _ _,Or.inr ⟨rfl,HNO.out,ST8.out.badS BD8.out _ _⟩⟩
      ·have HGE:=hid (show Vx ks k=true by rw[HKL.out,decide_eq_true (List.not_lt.1 hlt)])
       by_cases heq:k=kl
       ·have hbl:Op.bytesLess k kl=false:=by rw[HBL.out];exact decide_eq_false (heq▸List.lt_irrefl _)
        have hbe:(k==kl)=true:=beq_iff_eq.2 heq;clear hlt heq
        go_wp2_with (go_at_call 76;refine(WR.out q4 _ _ 160 _ _ S4.out hq4 (by decide)).mono ?_;rintro e W5 ⟨rfl,hb5,o5⟩;have ST5:=hid (ST4.out.step o5);have BD5:=hid hb5;clear o5 hb5;clear s0 s1 sf0 sf1 slt r0 r1 rf0 rf1 rlt;clear c0 c1 c2 c3 f1 f2 f3 lt;obtain⟨s0,s1,sf0,sf1,slt⟩:=Qq ST5.out.sb;obtain⟨r0,r1,rf0,rf1,rlt⟩:=Qq ST5.out.rb)
        refine(ISB.out _ BD5.out).mono ?_
        rintro e W8 ⟨okz,rfl,o8,hb8⟩;have ST8:=hid (ST5.out.step o8);clear o8;clear s0 s1 sf0 sf1 slt r0 r1 rf0 rf1 rlt
        obtain⟨s0,s1,sf0,sf1,slt⟩:=Qq ST8.out.sb
        obtain⟨r0,r1,rf0,rf1,rlt⟩:=Qq ST8.out.rb
        obtain⟨q8,e8,a8,hq8,hE8,hrd8,hbd8⟩:=hb8.open'
        have S8:=hid hrd8;have BD8:=hid hbd8;clear hbd8 hrd8
        try clear c0 c1 c2 c3 f1 f2 f3 lt
        obtain⟨c0,c1,c2,c3,f1,f2,f3,lt⟩:=S8.out.cells
        cases okz with
        |false =>
         go_wp2_with (go_at_call 76;refine(WR.out q8 _ _ 160 q8 _ S8.out hq8 (by decide)).mono ?_;rintro e W9 ⟨rfl,hb9,o9⟩;have ST9:=hid (ST8.out.step o9);clear o9;clear s0 s1 sf0 sf1 slt r0 r1 rf0 rf1 rlt;clear c0 c1 c2 c3 f1 f2 f3 lt;obtain⟨s0,s1,sf0,sf1,slt⟩:=Qq ST9.out.sb;obtain⟨r0,r1,rf0,rf1,rlt⟩:=Qq ST9.out.rb;obtain⟨q9,e9,a9,hq9,hE9,hrd9,hbd9⟩:=hb9.open';obtain⟨c0,c1,c2,c3,f1,f2,f3,lt⟩:=hrd9.cells;have BD9:=hid hbd9;clear hbd9 hb9 hrd9)
         change bodyPost _ _ _ _ _ (P2 _ w.heap.size (.string ⟨n.toArray⟩) (.slice _ ks.length ck));exact Xn ST9.out.rb rfl rfl ⟨n,ks,false,_,ck,rfl,ST9.out.own2 _ _,ST9.out.ret _ _,Or.inr ⟨rfl,HNO.out,ST9.out.badS BD9.out _ _⟩⟩
        |true =>
         go_wp2_with fail;change bodyPost _ _ _ _ _ (P2 _ w.heap.size (.string ⟨n.toArray⟩) (.slice _ ks.length ck));exact Xn ST8.out.rb rfl rfl ⟨n,ks,false,_,ck,rfl,ST8.out.own2 _ _,ST8.out.ret _ _,Or.inr ⟨rfl,HNO.out,ST8.out.badS BD8.out _ _⟩⟩
       ·have hbl:Op.bytesLess k kl=true:=by
         rw[HBL.out];exact decide_eq_true ((List.le_iff_lt_or_eq.1 (List.not_lt.1 hlt)).resolve_right heq)
        have hbe:(k==kl)=false:=beq_eq_false_iff_ne.2 heq;clear hlt heq
        go_wp2_with (go_at_call 76;refine(WR.out q4 _ _ 160 _ _ S4.out hq4 (by decide)).mono ?_;rintro e W5 ⟨rfl,hb5,o5⟩;have ST5:=hid (ST4.out.step o5);have BD5:=hid hb5;clear o5 hb5;clear s0 s1 sf0 sf1 slt r0 r1 rf0 rf1 rlt;clear c0 c1 c2 c3 f1 f2 f3 lt;obtain⟨s0,s1,sf0,sf1,slt⟩:=Qq ST5.out.sb;obtain⟨r0,r1,rf0,rf1,rlt⟩:=Qq ST5.out.rb)
        refine(ISB.out _ BD5.out).mono ?_
        rintro e W8 ⟨okz,rfl,o8,hb8⟩;have ST8:=hid (ST5.out.step o8);clear o8;clear s0 s1 sf0 sf1 slt r0 r1 rf0 rf1 rlt
        obtain⟨s0,s1,sf0,sf1,slt⟩:=Qq ST8.out.sb
        obtain⟨r0,r1,rf0,rf1,rlt⟩:=Qq ST8.out.rb
        obtain⟨q8,e8,a8,hq8,hE8,hrd8,hbd8⟩:=hb8.open'
        have S8:=hid hrd8;have BD8:=hid hbd8;clear hbd8 hrd8
        try clear c0 c1 c2 c3 f1 f2 f3 lt
        obtain⟨c0,c1,c2,c3,f1,f2,f3,lt⟩:=S8.out.cells
        cases okz with
        |false =>
         go_wp2_with (go_at_call 76;refine(WR.out q8 _ _ 160 q8 _ S8.out hq8 (by decide)).mono ?_;rintro e W9 ⟨rfl,hb9,o9⟩;have ST9:=hid (ST8.out.step o9);clear o9;clear s0 s1 sf0 sf1 slt r0 r1 rf0 rf1 rlt;clear c0 c1 c2 c3 f1 f2 f3 lt;obtain⟨s0,s1,sf0,sf1,slt⟩:=Qq ST9.out.sb;obtain⟨r0,r1,rf0,rf1,rlt⟩:=Qq ST9.out.rb;obtain⟨q9,e9,a9,hq9,hE9,hrd9,hbd9⟩:=hb9.open';obtain⟨c0,c1,c2,c3,f1,f2,f3,lt⟩:=hrd9.cells;have BD9:=hid hbd9;clear hbd9 hb9 hrd9)
         change bodyPost _ _ _ _ _ (P2 _ w.heap.size (.string ⟨n.toArray⟩) (.slice _ ks.length ck));exact Xn ST9.out.rb rfl rfl ⟨n,ks,false,_,ck,rfl,ST9.out.own2 _ _,ST9.out.ret _ _,Or.inr ⟨rfl,HNO.out,ST9.out.badS BD9.out _ _⟩⟩
        |true =>
         go_wp2_with fail;change bodyPost _ _ _ _ _ (P2 _ w.heap.size (.string ⟨n.toArray⟩) (.slice _ ks.length ck));exact Xn ST8.out.rb rfl rfl ⟨n,ks,false,_,ck,rfl,ST8.out.own2 _ _,ST8.out.ret _ _,Or.inr ⟨rfl,HNO.out,ST8.out.badS BD8.out _ _⟩⟩
  ·have HNO:=hid hno
   obtain⟨q9,e9,a9,hq9,hE9,hrd9,hbd9⟩:=hbad.open'
   obtain⟨c0,c1,c2,c3,f1,f2,f3,lt⟩:=hrd9.cells
   have BD9:=hid hbd9;clear hbd9 hbad hrd9 hno;go_wp2_with fail;change bodyPost _ _ _ _ _ (P2 _ w.heap.size (.string ⟨n.toArray⟩) (.slice _ ks.length ck));exact Xn ST.out.rb rfl rfl ⟨n,ks,false,_,ck,rfl,ST.out.own2 _ _,ST.out.ret _ _,Or.inr ⟨rfl,HNO.out,ST.out.badS BD9.out _ _⟩⟩
end
section
open Go.RowKit Go.Lib
theorem Ys {V:World}{Pb:Nat}{v:Value}{e a:Int}(hr:V.heap[Pb]?=some (.cells #[.int .i64 e,.int .i64 a] 78 (0,0))){Q:Ending→World→Prop}{act:Act}(hd:act.defers=[])
  (h2:act.tmps.getD 2 undef=v)(h3:act.tmps.getD 3 undef=.pointer (some ⟨Pb,0,none⟩))(hQ:Q (.returned (.tuple #[v,.agg #[.int .i64 e,.int .i64 a]])) V) :
  bodyPost Tryz.prog Tryz.f32 Q Exit.ret act V:=by
 obtain⟨e0,e1,_,_,_⟩:=Qq hr
 refine bodyPost_ret (v:=.tuple #[v,.agg #[.int .i64 e,.int .i64 a]]) ?_ hd hQ
 obtain⟨tmps,defers⟩:=act
 simp only[Array.getD_eq_getD_getElem?]at h2 h3
 simp[results,Tryz.results32,go_sem,h2,h3,e0,e1]
section
variable {w W W' : World}{s:Str}{Rb:Nat}{v:Value}{zs:List (Stp × (Option Addr × Nat))}
theorem Bm.stepS (h:Bm w s Rb W v zs){b:ByteArray}{q e:Nat}{a:Int}(hr:SRd W Rb b q e a)(o:Qf Rb W W'):Bm w s Rb W' v zs:=by
 have hlt:=h.lt;unfold SRd at hr
 refine⟨(o.block _ (lt_of_block h.pb) (by simp;omega)).trans h.pb,World.ownsRow.kept h.own o (Or.inr (Qx h.own hr (by decide))),fun z hz=>World.ownsRow.kept (h.each z hz) o (Or.inr (Qx (h.each z hz) hr (by decide))),?_,hlt,h.dis⟩
 exact h.bel.grown o h.bel.size (fun k hk=>by cases hk;omega)
theorem Bm.rdS (h:Bm w s Rb W v zs){b:ByteArray}{q e:Nat}{a:Int}(hr:SRd W Rb b q e a)(gr:W.grownBy W' v.ownBlock):SRd W' Rb b q e a:=by
 unfold SRd at *
 exact(gr.block _ (lt_of_block hr) (Ne.symm (Qx h.own hr (by decide)))).trans hr
theorem Bm.badS (h:Bm w s Rb W v zs){b:ByteArray}(hr:Rj W Rb b)(gr:W.grownBy W' v.ownBlock):Rj W' Rb b:=by
 obtain⟨q,e,a,h1,h2,h3⟩:=hr
 exact⟨q,e,a,h1,h2,h.rdS h3 gr⟩
end
theorem rstep_one (Br : Nat) (b : ByteArray) (p : Nat) (w : World) (h : SRd w Br b p 0 0) (hp : p ≤ b.size) (hb : b.size ≤ 512) (hu : Zq (b.data.toList.drop p) = true) :
    Calls Tryz.prog 77 #[.pointer (some ⟨Br,0,none⟩)] w fun x w' => ∃(n:Str) (ks:List (Str × Str)) (a:Option Addr) (c:Nat),x=.returned (.agg #[.string ⟨n.toArray⟩,.slice a ks.length c])∧Qd w' w.heap.size (.slice a ks.length c) ks∧Qf Br w w' ∧
      ((∃q,Xs (b.data.toList.drop p)=some ((n,ks),b.data.toList.drop q)∧SRd w' Br b q 0 0∧q≤b.size∧p < q∧Zq (b.data.toList.drop q)=true) ∨
       (Xs (b.data.toList.drop p)=none∧Rj w' Br b)) := by
  refine (rstep_any Br b p w h hp hb hu).mono fun x w' hr => ?_
  obtain ⟨n,ks,ok,a,c,h1,h2,h3,h4⟩ := hr
  refine ⟨n,ks,a,c,h1,h2,h3,?_⟩
  rcases h4 with ⟨_,h⟩|⟨_,h1,h2⟩
  · exact Or.inl h
  · exact Or.inr ⟨h1,h2⟩
theorem Ty (s:Str) (w:World) (hs:s.length≤maxLen):Calls Tryz.prog 32 #[.string ⟨s.toArray⟩] w fun x w' => Ny w s x w' := by
  have F0 := hid (heap_alloc_new w (.cells #[.int .i64 0,.int .i64 0] 78))
  have hb0:Below w.heap.size w (w.alloc (.cells #[.int .i64 0,.int .i64 0] 78)) := (Below.refl _ _).alloc (Nat.le_refl _) _
  have B0 := hid hb0
  have hsz:(⟨s.toArray⟩ : ByteArray).size=s.length := Lib.size_eq _
  have HSZ := hid hsz
  clear hb0
  by_cases h512:512 < s.length
  · have hli:(512:Int) < (s.length:Int) := by omega
    have HNO := hid (show Qy s=none by unfold Qy;rw[if_pos h512])
    obtain ⟨z0,z1,zf0,zf1,zlt⟩ := Qq F0.out
    clear hsz h512
    go_enter Tryz.func32,Tryz.ntmps32
    go_upto_region 1 with fail
    generalize w.alloc (.cells #[.int .i64 0,.int .i64 0] 78)=w1 at *
    go_wp2_with fail
    refine Ys (Pb := w.heap.size) (e := 3) (a := 512) ?_ rfl rfl rfl ?_
    · exact Xy (.int .i64 3) (.int .i64 512) F0.out
    · exact ⟨Or.inr ⟨HNO.out,3,512,by decide,rfl⟩,Zr _ _ B0.out (Nat.le_refl _)⟩
  · have hli:¬(512:Int) < (s.length:Int) := by omega
    have H512 := hid h512
    have BK := hid (fun W => Qyw ⟨s.toArray⟩ W (by rw[hsz];omega))
    clear hsz
    go_enter Tryz.func32,Tryz.ntmps32
    go_upto_region 1 with fail
    generalize w.alloc (.cells #[.int .i64 0,.int .i64 0] 78)=w1 at *
    go_wp2_with fail
    refine (BK.out w1).mono ?_
    rintro e w2 ⟨⟨i,rfl,hut⟩,rfl⟩
    rename World => w1
    obtain ⟨z0,z1,zf0,zf1,zlt⟩ := Qq F0.out
    cases hu:Zq s with
    |false =>
      have hi:0≤i := by
        rw[show (⟨s.toArray⟩ : ByteArray).data.toList=s from rfl,hu]at hut
        exact hut
      have HNO := hid (show Qy s=none by unfold Qy;rw[if_neg H512.out,if_pos hu])
      clear hut hu h512 hli
      go_wp2_with fail
      refine Ys (Pb := w.heap.size) (e := 6) (a := i) ?_ rfl rfl rfl ?_
      · exact Xy (.int .i64 6) (.int .i64 i) F0.out
      · exact ⟨Or.inr ⟨HNO.out,6,i,by decide,rfl⟩,Zr _ _ B0.out (Nat.le_refl _)⟩
    |true =>
      obtain rfl:i=-1 := by
        rw[show (⟨s.toArray⟩ : ByteArray).data.toList=s from rfl,hu]at hut
        exact hut
      clear hut h512 hli
      by_cases hemp:s=[]
      · subst hemp
        go_wp2_with fail
        refine Ys (Pb := w.heap.size) (e := 0) (a := 0) ?_ rfl rfl rfl ?_
        · exact Xy (.int .i64 0) (.int .i64 0) F0.out
        · exact ⟨Or.inl ⟨[],_,by unfold Qy;rw[if_neg H512.out,hu];rfl,rfl,[],rfl,Qg.nil _ _ _ _,(fun z hz => by cases hz),List.Pairwise.nil⟩,Zr _ _ B0.out (Nat.le_refl _)⟩
      · have hne:List.isEmpty s=false := Pt hemp
        have HPP := hid (show Qy s=Jn 64 [] s by unfold Qy;rw[if_neg H512.out,hu];simp[hemp])
        have hbr:Below w1.heap.size w1 (w1.alloc (.cells #[.string ⟨s.toArray⟩,.int .i64 0,.int .i64 0,.int .i64 0] 141)) := (Below.refl _ _).alloc (Nat.le_refl _) _
        have HRD0 := hid (show SRd (w1.alloc (.cells #[.string ⟨s.toArray⟩,.int .i64 0,.int .i64 0,.int .i64 0] 141)) w1.heap.size ⟨s.toArray⟩ 0 0 0 from heap_alloc_new w1 _)
        have ST0 := hid (show Bm w s w1.heap.size (w1.alloc (.cells #[.string ⟨s.toArray⟩,.int .i64 0,.int .i64 0,.int .i64 0] 141)) (.slice none 0 0) [] from
          ⟨(hbr.block _ (lt_of_block F0.out)).trans F0.out,Qg.nil _ _ _ _,(fun z hz => by cases hz),B0.out.then hbr,lt_of_block F0.out,List.Pairwise.nil⟩)
        have HU0 := hid hu
        clear hbr hu hemp
        go_upto_region 9 with fail
        clear z0 z1 zf0 zf1 zlt hne
        generalize w1.alloc (.cells #[.string ⟨s.toArray⟩,.int .i64 0,.int .i64 0,.int .i64 0] 141)=w4 at *
        have SP := hid (fun q W (h:SRd W w1.heap.size ⟨s.toArray⟩ q 0 0) (hq:q≤s.length) (hu:Zq (s.drop q)=true) => rstep_one w1.heap.size ⟨s.toArray⟩ q W h (by rw[HSZ.out];exact hq) (by rw[HSZ.out];have := H512.out;omega) hu)
        have NX := hid (fun q W (h:SRd W w1.heap.size ⟨s.toArray⟩ q 0 0) (hq:q≤s.length) => (show Calls Tryz.prog 78 #[.pointer (some ⟨w1.heap.size,0,none⟩),.int .u8 47] W _ from Qgh w1.heap.size ⟨s.toArray⟩ q 0 0 47 W h (by rw[HSZ.out];exact hq) (by rw[HSZ.out];have := H512.out;omega)))
        have FA := hid (fun q (e:Nat) (a:Int) W (h:SRd W w1.heap.size ⟨s.toArray⟩ q 0 0) => Rz w1.heap.size ⟨s.toArray⟩ q 0 0 e a W h)
        generalize w1.heap.size=Rb at *
        go_wp2_with fail
        go_loopg[6] 66 (fun g v6 W => ∃(zs:List (Stp × (Option Addr × Nat))),Bm w s Rb W v6 zs∧zs.length≤64∧65≤zs.length + g ∧
          ((∃q:Nat,SRd W Rb ⟨s.toArray⟩ q 0 0∧q≤s.length∧Zq (s.drop q)=true∧Qy s=Jn (64-zs.length) (zs.map (·.1)) (s.drop q)) ∨
           (Qy s=none∧∃(q e:Nat) (a:Int),e≠0∧SRd W Rb ⟨s.toArray⟩ q e a)))
        case atStart => exact ⟨[],ST0.out,Nat.zero_le _,by simp,Or.inl ⟨0,HRD0.out,Nat.zero_le _,HU0.out,by rw[HPP.out];rfl⟩⟩
        case round =>
          obtain ⟨zs,st,h64,hg,hcase⟩ := hrel
          rename World => w5
          have ST5 := hid st
          have HG := hid hg
          have HZ := hid h64
          clear st h64 hg ST0 HRD0 HU0 HPP
          obtain ⟨av,cv,rfl,hcap⟩ := ST5.out.own.slice
          clear hcap
          rcases hcase with ⟨q,rd,hq,hu,hpp⟩|⟨hno,q,er,ea,hne,rd⟩
          · have RD5 := hid rd
            have HU5 := hid hu
            have HP5 := hid hpp
            have HQ := hid hq
            clear rd hu hpp hq
            obtain ⟨c0,c1,c2,c3,f1,f2,f3,lt⟩ := RD5.out.cells
            by_cases hfull:zs.length=64
            · have HNO := hid (show Qy s=none by rw[HP5.out,hfull];rfl)
              have hz64:((zs.length:Int) == 64)=true := by rw[beq_iff_eq];omega
              clear hfull
              go_wp2_with (go_at_call 76;refine (FA.out q 3 q w5 RD5.out).mono ?_;rintro e w6 ⟨rfl,h6,o6⟩;have ST6 := hid (ST5.out.stepS RD5.out o6);have H6 := hid h6;clear h6 o6 c0 c1 c2 c3 f1 f2 f3 lt;obtain ⟨c0,c1,c2,c3,f1,f2,f3,lt⟩ := H6.out.cells;obtain ⟨z0,z1,zf0,zf1,zlt⟩ := Qq ST6.out.pb)
              first
                |go_region
                | fail "r10"
              all_goals
                go_wp2_with fail
                refine Ys (Pb := w.heap.size) (e := 3) (a := q) ?_ rfl rfl rfl ?_
                · exact Xy (.int .i64 3) (.int .i64 q) ST6.out.pb
                · exact ⟨Or.inr ⟨HNO.out,3,q,by decide,rfl⟩,(Zr _ _ ST6.out.bel (Nat.le_refl _)).drew⟩
            · have hz64:((zs.length:Int) == 64)=false := by rw[beq_eq_false_iff_ne];omega
              have HL := hid (show zs.length < 64 by have := HZ.out;omega)
              have HLA := hid (show zs.length + 1≤maxLen by have := HL.out;unfold maxLen;omega)
              have HLB := hid (show (zs.length + 1) * 40≤140737488355328 by have := HL.out;omega)
              clear hfull
              go_wp2_with fail
              refine (SP.out q w5 RD5.out HQ.out HU5.out).mono ?_
              rintro e w6 ⟨n,ks,ax,cx,rfl,hown,o6,hst⟩
              have ST6 := hid (ST5.out.stepS RD5.out o6)
              have HSP := hid hst
              have HW5 := hid ST5.out.bel.size
              have HDX := hid (show ∀x ∈ zs,Zrx x ((n,ks),(ax,cx))from fun x hx k hk e => by have h1 := (World.ownsRow.lt (ST5.out.each x hx) k hk).2;have h2 := (World.ownsRow.lt hown k e).1;omega)
              have HOX := hid (show Qd w6 (w.heap.size + 1) (.slice ax ks.length cx) ks from Ks hown (by have := lt_of_block ST5.out.pb;omega))
              have HSZ6 := hid (show w.heap.size + 1≤w6.heap.size by have := lt_of_block ST6.out.pb;omega)
              clear c0 c1 c2 c3 f1 f2 f3 lt o6 hst hown
              go_upto_region 14 with (at_builtin;refine Jl (E := Qm) rfl (.tmp 38) (.tmp 41) rfl Tryz.underlying76 Yd rfl (by decide) (w.heap.size + 1) _ zs ((n,ks),(ax,cx)) rfl ST6.out.own rfl HLA.out HLB.out HSZ6.out #[.string ⟨n.toArray⟩,.slice ax ks.length cx] rfl ?_;intro v8 w8 own8 gr8 mv8;obtain ⟨a8,c8,rfl,hc8⟩ := own8.slice;rw[show (zs++[((n,ks),(ax,cx))]).length=zs.length + 1 from by simp]at own8;have ST8 := hid (ST6.out.push own8 gr8 HOX.out HDX.out);have GR8 := hid gr8;clear own8 gr8 mv8 hc8)
              rcases HSP.out with ⟨q6,hsp,hrd,hq6,hqq,hu6⟩|⟨hno,hbad⟩
              · have HRD := hid (ST6.out.rdS hrd GR8.out)
                rw[HSZ.out]at hq6
                have HQ6 := hid hq6
                have HU6 := hid hu6
                have HPX := hid (show Qy s=if s.drop q6=[]then some (zs.map (·.1)++[(n,ks)])else match Xx 47 (s.drop q6) with
                  |none => none
                  |some r' => Jn (64-(zs.length + 1)) (zs.map (·.1)++[(n,ks)]) r' by
                  rw[HP5.out,show 64-zs.length=(64-(zs.length + 1)) + 1 by have := HL.out;omega]
                  simp only[Jn,show Xs (s.drop q)=some ((n,ks),s.drop q6)from hsp]
                  rfl)
                clear hsp hrd hq6 hqq hu6 HSP ST6
                obtain ⟨c0,c1,c2,c3,f1,f2,f3,lt⟩ := HRD.out.cells
                obtain ⟨z0,z1,zf0,zf1,zlt⟩ := Qq ST8.out.pb
                by_cases hend:q6=s.length
                · have heq:((q6:Int) == (s.length:Int))=true := by rw[beq_iff_eq];omega
                  have HE := hid (show Qy s=some (zs.map (·.1)++[(n,ks)])by rw[HPX.out,if_pos (List.drop_eq_nil_of_le (by omega))])
                  clear hend HPX
                  go_wp2_with fail
                  refine Ys (Pb := w.heap.size) (e := 0) (a := 0) ?_ rfl rfl rfl ?_
                  · exact Xy (.int .i64 0) (.int .i64 0) ST8.out.pb
                  · exact ⟨Or.inl ⟨_,_,HE.out,rfl,by have := ST8.out.done (.int .i64 0) (.int .i64 0);rwa [List.map_append]at this⟩,Zr _ _ ST8.out.bel (Nat.le_refl _)⟩
                · have heq:((q6:Int) == (s.length:Int))=false := by rw[beq_eq_false_iff_ne];omega
                  have HE := hid (show Qy s=match Xx 47 (s.drop q6) with
                    |none => none
                    |some r' => Jn (64-(zs.length + 1)) (zs.map (·.1)++[(n,ks)]) r' by
                    rw[HPX.out,if_neg (fun e => hend (by have := congrArg List.length e;simp at this;have := HQ6.out;omega))])
                  clear hend HPX
                  go_wp2_with fail
                  refine (NX.out q6 w8 HRD.out HQ6.out).mono ?_
                  rintro e w9 ⟨okx,rfl,o9,hrd9,hx⟩
                  have ST9 := hid (ST8.out.stepS HRD.out o9)
                  have HRD9 := hid hrd9
                  clear o9 c0 c1 c2 c3 f1 f2 f3 lt z0 z1 zf0 zf1 zlt hrd9
                  cases okx with
                  |false =>
                    have htb:Xx 47 (s.drop q6)=none := by
                      rcases hx with ⟨_,h1⟩|⟨h,_⟩
                      · exact h1
                      · cases h
                    have HNO := hid (show Qy s=none by rw[HE.out,htb])
                    clear hx htb
                    obtain ⟨c0,c1,c2,c3,f1,f2,f3,lt⟩ := HRD9.out.cells
                    have hqb:(q6:Int)≤600 := by have := HQ6.out;have := H512.out;omega
                    go_wp2_with (go_at_call 76;refine (FA.out q6 160 q6 w9 HRD9.out).mono ?_;rintro e w10 ⟨rfl,h10,o10⟩;have ST10 := hid (ST9.out.stepS HRD9.out o10);have H10 := hid h10;clear h10 o10 c0 c1 c2 c3 f1 f2 f3 lt;obtain ⟨c0,c1,c2,c3,f1,f2,f3,lt⟩ := H10.out.cells)
                    go_roundg (gk-1)
                    case measure => have := HG.out;have := HL.out;omega
                    case rel => exact ⟨zs++[((n,ks),(ax,cx))],ST10.out.stepS H10.out ((Qf.refl _ _).set _ _),by have := HL.out;simp;omega,by have := HG.out;have := HL.out;simp;omega,Or.inr ⟨HNO.out,q6 + 1,160,q6,by decide,H10.out.setAt (q6 + 1)⟩⟩
                  |true =>
                    obtain ⟨htb,hq7⟩ : Xx 47 (s.drop q6)=some (s.drop (q6 + 1))∧q6 < (⟨s.toArray⟩ : ByteArray).size := by
                      rcases hx with ⟨h,_⟩|⟨_,h1,h2⟩
                      · cases h
                      · exact ⟨h1,h2⟩
                    rw[HSZ.out]at hq7
                    have HE2 := hid (show Qy s=Jn (64-(zs.length + 1)) (zs.map (·.1)++[(n,ks)]) (s.drop (q6 + 1))by rw[HE.out,htb])
                    have HU7 := hid (Hf (by decide) htb HU6.out)
                    clear hx htb HE
                    obtain ⟨c0,c1,c2,c3,f1,f2,f3,lt⟩ := HRD9.out.cells
                    have hqb:(q6:Int)≤600 := by have := HQ6.out;have := H512.out;omega
                    go_wp2_with fail
                    go_roundg (gk-1)
                    case measure => have := HG.out;have := HL.out;omega
                    case rel => exact ⟨zs++[((n,ks),(ax,cx))],ST9.out.stepS HRD9.out ((Qf.refl _ _).set _ _),by have := HL.out;simp;omega,by have := HG.out;have := HL.out;simp;omega,Or.inl ⟨q6 + 1,HRD9.out.setAt (q6 + 1),by omega,HU7.out,by rw[HE2.out];simp⟩⟩
              · have HNO := hid (show Qy s=none by rw[HP5.out];exact Zvw hno)
                obtain ⟨q9,e9,a9,hq9,hE9,hrd9,hbd9⟩ := (ST6.out.badS hbad GR8.out).open'
                have HRD9 := hid hrd9
                have HNE := hid (show e9≠0 by intro e;rw[e]at hE9;exact absurd hE9 (by decide))
                clear hno hbad hbd9 hrd9 HSP ST6 hq9
                have hE8:((e9:Int) != 0)=true := by rw[bne_iff_ne];have := HNE.out;omega
                obtain ⟨c0,c1,c2,c3,f1,f2,f3,lt⟩ := HRD9.out.cells
                obtain ⟨z0,z1,zf0,zf1,zlt⟩ := Qq ST8.out.pb
                go_wp2_with fail
                first
                  |go_region
                  | fail "r13"
                all_goals
                  go_wp2_with fail
                  refine Ys (Pb := w.heap.size) (e := e9) (a := a9) ?_ rfl rfl rfl ?_
                  · exact Xy (.int .i64 e9) (.int .i64 a9) ST8.out.pb
                  · exact ⟨Or.inr ⟨HNO.out,e9,a9,HNE.out,rfl⟩,(Zr _ _ ST8.out.bel (Nat.le_refl _)).drew⟩
          · have HNO := hid hno
            have HRD9 := hid rd
            have HNE := hid hne
            have hE9:((er:Int) == 0)=false := by rw[beq_eq_false_iff_ne];omega
            have hE8:((er:Int) != 0)=true := by rw[bne_iff_ne];omega
            clear hno rd hne
            obtain ⟨c0,c1,c2,c3,f1,f2,f3,lt⟩ := HRD9.out.cells
            obtain ⟨z0,z1,zf0,zf1,zlt⟩ := Qq ST5.out.pb
            go_wp2_with fail
            first
              |go_region
              | fail "r14"
            all_goals
              go_wp2_with fail
              refine Ys (Pb := w.heap.size) (e := er) (a := ea) ?_ rfl rfl rfl ?_
              · exact Xy (.int .i64 er) (.int .i64 ea) ST5.out.pb
              · exact ⟨Or.inr ⟨HNO.out,er,ea,HNE.out,rfl⟩,(Zr _ _ ST5.out.bel (Nat.le_refl _)).drew⟩
end
section
open Go.RowKit Go.Lib
theorem Zyz:∀(a:List Stp)(x:Stp),Zk (a++[x])=(if a=[]then Qp x else Zk a++47::Qp x)
 |[],x=>rfl
 |[y],x=>by simp[Zk]
 |y::z::a,x=>by
  have ih:=Zyz (z::a) x;rw[if_neg (by simp)]at ih ⊢;rw[List.cons_append,join_cons y (by simp),ih,join_cons y (by simp)]
  simp
theorem Zyx {l:List Stp}{k:Nat}(h:k<l.length):Zk (l.take (k+1))=if k=0 then Qp (l[k]'h)else Zk (l.take k)++47::Qp (l[k]'h):=by
 rw[List.take_succ_eq_append_getElem h,Zyz]
 by_cases hk:k=0
 ·subst hk;rfl
 ·rw[if_neg hk,if_neg];intro e
  have:=congrArg List.length e
  rw[List.length_take,List.length_nil]at this
  omega
theorem Mt:∀(l:List Stp)(k:Nat),(Zk (l.take k)).length≤(Zk l).length
 |[],k=>by simp
 |x::l,0=>Nat.zero_le _
 |x::l,k+1=>by
  rw[List.take_succ_cons]
  by_cases h0:l=[]
  ·subst h0;simp[Zk]
  ·rw[join_cons x h0]
   by_cases h1:l.take k=[]
   ·rw[h1];simp only[Zk,List.length_append,List.length_cons];omega
   ·have:=Mt l k
    rw[join_cons x h1];simp only[List.length_append,List.length_cons];omega
theorem fit_takeE {l:List Stp}{k:Nat}(h:k<l.length):(!(l.take (k+1)).all Gx)=(!(l.take k).all Gx||!Gx (l[k]'h)):=by
 rw[List.take_succ_eq_append_getElem h,List.all_append,Bool.not_and]
 simp
def prV (o:Option Str):Value:=match o with
 |some t=>.tuple #[.string ⟨t.toArray⟩,.int .i64 0]
 |none=>.tuple #[.string ⟨#[]⟩,.int .i64 3]
def Zqq (l:List Stp)(k:Nat):Bool:=decide ((64:Int)<(l.length:Int))||!(l.take k).all Gx
theorem lngL_step {l:List Stp}{k:Nat}(h:k<l.length):Zqq l (k+1)=(Zqq l k||!Gx (l[k]'h)):=by
 unfold Zqq;rw[fit_takeE h,Bool.or_assoc]
theorem prV_eq {l:List Stp}(hm:l.all Kr=true):prV (Zw l)=if(Zqq l l.length||decide ((512:Int)<((Zk l).length:Int)))=true then .tuple #[.string ⟨#[]⟩,.int .i64 3]else .tuple #[.string ⟨(Zk l).toArray⟩,.int .i64 0]:=by
 unfold Zw Zqq;rw[List.take_length,hm]
 by_cases h1:l.all Gx=true
 ·rw[h1]
  by_cases h2:l.length≤64
  ·by_cases h3:(Zk l).length≤512
   ·rw[decide_eq_true h2,decide_eq_true h3,decide_eq_false (show ¬(64:Int)<(l.length:Int)by omega),decide_eq_false (show ¬(512:Int)<((Zk l).length:Int)by omega)];rfl
   ·rw[decide_eq_true h2,decide_eq_false h3,decide_eq_false (show ¬(64:Int)<(l.length:Int)by omega),decide_eq_true (show(512:Int)<((Zk l).length:Int)by omega)];rfl
  ·rw[decide_eq_false h2,decide_eq_true (show(64:Int)<(l.length:Int)by omega)];rfl
 ·have h1':l.all Gx=false:=by simpa using h1
  rw[h1']
  by_cases h2:(64:Int)<(l.length:Int)
  ·rw[decide_eq_true h2];rfl
  ·rw[decide_eq_false h2];rfl
theorem Qqj {l:List Stp}{k:Nat}(h:k<l.length):(Qp (l[k]'h)).length≤(Zk l).length:=by
 have h1:=Zyx h;have h2:=Mt l (k+1)
 by_cases hk:k=0
 ·rw[if_pos hk]at h1;rw[←h1];exact h2
 ·rw[if_neg hk]at h1
  have:=congrArg List.length h1
  simp only[List.length_append,List.length_cons]at this
  omega
theorem Qyh (w:World)(v:Value)(l:List Stp)(hr:Mr w v l)(hm:l.all Kr=true)(hz:(Zk l).length≤140737488355328) :
  Calls Tryz.prog 35 #[v] w fun e w'=>e=.returned (prV (Zw l))∧Below w.heap.size w w':=by
 have HPV:=hid (prV_eq hm)
 obtain⟨a1,c1,rfl,hcap,h63,hcell⟩:=hr.cells
 have HCELL:=hid hcell;have HM:=hid (fun x hx=>List.all_eq_true.1 hm x hx);have HZ:=hid hz;clear hr hcell hm hz;have HL0:=hid (show decide ((64:Int)<(l.length:Int))=Zqq l 0 by unfold Zqq;simp)
 go_enter Tryz.func35,Tryz.ntmps35
 go_upto_region 3 with fail;rw[HL0.out];go_upto_region 4 with fail
 go_loopg[4,5,15] l.length (fun g v4 v5 v15 W=>∃k:Nat,k≤l.length∧l.length≤k+g∧v4=.bool (Zqq l k)∧v5=.string ⟨(Zk (l.take k)).toArray⟩∧v15=.int .i64 k∧Below w.heap.size w W)
 case atStart=>exact⟨0,Nat.zero_le _,by omega,rfl,rfl,rfl,Below.refl _ _⟩
 case round =>
  obtain⟨k,hk,hg,rfl,rfl,rfl,bb⟩:=hrel
  rename World=>w4
  have HG:=hid hg;have B4:=hid bb;clear hg bb
  by_cases hlt:k<l.length
  ·have hni:(k:Int)<(l.length:Int):=by omega
   have hn0:(0:Int)≤(k:Int):=by omega
   obtain⟨p,o,kv,rfl,hp,q0,q1,hkeys⟩:=HCELL.out k hlt
   have r0:=(B4.out.cell (p:=⟨p,o+k * 2,none⟩) hp).trans q0;have r1:=(B4.out.cell (p:=⟨p,o+k * 2+1,none⟩) hp).trans q1;have hp2:p<w4.heap.size:=Nat.lt_of_lt_of_le hp B4.out.size;have HKS:=hid (hkeys.below B4.out);have HJT:=hid (Zyx hlt);have HLS:=hid (lngL_step hlt);have HTL:=hid (Nat.le_trans (Qqj hlt) HZ.out);have HJL:=hid (Nat.le_trans (Mt l (k+1)) HZ.out);have HMX:=hid (HM.out _ (List.getElem_mem hlt));clear q0 q1;generalize l[k]'hlt=x at *
   obtain⟨nm,ks⟩:=x
   obtain⟨az,cz,rfl,_⟩:=Xm hkeys
   simp only at r0 r1 HKS;clear hkeys;have HA5:=hid (bal w4 (.cells #[.string ⟨nm.toArray⟩,.slice az ks.length cz] 82));have F5:=hid (heap_alloc_new w4 (.cells #[.string ⟨nm.toArray⟩,.slice az ks.length cz] 82));go_upto_region 6 with fail;generalize w4.alloc (.cells #[.string ⟨nm.toArray⟩,.slice az ks.length cz] 82)=w5 at *
   obtain⟨y0,y1,_,_,yl⟩:=Qq F5.out
   have B5:=hid (B4.out.then HA5.out);have RK5:=hid (HKS.out.below HA5.out);clear HA5 HKS B4 r0 r1 hp2;have MY:=hid (rmay_any w5 (nm,ks) (.slice az ks.length cz) RK5.out HMX.out HTL.out);go_wp2_with fail;refine MY.out.mono ?_;rintro e w6 ⟨rfl,hb6⟩;have F6:=hid (bk hb6 F5.out);have B6:=hid (B5.out.then hb6);have RK6:=hid (RK5.out.below hb6);clear hb6 y0 y1 yl F5 B5 RK5 MY
   obtain⟨y0,y1,_,_,yl⟩:=Qq F6.out
   have TX:=hid (rtext_any w6 (nm,ks) (.slice az ks.length cz) RK6.out HTL.out);generalize htx:Qp (nm,ks)=tx at *;generalize (!Gx (nm,ks))=nf at *;generalize hjt:Zk (l.take k)=jt at *;generalize Zqq l k=lg at *
   by_cases hk0:k=0
   ·subst hk0;have HJ2:=hid (show jt=[]by rw[←hjt];rfl);have HJ3:=HJT.out;rw[if_pos rfl]at HJ3;have HJ4:=hid HJ3;clear HJ3 hjt;have hjl:(tx.length:Int)≤140737488355328:=by have:=HTL.out;omega
    obtain rfl:=HJ2.out
    cases lg <;> cases nf
    all_goals
     go_wp2_with (go_at_call 80;refine TX.out.mono ?_;rintro e w7 ⟨rfl,hb7⟩;have B7:=hid (B6.out.then hb7);clear hb7)
     go_roundg (gk-1)
    all_goals first
     |(have:=HG.out;omega)
     |exact⟨0+1,by omega,by have:=HG.out;omega,by rw[HLS.out];rfl,by rw[HJ4.out];simp[cat2],by simp,B7.out⟩
   ·have hk1:(0:Int)<(k:Int):=by omega
    have HJ3:=HJT.out;rw[if_neg hk0]at HJ3;have HJ4:=hid HJ3;have hjl:(jt.length:Int)+1+(tx.length:Int)≤140737488355328:=by
     have:=HJL.out
     rw[HJ3]at this;simp only[List.length_append,List.length_cons]at this
     omega
    clear HJ3 hjt hk0
    cases lg <;> cases nf
    all_goals
     go_wp2_with (go_at_call 80;refine TX.out.mono ?_;rintro e w7 ⟨rfl,hb7⟩;have B7:=hid (B6.out.then hb7);clear hb7)
     go_roundg (gk-1)
    all_goals first
     |(have:=HG.out;omega)
     |exact⟨k+1,by omega,by have:=HG.out;omega,by rw[HLS.out];rfl,by rw[HJ4.out];simp[cat2],by simp,B7.out⟩
  ·have hni:¬(k:Int)<(l.length:Int):=by omega
   have hkn:k=l.length:=by omega
   subst hkn;have HTA:=hid (show Zk (l.take l.length)=Zk l by rw[List.take_length]);have HPV2:=HPV.out;generalize hq:prV (Zw l)=q at *;have HZ2:=hid HZ.out;rw[HTA.out];have hjz:((Zk l).length:Int)≤140737488355328:=by have:=HZ.out;omega
   generalize Zk l=jt at *;generalize Zqq l l.length=lg at *
   cases lg with
   |true =>
    have HPQ:=hid (show q=.tuple #[.string ⟨#[]⟩,.int .i64 3]by rw[HPV2];rfl);clear HPV2 HPV;go_wp2_with fail;exact bodyPost_ret (v:=.tuple #[.string ⟨#[]⟩,.int .i64 3]) (by simp[results,Tryz.results35,go_sem]) rfl ⟨by rw[HPQ.out],B4.out⟩
   |false =>
    by_cases h5:(512:Int)<(jt.length:Int)
    ·have HPQ:=hid (show q=.tuple #[.string ⟨#[]⟩,.int .i64 3]by rw[HPV2,decide_eq_true h5];rfl);clear HPV2 HPV;go_wp2_with fail;exact bodyPost_ret (v:=.tuple #[.string ⟨#[]⟩,.int .i64 3]) (by simp[results,Tryz.results35,go_sem]) rfl ⟨by rw[HPQ.out],B4.out⟩
    ·have HPQ:=hid (show q=.tuple #[.string ⟨jt.toArray⟩,.int .i64 0]by rw[HPV2,decide_eq_false h5];rfl);clear HPV2 HPV;go_wp2_with fail;exact bodyPost_ret (v:=.tuple #[.string ⟨jt.toArray⟩,.int .i64 0]) (by simp[results,Tryz.results35,go_sem]) rfl ⟨by rw[HPQ.out],B4.out⟩
end
section
open Go.RowKit Go.Lib Go.Sort Go.Maps Go.WideMaps Go.Shelf
theorem Xfv (pt:Option Addr)(loc path:Str)(w:World) :
  Calls Tryz.prog 98 #[.pointer pt,.string ⟨loc.toArray⟩,.string ⟨path.toArray⟩] w fun e w'=>e=.returned (.func (.func 158) #[] #[.pointer (some ⟨w.heap.size,0,none⟩),.pointer (some ⟨w.heap.size+1,0,none⟩),.pointer (some ⟨w.heap.size+1+1,0,none⟩)])∧
   w'=((w.alloc (.cells #[.pointer pt] 46)).alloc (.cells #[.string ⟨loc.toArray⟩] 9)).alloc (.cells #[.string ⟨path.toArray⟩] 9):=by
 go_enter Tryz.func98,Tryz.ntmps98
 go_wp2_with fail;exact bodyPost_ret (v:=.func (.func 158) #[] #[.pointer (some ⟨w.heap.size,0,none⟩),.pointer (some ⟨w.heap.size+1,0,none⟩),.pointer (some ⟨w.heap.size+1+1,0,none⟩)]) (by simp[results,Tryz.results98,go_sem]) rfl ⟨rfl,rfl⟩
end
section
open Go.RowKit Go.Lib Go.Sort
theorem Zqz (x y:Str×Str)(W:World):Calls Tryz.prog 104 #[.agg #[S x.1,S x.2],.agg #[S y.1,S y.2]] W fun e w'=>e=.returned (.int .i64 (Lib.compareBytes x.1 y.1))∧∃q os',w'=grow (W.drewN q) os':=by
 have hcon:=fun W'=>Tryz.strings_Compare ⟨x.1.toArray⟩ ⟨y.1.toArray⟩ W'
 change ∀W',Calls _ _ _ _ fun e w'=>e=.returned (.int .i64 (Lib.compareBytes x.1 y.1))∧_ at hcon
 generalize Lib.compareBytes x.1 y.1=r at hcon ⊢;unfold S
 go_enter Tryz.func104,Tryz.ntmps104
 go_wp2_with (go_at_call 105;refine(hcon _).mono ?_;rintro e w' ⟨rfl,rfl⟩)
 go_ret
 exact⟨rfl,0,_,by rw[alloc_eq_grow,alloc_eq_grow,grow_grow];rfl⟩
theorem cmpLays12 (blk off size:Nat)(w:World):CmpLays Tryz.prog 104 #[] Kt 2 Lf blk off size w :=
 fun _ _ _ _ x y=>Zqz x y _
theorem Xzx (w:World)(B:Nat)(v:Value)(l:List (Str×Str))(h:Qd w B v l)(hl:l.length≤1000) :
  Calls Tryz.prog 103 #[v,.func (.func 104) #[] #[]] w fun e w'=>e=.returned (.tuple #[])∧
   (∃l':List (Str×Str),l'.Perm l∧l'.Pairwise (fun a b=>¬b.1<a.1)∧Qd w' B v l')∧w.grownBy w' v.ownBlock:=by
 have eg:∀args w,(callFunc 104 args).run Tryz.prog w=.ok (.enter 104 args) w:=enters_of Tryz.func104 (by kernel_rfl) rfl
 rcases h.shape with ⟨rfl,rfl⟩|⟨g,cap,cur,rfl,hB,hg,hn,hm,hs,ht⟩
 ·have hc:=AnyF.slices_SortFunc_none Tryz.sfPair none 0 (.func (.func 104) #[] #[]) w;change Calls Tryz.prog 103 _ _ _ at hc;refine hc.mono ?_;rintro e w' ⟨rfl,rfl⟩
  exact⟨rfl,⟨[],List.Perm.refl _,List.Pairwise.nil,h⟩,World.grownBy.refl _ _⟩
 ·have hc:=AnyQ.slices_SortFunc Tryz.sfPair 2 Tryz.isAgg37 Tryz.sizeOf37 Kt (fun _=>rfl) (fun x v hv=>by simp[Kt]at hv;rcases hv with rfl|rfl <;> rfl) Lf swo 104 #[] g 0 cap l.toArray w eg (cmpLays12 g 0 _ w) (Tp hg ht) (lt_of_block hg) (by simp;omega);change Calls Tryz.prog 103 _ _ _ at hc;refine hc.mono fun e w' hh=>⟨hh.1,?_⟩
  obtain⟨d',n,os,hp,hsd,rfl⟩:=hh.2
  have hsz:d'.size=l.length:=by simpa using hp.1
  have hperm:d'.toList.Perm l:=by
   have:=hp.2.2
   simp only[List.size_toArray]at this;rw[←hsz]at this;have ht':List.take l.length d'.toList=d'.toList:=List.take_of_length_le (by simp[hsz])
   simpa[hsz,ht']using this
  refine⟨⟨d'.toList,hperm,?_,?_⟩,?_⟩
  ·rw[List.pairwise_iff_getElem];intro i j hi hj hij
   have:=hsd i j (Nat.zero_le _) hij (by simp at hj ⊢;omega)
   rw[getElem!_pos _ i (by simpa using hi),getElem!_pos _ j (by simpa using hj)]at this;intro hlt;have h2:ltOf Lf d'[j] d'[i]=true:=by
    show decide (Lib.compareBytes _ _<0)=true;exact decide_eq_true ((Zzk _ _).2 (by simpa using hlt))
   rw[this]at h2;cases h2
  ·have hlen:d'.toList.length=l.length:=hperm.length_eq
   refine⟨Kn _,Or.inr ⟨g,cap,putCells id 0 (flatK Kt 2 d') cur,by rw[hlen],hB,?_,by omega,hm,by simpa[putCells]using hs,?_⟩⟩
   ·unfold sortWorldK putRowK;rw[heap_grow_old _ _ (by simpa using lt_of_block hg)]
    simp[putRow,mapBlock,Sort.ahead,Array.getElem?_modify,hg,onCells]
   ·have:=Fw cur d'.toList (by rw[hlen,hs];omega)
    simpa using this
  ·refine⟨rfl,rfl,rfl,by simp[sortWorldK,putRowK],fun k hk hne=>?_⟩
   unfold sortWorldK putRowK;rw[heap_grow_old _ _ (by simpa using hk)]
   have:g≠k:=fun e=>hne (by rw[e];rfl)
   simp[putRow,mapBlock,Sort.ahead,Array.getElem?_modify,this]
end
end Go.Proofs.YtbbmdbolkicpcabGreatDoor
