/- PtStep, PtParseA, PtText, DressP, ListP, ListQ, CanonA, CanonB -/
import Derived.Test.YtbbmdbolkicpcabGreatDoorSDG04
import Derived.Test.YtbbmdbolkicpcabGreatDoorSDG05
import Derived.Test.YtbbmdbolkicpcabGreatDoorSDG02
import Derived.WalkMore
import Derived.Deep.LoopGhost
import Derived.Deep.CutBlock
import Derived.Test.YtbbmdbolkicpcabGreatDoorSDG01
set_option maxRecDepth 100000
set_option maxHeartbeats 32000000
set_option linter.unusedVariables false
set_option linter.unusedSimpArgs false
namespace Go.Proofs.YtbbmdbolkicpcabGreatDoor
section
open Go.RowKit Go.Lib
theorem Zjj (Br:Nat)(b:ByteArray)(p:Nat)(w:World)(h:PRd w Br b p 0 0)(hp:p≤b.size)(hb:b.size≤1000) :
  Calls Tryz.prog 144 #[.pointer (some ⟨Br,0,none⟩)] w fun x w'=>∃(n:Str) (ok:Bool),x=.returned (.tuple #[.string ⟨n.toArray⟩,.bool ok])∧Qf Br w w' ∧
   ((ok=true∧∃q,Jh (b.data.toList.drop p)=some (n,b.data.toList.drop q)∧PRd w' Br b q 0 0∧q≤b.size∧p≤q)∨(ok=false∧Jh (b.data.toList.drop p)=none∧∃q e a,e≠0∧PRd w' Br b q e a)):=by
 refine(pname_any Br b p w h hp hb).mono fun x w' hr=>?_
 rcases hr with ⟨n,r,q,h1,h2,h3,h4,h5,h6,h7⟩|⟨h1,h2,h3,h4⟩
 ·exact⟨n,true,h2,h7,Or.inl ⟨rfl,q,by rw[h1,h6],h3,h4,h5⟩⟩
 ·exact⟨[],false,h2,h4,Or.inr ⟨rfl,h1,h3⟩⟩
theorem name_q {b:ByteArray}{p q:Nat}{n:Str}(h:Jh (b.data.toList.drop p)=some (n,b.data.toList.drop q))(hq:q≤b.size)(hp:p≤b.size):p<q:=by
 obtain⟨e,h0,_⟩:=Dj h
 have:=congrArg List.length e
 rw[List.length_append,List.length_drop,List.length_drop,←Lib.size_eq]at this
 omega
theorem Qxx (c:UInt8)(Br:Nat)(b:ByteArray)(p:Nat)(w:World)(h:PRd w Br b p 0 0)(hp:p≤b.size)(hb:b.size≤1000) :
  Calls Tryz.prog 84 #[.pointer (some ⟨Br,0,none⟩),.int .u8 (c.toNat:Int)] w fun x w'=>Qf Br w w' ∧
   ∃ok:Bool,x=.returned (.bool ok)∧((ok=false∧Xx c (b.data.toList.drop p)=none∧PRd w' Br b p 0 0)∨(ok=true∧Xx c (b.data.toList.drop p)=some (b.data.toList.drop (p+1))∧p<b.size∧PRd w' Br b (p+1) 0 0)):=by
 refine(pnext_any Br b p 0 0 c w h hp hb).mono fun x w' hr=>?_
 obtain⟨h1,h2,h3⟩:=hr
 refine⟨h3,_,h1,?_⟩
 cases htb:Xx c (b.data.toList.drop p) with
 |none=>rw[htb]at h2;exact Or.inl ⟨rfl,rfl,h2⟩
 |some r =>
  rw[htb]at h2;have hlt:p<b.size:=by
   rcases Nat.lt_or_ge p b.size with h|h
   ·exact h
   ·rw[Tm b p c (by omega)]at htb;cases htb
  refine Or.inr ⟨rfl,?_,hlt,h2⟩;rw[Ly b p c hlt]at htb
  split at htb
  ·exact htb.symm
  ·cases htb
theorem Xvw (Br:Nat)(b:ByteArray)(p:Nat)(w:World)(h:PRd w Br b p 0 0)(hp:p≤b.size)(hb:b.size≤1000)(hu:Zq (b.data.toList.drop p)=true) :
  Calls Tryz.prog 145 #[.pointer (some ⟨Br,0,none⟩)] w fun x w'=>∃(v:Str) (ok:Bool),x=.returned (.tuple #[.string ⟨v.toArray⟩,.bool ok])∧Qf Br w w' ∧
   ((ok=true∧∃q,Qw false [] (b.data.toList.drop p)=some (v,b.data.toList.drop q)∧PRd w' Br b q 0 0∧q≤b.size∧p≤q∧Zq (b.data.toList.drop q)=true)∨(ok=false∧Qw false [] (b.data.toList.drop p)=none∧∃q e a,e≠0∧PRd w' Br b q e a)):=by
 refine(Xvz Br b p w h hp hb hu).mono fun x w' hr=>?_
 rcases hr with ⟨n,r,q,h1,h2,h3,h4,h5,h6,h7,h8⟩|⟨h1,h2,h3,h4⟩
 ·exact⟨n,true,h2,h8,Or.inl ⟨rfl,q,by rw[h1,h6],h3,h4,h5,by rw[←h6];exact h7⟩⟩
 ·exact⟨[],false,h2,h4,Or.inr ⟨rfl,h1,h3⟩⟩
def KeySt (w:World) (Br Sb:Nat) (b:ByteArray) (p:Nat) (n:Str) (g:Nat) (v5:Value) (W:World):Prop :=
  ∃(ok:Bool) (kv:Value) (ks:List (Str × Str)),v5=.bool ok∧SSt w Br Sb n W kv ks ∧
    ((ok=true∧∃q,PRd W Br b q 0 0∧p < q∧q≤b.size∧Zq (b.data.toList.drop q)=true∧Xs (b.data.toList.drop p)=(Ck ks (b.data.toList.drop q)).map (fun z => ((n,z.1),z.2))∧ks.length≤q∧b.size + 2≤q + g) ∨
     (ok=false∧Xs (b.data.toList.drop p)=none∧∃q e a,e≠0∧PRd W Br b q e a))
theorem Sy {P:Program}{c d:Code}{Q:Exit→Act→World→Prop}{a:Act}{w:World}(h:c.wp P Q a w)(e:some (Code.seq .skip c)=some (Code.seq .skip d)):d.wp P Q a w:=by
 injection e with e
 injection e with _ e
 exact e▸h
theorem Fd {P:Program}{c:Code}{Q:Exit→Act→World→Prop}{a:Act}{w:World}(h:c.wp P Q a w):(Code.seq .skip c).wp P Q a w:=by
 go_wp2_with fail;exact h
theorem Zjk (n:Nat)(l:List Value)(h:l.length=n):l=(List.range n).map fun i=>l.getD i undef:=by
 apply List.ext_getElem?
 intro i
 by_cases hi:i<n
 ·simp[hi,h]
 ·rw[List.getElem?_eq_none (by omega),List.getElem?_eq_none (by simp;omega)]
theorem Xvy (t:Array Value)(h:t.size=83):∃u:Nat→Value,(∀i,t.getD i undef=u i)∧t=#[u 0,u 1,u 2,u 3,u 4,u 5,u 6,u 7,u 8,u 9,u 10,u 11,u 12,u 13,u 14,u 15,u 16,u 17,u 18,u 19,u 20,u 21,u 22,u 23,u 24,u 25,u 26,u 27,u 28,u 29,u 30,u 31,u 32,u 33,u 34,u 35,u 36,u 37,u 38,u 39,u 40,u 41,u 42,u 43,u 44,u 45,u 46,u 47,u 48,u 49,u 50,u 51,u 52,u 53,u 54,u 55,u 56,u 57,u 58,u 59,u 60,u 61,u 62,u 63,u 64,u 65,u 66,u 67,u 68,u 69,u 70,u 71,u 72,u 73,u 74,u 75,u 76,u 77,u 78,u 79,u 80,u 81,u 82]:=by
 refine⟨fun i=>t.getD i undef,fun _=>rfl,?_⟩
 have e:=Zjk 83 t.toList (by simpa using h);have e2:t=⟨(List.range 83).map fun i=>t.toList.getD i undef⟩:=by
  rw[←e]
 have e3:∀i,t.toList.getD i undef=t.getD i undef:=fun i=>by simp[Array.getD_eq_getD_getElem?]
 simp only[e3]at e2;exact e2
structure FrS (Br Rb Sb:Nat)(v5:Value)(a:Act):Prop where
 d:a.defers=[]
 n:a.tmps.size=83
 s0:a.tmps.getD 0 undef=.pointer (some ⟨Br,0,none⟩)
 s2:a.tmps.getD 2 undef=.pointer (some ⟨Rb,0,none⟩)
 s5:a.tmps.getD 5 undef=v5
 s6:a.tmps.getD 6 undef=.pointer (some ⟨Sb,0,none⟩)
theorem FrS.lit {Br Rb Sb:Nat}{v5:Value}{a:Act}(h:FrS Br Rb Sb v5 a):∃u:Nat→Value,a={ tmps:=#[.pointer (some ⟨Br,0,none⟩),u 1,.pointer (some ⟨Rb,0,none⟩),u 3,u 4,v5,.pointer (some ⟨Sb,0,none⟩),u 7,u 8,u 9,u 10,u 11,u 12,u 13,u 14,u 15,u 16,u 17,u 18,u 19,u 20,u 21,u 22,u 23,u 24,u 25,u 26,u 27,u 28,u 29,u 30,u 31,u 32,u 33,u 34,u 35,u 36,u 37,u 38,u 39,u 40,u 41,u 42,u 43,u 44,u 45,u 46,u 47,u 48,u 49,u 50,u 51,u 52,u 53,u 54,u 55,u 56,u 57,u 58,u 59,u 60,u 61,u 62,u 63,u 64,u 65,u 66,u 67,u 68,u 69,u 70,u 71,u 72,u 73,u 74,u 75,u 76,u 77,u 78,u 79,u 80,u 81,u 82],defers:=[] }:=by
 obtain⟨t,d⟩:=a
 obtain⟨hd,hn,h0,h2,h5,h6⟩:=h
 simp only at hd hn h0 h2 h5 h6
 obtain⟨u,hu,e⟩:=Xvy t hn
 rw[hu]at h0 h2 h5 h6
 refine⟨u,?_⟩
 rw[h0,h2,h5,h6]at e;rw[e,hd]
def JS (w:World)(Br:Nat)(b:ByteArray)(p:Nat):Nat→Nat→Act→World→Prop
 |0,n,a,W=>∃Sb nm v5,FrS Br w.heap.size Sb v5 a∧KeySt w Br Sb b p nm n v5 W
 |_,_,_,_=>False
def Ex (f:Func)(l:Nat):Option Code:=f.body.bind fun c=>match c with | .seq _ (.scope c)=>findLabel c l|_=>none
theorem Wv {W:World}{B g c:Nat}{ks:List (Str×Str)}(h:Qd W B (.slice (some ⟨g,0,none⟩) ks.length c) ks)(hne:ks≠[]):∃k0,(∀k,Vx ks k=decide (k≤k0))∧W.cell? ⟨g,(ks.length-1) * 2,none⟩=some (.string ⟨k0.toArray⟩):=by
 have hl:0<ks.length:=List.length_pos_iff.2 hne
 refine⟨(ks[ks.length-1]'(by omega)).1,fun k=>?_,?_⟩
 ·unfold Vx;rw[List.getLast?_eq_getElem?,List.getElem?_eq_getElem (by omega)]
 ·rcases h.shape with ⟨e,_⟩|⟨g',cap,cur,e,hB,hg,hn,hm,hs,ht⟩
  ·cases e
  ·cases e
   have:=Cz ks (ks.length-1) 0 (by omega) (by decide)
   rw[Nat.add_zero]at this;exact Yg hg ht _ _ (by rw[this];rfl)
theorem step_run (w:World)(Br:Nat)(b:ByteArray)(p:Nat)(hp:p≤b.size)(hb:b.size≤512):∃rest,Ex Tryz.f83 0=some (.seq .skip rest)∧∀n a W,JS w Br b p 0 n a W→∀Jx:Nat→Act→World→Prop,(∀n' a' w',n'<n→JS w Br b p 0 n' a' w'→Jx 0 a' w') →
  rest.wp Tryz.prog (Exit.jumps Jx (bodyPost Tryz.prog Tryz.f83 (fun x w'=>Xcj Br b p w x w'))) a W:=by
 refine⟨_,rfl,?_⟩
 intro g a W hJ Jx hJx
 obtain⟨Sb,n,v5,hfr,ok,kv,ks,rfl,st,hst⟩:=hJ
 obtain⟨u,rfl⟩:=hfr.lit
 have HX:=hid hJx;have ST:=hid st;have HK:=hid hst;have NM:=hid (fun q W (h:PRd W Br b q 0 0) (hq:q≤b.size)=>Zjj Br b q W h hq (by omega));have NX1:=hid (fun q W (h:PRd W Br b q 0 0) (hq:q≤b.size)=>(show Calls Tryz.prog 84 #[.pointer (some ⟨Br,0,none⟩),.int .u8 91] W _ from Qxx 91 Br b q W h hq (by omega)));have NX2:=hid (fun q W (h:PRd W Br b q 0 0) (hq:q≤b.size)=>(show Calls Tryz.prog 84 #[.pointer (some ⟨Br,0,none⟩),.int .u8 61] W _ from Qxx 61 Br b q W h hq (by omega)));have VL:=hid (fun q W (h:PRd W Br b q 0 0) (hq:q≤b.size) (hu:Zq (b.data.toList.drop q)=true)=>Xvw Br b q W h hq (by omega) hu);have FA:=hid (fun q er ea e a W (h:PRd W Br b q er ea)=>Tc Br b q er ea e a W h);clear hfr hJx st hst
 obtain⟨ak,ck,rfl⟩:=Zx ST.out.own
 obtain⟨s0,s1,sf0,sf1,slt⟩:=Qq ST.out.sb
 obtain⟨r0,r1,rf0,rf1,rlt⟩:=Qq ST.out.rb
 cases ok with
 |false =>
  obtain⟨hno,q,er,ea,hne,hrd⟩:Xs (b.data.toList.drop p)=none∧∃q e a,e≠0∧PRd W Br b q e a:=by
   rcases HK.out with ⟨h,_⟩|⟨_,h⟩
   ·cases h
   ·exact h
  have HNO:=hid hno;have HRD:=hid hrd;have HNE:=hid hne;clear hno hrd hne HK;go_wp2_with fail;simp only[Exit.jumps];change bodyPost _ _ _ _ _ (P2 W w.heap.size (.string ⟨n.toArray⟩) (.slice ak ks.length ck));exact Sv ST.out.rb rfl rfl rfl (Or.inr ⟨HNO.out,⟨_,_,_,_,rfl⟩,⟨q,er,ea,HNE.out,ST.out.rd2 HRD.out _ _⟩,ST.out.ret _ _⟩)
 |true =>
  obtain⟨q,hrd,hpq,hqb,huq,hke,hks,hg⟩:∃q,PRd W Br b q 0 0∧p<q∧q≤b.size∧Zq (b.data.toList.drop q)=true∧Xs (b.data.toList.drop p)=(Ck ks (b.data.toList.drop q)).map (fun z=>((n,z.1),z.2))∧ks.length≤q∧b.size+2≤q+g:=by
   rcases HK.out with ⟨_,h⟩|⟨h,_⟩
   ·exact h
   ·cases h
  have HRD:=hid hrd;have HUQ:=hid huq;have HKE:=hid hke;have HKS:=hid hks;have HG:=hid hg;have HPQ:=hid hpq;have HQB:=hid hqb;clear hrd huq hke hks hg HK hpq hqb;go_wp2_with fail
  refine(NX1.out q W HRD.out HQB.out).mono ?_
  rintro e W2 ⟨o2,okx,rfl,hx⟩;have ST2:=hid (ST.out.step o2);clear s0 s1 sf0 sf1 slt r0 r1 rf0 rf1 rlt o2 ST HRD
  obtain⟨s0,s1,sf0,sf1,slt⟩:=Qq ST2.out.sb
  obtain⟨r0,r1,rf0,rf1,rlt⟩:=Qq ST2.out.rb
  cases okx with
  |false =>
   obtain⟨htb,hrd⟩:Xx 91 (b.data.toList.drop q)=none∧PRd W2 Br b q 0 0:=by
    rcases hx with ⟨_,h1,h2⟩|⟨h,_⟩
    ·exact⟨h1,h2⟩
    ·cases h
   have HE:=hid (show Xs (b.data.toList.drop p)=some ((n,ks),b.data.toList.drop q)by rw[HKE.out,Lr,htb];rfl);have HRD:=hid hrd;clear hx htb hrd;go_wp2_with fail;simp only[Exit.jumps];change bodyPost _ _ _ _ _ (P2 W2 w.heap.size (.string ⟨n.toArray⟩) (.slice ak ks.length ck));exact Sv ST2.out.rb rfl rfl rfl (Or.inl ⟨(n,ks),_,q,_,HE.out,rfl,ST2.out.own2 _ _,ST2.out.rd2 HRD.out _ _,HQB.out,HPQ.out,rfl,HUQ.out,ST2.out.ret _ _⟩)
  |true =>
   obtain⟨htb,hql,hrd⟩:Xx 91 (b.data.toList.drop q)=some (b.data.toList.drop (q+1))∧q<b.size∧PRd W2 Br b (q+1) 0 0:=by
    rcases hx with ⟨h,_⟩|⟨_,h1,h2,h3⟩
    ·cases h
    ·exact⟨h1,h2,h3⟩
   have HU1:=hid (Hf (by decide) htb HUQ.out);have HE1:=hid (show Ck ks (b.data.toList.drop q)=match Mf ks (b.data.toList.drop (q+1)) with
    |none=>none
    |some (p,r3)=>Ck (ks++[p]) r3 by rw[Lr,htb] <;> rfl)
   have HRD:=hid hrd;have HQL:=hid hql;clear hx htb hrd hql
   obtain⟨c0,c1,c2,c3,f1,f2,f3,lt⟩:=HRD.out.cells
   have FK:=hid (heap_alloc_new W2 (.cells #[.string ⟨#[]⟩,.string ⟨#[]⟩] 37));have hb3:Below W2.heap.size W2 (W2.alloc (.cells #[.string ⟨#[]⟩,.string ⟨#[]⟩] 37)):=bal _ _;have ST3:=hid (ST2.out.below hb3);have HR3:=hid (HRD.out.below hb3);have HNK:=hid (show(Value.slice ak ks.length ck).ownBlock≠some W2.heap.size from fun e=>by have:=(World.ownsRow.lt ST2.out.own _ e).2;omega);have HSK:=hid (show Sb<W2.heap.size from slt);clear hb3;go_upto_region 7 with fail;generalize W2.alloc (.cells #[.string ⟨#[]⟩,.string ⟨#[]⟩] 37)=W3 at *;clear s0 s1 sf0 sf1 slt r0 r1 rf0 rf1 rlt c0 c1 c2 c3 f1 f2 f3 lt ST2 HRD;generalize W2.heap.size=kb at *;go_wp2_with fail
   refine(NM.out (q+1) W3 HR3.out HQL.out).mono ?_
   rintro e W4 ⟨k,okn,rfl,o4,hr4⟩;have ST4:=hid (ST3.out.step o4);have FK4:=hid ((o4.block kb (lt_of_block FK.out) (by have:=ST3.out.br;have:=ST3.out.lt;have:=HSK.out;simp;omega)).trans FK.out);have HR4:=hid hr4;clear o4 hr4 ST3 HR3 FK
   obtain⟨k0,k1,kf0,kf1,klt⟩:=Qq FK4.out
   have ST5:=hid (ST4.out.set HSK.out HNK.out 0 (.string ⟨k.toArray⟩));have FK5:=hid (show(W4.setCell ⟨kb,0,none⟩ (.string ⟨k.toArray⟩)).heap[kb]?=some (.cells #[.string ⟨k.toArray⟩,.string ⟨#[]⟩] 37 (0,0))from by rw[heap_setCell_same _ _ _ _ _ _ FK4.out];simp);have HRP:=hid (fun q e a (h:PRd W4 Br b q e a)=>(show PRd (W4.setCell ⟨kb,0,none⟩ (.string ⟨k.toArray⟩)) Br b q e a from(heap_setCell_other _ _ _ _ (by have:=ST4.out.br;have:=ST4.out.lt;have:=HSK.out;simp;omega)).trans h));go_upto_region 8 with fail;generalize W4.setCell ⟨kb,0,none⟩ (.string ⟨k.toArray⟩)=W5 at *;clear k0 k1 kf0 kf1 klt FK4
   obtain⟨s0,s1,sf0,sf1,slt⟩:=Qq ST5.out.sb
   obtain⟨r0,r1,rf0,rf1,rlt⟩:=Qq ST5.out.rb
   cases okn with
   |false =>
    obtain⟨hnn,q2,er,ea,hne,hrd⟩:Jh (b.data.toList.drop (q+1))=none∧∃q e a,e≠0∧PRd W4 Br b q e a:=by
     rcases HR4.out with ⟨h,_⟩|⟨_,h⟩
     ·cases h
     ·exact h
    have HNO:=hid (show Xs (b.data.toList.drop p)=none by rw[HKE.out,HE1.out];unfold Mf;rw[hnn];rfl);have HRD:=hid (HRP.out _ _ _ hrd);have HNE:=hid hne;clear hnn hrd hne HR4;go_wp2_with fail;simp only[Exit.jumps];change bodyPost _ _ _ _ _ (P2 W5 w.heap.size (.string ⟨n.toArray⟩) (.slice ak ks.length ck));exact Sv ST5.out.rb rfl rfl rfl (Or.inr ⟨HNO.out,⟨_,_,_,_,rfl⟩,⟨q2,er,ea,HNE.out,ST5.out.rd2 HRD.out _ _⟩,ST5.out.ret _ _⟩)
   |true =>
    obtain⟨q2,hnn,hrd,hq2,hqq⟩:∃q2,Jh (b.data.toList.drop (q+1))=some (k,b.data.toList.drop q2)∧PRd W4 Br b q2 0 0∧q2≤b.size∧q+1≤q2:=by
     rcases HR4.out with ⟨_,h⟩|⟨h,_⟩
     ·exact h
     ·cases h
    have HRD:=hid (HRP.out _ _ _ hrd);have HU2:=hid (Tr hnn HU1.out);have HKP:=hid (show Mf ks (b.data.toList.drop (q+1))=if Vx ks k then none else
      match Xx 61 (b.data.toList.drop q2) with
      |none=>none
      |some r2 =>
       match Qw false [] r2 with
       |none=>none
       |some (v,r3)=>some ((k,v),r3)by unfold Mf;rw[hnn];rfl)
    have HQ2:=hid hq2;have HQQ:=hid hqq;clear hnn hrd hq2 hqq HR4 HRP HU1
    obtain⟨k0,k1,kf0,kf1,klt⟩:=Qq FK5.out
    have hkl:(ks.length:Int)≤600:=by have:=HKS.out;have:=HQB.out;omega
    go_upto_region 11 with fail
    go_cut[55]from 42 to 55 (fun o wx=>o=.bool (Vx ks k)∧∃m,wx=W5.drewN m)
    case first =>
     by_cases hnil:ks=[]
     ·subst hnil
      go_quiet (fail)
      go_wp2_with fail
      go_meet
      exact⟨rfl,nq,rfl⟩
     ·obtain⟨g1,rfl⟩:∃g1,ak=some ⟨g1,0,none⟩:=by
       rcases ST5.out.own.shape with ⟨_,e⟩|⟨g,cap,cur,e,_⟩
       ·exact absurd e hnil
       ·cases e;exact⟨g,rfl⟩
      obtain⟨kl,hkl2,hkc⟩:=Wv ST5.out.own hnil
      have hpos:0<ks.length:=List.length_pos_iff.2 hnil;have HKL:=hid (hkl2 k);have HBL:=hid (Proofs.bytesLess_eq kl k);clear hkl2;generalize hln:ks.length=L at *
      obtain⟨m,rfl⟩:∃m,L=m+1:=⟨L-1,by omega⟩
      rw[Nat.add_sub_cancel]at hkc;have hm1:((m:Int)+1-1)=(m:Int):=by omega
      have hm2:(m:Int)<(m:Int)+1:=by omega
      have hm3:(0:Int)≤(m:Int):=by omega
      have hm4:(m:Int)≤1000:=by omega
      by_cases hlt:kl<k
      ·have hbl:Op.bytesLess kl k=true:=by rw[HBL.out];exact decide_eq_true hlt
       go_quiet (fail)
       go_wp2_with fail
       go_meet
       exact⟨by rw[HKL.out,decide_eq_false (List.not_le.2 hlt)],nq,rfl⟩
      ·have hbl:Op.bytesLess kl k=false:=by rw[HBL.out];exact decide_eq_false hlt
       go_quiet (fail)
       go_wp2_with fail
       go_meet
       exact⟨by rw[HKL.out,decide_eq_true (List.not_lt.1 hlt)],nq,rfl⟩
    case rest =>
     obtain⟨rfl,m5,rfl⟩:=hcut
     have HRD5:=hid (HRD.out.drewN m5);have ST5d:=hid (show SSt w Br Sb n (W5.drewN m5) (.slice ak ks.length ck) ks from ST5.out.below ⟨rfl,rfl,rfl,Nat.le_refl _,fun _ _=>rfl⟩);have FK5d:=hid (show(W5.drewN m5).heap[kb]?=some (.cells #[.string ⟨k.toArray⟩,.string ⟨#[]⟩] 37 (0,0))from FK5.out);clear s0 s1 sf0 sf1 slt r0 r1 rf0 rf1 rlt k0 k1 kf0 kf1 klt ST5 HRD FK5;generalize W5.drewN m5=W6 at *
     obtain⟨s0,s1,sf0,sf1,slt⟩:=Qq ST5d.out.sb
     obtain⟨r0,r1,rf0,rf1,rlt⟩:=Qq ST5d.out.rb
     obtain⟨k0,k1,kf0,kf1,klt⟩:=Qq FK5d.out
     cases hge:Vx ks k with
     |true =>
      have HNO:=hid (show Xs (b.data.toList.drop p)=none by rw[HKE.out,HE1.out,HKP.out,if_pos hge];rfl);clear hge;go_upto_region 12 with fail
      first
       |(go_region_with (first
        |(go_at_call 82;refine(FA.out q2 0 0 160 ((q:Int)+1) _ (by first|exact HRD5.out|exact HRD5.out.drewN _)).mono ?_;rintro e W7 ⟨rfl,h7,o7⟩;have ST7:=hid (SSt.step (by first|exact ST5d.out|exact ST5d.out.below ⟨rfl,rfl,rfl,Nat.le_refl _,fun _ _=>rfl⟩) o7);obtain⟨ss0,ss1,ssf0,ssf1,sslt⟩:=Qq ST7.out.sb;obtain⟨rr0,rr1,rrf0,rrf1,rrlt⟩:=Qq ST7.out.rb)))
       | fail "region"
      all_goals
       go_wp2_with fail;simp only[Exit.jumps];change bodyPost _ _ _ _ _ (P2 _ w.heap.size (.string ⟨n.toArray⟩) (.slice ak ks.length ck));exact Sv ST7.out.rb rfl rfl rfl (Or.inr ⟨HNO.out,⟨_,_,_,_,rfl⟩,⟨q2,160,_,by decide,ST7.out.rd2 h7 _ _⟩,ST7.out.ret _ _⟩)
     |false =>
      have HKP2:=hid (show Mf ks (b.data.toList.drop (q+1))=match Xx 61 (b.data.toList.drop q2) with
       |none=>none
       |some r2 =>
        match Qw false [] r2 with
        |none=>none
        |some (v,r3)=>some ((k,v),r3)by rw[HKP.out,if_neg (by rw[hge];decide)])
      clear hge HKP;go_wp2_with fail
      refine(NX2.out q2 W6 HRD5.out HQ2.out).mono ?_
      rintro e W7 ⟨o7,okx,rfl,hx⟩;have ST7:=hid (ST5d.out.step o7);have FK7:=hid ((o7.block kb (lt_of_block FK5d.out) (by have:=ST5d.out.br;have:=ST5d.out.lt;have:=HSK.out;simp;omega)).trans FK5d.out);clear s0 s1 sf0 sf1 slt r0 r1 rf0 rf1 rlt k0 k1 kf0 kf1 klt o7 ST5d FK5d HRD5
      obtain⟨s0,s1,sf0,sf1,slt⟩:=Qq ST7.out.sb
      obtain⟨r0,r1,rf0,rf1,rlt⟩:=Qq ST7.out.rb
      obtain⟨k0,k1,kf0,kf1,klt⟩:=Qq FK7.out
      cases okx with
      |false =>
       obtain⟨htb,hrd⟩:Xx 61 (b.data.toList.drop q2)=none∧PRd W7 Br b q2 0 0:=by
        rcases hx with ⟨_,h1,h2⟩|⟨h,_⟩
        ·exact⟨h1,h2⟩
        ·cases h
       have HNO:=hid (show Xs (b.data.toList.drop p)=none by rw[HKE.out,HE1.out,HKP2.out,htb];rfl);have HRD7:=hid hrd;clear hx htb hrd
       obtain⟨c0,c1,c2,c3,f1,f2,f3,lt⟩:=HRD7.out.cells
       go_upto_region 14 with fail
       first
        |(go_region_with (first
         |(go_at_call 82;refine(FA.out q2 0 0 160 q2 _ (by first|exact HRD7.out|exact HRD7.out.drewN _)).mono ?_;rintro e W8 ⟨rfl,h8,o8⟩;have ST8:=hid (SSt.step (by first|exact ST7.out|exact ST7.out.below ⟨rfl,rfl,rfl,Nat.le_refl _,fun _ _=>rfl⟩) o8);obtain⟨ss0,ss1,ssf0,ssf1,sslt⟩:=Qq ST8.out.sb;obtain⟨rr0,rr1,rrf0,rrf1,rrlt⟩:=Qq ST8.out.rb)))
        | fail "region"
       all_goals
        go_wp2_with fail;simp only[Exit.jumps];change bodyPost _ _ _ _ _ (P2 _ w.heap.size (.string ⟨n.toArray⟩) (.slice ak ks.length ck));exact Sv ST8.out.rb rfl rfl rfl (Or.inr ⟨HNO.out,⟨_,_,_,_,rfl⟩,⟨q2,160,_,by decide,ST8.out.rd2 h8 _ _⟩,ST8.out.ret _ _⟩)
      |true =>
       obtain⟨htb,hq3,hrd⟩:Xx 61 (b.data.toList.drop q2)=some (b.data.toList.drop (q2+1))∧q2<b.size∧PRd W7 Br b (q2+1) 0 0:=by
        rcases hx with ⟨h,_⟩|⟨_,h1,h2,h3⟩
        ·cases h
        ·exact⟨h1,h2,h3⟩
       have HU3:=hid (Hf (by decide) htb HU2.out);have HKP3:=hid (show Mf ks (b.data.toList.drop (q+1))=match Qw false [] (b.data.toList.drop (q2+1)) with
        |none=>none
        |some (v,r3)=>some ((k,v),r3)by rw[HKP2.out,htb])
       have HRD7:=hid hrd;have HQ3:=hid hq3;clear hx htb hrd hq3 HKP2 HU2;go_wp2_with fail
       refine(VL.out (q2+1) W7 HRD7.out HQ3.out HU3.out).mono ?_
       rintro e W8 ⟨v,okv,rfl,o8,hr8⟩;have ST8:=hid (ST7.out.step o8);have FK8:=hid ((o8.block kb (lt_of_block FK7.out) (by have:=ST7.out.br;have:=ST7.out.lt;have:=HSK.out;simp;omega)).trans FK7.out);have HR8:=hid hr8;clear s0 s1 sf0 sf1 slt r0 r1 rf0 rf1 rlt k0 k1 kf0 kf1 klt o8 hr8 ST7 FK7 HRD7
       obtain⟨k0,k1,kf0,kf1,klt⟩:=Qq FK8.out
       have ST9:=hid (ST8.out.set HSK.out HNK.out 1 (.string ⟨v.toArray⟩));have FK9:=hid (show(W8.setCell ⟨kb,1,none⟩ (.string ⟨v.toArray⟩)).heap[kb]?=some (.cells #[.string ⟨k.toArray⟩,.string ⟨v.toArray⟩] 37 (0,0))from by rw[heap_setCell_same _ _ _ _ _ _ FK8.out];simp);have HRP:=hid (fun q e a (h:PRd W8 Br b q e a)=>(show PRd (W8.setCell ⟨kb,1,none⟩ (.string ⟨v.toArray⟩)) Br b q e a from(heap_setCell_other _ _ _ _ (by have:=ST8.out.br;have:=ST8.out.lt;have:=HSK.out;simp;omega)).trans h));go_upto_region 16 with fail;generalize W8.setCell ⟨kb,1,none⟩ (.string ⟨v.toArray⟩)=W9 at *;clear k0 k1 kf0 kf1 klt FK8
       cases okv with
       |false =>
        obtain⟨hnn,q4,er,ea,hne,hrd⟩:Qw false [] (b.data.toList.drop (q2+1))=none∧∃q e a,e≠0∧PRd W8 Br b q e a:=by
         rcases HR8.out with ⟨h,_⟩|⟨_,h⟩
         ·cases h
         ·exact h
        have HNO:=hid (show Xs (b.data.toList.drop p)=none by rw[HKE.out,HE1.out,HKP3.out,hnn];rfl);have HRD:=hid (HRP.out _ _ _ hrd);have HNE:=hid hne;clear hnn hrd hne HR8;go_wp2_with fail
        go_step3
        refine HX.out (g-1) _ _ (by have:=HG.out;have:=HQB.out;omega) ?_
        exact⟨Sb,n,.bool false,⟨rfl,rfl,rfl,rfl,rfl,rfl⟩,false,_,ks,rfl,ST9.out,Or.inr ⟨rfl,HNO.out,q4,er,ea,HNE.out,HRD.out⟩⟩
       |true =>
        obtain⟨q4,hnn,hrd,hq4,hqq,hu4⟩:∃q4,Qw false [] (b.data.toList.drop (q2+1))=some (v,b.data.toList.drop q4)∧PRd W8 Br b q4 0 0∧q4≤b.size∧q2+1≤q4∧Zq (b.data.toList.drop q4)=true:=by
         rcases HR8.out with ⟨_,h⟩|⟨h,_⟩
         ·exact h
         ·cases h
        have HRD:=hid (HRP.out _ _ _ hrd);have HE4:=hid (show Xs (b.data.toList.drop p)=(Ck (ks++[(k,v)]) (b.data.toList.drop q4)).map (fun z=>((n,z.1),z.2))by rw[HKE.out,HE1.out,HKP3.out,hnn]);have HU4:=hid hu4;have HQ4:=hid (show p<q4∧q4≤b.size∧(ks++[(k,v)]).length≤q4∧b.size+2≤q4+(g-1)∧g-1<g from by
         have h1:=HPQ.out;have h2:=HQQ.out;have h3:=HKS.out;have h4:=HG.out;have h5:=HQB.out
         refine⟨by omega,hq4,by simp;omega,by omega,by omega⟩)
        have HLL:=hid (show ks.length≤1000000 by omega);have HSZ:=hid (show w.heap.size+1≤W9.heap.size by have:=lt_of_block ST9.out.sb;have:=ST9.out.lt;omega);clear hnn hrd hq4 hqq hu4 HR8 HKP3 HE1 HKE HRP hkl
        obtain⟨s0,s1,sf0,sf1,slt⟩:=Qq ST9.out.sb
        obtain⟨k0,k1,kf0,kf1,klt⟩:=Qq FK9.out
        go_wp2_with (at_builtin;refine Xc rfl (.tmp 78) (.tmp 80) rfl (w.heap.size+1) _ ks (k,v) rfl ST9.out.own rfl HLL.out HSZ.out ?_;intro kv' W10 own10 gr10 mv10;obtain⟨a',c',rfl⟩:=Zx own10;rw[show(ks++[(k,v)]).length=ks.length+1 from by simp]at own10;have sb10:=(gr10.block Sb (lt_of_block ST9.out.sb) (Ne.symm (Qx ST9.out.own ST9.out.sb (by decide)))).trans ST9.out.sb;have HRD10:=hid (show PRd W10 Br b q4 0 0 from(gr10.block Br (lt_of_block HRD.out) (fun e=>by have:=(World.ownsRow.lt ST9.out.own Br e.symm).1;have:=ST9.out.br;omega)).trans HRD.out);have ST10:=hid (ST9.out.keys own10 gr10);obtain⟨t0,t1,tf0,tf1,tlt⟩:=Qq sb10;clear own10 gr10 mv10)
        go_step3
        refine HX.out (g-1) _ _ HQ4.out.2.2.2.2 ?_
        exact⟨Sb,n,.bool true,⟨rfl,rfl,rfl,rfl,rfl,rfl⟩,true,_,ks++[(k,v)],rfl,ST10.out,Or.inl ⟨rfl,q4,(heap_setCell_other _ _ _ _ (by have:=ST9.out.br;have:=ST9.out.lt;simp;omega)).trans HRD10.out,HQ4.out.1,HQ4.out.2.1,HU4.out,HE4.out,HQ4.out.2.2.1,HQ4.out.2.2.2.1⟩⟩
theorem pstep_any (Br:Nat)(b:ByteArray)(p:Nat)(w:World)(h:PRd w Br b p 0 0)(hp:p≤b.size)(hb:b.size≤512)(hu:Zq (b.data.toList.drop p)=true) :
  Calls Tryz.prog 83 #[.pointer (some ⟨Br,0,none⟩)] w fun x w'=>Xcj Br b p w x w':=by
 have HU:=hid hu;have hbr:=h.cells.2.2.2.2.2.2.2;have HBR:=hid hbr;have hb7:Below w.heap.size w (w.alloc (.cells #[.string ⟨#[]⟩,.slice none 0 0] 82)):=bal _ _;have H1:=hid (h.below hb7);have O1:=hid ((Qf.refl w Br).below hb7);have F1:=hid (heap_alloc_new w (.cells #[.string ⟨#[]⟩,.slice none 0 0] 82));have NM:=hid (fun q W (h:PRd W Br b q 0 0) (hq:q≤b.size)=>Zjj Br b q W h hq (by omega));have LT1:=hid (show w.heap.size<(w.alloc (.cells #[.string ⟨#[]⟩,.slice none 0 0] 82)).heap.size from lt_of_block F1.out)
 obtain⟨rest0,hr0,hvr⟩:=step_run w Br b p hp hb
 have HR0:=hid hr0;have HVR:=hid hvr;clear h hu hb7 hbr hr0 hvr
 go_enter Tryz.func83,Tryz.ntmps83
 go_wp2_with fail;refine Bj (JS w Br b p) ?_ ?_
 ·go_wp2_with fail
  refine(NM.out p _ H1.out hp).mono ?_
  rintro e w2 ⟨n,ok,rfl,o2,hr⟩;have HR:=hid hr;have O2:=hid o2;clear o2 hr;have F2:=hid (heap_alloc_new w2 (.cells #[.string ⟨n.toArray⟩,.slice none 0 0] 82));have hb3:Below w2.heap.size w2 (w2.alloc (.cells #[.string ⟨n.toArray⟩,.slice none 0 0] 82)):=bal _ _;have ST3:=hid (show KeySt w Br w2.heap.size b p n (b.size+2) (.bool ok) (w2.alloc (.cells #[.string ⟨n.toArray⟩,.slice none 0 0] 82))from by
   refine⟨ok,.slice none 0 0,[],rfl,⟨(hb3.block _ (Nat.lt_of_lt_of_le LT1.out O2.out.size)).trans ((O2.out.block _ LT1.out (by have:=HBR.out;simp;omega)).trans F1.out),F2.out,World.ownsRow_nil _ _ _ _,(O1.out.trans O2.out).below hb3,Nat.lt_of_lt_of_le LT1.out O2.out.size,HBR.out⟩,?_⟩
   rcases HR.out with ⟨rfl,q,h1,h2,h3,h4⟩|⟨rfl,h1,q,er,ea,hne,h2⟩
   ·exact Or.inl ⟨rfl,q,h2.below hb3,name_q h1 h3 hp,h3,Tr h1 HU.out,Znz h1,Nat.zero_le _,by omega⟩
   ·exact Or.inr ⟨rfl,Qbw h1,q,er,ea,hne,h2.below hb3⟩)
  clear hb3;go_wp2_with fail
  go_step3
  rename_i K hK
  refine hK _ _ ?_;refine Sy (HVR.out (b.size+2) _ _ ⟨w2.heap.size,n,.bool ok,⟨rfl,rfl,rfl,rfl,rfl,rfl⟩,ST3.out⟩ _ ?_) (HR0.out.symm.trans rfl);exact fun n' a' w' hlt hj=>⟨n',hj⟩
 ·intro l n a W hJ
  match l,hJ with
  |0,hJ=>exact⟨.seq .skip rest0,HR0.out,Fd (HVR.out n a W hJ _ (fun n' a' w' hlt hj=>⟨n',hlt,hj⟩))⟩
  |l+1,hJ=>exact hJ.elim
end
section
open Go.RowKit Go.Lib
def Qm:Enc (Stp×(Option Addr×Nat)) 2 where
 enc:=fun z=>[.string ⟨z.1.1.toArray⟩,.slice z.2.1 z.1.2.length z.2.2]
 len:=fun _=>rfl
 one:=fun x u hu=>by simp at hu;rcases hu with rfl|rfl <;> rfl
theorem Yd:(Tryz.prog.info? 82).map (fun i=>(i.zero,i.size,i.bytes))=some (some (.agg #[.string ⟨#[]⟩,.slice none 0 0]),2,40):=by kernel_rfl
def Qr (z:Stp×(Option Addr×Nat)):Value:=.slice z.2.1 z.1.2.length z.2.2
def Zrx (x y:Stp×(Option Addr×Nat)):Prop:=∀k,(Qr x).ownBlock=some k→(Qr y).ownBlock≠some k
def Yc (w:World)(B:Nat)(v:Value)(l:List Stp):Prop:=∃zs:List (Stp×(Option Addr×Nat)),zs.map (·.1)=l∧Qg Qm 82 w B v zs∧(∀z∈zs,Qd w B (Qr z) z.1.2)∧zs.Pairwise Zrx
theorem Xy {W:World}{B:Nat}{z0 z1:Value}{ty:TypeId}(a0 a1:Value)(h:W.heap[B]?=some (.cells #[z0,z1] ty (0,0))):(P2 W B a0 a1).heap[B]?=some (.cells #[a0,a1] ty (0,0)):=by
 unfold P2;rw[heap_setCell_same _ _ _ _ _ _ (heap_setCell_same _ _ _ _ _ _ h)];simp
theorem Zr {B b:Nat}{w W:World}(a0 a1:Value)(h:Below B w W)(hb:B≤b):Below B w (P2 W b a0 a1) :=
 (h.setCell (p:=⟨b,0,none⟩) hb a0).setCell (p:=⟨b,1,none⟩) hb a1
theorem Qxj {W:World}{b base size n:Nat}{e:TypeId}{v:Value}{xs:List Value}(a0 a1:Value)(h:W.ownsRow base e size v n xs)(hb:v.ownBlock≠some b):(P2 W b a0 a1).ownsRow base e size v n xs :=
 Qb (Qb h hb 0 a0) hb 1 a1
theorem Hb {V:World}{Pb:Nat}{v:Value}{e a:Int}(hr:V.heap[Pb]?=some (.cells #[.int .i64 e,.int .i64 a] 78 (0,0))){Q:Ending→World→Prop}{act:Act}(hd:act.defers=[])
  (h2:act.tmps.getD 2 undef=v)(h3:act.tmps.getD 3 undef=.pointer (some ⟨Pb,0,none⟩))(hQ:Q (.returned (.tuple #[v,.agg #[.int .i64 e,.int .i64 a]])) V) :
  bodyPost Tryz.prog Tryz.f36 Q Exit.ret act V:=by
 obtain⟨e0,e1,_,_,_⟩:=Qq hr
 refine bodyPost_ret (v:=.tuple #[v,.agg #[.int .i64 e,.int .i64 a]]) ?_ hd hQ
 obtain⟨tmps,defers⟩:=act
 simp only[Array.getD_eq_getD_getElem?]at h2 h3
 simp[results,Tryz.results36,go_sem,h2,h3,e0,e1]
structure Bm (w:World)(s:Str)(Rb:Nat)(W:World)(v:Value)(zs:List (Stp×(Option Addr×Nat))):Prop where
 pb:W.heap[w.heap.size]?=some (.cells #[.int .i64 0,.int .i64 0] 78 (0,0))
 own:Qg Qm 82 W (w.heap.size+1) v zs
 each:∀z∈zs,Qd W (w.heap.size+1) (Qr z) z.1.2
 bel:Below w.heap.size w W
 lt:w.heap.size<Rb
 dis:zs.Pairwise Zrx
section
variable {w W W' : World}{s:Str}{Rb:Nat}{v:Value}{zs:List (Stp × (Option Addr × Nat))}
theorem Ks {w:World}{B C:Nat}{v:Value}{l:List (Str×Str)}(h:Qd w B v l)(hc:C≤B):Qd w C v l:=by
 unfold Qd World.ownsRow at *
 refine⟨h.1,?_⟩
 rcases h.2 with h|⟨g,cap,cur,h1,h2,h3⟩
 ·exact Or.inl h
 ·exact Or.inr ⟨g,cap,cur,h1,Nat.le_trans hc h2,h3⟩
theorem Kd {W:World}{B1 B2 k1 k2 n1 n2:Nat}{e1 e2:TypeId}{v1 v2:Value}{x1 x2:List Value}(h1:W.ownsRow B1 e1 k1 v1 n1 x1)(h2:W.ownsRow B2 e2 k2 v2 n2 x2)(hne:e1≠e2):v1.ownBlock=none∨v1.ownBlock≠v2.ownBlock:=by
 cases hk:v1.ownBlock with
 |none=>exact Or.inl rfl
 |some k =>
  refine Or.inr (fun e=>?_)
  rcases h1.2 with ⟨a,_⟩|⟨g,cap,cur,a,_,hg,_⟩
  ·rw[a]at hk;cases hk
  ·rw[a]at hk;cases hk
   rcases h2.2 with ⟨a2,_⟩|⟨g2,cap2,cur2,a2,_,hg2,_⟩
   ·rw[a2]at e;cases e
   ·rw[a2]at e;cases e;rw[hg]at hg2;cases hg2;exact hne rfl
theorem Bm.step (h:Bm w s Rb W v zs){b:ByteArray}{q e:Nat}{a:Int}(hr:PRd W Rb b q e a)(o:Qf Rb W W'):Bm w s Rb W' v zs:=by
 have hlt:=h.lt;unfold PRd at hr
 refine⟨(o.block _ (lt_of_block h.pb) (by simp;omega)).trans h.pb,World.ownsRow.kept h.own o (Or.inr (Qx h.own hr (by decide))),fun z hz=>World.ownsRow.kept (h.each z hz) o (Or.inr (Qx (h.each z hz) hr (by decide))),?_,hlt,h.dis⟩
 exact h.bel.grown o h.bel.size (fun k hk=>by cases hk;omega)
theorem Bm.below (h:Bm w s Rb W v zs)(hb:Below W.heap.size W W'):Bm w s Rb W' v zs :=
 ⟨bk hb h.pb,h.own.below hb,fun z hz=>Qz (h.each z hz) hb,h.bel.then hb,h.lt,h.dis⟩
theorem Bm.push (h:Bm w s Rb W v zs){v':Value}{z:Stp×(Option Addr×Nat)}(o:Qg Qm 82 W' (w.heap.size+1) v' (zs++[z]))(gr:W.grownBy W' v.ownBlock)(hz:Qd W (w.heap.size+1) (Qr z) z.1.2)(hn:∀x∈zs,Zrx x z):Bm w s Rb W' v' (zs++[z]):=by
 have hlt:=h.lt;have n1:v.ownBlock≠some w.heap.size:=Qx h.own h.pb (by decide)
 refine⟨(gr.block _ (lt_of_block h.pb) (Ne.symm n1)).trans h.pb,o,fun x hx=>?_,h.bel.grown gr h.bel.size (fun k hk=>by have:=(World.ownsRow.lt h.own k hk).1;omega),hlt,List.pairwise_append.2 ⟨h.dis,List.pairwise_singleton _ _,fun a ha b hb=>by rw[List.mem_singleton.1 hb];exact hn a ha⟩⟩
 rcases List.mem_append.1 hx with hx|hx
 ·exact World.ownsRow.kept (h.each x hx) gr (Kd (h.each x hx) h.own (by decide))
 ·rw[List.mem_singleton.1 hx];exact World.ownsRow.kept hz gr (Kd hz h.own (by decide))
theorem Bm.rd (h:Bm w s Rb W v zs){b:ByteArray}{q e:Nat}{a:Int}(hr:PRd W Rb b q e a)(gr:W.grownBy W' v.ownBlock):PRd W' Rb b q e a:=by
 unfold PRd at *
 exact(gr.block _ (lt_of_block hr) (Ne.symm (Qx h.own hr (by decide)))).trans hr
theorem Bm.done (h:Bm w s Rb W v zs)(a0 a1:Value):Yc (P2 W w.heap.size a0 a1) w.heap.size v (zs.map (·.1)):=by
 refine⟨zs,rfl,(Qg.mono (show Qg Qm 82 (P2 W w.heap.size a0 a1) (w.heap.size+1) v zs from Qxj a0 a1 h.own (Qx h.own h.pb (by decide))) (Nat.le_succ _)),fun z hz=>?_,h.dis⟩
 exact Ks (show Qd (P2 W w.heap.size a0 a1) (w.heap.size+1) (Qr z) z.1.2 from Qxj a0 a1 (h.each z hz) (Qx (h.each z hz) h.pb (by decide))) (Nat.le_succ _)
end
def Ny (w:World) (s:Str) (x:Ending) (w' : World):Prop :=
  ((∃l v,Qy s=some l∧x=.returned (.tuple #[v,.agg #[.int .i64 0,.int .i64 0]])∧Yc w' w.heap.size v l) ∨
   (Qy s=none∧∃(er:Nat) (a:Int),er≠0∧x=.returned (.tuple #[.slice none 0 0,.agg #[.int .i64 er,.int .i64 a]])))∧Below w.heap.size w w'
end
section
open Go.RowKit Go.Lib
theorem Zjv (c:UInt8):(0≤Lib.indexByte [91,93,47,61,92] c)↔Km c=true:=by
 revert c;apply Zn;decide +kernel
theorem Qdh {v:Str}{m:Nat}(h:m<v.length):Ql (v.take (m+1))=Ql (v.take m)++(if Km (v[m]'h)then [92,v[m]'h]else [v[m]'h]):=by
 rw[List.take_succ_eq_append_getElem h,Bc]
 congr 1
 simp[Ql]
theorem Uq:∀v:Str,v.length≤(Ql v).length
 |[]=>Nat.le_refl _
 |c::v=>by
  have ih:=Uq v;show _≤((if Km c then [92,c]else [c])++Ql v).length
  split <;> simp <;> omega
theorem Qdg {l:List (Str×Str)}{n:Nat}(h:n<l.length):Zt (l.take (n+1))=Zt (l.take n)++Ff (l[n]'h):=by
 unfold Zt;rw[List.take_succ_eq_append_getElem h,List.flatMap_append]
 simp
theorem Xm {w:World}{v:Value}{l:List (Str×Str)}(h:RdP w v l):∃ao cp,v=.slice ao l.length cp∧l.length≤9223372036854775807∧∀n (hn:n<l.length),∃p o,ao=some ⟨p,o,none⟩∧p<w.heap.size ∧
  w.cell? ⟨p,o+n * 2,none⟩=some (.string ⟨(l[n]'hn).1.toArray⟩)∧w.cell? ⟨p,o+n * 2+1,none⟩=some (.string ⟨(l[n]'hn).2.toArray⟩):=by
 obtain⟨ao,cp,rfl,⟨h2,_⟩,hc⟩:=h
 refine⟨ao,cp,rfl,h2,fun n hn=>?_⟩
 obtain⟨p,o,ha,hp,hx⟩:=hc (by intro e;rw[e]at hn;simp at hn)
 exact⟨p,o,ha,hp,hx n 0 _ hn rfl,hx n 1 _ hn rfl⟩
theorem cat3 (a b c:Str):(⟨a.toArray⟩:ByteArray)++⟨b.toArray⟩++⟨c.toArray⟩=⟨(a++(b++c)).toArray⟩:=by
 apply ByteArray.ext
 simp
theorem Zrj (c:UInt8):(decide ((0:Int)≤Lib.indexByte [91,93,47,61,92] c))=Km c:=by
 cases h:Km c with
 |true=>exact decide_eq_true ((Zjv c).2 h)
 |false=>exact decide_eq_false (fun k=>by rw[(Zjv c).1 k]at h;cases h)
theorem Qxk (w:World)(x:Stp)(kv:Value)(hr:RdP w kv x.2)(hs:(Qp x).length≤140737488355328) :
  Calls Tryz.prog 150 #[.agg #[.string ⟨x.1.toArray⟩,kv]] w fun e w'=>e=.returned (.string ⟨(Qp x).toArray⟩)∧Below w.heap.size w w':=by
 obtain⟨n,ks⟩:=x
 obtain⟨ao,cp,rfl,h63,hcell⟩:=Xm hr
 simp only at hcell h63 hs ⊢;have HCELL:=hid hcell;have HS:=hid hs;have HB1:=hid (bal w (.cells #[.string ⟨n.toArray⟩,.slice ao ks.length cp] 82));have F1:=hid (heap_alloc_new w (.cells #[.string ⟨n.toArray⟩,.slice ao ks.length cp] 82));have IX:=hid (fun(c:UInt8) W=>(show Calls Tryz.prog 190 #[.string ⟨#[91,93,47,61,92]⟩,.int .u8 (c.toNat:Int)] W fun e w'=>e=.returned (.int .i64 (Lib.indexByte [91,93,47,61,92] c))∧w'=W from by
  have h:=Tryz.strings_IndexByte ⟨#[91,93,47,61,92]⟩ (c.toNat:Int) W;rw[show((c.toNat:Int)).toNat.toUInt8=c by simp]at h;exact h))
 clear hr hcell hs
 go_enter Tryz.func150,Tryz.ntmps150
 go_upto_region 1 with fail;generalize w.alloc (.cells #[.string ⟨n.toArray⟩,.slice ao ks.length cp] 82)=w1 at *;have HB2:=hid (show Below w.heap.size w (w1.alloc (.cells #[.pointer none,.slice none 0 0] 242))from HB1.out.alloc HB1.out.size _);have F2:=hid ((Below.heap_alloc w1 (.cells #[.pointer none,.slice none 0 0] 242) _ (lt_of_block F1.out)).trans F1.out);have BL2:=hid (Lib.fresh_isBuilder 242 5 w1);have HSB:=hid (lt_of_block F1.out);go_upto_region 2 with fail;generalize hw2:w1.alloc (.cells #[.pointer none,.slice none 0 0] 242)=w2 at *;have HW2:=hid (show w1.heap.size≤w2.heap.size by rw[←hw2];simp);clear hw2;generalize w1.heap.size=Bb at *
 obtain⟨s0,s1,_,_,sl⟩:=Qq F2.out
 go_wp2_with fail
 refine(Znk Bb Bb [] n w2 BL2.out (by have:=HS.out;unfold Qp at this;simp at this ⊢;omega) HW2.out).mono ?_
 rintro e w3 ⟨rfl,bl3,hb3,hk3⟩;have F3:=hid ((hb3.block _ HSB.out).trans F2.out);have B3:=hid (HB2.out.trans (hb3.mono (Nat.le_of_lt HSB.out)));have BL3:=hid bl3;have HZ3:=hid (Nat.le_trans HW2.out hb3.size);clear s0 s1 sl bl3 hb3 hk3 F2 HB2 BL2
 obtain⟨s0,s1,_,_,sl⟩:=Qq F3.out
 go_wp2_with fail
 go_loopg[13] ks.length (fun g v13 W=>∃k:Nat,k≤ks.length∧ks.length≤k+g∧v13=.int .i64 k∧Bld Bb Bb (n++Zt (ks.take k)) W∧W.heap[w.heap.size]?=some (.cells #[.string ⟨n.toArray⟩,.slice ao ks.length cp] 82 (0,0))∧Below w.heap.size w W∧Bb≤W.heap.size)
 case atStart=>exact⟨0,Nat.zero_le _,by omega,rfl,(by have:=BL3.out;simpa[Zt]using this),F3.out,B3.out,HZ3.out⟩
 case round =>
  obtain⟨k,hk,hg,rfl,bl,ff,bb,hz4⟩:=hrel
  rename World=>w4
  obtain⟨go,hgo⟩:∃go,go=gk:=⟨_,rfl⟩
  have HG:=hid (show ks.length≤k+go by rw[hgo];exact hg);have HGO:=hid hgo;clear hg hgo;have BL4:=hid bl;have B4:=hid bb;have F4:=hid ff;have HZ4:=hid hz4;clear bl bb ff hz4 F3 B3 BL3 s0 s1 sl
  by_cases hlt:k<ks.length
  ·have hni:(k:Int)<(ks.length:Int):=by omega
   have hn0:(0:Int)≤(k:Int):=by omega
   obtain⟨p,o,rfl,hp,q0,q1⟩:=HCELL.out k hlt
   have r0:=(B4.out.cell (p:=⟨p,o+k * 2,none⟩) hp).trans q0;have r1:=(B4.out.cell (p:=⟨p,o+k * 2+1,none⟩) hp).trans q1;have hp2:p<w4.heap.size:=Nat.lt_of_lt_of_le hp B4.out.size;have HKT:=hid (Qdg hlt);have HTOT:=hid (show(n++Zt (ks.take (k+1))).length≤140737488355328 by
    have h1:Zt ks=Zt (ks.take (k+1))++Zt (ks.drop (k+1)):=by
     unfold Zt;rw[←List.flatMap_append,List.take_append_drop]
    have:=HS.out
    unfold Qp at this;rw[h1]at this;simp only[List.length_append]at this ⊢
    omega)
   clear q0 q1;generalize ks[k]'hlt=kv at *
   obtain⟨ky,v⟩:=kv
   simp only at r0 r1 HKT;rw[HKT.out]at HTOT
   obtain⟨pre,hpre⟩:∃pre,pre=n++Zt (ks.take k):=⟨_,rfl⟩
   have HPRE:=hid hpre;rw[←hpre]at BL4;have HTOT2:=hid (show(pre++Ff (ky,v)).length≤140737488355328 by rw[hpre,List.append_assoc];exact HTOT.out);clear hpre HTOT;have HA5:=hid (bal w4 (.cells #[.string ⟨ky.toArray⟩,.string ⟨v.toArray⟩] 37));have F5:=hid (heap_alloc_new w4 (.cells #[.string ⟨ky.toArray⟩,.string ⟨v.toArray⟩] 37));go_upto_region 6 with fail;generalize w4.alloc (.cells #[.string ⟨ky.toArray⟩,.string ⟨v.toArray⟩] 37)=w5 at *
   obtain⟨y0,y1,_,_,yl⟩:=Qq F5.out
   have hky:(ky.length:Int)+2≤140737488355328:=by have:=HTOT2.out;unfold Ff at this;simp at this;omega
   go_wp2_with fail;have hcat:(⟨#[91]⟩:ByteArray)++⟨ky.toArray⟩++⟨#[61]⟩=⟨(91::(ky++[61])).toArray⟩:=cat3 [91] ky [61];rw[hcat];have BL5:=hid (show Lib.BuilderAt 242 5 Bb Bb (.pointer (some ⟨Bb,0,none⟩)) (Lib.byteCells pre) w5 from by
    obtain⟨h1,u,h2,h3,h4⟩:=BL4.out
    exact⟨h1,u,bk HA5.out h2,Qz h3 HA5.out,h4⟩)
   have hvl:(v.length:Int)≤140737488355328:=by
    have:=HTOT2.out
    unfold Ff at this;have h2:v.length≤(Ql v).length:=Uq v
    simp at this;omega
   have B5:=hid (B4.out.then HA5.out);have HZ5:=hid (show Bb≤w5.heap.size by obtain⟨h1,u,h2,_⟩:=BL5.out;have:=lt_of_block h2;omega);have HPB:=hid (show Bb≤w4.heap.size by obtain⟨h1,u,h2,_⟩:=BL4.out;have:=lt_of_block h2;omega);clear hky hcat
   refine(Znk Bb Bb pre (91::(ky++[61])) w5 (Or.inr BL5.out) (by have:=HTOT2.out;unfold Ff at this;simp at this ⊢;omega) HZ5.out).mono ?_
   rintro e w6 ⟨rfl,bl6,hb6,hk6⟩;have BL6:=hid bl6;have F6:=hid (hk6 _ _ _ F5.out (by decide) (by decide));have S6:=hid (hk6 _ _ _ (bk HA5.out F4.out) (by decide) (by decide));have HZ6:=hid (Nat.le_trans HZ5.out hb6.size);have B6:=hid (B5.out.trans (hb6.mono (Nat.le_of_lt HSB.out)));clear bl6 hb6 hk6 y0 y1 yl r0 r1 hp2;generalize w4.heap.size=Kb at *
   obtain⟨y0,y1,_,_,yl⟩:=Qq F6.out
   clear F5 BL5 B5 HA5 HZ5;go_wp2_with fail
   go_loopg[25] v.length (fun g v25 W=>∃m:Nat,m≤v.length∧v.length≤m+g∧v25=.int .i64 m∧Bld Bb Bb (pre++(91::(ky++61::Ql (v.take m)))) W∧W.heap[Kb]?=some (.cells #[.string ⟨ky.toArray⟩,.string ⟨v.toArray⟩] 37 (0,0))∧W.heap[w.heap.size]?=some (.cells #[.string ⟨n.toArray⟩,.slice (some ⟨p,o,none⟩) ks.length cp] 82 (0,0))∧Below w.heap.size w W∧Bb≤W.heap.size)
   case atStart=>exact⟨0,Nat.zero_le _,by omega,rfl,(by have:=BL6.out;simpa[Ql]using this),F6.out,S6.out,B6.out,HZ6.out⟩
   case round =>
    obtain⟨m,hm,hg2,rfl,bl,fk,fs,bb,hz⟩:=hrel
    rename World=>w7
    have HG2:=hid hg2;have BL7:=hid bl;have F7:=hid fk;have S7:=hid fs;have B7:=hid bb;have HZ7:=hid hz;clear hg2 bl fk fs bb hz y0 y1 yl BL6 F6 S6 B6 HZ6
    obtain⟨y0,y1,_,_,yl⟩:=Qq F7.out
    by_cases hlt2:m<v.length
    ·have hmi:(m:Int)<(v.length:Int):=by omega
     have hm0:(0:Int)≤(m:Int):=by omega
     have HDS:=hid (Qdh hlt2);have hby:∀h,(⟨v.toArray⟩:ByteArray)[m]'h=v[m]'hlt2:=fun h=>rfl
     have IXC:=hid (fun W=>IX.out (v[m]'hlt2) W);have HSP:=hid (Zrj (v[m]'hlt2));have HBD:=hid (show(pre++(91::(ky++61::Ql (v.take m)))).length+(if Km (v[m]'hlt2)then 2 else 1)+1≤140737488355328 by
      have h1:=HTOT2.out;unfold Ff at h1;have h2:Ql v=Ql (v.take (m+1))++Ql (v.drop (m+1)):=by rw[←Bc,List.take_append_drop]
      rw[h2,HDS.out]at h1;have h3:1≤(if Km (v[m]'hlt2)then [92,v[m]'hlt2]else [v[m]'hlt2]).length:=by split <;> simp
      simp only[List.length_append,List.length_cons,List.length_nil]at h1 ⊢
      by_cases hc:Km (v[m]'hlt2)=true
      ·rw[if_pos hc]at h1 ⊢;simp only[List.length_cons,List.length_nil]at h1;omega
      ·rw[if_neg hc]at h1 ⊢;simp only[List.length_cons,List.length_nil]at h1;omega)
     generalize v[m]'hlt2=c at *;have IXC2:=hid (fun W=>(show Calls Tryz.prog 190 #[.string ⟨#[91,93,47,61,92]⟩,.int .u8 (c.toNat:Int)] W fun e w'=>∃ix:Int,e=.returned (.int .i64 ix)∧decide ((0:Int)≤ix)=Km c∧w'=W from(IXC.out W).mono (by rintro e w' ⟨rfl,rfl⟩;exact⟨_,rfl,HSP.out,rfl⟩)));clear IXC HSP
     cases hc:Km c with
     |true =>
      have HSC:=hid hc;rw[hc]at IXC2 HBD HDS;simp only[if_true]at HBD HDS;clear hc;go_wp2_with fail
      refine(IXC2.out w7).mono ?_
      rintro e w8 ⟨ix,rfl,hix,rfl⟩
      rename World=>w8
      have hix2:(0:Int)≤ix:=of_decide_eq_true hix;clear hix;go_wp2_with fail
      refine(Ts Bb Bb _ 92 w8 (Or.inr BL7.out) (by have:=HBD.out;omega) HZ7.out).mono ?_
      rintro e w9 ⟨rfl,bl9,hb9,hk9⟩;have BL9:=hid bl9;have F9:=hid (hk9 _ _ _ F7.out (by decide) (by decide));have S9:=hid (hk9 _ _ _ S7.out (by decide) (by decide));have HZ9:=hid (Nat.le_trans HZ7.out hb9.size);have B9:=hid (B7.out.trans (hb9.mono (Nat.le_of_lt HSB.out)));clear bl9 hb9 hk9 y0 y1 yl BL7 F7 S7 B7 HZ7
      obtain⟨y0,y1,_,_,yl⟩:=Qq F9.out
      go_wp2_with fail
      refine(Ts Bb Bb _ c w9 (Or.inr BL9.out) (by have:=HBD.out;simp only[List.length_append,List.length_cons,List.length_nil]at this ⊢;omega) HZ9.out).mono ?_
      rintro e wa ⟨rfl,bla,hba,hka⟩;have BLa:=hid bla;have Fa:=hid (hka _ _ _ F9.out (by decide) (by decide));have Sa:=hid (hka _ _ _ S9.out (by decide) (by decide));have HZa:=hid (Nat.le_trans HZ9.out hba.size);have Ba:=hid (B9.out.trans (hba.mono (Nat.le_of_lt HSB.out)));clear bla hba hka;go_wp2_with fail
      go_roundg (gk-1)
      case measure=>have:=HG2.out;omega
      case rel=>exact⟨m+1,by omega,by have:=HG2.out;omega,by simp,(by have:=BLa.out;rw[HDS.out];simpa using this),Fa.out,Sa.out,Ba.out,HZa.out⟩
     |false =>
      rw[hc]at IXC2 HBD HDS;simp only[Bool.false_eq_true,if_false]at HBD HDS;clear hc;go_wp2_with fail
      refine(IXC2.out w7).mono ?_
      rintro e w8 ⟨ix,rfl,hix,rfl⟩
      rename World=>w9
      have hix2:¬(0:Int)≤ix:=of_decide_eq_false hix;clear hix;go_wp2_with fail
      refine(Ts Bb Bb _ c w9 (Or.inr BL7.out) (by have:=HBD.out;omega) HZ7.out).mono ?_
      rintro e wa ⟨rfl,bla,hba,hka⟩;have BLa:=hid bla;have Fa:=hid (hka _ _ _ F7.out (by decide) (by decide));have Sa:=hid (hka _ _ _ S7.out (by decide) (by decide));have HZa:=hid (Nat.le_trans HZ7.out hba.size);have Ba:=hid (B7.out.trans (hba.mono (Nat.le_of_lt HSB.out)));clear bla hba hka;go_wp2_with fail
      go_roundg (gk-1)
      case measure=>have:=HG2.out;omega
      case rel=>exact⟨m+1,by omega,by have:=HG2.out;omega,by simp,(by have:=BLa.out;rw[HDS.out];simpa using this),Fa.out,Sa.out,Ba.out,HZa.out⟩
    ·have hmi:¬(m:Int)<(v.length:Int):=by omega
     have HTV:=hid (show v.take m=v from List.take_of_length_le (by omega));rw[HTV.out]at BL7;go_wp2_with fail
     refine(Ts Bb Bb _ 93 w7 (Or.inr BL7.out) (by have:=HTOT2.out;unfold Ff at this;simp only[List.length_append,List.length_cons,List.length_nil]at this ⊢;omega) HZ7.out).mono ?_
     rintro e wa ⟨rfl,bla,hba,hka⟩;have BLa:=hid bla;have Sa:=hid (hka _ _ _ S7.out (by decide) (by decide));have HZa:=hid (Nat.le_trans HZ7.out hba.size);have Ba:=hid (B7.out.trans (hba.mono (Nat.le_of_lt HSB.out)));clear bla hba hka;go_wp2_with fail
     go_roundg (go-1)
     case measure=>have:=HG.out;have:=HGO.out;omega
     case rel=>exact⟨k+1,by omega,by have:=HG.out;omega,by simp,(by have:=BLa.out;rw[HKT.out,←List.append_assoc,←HPRE.out];simpa[Ff]using this),Sa.out,Ba.out,HZa.out⟩
  ·have hni:¬(k:Int)<(ks.length:Int):=by omega
   have HTV:=hid (show n++Zt (ks.take k)=Qp (n,ks)by rw[List.take_of_length_le (by omega)];rfl);rw[HTV.out]at BL4;go_wp2_with fail
   refine(Tryz.Builder_String_any Bb Bb (Qp (n,ks)) w4 (Or.inr BL4.out) HZ4.out).mono ?_
   rintro e wa ⟨rfl,hba⟩;have Ba:=hid (B4.out.trans (hba.mono (Nat.le_of_lt HSB.out)));clear hba;go_wp2_with fail;exact bodyPost_ret (v:=.string ⟨(Qp (n,ks)).toArray⟩) (by simp[results,Tryz.results150,go_sem]) rfl ⟨rfl,Ba.out⟩
end
section
def cls (c:UInt8):UInt8:=if c=95 then 45 else Ul c
theorem Gn {p:UInt8→Prop} [DecidablePred p] (h:∀n:Fin 256,p (UInt8.ofNat n.val))(c:UInt8):p c:=by
 have:=h ⟨c.toNat,c.toNat_lt⟩
 simpa using this
theorem Sh (c:UInt8):Yt (cls c)=Yt c:=Gn (p:=fun c=>Yt (cls c)=Yt c) (by decide +kernel) c
theorem Qcq (c:UInt8):Gg (cls c)=Gg c:=Gn (p:=fun c=>Gg (cls c)=Gg c) (by decide +kernel) c
def Dv (l:Str):Prop:=∀c∈l,Jz c=true
theorem Xcy (p:UInt8→Bool)(hp:∀c,p (cls c)=p c)(l:Str):(l.map cls).all p=l.all p:=by
 rw[List.all_map]
 congr 1
 funext c
 exact hp c
theorem Nh (p:UInt8→Bool)(hp:∀c,p (cls c)=p c)(l:Str):Yh p (l.map cls)=Yh p l:=by
 unfold Yh;rw[Xcy p hp]
 cases l <;> rfl
theorem Pk (l:Str)(a b:Nat):Jp (l.map cls) a b=Jp l a b:=by
 unfold Jp;rw[List.length_map,Xcy _ fun c=>by rw[Sh,Qcq]]
theorem Qcz (l:Str):Vw (l.map cls)=Vw l:=by unfold Vw;rw[Nh _ Sh,List.length_map]
theorem Ej (l:Str):Xq (l.map cls)=Xq l:=by unfold Xq Vy;rw[Nh _ Sh,List.length_map]
theorem Ek (l:Str):Xz (l.map cls)=Xz l:=by unfold Xz Vy;rw[Nh _ Sh,Nh _ Qcq,List.length_map]
theorem Um (l:Str):Zh (l.map cls)=Zh l:=by unfold Zh;rw[Pk,Pk,←List.map_take,Nh _ Qcq]
theorem Zjw (l:Str):Jt (l.map cls)=Jt l:=by unfold Jt;rw[Pk,←List.map_drop,Nh _ Sh]
theorem Qcx (l:Str):Xj (l.map cls)=Xj l:=Pk l 3 8
def Rd.cl (r:Rd):Rd:=⟨r.rest.map cls,r.pos,r.sub.map cls,r.fin⟩
end
section
def Vf:Nat→Str→List Str
 |0,_=>[]
 |_+1,[]=>[]
 |n+1,_::l=>l.takeWhile Jz::Vf n (l.dropWhile Jz)
theorem Sg:∀(n m:Nat)(l:Str),l.length≤n→l.length≤m→Vf n l=Vf m l
 |0,m,l,h,_=>by cases l with|nil=>cases m <;> rfl|cons=>simp at h
 |n+1,0,l,_,h=>by cases l with|nil=>rfl|cons=>simp at h
 |n+1,m+1,[],_,_=>rfl
 |n+1,m+1,c::l,h1,h2=>by
  have:=Jj l
  simp only[List.length_cons]at h1 h2;simp only[Vf];rw[Sg n m _ (by omega) (by omega)]
def Rd.subs (r:Rd):List Str:=if r.fin then []else r.sub::Vf r.rest.length r.rest
def Rd.ok (r:Rd):Prop:=r.fin=true→r.sub=[]∧r.rest=[]
theorem Mj (r:Rd)(h:r.ok):r.next.ok:=by
 unfold Rd.ok Rd.next at *
 cases hr:r.rest with
 |nil=>intro _;exact⟨rfl,rfl⟩
 |cons c l=>intro hf;have:=(h hf).2;rw[hr]at this;cases this
theorem Zrk (s:Str):(Rd.first s).ok:=by
 unfold Rd.ok Rd.first
 split
 ·intro _;exact⟨rfl,rfl⟩
 ·intro h;cases h
theorem subs_next (r:Rd)(h:r.ok):r.next.subs=r.subs.drop 1:=by
 unfold Rd.subs Rd.next
 cases hr:r.rest with
 |nil=>cases r.fin <;> simp[Vf]
 |cons c l =>
  cases hf:r.fin
  ·have:=Jj l
   simp only[List.length_cons,Vf,List.drop_succ_cons,List.drop_zero];simp only[Bool.false_eq_true,if_false];rw[Sg l.length (l.dropWhile Jz).length _ (by omega) (Nat.le_refl _)]
   rfl
  ·have:=(h hf).2;rw[hr]at this;cases this
def Ng:Nat→Tg→List Str→Option Tg
 |0,_,_=>none
 |_+1,t,[]=>some { t with keys:=Ky t.keys }
 |n+1,t,x::ps =>
  if Jt x then
   if t.keys.any (fun p=>p.1==lower x)then none
   else if t.keys.length=16 then none
   else Ng n { t with keys:=t.keys++[(lower x,value ((ps.takeWhile Xj).map lower))] } (ps.dropWhile Xj)
  else none
def Nf (t:Tg):List Str→Option Tg
 |[]=>some { t with vars:=Fz t.vars }
 |x::ps=>if lower x=[117] then(match ps with
   |[]=>none
   |y::qs=>if Jt y then Ng 17 { t with vars:=Fz t.vars } (y::qs)else none)else none
def Dw:Nat→Tg→List Str→Option Tg
 |0,_,_=>none
 |_+1,t,[]=>Nf t []
 |n+1,t,x::ps =>
  if Zh x then
   if t.vars.contains (lower x)then none
   else if t.vars.length=8 then none
   else Dw n { t with vars:=t.vars++[lower x] } ps
  else Nf t (x::ps)
def Vt (t:Tg):List Str→Option Tg
 |[]=>Dw 9 t []
 |x::ps=>if Xz x then Dw 9 { t with region:=Kf x } ps else Dw 9 t (x::ps)
def Fc (t:Tg):List Str→Option Tg
 |[]=>Vt t []
 |x::ps=>if Xq x then Vt { t with script:=Vp x } ps else Vt t (x::ps)
def Ww:List Str→Option Tg
 |[]=>none
 |x::ps=>if Vw x then Fc { Tg.zero with lang:=Vh x } ps else none
def okR (x:Res):Option Tg:=if x.err=0 then some x.tag else none
theorem Hl (e:Nat)(r:Rd)(h:e≠0):okR (bad e r)=none:=by unfold okR bad;rw[if_neg h]
theorem Gr (r:Rd)(h:r.ok):(r.fin=true∧r.subs=[]∧r.sub=[])∨(r.fin=false∧∃ps,r.subs=r.sub::ps∧r.next.subs=ps):=by
 cases hf:r.fin
 ·right
  refine⟨rfl,_,by unfold Rd.subs;rw[hf];rfl,?_⟩
  rw[subs_next r h];unfold Rd.subs;rw[hf]
  rfl
 ·left
  exact⟨rfl,by unfold Rd.subs;rw[hf];rfl,(h hf).1⟩
end
section
theorem Xvh:Xj []=false:=by decide
theorem Zjy:Jt []=false:=by decide
theorem Qlj:Zh []=false:=by decide
theorem Zfw:Xz []=false:=by decide
theorem Zfy:Xq []=false:=by decide
theorem Xvg:Vw []=false:=by decide
theorem Gs (r:Rd):r.next.rest.length≤r.rest.length:=by
 have:=Rd.next_all r
 unfold Rd.next
 cases r.rest with
 |nil=>simp
 |cons c l=>have:=Jj l;simp;omega
theorem Xch:∀(n:Nat)(r:Rd)(acc:List Str),r.ok→(r.rest.length+2≤n∨(Xj r.sub=false∧1≤n)) →
  (Fj n r acc).1=acc++(r.subs.takeWhile Xj).map lower∧(Fj n r acc).2.subs=r.subs.dropWhile Xj∧(Fj n r acc).2.ok∧(Fj n r acc).2.rest.length≤r.rest.length
 |0,r,acc,h,hm=>by rcases hm with h|h <;> omega
 |n+1,r,acc,h,hm=>by
  unfold Fj
  rcases Gr r h with ⟨hf,hs,hb⟩|⟨hf,ps,hs,hn⟩
  ·rw[hb,hs];simp only[Xvh,Bool.false_eq_true,if_false,List.takeWhile_nil,List.dropWhile_nil,List.map_nil,List.append_nil]
   exact⟨trivial,hs,h,Nat.le_refl _⟩
  ·by_cases hq:Xj r.sub=true
   ·have hm2:r.rest.length+2≤n+1:=by
     rcases hm with h|h
     ·exact h
     ·rw[hq]at h;cases h.1
    obtain⟨h1,h2,h3,h4⟩:=Xch n r.next (acc++[lower r.sub]) (Mj r h) (Zzz hm2)
    rw[if_pos hq,h1,h2,hs,hn]
    refine⟨by simp[List.takeWhile_cons,hq],by simp[List.dropWhile_cons,hq],h3,Nat.le_trans h4 (Gs r)⟩
   ·have hq2:Xj r.sub=false:=by simpa using hq
    rw[if_neg hq,hs]
    refine⟨by simp[List.takeWhile_cons,hq2],by simp[List.dropWhile_cons,hq2,hs],h,Nat.le_refl _⟩
theorem keys_L:∀(n:Nat)(t:Tg)(r:Rd),r.ok→r.rest.length≤128→17≤n+t.keys.length→t.keys.length≤16→okR (Cj n t r)=Ng n t r.subs
 |0,t,r,h,hl,hn,hk=>by omega
 |n+1,t,r,h,hl,hn,hk=>by
  unfold Cj
  rcases Gr r h with ⟨hf,hs,hb⟩|⟨hf,ps,hs,hnx⟩
  ·rw[hb,hs,Zjy,hf]
   simp[Ng,okR]
  ·rw[hs,hf];simp only[Ng]
   by_cases hq:Jt r.sub=true
   ·simp only[hq,if_true]
    by_cases hd:(t.keys.any fun p=>p.1==lower r.sub)=true
    ·rw[if_pos hd,if_pos hd];exact Hl _ _ (by decide)
    ·rw[if_neg hd,if_neg hd]
     by_cases h16:t.keys.length=16
     ·rw[if_pos h16,if_pos h16];exact Hl _ _ (by decide)
     ·rw[if_neg h16,if_neg h16]
      obtain⟨h1,h2,h3,h4⟩:=Xch 130 r.next [] (Mj r h) (Or.inl (by have:=Gs r;omega))
      rw[keys_L n { t with keys:=t.keys++[(lower r.sub,value (Fj 130 r.next []).1)] } (Fj 130 r.next []).2 h3 (by have:=Gs r;omega) (by simp;omega) (by simp;omega),h2,h1,hnx]
      rfl
   ·simp only[hq];simp only[Bool.false_eq_true,if_false];exact Hl _ _ (by decide)
theorem tail_L (t:Tg)(r:Rd)(h:r.ok)(hl:r.rest.length≤128)(hk:t.keys=[]):okR (Ud t r)=Nf t r.subs:=by
 unfold Ud
 rcases Gr r h with ⟨hf,hs,hb⟩|⟨hf,ps,hs,hnx⟩
 ·rw[hs,hf];simp[Nf,okR]
 ·rw[hs,hf];simp only[Bool.false_eq_true,if_false];simp only[Nf]
  by_cases hu:lower r.sub=[117]
  ·rw[if_pos hu,if_pos hu];have hl2:=Gs r
   rcases Gr r.next (Mj r h)with ⟨hf2,hs2,hb2⟩|⟨hf2,qs,hs2,hn2⟩
   ·rw[hb2,Zjy,←hnx,hs2];simp only[Bool.false_eq_true,if_false];exact Hl _ _ (by decide)
   ·rw[←hnx,hs2]
    by_cases hq:Jt r.next.sub=true
    ·rw[if_pos hq];simp only[hq,if_true];rw[keys_L 17 { t with vars:=Fz t.vars } r.next (Mj r h) (by omega) (by simp) (by simp[hk]),hs2]
    ·rw[if_neg hq];simp only[hq];exact Hl _ _ (by decide)
  ·rw[if_neg hu,if_neg hu];exact Hl _ _ (by decide)
theorem Zfh:∀(n:Nat)(t:Tg)(r:Rd),r.ok→r.rest.length≤128→9≤n+t.vars.length→t.vars.length≤8→t.keys=[]→okR (Cl n t r)=Dw n t r.subs
 |0,t,r,h,hl,hn,hv,hk=>by omega
 |n+1,t,r,h,hl,hn,hv,hk=>by
  unfold Cl
  rcases Gr r h with ⟨hf,hs,hb⟩|⟨hf,ps,hs,hnx⟩
  ·rw[hb,Qlj,hs];simp only[Bool.false_eq_true,if_false,Dw];rw[tail_L t r h hl hk,hs]
  ·rw[hs];simp only[Dw]
   by_cases hq:Zh r.sub=true
   ·rw[if_pos hq,if_pos hq]
    by_cases hd:t.vars.contains (lower r.sub)=true
    ·rw[if_pos hd,if_pos hd];exact Hl _ _ (by decide)
    ·rw[if_neg hd,if_neg hd]
     by_cases h8:t.vars.length=8
     ·rw[if_pos h8,if_pos h8];exact Hl _ _ (by decide)
     ·rw[if_neg h8,if_neg h8,Zfh n { t with vars:=t.vars++[lower r.sub] } r.next (Mj r h) (by have:=Gs r;omega) (by simp;omega) (by simp;omega) hk,hnx]
   ·rw[if_neg hq,if_neg hq,tail_L t r h hl hk,hs]
theorem Qcj (t:Tg)(r:Rd)(h:r.ok)(hl:r.rest.length≤128)(hv:t.vars=[])(hk:t.keys=[]):okR (Fk t r)=Vt t r.subs:=by
 unfold Fk;have hl2:=Gs r
 rcases Gr r h with ⟨hf,hs,hb⟩|⟨hf,ps,hs,hnx⟩
 ·rw[hb,Zfw,hs];simp only[Bool.false_eq_true,if_false,Vt];rw[Zfh 9 t r h hl (by omega) (by simp[hv]) hk,hs]
 ·rw[hs];simp only[Vt]
  by_cases hq:Xz r.sub=true
  ·rw[if_pos hq,if_pos hq,Zfh 9 { t with region:=Kf r.sub } r.next (Mj r h) (by omega) (by simp) (by simp[hv]) hk,hnx]
  ·rw[if_neg hq,if_neg hq,Zfh 9 t r h hl (by omega) (by simp[hv]) hk,hs]
theorem script_L (t:Tg)(r:Rd)(h:r.ok)(hl:r.rest.length≤128)(hv:t.vars=[])(hk:t.keys=[]):okR (Bf t r)=Fc t r.subs:=by
 unfold Bf;have hl2:=Gs r
 rcases Gr r h with ⟨hf,hs,hb⟩|⟨hf,ps,hs,hnx⟩
 ·rw[hb,Zfy,hs];simp only[Bool.false_eq_true,if_false,Fc];rw[Qcj t r h hl hv hk,hs]
 ·rw[hs];simp only[Fc]
  by_cases hq:Xq r.sub=true
  ·rw[if_pos hq,if_pos hq,Qcj { t with script:=Vp r.sub } r.next (Mj r h) (by omega) hv hk,hnx]
  ·rw[if_neg hq,if_neg hq,Qcj t r h hl hv hk,hs]
theorem Zfg (s:Str):okR (Xp s)=if 128<s.length then none else if lower s=Qs then some Tg.zero else Ww (Rd.first s).subs:=by
 unfold Xp
 by_cases h1:128<s.length
 ·rw[if_pos h1,if_pos h1];rfl
 ·rw[if_neg h1,if_neg h1]
  by_cases h2:lower s=Qs
  ·rw[if_pos h2,if_pos h2];rfl
  ·rw[if_neg h2,if_neg h2];have ha:=Rd.first_all s;have hl2:=Gs (Rd.first s);unfold Rd.all at ha
   rcases Gr _ (Zrk s)with ⟨hf,hs,hb⟩|⟨hf,ps,hs,hnx⟩
   ·rw[hb,Xvg,hs];simp only[Bool.false_eq_true,if_false,Ww];exact Hl _ _ (by decide)
   ·rw[hs];simp only[Ww]
    by_cases hq:Vw (Rd.first s).sub=true
    ·rw[if_pos hq,if_pos hq,script_L _ _ (Mj _ (Zrk s)) (by omega) rfl rfl,hnx]
    ·rw[if_neg hq,if_neg hq];exact Hl _ _ (by decide)
end
section
def jt (ps:List Str):Str:=Lib.joinTail [45] ps
theorem Xwq:jt []=[]:=rfl
theorem Bn (p:Str)(ps:List Str):jt (p::ps)=45::(p++jt ps):=by simp[jt,Lib.joinTail]
theorem Qxv (a b:List Str):jt (a++b)=jt a++jt b:=by simp[jt,Lib.joinTail]
theorem Xcg (p:Str)(ps:List Str)(h:Dv p):(p++jt ps).takeWhile Jz=p∧(p++jt ps).dropWhile Jz=jt ps:=by
 induction p with
 |nil =>
  cases ps with
  |nil=>exact⟨rfl,rfl⟩
  |cons q qs=>rw[Bn];exact⟨rfl,rfl⟩
 |cons c p ih =>
  have hc:Jz c=true:=h c (List.mem_cons_self)
  obtain⟨h1,h2⟩:=ih fun d hd=>h d (List.mem_cons_of_mem _ hd)
  rw[List.cons_append,List.takeWhile_cons,List.dropWhile_cons]
  simp[hc,h1,h2]
theorem Zrv:∀(n:Nat)(ps:List Str),(∀p∈ps,Dv p)→(jt ps).length≤n→Vf n (jt ps)=ps
 |n,[],_,_=>by rw[Xwq];cases n <;> rfl
 |0,p::ps,_,h=>by rw[Bn]at h;simp at h
 |n+1,p::ps,hc,h=>by
  obtain⟨h1,h2⟩:=Xcg p ps (hc p (List.mem_cons_self))
  rw[Bn]at h ⊢;simp only[Vf,h1,h2];rw[Zrv n ps (fun q hq=>hc q (List.mem_cons_of_mem _ hq)) (by simp at h;omega)]
theorem Uz (p:Str)(ps:List Str):Lib.join (p::ps) [45]=p++jt ps:=Lib.join_cons p ps [45]
theorem Zjh (p:Str)(ps:List Str)(h0:p≠[])(hc:∀q∈p::ps,Dv q):(Rd.first (Lib.join (p::ps) [45])).subs=p::ps:=by
 rw[Uz]
 obtain⟨h1,h2⟩:=Xcg p ps (hc p (List.mem_cons_self))
 have hne:p++jt ps≠[]:=fun e=>h0 (List.append_eq_nil_iff.1 e).1
 unfold Rd.first Rd.subs;rw[if_neg hne];simp only[h1,h2,Bool.false_eq_true,if_false];rw[Zrv _ ps (fun q hq=>hc q (List.mem_cons_of_mem _ hq)) (Nat.le_refl _)]
def sz (ps:List Str):Nat:=(ps.map fun p=>p.length+1).sum
theorem Wy:sz []=0:=rfl
theorem Kq (p:Str)(ps:List Str):sz (p::ps)=p.length+1+sz ps:=by simp[sz]
theorem Zg (a b:List Str):sz (a++b)=sz a+sz b:=by simp[sz]
theorem Xmq {a b:List Str}(h:a.Perm b):sz a=sz b:=(h.map _).sum_nat
theorem sz_lower (a:List Str):sz (a.map lower)=sz a:=by
 induction a with
 |nil=>rfl
 |cons x a ih=>rw[List.map_cons,Kq,Kq,ih,Xt]
theorem jt_len (ps:List Str):(jt ps).length=sz ps:=by
 induction ps with
 |nil=>rfl
 |cons p ps ih=>rw[Bn,Kq,←ih];simp;omega
theorem Xmz (p:Str)(ps:List Str):(Lib.join (p::ps) [45]).length+1=sz (p::ps):=by
 rw[Uz,List.length_append,jt_len,Kq];omega
theorem Zrw:∀(n:Nat)(l:Str),l.length≤n→sz (Vf n l)=l.length
 |n,[],_=>by cases n <;> rfl
 |0,c::l,h=>by simp at h
 |n+1,c::l,h=>by
  have:=Jj l
  simp only[List.length_cons]at h;simp only[Vf];rw[Kq,Zrw n _ (by omega),List.length_cons]
  omega
theorem subs_sz (s:Str)(h:s≠[]):sz (Rd.first s).subs=s.length+1:=by
 have:=Jj s
 unfold Rd.first Rd.subs;rw[if_neg h];simp only[Bool.false_eq_true,if_false];rw[Kq,Zrw _ _ (Nat.le_refl _)]
 omega
end
section
theorem low_low (c:UInt8):Ul (Ul c)=Ul c:=Gn (p:=fun c=>Ul (Ul c)=Ul c) (by decide +kernel) c
theorem Xmx (c:UInt8):Uf (Uf c)=Uf c:=Gn (p:=fun c=>Uf (Uf c)=Uf c) (by decide +kernel) c
theorem cls_low (c:UInt8):cls (Ul c)=cls c:=Gn (p:=fun c=>cls (Ul c)=cls c) (by decide +kernel) c
theorem cls_upp (c:UInt8):cls (Uf c)=cls c:=Gn (p:=fun c=>cls (Uf c)=cls c) (by decide +kernel) c
theorem Qxw (c:UInt8):(Yt c||Gg c)=true→Jz c=true:=Gn (p:=fun c=>(Yt c||Gg c)=true→Jz c=true) (by decide +kernel) c
theorem Qxy (c:UInt8):Yt c=true→Jz c=true:=fun h=>Qxw c (by rw[h];rfl)
theorem dig_noSep (c:UInt8):Gg c=true→Jz c=true:=fun h=>Qxw c (by rw[h];simp)
theorem Dy (l:Str):lower (lower l)=lower l:=by
 unfold lower;rw[List.map_map];exact List.map_congr_left fun c _=>low_low c
theorem Zry (l:Str):Kf (Kf l)=Kf l:=by
 unfold Kf;rw[List.map_map];exact List.map_congr_left fun c _=>Xmx c
theorem Zrh (l:Str):Vp (Vp l)=Vp l:=by
 cases l with
 |nil=>rfl
 |cons c l =>
  show Kf ((Vp (c::l)).take 1)++lower ((Vp (c::l)).drop 1)=_
  have:Vp (c::l)=Uf c::lower l:=rfl
  rw[this];show Kf [Uf c]++lower (lower l)=_;rw[Dy]
  simp[Kf,Xmx]
theorem Nb (l:Str):(lower l).map cls=l.map cls:=by
 unfold lower;rw[List.map_map];exact List.map_congr_left fun c _=>cls_low c
theorem Zjg (l:Str):(Kf l).map cls=l.map cls:=by
 unfold Kf;rw[List.map_map];exact List.map_congr_left fun c _=>cls_upp c
theorem title_map (l:Str):(Vp l).map cls=l.map cls:=by
 unfold Vp;rw[List.map_append,Zjg,Nb,←List.map_append,List.take_append_drop]
theorem Zrg (l:Str):Jt (lower l)=Jt l:=by rw[←Zjw,Nb,Zjw]
theorem Zbq (l:Str):Xj (lower l)=Xj l:=by rw[←Qcx,Nb,Qcx]
theorem Qhk (l:Str):Zh (lower l)=Zh l:=by rw[←Um,Nb,Um]
theorem Zbz (l:Str):Vw (lower l)=Vw l:=by rw[←Qcz,Nb,Qcz]
theorem Qck (l:Str):Xz (Kf l)=Xz l:=by rw[←Ek,Zjg,Ek]
theorem Qcv (l:Str):Xq (Vp l)=Xq l:=by rw[←Ej,title_map,Ej]
theorem Dh {l:Str}{a b:Nat}(h:Jp l a b=true):Dv l∧a≤l.length∧l.length≤b:=by
 unfold Jp at h;simp only[Bool.and_eq_true,decide_eq_true_eq]at h
 exact⟨fun c hc=>Qxw c (List.all_eq_true.1 h.2.2 c hc),h.1,h.2.1⟩
theorem Pv {p:UInt8→Bool}(hp:∀c,p c=true→Jz c=true){l:Str}(h:Yh p l=true):Dv l:=by
 unfold Yh at h;simp only[Bool.and_eq_true]at h;exact fun c hc=>hp c (List.all_eq_true.1 h.1 c hc)
theorem Pw {l:Str}(h:Xj l=true):Dv l∧3≤l.length∧l.length≤8:=Dh h
theorem Zkq {l:Str}(h:Jt l=true):Dv l∧l.length=2:=by
 unfold Jt at h;simp only[Bool.and_eq_true]at h
 obtain⟨h1,h2,h3⟩:=Dh h.1
 exact⟨h1,by omega⟩
theorem Mb {l:Str}(h:Zh l=true):Dv l∧4≤l.length∧l.length≤8:=by
 unfold Zh at h;simp only[Bool.or_eq_true,Bool.and_eq_true]at h
 rcases h with h|h
 ·obtain⟨h1,h2,h3⟩:=Dh h;exact⟨h1,by omega,h3⟩
 ·obtain⟨h1,h2,h3⟩:=Dh h.1;exact⟨h1,h2,by omega⟩
theorem Py {l:Str}(h:Xq l=true):Dv l∧l.length=4:=by
 unfold Xq Vy at h;simp only[Bool.and_eq_true,beq_iff_eq]at h
 exact⟨Pv Qxy h.2,h.1⟩
theorem Ph {l:Str}(h:Xz l=true):Dv l∧(l.length=2∨l.length=3):=by
 unfold Xz Vy at h;simp only[Bool.or_eq_true,Bool.and_eq_true,beq_iff_eq]at h
 rcases h with h|h
 ·exact⟨Pv Qxy h.2,Or.inl h.1⟩
 ·exact⟨Pv dig_noSep h.2,Or.inr h.1⟩
theorem Wh {l:Str}(h:Vw l=true):Dv l∧(l.length=2∨l.length=3∨(5≤l.length∧l.length≤8)):=by
 unfold Vw at h;simp only[Bool.or_eq_true,Bool.and_eq_true,beq_iff_eq,decide_eq_true_eq]at h
 refine⟨Pv Qxy h.1,?_⟩
 rcases h.2 with (h|h)|h
 ·exact Or.inl h
 ·exact Or.inr (Or.inl h)
 ·exact Or.inr (Or.inr h)
end
end Go.Proofs.YtbbmdbolkicpcabGreatDoor
