/- PtStep, PtParseA, PtText, PtMay, PtMayB, Open -/
import Derived.Test.YtbbmdbolkicpcaaGreatDoorILG04
import Derived.Test.YtbbmdbolkicpcaaGreatDoorILG05
import Derived.Test.YtbbmdbolkicpcaaGreatDoorILG02
import Derived.WalkMore
import Derived.Deep.LoopGhost
import Derived.Deep.CutBlock
import Derived.SliceStrings
import Derived.WideShapes
import Derived.ChangeArms
import Derived.ChangeSame
set_option maxRecDepth 100000
set_option maxHeartbeats 32000000
set_option linter.unusedVariables false
set_option linter.unusedSimpArgs false
namespace Go.Proofs.YtbbmdbolkicpcaaGreatDoor
section
open Go.RowKit Go.Lib
theorem pname_one (Br:Nat)(b:ByteArray)(p:Nat)(w:World)(h:PRd w Br b p 0 0)(hp:p≤b.size)(hb:b.size≤1000) :
  Calls Tryz.prog 110 #[.pointer (some ⟨Br,0,none⟩)] w fun x w'=>∃ (n:Str) (ok:Bool),x=.returned (.tuple #[.string ⟨n.toArray⟩,.bool ok])∧Qr Br w w' ∧
   ((ok=true∧∃ q,nameP (b.data.toList.drop p)=some (n,b.data.toList.drop q)∧PRd w' Br b q 0 0∧q≤b.size∧p≤q)∨(ok=false∧nameP (b.data.toList.drop p)=none∧∃ q e a,e≠0∧PRd w' Br b q e a)):=by
 refine(pname_any Br b p w h hp hb).mono fun x w' hr=>?_
 rcases hr with ⟨n,r,q,h1,h2,h3,h4,h5,h6,h7⟩ | ⟨h1,h2,h3,h4⟩
 ·exact⟨n,true,h2,h7,Or.inl ⟨rfl,q,by rw [h1,h6],h3,h4,h5⟩⟩
 ·exact⟨[],false,h2,h4,Or.inr ⟨rfl,h1,h3⟩⟩
theorem name_q {b:ByteArray}{p q:Nat}{n:Str}(h:nameP (b.data.toList.drop p)=some (n,b.data.toList.drop q))(hq:q≤b.size)(hp:p≤b.size):p<q:=by
 obtain⟨e,h0,_⟩:=nameP_split h
 have:=congrArg List.length e
 rw [List.length_append,List.length_drop,List.length_drop,← Lib.size_eq] at this
 omega
theorem pnext_two (c:UInt8)(Br:Nat)(b:ByteArray)(p:Nat)(w:World)(h:PRd w Br b p 0 0)(hp:p≤b.size)(hb:b.size≤1000) :
  Calls Tryz.prog 86 #[.pointer (some ⟨Br,0,none⟩),.int .u8 (c.toNat:Int)] w fun x w'=>Qr Br w w' ∧
   ∃ ok:Bool,x=.returned (.bool ok)∧((ok=false∧Xp c (b.data.toList.drop p)=none∧PRd w' Br b p 0 0)∨(ok=true∧Xp c (b.data.toList.drop p)=some (b.data.toList.drop (p+1))∧p<b.size∧PRd w' Br b (p+1) 0 0)):=by
 refine(pnext_any Br b p 0 0 c w h hp hb).mono fun x w' hr=>?_
 obtain⟨h1,h2,h3⟩:=hr
 refine⟨h3,_,h1,?_⟩
 cases htb:Xp c (b.data.toList.drop p) with
 | none=>rw [htb] at h2;exact Or.inl ⟨rfl,rfl,h2⟩
 | some r =>
  rw [htb] at h2;have hlt:p<b.size:=by
   rcases Nat.lt_or_ge p b.size with h | h
   ·exact h
   ·rw [takeB_end b p c (by omega)] at htb;cases htb
  refine Or.inr ⟨rfl,?_,hlt,h2⟩;rw [takeB_at b p c hlt] at htb
  split at htb
  ·exact htb.symm
  ·cases htb
theorem pvalue_one (Br:Nat)(b:ByteArray)(p:Nat)(w:World)(h:PRd w Br b p 0 0)(hp:p≤b.size)(hb:b.size≤1000)(hu:Zm (b.data.toList.drop p)=true) :
  Calls Tryz.prog 111 #[.pointer (some ⟨Br,0,none⟩)] w fun x w'=>∃ (v:Str) (ok:Bool),x=.returned (.tuple #[.string ⟨v.toArray⟩,.bool ok])∧Qr Br w w' ∧
   ((ok=true∧∃ q,Qp false [] (b.data.toList.drop p)=some (v,b.data.toList.drop q)∧PRd w' Br b q 0 0∧q≤b.size∧p≤q∧Zm (b.data.toList.drop q)=true)∨(ok=false∧Qp false [] (b.data.toList.drop p)=none∧∃ q e a,e≠0∧PRd w' Br b q e a)):=by
 refine(pvalue_any Br b p w h hp hb hu).mono fun x w' hr=>?_
 rcases hr with ⟨n,r,q,h1,h2,h3,h4,h5,h6,h7,h8⟩ | ⟨h1,h2,h3,h4⟩
 ·exact⟨n,true,h2,h8,Or.inl ⟨rfl,q,by rw [h1,h6],h3,h4,h5,by rw [← h6];exact h7⟩⟩
 ·exact⟨[],false,h2,h4,Or.inr ⟨rfl,h1,h3⟩⟩
def KeySt (w : World) (Br Sb : Nat) (b : ByteArray) (p : Nat) (n : Str) (g : Nat) (v5 : Value) (W : World) : Prop :=
  ∃ (ok : Bool) (kv : Value) (ks : List (Str × Str)), v5 = .bool ok ∧ SSt w Br Sb n W kv ks ∧
    ((ok = true ∧ ∃ q, PRd W Br b q 0 0 ∧ p < q ∧ q ≤ b.size ∧ Zm (b.data.toList.drop q) = true ∧ stepP (b.data.toList.drop p) = (keysW ks (b.data.toList.drop q)).map (fun z => ((n, z.1), z.2)) ∧ ks.length ≤ q ∧ b.size + 2 ≤ q + g) ∨
     (ok = false ∧ stepP (b.data.toList.drop p) = none ∧ ∃ q e a, e ≠ 0 ∧ PRd W Br b q e a))
theorem wp_sameS {P:Program}{c d:Code}{Q:Exit→Act→World→Prop}{a:Act}{w:World}(h:c.wp P Q a w)(e:some (Code.seq .skip c)=some (Code.seq .skip d)):d.wp P Q a w:=by
 injection e with e
 injection e with _ e
 exact e ▸ h
theorem wp_skip_seqS {P:Program}{c:Code}{Q:Exit→Act→World→Prop}{a:Act}{w:World}(h:c.wp P Q a w):(Code.seq .skip c).wp P Q a w:=by
 go_wp2_with fail;exact h
theorem list_litS (n:Nat)(l:List Value)(h:l.length=n):l=(List.range n).map fun i=>l.getD i undef:=by
 apply List.ext_getElem?
 intro i
 by_cases hi:i<n
 ·simp [hi,h]
 ·rw [List.getElem?_eq_none (by omega),List.getElem?_eq_none (by simp;omega)]
theorem frame_litS (t:Array Value)(h:t.size=83):∃ u:Nat→Value,(∀ i,t.getD i undef=u i)∧t=#[u 0,u 1,u 2,u 3,u 4,u 5,u 6,u 7,u 8,u 9,u 10,u 11,u 12,u 13,u 14,u 15,u 16,u 17,u 18,u 19,u 20,u 21,u 22,u 23,u 24,u 25,u 26,u 27,u 28,u 29,u 30,u 31,u 32,u 33,u 34,u 35,u 36,u 37,u 38,u 39,u 40,u 41,u 42,u 43,u 44,u 45,u 46,u 47,u 48,u 49,u 50,u 51,u 52,u 53,u 54,u 55,u 56,u 57,u 58,u 59,u 60,u 61,u 62,u 63,u 64,u 65,u 66,u 67,u 68,u 69,u 70,u 71,u 72,u 73,u 74,u 75,u 76,u 77,u 78,u 79,u 80,u 81,u 82]:=by
 refine⟨fun i=>t.getD i undef,fun _=>rfl,?_⟩
 have e:=list_litS 83 t.toList (by simpa using h);have e2:t=⟨(List.range 83).map fun i=>t.toList.getD i undef⟩:=by
  rw [← e]
 have e3:∀ i,t.toList.getD i undef=t.getD i undef:=fun i=>by simp [Array.getD_eq_getD_getElem?]
 simp only [e3] at e2;exact e2
structure FrS (Br Rb Sb:Nat)(v5:Value)(a:Act):Prop where
 d:a.defers=[]
 n:a.tmps.size=83
 s0:a.tmps.getD 0 undef=.pointer (some ⟨Br,0,none⟩)
 s2:a.tmps.getD 2 undef=.pointer (some ⟨Rb,0,none⟩)
 s5:a.tmps.getD 5 undef=v5
 s6:a.tmps.getD 6 undef=.pointer (some ⟨Sb,0,none⟩)
theorem FrS.lit {Br Rb Sb:Nat}{v5:Value}{a:Act}(h:FrS Br Rb Sb v5 a):∃ u:Nat→Value,a={ tmps:=#[.pointer (some ⟨Br,0,none⟩),u 1,.pointer (some ⟨Rb,0,none⟩),u 3,u 4,v5,.pointer (some ⟨Sb,0,none⟩),u 7,u 8,u 9,u 10,u 11,u 12,u 13,u 14,u 15,u 16,u 17,u 18,u 19,u 20,u 21,u 22,u 23,u 24,u 25,u 26,u 27,u 28,u 29,u 30,u 31,u 32,u 33,u 34,u 35,u 36,u 37,u 38,u 39,u 40,u 41,u 42,u 43,u 44,u 45,u 46,u 47,u 48,u 49,u 50,u 51,u 52,u 53,u 54,u 55,u 56,u 57,u 58,u 59,u 60,u 61,u 62,u 63,u 64,u 65,u 66,u 67,u 68,u 69,u 70,u 71,u 72,u 73,u 74,u 75,u 76,u 77,u 78,u 79,u 80,u 81,u 82],defers:=[] }:=by
 obtain⟨t,d⟩:=a
 obtain⟨hd,hn,h0,h2,h5,h6⟩:=h
 simp only at hd hn h0 h2 h5 h6
 obtain⟨u,hu,e⟩:=frame_litS t hn
 rw [hu] at h0 h2 h5 h6
 refine⟨u,?_⟩
 rw [h0,h2,h5,h6] at e;rw [e,hd]
def JS (w:World)(Br:Nat)(b:ByteArray)(p:Nat):Nat→Nat→Act→World→Prop
 | 0,n,a,W=>∃ Sb nm v5,FrS Br w.heap.size Sb v5 a∧KeySt w Br Sb b p nm n v5 W
 | _,_,_,_=>False
def bodyOfS (f:Func)(l:Nat):Option Code:=f.body.bind fun c=>match c with | .seq _ (.scope c)=>findLabel c l | _=>none
theorem last_cells {W:World}{B g c:Nat}{ks:List (Str×Str)}(h:Qd W B (.slice (some ⟨g,0,none⟩) ks.length c) ks)(hne:ks≠[]):∃ k0,(∀ k,lastGE ks k=decide (k≤k0))∧W.cell? ⟨g,(ks.length - 1) * 2,none⟩=some (.string ⟨k0.toArray⟩):=by
 have hl:0<ks.length:=List.length_pos_iff.2 hne
 refine⟨(ks[ks.length - 1]'(by omega)).1,fun k=>?_,?_⟩
 ·unfold lastGE;rw [List.getLast?_eq_getElem?,List.getElem?_eq_getElem (by omega)]
 ·rcases h.shape with ⟨e,_⟩ | ⟨g',cap,cur,e,hB,hg,hn,hm,hs,ht⟩
  ·cases e
  ·cases e
   have:=flat2_get ks (ks.length - 1) 0 (by omega) (by decide)
   rw [Nat.add_zero] at this;exact cells_at hg ht _ _ (by rw [this];rfl)
theorem step_run (w:World)(Br:Nat)(b:ByteArray)(p:Nat)(hp:p≤b.size)(hb:b.size≤512):∃ rest,bodyOfS Tryz.f85 0=some (.seq .skip rest)∧∀ n a W,JS w Br b p 0 n a W→∀ Jx:Nat→Act→World→Prop,(∀ n' a' w',n'<n→JS w Br b p 0 n' a' w'→Jx 0 a' w') →
  rest.wp Tryz.prog (Exit.jumps Jx (bodyPost Tryz.prog Tryz.f85 (fun x w'=>StepRes Br b p w x w'))) a W:=by
 refine⟨_,rfl,?_⟩
 intro g a W hJ Jx hJx
 obtain⟨Sb,n,v5,hfr,ok,kv,ks,rfl,st,hst⟩:=hJ
 obtain⟨u,rfl⟩:=hfr.lit
 have HX:=hid hJx;have ST:=hid st;have HK:=hid hst;have NM:=hid (fun q W (h:PRd W Br b q 0 0) (hq:q≤b.size)=>pname_one Br b q W h hq (by omega));have NX1:=hid (fun q W (h:PRd W Br b q 0 0) (hq:q≤b.size)=>(show Calls Tryz.prog 86 #[.pointer (some ⟨Br,0,none⟩),.int .u8 91] W _ from pnext_two 91 Br b q W h hq (by omega)));have NX2:=hid (fun q W (h:PRd W Br b q 0 0) (hq:q≤b.size)=>(show Calls Tryz.prog 86 #[.pointer (some ⟨Br,0,none⟩),.int .u8 61] W _ from pnext_two 61 Br b q W h hq (by omega)));have VL:=hid (fun q W (h:PRd W Br b q 0 0) (hq:q≤b.size) (hu:Zm (b.data.toList.drop q)=true)=>pvalue_one Br b q W h hq (by omega) hu);have FA:=hid (fun q er ea e a W (h:PRd W Br b q er ea)=>pfail_any Br b q er ea e a W h);clear hfr hJx st hst
 obtain⟨ak,ck,rfl⟩:=Ql ST.out.own
 obtain⟨s0,s1,sf0,sf1,slt⟩:=Qq ST.out.sb
 obtain⟨r0,r1,rf0,rf1,rlt⟩:=Qq ST.out.rb
 cases ok with
 | false =>
  obtain⟨hno,q,er,ea,hne,hrd⟩:stepP (b.data.toList.drop p)=none∧∃ q e a,e≠0∧PRd W Br b q e a:=by
   rcases HK.out with ⟨h,_⟩ | ⟨_,h⟩
   ·cases h
   ·exact h
  have HNO:=hid hno;have HRD:=hid hrd;have HNE:=hid hne;clear hno hrd hne HK;go_wp2_with fail;simp only [Exit.jumps];change bodyPost _ _ _ _ _ (P2 W w.heap.size (.string ⟨n.toArray⟩) (.slice ak ks.length ck));exact step_ret ST.out.rb rfl rfl rfl (Or.inr ⟨HNO.out,⟨_,_,_,_,rfl⟩,⟨q,er,ea,HNE.out,ST.out.rd2 HRD.out _ _⟩,ST.out.ret _ _⟩)
 | true =>
  obtain⟨q,hrd,hpq,hqb,huq,hke,hks,hg⟩:∃ q,PRd W Br b q 0 0∧p<q∧q≤b.size∧Zm (b.data.toList.drop q)=true∧stepP (b.data.toList.drop p)=(keysW ks (b.data.toList.drop q)).map (fun z=>((n,z.1),z.2))∧ks.length≤q∧b.size+2≤q+g:=by
   rcases HK.out with ⟨_,h⟩ | ⟨h,_⟩
   ·exact h
   ·cases h
  have HRD:=hid hrd;have HUQ:=hid huq;have HKE:=hid hke;have HKS:=hid hks;have HG:=hid hg;have HPQ:=hid hpq;have HQB:=hid hqb;clear hrd huq hke hks hg HK hpq hqb;go_wp2_with fail
  refine(NX1.out q W HRD.out HQB.out).mono ?_
  rintro e W2 ⟨o2,okx,rfl,hx⟩;have ST2:=hid (ST.out.step o2);clear s0 s1 sf0 sf1 slt r0 r1 rf0 rf1 rlt o2 ST HRD
  obtain⟨s0,s1,sf0,sf1,slt⟩:=Qq ST2.out.sb
  obtain⟨r0,r1,rf0,rf1,rlt⟩:=Qq ST2.out.rb
  cases okx with
  | false =>
   obtain⟨htb,hrd⟩:Xp 91 (b.data.toList.drop q)=none∧PRd W2 Br b q 0 0:=by
    rcases hx with ⟨_,h1,h2⟩ | ⟨h,_⟩
    ·exact⟨h1,h2⟩
    ·cases h
   have HE:=hid (show stepP (b.data.toList.drop p)=some ((n,ks),b.data.toList.drop q) by rw [HKE.out,keysW_eq,htb];rfl);have HRD:=hid hrd;clear hx htb hrd;go_wp2_with fail;simp only [Exit.jumps];change bodyPost _ _ _ _ _ (P2 W2 w.heap.size (.string ⟨n.toArray⟩) (.slice ak ks.length ck));exact step_ret ST2.out.rb rfl rfl rfl (Or.inl ⟨(n,ks),_,q,_,HE.out,rfl,ST2.out.own2 _ _,ST2.out.rd2 HRD.out _ _,HQB.out,HPQ.out,rfl,HUQ.out,ST2.out.ret _ _⟩)
  | true =>
   obtain⟨htb,hql,hrd⟩:Xp 91 (b.data.toList.drop q)=some (b.data.toList.drop (q+1))∧q<b.size∧PRd W2 Br b (q+1) 0 0:=by
    rcases hx with ⟨h,_⟩ | ⟨_,h1,h2,h3⟩
    ·cases h
    ·exact⟨h1,h2,h3⟩
   have HU1:=hid (utfB_take (by decide) htb HUQ.out);have HE1:=hid (show keysW ks (b.data.toList.drop q)=match keyP ks (b.data.toList.drop (q+1)) with
    | none=>none
    | some (p,r3)=>keysW (ks++[p]) r3 by rw [keysW_eq,htb] <;> rfl)
   have HRD:=hid hrd;have HQL:=hid hql;clear hx htb hrd hql
   obtain⟨c0,c1,c2,c3,f1,f2,f3,lt⟩:=HRD.out.cells
   have FK:=hid (heap_alloc_new W2 (.cells #[.string ⟨#[]⟩,.string ⟨#[]⟩] 76));have hb3:Below W2.heap.size W2 (W2.alloc (.cells #[.string ⟨#[]⟩,.string ⟨#[]⟩] 76)):=bal _ _;have ST3:=hid (ST2.out.below hb3);have HR3:=hid (HRD.out.below hb3);have HNK:=hid (show(Value.slice ak ks.length ck).ownBlock≠some W2.heap.size from fun e=>by have:=(World.ownsRow.lt ST2.out.own _ e).2;omega);have HSK:=hid (show Sb<W2.heap.size from slt);clear hb3;go_upto_region 7 with fail;generalize W2.alloc (.cells #[.string ⟨#[]⟩,.string ⟨#[]⟩] 76)=W3 at *;clear s0 s1 sf0 sf1 slt r0 r1 rf0 rf1 rlt c0 c1 c2 c3 f1 f2 f3 lt ST2 HRD;generalize W2.heap.size=kb at *;go_wp2_with fail
   refine(NM.out (q+1) W3 HR3.out HQL.out).mono ?_
   rintro e W4 ⟨k,okn,rfl,o4,hr4⟩;have ST4:=hid (ST3.out.step o4);have FK4:=hid ((o4.block kb (lt_of_block FK.out) (by have:=ST3.out.br;have:=ST3.out.lt;have:=HSK.out;simp;omega)).trans FK.out);have HR4:=hid hr4;clear o4 hr4 ST3 HR3 FK
   obtain⟨k0,k1,kf0,kf1,klt⟩:=Qq FK4.out
   have ST5:=hid (ST4.out.set HSK.out HNK.out 0 (.string ⟨k.toArray⟩));have FK5:=hid (show(W4.setCell ⟨kb,0,none⟩ (.string ⟨k.toArray⟩)).heap[kb]?=some (.cells #[.string ⟨k.toArray⟩,.string ⟨#[]⟩] 76 (0,0)) from by rw [heap_setCell_same _ _ _ _ _ _ FK4.out];simp);have HRP:=hid (fun q e a (h:PRd W4 Br b q e a)=>(show PRd (W4.setCell ⟨kb,0,none⟩ (.string ⟨k.toArray⟩)) Br b q e a from(heap_setCell_other _ _ _ _ (by have:=ST4.out.br;have:=ST4.out.lt;have:=HSK.out;simp;omega)).trans h));go_upto_region 8 with fail;generalize W4.setCell ⟨kb,0,none⟩ (.string ⟨k.toArray⟩)=W5 at *;clear k0 k1 kf0 kf1 klt FK4
   obtain⟨s0,s1,sf0,sf1,slt⟩:=Qq ST5.out.sb
   obtain⟨r0,r1,rf0,rf1,rlt⟩:=Qq ST5.out.rb
   cases okn with
   | false =>
    obtain⟨hnn,q2,er,ea,hne,hrd⟩:nameP (b.data.toList.drop (q+1))=none∧∃ q e a,e≠0∧PRd W4 Br b q e a:=by
     rcases HR4.out with ⟨h,_⟩ | ⟨_,h⟩
     ·cases h
     ·exact h
    have HNO:=hid (show stepP (b.data.toList.drop p)=none by rw [HKE.out,HE1.out];unfold keyP;rw [hnn];rfl);have HRD:=hid (HRP.out _ _ _ hrd);have HNE:=hid hne;clear hnn hrd hne HR4;go_wp2_with fail;simp only [Exit.jumps];change bodyPost _ _ _ _ _ (P2 W5 w.heap.size (.string ⟨n.toArray⟩) (.slice ak ks.length ck));exact step_ret ST5.out.rb rfl rfl rfl (Or.inr ⟨HNO.out,⟨_,_,_,_,rfl⟩,⟨q2,er,ea,HNE.out,ST5.out.rd2 HRD.out _ _⟩,ST5.out.ret _ _⟩)
   | true =>
    obtain⟨q2,hnn,hrd,hq2,hqq⟩:∃ q2,nameP (b.data.toList.drop (q+1))=some (k,b.data.toList.drop q2)∧PRd W4 Br b q2 0 0∧q2≤b.size∧q+1≤q2:=by
     rcases HR4.out with ⟨_,h⟩ | ⟨h,_⟩
     ·exact h
     ·cases h
    have HRD:=hid (HRP.out _ _ _ hrd);have HU2:=hid (utfB_name hnn HU1.out);have HKP:=hid (show keyP ks (b.data.toList.drop (q+1))=if lastGE ks k then none else
      match Xp 61 (b.data.toList.drop q2) with
      | none=>none
      | some r2 =>
       match Qp false [] r2 with
       | none=>none
       | some (v,r3)=>some ((k,v),r3) by unfold keyP;rw [hnn];rfl)
    have HQ2:=hid hq2;have HQQ:=hid hqq;clear hnn hrd hq2 hqq HR4 HRP HU1
    obtain⟨k0,k1,kf0,kf1,klt⟩:=Qq FK5.out
    have hkl:(ks.length:Int)≤600:=by have:=HKS.out;have:=HQB.out;omega
    go_upto_region 11 with fail
    go_cut [55] from 42 to 55 (fun o wx=>o=.bool (lastGE ks k)∧∃ m,wx=W5.drewN m)
    case first =>
     by_cases hnil:ks=[]
     ·subst hnil
      go_quiet (fail)
      go_wp2_with fail
      go_meet
      exact⟨rfl,nq,rfl⟩
     ·obtain⟨g1,rfl⟩:∃ g1,ak=some ⟨g1,0,none⟩:=by
       rcases ST5.out.own.shape with ⟨_,e⟩ | ⟨g,cap,cur,e,_⟩
       ·exact absurd e hnil
       ·cases e;exact⟨g,rfl⟩
      obtain⟨kl,hkl2,hkc⟩:=last_cells ST5.out.own hnil
      have hpos:0<ks.length:=List.length_pos_iff.2 hnil;have HKL:=hid (hkl2 k);have HBL:=hid (Proofs.bytesLess_eq kl k);clear hkl2;generalize hln:ks.length=L at *
      obtain⟨m,rfl⟩:∃ m,L=m+1:=⟨L - 1,by omega⟩
      rw [Nat.add_sub_cancel] at hkc;have hm1:((m:Int)+1 - 1)=(m:Int):=by omega
      have hm2:(m:Int)<(m:Int)+1:=by omega
      have hm3:(0:Int)≤(m:Int):=by omega
      have hm4:(m:Int)≤1000:=by omega
      by_cases hlt:kl<k
      ·have hbl:Op.bytesLess kl k=true:=by rw [HBL.out];exact decide_eq_true hlt
       go_quiet (fail)
       go_wp2_with fail
       go_meet
       exact⟨by rw [HKL.out,decide_eq_false (List.not_le.2 hlt)],nq,rfl⟩
      ·have hbl:Op.bytesLess kl k=false:=by rw [HBL.out];exact decide_eq_false hlt
       go_quiet (fail)
       go_wp2_with fail
       go_meet
       exact⟨by rw [HKL.out,decide_eq_true (List.not_lt.1 hlt)],nq,rfl⟩
    case rest =>
     obtain⟨rfl,m5,rfl⟩:=hcut
     have HRD5:=hid (HRD.out.drewN m5);have ST5d:=hid (show SSt w Br Sb n (W5.drewN m5) (.slice ak ks.length ck) ks from ST5.out.below ⟨rfl,rfl,rfl,Nat.le_refl _,fun _ _=>rfl⟩);have FK5d:=hid (show(W5.drewN m5).heap[kb]?=some (.cells #[.string ⟨k.toArray⟩,.string ⟨#[]⟩] 76 (0,0)) from FK5.out);clear s0 s1 sf0 sf1 slt r0 r1 rf0 rf1 rlt k0 k1 kf0 kf1 klt ST5 HRD FK5;generalize W5.drewN m5=W6 at *
     obtain⟨s0,s1,sf0,sf1,slt⟩:=Qq ST5d.out.sb
     obtain⟨r0,r1,rf0,rf1,rlt⟩:=Qq ST5d.out.rb
     obtain⟨k0,k1,kf0,kf1,klt⟩:=Qq FK5d.out
     cases hge:lastGE ks k with
     | true =>
      have HNO:=hid (show stepP (b.data.toList.drop p)=none by rw [HKE.out,HE1.out,HKP.out,if_pos hge];rfl);clear hge;go_upto_region 12 with fail
      first
       | (go_region_with (first
        | (go_at_call 84;refine(FA.out q2 0 0 160 ((q:Int)+1) _ (by first | exact HRD5.out | exact HRD5.out.drewN _)).mono ?_;rintro e W7 ⟨rfl,h7,o7⟩;have ST7:=hid (SSt.step (by first | exact ST5d.out | exact ST5d.out.below ⟨rfl,rfl,rfl,Nat.le_refl _,fun _ _=>rfl⟩) o7);obtain⟨ss0,ss1,ssf0,ssf1,sslt⟩:=Qq ST7.out.sb;obtain⟨rr0,rr1,rrf0,rrf1,rrlt⟩:=Qq ST7.out.rb)))
       | fail "region"
      all_goals
       go_wp2_with fail;simp only [Exit.jumps];change bodyPost _ _ _ _ _ (P2 _ w.heap.size (.string ⟨n.toArray⟩) (.slice ak ks.length ck));exact step_ret ST7.out.rb rfl rfl rfl (Or.inr ⟨HNO.out,⟨_,_,_,_,rfl⟩,⟨q2,160,_,by decide,ST7.out.rd2 h7 _ _⟩,ST7.out.ret _ _⟩)
     | false =>
      have HKP2:=hid (show keyP ks (b.data.toList.drop (q+1))=match Xp 61 (b.data.toList.drop q2) with
       | none=>none
       | some r2 =>
        match Qp false [] r2 with
        | none=>none
        | some (v,r3)=>some ((k,v),r3) by rw [HKP.out,if_neg (by rw [hge];decide)])
      clear hge HKP;go_wp2_with fail
      refine(NX2.out q2 W6 HRD5.out HQ2.out).mono ?_
      rintro e W7 ⟨o7,okx,rfl,hx⟩;have ST7:=hid (ST5d.out.step o7);have FK7:=hid ((o7.block kb (lt_of_block FK5d.out) (by have:=ST5d.out.br;have:=ST5d.out.lt;have:=HSK.out;simp;omega)).trans FK5d.out);clear s0 s1 sf0 sf1 slt r0 r1 rf0 rf1 rlt k0 k1 kf0 kf1 klt o7 ST5d FK5d HRD5
      obtain⟨s0,s1,sf0,sf1,slt⟩:=Qq ST7.out.sb
      obtain⟨r0,r1,rf0,rf1,rlt⟩:=Qq ST7.out.rb
      obtain⟨k0,k1,kf0,kf1,klt⟩:=Qq FK7.out
      cases okx with
      | false =>
       obtain⟨htb,hrd⟩:Xp 61 (b.data.toList.drop q2)=none∧PRd W7 Br b q2 0 0:=by
        rcases hx with ⟨_,h1,h2⟩ | ⟨h,_⟩
        ·exact⟨h1,h2⟩
        ·cases h
       have HNO:=hid (show stepP (b.data.toList.drop p)=none by rw [HKE.out,HE1.out,HKP2.out,htb];rfl);have HRD7:=hid hrd;clear hx htb hrd
       obtain⟨c0,c1,c2,c3,f1,f2,f3,lt⟩:=HRD7.out.cells
       go_upto_region 14 with fail
       first
        | (go_region_with (first
         | (go_at_call 84;refine(FA.out q2 0 0 160 q2 _ (by first | exact HRD7.out | exact HRD7.out.drewN _)).mono ?_;rintro e W8 ⟨rfl,h8,o8⟩;have ST8:=hid (SSt.step (by first | exact ST7.out | exact ST7.out.below ⟨rfl,rfl,rfl,Nat.le_refl _,fun _ _=>rfl⟩) o8);obtain⟨ss0,ss1,ssf0,ssf1,sslt⟩:=Qq ST8.out.sb;obtain⟨rr0,rr1,rrf0,rrf1,rrlt⟩:=Qq ST8.out.rb)))
        | fail "region"
       all_goals
        go_wp2_with fail;simp only [Exit.jumps];change bodyPost _ _ _ _ _ (P2 _ w.heap.size (.string ⟨n.toArray⟩) (.slice ak ks.length ck));exact step_ret ST8.out.rb rfl rfl rfl (Or.inr ⟨HNO.out,⟨_,_,_,_,rfl⟩,⟨q2,160,_,by decide,ST8.out.rd2 h8 _ _⟩,ST8.out.ret _ _⟩)
      | true =>
       obtain⟨htb,hq3,hrd⟩:Xp 61 (b.data.toList.drop q2)=some (b.data.toList.drop (q2+1))∧q2<b.size∧PRd W7 Br b (q2+1) 0 0:=by
        rcases hx with ⟨h,_⟩ | ⟨_,h1,h2,h3⟩
        ·cases h
        ·exact⟨h1,h2,h3⟩
       have HU3:=hid (utfB_take (by decide) htb HU2.out);have HKP3:=hid (show keyP ks (b.data.toList.drop (q+1))=match Qp false [] (b.data.toList.drop (q2+1)) with
        | none=>none
        | some (v,r3)=>some ((k,v),r3) by rw [HKP2.out,htb])
       have HRD7:=hid hrd;have HQ3:=hid hq3;clear hx htb hrd hq3 HKP2 HU2;go_wp2_with fail
       refine(VL.out (q2+1) W7 HRD7.out HQ3.out HU3.out).mono ?_
       rintro e W8 ⟨v,okv,rfl,o8,hr8⟩;have ST8:=hid (ST7.out.step o8);have FK8:=hid ((o8.block kb (lt_of_block FK7.out) (by have:=ST7.out.br;have:=ST7.out.lt;have:=HSK.out;simp;omega)).trans FK7.out);have HR8:=hid hr8;clear s0 s1 sf0 sf1 slt r0 r1 rf0 rf1 rlt k0 k1 kf0 kf1 klt o8 hr8 ST7 FK7 HRD7
       obtain⟨k0,k1,kf0,kf1,klt⟩:=Qq FK8.out
       have ST9:=hid (ST8.out.set HSK.out HNK.out 1 (.string ⟨v.toArray⟩));have FK9:=hid (show(W8.setCell ⟨kb,1,none⟩ (.string ⟨v.toArray⟩)).heap[kb]?=some (.cells #[.string ⟨k.toArray⟩,.string ⟨v.toArray⟩] 76 (0,0)) from by rw [heap_setCell_same _ _ _ _ _ _ FK8.out];simp);have HRP:=hid (fun q e a (h:PRd W8 Br b q e a)=>(show PRd (W8.setCell ⟨kb,1,none⟩ (.string ⟨v.toArray⟩)) Br b q e a from(heap_setCell_other _ _ _ _ (by have:=ST8.out.br;have:=ST8.out.lt;have:=HSK.out;simp;omega)).trans h));go_upto_region 16 with fail;generalize W8.setCell ⟨kb,1,none⟩ (.string ⟨v.toArray⟩)=W9 at *;clear k0 k1 kf0 kf1 klt FK8
       cases okv with
       | false =>
        obtain⟨hnn,q4,er,ea,hne,hrd⟩:Qp false [] (b.data.toList.drop (q2+1))=none∧∃ q e a,e≠0∧PRd W8 Br b q e a:=by
         rcases HR8.out with ⟨h,_⟩ | ⟨_,h⟩
         ·cases h
         ·exact h
        have HNO:=hid (show stepP (b.data.toList.drop p)=none by rw [HKE.out,HE1.out,HKP3.out,hnn];rfl);have HRD:=hid (HRP.out _ _ _ hrd);have HNE:=hid hne;clear hnn hrd hne HR8;go_wp2_with fail
        go_step3
        refine HX.out (g - 1) _ _ (by have:=HG.out;have:=HQB.out;omega) ?_
        exact⟨Sb,n,.bool false,⟨rfl,rfl,rfl,rfl,rfl,rfl⟩,false,_,ks,rfl,ST9.out,Or.inr ⟨rfl,HNO.out,q4,er,ea,HNE.out,HRD.out⟩⟩
       | true =>
        obtain⟨q4,hnn,hrd,hq4,hqq,hu4⟩:∃ q4,Qp false [] (b.data.toList.drop (q2+1))=some (v,b.data.toList.drop q4)∧PRd W8 Br b q4 0 0∧q4≤b.size∧q2+1≤q4∧Zm (b.data.toList.drop q4)=true:=by
         rcases HR8.out with ⟨_,h⟩ | ⟨h,_⟩
         ·exact h
         ·cases h
        have HRD:=hid (HRP.out _ _ _ hrd);have HE4:=hid (show stepP (b.data.toList.drop p)=(keysW (ks++[(k,v)]) (b.data.toList.drop q4)).map (fun z=>((n,z.1),z.2)) by rw [HKE.out,HE1.out,HKP3.out,hnn]);have HU4:=hid hu4;have HQ4:=hid (show p<q4∧q4≤b.size∧(ks++[(k,v)]).length≤q4∧b.size+2≤q4+(g - 1)∧g - 1<g from by
         have h1:=HPQ.out;have h2:=HQQ.out;have h3:=HKS.out;have h4:=HG.out;have h5:=HQB.out
         refine⟨by omega,hq4,by simp;omega,by omega,by omega⟩)
        have HLL:=hid (show ks.length≤1000000 by omega);have HSZ:=hid (show w.heap.size+1≤W9.heap.size by have:=lt_of_block ST9.out.sb;have:=ST9.out.lt;omega);clear hnn hrd hq4 hqq hu4 HR8 HKP3 HE1 HKE HRP hkl
        obtain⟨s0,s1,sf0,sf1,slt⟩:=Qq ST9.out.sb
        obtain⟨k0,k1,kf0,kf1,klt⟩:=Qq FK9.out
        go_wp2_with (at_builtin;refine wpList_pushP rfl (.tmp 78) (.tmp 80) rfl (w.heap.size+1) _ ks (k,v) rfl ST9.out.own rfl HLL.out HSZ.out ?_;intro kv' W10 own10 gr10 mv10;obtain⟨a',c',rfl⟩:=Ql own10;rw [show(ks++[(k,v)]).length=ks.length+1 from by simp] at own10;have sb10:=(gr10.block Sb (lt_of_block ST9.out.sb) (Ne.symm (Qx ST9.out.own ST9.out.sb (by decide)))).trans ST9.out.sb;have HRD10:=hid (show PRd W10 Br b q4 0 0 from(gr10.block Br (lt_of_block HRD.out) (fun e=>by have:=(World.ownsRow.lt ST9.out.own Br e.symm).1;have:=ST9.out.br;omega)).trans HRD.out);have ST10:=hid (ST9.out.keys own10 gr10);obtain⟨t0,t1,tf0,tf1,tlt⟩:=Qq sb10;clear own10 gr10 mv10)
        go_step3
        refine HX.out (g - 1) _ _ HQ4.out.2.2.2.2 ?_
        exact⟨Sb,n,.bool true,⟨rfl,rfl,rfl,rfl,rfl,rfl⟩,true,_,ks++[(k,v)],rfl,ST10.out,Or.inl ⟨rfl,q4,(heap_setCell_other _ _ _ _ (by have:=ST9.out.br;have:=ST9.out.lt;simp;omega)).trans HRD10.out,HQ4.out.1,HQ4.out.2.1,HU4.out,HE4.out,HQ4.out.2.2.1,HQ4.out.2.2.2.1⟩⟩
theorem pstep_any (Br:Nat)(b:ByteArray)(p:Nat)(w:World)(h:PRd w Br b p 0 0)(hp:p≤b.size)(hb:b.size≤512)(hu:Zm (b.data.toList.drop p)=true) :
  Calls Tryz.prog 85 #[.pointer (some ⟨Br,0,none⟩)] w fun x w'=>StepRes Br b p w x w':=by
 have HU:=hid hu;have hbr:=h.cells.2.2.2.2.2.2.2;have HBR:=hid hbr;have hb7:Below w.heap.size w (w.alloc (.cells #[.string ⟨#[]⟩,.slice none 0 0] 106)):=bal _ _;have H1:=hid (h.below hb7);have O1:=hid ((Qr.refl w Br).below hb7);have F1:=hid (heap_alloc_new w (.cells #[.string ⟨#[]⟩,.slice none 0 0] 106));have NM:=hid (fun q W (h:PRd W Br b q 0 0) (hq:q≤b.size)=>pname_one Br b q W h hq (by omega));have LT1:=hid (show w.heap.size<(w.alloc (.cells #[.string ⟨#[]⟩,.slice none 0 0] 106)).heap.size from lt_of_block F1.out)
 obtain⟨rest0,hr0,hvr⟩:=step_run w Br b p hp hb
 have HR0:=hid hr0;have HVR:=hid hvr;clear h hu hb7 hbr hr0 hvr
 go_enter Tryz.func85,Tryz.ntmps85
 go_wp2_with fail;refine wp_scope_labels (JS w Br b p) ?_ ?_
 ·go_wp2_with fail
  refine(NM.out p _ H1.out hp).mono ?_
  rintro e w2 ⟨n,ok,rfl,o2,hr⟩;have HR:=hid hr;have O2:=hid o2;clear o2 hr;have F2:=hid (heap_alloc_new w2 (.cells #[.string ⟨n.toArray⟩,.slice none 0 0] 106));have hb3:Below w2.heap.size w2 (w2.alloc (.cells #[.string ⟨n.toArray⟩,.slice none 0 0] 106)):=bal _ _;have ST3:=hid (show KeySt w Br w2.heap.size b p n (b.size+2) (.bool ok) (w2.alloc (.cells #[.string ⟨n.toArray⟩,.slice none 0 0] 106)) from by
   refine⟨ok,.slice none 0 0,[],rfl,⟨(hb3.block _ (Nat.lt_of_lt_of_le LT1.out O2.out.size)).trans ((O2.out.block _ LT1.out (by have:=HBR.out;simp;omega)).trans F1.out),F2.out,World.ownsRow_nil _ _ _ _,(O1.out.trans O2.out).below hb3,Nat.lt_of_lt_of_le LT1.out O2.out.size,HBR.out⟩,?_⟩
   rcases HR.out with ⟨rfl,q,h1,h2,h3,h4⟩ | ⟨rfl,h1,q,er,ea,hne,h2⟩
   ·exact Or.inl ⟨rfl,q,h2.below hb3,name_q h1 h3 hp,h3,utfB_name h1 HU.out,stepP_eq h1,Nat.zero_le _,by omega⟩
   ·exact Or.inr ⟨rfl,stepP_none h1,q,er,ea,hne,h2.below hb3⟩)
  clear hb3;go_wp2_with fail
  go_step3
  rename_i K hK
  refine hK _ _ ?_;refine wp_sameS (HVR.out (b.size+2) _ _ ⟨w2.heap.size,n,.bool ok,⟨rfl,rfl,rfl,rfl,rfl,rfl⟩,ST3.out⟩ _ ?_) (HR0.out.symm.trans rfl);exact fun n' a' w' hlt hj=>⟨n',hj⟩
 ·intro l n a W hJ
  match l,hJ with
  | 0,hJ=>exact⟨.seq .skip rest0,HR0.out,wp_skip_seqS (HVR.out n a W hJ _ (fun n' a' w' hlt hj=>⟨n',hlt,hj⟩))⟩
  | l+1,hJ=>exact hJ.elim
end
section
open Go.RowKit Go.Lib
def Xf:Enc (Stp×(Option Addr×Nat)) 2 where
 enc:=fun z=>[.string ⟨z.1.1.toArray⟩,.slice z.2.1 z.1.2.length z.2.2]
 len:=fun _=>rfl
 one:=fun x u hu=>by simp at hu;rcases hu with rfl | rfl <;> rfl
theorem infoSt:(Tryz.prog.info? 106).map (fun i=>(i.zero,i.size,i.bytes))=some (some (.agg #[.string ⟨#[]⟩,.slice none 0 0]),2,40):=by kernel_rfl
def Qt (z:Stp×(Option Addr×Nat)):Value:=.slice z.2.1 z.1.2.length z.2.2
def KDis (x y:Stp×(Option Addr×Nat)):Prop:=∀ k,(Qt x).ownBlock=some k→(Qt y).ownBlock≠some k
def OwnSt (w:World)(B:Nat)(v:Value)(l:List Stp):Prop:=∃ zs:List (Stp×(Option Addr×Nat)),zs.map (·.1)=l∧Qf Xf 106 w B v zs∧(∀ z∈zs,Qd w B (Qt z) z.1.2)∧zs.Pairwise KDis
theorem Kv {W:World}{B:Nat}{z0 z1:Value}{ty:TypeId}(a0 a1:Value)(h:W.heap[B]?=some (.cells #[z0,z1] ty (0,0))):(P2 W B a0 a1).heap[B]?=some (.cells #[a0,a1] ty (0,0)):=by
 unfold P2;rw [heap_setCell_same _ _ _ _ _ _ (heap_setCell_same _ _ _ _ _ _ h)];simp
theorem Xd {B b:Nat}{w W:World}(a0 a1:Value)(h:Below B w W)(hb:B≤b):Below B w (P2 W b a0 a1) :=
 (h.setCell (p:=⟨b,0,none⟩) hb a0).setCell (p:=⟨b,1,none⟩) hb a1
theorem P2_own {W:World}{b base size n:Nat}{e:TypeId}{v:Value}{xs:List Value}(a0 a1:Value)(h:W.ownsRow base e size v n xs)(hb:v.ownBlock≠some b):(P2 W b a0 a1).ownsRow base e size v n xs :=
 Qw (Qw h hb 0 a0) hb 1 a1
theorem parse_ret {V:World}{Pb:Nat}{v:Value}{e a:Int}(hr:V.heap[Pb]?=some (.cells #[.int .i64 e,.int .i64 a] 77 (0,0))){Q:Ending→World→Prop}{act:Act}(hd:act.defers=[])
  (h2:act.tmps.getD 2 undef=v)(h3:act.tmps.getD 3 undef=.pointer (some ⟨Pb,0,none⟩))(hQ:Q (.returned (.tuple #[v,.agg #[.int .i64 e,.int .i64 a]])) V) :
  bodyPost Tryz.prog Tryz.f46 Q Exit.ret act V:=by
 obtain⟨e0,e1,_,_,_⟩:=Qq hr
 refine bodyPost_ret (v:=.tuple #[v,.agg #[.int .i64 e,.int .i64 a]]) ?_ hd hQ
 obtain⟨tmps,defers⟩:=act
 simp only [Array.getD_eq_getD_getElem?] at h2 h3
 simp [results,Tryz.results46,go_sem,h2,h3,e0,e1]
structure PaSt (w:World)(s:Str)(Rb:Nat)(W:World)(v:Value)(zs:List (Stp×(Option Addr×Nat))):Prop where
 pb:W.heap[w.heap.size]?=some (.cells #[.int .i64 0,.int .i64 0] 77 (0,0))
 own:Qf Xf 106 W (w.heap.size+1) v zs
 each:∀ z∈zs,Qd W (w.heap.size+1) (Qt z) z.1.2
 bel:Below w.heap.size w W
 lt:w.heap.size<Rb
 dis:zs.Pairwise KDis
section
variable {w W W' : World} {s : Str} {Rb : Nat} {v : Value} {zs : List (Stp × (Option Addr × Nat))}
theorem ownP_monoS {w:World}{B C:Nat}{v:Value}{l:List (Str×Str)}(h:Qd w B v l)(hc:C≤B):Qd w C v l:=by
 unfold Qd World.ownsRow at *
 refine⟨h.1,?_⟩
 rcases h.2 with h | ⟨g,cap,cur,h1,h2,h3⟩
 ·exact Or.inl h
 ·exact Or.inr ⟨g,cap,cur,h1,Nat.le_trans hc h2,h3⟩
theorem Kn {W:World}{B1 B2 k1 k2 n1 n2:Nat}{e1 e2:TypeId}{v1 v2:Value}{x1 x2:List Value}(h1:W.ownsRow B1 e1 k1 v1 n1 x1)(h2:W.ownsRow B2 e2 k2 v2 n2 x2)(hne:e1≠e2):v1.ownBlock=none∨v1.ownBlock≠v2.ownBlock:=by
 cases hk:v1.ownBlock with
 | none=>exact Or.inl rfl
 | some k =>
  refine Or.inr (fun e=>?_)
  rcases h1.2 with ⟨a,_⟩ | ⟨g,cap,cur,a,_,hg,_⟩
  ·rw [a] at hk;cases hk
  ·rw [a] at hk;cases hk
   rcases h2.2 with ⟨a2,_⟩ | ⟨g2,cap2,cur2,a2,_,hg2,_⟩
   ·rw [a2] at e;cases e
   ·rw [a2] at e;cases e;rw [hg] at hg2;cases hg2;exact hne rfl
theorem PaSt.step (h:PaSt w s Rb W v zs){b:ByteArray}{q e:Nat}{a:Int}(hr:PRd W Rb b q e a)(o:Qr Rb W W'):PaSt w s Rb W' v zs:=by
 have hlt:=h.lt;unfold PRd at hr
 refine⟨(o.block _ (lt_of_block h.pb) (by simp;omega)).trans h.pb,World.ownsRow.kept h.own o (Or.inr (Qx h.own hr (by decide))),fun z hz=>World.ownsRow.kept (h.each z hz) o (Or.inr (Qx (h.each z hz) hr (by decide))),?_,hlt,h.dis⟩
 exact h.bel.grown o h.bel.size (fun k hk=>by cases hk;omega)
theorem PaSt.below (h:PaSt w s Rb W v zs)(hb:Below W.heap.size W W'):PaSt w s Rb W' v zs :=
 ⟨bk hb h.pb,h.own.below hb,fun z hz=>Qz (h.each z hz) hb,h.bel.then hb,h.lt,h.dis⟩
theorem PaSt.push (h:PaSt w s Rb W v zs){v':Value}{z:Stp×(Option Addr×Nat)}(o:Qf Xf 106 W' (w.heap.size+1) v' (zs++[z]))(gr:W.grownBy W' v.ownBlock)(hz:Qd W (w.heap.size+1) (Qt z) z.1.2)(hn:∀ x∈zs,KDis x z):PaSt w s Rb W' v' (zs++[z]):=by
 have hlt:=h.lt;have n1:v.ownBlock≠some w.heap.size:=Qx h.own h.pb (by decide)
 refine⟨(gr.block _ (lt_of_block h.pb) (Ne.symm n1)).trans h.pb,o,fun x hx=>?_,h.bel.grown gr h.bel.size (fun k hk=>by have:=(World.ownsRow.lt h.own k hk).1;omega),hlt,List.pairwise_append.2 ⟨h.dis,List.pairwise_singleton _ _,fun a ha b hb=>by rw [List.mem_singleton.1 hb];exact hn a ha⟩⟩
 rcases List.mem_append.1 hx with hx | hx
 ·exact World.ownsRow.kept (h.each x hx) gr (Kn (h.each x hx) h.own (by decide))
 ·rw [List.mem_singleton.1 hx];exact World.ownsRow.kept hz gr (Kn hz h.own (by decide))
theorem PaSt.rd (h:PaSt w s Rb W v zs){b:ByteArray}{q e:Nat}{a:Int}(hr:PRd W Rb b q e a)(gr:W.grownBy W' v.ownBlock):PRd W' Rb b q e a:=by
 unfold PRd at *
 exact(gr.block _ (lt_of_block hr) (Ne.symm (Qx h.own hr (by decide)))).trans hr
theorem PaSt.done (h:PaSt w s Rb W v zs)(a0 a1:Value):OwnSt (P2 W w.heap.size a0 a1) w.heap.size v (zs.map (·.1)):=by
 refine⟨zs,rfl,(Qf.mono (show Qf Xf 106 (P2 W w.heap.size a0 a1) (w.heap.size+1) v zs from P2_own a0 a1 h.own (Qx h.own h.pb (by decide))) (Nat.le_succ _)),fun z hz=>?_,h.dis⟩
 exact ownP_monoS (show Qd (P2 W w.heap.size a0 a1) (w.heap.size+1) (Qt z) z.1.2 from P2_own a0 a1 (h.each z hz) (Qx (h.each z hz) h.pb (by decide))) (Nat.le_succ _)
end
def ParseOut (w : World) (s : Str) (x : Ending) (w' : World) : Prop :=
  ((∃ l v, Qb s = some l ∧ x = .returned (.tuple #[v, .agg #[.int .i64 0, .int .i64 0]]) ∧ OwnSt w' w.heap.size v l) ∨
   (Qb s = none ∧ ∃ (er : Nat) (a : Int), er ≠ 0 ∧ x = .returned (.tuple #[.slice none 0 0, .agg #[.int .i64 er, .int .i64 a]]))) ∧ Below w.heap.size w w'
end
section
open Go.RowKit Go.Lib
theorem spec_idx2 (c:UInt8):(0≤Lib.indexByte [91,93,47,61,92] c)↔specB c=true:=by
 revert c;apply Jj;decide +kernel
theorem dress_step {v:Str}{m:Nat}(h:m<v.length):Zv (v.take (m+1))=Zv (v.take m)++(if specB (v[m]'h) then [92,v[m]'h] else [v[m]'h]):=by
 rw [List.take_succ_eq_append_getElem h,dress_append]
 congr 1
 simp [Zv]
theorem dress_len:∀ v:Str,v.length≤(Zv v).length
 | []=>Nat.le_refl _
 | c::v=>by
  have ih:=dress_len v;show _≤((if specB c then [92,c] else [c])++Zv v).length
  split <;> simp <;> omega
theorem keysT_step {l:List (Str×Str)}{n:Nat}(h:n<l.length):Kj (l.take (n+1))=Kj (l.take n)++keyT (l[n]'h):=by
 unfold Kj;rw [List.take_succ_eq_append_getElem h,List.flatMap_append]
 simp
theorem Ks {w:World}{v:Value}{l:List (Str×Str)}(h:RdP w v l):∃ ao cp,v=.slice ao l.length cp∧l.length≤9223372036854775807∧∀ n (hn:n<l.length),∃ p o,ao=some ⟨p,o,none⟩∧p<w.heap.size ∧
  w.cell? ⟨p,o+n * 2,none⟩=some (.string ⟨(l[n]'hn).1.toArray⟩)∧w.cell? ⟨p,o+n * 2+1,none⟩=some (.string ⟨(l[n]'hn).2.toArray⟩):=by
 obtain⟨ao,cp,rfl,⟨h2,_⟩,hc⟩:=h
 refine⟨ao,cp,rfl,h2,fun n hn=>?_⟩
 obtain⟨p,o,ha,hp,hx⟩:=hc (by intro e;rw [e] at hn;simp at hn)
 exact⟨p,o,ha,hp,hx n 0 _ hn rfl,hx n 1 _ hn rfl⟩
theorem cat3 (a b c:Str):(⟨a.toArray⟩:ByteArray)++⟨b.toArray⟩++⟨c.toArray⟩=⟨(a++(b++c)).toArray⟩:=by
 apply ByteArray.ext
 simp
theorem idx_spec (c:UInt8):(decide ((0:Int)≤Lib.indexByte [91,93,47,61,92] c))=specB c:=by
 cases h:specB c with
 | true=>exact decide_eq_true ((spec_idx2 c).2 h)
 | false=>exact decide_eq_false (fun k=>by rw [(spec_idx2 c).1 k] at h;cases h)
theorem ptext_any (w:World)(x:Stp)(kv:Value)(hr:RdP w kv x.2)(hs:(Zw x).length≤140737488355328) :
  Calls Tryz.prog 115 #[.agg #[.string ⟨x.1.toArray⟩,kv]] w fun e w'=>e=.returned (.string ⟨(Zw x).toArray⟩)∧Below w.heap.size w w':=by
 obtain⟨n,ks⟩:=x
 obtain⟨ao,cp,rfl,h63,hcell⟩:=Ks hr
 simp only at hcell h63 hs ⊢;have HCELL:=hid hcell;have HS:=hid hs;have HB1:=hid (bal w (.cells #[.string ⟨n.toArray⟩,.slice ao ks.length cp] 106));have F1:=hid (heap_alloc_new w (.cells #[.string ⟨n.toArray⟩,.slice ao ks.length cp] 106));have IX:=hid (fun(c:UInt8) W=>(show Calls Tryz.prog 157 #[.string ⟨#[91,93,47,61,92]⟩,.int .u8 (c.toNat:Int)] W fun e w'=>e=.returned (.int .i64 (Lib.indexByte [91,93,47,61,92] c))∧w'=W from by
  have h:=Tryz.strings_IndexByte ⟨#[91,93,47,61,92]⟩ (c.toNat:Int) W;rw [show((c.toNat:Int)).toNat.toUInt8=c by simp] at h;exact h))
 clear hr hcell hs
 go_enter Tryz.func115,Tryz.ntmps115
 go_upto_region 1 with fail;generalize w.alloc (.cells #[.string ⟨n.toArray⟩,.slice ao ks.length cp] 106)=w1 at *;have HB2:=hid (show Below w.heap.size w (w1.alloc (.cells #[.pointer none,.slice none 0 0] 213)) from HB1.out.alloc HB1.out.size _);have F2:=hid ((Below.heap_alloc w1 (.cells #[.pointer none,.slice none 0 0] 213) _ (lt_of_block F1.out)).trans F1.out);have BL2:=hid (Lib.fresh_isBuilder 213 5 w1);have HSB:=hid (lt_of_block F1.out);go_upto_region 2 with fail;generalize hw2:w1.alloc (.cells #[.pointer none,.slice none 0 0] 213)=w2 at *;have HW2:=hid (show w1.heap.size≤w2.heap.size by rw [← hw2];simp);clear hw2;generalize w1.heap.size=Bb at *
 obtain⟨s0,s1,_,_,sl⟩:=Qq F2.out
 go_wp2_with fail
 refine(bstr_any Bb Bb [] n w2 BL2.out (by have:=HS.out;unfold Zw at this;simp at this ⊢;omega) HW2.out).mono ?_
 rintro e w3 ⟨rfl,bl3,hb3,hk3⟩;have F3:=hid ((hb3.block _ HSB.out).trans F2.out);have B3:=hid (HB2.out.trans (hb3.mono (Nat.le_of_lt HSB.out)));have BL3:=hid bl3;have HZ3:=hid (Nat.le_trans HW2.out hb3.size);clear s0 s1 sl bl3 hb3 hk3 F2 HB2 BL2
 obtain⟨s0,s1,_,_,sl⟩:=Qq F3.out
 go_wp2_with fail
 go_loopg [13] ks.length (fun g v13 W=>∃ k:Nat,k≤ks.length∧ks.length≤k+g∧v13=.int .i64 k∧Bld Bb Bb (n++Kj (ks.take k)) W∧W.heap[w.heap.size]?=some (.cells #[.string ⟨n.toArray⟩,.slice ao ks.length cp] 106 (0,0))∧Below w.heap.size w W∧Bb≤W.heap.size)
 case atStart=>exact⟨0,Nat.zero_le _,by omega,rfl,(by have:=BL3.out;simpa [Kj] using this),F3.out,B3.out,HZ3.out⟩
 case round =>
  obtain⟨k,hk,hg,rfl,bl,ff,bb,hz4⟩:=hrel
  rename World=>w4
  obtain⟨go,hgo⟩:∃ go,go=gk:=⟨_,rfl⟩
  have HG:=hid (show ks.length≤k+go by rw [hgo];exact hg);have HGO:=hid hgo;clear hg hgo;have BL4:=hid bl;have B4:=hid bb;have F4:=hid ff;have HZ4:=hid hz4;clear bl bb ff hz4 F3 B3 BL3 s0 s1 sl
  by_cases hlt:k<ks.length
  ·have hni:(k:Int)<(ks.length:Int):=by omega
   have hn0:(0:Int)≤(k:Int):=by omega
   obtain⟨p,o,rfl,hp,q0,q1⟩:=HCELL.out k hlt
   have r0:=(B4.out.cell (p:=⟨p,o+k * 2,none⟩) hp).trans q0;have r1:=(B4.out.cell (p:=⟨p,o+k * 2+1,none⟩) hp).trans q1;have hp2:p<w4.heap.size:=Nat.lt_of_lt_of_le hp B4.out.size;have HKT:=hid (keysT_step hlt);have HTOT:=hid (show(n++Kj (ks.take (k+1))).length≤140737488355328 by
    have h1:Kj ks=Kj (ks.take (k+1))++Kj (ks.drop (k+1)):=by
     unfold Kj;rw [← List.flatMap_append,List.take_append_drop]
    have:=HS.out
    unfold Zw at this;rw [h1] at this;simp only [List.length_append] at this ⊢
    omega)
   clear q0 q1;generalize ks[k]'hlt=kv at *
   obtain⟨ky,v⟩:=kv
   simp only at r0 r1 HKT;rw [HKT.out] at HTOT
   obtain⟨pre,hpre⟩:∃ pre,pre=n++Kj (ks.take k):=⟨_,rfl⟩
   have HPRE:=hid hpre;rw [← hpre] at BL4;have HTOT2:=hid (show(pre++keyT (ky,v)).length≤140737488355328 by rw [hpre,List.append_assoc];exact HTOT.out);clear hpre HTOT;have HA5:=hid (bal w4 (.cells #[.string ⟨ky.toArray⟩,.string ⟨v.toArray⟩] 76));have F5:=hid (heap_alloc_new w4 (.cells #[.string ⟨ky.toArray⟩,.string ⟨v.toArray⟩] 76));go_upto_region 6 with fail;generalize w4.alloc (.cells #[.string ⟨ky.toArray⟩,.string ⟨v.toArray⟩] 76)=w5 at *
   obtain⟨y0,y1,_,_,yl⟩:=Qq F5.out
   have hky:(ky.length:Int)+2≤140737488355328:=by have:=HTOT2.out;unfold keyT at this;simp at this;omega
   go_wp2_with fail;have hcat:(⟨#[91]⟩:ByteArray)++⟨ky.toArray⟩++⟨#[61]⟩=⟨(91::(ky++[61])).toArray⟩:=cat3 [91] ky [61];rw [hcat];have BL5:=hid (show Lib.BuilderAt 213 5 Bb Bb (.pointer (some ⟨Bb,0,none⟩)) (Lib.byteCells pre) w5 from by
    obtain⟨h1,u,h2,h3,h4⟩:=BL4.out
    exact⟨h1,u,bk HA5.out h2,Qz h3 HA5.out,h4⟩)
   have hvl:(v.length:Int)≤140737488355328:=by
    have:=HTOT2.out
    unfold keyT at this;have h2:v.length≤(Zv v).length:=dress_len v
    simp at this;omega
   have B5:=hid (B4.out.then HA5.out);have HZ5:=hid (show Bb≤w5.heap.size by obtain⟨h1,u,h2,_⟩:=BL5.out;have:=lt_of_block h2;omega);have HPB:=hid (show Bb≤w4.heap.size by obtain⟨h1,u,h2,_⟩:=BL4.out;have:=lt_of_block h2;omega);clear hky hcat
   refine(bstr_any Bb Bb pre (91::(ky++[61])) w5 (Or.inr BL5.out) (by have:=HTOT2.out;unfold keyT at this;simp at this ⊢;omega) HZ5.out).mono ?_
   rintro e w6 ⟨rfl,bl6,hb6,hk6⟩;have BL6:=hid bl6;have F6:=hid (hk6 _ _ _ F5.out (by decide) (by decide));have S6:=hid (hk6 _ _ _ (bk HA5.out F4.out) (by decide) (by decide));have HZ6:=hid (Nat.le_trans HZ5.out hb6.size);have B6:=hid (B5.out.trans (hb6.mono (Nat.le_of_lt HSB.out)));clear bl6 hb6 hk6 y0 y1 yl r0 r1 hp2;generalize w4.heap.size=Kb at *
   obtain⟨y0,y1,_,_,yl⟩:=Qq F6.out
   clear F5 BL5 B5 HA5 HZ5;go_wp2_with fail
   go_loopg [25] v.length (fun g v25 W=>∃ m:Nat,m≤v.length∧v.length≤m+g∧v25=.int .i64 m∧Bld Bb Bb (pre++(91::(ky++61::Zv (v.take m)))) W∧W.heap[Kb]?=some (.cells #[.string ⟨ky.toArray⟩,.string ⟨v.toArray⟩] 76 (0,0))∧W.heap[w.heap.size]?=some (.cells #[.string ⟨n.toArray⟩,.slice (some ⟨p,o,none⟩) ks.length cp] 106 (0,0))∧Below w.heap.size w W∧Bb≤W.heap.size)
   case atStart=>exact⟨0,Nat.zero_le _,by omega,rfl,(by have:=BL6.out;simpa [Zv] using this),F6.out,S6.out,B6.out,HZ6.out⟩
   case round =>
    obtain⟨m,hm,hg2,rfl,bl,fk,fs,bb,hz⟩:=hrel
    rename World=>w7
    have HG2:=hid hg2;have BL7:=hid bl;have F7:=hid fk;have S7:=hid fs;have B7:=hid bb;have HZ7:=hid hz;clear hg2 bl fk fs bb hz y0 y1 yl BL6 F6 S6 B6 HZ6
    obtain⟨y0,y1,_,_,yl⟩:=Qq F7.out
    by_cases hlt2:m<v.length
    ·have hmi:(m:Int)<(v.length:Int):=by omega
     have hm0:(0:Int)≤(m:Int):=by omega
     have HDS:=hid (dress_step hlt2);have hby:∀ h,(⟨v.toArray⟩:ByteArray)[m]'h=v[m]'hlt2:=fun h=>rfl
     have IXC:=hid (fun W=>IX.out (v[m]'hlt2) W);have HSP:=hid (idx_spec (v[m]'hlt2));have HBD:=hid (show(pre++(91::(ky++61::Zv (v.take m)))).length+(if specB (v[m]'hlt2) then 2 else 1)+1≤140737488355328 by
      have h1:=HTOT2.out;unfold keyT at h1;have h2:Zv v=Zv (v.take (m+1))++Zv (v.drop (m+1)):=by rw [← dress_append,List.take_append_drop]
      rw [h2,HDS.out] at h1;have h3:1≤(if specB (v[m]'hlt2) then [92,v[m]'hlt2] else [v[m]'hlt2]).length:=by split <;> simp
      simp only [List.length_append,List.length_cons,List.length_nil] at h1 ⊢
      by_cases hc:specB (v[m]'hlt2)=true
      ·rw [if_pos hc] at h1 ⊢;simp only [List.length_cons,List.length_nil] at h1;omega
      ·rw [if_neg hc] at h1 ⊢;simp only [List.length_cons,List.length_nil] at h1;omega)
     generalize v[m]'hlt2=c at *;have IXC2:=hid (fun W=>(show Calls Tryz.prog 157 #[.string ⟨#[91,93,47,61,92]⟩,.int .u8 (c.toNat:Int)] W fun e w'=>∃ ix:Int,e=.returned (.int .i64 ix)∧decide ((0:Int)≤ix)=specB c∧w'=W from(IXC.out W).mono (by rintro e w' ⟨rfl,rfl⟩;exact⟨_,rfl,HSP.out,rfl⟩)));clear IXC HSP
     cases hc:specB c with
     | true =>
      have HSC:=hid hc;rw [hc] at IXC2 HBD HDS;simp only [if_true] at HBD HDS;clear hc;go_wp2_with fail
      refine(IXC2.out w7).mono ?_
      rintro e w8 ⟨ix,rfl,hix,rfl⟩
      rename World=>w8
      have hix2:(0:Int)≤ix:=of_decide_eq_true hix;clear hix;go_wp2_with fail
      refine(bbyte_any Bb Bb _ 92 w8 (Or.inr BL7.out) (by have:=HBD.out;omega) HZ7.out).mono ?_
      rintro e w9 ⟨rfl,bl9,hb9,hk9⟩;have BL9:=hid bl9;have F9:=hid (hk9 _ _ _ F7.out (by decide) (by decide));have S9:=hid (hk9 _ _ _ S7.out (by decide) (by decide));have HZ9:=hid (Nat.le_trans HZ7.out hb9.size);have B9:=hid (B7.out.trans (hb9.mono (Nat.le_of_lt HSB.out)));clear bl9 hb9 hk9 y0 y1 yl BL7 F7 S7 B7 HZ7
      obtain⟨y0,y1,_,_,yl⟩:=Qq F9.out
      go_wp2_with fail
      refine(bbyte_any Bb Bb _ c w9 (Or.inr BL9.out) (by have:=HBD.out;simp only [List.length_append,List.length_cons,List.length_nil] at this ⊢;omega) HZ9.out).mono ?_
      rintro e wa ⟨rfl,bla,hba,hka⟩;have BLa:=hid bla;have Fa:=hid (hka _ _ _ F9.out (by decide) (by decide));have Sa:=hid (hka _ _ _ S9.out (by decide) (by decide));have HZa:=hid (Nat.le_trans HZ9.out hba.size);have Ba:=hid (B9.out.trans (hba.mono (Nat.le_of_lt HSB.out)));clear bla hba hka;go_wp2_with fail
      go_roundg (gk - 1)
      case measure=>have:=HG2.out;omega
      case rel=>exact⟨m+1,by omega,by have:=HG2.out;omega,by simp,(by have:=BLa.out;rw [HDS.out];simpa using this),Fa.out,Sa.out,Ba.out,HZa.out⟩
     | false =>
      rw [hc] at IXC2 HBD HDS;simp only [Bool.false_eq_true,if_false] at HBD HDS;clear hc;go_wp2_with fail
      refine(IXC2.out w7).mono ?_
      rintro e w8 ⟨ix,rfl,hix,rfl⟩
      rename World=>w9
      have hix2:¬ (0:Int)≤ix:=of_decide_eq_false hix;clear hix;go_wp2_with fail
      refine(bbyte_any Bb Bb _ c w9 (Or.inr BL7.out) (by have:=HBD.out;omega) HZ7.out).mono ?_
      rintro e wa ⟨rfl,bla,hba,hka⟩;have BLa:=hid bla;have Fa:=hid (hka _ _ _ F7.out (by decide) (by decide));have Sa:=hid (hka _ _ _ S7.out (by decide) (by decide));have HZa:=hid (Nat.le_trans HZ7.out hba.size);have Ba:=hid (B7.out.trans (hba.mono (Nat.le_of_lt HSB.out)));clear bla hba hka;go_wp2_with fail
      go_roundg (gk - 1)
      case measure=>have:=HG2.out;omega
      case rel=>exact⟨m+1,by omega,by have:=HG2.out;omega,by simp,(by have:=BLa.out;rw [HDS.out];simpa using this),Fa.out,Sa.out,Ba.out,HZa.out⟩
    ·have hmi:¬ (m:Int)<(v.length:Int):=by omega
     have HTV:=hid (show v.take m=v from List.take_of_length_le (by omega));rw [HTV.out] at BL7;go_wp2_with fail
     refine(bbyte_any Bb Bb _ 93 w7 (Or.inr BL7.out) (by have:=HTOT2.out;unfold keyT at this;simp only [List.length_append,List.length_cons,List.length_nil] at this ⊢;omega) HZ7.out).mono ?_
     rintro e wa ⟨rfl,bla,hba,hka⟩;have BLa:=hid bla;have Sa:=hid (hka _ _ _ S7.out (by decide) (by decide));have HZa:=hid (Nat.le_trans HZ7.out hba.size);have Ba:=hid (B7.out.trans (hba.mono (Nat.le_of_lt HSB.out)));clear bla hba hka;go_wp2_with fail
     go_roundg (go - 1)
     case measure=>have:=HG.out;have:=HGO.out;omega
     case rel=>exact⟨k+1,by omega,by have:=HG.out;omega,by simp,(by have:=BLa.out;rw [HKT.out,← List.append_assoc,← HPRE.out];simpa [keyT] using this),Sa.out,Ba.out,HZa.out⟩
  ·have hni:¬ (k:Int)<(ks.length:Int):=by omega
   have HTV:=hid (show n++Kj (ks.take k)=Zw (n,ks) by rw [List.take_of_length_le (by omega)];rfl);rw [HTV.out] at BL4;go_wp2_with fail
   refine(Tryz.Builder_String_any Bb Bb (Zw (n,ks)) w4 (Or.inr BL4.out) HZ4.out).mono ?_
   rintro e wa ⟨rfl,hba⟩;have Ba:=hid (B4.out.trans (hba.mono (Nat.le_of_lt HSB.out)));clear hba;go_wp2_with fail;exact bodyPost_ret (v:=.string ⟨(Zw (n,ks)).toArray⟩) (by simp [results,Tryz.results115,go_sem]) rfl ⟨rfl,Ba.out⟩
end
section
open Go.RowKit Go.Lib
theorem allName_any (s:ByteArray)(w:World)(hs:s.size≤9223372036854775806) :
  Calls Tryz.prog 184 #[.string s,.func (.func 101) #[] #[]] w fun e w'=>e=.returned (.bool (allB Zp s.data.toList))∧w'=w:=by
 have hs2:(s.size:Int)≤9223372036854775806:=by omega
 go_enter Tryz.func184,Tryz.ntmps184
 go_wp2
 go_loop [5,8] (fun _ i=>∃ k:Nat,k≤s.size∧i=.int .i64 k∧(s.data.toList.take k).all Zp=true) (fun _ i=>s.size - (intOf i).toNat)
 case atStart=>exact⟨0,Nat.zero_le _,rfl,by simp⟩
 case round =>
  obtain⟨k,hk,rfl,hall⟩:=hrel
  have HA:=hid hall;clear hall
  by_cases hlt:k<s.size
  ·have HS:=hid (all_take_succ Zp s k hlt)
   cases hp:Zp s[k]
   ·have HP:=hid hp;have hgk:∀ W,Calls Tryz.prog 101 #[.int .u8 (s[k].toNat:Int)] W fun e w'=>e=.returned (.bool false)∧w'=W:=fun W=>hp ▸ nameByte_any s[k] W
    clear hp
    go_wp2_with (go_at_call 101;refine(hgk _).mono ?_;rintro e w' ⟨rfl,rfl⟩)
    go_ret
    exact⟨Qs (allB_no hlt HP.out).symm,rfl⟩
   ·have HP:=hid hp;have hgk:∀ W,Calls Tryz.prog 101 #[.int .u8 (s[k].toNat:Int)] W fun e w'=>e=.returned (.bool true)∧w'=W:=fun W=>hp ▸ nameByte_any s[k] W
    clear hp
    go_wp2_with (go_at_call 101;refine(hgk _).mono ?_;rintro e w' ⟨rfl,rfl⟩)
    go_round
    case rel=>exact⟨k+1,by omega,by go_num,by rw [HS.out,HA.out,HP.out];rfl⟩
    case measure=>simp [intOf];omega
  ·go_wp2
   go_ret
   exact⟨Qs (by rw [allB_yes hk hlt HA.out,Lib.toList_data]),rfl⟩
theorem uname_any (s:Str)(w:World)(hs:s.length≤9223372036854775806):Calls Tryz.prog 160 #[.string ⟨s.toArray⟩] w fun e w'=>e=.returned (.bool (Kq s))∧w'=w:=by
 have AL:=hid (allName_any ⟨s.toArray⟩ w (by rw [Lib.size_eq];exact hs));rw [show(⟨s.toArray⟩:ByteArray).data.toList=s from rfl] at AL
 cases s with
 | nil =>
  have hb:allB Zp ([]:Str)=false:=rfl;rw [hb] at AL
  go_enter Tryz.func160,Tryz.ntmps160
  go_wp2_with (go_at_call 184;refine AL.out.mono ?_;rintro e w' ⟨rfl,rfl⟩)
  go_ret
  exact⟨rfl,rfl⟩
 | cons c t =>
  have NS:=hid (nameStart_any c w);have hall:allB Zp (c::t)=(c::t).all Zp:=by simp [allB]
  rw [hall] at AL;have hby:∀ h,(⟨(c::t).toArray⟩:ByteArray)[0]'h=c:=fun h=>rfl
  have hnok:Kq (c::t)=((c::t).all Zp&&Jy c):=by simp only [Kq,Zt];rw [Bool.and_comm]
  have HN:=hid hnok;clear hnok hall;have hsz:(0:Int)<((⟨(c::t).toArray⟩:ByteArray).size:Int):=by rw [Lib.size_eq];simp
  cases ha:(c::t).all Zp with
  | false =>
   rw [ha] at AL HN;clear ha
   go_enter Tryz.func160,Tryz.ntmps160
   go_wp2_with (go_at_call 184;refine AL.out.mono ?_;rintro e w' ⟨rfl,rfl⟩)
   go_ret
   exact⟨Qs (by rw [HN.out];rfl),rfl⟩
  | true =>
   rw [ha] at AL HN;clear ha
   go_enter Tryz.func160,Tryz.ntmps160
   go_wp2_with (first
    | (go_at_call 184;refine AL.out.mono ?_;rintro e w' ⟨rfl,rfl⟩)
    | (go_at_call 100;refine NS.out.mono ?_;rintro e w' ⟨rfl,rfl⟩))
   go_ret
   exact⟨Qs (by rw [HN.out];rfl),rfl⟩
def noCtl (v:Str):Bool:=v.all (fun c=>!ctlB c)
theorem noCtl_cons (c:UInt8)(t:Str):noCtl (c::t)=(!ctlB c&&noCtl t):=rfl
theorem noCtl_run:∀ (run t:Str),(∀ c∈run,128≤c.toNat)→noCtl (run++t)=noCtl t
 | [],t,_=>rfl
 | c::r,t,h=>by
  have hc:ctlB c=false:=by
   have:=(run_no (h c (List.mem_cons_self ..))).2.2.2
   simp only [Bool.or_eq_false_iff] at this;exact this.1.1.1
  rw [List.cons_append,noCtl_cons,hc,noCtl_run r t (fun d hd=>h d (List.mem_cons_of_mem _ hd))];rfl
theorem rune_ctl {l:Str}{r k:Nat}(h:Sound l r k):noCtl l=(!(decide ((r:Int)<32)||(r:Int)==127)&&noCtl (l.drop k)):=by
 cases h with
 | one c t hc =>
  rw [noCtl_cons]
  congr 1
  congr 1
  revert c;apply Jj;decide +kernel
 | more run t r h2 h4 hr hm hb he =>
  rw [noCtl_run run t hb,List.drop_left];have h1:decide ((r:Int)<32)=false:=decide_eq_false (by omega);have h3:((r:Int)==127)=false:=by rw [beq_eq_false_iff_ne];omega
  rw [h1,h3];rfl
theorem idxCtl_any (v:Str)(w:World)(hv:Zm v=true)(hs:v.length≤140737488355328) :
  Calls Tryz.prog 196 #[.string ⟨v.toArray⟩,.func (.func 158) #[] #[],.bool true] w fun e w'=>(∃ i:Int,e=.returned (.int .i64 i)∧decide ((0:Int)≤i)=!noCtl v)∧Below w.heap.size w w':=by
 have CT:=hid (fun r W=>ctl_any r W);have hsz:(⟨v.toArray⟩:ByteArray).size=v.length:=Lib.size_eq _;have HSZ:=hid hsz;have HV:=hid hv;clear hv hsz
 go_enter Tryz.func196,Tryz.ntmps196
 go_wp2_with fail
 go_loopg [6] v.length (fun g v6 W=>v6=.int .i64 0∧∃ pos:Nat,pos≤v.length∧v.length≤pos+g∧W.heap[w.heap.size]?=some (.stringIter ⟨v.toArray⟩ pos)∧Zm (v.drop pos)=true∧noCtl v=noCtl (v.drop pos)∧Below w.heap.size w W)
 case atStart=>exact⟨rfl,0,Nat.zero_le _,by omega,World.iter_heap w _ 0,HV.out,rfl,bal _ _⟩
 case round =>
  obtain⟨rfl,pos,hpos,hg,hit,hut,hno,hb⟩:=hrel
  rename World=>wr
  have HG:=hid hg;have HNO:=hid hno;clear hg hno
  by_cases hp:pos<v.length
  ·have hne:v.drop pos≠[]:=by intro e;have:=congrArg List.length e;simp at this;omega
   have hdl:=dec_le hne
   obtain⟨hsd,hnext⟩:=utfB_sound hne hut
   have hnx:∀ ty,(Instr.next (.pointer (some ⟨w.heap.size,0,none⟩)) true ty).run Tryz.prog wr=_:=fun ty=>Lib.run_next_any_at wr w.heap.size ⟨v.toArray⟩ pos ty hit (by rw [Lib.size_eq];exact hp)
   simp only [dec_at] at hnx;have hrc:=rune_ctl hsd;rw [List.length_drop] at hdl;rw [List.drop_drop] at hnext hrc;generalize hd:decodeL (v.drop pos)=rk at *
   obtain⟨r,k⟩:=rk
   simp only at hnx hdl hnext hrc;have HIT:=hid (Lib.iterAt_heap wr w.heap.size ⟨v.toArray⟩ pos (pos+k) hit);have HBW:=hid (Lib.below_iterAt hb (k:=w.heap.size) (by omega) ⟨v.toArray⟩ (pos+k));have HPK:=hid (show pos+k≤v.length∧1≤k by omega);have HNX:=hid hnext;have HRC:=hid hrc;have CTR:=hid (fun W=>CT.out (r:Int) W)
   obtain⟨b,hbd⟩:∃ b,b=(decide ((r:Int)<32)||(r:Int)==127):=⟨_,rfl⟩
   rw [← hbd] at CTR HRC;clear hit hut hne hdl hsd hnext hrc hd hb hbd
   cases b with
   | true =>
    have HF:=hid (show noCtl v=false by rw [HNO.out,HRC.out];rfl);have hp0:(0:Int)≤(pos:Int):=by omega
    go_wp2_with (go_at_call 158;refine(CTR.out _).mono ?_;rintro e w' ⟨rfl,rfl⟩)
    exact bodyPost_ret (v:=.int .i64 pos) (by simp [results,Tryz.results196,go_sem]) rfl ⟨⟨_,rfl,by rw [HF.out];exact decide_eq_true hp0⟩,HBW.out⟩
   | false =>
    have HF:=hid (show noCtl v=noCtl (v.drop (pos+k)) by rw [HNO.out,HRC.out];rfl)
    go_wp2_with (go_at_call 158;refine(CTR.out _).mono ?_;rintro e w' ⟨rfl,rfl⟩)
    go_roundg (gk - 1)
    case measure=>have:=HG.out;omega
    case rel=>exact⟨rfl,pos+k,HPK.out.1,by have:=HG.out;have:=HPK.out;omega,HIT.out,HNX.out,HF.out,HBW.out⟩
  ·have hnx:∀ ty,(Instr.next (.pointer (some ⟨w.heap.size,0,none⟩)) true ty).run Tryz.prog wr=_:=fun ty=>Lib.run_next_end_at wr w.heap.size ⟨v.toArray⟩ pos ty hit (by rw [Lib.size_eq];exact hp)
   have HF:=hid (show noCtl v=true by rw [HNO.out,List.drop_eq_nil_of_le (by omega)];rfl);have HB:=hid hb;clear hit hut hb;go_wp2_with fail;exact bodyPost_ret (v:=.int .i64 (-1)) (by simp [results,Tryz.results196,go_sem]) rfl ⟨⟨_,rfl,by rw [HF.out];rfl⟩,HB.out⟩
theorem idxFunc_any (v:Str)(w:World)(hv:Zm v=true)(hs:v.length≤140737488355328) :
  Calls Tryz.prog 185 #[.string ⟨v.toArray⟩,.func (.func 158) #[] #[]] w fun e w'=>(∃ i:Int,e=.returned (.int .i64 i)∧decide ((0:Int)≤i)=!noCtl v)∧Below w.heap.size w w':=by
 have IX:=hid (idxCtl_any v w hv hs)
 go_enter Tryz.func185,Tryz.ntmps185
 go_wp2_with fail;refine IX.out.mono ?_;rintro e w' ⟨⟨i,rfl,hi⟩,hb⟩;have HI:=hid hi;have HB:=hid hb;clear hi hb;go_wp2_with fail;exact bodyPost_ret (v:=.int .i64 i) (by simp [results,Tryz.results185,go_sem]) rfl ⟨⟨i,rfl,HI.out⟩,HB.out⟩
theorem contCtl_any (v:Str)(w:World)(hv:Zm v=true)(hs:v.length≤140737488355328) :
  Calls Tryz.prog 161 #[.string ⟨v.toArray⟩,.func (.func 158) #[] #[]] w fun e w'=>e=.returned (.bool (!noCtl v))∧Below w.heap.size w w':=by
 have IX:=hid (idxFunc_any v w hv hs);generalize (!noCtl v)=b at *
 go_enter Tryz.func161,Tryz.ntmps161
 go_wp2_with fail;refine IX.out.mono ?_;rintro e w' ⟨⟨i,rfl,hi⟩,hb⟩;have HB:=hid hb;clear hb
 cases b with
 | true =>
  have h2:(0:Int)≤i:=of_decide_eq_true hi;clear hi;go_wp2_with fail;exact bodyPost_ret (v:=.bool true) (by simp [results,Tryz.results161,go_sem]) rfl ⟨rfl,HB.out⟩
 | false =>
  have h2:¬ (0:Int)≤i:=of_decide_eq_false hi;clear hi;go_wp2_with fail;exact bodyPost_ret (v:=.bool false) (by simp [results,Tryz.results161,go_sem];omega) rfl ⟨rfl,HB.out⟩
end
section
open Go.RowKit Go.Lib
theorem keysOk_get:∀ (l ks:List (Str×Str)),keysOk ks l=true→∀ n (hn:n<l.length),Kq (l[n]'hn).1=true∧valOk (l[n]'hn).2=true∧lastGE (ks++l.take n) (l[n]'hn).1=false
 | [],_,_,n,hn=>absurd hn (Nat.not_lt_zero n)
 | k::r,ks,h,n,hn=>by
  simp only [keysOk,Bool.and_eq_true,Bool.not_eq_true'] at h
  cases n with
  | zero=>exact⟨h.1.1.1,h.1.2,by simpa using h.1.1.2⟩
  | succ m =>
   have:=keysOk_get r (ks++[k]) h.2 m (by simp at hn;omega)
   simpa using this
theorem spot_fld (x y:Int)(w:World):(Instr.field 77 (.agg #[.int .i64 x,.int .i64 y]) 0).run Tryz.prog w=.ok (.int .i64 x) w:=by kernel_rfl
attribute [local go_sem] spot_fld
def aheadF (l:List (Str×Str)):Str:=match l.getLast? with | none=>[] | some p=>p.1
theorem ahead_lt {l:List (Str×Str)}{k:Str}(h:lastGE l k=false)(hk:k≠[]):aheadF l<k:=by
 unfold lastGE at h;unfold aheadF
 cases e:l.getLast? with
 | none =>
  cases k with
  | nil=>exact absurd rfl hk
  | cons c t=>exact List.nil_lt_cons c t
 | some p =>
  rw [e] at h;exact List.not_le.1 (of_decide_eq_false h)
theorem ahead_take {l:List (Str×Str)}{n:Nat}(h:n<l.length):aheadF (l.take (n+1))=(l[n]'h).1:=by
 have e:(l.take (n+1)).getLast?=some (l[n]'h):=by
  rw [List.take_succ_eq_append_getElem h];exact List.getLast?_concat
 unfold aheadF;rw [e]
theorem all_takeS {l:List (Str×Str)}{n:Nat}(h:n<l.length):(l.take (n+1)).all fitK=((l.take n).all fitK&&fitK (l[n]'h)):=by
 rw [List.take_succ_eq_append_getElem h,List.all_append]
 simp
def lngB (n:Str)(l:List (Str×Str)):Bool:=!(decide (n.length≤64)&&l.all fitK)
theorem lng_step {n:Str}{l:List (Str×Str)}{k:Nat}(h:k<l.length):lngB n (l.take (k+1))=(lngB n (l.take k)||decide ((64:Int)<((l[k]'h).1.length:Int))||decide ((64:Int)<((l[k]'h).2.length:Int))):=by
 unfold lngB;rw [all_takeS h];have h1:decide ((64:Int)<((l[k]'h).1.length:Int))=!decide ((l[k]'h).1.length≤64):=by
  by_cases e:(l[k]'h).1.length≤64
  ·rw [decide_eq_true e,decide_eq_false (by omega)];rfl
  ·rw [decide_eq_false e,decide_eq_true (by omega)];rfl
 have h2:decide ((64:Int)<((l[k]'h).2.length:Int))=!decide ((l[k]'h).2.length≤64):=by
  by_cases e:(l[k]'h).2.length≤64
  ·rw [decide_eq_true e,decide_eq_false (by omega)];rfl
  ·rw [decide_eq_false e,decide_eq_true (by omega)];rfl
 rw [h1,h2];have h3:fitK (l[k]'h)=(decide ((l[k]'h).1.length≤64)&&decide ((l[k]'h).2.length≤64)):=rfl;rw [h3];generalize (l.take k).all fitK=b1
 cases decide (n.length≤64) <;> cases b1 <;> cases decide ((l[k]'h).1.length≤64) <;> cases decide ((l[k]'h).2.length≤64) <;> rfl
theorem key_len {x:Stp}{k:Nat}(h:k<x.2.length):(x.2[k]'h).1.length+(x.2[k]'h).2.length≤(Zw x).length:=by
 have h1:Kj x.2=Kj (x.2.take k)++(keyT (x.2[k]'h)++Kj (x.2.drop (k+1))):=by
  have e:x.2=x.2.take k++((x.2[k]'h)::x.2.drop (k+1)):=by rw [← List.drop_eq_getElem_cons h,List.take_append_drop]
  unfold Kj
  conv=>lhs;rw [e]
  rw [List.flatMap_append,List.flatMap_cons]
 have h2:=dress_len (x.2[k]'h).2;unfold Zw;rw [h1];simp only [List.length_append,keyT,List.length_cons]
 omega
theorem pmay_any (w:World)(x:Stp)(kv:Value)(hr:RdP w kv x.2)(hm:mayB x=true)(hs:(Zw x).length≤140737488355328) :
  Calls Tryz.prog 114 #[.agg #[.string ⟨x.1.toArray⟩,kv]] w fun e w'=>e=.returned (.tuple #[.bool true,.bool (fitB x)])∧Below w.heap.size w w':=by
 have HKL:=hid (fun k h=>@key_len x k h)
 obtain⟨n,ks⟩:=x
 obtain⟨ao,cp,rfl,h63,hcell⟩:=Ks hr
 simp only at hcell h63 hs HKL ⊢;unfold mayB at hm;simp only [Bool.and_eq_true] at hm;have HOK:=hid (keysOk_get ks [] hm.2);have HNA:=hid hm.1;have HCELL:=hid hcell;have hnl:n.length≤140737488355328:=by unfold Zw at hs;simp at hs;omega
 have hnz:(n.length:Int)≤140737488355328:=by omega
 have NMN:=hid (fun W=>uname_any n W (by omega));rw [hm.1] at NMN;have HS:=hid hs;have HB1:=hid (bal w (.cells #[.string ⟨n.toArray⟩,.slice ao ks.length cp] 106));have F1:=hid (heap_alloc_new w (.cells #[.string ⟨n.toArray⟩,.slice ao ks.length cp] 106));have hl0:decide ((64:Int)<(n.length:Int))=lngB n (ks.take 0):=by
  unfold lngB
  by_cases e:n.length≤64
  ·rw [decide_eq_false (by omega),decide_eq_true e];rfl
  ·rw [decide_eq_true (by omega),decide_eq_false e];rfl
 have HL0:=hid hl0;clear hr hcell hs hm hl0
 go_enter Tryz.func114,Tryz.ntmps114
 go_upto_region 1 with fail;generalize w.alloc (.cells #[.string ⟨n.toArray⟩,.slice ao ks.length cp] 106)=w1 at *;have HSB:=hid (lt_of_block F1.out)
 obtain⟨s0,s1,_,_,sl⟩:=Qq F1.out
 go_upto_region 4 with fail;rw [HL0.out]
 go_loopg [4,5,15] ks.length (fun g v4 v5 v15 W=>∃ k:Nat,k≤ks.length∧ks.length≤k+g∧v4=.bool (lngB n (ks.take k))∧v5=.string ⟨(aheadF (ks.take k)).toArray⟩∧v15=.int .i64 k∧W.heap[w.heap.size]?=some (.cells #[.string ⟨n.toArray⟩,.slice ao ks.length cp] 106 (0,0))∧Below w.heap.size w W)
 case atStart=>exact⟨0,Nat.zero_le _,by omega,rfl,rfl,rfl,F1.out,HB1.out⟩
 case round =>
  obtain⟨k,hk,hg,rfl,rfl,rfl,ff,bb⟩:=hrel
  rename World=>w4
  have HG:=hid hg;have B4:=hid bb;have F4:=hid ff;clear bb ff F1 HB1 s0 s1 sl hg
  by_cases hlt:k<ks.length
  ·have hni:(k:Int)<(ks.length:Int):=by omega
   have hn0:(0:Int)≤(k:Int):=by omega
   obtain⟨p,o,rfl,hp,q0,q1⟩:=HCELL.out k hlt
   have r0:=(B4.out.cell (p:=⟨p,o+k * 2,none⟩) hp).trans q0;have r1:=(B4.out.cell (p:=⟨p,o+k * 2+1,none⟩) hp).trans q1;have hp2:p<w4.heap.size:=Nat.lt_of_lt_of_le hp B4.out.size
   obtain⟨ok1,ok2,ok3⟩:=HOK.out k hlt
   have hkl:=HKL.out k hlt;have HLS:=hid (@lng_step n ks k hlt);have HAT:=hid (ahead_take hlt);rw [List.nil_append] at ok3;have hal:=ahead_lt ok3 (nameOk_ne ok1);clear q0 q1 ok3;generalize ks[k]'hlt=kv at *
   obtain⟨ky,v⟩:=kv
   simp only at r0 r1 hkl HLS HAT ok1 ok2 hal;have hbl:Op.bytesLess ky (aheadF (ks.take k))=false:=by rw [Proofs.bytesLess_eq];exact decide_eq_false (List.lt_asymm hal)
   have hbe:(ky==aheadF (ks.take k))=false:=beq_eq_false_iff_ne.2 (fun e=>List.lt_irrefl _ (e ▸ hal));have hbn:ky≠aheadF (ks.take k):=fun e=>List.lt_irrefl _ (e ▸ hal)
   clear hal;have hky:ky.length≤140737488355328:=by have:=HS.out;omega
   have hvy:v.length≤140737488355328:=by have:=HS.out;omega
   unfold valOk at ok2;simp only [Bool.and_eq_true] at ok2;have NMK:=hid (fun W=>uname_any ky W (by omega));rw [ok1] at NMK;have UC:=hid (fun W=>(show Calls Tryz.prog 83 #[.string ⟨v.toArray⟩] W fun e w'=>e=.returned (.agg #[.int .i64 0,.int .i64 0])∧Below W.heap.size W w' from by
    refine(ucheck_any v W (by unfold maxLen;omega)).mono ?_
    rintro e w' ⟨⟨er,at',rfl,hx⟩,hb⟩
    rcases hx with ⟨_,rfl,rfl⟩ | ⟨hx,_⟩
    ·exact⟨rfl,hb⟩
    ·rw [ok2.1] at hx;cases hx))
   have CC:=hid (fun W=>contCtl_any v W ok2.1 hvy);rw [show noCtl v=true from ok2.2,Bool.not_true] at CC;have HU:=hid ok2.1;have hkyz:(ky.length:Int)≤140737488355328:=by omega
   have hvyz:(v.length:Int)≤140737488355328:=by omega
   clear ok1 ok2 hkl hky hvy;have HA5:=hid (bal w4 (.cells #[.string ⟨ky.toArray⟩,.string ⟨v.toArray⟩] 76));have F5:=hid (heap_alloc_new w4 (.cells #[.string ⟨ky.toArray⟩,.string ⟨v.toArray⟩] 76));go_upto_region 6 with fail;generalize w4.alloc (.cells #[.string ⟨ky.toArray⟩,.string ⟨v.toArray⟩] 76)=w5 at *
   obtain⟨y0,y1,_,_,yl⟩:=Qq F5.out
   have B5:=hid (B4.out.then HA5.out);have HZ4:=hid B4.out.size;have F5s:=hid (bk HA5.out F4.out);clear B4 F4 HA5;generalize w4.heap.size=Pb at *
   go_upto_region 8 with (first
    | (go_at_call 160;refine(NMK.out _).mono ?_;rintro e wz ⟨rfl,rfl⟩)
    | (go_at_call 83;refine(UC.out _).mono ?_;rintro e w6 ⟨rfl,hb6⟩;have F6:=hid (bk hb6 F5.out);have F6s:=hid (bk hb6 F5s.out);have B6:=hid (B5.out.then hb6);clear hb6 y0 y1 yl F5 F5s B5;obtain⟨y0,y1,_,_,yl⟩:=Qq F6.out)
    | (go_at_call 161;refine(CC.out _).mono ?_;rintro e w7 ⟨rfl,hb7⟩;have F7:=hid (bk hb7 F6.out);have F7s:=hid (bk hb7 F6s.out);have B7:=hid (B6.out.then hb7);clear hb7 y0 y1 yl F6 F6s B6;obtain⟨y0,y1,_,_,yl⟩:=Qq F7.out))
   have HTAIL:=hid (show lngB n (ks.take (k+1))=(lngB n (ks.take k)||decide ((64:Int)<(ky.length:Int))||decide ((64:Int)<(v.length:Int))) from HLS.out);clear HLS;generalize lngB n (ks.take k)=lg at *
   cases lg with
   | true =>
    go_wp2_with fail
    go_roundg (gk - 1)
    case measure=>have:=HG.out;omega
    case rel=>exact⟨k+1,by omega,by have:=HG.out;omega,by rw [HTAIL.out];rfl,by rw [HAT.out],by simp,F7s.out,B7.out⟩
   | false =>
    by_cases h1:(64:Int)<(ky.length:Int)
    ·go_wp2_with fail
     go_roundg (gk - 1)
     case measure=>have:=HG.out;omega
     case rel=>exact⟨k+1,by omega,by have:=HG.out;omega,by rw [HTAIL.out,decide_eq_true h1];rfl,by rw [HAT.out],by simp,F7s.out,B7.out⟩
    ·by_cases h2:(64:Int)<(v.length:Int)
     ·go_wp2_with fail
      go_roundg (gk - 1)
      case measure=>have:=HG.out;omega
      case rel=>exact⟨k+1,by omega,by have:=HG.out;omega,by rw [HTAIL.out,decide_eq_true h2,decide_eq_false (show ¬ (64:Int)<(ky.length:Int) by omega)];rfl,by rw [HAT.out],by simp,F7s.out,B7.out⟩
     ·go_wp2_with fail
      go_roundg (gk - 1)
      case measure=>have:=HG.out;omega
      case rel=>exact⟨k+1,by omega,by have:=HG.out;omega,by rw [HTAIL.out,decide_eq_false (show ¬ (64:Int)<(v.length:Int) by omega),decide_eq_false (show ¬ (64:Int)<(ky.length:Int) by omega)];rfl,by rw [HAT.out],by simp,F7s.out,B7.out⟩
  ·have hni:¬ (k:Int)<(ks.length:Int):=by omega
   have hkn:k=ks.length:=by omega
   subst hkn
   obtain⟨s0,s1,_,_,sl⟩:=Qq F4.out
   have HF:=hid (show(!lngB n (ks.take ks.length))=fitB (n,ks) by rw [List.take_length];unfold lngB fitB;rw [Bool.not_not]);generalize lngB n (ks.take ks.length)=lg at *
   go_wp2_with (go_at_call 160;refine(NMN.out _).mono ?_;rintro e wz ⟨rfl,rfl⟩)
   refine bodyPost_ret (v:=.tuple #[.bool true,.bool (!lg)]) (by simp [results,Tryz.results114,go_sem]) rfl ⟨?_,B4.out⟩;rw [HF.out]
end
section
open Go.RowKit Go.Lib Go.Sort Go.ChangeShapes Go.WideShapes
theorem spot_of_cell {w:World}{a:Addr}{v:Value}(h:w.cell? a=some v):a.spot=none∧a.block<w.heap.size:=by
 unfold World.cell? at h
 cases hb:w.heap[a.block]? with
 | none=>rw [hb] at h;cases h
 | some o =>
  rw [hb] at h;have hlt:=(Array.getElem?_eq_some_iff.1 hb).1
  cases o <;> simp at h
  exact⟨h.1,hlt⟩
theorem add_of {b off i:Nat}:(⟨b,off,none⟩:Addr).add i=⟨b,off+i,none⟩:=by
 unfold Addr.add;split <;> simp_all
theorem S_of (s:ByteArray):Value.string s=S s.data.toList:=by unfold S;simp
section
variable {H : Type} {enc : TypeId × Value → H} {w : World} {base : Nat} {spare : Nat → Bool} {held : Bool}
def PSz (l:List (Str×Str)):Prop:=∀ p∈l,p.1.length≤maxLen∧p.2.length≤maxLen
end
end
end Go.Proofs.YtbbmdbolkicpcaaGreatDoor
