/- RpName, RpValue, RpStepA -/
import Derived.Test.YtbbmdbolkicpcabGreatDoorSDG13
import Derived.Test.YtbbmdbolkicpcabGreatDoorSDG06
set_option maxRecDepth 100000
set_option maxHeartbeats 32000000
set_option linter.unusedVariables false
set_option linter.unusedSimpArgs false
namespace Go.Proofs.YtbbmdbolkicpcabGreatDoor
section
open Go.RowKit Go.Lib
def isAt (b:ByteArray)(p:Nat)(c:UInt8):Bool:=(Xx c (b.data.toList.drop p)).isSome
theorem ris_any (Br:Nat)(b:ByteArray)(p er:Nat)(ea:Int)(c:UInt8)(w:World)(h:SRd w Br b p er ea)(hp:p≤b.size)(hb:b.size≤1000) :
  Calls Tryz.prog 78 #[.pointer (some ⟨Br,0,none⟩),.int .u8 (c.toNat:Int)] w fun x w'=>x=.returned (.bool (isAt b p c))∧∃q,w'=w.drewN q:=by
 by_cases hlt:p<b.size
 ·have hTB:=Ly b p c hlt;have hpi:(p:Int)<(b.size:Int):=by omega
  have hp0:(0:Int)≤(p:Int):=by omega
  have hx:∃t,((b[p].toNat:Int)==(c.toNat:Int))=t∧isAt b p c=t:=by
   refine⟨_,rfl,?_⟩
   rw[Fv];unfold isAt;rw[hTB]
   by_cases hc:b[p]=c
   ·simp[hc]
   ·rw[if_neg hc,beq_eq_false_iff_ne.2 hc];rfl
  obtain⟨t,hx,hr⟩:=hx
  rw[hr]
  obtain⟨c0,c1,c2,c3,f1,f2,f3,lt⟩:=h.cells
  clear h hTB hr
  go_enter Tryz.func78,Tryz.ntmps78
  go_wp2_with fail
  cases t
  ·go_quiet (fail)
   go_wp2_with fail
   go_ret
   exact⟨rfl,_,rfl⟩
  ·go_quiet (fail)
   go_wp2_with fail
   go_ret
   exact⟨rfl,_,rfl⟩
 ·rw[show isAt b p c=false from by unfold isAt;rw[Tm b p c hlt];rfl]
  obtain⟨c0,c1,c2,c3,f1,f2,f3,lt⟩:=h.cells
  have HD:=hid (show decide (p<b.size)=false from decide_eq_false hlt);clear h hlt
  go_enter Tryz.func78,Tryz.ntmps78
  go_wp2_with fail;have hd:=HD.out
  go_quiet (fail)
  go_wp2_with fail
  go_ret
  exact⟨rfl,_,rfl⟩
def RNameRes (Br:Nat)(b:ByteArray)(p:Nat)(w:World)(x:Ending)(w':World):Prop :=
 (∃n r q,Jh (b.data.toList.drop p)=some (n,r)∧x=.returned (.string ⟨n.toArray⟩)∧SRd w' Br b q 0 0∧q≤b.size∧p≤q∧r=b.data.toList.drop q∧Qf Br w w') ∨
 (Jh (b.data.toList.drop p)=none∧(∃(n:Str) (q e:Nat) (a:Int),x=.returned (.string ⟨n.toArray⟩)∧n.length≤1000∧q≤b.size∧e≠0∧SRd w' Br b q e a)∧Qf Br w w')
theorem Xfz (Br:Nat)(b:ByteArray)(p:Nat)(w:World)(h:SRd w Br b p 0 0)(hp:p≤b.size)(hb:b.size≤1000) :
  Calls Tryz.prog 138 #[.pointer (some ⟨Br,0,none⟩)] w fun x w'=>RNameRes Br b p w x w':=by
 have H:=hid h;have FA:=hid (fun q er ea e a W (h:SRd W Br b q er ea)=>Rz Br b q er ea e a W h)
 by_cases hst:Zl Xr (b.data.toList.drop p)=true
 ·have hlt:p<b.size:=by
   rcases Nat.lt_or_ge p b.size with h1|h1
   ·exact h1
   ·rw[Zpv b p (by omega)]at hst;cases hst
  have HST:=hid hst;rw[Lg b p hlt]at hst;have NS:=hid (fun m=>hst▸Bs b[p] (w.drewN m));have hpi:(p:Int)<(b.size:Int):=by omega
  have hp0:(0:Int)≤(p:Int):=by omega
  have HD:=hid (show((p:Int)==(b.size:Int))=false from beq_eq_false_iff_ne.2 (by omega))
  obtain⟨c0,c1,c2,c3,f1,f2,f3,lt⟩:=h.cells
  clear h hst
  go_enter Tryz.func138,Tryz.ntmps138
  go_wp2_with fail;have hd:=HD.out
  go_quiet ((go_at_call 188;exact Calls.quiet_of_same (NS.out _)))
  have H2:=hid (H.out.drewN nq);have O2:=hid ((Qf.refl w Br).drewN nq);clear c0 c1 c2 c3 f1 f2 f3 lt H NS HD hd;generalize w.drewN nq=w2 at *
  obtain⟨c0,c1,c2,c3,f1,f2,f3,lt⟩:=H2.out.cells
  go_wp2_with fail
  go_loopg[] b.size (fun g W=>∃q:Nat,p≤q∧q≤b.size∧b.size≤q+g∧((b.data.toList.drop p).take (q-p)).all Zd=true∧SRd W Br b q 0 0∧Qf Br w W)
  case atStart=>exact⟨p,Nat.le_refl _,hp,by omega,by simp,H2.out,O2.out⟩
  case round =>
   obtain⟨q,hple,hqle,hg,hall,st3,o3⟩:=hrel
   rename World=>w3
   clear c0 c1 c2 c3 f1 f2 f3 lt H2 O2;have HG:=hid hg;have ST3:=hid st3;have O3:=hid o3;have HALL:=hid hall;clear hg st3 o3 hall
   obtain⟨c0,c1,c2,c3,f1,f2,f3,lt⟩:=ST3.out.cells
   by_cases hql:q<b.size
   ·have hqi:(q:Int)<(b.size:Int):=by omega
    have hqz:(0:Int)≤(q:Int):=by omega
    cases hnb:Zd b[q]
    ·have NB:=hid (fun m=>hnb▸Tw b[q] (w3.drewN m));have HNM:=hid (show Jh (b.data.toList.drop p)=if q-p≤64 then some ((b.data.toList.drop p).take (q-p),(b.data.toList.drop p).drop (q-p))else none from by
      have hl:q-p≤(b.data.toList.drop p).length:=by rw[List.length_drop,←Lib.size_eq];omega
      obtain⟨e1,e2⟩:=Gq (b.data.toList.drop p) (q-p) hl HALL.out (fun c hc=>by
       rw[List.getElem?_drop,show p+(q-p)=q by omega,List.getElem?_eq_getElem (by rw[←Lib.size_eq];exact hql)]at hc;rw[←Option.some.inj hc];exact hnb)
      exact Lh HST.out e1 e2 hl)
     clear HALL hnb HG;go_wp2_with fail
     go_quiet ((go_at_call 189;exact Calls.quiet_of_same (NB.out _)))
     have H4:=hid (ST3.out.drewN nq);have O4:=hid (O3.out.drewN nq);clear c0 c1 c2 c3 f1 f2 f3 lt ST3 O3;generalize w3.drewN nq=w4 at *
     obtain⟨c0,c1,c2,c3,f1,f2,f3,lt⟩:=H4.out.cells
     have hpq:(p:Int)≤(q:Int):=by omega
     have hq0:(0:Int)≤(q:Int):=by omega
     have hqb:(q:Int)≤(b.size:Int):=by omega
     by_cases h64:q-p≤64
     ·have hng:¬(64:Int)<(q:Int)-(p:Int):=by omega
      have HXT:=hid (Gw b p q);go_wp2_with fail
      go_quiet (fail)
      go_wp2_with fail
      go_ret
      exact Or.inl ⟨_,_,q,by rw[HNM.out,if_pos h64],by rw[HXT.out];rfl,H4.out.drewN _,hqle,hple,by rw[List.drop_drop];congr 1;omega,O4.out.drewN _⟩
     ·have hng:(64:Int)<(q:Int)-(p:Int):=by omega
      go_wp2_with (go_at_call 76;refine(FA.out q 0 0 3 p w4 H4.out).mono ?_;rintro e w5 ⟨rfl,h5,o5⟩)
      rw[if_pos trivial,if_pos trivial]at h5;have H5:=hid h5;have O5:=hid (O4.out.trans o5);have HXT:=hid (Gw b p q);clear c0 c1 c2 c3 f1 f2 f3 lt H4 O4 h5 o5
      obtain⟨c0,c1,c2,c3,f1,f2,f3,lt⟩:=H5.out.cells
      go_wp2_with fail
      go_quiet (fail)
      go_wp2_with fail
      go_ret
      exact Or.inr ⟨by rw[HNM.out,if_neg h64],⟨_,q,3,p,by rw[HXT.out];rfl,by rw[List.length_take,List.length_drop,←Lib.size_eq];omega,hqle,by decide,H5.out.drewN _⟩,O5.out.drewN _⟩
    ·have NB:=hid (fun m=>hnb▸Tw b[q] (w3.drewN m));have HA2:=hid (show((b.data.toList.drop p).take (q+1-p)).all Zd=true from by
      have:=Bd (p:=Zd) b p (q-p) (by omega) HALL.out (by simpa[show p+(q-p)=q by omega]using hnb)
      rwa [show q-p+1=q+1-p by omega]at this)
     clear HALL hnb;go_wp2_with fail
     go_quiet ((go_at_call 189;exact Calls.quiet_of_same (NB.out _)))
     have H4:=hid (ST3.out.drewN nq);have O4:=hid (O3.out.drewN nq);clear c0 c1 c2 c3 f1 f2 f3 lt ST3 O3 NB;generalize w3.drewN nq=w4 at *
     obtain⟨c0,c1,c2,c3,f1,f2,f3,lt⟩:=H4.out.cells
     go_wp2_with fail
     go_roundg (gk-1)
     case measure=>have:=HG.out;omega
     case rel=>exact⟨q+1,by omega,by omega,by have:=HG.out;omega,HA2.out,H4.out.setAt (q+1),O4.out.set _ _⟩
   ·have HD:=hid (show decide (q<b.size)=false from decide_eq_false hql);have HNM:=hid (show Jh (b.data.toList.drop p)=if q-p≤64 then some ((b.data.toList.drop p).take (q-p),(b.data.toList.drop p).drop (q-p))else none from by
     have hl:q-p≤(b.data.toList.drop p).length:=by rw[List.length_drop,←Lib.size_eq];omega
     obtain⟨e1,e2⟩:=Gq (b.data.toList.drop p) (q-p) hl HALL.out (fun c hc=>by
      rw[List.getElem?_drop,show p+(q-p)=q by omega,List.getElem?_eq_none (by rw[←Lib.size_eq];omega)]at hc
      cases hc)
     exact Lh HST.out e1 e2 hl)
    clear HALL HG;go_wp2_with fail;have hd:=HD.out
    go_quiet (fail)
    have H4:=hid (ST3.out.drewN nq);have O4:=hid (O3.out.drewN nq);clear c0 c1 c2 c3 f1 f2 f3 lt ST3 O3;generalize w3.drewN nq=w4 at *
    obtain⟨c0,c1,c2,c3,f1,f2,f3,lt⟩:=H4.out.cells
    have hpq:(p:Int)≤(q:Int):=by omega
    have hq0:(0:Int)≤(q:Int):=by omega
    have hqb:(q:Int)≤(b.size:Int):=by omega
    by_cases h64:q-p≤64
    ·have hng:¬(64:Int)<(q:Int)-(p:Int):=by omega
     have HXT:=hid (Gw b p q);go_wp2_with fail
     go_quiet (fail)
     go_wp2_with fail
     go_ret
     exact Or.inl ⟨_,_,q,by rw[HNM.out,if_pos h64],by rw[HXT.out];rfl,H4.out.drewN _,hqle,hple,by rw[List.drop_drop];congr 1;omega,O4.out.drewN _⟩
    ·have hng:(64:Int)<(q:Int)-(p:Int):=by omega
     go_wp2_with (go_at_call 76;refine(FA.out q 0 0 3 p w4 H4.out).mono ?_;rintro e w5 ⟨rfl,h5,o5⟩)
     rw[if_pos trivial,if_pos trivial]at h5;have H5:=hid h5;have O5:=hid (O4.out.trans o5);have HXT:=hid (Gw b p q);clear c0 c1 c2 c3 f1 f2 f3 lt H4 O4 h5 o5
     obtain⟨c0,c1,c2,c3,f1,f2,f3,lt⟩:=H5.out.cells
     go_wp2_with fail
     go_quiet (fail)
     go_wp2_with fail
     go_ret
     exact Or.inr ⟨by rw[HNM.out,if_neg h64],⟨_,q,3,p,by rw[HXT.out];rfl,by rw[List.length_take,List.length_drop,←Lib.size_eq];omega,hqle,by decide,H5.out.drewN _⟩,O5.out.drewN _⟩
 ·have HNN:=hid (Qfh (s:=b.data.toList.drop p) (by simpa using hst))
  by_cases hlt:p<b.size
  ·rw[Lg b p hlt]at hst;have hst:Xr b[p]=false:=by simpa using hst
   have NS:=hid (fun m=>hst▸Bs b[p] (w.drewN m));have hpi:(p:Int)<(b.size:Int):=by omega
   have hp0:(0:Int)≤(p:Int):=by omega
   have HD:=hid (show((p:Int)==(b.size:Int))=false from beq_eq_false_iff_ne.2 (by omega))
   obtain⟨c0,c1,c2,c3,f1,f2,f3,lt⟩:=h.cells
   clear h hst
   go_enter Tryz.func138,Tryz.ntmps138
   go_wp2_with fail;have hd:=HD.out
   go_quiet ((go_at_call 188;exact Calls.quiet_of_same (NS.out _)))
   have H2:=hid (H.out.drewN nq);have O2:=hid ((Qf.refl w Br).drewN nq);clear c0 c1 c2 c3 f1 f2 f3 lt H NS HD hd;generalize w.drewN nq=w2 at *
   obtain⟨c0,c1,c2,c3,f1,f2,f3,lt⟩:=H2.out.cells
   go_wp2_with (go_at_call 76;refine(FA.out p 0 0 160 p w2 H2.out).mono ?_;rintro e w5 ⟨rfl,h5,o5⟩)
   go_ret
   exact Or.inr ⟨HNN.out,⟨[],p,160,p,rfl,by simp,hp,by decide,h5⟩,O2.out.trans o5⟩
  ·have HD:=hid (show((p:Int)==(b.size:Int))=true from beq_iff_eq.2 (by omega))
   obtain⟨c0,c1,c2,c3,f1,f2,f3,lt⟩:=h.cells
   clear h hst
   go_enter Tryz.func138,Tryz.ntmps138
   go_wp2_with fail;have hd:=HD.out
   go_quiet (fail)
   have H2:=hid (H.out.drewN nq);have O2:=hid ((Qf.refl w Br).drewN nq);clear c0 c1 c2 c3 f1 f2 f3 lt H HD hd;generalize w.drewN nq=w2 at *
   obtain⟨c0,c1,c2,c3,f1,f2,f3,lt⟩:=H2.out.cells
   go_wp2_with (go_at_call 76;refine(FA.out p 0 0 160 p w2 H2.out).mono ?_;rintro e w5 ⟨rfl,h5,o5⟩)
   go_ret
   exact Or.inr ⟨HNN.out,⟨[],p,160,p,rfl,by simp,hp,by decide,h5⟩,O2.out.trans o5⟩
end
section
open Go.RowKit Go.Lib
def Qqx (r:Nat):Bool:=decide ((r:Int)<32)||(r:Int)==127||(r:Int)==91||(r:Int)==47||(r:Int)==61
theorem badV_byte (c:UInt8):Qqx c.toNat=(Bz c||c==91||c==47||c==61):=by
 revert c;apply Zn;decide +kernel
theorem val_def (b:ByteArray)(q:Nat)(acc:Str)(hq:q<b.size)(hu:Zq (b.data.toList.drop q)=true)(h1:b[q]≠93)(h2:b[q]≠92) :
  ∃r k:Nat,Kl (b.data.toList.drop q)=((r:Int),k)∧1≤k∧q+k≤b.size∧Zq (b.data.toList.drop (q+k))=true ∧
   Qw false acc (b.data.toList.drop q)=if Qqx r then none else Qw false (acc++(b.data.toList.drop q).take k) (b.data.toList.drop (q+k)):=by
 rcases Zcj b q hq with ⟨f1,_⟩|⟨r,k,f1,f2,f3,f4,f5,f6⟩
 ·rw[f1]at hu;cases hu
 refine⟨r,k,f1,f4,f5,by rw[←f6];exact hu,?_⟩
 have hne:b.data.toList.drop q≠[]:=by rw[Yr b q hq];simp
 have hs:=Sq _ hne f3;rw[f2]at hs;simp only at hs;have hdd:b.data.toList.drop (q+k)=(b.data.toList.drop q).drop k:=by rw[List.drop_drop]
 rw[hdd];have hd:=Yr b q hq;generalize b.data.toList.drop q=l at *
 cases hs with
 |one c t hc =>
  have hcb:c=b[q]:=by injection hd
  rw[badV_byte];simp only[Qw,List.take_succ_cons,List.take_zero,List.drop_succ_cons,List.drop_zero];rw[if_neg (by rw[hcb];exact h2),if_neg (by rw[hcb];exact h1)]
 |more run t r h2 h4 hr hm hb he =>
  have hbad:Qqx r=false:=by
   unfold Qqx;simp only[Bool.or_eq_false_iff,decide_eq_false_iff_not,beq_eq_false_iff_ne]
   omega
  rw[hbad,Wx run acc t hb]
  simp
theorem val_esc (b:ByteArray)(q:Nat)(acc:Str)(hq:q<b.size)(h:b[q]=92):Qw false acc (b.data.toList.drop q)=Qw true acc (b.data.toList.drop (q+1)):=by
 rw[Yr b q hq,h];rfl
theorem val_end (b:ByteArray)(q:Nat)(acc:Str)(hq:q<b.size)(h:b[q]=93):Qw false acc (b.data.toList.drop q)=if acc.length≤64 then some (acc,b.data.toList.drop (q+1))else none:=by
 rw[Yr b q hq,h];rfl
theorem val_spec (b:ByteArray)(q:Nat)(acc:Str)(hq:q<b.size):Qw true acc (b.data.toList.drop q)=if Km b[q]then Qw false (acc++[b[q]]) (b.data.toList.drop (q+1))else none:=by
 rw[Yr b q hq];rfl
theorem Xnk (b:ByteArray)(q:Nat)(e:Bool)(acc:Str)(hq:¬q<b.size):Qw e acc (b.data.toList.drop q)=none:=by
 rw[List.drop_eq_nil_of_le (by rw[←Lib.size_eq];omega)];cases e <;> rfl
theorem Zck (b:ByteArray)(q:Nat)(hq:q<b.size)(hu:Zq (b.data.toList.drop q)=true)(h:b[q].toNat<128):Zq (b.data.toList.drop (q+1))=true:=by
 rcases Zcj b q hq with ⟨f1,_⟩|⟨r,k,f1,f2,f3,f4,f5,f6⟩
 ·rw[f1]at hu;cases hu
 have hf:Kl (b.data.toList.drop q)=((b[q].toNat:Int),1):=by rw[Yr b q hq];simp only[Kl];rw[if_pos h]
 rw[f1]at hf
 have:k=1:=by injection hf
 rw[this]at f6;rw[←f6];exact hu
theorem spec_low (c:UInt8)(h:Km c=true):c.toNat<128:=by revert c;apply Zn;decide +kernel
theorem ext_one (b:ByteArray)(q:Nat)(hq:q<b.size):b.extract q (q+1)=⟨[b[q]].toArray⟩:=by
 rw[Gw,Yr b q hq,show q+1-q=1 by omega];rfl
def RValRes (Br:Nat)(b:ByteArray)(p:Nat)(w:World)(x:Ending)(w':World):Prop :=
 (∃(v:Str) (q:Nat),Qw false [] (b.data.toList.drop p)=some (v,b.data.toList.drop (q+1))∧x=.returned (.string ⟨v.toArray⟩)∧SRd w' Br b q 0 0∧q<b.size∧p≤q∧Zq (b.data.toList.drop (q+1))=true∧Qf Br w w') ∨
 (Qw false [] (b.data.toList.drop p)=none∧(∃(v:Str) (q e:Nat) (a:Int),x=.returned (.string ⟨v.toArray⟩)∧q≤b.size∧e≠0∧SRd w' Br b q e a)∧Qf Br w w')
def RVal (Br:Nat)(b:ByteArray)(p:Nat)(w:World)(g:Nat)(acc:Str)(W:World):Prop :=
 (∃q:Nat,SRd W Br b q 0 0∧q≤b.size∧p≤q∧b.size+1≤q+g∧acc.length≤q-p∧Zq (b.data.toList.drop q)=true∧Qw false [] (b.data.toList.drop p)=Qw false acc (b.data.toList.drop q)) ∨
 (Qw false [] (b.data.toList.drop p)=none∧∃(q e:Nat) (a:Int),q≤b.size∧e≠0∧SRd W Br b q e a)
theorem Xfx (Br:Nat)(b:ByteArray)(p:Nat)(w:World)(h:SRd w Br b p 0 0)(hp:p≤b.size)(hb:b.size≤1000)(hu:Zq (b.data.toList.drop p)=true) :
  Calls Tryz.prog 139 #[.pointer (some ⟨Br,0,none⟩)] w fun x w'=>RValRes Br b p w x w':=by
 have H:=hid h;have HU0:=hid hu;have FA:=hid (fun q e a W (h:SRd W Br b q 0 0)=>Rz Br b q 0 0 e a W h);have FM:=hid (fun q hq W=>Zyq b q W hq (Nat.le_trans hb (by decide)));have CT:=hid (fun(r:Int) W=>Xzz r W);have IX:=hid (fun(c:UInt8) W=>(show Calls Tryz.prog 190 #[.string ⟨#[91,93,47,61,92]⟩,.int .u8 (c.toNat:Int)] W fun e w'=>e=.returned (.int .i64 (Lib.indexByte [91,93,47,61,92] c))∧w'=W from by
  have h:=Tryz.strings_IndexByte ⟨#[91,93,47,61,92]⟩ (c.toNat:Int) W;have hc:((c.toNat:Int)).toNat.toUInt8=c:=by simp
  rw[hc]at h;exact h))
 obtain⟨c0,c1,c2,c3,f1,f2,f3,lt⟩:=h.cells
 clear h hu
 go_enter Tryz.func139,Tryz.ntmps139
 go_wp2_with fail
 go_loopg[4,5,6] (b.size+1) (fun g v4 v5 v6 W=>∃acc:Str,v4=.string ⟨acc.toArray⟩∧RVal Br b p w g acc W∧Qf Br w W)
 case atStart=>exact⟨[],rfl,Or.inl ⟨p,H.out,hp,Nat.le_refl _,by omega,by simp,HU0.out,rfl⟩,Qf.refl w Br⟩
 case round =>
  obtain⟨acc,rfl,hr,ho⟩:=hrel
  rename World=>w1
  clear c0 c1 c2 c3 f1 f2 f3 lt H;have O1:=hid ho;clear ho
  rcases hr with ⟨q,hrd,hq,hpq,hg,hal,hut,hv⟩|⟨hno,q,e,a,hq,he,hrd⟩
  ·have S1:=hid hrd;have HV:=hid hv;have HUT:=hid hut;have HB:=hid (And.intro hq (And.intro hpq (And.intro hg hal)));have hal2:acc.length≤1000:=by omega
   clear hrd hv hut hg hal
   obtain⟨c0,c1,c2,c3,f1,f2,f3,lt⟩:=S1.out.cells
   have hq0:(0:Int)≤(q:Int):=by omega
   have hq1:(q:Int)≤1000:=by omega
   by_cases hlt:q<b.size
   ·have hqi:(q:Int)<(b.size:Int):=by omega
    have hqe:((q:Int)==(b.size:Int))=false:=beq_eq_false_iff_ne.2 (by omega);have hqle:(q:Int)+1≤(b.size:Int):=by omega
    clear hq hpq
    by_cases h93:b[q]=93
    ·have e93:((b[q].toNat:Int)==93)=true:=by rw[h93];rfl
     have HE:=hid (val_end b q acc hlt h93);have HU2:=hid (Zck b q hlt HUT.out (by rw[h93];decide));clear h93;go_wp2_with fail
     go_quiet (fail)
     have S2:=hid (S1.out.drewN nq);have O2:=hid (O1.out.drewN nq);clear c0 c1 c2 c3 f1 f2 f3 lt S1 O1;generalize w1.drewN nq=w2 at *
     obtain⟨c0,c1,c2,c3,f1,f2,f3,lt⟩:=S2.out.cells
     go_wp2_with fail
     go_quiet (fail)
     have S3:=hid (S2.out.drewN nq);have O3:=hid (O2.out.drewN nq);clear c0 c1 c2 c3 f1 f2 f3 lt S2 O2;generalize w2.drewN nq=w3 at *
     obtain⟨c0,c1,c2,c3,f1,f2,f3,lt⟩:=S3.out.cells
     by_cases h64:acc.length≤64
     ·have hng:(acc.length:Int)≤64:=by omega
      go_wp2_with fail
      go_ret
      exact Or.inl ⟨acc,q,by rw[HV.out,HE.out,if_pos h64],rfl,S3.out,hlt,HB.out.2.1,HU2.out,O3.out⟩
     ·have hng:(64:Int)<(acc.length:Int):=by omega
      go_wp2_with (go_at_call 76;refine(FA.out q 3 p _ S3.out).mono ?_;rintro e w9 ⟨rfl,h5,o5⟩)
      rw[if_pos trivial,if_pos trivial]at h5
      go_ret
      exact Or.inr ⟨by rw[HV.out,HE.out,if_neg h64],⟨acc,q,3,p,rfl,HB.out.1,by decide,h5⟩,O3.out.trans o5⟩
    ·have e93:((b[q].toNat:Int)==93)=false:=by
      have:=Fv b[q] 93
      rw[show((93:UInt8).toNat:Int)=93 from rfl]at this;rw[this];exact beq_eq_false_iff_ne.2 h93
     by_cases h92:b[q]=92
     ·have e92:((b[q].toNat:Int)==92)=true:=by rw[h92];rfl
      have HE:=hid (val_esc b q acc hlt h92);have HU2:=hid (Zck b q hlt HUT.out (by rw[h92];decide));clear h92 h93;go_wp2_with fail
      go_quiet (fail)
      have S2:=hid (S1.out.drewN nq);have O2:=hid (O1.out.drewN nq);clear c0 c1 c2 c3 f1 f2 f3 lt S1 O1;generalize w1.drewN nq=w2 at *
      obtain⟨c0,c1,c2,c3,f1,f2,f3,lt⟩:=S2.out.cells
      go_wp2_with fail
      go_quiet (fail)
      have S3:=hid (S2.out.drewN nq);have O3:=hid (O2.out.drewN nq);clear c0 c1 c2 c3 f1 f2 f3 lt S2 O2;generalize w2.drewN nq=w3 at *
      obtain⟨c0,c1,c2,c3,f1,f2,f3,lt⟩:=S3.out.cells
      go_wp2_with fail
      go_quiet (fail)
      have S4:=hid (S3.out.drewN nq);have O4:=hid (O3.out.drewN nq);clear c0 c1 c2 c3 f1 f2 f3 lt S3 O3;generalize w3.drewN nq=w4 at *
      obtain⟨c0,c1,c2,c3,f1,f2,f3,lt⟩:=S4.out.cells
      go_wp2_with fail;have S5:=hid (show SRd (w4.setCell ⟨Br,1,none⟩ (.int .i64 ((q:Int)+1))) Br b (q+1) 0 0 from S4.out.setAt (q+1));have O5:=hid (show Qf Br w (w4.setCell ⟨Br,1,none⟩ (.int .i64 ((q:Int)+1)))from O4.out.set _ _);clear c0 c1 c2 c3 f1 f2 f3 lt S4 O4;generalize w4.setCell ⟨Br,1,none⟩ (.int .i64 ((q:Int)+1))=w5 at *
      obtain⟨q2,hq2⟩:∃q2,q2=q+1:=⟨_,rfl⟩
      rw[←hq2]at HE HU2 S5;have HQ2:=hid hq2;have hq20:(0:Int)≤(q2:Int):=by omega
      have hq21:(q2:Int)≤1000:=by omega
      by_cases hlt2:q2<b.size
      ·have hqi2:(q2:Int)<(b.size:Int):=by omega
       have hqe2:((q2:Int)==(b.size:Int))=false:=beq_eq_false_iff_ne.2 (by omega);have hqle2:(q2:Int)+1≤(b.size:Int):=by omega
       have hqm2:(q2:Int)≤(q2:Int)+1:=by omega
       have HE2:=hid (val_spec b q2 acc hlt2);have NB:=hid (fun m=>IX.out b[q2] (w5.drewN m));clear hqe hqle hq1 e93 e92 hq2
       obtain⟨c0,c1,c2,c3,f1,f2,f3,lt⟩:=S5.out.cells
       cases hsp:Km b[q2]
       ·have hix:Lib.indexByte [91,93,47,61,92] b[q2]<0:=(Ln b[q2]).2 hsp;have HSP:=hid hsp;clear hsp
        go_quiet ((go_at_call 190;exact Calls.quiet_of_same (NB.out _)))
        have S6:=hid (S5.out.drewN nq);have O6:=hid (O5.out.drewN nq);clear c0 c1 c2 c3 f1 f2 f3 lt S5 O5;generalize w5.drewN nq=w6 at *
        obtain⟨c0,c1,c2,c3,f1,f2,f3,lt⟩:=S6.out.cells
        go_wp2_with (go_at_call 76;refine(FA.out q2 160 q2 _ S6.out).mono ?_;rintro e w9 ⟨rfl,h5,o5⟩)
        rw[if_pos trivial,if_pos trivial]at h5
        go_ret
        exact Or.inr ⟨by rw[HV.out,HE.out,HE2.out,HSP.out];rfl,⟨[],q2,160,q2,rfl,by omega,by decide,h5⟩,O6.out.trans o5⟩
       ·have hix:¬Lib.indexByte [91,93,47,61,92] b[q2]<0:=fun h=>by rw[(Ln b[q2]).1 h]at hsp;cases hsp
        have HSP:=hid hsp;have HU3:=hid (Zck b q2 hlt2 HU2.out (spec_low _ hsp));have HX:=hid (ext_one b q2 hlt2);clear hsp
        go_quiet ((go_at_call 190;exact Calls.quiet_of_same (NB.out _)))
        have S6:=hid (S5.out.drewN nq);have O6:=hid (O5.out.drewN nq);clear c0 c1 c2 c3 f1 f2 f3 lt S5 O5;generalize w5.drewN nq=w6 at *
        obtain⟨c0,c1,c2,c3,f1,f2,f3,lt⟩:=S6.out.cells
        go_wp2_with fail
        go_quiet (fail)
        have S7:=hid (S6.out.drewN nq);have O7:=hid (O6.out.drewN nq);clear c0 c1 c2 c3 f1 f2 f3 lt S6 O6;generalize w6.drewN nq=w7 at *
        obtain⟨c0,c1,c2,c3,f1,f2,f3,lt⟩:=S7.out.cells
        go_wp2_with fail
        go_roundg (gk-1)
        case measure=>have:=HB.out;have:=HQ2.out;omega
        case rel=>exact⟨acc++[b[q2]],by rw[←Zgv,←HX.out],Or.inl ⟨q2+1,S7.out.setAt (q2+1),by omega,by have:=HB.out;have:=HQ2.out;omega,by have:=HB.out;have:=HQ2.out;omega,by have:=HB.out;have:=HQ2.out;rw[List.length_append,List.length_singleton];omega,HU3.out,by rw[HV.out,HE.out,HE2.out,HSP.out];rfl⟩,O7.out.set _ _⟩
      ·have hqe2:((q2:Int)==(b.size:Int))=true:=beq_iff_eq.2 (by omega);have HE2:=hid (Xnk b q2 true acc hlt2);have hq2b:q2≤b.size:=by omega
       clear hqe hqle hq1 e93 e92 hq2 hlt2
       obtain⟨c0,c1,c2,c3,f1,f2,f3,lt⟩:=S5.out.cells
       go_quiet (fail)
       have S6:=hid (S5.out.drewN nq);have O6:=hid (O5.out.drewN nq);clear c0 c1 c2 c3 f1 f2 f3 lt S5 O5;generalize w5.drewN nq=w6 at *
       obtain⟨c0,c1,c2,c3,f1,f2,f3,lt⟩:=S6.out.cells
       go_wp2_with (go_at_call 76;refine(FA.out q2 160 q2 _ S6.out).mono ?_;rintro e w9 ⟨rfl,h5,o5⟩)
       rw[if_pos trivial,if_pos trivial]at h5
       go_ret
       exact Or.inr ⟨by rw[HV.out,HE.out,HE2.out],⟨[],q2,160,q2,rfl,hq2b,by decide,h5⟩,O6.out.trans o5⟩
     ·have e92:((b[q].toNat:Int)==92)=false:=by
       have:=Fv b[q] 92
       rw[show((92:UInt8).toNat:Int)=92 from rfl]at this;rw[this];exact beq_eq_false_iff_ne.2 h92
      obtain⟨r,k,v1,v2,v3,v4,v5⟩:=val_def b q acc hlt HUT.out h93 h92
      have HD:=hid (And.intro v2 (And.intro v3 (And.intro v4 v5)));have HX:=hid (Gw b q (q+k));have hk0:(0:Int)≤(k:Int):=by omega
      have hk1:(k:Int)≤1000:=by omega
      have hqk:(q:Int)+(k:Int)≤(b.size:Int):=by omega
      have hqk2:(q:Int)≤(q:Int)+(k:Int):=by omega
      clear v2 v3 v4 v5 h92 h93;go_wp2_with fail
      go_quiet (fail)
      have S2:=hid (S1.out.drewN nq);have O2:=hid (O1.out.drewN nq);clear c0 c1 c2 c3 f1 f2 f3 lt S1 O1;generalize w1.drewN nq=w2 at *
      obtain⟨c0,c1,c2,c3,f1,f2,f3,lt⟩:=S2.out.cells
      go_wp2_with fail
      go_quiet (fail)
      have S3:=hid (S2.out.drewN nq);have O3:=hid (O2.out.drewN nq);clear c0 c1 c2 c3 f1 f2 f3 lt S2 O2;generalize w2.drewN nq=w3 at *
      obtain⟨c0,c1,c2,c3,f1,f2,f3,lt⟩:=S3.out.cells
      go_wp2_with fail
      go_quiet (fail)
      have S4:=hid (S3.out.drewN nq);have O4:=hid (O3.out.drewN nq);clear c0 c1 c2 c3 f1 f2 f3 lt S3 O3;generalize w3.drewN nq=w4 at *
      obtain⟨c0,c1,c2,c3,f1,f2,f3,lt⟩:=S4.out.cells
      have NB:=hid (fun m=>FM.out q hlt (w4.drewN m));rw[v1]at NB;have CR:=hid (fun W=>CT.out (r:Int) W);clear v1;go_wp2_with fail
      go_quiet ((go_at_call 137;exact Calls.quiet_of_same (NB.out _)))
      have S5:=hid (S4.out.drewN nq);have O5:=hid (O4.out.drewN nq);clear c0 c1 c2 c3 f1 f2 f3 lt S4 O4;generalize w4.drewN nq=w5 at *
      obtain⟨c0,c1,c2,c3,f1,f2,f3,lt⟩:=S5.out.cells
      obtain⟨cb,hcb⟩:∃cb,(decide ((r:Int)<32)||(r:Int)==127)=cb:=⟨_,rfl⟩
      rw[hcb]at CR;have HCB:=hid hcb;clear hcb
      cases cb
      ·cases e91:((r:Int)==91)
       ·cases e47:((r:Int)==47)
        ·cases e61:((r:Int)==61)
         ·have HBD:=hid (show ¬Qqx r=true by unfold Qqx;rw[HCB.out,e91,e47,e61];decide)
          go_wp2_with (first
           |(go_at_call 142;refine(CR.out _).mono ?_;rintro e w8 ⟨rfl,rfl⟩)
           |(go_at_call 76;refine(FA.out q 160 q _ S5.out).mono ?_;rintro e w9 ⟨rfl,h5,o5⟩))
          go_quiet (fail)
          have S6:=hid (S5.out.drewN nq);have O6:=hid (O5.out.drewN nq);clear c0 c1 c2 c3 f1 f2 f3 lt S5 O5;generalize w8.drewN nq=w6 at *
          obtain⟨c0,c1,c2,c3,f1,f2,f3,lt⟩:=S6.out.cells
          go_wp2_with fail
          go_roundg (gk-1)
          case measure=>have:=HB.out;omega
          case rel=>exact⟨acc++(b.data.toList.drop q).take k,by rw[←Zgv,HX.out,show q+k-q=k by omega],Or.inl ⟨q+k,S6.out.setAt (q+k),HD.out.2.1,by have:=HB.out;omega,by have:=HB.out;have:=HD.out.1;omega,by have:=HB.out;rw[List.length_append,List.length_take];omega,HD.out.2.2.1,by rw[HV.out,HD.out.2.2.2,if_neg HBD.out]⟩,O6.out.set _ _⟩
         ·have HBD:=hid (show Qqx r=true by unfold Qqx;rw[e61];simp)
          go_wp2_with (first
           |(go_at_call 142;refine(CR.out _).mono ?_;rintro e w8 ⟨rfl,rfl⟩)
           |(go_at_call 76;refine(FA.out q 160 q _ S5.out).mono ?_;rintro e w9 ⟨rfl,h5,o5⟩))
          rw[if_pos trivial,if_pos trivial]at h5
          go_ret
          exact Or.inr ⟨by rw[HV.out,HD.out.2.2.2,if_pos HBD.out],⟨[],q,160,q,rfl,HB.out.1,by decide,h5⟩,O5.out.trans o5⟩
        ·have HBD:=hid (show Qqx r=true by unfold Qqx;rw[e47];simp)
         go_wp2_with (first
          |(go_at_call 142;refine(CR.out _).mono ?_;rintro e w8 ⟨rfl,rfl⟩)
          |(go_at_call 76;refine(FA.out q 160 q _ S5.out).mono ?_;rintro e w9 ⟨rfl,h5,o5⟩))
         rw[if_pos trivial,if_pos trivial]at h5
         go_ret
         exact Or.inr ⟨by rw[HV.out,HD.out.2.2.2,if_pos HBD.out],⟨[],q,160,q,rfl,HB.out.1,by decide,h5⟩,O5.out.trans o5⟩
       ·have HBD:=hid (show Qqx r=true by unfold Qqx;rw[e91];simp)
        go_wp2_with (first
         |(go_at_call 142;refine(CR.out _).mono ?_;rintro e w8 ⟨rfl,rfl⟩)
         |(go_at_call 76;refine(FA.out q 160 q _ S5.out).mono ?_;rintro e w9 ⟨rfl,h5,o5⟩))
        rw[if_pos trivial,if_pos trivial]at h5
        go_ret
        exact Or.inr ⟨by rw[HV.out,HD.out.2.2.2,if_pos HBD.out],⟨[],q,160,q,rfl,HB.out.1,by decide,h5⟩,O5.out.trans o5⟩
      ·have HBD:=hid (show Qqx r=true by unfold Qqx;rw[HCB.out];rfl)
       go_wp2_with (first
        |(go_at_call 142;refine(CR.out _).mono ?_;rintro e w8 ⟨rfl,rfl⟩)
        |(go_at_call 76;refine(FA.out q 160 q _ S5.out).mono ?_;rintro e w9 ⟨rfl,h5,o5⟩))
       rw[if_pos trivial,if_pos trivial]at h5
       go_ret
       exact Or.inr ⟨by rw[HV.out,HD.out.2.2.2,if_pos HBD.out],⟨[],q,160,q,rfl,HB.out.1,by decide,h5⟩,O5.out.trans o5⟩
   ·have hqe:((q:Int)==(b.size:Int))=true:=beq_iff_eq.2 (by omega);have HE:=hid (Xnk b q false acc hlt);clear hlt hq hpq;go_wp2_with fail
    go_quiet (fail)
    have S2:=hid (S1.out.drewN nq);have O2:=hid (O1.out.drewN nq);clear c0 c1 c2 c3 f1 f2 f3 lt S1 O1;generalize w1.drewN nq=w2 at *
    obtain⟨c0,c1,c2,c3,f1,f2,f3,lt⟩:=S2.out.cells
    go_wp2_with (go_at_call 76;refine(FA.out q 160 q _ S2.out).mono ?_;rintro e w9 ⟨rfl,h5,o5⟩)
    rw[if_pos trivial,if_pos trivial]at h5
    go_roundg (gk-1)
    case measure=>have:=HB.out;have hh:=hqe;rw[beq_iff_eq]at hh;omega
    case rel=>exact⟨acc,rfl,Or.inr ⟨by rw[HV.out,HE.out],q,160,q,HB.out.1,by decide,h5⟩,O2.out.trans o5⟩
  ·obtain⟨c0,c1,c2,c3,f1,f2,f3,lt⟩:=hrd.cells
   have HRD:=hid hrd;have he2:((e:Int)==0)=false:=by rw[beq_eq_false_iff_ne];omega
   have HE:=hid he;clear hrd he;go_wp2_with fail
   go_ret
   exact Or.inr ⟨hno,⟨[],q,e,a,rfl,hq,HE.out,HRD.out⟩,O1.out⟩
end
section
open Go.RowKit Go.Lib
def Rj (W:World)(Br:Nat)(b:ByteArray):Prop:=∃(q e:Nat) (a:Int),q≤b.size∧e≠0∧SRd W Br b q e a
theorem Rj.below {W W':World}{Br:Nat}{b:ByteArray}(h:Rj W Br b)(hb:Below W.heap.size W W'):Rj W' Br b:=by
 obtain⟨q,e,a,h1,h2,h3⟩:=h
 exact⟨q,e,a,h1,h2,h3.below hb⟩
theorem Xfj (Br:Nat)(b:ByteArray)(p er:Nat)(ea:Int)(e:Nat)(a:Int)(w:World)(h:SRd w Br b p er ea)(hp:p≤b.size)(he:e≠0) :
  Calls Tryz.prog 76 #[.pointer (some ⟨Br,0,none⟩),.int .i64 e,.int .i64 a] w fun x w'=>x=.returned (.tuple #[])∧Rj w' Br b∧Qf Br w w':=by
 refine(Rz Br b p er ea e a w h).mono fun x w' hr=>?_
 refine⟨hr.1,⟨p,_,_,hp,?_,hr.2.1⟩,hr.2.2⟩
 split
 ·exact he
 ·assumption
theorem Qgh (Br:Nat)(b:ByteArray)(p er:Nat)(ea:Int)(c:UInt8)(w:World)(h:SRd w Br b p er ea)(hp:p≤b.size)(hb:b.size≤1000) :
  Calls Tryz.prog 78 #[.pointer (some ⟨Br,0,none⟩),.int .u8 (c.toNat:Int)] w fun x w'=>∃ok:Bool,x=.returned (.bool ok)∧Qf Br w w'∧SRd w' Br b p er ea ∧
   ((ok=false∧Xx c (b.data.toList.drop p)=none)∨(ok=true∧Xx c (b.data.toList.drop p)=some (b.data.toList.drop (p+1))∧p<b.size)):=by
 refine(ris_any Br b p er ea c w h hp hb).mono fun x w' hr=>?_
 obtain⟨h1,q,rfl⟩:=hr
 refine⟨_,h1,(Qf.refl w Br).drewN q,h.drewN q,?_⟩
 unfold isAt
 cases htb:Xx c (b.data.toList.drop p) with
 |none=>exact Or.inl ⟨rfl,rfl⟩
 |some r =>
  have hlt:p<b.size:=by
   rcases Nat.lt_or_ge p b.size with h|h
   ·exact h
   ·rw[Tm b p c (by omega)]at htb;cases htb
  refine Or.inr ⟨rfl,?_,hlt⟩;rw[Ly b p c hlt]at htb
  split at htb
  ·exact htb.symm
  ·cases htb
theorem ris_bad (Br:Nat)(b:ByteArray)(c:UInt8)(w:World)(h:Rj w Br b)(hb:b.size≤1000) :
  Calls Tryz.prog 78 #[.pointer (some ⟨Br,0,none⟩),.int .u8 (c.toNat:Int)] w fun x w'=>∃ok:Bool,x=.returned (.bool ok)∧Qf Br w w'∧Rj w' Br b:=by
 obtain⟨q,e,a,h1,h2,h3⟩:=h
 refine(Qgh Br b q e a c w h3 h1 hb).mono fun x w' hr=>?_
 obtain⟨ok,r1,r2,r3,_⟩:=hr
 exact⟨ok,r1,r2,q,e,a,h1,h2,r3⟩
theorem rname_one (Br:Nat)(b:ByteArray)(p:Nat)(w:World)(h:SRd w Br b p 0 0)(hp:p≤b.size)(hb:b.size≤1000) :
  Calls Tryz.prog 138 #[.pointer (some ⟨Br,0,none⟩)] w fun x w'=>∃(n:Str) (ok:Bool),x=.returned (.string ⟨n.toArray⟩)∧Qf Br w w' ∧
   ((ok=true∧∃q,Jh (b.data.toList.drop p)=some (n,b.data.toList.drop q)∧SRd w' Br b q 0 0∧q≤b.size∧p≤q)∨(ok=false∧Jh (b.data.toList.drop p)=none∧Rj w' Br b)):=by
 refine(Xfz Br b p w h hp hb).mono fun x w' hr=>?_
 rcases hr with ⟨n,r,q,h1,h2,h3,h4,h5,h6,h7⟩|⟨h1,⟨n,q,e,a,h2,h3,h4,h5,h6⟩,h7⟩
 ·exact⟨n,true,h2,h7,Or.inl ⟨rfl,q,by rw[h1,h6],h3,h4,h5⟩⟩
 ·exact⟨n,false,h2,h7,Or.inr ⟨rfl,h1,q,e,a,h4,h5,h6⟩⟩
theorem Xfk (Br:Nat)(b:ByteArray)(p:Nat)(w:World)(h:SRd w Br b p 0 0)(hp:p≤b.size)(hb:b.size≤1000)(hu:Zq (b.data.toList.drop p)=true) :
  Calls Tryz.prog 139 #[.pointer (some ⟨Br,0,none⟩)] w fun x w'=>∃(v:Str) (ok:Bool),x=.returned (.string ⟨v.toArray⟩)∧Qf Br w w' ∧
   ((ok=true∧∃q,Qw false [] (b.data.toList.drop p)=some (v,b.data.toList.drop (q+1))∧SRd w' Br b q 0 0∧q<b.size∧p≤q∧Zq (b.data.toList.drop (q+1))=true)∨(ok=false∧Qw false [] (b.data.toList.drop p)=none∧Rj w' Br b)):=by
 refine(Xfx Br b p w h hp hb hu).mono fun x w' hr=>?_
 rcases hr with ⟨v,q,h1,h2,h3,h4,h5,h6,h7⟩|⟨h1,⟨v,q,e,a,h2,h3,h4,h5⟩,h6⟩
 ·exact⟨v,true,h2,h7,Or.inl ⟨rfl,q,h1,h3,h4,h5,h6⟩⟩
 ·exact⟨v,false,h2,h6,Or.inr ⟨rfl,h1,q,e,a,h3,h4,h5⟩⟩
theorem Xn {W:World}{Rb:Nat}{a0 a1 z0 z1:Value}(h:W.heap[Rb]?=some (.cells #[z0,z1] 82 (0,0))){Q:Ending→World→Prop}{a:Act}(hd:a.defers=[])
  (h2:a.tmps.getD 2 undef=.pointer (some ⟨Rb,0,none⟩))(hQ:Q (.returned (.agg #[a0,a1])) (P2 W Rb a0 a1)) :
  bodyPost Tryz.prog Tryz.f77 Q Exit.ret a (P2 W Rb a0 a1):=by
 have hr:=Qby a0 a1 h;generalize P2 W Rb a0 a1=V at *
 obtain⟨e0,e1,_,_,_⟩:=Qq hr
 refine bodyPost_ret (v:=.agg #[a0,a1]) ?_ hd hQ
 obtain⟨tmps,defers⟩:=a
 simp only[Array.getD_eq_getD_getElem?]at h2
 simp[results,Tryz.results77,go_sem,h2,e0,e1]
theorem SSt.rdS {w W:World}{Br Sb:Nat}{n:Str}{kv:Value}{ks:List (Str×Str)}(h:SSt w Br Sb n W kv ks){b:ByteArray}{q e:Nat}{a:Int}(hr:SRd W Br b q e a)(a0 a1:Value):SRd (P2 W w.heap.size a0 a1) Br b q e a:=by
 have:=h.br
 unfold SRd at *;rw[Qbh a0 a1 (by omega)];exact hr
theorem SSt.badS {w W:World}{Br Sb:Nat}{n:Str}{kv:Value}{ks:List (Str×Str)}(h:SSt w Br Sb n W kv ks){b:ByteArray}(hr:Rj W Br b)(a0 a1:Value):Rj (P2 W w.heap.size a0 a1) Br b:=by
 obtain⟨q,e,a,h1,h2,h3⟩:=hr
 exact⟨q,e,a,h1,h2,h.rdS h3 a0 a1⟩
def RStepRes (Br:Nat) (b:ByteArray) (p:Nat) (w:World) (x:Ending) (w' : World):Prop :=
  ∃(n:Str) (ks:List (Str × Str)) (ok:Bool) (a:Option Addr) (c:Nat),x=.returned (.agg #[.string ⟨n.toArray⟩,.slice a ks.length c])∧Qd w' w.heap.size (.slice a ks.length c) ks∧Qf Br w w' ∧
    ((ok=true∧∃q,Xs (b.data.toList.drop p)=some ((n,ks),b.data.toList.drop q)∧SRd w' Br b q 0 0∧q≤b.size∧p < q∧Zq (b.data.toList.drop q)=true) ∨
     (ok=false∧Xs (b.data.toList.drop p)=none∧Rj w' Br b))
def RKey (w:World) (Br Sb:Nat) (b:ByteArray) (p:Nat) (n:Str) (g:Nat) (W:World):Prop :=
  ∃(kv:Value) (ks:List (Str × Str)),SSt w Br Sb n W kv ks∧ks.length≤b.size ∧
    ((∃q,SRd W Br b q 0 0∧p < q∧q≤b.size∧Zq (b.data.toList.drop q)=true∧Xs (b.data.toList.drop p)=(Ck ks (b.data.toList.drop q)).map (fun z => ((n,z.1),z.2))∧ks.length≤q∧b.size + 2≤q + g) ∨
     (Xs (b.data.toList.drop p)=none∧Rj W Br b))
end
end Go.Proofs.YtbbmdbolkicpcabGreatDoor
