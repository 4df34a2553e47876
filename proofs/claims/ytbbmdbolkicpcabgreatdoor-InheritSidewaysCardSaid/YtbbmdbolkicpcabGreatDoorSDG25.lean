/- AlTgt, AlTarget, InhN, InhNewA, InhNew0, InhWakeP -/
import Derived.Test.YtbbmdbolkicpcabGreatDoorSDG18
import Derived.Test.YtbbmdbolkicpcabGreatDoorSDG17
import Derived.Test.YtbbmdbolkicpcabGreatDoorSDG12
import Derived.Test.YtbbmdbolkicpcabGreatDoorSDG02
import Derived.WalkMore
import Derived.BigQuiet
import Derived.Deep.LoopGhost
import Derived.Deep.CutBlock
import Derived.Test.YtbbmdbolkicpcabGreatDoorSDG16
import Derived.Test.YtbbmdbolkicpcabGreatDoorSDG11
import Derived.Test.YtbbmdbolkicpcabGreatDoorSDG24
import Derived.Test.YtbbmdbolkicpcabGreatDoorSDG20
import Derived.Test.YtbbmdbolkicpcabGreatDoorSDG22
set_option maxRecDepth 100000
set_option maxHeartbeats 32000000
set_option linter.unusedVariables false
set_option linter.unusedSimpArgs false
namespace Go.Proofs.YtbbmdbolkicpcabGreatDoor
section
open Go.RowKit Go.Lib
theorem Xdk (t:Array Value)(h:t.size=148):∃u:Nat→Value,(∀i,t.getD i undef=u i)∧t=#[u 0,u 1,u 2,u 3,u 4,u 5,u 6,u 7,u 8,u 9,u 10,u 11,u 12,u 13,u 14,u 15,u 16,u 17,u 18,u 19,u 20,u 21,u 22,u 23,u 24,u 25,u 26,u 27,u 28,u 29,u 30,u 31,u 32,u 33,u 34,u 35,u 36,u 37,u 38,u 39,u 40,u 41,u 42,u 43,u 44,u 45,u 46,u 47,u 48,u 49,u 50,u 51,u 52,u 53,u 54,u 55,u 56,u 57,u 58,u 59,u 60,u 61,u 62,u 63,u 64,u 65,u 66,u 67,u 68,u 69,u 70,u 71,u 72,u 73,u 74,u 75,u 76,u 77,u 78,u 79,u 80,u 81,u 82,u 83,u 84,u 85,u 86,u 87,u 88,u 89,u 90,u 91,u 92,u 93,u 94,u 95,u 96,u 97,u 98,u 99,u 100,u 101,u 102,u 103,u 104,u 105,u 106,u 107,u 108,u 109,u 110,u 111,u 112,u 113,u 114,u 115,u 116,u 117,u 118,u 119,u 120,u 121,u 122,u 123,u 124,u 125,u 126,u 127,u 128,u 129,u 130,u 131,u 132,u 133,u 134,u 135,u 136,u 137,u 138,u 139,u 140,u 141,u 142,u 143,u 144,u 145,u 146,u 147]:=by
 refine⟨fun i=>t.getD i undef,fun _=>rfl,?_⟩
 have e:=Zjk 148 t.toList (by simpa using h);have e2:t=⟨(List.range 148).map fun i=>t.toList.getD i undef⟩:=by
  rw[←e]
 have e3:∀i,t.toList.getD i undef=t.getD i undef:=fun i=>by simp[Array.getD_eq_getD_getElem?]
 simp only[e3]at e2;exact e2
structure FrT (Rb Sb Xb:Nat)(v6 v9:Value)(a:Act):Prop where
 d:a.defers=[]
 n:a.tmps.size=148
 s5:a.tmps.getD 5 undef=.pointer (some ⟨Rb,0,none⟩)
 s6:a.tmps.getD 6 undef=v6
 s8:a.tmps.getD 8 undef=.pointer (some ⟨Sb,0,none⟩)
 s9:a.tmps.getD 9 undef=v9
 s10:a.tmps.getD 10 undef=.pointer (some ⟨Xb,0,none⟩)
theorem FrT.lit {Rb Sb Xb:Nat}{v6 v9:Value}{a:Act}(h:FrT Rb Sb Xb v6 v9 a):∃u:Nat→Value,a={ tmps:=#[u 0,u 1,u 2,u 3,u 4,.pointer (some ⟨Rb,0,none⟩),v6,u 7,.pointer (some ⟨Sb,0,none⟩),v9,.pointer (some ⟨Xb,0,none⟩),u 11,u 12,u 13,u 14,u 15,u 16,u 17,u 18,u 19,u 20,u 21,u 22,u 23,u 24,u 25,u 26,u 27,u 28,u 29,u 30,u 31,u 32,u 33,u 34,u 35,u 36,u 37,u 38,u 39,u 40,u 41,u 42,u 43,u 44,u 45,u 46,u 47,u 48,u 49,u 50,u 51,u 52,u 53,u 54,u 55,u 56,u 57,u 58,u 59,u 60,u 61,u 62,u 63,u 64,u 65,u 66,u 67,u 68,u 69,u 70,u 71,u 72,u 73,u 74,u 75,u 76,u 77,u 78,u 79,u 80,u 81,u 82,u 83,u 84,u 85,u 86,u 87,u 88,u 89,u 90,u 91,u 92,u 93,u 94,u 95,u 96,u 97,u 98,u 99,u 100,u 101,u 102,u 103,u 104,u 105,u 106,u 107,u 108,u 109,u 110,u 111,u 112,u 113,u 114,u 115,u 116,u 117,u 118,u 119,u 120,u 121,u 122,u 123,u 124,u 125,u 126,u 127,u 128,u 129,u 130,u 131,u 132,u 133,u 134,u 135,u 136,u 137,u 138,u 139,u 140,u 141,u 142,u 143,u 144,u 145,u 146,u 147],defers:=[] }:=by
 obtain⟨t,d⟩:=a
 obtain⟨hd,hn,h5,h6,h8,h9,h10⟩:=h
 simp only at hd hn h5 h6 h8 h9 h10
 obtain⟨u,hu,e⟩:=Xdk t hn
 rw[hu]at h5 h6 h8 h9 h10
 refine⟨u,?_⟩
 rw[h5,h6,h8,h9,h10]at e;rw[e,hd]
structure WrM (w W:World)(b:ByteArray)(Sb q:Nat):Prop where
 rb:W.heap[w.heap.size]?=some (.cells #[.int .i64 0,.int .i64 0] 78 (0,0))
 sc:ASc W Sb b q
 bel:Below w.heap.size w W
theorem TgM.wr {w W:World}{b:ByteArray}{Sb Xb q:Nat}{v:Value}{zs:Zs}(h:TgM w W b Sb Xb q v zs):WrM w W b Sb q:=⟨h.rb,h.sc,h.bel⟩
theorem TgM.wrong {w W W':World}{b:ByteArray}{Sb Xb q q':Nat}{v:Value}{zs:Zs}(h:TgM w W b Sb Xb q v zs)(o:Qf Sb W W')(hs:ASc W' Sb b q'):WrM w W' b Sb q':=by
 have hsc:W.heap[Sb]?=some (.cells (asc b q) 180 (0,0)):=h.sc
 exact⟨(o.block _ (lt_of_block h.rb) (fun e=>Ry h.rb hsc (by decide) (Option.some.inj e))).trans h.rb,hs,h.bel.grown o h.bel.size (fun k hk=>by cases hk;exact h.ls)⟩
abbrev Qzj (zs:Zs):List Stp:=zs.map (·.1)
def JT (w:World)(b:ByteArray)(tgt:Str ⊕ Nat):Nat→Nat→Act→World→Prop
 |0,_,a,W=>∃Sb Xb q v6 v9,FrT w.heap.size Sb Xb v6 v9 a∧WrM w W b Sb q∧tgt=.inr 230
 |1,n,a,W=>∃Sb Xb q v6 c zs,FrT w.heap.size Sb Xb v6 (.int .i64 (c:Nat)) a∧TgM w W b Sb Xb q v6 zs∧tgt=goC (c==0) (Qzj zs) (b.data.toList.drop q)∧c≤q∧4 * b.size+3≤4 * q+n
 |2,n,a,W=>∃Sb Xb q v6 v9 zs,FrT w.heap.size Sb Xb v6 v9 a∧TgM w W b Sb Xb q v6 zs∧tgt=goS (Qzj zs) (b.data.toList.drop q)∧4 * b.size+2≤4 * q+n
 |3,n,a,W=>∃Sb Xb q v6 v9 zs nm ks kv M,FrT w.heap.size Sb Xb v6 v9 a∧KyM w W b Sb Xb q v6 zs nm ks kv M∧tgt=goK (Qzj zs) nm ks (b.data.toList.drop q)∧4 * b.size+1≤4 * q+n
 |_,_,_,_=>False
theorem Qzk {V:World}{Pb:Nat}{s:ByteArray}{e a:Int}(hr:V.heap[Pb]?=some (.cells #[.int .i64 e,.int .i64 a] 78 (0,0))){Q:Ending→World→Prop}{act:Act}(hd:act.defers=[])
  (h4:act.tmps.getD 4 undef=.string s)(h5:act.tmps.getD 5 undef=.pointer (some ⟨Pb,0,none⟩))(hQ:Q (.returned (.tuple #[.string s,.agg #[.int .i64 e,.int .i64 a]])) V) :
  bodyPost Tryz.prog Tryz.f53 Q Exit.ret act V:=by
 obtain⟨e0,e1,_,_,_⟩:=Qq hr
 refine bodyPost_ret (v:=.tuple #[.string s,.agg #[.int .i64 e,.int .i64 a]]) ?_ hd hQ
 obtain⟨tmps,defers⟩:=act
 simp only[Array.getD_eq_getD_getElem?]at h4 h5
 simp[results,Tryz.results53,go_sem,h4,h5,e0,e1]
theorem Zgq (w:World)(b:ByteArray)(tgt:Str ⊕ Nat):∃rest,Ex Tryz.f53 0=some (.seq .skip rest)∧∀n a W,JT w b tgt 0 n a W→∀Jx:Nat→Act→World→Prop,
  rest.wp Tryz.prog (Exit.jumps Jx (bodyPost Tryz.prog Tryz.f53 (fun x w'=>Xxx w tgt x w'))) a W:=by
 refine⟨_,rfl,?_⟩
 intro n a W hJ Jx
 obtain⟨Sb,Xb,q,v6,v9,hfr,hm,ht⟩:=hJ
 obtain⟨u,rfl⟩:=hfr.lit
 have HM:=hid hm;have HT:=hid ht
 obtain⟨c0,c1,f1,lt⟩:=hm.sc.cells
 obtain⟨r0,r1,rf0,rf1,rlt⟩:=Qq hm.rb
 clear hfr hm ht;go_wp2_with fail
 go_region
 all_goals
  go_wp2_with fail;simp only[Exit.jumps];refine Qzk (Pb:=w.heap.size) (e:=230) (a:=q) ?_ rfl rfl rfl ⟨?_,Or.inr ⟨230,q,HT.out,by decide,rfl⟩⟩
  ·exact Xy (W:=W.drew) _ _ HM.out.rb
  ·exact Zr (W:=W.drew) _ _ HM.out.bel.drew (Nat.le_refl _)
theorem Xrv (Sb : Nat) (b m : ByteArray) (k q : Nat) (W : World) (h : ASc W Sb b q) (hq : q ≤ b.size) (hb : b.size ≤ 1048576) (hk : m.size = k) (hm : m.size ≤ 1000) :
    Calls Tryz.prog 107 #[.pointer (some ⟨Sb,0,none⟩),.string m] W fun x w' => ∃ok:Bool,x=.returned (.bool ok)∧Qf Sb W w' ∧
      ((ok=true∧ASc w' Sb b (q + k)∧q + k≤b.size∧b.data.toList.drop q=m.data.toList++b.data.toList.drop (q + k)) ∨
       (ok=false∧(∃q',ASc w' Sb b q' ∧ q' ≤ b.size)∧¬m.data.toList <+: b.data.toList.drop q)) := by
  subst hk
  refine (Qky Sb b m q W h hq (by omega) hm).mono ?_
  rintro x w' ⟨o,⟨rfl,h1,h2,h3⟩|⟨rfl,h1,h2⟩⟩
  · exact ⟨true,rfl,o,Or.inl ⟨rfl,h1,h2,h3⟩⟩
  · exact ⟨false,rfl,o,Or.inr ⟨rfl,h1,h2⟩⟩
theorem valT (Sb : Nat) (b : ByteArray) (q : Nat) (W : World) (h : ASc W Sb b q) (hq : q ≤ b.size) (hb : b.size ≤ 1048576) (hT : Hk Sb W) :
    Calls Tryz.prog 111 #[.pointer (some ⟨Sb,0,none⟩)] W fun x w' => ∃(v:ByteArray) (ok:Bool),x=.returned (.tuple #[.string v,.bool ok])∧Qf Sb W w' ∧
      ((ok=true∧∃s q',v=⟨s.toArray⟩∧Jr (b.data.toList.drop q)=some (s,b.data.toList.drop q')∧ASc w' Sb b q' ∧ q' ≤ b.size) ∨
       (ok=false∧Jr (b.data.toList.drop q)=none∧∃q',ASc w' Sb b q' ∧ q' ≤ b.size)) := by
  refine (aval_any Sb b q W h hq (by omega) hT).mono ?_
  rintro x w' ⟨o,⟨v,q2,h1,rfl,h2,h3⟩|⟨h1,s,q2,rfl,h2,h3⟩⟩
  · exact ⟨_,true,rfl,o,Or.inl ⟨rfl,v,q2,rfl,h1,h2,h3⟩⟩
  · exact ⟨_,false,rfl,o,Or.inr ⟨rfl,h1,q2,h2,h3⟩⟩
theorem drop_le {b:ByteArray}{q q2:Nat}(h:(b.data.toList.drop q2).length≤(b.data.toList.drop q).length)(h1:q≤b.size)(h2:q2≤b.size):q≤q2:=by
 rw[List.length_drop,List.length_drop,←Lib.size_eq]at h
 omega
theorem Xrw (w:World)(b:ByteArray)(tgt:Str ⊕ Nat)(hb:b.size≤1048576)(hT:Hk w.heap.size w):∃rest,Ex Tryz.f53 3=some (.seq .skip rest)∧∀n a W,JT w b tgt 3 n a W→∀Jx:Nat→Act→World→Prop,(∀l' n' a' w',n'<n→JT w b tgt l' n' a' w'→Jx l' a' w') →
  rest.wp Tryz.prog (Exit.jumps Jx (bodyPost Tryz.prog Tryz.f53 (fun x w'=>Xxx w tgt x w'))) a W:=by
 obtain⟨rest0,hr0,hv0⟩:=Zgq w b tgt
 have HR0:=hid hr0;have HV0:=hid hv0;clear hr0 hv0
 refine⟨_,rfl,?_⟩
 intro g a W hJ Jx hJx
 obtain⟨Sb,Xb,q,v6,v9,zs,nm,ks,kv,M,hfr,hm,ht,hg⟩:=hJ
 obtain⟨u,rfl⟩:=hfr.lit
 have HX:=hid hJx;have KM:=hid hm;have HT:=hid ht;have HG:=hid hg;have HB:=hid hb;have HQB:=hid hm.m.qb;have K2kw:=hid hm.kw;have HTB:=hid (fun W (hbel:Below w.heap.size w W)=>(show Hk Sb W from⟨(hT.below hbel).1,Nat.lt_of_lt_of_le hT.2.1 hm.m.ls,Nat.lt_of_lt_of_le hT.2.2 hm.m.ls⟩));have ON91:=hid (fun W (h:ASc W Sb b q)=>(show Calls Tryz.prog 106 #[.pointer (some ⟨Sb,0,none⟩),.int .u8 91] W _ from Bl Sb b q 91 W h hm.m.qb (by omega)));have ON47:=hid (fun W (h:ASc W Sb b q)=>(show Calls Tryz.prog 106 #[.pointer (some ⟨Sb,0,none⟩),.int .u8 47] W _ from Bl Sb b q 47 W h hm.m.qb (by omega)))
 obtain⟨ak,ck,rfl⟩:=Zx hm.ko
 obtain⟨x0,x1,xf0,xf1,xlt⟩:=Qq hm.x
 obtain⟨s0,s1,sf1,slt⟩:=hm.m.sc.cells
 clear hfr hJx hm ht hg hT
 cases h91:Zl (fun d=>d==91) (b.data.toList.drop q) with
 |false =>
  have H91:=hid h91;go_wp2_with fail
  refine(ON91.out _ KM.out.m.sc).mono ?_
  rw[h91];clear h91;rintro e W2 ⟨rfl,sc2,o2⟩;have K2:=hid (KM.out.step o2 sc2 KM.out.m.qb (Nat.le_refl _));clear x0 x1 xf0 xf1 xlt s0 s1 sf1 slt KM sc2 o2
  obtain⟨x0,x1,xf0,xf1,xlt⟩:=Qq K2.out.x
  obtain⟨s0,s1,sf1,slt⟩:=K2.out.m.sc.cells
  have HKL:=hid (show ks.length≤1000000 from by
   have h1:=K2.out.kw;have h2:=K2.out.m.qb;have h3:2 * ks.length≤kw ks:=kw_len ks
   have:=HB.out
   omega)
  go_wp2_with fail
  refine(Xzg W2 M _ ks K2.out.ko HKL.out).mono ?_
  rintro e W3 ⟨rfl,⟨l',hp,hs,ho⟩,gr⟩;have K3:=hid (K2.out.sort gr ho hp hs);have HMAY:=hid (show Kr (nm,Ky ks)=true∧(Qp (nm,Ky ks)).length≤1073741824 from⟨may_srt K2.out.nm K2.out.ok K2.out.nd,by
   have h1:=text_srt nm ks;have h2:=K2.out.kw;have h3:=K2.out.m.qb
   have:=HB.out
   omega⟩)
  clear x0 x1 xf0 xf1 xlt s0 s1 sf1 slt hp hs ho gr K2 l'
  obtain⟨sk,hsk⟩:∃sk,sk=Ky ks:=⟨_,rfl⟩
  have HSK:=hid hsk;rw[←hsk]at K3 HMAY;have hln:ks.length=sk.length:=by rw[hsk];exact(Vg ks).length_eq.symm
  clear hsk;rw[hln]at K3 ⊢;clear hln
  obtain⟨x0,x1,xf0,xf1,xlt⟩:=Qq K3.out.x
  obtain⟨s0,s1,sf1,slt⟩:=K3.out.m.sc.cells
  have HZL:=hid (show zs.length+1≤1050000 from by have:=K3.out.cn;have:=HQB.out;have:=HB.out;omega);have HWS:=hid K3.out.m.bel.size
  go_wp2_with (at_builtin;refine Jl (E:=Qm) rfl (.tmp 110) (.tmp 112) rfl Tryz.underlying76 Yd rfl (by decide) w.heap.size _ zs ((nm,sk),(ak,ck)) rfl K3.out.m.own rfl (by have:=HZL.out;unfold maxLen;omega) (by have:=HZL.out;omega) HWS.out #[.string ⟨nm.toArray⟩,.slice ak sk.length ck] rfl ?_;intro v7 W4 own4 gr4 mv4;have T4:=hid (K3.out.join HMAY.out own4 gr4 mv4);clear x0 x1 xf0 xf1 xlt s0 s1 sf1 slt own4 gr4 mv4 K3;obtain⟨s0,s1,sf1,slt⟩:=T4.out.sc.cells)
  cases h47:Zl (fun d=>d==47) (b.data.toList.drop q) with
  |true =>
   have H47:=hid (Zhz h47);have hq0:(0:Int)≤(q:Int):=by omega
   have hqb:(q:Int)≤1048576:=by have:=HQB.out;have:=HB.out;omega
   refine(ON47.out _ T4.out.sc).mono ?_
   rw[h47];clear h47;rintro e W5 ⟨rfl,sc5,o5⟩;have T5:=hid (T4.out.step o5 sc5 T4.out.qb (Nat.le_refl _));clear s0 s1 sf1 slt T4 sc5 o5
   obtain⟨s0,s1,sf1,slt⟩:=T5.out.sc.cells
   go_wp2_with fail
   go_step3
   refine HX.out 2 (g-1) _ _ (by have:=HG.out;have:=HQB.out;omega) ?_
   refine⟨Sb,Xb,q+1,v7,v9,_,⟨rfl,rfl,rfl,rfl,rfl,rfl,rfl⟩,T5.out.step ((Qf.refl _ Sb).set 1 (.int .i64 ((q+1:Nat):Int))) (T5.out.sc.setAt (q+1)) H47.out.1 (Nat.le_succ _),?_,by have:=HG.out;have:=HQB.out;omega⟩
   rw[HT.out,H47.out.2,goK_step,HSK.out]
   simp
  |false =>
   refine(ON47.out _ T4.out.sc).mono ?_
   rw[h47];rintro e W5 ⟨rfl,sc5,o5⟩;have T5:=hid (T4.out.step o5 sc5 T4.out.qb (Nat.le_refl _));clear s0 s1 sf1 slt T4 sc5 o5
   obtain⟨s0,s1,sf1,slt⟩:=T5.out.sc.cells
   have hq0:(0:Int)≤(q:Int):=by omega
   by_cases hqe:q=b.size
   ·have hx:((q:Int)==(b.size:Int))=true:=beq_iff_eq.2 (by omega);have HE:=hid (show tgt=Xyx (Qzj zs++[(nm,sk)])from by
     rw[HT.out,hqe,show b.data.toList.drop b.size=[]from List.drop_eq_nil_of_le (by rw[←Lib.size_eq];exact Nat.le_refl _),goK_end,HSK.out])
    clear H91 h47 hqe;go_wp2_with fail
    go_quiet (fail)
    have T6:=hid (show TgM w (W5.drewN nq) b Sb Xb q v7 (zs++[((nm,sk),(ak,ck))])from T5.out.below ⟨rfl,rfl,rfl,Nat.le_refl _,fun _ _=>rfl⟩);clear s0 s1 sf1 slt T5 hx;generalize W5.drewN nq=W6 at *;have PR:=hid (Qrj W6 v7 (zs++[((nm,sk),(ak,ck))]) T6.out.own.rd (fun z hz=>(T6.out.each z hz).rd) T6.out.may (by have:=HZL.out;simp;omega));rw[show(zs++[((nm,sk),(ak,ck))]).map (·.1)=Qzj zs++[(nm,sk)]from by simp]at PR
    cases hpr:Zw (Qzj zs++[(nm,sk)]) with
    |none =>
     have HE2:=hid (show tgt=.inr 3 by rw[HE.out,Xyx,hpr]);rw[(Qqq hpr).1,(Qqq hpr).2]at PR;clear hpr HE;go_wp2_with fail;refine PR.out.mono ?_;rintro e W7 ⟨rfl,hb7⟩;have T7:=hid (T6.out.below hb7)
     obtain⟨r0,r1,rf0,rf1,rlt⟩:=Qq T7.out.rb
     clear hb7 T6;go_wp2_with fail;simp only[Exit.jumps];refine Qzk (Pb:=w.heap.size) (e:=3) (a:=0) ?_ rfl rfl rfl ⟨?_,Or.inr ⟨3,0,HE2.out,by decide,rfl⟩⟩
     ·exact Xy _ _ T7.out.rb
     ·exact Zr _ _ T7.out.bel (Nat.le_refl _)
    |some t =>
     have HE2:=hid (show tgt=.inl t by rw[HE.out,Xyx,hpr]);rw[(Qqz hpr).1,(Qqz hpr).2]at PR;clear hpr HE;go_wp2_with fail;refine PR.out.mono ?_;rintro e W7 ⟨rfl,hb7⟩;have T7:=hid (T6.out.below hb7)
     obtain⟨r0,r1,rf0,rf1,rlt⟩:=Qq T7.out.rb
     clear hb7 T6;go_wp2_with fail;simp only[Exit.jumps];refine Qzk (Pb:=w.heap.size) (e:=0) (a:=0) ?_ rfl rfl rfl ⟨?_,Or.inl ⟨t,HE2.out,rfl⟩⟩
     ·exact Xy _ _ T7.out.rb
     ·exact Zr _ _ T7.out.bel (Nat.le_refl _)
   ·have hx:((q:Int)==(b.size:Int))=false:=beq_eq_false_iff_ne.2 (by omega);have hql:q<b.size:=by have:=HQB.out;omega
    have HE:=hid (show tgt=.inr 230 from by
     have h1:=H91.out;have h2:=h47;rw[Dq b q _ hql,beq_eq_false_iff_ne]at h1 h2;rw[HT.out,My b q hql,goK_wrong _ _ _ h1 h2])
    clear H91 h47;go_wp2_with fail
    go_quiet (fail)
    have T6:=hid (show TgM w (W5.drewN nq) b Sb Xb q v7 (zs++[((nm,sk),(ak,ck))])from T5.out.below ⟨rfl,rfl,rfl,Nat.le_refl _,fun _ _=>rfl⟩);go_wp2_with fail
    go_step3
    rename_i K hK
    refine hK _ _ ?_;refine Sy (HV0.out 0 _ _ ⟨Sb,Xb,q,v7,v9,⟨rfl,rfl,rfl,rfl,rfl,rfl,rfl⟩,T6.out.wr,HE.out⟩ _) (HR0.out.symm.trans rfl)
 |true =>
  have H91:=hid (Zhz h91);have HG0:=hid (show 0<g by have:=HG.out;have:=HQB.out;omega);go_wp2_with fail
  refine(ON91.out _ KM.out.m.sc).mono ?_
  rw[h91];clear h91;rintro e W2 ⟨rfl,sc2,o2⟩;have K2:=hid (KM.out.step o2 sc2 KM.out.m.qb (Nat.le_refl _));clear x0 x1 xf0 xf1 xlt s0 s1 sf1 slt KM sc2 o2 ON91 ON47;have HKL:=hid (show ks.length≤1000000 from by
   have h1:=K2.out.kw;have h2:=K2.out.m.qb;have h3:2 * ks.length≤kw ks:=kw_len ks
   have:=HB.out
   omega)
  have MU2:=hid (Xrv Sb b ⟨#[91,64]⟩ 2 q W2 K2.out.m.sc K2.out.m.qb HB.out rfl (by decide));go_wp2_with fail;refine MU2.out.mono ?_;rintro e W3 ⟨ok,rfl,o3,hr⟩;clear MU2
  cases ok with
  |false =>
   obtain⟨⟨q3,sc3,hq3⟩,hn⟩:(∃q',ASc W3 Sb b q'∧q'≤b.size)∧¬ [91,64] <+: b.data.toList.drop q:=by
    rcases hr with ⟨h,_⟩|⟨_,h1,h2⟩
    ·cases h
    ·exact⟨h1,h2⟩
   have HE:=hid (show tgt=.inr 230 from by
    rw[HT.out,H91.out.2];refine Uw ?_;unfold Rp;rw[Qkg]
    rintro⟨r,hr⟩
    exact hn ⟨r,by rw[H91.out.2,←hr];rfl⟩)
   have WR:=hid (K2.out.m.wrong o3 sc3);clear hr hn sc3 o3;go_wp2_with fail
   go_step3
   exact HX.out 0 0 _ _ HG0.out ⟨Sb,Xb,q3,v6,v9,⟨rfl,rfl,rfl,rfl,rfl,rfl,rfl⟩,WR.out,HE.out⟩
  |true =>
   obtain⟨sc3,hq3,e3⟩:ASc W3 Sb b (q+2)∧q+2≤b.size∧b.data.toList.drop q=[91,64]++b.data.toList.drop (q+2):=by
    rcases hr with ⟨_,h1,h2,h3⟩|⟨h,_⟩
    ·exact⟨h1,h2,h3⟩
    ·cases h
   clear hr
   obtain⟨p2,hp2⟩:∃p2,p2=q+2:=⟨_,rfl⟩
   rw[←hp2]at sc3 hq3 e3;have E1:=hid (show b.data.toList.drop (q+1)=64::b.data.toList.drop p2 from by
    have h:=H91.out.2.symm.trans e3
    injection h)
   have HP2:=hid hp2;have K3:=hid (K2.out.step o3 sc3 hq3 (by omega));have NM:=hid (Zyg Sb b p2 W3 sc3 hq3 (by have:=HB.out;omega));clear sc3 hq3 e3 hp2 o3 K2
   obtain⟨s0,s1,sf1,slt⟩:=K3.out.m.sc.cells
   obtain⟨k,hk⟩:∃k,k=(Xf (b.data.toList.drop p2)).1:=⟨_,rfl⟩
   rw[←hk]at NM;go_wp2_with fail;refine NM.out.mono ?_;rintro e W4 ⟨rfl,⟨q4,sc4,hq4,hqe⟩,o4⟩;have HNK:=hid (Zhx hk hqe);have HQ4:=hid hqe;have K4:=hid (K3.out.step o4 sc4 hq4 (by omega));have hb5:Below W4.heap.size W4 (W4.alloc (.cells #[.string ⟨k.toArray⟩] 9)):=bal _ _;have K5:=hid (K4.out.below hb5);have F5:=hid (heap_alloc_new W4 (.cells #[.string ⟨k.toArray⟩] 9));have HK:=hid (hasKeyAT (W4.alloc (.cells #[.string ⟨k.toArray⟩] 9)) (.slice ak ks.length ck) ks W4.heap.size k K5.out.ko.rd HKL.out (ownP_hp K5.out.ko) F5.out);clear s0 s1 sf1 slt NM sc4 hq4 hqe hk o4 K3 K4 hb5
   obtain⟨x0,x1,xf0,xf1,xlt⟩:=Qq K5.out.x
   go_upto_region 17 with fail;generalize W4.alloc (.cells #[.string ⟨k.toArray⟩] 9)=W5 at *;generalize W4.heap.size=kb at *;go_wp2_with fail;refine HK.out.mono ?_;rintro e W6 ⟨rfl,hb6⟩;have K6:=hid (K5.out.below hb6);have F6:=hid (bk hb6 F5.out);clear x0 x1 xf0 xf1 xlt hb6 K5 F5 HK
   obtain⟨s0,s1,sf1,slt⟩:=K6.out.m.sc.cells
   cases hany:ks.any (fun p=>p.1==k) with
   |true =>
    have HE:=hid (show tgt=.inr 230 from by rw[HT.out,H91.out.2];exact Uw (keyA_has E1.out HNK.out hany));have WR:=hid (K6.out.m.wrong ((Qf.refl _ Sb).set 1 (.int .i64 (p2:Nat))) (K6.out.m.sc.setAt p2));clear hany;go_wp2_with fail
    go_step3
    exact HX.out 0 0 _ _ HG0.out ⟨Sb,Xb,p2,v6,v9,⟨rfl,rfl,rfl,rfl,rfl,rfl,rfl⟩,WR.out,HE.out⟩
   |false =>
    have HANY:=hid hany;clear hany;have k0:W6.cell? ⟨kb,0,none⟩=some (.string ⟨k.toArray⟩):=cR F6.out;have klt:=lt_of_block F6.out
    by_cases hkn:k=[]
    ·have HE:=hid (show tgt=.inr 230 from by rw[HT.out,H91.out.2];exact Uw (keyA_nil E1.out HNK.out hkn));clear HNK HQ4 HANY;subst hkn;go_wp2_with fail
     go_step3
     exact HX.out 0 0 _ _ HG0.out ⟨Sb,Xb,q4,v6,v9,⟨rfl,rfl,rfl,rfl,rfl,rfl,rfl⟩,K6.out.m.wr,HE.out⟩
    ·have hlb:(k==[])=false:=beq_eq_false_iff_ne.2 hkn;have HKN:=hid hkn;have MU3:=hid (Xrv Sb b ⟨#[61]⟩ 1 q4 W6 K6.out.m.sc K6.out.m.qb HB.out rfl (by decide));go_wp2_with fail;refine MU3.out.mono ?_;rintro e W7 ⟨ok,rfl,o7,hr⟩;clear MU3 s0 s1 sf1 slt k0 klt
     cases ok with
     |false =>
      obtain⟨⟨q3,sc3,hq3⟩,hn⟩:(∃q',ASc W7 Sb b q'∧q'≤b.size)∧¬ [61] <+: b.data.toList.drop q4:=by
       rcases hr with ⟨h,_⟩|⟨_,h1,h2⟩
       ·cases h
       ·exact⟨h1,h2⟩
      have HE:=hid (show tgt=.inr 230 from by rw[HT.out,H91.out.2];exact Uw (keyA_eq E1.out HNK.out hn));have WR:=hid (K6.out.m.wrong o7 sc3);clear hr hn sc3 o7;go_wp2_with fail
      go_step3
      exact HX.out 0 0 _ _ HG0.out ⟨Sb,Xb,q3,v6,v9,⟨rfl,rfl,rfl,rfl,rfl,rfl,rfl⟩,WR.out,HE.out⟩
     |true =>
      obtain⟨sc7,hq7,e7⟩:ASc W7 Sb b (q4+1)∧q4+1≤b.size∧b.data.toList.drop q4=61::b.data.toList.drop (q4+1):=by
       rcases hr with ⟨_,h1,h2,h3⟩|⟨h,_⟩
       ·exact⟨h1,h2,h3⟩
       ·cases h
      clear hr;have E7:=hid e7;have K7:=hid (K6.out.step o7 sc7 hq7 (by omega));have F7:=hid ((o7.block _ (lt_of_block F6.out) (fun e=>Ry F6.out (show W6.heap[Sb]?=some (.cells (asc b q4) 180 (0,0))from K6.out.m.sc) (by decide) (Option.some.inj e))).trans F6.out);have VL:=hid (valT Sb b (q4+1) W7 sc7 hq7 HB.out (HTB.out W7 K7.out.m.bel));clear e7 sc7 o7 K6 F6;go_wp2_with fail;refine VL.out.mono ?_;rintro e W8 ⟨v,ok,rfl,o8,hr⟩;clear VL
      cases ok with
      |false =>
       obtain⟨hv,q3,sc3,hq3⟩:Jr (b.data.toList.drop (q4+1))=none∧∃q',ASc W8 Sb b q'∧q'≤b.size:=by
        rcases hr with ⟨h,_⟩|⟨_,h1,h2⟩
        ·cases h
        ·exact⟨h1,h2⟩
       have HE:=hid (show tgt=.inr 230 from by rw[HT.out,H91.out.2];exact Uw (keyA_val E1.out HNK.out E7.out hv));have WR:=hid (K7.out.m.wrong o8 sc3);clear hr hv sc3 o8;go_wp2_with fail
       go_step3
       exact HX.out 0 0 _ _ HG0.out ⟨Sb,Xb,q3,v6,v9,⟨rfl,rfl,rfl,rfl,rfl,rfl,rfl⟩,WR.out,HE.out⟩
      |true =>
       obtain⟨s,q8,rfl,hv,sc8,hq8⟩:∃s q',v=⟨s.toArray⟩∧Jr (b.data.toList.drop (q4+1))=some (s,b.data.toList.drop q')∧ASc W8 Sb b q'∧q'≤b.size:=by
        rcases hr with ⟨_,h⟩|⟨h,_⟩
        ·exact h
        ·cases h
       clear hr;have HV:=hid hv;have hle8:q4+1≤q8:=drop_le (b:=b) (by have:=Qpw hv;omega) hq7 hq8;have K8:=hid (K7.out.step o8 sc8 hq8 hle8);have F8:=hid ((o8.block _ (lt_of_block F7.out) (fun e=>Ry F7.out (show W7.heap[Sb]?=some (.cells (asc b (q4+1)) 180 (0,0))from K7.out.m.sc) (by decide) (Option.some.inj e))).trans F7.out);have MU9:=hid (Xrv Sb b ⟨#[93]⟩ 1 q8 W8 sc8 hq8 HB.out rfl (by decide));have HLE8:=hid hle8;clear hv sc8 o8 K7 F7 hle8;go_wp2_with fail;refine MU9.out.mono ?_;rintro e W9 ⟨ok,rfl,o9,hr⟩;clear MU9
       cases ok with
       |false =>
        obtain⟨⟨q3,sc3,hq3⟩,hn⟩:(∃q',ASc W9 Sb b q'∧q'≤b.size)∧¬ [93] <+: b.data.toList.drop q8:=by
         rcases hr with ⟨h,_⟩|⟨_,h1,h2⟩
         ·cases h
         ·exact⟨h1,h2⟩
        have HE:=hid (show tgt=.inr 230 from by rw[HT.out,H91.out.2];exact Uw (keyA_end E1.out HNK.out E7.out HV.out hn));have WR:=hid (K8.out.m.wrong o9 sc3);clear hr hn sc3 o9;go_wp2_with fail
        go_step3
        exact HX.out 0 0 _ _ HG0.out ⟨Sb,Xb,q3,v6,v9,⟨rfl,rfl,rfl,rfl,rfl,rfl,rfl⟩,WR.out,HE.out⟩
       |true =>
        obtain⟨sc9,hq9,e9⟩:ASc W9 Sb b (q8+1)∧q8+1≤b.size∧b.data.toList.drop q8=93::b.data.toList.drop (q8+1):=by
         rcases hr with ⟨_,h1,h2,h3⟩|⟨h,_⟩
         ·exact⟨h1,h2,h3⟩
         ·cases h
        clear hr;have HKA:=hid (keyA_all E1.out HNK.out HANY.out HKN.out E7.out HV.out e9);have HE:=hid (show tgt=goK (Qzj zs) nm (ks++[(k,s)]) (b.data.toList.drop (q8+1))from by rw[HT.out,H91.out.2,goK_more HKA.out]);have K9:=hid (K8.out.step o9 sc9 hq9 (Nat.le_succ _));have F9:=hid ((o9.block _ (lt_of_block F8.out) (fun e=>Ry F8.out (show W8.heap[Sb]?=some (.cells (asc b q8) 180 (0,0))from K8.out.m.sc) (by decide) (Option.some.inj e))).trans F8.out);have HOK:=hid (Qgj HKA.out);have HLT:=hid (show q+1≤q8+1∧kw (ks++[(k,s)])+nm.length≤q8+1 from by
         have h1:=keyA_len HKA.out;rw[List.length_drop,List.length_drop,←Lib.size_eq]at h1;have h2:=K2kw.out;rw[kw_snoc];have h3:=H91.out.1;simp only at h1 ⊢
         omega)
        clear sc9 hq9 e9 o9 K8 F8
        obtain⟨x0,x1,xf0,xf1,xlt⟩:=Qq K9.out.x
        have k0:W9.cell? ⟨kb,0,none⟩=some (.string ⟨k.toArray⟩):=cR F9.out;have klt:=lt_of_block F9.out
        go_wp2_with (at_builtin;refine Xc rfl (.tmp 100) (.tmp 104) rfl M _ ks (k,s) rfl K9.out.ko rfl HKL.out K9.out.hi ?_;intro kv' W10 own10 gr10 mv10;obtain⟨a',c',rfl⟩:=Zx own10;have K10:=hid (K9.out.push gr10 own10 HOK.out.1 HOK.out.2.1 HOK.out.2.2.1 HLT.out.2);have XG:=hid (K9.out.grow gr10 own10).2;rw[show(ks++[(k,s)]).length=ks.length+1 from by simp]at K10;clear x0 x1 xf0 xf1 xlt k0 klt own10 gr10 mv10 K9 F9;obtain⟨x0,x1,xf0,xf1,xlt⟩:=Qq XG.out)
        go_step3
        refine HX.out 3 (g-1) _ _ (by have:=HG0.out;omega) ?_
        exact⟨Sb,Xb,q8+1,v6,v9,zs,nm,ks++[(k,s)],_,M,⟨rfl,rfl,rfl,rfl,rfl,rfl,rfl⟩,K10.out,HE.out,by have:=HG.out;have:=HLT.out.1;have:=HG0.out;have:=HQB.out;have:=HLE8.out;have:=HQ4.out;have:=HP2.out;omega⟩
end
section
open Go.RowKit Go.Lib
theorem Zgz (w:World)(b:ByteArray)(tgt:Str ⊕ Nat)(hb:b.size≤1048576)(hT:Hk w.heap.size w):∃rest,Ex Tryz.f53 2=some (.seq .skip rest)∧∀n a W,JT w b tgt 2 n a W→∀Jx:Nat→Act→World→Prop,(∀l' n' a' w',n'<n→JT w b tgt l' n' a' w'→Jx l' a' w') →
  rest.wp Tryz.prog (Exit.jumps Jx (bodyPost Tryz.prog Tryz.f53 (fun x w'=>Xxx w tgt x w'))) a W:=by
 obtain⟨rest3,hr3,hv3⟩:=Xrw w b tgt hb hT
 have HR3:=hid hr3;have HV3:=hid hv3;clear hr3 hv3
 refine⟨_,rfl,?_⟩
 intro g a W hJ Jx hJx
 obtain⟨Sb,Xb,q,v6,v9,zs,hfr,hm,ht,hg⟩:=hJ
 obtain⟨u,rfl⟩:=hfr.lit
 have HX:=hid hJx;have TM:=hid hm;have HT:=hid ht;have HG:=hid hg;have HQB:=hid hm.qb;have T3cnt:=hid hm.cnt;have HG0:=hid (show 0<g by have:=hm.qb;omega);have NM:=hid (Zyg Sb b q W hm.sc hm.qb (by omega))
 obtain⟨k,hk⟩:∃k,k=(Xf (b.data.toList.drop q)).1:=⟨_,rfl⟩
 rw[←hk]at NM;clear hfr hJx hm ht hg hT;go_wp2_with fail;refine NM.out.mono ?_;rintro e W2 ⟨rfl,⟨q2,sc2,hq2,hqe⟩,o2⟩;have HNK:=hid (Zhx hk hqe);have HQ2:=hid hqe;have HK:=hid hk;have T2:=hid (TM.out.step o2 sc2 hq2 (by omega));clear NM sc2 hq2 hqe o2 TM hk
 obtain⟨z0,z1,hx2⟩:=T2.out.xb
 have X3:=hid (show((W2.setCell ⟨Xb,0,none⟩ (.string ⟨k.toArray⟩)).setCell ⟨Xb,1,none⟩ (.slice none 0 0)).heap[Xb]?=some (.cells #[.string ⟨k.toArray⟩,.slice none 0 0] 82 (0,0))from Xy _ _ hx2);have T3:=hid ((T2.out.setX 0 (.string ⟨k.toArray⟩)).setX 1 (.slice none 0 0))
 obtain⟨x0,x1,xf0,xf1,xlt⟩:=Qq hx2
 clear hx2;go_upto_region 12 with fail;generalize (W2.setCell ⟨Xb,0,none⟩ (.string ⟨k.toArray⟩)).setCell ⟨Xb,1,none⟩ (.slice none 0 0)=W3 at *;clear x0 x1 xf0 xf1 xlt T2
 obtain⟨x0,x1,xf0,xf1,xlt⟩:=Qq X3.out
 by_cases hkn:k=[]
 ·have HE:=hid (show tgt=.inr 230 from by rw[HT.out,goS_eq,if_pos (by rw[←HK.out];exact hkn)]);clear HNK HQ2 HK;subst hkn;go_wp2_with fail
  go_step3
  exact HX.out 0 0 _ _ HG0.out ⟨Sb,Xb,q2,v6,v9,⟨rfl,rfl,rfl,rfl,rfl,rfl,rfl⟩,T3.out.wr,HE.out⟩
 ·have hlb:(k==[])=false:=beq_eq_false_iff_ne.2 hkn;have HKN:=hid hkn;have HE:=hid (show tgt=goK (Qzj zs) k [] (b.data.toList.drop q2)from by rw[HT.out,goS_eq,if_neg (by rw[←HK.out];exact hkn),HNK.out]);have HKL:=hid (List.length_pos_iff.2 hkn);go_wp2_with fail
  go_step3
  rename_i K hK
  refine hK _ _ ?_;refine Sy (HV3.out (g-1) _ _ ⟨Sb,Xb,q2,v6,v9,zs,k,[],.slice none 0 0,W3.heap.size,⟨rfl,rfl,rfl,rfl,rfl,rfl,rfl⟩,⟨T3.out,X3.out,World.ownsRow_nil _ _ _ _,T3.out.keyLt,T3.out.bel.size,Nat.le_refl _,?_,fun x hx=>(by cases hx),List.Pairwise.nil,?_,?_⟩,HE.out,?_⟩ _ (fun l' n' a' w' hlt hj=>HX.out l' n' a' w' (by omega) hj)) (HR3.out.symm.trans rfl)
  ·rw[HK.out];exact Ztq (by rw[←HK.out];exact HKN.out)
  ·have:=HQ2.out
   simp only[kw,List.map_nil,List.sum_nil]
   omega
  ·have:=HQ2.out
   have:=HKL.out
   have:=T3cnt.out
   omega
  ·have:=HQ2.out
   have:=HG.out
   have:=HG0.out
   have:=HQB.out
   omega
theorem climb_run (w:World)(b:ByteArray)(tgt:Str ⊕ Nat)(hb:b.size≤1048576)(hT:Hk w.heap.size w):∃rest,Ex Tryz.f53 1=some (.seq .skip rest)∧∀n a W,JT w b tgt 1 n a W→∀Jx:Nat→Act→World→Prop,(∀l' n' a' w',n'<n→JT w b tgt l' n' a' w'→Jx l' a' w') →
  rest.wp Tryz.prog (Exit.jumps Jx (bodyPost Tryz.prog Tryz.f53 (fun x w'=>Xxx w tgt x w'))) a W:=by
 obtain⟨rest2,hr2,hv2⟩:=Zgz w b tgt hb hT
 have HR2:=hid hr2;have HV2:=hid hv2;clear hr2 hv2
 refine⟨_,rfl,?_⟩
 intro g a W hJ Jx hJx
 obtain⟨Sb,Xb,q,v6,c,zs,hfr,hm,ht,hcq,hg⟩:=hJ
 obtain⟨u,rfl⟩:=hfr.lit
 obtain⟨a6,c6,rfl,hc6⟩:=Qg.slice hm.own
 have HX:=hid hJx;have TM:=hid hm;have HT:=hid ht;have HG:=hid hg;have HCQ:=hid hcq;have HB:=hid hb;have HQB:=hid hm.qb;have HG0:=hid (show 0<g by have:=hm.qb;omega);have MU:=hid (fun W (h:ASc W Sb b q)=>Xrv Sb b ⟨#[46,46,47]⟩ 3 q W h hm.qb hb rfl (by decide));have ON46:=hid (fun W (h:ASc W Sb b q)=>(show Calls Tryz.prog 106 #[.pointer (some ⟨Sb,0,none⟩),.int .u8 46] W _ from Bl Sb b q 46 W h hm.qb (by omega)));have hc0:(0:Int)≤(c:Int):=by omega
 have hcb:(c:Int)≤2000000:=by have:=hm.qb;omega
 clear hfr hJx hm ht hg hT hcq
 by_cases hc:c=0
 ·have HC:=hid (show((c==0)||Zl (fun d=>d==46) (b.data.toList.drop q))=true by rw[hc];rfl);have hci:((c:Int)==0)=true:=by rw[hc];rfl
  clear hc
  by_cases hz:zs=[]
  ·have HE:=hid (show tgt=.inr 230 from by rw[HT.out,hz];exact Xmh HC.out);rw[hz];go_wp2_with fail
   go_step3
   exact HX.out 0 0 _ _ HG0.out ⟨Sb,Xb,q,_,_,⟨rfl,rfl,rfl,rfl,rfl,rfl,rfl⟩,TM.out.wr,HE.out⟩
  ·have hne:zs≠[]:=hz
   obtain⟨m,hml⟩:∃m,zs.length=m+1:=⟨zs.length-1,by have:=List.length_pos_iff.2 hne;omega⟩
   clear hz;have HPOP:=hid (TM.out.pop hne);rw[hml,Nat.add_sub_cancel]at HPOP;have HML:=hid hml;have HNE:=hid hne;have hmm:((m:Int)+1)-1=(m:Int):=by omega
   have hm0:(0:Int)≤(m:Int):=by omega
   have hmb:(m:Int)≤1100000:=by have:=TM.out.cnt;have:=HQB.out;have:=HB.out;omega
   rw[hml]at hc6 ⊢;have hmc:(m:Int)≤(c6:Int):=by omega
   have hm1:(m:Int)<(m:Int)+1:=by omega
   have hmz:((m:Int)+1==0)=false:=beq_eq_false_iff_ne.2 (by omega);clear hml hne;go_wp2_with fail
   refine(MU.out _ TM.out.sc).mono ?_
   rintro e W3 ⟨ok,rfl,o3,hr⟩
   cases ok with
   |false =>
    obtain⟨⟨q3,sc3,hq3⟩,hn⟩:(∃q',ASc W3 Sb b q'∧q'≤b.size)∧¬ [46,46,47] <+: b.data.toList.drop q:=by
     rcases hr with ⟨h,_⟩|⟨_,h1,h2⟩
     ·cases h
     ·exact⟨h1,h2⟩
    have HE:=hid (show tgt=.inr 230 from by rw[HT.out];exact Xmg HC.out hn);have WR:=hid (TM.out.wrong o3 sc3);clear hr hn sc3 o3;go_wp2_with fail
    go_step3
    exact HX.out 0 0 _ _ HG0.out ⟨Sb,Xb,q3,_,_,⟨rfl,rfl,rfl,rfl,rfl,rfl,rfl⟩,WR.out,HE.out⟩
   |true =>
    obtain⟨sc3,hq3,e3⟩:ASc W3 Sb b (q+3)∧q+3≤b.size∧b.data.toList.drop q=46::46::47::b.data.toList.drop (q+3):=by
     rcases hr with ⟨_,h1,h2,h3⟩|⟨h,_⟩
     ·exact⟨h1,h2,h3⟩
     ·cases h
    have HE:=hid (show tgt=goC (c+1==0) (Qzj zs.dropLast) (b.data.toList.drop (q+3))from by
     have h:=HC.out;rw[HT.out,e3]at *;rw[Ztz h (by intro e;exact HNE.out (List.map_eq_nil_iff.1 e))]
     simp[Qzj,List.map_dropLast])
    have T3:=hid (HPOP.out.step o3 sc3 hq3 (by omega));clear hr sc3 hq3 e3 o3;go_wp2_with fail
    go_step3
    refine HX.out 1 (g-1) _ _ (by have:=HG0.out;omega) ?_
    exact⟨Sb,Xb,q+3,_,c+1,_,⟨rfl,rfl,rfl,rfl,rfl,rfl,rfl⟩,T3.out,HE.out,by have:=HCQ.out;omega,by have:=HG.out;have:=HG0.out;omega⟩
 ·have hci:((c:Int)==0)=false:=beq_eq_false_iff_ne.2 (by omega);have HC0:=hid (show(c==0)=false from beq_eq_false_iff_ne.2 hc);clear hc
  cases h46:Zl (fun d=>d==46) (b.data.toList.drop q) with
  |true =>
   have HC:=hid (show((c==0)||Zl (fun d=>d==46) (b.data.toList.drop q))=true by rw[h46,Bool.or_true]);go_wp2_with fail
   refine(ON46.out _ TM.out.sc).mono ?_
   rw[h46];clear h46;rintro e W2 ⟨rfl,sc2,o2⟩;have T2:=hid (TM.out.step o2 sc2 TM.out.qb (Nat.le_refl _));clear sc2 o2 TM
   by_cases hz:zs=[]
   ·have HE:=hid (show tgt=.inr 230 from by rw[HT.out,hz];exact Xmh HC.out);rw[hz];go_wp2_with fail
    go_step3
    exact HX.out 0 0 _ _ HG0.out ⟨Sb,Xb,q,_,_,⟨rfl,rfl,rfl,rfl,rfl,rfl,rfl⟩,T2.out.wr,HE.out⟩
   ·have hne:zs≠[]:=hz
    obtain⟨m,hml⟩:∃m,zs.length=m+1:=⟨zs.length-1,by have:=List.length_pos_iff.2 hne;omega⟩
    clear hz;have HPOP:=hid (T2.out.pop hne);rw[hml,Nat.add_sub_cancel]at HPOP;have HML:=hid hml;have HNE:=hid hne;have hmm:((m:Int)+1)-1=(m:Int):=by omega
    have hm0:(0:Int)≤(m:Int):=by omega
    have hmb:(m:Int)≤1100000:=by have:=T2.out.cnt;have:=HQB.out;have:=HB.out;omega
    rw[hml]at hc6 ⊢;have hmc:(m:Int)≤(c6:Int):=by omega
    have hm1:(m:Int)<(m:Int)+1:=by omega
    have hmz:((m:Int)+1==0)=false:=beq_eq_false_iff_ne.2 (by omega);clear hml hne;go_wp2_with fail
    refine(MU.out _ T2.out.sc).mono ?_
    rintro e W3 ⟨ok,rfl,o3,hr⟩
    cases ok with
    |false =>
     obtain⟨⟨q3,sc3,hq3⟩,hn⟩:(∃q',ASc W3 Sb b q'∧q'≤b.size)∧¬ [46,46,47] <+: b.data.toList.drop q:=by
      rcases hr with ⟨h,_⟩|⟨_,h1,h2⟩
      ·cases h
      ·exact⟨h1,h2⟩
     have HE:=hid (show tgt=.inr 230 from by rw[HT.out];exact Xmg HC.out hn);have WR:=hid (T2.out.wrong o3 sc3);clear hr hn sc3 o3;go_wp2_with fail
     go_step3
     exact HX.out 0 0 _ _ HG0.out ⟨Sb,Xb,q3,_,_,⟨rfl,rfl,rfl,rfl,rfl,rfl,rfl⟩,WR.out,HE.out⟩
    |true =>
     obtain⟨sc3,hq3,e3⟩:ASc W3 Sb b (q+3)∧q+3≤b.size∧b.data.toList.drop q=46::46::47::b.data.toList.drop (q+3):=by
      rcases hr with ⟨_,h1,h2,h3⟩|⟨h,_⟩
      ·exact⟨h1,h2,h3⟩
      ·cases h
     have HE:=hid (show tgt=goC (c+1==0) (Qzj zs.dropLast) (b.data.toList.drop (q+3))from by
      have h:=HC.out;rw[HT.out,e3]at *;rw[Ztz h (by intro e;exact HNE.out (List.map_eq_nil_iff.1 e))]
      simp[Qzj,List.map_dropLast])
     have T3:=hid (HPOP.out.step o3 sc3 hq3 (by omega));clear hr sc3 hq3 e3 o3;go_wp2_with fail
     go_step3
     refine HX.out 1 (g-1) _ _ (by have:=HG0.out;omega) ?_
     exact⟨Sb,Xb,q+3,_,c+1,_,⟨rfl,rfl,rfl,rfl,rfl,rfl,rfl⟩,T3.out,HE.out,by have:=HCQ.out;omega,by have:=HG.out;have:=HG0.out;omega⟩
  |false =>
   have HE:=hid (show tgt=goS (Qzj zs) (b.data.toList.drop q)by rw[HT.out,goC_stop (by rw[HC0.out,h46];rfl)]);go_wp2_with fail
   refine(ON46.out _ TM.out.sc).mono ?_
   rw[h46];clear h46;rintro e W2 ⟨rfl,sc2,o2⟩;have T2:=hid (TM.out.step o2 sc2 TM.out.qb (Nat.le_refl _));clear sc2 o2 TM;go_wp2_with fail
   go_step3
   rename_i K hK
   refine hK _ _ ?_;refine Sy (HV2.out (g-1) _ _ ⟨Sb,Xb,q,_,_,zs,⟨rfl,rfl,rfl,rfl,rfl,rfl,rfl⟩,T2.out,HE.out,by have:=HG.out;have:=HG0.out;omega⟩ _ (fun l' n' a' w' hlt hj=>HX.out l' n' a' w' (by omega) hj)) (HR2.out.symm.trans rfl)
theorem Xdv (w:World)(g s:Str)(hg:g.length≤maxLen)(hs:s.length≤1048576)(hT:Hk w.heap.size w) :
  Calls Tryz.prog 53 #[.string ⟨g.toArray⟩,.string ⟨s.toArray⟩] w fun x w'=>Xxx w (Gj g s) x w':=by
 obtain⟨b,hbs,hbd⟩:∃b:ByteArray,b=⟨s.toArray⟩∧b.data.toList=s:=⟨_,rfl,by simp⟩
 have hbz:b.size≤1048576:=by rw[Lib.size_eq,hbd];exact hs
 rw[←hbs];have F0:=hid (heap_alloc_new w (.cells #[.int .i64 0,.int .i64 0] 78));have hb0:Below w.heap.size w (w.alloc (.cells #[.int .i64 0,.int .i64 0] 78)):=bal _ _;have B0:=hid hb0;have PP:=hid (fun W=>Jd g W hg);have HBD:=hid hbd
 obtain⟨rest0,hr0,hv0⟩:=Zgq w b (Gj g s)
 obtain⟨rest1,hr1,hv1⟩:=climb_run w b (Gj g s) hbz hT
 obtain⟨rest2,hr2,hv2⟩:=Zgz w b (Gj g s) hbz hT
 obtain⟨rest3,hr3,hv3⟩:=Xrw w b (Gj g s) hbz hT
 have HR0:=hid hr0;have HV0:=hid hv0;have HR1:=hid hr1;have HV1:=hid hv1;have HR2:=hid hr2;have HV2:=hid hv2;have HR3:=hid hr3;have HV3:=hid hv3;have HSZ:=hid (show(w.alloc (.cells #[.int .i64 0,.int .i64 0] 78)).heap.size=w.heap.size+1 by simp);clear hb0 hr0 hv0 hr1 hv1 hr2 hv2 hr3 hv3 hbs hbd hT hg hs
 go_enter Tryz.func53,Tryz.ntmps53
 go_wp2_with fail;refine Bj (JT w b (Gj g s)) ?_ ?_
 ·go_wp2_with fail
  refine(PP.out _).mono ?_
  rintro e w1 h1
  obtain⟨v,er,ea,rfl,hb1,l,hl,hc1,ao,cp,rfl,hcap,hs1⟩:=h1.own'
  have R1:=hid (bk hb1 F0.out);have B1:=hid (B0.out.then hb1);have L1:=hid hl;have HA2:=hid (bal w1 (.cells #[.int .i64 er,.int .i64 ea] 78));have F2:=hid (heap_alloc_new w1 (.cells #[.int .i64 er,.int .i64 ea] 78));have HC1:=hid hc1;have HS1:=hid hs1;clear h1 hl hc1 hb1 hs1;go_upto_region 2 with fail;have R2:=hid (bk HA2.out R1.out);have L2:=hid (L1.out.below HA2.out);have B2:=hid (B1.out.then HA2.out);generalize w1.alloc (.cells #[.int .i64 er,.int .i64 ea] 78)=w2 at *;generalize w1.heap.size=Pb at *;clear R1 B1 L1 HA2 F0
  obtain⟨x0,x1,_,_,xl⟩:=Qq F2.out
  obtain⟨r0,r1,rf0,rf1,rlt⟩:=Qq R2.out
  rcases HC1.out with ⟨rfl,hp⟩|⟨hz1,hp,rfl⟩
  ·by_cases hne:l=[]
   ·subst hne;have HE:=hid (Zvx (s:=s) (Or.inr hp));clear hp HC1;go_wp2_with fail;simp only[Exit.jumps];refine Qzk (Pb:=w.heap.size) (e:=2) (a:=0) ?_ rfl rfl rfl ⟨?_,Or.inr ⟨2,0,HE.out,by decide,rfl⟩⟩
    ·exact Xy _ _ R2.out
    ·exact Zr _ _ B2.out (Nat.le_refl _)
   ·obtain⟨y,up,hyl⟩:∃y up,l=y::up:=by
     cases l with
     |nil=>exact absurd rfl hne
     |cons y up=>exact⟨y,up,rfl⟩
    have HE:=hid (show Gj g s=goC (0==0) l (b.data.toList.drop 0)by rw[List.drop_zero,HBD.out,hyl];exact target_go (by rw[←hyl];exact hp));have HP:=hid hp;have HL:=hid (Zy hp);have hlz:((l.length:Int)==0)=false:=beq_eq_false_iff_ne.2 (by have:=List.length_pos_iff.2 hne;omega);have hlz2:l.length≠0:=by have:=List.length_pos_iff.2 hne;omega
    obtain⟨zs,hzl,hown,heach,hdis⟩:=L2.out
    have HZL:=hid hzl;have HOWN:=hid hown;have HEACH:=hid heach;clear hyl hp hne hzl hown heach hdis L2 HC1;have HA3:=hid (bal w2 (.cells (asc b 0) 180));have F3:=hid (heap_alloc_new w2 (.cells (asc b 0) 180));have HZ3:=hid (show(w2.alloc (.cells (asc b 0) 180)).heap.size=w2.heap.size+1 by simp);have HA4:=hid (show Below (w2.alloc (.cells (asc b 0) 180)).heap.size (w2.alloc (.cells (asc b 0) 180)) ((w2.alloc (.cells (asc b 0) 180)).alloc (.cells #[.string ⟨#[]⟩,.slice none 0 0] 82))from bal _ _);have F4:=hid (heap_alloc_new (w2.alloc (.cells (asc b 0) 180)) (.cells #[.string ⟨#[]⟩,.slice none 0 0] 82));have TM:=hid (show TgM w ((w2.alloc (.cells (asc b 0) 180)).alloc (.cells #[.string ⟨#[]⟩,.slice none 0 0] 82)) b w2.heap.size (w2.alloc (.cells (asc b 0) 180)).heap.size 0 (.slice ao l.length cp) zs from by
     have hb24:=HA3.out.then HA4.out;have hsz:w.heap.size≤w2.heap.size:=B2.out.size
     refine⟨bk hb24 R2.out,bk HA4.out F3.out,⟨_,_,F4.out⟩,Qg.mono (HOWN.out.below hb24) (by rw[HSZ.out];exact Nat.le_succ _),fun z hz=>Ks (Qz (HEACH.out z hz) hb24) (by rw[HSZ.out];exact Nat.le_succ _),B2.out.then hb24,hsz,by rw[HZ3.out];exact Nat.le_succ_of_le hsz,?_,fun z hz=>?_,Nat.zero_le _,?_⟩
     ·intro e
      have:=(World.ownsRow.lt HOWN.out _ e).2
      rw[HZ3.out]at this
      omega
     ·have hm:z.1∈l:=by rw[←HZL.out];exact List.mem_map_of_mem hz
      refine⟨List.all_eq_true.1 HL.out.1 _ hm,?_⟩
      have:=Dt HP.out hm
      omega
     ·have h1:zs.length=l.length:=by rw[←HZL.out,List.length_map]
      have:=HL.out.2.2.1
      omega)
    go_wp2_with fail
    go_step3
    rename_i K hK
    refine hK _ _ ?_;have TM2:=TM.out;rw[HZ3.out]at TM2;refine Sy (HV1.out (4 * b.size+3) _ _ ⟨w2.heap.size,w2.heap.size+1,0,.slice ao l.length cp,0,zs,⟨rfl,rfl,rfl,rfl,rfl,rfl,rfl⟩,TM2,?_,Nat.le_refl _,by omega⟩ _ ?_) (HR1.out.symm.trans rfl)
    ·rw[HE.out,Qzj,HZL.out]
    ·exact fun l' n' a' w' hlt hj=>⟨n',hj⟩
  ·have HE:=hid (Zvx (s:=s) (Or.inl hp));have hz2:((er:Int)==0)=false:=beq_eq_false_iff_ne.2 (by omega);have hz3:((er:Int) != 0)=true:=by rw[bne,hz2];rfl
   clear hp HC1;go_wp2_with fail;simp only[Exit.jumps];refine Qzk (Pb:=w.heap.size) (e:=2) (a:=0) ?_ rfl rfl rfl ⟨?_,Or.inr ⟨2,0,HE.out,by decide,rfl⟩⟩
   ·exact Xy _ _ R2.out
   ·exact Zr _ _ B2.out (Nat.le_refl _)
 ·intro l n a W hJ
  match l,hJ with
  |0,hJ=>exact⟨.seq .skip rest0,HR0.out,Fd (HV0.out n a W hJ _)⟩
  |1,hJ=>exact⟨.seq .skip rest1,HR1.out,Fd (HV1.out n a W hJ _ (fun l' n' a' w' hlt hj=>⟨n',hlt,hj⟩))⟩
  |2,hJ=>exact⟨.seq .skip rest2,HR2.out,Fd (HV2.out n a W hJ _ (fun l' n' a' w' hlt hj=>⟨n',hlt,hj⟩))⟩
  |3,hJ=>exact⟨.seq .skip rest3,HR3.out,Fd (HV3.out n a W hJ _ (fun l' n' a' w' hlt hj=>⟨n',hlt,hj⟩))⟩
  |l+4,hJ=>exact hJ.elim
end
section
open Go.Lib
def Qhj:List (Str×Str)→List Al→(List Al) ⊕ (Nat×Str)
 |[],out=>.inl out
 |g::r,out=>match Gj g.1 g.2 with
  | .inl t=>Qhj r (out++[(g.1,t)])
  | .inr e=>.inr (e,g.1)
theorem Xdw {D:List Al}{e i e' i':Nat}(h:Np D e i)(g:Np D e' i'):e=e'∧i=i':=by
 rcases h with h|⟨h1,rfl,⟨p,h2,h3⟩,h4⟩|⟨h1,rfl,rfl,h2⟩
 ·rcases g with g|⟨g,_⟩|⟨g,_⟩
  ·rw[h]at g;cases g;exact⟨rfl,rfl⟩
  ·rw[h]at g;cases g
  ·rw[h]at g;cases g
 ·rcases g with g|⟨_,rfl,⟨q,g2,g3⟩,g4⟩|⟨_,rfl,rfl,g2⟩
  ·rw[h1]at g;cases g
  ·refine⟨rfl,?_⟩
   rcases Nat.lt_trichotomy i i' with hlt|rfl|hlt
   ·exact absurd h3 (g4 i p hlt h2)
   ·rfl
   ·exact absurd g3 (h4 i' q hlt g2)
  ·exact absurd h3 (g2 p (List.mem_of_getElem? h2))
 ·rcases g with g|⟨_,rfl,⟨q,g2,g3⟩,g4⟩|⟨_,rfl,rfl,g2⟩
  ·rw[h1]at g;cases g
  ·exact absurd g3 (h2 q (List.mem_of_getElem? g2))
  ·exact⟨rfl,rfl⟩
end
section
open Go.RowKit Go.Lib Go.Maps
structure NwM (C:Nat)(w W:World)(Bt:Nat)(t:Tb)(rb km:Nat)(c1 c2:Value):Prop where
 wb:W.heap[w.heap.size]?=some (.cells #[.int .i64 0,.int .i64 0,.int .i64 0] 49 (0,0))
 rs:W.heap[rb]?=some (.cells #[.pointer (some ⟨Bt,0,none⟩),c1,c2,.map (some km)] 75 (0,0))
 mp:Zm Yy W km 0 (Jw [])
 tb:TbP C W Bt t
 bel:Below w.heap.size w W
 lr:w.heap.size<rb
 lk:w.heap.size<km
section
variable {C Bt rb km:Nat}{w W W' : World}{t:Tb}{c1 c2:Value}
theorem NwM.below (h:NwM C w W Bt t rb km c1 c2)(hb:Below W.heap.size W W'):NwM C w W' Bt t rb km c1 c2 :=
 ⟨bk hb h.wb,bk hb h.rs,h.mp.below hb,h.tb.below hb,h.bel.then hb,h.lr,h.lk⟩
theorem NwM.set1 (hT:TbP C w Bt t)(h:NwM C w W Bt t rb km c1 c2)(u:Value):NwM C w (W.setCell ⟨rb,1,none⟩ u) Bt t rb km u c2:=by
 have hkr:km≠rb:=fun e=>by
  obtain⟨es,ck,h2⟩:=h.mp.isMap
  rw[e,h.rs]at h2;cases h2
 have hb:=h.bel.setCell (p:=⟨rb,1,none⟩) (Nat.le_of_lt h.lr) u
 exact⟨(heap_setCell_other _ _ _ _ (Nat.ne_of_lt h.lr)).trans h.wb,by rw[heap_setCell_same _ _ _ _ _ _ h.rs];simp,h.mp.block (heap_setCell_other _ _ _ _ hkr),hT.below hb,hb,h.lr,h.lk⟩
theorem NwM.set2 (hT:TbP C w Bt t)(h:NwM C w W Bt t rb km c1 c2)(u:Value):NwM C w (W.setCell ⟨rb,2,none⟩ u) Bt t rb km c1 u:=by
 have hkr:km≠rb:=fun e=>by
  obtain⟨es,ck,h2⟩:=h.mp.isMap
  rw[e,h.rs]at h2;cases h2
 have hb:=h.bel.setCell (p:=⟨rb,2,none⟩) (Nat.le_of_lt h.lr) u
 exact⟨(heap_setCell_other _ _ _ _ (Nat.ne_of_lt h.lr)).trans h.wb,by rw[heap_setCell_same _ _ _ _ _ _ h.rs];simp,h.mp.block (heap_setCell_other _ _ _ _ hkr),hT.below hb,hb,h.lr,h.lk⟩
theorem NwM.start (hT:TbP C w Bt t):NwM C w (((w.alloc (.cells #[.int .i64 0,.int .i64 0,.int .i64 0] 49)).alloc (.map #[] 0)).alloc (.cells #[.pointer (some ⟨Bt,0,none⟩),.pointer none,.pointer none,.map (some (w.heap.size+1))] 75)) Bt t (w.heap.size+1+1) (w.heap.size+1) (.pointer none) (.pointer none):=by
 have b1:Below w.heap.size w (w.alloc (.cells #[.int .i64 0,.int .i64 0,.int .i64 0] 49)):=bal _ _;have z1:(w.alloc (.cells #[.int .i64 0,.int .i64 0,.int .i64 0] 49)).heap.size=w.heap.size+1:=by simp
 have f1:=heap_alloc_new w (.cells #[.int .i64 0,.int .i64 0,.int .i64 0] 49);generalize w.alloc (.cells #[.int .i64 0,.int .i64 0,.int .i64 0] 49)=w1 at *;have b2:Below w1.heap.size w1 (w1.alloc (.map #[] 0)):=bal _ _;have m2:=Zm.made Yy w1;have z2:(w1.alloc (.map #[] 0)).heap.size=w.heap.size+1+1:=by simp[z1]
 have f2:=bk b2 f1;rw[z1]at m2;have b12:=b1.then b2;generalize w1.alloc (.map #[] 0)=w2 at *;have b3:Below w2.heap.size w2 (w2.alloc (.cells #[.pointer (some ⟨Bt,0,none⟩),.pointer none,.pointer none,.map (some (w.heap.size+1))] 75)):=bal _ _;have f3:=heap_alloc_new w2 (.cells #[.pointer (some ⟨Bt,0,none⟩),.pointer none,.pointer none,.map (some (w.heap.size+1))] 75);rw[z2]at f3;have b:=b12.then b3
 exact⟨bk b3 f2,f3,m2.below b3,hT.below b,b,by omega,by omega⟩
theorem Qtv {B n:Nat}{L:List (Str×Bool)}{v:Value}{D:List Al}(h:Qvx B W v D)(hm:Zm Yy W km n L)(g:W.grownBy W' (some km)):Qvx B W' v D:=by
 obtain⟨b,kv,h1,h2,h3,h4⟩:=h
 exact⟨b,kv,h1,h2,Kk h3 hm g,World.ownsRow.kept h4 g (Qqg h4 hm)⟩
theorem Rr.set {B x i:Nat}{v u:Value}{D:List (Str×Str)}(h:Rr B W v D)(hx:x<B):Rr B (W.setCell ⟨x,i,none⟩ u) v D:=by
 obtain⟨bc,bm,n',h1,h2,h3,h4,h5⟩:=h
 exact⟨bc,bm,n',h1,h2,h3,(heap_setCell_other _ _ _ _ (by simp;omega)).trans h4,h5.block (heap_setCell_other _ _ _ _ (by simp;omega))⟩
theorem Rr.setF {B x i:Nat}{v u:Value}{D:List (Str×Str)}{cs:Array Value}(h:Rr B W v D)(hx:W.heap[x]?=some (.cells cs 105 (0,0))):Rr B (W.setCell ⟨x,i,none⟩ u) v D:=by
 obtain⟨bc,bm,n',h1,h2,h3,h4,h5⟩:=h
 refine⟨bc,bm,n',h1,h2,h3,(heap_setCell_other _ _ _ _ (Ry h4 hx (by decide))).trans h4,h5.block (heap_setCell_other _ _ _ _ ?_)⟩
 rintro rfl
 obtain⟨m,⟨es,ck,hb,_⟩,_⟩:=h5
 rw[hx]at hb;cases hb
theorem NwM.setO (hT:TbP C w Bt t)(h:NwM C w W Bt t rb km c1 c2){x i:Nat}(u:Value)(hx:w.heap.size<x)(hr:rb≠x)(hk:km≠x):NwM C w (W.setCell ⟨x,i,none⟩ u) Bt t rb km c1 c2:=by
 have hb:=h.bel.setCell (p:=⟨x,i,none⟩) (Nat.le_of_lt hx) u
 exact⟨(heap_setCell_other _ _ _ _ (Nat.ne_of_lt hx)).trans h.wb,(heap_setCell_other _ _ _ _ hr).trans h.rs,h.mp.block (heap_setCell_other _ _ _ _ hk),hT.below hb,hb,h.lr,h.lk⟩
theorem Xdy {B n:Nat}{L:List (Str×Bool)}{v:Value}{D:List (Str×Str)}(h:Rr B W v D)(hk:km<B)(hm:Zm Yy W km n L)(g:W.grownBy W' (some km)):Rr B W' v D:=by
 obtain⟨bc,bm,n',h1,h2,h3,h4,h5⟩:=h
 have h6:=Kk h4 hm g
 refine⟨bc,bm,n',h1,h2,h3,h6,h5.block (g.block _ h5.lt (fun e=>?_))⟩
 have:=Option.some.inj e
 omega
end
end
section
open Go.RowKit Go.Lib Go.Maps
def NewOk (C:Nat)(w:World)(t:Tb)(A:List Al)(x:Ending)(w':World):Prop :=
 ∃(b:Nat) (K:List Str),x=.returned (.tuple #[.pointer (some ⟨b,0,none⟩),.agg #[.int .i64 0,.int .i64 0,.int .i64 0]])∧RsP C w' (.pointer (some ⟨b,0,none⟩)) ⟨t,[],A,K⟩∧Tq A (Yn t) true K∧Below w.heap.size w w'
theorem rnew_ret {V:World}{Pb:Nat}{v:Value}{e f a:Int}(hr:V.heap[Pb]?=some (.cells #[.int .i64 e,.int .i64 f,.int .i64 a] 49 (0,0))){Q:Ending→World→Prop}{act:Act}(hd:act.defers=[])
  (h2:act.tmps.getD 2 undef=v)(h3:act.tmps.getD 3 undef=.pointer (some ⟨Pb,0,none⟩))(hQ:Q (.returned (.tuple #[v,.agg #[.int .i64 e,.int .i64 f,.int .i64 a]])) V) :
  bodyPost Tryz.prog Tryz.f18 Q Exit.ret act V:=by
 have e0:V.cell? ⟨Pb,0,none⟩=some (.int .i64 e):=cR hr;have e1:V.cell? ⟨Pb,1,none⟩=some (.int .i64 f):=cR hr;have e2:V.cell? ⟨Pb,2,none⟩=some (.int .i64 a):=cR hr;refine bodyPost_ret (v:=.tuple #[v,.agg #[.int .i64 e,.int .i64 f,.int .i64 a]]) ?_ hd hQ
 obtain⟨tmps,defers⟩:=act
 simp only[Array.getD_eq_getD_getElem?]at h2 h3
 simp[results,Tryz.results18,go_sem,h2,h3,e0,e1,e2]
theorem tgts_step {gs:List (Str×Str)}{k:Nat}{done A:List Al}(h:Qhj (gs.drop k) done=.inl A)(hk:k<gs.length):∃t,Gj gs[k].1 gs[k].2=.inl t∧Qhj (gs.drop (k+1)) (done++[(gs[k].1,t)])=.inl A:=by
 rw[List.drop_eq_getElem_cons hk,Qhj]at h
 split at h
 ·next t e=>exact⟨t,e,h⟩
 ·cases h
theorem rnew_ok {C:Nat}(w:World)(Bt:Nat)(t:Tb)(hT:TbP C w Bt t)(ok:Fx t)(sz:SzT t)(hno:Kv t []=[])(hals:t.als.length≤1000)(hav:∀g∈Vc t,g.1.length≤maxLen∧g.2.length≤1048576)
  (A:List Al)(htg:Qhj (Vc t) []=.inl A)(hA:szA A)(hsr:Ky A=A)(hal:∀e i,Np A e i→e=0)(hkn:∀b K,Tq A (Yn t) b K→b=true)
  (hbase:∀p,p∈Yn t↔∃l∈Mp t.names,p∈Kv t l)(hTab:Hk w.heap.size w) :
  Calls Tryz.prog 18 #[.pointer (some ⟨Bt,0,none⟩)] w fun x w'=>NewOk C w t A x w':=by
 have hmm:=@run_makeMap Tryz.prog;have HT:=hid hT;have OK:=hid ok;have SZ:=hid sz;have HNO:=hid hno;have HALS:=hid hals;have HAV:=hid hav;have HTG:=hid htg;have HA:=hid hA;have HSR:=hid hsr;have HAL:=hid hal;have HKN:=hid hkn;have HBASE:=hid hbase;have HTAB:=hid (fun W (h:Below w.heap.size w W)=>(show Hk W.heap.size W from⟨(hTab.below h).1,Nat.lt_of_lt_of_le hTab.2.1 h.size,Nat.lt_of_lt_of_le hTab.2.2 h.size⟩));have N0:=hid (NwM.start hT);have HLG:=hid (show(Vc t).length≤1000 from by
  have h1:(Vc t).length=(alP t).length:=(List.mergeSort_perm _ _).length_eq;rw[h1];unfold alP
  simpa using hals)
 clear hT ok sz hno hals hav htg hA hsr hal hkn hbase hTab
 go_enter Tryz.func18,Tryz.ntmps18
 go_upto_region 4 with fail;generalize ((w.alloc (.cells #[.int .i64 0,.int .i64 0,.int .i64 0] 49)).alloc (.map #[] 0)).alloc (.cells #[.pointer (some ⟨Bt,0,none⟩),.pointer none,.pointer none,.map (some (w.heap.size+1))] 75)=w1 at *;generalize w.heap.size+1=km at *;generalize km+1=rb at *;have PA:=hid (Zmh w1 t N0.out.tb OK.out SZ.out HNO.out);go_wp2_with fail;refine PA.out.mono ?_;rintro e w2 ⟨rfl,hb2⟩;have N2:=hid (N0.out.below hb2);clear hb2 PA N0;have CN:=hid (new_any w2 (.slice none 0 0) [] ⟨none,0,rfl,⟨by decide,fun _=>⟨rfl,rfl⟩⟩,fun h=>absurd rfl h⟩ (fun p hp=>by cases hp) (by decide));go_wp2_with fail;refine CN.out.mono ?_;rintro e w3 ⟨er,i,vc,rfl,hno,hrd,hne,hb3⟩;have N3:=hid (N2.out.below hb3);have hz:er=0:=by
  rcases hno with h|⟨_,_,⟨p,h,_⟩,_⟩|⟨_,h,_⟩
  ·cases h
  ·simp at h
  ·exact h
 subst hz;have hi:i=0:=by
  rcases hno with h|⟨_,h,_⟩|⟨_,_,h,_⟩
  ·cases h
  ·cases h
  ·exact h
 subst hi;have CH3:=hid (hrd rfl);have CKM:=hid N2.out.mp.lt;have CRB:=hid (lt_of_block N2.out.rs);have HSZ3:=hid hb3.size
 obtain⟨bc,bm,nc,rfl,_⟩:=hrd rfl
 clear hno hrd hne hb3 CN N2;have F4:=hid (heap_alloc_new w3 (.cells #[.int .i64 0,.int .i64 0] 105));have HA4:=hid (bal w3 (.cells #[.int .i64 0,.int .i64 0] 105));have N4:=hid (N3.out.below HA4.out);have CH4:=hid (CH3.out.below HA4.out);have HF4:=hid (show w3.heap.size≠rb∧w3.heap.size≠km∧w.heap.size<w3.heap.size from by
  have h1:=CRB.out;have h2:=CKM.out;have h3:=HSZ3.out;have h4:=N3.out.lr
  omega)
 go_upto_region 6 with fail;generalize w3.alloc (.cells #[.int .i64 0,.int .i64 0] 105)=w4 at *;generalize w3.heap.size=fb at *;clear N3 CH3 HA4;have N5:=hid (N4.out.set1 HT.out (.pointer (some ⟨bc,0,none⟩)));have CH5:=hid (show Rr w2.heap.size (w4.setCell ⟨rb,1,none⟩ (.pointer (some ⟨bc,0,none⟩))) (.pointer (some ⟨bc,0,none⟩)) []from CH4.out.set CRB.out);have F5:=hid (show(w4.setCell ⟨rb,1,none⟩ (.pointer (some ⟨bc,0,none⟩))).heap[fb]?=some (.cells #[.int .i64 0,.int .i64 0] 105 (0,0)) from(heap_setCell_other _ _ _ _ HF4.out.1).trans F4.out)
 obtain⟨f0,f1,ff0,ff1,flt⟩:=Qq F4.out
 obtain⟨a0,a1,a2,a3,al⟩:=Jm N4.out.rs
 have af1:=frozen_of_row _ _ 1 _ _ N4.out.rs;go_upto_region 11 with fail;generalize w4.setCell ⟨rb,1,none⟩ (.pointer (some ⟨bc,0,none⟩))=w5 at *;clear f0 f1 ff0 ff1 flt a0 a1 a2 a3 al af1 N4 CH4 F4;have AL:=hid (N5.out.tb.aliases OK.out HALS.out);go_wp2_with fail;refine AL.out.mono ?_;rintro e w6 ⟨vg,rfl,og,hb6⟩
 obtain⟨ag,cg,rfl⟩:=Zx og
 have N6:=hid (N5.out.below hb6);have CH6:=hid (CH5.out.below hb6);have F6:=hid (bk hb6 F5.out);have OG:=hid og;clear og hb6 N5 CH5 F5 AL
 obtain⟨gs,hgs⟩:∃gs,gs=Vc t:=⟨_,rfl⟩
 rw[←hgs]at OG HTG HAV HLG ⊢;clear hgs;go_upto_region 12 with fail
 go_loopg[12,60] gs.length (fun g v12 v60 W=>∃(k:Nat) (done:List Al),k≤gs.length∧gs.length≤k+g∧v60=.int .i64 k∧Qd W w6.heap.size v12 done∧Qhj (gs.drop k) done=.inl A∧done.length=k∧Below w6.heap.size w6 W)
 case atStart=>exact⟨0,[],Nat.zero_le _,by omega,rfl,World.ownsRow_nil _ _ _ _,HTG.out,rfl,Below.refl _ _⟩
 case round =>
  obtain⟨k,done,hk,hg,rfl,hod,htd,hdk,hb⟩:=hrel
  rename World=>w7
  have HG:=hid hg;have OD:=hid hod;have HTD:=hid htd;have HDK:=hid hdk;have B7:=hid hb;have hk0:(0:Int)≤(k:Int):=by omega
  have hkb:(k:Int)≤1000:=by have:=HLG.out;omega
  clear hg hod htd hdk hb
  by_cases hlt:k<gs.length
  ·have hki:(k:Int)<(gs.length:Int):=by omega
   obtain⟨ao,cp,e,_,hcc⟩:=Xm (OG.out.rd.below B7.out)
   cases e
   obtain⟨p,o,rfl,hp,c0,c1⟩:=hcc k hlt
   have HSK:=hid (HAV.out _ (List.getElem_mem hlt));have HST:=hid (tgts_step HTD.out hlt);generalize gs[k]'hlt=y at *
   obtain⟨yk,yv⟩:=y
   clear hcc;simp only at c0 c1
   obtain⟨tt,htt,htn⟩:=HST.out
   have HTN:=hid htn;have F8:=hid (heap_alloc_new w7 (.cells #[.string ⟨yk.toArray⟩,.string ⟨yv.toArray⟩] 37));have HA8:=hid (bal w7 (.cells #[.string ⟨yk.toArray⟩,.string ⟨yv.toArray⟩] 37));have B8:=hid (B7.out.then HA8.out);have OD8:=hid (show Qd (w7.alloc (.cells #[.string ⟨yk.toArray⟩,.string ⟨yv.toArray⟩] 37)) w6.heap.size _ done from Qz OD.out HA8.out);have TG:=hid (Xdv (w7.alloc (.cells #[.string ⟨yk.toArray⟩,.string ⟨yv.toArray⟩] 37)) yk yv HSK.out.1 HSK.out.2 (HTAB.out _ (N6.out.bel.then B8.out)));rw[htt]at TG;clear htt htn HST;go_upto_region 14 with fail;generalize w7.alloc (.cells #[.string ⟨yk.toArray⟩,.string ⟨yv.toArray⟩] 37)=w8 at *;generalize w7.heap.size=yb at *
   obtain⟨y0,y1,_,_,yl⟩:=Qq F8.out
   clear c0 c1 hp HA8 B7 OD;go_wp2_with fail;refine TG.out.mono ?_;rintro e w9 ⟨hb9,hr⟩;obtain rfl:e=.returned (.tuple #[.string ⟨tt.toArray⟩,.agg #[.int .i64 0,.int .i64 0]]):=by
    rcases hr with ⟨s,h1,h2⟩|⟨e',a',h1,_⟩
    ·cases h1;exact h2
    ·cases h1
   have B9:=hid (B8.out.then hb9);have OD9:=hid (show Qd w9 w6.heap.size _ done from Qz OD8.out hb9);have F9:=hid (bk hb9 F8.out);clear hr hb9 y0 y1 yl TG B8 OD8 F8;have Fa:=hid (heap_alloc_new w9 (.cells #[.int .i64 0,.int .i64 0] 78));have HAa:=hid (bal w9 (.cells #[.int .i64 0,.int .i64 0] 78));have Ba:=hid (B9.out.then HAa.out);have ODa:=hid (show Qd (w9.alloc (.cells #[.int .i64 0,.int .i64 0] 78)) w6.heap.size _ done from Qz OD9.out HAa.out);have Ga:=hid (bk HAa.out F9.out);go_upto_region 15 with fail;generalize w9.alloc (.cells #[.int .i64 0,.int .i64 0] 78)=wa at *;generalize w9.heap.size=sb at *
   obtain⟨y0,y1,_,_,yl⟩:=Qq Ga.out
   obtain⟨s0,s1,_,_,sl⟩:=Qq Fa.out
   clear B9 OD9 F9 HAa;have HSa:=hid Ba.out.size
   go_wp2_with (at_builtin;refine Xc rfl (.tmp 81) (.tmp 86) rfl w6.heap.size _ done (yk,tt) rfl ODa.out rfl (by have:=HDK.out;omega) HSa.out ?_;intro vb wb own gr mv;have ODb:=hid own;have Bb:=hid (Ba.out.grown gr Ba.out.size (fun k hk=>(World.ownsRow.lt ODa.out k hk).1));clear own gr mv y0 y1 yl s0 s1 sl)
   go_roundg (gk-1)
   case measure=>have:=HG.out;omega
   case rel=>exact⟨k+1,done++[(yk,tt)],by omega,by have:=HG.out;omega,by simp,ODb.out,HTN.out,by simp[HDK.out],Bb.out⟩
  ·have hki:¬(k:Int)<(gs.length:Int):=by omega
   obtain rfl:k=gs.length:=by omega
   have hde:done=A:=by
    have:=HTD.out
    rw[List.drop_length,Qhj]at this;exact Sum.inl.inj this
   subst hde;have N7:=hid (N6.out.below B7.out);have CH7:=hid (CH6.out.below B7.out);have F7:=hid (bk B7.out F6.out)
   obtain⟨ah,ch,rfl⟩:=Zx OD.out
   have hcap:done.length≤ch:=by
    rcases Qd.shape OD.out with ⟨e,h⟩|⟨g,cap,cur,e,_,_,hn,_⟩
    ·rw[h];simp
    ·cases e;exact hn
   have HDL:=hid (show done.length≤1000 by have:=HDK.out;have:=HLG.out;omega);have AN:=hid (anew_any w7 ah ch done OD.out.rd HDL.out hcap HA.out);clear hcap N6 CH6 F6 B7 OG hki hk hk0 hkb hlt HTD HG;go_wp2_with fail;refine AN.out.mono ?_;rintro e w8 ⟨hb8,e0,i0,va0,hao,rfl,hok,_⟩;have hz:=HAL.out e0 i0 hao;subst hz;have hi0:i0=0:=(al_ok hao).2.2.2;subst hi0;have AT8:=hid (hok rfl);rw[HSR.out]at AT8
   obtain⟨vab,kva,rfl,_⟩:=hok rfl
   have HAO:=hid hao;have N8:=hid (N7.out.below hb8);have CH8:=hid (CH7.out.below hb8);have F8:=hid (bk hb8 F7.out);have HLT7:=hid (show rb<w7.heap.size∧fb<w7.heap.size from⟨lt_of_block N7.out.rs,lt_of_block F7.out⟩);clear hao hok hb8 AN N7 CH7 F7
   obtain⟨a0,a1,a2,a3,al⟩:=Jm N8.out.rs
   have af2:=frozen_of_row _ _ 2 _ _ N8.out.rs;have F9:=hid (show(w8.setCell ⟨rb,2,none⟩ (.pointer (some ⟨vab,0,none⟩))).heap[fb]?=some (.cells #[.int .i64 0,.int .i64 0] 105 (0,0)) from(heap_setCell_other _ _ _ _ HF4.out.1).trans F8.out)
   obtain⟨f0,f1,ff0,ff1,flt⟩:=Qq F8.out
   have N9:=hid (((N8.out.set2 HT.out (.pointer (some ⟨vab,0,none⟩))).setO (i:=0) HT.out (.int .i64 0) HF4.out.2.2 (Ne.symm HF4.out.1) (Ne.symm HF4.out.2.1)).setO (i:=1) HT.out (.int .i64 0) HF4.out.2.2 (Ne.symm HF4.out.1) (Ne.symm HF4.out.2.1));have AT9:=hid (show Qvx w7.heap.size (((w8.setCell ⟨rb,2,none⟩ (.pointer (some ⟨vab,0,none⟩))).setCell ⟨fb,0,none⟩ (.int .i64 0)).setCell ⟨fb,1,none⟩ (.int .i64 0)) (.pointer (some ⟨vab,0,none⟩)) done from((AT8.out.set HLT7.out.1).set HLT7.out.2).set HLT7.out.2);have Fa:=hid (Xy (.int .i64 0) (.int .i64 0) F9.out);have CH9:=hid (show Rr w2.heap.size (((w8.setCell ⟨rb,2,none⟩ (.pointer (some ⟨vab,0,none⟩))).setCell ⟨fb,0,none⟩ (.int .i64 0)).setCell ⟨fb,1,none⟩ (.int .i64 0)) (.pointer (some ⟨bc,0,none⟩)) [] from((CH8.out.set CRB.out).setF F9.out).setF (heap_setCell_same _ _ _ _ _ _ F9.out));unfold P2 at Fa;go_upto_region 20 with fail;generalize ((w8.setCell ⟨rb,2,none⟩ (.pointer (some ⟨vab,0,none⟩))).setCell ⟨fb,0,none⟩ (.int .i64 0)).setCell ⟨fb,1,none⟩ (.int .i64 0)=w9 at *;clear a0 a1 a2 a3 al af2 f0 f1 ff0 ff1 flt F8 F9 N8 CH8 AT8
   obtain⟨f0,f1,_,_,flt⟩:=Qq Fa.out
   have LR:=hid (learn_any (B0:=C) w9 rb Bt vab km (.pointer (some ⟨bc,0,none⟩)) t done N9.out.rs (fun W g=>HT.out.below (N9.out.bel.grown g N9.out.bel.size (fun k hk=>by cases hk;exact Nat.le_of_lt N9.out.lk))) OK.out SZ.out (fun W g=>(Qtv AT9.out N9.out.mp g).rd) HA.out HDL.out N9.out.mp HBASE.out);go_wp2_with fail;refine LR.out.mono ?_;rintro e wa ⟨okb,K,rfl,hko,hmo,hgo⟩;obtain rfl:okb=true:=HKN.out okb K hko;have HKO:=hid hko;have RSa:=hid (Kk N9.out.rs N9.out.mp hgo);have WBa:=hid (Kk N9.out.wb N9.out.mp hgo);have CHa:=hid (Xdy CH9.out CKM.out N9.out.mp hgo);have ATa:=hid (Qtv AT9.out N9.out.mp hgo);have Ba:=hid (N9.out.bel.grown hgo N9.out.bel.size (fun k hk=>by cases hk;exact Nat.le_of_lt N9.out.lk));have MPa:=hid hmo;have LRK:=hid (show w.heap.size<rb∧w.heap.size<km∧w.heap.size<w7.heap.size∧w.heap.size<w2.heap.size from⟨N9.out.lr,N9.out.lk,Nat.lt_trans N9.out.lr HLT7.out.1,Nat.lt_trans N9.out.lr CRB.out⟩);clear hko hmo hgo f0 f1 flt LR N9 AT9 CH9 Fa;have b0:wa.cell? ⟨w.heap.size,0,none⟩=some (.int .i64 0):=cR WBa.out;have b1:wa.cell? ⟨w.heap.size,1,none⟩=some (.int .i64 0):=cR WBa.out;have b2:wa.cell? ⟨w.heap.size,2,none⟩=some (.int .i64 0):=cR WBa.out;have bf0:=frozen_of_row _ _ 0 _ _ WBa.out;have bf1:=frozen_of_row _ _ 1 _ _ WBa.out;have bf2:=frozen_of_row _ _ 2 _ _ WBa.out;have bl:=lt_of_block WBa.out;go_wp2_with fail;refine rnew_ret (Pb:=w.heap.size) (e:=0) (f:=0) (a:=0) ?_ rfl rfl rfl ?_
   ·rw[heap_setCell_same _ _ _ _ _ _ (heap_setCell_same _ _ _ _ _ _ (heap_setCell_same _ _ _ _ _ _ WBa.out))];simp
   ·have hrb:rb≠w.heap.size:=Nat.ne_of_gt LRK.out.1;have hkm:km≠w.heap.size:=Nat.ne_of_gt LRK.out.2.1;have hB:=((Ba.out.setCell (p:=⟨w.heap.size,0,none⟩) (Nat.le_refl _) (.int .i64 0)).setCell (p:=⟨w.heap.size,1,none⟩) (Nat.le_refl _) (.int .i64 0)).setCell (p:=⟨w.heap.size,2,none⟩) (Nat.le_refl _) (.int .i64 0)
    refine⟨rb,K,rfl,⟨rb,Bt,bc,vab,km,K.length,rfl,?_,HT.out.below hB,(((CHa.out.set LRK.out.2.2.2).set LRK.out.2.2.2).set LRK.out.2.2.2).rd,(((ATa.out.set LRK.out.2.2.1).set LRK.out.2.2.1).set LRK.out.2.2.1).rd,?_⟩,HKO.out,hB⟩
    ·rw[heap_setCell_other _ _ _ _ hrb,heap_setCell_other _ _ _ _ hrb,heap_setCell_other _ _ _ _ hrb];exact RSa.out
    ·exact MPa.out.block (by rw[heap_setCell_other _ _ _ _ hkm,heap_setCell_other _ _ _ _ hkm,heap_setCell_other _ _ _ _ hkm])
end
section
open Go.RowKit Go.Lib
def w14I:List Itm:=[⟨[97,47,98],[49],false,[],0⟩,⟨[99],[46,46,47,97],true,[],0⟩]
def Xjg:Dc:=⟨[114,111,111,116],false,w14I⟩
def By:Tb:=⟨[⟨[114,111,111,116],[97,47,98],[49],0,0⟩],[⟨[114,111,111,116],[99],[46,46,47,97],0,0⟩],[[114,111,111,116]],[[97,47,98]]⟩
def Cs:List Al:=[([99],[97])]
def Zqg:Str:=[101,110,45,71,66]
theorem w14_new:Ec [Xjg]=(Wrg.ok,By):=by kernel_rfl
theorem w14_none:Kv By []=[]:=by decide +kernel
theorem w14_tgts:Qhj (Vc By) []=.inl Cs:=by decide +kernel
theorem w14_srt:Ky Cs=Cs:=by decide +kernel
theorem Xkq:Yn By=[[97,47,98]]:=by decide +kernel
theorem w14_names:Mp By.names=[[114,111,111,116]]:=by decide +kernel
theorem Xkz:Kv By [114,111,111,116]=[[97,47,98]]:=by decide +kernel
theorem w14_mv1:Bk [97,47,98] ([99],[97])=some [99,47,98]:=by decide +kernel
theorem w14_mv2:Bk [99,47,98] ([99],[97])=none:=by decide +kernel
theorem w14_fol:Wp ([99],[97]) ([99],[97])=false:=by decide +kernel
theorem w14_bad:Pd [] Cs=none:=by decide +kernel
theorem w14_asks:Xph Zqg [99,47,98]=true:=by decide +kernel
theorem w14_path:Qy [99,47,98]=some [([99],[]),([98],[])]:=by decide +kernel
theorem w14_ld1:Ym Cs [99,47,98]=some [97,47,98]:=by decide +kernel
theorem w14_ld2:Ym Cs [97,47,98]=none:=by decide +kernel
theorem w14_step:Vn [] Zqg=some [101,110]:=by decide +kernel
theorem w14_step2:Vn [] [101,110]=some Qs:=by decide +kernel
theorem w14_named:Qj Zqg=true:=by decide +kernel
theorem w14_chain:Hp [] Zqg=[Zqg,[101,110],Qs] :=
 Zwz (Or.inl ⟨w14_named,rfl,by decide,w14_step,rfl,by decide,w14_step2,rfl,rfl⟩)
theorem w14_way:Qnv Cs [99,47,98]=[[99,47,98],[97,47,98]]:=Xpy ⟨rfl,w14_ld1,rfl,w14_ld2⟩
theorem Xkx:∀(n:Nat)(a b:Al),a∈Cs→¬Qjw Cs n a b
 |0,a,b,ha,h=>by
  obtain⟨_,hb,hf⟩:=h
  simp only[Cs,List.mem_singleton]at ha hb;subst ha;subst hb;rw[w14_fol]at hf;cases hf
 |n+1,a,b,ha,h=>by
  obtain⟨c,h1,_⟩:=h
  exact Xkx n a c ha h1
theorem Xry:Np Cs 0 0:=Or.inr (Or.inr ⟨w14_bad,rfl,rfl,fun p hp=>fun⟨n,h⟩=>Xkx n p p hp h⟩)
theorem w14_al (e i:Nat)(h:Np Cs e i):e=0:=(Xdw h Xry).1
theorem w14_gen {p:Str}(g:Gen Cs (Yn By) p):p∈[[97,47,98],[99,47,98]]:=by
 induction g with
 |base h=>rw[Xkq]at h;rw[List.mem_singleton.1 h];simp
 |step _ ha hm ih =>
  simp only[Cs,List.mem_singleton]at ha;subst ha;simp only[List.mem_cons,List.not_mem_nil,or_false]at ih
  rcases ih with rfl|rfl
  ·rw[w14_mv1]at hm;cases hm;simp
  ·rw[w14_mv2]at hm;cases hm
theorem w14_kn (b:Bool)(K:List Str)(h:Tq Cs (Yn By) b K):b=true:=by
 rcases h with ⟨h,_⟩|⟨_,L,h1,h2,h3⟩
 ·exact h
 ·have:=Dp L [[97,47,98],[99,47,98]] h1 fun p hp=>w14_gen (h2 p hp)
  simp at this
  omega
theorem w14_hb (p:Str):p∈Yn By↔∃l∈Mp By.names,p∈Kv By l:=by
 rw[Xkq,w14_names]
 constructor
 ·intro h;exact⟨_,List.mem_singleton.2 rfl,by rw[Xkz];exact h⟩
 ·rintro⟨l,hl,h⟩
  rw[List.mem_singleton.1 hl,Xkz]at h;exact h
theorem w14_stops (K:List Str):Vk ⟨By,[],Cs,K⟩ Zqg [99,47,98]=[(Zqg,[99,47,98]),([101,110],[99,47,98]),(Qs,[99,47,98]),(Zqg,[97,47,98]),([101,110],[97,47,98]),(Qs,[97,47,98])]:=by
 unfold Vk;rw[if_neg (by decide)];simp only[w14_way,w14_chain]
 rfl
theorem w14_look (K:List Str):(Vz By (Vk ⟨By,[],Cs,K⟩ Zqg [99,47,98])).2=some [49]:=by
 rw[w14_stops]
 decide +kernel
theorem w14_ok {K:List Str}(hk:Tq Cs (Yn By) true K)(ok:Fx By):Rm ⟨By,[],Cs,K⟩:=by
 rcases hk with ⟨_,h1,h2⟩|⟨h,_⟩
 ·exact⟨Or.inr (Or.inr ⟨rfl,rfl,rfl,fun p hp=>by cases hp⟩),Xry,h1,h2,fun p hp=>by
   simp only[By,List.mem_singleton]at hp;subst hp
   decide +kernel,ok⟩
 ·cases h
end
end Go.Proofs.YtbbmdbolkicpcabGreatDoor
