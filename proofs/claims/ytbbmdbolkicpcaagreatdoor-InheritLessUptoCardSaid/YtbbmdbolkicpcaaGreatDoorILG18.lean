/- AlTgt, AlTarget, InhN, InhNewA, InhNew0, AppIn, PtBack, PtWithout0, RegInvIn -/
import Derived.Test.YtbbmdbolkicpcaaGreatDoorILG16
import Derived.Test.YtbbmdbolkicpcaaGreatDoorILG15
import Derived.Test.YtbbmdbolkicpcaaGreatDoorILG17
import Derived.Test.YtbbmdbolkicpcaaGreatDoorILG02
import Derived.WalkMore
import Derived.BigQuiet
import Derived.Deep.LoopGhost
import Derived.Deep.CutBlock
import Derived.Test.YtbbmdbolkicpcaaGreatDoorILG12
import Derived.Test.YtbbmdbolkicpcaaGreatDoorILG14
import Derived.Test.YtbbmdbolkicpcaaGreatDoorILG13
import Derived.Test.YtbbmdbolkicpcaaGreatDoorILG04
import Derived.OwnWalkIn
import Derived.RangeFuncCalls
import Derived.RangeFuncNested
import Derived.RegionIn
import Derived.BigRegionIn
import Derived.OrdersIn
set_option maxRecDepth 100000
set_option maxHeartbeats 32000000
set_option linter.unusedVariables false
set_option linter.unusedSimpArgs false
namespace Go.Proofs.YtbbmdbolkicpcaaGreatDoor
section
open Go.RowKit Go.Lib
theorem frame_litT (t:Array Value)(h:t.size=148):∃ u:Nat→Value,(∀ i,t.getD i undef=u i)∧t=#[u 0,u 1,u 2,u 3,u 4,u 5,u 6,u 7,u 8,u 9,u 10,u 11,u 12,u 13,u 14,u 15,u 16,u 17,u 18,u 19,u 20,u 21,u 22,u 23,u 24,u 25,u 26,u 27,u 28,u 29,u 30,u 31,u 32,u 33,u 34,u 35,u 36,u 37,u 38,u 39,u 40,u 41,u 42,u 43,u 44,u 45,u 46,u 47,u 48,u 49,u 50,u 51,u 52,u 53,u 54,u 55,u 56,u 57,u 58,u 59,u 60,u 61,u 62,u 63,u 64,u 65,u 66,u 67,u 68,u 69,u 70,u 71,u 72,u 73,u 74,u 75,u 76,u 77,u 78,u 79,u 80,u 81,u 82,u 83,u 84,u 85,u 86,u 87,u 88,u 89,u 90,u 91,u 92,u 93,u 94,u 95,u 96,u 97,u 98,u 99,u 100,u 101,u 102,u 103,u 104,u 105,u 106,u 107,u 108,u 109,u 110,u 111,u 112,u 113,u 114,u 115,u 116,u 117,u 118,u 119,u 120,u 121,u 122,u 123,u 124,u 125,u 126,u 127,u 128,u 129,u 130,u 131,u 132,u 133,u 134,u 135,u 136,u 137,u 138,u 139,u 140,u 141,u 142,u 143,u 144,u 145,u 146,u 147]:=by
 refine⟨fun i=>t.getD i undef,fun _=>rfl,?_⟩
 have e:=list_litS 148 t.toList (by simpa using h);have e2:t=⟨(List.range 148).map fun i=>t.toList.getD i undef⟩:=by
  rw [← e]
 have e3:∀ i,t.toList.getD i undef=t.getD i undef:=fun i=>by simp [Array.getD_eq_getD_getElem?]
 simp only [e3] at e2;exact e2
structure FrT (Rb Sb Xb:Nat)(v6 v9:Value)(a:Act):Prop where
 d:a.defers=[]
 n:a.tmps.size=148
 s5:a.tmps.getD 5 undef=.pointer (some ⟨Rb,0,none⟩)
 s6:a.tmps.getD 6 undef=v6
 s8:a.tmps.getD 8 undef=.pointer (some ⟨Sb,0,none⟩)
 s9:a.tmps.getD 9 undef=v9
 s10:a.tmps.getD 10 undef=.pointer (some ⟨Xb,0,none⟩)
theorem FrT.lit {Rb Sb Xb:Nat}{v6 v9:Value}{a:Act}(h:FrT Rb Sb Xb v6 v9 a):∃ u:Nat→Value,a={ tmps:=#[u 0,u 1,u 2,u 3,u 4,.pointer (some ⟨Rb,0,none⟩),v6,u 7,.pointer (some ⟨Sb,0,none⟩),v9,.pointer (some ⟨Xb,0,none⟩),u 11,u 12,u 13,u 14,u 15,u 16,u 17,u 18,u 19,u 20,u 21,u 22,u 23,u 24,u 25,u 26,u 27,u 28,u 29,u 30,u 31,u 32,u 33,u 34,u 35,u 36,u 37,u 38,u 39,u 40,u 41,u 42,u 43,u 44,u 45,u 46,u 47,u 48,u 49,u 50,u 51,u 52,u 53,u 54,u 55,u 56,u 57,u 58,u 59,u 60,u 61,u 62,u 63,u 64,u 65,u 66,u 67,u 68,u 69,u 70,u 71,u 72,u 73,u 74,u 75,u 76,u 77,u 78,u 79,u 80,u 81,u 82,u 83,u 84,u 85,u 86,u 87,u 88,u 89,u 90,u 91,u 92,u 93,u 94,u 95,u 96,u 97,u 98,u 99,u 100,u 101,u 102,u 103,u 104,u 105,u 106,u 107,u 108,u 109,u 110,u 111,u 112,u 113,u 114,u 115,u 116,u 117,u 118,u 119,u 120,u 121,u 122,u 123,u 124,u 125,u 126,u 127,u 128,u 129,u 130,u 131,u 132,u 133,u 134,u 135,u 136,u 137,u 138,u 139,u 140,u 141,u 142,u 143,u 144,u 145,u 146,u 147],defers:=[] }:=by
 obtain⟨t,d⟩:=a
 obtain⟨hd,hn,h5,h6,h8,h9,h10⟩:=h
 simp only at hd hn h5 h6 h8 h9 h10
 obtain⟨u,hu,e⟩:=frame_litT t hn
 rw [hu] at h5 h6 h8 h9 h10
 refine⟨u,?_⟩
 rw [h5,h6,h8,h9,h10] at e;rw [e,hd]
structure WrM (w W:World)(b:ByteArray)(Sb q:Nat):Prop where
 rb:W.heap[w.heap.size]?=some (.cells #[.int .i64 0,.int .i64 0] 77 (0,0))
 sc:ASc W Sb b q
 bel:Below w.heap.size w W
theorem TgM.wr {w W:World}{b:ByteArray}{Sb Xb q:Nat}{v:Value}{zs:Zs}(h:TgM w W b Sb Xb q v zs):WrM w W b Sb q:=⟨h.rb,h.sc,h.bel⟩
theorem TgM.wrong {w W W':World}{b:ByteArray}{Sb Xb q q':Nat}{v:Value}{zs:Zs}(h:TgM w W b Sb Xb q v zs)(o:Qr Sb W W')(hs:ASc W' Sb b q'):WrM w W' b Sb q':=by
 have hsc:W.heap[Sb]?=some (.cells (asc b q) 127 (0,0)):=h.sc
 exact⟨(o.block _ (lt_of_block h.rb) (fun e=>ne_row h.rb hsc (by decide) (Option.some.inj e))).trans h.rb,hs,h.bel.grown o h.bel.size (fun k hk=>by cases hk;exact h.ls)⟩
abbrev stps (zs:Zs):List Stp:=zs.map (·.1)
def JT (w:World)(b:ByteArray)(tgt:Str ⊕ Nat):Nat→Nat→Act→World→Prop
 | 0,_,a,W=>∃ Sb Xb q v6 v9,FrT w.heap.size Sb Xb v6 v9 a∧WrM w W b Sb q∧tgt=.inr 230
 | 1,n,a,W=>∃ Sb Xb q v6 c zs,FrT w.heap.size Sb Xb v6 (.int .i64 (c:Nat)) a∧TgM w W b Sb Xb q v6 zs∧tgt=goC (c==0) (stps zs) (b.data.toList.drop q)∧c≤q∧4 * b.size+3≤4 * q+n
 | 2,n,a,W=>∃ Sb Xb q v6 v9 zs,FrT w.heap.size Sb Xb v6 v9 a∧TgM w W b Sb Xb q v6 zs∧tgt=goS (stps zs) (b.data.toList.drop q)∧4 * b.size+2≤4 * q+n
 | 3,n,a,W=>∃ Sb Xb q v6 v9 zs nm ks kv M,FrT w.heap.size Sb Xb v6 v9 a∧KyM w W b Sb Xb q v6 zs nm ks kv M∧tgt=goK (stps zs) nm ks (b.data.toList.drop q)∧4 * b.size+1≤4 * q+n
 | _,_,_,_=>False
theorem tgt_ret {V:World}{Pb:Nat}{s:ByteArray}{e a:Int}(hr:V.heap[Pb]?=some (.cells #[.int .i64 e,.int .i64 a] 77 (0,0))){Q:Ending→World→Prop}{act:Act}(hd:act.defers=[])
  (h4:act.tmps.getD 4 undef=.string s)(h5:act.tmps.getD 5 undef=.pointer (some ⟨Pb,0,none⟩))(hQ:Q (.returned (.tuple #[.string s,.agg #[.int .i64 e,.int .i64 a]])) V) :
  bodyPost Tryz.prog Tryz.f31 Q Exit.ret act V:=by
 obtain⟨e0,e1,_,_,_⟩:=Qq hr
 refine bodyPost_ret (v:=.tuple #[.string s,.agg #[.int .i64 e,.int .i64 a]]) ?_ hd hQ
 obtain⟨tmps,defers⟩:=act
 simp only [Array.getD_eq_getD_getElem?] at h4 h5
 simp [results,Tryz.results31,go_sem,h4,h5,e0,e1]
theorem wrong_run (w:World)(b:ByteArray)(tgt:Str ⊕ Nat):∃ rest,bodyOfS Tryz.f31 0=some (.seq .skip rest)∧∀ n a W,JT w b tgt 0 n a W→∀ Jx:Nat→Act→World→Prop,
  rest.wp Tryz.prog (Exit.jumps Jx (bodyPost Tryz.prog Tryz.f31 (fun x w'=>TgOut w tgt x w'))) a W:=by
 refine⟨_,rfl,?_⟩
 intro n a W hJ Jx
 obtain⟨Sb,Xb,q,v6,v9,hfr,hm,ht⟩:=hJ
 obtain⟨u,rfl⟩:=hfr.lit
 have HM:=hid hm;have HT:=hid ht
 obtain⟨c0,c1,f1,lt⟩:=hm.sc.cells
 obtain⟨r0,r1,rf0,rf1,rlt⟩:=Qq hm.rb
 clear hfr hm ht;go_wp2_with fail
 go_region
 all_goals
  go_wp2_with fail;simp only [Exit.jumps];refine tgt_ret (Pb:=w.heap.size) (e:=230) (a:=q) ?_ rfl rfl rfl ⟨?_,Or.inr ⟨230,q,HT.out,by decide,rfl⟩⟩
  ·exact Kv (W:=W.drew) _ _ HM.out.rb
  ·exact Xd (W:=W.drew) _ _ HM.out.bel.drew (Nat.le_refl _)
theorem mustT (Sb : Nat) (b m : ByteArray) (k q : Nat) (W : World) (h : ASc W Sb b q) (hq : q ≤ b.size) (hb : b.size ≤ 1048576) (hk : m.size = k) (hm : m.size ≤ 1000) :
    Calls Tryz.prog 61 #[.pointer (some ⟨Sb, 0, none⟩), .string m] W fun x w' => ∃ ok : Bool, x = .returned (.bool ok) ∧ Qr Sb W w' ∧
      ((ok = true ∧ ASc w' Sb b (q + k) ∧ q + k ≤ b.size ∧ b.data.toList.drop q = m.data.toList ++ b.data.toList.drop (q + k)) ∨
       (ok = false ∧ (∃ q', ASc w' Sb b q' ∧ q' ≤ b.size) ∧ ¬ m.data.toList <+: b.data.toList.drop q)) := by
  subst hk
  refine (amust_any Sb b m q W h hq (by omega) hm).mono ?_
  rintro x w' ⟨o, ⟨rfl, h1, h2, h3⟩ | ⟨rfl, h1, h2⟩⟩
  · exact ⟨true, rfl, o, Or.inl ⟨rfl, h1, h2, h3⟩⟩
  · exact ⟨false, rfl, o, Or.inr ⟨rfl, h1, h2⟩⟩
theorem valT (Sb : Nat) (b : ByteArray) (q : Nat) (W : World) (h : ASc W Sb b q) (hq : q ≤ b.size) (hb : b.size ≤ 1048576) (hT : TabsB Sb W) :
    Calls Tryz.prog 65 #[.pointer (some ⟨Sb, 0, none⟩)] W fun x w' => ∃ (v : ByteArray) (ok : Bool), x = .returned (.tuple #[.string v, .bool ok]) ∧ Qr Sb W w' ∧
      ((ok = true ∧ ∃ s q', v = ⟨s.toArray⟩ ∧ valueA (b.data.toList.drop q) = some (s, b.data.toList.drop q') ∧ ASc w' Sb b q' ∧ q' ≤ b.size) ∨
       (ok = false ∧ valueA (b.data.toList.drop q) = none ∧ ∃ q', ASc w' Sb b q' ∧ q' ≤ b.size)) := by
  refine (aval_any Sb b q W h hq (by omega) hT).mono ?_
  rintro x w' ⟨o, ⟨v, q2, h1, rfl, h2, h3⟩ | ⟨h1, s, q2, rfl, h2, h3⟩⟩
  · exact ⟨_, true, rfl, o, Or.inl ⟨rfl, v, q2, rfl, h1, h2, h3⟩⟩
  · exact ⟨_, false, rfl, o, Or.inr ⟨rfl, h1, q2, h2, h3⟩⟩
theorem drop_le {b:ByteArray}{q q2:Nat}(h:(b.data.toList.drop q2).length≤(b.data.toList.drop q).length)(h1:q≤b.size)(h2:q2≤b.size):q≤q2:=by
 rw [List.length_drop,List.length_drop,← Lib.size_eq] at h
 omega
theorem key_run (w:World)(b:ByteArray)(tgt:Str ⊕ Nat)(hb:b.size≤1048576)(hT:TabsB w.heap.size w):∃ rest,bodyOfS Tryz.f31 3=some (.seq .skip rest)∧∀ n a W,JT w b tgt 3 n a W→∀ Jx:Nat→Act→World→Prop,(∀ l' n' a' w',n'<n→JT w b tgt l' n' a' w'→Jx l' a' w') →
  rest.wp Tryz.prog (Exit.jumps Jx (bodyPost Tryz.prog Tryz.f31 (fun x w'=>TgOut w tgt x w'))) a W:=by
 obtain⟨rest0,hr0,hv0⟩:=wrong_run w b tgt
 have HR0:=hid hr0;have HV0:=hid hv0;clear hr0 hv0
 refine⟨_,rfl,?_⟩
 intro g a W hJ Jx hJx
 obtain⟨Sb,Xb,q,v6,v9,zs,nm,ks,kv,M,hfr,hm,ht,hg⟩:=hJ
 obtain⟨u,rfl⟩:=hfr.lit
 have HX:=hid hJx;have KM:=hid hm;have HT:=hid ht;have HG:=hid hg;have HB:=hid hb;have HQB:=hid hm.m.qb;have K2kw:=hid hm.kw;have HTB:=hid (fun W (hbel:Below w.heap.size w W)=>(show TabsB Sb W from⟨(hT.below hbel).1,Nat.lt_of_lt_of_le hT.2.1 hm.m.ls,Nat.lt_of_lt_of_le hT.2.2 hm.m.ls⟩));have ON91:=hid (fun W (h:ASc W Sb b q)=>(show Calls Tryz.prog 60 #[.pointer (some ⟨Sb,0,none⟩),.int .u8 91] W _ from aon_any Sb b q 91 W h hm.m.qb (by omega)));have ON47:=hid (fun W (h:ASc W Sb b q)=>(show Calls Tryz.prog 60 #[.pointer (some ⟨Sb,0,none⟩),.int .u8 47] W _ from aon_any Sb b q 47 W h hm.m.qb (by omega)))
 obtain⟨ak,ck,rfl⟩:=Ql hm.ko
 obtain⟨x0,x1,xf0,xf1,xlt⟩:=Qq hm.x
 obtain⟨s0,s1,sf1,slt⟩:=hm.m.sc.cells
 clear hfr hJx hm ht hg hT
 cases h91:Zt (fun d=>d==91) (b.data.toList.drop q) with
 | false =>
  have H91:=hid h91;go_wp2_with fail
  refine(ON91.out _ KM.out.m.sc).mono ?_
  rw [h91];clear h91;rintro e W2 ⟨rfl,sc2,o2⟩;have K2:=hid (KM.out.step o2 sc2 KM.out.m.qb (Nat.le_refl _));clear x0 x1 xf0 xf1 xlt s0 s1 sf1 slt KM sc2 o2
  obtain⟨x0,x1,xf0,xf1,xlt⟩:=Qq K2.out.x
  obtain⟨s0,s1,sf1,slt⟩:=K2.out.m.sc.cells
  have HKL:=hid (show ks.length≤1000000 from by
   have h1:=K2.out.kw;have h2:=K2.out.m.qb;have h3:2 * ks.length≤kw ks:=kw_len ks
   have:=HB.out
   omega)
  go_wp2_with fail
  refine(sortPairsAT W2 M _ ks K2.out.ko HKL.out).mono ?_
  rintro e W3 ⟨rfl,⟨l',hp,hs,ho⟩,gr⟩;have K3:=hid (K2.out.sort gr ho hp hs);have HMAY:=hid (show mayB (nm,Kh ks)=true∧(Zw (nm,Kh ks)).length≤1073741824 from⟨may_srt K2.out.nm K2.out.ok K2.out.nd,by
   have h1:=text_srt nm ks;have h2:=K2.out.kw;have h3:=K2.out.m.qb
   have:=HB.out
   omega⟩)
  clear x0 x1 xf0 xf1 xlt s0 s1 sf1 slt hp hs ho gr K2 l'
  obtain⟨sk,hsk⟩:∃ sk,sk=Kh ks:=⟨_,rfl⟩
  have HSK:=hid hsk;rw [← hsk] at K3 HMAY;have hln:ks.length=sk.length:=by rw [hsk];exact(srtK_perm ks).length_eq.symm
  clear hsk;rw [hln] at K3 ⊢;clear hln
  obtain⟨x0,x1,xf0,xf1,xlt⟩:=Qq K3.out.x
  obtain⟨s0,s1,sf1,slt⟩:=K3.out.m.sc.cells
  have HZL:=hid (show zs.length+1≤1050000 from by have:=K3.out.cn;have:=HQB.out;have:=HB.out;omega);have HWS:=hid K3.out.m.bel.size
  go_wp2_with (at_builtin;refine Xv (E:=Xf) rfl (.tmp 110) (.tmp 112) rfl Tryz.underlying99 infoSt rfl (by decide) w.heap.size _ zs ((nm,sk),(ak,ck)) rfl K3.out.m.own rfl (by have:=HZL.out;unfold maxLen;omega) (by have:=HZL.out;omega) HWS.out #[.string ⟨nm.toArray⟩,.slice ak sk.length ck] rfl ?_;intro v7 W4 own4 gr4 mv4;have T4:=hid (K3.out.join HMAY.out own4 gr4 mv4);clear x0 x1 xf0 xf1 xlt s0 s1 sf1 slt own4 gr4 mv4 K3;obtain⟨s0,s1,sf1,slt⟩:=T4.out.sc.cells)
  cases h47:Zt (fun d=>d==47) (b.data.toList.drop q) with
  | true =>
   have H47:=hid (head_take h47);have hq0:(0:Int)≤(q:Int):=by omega
   have hqb:(q:Int)≤1048576:=by have:=HQB.out;have:=HB.out;omega
   refine(ON47.out _ T4.out.sc).mono ?_
   rw [h47];clear h47;rintro e W5 ⟨rfl,sc5,o5⟩;have T5:=hid (T4.out.step o5 sc5 T4.out.qb (Nat.le_refl _));clear s0 s1 sf1 slt T4 sc5 o5
   obtain⟨s0,s1,sf1,slt⟩:=T5.out.sc.cells
   go_wp2_with fail
   go_step3
   refine HX.out 2 (g - 1) _ _ (by have:=HG.out;have:=HQB.out;omega) ?_
   refine⟨Sb,Xb,q+1,v7,v9,_,⟨rfl,rfl,rfl,rfl,rfl,rfl,rfl⟩,T5.out.step ((Qr.refl _ Sb).set 1 (.int .i64 ((q+1:Nat):Int))) (T5.out.sc.setAt (q+1)) H47.out.1 (Nat.le_succ _),?_,by have:=HG.out;have:=HQB.out;omega⟩
   rw [HT.out,H47.out.2,goK_step,HSK.out]
   simp
  | false =>
   refine(ON47.out _ T4.out.sc).mono ?_
   rw [h47];rintro e W5 ⟨rfl,sc5,o5⟩;have T5:=hid (T4.out.step o5 sc5 T4.out.qb (Nat.le_refl _));clear s0 s1 sf1 slt T4 sc5 o5
   obtain⟨s0,s1,sf1,slt⟩:=T5.out.sc.cells
   have hq0:(0:Int)≤(q:Int):=by omega
   by_cases hqe:q=b.size
   ·have hx:((q:Int)==(b.size:Int))=true:=beq_iff_eq.2 (by omega);have HE:=hid (show tgt=finT (stps zs++[(nm,sk)]) from by
     rw [HT.out,hqe,show b.data.toList.drop b.size=[] from List.drop_eq_nil_of_le (by rw [← Lib.size_eq];exact Nat.le_refl _),goK_end,HSK.out])
    clear H91 h47 hqe;go_wp2_with fail
    go_quiet (fail)
    have T6:=hid (show TgM w (W5.drewN nq) b Sb Xb q v7 (zs++[((nm,sk),(ak,ck))]) from T5.out.below ⟨rfl,rfl,rfl,Nat.le_refl _,fun _ _=>rfl⟩);clear s0 s1 sf1 slt T5 hx;generalize W5.drewN nq=W6 at *;have PR:=hid (pprint_gen W6 v7 (zs++[((nm,sk),(ak,ck))]) T6.out.own.rd (fun z hz=>(T6.out.each z hz).rd) T6.out.may (by have:=HZL.out;simp;omega));rw [show(zs++[((nm,sk),(ak,ck))]).map (·.1)=stps zs++[(nm,sk)] from by simp] at PR
    cases hpr:Zy (stps zs++[(nm,sk)]) with
    | none =>
     have HE2:=hid (show tgt=.inr 3 by rw [HE.out,finT,hpr]);rw [(put_none hpr).1,(put_none hpr).2] at PR;clear hpr HE;go_wp2_with fail;refine PR.out.mono ?_;rintro e W7 ⟨rfl,hb7⟩;have T7:=hid (T6.out.below hb7)
     obtain⟨r0,r1,rf0,rf1,rlt⟩:=Qq T7.out.rb
     clear hb7 T6;go_wp2_with fail;simp only [Exit.jumps];refine tgt_ret (Pb:=w.heap.size) (e:=3) (a:=0) ?_ rfl rfl rfl ⟨?_,Or.inr ⟨3,0,HE2.out,by decide,rfl⟩⟩
     ·exact Kv _ _ T7.out.rb
     ·exact Xd _ _ T7.out.bel (Nat.le_refl _)
    | some t =>
     have HE2:=hid (show tgt=.inl t by rw [HE.out,finT,hpr]);rw [(put_some hpr).1,(put_some hpr).2] at PR;clear hpr HE;go_wp2_with fail;refine PR.out.mono ?_;rintro e W7 ⟨rfl,hb7⟩;have T7:=hid (T6.out.below hb7)
     obtain⟨r0,r1,rf0,rf1,rlt⟩:=Qq T7.out.rb
     clear hb7 T6;go_wp2_with fail;simp only [Exit.jumps];refine tgt_ret (Pb:=w.heap.size) (e:=0) (a:=0) ?_ rfl rfl rfl ⟨?_,Or.inl ⟨t,HE2.out,rfl⟩⟩
     ·exact Kv _ _ T7.out.rb
     ·exact Xd _ _ T7.out.bel (Nat.le_refl _)
   ·have hx:((q:Int)==(b.size:Int))=false:=beq_eq_false_iff_ne.2 (by omega);have hql:q<b.size:=by have:=HQB.out;omega
    have HE:=hid (show tgt=.inr 230 from by
     have h1:=H91.out;have h2:=h47;rw [head_is b q _ hql,beq_eq_false_iff_ne] at h1 h2;rw [HT.out,drop_at b q hql,goK_wrong _ _ _ h1 h2])
    clear H91 h47;go_wp2_with fail
    go_quiet (fail)
    have T6:=hid (show TgM w (W5.drewN nq) b Sb Xb q v7 (zs++[((nm,sk),(ak,ck))]) from T5.out.below ⟨rfl,rfl,rfl,Nat.le_refl _,fun _ _=>rfl⟩);go_wp2_with fail
    go_step3
    rename_i K hK
    refine hK _ _ ?_;refine wp_sameS (HV0.out 0 _ _ ⟨Sb,Xb,q,v7,v9,⟨rfl,rfl,rfl,rfl,rfl,rfl,rfl⟩,T6.out.wr,HE.out⟩ _) (HR0.out.symm.trans rfl)
 | true =>
  have H91:=hid (head_take h91);have HG0:=hid (show 0<g by have:=HG.out;have:=HQB.out;omega);go_wp2_with fail
  refine(ON91.out _ KM.out.m.sc).mono ?_
  rw [h91];clear h91;rintro e W2 ⟨rfl,sc2,o2⟩;have K2:=hid (KM.out.step o2 sc2 KM.out.m.qb (Nat.le_refl _));clear x0 x1 xf0 xf1 xlt s0 s1 sf1 slt KM sc2 o2 ON91 ON47;have HKL:=hid (show ks.length≤1000000 from by
   have h1:=K2.out.kw;have h2:=K2.out.m.qb;have h3:2 * ks.length≤kw ks:=kw_len ks
   have:=HB.out
   omega)
  have MU2:=hid (mustT Sb b ⟨#[91,64]⟩ 2 q W2 K2.out.m.sc K2.out.m.qb HB.out rfl (by decide));go_wp2_with fail;refine MU2.out.mono ?_;rintro e W3 ⟨ok,rfl,o3,hr⟩;clear MU2
  cases ok with
  | false =>
   obtain⟨⟨q3,sc3,hq3⟩,hn⟩:(∃ q',ASc W3 Sb b q'∧q'≤b.size)∧¬ [91,64] <+: b.data.toList.drop q:=by
    rcases hr with ⟨h,_⟩ | ⟨_,h1,h2⟩
    ·cases h
    ·exact⟨h1,h2⟩
   have HE:=hid (show tgt=.inr 230 from by
    rw [HT.out,H91.out.2];refine goK_bad ?_;unfold keyA;rw [takeB_pre]
    rintro⟨r,hr⟩
    exact hn ⟨r,by rw [H91.out.2,← hr];rfl⟩)
   have WR:=hid (K2.out.m.wrong o3 sc3);clear hr hn sc3 o3;go_wp2_with fail
   go_step3
   exact HX.out 0 0 _ _ HG0.out ⟨Sb,Xb,q3,v6,v9,⟨rfl,rfl,rfl,rfl,rfl,rfl,rfl⟩,WR.out,HE.out⟩
  | true =>
   obtain⟨sc3,hq3,e3⟩:ASc W3 Sb b (q+2)∧q+2≤b.size∧b.data.toList.drop q=[91,64]++b.data.toList.drop (q+2):=by
    rcases hr with ⟨_,h1,h2,h3⟩ | ⟨h,_⟩
    ·exact⟨h1,h2,h3⟩
    ·cases h
   clear hr
   obtain⟨p2,hp2⟩:∃ p2,p2=q+2:=⟨_,rfl⟩
   rw [← hp2] at sc3 hq3 e3;have E1:=hid (show b.data.toList.drop (q+1)=64::b.data.toList.drop p2 from by
    have h:=H91.out.2.symm.trans e3
    injection h)
   have HP2:=hid hp2;have K3:=hid (K2.out.step o3 sc3 hq3 (by omega));have NM:=hid (aname_any Sb b p2 W3 sc3 hq3 (by have:=HB.out;omega));clear sc3 hq3 e3 hp2 o3 K2
   obtain⟨s0,s1,sf1,slt⟩:=K3.out.m.sc.cells
   obtain⟨k,hk⟩:∃ k,k=(Xc (b.data.toList.drop p2)).1:=⟨_,rfl⟩
   rw [← hk] at NM;go_wp2_with fail;refine NM.out.mono ?_;rintro e W4 ⟨rfl,⟨q4,sc4,hq4,hqe⟩,o4⟩;have HNK:=hid (name_rest hk hqe);have HQ4:=hid hqe;have K4:=hid (K3.out.step o4 sc4 hq4 (by omega));have hb5:Below W4.heap.size W4 (W4.alloc (.cells #[.string ⟨k.toArray⟩] 9)):=bal _ _;have K5:=hid (K4.out.below hb5);have F5:=hid (heap_alloc_new W4 (.cells #[.string ⟨k.toArray⟩] 9));have HK:=hid (hasKeyAT (W4.alloc (.cells #[.string ⟨k.toArray⟩] 9)) (.slice ak ks.length ck) ks W4.heap.size k K5.out.ko.rd HKL.out (ownP_hp K5.out.ko) F5.out);clear s0 s1 sf1 slt NM sc4 hq4 hqe hk o4 K3 K4 hb5
   obtain⟨x0,x1,xf0,xf1,xlt⟩:=Qq K5.out.x
   go_upto_region 17 with fail;generalize W4.alloc (.cells #[.string ⟨k.toArray⟩] 9)=W5 at *;generalize W4.heap.size=kb at *;go_wp2_with fail;refine HK.out.mono ?_;rintro e W6 ⟨rfl,hb6⟩;have K6:=hid (K5.out.below hb6);have F6:=hid (bk hb6 F5.out);clear x0 x1 xf0 xf1 xlt hb6 K5 F5 HK
   obtain⟨s0,s1,sf1,slt⟩:=K6.out.m.sc.cells
   cases hany:ks.any (fun p=>p.1==k) with
   | true =>
    have HE:=hid (show tgt=.inr 230 from by rw [HT.out,H91.out.2];exact goK_bad (keyA_has E1.out HNK.out hany));have WR:=hid (K6.out.m.wrong ((Qr.refl _ Sb).set 1 (.int .i64 (p2:Nat))) (K6.out.m.sc.setAt p2));clear hany;go_wp2_with fail
    go_step3
    exact HX.out 0 0 _ _ HG0.out ⟨Sb,Xb,p2,v6,v9,⟨rfl,rfl,rfl,rfl,rfl,rfl,rfl⟩,WR.out,HE.out⟩
   | false =>
    have HANY:=hid hany;clear hany;have k0:W6.cell? ⟨kb,0,none⟩=some (.string ⟨k.toArray⟩):=cR F6.out;have klt:=lt_of_block F6.out
    by_cases hkn:k=[]
    ·have HE:=hid (show tgt=.inr 230 from by rw [HT.out,H91.out.2];exact goK_bad (keyA_nil E1.out HNK.out hkn));clear HNK HQ4 HANY;subst hkn;go_wp2_with fail
     go_step3
     exact HX.out 0 0 _ _ HG0.out ⟨Sb,Xb,q4,v6,v9,⟨rfl,rfl,rfl,rfl,rfl,rfl,rfl⟩,K6.out.m.wr,HE.out⟩
    ·have hlb:(k==[])=false:=beq_eq_false_iff_ne.2 hkn;have HKN:=hid hkn;have MU3:=hid (mustT Sb b ⟨#[61]⟩ 1 q4 W6 K6.out.m.sc K6.out.m.qb HB.out rfl (by decide));go_wp2_with fail;refine MU3.out.mono ?_;rintro e W7 ⟨ok,rfl,o7,hr⟩;clear MU3 s0 s1 sf1 slt k0 klt
     cases ok with
     | false =>
      obtain⟨⟨q3,sc3,hq3⟩,hn⟩:(∃ q',ASc W7 Sb b q'∧q'≤b.size)∧¬ [61] <+: b.data.toList.drop q4:=by
       rcases hr with ⟨h,_⟩ | ⟨_,h1,h2⟩
       ·cases h
       ·exact⟨h1,h2⟩
      have HE:=hid (show tgt=.inr 230 from by rw [HT.out,H91.out.2];exact goK_bad (keyA_eq E1.out HNK.out hn));have WR:=hid (K6.out.m.wrong o7 sc3);clear hr hn sc3 o7;go_wp2_with fail
      go_step3
      exact HX.out 0 0 _ _ HG0.out ⟨Sb,Xb,q3,v6,v9,⟨rfl,rfl,rfl,rfl,rfl,rfl,rfl⟩,WR.out,HE.out⟩
     | true =>
      obtain⟨sc7,hq7,e7⟩:ASc W7 Sb b (q4+1)∧q4+1≤b.size∧b.data.toList.drop q4=61::b.data.toList.drop (q4+1):=by
       rcases hr with ⟨_,h1,h2,h3⟩ | ⟨h,_⟩
       ·exact⟨h1,h2,h3⟩
       ·cases h
      clear hr;have E7:=hid e7;have K7:=hid (K6.out.step o7 sc7 hq7 (by omega));have F7:=hid ((o7.block _ (lt_of_block F6.out) (fun e=>ne_row F6.out (show W6.heap[Sb]?=some (.cells (asc b q4) 127 (0,0)) from K6.out.m.sc) (by decide) (Option.some.inj e))).trans F6.out);have VL:=hid (valT Sb b (q4+1) W7 sc7 hq7 HB.out (HTB.out W7 K7.out.m.bel));clear e7 sc7 o7 K6 F6;go_wp2_with fail;refine VL.out.mono ?_;rintro e W8 ⟨v,ok,rfl,o8,hr⟩;clear VL
      cases ok with
      | false =>
       obtain⟨hv,q3,sc3,hq3⟩:valueA (b.data.toList.drop (q4+1))=none∧∃ q',ASc W8 Sb b q'∧q'≤b.size:=by
        rcases hr with ⟨h,_⟩ | ⟨_,h1,h2⟩
        ·cases h
        ·exact⟨h1,h2⟩
       have HE:=hid (show tgt=.inr 230 from by rw [HT.out,H91.out.2];exact goK_bad (keyA_val E1.out HNK.out E7.out hv));have WR:=hid (K7.out.m.wrong o8 sc3);clear hr hv sc3 o8;go_wp2_with fail
       go_step3
       exact HX.out 0 0 _ _ HG0.out ⟨Sb,Xb,q3,v6,v9,⟨rfl,rfl,rfl,rfl,rfl,rfl,rfl⟩,WR.out,HE.out⟩
      | true =>
       obtain⟨s,q8,rfl,hv,sc8,hq8⟩:∃ s q',v=⟨s.toArray⟩∧valueA (b.data.toList.drop (q4+1))=some (s,b.data.toList.drop q')∧ASc W8 Sb b q'∧q'≤b.size:=by
        rcases hr with ⟨_,h⟩ | ⟨h,_⟩
        ·exact h
        ·cases h
       clear hr;have HV:=hid hv;have hle8:q4+1≤q8:=drop_le (b:=b) (by have:=valueA_len hv;omega) hq7 hq8;have K8:=hid (K7.out.step o8 sc8 hq8 hle8);have F8:=hid ((o8.block _ (lt_of_block F7.out) (fun e=>ne_row F7.out (show W7.heap[Sb]?=some (.cells (asc b (q4+1)) 127 (0,0)) from K7.out.m.sc) (by decide) (Option.some.inj e))).trans F7.out);have MU9:=hid (mustT Sb b ⟨#[93]⟩ 1 q8 W8 sc8 hq8 HB.out rfl (by decide));have HLE8:=hid hle8;clear hv sc8 o8 K7 F7 hle8;go_wp2_with fail;refine MU9.out.mono ?_;rintro e W9 ⟨ok,rfl,o9,hr⟩;clear MU9
       cases ok with
       | false =>
        obtain⟨⟨q3,sc3,hq3⟩,hn⟩:(∃ q',ASc W9 Sb b q'∧q'≤b.size)∧¬ [93] <+: b.data.toList.drop q8:=by
         rcases hr with ⟨h,_⟩ | ⟨_,h1,h2⟩
         ·cases h
         ·exact⟨h1,h2⟩
        have HE:=hid (show tgt=.inr 230 from by rw [HT.out,H91.out.2];exact goK_bad (keyA_end E1.out HNK.out E7.out HV.out hn));have WR:=hid (K8.out.m.wrong o9 sc3);clear hr hn sc3 o9;go_wp2_with fail
        go_step3
        exact HX.out 0 0 _ _ HG0.out ⟨Sb,Xb,q3,v6,v9,⟨rfl,rfl,rfl,rfl,rfl,rfl,rfl⟩,WR.out,HE.out⟩
       | true =>
        obtain⟨sc9,hq9,e9⟩:ASc W9 Sb b (q8+1)∧q8+1≤b.size∧b.data.toList.drop q8=93::b.data.toList.drop (q8+1):=by
         rcases hr with ⟨_,h1,h2,h3⟩ | ⟨h,_⟩
         ·exact⟨h1,h2,h3⟩
         ·cases h
        clear hr;have HKA:=hid (keyA_all E1.out HNK.out HANY.out HKN.out E7.out HV.out e9);have HE:=hid (show tgt=goK (stps zs) nm (ks++[(k,s)]) (b.data.toList.drop (q8+1)) from by rw [HT.out,H91.out.2,goK_more HKA.out]);have K9:=hid (K8.out.step o9 sc9 hq9 (Nat.le_succ _));have F9:=hid ((o9.block _ (lt_of_block F8.out) (fun e=>ne_row F8.out (show W8.heap[Sb]?=some (.cells (asc b q8) 127 (0,0)) from K8.out.m.sc) (by decide) (Option.some.inj e))).trans F8.out);have HOK:=hid (keyA_ok HKA.out);have HLT:=hid (show q+1≤q8+1∧kw (ks++[(k,s)])+nm.length≤q8+1 from by
         have h1:=keyA_len HKA.out;rw [List.length_drop,List.length_drop,← Lib.size_eq] at h1;have h2:=K2kw.out;rw [kw_snoc];have h3:=H91.out.1;simp only at h1 ⊢
         omega)
        clear sc9 hq9 e9 o9 K8 F8
        obtain⟨x0,x1,xf0,xf1,xlt⟩:=Qq K9.out.x
        have k0:W9.cell? ⟨kb,0,none⟩=some (.string ⟨k.toArray⟩):=cR F9.out;have klt:=lt_of_block F9.out
        go_wp2_with (at_builtin;refine wpList_pushP rfl (.tmp 100) (.tmp 104) rfl M _ ks (k,s) rfl K9.out.ko rfl HKL.out K9.out.hi ?_;intro kv' W10 own10 gr10 mv10;obtain⟨a',c',rfl⟩:=Ql own10;have K10:=hid (K9.out.push gr10 own10 HOK.out.1 HOK.out.2.1 HOK.out.2.2.1 HLT.out.2);have XG:=hid (K9.out.grow gr10 own10).2;rw [show(ks++[(k,s)]).length=ks.length+1 from by simp] at K10;clear x0 x1 xf0 xf1 xlt k0 klt own10 gr10 mv10 K9 F9;obtain⟨x0,x1,xf0,xf1,xlt⟩:=Qq XG.out)
        go_step3
        refine HX.out 3 (g - 1) _ _ (by have:=HG0.out;omega) ?_
        exact⟨Sb,Xb,q8+1,v6,v9,zs,nm,ks++[(k,s)],_,M,⟨rfl,rfl,rfl,rfl,rfl,rfl,rfl⟩,K10.out,HE.out,by have:=HG.out;have:=HLT.out.1;have:=HG0.out;have:=HQB.out;have:=HLE8.out;have:=HQ4.out;have:=HP2.out;omega⟩
end
section
open Go.RowKit Go.Lib
theorem tstep_run (w:World)(b:ByteArray)(tgt:Str ⊕ Nat)(hb:b.size≤1048576)(hT:TabsB w.heap.size w):∃ rest,bodyOfS Tryz.f31 2=some (.seq .skip rest)∧∀ n a W,JT w b tgt 2 n a W→∀ Jx:Nat→Act→World→Prop,(∀ l' n' a' w',n'<n→JT w b tgt l' n' a' w'→Jx l' a' w') →
  rest.wp Tryz.prog (Exit.jumps Jx (bodyPost Tryz.prog Tryz.f31 (fun x w'=>TgOut w tgt x w'))) a W:=by
 obtain⟨rest3,hr3,hv3⟩:=key_run w b tgt hb hT
 have HR3:=hid hr3;have HV3:=hid hv3;clear hr3 hv3
 refine⟨_,rfl,?_⟩
 intro g a W hJ Jx hJx
 obtain⟨Sb,Xb,q,v6,v9,zs,hfr,hm,ht,hg⟩:=hJ
 obtain⟨u,rfl⟩:=hfr.lit
 have HX:=hid hJx;have TM:=hid hm;have HT:=hid ht;have HG:=hid hg;have HQB:=hid hm.qb;have T3cnt:=hid hm.cnt;have HG0:=hid (show 0<g by have:=hm.qb;omega);have NM:=hid (aname_any Sb b q W hm.sc hm.qb (by omega))
 obtain⟨k,hk⟩:∃ k,k=(Xc (b.data.toList.drop q)).1:=⟨_,rfl⟩
 rw [← hk] at NM;clear hfr hJx hm ht hg hT;go_wp2_with fail;refine NM.out.mono ?_;rintro e W2 ⟨rfl,⟨q2,sc2,hq2,hqe⟩,o2⟩;have HNK:=hid (name_rest hk hqe);have HQ2:=hid hqe;have HK:=hid hk;have T2:=hid (TM.out.step o2 sc2 hq2 (by omega));clear NM sc2 hq2 hqe o2 TM hk
 obtain⟨z0,z1,hx2⟩:=T2.out.xb
 have X3:=hid (show((W2.setCell ⟨Xb,0,none⟩ (.string ⟨k.toArray⟩)).setCell ⟨Xb,1,none⟩ (.slice none 0 0)).heap[Xb]?=some (.cells #[.string ⟨k.toArray⟩,.slice none 0 0] 106 (0,0)) from Kv _ _ hx2);have T3:=hid ((T2.out.setX 0 (.string ⟨k.toArray⟩)).setX 1 (.slice none 0 0))
 obtain⟨x0,x1,xf0,xf1,xlt⟩:=Qq hx2
 clear hx2;go_upto_region 12 with fail;generalize (W2.setCell ⟨Xb,0,none⟩ (.string ⟨k.toArray⟩)).setCell ⟨Xb,1,none⟩ (.slice none 0 0)=W3 at *;clear x0 x1 xf0 xf1 xlt T2
 obtain⟨x0,x1,xf0,xf1,xlt⟩:=Qq X3.out
 by_cases hkn:k=[]
 ·have HE:=hid (show tgt=.inr 230 from by rw [HT.out,goS_eq,if_pos (by rw [← HK.out];exact hkn)]);clear HNK HQ2 HK;subst hkn;go_wp2_with fail
  go_step3
  exact HX.out 0 0 _ _ HG0.out ⟨Sb,Xb,q2,v6,v9,⟨rfl,rfl,rfl,rfl,rfl,rfl,rfl⟩,T3.out.wr,HE.out⟩
 ·have hlb:(k==[])=false:=beq_eq_false_iff_ne.2 hkn;have HKN:=hid hkn;have HE:=hid (show tgt=goK (stps zs) k [] (b.data.toList.drop q2) from by rw [HT.out,goS_eq,if_neg (by rw [← HK.out];exact hkn),HNK.out]);have HKL:=hid (List.length_pos_iff.2 hkn);go_wp2_with fail
  go_step3
  rename_i K hK
  refine hK _ _ ?_;refine wp_sameS (HV3.out (g - 1) _ _ ⟨Sb,Xb,q2,v6,v9,zs,k,[],.slice none 0 0,W3.heap.size,⟨rfl,rfl,rfl,rfl,rfl,rfl,rfl⟩,⟨T3.out,X3.out,World.ownsRow_nil _ _ _ _,T3.out.keyLt,T3.out.bel.size,Nat.le_refl _,?_,fun x hx=>(by cases hx),List.Pairwise.nil,?_,?_⟩,HE.out,?_⟩ _ (fun l' n' a' w' hlt hj=>HX.out l' n' a' w' (by omega) hj)) (HR3.out.symm.trans rfl)
  ·rw [HK.out];exact nameA_ok (by rw [← HK.out];exact HKN.out)
  ·have:=HQ2.out
   simp only [kw,List.map_nil,List.sum_nil]
   omega
  ·have:=HQ2.out
   have:=HKL.out
   have:=T3cnt.out
   omega
  ·have:=HQ2.out
   have:=HG.out
   have:=HG0.out
   have:=HQB.out
   omega
theorem climb_run (w:World)(b:ByteArray)(tgt:Str ⊕ Nat)(hb:b.size≤1048576)(hT:TabsB w.heap.size w):∃ rest,bodyOfS Tryz.f31 1=some (.seq .skip rest)∧∀ n a W,JT w b tgt 1 n a W→∀ Jx:Nat→Act→World→Prop,(∀ l' n' a' w',n'<n→JT w b tgt l' n' a' w'→Jx l' a' w') →
  rest.wp Tryz.prog (Exit.jumps Jx (bodyPost Tryz.prog Tryz.f31 (fun x w'=>TgOut w tgt x w'))) a W:=by
 obtain⟨rest2,hr2,hv2⟩:=tstep_run w b tgt hb hT
 have HR2:=hid hr2;have HV2:=hid hv2;clear hr2 hv2
 refine⟨_,rfl,?_⟩
 intro g a W hJ Jx hJx
 obtain⟨Sb,Xb,q,v6,c,zs,hfr,hm,ht,hcq,hg⟩:=hJ
 obtain⟨u,rfl⟩:=hfr.lit
 obtain⟨a6,c6,rfl,hc6⟩:=Qf.slice hm.own
 have HX:=hid hJx;have TM:=hid hm;have HT:=hid ht;have HG:=hid hg;have HCQ:=hid hcq;have HB:=hid hb;have HQB:=hid hm.qb;have HG0:=hid (show 0<g by have:=hm.qb;omega);have MU:=hid (fun W (h:ASc W Sb b q)=>mustT Sb b ⟨#[46,46,47]⟩ 3 q W h hm.qb hb rfl (by decide));have ON46:=hid (fun W (h:ASc W Sb b q)=>(show Calls Tryz.prog 60 #[.pointer (some ⟨Sb,0,none⟩),.int .u8 46] W _ from aon_any Sb b q 46 W h hm.qb (by omega)));have hc0:(0:Int)≤(c:Int):=by omega
 have hcb:(c:Int)≤2000000:=by have:=hm.qb;omega
 clear hfr hJx hm ht hg hT hcq
 by_cases hc:c=0
 ·have HC:=hid (show((c==0)||Zt (fun d=>d==46) (b.data.toList.drop q))=true by rw [hc];rfl);have hci:((c:Int)==0)=true:=by rw [hc];rfl
  clear hc
  by_cases hz:zs=[]
  ·have HE:=hid (show tgt=.inr 230 from by rw [HT.out,hz];exact goC_nil HC.out);rw [hz];go_wp2_with fail
   go_step3
   exact HX.out 0 0 _ _ HG0.out ⟨Sb,Xb,q,_,_,⟨rfl,rfl,rfl,rfl,rfl,rfl,rfl⟩,TM.out.wr,HE.out⟩
  ·have hne:zs≠[]:=hz
   obtain⟨m,hml⟩:∃ m,zs.length=m+1:=⟨zs.length - 1,by have:=List.length_pos_iff.2 hne;omega⟩
   clear hz;have HPOP:=hid (TM.out.pop hne);rw [hml,Nat.add_sub_cancel] at HPOP;have HML:=hid hml;have HNE:=hid hne;have hmm:((m:Int)+1) - 1=(m:Int):=by omega
   have hm0:(0:Int)≤(m:Int):=by omega
   have hmb:(m:Int)≤1100000:=by have:=TM.out.cnt;have:=HQB.out;have:=HB.out;omega
   rw [hml] at hc6 ⊢;have hmc:(m:Int)≤(c6:Int):=by omega
   have hm1:(m:Int)<(m:Int)+1:=by omega
   have hmz:((m:Int)+1==0)=false:=beq_eq_false_iff_ne.2 (by omega);clear hml hne;go_wp2_with fail
   refine(MU.out _ TM.out.sc).mono ?_
   rintro e W3 ⟨ok,rfl,o3,hr⟩
   cases ok with
   | false =>
    obtain⟨⟨q3,sc3,hq3⟩,hn⟩:(∃ q',ASc W3 Sb b q'∧q'≤b.size)∧¬ [46,46,47] <+: b.data.toList.drop q:=by
     rcases hr with ⟨h,_⟩ | ⟨_,h1,h2⟩
     ·cases h
     ·exact⟨h1,h2⟩
    have HE:=hid (show tgt=.inr 230 from by rw [HT.out];exact goC_bad HC.out hn);have WR:=hid (TM.out.wrong o3 sc3);clear hr hn sc3 o3;go_wp2_with fail
    go_step3
    exact HX.out 0 0 _ _ HG0.out ⟨Sb,Xb,q3,_,_,⟨rfl,rfl,rfl,rfl,rfl,rfl,rfl⟩,WR.out,HE.out⟩
   | true =>
    obtain⟨sc3,hq3,e3⟩:ASc W3 Sb b (q+3)∧q+3≤b.size∧b.data.toList.drop q=46::46::47::b.data.toList.drop (q+3):=by
     rcases hr with ⟨_,h1,h2,h3⟩ | ⟨h,_⟩
     ·exact⟨h1,h2,h3⟩
     ·cases h
    have HE:=hid (show tgt=goC (c+1==0) (stps zs.dropLast) (b.data.toList.drop (q+3)) from by
     have h:=HC.out;rw [HT.out,e3] at *;rw [goC_more h (by intro e;exact HNE.out (List.map_eq_nil_iff.1 e))]
     simp [stps,List.map_dropLast])
    have T3:=hid (HPOP.out.step o3 sc3 hq3 (by omega));clear hr sc3 hq3 e3 o3;go_wp2_with fail
    go_step3
    refine HX.out 1 (g - 1) _ _ (by have:=HG0.out;omega) ?_
    exact⟨Sb,Xb,q+3,_,c+1,_,⟨rfl,rfl,rfl,rfl,rfl,rfl,rfl⟩,T3.out,HE.out,by have:=HCQ.out;omega,by have:=HG.out;have:=HG0.out;omega⟩
 ·have hci:((c:Int)==0)=false:=beq_eq_false_iff_ne.2 (by omega);have HC0:=hid (show(c==0)=false from beq_eq_false_iff_ne.2 hc);clear hc
  cases h46:Zt (fun d=>d==46) (b.data.toList.drop q) with
  | true =>
   have HC:=hid (show((c==0)||Zt (fun d=>d==46) (b.data.toList.drop q))=true by rw [h46,Bool.or_true]);go_wp2_with fail
   refine(ON46.out _ TM.out.sc).mono ?_
   rw [h46];clear h46;rintro e W2 ⟨rfl,sc2,o2⟩;have T2:=hid (TM.out.step o2 sc2 TM.out.qb (Nat.le_refl _));clear sc2 o2 TM
   by_cases hz:zs=[]
   ·have HE:=hid (show tgt=.inr 230 from by rw [HT.out,hz];exact goC_nil HC.out);rw [hz];go_wp2_with fail
    go_step3
    exact HX.out 0 0 _ _ HG0.out ⟨Sb,Xb,q,_,_,⟨rfl,rfl,rfl,rfl,rfl,rfl,rfl⟩,T2.out.wr,HE.out⟩
   ·have hne:zs≠[]:=hz
    obtain⟨m,hml⟩:∃ m,zs.length=m+1:=⟨zs.length - 1,by have:=List.length_pos_iff.2 hne;omega⟩
    clear hz;have HPOP:=hid (T2.out.pop hne);rw [hml,Nat.add_sub_cancel] at HPOP;have HML:=hid hml;have HNE:=hid hne;have hmm:((m:Int)+1) - 1=(m:Int):=by omega
    have hm0:(0:Int)≤(m:Int):=by omega
    have hmb:(m:Int)≤1100000:=by have:=T2.out.cnt;have:=HQB.out;have:=HB.out;omega
    rw [hml] at hc6 ⊢;have hmc:(m:Int)≤(c6:Int):=by omega
    have hm1:(m:Int)<(m:Int)+1:=by omega
    have hmz:((m:Int)+1==0)=false:=beq_eq_false_iff_ne.2 (by omega);clear hml hne;go_wp2_with fail
    refine(MU.out _ T2.out.sc).mono ?_
    rintro e W3 ⟨ok,rfl,o3,hr⟩
    cases ok with
    | false =>
     obtain⟨⟨q3,sc3,hq3⟩,hn⟩:(∃ q',ASc W3 Sb b q'∧q'≤b.size)∧¬ [46,46,47] <+: b.data.toList.drop q:=by
      rcases hr with ⟨h,_⟩ | ⟨_,h1,h2⟩
      ·cases h
      ·exact⟨h1,h2⟩
     have HE:=hid (show tgt=.inr 230 from by rw [HT.out];exact goC_bad HC.out hn);have WR:=hid (T2.out.wrong o3 sc3);clear hr hn sc3 o3;go_wp2_with fail
     go_step3
     exact HX.out 0 0 _ _ HG0.out ⟨Sb,Xb,q3,_,_,⟨rfl,rfl,rfl,rfl,rfl,rfl,rfl⟩,WR.out,HE.out⟩
    | true =>
     obtain⟨sc3,hq3,e3⟩:ASc W3 Sb b (q+3)∧q+3≤b.size∧b.data.toList.drop q=46::46::47::b.data.toList.drop (q+3):=by
      rcases hr with ⟨_,h1,h2,h3⟩ | ⟨h,_⟩
      ·exact⟨h1,h2,h3⟩
      ·cases h
     have HE:=hid (show tgt=goC (c+1==0) (stps zs.dropLast) (b.data.toList.drop (q+3)) from by
      have h:=HC.out;rw [HT.out,e3] at *;rw [goC_more h (by intro e;exact HNE.out (List.map_eq_nil_iff.1 e))]
      simp [stps,List.map_dropLast])
     have T3:=hid (HPOP.out.step o3 sc3 hq3 (by omega));clear hr sc3 hq3 e3 o3;go_wp2_with fail
     go_step3
     refine HX.out 1 (g - 1) _ _ (by have:=HG0.out;omega) ?_
     exact⟨Sb,Xb,q+3,_,c+1,_,⟨rfl,rfl,rfl,rfl,rfl,rfl,rfl⟩,T3.out,HE.out,by have:=HCQ.out;omega,by have:=HG.out;have:=HG0.out;omega⟩
  | false =>
   have HE:=hid (show tgt=goS (stps zs) (b.data.toList.drop q) by rw [HT.out,goC_stop (by rw [HC0.out,h46];rfl)]);go_wp2_with fail
   refine(ON46.out _ TM.out.sc).mono ?_
   rw [h46];clear h46;rintro e W2 ⟨rfl,sc2,o2⟩;have T2:=hid (TM.out.step o2 sc2 TM.out.qb (Nat.le_refl _));clear sc2 o2 TM;go_wp2_with fail
   go_step3
   rename_i K hK
   refine hK _ _ ?_;refine wp_sameS (HV2.out (g - 1) _ _ ⟨Sb,Xb,q,_,_,zs,⟨rfl,rfl,rfl,rfl,rfl,rfl,rfl⟩,T2.out,HE.out,by have:=HG.out;have:=HG0.out;omega⟩ _ (fun l' n' a' w' hlt hj=>HX.out l' n' a' w' (by omega) hj)) (HR2.out.symm.trans rfl)
theorem target_any (w:World)(g s:Str)(hg:g.length≤maxLen)(hs:s.length≤1048576)(hT:TabsB w.heap.size w) :
  Calls Tryz.prog 31 #[.string ⟨g.toArray⟩,.string ⟨s.toArray⟩] w fun x w'=>TgOut w (Jw g s) x w':=by
 obtain⟨b,hbs,hbd⟩:∃ b:ByteArray,b=⟨s.toArray⟩∧b.data.toList=s:=⟨_,rfl,by simp⟩
 have hbz:b.size≤1048576:=by rw [Lib.size_eq,hbd];exact hs
 rw [← hbs];have F0:=hid (heap_alloc_new w (.cells #[.int .i64 0,.int .i64 0] 77));have hb0:Below w.heap.size w (w.alloc (.cells #[.int .i64 0,.int .i64 0] 77)):=bal _ _;have B0:=hid hb0;have PP:=hid (fun W=>pparse_any g W hg);have HBD:=hid hbd
 obtain⟨rest0,hr0,hv0⟩:=wrong_run w b (Jw g s)
 obtain⟨rest1,hr1,hv1⟩:=climb_run w b (Jw g s) hbz hT
 obtain⟨rest2,hr2,hv2⟩:=tstep_run w b (Jw g s) hbz hT
 obtain⟨rest3,hr3,hv3⟩:=key_run w b (Jw g s) hbz hT
 have HR0:=hid hr0;have HV0:=hid hv0;have HR1:=hid hr1;have HV1:=hid hv1;have HR2:=hid hr2;have HV2:=hid hv2;have HR3:=hid hr3;have HV3:=hid hv3;have HSZ:=hid (show(w.alloc (.cells #[.int .i64 0,.int .i64 0] 77)).heap.size=w.heap.size+1 by simp);clear hb0 hr0 hv0 hr1 hv1 hr2 hv2 hr3 hv3 hbs hbd hT hg hs
 go_enter Tryz.func31,Tryz.ntmps31
 go_wp2_with fail;refine wp_scope_labels (JT w b (Jw g s)) ?_ ?_
 ·go_wp2_with fail
  refine(PP.out _).mono ?_
  rintro e w1 h1
  obtain⟨v,er,ea,rfl,hb1,l,hl,hc1,ao,cp,rfl,hcap,hs1⟩:=h1.own'
  have R1:=hid (bk hb1 F0.out);have B1:=hid (B0.out.then hb1);have L1:=hid hl;have HA2:=hid (bal w1 (.cells #[.int .i64 er,.int .i64 ea] 77));have F2:=hid (heap_alloc_new w1 (.cells #[.int .i64 er,.int .i64 ea] 77));have HC1:=hid hc1;have HS1:=hid hs1;clear h1 hl hc1 hb1 hs1;go_upto_region 2 with fail;have R2:=hid (bk HA2.out R1.out);have L2:=hid (L1.out.below HA2.out);have B2:=hid (B1.out.then HA2.out);generalize w1.alloc (.cells #[.int .i64 er,.int .i64 ea] 77)=w2 at *;generalize w1.heap.size=Pb at *;clear R1 B1 L1 HA2 F0
  obtain⟨x0,x1,_,_,xl⟩:=Qq F2.out
  obtain⟨r0,r1,rf0,rf1,rlt⟩:=Qq R2.out
  rcases HC1.out with ⟨rfl,hp⟩ | ⟨hz1,hp,rfl⟩
  ·by_cases hne:l=[]
   ·subst hne;have HE:=hid (target_no (s:=s) (Or.inr hp));clear hp HC1;go_wp2_with fail;simp only [Exit.jumps];refine tgt_ret (Pb:=w.heap.size) (e:=2) (a:=0) ?_ rfl rfl rfl ⟨?_,Or.inr ⟨2,0,HE.out,by decide,rfl⟩⟩
    ·exact Kv _ _ R2.out
    ·exact Xd _ _ B2.out (Nat.le_refl _)
   ·obtain⟨y,up,hyl⟩:∃ y up,l=y::up:=by
     cases l with
     | nil=>exact absurd rfl hne
     | cons y up=>exact⟨y,up,rfl⟩
    have HE:=hid (show Jw g s=goC (0==0) l (b.data.toList.drop 0) by rw [List.drop_zero,HBD.out,hyl];exact target_go (by rw [← hyl];exact hp));have HP:=hid hp;have HL:=hid (Zd hp);have hlz:((l.length:Int)==0)=false:=beq_eq_false_iff_ne.2 (by have:=List.length_pos_iff.2 hne;omega);have hlz2:l.length≠0:=by have:=List.length_pos_iff.2 hne;omega
    obtain⟨zs,hzl,hown,heach,hdis⟩:=L2.out
    have HZL:=hid hzl;have HOWN:=hid hown;have HEACH:=hid heach;clear hyl hp hne hzl hown heach hdis L2 HC1;have HA3:=hid (bal w2 (.cells (asc b 0) 127));have F3:=hid (heap_alloc_new w2 (.cells (asc b 0) 127));have HZ3:=hid (show(w2.alloc (.cells (asc b 0) 127)).heap.size=w2.heap.size+1 by simp);have HA4:=hid (show Below (w2.alloc (.cells (asc b 0) 127)).heap.size (w2.alloc (.cells (asc b 0) 127)) ((w2.alloc (.cells (asc b 0) 127)).alloc (.cells #[.string ⟨#[]⟩,.slice none 0 0] 106)) from bal _ _);have F4:=hid (heap_alloc_new (w2.alloc (.cells (asc b 0) 127)) (.cells #[.string ⟨#[]⟩,.slice none 0 0] 106));have TM:=hid (show TgM w ((w2.alloc (.cells (asc b 0) 127)).alloc (.cells #[.string ⟨#[]⟩,.slice none 0 0] 106)) b w2.heap.size (w2.alloc (.cells (asc b 0) 127)).heap.size 0 (.slice ao l.length cp) zs from by
     have hb24:=HA3.out.then HA4.out;have hsz:w.heap.size≤w2.heap.size:=B2.out.size
     refine⟨bk hb24 R2.out,bk HA4.out F3.out,⟨_,_,F4.out⟩,Qf.mono (HOWN.out.below hb24) (by rw [HSZ.out];exact Nat.le_succ _),fun z hz=>ownP_monoS (Qz (HEACH.out z hz) hb24) (by rw [HSZ.out];exact Nat.le_succ _),B2.out.then hb24,hsz,by rw [HZ3.out];exact Nat.le_succ_of_le hsz,?_,fun z hz=>?_,Nat.zero_le _,?_⟩
     ·intro e
      have:=(World.ownsRow.lt HOWN.out _ e).2
      rw [HZ3.out] at this
      omega
     ·have hm:z.1∈l:=by rw [← HZL.out];exact List.mem_map_of_mem hz
      refine⟨List.all_eq_true.1 HL.out.1 _ hm,?_⟩
      have:=text_len HP.out hm
      omega
     ·have h1:zs.length=l.length:=by rw [← HZL.out,List.length_map]
      have:=HL.out.2.2.1
      omega)
    go_wp2_with fail
    go_step3
    rename_i K hK
    refine hK _ _ ?_;have TM2:=TM.out;rw [HZ3.out] at TM2;refine wp_sameS (HV1.out (4 * b.size+3) _ _ ⟨w2.heap.size,w2.heap.size+1,0,.slice ao l.length cp,0,zs,⟨rfl,rfl,rfl,rfl,rfl,rfl,rfl⟩,TM2,?_,Nat.le_refl _,by omega⟩ _ ?_) (HR1.out.symm.trans rfl)
    ·rw [HE.out,stps,HZL.out]
    ·exact fun l' n' a' w' hlt hj=>⟨n',hj⟩
  ·have HE:=hid (target_no (s:=s) (Or.inl hp));have hz2:((er:Int)==0)=false:=beq_eq_false_iff_ne.2 (by omega);have hz3:((er:Int) != 0)=true:=by rw [bne,hz2];rfl
   clear hp HC1;go_wp2_with fail;simp only [Exit.jumps];refine tgt_ret (Pb:=w.heap.size) (e:=2) (a:=0) ?_ rfl rfl rfl ⟨?_,Or.inr ⟨2,0,HE.out,by decide,rfl⟩⟩
   ·exact Kv _ _ R2.out
   ·exact Xd _ _ B2.out (Nat.le_refl _)
 ·intro l n a W hJ
  match l,hJ with
  | 0,hJ=>exact⟨.seq .skip rest0,HR0.out,wp_skip_seqS (HV0.out n a W hJ _)⟩
  | 1,hJ=>exact⟨.seq .skip rest1,HR1.out,wp_skip_seqS (HV1.out n a W hJ _ (fun l' n' a' w' hlt hj=>⟨n',hlt,hj⟩))⟩
  | 2,hJ=>exact⟨.seq .skip rest2,HR2.out,wp_skip_seqS (HV2.out n a W hJ _ (fun l' n' a' w' hlt hj=>⟨n',hlt,hj⟩))⟩
  | 3,hJ=>exact⟨.seq .skip rest3,HR3.out,wp_skip_seqS (HV3.out n a W hJ _ (fun l' n' a' w' hlt hj=>⟨n',hlt,hj⟩))⟩
  | l+4,hJ=>exact hJ.elim
end
section
open Go.Lib
def tgtsF:List (Str×Str)→List Al→(List Al) ⊕ (Nat×Str)
 | [],out=>.inl out
 | g::r,out=>match Jw g.1 g.2 with
  | .inl t=>tgtsF r (out++[(g.1,t)])
  | .inr e=>.inr (e,g.1)
def wrgAt (e:Nat)(r:Option Rw):Wrg:=⟨e,rFile r,rAt r⟩
inductive New14 (t:Tb):Wrg→Option Rsv→Prop
 | par {e i:Nat}:NewOut (Xt t) e i→e≠0→New14 t (wrgAt e (Qy t.rows [] ((parPs t).getD i []))) none
 | tgt {e:Nat} {g:Str}:NewOut (Xt t) 0 0→tgtsF (Xq t) []=.inr (e,g)→New14 t (wrgAt e (Qy t.als Qv g)) none
 | als {A:List Al} {e i:Nat}:NewOut (Xt t) 0 0→tgtsF (Xq t) []=.inl A→AlOut A e i→e≠0→New14 t (wrgAt e (Qy t.als Qv ((A.map (·.1)).getD i []))) none
 | lng {A:List Al} {K:List Str}:NewOut (Xt t) 0 0→tgtsF (Xq t) []=.inl A→AlOut A 0 0→KnownOut A (basePs t) false K→New14 t ⟨3,-1,0⟩ none
 | ok {A:List Al} {K:List Str}:NewOut (Xt t) 0 0→tgtsF (Xq t) []=.inl A→AlOut A 0 0→KnownOut A (basePs t) true K→New14 t ⟨0,0,0⟩ (some ⟨t,Xt t,A,K⟩)
theorem newOut_uniq {D:List (Str×Str)}{e i e' i':Nat}(h:NewOut D e i)(g:NewOut D e' i'):e=e'∧i=i':=by
 rcases h with h | ⟨h1,rfl,⟨p,h2,h3⟩,h4⟩ | ⟨h1,rfl,rfl,h2⟩
 ·rcases g with g | ⟨g,_⟩ | ⟨g,_⟩
  ·rw [h] at g;cases g;exact⟨rfl,rfl⟩
  ·rw [h] at g;cases g
  ·rw [h] at g;cases g
 ·rcases g with g | ⟨_,rfl,⟨q,g2,g3⟩,g4⟩ | ⟨_,rfl,rfl,g2⟩
  ·rw [h1] at g;cases g
  ·refine⟨rfl,?_⟩
   rcases Nat.lt_trichotomy i i' with hlt | rfl | hlt
   ·exact absurd h3 (g4 i p hlt h2)
   ·rfl
   ·exact absurd g3 (h4 i' q hlt g2)
  ·exact absurd h3 (g2 p (List.mem_of_getElem? h2))
 ·rcases g with g | ⟨_,rfl,⟨q,g2,g3⟩,g4⟩ | ⟨_,rfl,rfl,g2⟩
  ·rw [h1] at g;cases g
  ·exact absurd g3 (h2 q (List.mem_of_getElem? g2))
  ·exact⟨rfl,rfl⟩
theorem alOut_uniq {D:List Al}{e i e' i':Nat}(h:AlOut D e i)(g:AlOut D e' i'):e=e'∧i=i':=by
 rcases h with h | ⟨h1,rfl,⟨p,h2,h3⟩,h4⟩ | ⟨h1,rfl,rfl,h2⟩
 ·rcases g with g | ⟨g,_⟩ | ⟨g,_⟩
  ·rw [h] at g;cases g;exact⟨rfl,rfl⟩
  ·rw [h] at g;cases g
  ·rw [h] at g;cases g
 ·rcases g with g | ⟨_,rfl,⟨q,g2,g3⟩,g4⟩ | ⟨_,rfl,rfl,g2⟩
  ·rw [h1] at g;cases g
  ·refine⟨rfl,?_⟩
   rcases Nat.lt_trichotomy i i' with hlt | rfl | hlt
   ·exact absurd h3 (g4 i p hlt h2)
   ·rfl
   ·exact absurd g3 (h4 i' q hlt g2)
  ·exact absurd h3 (g2 p (List.mem_of_getElem? h2))
 ·rcases g with g | ⟨_,rfl,⟨q,g2,g3⟩,g4⟩ | ⟨_,rfl,rfl,g2⟩
  ·rw [h1] at g;cases g
  ·exact absurd g3 (h2 q (List.mem_of_getElem? g2))
  ·exact⟨rfl,rfl⟩
theorem new14_ok {t:Tb}{w:Wrg}{R:Rsv}(h:New14 t w (some R))(hp:∀ p∈t.paths,Qm p=true)(ht:Jq t):RsvOk R∧R.t=t∧w=⟨0,0,0⟩∧R.par=Xt t:=by
 cases h with
 | ok h1 h2 h3 h4 =>
  rcases h4 with ⟨_,h5,h6⟩ | ⟨h,_⟩
  ·exact⟨⟨h1,h3,h5,h6,hp,ht⟩,rfl,rfl,rfl⟩
  ·cases h
end
section
open Go.RowKit Go.Lib Go.Maps
structure NwM (C:Nat)(w W:World)(Bt:Nat)(t:Tb)(rb km:Nat)(c1 c2:Value):Prop where
 wb:W.heap[w.heap.size]?=some (.cells #[.int .i64 0,.int .i64 0,.int .i64 0] 26 (0,0))
 rs:W.heap[rb]?=some (.cells #[.pointer (some ⟨Bt,0,none⟩),c1,c2,.map (some km)] 64 (0,0))
 mp:Zh elBo W km 0 (Jb [])
 tb:TbP C W Bt t
 bel:Below w.heap.size w W
 lr:w.heap.size<rb
 lk:w.heap.size<km
section
variable {C Bt rb km : Nat} {w W W' : World} {t : Tb} {c1 c2 : Value}
theorem NwM.below (h:NwM C w W Bt t rb km c1 c2)(hb:Below W.heap.size W W'):NwM C w W' Bt t rb km c1 c2 :=
 ⟨bk hb h.wb,bk hb h.rs,h.mp.below hb,h.tb.below hb,h.bel.then hb,h.lr,h.lk⟩
theorem NwM.set1 (hT:TbP C w Bt t)(h:NwM C w W Bt t rb km c1 c2)(u:Value):NwM C w (W.setCell ⟨rb,1,none⟩ u) Bt t rb km u c2:=by
 have hkr:km≠rb:=fun e=>by
  obtain⟨es,ck,h2⟩:=h.mp.isMap
  rw [e,h.rs] at h2;cases h2
 have hb:=h.bel.setCell (p:=⟨rb,1,none⟩) (Nat.le_of_lt h.lr) u
 exact⟨(heap_setCell_other _ _ _ _ (Nat.ne_of_lt h.lr)).trans h.wb,by rw [heap_setCell_same _ _ _ _ _ _ h.rs];simp,h.mp.block (heap_setCell_other _ _ _ _ hkr),hT.below hb,hb,h.lr,h.lk⟩
theorem NwM.set2 (hT:TbP C w Bt t)(h:NwM C w W Bt t rb km c1 c2)(u:Value):NwM C w (W.setCell ⟨rb,2,none⟩ u) Bt t rb km c1 u:=by
 have hkr:km≠rb:=fun e=>by
  obtain⟨es,ck,h2⟩:=h.mp.isMap
  rw [e,h.rs] at h2;cases h2
 have hb:=h.bel.setCell (p:=⟨rb,2,none⟩) (Nat.le_of_lt h.lr) u
 exact⟨(heap_setCell_other _ _ _ _ (Nat.ne_of_lt h.lr)).trans h.wb,by rw [heap_setCell_same _ _ _ _ _ _ h.rs];simp,h.mp.block (heap_setCell_other _ _ _ _ hkr),hT.below hb,hb,h.lr,h.lk⟩
theorem NwM.start (hT:TbP C w Bt t):NwM C w (((w.alloc (.cells #[.int .i64 0,.int .i64 0,.int .i64 0] 26)).alloc (.map #[] 0)).alloc (.cells #[.pointer (some ⟨Bt,0,none⟩),.pointer none,.pointer none,.map (some (w.heap.size+1))] 64)) Bt t (w.heap.size+1+1) (w.heap.size+1) (.pointer none) (.pointer none):=by
 have b1:Below w.heap.size w (w.alloc (.cells #[.int .i64 0,.int .i64 0,.int .i64 0] 26)):=bal _ _;have z1:(w.alloc (.cells #[.int .i64 0,.int .i64 0,.int .i64 0] 26)).heap.size=w.heap.size+1:=by simp
 have f1:=heap_alloc_new w (.cells #[.int .i64 0,.int .i64 0,.int .i64 0] 26);generalize w.alloc (.cells #[.int .i64 0,.int .i64 0,.int .i64 0] 26)=w1 at *;have b2:Below w1.heap.size w1 (w1.alloc (.map #[] 0)):=bal _ _;have m2:=Zh.made elBo w1;have z2:(w1.alloc (.map #[] 0)).heap.size=w.heap.size+1+1:=by simp [z1]
 have f2:=bk b2 f1;rw [z1] at m2;have b12:=b1.then b2;generalize w1.alloc (.map #[] 0)=w2 at *;have b3:Below w2.heap.size w2 (w2.alloc (.cells #[.pointer (some ⟨Bt,0,none⟩),.pointer none,.pointer none,.map (some (w.heap.size+1))] 64)):=bal _ _;have f3:=heap_alloc_new w2 (.cells #[.pointer (some ⟨Bt,0,none⟩),.pointer none,.pointer none,.map (some (w.heap.size+1))] 64);rw [z2] at f3;have b:=b12.then b3
 exact⟨bk b3 f2,f3,m2.below b3,hT.below b,b,by omega,by omega⟩
theorem alAt_grown {B n:Nat}{L:List (Str×Bool)}{v:Value}{D:List Al}(h:AlAt B W v D)(hm:Zh elBo W km n L)(g:W.grownBy W' (some km)):AlAt B W' v D:=by
 obtain⟨b,kv,h1,h2,h3,h4⟩:=h
 exact⟨b,kv,h1,h2,Kd h3 hm g,World.ownsRow.kept h4 g (own_map h4 hm)⟩
theorem ChAt.set {B x i:Nat}{v u:Value}{D:List (Str×Str)}(h:ChAt B W v D)(hx:x<B):ChAt B (W.setCell ⟨x,i,none⟩ u) v D:=by
 obtain⟨bc,bm,n',h1,h2,h3,h4,h5⟩:=h
 exact⟨bc,bm,n',h1,h2,h3,(heap_setCell_other _ _ _ _ (by simp;omega)).trans h4,h5.block (heap_setCell_other _ _ _ _ (by simp;omega))⟩
theorem ChAt.setF {B x i:Nat}{v u:Value}{D:List (Str×Str)}{cs:Array Value}(h:ChAt B W v D)(hx:W.heap[x]?=some (.cells cs 69 (0,0))):ChAt B (W.setCell ⟨x,i,none⟩ u) v D:=by
 obtain⟨bc,bm,n',h1,h2,h3,h4,h5⟩:=h
 refine⟨bc,bm,n',h1,h2,h3,(heap_setCell_other _ _ _ _ (ne_row h4 hx (by decide))).trans h4,h5.block (heap_setCell_other _ _ _ _ ?_)⟩
 rintro rfl
 obtain⟨m,⟨es,ck,hb,_⟩,_⟩:=h5
 rw [hx] at hb;cases hb
theorem NwM.setO (hT:TbP C w Bt t)(h:NwM C w W Bt t rb km c1 c2){x i:Nat}(u:Value)(hx:w.heap.size<x)(hr:rb≠x)(hk:km≠x):NwM C w (W.setCell ⟨x,i,none⟩ u) Bt t rb km c1 c2:=by
 have hb:=h.bel.setCell (p:=⟨x,i,none⟩) (Nat.le_of_lt hx) u
 exact⟨(heap_setCell_other _ _ _ _ (Nat.ne_of_lt hx)).trans h.wb,(heap_setCell_other _ _ _ _ hr).trans h.rs,h.mp.block (heap_setCell_other _ _ _ _ hk),hT.below hb,hb,h.lr,h.lk⟩
theorem chAt_grown {B n:Nat}{L:List (Str×Bool)}{v:Value}{D:List (Str×Str)}(h:ChAt B W v D)(hk:km<B)(hm:Zh elBo W km n L)(g:W.grownBy W' (some km)):ChAt B W' v D:=by
 obtain⟨bc,bm,n',h1,h2,h3,h4,h5⟩:=h
 have h6:=Kd h4 hm g
 refine⟨bc,bm,n',h1,h2,h3,h6,h5.block (g.block _ h5.lt (fun e=>?_))⟩
 have:=Option.some.inj e
 omega
end
end
section
open Go.RowKit Go.Lib Go.Maps
theorem rnew_ret {V:World}{Pb:Nat}{v:Value}{e f a:Int}(hr:V.heap[Pb]?=some (.cells #[.int .i64 e,.int .i64 f,.int .i64 a] 26 (0,0))){Q:Ending→World→Prop}{act:Act}(hd:act.defers=[])
  (h2:act.tmps.getD 2 undef=v)(h3:act.tmps.getD 3 undef=.pointer (some ⟨Pb,0,none⟩))(hQ:Q (.returned (.tuple #[v,.agg #[.int .i64 e,.int .i64 f,.int .i64 a]])) V) :
  bodyPost Tryz.prog Tryz.f8 Q Exit.ret act V:=by
 have e0:V.cell? ⟨Pb,0,none⟩=some (.int .i64 e):=cR hr;have e1:V.cell? ⟨Pb,1,none⟩=some (.int .i64 f):=cR hr;have e2:V.cell? ⟨Pb,2,none⟩=some (.int .i64 a):=cR hr;refine bodyPost_ret (v:=.tuple #[v,.agg #[.int .i64 e,.int .i64 f,.int .i64 a]]) ?_ hd hQ
 obtain⟨tmps,defers⟩:=act
 simp only [Array.getD_eq_getD_getElem?] at h2 h3
 simp [results,Tryz.results8,go_sem,h2,h3,e0,e1,e2]
end
section
open Go.RowKit Go.Lib
theorem wpListIn_app {F:Fence}{fn:Nat}{P:Program}{w:World}{ops:Array Oper}{rest:List Oper}{o:Oper}{a:Act}{Q:Exit→Act→World→Prop}(hgd:o.guard=none)(s x:Operand)(t:TypeId)
  (ho:o.op=.call { callee:=.builtin .append,args:=#[s,x],argTypes:=#[t,t] })
  (base:Nat)(e:TypeId)(i:TypeInfo)(z:Value)(size bytes:Nat)(ht:P.underlying t=some (.slice e))(hi:P.info? e=some i)(hz:i.zero=some z)
  (hsize:i.size=size)(hby:i.bytes=bytes)(hzs:z.cells.size=size)(hsz:0<size)
  (v:Value)(n:Nat)(xs:List Value)(hs:a.eval s=v)(hown:w.ownsRow base e size v n xs)
  (ad:Addr)(m c:Nat)(news:List Value)(hx:a.eval x=.slice (some ad) m c)(hl:news.length=m * size)(hnews:∀ j u,news[j]?=some u→w.cell? (ad.add j)=some u)(h1:∀ u∈news,u.oneCell'=true)
  (h63:n+m≤maxLen)(hbytes:(n+m) * bytes≤140737488355328)(hbase:base≤w.heap.size)
  (h:∀ v' w',w'.ownsRow base e size v' (n+m) (xs++news)→w.grownBy w' v.ownBlock→Moved w v v'→wpListIn F fn P ops Q rest (a.put o.dst v') w'):wpListIn F fn P ops Q (o::rest) a w:=by
 refine wpListIn_plain hgd fun K hK'=>?_
 obtain⟨v',w',hrun,r1,r2,r3⟩:=run_app (P:=P) w base t o.type e i z size bytes ht hi hz hsize hby hzs hsz v n xs hown ad m c news hl hnews h1 h63 hbytes hbase
 unfold Oper.wpIn
 refine⟨?_,?_⟩
 ·simp [Oper.about,ho,resolve,Target.leads,Sem.run_pure]
 ·rw [Oper.semAt_plain F _ _ (by rw [ho];intro c hc';cases hc')]
  simp [execOp,ho,resolve,invoke,builtin,hs,hx,hrun,Result.andThen]
  exact hK' _ _ (h v' w' r1 r2 r3)
theorem wpListIn_pushS {F:Fence}{fn:Nat}{w:World}{ops:Array Oper}{rest:List Oper}{o:Oper}{a:Act}{Q:Exit→Act→World→Prop}(hgd:o.guard=none)(s x:Operand)
  (ho:o.op=.call { callee:=.builtin .append,args:=#[s,x],argTypes:=#[36,36] })
  (B:Nat)(v:Value)(l:List Str)(y:Str)(hs:a.eval s=v)(hown:Qg w B v l)(hx:a.eval x=.slice (some ⟨w.heap.size,0,none⟩) 1 1)(hl:l.length≤1000000)(hB:B≤w.heap.size)
  (h:∀ v' w',Qg w' B v' (l++[y])→w.grownBy w' v.ownBlock→Moved w v v'→wpListIn F fn Tryz.prog ops Q rest (a.put o.dst v') w') :
  wpListIn F fn Tryz.prog ops Q (o::rest) a (w.alloc (.cells #[.string ⟨y.toArray⟩] 9)):=by
 obtain⟨i0,hi,hz0,hz1,hz2⟩:=info_parts infoS
 refine wpListIn_app hgd s x 36 ho B 9 i0 (.string ⟨#[]⟩) 1 16 Tryz.underlying36 hi hz0 hz1 hz2 rfl (by decide) v l.length (l.map S) hs (World.ownsRow.alloc hown _) ⟨w.heap.size,0,none⟩ 1 1 [.string ⟨y.toArray⟩] hx rfl (cell_one_new _ _ _) (fun u hu=>by simp at hu;subst hu;rfl) (by unfold maxLen;omega) (by omega) (by simp;omega) ?_;intro v' w' own gr mv;refine h v' w' (Xn own (by simp) (by simp [S])) ⟨gr.os,gr.tape,gr.output,Nat.le_trans (by simp) gr.size,fun k hk hne=>?_⟩ ?_
 ·rw [gr.block k (by simp;omega) hne];exact heap_alloc_old _ _ hk
 ·rcases mv with m | ⟨k,h1,h2⟩
  ·exact Or.inl m
  ·exact Or.inr ⟨k,h1,by simp at h2;omega⟩
end
section
open Go.RowKit Go.Lib Go.Sort Go.Maps Go.WideMaps Go.Shelf
theorem back_any (v:Value)(w:World)(hv:∃ a n c,v=.slice a n c) :
  Calls Tryz.prog 48 #[v] w fun e w'=>e=.returned (.func (.func 90) #[] #[.pointer (some ⟨w.heap.size,0,none⟩)])∧w'=w.alloc (.cells #[v] 99):=by
 obtain⟨a,n,c,rfl⟩:=hv
 go_enter Tryz.func48,Tryz.ntmps48
 go_wp2_with fail;exact bodyPost_ret (v:=.func (.func 90) #[] #[.pointer (some ⟨w.heap.size,0,none⟩)]) (by simp [results,Tryz.results48,go_sem]) rfl ⟨rfl,rfl⟩
abbrev Zst:=Stp×(Option Addr×Nat)
def stD:Zst:=(([],[]),(none,0))
def stV (z:Zst):Value:=.agg #[.string ⟨z.1.1.toArray⟩,Qt z]
def backL (m:Nat):List Nat:=(List.range m).reverse
theorem backL_len (m:Nat):(backL m).length=m:=by simp [backL]
theorem backL_take {m k:Nat}(h:k<m):(backL m).take (m - (k+1))++[k]=(backL m).take (m - k):=by
 have e:m - k=(m - (k+1))+1:=by omega
 have hl:m - (k+1)<(backL m).length:=by rw [backL_len];omega
 rw [e,List.take_succ_eq_append_getElem hl]
 congr 1
 simp [backL,List.getElem_reverse]
 omega
theorem back1_goes (n:Nat)(hn:1≤n)(b0 c:Nat)(a:Option Addr)(zs:List Zst)(w:World)(h0:w.heap[b0]?=some (.cells #[.slice a zs.length c] 99 (0,0)))(hl:RdL Xf w (.slice a zs.length c) zs)(hz:zs.length≤1000) :
  SeqStopsK Fence.wide n Tryz.prog 90 #[.pointer (some ⟨b0,0,none⟩)] (fun x:Nat=>#[.int .i64 x,stV (zs.getD x stD)]) (KpB w.heap.size w.heap.size)
   (fun xs=>xs=backL zs.length) (fun pre=>pre <+: backL zs.length) zs.length w:=fun l J Jx W hW hJ _ hY hJ0=>by
 have BX:=hid (fun(V:World) (hk:KpB w.heap.size w.heap.size w V)=>(show V.cell? ⟨b0,0,none⟩=some (.slice a zs.length c)∧b0<V.heap.size∧∀ k (hk:k<zs.length),∃ p o,a=some ⟨p,o,none⟩∧p<V.heap.size∧V.cell? ⟨p,o+k * 2,none⟩=some (.string ⟨(zs[k]'hk).1.1.toArray⟩)∧V.cell? ⟨p,o+k * 2+1,none⟩=some (Qt (zs[k]'hk)) from by
  have hlow:∀ k,k<w.heap.size→V.heap[k]?=w.heap[k]?:=fun k h=>hk.low k h (Nat.ne_of_lt h)
  have e0:=(hlow b0 (lt_of_block h0)).trans h0
  refine⟨by rw [cell_of_row _ _ _ _ _ _ e0];rfl,lt_of_block e0,fun k hkl=>?_⟩
  obtain⟨ao,cp,e,_,hx⟩:=hl
  cases e
  obtain⟨p,o,rfl,hp,hc⟩:=hx (by intro e;rw [e] at hkl;simp at hkl)
  have hpb:=hlow p hp
  refine⟨p,o,rfl,Nat.lt_of_lt_of_le hp hk.size,?_,?_⟩
  ·have:=hc k 0 _ hkl rfl
   rw [Nat.add_zero] at this
   exact(World.cell?_of_block (w:=w) hpb).trans this
  ·exact(World.cell?_of_block (w:=w) hpb).trans (hc k 1 _ hkl rfl)))
 have KW:=hid (show KpB w.heap.size w.heap.size w W from KpB.of_below hW (Nat.le_refl _));clear h0 hl hW;have HY:=hid hY;have HJ0:=hid hJ0;have HZ:=hid hz;clear hJ hY hJ0
 obtain⟨m,hm⟩:∃ m,m=zs.length:=⟨_,rfl⟩
 obtain⟨x0,x1,_⟩:=BX.out W KW.out
 have hmi:(0:Int)≤(zs.length:Int):=by omega
 refine callsIn_of_wp Tryz.func90 rfl trivial ?_ rfl;simp only [Tryz.ntmps90,List.size_toArray,List.length_cons,List.length_nil,Nat.reduceAdd,Nat.reduceSub,Array.replicate_succ,Array.replicate_zero,List.push_toArray,List.append_toArray,List.nil_append,List.cons_append]
 gi_wp2
 clear x0 x1
 gi_loopw [3] (fun i wr=>∃ k:Nat,k≤zs.length∧i=.int .i64 ((k:Int) - 1)∧J ((backL zs.length).take (zs.length - k)) wr∧KpB w.heap.size w.heap.size w wr) (fun i _=>(intOf i+1).toNat)
 case atStart=>exact⟨zs.length,Nat.le_refl _,rfl,by simpa using HJ0.out,KW.out⟩
 case round =>
  obtain⟨k,hk,rfl,hJ2,hK2⟩:=hrel
  rename World=>w2
  have J2:=hid hJ2;have K2:=hid hK2;clear hJ2 hK2 KW HJ0
  cases k with
  | zero =>
   have HJ3:=hid (show J (backL zs.length) w2 from by
    have:=J2.out
    rw [Nat.sub_zero,List.take_of_length_le (by rw [backL_len];exact Nat.le_refl _)] at this;exact this)
   gi_wp2
   go_end0
   first | exact⟨⟨_,rfl⟩,.inl ⟨_,rfl,HJ3.out⟩⟩ | exact⟨⟨_,rfl⟩,.inl HJ3.out⟩
  | succ k =>
   have hkl:k<zs.length:=hk;have hk1:(((k+1:Nat):Int) - 1)=(k:Int):=by omega
   rw [hk1];have hk0:(0:Int)≤(k:Int):=by omega
   have hki:(k:Int)<(zs.length:Int):=by omega
   have hkb:(k:Int)≤1000:=by have:=HZ.out;omega
   obtain⟨x0,x1,hx⟩:=BX.out w2 K2.out
   obtain⟨p,o,rfl,hp,c0,c1⟩:=hx k hkl
   have HTK:=hid (backL_take hkl);have HGD:=hid (show zs.getD k stD=zs[k]'hkl by rw [List.getD_eq_getElem?_getD,List.getElem?_eq_getElem hkl];rfl);have hyy:=HY.out _ k w2 J2.out (by rw [List.length_take,backL_len];omega);simp only [HGD.out] at hyy;generalize zs[k]'hkl=z at *;clear hx;unfold Qt at c1;unfold stV Qt at hyy
   obtain⟨fn,tmps,assign,body,hy,hR⟩:=hyy
   gi_wp2
   refine hR.mono ?_;rintro e w5 (⟨rfl,hJ5,hk5⟩ | ⟨rfl,hJx5⟩)
   ·have K5:=hid (K2.out.trans hk5)
    gi_wp2
    go_roundw
    case rel=>exact⟨k,by omega,rfl,by rw [← HTK.out];exact hJ5,K5.out⟩
    case measure=>simp [intOf]
   ·gi_wp2
    refine bodyPost_ret (results_none rfl _ _ _) rfl ?_
    exact⟨⟨_,rfl⟩,.inr ⟨_,by rw [HTK.out];exact List.take_prefix _ _,hJx5⟩⟩
end
section
open Go.RowKit Go.Lib Go.Sort Go.Maps Go.WideMaps Go.Shelf
attribute [local go_sem] Oper.semAt_some
theorem keys_le (x:Stp):x.2.length≤(Zw x).length:=by
 have:∀ l:List (Str×Str),l.length≤(Kj l).length:=fun l=>by
  unfold Kj
  induction l with
  | nil=>simp
  | cons k r ih =>
   rw [List.flatMap_cons,List.length_append,List.length_cons]
   have:1≤(keyT k).length:=by unfold keyT;simp
   omega
 unfold Zw;rw [List.length_append]
 have:=this x.2
 omega
theorem idx_no {l:List (Str×Str)}{key:Str}(h:∀ k∈l,k.1≠key):idxK l key=-1:=by
 rcases idxK_cases l key with ⟨h1,_⟩ | ⟨n,hn,_,h2,_⟩
 ·exact h1
 ·exact absurd h2 (h _ (List.getElem_mem hn))
theorem stD_rd (W:World)(zs:List Zst)(h:∀ z∈zs,RdP W (Qt z) z.1.2)(x:Nat):RdP W (Qt (zs.getD x stD)) (zs.getD x stD).1.2:=by
 rw [List.getD_eq_getElem?_getD]
 cases e:zs[x]? with
 | none=>exact⟨none,0,rfl,⟨by decide,fun _=>⟨rfl,rfl⟩⟩,fun h=>absurd rfl h⟩
 | some z=>exact h z (List.mem_of_getElem? e)
end
section
section
variable {F : Fence} {n : Nat} {P : Program} {ops : Array Oper} {Q : Exit → Act → World → Prop} {md : Region.Mode}
theorem wpAnyIn_inv (I:Array Bool→Act→World→Prop)(step:∀ listed a w i,I listed a w→i∈Region.ready md ops listed→wpOpIn F n P ops Q i (fun a' w'=>I (listed.setIfInBounds i true) a' w') a w)
  (done:∀ listed a w,I listed a w→Region.ready md ops listed=[]→Q .normal a w):∀ (fuel:Nat)(listed:Array Bool)(a:Act)(w:World),I listed a w→unl ops.size listed≤fuel→wpAnyIn F n P md ops Q fuel listed a w
 | 0,listed,a,w,h,hf=>by
  have hr:Region.ready md ops listed=[]:=by
   rw [List.eq_nil_iff_forall_not_mem];intro i hi
   obtain⟨h1,oi,h2,_⟩:=mem_ready.1 hi
   have:i∈(List.range ops.size).filter fun i=>!listed.getD i true:=List.mem_filter.2 ⟨List.mem_range.2 (Array.getElem?_eq_some_iff.1 h2).1,by rw [h1];rfl⟩
   have:=List.length_pos_of_mem this
   unfold unl at hf
   omega
  exact⟨hr,done _ _ _ h hr⟩
 | fuel+1,listed,a,w,h,hf=>⟨fun hr=>done _ _ _ h hr,fun i hi=>by
  obtain⟨h1,oi,h2,_⟩:=mem_ready.1 hi
  have:=unl_set (Array.getElem?_eq_some_iff.1 h2).1 h1
  exact wpOpIn_mono (fun a' w' h'=>wpAnyIn_inv I step done fuel _ a' w' h' (by omega)) (step _ _ _ _ h hi)⟩
theorem wpIn_region_inv {id:Nat}{a:Act}{w:World}(hm:P.follows .mixedOrders=true)(hd:depsB ops=true)(ds:List Nat)(I:Array Bool→(Nat→Value)→World→Prop)(h0:∀ f0,I (Array.replicate ops.size false) f0 { w with drawn:=w.drawn+1 })
  (step:∀ listed f W i,I listed f W→listed.getD i true=false→∀ oi,ops[i]?=some oi→(∀ e∈oi.after,Region.binds .any e=true→listed.getD e.on false=true)→wpOpIn F n P ops Q i (fun a' W'=>∃ f',a'=Jg a ds f'∧I (listed.setIfInBounds i true) f' W') (Jg a ds f) W)
  (done:∀ listed f W,I listed f W→(∀ i,i<ops.size→listed.getD i true=true)→Q .normal (Jg a ds f) W):(Code.region id ops true).wpIn F n P Q a w:=by
 refine wpIn_region_any hm (wpAnyIn_inv (fun listed a' W=>(∃ f,a'=Jg a ds f∧I listed f W)∧listed.size=ops.size) ?_ ?_ ops.size _ a _ ⟨⟨_,(putF_self a ds).symm,h0 _⟩,by simp⟩ ?_)
 ·rintro listed a' W i ⟨⟨f,rfl,hI⟩,hs⟩ hi
  obtain⟨h1,oi,h2,h3⟩:=mem_ready.1 hi
  exact wpOpIn_mono (fun a' w' h=>⟨h,by simpa using hs⟩) (step listed f W i hI h1 oi h2 h3)
 ·rintro listed a' W ⟨⟨f,rfl,hI⟩,hs⟩ hr;exact done listed f W hI (ready_all hr hs hd)
 ·unfold unl;refine Nat.le_trans (List.length_filter_le _ _) ?_
  simp
theorem Xz {i:Nat}{K:Act→World→Prop}{a:Act}{w:World}{o:Oper}(h:ops[i]?=some o)(hg:o.guard=none)(hw:o.wpIn F n P a w K Q):wpOpIn F n P ops Q i K a w:=by
 unfold wpOpIn;rw [h];simp only [Region.wanted,hg,if_true];exact hw
theorem LL.no {listed:Array Bool}{i:Nat}(h:listed.getD i true=false):¬ LL listed i:=fun g=>by
 unfold LL at g;rw [h] at g
 cases g
theorem LL.size {listed:Array Bool}{i:Nat}(h:listed.getD i true=false):i<listed.size:=by
 rcases Nat.lt_or_ge i listed.size with h' | h'
 ·exact h'
 ·simp [Array.getD,Nat.not_lt.2 h'] at h
structure RgI (b c s:Nat)(vals:Nat→Value)(W0:World)(Pc Ps:World→Prop)(listed:Array Bool)(f:Nat→Value)(W:World):Prop where
 vals:∀ j,j<s→LL listed j→f (b+j)=vals j
 w0:¬ LL listed c→W=W0
 wc:LL listed c→¬ LL listed s→Pc W
 ws:LL listed s→Ps W
 sc:LL listed s→LL listed c
theorem RgI.start {b c s m:Nat}{vals:Nat→Value}{W0:World}{Pc Ps:World→Prop}{f:Nat→Value}(hc:c<m)(hs:s<m):RgI b c s vals W0 Pc Ps (Array.replicate m false) f W0 :=
 ⟨fun j hjs hj=>absurd hj (LLno (Nat.lt_trans hjs hs)),fun _=>rfl,fun h=>absurd h (LLno hc),fun h=>absurd h (LLno hs),fun h=>absurd h (LLno hs)⟩
theorem LL.other {listed:Array Bool}{i j:Nat}(hne:j≠i):LL (listed.setIfInBounds i true) j↔LL listed j :=
 ⟨fun h=>by
  rcases h.set with e | h
  ·exact absurd e hne
  ·exact h,fun h=>h.mono⟩
theorem RgI.val {b c s : Nat} {vals : Nat → Value} {W0 : World} {Pc Ps : World → Prop} {listed : Array Bool} {f : Nat → Value} {W : World} (h : RgI b c s vals W0 Pc Ps listed f W) (i : Nat) (hc : i ≠ c) (hs : i ≠ s) :
    RgI b c s vals W0 Pc Ps (listed.setIfInBounds i true) (upd f (b + i) (vals i)) W :=
  ⟨fun j hjs hj => by
    by_cases e : j = i
    · subst e; simp [upd]
    · have : b + j ≠ b + i := by omega
      simp only [upd, if_neg this]
      exact h.vals j hjs ((LL.other e).1 hj),
   fun g => h.w0 fun g' => g g'.mono, fun g1 g2 => h.wc ((LL.other (Ne.symm hc)).1 g1) fun g' => g2 g'.mono, fun g => h.ws ((LL.other (Ne.symm hs)).1 g), fun g => (h.sc ((LL.other (Ne.symm hs)).1 g)).mono⟩
theorem RgI.call {b c s : Nat} {vals : Nat → Value} {W0 : World} {Pc Ps : World → Prop} {listed : Array Bool} {f : Nat → Value} {W W' : World} (h : RgI b c s vals W0 Pc Ps listed f W) (hcs : c ≠ s) (hun : ¬ LL listed c) (hP : Pc W') (hin : c < listed.size) :
    RgI b c s vals W0 Pc Ps (listed.setIfInBounds c true) (upd f (b + c) (vals c)) W' :=
  ⟨fun j hjs hj => by
    by_cases e : j = c
    · subst e; simp [upd]
    · have : b + j ≠ b + c := by omega
      simp only [upd, if_neg this]
      exact h.vals j hjs ((LL.other e).1 hj),
   fun g => by
    refine absurd ?_ g
    unfold LL
    rw [Array.getD_eq_getD_getElem?, Array.getElem?_setIfInBounds_self_of_lt hin]; rfl, fun _ _ => hP, fun g => absurd (h.sc ((LL.other (Ne.symm hcs)).1 g)) hun, fun g => absurd (h.sc ((LL.other (Ne.symm hcs)).1 g)) hun⟩
theorem RgI.store {b c s:Nat}{vals:Nat→Value}{W0:World}{Pc Ps:World→Prop}{listed:Array Bool}{f:Nat→Value}{W W':World}(h:RgI b c s vals W0 Pc Ps listed f W)(hcs:c≠s)(hc:LL listed c)(hP:Ps W')(hin:s<listed.size) :
  RgI b c s vals W0 Pc Ps (listed.setIfInBounds s true) f W' :=
 ⟨fun j hjs hj=>h.vals j hjs ((LL.other (Nat.ne_of_lt hjs)).1 hj),fun g=>absurd hc.mono g,fun _ g2=>by
  refine absurd ?_ g2;unfold LL;rw [Array.getD_eq_getD_getElem?,Array.getElem?_setIfInBounds_self_of_lt hin];rfl,fun _=>hP,fun _=>hc.mono⟩
end
end
end Go.Proofs.YtbbmdbolkicpcaaGreatDoor
