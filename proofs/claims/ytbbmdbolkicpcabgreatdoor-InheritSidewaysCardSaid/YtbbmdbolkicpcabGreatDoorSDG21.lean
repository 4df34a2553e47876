/- RPut, TextL, RSide, RSideB -/
import Derived.Test.YtbbmdbolkicpcabGreatDoorSDG12
import Derived.Test.YtbbmdbolkicpcabGreatDoorSDG11
import Derived.Test.YtbbmdbolkicpcabGreatDoorSDG20
import Derived.Deep.CutRange
set_option maxRecDepth 100000
set_option maxHeartbeats 32000000
set_option linter.unusedVariables false
set_option linter.unusedSimpArgs false
namespace Go.Proofs.YtbbmdbolkicpcabGreatDoor
section
open Go.RowKit Go.Lib
theorem Xrz {V:World}{Rb:Nat}{a0 a1:Value}(hr:V.heap[Rb]?=some (.cells #[a0,a1] 82 (0,0))){Q:Ending→World→Prop}{a:Act}(hd:a.defers=[])
  (h2:a.tmps.getD 6 undef=.pointer (some ⟨Rb,0,none⟩))(hQ:Q (.returned (.agg #[a0,a1])) V) :
  bodyPost Tryz.prog Tryz.f34 Q Exit.ret a V:=by
 obtain⟨e0,e1,_,_,_⟩:=Qq hr
 refine bodyPost_ret (v:=.agg #[a0,a1]) ?_ hd hQ
 obtain⟨tmps,defers⟩:=a
 simp only[Array.getD_eq_getD_getElem?]at h2
 simp[results,Tryz.results34,go_sem,h2,e0,e1]
theorem ins_step {key v:Str}{dn:Bool}{ks acc:List (Str×Str)}{m:Nat}(hm:m<ks.length)(h:acc++Yq key v dn (ks.drop m)=Yq key v false ks) :
  acc++((if dn=false∧¬(ks[m]'hm).1<key then [(key,v)]else [])++(if(ks[m]'hm).1=key then []else [ks[m]'hm]))++Yq key v (dn||!decide ((ks[m]'hm).1<key)) (ks.drop (m+1))=Yq key v false ks:=by
 rw[←h,List.drop_eq_getElem_cons hm,ins_go];simp only[List.append_assoc]
def PutOut (w:World)(n:Str)(ks:List (Str×Str))(e:Ending)(w':World):Prop:=∃a c,e=.returned (.agg #[.string ⟨n.toArray⟩,.slice a ks.length c])∧Qd w' w.heap.size (.slice a ks.length c) ks∧Below w.heap.size w w'
theorem rput_any (w:World)(n key val:Str)(ks:List (Str×Str))(kv:Value)(hr:RdP w kv ks)(hz:ks.length≤100000) :
  Calls Tryz.prog 34 #[.agg #[.string ⟨n.toArray⟩,kv],.string ⟨key.toArray⟩,.string ⟨val.toArray⟩] w fun e w'=>PutOut w n (Yq key val false ks) e w':=by
 obtain⟨ao,cp,rfl,h63,hcell⟩:=Xm hr
 have HCELL:=hid hcell;have HZ:=hid hz;have HB1:=hid (bal w (.cells #[.string ⟨n.toArray⟩,.slice ao ks.length cp] 82));have F1:=hid (heap_alloc_new w (.cells #[.string ⟨n.toArray⟩,.slice ao ks.length cp] 82));clear hr hcell hz
 go_enter Tryz.func34,Tryz.ntmps34
 go_upto_region 1 with fail;have HZ1:=hid (show(w.alloc (.cells #[.string ⟨n.toArray⟩,.slice ao ks.length cp] 82)).heap.size=w.heap.size+1 by simp);generalize w.alloc (.cells #[.string ⟨n.toArray⟩,.slice ao ks.length cp] 82)=w1 at *;have HB2:=hid (show Below w.heap.size w (w1.alloc (.cells #[.string ⟨#[]⟩,.slice none 0 0] 82))from HB1.out.alloc HB1.out.size _);have F2:=hid ((Below.heap_alloc w1 (.cells #[.string ⟨#[]⟩,.slice none 0 0] 82) _ (lt_of_block F1.out)).trans F1.out);have R2:=hid (show(w1.alloc (.cells #[.string ⟨#[]⟩,.slice none 0 0] 82)).heap[w.heap.size+1]?=some (.cells #[.string ⟨#[]⟩,.slice none 0 0] 82 (0,0))from by have h:=heap_alloc_new w1 (.cells #[.string ⟨#[]⟩,.slice none 0 0] 82);rwa [HZ1.out]at h);generalize w1.alloc (.cells #[.string ⟨#[]⟩,.slice none 0 0] 82)=w2 at *
 obtain⟨s0,s1,_,_,sl⟩:=Qq F2.out
 have HB3:=hid (show Below w.heap.size w (w2.alloc (.cells #[.string ⟨n.toArray⟩,.slice none 0 0] 82))from HB2.out.alloc HB2.out.size _);have F3:=hid ((Below.heap_alloc w2 (.cells #[.string ⟨n.toArray⟩,.slice none 0 0] 82) _ (lt_of_block F2.out)).trans F2.out);have R3:=hid ((Below.heap_alloc w2 (.cells #[.string ⟨n.toArray⟩,.slice none 0 0] 82) _ (lt_of_block R2.out)).trans R2.out);have O3:=hid (heap_alloc_new w2 (.cells #[.string ⟨n.toArray⟩,.slice none 0 0] 82));have HRO:=hid (show w.heap.size+1<w2.heap.size from lt_of_block R2.out);go_upto_region 2 with fail;generalize w2.alloc (.cells #[.string ⟨n.toArray⟩,.slice none 0 0] 82)=w3 at *;clear s0 s1 sl HB1 HB2 F1 F2 R2 HZ1;generalize w2.heap.size=Ob at *;have HO3:=hid (lt_of_block O3.out)
 obtain⟨s0,s1,_,_,sl⟩:=Qq F3.out
 go_wp2_with fail
 go_loopg[8,17] ks.length (fun g v8 v17 W=>∃(m:Nat) (dn:Bool) (u:Value) (acc:List (Str×Str)),m≤ks.length∧ks.length≤m+g∧v8=.bool dn∧v17=.int .i64 m∧W.heap[Ob]?=some (.cells #[.string ⟨n.toArray⟩,u] 82 (0,0))∧Qd W w3.heap.size u acc∧Qf Ob w3 W∧acc++Yq key val dn (ks.drop m)=Yq key val false ks∧acc.length≤2 * m)
 case atStart=>exact⟨0,false,_,[],Nat.zero_le _,by omega,rfl,rfl,O3.out,⟨rfl,Or.inl ⟨rfl,rfl⟩⟩,Qf.refl _ _,rfl,Nat.le_refl _⟩
 case round =>
  obtain⟨m,dn,u,acc,hm,hg,rfl,rfl,hrow,hou,hon,hdn,hdl⟩:=hrel
  rename World=>w4
  have HG:=hid hg;have HDN:=hid hdn;have HDL:=hid hdl;have O4:=hid hrow;have OU4:=hid hou;have ON4:=hid hon;have B4:=hid (HB3.out.grown hon HB3.out.size (fun k hk=>by cases hk;have:=HRO.out;omega));have R4:=hid ((hon.block _ (lt_of_block R3.out) (fun e=>by have h:=Option.some.inj e;have:=HRO.out;omega)).trans R3.out);clear hg hdn hdl hrow hou hon O3 s0 s1 sl
  obtain⟨au,cu,rfl⟩:=Zx OU4.out
  have UGE:=hid (fun k (e:(Value.slice au acc.length cu).ownBlock=some k)=>(World.ownsRow.lt OU4.out k e).1);have UNE:=hid (show(Value.slice au acc.length cu).ownBlock≠some Ob from fun e=>by have h1:=UGE.out _ e;have h2:=HO3.out;omega)
  by_cases hlt:m<ks.length
  ·have hni:(m:Int)<(ks.length:Int):=by omega
   have hn0:(0:Int)≤(m:Int):=by omega
   have hnz:(ks.length:Int)≤100000:=by have:=HZ.out;omega
   obtain⟨p,o,rfl,hp,q0,q1⟩:=HCELL.out m hlt
   have r0:=(B4.out.cell (p:=⟨p,o+m * 2,none⟩) hp).trans q0;have r1:=(B4.out.cell (p:=⟨p,o+m * 2+1,none⟩) hp).trans q1;have hp2:p<w4.heap.size:=Nat.lt_of_lt_of_le hp B4.out.size;have HST:=hid (ins_step hlt HDN.out);clear q0 q1;generalize ks[m]'hlt=kx at *
   obtain⟨ky,v⟩:=kx
   simp only at r0 r1 HST;have HA5:=hid (bal w4 (.cells #[.string ⟨ky.toArray⟩,.string ⟨v.toArray⟩] 37));have X5:=hid (heap_alloc_new w4 (.cells #[.string ⟨ky.toArray⟩,.string ⟨v.toArray⟩] 37));go_upto_region 6 with fail;generalize w4.alloc (.cells #[.string ⟨ky.toArray⟩,.string ⟨v.toArray⟩] 37)=w5 at *;have O5:=hid (bk HA5.out O4.out);have OU5:=hid (show Qd w5 w3.heap.size _ acc from Qz OU4.out HA5.out);have ON5:=hid (ON4.out.below HA5.out);have HBZ5:=hid ON5.out.size;have HXO:=hid (show w3.heap.size≤w4.heap.size from ON4.out.size);have HXU:=hid (show(Value.slice au acc.length cu).ownBlock≠some w4.heap.size from fun e=>Nat.lt_irrefl _ (World.ownsRow.lt OU4.out _ e).2);clear r0 r1 hp2 O4 OU4 ON4 HA5 R4 B4;generalize w4.heap.size=Xb at *;have HXN:=hid (show Xb≠Ob from by have:=HXO.out;have:=HO3.out;omega)
   obtain⟨x0,x1,xf0,xf1,xl⟩:=Qq X5.out
   obtain⟨d0,d1,df0,df1,dl⟩:=Qq O5.out
   cases dn with
   |true =>
    by_cases he:ky=key
    ·have hs1:(ky != key)=false:=by rw[he];simp
     have hs2:(ky==key)=true:=by rw[he];simp
     have HST2:=hid (show acc++Yq key val true (ks.drop (m+1))=Yq key val false ks from by have h:=HST.out;simpa[he]using h);clear he;go_wp2_with fail
     go_roundg (gk-1)
     case measure=>have:=HG.out;omega
     case rel=>exact⟨m+1,true,_,acc,by omega,by have:=HG.out;omega,rfl,by simp,O5.out,OU5.out,ON5.out,HST2.out,by have:=HDL.out;omega⟩
    ·have hs1:(ky != key)=true:=bne_iff_ne.2 he;have hs2:(ky==key)=false:=beq_eq_false_iff_ne.2 he;have HST2:=hid (show(acc++[(ky,v)])++Yq key val true (ks.drop (m+1))=Yq key val false ks from by have h:=HST.out;simpa[he]using h);clear he
     go_wp2_with (at_builtin;refine Xc rfl (.tmp 42) (.tmp 44) rfl w3.heap.size _ acc (ky,v) rfl OU5.out rfl (by have:=HDL.out;have:=HZ.out;omega) HBZ5.out ?_;intro v8 w8 own8 gr8 mv8;obtain⟨a8,c8,rfl⟩:=Zx own8;have O8:=hid ((gr8.block _ (lt_of_block O5.out) (fun e=>UNE.out e.symm)).trans O5.out);have OU8:=hid own8;have ON8:=hid (Gp ON5.out gr8 UGE.out);clear own8 gr8 mv8 d0 d1 df0 df1 dl;obtain⟨d0,d1,df0,df1,dl⟩:=Qq O8.out)
     go_roundg (gk-1)
     case measure=>have:=HG.out;omega
     case rel =>
      have o8:=OU8.out;simp only[List.length_append,List.length_cons,List.length_nil,Nat.zero_add]at o8
      exact⟨m+1,true,.slice a8 (acc.length+1) c8,acc++[(ky,v)],by omega,by have:=HG.out;omega,rfl,by simp,by rw[heap_setCell_same _ _ _ _ _ _ O8.out];simp,Qb o8 (Qx o8 O8.out (by decide)) 1 _,ON8.out.set _ _,HST2.out,by have:=HDL.out;simp;omega⟩
   |false =>
    by_cases hlk:ky<key
    ·have hs3:Op.bytesLess ky key=true:=by rw[Proofs.bytesLess_eq];exact decide_eq_true hlk
     have he:ky≠key:=fun e=>by rw[e]at hlk;exact List.lt_irrefl _ hlk
     have hs1:(ky != key)=true:=bne_iff_ne.2 he;have hs2:(ky==key)=false:=beq_eq_false_iff_ne.2 he;have HST2:=hid (show(acc++[(ky,v)])++Yq key val false (ks.drop (m+1))=Yq key val false ks from by have h:=HST.out;simpa[he,hlk]using h);clear he hlk
     go_wp2_with (at_builtin;refine Xc rfl (.tmp 42) (.tmp 44) rfl w3.heap.size _ acc (ky,v) rfl OU5.out rfl (by have:=HDL.out;have:=HZ.out;omega) HBZ5.out ?_;intro v8 w8 own8 gr8 mv8;obtain⟨a8,c8,rfl⟩:=Zx own8;have O8:=hid ((gr8.block _ (lt_of_block O5.out) (fun e=>UNE.out e.symm)).trans O5.out);have OU8:=hid own8;have ON8:=hid (Gp ON5.out gr8 UGE.out);clear own8 gr8 mv8 d0 d1 df0 df1 dl;obtain⟨d0,d1,df0,df1,dl⟩:=Qq O8.out)
     go_roundg (gk-1)
     case measure=>have:=HG.out;omega
     case rel =>
      have o8:=OU8.out;simp only[List.length_append,List.length_cons,List.length_nil,Nat.zero_add]at o8
      exact⟨m+1,false,.slice a8 (acc.length+1) c8,acc++[(ky,v)],by omega,by have:=HG.out;omega,rfl,by simp,by rw[heap_setCell_same _ _ _ _ _ _ O8.out];simp,Qb o8 (Qx o8 O8.out (by decide)) 1 _,ON8.out.set _ _,HST2.out,by have:=HDL.out;simp;omega⟩
    ·have hs3:Op.bytesLess ky key=false:=by rw[Proofs.bytesLess_eq];exact decide_eq_false hlk
     by_cases he:ky=key
     ·have hs1:(ky != key)=false:=by rw[he];simp
      have hs2:(ky==key)=true:=by rw[he];simp
      have HST2:=hid (show(acc++[(key,val)])++Yq key val true (ks.drop (m+1))=Yq key val false ks from by have h:=HST.out;simpa[he,List.lt_irrefl]using h);clear he hlk
      go_wp2_with (at_builtin;refine Xc rfl (.tmp 30) (.tmp 34) rfl w3.heap.size _ acc (key,val) rfl OU5.out rfl (by have:=HDL.out;have:=HZ.out;omega) HBZ5.out ?_;intro v8 w8 own8 gr8 mv8;obtain⟨a8,c8,rfl⟩:=Zx own8;have O8:=hid ((gr8.block _ (lt_of_block O5.out) (fun e=>UNE.out e.symm)).trans O5.out);have OU8:=hid own8;have ON8:=hid (Gp ON5.out gr8 UGE.out);have X8:=hid ((gr8.block _ (lt_of_block X5.out) (fun e=>HXU.out e.symm)).trans X5.out);clear x0 x1 xf0 xf1 xl;obtain⟨x0,x1,xf0,xf1,xl⟩:=Qq X8.out;clear own8 gr8 mv8 d0 d1 df0 df1 dl;obtain⟨d0,d1,df0,df1,dl⟩:=Qq O8.out)
      go_roundg (gk-1)
      case measure=>have:=HG.out;omega
      case rel =>
       have o8:=OU8.out;simp only[List.length_append,List.length_cons,List.length_nil,Nat.zero_add]at o8
       exact⟨m+1,true,.slice a8 (acc.length+1) c8,acc++[(key,val)],by omega,by have:=HG.out;omega,rfl,by simp,by rw[heap_setCell_same _ _ _ _ _ _ O8.out];simp,Qb o8 (Qx o8 O8.out (by decide)) 1 _,ON8.out.set _ _,HST2.out,by have:=HDL.out;simp;omega⟩
     ·have hs1:(ky != key)=true:=bne_iff_ne.2 he;have hs2:(ky==key)=false:=beq_eq_false_iff_ne.2 he;have HST2:=hid (show((acc++[(key,val)])++[(ky,v)])++Yq key val true (ks.drop (m+1))=Yq key val false ks from by have h:=HST.out;simpa[he,hlk]using h);clear he hlk
      go_upto_region 9 with (at_builtin;refine Xc rfl (.tmp 30) (.tmp 34) rfl w3.heap.size _ acc (key,val) rfl OU5.out rfl (by have:=HDL.out;have:=HZ.out;omega) HBZ5.out ?_;intro v8 w8 own8 gr8 mv8;obtain⟨a8,c8,rfl⟩:=Zx own8;have O8:=hid ((gr8.block _ (lt_of_block O5.out) (fun e=>UNE.out e.symm)).trans O5.out);have OU8:=hid own8;have ON8:=hid (Gp ON5.out gr8 UGE.out);have X8:=hid ((gr8.block _ (lt_of_block X5.out) (fun e=>HXU.out e.symm)).trans X5.out);clear x0 x1 xf0 xf1 xl;obtain⟨x0,x1,xf0,xf1,xl⟩:=Qq X8.out;clear own8 gr8 mv8 d0 d1 df0 df1 dl;obtain⟨d0,d1,df0,df1,dl⟩:=Qq O8.out)
      have o8:=OU8.out;simp only[List.length_append,List.length_cons,List.length_nil,Nat.zero_add]at o8 ⊢
      obtain⟨acc2,hacc2⟩:∃acc2,acc2=acc++[(key,val)]:=⟨_,rfl⟩
      have hl2:acc2.length=acc.length+1:=by rw[hacc2];simp
      rw[←hacc2]at o8 HST2;rw[←hl2]at o8 ⊢;have HAL2:=hid (show acc2.length≤2 * m+1 from by have:=HDL.out;omega);have O9:=hid (show(w8.setCell ⟨Ob,1,none⟩ (.slice a8 acc2.length c8)).heap[Ob]?=some (.cells #[.string ⟨n.toArray⟩,.slice a8 acc2.length c8] 82 (0,0))from by rw[heap_setCell_same _ _ _ _ _ _ O8.out];simp);have OU9:=hid (show Qd (w8.setCell ⟨Ob,1,none⟩ (.slice a8 acc2.length c8)) w3.heap.size (.slice a8 acc2.length c8) acc2 from Qb o8 (Qx o8 O8.out (by decide)) 1 _);have ON9:=hid (show Qf Ob w3 (w8.setCell ⟨Ob,1,none⟩ (.slice a8 acc2.length c8))from ON8.out.set _ _);have X9:=hid (show(w8.setCell ⟨Ob,1,none⟩ (.slice a8 acc2.length c8)).heap[Xb]?=some (.cells #[.string ⟨ky.toArray⟩,.string ⟨v.toArray⟩] 37 (0,0)) from(heap_setCell_other _ _ _ _ (by simp;exact fun e=>absurd e HXN.out)).trans X8.out);clear o8 hl2 hacc2 O8 OU8 ON8 X8 d0 d1 df0 df1 dl x0 x1 xf0 xf1 xl;generalize w8.setCell ⟨Ob,1,none⟩ (.slice a8 acc2.length c8)=w9 at *;have HBZ9:=hid ON9.out.size;have UGE9:=hid (fun k (e:(Value.slice a8 acc2.length c8).ownBlock=some k)=>(World.ownsRow.lt OU9.out k e).1);have UNE9:=hid (show(Value.slice a8 acc2.length c8).ownBlock≠some Ob from fun e=>by have h1:=UGE9.out _ e;have h2:=HO3.out;omega)
      obtain⟨d0,d1,df0,df1,dl⟩:=Qq O9.out
      obtain⟨x0,x1,xf0,xf1,xl⟩:=Qq X9.out
      go_wp2_with (at_builtin;refine Xc rfl (.tmp 42) (.tmp 44) rfl w3.heap.size _ acc2 (ky,v) rfl OU9.out rfl (by have:=HAL2.out;have:=HZ.out;omega) HBZ9.out ?_;intro v10 w10 own10 gr10 mv10;obtain⟨a10,c10,rfl⟩:=Zx own10;have O10:=hid ((gr10.block _ (lt_of_block O9.out) (fun e=>UNE9.out e.symm)).trans O9.out);have OU10:=hid own10;have ON10:=hid (Gp ON9.out gr10 UGE9.out);clear own10 gr10 mv10 d0 d1 df0 df1 dl;obtain⟨d0,d1,df0,df1,dl⟩:=Qq O10.out)
      go_roundg (gk-1)
      case measure=>have:=HG.out;omega
      case rel =>
       have o8:=OU10.out;simp only[List.length_append,List.length_cons,List.length_nil,Nat.zero_add]at o8
       exact⟨m+1,true,.slice a10 (acc2.length+1) c10,acc2++[(ky,v)],by omega,by have:=HG.out;omega,rfl,by simp,by rw[heap_setCell_same _ _ _ _ _ _ O10.out];simp,Qb o8 (Qx o8 O10.out (by decide)) 1 _,ON10.out.set _ _,HST2.out,by have:=HAL2.out;simp;omega⟩
  ·have hni:¬(m:Int)<(ks.length:Int):=by omega
   have HDO:=hid (show acc++Yq key val dn []=Yq key val false ks by have h:=HDN.out;rwa [List.drop_eq_nil_of_le (by omega)]at h);have HWZ:=hid HB3.out.size;have HBZ4:=hid ON4.out.size
   obtain⟨d0,d1,df0,df1,dl⟩:=Qq O4.out
   obtain⟨z0,z1,zf0,zf1,zl⟩:=Qq R4.out
   cases dn with
   |true =>
    have HD2:=hid (show Yq key val false ks=acc from by have h:=HDO.out;simpa[Yq]using h.symm);go_wp2_with fail;refine Xrz (a0:=.string ⟨n.toArray⟩) (a1:=.slice au acc.length cu) (Rb:=w.heap.size+1) ?_ rfl ?_ ?_
    ·exact Qby _ _ R4.out
    ·rfl
    ·rw[HD2.out]
     exact⟨au,cu,rfl,Ks (Qxj _ _ OU4.out (Qx OU4.out R4.out (by decide))) HWZ.out,Zr _ _ B4.out (Nat.le_succ _)⟩
   |false =>
    have HD2:=hid (show Yq key val false ks=acc++[(key,val)]from by have h:=HDO.out;simpa[Yq]using h.symm)
    go_upto_region 14 with (at_builtin;refine Xc rfl (.tmp 51) (.tmp 55) rfl w3.heap.size _ acc (key,val) rfl OU4.out rfl (by have:=HDL.out;have:=HZ.out;omega) HBZ4.out ?_;intro v8 w8 own8 gr8 mv8;obtain⟨a8,c8,rfl⟩:=Zx own8;have O8:=hid ((gr8.block _ (lt_of_block O4.out) (fun e=>UNE.out e.symm)).trans O4.out);have OU8:=hid own8;have ON8:=hid (Gp ON4.out gr8 UGE.out);have R8:=hid ((gr8.block _ (lt_of_block R4.out) (Ne.symm (Qx OU4.out R4.out (by decide)))).trans R4.out);have B8:=hid (B4.out.grown gr8 B4.out.size (fun k hk=>Nat.le_trans HWZ.out (UGE.out k hk)));clear own8 gr8 mv8 d0 d1 df0 df1 dl;obtain⟨d0,d1,df0,df1,dl⟩:=Qq O8.out)
    have o8:=OU8.out;simp only[List.length_append,List.length_cons,List.length_nil,Nat.zero_add]at o8 ⊢;have HR1:=hid (show w.heap.size+1≠Ob from by have:=HRO.out;omega);have O9:=hid (show(w8.setCell ⟨Ob,1,none⟩ (.slice a8 (acc.length+1) c8)).heap[Ob]?=some (.cells #[.string ⟨n.toArray⟩,.slice a8 (acc.length+1) c8] 82 (0,0))from by rw[heap_setCell_same _ _ _ _ _ _ O8.out];simp);have OU9:=hid (show Qd (w8.setCell ⟨Ob,1,none⟩ (.slice a8 (acc.length+1) c8)) w3.heap.size (.slice a8 (acc.length+1) c8) (acc++[(key,val)])from Qb o8 (Qx o8 O8.out (by decide)) 1 _);have B9:=hid (show Below w.heap.size w (w8.setCell ⟨Ob,1,none⟩ (.slice a8 (acc.length+1) c8))from B8.out.setCell (p:=⟨Ob,1,none⟩) (show w.heap.size≤Ob from by have:=HRO.out;omega) _);have R9:=hid (show(w8.setCell ⟨Ob,1,none⟩ (.slice a8 (acc.length+1) c8)).heap[w.heap.size+1]?=some (.cells #[.string ⟨#[]⟩,.slice none 0 0] 82 (0,0)) from(heap_setCell_other _ _ _ _ (by simp;exact fun e=>absurd e HR1.out)).trans R8.out);clear o8 O8 OU8 ON8 R8 B8 d0 d1 df0 df1 dl z0 z1 zf0 zf1 zl;generalize w8.setCell ⟨Ob,1,none⟩ (.slice a8 (acc.length+1) c8)=w9 at *
    obtain⟨d0,d1,df0,df1,dl⟩:=Qq O9.out
    obtain⟨z0,z1,zf0,zf1,zl⟩:=Qq R9.out
    go_wp2_with fail;refine Xrz (a0:=.string ⟨n.toArray⟩) (a1:=.slice a8 (acc.length+1) c8) (Rb:=w.heap.size+1) ?_ rfl ?_ ?_
    ·exact Qby _ _ R9.out
    ·rfl
    ·rw[HD2.out]
     exact⟨a8,c8,by simp,(by rw[show(acc++[(key,val)]).length=acc.length+1 by simp];exact Ks (Qxj _ _ OU9.out (Qx OU9.out R9.out (by decide))) HWZ.out),Zr _ _ B9.out (Nat.le_succ _)⟩
end
section
open Go.RowKit Go.Lib Go.Sort
def encT:Enc Str 1 where
 enc:=fun s=>[S s]
 len:=fun _=>rfl
 one:=fun x u hu=>by rw[List.mem_singleton.1 hu];rfl
theorem flat_t (l:List Str):Xd encT l=l.map S:=by
 induction l with
 |nil=>rfl
 |cons c t ih=>simp only[Xd,List.flatMap_cons]at ih ⊢;rw[ih];rfl
theorem Xbw {w:World}{B:Nat}{v:Value}{l:List Str}:Qg encT 9 w B v l↔Qt w B v l:=by
 unfold Qg Qt;rw[flat_t]
end
section
open Go.RowKit Go.Lib Go.Sort Go.Maps Go.WideMaps
theorem rp6is_any (w:World)(p:Str)(hp:p.length≤maxLen) :
  Calls Tryz.prog 30 #[.string ⟨p.toArray⟩] w fun e w'=>e=.returned (.bool (Zv p))∧Below w.heap.size w w':=by
 have PRS:=hid (Ty p w hp);clear hp
 go_enter Tryz.func30,Tryz.ntmps30
 go_wp2_with fail;refine PRS.out.mono ?_;rintro e w1 ⟨hpo,hb1⟩;have B1:=hid hb1;clear hb1 PRS
 rcases hpo with ⟨l,v,hpl,rfl,ho⟩|⟨hpn,er,a,hne,rfl⟩
 ·have HB:=hid (show Zv p=true by unfold Zv;rw[hpl];rfl);have HB2:=hid (bal w1 (.cells #[.int .i64 0,.int .i64 0] 78));have S2:=hid (heap_alloc_new w1 (.cells #[.int .i64 0,.int .i64 0] 78));clear hpl ho;go_upto_region 2 with fail;generalize w1.alloc (.cells #[.int .i64 0,.int .i64 0] 78)=w2 at *
  obtain⟨s0,s1,_,_,sl⟩:=Qq S2.out
  go_wp2_with fail;exact bodyPost_ret (v:=.bool true) (by simp[results,Tryz.results30,go_sem]) rfl ⟨by rw[HB.out],B1.out.then HB2.out⟩
 ·have HB:=hid (show Zv p=false by unfold Zv;rw[hpn];rfl);have hne':(er:Int)≠0:=by omega
  have hne2:((er:Int)==0)=false:=by rw[beq_eq_false_iff_ne];omega
  have HB2:=hid (bal w1 (.cells #[.int .i64 er,.int .i64 a] 78));have S2:=hid (heap_alloc_new w1 (.cells #[.int .i64 er,.int .i64 a] 78));clear hpn;go_upto_region 2 with fail;generalize w1.alloc (.cells #[.int .i64 er,.int .i64 a] 78)=w2 at *
  obtain⟨s0,s1,_,_,sl⟩:=Qq S2.out
  go_wp2_with fail;exact bodyPost_ret (v:=.bool false) (by simp[results,Tryz.results30,go_sem]) rfl ⟨by rw[HB.out],B1.out.then HB2.out⟩
theorem path_len' {p:Str}{l:List Stp}(h:Qy p=some l):p.length≤512:=by
 obtain⟨_,_,_,h4,h5⟩:=Zy h
 rw[h5]at h4;exact h4
theorem Xjq {p key:Str}(hp:p.length≤maxLen):(Zj p key).1.length≤maxLen:=by
 unfold Zj
 cases h:Qh p key with
 |some q =>
  unfold Qh at h
  cases hl:Qy p with
  |none=>rw[hl]at h;cases h
  |some l =>
   rw[hl,Option.bind_some]at h
   cases hw:Tz key l with
   |none=>rw[hw]at h;cases h
   |some l' =>
    rw[hw,Option.bind_some]at h
    have:=path_len' (Vs h)
    exact Nat.le_trans this (by decide)
 |none =>
  simp only
  split
  ·exact hp
  ·simp[maxLen]
end
section
open Go.RowKit Go.Lib Go.Sort Go.Maps Go.WideMaps
theorem Cq {p key q:Str}(h:Qh p key=some q):Zj p key=(q,true):=by unfold Zj;rw[h]
theorem Qtq {p key:Str}(h:Qh p key=none)(hb:Zv p=true):Zj p key=(p,false):=by unfold Zj;rw[h];simp[hb]
theorem Xjz {p:Str}(h:Zv p=true):Hz p=(p::(Qh p Vd).toList)++match Qh ((Qh p Vd).getD p) Qk with
  |none=>[]
  |some bare=>(match Cc ((Qh p Vd).getD p) with
    |some q=>if q=(Qh p Vd).getD p then []else [q]
    |none=>[])++[bare]:=by
 obtain⟨l,hl⟩:=Option.isSome_iff_exists.1 h
 unfold Hz;rw[hl]
 rfl
theorem Qzx (key:Str):∀l:List (Str×Str),(Zt (l.map fun k=>if k.1=key then(key,Xv)else k)).length≤(Zt l).length+5 * l.length
 |[]=>Nat.le_refl _
 |k::r=>by
  have ih:=Qzx key r;have kc:∀(a:Str×Str) (r:List (Str×Str)),Zt (a::r)=Ff a++Zt r:=fun a r=>by simp[Zt]
  rw[List.map_cons,kc,kc,List.length_append,List.length_append,List.length_cons]
  by_cases h:k.1=key
  ·rw[if_pos h]
   have:(Ff (key,Xv)).length≤(Ff k).length+5:=by
    obtain⟨k1,k2⟩:=k
    simp only at h;subst h;have h5:(Ql Xv).length=5:=by decide +kernel
    unfold Ff;simp only[List.length_append,List.length_cons,List.length_nil,h5]
    omega
   omega
  ·rw[if_neg h];omega
theorem Xjx {x:Stp}:(Qp (Bv Qk Xv x)).length≤(Qp x).length+5 * x.2.length:=by
 have:=Qzx Qk x.2
 unfold Qp Bv;simp only[List.length_append];exact Nat.le_trans (Nat.add_le_add_left this _) (by omega)
theorem join_set {l:List Stp}{i:Nat}(hi:i<l.length)(y:Stp):(Zk (l.set i y)).length≤szS l+(Qp y).length:=by
 have hne:l.set i y≠[]:=fun e=>by have:=congrArg List.length e;rw[List.length_set,List.length_nil]at this;omega
 have h1:=Et _ hne;have h2:szS (l.set i y)=szS (l.take i)+(((Qp y).length+1)+szS (l.drop (i+1))):=by
  rw[←Zmj hi,List.append_assoc,Cp,Cp,Cm];simp[szS]
 have h3:szS l=szS (l.take i)+(((Qp (l[i]'hi)).length+1)+szS (l.drop (i+1))):=by
  conv=>lhs;rw[←List.take_append_drop i l]
  rw[Cp,List.drop_eq_getElem_cons hi,Cm]
 omega
theorem ownS_oneK {W:World}{s:Str}{B:Nat}(hB:B≤W.heap.size):Qt (W.alloc (.cells #[.string ⟨s.toArray⟩] 9)) B (.slice (some ⟨W.heap.size,0,none⟩) 1 1) [s]:=by
 refine Xbw.1 (Qkx encT [s] (heap_alloc_new W _) rfl hB (by simp[maxLen]))
theorem rside_any (w:World)(p:Str)(hp:p.length≤maxLen) :
  Calls Tryz.prog 11 #[.string ⟨p.toArray⟩] w fun e w'=>∃v,e=.returned v∧Qt w' w.heap.size v (Hz p)∧Below w.heap.size w w':=by
 have IS:=hid (rp6is_any w p hp);have WO:=hid (fun W q key (hq:q.length≤maxLen)=>Zmk W q key hq);have HP:=hid hp;clear hp
 go_enter Tryz.func11,Tryz.ntmps11
 go_wp2_with fail;refine IS.out.mono ?_;rintro e w1 ⟨rfl,hb1⟩;have B1:=hid hb1;clear hb1 IS
 cases hpb:Zv p with
 |false =>
  have HS:=hid (Qkq hpb);clear hpb;go_wp2_with fail;exact bodyPost_ret (v:=.slice none 0 0) (by simp[results,Tryz.results11,go_sem]) rfl ⟨_,rfl,by rw[HS.out];exact⟨rfl,Or.inl ⟨rfl,rfl⟩⟩,B1.out⟩
 |true =>
  have HPB:=hid hpb;have HSE:=hid (Xjz hpb);have HW2:=hid (show Below w.heap.size w (w1.alloc (.cells #[.string ⟨p.toArray⟩] 9))from B1.out.alloc B1.out.size _);have O2:=hid (ownS_oneK (W:=w1) (s:=p) B1.out.size);clear hpb;go_upto_region 4 with fail;generalize w1.alloc (.cells #[.string ⟨p.toArray⟩] 9)=w2 at *;generalize w1.heap.size=Rb at *;have WO2:=hid (show Calls Tryz.prog 31 #[.string ⟨p.toArray⟩,.string ⟨#[97,108,116]⟩] w2 fun e w'=>e=.returned (.tuple #[.string ⟨(Zj p Vd).1.toArray⟩,.bool (Zj p Vd).2])∧Below w2.heap.size w2 w' from WO.out w2 p Vd HP.out);go_wp2_with fail;refine WO2.out.mono ?_;rintro e w3 ⟨rfl,hb3⟩;have B3:=hid (HW2.out.then hb3);have O3:=hid (Qz O2.out hb3);clear hb3 WO2 O2 HW2
  obtain⟨p1,hp1⟩:∃p1,p1=(Qh p Vd).getD p:=⟨_,rfl⟩
  obtain⟨L1,hL1⟩:∃L1,L1=p::(Qh p Vd).toList:=⟨_,rfl⟩
  rw[←hp1,←hL1]at HSE;have HL1:=hid (show L1.length≤2 by rw[hL1];cases Qh p Vd <;> simp);have HP1:=hid (show p1.length≤maxLen from by
   rw[hp1]
   cases h:Qh p Vd with
   |none=>exact HP.out
   |some q=>have:=Xjq (p:=p) (key:=Vd) HP.out;rw[Cq h]at this;exact this)
  obtain⟨wq,hwq⟩:∃x,x=(Zj p Vd).1:=⟨_,rfl⟩
  obtain⟨wk,hwk⟩:∃x,x=(Zj p Vd).2:=⟨_,rfl⟩
  rw[←hwq,←hwk];have HWQ:=hid hwq;have HWK:=hid hwk;clear hwq hwk;have HPE:=hid hp1;have HLE:=hid hL1;clear hp1 hL1
  go_upto_if 26 with fail
  go_cut[0,3]from 27 to 32 (fun v0 v3 wx=>v0=.string ⟨p1.toArray⟩∧∃a c,v3=.slice a L1.length c∧Qt wx w.heap.size (.slice a L1.length c) L1∧Below w.heap.size w wx)
  case first =>
   cases hq:Qh p Vd with
   |none =>
    obtain rfl:wk=false:=by rw[HWK.out,Qtq hq HPB.out]
    have HP2:=hid (show p1=p from by rw[HPE.out,hq];rfl);have HL2:=hid (show L1=[p]from by rw[HLE.out,hq];rfl);clear hq;go_wp2_with fail
    go_meet
    refine⟨by rw[HP2.out],?_⟩
    rw[HL2.out]
    exact⟨_,_,rfl,O3.out,B3.out⟩
   |some q =>
    obtain rfl:wk=true:=by rw[HWK.out,Cq hq]
    obtain rfl:wq=q:=by rw[HWQ.out,Cq hq]
    have HP2:=hid (show p1=wq from by rw[HPE.out,hq];rfl);have HL2:=hid (show L1=[p]++[wq]from by rw[HLE.out,hq];rfl);have HBZ:=hid B3.out.size;clear hq
    go_wp2_with (at_builtin;refine Zz rfl (.tmp 28) (.tmp 30) rfl w.heap.size _ [p] wq rfl O3.out rfl (by simp) HBZ.out ?_;intro v8 w8 own8 gr8 mv8;have O8:=hid own8;have B8:=hid (B3.out.grown gr8 B3.out.size (fun k hk=>(World.ownsRow.lt O3.out k hk).1));clear own8 gr8 mv8)
    go_meet
    obtain⟨a8,c8,rfl⟩:=Zc O8.out
    refine⟨by rw[HP2.out],?_⟩
    rw[HL2.out]
    exact⟨_,_,rfl,O8.out,B8.out⟩
  case rest =>
   obtain⟨rfl,a3,c3,rfl,o4,b4⟩:=hcut
   rename World=>w4
   have O4:=hid o4;have B4:=hid b4;have HBZ4:=hid b4.size;have WO4:=hid (show Calls Tryz.prog 31 #[.string ⟨p1.toArray⟩,.string ⟨#[99,111,117,110,116]⟩] w4 fun e w'=>e=.returned (.tuple #[.string ⟨(Zj p1 Qk).1.toArray⟩,.bool (Zj p1 Qk).2])∧Below w4.heap.size w4 w' from WO.out w4 p1 Qk HP1.out);have PRS:=hid (fun W=>Ty p1 W HP1.out);have HPB1:=hid (show Zv p1=true from by
    rw[HPE.out]
    cases hq:Qh p Vd with
    |none=>exact HPB.out
    |some q =>
     unfold Qh at hq
     cases hl:Qy p with
     |none=>rw[hl]at hq;cases hq
     |some l =>
      rw[hl,Option.bind_some]at hq
      cases hw:Tz Vd l with
      |none=>rw[hw]at hq;cases hq
      |some l'=>rw[hw,Option.bind_some]at hq;show Zv q=true;unfold Zv;rw[Vs hq];rfl)
   clear o4 b4 O3 B3 WO;go_wp2_with fail;refine WO4.out.mono ?_;rintro e w5 ⟨rfl,hb5⟩;have O5:=hid (Qz O4.out hb5);have B5:=hid (B4.out.then hb5);clear hb5 O4 B4 HBZ4 WO4
   cases hq:Qh p1 Qk with
   |none =>
    have HWT:=hid (Qtq hq HPB1.out);have HSF:=hid (show Hz p=L1 from by rw[HSE.out,hq];simp);clear hq;rw[HWT.out];go_wp2_with fail;exact bodyPost_ret (v:=.slice a3 L1.length c3) (by simp[results,Tryz.results11,go_sem]) rfl ⟨_,rfl,by rw[HSF.out];exact O5.out,B5.out⟩
   |some bare =>
    have HWT:=hid (Cq hq);have HSF:=hid (show Hz p=L1++((match Cc p1 with
     |some q=>if q=p1 then []else [q]
     |none=>[])++[bare])from by rw[HSE.out,hq])
    have HQ:=hid hq;clear hq;rw[HWT.out];go_wp2_with fail
    refine(PRS.out _).mono ?_
    rintro e w6 ⟨hpo,hb6⟩;have O6:=hid (Qz O5.out hb6);have B6:=hid (B5.out.then hb6);clear hb6 O5 B5 PRS
    rcases hpo with ⟨l,v,hpl,rfl,ho⟩|⟨hpn,_⟩
    ·obtain⟨zs,hzl,ho1,ho2,_⟩:=ho
     have HPL:=hid hpl;have HZL:=hid hzl;have HLZ:=hid (show zs.length=l.length by rw[←hzl,List.length_map]);have OL:=hid ho1;have OE:=hid ho2
     obtain⟨al,cl,rfl,hcl⟩:=ho1.slice
     rw[HLZ.out]at OL hcl ⊢;have HL64:=hid (show l.length≤64 from(Zy hpl).2.2.1);have HCL:=hid hcl;clear ho1 ho2 hzl hpl hcl;have HB7:=hid (bal w6 (.cells #[.int .i64 0,.int .i64 0] 78));go_upto_region 12 with fail;generalize w6.alloc (.cells #[.int .i64 0,.int .i64 0] 78)=w7 at *;have hl64:(l.length:Int)≤64:=by have:=HL64.out;omega
     have hl0:(0:Int)≤(l.length:Int):=by omega
     go_wp2_with fail
     go_loopg[3,10] l.length (fun g v3 v10 W=>∃a:Nat,a≤l.length∧a≤g∧v3=.slice a3 L1.length c3∧v10=.int .i64 ((a:Int)-1)∧(∀m (hm:m<l.length),a≤m→Jy (l[m]'hm) Qk=false)∧Below w7.heap.size w7 W)
     case atStart=>exact⟨l.length,Nat.le_refl _,Nat.le_refl _,rfl,rfl,fun m hm h=>absurd h (by omega),Below.refl _ _⟩
     case round =>
      obtain⟨a,ha,hg,rfl,rfl,hno,hb⟩:=hrel
      rename World=>w8
      have HG:=hid hg;have HNO:=hid hno;have B8:=hid hb;clear hg hno hb
      cases a with
      |zero =>
       exfalso
       have h1:=Mg (key:=Qk) HPL.out (fun x hx=>by obtain⟨n,hn,rfl⟩:=List.getElem_of_mem hx;exact HNO.out n hn (Nat.zero_le _));rw[HWT.out]at h1;exact absurd (congrArg Prod.snd h1) (by simp)
      |succ i =>
       have hil:i<l.length:=by omega
       have hiz:i<zs.length:=by rw[HLZ.out];exact hil
       have hii:(i:Int)<(l.length:Int):=by omega
       have hi0:(0:Int)≤(i:Int):=by omega
       have HCI:=hid (show((i+1:Nat):Int)-1=(i:Int)by omega);rw[HCI.out];have B68:=hid (HB7.out.then B8.out);have hso:=OL.out.below B68.out
       obtain⟨gs,rfl⟩:=Qg.some' hso (by intro e;rw[e]at hiz;simp at hiz)
       obtain⟨r0,_,gl⟩:=hso.cell i 0 (.string ⟨(zs[i]'hiz).1.1.toArray⟩) hiz rfl
       obtain⟨r1,_,_⟩:=hso.cell i 1 (.slice (zs[i]'hiz).2.1 (zs[i]'hiz).1.2.length (zs[i]'hiz).2.2) hiz rfl
       rw[Nat.add_zero]at r0;have HRK:=hid (show RdP w8 (Qr (zs[i]'hiz)) (zs[i]'hiz).1.2 from((Qd.rd (OE.out _ (List.getElem_mem hiz))).below B68.out));have HZI:=hid (show(zs[i]'hiz).1=l[i]'hil from by simp only[←HZL.out,List.getElem_map]);have HK5:=hid (show(zs[i]'hiz).1.2.length≤512 from by rw[HZI.out];exact Qsg HPL.out (List.getElem_mem hil));have OLs:=hid hso;clear hso;generalize zs[i]'hiz=z at *
       obtain⟨⟨n,ks⟩,⟨ak,ck⟩⟩:=z
       simp only at r0 r1 HK5 HZI;have TK:=hid (show Calls Tryz.prog 33 #[.agg #[.string ⟨n.toArray⟩,.slice ak ks.length ck],.string ⟨#[99,111,117,110,116]⟩] w8 fun e w'=>Xnj w8 n (ks.filter fun k=>k.1 != Qk) (decide ((ks.filter fun k=>k.1 != Qk).length<ks.length)) e w' from Zwg w8 n Qk ks _ HRK.out (by have:=HK5.out;omega));have HTL:=hid (show decide ((ks.filter fun k=>k.1 != Qk).length<ks.length)=Jy (l[i]'hil) Qk from by rw[←HZI.out];exact Xnx (x:=(n,ks)));rw[HTL.out]at TK
       obtain⟨ks',hks'⟩:∃ks',ks'=ks.filter fun k=>k.1 != Qk:=⟨_,rfl⟩
       rw[←hks']at TK;have HK5':=hid (show ks'.length≤512 from by rw[hks'];exact Nat.le_trans (List.length_filter_le ..) HK5.out);have HTS:=hid (show Hq (l[i]'hil) Qk=(n,ks')from by rw[←HZI.out,hks'];rfl);have HPT:=hid (fun(h:Jy (l[i]'hil) Qk=true)=>(show(n,Yq Qk Xv false ks')=Bv Qk Xv (l[i]'hil)from by
        have h1:=put_take (v:=Xv) (List.all_eq_true.1 (Zy HPL.out).1 _ (List.getElem_mem hil)) h;rw[HTS.out]at h1;exact h1))
       have HOF:=hid (fun(h:Jy (l[i]'hil) Qk=true)=>(show Cc p1=Zw (l.set i (Bv Qk Xv (l[i]'hil)))from by
        unfold Cc;rw[HPL.out,Option.bind_some,Qgw hil h (fun m hm hlt=>HNO.out m hm hlt),Option.bind_some]))
       have HMY:=hid (show(Bv Qk Xv (l[i]'hil))∈[Bv Qk Xv (l[i]'hil)]→(l.set i (Bv Qk Xv (l[i]'hil))).all Kr=true from fun _=>List.all_eq_true.2 (Qgy (List.all_eq_true.1 (Zy HPL.out).1) (Xnq (List.all_eq_true.1 (Zy HPL.out).1 _ (List.getElem_mem hil)) Qk Xv (by decide +kernel))));have HNS:=hid (fun(h:Jy (l[i]'hil) Qk=false)=>(show ∀m (hm:m<l.length),i≤m→Jy (l[m]'hm) Qk=false from fun m hm hle=>by
        by_cases e:m=i
        ·subst e;exact h
        ·exact HNO.out m hm (by omega)))
       clear hks' HTL;generalize Jy (l[i]'hil) Qk=ok at *;go_wp2_with fail;refine TK.out.mono ?_;rintro e w9 ⟨a4,c4,rfl,ho4,hb4⟩;have O9:=hid ho4;have B9:=hid (B8.out.then hb4);have B89:=hid hb4;clear ho4 hb4 TK r0 r1 gl;have HBA:=hid (bal w9 (.cells #[.string ⟨n.toArray⟩,.slice a4 ks'.length c4] 82));have XA:=hid (heap_alloc_new w9 (.cells #[.string ⟨n.toArray⟩,.slice a4 ks'.length c4] 82));go_upto_region 16 with fail;generalize w9.alloc (.cells #[.string ⟨n.toArray⟩,.slice a4 ks'.length c4] 82)=wA at *
       cases ok with
       |false =>
        have BR:=hid (B9.out.then HBA.out);go_wp2_with fail
        go_roundg (gk-1)
        case measure=>have:=HG.out;omega
        case rel=>exact⟨i,by omega,by have:=HG.out;omega,rfl,by simp,HNS.out (by first|rfl|trivial),BR.out⟩
       |true =>
        have OLA:=hid (OLs.out.below (B89.out.then HBA.out));have BA:=hid (B9.out.then HBA.out);have DA:=hid (show Qd wA _ _ ks' from Qz O9.out HBA.out);have HXW:=hid (show w9.heap.size<wA.heap.size from lt_of_block XA.out);clear HBA B9 B89 OLs HNS;generalize w9.heap.size=Xb at *
        obtain⟨x0,x1,xf0,xf1,xl⟩:=Qq XA.out
        have RT:=hid (RdL.take OLA.out.rd i (by rw[HLZ.out];omega));have HTL:=hid (show(zs.take i).length=i by rw[List.length_take,HLZ.out];omega)
        obtain⟨kp,hkp⟩:∃kp,kp=Yq Qk Xv false ks':=⟨_,rfl⟩
        have HPT2:=hid (show(n,kp)=Bv Qk Xv (l[i]'hil)from by rw[hkp];exact HPT.out (by first|rfl|trivial));have PUT:=hid (fun W (h:Below wA.heap.size wA W)=>(show Calls Tryz.prog 34 #[.agg #[.string ⟨n.toArray⟩,.slice a4 ks'.length c4],.string ⟨#[99,111,117,110,116]⟩,.string ⟨#[111,116,104,101,114]⟩] W fun e w'=>PutOut W n kp e w' from by
         rw[hkp];exact rput_any W n Qk Xv ks' _ ((Qd.rd DA.out).below h) (by have:=HK5'.out;omega)))
        have hm2:(i:Int)≤(cl:Int):=by have:=HCL.out;omega
        clear hkp HPT;go_upto_region 17 with fail
        go_cut[13]from 62 to 71 (fun v13 wx=>∃(a:Option Addr) (c:Nat) (z':Stp×(Option Addr×Nat)),v13=.slice a (i+1) c∧z'.1=(n,kp)∧Qg Qm 82 wx wA.heap.size (.slice a (i+1) c) (zs.take i++[z'])∧Qd wx wA.heap.size (Qr z') kp∧Below wA.heap.size wA wx)
        case first =>
         have HRW:=hid (fun(W:World) (aP:Option Addr) (cP:Nat)=>(show RdL Qm (W.alloc (.cells #[.string ⟨n.toArray⟩,.slice aP kp.length cP] 82)) (.slice (some ⟨W.heap.size,0,none⟩) 1 1) [(((n,kp),(aP,cP)):Stp×(Option Addr×Nat))]from RdL.of_row (l:=[(((n,kp),(aP,cP)):Stp×(Option Addr×Nat))]) (cp:=1) Qm (heap_alloc_new W _) rfl (by simp) (by simp)));have HLE:=hid (fun(z:Stp×(Option Addr×Nat))=>show([]++zs.take i).length+[z].length≤maxLen by have:=HTL.out;have:=HL64.out;simp[maxLen];omega);have HLE1:=hid (fun(z:Stp×(Option Addr×Nat))=>show(([]++zs.take i).length+[z].length) * 40≤140737488355328 by have:=HTL.out;have:=HL64.out;simp;omega);have HLE0:=hid (show([]:List (Stp×(Option Addr×Nat))).length+(zs.take i).length≤maxLen by have:=HTL.out;have:=HL64.out;simp[maxLen];omega);have HLE2:=hid (show(([]:List (Stp×(Option Addr×Nat))).length+(zs.take i).length) * 40≤140737488355328 by have:=HTL.out;have:=HL64.out;simp;omega);have HGB:=hid (fun(W W7:World) (g:Nat) (gr:W.grownBy W7 (some g)) (h:Below wA.heap.size wA W) (hg:wA.heap.size≤g)=>(show Below wA.heap.size wA W7 from h.grown gr h.size (fun k hk=>by cases hk;exact hg)));have HXC0:=hid (fun(W:World) (h:Below wA.heap.size wA W)=>(h.cell (p:=⟨Xb,0,none⟩) xl).trans x0);have HXC1:=hid (fun(W:World) (h:Below wA.heap.size wA W)=>(h.cell (p:=⟨Xb,1,none⟩) xl).trans x1);have HA0:=hid (show Below wA.heap.size wA (World.alloc wA (.cells #[] 82)).drew from(bal _ _).drew);have HA1:=hid (show Qg Qm 82 (World.alloc wA (.cells #[] 82)).drew wA.heap.size (.slice (some ⟨wA.heap.size,0,none⟩) 0 0) []from Qkx Qm [] (heap_alloc_new wA _) rfl (Nat.le_refl _) (by simp[maxLen]));have HA2:=hid (show RdL Qm (World.alloc wA (.cells #[] 82)).drew (.slice (some ⟨gs,0,none⟩) i cl) (zs.take i)from RT.out.below HA0.out);have HA3:=hid (show wA.heap.size≤(World.alloc wA (.cells #[] 82)).drew.heap.size from HA0.out.size)
         go_region_held3 (fun W=>W.cell? ⟨Xb,0,none⟩=some (.string ⟨n.toArray⟩)∧W.cell? ⟨Xb,1,none⟩=some (.slice a4 ks'.length c4)) (first|with_reducible assumption|go_keep) (first
          |(refine Hn Qm Tryz.underlying76 Yd rfl (by decide) (w:=(World.alloc wA (.cells #[] 82)).drew) rfl (.tmp 62) (.tmp 65) rfl wA.heap.size (.slice (some ⟨wA.heap.size,0,none⟩) 0 0) (.slice (some ⟨gs,0,none⟩) i cl) [] (zs.take i) rfl rfl HA1.out HA2.out HLE0.out HLE2.out HA3.out ?_;intro v7 w7 own7 gr7;have hS7:Below wA.heap.size wA w7:=HGB.out _ _ _ gr7 HA0.out (Nat.le_refl _);have hX0:=HXC0.out w7 hS7;have hX1:=HXC1.out w7 hS7;have PU7:=hid (PUT.out w7 hS7))
          |(go_at_call 34;refine PU7.out.mono ?_;rintro e wP ⟨aP,cP,rfl,oP,bP⟩;have OPP:=hid oP;have hSP:Below wA.heap.size wA wP:=hS7.then bP;have own7P:=hid (own7.below bP);have hX2:=HXC0.out wP hSP;have hX3:=HXC1.out wP hSP;clear oP bP)
          |(refine Hn Qm Tryz.underlying76 Yd rfl (by decide) rfl (.tmp 66) (.tmp 69) rfl wA.heap.size _ _ ([]++zs.take i) [(((n,kp),(aP,cP)):Stp×(Option Addr×Nat))] (by exact rfl) (by exact rfl) (own7P.out.below (bal _ _)) (HRW.out _ _ _) (HLE.out _) (HLE1.out _) (Nat.le_trans hSP.size (by simp)) ?_;intro v10 w10 own10 gr10;have HO10:=hid own10;have hS10:Below wA.heap.size wA w10:=(hSP.alloc hSP.size _).grown gr10 (Nat.le_trans hSP.size (by simp)) (fun k hk=>(World.ownsRow.lt own7P.out k hk).1);have GR10:=hid gr10;have hX4:=HXC0.out w10 hS10;have hX5:=HXC1.out w10 hS10;clear own10 gr10))
         all_goals
          obtain⟨a10,c10,rfl,_⟩:=HO10.out.slice
          have HLI:=hid (show(([]++zs.take i)++[(((n,kp),(aP,cP)):Stp×(Option Addr×Nat))]).length=i+1 by have:=HTL.out;simp;omega);have HAL:=hid (bal wP (.cells #[.string ⟨n.toArray⟩,.slice aP kp.length cP] 82));have RPP:=hid (show Qd w10 wA.heap.size (.slice aP kp.length cP) kp from Ks (World.ownsRow.kept (Qz OPP.out HAL.out) GR10.out (Kd (Qz OPP.out HAL.out) (own7P.out.below HAL.out) (by decide))) hS7.size);rw[HLI.out]at HO10 ⊢;go_wp2_with fail
          go_meet
          exact⟨a10,c10,((n,kp),(aP,cP)),rfl,rfl,HO10.out,RPP.out,hS10⟩
        case rest =>
         obtain⟨a9,c9,z',rfl,hz',o9,r9,b9⟩:=hcut
         rename World=>wB
         have O9:=hid o9;have R9:=hid r9;have BB:=hid b9;have HZ':=hid hz';have HOF2:=hid (show Cc p1=Zw (l.set i (n,kp))from by rw[HPT2.out];exact HOF.out (by first|rfl|trivial));have HMY2:=hid (show(l.set i (n,kp)).all Kr=true from by rw[HPT2.out];exact HMY.out (List.mem_singleton.2 rfl));have B15:=hid (HB7.out.then BA.out);have LRS:=hid (show Mr wA (.slice (some ⟨gs,0,none⟩) l.length cl) l from⟨zs,HZL.out,OLA.out.rd,fun z hz=>(Qd.rd (OE.out z hz)).below B15.out⟩);have KEY:=hid (show ∃(u:Value) (zs2:List (Stp×(Option Addr×Nat))),zs2.map (·.1)=l.drop (i+1)∧RdL Qm wA u zs2∧(∀z∈zs2,RdP wA (Qr z) z.1.2)∧((cl=i+1∧u=.slice (some ⟨gs,0,none⟩) 0 0)∨(¬cl=i+1∧u=.slice (some ⟨gs,0+(i+1) * 2,none⟩) (l.length-(i+1)) (cl-(i+1))))from by
          by_cases hkk:cl=i+1
          ·refine⟨_,[],?_,?_,fun z hz=>(by cases hz),Or.inl ⟨hkk,rfl⟩⟩
           ·rw[List.drop_eq_nil_of_le (by have:=HCL.out;omega)];rfl
           ·exact⟨_,_,rfl,⟨Nat.le_refl _,by simp,fun e=>by cases e⟩,fun h=>absurd rfl h⟩
          ·obtain⟨zs2,z1,z2,z3⟩:=LRS.out.drop (i+1) (by omega)
           exact⟨_,zs2,z1,z2,z3,Or.inr ⟨hkk,rfl⟩⟩)
         obtain⟨u,zs2,hz1,hz2,hz3,hc⟩:=KEY.out
         have Z1:=hid hz1;have Z2:=hid (hz2.below b9);have Z3:=hid hz3;have HZ2:=hid (show zs2.length=l.length-(i+1)from by have h:=congrArg List.length hz1;rw[List.length_map,List.length_drop]at h;exact h)
         obtain⟨L2,hL2⟩:∃L2,L2=zs.take i++[z']:=⟨_,rfl⟩
         have HL2:=hid hL2;have HL2n:=hid (show L2.length=i+1 by rw[hL2,List.length_append,HTL.out];rfl);rw[←hL2]at O9;have HSZA:=hid b9.size;have HLA:=hid (show L2.length+zs2.length≤maxLen by have:=HL2n.out;have:=HZ2.out;have:=HL64.out;unfold maxLen;omega);have HLB:=hid (show(L2.length+zs2.length) * 40≤140737488355328 by have:=HL2n.out;have:=HZ2.out;have:=HL64.out;omega);have HJZ:=hid (show(Zk (l.set i (n,kp))).length≤140737488355328 from by
          have h1:=join_set hil (n,kp);have h2:=Rq (Zy HPL.out).2.2.2.1;have h3:=Xjx (x:=l[i]'hil);have h4:=Qsg HPL.out (List.getElem_mem hil);have h5:=Zdg hil;rw[←HPT2.out]at h3
          omega)
         have PR:=hid (fun w10 v10 (o10:Qg Qm 82 w10 wA.heap.size v10 (L2++zs2)) (r10:RdP w10 (Qr z') kp) (b10:Below wA.heap.size wA w10)=>Qyh w10 v10 (l.set i (n,kp)) (show Mr w10 v10 (l.set i (n,kp))from by
          refine⟨L2++zs2,?_,o10.rd,fun z hz=>?_⟩
          ·rw[List.map_append,Z1.out,HL2.out,List.map_append,List.map_take,HZL.out];show _++[z'.1]++_=_;rw[HZ'.out];exact Zmj hil (n,kp)
          ·rw[HL2.out]at hz
           rcases List.mem_append.1 hz with hz|hz
           ·rcases List.mem_append.1 hz with hz|hz
            ·exact((Qd.rd (OE.out z (List.mem_of_mem_take hz))).below B15.out).below b10
            ·rw[List.mem_singleton.1 hz,HZ'.out];exact r10
           ·exact(Z3.out z hz).below b10) HMY2.out HJZ.out)
         have BX6:=hid B6.out;clear hz1 hz2 hz3 hL2 KEY LRS o9 r9 b9 x0 x1 xf0 xf1 xl
         rcases hc with ⟨hkk,rfl⟩|⟨hkk,rfl⟩
         ·subst hkk;have hlm:l.length-(i+1)=0:=by have:=HCL.out;omega
          have hlm2:(l.length:Int)=(i:Int)+1:=by have:=HCL.out;omega
          go_wp2_with (at_builtin;refine Ds (E:=Qm) rfl (.tmp 72) (.tmp 76) rfl Tryz.underlying76 Yd rfl (by decide) wA.heap.size _ L2 zs2 rfl O9.out rfl Z2.out HLA.out HLB.out HSZA.out ?_;intro v10 w10 own10 gr10;have B10:=hid (BB.out.grown gr10 BB.out.size (fun k hk=>(World.ownsRow.lt O9.out k hk).1));have PR10:=hid (PR.out w10 v10 own10 (Qd.rd (World.ownsRow.kept R9.out gr10 (Kd R9.out O9.out (by decide)))) B10.out);clear own10 gr10)
          refine PR10.out.mono ?_;rintro e wC ⟨rfl,hbC⟩;have BC:=hid (B15.out.then (B10.out.then hbC));clear hbC PR10 PR;have HP0:=hid (show p1≠[]from fun e=>by
           have h:=HPL.out;rw[e,Eg]at h
           cases h;exact absurd hil (by simp))
          have hp2:(([]:Str) != p1)=true:=bne_iff_ne.2 (Ne.symm HP0.out);have hp3:(([]:Str)==p1)=false:=beq_eq_false_iff_ne.2 (Ne.symm HP0.out);have OC:=hid (Qz O6.out BC.out);have BE:=hid (BX6.out.then BC.out);have HBE:=hid (show w.heap.size≤wC.heap.size from BE.out.size)
          cases hpr:Zw (l.set i (n,kp)) with
          |none =>
           have HSG:=hid (show Hz p=L1++[bare]from by rw[HSF.out,HOF2.out,hpr];rfl);clear hpr;simp only[prV]
           go_wp2_with (at_builtin;refine Zz rfl (.tmp 92) (.tmp 94) rfl w.heap.size _ L1 bare rfl OC.out rfl (by have:=HL1.out;omega) HBE.out ?_;intro v11 w11 own11 gr11 mv11;have O11:=hid own11;have B11:=hid (BE.out.grown gr11 BE.out.size (fun k hk=>(World.ownsRow.lt OC.out k hk).1));clear own11 gr11 mv11)
           exact bodyPost_ret (v:=v11) (by simp[results,Tryz.results11,go_sem]) rfl ⟨_,rfl,by rw[HSG.out];exact O11.out,B11.out⟩
          |some q =>
           have HQN:=hid (show q≠[]from fun e=>by
            have h:=Vs hpr;rw[e,Eg]at h;have h2:=congrArg List.length (Option.some.inj h);rw[List.length_set,List.length_nil]at h2;omega)
           have hq2:(q != ([]:Str))=true:=bne_iff_ne.2 HQN.out;have hq3:(q==([]:Str))=false:=beq_eq_false_iff_ne.2 HQN.out;simp only[prV]
           by_cases hqp:q=p1
           ·have HSG:=hid (show Hz p=L1++[bare]from by rw[HSF.out,HOF2.out,hpr];simp only;rw[if_pos hqp];rfl);have hq4:(q != p1)=false:=by rw[hqp];simp
            have hq5:(q==p1)=true:=by rw[hqp];simp
            clear hpr hqp
            go_wp2_with (at_builtin;refine Zz rfl (.tmp 92) (.tmp 94) rfl w.heap.size _ L1 bare rfl OC.out rfl (by have:=HL1.out;omega) HBE.out ?_;intro v11 w11 own11 gr11 mv11;have O11:=hid own11;have B11:=hid (BE.out.grown gr11 BE.out.size (fun k hk=>(World.ownsRow.lt OC.out k hk).1));clear own11 gr11 mv11)
            exact bodyPost_ret (v:=v11) (by simp[results,Tryz.results11,go_sem]) rfl ⟨_,rfl,by rw[HSG.out];exact O11.out,B11.out⟩
           ·have HSG:=hid (show Hz p=(L1++[q])++[bare]from by rw[HSF.out,HOF2.out,hpr];simp only;rw[if_neg hqp];simp);have hq4:(q != p1)=true:=bne_iff_ne.2 hqp;have hq5:(q==p1)=false:=beq_eq_false_iff_ne.2 hqp;clear hpr hqp
            go_upto_region 21 with (at_builtin;refine Zz rfl (.tmp 88) (.tmp 90) rfl w.heap.size _ L1 q rfl OC.out rfl (by have:=HL1.out;omega) HBE.out ?_;intro v11 w11 own11 gr11 mv11;have O11:=hid own11;have B11:=hid (BE.out.grown gr11 BE.out.size (fun k hk=>(World.ownsRow.lt OC.out k hk).1));have HB11:=hid (show w.heap.size≤w11.heap.size from B11.out.size);clear own11 gr11 mv11)
            go_wp2_with (at_builtin;refine Zz rfl (.tmp 92) (.tmp 94) rfl w.heap.size _ (L1++[q]) bare rfl O11.out rfl (by have:=HL1.out;simp;omega) HB11.out ?_;intro v12 w12 own12 gr12 mv12;have O12:=hid own12;have B12:=hid (B11.out.grown gr12 B11.out.size (fun k hk=>(World.ownsRow.lt O11.out k hk).1));clear own12 gr12 mv12)
            exact bodyPost_ret (v:=v12) (by simp[results,Tryz.results11,go_sem]) rfl ⟨_,rfl,by rw[HSG.out];exact O12.out,B12.out⟩
         ·have hki:¬(cl:Int)=(i:Int)+1:=by omega
          rw[Nat.zero_add]at Z2
          go_wp2_with (at_builtin;refine Ds (E:=Qm) rfl (.tmp 72) (.tmp 76) rfl Tryz.underlying76 Yd rfl (by decide) wA.heap.size _ L2 zs2 rfl O9.out rfl Z2.out HLA.out HLB.out HSZA.out ?_;intro v10 w10 own10 gr10;have B10:=hid (BB.out.grown gr10 BB.out.size (fun k hk=>(World.ownsRow.lt O9.out k hk).1));have PR10:=hid (PR.out w10 v10 own10 (Qd.rd (World.ownsRow.kept R9.out gr10 (Kd R9.out O9.out (by decide)))) B10.out);clear own10 gr10)
          refine PR10.out.mono ?_;rintro e wC ⟨rfl,hbC⟩;have BC:=hid (B15.out.then (B10.out.then hbC));clear hbC PR10 PR;have HP0:=hid (show p1≠[]from fun e=>by
           have h:=HPL.out;rw[e,Eg]at h
           cases h;exact absurd hil (by simp))
          have hp2:(([]:Str) != p1)=true:=bne_iff_ne.2 (Ne.symm HP0.out);have hp3:(([]:Str)==p1)=false:=beq_eq_false_iff_ne.2 (Ne.symm HP0.out);have OC:=hid (Qz O6.out BC.out);have BE:=hid (BX6.out.then BC.out);have HBE:=hid (show w.heap.size≤wC.heap.size from BE.out.size)
          cases hpr:Zw (l.set i (n,kp)) with
          |none =>
           have HSG:=hid (show Hz p=L1++[bare]from by rw[HSF.out,HOF2.out,hpr];rfl);clear hpr;simp only[prV]
           go_wp2_with (at_builtin;refine Zz rfl (.tmp 92) (.tmp 94) rfl w.heap.size _ L1 bare rfl OC.out rfl (by have:=HL1.out;omega) HBE.out ?_;intro v11 w11 own11 gr11 mv11;have O11:=hid own11;have B11:=hid (BE.out.grown gr11 BE.out.size (fun k hk=>(World.ownsRow.lt OC.out k hk).1));clear own11 gr11 mv11)
           exact bodyPost_ret (v:=v11) (by simp[results,Tryz.results11,go_sem]) rfl ⟨_,rfl,by rw[HSG.out];exact O11.out,B11.out⟩
          |some q =>
           have HQN:=hid (show q≠[]from fun e=>by
            have h:=Vs hpr;rw[e,Eg]at h;have h2:=congrArg List.length (Option.some.inj h);rw[List.length_set,List.length_nil]at h2;omega)
           have hq2:(q != ([]:Str))=true:=bne_iff_ne.2 HQN.out;have hq3:(q==([]:Str))=false:=beq_eq_false_iff_ne.2 HQN.out;simp only[prV]
           by_cases hqp:q=p1
           ·have HSG:=hid (show Hz p=L1++[bare]from by rw[HSF.out,HOF2.out,hpr];simp only;rw[if_pos hqp];rfl);have hq4:(q != p1)=false:=by rw[hqp];simp
            have hq5:(q==p1)=true:=by rw[hqp];simp
            clear hpr hqp
            go_wp2_with (at_builtin;refine Zz rfl (.tmp 92) (.tmp 94) rfl w.heap.size _ L1 bare rfl OC.out rfl (by have:=HL1.out;omega) HBE.out ?_;intro v11 w11 own11 gr11 mv11;have O11:=hid own11;have B11:=hid (BE.out.grown gr11 BE.out.size (fun k hk=>(World.ownsRow.lt OC.out k hk).1));clear own11 gr11 mv11)
            exact bodyPost_ret (v:=v11) (by simp[results,Tryz.results11,go_sem]) rfl ⟨_,rfl,by rw[HSG.out];exact O11.out,B11.out⟩
           ·have HSG:=hid (show Hz p=(L1++[q])++[bare]from by rw[HSF.out,HOF2.out,hpr];simp only;rw[if_neg hqp];simp);have hq4:(q != p1)=true:=bne_iff_ne.2 hqp;have hq5:(q==p1)=false:=beq_eq_false_iff_ne.2 hqp;clear hpr hqp
            go_upto_region 21 with (at_builtin;refine Zz rfl (.tmp 88) (.tmp 90) rfl w.heap.size _ L1 q rfl OC.out rfl (by have:=HL1.out;omega) HBE.out ?_;intro v11 w11 own11 gr11 mv11;have O11:=hid own11;have B11:=hid (BE.out.grown gr11 BE.out.size (fun k hk=>(World.ownsRow.lt OC.out k hk).1));have HB11:=hid (show w.heap.size≤w11.heap.size from B11.out.size);clear own11 gr11 mv11)
            go_wp2_with (at_builtin;refine Zz rfl (.tmp 92) (.tmp 94) rfl w.heap.size _ (L1++[q]) bare rfl O11.out rfl (by have:=HL1.out;simp;omega) HB11.out ?_;intro v12 w12 own12 gr12 mv12;have O12:=hid own12;have B12:=hid (B11.out.grown gr12 B11.out.size (fun k hk=>(World.ownsRow.lt O11.out k hk).1));clear own12 gr12 mv12)
            exact bodyPost_ret (v:=v12) (by simp[results,Tryz.results11,go_sem]) rfl ⟨_,rfl,by rw[HSG.out];exact O12.out,B12.out⟩
    ·have h:=HPB1.out;unfold Zv at h;rw[hpn]at h;cases h
end
end Go.Proofs.YtbbmdbolkicpcabGreatDoor
