/- InhNew, TableO, TableO2, TableO3, InhL, InhCutP, TbCutW, TbOrder -/
import Derived.Test.YtbbmdbolkicpcaaGreatDoorILG18
import Derived.Test.YtbbmdbolkicpcaaGreatDoorILG20
import Derived.Test.YtbbmdbolkicpcaaGreatDoorILG08
import Derived.Test.YtbbmdbolkicpcaaGreatDoorILG13
import Derived.Test.YtbbmdbolkicpcaaGreatDoorILG10
import Derived.Test.YtbbmdbolkicpcaaGreatDoorILG19
import Derived.Deep.AppendLies
import Derived.Deep.RegionHeld3
set_option maxRecDepth 100000
set_option maxHeartbeats 32000000
set_option linter.unusedVariables false
set_option linter.unusedSimpArgs false
namespace Go.Proofs.YtbbmdbolkicpcaaGreatDoor
section
open Go.RowKit Go.Lib Go.Maps
def NewAny (C:Nat)(w:World)(t:Tb)(x:Ending)(w':World):Prop :=
 ∃ (v:Value) (wr:Wrg) (R:Option Rsv),x=.returned (.tuple #[v,.agg #[.int .i64 wr.err,.int .i64 wr.file,.int .i64 wr.at']])∧New14 t wr R∧(R=none→v=.pointer none)∧(∀ R',R=some R'→RsP C w' v R')∧Below w.heap.size w w'
theorem parPs_len (t:Tb):(Xt t).length=(parPs t).length:=by unfold Xt;rw [List.length_map]
theorem badAt_at:∀ {r done:List (Str×Str)}{e i:Nat},badAt done r=some (e,i)→e≠0∧i<done.length+r.length
 | [],_,_,_,h=>by cases h
 | p::r,done,e,i,h=>by
  unfold badAt at h
  split at h
  ·split at h
   ·obtain⟨h1,h2⟩:=badAt_at h
    refine⟨h1,?_⟩
    simp at h2 ⊢
    omega
   ·cases h;exact⟨by decide,by simp⟩
  ·cases h;exact⟨by decide,by simp⟩
theorem badA_at:∀ {r done:List Al}{e i:Nat},badA done r=some (e,i)→i<done.length+r.length
 | [],_,_,_,h=>by cases h
 | p::r,done,e,i,h=>by
  unfold badA at h
  split at h
  ·split at h
   ·cases h;simp
   ·have h2:=badA_at h
    simp at h2 ⊢
    omega
  ·cases h;simp
theorem newOut_lt {D:List (Str×Str)}{e i:Nat}(h:NewOut D e i)(he:e≠0):i<D.length:=by
 rcases h with h | ⟨_,_,⟨p,h,_⟩,_⟩ | ⟨_,h,_⟩
 ·simpa using (badAt_at h).2
 ·exact(List.getElem?_eq_some_iff.1 h).1
 ·exact absurd h he
theorem alOut_lt {D:List Al}{e i:Nat}(h:AlOut D e i)(he:e≠0):i<D.length:=by
 rcases h with h | ⟨_,_,⟨p,h,_⟩,_⟩ | ⟨_,h,_⟩
 ·simpa using badA_at h
 ·exact(List.getElem?_eq_some_iff.1 h).1
 ·exact absurd h he
theorem W3_row {W:World}{B:Nat}{z0 z1 z2:Value}{ty:TypeId}(a b c:Value)(h:W.heap[B]?=some (.cells #[z0,z1,z2] ty (0,0))):(((W.setCell ⟨B,0,none⟩ a).setCell ⟨B,1,none⟩ b).setCell ⟨B,2,none⟩ c).heap[B]?=some (.cells #[a,b,c] ty (0,0)):=by
 rw [heap_setCell_same _ _ _ _ _ _ (heap_setCell_same _ _ _ _ _ _ (heap_setCell_same _ _ _ _ _ _ h))];simp
theorem W3_below {w W:World}(a b c:Value)(h:Below w.heap.size w W):Below w.heap.size w (((W.setCell ⟨w.heap.size,0,none⟩ a).setCell ⟨w.heap.size,1,none⟩ b).setCell ⟨w.heap.size,2,none⟩ c) :=
 ((h.setCell (p:=⟨w.heap.size,0,none⟩) (Nat.le_refl _) a).setCell (p:=⟨w.heap.size,1,none⟩) (Nat.le_refl _) b).setCell (p:=⟨w.heap.size,2,none⟩) (Nat.le_refl _) c
theorem tgts_at {gs:List (Str×Str)}{k:Nat}{done:List Al}(hk:k<gs.length)(h:tgtsF (gs.drop k) done=tgtsF gs []) :
  (∀ s,Jw (gs[k]'hk).1 (gs[k]'hk).2=.inl s→tgtsF (gs.drop (k+1)) (done++[((gs[k]'hk).1,s)])=tgtsF gs [])∧(∀ e,Jw (gs[k]'hk).1 (gs[k]'hk).2=.inr e→tgtsF gs []=.inr (e,(gs[k]'hk).1)):=by
 rw [List.drop_eq_getElem_cons hk,tgtsF] at h
 constructor
 ·intro s e;rw [e] at h;exact h
 ·intro s e;rw [e] at h;exact h.symm
theorem inew_any {C:Nat}(w:World)(Bt:Nat)(t:Tb)(hT:TbP C w Bt t)(ok:Jq t)(sz:SzT t)(hpb:∀ p∈Qn t [],Qm p=true)(hpl:(Qn t []).length≤1000000)(hps:PSz (Xt t))(hals:t.als.length≤1000)(hav:∀ g∈Xq t,g.1.length≤maxLen∧g.2.length≤1048576)
  (hA:∀ A,tgtsF (Xq t) []=.inl A→szA A∧Kh A=A)(hbase:∀ p,p∈basePs t↔∃ l∈srtT t.names,p∈Qn t l)(hTab:TabsB w.heap.size w) :
  Calls Tryz.prog 8 #[.pointer (some ⟨Bt,0,none⟩)] w fun x w'=>NewAny C w t x w':=by
 have hmm:=@run_makeMap Tryz.prog;have HT:=hid hT;have OK:=hid ok;have SZ:=hid sz;have HPB:=hid hpb;have HPL:=hid hpl;have HPS:=hid hps;have HPN:=hid (show(parPs t).length≤1000000 from Nat.le_trans (List.length_filter_le _ _) hpl);have HALS:=hid hals;have HAV:=hid hav;have HA:=hid hA;have HBASE:=hid hbase;have HTAB:=hid (fun W (h:Below w.heap.size w W)=>(show TabsB W.heap.size W from⟨(hTab.below h).1,Nat.lt_of_lt_of_le hTab.2.1 h.size,Nat.lt_of_lt_of_le hTab.2.2 h.size⟩));have N0:=hid (NwM.start hT);have HLG:=hid (show(Xq t).length≤1000 from by
  have h1:(Xq t).length=(alP t).length:=(List.mergeSort_perm _ _).length_eq;rw [h1];unfold alP
  simpa using hals)
 clear hT ok sz hpb hpl hps hals hav hA hbase hTab
 go_enter Tryz.func8,Tryz.ntmps8
 go_upto_region 4 with fail;generalize ((w.alloc (.cells #[.int .i64 0,.int .i64 0,.int .i64 0] 26)).alloc (.map #[] 0)).alloc (.cells #[.pointer (some ⟨Bt,0,none⟩),.pointer none,.pointer none,.map (some (w.heap.size+1))] 64)=w1 at *;generalize w.heap.size+1=km at *;generalize km+1=rb at *;have PA:=hid (parents_any w1 t N0.out.tb OK.out SZ.out HPB.out HPL.out);go_wp2_with fail;refine PA.out.mono ?_;rintro e w2 ⟨u1,u2,rfl,ho1,ho2,hb2⟩;have N2:=hid (N0.out.below hb2)
 obtain⟨q1,k1,rfl⟩:=Ql ho1
 obtain⟨q2,k2,rfl⟩:=Qc ho2
 have OU2:=hid (show Qg w2 w1.heap.size (.slice q2 (parPs t).length k2) (parPs t) from ho2);have CN:=hid (new_any w2 (.slice q1 (Xt t).length k1) (Xt t) (show RdP w2 _ _ from Qd.rd ho1) HPS.out (by rw [parPs_len];have:=HPN.out;omega));clear hb2 PA N0 ho1 ho2;go_wp2_with fail;refine CN.out.mono ?_;rintro e w3 ⟨er,i,vc,rfl,hno,hrd,hne,hb3⟩;have N3:=hid (N2.out.below hb3)
 by_cases hz:er=0
 case neg =>
  have HNO:=hid hno;obtain rfl:=hne hz;have HIL:=hid (show i<(parPs t).length from by rw [← parPs_len];exact newOut_lt hno hz);have HZ:=hid hz;have hzi:((er:Int)==0)=false:=by simpa using hz
  have OU3:=hid (show Qg w3 w1.heap.size (.slice q2 (parPs t).length k2) (parPs t) from Qz OU2.out hb3);have F4:=hid (heap_alloc_new w3 (.cells #[.int .i64 er,.int .i64 i] 69));have HA4:=hid (bal w3 (.cells #[.int .i64 er,.int .i64 i] 69));clear hno hrd hne hb3 CN N2 OU2 hz;go_upto_region 6 with fail;generalize w3.alloc (.cells #[.int .i64 er,.int .i64 i] 69)=w4 at *;have N4:=hid (N3.out.below HA4.out);have OU4:=hid (show Qg w4 w1.heap.size (.slice q2 (parPs t).length k2) (parPs t) from Qz OU3.out HA4.out);generalize w3.heap.size=fb at *;clear N3 HA4 OU3
  obtain⟨f0,f1,_,_,flt⟩:=Qq F4.out
  obtain⟨gp,rfl,gl,gc⟩:=own_atW OU4.out i HIL.out
  obtain⟨pp,hpp⟩:∃ pp,pp=(parPs t)[i]'HIL.out:=⟨_,rfl⟩
  rw [← hpp] at gc;have hi0:(0:Int)≤(i:Int):=by omega
  have hi1:(i:Int)<((parPs t).length:Int):=by have:=HIL.out;omega
  have hi2:(i:Int)≤1000000:=by have:=HPN.out;omega
  have HPP:=hid (show pp∈Qn t [] from by
   have h:=List.getElem_mem HIL.out;rw [← hpp] at h
   exact(List.mem_filter.1 h).1)
  have HPD:=hid (show(parPs t).getD i []=pp from by rw [List.getD_eq_getElem?_getD,List.getElem?_eq_getElem HIL.out,hpp];rfl);have WH:=hid (N4.out.tb.where_ [] pp (by decide) (paths_sz SZ.out HPP.out));clear hpp;go_wp2_with fail;refine WH.out.mono ?_;rintro e w5 ⟨rfl,hb5⟩;have N5:=hid (N4.out.below hb5);have F5:=hid (bk hb5 F4.out);have HWR:=hid (show New14 t (wrgAt er (Qy t.rows [] pp)) none from by have:=New14.par HNO.out HZ.out;rwa [HPD.out] at this)
  obtain⟨fi,hfi⟩:∃ x,x=rFile (Qy t.rows [] pp):=⟨_,rfl⟩
  obtain⟨ai,hai⟩:∃ x,x=rAt (Qy t.rows [] pp):=⟨_,rfl⟩
  unfold wrgAt at HWR;rw [← hfi,← hai] at HWR ⊢;clear hfi hai hb5 N4 F4 OU4 f0 f1 flt gc gl WH
  obtain⟨f0,f1,_,_,flt⟩:=Qq F5.out
  have b0:w5.cell? ⟨w.heap.size,0,none⟩=some (.int .i64 0):=cR N5.out.wb;have b1:w5.cell? ⟨w.heap.size,1,none⟩=some (.int .i64 0):=cR N5.out.wb;have b2:w5.cell? ⟨w.heap.size,2,none⟩=some (.int .i64 0):=cR N5.out.wb;have bf0:=frozen_of_row _ _ 0 _ _ N5.out.wb;have bf1:=frozen_of_row _ _ 1 _ _ N5.out.wb;have bf2:=frozen_of_row _ _ 2 _ _ N5.out.wb;have bl:=lt_of_block N5.out.wb;go_upto_region 8 with fail
  go_region
  all_goals go_wp2_with fail
  refine rnew_ret (Pb:=w.heap.size) (e:=er) (f:=fi) (a:=ai) ?_ rfl rfl rfl ?_
  ·exact W3_row _ _ _ N5.out.wb
  ·exact⟨.pointer none,⟨er,fi,ai⟩,none,rfl,HWR.out,fun _=>rfl,fun R' h=>(by cases h),(W3_below _ _ _ N5.out.bel).drew⟩
 subst hz;have hi:i=0:=by
  rcases hno with h | ⟨_,h,_⟩ | ⟨_,_,h,_⟩
  ·exact absurd rfl (badAt_at h).1
  ·cases h
  ·exact h
 subst hi;have HNO:=hid hno;have CH3:=hid (hrd rfl);have CKM:=hid N2.out.mp.lt;have CRB:=hid (lt_of_block N2.out.rs);have HSZ3:=hid hb3.size
 obtain⟨bc,bm,nc,rfl,_⟩:=hrd rfl
 clear hno hrd hne hb3 CN N2;have F4:=hid (heap_alloc_new w3 (.cells #[.int .i64 0,.int .i64 0] 69));have HA4:=hid (bal w3 (.cells #[.int .i64 0,.int .i64 0] 69));have N4:=hid (N3.out.below HA4.out);have CH4:=hid (CH3.out.below HA4.out);have HF4:=hid (show w3.heap.size≠rb∧w3.heap.size≠km∧w.heap.size<w3.heap.size from by
  have h1:=CRB.out;have h2:=CKM.out;have h3:=HSZ3.out;have h4:=N3.out.lr
  omega)
 go_upto_region 6 with fail;generalize w3.alloc (.cells #[.int .i64 0,.int .i64 0] 69)=w4 at *;generalize w3.heap.size=fb at *;clear N3 CH3 HA4;have N5:=hid (N4.out.set1 HT.out (.pointer (some ⟨bc,0,none⟩)));have CH5:=hid (show ChAt w2.heap.size (w4.setCell ⟨rb,1,none⟩ (.pointer (some ⟨bc,0,none⟩))) (.pointer (some ⟨bc,0,none⟩)) (Xt t) from CH4.out.set CRB.out);have F5:=hid (show(w4.setCell ⟨rb,1,none⟩ (.pointer (some ⟨bc,0,none⟩))).heap[fb]?=some (.cells #[.int .i64 0,.int .i64 0] 69 (0,0)) from(heap_setCell_other _ _ _ _ HF4.out.1).trans F4.out)
 obtain⟨f0,f1,ff0,ff1,flt⟩:=Qq F4.out
 obtain⟨a0,a1,a2,a3,al⟩:=Kk N4.out.rs
 have af1:=frozen_of_row _ _ 1 _ _ N4.out.rs;go_upto_region 11 with fail;generalize w4.setCell ⟨rb,1,none⟩ (.pointer (some ⟨bc,0,none⟩))=w5 at *;clear f0 f1 ff0 ff1 flt a0 a1 a2 a3 al af1 N4 CH4 F4;have AL:=hid (N5.out.tb.aliases OK.out HALS.out);go_wp2_with fail;refine AL.out.mono ?_;rintro e w6 ⟨vg,rfl,og,hb6⟩
 obtain⟨ag,cg,rfl⟩:=Ql og
 have N6:=hid (N5.out.below hb6);have CH6:=hid (CH5.out.below hb6);have F6:=hid (bk hb6 F5.out);have OG:=hid og;clear og hb6 N5 CH5 F5 AL
 obtain⟨gs,hgs⟩:∃ gs,gs=Xq t:=⟨_,rfl⟩
 rw [← hgs] at OG HAV HLG ⊢;have HGS:=hid hgs;clear hgs;go_upto_region 12 with fail
 go_loopg [12,60] gs.length (fun g v12 v60 W=>∃ (k:Nat) (done:List Al),k≤gs.length∧gs.length≤k+g∧v60=.int .i64 k∧Qd W w6.heap.size v12 done∧tgtsF (gs.drop k) done=tgtsF gs []∧done.length=k∧Below w6.heap.size w6 W)
 case atStart=>exact⟨0,[],Nat.zero_le _,by omega,rfl,World.ownsRow_nil _ _ _ _,by rw [List.drop_zero],rfl,Below.refl _ _⟩
 case round =>
  obtain⟨k,done,hk,hg,rfl,hod,htd,hdk,hb⟩:=hrel
  rename World=>w7
  have HG:=hid hg;have OD:=hid hod;have HTD:=hid htd;have HDK:=hid hdk;have B7:=hid hb;have hk0:(0:Int)≤(k:Int):=by omega
  have hkb:(k:Int)≤1000:=by have:=HLG.out;omega
  clear hg hod htd hdk hb
  by_cases hlt:k<gs.length
  ·have hki:(k:Int)<(gs.length:Int):=by omega
   obtain⟨ao,cp,e,_,hcc⟩:=Ks (OG.out.rd.below B7.out)
   cases e
   obtain⟨p,o,rfl,hp,c0,c1⟩:=hcc k hlt
   have HSK:=hid (HAV.out _ (List.getElem_mem hlt));have HST:=hid (tgts_at hlt HTD.out);generalize gs[k]'hlt=y at *
   obtain⟨yk,yv⟩:=y
   clear hcc;simp only at c0 c1;have F8:=hid (heap_alloc_new w7 (.cells #[.string ⟨yk.toArray⟩,.string ⟨yv.toArray⟩] 76));have HA8:=hid (bal w7 (.cells #[.string ⟨yk.toArray⟩,.string ⟨yv.toArray⟩] 76));have B8:=hid (B7.out.then HA8.out);have OD8:=hid (show Qd (w7.alloc (.cells #[.string ⟨yk.toArray⟩,.string ⟨yv.toArray⟩] 76)) w6.heap.size _ done from Qz OD.out HA8.out);have TG:=hid (target_any (w7.alloc (.cells #[.string ⟨yk.toArray⟩,.string ⟨yv.toArray⟩] 76)) yk yv HSK.out.1 HSK.out.2 (HTAB.out _ (N6.out.bel.then B8.out)));go_upto_region 14 with fail;generalize w7.alloc (.cells #[.string ⟨yk.toArray⟩,.string ⟨yv.toArray⟩] 76)=w8 at *;generalize w7.heap.size=yb at *
   obtain⟨y0,y1,_,_,yl⟩:=Qq F8.out
   clear c0 c1 hp HA8 B7 OD;go_wp2_with fail;refine TG.out.mono ?_;rintro e w9 ⟨hb9,hr⟩
   obtain⟨tx,e9,a9,rfl,hcs⟩:∃ (tx:Str) (e9:Nat) (a9:Int),e=.returned (.tuple #[.string ⟨tx.toArray⟩,.agg #[.int .i64 e9,.int .i64 a9]])∧((Jw yk yv=.inl tx∧e9=0∧a9=0)∨(Jw yk yv=.inr e9∧e9≠0)):=by
    rcases hr with ⟨s,h1,h2⟩ | ⟨e',a',h1,h3,h2⟩
    ·exact⟨s,0,0,h2,Or.inl ⟨h1,rfl,rfl⟩⟩
    ·exact⟨[],e',a',h2,Or.inr ⟨h1,h3⟩⟩
   have HCS:=hid hcs;clear hcs;have B9:=hid (B8.out.then hb9);have OD9:=hid (show Qd w9 w6.heap.size _ done from Qz OD8.out hb9);have F9:=hid (bk hb9 F8.out);clear hr hb9 y0 y1 yl TG B8 OD8 F8;have Fa:=hid (heap_alloc_new w9 (.cells #[.int .i64 e9,.int .i64 a9] 77));have HAa:=hid (bal w9 (.cells #[.int .i64 e9,.int .i64 a9] 77));have Ba:=hid (B9.out.then HAa.out);have ODa:=hid (show Qd (w9.alloc (.cells #[.int .i64 e9,.int .i64 a9] 77)) w6.heap.size _ done from Qz OD9.out HAa.out);have Ga:=hid (bk HAa.out F9.out);go_upto_region 15 with fail;generalize w9.alloc (.cells #[.int .i64 e9,.int .i64 a9] 77)=wa at *;generalize w9.heap.size=sb at *
   obtain⟨y0,y1,_,_,yl⟩:=Qq Ga.out
   obtain⟨s0,s1,_,_,sl⟩:=Qq Fa.out
   clear B9 OD9 F9 HAa;have HSa:=hid Ba.out.size
   rcases HCS.out with ⟨htt,rfl,rfl⟩ | ⟨htt,hez⟩
   case inr =>
    have HWT:=hid (New14.tgt HNO.out (by rw [← HGS.out];exact HST.out.2 e9 htt));have hz9:((e9:Int)==0)=false:=by simpa using hez
    have Na:=hid (N6.out.below Ba.out);have WR:=hid (rwrong_any14 wa rb Bt _ _ _ t e9 yk Na.out.rs Na.out.tb HSK.out.1);clear htt hez;go_wp2_with fail;refine WR.out.mono ?_;rintro e wc ⟨rfl,hbc⟩;have Nc:=hid (Na.out.below hbc);have HWR:=hid (show New14 t (wrgAt e9 (Qy t.als Qv yk)) none from HWT.out)
    obtain⟨fi,hfi⟩:∃ x,x=rFile (Qy t.als Qv yk):=⟨_,rfl⟩
    obtain⟨ai,hai⟩:∃ x,x=rAt (Qy t.als Qv yk):=⟨_,rfl⟩
    unfold wrgAt at HWR;rw [← hfi,← hai] at HWR ⊢;clear hfi hai hbc WR HWT y0 y1 yl s0 s1 sl;have b0:wc.cell? ⟨w.heap.size,0,none⟩=some (.int .i64 0):=cR Nc.out.wb;have b1:wc.cell? ⟨w.heap.size,1,none⟩=some (.int .i64 0):=cR Nc.out.wb;have b2:wc.cell? ⟨w.heap.size,2,none⟩=some (.int .i64 0):=cR Nc.out.wb;have bf0:=frozen_of_row _ _ 0 _ _ Nc.out.wb;have bf1:=frozen_of_row _ _ 1 _ _ Nc.out.wb;have bf2:=frozen_of_row _ _ 2 _ _ Nc.out.wb;have bl:=lt_of_block Nc.out.wb;go_wp2_with fail;refine rnew_ret (Pb:=w.heap.size) (e:=e9) (f:=fi) (a:=ai) ?_ rfl rfl rfl ?_
    ·exact W3_row _ _ _ Nc.out.wb
    ·exact⟨.pointer none,⟨e9,fi,ai⟩,none,rfl,HWR.out,fun _=>rfl,fun R' h=>(by cases h),W3_below _ _ _ Nc.out.bel⟩
   have HTN:=hid (HST.out.1 tx htt);clear htt
   go_wp2_with (at_builtin;refine wpList_pushP rfl (.tmp 81) (.tmp 86) rfl w6.heap.size _ done (yk,tx) rfl ODa.out rfl (by have:=HDK.out;omega) HSa.out ?_;intro vb wb own gr mv;have ODb:=hid own;have Bb:=hid (Ba.out.grown gr Ba.out.size (fun k hk=>(World.ownsRow.lt ODa.out k hk).1));clear own gr mv y0 y1 yl s0 s1 sl)
   go_roundg (gk - 1)
   case measure=>have:=HG.out;omega
   case rel=>exact⟨k+1,done++[(yk,tx)],by omega,by have:=HG.out;omega,by simp,ODb.out,HTN.out,by simp [HDK.out],Bb.out⟩
  ·have hki:¬ (k:Int)<(gs.length:Int):=by omega
   obtain rfl:k=gs.length:=by omega
   have HDT:=hid (show tgtsF (Xq t) []=.inl done from by
    have:=HTD.out
    rw [List.drop_length,tgtsF,HGS.out] at this;exact this.symm)
   have N7:=hid (N6.out.below B7.out);have CH7:=hid (CH6.out.below B7.out);have F7:=hid (bk B7.out F6.out)
   obtain⟨ah,ch,rfl⟩:=Ql OD.out
   have hcap:done.length≤ch:=by
    rcases Qd.shape OD.out with ⟨e,h⟩ | ⟨g,cap,cur,e,_,_,hn,_⟩
    ·rw [h];simp
    ·cases e;exact hn
   have HDL:=hid (show done.length≤1000 by have:=HDK.out;have:=HLG.out;omega);have AN:=hid (anew_any w7 ah ch done OD.out.rd HDL.out hcap (HA.out done HDT.out).1);have N6b:=hid N6.out.bel.size;have B7b:=hid B7.out.size;clear hcap N6 CH6 F6 B7 OG hki hk hk0 hkb hlt HTD HG;go_wp2_with fail;refine AN.out.mono ?_;rintro e w8 ⟨hb8,e0,i0,va0,hao,rfl,hok,hne0⟩
   by_cases hz0:e0=0
   case neg =>
    obtain rfl:=hne0 hz0;have HIL:=hid (alOut_lt hao hz0);have HZ0:=hid (show((e0:Int)==0)=false from by simpa using hz0);have HAT:=hid (show New14 t (wrgAt e0 (Qy t.als Qv ((done.map (·.1)).getD i0 []))) none from New14.als HNO.out HDT.out hao hz0);have N8:=hid (N7.out.below hb8);have F8:=hid (bk hb8 F7.out);have OD8:=hid (show Qd w8 w6.heap.size (.slice ah done.length ch) done from Qz OD.out hb8);have HSZ6:=hid (show w.heap.size≤w6.heap.size∧w6.heap.size≤w8.heap.size from⟨N6b.out,Nat.le_trans B7b.out hb8.size⟩);clear hao hok hne0 hb8 AN N7 CH7 F7 hz0
    obtain⟨a0,a1,a2,a3,al⟩:=Kk N8.out.rs
    have af2:=frozen_of_row _ _ 2 _ _ N8.out.rs
    obtain⟨f0,f1,ff0,ff1,flt⟩:=Qq F8.out
    have F9:=hid (show(w8.setCell ⟨rb,2,none⟩ (.pointer none)).heap[fb]?=some (.cells #[.int .i64 0,.int .i64 0] 69 (0,0)) from(heap_setCell_other _ _ _ _ HF4.out.1).trans F8.out);have N9:=hid (((N8.out.set2 HT.out (.pointer none)).setO (i:=0) HT.out (.int .i64 e0) HF4.out.2.2 (Ne.symm HF4.out.1) (Ne.symm HF4.out.2.1)).setO (i:=1) HT.out (.int .i64 i0) HF4.out.2.2 (Ne.symm HF4.out.1) (Ne.symm HF4.out.2.1));have Fa:=hid (Kv (.int .i64 e0) (.int .i64 i0) F9.out);have OD9:=hid (show Qd (((w8.setCell ⟨rb,2,none⟩ (.pointer none)).setCell ⟨fb,0,none⟩ (.int .i64 e0)).setCell ⟨fb,1,none⟩ (.int .i64 i0)) w6.heap.size (.slice ah done.length ch) done from
     Qw (Qw (Qw OD8.out (Qx OD8.out N8.out.rs (by decide)) _ _) (Qx (Qw OD8.out (Qx OD8.out N8.out.rs (by decide)) 2 (.pointer none)) F9.out (by decide)) _ _) (Qx (Qw (Qw OD8.out (Qx OD8.out N8.out.rs (by decide)) 2 (.pointer none)) (Qx (Qw OD8.out (Qx OD8.out N8.out.rs (by decide)) 2 (.pointer none)) F9.out (by decide)) 0 (.int .i64 e0)) (heap_setCell_same _ _ _ _ _ _ F9.out) (by decide)) _ _)
    unfold P2 at Fa;have hzz:=HZ0.out;go_upto_region 20 with fail;generalize ((w8.setCell ⟨rb,2,none⟩ (.pointer none)).setCell ⟨fb,0,none⟩ (.int .i64 e0)).setCell ⟨fb,1,none⟩ (.int .i64 i0)=w9 at *;clear a0 a1 a2 a3 al af2 f0 f1 ff0 ff1 flt F8 F9 N8 OD8
    obtain⟨f0,f1,_,_,flt⟩:=Qq Fa.out
    go_upto_region 21 with fail
    obtain⟨ao,cp2,e,_,hcc⟩:=Ks (Qd.rd OD9.out)
    cases e
    obtain⟨pq,oq,rfl,hpq,c0,c1⟩:=hcc i0 HIL.out
    have HKL:=hid (((HA.out done HDT.out).1 _ (List.getElem_mem HIL.out)).1);have HKD:=hid (show(done.map (·.1)).getD i0 []=(done[i0]'HIL.out).1 from by rw [List.getD_eq_getElem?_getD,List.getElem?_map,List.getElem?_eq_getElem HIL.out];rfl);clear hcc;generalize done[i0]'HIL.out=yy at *
    obtain⟨kk,kv⟩:=yy
    simp only at c0 c1 HKL HKD;have hi0:(0:Int)≤(i0:Int):=by omega
    have hi1:(i0:Int)<(done.length:Int):=by have:=HIL.out;omega
    have hi2:(i0:Int)≤1000:=by have:=HDL.out;omega
    have WR:=hid (fun W (h:Below w9.heap.size w9 W)=>rwrong_any14 W rb Bt _ _ _ t e0 kk (bk h N9.out.rs) (N9.out.tb.below h) HKL.out);have HWR:=hid (show New14 t (wrgAt e0 (Qy t.als Qv kk)) none from by have:=HAT.out;rwa [HKD.out] at this)
    obtain⟨fi,hfi⟩:∃ x,x=rFile (Qy t.als Qv kk):=⟨_,rfl⟩
    obtain⟨ai,hai⟩:∃ x,x=rAt (Qy t.als Qv kk):=⟨_,rfl⟩
    unfold wrgAt at HWR;rw [← hfi,← hai] at HWR WR;clear hfi hai HAT;have hbd:Below w9.heap.size w9 w9.drew:=(Below.refl _ _).drew;have HBB:=hid (fun W (h:Below w9.heap.size w9 W)=>(show W.cell? ⟨w.heap.size,0,none⟩=some (.int .i64 0)∧W.cell? ⟨w.heap.size,1,none⟩=some (.int .i64 0)∧W.cell? ⟨w.heap.size,2,none⟩=some (.int .i64 0)∧W.frozen? ⟨w.heap.size,0,none⟩=false∧W.frozen? ⟨w.heap.size,1,none⟩=false∧W.frozen? ⟨w.heap.size,2,none⟩=false∧w.heap.size<W.heap.size from by
     have hr:=bk h N9.out.wb
     obtain⟨z0,z1,z2,zl⟩:=Qj hr
     obtain⟨zf0,zf1,zf2⟩:=Zl hr
     exact⟨z0,z1,z2,zf0,zf1,zf2,zl⟩))
    go_region_with (first
     | (go_at_call 32;(with_reducible refine(WR.out _ (by assumption)).mono ?_);rintro e wc ⟨rfl,hbc⟩;have HBC:=hid hbc;obtain⟨b0,b1,b2,bf0,bf1,bf2,bl⟩:=HBB.out wc (hbd.then hbc);clear hbc))
    all_goals
     go_wp2_with fail;refine rnew_ret (Pb:=w.heap.size) (e:=e0) (f:=fi) (a:=ai) ?_ rfl rfl rfl ?_
     ·exact W3_row _ _ _ ((N9.out.below (hbd.then HBC.out)).wb)
     ·exact⟨.pointer none,⟨e0,fi,ai⟩,none,rfl,HWR.out,fun _=>rfl,fun R' h=>(by cases h),W3_below _ _ _ ((N9.out.below (hbd.then HBC.out)).bel)⟩
   obtain rfl:e0=0:=hz0;have hi0:i0=0:=(al_ok hao).2.2.2;subst hi0;have AT8:=hid (hok rfl);rw [(HA.out done HDT.out).2] at AT8
   obtain⟨vab,kva,rfl,_⟩:=hok rfl
   have HAO:=hid hao;have N8:=hid (N7.out.below hb8);have CH8:=hid (CH7.out.below hb8);have F8:=hid (bk hb8 F7.out);have HLT7:=hid (show rb<w7.heap.size∧fb<w7.heap.size from⟨lt_of_block N7.out.rs,lt_of_block F7.out⟩);clear hok hne0 hb8 AN N7 CH7 F7
   obtain⟨a0,a1,a2,a3,al⟩:=Kk N8.out.rs
   have af2:=frozen_of_row _ _ 2 _ _ N8.out.rs;have F9:=hid (show(w8.setCell ⟨rb,2,none⟩ (.pointer (some ⟨vab,0,none⟩))).heap[fb]?=some (.cells #[.int .i64 0,.int .i64 0] 69 (0,0)) from(heap_setCell_other _ _ _ _ HF4.out.1).trans F8.out)
   obtain⟨f0,f1,ff0,ff1,flt⟩:=Qq F8.out
   have N9:=hid (((N8.out.set2 HT.out (.pointer (some ⟨vab,0,none⟩))).setO (i:=0) HT.out (.int .i64 0) HF4.out.2.2 (Ne.symm HF4.out.1) (Ne.symm HF4.out.2.1)).setO (i:=1) HT.out (.int .i64 0) HF4.out.2.2 (Ne.symm HF4.out.1) (Ne.symm HF4.out.2.1));have AT9:=hid (show AlAt w7.heap.size (((w8.setCell ⟨rb,2,none⟩ (.pointer (some ⟨vab,0,none⟩))).setCell ⟨fb,0,none⟩ (.int .i64 0)).setCell ⟨fb,1,none⟩ (.int .i64 0)) (.pointer (some ⟨vab,0,none⟩)) done from((AT8.out.set HLT7.out.1).set HLT7.out.2).set HLT7.out.2);have Fa:=hid (Kv (.int .i64 0) (.int .i64 0) F9.out);have CH9:=hid (show ChAt w2.heap.size (((w8.setCell ⟨rb,2,none⟩ (.pointer (some ⟨vab,0,none⟩))).setCell ⟨fb,0,none⟩ (.int .i64 0)).setCell ⟨fb,1,none⟩ (.int .i64 0)) (.pointer (some ⟨bc,0,none⟩)) (Xt t) from((CH8.out.set CRB.out).setF F9.out).setF (heap_setCell_same _ _ _ _ _ _ F9.out));unfold P2 at Fa;go_upto_region 20 with fail;generalize ((w8.setCell ⟨rb,2,none⟩ (.pointer (some ⟨vab,0,none⟩))).setCell ⟨fb,0,none⟩ (.int .i64 0)).setCell ⟨fb,1,none⟩ (.int .i64 0)=w9 at *;clear a0 a1 a2 a3 al af2 f0 f1 ff0 ff1 flt F8 F9 N8 CH8 AT8
   obtain⟨f0,f1,_,_,flt⟩:=Qq Fa.out
   have LR:=hid (learn_any (B0:=C) w9 rb Bt vab km (.pointer (some ⟨bc,0,none⟩)) t done N9.out.rs (fun W g=>HT.out.below (N9.out.bel.grown g N9.out.bel.size (fun k hk=>by cases hk;exact Nat.le_of_lt N9.out.lk))) OK.out SZ.out (fun W g=>(alAt_grown AT9.out N9.out.mp g).rd) (HA.out done HDT.out).1 HDL.out N9.out.mp HBASE.out);go_wp2_with fail;refine LR.out.mono ?_;rintro e wa ⟨okb,K,rfl,hko,hmo,hgo⟩;have HKO:=hid hko;have RSa:=hid (Kd N9.out.rs N9.out.mp hgo);have WBa:=hid (Kd N9.out.wb N9.out.mp hgo);have Ba:=hid (N9.out.bel.grown hgo N9.out.bel.size (fun k hk=>by cases hk;exact Nat.le_of_lt N9.out.lk));have b0:wa.cell? ⟨w.heap.size,0,none⟩=some (.int .i64 0):=cR WBa.out;have b1:wa.cell? ⟨w.heap.size,1,none⟩=some (.int .i64 0):=cR WBa.out;have b2:wa.cell? ⟨w.heap.size,2,none⟩=some (.int .i64 0):=cR WBa.out;have bf0:=frozen_of_row _ _ 0 _ _ WBa.out;have bf1:=frozen_of_row _ _ 1 _ _ WBa.out;have bf2:=frozen_of_row _ _ 2 _ _ WBa.out;have bl:=lt_of_block WBa.out
   cases okb with
   | false =>
    have HWR:=hid (show New14 t ⟨3,-1,0⟩ none from New14.lng HNO.out HDT.out HAO.out HKO.out);clear hko hmo hgo f0 f1 flt LR N9 AT9 CH9 Fa;go_wp2_with fail;refine rnew_ret (Pb:=w.heap.size) (e:=3) (f:=-1) (a:=0) ?_ rfl rfl rfl ?_
    ·exact W3_row _ _ _ WBa.out
    ·exact⟨.pointer none,⟨3,-1,0⟩,none,rfl,HWR.out,fun _=>rfl,fun R' h=>(by cases h),W3_below _ _ _ Ba.out⟩
   | true =>
    have CHa:=hid (chAt_grown CH9.out CKM.out N9.out.mp hgo);have ATa:=hid (alAt_grown AT9.out N9.out.mp hgo);have MPa:=hid hmo;have LRK:=hid (show w.heap.size<rb∧w.heap.size<km∧w.heap.size<w7.heap.size∧w.heap.size<w2.heap.size from⟨N9.out.lr,N9.out.lk,Nat.lt_trans N9.out.lr HLT7.out.1,Nat.lt_trans N9.out.lr CRB.out⟩);clear hko hmo hgo f0 f1 flt LR N9 AT9 CH9 Fa;go_wp2_with fail;refine rnew_ret (Pb:=w.heap.size) (e:=0) (f:=0) (a:=0) ?_ rfl rfl rfl ?_
    ·exact W3_row _ _ _ WBa.out
    ·have hrb:rb≠w.heap.size:=Nat.ne_of_gt LRK.out.1;have hkm:km≠w.heap.size:=Nat.ne_of_gt LRK.out.2.1;have hB:=W3_below (w:=w) (.int .i64 0) (.int .i64 0) (.int .i64 0) Ba.out
     refine⟨.pointer (some ⟨rb,0,none⟩),⟨0,0,0⟩,some ⟨t,Xt t,done,K⟩,rfl,New14.ok HNO.out HDT.out HAO.out HKO.out,fun h=>(by cases h),fun R' h=>?_,hB⟩
     cases h
     refine⟨rb,Bt,bc,vab,km,K.length,rfl,?_,HT.out.below hB,(((CHa.out.set LRK.out.2.2.2).set LRK.out.2.2.2).set LRK.out.2.2.2).rd,(((ATa.out.set LRK.out.2.2.1).set LRK.out.2.2.1).set LRK.out.2.2.1).rd,?_⟩
     ·rw [heap_setCell_other _ _ _ _ hrb,heap_setCell_other _ _ _ _ hrb,heap_setCell_other _ _ _ _ hrb];exact RSa.out
     ·exact MPa.out.block (by rw [heap_setCell_other _ _ _ _ hkm,heap_setCell_other _ _ _ _ hkm,heap_setCell_other _ _ _ _ hkm])
end
section
open Go.Lib
abbrev Ev:=Str×Itm
structure Inv (E:List Ev)(NS:List Str)(t:Tb):Prop where
 rows:∀ loc p v,(Qy t.rows loc p).map (·.text)=some v↔∃ x,(loc,x)∈E∧x.alias'=false∧x.path=p∧x.value=v
 als:∀ p v,(Qy t.als Qv p).map (·.text)=some v↔∃ loc x,(loc,x)∈E∧x.alias'=true∧x.path=p∧x.value=v
 names:∀ s,s∈t.names↔s∈NS
 paths:∀ p,p∈t.paths↔∃ loc x,(loc,x)∈E∧x.alias'=false∧x.path=p
theorem Inv.zero:Inv [] [] Tb.zero:=⟨fun loc p v=>by simp [Qy,Tb.zero],fun p v=>by simp [Qy,Tb.zero],fun s=>by simp [Tb.zero],fun p=>by simp [Tb.zero]⟩
theorem ev_one {E:List Ev}{loc:Str}{x:Itm}{l:Str}{Q:Itm→Prop}:(∃ y,(l,y)∈E++[(loc,x)]∧Q y)↔(∃ y,(l,y)∈E∧Q y)∨(l=loc∧Q x):=by
 constructor
 ·rintro⟨y,hy,q⟩
  rcases List.mem_append.1 hy with hy | hy
  ·exact Or.inl ⟨y,hy,q⟩
  ·have:=List.mem_singleton.1 hy
   cases this;exact Or.inr ⟨rfl,q⟩
 ·rintro(⟨y,hy,q⟩ | ⟨rfl,q⟩)
  ·exact⟨y,List.mem_append.2 (Or.inl hy),q⟩
  ·exact⟨x,List.mem_append.2 (Or.inr (List.mem_singleton.2 rfl)),q⟩
theorem ev_any {E:List Ev}{loc:Str}{x:Itm}{Q:Itm→Prop}:(∃ l y,(l,y)∈E++[(loc,x)]∧Q y)↔(∃ l y,(l,y)∈E∧Q y)∨Q x:=by
 constructor
 ·rintro⟨l,h⟩
  rcases ev_one.1 h with h | ⟨_,q⟩
  ·exact Or.inl ⟨l,h⟩
  ·exact Or.inr q
 ·rintro(⟨l,h⟩ | q)
  ·exact⟨l,ev_one.2 (Or.inl h)⟩
  ·exact⟨loc,ev_one.2 (Or.inr ⟨rfl,q⟩)⟩
theorem findR_app (l:List Rw)(r:Rw)(loc p:Str):Qy (l++[r]) loc p=(Qy l loc p).or (if r.loc=loc∧r.path=p then some r else none):=by
 unfold Qy;rw [List.find?_append]
 cases List.find? (fun r=>r.loc==loc&&r.path==p) l with
 | some x=>rfl
 | none =>
  by_cases h:r.loc=loc∧r.path=p
  ·rw [if_pos h];simp [h.1,h.2]
  ·rw [if_neg h]
   have:(r.loc==loc&&r.path==p)=false:=by
    rw [Bool.eq_false_iff];intro e;simp only [Bool.and_eq_true,beq_iff_eq] at e;exact h e
   simp [List.find?_cons,this]
section
variable {E : List Ev} {NS : List Str} {t : Tb} {loc : Str} {f : Nat} {x : Itm}
theorem inv_alias_keep (h:Inv E NS t)(ha:x.alias'=true)(hv:(Qy t.als Qv x.path).map (·.text)=some x.value):Inv (E++[(loc,x)]) NS t:=by
 refine⟨fun l p v=>?_,fun p v=>?_,h.names,fun p=>?_⟩
 ·rw [h.rows,ev_one]
  exact⟨Or.inl,fun e=>e.elim id (fun e=>by rw [ha] at e;exact absurd e.2.1 (by simp))⟩
 ·rw [ev_any,← h.als]
  refine⟨Or.inl,fun e=>e.elim id ?_⟩
  rintro⟨_,rfl,rfl⟩
  exact hv
 ·rw [h.paths,ev_any]
  exact⟨Or.inl,fun e=>e.elim id (fun e=>by rw [ha] at e;exact absurd e.1 (by simp))⟩
theorem inv_alias_new (h:Inv E NS t)(ha:x.alias'=true)(hl:loc=Qv)(hf:Qy t.als Qv x.path=none):Inv (E++[(loc,x)]) NS { t with als:=t.als++[⟨loc,x.path,x.value,f,x.at'⟩] }:=by
 refine⟨fun l p v=>?_,fun p v=>?_,h.names,fun p=>?_⟩
 ·show(Qy t.rows l p).map (·.text)=some v↔_
  rw [h.rows,ev_one]
  exact⟨Or.inl,fun e=>e.elim id (fun e=>by rw [ha] at e;exact absurd e.2.1 (by simp))⟩
 ·show(Qy (t.als++[⟨loc,x.path,x.value,f,x.at'⟩]) Qv p).map (·.text)=some v↔_
  rw [ev_any,← h.als,findR_app]
  by_cases hp:x.path=p
  ·subst hp;rw [hf,if_pos ⟨hl,rfl⟩]
   simp [ha]
  ·rw [if_neg (fun e=>hp e.2),Option.or_none]
   exact⟨Or.inl,fun e=>e.elim id (fun e=>absurd e.2.1 hp)⟩
 ·show p∈t.paths↔_;rw [h.paths,ev_any]
  exact⟨Or.inl,fun e=>e.elim id (fun e=>by rw [ha] at e;exact absurd e.1 (by simp))⟩
theorem inv_row_keep (h:Inv E NS t)(ok:Jq t)(ha:x.alias'=false)(hv:(Qy t.rows loc x.path).map (·.text)=some x.value):Inv (E++[(loc,x)]) NS t:=by
 refine⟨fun l p v=>?_,fun p v=>?_,h.names,fun p=>?_⟩
 ·rw [ev_one,← h.rows]
  refine⟨Or.inl,fun e=>e.elim id ?_⟩
  rintro⟨rfl,_,rfl,rfl⟩
  exact hv
 ·rw [h.als,ev_any]
  exact⟨Or.inl,fun e=>e.elim id (fun e=>by rw [ha] at e;exact absurd e.1 (by simp))⟩
 ·rw [ev_any,← h.paths]
  refine⟨Or.inl,fun e=>e.elim id ?_⟩
  rintro⟨_,rfl⟩
  obtain⟨r,hr,_⟩:=Option.map_eq_some_iff.1 hv
  obtain⟨h1,_,h3⟩:=findR_some hr
  rw [← h3];exact ok.rp r h1
theorem inv_row_new (h:Inv E NS t)(ha:x.alias'=false)(hf:Qy t.rows loc x.path=none){ps:List Str}(hps:∀ p,p∈ps↔p∈t.paths∨p=x.path):Inv (E++[(loc,x)]) NS { t with rows:=t.rows++[⟨loc,x.path,x.value,f,x.at'⟩],paths:=ps }:=by
 refine⟨fun l p v=>?_,fun p v=>?_,h.names,fun p=>?_⟩
 ·show(Qy (t.rows++[⟨loc,x.path,x.value,f,x.at'⟩]) l p).map (·.text)=some v↔_
  rw [ev_one,← h.rows,findR_app]
  by_cases hp:loc=l∧x.path=p
  ·obtain⟨rfl,rfl⟩:=hp
   rw [hf,if_pos ⟨rfl,rfl⟩]
   simp [ha]
  ·rw [if_neg hp,Option.or_none]
   exact⟨Or.inl,fun e=>e.elim id (fun e=>absurd ⟨e.1.symm,e.2.2.1⟩ hp)⟩
 ·show(Qy t.als Qv p).map (·.text)=some v↔_
  rw [h.als,ev_any]
  exact⟨Or.inl,fun e=>e.elim id (fun e=>by rw [ha] at e;exact absurd e.1 (by simp))⟩
 ·show p∈ps↔_;rw [hps,h.paths,ev_any]
  constructor
  ·rintro(e | rfl)
   ·exact Or.inl e
   ·exact Or.inr ⟨ha,rfl⟩
  ·rintro(e | ⟨_,e⟩)
   ·exact Or.inl e
   ·exact Or.inr e.symm
def okItm (loc:Str)(x:Itm):Prop:=¬ (x.path=[]∨Qm x.path=false)∧¬ (x.alias'=true∧loc≠Qv)
theorem item_inv {t':Tb}(h:Inv E NS t)(ok:Jq t)(hi:itemF t loc f x=(0,t')):okItm loc x∧Inv (E++[(loc,x)]) NS t':=by
 unfold itemF at hi
 split at hi
 ·cases hi
 rename_i h1
 split at hi
 ·cases hi
 rename_i h2
 refine⟨⟨h1,h2⟩,?_⟩
 split at hi
 ·rename_i h3
  have hl:loc=Qv:=by
   by_cases e:loc=Qv
   ·exact e
   ·exact absurd ⟨h3,e⟩ h2
  subst hl
  split at hi
  ·rename_i r hr
   split at hi
   ·rename_i h4
    cases hi;exact inv_alias_keep h h3 (by rw [hr];simp [h4])
   ·cases hi
  ·rename_i hr
   cases hi;exact inv_alias_new h h3 rfl hr
 ·rename_i h3
  have ha:x.alias'=false:=by simpa using h3
  split at hi
  ·rename_i r hr
   split at hi
   ·rename_i h4
    cases hi;exact inv_row_keep h ok ha (by rw [hr];simp [h4])
   ·cases hi
  ·rename_i hr
   split at hi
   ·rename_i hp
    cases hi
    have:=inv_row_new (f:=f) h ha hr (ps:=t.paths) (fun p=>⟨Or.inl,fun e=>e.elim id (fun e=>e ▸ hp)⟩)
    exact this
   ·split at hi
    ·cases hi
    ·cases hi;exact inv_row_new h ha hr (fun p=>by simp)
end
end
section
open Go.Lib
def evI (loc:Str)(l:List Itm):List Ev:=l.map fun x=>(loc,x)
def evs (L:List Dc):List Ev:=L.flatMap fun d=>evI d.loc d.items
def nms (L:List Dc):List Str:=(L.filter fun d=>!d.supp).map (·.loc)
def okHead (d:Dc):Prop:=¬ ((d.supp=true∧d.loc≠[])∨(d.supp=false∧Qk d.loc=false))
def okDoc (d:Dc):Prop:=okHead d∧∀ x∈d.items,okItm d.loc x
theorem evs_cons (d:Dc)(L:List Dc):evs (d::L)=evI d.loc d.items++evs L:=by simp [evs]
theorem nms_cons (d:Dc)(L:List Dc):nms (d::L)=(if d.supp=true then [] else [d.loc])++nms L:=by
 unfold nms
 cases hs:d.supp <;> simp [List.filter_cons,hs]
theorem items_inv (loc:Str)(f:Nat):∀ (l:List Itm){E:List Ev}{NS:List Str}{t t':Tb},Inv E NS t→Jq t→itemsF loc f t l=(none,t')→(∀ x∈l,okItm loc x)∧Inv (E++evI loc l) NS t'∧Jq t'
 | [],E,NS,t,t',h,ok,hi=>by
  cases hi
  exact⟨(fun x hx=>by cases hx),(by simpa [evI] using h),ok⟩
 | x::r,E,NS,t,t',h,ok,hi=>by
  rw [itemsF] at hi
  cases he:itemF t loc f x with
  | mk e t1 =>
   rw [he] at hi
   cases e with
   | succ e=>cases hi
   | zero =>
    obtain⟨h1,h2⟩:=item_inv h ok he
    have ok1:=item_ok ok loc f x;rw [he] at ok1
    obtain⟨h3,h4,h5⟩:=items_inv loc f r h2 ok1 hi
    refine⟨fun y hy=>?_,by rw [List.append_assoc] at h4;exact h4,h5⟩
    rcases List.mem_cons.1 hy with rfl | hy
    ·exact h1
    ·exact h3 y hy
theorem items_err (loc:Str)(f:Nat):∀ (l:List Itm){t t':Tb}{e:Nat}{a:Int},itemsF loc f t l=(some (e,a),t')→e≠0
 | [],t,t',e,a,hi=>by cases hi
 | x::r,t,t',e,a,hi=>by
  rw [itemsF] at hi
  cases he:itemF t loc f x with
  | mk e1 t1 =>
   rw [he] at hi
   cases e1 with
   | zero=>exact items_err loc f r hi
   | succ e1=>cases hi;exact Nat.succ_ne_zero _
theorem head_inv {E:List Ev}{NS:List Str}{t t1:Tb}{d:Dc}(h:Inv E NS t)(hh:headF t d=(0,t1)):okHead d∧Inv E (NS++(if d.supp=true then [] else [d.loc])) t1:=by
 unfold headF at hh
 split at hh
 ·cases hh
 rename_i h1
 refine⟨h1,?_⟩
 split at hh
 ·rename_i h2
  cases hh
  refine⟨h.rows,h.als,fun s=>?_,h.paths⟩
  by_cases hs:d.supp=true
  ·rw [if_pos hs,List.append_nil];exact h.names s
  ·rw [if_neg hs,List.mem_append,List.mem_singleton,← h.names]
   exact⟨Or.inl,fun e=>e.elim id (fun e=>by rw [e];exact h2.resolve_left hs)⟩
 ·rename_i h2
  split at hh
  ·cases hh
  ·cases hh
   refine⟨h.rows,h.als,fun s=>?_,h.paths⟩
   have hs:¬ d.supp=true:=fun e=>h2 (Or.inl e)
   rw [if_neg hs];show s∈t.names++[d.loc]↔_;rw [List.mem_append,List.mem_append,h.names]
theorem docs_inv:∀ (L:List Dc)(f:Nat){t:Tb}{E:List Ev}{NS:List Str},Inv E NS t→Jq t→(docsF f t L).1.err=0 →
  (docsF f t L).1=Wrg.ok∧(∀ d∈L,okDoc d)∧Inv (E++evs L) (NS++nms L) (docsF f t L).2∧Jq (docsF f t L).2
 | [],f,t,E,NS,h,ok,hz=>⟨rfl,(fun d hd=>by cases hd),(by simpa [evs,nms,docsF] using h),ok⟩
 | d::r,f,t,E,NS,h,ok,hz=>by
  rw [docsF] at hz ⊢
  cases hh:headF t d with
  | mk e t1 =>
   rw [hh] at hz
   cases e with
   | succ e=>cases hz
   | zero =>
    obtain⟨o1,i1⟩:=head_inv h hh
    have k1:=head_tb ok d;rw [hh] at k1;simp only at hz ⊢
    cases hi:itemsF d.loc f t1 d.items with
    | mk x t2 =>
     rw [hi] at hz
     cases x with
     | some y =>
      obtain⟨e,a⟩:=y
      exact absurd hz (items_err _ _ _ hi)
     | none =>
      obtain⟨o2,i2,k2⟩:=items_inv d.loc f d.items i1 k1 hi
      simp only at hz ⊢
      obtain⟨r1,r2,r3,r4⟩:=docs_inv r (f+1) i2 k2 hz
      refine⟨r1,fun y hy=>?_,?_,r4⟩
      ·rcases List.mem_cons.1 hy with rfl | hy
       ·exact⟨o1,o2⟩
       ·exact r2 y hy
      ·rw [evs_cons,nms_cons,← List.append_assoc,← List.append_assoc];exact r3
def Cons (E:List Ev):Prop:=∀ e∈E,∀ e'∈E,e.2.alias'=e'.2.alias'→e.2.path=e'.2.path→(e.2.alias'=true∨e.1=e'.1)→e.2.value=e'.2.value
theorem inv_cons {E:List Ev}{NS:List Str}{t:Tb}(h:Inv E NS t):Cons E:=by
 rintro⟨l,x⟩ hx ⟨l',x'⟩ hx' ha hp hl
 simp only at ha hp hl ⊢
 cases hb:x.alias' with
 | true =>
  have e1:=(h.als x.path x.value).2 ⟨l,x,hx,hb,rfl,rfl⟩;have e2:=(h.als x'.path x'.value).2 ⟨l',x',hx',by rw [← ha];exact hb,rfl,rfl⟩;rw [hp] at e1;exact Option.some.inj (e1.symm.trans e2)
 | false =>
  have hll:l=l':=hl.resolve_left (by rw [hb];simp);subst hll;have e1:=(h.rows l x.path x.value).2 ⟨x,hx,hb,rfl,rfl⟩;have e2:=(h.rows l x'.path x'.value).2 ⟨x',hx',by rw [← ha];exact hb,rfl,rfl⟩;rw [hp] at e1;exact Option.some.inj (e1.symm.trans e2)
theorem item_go {E:List Ev}{NS:List Str}{t:Tb}{loc:Str}{f:Nat}{x:Itm}(h:Inv E NS t)(ok:Jq t)(ho:okItm loc x)(hc:Cons (E++[(loc,x)]))(hl:E.length<16384):∃ t',itemF t loc f x=(0,t'):=by
 have hin:(loc,x)∈E++[(loc,x)]:=by simp
 unfold itemF;rw [if_neg ho.1,if_neg ho.2]
 by_cases ha:x.alias'=true
 ·rw [if_pos ha];have hlr:loc=Qv:=by
   by_cases e:loc=Qv
   ·exact e
   ·exact absurd ⟨ha,e⟩ ho.2
  subst hlr
  cases hf:Qy t.als Qv x.path with
  | none=>exact⟨_,rfl⟩
  | some r =>
   obtain⟨l',x',hx',a1,a2,a3⟩:=(h.als x.path r.text).1 (by rw [hf];rfl)
   have:=hc _ hin _ (List.mem_append.2 (Or.inl hx')) (by show x.alias'=x'.alias';rw [ha,a1]) a2.symm (Or.inl ha)
   simp only
   rw [if_pos (by rw [← a3];exact this.symm)]
   exact⟨_,rfl⟩
 ·rw [if_neg ha];have hb:x.alias'=false:=by simpa using ha
  cases hf:Qy t.rows loc x.path with
  | some r =>
   obtain⟨x',hx',a1,a2,a3⟩:=(h.rows loc x.path r.text).1 (by rw [hf];rfl)
   have:=hc _ hin _ (List.mem_append.2 (Or.inl hx')) (by show x.alias'=x'.alias';rw [hb,a1]) a2.symm (Or.inr rfl)
   simp only
   rw [if_pos (by rw [← a3];exact this.symm)]
   exact⟨_,rfl⟩
  | none =>
   simp only
   by_cases hp:x.path∈t.paths
   ·rw [if_pos hp];exact⟨_,rfl⟩
   ·rw [if_neg hp]
    have:=nodup_le t.paths (E.map (fun e=>e.2.path)) ok.paths (fun p hp=>by
     obtain⟨l,y,hy,_,e⟩:=(h.paths p).1 hp
     exact List.mem_map.2 ⟨(l,y),hy,e⟩)
    rw [List.length_map] at this;rw [if_neg (by omega)];exact⟨_,rfl⟩
theorem items_go (loc:Str)(f:Nat):∀ (l:List Itm){E:List Ev}{NS:List Str}{t:Tb},Inv E NS t→Jq t→(∀ x∈l,okItm loc x)→Cons (E++evI loc l)→(E++evI loc l).length≤16384→∃ t',itemsF loc f t l=(none,t')
 | [],E,NS,t,h,ok,ho,hc,hl=>⟨t,rfl⟩
 | x::r,E,NS,t,h,ok,ho,hc,hl=>by
  have e:E++evI loc (x::r)=(E++[(loc,x)])++evI loc r:=by simp [evI]
  rw [e] at hc hl
  obtain⟨t1,h1⟩:=item_go (f:=f) h ok (ho x (List.mem_cons_self ..)) (fun a ha b hb=>hc a (List.mem_append.2 (Or.inl ha)) b (List.mem_append.2 (Or.inl hb))) (by simp only [List.length_append,List.length_singleton] at hl;omega)
  obtain⟨_,h2⟩:=item_inv h ok h1
  have k1:=item_ok ok loc f x;rw [h1] at k1
  obtain⟨t2,h3⟩:=items_go loc f r h2 k1 (fun y hy=>ho y (List.mem_cons_of_mem _ hy)) hc hl
  exact⟨t2,by rw [itemsF,h1];exact h3⟩
theorem head_go {E:List Ev}{NS:List Str}{t:Tb}{d:Dc}(h:Inv E NS t)(ok:Jq t)(ho:okHead d)(hl:(NS++(if d.supp=true then [] else [d.loc])).length≤512):∃ t1,headF t d=(0,t1):=by
 unfold headF;rw [if_neg ho]
 by_cases h2:d.supp=true∨d.loc∈t.names
 ·rw [if_pos h2];exact⟨_,rfl⟩
 ·rw [if_neg h2];have hs:¬ d.supp=true:=fun e=>h2 (Or.inl e)
  rw [if_neg hs] at hl
  have:=nodup_le (t.names++[d.loc]) (NS++[d.loc]) (by
   rw [List.nodup_append]
   exact⟨ok.names,by simp,fun a ha b hb e=>h2 (Or.inr (by rw [List.mem_singleton.1 hb] at e;exact e ▸ ha))⟩) (fun s hs=>by
    rcases List.mem_append.1 hs with hs | hs
    ·exact List.mem_append.2 (Or.inl ((h.names s).1 hs))
    ·exact List.mem_append.2 (Or.inr hs))
  rw [List.length_append,List.length_singleton] at this;rw [if_neg (by omega)];exact⟨_,rfl⟩
theorem docs_go:∀ (L:List Dc)(f:Nat){t:Tb}{E:List Ev}{NS:List Str},Inv E NS t→Jq t→(∀ d∈L,okDoc d)→Cons (E++evs L)→(NS++nms L).length≤512→(E++evs L).length≤16384→(docsF f t L).1.err=0
 | [],f,t,E,NS,h,ok,ho,hc,hn,hl=>rfl
 | d::r,f,t,E,NS,h,ok,ho,hc,hn,hl=>by
  rw [evs_cons,← List.append_assoc] at hc hl;rw [nms_cons,← List.append_assoc] at hn
  obtain⟨t1,h1⟩:=head_go h ok (ho d (List.mem_cons_self ..)).1 (by rw [List.length_append] at hn;omega)
  obtain⟨_,i1⟩:=head_inv h h1
  have k1:=head_tb ok d;rw [h1] at k1
  obtain⟨t2,h2⟩:=items_go d.loc f d.items i1 k1 (ho d (List.mem_cons_self ..)).2 (fun a ha b hb=>hc a (List.mem_append.2 (Or.inl ha)) b (List.mem_append.2 (Or.inl hb))) (by rw [List.length_append] at hl;omega)
  obtain⟨_,i2,k2⟩:=items_inv d.loc f d.items i1 k1 h2
  rw [docsF,h1];simp only [h2];exact docs_go r (f+1) i2 k2 (fun y hy=>ho y (List.mem_cons_of_mem _ hy)) hc hn hl
end
section
open Go.Lib
theorem srtT_mem {l m:List Str}(hl:l.Nodup)(hm:m.Nodup)(h:∀ x,x∈l↔x∈m):srtT l=srtT m:=srtT_of_perm ((List.perm_ext_iff_of_nodup hl hm).2 h)
theorem opt_ext {a b:Option Str}(h:∀ v,a=some v↔b=some v):a=b:=by
 cases a with
 | none =>
  cases b with
  | none=>rfl
  | some v=>have:=(h v).2 rfl;cases this
 | some v=>exact((h v).1 rfl).symm
theorem rows_mem {t:Tb}{loc p:Str}:p∈(Kl t loc).map (·.path)↔∃ v,(Qy t.rows loc p).map (·.text)=some v:=by
 constructor
 ·intro h
  obtain⟨r,hr,rfl⟩:=List.mem_map.1 h
  obtain⟨h2,h3⟩:=List.mem_filter.1 hr
  cases hf:Qy t.rows loc r.path with
  | some x=>exact⟨x.text,rfl⟩
  | none=>exact absurd ⟨by simpa using h3,rfl⟩ (findR_none.1 hf r h2)
 ·rintro⟨v,h⟩
  obtain⟨r,hr,_⟩:=Option.map_eq_some_iff.1 h
  obtain⟨h1,h2,h3⟩:=findR_some hr
  exact List.mem_map.2 ⟨r,List.mem_filter.2 ⟨h1,by simpa using h2⟩,h3⟩
theorem als_find {t:Tb}(ok:Jq t){r:Rw}(h:r∈t.als):Qy t.als Qv r.path=some r:=by
 cases hf:Qy t.als Qv r.path with
 | none=>exact absurd ⟨ok.root r h,rfl⟩ (findR_none.1 hf r h)
 | some x =>
  obtain⟨h1,h2,h3⟩:=findR_some hf
  have hn:=ok.als;rw [List.Nodup,List.pairwise_map,List.pairwise_iff_getElem] at hn
  obtain⟨i,hi,rfl⟩:=List.getElem_of_mem h
  obtain⟨j,hj,rfl⟩:=List.getElem_of_mem h1
  by_cases hij:i=j
  ·subst hij;rfl
  ·exfalso
   rcases Nat.lt_or_gt_of_ne hij with hl | hl
   ·exact hn i j hi hj hl h3.symm
   ·exact hn j i hj hi hl h3
theorem alP_mem {t:Tb}(ok:Jq t){p v:Str}:(p,v)∈alP t↔(Qy t.als Qv p).map (·.text)=some v:=by
 constructor
 ·intro h
  obtain⟨r,hr,e⟩:=List.mem_map.1 h
  simp only [Prod.mk.injEq] at e;rw [← e.1,als_find ok hr,← e.2];rfl
 ·intro h
  obtain⟨r,hr,e⟩:=Option.map_eq_some_iff.1 h
  obtain⟨h1,h2,h3⟩:=findR_some hr
  exact List.mem_map.2 ⟨r,h1,by rw [h3,e]⟩
theorem alP_nodup {t:Tb}(ok:Jq t):(alP t).Nodup:=by
 have:=ok.als
 rw [← alP_keys,List.Nodup,List.pairwise_map] at this;exact this.imp fun h e=>h (by rw [e])
theorem evs_mem {L:List Dc}{e:Ev}:e∈evs L↔∃ d∈L,∃ x∈d.items,e=(d.loc,x):=by
 unfold evs evI;simp only [List.mem_flatMap,List.mem_map]
 exact⟨fun⟨d,hd,x,hx,he⟩=>⟨d,hd,x,hx,he.symm⟩,fun⟨d,hd,x,hx,he⟩=>⟨d,hd,x,hx,he.symm⟩⟩
theorem nms_mem {L:List Dc}{s:Str}:s∈nms L↔∃ d∈L,d.supp=false∧d.loc=s:=by
 unfold nms;simp only [List.mem_map,List.mem_filter,Bool.not_eq_true',and_assoc]
theorem evs_len:∀ (L:List Dc)(k:Nat),(∀ d∈L,d.items.length≤k)→(evs L).length≤k * L.length
 | [],k,h=>Nat.zero_le _
 | d::r,k,h=>by
  have h1:=h d (List.mem_cons_self ..);have ih:=evs_len r k (fun x hx=>h x (List.mem_cons_of_mem _ hx));rw [evs_cons,List.length_append,List.length_cons,Nat.mul_succ];simp only [evI,List.length_map]
  omega
end
section
open Go.Lib
def Xy (t:Tb)(q:Str):List Str→Option Str
 | []=>none
 | x::r=>match atF t (x,q) with
  | some v=>some v
  | none=>Xy t q r
theorem firstUp_cons (t:Tb)(q x:Str)(r:List Str):Xy t q (x::r)=match atF t (x,q) with | some v=>some v | none=>Xy t q r:=rfl
theorem look_up (t:Tb)(q:Str):∀ c:List Str,(Xh t (c.map fun x=>(x,q))).2=Xy t q c
 | []=>rfl
 | x::r=>by
  rw [List.map_cons,Xh,Xy]
  cases atF t (x,q) with
  | some v=>rfl
  | none=>exact look_up t q r
noncomputable def sameV (R:Rsv)(loc p v:Str):Bool:=(Xw R.par loc).2&&decide (loc≠Qv)&&decide (Xy R.t p (Xl R.par (Xw R.par loc).1)=some v)
noncomputable def sameI (R:Rsv)(loc:Str)(x:Itm):Bool:=!x.alias'&&sameV R loc x.path x.value
noncomputable def lessDoc (R:Rsv)(d:Dc):Dc:={ d with items:=d.items.filter fun x=>!sameI R d.loc x }
noncomputable def Jk (R:Rsv)(L:List Dc):List Dc:=L.map (lessDoc R)
theorem less_evs (R:Rsv):∀ L:List Dc,evs (Jk R L)=(evs L).filter fun e=>!sameI R e.1 e.2
 | []=>rfl
 | d::r=>by
  have ih:=less_evs R r;show evs (lessDoc R d::Jk R r)=_;rw [evs_cons,evs_cons,List.filter_append,ih]
  congr 1
  show evI d.loc (d.items.filter _)=_;unfold evI;rw [List.filter_map]
  rfl
theorem less_nms (R:Rsv):∀ L:List Dc,nms (Jk R L)=nms L
 | []=>rfl
 | d::r=>by
  have ih:=less_nms R r;show nms (lessDoc R d::Jk R r)=_;rw [nms_cons,nms_cons,ih];rfl
structure LessT (R:Rsv)(u:Tb):Prop where
 text:∀ loc p v,(Qy u.rows loc p).map (·.text)=some v↔((Qy R.t.rows loc p).map (·.text)=some v∧sameV R loc p v=false)
 als:Xq u=Xq R.t
 names:srtT u.names=srtT R.t.names
 ok:Jq u
 paths:∀ p∈u.paths,p∈R.t.paths
theorem less_new {R:Rsv}{L:List Dc}(h:(Kc L).1.err=0)(ht:R.t=(Kc L).2)(hn:(nms L).length≤512)(hl:(evs L).length≤16384) :
  (Kc (Jk R L)).1=Wrg.ok∧LessT R (Kc (Jk R L)).2:=by
 obtain⟨_,h2,h3,h4⟩:=docs_inv L 0 Inv.zero Jq.zero h
 rw [List.nil_append,List.nil_append] at h3;change Inv (evs L) (nms L) (Kc L).2 at h3;change Jq (Kc L).2 at h4;rw [← ht] at h3 h4;have hc:=inv_cons h3;have hsub:∀ e,e∈evs (Jk R L)↔e∈evs L∧sameI R e.1 e.2=false:=fun e=>by
  rw [less_evs,List.mem_filter];simp
 have hok:∀ d∈Jk R L,okDoc d:=fun d hd=>by
  obtain⟨c,hcL,rfl⟩:=List.mem_map.1 hd
  obtain⟨o1,o2⟩:=h2 c hcL
  exact⟨o1,fun x hx=>o2 x (List.mem_filter.1 hx).1⟩
 have hz:=docs_go (Jk R L) 0 Inv.zero Jq.zero hok (by rw [List.nil_append];exact fun a ha b hb=>hc a ((hsub a).1 ha).1 b ((hsub b).1 hb).1) (by rw [List.nil_append,less_nms];exact hn) (by
  rw [List.nil_append,less_evs];exact Nat.le_trans (List.length_filter_le _ _) hl)
 obtain⟨g1,g2,g3,g4⟩:=docs_inv (Jk R L) 0 Inv.zero Jq.zero hz
 rw [List.nil_append,List.nil_append] at g3;change Inv (evs (Jk R L)) (nms (Jk R L)) (Kc (Jk R L)).2 at g3;change Jq (Kc (Jk R L)).2 at g4
 refine⟨g1,⟨fun loc p v=>?_,?_,?_,g4,fun p hp=>?_⟩⟩
 ·rw [g3.rows,h3.rows]
  constructor
  ·rintro⟨x,hx,ha,rfl,rfl⟩
   obtain⟨e1,e2⟩:=(hsub _).1 hx
   refine⟨⟨x,e1,ha,rfl,rfl⟩,?_⟩
   unfold sameI at e2;rw [ha] at e2
   simpa using e2
  ·rintro⟨⟨x,hx,ha,rfl,rfl⟩,hs⟩
   refine⟨x,(hsub _).2 ⟨hx,?_⟩,ha,rfl,rfl⟩
   unfold sameI;rw [hs];simp
 ·have hp:(alP (Kc (Jk R L)).2).Perm (alP R.t):=(List.perm_ext_iff_of_nodup (alP_nodup g4) (alP_nodup h4)).2 fun⟨p,v⟩=>by
   rw [alP_mem g4,alP_mem h4,g3.als,h3.als]
   constructor
   ·rintro⟨loc,x,hx,ha,e⟩
    exact⟨loc,x,((hsub _).1 hx).1,ha,e⟩
   ·rintro⟨loc,x,hx,ha,e⟩
    refine⟨loc,x,(hsub _).2 ⟨hx,?_⟩,ha,e⟩
    unfold sameI;rw [ha];rfl
  exact aliases_one h4 ((aliasesF_perm _).trans hp) (aliasesF_sorted _)
 ·exact srtT_mem g4.names h4.names fun s=>by rw [g3.names,h3.names,less_nms]
 ·obtain⟨loc,x,hx,ha,hp2⟩:=(g3.paths p).1 hp
  exact(h3.paths p).2 ⟨loc,x,((hsub _).1 hx).1,ha,hp2⟩
section
variable {R : Rsv} {u : Tb}
theorem par_nil (D:List (Str×Str))(hD:saidOK D):(Xw D []).2=false:=by
 unfold Xw
 have:look D []=none:=look_none.2 fun p hp e=>by
  have:=(hD p hp).1
  rw [e,named_nil] at this;cases this
 rw [this]
 simp only
 rw [plain_no (fun h=>by rw [named_nil] at h;cases h.1)]
theorem LessT.nil (h:LessT R u)(hR:RsvOk R)(p:Str):(Qy u.rows [] p).map (·.text)=(Qy R.t.rows [] p).map (·.text):=opt_ext fun v=>by
 rw [h.text]
 have:sameV R [] p v=false:=by
  unfold sameV;rw [par_nil _ (new_ok hR.par).1];rfl
 rw [this]
 simp
theorem at_iff {t:Tb}{x q v:Str}(hx:x≠[]):atF t (x,q)=some v↔((Qy t.rows x q).map (·.text)=some v∧v≠arrows):=by
 unfold atF
 cases hf:Qy t.rows x q with
 | none=>simp
 | some r =>
  simp only [Option.map_some,Option.some.injEq]
  by_cases ha:r.text=arrows
  ·rw [if_pos ⟨ha,hx⟩]
   constructor
   ·intro h;cases h
   ·rintro⟨rfl,h⟩;exact absurd ha h
  ·rw [if_neg (fun h=>ha h.1)]
   constructor
   ·intro h;cases h;exact⟨rfl,ha⟩
   ·rintro⟨rfl,_⟩;rfl
theorem LessT.up (h:LessT R u)(hR:RsvOk R)(q:Str):∀ {c:List Str}{s:Str},Up R.par s c→(∀ x∈c,x≠[])→Xy u q c=Xy R.t q c
 | [],_,hu,_=>hu.elim
 | [x],s,hu,hne=>by
  have hx:=hne x (List.mem_cons_self ..);have hr:x=Qv:=by rw [hu.1];exact hu.2
  have:∀ v,atF u (x,q)=some v↔atF R.t (x,q)=some v:=fun v=>by
   rw [at_iff hx,at_iff hx,h.text]
   have:sameV R x q v=false:=by
    unfold sameV;rw [hr];simp
   rw [this];simp
  rw [Xy,Xy];rw [opt_ext this]
  rfl
 | x::y::c,s,hu,hne=>by
  have hx:=hne x (List.mem_cons_self ..)
  obtain⟨e1,hroot,hst,hup⟩:=hu
  subst e1;have ih:=h.up hR q hup fun z hz=>hne z (List.mem_cons_of_mem _ hz)
  have hpar:Xw R.par x=(y,true):=by
   unfold stepF at hst
   split at hst
   ·next h2=>cases hst;exact Prod.ext rfl h2
   ·cases hst
  have hny:Qk y=true:=step_named (new_ok hR.par).1 hst;have hch:Xl R.par y=y::c:=chainF_of (Or.inl ⟨hny,hup⟩);have hsv:∀ v,sameV R x q v=decide (Xy R.t q (y::c)=some v):=fun v=>by
   unfold sameV;rw [hpar,hch]
   simp [hroot]
  rw [firstUp_cons u q x,firstUp_cons R.t q x]
  cases ha:atF R.t (x,q) with
  | none =>
   have:atF u (x,q)=none:=by
    cases hb:atF u (x,q) with
    | none=>rfl
    | some v =>
     obtain⟨b1,b2⟩:=(at_iff hx).1 hb
     have:=(at_iff hx).2 ⟨((h.text x q v).1 b1).1,b2⟩
     rw [ha] at this;cases this
   rw [this];exact ih
  | some v =>
   obtain⟨a1,a2⟩:=(at_iff hx).1 ha
   by_cases hs:Xy R.t q (y::c)=some v
   ·have:atF u (x,q)=none:=by
     cases hb:atF u (x,q) with
     | none=>rfl
     | some v' =>
      obtain⟨b1,_⟩:=(at_iff hx).1 hb
      obtain⟨b3,b4⟩:=(h.text x q v').1 b1
      rw [a1] at b3
      cases b3;rw [hsv,decide_eq_true hs] at b4;cases b4
    rw [this]
    simp only
    rw [ih,hs]
   ·have:atF u (x,q)=some v:=(at_iff hx).2 ⟨(h.text x q v).2 ⟨a1,by rw [hsv];exact decide_eq_false hs⟩,a2⟩
    rw [this]
theorem LessT.said (h:LessT R u)(hR:RsvOk R)(q:Str):∀ {c:List Str}{s v:Str},Up R.par s c→(∀ x∈c,x≠[])→(∃ x∈c,(Qy R.t.rows x q).map (·.text)=some v)→∃ x∈c,∃ v',(Qy u.rows x q).map (·.text)=some v'
 | [],_,_,hu,_,_=>hu.elim
 | [x],s,v,hu,hne,⟨z,hz,hv⟩=>by
  rw [List.mem_singleton.1 hz] at hv;have hr:x=Qv:=by rw [hu.1];exact hu.2
  refine⟨x,List.mem_cons_self ..,v,(h.text x q v).2 ⟨hv,?_⟩⟩
  unfold sameV;rw [hr];simp
 | x::y::c,s,v,hu,hne,⟨z,hz,hv⟩=>by
  obtain⟨e1,hroot,hst,hup⟩:=hu
  subst e1;have hne2:∀ z∈y::c,z≠[]:=fun z hz=>hne z (List.mem_cons_of_mem _ hz)
  have more:(∃ w,∃ z∈y::c,(Qy R.t.rows z q).map (·.text)=some w)→∃ z∈x::y::c,∃ v',(Qy u.rows z q).map (·.text)=some v':=fun⟨w,hw⟩=>by
   obtain⟨z,hz,hh⟩:=h.said hR q hup hne2 hw
   exact⟨z,List.mem_cons_of_mem _ hz,hh⟩
  rcases List.mem_cons.1 hz with rfl | hz
  ·by_cases hs:sameV R z q v=true
   ·have hpar:Xw R.par z=(y,true):=by
     unfold stepF at hst
     split at hst
     ·next h2=>cases hst;exact Prod.ext rfl h2
     ·cases hst
    have hny:Qk y=true:=step_named (new_ok hR.par).1 hst;have hch:Xl R.par y=y::c:=chainF_of (Or.inl ⟨hny,hup⟩);unfold sameV at hs;rw [hpar,hch] at hs;simp only [Bool.true_and,Bool.and_eq_true,decide_eq_true_eq] at hs;refine more ⟨v,?_⟩;have key:∀ {m:List Str},(∀ z∈m,z≠[])→Xy R.t q m=some v→∃ z∈m,(Qy R.t.rows z q).map (·.text)=some v:=by
     intro m
     induction m with
     | nil=>intro _ h;cases h
     | cons a m ih =>
      intro hm hf;rw [Xy] at hf
      cases ha:atF R.t (a,q) with
      | some w =>
       rw [ha] at hf
       cases hf
       exact⟨a,List.mem_cons_self ..,((at_iff (hm a (List.mem_cons_self ..))).1 ha).1⟩
      | none =>
       rw [ha] at hf
       obtain⟨z,hz,hh⟩:=ih (fun b hb=>hm b (List.mem_cons_of_mem _ hb)) hf
       exact⟨z,List.mem_cons_of_mem _ hz,hh⟩
    exact key hne2 hs.2
   ·exact⟨z,List.mem_cons_self ..,v,(h.text z q v).2 ⟨hv,by simpa using hs⟩⟩
  ·exact more ⟨v,z,hz,hv⟩
def LocOk (t:Tb):Prop:=∀ r∈t.rows,r.loc=[]∨Qk r.loc=true
theorem LessT.base (h:LessT R u)(hR:RsvOk R)(hl:LocOk R.t)(p:Str):p∈basePs u↔p∈basePs R.t:=by
 have mem:∀ {t:Tb},p∈basePs t↔∃ loc,loc≠[]∧∃ v,(Qy t.rows loc p).map (·.text)=some v:=fun {t}=>by
  constructor
  ·intro hp
   obtain⟨r,hr,rfl⟩:=List.mem_map.1 hp
   obtain⟨h1,h2⟩:=List.mem_filter.1 hr
   refine⟨r.loc,by simpa using h2,?_⟩
   exact rows_mem.1 (List.mem_map.2 ⟨r,List.mem_filter.2 ⟨h1,by simp⟩,rfl⟩)
  ·rintro⟨loc,hloc,v,hv⟩
   obtain⟨r,hr,_⟩:=Option.map_eq_some_iff.1 hv
   obtain⟨h1,h2,h3⟩:=findR_some hr
   exact List.mem_map.2 ⟨r,List.mem_filter.2 ⟨h1,by rw [h2];simpa using hloc⟩,h3⟩
 rw [mem,mem]
 constructor
 ·rintro⟨loc,hloc,v,hv⟩
  exact⟨loc,hloc,v,((h.text loc p v).1 hv).1⟩
 ·rintro⟨loc,hloc,v,hv⟩
  obtain⟨r,hr,_⟩:=Option.map_eq_some_iff.1 hv
  obtain⟨h1,h2,_⟩:=findR_some hr
  have hn:Qk loc=true:=by
   rcases hl r h1 with e | e
   ·rw [h2] at e;exact absurd e hloc
   ·rw [h2] at e;exact e
  rcases hR.chain loc with ⟨_,hup⟩ | ⟨hno,_⟩
  ·obtain⟨rest,hrest⟩:=up_head hup
   have hne:∀ x∈Xl R.par loc,x≠[]:=fun x hx e=>by
    have:=hR.chain_ne hx
    rw [e,named_nil] at this;cases this
   obtain⟨x,hx,v',hv'⟩:=h.said hR p hup hne ⟨loc,by rw [hrest];exact List.mem_cons_self ..,hv⟩
   exact⟨x,hne x hx,v',hv'⟩
  ·rw [hn] at hno;cases hno
theorem LessT.pathsNil (h:LessT R u)(hR:RsvOk R):Qn u []=Qn R.t [] :=
 srtT_mem (rows_nodup h.ok []) (rows_nodup hR.tb []) fun p=>by rw [rows_mem,rows_mem,h.nil hR]
theorem LessT.pars (h:LessT R u)(hR:RsvOk R):Xt u=Xt R.t:=by
 unfold Xt parPs;rw [h.pathsNil hR];refine List.map_congr_left fun p _=>?_
 rw [rText_eq (h.nil hR p)]
theorem LessT.look (h:LessT R u)(hR:RsvOk R)(l:Str)(ps:List Str):(Xh u (ps.flatMap (Km R l))).2=(Xh R.t (ps.flatMap (Km R l))).2:=by
 have flat:∀ (A:List (List (Str×Str))),(∀ b∈A,(Xh u b).2=(Xh R.t b).2)→(Xh u A.flatten).2=(Xh R.t A.flatten).2:=by
  intro A
  induction A with
  | nil=>intro _;rfl
  | cons b A ih =>
   intro hb;rw [List.flatten_cons,lookF_append,lookF_append];have h1:=hb b (List.mem_cons_self ..);have h2:=ih fun x hx=>hb x (List.mem_cons_of_mem _ hx)
   cases hu:(Xh u b).2 with
   | some v=>rw [hu] at h1;rw [← h1]
   | none=>rw [hu] at h1;rw [← h1];exact h2
 rw [List.flatMap_def];refine flat _ fun b hb=>?_
 obtain⟨q,_,rfl⟩:=List.mem_map.1 hb
 unfold Km
 by_cases hl:l=[]
 ·rw [if_pos hl]
  have:atF u ([],q)=atF R.t ([],q):=by
   have:=h.nil hR q
   unfold atF
   cases h1:Qy u.rows [] q with
   | none =>
    rw [h1] at this
    cases h2:Qy R.t.rows [] q with
    | none=>rfl
    | some r=>rw [h2] at this;cases this
   | some r =>
    rw [h1] at this
    cases h2:Qy R.t.rows [] q with
    | none=>rw [h2] at this;cases this
    | some r' =>
     rw [h2] at this;simp only [Option.map_some,Option.some.injEq] at this
     simp [this]
  rw [Xh,Xh,this]
  rfl
 ·rw [if_neg hl,List.flatMap_def];refine flat _ fun b hb=>?_
  obtain⟨z,_,rfl⟩:=List.mem_map.1 hb
  rw [look_up,look_up]
  rcases hR.chain l with ⟨_,hup⟩ | ⟨_,hno⟩
  ·exact h.up hR z hup fun x hx e=>by
    have:=hR.chain_ne hx
    rw [e,named_nil] at this;cases this
  ·rw [hno];rfl
theorem LessT.new (h:LessT R u)(hR:RsvOk R)(hl:LocOk R.t)(hr:R.par=Xt R.t)(ha:tgtsF (Xq R.t) []=.inl R.als){w:Wrg}{o:Option Rsv}(hn:New14 u w o) :
  w=⟨0,0,0⟩∧∃ K,o=some ⟨u,R.par,R.als,K⟩∧srtT K=srtT R.known∧K.length=R.known.length∧RsvOk ⟨u,R.par,R.als,K⟩:=by
 have hp:Xt u=R.par:=by rw [h.pars hR,hr]
 have hb:=fun p=>h.base hR hl p
 have kn:KnownOut R.als (basePs R.t) true R.known:=Or.inl ⟨rfl,hR.known,hR.k16⟩
 cases hn with
 | par g1 g2=>rw [hp] at g1;exact absurd (newOut_uniq g1 hR.par).1 g2
 | tgt _ g2=>rw [h.als,ha] at g2;cases g2
 | als _ g2 g3 g4=>rw [h.als,ha] at g2;cases g2;exact absurd (alOut_uniq g3 hR.als).1 g4
 | lng _ g2 _ g4=>rw [h.als,ha] at g2;cases g2;have:=(known_agree hb g4 kn).1;cases this
 | ok g1 g2 g3 g4 =>
  rw [h.als,ha] at g2
  cases g2
  obtain⟨_,h5⟩:=known_agree hb g4 kn
  obtain⟨h6,h7⟩:=h5 rfl
  refine⟨rfl,_,by rw [hp],h6,h7,⟨hR.par,g3,?_,?_,fun p hp=>hR.paths p (h.paths p hp),h.ok⟩⟩
  ·rcases g4 with ⟨_,g5,_⟩ | ⟨g,_⟩
   ·exact g5
   ·cases g
  ·rw [h7];exact hR.k16
theorem LessT.value (h:LessT R u)(hR:RsvOk R)(K:List Str)(l p:Str):valueF ⟨u,R.par,R.als,K⟩ l p=valueF R l p:=by
 unfold valueF
 by_cases ha:asksB l p=true
 ·rw [if_pos ha,if_pos ha];exact h.look hR l (sideL l p)
 ·rw [if_neg ha,if_neg ha]
end
end
section
open Go.Lib
def parPre:Str:=[112,97,114,101,110,116,91]
def isParP (p:Str):Bool:=decide (7<p.length)&&(p.take 7==parPre)
def b01 (b:Bool):Nat:=if b then 1 else 0
abbrev CutI:=List Itm×Nat×Nat
abbrev CutS:=List Dc×Nat×Nat
def skipC (s:Nat×Nat)(x:Itm):Bool:=(x.alias'&&decide (s.1=20))||(isParP x.path&&decide (s.2=60))
def stepC (s:CutI)(x:Itm):CutI:=if skipC s.2 x=true then s else(s.1++[x],s.2.1+b01 x.alias',s.2.2+b01 (isParP x.path))
def itemsC (s:Nat×Nat)(l:List Itm):CutI:=l.foldl stepC ([],s)
def stepD (s:CutS)(d:Dc):CutS:=(s.1++[{ d with items:=(itemsC s.2 (d.items.take 30)).1 }],(itemsC s.2 (d.items.take 30)).2)
def cutE (l:List Dc):CutS:=(l.take 10).foldl stepD ([],0,0)
def cut14 (l:List Dc):List Dc:=(cutE l).1
def cntA (l:List Itm):Nat:=(l.filter fun x=>x.alias').length
def cntP (l:List Itm):Nat:=(l.filter fun x=>isParP x.path).length
theorem cntA_app (l m:List Itm):cntA (l++m)=cntA l+cntA m:=by unfold cntA;rw [List.filter_append,List.length_append]
theorem cntP_app (l m:List Itm):cntP (l++m)=cntP l+cntP m:=by unfold cntP;rw [List.filter_append,List.length_append]
theorem cntA_one (x:Itm):cntA [x]=b01 x.alias':=by unfold cntA b01;cases h:x.alias' <;> simp [h]
theorem cntP_one (x:Itm):cntP [x]=b01 (isParP x.path):=by unfold cntP b01;cases h:isParP x.path <;> simp [h]
theorem cntA_cons (x:Itm)(l:List Itm):cntA (x::l)=b01 x.alias'+cntA l:=by rw [← cntA_one,← cntA_app];rfl
theorem cntP_cons (x:Itm)(l:List Itm):cntP (x::l)=b01 (isParP x.path)+cntP l:=by rw [← cntP_one,← cntP_app];rfl
theorem itemsC_inv:∀ (l:List Itm)(d:List Itm)(a p a0 p0:Nat),a=a0+cntA d→p=p0+cntP d→a≤20→p≤60 →
  (l.foldl stepC (d,a,p)).2.1=a0+cntA (l.foldl stepC (d,a,p)).1∧(l.foldl stepC (d,a,p)).2.2=p0+cntP (l.foldl stepC (d,a,p)).1∧(l.foldl stepC (d,a,p)).2.1≤20∧(l.foldl stepC (d,a,p)).2.2≤60∧(l.foldl stepC (d,a,p)).1.length≤d.length+l.length∧∀ x∈(l.foldl stepC (d,a,p)).1,x∈d∨x∈l
 | [],d,a,p,a0,p0,h1,h2,h3,h4=>⟨h1,h2,h3,h4,by simp,fun x hx=>Or.inl hx⟩
 | x::r,d,a,p,a0,p0,h1,h2,h3,h4=>by
  rw [List.foldl_cons];unfold stepC
  by_cases hs:skipC (a,p) x=true
  ·rw [if_pos hs]
   obtain⟨g1,g2,g3,g4,g5,g6⟩:=itemsC_inv r d a p a0 p0 h1 h2 h3 h4
   exact⟨g1,g2,g3,g4,Nat.le_trans g5 (by simp),fun y hy=>(g6 y hy).elim Or.inl fun h=>Or.inr (List.mem_cons_of_mem _ h)⟩
  ·rw [if_neg hs];unfold skipC at hs;have e1:a+b01 x.alias'≤20:=by
    cases ha:x.alias' with
    | false=>simp [b01];omega
    | true =>
     rw [ha] at hs
     have:a≠20:=fun e=>hs (by simp [e])
     simp [b01];omega
   have e2:p+b01 (isParP x.path)≤60:=by
    cases ha:isParP x.path with
    | false=>simp [b01];omega
    | true =>
     rw [ha] at hs
     have:p≠60:=fun e=>hs (by simp [e])
     simp [b01];omega
   obtain⟨g1,g2,g3,g4,g5,g6⟩:=itemsC_inv r (d++[x]) (a+b01 x.alias') (p+b01 (isParP x.path)) a0 p0 (by rw [cntA_app,cntA_one];omega) (by rw [cntP_app,cntP_one];omega) e1 e2
   refine⟨g1,g2,g3,g4,Nat.le_trans g5 (by simp;omega),fun y hy=>(g6 y hy).elim (fun h=>?_) fun h=>Or.inr (List.mem_cons_of_mem _ h)⟩
   rcases List.mem_append.1 h with h | h
   ·exact Or.inl h
   ·rw [List.mem_singleton.1 h];exact Or.inr (List.mem_cons_self ..)
theorem itemsC_all:∀ (l:List Itm)(d:List Itm)(a p:Nat),a+cntA l≤20→p+cntP l≤60→l.foldl stepC (d,a,p)=(d++l,a+cntA l,p+cntP l)
 | [],d,a,p,_,_=>by simp [cntA,cntP]
 | x::r,d,a,p,h1,h2=>by
  rw [cntA_cons] at h1 ⊢;rw [cntP_cons] at h2 ⊢;rw [List.foldl_cons];have hs:¬ skipC (a,p) x=true:=by
   unfold skipC;intro h;simp only [Bool.or_eq_true,Bool.and_eq_true,decide_eq_true_eq] at h
   rcases h with ⟨e1,e2⟩ | ⟨e1,e2⟩
   ·rw [e1] at h1;simp [b01] at h1;omega
   ·rw [e1] at h2;simp [b01] at h2;omega
  rw [show stepC (d,a,p) x=(d++[x],a+b01 x.alias',p+b01 (isParP x.path)) from if_neg hs,itemsC_all r _ _ _ (by omega) (by omega)]
  simp [Nat.add_assoc]
def allA (L:List Dc):Nat:=(L.map fun d=>cntA d.items).sum
def allP (L:List Dc):Nat:=(L.map fun d=>cntP d.items).sum
structure Small (L:List Dc):Prop where
 len:L.length≤10
 each:∀ d∈L,d.items.length≤30
 als:allA L≤20
 par:allP L≤60
theorem cutE_inv:∀ (l:List Dc)(D:List Dc)(a p:Nat),a=allA D→p=allP D→a≤20→p≤60→(∀ d∈D,d.items.length≤30) →
  allA (l.foldl stepD (D,a,p)).1≤20∧allP (l.foldl stepD (D,a,p)).1≤60∧(∀ d∈(l.foldl stepD (D,a,p)).1,d.items.length≤30)∧(l.foldl stepD (D,a,p)).1.length=D.length+l.length∧∀ d∈(l.foldl stepD (D,a,p)).1,d∈D∨∃ c∈l,d.loc=c.loc∧d.supp=c.supp∧∀ x∈d.items,x∈c.items
 | [],D,a,p,h1,h2,h3,h4,h5=>⟨by simpa [← h1] using h3,by simpa [← h2] using h4,h5,by simp,fun d hd=>Or.inl hd⟩
 | c::r,D,a,p,h1,h2,h3,h4,h5=>by
  rw [List.foldl_cons]
  obtain⟨g1,g2,g3,g4,g5,g6⟩:=itemsC_inv (c.items.take 30) [] a p a p (by simp [cntA]) (by simp [cntP]) h3 h4
  have hl:(itemsC (a,p) (c.items.take 30)).1.length≤30:=Nat.le_trans g5 (by simp;omega);have eA:allA (D++[{ c with items:=(itemsC (a,p) (c.items.take 30)).1 }])=(itemsC (a,p) (c.items.take 30)).2.1:=by
   unfold allA at h1 ⊢;rw [List.map_append,List.sum_append,← h1];simp only [List.map_cons,List.map_nil,List.sum_cons,List.sum_nil,Nat.add_zero];exact g1.symm
  have eP:allP (D++[{ c with items:=(itemsC (a,p) (c.items.take 30)).1 }])=(itemsC (a,p) (c.items.take 30)).2.2:=by
   unfold allP at h2 ⊢;rw [List.map_append,List.sum_append,← h2];simp only [List.map_cons,List.map_nil,List.sum_cons,List.sum_nil,Nat.add_zero];exact g2.symm
  obtain⟨k1,k2,k3,k4,k5⟩:=cutE_inv r (D++[{ c with items:=(itemsC (a,p) (c.items.take 30)).1 }]) (itemsC (a,p) (c.items.take 30)).2.1 (itemsC (a,p) (c.items.take 30)).2.2 eA.symm eP.symm g3 g4 (fun d hd=>by
   rcases List.mem_append.1 hd with hd | hd
   ·exact h5 d hd
   ·rw [List.mem_singleton.1 hd];exact hl)
  refine⟨k1,k2,k3,Nat.le_trans (Nat.le_of_eq k4) (by simp;omega) |> fun h=>Nat.le_antisymm h (by have e:=k4;change (List.foldl stepD _ r).1.length=_ at e;show _≤(List.foldl stepD _ r).1.length;rw [show(List.foldl stepD (stepD (D,a,p) c) r).1.length=_ from e];simp;omega),fun d hd=>(k5 d hd).elim (fun h=>?_) fun⟨c',h,e⟩=>Or.inr ⟨c',List.mem_cons_of_mem _ h,e⟩⟩
  rcases List.mem_append.1 h with h | h
  ·exact Or.inl h
  ·rw [List.mem_singleton.1 h];refine Or.inr ⟨c,List.mem_cons_self ..,rfl,rfl,fun x hx=>?_⟩
   rcases g6 x hx with h | h
   ·cases h
   ·exact List.mem_of_mem_take h
theorem cut14_small (l:List Dc):Small (cut14 l):=by
 obtain⟨h1,h2,h3,h4,_⟩:=cutE_inv (l.take 10) [] 0 0 rfl rfl (by decide) (by decide) (fun d hd=>by cases hd)
 exact⟨Nat.le_trans (Nat.le_of_eq h4) (by simp;omega),h3,h1,h2⟩
theorem cut14_mem {l:List Dc}{d:Dc}(h:d∈cut14 l):∃ c∈l,d.loc=c.loc∧d.supp=c.supp∧∀ x∈d.items,x∈c.items:=by
 obtain⟨_,_,_,_,h5⟩:=cutE_inv (l.take 10) [] 0 0 rfl rfl (by decide) (by decide) (fun d hd=>by cases hd)
 rcases h5 d h with h | ⟨c,hc,e⟩
 ·cases h
 ·exact⟨c,List.mem_of_mem_take hc,e⟩
theorem cutE_all:∀ (l:List Dc)(D:List Dc)(a p:Nat),a+allA l≤20→p+allP l≤60→(∀ d∈l,d.items.length≤30)→(l.foldl stepD (D,a,p)).1=D++l
 | [],D,a,p,_,_,_=>by simp
 | c::r,D,a,p,h1,h2,h3=>by
  have e1:allA (c::r)=cntA c.items+allA r:=by simp [allA]
  have e2:allP (c::r)=cntP c.items+allP r:=by simp [allP]
  rw [e1] at h1;rw [e2] at h2;have ht:c.items.take 30=c.items:=List.take_of_length_le (h3 c (List.mem_cons_self ..));have hi:itemsC (a,p) c.items=(c.items,a+cntA c.items,p+cntP c.items):=by
   unfold itemsC;rw [itemsC_all c.items [] a p (by omega) (by omega),List.nil_append]
  rw [List.foldl_cons];unfold stepD;simp only [ht,hi];rw [show List.foldl (fun(s:CutS) (d:Dc)=>((s.1++[{ d with items:=(itemsC s.2 (d.items.take 30)).1 }],(itemsC s.2 (d.items.take 30)).2):CutS)) _ r=List.foldl stepD (D++[{ c with items:=c.items }],a+cntA c.items,p+cntP c.items) r from rfl];rw [cutE_all r _ _ _ (by omega) (by omega) fun d hd=>h3 d (List.mem_cons_of_mem _ hd)]
  simp
theorem cut14_id {L:List Dc}(h:Small L):cut14 L=L:=by
 unfold cut14 cutE;rw [List.take_of_length_le h.len,cutE_all L [] 0 0 (by have:=h.als;omega) (by have:=h.par;omega) h.each]
 rfl
theorem cnt_sub {l m:List Itm}(h:l.Sublist m):cntA l≤cntA m∧cntP l≤cntP m:=⟨(h.filter _).length_le,(h.filter _).length_le⟩
theorem sum_map_le {L:List Dc}{f g:Dc→Nat}(h:∀ d,f d≤g d):(L.map f).sum≤(L.map g).sum:=by
 induction L with
 | nil=>exact Nat.le_refl _
 | cons d r ih=>simp only [List.map_cons,List.sum_cons];have:=h d;omega
theorem small_less {R:Rsv}{L:List Dc}(h:Small L):Small (Jk R L):=by
 have hs:∀ d:Dc,(lessDoc R d).items.Sublist d.items:=fun d=>List.filter_sublist
 refine⟨by unfold Jk;rw [List.length_map];exact h.len,fun d hd=>?_,Nat.le_trans ?_ h.als,Nat.le_trans ?_ h.par⟩
 ·obtain⟨c,hc,rfl⟩:=List.mem_map.1 hd
  exact Nat.le_trans (hs c).length_le (h.each c hc)
 ·unfold allA Jk;rw [List.map_map];exact sum_map_le fun d=>(cnt_sub (hs d)).1
 ·unfold allP Jk;rw [List.map_map];exact sum_map_le fun d=>(cnt_sub (hs d)).2
end
section
open Go.RowKit Go.Lib Go.Sort Go.Maps Go.WideMaps
def SzL (l:List Dc):Prop:=∀ d∈l,d.loc.length≤maxLen∧∀ x∈d.items,x.path.length≤maxLen
theorem costD_le':∀ (l:List Dc)(k:Nat),(∀ d∈l,d.items.length≤k)→costD l≤(4 * k+1) * l.length
 | [],k,h=>Nat.zero_le _
 | d::r,k,h=>by
  have h1:=h d (List.mem_cons_self ..);have ih:=costD_le' r k (fun x hx=>h x (List.mem_cons_of_mem _ hx));rw [costD,List.length_cons,Nat.mul_succ]
  omega
theorem szD_of {l:List Dc}(h:SzL l)(h12:l.length≤1000)(h40:∀ d∈l,d.items.length≤1000):SzD l:=by
 refine⟨h,?_⟩
 have:=costD_le' l 1000 h40
 have h2:(4 * 1000+1) * l.length≤4001 * 1000:=Nat.mul_le_mul_left _ h12;unfold maxLen
 omega
theorem szT_of {l:List Dc}(h:SzL l)(hz:(Kc l).1.err=0):SzT (Kc l).2:=by
 obtain⟨_,h2,h3,h4⟩:=docs_inv l 0 Inv.zero Jq.zero hz
 rw [List.nil_append,List.nil_append] at h3
 refine⟨fun s hs=>?_,fun r hr=>?_⟩
 ·obtain⟨d,hd,_,rfl⟩:=nms_mem.1 ((h3.names s).1 hs)
  exact(h d hd).1
 ·obtain⟨l',x,hx,_,e⟩:=(h3.paths r.path).1 (h4.rp r hr)
  obtain⟨d,hd,y,hy,e2⟩:=evs_mem.1 hx
  cases e2;rw [← e];exact(h d hd).2 _ hy
section
variable {w W W' : World} {R : List Dc} {n : Nat} {v v' : Value} {zs : List (Dc × (Option Addr × Nat))}
end
end
end Go.Proofs.YtbbmdbolkicpcaaGreatDoor
