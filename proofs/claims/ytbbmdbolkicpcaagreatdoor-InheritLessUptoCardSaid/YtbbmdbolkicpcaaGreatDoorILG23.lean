/- Side, InhAns, InhWakeG, InhResP, InhRes, Law14A, InhTrail, TextL, InhOwn -/
import Derived.Test.YtbbmdbolkicpcaaGreatDoorILG20
import Derived.Deep.CutRange
import Derived.Test.YtbbmdbolkicpcaaGreatDoorILG22
import Derived.Test.YtbbmdbolkicpcaaGreatDoorILG21
import Derived.Test.YtbbmdbolkicpcaaGreatDoorILG12
import Derived.Test.YtbbmdbolkicpcaaGreatDoorILG15
import Derived.Test.YtbbmdbolkicpcaaGreatDoorILG13
import Derived.BigQuiet
import Derived.IntWalk
import Derived.WalkSmall
import Derived.Test.YtbbmdbolkicpcaaGreatDoorILG10
set_option maxRecDepth 100000
set_option maxHeartbeats 32000000
set_option linter.unusedVariables false
set_option linter.unusedSimpArgs false
namespace Go.Proofs.YtbbmdbolkicpcaaGreatDoor
section
open Go.RowKit Go.Lib Go.Sort Go.Maps Go.WideMaps Go.Shelf
attribute [local go_sem] Oper.semAt_some
theorem OwnSt.grownS {w w':World}{B B2:Nat}{v u:Value}{l:List Stp}{L:List Str}(h:OwnSt w B v l)(o:Qg w B2 u L)(g:w.grownBy w' u.ownBlock):OwnSt w' B v l:=by
 obtain⟨zs,h1,h2,h3,h4⟩:=h
 exact⟨zs,h1,World.ownsRow.kept h2 g (Kn h2 o (by decide)),fun z hz=>World.ownsRow.kept (h3 z hz) g (Kn (h3 z hz) o (by decide)),h4⟩
theorem OwnSt.setT {w:World}{B b:Nat}{v:Value}{l:List Stp}{cs:Array Value}{t:TypeId}(h:OwnSt w B v l)(hb:w.heap[b]?=some (.cells cs t (0,0)))(h1:106≠t)(h2:76≠t)(i:Nat)(x:Value):OwnSt (w.setCell ⟨b,i,none⟩ x) B v l:=by
 obtain⟨zs,g1,g2,g3,g4⟩:=h
 exact⟨zs,g1,Qw g2 (Qx g2 hb h1) i x,fun z hz=>Qw (g3 z hz) (Qx (g3 z hz) hb h2) i x,g4⟩
theorem OwnSt.mono {w:World}{B C:Nat}{v:Value}{l:List Stp}(h:OwnSt w B v l)(hc:C≤B):OwnSt w C v l:=by
 obtain⟨zs,g1,g2,g3,g4⟩:=h
 exact⟨zs,g1,g2.mono hc,fun z hz=>ownP_monoS (g3 z hz) hc,g4⟩
structure Sd1 (w:World)(b3 b5:Nat)(l1:List Stp)(L:List Str)(W:World):Prop where
 bel:Below w.heap.size w W
 st:∃ v,W.heap[b3]?=some (.cells #[v] 99 (0,0))∧OwnSt W w.heap.size v l1
 ls:∃ v,W.heap[b5]?=some (.cells #[v] 36 (0,0))∧Qg W w.heap.size v L
 ne:b3≠b5∧w.heap.size≤b3∧w.heap.size≤b5
theorem sideways_any (w:World)(p:Str)(hp:p.length≤maxLen) :
  Calls Tryz.prog 21 #[.string ⟨p.toArray⟩] w fun e w'=>∃ v,e=.returned v∧Qg w' w.heap.size v (sideF p)∧Below w.heap.size w w':=by
 refine(callsIn_wide (n:=6)).1 ?_
 refine callsIn_of_wp_marks Tryz.func21 rfl trivial ?_ rfl;refine wpIn_wide.2 ?_;simp only [Tryz.ntmps21,List.size_toArray,List.length_cons,List.length_nil,Nat.reduceAdd,Nat.reduceSub,Array.replicate_succ,Array.replicate_zero,List.push_toArray,List.append_toArray,List.nil_append,List.cons_append];have WT:=hid (fun(p key:Str) W (h:p.length≤maxLen)=>without_any W p key h);have HP:=hid hp;go_wp2_with fail
 go_step3
 go_wp2_with fail
 refine(pparse_any p w hp).mono ?_
 rintro e w1 h
 obtain⟨v,er,ea,rfl,hb1,l',hl',hc1,ao,cp,rfl,hcap,hs1⟩:=h.own'
 have B1:=hid hb1;have L1:=hid hl';clear h hl' hb1 hs1 hcap;have Y6:=hid (show((w1.alloc (.cells #[.slice ao l'.length cp] 99)).alloc (.cells #[.int .i64 er,.int .i64 ea] 77)).heap[w1.heap.size]?=some (.cells #[.slice ao l'.length cp] 99 (0,0)) from(Below.heap_alloc _ _ _ (by simp)).trans (heap_alloc_new w1 _));have Y7:=hid (show((w1.alloc (.cells #[.slice ao l'.length cp] 99)).alloc (.cells #[.int .i64 er,.int .i64 ea] 77)).heap[w1.heap.size+1]?=some (.cells #[.int .i64 er,.int .i64 ea] 77 (0,0)) from by
  have e:=heap_alloc_new (w1.alloc (.cells #[.slice ao l'.length cp] 99)) (.cells #[.int .i64 er,.int .i64 ea] 77);rw [show(w1.alloc (.cells #[.slice ao l'.length cp] 99)).heap.size=w1.heap.size+1 by simp] at e;exact e)
 have A2:=hid (show Below w1.heap.size w1 ((w1.alloc (.cells #[.slice ao l'.length cp] 99)).alloc (.cells #[.int .i64 er,.int .i64 ea] 77)) from(bal _ _).alloc (by simp) _);go_upto_region 2 with fail;generalize (w1.alloc (.cells #[.slice ao l'.length cp] 99)).alloc (.cells #[.int .i64 er,.int .i64 ea] 77)=w2 at *
 obtain⟨y0,y1,_,_,yl⟩:=Qq Y7.out
 have B2:=hid (B1.out.then A2.out);have L2:=hid (L1.out.below A2.out);have S2:=hid (B1.out.size);generalize w1.heap.size=b3 at *;clear A2 B1 L1
 rcases hc1 with ⟨rfl,hpl⟩ | ⟨hne,hpl,rfl⟩
 case inr =>
  have d0:((er:Int)==0)=false:=by simpa using hne
  have HSB:=hid (show sideF p=[] from side_none (by unfold Qm;rw [hpl];rfl));go_wp2_with fail;rw [Exit.noGoto_ret]
  refine⟨.slice none 0 0,?_,⟨_,rfl,by rw [HSB.out];exact World.ownsRow_nil _ _ _ _,B2.out⟩⟩
  simp [results,Tryz.f21,go_sem]
 have HPL:=hid hpl;have O3:=hid (ownS_one w2 w.heap.size p B2.out.size);have A3:=hid (bal w2 (.cells #[.string ⟨p.toArray⟩] 9));have Z3:=hid (show(w2.alloc (.cells #[.string ⟨p.toArray⟩] 9)).heap.size=w2.heap.size+1 by simp);have F4:=hid (show((w2.alloc (.cells #[.string ⟨p.toArray⟩] 9)).alloc (.cells #[.slice (some ⟨w2.heap.size,0,none⟩) 1 1] 36)).heap[w2.heap.size+1]?=some (.cells #[.slice (some ⟨w2.heap.size,0,none⟩) 1 1] 36 (0,0)) from by
  have e:=heap_alloc_new (w2.alloc (.cells #[.string ⟨p.toArray⟩] 9)) (.cells #[.slice (some ⟨w2.heap.size,0,none⟩) 1 1] 36);rw [Z3.out] at e;exact e)
 have A4:=hid (show Below (w2.alloc (.cells #[.string ⟨p.toArray⟩] 9)).heap.size (w2.alloc (.cells #[.string ⟨p.toArray⟩] 9)) ((w2.alloc (.cells #[.string ⟨p.toArray⟩] 9)).alloc (.cells #[.slice (some ⟨w2.heap.size,0,none⟩) 1 1] 36)) from bal _ _);have O4:=hid (show Qg ((w2.alloc (.cells #[.string ⟨p.toArray⟩] 9)).alloc (.cells #[.slice (some ⟨w2.heap.size,0,none⟩) 1 1] 36)) w.heap.size _ [p] from Qz O3.out A4.out);have B4:=hid ((B2.out.then A3.out).then A4.out);have A34:=hid (A3.out.then A4.out);go_upto_region 5 with fail;generalize (w2.alloc (.cells #[.string ⟨p.toArray⟩] 9)).alloc (.cells #[.slice (some ⟨w2.heap.size,0,none⟩) 1 1] 36)=w4 at *;have L4:=hid (L2.out.below A34.out);have Y4:=hid (bk A34.out Y6.out);have HLT:=hid (show b3<w2.heap.size∧w.heap.size≤w2.heap.size from⟨lt_of_block Y6.out,B2.out.size⟩);generalize w2.heap.size=sb at *;clear y0 y1 yl B2 O3 A3 A4 Y6 Y7 Z3 L2 hpl A34
 go_wp2_with (go_at_call 47;refine(WT.out p altT w4 HP.out).mono ?_)
 rintro e w5 ⟨rfl,hb5⟩;have O5:=hid (show Qg w5 w.heap.size _ [p] from Qz O4.out hb5);have F5:=hid (bk hb5 F4.out);have Y5:=hid (bk hb5 Y4.out);have L5:=hid (L4.out.below hb5);have B5:=hid (B4.out.then hb5);clear hb5 O4 F4 B4 Y4 L4;have HFL:=hid hp;clear hp
 obtain⟨q0,hq0⟩:∃ q0,q0=(Kz p altT).1:=⟨_,rfl⟩
 obtain⟨b0,hb0⟩:∃ b0,b0=(Kz p altT).2:=⟨_,rfl⟩
 rw [← hq0,← hb0];have HQ0:=hid hq0;have HB0:=hid hb0;clear hq0 hb0
 go_upto_if 30 with fail
 go_cut [0] from 31 to 40 (fun v0 wc=>v0=.string ⟨((Zc p altT).getD p).toArray⟩∧∃ l1,Qb ((Zc p altT).getD p)=some l1∧((Zc p altT).getD p).length≤maxLen∧Sd1 w b3 (sb+1) l1 (p::(Zc p altT).toList) wc)
 case first =>
  cases hw:Zc p altT with
  | none =>
   have SD:=hid (show Sd1 w b3 (sb+1) l' [p] w5 from⟨B5.out,⟨_,Y5.out,L5.out⟩,⟨_,F5.out,O5.out⟩,by have:=HLT.out;omega,by have:=S2.out;omega,by have:=HLT.out;omega⟩);refine wp_cond_false (by show Value.bool b0=_;rw [HB0.out,withoutT_none.2 hw]) ?_;go_wp2_with fail
   go_meet
   rw [hw]
   exact⟨rfl,l',HPL.out,HFL.out,SD.out⟩
  | some q =>
   have e1:Kz p altT=(q,true):=withoutT_some.2 hw;refine wp_cond_true (by show Value.bool b0=_;rw [HB0.out,e1]) ?_;have hqq:=without_path hw
   obtain⟨l1,hl1⟩:=Option.isSome_iff_exists.1 hqq
   have HQ:=hid hl1;have HQL:=hid (show q.length≤maxLen from by
    obtain⟨_,_,_,h4,h5⟩:=Zd hl1
    rw [← h5];unfold maxLen;omega)
   obtain rfl:q0=q:=by rw [HQ0.out,e1]
   have HW:=hid hw;clear hqq hl1 hw e1;have x0:w5.cell? ⟨sb+1,0,none⟩=some (.slice (some ⟨sb,0,none⟩) 1 1):=cR F5.out;have xf:=frozen_of_row _ _ 0 _ _ F5.out;have xl:=lt_of_block F5.out;have HB5:=hid B5.out.size;have HS1:=hid (show ¬ ((sb:Nat)=sb+1) from by omega)
   go_upto_region 8 with (at_builtin;refine Xk rfl (.tmp 31) (.tmp 33) rfl w.heap.size (.slice (some ⟨sb,0,none⟩) 1 1) [p] q0 rfl O5.out rfl (by simp) HB5.out ?_;intro v6 w6 own6 gr6 mv6;obtain⟨a6,c6,rfl⟩:=Qc own6;have F6:=hid ((gr6.block _ (lt_of_block F5.out) (fun e=>HS1.out (Option.some.inj e).symm)).trans F5.out);have O6:=hid (show Qg w6 w.heap.size _ ([p]++[q0]) from own6);have L6:=hid (L5.out.grownS O5.out gr6);have NS6:=hid (show b3≠sb from by have:=HLT.out;omega);have Y6:=hid ((gr6.block _ (lt_of_block Y5.out) (fun e=>NS6.out (Option.some.inj e))).trans Y5.out);have B6:=hid (B5.out.grown gr6 HB5.out (fun k e=>by cases e;exact HLT.out.2));clear own6 gr6 mv6 x0 xf xl;have x0:w6.cell? ⟨sb+1,0,none⟩=some (.slice (some ⟨sb,0,none⟩) 1 1):=(by rw [cell_of_row _ _ _ _ _ _ F6.out];rfl);have xf:=frozen_of_row _ _ 0 _ _ F6.out;have xl:=lt_of_block F6.out)
   have F7:=hid (show(w6.setCell ⟨sb+1,0,none⟩ (.slice a6 ([p]++[q0]).length c6)).heap[sb+1]?=some (.cells #[.slice a6 ([p]++[q0]).length c6] 36 (0,0)) from heap_setCell_same _ _ _ _ _ _ F6.out);have O7:=hid (Qw O6.out (Qx O6.out F6.out (by decide)) 0 (.slice a6 ([p]++[q0]).length c6));have L7:=hid (L6.out.setT F6.out (by decide) (by decide) 0 (.slice a6 ([p]++[q0]).length c6));have Y7:=hid ((heap_setCell_other w6 ⟨sb+1,0,none⟩ b3 (.slice a6 ([p]++[q0]).length c6) (by have:=HLT.out;simp;omega)).trans Y6.out);have B7:=hid (B6.out.setCell (p:=⟨sb+1,0,none⟩) (by have:=HLT.out;simp;omega) (.slice a6 ([p]++[q0]).length c6));simp only [List.length_append,List.length_cons,List.length_nil,Nat.reduceAdd] at F7 O7 L7 Y7 B7;clear x0 xf xl F6 O6 L6 Y6 B6;generalize w6.setCell ⟨sb+1,0,none⟩ (.slice a6 2 c6)=w7 at *
   go_wp2_with (go_at_call 46;refine(pparse_any q0 w7 HQL.out).mono ?_)
   rintro e w8 h8
   obtain⟨v8,er8,ea8,rfl,hb8,l8,hl8,hc8,ao8,cp8,rfl,hcap8,hs8⟩:=h8.own'
   obtain⟨rfl,hll⟩:er8=0∧l8=l1:=by
    rcases hc8 with ⟨h1,h2⟩ | ⟨_,h2,_⟩
    ·rw [HQ.out] at h2;exact⟨h1,(Option.some.inj h2).symm⟩
    ·rw [HQ.out] at h2;cases h2
   subst hll;have L8:=hid (hl8.mono B7.out.size);have F8:=hid (bk hb8 F7.out);have O8:=hid (Qz O7.out hb8);have Y8:=hid (bk hb8 Y7.out);have B8:=hid (B7.out.then hb8);clear h8 hl8 hc8 hcap8 hs8 hb8 F7 O7 L7 Y7 B7;have x0:w8.cell? ⟨b3,0,none⟩=some (.slice ao l'.length cp):=cR Y8.out;have xf:=frozen_of_row _ _ 0 _ _ Y8.out;have xl:=lt_of_block Y8.out;have SD:=hid (show Sd1 w b3 (sb+1) l8 (p::[q0]) (w8.setCell ⟨b3,0,none⟩ (.slice ao8 l8.length cp8)) from
    ⟨B8.out.setCell (p:=⟨b3,0,none⟩) (by have:=S2.out;simp;omega) _,⟨_,heap_setCell_same _ _ _ _ _ _ Y8.out,L8.out.setT Y8.out (by decide) (by decide) 0 _⟩,
     ⟨_,(heap_setCell_other w8 ⟨b3,0,none⟩ (sb+1) _ (by have:=HLT.out;simp;omega)).trans F8.out,Qw O8.out (Qx O8.out Y8.out (by decide)) 0 _⟩,by have:=HLT.out;omega,by have:=S2.out;omega,by have:=HLT.out;omega⟩)
   clear L8 F8 O8 Y8 B8;go_wp2_with fail
   go_meet
   rw [HW.out]
   exact⟨rfl,l8,HQ.out,HQL.out,SD.out⟩
 case rest =>
  obtain⟨rfl,hx⟩:=hcut
  have SE:=hid (side_eq HPL.out)
  obtain⟨p1,hp1⟩:∃ p1,p1=(Zc p altT).getD p:=⟨_,rfl⟩
  obtain⟨L,hL⟩:∃ L,L=p::(Zc p altT).toList:=⟨_,rfl⟩
  rw [← hp1,← hL] at hx SE;rw [← hp1];have HLL:=hid (show L.length≤2 from by rw [hL];cases Zc p altT <;> simp);clear hp1 hL
  obtain⟨l1,hl1,hlen1,sd⟩:=hx
  have SD:=hid sd;have HL1:=hid hl1;have HN1:=hid hlen1;clear sd hl1 hlen1 HPL HFL HQ0 HB0 O5 F5 Y5 L5 B5
  go_wp2_with (go_at_call 47;refine(WT.out p1 Zx wc HN1.out).mono ?_)
  rintro e w6 ⟨rfl,hb6⟩
  obtain⟨v5,hy5,ho5⟩:=SD.out.ls
  obtain⟨a5,c5,rfl⟩:=Qc ho5
  obtain⟨v3,hy3,ho3⟩:=SD.out.st
  have F6:=hid (bk hb6 hy5);have Y6:=hid (bk hb6 hy3);have O6:=hid (show Qg w6 w.heap.size _ L from Qz ho5 hb6);have L6:=hid (ho3.below hb6);have B6:=hid (SD.out.bel.then hb6);have NE:=hid SD.out.ne;clear hb6 hy5 ho5 hy3 ho3 SD
  cases hok:(Kz p1 Zx).2 with
  | false =>
   have TN:=hid (tail_no hok);have x0:w6.cell? ⟨sb+1,0,none⟩=some (.slice a5 L.length c5):=cR F6.out;have xl:=lt_of_block F6.out;go_wp2_with fail;rw [Exit.noGoto_ret]
   refine⟨.slice a5 L.length c5,?_,⟨_,rfl,by rw [SE.out,TN.out,List.append_nil];exact O6.out,B6.out⟩⟩
   simp [results,Tryz.f21,go_sem]
  | true =>
   obtain⟨bare,hbare⟩:∃ bare,bare=(Kz p1 Zx).1:=⟨_,rfl⟩
   have TY:=hid (tail_yes (show Kz p1 Zx=(bare,true) from by rw [hbare,← hok]));have HNO:=hid (show ¬ ∀ x∈l1,hasK x Zx=false from fun h=>by
    rw [withoutT_no HL1.out h] at hok
    cases hok)
   rw [← hbare];clear hbare hok
   obtain⟨ao1,cp1,rfl⟩:∃ a c,v3=.slice a l1.length c:=by
    obtain⟨zs,h1,h2,_⟩:=L6.out
    obtain⟨a,c,h,_⟩:=h2.slice
    exact⟨a,c,by rw [h,← h1,List.length_map]⟩
   have y0:w6.cell? ⟨b3,0,none⟩=some (.slice ao1 l1.length cp1):=cR Y6.out;have yl:=lt_of_block Y6.out;go_upto_region 13 with fail
   go_step3
   go_wp2_with (go_at_call 48;refine(back_any _ w6 ⟨_,_,_,rfl⟩).mono ?_)
   rintro e w7 ⟨rfl,hw7⟩;clear y0 yl;have A7:=hid (show Below w6.heap.size w6 w7 from by rw [hw7];exact bal _ _);have F7b:=hid (show w7.heap[w6.heap.size]?=some (.cells #[.slice ao1 l1.length cp1] 99 (0,0)) from by rw [hw7];exact heap_alloc_new w6 _);clear hw7;have F7:=hid (bk A7.out F6.out);have Y7:=hid (bk A7.out Y6.out);have O7:=hid (show Qg w7 w.heap.size _ L from Qz O6.out A7.out);have L7:=hid (L6.out.below A7.out);have B7:=hid (B6.out.then A7.out);clear F6 Y6 O6 L6 B6 A7
   obtain⟨zs,hz,hown,heach,hdis⟩:=L7.out
   have hln:l1.length=zs.length:=by rw [← hz,List.length_map]
   rw [hln] at F7b Y7 hown ⊢;have OWN:=hid hown;have EACH:=hid heach;have DIS:=hid hdis;have HZM:=hid hz;have HZ:=hid (show zs.length≤64 by rw [← hln];exact(Zd HL1.out).2.2.1);have SQ:=hid (back1_goes 5 (by decide) w6.heap.size cp1 ao1 zs w7 F7b.out hown.rd (by have:=HZ.out;omega));clear hz hown heach hdis hln L7 F7b;have EACH7:=hid (fun W (hk:Below w7.heap.size w7 W) (x:Nat)=>stD_rd W zs (fun z hz=>(EACH.out z hz).rd.below hk) x);have HXL:=hid (fun(x:Nat)=>(show(zs.getD x stD).1.2.length≤1000 from by
    rw [List.getD_eq_getElem?_getD]
    cases e:zs[x]? with
    | none=>exact Nat.zero_le _
    | some z =>
     have hm:z.1∈l1:=by rw [← HZM.out];exact List.mem_map_of_mem (List.mem_of_getElem? e)
     have h1:=text_len HL1.out hm;have h2:=keys_le z.1;show z.1.2.length≤1000
     omega))
   go_wp2_with fail
   obtain⟨sb6,hsb6⟩:∃ x,x=w6.heap.size:=⟨_,rfl⟩
   rw [← hsb6] at SQ ⊢;clear hsb6
   refine(wpIn_wide (n:=6)).1 ?_
   generalize ha0:Act.mk _ _=a0;refine wpIn_rangeFunc_ownH rfl (by omega) (gf:=90) (by rw [← ha0];rfl) trivial (enters_of Tryz.func90 (by kernel_rfl) rfl)
    SQ.out (fun h g=>h.trans g) (fun W l o o' hl ho hc _=>KpB.put hl ho hc) (Below.refl _ _) (fun _=>rfl)
    (fun pre W=>Below w7.heap.size w7 W∧∀ k∈pre,hasK (zs.getD k stD).1 Zx=false) (fun c pre W=>c=.exit 0∧SiRet w7 w.heap.size (sb+1) zs L pre W) (fun s W1 W2 row hs hg hr=>⟨hs.1.grown hg hs.1.size (fun k hk=>(hr k hk).1),hs.2⟩) (fun c s W1 W2 row hs hg hr=>⟨hs.1,hs.2.grown hg hr⟩) ⟨Below.refl _ _,fun k hk=>by cases hk⟩
    (fun x a' W=>∃ Bx,w7.heap.size≤Bx∧W.heap[Bx]?=some (.cells #[.string ⟨(zs.getD x stD).1.1.toArray⟩,Qt (zs.getD x stD)] 106 (0,0))∧a'={ tmps:=((a0.tmps.setIfInBounds 51 (.int .i64 (x:Nat))).setIfInBounds 52 (stV (zs.getD x stD))).setIfInBounds 11 (.pointer (some ⟨Bx,0,none⟩)),defers:=[] }) ?own ?assign ?body ?done ?stop
   case own =>
    rintro x a' s W W' row ⟨Bx,h1,h2,h3⟩ hg hr
    refine⟨Bx,h1,(hg.block Bx (lt_of_block h2) (fun e=>?_)).trans h2,h3⟩
    obtain⟨_,o,ho,hc⟩:=hr Bx e.symm
    rw [h2] at ho
    cases ho
    cases hc
   case assign =>
    intro l pre x W K hI hK;have hbW:Below W.heap.size W (W.alloc (.cells #[.string ⟨(zs.getD x stD).1.1.toArray⟩,Qt (zs.getD x stD)] 106)):=bal _ _;have hz7:=hI.1.size;subst ha0;unfold stV Qt;simp only [List.setIfInBounds_toArray,List.set_cons_zero,List.set_cons_succ]
    gi_wp2
    exact hK _ _ ((KeepsOthers.alloc _ _).from _) (KpB.of_below hbW hz7) ⟨hI.1.then hbW,hI.2⟩ ⟨W.heap.size,hz7,heap_alloc_new W _,rfl⟩
   case body =>
    rintro l pre x a' W _ _ hI ⟨Bx,hB,hBx,rfl⟩ hlen;have HI:=hid hI.1;have HPRE:=hid hI.2;have HBX:=hid hBx;clear hI;subst ha0;simp only [List.setIfInBounds_toArray,List.set_cons_zero,List.set_cons_succ]
    obtain⟨z,hz⟩:∃ z,z=zs.getD x stD:=⟨_,rfl⟩
    have HZG:=hid hz;rw [← hz] at hBx HBX ⊢;have LX:=hid (show z.1.2.length≤1000 from by rw [hz];exact HXL.out x);clear hz
    obtain⟨⟨zn,zk⟩,za,zc⟩:=z
    unfold stV;simp only [Qt] at hBx HBX LX ⊢;have HIN:=hid (show zk≠[]→∃ hx:x<zs.length,((zn,zk),(za,zc))=zs[x]'hx from fun hne=>by
     rcases Nat.lt_or_ge x zs.length with h | h
     ·refine⟨h,?_⟩
      rw [HZG.out,List.getD_eq_getElem?_getD,List.getElem?_eq_getElem h];rfl
     ·refine absurd ?_ hne
      have:=HZG.out
      rw [List.getD_eq_getElem?_getD,List.getElem?_eq_none h] at this
      cases this;rfl)
    obtain⟨x0,x1,_,_,xl⟩:=Qq hBx
    clear hBx;have hl0:(0:Int)≤(zk.length:Int):=by omega
    gi_wp2
    gi_loopw [12,56] (fun v12 v56 wr=>∃ j:Nat,j≤zk.length∧v56=.int .i64 j∧wr=W∧∀ k (hk:k<zk.length),k<j→(zk[k]'hk).1≠Zx) (fun v12 v56 _=>zk.length - (intOf v56).toNat)
    case atStart=>exact⟨0,Nat.zero_le _,rfl,rfl,fun k _ h=>absurd h (Nat.not_lt_zero _)⟩
    case round =>
     obtain⟨j,hj,rfl,rfl,hno⟩:=hrel
     have HNO2:=hid hno;clear hno
     by_cases hjl:j<zk.length
     case neg =>
      have hji:(zk.length:Int)≤(j:Int):=by omega
      have HALL:=hid (show hasK (zs.getD x stD).1 Zx=false from by
       rw [← HZG.out];refine hasK_no.2 fun k hk=>?_
       obtain⟨i,hi,rfl⟩:=List.getElem_of_mem hk
       exact HNO2.out i hi (Nat.lt_of_lt_of_le hi (Nat.le_of_not_lt hjl)))
      clear hjl
      gi_wp2
      refine⟨KeepsFrom.refl _ _,KpB.refl _ _ _,HI.out,fun k hk=>?_⟩
      rcases List.mem_append.1 hk with hk | hk
      ·exact HPRE.out k hk
      ·rw [List.mem_singleton.1 hk];exact HALL.out
     case pos =>
      have hji:(j:Int)<(zk.length:Int):=by omega
      have hj0:(0:Int)≤(j:Int):=by omega
      have hjb:(j:Int)≤1000:=by have:=LX.out;omega
      obtain⟨hx,hzx⟩:=HIN.out (by intro e;rw [e] at hjl;exact absurd hjl (by simp))
      have EZ:=hid (show Qd wr w.heap.size (.slice za zk.length zc) zk from by
       have:=Qz (EACH.out _ (List.getElem_mem hx)) HI.out
       rw [← hzx] at this;exact this)
      rcases Qd.shape EZ.out with ⟨_,h0⟩ | ⟨g,cap,cur,hsl,hgB,hgc,_⟩
      ·rw [h0] at hjl;exact absurd hjl (by simp)
      injection hsl with hza _ hzc
      subst hza;subst hzc
      obtain⟨k0,k1,kf,kl,_⟩:=Qd.at EZ.out hjl
      have HG:=hid (show ∃ cur,wr.heap[g]?=some (.cells cur 76 (0,0)) from⟨cur,hgc⟩);have HGB:=hid hgB;have HZX:=hid (show ∃ hx:x<zs.length,((zn,zk),(some (⟨g,0,none⟩:Addr),zc))=zs[x]'hx from⟨hx,hzx⟩);have HJK:=hid (show ∃ hjl:j<zk.length,zk[j]'hjl=zk[j]'hjl from⟨hjl,rfl⟩)
      obtain⟨kk,hkk⟩:∃ kk,kk=(zk[j]'hjl).1:=⟨_,rfl⟩
      obtain⟨kv,hkv⟩:∃ kv,kv=(zk[j]'hjl).2:=⟨_,rfl⟩
      rw [← hkk] at k0;rw [← hkv] at k1;have HKK:=hid (show ∀ hjl:j<zk.length,(zk[j]'hjl).1=kk from fun _=>hkk.symm);have HKV:=hid (show ∀ hjl:j<zk.length,(zk[j]'hjl).2=kv from fun _=>hkv.symm);have hwj:IntKind.i64.wrap ((j:Int)+1)=(j:Int)+1:=IntWalk.i64_in _ (by omega);clear hgc hgB hzx hkk hkv
      by_cases hkc:kk=Zx
      case neg =>
       have hb1:(kk==[99,111,117,110,116])=false:=beq_eq_false_iff_ne.2 hkc;have HNO3:=hid (show ∀ k (hk:k<zk.length),k<j+1→(zk[k]'hk).1≠Zx from fun k hk hlt=>by
        rcases Nat.lt_or_eq_of_le (Nat.le_of_lt_succ hlt) with h | h
        ·exact HNO2.out k hk h
        ·subst h;rw [HKK.out hk];exact hkc)
       have HJL:=hid hjl;clear hx hjl kf hkc
       gi_wp2
       go_roundw
       case rel=>exact⟨j+1,HJL.out,rfl,trivial,HNO3.out⟩
       case measure=>simp [intOf];have:=HJL.out;omega
      case pos =>
       have hb1:(kk==[99,111,117,110,116])=true:=by rw [hkc];rfl
       have HKA:=hid (show KeyAt zk Zx j from⟨hjl,by rw [HKK.out hjl];exact hkc,fun i hi=>HNO2.out i (Nat.lt_trans hi hjl) hi⟩);have HHK:=hid (show hasK (zn,zk) Zx=true from by
        unfold hasK;exact List.any_eq_true.2 ⟨zk[j]'hjl,List.getElem_mem hjl,by rw [HKK.out hjl,hkc];simp⟩)
       have HMAY:=hid (show mayB (zn,zk)=true from by
        obtain⟨hx,hzx⟩:=HZX.out
        have hm:(zs[x]'hx).1∈zs.map (·.1):=List.mem_map_of_mem (List.getElem_mem hx);rw [HZM.out,← hzx] at hm;exact List.all_eq_true.1 (Zd HL1.out).1 _ hm)
       have hws:w.heap.size≤w7.heap.size:=B7.out.size;have HB5:=hid (lt_of_block F7.out);clear hx hjl hkc HNO2
       by_cases hvo:kv=otherT
       case pos =>
        have hb2:(kv==[111,116,104,101,114])=true:=by rw [hvo];rfl
        have HSF:=hid (show turnL (zs.map (·.1)) x (zn,zk)=[] from by
         unfold turnL;rw [if_pos ((setK_self HMAY.out HKA.out).2 (by rw [HKV.out HKA.out.1,hvo]))])
        clear hvo
        gi_wp2
        obtain⟨hx,hzx⟩:=HZX.out
        refine⟨KeepsFrom.refl _ _,rfl,pre,x,hx,rfl,HPRE.out,by rw [← hzx];exact HHK.out,HI.out.mono hws,HB5.out,hws,_,bk HI.out F7.out,?_⟩
        rw [← hzx,HSF.out,List.append_nil];exact Qz O7.out HI.out
       case neg =>
        have hb2:(kv==[111,116,104,101,114])=false:=beq_eq_false_iff_ne.2 hvo;have HSF:=hid (show turnL (zs.map (·.1)) x (zn,zk)=(Zy ((zs.map (·.1)).set x (zn,zk.set j (Zx,otherT)))).toList from by
         unfold turnL;rw [if_neg (fun e=>hvo (by rw [← HKV.out HKA.out.1];exact(setK_self HMAY.out HKA.out).1 e)),setK_at HMAY.out HKA.out])
        clear hvo
        obtain⟨hx,hzx⟩:=HZX.out
        have hOW:=OWN.out.below HI.out
        obtain⟨g0,rfl⟩:=Qf.some' hOW (by intro e;rw [e] at hx;exact absurd hx (by simp))
        have TS:=hid (show RdL Xf (wr.setCell ⟨g,j * 2+1,none⟩ (.string ⟨#[111,116,104,101,114]⟩)) (.slice (some ⟨g0,0,none⟩) zs.length cp1) (zs.set x ((zn,zk.set j (Zx,otherT)),(some ⟨g,0,none⟩,zc)))∧
          (∀ z∈zs.set x ((zn,zk.set j (Zx,otherT)),(some ⟨g,0,none⟩,zc)),RdP (wr.setCell ⟨g,j * 2+1,none⟩ (.string ⟨#[111,116,104,101,114]⟩)) (Qt z) z.1.2) from by
         have h:=turn_steps (v:=otherT) (i:=j) (x:=x) hOW rfl (fun z hz=>Qz (EACH.out z hz) HI.out) DIS.out hx (g:=g) (c:=zc) (by rw [← hzx]) (by rw [← hzx];exact HKA.out.1);simp only [← hzx] at h;have hk:(zk[j]'HKA.out.1).1=Zx:=HKA.out.2.1;rw [hk] at h;exact h)
        obtain⟨zs2,hzs2⟩:∃ zs2,zs2=zs.set x ((zn,zk.set j (Zx,otherT)),(some (⟨g,0,none⟩:Addr),zc)):=⟨_,rfl⟩
        rw [← hzs2] at TS;have hm2:zs2.map (·.1)=(zs.map (·.1)).set x (zn,zk.set j (Zx,otherT)):=by rw [hzs2,List.map_set]
        rw [← hm2] at HSF;have HM2:=hid (show ∀ z∈zs2,mayB z.1=true∧(Zw z.1).length≤1073741824 from by
         rw [hzs2];refine all_set (fun z hz=>?_) ⟨?_,?_⟩
         ·have hm:z.1∈l1:=by rw [← HZM.out];exact List.mem_map_of_mem hz
          exact⟨List.all_eq_true.1 (Zd HL1.out).1 _ hm,by have:=text_len HL1.out hm;omega⟩
         ·have:=other_may HMAY.out
          rwa [setK_at HMAY.out HKA.out] at this
         ·refine text_other (x:=(zn,zk)) j ?_;have hm:(zs[x]'hx).1∈l1:=by rw [← HZM.out];exact List.mem_map_of_mem (List.getElem_mem hx)
          rw [← hzx] at hm;exact text_len HL1.out hm)
        have HL2:=hid (show zs2.length≤64 from by rw [hzs2,List.length_set];exact HZ.out)
        obtain⟨cg,hcg⟩:=HG.out
        have hne3:b3≠g:=fun e=>by
         have:=bk HI.out Y7.out
         rw [e,hcg] at this;cases this
        have hne5:sb+1≠g:=fun e=>by
         have:=bk HI.out F7.out
         rw [e,hcg] at this;cases this
        have Y8:=hid ((heap_setCell_other wr ⟨g,j * 2+1,none⟩ b3 (.string ⟨#[111,116,104,101,114]⟩) hne3).trans (bk HI.out Y7.out));have F8:=hid ((heap_setCell_other wr ⟨g,j * 2+1,none⟩ (sb+1) (.string ⟨#[111,116,104,101,114]⟩) hne5).trans (bk HI.out F7.out));have O8:=hid (show Qg (wr.setCell ⟨g,j * 2+1,none⟩ (.string ⟨#[111,116,104,101,114]⟩)) w.heap.size _ L from Qw (Qz O7.out HI.out) (Qx (Qz O7.out HI.out) hcg (by decide)) _ _);have B8:=hid ((HI.out.mono hws).setCell (p:=⟨g,j * 2+1,none⟩) HGB.out (.string ⟨#[111,116,104,101,114]⟩));have K8:=hid (KeepsOthers.setCell wr ⟨g,j * 2+1,none⟩ (.string ⟨#[111,116,104,101,114]⟩));have y0:(wr.setCell ⟨g,j * 2+1,none⟩ (.string ⟨#[111,116,104,101,114]⟩)).cell? ⟨b3,0,none⟩=some (.slice (some ⟨g0,0,none⟩) zs.length cp1):=cR Y8.out;have yl:=lt_of_block Y8.out;have hln2:zs2.length=zs.length:=by rw [hzs2,List.length_set]
        have PR:=hid (pprint_gen (wr.setCell ⟨g,j * 2+1,none⟩ (.string ⟨#[111,116,104,101,114]⟩)) (.slice (some ⟨g0,0,none⟩) zs.length cp1) zs2 TS.out.1 TS.out.2 HM2.out (by have:=HL2.out;omega));have PG:=hid hcg;have HX2:=hid (show ∃ hx:x<zs.length,((zn,zk),(some (⟨g,0,none⟩:Addr),zc))=zs[x]'hx from⟨hx,hzx⟩);clear hx hzx hOW hzs2 hm2 hcg hne3 hne5 hln2 TS HM2
        cases hpr:Zy (zs2.map (·.1)) with
        | none =>
         rw [show putE (zs2.map (·.1))=3 by unfold putE;rw [hpr];rfl] at PR;rw [hpr] at HSF;have HSF2:=hid (show turnL (zs.map (·.1)) x (zn,zk)=[] from HSF.out);clear hpr
         gi_wp2
         refine⟨trivial,CallsIn.inRound l (callsIn_wide.2 (PR.out.mono ?_))⟩
         rintro e W2 ⟨rfl,hb2⟩;have F9:=hid (bk hb2 F8.out);have O9:=hid (show Qg W2 w.heap.size _ L from Qz O8.out hb2);have B9:=hid (B8.out.trans (hb2.mono (Nat.le_trans hws B8.out.size)));have K9:=hid (K8.out.trans (KeepsOthers.of_grownBy (Xm hb2) (fun j o e=>by cases e)));clear hb2 y0 yl F8 O8 B8 K8
         gi_wp2
         obtain⟨hx,hzx⟩:=HX2.out
         refine⟨K9.out.from _,rfl,pre,x,hx,rfl,HPRE.out,by rw [← hzx];exact HHK.out,B9.out,HB5.out,hws,_,F9.out,?_⟩
         rw [← hzx,HSF2.out,List.append_nil];exact O9.out
        | some q =>
         rw [show putE (zs2.map (·.1))=0 by unfold putE;rw [hpr];rfl,show putT (zs2.map (·.1))=q by unfold putT;rw [hpr];rfl] at PR;rw [hpr] at HSF;have HSF2:=hid (show turnL (zs.map (·.1)) x (zn,zk)=[q] from HSF.out);clear hpr
         gi_wp2
         refine⟨trivial,CallsIn.inRound l (callsIn_wide.2 (PR.out.mono ?_))⟩
         rintro e W2 ⟨rfl,hb2⟩;have F9:=hid (bk hb2 F8.out);have O9:=hid (show Qg W2 w.heap.size _ L from Qz O8.out hb2);have B9:=hid (B8.out.trans (hb2.mono (Nat.le_trans hws B8.out.size)));have K9:=hid (K8.out.trans (KeepsOthers.of_grownBy (Xm hb2) (fun j o e=>by cases e)));have HWB:=hid (Nat.le_trans hws B9.out.size);clear hb2 y0 yl F8 O8 B8 K8;have x0:W2.cell? ⟨sb+1,0,none⟩=some (.slice a5 L.length c5):=cR F9.out;have xf:=frozen_of_row _ _ 0 _ _ F9.out;have xl:=lt_of_block F9.out
         gi_wp2_with (gi_at_builtin;refine wpListIn_pushS rfl (.tmp 85) (.tmp 87) rfl w.heap.size (.slice a5 L.length c5) L q rfl O9.out rfl (by have:=HLL.out;omega) HWB.out ?_;intro v6 w6 own6 gr6 mv6;obtain⟨a6,c6,rfl⟩:=Qc own6;have NE6:=Qx O9.out F9.out (by decide);have F10:=hid ((gr6.block _ (lt_of_block F9.out) (fun e=>NE6 e.symm)).trans F9.out);have O10:=hid (show Qg w6 w.heap.size _ (L++[q]) from own6);have B10:=hid (B9.out.grown gr6 HWB.out (fun k e=>(World.ownsRow.lt O9.out k e).1));have K10:=hid (K9.out.trans (KeepsOthers.of_grownBy gr6 (own_cells O9.out)));clear own6 gr6 mv6 NE6 x0 xf xl;have x0:w6.cell? ⟨sb+1,0,none⟩=some (.slice a5 L.length c5):=(by rw [cell_of_row _ _ _ _ _ _ F10.out];rfl);have xf:=frozen_of_row _ _ 0 _ _ F10.out;have xl:=lt_of_block F10.out)
         obtain⟨hx,hzx⟩:=HX2.out
         have o10:=O10.out;simp only [List.length_append,List.length_cons,List.length_nil,Nat.zero_add] at o10
         refine⟨(K10.out.trans (KeepsOthers.setCell _ _ _)).from _,rfl,pre,x,hx,rfl,HPRE.out,by rw [← hzx];exact HHK.out,B10.out.setCell (p:=⟨sb+1,0,none⟩) NE.out.2.2 _,HB5.out,hws,.slice a6 (L.length+1) c6,heap_setCell_same _ _ _ _ _ _ F10.out,?_⟩
         rw [← hzx,HSF2.out];exact Qw o10 (Qx o10 F10.out (by decide)) _ _
   case done =>
    rintro D xs W hD hxs hI hK;refine absurd ?_ HNO.out;intro y hy;rw [← HZM.out] at hy
    obtain⟨z,hz,rfl⟩:=List.mem_map.1 hy
    obtain⟨k,hk,rfl⟩:=List.getElem_of_mem hz
    have:=hI.2 k (back_all hxs k hk)
    rwa [List.getD_eq_getElem?_getD,List.getElem?_eq_getElem hk] at this
   case stop =>
    rintro D c pre W hD hSp ⟨rfl,pre',x,hx,rfl,h2,h3,hb,h5,h6,v,hrow,hown⟩ hK;have HOT:=hid (show otherL p1=turnL (zs.map (·.1)) x (zs[x]'hx).1 from by
     have hx':x<l1.length:=by rw [← HZM.out,List.length_map];exact hx
     have he:l1[x]'hx'=(zs[x]'hx).1:=by simp only [← HZM.out,List.getElem_map]
     have hs:=back_seen hSp hx
     have:=turn_other HL1.out hx' (by rw [he];exact h3) (fun m hm hlt=>by
      have hm2:m<zs.length:=by rw [← HZM.out,List.length_map] at hm;exact hm
      have h4:=h2 m (hs m hlt hm2);rw [List.getD_eq_getElem?_getD,List.getElem?_eq_getElem hm2] at h4;have he2:l1[m]'hm=(zs[m]'hm2).1:=by simp only [← HZM.out,List.getElem_map]
      rw [he2];exact h4)
     rw [he,← HZM.out] at this;exact this)
    have HTL:=hid (show(turnL (zs.map (·.1)) x (zs[x]'hx).1).length≤1 from by
     unfold turnL
     split
     ·simp
     ·cases Zy _ <;> simp)
    obtain⟨T,hT⟩:∃ T,T=turnL (zs.map (·.1)) x (zs[x]'hx).1:=⟨_,rfl⟩
    rw [← hT] at HOT HTL hown;clear hT h2 h3 hSp hx
    obtain⟨M,hM⟩:∃ M,M=L++T:=⟨_,rfl⟩
    rw [← hM] at hown;have HM:=hid hM;have HML:=hid (show M.length≤3 from by rw [hM,List.length_append];have:=HLL.out;have:=HTL.out;omega);clear hM
    obtain⟨a9,c9,rfl⟩:=Qc hown
    have OW:=hid hown;have RW:=hid hrow;have KD:=hid hK;have HWB:=hid (Nat.le_trans h6 hb.size);have BW:=hid (B7.out.trans hb);have HD:=hid (Nat.le_trans B7.out.size hD);clear hb h5 h6 hown hrow hK;have x0:W.cell? ⟨sb+1,0,none⟩=some (.slice a9 M.length c9):=cR RW.out;have xl:=lt_of_block RW.out;subst ha0;refine wpIn_wide.2 ?_
    go_wp2_with (at_builtin;refine Xk rfl (.tmp 90) (.tmp 92) rfl w.heap.size (.slice a9 M.length c9) M bare rfl OW.out rfl (by have:=HML.out;omega) HWB.out ?_;intro v6 w6 own6 gr6 mv6;obtain⟨a6,c6,rfl⟩:=Qc own6;have O10:=hid (show Qg w6 w.heap.size _ (M++[bare]) from own6);have B10:=hid (BW.out.grown gr6 HWB.out (fun k e=>(World.ownsRow.lt OW.out k e).1));have K10:=hid ((KeepsOthers.of_grownBy gr6 (own_cells OW.out)).same D _ KD.out rfl);clear own6 gr6 mv6 x0 xl)
    rw [Exit.noGoto_ret]
    refine⟨by simp,.inl ⟨_,_,rfl,run_takeDeferred K10.out,?_⟩⟩
    have o10:=O10.out;simp only [List.length_append,List.length_cons,List.length_nil,Nat.zero_add] at o10
    refine⟨.slice a6 (M.length+1) c6,?_,⟨_,rfl,?_,?_⟩⟩
    ·simp [results,Tryz.f21,go_sem]
    ·rw [SE.out,TY.out,HOT.out,← List.append_assoc,← HM.out];exact own_rows o10 (grownBy_putObj' w6 D (.deferred none)) (fun r e=>by cases e;exact⟨_,K10.out,rfl⟩)
    ·exact B10.out.trans (belowK_b (w:=w) (Nat.le_refl _) _ D _ _ HD.out K10.out rfl rfl)
end
section
open Go.RowKit Go.Lib
theorem gseeV (W:World)(x q:Str):Calls Tryz.prog 38 (#[.agg #[.string ⟨x.toArray⟩,.string ⟨q.toArray⟩]]++#[]) W fun e w'=>e=.returned (.tuple #[])∧Below W.heap.size W w':=by
 rw [Array.append_empty]
 go_enter Tryz.func38,Tryz.ntmps38
 go_wp2_with fail;refine bodyPost_end (v:=.tuple #[]) (by simp [results,go_sem]) rfl ?_
 exact⟨rfl,bal _ _⟩
theorem sideways1_any (w:World)(lc p:Str)(hp:p.length≤maxLen) :
  Calls Tryz.prog 37 #[.string ⟨lc.toArray⟩,.string ⟨p.toArray⟩] w fun e w'=>∃ v,e=.returned v∧Qg w' w.heap.size v (sideL lc p)∧Below w.heap.size w w':=by
 have SW:=hid (sideways_any w p hp)
 by_cases hne:lc=[]
 ·have hlb:(lc==[])=true:=by rw [hne];rfl
  have hlb2:List.isEmpty lc=true:=by rw [hne];rfl
  have HS:=hid (show sideL lc p=[p] from if_pos hne);clear hne
  go_enter Tryz.func37,Tryz.ntmps37
  go_wp2_with fail;exact bodyPost_ret (v:=.slice (some ⟨w.heap.size,0,none⟩) 1 1) (by simp [results,Tryz.results37,go_sem]) rfl ⟨_,rfl,by rw [HS.out];exact ownW_one w _ p (Nat.le_refl _),bal _ _⟩
 ·have hlb:(lc==[])=false:=beq_eq_false_iff_ne.2 hne;have hlb2:List.isEmpty lc=false:=isEmpty_ne hne;have HS:=hid (show sideL lc p=sideF p from if_neg hne);clear hne
  go_enter Tryz.func37,Tryz.ntmps37
  go_wp2_with fail;refine SW.out.mono ?_;rintro e w1 ⟨v,rfl,ho,hb⟩;go_wp2_with fail;exact bodyPost_ret (v:=v) (by simp [results,Tryz.results37,go_sem]) rfl ⟨_,rfl,by rw [HS.out];exact ho,hb⟩
theorem asks_parts {l p:Str}(h:asksB l p=true):Qm p=true:=by
 unfold asksB at h;simp only [Bool.and_eq_true] at h;exact h.1
theorem sideL_paths {l p:Str}(h:Qm p=true):∀ q∈sideL l p,Qm q=true:=fun q hq=>by
 unfold sideL at hq
 split at hq
 ·rw [List.mem_singleton.1 hq];exact h
 ·exact side_paths hq
theorem otherL_len (p:Str):(otherL p).length≤1:=by
 unfold otherL
 cases otherF p with
 | none=>simp
 | some q=>simp only;split <;> simp
theorem sdTail_len (p:Str):(sdTail p).length≤2:=by
 cases h:Zc p Zx with
 | none=>rw [tail_no (withoutT_none.2 h)];simp
 | some b =>
  rw [tail_yes (withoutT_some.2 h),List.length_append,List.length_singleton]
  have:=otherL_len p
  omega
theorem sideF_len (p:Str):(sideF p).length≤4:=by
 cases h:Qb p with
 | none=>rw [side_none (by unfold Qm;rw [h];rfl)];simp
 | some l =>
  rw [side_eq h];have h1:(Zc p altT).toList.length≤1:=by cases Zc p altT <;> simp
  have h2:=sdTail_len ((Zc p altT).getD p);simp only [List.length_append,List.length_cons]
  omega
theorem sideL_len (l p:Str):(sideL l p).length≤4:=by
 unfold sideL
 split
 ·simp
 ·exact sideF_len p
theorem value_any {B0:Nat}{w:World}{v:Value}{R:Rsv}(h:RsP B0 w v R)(ok:RsvOk R)(lc p:Str)(hlc:lc.length≤maxLen)(hp:p.length≤maxLen)(hA:R.als.length≤900)(hsz:R.par.length≤10000000000)(hsa:szA R.als) :
  Calls Tryz.prog 9 #[v,.string ⟨lc.toArray⟩,.string ⟨p.toArray⟩] w fun e w'=>e=.returned (.tuple #[.string ⟨((valueF R lc p).getD []).toArray⟩,.bool (valueF R lc p).isSome])∧Below w.heap.size w w':=by
 have AS:=hid (asks_any h ok lc p hlc hp hsz);have HD:=hid (show valueF R lc p=if asksB lc p=true then(Xh R.t (roadF R lc p)).2 else none from rfl);have H:=hid h;have SW:=hid (fun W=>sideways1_any W lc p hp);have WK:=hid (fun(ha:asksB lc p=true) W0 W vp (hW:RsP B0 W0 v R) (hb:Below W0.heap.size W0 W) (hvp:Qg W W0.heap.size vp (sideL lc p))=>walk_gen hW hb ok lc vp (sideL lc p) hvp (sideL_paths (asks_parts ha)) hlc hA (by have:=sideL_len lc p;omega) hsz hsa
  38 #[] (enters_of Tryz.func38 (by kernel_rfl) rfl) (fun _ _=>True) (fun _ _ _ _ _=>trivial) trivial (fun V W x q _ hbW _=>(gseeV W x q).mono fun e w' he=>⟨he.1,trivial,FrW.of_below he.2 hbW.size⟩))
 rw [show(sideL lc p).flatMap (Km R lc)=roadF R lc p from rfl] at WK
 obtain⟨b,Bt,vc,va,km,n,rfl,_⟩:=h
 cases hask:asksB lc p with
 | false =>
  rw [hask] at AS HD;rw [HD.out,if_neg (by simp)];clear hask
  go_enter Tryz.func9,Tryz.ntmps9
  go_wp2_with fail;refine AS.out.mono ?_;rintro e w1 ⟨rfl,hb1⟩;go_wp2_with fail;exact bodyPost_ret (v:=.tuple #[.string ⟨#[]⟩,.bool false]) (by simp [results,Tryz.results9,go_sem]) rfl ⟨rfl,hb1⟩
 | true =>
  rw [hask] at AS HD;rw [HD.out,if_pos rfl];have WKA:=hid (WK.out hask);clear WK hask;generalize (Xh R.t (roadF R lc p)).2=res at *
  go_enter Tryz.func9,Tryz.ntmps9
  go_wp2_with fail;refine AS.out.mono ?_;rintro e w1 ⟨rfl,hb1⟩;have H1:=hid (H.out.below hb1);have B1:=hid hb1;clear hb1;go_wp2_with fail
  refine(SW.out w1).mono ?_
  rintro e w2 ⟨vp,rfl,ho,hb2⟩;have B2:=hid hb2;have W2:=hid (WKA.out w1 w2 vp H1.out hb2 ho);clear ho hb2;go_wp2_with fail;refine W2.out.mono ?_;rintro e w3 ⟨rfl,_,hf⟩;have B3:=hid (B1.out.then (hf.bel B2.out));clear hf W2;go_wp2_with fail;exact bodyPost_ret (v:=.tuple #[.string ⟨(res.getD []).toArray⟩,.bool res.isSome]) (by simp [results,Tryz.results9,go_sem]) rfl ⟨rfl,B3.out⟩
end
section
open Go.RowKit Go.Lib Go.Sort Go.Maps Go.WideMaps
theorem w14_par:Xt w14T=[]:=by unfold Xt parPs;rw [w14_none];rfl
theorem w14_side:sideF [99,47,98]=[[99,47,98]]:=by decide +kernel
theorem w14_new14 {wr:Wrg}{R:Option Rsv}(h:New14 w14T wr R):wr=⟨0,0,0⟩∧∃ K,R=some ⟨w14T,[],w14A,K⟩∧KnownOut w14A (basePs w14T) true K:=by
 cases h with
 | par h1 h2 =>
  rw [w14_par] at h1
  rcases h1 with h | ⟨_,_,⟨p,h,_⟩,_⟩ | ⟨_,h,_⟩
  ·cases h
  ·simp at h
  ·exact absurd h h2
 | tgt _ h2=>rw [w14_tgts] at h2;cases h2
 | als _ h2 h3 h4=>rw [w14_tgts] at h2;cases h2;exact absurd (w14_al _ _ h3) h4
 | lng _ h2 _ h4=>rw [w14_tgts] at h2;cases h2;exact absurd (w14_kn _ _ h4) (by decide)
 | ok _ h2 _ h4=>rw [w14_tgts] at h2;cases h2;exact⟨rfl,_,by rw [w14_par],h4⟩
theorem w14_val (K:List Str):valueF ⟨w14T,[],w14A,K⟩ enGB [99,47,98]=some [49]:=by
 unfold valueF roadF sideL;rw [if_pos w14_asks,if_neg (by decide),w14_side];simp only [List.flatMap_cons,List.flatMap_nil,List.append_nil];exact w14_look K
theorem w14wakes_gen (w:World)(hT:TabsB w.heap.size w):Calls Tryz.prog 7 #[] w fun e w'=>e=.returned (.bool true)∧Below w.heap.size w w':=by
 have HT:=hid (fun W (h:Below w.heap.size w W)=>(show TabsB W.heap.size W from⟨(hT.below h).1,Nat.lt_of_lt_of_le hT.2.1 h.size,Nat.lt_of_lt_of_le hT.2.2 h.size⟩));have HB1:=hid (show Below w.heap.size w ((w.alloc (.cells #[.string ⟨#[97,47,98]⟩,.string ⟨#[49]⟩,.bool false,.string ⟨#[]⟩,.int .i64 0,.string ⟨#[99]⟩,.string ⟨#[46,46,47,97]⟩,.bool true,.string ⟨#[]⟩,.int .i64 0] 55)).alloc (.cells #[.string ⟨#[114,111,111,116]⟩,.bool false,.slice (some ⟨w.heap.size,0,none⟩) 2 2] 53)) from(bal _ _).alloc (by simp) _);have NW:=hid (tnew_any _ _ _ (w14_rd (w:=w)) w14_sz);clear hT
 go_enter Tryz.func7,Tryz.ntmps7
 go_wp2_with fail;refine NW.out.mono ?_;rintro e w1 ⟨hb1,hx⟩;rw [w14_new] at hx
 rcases hx with ⟨_,Bt,bv,ba,bn,bp,N,V,rfl,tb,ok⟩ | ⟨h,_⟩
 ·have B1:=hid (HB1.out.trans (hb1.mono HB1.out.size));have OK:=hid ok;have A2:=hid (bal w1 (.cells #[.int .i64 0,.int .i64 0,.int .i64 0] 26));have F2:=hid (heap_alloc_new w1 (.cells #[.int .i64 0,.int .i64 0,.int .i64 0] 26));have T2:=hid (show TbP _ (w1.alloc (.cells #[.int .i64 0,.int .i64 0,.int .i64 0] 26)) Bt w14T from⟨bv,ba,bn,bp,N,V,tb.below A2.out⟩);have B2:=hid (B1.out.then A2.out);clear hb1 tb ok NW B1 A2;go_upto_region 2 with fail;generalize w1.alloc (.cells #[.int .i64 0,.int .i64 0,.int .i64 0] 26)=w2 at *
  obtain⟨x0,x1,x2,xl⟩:=Qj F2.out
  have RN:=hid (inew_any w2 Bt w14T T2.out OK.out w14_szt (fun p hp=>by rw [w14_none] at hp;cases hp) (by rw [w14_none];simp) (fun p hp=>by rw [w14_par] at hp;cases hp) (by simp [w14T]) w14_hav (fun A hA=>by rw [w14_tgts] at hA;cases hA;exact⟨w14_sza,w14_srt⟩) w14_hb (HT.out _ B2.out));go_wp2_with fail;refine RN.out.mono ?_;rintro e w3 ⟨v3,wr,R,rfl,hn,_,hrs,hb3⟩
  obtain⟨rfl,K,rfl,hkn⟩:=w14_new14 hn
  have F3:=hid (bk hb3 F2.out);have B3:=hid (B2.out.then hb3);have RS:=hid (hrs _ rfl)
  obtain⟨rb,_,_,_,_,_,hv3,_⟩:=hrs _ rfl
  subst hv3;have RO:=hid (w14_ok hkn OK.out);clear x0 x1 x2 xl hb3 hrs hkn RN F2 B2 T2 hn
  obtain⟨x0,x1,x2,xl⟩:=Qj F3.out
  obtain⟨xf0,xf1,xf2⟩:=Zl F3.out
  have VN:=hid (value_any RS.out RO.out enGB [99,47,98] (by decide) (by decide) (by simp [w14A]) (by simp) w14_sza);simp only [w14_val,Option.getD_some,Option.isSome_some] at VN;go_upto_region 5 with fail;rw [setCell_self (W:=w3) F3.out rfl,setCell_self (W:=w3) F3.out rfl,setCell_self (W:=w3) F3.out rfl];go_wp2_with fail;refine VN.out.mono ?_;rintro e w4 ⟨rfl,hb4⟩;have F4:=hid (bk hb4 F3.out);have B4:=hid (B3.out.then hb4);clear x0 x1 x2 xl xf0 xf1 xf2 hb4
  obtain⟨x0,x1,x2,xl⟩:=Qj F4.out
  go_wp2_with fail;exact bodyPost_ret (v:=.bool true) (by simp [results,Tryz.results7,go_sem]) rfl ⟨rfl,B4.out⟩
 ·exact absurd rfl h
end
section
open Go.RowKit Go.Lib
def SzV (L:List Dc):Prop:=∀ d∈L,∀ x∈d.items,x.value.length≤1048576
structure TbFit (t:Tb):Prop where
 ok:Jq t
 sz:SzT t
 paths:∀ p∈t.paths,Qm p=true
 nil:∀ p∈Qn t [],Qm p=true
 nilLen:(Qn t []).length≤300
 parLen:(parPs t).length≤60
 psz:PSz (Xt t)
 als:t.als.length≤20
 hav:∀ g∈Xq t,g.1.length≤maxLen∧g.2.length≤1048576
 tgt:∀ A,tgtsF (Xq t) []=.inl A→szA A∧Kh A=A
 base:∀ p,p∈basePs t↔∃ l∈srtT t.names,p∈Qn t l
 locs:LocOk t
 text:∀ r∈t.rows,r.text.length≤1048576
 rloc:∀ r∈t.rows,r.loc.length≤maxLen
theorem path_len {p:Str}(h:Qm p=true):p.length≤512:=by
 obtain⟨l,hl⟩:=Option.isSome_iff_exists.1 h
 obtain⟨_,_,_,h4,h5⟩:=Zd hl
 rw [h5] at h4;exact h4
theorem target_path {g s t:Str}(h:Jw g s=.inl t):Qm t=true:=by
 have key:∀ m,(match Zy m with | some t=>(Sum.inl t:Str ⊕ Nat) | none=>.inr 3)=.inl t→Qm t=true:=by
  intro m hm
  cases hp:Zy m with
  | none=>rw [hp] at hm;cases hm
  | some u =>
   rw [hp] at hm
   cases hm;unfold Qm;rw [print_path hp];rfl
 unfold Jw at h
 repeat' split at h
 all_goals first
  | (cases h;done)
  | (have e:=‹Zy _=some _›;cases h;unfold Qm;rw [print_path e];rfl)
  | exact key _ h
theorem tgts_all:∀ {gs:List (Str×Str)}{done A:List Al},tgtsF gs done=.inl A→(∀ x∈done,Qm x.2=true)→A.map (·.1)=done.map (·.1)++gs.map (·.1)∧∀ x∈A,Qm x.2=true
 | [],done,A,h,hd=>by cases h;exact⟨by simp,hd⟩
 | g::r,done,A,h,hd=>by
  rw [tgtsF] at h
  split at h
  ·next t e =>
   obtain⟨h1,h2⟩:=tgts_all h fun x hx=>by
    rcases List.mem_append.1 hx with hx | hx
    ·exact hd x hx
    ·rw [List.mem_singleton.1 hx];exact target_path e
   exact⟨by rw [h1];simp,h2⟩
  ·cases h
theorem par_key {p:Str}:((parF p).getD []).length≤64:=by
 unfold parF
 split
 ·next n k v h =>
  split
  ·obtain⟨_,h2,_⟩:=Zd h
   simp only [List.all_cons,List.all_nil,Bool.and_true,fitB,fitK,Bool.and_eq_true,decide_eq_true_eq] at h2;exact h2.2.2
  ·simp
 ·simp
theorem srtK_id {A:List Al}(h:A.Pairwise fun a b=>¬ b.1<a.1):Kh A=A:=by
 unfold Kh;refine List.mergeSort_of_pairwise (h.imp fun {a b} h=>?_);unfold leK;exact decide_eq_true (by simpa using h)
theorem evs_als:∀ D:List Dc,((evs D).filter fun e=>e.2.alias').length=allA D
 | []=>rfl
 | d::r=>by
  rw [evs_cons,List.filter_append,List.length_append,evs_als r]
  have:((evI d.loc d.items).filter fun e=>e.2.alias').length=cntA d.items:=by
   unfold evI cntA;rw [List.filter_map,List.length_map];rfl
  rw [this]
  simp [allA]
theorem evs_par:∀ D:List Dc,((evs D).filter fun e=>isParP e.2.path).length=allP D
 | []=>rfl
 | d::r=>by
  rw [evs_cons,List.filter_append,List.length_append,evs_par r]
  have:((evI d.loc d.items).filter fun e=>isParP e.2.path).length=cntP d.items:=by
   unfold evI cntP;rw [List.filter_map,List.length_map];rfl
  rw [this]
  simp [allP]
theorem par_pre {p:Str}(h:(parF p).isSome=true):isParP p=true:=by
 unfold parF at h
 split at h
 ·next n k v hp =>
  split at h
  ·next hc =>
   obtain⟨rfl,rfl⟩:=hc
   have e:=(Zd hp).2.2.2.2;have e2:Zb [(parentT,[(localeT,v)])]=parPre++(localeT++61::(Zv v++[93])):=by simp [Zb,Zw,Kj,keyT,parentT,parPre]
   rw [e2] at e;unfold isParP;rw [← e];have e3:(parPre++(localeT++61::(Zv v++[93]))).take 7=parPre:=by rw [List.take_append_of_le_length (by decide)];rfl
   rw [e3]
   have:7<(parPre++(localeT++61::(Zv v++[93]))).length:=by simp [parPre,localeT]
   rw [decide_eq_true this];rfl
  ·cases h
 ·cases h
theorem row_ev {D:List Dc}{NS:List Str}{t:Tb}(h:Inv (evs D) NS t)(ok:Jq t){r:Rw}(hr:r∈t.rows):∃ d∈D,∃ x∈d.items,d.loc=r.loc∧x.path=r.path∧x.value=r.text∧x.alias'=false:=by
 have hf:(Qy t.rows r.loc r.path).map (·.text)=some r.text:=by
  cases hf:Qy t.rows r.loc r.path with
  | none=>exact absurd ⟨rfl,rfl⟩ (findR_none.1 hf r hr)
  | some y =>
   obtain⟨h1,h2,h3⟩:=findR_some hf
   have hn:=ok.rows
   obtain⟨i,hi,rfl⟩:=List.getElem_of_mem hr
   obtain⟨j,hj,rfl⟩:=List.getElem_of_mem h1
   have e:i=j:=(List.getElem_inj (h₀:=by simpa using hi) (h₁:=by simpa using hj) hn).1 (by simp only [List.getElem_map];rw [h2,h3]);subst e;rfl
 obtain⟨x,hx,ha,hp,hv⟩:=(h.rows r.loc r.path r.text).1 hf
 obtain⟨d,hd,y,hy,e⟩:=evs_mem.1 hx
 obtain⟨e1,rfl⟩:=Prod.mk.inj e
 exact⟨d,hd,x,hy,e1.symm,hp,hv,ha⟩
theorem fit_of {D:List Dc}(hz:(Kc D).1.err=0)(hD:Small D)(hs:SzL D)(hv:SzV D):TbFit (Kc D).2:=by
 obtain⟨_,h2,h3,ok⟩:=docs_inv D 0 Inv.zero Jq.zero hz
 rw [List.nil_append,List.nil_append] at h3;change Inv (evs D) (nms D) (Kc D).2 at h3;change Jq (Kc D).2 at ok;have sz:=szT_of hs hz;have he:(evs D).length≤300:=by
  have h1:=evs_len D 30 hD.each;have h2:=hD.len
  omega
 have hal:(Kc D).2.als.length≤20:=by
  have:=nodup_le ((Kc D).2.als.map (·.path)) (((evs D).filter fun e=>e.2.alias').map fun e=>e.2.path) ok.als (fun p hp=>by
   obtain⟨r,hr,rfl⟩:=List.mem_map.1 hp
   obtain⟨l',x,hx,ha,e,_⟩:=(h3.als r.path r.text).1 (by rw [als_find ok hr];rfl)
   exact List.mem_map.2 ⟨(l',x),List.mem_filter.2 ⟨hx,ha⟩,e⟩)
  rw [List.length_map,List.length_map,evs_als] at this
  have:=hD.als
  omega
 have hpb:∀ p∈(Kc D).2.paths,Qm p=true:=fun p hp=>by
  obtain⟨l',x,hx,ha,rfl⟩:=(h3.paths p).1 hp
  obtain⟨d,hd,y,hy,e⟩:=evs_mem.1 hx
  cases e
  have:=(h2 d hd).2 x hy
  have h4:=this.1
  cases hb:Qm x.path with
  | true=>rfl
  | false=>exact absurd (Or.inr hb) h4
 have hev:=fun {r} hr=>row_ev h3 ok (r:=r) hr
 have htx:∀ r∈(Kc D).2.rows,r.text.length≤1048576:=fun r hr=>by
  obtain⟨d,hd,x,hx,_,_,e,_⟩:=hev hr
  rw [← e];exact hv d hd x hx
 have sub:∀ l p,p∈Qn (Kc D).2 l→∃ r∈(Kc D).2.rows,r.loc=l∧r.path=p:=fun l p hp=>by
  have h1:=(srtT_perm _).mem_iff.1 hp
  obtain⟨r,hr,rfl⟩:=List.mem_map.1 h1
  obtain⟨g1,g2⟩:=List.mem_filter.1 hr
  exact⟨r,g1,by simpa using g2,rfl⟩
 have sup:∀ r∈(Kc D).2.rows,r.path∈Qn (Kc D).2 r.loc:=fun r hr=>(srtT_perm _).mem_iff.2 (List.mem_map.2 ⟨r,List.mem_filter.2 ⟨hr,by simp⟩,rfl⟩)
 have head:∀ r∈(Kc D).2.rows,r.loc=[]∨(Qk r.loc=true∧r.loc∈(Kc D).2.names):=fun r hr=>by
  obtain⟨d,hd,x,hx,e,_⟩:=hev hr
  have hh:=(h2 d hd).1;unfold okHead at hh;rw [← e]
  cases hsup:d.supp with
  | true =>
   refine Or.inl ?_
   by_cases hl:d.loc=[]
   ·exact hl
   ·exact absurd (Or.inl ⟨hsup,hl⟩) hh
  | false =>
   refine Or.inr ⟨?_,(h3.names _).2 (nms_mem.2 ⟨d,hd,hsup,rfl⟩)⟩
   cases hn:Qk d.loc with
   | true=>rfl
   | false=>exact absurd (Or.inr ⟨hsup,hn⟩) hh
 have hnd:(Qn (Kc D).2 []).Nodup:=((srtT_perm _).nodup_iff).2 (rows_nodup ok []);have hpe:∀ p∈Qn (Kc D).2 [],∃ e∈evs D,e.2.path=p:=fun p hp=>by
  obtain⟨r,hr,_,rfl⟩:=sub _ _ hp
  obtain⟨d,hd,x,hx,_,e,_⟩:=hev hr
  exact⟨(d.loc,x),evs_mem.2 ⟨d,hd,x,hx,rfl⟩,e⟩
 refine⟨ok,sz,hpb,fun p hp=>?_,?_,?_,fun p hp=>?_,hal,fun g hg=>?_,fun A hA=>?_,fun p=>⟨fun hp=>?_,?_⟩,fun r hr=>?_,htx,fun r hr=>by
  obtain⟨d,hd,_,_,e,_⟩:=hev hr
  rw [← e];exact(hs d hd).1⟩
 ·obtain⟨r,hr,_,rfl⟩:=sub _ _ hp
  exact hpb _ (ok.rp r hr)
 ·refine Nat.le_trans (nodup_le _ ((evs D).map fun e=>e.2.path) hnd fun p hp=>?_) (by rw [List.length_map];exact he)
  obtain⟨e,he',h⟩:=hpe p hp
  exact List.mem_map.2 ⟨e,he',h⟩
 ·refine Nat.le_trans (nodup_le _ (((evs D).filter fun e=>isParP e.2.path).map fun e=>e.2.path) (hnd.sublist List.filter_sublist) fun p hp=>?_) (by rw [List.length_map,evs_par];exact hD.par)
  obtain⟨h5,h6⟩:=List.mem_filter.1 hp
  obtain⟨e,he',h⟩:=hpe p h5
  exact List.mem_map.2 ⟨e,List.mem_filter.2 ⟨he',by rw [h];exact par_pre h6⟩,h⟩
 ·obtain⟨q,hq,rfl⟩:=List.mem_map.1 hp
  refine⟨Nat.le_trans par_key (by unfold maxLen;omega),?_⟩
  show(rText (Qy (Kc D).2.rows [] q)).length≤maxLen
  cases hf:Qy (Kc D).2.rows [] q with
  | none=>simp [rText]
  | some r =>
   have:=htx r (findR_some hf).1
   show r.text.length≤maxLen;unfold maxLen;omega
 ·have h1:=(aliasesF_perm _).mem_iff.1 hg
  obtain⟨l',x,hx,_,e1,e2⟩:=(h3.als g.1 g.2).1 ((alP_mem ok).1 h1)
  obtain⟨d,hd,y,hy,e⟩:=evs_mem.1 hx
  cases e
  exact⟨by rw [← e1];exact(hs d hd).2 x hy,by rw [← e2];exact hv d hd x hy⟩
 ·obtain⟨h1,h4⟩:=tgts_all hA fun x hx=>by cases hx
  rw [List.map_nil,List.nil_append] at h1
  refine⟨fun x hx=>⟨?_,Nat.le_trans (path_len (h4 x hx)) (by unfold maxLen;omega)⟩,srtK_id ?_⟩
  ·have:x.1∈(Xq (Kc D).2).map (·.1):=by rw [← h1];exact List.mem_map.2 ⟨x,hx,rfl⟩
   obtain⟨g,hg,e⟩:=List.mem_map.1 this
   have h5:=(aliasesF_perm _).mem_iff.1 hg
   obtain⟨l',y,hy,_,e1,e2⟩:=(h3.als g.1 g.2).1 ((alP_mem ok).1 h5)
   obtain⟨d,hd,z,hz',e3⟩:=evs_mem.1 hy
   cases e3;rw [← e,← e1];exact(hs d hd).2 y hz'
  ·have h5:=aliasesF_sorted (Kc D).2;have h6:(A.map (·.1)).Pairwise fun a b=>¬ b<a:=by
    rw [h1];exact List.pairwise_map.2 h5
   exact List.pairwise_map.1 h6
 ·obtain⟨r,hr,rfl⟩:=List.mem_map.1 hp
  obtain⟨g1,g2⟩:=List.mem_filter.1 hr
  rcases head r g1 with e | ⟨_,e⟩
  ·rw [e] at g2;simp at g2
  ·exact⟨r.loc,(srtT_perm _).mem_iff.2 e,sup r g1⟩
 ·rintro⟨l,hl,hp⟩
  obtain⟨r,hr,rfl,rfl⟩:=sub _ _ hp
  refine List.mem_map.2 ⟨r,List.mem_filter.2 ⟨hr,?_⟩,rfl⟩
  rcases head r hr with e | ⟨e,_⟩
  ·obtain⟨d,hd,hs',e2⟩:=nms_mem.1 ((h3.names _).1 ((srtT_perm _).mem_iff.1 hl))
   have hh:=(h2 d hd).1;rw [e] at e2;exact absurd (Or.inr ⟨hs',by rw [e2];exact named_nil⟩) hh
  ·have:r.loc≠[]:=fun e'=>by rw [e',named_nil] at e;cases e
   simpa using this
 ·rcases head r hr with e | ⟨e,_⟩
  ·exact Or.inl e
  ·exact Or.inr e
structure RsvFit (R:Rsv):Prop where
 ok:RsvOk R
 fit:TbFit R.t
 par:R.par=Xt R.t
 tgt:tgtsF (Xq R.t) []=.inl R.als
 als:R.als.length≤20
 parLen:R.par.length≤60
 sza:szA R.als
theorem RsvFit.of {t:Tb}{w:Wrg}{R:Rsv}(ht:TbFit t)(h:New14 t w (some R)):RsvFit R∧R.t=t∧w=⟨0,0,0⟩:=by
 obtain⟨h1,h2,h3,h4⟩:=new14_ok h ht.paths ht.ok
 cases h with
 | ok g1 g2 g3 g4 =>
  refine⟨⟨h1,ht,rfl,g2,?_,?_,(ht.tgt _ g2).1⟩,rfl,rfl⟩
  ·obtain⟨e,_⟩:=tgts_all g2 fun x hx=>by cases hx
   have e2:=congrArg List.length e;simp only [List.length_map,List.map_nil,List.nil_append] at e2;have e3:(Xq t).length=t.als.length:=by rw [(aliasesF_perm t).length_eq,alP_len]
   refine Nat.le_trans (Nat.le_of_eq e2) ?_;rw [e3];exact ht.als
  ·show(Xt t).length≤60
   unfold Xt;rw [List.length_map];exact ht.parLen
theorem RsvFit.chain_len {R:Rsv}(h:RsvFit R)(s:Str):(Xl R.par s).length≤732:=by
 rcases h.ok.chain s with ⟨h1,h2⟩ | ⟨_,h2⟩
 ·have:=up_len (new_ok h.ok.par).1 h1 h2
  have:=h.parLen
  omega
 ·rw [h2];simp
end
section
open Go.RowKit Go.Lib Go.Sort Go.Maps Go.WideMaps
theorem target_err {g s:Str}{e:Nat}(h:Jw g s=.inr e):e≠0:=by
 unfold Jw at h
 repeat' split at h
 all_goals (cases h;try decide)
theorem tgts_err:∀ {gs:List (Str×Str)}{done:List Al}{e:Nat}{g:Str},tgtsF gs done=.inr (e,g)→e≠0
 | [],done,e,g,h=>by cases h
 | x::r,done,e,g,h=>by
  rw [tgtsF] at h
  split at h
  ·exact tgts_err h
  ·next e' he=>cases h;exact target_err he
theorem new14_none {t:Tb}{w:Wrg}(h:New14 t w none):w.err≠0:=by
 cases h with
 | par _ h=>exact h
 | tgt _ h=>exact tgts_err h
 | als _ _ _ h=>exact h
 | lng=>decide
def NoRes (D:List Dc):Prop:=(Kc D).1.err≠0∨∃ wr R,(Kc D).1.err=0∧New14 (Kc D).2 wr R∧(R=none∨∃ R',R=some R'∧600<R'.known.length)
structure ResIs (D:List Dc)(R:Rsv):Prop where
 fit:RsvFit R
 err:(Kc D).1.err=0
 tb:R.t=(Kc D).2
 k600:R.known.length≤600
 new:∃ wr,New14 (Kc D).2 wr (some R)
def ResOut (w:World)(D:List Dc)(e:Ending)(w':World):Prop:=Below w.heap.size w w'∧((e=.returned (.pointer none)∧NoRes D)∨∃ v C R,e=.returned v∧RsP C w' v R∧ResIs D R)
theorem sz_cut14 {l:List Dc}(h:SzL l):SzL (cut14 l):=fun d hd=>by
 obtain⟨c,hc,h1,h2,h3⟩:=cut14_mem hd
 exact⟨by rw [h1];exact(h c hc).1,fun x hx=>(h c hc).2 x (h3 x hx)⟩
theorem szV_cut14 {l:List Dc}(h:SzV l):SzV (cut14 l):=fun d hd x hx=>by
 obtain⟨c,hc,h1,h2,h3⟩:=cut14_mem hd
 exact h c hc x (h3 x hx)
theorem resolver_any (w:World)(l:List Dc)(v:Value)(hd:RdD w v l)(hs:SzL l)(hv:SzV l)(hT:TabsB w.heap.size w) :
  Calls Tryz.prog 16 #[v] w fun e w'=>ResOut w (cut14 l) e w':=by
 have HT:=hid (fun W (h:Below w.heap.size w W)=>(show TabsB W.heap.size W from⟨(hT.below h).1,Nat.lt_of_lt_of_le hT.2.1 h.size,Nat.lt_of_lt_of_le hT.2.2 h.size⟩));have CU:=hid (cut14_any w l v hd);have HSZ:=hid (sz_cut14 hs);have HSV:=hid (szV_cut14 hv);have HSM:=hid (cut14_small l);clear hd hs hv hT;generalize cut14 l=D at *
 go_enter Tryz.func16,Tryz.ntmps16
 go_wp2_with fail;refine CU.out.mono ?_;rintro e w2 ⟨v2,rfl,hod,hb2⟩;have B2:=hid hb2;have OD:=hid hod;clear hb2 hod CU;have SZD:=hid (szD_of HSZ.out (by have:=HSM.out.len;omega) (fun d h=>by have:=HSM.out.each d h;omega));have NW:=hid (tnew_any w2 D _ OD.out.rd SZD.out);go_wp2_with fail;refine NW.out.mono ?_;rintro x w3 ⟨hb3,hx⟩;have B3:=hid (B2.out.then hb3);clear hb3 B2 OD NW
 rcases hx with ⟨hz,Bt,bv,ba,bn,bp,N,V,rfl,tb,ok⟩ | ⟨hz,rfl⟩
 ·have T3:=hid (show TbP w2.heap.size w3 Bt (Kc D).2 from⟨bv,ba,bn,bp,N,V,tb⟩);have HZ:=hid hz;have FIT:=hid (fit_of hz HSM.out HSZ.out HSV.out);clear hz tb ok;have HA:=hid (bal w3 (.cells #[.int .i64 0,.int .i64 0,.int .i64 0] 26));have F4:=hid (heap_alloc_new w3 (.cells #[.int .i64 0,.int .i64 0,.int .i64 0] 26));go_upto_region 2 with fail;generalize w3.alloc (.cells #[.int .i64 0,.int .i64 0,.int .i64 0] 26)=w4 at *;have T4:=hid (T3.out.below HA.out);have B4:=hid (B3.out.then HA.out);have HWB:=hid (show w.heap.size≤w3.heap.size from B3.out.size);clear T3 B3 HA;generalize w3.heap.size=Wb at *
  obtain⟨z0,z1,z2,zl⟩:=Qj F4.out
  have IN:=hid (inew_any w4 Bt _ T4.out FIT.out.ok FIT.out.sz FIT.out.nil (by have:=FIT.out.nilLen;omega) FIT.out.psz (by have:=FIT.out.als;omega) FIT.out.hav FIT.out.tgt FIT.out.base (HT.out _ B4.out));go_wp2_with fail;refine IN.out.mono ?_;rintro e w5 ⟨v5,wr,R,rfl,hn,hnil,hrs,hb5⟩;have F5:=hid (bk hb5 F4.out);have B5:=hid (B4.out.then hb5);have HN:=hid hn;clear hb5 IN T4 z0 z1 z2 zl
  obtain⟨z0,z1,z2,zl⟩:=Qj F5.out
  obtain⟨zf0,zf1,zf2⟩:=Zl F5.out
  cases R with
  | none =>
   obtain rfl:=hnil rfl;have HE:=hid (new14_none hn);have he0:((wr.err:Int)==0)=false:=by have:=HE.out;rw [beq_eq_false_iff_ne];omega
   have HNR:=hid (show NoRes D from Or.inr ⟨wr,none,HZ.out,HN.out,Or.inl rfl⟩)
   obtain⟨er,fi,ai⟩:=wr
   simp only at he0 ⊢;clear hn hnil hrs;go_wp2_with fail;exact bodyPost_ret (v:=.pointer none) (by simp [results,Tryz.results16,go_sem]) rfl ⟨P3_below _ _ _ B5.out HWB.out,Or.inl ⟨rfl,HNR.out⟩⟩
  | some R =>
   obtain⟨hfit,ht,rfl⟩:=RsvFit.of FIT.out hn
   have HF:=hid hfit;have HTB:=hid ht;have RS5:=hid (hrs R rfl)
   obtain⟨b,Bt',vc,va,km,n,hv5,_⟩:=RS5.out
   subst hv5;clear hn hnil hrs hfit ht;go_upto_region 4 with fail;rw [setCell_self (W:=w5) F5.out rfl,setCell_self (W:=w5) F5.out rfl,setCell_self (W:=w5) F5.out rfl];have KN:=hid (known_any RS5.out HF.out.ok)
   by_cases h6:R.known.length≤600
   ·have h6i:¬ (600:Int)<((srtT R.known).length:Int):=by unfold srtT;rw [List.length_mergeSort];omega
    have HRI:=hid (show ResIs D R from⟨HF.out,HZ.out,HTB.out,h6,⟨_,HN.out⟩⟩);clear h6
    go_wp2_with (go_at_call 13;(refine KN.out.mono ?_);rintro e w6 ⟨vk,rfl,ok6,hb6⟩;obtain⟨ak,ck,rfl⟩:=Qc ok6;have B6:=hid (B5.out.then hb6);have RS6:=hid (RS5.out.below hb6);clear ok6 hb6)
    exact bodyPost_ret (v:=.pointer (some ⟨b,0,none⟩)) (by simp [results,Tryz.results16,go_sem]) rfl ⟨B6.out,Or.inr ⟨_,_,R,rfl,RS6.out,HRI.out⟩⟩
   ·have h6i:(600:Int)<((srtT R.known).length:Int):=by unfold srtT;rw [List.length_mergeSort];omega
    have HNR:=hid (show NoRes D from Or.inr ⟨_,some R,HZ.out,HN.out,Or.inr ⟨R,rfl,by omega⟩⟩);clear h6
    go_wp2_with (go_at_call 13;(refine KN.out.mono ?_);rintro e w6 ⟨vk,rfl,ok6,hb6⟩;obtain⟨ak,ck,rfl⟩:=Qc ok6;have B6:=hid (B5.out.then hb6);clear ok6 hb6)
    exact bodyPost_ret (v:=.pointer none) (by simp [results,Tryz.results16,go_sem]) rfl ⟨B6.out,Or.inl ⟨rfl,HNR.out⟩⟩
 ·have hne:(((Kc D).1.err:Int) != 0)=true:=by rw [bne_iff_ne];omega
  have HNR:=hid (show NoRes D from Or.inl hz);generalize ((Kc D).1.err:Int)=E at *;generalize (Kc D).1.file=F at *;generalize (Kc D).1.at'=A at *;clear hz;go_upto_region 2 with fail;have HA:=hid (bal w3 (.cells #[.int .i64 E,.int .i64 F,.int .i64 A] 26));have F4:=hid (heap_alloc_new w3 (.cells #[.int .i64 E,.int .i64 F,.int .i64 A] 26));generalize w3.alloc (.cells #[.int .i64 E,.int .i64 F,.int .i64 A] 26)=w4 at *
  obtain⟨z0,z1,z2,zl⟩:=Qj F4.out
  go_wp2_with fail;exact bodyPost_ret (v:=.pointer none) (by simp [results,Tryz.results16,go_sem]) rfl ⟨B3.out.then HA.out,Or.inl ⟨rfl,HNR.out⟩⟩
end
section
open Go.RowKit Go.Lib Go.Sort
theorem texts14_any (w:World)(va vb:Value)(l:List Str)(ha:RdS w va l)(hb:RdS w vb l) :
  Calls Tryz.prog 25 #[va,vb] w fun e w'=>e=.returned (.bool true)∧Below w.heap.size w w':=by
 obtain⟨av,cv,rfl,hav,hsa⟩:=ha
 obtain⟨bv,dv,rfl,hbv,hsb⟩:=hb
 have HSA:=hid hsa;have HSB:=hid hsb;clear hsa hsb
 go_enter Tryz.func25,Tryz.ntmps25
 go_wp2_with fail
 go_loopg [13] l.length (fun g vi W=>∃ n:Nat,n≤l.length∧l.length≤n+g∧vi=.int .i64 n∧∃ k:Nat,W=w.drewN k)
 case atStart=>exact⟨0,Nat.zero_le _,by omega,rfl,0,rfl⟩
 case round =>
  obtain⟨n,hn,hg,rfl,nq1,rfl⟩:=hrel
  have HG:=hid hg;clear hg
  by_cases hlt:n<l.length
  ·have hne:l≠[]:=by intro e;rw [e] at hlt;simp at hlt
   obtain⟨p1,o1,rfl,hp1,hc1⟩:=HSA.out hne
   obtain⟨p2,o2,rfl,hp2,hc2⟩:=HSB.out hne
   have q1:=hc1 n _ (List.getElem?_eq_getElem hlt);have q2:=hc2 n _ (List.getElem?_eq_getElem hlt)
   obtain⟨x,hx⟩:∃ x,x=l[n]:=⟨_,rfl⟩
   rw [← hx,S] at q1 q2;clear hc1 hc2 hx hne;have hni:(n:Int)<(l.length:Int):=by omega
   have hn0:(0:Int)≤(n:Int):=by omega
   have hb1:(x==x)=true:=by simp
   have hb2:(x != x)=false:=by simp
   go_wp2_with fail
   go_quiet (fail)
   go_wp2_with fail
   go_roundg (gk - 1)
   case measure=>have:=HG.out;omega
   case rel=>exact⟨n+1,by omega,by have:=HG.out;omega,by simp,_,rfl⟩
  ·go_wp2_with fail
   go_ret
   exact⟨rfl,below_drewN (Below.refl _ _) _⟩
end
section
open Go.RowKit Go.Lib Go.Sort
def encT:Enc Str 1 where
 enc:=fun s=>[S s]
 len:=fun _=>rfl
 one:=fun x u hu=>by rw [List.mem_singleton.1 hu];rfl
theorem flat_t (l:List Str):Xr encT l=l.map S:=by
 induction l with
 | nil=>rfl
 | cons c t ih=>simp only [Xr,List.flatMap_cons] at ih ⊢;rw [ih];rfl
theorem ownT_S {w:World}{B:Nat}{v:Value}{l:List Str}:Qf encT 9 w B v l↔Qg w B v l:=by
 unfold Qf Qg;rw [flat_t]
end
section
open Go.RowKit Go.Lib Go.Sort Go.Maps Go.WideMaps
theorem RdD.bel {w w1:World}{v:Value}{l:List Dc}(h:RdD w v l)(hb:Below w.heap.size w w1):RdD w1 v l:=by
 obtain⟨zs,h1,h2,h3⟩:=h
 exact⟨zs,h1,h2.below hb,fun z hz=>(h3 z hz).below hb⟩
theorem ResIs.names {D:List Dc}{R:Rsv}(h:ResIs D R)(hs:SzL D):∀ s∈srtT R.t.names,s.length≤maxLen:=fun s hs'=>names_sz h.fit.fit.sz hs'
end
end Go.Proofs.YtbbmdbolkicpcaaGreatDoor
