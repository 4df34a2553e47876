/- PtWithout, AppIn, InhSee, TbTables, InhWalk, InhVal0, SideA -/
import Derived.Test.YtbbmdbolkicpcabGreatDoorSDG20
import Derived.Test.YtbbmdbolkicpcabGreatDoorSDG04
import Derived.OwnWalkIn
import Derived.Test.YtbbmdbolkicpcabGreatDoorSDG16
import Derived.Deep.RegionHeld3
set_option maxRecDepth 100000
set_option maxHeartbeats 32000000
set_option linter.unusedVariables false
set_option linter.unusedSimpArgs false
namespace Go.Proofs.YtbbmdbolkicpcabGreatDoor
section
open Go.RowKit Go.Lib Go.Sort Go.Maps Go.WideMaps Go.Shelf
attribute [local go_sem] Oper.semAt_some
def Xrx (w7:World)(ws:Nat)(zs:List Zst)(key:Str)(pre:List Nat)(W:World):Prop :=
 ∃pre' x,∃hx:x<zs.length,pre=pre'++[x]∧(∀k∈pre',Jy (zs.getD k stD).1 key=false)∧Jy (zs[x]'hx).1 key=true∧Below ws w7 W∧ws+2<w7.heap.size ∧
  W.heap[ws+1]?=some (.cells #[.string ⟨(Zk ((zs.map (·.1)).set x (Hq (zs[x]'hx).1 key))).toArray⟩] 9 (0,0))∧W.heap[ws+1+1]?=some (.cells #[.bool true] 4 (0,0))
theorem Xrx.grown {w7 W1 W2:World}{ws:Nat}{zs:List Zst}{key:Str}{pre:List Nat}{row:Option Nat}(h:Xrx w7 ws zs key pre W1)(hg:W1.grownBy W2 row)(hr:∀k,row=some k→w7.heap.size≤k):Xrx w7 ws zs key pre W2:=by
 obtain⟨pre',x,hx,h1,h2,h3,h4,h5,h6,h7⟩:=h
 refine⟨pre',x,hx,h1,h2,h3,h4.grown hg (Nat.le_of_lt (Nat.lt_of_le_of_lt (Nat.le_add_right ws 1) (lt_of_block h6))) (fun k hk=>by have:=hr k hk;omega),h5,(hg.block _ (lt_of_block h6) fun e=>?_).trans h6,(hg.block _ (lt_of_block h7) fun e=>?_).trans h7⟩
 ·have:=hr _ e.symm;omega
 ·have:=hr _ e.symm;omega
def Vv (g0 cp m x Bx g n c i N:Nat)(j:Nat):Value:=[.slice (some ⟨g0,0,none⟩) m cp,.int .i64 x,.pointer (some ⟨Bx,1,none⟩),.slice (some ⟨g,0,none⟩) n c,.int .i64 i,.int .i64 i,.int .i64 ((i:Int)+1),.slice (some ⟨g,0,none⟩) N c,.pointer (some ⟨g0,x * 2,none⟩),.pointer (some ⟨g0,x * 2+1,none⟩)].getD j undef
structure DelI (w2:World)(B PB g0 cp m x Bx g n c i N:Nat)(zn:Str)(ks:List (Str×Str))(listed:Array Bool)(f:Nat→Value)(WW:World):Prop where
 r:RgI 30 7 10 (Vv g0 cp m x Bx g n c i N) w2 (fun W3=>Qd W3 B (.slice (some ⟨g,0,none⟩) N c) ks∧w2.grownBy W3 (some g)) (fun W4=>∃W3,(Qd W3 B (.slice (some ⟨g,0,none⟩) N c) ks∧w2.grownBy W3 (some g))∧W4=W3.setCell ⟨g0,x * 2+1,none⟩ (.slice (some ⟨g,0,none⟩) N c)) listed f WW
 b1:WW.heap[PB]?=some (.cells #[.slice (some ⟨g0,0,none⟩) m cp] 76 (0,0))
 b2:WW.heap[Bx]?=some (.cells #[.string ⟨zn.toArray⟩,.slice (some ⟨g,0,none⟩) n c] 82 (0,0))
theorem Xjj (w:World)(p key:Str)(hp:p.length≤maxLen) :
  Calls Tryz.prog 37 #[.string ⟨p.toArray⟩,.string ⟨key.toArray⟩] w fun e w'=>e=.returned (.tuple #[.string ⟨(Zj p key).1.toArray⟩,.bool (Zj p key).2])∧Below w.heap.size w w':=by
 refine(callsIn_wide (n:=6)).1 ?_
 refine callsIn_of_wp_marks Tryz.func37 rfl trivial ?_ rfl;simp only[Tryz.ntmps37,List.size_toArray,List.length_cons,List.length_nil,Nat.reduceAdd,Nat.reduceSub,Array.replicate_succ,Array.replicate_zero,List.push_toArray,List.append_toArray,List.nil_append,List.cons_append];have F1:=hid (heap_alloc_new w (.cells #[.string ⟨key.toArray⟩] 9));have A1:=hid (bal w (.cells #[.string ⟨key.toArray⟩] 9));have F2:=hid (show((w.alloc (.cells #[.string ⟨key.toArray⟩] 9)).alloc (.cells #[.string ⟨#[]⟩] 9)).heap[w.heap.size+1]?=some (.cells #[.string ⟨#[]⟩] 9 (0,0))from by
  have e:=heap_alloc_new (w.alloc (.cells #[.string ⟨key.toArray⟩] 9)) (.cells #[.string ⟨#[]⟩] 9);rw[show(w.alloc (.cells #[.string ⟨key.toArray⟩] 9)).heap.size=w.heap.size+1 by simp]at e;exact e)
 have A2:=hid (show Below (w.alloc (.cells #[.string ⟨key.toArray⟩] 9)).heap.size (w.alloc (.cells #[.string ⟨key.toArray⟩] 9)) ((w.alloc (.cells #[.string ⟨key.toArray⟩] 9)).alloc (.cells #[.string ⟨#[]⟩] 9))from bal _ _);have Z2:=hid (show((w.alloc (.cells #[.string ⟨key.toArray⟩] 9)).alloc (.cells #[.string ⟨#[]⟩] 9)).heap.size=w.heap.size+1+1 by simp);have A3:=hid (show Below ((w.alloc (.cells #[.string ⟨key.toArray⟩] 9)).alloc (.cells #[.string ⟨#[]⟩] 9)).heap.size ((w.alloc (.cells #[.string ⟨key.toArray⟩] 9)).alloc (.cells #[.string ⟨#[]⟩] 9)) (((w.alloc (.cells #[.string ⟨key.toArray⟩] 9)).alloc (.cells #[.string ⟨#[]⟩] 9)).alloc (.cells #[.bool false] 4))from bal _ _);have F3:=hid (show(((w.alloc (.cells #[.string ⟨key.toArray⟩] 9)).alloc (.cells #[.string ⟨#[]⟩] 9)).alloc (.cells #[.bool false] 4)).heap[w.heap.size+1+1]?=some (.cells #[.bool false] 4 (0,0))from by
  have e:=heap_alloc_new ((w.alloc (.cells #[.string ⟨key.toArray⟩] 9)).alloc (.cells #[.string ⟨#[]⟩] 9)) (.cells #[.bool false] 4);rw[Z2.out]at e;exact e)
 have G1:=hid ((A3.out.block _ (lt_of_block (bk A2.out F1.out))).trans (bk A2.out F1.out));have G2:=hid (bk A3.out F2.out);have B3:=hid ((A1.out.then A2.out).then A3.out)
 gi_wp2
 generalize ((w.alloc (.cells #[.string ⟨key.toArray⟩] 9)).alloc (.cells #[.string ⟨#[]⟩] 9)).alloc (.cells #[.bool false] 4)=w3 at *;clear F1 A1 F2 A2 A3 Z2
 refine⟨trivial,callsIn_wide.2 ((Jd p w3 hp).mono ?_)⟩
 rintro e w4 h4
 obtain⟨v,er,ea,rfl,hb4,l',hl',hc4,ao,cp,rfl,hcap,hs4⟩:=h4.own'
 clear h4
 rcases hc4 with ⟨rfl,hpl⟩|⟨hne,hpl,hl0⟩
 case inr =>
  have O4:=hid (bk hb4 G2.out);have Q4:=hid (bk hb4 F3.out);have B4:=hid (B3.out.then hb4);have HBAD:=hid (Qzz (key:=key) hpl);clear hl' hcap hs4 hpl hl0 G1 G2 F3 B3 hb4;have A6:=hid (show Below w4.heap.size w4 ((w4.alloc (.cells #[.slice ao l'.length cp] 76)).alloc (.cells #[.int .i64 er,.int .i64 ea] 78)) from(bal _ _).alloc (by simp) _);have Y7:=hid (show((w4.alloc (.cells #[.slice ao l'.length cp] 76)).alloc (.cells #[.int .i64 er,.int .i64 ea] 78)).heap[w4.heap.size+1]?=some (.cells #[.int .i64 er,.int .i64 ea] 78 (0,0))from by
   have e:=heap_alloc_new (w4.alloc (.cells #[.slice ao l'.length cp] 76)) (.cells #[.int .i64 er,.int .i64 ea] 78);rw[show(w4.alloc (.cells #[.slice ao l'.length cp] 76)).heap.size=w4.heap.size+1 by simp]at e;exact e)
  have c1:((w4.alloc (.cells #[.slice ao l'.length cp] 76)).alloc (.cells #[.int .i64 er,.int .i64 ea] 78)).cell? ⟨w4.heap.size+1,0,none⟩=some (.int .i64 er):=cR Y7.out;have l1:=lt_of_block Y7.out;have O6:=hid (bk A6.out O4.out);have Q6:=hid (bk A6.out Q4.out);have d0:((er:Int)==0)=false:=by simpa using hne
  have x0:((w4.alloc (.cells #[.slice ao l'.length cp] 76)).alloc (.cells #[.int .i64 er,.int .i64 ea] 78)).cell? ⟨w.heap.size+1,0,none⟩=some (.string ⟨#[]⟩):=cR O6.out;have x1:((w4.alloc (.cells #[.slice ao l'.length cp] 76)).alloc (.cells #[.int .i64 er,.int .i64 ea] 78)).cell? ⟨w.heap.size+1+1,0,none⟩=some (.bool false):=cR Q6.out;have f0:=frozen_of_row _ _ 0 _ _ O6.out;have f1:=frozen_of_row _ _ 0 _ _ Q6.out;have m0:=lt_of_block O6.out;have m1:=lt_of_block Q6.out
  gi_wp2
  have O9:=(heap_setCell_other (((w4.alloc (.cells #[.slice ao l'.length cp] 76)).alloc (.cells #[.int .i64 er,.int .i64 ea] 78)).setCell ⟨w.heap.size+1,0,none⟩ (.string ⟨#[]⟩)) ⟨w.heap.size+1+1,0,none⟩ (w.heap.size+1) (.bool false) (by simp)).trans (heap_setCell_same _ _ _ _ _ (.string ⟨#[]⟩) O6.out);have Q9:=heap_setCell_same _ _ 0 _ _ (.bool false) ((heap_setCell_other ((w4.alloc (.cells #[.slice ao l'.length cp] 76)).alloc (.cells #[.int .i64 er,.int .i64 ea] 78)) ⟨w.heap.size+1,0,none⟩ (w.heap.size+1+1) (.string ⟨#[]⟩) (by simp)).trans Q6.out)
  refine⟨.tuple #[.string ⟨#[]⟩,.bool false],?_,?_,?_⟩
  ·simp[results,Tryz.f37,go_sem,cell_of_row _ _ _ _ _ _ O9,cell_of_row _ _ _ _ _ _ Q9]
  ·rw[HBAD.out]
  ·exact((B4.out.then A6.out).setCell (p:=⟨w.heap.size+1,0,none⟩) (by simp) _).setCell (p:=⟨w.heap.size+1+1,0,none⟩) (by simp;omega) _
 have HL:=hid hpl;have HW34:=hid hb4.size;have HN3:=hid (show w.heap.size+1+1+1≤w3.heap.size from lt_of_block F3.out);have L4:=hid hl';have K4:=hid (bk hb4 G1.out);have O4:=hid (bk hb4 G2.out);have Q4:=hid (bk hb4 F3.out);have B4:=hid (B3.out.then hb4);clear hl' hb4 hs4 hpl G1 G2 F3 B3;have Y6:=hid (show((w4.alloc (.cells #[.slice ao l'.length cp] 76)).alloc (.cells #[.int .i64 0,.int .i64 ea] 78)).heap[w4.heap.size]?=some (.cells #[.slice ao l'.length cp] 76 (0,0)) from(Below.heap_alloc _ _ _ (by simp)).trans (heap_alloc_new w4 _));have Y7:=hid (show((w4.alloc (.cells #[.slice ao l'.length cp] 76)).alloc (.cells #[.int .i64 0,.int .i64 ea] 78)).heap[w4.heap.size+1]?=some (.cells #[.int .i64 0,.int .i64 ea] 78 (0,0))from by
  have e:=heap_alloc_new (w4.alloc (.cells #[.slice ao l'.length cp] 76)) (.cells #[.int .i64 0,.int .i64 ea] 78);rw[show(w4.alloc (.cells #[.slice ao l'.length cp] 76)).heap.size=w4.heap.size+1 by simp]at e;exact e)
 have A6:=hid (show Below w4.heap.size w4 ((w4.alloc (.cells #[.slice ao l'.length cp] 76)).alloc (.cells #[.int .i64 0,.int .i64 ea] 78)) from(bal _ _).alloc (by simp) _);have c0:((w4.alloc (.cells #[.slice ao l'.length cp] 76)).alloc (.cells #[.int .i64 0,.int .i64 ea] 78)).cell? ⟨w4.heap.size,0,none⟩=some (.slice ao l'.length cp):=cR Y6.out;have c1:((w4.alloc (.cells #[.slice ao l'.length cp] 76)).alloc (.cells #[.int .i64 0,.int .i64 ea] 78)).cell? ⟨w4.heap.size+1,0,none⟩=some (.int .i64 0):=cR Y7.out;have l0:=lt_of_block Y6.out;have l1:=lt_of_block Y7.out
 gi_wp2
 generalize (w4.alloc (.cells #[.slice ao l'.length cp] 76)).alloc (.cells #[.int .i64 0,.int .i64 ea] 78)=w6 at *;clear c0 c1 l0 l1;have B6:=hid (B4.out.then A6.out);have HW36:=hid (Nat.le_trans HW34.out A6.out.size);have K6:=hid (bk A6.out K4.out);have O6:=hid (bk A6.out O4.out);have Q6:=hid (bk A6.out Q4.out);have L6:=hid (L4.out.below A6.out);have S6:=hid Y6.out;clear A6 B4 K4 O4 Q4 L4 Y6 Y7
 refine⟨trivial,callsIn_wide.2 ((Qsq _ w6 ⟨_,_,_,rfl⟩).mono ?_)⟩
 rintro e w7 ⟨rfl,hw7⟩;have A7:=hid (show Below w6.heap.size w6 w7 from by rw[hw7];exact bal _ _);have F7:=hid (show w7.heap[w6.heap.size]?=some (.cells #[.slice ao l'.length cp] 76 (0,0))from by rw[hw7];exact heap_alloc_new w6 _);have B7:=hid (B6.out.then A7.out);have HW37:=hid (Nat.le_trans HW36.out A7.out.size);have K7:=hid (bk A7.out K6.out);have O7:=hid (bk A7.out O6.out);have Q7:=hid (bk A7.out Q6.out);have L7:=hid (L6.out.below A7.out);have S7:=hid (bk A7.out S6.out);clear hw7 A7 B6 K6 O6 Q6 L6 S6
 obtain⟨zs,hz,hown,heach,hdis⟩:=L7.out
 have hln:l'.length=zs.length:=by rw[←hz,List.length_map]
 rw[hln]at F7 S7 hown;have OWN:=hid hown;have DIS:=hid hdis;have HZ:=hid (show zs.length≤64 by rw[←hln];exact(Zy HL.out).2.2.1);have EACH:=hid heach;have HZM:=hid hz;have W37:=hid (show w3.heap.size≤w7.heap.size from HW37.out);have SQ:=hid (Lk 5 (by decide) w6.heap.size cp ao zs w7 F7.out hown.rd (by have:=HZ.out;omega))
 gi_wp2
 clear hcap hown hdis heach L7;have EACH7:=hid (fun W (hk:Below w7.heap.size w7 W) (x:Nat)=>Xfy W zs (fun z hz=>(EACH.out z hz).rd.below hk) x);have EOWN:=hid (fun(x:Nat)=>(show ∀a,(zs.getD x stD).2.1=some a→∃g,a=⟨g,0,none⟩∧g<w7.heap.size from fun a ha=>by
  rw[List.getD_eq_getElem?_getD]at ha
  cases e:zs[x]? with
  |none=>rw[e]at ha;cases ha
  |some z =>
   rw[e]at ha;have ha':z.2.1=some a:=ha
   rcases Qd.shape (EACH.out z (List.mem_of_getElem? e))with ⟨h,_⟩|⟨g,cap,cur,h,_,hg,_⟩
   ·unfold Qr at h;rw[ha']at h;cases h
   ·unfold Qr at h;rw[ha']at h
    cases h
    exact⟨g,rfl,lt_of_block hg⟩))
 have HXL:=hid (fun(x:Nat)=>(show(zs.getD x stD).1.2.length≤1000 from by
  rw[List.getD_eq_getElem?_getD]
  cases e:zs[x]? with
  |none=>exact Nat.zero_le _
  |some z =>
   have hm:z.1∈l':=by rw[←HZM.out];exact List.mem_map_of_mem (List.mem_of_getElem? e)
   have h1:=Dt HL.out hm;have h2:=Qfq z.1;show z.1.2.length≤1000
   omega))
 refine wpIn_rangeFunc_ownH rfl (by omega) (gf:=88) rfl trivial (enters_of Tryz.func88 (by kernel_rfl) rfl)
  SQ.out (fun h g=>h.trans g) (fun W l o o' hl ho hc _=>KpB.put hl ho hc) (Below.refl _ _) (fun _=>rfl)
  (fun pre W=>Below w7.heap.size w7 W∧∀k∈pre,Jy (zs.getD k stD).1 key=false) (fun c pre W=>c=.ret∧Xrx w7 w.heap.size zs key pre W) (fun s W1 W2 row hs hg hr=>⟨hs.1.grown hg hs.1.size (fun k hk=>(hr k hk).1),hs.2⟩) (fun c s W1 W2 row hs hg hr=>⟨hs.1,hs.2.grown hg (fun k hk=>(hr k hk).1)⟩) ⟨Below.refl _ _,fun k hk=>by cases hk⟩
  (fun x a' W=>∃Bx,w7.heap.size≤Bx∧W.heap[Bx]?=some (.cells #[.string ⟨(zs.getD x stD).1.1.toArray⟩,Qr (zs.getD x stD)] 82 (0,0))∧a'={ tmps:=[.string ⟨p.toArray⟩,.string ⟨key.toArray⟩,undef,.pointer (some ⟨w.heap.size,0,none⟩),.pointer (some ⟨w.heap.size+1,0,none⟩),.pointer (some ⟨w.heap.size+1+1,0,none⟩),.pointer (some ⟨w4.heap.size,0,none⟩),.pointer (some ⟨w4.heap.size+1,0,none⟩),.int .i64 (x:Nat),.pointer (some ⟨Bx,0,none⟩),undef,undef,undef,.tuple #[.slice ao zs.length cp,.agg #[.int .i64 0,.int .i64 ea]],.string ⟨p.toArray⟩,.tuple #[.slice ao zs.length cp,.agg #[.int .i64 0,.int .i64 ea]],.slice ao zs.length cp,.agg #[.int .i64 0,.int .i64 ea],.pointer (some ⟨w4.heap.size+1,0,none⟩),.int .i64 0,.bool false,.slice ao zs.length cp,.func (.func 88) #[] #[.pointer (some ⟨w6.heap.size,0,none⟩)],.int .i64 (x:Nat),stV (zs.getD x stD),undef,undef,undef,undef,undef,undef,undef,undef,undef,undef,undef,undef,undef,undef,undef,undef,undef,undef,undef,undef,undef,undef,undef].toArray,defers:=[] }) ?_ ?assign ?body ?done ?stop
 ·rintro x a' s W W' row ⟨Bx,h1,h2,h3⟩ hg hr
  refine⟨Bx,h1,(hg.block Bx (lt_of_block h2) (fun e=>?_)).trans h2,h3⟩
  obtain⟨_,o,ho,hc⟩:=hr Bx e.symm
  rw[h2]at ho
  cases ho
  cases hc
 case assign =>
  intro l pre x W K hI hK;have hbW:Below W.heap.size W (W.alloc (.cells #[.string ⟨(zs.getD x stD).1.1.toArray⟩,Qr (zs.getD x stD)] 82)):=bal _ _;have hz7:=hI.1.size;unfold stV Qr
  gi_wp2
  exact hK _ _ ((KeepsOthers.alloc _ _).from _) (KpB.of_below hbW hz7) ⟨hI.1.then hbW,hI.2⟩ ⟨W.heap.size,hz7,heap_alloc_new W _,rfl⟩
 case body =>
  rintro l pre x a' W _ _ hI ⟨Bx,hB,hBx,rfl⟩ hlen;have KW:=hid (bk hI.1 K7.out);have e0:W.cell? ⟨w.heap.size,0,none⟩=some (.string ⟨key.toArray⟩):=cR KW.out;have el:=lt_of_block KW.out;have HI:=hid hI.1;have HPRE:=hid hI.2;clear hI
  by_cases hfound:Jy (zs.getD x stD).1 key=true
  case neg =>
   have HNF:=hid (show Jy (zs.getD x stD).1 key=false by simpa using hfound);have NX:=hid (Qgv.1 HNF.out);have RX:=hid (EACH7.out W HI.out x);have OX:=hid (EOWN.out x);have LX:=hid (HXL.out x);clear hfound;have HPRE2:=hid (show ∀k∈pre++[x],Jy (zs.getD k stD).1 key=false from fun k hk=>by
    rcases List.mem_append.1 hk with hk|hk
    ·exact HPRE.out k hk
    ·rw[List.mem_singleton.1 hk];exact HNF.out)
   clear HNF;unfold stV;generalize zs.getD x stD=z at NX RX OX LX hBx ⊢
   obtain⟨⟨zn,zk⟩,za,zc⟩:=z
   simp only[Qr]at hBx RX OX NX LX ⊢
   obtain⟨x0,x1,_,_,xl⟩:=Qq hBx
   have FD:=hid (Qkk W zn zk za zc key RX.out LX.out (fun a ha=>by
    obtain⟨g,h1,h2⟩:=OX.out a ha
    exact⟨g,0,h1,Nat.lt_of_lt_of_le h2 HI.out.size⟩))
   rw[idx_no NX.out]at FD;clear RX OX NX LX hBx
   gi_wp2
   refine⟨trivial,CallsIn.inRound l (callsIn_wide.2 (FD.out.mono ?_))⟩
   rintro e W2 ⟨rfl,hb2⟩;have HI2:=hid (HI.out.then hb2);clear x0 x1 xl e0 el
   gi_wp2
   exact⟨(KeepsOthers.of_grownBy (Jv hb2) (fun j o e=>by cases e)).from _,KpB.of_below hb2 HI.out.size,HI2.out,HPRE2.out⟩
  case pos =>
   have hx:x<zs.length:=by
    rcases Nat.lt_or_ge x zs.length with h|h
    ·exact h
    ·rw[List.getD_eq_getElem?_getD,List.getElem?_eq_none h]at hfound
     cases hfound
   have hgd:zs.getD x stD=zs[x]'hx:=by rw[List.getD_eq_getElem?_getD,List.getElem?_eq_getElem hx];rfl
   have OWNW:=hid (OWN.out.below HI.out);have EACHW:=hid (show ∀z∈zs,Qd W w3.heap.size (Qr z) z.1.2 from fun z hz=>Qz (EACH.out z hz) HI.out);have HLEN:=hid (HXL.out x);rw[hgd]at hfound hBx HLEN;unfold stV;rw[hgd]
   obtain⟨z,hz⟩:∃z,z=zs[x]'hx:=⟨_,rfl⟩
   have HZX:=hid (show ∃hx:x<zs.length,z=zs[x]'hx from⟨hx,hz⟩);rw[←hz]at hfound hBx HLEN ⊢;have EZ:=hid (EACHW.out z (by rw[hz];exact List.getElem_mem hx));have HMAY:=hid (show Kr z.1=true from by
    have hm:z.1∈zs.map (·.1):=List.mem_map_of_mem (by rw[hz];exact List.getElem_mem hx);rw[HZM.out]at hm;exact List.all_eq_true.1 (Zy HL.out).1 _ hm)
   clear hz hgd hx
   obtain⟨⟨zn,zk⟩,za,zc⟩:=z
   simp only[Qr]at hBx EZ HLEN ⊢;have HF:=hid hfound
   rcases idxK_at zk key with ⟨_,hno⟩|⟨i,hidx,hik⟩
   ·exact absurd (Qgv.2 hno) (by rw[hfound];simp)
   clear hfound
   rcases Qd.shape EZ.out with ⟨_,h0⟩|⟨g,cap,cur,hsl,hgB,hgc,hgn,hgm,hgs,hgt⟩
   ·obtain⟨hi,_⟩:=hik
    rw[h0]at hi;exact absurd hi (by simp)
   injection hsl with hza _ hzc
   subst hza;subst hzc
   obtain⟨x0,x1,_,_,xl⟩:=Qq hBx
   have FD:=hid (Qkk W zn zk (some ⟨g,0,none⟩) zc key EZ.out.rd HLEN.out (fun a ha=>by
    cases ha
    exact⟨g,0,rfl,lt_of_block hgc⟩))
   rw[hidx]at FD;have hgc':=hgc;have HG:=hid (show ∃cur,W.heap[g]?=some (.cells cur 37 (0,0)) from⟨cur,hgc'⟩);have HGB:=hid hgB;have HIK:=hid hik;have hi0:(0:Int)≤(i:Int):=by omega
   clear hgc hgc' hgB hgn hgm hgs hgt hidx hik
   gi_wp2
   refine⟨trivial,CallsIn.inRound l (callsIn_wide.2 (FD.out.mono ?_))⟩
   rintro e W2 ⟨rfl,hb2⟩;have HB2:=hid hb2;have BX2:=hid (bk hb2 hBx);clear x0 x1 xl e0 el hBx hb2 FD
   gi_wp2
   obtain⟨hxx,hzx⟩:=HZX.out
   have hOW:=OWNW.out.below HB2.out
   obtain⟨g0,rfl⟩:=Qg.some' hOW (by intro e;rw[e]at hxx;exact absurd hxx (by simp))
   have S2:=hid (((HI.out.then HB2.out).block _ (lt_of_block S7.out)).trans S7.out);have OW2:=hid (show Qg Qm 82 W2 w3.heap.size (.slice (some ⟨g0,0,none⟩) zs.length cp) zs from hOW);have EA2:=hid (show ∀z∈zs,Qd W2 w3.heap.size (Qr z) z.1.2 from fun z hz=>Qz (EACHW.out z hz) HB2.out);have EZ2:=hid (show Qd W2 w3.heap.size (.slice (some ⟨g,0,none⟩) zk.length zc) zk from Qz EZ.out HB2.out);have G2:=hid (show ∃cur,W2.heap[g]?=some (.cells cur 37 (0,0))from by
    obtain⟨cur,h⟩:=HG.out
    exact⟨cur,bk HB2.out h⟩)
   obtain⟨hi,hik,hij⟩:=HIK.out
   have DEL:=hid (show Calls Tryz.prog 86 #[.slice (some ⟨g,0,none⟩) zk.length zc,.int .i64 i,.int .i64 ((i:Int)+1)] W2.drew fun e w'=>e=.returned (.slice (some ⟨g,0,none⟩) (zk.take i++zk.drop (i+1)).length zc)∧Qd w' w3.heap.size (.slice (some ⟨g,0,none⟩) (zk.take i++zk.drop (i+1)).length zc) (zk.take i++zk.drop (i+1))∧W2.drew.grownBy w' (some g)from sdel_any W2.drew w3.heap.size g zc i zk EZ2.out.drew hi);have hkeys:zk.take i++zk.drop (i+1)=zk.filter fun k=>k.1 != key:=drop_key (Tv HMAY.out).2.1 hi hik hij
   rw[hkeys]at DEL;clear hkeys hik hij
   obtain⟨ks,hks⟩:∃ks,ks=zk.filter fun k=>k.1 != key:=⟨_,rfl⟩
   rw[←hks]at DEL;have HKS:=hid hks;clear hks
   obtain⟨N,hN⟩:∃N,N=ks.length:=⟨_,rfl⟩
   rw[←hN]at DEL;have hz2:(zs[x]'hxx).2=(some ⟨g,0,none⟩,zc):=by rw[←hzx]
   have DS:=hid (fun W3 (h:Qd W3 w3.heap.size (.slice (some ⟨g,0,none⟩) N zc) ks∧W2.drew.grownBy W3 (some g))=>del_steps (W:=W2.drew) (World.ownsRow.drew OW2.out) rfl (fun z hz=>World.ownsRow.drew (EA2.out z hz)) DIS.out hxx hz2 (by rw[←hN];exact h.1) h.2);simp only[←hN]at DS;rw[←hzx]at DS;have BNE:=hid (show w4.heap.size≠g0∧w4.heap.size≠g∧Bx≠g0∧Bx≠g from by
    obtain⟨cur,h⟩:=G2.out
    obtain⟨cur0,h0⟩:=Qg.row OW2.out
    refine⟨fun e=>?_,fun e=>?_,fun e=>?_,fun e=>?_⟩
    ·rw[←e,S2.out]at h0;cases h0
    ·rw[←e,S2.out]at h;cases h
    ·have:=(World.ownsRow.lt OWN.out g0 rfl).2
     omega
    ·rw[←e,BX2.out]at h;cases h)
   have PCK:=hid (fun W3 (h:Qd W3 w3.heap.size (.slice (some ⟨g,0,none⟩) N zc) ks∧W2.drew.grownBy W3 (some g))=>(show W3.heap[w4.heap.size]?=some (.cells #[.slice (some ⟨g0,0,none⟩) zs.length cp] 76 (0,0))∧W3.heap[Bx]?=some (.cells #[.string ⟨zn.toArray⟩,.slice (some ⟨g,0,none⟩) zk.length zc] 82 (0,0)) from
    ⟨(h.2.block _ (lt_of_block S2.out) (fun e=>BNE.out.2.1 (Option.some.inj e))).trans S2.out,(h.2.block _ (lt_of_block BX2.out) (fun e=>BNE.out.2.2.2 (Option.some.inj e))).trans BX2.out⟩))
   have PCW:=hid (fun W3 (h:Qd W3 w3.heap.size (.slice (some ⟨g,0,none⟩) N zc) ks∧W2.drew.grownBy W3 (some g))=>(show W3.cell? ⟨g0,x * 2+1,none⟩=some (.slice (some ⟨g,0,none⟩) zk.length zc)∧g0<W3.heap.size∧W3.frozen? ⟨g0,x * 2+1,none⟩=false from by
    obtain⟨_,h2,_⟩:=DS.out W3 h
    obtain⟨q0,qf,ql⟩:=Qg.cell h2 x 1 (.slice (some ⟨g,0,none⟩) zk.length zc) hxx (by rw[←hzx];rfl)
    exact⟨q0,ql,qf⟩))
   have PSK:=hid (fun W3 h=>(show(W3.setCell ⟨g0,x * 2+1,none⟩ (.slice (some ⟨g,0,none⟩) N zc)).heap[w4.heap.size]?=some (.cells #[.slice (some ⟨g0,0,none⟩) zs.length cp] 76 (0,0))∧(W3.setCell ⟨g0,x * 2+1,none⟩ (.slice (some ⟨g,0,none⟩) N zc)).heap[Bx]?=some (.cells #[.string ⟨zn.toArray⟩,.slice (some ⟨g,0,none⟩) zk.length zc] 82 (0,0)) from
    ⟨(heap_setCell_other _ _ _ _ BNE.out.1).trans (PCK.out W3 h).1,(heap_setCell_other _ _ _ _ BNE.out.2.2.1).trans (PCK.out W3 h).2⟩))
   have hx0:(0:Int)≤(x:Int):=by omega
   have hx1:(x:Int)<(zs.length:Int):=by omega
   have hib:(i:Int)≤1000:=by have:=HLEN.out;omega
   have hwr:IntKind.i64.wrap ((i:Int)+1)=(i:Int)+1:=IntWalk.i64_in _ (by omega);clear hxx hzx hOW hi hz2 hN;refine Qgz (by kernel_rfl) (by kernel_rfl) [30,31,32,33,34,35,36,37,38,39] (DelI W2.drew w3.heap.size w4.heap.size g0 cp zs.length x Bx g zk.length zc i N zn ks) ?_ ?_ ?_
   ·intro f0
    exact⟨RgI.start (by decide) (by decide),S2.out,BX2.out⟩
   ·intro listed f WW j hI hl oi hoi haf
    match j,hl,oi,hoi,haf with
    |0,hl,oi,hoi,haf =>
     obtain rfl:=Option.some.inj hoi;have q0:WW.cell? ⟨w4.heap.size,0,none⟩=some (.slice (some ⟨g0,0,none⟩) zs.length cp):=cR hI.b1;have ql:=lt_of_block hI.b1;refine Vm rfl rfl ?_;simp only[Yz,List.foldl_cons,List.foldl_nil,List.setIfInBounds_toArray,List.set_cons_zero,List.set_cons_succ]
     go_simp
     exact⟨upd f 30 (Vv g0 cp zs.length x Bx g zk.length zc i N 0),by simp[upd,Vv],⟨hI.r.val 0 (by decide) (by decide),hI.b1,hI.b2⟩⟩
    |1,hl,oi,hoi,haf =>
     obtain rfl:=Option.some.inj hoi;refine Vm rfl rfl ?_;simp only[Yz,List.foldl_cons,List.foldl_nil,List.setIfInBounds_toArray,List.set_cons_zero,List.set_cons_succ]
     go_simp
     exact⟨upd f 31 (Vv g0 cp zs.length x Bx g zk.length zc i N 1),by simp[upd,Vv],⟨hI.r.val 1 (by decide) (by decide),hI.b1,hI.b2⟩⟩
    |2,hl,oi,hoi,haf =>
     obtain rfl:=Option.some.inj hoi;refine Vm rfl rfl ?_;simp only[Yz,List.foldl_cons,List.foldl_nil,List.setIfInBounds_toArray,List.set_cons_zero,List.set_cons_succ]
     go_simp
     exact⟨upd f 32 (Vv g0 cp zs.length x Bx g zk.length zc i N 2),by simp[upd,Vv],⟨hI.r.val 2 (by decide) (by decide),hI.b1,hI.b2⟩⟩
    |3,hl,oi,hoi,haf =>
     obtain rfl:=Option.some.inj hoi;have e2:=hI.r.vals 2 (by decide) (LL.of (haf ⟨2,Ground.data⟩ (by simp) rfl:listed.getD 2 false=true));simp only[Vv,List.getD_cons_zero,List.getD_cons_succ,Nat.reduceAdd]at e2;have q0:WW.cell? ⟨Bx,1,none⟩=some (.slice (some ⟨g,0,none⟩) zk.length zc):=cR hI.b2;have ql:=lt_of_block hI.b2;refine Vm rfl rfl ?_;simp only[Yz,List.foldl_cons,List.foldl_nil,List.setIfInBounds_toArray,List.set_cons_zero,List.set_cons_succ]
     go_simp
     exact⟨upd f 33 (Vv g0 cp zs.length x Bx g zk.length zc i N 3),by simp[upd,Vv,e2],⟨hI.r.val 3 (by decide) (by decide),hI.b1,hI.b2⟩⟩
    |4,hl,oi,hoi,haf =>
     obtain rfl:=Option.some.inj hoi;refine Vm rfl rfl ?_;simp only[Yz,List.foldl_cons,List.foldl_nil,List.setIfInBounds_toArray,List.set_cons_zero,List.set_cons_succ]
     go_simp
     exact⟨upd f 34 (Vv g0 cp zs.length x Bx g zk.length zc i N 4),by simp[upd,Vv],⟨hI.r.val 4 (by decide) (by decide),hI.b1,hI.b2⟩⟩
    |5,hl,oi,hoi,haf =>
     obtain rfl:=Option.some.inj hoi;refine Vm rfl rfl ?_;simp only[Yz,List.foldl_cons,List.foldl_nil,List.setIfInBounds_toArray,List.set_cons_zero,List.set_cons_succ]
     go_simp
     exact⟨upd f 35 (Vv g0 cp zs.length x Bx g zk.length zc i N 5),by simp[upd,Vv],⟨hI.r.val 5 (by decide) (by decide),hI.b1,hI.b2⟩⟩
    |6,hl,oi,hoi,haf =>
     obtain rfl:=Option.some.inj hoi;have e5:=hI.r.vals 5 (by decide) (LL.of (haf ⟨5,Ground.data⟩ (by simp) rfl:listed.getD 5 false=true));simp only[Vv,List.getD_cons_zero,List.getD_cons_succ,Nat.reduceAdd]at e5;refine Vm rfl rfl ?_;simp only[Yz,List.foldl_cons,List.foldl_nil,List.setIfInBounds_toArray,List.set_cons_zero,List.set_cons_succ]
     go_simp
     exact⟨upd f 36 (Vv g0 cp zs.length x Bx g zk.length zc i N 6),by simp[upd,Vv,e5,hwr],⟨hI.r.val 6 (by decide) (by decide),hI.b1,hI.b2⟩⟩
    |7,hl,oi,hoi,haf =>
     obtain rfl:=Option.some.inj hoi;have e3:=hI.r.vals 3 (by decide) (LL.of (haf ⟨3,Ground.data⟩ (by simp) rfl:listed.getD 3 false=true));have e4:=hI.r.vals 4 (by decide) (LL.of (haf ⟨4,Ground.data⟩ (by simp) rfl:listed.getD 4 false=true));have e6:=hI.r.vals 6 (by decide) (LL.of (haf ⟨6,Ground.data⟩ (by simp) rfl:listed.getD 6 false=true));simp only[Vv,List.getD_cons_zero,List.getD_cons_succ,Nat.reduceAdd]at e3 e4 e6;refine Vm rfl rfl ?_;simp only[Yz,List.foldl_cons,List.foldl_nil,List.setIfInBounds_toArray,List.set_cons_zero,List.set_cons_succ];obtain rfl:=hI.r.w0 (LL.no hl)
     go_simp
     refine⟨trivial,CallsIn.inRound l (callsIn_wide.2 (DEL.out.mono ?_))⟩
     rintro e W3 ⟨rfl,hPc⟩
     exact⟨upd f 37 (Vv g0 cp zs.length x Bx g zk.length zc i N 7),by simp[upd,Yz,Vv,e3,e4,e6],⟨hI.r.call (c:=7) (by decide) (LL.no hl) hPc (LL.size hl),(PCK.out W3 hPc).1,(PCK.out W3 hPc).2⟩⟩
    |8,hl,oi,hoi,haf =>
     obtain rfl:=Option.some.inj hoi;have e0:=hI.r.vals 0 (by decide) (LL.of (haf ⟨0,Ground.data⟩ (by simp) rfl:listed.getD 0 false=true));have e1:=hI.r.vals 1 (by decide) (LL.of (haf ⟨1,Ground.data⟩ (by simp) rfl:listed.getD 1 false=true));simp only[Vv,List.getD_cons_zero,List.getD_cons_succ,Nat.reduceAdd]at e0 e1;refine Vm rfl rfl ?_;simp only[Yz,List.foldl_cons,List.foldl_nil,List.setIfInBounds_toArray,List.set_cons_zero,List.set_cons_succ]
     go_simp
     exact⟨upd f 38 (Vv g0 cp zs.length x Bx g zk.length zc i N 8),by simp[upd,Vv,e0,e1],⟨hI.r.val 8 (by decide) (by decide),hI.b1,hI.b2⟩⟩
    |9,hl,oi,hoi,haf =>
     obtain rfl:=Option.some.inj hoi;have e8:=hI.r.vals 8 (by decide) (LL.of (haf ⟨8,Ground.data⟩ (by simp) rfl:listed.getD 8 false=true));simp only[Vv,List.getD_cons_zero,List.getD_cons_succ,Nat.reduceAdd]at e8;refine Vm rfl rfl ?_;simp only[Yz,List.foldl_cons,List.foldl_nil,List.setIfInBounds_toArray,List.set_cons_zero,List.set_cons_succ]
     go_simp
     exact⟨upd f 39 (Vv g0 cp zs.length x Bx g zk.length zc i N 9),by simp[upd,Vv,e8],⟨hI.r.val 9 (by decide) (by decide),hI.b1,hI.b2⟩⟩
    |10,hl,oi,hoi,haf =>
     obtain rfl:=Option.some.inj hoi;have e7:=hI.r.vals 7 (by decide) (LL.of (haf ⟨7,Ground.data⟩ (by simp) rfl:listed.getD 7 false=true));have e9:=hI.r.vals 9 (by decide) (LL.of (haf ⟨9,Ground.data⟩ (by simp) rfl:listed.getD 9 false=true));simp only[Vv,List.getD_cons_zero,List.getD_cons_succ,Nat.reduceAdd]at e7 e9;have hPc:=hI.r.wc (LL.of (haf ⟨7,Ground.data⟩ (by simp) rfl:listed.getD 7 false=true)) (LL.no hl)
     obtain⟨q0,ql,qf⟩:=PCW.out WW hPc
     refine Vm rfl rfl ?_;simp only[Yz,List.foldl_cons,List.foldl_nil,List.setIfInBounds_toArray,List.set_cons_zero,List.set_cons_succ]
     go_simp
     exact⟨f,by simp[e7,e9],⟨(hI.r.store (s:=10) (by decide) (LL.of (haf ⟨7,Ground.data⟩ (by simp) rfl:listed.getD 7 false=true)) ⟨WW,hPc,rfl⟩ (LL.size hl)),(PSK.out WW hPc).1,(PSK.out WW hPc).2⟩⟩
    |j+11,hl,oi,hoi,haf=>simp at hoi
   ·intro listed f WW hI hall;have hv:=fun j (hj:j<10)=>hI.r.vals j hj (hall j (by show j<11;omega))
    obtain⟨W3,hPc,rfl⟩:=hI.r.ws (hall 10 (by decide))
    have HPC:=hid hPc;have S4:=hid hI.b1;have ev0:=hv 0 (by decide);have ev1:=hv 1 (by decide);have ev2:=hv 2 (by decide);have ev3:=hv 3 (by decide);have ev4:=hv 4 (by decide);have ev5:=hv 5 (by decide);have ev6:=hv 6 (by decide);have ev7:=hv 7 (by decide);have ev8:=hv 8 (by decide);have ev9:=hv 9 (by decide);simp only[Vv,List.getD_cons_zero,List.getD_cons_succ,Nat.reduceAdd]at ev0 ev1 ev2 ev3 ev4 ev5 ev6 ev7 ev8 ev9;clear hI hall hv hPc;simp only[Yz,List.foldl_cons,List.foldl_nil,List.setIfInBounds_toArray,List.set_cons_zero,List.set_cons_succ,ev0,ev1,ev2,ev3,ev4,ev5,ev6,ev7,ev8,ev9];clear ev0 ev1 ev2 ev3 ev4 ev5 ev6 ev7 ev8 ev9;have KO4:=hid (show KeepsOthers W (W3.setCell ⟨g0,x * 2+1,none⟩ (.slice (some ⟨g,0,none⟩) N zc)) from
     (((KeepsOthers.of_grownBy (Jv HB2.out) (fun j o e=>by cases e)).trans (KeepsOthers.drew W2)).trans (KeepsOthers.of_grownBy HPC.out.2 (fun j o e ho=>by
      cases e
      obtain⟨cur,hc⟩:=G2.out
      rw[show W2.drew.heap[g]?=W2.heap[g]? from rfl,hc]at ho
      cases ho;rfl))).trans (KeepsOthers.setCell _ _ _))
    have hgge:w3.heap.size≤g:=HGB.out;have hg0ge:w3.heap.size≤g0:=(World.ownsRow.lt OWN.out g0 rfl).1;have B4:=hid (show Below w3.heap.size w7 (W3.setCell ⟨g0,x * 2+1,none⟩ (.slice (some ⟨g,0,none⟩) N zc)) from
     (((((HI.out.then HB2.out).drew).mono W37.out).grown HPC.out.2 (Nat.le_trans W37.out (HI.out.then HB2.out).size) (fun k e=>by cases e;exact hgge)).setCell (p:=⟨g0,x * 2+1,none⟩) hg0ge _))
    obtain⟨_,_,hown4,heach4,_⟩:=DS.out W3 HPC.out
    have RL4:=hid hown4.rd;have RE4:=hid (fun z hz=>(heach4 z hz).rd);clear hown4 heach4 hgge hg0ge;generalize W3.setCell ⟨g0,x * 2+1,none⟩ (.slice (some ⟨g,0,none⟩) N zc)=W4 at *;have hs4:W4.cell? ⟨w4.heap.size,0,none⟩=some (.slice (some ⟨g0,0,none⟩) zs.length cp):=cR S4.out;have hl4:=lt_of_block S4.out;have A5:=hid (bal W4 (.cells #[.slice (some ⟨g0,0,none⟩) zs.length cp] 76));have F5:=hid (heap_alloc_new W4 (.cells #[.slice (some ⟨g0,0,none⟩) zs.length cp] 76))
    obtain⟨zs2,hzs2⟩:∃zs2,zs2=zs.set x ((zn,ks),(some ⟨g,0,none⟩,zc)):=⟨_,rfl⟩
    rw[←hzs2]at RL4 RE4;have hl2:zs2.length=zs.length:=by rw[hzs2,List.length_set]
    have PRT:=hid (show Zw (zs2.map (·.1))=some (Zk ((zs.map (·.1)).set x (Hq (zn,zk) key)))from by
     obtain⟨hx,hzz⟩:=HZX.out
     have hx':x<l'.length:=by rw[←HZM.out,List.length_map];exact hx
     have h:=Ms (key:=key) HL.out hx';have he:l'[x]'hx'=(zn,zk):=by
      simp only[←HZM.out,List.getElem_map,←hzz]
     rw[he,←HZM.out]at h;rw[hzs2,List.map_set];simp only[Hq,←HKS.out]at h ⊢;exact h)
    obtain⟨T,hT⟩:∃T,T=Zk ((zs.map (·.1)).set x (Hq (zn,zk) key)):=⟨_,rfl⟩
    rw[←hT]at PRT;have PUT:=hid (Xqk (W4.alloc (.cells #[.slice (some ⟨g0,0,none⟩) zs.length cp] 76)) (.slice (some ⟨W4.heap.size,0,none⟩) 1 1) [zs2] T
     ⟨_,_,rfl,fun n hn=>⟨W4.heap.size,0,.slice (some ⟨g0,0,none⟩) zs.length cp,rfl,lt_of_block F5.out,by
      obtain rfl:n=0:=by simp at hn;exact hn
      rw[cell_of_row _ _ _ _ _ _ F5.out];rfl,by
      obtain rfl:n=0:=by simp at hn;exact hn
      exact(RL4.out).below A5.out⟩⟩
     (fun z hz=>(RE4.out z (by simpa using hz)).below A5.out) (by simp) (by simpa using PRT.out))
    have HTT:=hid hT;clear hT hzs2 hl2
    gi_wp2
    refine⟨trivial,CallsIn.inRound l (callsIn_wide.2 (PUT.out.mono ?_))⟩
    rintro e W6 ⟨rfl,hb6⟩;have hn3:w.heap.size+1+1+1≤w3.heap.size:=HN3.out;have O6:=hid ((hb6.block _ (by have:=lt_of_block S4.out;have:=B4.out.size;have:=W37.out;simp;omega)).trans ((A5.out.block _ (by have:=B4.out.size;have:=W37.out;omega)).trans ((B4.out.block _ (by omega)).trans O7.out)));have Q6:=hid ((hb6.block _ (by have:=lt_of_block S4.out;have:=B4.out.size;have:=W37.out;simp;omega)).trans ((A5.out.block _ (by have:=B4.out.size;have:=W37.out;omega)).trans ((B4.out.block _ (by omega)).trans Q7.out)));have KO6:=hid (((KO4.out.trans (KeepsOthers.alloc _ _)).trans (KeepsOthers.of_grownBy (Jv hb6) (fun j o e=>by cases e))));have B6:=hid (show Below (w.heap.size) w7 W6 from((B4.out.mono (by omega)).trans (A5.out.mono (by have:=B4.out.size;have:=B7.out.size;omega))).trans (hb6.mono (by have:=A5.out.size;have:=B4.out.size;have:=B7.out.size;omega)));clear hb6 hn3 hs4 hl4 A5 F5 PUT;have x0:W6.cell? ⟨w.heap.size+1,0,none⟩=some (.string ⟨#[]⟩):=cR O6.out;have x1:W6.cell? ⟨w.heap.size+1+1,0,none⟩=some (.bool false):=cR Q6.out;have f0:=frozen_of_row _ _ 0 _ _ O6.out;have f1:=frozen_of_row _ _ 0 _ _ Q6.out;have m0:=lt_of_block O6.out;have m1:=lt_of_block Q6.out
    gi_wp2
    refine⟨((KO6.out.trans (KeepsOthers.setCell _ _ _)).trans (KeepsOthers.setCell _ _ _)).from _,rfl,?_⟩
    obtain⟨hx,hzz⟩:=HZX.out
    refine⟨pre,x,hx,rfl,HPRE.out,by rw[←hzz];exact HF.out,(B6.out.setCell (p:=⟨w.heap.size+1,0,none⟩) (by simp) _).setCell (p:=⟨w.heap.size+1+1,0,none⟩) (by simp;omega) _,?_,?_,?_⟩
    ·have:=HN3.out;have:=W37.out;omega
    ·rw[←hzz]
     simp only
     rw[←HTT.out]
     exact(heap_setCell_other _ ⟨w.heap.size+1+1,0,none⟩ (w.heap.size+1) (.bool true) (by simp)).trans (heap_setCell_same _ _ _ _ _ (.string ⟨T.toArray⟩) O6.out)
    ·exact heap_setCell_same _ _ 0 _ _ (.bool true) ((heap_setCell_other W6 ⟨w.heap.size+1,0,none⟩ (w.heap.size+1+1) (.string ⟨T.toArray⟩) (by simp)).trans Q6.out)
 case done =>
  rintro D xs W hD hxs hI hK;have hb:=hI.1;have hall:=hI.2;have HNO:=hid (Mg (key:=key) HL.out (fun y hy=>by
   rw[←HZM.out]at hy
   obtain⟨z,hz,rfl⟩:=List.mem_map.1 hy
   obtain⟨k,hk,rfl⟩:=List.getElem_of_mem hz
   have:=hall k (Xxg hxs k hk)
   rwa [List.getD_eq_getElem?_getD,List.getElem?_eq_getElem hk]at this))
  clear hall hxs hI;have B8:=hid (B7.out.then hb);have O8:=hid (bk hb O7.out);have Q8:=hid (bk hb Q7.out);have c0:W.cell? ⟨w.heap.size+1,0,none⟩=some (.string ⟨#[]⟩):=cR O8.out;have c1:W.cell? ⟨w.heap.size+1+1,0,none⟩=some (.bool false):=cR Q8.out;have f0:=frozen_of_row _ _ 0 _ _ O8.out;have f1:=frozen_of_row _ _ 0 _ _ Q8.out;have l0:=lt_of_block O8.out;have l1:=lt_of_block Q8.out
  gi_wp2
  have hKD:((W.setCell ⟨w.heap.size+1,0,none⟩ (.string ⟨p.toArray⟩)).setCell ⟨w.heap.size+1+1,0,none⟩ (.bool false)).heap[D]?=some (.deferred (some [])) :=
   (KeepsOthers.setCell _ _ _).same D _ ((KeepsOthers.setCell _ _ _).same D _ hK rfl) rfl
  refine⟨by simp,.inl ⟨_,_,rfl,run_takeDeferred hKD,?_⟩⟩
  have O9:=(heap_setCell_other (W.setCell ⟨w.heap.size+1,0,none⟩ (.string ⟨p.toArray⟩)) ⟨w.heap.size+1+1,0,none⟩ (w.heap.size+1) (.bool false) (by simp)).trans (heap_setCell_same _ _ _ _ _ (.string ⟨p.toArray⟩) O8.out);have Q9:=heap_setCell_same _ _ 0 _ _ (.bool false) ((heap_setCell_other W ⟨w.heap.size+1,0,none⟩ (w.heap.size+1+1) (.string ⟨p.toArray⟩) (by simp)).trans Q8.out);have g0:=cell_kept (show((W.setCell ⟨w.heap.size+1,0,none⟩ (.string ⟨p.toArray⟩)).setCell ⟨w.heap.size+1+1,0,none⟩ (.bool false)).cell? ⟨w.heap.size+1,0,none⟩=some (.string ⟨p.toArray⟩)by rw[cell_of_row _ _ _ _ _ _ O9];rfl) (grownBy_putObj' _ D (.deferred none)) (fun r e=>by cases e;exact⟨_,hKD,rfl⟩);have g1:=cell_kept (show((W.setCell ⟨w.heap.size+1,0,none⟩ (.string ⟨p.toArray⟩)).setCell ⟨w.heap.size+1+1,0,none⟩ (.bool false)).cell? ⟨w.heap.size+1+1,0,none⟩=some (.bool false)by rw[cell_of_row _ _ _ _ _ _ Q9];rfl) (grownBy_putObj' _ D (.deferred none)) (fun r e=>by cases e;exact⟨_,hKD,rfl⟩)
  refine⟨.tuple #[.string ⟨p.toArray⟩,.bool false],?_,by rw[HNO.out],?_⟩
  ·simp[results,Tryz.f37,go_sem,g0,g1]
  ·exact((B8.out.setCell (p:=⟨w.heap.size+1,0,none⟩) (by simp) _).setCell (p:=⟨w.heap.size+1+1,0,none⟩) (by simp;omega) _).trans (belowK_b (w:=w) (Nat.le_refl _) _ D _ _ (Nat.le_trans B7.out.size hD) hKD rfl rfl)
 case stop =>
  rintro D c pre W hD hSp ⟨rfl,pre',x,hx,rfl,h2,h3,hb,hn,O9,Q9⟩ hK;have HNO:=hid (show Zj p key=(Zk ((zs.map (·.1)).set x (Hq (zs[x]'hx).1 key)),true)from by
   have hx':x<l'.length:=by rw[←HZM.out,List.length_map];exact hx
   have he:l'[x]'hx'=(zs[x]'hx).1:=by simp only[←HZM.out,List.getElem_map]
   have hs:=Zhv hSp hx
   have:=Qhx (key:=key) HL.out hx' (by rw[he];exact h3) (fun m hm hlt=>by
    have hm2:m<zs.length:=by rw[←HZM.out,List.length_map]at hm;exact hm
    have h4:=h2 m (hs m hlt hm2);rw[List.getD_eq_getElem?_getD,List.getElem?_eq_getElem hm2]at h4;have he2:l'[m]'hm=(zs[m]'hm2).1:=by simp only[←HZM.out,List.getElem_map]
    rw[he2];exact h4)
   rw[he,←HZM.out]at this;exact this)
  obtain⟨T,hT⟩:∃T,T=Zk ((zs.map (·.1)).set x (Hq (zs[x]'hx).1 key)):=⟨_,rfl⟩
  rw[←hT]at HNO O9;clear hT h2 h3 hSp hx
  gi_wp2
  refine⟨by simp,.inl ⟨_,_,rfl,run_takeDeferred hK,?_⟩⟩
  have g0:=cell_kept (show W.cell? ⟨w.heap.size+1,0,none⟩=some (.string ⟨T.toArray⟩)by rw[cell_of_row _ _ _ _ _ _ O9];rfl) (grownBy_putObj' _ D (.deferred none)) (fun r e=>by cases e;exact⟨_,hK,rfl⟩);have g1:=cell_kept (show W.cell? ⟨w.heap.size+1+1,0,none⟩=some (.bool true)by rw[cell_of_row _ _ _ _ _ _ Q9];rfl) (grownBy_putObj' _ D (.deferred none)) (fun r e=>by cases e;exact⟨_,hK,rfl⟩)
  refine⟨.tuple #[.string ⟨T.toArray⟩,.bool true],?_,by rw[HNO.out],?_⟩
  ·simp[results,Tryz.f37,go_sem,g0,g1]
  ·exact((B7.out.trans hb).trans (belowK_b (w:=w) (Nat.le_refl _) _ D _ _ (Nat.le_trans B7.out.size hD) hK rfl rfl))
end
section
open Go.RowKit Go.Lib
theorem Zmv {F:Fence}{fn:Nat}{P:Program}{w:World}{ops:Array Oper}{rest:List Oper}{o:Oper}{a:Act}{Q:Exit→Act→World→Prop}(hgd:o.guard=none)(s x:Operand)(t:TypeId)
  (ho:o.op=.call { callee:=.builtin .append,args:=#[s,x],argTypes:=#[t,t] })
  (base:Nat)(e:TypeId)(i:TypeInfo)(z:Value)(size bytes:Nat)(ht:P.underlying t=some (.slice e))(hi:P.info? e=some i)(hz:i.zero=some z)
  (hsize:i.size=size)(hby:i.bytes=bytes)(hzs:z.cells.size=size)(hsz:0<size)
  (v:Value)(n:Nat)(xs:List Value)(hs:a.eval s=v)(hown:w.ownsRow base e size v n xs)
  (ad:Addr)(m c:Nat)(news:List Value)(hx:a.eval x=.slice (some ad) m c)(hl:news.length=m * size)(hnews:∀j u,news[j]?=some u→w.cell? (ad.add j)=some u)(h1:∀u∈news,u.oneCell'=true)
  (h63:n+m≤maxLen)(hbytes:(n+m) * bytes≤140737488355328)(hbase:base≤w.heap.size)
  (h:∀v' w',w'.ownsRow base e size v' (n+m) (xs++news)→w.grownBy w' v.ownBlock→Nk w v v'→wpListIn F fn P ops Q rest (a.put o.dst v') w'):wpListIn F fn P ops Q (o::rest) a w:=by
 refine wpListIn_plain hgd fun K hK'=>?_
 obtain⟨v',w',hrun,r1,r2,r3⟩:=Qgx (P:=P) w base t o.type e i z size bytes ht hi hz hsize hby hzs hsz v n xs hown ad m c news hl hnews h1 h63 hbytes hbase
 unfold Oper.wpIn
 refine⟨?_,?_⟩
 ·simp[Oper.about,ho,resolve,Target.leads,Sem.run_pure]
 ·rw[Oper.semAt_plain F _ _ (by rw[ho];intro c hc';cases hc')]
  simp[execOp,ho,resolve,invoke,builtin,hs,hx,hrun,Result.andThen]
  exact hK' _ _ (h v' w' r1 r2 r3)
theorem Qtz {F:Fence}{fn:Nat}{w:World}{ops:Array Oper}{rest:List Oper}{o:Oper}{a:Act}{Q:Exit→Act→World→Prop}(hgd:o.guard=none)(s x:Operand)
  (ho:o.op=.call { callee:=.builtin .append,args:=#[s,x],argTypes:=#[28,28] })
  (B:Nat)(v:Value)(l:List Str)(y:Str)(hs:a.eval s=v)(hown:Qt w B v l)(hx:a.eval x=.slice (some ⟨w.heap.size,0,none⟩) 1 1)(hl:l.length≤1000000)(hB:B≤w.heap.size)
  (h:∀v' w',Qt w' B v' (l++[y])→w.grownBy w' v.ownBlock→Nk w v v'→wpListIn F fn Tryz.prog ops Q rest (a.put o.dst v') w') :
  wpListIn F fn Tryz.prog ops Q (o::rest) a (w.alloc (.cells #[.string ⟨y.toArray⟩] 9)):=by
 obtain⟨i0,hi,hz0,hz1,hz2⟩:=info_parts Zzw
 refine Zmv hgd s x 28 ho B 9 i0 (.string ⟨#[]⟩) 1 16 Tryz.underlying28 hi hz0 hz1 hz2 rfl (by decide) v l.length (l.map S) hs (World.ownsRow.alloc hown _) ⟨w.heap.size,0,none⟩ 1 1 [.string ⟨y.toArray⟩] hx rfl (cell_one_new _ _ _) (fun u hu=>by simp at hu;subst hu;rfl) (by unfold maxLen;omega) (by omega) (by simp;omega) ?_;intro v' w' own gr mv;refine h v' w' (Xh own (by simp) (by simp[S])) ⟨gr.os,gr.tape,gr.output,Nat.le_trans (by simp) gr.size,fun k hk hne=>?_⟩ ?_
 ·rw[gr.block k (by simp;omega) hne];exact heap_alloc_old _ _ hk
 ·rcases mv with m|⟨k,h1,h2⟩
  ·exact Or.inl m
  ·exact Or.inr ⟨k,h1,by simp at h2;omega⟩
end
section
open Go.RowKit Go.Lib
theorem seeV_any (W:World)(x q:Str):Calls Tryz.prog 57 #[.agg #[.string ⟨x.toArray⟩,.string ⟨q.toArray⟩]] W fun e w'=>e=.returned (.tuple #[])∧Below W.heap.size W w':=by
 go_enter Tryz.func57,Tryz.ntmps57
 go_wp2_with fail;refine bodyPost_end (v:=.tuple #[]) (by simp[results,go_sem]) rfl ?_
 exact⟨rfl,bal _ _⟩
theorem Zhw {t:Tb}{a:List (Str×Str)}{s:Str×Str}(h:(Vz t a).2=none)(hs:atF t s=none):(Vz t (a++[s])).2=none∧(Vz t (a++[s])).1=a++[s]:=by
 rw[Er,h]
 simp[Vz,hs]
theorem look_hit {t:Tb}{a r:List (Str×Str)}{s:Str×Str}{v:Str}(h:(Vz t a).2=none)(hs:atF t s=some v):(Vz t (a++s::r)).2=some v∧(Vz t (a++s::r)).1=a++[s]:=by
 rw[Er,h]
 simp[Vz,hs]
theorem look_nil (t:Tb):(Vz t []).2=none:=rfl
end
section
open Go.RowKit Go.Lib Go.Sort Go.Maps Go.WideMaps
theorem rdS_at {W:World}{a:Option Addr}{n c:Nat}{l:List Str}(h:RdS W (.slice a n c) l)(j:Nat)(hj:j<l.length):∃p o,a=some ⟨p,o,none⟩∧p<W.heap.size∧W.cell? ⟨p,o+j,none⟩=some (.string ⟨(l[j]'hj).toArray⟩):=by
 obtain⟨ao,cp,e,_,hr⟩:=h
 cases e
 obtain⟨b,off,ha,hb,hc⟩:=hr (by rintro rfl;simp at hj)
 exact⟨b,off,ha,hb,hc j _ (List.getElem?_eq_getElem hj)⟩
end
section
open Go.RowKit Go.Lib
theorem Xrj {W:World}{B:Nat}{a:Option Addr}{n c:Nat}{l:List Str}(h:Qt W B (.slice a n c) l)(j:Nat)(hj:j<l.length):∃g,a=some ⟨g,0,none⟩∧g<W.heap.size∧W.cell? ⟨g,j,none⟩=some (.string ⟨(l[j]'hj).toArray⟩):=by
 rcases h.shape with ⟨_,e⟩|⟨g,cap,cur,e,hB,hg,hn,hm,hs,ht⟩
 ·rw[e]at hj;simp at hj
 ·cases e
  refine⟨g,rfl,lt_of_block hg,Yg hg ht _ _ ?_⟩
  rw[List.getElem?_map,List.getElem?_eq_getElem hj]
  rfl
theorem walkV_any {B0:Nat}{w:World}{v:Value}{R:Rsv}(h:RsP B0 w v R)(ok:Rm R)(l:Str)(vp:Value)(ps:List Str)(hps:RdS w vp ps)(hpb:∀p∈ps,Zv p=true)(hl:l.length≤maxLen)(hne:l≠[])(hA:R.als.length≤900)(hn:ps.length≤1000)(hsz:R.par.length≤10000000000)(hsa:szA R.als) :
  Calls Tryz.prog 41 #[v,.string ⟨l.toArray⟩,vp,.func (.func 57) #[] #[]] w fun e w'=>e=.returned (.tuple #[.string ⟨((Vz R.t (ps.flatMap (Vk R l))).2.getD []).toArray⟩,.bool (Vz R.t (ps.flatMap (Vk R l))).2.isSome])∧Below w.heap.size w w':=by
 have CH:=hid (fun W (hb:Below w.heap.size w W) vc (hc:Zqw W vc R.par)=>Zhj W vc R.par l (Hp R.par l) hc (Zdq ok.par).1 (ok.chain l) hl hsz);have HWY:=hid (fun p (hp:p∈ps)=>ok.way p);have HWP:=hid (fun p (hp:p∈ps) q (hq:q∈Qnv R.als p)=>(show q.length≤maxLen from by have:=Qvv (Qmg (hpb p hp) (ok.way p).1 q hq);unfold maxLen;omega));have WY:=hid (fun W va (p:Str) (hp:p∈ps) (ha:Qsz W va R.als)=>away_any W va R.als p (Qnv R.als p) ha (hpb p hp) hsa (ok.way p).1 (by have:=(ok.way p).2;omega));have HNM:=hid (fun x (hx:x∈Hp R.par l)=>ok.chain_ne hx);have HST:=hid (fun p=>show Vk R l p=(Qnv R.als p).flatMap fun q=>(Hp R.par l).map fun x=>(x,q)from by unfold Vk;rw[if_neg hne]);have HNE:=hid hne;have HAE:=hid hA;have HN:=hid hn
 obtain⟨b,Bt,vc,va,km,n,rfl,hb,ht,hc,ha,_⟩:=h
 obtain⟨ap,cp,rfl,_,_⟩:=id hps
 have HB:=hid hb;have HT:=hid ht;have HA:=hid ha;have HP:=hid hps;have hlb:(l==[])=false:=beq_eq_false_iff_ne.2 hne;have CHW:=hid (CH.out w (Below.refl _ _) _ hc)
 obtain⟨a0,a1,a2,a3,al⟩:=Jm hb
 clear hb ht hc ha hps ok hpb hne hA hn hsz hsa CH
 go_enter Tryz.func41,Tryz.ntmps41
 go_wp2_with fail
 go_step3
 go_wp2_with fail;refine CHW.out.mono ?_;rintro e w1 ⟨vv,rfl,ho,hb1⟩
 obtain⟨au,cu,rfl⟩:=Zc ho
 have HU:=hid ho;have HB1:=hid (bk hb1 HB.out);have HT1:=hid (HT.out.below hb1);have HA1:=hid (HA.out.below hb1);have HP1:=hid (HP.out.below hb1);have BW:=hid hb1;clear ho hb1 a0 a1 a2 a3 al HB HT HA HP CHW;generalize Hp R.par l=ul at *;have hul:(ul.length:Int)≤9223372036854775807:=by
  rcases HU.out.shape with ⟨_,e⟩|⟨g,cap,cur,e,hB,hg,hn,hm,hs,ht⟩
  ·rw[e];simp
  ·unfold maxLen at hm;omega
 go_upto_region 4 with fail
 go_step3
 go_upto_region 4 with fail
 go_loopg[10,11,12,30] ps.length (fun g v10 v11 v12 v30 W=>∃a:Nat,a≤ps.length∧ps.length≤a+g∧v10=.bool false∧v11=.string ⟨#[]⟩∧v12=.slice au ul.length cu∧v30=.int .i64 a∧(Vz R.t ((ps.take a).flatMap (Vk R l))).2=none∧Below w1.heap.size w1 W)
 case atStart=>exact⟨0,Nat.zero_le _,by omega,rfl,rfl,rfl,rfl,rfl,Below.refl _ _⟩
 case round =>
  obtain⟨a,ha,hg,rfl,rfl,rfl,rfl,hno,hb⟩:=hrel
  rename World=>w2
  obtain⟨g1,hg1⟩:∃g1,g1=gk:=⟨_,rfl⟩
  have HGE1:=hid hg1;have HG:=hid (show ps.length≤a+g1 by rw[hg1];exact hg);have HNO:=hid hno;clear hg1;have HB2:=hid hb;clear hg hno hb
  by_cases hlt:a<ps.length
  ·have hni:(a:Int)<(ps.length:Int):=by omega
   have hn0:(0:Int)≤(a:Int):=by omega
   obtain⟨pp,po,rfl,hpl,r0⟩:=rdS_at (HP1.out.below HB2.out) a hlt
   obtain⟨p,hp⟩:∃p,p=ps[a]'hlt:=⟨_,rfl⟩
   have HPM:=hid (show p∈ps by rw[hp];exact List.getElem_mem hlt);have HTK:=hid (show(ps.take (a+1)).flatMap (Vk R l)=(ps.take a).flatMap (Vk R l)++Vk R l p by
    rw[List.take_succ_eq_append_getElem hlt,List.flatMap_append,←hp];simp)
   have HAL:=hid (show ∃rest,ps.flatMap (Vk R l)=(ps.take a).flatMap (Vk R l)++(Vk R l p++rest) from
    ⟨(ps.drop (a+1)).flatMap (Vk R l),by
     rw[←List.append_assoc,←HTK.out,←List.flatMap_append,List.take_append_drop]⟩)
   rw[←hp]at r0;clear hp;have HB2':=hid (bk HB2.out HB1.out)
   obtain⟨a0,a1,a2,a3,al⟩:=Jm HB2'.out
   have WYP:=hid (WY.out w2 _ p HPM.out (HA1.out.below HB2.out));have HQL:=hid (HWP.out p HPM.out);have hwl:((Qnv R.als p).length:Int)≤1000:=by have:=(HWY.out p HPM.out).2;have:=HAE.out;omega
   have HSP:=hid (HST.out p);generalize (ps.take a).flatMap (Vk R l)=pre at *;generalize Vk R l p=sp at *;generalize Qnv R.als p=wl at *;go_wp2_with fail;refine WYP.out.mono ?_;rintro e w3 ⟨vw,rfl,how,hb3⟩
   obtain⟨aw,cw,rfl⟩:=Zc how
   have HW:=hid how;have HB3:=hid (HB2.out.then hb3);clear how hb3 a0 a1 a2 a3 al HB2' WYP r0 hpl;go_upto_region 10 with fail
   go_loopg[10,11,47] wl.length (fun g v10 v11 v47 W=>∃bb:Nat,bb≤wl.length∧wl.length≤bb+g∧v10=.bool false∧v11=.string ⟨#[]⟩∧v47=.int .i64 bb∧(Vz R.t (pre++(wl.take bb).flatMap fun q=>ul.map fun x=>(x,q))).2=none∧Below w3.heap.size w3 W)
   case atStart=>exact⟨0,Nat.zero_le _,by omega,rfl,rfl,rfl,by simpa using HNO.out,Below.refl _ _⟩
   case round =>
    obtain⟨bb,hbb,hg,rfl,rfl,rfl,hno2,hb⟩:=hrel
    rename World=>w4
    obtain⟨g2,hg2⟩:∃g2,g2=gk:=⟨_,rfl⟩
    have HGE2:=hid hg2;have HG2:=hid (show wl.length≤bb+g2 by rw[hg2];exact hg);have HNO2:=hid hno2;clear hg2;have HB4:=hid hb;clear hg hno2 hb
    by_cases hlt2:bb<wl.length
    ·have hbi:(bb:Int)<(wl.length:Int):=by omega
     have hb0:(0:Int)≤(bb:Int):=by omega
     obtain⟨gw,rfl,hgl,s0⟩:=Xrj (Qz HW.out HB4.out) bb hlt2
     obtain⟨q,hq⟩:∃q,q=wl[bb]'hlt2:=⟨_,rfl⟩
     have HQ:=hid (show q.length≤maxLen from HQL.out q (by rw[hq];exact List.getElem_mem hlt2));have HTK2:=hid (show(wl.take (bb+1)).flatMap (fun q=>ul.map fun x=>(x,q))=(wl.take bb).flatMap (fun q=>ul.map fun x=>(x,q))++ul.map fun x=>(x,q) by
      rw[List.take_succ_eq_append_getElem hlt2,List.flatMap_append,←hq];simp)
     have HSR:=hid (show ∃rest,sp=(wl.take bb).flatMap (fun q=>ul.map fun x=>(x,q))++((ul.map fun x=>(x,q))++rest) from
      ⟨(wl.drop (bb+1)).flatMap (fun q=>ul.map fun x=>(x,q)),by
       rw[←List.append_assoc,←HTK2.out,←List.flatMap_append,List.take_append_drop];exact HSP.out⟩)
     rw[←hq]at s0;clear hq;go_upto_region 13 with fail;generalize (wl.take bb).flatMap (fun q=>ul.map fun x=>(x,q))=mid at *
     go_loopg[10,11,53] ul.length (fun g v10 v11 v53 W=>∃cc:Nat,cc≤ul.length∧ul.length≤cc+g∧v10=.bool false∧v11=.string ⟨#[]⟩∧v53=.int .i64 cc∧(Vz R.t (pre++(mid++(ul.take cc).map fun x=>(x,q)))).2=none∧Below w4.heap.size w4 W)
     case atStart=>exact⟨0,Nat.zero_le _,by omega,rfl,rfl,rfl,by simpa using HNO2.out,Below.refl _ _⟩
     case round =>
      obtain⟨cc,hcc,hg,rfl,rfl,rfl,hno3,hb⟩:=hrel
      rename World=>w5
      have HG3:=hid hg;have HNO3:=hid hno3;have HB5:=hid (HB4.out.then hb);have HB45:=hid hb;clear hg hno3 hb s0 hgl
      by_cases hlt3:cc<ul.length
      ·have hci:(cc:Int)<(ul.length:Int):=by omega
       have hc0:(0:Int)≤(cc:Int):=by omega
       obtain⟨gu,rfl,hgl,s0⟩:=Xrj (Qz HU.out ((HB3.out.then HB5.out))) cc hlt3
       obtain⟨x,hx⟩:∃x,x=ul[cc]'hlt3:=⟨_,rfl⟩
       have HX:=hid (show Qj x=true from HNM.out x (by rw[hx];exact List.getElem_mem hlt3));rw[←hx]at s0;have HTK3:=hid (show(ul.take (cc+1)).map (fun x=>(x,q))=(ul.take cc).map (fun x=>(x,q))++[(x,q)] by
        rw[List.take_succ_eq_append_getElem hlt3,List.map_append,←hx];rfl)
       clear hx;have HXL:=hid (show x.length≤maxLen from Nat.le_trans (Uy HX.out) (by decide));have HXN:=hid (show x≠[]from fun e=>by have:=HX.out;rw[e,named_nil]at this;cases this);go_wp2_with fail
       refine(seeV_any w5 x q).mono ?_
       rintro e w6 ⟨rfl,hb6⟩;have HB6:=hid (HB3.out.then (HB5.out.then hb6));have HB46:=hid (HB45.out.then hb6);have HBX:=hid (bk HB6.out HB1.out)
       obtain⟨a0,a1,a2,a3,al⟩:=Jm HBX.out
       have GT:=hid ((HT1.out.below HB6.out).get x q HXL.out HQ.out);clear hb6 s0 hgl;have HAT:=hid (show atF R.t (x,q)=match Jk R.t.rows x q with
        |none=>none
        |some r=>if r.text=Xhh∧x≠[]then none else some r.text from rfl)
       cases hfr:Jk R.t.rows x q with
       |none =>
        rw[hfr]at GT HAT;have HN4:=hid (Zhw HNO3.out HAT.out).1;clear hfr;go_wp2_with fail;refine GT.out.mono ?_;rintro e w7 ⟨rfl,hb7⟩;have HB47:=hid (HB46.out.then hb7);clear hb7;go_wp2_with fail
        go_roundg (gk-1)
        case measure=>have:=HG3.out;omega
        case rel=>exact⟨cc+1,by omega,by have:=HG3.out;omega,rfl,rfl,by simp,by have:=HN4.out;rw[HTK3.out];simpa using this,HB47.out⟩
       |some r =>
        rw[hfr]at GT HAT;rw[show Sl (some r)=r.text from rfl,Option.isSome_some]at GT;clear hfr
        by_cases har:r.text=Xhh
        ·have hs1:(r.text != [226,134,145,226,134,145,226,134,145])=false:=by rw[har];rfl
         have hs2:r.text=[226,134,145,226,134,145,226,134,145]:=har;have HN4:=hid (Zhw HNO3.out (HAT.out.trans (if_pos ⟨har,HXN.out⟩))).1;clear har;rw[hs2]at GT;clear hs1 hs2;go_wp2_with fail;refine GT.out.mono ?_;rintro e w7 ⟨rfl,hb7⟩;have HB47:=hid (HB46.out.then hb7);clear hb7;go_wp2_with fail
         go_roundg (gk-1)
         case measure=>have:=HG3.out;omega
         case rel=>exact⟨cc+1,by omega,by have:=HG3.out;omega,rfl,rfl,by simp,by have:=HN4.out;rw[HTK3.out];simpa using this,HB47.out⟩
        ·have hs1:(r.text != [226,134,145,226,134,145,226,134,145])=true:=bne_iff_ne.2 har;have hs2:(r.text==[226,134,145,226,134,145,226,134,145])=false:=beq_eq_false_iff_ne.2 har;have HIT:=hid (show(Vz R.t (ps.flatMap (Vk R l))).2=some r.text from by
          obtain⟨r1,e1⟩:=HAL.out
          obtain⟨r2,e2⟩:=HSR.out
          have e3:(ul.map fun x=>(x,q))=(ul.take cc).map (fun x=>(x,q))++((x,q)::(ul.drop (cc+1)).map fun x=>(x,q)):=by
           have h1:(ul.take (cc+1)).map (fun x=>(x,q))++(ul.drop (cc+1)).map (fun x=>(x,q))=ul.map fun x=>(x,q):=by rw[←List.map_append,List.take_append_drop]
           rw[←h1,HTK3.out,List.append_assoc,List.singleton_append]
          have:=(look_hit (r:=(ul.drop (cc+1)).map (fun x=>(x,q))++(r2++r1)) HNO3.out (HAT.out.trans (if_neg (fun h=>har h.1)))).1
          rw[e1,e2,e3];rw[←this]
          simp[List.append_assoc])
         clear har;go_wp2_with fail;refine GT.out.mono ?_;rintro e w7 ⟨rfl,hb7⟩;have HB7:=hid (BW.out.then (HB6.out.then hb7));clear hb7;go_wp2_with fail;rw[Exit.noGoto_ret];change bodyPost _ _ _ Exit.ret _ _;refine bodyPost_ret (v:=.tuple #[.string ⟨r.text.toArray⟩,.bool true]) ?_ rfl ?_
         ·simp[results,Tryz.results41,go_sem]
         exact⟨by rw[HIT.out];rfl,HB7.out⟩
      ·have hci:¬(cc:Int)<(ul.length:Int):=by omega
       have HTA:=hid (show(ul.take cc).map (fun x=>(x,q))=ul.map fun x=>(x,q)by rw[List.take_of_length_le (by omega)]);rw[HTA.out]at HNO3;go_wp2_with fail
       go_roundg (g2-1)
       case measure=>have:=HG2.out;have:=HGE2.out;omega
       case rel=>exact⟨bb+1,by omega,by have:=HG2.out;omega,rfl,rfl,by simp,by rw[HTK2.out];exact HNO3.out,HB5.out⟩
    ·have hbi:¬(bb:Int)<(wl.length:Int):=by omega
     have HTA:=hid (show wl.take bb=wl from List.take_of_length_le (by omega));rw[HTA.out]at HNO2;go_wp2_with fail
     go_roundg (g1-1)
     case measure=>have:=HG.out;have:=HGE1.out;omega
     case rel=>exact⟨a+1,by omega,by have:=HG.out;omega,rfl,rfl,rfl,by simp,by rw[HTK.out,HSP.out];exact HNO2.out,HB3.out.then HB4.out⟩
  ·have hni:¬(a:Int)<(ps.length:Int):=by omega
   have HTA:=hid (show ps.take a=ps from List.take_of_length_le (by omega));rw[HTA.out]at HNO;go_wp2_with fail;change bodyPost _ _ _ Exit.ret _ _;refine bodyPost_ret (v:=.tuple #[.string ⟨#[]⟩,.bool false]) ?_ rfl ?_
   ·simp[results,Tryz.results41,go_sem]
   exact⟨by rw[HNO.out];rfl,BW.out.then HB2.out⟩
end
section
open Go.RowKit Go.Lib
theorem Xjk (w:World)(B:Nat)(p:Str)(hB:B≤w.heap.size):Qt (w.alloc (.cells #[.string ⟨p.toArray⟩] 9)) B (.slice (some ⟨w.heap.size,0,none⟩) 1 1) [p]:=by
 refine⟨by simp,Or.inr ⟨w.heap.size,1,#[.string ⟨p.toArray⟩],rfl,hB,heap_alloc_new w _,by simp,by unfold maxLen;omega,rfl,?_⟩⟩
 simp[S]
theorem Zqy (w:World)(p:Str)(hp:p.length≤maxLen)(l:List Stp)(hl:Qy p=some l)(h1:∀x∈l,∀k∈x.2,k.1≠Vd)(h2:∀x∈l,∀k∈x.2,k.1≠Qk) :
  Calls Tryz.prog 12 #[.string ⟨p.toArray⟩] w fun e w'=>∃v,e=.returned v∧Qt w' w.heap.size v [p]∧Below w.heap.size w w':=by
 have WA:=hid (fun W=>(show Calls Tryz.prog 37 #[.string ⟨p.toArray⟩,.string ⟨#[97,108,116]⟩] W _ from Qqk W p Vd hp l hl h1));have WC:=hid (fun W=>(show Calls Tryz.prog 37 #[.string ⟨p.toArray⟩,.string ⟨#[99,111,117,110,116]⟩] W _ from Qqk W p Qk hp l hl h2));have HL:=hid hl;clear hl h1 h2
 go_enter Tryz.func12,Tryz.ntmps12
 go_wp2_with fail
 go_step3
 go_wp2_with fail
 refine(Jd p w hp).mono ?_
 rintro e w1 h
 obtain⟨v,er,ea,rfl,hb1,l',hl',hc1,ao,cp,rfl,hcap,hs1⟩:=h.own'
 obtain⟨rfl,hll⟩:er=0∧l'=l:=by
  rcases hc1 with ⟨h1,h2⟩|⟨_,h2,_⟩
  ·rw[HL.out]at h2;exact⟨h1,(Option.some.inj h2).symm⟩
  ·rw[HL.out]at h2;cases h2
 subst hll;have B1:=hid hb1;clear h hl' hc1 hb1 hs1 hcap;have Y7:=hid (show((w1.alloc (.cells #[.slice ao l'.length cp] 76)).alloc (.cells #[.int .i64 0,.int .i64 ea] 78)).heap[w1.heap.size+1]?=some (.cells #[.int .i64 0,.int .i64 ea] 78 (0,0))from by
  have e:=heap_alloc_new (w1.alloc (.cells #[.slice ao l'.length cp] 76)) (.cells #[.int .i64 0,.int .i64 ea] 78);rw[show(w1.alloc (.cells #[.slice ao l'.length cp] 76)).heap.size=w1.heap.size+1 by simp]at e;exact e)
 have A2:=hid (show Below w1.heap.size w1 ((w1.alloc (.cells #[.slice ao l'.length cp] 76)).alloc (.cells #[.int .i64 0,.int .i64 ea] 78)) from(bal _ _).alloc (by simp) _);go_upto_region 2 with fail;generalize (w1.alloc (.cells #[.slice ao l'.length cp] 76)).alloc (.cells #[.int .i64 0,.int .i64 ea] 78)=w2 at *
 obtain⟨y0,y1,_,_,yl⟩:=Qq Y7.out
 have B2:=hid (B1.out.then A2.out);have O3:=hid (Xjk w2 w.heap.size p B2.out.size);have A3:=hid (bal w2 (.cells #[.string ⟨p.toArray⟩] 9));have Z3:=hid (show(w2.alloc (.cells #[.string ⟨p.toArray⟩] 9)).heap.size=w2.heap.size+1 by simp);have F4:=hid (show((w2.alloc (.cells #[.string ⟨p.toArray⟩] 9)).alloc (.cells #[.slice (some ⟨w2.heap.size,0,none⟩) 1 1] 28)).heap[w2.heap.size+1]?=some (.cells #[.slice (some ⟨w2.heap.size,0,none⟩) 1 1] 28 (0,0))from by
  have e:=heap_alloc_new (w2.alloc (.cells #[.string ⟨p.toArray⟩] 9)) (.cells #[.slice (some ⟨w2.heap.size,0,none⟩) 1 1] 28);rw[Z3.out]at e;exact e)
 have A4:=hid (show Below (w2.alloc (.cells #[.string ⟨p.toArray⟩] 9)).heap.size (w2.alloc (.cells #[.string ⟨p.toArray⟩] 9)) ((w2.alloc (.cells #[.string ⟨p.toArray⟩] 9)).alloc (.cells #[.slice (some ⟨w2.heap.size,0,none⟩) 1 1] 28))from bal _ _);have O4:=hid (show Qt ((w2.alloc (.cells #[.string ⟨p.toArray⟩] 9)).alloc (.cells #[.slice (some ⟨w2.heap.size,0,none⟩) 1 1] 28)) w.heap.size _ [p]from Qz O3.out A4.out);have B4:=hid ((B2.out.then A3.out).then A4.out);go_upto_region 5 with fail;generalize (w2.alloc (.cells #[.string ⟨p.toArray⟩] 9)).alloc (.cells #[.slice (some ⟨w2.heap.size,0,none⟩) 1 1] 28)=w4 at *;generalize w2.heap.size=sb at *;clear y0 y1 yl B1 B2 O3 A2 A3 A4 Y7 Z3;go_wp2_with fail
 refine(WA.out w4).mono ?_
 rintro e w5 ⟨rfl,hb5⟩;have O5:=hid (show Qt w5 w.heap.size _ [p]from Qz O4.out hb5);have F5:=hid (bk hb5 F4.out);have B5:=hid (B4.out.then hb5);clear hb5 O4 F4 B4;go_wp2_with fail
 refine(WC.out w5).mono ?_
 rintro e w6 ⟨rfl,hb6⟩;have O6:=hid (show Qt w6 w.heap.size _ [p]from Qz O5.out hb6);have F6:=hid (bk hb6 F5.out);have B6:=hid (B5.out.then hb6);clear hb6 O5 F5 B5;have f0:w6.cell? ⟨sb+1,0,none⟩=some (.slice (some ⟨sb,0,none⟩) 1 1):=cR F6.out;have fl:=lt_of_block F6.out;go_wp2_with fail;rw[Exit.noGoto_ret];change bodyPost _ _ _ Exit.ret _ _;exact bodyPost_ret (v:=.slice (some ⟨sb,0,none⟩) 1 1) (by simp[results,Tryz.results12,go_sem]) rfl ⟨_,rfl,O6.out,B6.out⟩
theorem Qtx (w:World)(lc p:Str)(hne:lc≠[])(hp:p.length≤maxLen)(l:List Stp)(hl:Qy p=some l)(h1:∀x∈l,∀k∈x.2,k.1≠Vd)(h2:∀x∈l,∀k∈x.2,k.1≠Qk) :
  Calls Tryz.prog 42 #[.string ⟨lc.toArray⟩,.string ⟨p.toArray⟩] w fun e w'=>∃v,e=.returned v∧Qt w' w.heap.size v [p]∧Below w.heap.size w w':=by
 have SW:=hid (Zqy w p hp l hl h1 h2);have hlb:(lc==[])=false:=beq_eq_false_iff_ne.2 hne;clear hl h1 h2
 go_enter Tryz.func42,Tryz.ntmps42
 go_wp2_with fail;refine SW.out.mono ?_;rintro e w1 ⟨v,rfl,ho,hb⟩;go_wp2_with fail;exact bodyPost_ret (v:=v) (by simp[results,Tryz.results42,go_sem]) rfl ⟨_,rfl,ho,hb⟩
theorem Xby {B0:Nat}{w:World}{v:Value}{R:Rsv}(h:RsP B0 w v R)(ok:Rm R)(lc p:Str)(hlc:lc.length≤maxLen)(hne:lc≠[])(hp:p.length≤maxLen)(hask:Xph lc p=true)(l:List Stp)(hl:Qy p=some l)(h1:∀x∈l,∀k∈x.2,k.1≠Vd)(h2:∀x∈l,∀k∈x.2,k.1≠Qk)
  (hA:R.als.length≤900)(hsz:R.par.length≤10000000000)(hsa:szA R.als) :
  Calls Tryz.prog 19 #[v,.string ⟨lc.toArray⟩,.string ⟨p.toArray⟩] w fun e w'=>e=.returned (.tuple #[.string ⟨((Vz R.t (Vk R lc p)).2.getD []).toArray⟩,.bool (Vz R.t (Vk R lc p)).2.isSome])∧Below w.heap.size w w':=by
 have AS:=hid (asks_any h ok lc p hlc hp hsz);rw[hask]at AS;have SW:=hid (fun W=>Qtx W lc p hne hp l hl h1 h2);have H:=hid h;have WK:=hid (fun W (hW:RsP B0 W v R) vp (hvp:RdS W vp [p])=>walkV_any hW ok lc vp [p] hvp (fun q hq=>by rw[List.mem_singleton.1 hq];unfold Zv;rw[hl];rfl) hlc hne hA (by simp) hsz hsa);simp only[List.flatMap_cons,List.flatMap_nil,List.append_nil]at WK
 obtain⟨b,Bt,vc,va,km,n,rfl,_⟩:=h
 generalize (Vz R.t (Vk R lc p)).2=res at *;clear hl h1 h2 hask
 go_enter Tryz.func19,Tryz.ntmps19
 go_wp2_with fail;refine AS.out.mono ?_;rintro e w1 ⟨rfl,hb1⟩;have H1:=hid (H.out.below hb1);have B1:=hid hb1;clear hb1;go_wp2_with fail
 refine(SW.out w1).mono ?_
 rintro e w2 ⟨vp,rfl,ho,hb2⟩;have H2:=hid (H1.out.below hb2);have B2:=hid (B1.out.then hb2);have W2:=hid (WK.out w2 H2.out vp ho.rd);clear ho hb2;go_wp2_with fail;refine W2.out.mono ?_;rintro e w3 ⟨rfl,hb3⟩;have B3:=hid (B2.out.then hb3);clear hb3 W2;go_wp2_with fail;exact bodyPost_ret (v:=.tuple #[.string ⟨(res.getD []).toArray⟩,.bool res.isSome]) (by simp[results,Tryz.results19,go_sem]) rfl ⟨rfl,B3.out⟩
end
section
open Go.RowKit Go.Lib
theorem Us {p key q:Str}:Zj p key=(q,true)↔Qh p key=some q:=by
 unfold Zj
 cases h:Qh p key with
 |none=>simp
 |some x=>simp
theorem Ut {p key:Str}:(Zj p key).2=false↔Qh p key=none:=by
 unfold Zj
 cases h:Qh p key with
 |none=>simp
 |some x=>simp
def Qtj (p1:Str):List Str:=match Qh p1 Qk with
 |none=>[]
 |some bare=>(match Cc p1 with
  |some q=>if q=p1 then []else [q]
  |none=>[])++[bare]
theorem side_eq {p:Str}{l:List Stp}(h:Qy p=some l):Hz p=(p::(Qh p Vd).toList)++Qtj ((Qh p Vd).getD p):=by
 unfold Hz;rw[h]
 rfl
theorem tail_no {p1:Str}(h:(Zj p1 Qk).2=false):Qtj p1=[]:=by
 unfold Qtj;rw[Ut.1 h]
def Tf (p1:Str):List Str:=match Cc p1 with
 |some q=>if q=p1 then []else [q]
 |none=>[]
theorem tail_yes {p1 bare:Str}(h:Zj p1 Qk=(bare,true)):Qtj p1=Tf p1++[bare]:=by
 unfold Qtj Tf;rw[Us.1 h]
theorem Xjv {p1:Str}{l:List Stp}(h:Qy p1=some l){n:Nat}(hn:n<l.length)(h1:Jy (l[n]'hn) Qk=true)(h2:∀m (hm:m<l.length),n<m→Jy (l[m]'hm) Qk=false) :
  Cc p1=Zw (l.set n (Bv Qk Xv (l[n]'hn))):=by
 unfold Cc;rw[h,Option.bind_some,Qgw hn h1 h2,Option.bind_some]
theorem Xbh {p1:Str}{l:List Stp}(h:Qy p1=some l){n:Nat}(hn:n<l.length)(h1:Jy (l[n]'hn) Qk=true)(h2:∀m (hm:m<l.length),n<m→Jy (l[m]'hm) Qk=false)
  (he:Bv Qk Xv (l[n]'hn)=l[n]'hn):Tf p1=[]:=by
 unfold Tf;rw[Xjv h hn h1 h2,he,List.set_getElem_self,Qdv h]
 simp
theorem Xbg {p1:Str}{l:List Stp}(h:Qy p1=some l){n:Nat}(hn:n<l.length)(h1:Jy (l[n]'hn) Qk=true)(h2:∀m (hm:m<l.length),n<m→Jy (l[m]'hm) Qk=false)
  (he:Bv Qk Xv (l[n]'hn)≠l[n]'hn):Tf p1=(Zw (l.set n (Bv Qk Xv (l[n]'hn)))).toList:=by
 unfold Tf;rw[Xjv h hn h1 h2]
 cases hp:Zw (l.set n (Bv Qk Xv (l[n]'hn))) with
 |none=>rfl
 |some q =>
  have hq:=Vs hp;simp only[Option.toList_some];rw[if_neg];rintro rfl;rw[h]at hq
  have:=Option.some.inj hq
  apply he
  have e2:(l.set n (Bv Qk Xv (l[n]'hn)))[n]?=some (Bv Qk Xv (l[n]'hn)):=by rw[List.getElem?_set_self hn]
  rw[←this,List.getElem?_eq_getElem hn]at e2
  exact(Option.some.inj e2).symm
theorem other_val:Jf Xv=true:=by decide +kernel
theorem other_may {x:Stp}(h:Kr x=true):Kr (Bv Qk Xv x)=true:=Xnq h _ _ other_val
theorem Zmw {x:Stp}{key v:Str}(hm:Kr x=true){i:Nat}(h:Xrq x.2 key i):Bv key v x=(x.1,x.2.set i (key,v)):=by
 obtain⟨hi,h1,h2⟩:=h
 unfold Bv;rw[set_key (Tv hm).2.1 hi h1 h2]
theorem Zhy {x:Stp}{key v:Str}(hm:Kr x=true){i:Nat}(h:Xrq x.2 key i):Bv key v x=x↔((x.2[i]'h.1).2=v):=by
 rw[Zmw hm h]
 obtain⟨hi,h1,h2⟩:=h
 obtain⟨n,ks⟩:=x
 simp only[Prod.mk.injEq,true_and]at *
 constructor
 ·intro e
  have:(ks.set i (key,v))[i]?=some (key,v):=List.getElem?_set_self hi
  rw[e,List.getElem?_eq_getElem hi]at this;rw[Option.some.inj this]
 ·intro e
  have:(key,v)=ks[i]'hi:=by rw[←h1,←e]
  rw[this,List.set_getElem_self]
end
end Go.Proofs.YtbbmdbolkicpcabGreatDoor
