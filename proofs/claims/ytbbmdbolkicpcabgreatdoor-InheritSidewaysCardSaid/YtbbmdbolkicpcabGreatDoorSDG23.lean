/- SideB, Side, Law14A, InhSdw -/
import Derived.Test.YtbbmdbolkicpcabGreatDoorSDG22
import Derived.Deep.CutRange
import Derived.Test.YtbbmdbolkicpcabGreatDoorSDG20
import Derived.BigQuiet
import Derived.IntWalk
import Derived.WalkSmall
import Derived.Test.YtbbmdbolkicpcabGreatDoorSDG21
set_option maxRecDepth 100000
set_option maxHeartbeats 32000000
set_option linter.unusedVariables false
set_option linter.unusedSimpArgs false
namespace Go.Proofs.YtbbmdbolkicpcabGreatDoor
section
open Go.RowKit Go.Lib
theorem Qtk:∀(l:List (Str×Str))(i:Nat)(hi:i<l.length)(v:Str),(Kz l).set (i * 2+1) (.string ⟨v.toArray⟩)=Kz (l.set i ((l[i]'hi).1,v))
 |(a,b)::l,0,_,v=>rfl
 |(a,b)::l,i+1,hi,v=>by
  have hi':i<l.length:=by simpa using hi
  have e:(i+1) * 2+1=(i * 2+1)+2:=by omega
  rw[e];show S a::S b::(Kz l).set (i * 2+1) _=_;rw[Qtk l i hi' v]
  rfl
theorem Qd.turn {w:World}{B g c:Nat}{ks:List (Str×Str)}(h:Qd w B (.slice (some ⟨g,0,none⟩) ks.length c) ks){i:Nat}(hi:i<ks.length)(v:Str) :
  Qd (w.setCell ⟨g,i * 2+1,none⟩ (.string ⟨v.toArray⟩)) B (.slice (some ⟨g,0,none⟩) ks.length c) (ks.set i ((ks[i]'hi).1,v)):=by
 rcases Qd.shape h with ⟨e,_⟩|⟨g',cap,cur,e,hB,hg,hn,hm,hs,ht⟩
 ·cases e
 cases e
 refine⟨by rw[Kn,List.length_set],Or.inr ⟨g,c,cur.setIfInBounds (i * 2+1) (.string ⟨v.toArray⟩),by rw[List.length_set],hB,heap_setCell_same _ _ _ _ _ _ hg,by rw[List.length_set];exact hn,hm,by simpa using hs,?_⟩⟩
 rw[List.length_set,Array.toList_setIfInBounds,List.take_set,ht];exact Qtk ks i hi v
theorem Xdq {W:World}{B g0 n cp x g c i:Nat}{zs:List (Stp×(Option Addr×Nat))}{v:Str}(h:Qg Qm 82 W B (.slice (some ⟨g0,0,none⟩) n cp) zs)(hn:n=zs.length)(he:∀z∈zs,Qd W B (Qr z) z.1.2)(hd:zs.Pairwise Zrx)
  (hx:x<zs.length)(hz:(zs[x]'hx).2=(some ⟨g,0,none⟩,c))(hi:i<(zs[x]'hx).1.2.length) :
  RdL Qm (W.setCell ⟨g,i * 2+1,none⟩ (.string ⟨v.toArray⟩)) (.slice (some ⟨g0,0,none⟩) n cp) (zs.set x (((zs[x]'hx).1.1,(zs[x]'hx).1.2.set i (((zs[x]'hx).1.2[i]'hi).1,v)),(some ⟨g,0,none⟩,c)))∧
   (∀z∈zs.set x (((zs[x]'hx).1.1,(zs[x]'hx).1.2.set i (((zs[x]'hx).1.2[i]'hi).1,v)),(some ⟨g,0,none⟩,c)),RdP (W.setCell ⟨g,i * 2+1,none⟩ (.string ⟨v.toArray⟩)) (Qr z) z.1.2):=by
 obtain⟨cur,hcur⟩:=h.row
 have hkx:Qr (zs[x]'hx)=.slice (some ⟨g,0,none⟩) (zs[x]'hx).1.2.length c:=by unfold Qr;rw[hz]
 have hgx:=he _ (List.getElem_mem hx);rw[hkx]at hgx;have hg0:g0≠g:=fun e=>by
  rcases Qd.shape hgx with ⟨e1,_⟩|⟨g',cap,cur',e1,_,hg',_⟩
  ·cases e1
  ·cases e1;rw[e,hg']at hcur;cases hcur
 have hdis:∀j (hj:j<zs.length),j≠x→(Qr (zs[j]'hj)).ownBlock≠some g:=fun j hj hjx e=>by
  have hp:=List.pairwise_iff_getElem.1 hd
  rcases Nat.lt_or_gt_of_ne hjx with hlt|hlt
  ·exact hp j x hj hx hlt g e (by rw[hkx];rfl)
  ·exact hp x j hx hj hlt g (by rw[hkx];rfl) e
 have h1:=Qb h (b:=g) (fun e=>hg0 (Option.some.inj e)) (i * 2+1) (.string ⟨v.toArray⟩)
 constructor
 ·have hfl:Xd Qm (zs.set x (((zs[x]'hx).1.1,(zs[x]'hx).1.2.set i (((zs[x]'hx).1.2[i]'hi).1,v)),(some ⟨g,0,none⟩,c)))=Xd Qm zs:=by
   have hset:=Qzg Qm zs x 1 hx (by decide) (Qr (zs[x]'hx)) (((zs[x]'hx).1.1,(zs[x]'hx).1.2.set i (((zs[x]'hx).1.2[i]'hi).1,v)),(some ⟨g,0,none⟩,c)) (by rw[hkx];simp[Qm]);rw[←hset];have hget:=Hg Qm zs x 1 hx (by decide);have hk1:(Xd Qm zs)[x * 2+1]?=some (Qr (zs[x]'hx)):=by rw[hget];rfl
   obtain⟨hlt,he2⟩:=List.getElem?_eq_some_iff.1 hk1
   rw[←he2,List.set_getElem_self]
  have ho:Qg Qm 82 (W.setCell ⟨g,i * 2+1,none⟩ (.string ⟨v.toArray⟩)) B (.slice (some ⟨g0,0,none⟩) n cp) (zs.set x (((zs[x]'hx).1.1,(zs[x]'hx).1.2.set i (((zs[x]'hx).1.2[i]'hi).1,v)),(some ⟨g,0,none⟩,c))):=Xh h1 (by rw[List.length_set]) hfl;exact ho.rd
 ·intro z hz'
  obtain⟨j,hj,rfl⟩:=List.getElem_of_mem hz'
  rw[List.length_set]at hj;rw[List.getElem_set]
  split
  ·have:=(Qd.turn hgx hi v).rd
   have e2:Qr ((((zs[x]'hx).1.1,(zs[x]'hx).1.2.set i (((zs[x]'hx).1.2[i]'hi).1,v)),(some ⟨g,0,none⟩,c)):Stp×(Option Addr×Nat))=.slice (some ⟨g,0,none⟩) (zs[x]'hx).1.2.length c:=by unfold Qr;rw[List.length_set]
   rw[e2];exact this
  ·next e=>exact(show Qd _ B _ _ from Qb (he _ (List.getElem_mem hj)) (hdis j hj (fun e'=>e e'.symm)) _ _).rd
theorem Xjw {W1 W2:World}{B k n:Nat}{e:TypeId}{v:Value}{xs:List Value}{row:Option Nat}(h:W1.ownsRow B e k v n xs)(hg:W1.grownBy W2 row)(hr:∀r,row=some r→∃o:Obj,W1.heap[r]?=some o∧o.isCells=false):W2.ownsRow B e k v n xs:=by
 refine World.ownsRow.kept h hg ?_
 rcases h.2 with ⟨rfl,_⟩|⟨g,cap,cur,rfl,_,hgg,_⟩
 ·exact Or.inl rfl
 ·refine Or.inr fun e'=>?_
  obtain⟨o,h1,h2⟩:=hr g e'.symm
  rw[hgg]at h1
  cases h1
  cases h2
theorem Qd.at {w:World}{B g n c:Nat}{ks:List (Str×Str)}(h:Qd w B (.slice (some ⟨g,0,none⟩) n c) ks){j:Nat}(hj:j<ks.length) :
  w.cell? ⟨g,j * 2,none⟩=some (.string ⟨((ks[j]'hj).1).toArray⟩)∧w.cell? ⟨g,j * 2+1,none⟩=some (.string ⟨((ks[j]'hj).2).toArray⟩)∧w.frozen? ⟨g,j * 2+1,none⟩=false∧g<w.heap.size∧B≤g:=by
 rcases Qd.shape h with ⟨e,_⟩|⟨g',cap,cur,e,hB,hg,hn,hm,hs,ht⟩
 ·cases e
 cases e;have hc:∀k,k<ks.length * 2→cur[k]?=(Kz ks)[k]?:=fun k h=>by rw[←ht,List.getElem?_take,if_pos h,Array.getElem?_toList]
 have h0:=Cz ks j 0 hj (by decide);have h1:=Cz ks j 1 hj (by decide);rw[Nat.add_zero]at h0
 refine⟨?_,?_,frozen_of_row _ _ _ _ _ hg,lt_of_block hg,hB⟩
 ·rw[cell_of_row _ _ _ _ _ _ hg,hc _ (by omega),h0];rfl
 ·rw[cell_of_row _ _ _ _ _ _ hg,hc _ (by omega),h1];rfl
theorem Zhh {w:World}{B k n:Nat}{e:TypeId}{v:Value}{xs:List Value}(h:w.ownsRow B e k v n xs):∀(j:Nat)(o:Obj),v.ownBlock=some j→w.heap[j]?=some o→o.isCells=true:=fun j o hj ho=>by
 rcases h.2 with ⟨rfl,_⟩|⟨g,cap,cur,rfl,_,hg,_⟩
 ·cases hj
 ·obtain rfl:g=j:=Option.some.inj hj;rw[hg]at ho
  cases ho
  rfl
theorem Zhg:∀(l:List (Str×Str))(i:Nat)(y:Str×Str),(Zt (l.set i y)).length≤(Zt l).length+(Ff y).length
 |[],_,_=>by simp[Zt]
 |k::r,0,y=>by simp[Zt];omega
 |k::r,i+1,y=>by
  have:=Zhg r i y
  simp only[Zt,List.set_cons_succ,List.flatMap_cons,List.length_append]at this ⊢
  omega
theorem Xdz {x:Stp}(i:Nat)(h:(Qp x).length≤513):(Qp (x.1,x.2.set i (Qk,Xv))).length≤1073741824:=by
 have h1:=Zhg x.2 i (Qk,Xv);have h2:(Ff (Qk,Xv)).length=13:=by decide +kernel
 unfold Qp at h ⊢;rw[List.length_append]at h ⊢
 simp only
 omega
def Nl (l:List Stp)(x:Nat)(y:Stp):List Str:=if Bv Qk Xv y=y then [] else(Zw (l.set x (Bv Qk Xv y))).toList
theorem Xdx {p1:Str}{l:List Stp}(h:Qy p1=some l){n:Nat}(hn:n<l.length)(h1:Jy (l[n]'hn) Qk=true)(h2:∀m (hm:m<l.length),n<m→Jy (l[m]'hm) Qk=false):Tf p1=Nl l n (l[n]'hn):=by
 unfold Nl
 split
 ·next e=>exact Xbh h hn h1 h2 e
 ·next e=>exact Xbg h hn h1 h2 e
def Xrk (w7:World)(ws b5:Nat)(zs:List Zst)(L:List Str)(pre:List Nat)(W:World):Prop :=
 ∃pre' x,∃hx:x<zs.length,pre=pre'++[x]∧(∀k∈pre',Jy (zs.getD k stD).1 Qk=false)∧Jy (zs[x]'hx).1 Qk=true∧Below ws w7 W∧b5<w7.heap.size∧ws≤w7.heap.size ∧
  ∃v,W.heap[b5]?=some (.cells #[v] 28 (0,0))∧Qt W ws v (L++Nl (zs.map (·.1)) x (zs[x]'hx).1)
theorem Xrk.grown {w7 W1 W2:World}{ws b5:Nat}{zs:List Zst}{L:List Str}{pre:List Nat}{row:Option Nat}(h:Xrk w7 ws b5 zs L pre W1)(hg:W1.grownBy W2 row)(hr:∀k,row=some k→w7.heap.size≤k∧∃o:Obj,W1.heap[k]?=some o∧o.isCells=false):Xrk w7 ws b5 zs L pre W2:=by
 obtain⟨pre',x,hx,h1,h2,h3,h4,h5,h6,v,h7,h8⟩:=h
 refine⟨pre',x,hx,h1,h2,h3,h4.grown hg (Nat.le_trans h6 h4.size) (fun k hk=>Nat.le_trans h6 (hr k hk).1),h5,h6,v,(hg.block _ (lt_of_block h7) fun e=>?_).trans h7,Xjw h8 hg fun r e=>(hr r e).2⟩
 have:=(hr _ e.symm).1
 omega
end
section
open Go.RowKit Go.Lib Go.Sort Go.Maps Go.WideMaps Go.Shelf
attribute [local go_sem] Oper.semAt_some
theorem Yc.grownS {w w':World}{B B2:Nat}{v u:Value}{l:List Stp}{L:List Str}(h:Yc w B v l)(o:Qt w B2 u L)(g:w.grownBy w' u.ownBlock):Yc w' B v l:=by
 obtain⟨zs,h1,h2,h3,h4⟩:=h
 exact⟨zs,h1,World.ownsRow.kept h2 g (Kd h2 o (by decide)),fun z hz=>World.ownsRow.kept (h3 z hz) g (Kd (h3 z hz) o (by decide)),h4⟩
theorem Yc.setT {w:World}{B b:Nat}{v:Value}{l:List Stp}{cs:Array Value}{t:TypeId}(h:Yc w B v l)(hb:w.heap[b]?=some (.cells cs t (0,0)))(h1:82≠t)(h2:37≠t)(i:Nat)(x:Value):Yc (w.setCell ⟨b,i,none⟩ x) B v l:=by
 obtain⟨zs,g1,g2,g3,g4⟩:=h
 exact⟨zs,g1,Qb g2 (Qx g2 hb h1) i x,fun z hz=>Qb (g3 z hz) (Qx (g3 z hz) hb h2) i x,g4⟩
theorem Yc.mono {w:World}{B C:Nat}{v:Value}{l:List Stp}(h:Yc w B v l)(hc:C≤B):Yc w C v l:=by
 obtain⟨zs,g1,g2,g3,g4⟩:=h
 exact⟨zs,g1,g2.mono hc,fun z hz=>Ks (g3 z hz) hc,g4⟩
structure Sd1 (w:World)(b3 b5:Nat)(l1:List Stp)(L:List Str)(W:World):Prop where
 bel:Below w.heap.size w W
 st:∃v,W.heap[b3]?=some (.cells #[v] 76 (0,0))∧Yc W w.heap.size v l1
 ls:∃v,W.heap[b5]?=some (.cells #[v] 28 (0,0))∧Qt W w.heap.size v L
 ne:b3≠b5∧w.heap.size≤b3∧w.heap.size≤b5
theorem Zmy (w:World)(p:Str)(hp:p.length≤maxLen) :
  Calls Tryz.prog 12 #[.string ⟨p.toArray⟩] w fun e w'=>∃v,e=.returned v∧Qt w' w.heap.size v (Hz p)∧Below w.heap.size w w':=by
 refine(callsIn_wide (n:=6)).1 ?_
 refine callsIn_of_wp_marks Tryz.func12 rfl trivial ?_ rfl;refine wpIn_wide.2 ?_;simp only[Tryz.ntmps12,List.size_toArray,List.length_cons,List.length_nil,Nat.reduceAdd,Nat.reduceSub,Array.replicate_succ,Array.replicate_zero,List.push_toArray,List.append_toArray,List.nil_append,List.cons_append];have WT:=hid (fun(p key:Str) W (h:p.length≤maxLen)=>Xjj W p key h);have HP:=hid hp;go_wp2_with fail
 go_step3
 go_wp2_with fail
 refine(Jd p w hp).mono ?_
 rintro e w1 h
 obtain⟨v,er,ea,rfl,hb1,l',hl',hc1,ao,cp,rfl,hcap,hs1⟩:=h.own'
 have B1:=hid hb1;have L1:=hid hl';clear h hl' hb1 hs1 hcap;have Y6:=hid (show((w1.alloc (.cells #[.slice ao l'.length cp] 76)).alloc (.cells #[.int .i64 er,.int .i64 ea] 78)).heap[w1.heap.size]?=some (.cells #[.slice ao l'.length cp] 76 (0,0)) from(Below.heap_alloc _ _ _ (by simp)).trans (heap_alloc_new w1 _));have Y7:=hid (show((w1.alloc (.cells #[.slice ao l'.length cp] 76)).alloc (.cells #[.int .i64 er,.int .i64 ea] 78)).heap[w1.heap.size+1]?=some (.cells #[.int .i64 er,.int .i64 ea] 78 (0,0))from by
  have e:=heap_alloc_new (w1.alloc (.cells #[.slice ao l'.length cp] 76)) (.cells #[.int .i64 er,.int .i64 ea] 78);rw[show(w1.alloc (.cells #[.slice ao l'.length cp] 76)).heap.size=w1.heap.size+1 by simp]at e;exact e)
 have A2:=hid (show Below w1.heap.size w1 ((w1.alloc (.cells #[.slice ao l'.length cp] 76)).alloc (.cells #[.int .i64 er,.int .i64 ea] 78)) from(bal _ _).alloc (by simp) _);go_upto_region 2 with fail;generalize (w1.alloc (.cells #[.slice ao l'.length cp] 76)).alloc (.cells #[.int .i64 er,.int .i64 ea] 78)=w2 at *
 obtain⟨y0,y1,_,_,yl⟩:=Qq Y7.out
 have B2:=hid (B1.out.then A2.out);have L2:=hid (L1.out.below A2.out);have S2:=hid (B1.out.size);generalize w1.heap.size=b3 at *;clear A2 B1 L1
 rcases hc1 with ⟨rfl,hpl⟩|⟨hne,hpl,rfl⟩
 case inr =>
  have d0:((er:Int)==0)=false:=by simpa using hne
  have HSB:=hid (show Hz p=[]from Qkq (by unfold Zv;rw[hpl];rfl));go_wp2_with fail;rw[Exit.noGoto_ret]
  refine⟨.slice none 0 0,?_,⟨_,rfl,by rw[HSB.out];exact World.ownsRow_nil _ _ _ _,B2.out⟩⟩
  simp[results,Tryz.f12,go_sem]
 have HPL:=hid hpl;have O3:=hid (Xjk w2 w.heap.size p B2.out.size);have A3:=hid (bal w2 (.cells #[.string ⟨p.toArray⟩] 9));have Z3:=hid (show(w2.alloc (.cells #[.string ⟨p.toArray⟩] 9)).heap.size=w2.heap.size+1 by simp);have F4:=hid (show((w2.alloc (.cells #[.string ⟨p.toArray⟩] 9)).alloc (.cells #[.slice (some ⟨w2.heap.size,0,none⟩) 1 1] 28)).heap[w2.heap.size+1]?=some (.cells #[.slice (some ⟨w2.heap.size,0,none⟩) 1 1] 28 (0,0))from by
  have e:=heap_alloc_new (w2.alloc (.cells #[.string ⟨p.toArray⟩] 9)) (.cells #[.slice (some ⟨w2.heap.size,0,none⟩) 1 1] 28);rw[Z3.out]at e;exact e)
 have A4:=hid (show Below (w2.alloc (.cells #[.string ⟨p.toArray⟩] 9)).heap.size (w2.alloc (.cells #[.string ⟨p.toArray⟩] 9)) ((w2.alloc (.cells #[.string ⟨p.toArray⟩] 9)).alloc (.cells #[.slice (some ⟨w2.heap.size,0,none⟩) 1 1] 28))from bal _ _);have O4:=hid (show Qt ((w2.alloc (.cells #[.string ⟨p.toArray⟩] 9)).alloc (.cells #[.slice (some ⟨w2.heap.size,0,none⟩) 1 1] 28)) w.heap.size _ [p]from Qz O3.out A4.out);have B4:=hid ((B2.out.then A3.out).then A4.out);have A34:=hid (A3.out.then A4.out);go_upto_region 5 with fail;generalize (w2.alloc (.cells #[.string ⟨p.toArray⟩] 9)).alloc (.cells #[.slice (some ⟨w2.heap.size,0,none⟩) 1 1] 28)=w4 at *;have L4:=hid (L2.out.below A34.out);have Y4:=hid (bk A34.out Y6.out);have HLT:=hid (show b3<w2.heap.size∧w.heap.size≤w2.heap.size from⟨lt_of_block Y6.out,B2.out.size⟩);generalize w2.heap.size=sb at *;clear y0 y1 yl B2 O3 A3 A4 Y6 Y7 Z3 L2 hpl A34
 go_wp2_with (go_at_call 37;refine(WT.out p Vd w4 HP.out).mono ?_)
 rintro e w5 ⟨rfl,hb5⟩;have O5:=hid (show Qt w5 w.heap.size _ [p]from Qz O4.out hb5);have F5:=hid (bk hb5 F4.out);have Y5:=hid (bk hb5 Y4.out);have L5:=hid (L4.out.below hb5);have B5:=hid (B4.out.then hb5);clear hb5 O4 F4 B4 Y4 L4;have HFL:=hid hp;clear hp
 obtain⟨q0,hq0⟩:∃q0,q0=(Zj p Vd).1:=⟨_,rfl⟩
 obtain⟨b0,hb0⟩:∃b0,b0=(Zj p Vd).2:=⟨_,rfl⟩
 rw[←hq0,←hb0];have HQ0:=hid hq0;have HB0:=hid hb0;clear hq0 hb0
 go_upto_if 30 with fail
 go_cut[0]from 31 to 40 (fun v0 wc=>v0=.string ⟨((Qh p Vd).getD p).toArray⟩∧∃l1,Qy ((Qh p Vd).getD p)=some l1∧((Qh p Vd).getD p).length≤maxLen∧Sd1 w b3 (sb+1) l1 (p::(Qh p Vd).toList) wc)
 case first =>
  cases hw:Qh p Vd with
  |none =>
   have SD:=hid (show Sd1 w b3 (sb+1) l' [p] w5 from⟨B5.out,⟨_,Y5.out,L5.out⟩,⟨_,F5.out,O5.out⟩,by have:=HLT.out;omega,by have:=S2.out;omega,by have:=HLT.out;omega⟩);refine wp_cond_false (by show Value.bool b0=_;rw[HB0.out,Ut.2 hw]) ?_;go_wp2_with fail
   go_meet
   rw[hw]
   exact⟨rfl,l',HPL.out,HFL.out,SD.out⟩
  |some q =>
   have e1:Zj p Vd=(q,true):=Us.2 hw;refine wp_cond_true (by show Value.bool b0=_;rw[HB0.out,e1]) ?_;have hqq:=Zdh hw
   obtain⟨l1,hl1⟩:=Option.isSome_iff_exists.1 hqq
   have HQ:=hid hl1;have HQL:=hid (show q.length≤maxLen from by
    obtain⟨_,_,_,h4,h5⟩:=Zy hl1
    rw[←h5];unfold maxLen;omega)
   obtain rfl:q0=q:=by rw[HQ0.out,e1]
   have HW:=hid hw;clear hqq hl1 hw e1;have x0:w5.cell? ⟨sb+1,0,none⟩=some (.slice (some ⟨sb,0,none⟩) 1 1):=cR F5.out;have xf:=frozen_of_row _ _ 0 _ _ F5.out;have xl:=lt_of_block F5.out;have HB5:=hid B5.out.size;have HS1:=hid (show ¬((sb:Nat)=sb+1)from by omega)
   go_upto_region 8 with (at_builtin;refine Zz rfl (.tmp 31) (.tmp 33) rfl w.heap.size (.slice (some ⟨sb,0,none⟩) 1 1) [p] q0 rfl O5.out rfl (by simp) HB5.out ?_;intro v6 w6 own6 gr6 mv6;obtain⟨a6,c6,rfl⟩:=Zc own6;have F6:=hid ((gr6.block _ (lt_of_block F5.out) (fun e=>HS1.out (Option.some.inj e).symm)).trans F5.out);have O6:=hid (show Qt w6 w.heap.size _ ([p]++[q0])from own6);have L6:=hid (L5.out.grownS O5.out gr6);have NS6:=hid (show b3≠sb from by have:=HLT.out;omega);have Y6:=hid ((gr6.block _ (lt_of_block Y5.out) (fun e=>NS6.out (Option.some.inj e))).trans Y5.out);have B6:=hid (B5.out.grown gr6 HB5.out (fun k e=>by cases e;exact HLT.out.2));clear own6 gr6 mv6 x0 xf xl;have x0:w6.cell? ⟨sb+1,0,none⟩=some (.slice (some ⟨sb,0,none⟩) 1 1):=(by rw[cell_of_row _ _ _ _ _ _ F6.out];rfl);have xf:=frozen_of_row _ _ 0 _ _ F6.out;have xl:=lt_of_block F6.out)
   have F7:=hid (show(w6.setCell ⟨sb+1,0,none⟩ (.slice a6 ([p]++[q0]).length c6)).heap[sb+1]?=some (.cells #[.slice a6 ([p]++[q0]).length c6] 28 (0,0))from heap_setCell_same _ _ _ _ _ _ F6.out);have O7:=hid (Qb O6.out (Qx O6.out F6.out (by decide)) 0 (.slice a6 ([p]++[q0]).length c6));have L7:=hid (L6.out.setT F6.out (by decide) (by decide) 0 (.slice a6 ([p]++[q0]).length c6));have Y7:=hid ((heap_setCell_other w6 ⟨sb+1,0,none⟩ b3 (.slice a6 ([p]++[q0]).length c6) (by have:=HLT.out;simp;omega)).trans Y6.out);have B7:=hid (B6.out.setCell (p:=⟨sb+1,0,none⟩) (by have:=HLT.out;simp;omega) (.slice a6 ([p]++[q0]).length c6));simp only[List.length_append,List.length_cons,List.length_nil,Nat.reduceAdd]at F7 O7 L7 Y7 B7;clear x0 xf xl F6 O6 L6 Y6 B6;generalize w6.setCell ⟨sb+1,0,none⟩ (.slice a6 2 c6)=w7 at *
   go_wp2_with (go_at_call 36;refine(Jd q0 w7 HQL.out).mono ?_)
   rintro e w8 h8
   obtain⟨v8,er8,ea8,rfl,hb8,l8,hl8,hc8,ao8,cp8,rfl,hcap8,hs8⟩:=h8.own'
   obtain⟨rfl,hll⟩:er8=0∧l8=l1:=by
    rcases hc8 with ⟨h1,h2⟩|⟨_,h2,_⟩
    ·rw[HQ.out]at h2;exact⟨h1,(Option.some.inj h2).symm⟩
    ·rw[HQ.out]at h2;cases h2
   subst hll;have L8:=hid (hl8.mono B7.out.size);have F8:=hid (bk hb8 F7.out);have O8:=hid (Qz O7.out hb8);have Y8:=hid (bk hb8 Y7.out);have B8:=hid (B7.out.then hb8);clear h8 hl8 hc8 hcap8 hs8 hb8 F7 O7 L7 Y7 B7;have x0:w8.cell? ⟨b3,0,none⟩=some (.slice ao l'.length cp):=cR Y8.out;have xf:=frozen_of_row _ _ 0 _ _ Y8.out;have xl:=lt_of_block Y8.out;have SD:=hid (show Sd1 w b3 (sb+1) l8 (p::[q0]) (w8.setCell ⟨b3,0,none⟩ (.slice ao8 l8.length cp8)) from
    ⟨B8.out.setCell (p:=⟨b3,0,none⟩) (by have:=S2.out;simp;omega) _,⟨_,heap_setCell_same _ _ _ _ _ _ Y8.out,L8.out.setT Y8.out (by decide) (by decide) 0 _⟩,
     ⟨_,(heap_setCell_other w8 ⟨b3,0,none⟩ (sb+1) _ (by have:=HLT.out;simp;omega)).trans F8.out,Qb O8.out (Qx O8.out Y8.out (by decide)) 0 _⟩,by have:=HLT.out;omega,by have:=S2.out;omega,by have:=HLT.out;omega⟩)
   clear L8 F8 O8 Y8 B8;go_wp2_with fail
   go_meet
   rw[HW.out]
   exact⟨rfl,l8,HQ.out,HQL.out,SD.out⟩
 case rest =>
  obtain⟨rfl,hx⟩:=hcut
  have SE:=hid (side_eq HPL.out)
  obtain⟨p1,hp1⟩:∃p1,p1=(Qh p Vd).getD p:=⟨_,rfl⟩
  obtain⟨L,hL⟩:∃L,L=p::(Qh p Vd).toList:=⟨_,rfl⟩
  rw[←hp1,←hL]at hx SE;rw[←hp1];have HLL:=hid (show L.length≤2 from by rw[hL];cases Qh p Vd <;> simp);clear hp1 hL
  obtain⟨l1,hl1,hlen1,sd⟩:=hx
  have SD:=hid sd;have HL1:=hid hl1;have HN1:=hid hlen1;clear sd hl1 hlen1 HPL HFL HQ0 HB0 O5 F5 Y5 L5 B5
  go_wp2_with (go_at_call 37;refine(WT.out p1 Qk wc HN1.out).mono ?_)
  rintro e w6 ⟨rfl,hb6⟩
  obtain⟨v5,hy5,ho5⟩:=SD.out.ls
  obtain⟨a5,c5,rfl⟩:=Zc ho5
  obtain⟨v3,hy3,ho3⟩:=SD.out.st
  have F6:=hid (bk hb6 hy5);have Y6:=hid (bk hb6 hy3);have O6:=hid (show Qt w6 w.heap.size _ L from Qz ho5 hb6);have L6:=hid (ho3.below hb6);have B6:=hid (SD.out.bel.then hb6);have NE:=hid SD.out.ne;clear hb6 hy5 ho5 hy3 ho3 SD
  cases hok:(Zj p1 Qk).2 with
  |false =>
   have TN:=hid (tail_no hok);have x0:w6.cell? ⟨sb+1,0,none⟩=some (.slice a5 L.length c5):=cR F6.out;have xl:=lt_of_block F6.out;go_wp2_with fail;rw[Exit.noGoto_ret]
   refine⟨.slice a5 L.length c5,?_,⟨_,rfl,by rw[SE.out,TN.out,List.append_nil];exact O6.out,B6.out⟩⟩
   simp[results,Tryz.f12,go_sem]
  |true =>
   obtain⟨bare,hbare⟩:∃bare,bare=(Zj p1 Qk).1:=⟨_,rfl⟩
   have TY:=hid (tail_yes (show Zj p1 Qk=(bare,true)from by rw[hbare,←hok]));have HNO:=hid (show ¬ ∀x∈l1,Jy x Qk=false from fun h=>by
    rw[Mg HL1.out h]at hok
    cases hok)
   rw[←hbare];clear hbare hok
   obtain⟨ao1,cp1,rfl⟩:∃a c,v3=.slice a l1.length c:=by
    obtain⟨zs,h1,h2,_⟩:=L6.out
    obtain⟨a,c,h,_⟩:=h2.slice
    exact⟨a,c,by rw[h,←h1,List.length_map]⟩
   have y0:w6.cell? ⟨b3,0,none⟩=some (.slice ao1 l1.length cp1):=cR Y6.out;have yl:=lt_of_block Y6.out;go_upto_region 13 with fail
   go_step3
   go_wp2_with (go_at_call 38;refine(Qsq _ w6 ⟨_,_,_,rfl⟩).mono ?_)
   rintro e w7 ⟨rfl,hw7⟩;clear y0 yl;have A7:=hid (show Below w6.heap.size w6 w7 from by rw[hw7];exact bal _ _);have F7b:=hid (show w7.heap[w6.heap.size]?=some (.cells #[.slice ao1 l1.length cp1] 76 (0,0))from by rw[hw7];exact heap_alloc_new w6 _);clear hw7;have F7:=hid (bk A7.out F6.out);have Y7:=hid (bk A7.out Y6.out);have O7:=hid (show Qt w7 w.heap.size _ L from Qz O6.out A7.out);have L7:=hid (L6.out.below A7.out);have B7:=hid (B6.out.then A7.out);clear F6 Y6 O6 L6 B6 A7
   obtain⟨zs,hz,hown,heach,hdis⟩:=L7.out
   have hln:l1.length=zs.length:=by rw[←hz,List.length_map]
   rw[hln]at F7b Y7 hown ⊢;have OWN:=hid hown;have EACH:=hid heach;have DIS:=hid hdis;have HZM:=hid hz;have HZ:=hid (show zs.length≤64 by rw[←hln];exact(Zy HL1.out).2.2.1);have SQ:=hid (Lk 5 (by decide) w6.heap.size cp1 ao1 zs w7 F7b.out hown.rd (by have:=HZ.out;omega));clear hz hown heach hdis hln L7 F7b;have EACH7:=hid (fun W (hk:Below w7.heap.size w7 W) (x:Nat)=>Xfy W zs (fun z hz=>(EACH.out z hz).rd.below hk) x);have HXL:=hid (fun(x:Nat)=>(show(zs.getD x stD).1.2.length≤1000 from by
    rw[List.getD_eq_getElem?_getD]
    cases e:zs[x]? with
    |none=>exact Nat.zero_le _
    |some z =>
     have hm:z.1∈l1:=by rw[←HZM.out];exact List.mem_map_of_mem (List.mem_of_getElem? e)
     have h1:=Dt HL1.out hm;have h2:=Qfq z.1;show z.1.2.length≤1000
     omega))
   go_wp2_with fail
   obtain⟨sb6,hsb6⟩:∃x,x=w6.heap.size:=⟨_,rfl⟩
   rw[←hsb6]at SQ ⊢;clear hsb6
   refine(wpIn_wide (n:=6)).1 ?_
   generalize ha0:Act.mk _ _=a0;refine wpIn_rangeFunc_ownH rfl (by omega) (gf:=88) (by rw[←ha0];rfl) trivial (enters_of Tryz.func88 (by kernel_rfl) rfl)
    SQ.out (fun h g=>h.trans g) (fun W l o o' hl ho hc _=>KpB.put hl ho hc) (Below.refl _ _) (fun _=>rfl)
    (fun pre W=>Below w7.heap.size w7 W∧∀k∈pre,Jy (zs.getD k stD).1 Qk=false) (fun c pre W=>c=.exit 0∧Xrk w7 w.heap.size (sb+1) zs L pre W) (fun s W1 W2 row hs hg hr=>⟨hs.1.grown hg hs.1.size (fun k hk=>(hr k hk).1),hs.2⟩) (fun c s W1 W2 row hs hg hr=>⟨hs.1,hs.2.grown hg hr⟩) ⟨Below.refl _ _,fun k hk=>by cases hk⟩
    (fun x a' W=>∃Bx,w7.heap.size≤Bx∧W.heap[Bx]?=some (.cells #[.string ⟨(zs.getD x stD).1.1.toArray⟩,Qr (zs.getD x stD)] 82 (0,0))∧a'={ tmps:=((a0.tmps.setIfInBounds 51 (.int .i64 (x:Nat))).setIfInBounds 52 (stV (zs.getD x stD))).setIfInBounds 11 (.pointer (some ⟨Bx,0,none⟩)),defers:=[] }) ?own ?assign ?body ?done ?stop
   case own =>
    rintro x a' s W W' row ⟨Bx,h1,h2,h3⟩ hg hr
    refine⟨Bx,h1,(hg.block Bx (lt_of_block h2) (fun e=>?_)).trans h2,h3⟩
    obtain⟨_,o,ho,hc⟩:=hr Bx e.symm
    rw[h2]at ho
    cases ho
    cases hc
   case assign =>
    intro l pre x W K hI hK;have hbW:Below W.heap.size W (W.alloc (.cells #[.string ⟨(zs.getD x stD).1.1.toArray⟩,Qr (zs.getD x stD)] 82)):=bal _ _;have hz7:=hI.1.size;subst ha0;unfold stV Qr;simp only[List.setIfInBounds_toArray,List.set_cons_zero,List.set_cons_succ]
    gi_wp2
    exact hK _ _ ((KeepsOthers.alloc _ _).from _) (KpB.of_below hbW hz7) ⟨hI.1.then hbW,hI.2⟩ ⟨W.heap.size,hz7,heap_alloc_new W _,rfl⟩
   case body =>
    rintro l pre x a' W _ _ hI ⟨Bx,hB,hBx,rfl⟩ hlen;have HI:=hid hI.1;have HPRE:=hid hI.2;have HBX:=hid hBx;clear hI;subst ha0;simp only[List.setIfInBounds_toArray,List.set_cons_zero,List.set_cons_succ]
    obtain⟨z,hz⟩:∃z,z=zs.getD x stD:=⟨_,rfl⟩
    have HZG:=hid hz;rw[←hz]at hBx HBX ⊢;have LX:=hid (show z.1.2.length≤1000 from by rw[hz];exact HXL.out x);clear hz
    obtain⟨⟨zn,zk⟩,za,zc⟩:=z
    unfold stV;simp only[Qr]at hBx HBX LX ⊢;have HIN:=hid (show zk≠[]→∃hx:x<zs.length,((zn,zk),(za,zc))=zs[x]'hx from fun hne=>by
     rcases Nat.lt_or_ge x zs.length with h|h
     ·refine⟨h,?_⟩
      rw[HZG.out,List.getD_eq_getElem?_getD,List.getElem?_eq_getElem h];rfl
     ·refine absurd ?_ hne
      have:=HZG.out
      rw[List.getD_eq_getElem?_getD,List.getElem?_eq_none h]at this
      cases this;rfl)
    obtain⟨x0,x1,_,_,xl⟩:=Qq hBx
    clear hBx;have hl0:(0:Int)≤(zk.length:Int):=by omega
    gi_wp2
    gi_loopw [12,56] (fun v12 v56 wr=>∃j:Nat,j≤zk.length∧v56=.int .i64 j∧wr=W∧∀k (hk:k<zk.length),k<j→(zk[k]'hk).1≠Qk) (fun v12 v56 _=>zk.length-(intOf v56).toNat)
    case atStart=>exact⟨0,Nat.zero_le _,rfl,rfl,fun k _ h=>absurd h (Nat.not_lt_zero _)⟩
    case round =>
     obtain⟨j,hj,rfl,rfl,hno⟩:=hrel
     have HNO2:=hid hno;clear hno
     by_cases hjl:j<zk.length
     case neg =>
      have hji:(zk.length:Int)≤(j:Int):=by omega
      have HALL:=hid (show Jy (zs.getD x stD).1 Qk=false from by
       rw[←HZG.out];refine Qgv.2 fun k hk=>?_
       obtain⟨i,hi,rfl⟩:=List.getElem_of_mem hk
       exact HNO2.out i hi (Nat.lt_of_lt_of_le hi (Nat.le_of_not_lt hjl)))
      clear hjl
      gi_wp2
      refine⟨KeepsFrom.refl _ _,KpB.refl _ _ _,HI.out,fun k hk=>?_⟩
      rcases List.mem_append.1 hk with hk|hk
      ·exact HPRE.out k hk
      ·rw[List.mem_singleton.1 hk];exact HALL.out
     case pos =>
      have hji:(j:Int)<(zk.length:Int):=by omega
      have hj0:(0:Int)≤(j:Int):=by omega
      have hjb:(j:Int)≤1000:=by have:=LX.out;omega
      obtain⟨hx,hzx⟩:=HIN.out (by intro e;rw[e]at hjl;exact absurd hjl (by simp))
      have EZ:=hid (show Qd wr w.heap.size (.slice za zk.length zc) zk from by
       have:=Qz (EACH.out _ (List.getElem_mem hx)) HI.out
       rw[←hzx]at this;exact this)
      rcases Qd.shape EZ.out with ⟨_,h0⟩|⟨g,cap,cur,hsl,hgB,hgc,_⟩
      ·rw[h0]at hjl;exact absurd hjl (by simp)
      injection hsl with hza _ hzc
      subst hza;subst hzc
      obtain⟨k0,k1,kf,kl,_⟩:=Qd.at EZ.out hjl
      have HG:=hid (show ∃cur,wr.heap[g]?=some (.cells cur 37 (0,0)) from⟨cur,hgc⟩);have HGB:=hid hgB;have HZX:=hid (show ∃hx:x<zs.length,((zn,zk),(some (⟨g,0,none⟩:Addr),zc))=zs[x]'hx from⟨hx,hzx⟩);have HJK:=hid (show ∃hjl:j<zk.length,zk[j]'hjl=zk[j]'hjl from⟨hjl,rfl⟩)
      obtain⟨kk,hkk⟩:∃kk,kk=(zk[j]'hjl).1:=⟨_,rfl⟩
      obtain⟨kv,hkv⟩:∃kv,kv=(zk[j]'hjl).2:=⟨_,rfl⟩
      rw[←hkk]at k0;rw[←hkv]at k1;have HKK:=hid (show ∀hjl:j<zk.length,(zk[j]'hjl).1=kk from fun _=>hkk.symm);have HKV:=hid (show ∀hjl:j<zk.length,(zk[j]'hjl).2=kv from fun _=>hkv.symm);have hwj:IntKind.i64.wrap ((j:Int)+1)=(j:Int)+1:=IntWalk.i64_in _ (by omega);clear hgc hgB hzx hkk hkv
      by_cases hkc:kk=Qk
      case neg =>
       have hb1:(kk==[99,111,117,110,116])=false:=beq_eq_false_iff_ne.2 hkc;have HNO3:=hid (show ∀k (hk:k<zk.length),k<j+1→(zk[k]'hk).1≠Qk from fun k hk hlt=>by
        rcases Nat.lt_or_eq_of_le (Nat.le_of_lt_succ hlt)with h|h
        ·exact HNO2.out k hk h
        ·subst h;rw[HKK.out hk];exact hkc)
       have HJL:=hid hjl;clear hx hjl kf hkc
       gi_wp2
       go_roundw
       case rel=>exact⟨j+1,HJL.out,rfl,trivial,HNO3.out⟩
       case measure=>simp[intOf];have:=HJL.out;omega
      case pos =>
       have hb1:(kk==[99,111,117,110,116])=true:=by rw[hkc];rfl
       have HKA:=hid (show Xrq zk Qk j from⟨hjl,by rw[HKK.out hjl];exact hkc,fun i hi=>HNO2.out i (Nat.lt_trans hi hjl) hi⟩);have HHK:=hid (show Jy (zn,zk) Qk=true from by
        unfold Jy;exact List.any_eq_true.2 ⟨zk[j]'hjl,List.getElem_mem hjl,by rw[HKK.out hjl,hkc];simp⟩)
       have HMAY:=hid (show Kr (zn,zk)=true from by
        obtain⟨hx,hzx⟩:=HZX.out
        have hm:(zs[x]'hx).1∈zs.map (·.1):=List.mem_map_of_mem (List.getElem_mem hx);rw[HZM.out,←hzx]at hm;exact List.all_eq_true.1 (Zy HL1.out).1 _ hm)
       have hws:w.heap.size≤w7.heap.size:=B7.out.size;have HB5:=hid (lt_of_block F7.out);clear hx hjl hkc HNO2
       by_cases hvo:kv=Xv
       case pos =>
        have hb2:(kv==[111,116,104,101,114])=true:=by rw[hvo];rfl
        have HSF:=hid (show Nl (zs.map (·.1)) x (zn,zk)=[]from by
         unfold Nl;rw[if_pos ((Zhy HMAY.out HKA.out).2 (by rw[HKV.out HKA.out.1,hvo]))])
        clear hvo
        gi_wp2
        obtain⟨hx,hzx⟩:=HZX.out
        refine⟨KeepsFrom.refl _ _,rfl,pre,x,hx,rfl,HPRE.out,by rw[←hzx];exact HHK.out,HI.out.mono hws,HB5.out,hws,_,bk HI.out F7.out,?_⟩
        rw[←hzx,HSF.out,List.append_nil];exact Qz O7.out HI.out
       case neg =>
        have hb2:(kv==[111,116,104,101,114])=false:=beq_eq_false_iff_ne.2 hvo;have HSF:=hid (show Nl (zs.map (·.1)) x (zn,zk)=(Zw ((zs.map (·.1)).set x (zn,zk.set j (Qk,Xv)))).toList from by
         unfold Nl;rw[if_neg (fun e=>hvo (by rw[←HKV.out HKA.out.1];exact(Zhy HMAY.out HKA.out).1 e)),Zmw HMAY.out HKA.out])
        clear hvo
        obtain⟨hx,hzx⟩:=HZX.out
        have hOW:=OWN.out.below HI.out
        obtain⟨g0,rfl⟩:=Qg.some' hOW (by intro e;rw[e]at hx;exact absurd hx (by simp))
        have TS:=hid (show RdL Qm (wr.setCell ⟨g,j * 2+1,none⟩ (.string ⟨#[111,116,104,101,114]⟩)) (.slice (some ⟨g0,0,none⟩) zs.length cp1) (zs.set x ((zn,zk.set j (Qk,Xv)),(some ⟨g,0,none⟩,zc)))∧
          (∀z∈zs.set x ((zn,zk.set j (Qk,Xv)),(some ⟨g,0,none⟩,zc)),RdP (wr.setCell ⟨g,j * 2+1,none⟩ (.string ⟨#[111,116,104,101,114]⟩)) (Qr z) z.1.2)from by
         have h:=Xdq (v:=Xv) (i:=j) (x:=x) hOW rfl (fun z hz=>Qz (EACH.out z hz) HI.out) DIS.out hx (g:=g) (c:=zc) (by rw[←hzx]) (by rw[←hzx];exact HKA.out.1);simp only[←hzx]at h;have hk:(zk[j]'HKA.out.1).1=Qk:=HKA.out.2.1;rw[hk]at h;exact h)
        obtain⟨zs2,hzs2⟩:∃zs2,zs2=zs.set x ((zn,zk.set j (Qk,Xv)),(some (⟨g,0,none⟩:Addr),zc)):=⟨_,rfl⟩
        rw[←hzs2]at TS;have hm2:zs2.map (·.1)=(zs.map (·.1)).set x (zn,zk.set j (Qk,Xv)):=by rw[hzs2,List.map_set]
        rw[←hm2]at HSF;have HM2:=hid (show ∀z∈zs2,Kr z.1=true∧(Qp z.1).length≤1073741824 from by
         rw[hzs2];refine Qgy (fun z hz=>?_) ⟨?_,?_⟩
         ·have hm:z.1∈l1:=by rw[←HZM.out];exact List.mem_map_of_mem hz
          exact⟨List.all_eq_true.1 (Zy HL1.out).1 _ hm,by have:=Dt HL1.out hm;omega⟩
         ·have:=other_may HMAY.out
          rwa [Zmw HMAY.out HKA.out]at this
         ·refine Xdz (x:=(zn,zk)) j ?_;have hm:(zs[x]'hx).1∈l1:=by rw[←HZM.out];exact List.mem_map_of_mem (List.getElem_mem hx)
          rw[←hzx]at hm;exact Dt HL1.out hm)
        have HL2:=hid (show zs2.length≤64 from by rw[hzs2,List.length_set];exact HZ.out)
        obtain⟨cg,hcg⟩:=HG.out
        have hne3:b3≠g:=fun e=>by
         have:=bk HI.out Y7.out
         rw[e,hcg]at this;cases this
        have hne5:sb+1≠g:=fun e=>by
         have:=bk HI.out F7.out
         rw[e,hcg]at this;cases this
        have Y8:=hid ((heap_setCell_other wr ⟨g,j * 2+1,none⟩ b3 (.string ⟨#[111,116,104,101,114]⟩) hne3).trans (bk HI.out Y7.out));have F8:=hid ((heap_setCell_other wr ⟨g,j * 2+1,none⟩ (sb+1) (.string ⟨#[111,116,104,101,114]⟩) hne5).trans (bk HI.out F7.out));have O8:=hid (show Qt (wr.setCell ⟨g,j * 2+1,none⟩ (.string ⟨#[111,116,104,101,114]⟩)) w.heap.size _ L from Qb (Qz O7.out HI.out) (Qx (Qz O7.out HI.out) hcg (by decide)) _ _);have B8:=hid ((HI.out.mono hws).setCell (p:=⟨g,j * 2+1,none⟩) HGB.out (.string ⟨#[111,116,104,101,114]⟩));have K8:=hid (KeepsOthers.setCell wr ⟨g,j * 2+1,none⟩ (.string ⟨#[111,116,104,101,114]⟩));have y0:(wr.setCell ⟨g,j * 2+1,none⟩ (.string ⟨#[111,116,104,101,114]⟩)).cell? ⟨b3,0,none⟩=some (.slice (some ⟨g0,0,none⟩) zs.length cp1):=cR Y8.out;have yl:=lt_of_block Y8.out;have hln2:zs2.length=zs.length:=by rw[hzs2,List.length_set]
        have PR:=hid (Qrj (wr.setCell ⟨g,j * 2+1,none⟩ (.string ⟨#[111,116,104,101,114]⟩)) (.slice (some ⟨g0,0,none⟩) zs.length cp1) zs2 TS.out.1 TS.out.2 HM2.out (by have:=HL2.out;omega));have PG:=hid hcg;have HX2:=hid (show ∃hx:x<zs.length,((zn,zk),(some (⟨g,0,none⟩:Addr),zc))=zs[x]'hx from⟨hx,hzx⟩);clear hx hzx hOW hzs2 hm2 hcg hne3 hne5 hln2 TS HM2
        cases hpr:Zw (zs2.map (·.1)) with
        |none =>
         rw[show Rn (zs2.map (·.1))=3 by unfold Rn;rw[hpr];rfl]at PR;rw[hpr]at HSF;have HSF2:=hid (show Nl (zs.map (·.1)) x (zn,zk)=[]from HSF.out);clear hpr
         gi_wp2
         refine⟨trivial,CallsIn.inRound l (callsIn_wide.2 (PR.out.mono ?_))⟩
         rintro e W2 ⟨rfl,hb2⟩;have F9:=hid (bk hb2 F8.out);have O9:=hid (show Qt W2 w.heap.size _ L from Qz O8.out hb2);have B9:=hid (B8.out.trans (hb2.mono (Nat.le_trans hws B8.out.size)));have K9:=hid (K8.out.trans (KeepsOthers.of_grownBy (Jv hb2) (fun j o e=>by cases e)));clear hb2 y0 yl F8 O8 B8 K8
         gi_wp2
         obtain⟨hx,hzx⟩:=HX2.out
         refine⟨K9.out.from _,rfl,pre,x,hx,rfl,HPRE.out,by rw[←hzx];exact HHK.out,B9.out,HB5.out,hws,_,F9.out,?_⟩
         rw[←hzx,HSF2.out,List.append_nil];exact O9.out
        |some q =>
         rw[show Rn (zs2.map (·.1))=0 by unfold Rn;rw[hpr];rfl,show Ub (zs2.map (·.1))=q by unfold Ub;rw[hpr];rfl]at PR;rw[hpr]at HSF;have HSF2:=hid (show Nl (zs.map (·.1)) x (zn,zk)=[q]from HSF.out);clear hpr
         gi_wp2
         refine⟨trivial,CallsIn.inRound l (callsIn_wide.2 (PR.out.mono ?_))⟩
         rintro e W2 ⟨rfl,hb2⟩;have F9:=hid (bk hb2 F8.out);have O9:=hid (show Qt W2 w.heap.size _ L from Qz O8.out hb2);have B9:=hid (B8.out.trans (hb2.mono (Nat.le_trans hws B8.out.size)));have K9:=hid (K8.out.trans (KeepsOthers.of_grownBy (Jv hb2) (fun j o e=>by cases e)));have HWB:=hid (Nat.le_trans hws B9.out.size);clear hb2 y0 yl F8 O8 B8 K8;have x0:W2.cell? ⟨sb+1,0,none⟩=some (.slice a5 L.length c5):=cR F9.out;have xf:=frozen_of_row _ _ 0 _ _ F9.out;have xl:=lt_of_block F9.out
         gi_wp2_with (gi_at_builtin;refine Qtz rfl (.tmp 85) (.tmp 87) rfl w.heap.size (.slice a5 L.length c5) L q rfl O9.out rfl (by have:=HLL.out;omega) HWB.out ?_;intro v6 w6 own6 gr6 mv6;obtain⟨a6,c6,rfl⟩:=Zc own6;have NE6:=Qx O9.out F9.out (by decide);have F10:=hid ((gr6.block _ (lt_of_block F9.out) (fun e=>NE6 e.symm)).trans F9.out);have O10:=hid (show Qt w6 w.heap.size _ (L++[q])from own6);have B10:=hid (B9.out.grown gr6 HWB.out (fun k e=>(World.ownsRow.lt O9.out k e).1));have K10:=hid (K9.out.trans (KeepsOthers.of_grownBy gr6 (Zhh O9.out)));clear own6 gr6 mv6 NE6 x0 xf xl;have x0:w6.cell? ⟨sb+1,0,none⟩=some (.slice a5 L.length c5):=(by rw[cell_of_row _ _ _ _ _ _ F10.out];rfl);have xf:=frozen_of_row _ _ 0 _ _ F10.out;have xl:=lt_of_block F10.out)
         obtain⟨hx,hzx⟩:=HX2.out
         have o10:=O10.out;simp only[List.length_append,List.length_cons,List.length_nil,Nat.zero_add]at o10
         refine⟨(K10.out.trans (KeepsOthers.setCell _ _ _)).from _,rfl,pre,x,hx,rfl,HPRE.out,by rw[←hzx];exact HHK.out,B10.out.setCell (p:=⟨sb+1,0,none⟩) NE.out.2.2 _,HB5.out,hws,.slice a6 (L.length+1) c6,heap_setCell_same _ _ _ _ _ _ F10.out,?_⟩
         rw[←hzx,HSF2.out];exact Qb o10 (Qx o10 F10.out (by decide)) _ _
   case done =>
    rintro D xs W hD hxs hI hK;refine absurd ?_ HNO.out;intro y hy;rw[←HZM.out]at hy
    obtain⟨z,hz,rfl⟩:=List.mem_map.1 hy
    obtain⟨k,hk,rfl⟩:=List.getElem_of_mem hz
    have:=hI.2 k (Xxg hxs k hk)
    rwa [List.getD_eq_getElem?_getD,List.getElem?_eq_getElem hk]at this
   case stop =>
    rintro D c pre W hD hSp ⟨rfl,pre',x,hx,rfl,h2,h3,hb,h5,h6,v,hrow,hown⟩ hK;have HOT:=hid (show Tf p1=Nl (zs.map (·.1)) x (zs[x]'hx).1 from by
     have hx':x<l1.length:=by rw[←HZM.out,List.length_map];exact hx
     have he:l1[x]'hx'=(zs[x]'hx).1:=by simp only[←HZM.out,List.getElem_map]
     have hs:=Zhv hSp hx
     have:=Xdx HL1.out hx' (by rw[he];exact h3) (fun m hm hlt=>by
      have hm2:m<zs.length:=by rw[←HZM.out,List.length_map]at hm;exact hm
      have h4:=h2 m (hs m hlt hm2);rw[List.getD_eq_getElem?_getD,List.getElem?_eq_getElem hm2]at h4;have he2:l1[m]'hm=(zs[m]'hm2).1:=by simp only[←HZM.out,List.getElem_map]
      rw[he2];exact h4)
     rw[he,←HZM.out]at this;exact this)
    have HTL:=hid (show(Nl (zs.map (·.1)) x (zs[x]'hx).1).length≤1 from by
     unfold Nl
     split
     ·simp
     ·cases Zw _ <;> simp)
    obtain⟨T,hT⟩:∃T,T=Nl (zs.map (·.1)) x (zs[x]'hx).1:=⟨_,rfl⟩
    rw[←hT]at HOT HTL hown;clear hT h2 h3 hSp hx
    obtain⟨M,hM⟩:∃M,M=L++T:=⟨_,rfl⟩
    rw[←hM]at hown;have HM:=hid hM;have HML:=hid (show M.length≤3 from by rw[hM,List.length_append];have:=HLL.out;have:=HTL.out;omega);clear hM
    obtain⟨a9,c9,rfl⟩:=Zc hown
    have OW:=hid hown;have RW:=hid hrow;have KD:=hid hK;have HWB:=hid (Nat.le_trans h6 hb.size);have BW:=hid (B7.out.trans hb);have HD:=hid (Nat.le_trans B7.out.size hD);clear hb h5 h6 hown hrow hK;have x0:W.cell? ⟨sb+1,0,none⟩=some (.slice a9 M.length c9):=cR RW.out;have xl:=lt_of_block RW.out;subst ha0;refine wpIn_wide.2 ?_
    go_wp2_with (at_builtin;refine Zz rfl (.tmp 90) (.tmp 92) rfl w.heap.size (.slice a9 M.length c9) M bare rfl OW.out rfl (by have:=HML.out;omega) HWB.out ?_;intro v6 w6 own6 gr6 mv6;obtain⟨a6,c6,rfl⟩:=Zc own6;have O10:=hid (show Qt w6 w.heap.size _ (M++[bare])from own6);have B10:=hid (BW.out.grown gr6 HWB.out (fun k e=>(World.ownsRow.lt OW.out k e).1));have K10:=hid ((KeepsOthers.of_grownBy gr6 (Zhh OW.out)).same D _ KD.out rfl);clear own6 gr6 mv6 x0 xl)
    rw[Exit.noGoto_ret]
    refine⟨by simp,.inl ⟨_,_,rfl,run_takeDeferred K10.out,?_⟩⟩
    have o10:=O10.out;simp only[List.length_append,List.length_cons,List.length_nil,Nat.zero_add]at o10
    refine⟨.slice a6 (M.length+1) c6,?_,⟨_,rfl,?_,?_⟩⟩
    ·simp[results,Tryz.f12,go_sem]
    ·rw[SE.out,TY.out,HOT.out,←List.append_assoc,←HM.out];exact Xjw o10 (grownBy_putObj' w6 D (.deferred none)) (fun r e=>by cases e;exact⟨_,K10.out,rfl⟩)
    ·exact B10.out.trans (belowK_b (w:=w) (Nat.le_refl _) _ D _ _ HD.out K10.out rfl rfl)
end
section
open Go.RowKit Go.Lib Go.Sort
theorem Xjy (w:World)(va vb:Value)(l:List Str)(ha:RdS w va l)(hb:RdS w vb l) :
  Calls Tryz.prog 13 #[va,vb] w fun e w'=>e=.returned (.bool true)∧Below w.heap.size w w':=by
 obtain⟨av,cv,rfl,hav,hsa⟩:=ha
 obtain⟨bv,dv,rfl,hbv,hsb⟩:=hb
 have HSA:=hid hsa;have HSB:=hid hsb;clear hsa hsb
 go_enter Tryz.func13,Tryz.ntmps13
 go_wp2_with fail
 go_loopg[13] l.length (fun g vi W=>∃n:Nat,n≤l.length∧l.length≤n+g∧vi=.int .i64 n∧∃k:Nat,W=w.drewN k)
 case atStart=>exact⟨0,Nat.zero_le _,by omega,rfl,0,rfl⟩
 case round =>
  obtain⟨n,hn,hg,rfl,nq1,rfl⟩:=hrel
  have HG:=hid hg;clear hg
  by_cases hlt:n<l.length
  ·have hne:l≠[]:=by intro e;rw[e]at hlt;simp at hlt
   obtain⟨p1,o1,rfl,hp1,hc1⟩:=HSA.out hne
   obtain⟨p2,o2,rfl,hp2,hc2⟩:=HSB.out hne
   have q1:=hc1 n _ (List.getElem?_eq_getElem hlt);have q2:=hc2 n _ (List.getElem?_eq_getElem hlt)
   obtain⟨x,hx⟩:∃x,x=l[n]:=⟨_,rfl⟩
   rw[←hx,S]at q1 q2;clear hc1 hc2 hx hne;have hni:(n:Int)<(l.length:Int):=by omega
   have hn0:(0:Int)≤(n:Int):=by omega
   have hb1:(x==x)=true:=by simp
   have hb2:(x != x)=false:=by simp
   go_wp2_with fail
   go_quiet (fail)
   go_wp2_with fail
   go_roundg (gk-1)
   case measure=>have:=HG.out;omega
   case rel=>exact⟨n+1,by omega,by have:=HG.out;omega,by simp,_,rfl⟩
  ·go_wp2_with fail
   go_ret
   exact⟨rfl,below_drewN (Below.refl _ _) _⟩
end
section
open Go.RowKit Go.Lib Go.Sort Go.Maps Go.WideMaps
theorem Xdj (p:Str):(Hz p).length≤4:=by
 cases h:Zv p with
 |false=>rw[Qkq h];simp
 |true =>
  rw[Xjz h];have h1:(Qh p Vd).toList.length≤1:=by cases Qh p Vd <;> simp
  simp only[List.length_append,List.length_cons]
  cases Qh ((Qh p Vd).getD p) Qk with
  |none=>simp only[List.length_nil];omega
  |some b =>
   simp only[List.length_append,List.length_cons,List.length_nil]
   cases Cc ((Qh p Vd).getD p) with
   |none=>simp only[List.length_nil];omega
   |some q =>
    simp only
    split
    ·simp only[List.length_nil];omega
    ·simp only[List.length_cons,List.length_nil];omega
theorem ext_minS (s:Str)(k:Nat):ByteArray.extract ⟨s.toArray⟩ 0 (min (s.length:Int) ((k:Nat):Int)).toNat=⟨(s.take k).toArray⟩:=by
 rw[Gw]
 congr 2
 rw[List.drop_zero,Nat.sub_zero]
 by_cases h:s.length≤k
 ·rw[show(min (s.length:Int) (k:Int)).toNat=s.length by omega,List.take_of_length_le (by simp),List.take_of_length_le h]
 ·rw[show(min (s.length:Int) (k:Int)).toNat=k by omega]
theorem sdw14_any (w:World)(path:Str)(hpath:path.length≤maxLen)(WK:Calls Tryz.prog 6 #[] w fun e w'=>e=.returned (.bool true)∧Below w.heap.size w w') :
  Calls Tryz.prog 4 #[.string ⟨path.toArray⟩] w fun e w'=>e=.returned (.bool true)∧Below w.heap.size w w':=by
 have WKH:=hid WK;have HE6:=hid (ext_minS path 600);have HQ6:=hid (show(path.take 600).length≤maxLen from Nat.le_trans (by rw[List.length_take];omega) hpath);have hm1:(0:Int)≤min (path.length:Int) 600:=by omega
 have hm2:min (path.length:Int) 600≤(path.length:Int):=by omega
 clear WK hpath
 go_enter Tryz.func4,Tryz.ntmps4
 go_wp2_with fail;refine WKH.out.mono ?_;rintro e w1 ⟨rfl,hb1⟩;have B1:=hid hb1;clear hb1 WKH;go_upto_region 4 with fail;rw[show ByteArray.extract ⟨path.toArray⟩ 0 (min (path.length:Int) 600).toNat=⟨(path.take 600).toArray⟩from HE6.out];clear HE6 hm1 hm2;generalize path.take 600=q at *;have RS:=hid (rside_any w1 q HQ6.out);have SW:=hid (fun W=>Zmy W q HQ6.out);have HL4:=hid (Xdj q);generalize Hz q=L at *;go_wp2_with fail;refine RS.out.mono ?_;rintro e w2 ⟨vw,rfl,ow,hb2⟩;have OW:=hid ow;have B2:=hid (B1.out.then hb2)
 obtain⟨aw,cw,rfl⟩:=Zc ow
 clear ow hb2 RS;go_wp2_with fail
 go_loopg[4] 2 (fun g v4 W=>∃k:Nat,k≤2∧2≤k+g∧v4=.int .i64 k∧Below w2.heap.size w2 W)
 case atStart=>exact⟨0,Nat.zero_le _,by omega,rfl,Below.refl _ _⟩
 case round =>
  obtain⟨k,hk,hg,rfl,hb⟩:=hrel
  rename World=>w3
  obtain⟨go,hgo⟩:∃go,go=gk:=⟨_,rfl⟩
  have HGO:=hid hgo;have HG:=hid (show 2≤k+go by rw[hgo];exact hg);have B3:=hid hb;clear hg hb hgo
  by_cases hlt:k<2
  ·have hki:(k:Int)<2:=by omega
   have hk0:(0:Int)≤(k:Int):=by omega
   have SW3:=hid (SW.out w3);go_wp2_with fail;refine SW3.out.mono ?_;rintro e w4 ⟨vl,rfl,ol,hb4⟩;have TX:=hid (Xjy w4 vl _ L (Qt.rd ol) (Qt.rd (Qz OW.out (B3.out.then hb4))));have OLl:=hid ol;have B4:=hid hb4
   obtain⟨al,cl,rfl⟩:=Zc ol
   clear ol hb4 SW3;go_wp2_with fail;refine TX.out.mono ?_;rintro e w5 ⟨rfl,hb5⟩;have OL5:=hid (Qz OLl.out hb5);have B5:=hid (B4.out.then hb5);clear hb5 TX OLl;have HLZ:=hid (show L.length≤4 from HL4.out);have B2w:=hid B3.out;go_wp2_with fail
   go_loopg[28] L.length (fun g v28 W=>∃(m:Nat) (M:List Str),m≤L.length∧L.length≤m+g∧v28=.int .i64 m∧M.length=L.length∧Qt W w3.heap.size (.slice al L.length cl) M∧Below w3.heap.size w3 W)
   case atStart=>exact⟨0,L,Nat.zero_le _,by omega,rfl,rfl,OL5.out,B5.out⟩
   case round =>
    obtain⟨m,M,hm,hg2,rfl,hml,ho,hb⟩:=hrel
    rename World=>w6
    have HG2:=hid hg2;have HML:=hid hml;have OM:=hid ho;have B6:=hid hb;clear hg2 hml ho hb
    by_cases hlt2:m<L.length
    ·have hmi:(m:Int)<(L.length:Int):=by omega
     have hm0:(0:Int)≤(m:Int):=by omega
     have hlz:(L.length:Int)≤4:=by have:=HLZ.out;omega
     have hmM:m<M.length:=by rw[HML.out];exact hlt2
     have hso:=Xbw.2 (show Qt w6 w3.heap.size (.slice al M.length cl) M by rw[HML.out];exact OM.out)
     obtain⟨ga,rfl⟩:=Qg.some' hso (by intro e;rw[e]at hmM;simp at hmM)
     obtain⟨r0,rf,gl⟩:=hso.cell m 0 (.string ⟨(M[m]'hmM).toArray⟩) hmM rfl
     have HST:=hid (Qg.set hso rfl m 0 hmM (by decide) (.string ⟨#[33]⟩) [33] rfl rfl);rw[Nat.mul_one,Nat.add_zero]at r0 rf HST;have HGE:=hid ((World.ownsRow.lt hso ga rfl).1);have HSB:=hid (show Below w3.heap.size w3 (w6.setCell ⟨ga,m,none⟩ (.string ⟨#[33]⟩))from B6.out.setCell (p:=⟨ga,m,none⟩) HGE.out _);clear hso;go_wp2_with fail
     go_roundg (gk-1)
     case measure=>have:=HG2.out;omega
     case rel =>
      refine⟨m+1,M.set m [33],by omega,by have:=HG2.out;omega,by simp,by rw[List.length_set];exact HML.out,?_,HSB.out⟩
      have h:=Xbw.1 HST.out
      rwa [HML.out]at h
    ·have hmi:¬(m:Int)<(L.length:Int):=by omega
     have BE:=hid (B2w.out.then B6.out);go_wp2_with fail
     go_roundg (go-1)
     case measure=>have:=HG.out;have:=HGO.out;omega
     case rel=>exact⟨k+1,by omega,by have:=HG.out;have:=HGO.out;omega,by simp,BE.out⟩
  ·have hki:¬(k:Int)<2:=by omega
   have BE:=hid (B2.out.then B3.out);go_wp2_with fail;exact bodyPost_ret (v:=.bool true) (by simp[results,Tryz.results4,go_sem]) rfl ⟨rfl,BE.out⟩
end
end Go.Proofs.YtbbmdbolkicpcabGreatDoor
