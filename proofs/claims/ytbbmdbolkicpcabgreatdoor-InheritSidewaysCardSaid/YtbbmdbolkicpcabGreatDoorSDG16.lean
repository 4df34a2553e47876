/- TbAlias, TbSame, TbWithin, PtEnds, PtBack, PtWithout0, RegInv, AlFind, AlAll -/
import Derived.Test.YtbbmdbolkicpcabGreatDoorSDG15
import Derived.Test.YtbbmdbolkicpcabGreatDoorSDG11
import Derived.Test.YtbbmdbolkicpcabGreatDoorSDG12
import Derived.RangeFuncCalls
import Derived.RangeFuncNested
import Derived.RegionIn
import Derived.BigRegionIn
import Derived.Orders
import Derived.OrdersHeld
import Derived.Test.YtbbmdbolkicpcabGreatDoorSDG07
import Derived.Test.YtbbmdbolkicpcabGreatDoorSDG09
import Derived.Test.YtbbmdbolkicpcabGreatDoorSDG05
import Derived.Test.YtbbmdbolkicpcabGreatDoorSDShelf
set_option maxRecDepth 100000
set_option maxHeartbeats 32000000
set_option linter.unusedVariables false
set_option linter.unusedSimpArgs false
namespace Go.Proofs.YtbbmdbolkicpcabGreatDoor
section
open Go.RowKit Go.Lib Go.Sort Go.Maps Go.WideMaps
theorem Zyj {α:Type} [BEq α] [LawfulBEq α]:∀(l R:List α),l.Nodup→(∀x∈l,x∈R)→l.length≤R.length
 |[],R,_,_=>Nat.zero_le _
 |x::l,R,hn,hs=>by
  rw[List.nodup_cons]at hn;have hx:=hs x List.mem_cons_self;have h2:=Zyj l (R.erase x) hn.2 fun y hy=>(List.mem_erase_of_ne (fun e=>hn.1 (by rw[←e];exact hy))).2 (hs y (List.mem_cons_of_mem _ hy))
  rw[List.length_erase_of_mem hx]at h2
  have:0<R.length:=List.length_pos_of_mem hx
  rw[List.length_cons];omega
theorem Qry {w:World}{ops:Array Oper}{rest:List Oper}{o:Oper}{a:Act}{Q:Exit→Act→World→Prop}(hg:o.guard=none)(it:Operand)(hop:o.op=Op.next it false)
  (b r n:Nat)(m:DataW Unit)(left:Lit→Bool)(cnt:Nat)(hit:a.eval it=.pointer (some ⟨r,0,none⟩))(h:w.ranges Tryz.prog 9 Xyv b r n m left cnt)
  (hDone:cnt=0→(∀kl,left kl=false)→wpList Tryz.prog ops Q rest (a.put o.dst (.tuple #[.bool false])) w)
  (hMore:∀(x:Str)(ct:Str)(cf ca:Int)(w':World)(cnt':Nat),x.length≤maxLen→left (.string x)=true→(∀zd,m.atKey (.string x) zd=sdD (ct,cf,ca))→w'.ranges Tryz.prog 9 Xyv b r n m (fun z=>left z&&!z.sameKey (.string x)) cnt'→cnt'<cnt →
   w.grownBy w' (some r)→w'.heap.size=w.heap.size→(Instr.entry (.pointer (some ⟨r,0,none⟩))).run Tryz.prog w'=.ok (.tuple #[.string ⟨x.toArray⟩,.agg #[.string ⟨ct.toArray⟩,.int .i64 cf,.int .i64 ca]]) w'→wpList Tryz.prog ops Q rest (a.put o.dst (.tuple #[.bool true,.string ⟨x.toArray⟩,.agg #[.string ⟨ct.toArray⟩,.int .i64 cf,.int .i64 ca]])) w') :
  wpList Tryz.prog ops Q (o::rest) a w :=
 wpList_next_ranges w hg it hop 9 Ztv Xyv (fun s:Str=>Value.string ⟨s.toArray⟩) sdV
  (fun key kl hkey=>by obtain⟨s,rfl,_⟩:=string_of_keyOf Tryz.underlying9 hkey;exact⟨s.data.toList,rfl⟩)
  (fun v y hv=>by obtain⟨c,rfl,_⟩:=Gm.inv hv;exact⟨c,rfl⟩)
  b r n m left cnt hit h hDone (fun x c kl y w' cnt' hkey hlk hv hat hrg hlt hgr hsz hen=>by
   obtain⟨s,e1,e2,hs⟩:=string_of_keyOf Tryz.underlying9 hkey
   cases e1;subst e2
   obtain⟨c',ec,rfl⟩:=Gm.inv (show Gm.rd (Gm.v c)=some y from hv)
   have:c=c':=Gm.inj (by
    have h1:=Gm.ok c;have h2:=Gm.ok c';rw[show Gm.v c=Gm.v c' from ec,h2]at h1
    exact((Prod.mk.inj (Option.some.inj h1)).1).symm)
   subst this
   obtain⟨ct,cf,ca⟩:=c
   exact hMore x ct cf ca w' cnt' (by have:=hs;rw[Lib.size_eq]at this;exact this) hlk hat hrg hlt hgr hsz hen)
def alP (t:Tb):List (Str×Str):=t.als.map fun r=>(r.path,r.text)
def Xzj (a b:Str×Str):Bool:=decide (a.1≤b.1)
def Vc (t:Tb):List (Str×Str):=(alP t).mergeSort Xzj
theorem Xzk:∀{l m:List (Str×Str)},l.Perm m→(l.map (·.1)).Nodup→l.Pairwise (fun a b=>¬b.1<a.1)→m.Pairwise (fun a b=>¬b.1<a.1)→l=m
 |l,m,hp,hn,h1,h2=>by
  refine List.Perm.eq_of_pairwise (le:=fun a b=>¬b.1<a.1) (fun a b ha hb hab hba=>?_) h1 h2 hp;have e:a.1=b.1:=List.le_antisymm (by simpa using hab) (by simpa using hba);have hb':b∈l:=hp.mem_iff.2 hb
  obtain⟨i,hi,rfl⟩:=List.getElem_of_mem ha
  obtain⟨j,hj,rfl⟩:=List.getElem_of_mem hb'
  by_cases hij:i=j
  ·subst hij;rfl
  ·exfalso
   have hk:=fun i j hi hj hij=>(List.pairwise_iff_getElem.1 hn) i j hi hj hij
   rcases Nat.lt_or_gt_of_ne hij with hl|hl
   ·exact hk i j (by simpa using hi) (by simpa using hj) hl (by simpa using e)
   ·exact hk j i (by simpa using hj) (by simpa using hi) hl (by simpa using e.symm)
theorem Qhg (t:Tb):(Vc t).Pairwise (fun a b=>¬b.1<a.1):=by
 have:=List.pairwise_mergeSort (le:=Xzj) (fun a b c h1 h2=>by simp only[Xzj,decide_eq_true_eq]at *;exact List.le_trans h1 h2) (fun a b=>by simp only[Xzj,Bool.or_eq_true,decide_eq_true_eq];exact List.le_total a.1 b.1) (alP t)
 exact this.imp fun {a b} h=>by simpa[Xzj]using h
theorem Zqx (t:Tb):(Vc t).Perm (alP t):=List.mergeSort_perm _ _
theorem Qrh (t:Tb):(alP t).map (·.1)=t.als.map (·.path):=by unfold alP;rw[List.map_map];rfl
theorem Xzv {t:Tb}(ok:Fx t){l:List (Str×Str)}(hp:l.Perm (alP t))(hs:l.Pairwise (fun a b=>¬b.1<a.1)):l=Vc t :=
 Xzk (hp.trans (Zqx t).symm) (by rw[(hp.map _).nodup_iff,Qrh];exact ok.als) hs (Qhg t)
theorem alP_len (t:Tb):(alP t).length=t.als.length:=by unfold alP;rw[List.length_map]
structure Xnv (w:World)(t:Tb)(ba n:Nat)(m:DataW Unit)(g:Nat)(vl:Value)(W:World)(left:Lit→Bool)(cnt:Nat)(l:List (Str×Str)):Prop where
 rng:W.ranges Tryz.prog 9 Xyv ba w.heap.size n m left cnt
 gas:cnt≤g
 own:Qd W (w.heap.size+1) vl l
 nd:l.Nodup
 mem:∀p,p∈l↔p∈alP t∧left (.string p.1)=false
 bel:Below w.heap.size w W
theorem Xnv.len {w W:World}{t:Tb}{ba n g cnt:Nat}{m:DataW Unit}{vl:Value}{left:Lit→Bool}{l:List (Str×Str)}(h:Xnv w t ba n m g vl W left cnt l):l.length≤(alP t).length :=
 Zyj l (alP t) h.nd fun x hx=>((h.mem x).1 hx).1
theorem als_mem {t:Tb}(ok:Fx t){l:List (Str×Str)}{left:Lit→Bool}{x ct:Str}{cf ca:Int}(hm:∀p,p∈l↔p∈alP t∧left (.string p.1)=false)(hl:left (.string x)=true)(hlk:Zb (sdL t.als) x=some (ct,cf,ca)) :
  (x,ct) ∉ l∧∀p,p∈l++[(x,ct)]↔p∈alP t∧(left (.string p.1)&&!(Lit.string p.1).sameKey (.string x))=false:=by
 refine⟨fun h=>(by have:=((hm _).1 h).2;rw[hl]at this;cases this),fun p=>?_⟩
 have hs:(Lit.string p.1).sameKey (.string x)=decide (p.1=x):=by
  by_cases e:p.1=x
  ·rw[e];simp[Lit.sameKey]
  ·rw[sameKey_ne (fun h=>e (by simpa using h))];simp[e]
 have hin:(x,ct)∈alP t:=by
  have:=Eb hlk
  unfold sdL at this
  obtain⟨r,hr,e⟩:=List.mem_map.1 this
  simp only[Qhv,Prod.mk.injEq]at e;exact List.mem_map.2 ⟨r,hr,by rw[e.1,e.2.1]⟩
 have hone:∀q∈alP t,q.1=x→q=(x,ct):=by
  intro q hq e;have hn:((alP t).map (·.1)).Nodup:=by rw[Qrh];exact ok.als
  have h1:=Ed hn hq;have h2:=Ed hn hin;rw[e]at h1;simp only at h2;rw[h1]at h2
  obtain⟨q1,q2⟩:=q
  simp only at e h2;rw[e,Option.some.inj h2]
 rw[List.mem_append,hm,List.mem_singleton,hs]
 constructor
 ·rintro(⟨h1,h2⟩|rfl)
  ·exact⟨h1,by rw[h2];rfl⟩
  ·exact⟨hin,by simp⟩
 ·rintro⟨h1,h2⟩
  by_cases e:p.1=x
  ·right;exact hone p h1 e
  ·left
   refine⟨h1,?_⟩
   simpa[e]using h2
def OutP (w:World)(l:List (Str×Str))(e:Ending)(w':World):Prop:=∃v,e=.returned v∧Qd w' w.heap.size v l∧Below w.heap.size w w'
theorem Xzw {w:World}{B0 Bt bv ba bn bp N:Nat}{V:List (Str×Nat)}{t:Tb}(h:Yp B0 w Bt bv ba bn bp N V t)(ok:Fx t)(hsz:t.als.length≤1000) :
  Calls Tryz.prog 52 #[.pointer (some ⟨Bt,0,none⟩)] w fun e w'=>OutP w (Vc t) e w':=by
 obtain⟨t0,t1,t2,t3,tl⟩:=h.box
 obtain⟨m,hown,hat⟩:=h.at_.als
 have HOK:=hid ok;have HSZ:=hid (show(alP t).length≤1000 by rw[alP_len];exact hsz);have HAT:=hid hat;have HOWN:=hid hown;have hbm:=hown.lt;have HND:=hid (show(alP t).Nodup from by
  have:=ok.als
  rw[←Qrh,List.Nodup,List.pairwise_map]at this;exact this.imp fun h e=>h (by rw[e]))
 clear ok hsz hat hown
 go_enter Tryz.func52,Tryz.ntmps52
 go_wp2_with (at_range;refine wpList_range_own _ rfl _ 98 rfl 9 137 Ztv Tryz.underlying98 _ ba N m rfl HOWN.out ?_;intro w1 hrg0 hg0 hs0)
 go_frame
 have ST0:=hid (show Xnv w t ba N m (Maps.size m) (.slice none 0 0) w1 (Maps.has m) (Maps.size m) [] from⟨hrg0,Nat.le_refl _,World.ownsRow_nil _ _ _ _,List.nodup_nil,(fun p=>⟨fun h=>(by cases h),fun⟨h1,h2⟩=>by
   obtain⟨r,hr,rfl⟩:=List.mem_map.1 h1
   have h3:(Zb (sdL t.als) r.path).isSome=true:=Zvj (List.mem_map.2 ⟨(r.path,Qhv r),List.mem_map.2 ⟨r,hr,rfl⟩,rfl⟩)
   obtain⟨y,hy⟩:=Option.isSome_iff_exists.1 h3
   rw[has_true_of_atKey (y:=sdD y) (fun z=>by rw[HAT.out,hy];rfl)]at h2
   cases h2⟩),(Below.refl _ _).grown hg0 (Nat.le_refl _) (fun j hj=>by cases hj)⟩)
 clear hrg0 hg0 hs0 t0 t1 t2 t3 tl h
 obtain⟨NN,hN⟩:∃NN,NN=Maps.size m:=⟨_,rfl⟩
 have HN:=hid hN;clear hN
 go_loopg[3] NN (fun g vl W=>∃left cnt l,Xnv w t ba N m g vl W left cnt l)
 case atStart=>exact⟨_,_,_,by rw[HN.out];exact ST0.out⟩
 case round =>
  obtain⟨left,cnt,l,st⟩:=hrel
  rename World=>w2
  have ST:=hid st;clear st ST0
  go_wp2_with (at_next;refine Qry rfl _ rfl ba w.heap.size N m left cnt rfl ST.out.rng ?_ ?_)
  ·intro _ hl0;have HPM:=hid (show l.Perm (alP t) from(List.perm_ext_iff_of_nodup ST.out.nd HND.out).2 fun p=>by rw[ST.out.mem];simp[hl0]);have HOW:=hid ST.out.own;have HBL:=hid ST.out.bel;have hll:l.length≤1000:=by have:=ST.out.len;have:=HSZ.out;omega
   have HLL:=hid hll;clear hl0 hll ST;go_wp2_with fail
   refine(Xzx w2 _ _ l HOW.out HLL.out).mono ?_
   rintro e w3 ⟨rfl,⟨l2,hp,hs,own2⟩,hgr⟩;have hl2:=Xzv HOK.out (hp.trans HPM.out) hs;subst hl2;have HO2:=hid own2;have HB3:=hid (HBL.out.grown hgr HBL.out.size (fun j hj=>by have:=(World.ownsRow.lt HOW.out _ hj).1;omega));clear hp hs own2 hgr;go_wp2_with fail
   go_ret
   exact⟨_,rfl,Ks HO2.out (by omega),HB3.out⟩
  ·intro x ct cf ca w3 cnt1 hxl hlx hatx hrg1 hlt1 hg1 hs1 hen;have hlk:Zb (sdL t.als) x=some (ct,cf,ca):=by
    have h1:=hatx .nil;rw[HAT.out]at h1
    cases hl:Zb (sdL t.als) x with
    |some y=>rw[hl]at h1;rw[Gm.inj (show Gm.d y=Gm.d (ct,cf,ca)from h1)]
    |none=>rw[hl]at h1;cases h1
   have HMM:=hid (als_mem HOK.out ST.out.mem hlx hlk);have hown3:Qd w3 (w.heap.size+1) _ l:=World.ownsRow.kept ST.out.own hg1 (Or.inr fun e=>by have:=(World.ownsRow.lt ST.out.own _ e).1;omega);have HO3:=hid hown3;have HB3:=hid (ST.out.bel.grown hg1 ST.out.bel.size (fun j hj=>by cases hj;exact Nat.le_refl _));have HRG:=hid hrg1;have hll:l.length≤1000000:=by have:=ST.out.len;have:=HSZ.out;omega
   have HLL:=hid hll;have HS3:=hid (show w.heap.size+1≤w3.heap.size by have:=hrg1.lt;omega);have HC:=hid hlt1;clear hlk hown3 hll hatx hrg1 hlt1 hg1 hs1 hlx;go_upto_region 7 with fail;have HA:=hid (bal w3 (.cells #[.string ⟨ct.toArray⟩,.int .i64 cf,.int .i64 ca] 137));have GA:=hid (World.grownBy_alloc w3 (.cells #[.string ⟨ct.toArray⟩,.int .i64 cf,.int .i64 ca] 137) none);have Y4:=hid (heap_alloc_new w3 (.cells #[.string ⟨ct.toArray⟩,.int .i64 cf,.int .i64 ca] 137));generalize w3.alloc (.cells #[.string ⟨ct.toArray⟩,.int .i64 cf,.int .i64 ca] 137)=w4 at *
   obtain⟨y0,y1,y2,yl⟩:=Qn Y4.out
   have HO4:=hid (show Qd w4 (w.heap.size+1) _ l from Qz HO3.out HA.out);have HR4:=hid (HRG.out.kept GA.out (fun e=>by cases e) (fun e=>by cases e));have HB4:=hid (HB3.out.then HA.out);have HS4:=hid (Nat.le_trans HS3.out HA.out.size);clear HO3 HRG HB3 HA GA hen
   go_wp2_with (at_builtin;refine Xc rfl (.tmp 18) (.tmp 23) rfl (w.heap.size+1) _ l (x,ct) rfl HO4.out rfl HLL.out HS4.out ?_;intro v5 w5 own5 gr5 mv5)
   have HO5:=hid own5;have HR5:=hid (HR4.out.kept gr5 (fun e=>by have h1:=(World.ownsRow.lt HO4.out _ e.symm).1;omega) (fun e=>by have h1:=(World.ownsRow.lt HO4.out _ e.symm).1;omega));have HB5:=hid (HB4.out.grown gr5 HB4.out.size (fun j hj=>by have:=(World.ownsRow.lt HO4.out _ hj).1;omega));clear own5 gr5 mv5;go_wp2_with fail
   go_roundg (gk-1)
   case measure=>have:=ST.out.gas;have:=HC.out;omega
   case rel=>exact⟨_,cnt1,l++[(x,ct)],HR5.out,by have:=ST.out.gas;have:=HC.out;omega,HO5.out,by
    rw[List.nodup_append]
    exact⟨ST.out.nd,by simp,fun p hp q hq=>by rw[List.mem_singleton.1 hq];exact fun e=>HMM.out.1 (e▸hp)⟩,HMM.out.2,HB5.out⟩
end
section
open Go.RowKit Go.Lib Go.Sort Go.Maps Go.WideMaps
def TbP (B0:Nat)(W:World)(pt:Nat)(t:Tb):Prop:=∃bv ba bn bp N V,Yp B0 W pt bv ba bn bp N V t
section
variable {B0:Nat}{W W' : World}{pt:Nat}{t:Tb}
theorem TbP.below (h:TbP B0 W pt t)(hb:Below W.heap.size W W'):TbP B0 W' pt t:=by
 obtain⟨bv,ba,bn,bp,N,V,h⟩:=h
 exact⟨bv,ba,bn,bp,N,V,h.below hb⟩
theorem TbP.locales (h:TbP B0 W pt t)(ok:Fx t):Calls Tryz.prog 120 #[.pointer (some ⟨pt,0,none⟩)] W fun e w'=>Xhy W (Mp t.names) e w':=by
 obtain⟨bv,ba,bn,bp,N,V,h⟩:=h
 exact Zlw h ok
theorem TbP.paths (h:TbP B0 W pt t)(ok:Fx t)(loc:Str)(hl:loc.length≤maxLen):Calls Tryz.prog 28 #[.pointer (some ⟨pt,0,none⟩),.string ⟨loc.toArray⟩] W fun e w'=>Xhy W (Kv t loc) e w':=by
 obtain⟨bv,ba,bn,bp,N,V,h⟩:=h
 exact paths_any h ok loc hl
theorem TbP.aliases (h:TbP B0 W pt t)(ok:Fx t)(hs:t.als.length≤1000):Calls Tryz.prog 52 #[.pointer (some ⟨pt,0,none⟩)] W fun e w'=>OutP W (Vc t) e w':=by
 obtain⟨bv,ba,bn,bp,N,V,h⟩:=h
 exact Xzw h ok hs
theorem TbP.get (h:TbP B0 W pt t)(loc path:Str)(hl:loc.length≤maxLen)(hp:path.length≤maxLen):Calls Tryz.prog 92 #[.pointer (some ⟨pt,0,none⟩),.string ⟨loc.toArray⟩,.string ⟨path.toArray⟩] W fun e w'=>e=.returned (.tuple #[.string ⟨(Sl (Jk t.rows loc path)).toArray⟩,.bool (Jk t.rows loc path).isSome])∧Below W.heap.size W w':=by
 obtain⟨bv,ba,bn,bp,N,V,h⟩:=h
 exact get_any h loc path hl hp
end
structure SzT (t:Tb):Prop where
 names:∀s∈t.names,s.length≤maxLen
 rows:∀r∈t.rows,r.path.length≤maxLen
theorem Qrg {t:Tb}(h:SzT t){loc p:Str}(hp:p∈Kv t loc):p.length≤maxLen:=by
 have h1:=(Qjg _).mem_iff.1 hp
 obtain⟨r,hr,rfl⟩:=List.mem_map.1 h1
 exact h.rows r (List.mem_filter.1 hr).1
theorem names_sz {t:Tb}(h:SzT t){s:Str}(hp:s∈Mp t.names):s.length≤maxLen:=h.names s ((Qjg _).mem_iff.1 hp)
end
section
open Go.RowKit Go.Lib Go.Sort Go.Maps Go.WideMaps Go.Shelf
structure KpB (kb n0:Nat)(A B:World):Prop where
 size:A.heap.size≤B.heap.size
 low:∀k,k<n0→k≠kb→B.heap[k]?=A.heap[k]?
 high:∀k cs ty,n0≤k→A.heap[k]?=some (.cells cs ty (0,0))→B.heap[k]?=some (.cells cs ty (0,0))
theorem KpB.refl (kb n0:Nat)(A:World):KpB kb n0 A A:=⟨Nat.le_refl _,fun _ _ _=>rfl,fun _ _ _ _ h=>h⟩
theorem KpB.trans {kb n0:Nat}{A B C:World}(h:KpB kb n0 A B)(g:KpB kb n0 B C):KpB kb n0 A C :=
 ⟨Nat.le_trans h.size g.size,fun k h1 h2=>(g.low k h1 h2).trans (h.low k h1 h2),fun k cs ty h1 h2=>g.high k cs ty h1 (h.high k cs ty h1 h2)⟩
theorem KpB.of_below {kb n0:Nat}{A B:World}(h:Below A.heap.size A B)(hn:n0≤A.heap.size):KpB kb n0 A B :=
 ⟨h.size,fun k h1 _=>h.block k (by omega),fun k cs ty _ hc=>(h.block k (lt_of_block hc)).trans hc⟩
theorem KpB.put {kb n0 l:Nat}{A:World}{o o':Obj}(hl:n0≤l)(h:A.heap[l]?=some o)(ho:o.isCells=false):KpB kb n0 A (A.putObj l o'):=by
 have hg:=grownBy_putObj' A l o'
 refine⟨hg.size,fun k h1 _=>?_,fun k cs ty _ hc=>?_⟩
 ·by_cases hk:k<A.heap.size
  ·exact hg.block k hk (fun e=>by cases e;omega)
  ·have:=(Array.getElem?_eq_some_iff.1 h).1;omega
 ·refine(hg.block k (lt_of_block hc) (fun e=>?_)).trans hc
  cases e;rw[h]at hc
  cases hc
  cases ho
theorem own_kp {kb n0 B k n:Nat}{e:TypeId}{A W:World}{v:Value}{xs:List Value}(h:A.ownsRow B e k v n xs)(hk:KpB kb n0 A W)(hn:n0≤B):W.ownsRow B e k v n xs:=by
 refine⟨h.1,?_⟩
 rcases h.2 with h|⟨g,cap,cur,h1,h2,h3,h4⟩
 ·exact Or.inl h
 ·exact Or.inr ⟨g,cap,cur,h1,h2,hk.high g _ _ (Nat.le_trans hn h2) h3,h4⟩
theorem Jv {w w':World}(h:Below w.heap.size w w'):w.grownBy w' none:=⟨h.os,h.tape,h.output,h.size,fun k hk _=>h.block k hk⟩
def inP (t:Tb)(loc grp:Str)(ps:List Str):List (Str×Str):=(ps.filter (fun p=>inB p grp)).map (fun p=>(p,Sl (Jk t.rows loc p)))
theorem inP_take {t:Tb}{loc grp:Str}{ps:List Str}{k:Nat}(h:k<ps.length):inP t loc grp (ps.take (k+1))=inP t loc grp (ps.take k)++(if inB (ps[k]'h) grp then [(ps[k]'h,Sl (Jk t.rows loc (ps[k]'h)))]else []):=by
 unfold inP;rw[List.take_succ_eq_append_getElem h,List.filter_append,List.map_append]
 congr 1
 by_cases e:inB (ps[k]'h) grp=true
 ·simp[e]
 ·simp[e]
theorem Qgg {t:Tb}{loc grp:Str}(ps:List Str)(k:Nat):inP t loc grp (ps.take k) <+: inP t loc grp ps:=by
 refine⟨inP t loc grp (ps.drop k),?_⟩
 unfold inP;rw[←List.map_append,←List.filter_append,List.take_append_drop]
end
section
open Go.RowKit Go.Lib
theorem Mr.at' {w:World}{a:Option Addr}{n c:Nat}{l:List Stp}(h:Mr w (.slice a n c) l)(k:Nat)(hk:k<l.length):∃p o kv,a=some ⟨p,o,none⟩∧p<w.heap.size∧w.cell? ⟨p,o+k * 2,none⟩=some (.string ⟨((l[k]'hk).1).toArray⟩)∧w.cell? ⟨p,o+k * 2+1,none⟩=some kv∧RdP w kv (l[k]'hk).2:=by
 obtain⟨ao,cp,e,_,_,hx⟩:=h.cells
 cases e
 obtain⟨p,o,kv,h1,h2,h3,h4,h5⟩:=hx k hk
 exact⟨p,o,kv,h1,h2,h3,h4,h5⟩
theorem Ny.own' {w w':World}{s:Str}{x:Ending}(h:Ny w s x w'):∃(v:Value)(er:Nat)(at':Int),x=.returned (.tuple #[v,.agg #[.int .i64 er,.int .i64 at']])∧Below w.heap.size w w'∧∃l:List Stp,
  Yc w' w.heap.size v l∧((er=0∧Qy s=some l)∨(er≠0∧Qy s=none∧l=[]))∧∃ao cp,v=.slice ao l.length cp∧l.length≤cp∧((ao=none∧l=[]∧cp=0)∨∃g,ao=some ⟨g,0,none⟩):=by
 obtain⟨⟨l,v,h1,rfl,h2⟩|⟨h1,er,a,h2,rfl⟩,hb⟩:=h
 ·refine⟨v,0,0,rfl,hb,l,h2,Or.inl ⟨rfl,h1⟩,?_⟩
  obtain⟨zs,rfl,h3,_⟩:=h2
  rw[List.length_map]
  rcases h3.shape with ⟨rfl,rfl⟩|⟨g,cap,cur,rfl,_,_,hn,_⟩
  ·exact⟨none,0,rfl,Nat.le_refl _,Or.inl ⟨rfl,rfl,rfl⟩⟩
  ·exact⟨_,cap,rfl,hn,Or.inr ⟨g,rfl⟩⟩
 ·exact⟨_,er,a,rfl,hb,[],⟨[],rfl,Qg.nil _ _ _ _,fun z hz=>(by cases hz),List.Pairwise.nil⟩,Or.inr ⟨h2,h1,rfl⟩,none,0,rfl,Nat.le_refl _,Or.inl ⟨rfl,rfl,rfl⟩⟩
theorem Yc.below {w w':World}{B:Nat}{v:Value}{l:List Stp}(h:Yc w B v l)(hb:Below w.heap.size w w'):Yc w' B v l:=by
 obtain⟨zs,h1,h2,h3,h4⟩:=h
 exact⟨zs,h1,h2.below hb,fun z hz=>Qz (h3 z hz) hb,h4⟩
theorem row_ne {W:World}{B k n:Nat}{e:TypeId}{v:Value}{xs:List Value}(h:W.ownsRow B e k v n xs){b:Nat}(hb:b<B):v.ownBlock≠some b:=fun e=>by
 have:=(World.ownsRow.lt h b e).1
 omega
theorem Yc.set {w:World}{B b:Nat}{v:Value}{l:List Stp}(h:Yc w B v l)(hb:b<B)(i:Nat)(x:Value):Yc (w.setCell ⟨b,i,none⟩ x) B v l:=by
 obtain⟨zs,h1,h2,h3,h4⟩:=h
 exact⟨zs,h1,Qb h2 (row_ne h2 hb) i x,fun z hz=>Qb (h3 z hz) (row_ne (h3 z hz) hb) i x,h4⟩
theorem Yc.at' {w:World}{B:Nat}{a:Option Addr}{n c:Nat}{l:List Stp}(h:Yc w B (.slice a n c) l)(k:Nat)(hk:k<l.length):∃g kv,a=some ⟨g,0,none⟩∧g<w.heap.size∧w.cell? ⟨g,k * 2,none⟩=some (.string ⟨((l[k]'hk).1).toArray⟩)∧w.cell? ⟨g,k * 2+1,none⟩=some kv∧Qd w B kv (l[k]'hk).2:=by
 obtain⟨zs,rfl,h2,h3,_⟩:=h
 rw[List.length_map]at hk
 obtain⟨g,rfl⟩:=Qg.some' h2 (by intro e;rw[e]at hk;simp at hk)
 obtain⟨q0,_,gl⟩:=Qg.cell h2 k 0 (.string ⟨((zs[k]'hk).1.1).toArray⟩) hk rfl
 obtain⟨q1,_,_⟩:=Qg.cell h2 k 1 (Qr (zs[k]'hk)) hk rfl
 rw[Nat.add_zero]at q0
 refine⟨g,Qr (zs[k]'hk),rfl,gl,?_,q1,?_⟩
 ·rw[List.getElem_map];exact q0
 ·rw[List.getElem_map];exact h3 _ (List.getElem_mem hk)
end
section
open Go.RowKit Go.Lib Go.Sort Go.Maps Go.WideMaps Go.Shelf
theorem Qsq (v:Value)(w:World)(hv:∃a n c,v=.slice a n c) :
  Calls Tryz.prog 38 #[v] w fun e w'=>e=.returned (.func (.func 88) #[] #[.pointer (some ⟨w.heap.size,0,none⟩)])∧w'=w.alloc (.cells #[v] 76):=by
 obtain⟨a,n,c,rfl⟩:=hv
 go_enter Tryz.func38,Tryz.ntmps38
 go_wp2_with fail;exact bodyPost_ret (v:=.func (.func 88) #[] #[.pointer (some ⟨w.heap.size,0,none⟩)]) (by simp[results,Tryz.results38,go_sem]) rfl ⟨rfl,rfl⟩
abbrev Zst:=Stp×(Option Addr×Nat)
def stD:Zst:=(([],[]),(none,0))
def stV (z:Zst):Value:=.agg #[.string ⟨z.1.1.toArray⟩,Qr z]
def Dl (m:Nat):List Nat:=(List.range m).reverse
theorem Ns (m:Nat):(Dl m).length=m:=by simp[Dl]
theorem Xfw {m k:Nat}(h:k<m):(Dl m).take (m-(k+1))++[k]=(Dl m).take (m-k):=by
 have e:m-k=(m-(k+1))+1:=by omega
 have hl:m-(k+1)<(Dl m).length:=by rw[Ns];omega
 rw[e,List.take_succ_eq_append_getElem hl]
 congr 1
 simp[Dl,List.getElem_reverse]
 omega
theorem Lk (n:Nat)(hn:1≤n)(b0 c:Nat)(a:Option Addr)(zs:List Zst)(w:World)(h0:w.heap[b0]?=some (.cells #[.slice a zs.length c] 76 (0,0)))(hl:RdL Qm w (.slice a zs.length c) zs)(hz:zs.length≤1000) :
  SeqStopsK Fence.wide n Tryz.prog 88 #[.pointer (some ⟨b0,0,none⟩)] (fun x:Nat=>#[.int .i64 x,stV (zs.getD x stD)]) (KpB w.heap.size w.heap.size)
   (fun xs=>xs=Dl zs.length) (fun pre=>pre <+: Dl zs.length) zs.length w:=fun l J Jx W hW hJ _ hY hJ0=>by
 have BX:=hid (fun(V:World) (hk:KpB w.heap.size w.heap.size w V)=>(show V.cell? ⟨b0,0,none⟩=some (.slice a zs.length c)∧b0<V.heap.size∧∀k (hk:k<zs.length),∃p o,a=some ⟨p,o,none⟩∧p<V.heap.size∧V.cell? ⟨p,o+k * 2,none⟩=some (.string ⟨(zs[k]'hk).1.1.toArray⟩)∧V.cell? ⟨p,o+k * 2+1,none⟩=some (Qr (zs[k]'hk))from by
  have hlow:∀k,k<w.heap.size→V.heap[k]?=w.heap[k]?:=fun k h=>hk.low k h (Nat.ne_of_lt h)
  have e0:=(hlow b0 (lt_of_block h0)).trans h0
  refine⟨by rw[cell_of_row _ _ _ _ _ _ e0];rfl,lt_of_block e0,fun k hkl=>?_⟩
  obtain⟨ao,cp,e,_,hx⟩:=hl
  cases e
  obtain⟨p,o,rfl,hp,hc⟩:=hx (by intro e;rw[e]at hkl;simp at hkl)
  have hpb:=hlow p hp
  refine⟨p,o,rfl,Nat.lt_of_lt_of_le hp hk.size,?_,?_⟩
  ·have:=hc k 0 _ hkl rfl
   rw[Nat.add_zero]at this
   exact(World.cell?_of_block (w:=w) hpb).trans this
  ·exact(World.cell?_of_block (w:=w) hpb).trans (hc k 1 _ hkl rfl)))
 have KW:=hid (show KpB w.heap.size w.heap.size w W from KpB.of_below hW (Nat.le_refl _));clear h0 hl hW;have HY:=hid hY;have HJ0:=hid hJ0;have HZ:=hid hz;clear hJ hY hJ0
 obtain⟨m,hm⟩:∃m,m=zs.length:=⟨_,rfl⟩
 obtain⟨x0,x1,_⟩:=BX.out W KW.out
 have hmi:(0:Int)≤(zs.length:Int):=by omega
 refine callsIn_of_wp Tryz.func88 rfl trivial ?_ rfl;simp only[Tryz.ntmps88,List.size_toArray,List.length_cons,List.length_nil,Nat.reduceAdd,Nat.reduceSub,Array.replicate_succ,Array.replicate_zero,List.push_toArray,List.append_toArray,List.nil_append,List.cons_append]
 gi_wp2
 clear x0 x1
 gi_loopw [3] (fun i wr=>∃k:Nat,k≤zs.length∧i=.int .i64 ((k:Int)-1)∧J ((Dl zs.length).take (zs.length-k)) wr∧KpB w.heap.size w.heap.size w wr) (fun i _=>(intOf i+1).toNat)
 case atStart=>exact⟨zs.length,Nat.le_refl _,rfl,by simpa using HJ0.out,KW.out⟩
 case round =>
  obtain⟨k,hk,rfl,hJ2,hK2⟩:=hrel
  rename World=>w2
  have J2:=hid hJ2;have K2:=hid hK2;clear hJ2 hK2 KW HJ0
  cases k with
  |zero =>
   have HJ3:=hid (show J (Dl zs.length) w2 from by
    have:=J2.out
    rw[Nat.sub_zero,List.take_of_length_le (by rw[Ns];exact Nat.le_refl _)]at this;exact this)
   gi_wp2
   go_end0
   first|exact⟨⟨_,rfl⟩,.inl ⟨_,rfl,HJ3.out⟩⟩|exact⟨⟨_,rfl⟩,.inl HJ3.out⟩
  |succ k =>
   have hkl:k<zs.length:=hk;have hk1:(((k+1:Nat):Int)-1)=(k:Int):=by omega
   rw[hk1];have hk0:(0:Int)≤(k:Int):=by omega
   have hki:(k:Int)<(zs.length:Int):=by omega
   have hkb:(k:Int)≤1000:=by have:=HZ.out;omega
   obtain⟨x0,x1,hx⟩:=BX.out w2 K2.out
   obtain⟨p,o,rfl,hp,c0,c1⟩:=hx k hkl
   have HTK:=hid (Xfw hkl);have HGD:=hid (show zs.getD k stD=zs[k]'hkl by rw[List.getD_eq_getElem?_getD,List.getElem?_eq_getElem hkl];rfl);have hyy:=HY.out _ k w2 J2.out (by rw[List.length_take,Ns];omega);simp only[HGD.out]at hyy;generalize zs[k]'hkl=z at *;clear hx;unfold Qr at c1;unfold stV Qr at hyy
   obtain⟨fn,tmps,assign,body,hy,hR⟩:=hyy
   gi_wp2
   refine hR.mono ?_;rintro e w5 (⟨rfl,hJ5,hk5⟩|⟨rfl,hJx5⟩)
   ·have K5:=hid (K2.out.trans hk5)
    gi_wp2
    go_roundw
    case rel=>exact⟨k,by omega,rfl,by rw[←HTK.out];exact hJ5,K5.out⟩
    case measure=>simp[intOf]
   ·gi_wp2
    refine bodyPost_ret (results_none rfl _ _ _) rfl ?_
    exact⟨⟨_,rfl⟩,.inr ⟨_,by rw[HTK.out];exact List.take_prefix _ _,hJx5⟩⟩
end
section
open Go.RowKit Go.Lib Go.Sort Go.Maps Go.WideMaps Go.Shelf
attribute [local go_sem] Oper.semAt_some
theorem Qfq (x:Stp):x.2.length≤(Qp x).length:=by
 have:∀l:List (Str×Str),l.length≤(Zt l).length:=fun l=>by
  unfold Zt
  induction l with
  |nil=>simp
  |cons k r ih =>
   rw[List.flatMap_cons,List.length_append,List.length_cons]
   have:1≤(Ff k).length:=by unfold Ff;simp
   omega
 unfold Qp;rw[List.length_append]
 have:=this x.2
 omega
theorem idx_no {l:List (Str×Str)}{key:Str}(h:∀k∈l,k.1≠key):Xqw l key=-1:=by
 rcases Qrx l key with ⟨h1,_⟩|⟨n,hn,_,h2,_⟩
 ·exact h1
 ·exact absurd h2 (h _ (List.getElem_mem hn))
theorem Xfy (W:World)(zs:List Zst)(h:∀z∈zs,RdP W (Qr z) z.1.2)(x:Nat):RdP W (Qr (zs.getD x stD)) (zs.getD x stD).1.2:=by
 rw[List.getD_eq_getElem?_getD]
 cases e:zs[x]? with
 |none=>exact⟨none,0,rfl,⟨by decide,fun _=>⟨rfl,rfl⟩⟩,fun h=>absurd rfl h⟩
 |some z=>exact h z (List.mem_of_getElem? e)
theorem Qqk (w:World)(p key:Str)(hp:p.length≤maxLen)(l:List Stp)(hl:Qy p=some l)(hno:∀x∈l,∀k∈x.2,k.1≠key) :
  Calls Tryz.prog 37 #[.string ⟨p.toArray⟩,.string ⟨key.toArray⟩] w fun e w'=>e=.returned (.tuple #[.string ⟨p.toArray⟩,.bool false])∧Below w.heap.size w w':=by
 refine(callsIn_wide (n:=6)).1 ?_
 refine callsIn_of_wp_marks Tryz.func37 rfl trivial ?_ rfl;simp only[Tryz.ntmps37,List.size_toArray,List.length_cons,List.length_nil,Nat.reduceAdd,Nat.reduceSub,Array.replicate_succ,Array.replicate_zero,List.push_toArray,List.append_toArray,List.nil_append,List.cons_append];have HL:=hid hl;have HNO:=hid hno;have F1:=hid (heap_alloc_new w (.cells #[.string ⟨key.toArray⟩] 9));have A1:=hid (bal w (.cells #[.string ⟨key.toArray⟩] 9));have F2:=hid (show((w.alloc (.cells #[.string ⟨key.toArray⟩] 9)).alloc (.cells #[.string ⟨#[]⟩] 9)).heap[w.heap.size+1]?=some (.cells #[.string ⟨#[]⟩] 9 (0,0))from by
  have e:=heap_alloc_new (w.alloc (.cells #[.string ⟨key.toArray⟩] 9)) (.cells #[.string ⟨#[]⟩] 9);rw[show(w.alloc (.cells #[.string ⟨key.toArray⟩] 9)).heap.size=w.heap.size+1 by simp]at e;exact e)
 have A2:=hid (show Below (w.alloc (.cells #[.string ⟨key.toArray⟩] 9)).heap.size (w.alloc (.cells #[.string ⟨key.toArray⟩] 9)) ((w.alloc (.cells #[.string ⟨key.toArray⟩] 9)).alloc (.cells #[.string ⟨#[]⟩] 9))from bal _ _);have Z2:=hid (show((w.alloc (.cells #[.string ⟨key.toArray⟩] 9)).alloc (.cells #[.string ⟨#[]⟩] 9)).heap.size=w.heap.size+1+1 by simp);have A3:=hid (show Below ((w.alloc (.cells #[.string ⟨key.toArray⟩] 9)).alloc (.cells #[.string ⟨#[]⟩] 9)).heap.size ((w.alloc (.cells #[.string ⟨key.toArray⟩] 9)).alloc (.cells #[.string ⟨#[]⟩] 9)) (((w.alloc (.cells #[.string ⟨key.toArray⟩] 9)).alloc (.cells #[.string ⟨#[]⟩] 9)).alloc (.cells #[.bool false] 4))from bal _ _);have F3:=hid (show(((w.alloc (.cells #[.string ⟨key.toArray⟩] 9)).alloc (.cells #[.string ⟨#[]⟩] 9)).alloc (.cells #[.bool false] 4)).heap[w.heap.size+1+1]?=some (.cells #[.bool false] 4 (0,0))from by
  have e:=heap_alloc_new ((w.alloc (.cells #[.string ⟨key.toArray⟩] 9)).alloc (.cells #[.string ⟨#[]⟩] 9)) (.cells #[.bool false] 4);rw[Z2.out]at e;exact e)
 have G1:=hid ((A3.out.block _ (lt_of_block (bk A2.out F1.out))).trans (bk A2.out F1.out));have G2:=hid (bk A3.out F2.out);have B3:=hid ((A1.out.then A2.out).then A3.out)
 gi_wp2
 generalize ((w.alloc (.cells #[.string ⟨key.toArray⟩] 9)).alloc (.cells #[.string ⟨#[]⟩] 9)).alloc (.cells #[.bool false] 4)=w3 at *;clear F1 A1 F2 A2 A3 Z2
 refine⟨trivial,callsIn_wide.2 ((Jd p w3 hp).mono ?_)⟩
 rintro e w4 h4
 obtain⟨v,er,ea,rfl,hb4,l',hl',hc4,ao,cp,rfl,hcap,hs4⟩:=h4.own'
 obtain⟨rfl,hll⟩:er=0∧l'=l:=by
  rcases hc4 with ⟨h1,h2⟩|⟨_,h2,_⟩
  ·rw[HL.out]at h2;exact⟨h1,(Option.some.inj h2).symm⟩
  ·rw[HL.out]at h2;cases h2
 subst hll;have L4:=hid hl';have K4:=hid (bk hb4 G1.out);have O4:=hid (bk hb4 G2.out);have Q4:=hid (bk hb4 F3.out);have B4:=hid (B3.out.then hb4);clear h4 hl' hc4 hb4 hs4 G1 G2 F3 B3;have Y6:=hid (show((w4.alloc (.cells #[.slice ao l'.length cp] 76)).alloc (.cells #[.int .i64 0,.int .i64 ea] 78)).heap[w4.heap.size]?=some (.cells #[.slice ao l'.length cp] 76 (0,0)) from(Below.heap_alloc _ _ _ (by simp)).trans (heap_alloc_new w4 _));have Y7:=hid (show((w4.alloc (.cells #[.slice ao l'.length cp] 76)).alloc (.cells #[.int .i64 0,.int .i64 ea] 78)).heap[w4.heap.size+1]?=some (.cells #[.int .i64 0,.int .i64 ea] 78 (0,0))from by
  have e:=heap_alloc_new (w4.alloc (.cells #[.slice ao l'.length cp] 76)) (.cells #[.int .i64 0,.int .i64 ea] 78);rw[show(w4.alloc (.cells #[.slice ao l'.length cp] 76)).heap.size=w4.heap.size+1 by simp]at e;exact e)
 have A6:=hid (show Below w4.heap.size w4 ((w4.alloc (.cells #[.slice ao l'.length cp] 76)).alloc (.cells #[.int .i64 0,.int .i64 ea] 78)) from(bal _ _).alloc (by simp) _);have c0:((w4.alloc (.cells #[.slice ao l'.length cp] 76)).alloc (.cells #[.int .i64 0,.int .i64 ea] 78)).cell? ⟨w4.heap.size,0,none⟩=some (.slice ao l'.length cp):=cR Y6.out;have c1:((w4.alloc (.cells #[.slice ao l'.length cp] 76)).alloc (.cells #[.int .i64 0,.int .i64 ea] 78)).cell? ⟨w4.heap.size+1,0,none⟩=some (.int .i64 0):=cR Y7.out;have l0:=lt_of_block Y6.out;have l1:=lt_of_block Y7.out
 gi_wp2
 generalize (w4.alloc (.cells #[.slice ao l'.length cp] 76)).alloc (.cells #[.int .i64 0,.int .i64 ea] 78)=w6 at *;clear c0 c1 l0 l1;have B6:=hid (B4.out.then A6.out);have K6:=hid (bk A6.out K4.out);have O6:=hid (bk A6.out O4.out);have Q6:=hid (bk A6.out Q4.out);have L6:=hid (L4.out.below A6.out);clear A6 B4 K4 O4 Q4 L4 Y6 Y7
 refine⟨trivial,callsIn_wide.2 ((Qsq _ w6 ⟨_,_,_,rfl⟩).mono ?_)⟩
 rintro e w7 ⟨rfl,hw7⟩;have A7:=hid (show Below w6.heap.size w6 w7 from by rw[hw7];exact bal _ _);have F7:=hid (show w7.heap[w6.heap.size]?=some (.cells #[.slice ao l'.length cp] 76 (0,0))from by rw[hw7];exact heap_alloc_new w6 _);have B7:=hid (B6.out.then A7.out);have K7:=hid (bk A7.out K6.out);have O7:=hid (bk A7.out O6.out);have Q7:=hid (bk A7.out Q6.out);have L7:=hid (L6.out.below A7.out);clear hw7 A7 B6 K6 O6 Q6 L6
 obtain⟨zs,hz,hown,heach,_⟩:=L7.out
 have hln:l'.length=zs.length:=by rw[←hz,List.length_map]
 rw[hln]at F7;have HZ:=hid (show zs.length≤64 by rw[←hln];exact(Zy HL.out).2.2.1);have EACH:=hid heach;have HZM:=hid hz;have SQ:=hid (Lk 5 (by decide) w6.heap.size cp ao zs w7 F7.out (by rw[←hln];exact hown.rd) (by have:=HZ.out;omega))
 gi_wp2
 clear hl hno hcap;have EACH7:=hid (fun W (hk:Below w7.heap.size w7 W) (x:Nat)=>Xfy W zs (fun z hz=>(EACH.out z hz).rd.below hk) x);have EOWN:=hid (fun(x:Nat)=>(show ∀a,(zs.getD x stD).2.1=some a→∃g,a=⟨g,0,none⟩∧g<w7.heap.size from fun a ha=>by
  rw[List.getD_eq_getElem?_getD]at ha
  cases e:zs[x]? with
  |none=>rw[e]at ha;cases ha
  |some z =>
   rw[e]at ha;have ha':z.2.1=some a:=ha
   rcases Qd.shape (EACH.out z (List.mem_of_getElem? e))with ⟨h,_⟩|⟨g,cap,cur,h,_,hg,_⟩
   ·unfold Qr at h;rw[ha']at h;cases h
   ·unfold Qr at h;rw[ha']at h
    cases h
    exact⟨g,rfl,lt_of_block hg⟩))
 have HXN:=hid (fun(x:Nat)=>(show ∀k∈(zs.getD x stD).1.2,k.1≠key from fun k hk=>by
  rw[List.getD_eq_getElem?_getD]at hk
  cases e:zs[x]? with
  |none=>rw[e]at hk;cases hk
  |some z =>
   rw[e]at hk;exact HNO.out z.1 (by rw[←HZM.out];exact List.mem_map_of_mem (List.mem_of_getElem? e)) k hk))
 have HXL:=hid (fun(x:Nat)=>(show(zs.getD x stD).1.2.length≤1000 from by
  rw[List.getD_eq_getElem?_getD]
  cases e:zs[x]? with
  |none=>exact Nat.zero_le _
  |some z =>
   have hm:z.1∈l':=by rw[←HZM.out];exact List.mem_map_of_mem (List.mem_of_getElem? e)
   have h1:=Dt HL.out hm;have h2:=Qfq z.1;show z.1.2.length≤1000
   omega))
 refine wpIn_rangeFunc_ownH rfl (by omega) (gf:=88) rfl trivial (enters_of Tryz.func88 (by kernel_rfl) rfl)
  SQ.out (fun h g=>h.trans g) (fun W l o o' hl ho hc _=>KpB.put hl ho hc) (Below.refl _ _) (fun _=>rfl)
  (fun _ W=>Below w7.heap.size w7 W) (fun _ _ _=>False) (ownFrom_below (Nat.le_refl _) (Nat.le_refl _)) (fun _ _ _ _ _ h _ _=>h) (Below.refl _ _)
  (fun x a' W=>∃Bx,w7.heap.size≤Bx∧W.heap[Bx]?=some (.cells #[.string ⟨(zs.getD x stD).1.1.toArray⟩,Qr (zs.getD x stD)] 82 (0,0))∧a'={ tmps:=[.string ⟨p.toArray⟩,.string ⟨key.toArray⟩,undef,.pointer (some ⟨w.heap.size,0,none⟩),.pointer (some ⟨w.heap.size+1,0,none⟩),.pointer (some ⟨w.heap.size+1+1,0,none⟩),.pointer (some ⟨w4.heap.size,0,none⟩),.pointer (some ⟨w4.heap.size+1,0,none⟩),.int .i64 (x:Nat),.pointer (some ⟨Bx,0,none⟩),undef,undef,undef,.tuple #[.slice ao zs.length cp,.agg #[.int .i64 0,.int .i64 ea]],.string ⟨p.toArray⟩,.tuple #[.slice ao zs.length cp,.agg #[.int .i64 0,.int .i64 ea]],.slice ao zs.length cp,.agg #[.int .i64 0,.int .i64 ea],.pointer (some ⟨w4.heap.size+1,0,none⟩),.int .i64 0,.bool false,.slice ao zs.length cp,.func (.func 88) #[] #[.pointer (some ⟨w6.heap.size,0,none⟩)],.int .i64 (x:Nat),stV (zs.getD x stD),undef,undef,undef,undef,undef,undef,undef,undef,undef,undef,undef,undef,undef,undef,undef,undef,undef,undef,undef,undef,undef,undef,undef].toArray,defers:=[] }) ?_ ?assign ?body ?done (fun D c pre W _ _ h=>h.elim)
 ·rintro x a' s W W' row ⟨Bx,h1,h2,h3⟩ hg hr
  refine⟨Bx,h1,(hg.block Bx (lt_of_block h2) (fun e=>?_)).trans h2,h3⟩
  obtain⟨_,o,ho,hc⟩:=hr Bx e.symm
  rw[h2]at ho
  cases ho
  cases hc
 case assign =>
  intro l pre x W K hI hK;have hbW:Below W.heap.size W (W.alloc (.cells #[.string ⟨(zs.getD x stD).1.1.toArray⟩,Qr (zs.getD x stD)] 82)):=bal _ _;have hz7:=hI.size;unfold stV Qr
  gi_wp2
  exact hK _ _ ((KeepsOthers.alloc _ _).from _) (KpB.of_below hbW hz7) (hI.then hbW) ⟨W.heap.size,hz7,heap_alloc_new W _,rfl⟩
 case body =>
  rintro l pre x a' W _ _ hI ⟨Bx,hB,hBx,rfl⟩ hlen;have KW:=hid (bk hI K7.out);have e0:W.cell? ⟨w.heap.size,0,none⟩=some (.string ⟨key.toArray⟩):=cR KW.out;have el:=lt_of_block KW.out;have RX:=hid (EACH7.out W hI x);have OX:=hid (EOWN.out x);have NX:=hid (HXN.out x);have LX:=hid (HXL.out x);have HI:=hid hI;clear hI;unfold stV;generalize zs.getD x stD=z at *
  obtain⟨⟨zn,zk⟩,za,zc⟩:=z
  simp only[Qr]at hBx RX OX NX LX ⊢
  obtain⟨x0,x1,_,_,xl⟩:=Qq hBx
  have FD:=hid (Qkk W zn zk za zc key RX.out LX.out (fun a ha=>by
   obtain⟨g,h1,h2⟩:=OX.out a ha
   exact⟨g,0,h1,Nat.lt_of_lt_of_le h2 HI.out.size⟩))
  rw[idx_no NX.out]at FD;clear RX OX NX LX hBx
  gi_wp2
  refine⟨trivial,CallsIn.inRound l (callsIn_wide.2 (FD.out.mono ?_))⟩
  rintro e W2 ⟨rfl,hb2⟩;have HI2:=hid (HI.out.then hb2);clear x0 x1 xl e0 el
  gi_wp2
  exact⟨(KeepsOthers.of_grownBy (Jv hb2) (fun j o e=>by cases e)).from _,KpB.of_below hb2 HI.out.size,HI2.out⟩
 case done =>
  rintro D xs W hD _ hb hK;have B8:=hid (B7.out.then hb);have O8:=hid (bk hb O7.out);have Q8:=hid (bk hb Q7.out);have c0:W.cell? ⟨w.heap.size+1,0,none⟩=some (.string ⟨#[]⟩):=cR O8.out;have c1:W.cell? ⟨w.heap.size+1+1,0,none⟩=some (.bool false):=cR Q8.out;have f0:=frozen_of_row _ _ 0 _ _ O8.out;have f1:=frozen_of_row _ _ 0 _ _ Q8.out;have l0:=lt_of_block O8.out;have l1:=lt_of_block Q8.out
  gi_wp2
  have hKD:((W.setCell ⟨w.heap.size+1,0,none⟩ (.string ⟨p.toArray⟩)).setCell ⟨w.heap.size+1+1,0,none⟩ (.bool false)).heap[D]?=some (.deferred (some [])) :=
   (KeepsOthers.setCell _ _ _).same D _ ((KeepsOthers.setCell _ _ _).same D _ hK rfl) rfl
  refine⟨by simp,.inl ⟨_,_,rfl,run_takeDeferred hKD,?_⟩⟩
  have O9:=(heap_setCell_other (W.setCell ⟨w.heap.size+1,0,none⟩ (.string ⟨p.toArray⟩)) ⟨w.heap.size+1+1,0,none⟩ (w.heap.size+1) (.bool false) (by simp)).trans (heap_setCell_same _ _ _ _ _ (.string ⟨p.toArray⟩) O8.out);have Q9:=heap_setCell_same _ _ 0 _ _ (.bool false) ((heap_setCell_other W ⟨w.heap.size+1,0,none⟩ (w.heap.size+1+1) (.string ⟨p.toArray⟩) (by simp)).trans Q8.out);have g0:=cell_kept (show((W.setCell ⟨w.heap.size+1,0,none⟩ (.string ⟨p.toArray⟩)).setCell ⟨w.heap.size+1+1,0,none⟩ (.bool false)).cell? ⟨w.heap.size+1,0,none⟩=some (.string ⟨p.toArray⟩)by rw[cell_of_row _ _ _ _ _ _ O9];rfl) (grownBy_putObj' _ D (.deferred none)) (fun r e=>by cases e;exact⟨_,hKD,rfl⟩);have g1:=cell_kept (show((W.setCell ⟨w.heap.size+1,0,none⟩ (.string ⟨p.toArray⟩)).setCell ⟨w.heap.size+1+1,0,none⟩ (.bool false)).cell? ⟨w.heap.size+1+1,0,none⟩=some (.bool false)by rw[cell_of_row _ _ _ _ _ _ Q9];rfl) (grownBy_putObj' _ D (.deferred none)) (fun r e=>by cases e;exact⟨_,hKD,rfl⟩)
  refine⟨.tuple #[.string ⟨p.toArray⟩,.bool false],?_,rfl,?_⟩
  ·simp[results,Tryz.f37,go_sem,g0,g1]
  ·exact((B8.out.setCell (p:=⟨w.heap.size+1,0,none⟩) (by simp) _).setCell (p:=⟨w.heap.size+1+1,0,none⟩) (by simp;omega) _).trans (belowK_b (w:=w) (Nat.le_refl _) _ D _ _ (Nat.le_trans B7.out.size hD) hKD rfl rfl)
end
section
section
variable {P:Program}{ops:Array Oper}{Q:Exit→Act→World→Prop}{md:Region.Mode}
def unl (n:Nat)(listed:Array Bool):Nat:=((List.range n).filter fun i=>!listed.getD i true).length
theorem Zyk {α:Type}{p q:α→Bool}:∀{l:List α}{x:α},(∀y∈l,q y=true→p y=true)→x∈l→p x=true→q x=false→(l.filter q).length<(l.filter p).length
 |[],_,_,h,_,_=>by cases h
 |y::l,x,hpq,hx,h1,h2=>by
  have hle:∀{l:List α},(∀y∈l,q y=true→p y=true)→(l.filter q).length≤(l.filter p).length:=by
   intro l
   induction l with
   |nil=>intro _;exact Nat.le_refl _
   |cons z l ih =>
    intro h
    have:=ih fun y hy=>h y (List.mem_cons_of_mem _ hy)
    rw[List.filter_cons,List.filter_cons]
    cases hq:q z with
    |true=>rw[h z (List.mem_cons_self ..) hq];simp only[if_true,List.length_cons];omega
    |false=>cases p z <;> simp <;> omega
  have hl:=hle fun y hy=>hpq y (List.mem_cons_of_mem _ hy)
  rw[List.filter_cons,List.filter_cons]
  rcases List.mem_cons.1 hx with rfl|hx
  ·rw[h1,h2];simp only[if_true,List.length_cons,Bool.false_eq_true,if_false];omega
  ·have ih:=Zyk (fun y hy=>hpq y (List.mem_cons_of_mem _ hy)) hx h1 h2
   cases hq:q y with
   |true=>rw[hpq y (List.mem_cons_self ..) hq];simp only[if_true,List.length_cons];omega
   |false=>cases p y <;> simp <;> omega
theorem Xnw {n i:Nat}{listed:Array Bool}(hi:i<n)(h:listed.getD i true=false):unl n (listed.setIfInBounds i true)<unl n listed:=by
 have hs:i<listed.size:=by
  rcases Nat.lt_or_ge i listed.size with h' |h'
  ·exact h'
  ·simp[Array.getD,Nat.not_lt.2 h']at h
 refine Zyk (x:=i) (fun y _ hy=>?_) (List.mem_range.2 hi) (by rw[h];rfl) ?_
 ·by_cases hyi:i=y
  ·subst hyi;rw[h];rfl
  ·simp only[Array.getD_eq_getD_getElem?,Array.getElem?_setIfInBounds_ne hyi]at hy ⊢;exact hy
 ·simp[Array.getD_eq_getD_getElem?,Array.getElem?_setIfInBounds_self_of_lt hs]
theorem Zyv (I:Array Bool→Act→World→Prop)(step:∀listed a w i,I listed a w→i∈Region.ready md ops listed→wpOp P ops Q i (fun a' w'=>I (listed.setIfInBounds i true) a' w') a w)
  (done:∀listed a w,I listed a w→Region.ready md ops listed=[]→Q .normal a w):∀(fuel:Nat)(listed:Array Bool)(a:Act)(w:World),I listed a w→unl ops.size listed≤fuel→wpAny P md ops Q fuel listed a w
 |0,listed,a,w,h,hf=>by
  have hr:Region.ready md ops listed=[]:=by
   rw[List.eq_nil_iff_forall_not_mem];intro i hi
   obtain⟨h1,oi,h2,_⟩:=mem_ready.1 hi
   have:i∈(List.range ops.size).filter fun i=>!listed.getD i true:=List.mem_filter.2 ⟨List.mem_range.2 (Array.getElem?_eq_some_iff.1 h2).1,by rw[h1];rfl⟩
   have:=List.length_pos_of_mem this
   unfold unl at hf
   omega
  exact⟨hr,done _ _ _ h hr⟩
 |fuel+1,listed,a,w,h,hf=>⟨fun hr=>done _ _ _ h hr,fun i hi=>by
  obtain⟨h1,oi,h2,_⟩:=mem_ready.1 hi
  have:=Xnw (Array.getElem?_eq_some_iff.1 h2).1 h1
  exact wpOp_mono (fun a' w' h'=>Zyv I step done fuel _ a' w' h' (by omega)) (step _ _ _ _ h hi)⟩
def Yz (a:Act)(ds:List Nat)(f:Nat→Value):Act:={ a with tmps:=ds.foldl (fun t d=>t.setIfInBounds d (f d)) a.tmps }
theorem set_self (t:Array Value)(d:Nat):t.setIfInBounds d (t.getD d undef)=t:=by
 apply Array.ext_getElem?
 intro i
 by_cases h:d=i
 ·subst h
  by_cases hs:d<t.size
  ·rw[Array.getElem?_setIfInBounds_self_of_lt hs,Array.getD_eq_getD_getElem?,Array.getElem?_eq_getElem hs];rfl
  ·rw[Array.getElem?_eq_none (by simpa using hs),Array.getElem?_eq_none (by simpa using hs)]
 ·rw[Array.getElem?_setIfInBounds_ne h]
theorem Zyw (a:Act)(ds:List Nat):Yz a ds (fun d=>a.tmps.getD d undef)=a:=by
 have:ds.foldl (fun t d=>t.setIfInBounds d (a.tmps.getD d undef)) a.tmps=a.tmps:=by
  induction ds with
  |nil=>rfl
  |cons d ds ih=>rw[List.foldl_cons,set_self];exact ih
 unfold Yz;rw[this]
def depsB (ops:Array Oper):Bool:=(List.range ops.size).all fun i=>match ops[i]? with
 |some o=>o.after.all fun e=>decide (e.on<i)
 |none=>true
theorem Zyy {listed:Array Bool}(h:Region.ready md ops listed=[])(hs:listed.size=ops.size)(hd:depsB ops=true):∀i,i<ops.size→listed.getD i true=true:=by
 intro i
 induction i using Nat.strongRecOn with
 |_ i ih =>
  intro hi
  cases hl:listed.getD i true with
  |true=>rfl
  |false =>
   exfalso
   have:i∈Region.ready md ops listed:=mem_ready.2 ⟨hl,ops[i],Array.getElem?_eq_getElem hi,fun e he _=>by
    have h1:=List.all_eq_true.1 hd i (List.mem_range.2 hi);rw[Array.getElem?_eq_getElem hi]at h1;have h2:=of_decide_eq_true (Array.all_eq_true_iff_forall_mem.1 h1 e he);have h3:=ih e.on h2 (Nat.lt_trans h2 hi);have h4:e.on<listed.size:=by omega
    simp only[Array.getD_eq_getD_getElem?,Array.getElem?_eq_getElem h4,Option.getD_some]at h3 ⊢;exact h3⟩
   rw[h]at this
   cases this
theorem Zqj {id:Nat}{a:Act}{w:World}(hm:P.follows .mixedOrders=true)(hd:depsB ops=true)(ds:List Nat)(I:Array Bool→(Nat→Value)→World→Prop)(h0:∀f0,I (Array.replicate ops.size false) f0 { w with drawn:=w.drawn+1 })
  (step:∀listed f W i,I listed f W→listed.getD i true=false→∀oi,ops[i]?=some oi→(∀e∈oi.after,Region.binds .any e=true→listed.getD e.on false=true)→wpOp P ops Q i (fun a' W'=>∃f',a'=Yz a ds f'∧I (listed.setIfInBounds i true) f' W') (Yz a ds f) W)
  (done:∀listed f W,I listed f W→(∀i,i<ops.size→listed.getD i true=true)→Q .normal (Yz a ds f) W):(Code.region id ops true).wp P Q a w:=by
 refine wp_region_any hm (Zyv (fun listed a' W=>(∃f,a'=Yz a ds f∧I listed f W)∧listed.size=ops.size) ?_ ?_ ops.size _ a _ ⟨⟨_,(Zyw a ds).symm,h0 _⟩,by simp⟩ ?_)
 ·rintro listed a' W i ⟨⟨f,rfl,hI⟩,hs⟩ hi
  obtain⟨h1,oi,h2,h3⟩:=mem_ready.1 hi
  exact wpOp_mono (fun a' w' h=>⟨h,by simpa using hs⟩) (step listed f W i hI h1 oi h2 h3)
 ·rintro listed a' W ⟨⟨f,rfl,hI⟩,hs⟩ hr;exact done listed f W hI (Zyy hr hs hd)
 ·unfold unl;refine Nat.le_trans (List.length_filter_le _ _) ?_
  simp
end
end
section
open Go.RowKit Go.Lib
theorem Zcv (w:World)(x y:Al)(hx:x.1.length≤maxLen)(hy:y.2.length≤maxLen) :
  Calls Tryz.prog 115 #[.agg #[.string ⟨x.1.toArray⟩,.string ⟨x.2.toArray⟩],.agg #[.string ⟨y.1.toArray⟩,.string ⟨y.2.toArray⟩]] w fun e w'=>e=.returned (.bool (Wp x y))∧Below w.heap.size w w':=by
 obtain⟨x1,x2⟩:=x
 obtain⟨y1,y2⟩:=y
 simp only at hx hy ⊢;have IN1:=hid (fun W=>Qgk W y2 x1 hy hx);have IN2:=hid (fun W=>Qgk W x1 y2 hx hy);have HF:=hid (show Wp (x1,x2) (y1,y2)=(inB y2 x1||inB x1 y2)from rfl);have B0:=hid (Px w (.cells #[.string ⟨x1.toArray⟩,.string ⟨x2.toArray⟩] 37) (.cells #[.string ⟨y1.toArray⟩,.string ⟨y2.toArray⟩] 37));have G0:=hid (show((w.alloc (.cells #[.string ⟨x1.toArray⟩,.string ⟨x2.toArray⟩] 37)).alloc (.cells #[.string ⟨y1.toArray⟩,.string ⟨y2.toArray⟩] 37)).heap[w.heap.size]?=some (.cells #[.string ⟨x1.toArray⟩,.string ⟨x2.toArray⟩] 37 (0,0)) from(Below.heap_alloc _ _ _ (lt_of_block (heap_alloc_new w _))).trans (heap_alloc_new w _));have H0:=hid (show((w.alloc (.cells #[.string ⟨x1.toArray⟩,.string ⟨x2.toArray⟩] 37)).alloc (.cells #[.string ⟨y1.toArray⟩,.string ⟨y2.toArray⟩] 37)).heap[w.heap.size+1]?=some (.cells #[.string ⟨y1.toArray⟩,.string ⟨y2.toArray⟩] 37 (0,0))from by
  have:=heap_alloc_new (w.alloc (.cells #[.string ⟨x1.toArray⟩,.string ⟨x2.toArray⟩] 37)) (.cells #[.string ⟨y1.toArray⟩,.string ⟨y2.toArray⟩] 37)
  rw[show(w.alloc (.cells #[.string ⟨x1.toArray⟩,.string ⟨x2.toArray⟩] 37)).heap.size=w.heap.size+1 by simp]at this;exact this)
 go_enter Tryz.func115,Tryz.ntmps115
 go_upto_region 1 with fail;generalize (w.alloc (.cells #[.string ⟨x1.toArray⟩,.string ⟨x2.toArray⟩] 37)).alloc (.cells #[.string ⟨y1.toArray⟩,.string ⟨y2.toArray⟩] 37)=w1 at *
 obtain⟨a0,a1,_,_,al⟩:=Qq G0.out
 obtain⟨b0,b1,_,_,bl⟩:=Qq H0.out
 cases h1:inB y2 x1 with
 |true =>
  rw[h1]at IN1 HF;clear h1
  go_wp2_with (go_at_call 159;refine(IN1.out _).mono ?_;rintro e w2 ⟨rfl,hb⟩;have B2:=hid (B0.out.then hb);clear hb)
  exact bodyPost_ret (v:=.bool true) (by simp[results,Tryz.results115,go_sem]) rfl ⟨by rw[HF.out];rfl,B2.out⟩
 |false =>
  rw[h1]at IN1 HF;clear h1;generalize inB x1 y2=q at *
  go_wp2_with (first
   |(go_at_call 159;refine(IN1.out _).mono ?_;rintro e w2 ⟨rfl,hb⟩;have G2:=hid (bk hb G0.out);have H2:=hid (bk hb H0.out);have B2:=hid (B0.out.then hb);clear hb a0 a1 al b0 b1 bl IN1;obtain⟨a0,a1,_,_,al⟩:=Qq G2.out;obtain⟨b0,b1,_,_,bl⟩:=Qq H2.out)
   |(go_at_call 159;refine(IN2.out _).mono ?_;rintro e w3 ⟨rfl,hb⟩;have B3:=hid (B2.out.then hb);clear hb))
  exact bodyPost_ret (v:=.bool q) (by simp[results,Tryz.results115,go_sem]) rfl ⟨by rw[HF.out];rfl,B3.out⟩
def Qsz (W:World)(v:Value)(D:List Al):Prop:=∃b kv,v=.pointer (some ⟨b,0,none⟩)∧W.heap[b]?=some (.cells #[kv] 192 (0,0))∧RdP W kv D
theorem Qsz.below {W W':World}{v:Value}{D:List Al}(h:Qsz W v D)(hb:Below W.heap.size W W'):Qsz W' v D:=by
 obtain⟨b,kv,h1,h2,h3⟩:=h
 exact⟨b,kv,h1,bk hb h2,h3.below hb⟩
def szA (D:List Al):Prop:=∀x∈D,x.1.length≤maxLen∧x.2.length≤maxLen
def alV (o:Option Al):Value:=match o with|some x=>.agg #[.string ⟨x.1.toArray⟩,.string ⟨x.2.toArray⟩] |none=>.agg #[.string ⟨#[]⟩,.string ⟨#[]⟩]
def Qgq (o:Option Al):Str:=(o.map (·.1)).getD []
def Zcw (o:Option Al):Str:=(o.map (·.2)).getD []
theorem alV_eq (o:Option Al):alV o=.agg #[.string ⟨(Qgq o).toArray⟩,.string ⟨(Zcw o).toArray⟩]:=by cases o <;> rfl
theorem find_take {D:List Al}{p:Str}{k:Nat}(h:k<D.length):Vb (D.take (k+1)) p=Qyq p (Vb (D.take k) p) (D[k]'h):=by
 rw[List.take_succ_eq_append_getElem h,find_snoc]
theorem find_sz {D:List Al}{p:Str}(h:szA D)(k:Nat):(Qgq (Vb (D.take k) p)).length≤maxLen:=by
 cases e:Vb (D.take k) p with
 |none=>simp[Qgq]
 |some x=>exact(h x (List.mem_of_mem_take (Cx e).1)).1
theorem afind_any (w:World)(v:Value)(D:List Al)(p:Str)(h:Qsz w v D)(hp:p.length≤maxLen)(hs:szA D) :
  Calls Tryz.prog 199 #[v,.string ⟨p.toArray⟩] w fun e w'=>e=.returned (.tuple #[alV (Vb D p),.bool (Vb D p).isSome])∧Below w.heap.size w w':=by
 obtain⟨b,kv,rfl,hb,hr⟩:=h
 obtain⟨ao,cp,rfl,h63,hcell⟩:=Xm hr
 have HB:=hid hb;have HR:=hid hr;have HS:=hid hs;have HP:=hid hp;have IN:=hid (fun W a b ha hb=>Qgk W a b ha hb);clear hb hr hs hp hcell
 go_enter Tryz.func199,Tryz.ntmps199
 have B0:=hid (bal w (.cells #[.string ⟨#[]⟩,.string ⟨#[]⟩] 37));have F0:=hid (heap_alloc_new w (.cells #[.string ⟨#[]⟩,.string ⟨#[]⟩] 37));go_upto_region 1 with fail;generalize w.alloc (.cells #[.string ⟨#[]⟩,.string ⟨#[]⟩] 37)=w0 at *;have HB0:=hid (bk B0.out HB.out);have a0:w0.cell? ⟨b,0,none⟩=some (.slice ao D.length cp):=cR HB0.out;have a1:=lt_of_block HB0.out;go_wp2_with fail
 go_loopg[5,16] D.length (fun g v5 v16 W=>∃k:Nat,k≤D.length∧D.length≤k+g∧v5=.bool (Vb (D.take k) p).isSome∧v16=.int .i64 k∧W.heap[w.heap.size]?=some (.cells #[.string ⟨(Qgq (Vb (D.take k) p)).toArray⟩,.string ⟨(Zcw (Vb (D.take k) p)).toArray⟩] 37 (0,0))∧Below w.heap.size w W)
 case atStart=>exact⟨0,Nat.zero_le _,by omega,rfl,rfl,F0.out,B0.out⟩
 case round =>
  obtain⟨k,hk,hg,rfl,rfl,hrow,hbw⟩:=hrel
  rename World=>w2
  have HG:=hid hg;have F2:=hid hrow;have B2:=hid hbw;clear hg hrow hbw a0 a1 HB0
  by_cases hlt:k<D.length
  ·have hni:(k:Int)<(D.length:Int):=by omega
   have hn0:(0:Int)≤(k:Int):=by omega
   obtain⟨ao2,cp2,e2,_,hc2⟩:=Xm (HR.out.below B2.out)
   cases e2
   obtain⟨g,o,rfl,hgl,r0,r1⟩:=hc2 k hlt
   have HXS:=hid (HS.out _ (List.getElem_mem hlt));have HTK:=hid (find_take (p:=p) hlt);have HSZ:=hid (find_sz (p:=p) HS.out k);generalize hx:D[k]'hlt=x at *;clear hx
   obtain⟨x1,x2⟩:=x
   simp only at r0 r1 HXS;have HA3:=hid (bal w2 (.cells #[.string ⟨x1.toArray⟩,.string ⟨x2.toArray⟩] 37));have X3:=hid (heap_alloc_new w2 (.cells #[.string ⟨x1.toArray⟩,.string ⟨x2.toArray⟩] 37));go_upto_region 6 with fail;generalize w2.alloc (.cells #[.string ⟨x1.toArray⟩,.string ⟨x2.toArray⟩] 37)=w3 at *;have F3:=hid (bk HA3.out F2.out);have B3:=hid (B2.out.then HA3.out);have HXN:=hid (show w.heap.size≠w2.heap.size from Nat.ne_of_lt (lt_of_block F2.out));clear F2 B2 HA3 r0 r1;generalize w2.heap.size=Xb at *
   obtain⟨x0,x1',_,_,xl⟩:=Qq X3.out
   obtain⟨y0,y1,yf0,yf1,yl⟩:=Qq F3.out
   have I1:=hid (fun W=>IN.out W p x1 HP.out HXS.out.1)
   cases h1:inB p x1 with
   |false =>
    have HN:=hid (show Vb (D.take (k+1)) p=Vb (D.take k) p by rw[HTK.out,Qjk];rw[h1];simp);rw[h1]at I1;clear h1
    go_wp2_with (go_at_call 159;refine(I1.out _).mono ?_;rintro e w4 ⟨rfl,hb4⟩;have F4:=hid (bk hb4 F3.out);have B4:=hid (B3.out.then hb4);clear hb4)
    go_roundg (gk-1)
    case measure=>have:=HG.out;omega
    case rel=>exact⟨k+1,by omega,by have:=HG.out;omega,by rw[HN.out],by simp,by rw[HN.out];exact F4.out,B4.out⟩
   |true =>
    rw[h1]at I1;have HRB:=hid (show w.heap.size≤w.heap.size from Nat.le_refl _);generalize hfo:Vb (D.take k) p=fo at *
    cases fo with
    |none =>
     have HN:=hid (show Vb (D.take (k+1)) p=some (x1,x2)by rw[HTK.out,Qjj];rw[h1];rfl);clear h1 hfo
     go_wp2_with (go_at_call 159;refine(I1.out _).mono ?_;rintro e w4 ⟨rfl,hb4⟩;have F4:=hid (bk hb4 F3.out);have X4:=hid (bk hb4 X3.out);have B4:=hid (B3.out.then hb4);clear hb4 x0 x1' xl y0 y1 yf0 yf1 yl;obtain⟨x0,x1',_,_,xl⟩:=Qq X4.out;obtain⟨y0,y1,yf0,yf1,yl⟩:=Qq F4.out)
     go_roundg (gk-1)
     case measure=>have:=HG.out;omega
     case rel=>exact⟨k+1,by omega,by have:=HG.out;omega,by rw[HN.out];rfl,by simp,by rw[HN.out];exact Xy _ _ F4.out,Zr _ _ B4.out (Nat.le_refl _)⟩
    |some y =>
     have I2:=hid (fun W=>IN.out W x1 y.1 HXS.out.1 (by have:=HSZ.out;simpa[Qgq]using this))
     cases h2:inB x1 y.1 with
     |true =>
      have HN:=hid (show Vb (D.take (k+1)) p=some (x1,x2)by rw[HTK.out,Qjj];rw[h1];exact h2);rw[h2]at I2;clear h1 h2 hfo
      go_wp2_with (first
       |(go_at_call 159;refine(I1.out _).mono ?_;rintro e w4 ⟨rfl,hb4⟩;have F4:=hid (bk hb4 F3.out);have X4:=hid (bk hb4 X3.out);have B4:=hid (B3.out.then hb4);clear hb4 I1 x0 x1' xl y0 y1 yf0 yf1 yl;obtain⟨x0,x1',_,_,xl⟩:=Qq X4.out;obtain⟨y0,y1,yf0,yf1,yl⟩:=Qq F4.out)
       |(go_at_call 159;refine(I2.out _).mono ?_;rintro e w5 ⟨rfl,hb5⟩;have F5:=hid (bk hb5 F4.out);have X5:=hid (bk hb5 X4.out);have B5:=hid (B4.out.then hb5);clear hb5 x0 x1' xl y0 y1 yf0 yf1 yl;obtain⟨x0,x1',_,_,xl⟩:=Qq X5.out;obtain⟨y0,y1,yf0,yf1,yl⟩:=Qq F5.out))
      go_roundg (gk-1)
      case measure=>have:=HG.out;omega
      case rel=>exact⟨k+1,by omega,by have:=HG.out;omega,by rw[HN.out];rfl,by simp,by rw[HN.out];exact Xy _ _ F5.out,Zr _ _ B5.out (Nat.le_refl _)⟩
     |false =>
      have HN:=hid (show Vb (D.take (k+1)) p=some y by rw[HTK.out,Qjk];rw[h1];intro h;have h:inB x1 y.1=true:=h;rw[h2]at h;cases h);rw[h2]at I2;clear h1 h2 hfo
      go_wp2_with (first
       |(go_at_call 159;refine(I1.out _).mono ?_;rintro e w4 ⟨rfl,hb4⟩;have F4:=hid (bk hb4 F3.out);have X4:=hid (bk hb4 X3.out);have B4:=hid (B3.out.then hb4);clear hb4 I1 x0 x1' xl y0 y1 yf0 yf1 yl;obtain⟨x0,x1',_,_,xl⟩:=Qq X4.out;obtain⟨y0,y1,yf0,yf1,yl⟩:=Qq F4.out)
       |(go_at_call 159;refine(I2.out _).mono ?_;rintro e w5 ⟨rfl,hb5⟩;have F5:=hid (bk hb5 F4.out);have X5:=hid (bk hb5 X4.out);have B5:=hid (B4.out.then hb5);clear hb5 x0 x1' xl y0 y1 yf0 yf1 yl;obtain⟨x0,x1',_,_,xl⟩:=Qq X5.out;obtain⟨y0,y1,yf0,yf1,yl⟩:=Qq F5.out))
      go_roundg (gk-1)
      case measure=>have:=HG.out;omega
      case rel=>exact⟨k+1,by omega,by have:=HG.out;omega,by rw[HN.out];rfl,by simp,by rw[HN.out];exact F5.out,B5.out⟩
  ·have hni:¬(k:Int)<(D.length:Int):=by omega
   have hkn:k=D.length:=by omega
   have HTA:=hid (show D.take k=D by rw[hkn];exact List.take_length);rw[HTA.out]at F2 ⊢
   obtain⟨fo,hfo⟩:∃fo,fo=Vb D p:=⟨_,rfl⟩
   have HFO:=hid hfo;rw[←hfo]at F2 ⊢;clear hfo;have HV:=hid (alV_eq fo)
   obtain⟨y0,y1,yf0,yf1,yl⟩:=Qq F2.out
   obtain⟨q0,q1,_,_,ql⟩:=Qq (show(P2 w2 w.heap.size (.string ⟨(Qgq fo).toArray⟩) (.string ⟨(Zcw fo).toArray⟩)).heap[w.heap.size]?=some (.cells #[.string ⟨(Qgq fo).toArray⟩,.string ⟨(Zcw fo).toArray⟩] 37 (0,0))from Xy _ _ F2.out)
   unfold P2 at q0 q1 ql;go_wp2_with fail;exact bodyPost_ret (v:=.tuple #[.agg #[.string ⟨(Qgq fo).toArray⟩,.string ⟨(Zcw fo).toArray⟩],.bool fo.isSome]) (by simp[results,Tryz.results199,go_sem,q0,q1]) rfl ⟨by rw[←HFO.out,HV.out],Zr _ _ B2.out (Nat.le_refl _)⟩
theorem alead_any (w:World)(v:Value)(D:List Al)(p:Str)(h:Qsz w v D)(hp:p.length≤maxLen)(hs:szA D) :
  Calls Tryz.prog 153 #[v,.string ⟨p.toArray⟩] w fun e w'=>(∃s:Str,e=.returned (.tuple #[.string ⟨s.toArray⟩,.bool (Ym D p).isSome])∧∀t,Ym D p=some t→s=t)∧Below w.heap.size w w':=by
 have FI:=hid (afind_any w v D p h hp hs);have HS:=hid hs;have HP:=hid hp;have PV:∃b,v=.pointer (some ⟨b,0,none⟩):=by obtain⟨b,_,e,_⟩:=h;exact⟨b,e⟩
 obtain⟨b,rfl⟩:=PV
 clear h hp hs
 obtain⟨fo,hfo⟩:∃fo,fo=Vb D p:=⟨_,rfl⟩
 have HFO:=hid hfo;rw[←hfo,alV_eq]at FI;clear hfo
 go_enter Tryz.func153,Tryz.ntmps153
 go_wp2_with fail;refine FI.out.mono ?_;rintro e w1 ⟨rfl,hb1⟩;have B1:=hid hb1;clear hb1 FI;have HA2:=hid (bal w1 (.cells #[.string ⟨(Qgq fo).toArray⟩,.string ⟨(Zcw fo).toArray⟩] 37));have F2:=hid (heap_alloc_new w1 (.cells #[.string ⟨(Qgq fo).toArray⟩,.string ⟨(Zcw fo).toArray⟩] 37));go_upto_region 2 with fail;generalize w1.alloc (.cells #[.string ⟨(Qgq fo).toArray⟩,.string ⟨(Zcw fo).toArray⟩] 37)=w2 at *;have B2:=hid (B1.out.then HA2.out)
 obtain⟨x0,x1,_,_,xl⟩:=Qq F2.out
 cases fo with
 |none =>
  have HL:=hid (show Ym D p=none by unfold Ym;rw[←HFO.out]);go_wp2_with fail;refine bodyPost_ret (v:=.tuple #[.string ⟨#[]⟩,.bool false]) (by simp[results,Tryz.results153,go_sem]) rfl ?_
  exact⟨⟨[],by rw[HL.out];rfl,fun t ht=>by rw[HL.out]at ht;cases ht⟩,B2.out⟩
 |some x =>
  have HL:=hid (show Ym D p=(Yf p x.1).bind fun r=>Gt x.2 r by unfold Ym;rw[←HFO.out]);have HXD:=hid (HS.out x (Cx HFO.out.symm).1);have HIN:=hid (Cx HFO.out.symm).2
  obtain⟨r,hr⟩:∃r,Yf p x.1=some r:=by
   have:=HIN.out
   unfold inB at this;exact Option.isSome_iff_exists.1 this
  have RS:=hid (Qkj w2 p x.1 HP.out HXD.out.1);have HRL:=hid (show r.length≤maxLen by
   obtain⟨l,m,_,_,e,hp2⟩:=Uv hr
   have:=(Zy hp2).2.2.2.1
   rw[(Zy hp2).2.2.2.2]at this;unfold maxLen;omega)
  rw[hr]at RS;rw[hr]at HL;have HL2:=hid (show Ym D p=Gt x.2 r from HL.out);clear hr HL HFO;simp only[Qgq,Zcw,Option.map_some,Option.getD_some]at x0 x1 ⊢;have JN:=hid (fun W=>Zwy W x.2 r HXD.out.2 HRL.out);unfold Zww at RS
  go_wp2_with (first
   |(go_at_call 122;refine RS.out.mono ?_;rintro e w3 ⟨rfl,hb3⟩;have F3:=hid (bk hb3 F2.out);have B3:=hid (B2.out.then hb3);clear hb3 x0 x1 xl;obtain⟨x0,x1,_,_,xl⟩:=Qq F3.out)
   |(go_at_call 123;refine(JN.out _).mono ?_;rintro e w4 ⟨⟨er,rfl,hz⟩,hb4⟩;have HZ:=hid hz;have B4:=hid (B3.out.then hb4);clear hb4 hz))
  refine bodyPost_ret (v:=.tuple #[.string ⟨((Gt x.2 r).getD []).toArray⟩,.bool ((er:Int)==0)]) (by simp[results,Tryz.results153,go_sem]) rfl ?_
  refine⟨⟨(Gt x.2 r).getD [],?_,fun t ht=>?_⟩,B4.out⟩
  ·rw[HL2.out]
   cases hj:(Gt x.2 r).isSome with
   |true=>have:=HZ.out.2 hj;subst this;rfl
   |false =>
    have hne:er≠0:=fun e=>by rw[HZ.out.1 e]at hj;cases hj
    have:((er:Int)==0)=false:=beq_eq_false_iff_ne.2 (by omega)
    rw[this]
  ·rw[HL2.out]at ht;rw[ht];rfl
end
section
open Go.RowKit Go.Lib Go.Sort
theorem Xzy (a:Addr)(c:Nat)(w:World) :
  Calls Tryz.prog 117 #[.slice (some a) 0 c] w fun e w'=>∃v',e=.returned v'∧Qd w' w.heap.size v' []∧Below w.heap.size w w':=by
 obtain⟨i0,hi,hz0,hz1,hz2⟩:=info_parts Zph
 have q22:∀(w:World) (a:Option Addr) (n c n' c':Nat),(binOp .eql 31 (.slice a n c) (.slice none n' c')).run Tryz.prog w=.ok (.bool a.isNone) w:=fun w a n c n' c'=>Lib.run_eql_slice_nil w _ _ a n c n' c' Tryz.underlying31
 go_enter Tryz.func117,Tryz.ntmps117
 go_wp2_with (at_builtin;refine wpList_append_own _ rfl _ _ 31 rfl w.heap.size 37 i0 (.agg #[.string ⟨#[]⟩,.string ⟨#[]⟩]) 2 32 Tryz.underlying31 hi hz0 hz1 hz2 rfl (by decide) _ _ _ rfl (World.ownsRow_made w #[] 0 (Nat.le_refl _) (Nat.zero_le _) (by simp)) a 0 c [] rfl rfl (by intro j u hj;simp at hj) (by intro u hu;cases hu) (by unfold maxLen;omega) (by omega) (by simp) ?_)
 intro v' w1 hown hgrow hnil
 go_wp2
 go_ret
 refine⟨v',rfl,by simpa[Qd,Kz]using hown,?_⟩
 exact((Below.refl _ w).alloc (Nat.le_refl _) _).grown hgrow (by simp) (by intro k hk;simp[Value.ownBlock]at hk;omega)
theorem Qsx (w:World)(v:Value)(l:List (Str×Str))(h:RdP w v l)(hl:l.length≤1000) :
  Calls Tryz.prog 117 #[v] w fun e w'=>∃v',e=.returned v'∧Qd w' w.heap.size v' l∧Below w.heap.size w w':=by
 obtain⟨ao,cp,rfl,hl1,hr⟩:=h
 cases ao with
 |none =>
  obtain⟨rfl,rfl⟩:=hl1.2 rfl
  have hc:=AnyE.slices_Clone_nil Tryz.clPair 0 0 w;change Calls Tryz.prog 117 _ _ _ at hc;exact hc.mono fun e w' hh=>⟨_,hh.1,World.ownsRow_nil _ _ _ _,hh.2▸Below.refl _ _⟩
 |some a =>
  by_cases hn:l=[]
  ·subst hn;exact Xzy a cp w
  ·obtain⟨b,off,he,hlt,hc⟩:=hr hn
   obtain rfl:a=⟨b,off,none⟩:=Option.some.inj he
   obtain⟨i0,hi,hz0,hz1,hz2⟩:=info_parts Zph
   have hcall:=AnyE.slices_Clone Tryz.clPair i0 (.agg #[.string ⟨#[]⟩,.string ⟨#[]⟩]) 2 32 hi hz0 hz1 hz2 rfl (by decide) Tryz.sizeOf37 b off l.length cp (Kz l) w (Kn l) (by unfold maxLen;omega) (by omega) (fun j u hu=>by
     have hj:=(List.getElem?_eq_some_iff.1 hu).1;rw[Kn]at hj;have hjm:j / 2<l.length:=by omega
     have hdm:j / 2 * 2+j % 2=j:=by omega
     have h2:=Cz l (j / 2) (j % 2) hjm (by omega);rw[hdm,hu]at h2
     have:=hc (j / 2) (j % 2) u hjm h2.symm
     rw[show off+j / 2 * 2+j % 2=off+j by omega]at this;exact this) (fun u hu=>by
     obtain⟨x,_,hx⟩:=List.mem_flatMap.1 hu
     simp only[Kt,List.mem_cons,List.not_mem_nil,or_false]at hx
     rcases hx with rfl|rfl <;> rfl)
   change Calls Tryz.prog 117 _ _ _ at hcall;exact hcall.mono fun e w' ⟨v',h1,h2,_,h3⟩=>⟨v',h1,h2,h3⟩
theorem aall_any (w:World)(v:Value)(D:List Al)(h:Qsz w v D)(hn:D.length≤1000) :
  Calls Tryz.prog 121 #[v] w fun e w'=>∃vv,e=.returned vv∧Qd w' w.heap.size vv D∧Below w.heap.size w w':=by
 obtain⟨b,kv,rfl,hb,hr⟩:=h
 obtain⟨ao,cp,rfl,_,_⟩:=Xm hr
 have CL:=hid (Qsx w _ D hr hn);have a0:w.cell? ⟨b,0,none⟩=some (.slice ao D.length cp):=cR hb;have a1:=lt_of_block hb;clear hb hr
 go_enter Tryz.func121,Tryz.ntmps121
 go_wp2_with fail;refine CL.out.mono ?_;rintro e w1 ⟨vv,rfl,ho,hb1⟩;go_wp2_with fail;exact bodyPost_ret (v:=vv) (by simp[results,Tryz.results121,go_sem]) rfl ⟨vv,rfl,ho,hb1⟩
end
end Go.Proofs.YtbbmdbolkicpcabGreatDoor
