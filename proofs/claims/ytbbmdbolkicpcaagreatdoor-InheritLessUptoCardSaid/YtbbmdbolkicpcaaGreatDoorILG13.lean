/- TbSame, ChRings, ChNew, InhP, AliasT, InhQ, InhMem, AlAll, AlRing, AlReach -/
import Derived.Test.YtbbmdbolkicpcaaGreatDoorILG12
import Derived.Test.YtbbmdbolkicpcaaGreatDoorILG10
import Derived.WalkMore
import Derived.Test.YtbbmdbolkicpcaaGreatDoorILG09
import Derived.BigQuiet
import Derived.Deep.Cut
import Derived.Test.YtbbmdbolkicpcaaGreatDoorILG11
import Derived.Test.YtbbmdbolkicpcaaGreatDoorILG07
import Derived.Test.YtbbmdbolkicpcaaGreatDoorILG05
import Derived.Test.YtbbmdbolkicpcaaGreatDoorILShelf
import Derived.Test.YtbbmdbolkicpcaaGreatDoorILG04
set_option maxRecDepth 100000
set_option maxHeartbeats 32000000
set_option linter.unusedVariables false
set_option linter.unusedSimpArgs false
namespace Go.Proofs.YtbbmdbolkicpcaaGreatDoor
section
open Go.RowKit Go.Lib Go.Sort Go.Maps Go.WideMaps
def TbP (B0:Nat)(W:World)(pt:Nat)(t:Tb):Prop:=∃ bv ba bn bp N V,TbIn B0 W pt bv ba bn bp N V t
section
variable {B0 : Nat} {W W' : World} {pt : Nat} {t : Tb}
theorem TbP.below (h:TbP B0 W pt t)(hb:Below W.heap.size W W'):TbP B0 W' pt t:=by
 obtain⟨bv,ba,bn,bp,N,V,h⟩:=h
 exact⟨bv,ba,bn,bp,N,V,h.below hb⟩
theorem TbP.locales (h:TbP B0 W pt t)(ok:Jq t):Calls Tryz.prog 17 #[.pointer (some ⟨pt,0,none⟩)] W fun e w'=>OutS W (srtT t.names) e w':=by
 obtain⟨bv,ba,bn,bp,N,V,h⟩:=h
 exact locales_any h ok
theorem TbP.paths (h:TbP B0 W pt t)(ok:Jq t)(loc:Str)(hl:loc.length≤maxLen):Calls Tryz.prog 18 #[.pointer (some ⟨pt,0,none⟩),.string ⟨loc.toArray⟩] W fun e w'=>OutS W (Qn t loc) e w':=by
 obtain⟨bv,ba,bn,bp,N,V,h⟩:=h
 exact paths_any h ok loc hl
theorem TbP.aliases (h:TbP B0 W pt t)(ok:Jq t)(hs:t.als.length≤1000):Calls Tryz.prog 30 #[.pointer (some ⟨pt,0,none⟩)] W fun e w'=>OutP W (Xq t) e w':=by
 obtain⟨bv,ba,bn,bp,N,V,h⟩:=h
 exact aliases_any h ok hs
theorem TbP.get (h:TbP B0 W pt t)(loc path:Str)(hl:loc.length≤maxLen)(hp:path.length≤maxLen):Calls Tryz.prog 19 #[.pointer (some ⟨pt,0,none⟩),.string ⟨loc.toArray⟩,.string ⟨path.toArray⟩] W fun e w'=>e=.returned (.tuple #[.string ⟨(rText (Qy t.rows loc path)).toArray⟩,.bool (Qy t.rows loc path).isSome])∧Below W.heap.size W w':=by
 obtain⟨bv,ba,bn,bp,N,V,h⟩:=h
 exact get_any h loc path hl hp
theorem TbP.where_ (h:TbP B0 W pt t)(loc path:Str)(hl:loc.length≤maxLen)(hp:path.length≤maxLen):Calls Tryz.prog 29 #[.pointer (some ⟨pt,0,none⟩),.string ⟨loc.toArray⟩,.string ⟨path.toArray⟩] W fun e w'=>e=.returned (.tuple #[.int .i64 (rFile (Qy t.rows loc path)),.int .i64 (rAt (Qy t.rows loc path)),.bool (Qy t.rows loc path).isSome])∧Below W.heap.size W w':=by
 obtain⟨bv,ba,bn,bp,N,V,h⟩:=h
 exact where_any h loc path hl hp
end
theorem rText_eq {a b:Option Rw}(h:a.map (·.text)=b.map (·.text)):rText a=rText b:=by
 unfold rText;rw [h]
theorem path_has {t:Tb}{loc p:Str}(h:p∈Qn t loc):(Qy t.rows loc p).isSome=true:=by
 have h1:=(srtT_perm _).mem_iff.1 h
 obtain⟨r,hr,rfl⟩:=List.mem_map.1 h1
 obtain⟨h2,h3⟩:=List.mem_filter.1 hr
 cases hf:Qy t.rows loc r.path with
 | some x=>rfl
 | none=>exact absurd ⟨by simpa using h3,rfl⟩ (findR_none.1 hf r h2)
structure SzT (t:Tb):Prop where
 names:∀ s∈t.names,s.length≤maxLen
 rows:∀ r∈t.rows,r.path.length≤maxLen
theorem paths_sz {t:Tb}(h:SzT t){loc p:Str}(hp:p∈Qn t loc):p.length≤maxLen:=by
 have h1:=(srtT_perm _).mem_iff.1 hp
 obtain⟨r,hr,rfl⟩:=List.mem_map.1 h1
 exact h.rows r (List.mem_filter.1 hr).1
theorem names_sz {t:Tb}(h:SzT t){s:Str}(hp:s∈srtT t.names):s.length≤maxLen:=h.names s ((srtT_perm _).mem_iff.1 hp)
end
section
open Go.RowKit Go.Lib Go.Sort Go.Maps
def RingOut (D:List (Str×Str))(k:Str)(w:World)(e:Ending)(w':World):Prop:=(∃ b:Bool,e=.returned (.bool b)∧(b=true↔ringP D k))∧Below w.heap.size w w'
theorem ringOut_yes {D:List (Str×Str)}{k:Str}{w w':World}(h:ringP D k)(hb:Below w.heap.size w w'):RingOut D k w (.returned (.bool true)) w':=⟨⟨true,rfl,fun _=>h,fun _=>rfl⟩,hb⟩
theorem ringOut_no {D:List (Str×Str)}{k:Str}{w w':World}(h:¬ ringP D k)(hb:Below w.heap.size w w'):RingOut D k w (.returned (.bool false)) w':=⟨⟨false,rfl,fun e=>(by cases e),fun e=>absurd e h⟩,hb⟩
structure RingSt (w:World)(D:List (Str×Str))(k:Str)(g:Nat)(W:World)(j:Nat)(a:Str)(L:List Str):Prop where
 it:iter D j k=some a
 own:OwnB W w.heap.size j L
 len:L.length=j
 nd:L.Nodup
 mem:∀ x,x∈L↔∃ i,i<j∧iter D (i+1) k=some x
 no:k ∉ L
 gas:(reach D k).length+1≤j+g
 bel:Below w.heap.size w W
theorem RingSt.room {w W:World}{D:List (Str×Str)}{k a:Str}{g j:Nat}{L:List Str}(hD:saidOK D)(hk:Qk k=true)(h:RingSt w D k g W j a L):j≤(reach D k).length:=by
 rw [← h.len];refine nodup_le L _ h.nd fun x hx=>?_
 obtain⟨i,_,hi⟩:=(h.mem x).1 hx
 exact iter_reach hD hk _ _ hi
theorem RingSt.hits {w W:World}{D:List (Str×Str)}{k a:Str}{g j:Nat}{L:List Str}(h:RingSt w D k g W j a L):∀ i,i<j→iter D (i+1) k≠some k:=fun i hi e=>h.no ((h.mem k).2 ⟨i,hi,e⟩)
theorem RingSt.next {w W W':World}{D:List (Str×Str)}{k a x:Str}{g j:Nat}{L:List Str}(h:RingSt w D k g W j a L)(hs:stepF D a=some x)(hx:x≠k)(hm:x ∉ L)(own:OwnB W' w.heap.size (j+1) (x::L))(hg:1≤g)(bel:Below w.heap.size w W'):RingSt w D k (g - 1) W' (j+1) x (x::L):=by
 have hit:iter D (j+1) k=some x:=by rw [iter,h.it];exact hs
 refine⟨hit,own,by rw [List.length_cons,h.len],List.nodup_cons.2 ⟨hm,h.nd⟩,fun y=>?_,?_,by have:=h.gas;omega,bel⟩
 ·rw [List.mem_cons,h.mem]
  constructor
  ·rintro(rfl | ⟨i,hi,hy⟩)
   ·exact⟨j,by omega,hit⟩
   ·exact⟨i,by omega,hy⟩
  ·rintro⟨i,hi,hy⟩
   by_cases he:i=j
   ·subst he;rw [hit] at hy;cases hy;exact Or.inl rfl
   ·exact Or.inr ⟨i,by omega,hy⟩
 ·rw [List.mem_cons]
  rintro(e | e)
  ·exact hx e.symm
  ·exact h.no e
theorem rings_any (w:World)(v:Value)(D:List (Str×Str))(k:Str)(h:ChRd w v D)(hD:saidOK D)(hk:Qk k=true)(hsz:D.length≤4398046511104) :
  Calls Tryz.prog 56 #[v,.string ⟨k.toArray⟩] w fun e w'=>RingOut D k w e w':=by
 have hmm:=@run_makeMap Tryz.prog;have PA:=hid (fun W (hb:Below w.heap.size w W) (a:Str) (ha:a.length≤maxLen)=>parent_any W v D a (h.below hb) ha);have hrl:=reach_len D k;have HRL:=hid hrl;have HD:=hid hD;have HK:=hid hk;have HSZ:=hid hsz
 obtain⟨bc,bm,n0,rfl,_,_,_⟩:=h
 clear hrl hD hsz;have hb0:Below w.heap.size w (w.alloc (.map #[] 0)):=bal _ _;have ST0:=hid (show RingSt w D k ((reach D k).length+1) (w.alloc (.map #[] 0)) 0 k [] from⟨rfl,OwnB.made w,rfl,List.nodup_nil,fun x=>⟨fun h=>(by cases h),fun⟨i,hi,_⟩=>(by omega)⟩,by simp,by omega,hb0⟩);clear hb0 hk
 obtain⟨N,hN⟩:∃ N,N=(reach D k).length:=⟨_,rfl⟩
 have HN:=hid hN;clear hN
 go_enter Tryz.func56,Tryz.ntmps56
 go_wp2_with fail
 go_step3
 go_wp2_with fail
 go_step3
 go_wp2_with fail
 go_loopg [6] (N+1) (fun g va W=>∃ (j:Nat) (a:Str) (L:List Str),va=.string ⟨a.toArray⟩∧RingSt w D k g W j a L)
 case atStart=>exact⟨0,k,[],rfl,by rw [HN.out];exact ST0.out⟩
 case round =>
  obtain⟨j,a,L,rfl,st⟩:=hrel
  rename World=>w1
  have ST:=hid st;have hal:a.length≤maxLen:=Nat.le_trans (named_len (iter_named HD.out HK.out j a st.it)) (by decide);have hbl:=st.bel;have HRM:=hid (RingSt.room HD.out HK.out st);clear st ST0;go_wp2_with fail
  refine(PA.out _ hbl a hal).mono ?_
  rintro e w2 ⟨rfl,hb2⟩;have HB2:=hid (hbl.then hb2);have HOW:=hid (ST.out.own.below hb2);clear hb2 hbl hal;generalize hq:Xw D a=q;have HQ:=hid hq;clear hq
  obtain⟨x,ok⟩:=q
  simp only
  cases ok with
  | false =>
   have HNO:=hid (ring_no1 ST.out.it (parent_none (by rw [HQ.out])) ST.out.hits);go_wp2_with fail
   go_ret
   exact ringOut_no HNO.out HB2.out
  | true =>
   have HS:=hid (parent_step HQ.out);have HXN:=hid (step_named HD.out HS.out);have hxl:x.length≤maxLen:=Nat.le_trans (named_len HXN.out) (by decide)
   by_cases hxk:x=k
   ·have hub:(x==k)=true:=by rw [hxk];simp
    have HYES:=hid (show ringP D k from⟨j,by rw [iter,ST.out.it];show stepF D a=some k;rw [← hxk];exact HS.out⟩);clear hxk;go_wp2_with fail
    go_ret
    exact ringOut_yes HYES.out HB2.out
   ·have hub:(x==k)=false:=by rw [beq_eq_false_iff_ne];exact hxk
    have HXK:=hid hxk;clear hxk
    by_cases hm:x∈L
    ·have HM:=hid (show decide (x∈L)=true by simp [hm]);have HNO:=hid (show ¬ ringP D k by
      obtain⟨i,hi,hx⟩:=(ST.out.mem x).1 hm
      exact ring_no3 ST.out.it HS.out hi hx ST.out.hits)
     clear hm
     go_wp2_with (at_lookup;refine wpList_met_b HOW.out rfl _ _ rfl rfl x rfl hxl true HM.out ?_)
     go_ret
     exact ringOut_no HNO.out HB2.out
    ·have HM:=hid (show decide (x∈L)=false by simp [hm]);have HXL:=hid hm;have hjn:j<maxLen:=by have:=HRM.out;have:=HRL.out;have:=HSZ.out;unfold maxLen;omega
     have HJN:=hid hjn;clear hm hjn
     go_wp2_with (first
      | (at_lookup;refine wpList_met_b HOW.out rfl _ _ rfl rfl x rfl hxl false HM.out ?_)
      | (at_mapUpdate;refine wpList_mark HOW.out rfl _ _ _ rfl rfl HJN.out x rfl rfl hxl ?_;intro w3 hown3 hgr3))
     have HO3:=hid hown3;have HB3:=hid (HB2.out.grown hgr3 HB2.out.size (fun j hj=>by cases hj;exact Nat.le_refl _));clear hown3 hgr3;go_wp2_with fail;have hgk:1≤gk:=by have:=HRM.out;have:=ST.out.gas;omega
     go_roundg (gk - 1)
     case measure=>omega
     case rel=>exact⟨j+1,x,x::L,rfl,ST.out.next HS.out HXK.out HXL.out HO3.out hgk HB3.out⟩
end
section
open Go.RowKit Go.Lib Go.Sort Go.Maps
def ChAt (B:Nat)(w:World)(v:Value)(D:List (Str×Str)):Prop :=
 ∃ bc bm n,v=.pointer (some ⟨bc,0,none⟩)∧B≤bc∧B≤bm∧w.heap[bc]?=some (.cells #[.map (some bm)] 111 (0,0))∧OwnM w bm n D
theorem ChAt.rd {B:Nat}{w:World}{v:Value}{D:List (Str×Str)}(h:ChAt B w v D):ChRd w v D:=by
 obtain⟨bc,bm,n,h1,_,_,h2,h3⟩:=h
 exact⟨bc,bm,n,h1,lt_of_block h2,by rw [cell_of_row _ _ _ _ _ _ h2];rfl,h3⟩
theorem ChAt.below {B:Nat}{w w':World}{v:Value}{D:List (Str×Str)}(h:ChAt B w v D)(hb:Below w.heap.size w w'):ChAt B w' v D:=by
 obtain⟨bc,bm,n,h1,h2,h3,h4,h5⟩:=h
 exact⟨bc,bm,n,h1,h2,h3,bk hb h4,h5.below hb⟩
def NewRes (w:World)(l:List (Str×Str))(e:Ending)(w':World):Prop :=
 ∃ (er i:Nat) (vc:Value),e=.returned (.tuple #[vc,.agg #[.int .i64 er,.int .i64 i]])∧NewOut l er i∧(er=0→ChAt w.heap.size w' vc l)∧(er≠0→vc=.pointer none)∧Below w.heap.size w w'
def F2 (w:World)(B e i:Nat):World:=(w.setCell ⟨B,0,none⟩ (.int .i64 e)).setCell ⟨B,1,none⟩ (.int .i64 i)
structure NewSt (w:World)(l:List (Str×Str))(W:World)(n:Nat):Prop where
 bad:badAt [] l=badAt (l.take n) (l.drop n)
 own:OwnM W (w.heap.size+1) n (l.take n)
 f:W.heap[w.heap.size]?=some (.cells #[.int .i64 0,.int .i64 0] 69 (0,0))
 c:W.heap[w.heap.size+1+1]?=some (.cells #[.map (some (w.heap.size+1))] 111 (0,0))
 bel:Below w.heap.size w W
theorem NewSt.below {w W W':World}{l:List (Str×Str)}{n:Nat}(h:NewSt w l W n)(hb:Below W.heap.size W W'):NewSt w l W' n :=
 ⟨h.bad,h.own.below hb,bk hb h.f,bk hb h.c,h.bel.then hb⟩
theorem NewSt.step {w W W':World}{l:List (Str×Str)}{n:Nat}(h:NewSt w l W n)(hn:n<l.length)(h1:(Qk l[n].1=true∧Qk l[n].2=true)∧l[n].1≠Qv)(h2:look (l.take n) l[n].1=none)
  (own:OwnM W' (w.heap.size+1) (n+1) (l.take n++[(l[n].1,l[n].2)]))(hg:W.grownBy W' (some (w.heap.size+1))):NewSt w l W' (n+1):=by
 have hf:=lt_of_block h.f;have hc:=lt_of_block h.c
 refine⟨?_,?_,(hg.block _ hf (by simp)).trans h.f,(hg.block _ hc (by simp)).trans h.c,h.bel.grown hg h.bel.size (fun j hj=>by cases hj;omega)⟩
 ·rw [h.bad,bad_step hn,if_pos h1,if_pos h2]
 ·rw [List.take_add_one,List.getElem?_eq_getElem hn];exact own
theorem new_bad2 {l:List (Str×Str)}{n:Nat}(hb:badAt [] l=badAt (l.take n) (l.drop n))(hn:n<l.length)(h1:¬ ((Qk l[n].1=true∧Qk l[n].2=true)∧l[n].1≠Qv)):NewOut l 2 n :=
 Or.inl (by rw [hb,bad_step hn,if_neg h1])
theorem new_bad211 {l:List (Str×Str)}{n:Nat}{y:Str}(hb:badAt [] l=badAt (l.take n) (l.drop n))(hn:n<l.length)(h1:(Qk l[n].1=true∧Qk l[n].2=true)∧l[n].1≠Qv)(h2:look (l.take n) l[n].1=some y):NewOut l 211 n :=
 Or.inl (by rw [hb,bad_step hn,if_pos h1,if_neg (by rw [h2];simp)])
theorem F2_row {w:World}{B:Nat}(e i:Nat)(h:w.heap[B]?=some (.cells #[.int .i64 0,.int .i64 0] 69 (0,0))):(F2 w B e i).heap[B]?=some (.cells #[.int .i64 e,.int .i64 i] 69 (0,0)):=by
 unfold F2;rw [heap_setCell_same _ _ _ _ _ _ (heap_setCell_same _ _ _ _ _ _ h)]
 simp
theorem F2_other {w:World}{B b:Nat}(e i:Nat)(h:b≠B):(F2 w B e i).heap[b]?=w.heap[b]?:=by
 unfold F2;rw [heap_setCell_other _ _ _ _ h,heap_setCell_other _ _ _ _ h]
theorem F2_below {w w0:World}{B:Nat}(e i:Nat)(h:Below B w0 w):Below B w0 (F2 w B e i):=(h.setCell (Nat.le_refl _) _).setCell (Nat.le_refl _) _
theorem new_ret {w W:World}{l:List (Str×Str)}(er i:Nat)(vc:Value)(hf:W.heap[w.heap.size]?=some (.cells #[.int .i64 0,.int .i64 0] 69 (0,0)))(hb:Below w.heap.size w W)(ho:NewOut l er i)
  (h0:er=0→ChAt w.heap.size (F2 W w.heap.size er i) vc l)(h1:er≠0→vc=.pointer none){a:Act}(hd:a.defers=[])(h2:a.tmps.getD 2 undef=vc)(h3:a.tmps.getD 3 undef=.pointer (some ⟨w.heap.size,0,none⟩)) :
  bodyPost Tryz.prog Tryz.f28 (fun e w'=>NewRes w l e w') Exit.ret a (F2 W w.heap.size er i):=by
 have hr:=F2_row er i hf;have hbb:=F2_below er i hb;generalize F2 W w.heap.size er i=V at *;have e0:V.cell? ⟨w.heap.size,0,none⟩=some (.int .i64 er):=cR hr;have e1:V.cell? ⟨w.heap.size,1,none⟩=some (.int .i64 i):=cR hr;refine bodyPost_ret (v:=.tuple #[vc,.agg #[.int .i64 er,.int .i64 i]]) ?_ hd ⟨er,i,vc,rfl,ho,h0,h1,hbb⟩
 obtain⟨tmps,defers⟩:=a
 simp only [Array.getD_eq_getD_getElem?] at h2 h3
 simp [results,Tryz.results28,go_sem,h2,h3,e0,e1]
theorem NewSt.start (w:World)(l:List (Str×Str)):NewSt w l (((w.alloc (.cells #[.int .i64 0,.int .i64 0] 69)).alloc (.map #[] 0)).alloc (.cells #[.map (some (w.heap.size+1))] 111)) 0:=by
 have s1:(w.alloc (.cells #[.int .i64 0,.int .i64 0] 69)).heap.size=w.heap.size+1:=by simp
 have s2:((w.alloc (.cells #[.int .i64 0,.int .i64 0] 69)).alloc (.map #[] 0)).heap.size=w.heap.size+1+1:=by simp
 refine⟨by simp,?_,?_,?_,?_⟩
 ·have:=OwnM.made (w.alloc (.cells #[.int .i64 0,.int .i64 0] 69))
  rw [s1] at this;exact this.block (heap_alloc_old _ _ (by rw [s2];omega))
 ·exact(heap_alloc_old _ _ (by rw [s2];omega)).trans ((heap_alloc_old _ _ (by rw [s1];omega)).trans (heap_alloc_new w _))
 ·have:=heap_alloc_new ((w.alloc (.cells #[.int .i64 0,.int .i64 0] 69)).alloc (.map #[] 0)) (.cells #[.map (some (w.heap.size+1))] 111)
  rw [s2] at this;exact this
 ·exact((bal _ _).alloc (by rw [s1];omega) _).alloc (by rw [s2];omega) _
theorem NewSt.chRd {w W:World}{l:List (Str×Str)}(h:NewSt w l W l.length):ChRd W (.pointer (some ⟨w.heap.size+1+1,0,none⟩)) l :=
 ⟨_,w.heap.size+1,l.length,rfl,lt_of_block h.c,by rw [cell_of_row _ _ _ _ _ _ h.c];rfl,by have:=h.own;rw [List.take_length] at this;exact this⟩
theorem NewSt.okB {w W:World}{l:List (Str×Str)}(h:NewSt w l W l.length):badAt [] l=none:=by
 have:=h.bad
 rw [List.take_length,List.drop_length] at this;rw [this];rfl
theorem NewSt.done {w W:World}{l:List (Str×Str)}(h:NewSt w l W l.length):ChAt w.heap.size (F2 W w.heap.size 0 0) (.pointer (some ⟨w.heap.size+1+1,0,none⟩)) l:=by
 have e1:(F2 W w.heap.size 0 0).heap[w.heap.size+1+1]?=W.heap[w.heap.size+1+1]?:=F2_other 0 0 (by omega);have hc:=e1.trans h.c
 refine⟨_,w.heap.size+1,l.length,rfl,by omega,by omega,hc,?_⟩
 have:=h.own.block (w':=F2 W w.heap.size 0 0) (F2_other 0 0 (by omega))
 rw [List.take_length] at this;exact this
theorem new_any (w:World)(va:Value)(l:List (Str×Str))(hl:RdP w va l)(hp:PSz l)(hsz:l.length≤10000000000) :
  Calls Tryz.prog 28 #[va] w fun e w'=>NewRes w l e w':=by
 have hmm:=@run_makeMap Tryz.prog
 obtain⟨ao,cp,rfl,hlen,hcell⟩:=hl
 have HCELL:=hid hcell;have HP:=hid hp;have HSZ:=hid hsz;have NM:=hid (fun W (s:Str) (hs:s.length≤maxLen)=>named_any s W hs);simp only [NamedOut] at NM;have ST0:=hid (NewSt.start w l);clear hcell hp hsz
 go_enter Tryz.func28,Tryz.ntmps28
 go_upto_region 2 with (fail)
 generalize (((w.alloc (.cells #[.int .i64 0,.int .i64 0] 69)).alloc (.map #[] 0)).alloc (.cells #[.map (some (w.heap.size+1))] 111))=w0 at *;go_wp2_with fail
 go_loopg [20] l.length (fun g vi W=>∃ n:Nat,n≤l.length∧l.length≤n+g∧vi=.int .i64 n∧NewSt w l W n)
 case atStart=>exact⟨0,Nat.zero_le _,by omega,rfl,ST0.out⟩
 case round =>
  obtain⟨n,hn,hg,rfl,st⟩:=hrel
  rename World=>w1
  have HG:=hid hg;have ST1:=hid st;clear st ST0 hg
  by_cases hlt:n<l.length
  ·have hne:l≠[]:=by intro e;rw [e] at hlt;simp at hlt
   obtain⟨p1,o1,rfl,hp1,hc1⟩:=HCELL.out hne
   have hps:=HP.out _ (List.getElem_mem hlt)
   obtain⟨kv,hkv⟩:∃ kv,kv=l[n]'hlt:=⟨_,rfl⟩
   obtain⟨k,v⟩:=kv
   have hk:(l[n]'hlt).1=k:=by rw [← hkv]
   have hv:(l[n]'hlt).2=v:=by rw [← hkv]
   have q1:=(ST1.out.bel.cell (p:=⟨p1,o1+n * 2+0,none⟩) hp1).trans (hc1 n 0 (S k) hlt (by rw [← hkv];rfl));have q2:=(ST1.out.bel.cell (p:=⟨p1,o1+n * 2+1,none⟩) hp1).trans (hc1 n 1 (S v) hlt (by rw [← hkv];rfl));rw [S] at q1 q2;rw [Nat.add_zero] at q1;have hkl:k.length≤maxLen:=by rw [← hk];exact hps.1
   have hvl:v.length≤maxLen:=by rw [← hv];exact hps.2
   have HK:=hid hk;have HV:=hid hv;have hni:(n:Int)<(l.length:Int):=by omega
   have hn0:(0:Int)≤(n:Int):=by omega
   clear hk hv hkv hc1 hps hne
   go_upto_region 5 with (fail)
   have HPB:=hid (heap_alloc_new w1 (.cells #[.string ⟨k.toArray⟩,.string ⟨v.toArray⟩] 76));have HB2:=hid (bal w1 (.cells #[.string ⟨k.toArray⟩,.string ⟨v.toArray⟩] 76));generalize w1.alloc (.cells #[.string ⟨k.toArray⟩,.string ⟨v.toArray⟩] 76)=w2 at *;have ST2:=hid (ST1.out.below HB2.out);clear q1 q2 HB2;have c0:w2.cell? ⟨w1.heap.size,0,none⟩=some (.string ⟨k.toArray⟩):=cR HPB.out;have lt0:=lt_of_block HPB.out;go_wp2_with fail
   refine(NM.out _ k hkl).mono ?_
   rintro e w3 ⟨v3,rfl,⟨vv3,kv3,rfl,⟨a3,b3,rfl,_,_⟩,⟨a4,b4,rfl,_,_⟩⟩,hb3⟩;generalize namedT k=t3 at *;simp only [Qh,S];clear c0 lt0;have HPB3:=hid (bk hb3 HPB.out);have ST3:=hid (ST2.out.below hb3);clear hb3 HPB ST2
   go_upto_region 6 with (fail)
   have HB4:=hid (bal w3 (.cells #[.string ⟨t3.lang.toArray⟩,.string ⟨t3.script.toArray⟩,.string ⟨t3.region.toArray⟩,.slice a3 t3.vars.length b3,.slice a4 t3.keys.length b4] 113));generalize w3.alloc (.cells #[.string ⟨t3.lang.toArray⟩,.string ⟨t3.script.toArray⟩,.string ⟨t3.region.toArray⟩,.slice a3 t3.vars.length b3,.slice a4 t3.keys.length b4] 113)=w4 at *;have HPB4:=hid (bk HB4.out HPB3.out);have ST4:=hid (ST3.out.below HB4.out);clear HB4 HPB3 ST3;have c1:w4.cell? ⟨w1.heap.size,1,none⟩=some (.string ⟨v.toArray⟩):=cR HPB4.out;have lt1:=lt_of_block HPB4.out;go_wp2_with fail
   refine(NM.out _ v hvl).mono ?_
   rintro e w5 ⟨v5,rfl,⟨vv5,kv5,rfl,⟨a5,b5,rfl,_,_⟩,⟨a6,b6,rfl,_,_⟩⟩,hb5⟩;generalize namedT v=t5 at *;simp only [Qh,S];clear c1 lt1;have HPB5:=hid (bk hb5 HPB4.out);have ST5:=hid (ST4.out.below hb5);clear hb5 HPB4 ST4
   go_upto_region 7 with (fail)
   have HB6:=hid (bal w5 (.cells #[.string ⟨t5.lang.toArray⟩,.string ⟨t5.script.toArray⟩,.string ⟨t5.region.toArray⟩,.slice a5 t5.vars.length b5,.slice a6 t5.keys.length b6] 113));generalize w5.alloc (.cells #[.string ⟨t5.lang.toArray⟩,.string ⟨t5.script.toArray⟩,.string ⟨t5.region.toArray⟩,.slice a5 t5.vars.length b5,.slice a6 t5.keys.length b6] 113)=w6 at *;have HPB6:=hid (bk HB6.out HPB5.out);have ST6:=hid (ST5.out.below HB6.out);clear HB6 HPB5 ST5;have d0:w6.cell? ⟨w1.heap.size,0,none⟩=some (.string ⟨k.toArray⟩):=cR HPB6.out;have d1:w6.cell? ⟨w1.heap.size,1,none⟩=some (.string ⟨v.toArray⟩):=cR HPB6.out;have ltd:=lt_of_block HPB6.out;have y0:w6.cell? ⟨w.heap.size,0,none⟩=some (.int .i64 0):=cR ST6.out.f;have y1:w6.cell? ⟨w.heap.size,1,none⟩=some (.int .i64 0):=cR ST6.out.f;have fy0:=frozen_of_row w6 w.heap.size 0 _ _ ST6.out.f;have fy1:=frozen_of_row w6 w.heap.size 1 _ _ ST6.out.f;have lty:=lt_of_block ST6.out.f;have cc:w6.cell? ⟨w.heap.size+1+1,0,none⟩=some (.map (some (w.heap.size+1))):=cR ST6.out.c;have ltc:=lt_of_block ST6.out.c
   by_cases hgood:(Qk k=true∧Qk v=true)∧k≠Qv
   ·obtain⟨⟨g1,g2⟩,g3⟩:=hgood
    have hub:(k==[114,111,111,116])=false:=by rw [beq_eq_false_iff_ne];exact g3
    have hub2:(k != [114,111,111,116])=true:=by rw [bne_iff_ne];exact g3
    have HGOOD:=hid (show(Qk (l[n]'hlt).1=true∧Qk (l[n]'hlt).2=true)∧(l[n]'hlt).1≠Qv by rw [HK.out,HV.out];exact⟨⟨g1,g2⟩,g3⟩);rw [g1,g2];clear g1 g2 g3;have LK:=ST6.out.own.look_run k hkl;have LKd:∀ m,(Instr.lookup 109 (.map (some (w.heap.size+1))) (.string ⟨k.toArray⟩) true).run Tryz.prog (w6.drewN m)=.ok (.tuple #[.string ⟨((look (l.take n) k).getD []).toArray⟩,.bool (look (l.take n) k).isSome]) (w6.drewN m):=fun m=>(show OwnM (w6.drewN m) (w.heap.size+1) n (l.take n) from ST6.out.own.block rfl).look_run k hkl
    cases hlk:look (l.take n) k with
    | some y =>
     rw [hlk] at LK LKd;simp only [Option.getD_some,Option.isSome_some] at LK LKd;have HLK:=hid hlk;clear hlk;go_wp2_with fail
     go_quiet (fail)
     go_wp2_with fail;change bodyPost _ _ _ _ _ (F2 (w6.drewN _) w.heap.size 211 n);exact new_ret (W:=w6.drewN nq) 211 n (.pointer none) ST6.out.f (below_drewN ST6.out.bel _) (new_bad211 ST6.out.bad hlt HGOOD.out (by rw [HK.out];exact HLK.out)) (fun h=>by cases h) (fun _=>rfl) rfl rfl rfl
    | none =>
     rw [hlk] at LK LKd;simp only [Option.getD_none,Option.isSome_none] at LK LKd;have HLK:=hid hlk;clear hlk;go_wp2_with fail
     go_quiet (fail)
     go_wp2_with fail;have HB7:=hid (show Below w6.heap.size w6 (w6.drewN nq) from below_drewN (Below.refl _ _) nq);clear LK LKd d0 d1 ltd y0 y1 fy0 fy1 lty cc ltc;generalize w6.drewN nq=w7 at *;have HPB7:=hid (bk HB7.out HPB6.out);have ST7:=hid (ST6.out.below HB7.out);clear HB7 HPB6 ST6;have d0:w7.cell? ⟨w1.heap.size,0,none⟩=some (.string ⟨k.toArray⟩):=cR HPB7.out;have d1:w7.cell? ⟨w1.heap.size,1,none⟩=some (.string ⟨v.toArray⟩):=cR HPB7.out;have ltd:=lt_of_block HPB7.out;have cc:w7.cell? ⟨w.heap.size+1+1,0,none⟩=some (.map (some (w.heap.size+1))):=cR ST7.out.c;have ltc:=lt_of_block ST7.out.c
     obtain⟨w8,hrun,hown8,hgr8⟩:=(show OwnM w7.drew (w.heap.size+1) n (l.take n) from ST7.out.own).say_run (by have:=HSZ.out;unfold maxLen;omega) k v hkl hvl HLK.out
     have HO8:=hid hown8;have HG8:=hid hgr8;clear hown8 hgr8
     go_region
     all_goals go_wp2_with fail
     all_goals go_roundg (gk - 1)
     all_goals first
      | (have:=HG.out;omega)
      | exact⟨n+1,by omega,by have:=HG.out;omega,by simp,NewSt.step (W:=w7.drew) (show NewSt w l w7.drew n from⟨ST7.out.bad,ST7.out.own,ST7.out.f,ST7.out.c,ST7.out.bel.drew⟩) hlt HGOOD.out (by rw [HK.out];exact HLK.out) (by rw [HK.out,HV.out];exact HO8.out) HG8.out⟩
   ·have HBAD:=hid (show ¬ ((Qk (l[n]'hlt).1=true∧Qk (l[n]'hlt).2=true)∧(l[n]'hlt).1≠Qv) by rw [HK.out,HV.out];exact hgood);have hout:=hid (new_bad2 ST6.out.bad hlt HBAD.out)
    cases hn1:Qk k with
    | false =>
     clear hgood;go_wp2_with fail;change bodyPost _ _ _ _ _ (F2 w6 w.heap.size 2 n);exact new_ret 2 n (.pointer none) ST6.out.f ST6.out.bel hout.out (fun h=>by cases h) (fun _=>rfl) rfl rfl rfl
    | true =>
     cases hn2:Qk v with
     | false =>
      clear hgood;go_wp2_with fail;change bodyPost _ _ _ _ _ (F2 w6 w.heap.size 2 n);exact new_ret 2 n (.pointer none) ST6.out.f ST6.out.bel hout.out (fun h=>by cases h) (fun _=>rfl) rfl rfl rfl
     | true =>
      have hkr:k=Qv:=by
       apply Classical.byContradiction
       intro hc;exact hgood ⟨⟨hn1,hn2⟩,hc⟩
      have hub:(k==[114,111,111,116])=true:=by rw [hkr];rfl
      have hub2:(k != [114,111,111,116])=false:=by rw [hkr];rfl
      clear hgood hkr;go_wp2_with fail;change bodyPost _ _ _ _ _ (F2 w6 w.heap.size 2 n);exact new_ret 2 n (.pointer none) ST6.out.f ST6.out.bel hout.out (fun h=>by cases h) (fun _=>rfl) rfl rfl rfl
  ·have hnl:n=l.length:=by omega
   subst hnl;have HNB:=hid ST1.out.okB;have HSA:=hid (bad_none (done:=[]) HNB.out (fun p hp=>by cases hp));have RI:=hid (fun W (k:Str) (hst:NewSt w l W l.length) (hk:Qk k=true)=>rings_any W _ l k hst.chRd HSA.out hk (by have:=HSZ.out;omega));go_wp2_with fail
   go_loopg [74] l.length (fun g vi W=>∃ m:Nat,m≤l.length∧l.length≤m+g∧vi=.int .i64 m∧NewSt w l W l.length∧∀ j p,j<m→l[j]?=some p→¬ ringP l p.1)
   case atStart=>exact⟨0,Nat.zero_le _,by omega,rfl,ST1.out,fun j p hj=>by omega⟩
   case round =>
    obtain⟨m,hm,hg2,rfl,st,hno⟩:=hrel
    rename World=>w2
    have HG2:=hid hg2;have ST2:=hid st;have HNO:=hid hno;clear st hg2 hno ST1
    by_cases hlt2:m<l.length
    ·have hne:l≠[]:=by intro e;rw [e] at hlt2;simp at hlt2
     obtain⟨p1,o1,rfl,hp1,hc1⟩:=HCELL.out hne
     obtain⟨kv,hkv⟩:∃ kv,kv=l[m]'hlt2:=⟨_,rfl⟩
     obtain⟨k,v⟩:=kv
     have hk:(l[m]'hlt2).1=k:=by rw [← hkv]
     have q1:=(ST2.out.bel.cell (p:=⟨p1,o1+m * 2+0,none⟩) hp1).trans (hc1 m 0 (S k) hlt2 (by rw [← hkv];rfl));have q2:=(ST2.out.bel.cell (p:=⟨p1,o1+m * 2+1,none⟩) hp1).trans (hc1 m 1 (S v) hlt2 (by rw [← hkv];rfl));rw [S] at q1 q2;rw [Nat.add_zero] at q1;have HKN:=hid (show Qk k=true by rw [← hk];exact(HSA.out _ (List.getElem_mem hlt2)).1);have HKV:=hid (show l[m]?=some (k,v) by rw [List.getElem?_eq_getElem hlt2,hkv]);have hni:(m:Int)<(l.length:Int):=by omega
     have hn0:(0:Int)≤(m:Int):=by omega
     clear hk hkv hc1 hne
     go_upto_region 17 with (fail)
     have HPB:=hid (heap_alloc_new w2 (.cells #[.string ⟨k.toArray⟩,.string ⟨v.toArray⟩] 76));have HB3:=hid (bal w2 (.cells #[.string ⟨k.toArray⟩,.string ⟨v.toArray⟩] 76));generalize w2.alloc (.cells #[.string ⟨k.toArray⟩,.string ⟨v.toArray⟩] 76)=w3 at *;have ST3:=hid (ST2.out.below HB3.out);clear q1 q2 HB3;have c0:w3.cell? ⟨w2.heap.size,0,none⟩=some (.string ⟨k.toArray⟩):=cR HPB.out;have lt0:=lt_of_block HPB.out;go_wp2_with fail
     refine(RI.out _ k ST3.out HKN.out).mono ?_
     rintro e w4 ⟨⟨b,rfl,hb⟩,hb4⟩;have HRB:=hid hb;have ST4:=hid (ST3.out.below hb4);clear hb hb4 c0 lt0 HPB;have y0:w4.cell? ⟨w.heap.size,0,none⟩=some (.int .i64 0):=cR ST4.out.f;have y1:w4.cell? ⟨w.heap.size,1,none⟩=some (.int .i64 0):=cR ST4.out.f;have fy0:=frozen_of_row w4 w.heap.size 0 _ _ ST4.out.f;have fy1:=frozen_of_row w4 w.heap.size 1 _ _ ST4.out.f;have lty:=lt_of_block ST4.out.f
     cases b with
     | true =>
      have HOUT:=hid (show NewOut l 210 m from Or.inr (Or.inl ⟨HNB.out,rfl,⟨(k,v),HKV.out,HRB.out.1 rfl⟩,HNO.out⟩));go_wp2_with fail;change bodyPost _ _ _ _ _ (F2 w4 w.heap.size 210 m);exact new_ret 210 m (.pointer none) ST4.out.f ST4.out.bel HOUT.out (fun h=>by cases h) (fun _=>rfl) rfl rfl rfl
     | false =>
      have HNR:=hid (show ¬ ringP l k from fun h=>by have:=HRB.out.2 h;cases this);clear y0 y1 fy0 fy1 lty;go_wp2_with fail
      go_roundg (gk - 1)
      case measure=>have:=HG2.out;omega
      case rel=>exact⟨m+1,by omega,by have:=HG2.out;omega,by simp,ST4.out,fun j p hj hp=>by
       by_cases he:j=m
       ·subst he;rw [HKV.out] at hp;cases hp;exact HNR.out
       ·exact HNO.out j p (by omega) hp⟩
    ·have hml:m=l.length:=by omega
     have HOUT:=hid (show NewOut l 0 0 from Or.inr (Or.inr ⟨HNB.out,rfl,rfl,fun p hp=>by
      obtain⟨j,hj,rfl⟩:=List.getElem_of_mem hp
      exact HNO.out j _ (by omega) (List.getElem?_eq_getElem hj)⟩))
     have y0:w2.cell? ⟨w.heap.size,0,none⟩=some (.int .i64 0):=cR ST2.out.f;have y1:w2.cell? ⟨w.heap.size,1,none⟩=some (.int .i64 0):=cR ST2.out.f;have fy0:=frozen_of_row w2 w.heap.size 0 _ _ ST2.out.f;have fy1:=frozen_of_row w2 w.heap.size 1 _ _ ST2.out.f;have lty:=lt_of_block ST2.out.f;clear hml;go_wp2_with fail;change bodyPost _ _ _ _ _ (F2 w2 w.heap.size 0 0);exact new_ret 0 0 (.pointer (some ⟨w.heap.size+1+1,0,none⟩)) ST2.out.f ST2.out.bel HOUT.out (fun _=>ST2.out.done) (fun h=>absurd rfl h) rfl rfl rfl
end
section
open Go.Lib
def movedF (p:Str)(a:Al):Option Str:=(restF p a.2).bind fun r=>joinF a.1 r
theorem moved_path {p q:Str}{a:Al}(h:movedF p a=some q):Qm q=true:=by
 obtain⟨r,_,hj⟩:=Option.bind_eq_some_iff.1 h
 obtain⟨l,m,_,_,h3,_⟩:=join_some hj
 unfold Qm;rw [h3];rfl
inductive Gen (D:List Al)(S:List Str):Str→Prop
 | base {p:Str}:p∈S→Gen D S p
 | step {p q:Str} {a:Al}:Gen D S p→a∈D→movedF p a=some q→Gen D S q
theorem Gen.mono {D:List Al}{S S':List Str}(h:∀ p∈S,p∈S'){p:Str}(g:Gen D S p):Gen D S' p:=by
 induction g with
 | base h1=>exact .base (h _ h1)
 | step _ h1 h2 ih=>exact .step ih h1 h2
theorem Gen.path {D:List Al}{S:List Str}(h:∀ p∈S,Qm p=true){p:Str}(g:Gen D S p):Qm p=true:=by
 cases g with
 | base h1=>exact h _ h1
 | step _ _ h2=>exact moved_path h2
structure KnownIs (D:List Al)(S K:List Str):Prop where
 nodup:K.Nodup
 gen:∀ p∈K,Gen D S p
 base:∀ p∈S,p∈K
 closed:∀ p∈K,∀ a∈D,∀ q,movedF p a=some q→q∈K
theorem KnownIs.all {D:List Al}{S K:List Str}(h:KnownIs D S K){p:Str}(g:Gen D S p):p∈K:=by
 induction g with
 | base h1=>exact h.base _ h1
 | step _ h1 h2 ih=>exact h.closed _ ih _ h1 _ h2
theorem KnownIs.iff {D:List Al}{S K:List Str}(h:KnownIs D S K)(p:Str):p∈K↔Gen D S p:=⟨h.gen p,h.all⟩
def KnownOut (D:List Al)(S:List Str)(ok:Bool)(K:List Str):Prop :=
 (ok=true∧KnownIs D S K∧K.length≤16384)∨(ok=false∧∃ L:List Str,L.Nodup∧(∀ p∈L,Gen D S p)∧16384<L.length)
theorem known_agree {D:List Al}{S S' K K':List Str}{a b:Bool}(hS:∀ p,p∈S↔p∈S')(h:KnownOut D S a K)(g:KnownOut D S' b K'):a=b∧(a=true→srtT K=srtT K'∧K.length=K'.length):=by
 have m1:∀ {p},Gen D S p→Gen D S' p:=fun h=>h.mono fun p hp=>(hS p).1 hp
 have m2:∀ {p},Gen D S' p→Gen D S p:=fun h=>h.mono fun p hp=>(hS p).2 hp
 rcases h with ⟨rfl,h1,h2⟩ | ⟨rfl,L,h1,h2,h3⟩
 ·rcases g with ⟨rfl,g1,g2⟩ | ⟨rfl,L,g1,g2,g3⟩
  ·have hp:K.Perm K':=(List.perm_ext_iff_of_nodup h1.nodup g1.nodup).2 fun p=>by
    rw [h1.iff,g1.iff];exact⟨m1,m2⟩
   exact⟨rfl,fun _=>⟨srtT_of_perm hp,hp.length_eq⟩⟩
  ·have:=nodup_le L K g1 fun p hp=>h1.all (m2 (g2 p hp))
   omega
 ·rcases g with ⟨rfl,g1,g2⟩ | ⟨rfl,_⟩
  ·have:=nodup_le L K' h1 fun p hp=>g1.all (m1 (h2 p hp))
   omega
  ·exact⟨rfl,fun h=>by cases h⟩
def parentT:Str:=[112,97,114,101,110,116]
def localeT:Str:=[108,111,99,97,108,101]
def parF (p:Str):Option Str:=match Qb p with
 | some [(n,[(k,v)])]=>if n=parentT∧k=localeT then some v else none
 | _=>none
def parPs (t:Tb):List Str:=(Qn t []).filter fun p=>(parF p).isSome
def Xt (t:Tb):List (Str×Str):=(parPs t).map fun p=>((parF p).getD [],rText (Qy t.rows [] p))
structure Rsv where
 t:Tb
 par:List (Str×Str)
 als:List Al
 known:List Str
def arrows:Str:=[226,134,145,226,134,145,226,134,145]
def atF (t:Tb)(s:Str×Str):Option Str:=match Qy t.rows s.1 s.2 with
 | none=>none
 | some r=>if r.text=arrows∧s.1≠[] then none else some r.text
def Xh (t:Tb):List (Str×Str)→List (Str×Str)×Option Str
 | []=>([],none)
 | s::r=>match atF t s with
  | some v=>([s],some v)
  | none=>(s::(Xh t r).1,(Xh t r).2)
theorem lookF_append (t:Tb)(a b:List (Str×Str)):Xh t (a++b)=match (Xh t a).2 with
  | some v=>((Xh t a).1,some v)
  | none=>(a++(Xh t b).1,(Xh t b).2):=by
 induction a with
 | nil=>rfl
 | cons s r ih =>
  rw [List.cons_append,Xh,Xh]
  cases atF t s with
  | some v=>rfl
  | none =>
   simp only
   rw [ih]
   cases (Xh t r).2 <;> rfl
end
section
open Go.Lib
def Xc (s:Str):Str×Str:=if Zt Jy s then(s.takeWhile Zp,s.dropWhile Zp) else([],s)
theorem nameA_split (s:Str):s=(Xc s).1++(Xc s).2:=by
 unfold Xc
 split
 ·exact(List.takeWhile_append_dropWhile).symm
 ·rfl
theorem nameA_ok {s:Str}(h:(Xc s).1≠[]):Kq (Xc s).1=true:=by
 unfold Xc at h ⊢
 split
 ·next hc =>
  simp only [Kq,Bool.and_eq_true]
  refine⟨?_,List.all_takeWhile⟩
  cases s with
  | nil=>exact hc
  | cons c t =>
   have:Zp c=true:=by simp only [Zt] at hc;simp [Zp,hc]
   rw [List.takeWhile_cons,this];exact hc
 ·next hc=>rw [if_neg hc] at h;exact absurd rfl h
theorem nameA_len {s:Str}(h:(Xc s).1≠[]):(Xc s).2.length<s.length:=by
 have h1:=congrArg List.length (nameA_split s);rw [List.length_append] at h1
 have:=List.length_pos_iff.2 h
 omega
def quoteA (q:UInt8)(s:Str):Option (Str×Str):=match s.dropWhile (fun c=>c != q) with
 | []=>none
 | _::r=>if valOk (s.takeWhile (fun c=>c != q)) then some (s.takeWhile (fun c=>c != q),r) else none
def valueA:Str→Option (Str×Str)
 | []=>none
 | c::s=>if c=39∨c=34 then quoteA c s else none
theorem quoteA_ok {q:UInt8}{s v r:Str}(h:quoteA q s=some (v,r)):valOk v=true∧r.length<s.length∧v.length+r.length+1=s.length:=by
 unfold quoteA at h
 split at h
 ·cases h
 ·next c r' he =>
  split at h
  ·next hv =>
   cases h;have h1:=congrArg List.length (List.takeWhile_append_dropWhile (p:=fun c=>c != q) (l:=s));rw [List.length_append,he,List.length_cons] at h1
   exact⟨hv,by omega,by omega⟩
  ·cases h
theorem valueA_ok {s v r:Str}(h:valueA s=some (v,r)):valOk v=true∧r.length<s.length∧v.length≤s.length:=by
 cases s with
 | nil=>cases h
 | cons c s =>
  change (if c=39∨c=34 then quoteA c s else none)=some (v,r) at h
  by_cases hc:c=39∨c=34
  ·rw [if_pos hc] at h
   obtain⟨h1,h2,h3⟩:=quoteA_ok h
   exact⟨h1,by rw [List.length_cons];omega,by rw [List.length_cons];omega⟩
  ·rw [if_neg hc] at h;cases h
def keyA (ks:List (Str×Str))(s:Str):Option ((Str×Str)×Str):=match Xp 64 s with
 | none=>none
 | some s2 =>
  if(Xc s2).1∈ks.map (·.1) then none
  else if(Xc s2).1=[] then none
  else match Xp 61 (Xc s2).2 with
   | none=>none
   | some s4=>match valueA s4 with
    | none=>none
    | some (v,s5)=>match Xp 93 s5 with
     | none=>none
     | some s6=>some (((Xc s2).1,v),s6)
theorem keyA_ok {ks:List (Str×Str)}{s r:Str}{k:Str×Str}(h:keyA ks s=some (k,r)):Kq k.1=true∧valOk k.2=true∧k.1 ∉ ks.map (·.1)∧r.length<s.length∧k.1.length+k.2.length≤s.length:=by
 unfold keyA at h
 split at h
 ·cases h
 next s2 e2 =>
 split at h
 ·cases h
 next hn =>
 split at h
 ·cases h
 next hne =>
 split at h
 ·cases h
 next s4 e4 =>
 split at h
 ·cases h
 next v s5 e5 =>
 split at h
 ·cases h
 next s6 e6 =>
 cases h
 obtain⟨h1,h2,h3⟩:=valueA_ok e5
 have l2:=congrArg List.length (Kr e2);have l4:=congrArg List.length (Kr e4);have l6:=congrArg List.length (Kr e6);have l3:=congrArg List.length (nameA_split s2);rw [List.length_append] at l3;rw [List.length_cons] at l2 l4 l6
 exact⟨nameA_ok hne,h1,hn,by omega,by simp only;omega⟩
def keysA:Nat→List (Str×Str)→Str→Option (List (Str×Str)×Str)
 | 0,ks,s=>some (ks,s)
 | f+1,ks,s=>match Xp 91 s with
  | none=>some (ks,s)
  | some s1=>match keyA ks s1 with
   | none=>none
   | some (k,s2)=>keysA f (ks++[k]) s2
theorem keysA_more:∀ (f g:Nat)(ks:List (Str×Str))(s:Str),s.length≤f→s.length≤g→keysA f ks s=keysA g ks s
 | 0,0,_,_,_,_=>rfl
 | 0,g+1,ks,s,h,_=>by
  obtain rfl:=List.eq_nil_of_length_eq_zero (Nat.le_zero.1 h)
  rfl
 | f+1,0,ks,s,_,h=>by
  obtain rfl:=List.eq_nil_of_length_eq_zero (Nat.le_zero.1 h)
  rfl
 | f+1,g+1,ks,s,h1,h2=>by
  unfold keysA
  cases e1:Xp 91 s with
  | none=>rfl
  | some s1 =>
   simp only
   cases e2:keyA ks s1 with
   | none=>rfl
   | some z =>
    obtain⟨k,s2⟩:=z
    simp only
    have:=(keyA_ok e2).2.2.2.1
    have l1:=congrArg List.length (Kr e1);rw [List.length_cons] at l1;exact keysA_more f g _ _ (by omega) (by omega)
theorem keysA_ok:∀ (f:Nat)(ks:List (Str×Str))(s:Str){l:List (Str×Str)}{r:Str},keysA f ks s=some (l,r)→(∀ k∈ks,Kq k.1=true∧valOk k.2=true)→(ks.map (·.1)).Nodup →
  (∀ k∈l,Kq k.1=true∧valOk k.2=true)∧(l.map (·.1)).Nodup∧r.length≤s.length
 | 0,ks,s,l,r,h,h1,h2=>by cases h;exact⟨h1,h2,Nat.le_refl _⟩
 | f+1,ks,s,l,r,h,h1,h2=>by
  unfold keysA at h
  split at h
  ·cases h;exact⟨h1,h2,Nat.le_refl _⟩
  next s1 e1 =>
  split at h
  ·cases h
  next k s2 e2 =>
  obtain⟨k1,k2,k3,k4,_⟩:=keyA_ok e2
  have l1:=congrArg List.length (Kr e1);rw [List.length_cons] at l1
  obtain⟨g1,g2,g3⟩:=keysA_ok f (ks++[k]) s2 h (fun x hx=>by
   rcases List.mem_append.1 hx with hx | hx
   ·exact h1 x hx
   ·rw [List.mem_singleton.1 hx];exact⟨k1,k2⟩) (by
   rw [List.map_append,List.nodup_append]
   refine⟨h2,by simp,fun a ha b hb e=>?_⟩
   simp only [List.map_cons,List.map_nil,List.mem_singleton] at hb;subst hb;subst e;exact k3 ha)
  exact⟨g1,g2,by omega⟩
def stepsA:Nat→Str→Option (List Stp)
 | 0,_=>none
 | f+1,s =>
  if(Xc s).1=[] then none
  else match keysA (Xc s).2.length [] (Xc s).2 with
   | none=>none
   | some (ks,[])=>some [((Xc s).1,Kh ks)]
   | some (ks,c::s3)=>if c=47 then(stepsA f s3).map (fun l=>((Xc s).1,Kh ks)::l) else none
def climbA:Nat→Bool→List Stp→Str→Option (List Stp×Str)
 | 0,_,up,s=>some (up,s)
 | f+1,first,up,s =>
  if first||Zt (fun c=>c==46) s then
   if up=[] then none
   else match s with
    | 46::46::47::r=>climbA f false up.dropLast r
    | _=>none
  else some (up,s)
def Jw (g s:Str):Str ⊕ Nat:=match Qb g with
 | none=>.inr 2
 | some []=>.inr 2
 | some (x::up)=>match climbA (s.length+1) true (x::up) s with
  | none=>.inr 230
  | some (l,r)=>match stepsA (r.length+1) r with
   | none=>.inr 230
   | some m=>match Zy (l++m) with
    | some t=>.inl t
    | none=>.inr 3
end
section
open Go.Lib
def altT:Str:=[97,108,116]
def Zx:Str:=[99,111,117,110,116]
def otherT:Str:=[111,116,104,101,114]
def hasK (x:Stp)(key:Str):Bool:=x.2.any fun k=>k.1==key
def takeK (x:Stp)(key:Str):Stp:=(x.1,x.2.filter fun k=>k.1 != key)
def lastL (key:Str)(f:Stp→Stp):List Stp→Option (List Stp)
 | []=>none
 | x::r=>match lastL key f r with
  | some r'=>some (x::r')
  | none=>if hasK x key then some (f x::r) else none
def withoutL (key:Str)(l:List Stp):Option (List Stp):=lastL key (fun x=>takeK x key) l
def setK (key v:Str)(x:Stp):Stp:=(x.1,x.2.map fun k=>if k.1=key then(key,v) else k)
def Zc (p key:Str):Option Str:=(Qb p).bind fun l=>(withoutL key l).bind Zy
def otherF (p:Str):Option Str:=(Qb p).bind fun l=>(lastL Zx (setK Zx otherT) l).bind Zy
def sideF (p:Str):List Str:=match Qb p with
 | none=>[]
 | some _ =>
  let p1:=(Zc p altT).getD p
  (p::(Zc p altT).toList)++match Zc p1 Zx with
   | none=>[]
   | some bare=>(match otherF p1 with
    | some q=>if q=p1 then [] else [q]
    | none=>[])++[bare]
theorem side_none {p:Str}(h:Qm p=false):sideF p=[]:=by
 have:Qb p=none:=by
  unfold Qm at h
  cases hp:Qb p with
  | none=>rfl
  | some l=>rw [hp] at h;cases h
 unfold sideF;rw [this]
open Classical in
noncomputable def wayF (D:List Al)(p:Str):List Str:=if h:∃ l,WayIs D p l then Classical.choose h else []
theorem wayF_of {D:List Al}{p:Str}{l:List Str}(h:WayIs D p l):wayF D p=l:=by
 unfold wayF;rw [dif_pos ⟨l,h⟩];exact way_one (Classical.choose_spec ⟨l,h⟩) h
open Classical in
noncomputable def Xl (D:List (Str×Str))(s:Str):List Str:=if h:∃ l,ChainIs D s l then Classical.choose h else []
theorem chain_one' {D:List (Str×Str)}{s:Str}{l m:List Str}(h:ChainIs D s l)(g:ChainIs D s m):l=m:=by
 rcases h with ⟨h1,h2⟩ | ⟨h1,h2⟩
 ·rcases g with ⟨g1,g2⟩ | ⟨g1,g2⟩
  ·exact up_one h2 g2
  ·rw [h1] at g1;cases g1
 ·rcases g with ⟨g1,g2⟩ | ⟨g1,g2⟩
  ·rw [h1] at g1;cases g1
  ·rw [h2,g2]
theorem chainF_of {D:List (Str×Str)}{s:Str}{l:List Str}(h:ChainIs D s l):Xl D s=l:=by
 unfold Xl;rw [dif_pos ⟨l,h⟩];exact chain_one' (Classical.choose_spec ⟨l,h⟩) h
def basePs (t:Tb):List Str:=(t.rows.filter fun r=>r.loc != []).map (·.path)
structure RsvOk (R:Rsv):Prop where
 par:NewOut R.par 0 0
 als:AlOut R.als 0 0
 known:KnownIs R.als (basePs R.t) R.known
 k16:R.known.length≤16384
 paths:∀ p∈R.t.paths,Qm p=true
 tb:Jq R.t
theorem al_ok {D:List Al}{i:Nat}(h:AlOut D 0 i):(∀ p∈D,okAl p)∧(D.map (·.1)).Nodup∧(∀ p∈D,¬ ringA D p)∧i=0:=by
 have hb:∀ {r done:List Al} {e i:Nat},badA done r=some (e,i)→e≠0:=by
  intro r
  induction r with
  | nil=>intro done e i h;cases h
  | cons p r ih =>
   intro done e i h;unfold badA at h
   split at h
   ·split at h
    ·cases h;decide
    ·exact ih h
   ·cases h;decide
 rcases h with h | ⟨_,h,_⟩ | ⟨h1,_,h2,h3⟩
 ·exact absurd rfl (hb h)
 ·cases h
 ·obtain⟨g1,g2⟩:=badA_none h1 ⟨fun p hp=>(by cases hp),by simp⟩
  exact⟨g1,g2,h3,h2⟩
theorem RsvOk.way {R:Rsv}(h:RsvOk R)(p:Str):WayIs R.als p (wayF R.als p)∧(wayF R.als p).length≤R.als.length+1:=by
 obtain⟨_,h2,h3,_⟩:=al_ok h.als
 obtain⟨l,hl,hz⟩:=way_ex h2 h3 p
 rw [wayF_of hl]
 exact⟨hl,hz⟩
theorem RsvOk.chain {R:Rsv}(h:RsvOk R)(s:Str):ChainIs R.par s (Xl R.par s):=by
 obtain⟨l,hl⟩:=chain_ex h.par s
 rw [chainF_of hl];exact hl
theorem RsvOk.chain_ne {R:Rsv}(h:RsvOk R){s x:Str}(hx:x∈Xl R.par s):Qk x=true:=by
 rcases h.chain s with ⟨h1,h2⟩ | ⟨_,h2⟩
 ·exact up_named (new_ok h.par).1 h1 h2 x hx
 ·rw [h2] at hx;cases hx
theorem named_nil:Qk []=false:=by decide +kernel
def asksB (l p:Str):Bool:=Qm p&&(l==[]||Qk l)
theorem RsvOk.chain_len {R:Rsv}(h:RsvOk R)(s:Str):(0<(Xl R.par s).length)↔Qk s=true:=by
 rcases h.chain s with ⟨h1,h2⟩ | ⟨h1,h2⟩
 ·obtain⟨r,hr⟩:=up_head h2
  rw [hr,h1];simp
 ·rw [h1,h2];simp
noncomputable def Km (R:Rsv)(l p:Str):List (Str×Str):=if l=[] then [([],p)] else(wayF R.als p).flatMap fun q=>(Xl R.par l).map fun x=>(x,q)
def sideL (l p:Str):List Str:=if l=[] then [p] else sideF p
noncomputable def roadF (R:Rsv)(l p:Str):List (Str×Str):=(sideL l p).flatMap (Km R l)
noncomputable def valueF (R:Rsv)(l p:Str):Option Str:=if asksB l p=true then(Xh R.t (roadF R l p)).2 else none
theorem without_path {p key q:Str}(h:Zc p key=some q):Qm q=true:=by
 unfold Zc at h
 obtain⟨l,_,h⟩:=Option.bind_eq_some_iff.1 h
 obtain⟨m,_,h⟩:=Option.bind_eq_some_iff.1 h
 unfold Qm;rw [print_path h];rfl
theorem other_path {p q:Str}(h:otherF p=some q):Qm q=true:=by
 unfold otherF at h
 obtain⟨l,_,h⟩:=Option.bind_eq_some_iff.1 h
 obtain⟨m,_,h⟩:=Option.bind_eq_some_iff.1 h
 unfold Qm;rw [print_path h];rfl
theorem side_paths {p q:Str}(hq:q∈sideF p):Qm q=true:=by
 unfold sideF at hq
 split at hq
 ·cases hq
 next l hl =>
 have hp:Qm p=true:=by unfold Qm;rw [hl];rfl
 simp only [List.mem_append,List.mem_cons,Option.mem_toList] at hq
 rcases hq with (rfl | hq) | hq
 ·exact hp
 ·exact without_path hq
 ·split at hq
  ·cases hq
  next bare hb =>
  rcases List.mem_append.1 hq with hq | hq
  ·split at hq
   ·next x hx =>
    split at hq
    ·cases hq
    ·rw [List.mem_singleton.1 hq];exact other_path hx
   ·cases hq
  ·rw [List.mem_singleton.1 hq];exact without_path hb
end
section
open Go.RowKit Go.Lib
attribute [local go_sem] spot_fld
def RsP (B0:Nat)(W:World)(v:Value)(R:Rsv):Prop:=∃ b Bt vc va km n,v=.pointer (some ⟨b,0,none⟩)∧W.heap[b]?=some (.cells #[.pointer (some ⟨Bt,0,none⟩),.pointer (some ⟨vc,0,none⟩),.pointer (some ⟨va,0,none⟩),.map (some km)] 64 (0,0))∧
 TbP B0 W Bt R.t∧ChRd W (.pointer (some ⟨vc,0,none⟩)) R.par∧AlRd W (.pointer (some ⟨va,0,none⟩)) R.als∧Zh elBo W km n (Jb R.known)
theorem RsP.below {B0:Nat}{W W':World}{v:Value}{R:Rsv}(h:RsP B0 W v R)(hb:Below W.heap.size W W'):RsP B0 W' v R:=by
 obtain⟨b,Bt,vc,va,km,n,h1,h2,h3,h4,h5,h6⟩:=h
 exact⟨b,Bt,vc,va,km,n,h1,bk hb h2,h3.below hb,h4.below hb,h5.below hb,h6.below hb⟩
theorem Kk {W:World}{B:Nat}{a0 a1 a2 a3:Value}{ty:TypeId}(h:W.heap[B]?=some (.cells #[a0,a1,a2,a3] ty (0,0))) :
  W.cell? ⟨B,0,none⟩=some a0∧W.cell? ⟨B,1,none⟩=some a1∧W.cell? ⟨B,2,none⟩=some a2∧W.cell? ⟨B,3,none⟩=some a3∧B<W.heap.size:=by
 refine⟨?_,?_,?_,?_,lt_of_block h⟩
 all_goals (rw [cell_of_row _ _ _ _ _ _ h];rfl)
theorem chains_any (W:World)(b Bt vc va km:Nat)(h:W.heap[b]?=some (.cells #[.pointer (some ⟨Bt,0,none⟩),.pointer (some ⟨vc,0,none⟩),.pointer (some ⟨va,0,none⟩),.map (some km)] 64 (0,0))) :
  Calls Tryz.prog 14 #[.pointer (some ⟨b,0,none⟩)] W fun e w'=>e=.returned (.pointer (some ⟨vc,0,none⟩))∧w'=W:=by
 obtain⟨a0,a1,a2,a3,al⟩:=Kk h
 clear h
 go_enter Tryz.func14,Tryz.ntmps14
 go_wp2_with fail;exact bodyPost_ret (v:=.pointer (some ⟨vc,0,none⟩)) (by simp [results,Tryz.results14,go_sem]) rfl ⟨rfl,rfl⟩
theorem rtable_any (W:World)(b Bt vc va km:Nat)(h:W.heap[b]?=some (.cells #[.pointer (some ⟨Bt,0,none⟩),.pointer (some ⟨vc,0,none⟩),.pointer (some ⟨va,0,none⟩),.map (some km)] 64 (0,0))) :
  Calls Tryz.prog 15 #[.pointer (some ⟨b,0,none⟩)] W fun e w'=>e=.returned (.pointer (some ⟨Bt,0,none⟩))∧w'=W:=by
 obtain⟨a0,a1,a2,a3,al⟩:=Kk h
 clear h
 go_enter Tryz.func15,Tryz.ntmps15
 go_wp2_with fail;exact bodyPost_ret (v:=.pointer (some ⟨Bt,0,none⟩)) (by simp [results,Tryz.results15,go_sem]) rfl ⟨rfl,rfl⟩
theorem known_any {B0:Nat}{w:World}{v:Value}{R:Rsv}(h:RsP B0 w v R)(ok:RsvOk R) :
  Calls Tryz.prog 13 #[v] w fun e w'=>OutS w (srtT R.known) e w':=by
 obtain⟨b,Bt,vc,va,km,n,rfl,hb,_,_,_,hk⟩:=h
 have KC:=hid (keysFN (some km) w);have SC:=hid (sortedN hk (by rw [setL_keys];exact ok.known.nodup) (by unfold Jb;rw [List.length_map];have:=ok.k16;omega));rw [setL_keys] at SC;have HB1:=hid (bal w (.cells #[.map (some km)] 61));have HZ1:=hid (show(w.alloc (.cells #[.map (some km)] 61)).heap.size=w.heap.size+1 by simp)
 obtain⟨a0,a1,a2,a3,al⟩:=Kk hb
 clear hb hk ok
 go_enter Tryz.func13,Tryz.ntmps13
 go_wp2_with fail;refine KC.out.mono ?_;rintro e w1 ⟨rfl,rfl⟩;go_wp2_with fail;refine SC.out.mono ?_;rintro e w2 ⟨v,rfl,ho,hb⟩;have HO:=hid (outS_sorted HZ1.out HB1.out ho hb);clear ho hb;go_wp2_with fail;exact bodyPost_ret (v:=v) (by simp [results,Tryz.results13,go_sem]) rfl HO.out
theorem asks_any {B0:Nat}{w:World}{v:Value}{R:Rsv}(h:RsP B0 w v R)(ok:RsvOk R)(l p:Str)(hl:l.length≤maxLen)(hp:p.length≤maxLen)(hsz:R.par.length≤10000000000) :
  Calls Tryz.prog 35 #[v,.string ⟨l.toArray⟩,.string ⟨p.toArray⟩] w fun e w'=>e=.returned (.bool (asksB l p))∧Below w.heap.size w w':=by
 obtain⟨b,Bt,vc,va,km,n,rfl,hb,_,hc,_,_⟩:=h
 have CK:=hid (pcheck_any p w hp);have CH:=hid (fun W (hb:Below w.heap.size w W)=>chain_any W _ R.par l (Xl R.par l) (hc.below hb) (new_ok ok.par).1 (ok.chain l) hl hsz);have CL:=hid (ok.chain_len l);have HB:=hid hb;have HAS:=hid (show asksB l p=(Qm p&&(l==[]||Qk l)) from rfl);clear hb hc
 go_enter Tryz.func35,Tryz.ntmps35
 cases hpb:Qm p with
 | false =>
  rw [hpb] at HAS
  go_wp2_with (go_at_call 68;refine CK.out.mono ?_;rintro e w1 ⟨⟨er,ea,rfl,he⟩,hb1⟩;have hne:(er:Int)≠0:=(by intro e0;have:er=0:=(by omega);rw [he.1 this] at hpb;cases hpb);have B1:=hid hb1;clear hb1 he)
  exact bodyPost_ret (v:=.bool false) (by simp [results,Tryz.results35,go_sem]) rfl ⟨by rw [HAS.out];rfl,B1.out⟩
 | true =>
  rw [hpb] at HAS;have HPB:=hid hpb;clear hpb
  by_cases hln:l=[]
  ·subst hln
   go_wp2_with (go_at_call 68;refine CK.out.mono ?_;rintro e w1 ⟨⟨er,ea,rfl,he⟩,hb1⟩;have he0:=he.2 HPB.out;subst he0;have B1:=hid hb1;clear hb1 he)
   exact bodyPost_ret (v:=.bool true) (by simp [results,Tryz.results35,go_sem]) rfl ⟨by rw [HAS.out];rfl,B1.out⟩
  ·have hlb:(l==[])=false:=beq_eq_false_iff_ne.2 hln;rw [hlb] at HAS
   obtain⟨N,hN⟩:∃ N,N=(Xl R.par l).length:=⟨_,rfl⟩
   have HNB:=hid (show decide (0<N)=Qk l by
    have:=CL.out
    rw [← hN] at this
    cases hb:Qk l with
    | true=>exact decide_eq_true (this.2 hb)
    | false=>exact decide_eq_false (fun h=>by rw [this.1 h] at hb;cases hb))
   have HN:=hid hN;have hN0:(0:Int)≤(N:Int):=by omega
   clear hN CL hln
   go_wp2_with (first
    | (go_at_call 68;refine CK.out.mono ?_;rintro e w1 ⟨⟨er,ea,rfl,he⟩,hb1⟩;have he0:=he.2 HPB.out;subst he0;have B1:=hid hb1;have HB1:=hid (bk hb1 HB.out);clear hb1 he;obtain⟨a0,a1,a2,a3,al⟩:=Kk HB1.out)
    | (go_at_call 24;refine(CH.out _ B1.out).mono ?_;rintro e w2 ⟨vv,rfl,ho,hb2⟩;obtain⟨av,cv,rfl⟩:=Qc ho;rw [← HN.out];have B2:=hid (B1.out.then hb2);clear ho hb2))
   exact bodyPost_ret (v:=.bool (decide (0<N))) (by simp [results,Tryz.results35,go_sem]) rfl ⟨by rw [HAS.out,HNB.out];rfl,B2.out⟩
end
section
open Go.RowKit Go.Lib Go.Sort
theorem cloneP_zero (a:Addr)(c:Nat)(w:World) :
  Calls Tryz.prog 72 #[.slice (some a) 0 c] w fun e w'=>∃ v',e=.returned v'∧Qd w' w.heap.size v' []∧Below w.heap.size w w':=by
 obtain⟨i0,hi,hz0,hz1,hz2⟩:=info_parts infoP
 have q22:∀ (w:World) (a:Option Addr) (n c n' c':Nat),(binOp .eql 65 (.slice a n c) (.slice none n' c')).run Tryz.prog w=.ok (.bool a.isNone) w:=fun w a n c n' c'=>Lib.run_eql_slice_nil w _ _ a n c n' c' Tryz.underlying65
 go_enter Tryz.func72,Tryz.ntmps72
 go_wp2_with (at_builtin;refine wpList_append_own _ rfl _ _ 65 rfl w.heap.size 76 i0 (.agg #[.string ⟨#[]⟩,.string ⟨#[]⟩]) 2 32 Tryz.underlying65 hi hz0 hz1 hz2 rfl (by decide) _ _ _ rfl (World.ownsRow_made w #[] 0 (Nat.le_refl _) (Nat.zero_le _) (by simp)) a 0 c [] rfl rfl (by intro j u hj;simp at hj) (by intro u hu;cases hu) (by unfold maxLen;omega) (by omega) (by simp) ?_)
 intro v' w1 hown hgrow hnil
 go_wp2
 go_ret
 refine⟨v',rfl,by simpa [Qd,Ky] using hown,?_⟩
 exact((Below.refl _ w).alloc (Nat.le_refl _) _).grown hgrow (by simp) (by intro k hk;simp [Value.ownBlock] at hk;omega)
theorem cloneP_any (w:World)(v:Value)(l:List (Str×Str))(h:RdP w v l)(hl:l.length≤1000) :
  Calls Tryz.prog 72 #[v] w fun e w'=>∃ v',e=.returned v'∧Qd w' w.heap.size v' l∧Below w.heap.size w w':=by
 obtain⟨ao,cp,rfl,hl1,hr⟩:=h
 cases ao with
 | none =>
  obtain⟨rfl,rfl⟩:=hl1.2 rfl
  have hc:=AnyE.slices_Clone_nil Tryz.clPair 0 0 w;change Calls Tryz.prog 72 _ _ _ at hc;exact hc.mono fun e w' hh=>⟨_,hh.1,World.ownsRow_nil _ _ _ _,hh.2 ▸ Below.refl _ _⟩
 | some a =>
  by_cases hn:l=[]
  ·subst hn;exact cloneP_zero a cp w
  ·obtain⟨b,off,he,hlt,hc⟩:=hr hn
   obtain rfl:a=⟨b,off,none⟩:=Option.some.inj he
   obtain⟨i0,hi,hz0,hz1,hz2⟩:=info_parts infoP
   have hcall:=AnyE.slices_Clone Tryz.clPair i0 (.agg #[.string ⟨#[]⟩,.string ⟨#[]⟩]) 2 32 hi hz0 hz1 hz2 rfl (by decide) Tryz.sizeOf76 b off l.length cp (Ky l) w (Jv l) (by unfold maxLen;omega) (by omega) (fun j u hu=>by
     have hj:=(List.getElem?_eq_some_iff.1 hu).1;rw [Jv] at hj;have hjm:j / 2<l.length:=by omega
     have hdm:j / 2 * 2+j % 2=j:=by omega
     have h2:=flat2_get l (j / 2) (j % 2) hjm (by omega);rw [hdm,hu] at h2
     have:=hc (j / 2) (j % 2) u hjm h2.symm
     rw [show off+j / 2 * 2+j % 2=off+j by omega] at this;exact this) (fun u hu=>by
     obtain⟨x,_,hx⟩:=List.mem_flatMap.1 hu
     simp only [Jh,List.mem_cons,List.not_mem_nil,or_false] at hx
     rcases hx with rfl | rfl <;> rfl)
   change Calls Tryz.prog 72 _ _ _ at hcall;exact hcall.mono fun e w' ⟨v',h1,h2,_,h3⟩=>⟨v',h1,h2,h3⟩
theorem aall_any (w:World)(v:Value)(D:List Al)(h:AlRd w v D)(hn:D.length≤1000) :
  Calls Tryz.prog 75 #[v] w fun e w'=>∃ vv,e=.returned vv∧Qd w' w.heap.size vv D∧Below w.heap.size w w':=by
 obtain⟨b,kv,rfl,hb,hr⟩:=h
 obtain⟨ao,cp,rfl,_,_⟩:=Ks hr
 have CL:=hid (cloneP_any w _ D hr hn);have a0:w.cell? ⟨b,0,none⟩=some (.slice ao D.length cp):=cR hb;have a1:=lt_of_block hb;clear hb hr
 go_enter Tryz.func75,Tryz.ntmps75
 go_wp2_with fail;refine CL.out.mono ?_;rintro e w1 ⟨vv,rfl,ho,hb1⟩;go_wp2_with fail;exact bodyPost_ret (v:=vv) (by simp [results,Tryz.results75,go_sem]) rfl ⟨vv,rfl,ho,hb1⟩
end
section
open Go.Lib
inductive Rch (E:Nat→Nat→Bool)(a:Nat):Nat→Prop
 | one {b:Nat}:E a b=true→Rch E a b
 | step {b c:Nat}:Rch E a b→E b c=true→Rch E a c
theorem rch_closed {E:Nat→Nat→Bool}{a:Nat}(P:Nat→Prop)(h0:∀ k,E a k=true→P k)(h1:∀ b,P b→∀ k,E b k=true→P k)(h2:E a a=false)(h3:∀ b,P b→E b a=false):¬ Rch E a a:=by
 have all:∀ b,Rch E a b→P b:=fun b h=>by
  induction h with
  | one h=>exact h0 _ h
  | step _ h ih=>exact h1 _ ih _ h
 intro h
 cases h with
 | one h=>rw [h2] at h;cases h
 | step hb h=>rw [h3 _ (all _ hb)] at h;cases h
def edgA (D:List Al)(i k:Nat):Bool:=match D[i]?,D[k]? with
 | some p,some q=>folB q p
 | _,_=>false
theorem edg_at {D:List Al}{i k:Nat}(hi:i<D.length)(hk:k<D.length):edgA D i k=folB (D[k]'hk) (D[i]'hi):=by
 unfold edgA;rw [List.getElem?_eq_getElem hi,List.getElem?_eq_getElem hk]
theorem edg_lt {D:List Al}{i k:Nat}(h:edgA D i k=true):i<D.length∧k<D.length:=by
 unfold edgA at h
 split at h
 ·next p q h1 h2=>exact⟨(List.getElem?_eq_some_iff.1 h1).1,(List.getElem?_eq_some_iff.1 h2).1⟩
 ·cases h
theorem nodup_at {D:List Al}(hn:(D.map (·.1)).Nodup){i k:Nat}(hi:i<D.length)(hk:k<D.length)(h:D[i]'hi=D[k]'hk):i=k:=by
 have hp:=List.pairwise_iff_getElem.1 hn
 rcases Nat.lt_trichotomy i k with hlt | rfl | hlt
 ·have:=hp i k (by simpa using hi) (by simpa using hk) hlt
  rw [List.getElem_map,List.getElem_map,h] at this;exact absurd rfl this
 ·rfl
 ·have:=hp k i (by simpa using hk) (by simpa using hi) hlt
  rw [List.getElem_map,List.getElem_map,h] at this;exact absurd rfl this
theorem reach_rch {D:List Al}(hn:(D.map (·.1)).Nodup){i:Nat}(hi:i<D.length):∀ (n:Nat)(b:Al),reachA D n (D[i]'hi) b→∃ k,∃ hk:k<D.length,b=D[k]'hk∧Rch (edgA D) i k
 | 0,b,h=>by
  obtain⟨_,h2,h3⟩:=h
  obtain⟨k,hk,rfl⟩:=List.getElem_of_mem h2
  exact⟨k,hk,rfl,.one (by rw [edg_at hi hk];exact h3)⟩
 | n+1,b,h=>by
  obtain⟨c,h1,h2,h3⟩:=h
  obtain⟨j,hj,rfl,hr⟩:=reach_rch hn hi n c h1
  obtain⟨k,hk,rfl⟩:=List.getElem_of_mem h2
  exact⟨k,hk,rfl,.step hr (by rw [edg_at hj hk];exact h3)⟩
theorem rch_reach {D:List Al}{i:Nat}(hi:i<D.length){k:Nat}(h:Rch (edgA D) i k):∃ hk:k<D.length,∃ n,reachA D n (D[i]'hi) (D[k]'hk):=by
 induction h with
 | one h =>
  obtain⟨_,hk⟩:=edg_lt h
  exact⟨hk,0,List.getElem_mem hi,List.getElem_mem hk,by rw [edg_at hi hk] at h;exact h⟩
 | step _ h ih =>
  obtain⟨hj,n,hr⟩:=ih
  obtain⟨_,hk⟩:=edg_lt h
  exact⟨hk,n+1,_,hr,List.getElem_mem hk,by rw [edg_at hj hk] at h;exact h⟩
theorem ring_iff {D:List Al}(hn:(D.map (·.1)).Nodup){i:Nat}(hi:i<D.length):ringA D (D[i]'hi)↔Rch (edgA D) i i:=by
 constructor
 ·rintro⟨n,h⟩
  obtain⟨k,hk,e,hr⟩:=reach_rch hn hi n _ h
  obtain rfl:=nodup_at hn hi hk e;exact hr
 ·intro h
  obtain⟨_,n,hr⟩:=rch_reach hi h
  exact⟨n,hr⟩
end
section
open Go.RowKit Go.Lib
def encBo:Enc Bool 1:=⟨fun b=>[.bool b],fun _=>rfl,fun x u hu=>by simp at hu;subst hu;rfl⟩
def encNa:Enc Nat 1:=⟨fun n=>[.int .i64 n],fun _=>rfl,fun x u hu=>by simp at hu;subst hu;rfl⟩
def encBr:Enc (List Bool×(Option Addr×Nat)) 1:=⟨fun z=>[.slice z.2.1 z.1.length z.2.2],fun _=>rfl,fun x u hu=>by simp at hu;subst hu;rfl⟩
theorem infoBo':(Tryz.prog.info? 4).map (fun i=>(i.zero,i.size,i.bytes))=some (some (.bool false),1,1):=by kernel_rfl
theorem infoNa:(Tryz.prog.info? 3).map (fun i=>(i.zero,i.size,i.bytes))=some (some (.int .i64 0),1,8):=by kernel_rfl
def RdRows (W:World)(v:Value)(rows:List (List Bool)):Prop:=∃ zs:List (List Bool×(Option Addr×Nat)),zs.map (·.1)=rows∧RdL encBr W v zs∧∀ z∈zs,RdL encBo W (.slice z.2.1 z.1.length z.2.2) z.1
theorem RdRows.below {W W':World}{v:Value}{rows:List (List Bool)}(h:RdRows W v rows)(hb:Below W.heap.size W W'):RdRows W' v rows:=by
 obtain⟨zs,h1,h2,h3⟩:=h
 exact⟨zs,h1,h2.below hb,fun z hz=>(h3 z hz).below hb⟩
theorem RdRows.shape {W:World}{v:Value}{rows:List (List Bool)}(h:RdRows W v rows):∃ ao cp,v=.slice ao rows.length cp:=by
 obtain⟨zs,rfl,h2,_⟩:=h
 obtain⟨ao,cp,rfl,_⟩:=h2.slice
 exact⟨ao,cp,by rw [List.length_map]⟩
theorem RdRows.at' {W:World}{a:Option Addr}{n c:Nat}{rows:List (List Bool)}(h:RdRows W (.slice a n c) rows)(i:Nat)(hi:i<rows.length):∃ p o ra rc,a=some ⟨p,o,none⟩∧p<W.heap.size∧W.cell? ⟨p,o+i,none⟩=some (.slice ra (rows[i]'hi).length rc)∧RdL encBo W (.slice ra (rows[i]'hi).length rc) (rows[i]'hi):=by
 obtain⟨zs,rfl,h2,h3⟩:=h
 rw [List.length_map] at hi
 obtain⟨ao,cp,e,_,hc⟩:=h2
 cases e
 obtain⟨p,o,rfl,hp,hx⟩:=hc (by intro e;rw [e] at hi;simp at hi)
 have hx0:=hx i 0 (.slice (zs[i]'hi).2.1 (zs[i]'hi).1.length (zs[i]'hi).2.2) hi rfl;simp only [Nat.mul_one,Nat.add_zero] at hx0
 refine⟨p,o,(zs[i]'hi).2.1,(zs[i]'hi).2.2,rfl,hp,by rw [List.getElem_map];exact hx0,by rw [List.getElem_map];exact h3 _ (List.getElem_mem hi)⟩
theorem bo_at {W:World}{a:Option Addr}{n c:Nat}{l:List Bool}(h:RdL encBo W (.slice a n c) l)(k:Nat)(hk:k<l.length):∃ q u,a=some ⟨q,u,none⟩∧q<W.heap.size∧W.cell? ⟨q,u+k,none⟩=some (.bool (l[k]'hk)):=by
 obtain⟨ao2,cp2,e2,_,hc2⟩:=h
 cases e2
 obtain⟨q,u,hq,hq2,hy⟩:=hc2 (by intro e;rw [e] at hk;simp at hk)
 have hy0:=hy k 0 (.bool (l[k]'hk)) hk rfl;simp only [Nat.mul_one,Nat.add_zero] at hy0
 exact⟨q,u,hq,hq2,hy0⟩
def unM (m:List Bool):Nat:=(m.filter (fun b=>!b)).length
theorem unM_set:∀ (m:List Bool)(k:Nat)(hk:k<m.length),m[k]'hk=false→unM (m.set k true)+1=unM m
 | [],k,hk,_=>absurd hk (by simp)
 | b::r,0,_,h=>by
  have:b=false:=h
  subst this
  simp [unM]
 | b::r,k+1,hk,h=>by
  have ih:=unM_set r k (by simpa using hk) (by simpa using h);unfold unM at ih ⊢;rw [List.set_cons_succ,List.filter_cons,List.filter_cons]
  cases b
  ·simp only [Bool.not_false,if_true,List.length_cons];omega
  ·simpa using ih
theorem Qf.pop {α:Type}{k:Nat}{E:Enc α k}{ty:TypeId}{w:World}{B:Nat}{a:Option Addr}{n c:Nat}{l:List α}(h:Qf E ty w B (.slice a n c) l)(m:Nat)(hm:m≤l.length)(hl:l≠[]):Qf E ty w B (.slice a m c) (l.take m):=by
 rcases h.shape with ⟨_,e⟩ | ⟨g,cap,cur,e,hB,hg,hn,hmx,hs,ht⟩
 ·exact absurd e hl
 ·cases e;have hlen:(l.take m).length=m:=by rw [List.length_take];omega
  unfold Qf World.ownsRow;have hf:Xr E l=Xr E (l.take m)++Xr E (l.drop m):=by rw [← flatL_append,List.take_append_drop]
  have hfl:(Xr E (l.take m)).length=m * k:=by rw [flatL_len,hlen]
  refine⟨by rw [hfl,hlen],Or.inr ⟨g,c,cur,by rw [hlen],hB,hg,by rw [hlen];omega,hmx,hs,?_⟩⟩
  rw [hlen];have h1:=congrArg (List.take (m * k)) ht;rw [List.take_take,Nat.min_eq_left (Nat.mul_le_mul_right k hm),hf,List.take_left' hfl] at h1;exact h1
end
end Go.Proofs.YtbbmdbolkicpcaaGreatDoor
