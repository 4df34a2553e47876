/- AlHas, AlSort, AlReachW, AlGo, AsRd, AsName -/
import Derived.Test.YtbbmdbolkicpcaaGreatDoorILG02
import Derived.Test.YtbbmdbolkicpcaaGreatDoorILG06
import Derived.Test.YtbbmdbolkicpcaaGreatDoorILG12
import Derived.Test.YtbbmdbolkicpcaaGreatDoorILG13
import Derived.Laws.OwnMore
import Derived.BigQuiet
set_option maxRecDepth 100000
set_option maxHeartbeats 32000000
set_option linter.unusedVariables false
set_option linter.unusedSimpArgs false
namespace Go.Proofs.YtbbmdbolkicpcaaGreatDoor
section
open Go.RowKit Go.Lib Go.Sort
theorem key_closureAT (bk:Nat)(key:Str)(x:Str×Str)(W:World)(hk:W.cell? ⟨bk,0,none⟩=some (S key))(hb:bk<W.heap.size) :
  Calls Tryz.prog 64 #[.agg #[S x.1,S x.2],.pointer (some ⟨bk,0,none⟩)] W fun e w'=>e=.returned (.bool (x.1==key))∧Below W.heap.size W w':=by
 unfold S at hk ⊢
 go_enter Tryz.func64,Tryz.ntmps64
 go_wp2
 all_goals go_ret
 all_goals refine⟨Qs ?_,?_⟩
 all_goals first | exact bal _ _ | simp [Lib.toList_data]
theorem key_predAT (w:World)(bk:Nat)(key:Str)(hk:w.heap[bk]?=some (.cells #[S key] 9 (0,0))) :
  PredBelow Tryz.prog 64 #[.pointer (some ⟨bk,0,none⟩)] (fun x=>.agg (Jh x).toArray) (fun x=>x.1==key) w:=by
 intro W x hb;have hlt:=lt_of_block hk;have h:=key_closureAT bk key x W ((hb.cell (p:=⟨bk,0,none⟩) hlt).trans (cell_of_one hk)) (Nat.lt_of_lt_of_le hlt hb.size);exact h.mono fun e w' hh=>⟨hh.1,hb.then hh.2⟩
theorem indexFunc_nilAT (lb:Array Value)(w:World) :
  Calls Tryz.prog 102 #[.slice none 0 0,.func (.func 64) #[] lb] w fun e w'=>e=.returned (.int .i64 (-1))∧w'=w:=by
 go_enter Tryz.func102,Tryz.ntmps102
 go_wp2
 refine wp_loop_rounds 1 ?_;rw [rounds_succ]
 go_wp2
 go_ret
 exact⟨rfl,rfl⟩
theorem containsFunc_nilAT (lb:Array Value)(w:World) :
  Calls Tryz.prog 63 #[.slice none 0 0,.func (.func 64) #[] lb] w fun e w'=>e=.returned (.bool false)∧w'=w:=by
 go_enter Tryz.func63,Tryz.ntmps63
 go_wp2_with (go_at_call 102;refine(indexFunc_nilAT _ _).mono ?_;rintro e w' ⟨rfl,rfl⟩)
 go_ret
 exact⟨rfl,rfl⟩
theorem key_closureAN (bk:Nat)(key:Str)(x:Str×Str)(W:World)(hk:W.cell? ⟨bk,0,none⟩=some (S key))(hb:bk<W.heap.size) :
  Calls Tryz.prog 69 #[.agg #[S x.1,S x.2],.pointer (some ⟨bk,0,none⟩)] W fun e w'=>e=.returned (.bool (x.1==key))∧Below W.heap.size W w':=by
 unfold S at hk ⊢
 go_enter Tryz.func69,Tryz.ntmps69
 go_wp2
 all_goals go_ret
 all_goals refine⟨Qs ?_,?_⟩
 all_goals first | exact bal _ _ | simp [Lib.toList_data]
theorem key_predAN (w:World)(bk:Nat)(key:Str)(kv:Value)(hk:w.heap[bk]?=some (.cells #[S key,kv] 76 (0,0))) :
  PredBelow Tryz.prog 69 #[.pointer (some ⟨bk,0,none⟩)] (fun x=>.agg (Jh x).toArray) (fun x=>x.1==key) w:=by
 intro W x hb;have hlt:=lt_of_block hk;have h:=key_closureAN bk key x W ((hb.cell (p:=⟨bk,0,none⟩) hlt).trans (by rw [cell_of_row _ _ _ _ _ _ hk];rfl)) (Nat.lt_of_lt_of_le hlt hb.size);exact h.mono fun e w' hh=>⟨hh.1,hb.then hh.2⟩
theorem indexFunc_nilAN (lb:Array Value)(w:World) :
  Calls Tryz.prog 102 #[.slice none 0 0,.func (.func 69) #[] lb] w fun e w'=>e=.returned (.int .i64 (-1))∧w'=w:=by
 go_enter Tryz.func102,Tryz.ntmps102
 go_wp2
 refine wp_loop_rounds 1 ?_;rw [rounds_succ]
 go_wp2
 go_ret
 exact⟨rfl,rfl⟩
theorem containsFunc_nilAN (lb:Array Value)(w:World) :
  Calls Tryz.prog 63 #[.slice none 0 0,.func (.func 69) #[] lb] w fun e w'=>e=.returned (.bool false)∧w'=w:=by
 go_enter Tryz.func63,Tryz.ntmps63
 go_wp2_with (go_at_call 102;refine(indexFunc_nilAN _ _).mono ?_;rintro e w' ⟨rfl,rfl⟩)
 go_ret
 exact⟨rfl,rfl⟩
theorem rd_cells2 {w:World}{a:Option Addr}{n c:Nat}{l:List (Str×Str)}(h:RdP w (.slice a n c) l){p o:Nat}(ha:a=some ⟨p,o,none⟩) :
  ∀ j,j<l.length→∀ i v,(Jh l[j]!)[i]?=some v→w.cell? ⟨p,o+j * 2+i,none⟩=some v:=by
 intro j hj i v hv
 obtain⟨ao,cp,e,_,hc⟩:=h
 cases e
 obtain⟨b,off,hb,hlt,hx⟩:=hc (by intro e;rw [e] at hj;simp at hj)
 rw [ha] at hb
 cases hb;refine hx j i v hj ?_
 rwa [getElem!_pos l j hj] at hv
theorem hasKeyAT (w:World)(v:Value)(l:List (Str×Str))(bk:Nat)(key:Str)(h:RdP w v l)(hl:l.length≤1000000)(hp:∀ a n c,v=.slice (some a) n c→∃ p o,a=⟨p,o,none⟩∧p<w.heap.size)(hk:w.heap[bk]?=some (.cells #[S key] 9 (0,0))) :
  Calls Tryz.prog 63 #[v,.func (.func 64) #[] #[.pointer (some ⟨bk,0,none⟩)]] w fun e w'=>e=.returned (.bool (l.any fun p=>p.1==key))∧Below w.heap.size w w':=by
 have eg:∀ args w,(callFunc 64 args).run Tryz.prog w=.ok (.enter 64 args) w:=enters_of Tryz.func64 (by kernel_rfl) rfl
 obtain⟨ao,cp,rfl,hl1,_⟩:=id h
 cases ao with
 | none =>
  obtain⟨hn,rfl⟩:=hl1.2 rfl
  subst hn
  exact(containsFunc_nilAT _ w).mono fun e w' hh=>⟨hh.1,hh.2 ▸ Below.refl _ _⟩
 | some a =>
  obtain⟨p,o,rfl,hlt⟩:=hp a _ _ rfl
  have hc:=AnyQ.slices_ContainsFunc Tryz.cfPair 2 Tryz.isAgg76 Tryz.sizeOf76 Jh (fun _=>rfl) (fun x=>x.1==key) 64 #[.pointer (some ⟨bk,0,none⟩)] eg p o l.length cp l w (key_predAT w bk key hk) (Nat.le_refl _) (by omega) hlt (rd_cells2 h rfl);change Calls Tryz.prog 63 _ _ _ at hc;rw [List.take_length] at hc;exact hc
theorem hasKeyAN (w:World)(v:Value)(l:List (Str×Str))(bk:Nat)(key:Str)(h:RdP w v l)(hl:l.length≤1000000)(hp:∀ a n c,v=.slice (some a) n c→∃ p o,a=⟨p,o,none⟩∧p<w.heap.size)(kv:Value)(hk:w.heap[bk]?=some (.cells #[S key,kv] 76 (0,0))) :
  Calls Tryz.prog 63 #[v,.func (.func 69) #[] #[.pointer (some ⟨bk,0,none⟩)]] w fun e w'=>e=.returned (.bool (l.any fun p=>p.1==key))∧Below w.heap.size w w':=by
 have eg:∀ args w,(callFunc 69 args).run Tryz.prog w=.ok (.enter 69 args) w:=enters_of Tryz.func69 (by kernel_rfl) rfl
 obtain⟨ao,cp,rfl,hl1,_⟩:=id h
 cases ao with
 | none =>
  obtain⟨hn,rfl⟩:=hl1.2 rfl
  subst hn
  exact(containsFunc_nilAN _ w).mono fun e w' hh=>⟨hh.1,hh.2 ▸ Below.refl _ _⟩
 | some a =>
  obtain⟨p,o,rfl,hlt⟩:=hp a _ _ rfl
  have hc:=AnyQ.slices_ContainsFunc Tryz.cfPair 2 Tryz.isAgg76 Tryz.sizeOf76 Jh (fun _=>rfl) (fun x=>x.1==key) 69 #[.pointer (some ⟨bk,0,none⟩)] eg p o l.length cp l w (key_predAN w bk key kv hk) (Nat.le_refl _) (by omega) hlt (rd_cells2 h rfl);change Calls Tryz.prog 63 _ _ _ at hc;rw [List.take_length] at hc;exact hc
end
section
open Go.RowKit Go.Lib Go.Sort
theorem cmp_closureAN (x y:Str×Str)(W:World):Calls Tryz.prog 73 #[.agg #[S x.1,S x.2],.agg #[S y.1,S y.2]] W fun e w'=>e=.returned (.int .i64 (Lib.compareBytes x.1 y.1))∧∃ q os',w'=grow (W.drewN q) os':=by
 have hcon:=fun W'=>Tryz.strings_Compare ⟨x.1.toArray⟩ ⟨y.1.toArray⟩ W'
 change ∀ W',Calls _ _ _ _ fun e w'=>e=.returned (.int .i64 (Lib.compareBytes x.1 y.1))∧_ at hcon
 generalize Lib.compareBytes x.1 y.1=r at hcon ⊢;unfold S
 go_enter Tryz.func73,Tryz.ntmps73
 go_wp2_with (go_at_call 59;refine(hcon _).mono ?_;rintro e w' ⟨rfl,rfl⟩)
 go_ret
 exact⟨rfl,0,_,by rw [alloc_eq_grow,alloc_eq_grow,grow_grow];rfl⟩
theorem cmpLaysAN (blk off size:Nat)(w:World):CmpLays Tryz.prog 73 #[] Jh 2 cmpK blk off size w :=
 fun _ _ _ _ x y=>cmp_closureAN x y _
theorem sortPairsAN (w:World)(B:Nat)(v:Value)(l:List (Str×Str))(h:Qd w B v l)(hl:l.length≤1000000) :
  Calls Tryz.prog 57 #[v,.func (.func 73) #[] #[]] w fun e w'=>e=.returned (.tuple #[])∧
   (∃ l':List (Str×Str),l'.Perm l∧l'.Pairwise (fun a b=>¬ b.1<a.1)∧Qd w' B v l')∧w.grownBy w' v.ownBlock:=by
 have eg:∀ args w,(callFunc 73 args).run Tryz.prog w=.ok (.enter 73 args) w:=enters_of Tryz.func73 (by kernel_rfl) rfl
 rcases h.shape with ⟨rfl,rfl⟩ | ⟨g,cap,cur,rfl,hB,hg,hn,hm,hs,ht⟩
 ·have hc:=AnyF.slices_SortFunc_none Tryz.sfPair none 0 (.func (.func 73) #[] #[]) w;change Calls Tryz.prog 57 _ _ _ at hc;refine hc.mono ?_;rintro e w' ⟨rfl,rfl⟩
  exact⟨rfl,⟨[],List.Perm.refl _,List.Pairwise.nil,h⟩,World.grownBy.refl _ _⟩
 ·have hc:=AnyQ.slices_SortFunc Tryz.sfPair 2 Tryz.isAgg76 Tryz.sizeOf76 Jh (fun _=>rfl) (fun x v hv=>by simp [Jh] at hv;rcases hv with rfl | rfl <;> rfl) cmpK swo 73 #[] g 0 cap l.toArray w eg (cmpLaysAN g 0 _ w) (holdsK_of hg ht) (lt_of_block hg) (by simp;omega);change Calls Tryz.prog 57 _ _ _ at hc;refine hc.mono fun e w' hh=>⟨hh.1,?_⟩
  obtain⟨d',n,os,hp,hsd,rfl⟩:=hh.2
  have hsz:d'.size=l.length:=by simpa using hp.1
  have hperm:d'.toList.Perm l:=by
   have:=hp.2.2
   simp only [List.size_toArray] at this;rw [← hsz] at this;have ht':List.take l.length d'.toList=d'.toList:=List.take_of_length_le (by simp [hsz])
   simpa [hsz,ht'] using this
  refine⟨⟨d'.toList,hperm,?_,?_⟩,?_⟩
  ·rw [List.pairwise_iff_getElem];intro i j hi hj hij
   have:=hsd i j (Nat.zero_le _) hij (by simp at hj ⊢;omega)
   rw [getElem!_pos _ i (by simpa using hi),getElem!_pos _ j (by simpa using hj)] at this;intro hlt;have h2:ltOf cmpK d'[j] d'[i]=true:=by
    show decide (Lib.compareBytes _ _<0)=true;exact decide_eq_true ((cb_lt _ _).2 (by simpa using hlt))
   rw [this] at h2;cases h2
  ·have hlen:d'.toList.length=l.length:=hperm.length_eq
   refine⟨Jv _,Or.inr ⟨g,cap,putCells id 0 (flatK Jh 2 d') cur,by rw [hlen],hB,?_,by omega,hm,by simpa [putCells] using hs,?_⟩⟩
   ·unfold sortWorldK putRowK;rw [heap_grow_old _ _ (by simpa using lt_of_block hg)]
    simp [putRow,mapBlock,Sort.ahead,Array.getElem?_modify,hg,onCells]
   ·have:=take_putCells2 cur d'.toList (by rw [hlen,hs];omega)
    simpa using this
  ·refine⟨rfl,rfl,rfl,by simp [sortWorldK,putRowK],fun k hk hne=>?_⟩
   unfold sortWorldK putRowK;rw [heap_grow_old _ _ (by simpa using hk)]
   have:g≠k:=fun e=>hne (by rw [e];rfl)
   simp [putRow,mapBlock,Sort.ahead,Array.getElem?_modify,this]
theorem cmp_closureAT (x y:Str×Str)(W:World):Calls Tryz.prog 66 #[.agg #[S x.1,S x.2],.agg #[S y.1,S y.2]] W fun e w'=>e=.returned (.int .i64 (Lib.compareBytes x.1 y.1))∧∃ q os',w'=grow (W.drewN q) os':=by
 have hcon:=fun W'=>Tryz.strings_Compare ⟨x.1.toArray⟩ ⟨y.1.toArray⟩ W'
 change ∀ W',Calls _ _ _ _ fun e w'=>e=.returned (.int .i64 (Lib.compareBytes x.1 y.1))∧_ at hcon
 generalize Lib.compareBytes x.1 y.1=r at hcon ⊢;unfold S
 go_enter Tryz.func66,Tryz.ntmps66
 go_wp2_with (go_at_call 59;refine(hcon _).mono ?_;rintro e w' ⟨rfl,rfl⟩)
 go_ret
 exact⟨rfl,0,_,by rw [alloc_eq_grow,alloc_eq_grow,grow_grow];rfl⟩
theorem cmpLaysAT (blk off size:Nat)(w:World):CmpLays Tryz.prog 66 #[] Jh 2 cmpK blk off size w :=
 fun _ _ _ _ x y=>cmp_closureAT x y _
theorem sortPairsAT (w:World)(B:Nat)(v:Value)(l:List (Str×Str))(h:Qd w B v l)(hl:l.length≤1000000) :
  Calls Tryz.prog 57 #[v,.func (.func 66) #[] #[]] w fun e w'=>e=.returned (.tuple #[])∧
   (∃ l':List (Str×Str),l'.Perm l∧l'.Pairwise (fun a b=>¬ b.1<a.1)∧Qd w' B v l')∧w.grownBy w' v.ownBlock:=by
 have eg:∀ args w,(callFunc 66 args).run Tryz.prog w=.ok (.enter 66 args) w:=enters_of Tryz.func66 (by kernel_rfl) rfl
 rcases h.shape with ⟨rfl,rfl⟩ | ⟨g,cap,cur,rfl,hB,hg,hn,hm,hs,ht⟩
 ·have hc:=AnyF.slices_SortFunc_none Tryz.sfPair none 0 (.func (.func 66) #[] #[]) w;change Calls Tryz.prog 57 _ _ _ at hc;refine hc.mono ?_;rintro e w' ⟨rfl,rfl⟩
  exact⟨rfl,⟨[],List.Perm.refl _,List.Pairwise.nil,h⟩,World.grownBy.refl _ _⟩
 ·have hc:=AnyQ.slices_SortFunc Tryz.sfPair 2 Tryz.isAgg76 Tryz.sizeOf76 Jh (fun _=>rfl) (fun x v hv=>by simp [Jh] at hv;rcases hv with rfl | rfl <;> rfl) cmpK swo 66 #[] g 0 cap l.toArray w eg (cmpLaysAT g 0 _ w) (holdsK_of hg ht) (lt_of_block hg) (by simp;omega);change Calls Tryz.prog 57 _ _ _ at hc;refine hc.mono fun e w' hh=>⟨hh.1,?_⟩
  obtain⟨d',n,os,hp,hsd,rfl⟩:=hh.2
  have hsz:d'.size=l.length:=by simpa using hp.1
  have hperm:d'.toList.Perm l:=by
   have:=hp.2.2
   simp only [List.size_toArray] at this;rw [← hsz] at this;have ht':List.take l.length d'.toList=d'.toList:=List.take_of_length_le (by simp [hsz])
   simpa [hsz,ht'] using this
  refine⟨⟨d'.toList,hperm,?_,?_⟩,?_⟩
  ·rw [List.pairwise_iff_getElem];intro i j hi hj hij
   have:=hsd i j (Nat.zero_le _) hij (by simp at hj ⊢;omega)
   rw [getElem!_pos _ i (by simpa using hi),getElem!_pos _ j (by simpa using hj)] at this;intro hlt;have h2:ltOf cmpK d'[j] d'[i]=true:=by
    show decide (Lib.compareBytes _ _<0)=true;exact decide_eq_true ((cb_lt _ _).2 (by simpa using hlt))
   rw [this] at h2;cases h2
  ·have hlen:d'.toList.length=l.length:=hperm.length_eq
   refine⟨Jv _,Or.inr ⟨g,cap,putCells id 0 (flatK Jh 2 d') cur,by rw [hlen],hB,?_,by omega,hm,by simpa [putCells] using hs,?_⟩⟩
   ·unfold sortWorldK putRowK;rw [heap_grow_old _ _ (by simpa using lt_of_block hg)]
    simp [putRow,mapBlock,Sort.ahead,Array.getElem?_modify,hg,onCells]
   ·have:=take_putCells2 cur d'.toList (by rw [hlen,hs];omega)
    simpa using this
  ·refine⟨rfl,rfl,rfl,by simp [sortWorldK,putRowK],fun k hk hne=>?_⟩
   unfold sortWorldK putRowK;rw [heap_grow_old _ _ (by simpa using hk)]
   have:g≠k:=fun e=>hne (by rw [e];rfl)
   simp [putRow,mapBlock,Sort.ahead,Array.getElem?_modify,this]
end
section
open Go.RowKit Go.Lib
def edgR (rows:List (List Bool))(i k:Nat):Bool:=(rows.getD i []).getD k false
structure ReSt (rows:List (List Bool))(from_:Nat)(met:List Bool)(pile:List Nat)(busy:Option (Nat×Nat)):Prop where
 mlen:met.length=rows.length
 sound:∀ k,met.getD k false=true→Rch (edgR rows) from_ k
 pl:∀ k∈pile,k<rows.length∧(k=from_∨met.getD k false=true)
 closed:∀ b,(b=from_∨met.getD b false=true)→b ∉ pile→(∀ j u,busy=some (j,u)→b≠j)→(∀ k,edgR rows b k=true→met.getD k false=true)∧edgR rows b from_=false
 part:∀ j u,busy=some (j,u)→(∀ k,k<u→edgR rows j k=true→met.getD k false=true∧k≠from_)
section
variable {rows : List (List Bool)} {i j u : Nat} {met : List Bool} {pile : List Nat}
theorem edgR_at (hj:j<rows.length)(k:Nat):edgR rows j k=(rows[j]'hj).getD k false:=by
 have e:rows.getD j []=rows[j]'hj:=by rw [List.getD_eq_getElem?_getD,List.getElem?_eq_getElem hj];rfl
 unfold edgR;rw [e]
theorem getD_set (m:List Bool)(u k:Nat)(hu:u<m.length):(m.set u true).getD k false=(if k=u then true else m.getD k false):=by
 rw [List.getD_eq_getElem?_getD,List.getElem?_set]
 by_cases h:u=k
 ·subst h;simp [hu]
 ·rw [if_neg h,if_neg (fun e=>h e.symm),List.getD_eq_getElem?_getD]
theorem ReSt.start (hi:i<rows.length):ReSt rows i (List.replicate rows.length false) [i] none:=by
 have h0:∀ k,(List.replicate rows.length false).getD k false=false:=fun k=>by
  rw [List.getD_eq_getElem?_getD,List.getElem?_replicate];split <;> rfl
 refine⟨by simp,fun k h=>(by rw [h0] at h;cases h),fun k hk=>?_,fun b hb hn _=>?_,fun j u h=>(by cases h)⟩
 ·rw [List.mem_singleton.1 hk];exact⟨hi,Or.inl rfl⟩
 ·rcases hb with rfl | hb
  ·simp at hn
  ·rw [h0] at hb;cases hb
theorem ReSt.reach (h:ReSt rows i met pile none)(hj:j∈pile){k:Nat}(he:edgR rows j k=true):Rch (edgR rows) i k:=by
 rcases(h.pl j hj).2 with rfl | hm
 ·exact .one he
 ·exact .step (h.sound _ hm) he
theorem ReSt.pop (h:ReSt rows i met pile none){m:Nat}(hm:pile.length=m+1)(hj:pile[m]'(by omega)=j):ReSt rows i met (pile.take m) (some (j,0)):=by
 have hp:pile=pile.take m++[j]:=by
  rw [← hj,← List.take_succ_eq_append_getElem,← hm,List.take_length]
 refine⟨h.mlen,h.sound,fun k hk=>h.pl k (List.mem_of_mem_take hk),fun b hb hn hbz=>?_,fun j' u' e k hk=>?_⟩
 ·refine h.closed b hb (fun hmem=>?_) (fun _ _ e=>by cases e);rw [hp] at hmem
  rcases List.mem_append.1 hmem with h1 | h1
  ·exact hn h1
  ·exact hbz j 0 rfl (List.mem_singleton.1 h1)
 ·cases e;omega
theorem ReSt.skip (h:ReSt rows i met pile (some (j,u)))(hs:edgR rows j u=true→met.getD u false=true∧u≠i):ReSt rows i met pile (some (j,u+1)):=by
 refine⟨h.mlen,h.sound,h.pl,fun b hb hn hbz=>h.closed b hb hn (fun j' u' e=>by cases e;exact hbz j (u+1) rfl),fun j' u' e k hk he=>?_⟩
 cases e
 rcases Nat.lt_or_ge k u with hlt | hge
 ·exact h.part j u rfl k hlt he
 ·obtain rfl:k=u:=by omega
  exact hs he
theorem ReSt.push (h:ReSt rows i met pile (some (j,u)))(hu:u<rows.length)(hr:Rch (edgR rows) i u)(hne:u≠i):ReSt rows i (met.set u true) (pile++[u]) (some (j,u+1)):=by
 have hg:=fun k=>getD_set met u k (by rw [h.mlen];exact hu)
 have mono:∀ k,met.getD k false=true→(met.set u true).getD k false=true:=fun k hk=>by
  rw [hg]
  split
  ·rfl
  ·exact hk
 refine⟨by rw [List.length_set];exact h.mlen,fun k hk=>?_,fun k hk=>?_,fun b hb hn hbz=>?_,fun j' u' e k hk he=>?_⟩
 ·rw [hg] at hk
  split at hk
  ·next e=>rw [e];exact hr
  ·exact h.sound k hk
 ·rcases List.mem_append.1 hk with h1 | h1
  ·exact⟨(h.pl k h1).1,(h.pl k h1).2.imp id (mono k)⟩
  ·rw [List.mem_singleton.1 h1];exact⟨hu,Or.inr (by rw [hg,if_pos rfl])⟩
 ·have hbu:b≠u:=fun e=>hn (by rw [e];simp)
  have hb2:b=i∨met.getD b false=true:=hb.imp id (fun h1=>by rwa [hg,if_neg hbu] at h1)
  obtain⟨c1,c2⟩:=h.closed b hb2 (fun h1=>hn (List.mem_append_left _ h1)) (fun j' u' e=>by cases e;exact hbz j (u+1) rfl)
  exact⟨fun k hk=>mono k (c1 k hk),c2⟩
 ·cases e
  rcases Nat.lt_or_ge k u with hlt | hge
  ·obtain⟨p1,p2⟩:=h.part j u rfl k hlt he
   exact⟨mono k p1,p2⟩
  ·obtain rfl:k=u:=by omega
   exact⟨by rw [hg,if_pos rfl],hne⟩
theorem ReSt.done (h:ReSt rows i met pile (some (j,u)))(hu:∀ k,edgR rows j k=true→k<u):ReSt rows i met pile none:=by
 refine⟨h.mlen,h.sound,h.pl,fun b hb hn _=>?_,fun j' u' e=>by cases e⟩
 by_cases hbj:b=j
 ·subst hbj
  refine⟨fun k he=>(h.part b u rfl k (hu k he) he).1,?_⟩
  cases he:edgR rows b i with
  | false=>rfl
  | true=>exact absurd rfl (h.part b u rfl i (hu i he) he).2
 ·exact h.closed b hb hn (fun j' u' e=>by cases e;exact hbj)
theorem ReSt.stop (h:ReSt rows i met [] none):¬ Rch (edgR rows) i i:=by
 have hc:=fun b hb=>h.closed b hb (by simp) (fun _ _ e=>by cases e)
 exact rch_closed (fun k=>met.getD k false=true) (hc i (Or.inl rfl)).1 (fun b hb=>(hc b (Or.inr hb)).1) (hc i (Or.inl rfl)).2 (fun b hb=>(hc b (Or.inr hb)).2)
theorem Qf.one {α:Type}{k:Nat}(E:Enc α k)(ty:TypeId)(w:World)(B:Nat)(y:α)(cs:Array Value)(hB:B≤w.heap.size)(hcs:cs.toList=E.enc y):Qf E ty (w.alloc (.cells cs ty)) B (.slice (some ⟨w.heap.size,0,none⟩) 1 1) [y]:=by
 have hl:cs.size=1 * k:=by rw [← Array.length_toList,hcs,E.len,Nat.one_mul]
 have hf:Xr E [y]=E.enc y:=by simp [Xr]
 refine⟨by rw [flatL_len],Or.inr ⟨w.heap.size,1,cs,rfl,hB,heap_alloc_new w _,Nat.le_refl _,by unfold maxLen;omega,hl,?_⟩⟩
 show List.take (1 * k) cs.toList=Xr E [y];rw [hf,hcs,List.take_of_length_le (by rw [E.len];omega)]
end
theorem areaches_any (w:World)(v:Value)(rows:List (List Bool))(i:Nat)(h:RdRows w v rows)(hq:∀ r∈rows,r.length=rows.length)(hi:i<rows.length)(hn:rows.length≤1000) :
  Calls Tryz.prog 71 #[v,.int .i64 i] w fun e w'=>(∃ b:Bool,e=.returned (.bool b)∧(b=true↔Rch (edgR rows) i i))∧Below w.heap.size w w':=by
 obtain⟨av,cv,rfl⟩:=h.shape
 have HR:=hid h;have HQ:=hid hq;have HI:=hid hi;have HN:=hid hn
 obtain⟨i0,hi0,hz0,hz1,hz2⟩:=info_parts infoBo'
 obtain⟨w1,hmk,hown,hgr⟩:=run_makeSlice_full (P:=Tryz.prog) (w:=w) w.heap.size 136 4 i0 (.bool false) 1 Tryz.underlying136 hi0 hz0 hz1 .i64 .i64 rows.length (by omega) (by rw [hz2];omega) (by unfold maxLen;omega) (Nat.le_refl _)
 clear h hq hi hn
 go_enter Tryz.func71,Tryz.ntmps71
 go_upto_region 3 with fail;have MET0:=hid (show Qf encBo 4 w1 w.heap.size (.slice (some ⟨w.heap.size,0,none⟩) rows.length rows.length) (List.replicate rows.length false) from by
  have e:(madeCells (Value.bool false).cells (rows.length * 1)).toList=Xr encBo (List.replicate rows.length false):=by
   unfold madeCells Xr;rw [Nat.mul_one]
   simp [Value.cells,encBo,List.flatMap_replicate]
   rw [show(fun x:Nat=>[Value.bool false][x % 1]?.getD default)=fun _=>Value.bool false from by funext x;rw [Nat.mod_one];rfl,List.map_const',List.length_range]
  rw [e] at hown;unfold Qf
  simpa using hown)
 have HSZ1:=hid (show w.heap.size≤w1.heap.size from hgr.size);have BW1:=hid (show Below w.heap.size w w1 from⟨hgr.os,hgr.tape,hgr.output,hgr.size,fun k hk=>hgr.block k hk (by simp)⟩);have P0:=hid (Qf.one encNa 3 w1 w.heap.size i #[.int .i64 i] HSZ1.out rfl);have hb2:Below w1.heap.size w1 (w1.alloc (.cells #[.int .i64 i] 3)):=bal _ _;have M0:=hid (show Qf encBo 4 (w1.alloc (.cells #[.int .i64 i] 3)) w.heap.size _ _ from MET0.out.below hb2);have BW2:=hid (BW1.out.then hb2);have ST0:=hid (ReSt.start HI.out);have HIN:=hid (show(i:Int)<(rows.length:Int) by have:=HI.out;omega);clear hb2 hmk hown hgr MET0 BW1 hi0 hz0 hz1 hz2
 go_loopg [6] (2 * rows.length+2) (fun g v6 W=>∃ (met:List Bool) (pile:List Nat),2 * unM met+pile.length≤g∧2 * unM met+pile.length≤2 * rows.length+1∧Qf encNa 3 W w.heap.size v6 pile∧Qf encBo 4 W w.heap.size (.slice (some ⟨w.heap.size,0,none⟩) rows.length rows.length) met∧ReSt rows i met pile none∧Below w.heap.size w W)
 case atStart=>exact⟨_,[i],by
  have:unM (List.replicate rows.length false)≤rows.length:=by unfold unM;exact Nat.le_trans (List.length_filter_le _ _) (by simp)
  simp only [List.length_singleton];omega,by
  have:unM (List.replicate rows.length false)≤rows.length:=by unfold unM;exact Nat.le_trans (List.length_filter_le _ _) (by simp)
  simp only [List.length_singleton];omega,P0.out,M0.out,ST0.out,BW2.out⟩
 case round =>
  obtain⟨met,pile,hg,hpz,hp,hm,st,hb⟩:=hrel
  rename World=>w3
  obtain⟨a6,c6,rfl,hc6⟩:=Qf.slice hp
  obtain⟨go,hgo⟩:∃ go,go=gk:=⟨_,rfl⟩
  have HGO:=hid hgo;have HG:=hid (show 2 * unM met+pile.length≤go by rw [hgo];exact hg);have HP:=hid hp;have HM:=hid hm;have ST:=hid st;have HB:=hid hb;clear hg hp hm st hb hgo P0 M0 ST0 BW2
  by_cases hpl:pile=[]
  ·subst hpl;have HNO:=hid ST.out.stop;go_wp2_with fail;refine bodyPost_ret (v:=.bool false) (by simp [results,Tryz.results71,go_sem]) rfl ?_
   exact⟨⟨false,rfl,by simpa using HNO.out⟩,HB.out⟩
  ·obtain⟨m,hml⟩:∃ m,pile.length=m+1:=⟨pile.length - 1,by have:=List.length_pos_iff.2 hpl;omega⟩
   have hne:pile≠[]:=hpl;clear hpl;have hmlt:m<pile.length:=by omega
   obtain⟨j,hj⟩:∃ j,j=pile[m]'hmlt:=⟨_,rfl⟩
   have HJM:=hid (show j∈pile by rw [hj];exact List.getElem_mem hmlt);have HJL:=hid (ST.out.pl j HJM.out).1
   obtain⟨gp,rfl⟩:=Qf.some' HP.out hne
   obtain⟨q0,_,gl⟩:=Qf.cell HP.out m 0 (.int .i64 j) hmlt (by rw [← hj];rfl)
   rw [Nat.mul_one,Nat.add_zero] at q0;have HPOP:=hid (ST.out.pop hml hj.symm);have HPW:=hid (Qf.pop HP.out m (by omega) hne);have HREA:=hid (fun k (he:edgR rows j k=true)=>ST.out.reach HJM.out he);have HG2:=hid (show 2 * unM met+m≤go - 1 by have:=HG.out;omega);have HGP:=hid (show 0<go by have:=HG.out;omega)
   obtain⟨pr,po,ra,rc,rfl,hprl,r0w,hrow⟩:=HR.out.at' j HJL.out
   have r0:=(HB.out.cell (p:=⟨pr,po+j,none⟩) hprl).trans r0w;have hprl3:pr<w3.heap.size:=Nat.lt_of_lt_of_le hprl HB.out.size;clear r0w;have HROW:=hid hrow;have HRL:=hid (HQ.out _ (List.getElem_mem HJL.out));have HED:=hid (fun k=>edgR_at HJL.out k);generalize hrj:rows[j]'HJL.out=row at *;clear hrow hrj;have hjn:(j:Int)<(rows.length:Int):=by have:=HJL.out;omega
   have hj0:(0:Int)≤(j:Int):=by omega
   have hmm:((m:Int)+1) - 1=(m:Int):=by omega
   have hm0:(0:Int)≤(m:Int):=by omega
   have hmb:(m:Int)≤2100:=by have:=HN.out;omega
   have hmc:(m:Int)≤(c6:Int):=by omega
   have HML:=hid (show pile.length=m+1 from hml);clear hj hne hmlt;rw [hml] at hc6 ⊢;have hm1:(m:Int)<(m:Int)+1:=by omega
   clear hml;go_upto_region 7 with fail;rw [HRL.out]
   go_loopg [6,34] rows.length (fun g v6 v34 W=>∃ (met:List Bool) (pile:List Nat) (u:Nat),u≤rows.length∧rows.length≤u+g∧v34=.int .i64 u∧2 * unM met+pile.length≤go - 1∧2 * unM met+pile.length≤2 * rows.length+1∧Qf encNa 3 W w.heap.size v6 pile∧Qf encBo 4 W w.heap.size (.slice (some ⟨w.heap.size,0,none⟩) rows.length rows.length) met∧ReSt rows i met pile (some (j,u))∧Below w.heap.size w W)
   case atStart=>exact⟨met,pile.take m,0,Nat.zero_le _,by omega,rfl,by rw [List.length_take];have:=HG2.out;have:=HML.out;omega,by rw [List.length_take];have:=HML.out;omega,HPW.out,HM.out,HPOP.out,HB.out⟩
   case round =>
    obtain⟨met2,pile2,u,hu,hg,rfl,hm2,hz2,hp,hm,st,hb⟩:=hrel
    rename World=>w4
    have HGI:=hid hg;have HM2:=hid hm2;have HZ2:=hid hz2;have HP4:=hid hp;have HM4:=hid hm;have ST4:=hid st;have HB4:=hid hb;clear hg hm2 hz2 hp hm st hb q0 gl r0 hprl3 HPOP HPW HP HM ST HB
    obtain⟨a7,c7,rfl,hc7⟩:=Qf.slice HP4.out
    by_cases hlt:u<rows.length
    ·have hui:(u:Int)<(rows.length:Int):=by omega
     have hu0:(0:Int)≤(u:Int):=by omega
     have hub:(u:Int)≤1000:=by have:=HN.out;omega
     have hlr:u<row.length:=by rw [HRL.out];exact hlt
     obtain⟨q,o,rfl,hql,s0⟩:=bo_at (HROW.out.below HB4.out) u hlr
     have HEU:=hid (show edgR rows j u=row[u]'hlr by rw [HED.out,List.getD_eq_getElem?_getD,List.getElem?_eq_getElem hlr];rfl);generalize row[u]'hlr=on at *
     cases on with
     | false =>
      have STN:=hid (ST4.out.skip (fun e=>by rw [HEU.out] at e;cases e));go_wp2_with fail
      go_roundg (gk - 1)
      case measure=>have:=HGI.out;omega
      case rel=>exact⟨met2,pile2,u+1,by omega,by have:=HGI.out;omega,by simp,HM2.out,HZ2.out,HP4.out,HM4.out,STN.out,HB4.out⟩
     | true =>
      by_cases hui2:u=i
      ·have HYES:=hid (show Rch (edgR rows) i i from by have:=HREA.out u HEU.out;rwa [hui2] at this);subst hui2;go_wp2_with fail;refine bodyPost_ret (v:=.bool true) (by simp [results,Tryz.results71,go_sem]) rfl ?_
       exact⟨⟨true,rfl,by simpa using HYES.out⟩,HB4.out⟩
      ·have hy:((u:Int)==(i:Int))=false:=beq_eq_false_iff_ne.2 (by omega);have hum:u<met2.length:=by rw [ST4.out.mlen];exact hlt
       obtain⟨m0,mf,mg⟩:=Qf.cell HM4.out u 0 (.bool (met2[u]'hum)) hum rfl
       rw [Nat.mul_one,Nat.add_zero] at m0 mf;have HMU:=hid (show met2.getD u false=met2[u]'hum by rw [List.getD_eq_getElem?_getD,List.getElem?_eq_getElem hum];rfl)
       cases hmu:met2[u]'hum with
       | true =>
        rw [hmu] at m0 HMU;have STN:=hid (ST4.out.skip (fun _=>⟨HMU.out,hui2⟩));clear hmu;go_wp2_with fail
        go_roundg (gk - 1)
        case measure=>have:=HGI.out;omega
        case rel=>exact⟨met2,pile2,u+1,by omega,by have:=HGI.out;omega,by simp,HM2.out,HZ2.out,HP4.out,HM4.out,STN.out,HB4.out⟩
       | false =>
        have HUN:=hid (unM_set met2 u hum hmu);rw [hmu] at m0;have STN:=hid (ST4.out.push hlt (HREA.out u HEU.out) hui2);have HM5:=hid (Qf.set (l2:=met2.set u true) HM4.out ST4.out.mlen.symm u 0 hum (by decide) (.bool true) true rfl rfl);rw [Nat.mul_one,Nat.add_zero] at HM5;have HP5:=hid (show Qf encNa 3 (w4.setCell ⟨w.heap.size,u,none⟩ (.bool true)) w.heap.size _ pile2 from Qw HP4.out (by obtain⟨cur,hcur⟩:=Qf.row HM4.out;exact Qx HP4.out hcur (by decide)) u (.bool true));have HB5:=hid (HB4.out.setCell (p:=⟨w.heap.size,u,none⟩) (Nat.le_refl _) (.bool true));have HSZ5:=hid (show w.heap.size≤(w4.setCell ⟨w.heap.size,u,none⟩ (.bool true)).heap.size from HB5.out.size);clear hmu;go_upto_region 13 with fail;generalize w4.setCell ⟨w.heap.size,u,none⟩ (.bool true)=w5 at *
        go_wp2_with (at_builtin;refine Xv (E:=encNa) rfl (.tmp 56) (.tmp 58) rfl Tryz.underlying168 infoNa rfl (by decide) w.heap.size _ pile2 u rfl HP5.out rfl (by have:=HZ2.out;have:=HN.out;unfold maxLen;omega) (by have:=HZ2.out;have:=HN.out;omega) HSZ5.out #[.int .i64 u] rfl ?_)
        intro v8 w8 own8 gr8 mv8;have HP8:=hid own8;have HM8:=hid (show Qf encBo 4 w8 w.heap.size _ _ from World.ownsRow.kept HM5.out gr8 (Kn HM5.out HP5.out (by decide)));have HB8:=hid (HB5.out.grown gr8 HSZ5.out (fun k hk=>(World.ownsRow.lt HP5.out k hk).1));clear own8 gr8 mv8;go_wp2_with fail
        go_roundg (gk - 1)
        case measure=>have:=HGI.out;omega
        case rel=>exact⟨met2.set u true,pile2++[u],u+1,by omega,by have:=HGI.out;omega,by simp,by have:=HM2.out;have:=HUN.out;rw [List.length_append,List.length_singleton];omega,by have:=HM2.out;have:=HUN.out;rw [List.length_append,List.length_singleton];have:=HZ2.out;omega,HP8.out,HM8.out,STN.out,HB8.out⟩
    ·have hui:¬ (u:Int)<(rows.length:Int):=by omega
     have STN:=hid (ST4.out.done (fun k he=>by
      have:u=rows.length:=by omega
      rw [this];rw [HED.out,List.getD_eq_getElem?_getD] at he
      rcases Nat.lt_or_ge k row.length with h | h
      ·rw [← HRL.out];exact h
      ·rw [List.getElem?_eq_none h] at he;cases he))
     go_wp2_with fail
     go_roundg (go - 1)
     case measure=>have:=HGP.out;have:=HGO.out;omega
     case rel=>exact⟨met2,pile2,HM2.out,HZ2.out,HP4.out,HM4.out,STN.out,HB4.out⟩
end
section
open Go.Lib
def finT (m:List Stp):Str ⊕ Nat:=match Zy m with
 | some t=>.inl t
 | none=>.inr 3
def goS (l:List Stp)(s:Str):Str ⊕ Nat:=match stepsA (s.length+1) s with
 | none=>.inr 230
 | some m=>finT (l++m)
def goK (l:List Stp)(n:Str)(ks:List (Str×Str))(s:Str):Str ⊕ Nat:=match keysA s.length ks s with
 | none=>.inr 230
 | some (kk,[])=>finT (l++[(n,Kh kk)])
 | some (kk,c::s3)=>if c=47 then goS (l++[(n,Kh kk)]) s3 else .inr 230
def goC (first:Bool)(up:List Stp)(s:Str):Str ⊕ Nat:=match climbA (s.length+1) first up s with
 | none=>.inr 230
 | some (l,r)=>goS l r
theorem stepsA_more:∀ (f g:Nat)(s:Str),s.length<f→s.length<g→stepsA f s=stepsA g s
 | 0,_,_,h,_=>absurd h (Nat.not_lt_zero _)
 | _+1,0,_,_,h=>absurd h (Nat.not_lt_zero _)
 | f+1,g+1,s,h1,h2=>by
  unfold stepsA
  by_cases hn:(Xc s).1=[]
  ·rw [if_pos hn,if_pos hn]
  ·rw [if_neg hn,if_neg hn]
   cases e:keysA (Xc s).2.length [] (Xc s).2 with
   | none=>rfl
   | some z =>
    obtain⟨ks,r⟩:=z
    have hr:=(keysA_ok _ _ _ e (by simp) (by simp)).2.2;have hl:=nameA_len hn
    cases r with
    | nil=>rfl
    | cons c s3 =>
     simp only
     rw [List.length_cons] at hr;rw [stepsA_more f g s3 (by omega) (by omega)]
theorem goS_eq (l:List Stp)(s:Str):goS l s=if(Xc s).1=[] then .inr 230 else goK l (Xc s).1 [] (Xc s).2:=by
 unfold goS stepsA
 by_cases hn:(Xc s).1=[]
 ·rw [if_pos hn,if_pos hn]
 ·rw [if_neg hn,if_neg hn];unfold goK
  cases e:keysA (Xc s).2.length [] (Xc s).2 with
  | none=>rfl
  | some z =>
   obtain⟨ks,r⟩:=z
   have hr:=(keysA_ok _ _ _ e (by simp) (by simp)).2.2;have hl:=nameA_len hn
   cases r with
   | nil=>rfl
   | cons c s3 =>
    simp only
    rw [List.length_cons] at hr
    by_cases hc:c=47
    ·rw [if_pos hc,if_pos hc,goS,stepsA_more s.length (s3.length+1) s3 (by omega) (by omega)]
     cases stepsA (s3.length+1) s3 with
     | none=>rfl
     | some m=>simp
    ·rw [if_neg hc,if_neg hc]
theorem keysA_none {ks:List (Str×Str)}{s:Str}(h:Xp 91 s=none):keysA s.length ks s=some (ks,s):=by
 cases s with
 | nil=>rfl
 | cons c s=>rw [List.length_cons];unfold keysA;rw [h]
theorem goK_end (l:List Stp)(n:Str)(ks:List (Str×Str)):goK l n ks []=finT (l++[(n,Kh ks)]):=rfl
theorem goK_step {s3:Str}(l:List Stp)(n:Str)(ks:List (Str×Str)):goK l n ks (47::s3)=goS (l++[(n,Kh ks)]) s3:=by
 unfold goK;rw [keysA_none (by rfl)];rfl
theorem goK_wrong {s3:Str}{c:UInt8}(l:List Stp)(n:Str)(ks:List (Str×Str))(h1:c≠91)(h2:c≠47):goK l n ks (c::s3)=.inr 230:=by
 unfold goK;rw [keysA_none (by simp [Xp,h1])];simp only;rw [if_neg h2]
theorem keysA_take {ks:List (Str×Str)}{s1:Str}:keysA (91::s1).length ks (91::s1)=match keyA ks s1 with
 | none=>none
 | some (k,s2)=>keysA s1.length (ks++[k]) s2:=by rw [List.length_cons];rfl
theorem goK_bad {l:List Stp}{n:Str}{ks:List (Str×Str)}{s1:Str}(h:keyA ks s1=none):goK l n ks (91::s1)=.inr 230:=by
 unfold goK;rw [keysA_take,h]
theorem goK_more {l:List Stp}{n:Str}{ks:List (Str×Str)}{s1 s2:Str}{k:Str×Str}(h:keyA ks s1=some (k,s2)):goK l n ks (91::s1)=goK l n (ks++[k]) s2:=by
 unfold goK;rw [keysA_take,h];simp only;rw [keysA_more s1.length s2.length _ _ (Nat.le_of_lt (keyA_ok h).2.2.2.1) (Nat.le_refl _)]
theorem climbA_more:∀ (f g:Nat)(first:Bool)(up:List Stp)(s:Str),s.length<f→s.length<g→climbA f first up s=climbA g first up s
 | 0,_,_,_,_,h,_=>absurd h (Nat.not_lt_zero _)
 | _+1,0,_,_,_,_,h=>absurd h (Nat.not_lt_zero _)
 | f+1,g+1,first,up,s,h1,h2=>by
  unfold climbA
  split
  ·split
   ·rfl
   ·split
    ·exact climbA_more f g false up.dropLast _ (by simp at h1;omega) (by simp at h2;omega)
    ·rfl
  ·rfl
theorem goC_stop {first:Bool}{up:List Stp}{s:Str}(h:(first||Zt (fun c=>c==46) s)=false):goC first up s=goS up s:=by
 unfold goC climbA;rw [h];rfl
theorem goC_nil {first:Bool}{s:Str}(h:(first||Zt (fun c=>c==46) s)=true):goC first [] s=.inr 230:=by
 unfold goC climbA;rw [h];rfl
theorem goC_more {first:Bool}{up:List Stp}{r:Str}(h:(first||Zt (fun c=>c==46) (46::46::47::r))=true)(hup:up≠[]):goC first up (46::46::47::r)=goC false up.dropLast r:=by
 unfold goC;rw [show climbA ((46::46::47::r).length+1) first up (46::46::47::r)=climbA (46::46::47::r).length false up.dropLast r from by
  conv=>lhs;unfold climbA
  rw [h,if_pos rfl,if_neg hup]
  rfl]
 rw [climbA_more _ (r.length+1) _ _ _ (by simp;omega) (by omega)]
theorem goC_bad {first:Bool}{up:List Stp}{s:Str}(h:(first||Zt (fun c=>c==46) s)=true)(hs:¬ [46,46,47] <+: s):goC first up s=.inr 230:=by
 unfold goC climbA;rw [h,if_pos rfl]
 split
 ·rfl
 ·next l r e =>
  split at e
  ·cases e
  ·split at e
   ·next r'=>exact absurd ⟨r',rfl⟩ hs
   ·cases e
theorem target_go {g s:Str}{x:Stp}{up:List Stp}(h:Qb g=some (x::up)):Jw g s=goC true (x::up) s:=by
 unfold Jw goC;rw [h]
 simp only
 cases climbA (s.length+1) true (x::up) s with
 | none=>rfl
 | some z =>
  obtain⟨l,r⟩:=z
  simp only
  unfold goS
  cases stepsA (r.length+1) r with
  | none=>rfl
  | some m =>
   simp only
   unfold finT
   rfl
theorem target_no {g s:Str}(h:Qb g=none∨Qb g=some []):Jw g s=.inr 2:=by
 unfold Jw
 rcases h with h | h <;> rw [h]
def kw (ks:List (Str×Str)):Nat:=(ks.map fun k=>k.1.length+k.2.length+2).sum
theorem kw_snoc (ks:List (Str×Str))(k:Str×Str):kw (ks++[k])=kw ks+(k.1.length+k.2.length+2):=by simp [kw]
theorem valueA_len {s v r:Str}(h:valueA s=some (v,r)):v.length+r.length+2=s.length:=by
 cases s with
 | nil=>cases h
 | cons c s =>
  change (if c=39∨c=34 then quoteA c s else none)=some (v,r) at h
  by_cases hc:c=39∨c=34
  ·rw [if_pos hc] at h
   have:=(quoteA_ok h).2.2
   rw [List.length_cons];omega
  ·rw [if_neg hc] at h;cases h
theorem keyA_len {ks:List (Str×Str)}{s r:Str}{k:Str×Str}(h:keyA ks s=some (k,r)):k.1.length+k.2.length+2+r.length≤s.length:=by
 unfold keyA at h
 split at h
 ·cases h
 next s2 e2 =>
 split at h
 ·cases h
 next hn =>
 split at h
 ·cases h
 next hne =>
 split at h
 ·cases h
 next s4 e4 =>
 split at h
 ·cases h
 next v s5 e5 =>
 split at h
 ·cases h
 next s6 e6 =>
 cases h;have h3:=valueA_len e5;have l2:=congrArg List.length (Kr e2);have l4:=congrArg List.length (Kr e4);have l6:=congrArg List.length (Kr e6);have l3:=congrArg List.length (nameA_split s2);rw [List.length_append] at l3;rw [List.length_cons] at l2 l4 l6
 simp only
 omega
theorem dress_le2 (v:Str):(Zv v).length≤2 * v.length:=by
 unfold Zv
 induction v with
 | nil=>simp
 | cons c v ih =>
  rw [List.flatMap_cons,List.length_append,List.length_cons]
  have:(if specB c then [92,c] else [c]:Str).length≤2:=by split <;> simp
  omega
theorem keysT_len (ks:List (Str×Str)):(Kj ks).length≤2 * kw ks:=by
 unfold Kj kw
 induction ks with
 | nil=>simp
 | cons k r ih =>
  rw [List.flatMap_cons,List.length_append,List.map_cons,List.sum_cons]
  have:(keyT k).length≤2 * (k.1.length+k.2.length+2):=by
   unfold keyT
   have:=dress_le2 k.2
   simp
   omega
  omega
theorem kw_perm {a b:List (Str×Str)}(h:a.Perm b):kw a=kw b:=(h.map _).sum_nat
theorem text_srt (n:Str)(ks:List (Str×Str)):(Zw (n,Kh ks)).length≤n.length+2 * kw ks:=by
 unfold Zw;rw [List.length_append,← kw_perm (srtK_perm ks)]
 have:=keysT_len (Kh ks)
 simp only
 omega
theorem keysOk_of:∀ (l ks:List (Str×Str)),(∀ k∈l,Kq k.1=true∧valOk k.2=true)→(ks++l).Pairwise (fun a b=>a.1<b.1)→keysOk ks l=true
 | [],_,_,_=>rfl
 | k::r,ks,h,hp=>by
  simp only [keysOk,Bool.and_eq_true,Bool.not_eq_true']
  obtain⟨h1,h2⟩:=h k (List.mem_cons_self ..)
  refine⟨⟨⟨h1,?_⟩,h2⟩,keysOk_of r (ks++[k]) (fun x hx=>h x (List.mem_cons_of_mem _ hx)) (by rw [List.append_assoc];exact hp)⟩
  unfold lastGE
  cases e:ks.getLast? with
  | none=>rfl
  | some x =>
   have hx:x∈ks:=List.mem_of_getLast? e
   have:=(List.pairwise_append.1 hp).2.2 x hx k (List.mem_cons_self ..)
   exact decide_eq_false (fun hle=>(List.not_lt.2 hle) this)
theorem srt_strict {ks:List (Str×Str)}(hn:(ks.map (·.1)).Nodup):(Kh ks).Pairwise (fun a b=>a.1<b.1):=by
 have h1:=srtK_sorted ks;have h2:((Kh ks).map (·.1)).Nodup:=((srtK_perm ks).map _).nodup_iff.2 hn;rw [List.nodup_iff_pairwise_ne,List.pairwise_map] at h2
 refine(h1.and h2).imp fun {a b} h=>?_
 by_cases hlt:a.1<b.1
 ·exact hlt
 ·exact absurd (List.le_antisymm (List.not_lt.1 h.1) (List.not_lt.1 hlt)) h.2
theorem may_srt {n:Str}{ks:List (Str×Str)}(h1:Kq n=true)(h2:∀ k∈ks,Kq k.1=true∧valOk k.2=true)(h3:(ks.map (·.1)).Nodup):mayB (n,Kh ks)=true:=by
 unfold mayB;rw [h1,keysOk_of _ _ (fun k hk=>h2 k ((srtK_perm ks).mem_iff.1 hk)) (by simpa using srt_strict h3)]
 rfl
end
section
open Go.RowKit Go.Lib
def asc (b:ByteArray)(p:Nat):Array Value:=#[.string b,.int .i64 p]
def ASc (W:World)(Br:Nat)(b:ByteArray)(p:Nat):Prop:=W.heap[Br]?=some (.cells (asc b p) 127 (0,0))
theorem ASc.cells {W:World}{Br:Nat}{b:ByteArray}{p:Nat}(h:ASc W Br b p) :
  W.cell? ⟨Br,0,none⟩=some (.string b)∧W.cell? ⟨Br,1,none⟩=some (.int .i64 p)∧W.frozen? ⟨Br,1,none⟩=false∧Br<W.heap.size:=by
 unfold ASc at h
 refine⟨?_,?_,frozen_of_row _ _ _ _ _ h,lt_of_block h⟩
 all_goals rw [cell_of_row _ _ _ _ _ _ h];rfl
theorem ASc.setAt {W:World}{Br:Nat}{b:ByteArray}{p:Nat}(h:ASc W Br b p)(q:Nat):ASc (W.setCell ⟨Br,1,none⟩ (.int .i64 q)) Br b q:=by
 unfold ASc at *;rw [heap_setCell_same _ _ _ _ _ _ h];simp [asc]
theorem ASc.drewN {W:World}{Br:Nat}{b:ByteArray}{p:Nat}(h:ASc W Br b p)(q:Nat):ASc (W.drewN q) Br b p:=h
theorem ASc.below {W W':World}{Br:Nat}{b:ByteArray}{p:Nat}(h:ASc W Br b p)(hb:Below W.heap.size W W'):ASc W' Br b p:=bk hb h
theorem head_is (b:ByteArray)(p:Nat)(c:UInt8)(h:p<b.size):Zt (fun d=>d==c) (b.data.toList.drop p)=(b[p]==c):=by
 have hl:p<b.data.toList.length:=by rw [← Lib.size_eq];exact h
 rw [List.drop_eq_getElem_cons hl];rfl
theorem head_isnt (b:ByteArray)(p:Nat)(c:UInt8)(h:¬ p<b.size):Zt (fun d=>d==c) (b.data.toList.drop p)=false:=by
 rw [List.drop_eq_nil_of_le (by rw [← Lib.size_eq];omega)];rfl
theorem aon_any (Br:Nat)(b:ByteArray)(p:Nat)(c:UInt8)(w:World)(h:ASc w Br b p)(hp:p≤b.size)(hb:b.size≤4294967296) :
  Calls Tryz.prog 60 #[.pointer (some ⟨Br,0,none⟩),.int .u8 (c.toNat:Int)] w fun x w'=>x=.returned (.bool (Zt (fun d=>d==c) (b.data.toList.drop p)))∧ASc w' Br b p∧Qr Br w w':=by
 have H:=hid h
 by_cases hlt:p<b.size
 ·have hpi:(p:Int)<(b.size:Int):=by omega
  have hp0:(0:Int)≤(p:Int):=by omega
  have HX:=hid (head_is b p c hlt);have hx:((b[p].toNat:Int)==(c.toNat:Int))=(b[p]==c):=u8_eq _ _
  obtain⟨c0,c1,f1,lt⟩:=h.cells
  clear h;generalize hbc:(b[p]==c)=bc at *
  go_enter Tryz.func60,Tryz.ntmps60
  go_wp2_with fail
  go_quiet (fail)
  go_wp2_with fail;exact bodyPost_ret (v:=.bool bc) (by simp [results,Tryz.results60,go_sem]) rfl ⟨by rw [HX.out],H.out.drewN _,(Qr.refl w Br).drewN _⟩
 ·have hd:decide (p<b.size)=false:=decide_eq_false hlt;have hpi:¬ (p:Int)<(b.size:Int):=by omega
  have HX:=hid (head_isnt b p c hlt)
  obtain⟨c0,c1,f1,lt⟩:=h.cells
  clear h
  go_enter Tryz.func60,Tryz.ntmps60
  go_wp2_with fail
  go_quiet (fail)
  go_wp2_with fail;exact bodyPost_ret (v:=.bool false) (by simp [results,Tryz.results60,go_sem]) rfl ⟨by rw [HX.out],H.out.drewN _,(Qr.refl w Br).drewN _⟩
theorem take_more {s m:Str}{k:Nat}(h1:k<s.length)(h2:k<m.length)(h:s.take k=m.take k)(he:s[k]'h1=m[k]'h2):s.take (k+1)=m.take (k+1):=by
 rw [List.take_succ_eq_append_getElem h1,List.take_succ_eq_append_getElem h2,h,he]
theorem not_pre {s m:Str}{k:Nat}(h1:k<s.length)(h2:k<m.length)(he:¬ s[k]'h1=m[k]'h2):¬ m <+: s:=by
 rintro⟨r,rfl⟩
 rw [List.getElem_append_left h2] at he;exact he rfl
theorem amust_any (Br : Nat) (b m : ByteArray) (p : Nat) (w : World) (h : ASc w Br b p) (hp : p ≤ b.size) (hb : b.size ≤ 4294967296) (hm : m.size ≤ 1000) :
    Calls Tryz.prog 61 #[.pointer (some ⟨Br, 0, none⟩), .string m] w fun x w' => Qr Br w w' ∧
      ((x = .returned (.bool true) ∧ ASc w' Br b (p + m.size) ∧ p + m.size ≤ b.size ∧ b.data.toList.drop p = m.data.toList ++ b.data.toList.drop (p + m.size)) ∨
       (x = .returned (.bool false) ∧ (∃ q, ASc w' Br b q ∧ q ≤ b.size) ∧ ¬ m.data.toList <+: b.data.toList.drop p)) := by
  have H := hid h
  have HLB := hid (show b.data.toList.length = b.size from (Lib.size_eq b).symm)
  have HLM := hid (show m.data.toList.length = m.size from (Lib.size_eq m).symm)
  clear h
  go_enter Tryz.func61, Tryz.ntmps61
  go_wp2_with fail
  go_loopg [5] m.size (fun g v5 W => ∃ k q : Nat, q = p + k ∧ k ≤ m.size ∧ m.size ≤ k + g ∧ q ≤ b.size ∧ v5 = .int .i64 k ∧ (b.data.toList.drop p).take k = m.data.toList.take k ∧ ASc W Br b q ∧ Qr Br w W)
  case atStart => exact ⟨0, p, rfl, Nat.zero_le _, by omega, hp, rfl, by simp, H.out, Qr.refl _ _⟩
  case round =>
    obtain ⟨k, q, hq, hk, hg, hqb, rfl, htk, st, o⟩ := hrel
    rename World => w1
    have HG := hid hg
    have HQ := hid hq
    have HTK := hid htk
    have ST := hid st
    have O1 := hid o
    clear hg hq htk st o H
    obtain ⟨c0, c1, f1, lt⟩ := ST.out.cells
    have hk0 : (0 : Int) ≤ (k : Int) := by omega
    have hq0 : (0 : Int) ≤ (q : Int) := by omega
    by_cases hkm : k < m.size
    · have hki : (k : Int) < (m.size : Int) := by omega
      by_cases hqs : q < b.size
      · have hqi : (q : Int) < (b.size : Int) := by omega
        have hl1 : k < (b.data.toList.drop p).length := by rw [List.length_drop, HLB.out]; have := HQ.out; omega
        have hl2 : k < m.data.toList.length := by rw [HLM.out]; exact hkm
        have he1 : (b.data.toList.drop p)[k]'hl1 = b[q]'hqs := by
          rw [List.getElem_drop]
          have : p + k = q := HQ.out.symm
          subst this
          rfl
        have he2 : m.data.toList[k]'hl2 = m[k]'hkm := rfl
        by_cases hc : b[q]'hqs = m[k]'hkm
        · have hx : (((b[q]'hqs).toNat : Int) != ((m[k]'hkm).toNat : Int)) = false := by unfold bne; rw [u8_eq, hc]; simp
          have hy : ((q : Int) == (b.size : Int)) = false := beq_eq_false_iff_ne.2 (by omega)
          have HT2 := hid (take_more hl1 hl2 HTK.out (by rw [he1, he2, hc]))
          clear hc he1 he2
          go_wp2_with fail
          go_quiet (fail)
          have S2 := hid (ST.out.drewN nq)
          have O2 := hid (O1.out.drewN nq)
          clear c0 c1 f1 lt ST O1 HTK hx hy
          generalize w1.drewN nq = w2 at *
          obtain ⟨c0, c1, f1, lt⟩ := S2.out.cells
          go_wp2_with fail
          go_roundg (gk - 1)
          case measure => have := HG.out; omega
          case rel => exact ⟨k + 1, q + 1, by have := HQ.out; omega, by omega, by have := HG.out; omega, by omega, by simp, HT2.out, S2.out.setAt (q + 1), O2.out.set _ _⟩
        · have hx : (((b[q]'hqs).toNat : Int) != ((m[k]'hkm).toNat : Int)) = true := by unfold bne; rw [u8_eq]; simpa using hc
          have hy : ((q : Int) == (b.size : Int)) = false := beq_eq_false_iff_ne.2 (by omega)
          have HNP := hid (not_pre hl1 hl2 (by rw [he1, he2]; exact hc))
          clear hc he1 he2
          go_wp2_with fail
          go_quiet (fail)
          go_wp2_with fail
          exact bodyPost_ret (v := .bool false) (by simp [results, Tryz.results61, go_sem]) rfl ⟨O1.out.drewN _, Or.inr ⟨rfl, ⟨q, ST.out.drewN _, hqb⟩, HNP.out⟩⟩
      · have hy : ((q : Int) == (b.size : Int)) = true := beq_iff_eq.2 (by omega)
        have HNP := hid (show ¬ m.data.toList <+: b.data.toList.drop p from fun hpre => by
          have := hpre.length_le
          rw [List.length_drop, HLB.out, HLM.out] at this
          have := HQ.out
          omega)
        go_wp2_with fail
        go_quiet (fail)
        go_wp2_with fail
        exact bodyPost_ret (v := .bool false) (by simp [results, Tryz.results61, go_sem]) rfl ⟨O1.out.drewN _, Or.inr ⟨rfl, ⟨q, ST.out.drewN _, hqb⟩, HNP.out⟩⟩
    · have hki : ¬ (k : Int) < (m.size : Int) := by omega
      have HKM := hid (show k = m.size by omega)
      go_wp2_with fail
      refine bodyPost_ret (v := .bool true) (by simp [results, Tryz.results61, go_sem]) rfl ⟨O1.out, Or.inl ⟨rfl, ?_, ?_, ?_⟩⟩
      · rw [← HKM.out, ← HQ.out]; exact ST.out
      · rw [← HKM.out, ← HQ.out]; exact hqb
      · have h1 := List.take_append_drop k (b.data.toList.drop p)
        rw [HTK.out, List.drop_drop, HKM.out, List.take_of_length_le (by rw [HLM.out]; exact Nat.le_refl _)] at h1
        exact h1.symm
end
section
open Go.RowKit Go.Lib
theorem nameA_no {s:Str}(h:Zt Jy s=false):Xc s=([],s):=by unfold Xc;rw [h];simp
theorem nameA_yes {s:Str}{k:Nat}(h:Zt Jy s=true)(hk:k≤s.length)(ha:(s.take k).all Zp=true)(hn:∀ c,s[k]?=some c→Zp c=false):(Xc s).1=s.take k:=by
 obtain⟨e1,_⟩:=takeWhile_at s k hk ha hn
 unfold Xc;rw [if_pos h];exact e1
theorem start_name {c:UInt8}(h:Jy c=true):Zp c=true:=by simp [Zp,h]
theorem aname_any (Br:Nat)(b:ByteArray)(p:Nat)(w:World)(h:ASc w Br b p)(hp:p≤b.size)(hb:b.size≤4294967296) :
  Calls Tryz.prog 62 #[.pointer (some ⟨Br,0,none⟩)] w fun x w'=>x=.returned (.string ⟨((Xc (b.data.toList.drop p)).1).toArray⟩)∧(∃ q,ASc w' Br b q∧q≤b.size∧q=p+(Xc (b.data.toList.drop p)).1.length)∧Qr Br w w':=by
 have H:=hid h;have HLB:=hid (show b.data.toList.length=b.size from(Lib.size_eq b).symm);have hp0:(0:Int)≤(p:Int):=by omega
 obtain⟨c0,c1,f1,lt⟩:=h.cells
 clear h
 go_enter Tryz.func62,Tryz.ntmps62
 go_wp2_with fail
 go_loopg [] b.size (fun g W=>∃ q:Nat,p≤q∧q≤b.size∧b.size≤q+g∧((b.data.toList.drop p).take (q - p)).all Zp=true∧(p<q→Zt Jy (b.data.toList.drop p)=true)∧ASc W Br b q∧Qr Br w W)
 case atStart=>exact⟨p,Nat.le_refl _,hp,by omega,by simp,fun h=>absurd h (Nat.lt_irrefl _),H.out,Qr.refl _ _⟩
 case round =>
  obtain⟨q,hple,hqle,hg,hall,hhd,st3,o3⟩:=hrel
  rename World=>w3
  clear c0 c1 f1 lt H;have HG:=hid hg;have ST3:=hid st3;have O3:=hid o3;have HALL:=hid hall;have HHD:=hid hhd;clear hg st3 o3 hall hhd
  obtain⟨c0,c1,f1,lt⟩:=ST3.out.cells
  have hqz:(0:Int)≤(q:Int):=by omega
  have hpq:(p:Int)≤(q:Int):=by omega
  have hqb:(q:Int)≤(b.size:Int):=by omega
  have FIN:=hid (fun(hn:∀ c,(b.data.toList.drop p)[q - p]?=some c→(p<q→Zp c=false)∧(p=q→Jy c=false))=>show(Xc (b.data.toList.drop p)).1=(b.data.toList.drop p).take (q - p)∧q=p+(Xc (b.data.toList.drop p)).1.length from by
   have hle:q - p≤(b.data.toList.drop p).length:=by rw [List.length_drop,HLB.out];omega
   have h1:(Xc (b.data.toList.drop p)).1=(b.data.toList.drop p).take (q - p):=by
    rcases Nat.lt_or_ge p q with h | h
    ·exact nameA_yes (HHD.out h) hle HALL.out (fun c hc=>(hn c hc).1 h)
    ·obtain rfl:p=q:=by omega
     rw [Nat.sub_self] at hn ⊢;rw [nameA_no]
     ·simp
     ·cases hd:b.data.toList.drop p with
      | nil=>rfl
      | cons c t=>rw [hd] at hn;exact(hn c rfl).2 rfl
   refine⟨h1,?_⟩
   rw [h1,List.length_take,Nat.min_eq_left hle];omega)
  by_cases hql:q<b.size
  ·have hqi:(q:Int)<(b.size:Int):=by omega
   have hget:(b.data.toList.drop p)[q - p]?=some (b[q]'hql):=by
    rw [List.getElem?_drop,show p+(q - p)=q by omega,List.getElem?_eq_getElem (by rw [HLB.out];exact hql)]
    rfl
   rcases Nat.lt_or_ge p q with hlt | hge
   ·have hlt':(p:Int)<(q:Int):=by omega
    have hy:((q:Int)==(p:Int))=false:=beq_eq_false_iff_ne.2 (by omega)
    cases hnb:Zp (b[q]'hql)
    ·have NB:=hid (fun m=>hnb ▸ nameByte_any (b[q]'hql) (w3.drewN m));have FI:=hid (FIN.out (fun c hc=>⟨fun _=>by rw [hget] at hc;rw [← Option.some.inj hc];exact hnb,fun e=>by omega⟩));clear HALL hnb HG FIN hget;go_wp2_with fail
     go_quiet ((go_at_call 101;exact Calls.quiet_of_same (NB.out _)))
     have H4:=hid (ST3.out.drewN nq);have O4:=hid (O3.out.drewN nq);clear c0 c1 f1 lt ST3 O3;generalize w3.drewN nq=w4 at *
     obtain⟨c0,c1,f1,lt⟩:=H4.out.cells
     have HXT:=hid (ext_at b p q);go_wp2_with fail
     go_quiet (fail)
     go_wp2_with fail;exact bodyPost_ret (v:=.string (b.extract p q)) (by simp [results,Tryz.results62,go_sem]) rfl ⟨by rw [HXT.out,FI.out.1],⟨q,H4.out.drewN _,hqle,FI.out.2⟩,O4.out.drewN _⟩
    ·have NB:=hid (fun m=>hnb ▸ nameByte_any (b[q]'hql) (w3.drewN m));have HA2:=hid (show((b.data.toList.drop p).take (q+1 - p)).all Zp=true from by
      have:=takeAll_more (p:=Zp) b p (q - p) (by omega) HALL.out (by simpa [show p+(q - p)=q by omega] using hnb)
      rwa [show q - p+1=q+1 - p by omega] at this)
     have HH2:=hid (HHD.out hlt);clear HALL hnb FIN hget HHD;go_wp2_with fail
     go_quiet ((go_at_call 101;exact Calls.quiet_of_same (NB.out _)))
     have H4:=hid (ST3.out.drewN nq);have O4:=hid (O3.out.drewN nq);clear c0 c1 f1 lt ST3 O3 NB;generalize w3.drewN nq=w4 at *
     obtain⟨c0,c1,f1,lt⟩:=H4.out.cells
     go_wp2_with fail
     go_roundg (gk - 1)
     case measure=>have:=HG.out;omega
     case rel=>exact⟨q+1,by omega,by omega,by have:=HG.out;omega,HA2.out,fun _=>HH2.out,H4.out.setAt (q+1),O4.out.set _ _⟩
   ·obtain rfl:p=q:=by omega
    have hd0:(b.data.toList.drop p)[0]?=some (b[p]'hql):=by rw [Nat.sub_self] at hget;exact hget
    cases hnb:Jy (b[p]'hql)
    ·have NB:=hid (fun m=>hnb ▸ nameStart_any (b[p]'hql) (w3.drewN m));have FI:=hid (FIN.out (fun c hc=>⟨fun h=>absurd h (Nat.lt_irrefl _),fun e=>by rw [hget] at hc;rw [← Option.some.inj hc];exact hnb⟩));clear HALL hnb HG FIN hget hd0;go_wp2_with fail
     go_quiet ((go_at_call 100;exact Calls.quiet_of_same (NB.out _)))
     have H4:=hid (ST3.out.drewN nq);have O4:=hid (O3.out.drewN nq);clear c0 c1 f1 lt ST3 O3;generalize w3.drewN nq=w4 at *
     obtain⟨c0,c1,f1,lt⟩:=H4.out.cells
     have HXT:=hid (ext_at b p p);go_wp2_with fail
     go_quiet (fail)
     go_wp2_with fail;exact bodyPost_ret (v:=.string (b.extract p p)) (by simp [results,Tryz.results62,go_sem]) rfl ⟨by rw [HXT.out,FI.out.1],⟨p,H4.out.drewN _,hqle,FI.out.2⟩,O4.out.drewN _⟩
    ·have NB:=hid (fun m=>hnb ▸ nameStart_any (b[p]'hql) (w3.drewN m));have HH2:=hid (show Zt Jy (b.data.toList.drop p)=true by rw [head_at b p hql];exact hnb);have HA2:=hid (show((b.data.toList.drop p).take (p+1 - p)).all Zp=true from by
      have:=takeAll_more (p:=Zp) b p 0 (by omega) (by simp) (by simpa using start_name hnb)
      rwa [show 0+1=p+1 - p by omega] at this)
     clear HALL hnb FIN hget HHD hd0;go_wp2_with fail
     go_quiet ((go_at_call 100;exact Calls.quiet_of_same (NB.out _)))
     have H4:=hid (ST3.out.drewN nq);have O4:=hid (O3.out.drewN nq);clear c0 c1 f1 lt ST3 O3 NB;generalize w3.drewN nq=w4 at *
     obtain⟨c0,c1,f1,lt⟩:=H4.out.cells
     go_wp2_with fail
     go_roundg (gk - 1)
     case measure=>have:=HG.out;omega
     case rel=>exact⟨p+1,by omega,by omega,by have:=HG.out;omega,HA2.out,fun _=>HH2.out,H4.out.setAt (p+1),O4.out.set _ _⟩
  ·have hqi:¬ (q:Int)<(b.size:Int):=by omega
   have hd:decide (q<b.size)=false:=decide_eq_false hql;have FI:=hid (FIN.out (fun c hc=>by
    rw [List.getElem?_drop,show p+(q - p)=q by omega,List.getElem?_eq_none (by rw [HLB.out];omega)] at hc
    cases hc))
   clear HALL HG FIN;go_wp2_with fail
   go_quiet (fail)
   have H4:=hid (ST3.out.drewN nq);have O4:=hid (O3.out.drewN nq);clear c0 c1 f1 lt ST3 O3;generalize w3.drewN nq=w4 at *
   obtain⟨c0,c1,f1,lt⟩:=H4.out.cells
   have HXT:=hid (ext_at b p q);go_wp2_with fail
   go_quiet (fail)
   go_wp2_with fail;exact bodyPost_ret (v:=.string (b.extract p q)) (by simp [results,Tryz.results62,go_sem]) rfl ⟨by rw [HXT.out,FI.out.1],⟨q,H4.out.drewN _,hqle,FI.out.2⟩,O4.out.drewN _⟩
end
end Go.Proofs.YtbbmdbolkicpcaaGreatDoor
