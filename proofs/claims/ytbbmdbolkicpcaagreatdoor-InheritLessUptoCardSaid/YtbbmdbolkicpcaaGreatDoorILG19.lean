/- SlDel, InhW, PtWithoutA, PtWithout, InhSee, TbTables, InhWalk, InhVal0, SideA -/
import Derived.Test.YtbbmdbolkicpcaaGreatDoorILG05
import Derived.Deep.RegionLaw
import Derived.Lib.SliceRun
import Derived.Shelf.RegionOpenPlain
import Derived.BigQuiet
import Derived.Test.YtbbmdbolkicpcaaGreatDoorILG15
import Derived.Test.YtbbmdbolkicpcaaGreatDoorILG13
import Derived.Test.YtbbmdbolkicpcaaGreatDoorILG17
import Derived.Test.YtbbmdbolkicpcaaGreatDoorILG12
import Derived.Test.YtbbmdbolkicpcaaGreatDoorILG18
import Derived.Test.YtbbmdbolkicpcaaGreatDoorILG14
import Derived.Deep.RegionHeld3
set_option maxRecDepth 100000
set_option maxHeartbeats 32000000
set_option linter.unusedVariables false
set_option linter.unusedSimpArgs false
namespace Go.Proofs.YtbbmdbolkicpcaaGreatDoor
section
open Go.RowKit Go.Lib
theorem flat2_append (a b:List (Str×Str)):Ky (a++b)=Ky a++Ky b:=by simp [Ky]
theorem flat2_take (l:List (Str×Str))(i:Nat)(h:i≤l.length):Ky (l.take i)=(Ky l).take (i * 2):=by
 have e:Ky l=Ky (l.take i)++Ky (l.drop i):=by rw [← flat2_append,List.take_append_drop]
 rw [e,List.take_left' (by rw [Jv,List.length_take,Nat.min_eq_left h])]
theorem flat2_drop (l:List (Str×Str))(i:Nat)(h:i≤l.length):Ky (l.drop i)=(Ky l).drop (i * 2):=by
 have e:Ky l=Ky (l.take i)++Ky (l.drop i):=by rw [← flat2_append,List.take_append_drop]
 rw [e,List.drop_left' (by rw [Jv,List.length_take,Nat.min_eq_left h])]
theorem heap_setCells (g:Nat)(ty:TypeId):∀ (vs:List Value)(o:Nat)(w:World)(cs:Array Value),w.heap[g]?=some (.cells cs ty (0,0)) →
  ∃ cs':Array Value,(w.setCells g o vs).heap[g]?=some (.cells cs' ty (0,0))∧cs'.size=cs.size∧∀ k,k<cs.size→cs'[k]?=if o≤k∧k<o+vs.length then vs[k - o]? else cs[k]?
 | [],o,w,cs,h=>⟨cs,h,rfl,fun k hk=>by rw [if_neg (by simp only [List.length_nil];omega)]⟩
 | v::r,o,w,cs,h=>by
  obtain⟨cs',h1,h2,h3⟩:=heap_setCells g ty r (o+1) (w.setCell ⟨g,o,none⟩ v) _ (heap_setCell_same _ _ _ _ _ _ h)
  refine⟨cs',h1,by rw [h2];simp,fun k hk=>?_⟩
  rw [h3 k (by simpa using hk)]
  by_cases hko:k=o
  ·subst hko;rw [if_neg (by omega),if_pos (by simp),Array.getElem?_setIfInBounds_self_of_lt hk,Nat.sub_self]
   rfl
  ·by_cases hk2:o+1≤k∧k<o+1+r.length
   ·rw [if_pos hk2,if_pos (by simp;omega)]
    obtain⟨d,rfl⟩:∃ d,k=o+1+d:=⟨k - (o+1),by omega⟩
    rw [show o+1+d - (o+1)=d by omega,show o+1+d - o=d+1 by omega,List.getElem?_cons_succ]
   ·rw [if_neg hk2,if_neg (by simp;omega),Array.getElem?_setIfInBounds_ne (by omega)]
theorem setCells_others (g:Nat):∀ (vs:List Value)(o:Nat)(w:World),w.grownBy (w.setCells g o vs) (some g)
 | [],_,w=>World.grownBy.refl _ _
 | v::r,o,w=>by
  have h:=setCells_others g r (o+1) (w.setCell ⟨g,o,none⟩ v)
  exact⟨h.os,h.tape,h.output,Nat.le_trans (by simp) h.size,fun k hk hne=>(h.block k (by simpa using hk) hne).trans (heap_setCell_other _ _ _ _ (fun e=>hne (by rw [e])))⟩
theorem run_clear_pair (w:World)(b o c:Nat)(ty:TypeId)(hc:∀ j,j<2→(w.cell? ⟨b,o+j,none⟩).isSome=true)(hf:∀ j,j<2→w.frozen? ⟨b,o+j,none⟩=false) :
  (Builtin.clear_ #[65] ty #[.slice (some ⟨b,o,none⟩) 1 c]).run Tryz.prog w=.ok (.tuple #[]) (w.setCells b o [.string ⟨#[]⟩,.string ⟨#[]⟩]):=by
 have hv:(zeroValue 76).run Tryz.prog w=.ok (.agg #[.string ⟨#[]⟩,.string ⟨#[]⟩]) w:=Tryz.zeroValue76 w;have hzc:(Builtin.zeroCells (Value.agg #[.string ⟨#[]⟩,.string ⟨#[]⟩]).cells 1).toList=[.string ⟨#[]⟩,.string ⟨#[]⟩]:=by
  simp [Builtin.zeroCells,Value.cells]
  rfl
 have hst:=run_storeCells_cells (P:=Tryz.prog) b o [.string ⟨#[]⟩,.string ⟨#[]⟩] 0 w (by simpa using hc) (by simpa using hf) (by intro v hv';simp at hv';subst hv';rfl);simp only [Nat.add_zero] at hst
 simp [Builtin.clear_,run_underlying Tryz.underlying65,hv,hzc,hst]
theorem sdel_gen (w:World)(g c i j N:Nat)(cur:Array Value)(hg:w.heap[g]?=some (.cells cur 76 (0,0)))(hs:cur.size=c * 2)(hn:N≤c)(hm:c≤maxLen)(hij:i+1=j)(hj:j≤N)(h1c:∀ k,k<N * 2→∃ u,cur[k]?=some u∧u.oneCell'=true) :
  Calls Tryz.prog 88 #[.slice (some ⟨g,0,none⟩) N c,.int .i64 i,.int .i64 j] w fun e w'=>e=.returned (.slice (some ⟨g,0,none⟩) (i+(N - j)) c)∧w'=(w.drew.setCells g (0+i * 2) ((cur.toList.take (N * 2)).drop (j * 2))).setCells g ((i+(N - j)) * 2) [.string ⟨#[]⟩,.string ⟨#[]⟩]:=by
 obtain⟨i0,hi0,hz0,hz1,hz2⟩:=info_parts infoP
 obtain⟨news,hnews⟩:∃ news,news=(cur.toList.take (N * 2)).drop (j * 2):=⟨_,rfl⟩
 rw [← hnews];have hlen:news.length=(N - j) * 2:=by rw [hnews,List.length_drop,List.length_take,Array.length_toList,hs];omega
 have hget:∀ t,t<(N - j) * 2→news[t]?=cur[j * 2+t]?:=fun t h=>by
  rw [hnews,List.getElem?_drop,List.getElem?_take,if_pos (by omega),Array.getElem?_toList]
 have hcell:∀ k,w.drew.cell? ⟨g,k,none⟩=cur[k]?:=fun k=>by
  rw [cell_of_row w.drew g k _ _ _ hg]
 obtain⟨A,hA,hsrc⟩:∃ A:Addr,(if c=j then some (⟨g,0,none⟩:Addr) else some ⟨g,j * 2,none⟩)=some A∧Hid (∀ t u,news[t]?=some u→w.drew.cell? (A.add t)=some u):=by
  by_cases h:c=j
  ·refine⟨⟨g,0,none⟩,by simp [h],fun t u hu=>?_⟩
   have h0:news.length=0:=by rw [hlen];omega
   rw [List.length_eq_zero_iff.1 h0] at hu
   simp at hu
  ·refine⟨⟨g,j * 2,none⟩,by simp [h],fun t u hu=>?_⟩
   have ht:t<(N - j) * 2:=by
    have:=(List.getElem?_eq_some_iff.1 hu).1
    rwa [hlen] at this
   rw [hget t ht] at hu;rw [Addr.add_lit]
   exact(hcell _).trans hu
 have s1:Hid (news.length=(N - j) * 2):=hlen;have s2:Hid (∀ u∈news,u.oneCell'=true):=by
  intro u hu
  obtain⟨t,ht,rfl⟩:=List.getElem_of_mem hu
  have h2:=hget t (by rw [← hlen];exact ht)
  obtain⟨u',e1,e2⟩:=h1c (j * 2+t) (by rw [hlen] at ht;omega)
  rw [e1,List.getElem?_eq_getElem ht] at h2;rw [Option.some.inj h2];exact e2
 have s3:Hid (∀ t,t<news.length→(w.drew.cell? ⟨g,0+i * 2+t,none⟩).isSome=true∧w.drew.frozen? ⟨g,0+i * 2+t,none⟩=false):=by
  intro t ht;rw [hlen] at ht
  refine⟨?_,frozen_of_row w.drew _ _ _ _ hg⟩
  rw [hcell];rw [Array.getElem?_eq_getElem (by omega)]
  rfl
 obtain⟨W1,hW1⟩:∃ W1,W1=w.drew.setCells g (0+i * 2) news:=⟨_,rfl⟩
 obtain⟨cur1,hg1,hs1,_⟩:=heap_setCells g 76 news (0+i * 2) w.drew cur hg
 rw [← hW1] at hg1;have hcl:∀ ty,(Builtin.clear_ #[65] ty #[.slice (some ⟨g,(i+(N - j)) * 2,none⟩) (N - (i+(N - j))) (c - (i+(N - j)))]).run Tryz.prog W1=.ok (.tuple #[]) (W1.setCells g ((i+(N - j)) * 2) [.string ⟨#[]⟩,.string ⟨#[]⟩]):=fun ty=>by
  rw [show N - (i+(N - j))=1 by omega];refine run_clear_pair W1 _ _ _ _ (fun k hk=>?_) (fun k hk=>frozen_of_row W1 _ _ _ _ hg1);rw [cell_of_row W1 g _ _ _ _ hg1,Array.getElem?_eq_getElem (by omega)]
  rfl
 have X:Hid (W1=w.drew.setCells g (0+i * 2) news):=hW1;have hic:i≤c:=by omega
 have hjc:j≤c:=by omega
 have hnij:¬ i=j:=by omega
 have hm2:c≤9223372036854775807:=by unfold maxLen at hm;omega
 have mixed:Tryz.prog.follows Departure.mixedOrders=true:=by kernel_rfl
 clear hW1 hget hnews hlen hg1 hs1 hcell h1c hg hs
 go_enter Tryz.func88,Tryz.ntmps88
 go_wp2_with fail
 go_region_law_o (refine step_append_room rfl (.tmp 22) (.tmp 25) 65 rfl 76 i0 2 Tryz.underlying65 hi0 hz1 g 0 i c (by simp [Act.eval,Act.put]) A (N - j) (c - j) news (by simp [Act.eval,Act.put]) s1.out hsrc.out s2.out (by omega) s3.out ?_;rw [← X.out])
 go_wp2
 go_ret
 exact⟨rfl,by rw [X.out]⟩
theorem flat2_one (ks:List (Str×Str)):∀ u∈Ky ks,u.oneCell'=true:=fun u hu=>by
 obtain⟨x,_,hx⟩:=List.mem_flatMap.1 hu
 simp only [Jh,List.mem_cons,List.not_mem_nil,or_false] at hx
 rcases hx with rfl | rfl <;> rfl
theorem sdel_any (w:World)(B g c i:Nat)(ks:List (Str×Str))(h:Qd w B (.slice (some ⟨g,0,none⟩) ks.length c) ks)(hi:i<ks.length) :
  Calls Tryz.prog 88 #[.slice (some ⟨g,0,none⟩) ks.length c,.int .i64 i,.int .i64 ((i:Int)+1)] w fun e w'=>e=.returned (.slice (some ⟨g,0,none⟩) (ks.take i++ks.drop (i+1)).length c)∧
   Qd w' B (.slice (some ⟨g,0,none⟩) (ks.take i++ks.drop (i+1)).length c) (ks.take i++ks.drop (i+1))∧w.grownBy w' (some g):=by
 rcases h.shape with ⟨e,_⟩ | ⟨g',cap,cur,e,hB,hg,hn,hm,hs,ht⟩
 ·cases e
 cases e;have hcur:∀ k,k<ks.length * 2→cur[k]?=(Ky ks)[k]?:=fun k h=>by
  rw [← ht,List.getElem?_take,if_pos h,Array.getElem?_toList]
 have hln:(ks.take i++ks.drop (i+1)).length=ks.length - 1:=by rw [List.length_append,List.length_take,List.length_drop];omega
 have hg2:=sdel_gen w g c i (i+1) ks.length cur hg hs hn hm rfl hi (fun k hk=>by
  have hk2:k<(Ky ks).length:=by rw [Jv];exact hk
  exact⟨_,(hcur k hk).trans (List.getElem?_eq_getElem hk2),flat2_one ks _ (List.getElem_mem hk2)⟩)
 refine hg2.mono ?_;rintro e w' ⟨rfl,rfl⟩;have hidx:i+(ks.length - (i+1))=(ks.take i++ks.drop (i+1)).length:=by rw [hln];omega
 rw [hidx]
 refine⟨rfl,?_,?_⟩
 ·obtain⟨cur1,h1,h2,h3⟩:=heap_setCells g 76 ((cur.toList.take (ks.length * 2)).drop ((i+1) * 2)) (0+i * 2) w.drew cur hg
  obtain⟨cur2,k1,k2,k3⟩:=heap_setCells g 76 [.string ⟨#[]⟩,.string ⟨#[]⟩] ((ks.take i++ks.drop (i+1)).length * 2) _ cur1 h1
  refine⟨Jv _,Or.inr ⟨g,c,cur2,rfl,hB,k1,by rw [hln];omega,hm,by rw [k2,h2];exact hs,?_⟩⟩
  apply List.ext_getElem?
  intro k;rw [flat2_append,flat2_take ks i (Nat.le_of_lt hi),flat2_drop ks (i+1) hi];have l1:((Ky ks).take (i * 2)).length=i * 2:=by rw [List.length_take,Jv];omega
  by_cases hk:k<(ks.take i++ks.drop (i+1)).length * 2
  ·have hkc:k<cur.size:=by rw [hs];rw [hln] at hk;omega
   rw [List.getElem?_take,if_pos hk,Array.getElem?_toList,k3 k (by rw [h2];exact hkc),if_neg (by omega),h3 k hkc];have l2:((cur.toList.take (ks.length * 2)).drop ((i+1) * 2)).length=(ks.length - (i+1)) * 2:=by rw [List.length_drop,List.length_take,show cur.toList.length=c * 2 from(Array.length_toList ..).trans hs];omega
   by_cases hki:k<i * 2
   ·rw [if_neg (by omega),List.getElem?_append_left (by rw [l1];exact hki),List.getElem?_take,if_pos hki,hcur k (by rw [hln] at hk;omega)]
   ·rw [if_pos ⟨by omega,by rw [l2];rw [hln] at hk;omega⟩,List.getElem?_append_right (by rw [l1];omega),l1,Nat.zero_add,ht]
  ·rw [List.getElem?_take,if_neg hk,List.getElem?_eq_none];rw [List.length_append,l1,List.length_drop,Jv];rw [hln] at hk
   omega
 ·have h1:w.grownBy w.drew (some g):=⟨rfl,rfl,rfl,Nat.le_refl _,fun _ _ _=>rfl⟩;have h2:=setCells_others g ((cur.toList.take (ks.length * 2)).drop ((i+1) * 2)) (0+i * 2) w.drew;have h3:=setCells_others g [.string ⟨#[]⟩,.string ⟨#[]⟩] ((ks.take i++ks.drop (i+1)).length * 2) (w.drew.setCells g (0+i * 2) ((cur.toList.take (ks.length * 2)).drop ((i+1) * 2)));exact Qr.trans (Qr.trans h1 h2) h3
end
section
open Go.Lib
theorem keysOk_lt:∀ (l ks:List (Str×Str)),keysOk ks l=true→ks.Pairwise (fun a b=>a.1<b.1)→(ks++l).Pairwise (fun a b=>a.1<b.1)∧∀ k∈l,Kq k.1=true∧valOk k.2=true
 | [],ks,_,h=>⟨by simpa using h,fun k hk=>by cases hk⟩
 | k::r,ks,h,hp=>by
  simp only [keysOk,Bool.and_eq_true,Bool.not_eq_true'] at h
  obtain⟨⟨⟨h1,h2⟩,h3⟩,h4⟩:=h
  have hk:∀ x∈ks,x.1<k.1:=by
   unfold lastGE at h2
   cases e:ks.getLast? with
   | none =>
    rw [List.getLast?_eq_none_iff.1 e];intro x hx;cases hx
   | some y =>
    rw [e] at h2;have hy:y.1<k.1:=List.not_le.1 (of_decide_eq_false h2)
    obtain⟨l',rfl⟩:∃ l',ks=l'++[y]:=List.getLast?_eq_some_iff.1 e
    intro x hx
    rcases List.mem_append.1 hx with hx | hx
    ·exact List.lt_trans ((List.pairwise_append.1 hp).2.2 x hx y (List.mem_singleton.2 rfl)) hy
    ·rw [List.mem_singleton.1 hx];exact hy
  have hp2:(ks++[k]).Pairwise (fun a b:Str×Str=>a.1<b.1):=List.pairwise_append.2 ⟨hp,List.pairwise_singleton _ _,fun x hx y hy=>by rw [List.mem_singleton.1 hy];exact hk x hx⟩
  obtain⟨g1,g2⟩:=keysOk_lt r (ks++[k]) h4 hp2
  refine⟨by simpa using g1,fun x hx=>?_⟩
  rcases List.mem_cons.1 hx with rfl | hx
  ·exact⟨h1,h3⟩
  ·exact g2 x hx
theorem may_keys {x:Stp}(h:mayB x=true):Kq x.1=true∧x.2.Pairwise (fun a b=>a.1<b.1)∧∀ k∈x.2,Kq k.1=true∧valOk k.2=true:=by
 unfold mayB at h;simp only [Bool.and_eq_true] at h
 obtain⟨h1,h2⟩:=keysOk_lt x.2 [] h.2 List.Pairwise.nil
 exact⟨h.1,by simpa using h1,h2⟩
theorem may_of {x:Stp}(h1:Kq x.1=true)(h2:x.2.Pairwise (fun a b=>a.1<b.1))(h3:∀ k∈x.2,Kq k.1=true∧valOk k.2=true):mayB x=true:=by
 unfold mayB;rw [h1,keysOk_of x.2 [] h3 (by simpa using h2)]
 rfl
theorem may_take {x:Stp}(h:mayB x=true)(key:Str):mayB (takeK x key)=true:=by
 obtain⟨h1,h2,h3⟩:=may_keys h
 exact may_of h1 (h2.sublist List.filter_sublist) fun k hk=>h3 k (List.mem_filter.1 hk).1
theorem may_set {x:Stp}(h:mayB x=true)(key v:Str)(hv:valOk v=true):mayB (setK key v x)=true:=by
 obtain⟨h1,h2,h3⟩:=may_keys h
 have e:∀ k:Str×Str,(if k.1=key then(key,v) else k).1=k.1:=fun k=>by
  split
  ·next e=>exact e.symm
  ·rfl
 refine may_of h1 ?_ fun k hk=>?_
 ·show(x.2.map fun k=>if k.1=key then(key,v) else k).Pairwise _
  rw [List.pairwise_map];refine h2.imp fun {a b} hab=>?_
  rw [e a,e b];exact hab
 ·obtain⟨y,hy,rfl⟩:=List.mem_map.1 hk
  rw [e y]
  refine⟨(h3 y hy).1,?_⟩
  split
  ·exact hv
  ·exact(h3 y hy).2
theorem fit_take {x:Stp}(h:fitB x=true)(key:Str):fitB (takeK x key)=true:=by
 unfold fitB at h ⊢;simp only [Bool.and_eq_true,List.all_eq_true] at h ⊢
 exact⟨h.1,fun k hk=>h.2 k (List.mem_filter.1 hk).1⟩
theorem keysT_sub {a b:List (Str×Str)}(h:a.Sublist b):(Kj a).length≤(Kj b).length:=by
 unfold Kj
 induction h with
 | slnil=>exact Nat.le_refl _
 | cons x _ ih=>rw [List.flatMap_cons,List.length_append];omega
 | cons_cons x _ ih=>rw [List.flatMap_cons,List.flatMap_cons,List.length_append,List.length_append];omega
theorem textP_take (x:Stp)(key:Str):(Zw (takeK x key)).length≤(Zw x).length:=by
 show(x.1++Kj (x.2.filter fun k=>k.1 != key)).length≤(x.1++Kj x.2).length
 rw [List.length_append,List.length_append]
 have:=keysT_sub (List.filter_sublist (p:=fun k:Str×Str=>k.1 != key) (l:=x.2))
 omega
theorem hasK_no {x:Stp}{key:Str}:hasK x key=false↔∀ k∈x.2,k.1≠key:=by
 unfold hasK;rw [List.any_eq_false]
 constructor
 ·intro h k hk e;exact h k hk (by simp [e])
 ·intro h k hk
  have:=h k hk
  simpa using this
theorem last_none {key:Str}{f:Stp→Stp}:∀ {l:List Stp},(∀ x∈l,hasK x key=false)→lastL key f l=none
 | [],_=>rfl
 | x::r,h=>by
  rw [lastL,last_none fun y hy=>h y (List.mem_cons_of_mem _ hy)]
  simp [h x (List.mem_cons_self ..)]
theorem last_at {key:Str}{f:Stp→Stp}:∀ {l:List Stp}{n:Nat}(hn:n<l.length),hasK (l[n]'hn) key=true→(∀ m (hm:m<l.length),n<m→hasK (l[m]'hm) key=false)→lastL key f l=some (l.set n (f (l[n]'hn)))
 | x::r,0,hn,h,h2=>by
  rw [lastL,last_none fun y hy=>by
   obtain⟨m,hm,rfl⟩:=List.getElem_of_mem hy
   exact h2 (m+1) (by simp;omega) (by omega)]
  have h':hasK x key=true:=h
  simp [h']
 | x::r,n+1,hn,h,h2=>by
  have hn':n<r.length:=by simpa using hn
  rw [lastL,last_at hn' h fun m hm hlt=>h2 (m+1) (by simp;omega) (by omega)]
  rfl
theorem split_at {α:Type}{l:List α}{i:Nat}(hi:i<l.length):l=l.take i++(l[i]'hi)::l.drop (i+1):=by
 rw [← List.drop_eq_getElem_cons hi,List.take_append_drop]
theorem after_ne {ks:List (Str×Str)}(hp:ks.Pairwise (fun a b=>a.1<b.1)){i:Nat}(hi:i<ks.length):∀ k∈ks.drop (i+1),k.1≠(ks[i]'hi).1:=fun k hk e=>by
 rw [split_at hi,List.pairwise_append] at hp
 have:=(List.pairwise_cons.1 hp.2.1).1 k hk
 rw [e] at this;exact List.lt_irrefl _ this
theorem drop_key {ks:List (Str×Str)}{key:Str}(hp:ks.Pairwise (fun a b=>a.1<b.1)){i:Nat}(hi:i<ks.length)(h:(ks[i]'hi).1=key)(h2:∀ j (hj:j<i),(ks[j]'(by omega)).1≠key):ks.take i++ks.drop (i+1)=ks.filter fun k=>k.1 != key:=by
 have h3:=after_ne hp hi;rw [h] at h3
 conv=>rhs;rw [split_at hi]
 rw [List.filter_append,List.filter_cons,if_neg (by simp [h])];rw [List.filter_eq_self.2 fun k hk=>by
  obtain⟨j,hj,rfl⟩:=List.getElem_of_mem hk
  rw [List.getElem_take];rw [List.length_take] at hj
  simpa using h2 j (by omega),List.filter_eq_self.2 fun k hk=>by simpa using h3 k hk]
theorem set_key {ks:List (Str×Str)}{key v:Str}(hp:ks.Pairwise (fun a b=>a.1<b.1)){i:Nat}(hi:i<ks.length)(h:(ks[i]'hi).1=key)(h2:∀ j (hj:j<i),(ks[j]'(by omega)).1≠key):ks.set i (key,v)=ks.map fun k=>if k.1=key then(key,v) else k:=by
 have h3:=after_ne hp hi;rw [h] at h3
 conv=>rhs;rw [split_at hi]
 rw [List.map_append,List.map_cons,if_pos h,List.set_eq_take_append_cons_drop,if_pos hi]
 congr 1
 ·symm
  conv=>rhs;rw [← List.map_id (ks.take i)]
  refine List.map_congr_left fun k hk=>?_
  obtain⟨j,hj,rfl⟩:=List.getElem_of_mem hk
  rw [List.length_take] at hj;rw [List.getElem_take,if_neg (h2 j (by omega))];rfl
 ·congr 1
  symm
  conv=>rhs;rw [← List.map_id (ks.drop (i+1))]
  exact List.map_congr_left fun k hk=>by rw [if_neg (h3 k hk)];rfl
theorem szS_set:∀ {l:List Stp}{n:Nat}(hn:n<l.length){y:Stp},(Zw y).length≤(Zw (l[n]'hn)).length→szS (l.set n y)≤szS l
 | x::r,0,_,y,h=>by
  have h':(Zw y).length≤(Zw x).length:=h;rw [List.set_cons_zero,szS_cons,szS_cons];omega
 | x::r,n+1,hn,y,h=>by
  rw [List.set_cons_succ,szS_cons,szS_cons]
  have:=szS_set (l:=r) (n:=n) (by simpa using hn) (y:=y) h
  omega
theorem all_set {α:Type}{p:α→Prop}{l:List α}{n:Nat}{y:α}(h:∀ x∈l,p x)(hy:p y):∀ x∈l.set n y,p x:=fun x hx=>by
 rcases List.mem_or_eq_of_mem_set hx with h' | rfl
 ·exact h x h'
 ·exact hy
theorem without_print {p key:Str}{l:List Stp}(hl:Qb p=some l){n:Nat}(hn:n<l.length):Zy (l.set n (takeK (l[n]'hn) key))=some (Zb (l.set n (takeK (l[n]'hn) key))):=by
 obtain⟨h1,h2,h3,h4,_⟩:=Zd hl
 rw [List.all_eq_true] at h1 h2;exact put_ok (all_set h1 (may_take (h1 _ (List.getElem_mem hn)) key)) (by rw [List.length_set];exact h3) (List.all_eq_true.2 (all_set h2 (fit_take (h2 _ (List.getElem_mem hn)) key))) (Nat.le_trans (szS_set hn (textP_take _ _)) (szS_513 h4))
end
section
open Go.RowKit Go.Lib Go.Sort Go.Maps Go.WideMaps Go.Shelf
attribute [local go_sem] Oper.semAt_some
theorem del_steps {W W':World}{B g0 n cp x g c:Nat}{zs:List (Stp×(Option Addr×Nat))}{ks':List (Str×Str)}(h:Qf Xf 106 W B (.slice (some ⟨g0,0,none⟩) n cp) zs)(hn:n=zs.length)(he:∀ z∈zs,Qd W B (Qt z) z.1.2)(hd:zs.Pairwise KDis)
  (hx:x<zs.length)(hz:(zs[x]'hx).2=(some ⟨g,0,none⟩,c))(ho:Qd W' B (.slice (some ⟨g,0,none⟩) ks'.length c) ks')(hg:W.grownBy W' (some g)) :
  g0≠g∧Qf Xf 106 W' B (.slice (some ⟨g0,0,none⟩) n cp) zs∧Qf Xf 106 (W'.setCell ⟨g0,x * 2+1,none⟩ (.slice (some ⟨g,0,none⟩) ks'.length c)) B (.slice (some ⟨g0,0,none⟩) n cp) (zs.set x (((zs[x]'hx).1.1,ks'),(some ⟨g,0,none⟩,c)))∧
   (∀ z∈zs.set x (((zs[x]'hx).1.1,ks'),(some ⟨g,0,none⟩,c)),Qd (W'.setCell ⟨g0,x * 2+1,none⟩ (.slice (some ⟨g,0,none⟩) ks'.length c)) B (Qt z) z.1.2)∧(zs.set x (((zs[x]'hx).1.1,ks'),(some ⟨g,0,none⟩,c))).Pairwise KDis:=by
 obtain⟨cur,hcur⟩:=h.row
 have hkx:Qt (zs[x]'hx)=.slice (some ⟨g,0,none⟩) (zs[x]'hx).1.2.length c:=by unfold Qt;rw [hz]
 have hne:∀ z∈zs,(Qt z).ownBlock≠some g0:=fun z hz' e=>by
  rcases Qd.shape (he z hz') with ⟨e1,_⟩ | ⟨g',cap,cur',e1,_,hg',_⟩
  ·rw [e1] at e;cases e
  ·rw [e1] at e;obtain rfl:g'=g0:=Option.some.inj e;rw [hcur] at hg';cases hg'
 have hg0:g0≠g:=fun e=>hne _ (List.getElem_mem hx) (by rw [hkx,e];rfl)
 have hb0:W'.heap[g0]?=W.heap[g0]?:=hg.block g0 (lt_of_block hcur) (fun e=>hg0 (Option.some.inj e));have h1:Qf Xf 106 W' B (.slice (some ⟨g0,0,none⟩) n cp) zs:=own_at h fun k hk=>by
  obtain rfl:g0=k:=Option.some.inj hk;exact hb0
 have hdis:∀ j (hj:j<zs.length),j≠x→(Qt (zs[j]'hj)).ownBlock≠some g:=fun j hj hjx e=>by
  have hp:=List.pairwise_iff_getElem.1 hd
  rcases Nat.lt_or_gt_of_ne hjx with hlt | hlt
  ·exact hp j x hj hx hlt g e (by rw [hkx];rfl)
  ·exact hp x j hx hj hlt g (by rw [hkx];rfl) e
 refine⟨hg0,h1,h1.set hn x 1 hx (by decide) _ _ ?_ rfl,fun z hz'=>?_,?_⟩
 ·simp [Xf]
 ·obtain⟨j,hj,rfl⟩:=List.getElem_of_mem hz'
  rw [List.length_set] at hj;rw [List.getElem_set]
  split
  ·next e=>exact Qw ho (fun e'=>hg0 (Option.some.inj e').symm) _ _
  ·next e =>
   have hjx:j≠x:=fun e'=>e e'.symm
   refine Qw (own_at (he _ (List.getElem_mem hj)) fun k hk=>hg.block k ?_ fun e'=>hdis j hj hjx (by rw [hk,e'])) (hne _ (List.getElem_mem hj)) _ _
   exact(World.ownsRow.lt (he _ (List.getElem_mem hj)) k hk).2
 ·rw [List.pairwise_iff_getElem];have hp:=List.pairwise_iff_getElem.1 hd;intro i j hi hj hij;rw [List.length_set] at hi hj;rw [List.getElem_set,List.getElem_set];have hkz:(Qt ((((zs[x]'hx).1.1,ks'),(some ⟨g,0,none⟩,c)):Stp×(Option Addr×Nat))).ownBlock=some g:=rfl
  split
  ·next e =>
   rw [if_neg (by omega)];intro k hk e2;rw [hkz] at hk;exact hdis j hj (by omega) (by rw [e2,hk])
  ·next e =>
   split
   ·next e' =>
    intro k hk e2;rw [hkz] at e2;exact hdis i hi (by omega) (by rw [hk,e2])
   ·exact hp i j hi hj hij
theorem backL_get {m i:Nat}(h:i<m):(backL m)[i]?=some (m - 1 - i):=by
 have hl:i<(backL m).length:=by rw [backL_len];exact h
 rw [List.getElem?_eq_getElem hl]
 simp [backL,List.getElem_reverse]
theorem back_seen {m n:Nat}{pre:List Nat}(h:pre++[n] <+: backL m)(hm:n<m):∀ k,n<k→k<m→k∈pre:=fun k h1 h2=>by
 have hlen:=h.length_le;rw [backL_len,List.length_append,List.length_singleton] at hlen
 obtain⟨t,ht⟩:=h
 have e0:(backL m)[pre.length]?=some n:=by rw [← ht];simp
 rw [backL_get (by omega)] at e0;have e0':=Option.some.inj e0;have e1:=backL_get (m:=m) (i:=m - 1 - k) (by omega);rw [← ht,List.append_assoc,List.getElem?_append_left (by omega)] at e1;have hk:m - 1 - (m - 1 - k)=k:=by omega
 rw [hk] at e1;exact List.mem_of_getElem? e1
theorem back_all {m:Nat}{xs:List Nat}(h:xs=backL m):∀ k,k<m→k∈xs:=fun k hk=>by
 rw [h]
 simp [backL,hk]
def KeyAt (l:List (Str×Str))(key:Str)(i:Nat):Prop:=∃ hi:i<l.length,(l[i]'hi).1=key∧∀ j (hj:j<i),(l[j]'(Nat.lt_trans hj hi)).1≠key
theorem idxK_at (l:List (Str×Str))(key:Str):(idxK l key=-1∧∀ k∈l,k.1≠key)∨∃ n:Nat,idxK l key=(n:Int)∧KeyAt l key n:=by
 rcases idxK_cases l key with h | ⟨n,hn,h1,h2,h3⟩
 ·exact Or.inl h
 ·exact Or.inr ⟨n,h1,hn,h2,h3⟩
def Kz (p key:Str):Str×Bool:=match Zc p key with
 | some q=>(q,true)
 | none=>(if Qm p=true then p else [],false)
theorem withoutT_bad {p key:Str}(h:Qb p=none):Kz p key=([],false):=by
 have hb:Qm p=false:=by unfold Qm;rw [h];rfl
 unfold Kz Zc;rw [h]
 simp [hb]
theorem withoutT_no {p key:Str}{l:List Stp}(h:Qb p=some l)(hn:∀ x∈l,hasK x key=false):Kz p key=(p,false):=by
 have hb:Qm p=true:=by unfold Qm;rw [h];rfl
 unfold Kz Zc withoutL;rw [h,Option.bind_some,last_none hn]
 simp [hb]
theorem withoutT_at {p key:Str}{l:List Stp}(h:Qb p=some l){n:Nat}(hn:n<l.length)(h1:hasK (l[n]'hn) key=true)(h2:∀ m (hm:m<l.length),n<m→hasK (l[m]'hm) key=false):Kz p key=(Zb (l.set n (takeK (l[n]'hn) key)),true):=by
 unfold Kz Zc withoutL;rw [h,Option.bind_some,last_at hn h1 h2,Option.bind_some,without_print h hn]
end
section
open Go.RowKit Go.Lib Go.Sort Go.Maps Go.WideMaps Go.Shelf
attribute [local go_sem] Oper.semAt_some
def WoRet (w7:World)(ws:Nat)(zs:List Zst)(key:Str)(pre:List Nat)(W:World):Prop :=
 ∃ pre' x,∃ hx:x<zs.length,pre=pre'++[x]∧(∀ k∈pre',hasK (zs.getD k stD).1 key=false)∧hasK (zs[x]'hx).1 key=true∧Below ws w7 W∧ws+2<w7.heap.size ∧
  W.heap[ws+1]?=some (.cells #[.string ⟨(Zb ((zs.map (·.1)).set x (takeK (zs[x]'hx).1 key))).toArray⟩] 9 (0,0))∧W.heap[ws+1+1]?=some (.cells #[.bool true] 4 (0,0))
theorem WoRet.grown {w7 W1 W2:World}{ws:Nat}{zs:List Zst}{key:Str}{pre:List Nat}{row:Option Nat}(h:WoRet w7 ws zs key pre W1)(hg:W1.grownBy W2 row)(hr:∀ k,row=some k→w7.heap.size≤k):WoRet w7 ws zs key pre W2:=by
 obtain⟨pre',x,hx,h1,h2,h3,h4,h5,h6,h7⟩:=h
 refine⟨pre',x,hx,h1,h2,h3,h4.grown hg (Nat.le_of_lt (Nat.lt_of_le_of_lt (Nat.le_add_right ws 1) (lt_of_block h6))) (fun k hk=>by have:=hr k hk;omega),h5,(hg.block _ (lt_of_block h6) fun e=>?_).trans h6,(hg.block _ (lt_of_block h7) fun e=>?_).trans h7⟩
 ·have:=hr _ e.symm;omega
 ·have:=hr _ e.symm;omega
def dvals (g0 cp m x Bx g n c i N:Nat)(j:Nat):Value:=[.slice (some ⟨g0,0,none⟩) m cp,.int .i64 x,.pointer (some ⟨Bx,1,none⟩),.slice (some ⟨g,0,none⟩) n c,.int .i64 i,.int .i64 i,.int .i64 ((i:Int)+1),.slice (some ⟨g,0,none⟩) N c,.pointer (some ⟨g0,x * 2,none⟩),.pointer (some ⟨g0,x * 2+1,none⟩)].getD j undef
structure DelI (w2:World)(B PB g0 cp m x Bx g n c i N:Nat)(zn:Str)(ks:List (Str×Str))(listed:Array Bool)(f:Nat→Value)(WW:World):Prop where
 r:RgI 30 7 10 (dvals g0 cp m x Bx g n c i N) w2 (fun W3=>Qd W3 B (.slice (some ⟨g,0,none⟩) N c) ks∧w2.grownBy W3 (some g)) (fun W4=>∃ W3,(Qd W3 B (.slice (some ⟨g,0,none⟩) N c) ks∧w2.grownBy W3 (some g))∧W4=W3.setCell ⟨g0,x * 2+1,none⟩ (.slice (some ⟨g,0,none⟩) N c)) listed f WW
 b1:WW.heap[PB]?=some (.cells #[.slice (some ⟨g0,0,none⟩) m cp] 99 (0,0))
 b2:WW.heap[Bx]?=some (.cells #[.string ⟨zn.toArray⟩,.slice (some ⟨g,0,none⟩) n c] 106 (0,0))
theorem without_any (w:World)(p key:Str)(hp:p.length≤maxLen) :
  Calls Tryz.prog 47 #[.string ⟨p.toArray⟩,.string ⟨key.toArray⟩] w fun e w'=>e=.returned (.tuple #[.string ⟨(Kz p key).1.toArray⟩,.bool (Kz p key).2])∧Below w.heap.size w w':=by
 refine(callsIn_wide (n:=6)).1 ?_
 refine callsIn_of_wp_marks Tryz.func47 rfl trivial ?_ rfl;simp only [Tryz.ntmps47,List.size_toArray,List.length_cons,List.length_nil,Nat.reduceAdd,Nat.reduceSub,Array.replicate_succ,Array.replicate_zero,List.push_toArray,List.append_toArray,List.nil_append,List.cons_append];have F1:=hid (heap_alloc_new w (.cells #[.string ⟨key.toArray⟩] 9));have A1:=hid (bal w (.cells #[.string ⟨key.toArray⟩] 9));have F2:=hid (show((w.alloc (.cells #[.string ⟨key.toArray⟩] 9)).alloc (.cells #[.string ⟨#[]⟩] 9)).heap[w.heap.size+1]?=some (.cells #[.string ⟨#[]⟩] 9 (0,0)) from by
  have e:=heap_alloc_new (w.alloc (.cells #[.string ⟨key.toArray⟩] 9)) (.cells #[.string ⟨#[]⟩] 9);rw [show(w.alloc (.cells #[.string ⟨key.toArray⟩] 9)).heap.size=w.heap.size+1 by simp] at e;exact e)
 have A2:=hid (show Below (w.alloc (.cells #[.string ⟨key.toArray⟩] 9)).heap.size (w.alloc (.cells #[.string ⟨key.toArray⟩] 9)) ((w.alloc (.cells #[.string ⟨key.toArray⟩] 9)).alloc (.cells #[.string ⟨#[]⟩] 9)) from bal _ _);have Z2:=hid (show((w.alloc (.cells #[.string ⟨key.toArray⟩] 9)).alloc (.cells #[.string ⟨#[]⟩] 9)).heap.size=w.heap.size+1+1 by simp);have A3:=hid (show Below ((w.alloc (.cells #[.string ⟨key.toArray⟩] 9)).alloc (.cells #[.string ⟨#[]⟩] 9)).heap.size ((w.alloc (.cells #[.string ⟨key.toArray⟩] 9)).alloc (.cells #[.string ⟨#[]⟩] 9)) (((w.alloc (.cells #[.string ⟨key.toArray⟩] 9)).alloc (.cells #[.string ⟨#[]⟩] 9)).alloc (.cells #[.bool false] 4)) from bal _ _);have F3:=hid (show(((w.alloc (.cells #[.string ⟨key.toArray⟩] 9)).alloc (.cells #[.string ⟨#[]⟩] 9)).alloc (.cells #[.bool false] 4)).heap[w.heap.size+1+1]?=some (.cells #[.bool false] 4 (0,0)) from by
  have e:=heap_alloc_new ((w.alloc (.cells #[.string ⟨key.toArray⟩] 9)).alloc (.cells #[.string ⟨#[]⟩] 9)) (.cells #[.bool false] 4);rw [Z2.out] at e;exact e)
 have G1:=hid ((A3.out.block _ (lt_of_block (bk A2.out F1.out))).trans (bk A2.out F1.out));have G2:=hid (bk A3.out F2.out);have B3:=hid ((A1.out.then A2.out).then A3.out)
 gi_wp2
 generalize ((w.alloc (.cells #[.string ⟨key.toArray⟩] 9)).alloc (.cells #[.string ⟨#[]⟩] 9)).alloc (.cells #[.bool false] 4)=w3 at *;clear F1 A1 F2 A2 A3 Z2
 refine⟨trivial,callsIn_wide.2 ((pparse_any p w3 hp).mono ?_)⟩
 rintro e w4 h4
 obtain⟨v,er,ea,rfl,hb4,l',hl',hc4,ao,cp,rfl,hcap,hs4⟩:=h4.own'
 clear h4
 rcases hc4 with ⟨rfl,hpl⟩ | ⟨hne,hpl,hl0⟩
 case inr =>
  have O4:=hid (bk hb4 G2.out);have Q4:=hid (bk hb4 F3.out);have B4:=hid (B3.out.then hb4);have HBAD:=hid (withoutT_bad (key:=key) hpl);clear hl' hcap hs4 hpl hl0 G1 G2 F3 B3 hb4;have A6:=hid (show Below w4.heap.size w4 ((w4.alloc (.cells #[.slice ao l'.length cp] 99)).alloc (.cells #[.int .i64 er,.int .i64 ea] 77)) from(bal _ _).alloc (by simp) _);have Y7:=hid (show((w4.alloc (.cells #[.slice ao l'.length cp] 99)).alloc (.cells #[.int .i64 er,.int .i64 ea] 77)).heap[w4.heap.size+1]?=some (.cells #[.int .i64 er,.int .i64 ea] 77 (0,0)) from by
   have e:=heap_alloc_new (w4.alloc (.cells #[.slice ao l'.length cp] 99)) (.cells #[.int .i64 er,.int .i64 ea] 77);rw [show(w4.alloc (.cells #[.slice ao l'.length cp] 99)).heap.size=w4.heap.size+1 by simp] at e;exact e)
  have c1:((w4.alloc (.cells #[.slice ao l'.length cp] 99)).alloc (.cells #[.int .i64 er,.int .i64 ea] 77)).cell? ⟨w4.heap.size+1,0,none⟩=some (.int .i64 er):=cR Y7.out;have l1:=lt_of_block Y7.out;have O6:=hid (bk A6.out O4.out);have Q6:=hid (bk A6.out Q4.out);have d0:((er:Int)==0)=false:=by simpa using hne
  have x0:((w4.alloc (.cells #[.slice ao l'.length cp] 99)).alloc (.cells #[.int .i64 er,.int .i64 ea] 77)).cell? ⟨w.heap.size+1,0,none⟩=some (.string ⟨#[]⟩):=cR O6.out;have x1:((w4.alloc (.cells #[.slice ao l'.length cp] 99)).alloc (.cells #[.int .i64 er,.int .i64 ea] 77)).cell? ⟨w.heap.size+1+1,0,none⟩=some (.bool false):=cR Q6.out;have f0:=frozen_of_row _ _ 0 _ _ O6.out;have f1:=frozen_of_row _ _ 0 _ _ Q6.out;have m0:=lt_of_block O6.out;have m1:=lt_of_block Q6.out
  gi_wp2
  have O9:=(heap_setCell_other (((w4.alloc (.cells #[.slice ao l'.length cp] 99)).alloc (.cells #[.int .i64 er,.int .i64 ea] 77)).setCell ⟨w.heap.size+1,0,none⟩ (.string ⟨#[]⟩)) ⟨w.heap.size+1+1,0,none⟩ (w.heap.size+1) (.bool false) (by simp)).trans (heap_setCell_same _ _ _ _ _ (.string ⟨#[]⟩) O6.out);have Q9:=heap_setCell_same _ _ 0 _ _ (.bool false) ((heap_setCell_other ((w4.alloc (.cells #[.slice ao l'.length cp] 99)).alloc (.cells #[.int .i64 er,.int .i64 ea] 77)) ⟨w.heap.size+1,0,none⟩ (w.heap.size+1+1) (.string ⟨#[]⟩) (by simp)).trans Q6.out)
  refine⟨.tuple #[.string ⟨#[]⟩,.bool false],?_,?_,?_⟩
  ·simp [results,Tryz.f47,go_sem,cell_of_row _ _ _ _ _ _ O9,cell_of_row _ _ _ _ _ _ Q9]
  ·rw [HBAD.out]
  ·exact((B4.out.then A6.out).setCell (p:=⟨w.heap.size+1,0,none⟩) (by simp) _).setCell (p:=⟨w.heap.size+1+1,0,none⟩) (by simp;omega) _
 have HL:=hid hpl;have HW34:=hid hb4.size;have HN3:=hid (show w.heap.size+1+1+1≤w3.heap.size from lt_of_block F3.out);have L4:=hid hl';have K4:=hid (bk hb4 G1.out);have O4:=hid (bk hb4 G2.out);have Q4:=hid (bk hb4 F3.out);have B4:=hid (B3.out.then hb4);clear hl' hb4 hs4 hpl G1 G2 F3 B3;have Y6:=hid (show((w4.alloc (.cells #[.slice ao l'.length cp] 99)).alloc (.cells #[.int .i64 0,.int .i64 ea] 77)).heap[w4.heap.size]?=some (.cells #[.slice ao l'.length cp] 99 (0,0)) from(Below.heap_alloc _ _ _ (by simp)).trans (heap_alloc_new w4 _));have Y7:=hid (show((w4.alloc (.cells #[.slice ao l'.length cp] 99)).alloc (.cells #[.int .i64 0,.int .i64 ea] 77)).heap[w4.heap.size+1]?=some (.cells #[.int .i64 0,.int .i64 ea] 77 (0,0)) from by
  have e:=heap_alloc_new (w4.alloc (.cells #[.slice ao l'.length cp] 99)) (.cells #[.int .i64 0,.int .i64 ea] 77);rw [show(w4.alloc (.cells #[.slice ao l'.length cp] 99)).heap.size=w4.heap.size+1 by simp] at e;exact e)
 have A6:=hid (show Below w4.heap.size w4 ((w4.alloc (.cells #[.slice ao l'.length cp] 99)).alloc (.cells #[.int .i64 0,.int .i64 ea] 77)) from(bal _ _).alloc (by simp) _);have c0:((w4.alloc (.cells #[.slice ao l'.length cp] 99)).alloc (.cells #[.int .i64 0,.int .i64 ea] 77)).cell? ⟨w4.heap.size,0,none⟩=some (.slice ao l'.length cp):=cR Y6.out;have c1:((w4.alloc (.cells #[.slice ao l'.length cp] 99)).alloc (.cells #[.int .i64 0,.int .i64 ea] 77)).cell? ⟨w4.heap.size+1,0,none⟩=some (.int .i64 0):=cR Y7.out;have l0:=lt_of_block Y6.out;have l1:=lt_of_block Y7.out
 gi_wp2
 generalize (w4.alloc (.cells #[.slice ao l'.length cp] 99)).alloc (.cells #[.int .i64 0,.int .i64 ea] 77)=w6 at *;clear c0 c1 l0 l1;have B6:=hid (B4.out.then A6.out);have HW36:=hid (Nat.le_trans HW34.out A6.out.size);have K6:=hid (bk A6.out K4.out);have O6:=hid (bk A6.out O4.out);have Q6:=hid (bk A6.out Q4.out);have L6:=hid (L4.out.below A6.out);have S6:=hid Y6.out;clear A6 B4 K4 O4 Q4 L4 Y6 Y7
 refine⟨trivial,callsIn_wide.2 ((back_any _ w6 ⟨_,_,_,rfl⟩).mono ?_)⟩
 rintro e w7 ⟨rfl,hw7⟩;have A7:=hid (show Below w6.heap.size w6 w7 from by rw [hw7];exact bal _ _);have F7:=hid (show w7.heap[w6.heap.size]?=some (.cells #[.slice ao l'.length cp] 99 (0,0)) from by rw [hw7];exact heap_alloc_new w6 _);have B7:=hid (B6.out.then A7.out);have HW37:=hid (Nat.le_trans HW36.out A7.out.size);have K7:=hid (bk A7.out K6.out);have O7:=hid (bk A7.out O6.out);have Q7:=hid (bk A7.out Q6.out);have L7:=hid (L6.out.below A7.out);have S7:=hid (bk A7.out S6.out);clear hw7 A7 B6 K6 O6 Q6 L6 S6
 obtain⟨zs,hz,hown,heach,hdis⟩:=L7.out
 have hln:l'.length=zs.length:=by rw [← hz,List.length_map]
 rw [hln] at F7 S7 hown;have OWN:=hid hown;have DIS:=hid hdis;have HZ:=hid (show zs.length≤64 by rw [← hln];exact(Zd HL.out).2.2.1);have EACH:=hid heach;have HZM:=hid hz;have W37:=hid (show w3.heap.size≤w7.heap.size from HW37.out);have SQ:=hid (back1_goes 5 (by decide) w6.heap.size cp ao zs w7 F7.out hown.rd (by have:=HZ.out;omega))
 gi_wp2
 clear hcap hown hdis heach L7;have EACH7:=hid (fun W (hk:Below w7.heap.size w7 W) (x:Nat)=>stD_rd W zs (fun z hz=>(EACH.out z hz).rd.below hk) x);have EOWN:=hid (fun(x:Nat)=>(show ∀ a,(zs.getD x stD).2.1=some a→∃ g,a=⟨g,0,none⟩∧g<w7.heap.size from fun a ha=>by
  rw [List.getD_eq_getElem?_getD] at ha
  cases e:zs[x]? with
  | none=>rw [e] at ha;cases ha
  | some z =>
   rw [e] at ha;have ha':z.2.1=some a:=ha
   rcases Qd.shape (EACH.out z (List.mem_of_getElem? e)) with ⟨h,_⟩ | ⟨g,cap,cur,h,_,hg,_⟩
   ·unfold Qt at h;rw [ha'] at h;cases h
   ·unfold Qt at h;rw [ha'] at h
    cases h
    exact⟨g,rfl,lt_of_block hg⟩))
 have HXL:=hid (fun(x:Nat)=>(show(zs.getD x stD).1.2.length≤1000 from by
  rw [List.getD_eq_getElem?_getD]
  cases e:zs[x]? with
  | none=>exact Nat.zero_le _
  | some z =>
   have hm:z.1∈l':=by rw [← HZM.out];exact List.mem_map_of_mem (List.mem_of_getElem? e)
   have h1:=text_len HL.out hm;have h2:=keys_le z.1;show z.1.2.length≤1000
   omega))
 refine wpIn_rangeFunc_ownH rfl (by omega) (gf:=90) rfl trivial (enters_of Tryz.func90 (by kernel_rfl) rfl)
  SQ.out (fun h g=>h.trans g) (fun W l o o' hl ho hc _=>KpB.put hl ho hc) (Below.refl _ _) (fun _=>rfl)
  (fun pre W=>Below w7.heap.size w7 W∧∀ k∈pre,hasK (zs.getD k stD).1 key=false) (fun c pre W=>c=.ret∧WoRet w7 w.heap.size zs key pre W) (fun s W1 W2 row hs hg hr=>⟨hs.1.grown hg hs.1.size (fun k hk=>(hr k hk).1),hs.2⟩) (fun c s W1 W2 row hs hg hr=>⟨hs.1,hs.2.grown hg (fun k hk=>(hr k hk).1)⟩) ⟨Below.refl _ _,fun k hk=>by cases hk⟩
  (fun x a' W=>∃ Bx,w7.heap.size≤Bx∧W.heap[Bx]?=some (.cells #[.string ⟨(zs.getD x stD).1.1.toArray⟩,Qt (zs.getD x stD)] 106 (0,0))∧a'={ tmps:=[.string ⟨p.toArray⟩,.string ⟨key.toArray⟩,undef,.pointer (some ⟨w.heap.size,0,none⟩),.pointer (some ⟨w.heap.size+1,0,none⟩),.pointer (some ⟨w.heap.size+1+1,0,none⟩),.pointer (some ⟨w4.heap.size,0,none⟩),.pointer (some ⟨w4.heap.size+1,0,none⟩),.int .i64 (x:Nat),.pointer (some ⟨Bx,0,none⟩),undef,undef,undef,.tuple #[.slice ao zs.length cp,.agg #[.int .i64 0,.int .i64 ea]],.string ⟨p.toArray⟩,.tuple #[.slice ao zs.length cp,.agg #[.int .i64 0,.int .i64 ea]],.slice ao zs.length cp,.agg #[.int .i64 0,.int .i64 ea],.pointer (some ⟨w4.heap.size+1,0,none⟩),.int .i64 0,.bool false,.slice ao zs.length cp,.func (.func 90) #[] #[.pointer (some ⟨w6.heap.size,0,none⟩)],.int .i64 (x:Nat),stV (zs.getD x stD),undef,undef,undef,undef,undef,undef,undef,undef,undef,undef,undef,undef,undef,undef,undef,undef,undef,undef,undef,undef,undef,undef,undef].toArray,defers:=[] }) ?_ ?assign ?body ?done ?stop
 ·rintro x a' s W W' row ⟨Bx,h1,h2,h3⟩ hg hr
  refine⟨Bx,h1,(hg.block Bx (lt_of_block h2) (fun e=>?_)).trans h2,h3⟩
  obtain⟨_,o,ho,hc⟩:=hr Bx e.symm
  rw [h2] at ho
  cases ho
  cases hc
 case assign =>
  intro l pre x W K hI hK;have hbW:Below W.heap.size W (W.alloc (.cells #[.string ⟨(zs.getD x stD).1.1.toArray⟩,Qt (zs.getD x stD)] 106)):=bal _ _;have hz7:=hI.1.size;unfold stV Qt
  gi_wp2
  exact hK _ _ ((KeepsOthers.alloc _ _).from _) (KpB.of_below hbW hz7) ⟨hI.1.then hbW,hI.2⟩ ⟨W.heap.size,hz7,heap_alloc_new W _,rfl⟩
 case body =>
  rintro l pre x a' W _ _ hI ⟨Bx,hB,hBx,rfl⟩ hlen;have KW:=hid (bk hI.1 K7.out);have e0:W.cell? ⟨w.heap.size,0,none⟩=some (.string ⟨key.toArray⟩):=cR KW.out;have el:=lt_of_block KW.out;have HI:=hid hI.1;have HPRE:=hid hI.2;clear hI
  by_cases hfound:hasK (zs.getD x stD).1 key=true
  case neg =>
   have HNF:=hid (show hasK (zs.getD x stD).1 key=false by simpa using hfound);have NX:=hid (hasK_no.1 HNF.out);have RX:=hid (EACH7.out W HI.out x);have OX:=hid (EOWN.out x);have LX:=hid (HXL.out x);clear hfound;have HPRE2:=hid (show ∀ k∈pre++[x],hasK (zs.getD k stD).1 key=false from fun k hk=>by
    rcases List.mem_append.1 hk with hk | hk
    ·exact HPRE.out k hk
    ·rw [List.mem_singleton.1 hk];exact HNF.out)
   clear HNF;unfold stV;generalize zs.getD x stD=z at NX RX OX LX hBx ⊢
   obtain⟨⟨zn,zk⟩,za,zc⟩:=z
   simp only [Qt] at hBx RX OX NX LX ⊢
   obtain⟨x0,x1,_,_,xl⟩:=Qq hBx
   have FD:=hid (pfind_any W zn zk za zc key RX.out LX.out (fun a ha=>by
    obtain⟨g,h1,h2⟩:=OX.out a ha
    exact⟨g,0,h1,Nat.lt_of_lt_of_le h2 HI.out.size⟩))
   rw [idx_no NX.out] at FD;clear RX OX NX LX hBx
   gi_wp2
   refine⟨trivial,CallsIn.inRound l (callsIn_wide.2 (FD.out.mono ?_))⟩
   rintro e W2 ⟨rfl,hb2⟩;have HI2:=hid (HI.out.then hb2);clear x0 x1 xl e0 el
   gi_wp2
   exact⟨(KeepsOthers.of_grownBy (Xm hb2) (fun j o e=>by cases e)).from _,KpB.of_below hb2 HI.out.size,HI2.out,HPRE2.out⟩
  case pos =>
   have hx:x<zs.length:=by
    rcases Nat.lt_or_ge x zs.length with h | h
    ·exact h
    ·rw [List.getD_eq_getElem?_getD,List.getElem?_eq_none h] at hfound
     cases hfound
   have hgd:zs.getD x stD=zs[x]'hx:=by rw [List.getD_eq_getElem?_getD,List.getElem?_eq_getElem hx];rfl
   have OWNW:=hid (OWN.out.below HI.out);have EACHW:=hid (show ∀ z∈zs,Qd W w3.heap.size (Qt z) z.1.2 from fun z hz=>Qz (EACH.out z hz) HI.out);have HLEN:=hid (HXL.out x);rw [hgd] at hfound hBx HLEN;unfold stV;rw [hgd]
   obtain⟨z,hz⟩:∃ z,z=zs[x]'hx:=⟨_,rfl⟩
   have HZX:=hid (show ∃ hx:x<zs.length,z=zs[x]'hx from⟨hx,hz⟩);rw [← hz] at hfound hBx HLEN ⊢;have EZ:=hid (EACHW.out z (by rw [hz];exact List.getElem_mem hx));have HMAY:=hid (show mayB z.1=true from by
    have hm:z.1∈zs.map (·.1):=List.mem_map_of_mem (by rw [hz];exact List.getElem_mem hx);rw [HZM.out] at hm;exact List.all_eq_true.1 (Zd HL.out).1 _ hm)
   clear hz hgd hx
   obtain⟨⟨zn,zk⟩,za,zc⟩:=z
   simp only [Qt] at hBx EZ HLEN ⊢;have HF:=hid hfound
   rcases idxK_at zk key with ⟨_,hno⟩ | ⟨i,hidx,hik⟩
   ·exact absurd (hasK_no.2 hno) (by rw [hfound];simp)
   clear hfound
   rcases Qd.shape EZ.out with ⟨_,h0⟩ | ⟨g,cap,cur,hsl,hgB,hgc,hgn,hgm,hgs,hgt⟩
   ·obtain⟨hi,_⟩:=hik
    rw [h0] at hi;exact absurd hi (by simp)
   injection hsl with hza _ hzc
   subst hza;subst hzc
   obtain⟨x0,x1,_,_,xl⟩:=Qq hBx
   have FD:=hid (pfind_any W zn zk (some ⟨g,0,none⟩) zc key EZ.out.rd HLEN.out (fun a ha=>by
    cases ha
    exact⟨g,0,rfl,lt_of_block hgc⟩))
   rw [hidx] at FD;have hgc':=hgc;have HG:=hid (show ∃ cur,W.heap[g]?=some (.cells cur 76 (0,0)) from⟨cur,hgc'⟩);have HGB:=hid hgB;have HIK:=hid hik;have hi0:(0:Int)≤(i:Int):=by omega
   clear hgc hgc' hgB hgn hgm hgs hgt hidx hik
   gi_wp2
   refine⟨trivial,CallsIn.inRound l (callsIn_wide.2 (FD.out.mono ?_))⟩
   rintro e W2 ⟨rfl,hb2⟩;have HB2:=hid hb2;have BX2:=hid (bk hb2 hBx);clear x0 x1 xl e0 el hBx hb2 FD
   gi_wp2
   obtain⟨hxx,hzx⟩:=HZX.out
   have hOW:=OWNW.out.below HB2.out
   obtain⟨g0,rfl⟩:=Qf.some' hOW (by intro e;rw [e] at hxx;exact absurd hxx (by simp))
   have S2:=hid (((HI.out.then HB2.out).block _ (lt_of_block S7.out)).trans S7.out);have OW2:=hid (show Qf Xf 106 W2 w3.heap.size (.slice (some ⟨g0,0,none⟩) zs.length cp) zs from hOW);have EA2:=hid (show ∀ z∈zs,Qd W2 w3.heap.size (Qt z) z.1.2 from fun z hz=>Qz (EACHW.out z hz) HB2.out);have EZ2:=hid (show Qd W2 w3.heap.size (.slice (some ⟨g,0,none⟩) zk.length zc) zk from Qz EZ.out HB2.out);have G2:=hid (show ∃ cur,W2.heap[g]?=some (.cells cur 76 (0,0)) from by
    obtain⟨cur,h⟩:=HG.out
    exact⟨cur,bk HB2.out h⟩)
   obtain⟨hi,hik,hij⟩:=HIK.out
   have DEL:=hid (show Calls Tryz.prog 88 #[.slice (some ⟨g,0,none⟩) zk.length zc,.int .i64 i,.int .i64 ((i:Int)+1)] W2.drew fun e w'=>e=.returned (.slice (some ⟨g,0,none⟩) (zk.take i++zk.drop (i+1)).length zc)∧Qd w' w3.heap.size (.slice (some ⟨g,0,none⟩) (zk.take i++zk.drop (i+1)).length zc) (zk.take i++zk.drop (i+1))∧W2.drew.grownBy w' (some g) from sdel_any W2.drew w3.heap.size g zc i zk EZ2.out.drew hi);have hkeys:zk.take i++zk.drop (i+1)=zk.filter fun k=>k.1 != key:=drop_key (may_keys HMAY.out).2.1 hi hik hij
   rw [hkeys] at DEL;clear hkeys hik hij
   obtain⟨ks,hks⟩:∃ ks,ks=zk.filter fun k=>k.1 != key:=⟨_,rfl⟩
   rw [← hks] at DEL;have HKS:=hid hks;clear hks
   obtain⟨N,hN⟩:∃ N,N=ks.length:=⟨_,rfl⟩
   rw [← hN] at DEL;have hz2:(zs[x]'hxx).2=(some ⟨g,0,none⟩,zc):=by rw [← hzx]
   have DS:=hid (fun W3 (h:Qd W3 w3.heap.size (.slice (some ⟨g,0,none⟩) N zc) ks∧W2.drew.grownBy W3 (some g))=>del_steps (W:=W2.drew) (World.ownsRow.drew OW2.out) rfl (fun z hz=>World.ownsRow.drew (EA2.out z hz)) DIS.out hxx hz2 (by rw [← hN];exact h.1) h.2);simp only [← hN] at DS;rw [← hzx] at DS;have BNE:=hid (show w4.heap.size≠g0∧w4.heap.size≠g∧Bx≠g0∧Bx≠g from by
    obtain⟨cur,h⟩:=G2.out
    obtain⟨cur0,h0⟩:=Qf.row OW2.out
    refine⟨fun e=>?_,fun e=>?_,fun e=>?_,fun e=>?_⟩
    ·rw [← e,S2.out] at h0;cases h0
    ·rw [← e,S2.out] at h;cases h
    ·have:=(World.ownsRow.lt OWN.out g0 rfl).2
     omega
    ·rw [← e,BX2.out] at h;cases h)
   have PCK:=hid (fun W3 (h:Qd W3 w3.heap.size (.slice (some ⟨g,0,none⟩) N zc) ks∧W2.drew.grownBy W3 (some g))=>(show W3.heap[w4.heap.size]?=some (.cells #[.slice (some ⟨g0,0,none⟩) zs.length cp] 99 (0,0))∧W3.heap[Bx]?=some (.cells #[.string ⟨zn.toArray⟩,.slice (some ⟨g,0,none⟩) zk.length zc] 106 (0,0)) from
    ⟨(h.2.block _ (lt_of_block S2.out) (fun e=>BNE.out.2.1 (Option.some.inj e))).trans S2.out,(h.2.block _ (lt_of_block BX2.out) (fun e=>BNE.out.2.2.2 (Option.some.inj e))).trans BX2.out⟩))
   have PCW:=hid (fun W3 (h:Qd W3 w3.heap.size (.slice (some ⟨g,0,none⟩) N zc) ks∧W2.drew.grownBy W3 (some g))=>(show W3.cell? ⟨g0,x * 2+1,none⟩=some (.slice (some ⟨g,0,none⟩) zk.length zc)∧g0<W3.heap.size∧W3.frozen? ⟨g0,x * 2+1,none⟩=false from by
    obtain⟨_,h2,_⟩:=DS.out W3 h
    obtain⟨q0,qf,ql⟩:=Qf.cell h2 x 1 (.slice (some ⟨g,0,none⟩) zk.length zc) hxx (by rw [← hzx];rfl)
    exact⟨q0,ql,qf⟩))
   have PSK:=hid (fun W3 h=>(show(W3.setCell ⟨g0,x * 2+1,none⟩ (.slice (some ⟨g,0,none⟩) N zc)).heap[w4.heap.size]?=some (.cells #[.slice (some ⟨g0,0,none⟩) zs.length cp] 99 (0,0))∧(W3.setCell ⟨g0,x * 2+1,none⟩ (.slice (some ⟨g,0,none⟩) N zc)).heap[Bx]?=some (.cells #[.string ⟨zn.toArray⟩,.slice (some ⟨g,0,none⟩) zk.length zc] 106 (0,0)) from
    ⟨(heap_setCell_other _ _ _ _ BNE.out.1).trans (PCK.out W3 h).1,(heap_setCell_other _ _ _ _ BNE.out.2.2.1).trans (PCK.out W3 h).2⟩))
   have hx0:(0:Int)≤(x:Int):=by omega
   have hx1:(x:Int)<(zs.length:Int):=by omega
   have hib:(i:Int)≤1000:=by have:=HLEN.out;omega
   have hwr:IntKind.i64.wrap ((i:Int)+1)=(i:Int)+1:=IntWalk.i64_in _ (by omega);clear hxx hzx hOW hi hz2 hN;refine wpIn_region_inv (by kernel_rfl) (by kernel_rfl) [30,31,32,33,34,35,36,37,38,39] (DelI W2.drew w3.heap.size w4.heap.size g0 cp zs.length x Bx g zk.length zc i N zn ks) ?_ ?_ ?_
   ·intro f0
    exact⟨RgI.start (by decide) (by decide),S2.out,BX2.out⟩
   ·intro listed f WW j hI hl oi hoi haf
    match j,hl,oi,hoi,haf with
    | 0,hl,oi,hoi,haf =>
     obtain rfl:=Option.some.inj hoi;have q0:WW.cell? ⟨w4.heap.size,0,none⟩=some (.slice (some ⟨g0,0,none⟩) zs.length cp):=cR hI.b1;have ql:=lt_of_block hI.b1;refine Xz rfl rfl ?_;simp only [Jg,List.foldl_cons,List.foldl_nil,List.setIfInBounds_toArray,List.set_cons_zero,List.set_cons_succ]
     go_simp
     exact⟨upd f 30 (dvals g0 cp zs.length x Bx g zk.length zc i N 0),by simp [upd,dvals],⟨hI.r.val 0 (by decide) (by decide),hI.b1,hI.b2⟩⟩
    | 1,hl,oi,hoi,haf =>
     obtain rfl:=Option.some.inj hoi;refine Xz rfl rfl ?_;simp only [Jg,List.foldl_cons,List.foldl_nil,List.setIfInBounds_toArray,List.set_cons_zero,List.set_cons_succ]
     go_simp
     exact⟨upd f 31 (dvals g0 cp zs.length x Bx g zk.length zc i N 1),by simp [upd,dvals],⟨hI.r.val 1 (by decide) (by decide),hI.b1,hI.b2⟩⟩
    | 2,hl,oi,hoi,haf =>
     obtain rfl:=Option.some.inj hoi;refine Xz rfl rfl ?_;simp only [Jg,List.foldl_cons,List.foldl_nil,List.setIfInBounds_toArray,List.set_cons_zero,List.set_cons_succ]
     go_simp
     exact⟨upd f 32 (dvals g0 cp zs.length x Bx g zk.length zc i N 2),by simp [upd,dvals],⟨hI.r.val 2 (by decide) (by decide),hI.b1,hI.b2⟩⟩
    | 3,hl,oi,hoi,haf =>
     obtain rfl:=Option.some.inj hoi;have e2:=hI.r.vals 2 (by decide) (LL.of (haf ⟨2,Ground.data⟩ (by simp) rfl:listed.getD 2 false=true));simp only [dvals,List.getD_cons_zero,List.getD_cons_succ,Nat.reduceAdd] at e2;have q0:WW.cell? ⟨Bx,1,none⟩=some (.slice (some ⟨g,0,none⟩) zk.length zc):=cR hI.b2;have ql:=lt_of_block hI.b2;refine Xz rfl rfl ?_;simp only [Jg,List.foldl_cons,List.foldl_nil,List.setIfInBounds_toArray,List.set_cons_zero,List.set_cons_succ]
     go_simp
     exact⟨upd f 33 (dvals g0 cp zs.length x Bx g zk.length zc i N 3),by simp [upd,dvals,e2],⟨hI.r.val 3 (by decide) (by decide),hI.b1,hI.b2⟩⟩
    | 4,hl,oi,hoi,haf =>
     obtain rfl:=Option.some.inj hoi;refine Xz rfl rfl ?_;simp only [Jg,List.foldl_cons,List.foldl_nil,List.setIfInBounds_toArray,List.set_cons_zero,List.set_cons_succ]
     go_simp
     exact⟨upd f 34 (dvals g0 cp zs.length x Bx g zk.length zc i N 4),by simp [upd,dvals],⟨hI.r.val 4 (by decide) (by decide),hI.b1,hI.b2⟩⟩
    | 5,hl,oi,hoi,haf =>
     obtain rfl:=Option.some.inj hoi;refine Xz rfl rfl ?_;simp only [Jg,List.foldl_cons,List.foldl_nil,List.setIfInBounds_toArray,List.set_cons_zero,List.set_cons_succ]
     go_simp
     exact⟨upd f 35 (dvals g0 cp zs.length x Bx g zk.length zc i N 5),by simp [upd,dvals],⟨hI.r.val 5 (by decide) (by decide),hI.b1,hI.b2⟩⟩
    | 6,hl,oi,hoi,haf =>
     obtain rfl:=Option.some.inj hoi;have e5:=hI.r.vals 5 (by decide) (LL.of (haf ⟨5,Ground.data⟩ (by simp) rfl:listed.getD 5 false=true));simp only [dvals,List.getD_cons_zero,List.getD_cons_succ,Nat.reduceAdd] at e5;refine Xz rfl rfl ?_;simp only [Jg,List.foldl_cons,List.foldl_nil,List.setIfInBounds_toArray,List.set_cons_zero,List.set_cons_succ]
     go_simp
     exact⟨upd f 36 (dvals g0 cp zs.length x Bx g zk.length zc i N 6),by simp [upd,dvals,e5,hwr],⟨hI.r.val 6 (by decide) (by decide),hI.b1,hI.b2⟩⟩
    | 7,hl,oi,hoi,haf =>
     obtain rfl:=Option.some.inj hoi;have e3:=hI.r.vals 3 (by decide) (LL.of (haf ⟨3,Ground.data⟩ (by simp) rfl:listed.getD 3 false=true));have e4:=hI.r.vals 4 (by decide) (LL.of (haf ⟨4,Ground.data⟩ (by simp) rfl:listed.getD 4 false=true));have e6:=hI.r.vals 6 (by decide) (LL.of (haf ⟨6,Ground.data⟩ (by simp) rfl:listed.getD 6 false=true));simp only [dvals,List.getD_cons_zero,List.getD_cons_succ,Nat.reduceAdd] at e3 e4 e6;refine Xz rfl rfl ?_;simp only [Jg,List.foldl_cons,List.foldl_nil,List.setIfInBounds_toArray,List.set_cons_zero,List.set_cons_succ];obtain rfl:=hI.r.w0 (LL.no hl)
     go_simp
     refine⟨trivial,CallsIn.inRound l (callsIn_wide.2 (DEL.out.mono ?_))⟩
     rintro e W3 ⟨rfl,hPc⟩
     exact⟨upd f 37 (dvals g0 cp zs.length x Bx g zk.length zc i N 7),by simp [upd,Jg,dvals,e3,e4,e6],⟨hI.r.call (c:=7) (by decide) (LL.no hl) hPc (LL.size hl),(PCK.out W3 hPc).1,(PCK.out W3 hPc).2⟩⟩
    | 8,hl,oi,hoi,haf =>
     obtain rfl:=Option.some.inj hoi;have e0:=hI.r.vals 0 (by decide) (LL.of (haf ⟨0,Ground.data⟩ (by simp) rfl:listed.getD 0 false=true));have e1:=hI.r.vals 1 (by decide) (LL.of (haf ⟨1,Ground.data⟩ (by simp) rfl:listed.getD 1 false=true));simp only [dvals,List.getD_cons_zero,List.getD_cons_succ,Nat.reduceAdd] at e0 e1;refine Xz rfl rfl ?_;simp only [Jg,List.foldl_cons,List.foldl_nil,List.setIfInBounds_toArray,List.set_cons_zero,List.set_cons_succ]
     go_simp
     exact⟨upd f 38 (dvals g0 cp zs.length x Bx g zk.length zc i N 8),by simp [upd,dvals,e0,e1],⟨hI.r.val 8 (by decide) (by decide),hI.b1,hI.b2⟩⟩
    | 9,hl,oi,hoi,haf =>
     obtain rfl:=Option.some.inj hoi;have e8:=hI.r.vals 8 (by decide) (LL.of (haf ⟨8,Ground.data⟩ (by simp) rfl:listed.getD 8 false=true));simp only [dvals,List.getD_cons_zero,List.getD_cons_succ,Nat.reduceAdd] at e8;refine Xz rfl rfl ?_;simp only [Jg,List.foldl_cons,List.foldl_nil,List.setIfInBounds_toArray,List.set_cons_zero,List.set_cons_succ]
     go_simp
     exact⟨upd f 39 (dvals g0 cp zs.length x Bx g zk.length zc i N 9),by simp [upd,dvals,e8],⟨hI.r.val 9 (by decide) (by decide),hI.b1,hI.b2⟩⟩
    | 10,hl,oi,hoi,haf =>
     obtain rfl:=Option.some.inj hoi;have e7:=hI.r.vals 7 (by decide) (LL.of (haf ⟨7,Ground.data⟩ (by simp) rfl:listed.getD 7 false=true));have e9:=hI.r.vals 9 (by decide) (LL.of (haf ⟨9,Ground.data⟩ (by simp) rfl:listed.getD 9 false=true));simp only [dvals,List.getD_cons_zero,List.getD_cons_succ,Nat.reduceAdd] at e7 e9;have hPc:=hI.r.wc (LL.of (haf ⟨7,Ground.data⟩ (by simp) rfl:listed.getD 7 false=true)) (LL.no hl)
     obtain⟨q0,ql,qf⟩:=PCW.out WW hPc
     refine Xz rfl rfl ?_;simp only [Jg,List.foldl_cons,List.foldl_nil,List.setIfInBounds_toArray,List.set_cons_zero,List.set_cons_succ]
     go_simp
     exact⟨f,by simp [e7,e9],⟨(hI.r.store (s:=10) (by decide) (LL.of (haf ⟨7,Ground.data⟩ (by simp) rfl:listed.getD 7 false=true)) ⟨WW,hPc,rfl⟩ (LL.size hl)),(PSK.out WW hPc).1,(PSK.out WW hPc).2⟩⟩
    | j+11,hl,oi,hoi,haf=>simp at hoi
   ·intro listed f WW hI hall;have hv:=fun j (hj:j<10)=>hI.r.vals j hj (hall j (by show j<11;omega))
    obtain⟨W3,hPc,rfl⟩:=hI.r.ws (hall 10 (by decide))
    have HPC:=hid hPc;have S4:=hid hI.b1;have ev0:=hv 0 (by decide);have ev1:=hv 1 (by decide);have ev2:=hv 2 (by decide);have ev3:=hv 3 (by decide);have ev4:=hv 4 (by decide);have ev5:=hv 5 (by decide);have ev6:=hv 6 (by decide);have ev7:=hv 7 (by decide);have ev8:=hv 8 (by decide);have ev9:=hv 9 (by decide);simp only [dvals,List.getD_cons_zero,List.getD_cons_succ,Nat.reduceAdd] at ev0 ev1 ev2 ev3 ev4 ev5 ev6 ev7 ev8 ev9;clear hI hall hv hPc;simp only [Jg,List.foldl_cons,List.foldl_nil,List.setIfInBounds_toArray,List.set_cons_zero,List.set_cons_succ,ev0,ev1,ev2,ev3,ev4,ev5,ev6,ev7,ev8,ev9];clear ev0 ev1 ev2 ev3 ev4 ev5 ev6 ev7 ev8 ev9;have KO4:=hid (show KeepsOthers W (W3.setCell ⟨g0,x * 2+1,none⟩ (.slice (some ⟨g,0,none⟩) N zc)) from
     (((KeepsOthers.of_grownBy (Xm HB2.out) (fun j o e=>by cases e)).trans (KeepsOthers.drew W2)).trans (KeepsOthers.of_grownBy HPC.out.2 (fun j o e ho=>by
      cases e
      obtain⟨cur,hc⟩:=G2.out
      rw [show W2.drew.heap[g]?=W2.heap[g]? from rfl,hc] at ho
      cases ho;rfl))).trans (KeepsOthers.setCell _ _ _))
    have hgge:w3.heap.size≤g:=HGB.out;have hg0ge:w3.heap.size≤g0:=(World.ownsRow.lt OWN.out g0 rfl).1;have B4:=hid (show Below w3.heap.size w7 (W3.setCell ⟨g0,x * 2+1,none⟩ (.slice (some ⟨g,0,none⟩) N zc)) from
     (((((HI.out.then HB2.out).drew).mono W37.out).grown HPC.out.2 (Nat.le_trans W37.out (HI.out.then HB2.out).size) (fun k e=>by cases e;exact hgge)).setCell (p:=⟨g0,x * 2+1,none⟩) hg0ge _))
    obtain⟨_,_,hown4,heach4,_⟩:=DS.out W3 HPC.out
    have RL4:=hid hown4.rd;have RE4:=hid (fun z hz=>(heach4 z hz).rd);clear hown4 heach4 hgge hg0ge;generalize W3.setCell ⟨g0,x * 2+1,none⟩ (.slice (some ⟨g,0,none⟩) N zc)=W4 at *;have hs4:W4.cell? ⟨w4.heap.size,0,none⟩=some (.slice (some ⟨g0,0,none⟩) zs.length cp):=cR S4.out;have hl4:=lt_of_block S4.out;have A5:=hid (bal W4 (.cells #[.slice (some ⟨g0,0,none⟩) zs.length cp] 99));have F5:=hid (heap_alloc_new W4 (.cells #[.slice (some ⟨g0,0,none⟩) zs.length cp] 99))
    obtain⟨zs2,hzs2⟩:∃ zs2,zs2=zs.set x ((zn,ks),(some ⟨g,0,none⟩,zc)):=⟨_,rfl⟩
    rw [← hzs2] at RL4 RE4;have hl2:zs2.length=zs.length:=by rw [hzs2,List.length_set]
    have PRT:=hid (show Zy (zs2.map (·.1))=some (Zb ((zs.map (·.1)).set x (takeK (zn,zk) key))) from by
     obtain⟨hx,hzz⟩:=HZX.out
     have hx':x<l'.length:=by rw [← HZM.out,List.length_map];exact hx
     have h:=without_print (key:=key) HL.out hx';have he:l'[x]'hx'=(zn,zk):=by
      simp only [← HZM.out,List.getElem_map,← hzz]
     rw [he,← HZM.out] at h;rw [hzs2,List.map_set];simp only [takeK,← HKS.out] at h ⊢;exact h)
    obtain⟨T,hT⟩:∃ T,T=Zb ((zs.map (·.1)).set x (takeK (zn,zk) key)):=⟨_,rfl⟩
    rw [← hT] at PRT;have PUT:=hid (pput_any (W4.alloc (.cells #[.slice (some ⟨g0,0,none⟩) zs.length cp] 99)) (.slice (some ⟨W4.heap.size,0,none⟩) 1 1) [zs2] T
     ⟨_,_,rfl,fun n hn=>⟨W4.heap.size,0,.slice (some ⟨g0,0,none⟩) zs.length cp,rfl,lt_of_block F5.out,by
      obtain rfl:n=0:=by simp at hn;exact hn
      rw [cell_of_row _ _ _ _ _ _ F5.out];rfl,by
      obtain rfl:n=0:=by simp at hn;exact hn
      exact(RL4.out).below A5.out⟩⟩
     (fun z hz=>(RE4.out z (by simpa using hz)).below A5.out) (by simp) (by simpa using PRT.out))
    have HTT:=hid hT;clear hT hzs2 hl2
    gi_wp2
    refine⟨trivial,CallsIn.inRound l (callsIn_wide.2 (PUT.out.mono ?_))⟩
    rintro e W6 ⟨rfl,hb6⟩;have hn3:w.heap.size+1+1+1≤w3.heap.size:=HN3.out;have O6:=hid ((hb6.block _ (by have:=lt_of_block S4.out;have:=B4.out.size;have:=W37.out;simp;omega)).trans ((A5.out.block _ (by have:=B4.out.size;have:=W37.out;omega)).trans ((B4.out.block _ (by omega)).trans O7.out)));have Q6:=hid ((hb6.block _ (by have:=lt_of_block S4.out;have:=B4.out.size;have:=W37.out;simp;omega)).trans ((A5.out.block _ (by have:=B4.out.size;have:=W37.out;omega)).trans ((B4.out.block _ (by omega)).trans Q7.out)));have KO6:=hid (((KO4.out.trans (KeepsOthers.alloc _ _)).trans (KeepsOthers.of_grownBy (Xm hb6) (fun j o e=>by cases e))));have B6:=hid (show Below (w.heap.size) w7 W6 from((B4.out.mono (by omega)).trans (A5.out.mono (by have:=B4.out.size;have:=B7.out.size;omega))).trans (hb6.mono (by have:=A5.out.size;have:=B4.out.size;have:=B7.out.size;omega)));clear hb6 hn3 hs4 hl4 A5 F5 PUT;have x0:W6.cell? ⟨w.heap.size+1,0,none⟩=some (.string ⟨#[]⟩):=cR O6.out;have x1:W6.cell? ⟨w.heap.size+1+1,0,none⟩=some (.bool false):=cR Q6.out;have f0:=frozen_of_row _ _ 0 _ _ O6.out;have f1:=frozen_of_row _ _ 0 _ _ Q6.out;have m0:=lt_of_block O6.out;have m1:=lt_of_block Q6.out
    gi_wp2
    refine⟨((KO6.out.trans (KeepsOthers.setCell _ _ _)).trans (KeepsOthers.setCell _ _ _)).from _,rfl,?_⟩
    obtain⟨hx,hzz⟩:=HZX.out
    refine⟨pre,x,hx,rfl,HPRE.out,by rw [← hzz];exact HF.out,(B6.out.setCell (p:=⟨w.heap.size+1,0,none⟩) (by simp) _).setCell (p:=⟨w.heap.size+1+1,0,none⟩) (by simp;omega) _,?_,?_,?_⟩
    ·have:=HN3.out;have:=W37.out;omega
    ·rw [← hzz]
     simp only
     rw [← HTT.out]
     exact(heap_setCell_other _ ⟨w.heap.size+1+1,0,none⟩ (w.heap.size+1) (.bool true) (by simp)).trans (heap_setCell_same _ _ _ _ _ (.string ⟨T.toArray⟩) O6.out)
    ·exact heap_setCell_same _ _ 0 _ _ (.bool true) ((heap_setCell_other W6 ⟨w.heap.size+1,0,none⟩ (w.heap.size+1+1) (.string ⟨T.toArray⟩) (by simp)).trans Q6.out)
 case done =>
  rintro D xs W hD hxs hI hK;have hb:=hI.1;have hall:=hI.2;have HNO:=hid (withoutT_no (key:=key) HL.out (fun y hy=>by
   rw [← HZM.out] at hy
   obtain⟨z,hz,rfl⟩:=List.mem_map.1 hy
   obtain⟨k,hk,rfl⟩:=List.getElem_of_mem hz
   have:=hall k (back_all hxs k hk)
   rwa [List.getD_eq_getElem?_getD,List.getElem?_eq_getElem hk] at this))
  clear hall hxs hI;have B8:=hid (B7.out.then hb);have O8:=hid (bk hb O7.out);have Q8:=hid (bk hb Q7.out);have c0:W.cell? ⟨w.heap.size+1,0,none⟩=some (.string ⟨#[]⟩):=cR O8.out;have c1:W.cell? ⟨w.heap.size+1+1,0,none⟩=some (.bool false):=cR Q8.out;have f0:=frozen_of_row _ _ 0 _ _ O8.out;have f1:=frozen_of_row _ _ 0 _ _ Q8.out;have l0:=lt_of_block O8.out;have l1:=lt_of_block Q8.out
  gi_wp2
  have hKD:((W.setCell ⟨w.heap.size+1,0,none⟩ (.string ⟨p.toArray⟩)).setCell ⟨w.heap.size+1+1,0,none⟩ (.bool false)).heap[D]?=some (.deferred (some [])) :=
   (KeepsOthers.setCell _ _ _).same D _ ((KeepsOthers.setCell _ _ _).same D _ hK rfl) rfl
  refine⟨by simp,.inl ⟨_,_,rfl,run_takeDeferred hKD,?_⟩⟩
  have O9:=(heap_setCell_other (W.setCell ⟨w.heap.size+1,0,none⟩ (.string ⟨p.toArray⟩)) ⟨w.heap.size+1+1,0,none⟩ (w.heap.size+1) (.bool false) (by simp)).trans (heap_setCell_same _ _ _ _ _ (.string ⟨p.toArray⟩) O8.out);have Q9:=heap_setCell_same _ _ 0 _ _ (.bool false) ((heap_setCell_other W ⟨w.heap.size+1,0,none⟩ (w.heap.size+1+1) (.string ⟨p.toArray⟩) (by simp)).trans Q8.out);have g0:=cell_kept (show((W.setCell ⟨w.heap.size+1,0,none⟩ (.string ⟨p.toArray⟩)).setCell ⟨w.heap.size+1+1,0,none⟩ (.bool false)).cell? ⟨w.heap.size+1,0,none⟩=some (.string ⟨p.toArray⟩) by rw [cell_of_row _ _ _ _ _ _ O9];rfl) (grownBy_putObj' _ D (.deferred none)) (fun r e=>by cases e;exact⟨_,hKD,rfl⟩);have g1:=cell_kept (show((W.setCell ⟨w.heap.size+1,0,none⟩ (.string ⟨p.toArray⟩)).setCell ⟨w.heap.size+1+1,0,none⟩ (.bool false)).cell? ⟨w.heap.size+1+1,0,none⟩=some (.bool false) by rw [cell_of_row _ _ _ _ _ _ Q9];rfl) (grownBy_putObj' _ D (.deferred none)) (fun r e=>by cases e;exact⟨_,hKD,rfl⟩)
  refine⟨.tuple #[.string ⟨p.toArray⟩,.bool false],?_,by rw [HNO.out],?_⟩
  ·simp [results,Tryz.f47,go_sem,g0,g1]
  ·exact((B8.out.setCell (p:=⟨w.heap.size+1,0,none⟩) (by simp) _).setCell (p:=⟨w.heap.size+1+1,0,none⟩) (by simp;omega) _).trans (belowK_b (w:=w) (Nat.le_refl _) _ D _ _ (Nat.le_trans B7.out.size hD) hKD rfl rfl)
 case stop =>
  rintro D c pre W hD hSp ⟨rfl,pre',x,hx,rfl,h2,h3,hb,hn,O9,Q9⟩ hK;have HNO:=hid (show Kz p key=(Zb ((zs.map (·.1)).set x (takeK (zs[x]'hx).1 key)),true) from by
   have hx':x<l'.length:=by rw [← HZM.out,List.length_map];exact hx
   have he:l'[x]'hx'=(zs[x]'hx).1:=by simp only [← HZM.out,List.getElem_map]
   have hs:=back_seen hSp hx
   have:=withoutT_at (key:=key) HL.out hx' (by rw [he];exact h3) (fun m hm hlt=>by
    have hm2:m<zs.length:=by rw [← HZM.out,List.length_map] at hm;exact hm
    have h4:=h2 m (hs m hlt hm2);rw [List.getD_eq_getElem?_getD,List.getElem?_eq_getElem hm2] at h4;have he2:l'[m]'hm=(zs[m]'hm2).1:=by simp only [← HZM.out,List.getElem_map]
    rw [he2];exact h4)
   rw [he,← HZM.out] at this;exact this)
  obtain⟨T,hT⟩:∃ T,T=Zb ((zs.map (·.1)).set x (takeK (zs[x]'hx).1 key)):=⟨_,rfl⟩
  rw [← hT] at HNO O9;clear hT h2 h3 hSp hx
  gi_wp2
  refine⟨by simp,.inl ⟨_,_,rfl,run_takeDeferred hK,?_⟩⟩
  have g0:=cell_kept (show W.cell? ⟨w.heap.size+1,0,none⟩=some (.string ⟨T.toArray⟩) by rw [cell_of_row _ _ _ _ _ _ O9];rfl) (grownBy_putObj' _ D (.deferred none)) (fun r e=>by cases e;exact⟨_,hK,rfl⟩);have g1:=cell_kept (show W.cell? ⟨w.heap.size+1+1,0,none⟩=some (.bool true) by rw [cell_of_row _ _ _ _ _ _ Q9];rfl) (grownBy_putObj' _ D (.deferred none)) (fun r e=>by cases e;exact⟨_,hK,rfl⟩)
  refine⟨.tuple #[.string ⟨T.toArray⟩,.bool true],?_,by rw [HNO.out],?_⟩
  ·simp [results,Tryz.f47,go_sem,g0,g1]
  ·exact((B7.out.trans hb).trans (belowK_b (w:=w) (Nat.le_refl _) _ D _ _ (Nat.le_trans B7.out.size hD) hK rfl rfl))
end
section
open Go.RowKit Go.Lib
theorem look_nil (t:Tb):(Xh t []).2=none:=rfl
end
section
open Go.RowKit Go.Lib
theorem own_atW {W:World}{B:Nat}{a:Option Addr}{n c:Nat}{l:List Str}(h:Qg W B (.slice a n c) l)(j:Nat)(hj:j<l.length):∃ g,a=some ⟨g,0,none⟩∧g<W.heap.size∧W.cell? ⟨g,j,none⟩=some (.string ⟨(l[j]'hj).toArray⟩):=by
 rcases h.shape with ⟨_,e⟩ | ⟨g,cap,cur,e,hB,hg,hn,hm,hs,ht⟩
 ·rw [e] at hj;simp at hj
 ·cases e
  refine⟨g,rfl,lt_of_block hg,cells_at hg ht _ _ ?_⟩
  rw [List.getElem?_map,List.getElem?_eq_getElem hj]
  rfl
end
section
open Go.RowKit Go.Lib
theorem ownS_one (w:World)(B:Nat)(p:Str)(hB:B≤w.heap.size):Qg (w.alloc (.cells #[.string ⟨p.toArray⟩] 9)) B (.slice (some ⟨w.heap.size,0,none⟩) 1 1) [p]:=by
 refine⟨by simp,Or.inr ⟨w.heap.size,1,#[.string ⟨p.toArray⟩],rfl,hB,heap_alloc_new w _,by simp,by unfold maxLen;omega,rfl,?_⟩⟩
 simp [S]
end
section
open Go.RowKit Go.Lib
theorem withoutT_some {p key q:Str}:Kz p key=(q,true)↔Zc p key=some q:=by
 unfold Kz
 cases h:Zc p key with
 | none=>simp
 | some x=>simp
theorem withoutT_none {p key:Str}:(Kz p key).2=false↔Zc p key=none:=by
 unfold Kz
 cases h:Zc p key with
 | none=>simp
 | some x=>simp
def sdTail (p1:Str):List Str:=match Zc p1 Zx with
 | none=>[]
 | some bare=>(match otherF p1 with
  | some q=>if q=p1 then [] else [q]
  | none=>[])++[bare]
theorem side_eq {p:Str}{l:List Stp}(h:Qb p=some l):sideF p=(p::(Zc p altT).toList)++sdTail ((Zc p altT).getD p):=by
 unfold sideF;rw [h]
 rfl
theorem tail_no {p1:Str}(h:(Kz p1 Zx).2=false):sdTail p1=[]:=by
 unfold sdTail;rw [withoutT_none.1 h]
def otherL (p1:Str):List Str:=match otherF p1 with
 | some q=>if q=p1 then [] else [q]
 | none=>[]
theorem tail_yes {p1 bare:Str}(h:Kz p1 Zx=(bare,true)):sdTail p1=otherL p1++[bare]:=by
 unfold sdTail otherL;rw [withoutT_some.1 h]
theorem other_at {p1:Str}{l:List Stp}(h:Qb p1=some l){n:Nat}(hn:n<l.length)(h1:hasK (l[n]'hn) Zx=true)(h2:∀ m (hm:m<l.length),n<m→hasK (l[m]'hm) Zx=false) :
  otherF p1=Zy (l.set n (setK Zx otherT (l[n]'hn))):=by
 unfold otherF;rw [h,Option.bind_some,last_at hn h1 h2,Option.bind_some]
theorem other_same {p1:Str}{l:List Stp}(h:Qb p1=some l){n:Nat}(hn:n<l.length)(h1:hasK (l[n]'hn) Zx=true)(h2:∀ m (hm:m<l.length),n<m→hasK (l[m]'hm) Zx=false)
  (he:setK Zx otherT (l[n]'hn)=l[n]'hn):otherL p1=[]:=by
 unfold otherL;rw [other_at h hn h1 h2,he,List.set_getElem_self,path_print h]
 simp
theorem other_turn {p1:Str}{l:List Stp}(h:Qb p1=some l){n:Nat}(hn:n<l.length)(h1:hasK (l[n]'hn) Zx=true)(h2:∀ m (hm:m<l.length),n<m→hasK (l[m]'hm) Zx=false)
  (he:setK Zx otherT (l[n]'hn)≠l[n]'hn):otherL p1=(Zy (l.set n (setK Zx otherT (l[n]'hn)))).toList:=by
 unfold otherL;rw [other_at h hn h1 h2]
 cases hp:Zy (l.set n (setK Zx otherT (l[n]'hn))) with
 | none=>rfl
 | some q =>
  have hq:=print_path hp;simp only [Option.toList_some];rw [if_neg];rintro rfl;rw [h] at hq
  have:=Option.some.inj hq
  apply he
  have e2:(l.set n (setK Zx otherT (l[n]'hn)))[n]?=some (setK Zx otherT (l[n]'hn)):=by rw [List.getElem?_set_self hn]
  rw [← this,List.getElem?_eq_getElem hn] at e2
  exact(Option.some.inj e2).symm
theorem other_val:valOk otherT=true:=by decide +kernel
theorem other_may {x:Stp}(h:mayB x=true):mayB (setK Zx otherT x)=true:=may_set h _ _ other_val
theorem setK_at {x:Stp}{key v:Str}(hm:mayB x=true){i:Nat}(h:KeyAt x.2 key i):setK key v x=(x.1,x.2.set i (key,v)):=by
 obtain⟨hi,h1,h2⟩:=h
 unfold setK;rw [set_key (may_keys hm).2.1 hi h1 h2]
theorem setK_self {x:Stp}{key v:Str}(hm:mayB x=true){i:Nat}(h:KeyAt x.2 key i):setK key v x=x↔((x.2[i]'h.1).2=v):=by
 rw [setK_at hm h]
 obtain⟨hi,h1,h2⟩:=h
 obtain⟨n,ks⟩:=x
 simp only [Prod.mk.injEq,true_and] at *
 constructor
 ·intro e
  have:(ks.set i (key,v))[i]?=some (key,v):=List.getElem?_set_self hi
  rw [e,List.getElem?_eq_getElem hi] at this;rw [Option.some.inj this]
 ·intro e
  have:(key,v)=ks[i]'hi:=by rw [← h1,← e]
  rw [this,List.set_getElem_self]
end
end Go.Proofs.YtbbmdbolkicpcaaGreatDoor
