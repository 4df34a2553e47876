/- TbNewA, TbNew, TbKeys, TbGet, TbList, TbWakes, TbTexts, TbCut, PtCat -/
import Derived.Test.YtbbmdbolkicpcaaGreatDoorILG09
import Derived.Test.YtbbmdbolkicpcaaGreatDoorILShelfM
import Derived.BigQuiet
import Derived.IntWalk
import Derived.WalkSmall
import Derived.Laws.AppendOwnNone
import Derived.Test.YtbbmdbolkicpcaaGreatDoorILG06
import Derived.Lib.AppendZeros
set_option maxRecDepth 100000
set_option maxHeartbeats 32000000
set_option linter.unusedVariables false
set_option linter.unusedSimpArgs false
namespace Go.Proofs.YtbbmdbolkicpcaaGreatDoor
section
open Go.RowKit Go.Lib Go.Sort Go.Maps Go.WideMaps
def encI:Enc Itm 5 where
 enc:=fun x=>[.string ⟨x.path.toArray⟩,.string ⟨x.value.toArray⟩,.bool x.alias',.string ⟨x.draft.toArray⟩,.int .i64 x.at']
 len:=fun _=>rfl
 one:=fun x u hu=>by simp at hu;rcases hu with rfl | rfl | rfl | rfl | rfl <;> rfl
def encD:Enc (Dc×(Option Addr×Nat)) 3 where
 enc:=fun z=>[.string ⟨z.1.loc.toArray⟩,.bool z.1.supp,.slice z.2.1 z.1.items.length z.2.2]
 len:=fun _=>rfl
 one:=fun x u hu=>by simp at hu;rcases hu with rfl | rfl | rfl <;> rfl
def RdD (w:World)(v:Value)(l:List Dc):Prop:=∃ zs:List (Dc×(Option Addr×Nat)),zs.map (·.1)=l∧RdL encD w v zs∧∀ z∈zs,RdL encI w (.slice z.2.1 z.1.items.length z.2.2) z.1.items
theorem RdD.cells {w:World}{v:Value}{l:List Dc}(h:RdD w v l):∃ ao cp,v=.slice ao l.length cp∧l.length≤cp∧l.length≤9223372036854775807∧∀ n (hn:n<l.length),∃ p o a c,ao=some ⟨p,o,none⟩∧p<w.heap.size ∧
  w.cell? ⟨p,o+n * 3,none⟩=some (.string ⟨(l[n]'hn).loc.toArray⟩)∧w.cell? ⟨p,o+n * 3+1,none⟩=some (.bool (l[n]'hn).supp)∧w.cell? ⟨p,o+n * 3+2,none⟩=some (.slice a (l[n]'hn).items.length c)∧RdL encI w (.slice a (l[n]'hn).items.length c) (l[n]'hn).items:=by
 obtain⟨zs,rfl,⟨ao,cp,rfl,⟨h1,h2,_⟩,hc⟩,hi⟩:=h
 refine⟨ao,cp,by rw [List.length_map],by rw [List.length_map];exact h1,by rw [List.length_map];exact h2,fun n hn=>?_⟩
 rw [List.length_map] at hn
 obtain⟨p,o,ha,hp,hx⟩:=hc (by intro e;rw [e] at hn;simp at hn)
 simp only [List.getElem_map]
 exact⟨p,o,(zs[n]).2.1,(zs[n]).2.2,ha,hp,hx n 0 _ hn rfl,hx n 1 _ hn rfl,hx n 2 _ hn rfl,hi _ (List.getElem_mem hn)⟩
theorem RdI.cells {w:World}{a:Option Addr}{k c:Nat}{l:List Itm}(h:RdL encI w (.slice a k c) l):k=l.length∧k≤c∧k≤9223372036854775807∧∀ n (hn:n<l.length),∃ p o,a=some ⟨p,o,none⟩∧p<w.heap.size ∧
  w.cell? ⟨p,o+n * 5,none⟩=some (.string ⟨(l[n]'hn).path.toArray⟩)∧w.cell? ⟨p,o+n * 5+1,none⟩=some (.string ⟨(l[n]'hn).value.toArray⟩)∧w.cell? ⟨p,o+n * 5+2,none⟩=some (.bool (l[n]'hn).alias')∧w.cell? ⟨p,o+n * 5+3,none⟩=some (.string ⟨(l[n]'hn).draft.toArray⟩)∧w.cell? ⟨p,o+n * 5+4,none⟩=some (.int .i64 (l[n]'hn).at'):=by
 obtain⟨ao,cp,e,⟨h1,h2,_⟩,hc⟩:=h
 cases e
 refine⟨rfl,h1,h2,fun n hn=>?_⟩
 obtain⟨p,o,ha,hp,hx⟩:=hc (by intro e;rw [e] at hn;simp at hn)
 exact⟨p,o,ha,hp,hx n 0 _ hn rfl,hx n 1 _ hn rfl,hx n 2 _ hn rfl,hx n 3 _ hn rfl,hx n 4 _ hn rfl⟩
def costD:List Dc→Nat
 | []=>0
 | d::r=>4 * d.items.length+1+costD r
def SzD (l:List Dc):Prop:=(∀ d∈l,d.loc.length≤maxLen∧∀ x∈d.items,x.path.length≤maxLen)∧costD l+8<maxLen
def P3 (W:World)(B:Nat)(a0 a1 a2:Value):World:=((W.setCell ⟨B,0,none⟩ a0).setCell ⟨B,1,none⟩ a1).setCell ⟨B,2,none⟩ a2
theorem P3_row {W:World}{B:Nat}{z0 z1 z2:Value}{ty:TypeId}(a0 a1 a2:Value)(h:W.heap[B]?=some (.cells #[z0,z1,z2] ty (0,0))):(P3 W B a0 a1 a2).heap[B]?=some (.cells #[a0,a1,a2] ty (0,0)):=by
 unfold P3;rw [heap_setCell_same _ _ _ _ _ _ (heap_setCell_same _ _ _ _ _ _ (heap_setCell_same _ _ _ _ _ _ h))];simp
theorem P3_below {B b:Nat}{w W:World}(a0 a1 a2:Value)(h:Below B w W)(hb:B≤b):Below B w (P3 W b a0 a1 a2) :=
 ((h.setCell (p:=⟨b,0,none⟩) hb a0).setCell (p:=⟨b,1,none⟩) hb a1).setCell (p:=⟨b,2,none⟩) hb a2
theorem P3_kept {W:World}{b c:Nat}(a0 a1 a2:Value)(hne:c≠b):(P3 W b a0 a1 a2).heap[c]?=W.heap[c]?:=by
 unfold P3;rw [heap_setCell_other _ _ _ _ hne,heap_setCell_other _ _ _ _ hne,heap_setCell_other _ _ _ _ hne]
theorem Zl {W:World}{B:Nat}{a b c:Value}{ty:TypeId}(h:W.heap[B]?=some (.cells #[a,b,c] ty (0,0))):W.frozen? ⟨B,0,none⟩=false∧W.frozen? ⟨B,1,none⟩=false∧W.frozen? ⟨B,2,none⟩=false :=
 ⟨frozen_of_row W B 0 _ _ h,frozen_of_row W B 1 _ _ h,frozen_of_row W B 2 _ _ h⟩
def TNewOut (w : World) (l : List Dc) (x : Ending) (w' : World) : Prop :=
  Below w.heap.size w w' ∧
    (((Kc l).1.err = 0 ∧ ∃ Bt bv ba bn bp N V, x = .returned (.tuple #[.pointer (some ⟨Bt, 0, none⟩), .agg #[.int .i64 0, .int .i64 0, .int .i64 0]]) ∧ TbIn w.heap.size w' Bt bv ba bn bp N V (Kc l).2 ∧ Jq (Kc l).2) ∨
     ((Kc l).1.err ≠ 0 ∧ x = .returned (.tuple #[.pointer none, .agg #[.int .i64 (Kc l).1.err, .int .i64 (Kc l).1.file, .int .i64 (Kc l).1.at']])))
theorem tnew_ret {V:World}{Pb:Nat}{v:Value}{e f a:Int}(hr:V.heap[Pb]?=some (.cells #[.int .i64 e,.int .i64 f,.int .i64 a] 26 (0,0))){Q:Ending→World→Prop}{act:Act}(hd:act.defers=[])
  (h2:act.tmps.getD 2 undef=v)(h3:act.tmps.getD 3 undef=.pointer (some ⟨Pb,0,none⟩))(hQ:Q (.returned (.tuple #[v,.agg #[.int .i64 e,.int .i64 f,.int .i64 a]])) V) :
  bodyPost Tryz.prog Tryz.f26 Q Exit.ret act V:=by
 obtain⟨e0,e1,e2,_⟩:=Qj hr
 refine bodyPost_ret (v:=.tuple #[v,.agg #[.int .i64 e,.int .i64 f,.int .i64 a]]) ?_ hd hQ
 obtain⟨tmps,defers⟩:=act
 simp only [Array.getD_eq_getD_getElem?] at h2 h3
 simp [results,Tryz.results26,go_sem,h2,h3,e0,e1,e2]
structure NwSt (w W:World)(Bt bv ba bn bp N:Nat)(V:List (Str×Nat))(t:Tb):Prop where
 tb:TbIn w.heap.size.succ W Bt bv ba bn bp N V t
 ok:Jq t
 f:W.heap[w.heap.size]?=some (.cells #[.int .i64 0,.int .i64 0,.int .i64 0] 26 (0,0))
 bel:Below w.heap.size w W
section
variable {w W W' : World} {Bt bv ba bn bp N : Nat} {V : List (Str × Nat)} {t : Tb}
theorem TbIn.lower {B0 B1:Nat}(h:TbIn B0 W Bt bv ba bn bp N V t)(hb:B1≤B0):TbIn B1 W Bt bv ba bn bp N V t:=by
 obtain⟨h1,⟨l1,l2,l3,l4,l5⟩,h3⟩:=h
 exact⟨h1,⟨by omega,by omega,by omega,by omega,by omega⟩,fun p hp=>Nat.le_trans hb (h3 p hp)⟩
theorem TbIn.agree {B0:Nat}(h:TbIn B0 W Bt bv ba bn bp N V t)(he:∀ k,B0≤k→W'.heap[k]?=W.heap[k]?):TbIn B0 W' Bt bv ba bn bp N V t:=by
 obtain⟨⟨a1,a2,a3,a4,a5,a6,a7,a8,a9,a10⟩,⟨l1,l2,l3,l4,l5⟩,h3⟩:=h
 exact⟨⟨(he _ l1).trans a1,a2.block (he _ l2),a3.block (he _ l3),a4.block (he _ l4),a5.block (he _ l5),fun p hp=>(a6 p hp).block (he _ (h3 p hp)),a7,a8,a9,a10⟩,⟨l1,l2,l3,l4,l5⟩,h3⟩
theorem NwSt.below (h:NwSt w W Bt bv ba bn bp N V t)(hb:Below W.heap.size W W'):NwSt w W' Bt bv ba bn bp N V t :=
 ⟨h.tb.below hb,h.ok,bk hb h.f,h.bel.then hb⟩
theorem NwSt.mono {N':Nat}(h:NwSt w W Bt bv ba bn bp N V t)(hn:N≤N'):NwSt w W Bt bv ba bn bp N' V t:=⟨h.tb.mono hn,h.ok,h.f,h.bel⟩
theorem NwSt.size (h:NwSt w W Bt bv ba bn bp N V t):w.heap.size.succ≤W.heap.size:=lt_of_block h.f
theorem NwSt.turned (h:NwSt w W Bt bv ba bn bp N V t){N':Nat}{V':List (Str×Nat)}{t':Tb}(ht:TbIn w.heap.size.succ W' Bt bv ba bn bp N' V' t')(ok:Jq t')(hb:Below w.heap.size.succ W W'):NwSt w W' Bt bv ba bn bp N' V' t' :=
 ⟨ht,ok,(hb.block _ (Nat.lt_succ_self _)).trans h.f,h.bel.trans (hb.mono (Nat.le_succ _))⟩
theorem NwSt.wrong (h:NwSt w W Bt bv ba bn bp N V t):W.cell? ⟨w.heap.size,0,none⟩=some (.int .i64 0)∧W.cell? ⟨w.heap.size,1,none⟩=some (.int .i64 0)∧W.cell? ⟨w.heap.size,2,none⟩=some (.int .i64 0)∧w.heap.size<W.heap.size ∧
  W.frozen? ⟨w.heap.size,0,none⟩=false∧W.frozen? ⟨w.heap.size,1,none⟩=false∧W.frozen? ⟨w.heap.size,2,none⟩=false:=by
 obtain⟨a,b,c,d⟩:=Qj h.f
 exact⟨a,b,c,d,Zl h.f⟩
end
theorem tnew_good {w W:World}{l:List Dc}{Bt bv ba bn bp N:Nat}{V:List (Str×Nat)}{t:Tb}(h:Kc l=(Wrg.ok,t))(st:NwSt w W Bt bv ba bn bp N V t):TNewOut w l (.returned (.tuple #[.pointer (some ⟨Bt,0,none⟩),.agg #[.int .i64 0,.int .i64 0,.int .i64 0]])) (P3 W w.heap.size (.int .i64 0) (.int .i64 0) (.int .i64 0)):=by
 refine⟨P3_below _ _ _ st.bel (Nat.le_refl _),Or.inl ?_⟩
 rw [h]
 exact⟨rfl,Bt,bv,ba,bn,bp,N,V,rfl,(st.tb.agree (fun k hk=>P3_kept _ _ _ (by omega))).lower (Nat.le_succ _),st.ok⟩
theorem start_tb (w W:World)(B:Nat)(hB:B=w.heap.size)(h0:W.heap[B]?=some (.cells #[.int .i64 0,.int .i64 0,.int .i64 0] 26 (0,0)))
  (h1:W.heap[B+1]?=some (.map #[] 0))(h2:W.heap[B+1+1]?=some (.map #[] 0))(h3:W.heap[B+1+1+1]?=some (.map #[] 0))(h4:W.heap[B+1+1+1+1]?=some (.map #[] 0))
  (h5:W.heap[B+1+1+1+1+1]?=some (.cells #[.map (some (B+1)),.map (some (B+1+1)),.map (some (B+1+1+1)),.map (some (B+1+1+1+1))] 93 (0,0)))(hb:Below w.heap.size w W) :
  NwSt w W (B+1+1+1+1+1) (B+1) (B+1+1) (B+1+1+1) (B+1+1+1+1) 0 [] Tb.zero:=by
 have mk:∀ {α:Type} (E:El α) (b:Nat),W.heap[b]?=some (.map #[] 0)→Zh E W b 0 []:=fun E b hb=>by
  have:=Zh.made E (w.alloc (.map #[] 0))
  obtain⟨m,⟨es,ck,hm,F,hs,hD⟩,h2⟩:=this
  have e:=heap_alloc_new (w.alloc (.map #[] 0)) (.map #[] 0);rw [e] at hm
  cases hm
  exact⟨m,⟨_,_,hb,F,hs,hD⟩,h2⟩
 refine⟨⟨⟨h5,mk _ _ h1,mk _ _ h2,mk _ _ h3,mk _ _ h4,(fun p hp=>by cases hp),(by simp),(fun r hr=>by cases hr),(fun r hr=>by cases hr),?_⟩,⟨by omega,by omega,by omega,by omega,by omega⟩,(fun p hp=>by cases hp)⟩,Jq.zero,by rw [← hB];exact h0,hb⟩
 simp
theorem start_new (w:World):NwSt w ((((((w.alloc (.cells #[.int .i64 0,.int .i64 0,.int .i64 0] 26)).alloc (.map #[] 0)).alloc (.map #[] 0)).alloc (.map #[] 0)).alloc (.map #[] 0)).alloc (.cells #[.map (some (w.heap.size+1)),.map (some (w.heap.size+1+1)),.map (some (w.heap.size+1+1+1)),.map (some (w.heap.size+1+1+1+1))] 93))
  (w.heap.size+1+1+1+1+1) (w.heap.size+1) (w.heap.size+1+1) (w.heap.size+1+1+1) (w.heap.size+1+1+1+1) 0 [] Tb.zero:=by
 have a1:∀ (W:World) (o:Obj),(W.alloc o).heap.size=W.heap.size+1:=fun W o=>by simp
 have a2:∀ (W:World) (o:Obj) (k:Nat),(W.alloc o).heap[k]?=if k=W.heap.size then some o else W.heap[k]?:=fun W o k=>by
  show(W.heap.push o)[k]?=_
  rw [Array.getElem?_push]
 refine start_tb w _ w.heap.size rfl ?_ ?_ ?_ ?_ ?_ ?_ ?_
 ·simp only [a2,a1];rw [if_neg (by omega),if_neg (by omega),if_neg (by omega),if_neg (by omega),if_neg (by omega),if_pos trivial]
 ·simp only [a2,a1];rw [if_neg (by omega),if_neg (by omega),if_neg (by omega),if_neg (by omega),if_pos trivial]
 ·simp only [a2,a1];rw [if_neg (by omega),if_neg (by omega),if_neg (by omega),if_pos trivial]
 ·simp only [a2,a1];rw [if_neg (by omega),if_neg (by omega),if_pos trivial]
 ·simp only [a2,a1];rw [if_neg (by omega),if_pos trivial]
 ·simp only [a2,a1];rw [if_pos trivial]
 ·exact(((((bal _ _).alloc (by simp) _).alloc (by simp;omega) _).alloc (by simp;omega) _).alloc (by simp;omega) _).alloc (by simp;omega) _
theorem head_bad {t:Tb}{d:Dc}(h:(d.supp=true∧d.loc≠[])∨(d.supp=false∧Qk d.loc=false)):headF t d=(2,t):=by unfold headF;rw [if_pos h]
theorem head_keep {t:Tb}{d:Dc}(h:¬ ((d.supp=true∧d.loc≠[])∨(d.supp=false∧Qk d.loc=false)))(h2:d.supp=true∨d.loc∈t.names):headF t d=(0,t):=by unfold headF;rw [if_neg h,if_pos h2]
theorem head_full {t:Tb}{d:Dc}(h:¬ ((d.supp=true∧d.loc≠[])∨(d.supp=false∧Qk d.loc=false)))(h2:¬ (d.supp=true∨d.loc∈t.names))(h3:t.names.length=512):headF t d=(3,t):=by unfold headF;rw [if_neg h,if_neg h2,if_pos h3]
theorem head_more {t:Tb}{d:Dc}(h:¬ ((d.supp=true∧d.loc≠[])∨(d.supp=false∧Qk d.loc=false)))(h2:¬ (d.supp=true∨d.loc∈t.names))(h3:¬ t.names.length=512):headF t d=(0,{ t with names:=t.names++[d.loc] }):=by unfold headF;rw [if_neg h,if_neg h2,if_neg h3]
def fromD (n:Nat)(r:List Dc)(d:Dc)(x:Nat×Tb):Wrg×Tb:=match x with
  | (0,t1)=>match itemsF d.loc n t1 d.items with
   | (none,t2)=>docsF (n+1) t2 r
   | (some (e,a),t2)=>(⟨e,n,a⟩,t2)
  | (e,t1)=>(⟨e,n,0⟩,t1)
def fromI (n:Nat)(r:List Dc)(x:Option (Nat×Int)×Tb):Wrg×Tb:=match x with
  | (none,t2)=>docsF (n+1) t2 r
  | (some (e,a),t2)=>(⟨e,n,a⟩,t2)
theorem tnew_bad {w W':World}{l:List Dc}{e:Nat}{f a:Int}{t:Tb}(h:Kc l=(⟨e,f,a⟩,t))(he:e≠0)(hb:Below w.heap.size w W'):TNewOut w l (.returned (.tuple #[.pointer none,.agg #[.int .i64 e,.int .i64 f,.int .i64 a]])) W':=by
 refine⟨hb,Or.inr ?_⟩
 rw [h];exact⟨he,rfl⟩
theorem docs_step {n:Nat}{t:Tb}{l:List Dc}(hn:n<l.length):docsF n t (l.drop n)=fromD n (l.drop (n+1)) (l[n]'hn) (headF t (l[n]'hn)):=by
 rw [List.drop_eq_getElem_cons hn];rfl
theorem cost_step {n:Nat}{l:List Dc}(hn:n<l.length):costD (l.drop n)=4 * (l[n]'hn).items.length+1+costD (l.drop (n+1)):=by
 rw [List.drop_eq_getElem_cons hn];rfl
theorem items_step {m f:Nat}{t:Tb}{loc:Str}{l:List Itm}(hm:m<l.length):itemsF loc f t (l.drop m)=match itemF t loc f (l[m]'hm) with
  | (0,t')=>itemsF loc f t' (l.drop (m+1))
  | (e,t')=>(some (e,(l[m]'hm).at'),t'):=by
 rw [List.drop_eq_getElem_cons hm];rfl
theorem items_next {m f:Nat}{t t':Tb}{loc:Str}{l:List Itm}(hm:m<l.length)(h:itemF t loc f (l[m]'hm)=(0,t')):itemsF loc f t (l.drop m)=itemsF loc f t' (l.drop (m+1)):=by
 rw [items_step hm,h];rfl
theorem items_stop {m f e:Nat}{t t':Tb}{loc:Str}{l:List Itm}(hm:m<l.length)(h:itemF t loc f (l[m]'hm)=(e,t'))(he:e≠0):itemsF loc f t (l.drop m)=(some (e,(l[m]'hm).at'),t'):=by
 rw [items_step hm,h]
 cases e with
 | zero=>exact absurd rfl he
 | succ e=>rfl
end
section
open Go.RowKit Go.Lib Go.Sort Go.Maps Go.WideMaps
theorem named_plain (s:Str):((plainF s).2||s==Qv)=Qk s:=by
 by_cases hn:Qk s=true
 ·by_cases hr:s=Qv
  ·rw [hn,show(s==Qv)=true by rw [hr];rfl];simp
  ·obtain⟨p,hp,_⟩:=plain_ok hn hr
   rw [hn,hp];rfl
 ·have hn2:Qk s=false:=by simpa using hn
  rw [plain_no (fun h=>hn h.1),hn2,show(s==Qv)=false by
   rw [beq_eq_false_iff_ne];rintro rfl;exact hn named_root];rfl
theorem tnew_any (w:World)(l:List Dc)(v:Value)(hd:RdD w v l)(hs:SzD l) :
  Calls Tryz.prog 26 #[v] w fun x w'=>TNewOut w l x w':=by
 have HS:=hid hs
 obtain⟨ao,cp,rfl,hln,h63,hcell⟩:=hd.cells
 have HCELL:=hid hcell;clear hcell hs hd;have hmm:=@run_makeMap Tryz.prog;have ST0:=hid (start_new w)
 go_enter Tryz.func26,Tryz.ntmps26
 go_wp2_with fail
 go_step3
 go_wp2_with fail
 go_step3
 clear hmm;generalize (((((w.alloc (.cells #[.int .i64 0,.int .i64 0,.int .i64 0] 26)).alloc (.map #[] 0)).alloc (.map #[] 0)).alloc (.map #[] 0)).alloc (.map #[] 0)).alloc (.cells #[.map (some (w.heap.size+1)),.map (some (w.heap.size+1+1)),.map (some (w.heap.size+1+1+1)),.map (some (w.heap.size+1+1+1+1))] 93)=w1 at *;generalize w.heap.size+1+1+1+1+1=Bt at *;generalize w.heap.size+1+1+1+1=bp at *;generalize w.heap.size+1+1+1=bn at *;generalize w.heap.size+1+1=ba at *;generalize w.heap.size+1=bv at *;go_wp2_with fail
 go_loopg [20] l.length (fun g vi W=>∃ (n N:Nat) (V:List (Str×Nat)) (t:Tb),n≤l.length∧l.length≤n+g∧vi=.int .i64 n∧NwSt w W Bt bv ba bn bp N V t∧Kc l=docsF n t (l.drop n)∧N+costD (l.drop n)+8<maxLen)
 case atStart=>exact⟨0,0,[],Tb.zero,Nat.zero_le _,by omega,rfl,ST0.out,rfl,by have:=HS.out.2;rw [List.drop_zero];omega⟩
 case round =>
  obtain⟨n,N,V,t,hn,hg,rfl,st,hrun,hcost⟩:=hrel
  rename World=>w2
  obtain⟨go,hgo⟩:∃ go,go=gk:=⟨_,rfl⟩
  have HG:=hid (show l.length≤n+go by rw [hgo];exact hg);have HGO:=hid hgo;clear hgo;have ST2:=hid st;have HRUN:=hid hrun;have HCO:=hid hcost;clear hg st hrun hcost ST0
  by_cases hlt:n<l.length
  ·have hni:(n:Int)<(l.length:Int):=by omega
   have hn0:(0:Int)≤(n:Int):=by omega
   obtain⟨p,o,a,c,rfl,hp,q0,q1,q2,hits⟩:=HCELL.out n hlt
   have r0:=(ST2.out.bel.cell (p:=⟨p,o+n * 3,none⟩) hp).trans q0;have r1:=(ST2.out.bel.cell (p:=⟨p,o+n * 3+1,none⟩) hp).trans q1;have r2:=(ST2.out.bel.cell (p:=⟨p,o+n * 3+2,none⟩) hp).trans q2;have HRUN2:=hid (HRUN.out.trans (docs_step hlt));have HCO2:=hid (show N+(4 * (l[n]'hlt).items.length+1+costD (l.drop (n+1)))+8<maxLen by rw [← cost_step hlt];exact HCO.out);have HSZ:=hid (HS.out.1 _ (List.getElem_mem hlt));have HITS:=hid hits;clear q0 q1 q2 hits HRUN HCO HCELL;generalize l[n]'hlt=d at *
   obtain⟨loc,supp,its⟩:=d
   simp only at r0 r1 r2;have hp2:p<w2.heap.size:=Nat.lt_of_lt_of_le hp ST2.out.bel.size;go_upto_region 5 with fail;have HB3:=hid (bal w2 (.cells #[.string ⟨loc.toArray⟩,.bool supp,.slice a its.length c] 53));have F3:=hid (heap_alloc_new w2 (.cells #[.string ⟨loc.toArray⟩,.bool supp,.slice a its.length c] 53));generalize w2.alloc (.cells #[.string ⟨loc.toArray⟩,.bool supp,.slice a its.length c] 53)=w3 at *;have ST3:=hid (ST2.out.below HB3.out);clear r0 r1 r2 hp2 ST2
   obtain⟨d0,d1,d2,dl⟩:=Qj F3.out
   go_wp2_with fail
   refine(plain_any loc w3 HSZ.out.1).mono ?_
   rintro e w4 ⟨rfl,hb4⟩;have F4:=hid (bk hb4 F3.out);have ST4:=hid (ST3.out.below hb4);clear hb4 d0 d1 d2 dl F3 ST3;generalize w2.heap.size=Db at *
   obtain⟨d0,d1,d2,dl⟩:=Qj F4.out
   have HNM:=hid (named_plain loc);generalize (plainF loc).1=pl1 at *;generalize (plainF loc).2=P at *
   obtain⟨nm,hnm⟩:∃ nm,nm=Qk loc:=⟨_,rfl⟩
   rw [← hnm] at HNM;have HN:=hid hnm;clear hnm;go_upto_region 6 with fail
   go_cut [8,20] from 20 to 109 (fun v8 v20 wx=>v8=.bool nm∧v20=.int .i64 n∧wx=w4)
   case first =>
    cases P with
    | true =>
     go_wp2_with fail
     go_meet
     exact⟨by rw [← HNM.out];rfl,rfl,rfl⟩
    | false =>
     have hub:(loc==[114,111,111,116])=nm:=by rw [← HNM.out];rfl
     go_wp2_with fail
     go_meet
     exact⟨by first | rfl | rw [← hub] | simp [hub],rfl,rfl⟩
   case rest =>
    obtain⟨rfl,rfl,rfl⟩:=hcut
    rename World=>w4
    go_upto_block 2 with fail
    go_cut [20] from 20 to 109 (fun v20 wx=>v20=.int .i64 n∧∃ t1,headF t ⟨loc,supp,its⟩=(0,t1)∧NwSt w wx Bt bv ba bn bp (N+1) V t1∧wx.heap[Db]?=some (.cells #[.string ⟨loc.toArray⟩,.bool supp,.slice a its.length c] 53 (0,0)))
    case first =>
     obtain⟨z0,z1,z2,zl,zf0,zf1,zf2⟩:=ST4.out.wrong
     obtain⟨t0,t1,t2,t3,tl⟩:=ST4.out.tb.box
     cases supp with
     | true =>
      by_cases hl:loc=[]
      ·have hle:List.isEmpty loc=true:=by rw [hl];rfl
       have hle2:(loc==[])=true:=by rw [hl];rfl
       have hle3:(loc != [])=false:=by rw [hl];rfl
       have HH:=hid (head_keep (t:=t) (d:=⟨loc,true,its⟩) (by rintro(⟨_,h⟩ | ⟨h,_⟩);exact h hl;cases h) (Or.inl rfl));clear hl;go_wp2_with fail
       first
        | go_quiet (fail)
        | fail "q10a"
       go_wp2_with fail
       go_meet
       exact⟨rfl,t,HH.out,(ST4.out.below (below_drewN (Below.refl _ _) nq)).mono (Nat.le_succ _),F4.out⟩
      ·have hle:List.isEmpty loc=false:=isEmpty_ne hl;have hle2:(loc==[])=false:=by rw [beq_eq_false_iff_ne];exact hl
       have hle3:(loc != [])=true:=by rw [bne_iff_ne];exact hl
       have HH:=hid (head_bad (t:=t) (d:=⟨loc,true,its⟩) (Or.inl ⟨rfl,hl⟩));clear hl;go_wp2_with fail;refine tnew_ret (Pb:=w.heap.size) (e:=2) (f:=n) (a:=0) (P3_row _ _ _ ST4.out.f) rfl rfl rfl (tnew_bad (e:=2) (HRUN2.out.trans (by rw [HH.out];rfl)) (by decide) (P3_below _ _ _ ST4.out.bel (Nat.le_refl _)))
     | false =>
      cases nm with
      | false =>
       have HH:=hid (head_bad (t:=t) (d:=⟨loc,false,its⟩) (Or.inr ⟨rfl,HN.out.symm⟩));go_wp2_with fail;refine tnew_ret (Pb:=w.heap.size) (e:=2) (f:=n) (a:=0) (P3_row _ _ _ ST4.out.f) rfl rfl rfl (tnew_bad (e:=2) (HRUN2.out.trans (by rw [HH.out];rfl)) (by decide) (P3_below _ _ _ ST4.out.bel (Nat.le_refl _)))
      | true =>
       have NB:=hid (show ¬ (((⟨loc,false,its⟩:Dc).supp=true∧loc≠[])∨((⟨loc,false,its⟩:Dc).supp=false∧Qk loc=false)) by rintro(⟨h,_⟩ | ⟨_,h⟩);exact absurd h (by simp);rw [← HN.out] at h;cases h);have LN:∀ m ty,(Builtin.len_ #[61] ty #[.map (some bn)]).run Tryz.prog (w4.drewN m)=.ok (.int .i64 t.names.length) (w4.drewN m):=fun m ty=>by
        have:=(show Zh elBo (w4.drewN m) bn N (Jb t.names) from ST4.out.tb.at_.names.block rfl).len Tryz.underlying61 (by rw [setL_keys];exact ST4.out.ok.names) ty
        rw [this];simp [Jb]
       by_cases hmp:loc∈t.names
       ·have LK:∀ m,(Instr.lookup 61 (.map (some bn)) (.string ⟨loc.toArray⟩) false).run Tryz.prog (w4.drewN m)=.ok (.bool true) (w4.drewN m):=fun m=>by
         have:=(show Zh elBo (w4.drewN m) bn N (Jb t.names) from ST4.out.tb.at_.names.block rfl).look Tryz.underlying61 zeroBo loc HSZ.out.1
         rw [look_set,if_pos hmp] at this;exact this
        have HH:=hid (head_keep (t:=t) (d:=⟨loc,false,its⟩) NB.out (Or.inr hmp));have HMP:=hid (show Zj (Jb t.names) loc=some true by rw [look_set,if_pos hmp]);clear hmp;go_wp2_with fail
        first
         | go_quiet (fail)
         | fail "q10b"
        go_wp2_with fail;have HB7:=hid (show Below w4.heap.size w4 (w4.drewN nq) from below_drewN (Below.refl _ _) nq);clear LK LN z0 z1 z2 zl zf0 zf1 zf2 t0 t1 t2 t3 tl d0 d1 d2 dl;generalize w4.drewN nq=w7 at *;have F7:=hid (bk HB7.out F4.out);have ST7:=hid (ST4.out.below HB7.out)
        obtain⟨d0,d1,d2,dl⟩:=Qj F7.out
        obtain⟨t0,t1,t2,t3,tl⟩:=ST7.out.tb.box
        obtain⟨w8,hrun,ho8,hg8⟩:=(show Zh elBo w7.drew bn N (Jb t.names) from ST7.out.tb.at_.names.block rfl).again (by have:=HCO2.out;omega) Tryz.underlying61 loc true HSZ.out.1 HMP.out
        have hrun2:(Instr.mapUpdate 61 (.map (some bn)) (.string ⟨loc.toArray⟩) (.bool true)).run Tryz.prog w7.drew=.ok () w8:=hrun;have ST8:=hid ((show NwSt w w7.drew Bt bv ba bn bp N V t from ST7.out.below (Below.refl _ _).drew).turned (t':={ t with names:=t.names }) (N':=N+1) (V':=V) (W':=w8) ⟨(show TbAt w7.drew Bt bv ba bn bp N V t from(ST7.out.tb.below (Below.refl _ _).drew).at_).addName (by  exact ho8) hg8,ST7.out.tb.lo,ST7.out.tb.each⟩ (by have:=head_tb ST7.out.ok ⟨loc,false,its⟩;rw [HH.out] at this;exact this) ((Below.refl _ _).grown hg8 (show w.heap.size.succ≤w7.heap.size from ST7.out.size) (fun k hk=>by cases hk;exact ST7.out.tb.lo.2.2.2.1)));have F8:=hid (Kd (show w7.drew.heap[Db]?=_ from F7.out) (show Zh elBo w7.drew bn N (Jb t.names) from ST7.out.tb.at_.names.block rfl) hg8);clear hrun ho8 hg8
        first
         | go_region
         | fail "r13"
        all_goals
         go_wp2_with fail
         go_meet
         exact⟨rfl,_,HH.out,ST8.out,F8.out⟩
       ·have LK:∀ m,(Instr.lookup 61 (.map (some bn)) (.string ⟨loc.toArray⟩) false).run Tryz.prog (w4.drewN m)=.ok (.bool false) (w4.drewN m):=fun m=>by
         have:=(show Zh elBo (w4.drewN m) bn N (Jb t.names) from ST4.out.tb.at_.names.block rfl).look Tryz.underlying61 zeroBo loc HSZ.out.1
         rw [look_set,if_neg hmp] at this;exact this
        have HNN:=hid (show ¬ ((⟨loc,false,its⟩:Dc).supp=true∨loc∈t.names) by rintro(h | h);exact absurd h (by simp);exact hmp h);have HMP:=hid (show Zj (Jb t.names) loc=none by rw [look_set,if_neg hmp]);clear hmp
        by_cases hful:t.names.length=512
        ·have hfl:((t.names.length:Int)==512)=true:=by rw [beq_iff_eq];omega
         have HH:=hid (head_full (t:=t) (d:=⟨loc,false,its⟩) NB.out HNN.out hful);clear hful;go_wp2_with fail
         first
          | go_quiet (fail)
          | fail "q10c"
         go_wp2_with fail;refine tnew_ret (V:=P3 (w4.drewN nq) w.heap.size _ _ _) (Pb:=w.heap.size) (e:=3) (f:=n) (a:=0) (P3_row (W:=w4.drewN nq) _ _ _ ST4.out.f) rfl rfl rfl (tnew_bad (e:=3) (HRUN2.out.trans (by rw [HH.out];rfl)) (by decide) (P3_below _ _ _ (below_drewN ST4.out.bel nq) (Nat.le_refl _)))
        ·have hfl:((t.names.length:Int)==512)=false:=by rw [beq_eq_false_iff_ne];omega
         have HH:=hid (head_more (t:=t) (d:=⟨loc,false,its⟩) NB.out HNN.out hful);clear hful;go_wp2_with fail
         first
          | go_quiet (fail)
          | fail "q10d"
         go_wp2_with fail;have HB7:=hid (show Below w4.heap.size w4 (w4.drewN nq) from below_drewN (Below.refl _ _) nq);clear LK LN z0 z1 z2 zl zf0 zf1 zf2 t0 t1 t2 t3 tl d0 d1 d2 dl;generalize w4.drewN nq=w7 at *;have F7:=hid (bk HB7.out F4.out);have ST7:=hid (ST4.out.below HB7.out)
         obtain⟨d0,d1,d2,dl⟩:=Qj F7.out
         obtain⟨t0,t1,t2,t3,tl⟩:=ST7.out.tb.box
         obtain⟨w8,hrun,ho8,hg8⟩:=(show Zh elBo w7.drew bn N (Jb t.names) from ST7.out.tb.at_.names.block rfl).say (by have:=HCO2.out;omega) Tryz.underlying61 loc true HSZ.out.1 HMP.out
         have hrun2:(Instr.mapUpdate 61 (.map (some bn)) (.string ⟨loc.toArray⟩) (.bool true)).run Tryz.prog w7.drew=.ok () w8:=hrun;have ST8:=hid ((show NwSt w w7.drew Bt bv ba bn bp N V t from ST7.out.below (Below.refl _ _).drew).turned (t':={ t with names:=t.names++[loc] }) (N':=N+1) (V':=V) (W':=w8) ⟨(show TbAt w7.drew Bt bv ba bn bp N V t from(ST7.out.tb.below (Below.refl _ _).drew).at_).addName (by rw [Jb,List.map_append];exact ho8) hg8,ST7.out.tb.lo,ST7.out.tb.each⟩ (by have:=head_tb ST7.out.ok ⟨loc,false,its⟩;rw [HH.out] at this;exact this) ((Below.refl _ _).grown hg8 (show w.heap.size.succ≤w7.heap.size from ST7.out.size) (fun k hk=>by cases hk;exact ST7.out.tb.lo.2.2.2.1)));have F8:=hid (Kd (show w7.drew.heap[Db]?=_ from F7.out) (show Zh elBo w7.drew bn N (Jb t.names) from ST7.out.tb.at_.names.block rfl) hg8);clear hrun ho8 hg8
         first
          | go_region
          | fail "r13"
         all_goals
          go_wp2_with fail
          go_meet
          exact⟨rfl,_,HH.out,ST8.out,F8.out⟩
    case rest =>
     obtain⟨rfl,t1,hh,st5,f5⟩:=hcut
     rename World=>w5
     have ST5:=hid st5;have F5:=hid f5;have HRUN3:=hid (HRUN2.out.trans (show _=fromI n (l.drop (n+1)) (itemsF loc n t1 its) by rw [hh];rfl));clear hh st5 f5 ST4 F4 HRUN2 d0 d1 d2 dl HNM HN
     obtain⟨d0,d1,d2,dl⟩:=Qj F5.out
     obtain⟨_,hkc,hk63,hic⟩:=RdI.cells HITS.out
     have HIC:=hid hic;clear hic HITS;go_wp2_with fail
     go_loopg [91] its.length (fun g vi W=>∃ (m N':Nat) (V':List (Str×Nat)) (t':Tb),m≤its.length∧its.length≤m+g∧vi=.int .i64 m∧NwSt w W Bt bv ba bn bp N' V' t'∧W.heap[Db]?=some (.cells #[.string ⟨loc.toArray⟩,.bool supp,.slice a its.length c] 53 (0,0))∧itemsF loc n t1 its=itemsF loc n t' (its.drop m)∧N'+(4 * (its.length - m)+costD (l.drop (n+1)))+8<maxLen)
     case atStart=>exact⟨0,N+1,V,t1,Nat.zero_le _,by omega,rfl,ST5.out,F5.out,rfl,by have:=HCO2.out;omega⟩
     case round =>
      obtain⟨m,N',V',t',hm,hg,rfl,st,fd,hitr,hcost⟩:=hrel
      rename World=>w6
      have HG2:=hid hg;have ST6:=hid st;have F6:=hid fd;have HIT:=hid hitr;have HCO3:=hid hcost;clear hg st fd hitr hcost ST5 F5 d0 d1 d2 dl
      obtain⟨d0,d1,d2,dl⟩:=Qj F6.out
      by_cases hlt2:m<its.length
      ·have hmi:(m:Int)<(its.length:Int):=by omega
       have hm0:(0:Int)≤(m:Int):=by omega
       obtain⟨p2,o2,rfl,hp2,q0,q1,q2,q3,q4⟩:=HIC.out m hlt2
       have r0:=(ST6.out.bel.cell (p:=⟨p2,o2+m * 5,none⟩) hp2).trans q0;have r1:=(ST6.out.bel.cell (p:=⟨p2,o2+m * 5+1,none⟩) hp2).trans q1;have r2:=(ST6.out.bel.cell (p:=⟨p2,o2+m * 5+2,none⟩) hp2).trans q2;have r3:=(ST6.out.bel.cell (p:=⟨p2,o2+m * 5+3,none⟩) hp2).trans q3;have r4:=(ST6.out.bel.cell (p:=⟨p2,o2+m * 5+4,none⟩) hp2).trans q4;have hp3:p2<w6.heap.size:=Nat.lt_of_lt_of_le hp2 ST6.out.bel.size;have HPL:=hid (HSZ.out.2 _ (List.getElem_mem hlt2));have HNX:=hid (fun t'' (h:itemF t' loc n (its[m]'hlt2)=(0,t''))=>HIT.out.trans (items_next hlt2 h));have HSP:=hid (fun e t'' (h:itemF t' loc n (its[m]'hlt2)=(e,t'')) (he:e≠0)=>HIT.out.trans (items_stop hlt2 h he));clear q0 q1 q2 q3 q4 HIT HIC;generalize its[m]'hlt2=x at *
       obtain⟨xp,xv,xal,xd,xa⟩:=x
       simp only at r0 r1 r2 r3 r4;go_upto_region 17 with fail;have HB7:=hid (bal w6 (.cells #[.string ⟨xp.toArray⟩,.string ⟨xv.toArray⟩,.bool xal,.string ⟨xd.toArray⟩,.int .i64 xa] 55));have I7:=hid (heap_alloc_new w6 (.cells #[.string ⟨xp.toArray⟩,.string ⟨xv.toArray⟩,.bool xal,.string ⟨xd.toArray⟩,.int .i64 xa] 55));generalize w6.alloc (.cells #[.string ⟨xp.toArray⟩,.string ⟨xv.toArray⟩,.bool xal,.string ⟨xd.toArray⟩,.int .i64 xa] 55)=w7 at *;have ST7:=hid (ST6.out.below HB7.out);have F7:=hid (bk HB7.out F6.out);clear r0 r1 r2 r3 r4 hp3 ST6 F6 HB7 d0 d1 d2 dl
       obtain⟨d0,d1,d2,dl⟩:=Qj F7.out
       obtain⟨c0,c1,c2,c3,c4,cl⟩:=Zf I7.out
       generalize w6.heap.size=Ib at *;go_wp2_with fail
       refine(item_any w.heap.size.succ w7 loc n ⟨xp,xv,xal,xd,xa⟩ ST7.out.tb ST7.out.ok ST7.out.size (by have:=HCO3.out;omega) HSZ.out.1 HPL.out).mono ?_
       rintro e w8 ⟨rfl,hk,htb⟩;have hok:=item_ok ST7.out.ok loc n ⟨xp,xv,xal,xd,xa⟩
       obtain⟨it,hit⟩:∃ it,it=itemF t' loc n ⟨xp,xv,xal,xd,xa⟩:=⟨_,rfl⟩
       rw [← hit] at htb hok ⊢
       obtain⟨er,t''⟩:=it
       simp only at htb hok ⊢;have HTB:=hid htb;have HOK:=hid hok;have HIT2:=hid hit.symm;have F8:=hid (hk.cells _ _ _ _ F7.out);have I8:=hid (hk.cells _ _ _ _ I7.out);have W8:=hid (hk.cells _ _ _ _ ST7.out.f);have B8:=hid (ST7.out.bel.trans (hk.bel.mono (Nat.le_succ _)));have HK8:=hid hk.bel;clear htb hok hit hk d0 d1 d2 dl c0 c1 c2 c3 c4 cl
       by_cases her:er=0
       ·subst her
        obtain⟨V'',tb⟩:=HTB.out rfl
        have ST8:=hid (ST7.out.turned tb HOK.out HK8.out);have HN2:=hid (HNX.out t'' HIT2.out);clear tb HTB HNX HSP;go_wp2_with fail
        go_roundg (gk - 1)
        case measure=>have:=HG2.out;omega
        case rel=>exact⟨m+1,N'+4,V'',t'',by omega,by have:=HG2.out;omega,by simp,ST8.out,F8.out,HN2.out,by have:=HCO3.out;omega⟩
       ·have hne:((er:Int) != 0)=true:=by rw [bne_iff_ne];omega
        have HS2:=hid (HSP.out er t'' HIT2.out her);have HRES:=hid (show Kc l=(⟨er,n,xa⟩,t'') by rw [HRUN3.out,HS2.out];rfl);have HER:=hid her
        obtain⟨c0,c1,c2,c3,c4,cl⟩:=Zf I8.out
        obtain⟨z0,z1,z2,zl⟩:=Qj W8.out
        obtain⟨zf0,zf1,zf2⟩:=Zl W8.out
        clear her HTB HNX HSP HS2 HIT2 HOK HK8 F8 I8 ST7 F7 I7;go_wp2_with fail
        first
         | go_region
         | fail "r19"
        all_goals
         go_wp2_with fail;refine tnew_ret (V:=P3 w8.drew w.heap.size _ _ _) (Pb:=w.heap.size) (e:=er) (f:=n) (a:=xa) (P3_row (W:=w8.drew) _ _ _ W8.out) rfl rfl rfl (tnew_bad (e:=er) HRES.out HER.out (P3_below _ _ _ B8.out.drew (Nat.le_refl _)))
      ·have hml:m=its.length:=by omega
       have HR4:=hid (show Kc l=docsF (n+1) t' (l.drop (n+1)) by rw [HRUN3.out,HIT.out,hml,List.drop_length];rfl);clear d0 d1 d2 dl;go_wp2_with fail
       go_roundg (go - 1)
       case measure=>have:=HG.out;have:=HGO.out;omega
       case rel=>exact⟨n+1,N',V',t',by omega,by have:=HG.out;omega,by simp,ST6.out,HR4.out,by have:=HCO3.out;omega⟩
  ·have hnl:n=l.length:=by omega
   have HRES:=hid (show Kc l=(Wrg.ok,t) by rw [HRUN.out,hnl,List.drop_length];rfl)
   obtain⟨z0,z1,z2,zl,zf0,zf1,zf2⟩:=ST2.out.wrong
   clear HRUN HCO HCELL;go_wp2_with fail;exact tnew_ret (Pb:=w.heap.size) (v:=.pointer (some ⟨Bt,0,none⟩)) (e:=0) (f:=0) (a:=0) (P3_row _ _ _ ST2.out.f) rfl rfl rfl (tnew_good HRES.out ST2.out)
end
section
open Go.RowKit Go.Lib Go.Sort Go.Maps Go.WideMaps Go.Shelf
theorem sortsA (m : Nat) : AnyZ.SortsIn Tryz.prog Tryz.sortedA_ren Fence.wide m :=
  ⟨fun blk off cap ss W hH hblk hsz => callsIn_wide.2 (AnyM.slices_Sort_string Tryz.sortA blk off cap ss W hH hblk hsz),
   fun p cap W => callsIn_wide.2 (AnyM.slices_Sort_string_none Tryz.sortA p cap W)⟩
def srtT (l:List Str):List Str:=l.mergeSort (fun x y=>decide (x≤y))
theorem srtT_perm (l:List Str):(srtT l).Perm l:=List.mergeSort_perm _ _
theorem srtT_of_perm {l m:List Str}(h:l.Perm m):srtT l=srtT m:=mergeSort_of_perm h
theorem keysFN (mb:Option Nat)(W:World):Calls Tryz.prog 43 #[.map mb] W fun e w'=>e=.returned (.func (.func 81) #[] #[.pointer (some ⟨W.heap.size,0,none⟩)])∧w'=W.alloc (.cells #[.map mb] 61):=by
 have h:=AnyZ.keys_in Tryz.keysA Fence.wide 5 trivial rfl mb W
 exact(callsIn_wide (n:=5)).1 h
theorem sortedN {w:World}{b n:Nat}{L:List (Str×Bool)}(h:Zh elBo w b n L)(hn:(L.map (·.1)).Nodup)(hsz:L.length≤1000000) :
  Calls Tryz.prog 42 #[.func (.func 81) #[] #[.pointer (some ⟨w.heap.size,0,none⟩)]] (w.alloc (.cells #[.map (some b)] 61)) fun e w' =>
   ∃ v,e=.returned v∧Qg w' (w.heap.size+1) v (srtT (L.map (·.1)))∧Below (w.heap.size+1) (w.alloc (.cells #[.map (some b)] 61)) w':=by
 obtain⟨m,hown,hat⟩:=h
 have hp:=Zh.keys hown hat hn;have hlen:Maps.size m=L.length:=by
  obtain⟨es,rfl,_⟩:=hown.keysOf
  have:=hp.length_eq
  simp [strKeys] at this
  simp [Maps.size,this]
 have hbl:=hown.lt;have hseq:SeqGives Fence.wide 2 Tryz.prog 81 #[.pointer (some ⟨w.heap.size,0,none⟩)] encStr (fun ss=>ss.Perm (strKeys m)) (Maps.size m) (w.alloc (.cells #[.map (some b)] 61)) :=
  AnyZ.keys_gives (ρ:=Tryz.keysA_ren) { Tryz.keysA with } Fence.wide _ trivial rfl (by omega) w.heap.size b n m _ (by simp) (by simp) (by
   obtain⟨es,clock,hb,Ft,hs,hD⟩:=hown
   exact⟨es,clock,(Below.heap_alloc _ _ b hbl).trans hb,Ft,hs,hD⟩)
 have cS:=AnyZ.sorted_in Tryz.sortedA Fence.wide 5 trivial trivial trivial trivial rfl (by omega) (sortsA _) (enters_of Tryz.func80 (by kernel_rfl) rfl) 81 #[.pointer (some ⟨w.heap.size,0,none⟩)] trivial (enters_of Tryz.func81 (by kernel_rfl) rfl) _ _ (by rw [hlen];unfold maxLen;omega) (by rw [hlen];omega) _ hseq;change CallsIn _ _ Tryz.prog 42 _ _ _ at cS;have hs:(w.alloc (.cells #[.map (some b)] 61)).heap.size=w.heap.size+1:=by simp
 refine((callsIn_wide (n:=5)).1 cS).mono ?_
 rintro e w' ⟨v,ss,rfl,hS,hrow,hnil,hb⟩;rw [hs] at hrow hb
 refine⟨v,rfl,?_,hb⟩
 have hsrt:ss.mergeSort (fun x y=>decide (x≤y))=srtT (L.map (·.1)):=mergeSort_of_perm (hS.trans hp.symm);rw [hsrt] at hrow;have hl2:ss.length=(srtT (L.map (·.1))).length:=by unfold srtT;rw [List.length_mergeSort];exact(hS.trans hp.symm).length_eq
 exact Xn hrow hl2.symm rfl
theorem keysFV (mb:Option Nat)(W:World):Calls Tryz.prog 44 #[.map mb] W fun e w'=>e=.returned (.func (.func 82) #[] #[.pointer (some ⟨W.heap.size,0,none⟩)])∧w'=W.alloc (.cells #[.map mb] 91):=by
 have h:=AnyZ.keys_in Tryz.keysB Fence.wide 5 trivial rfl mb W
 exact(callsIn_wide (n:=5)).1 h
theorem sortedV {w:World}{b n:Nat}{L:List (Str×(Str×Int×Int))}(h:Zh elSd w b n L)(hn:(L.map (·.1)).Nodup)(hsz:L.length≤1000000) :
  Calls Tryz.prog 42 #[.func (.func 82) #[] #[.pointer (some ⟨w.heap.size,0,none⟩)]] (w.alloc (.cells #[.map (some b)] 91)) fun e w' =>
   ∃ v,e=.returned v∧Qg w' (w.heap.size+1) v (srtT (L.map (·.1)))∧Below (w.heap.size+1) (w.alloc (.cells #[.map (some b)] 91)) w':=by
 obtain⟨m,hown,hat⟩:=h
 have hp:=Zh.keys hown hat hn;have hlen:Maps.size m=L.length:=by
  obtain⟨es,rfl,_⟩:=hown.keysOf
  have:=hp.length_eq
  simp [strKeys] at this
  simp [Maps.size,this]
 have hbl:=hown.lt;have hseq:SeqGives Fence.wide 2 Tryz.prog 82 #[.pointer (some ⟨w.heap.size,0,none⟩)] encStr (fun ss=>ss.Perm (strKeys m)) (Maps.size m) (w.alloc (.cells #[.map (some b)] 91)) :=
  AnyZ.keys_gives (ρ:=Tryz.keysB_ren) { Tryz.keysB with } Fence.wide _ trivial rfl (by omega) w.heap.size b n m _ (by simp) (by simp) (by
   obtain⟨es,clock,hb,Ft,hs,hD⟩:=hown
   exact⟨es,clock,(Below.heap_alloc _ _ b hbl).trans hb,Ft,hs,hD⟩)
 have cS:=AnyZ.sorted_in Tryz.sortedA Fence.wide 5 trivial trivial trivial trivial rfl (by omega) (sortsA _) (enters_of Tryz.func80 (by kernel_rfl) rfl) 82 #[.pointer (some ⟨w.heap.size,0,none⟩)] trivial (enters_of Tryz.func82 (by kernel_rfl) rfl) _ _ (by rw [hlen];unfold maxLen;omega) (by rw [hlen];omega) _ hseq;change CallsIn _ _ Tryz.prog 42 _ _ _ at cS;have hs:(w.alloc (.cells #[.map (some b)] 91)).heap.size=w.heap.size+1:=by simp
 refine((callsIn_wide (n:=5)).1 cS).mono ?_
 rintro e w' ⟨v,ss,rfl,hS,hrow,hnil,hb⟩;rw [hs] at hrow hb
 refine⟨v,rfl,?_,hb⟩
 have hsrt:ss.mergeSort (fun x y=>decide (x≤y))=srtT (L.map (·.1)):=mergeSort_of_perm (hS.trans hp.symm);rw [hsrt] at hrow;have hl2:ss.length=(srtT (L.map (·.1))).length:=by unfold srtT;rw [List.length_mergeSort];exact(hS.trans hp.symm).length_eq
 exact Xn hrow hl2.symm rfl
theorem sortedV_nil {w:World} :
  Calls Tryz.prog 42 #[.func (.func 82) #[] #[.pointer (some ⟨w.heap.size,0,none⟩)]] (w.alloc (.cells #[.map none] 91)) fun e w' =>
   ∃ v,e=.returned v∧Qg w' (w.heap.size+1) v []∧Below (w.heap.size+1) (w.alloc (.cells #[.map none] 91)) w':=by
 have hseq:SeqGives Fence.wide 2 Tryz.prog 82 #[.pointer (some ⟨w.heap.size,0,none⟩)] encStr (fun ss:List (List UInt8)=>ss=[]) 0 (w.alloc (.cells #[.map none] 91)) :=
  AnyZ.keys_gives_nil (ρ:=Tryz.keysB_ren) { Tryz.keysB with } Fence.wide _ trivial rfl w.heap.size _ (by simp) (cells_new w #[.map none] 91 0 (.map none) rfl)
 have cS:=AnyZ.sorted_in Tryz.sortedA Fence.wide 5 trivial trivial trivial trivial rfl (by omega) (sortsA _) (enters_of Tryz.func80 (by kernel_rfl) rfl) 82 #[.pointer (some ⟨w.heap.size,0,none⟩)] trivial (enters_of Tryz.func82 (by kernel_rfl) rfl) _ _ (by unfold maxLen;omega) (by omega) _ hseq;change CallsIn _ _ Tryz.prog 42 _ _ _ at cS;have hs:(w.alloc (.cells #[.map none] 91)).heap.size=w.heap.size+1:=by simp
 refine((callsIn_wide (n:=5)).1 cS).mono ?_
 rintro e w' ⟨v,ss,rfl,rfl,hrow,hnil,hb⟩;rw [hs] at hrow hb
 exact⟨v,rfl,Xn hrow rfl (by simp),hb⟩
end
section
open Go.RowKit Go.Lib Go.Sort Go.Maps Go.WideMaps
def rText (r:Option Rw):Str:=(r.map (·.text)).getD []
def rFile (r:Option Rw):Int:=(r.map fun r=>(r.file:Int)).getD 0
def rAt (r:Option Rw):Int:=(r.map (·.at')).getD 0
theorem look_nilMap (k:Str)(hk:k.length≤maxLen)(W:World):(Instr.lookup 91 (.map none) (.string ⟨k.toArray⟩) true).run Tryz.prog W=.ok (.tuple #[.agg #[.string ⟨#[]⟩,.int .i64 0,.int .i64 0],.bool false]) W:=by
 simpa using Maps.look_nil (w:=W) true lawS Tryz.underlying91 (show(zeroValue 96).run Tryz.prog W=.ok (.agg #[.string ⟨#[]⟩,.int .i64 0,.int .i64 0]) W by kernel_rfl) (key_ofS hk)
def rVal (r:Option Rw):Value:=.agg #[.string ⟨(rText r).toArray⟩,.int .i64 (rFile r),.int .i64 (rAt r)]
theorem rVal_sd (l:Option Rw):elSd.v ((l.map sdOf).getD ([],0,0))=rVal l:=by cases l <;> rfl
theorem find_ret {V:World}{Pb:Nat}{a b c:Value}{q:Bool}(hr:V.heap[Pb]?=some (.cells #[a,b,c] 96 (0,0))){Q:Ending→World→Prop}{act:Act}(hd:act.defers=[])
  (h6:act.tmps.getD 6 undef=.pointer (some ⟨Pb,0,none⟩))(h7:act.tmps.getD 7 undef=.bool q)(hQ:Q (.returned (.tuple #[.agg #[a,b,c],.bool q])) V) :
  bodyPost Tryz.prog Tryz.f45 Q Exit.ret act V:=by
 obtain⟨e0,e1,e2,_⟩:=Qj hr
 refine bodyPost_ret (v:=.tuple #[.agg #[a,b,c],.bool q]) ?_ hd hQ
 obtain⟨tmps,defers⟩:=act
 simp only [Array.getD_eq_getD_getElem?] at h6 h7
 simp [results,Tryz.results45,go_sem,h6,h7,e0,e1,e2]
section
variable {w : World} {B0 Bt bv ba bn bp N : Nat} {V : List (Str × Nat)} {t : Tb}
theorem find_any (h:TbIn B0 w Bt bv ba bn bp N V t)(loc path:Str)(hl:loc.length≤maxLen)(hp:path.length≤maxLen) :
  Calls Tryz.prog 45 #[.pointer (some ⟨Bt,0,none⟩),.string ⟨loc.toArray⟩,.string ⟨path.toArray⟩] w fun e w'=>e=.returned (.tuple #[rVal (Qy t.rows loc path),.bool (Qy t.rows loc path).isSome])∧Below w.heap.size w w':=by
 have HB1:=hid (bal w (.cells #[.string ⟨#[]⟩,.int .i64 0,.int .i64 0] 96));have F1:=hid (heap_alloc_new w (.cells #[.string ⟨#[]⟩,.int .i64 0,.int .i64 0] 96));have T1:=hid (h.below HB1.out)
 obtain⟨o,ho⟩:∃ o,o=Zj V loc:=⟨_,rfl⟩
 have HO:=hid ho
 obtain⟨r,hr⟩:∃ r,r=Qy t.rows loc path:=⟨_,rfl⟩
 have hrn:o=none→r=none:=by
  intro e;rw [hr,findR_none];rintro x hx ⟨h1,_⟩
  obtain⟨q,hq,he⟩:=List.mem_map.1 (h.at_.has x hx)
  exact lookE_none.1 (ho.symm.trans e) q hq (he.trans h1)
 have HR:=hid hr;rw [← hr];clear ho hr h
 go_enter Tryz.func45,Tryz.ntmps45
 go_upto_region 1 with fail;generalize w.alloc (.cells #[.string ⟨#[]⟩,.int .i64 0,.int .i64 0] 96)=w1 at *
 obtain⟨t0,t1,t2,t3,tl⟩:=T1.out.box
 cases o with
 | none =>
  obtain rfl:=hrn rfl;have LN:=look_nilMap path hp
  go_upto_region 4 with (at_lookup;refine wpList_lookE1 (E:=elMp) T1.out.at_.vals Tryz.underlying90 zeroMap rfl _ _ rfl rfl loc rfl hl (.map none) (by rw [look_mp,← HO.out];rfl) ?_)
  have HB2:=hid (bal w1 (.cells #[.string ⟨#[]⟩,.int .i64 0,.int .i64 0] 96));have F2:=hid (heap_alloc_new w1 (.cells #[.string ⟨#[]⟩,.int .i64 0,.int .i64 0] 96));generalize w1.alloc (.cells #[.string ⟨#[]⟩,.int .i64 0,.int .i64 0] 96)=w2 at *;have G2:=hid (bk HB2.out F1.out)
  obtain⟨x0,x1,x2,xl⟩:=Qj F2.out
  obtain⟨y0,y1,y2,yl⟩:=Qj G2.out
  obtain⟨z0,z1,z2⟩:=Zl G2.out
  go_wp2_with fail;exact find_ret (Pb:=w.heap.size) (q:=false) (P3_row _ _ _ G2.out) rfl rfl rfl ⟨rfl,P3_below _ _ _ (HB1.out.then HB2.out) (Nat.le_refl _)⟩
 | some bm =>
  have OM:=hid (T1.out.at_.each _ (lookE_in HO.out.symm));have LKM:=hid (show Zj (sdL (Kl t loc)) path=r.map sdOf by rw [look_rows,HR.out])
  obtain⟨rt,hrt⟩:∃ x,x=rText r:=⟨_,rfl⟩
  obtain⟨rf,hrf⟩:∃ x,x=rFile r:=⟨_,rfl⟩
  obtain⟨ra,hra⟩:∃ x,x=rAt r:=⟨_,rfl⟩
  have HV:=hid (show rVal r=.agg #[.string ⟨rt.toArray⟩,.int .i64 rf,.int .i64 ra] by rw [hrt,hrf,hra];rfl)
  obtain⟨q,hq⟩:∃ q,q=r.isSome:=⟨_,rfl⟩
  have HQ:=hid hq;clear hrt hrf hra hq
  go_upto_region 4 with first
   | (at_lookup;refine wpList_lookE1 (E:=elMp) T1.out.at_.vals Tryz.underlying90 zeroMap rfl _ _ rfl rfl loc rfl hl (.map (some bm)) (by rw [look_mp,← HO.out];rfl) ?_)
   | (at_lookup;refine wpList_lookE (E:=elSd) OM.out Tryz.underlying91 zeroSd rfl _ _ rfl rfl path rfl hp (.agg #[.string ⟨rt.toArray⟩,.int .i64 rf,.int .i64 ra]) q (by rw [LKM.out,rVal_sd,HV.out]) (by rw [LKM.out,Option.isSome_map,HQ.out]) ?_)
  have HB2:=hid (bal w1 (.cells #[.string ⟨rt.toArray⟩,.int .i64 rf,.int .i64 ra] 96));have F2:=hid (heap_alloc_new w1 (.cells #[.string ⟨rt.toArray⟩,.int .i64 rf,.int .i64 ra] 96));generalize w1.alloc (.cells #[.string ⟨rt.toArray⟩,.int .i64 rf,.int .i64 ra] 96)=w2 at *;have G2:=hid (bk HB2.out F1.out)
  obtain⟨x0,x1,x2,xl⟩:=Qj F2.out
  obtain⟨y0,y1,y2,yl⟩:=Qj G2.out
  obtain⟨z0,z1,z2⟩:=Zl G2.out
  go_wp2_with fail;exact find_ret (Pb:=w.heap.size) (q:=q) (P3_row _ _ _ G2.out) rfl rfl rfl ⟨by rw [HV.out,HQ.out],P3_below _ _ _ (HB1.out.then HB2.out) (Nat.le_refl _)⟩
end
section
variable {w : World} {pt : Option Addr} {loc path : Str} {r : Option Rw}
theorem get_of (h:Calls Tryz.prog 45 #[.pointer pt,.string ⟨loc.toArray⟩,.string ⟨path.toArray⟩] w fun e w'=>e=.returned (.tuple #[rVal r,.bool r.isSome])∧Below w.heap.size w w') :
  Calls Tryz.prog 19 #[.pointer pt,.string ⟨loc.toArray⟩,.string ⟨path.toArray⟩] w fun e w'=>e=.returned (.tuple #[.string ⟨(rText r).toArray⟩,.bool r.isSome])∧Below w.heap.size w w':=by
 simp only [rVal] at h;have H:=hid h;clear h;generalize rText r=rt at *;generalize rFile r=rf at *;generalize rAt r=ra at *;generalize r.isSome=q at *
 go_enter Tryz.func19,Tryz.ntmps19
 go_wp2_with fail;refine H.out.mono ?_;rintro e w1 ⟨rfl,hb⟩;have HB:=hid hb;clear hb;go_upto_region 2 with fail;have HB2:=hid (bal w1 (.cells #[.string ⟨rt.toArray⟩,.int .i64 rf,.int .i64 ra] 96));have F2:=hid (heap_alloc_new w1 (.cells #[.string ⟨rt.toArray⟩,.int .i64 rf,.int .i64 ra] 96));generalize w1.alloc (.cells #[.string ⟨rt.toArray⟩,.int .i64 rf,.int .i64 ra] 96)=w2 at *
 obtain⟨x0,x1,x2,xl⟩:=Qj F2.out
 go_wp2_with fail;exact bodyPost_ret (v:=.tuple #[.string ⟨rt.toArray⟩,.bool q]) (by simp [results,Tryz.results19,go_sem]) rfl ⟨rfl,HB.out.then HB2.out⟩
theorem where_of (h:Calls Tryz.prog 45 #[.pointer pt,.string ⟨loc.toArray⟩,.string ⟨path.toArray⟩] w fun e w'=>e=.returned (.tuple #[rVal r,.bool r.isSome])∧Below w.heap.size w w') :
  Calls Tryz.prog 29 #[.pointer pt,.string ⟨loc.toArray⟩,.string ⟨path.toArray⟩] w fun e w'=>e=.returned (.tuple #[.int .i64 (rFile r),.int .i64 (rAt r),.bool r.isSome])∧Below w.heap.size w w':=by
 simp only [rVal] at h;have H:=hid h;clear h;generalize rText r=rt at *;generalize rFile r=rf at *;generalize rAt r=ra at *;generalize r.isSome=q at *
 go_enter Tryz.func29,Tryz.ntmps29
 go_wp2_with fail;refine H.out.mono ?_;rintro e w1 ⟨rfl,hb⟩;have HB:=hid hb;clear hb;go_upto_region 2 with fail;have HB2:=hid (bal w1 (.cells #[.string ⟨rt.toArray⟩,.int .i64 rf,.int .i64 ra] 96));have F2:=hid (heap_alloc_new w1 (.cells #[.string ⟨rt.toArray⟩,.int .i64 rf,.int .i64 ra] 96));generalize w1.alloc (.cells #[.string ⟨rt.toArray⟩,.int .i64 rf,.int .i64 ra] 96)=w2 at *
 obtain⟨x0,x1,x2,xl⟩:=Qj F2.out
 go_quiet (fail)
 go_wp2_with fail;exact bodyPost_ret (v:=.tuple #[.int .i64 rf,.int .i64 ra,.bool q]) (by simp [results,Tryz.results29,go_sem]) rfl ⟨rfl,below_drewN (HB.out.then HB2.out) _⟩
end
section
variable {w : World} {B0 Bt bv ba bn bp N : Nat} {V : List (Str × Nat)} {t : Tb}
theorem get_any (h:TbIn B0 w Bt bv ba bn bp N V t)(loc path:Str)(hl:loc.length≤maxLen)(hp:path.length≤maxLen) :
  Calls Tryz.prog 19 #[.pointer (some ⟨Bt,0,none⟩),.string ⟨loc.toArray⟩,.string ⟨path.toArray⟩] w fun e w'=>e=.returned (.tuple #[.string ⟨(rText (Qy t.rows loc path)).toArray⟩,.bool (Qy t.rows loc path).isSome])∧Below w.heap.size w w':=get_of (find_any h loc path hl hp)
theorem where_any (h:TbIn B0 w Bt bv ba bn bp N V t)(loc path:Str)(hl:loc.length≤maxLen)(hp:path.length≤maxLen) :
  Calls Tryz.prog 29 #[.pointer (some ⟨Bt,0,none⟩),.string ⟨loc.toArray⟩,.string ⟨path.toArray⟩] w fun e w'=>e=.returned (.tuple #[.int .i64 (rFile (Qy t.rows loc path)),.int .i64 (rAt (Qy t.rows loc path)),.bool (Qy t.rows loc path).isSome])∧Below w.heap.size w w':=where_of (find_any h loc path hl hp)
theorem alias_any (h:TbIn B0 w Bt bv ba bn bp N V t)(g:Str)(hg:g.length≤maxLen) :
  Calls Tryz.prog 67 #[.pointer (some ⟨Bt,0,none⟩),.string ⟨g.toArray⟩] w fun e w'=>e=.returned (.tuple #[.int .i64 (rFile (Qy t.als Qv g)),.int .i64 (rAt (Qy t.als Qv g)),.bool (Qy t.als Qv g).isSome])∧Below w.heap.size w w':=by
 have T:=hid h;have LKA:=hid (look_als h.at_.root g);clear h;generalize Qy t.als Qv g=r at *
 obtain⟨rt,hrt⟩:∃ x,x=rText r:=⟨_,rfl⟩
 obtain⟨rf,hrf⟩:∃ x,x=rFile r:=⟨_,rfl⟩
 obtain⟨ra,hra⟩:∃ x,x=rAt r:=⟨_,rfl⟩
 have HV:=hid (show rVal r=.agg #[.string ⟨rt.toArray⟩,.int .i64 rf,.int .i64 ra] by rw [hrt,hrf,hra];rfl);rw [← hrf,← hra]
 obtain⟨q,hq⟩:∃ q,q=r.isSome:=⟨_,rfl⟩
 have HQ:=hid hq;rw [← hq];clear hrt hrf hra hq
 obtain⟨t0,t1,t2,t3,tl⟩:=T.out.box
 go_enter Tryz.func67,Tryz.ntmps67
 go_upto_region 4 with (at_lookup;refine wpList_lookE (E:=elSd) T.out.at_.als Tryz.underlying91 zeroSd rfl _ _ rfl rfl g rfl hg (.agg #[.string ⟨rt.toArray⟩,.int .i64 rf,.int .i64 ra]) q (by rw [LKA.out,rVal_sd,HV.out]) (by rw [LKA.out,Option.isSome_map,HQ.out]) ?_)
 have HB2:=hid (bal w (.cells #[.string ⟨rt.toArray⟩,.int .i64 rf,.int .i64 ra] 96));have F2:=hid (heap_alloc_new w (.cells #[.string ⟨rt.toArray⟩,.int .i64 rf,.int .i64 ra] 96));generalize w.alloc (.cells #[.string ⟨rt.toArray⟩,.int .i64 rf,.int .i64 ra] 96)=w2 at *
 obtain⟨x0,x1,x2,xl⟩:=Qj F2.out
 go_quiet (fail)
 go_wp2_with fail;exact bodyPost_ret (v:=.tuple #[.int .i64 rf,.int .i64 ra,.bool q]) (by simp [results,Tryz.results67,go_sem]) rfl ⟨rfl,below_drewN HB2.out _⟩
end
end
section
open Go.RowKit Go.Lib Go.Sort Go.Maps Go.WideMaps
theorem row_mono {W:World}{B C n k:Nat}{e:TypeId}{v:Value}{xs:List Value}(h:W.ownsRow B e k v n xs)(hc:C≤B):W.ownsRow C e k v n xs:=by
 unfold World.ownsRow at *
 refine⟨h.1,?_⟩
 rcases h.2 with h | ⟨g,cap,cur,h1,h2,h3⟩
 ·exact Or.inl h
 ·exact Or.inr ⟨g,cap,cur,h1,Nat.le_trans hc h2,h3⟩
theorem sdL_keys (l:List Rw):(sdL l).map (·.1)=l.map (·.path):=by unfold sdL;rw [List.map_map];rfl
def Qn (t:Tb)(loc:Str):List Str:=srtT ((Kl t loc).map (·.path))
theorem rows_nodup {t:Tb}(ok:Jq t)(loc:Str):((Kl t loc).map (·.path)).Nodup:=by
 have h:=ok.rows;rw [List.Nodup,List.pairwise_map] at h;rw [List.Nodup,List.pairwise_map,Kl]
 refine(List.Pairwise.filter _ h).imp_of_mem fun {a b} ha hb hne e=>hne ?_
 have h1:=(List.mem_filter.1 ha).2;have h2:=(List.mem_filter.1 hb).2;simp only [beq_iff_eq] at h1 h2;rw [h1,h2,e]
theorem rows_le {t:Tb}(ok:Jq t)(loc:Str):(Kl t loc).length≤16384:=by
 have:=nodup_le ((Kl t loc).map (·.path)) t.paths (rows_nodup ok loc) (fun x hx=>by
  obtain⟨r,hr,rfl⟩:=List.mem_map.1 hx
  exact ok.rp r (List.mem_filter.1 hr).1)
 rw [List.length_map] at this;exact Nat.le_trans this ok.p16
def OutS (w:World)(l:List Str)(e:Ending)(w':World):Prop:=∃ v,e=.returned v∧Qg w' w.heap.size v l∧Below w.heap.size w w'
theorem outS_sorted {w w1 w':World}{l:List Str}{v:Value}(h1:w1.heap.size=w.heap.size+1)(hb1:Below w.heap.size w w1)(ho:Qg w' (w.heap.size+1) v l)(hb:Below (w.heap.size+1) w1 w'):OutS w l (.returned v) w' :=
 ⟨v,rfl,row_mono ho (Nat.le_succ _),hb1.trans (hb.mono (Nat.le_succ _))⟩
section
variable {w : World} {B0 Bt bv ba bn bp N : Nat} {V : List (Str × Nat)} {t : Tb}
theorem locales_any (h:TbIn B0 w Bt bv ba bn bp N V t)(ok:Jq t) :
  Calls Tryz.prog 17 #[.pointer (some ⟨Bt,0,none⟩)] w fun e w'=>OutS w (srtT t.names) e w':=by
 have KC:=hid (keysFN (some bn) w);have SC:=hid (sortedN h.at_.names (by rw [setL_keys];exact ok.names) (by unfold Jb;rw [List.length_map];have:=ok.n512;omega));rw [setL_keys] at SC;have HB1:=hid (bal w (.cells #[.map (some bn)] 61));have HZ1:=hid (show(w.alloc (.cells #[.map (some bn)] 61)).heap.size=w.heap.size+1 by simp)
 obtain⟨t0,t1,t2,t3,tl⟩:=h.box
 clear h
 go_enter Tryz.func17,Tryz.ntmps17
 go_wp2_with fail;refine KC.out.mono ?_;rintro e w1 ⟨rfl,rfl⟩;go_wp2_with fail;refine SC.out.mono ?_;rintro e w2 ⟨v,rfl,ho,hb⟩;have HO:=hid (outS_sorted HZ1.out HB1.out ho hb);clear ho hb;go_wp2_with fail;exact bodyPost_ret (v:=v) (by simp [results,Tryz.results17,go_sem]) rfl HO.out
theorem paths_any (h:TbIn B0 w Bt bv ba bn bp N V t)(ok:Jq t)(loc:Str)(hl:loc.length≤maxLen) :
  Calls Tryz.prog 18 #[.pointer (some ⟨Bt,0,none⟩),.string ⟨loc.toArray⟩] w fun e w'=>OutS w (Qn t loc) e w':=by
 obtain⟨t0,t1,t2,t3,tl⟩:=h.box
 have HVAL:=hid h.at_.vals
 cases hlk:Zj V loc with
 | some bm =>
  have KC:=hid (keysFV (some bm) w);have SC:=hid (sortedV (h.at_.each _ (lookE_in hlk)) (by rw [sdL_keys];exact rows_nodup ok loc) (by unfold sdL;rw [List.length_map];have:=rows_le ok loc;simp only;omega));rw [sdL_keys] at SC;change Hid (Calls _ _ _ _ fun e w'=>∃ v,e=Ending.returned v∧Qg w' (w.heap.size+1) v (Qn t loc)∧_) at SC;generalize Qn t loc=ps at *;have HB1:=hid (bal w (.cells #[.map (some bm)] 91));have HZ1:=hid (show(w.alloc (.cells #[.map (some bm)] 91)).heap.size=w.heap.size+1 by simp);have HLK:=hid hlk;clear h hlk
  go_enter Tryz.func18,Tryz.ntmps18
  go_wp2_with (at_lookup;refine wpList_lookE1 (E:=elMp) HVAL.out Tryz.underlying90 zeroMap rfl _ _ rfl rfl loc rfl hl (.map (some bm)) (by rw [look_mp,HLK.out];rfl) ?_)
  refine KC.out.mono ?_;rintro e w1 ⟨rfl,rfl⟩;go_wp2_with fail;refine SC.out.mono ?_;rintro e w2 ⟨v,rfl,ho,hb⟩;have HO:=hid (outS_sorted HZ1.out HB1.out ho hb);clear ho hb;go_wp2_with fail;exact bodyPost_ret (v:=v) (by simp [results,Tryz.results18,go_sem]) rfl HO.out
 | none =>
  have KC:=hid (keysFV none w);have SC:=hid (sortedV_nil (w:=w));have HP:=hid (show Qn t loc=[] by
   unfold Qn;rw [show Kl t loc=[] by
    unfold Kl;rw [List.filter_eq_nil_iff];intro r hr e
    obtain⟨q,hq,he⟩:=List.mem_map.1 (h.at_.has r hr)
    exact lookE_none.1 hlk q hq (he.trans (by simpa using e))]
   simp [srtT])
  generalize Qn t loc=ps at *;have HB1:=hid (bal w (.cells #[.map none] 91));have HZ1:=hid (show(w.alloc (.cells #[.map none] 91)).heap.size=w.heap.size+1 by simp);have HLK:=hid hlk;clear h hlk
  go_enter Tryz.func18,Tryz.ntmps18
  go_wp2_with (at_lookup;refine wpList_lookE1 (E:=elMp) HVAL.out Tryz.underlying90 zeroMap rfl _ _ rfl rfl loc rfl hl (.map none) (by rw [look_mp,HLK.out];rfl) ?_)
  refine KC.out.mono ?_;rintro e w1 ⟨rfl,rfl⟩;go_wp2_with fail;refine SC.out.mono ?_;rintro e w2 ⟨v,rfl,ho,hb⟩;have HO:=hid (outS_sorted HZ1.out HB1.out ho hb);clear ho hb;go_wp2_with fail;exact bodyPost_ret (v:=v) (by simp [results,Tryz.results18,go_sem]) rfl (by rw [HP.out];exact HO.out)
end
end
section
open Go.RowKit Go.Lib Go.Sort Go.Maps Go.WideMaps
theorem RdL.of_row {α:Type}{k:Nat}(E:Enc α k){W:World}{b cp:Nat}{cs:Array Value}{ty:TypeId}{l:List α}(h:W.heap[b]?=some (.cells cs ty (0,0)))(hc:cs.toList=Xr E l)(h1:l.length≤cp)(h2:l.length≤9223372036854775807):RdL E W (.slice (some ⟨b,0,none⟩) l.length cp) l:=by
 refine⟨_,_,rfl,⟨h1,h2,fun e=>by cases e⟩,fun _=>⟨b,0,rfl,lt_of_block h,fun j i x hj hx=>?_⟩⟩
 have hi:i<k:=by have:=(List.getElem?_eq_some_iff.1 hx).1;rwa [E.len] at this
 rw [Nat.zero_add,cell_of_row _ _ _ _ _ _ h,← Array.getElem?_toList,hc,flatL_get E l j i hj hi];exact hx
end
section
open Go.RowKit Go.Lib Go.Sort Go.Maps Go.WideMaps
theorem infoDoc':(Tryz.prog.info? 53).map (fun i=>(i.zero,i.size,i.bytes))=some (some (.agg #[.string ⟨#[]⟩,.bool false,.slice none 0 0]),3,48):=by kernel_rfl
theorem infoItm':(Tryz.prog.info? 55).map (fun i=>(i.zero,i.size,i.bytes))=some (some (.agg #[.string ⟨#[]⟩,.string ⟨#[]⟩,.bool false,.string ⟨#[]⟩,.int .i64 0]),5,64):=by kernel_rfl
def OwnD (w:World)(B:Nat)(v:Value)(l:List Dc):Prop:=∃ zs:List (Dc×(Option Addr×Nat)),zs.map (·.1)=l∧Qf encD 53 w B v zs∧∀ z∈zs,Qf encI 55 w B (.slice z.2.1 z.1.items.length z.2.2) z.1.items
section
variable {w w' : World} {B : Nat} {v : Value} {l : List Dc}
theorem OwnD.rd (h:OwnD w B v l):RdD w v l:=by
 obtain⟨zs,h1,h2,h3⟩:=h
 exact⟨zs,h1,h2.rd,fun z hz=>(h3 z hz).rd⟩
theorem OwnD.below (h:OwnD w B v l)(hb:Below w.heap.size w w'):OwnD w' B v l:=by
 obtain⟨zs,h1,h2,h3⟩:=h
 exact⟨zs,h1,h2.below hb,fun z hz=>(h3 z hz).below hb⟩
theorem OwnD.slice (h:OwnD w B v l):∃ ao cp,v=.slice ao l.length cp∧l.length≤cp:=by
 obtain⟨zs,rfl,h2,h3⟩:=h
 obtain⟨ao,cp,h,hc⟩:=h2.slice
 exact⟨ao,cp,by rw [List.length_map];exact h,by rw [List.length_map];exact hc⟩
end
theorem own_fresh {α:Type}{k:Nat}(E:Enc α k){W:World}{b B:Nat}{cs:Array Value}{ty:TypeId}(l:List α)(h:W.heap[b]?=some (.cells cs ty (0,0)))(hc:cs.toList=Xr E l)(hB:B≤b)(hl:l.length≤maxLen):Qf E ty W B (.slice (some ⟨b,0,none⟩) l.length l.length) l :=
 ⟨flatL_len E l,Or.inr ⟨b,l.length,cs,rfl,hB,h,Nat.le_refl _,hl,by rw [← Array.length_toList,hc,flatL_len],by rw [hc,List.take_of_length_le (by rw [flatL_len];exact Nat.le_refl _)]⟩⟩
theorem RdL.take {α:Type}{k:Nat}{E:Enc α k}{W:World}{a:Option Addr}{n c:Nat}{l:List α}(h:RdL E W (.slice a n c) l)(m:Nat)(hm:m≤l.length):RdL E W (.slice a m c) (l.take m):=by
 obtain⟨ao,cp,e,⟨h1,h2,h3⟩,hc⟩:=h
 cases e;have hl:(l.take m).length=m:=by rw [List.length_take];omega
 refine⟨a,c,by rw [hl],⟨by omega,by omega,fun e=>?_⟩,fun hne=>?_⟩
 ·obtain⟨e1,e2⟩:=h3 e
  exact⟨by rw [e1];simp,e2⟩
 ·obtain⟨b,off,ha,hlt,hx⟩:=hc (by rintro rfl;simp at hne)
  refine⟨b,off,ha,hlt,fun j i x hj hx2=>hx j i x (by rw [hl] at hj;omega) ?_⟩
  rw [List.getElem_take] at hx2;exact hx2
theorem wpList_appL {α:Type}{k:Nat}{E:Enc α k}{ty:TypeId}{w:World}{ops:Array Oper}{rest:List Oper}{o:Oper}{a:Act}{Q:Exit→Act→World→Prop}(hgd:o.guard=none)(s x:Operand){t:TypeId}
  (ho:o.op=.call { callee:=.builtin .append,args:=#[s,x],argTypes:=#[t,t] })
  {z:Value} {bytes:Nat} (ht:Tryz.prog.underlying t=some (.slice ty)) (hinf:(Tryz.prog.info? ty).map (fun i=>(i.zero,i.size,i.bytes))=some (some z,k,bytes)) (hzs:z.cells.size=k) (hk:0<k)
  (B:Nat)(v:Value)(l m:List α)(hs:a.eval s=v)(hown:Qf E ty w B v l){u:Value}(hx:a.eval x=u)(hr:RdL E w u m)(hl:l.length+m.length≤maxLen)(hl2:(l.length+m.length) * bytes≤140737488355328)(hB:B≤w.heap.size)
  (h:∀ v' w',Qf E ty w' B v' (l++m)→w.grownBy w' v.ownBlock→wpList Tryz.prog ops Q rest (a.put o.dst v') w') :
  wpList Tryz.prog ops Q (o::rest) a w:=by
 obtain⟨i0,hi,hz0,hz1,hz2⟩:=info_parts hinf
 obtain⟨ao,cp,rfl,⟨h1,h2,h3⟩,hc⟩:=hr
 cases hao:ao with
 | none =>
  subst hao
  obtain⟨rfl,rfl⟩:=h3 rfl
  refine wpList_append_own_none hgd s x t ho B ty i0 k ht hi v l.length (Xr E l) hs hown hx (h v w (by rw [List.append_nil];exact hown) (World.grownBy.refl _ _))
 | some ad =>
  by_cases hm:m=[]
  ·subst hm;subst hao;refine wpList_app hgd s x t ho B ty i0 z k bytes ht hi hz0 hz1 hz2 hzs hk v l.length (Xr E l) hs hown ad 0 cp [] hx (by simp) (fun j u hu=>by simp at hu) (fun u hu=>by cases hu) (by simpa using hl) (by simpa using hl2) hB ?_;intro v' w' own gr mv;exact h v' w' (by rw [List.append_nil];exact Xn own rfl (by simp)) gr
  ·obtain⟨b,off,ha,hlt,hcell⟩:=hc hm
   rw [hao] at ha
   cases ha;subst hao;refine wpList_app hgd s x t ho B ty i0 z k bytes ht hi hz0 hz1 hz2 hzs hk v l.length (Xr E l) hs hown ⟨b,off,none⟩ m.length cp (Xr E m) hx (flatL_len E m) (fun j u hu=>?_) (fun u hu=>?_) hl hl2 hB ?_
   ·have hj:j<m.length * k:=by have:=(List.getElem?_eq_some_iff.1 hu).1;rwa [flatL_len] at this
    have hq:j / k<m.length:=Nat.div_lt_of_lt_mul (by rw [Nat.mul_comm];exact hj);have hr:=Nat.mod_lt j hk;have he:j=j / k * k+j % k:=by rw [Nat.mul_comm];exact(Nat.div_add_mod j k).symm
    rw [he,flatL_get E m (j / k) (j % k) hq hr] at hu
    have:=hcell (j / k) (j % k) u hq hu
    rw [Nat.add_assoc,← he] at this;have hadd:((⟨b,off,none⟩:Addr).add j)=⟨b,off+j,none⟩:=by
     unfold Addr.add
     split
     ·next e=>subst e;rfl
     ·rfl
    rw [hadd];exact this
   ·obtain⟨y,_,hy⟩:=List.mem_flatMap.1 hu
    exact E.one y u hy
   ·intro v' w' own gr mv;exact h v' w' (Xn own (by simp) (by rw [flatL_append])) gr
end
section
open Go.RowKit Go.Lib
def RdSt (w:World)(v:Value)(l:List Stp):Prop:=∃ zs:List (Stp×(Option Addr×Nat)),zs.map (·.1)=l∧RdL Xf w v zs∧∀ z∈zs,RdP w (Qt z) z.1.2
theorem OwnSt.rd {w:World}{B:Nat}{v:Value}{l:List Stp}(h:OwnSt w B v l):RdSt w v l:=by
 obtain⟨zs,h1,h2,h3,_⟩:=h
 exact⟨zs,h1,h2.rd,fun z hz=>(h3 z hz).rd⟩
theorem RdSt.below {w w':World}{v:Value}{l:List Stp}(h:RdSt w v l)(hb:Below w.heap.size w w'):RdSt w' v l:=by
 obtain⟨zs,h1,h2,h3⟩:=h
 exact⟨zs,h1,h2.below hb,fun z hz=>(h3 z hz).below hb⟩
theorem zeros_own {w:World}{e:TypeId}{k n:Nat}{z:Value}{cap:Nat}(hz:z.cells.size=k)(hn:n≤cap)(hc:cap≤maxLen) :
  (w.drew.alloc (.cells (Builtin.zeroCells z.cells n++Builtin.zeroCells z.cells (cap - n)) e)).ownsRow w.heap.size e k (.slice (some ⟨w.heap.size,0,none⟩) 0 cap) 0 []:=by
 refine⟨by simp,Or.inr ⟨w.heap.size,cap,_,rfl,Nat.le_refl _,heap_alloc_new w.drew _,Nat.zero_le _,hc,?_,by simp⟩⟩
 simp [Builtin.zeroCells,hz]
 rw [← Nat.add_mul]
 congr 1
 omega
theorem grow_any (w:World)(n:Nat)(hn:n≤1000000000) :
  Calls Tryz.prog 159 #[.slice none 0 0,.int .i64 n] w fun e w'=>∃ v,e=.returned v∧Qf Xf 106 w' w.heap.size v []∧Below w.heap.size w w':=by
 obtain⟨i0,hi,hz0,hz1,hz2⟩:=info_parts infoSt
 have hnz:(n:Int)≤1000000000:=by omega
 have hn0:(0:Int)≤(n:Int):=by omega
 by_cases h0:0<n
 ·have hni:(0:Int)<(n:Int):=by omega
  have HR:=hid (fun ty=>Lib.run_append_nil_zeros (P:=Tryz.prog) w 99 3 ty 106 i0 _ .i64 .i64 Tryz.underlying99 Tryz.underlying3 hi hz0 n h0 (by omega) (by omega) (by rw [hz2];omega));have HO:=hid (show(w.drew.alloc (.cells (Builtin.zeroCells (Value.cells (.agg #[.string ⟨#[]⟩,.slice none 0 0])) n++Builtin.zeroCells (Value.cells (.agg #[.string ⟨#[]⟩,.slice none 0 0])) (grownCap w n 0 106 - n)) 106)).ownsRow w.heap.size 106 2 (.slice (some ⟨w.heap.size,0,none⟩) 0 (grownCap w n 0 106)) 0 [] from zeros_own rfl (grownCap_ge w n 0 _) (grownCap_le_maxLen w n 0 _ (by unfold maxLen;omega)));have HB:=hid (show Below w.heap.size w (w.drew.alloc (.cells (Builtin.zeroCells (Value.cells (.agg #[.string ⟨#[]⟩,.slice none 0 0])) n++Builtin.zeroCells (Value.cells (.agg #[.string ⟨#[]⟩,.slice none 0 0])) (grownCap w n 0 106 - n)) 106)) from((Below.refl _ _).drew).alloc (Nat.le_refl _) _);have HC:=hid (grownCap_ge w n 0 106);clear hi hz0 hz1 hz2;generalize w.drew.alloc (.cells (Builtin.zeroCells (Value.cells (.agg #[.string ⟨#[]⟩,.slice none 0 0])) n++Builtin.zeroCells (Value.cells (.agg #[.string ⟨#[]⟩,.slice none 0 0])) (grownCap w n 0 106 - n)) 106)=w1 at *;generalize grownCap w n 0 106=cp at *;have hcp:(n:Int)≤(cp:Int):=by have:=HC.out;omega
  go_enter Tryz.func159,Tryz.ntmps159
  go_wp2_with (at_builtin;refine Lib.wpList_append_run _ rfl _ _ _ _ rfl _ _ rfl rfl _ _ (HR.out _) ?_)
  exact bodyPost_ret (v:=.slice (some ⟨w.heap.size,0,none⟩) 0 cp) (by simp [results,Tryz.results159,go_sem]) rfl ⟨_,rfl,HO.out,HB.out⟩
 ·have e:n=0:=by omega
  subst e
  go_enter Tryz.func159,Tryz.ntmps159
  go_wp2_with fail;exact bodyPost_ret (v:=.slice none 0 0) (by simp [results,Tryz.results159,go_sem]) rfl ⟨_,rfl,Qf.nil _ _ _ _,Below.refl _ _⟩
end
end Go.Proofs.YtbbmdbolkicpcaaGreatDoor
