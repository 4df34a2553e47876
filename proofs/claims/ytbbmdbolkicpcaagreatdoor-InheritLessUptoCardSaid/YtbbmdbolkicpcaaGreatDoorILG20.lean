/- SideB, InhParA, InhParB, InhPar, InhWrong -/
import Derived.Test.YtbbmdbolkicpcaaGreatDoorILG19
import Derived.Test.YtbbmdbolkicpcaaGreatDoorILG14
import Derived.Test.YtbbmdbolkicpcaaGreatDoorILG11
import Derived.Test.YtbbmdbolkicpcaaGreatDoorILG18
import Derived.Test.YtbbmdbolkicpcaaGreatDoorILG13
set_option maxRecDepth 100000
set_option maxHeartbeats 32000000
set_option linter.unusedVariables false
set_option linter.unusedSimpArgs false
namespace Go.Proofs.YtbbmdbolkicpcaaGreatDoor
section
open Go.RowKit Go.Lib
theorem flat2_set1:∀ (l:List (Str×Str))(i:Nat)(hi:i<l.length)(v:Str),(Ky l).set (i * 2+1) (.string ⟨v.toArray⟩)=Ky (l.set i ((l[i]'hi).1,v))
 | (a,b)::l,0,_,v=>rfl
 | (a,b)::l,i+1,hi,v=>by
  have hi':i<l.length:=by simpa using hi
  have e:(i+1) * 2+1=(i * 2+1)+2:=by omega
  rw [e];show S a::S b::(Ky l).set (i * 2+1) _=_;rw [flat2_set1 l i hi' v]
  rfl
theorem Qd.turn {w:World}{B g c:Nat}{ks:List (Str×Str)}(h:Qd w B (.slice (some ⟨g,0,none⟩) ks.length c) ks){i:Nat}(hi:i<ks.length)(v:Str) :
  Qd (w.setCell ⟨g,i * 2+1,none⟩ (.string ⟨v.toArray⟩)) B (.slice (some ⟨g,0,none⟩) ks.length c) (ks.set i ((ks[i]'hi).1,v)):=by
 rcases Qd.shape h with ⟨e,_⟩ | ⟨g',cap,cur,e,hB,hg,hn,hm,hs,ht⟩
 ·cases e
 cases e
 refine⟨by rw [Jv,List.length_set],Or.inr ⟨g,c,cur.setIfInBounds (i * 2+1) (.string ⟨v.toArray⟩),by rw [List.length_set],hB,heap_setCell_same _ _ _ _ _ _ hg,by rw [List.length_set];exact hn,hm,by simpa using hs,?_⟩⟩
 rw [List.length_set,Array.toList_setIfInBounds,List.take_set,ht];exact flat2_set1 ks i hi v
theorem turn_steps {W:World}{B g0 n cp x g c i:Nat}{zs:List (Stp×(Option Addr×Nat))}{v:Str}(h:Qf Xf 106 W B (.slice (some ⟨g0,0,none⟩) n cp) zs)(hn:n=zs.length)(he:∀ z∈zs,Qd W B (Qt z) z.1.2)(hd:zs.Pairwise KDis)
  (hx:x<zs.length)(hz:(zs[x]'hx).2=(some ⟨g,0,none⟩,c))(hi:i<(zs[x]'hx).1.2.length) :
  RdL Xf (W.setCell ⟨g,i * 2+1,none⟩ (.string ⟨v.toArray⟩)) (.slice (some ⟨g0,0,none⟩) n cp) (zs.set x (((zs[x]'hx).1.1,(zs[x]'hx).1.2.set i (((zs[x]'hx).1.2[i]'hi).1,v)),(some ⟨g,0,none⟩,c)))∧
   (∀ z∈zs.set x (((zs[x]'hx).1.1,(zs[x]'hx).1.2.set i (((zs[x]'hx).1.2[i]'hi).1,v)),(some ⟨g,0,none⟩,c)),RdP (W.setCell ⟨g,i * 2+1,none⟩ (.string ⟨v.toArray⟩)) (Qt z) z.1.2):=by
 obtain⟨cur,hcur⟩:=h.row
 have hkx:Qt (zs[x]'hx)=.slice (some ⟨g,0,none⟩) (zs[x]'hx).1.2.length c:=by unfold Qt;rw [hz]
 have hgx:=he _ (List.getElem_mem hx);rw [hkx] at hgx;have hg0:g0≠g:=fun e=>by
  rcases Qd.shape hgx with ⟨e1,_⟩ | ⟨g',cap,cur',e1,_,hg',_⟩
  ·cases e1
  ·cases e1;rw [e,hg'] at hcur;cases hcur
 have hdis:∀ j (hj:j<zs.length),j≠x→(Qt (zs[j]'hj)).ownBlock≠some g:=fun j hj hjx e=>by
  have hp:=List.pairwise_iff_getElem.1 hd
  rcases Nat.lt_or_gt_of_ne hjx with hlt | hlt
  ·exact hp j x hj hx hlt g e (by rw [hkx];rfl)
  ·exact hp x j hx hj hlt g (by rw [hkx];rfl) e
 have h1:=Qw h (b:=g) (fun e=>hg0 (Option.some.inj e)) (i * 2+1) (.string ⟨v.toArray⟩)
 constructor
 ·have hfl:Xr Xf (zs.set x (((zs[x]'hx).1.1,(zs[x]'hx).1.2.set i (((zs[x]'hx).1.2[i]'hi).1,v)),(some ⟨g,0,none⟩,c)))=Xr Xf zs:=by
   have hset:=flatL_set Xf zs x 1 hx (by decide) (Qt (zs[x]'hx)) (((zs[x]'hx).1.1,(zs[x]'hx).1.2.set i (((zs[x]'hx).1.2[i]'hi).1,v)),(some ⟨g,0,none⟩,c)) (by rw [hkx];simp [Xf]);rw [← hset];have hget:=flatL_get Xf zs x 1 hx (by decide);have hk1:(Xr Xf zs)[x * 2+1]?=some (Qt (zs[x]'hx)):=by rw [hget];rfl
   obtain⟨hlt,he2⟩:=List.getElem?_eq_some_iff.1 hk1
   rw [← he2,List.set_getElem_self]
  have ho:Qf Xf 106 (W.setCell ⟨g,i * 2+1,none⟩ (.string ⟨v.toArray⟩)) B (.slice (some ⟨g0,0,none⟩) n cp) (zs.set x (((zs[x]'hx).1.1,(zs[x]'hx).1.2.set i (((zs[x]'hx).1.2[i]'hi).1,v)),(some ⟨g,0,none⟩,c))):=Xn h1 (by rw [List.length_set]) hfl;exact ho.rd
 ·intro z hz'
  obtain⟨j,hj,rfl⟩:=List.getElem_of_mem hz'
  rw [List.length_set] at hj;rw [List.getElem_set]
  split
  ·have:=(Qd.turn hgx hi v).rd
   have e2:Qt ((((zs[x]'hx).1.1,(zs[x]'hx).1.2.set i (((zs[x]'hx).1.2[i]'hi).1,v)),(some ⟨g,0,none⟩,c)):Stp×(Option Addr×Nat))=.slice (some ⟨g,0,none⟩) (zs[x]'hx).1.2.length c:=by unfold Qt;rw [List.length_set]
   rw [e2];exact this
  ·next e=>exact(show Qd _ B _ _ from Qw (he _ (List.getElem_mem hj)) (hdis j hj (fun e'=>e e'.symm)) _ _).rd
theorem own_rows {W1 W2:World}{B k n:Nat}{e:TypeId}{v:Value}{xs:List Value}{row:Option Nat}(h:W1.ownsRow B e k v n xs)(hg:W1.grownBy W2 row)(hr:∀ r,row=some r→∃ o:Obj,W1.heap[r]?=some o∧o.isCells=false):W2.ownsRow B e k v n xs:=by
 refine World.ownsRow.kept h hg ?_
 rcases h.2 with ⟨rfl,_⟩ | ⟨g,cap,cur,rfl,_,hgg,_⟩
 ·exact Or.inl rfl
 ·refine Or.inr fun e'=>?_
  obtain⟨o,h1,h2⟩:=hr g e'.symm
  rw [hgg] at h1
  cases h1
  cases h2
theorem Qd.at {w:World}{B g n c:Nat}{ks:List (Str×Str)}(h:Qd w B (.slice (some ⟨g,0,none⟩) n c) ks){j:Nat}(hj:j<ks.length) :
  w.cell? ⟨g,j * 2,none⟩=some (.string ⟨((ks[j]'hj).1).toArray⟩)∧w.cell? ⟨g,j * 2+1,none⟩=some (.string ⟨((ks[j]'hj).2).toArray⟩)∧w.frozen? ⟨g,j * 2+1,none⟩=false∧g<w.heap.size∧B≤g:=by
 rcases Qd.shape h with ⟨e,_⟩ | ⟨g',cap,cur,e,hB,hg,hn,hm,hs,ht⟩
 ·cases e
 cases e;have hc:∀ k,k<ks.length * 2→cur[k]?=(Ky ks)[k]?:=fun k h=>by rw [← ht,List.getElem?_take,if_pos h,Array.getElem?_toList]
 have h0:=flat2_get ks j 0 hj (by decide);have h1:=flat2_get ks j 1 hj (by decide);rw [Nat.add_zero] at h0
 refine⟨?_,?_,frozen_of_row _ _ _ _ _ hg,lt_of_block hg,hB⟩
 ·rw [cell_of_row _ _ _ _ _ _ hg,hc _ (by omega),h0];rfl
 ·rw [cell_of_row _ _ _ _ _ _ hg,hc _ (by omega),h1];rfl
theorem own_cells {w:World}{B k n:Nat}{e:TypeId}{v:Value}{xs:List Value}(h:w.ownsRow B e k v n xs):∀ (j:Nat)(o:Obj),v.ownBlock=some j→w.heap[j]?=some o→o.isCells=true:=fun j o hj ho=>by
 rcases h.2 with ⟨rfl,_⟩ | ⟨g,cap,cur,rfl,_,hg,_⟩
 ·cases hj
 ·obtain rfl:g=j:=Option.some.inj hj;rw [hg] at ho
  cases ho
  rfl
theorem keysT_set:∀ (l:List (Str×Str))(i:Nat)(y:Str×Str),(Kj (l.set i y)).length≤(Kj l).length+(keyT y).length
 | [],_,_=>by simp [Kj]
 | k::r,0,y=>by simp [Kj];omega
 | k::r,i+1,y=>by
  have:=keysT_set r i y
  simp only [Kj,List.set_cons_succ,List.flatMap_cons,List.length_append] at this ⊢
  omega
theorem text_other {x:Stp}(i:Nat)(h:(Zw x).length≤513):(Zw (x.1,x.2.set i (Zx,otherT))).length≤1073741824:=by
 have h1:=keysT_set x.2 i (Zx,otherT);have h2:(keyT (Zx,otherT)).length=13:=by decide +kernel
 unfold Zw at h ⊢;rw [List.length_append] at h ⊢
 simp only
 omega
def turnL (l:List Stp)(x:Nat)(y:Stp):List Str:=if setK Zx otherT y=y then [] else(Zy (l.set x (setK Zx otherT y))).toList
theorem turn_other {p1:Str}{l:List Stp}(h:Qb p1=some l){n:Nat}(hn:n<l.length)(h1:hasK (l[n]'hn) Zx=true)(h2:∀ m (hm:m<l.length),n<m→hasK (l[m]'hm) Zx=false):otherL p1=turnL l n (l[n]'hn):=by
 unfold turnL
 split
 ·next e=>exact other_same h hn h1 h2 e
 ·next e=>exact other_turn h hn h1 h2 e
def SiRet (w7:World)(ws b5:Nat)(zs:List Zst)(L:List Str)(pre:List Nat)(W:World):Prop :=
 ∃ pre' x,∃ hx:x<zs.length,pre=pre'++[x]∧(∀ k∈pre',hasK (zs.getD k stD).1 Zx=false)∧hasK (zs[x]'hx).1 Zx=true∧Below ws w7 W∧b5<w7.heap.size∧ws≤w7.heap.size ∧
  ∃ v,W.heap[b5]?=some (.cells #[v] 36 (0,0))∧Qg W ws v (L++turnL (zs.map (·.1)) x (zs[x]'hx).1)
theorem SiRet.grown {w7 W1 W2:World}{ws b5:Nat}{zs:List Zst}{L:List Str}{pre:List Nat}{row:Option Nat}(h:SiRet w7 ws b5 zs L pre W1)(hg:W1.grownBy W2 row)(hr:∀ k,row=some k→w7.heap.size≤k∧∃ o:Obj,W1.heap[k]?=some o∧o.isCells=false):SiRet w7 ws b5 zs L pre W2:=by
 obtain⟨pre',x,hx,h1,h2,h3,h4,h5,h6,v,h7,h8⟩:=h
 refine⟨pre',x,hx,h1,h2,h3,h4.grown hg (Nat.le_trans h6 h4.size) (fun k hk=>Nat.le_trans h6 (hr k hk).1),h5,h6,v,(hg.block _ (lt_of_block h7) fun e=>?_).trans h7,own_rows h8 hg fun r e=>(hr r e).2⟩
 have:=(hr _ e.symm).1
 omega
end
section
open Go.RowKit Go.Lib Go.Sort Go.Maps Go.WideMaps Go.Shelf
def parL (xs:List (Str×Str)):List (Str×Str):=xs.filterMap fun x=>(parF x.1).map fun n=>(n,x.2)
def atL (xs:List (Str×Str)):List Str:=(xs.filter fun x=>(parF x.1).isSome).map (·.1)
theorem parL_snoc (xs:List (Str×Str))(x:Str×Str):parL (xs++[x])=parL xs++((parF x.1).map fun n=>(n,x.2)).toList:=by
 unfold parL;rw [List.filterMap_append]
 cases h:parF x.1 <;> simp [List.filterMap_cons,h]
theorem atL_snoc (xs:List (Str×Str))(x:Str×Str):atL (xs++[x])=atL xs++(if(parF x.1).isSome then [x.1] else []):=by
 unfold atL;rw [List.filter_append,List.map_append]
 cases h:(parF x.1).isSome <;> simp [List.filter_cons,h]
theorem parL_len (xs:List (Str×Str)):(parL xs).length≤xs.length:=List.length_filterMap_le _ _
theorem atL_len (xs:List (Str×Str)):(atL xs).length≤xs.length:=by
 unfold atL;rw [List.length_map];exact List.length_filter_le _ _
theorem inP_all {t:Tb}(h:∀ p∈Qn t [],Qm p=true):inP t [] [] (Qn t [])=(Qn t []).map fun p=>(p,rText (Qy t.rows [] p)):=by
 unfold inP;rw [List.filter_eq_self.2 fun p hp=>in_all (h p hp)]
theorem parL_all {t:Tb}(h:∀ p∈Qn t [],Qm p=true):parL (inP t [] [] (Qn t []))=Xt t:=by
 rw [inP_all h];unfold parL Xt parPs;generalize Qn t []=l
 induction l with
 | nil=>rfl
 | cons p r ih =>
  rw [List.map_cons,List.filterMap_cons,List.filter_cons]
  cases hp:parF p with
  | none=>simpa using ih
  | some n=>simp only [Option.map_some,Option.isSome_some,if_true,List.map_cons,hp,Option.getD_some];rw [ih]
theorem atL_all {t:Tb}(h:∀ p∈Qn t [],Qm p=true):atL (inP t [] [] (Qn t []))=parPs t:=by
 rw [inP_all h];unfold atL parPs;generalize Qn t []=l
 induction l with
 | nil=>rfl
 | cons p r ih =>
  rw [List.map_cons,List.filter_cons,List.filter_cons]
  cases hp:(parF p).isSome with
  | false=>simpa using ih
  | true=>simp only [if_true,List.map_cons];rw [ih]
theorem par_is {p v:Str}:parF p=some v↔Qb p=some [(parentT,[(localeT,v)])]:=by
 unfold parF
 constructor
 ·intro h
  split at h
  ·next n k u e =>
   split at h
   ·next hc=>cases h;rw [e,hc.1,hc.2]
   ·cases h
  ·cases h
 ·intro h;rw [h]
  simp
theorem par_no {p:Str}(h:∀ v,Qb p≠some [(parentT,[(localeT,v)])]):parF p=none:=by
 cases hp:parF p with
 | none=>rfl
 | some v=>exact absurd (par_is.1 hp) (h v)
theorem par_bad {p:Str}(h:Qb p=none∨Qb p=some []):parF p=none:=par_no fun v e=>by
 rcases h with h | h <;> rw [h] at e <;> cases e
theorem par_long {p:Str}{l:List Stp}{x:Stp}(h:Qb p=some (l++[x]))(hl:l≠[]):parF p=none:=par_no fun v e=>by
 rw [h] at e
 have:=congrArg List.length (Option.some.inj e)
 simp at this
 exact hl this
theorem par_step {p:Str}{x:Stp}(h:Qb p=some ([]++[x]))(hx:∀ v,x≠(parentT,[(localeT,v)])):parF p=none:=par_no fun v e=>by
 rw [h] at e
 have:=Option.some.inj e
 simp at this
 exact hx v this
theorem up_at {p:Str}{l:List Stp}{x:Stp}(h:Qb p=some (l++[x])):(upF p).getD []=Zb l∧(Zb l=[]↔l=[]):=by
 have hm:=(Zd h).1;rw [List.all_append,Bool.and_eq_true] at hm
 refine⟨?_,fun e=>?_,fun e=>by rw [e];rfl⟩
 ·unfold upF;rw [h]
  simp
 ·cases hl:l with
  | nil=>rfl
  | cons a r=>exact absurd e (join_ne hm.1 (by rw [hl];simp))
def Cn (lb ab:Nat)(A:World)(k:Nat):Prop:=(∃ v,A.cell? ⟨lb,0,none⟩=some v∧v.ownBlock=some k)∨(∃ v,A.cell? ⟨ab,0,none⟩=some v∧v.ownBlock=some k)
structure KpL (n0 lb ab:Nat)(A B:World):Prop where
 size:A.heap.size≤B.heap.size
 low:∀ k:Nat,k<n0→k≠lb→k≠ab→B.heap[k]?=A.heap[k]?
 high:∀ (k:Nat) (cs:Array Value) (ty:TypeId),n0≤k→A.heap[k]?=some (.cells cs ty (0,0))→¬ Cn lb ab A k→B.heap[k]?=some (.cells cs ty (0,0))
 con:∀ k:Nat,Cn lb ab B k→Cn lb ab A k∨A.heap.size≤k
section
variable {n0 lb ab : Nat} {A B C : World}
theorem KpL.trans (h:KpL n0 lb ab A B)(g:KpL n0 lb ab B C):KpL n0 lb ab A C:=by
 refine⟨Nat.le_trans h.size g.size,fun k h1 h2 h3=>(g.low k h1 h2 h3).trans (h.low k h1 h2 h3),fun k cs ty h1 h2 h3=>?_,fun k hk=>?_⟩
 ·refine g.high k cs ty h1 (h.high k cs ty h1 h2 h3) fun hc=>?_
  rcases h.con k hc with hc | hc
  ·exact h3 hc
  ·have:=lt_of_block h2;omega
 ·rcases g.con k hk with hk | hk
  ·exact h.con k hk
  ·exact Or.inr (Nat.le_trans h.size hk)
theorem KpL.of_below (h:Below A.heap.size A B)(hl:lb<n0)(ha:ab<n0)(hn:n0≤A.heap.size):KpL n0 lb ab A B:=by
 refine⟨h.size,fun k hk _ _=>h.block k (by omega),fun k cs ty _ hc _=>(h.block k (lt_of_block hc)).trans hc,fun k hk=>Or.inl ?_⟩
 have e1:B.cell? ⟨lb,0,none⟩=A.cell? ⟨lb,0,none⟩:=h.cell (p:=⟨lb,0,none⟩) (by simp;omega);have e2:B.cell? ⟨ab,0,none⟩=A.cell? ⟨ab,0,none⟩:=h.cell (p:=⟨ab,0,none⟩) (by simp;omega);unfold Cn at hk ⊢;rw [e1,e2] at hk;exact hk
theorem KpL.put {W:World}{l:Nat}{o o':Obj}(hl:n0≤l)(hlb:lb<n0)(hab:ab<n0)(ho:W.heap[l]?=some o)(hc:o.isCells=false):KpL n0 lb ab W (W.putObj l o'):=by
 have hg:=grownBy_putObj' W l o'
 refine⟨hg.size,fun k hk _ _=>hg.block k (by have:=lt_of_block ho;omega) (fun e=>by cases e;omega),fun k cs ty _ hk _=>(hg.block k (lt_of_block hk) fun e=>?_).trans hk,fun k hk=>Or.inl ?_⟩
 ·cases e;rw [ho] at hk
  cases hk
  cases hc
 ·have e1:(W.putObj l o').cell? ⟨lb,0,none⟩=W.cell? ⟨lb,0,none⟩:=World.cell?_of_block (w:=W) (hg.block lb (by have:=lt_of_block ho;omega) (fun e=>by cases e;omega));have e2:(W.putObj l o').cell? ⟨ab,0,none⟩=W.cell? ⟨ab,0,none⟩:=World.cell?_of_block (w:=W) (hg.block ab (by have:=lt_of_block ho;omega) (fun e=>by cases e;omega));unfold Cn at hk ⊢;rw [e1,e2] at hk;exact hk
theorem KpL.refl (A:World):KpL n0 lb ab A A:=⟨Nat.le_refl _,fun _ _ _ _=>rfl,fun _ _ _ _ h _=>h,fun _ h=>Or.inl h⟩
theorem KpL.drew (A:World):KpL n0 lb ab A A.drew:=⟨Nat.le_refl _,fun _ _ _ _=>rfl,fun _ _ _ _ h _=>h,fun _ h=>Or.inl h⟩
theorem KpL.app {W W':World}{b:Nat}{u v':Value}{ty:TypeId}(hb:b=lb∨b=ab)(hne:lb≠ab)(hl:lb<n0)(ha:ab<n0)(hn:n0≤W.heap.size)(hrow:W.heap[b]?=some (.cells #[u] ty (0,0)))(hu:∀ k,u.ownBlock=some k→n0≤k)
  (gr:W.grownBy W' u.ownBlock)(mv:Moved W u v'):KpL n0 lb ab W (W'.setCell ⟨b,0,none⟩ v'):=by
 have hbn:b<n0:=by rcases hb with rfl | rfl <;> assumption
 have hub:u.ownBlock≠some b:=fun e=>by have:=hu b e;omega
 have r1:W'.heap[b]?=some (.cells #[u] ty (0,0)):=(gr.block b (by omega) (fun e=>hub e.symm)).trans hrow;have cb:(W'.setCell ⟨b,0,none⟩ v').cell? ⟨b,0,none⟩=some v':=by
  rw [cell_of_row _ _ _ _ _ _ (heap_setCell_same _ _ _ _ _ _ r1)];rfl
 have c0:W.cell? ⟨b,0,none⟩=some u:=cR hrow;have co:∀ c,c≠b→c<n0→(W'.setCell ⟨b,0,none⟩ v').cell? ⟨c,0,none⟩=W.cell? ⟨c,0,none⟩:=fun c hc hcn =>
  World.cell?_of_block (w:=W) ((heap_setCell_other _ _ _ _ hc).trans (gr.block c (by omega) (fun e=>by have:=hu c e.symm;omega)))
 refine⟨by simpa using gr.size,fun k hk h1 h2=>?_,fun k cs t hk hc hnc=>?_,fun k hk=>?_⟩
 ·have hkb:k≠b:=by rcases hb with rfl | rfl <;> assumption
  exact(heap_setCell_other _ _ _ _ hkb).trans (gr.block k (by omega) (fun e=>by have:=hu k e.symm;omega))
 ·have hkb:k≠b:=by omega
  refine(heap_setCell_other _ _ _ _ hkb).trans ((gr.block k (lt_of_block hc) fun e=>hnc ?_).trans hc)
  rcases hb with rfl | rfl
  ·exact Or.inl ⟨u,c0,e.symm⟩
  ·exact Or.inr ⟨u,c0,e.symm⟩
 ·have hv:∀ v,(W'.setCell ⟨b,0,none⟩ v').cell? ⟨b,0,none⟩=some v→v.ownBlock=some k→u.ownBlock=some k∨W.heap.size≤k:=fun v h1 h2=>by
   rw [cb] at h1
   cases h1
   rcases mv with e | ⟨j,e,hj⟩
   ·exact Or.inl (by rw [← e];exact h2)
   ·rw [e] at h2
    cases h2;exact Or.inr hj
  rcases hb with rfl | rfl
  ·rcases hk with ⟨v,h1,h2⟩ | ⟨v,h1,h2⟩
   ·rcases hv v h1 h2 with h | h
    ·exact Or.inl (Or.inl ⟨u,c0,h⟩)
    ·exact Or.inr h
   ·rw [co ab (Ne.symm hne) ha] at h1;exact Or.inl (Or.inr ⟨v,h1,h2⟩)
  ·rcases hk with ⟨v,h1,h2⟩ | ⟨v,h1,h2⟩
   ·rw [co lb hne hl] at h1;exact Or.inl (Or.inl ⟨v,h1,h2⟩)
   ·rcases hv v h1 h2 with h | h
    ·exact Or.inl (Or.inr ⟨u,c0,h⟩)
    ·exact Or.inr h
end
theorem TbP.but2 {B0:Nat}{W W':World}{pt lb ab:Nat}{t:Tb}{c1 c2:Array Value}{t1 t2:TypeId}(h:TbP B0 W pt t)(h1:W.heap[lb]?=some (.cells c1 t1 (0,0)))(h2:W.heap[ab]?=some (.cells c2 t2 (0,0)))(n1:t1≠93)(n2:t2≠93)(he:∀ k,k<W.heap.size→k≠lb→k≠ab→W'.heap[k]?=W.heap[k]?):TbP B0 W' pt t:=by
 obtain⟨bv,ba,bn,bp,N,V,⟨⟨a1,a2,a3,a4,a5,a6,a7,a8,a9,a10⟩,lo,h3⟩⟩:=h
 have hm:∀ {α:Type} {E:El α} {k n:Nat} {L:List (Str×α)},Zh E W k n L→Zh E W' k n L:=fun {α E k n L} ho=>ho.block (he _ ho.lt (fun e=>by
  obtain⟨es,ck,hb⟩:=ho.isMap
  rw [e,h1] at hb;cases hb) (fun e=>by
  obtain⟨es,ck,hb⟩:=ho.isMap
  rw [e,h2] at hb;cases hb))
 exact⟨bv,ba,bn,bp,N,V,⟨⟨(he _ (lt_of_block a1) (fun e=>by rw [e,h1] at a1;cases a1;exact n1 rfl) (fun e=>by rw [e,h2] at a1;cases a1;exact n2 rfl)).trans a1,hm a2,hm a3,hm a4,hm a5,fun p hp=>hm (a6 p hp),a7,a8,a9,a10⟩,lo,h3⟩⟩
end
section
open Go.RowKit Go.Lib Go.Sort Go.Maps Go.WideMaps Go.Shelf
attribute [local go_sem] Oper.semAt_some
structure ParI (w:World)(n0 lb ab:Nat)(L:List (Str×Str))(ix:List Nat)(W:World):Prop where
 ls:∃ u,W.heap[lb]?=some (.cells #[u] 65 (0,0))∧Qd W n0 u (parL (ix.map fun i=>L.getD i ([],[])))
 at':∃ u,W.heap[ab]?=some (.cells #[u] 36 (0,0))∧Qg W n0 u (atL (ix.map fun i=>L.getD i ([],[])))
 bel:Below w.heap.size w W
 big:n0≤W.heap.size
section
variable {w W W' : World} {n0 lb ab : Nat} {L : List (Str × Str)} {ix : List Nat}
theorem ParI.below (h:ParI w n0 lb ab L ix W)(hb:Below W.heap.size W W'):ParI w n0 lb ab L ix W':=by
 obtain⟨⟨u,h1,h2⟩,⟨v,h3,h4⟩,h5,h6⟩:=h
 exact⟨⟨u,bk hb h1,Qz h2 hb⟩,⟨v,bk hb h3,Qz h4 hb⟩,h5.then hb,Nat.le_trans h6 hb.size⟩
theorem ParI.grown {row:Option Nat}(h:ParI w n0 lb ab L ix W)(hl:lb<n0)(ha:ab<n0)(hw:w.heap.size≤n0)(hg:W.grownBy W' row)(hr:∀ r,row=some r→n0≤r∧∃ o:Obj,W.heap[r]?=some o∧o.isCells=false):ParI w n0 lb ab L ix W':=by
 obtain⟨⟨u,h1,h2⟩,⟨v,h3,h4⟩,h5,h6⟩:=h
 refine⟨⟨u,(hg.block _ (lt_of_block h1) fun e=>?_).trans h1,own_rows h2 hg fun r e=>(hr r e).2⟩,⟨v,(hg.block _ (lt_of_block h3) fun e=>?_).trans h3,own_rows h4 hg fun r e=>(hr r e).2⟩,h5.grown hg h5.size (fun k hk=>Nat.le_trans hw (hr k hk).1),Nat.le_trans h6 hg.size⟩
 ·have:=(hr _ e.symm).1;omega
 ·have:=(hr _ e.symm).1;omega
theorem ParI.skip {i:Nat}(h:ParI w n0 lb ab L ix W)(hp:parF (L.getD i ([],[])).1=none):ParI w n0 lb ab L (ix++[i]) W:=by
 obtain⟨⟨u,h1,h2⟩,⟨v,h3,h4⟩,h5,h6⟩:=h
 refine⟨⟨u,h1,?_⟩,⟨v,h3,?_⟩,h5,h6⟩
 ·rw [List.map_append,List.map_singleton,parL_snoc,hp];simpa using h2
 ·rw [List.map_append,List.map_singleton,atL_snoc,hp];simpa using h4
end
theorem range_get {L:List (Str×Str)}:(List.range L.length).map (fun i=>L.getD i ([],[]))=L:=by
 apply List.ext_getElem
 ·simp
 ·intro i h1 h2;rw [List.getElem_map,List.getElem_range,List.getD_eq_getElem?_getD,List.getElem?_eq_getElem h2];rfl
theorem within1_par (n:Nat)(hn:1≤n)(b0 b1 b2 C pt lb ab:Nat)(t:Tb)(ok:Jq t)(hs:SzT t)(w:World)(hT:TbP C w pt t)
  (h0:w.heap[b0]?=some (.cells #[.pointer (some ⟨pt,0,none⟩)] 40 (0,0)))(h1:w.heap[b1]?=some (.cells #[.string ⟨#[]⟩] 9 (0,0)))(h2:w.heap[b2]?=some (.cells #[.string ⟨#[]⟩] 9 (0,0)))
  (hlb:w.heap[lb]?=some (.cells #[.slice none 0 0] 65 (0,0)))(hab:w.heap[ab]?=some (.cells #[.slice none 0 0] 36 (0,0)))(L:List (Str×Str))(hL:L=inP t [] [] (Qn t [])) :
  SeqStopsK Fence.wide n Tryz.prog 94 #[.pointer (some ⟨b0,0,none⟩),.pointer (some ⟨b1,0,none⟩),.pointer (some ⟨b2,0,none⟩)] (fun i:Nat=>#[.string ⟨(L.getD i ([],[])).1.toArray⟩,.string ⟨(L.getD i ([],[])).2.toArray⟩]) (KpL w.heap.size lb ab)
   (fun xs=>xs=List.range L.length) (fun _=>True) L.length w:=fun l J Jx W hW hJ hJx hY hJ0=>by
 have hcl:∀ {V:World},V.heap[lb]?=w.heap[lb]?→V.heap[ab]?=w.heap[ab]?→∀ k,¬ Cn lb ab V k:=fun {V} e1 e2 k hk=>by
  have c1:V.cell? ⟨lb,0,none⟩=some (.slice none 0 0):=cR (e1.trans hlb);have c2:V.cell? ⟨ab,0,none⟩=some (.slice none 0 0):=cR (e2.trans hab)
  rcases hk with ⟨v,h,g⟩ | ⟨v,h,g⟩
  ·rw [c1] at h;cases h;cases g
  ·rw [c2] at h;cases h;cases g
 have hll:=lt_of_block hlb;have hal:=lt_of_block hab
 refine(within1_gen n hn l b0 b1 b2 C pt t ok hs [] [] (by decide) (by decide) w (KpL w.heap.size lb ab) (fun A v=>Qg A W.heap.size v (Qn t [])∧(∀ k,v.ownBlock=some k→¬ Cn lb ab A k)∧w.heap.size≤A.heap.size) (fun V hk=>?bx) (fun A B hA hb=>KpL.of_below hb hll hal hA) (fun A B C h g=>h.trans g) (fun A B h=>h.size)
  (fun pre V=>J (List.range pre.length) V) (fun pre V=>Jx (List.range pre.length) V) W hW (fun s A B row hs hg hr=>hJ _ A B row hs hg hr) (fun B v ho hb _=>⟨ho,fun k _=>hcl ((hb.block _ (Nat.lt_of_lt_of_le hll hW.size)).trans (hW.block _ hll)) ((hb.block _ (Nat.lt_of_lt_of_le hal hW.size)).trans (hW.block _ hal)) k,Nat.le_trans hW.size hb.size⟩)
  (fun A B v h hb=>⟨Qz h.1 hb,fun k hk hc=>h.2.1 k hk ?f1,Nat.le_trans h.2.2 hb.size⟩) (fun A B v h hk=>?f2) (fun A v h=>h.1) (fun pre x W1 hp hj=>?yy) hJ0).mono ?_
 case bx =>
  have hlow:∀ k,k<w.heap.size→k≠lb→k≠ab→V.heap[k]?=w.heap[k]?:=hk.low;have g0:b0≠lb∧b0≠ab:=⟨fun e=>(by rw [e,hlb] at h0;cases h0),fun e=>(by rw [e,hab] at h0;cases h0)⟩;have g1:b1≠lb∧b1≠ab:=⟨fun e=>(by rw [e,hlb] at h1;cases h1),fun e=>(by rw [e,hab] at h1;cases h1)⟩;have g2:b2≠lb∧b2≠ab:=⟨fun e=>(by rw [e,hlb] at h2;cases h2),fun e=>(by rw [e,hab] at h2;cases h2)⟩;have e0:=(hlow b0 (lt_of_block h0) g0.1 g0.2).trans h0;have e1:=(hlow b1 (lt_of_block h1) g1.1 g1.2).trans h1;have e2:=(hlow b2 (lt_of_block h2) g2.1 g2.2).trans h2
  exact⟨hT.but2 hlb hab (by decide) (by decide) hlow,by rw [cell_of_row _ _ _ _ _ _ e0];rfl,by rw [cell_of_row _ _ _ _ _ _ e1];rfl,by rw [cell_of_row _ _ _ _ _ _ e2];rfl,lt_of_block e0,lt_of_block e1,lt_of_block e2⟩
 case f1 =>
  have e1:B.cell? ⟨lb,0,none⟩=A.cell? ⟨lb,0,none⟩:=hb.cell (p:=⟨lb,0,none⟩) (by have:=h.2.2;simp;omega);have e2:B.cell? ⟨ab,0,none⟩=A.cell? ⟨ab,0,none⟩:=hb.cell (p:=⟨ab,0,none⟩) (by have:=h.2.2;simp;omega);unfold Cn at hc ⊢;rw [e1,e2] at hc;exact hc
 case f2 =>
  refine⟨⟨h.1.1,?_⟩,fun k hv hc=>?_,Nat.le_trans h.2.2 hk.size⟩
  ·rcases h.1.2 with h2 | ⟨b,cap,cur,rfl,h2,h3,h4⟩
   ·exact Or.inl h2
   ·exact Or.inr ⟨b,cap,cur,rfl,h2,hk.high b cur _ (Nat.le_trans hW.size h2) h3 (h.2.1 b rfl),h4⟩
  ·rcases hk.con k hc with hc | hc
   ·exact h.2.1 k hv hc
   ·have:=(World.ownsRow.lt h.1 k hv).2
    omega
 case yy =>
  rw [← hL] at hp;have hlen:=hp.length_le;rw [List.length_append,List.length_singleton] at hlen;have hx:L.getD pre.length ([],[])=x:=by
   obtain⟨r,e⟩:=hp
   rw [← e,List.getD_eq_getElem?_getD]
   simp
  have:=hY (List.range pre.length) pre.length W1 hj (by rw [List.length_range];omega)
  simp only [hx] at this;refine this.mono ?_;rintro e W' (⟨h1,h2,h3⟩ | ⟨h1,h2⟩)
  ·exact Or.inl ⟨h1,by rw [List.length_append,List.length_singleton,List.range_succ];exact h2,h3⟩
  ·exact Or.inr ⟨h1,by rw [List.length_append,List.length_singleton,List.range_succ];exact h2⟩
 ·rintro e W' ⟨h1,h2⟩
  refine⟨h1,?_⟩
  rcases h2 with ⟨xs,rfl,h3⟩ | ⟨pre,_,h3⟩
  ·exact Or.inl ⟨_,by rw [← hL],h3⟩
  ·exact Or.inr ⟨_,trivial,h3⟩
end
section
open Go.RowKit Go.Lib Go.Sort Go.Maps Go.WideMaps Go.Shelf
attribute [local go_sem] Oper.semAt_some
theorem operIn_app {F:Fence}{fn:Nat}{P:Program}{w:World}{o:Oper}{a:Act}{K:Act→World→Prop}{Q:Exit→Act→World→Prop}(s x:Operand)(t:TypeId)
  (ho:o.op=.call { callee:=.builtin .append,args:=#[s,x],argTypes:=#[t,t] })
  (base:Nat)(e:TypeId)(i:TypeInfo)(z:Value)(size bytes:Nat)(ht:P.underlying t=some (.slice e))(hi:P.info? e=some i)(hz:i.zero=some z)
  (hsize:i.size=size)(hby:i.bytes=bytes)(hzs:z.cells.size=size)(hsz:0<size)
  (v:Value)(n:Nat)(xs:List Value)(hs:a.eval s=v)(hown:w.ownsRow base e size v n xs)
  (ad:Addr)(m c:Nat)(news:List Value)(hx:a.eval x=.slice (some ad) m c)(hl:news.length=m * size)(hnews:∀ j u,news[j]?=some u→w.cell? (ad.add j)=some u)(h1:∀ u∈news,u.oneCell'=true)
  (h63:n+m≤maxLen)(hbytes:(n+m) * bytes≤140737488355328)(hbase:base≤w.heap.size)
  (h:∀ v' w',w'.ownsRow base e size v' (n+m) (xs++news)→w.grownBy w' v.ownBlock→Moved w v v'→K (a.put o.dst v') w'):o.wpIn F fn P a w K Q:=by
 obtain⟨v',w',hrun,r1,r2,r3⟩:=run_app (P:=P) w base t o.type e i z size bytes ht hi hz hsize hby hzs hsz v n xs hown ad m c news hl hnews h1 h63 hbytes hbase
 unfold Oper.wpIn
 refine⟨?_,?_⟩
 ·simp [Oper.about,ho,resolve,Target.leads,Sem.run_pure]
 ·rw [Oper.semAt_plain F _ _ (by rw [ho];intro c hc';cases hc')]
  simp [execOp,ho,resolve,invoke,builtin,hs,hx,hrun,Result.andThen]
  exact h v' w' r1 r2 r3
theorem operIn_pushP {F:Fence}{fn:Nat}{w:World}{o:Oper}{a:Act}{K:Act→World→Prop}{Q:Exit→Act→World→Prop}(s x:Operand)
  (ho:o.op=.call { callee:=.builtin .append,args:=#[s,x],argTypes:=#[65,65] })
  (B:Nat)(v:Value)(l:List (Str×Str))(y:Str×Str)(hs:a.eval s=v)(hown:Qd w B v l)(hx:a.eval x=.slice (some ⟨w.heap.size,0,none⟩) 1 1)(hl:l.length≤1000000)(hB:B≤w.heap.size)
  (h:∀ v' w',Qd w' B v' (l++[y])→w.grownBy w' v.ownBlock→Moved w v v'→K (a.put o.dst v') w') :
  o.wpIn F fn Tryz.prog a (w.alloc (.cells #[.string ⟨y.1.toArray⟩,.string ⟨y.2.toArray⟩] 76)) K Q:=by
 obtain⟨i0,hi,hz0,hz1,hz2⟩:=info_parts infoP
 refine operIn_app s x 65 ho B 76 i0 (.agg #[.string ⟨#[]⟩,.string ⟨#[]⟩]) 2 32 Tryz.underlying65 hi hz0 hz1 hz2 rfl (by decide) v l.length (Ky l) hs (World.ownsRow.alloc hown _) ⟨w.heap.size,0,none⟩ 1 1 [S y.1,S y.2] hx rfl (fun j u hu=>cells_new w _ _ j u hu) (fun u hu=>by simp at hu;rcases hu with rfl | rfl <;> rfl) (by unfold maxLen;omega) (by omega) (by simp;omega) ?_;intro v' w' own gr mv;refine h v' w' (Xn own (by simp) (by rw [flat2_append];rfl)) ⟨gr.os,gr.tape,gr.output,Nat.le_trans (by simp) gr.size,fun k hk hne=>?_⟩ ?_
 ·rw [gr.block k (by simp;omega) hne];exact heap_alloc_old _ _ hk
 ·rcases mv with m | ⟨k,h1,h2⟩
  ·exact Or.inl m
  ·exact Or.inr ⟨k,h1,by simp at h2;omega⟩
def depA (j k:Nat):Bool:=[(2,1),(3,2),(4,3),(5,4),(7,5),(7,6),(8,7),(9,0),(9,8),(10,9)].contains (j,k)
structure RgA (vals:Nat→Value)(W0 WA:World)(Pc:Value→World→Prop)(Ps:World→Prop)(listed:Array Bool)(f:Nat→Value)(W:World):Prop where
 vals:∀ j,j<9→LL listed j→f (51+j)=vals j
 cl:∀ j k,depA j k=true→LL listed j→LL listed k
 w0:¬ LL listed 8→W=W0
 wa:LL listed 8→¬ LL listed 9→W=WA
 wc:LL listed 9→¬ LL listed 10→Pc (f 60) W
 ws:LL listed 10→Ps W
section
variable {vals : Nat → Value} {W0 WA W W' : World} {Pc : Value → World → Prop} {Ps : World → Prop} {listed : Array Bool} {f : Nat → Value}
theorem RgA.start:RgA vals W0 WA Pc Ps (Array.replicate 11 false) f W0 :=
 ⟨fun j hj h=>absurd h (LLno (by omega)),fun j k hd h=>by
  have hj:j<11:=by
   unfold depA at hd
   simp at hd
   omega
  exact absurd h (LLno hj),fun _=>rfl,fun h=>absurd h (LLno (by decide)),fun h=>absurd h (LLno (by decide)),fun h=>absurd h (LLno (by decide))⟩
theorem RgA.cl' (h:RgA vals W0 WA Pc Ps listed f W){i:Nat}(hd:∀ k,depA i k=true→LL listed k):∀ j k,depA j k=true→LL (listed.setIfInBounds i true) j→LL (listed.setIfInBounds i true) k:=fun j k h1 h2=>by
 rcases h2.set with e | h2
 ·subst e;exact(hd k h1).mono
 ·exact(h.cl j k h1 h2).mono
theorem RgA.val (h : RgA vals W0 WA Pc Ps listed f W) (i : Nat) (hi : i < 8) (hd : ∀ k, depA i k = true → LL listed k) : RgA vals W0 WA Pc Ps (listed.setIfInBounds i true) (upd f (51 + i) (vals i)) W :=
  ⟨fun j hj hl => by
    by_cases e : j = i
    · subst e; simp [upd]
    · have : 51 + j ≠ 51 + i := by omega
      simp only [upd, if_neg this]
      exact h.vals j hj ((LL.other e).1 hl), h.cl' hd, fun g => h.w0 fun g' => g g'.mono, fun g1 g2 => h.wa ((LL.other (by omega)).1 g1) fun g' => g2 g'.mono,
   fun g1 g2 => by
    have : (60 : Nat) ≠ 51 + i := by omega
    simp only [upd, if_neg this]
    exact h.wc ((LL.other (by omega)).1 g1) fun g' => g2 g'.mono, fun g => h.ws ((LL.other (by omega)).1 g)⟩
theorem RgA.first (h:RgA vals W0 WA Pc Ps listed f W)(hl:¬ LL listed 8):¬ LL listed 9∧¬ LL listed 10 :=
 have h9:¬ LL listed 9:=fun g=>hl (h.cl 9 8 (by decide) g)
 ⟨h9,fun g=>h9 (h.cl 10 9 (by decide) g)⟩
theorem LL.self {listed:Array Bool}{i:Nat}(h:i<listed.size):LL (listed.setIfInBounds i true) i:=by
 unfold LL;rw [Array.getD_eq_getD_getElem?,Array.getElem?_setIfInBounds_self_of_lt h];rfl
theorem RgA.alloc (h:RgA vals W0 WA Pc Ps listed f W)(hl:¬ LL listed 8)(hs:8<listed.size)(hd:∀ k,depA 8 k=true→LL listed k):RgA vals W0 WA Pc Ps (listed.setIfInBounds 8 true) (upd f 59 (vals 8)) WA:=by
 obtain⟨h9,h10⟩:=h.first hl
 refine⟨fun j hj hl=>?_,h.cl' hd,fun g=>absurd (LL.self hs) g,fun _ _=>rfl,fun g=>absurd ((LL.other (by decide)).1 g) h9,fun g=>absurd ((LL.other (by decide)).1 g) h10⟩
 by_cases e:j=8
 ·subst e;simp [upd]
 ·have:51+j≠59:=by omega
  simp only [upd,if_neg this];exact h.vals j hj ((LL.other e).1 hl)
theorem RgA.app (h:RgA vals W0 WA Pc Ps listed f W)(hl:¬ LL listed 9)(hs:9<listed.size)(hd:∀ k,depA 9 k=true→LL listed k){v:Value}(hP:Pc v W'):RgA vals W0 WA Pc Ps (listed.setIfInBounds 9 true) (upd f 60 v) W':=by
 have h10:¬ LL listed 10:=fun g=>hl (h.cl 10 9 (by decide) g)
 refine⟨fun j hj hl=>?_,h.cl' hd,fun g=>absurd (hd 8 (by decide)).mono g,fun _ g=>absurd (LL.self hs) g,fun _ _=>by simpa [upd] using hP,fun g=>absurd ((LL.other (by decide)).1 g) h10⟩
 have:51+j≠60:=by omega
 simp only [upd,if_neg this];exact h.vals j hj ((LL.other (by omega)).1 hl)
theorem RgA.store (h:RgA vals W0 WA Pc Ps listed f W)(hl9:LL listed 9)(hs:10<listed.size)(hd:∀ k,depA 10 k=true→LL listed k)(hP:Ps W'):RgA vals W0 WA Pc Ps (listed.setIfInBounds 10 true) f W' :=
 ⟨fun j hj hl=>h.vals j hj ((LL.other (by omega)).1 hl),h.cl' hd,fun g=>absurd (h.cl 9 8 (by decide) hl9).mono g,fun _ g=>absurd hl9.mono g,fun _ g=>absurd (LL.self hs) g,fun _=>hP⟩
end
def pvals (u:Value)(Yb g kc sz:Nat)(kx tx:Str)(j:Nat):Value:=[u,.pointer (some ⟨Yb,1,none⟩),.slice (some ⟨g,0,none⟩) 1 kc,.pointer (some ⟨g,0,none⟩),.pointer (some ⟨g,1,none⟩),.string ⟨kx.toArray⟩,.string ⟨tx.toArray⟩,.agg #[.string ⟨kx.toArray⟩,.string ⟨tx.toArray⟩],.slice (some ⟨sz,0,none⟩) 1 1].getD j undef
def PcA (W0:World)(n0 lb:Nat)(u:Value)(l:List (Str×Str))(v:Value)(W:World):Prop :=
 Qd W n0 v l∧W0.grownBy W u.ownBlock∧Moved W0 u v∧W.heap[lb]?=some (.cells #[u] 65 (0,0))
def PsA (W0:World)(n0 lb:Nat)(u:Value)(l:List (Str×Str))(W:World):Prop:=∃ v W1,PcA W0 n0 lb u l v W1∧W=W1.setCell ⟨lb,0,none⟩ v
theorem parents_any {C pt:Nat}(w:World)(t:Tb)(hT:TbP C w pt t)(ok:Jq t)(sz:SzT t)(hpb:∀ p∈Qn t [],Qm p=true)(hpl:(Qn t []).length≤1000000) :
  Calls Tryz.prog 27 #[.pointer (some ⟨pt,0,none⟩)] w fun e w'=>∃ u1 u2,e=.returned (.tuple #[u1,u2])∧Qd w' w.heap.size u1 (Xt t)∧Qg w' w.heap.size u2 (parPs t)∧Below w.heap.size w w':=by
 have HPB:=hid hpb
 refine(callsIn_wide (n:=6)).1 ?_
 refine callsIn_of_wp_marks Tryz.func27 rfl trivial ?_ rfl;simp only [Tryz.ntmps27,List.size_toArray,List.length_cons,List.length_nil,Nat.reduceAdd,Nat.reduceSub,Array.replicate_succ,Array.replicate_zero,List.push_toArray,List.append_toArray,List.nil_append,List.cons_append];have F1:=hid (heap_alloc_new w (.cells #[.slice none 0 0] 65));have B1:=hid (bal w (.cells #[.slice none 0 0] 65));have F2:=hid (show((w.alloc (.cells #[.slice none 0 0] 65)).alloc (.cells #[.slice none 0 0] 36)).heap[w.heap.size+1]?=some (.cells #[.slice none 0 0] 36 (0,0)) from by
  have e:=heap_alloc_new (w.alloc (.cells #[.slice none 0 0] 65)) (.cells #[.slice none 0 0] 36);rw [show(w.alloc (.cells #[.slice none 0 0] 65)).heap.size=w.heap.size+1 by simp] at e;exact e)
 have HA2:=hid (show Below (w.alloc (.cells #[.slice none 0 0] 65)).heap.size (w.alloc (.cells #[.slice none 0 0] 65)) ((w.alloc (.cells #[.slice none 0 0] 65)).alloc (.cells #[.slice none 0 0] 36)) from bal _ _);have B2:=hid (B1.out.then HA2.out);have F12:=hid (bk HA2.out F1.out);have T2:=hid (hT.below B2.out)
 gi_wp2
 generalize (w.alloc (.cells #[.slice none 0 0] 65)).alloc (.cells #[.slice none 0 0] 36)=w5 at *
 refine⟨trivial,callsIn_wide.2 ((within_any (some ⟨pt,0,none⟩) [] [] w5).mono ?_)⟩
 rintro e w6 ⟨rfl,hw6⟩;have HB:=hid (show Below w5.heap.size w5 (((w5.alloc (.cells #[.pointer (some ⟨pt,0,none⟩)] 40)).alloc (.cells #[.string ⟨#[]⟩] 9)).alloc (.cells #[.string ⟨#[]⟩] 9)) from((bal _ _).alloc (by simp) _).alloc (by simp;omega) _);have c0:(((w5.alloc (.cells #[.pointer (some ⟨pt,0,none⟩)] 40)).alloc (.cells #[.string ⟨#[]⟩] 9)).alloc (.cells #[.string ⟨#[]⟩] 9)).heap[w5.heap.size]?=some (.cells #[.pointer (some ⟨pt,0,none⟩)] 40 (0,0)) :=
  (Below.heap_alloc _ _ _ (by simp;omega)).trans ((Below.heap_alloc _ _ _ (by simp)).trans (heap_alloc_new w5 (.cells #[.pointer (some ⟨pt,0,none⟩)] 40)))
 have c1:(((w5.alloc (.cells #[.pointer (some ⟨pt,0,none⟩)] 40)).alloc (.cells #[.string ⟨#[]⟩] 9)).alloc (.cells #[.string ⟨#[]⟩] 9)).heap[w5.heap.size+1]?=some (.cells #[.string ⟨#[]⟩] 9 (0,0)):=by
  have e:=heap_alloc_new (w5.alloc (.cells #[.pointer (some ⟨pt,0,none⟩)] 40)) (.cells #[.string ⟨#[]⟩] 9);rw [show(w5.alloc (.cells #[.pointer (some ⟨pt,0,none⟩)] 40)).heap.size=w5.heap.size+1 by simp] at e
  exact(Below.heap_alloc _ _ _ (by simp)).trans e
 have c2:(((w5.alloc (.cells #[.pointer (some ⟨pt,0,none⟩)] 40)).alloc (.cells #[.string ⟨#[]⟩] 9)).alloc (.cells #[.string ⟨#[]⟩] 9)).heap[w5.heap.size+1+1]?=some (.cells #[.string ⟨#[]⟩] 9 (0,0)):=by
  have e:=heap_alloc_new ((w5.alloc (.cells #[.pointer (some ⟨pt,0,none⟩)] 40)).alloc (.cells #[.string ⟨#[]⟩] 9)) (.cells #[.string ⟨#[]⟩] 9);rw [show((w5.alloc (.cells #[.pointer (some ⟨pt,0,none⟩)] 40)).alloc (.cells #[.string ⟨#[]⟩] 9)).heap.size=w5.heap.size+1+1 by simp] at e;exact e
 gi_wp2
 clear hw6;generalize ((w5.alloc (.cells #[.pointer (some ⟨pt,0,none⟩)] 40)).alloc (.cells #[.string ⟨#[]⟩] 9)).alloc (.cells #[.string ⟨#[]⟩] 9)=W6 at *;have F6:=hid (bk HB.out F2.out);have F16:=hid (bk HB.out F12.out);have B6:=hid (B2.out.then HB.out);have T6:=hid (T2.out.below HB.out)
 obtain⟨L,hL⟩:∃ L,L=inP t [] [] (Qn t []):=⟨_,rfl⟩
 have HLL:=hid (show L.length≤1000000 from by rw [hL,inP_all hpb,List.length_map];exact hpl);have HLP:=hid (show ∀ i,(L.getD i ([],[])).1.length≤maxLen from fun i=>by
  rw [hL,inP_all hpb,List.getD_eq_getElem?_getD,List.getElem?_map]
  cases e:(Qn t [])[i]? with
  | none=>exact Nat.zero_le _
  | some p=>exact paths_sz sz (List.mem_of_getElem? e))
 have SQ:=hid (within1_par 5 (by decide) w5.heap.size (w5.heap.size+1) (w5.heap.size+1+1) C pt w.heap.size (w.heap.size+1) t ok sz W6 T6.out c0 c1 c2 F16.out F6.out L hL);have HL:=hid hL;have HL0:=hid (lt_of_block F16.out);have HA0:=hid (lt_of_block F6.out);clear hT ok sz hpb hpl hL c0 c1 c2 T6 T2 F12 F1 F2 HA2 B1 B2 HB
 obtain⟨n0,hn0⟩:∃ n0,n0=W6.heap.size:=⟨_,rfl⟩
 have HI0:=hid (show ParI w W6.heap.size w.heap.size (w.heap.size+1) L [] W6 from⟨⟨_,F16.out,World.ownsRow_nil _ _ _ _⟩,⟨_,F6.out,World.ownsRow_nil _ _ _ _⟩,B6.out,Nat.le_refl _⟩);generalize ha0:Act.mk _ _=a0;refine wpIn_rangeFunc_ownH rfl (by omega) (gf:=94) (by rw [← ha0];rfl) trivial (enters_of Tryz.func94 (by kernel_rfl) rfl)
  SQ.out (fun h g=>h.trans g) (fun W l o o' hl ho hc _=>KpL.put hl HL0.out HA0.out ho hc) (Below.refl _ _) (fun _=>rfl)
  (fun ix W=>ParI w W6.heap.size w.heap.size (w.heap.size+1) L ix W) (fun _ _ _=>False) (fun s W1 W2 row hs hg hr=>hs.grown HL0.out HA0.out B6.out.size hg hr) (fun _ _ _ _ _ h _ _=>h) HI0.out
  (fun i a' W=>a'={ tmps:=(((a0.tmps.setIfInBounds 14 (.string ⟨(L.getD i ([],[])).1.toArray⟩)).setIfInBounds 15 (.string ⟨(L.getD i ([],[])).2.toArray⟩)).setIfInBounds 6 (.string ⟨(L.getD i ([],[])).1.toArray⟩)).setIfInBounds 7 (.string ⟨(L.getD i ([],[])).2.toArray⟩),defers:=[] }) ?own ?assign ?body ?done (fun D c pre W _ _ h=>h.elim)
 case own=>exact fun x a' s W W' row h hg hr=>h
 case assign =>
  intro l pre i W K hI hK;subst ha0;simp only [List.setIfInBounds_toArray,List.set_cons_zero,List.set_cons_succ]
  gi_wp2
  exact hK _ _ (KeepsFrom.refl _ _) (KpL.refl _) hI rfl
 case body =>
  rintro l pre i a' W _ _ hI rfl hlen;have HI:=hid hI;have HLN:=hid hlen;clear hI hlen;subst ha0;simp only [List.setIfInBounds_toArray,List.set_cons_zero,List.set_cons_succ];have PL:=hid (HLP.out i)
  obtain⟨y0,hy0⟩:∃ y,y=L.getD i ([],[]):=⟨_,rfl⟩
  obtain⟨p,tx⟩:=y0
  have HGD:=hid hy0.symm;rw [← hy0] at PL ⊢;simp only at PL ⊢;clear hy0
  gi_wp2
  refine⟨trivial,CallsIn.inRound l (callsIn_wide.2 ((plast_any W p PL.out).mono ?_))⟩
  rintro e W1 ⟨s,er,rfl,hb1,hx⟩;have HB1:=hid hb1;clear hb1
  rcases hx with ⟨hne,rfl,hbad⟩ | ⟨rfl,l0,y,kv,hpp,rfl,hkv⟩
  ·have d0:((er:Int)==0)=false:=by simpa using hne
   have HNP:=hid (par_bad hbad);clear hne hbad;have A2:=hid (bal W1 (.cells #[.string ⟨#[]⟩,.slice none 0 0] 106));have F2:=hid (heap_alloc_new W1 (.cells #[.string ⟨#[]⟩,.slice none 0 0] 106))
   gi_wp2
   generalize W1.alloc (.cells #[.string ⟨#[]⟩,.slice none 0 0] 106)=W2 at *
   refine⟨trivial,CallsIn.inRound l (callsIn_wide.2 ((pparent_any W2 p PL.out).mono ?_))⟩
   rintro e W3 ⟨⟨er2,rfl,_⟩,hb3⟩;have B13:=hid (A2.out.then hb3);have F3:=hid (bk hb3 F2.out);have B03:=hid (HB1.out.then B13.out);clear hb3 A2 F2;have HI3:=hid (HI.out.below B03.out);clear B13
   gi_wp2
   exact⟨(KeepsOthers.of_grownBy (Xm B03.out) (fun j o e=>by cases e)).from _,KpL.of_below B03.out HL0.out HA0.out HI.out.big,HI3.out.skip (by rw [HGD.out];exact HNP.out)⟩
  ·obtain⟨ka,kc,rfl⟩:=Ql hkv
   have HKV:=hid hkv;have HPP:=hid hpp
   obtain⟨yn,yk⟩:=y
   simp only at HKV ⊢;have UP:=hid (up_at hpp);clear hkv hpp;have A2:=hid (bal W1 (.cells #[.string ⟨yn.toArray⟩,.slice ka yk.length kc] 106));have F2:=hid (heap_alloc_new W1 (.cells #[.string ⟨yn.toArray⟩,.slice ka yk.length kc] 106))
   gi_wp2
   generalize W1.alloc (.cells #[.string ⟨yn.toArray⟩,.slice ka yk.length kc] 106)=W2 at *
   refine⟨trivial,CallsIn.inRound l (callsIn_wide.2 ((pparent_any W2 p PL.out).mono ?_))⟩
   rintro e W3 ⟨⟨er2,rfl,_⟩,hb3⟩;have B13:=hid (A2.out.then hb3);have F3:=hid (bk hb3 F2.out);have B03:=hid (HB1.out.then B13.out);clear hb3 A2 F2;rw [UP.out.1]
   by_cases hl0:l0=[]
   case neg =>
    have HNP:=hid (par_long HPP.out hl0);have hj:Zb l0≠[]:=fun e=>hl0 (UP.out.2.1 e)
    have hj1:(Zb l0==[])=false:=beq_eq_false_iff_ne.2 hj;have hj2:List.isEmpty (Zb l0)=false:=isEmpty_ne hj;clear hl0 hj
    obtain⟨x0,x1,_,_,xl⟩:=Qq F3.out
    have HI3:=hid (HI.out.below B03.out);clear B13
    gi_wp2
    exact⟨(KeepsOthers.of_grownBy (Xm B03.out) (fun j o e=>by cases e)).from _,KpL.of_below B03.out HL0.out HA0.out HI.out.big,HI3.out.skip (by rw [HGD.out];exact HNP.out)⟩
   case pos =>
    subst hl0;rw [show Zb []=[] from rfl]
    obtain⟨x0,x1,_,_,xl⟩:=Qq F3.out
    by_cases hyn:yn=parentT
    case neg =>
     have HNP:=hid (par_step HPP.out (fun v e=>hyn (congrArg Prod.fst e)));have hj1:(yn==[112,97,114,101,110,116])=false:=beq_eq_false_iff_ne.2 hyn;clear hyn;have HI3:=hid (HI.out.below B03.out);clear B13
     gi_wp2
     exact⟨(KeepsOthers.of_grownBy (Xm B03.out) (fun j o e=>by cases e)).from _,KpL.of_below B03.out HL0.out HA0.out HI.out.big,HI3.out.skip (by rw [HGD.out];exact HNP.out)⟩
    case pos =>
     have hj1:(yn==[112,97,114,101,110,116])=true:=by rw [hyn];rfl
     by_cases hyk:yk.length=1
     case neg =>
      have HNP:=hid (par_step HPP.out (fun v e=>hyk (by have:=congrArg Prod.snd e;simp only at this;rw [this];rfl)));have hj2:((yk.length:Int)==1)=false:=by simpa using (show ¬ ((yk.length:Int)=1) by omega)
      clear hyn hyk;have HI3:=hid (HI.out.below B03.out);clear B13
      gi_wp2
      exact⟨(KeepsOthers.of_grownBy (Xm B03.out) (fun j o e=>by cases e)).from _,KpL.of_below B03.out HL0.out HA0.out HI.out.big,HI3.out.skip (by rw [HGD.out];exact HNP.out)⟩
     case pos =>
      obtain⟨⟨kk,kx⟩,rfl⟩:∃ k,yk=[k]:=List.length_eq_one_iff.1 hyk
      obtain⟨g,rfl⟩:∃ g,ka=some ⟨g,0,none⟩:=by
       rcases Qd.shape HKV.out with ⟨_,h⟩ | ⟨g,cap,cur,h,_⟩
       ·cases h
       ·cases h;exact⟨g,rfl⟩
      have HK3:=hid (show Qd W3 W.heap.size (.slice (some ⟨g,0,none⟩) 1 kc) [(kk,kx)] from Qz HKV.out B13.out)
      obtain⟨z0,z1,_,zl,_⟩:=Qd.at HK3.out (j:=0) (by simp)
      simp only [List.getElem_cons_zero,Nat.zero_mul,Nat.zero_add] at z0 z1;simp only [List.length_cons,List.length_nil,Nat.zero_add] at F3 x0 x1 ⊢
      by_cases hkk:kk=localeT
      case neg =>
       have HNP:=hid (par_step HPP.out (fun v e=>hkk (by have:=congrArg Prod.snd e;simp at this;exact this.1)));have hj2:(kk==[108,111,99,97,108,101])=false:=beq_eq_false_iff_ne.2 hkk;clear hyn hyk hkk;have HI3:=hid (HI.out.below B03.out);clear B13
       gi_wp2
       exact⟨(KeepsOthers.of_grownBy (Xm B03.out) (fun j o e=>by cases e)).from _,KpL.of_below B03.out HL0.out HA0.out HI.out.big,HI3.out.skip (by rw [HGD.out];exact HNP.out)⟩
      case pos =>
       have HYP:=hid (show parF p=some kx from par_is.2 (by rw [HPP.out,hyn,hkk];rfl));have hj2:(kk==[108,111,99,97,108,101])=true:=by rw [hkk];rfl
       clear hyn hyk hkk;have HI3:=hid (HI.out.below B03.out)
       gi_wp2
       clear B13
       obtain⟨u,hu,hou⟩:=HI3.out.ls
       obtain⟨u2,hu2,hou2⟩:=HI3.out.at'
       obtain⟨au,cu,rfl⟩:=Ql hou
       obtain⟨au2,cu2,rfl⟩:=Qc hou2
       have HN3:=hid HI3.out.big;have HLQ:=hid (show(parL (pre.map fun i=>L.getD i ([],[]))).length≤1000000∧(atL (pre.map fun i=>L.getD i ([],[]))).length≤1000000 from by
        have h1:=parL_len (pre.map fun i=>L.getD i ([],[]));have h2:=atL_len (pre.map fun i=>L.getD i ([],[]));rw [List.length_map] at h1 h2
        have:=HLN.out
        have:=HLL.out
        omega)
       obtain⟨lp,hlp⟩:∃ lp,lp=parL (pre.map fun i=>L.getD i ([],[])):=⟨_,rfl⟩
       obtain⟨la,hla⟩:∃ la,la=atL (pre.map fun i=>L.getD i ([],[])):=⟨_,rfl⟩
       rw [← hlp] at hu hou HLQ;rw [← hla] at hu2 hou2 HLQ;have HLPE:=hid hlp;have HLAE:=hid hla;have HU:=hid hu;have HOU:=hid (show Qd W3 W6.heap.size (.slice au lp.length cu) lp from hou);have HU2:=hid hu2;have HOU2:=hid (show Qg W3 W6.heap.size (.slice au2 la.length cu2) la from hou2);have hW0:=hid (fun WW (h:WW=W3.drew∨WW=W3.drew.alloc (.cells #[.string ⟨kx.toArray⟩,.string ⟨tx.toArray⟩] 76))=>(show WW.heap[w.heap.size]?=some (.cells #[.slice au lp.length cu] 65 (0,0)) from by
        rcases h with rfl | rfl
        ·exact hu
        ·exact(Below.heap_alloc _ _ _ (lt_of_block (show W3.drew.heap[w.heap.size]?=_ from hu))).trans hu))
       have y0':W3.drew.cell? ⟨W1.heap.size,1,none⟩=some (.slice (some ⟨g,0,none⟩) 1 kc):=x1;have y1':W3.drew.cell? ⟨g,1,none⟩=some (.string ⟨kx.toArray⟩):=z1;have y2':W1.heap.size<W3.drew.heap.size:=xl;have y3':g<W3.drew.heap.size:=zl;clear hu hou hu2 hou2 hlp hla x0 x1 z0 z1 zl xl hj1 hj2;refine wpIn_region_inv (by kernel_rfl) (by kernel_rfl) [51,52,53,54,55,56,57,58,59,60] (RgA (pvals (.slice au lp.length cu) W1.heap.size g kc W3.heap.size kx tx) W3.drew (W3.drew.alloc (.cells #[.string ⟨kx.toArray⟩,.string ⟨tx.toArray⟩] 76)) (PcA W3.drew W6.heap.size w.heap.size (.slice au lp.length cu) (lp++[(kx,tx)])) (PsA W3.drew W6.heap.size w.heap.size (.slice au lp.length cu) (lp++[(kx,tx)]))) ?_ ?_ ?_
       ·intro f0;exact RgA.start
       ·intro listed f WW j hI hl oi hoi haf
        match j,hl,oi,hoi,haf with
        | 0,hl,oi,hoi,haf =>
         obtain rfl:=Option.some.inj hoi;have qr:=hW0.out WW (by
          by_cases g8:LL listed 8
          ·exact Or.inr (hI.wa g8 (fun g=>LL.no hl (hI.cl 9 0 (by decide) g)))
          ·exact Or.inl (hI.w0 g8))
         have q0:WW.cell? ⟨w.heap.size,0,none⟩=some (.slice au lp.length cu):=cR qr;have ql:=lt_of_block qr;refine Xz rfl rfl ?_;simp only [Jg,List.foldl_cons,List.foldl_nil,List.setIfInBounds_toArray,List.set_cons_zero,List.set_cons_succ]
         go_simp
         exact⟨upd f 51 (pvals (.slice au lp.length cu) W1.heap.size g kc W3.heap.size kx tx 0),by simp [upd,pvals],hI.val 0 (by decide) (fun k hk=>by unfold depA at hk;simp at hk)⟩
        | 1,hl,oi,hoi,haf =>
         obtain rfl:=Option.some.inj hoi;refine Xz rfl rfl ?_;simp only [Jg,List.foldl_cons,List.foldl_nil,List.setIfInBounds_toArray,List.set_cons_zero,List.set_cons_succ]
         go_simp
         exact⟨upd f 52 (pvals (.slice au lp.length cu) W1.heap.size g kc W3.heap.size kx tx 1),by simp [upd,pvals],hI.val 1 (by decide) (fun k hk=>by unfold depA at hk;simp at hk)⟩
        | 2,hl,oi,hoi,haf =>
         obtain rfl:=Option.some.inj hoi;have d1:=LL.of (haf ⟨1,Ground.data⟩ (by simp) rfl:listed.getD 1 false=true);have e1:=hI.vals 1 (by decide) d1;simp only [pvals,List.getD_cons_zero,List.getD_cons_succ,Nat.reduceAdd] at e1;obtain rfl:=hI.w0 (fun g=>LL.no hl (hI.cl 3 2 (by decide) (hI.cl 4 3 (by decide) (hI.cl 5 4 (by decide) (hI.cl 7 5 (by decide) (hI.cl 8 7 (by decide) (g)))))));refine Xz rfl rfl ?_;simp only [Jg,List.foldl_cons,List.foldl_nil,List.setIfInBounds_toArray,List.set_cons_zero,List.set_cons_succ]
         go_simp
         exact⟨upd f 53 (pvals (.slice au lp.length cu) W1.heap.size g kc W3.heap.size kx tx 2),by simp [upd,pvals,e1],hI.val 2 (by decide) (fun k hk=>by unfold depA at hk;simp at hk;subst hk;exact d1)⟩
        | 3,hl,oi,hoi,haf =>
         obtain rfl:=Option.some.inj hoi;have d2:=LL.of (haf ⟨2,Ground.data⟩ (by simp) rfl:listed.getD 2 false=true);have e2:=hI.vals 2 (by decide) d2;simp only [pvals,List.getD_cons_zero,List.getD_cons_succ,Nat.reduceAdd] at e2;refine Xz rfl rfl ?_;simp only [Jg,List.foldl_cons,List.foldl_nil,List.setIfInBounds_toArray,List.set_cons_zero,List.set_cons_succ]
         go_simp
         exact⟨upd f 54 (pvals (.slice au lp.length cu) W1.heap.size g kc W3.heap.size kx tx 3),by simp [upd,pvals,e2],hI.val 3 (by decide) (fun k hk=>by unfold depA at hk;simp at hk;subst hk;exact d2)⟩
        | 4,hl,oi,hoi,haf =>
         obtain rfl:=Option.some.inj hoi;have d3:=LL.of (haf ⟨3,Ground.data⟩ (by simp) rfl:listed.getD 3 false=true);have e3:=hI.vals 3 (by decide) d3;simp only [pvals,List.getD_cons_zero,List.getD_cons_succ,Nat.reduceAdd] at e3;refine Xz rfl rfl ?_;simp only [Jg,List.foldl_cons,List.foldl_nil,List.setIfInBounds_toArray,List.set_cons_zero,List.set_cons_succ]
         go_simp
         exact⟨upd f 55 (pvals (.slice au lp.length cu) W1.heap.size g kc W3.heap.size kx tx 4),by simp [upd,pvals,e3],hI.val 4 (by decide) (fun k hk=>by unfold depA at hk;simp at hk;subst hk;exact d3)⟩
        | 5,hl,oi,hoi,haf =>
         obtain rfl:=Option.some.inj hoi;have d4:=LL.of (haf ⟨4,Ground.data⟩ (by simp) rfl:listed.getD 4 false=true);have e4:=hI.vals 4 (by decide) d4;simp only [pvals,List.getD_cons_zero,List.getD_cons_succ,Nat.reduceAdd] at e4;obtain rfl:=hI.w0 (fun g=>LL.no hl (hI.cl 7 5 (by decide) (hI.cl 8 7 (by decide) (g))));refine Xz rfl rfl ?_;simp only [Jg,List.foldl_cons,List.foldl_nil,List.setIfInBounds_toArray,List.set_cons_zero,List.set_cons_succ]
         go_simp
         exact⟨upd f 56 (pvals (.slice au lp.length cu) W1.heap.size g kc W3.heap.size kx tx 5),by simp [upd,pvals,e4],hI.val 5 (by decide) (fun k hk=>by unfold depA at hk;simp at hk;subst hk;exact d4)⟩
        | 6,hl,oi,hoi,haf =>
         obtain rfl:=Option.some.inj hoi;refine Xz rfl rfl ?_;simp only [Jg,List.foldl_cons,List.foldl_nil,List.setIfInBounds_toArray,List.set_cons_zero,List.set_cons_succ]
         go_simp
         exact⟨upd f 57 (pvals (.slice au lp.length cu) W1.heap.size g kc W3.heap.size kx tx 6),by simp [upd,pvals],hI.val 6 (by decide) (fun k hk=>by unfold depA at hk;simp at hk)⟩
        | 7,hl,oi,hoi,haf =>
         obtain rfl:=Option.some.inj hoi;have d5:=LL.of (haf ⟨5,Ground.data⟩ (by simp) rfl:listed.getD 5 false=true);have e5:=hI.vals 5 (by decide) d5;have d6:=LL.of (haf ⟨6,Ground.data⟩ (by simp) rfl:listed.getD 6 false=true);have e6:=hI.vals 6 (by decide) d6;simp only [pvals,List.getD_cons_zero,List.getD_cons_succ,Nat.reduceAdd] at e5 e6;refine Xz rfl rfl ?_;simp only [Jg,List.foldl_cons,List.foldl_nil,List.setIfInBounds_toArray,List.set_cons_zero,List.set_cons_succ]
         go_simp
         exact⟨upd f 58 (pvals (.slice au lp.length cu) W1.heap.size g kc W3.heap.size kx tx 7),by simp [upd,pvals,e5,e6],hI.val 7 (by decide) (fun k hk=>by unfold depA at hk;simp at hk;rcases hk with rfl | rfl;exact d5;exact d6)⟩
        | 8,hl,oi,hoi,haf =>
         obtain rfl:=Option.some.inj hoi;have d7:=LL.of (haf ⟨7,Ground.data⟩ (by simp) rfl:listed.getD 7 false=true);have e7:=hI.vals 7 (by decide) d7;simp only [pvals,List.getD_cons_zero,List.getD_cons_succ,Nat.reduceAdd] at e7;obtain rfl:=hI.w0 (LL.no hl);refine Xz rfl rfl ?_;simp only [Jg,List.foldl_cons,List.foldl_nil,List.setIfInBounds_toArray,List.set_cons_zero,List.set_cons_succ]
         go_simp
         exact⟨upd f 59 (pvals (.slice au lp.length cu) W1.heap.size g kc W3.heap.size kx tx 8),by simp [upd,pvals,e7],hI.alloc (LL.no hl) (LL.size hl) (fun k hk=>by unfold depA at hk;simp at hk;subst hk;exact d7)⟩
        | 9,hl,oi,hoi,haf =>
         obtain rfl:=Option.some.inj hoi;have d0:=LL.of (haf ⟨0,Ground.data⟩ (by simp) rfl:listed.getD 0 false=true);have e0:=hI.vals 0 (by decide) d0;have d8:=LL.of (haf ⟨8,Ground.data⟩ (by simp) rfl:listed.getD 8 false=true);have e8:=hI.vals 8 (by decide) d8;simp only [pvals,List.getD_cons_zero,List.getD_cons_succ,Nat.reduceAdd] at e0 e8;obtain rfl:=hI.wa d8 (LL.no hl);refine Xz rfl rfl ?_;simp only [Jg,List.foldl_cons,List.foldl_nil,List.setIfInBounds_toArray,List.set_cons_zero,List.set_cons_succ];simp only [e0,e8];refine operIn_pushP (w:=W3.drew) (.tmp 51) (.tmp 59) rfl W6.heap.size (.slice au lp.length cu) lp (kx,tx) rfl (World.ownsRow.drew HOU.out) rfl HLQ.out.1 HN3.out (fun v' w' own gr mv=>?_)
         refine⟨upd f 60 v',by simp [upd,Act.put,e0,e8],hI.app (LL.no hl) (LL.size hl) (fun k hk=>by unfold depA at hk;simp at hk;rcases hk with rfl | rfl;exact d0;exact d8) ⟨own,gr,mv,?_⟩⟩
         exact(gr.block _ (lt_of_block HU.out) (fun e=>Qx HOU.out HU.out (by decide) e.symm)).trans HU.out
        | 10,hl,oi,hoi,haf =>
         obtain rfl:=Option.some.inj hoi;have d9:=LL.of (haf ⟨9,Ground.data⟩ (by simp) rfl:listed.getD 9 false=true);have hPc:=hI.wc d9 (LL.no hl)
         obtain⟨hv,hg,hm,hr⟩:=hPc
         obtain⟨a6,c6,e6⟩:=Ql hv
         have q0:WW.cell? ⟨w.heap.size,0,none⟩=some (.slice au lp.length cu):=cR hr;have qf:=frozen_of_row _ _ 0 _ _ hr;have ql:=lt_of_block hr;refine Xz rfl rfl ?_;simp only [Jg,List.foldl_cons,List.foldl_nil,List.setIfInBounds_toArray,List.set_cons_zero,List.set_cons_succ];simp only [e6]
         go_simp
         refine⟨f,by simp [e6],hI.store d9 (LL.size hl) (fun k hk=>by unfold depA at hk;simp at hk;subst hk;exact d9) ⟨f 60,WW,⟨hv,hg,hm,hr⟩,by rw [e6];simp⟩⟩
        | j+11,hl,oi,hoi,haf=>simp at hoi
       ·intro listed f WW hI hall;have d9:=hall 9 (by decide);have hv:=fun j (hj:j<9)=>hI.vals j hj (hall j (by show j<11;omega))
        obtain⟨v9,W9,⟨hv9,hg9,hm9,hr9⟩,rfl⟩:=hI.ws (hall 10 (by decide))
        have ev0:=hv 0 (by decide);have ev1:=hv 1 (by decide);have ev2:=hv 2 (by decide);have ev3:=hv 3 (by decide);have ev4:=hv 4 (by decide);have ev5:=hv 5 (by decide);have ev6:=hv 6 (by decide);have ev7:=hv 7 (by decide);have ev8:=hv 8 (by decide);simp only [pvals,List.getD_cons_zero,List.getD_cons_succ,Nat.reduceAdd] at ev0 ev1 ev2 ev3 ev4 ev5 ev6 ev7 ev8
        obtain⟨f60,hf60⟩:∃ v,v=f 60:=⟨_,rfl⟩
        simp only [Jg,List.foldl_cons,List.foldl_nil,List.setIfInBounds_toArray,List.set_cons_zero,List.set_cons_succ,ev0,ev1,ev2,ev3,ev4,ev5,ev6,ev7,ev8,← hf60];clear hI hall hv ev0 ev1 ev2 ev3 ev4 ev5 ev6 ev7 ev8 hf60 d9 y0' y1' y2' y3';have HBLK:=hid (fun k (h:(Value.slice au lp.length cu).ownBlock=some k)=>(World.ownsRow.lt HOU.out k h));have K4:=hid ((KpL.drew W3).trans (KpL.app (W:=W3.drew) (n0:=W6.heap.size) (lb:=w.heap.size) (ab:=w.heap.size+1) (b:=w.heap.size) (Or.inl rfl) (by omega) HL0.out HA0.out HN3.out HU.out (fun k h=>(HBLK.out k h).1) hg9 hm9));have hne1:w.heap.size+1≠w.heap.size:=by omega
        have R4:=hid (show(W9.setCell ⟨w.heap.size,0,none⟩ v9).heap[w.heap.size]?=some (.cells #[v9] 65 (0,0)) from heap_setCell_same _ _ _ _ _ _ hr9);have O4:=hid (Qw hv9 (Qx hv9 hr9 (by decide)) 0 v9);have hu9:W9.heap[w.heap.size+1]?=some (.cells #[.slice au2 la.length cu2] 36 (0,0)):=(hg9.block _ (lt_of_block HU2.out) (fun e=>Qx HOU.out HU2.out (by decide) e.symm)).trans HU2.out;have R24:=hid ((heap_setCell_other W9 ⟨w.heap.size,0,none⟩ (w.heap.size+1) v9 hne1).trans hu9);have ho9:Qg W9 W6.heap.size (.slice au2 la.length cu2) la:=World.ownsRow.kept (World.ownsRow.drew HOU2.out) hg9 (Kn HOU2.out HOU.out (by decide));have O24:=hid (show Qg (W9.setCell ⟨w.heap.size,0,none⟩ v9) W6.heap.size (.slice au2 la.length cu2) la from Qw ho9 (Qx ho9 hr9 (by decide)) 0 v9);have KO4:=hid (show KeepsFrom W6.heap.size W3 (W9.setCell ⟨w.heap.size,0,none⟩ v9) from(((KeepsOthers.drew W3).trans (KeepsOthers.of_grownBy hg9 (own_cells (World.ownsRow.drew HOU.out)))).trans (KeepsOthers.setCell _ _ _)).from _);have B4:=hid (show Below w.heap.size W3 (W9.setCell ⟨w.heap.size,0,none⟩ v9) from((((Below.refl w.heap.size W3).drew).grown hg9 HI3.out.bel.size (fun k e=>Nat.le_trans B6.out.size (HBLK.out k e).1)).setCell (p:=⟨w.heap.size,0,none⟩) (Nat.le_refl _) v9));have SZ4:=hid (show W3.heap.size≤(W9.setCell ⟨w.heap.size,0,none⟩ v9).heap.size from by simpa using hg9.size);clear hv9 hg9 hm9 hr9 hne1 hu9 ho9;generalize W9.setCell ⟨w.heap.size,0,none⟩ v9=W4 at *;have x0:W4.cell? ⟨w.heap.size+1,0,none⟩=some (.slice au2 la.length cu2):=cR R24.out;have xf:=frozen_of_row _ _ 0 _ _ R24.out;have xl:=lt_of_block R24.out;have HN4:=hid (Nat.le_trans HN3.out SZ4.out)
        gi_wp2_with (gi_at_builtin;refine wpListIn_pushS rfl (.tmp 61) (.tmp 63) rfl W6.heap.size (.slice au2 la.length cu2) la p rfl O24.out rfl HLQ.out.2 HN4.out ?_;intro v6 w6 own6 gr6 mv6;obtain⟨a6,c6,rfl⟩:=Qc own6;have GR6:=hid gr6;have MV6:=hid mv6;have F10:=hid ((gr6.block _ (lt_of_block R24.out) (fun e=>Qx O24.out R24.out (by decide) e.symm)).trans R24.out);have OW6:=hid (show Qg w6 W6.heap.size _ (la++[p]) from own6);clear own6 gr6 mv6 x0 xf xl;have x0:w6.cell? ⟨w.heap.size+1,0,none⟩=some (.slice au2 la.length cu2):=(by rw [cell_of_row _ _ _ _ _ _ F10.out];rfl);have xf:=frozen_of_row _ _ 0 _ _ F10.out;have xl:=lt_of_block F10.out)
        have hne2:w.heap.size≠w.heap.size+1:=by omega
        have HB2:=hid (fun k (h:(Value.slice au2 la.length cu2).ownBlock=some k)=>(World.ownsRow.lt O24.out k h));have o6:=OW6.out;have m6:=MV6.out;simp only [List.length_append,List.length_cons,List.length_nil,Nat.zero_add] at o6 m6;have hr6:w6.heap[w.heap.size]?=some (.cells #[v9] 65 (0,0)):=(GR6.out.block _ (lt_of_block R4.out) (fun e=>Qx O24.out R4.out (by decide) e.symm)).trans R4.out;have ho6:Qd w6 W6.heap.size v9 (lp++[(kx,tx)]):=World.ownsRow.kept O4.out GR6.out (Kn O4.out O24.out (by decide))
        refine⟨((((KeepsOthers.of_grownBy (Xm B03.out) (fun j o e=>by cases e)).from _).trans KO4.out).trans ((KeepsOthers.of_grownBy GR6.out (own_cells O24.out)).from _)).trans ((KeepsOthers.setCell _ _ _).from _),
         ((KpL.of_below B03.out HL0.out HA0.out HI.out.big).trans K4.out).trans (KpL.app (n0:=W6.heap.size) (lb:=w.heap.size) (ab:=w.heap.size+1) (b:=w.heap.size+1) (Or.inr rfl) (by omega) HL0.out HA0.out HN4.out R24.out (fun k h=>(HB2.out k h).1) GR6.out m6),?_,?_,?_,?_⟩
        ·refine⟨v9,(heap_setCell_other _ _ _ _ hne2).trans hr6,?_⟩
         rw [List.map_append,List.map_singleton,parL_snoc,HGD.out,HYP.out,← HLPE.out];exact Qw ho6 (Qx ho6 F10.out (by decide)) _ _
        ·refine⟨.slice a6 (la.length+1) c6,heap_setCell_same _ _ _ _ _ _ F10.out,?_⟩
         rw [List.map_append,List.map_singleton,atL_snoc,HGD.out,HYP.out,← HLAE.out];exact Qw o6 (Qx o6 F10.out (by decide)) _ _
        ·exact(((HI.out.bel.then B03.out).trans B4.out).grown GR6.out (Nat.le_trans HI3.out.bel.size SZ4.out) (fun k e=>Nat.le_trans B6.out.size (HB2.out k e).1)).setCell (p:=⟨w.heap.size+1,0,none⟩) (by simp) _
        ·have:=GR6.out.size
         have:=HN4.out
         simp
         omega
 case done =>
  rintro D xs W hD rfl hI hK
  obtain⟨⟨u1,hu1,ho1⟩,⟨u2,hu2,ho2⟩,hbel,hbig⟩:=hI
  rw [range_get] at ho1 ho2;rw [HL.out,parL_all HPB.out] at ho1;rw [HL.out,atL_all HPB.out] at ho2
  obtain⟨a1,c1,rfl⟩:=Ql ho1
  obtain⟨a2,c2,rfl⟩:=Qc ho2
  have d0:W.cell? ⟨w.heap.size,0,none⟩=some (.slice a1 (Xt t).length c1):=cR hu1;have d1:W.cell? ⟨w.heap.size+1,0,none⟩=some (.slice a2 (parPs t).length c2):=cR hu2;have dl0:=lt_of_block hu1;have dl1:=lt_of_block hu2;have O1:=hid (show Qd W w.heap.size (.slice a1 (Xt t).length c1) (Xt t) from ownP_monoS ho1 B6.out.size);have O2:=hid (show Qg W w.heap.size (.slice a2 (parPs t).length c2) (parPs t) from⟨ho2.1,by
   rcases ho2.2 with h2 | ⟨b,cap,cur,h1,h2,h3⟩
   ·exact Or.inl h2
   ·exact Or.inr ⟨b,cap,cur,h1,Nat.le_trans B6.out.size h2,h3⟩⟩)
  have HBL:=hid hbel;clear hu1 hu2 ho1 ho2 hbel hbig;subst ha0
  gi_wp2
  gi_region
  all_goals gi_wp2
  have hK':W.drew.heap[D]?=some (.deferred (some [])):=hK
  refine⟨by simp,.inl ⟨_,_,rfl,run_takeDeferred hK',?_⟩⟩
  refine⟨.tuple #[.slice a1 (Xt t).length c1,.slice a2 (parPs t).length c2],?_,⟨_,_,rfl,?_,?_,?_⟩⟩
  ·simp [results,Tryz.f27,go_sem]
  ·exact own_rows (World.ownsRow.drew O1.out) (grownBy_putObj' _ D (.deferred none)) (fun r e=>by cases e;exact⟨_,hK',rfl⟩)
  ·exact own_rows (World.ownsRow.drew O2.out) (grownBy_putObj' _ D (.deferred none)) (fun r e=>by cases e;exact⟨_,hK',rfl⟩)
  ·exact HBL.out.drew.trans (belowK_b (w:=w) (Nat.le_refl _) _ D _ _ (Nat.le_trans B6.out.size hD) hK' rfl rfl)
end
section
open Go.RowKit Go.Lib
theorem rfile_cell {W:World}{b Bt:Nat}{v1 v2 v3:Value}(h:W.heap[b]?=some (.cells #[.pointer (some ⟨Bt,0,none⟩),v1,v2,v3] 64 (0,0))):W.cell? ⟨b,0,none⟩=some (.pointer (some ⟨Bt,0,none⟩))∧b<W.heap.size:=⟨by rw [cell_of_row _ _ _ _ _ _ h];rfl,lt_of_block h⟩
theorem rwrong_any14 {B0:Nat}(w:World)(b Bt:Nat)(v1 v2 v3:Value)(t:Tb)(er:Nat)(g:Str)(h:w.heap[b]?=some (.cells #[.pointer (some ⟨Bt,0,none⟩),v1,v2,v3] 64 (0,0)))(ht:TbP B0 w Bt t)(hg:g.length≤maxLen) :
  Calls Tryz.prog 32 #[.pointer (some ⟨b,0,none⟩),.int .i64 er,.string ⟨g.toArray⟩] w fun e w'=>e=.returned (.agg #[.int .i64 er,.int .i64 (rFile (Qy t.als Qv g)),.int .i64 (rAt (Qy t.als Qv g))])∧Below w.heap.size w w':=by
 have B1:=hid (bal w (.cells #[.int .i64 0,.int .i64 0,.int .i64 0] 26));have F1:=hid (heap_alloc_new w (.cells #[.int .i64 0,.int .i64 0,.int .i64 0] 26))
 obtain⟨bv,ba,bn,bp,N,V,tb⟩:=ht.below B1.out
 have AL:=hid (alias_any tb g hg);have HR:=hid (bk B1.out h);clear h ht tb;generalize rFile (Qy t.als Qv g)=fi at *;generalize rAt (Qy t.als Qv g)=at' at *;generalize (Qy t.als Qv g).isSome=so at *
 go_enter Tryz.func32,Tryz.ntmps32
 go_upto_region 1 with fail;generalize w.alloc (.cells #[.int .i64 0,.int .i64 0,.int .i64 0] 26)=w1 at *
 obtain⟨a0,al⟩:=rfile_cell HR.out
 go_wp2_with fail;refine AL.out.mono ?_;rintro e w2 ⟨rfl,hb⟩;have F2:=hid (bk hb F1.out);have B2:=hid (B1.out.then hb);clear hb AL
 obtain⟨z0,z1,z2,zl⟩:=Qj F2.out
 obtain⟨f0,f1,f2⟩:=Zl F2.out
 go_wp2_with fail;have FR:(((w2.setCell ⟨w.heap.size,0,none⟩ (.int .i64 er)).setCell ⟨w.heap.size,1,none⟩ (.int .i64 fi)).setCell ⟨w.heap.size,2,none⟩ (.int .i64 at')).heap[w.heap.size]?=some (.cells #[.int .i64 er,.int .i64 fi,.int .i64 at'] 26 (0,0)):=by
  rw [heap_setCell_same _ _ _ _ _ _ (heap_setCell_same _ _ _ _ _ _ (heap_setCell_same _ _ _ _ _ _ F2.out))];simp
 obtain⟨q0,q1,q2,ql⟩:=Qj FR
 refine bodyPost_ret (v:=.agg #[.int .i64 er,.int .i64 fi,.int .i64 at']) (by simp [results,Tryz.results32,go_sem,q0,q1,q2]) rfl ?_
 exact⟨rfl,((B2.out.setCell (p:=⟨w.heap.size,0,none⟩) (Nat.le_refl _) _).setCell (p:=⟨w.heap.size,1,none⟩) (Nat.le_refl _) _).setCell (p:=⟨w.heap.size,2,none⟩) (Nat.le_refl _) _⟩
end
end Go.Proofs.YtbbmdbolkicpcaaGreatDoor
