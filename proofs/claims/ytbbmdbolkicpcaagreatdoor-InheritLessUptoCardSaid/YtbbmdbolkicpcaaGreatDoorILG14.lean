/- InhAdd, InhLrn, InhLearn, TbNil, TbWithin, TbWithG, PtEnds, PtLast, InhPar0 -/
import Derived.Test.YtbbmdbolkicpcaaGreatDoorILG13
import Derived.Test.YtbbmdbolkicpcaaGreatDoorILG08
import Derived.Test.YtbbmdbolkicpcaaGreatDoorILG09
import Derived.Test.YtbbmdbolkicpcaaGreatDoorILG11
import Derived.Test.YtbbmdbolkicpcaaGreatDoorILG12
import Derived.Deep.LoopGhost
import Derived.Test.YtbbmdbolkicpcaaGreatDoorILG10
import Derived.RangeFuncNested
import Derived.RangeFuncBound
import Derived.RangeFuncCalls
import Derived.RangeFuncLeaves
import Derived.Shelf.Abstract
import Derived.Shelf.RegionOpen
import Derived.OwnWalkIn
import Derived.TacticsInMore
import Derived.LoopNIn
import Derived.LoopIn
import Derived.RegionIn
import Derived.BigRegionIn
set_option maxRecDepth 100000
set_option maxHeartbeats 32000000
set_option linter.unusedVariables false
set_option linter.unusedSimpArgs false
namespace Go.Proofs.YtbbmdbolkicpcaaGreatDoor
section
open Go.RowKit Go.Lib Go.Maps
def addK (K:List Str)(p:Str):List Str:=if p∈K then K else K++[p]
def addP (K pile:List Str)(p:Str):List Str:=if p∈K then pile else pile++[p]
theorem own_map {α:Type}{E:El α}{W:World}{base size n km n2:Nat}{e:TypeId}{v:Value}{xs:List Value}{L:List (Str×α)}(h:W.ownsRow base e size v n xs)(hm:Zh E W km n2 L):v.ownBlock=none∨v.ownBlock≠some km:=by
 rcases h.2 with ⟨rfl,_⟩ | ⟨g,cap,cur,rfl,_,hg,_⟩
 ·exact Or.inl rfl
 ·refine Or.inr fun e=>?_
  cases e
  obtain⟨es,ck,h2⟩:=hm.isMap
  rw [hg] at h2;cases h2
structure LrM (w W:World)(rb km Rb Pb:Nat)(cs:Array Value)(K:List Str)(pv:Value)(pile:List Str):Prop where
 r0:W.heap[Rb]?=some (.cells #[.pointer (some ⟨rb,0,none⟩)] 23 (0,0))
 pb:W.heap[Pb]?=some (.cells #[pv] 36 (0,0))
 ps:Qg W w.heap.size pv pile
 mp:Zh elBo W km K.length (Jb K)
 on:w.grownBy W (some km)
 rs:W.heap[rb]?=some (.cells cs 64 (0,0))
 lr:w.heap.size≤Rb
 lp:w.heap.size≤Pb
 kl:km<w.heap.size
 nd:K.Nodup
def LrK (W W':World)(km Pb:Nat)(pv pv':Value):Prop:=W.heap.size≤W'.heap.size∧∀ k,k<W.heap.size→k≠km→k≠Pb→pv.ownBlock≠some k→W'.heap[k]?=W.heap[k]?∧pv'.ownBlock≠some k
section
variable {w W W' : World} {rb km Rb Pb : Nat} {cs : Array Value} {K pile : List Str} {pv : Value}
theorem LrM.below (h:LrM w W rb km Rb Pb cs K pv pile)(hb:Below W.heap.size W W'):LrM w W' rb km Rb Pb cs K pv pile :=
 ⟨bk hb h.r0,bk hb h.pb,Qz h.ps hb,h.mp.below hb,⟨hb.os.trans h.on.os,hb.tape.trans h.on.tape,hb.output.trans h.on.output,Nat.le_trans h.on.size hb.size,fun k hk hne=>(hb.block k (Nat.lt_of_lt_of_le hk h.on.size)).trans (h.on.block k hk hne)⟩,bk hb h.rs,h.lr,h.lp,h.kl,h.nd⟩
theorem ladd_any {Bt va vc:Value}(h:LrM w W rb km Rb Pb #[Bt,vc,va,.map (some km)] K pv pile)(p:Str)(hp:p.length≤maxLen)(hK:K.length≤1000000)(hl:pile.length≤1000000) :
  Calls Tryz.prog 74 #[.string ⟨p.toArray⟩,.pointer (some ⟨Rb,0,none⟩),.pointer (some ⟨Pb,0,none⟩)] W fun x w'=>x=.returned (.tuple #[])∧∃ pv',LrM w w' rb km Rb Pb #[Bt,vc,va,.map (some km)] (addK K p) pv' (addP K pile p)∧LrK W w' km Pb pv pv':=by
 obtain⟨a0,a1,a2,a3,al⟩:=Kk h.rs
 have r0:W.cell? ⟨Rb,0,none⟩=some (.pointer (some ⟨rb,0,none⟩)):=cR h.r0;have rl:=lt_of_block h.r0;have H:=hid h
 by_cases hm:p∈K
 ·have HF:=hid (show addK K p=K∧addP K pile p=pile by unfold addK addP;rw [if_pos hm,if_pos hm];exact⟨rfl,rfl⟩);have HLK:=hid (show Zj (Jb K) p=some true by rw [look_set,if_pos hm]);clear h hm
  go_enter Tryz.func74,Tryz.ntmps74
  go_wp2_with (at_lookup;refine wpList_lookE1 (E:=elBo) H.out.mp Tryz.underlying61 zeroBo rfl _ _ rfl rfl p rfl hp (.bool true) (by rw [HLK.out];rfl) ?_)
  refine bodyPost_end (v:=.tuple #[]) (by simp [results,Tryz.results74,go_sem]) rfl ?_
  exact⟨rfl,pv,by rw [HF.out.1,HF.out.2];exact H.out,Nat.le_refl _,fun k _ _ _ h=>⟨rfl,h⟩⟩
 ·have HF:=hid (show addK K p=K++[p]∧addP K pile p=pile++[p] by unfold addK addP;rw [if_neg hm,if_neg hm];exact⟨rfl,rfl⟩);have HLK:=hid (show Zj (Jb K) p=none by rw [look_set,if_neg hm]);have HM:=hid hm;clear h hm;have HWS:=hid H.out.on.size
  go_enter Tryz.func74,Tryz.ntmps74
  go_wp2_with (first
   | (at_lookup;refine wpList_lookE1 (E:=elBo) H.out.mp Tryz.underlying61 zeroBo rfl _ _ rfl rfl p rfl hp (.bool false) (by rw [HLK.out];rfl) ?_)
   | (at_mapUpdate;refine wpList_sayE (E:=elBo) H.out.mp (by unfold maxLen;omega) Tryz.underlying61 rfl _ _ _ rfl rfl p rfl hp true rfl HLK.out ?_;intro w3 ho3 hg3;have HO3:=hid ho3;have HG3:=hid hg3;have P3:=hid (Kd H.out.pb H.out.mp hg3);have p0:w3.cell? ⟨Pb,0,none⟩=some pv:=(by rw [cell_of_row _ _ _ _ _ _ P3.out];rfl);have pf:=frozen_of_row _ _ 0 _ _ P3.out;have pl:=lt_of_block P3.out;clear ho3 hg3 a0 a1 a2 a3 al r0 rl)
   | (at_builtin;refine Xk rfl (.tmp 16) (.tmp 18) rfl w.heap.size pv pile p rfl (World.ownsRow.kept H.out.ps HG3.out (own_map H.out.ps H.out.mp)) rfl hl (Nat.le_trans HWS.out HG3.out.size) ?_;intro pv' w4 own4 gr4 mv4;obtain⟨a',c',rfl⟩:=Qc own4;rw [show(pile++[p]).length=pile.length+1 from by simp] at own4 mv4;have O4:=hid own4;have G4:=hid gr4;have MV4:=hid mv4;have PB4:=hid ((gr4.block _ (lt_of_block P3.out) (fun e=>Qx H.out.ps H.out.pb (by decide) e.symm)).trans P3.out);clear own4 gr4 mv4 p0 pf pl;have p0:w4.cell? ⟨Pb,0,none⟩=some pv:=(by rw [cell_of_row _ _ _ _ _ _ PB4.out];rfl);have pf:=frozen_of_row _ _ 0 _ _ PB4.out;have pl:=lt_of_block PB4.out))
  refine bodyPost_end (v:=.tuple #[]) (by simp [results,Tryz.results74,go_sem]) rfl ?_
  refine⟨rfl,.slice a' (pile.length+1) c',?_⟩
  rw [HF.out.1,HF.out.2];have nx:∀ {k:Nat} {c:Array Value} {ty:TypeId},W.heap[k]?=some (.cells c ty (0,0))→9≠ty→w4.heap[k]?=some (.cells c ty (0,0)):=fun {k c ty} hk ht=>by
   have h3:=Kd hk H.out.mp HG3.out
   exact(G4.out.block _ (lt_of_block h3) (fun e=>Qx (World.ownsRow.kept H.out.ps HG3.out (own_map H.out.ps H.out.mp)) h3 ht e.symm)).trans h3
  have hrp:Rb≠Pb:=fun e=>by
   have h1:=H.out.r0;rw [e,H.out.pb] at h1
   have:=Option.some.inj h1
   injection this with _ e2 _
   revert e2
   decide
  have hsp:rb≠Pb:=fun e=>by
   have h1:=H.out.rs;rw [e,H.out.pb] at h1
   have:=Option.some.inj h1
   injection this with _ e2 _
   revert e2
   decide
  have hkp:km≠Pb:=fun e=>by
   obtain⟨es,ck,h2⟩:=H.out.mp.isMap
   rw [e,H.out.pb] at h2
   cases h2
  have hkv:(w4.setCell ⟨Pb,0,none⟩ (.slice a' (pile.length+1) c')).heap[km]?=w3.heap[km]?:=by
   rw [heap_setCell_other _ _ _ _ hkp];refine G4.out.block _ HO3.out.lt (fun e=>?_)
   rcases own_map H.out.ps H.out.mp with h | h
   ·rw [h] at e;cases e
   ·exact h e.symm
  refine⟨?_,by simpa using Nat.le_trans HG3.out.size G4.out.size,fun k hk h1 h2 h3=>⟨by rw [heap_setCell_other _ _ _ _ h2,G4.out.block k (Nat.lt_of_lt_of_le hk HG3.out.size) (fun e=>h3 e.symm),HG3.out.block k hk (fun e=>h1 (Option.some.inj e))],fun e=>?_⟩⟩
  rotate_left
  ·rcases MV4.out with m | ⟨j,h4,h5⟩
   ·exact h3 (m.symm.trans e)
   ·rw [h4] at e
    cases e
    have:=HG3.out.size
    omega
  refine⟨(heap_setCell_other _ _ _ _ hrp).trans (nx H.out.r0 (by decide)),by rw [heap_setCell_same _ _ _ _ _ _ PB4.out];rfl,Qw O4.out (Qx O4.out PB4.out (by decide)) 0 _,?_,?_,(heap_setCell_other _ _ _ _ hsp).trans (nx H.out.rs (by decide)),H.out.lr,H.out.lp,H.out.kl,?_⟩
  ·have:=HO3.out.block hkv
   rw [List.length_append,List.length_singleton,show Jb (K++[p])=Jb K++[(p,true)] from by simp [Jb]];exact this
  ·have h1:=H.out.on;have h2:=HG3.out;have h3:=G4.out
   refine⟨h3.os.trans (h2.os.trans h1.os),h3.tape.trans (h2.tape.trans h1.tape),h3.output.trans (h2.output.trans h1.output),by simpa using Nat.le_trans h1.size (Nat.le_trans h2.size h3.size),fun k hk hne=>?_⟩
   have hkW:=Nat.lt_of_lt_of_le hk h1.size;rw [heap_setCell_other _ _ _ _ (fun e=>by have:=H.out.lp;simp only at e;omega),h3.block k (Nat.lt_of_lt_of_le hkW h2.size) (fun e=>by have:=(World.ownsRow.lt H.out.ps k e.symm).1;omega),h2.block k hkW hne];exact h1.block k hk hne
  ·rw [List.nodup_append]
   exact⟨H.out.nd,by simp,fun a ha b hb e=>HM.out (by simp at hb;rw [← hb,← e];exact ha)⟩
end
end
section
open Go.RowKit Go.Lib Go.Maps
structure LrnI (D:List Al)(S:List Str)(K pile:List Str)(cur:Option (Str×Nat)):Prop where
 gen:∀ p∈K,Gen D S p
 base:∀ p∈S,p∈K
 pk:∀ p∈pile,p∈K
 closed:∀ p∈K,p ∉ pile→(∀ c u,cur=some (c,u)→p≠c)→∀ a∈D,∀ q,movedF p a=some q→q∈K
 part:∀ c u,cur=some (c,u)→c∈K∧∀ a∈D.take u,∀ q,movedF c a=some q→q∈K
section
variable {D : List Al} {S K pile : List Str} {c q : Str} {u : Nat}
theorem LrnI.start (h1:∀ p∈K,p∈S)(h2:∀ p∈S,p∈K):LrnI D S K K none :=
 ⟨fun p hp=>.base (h1 p hp),h2,fun p hp=>hp,fun p hp hn=>absurd hp hn,fun c u e=>by cases e⟩
theorem LrnI.pop {m:Nat}(h:LrnI D S K pile none)(hm:pile.length=m+1)(hc:pile[m]?=some c):LrnI D S K (pile.take m) (some (c,0)):=by
 have e:pile=pile.take m++[c]:=by
  have h1:m<pile.length:=by omega
  rw [List.getElem?_eq_getElem h1] at hc;rw [← Option.some.inj hc,← List.take_succ_eq_append_getElem h1,List.take_of_length_le (by omega)]
 refine⟨h.gen,h.base,fun p hp=>h.pk p (List.mem_of_mem_take hp),fun p hp hn hne a ha q hq=>?_,fun c' u e'=>?_⟩
 ·refine h.closed p hp (fun hx=>?_) (fun _ _ e=>by cases e) a ha q hq;rw [e] at hx
  rcases List.mem_append.1 hx with hx | hx
  ·exact hn hx
  ·exact hne c 0 rfl (List.mem_singleton.1 hx)
 ·cases e'
  exact⟨h.pk _ (by rw [e];simp),fun a ha=>by simp at ha⟩
theorem LrnI.none_ (h:LrnI D S K pile (some (c,u)))(hu:u<D.length)(hn:movedF c D[u]=none):LrnI D S K pile (some (c,u+1)):=by
 refine⟨h.gen,h.base,h.pk,fun p hp hx hne=>h.closed p hp hx (fun c' u' e=>by cases e;exact hne _ _ rfl),fun c' u' e=>?_⟩
 cases e
 obtain⟨h1,h2⟩:=h.part _ _ rfl
 refine⟨h1,fun a ha q hq=>?_⟩
 rw [List.take_succ_eq_append_getElem hu] at ha
 rcases List.mem_append.1 ha with ha | ha
 ·exact h2 a ha q hq
 ·rw [List.mem_singleton.1 ha,hn] at hq;cases hq
theorem LrnI.add (h:LrnI D S K pile (some (c,u)))(hu:u<D.length)(hq:movedF c D[u]=some q):LrnI D S (addK K q) (addP K pile q) (some (c,u+1)):=by
 obtain⟨h1,h2⟩:=h.part _ _ rfl
 unfold addK addP
 by_cases hk:q∈K
 ·rw [if_pos hk,if_pos hk]
  refine⟨h.gen,h.base,h.pk,fun p hp hx hne=>h.closed p hp hx (fun c' u' e=>by cases e;exact hne _ _ rfl),fun c' u' e=>?_⟩
  cases e
  refine⟨h1,fun a ha q' hq'=>?_⟩
  rw [List.take_succ_eq_append_getElem hu] at ha
  rcases List.mem_append.1 ha with ha | ha
  ·exact h2 a ha q' hq'
  ·rw [List.mem_singleton.1 ha,hq] at hq';cases hq';exact hk
 ·rw [if_neg hk,if_neg hk]
  refine⟨fun p hp=>?_,fun p hp=>List.mem_append_left _ (h.base p hp),fun p hp=>?_,fun p hp hx hne a ha q' hq'=>?_,fun c' u' e=>?_⟩
  ·rcases List.mem_append.1 hp with hp | hp
   ·exact h.gen p hp
   ·rw [List.mem_singleton.1 hp];exact .step (h.gen c h1) (List.getElem_mem hu) hq
  ·rcases List.mem_append.1 hp with hp | hp
   ·exact List.mem_append_left _ (h.pk p hp)
   ·exact List.mem_append_right _ hp
  ·rcases List.mem_append.1 hp with hp | hp
   ·exact List.mem_append_left _ (h.closed p hp (fun hx'=>hx (List.mem_append_left _ hx')) (fun c' u' e=>by cases e;exact hne _ _ rfl) a ha q' hq')
   ·exact absurd (List.mem_append_right _ hp) hx
  ·cases e
   refine⟨List.mem_append_left _ h1,fun a ha q' hq'=>?_⟩
   rw [List.take_succ_eq_append_getElem hu] at ha
   rcases List.mem_append.1 ha with ha | ha
   ·exact List.mem_append_left _ (h2 a ha q' hq')
   ·rw [List.mem_singleton.1 ha,hq] at hq';cases hq';simp
theorem LrnI.fin (h:LrnI D S K pile (some (c,u)))(hu:u=D.length):LrnI D S K pile none:=by
 subst hu
 obtain⟨h1,h2⟩:=h.part _ _ rfl
 rw [List.take_length] at h2
 refine⟨h.gen,h.base,h.pk,fun p hp hx _ a ha q hq=>?_,fun c' u' e=>by cases e⟩
 by_cases hpc:p=c
 ·subst hpc;exact h2 a ha q hq
 ·exact h.closed p hp hx (fun c' u' e=>by cases e;exact hpc) a ha q hq
theorem LrnI.known (h:LrnI D S K [] none)(hn:K.Nodup):KnownIs D S K :=
 ⟨hn,h.gen,h.base,fun p hp a ha q hq=>h.closed p hp (by simp) (fun _ _ e=>by cases e) a ha q hq⟩
theorem addK_len (K:List Str)(q:Str):(addK K q).length=K.length∧addP K pile q=pile∨(addK K q).length=K.length+1∧(addP K pile q).length=pile.length+1:=by
 unfold addK addP
 by_cases hk:q∈K
 ·rw [if_pos hk,if_pos hk];exact Or.inl ⟨rfl,rfl⟩
 ·rw [if_neg hk,if_neg hk];exact Or.inr ⟨by simp,by simp⟩
theorem addK_mem {K:List Str}{p x:Str}:x∈addK K p↔x∈K∨x=p:=by
 unfold addK
 by_cases hk:p∈K
 ·rw [if_pos hk];exact⟨Or.inl,fun h=>h.elim id (fun e=>e ▸ hk)⟩
 ·rw [if_neg hk];simp
theorem gen_len (hs:∀ p∈S,p.length≤maxLen){p:Str}(g:Gen D S p):p.length≤maxLen:=by
 cases g with
 | base h=>exact hs _ h
 | step _ _ h =>
  obtain⟨l,hl⟩:=Option.isSome_iff_exists.1 (moved_path h)
  have h1:=Zd hl;have h2:=h1.2.2.2.1;rw [h1.2.2.2.2] at h2;unfold maxLen
  omega
end
theorem own_take {W:World}{B k n m c:Nat}{e:TypeId}{a:Option Addr}{xs:List Value}(h:W.ownsRow B e k (.slice a n c) n xs)(hm:m≤n)(hn:0<n):W.ownsRow B e k (.slice a m c) m (xs.take (m * k)):=by
 obtain⟨hl,h2⟩:=h
 rcases h2 with ⟨e1,e2⟩ | ⟨g,cap,cur,e1,hB,hg,hnc,hcm,hs,ht⟩
 ·omega
 ·cases e1;have hmk:m * k≤n * k:=Nat.mul_le_mul_right k hm
  refine⟨by rw [List.length_take,hl,Nat.min_eq_left hmk],Or.inr ⟨g,c,cur,rfl,hB,hg,by omega,hcm,hs,?_⟩⟩
  rw [← ht,List.take_take,Nat.min_eq_left hmk]
theorem own_at {W W':World}{B k n:Nat}{e:TypeId}{v:Value}{xs:List Value}(h:W.ownsRow B e k v n xs)(hk:∀ g,v.ownBlock=some g→W'.heap[g]?=W.heap[g]?):W'.ownsRow B e k v n xs:=by
 refine⟨h.1,?_⟩
 rcases h.2 with h | ⟨g,cap,cur,rfl,hB,hg,rest⟩
 ·exact Or.inl h
 ·exact Or.inr ⟨g,cap,cur,rfl,hB,(hk g rfl).trans hg,rest⟩
def ApS (pv v:Value):Prop:=∀ g,v.ownBlock=some g→pv.ownBlock≠some g
theorem own_LrK {W W':World}{km Pb B k n n2:Nat}{e:TypeId}{pv pv' v:Value}{xs:List Value}{L:List (Str×Bool)}{cs:Array Value}(h:W.ownsRow B e k v n xs)(hk:LrK W W' km Pb pv pv')(ha:ApS pv v)(hm:Zh elBo W km n2 L)(hp:W.heap[Pb]?=some (.cells cs 36 (0,0)))(he:e≠36):W'.ownsRow B e k v n xs∧ApS pv' v:=by
 have key:∀ g,v.ownBlock=some g→W'.heap[g]?=W.heap[g]?∧pv'.ownBlock≠some g:=fun g hg=>by
  refine hk.2 g (World.ownsRow.lt h g hg).2 ?_ ?_ (ha g hg)
  ·rintro rfl
   rcases own_map h hm with h1 | h1
   ·rw [h1] at hg;cases hg
   ·exact h1 hg
  ·rintro rfl;exact Qx h hp he hg
 exact⟨own_at h fun g hg=>(key g hg).1,fun g hg=>(key g hg).2⟩
end
section
open Go.RowKit Go.Lib Go.Maps
theorem LrM.len {w W:World}{rb km Rb Pb:Nat}{cs:Array Value}{K pile:List Str}{pv:Value}(h:LrM w W rb km Rb Pb cs K pv pile)(ty:TypeId):(Builtin.len_ #[61] ty #[.map (some km)]).run Tryz.prog W=.ok (.int .i64 (K.length:Nat)) W:=by
 have:=h.mp.len Tryz.underlying61 (by rw [setL_keys];exact h.nd) ty
 rwa [show(Jb K).length=K.length from by simp [Jb]] at this
def LearnOut (w:World)(t:Tb)(A:List Al)(km:Nat)(x:Ending)(w':World):Prop:=∃ (ok:Bool) (K:List Str),x=.returned (.bool ok)∧KnownOut A (basePs t) ok K∧Zh elBo w' km K.length (Jb K)∧w.grownBy w' (some km)
theorem aps_kinds {W:World}{B1 B2 k1 k2 n1 n2:Nat}{e1 e2:TypeId}{v1 v2:Value}{x1 x2:List Value}(h1:W.ownsRow B1 e1 k1 v1 n1 x1)(h2:W.ownsRow B2 e2 k2 v2 n2 x2)(hne:e1≠e2):ApS v1 v2:=fun g hg e=>by
 rcases Kn h1 h2 hne with h | h
 ·rw [h] at e;cases e
 ·exact h (e.trans hg.symm)
theorem LrM.popS {w W:World}{rb km Rb Pb:Nat}{cs:Array Value}{K pile:List Str}{a:Option Addr}{c n:Nat}(h:LrM w W rb km Rb Pb cs K (.slice a n c) pile)(hn:n=pile.length)(m:Nat)(hm:m≤pile.length)(hp:0<pile.length) :
  LrM w (W.setCell ⟨Pb,0,none⟩ (.slice a m c)) rb km Rb Pb cs K (.slice a m c) (pile.take m):=by
 subst hn;have hrp:Rb≠Pb:=fun e=>by
  have h1:=h.r0;rw [e,h.pb] at h1
  have:=Option.some.inj h1
  injection this with _ e2 _
  revert e2
  decide
 have hsp:rb≠Pb:=fun e=>by
  have h1:=h.rs;rw [e,h.pb] at h1
  have:=Option.some.inj h1
  injection this with _ e2 _
  revert e2
  decide
 have hkp:km≠Pb:=fun e=>by
  obtain⟨es,ck,h2⟩:=h.mp.isMap
  rw [e,h.pb] at h2
  cases h2
 have ht:=own_take h.ps hm hp;have hlt:(pile.take m).length=m:=by rw [List.length_take];omega
 have ho:Qg W w.heap.size (.slice a m c) (pile.take m):=by
  unfold Qg;rw [hlt,List.map_take]
  simpa using ht
 refine⟨(heap_setCell_other _ _ _ _ hrp).trans h.r0,by rw [heap_setCell_same _ _ _ _ _ _ h.pb];rfl,Qw ho (Qx ho h.pb (by decide)) 0 _,h.mp.block (heap_setCell_other _ _ _ _ hkp),?_,(heap_setCell_other _ _ _ _ hsp).trans h.rs,h.lr,h.lp,h.kl,h.nd⟩
 exact⟨h.on.os,h.on.tape,h.on.output,by simpa using h.on.size,fun k hk hne=>(heap_setCell_other _ _ _ _ (fun e=>by have:=h.lp;simp only at e;omega)).trans (h.on.block k hk hne)⟩
theorem learn_any {B0:Nat}(w:World)(rb Bt va km:Nat)(vc:Value)(t:Tb)(A:List Al)(hr:w.heap[rb]?=some (.cells #[.pointer (some ⟨Bt,0,none⟩),vc,.pointer (some ⟨va,0,none⟩),.map (some km)] 64 (0,0)))
  (hT:∀ W,w.grownBy W (some km)→TbP B0 W Bt t)(ok:Jq t)(sz:SzT t)(hA:∀ W,w.grownBy W (some km)→AlRd W (.pointer (some ⟨va,0,none⟩)) A)(sA:szA A)(nA:A.length≤1000)(hm:Zh elBo w km 0 (Jb []))
  (hbase:∀ p,p∈basePs t↔∃ l∈srtT t.names,p∈Qn t l) :
  Calls Tryz.prog 34 #[.pointer (some ⟨rb,0,none⟩)] w fun x w'=>LearnOut w t A km x w':=by
 have hsP:∀ p∈basePs t,p.length≤maxLen:=fun p hp=>by
  obtain⟨l,_,h⟩:=(hbase p).1 hp
  exact paths_sz sz h
 have hK16:∀ K:List Str,K.Nodup→(∀ p∈K,p∈basePs t)→K.length≤16384:=fun K hn hs=>by
  refine Nat.le_trans (nodup_le K t.paths hn fun p hp=>?_) ok.p16
  obtain⟨r,hr,rfl⟩:=List.mem_map.1 (hs p hp)
  exact ok.rp r (List.mem_filter.1 hr).1
 have HSP:=hid hsP;have HK16:=hid hK16;have HT:=hid hT;have HA:=hid hA;have HBASE:=hid hbase;have HSA:=hid sA;have HNA:=hid nA;have HNM:=hid ok.n512;have L0:=hid (show LrM w ((w.alloc (.cells #[.pointer (some ⟨rb,0,none⟩)] 23)).alloc (.cells #[.slice none 0 0] 36)) rb km w.heap.size (w.heap.size+1) #[.pointer (some ⟨Bt,0,none⟩),vc,.pointer (some ⟨va,0,none⟩),.map (some km)] [] (.slice none 0 0) [] from by
  have b1:Below w.heap.size w (w.alloc (.cells #[.pointer (some ⟨rb,0,none⟩)] 23)):=bal _ _;have b2:Below (w.alloc (.cells #[.pointer (some ⟨rb,0,none⟩)] 23)).heap.size (w.alloc (.cells #[.pointer (some ⟨rb,0,none⟩)] 23)) ((w.alloc (.cells #[.pointer (some ⟨rb,0,none⟩)] 23)).alloc (.cells #[.slice none 0 0] 36)):=bal _ _;have b3:=b1.then b2;have h2:=heap_alloc_new (w.alloc (.cells #[.pointer (some ⟨rb,0,none⟩)] 23)) (.cells #[.slice none 0 0] 36);rw [show(w.alloc (.cells #[.pointer (some ⟨rb,0,none⟩)] 23)).heap.size=w.heap.size+1 by simp] at h2
  exact⟨(b2.block _ (lt_of_block (heap_alloc_new w _))).trans (heap_alloc_new w _),h2,World.ownsRow_nil _ _ _ _,hm.below b3,⟨b3.os,b3.tape,b3.output,b3.size,fun k hk _=>b3.block k hk⟩,bk b3 hr,Nat.le_refl _,Nat.le_succ _,hm.lt,by simp⟩)
 clear hr hT hA hm hbase sA nA hsP hK16
 go_enter Tryz.func34,Tryz.ntmps34
 go_upto_region 3 with fail;generalize (w.alloc (.cells #[.pointer (some ⟨rb,0,none⟩)] 23)).alloc (.cells #[.slice none 0 0] 36)=w2 at *;generalize w.heap.size+1=Pb at *
 obtain⟨Rb,hRb⟩:∃ Rb,Rb=w.heap.size:=⟨_,rfl⟩
 rw [← hRb];rw [← hRb] at L0;clear hRb;have RC:=hid (fun(W:World) (K:List Str) (pv:Value) (pile:List Str) (h:LrM w W rb km Rb Pb #[.pointer (some ⟨Bt,0,none⟩),vc,.pointer (some ⟨va,0,none⟩),.map (some km)] K pv pile)=>(show W.cell? ⟨Rb,0,none⟩=some (.pointer (some ⟨rb,0,none⟩))∧Rb<W.heap.size∧W.cell? ⟨Pb,0,none⟩=some pv∧W.frozen? ⟨Pb,0,none⟩=false∧Pb<W.heap.size from⟨by rw [cell_of_row _ _ _ _ _ _ h.r0];rfl,lt_of_block h.r0,by rw [cell_of_row _ _ _ _ _ _ h.pb];rfl,frozen_of_row _ _ _ _ _ h.pb,lt_of_block h.pb⟩))
 obtain⟨r0,rl,p0,pf,pl⟩:=RC.out _ _ _ _ L0.out
 obtain⟨a0,a1,a2,a3,al⟩:=Kk L0.out.rs
 have LO:=hid ((HT.out _ L0.out.on).locales ok);go_wp2_with fail;refine LO.out.mono ?_;rintro e w3 ⟨vn,rfl,on3,hb3⟩
 obtain⟨an,cn,rfl⟩:=Qc on3
 have L3:=hid (L0.out.below hb3);have ON3:=hid on3;clear r0 rl p0 pf pl a0 a1 a2 a3 al on3 hb3 L0 LO
 obtain⟨nm,hnm⟩:∃ nm,nm=srtT t.names:=⟨_,rfl⟩
 have HNM2:=hid (show nm.length≤512 by rw [hnm,(srtT_perm _).length_eq];exact HNM.out);have HNSZ:=hid (show ∀ l∈nm,l.length≤maxLen from fun l hl=>names_sz sz (by rw [← hnm];exact hl));rw [← hnm] at ON3 HBASE ⊢;clear hnm;go_upto_region 4 with fail
 go_loopg [24] nm.length (fun g v24 W=>∃ (i:Nat) (K:List Str) (pv:Value),i≤nm.length∧nm.length≤i+g∧v24=.int .i64 i∧LrM w W rb km Rb Pb #[.pointer (some ⟨Bt,0,none⟩),vc,.pointer (some ⟨va,0,none⟩),.map (some km)] K pv K∧(∀ p∈K,p∈basePs t)∧(∀ l∈nm.take i,∀ p∈Qn t l,p∈K)∧Qg W w2.heap.size (.slice an nm.length cn) nm∧ApS pv (.slice an nm.length cn))
 case atStart=>exact⟨0,[],_,Nat.zero_le _,by omega,rfl,L3.out,fun p hp=>by simp at hp,fun l hl=>by simp at hl,ON3.out,fun g _ h=>by simp [Value.ownBlock] at h⟩
 case round =>
  obtain⟨i,K,pv,hi,hg,rfl,hL,hKb,hKn,hon,hap⟩:=hrel
  rename World=>w4
  obtain⟨go,hgo⟩:∃ go,go=gk:=⟨_,rfl⟩
  have HG:=hid (show nm.length≤i+go by rw [hgo];exact hg);have HGO:=hid hgo;have L4:=hid hL;have HKB:=hid hKb;have HKN:=hid hKn;have ON4:=hid hon;have HAP:=hid hap;have hi0:(0:Int)≤(i:Int):=by omega
  clear hgo hg hL hKb hKn hon hap L3 ON3
  by_cases hlt:i<nm.length
  ·have hii:(i:Int)<(nm.length:Int):=by omega
   have hib:(i:Int)≤512:=by have:=HNM2.out;omega
   have HLM:=hid (HNSZ.out _ (List.getElem_mem hlt));have HLT:=hid (List.take_succ_eq_append_getElem hlt);have HMEM:=hid (List.getElem_mem hlt)
   obtain⟨ao,cp,e,_,hcc⟩:=Qg.rd ON4.out
   cases e
   obtain⟨bq,off,rfl,hbq,hcl⟩:=hcc (by intro e;rw [e] at hlt;simp at hlt)
   have n0:w4.cell? ⟨bq,off+i,none⟩=some (.string ⟨(nm[i]'hlt).toArray⟩):=hcl i _ (List.getElem?_eq_getElem hlt);clear hcc hcl;generalize nm[i]'hlt=l at *
   obtain⟨r0,rl,p0,pf,pl⟩:=RC.out _ _ _ _ L4.out
   obtain⟨a0,a1,a2,a3,al⟩:=Kk L4.out.rs
   have PA:=hid ((HT.out _ L4.out.on).paths ok l HLM.out);have PSZ:=hid (fun p (h:p∈Qn t l)=>paths_sz sz h);have PB:=hid (fun p (h:p∈Qn t l)=>(HBASE.out p).2 ⟨l,HMEM.out,h⟩)
   obtain⟨ps,hps⟩:∃ ps,ps=Qn t l:=⟨_,rfl⟩
   have HPS:=hid hps;rw [← hps] at PA PSZ PB;clear hps;go_wp2_with fail;refine PA.out.mono ?_;rintro e w5 ⟨vp,rfl,op5,hb5⟩
   obtain⟨aq,cq,rfl⟩:=Qc op5
   have L5:=hid (L4.out.below hb5);have ON5:=hid (show Qg w5 w2.heap.size _ nm from Qz ON4.out hb5);have OP5:=hid op5;have HAP5:=hid (show ApS pv (.slice aq ps.length cq) from fun g hg e=>by
    have h1:=(World.ownsRow.lt op5 g hg).1;have h2:=(World.ownsRow.lt L4.out.ps g e).2
    omega)
   clear r0 rl p0 pf pl a0 a1 a2 a3 al op5 hb5 PA L4 ON4 n0 hbq;go_upto_region 7 with fail
   go_loopg [35] ps.length (fun g v35 W=>∃ (j:Nat) (K2:List Str) (pv2:Value),j≤ps.length∧ps.length≤j+g∧v35=.int .i64 j∧LrM w W rb km Rb Pb #[.pointer (some ⟨Bt,0,none⟩),vc,.pointer (some ⟨va,0,none⟩),.map (some km)] K2 pv2 K2∧(∀ p∈K2,p∈basePs t)∧(∀ p∈K,p∈K2)∧(∀ p∈ps.take j,p∈K2)∧Qg W w2.heap.size (.slice (some ⟨bq,off,none⟩) nm.length cn) nm∧ApS pv2 (.slice (some ⟨bq,off,none⟩) nm.length cn)∧Qg W w4.heap.size (.slice aq ps.length cq) ps∧ApS pv2 (.slice aq ps.length cq))
   case atStart=>exact⟨0,K,pv,Nat.zero_le _,by omega,rfl,L5.out,HKB.out,fun p h=>h,fun p hp=>by simp at hp,ON5.out,HAP.out,OP5.out,HAP5.out⟩
   case round =>
    obtain⟨j,K2,pv2,hj,hg2,rfl,hL2,hKb2,hKK,hKj,hon2,hap2,hop2,hap3⟩:=hrel
    rename World=>w6
    have HG2:=hid hg2;have L6:=hid hL2;have HKB2:=hid hKb2;have HKK:=hid hKK;have HKJ:=hid hKj;have ON6:=hid hon2;have HAP2:=hid hap2;have OP6:=hid hop2;have HAP3:=hid hap3;have hj0:(0:Int)≤(j:Int):=by omega
    clear hg2 hL2 hKb2 hKK hKj hon2 hap2 hop2 hap3 L5 ON5 OP5 HAP5
    by_cases hjl:j<ps.length
    ·have hji:(j:Int)<(ps.length:Int):=by omega
     have HPM:=hid (List.getElem_mem hjl);have HPT:=hid (List.take_succ_eq_append_getElem hjl)
     obtain⟨ao,cp,e,⟨hpz,_⟩,hcc⟩:=Qg.rd OP6.out
     cases e
     obtain⟨b2,off2,rfl,hb2,hcl⟩:=hcc (by intro e;rw [e] at hjl;simp at hjl)
     have n0:w6.cell? ⟨b2,off2+j,none⟩=some (.string ⟨(ps[j]'hjl).toArray⟩):=hcl j _ (List.getElem?_eq_getElem hjl);clear hcc hcl;generalize ps[j]'hjl=p at *;have HKL:=hid (HK16.out K2 L6.out.nd HKB2.out);have AD:=hid (ladd_any L6.out p (PSZ.out p HPM.out) (by have:=HKL.out;omega) (by have:=HKL.out;omega));have hjb:(j:Int)≤9223372036854775806:=by omega
     go_wp2_with fail;refine AD.out.mono ?_;rintro e w7 ⟨rfl,pv7,hL7,hk7⟩;have L7:=hid hL7;have X1:=hid (own_LrK ON6.out hk7 HAP2.out L6.out.mp L6.out.pb (by decide));have X2:=hid (own_LrK OP6.out hk7 HAP3.out L6.out.mp L6.out.pb (by decide));clear hL7 hk7 n0 hb2 AD;go_wp2_with fail
     go_roundg (gk - 1)
     case measure=>have:=HG2.out;omega
     case rel =>
      refine⟨j+1,addK K2 p,pv7,by omega,by have:=HG2.out;omega,by simp,L7.out,fun x hx=>?_,fun x hx=>addK_mem.2 (Or.inl (HKK.out x hx)),fun x hx=>?_,X1.out.1,X1.out.2,X2.out.1,X2.out.2⟩
      ·rcases addK_mem.1 hx with hx | rfl
       ·exact HKB2.out x hx
       ·exact PB.out _ HPM.out
      ·rw [HPT.out] at hx
       rcases List.mem_append.1 hx with hx | hx
       ·exact addK_mem.2 (Or.inl (HKJ.out x hx))
       ·exact addK_mem.2 (Or.inr (List.mem_singleton.1 hx))
    ·have hji:¬ (j:Int)<(ps.length:Int):=by omega
     obtain rfl:j=ps.length:=by omega
     go_wp2_with fail
     go_roundg (go - 1)
     case measure=>have:=HG.out;have:=HGO.out;omega
     case rel =>
      refine⟨i+1,K2,pv2,by omega,by have:=HG.out;omega,by simp,L6.out,HKB2.out,fun x hx q hq=>?_,ON6.out,HAP2.out⟩
      rw [HLT.out] at hx
      rcases List.mem_append.1 hx with hx | hx
      ·exact HKK.out q (HKN.out x hx q hq)
      ·rw [List.mem_singleton.1 hx,← HPS.out] at hq;exact HKJ.out q (by rw [List.take_length];exact hq)
  ·have hii:¬ (i:Int)<(nm.length:Int):=by omega
   obtain rfl:i=nm.length:=by omega
   have HI:=hid (LrnI.start (D:=A) HKB.out (fun p hp=>by
    obtain⟨l,hl,h⟩:=(HBASE.out p).1 hp
    exact HKN.out l (by rw [List.take_length];exact hl) p h))
   have HK0:=hid (HK16.out K L4.out.nd HKB.out)
   obtain⟨r0,rl,p0,pf,pl⟩:=RC.out _ _ _ _ L4.out
   obtain⟨a0,a1,a2,a3,al⟩:=Kk L4.out.rs
   have AA:=hid (aall_any w4 (.pointer (some ⟨va,0,none⟩)) A (HA.out _ L4.out.on) HNA.out);clear HKB HKN ON4 HAP hi hi0 hii hlt HNSZ HNM2 HG HGO;go_wp2_with fail;refine AA.out.mono ?_;rintro e w5 ⟨vv,rfl,ov5,hb5⟩
   obtain⟨aq,cq,rfl⟩:=Ql ov5
   have L5:=hid (L4.out.below hb5);have OV5:=hid ov5;clear r0 rl p0 pf pl a0 a1 a2 a3 al ov5 hb5 AA L4;go_upto_region 13 with fail
   go_loopg [] 60000 (fun g W=>∃ (K2 pile:List Str) (pv2:Value),LrM w W rb km Rb Pb #[.pointer (some ⟨Bt,0,none⟩),vc,.pointer (some ⟨va,0,none⟩),.map (some km)] K2 pv2 pile∧LrnI A (basePs t) K2 pile none∧Qd W w4.heap.size (.slice aq A.length cq) A∧K2.length≤20000∧2 * (20000 - K2.length)+pile.length≤g∧2 * (20000 - K2.length)+pile.length≤60000)
   case atStart=>exact⟨K,K,pv,L5.out,HI.out,OV5.out,by have:=HK0.out;omega,by have:=HK0.out;omega,by have:=HK0.out;omega⟩
   case round =>
    obtain⟨K2,pile,pv2,hL,hI,hov,hk2,hg,hg6⟩:=hrel
    rename World=>w6
    obtain⟨go,hgo⟩:∃ go,go=gk:=⟨_,rfl⟩
    have HG:=hid (show 2 * (20000 - K2.length)+pile.length≤go by rw [hgo];exact hg);have HG6:=hid hg6;have HGO:=hid hgo;have L6:=hid hL;have HI6:=hid hI;have OV6:=hid hov;have HK2:=hid hk2;clear hgo hg hg6 hL hI hov hk2 L5 OV5 HI HK0
    obtain⟨av,cv,rfl⟩:=Qc L6.out.ps
    obtain⟨r0,rl,p0,pf,pl⟩:=RC.out _ _ _ _ L6.out
    obtain⟨a0,a1,a2,a3,al⟩:=Kk L6.out.rs
    have HLEN:=fun ty=>L6.out.len ty
    by_cases hpl:pile=[]
    ·subst hpl;have HKI:=hid (HI6.out.known L6.out.nd)
     by_cases h16:K2.length≤16384
     ·have h16i:(K2.length:Int)≤16384:=by omega
      go_wp2_with fail;exact bodyPost_ret (v:=.bool true) (by simp [results,Tryz.results34,go_sem]) rfl ⟨true,K2,rfl,Or.inl ⟨rfl,HKI.out,h16⟩,L6.out.mp,L6.out.on⟩
     ·have h16i:¬ (K2.length:Int)≤16384:=by omega
      have h16j:(16384:Int)<(K2.length:Int):=by omega
      go_wp2_with fail;exact bodyPost_ret (v:=.bool false) (by simp [results,Tryz.results34,go_sem]) rfl ⟨false,K2,rfl,Or.inr ⟨rfl,K2,L6.out.nd,HI6.out.gen,by omega⟩,L6.out.mp,L6.out.on⟩
    ·obtain⟨m,hml⟩:∃ m,pile.length=m+1:=⟨pile.length - 1,by have:=List.length_pos_iff.2 hpl;omega⟩
     have hmlt:m<pile.length:=by omega
     have hmi0:(0:Int)<(m:Int)+1:=by omega
     by_cases h16:K2.length≤16384
     ·have h16i:¬ (16384:Int)<(K2.length:Int):=by omega
      obtain⟨ao,cp,e,_,hcc⟩:=Qg.rd L6.out.ps
      cases e
      obtain⟨bq,off,rfl,hbq,hcl⟩:=hcc hpl
      obtain⟨c,hc⟩:∃ c,c=pile[m]'hmlt:=⟨_,rfl⟩
      have n0:w6.cell? ⟨bq,off+m,none⟩=some (.string ⟨c.toArray⟩):=by rw [hc];exact hcl m _ (List.getElem?_eq_getElem hmlt)
      have hcap:pile.length≤cv:=by
       rcases Qg.shape L6.out.ps with ⟨e,_⟩ | ⟨g,cap,cur,e,_,_,hn,_⟩
       ·cases e
       ·cases e;exact hn
      have HPI:=hid (HI6.out.pop hml (show pile[m]?=some c from by rw [hc];exact List.getElem?_eq_getElem hmlt));have HPL:=hid (L6.out.popS rfl m (by omega) (by omega));have HCM:=hid (show c∈K2 from HI6.out.pk c (by rw [hc];exact List.getElem_mem hmlt));have HCL:=hid (gen_len HSP.out (HI6.out.gen c HCM.out));have hmm:((m:Int)+1) - 1=(m:Int):=by omega
      have hm0:(0:Int)≤(m:Int):=by omega
      have hmb:(m:Int)≤60000:=by have:=HG6.out;omega
      have hmc:(m:Int)≤(cv:Int):=by omega
      have hm1:(m:Int)<(m:Int)+1:=by omega
      have HPZ:=hid (show(pile.take m).length=m by rw [List.length_take];omega);have HGM:=hid (show 2 * (20000 - K2.length)+m+1≤go∧2 * (20000 - K2.length)+m≤60000 by have:=HG.out;have:=HG6.out;omega);have H16:=hid h16;have OVS:=hid (show Qd (w6.setCell ⟨Pb,0,none⟩ (.slice (some ⟨bq,off,none⟩) m cv)) w4.heap.size (.slice aq A.length cq) A from Qw OV6.out (Qx OV6.out L6.out.pb (by decide)) 0 _);rw [hml] at p0;clear hcc hcl hc hpl hmlt hcap h16;clear hml;go_upto_region 19 with fail;generalize w6.setCell ⟨Pb,0,none⟩ (.slice (some ⟨bq,off,none⟩) m cv)=w7 at *;clear r0 rl p0 pf pl a0 a1 a2 a3 al n0 hbq HLEN L6 OV6 HI6
      go_loopg [71] A.length (fun g v71 W=>∃ (u:Nat) (K3 pile3:List Str) (pv3:Value),u≤A.length∧A.length≤u+g∧v71=.int .i64 u∧LrM w W rb km Rb Pb #[.pointer (some ⟨Bt,0,none⟩),vc,.pointer (some ⟨va,0,none⟩),.map (some km)] K3 pv3 pile3∧LrnI A (basePs t) K3 pile3 (some (c,u))∧Qd W w4.heap.size (.slice aq A.length cq) A∧K3.length≤K2.length+u∧2 * (20000 - K3.length)+pile3.length+1≤go∧2 * (20000 - K3.length)+pile3.length≤60000)
      case atStart=>exact⟨0,K2,_,_,Nat.zero_le _,by omega,rfl,HPL.out,HPI.out,OVS.out,Nat.le_refl _,by rw [HPZ.out];exact HGM.out.1,by rw [HPZ.out];exact HGM.out.2⟩
      case round =>
       obtain⟨u,K3,pile3,pv3,hu,hg,rfl,hL,hI,hov,hk3,hg3,hg4⟩:=hrel
       rename World=>w8
       have HGI:=hid hg;have L8:=hid hL;have HI8:=hid hI;have OV8:=hid hov;have HK3:=hid hk3;have HG3:=hid hg3;have HG4:=hid hg4;have hu0:(0:Int)≤(u:Int):=by omega
       have hub:(u:Int)≤1000:=by have:=HNA.out;omega
       clear hg hL hI hov hk3 hg3 hg4 HPL HPI OVS
       by_cases hul:u<A.length
       ·have hui:(u:Int)<(A.length:Int):=by omega
        obtain⟨ao,cp,e,_,hcc⟩:=Ks OV8.out.rd
        cases e
        obtain⟨p2,o2,rfl,hp2,c0,c1⟩:=hcc u hul
        have HSX:=hid (HSA.out _ (List.getElem_mem hul));have HNX:=hid (fun hn=>HI8.out.none_ hul hn);have HAD:=hid (fun q (hq:movedF c A[u]=some q)=>HI8.out.add hul hq);generalize A[u]'hul=x at *
        obtain⟨xk,xv⟩:=x
        clear hcc;simp only at c0 c1;have HMV:=hid (show movedF c (xk,xv)=(restF c xv).bind fun r=>joinF xk r from rfl);have F9:=hid (heap_alloc_new w8 (.cells #[.string ⟨xk.toArray⟩,.string ⟨xv.toArray⟩] 76));have HA9:=hid (bal w8 (.cells #[.string ⟨xk.toArray⟩,.string ⟨xv.toArray⟩] 76));have L9:=hid (L8.out.below HA9.out);have OV9:=hid (show Qd (w8.alloc (.cells #[.string ⟨xk.toArray⟩,.string ⟨xv.toArray⟩] 76)) w4.heap.size _ A from Qz OV8.out HA9.out);have RS:=hid (prest_any (w8.alloc (.cells #[.string ⟨xk.toArray⟩,.string ⟨xv.toArray⟩] 76)) c xv HCL.out HSX.out.2);go_upto_region 21 with fail;generalize w8.alloc (.cells #[.string ⟨xk.toArray⟩,.string ⟨xv.toArray⟩] 76)=w9 at *;generalize w8.heap.size=xb at *
        obtain⟨x0,x1,_,_,xl⟩:=Qq F9.out
        clear c0 c1 hp2 L8 OV8 HA9;go_wp2_with fail;refine RS.out.mono ?_;rintro e wa ⟨rfl,hba⟩;have La:=hid (L9.out.below hba);have OVa:=hid (show Qd wa w4.heap.size _ A from Qz OV9.out hba);have Fa:=hid (bk hba F9.out);clear x0 x1 xl hba RS L9 OV9 F9
        obtain⟨x0,x1,_,_,xl⟩:=Qq Fa.out
        cases hrf:restF c xv with
        | none =>
         have HN:=hid (HNX.out (by rw [HMV.out,hrf];rfl));clear hrf;simp only [restV,Option.getD_none,Option.isSome_none];go_wp2_with fail
         go_roundg (gk - 1)
         case measure=>have:=HGI.out;omega
         case rel=>exact⟨u+1,K3,pile3,pv3,by omega,by have:=HGI.out;omega,by simp,La.out,HN.out,OVa.out,by have:=HK3.out;omega,HG3.out,HG4.out⟩
        | some r =>
         have HRL:=hid (show r.length≤maxLen from by
          obtain⟨l',m',_,_,_,h4⟩:=rest_some hrf
          have h1:=Zd h4;have h2:=h1.2.2.2.1;rw [h1.2.2.2.2] at h2;unfold maxLen
          omega)
         have HMV2:=hid (show movedF c (xk,xv)=joinF xk r by rw [HMV.out,hrf];rfl);have JN:=hid (pjoin_any wa xk r HSX.out.1 HRL.out);clear hrf HMV;simp only [restV,Option.getD_some,Option.isSome_some];go_wp2_with fail;refine JN.out.mono ?_;rintro e wb ⟨⟨er,rfl,her⟩,hbb⟩;have Lb:=hid (La.out.below hbb);have OVb:=hid (show Qd wb w4.heap.size _ A from Qz OVa.out hbb);clear x0 x1 xl hbb JN La OVa Fa
         cases hjf:joinF xk r with
         | none =>
          have HN:=hid (HNX.out (by rw [HMV2.out,hjf]));have hne:er≠0:=fun e=>by have:=her.1 e;rw [hjf] at this;cases this
          have hei:((er:Int)==0)=false:=beq_eq_false_iff_ne.2 (by omega);clear her hjf;go_wp2_with fail
          go_roundg (gk - 1)
          case measure=>have:=HGI.out;omega
          case rel=>exact⟨u+1,K3,pile3,pv3,by omega,by have:=HGI.out;omega,by simp,Lb.out,HN.out,OVb.out,by have:=HK3.out;omega,HG3.out,HG4.out⟩
         | some q =>
          have HQ:=hid (HAD.out q (by rw [HMV2.out,hjf]));have hz:er=0:=her.2 (by rw [hjf];rfl);subst hz;have HQL:=hid (show q.length≤maxLen from by
           obtain⟨l',m',_,_,h4,_⟩:=join_some hjf
           have h1:=Zd h4;have h2:=h1.2.2.2.1;rw [h1.2.2.2.2] at h2;unfold maxLen
           omega)
          have AD:=hid (ladd_any Lb.out q HQL.out (by have:=HK3.out;have:=H16.out;have:=HNA.out;omega) (by have:=HG4.out;omega));have HAL:=hid (addK_len (pile:=pile3) K3 q);clear her hjf;simp only [Option.getD_some];go_wp2_with fail;refine AD.out.mono ?_;rintro e wc ⟨rfl,pvc,hLc,hkc⟩;have Lc:=hid hLc;have X1:=hid (own_LrK OVb.out hkc (aps_kinds Lb.out.ps OVb.out (by decide)) Lb.out.mp Lb.out.pb (by decide));clear hLc hkc AD;go_wp2_with fail
          go_roundg (gk - 1)
          case measure=>have:=HGI.out;omega
          case rel =>
           have hk3:=HK3.out;have hg3:=HG3.out;have hg4:=HG4.out;have h16:=H16.out;have hna:=HNA.out
           refine⟨u+1,addK K3 q,addP K3 pile3 q,pvc,by omega,by have:=HGI.out;omega,by simp,Lc.out,HQ.out,X1.out.1,?_,?_,?_⟩
           ·rcases HAL.out with ⟨h1,_⟩ | ⟨h1,_⟩ <;> omega
           ·rcases HAL.out with ⟨h1,h2⟩ | ⟨h1,h2⟩
            ·rw [h1,h2];exact hg3
            ·omega
           ·rcases HAL.out with ⟨h1,h2⟩ | ⟨h1,h2⟩
            ·rw [h1,h2];exact hg4
            ·omega
       ·have hui:¬ (u:Int)<(A.length:Int):=by omega
        have HFI:=hid (HI8.out.fin (by omega));go_wp2_with fail
        go_roundg (go - 1)
        case measure=>have:=HG3.out;have:=HGO.out;omega
        case rel=>exact⟨K3,pile3,pv3,L8.out,HFI.out,OV8.out,by have:=HK3.out;have:=H16.out;have:=HNA.out;omega,by have:=HG3.out;omega,HG4.out⟩
     ·have h16i:(16384:Int)<(K2.length:Int):=by omega
      rw [hml] at p0;go_wp2_with fail;exact bodyPost_ret (v:=.bool false) (by simp [results,Tryz.results34,go_sem]) rfl ⟨false,K2,rfl,Or.inr ⟨rfl,K2,L6.out.nd,HI6.out.gen,by omega⟩,L6.out.mp,L6.out.on⟩
end
section
open Go.RowKit Go.Lib Go.Sort Go.Maps Go.WideMaps Go.Shelf
theorem within_any (pt:Option Addr)(loc path:Str)(w:World) :
  Calls Tryz.prog 53 #[.pointer pt,.string ⟨loc.toArray⟩,.string ⟨path.toArray⟩] w fun e w'=>e=.returned (.func (.func 94) #[] #[.pointer (some ⟨w.heap.size,0,none⟩),.pointer (some ⟨w.heap.size+1,0,none⟩),.pointer (some ⟨w.heap.size+1+1,0,none⟩)])∧
   w'=((w.alloc (.cells #[.pointer pt] 40)).alloc (.cells #[.string ⟨loc.toArray⟩] 9)).alloc (.cells #[.string ⟨path.toArray⟩] 9):=by
 go_enter Tryz.func53,Tryz.ntmps53
 go_wp2_with fail;exact bodyPost_ret (v:=.func (.func 94) #[] #[.pointer (some ⟨w.heap.size,0,none⟩),.pointer (some ⟨w.heap.size+1,0,none⟩),.pointer (some ⟨w.heap.size+1+1,0,none⟩)]) (by simp [results,Tryz.results53,go_sem]) rfl ⟨rfl,rfl⟩
end
section
open Go.RowKit Go.Lib Go.Sort Go.Maps Go.WideMaps Go.Shelf
structure KpB (kb n0:Nat)(A B:World):Prop where
 size:A.heap.size≤B.heap.size
 low:∀ k,k<n0→k≠kb→B.heap[k]?=A.heap[k]?
 high:∀ k cs ty,n0≤k→A.heap[k]?=some (.cells cs ty (0,0))→B.heap[k]?=some (.cells cs ty (0,0))
theorem KpB.refl (kb n0:Nat)(A:World):KpB kb n0 A A:=⟨Nat.le_refl _,fun _ _ _=>rfl,fun _ _ _ _ h=>h⟩
theorem KpB.trans {kb n0:Nat}{A B C:World}(h:KpB kb n0 A B)(g:KpB kb n0 B C):KpB kb n0 A C :=
 ⟨Nat.le_trans h.size g.size,fun k h1 h2=>(g.low k h1 h2).trans (h.low k h1 h2),fun k cs ty h1 h2=>g.high k cs ty h1 (h.high k cs ty h1 h2)⟩
theorem KpB.of_below {kb n0:Nat}{A B:World}(h:Below A.heap.size A B)(hn:n0≤A.heap.size):KpB kb n0 A B :=
 ⟨h.size,fun k h1 _=>h.block k (by omega),fun k cs ty _ hc=>(h.block k (lt_of_block hc)).trans hc⟩
theorem KpB.put {kb n0 l:Nat}{A:World}{o o':Obj}(hl:n0≤l)(h:A.heap[l]?=some o)(ho:o.isCells=false):KpB kb n0 A (A.putObj l o'):=by
 have hg:=grownBy_putObj' A l o'
 refine⟨hg.size,fun k h1 _=>?_,fun k cs ty _ hc=>?_⟩
 ·by_cases hk:k<A.heap.size
  ·exact hg.block k hk (fun e=>by cases e;omega)
  ·have:=(Array.getElem?_eq_some_iff.1 h).1;omega
 ·refine(hg.block k (lt_of_block hc) (fun e=>?_)).trans hc
  cases e;rw [h] at hc
  cases hc
  cases ho
theorem Xm {w w':World}(h:Below w.heap.size w w'):w.grownBy w' none:=⟨h.os,h.tape,h.output,h.size,fun k hk _=>h.block k hk⟩
def inP (t:Tb)(loc grp:Str)(ps:List Str):List (Str×Str):=(ps.filter (fun p=>inB p grp)).map (fun p=>(p,rText (Qy t.rows loc p)))
theorem inP_take {t:Tb}{loc grp:Str}{ps:List Str}{k:Nat}(h:k<ps.length):inP t loc grp (ps.take (k+1))=inP t loc grp (ps.take k)++(if inB (ps[k]'h) grp then [(ps[k]'h,rText (Qy t.rows loc (ps[k]'h)))] else []):=by
 unfold inP;rw [List.take_succ_eq_append_getElem h,List.filter_append,List.map_append]
 congr 1
 by_cases e:inB (ps[k]'h) grp=true
 ·simp [e]
 ·simp [e]
theorem inP_pre {t:Tb}{loc grp:Str}(ps:List Str)(k:Nat):inP t loc grp (ps.take k) <+: inP t loc grp ps:=by
 refine⟨inP t loc grp (ps.drop k),?_⟩
 unfold inP;rw [← List.map_append,← List.filter_append,List.take_append_drop]
end
section
open Go.RowKit Go.Lib Go.Sort Go.Maps Go.WideMaps Go.Shelf
theorem within1_gen (n:Nat)(hn:1≤n)(l b0 b1 b2 C pt:Nat)(t:Tb)(ok:Jq t)(hs:SzT t)(loc grp:Str)(hl:loc.length≤maxLen)(hg:grp.length≤maxLen)(w:World)
  (Kp:World→World→Prop)(Fr:World→Value→Prop)
  (hBX:∀ V,Kp w V→TbP C V pt t∧V.cell? ⟨b0,0,none⟩=some (.pointer (some ⟨pt,0,none⟩))∧V.cell? ⟨b1,0,none⟩=some (.string ⟨loc.toArray⟩)∧V.cell? ⟨b2,0,none⟩=some (.string ⟨grp.toArray⟩)∧b0<V.heap.size∧b1<V.heap.size∧b2<V.heap.size)
  (hKB:∀ A B,w.heap.size≤A.heap.size→Below A.heap.size A B→Kp A B)(hKT:∀ A B C,Kp A B→Kp B C→Kp A C)(hKZ:∀ A B,Kp A B→A.heap.size≤B.heap.size)
  (J Jx:List (Str×Str)→World→Prop)(W:World)(hW:Below w.heap.size w W)(hJ:AbidesFrom W.heap.size J)
  (hF0:∀ B v,Qg B W.heap.size v (Qn t loc)→Below W.heap.size W B→J [] W→Fr B v)(hF1:∀ A B v,Fr A v→Below A.heap.size A B→Fr B v)(hF2:∀ A B v,Fr A v→Kp A B→Fr B v)(hF3:∀ A v,Fr A v→Qg A W.heap.size v (Qn t loc))
  (hY:∀ pre x W1,pre++[x] <+: inP t loc grp (Qn t loc)→J pre W1→YieldAt Fence.wide (n - 1) Tryz.prog l #[.string ⟨x.1.toArray⟩,.string ⟨x.2.toArray⟩] W1 fun e W' =>
   (e=.returned (.bool true)∧J (pre++[x]) W'∧Kp W1 W')∨(e=.returned (.bool false)∧Jx (pre++[x]) W'))(hJ0:J [] W) :
  CallsIn Fence.wide n Tryz.prog 94 #[.func (.yield l) #[] #[],.pointer (some ⟨b0,0,none⟩),.pointer (some ⟨b1,0,none⟩),.pointer (some ⟨b2,0,none⟩)] W fun e W'=>(∃ v,e=.returned v)∧
   ((∃ xs,xs=inP t loc grp (Qn t loc)∧J xs W')∨(∃ pre,pre <+: inP t loc grp (Qn t loc)∧Jx pre W')):=by
 have BX:=hid hBX;have KB:=hid hKB;have KT:=hid hKT;have KZ:=hid hKZ;have FR1:=hid hF1;have FR2:=hid hF2;have FR3:=hid hF3;have HP:=hid (fun p (h:p∈Qn t loc)=>paths_sz hs h);have KW:=hid (hKB w W (Nat.le_refl _) hW);have FR0:=hid (fun B v h1 h2=>hF0 B v h1 h2 hJ0);have HZW:=hid (show w.heap.size≤W.heap.size from hW.size);clear hBX hKB hKT hKZ hF0 hF1 hF2 hF3 hW hs;have ABJ:=hid hJ;have HY:=hid hY;have HJ0:=hid hJ0;clear hJ hY hJ0
 obtain⟨T0,x0,x1,x2,l0,l1,l2⟩:=BX.out W KW.out
 refine callsIn_of_wp Tryz.func94 rfl trivial ?_ rfl;simp only [Tryz.ntmps94,List.size_toArray,List.length_cons,List.length_nil,Nat.reduceAdd,Nat.reduceSub,Array.replicate_succ,Array.replicate_zero,List.push_toArray,List.append_toArray,List.nil_append,List.cons_append];have PA:=hid (T0.paths ok loc hl);clear T0
 gi_wp2
 refine⟨trivial,callsIn_wide.2 (PA.out.mono ?_)⟩
 rintro e w1 ⟨v1,rfl,o1,hb1⟩;have O1:=hid (FR0.out w1 v1 o1 hb1);have J1:=hid (ABJ.out [] W w1 none HJ0.out (Xm hb1) (fun r e=>by cases e));have K1:=hid (KT.out _ _ _ KW.out (KB.out _ _ HZW.out hb1));have HZ1:=hid hb1.size;clear o1 hb1 FR0 PA x0 x1 x2 l0 l1 l2 HJ0 KW;generalize hps:Qn t loc=ps at *
 obtain⟨a1,c1,rfl⟩:=Qc (FR3.out _ _ O1.out)
 gi_wp2
 gi_loopw [13] (fun i wr=>∃ k:Nat,k≤ps.length∧i=.int .i64 k∧J (inP t loc grp (ps.take k)) wr∧Kp w wr∧Fr wr (.slice a1 ps.length c1)∧W.heap.size≤wr.heap.size) (fun i _=>ps.length - (intOf i).toNat)
 case atStart=>exact⟨0,Nat.zero_le _,rfl,J1.out,K1.out,O1.out,HZ1.out⟩
 case round =>
  obtain⟨k,hk,rfl,hJ2,hK2,ho,hz2⟩:=hrel
  rename World=>w2
  have J2:=hid hJ2;have K2:=hid hK2;have O2:=hid ho;have HZ2:=hid hz2
  obtain⟨_,_,e,⟨hpz,_⟩,hcc⟩:=Qg.rd (FR3.out _ _ ho)
  cases e;have HPZ:=hid hpz;have HCC:=hid hcc;clear hJ2 hK2 ho hz2 J1 K1 O1 HZ1 hpz hcc
  by_cases hlt:k<ps.length
  ·have hni:(k:Int)<(ps.length:Int):=by omega
   have hn0:(0:Int)≤(k:Int):=by omega
   have hpz:(ps.length:Int)≤9223372036854775807:=by have:=HPZ.out;omega
   obtain⟨bq,off,rfl,hbq,hcl⟩:=HCC.out (by intro e;rw [e] at hlt;simp at hlt)
   have r0:w2.cell? ⟨bq,off+k,none⟩=some (.string ⟨(ps[k]'hlt).toArray⟩):=hcl k _ (List.getElem?_eq_getElem hlt);have HMP:=hid (HP.out _ (List.getElem_mem hlt));have HIT:=hid (inP_take (t:=t) (loc:=loc) (grp:=grp) hlt);have HLE:=hid (inP_pre (t:=t) (loc:=loc) (grp:=grp) ps (k+1)).length_le;have IN:=hid (pin_any w2 (ps[k]'hlt) grp HMP.out hg)
   obtain⟨T2,x0,x1,x2,l0,l1,l2⟩:=BX.out w2 K2.out
   clear T2 hcl HCC;generalize ps[k]'hlt=p at *
   cases hin:inB p grp with
   | false =>
    rw [hin] at IN HIT;have HI2:=hid (show inP t loc grp (ps.take (k+1))=inP t loc grp (ps.take k) by rw [HIT.out];simp);clear hin HIT
    gi_wp2
    refine⟨trivial,callsIn_wide.2 (IN.out.mono ?_)⟩
    rintro e w3 ⟨rfl,hb3⟩;have J3:=hid (ABJ.out _ w2 w3 none J2.out (Xm hb3) (fun r e=>by cases e));have K3:=hid (KT.out _ _ _ K2.out (KB.out _ _ (Nat.le_trans HZW.out HZ2.out) hb3));have O3:=hid (FR1.out _ w3 _ O2.out hb3);have HZ3:=hid (Nat.le_trans HZ2.out hb3.size);clear hb3 x0 x1 x2 l0 l1 l2 r0 hbq
    gi_wp2
    go_roundw
    case rel=>exact⟨k+1,by omega,by simp,by rw [HI2.out];exact J3.out,K3.out,O3.out,HZ3.out⟩
    case measure=>simp [intOf];omega
   | true =>
    rw [hin] at IN HIT;have HI2:=hid (show inP t loc grp (ps.take (k+1))=inP t loc grp (ps.take k)++[(p,rText (Qy t.rows loc p))] by rw [HIT.out];simp);clear hin HIT
    gi_wp2
    refine⟨trivial,callsIn_wide.2 (IN.out.mono ?_)⟩
    rintro e w3 ⟨rfl,hb3⟩;have J3:=hid (ABJ.out _ w2 w3 none J2.out (Xm hb3) (fun r e=>by cases e));have K3:=hid (KT.out _ _ _ K2.out (KB.out _ _ (Nat.le_trans HZW.out HZ2.out) hb3));have O3:=hid (FR1.out _ w3 _ O2.out hb3);have HZ3:=hid (Nat.le_trans HZ2.out hb3.size);clear hb3 x0 x1 x2 l0 l1 l2 r0 hbq IN
    obtain⟨T3,x0,x1,x2,l0,l1,l2⟩:=BX.out w3 K3.out
    have GT:=hid (T3.get loc p hl HMP.out);clear T3
    gi_wp2
    refine⟨trivial,callsIn_wide.2 (GT.out.mono ?_)⟩
    rintro e w4 ⟨rfl,hb4⟩;have J4:=hid (ABJ.out _ w3 w4 none J3.out (Xm hb4) (fun r e=>by cases e));have K4:=hid (KT.out _ _ _ K3.out (KB.out _ _ (Nat.le_trans HZW.out HZ3.out) hb4));have O4:=hid (FR1.out _ w4 _ O3.out hb4);have HZ4:=hid (Nat.le_trans HZ3.out hb4.size);clear hb4 x0 x1 x2 l0 l1 l2 GT
    obtain⟨fn,tmps,assign,body,hy,hR⟩:=HY.out _ (p,rText (Qy t.rows loc p)) w4 (by
     rw [← HI2.out];exact inP_pre ps (k+1)) J4.out
    dsimp only at hy
    gi_wp2
    refine hR.mono ?_;rintro e w5 (⟨rfl,hJ5,hk5⟩ | ⟨rfl,hJx5⟩)
    ·have O5:=hid (FR2.out _ w5 _ O4.out hk5);have K5:=hid (KT.out _ _ _ K4.out hk5);have HZ5:=hid (Nat.le_trans HZ4.out (KZ.out _ _ hk5))
     gi_wp2
     go_roundw
     case rel=>exact⟨k+1,by omega,by simp,by rw [HI2.out];exact hJ5,K5.out,O5.out,HZ5.out⟩
     case measure=>simp [intOf];omega
    ·gi_wp2
     refine bodyPost_ret (results_none rfl _ _ _) rfl ?_
     exact⟨⟨_,rfl⟩,.inr ⟨inP t loc grp (ps.take (k+1)),by first | exact inP_pre ps (k+1) | (rw [hps];exact inP_pre ps (k+1)),by rw [HI2.out];exact hJx5⟩⟩
  ·have hni:¬ (k:Int)<(ps.length:Int):=by omega
   have hkn:k=ps.length:=by omega
   have HJ3:=hid (show J (inP t loc grp ps) w2 from by have:=J2.out;rw [hkn,List.take_length] at this;exact this)
   gi_wp2
   go_end0
   first | exact⟨⟨_,rfl⟩,.inl ⟨_,rfl,HJ3.out⟩⟩ | exact⟨⟨_,rfl⟩,.inl HJ3.out⟩
end
section
open Go.RowKit Go.Lib
theorem RdSt.at' {w:World}{a:Option Addr}{n c:Nat}{l:List Stp}(h:RdSt w (.slice a n c) l)(k:Nat)(hk:k<l.length):∃ p o kv,a=some ⟨p,o,none⟩∧p<w.heap.size∧w.cell? ⟨p,o+k * 2,none⟩=some (.string ⟨((l[k]'hk).1).toArray⟩)∧w.cell? ⟨p,o+k * 2+1,none⟩=some kv∧RdP w kv (l[k]'hk).2:=by
 obtain⟨ao,cp,e,_,_,hx⟩:=h.cells
 cases e
 obtain⟨p,o,kv,h1,h2,h3,h4,h5⟩:=hx k hk
 exact⟨p,o,kv,h1,h2,h3,h4,h5⟩
theorem ParseOut.own' {w w':World}{s:Str}{x:Ending}(h:ParseOut w s x w'):∃ (v:Value)(er:Nat)(at':Int),x=.returned (.tuple #[v,.agg #[.int .i64 er,.int .i64 at']])∧Below w.heap.size w w'∧∃ l:List Stp,
  OwnSt w' w.heap.size v l∧((er=0∧Qb s=some l)∨(er≠0∧Qb s=none∧l=[]))∧∃ ao cp,v=.slice ao l.length cp∧l.length≤cp∧((ao=none∧l=[]∧cp=0)∨∃ g,ao=some ⟨g,0,none⟩):=by
 obtain⟨⟨l,v,h1,rfl,h2⟩ | ⟨h1,er,a,h2,rfl⟩,hb⟩:=h
 ·refine⟨v,0,0,rfl,hb,l,h2,Or.inl ⟨rfl,h1⟩,?_⟩
  obtain⟨zs,rfl,h3,_⟩:=h2
  rw [List.length_map]
  rcases h3.shape with ⟨rfl,rfl⟩ | ⟨g,cap,cur,rfl,_,_,hn,_⟩
  ·exact⟨none,0,rfl,Nat.le_refl _,Or.inl ⟨rfl,rfl,rfl⟩⟩
  ·exact⟨_,cap,rfl,hn,Or.inr ⟨g,rfl⟩⟩
 ·exact⟨_,er,a,rfl,hb,[],⟨[],rfl,Qf.nil _ _ _ _,fun z hz=>(by cases hz),List.Pairwise.nil⟩,Or.inr ⟨h2,h1,rfl⟩,none,0,rfl,Nat.le_refl _,Or.inl ⟨rfl,rfl,rfl⟩⟩
theorem OwnSt.below {w w':World}{B:Nat}{v:Value}{l:List Stp}(h:OwnSt w B v l)(hb:Below w.heap.size w w'):OwnSt w' B v l:=by
 obtain⟨zs,h1,h2,h3,h4⟩:=h
 exact⟨zs,h1,h2.below hb,fun z hz=>Qz (h3 z hz) hb,h4⟩
theorem row_ne {W:World}{B k n:Nat}{e:TypeId}{v:Value}{xs:List Value}(h:W.ownsRow B e k v n xs){b:Nat}(hb:b<B):v.ownBlock≠some b:=fun e=>by
 have:=(World.ownsRow.lt h b e).1
 omega
theorem OwnSt.set {w:World}{B b:Nat}{v:Value}{l:List Stp}(h:OwnSt w B v l)(hb:b<B)(i:Nat)(x:Value):OwnSt (w.setCell ⟨b,i,none⟩ x) B v l:=by
 obtain⟨zs,h1,h2,h3,h4⟩:=h
 exact⟨zs,h1,Qw h2 (row_ne h2 hb) i x,fun z hz=>Qw (h3 z hz) (row_ne (h3 z hz) hb) i x,h4⟩
theorem OwnSt.at' {w:World}{B:Nat}{a:Option Addr}{n c:Nat}{l:List Stp}(h:OwnSt w B (.slice a n c) l)(k:Nat)(hk:k<l.length):∃ g kv,a=some ⟨g,0,none⟩∧g<w.heap.size∧w.cell? ⟨g,k * 2,none⟩=some (.string ⟨((l[k]'hk).1).toArray⟩)∧w.cell? ⟨g,k * 2+1,none⟩=some kv∧Qd w B kv (l[k]'hk).2:=by
 obtain⟨zs,rfl,h2,h3,_⟩:=h
 rw [List.length_map] at hk
 obtain⟨g,rfl⟩:=Qf.some' h2 (by intro e;rw [e] at hk;simp at hk)
 obtain⟨q0,_,gl⟩:=Qf.cell h2 k 0 (.string ⟨((zs[k]'hk).1.1).toArray⟩) hk rfl
 obtain⟨q1,_,_⟩:=Qf.cell h2 k 1 (Qt (zs[k]'hk)) hk rfl
 rw [Nat.add_zero] at q0
 refine⟨g,Qt (zs[k]'hk),rfl,gl,?_,q1,?_⟩
 ·rw [List.getElem_map];exact q0
 ·rw [List.getElem_map];exact h3 _ (List.getElem_mem hk)
def EndsOut (w : World) (p : Str) (e : Ending) (w' : World) : Prop :=
  ∃ (v s : Value) (er : Nat), e = .returned (.tuple #[v, s, .int .i64 er]) ∧ Below w.heap.size w w' ∧
    ((er ≠ 0 ∧ v = .slice none 0 0 ∧ s = .agg #[.string ⟨#[]⟩, .slice none 0 0] ∧ (Qb p = none ∨ Qb p = some [])) ∨
     (er = 0 ∧ ∃ (l : List Stp) (x : Stp) (kv : Value) (ao : Option Addr) (cp : Nat), Qb p = some (l ++ [x]) ∧ v = .slice ao l.length cp ∧ RdSt w' v l ∧ s = .agg #[.string ⟨x.1.toArray⟩, kv] ∧ Qd w' w.heap.size kv x.2))
theorem pends_any (w:World)(a:Str)(ha:a.length≤maxLen) :
  Calls Tryz.prog 96 #[.string ⟨a.toArray⟩] w fun e w'=>EndsOut w a e w':=by
 go_enter Tryz.func96,Tryz.ntmps96
 have B0:=hid (bal w (.cells #[.string ⟨#[]⟩,.slice none 0 0] 106));have F0:=hid (heap_alloc_new w (.cells #[.string ⟨#[]⟩,.slice none 0 0] 106));go_upto_region 1 with fail;generalize w.alloc (.cells #[.string ⟨#[]⟩,.slice none 0 0] 106)=w0 at *;go_wp2_with fail
 refine(pparse_any a w0 ha).mono ?_
 rintro e w1 h1
 obtain⟨v1,e1,t1,rfl,hb1,l,hl,hc1,a1,k1,rfl,hcap1,hs1⟩:=h1.own'
 have L1:=hid hl;have C1:=hid hc1;have B1:=hid (B0.out.then hb1);have G1:=hid (bk hb1 F0.out);have HB0:=hid (show w.heap.size<w0.heap.size from lt_of_block F0.out);clear h1 hl hc1 hb1 hs1 B0 F0;have HA2:=hid (bal w1 (.cells #[.int .i64 e1,.int .i64 t1] 77));have F2:=hid (heap_alloc_new w1 (.cells #[.int .i64 e1,.int .i64 t1] 77));go_upto_region 2 with fail;generalize w1.alloc (.cells #[.int .i64 e1,.int .i64 t1] 77)=w2 at *;have L2:=hid (L1.out.below HA2.out);have B2:=hid (B1.out.then HA2.out);have G2:=hid (bk HA2.out G1.out);have HNE:=hid (show w.heap.size≠w1.heap.size from Nat.ne_of_lt (lt_of_block G1.out));clear L1 B1 HA2 G1;generalize w1.heap.size=Xb at *
 obtain⟨x0,x1,_,_,xl⟩:=Qq F2.out
 obtain⟨r0,r1,rf0,rf1,rl⟩:=Qq G2.out
 have n1:¬ w.heap.size=Xb:=HNE.out;have n2:¬ Xb=w.heap.size:=fun e=>HNE.out e.symm
 have FIN:=hid (fun(a0 a1:Value)=>(show(P2 w2 w.heap.size a0 a1).heap[w.heap.size]?=some (.cells #[a0,a1] 106 (0,0)) from Kv a0 a1 G2.out))
 rcases C1.out with ⟨rfl,hp1⟩ | ⟨hz1,hp1,rfl⟩
 ·have h64:=(Zd hp1).2.2.1;have hl64:(l.length:Int)≤64:=by omega
  have HP:=hid hp1;clear hp1 C1
  by_cases hz:l.length=0
  ·obtain rfl:l=[]:=List.eq_nil_of_length_eq_zero hz;go_wp2_with fail
   obtain⟨q0,q1,_,_,ql⟩:=Qq (FIN.out (.string ⟨#[]⟩) (.slice none 0 0))
   unfold P2 at q0 q1 ql;refine bodyPost_ret (v:=.tuple #[.slice none 0 0,.agg #[.string ⟨#[]⟩,.slice none 0 0],.int .i64 4]) (by simp [results,Tryz.results96,go_sem,q0,q1]) rfl ?_
   exact⟨_,_,4,rfl,Xd _ _ B2.out (Nat.le_refl _),Or.inl ⟨by decide,rfl,rfl,Or.inr HP.out⟩⟩
  ·obtain⟨m,hm⟩:∃ m,l.length=m+1:=⟨l.length - 1,by omega⟩
   have hml:m<l.length:=by omega
   obtain⟨p,kv,rfl,hpl,s0,s1,hkv⟩:=L2.out.at' m hml
   obtain⟨ka,kc,rfl⟩:=Ql hkv
   have HKV:=hid hkv;clear hkv;have hi:(l.length:Int) - 1=(m:Int):=by omega
   have hm0:(0:Int)≤(m:Int):=by omega
   have hml':(m:Int)<(l.length:Int):=by omega
   have hmk:(m:Int)≤(k1:Int):=by omega
   have HML:=hid hml;have HM:=hid hm;have HGX:=hid (show l.take m++[l[m]'hml]=l from by
    rw [← List.take_succ_eq_append_getElem hml,← hm];exact List.take_length)
   generalize l[m]'hml=x at *;go_wp2_with fail
   go_region
   ·obtain⟨q0,q1,_,_,ql⟩:=Qq (FIN.out (.string ⟨x.1.toArray⟩) (.slice ka x.2.length kc))
    unfold P2 at q0 q1 ql
    try go_wp2_with fail
    refine bodyPost_ret (v:=.tuple #[.slice (some ⟨p,0,none⟩) m k1,.agg #[.string ⟨x.1.toArray⟩,.slice ka x.2.length kc],.int .i64 0]) (by simp [results,Tryz.results96,go_sem,q0,q1]) rfl ?_;have SF:=hid (show RdSt ((w2.setCell ⟨w.heap.size,0,none⟩ (.string ⟨x.1.toArray⟩)).setCell ⟨w.heap.size,1,none⟩ (.slice ka x.2.length kc)).drew (.slice (some ⟨p,0,none⟩) l.length k1) l from(((L2.out.set HB0.out 0 _).set HB0.out 1 _).below (Below.refl _ _).drew).rd);have SX:=hid (show Qd ((w2.setCell ⟨w.heap.size,0,none⟩ (.string ⟨x.1.toArray⟩)).setCell ⟨w.heap.size,1,none⟩ (.slice ka x.2.length kc)).drew w.heap.size (.slice ka x.2.length kc) x.2 from
     ownP_monoS (Qz (Qw (Qw HKV.out (row_ne HKV.out HB0.out) 0 _) (row_ne HKV.out HB0.out) 1 _) (Below.refl _ _).drew) (Nat.le_of_lt HB0.out))
    exact⟨_,_,0,rfl,(Xd _ _ B2.out (Nat.le_refl _)).drew,Or.inr ⟨rfl,l.take m,x,_,_,k1,by rw [HGX.out];exact HP.out,by rw [List.length_take,Nat.min_eq_left (by omega)],SF.out.take m (by omega),rfl,SX.out⟩⟩
 ·have hne:(e1:Int)≠0:=by omega
  have HP:=hid hp1;have HZ:=hid hz1;clear hp1 C1;go_wp2_with fail
  go_region
  ·obtain⟨q0,q1,_,_,ql⟩:=Qq (FIN.out (.string ⟨#[]⟩) (.slice none 0 0))
   unfold P2 at q0 q1 ql
   try go_wp2_with fail
   refine bodyPost_ret (v:=.tuple #[.slice none 0 0,.agg #[.string ⟨#[]⟩,.slice none 0 0],.int .i64 e1]) (by simp [results,Tryz.results96,go_sem,q0,q1]) rfl ?_
   exact⟨_,_,e1,rfl,(Xd _ _ B2.out (Nat.le_refl _)).drew,Or.inl ⟨HZ.out,rfl,rfl,Or.inl HP.out⟩⟩
end
section
open Go.RowKit Go.Lib
def LastOut (w : World) (p : Str) (e : Ending) (w' : World) : Prop :=
  ∃ (s : Value) (er : Nat), e = .returned (.tuple #[s, .int .i64 er]) ∧ Below w.heap.size w w' ∧
    ((er ≠ 0 ∧ s = .agg #[.string ⟨#[]⟩, .slice none 0 0] ∧ (Qb p = none ∨ Qb p = some [])) ∨
     (er = 0 ∧ ∃ (l : List Stp) (x : Stp) (kv : Value), Qb p = some (l ++ [x]) ∧ s = .agg #[.string ⟨x.1.toArray⟩, kv] ∧ Qd w' w.heap.size kv x.2))
theorem plast_any (w:World)(a:Str)(ha:a.length≤maxLen) :
  Calls Tryz.prog 54 #[.string ⟨a.toArray⟩] w fun e w'=>LastOut w a e w':=by
 go_enter Tryz.func54,Tryz.ntmps54
 have B0:=hid (bal w (.cells #[.string ⟨#[]⟩,.slice none 0 0] 106));have F0:=hid (heap_alloc_new w (.cells #[.string ⟨#[]⟩,.slice none 0 0] 106));go_upto_region 1 with fail;generalize w.alloc (.cells #[.string ⟨#[]⟩,.slice none 0 0] 106)=w0 at *;go_wp2_with fail
 refine(pends_any w0 a ha).mono ?_
 rintro e w1 ⟨v,s,er,rfl,hb,hx⟩;have B1:=hid (B0.out.then hb);have G1:=hid (bk hb F0.out);have HB0:=hid (show w.heap.size<w0.heap.size from lt_of_block F0.out)
 obtain⟨sx,ka,kn,kc,rfl⟩:∃ (sx:ByteArray) (ka:Option Addr) (kn kc:Nat),s=.agg #[.string sx,.slice ka kn kc]:=by
  rcases hx with ⟨_,_,rfl,_⟩ | ⟨_,l,x,kv,ao,cp,_,_,_,rfl,hk⟩
  ·exact⟨_,_,_,_,rfl⟩
  ·obtain⟨ka,kc,rfl⟩:=Ql hk
   exact⟨_,_,_,_,rfl⟩
 have HX:=hid hx;clear hb hx B0 F0;have HA2:=hid (bal w1 (.cells #[.string sx,.slice ka kn kc] 106));have F2:=hid (heap_alloc_new w1 (.cells #[.string sx,.slice ka kn kc] 106));go_upto_region 2 with fail;generalize w1.alloc (.cells #[.string sx,.slice ka kn kc] 106)=w2 at *;have B2:=hid (B1.out.then HA2.out);have G2:=hid (bk HA2.out G1.out);have HNE:=hid (show w.heap.size≠w1.heap.size from Nat.ne_of_lt (lt_of_block G1.out))
 obtain⟨y0,y1,_,_,yl⟩:=Qq F2.out
 obtain⟨r0,r1,rf0,rf1,rl⟩:=Qq G2.out
 have n1:¬ w.heap.size=w1.heap.size:=HNE.out;have n2:¬ w1.heap.size=w.heap.size:=fun e=>HNE.out e.symm
 obtain⟨q0,q1,_,_,ql⟩:=Qq (show(P2 w2 w.heap.size (.string sx) (.slice ka kn kc)).heap[w.heap.size]?=some (.cells #[.string sx,.slice ka kn kc] 106 (0,0)) from Kv _ _ G2.out)
 unfold P2 at q0 q1 ql;go_wp2_with fail;refine bodyPost_ret (v:=.tuple #[.agg #[.string sx,.slice ka kn kc],.int .i64 er]) (by simp [results,Tryz.results54,go_sem,q0,q1]) rfl ?_
 refine⟨_,er,rfl,Xd _ _ B2.out (Nat.le_refl _),?_⟩
 rcases HX.out with ⟨h1,_,h2,h3⟩ | ⟨h1,l,x,kv,ao,cp,h2,_,_,h3,hk⟩
 ·exact Or.inl ⟨h1,h2,h3⟩
 ·obtain⟨_,_,rfl⟩:=Ql hk
  have hk2:=Qz hk HA2.out;exact Or.inr ⟨h1,l,x,_,h2,h3,ownP_monoS (Qw (Qw hk2 (row_ne hk2 HB0.out) 0 _) (row_ne hk2 HB0.out) 1 _) (Nat.le_of_lt HB0.out)⟩
def upF (p:Str):Option Str:=match Qb p with
 | none=>none
 | some l=>if l=[] then none else some (Zb l.dropLast)
theorem pparent_any (w:World)(a:Str)(ha:a.length≤maxLen) :
  Calls Tryz.prog 55 #[.string ⟨a.toArray⟩] w fun e w'=>(∃ er:Nat,e=.returned (.tuple #[.string ⟨((upF a).getD []).toArray⟩,.int .i64 er])∧(er=0↔(upF a).isSome=true))∧Below w.heap.size w w':=by
 go_enter Tryz.func55,Tryz.ntmps55
 go_wp2_with fail
 refine(pends_any w a ha).mono ?_
 rintro e w1 ⟨v,s,er,rfl,hb,hx⟩;have B1:=hid hb;clear hb
 obtain⟨sx,ka,kn,kc,rfl⟩:∃ (sx:ByteArray) (ka:Option Addr) (kn kc:Nat),s=.agg #[.string sx,.slice ka kn kc]:=by
  rcases hx with ⟨_,_,rfl,_⟩ | ⟨_,l,x,kv,ao,cp,_,_,_,rfl,hk⟩
  ·exact⟨_,_,_,_,rfl⟩
  ·obtain⟨ka,kc,rfl⟩:=Ql hk
   exact⟨_,_,_,_,rfl⟩
 have HX:=hid hx;clear hx;have HA2:=hid (bal w1 (.cells #[.string sx,.slice ka kn kc] 106));go_upto_region 2 with fail;generalize w1.alloc (.cells #[.string sx,.slice ka kn kc] 106)=w2 at *;have B2:=hid (B1.out.then HA2.out)
 rcases HX.out with ⟨hz,rfl,_,hp⟩ | ⟨rfl,l,x,kv,ao,cp,hp,rfl,hr,_,_⟩
 ·have hne:(er:Int)≠0:=by omega
  have HP:=hid (show upF a=none by
   unfold upF
   rcases hp with h | h
   ·rw [h]
   ·rw [h];rfl)
  have HZ:=hid hz;clear hp hz;go_wp2_with fail;refine bodyPost_ret (v:=.tuple #[.string ⟨#[]⟩,.int .i64 er]) (by simp [results,Tryz.results55,go_sem]) rfl ?_
  exact⟨⟨er,by rw [HP.out];rfl,by rw [HP.out];simpa using HZ.out⟩,B2.out⟩
 ·obtain⟨zs,hz1,hz2,hz3⟩:=hr
  have RZ:=hid (hz2.below HA2.out);have RK:=hid (fun z hz=>(hz3 z hz).below HA2.out);have HP:=hid (show upF a=some (Zb l) by
   unfold upF;rw [hp]
   simp)
  have HPR:=hid (show Zy (zs.map (·.1))=some (Zb l) by
   have:=print_take hp l.length
   rw [List.take_left' rfl] at this;rw [hz1];exact this)
  clear hz1 hz2 hz3 hp
  go_wp2_with (go_at_call 89;refine(put_one _ _ zs _ RZ.out RK.out HPR.out).mono ?_;rintro e w6 ⟨rfl,hb6⟩;have B6:=hid (B2.out.then hb6);clear hb6)
  refine bodyPost_ret (v:=.tuple #[.string ⟨(Zb l).toArray⟩,.int .i64 0]) (by simp [results,Tryz.results55,go_sem]) rfl ?_
  exact⟨⟨0,by rw [HP.out];rfl,by rw [HP.out];simp⟩,B6.out⟩
end
section
open Go.RowKit Go.Lib Go.Sort Go.Maps Go.WideMaps Go.Shelf
theorem TbP.same {B0:Nat}{W W':World}{pt:Nat}{t:Tb}(h:TbP B0 W pt t)(he:∀ k,k<W.heap.size→W'.heap[k]?=W.heap[k]?):TbP B0 W' pt t:=by
 obtain⟨bv,ba,bn,bp,N,V,⟨⟨a1,a2,a3,a4,a5,a6,a7,a8,a9,a10⟩,lo,h3⟩⟩:=h
 have hm:∀ {α:Type} {E:El α} {k n:Nat} {L:List (Str×α)},Zh E W k n L→Zh E W' k n L:=fun {α E k n L} ho=>ho.block (he _ ho.lt)
 exact⟨bv,ba,bn,bp,N,V,⟨⟨(he _ (lt_of_block a1)).trans a1,hm a2,hm a3,hm a4,hm a5,fun p hp=>hm (a6 p hp),a7,a8,a9,a10⟩,lo,h3⟩⟩
end
end Go.Proofs.YtbbmdbolkicpcaaGreatDoor
