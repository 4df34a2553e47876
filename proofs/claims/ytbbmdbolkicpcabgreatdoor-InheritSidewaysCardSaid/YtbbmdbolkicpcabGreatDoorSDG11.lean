/- InhP, InhQ, AlHas, PtMay, PtMayB, TbWakes, TbTexts, TbCut, PtCat, PtCatB, PtPut -/
import Derived.Test.YtbbmdbolkicpcabGreatDoorSDG07
import Derived.Test.YtbbmdbolkicpcabGreatDoorSDG08
import Derived.Test.YtbbmdbolkicpcabGreatDoorSDG10
import Derived.Test.YtbbmdbolkicpcabGreatDoorSDG02
import Derived.Test.YtbbmdbolkicpcabGreatDoorSDG06
import Derived.Test.YtbbmdbolkicpcabGreatDoorSDG04
import Derived.BigQuiet
import Derived.IntWalk
import Derived.WalkSmall
import Derived.Laws.AppendOwnNone
import Derived.Lib.AppendZeros
import Derived.Test.YtbbmdbolkicpcabGreatDoorSDShelf
set_option maxRecDepth 100000
set_option maxHeartbeats 32000000
set_option linter.unusedVariables false
set_option linter.unusedSimpArgs false
namespace Go.Proofs.YtbbmdbolkicpcabGreatDoor
section
open Go.Lib
def Bk (p:Str)(a:Al):Option Str:=(Yf p a.2).bind fun r=>Gt a.1 r
theorem Qnk {p q:Str}{a:Al}(h:Bk p a=some q):Zv q=true:=by
 obtain⟨r,_,hj⟩:=Option.bind_eq_some_iff.1 h
 obtain⟨l,m,_,_,h3,_⟩:=Qjx hj
 unfold Zv;rw[h3];rfl
inductive Gen (D:List Al)(S:List Str):Str→Prop
 |base {p:Str}:p∈S→Gen D S p
 |step {p q:Str}{a:Al}:Gen D S p→a∈D→Bk p a=some q→Gen D S q
theorem Gen.mono {D:List Al}{S S':List Str}(h:∀p∈S,p∈S'){p:Str}(g:Gen D S p):Gen D S' p:=by
 induction g with
 |base h1=>exact .base (h _ h1)
 |step _ h1 h2 ih=>exact .step ih h1 h2
theorem Gen.path {D:List Al}{S:List Str}(h:∀p∈S,Zv p=true){p:Str}(g:Gen D S p):Zv p=true:=by
 cases g with
 |base h1=>exact h _ h1
 |step _ _ h2=>exact Qnk h2
structure En (D:List Al)(S K:List Str):Prop where
 nodup:K.Nodup
 gen:∀p∈K,Gen D S p
 base:∀p∈S,p∈K
 closed:∀p∈K,∀a∈D,∀q,Bk p a=some q→q∈K
theorem En.all {D:List Al}{S K:List Str}(h:En D S K){p:Str}(g:Gen D S p):p∈K:=by
 induction g with
 |base h1=>exact h.base _ h1
 |step _ h1 h2 ih=>exact h.closed _ ih _ h1 _ h2
def Tq (D:List Al)(S:List Str)(ok:Bool)(K:List Str):Prop :=
 (ok=true∧En D S K∧K.length≤16384)∨(ok=false∧∃L:List Str,L.Nodup∧(∀p∈L,Gen D S p)∧16384<L.length)
structure Rsv where
 t:Tb
 par:List (Str×Str)
 als:List Al
 known:List Str
def Xhh:Str:=[226,134,145,226,134,145,226,134,145]
def atF (t:Tb)(s:Str×Str):Option Str:=match Jk t.rows s.1 s.2 with
 |none=>none
 |some r=>if r.text=Xhh∧s.1≠[]then none else some r.text
def Vz (t:Tb):List (Str×Str)→List (Str×Str)×Option Str
 |[]=>([],none)
 |s::r=>match atF t s with
  |some v=>([s],some v)
  |none=>(s::(Vz t r).1,(Vz t r).2)
theorem Er (t:Tb)(a b:List (Str×Str)):Vz t (a++b)=match (Vz t a).2 with
  |some v=>((Vz t a).1,some v)
  |none=>(a++(Vz t b).1,(Vz t b).2):=by
 induction a with
 |nil=>rfl
 |cons s r ih =>
  rw[List.cons_append,Vz,Vz]
  cases atF t s with
  |some v=>rfl
  |none =>
   simp only
   rw[ih]
   cases (Vz t r).2 <;> rfl
end
section
open Go.Lib
def Vd:Str:=[97,108,116]
def Qk:Str:=[99,111,117,110,116]
def Xv:Str:=[111,116,104,101,114]
def Jy (x:Stp)(key:Str):Bool:=x.2.any fun k=>k.1==key
def Hq (x:Stp)(key:Str):Stp:=(x.1,x.2.filter fun k=>k.1 != key)
def Qyv (key:Str)(f:Stp→Stp):List Stp→Option (List Stp)
 |[]=>none
 |x::r=>match Qyv key f r with
  |some r'=>some (x::r')
  |none=>if Jy x key then some (f x::r)else none
def Tz (key:Str)(l:List Stp):Option (List Stp):=Qyv key (fun x=>Hq x key) l
def Bv (key v:Str)(x:Stp):Stp:=(x.1,x.2.map fun k=>if k.1=key then(key,v)else k)
def Qh (p key:Str):Option Str:=(Qy p).bind fun l=>(Tz key l).bind Zw
def Cc (p:Str):Option Str:=(Qy p).bind fun l=>(Qyv Qk (Bv Qk Xv) l).bind Zw
def Hz (p:Str):List Str:=match Qy p with
 |none=>[]
 |some _ =>
  let p1:=(Qh p Vd).getD p
  (p::(Qh p Vd).toList)++match Qh p1 Qk with
   |none=>[]
   |some bare=>(match Cc p1 with
    |some q=>if q=p1 then []else [q]
    |none=>[])++[bare]
theorem Qkq {p:Str}(h:Zv p=false):Hz p=[]:=by
 have:Qy p=none:=by
  unfold Zv at h
  cases hp:Qy p with
  |none=>rfl
  |some l=>rw[hp]at h;cases h
 unfold Hz;rw[this]
open Classical in
noncomputable def Qnv (D:List Al)(p:Str):List Str:=if h:∃l,Nm D p l then Classical.choose h else []
theorem Xpy {D:List Al}{p:Str}{l:List Str}(h:Nm D p l):Qnv D p=l:=by
 unfold Qnv;rw[dif_pos ⟨l,h⟩];exact Xmw (Classical.choose_spec ⟨l,h⟩) h
open Classical in
noncomputable def Hp (D:List (Str×Str))(s:Str):List Str:=if h:∃l,Pp D s l then Classical.choose h else []
theorem chain_one' {D:List (Str×Str)}{s:Str}{l m:List Str}(h:Pp D s l)(g:Pp D s m):l=m:=by
 rcases h with ⟨h1,h2⟩|⟨h1,h2⟩
 ·rcases g with ⟨g1,g2⟩|⟨g1,g2⟩
  ·exact Zbg h2 g2
  ·rw[h1]at g1;cases g1
 ·rcases g with ⟨g1,g2⟩|⟨g1,g2⟩
  ·rw[h1]at g1;cases g1
  ·rw[h2,g2]
theorem Zwz {D:List (Str×Str)}{s:Str}{l:List Str}(h:Pp D s l):Hp D s=l:=by
 unfold Hp;rw[dif_pos ⟨l,h⟩];exact chain_one' (Classical.choose_spec ⟨l,h⟩) h
def Yn (t:Tb):List Str:=(t.rows.filter fun r=>r.loc != []).map (·.path)
structure Rm (R:Rsv):Prop where
 par:Pf R.par 0 0
 als:Np R.als 0 0
 known:En R.als (Yn R.t) R.known
 k16:R.known.length≤16384
 paths:∀p∈R.t.paths,Zv p=true
 tb:Fx R.t
theorem al_ok {D:List Al}{i:Nat}(h:Np D 0 i):(∀p∈D,Sm p)∧(D.map (·.1)).Nodup∧(∀p∈D,¬Qmy D p)∧i=0:=by
 have hb:∀{r done:List Al}{e i:Nat},Pd done r=some (e,i)→e≠0:=by
  intro r
  induction r with
  |nil=>intro done e i h;cases h
  |cons p r ih =>
   intro done e i h;unfold Pd at h
   split at h
   ·split at h
    ·cases h;decide
    ·exact ih h
   ·cases h;decide
 rcases h with h|⟨_,h,_⟩|⟨h1,_,h2,h3⟩
 ·exact absurd rfl (hb h)
 ·cases h
 ·obtain⟨g1,g2⟩:=badA_none h1 ⟨fun p hp=>(by cases hp),by simp⟩
  exact⟨g1,g2,h3,h2⟩
theorem Rm.way {R:Rsv}(h:Rm R)(p:Str):Nm R.als p (Qnv R.als p)∧(Qnv R.als p).length≤R.als.length+1:=by
 obtain⟨_,h2,h3,_⟩:=al_ok h.als
 obtain⟨l,hl,hz⟩:=way_ex h2 h3 p
 rw[Xpy hl]
 exact⟨hl,hz⟩
theorem Rm.chain {R:Rsv}(h:Rm R)(s:Str):Pp R.par s (Hp R.par s):=by
 obtain⟨l,hl⟩:=chain_ex h.par s
 rw[Zwz hl];exact hl
theorem Rm.chain_ne {R:Rsv}(h:Rm R){s x:Str}(hx:x∈Hp R.par s):Qj x=true:=by
 rcases h.chain s with ⟨h1,h2⟩|⟨_,h2⟩
 ·exact Qmv (Zdq h.par).1 h1 h2 x hx
 ·rw[h2]at hx;cases hx
theorem named_nil:Qj []=false:=by decide +kernel
def Xph (l p:Str):Bool:=Zv p&&(l==[]||Qj l)
theorem Rm.chain_len {R:Rsv}(h:Rm R)(s:Str):(0<(Hp R.par s).length)↔Qj s=true:=by
 rcases h.chain s with ⟨h1,h2⟩|⟨h1,h2⟩
 ·obtain⟨r,hr⟩:=Uk h2
  rw[hr,h1];simp
 ·rw[h1,h2];simp
noncomputable def Vk (R:Rsv)(l p:Str):List (Str×Str):=if l=[]then [([],p)] else(Qnv R.als p).flatMap fun q=>(Hp R.par l).map fun x=>(x,q)
theorem Zdh {p key q:Str}(h:Qh p key=some q):Zv q=true:=by
 unfold Qh at h
 obtain⟨l,_,h⟩:=Option.bind_eq_some_iff.1 h
 obtain⟨m,_,h⟩:=Option.bind_eq_some_iff.1 h
 unfold Zv;rw[Vs h];rfl
end
section
open Go.RowKit Go.Lib Go.Sort
theorem Qlv (bk:Nat)(key:Str)(x:Str×Str)(W:World)(hk:W.cell? ⟨bk,0,none⟩=some (S key))(hb:bk<W.heap.size) :
  Calls Tryz.prog 110 #[.agg #[S x.1,S x.2],.pointer (some ⟨bk,0,none⟩)] W fun e w'=>e=.returned (.bool (x.1==key))∧Below W.heap.size W w':=by
 unfold S at hk ⊢
 go_enter Tryz.func110,Tryz.ntmps110
 go_wp2
 all_goals go_ret
 all_goals refine⟨Qc ?_,?_⟩
 all_goals first|exact bal _ _|simp[Lib.toList_data]
theorem Xhg (w:World)(bk:Nat)(key:Str)(hk:w.heap[bk]?=some (.cells #[S key] 9 (0,0))) :
  PredBelow Tryz.prog 110 #[.pointer (some ⟨bk,0,none⟩)] (fun x=>.agg (Kt x).toArray) (fun x=>x.1==key) w:=by
 intro W x hb;have hlt:=lt_of_block hk;have h:=Qlv bk key x W ((hb.cell (p:=⟨bk,0,none⟩) hlt).trans (cell_of_one hk)) (Nat.lt_of_lt_of_le hlt hb.size);exact h.mono fun e w' hh=>⟨hh.1,hb.then hh.2⟩
theorem Qhw (lb:Array Value)(w:World) :
  Calls Tryz.prog 146 #[.slice none 0 0,.func (.func 110) #[] lb] w fun e w'=>e=.returned (.int .i64 (-1))∧w'=w:=by
 go_enter Tryz.func146,Tryz.ntmps146
 go_wp2
 refine wp_loop_rounds 1 ?_;rw[rounds_succ]
 go_wp2
 go_ret
 exact⟨rfl,rfl⟩
theorem Wt (lb:Array Value)(w:World) :
  Calls Tryz.prog 109 #[.slice none 0 0,.func (.func 110) #[] lb] w fun e w'=>e=.returned (.bool false)∧w'=w:=by
 go_enter Tryz.func109,Tryz.ntmps109
 go_wp2_with (go_at_call 146;refine(Qhw _ _).mono ?_;rintro e w' ⟨rfl,rfl⟩)
 go_ret
 exact⟨rfl,rfl⟩
theorem Qlw (bk:Nat)(key:Str)(x:Str×Str)(W:World)(hk:W.cell? ⟨bk,0,none⟩=some (S key))(hb:bk<W.heap.size) :
  Calls Tryz.prog 114 #[.agg #[S x.1,S x.2],.pointer (some ⟨bk,0,none⟩)] W fun e w'=>e=.returned (.bool (x.1==key))∧Below W.heap.size W w':=by
 unfold S at hk ⊢
 go_enter Tryz.func114,Tryz.ntmps114
 go_wp2
 all_goals go_ret
 all_goals refine⟨Qc ?_,?_⟩
 all_goals first|exact bal _ _|simp[Lib.toList_data]
theorem Xgq (w:World)(bk:Nat)(key:Str)(kv:Value)(hk:w.heap[bk]?=some (.cells #[S key,kv] 37 (0,0))) :
  PredBelow Tryz.prog 114 #[.pointer (some ⟨bk,0,none⟩)] (fun x=>.agg (Kt x).toArray) (fun x=>x.1==key) w:=by
 intro W x hb;have hlt:=lt_of_block hk;have h:=Qlw bk key x W ((hb.cell (p:=⟨bk,0,none⟩) hlt).trans (by rw[cell_of_row _ _ _ _ _ _ hk];rfl)) (Nat.lt_of_lt_of_le hlt hb.size);exact h.mono fun e w' hh=>⟨hh.1,hb.then hh.2⟩
theorem Qhy (lb:Array Value)(w:World) :
  Calls Tryz.prog 146 #[.slice none 0 0,.func (.func 114) #[] lb] w fun e w'=>e=.returned (.int .i64 (-1))∧w'=w:=by
 go_enter Tryz.func146,Tryz.ntmps146
 go_wp2
 refine wp_loop_rounds 1 ?_;rw[rounds_succ]
 go_wp2
 go_ret
 exact⟨rfl,rfl⟩
theorem Wl (lb:Array Value)(w:World) :
  Calls Tryz.prog 109 #[.slice none 0 0,.func (.func 114) #[] lb] w fun e w'=>e=.returned (.bool false)∧w'=w:=by
 go_enter Tryz.func109,Tryz.ntmps109
 go_wp2_with (go_at_call 146;refine(Qhy _ _).mono ?_;rintro e w' ⟨rfl,rfl⟩)
 go_ret
 exact⟨rfl,rfl⟩
theorem Qkz {w:World}{a:Option Addr}{n c:Nat}{l:List (Str×Str)}(h:RdP w (.slice a n c) l){p o:Nat}(ha:a=some ⟨p,o,none⟩) :
  ∀j,j<l.length→∀i v,(Kt l[j]!)[i]?=some v→w.cell? ⟨p,o+j * 2+i,none⟩=some v:=by
 intro j hj i v hv
 obtain⟨ao,cp,e,_,hc⟩:=h
 cases e
 obtain⟨b,off,hb,hlt,hx⟩:=hc (by intro e;rw[e]at hj;simp at hj)
 rw[ha]at hb
 cases hb;refine hx j i v hj ?_
 rwa [getElem!_pos l j hj]at hv
theorem hasKeyAT (w:World)(v:Value)(l:List (Str×Str))(bk:Nat)(key:Str)(h:RdP w v l)(hl:l.length≤1000000)(hp:∀a n c,v=.slice (some a) n c→∃p o,a=⟨p,o,none⟩∧p<w.heap.size)(hk:w.heap[bk]?=some (.cells #[S key] 9 (0,0))) :
  Calls Tryz.prog 109 #[v,.func (.func 110) #[] #[.pointer (some ⟨bk,0,none⟩)]] w fun e w'=>e=.returned (.bool (l.any fun p=>p.1==key))∧Below w.heap.size w w':=by
 have eg:∀args w,(callFunc 110 args).run Tryz.prog w=.ok (.enter 110 args) w:=enters_of Tryz.func110 (by kernel_rfl) rfl
 obtain⟨ao,cp,rfl,hl1,_⟩:=id h
 cases ao with
 |none =>
  obtain⟨hn,rfl⟩:=hl1.2 rfl
  subst hn
  exact(Wt _ w).mono fun e w' hh=>⟨hh.1,hh.2▸Below.refl _ _⟩
 |some a =>
  obtain⟨p,o,rfl,hlt⟩:=hp a _ _ rfl
  have hc:=AnyQ.slices_ContainsFunc Tryz.cfPair 2 Tryz.isAgg37 Tryz.sizeOf37 Kt (fun _=>rfl) (fun x=>x.1==key) 110 #[.pointer (some ⟨bk,0,none⟩)] eg p o l.length cp l w (Xhg w bk key hk) (Nat.le_refl _) (by omega) hlt (Qkz h rfl);change Calls Tryz.prog 109 _ _ _ at hc;rw[List.take_length]at hc;exact hc
theorem hasKeyAN (w:World)(v:Value)(l:List (Str×Str))(bk:Nat)(key:Str)(h:RdP w v l)(hl:l.length≤1000000)(hp:∀a n c,v=.slice (some a) n c→∃p o,a=⟨p,o,none⟩∧p<w.heap.size)(kv:Value)(hk:w.heap[bk]?=some (.cells #[S key,kv] 37 (0,0))) :
  Calls Tryz.prog 109 #[v,.func (.func 114) #[] #[.pointer (some ⟨bk,0,none⟩)]] w fun e w'=>e=.returned (.bool (l.any fun p=>p.1==key))∧Below w.heap.size w w':=by
 have eg:∀args w,(callFunc 114 args).run Tryz.prog w=.ok (.enter 114 args) w:=enters_of Tryz.func114 (by kernel_rfl) rfl
 obtain⟨ao,cp,rfl,hl1,_⟩:=id h
 cases ao with
 |none =>
  obtain⟨hn,rfl⟩:=hl1.2 rfl
  subst hn
  exact(Wl _ w).mono fun e w' hh=>⟨hh.1,hh.2▸Below.refl _ _⟩
 |some a =>
  obtain⟨p,o,rfl,hlt⟩:=hp a _ _ rfl
  have hc:=AnyQ.slices_ContainsFunc Tryz.cfPair 2 Tryz.isAgg37 Tryz.sizeOf37 Kt (fun _=>rfl) (fun x=>x.1==key) 114 #[.pointer (some ⟨bk,0,none⟩)] eg p o l.length cp l w (Xgq w bk key kv hk) (Nat.le_refl _) (by omega) hlt (Qkz h rfl);change Calls Tryz.prog 109 _ _ _ at hc;rw[List.take_length]at hc;exact hc
end
section
open Go.RowKit Go.Lib
theorem Zly (s:ByteArray)(w:World)(hs:s.size≤9223372036854775806) :
  Calls Tryz.prog 245 #[.string s,.func (.func 165) #[] #[]] w fun e w'=>e=.returned (.bool (Yh Zd s.data.toList))∧w'=w:=by
 have hs2:(s.size:Int)≤9223372036854775806:=by omega
 go_enter Tryz.func245,Tryz.ntmps245
 go_wp2
 go_loop[5,8] (fun _ i=>∃k:Nat,k≤s.size∧i=.int .i64 k∧(s.data.toList.take k).all Zd=true) (fun _ i=>s.size-(intOf i).toNat)
 case atStart=>exact⟨0,Nat.zero_le _,rfl,by simp⟩
 case round =>
  obtain⟨k,hk,rfl,hall⟩:=hrel
  have HA:=hid hall;clear hall
  by_cases hlt:k<s.size
  ·have HS:=hid (Hs Zd s k hlt)
   cases hp:Zd s[k]
   ·have HP:=hid hp;have hgk:∀W,Calls Tryz.prog 165 #[.int .u8 (s[k].toNat:Int)] W fun e w'=>e=.returned (.bool false)∧w'=W:=fun W=>hp▸Yl s[k] W
    clear hp
    go_wp2_with (go_at_call 165;refine(hgk _).mono ?_;rintro e w' ⟨rfl,rfl⟩)
    go_ret
    exact⟨Qc (Zgj hlt HP.out).symm,rfl⟩
   ·have HP:=hid hp;have hgk:∀W,Calls Tryz.prog 165 #[.int .u8 (s[k].toNat:Int)] W fun e w'=>e=.returned (.bool true)∧w'=W:=fun W=>hp▸Yl s[k] W
    clear hp
    go_wp2_with (go_at_call 165;refine(hgk _).mono ?_;rintro e w' ⟨rfl,rfl⟩)
    go_round
    case rel=>exact⟨k+1,by omega,by go_num,by rw[HS.out,HA.out,HP.out];rfl⟩
    case measure=>simp[intOf];omega
  ·go_wp2
   go_ret
   exact⟨Qc (by rw[Qfz hk hlt HA.out,Lib.toList_data]),rfl⟩
theorem Zwx (s:Str)(w:World)(hs:s.length≤9223372036854775806):Calls Tryz.prog 193 #[.string ⟨s.toArray⟩] w fun e w'=>e=.returned (.bool (Xg s))∧w'=w:=by
 have AL:=hid (Zly ⟨s.toArray⟩ w (by rw[Lib.size_eq];exact hs));rw[show(⟨s.toArray⟩:ByteArray).data.toList=s from rfl]at AL
 cases s with
 |nil =>
  have hb:Yh Zd ([]:Str)=false:=rfl;rw[hb]at AL
  go_enter Tryz.func193,Tryz.ntmps193
  go_wp2_with (go_at_call 245;refine AL.out.mono ?_;rintro e w' ⟨rfl,rfl⟩)
  go_ret
  exact⟨rfl,rfl⟩
 |cons c t =>
  have NS:=hid (Yk c w);have hall:Yh Zd (c::t)=(c::t).all Zd:=by simp[Yh]
  rw[hall]at AL;have hby:∀h,(⟨(c::t).toArray⟩:ByteArray)[0]'h=c:=fun h=>rfl
  have hnok:Xg (c::t)=((c::t).all Zd&&Xr c):=by simp only[Xg,Zl];rw[Bool.and_comm]
  have HN:=hid hnok;clear hnok hall;have hsz:(0:Int)<((⟨(c::t).toArray⟩:ByteArray).size:Int):=by rw[Lib.size_eq];simp
  cases ha:(c::t).all Zd with
  |false =>
   rw[ha]at AL HN;clear ha
   go_enter Tryz.func193,Tryz.ntmps193
   go_wp2_with (go_at_call 245;refine AL.out.mono ?_;rintro e w' ⟨rfl,rfl⟩)
   go_ret
   exact⟨Qc (by rw[HN.out];rfl),rfl⟩
  |true =>
   rw[ha]at AL HN;clear ha
   go_enter Tryz.func193,Tryz.ntmps193
   go_wp2_with (first
    |(go_at_call 245;refine AL.out.mono ?_;rintro e w' ⟨rfl,rfl⟩)
    |(go_at_call 164;refine NS.out.mono ?_;rintro e w' ⟨rfl,rfl⟩))
   go_ret
   exact⟨Qc (by rw[HN.out];rfl),rfl⟩
def Gl (v:Str):Bool:=v.all (fun c=>!Bz c)
theorem Qnw (c:UInt8)(t:Str):Gl (c::t)=(!Bz c&&Gl t):=rfl
theorem Zwj:∀(run t:Str),(∀c∈run,128≤c.toNat)→Gl (run++t)=Gl t
 |[],t,_=>rfl
 |c::r,t,h=>by
  have hc:Bz c=false:=by
   have:=(Zgy (h c (List.mem_cons_self ..))).2.2.2
   simp only[Bool.or_eq_false_iff]at this;exact this.1.1.1
  rw[List.cons_append,Qnw,hc,Zwj r t (fun d hd=>h d (List.mem_cons_of_mem _ hd))];rfl
theorem Qny {l:Str}{r k:Nat}(h:Lw l r k):Gl l=(!(decide ((r:Int)<32)||(r:Int)==127)&&Gl (l.drop k)):=by
 cases h with
 |one c t hc =>
  rw[Qnw]
  congr 1
  congr 1
  revert c;apply Zn;decide +kernel
 |more run t r h2 h4 hr hm hb he =>
  rw[Zwj run t hb,List.drop_left];have h1:decide ((r:Int)<32)=false:=decide_eq_false (by omega);have h3:((r:Int)==127)=false:=by rw[beq_eq_false_iff_ne];omega
  rw[h1,h3];rfl
theorem Xgz (v:Str)(w:World)(hv:Zq v=true)(hs:v.length≤140737488355328) :
  Calls Tryz.prog 268 #[.string ⟨v.toArray⟩,.func (.func 191) #[] #[],.bool true] w fun e w'=>(∃i:Int,e=.returned (.int .i64 i)∧decide ((0:Int)≤i)=!Gl v)∧Below w.heap.size w w':=by
 have CT:=hid (fun r W=>Zfk r W);have hsz:(⟨v.toArray⟩:ByteArray).size=v.length:=Lib.size_eq _;have HSZ:=hid hsz;have HV:=hid hv;clear hv hsz
 go_enter Tryz.func268,Tryz.ntmps268
 go_wp2_with fail
 go_loopg[6] v.length (fun g v6 W=>v6=.int .i64 0∧∃pos:Nat,pos≤v.length∧v.length≤pos+g∧W.heap[w.heap.size]?=some (.stringIter ⟨v.toArray⟩ pos)∧Zq (v.drop pos)=true∧Gl v=Gl (v.drop pos)∧Below w.heap.size w W)
 case atStart=>exact⟨rfl,0,Nat.zero_le _,by omega,World.iter_heap w _ 0,HV.out,rfl,bal _ _⟩
 case round =>
  obtain⟨rfl,pos,hpos,hg,hit,hut,hno,hb⟩:=hrel
  rename World=>wr
  have HG:=hid hg;have HNO:=hid hno;clear hg hno
  by_cases hp:pos<v.length
  ·have hne:v.drop pos≠[]:=by intro e;have:=congrArg List.length e;simp at this;omega
   have hdl:=Sz hne
   obtain⟨hsd,hnext⟩:=Hy hne hut
   have hnx:∀ty,(Instr.next (.pointer (some ⟨w.heap.size,0,none⟩)) true ty).run Tryz.prog wr=_:=fun ty=>Lib.run_next_any_at wr w.heap.size ⟨v.toArray⟩ pos ty hit (by rw[Lib.size_eq];exact hp)
   simp only[Qfw]at hnx;have hrc:=Qny hsd;rw[List.length_drop]at hdl;rw[List.drop_drop]at hnext hrc;generalize hd:decodeL (v.drop pos)=rk at *
   obtain⟨r,k⟩:=rk
   simp only at hnx hdl hnext hrc;have HIT:=hid (Lib.iterAt_heap wr w.heap.size ⟨v.toArray⟩ pos (pos+k) hit);have HBW:=hid (Lib.below_iterAt hb (k:=w.heap.size) (by omega) ⟨v.toArray⟩ (pos+k));have HPK:=hid (show pos+k≤v.length∧1≤k by omega);have HNX:=hid hnext;have HRC:=hid hrc;have CTR:=hid (fun W=>CT.out (r:Int) W)
   obtain⟨b,hbd⟩:∃b,b=(decide ((r:Int)<32)||(r:Int)==127):=⟨_,rfl⟩
   rw[←hbd]at CTR HRC;clear hit hut hne hdl hsd hnext hrc hd hb hbd
   cases b with
   |true =>
    have HF:=hid (show Gl v=false by rw[HNO.out,HRC.out];rfl);have hp0:(0:Int)≤(pos:Int):=by omega
    go_wp2_with (go_at_call 191;refine(CTR.out _).mono ?_;rintro e w' ⟨rfl,rfl⟩)
    exact bodyPost_ret (v:=.int .i64 pos) (by simp[results,Tryz.results268,go_sem]) rfl ⟨⟨_,rfl,by rw[HF.out];exact decide_eq_true hp0⟩,HBW.out⟩
   |false =>
    have HF:=hid (show Gl v=Gl (v.drop (pos+k))by rw[HNO.out,HRC.out];rfl)
    go_wp2_with (go_at_call 191;refine(CTR.out _).mono ?_;rintro e w' ⟨rfl,rfl⟩)
    go_roundg (gk-1)
    case measure=>have:=HG.out;omega
    case rel=>exact⟨rfl,pos+k,HPK.out.1,by have:=HG.out;have:=HPK.out;omega,HIT.out,HNX.out,HF.out,HBW.out⟩
  ·have hnx:∀ty,(Instr.next (.pointer (some ⟨w.heap.size,0,none⟩)) true ty).run Tryz.prog wr=_:=fun ty=>Lib.run_next_end_at wr w.heap.size ⟨v.toArray⟩ pos ty hit (by rw[Lib.size_eq];exact hp)
   have HF:=hid (show Gl v=true by rw[HNO.out,List.drop_eq_nil_of_le (by omega)];rfl);have HB:=hid hb;clear hit hut hb;go_wp2_with fail;exact bodyPost_ret (v:=.int .i64 (-1)) (by simp[results,Tryz.results268,go_sem]) rfl ⟨⟨_,rfl,by rw[HF.out];rfl⟩,HB.out⟩
theorem Zlh (v:Str)(w:World)(hv:Zq v=true)(hs:v.length≤140737488355328) :
  Calls Tryz.prog 246 #[.string ⟨v.toArray⟩,.func (.func 191) #[] #[]] w fun e w'=>(∃i:Int,e=.returned (.int .i64 i)∧decide ((0:Int)≤i)=!Gl v)∧Below w.heap.size w w':=by
 have IX:=hid (Xgz v w hv hs)
 go_enter Tryz.func246,Tryz.ntmps246
 go_wp2_with fail;refine IX.out.mono ?_;rintro e w' ⟨⟨i,rfl,hi⟩,hb⟩;have HI:=hid hi;have HB:=hid hb;clear hi hb;go_wp2_with fail;exact bodyPost_ret (v:=.int .i64 i) (by simp[results,Tryz.results246,go_sem]) rfl ⟨⟨i,rfl,HI.out⟩,HB.out⟩
theorem Zlg (v:Str)(w:World)(hv:Zq v=true)(hs:v.length≤140737488355328) :
  Calls Tryz.prog 194 #[.string ⟨v.toArray⟩,.func (.func 191) #[] #[]] w fun e w'=>e=.returned (.bool (!Gl v))∧Below w.heap.size w w':=by
 have IX:=hid (Zlh v w hv hs);generalize (!Gl v)=b at *
 go_enter Tryz.func194,Tryz.ntmps194
 go_wp2_with fail;refine IX.out.mono ?_;rintro e w' ⟨⟨i,rfl,hi⟩,hb⟩;have HB:=hid hb;clear hb
 cases b with
 |true =>
  have h2:(0:Int)≤i:=of_decide_eq_true hi;clear hi;go_wp2_with fail;exact bodyPost_ret (v:=.bool true) (by simp[results,Tryz.results194,go_sem]) rfl ⟨rfl,HB.out⟩
 |false =>
  have h2:¬(0:Int)≤i:=of_decide_eq_false hi;clear hi;go_wp2_with fail;exact bodyPost_ret (v:=.bool false) (by simp[results,Tryz.results194,go_sem];omega) rfl ⟨rfl,HB.out⟩
end
section
open Go.RowKit Go.Lib
theorem Lq:∀(l ks:List (Str×Str)),Fb ks l=true→∀n (hn:n<l.length),Xg (l[n]'hn).1=true∧Jf (l[n]'hn).2=true∧Vx (ks++l.take n) (l[n]'hn).1=false
 |[],_,_,n,hn=>absurd hn (Nat.not_lt_zero n)
 |k::r,ks,h,n,hn=>by
  simp only[Fb,Bool.and_eq_true,Bool.not_eq_true']at h
  cases n with
  |zero=>exact⟨h.1.1.1,h.1.2,by simpa using h.1.1.2⟩
  |succ m =>
   have:=Lq r (ks++[k]) h.2 m (by simp at hn;omega)
   simpa using this
theorem Qnh (x y:Int)(w:World):(Instr.field 78 (.agg #[.int .i64 x,.int .i64 y]) 0).run Tryz.prog w=.ok (.int .i64 x) w:=by kernel_rfl
attribute [local go_sem] Qnh
def Tx (l:List (Str×Str)):Str:=match l.getLast? with|none=>[] |some p=>p.1
theorem Xqq {l:List (Str×Str)}{k:Str}(h:Vx l k=false)(hk:k≠[]):Tx l<k:=by
 unfold Vx at h;unfold Tx
 cases e:l.getLast? with
 |none =>
  cases k with
  |nil=>exact absurd rfl hk
  |cons c t=>exact List.nil_lt_cons c t
 |some p =>
  rw[e]at h;exact List.not_le.1 (of_decide_eq_false h)
theorem Qng {l:List (Str×Str)}{n:Nat}(h:n<l.length):Tx (l.take (n+1))=(l[n]'h).1:=by
 have e:(l.take (n+1)).getLast?=some (l[n]'h):=by
  rw[List.take_succ_eq_append_getElem h];exact List.getLast?_concat
 unfold Tx;rw[e]
theorem all_takeS {l:List (Str×Str)}{n:Nat}(h:n<l.length):(l.take (n+1)).all Qxq=((l.take n).all Qxq&&Qxq (l[n]'h)):=by
 rw[List.take_succ_eq_append_getElem h,List.all_append]
 simp
def Mn (n:Str)(l:List (Str×Str)):Bool:=!(decide (n.length≤64)&&l.all Qxq)
theorem Xqz {n:Str}{l:List (Str×Str)}{k:Nat}(h:k<l.length):Mn n (l.take (k+1))=(Mn n (l.take k)||decide ((64:Int)<((l[k]'h).1.length:Int))||decide ((64:Int)<((l[k]'h).2.length:Int))):=by
 unfold Mn;rw[all_takeS h];have h1:decide ((64:Int)<((l[k]'h).1.length:Int))=!decide ((l[k]'h).1.length≤64):=by
  by_cases e:(l[k]'h).1.length≤64
  ·rw[decide_eq_true e,decide_eq_false (by omega)];rfl
  ·rw[decide_eq_false e,decide_eq_true (by omega)];rfl
 have h2:decide ((64:Int)<((l[k]'h).2.length:Int))=!decide ((l[k]'h).2.length≤64):=by
  by_cases e:(l[k]'h).2.length≤64
  ·rw[decide_eq_true e,decide_eq_false (by omega)];rfl
  ·rw[decide_eq_false e,decide_eq_true (by omega)];rfl
 rw[h1,h2];have h3:Qxq (l[k]'h)=(decide ((l[k]'h).1.length≤64)&&decide ((l[k]'h).2.length≤64)):=rfl;rw[h3];generalize (l.take k).all Qxq=b1
 cases decide (n.length≤64) <;> cases b1 <;> cases decide ((l[k]'h).1.length≤64) <;> cases decide ((l[k]'h).2.length≤64) <;> rfl
theorem Xpg {x:Stp}{k:Nat}(h:k<x.2.length):(x.2[k]'h).1.length+(x.2[k]'h).2.length≤(Qp x).length:=by
 have h1:Zt x.2=Zt (x.2.take k)++(Ff (x.2[k]'h)++Zt (x.2.drop (k+1))):=by
  have e:x.2=x.2.take k++((x.2[k]'h)::x.2.drop (k+1)):=by rw[←List.drop_eq_getElem_cons h,List.take_append_drop]
  unfold Zt
  conv=>lhs;rw[e]
  rw[List.flatMap_append,List.flatMap_cons]
 have h2:=Uq (x.2[k]'h).2;unfold Qp;rw[h1];simp only[List.length_append,Ff,List.length_cons]
 omega
theorem Xqx (w:World)(x:Stp)(kv:Value)(hr:RdP w kv x.2)(hm:Kr x=true)(hs:(Qp x).length≤140737488355328) :
  Calls Tryz.prog 149 #[.agg #[.string ⟨x.1.toArray⟩,kv]] w fun e w'=>e=.returned (.tuple #[.bool true,.bool (Gx x)])∧Below w.heap.size w w':=by
 have HKL:=hid (fun k h=>@Xpg x k h)
 obtain⟨n,ks⟩:=x
 obtain⟨ao,cp,rfl,h63,hcell⟩:=Xm hr
 simp only at hcell h63 hs HKL ⊢;unfold Kr at hm;simp only[Bool.and_eq_true]at hm;have HOK:=hid (Lq ks [] hm.2);have HNA:=hid hm.1;have HCELL:=hid hcell;have hnl:n.length≤140737488355328:=by unfold Qp at hs;simp at hs;omega
 have hnz:(n.length:Int)≤140737488355328:=by omega
 have NMN:=hid (fun W=>Zwx n W (by omega));rw[hm.1]at NMN;have HS:=hid hs;have HB1:=hid (bal w (.cells #[.string ⟨n.toArray⟩,.slice ao ks.length cp] 82));have F1:=hid (heap_alloc_new w (.cells #[.string ⟨n.toArray⟩,.slice ao ks.length cp] 82));have hl0:decide ((64:Int)<(n.length:Int))=Mn n (ks.take 0):=by
  unfold Mn
  by_cases e:n.length≤64
  ·rw[decide_eq_false (by omega),decide_eq_true e];rfl
  ·rw[decide_eq_true (by omega),decide_eq_false e];rfl
 have HL0:=hid hl0;clear hr hcell hs hm hl0
 go_enter Tryz.func149,Tryz.ntmps149
 go_upto_region 1 with fail;generalize w.alloc (.cells #[.string ⟨n.toArray⟩,.slice ao ks.length cp] 82)=w1 at *;have HSB:=hid (lt_of_block F1.out)
 obtain⟨s0,s1,_,_,sl⟩:=Qq F1.out
 go_upto_region 4 with fail;rw[HL0.out]
 go_loopg[4,5,15] ks.length (fun g v4 v5 v15 W=>∃k:Nat,k≤ks.length∧ks.length≤k+g∧v4=.bool (Mn n (ks.take k))∧v5=.string ⟨(Tx (ks.take k)).toArray⟩∧v15=.int .i64 k∧W.heap[w.heap.size]?=some (.cells #[.string ⟨n.toArray⟩,.slice ao ks.length cp] 82 (0,0))∧Below w.heap.size w W)
 case atStart=>exact⟨0,Nat.zero_le _,by omega,rfl,rfl,rfl,F1.out,HB1.out⟩
 case round =>
  obtain⟨k,hk,hg,rfl,rfl,rfl,ff,bb⟩:=hrel
  rename World=>w4
  have HG:=hid hg;have B4:=hid bb;have F4:=hid ff;clear bb ff F1 HB1 s0 s1 sl hg
  by_cases hlt:k<ks.length
  ·have hni:(k:Int)<(ks.length:Int):=by omega
   have hn0:(0:Int)≤(k:Int):=by omega
   obtain⟨p,o,rfl,hp,q0,q1⟩:=HCELL.out k hlt
   have r0:=(B4.out.cell (p:=⟨p,o+k * 2,none⟩) hp).trans q0;have r1:=(B4.out.cell (p:=⟨p,o+k * 2+1,none⟩) hp).trans q1;have hp2:p<w4.heap.size:=Nat.lt_of_lt_of_le hp B4.out.size
   obtain⟨ok1,ok2,ok3⟩:=HOK.out k hlt
   have hkl:=HKL.out k hlt;have HLS:=hid (@Xqz n ks k hlt);have HAT:=hid (Qng hlt);rw[List.nil_append]at ok3;have hal:=Xqq ok3 (Tt ok1);clear q0 q1 ok3;generalize ks[k]'hlt=kv at *
   obtain⟨ky,v⟩:=kv
   simp only at r0 r1 hkl HLS HAT ok1 ok2 hal;have hbl:Op.bytesLess ky (Tx (ks.take k))=false:=by rw[Proofs.bytesLess_eq];exact decide_eq_false (List.lt_asymm hal)
   have hbe:(ky==Tx (ks.take k))=false:=beq_eq_false_iff_ne.2 (fun e=>List.lt_irrefl _ (e▸hal));have hbn:ky≠Tx (ks.take k):=fun e=>List.lt_irrefl _ (e▸hal)
   clear hal;have hky:ky.length≤140737488355328:=by have:=HS.out;omega
   have hvy:v.length≤140737488355328:=by have:=HS.out;omega
   unfold Jf at ok2;simp only[Bool.and_eq_true]at ok2;have NMK:=hid (fun W=>Zwx ky W (by omega));rw[ok1]at NMK;have UC:=hid (fun W=>(show Calls Tryz.prog 81 #[.string ⟨v.toArray⟩] W fun e w'=>e=.returned (.agg #[.int .i64 0,.int .i64 0])∧Below W.heap.size W w' from by
    refine(Qfy v W (by unfold maxLen;omega)).mono ?_
    rintro e w' ⟨⟨er,at',rfl,hx⟩,hb⟩
    rcases hx with ⟨_,rfl,rfl⟩|⟨hx,_⟩
    ·exact⟨rfl,hb⟩
    ·rw[ok2.1]at hx;cases hx))
   have CC:=hid (fun W=>Zlg v W ok2.1 hvy);rw[show Gl v=true from ok2.2,Bool.not_true]at CC;have HU:=hid ok2.1;have hkyz:(ky.length:Int)≤140737488355328:=by omega
   have hvyz:(v.length:Int)≤140737488355328:=by omega
   clear ok1 ok2 hkl hky hvy;have HA5:=hid (bal w4 (.cells #[.string ⟨ky.toArray⟩,.string ⟨v.toArray⟩] 37));have F5:=hid (heap_alloc_new w4 (.cells #[.string ⟨ky.toArray⟩,.string ⟨v.toArray⟩] 37));go_upto_region 6 with fail;generalize w4.alloc (.cells #[.string ⟨ky.toArray⟩,.string ⟨v.toArray⟩] 37)=w5 at *
   obtain⟨y0,y1,_,_,yl⟩:=Qq F5.out
   have B5:=hid (B4.out.then HA5.out);have HZ4:=hid B4.out.size;have F5s:=hid (bk HA5.out F4.out);clear B4 F4 HA5;generalize w4.heap.size=Pb at *
   go_upto_region 8 with (first
    |(go_at_call 193;refine(NMK.out _).mono ?_;rintro e wz ⟨rfl,rfl⟩)
    |(go_at_call 81;refine(UC.out _).mono ?_;rintro e w6 ⟨rfl,hb6⟩;have F6:=hid (bk hb6 F5.out);have F6s:=hid (bk hb6 F5s.out);have B6:=hid (B5.out.then hb6);clear hb6 y0 y1 yl F5 F5s B5;obtain⟨y0,y1,_,_,yl⟩:=Qq F6.out)
    |(go_at_call 194;refine(CC.out _).mono ?_;rintro e w7 ⟨rfl,hb7⟩;have F7:=hid (bk hb7 F6.out);have F7s:=hid (bk hb7 F6s.out);have B7:=hid (B6.out.then hb7);clear hb7 y0 y1 yl F6 F6s B6;obtain⟨y0,y1,_,_,yl⟩:=Qq F7.out))
   have HTAIL:=hid (show Mn n (ks.take (k+1))=(Mn n (ks.take k)||decide ((64:Int)<(ky.length:Int))||decide ((64:Int)<(v.length:Int)))from HLS.out);clear HLS;generalize Mn n (ks.take k)=lg at *
   cases lg with
   |true =>
    go_wp2_with fail
    go_roundg (gk-1)
    case measure=>have:=HG.out;omega
    case rel=>exact⟨k+1,by omega,by have:=HG.out;omega,by rw[HTAIL.out];rfl,by rw[HAT.out],by simp,F7s.out,B7.out⟩
   |false =>
    by_cases h1:(64:Int)<(ky.length:Int)
    ·go_wp2_with fail
     go_roundg (gk-1)
     case measure=>have:=HG.out;omega
     case rel=>exact⟨k+1,by omega,by have:=HG.out;omega,by rw[HTAIL.out,decide_eq_true h1];rfl,by rw[HAT.out],by simp,F7s.out,B7.out⟩
    ·by_cases h2:(64:Int)<(v.length:Int)
     ·go_wp2_with fail
      go_roundg (gk-1)
      case measure=>have:=HG.out;omega
      case rel=>exact⟨k+1,by omega,by have:=HG.out;omega,by rw[HTAIL.out,decide_eq_true h2,decide_eq_false (show ¬(64:Int)<(ky.length:Int)by omega)];rfl,by rw[HAT.out],by simp,F7s.out,B7.out⟩
     ·go_wp2_with fail
      go_roundg (gk-1)
      case measure=>have:=HG.out;omega
      case rel=>exact⟨k+1,by omega,by have:=HG.out;omega,by rw[HTAIL.out,decide_eq_false (show ¬(64:Int)<(v.length:Int)by omega),decide_eq_false (show ¬(64:Int)<(ky.length:Int)by omega)];rfl,by rw[HAT.out],by simp,F7s.out,B7.out⟩
  ·have hni:¬(k:Int)<(ks.length:Int):=by omega
   have hkn:k=ks.length:=by omega
   subst hkn
   obtain⟨s0,s1,_,_,sl⟩:=Qq F4.out
   have HF:=hid (show(!Mn n (ks.take ks.length))=Gx (n,ks)by rw[List.take_length];unfold Mn Gx;rw[Bool.not_not]);generalize Mn n (ks.take ks.length)=lg at *
   go_wp2_with (go_at_call 193;refine(NMN.out _).mono ?_;rintro e wz ⟨rfl,rfl⟩)
   refine bodyPost_ret (v:=.tuple #[.bool true,.bool (!lg)]) (by simp[results,Tryz.results149,go_sem]) rfl ⟨?_,B4.out⟩;rw[HF.out]
end
section
open Go.RowKit Go.Lib Go.Sort Go.Maps Go.WideMaps
theorem RdL.of_row {α:Type}{k:Nat}(E:Enc α k){W:World}{b cp:Nat}{cs:Array Value}{ty:TypeId}{l:List α}(h:W.heap[b]?=some (.cells cs ty (0,0)))(hc:cs.toList=Xd E l)(h1:l.length≤cp)(h2:l.length≤9223372036854775807):RdL E W (.slice (some ⟨b,0,none⟩) l.length cp) l:=by
 refine⟨_,_,rfl,⟨h1,h2,fun e=>by cases e⟩,fun _=>⟨b,0,rfl,lt_of_block h,fun j i x hj hx=>?_⟩⟩
 have hi:i<k:=by have:=(List.getElem?_eq_some_iff.1 hx).1;rwa [E.len]at this
 rw[Nat.zero_add,cell_of_row _ _ _ _ _ _ h,←Array.getElem?_toList,hc,Hg E l j i hj hi];exact hx
end
section
open Go.RowKit Go.Lib Go.Sort Go.Maps Go.WideMaps
section
variable {w w' : World}{B:Nat}{v:Value}{l:List Dc}
end
theorem Qkx {α:Type}{k:Nat}(E:Enc α k){W:World}{b B:Nat}{cs:Array Value}{ty:TypeId}(l:List α)(h:W.heap[b]?=some (.cells cs ty (0,0)))(hc:cs.toList=Xd E l)(hB:B≤b)(hl:l.length≤maxLen):Qg E ty W B (.slice (some ⟨b,0,none⟩) l.length l.length) l :=
 ⟨Js E l,Or.inr ⟨b,l.length,cs,rfl,hB,h,Nat.le_refl _,hl,by rw[←Array.length_toList,hc,Js],by rw[hc,List.take_of_length_le (by rw[Js];exact Nat.le_refl _)]⟩⟩
theorem RdL.take {α:Type}{k:Nat}{E:Enc α k}{W:World}{a:Option Addr}{n c:Nat}{l:List α}(h:RdL E W (.slice a n c) l)(m:Nat)(hm:m≤l.length):RdL E W (.slice a m c) (l.take m):=by
 obtain⟨ao,cp,e,⟨h1,h2,h3⟩,hc⟩:=h
 cases e;have hl:(l.take m).length=m:=by rw[List.length_take];omega
 refine⟨a,c,by rw[hl],⟨by omega,by omega,fun e=>?_⟩,fun hne=>?_⟩
 ·obtain⟨e1,e2⟩:=h3 e
  exact⟨by rw[e1];simp,e2⟩
 ·obtain⟨b,off,ha,hlt,hx⟩:=hc (by rintro rfl;simp at hne)
  refine⟨b,off,ha,hlt,fun j i x hj hx2=>hx j i x (by rw[hl]at hj;omega) ?_⟩
  rw[List.getElem_take]at hx2;exact hx2
theorem Ds {α:Type}{k:Nat}{E:Enc α k}{ty:TypeId}{w:World}{ops:Array Oper}{rest:List Oper}{o:Oper}{a:Act}{Q:Exit→Act→World→Prop}(hgd:o.guard=none)(s x:Operand){t:TypeId}
  (ho:o.op=.call { callee:=.builtin .append,args:=#[s,x],argTypes:=#[t,t] })
  {z:Value}{bytes:Nat} (ht:Tryz.prog.underlying t=some (.slice ty)) (hinf:(Tryz.prog.info? ty).map (fun i=>(i.zero,i.size,i.bytes))=some (some z,k,bytes)) (hzs:z.cells.size=k) (hk:0<k)
  (B:Nat)(v:Value)(l m:List α)(hs:a.eval s=v)(hown:Qg E ty w B v l){u:Value}(hx:a.eval x=u)(hr:RdL E w u m)(hl:l.length+m.length≤maxLen)(hl2:(l.length+m.length) * bytes≤140737488355328)(hB:B≤w.heap.size)
  (h:∀v' w',Qg E ty w' B v' (l++m)→w.grownBy w' v.ownBlock→wpList Tryz.prog ops Q rest (a.put o.dst v') w') :
  wpList Tryz.prog ops Q (o::rest) a w:=by
 obtain⟨i0,hi,hz0,hz1,hz2⟩:=info_parts hinf
 obtain⟨ao,cp,rfl,⟨h1,h2,h3⟩,hc⟩:=hr
 cases hao:ao with
 |none =>
  subst hao
  obtain⟨rfl,rfl⟩:=h3 rfl
  refine wpList_append_own_none hgd s x t ho B ty i0 k ht hi v l.length (Xd E l) hs hown hx (h v w (by rw[List.append_nil];exact hown) (World.grownBy.refl _ _))
 |some ad =>
  by_cases hm:m=[]
  ·subst hm;subst hao;refine Gd hgd s x t ho B ty i0 z k bytes ht hi hz0 hz1 hz2 hzs hk v l.length (Xd E l) hs hown ad 0 cp [] hx (by simp) (fun j u hu=>by simp at hu) (fun u hu=>by cases hu) (by simpa using hl) (by simpa using hl2) hB ?_;intro v' w' own gr mv;exact h v' w' (by rw[List.append_nil];exact Xh own rfl (by simp)) gr
  ·obtain⟨b,off,ha,hlt,hcell⟩:=hc hm
   rw[hao]at ha
   cases ha;subst hao;refine Gd hgd s x t ho B ty i0 z k bytes ht hi hz0 hz1 hz2 hzs hk v l.length (Xd E l) hs hown ⟨b,off,none⟩ m.length cp (Xd E m) hx (Js E m) (fun j u hu=>?_) (fun u hu=>?_) hl hl2 hB ?_
   ·have hj:j<m.length * k:=by have:=(List.getElem?_eq_some_iff.1 hu).1;rwa [Js]at this
    have hq:j / k<m.length:=Nat.div_lt_of_lt_mul (by rw[Nat.mul_comm];exact hj);have hr:=Nat.mod_lt j hk;have he:j=j / k * k+j % k:=by rw[Nat.mul_comm];exact(Nat.div_add_mod j k).symm
    rw[he,Hg E m (j / k) (j % k) hq hr]at hu
    have:=hcell (j / k) (j % k) u hq hu
    rw[Nat.add_assoc,←he]at this;have hadd:((⟨b,off,none⟩:Addr).add j)=⟨b,off+j,none⟩:=by
     unfold Addr.add
     split
     ·next e=>subst e;rfl
     ·rfl
    rw[hadd];exact this
   ·obtain⟨y,_,hy⟩:=List.mem_flatMap.1 hu
    exact E.one y u hy
   ·intro v' w' own gr mv;exact h v' w' (Xh own (by simp) (by rw[Fh])) gr
end
section
open Go.RowKit Go.Lib
def Mr (w:World)(v:Value)(l:List Stp):Prop:=∃zs:List (Stp×(Option Addr×Nat)),zs.map (·.1)=l∧RdL Qm w v zs∧∀z∈zs,RdP w (Qr z) z.1.2
theorem Yc.rd {w:World}{B:Nat}{v:Value}{l:List Stp}(h:Yc w B v l):Mr w v l:=by
 obtain⟨zs,h1,h2,h3,_⟩:=h
 exact⟨zs,h1,h2.rd,fun z hz=>(h3 z hz).rd⟩
theorem Mr.below {w w':World}{v:Value}{l:List Stp}(h:Mr w v l)(hb:Below w.heap.size w w'):Mr w' v l:=by
 obtain⟨zs,h1,h2,h3⟩:=h
 exact⟨zs,h1,h2.below hb,fun z hz=>(h3 z hz).below hb⟩
theorem zeros_own {w:World}{e:TypeId}{k n:Nat}{z:Value}{cap:Nat}(hz:z.cells.size=k)(hn:n≤cap)(hc:cap≤maxLen) :
  (w.drew.alloc (.cells (Builtin.zeroCells z.cells n++Builtin.zeroCells z.cells (cap-n)) e)).ownsRow w.heap.size e k (.slice (some ⟨w.heap.size,0,none⟩) 0 cap) 0 []:=by
 refine⟨by simp,Or.inr ⟨w.heap.size,cap,_,rfl,Nat.le_refl _,heap_alloc_new w.drew _,Nat.zero_le _,hc,?_,by simp⟩⟩
 simp[Builtin.zeroCells,hz]
 rw[←Nat.add_mul]
 congr 1
 omega
theorem grow_any (w:World)(n:Nat)(hn:n≤1000000000) :
  Calls Tryz.prog 192 #[.slice none 0 0,.int .i64 n] w fun e w'=>∃v,e=.returned v∧Qg Qm 82 w' w.heap.size v []∧Below w.heap.size w w':=by
 obtain⟨i0,hi,hz0,hz1,hz2⟩:=info_parts Yd
 have hnz:(n:Int)≤1000000000:=by omega
 have hn0:(0:Int)≤(n:Int):=by omega
 by_cases h0:0<n
 ·have hni:(0:Int)<(n:Int):=by omega
  have HR:=hid (fun ty=>Lib.run_append_nil_zeros (P:=Tryz.prog) w 76 3 ty 82 i0 _ .i64 .i64 Tryz.underlying76 Tryz.underlying3 hi hz0 n h0 (by omega) (by omega) (by rw[hz2];omega));have HO:=hid (show(w.drew.alloc (.cells (Builtin.zeroCells (Value.cells (.agg #[.string ⟨#[]⟩,.slice none 0 0])) n++Builtin.zeroCells (Value.cells (.agg #[.string ⟨#[]⟩,.slice none 0 0])) (grownCap w n 0 82-n)) 82)).ownsRow w.heap.size 82 2 (.slice (some ⟨w.heap.size,0,none⟩) 0 (grownCap w n 0 82)) 0 []from zeros_own rfl (grownCap_ge w n 0 _) (grownCap_le_maxLen w n 0 _ (by unfold maxLen;omega)));have HB:=hid (show Below w.heap.size w (w.drew.alloc (.cells (Builtin.zeroCells (Value.cells (.agg #[.string ⟨#[]⟩,.slice none 0 0])) n++Builtin.zeroCells (Value.cells (.agg #[.string ⟨#[]⟩,.slice none 0 0])) (grownCap w n 0 82-n)) 82)) from((Below.refl _ _).drew).alloc (Nat.le_refl _) _);have HC:=hid (grownCap_ge w n 0 82);clear hi hz0 hz1 hz2;generalize w.drew.alloc (.cells (Builtin.zeroCells (Value.cells (.agg #[.string ⟨#[]⟩,.slice none 0 0])) n++Builtin.zeroCells (Value.cells (.agg #[.string ⟨#[]⟩,.slice none 0 0])) (grownCap w n 0 82-n)) 82)=w1 at *;generalize grownCap w n 0 82=cp at *;have hcp:(n:Int)≤(cp:Int):=by have:=HC.out;omega
  go_enter Tryz.func192,Tryz.ntmps192
  go_wp2_with (at_builtin;refine Lib.wpList_append_run _ rfl _ _ _ _ rfl _ _ rfl rfl _ _ (HR.out _) ?_)
  exact bodyPost_ret (v:=.slice (some ⟨w.heap.size,0,none⟩) 0 cp) (by simp[results,Tryz.results192,go_sem]) rfl ⟨_,rfl,HO.out,HB.out⟩
 ·have e:n=0:=by omega
  subst e
  go_enter Tryz.func192,Tryz.ntmps192
  go_wp2_with fail;exact bodyPost_ret (v:=.slice none 0 0) (by simp[results,Tryz.results192,go_sem]) rfl ⟨_,rfl,Qg.nil _ _ _ _,Below.refl _ _⟩
end
section
open Go.RowKit Go.Lib
def RdLs (w:World)(v:Value)(ls:List (List (Stp×(Option Addr×Nat)))):Prop :=
 ∃ao cp,v=.slice ao ls.length cp∧∀n (hn:n<ls.length),∃p o u,ao=some ⟨p,o,none⟩∧p<w.heap.size∧w.cell? ⟨p,o+n,none⟩=some u∧RdL Qm w u (ls[n]'hn)
theorem Zwk {α:Type}{ls:List (List α)}{k:Nat}(h:k<ls.length):(ls.take (k+1)).flatten=(ls.take k).flatten++(ls[k]'h):=by
 rw[List.take_succ_eq_append_getElem h,List.flatten_append]
 simp
theorem Es {α:Type}(ls:List (List α))(k:Nat):(ls.take k).flatten.length≤ls.flatten.length:=by
 conv=>rhs;rw[←List.take_append_drop k ls,List.flatten_append,List.length_append]
 omega
theorem Qrq (w:World)(va:Value)(ls:List (List (Stp×(Option Addr×Nat))))(hr:RdLs w va ls)(hl:ls.length≤1000000)(hs:ls.flatten.length≤1000000000) :
  Calls Tryz.prog 148 #[va] w fun e w'=>∃v,e=.returned v∧Qg Qm 82 w' w.heap.size v ls.flatten∧Below w.heap.size w w':=by
 obtain⟨ao,cp,rfl,hcell⟩:=hr
 have HCELL:=hid hcell;have HS:=hid hs;have hlz:(ls.length:Int)≤1000000:=by omega
 have GR:=hid (grow_any w ls.flatten.length hs);clear hcell hs
 go_enter Tryz.func148,Tryz.ntmps148
 go_upto_region 3 with fail
 go_loopg[3,11] ls.length (fun g v3 v11 W=>∃k:Nat,k≤ls.length∧ls.length≤k+g∧v3=.int .i64 (ls.take k).flatten.length∧v11=.int .i64 k∧W=w)
 case atStart=>exact⟨0,Nat.zero_le _,by omega,rfl,rfl,rfl⟩
 case round =>
  obtain⟨k,hk,hg,rfl,rfl,rfl⟩:=hrel
  rename World=>w
  have HG:=hid hg;clear hg
  by_cases hlt:k<ls.length
  ·have hni:(k:Int)<(ls.length:Int):=by omega
   have hn0:(0:Int)≤(k:Int):=by omega
   obtain⟨p,o,u,rfl,hp,q0,hu⟩:=HCELL.out k hlt
   obtain⟨a1,c1,rfl,_⟩:=hu.slice
   have HF:=hid (congrArg List.length (Zwk hlt));have hle:=Es ls (k+1);rw[HF.out,List.length_append]at hle;have hS0:(0:Int)≤((ls.take k).flatten.length:Int)+((ls[k]'hlt).length:Int):=by omega
   have hS1:((ls.take k).flatten.length:Int)+((ls[k]'hlt).length:Int)≤1000000000:=by have:=HS.out;omega
   have HFI:=hid (show((ls.take (k+1)).flatten.length:Int)=((ls.take k).flatten.length:Int)+((ls[k]'hlt).length:Int)by have:=HF.out;rw[List.length_append]at this;omega);clear hle hu;generalize (ls[k]'hlt).length=m at *;generalize (ls.take k).flatten.length=S at *;have hm0:(0:Int)≤(S:Int):=by omega
   have hm1:(0:Int)≤(m:Int):=by omega
   go_wp2_with fail
   go_roundg (gk-1)
   case measure=>have:=HG.out;omega
   case rel=>exact⟨k+1,by omega,by have:=HG.out;omega,by rw[HFI.out],by simp,rfl⟩
  ·have hni:¬(k:Int)<(ls.length:Int):=by omega
   have hkn:k=ls.length:=by omega
   subst hkn;rw[List.take_length]
   obtain⟨N,hN⟩:∃N,N=ls.flatten.length:=⟨_,rfl⟩
   have hN0:(0:Int)≤(N:Int):=by omega
   have hN1:(N:Int)≤1000000000:=by have:=HS.out;omega
   rw[←hN]at GR ⊢;clear hN
   go_wp2_with (go_at_call 192;refine GR.out.mono ?_;rintro e w1 ⟨v1,rfl,o1,hb1⟩;have O1:=hid o1;have B1:=hid hb1;clear o1 hb1 GR)
   go_loopg[6,27] ls.length (fun g v6 v27 W=>∃k:Nat,k≤ls.length∧ls.length≤k+g∧v27=.int .i64 k∧Qg Qm 82 W w.heap.size v6 (ls.take k).flatten∧Below w.heap.size w W)
   case atStart=>exact⟨0,Nat.zero_le _,by omega,rfl,O1.out,B1.out⟩
   case round =>
    obtain⟨k,hk2,hg2,rfl,o2,hb2⟩:=hrel
    rename World=>w2
    have HG2:=hid hg2;have O2:=hid o2;have B2:=hid hb2;clear hg2 o2 hb2 O1 B1
    by_cases hlt2:k<ls.length
    ·have hni2:(k:Int)<(ls.length:Int):=by omega
     have hn0:(0:Int)≤(k:Int):=by omega
     obtain⟨p,o,u,rfl,hp,q0,hu⟩:=HCELL.out k hlt2
     have r0:=(B2.out.cell (p:=⟨p,o+k,none⟩) hp).trans q0;have hp2:p<w2.heap.size:=Nat.lt_of_lt_of_le hp B2.out.size;have HU:=hid (hu.below B2.out);have HF:=hid (Zwk hlt2);have hle:=Es ls (k+1);rw[HF.out,List.length_append]at hle;have HLE:=hid hle;have HZ:=hid B2.out.size
     obtain⟨a1,c1,rfl,_⟩:=hu.slice
     clear hle hu q0
     go_wp2_with (at_builtin;refine Ds (E:=Qm) rfl (.tmp 31) (.tmp 32) rfl Tryz.underlying76 Yd rfl (by decide) w.heap.size _ (ls.take k).flatten (ls[k]'hlt2) rfl O2.out rfl HU.out (by have:=HLE.out;have:=HS.out;unfold maxLen;omega) (by have:=HLE.out;have:=HS.out;omega) HZ.out ?_;intro v3 w3 own gr;have O3:=hid (show Qg Qm 82 w3 w.heap.size v3 (ls.take (k+1)).flatten by rw[HF.out];exact own);have B3:=hid (B2.out.grown gr HZ.out (fun k hk=>(World.ownsRow.lt O2.out k hk).1));clear own gr)
     go_roundg (gk-1)
     case measure=>have:=HG2.out;omega
     case rel=>exact⟨k+1,by omega,by have:=HG2.out;omega,by simp,O3.out,B3.out⟩
    ·have hni2:¬(k:Int)<(ls.length:Int):=by omega
     have hkn:k=ls.length:=by omega
     subst hkn;have HO:=hid (show Qg Qm 82 w2 w.heap.size _ ls.flatten from by have:=O2.out;rw[List.take_length]at this;exact this);go_wp2_with fail;exact bodyPost_ret (by simp[results,Tryz.results148,go_sem]) rfl ⟨_,rfl,HO.out,B2.out⟩
end
section
open Go.RowKit Go.Lib
theorem Xqj (w:World)(B:Nat)(v:Value)(l:List Str)(h:Qt w B v l)(hl:l.length≤1000)(hj:(Lib.join l [47]).length≤140737488355328) :
  Calls Tryz.prog 151 #[v,.string ⟨#[47]⟩] w fun e w'=>e=.returned (.string ⟨(Lib.join l [47]).toArray⟩)∧Below w.heap.size w w':=by
 have hx:(l.map (fun s:Str=>(⟨s.toArray⟩:ByteArray))).map (·.data.toList)=l:=by
  rw[List.map_map]
  conv=>rhs;rw[←List.map_id l]
  rfl
 have hlen:(l.map (fun s:Str=>(⟨s.toArray⟩:ByteArray))).length=l.length:=List.length_map _
 rcases h.shape with ⟨rfl,rfl⟩|⟨g,cap,cur,rfl,hB,hg,hn,hm,hs,ht⟩
 ·refine(Tryz.strings_Join_none none 0 ⟨#[47]⟩ w).mono ?_
  rintro e w' ⟨rfl,rfl⟩
  exact⟨rfl,Below.refl _ _⟩
 ·have:=Tryz.strings_Join g 0 cap (l.map (fun s:Str=>(⟨s.toArray⟩:ByteArray))) ⟨#[47]⟩ w (fun j x hx=>by
   rw[Nat.zero_add];rw[List.getElem?_map]at hx
   obtain⟨s,hs2,rfl⟩:=Option.map_eq_some_iff.1 hx
   exact Yg hg ht j _ (by rw[List.getElem?_map,hs2];rfl)) (lt_of_block hg) (by rw[hlen];omega) (by rw[hlen];exact hn) (by rw[hx];exact hj)
  rw[hx,hlen]at this;exact this
def szS (m:List Stp):Nat:=(m.map (fun x=>(Qp x).length+1)).sum
theorem Cm (x:Stp)(m:List Stp):szS (x::m)=(Qp x).length+1+szS m:=by simp[szS]
theorem Et:∀m:List Stp,m≠[]→szS m=(Zk m).length+1
 |[],h=>absurd rfl h
 |[x],_=>by simp[szS,Zk]
 |x::y::r,_=>by
  have ih:=Et (y::r) (by simp);rw[Cm,ih,join_cons x (by simp),List.length_append,List.length_cons]
  omega
theorem Cp (a b:List Stp):szS (a++b)=szS a+szS b:=by simp[szS]
theorem Qrz {m:List Stp}{k:Nat}(h:k<m.length):szS (m.take (k+1))=szS (m.take k)+((Qp (m[k]'h)).length+1):=by
 rw[List.take_succ_eq_append_getElem h,Cp]
 simp[szS]
theorem Tj (m:List Stp)(k:Nat):szS (m.take k)≤szS m:=by
 conv=>rhs;rw[←List.take_append_drop k m,Cp]
 omega
theorem Rq {m:List Stp}(h:(Zk m).length≤512):szS m≤513:=by
 by_cases e:m=[]
 ·subst e;simp[szS]
 ·rw[Et m e];omega
theorem Cn:∀m:List Stp,Lib.join (m.map Qp) [47]=Zk m
 |[]=>rfl
 |[x]=>by rw[List.map_cons,List.map_nil,Lib.join_one];rfl
 |x::y::r=>by
  have ih:=Cn (y::r);rw[join_cons x (by simp),←ih];rw[List.map_cons,Lib.join_cons,List.map_cons,Lib.join_cons]
  simp[Lib.joinTail]
theorem Zwv {m:List Stp}{k:Nat}(h:k<m.length):(m.take (k+1)).map Qp=(m.take k).map Qp++[Qp (m[k]'h)]:=by
 rw[List.take_succ_eq_append_getElem h,List.map_append]
 rfl
theorem Zdg {m:List Stp}{k:Nat}(h:k<m.length):(Qp (m[k]'h)).length≤szS m:=by
 have h1:=Qrz h;have h2:=Tj m (k+1)
 omega
theorem Tk {m:List Stp}{t:Str}(h:Zw m=some t):(∀x∈m,Kr x=true∧Gx x=true)∧m.length≤64∧(Zk m).length≤512∧t=Zk m:=by
 unfold Zw at h
 split at h
 ·next hc =>
  simp only[Bool.and_eq_true,List.all_eq_true,decide_eq_true_eq]at hc
  exact⟨fun x hx=>⟨hc.1.1.1 x hx,hc.1.1.2 x hx⟩,hc.1.2,hc.2,(Option.some.inj h).symm⟩
 ·cases h
theorem Xqk (w:World)(va:Value)(ls:List (List (Stp×(Option Addr×Nat))))(t:Str)(hr:RdLs w va ls)(hk:∀z∈ls.flatten,RdP w (Qr z) z.1.2)(hl:ls.length≤1000000)(hp:Zw (ls.flatten.map (·.1))=some t) :
  Calls Tryz.prog 87 #[va] w fun e w'=>e=.returned (.tuple #[.string ⟨t.toArray⟩,.int .i64 0])∧Below w.heap.size w w':=by
 obtain⟨hall,h64,h512,rfl⟩:=Tk hp
 have CC:=hid (Qrq w va ls hr hl (by rw[List.length_map]at h64;omega));have HK:=hid hk;have HALL:=hid hall;have H64:=hid h64;have H512:=hid h512;clear hr hk hall h64 h512 hp hl
 obtain⟨zs,hzs⟩:∃zs,zs=ls.flatten:=⟨_,rfl⟩
 rw[←hzs]at CC HK HALL H64 H512 ⊢;clear hzs;have HML:=hid (show(zs.map (·.1)).length=zs.length from List.length_map _);have hzl:(zs.length:Int)≤64:=by have h1:=H64.out;rw[HML.out]at h1;omega
 go_enter Tryz.func87,Tryz.ntmps87
 go_wp2_with (go_at_call 148;refine CC.out.mono ?_;rintro e w1 ⟨v1,rfl,o1,hb1⟩;have O1:=hid o1;have B1:=hid hb1;clear CC hb1;obtain⟨a1,c1,rfl,hc1⟩:=o1.slice;clear o1)
 go_loopg[5,6,7,20] zs.length (fun g v5 v6 v7 v20 W=>∃k:Nat,k≤zs.length∧zs.length≤k+g∧v5=.bool true∧v6=.int .i64 (szS ((zs.map (·.1)).take k))∧v20=.int .i64 k∧Qt W w.heap.size v7 (((zs.map (·.1)).take k).map Qp)∧Qg Qm 82 W w.heap.size (.slice a1 zs.length c1) zs∧Below w.heap.size w W)
 case atStart=>exact⟨0,Nat.zero_le _,by omega,rfl,rfl,rfl,⟨rfl,Or.inl ⟨rfl,rfl⟩⟩,O1.out,B1.out⟩
 case round =>
  obtain⟨k,hk,hg,rfl,rfl,rfl,os,oz,hb⟩:=hrel
  rename World=>w2
  have HG:=hid hg;have OS:=hid os;have OZ:=hid oz;have B2:=hid hb;clear hg os oz hb O1 B1;have HS2:=hid (Nat.le_trans (Tj (zs.map (·.1)) k) (Rq H512.out))
  by_cases hlt:k<zs.length
  ·have hni:(k:Int)<(zs.length:Int):=by omega
   have hn0:(0:Int)≤(k:Int):=by omega
   have hltm:k<(zs.map (·.1)).length:=by rw[HML.out];exact hlt
   have hmk:(zs.map (·.1))[k]'hltm=(zs[k]'hlt).1:=List.getElem_map _;have HST:=hid (Qrz hltm);have HTT:=hid (Zwv hltm);have HTL:=hid (Nat.le_trans (Zdg hltm) (Rq H512.out));have HSX:=hid (Nat.le_trans (Tj (zs.map (·.1)) (k+1)) (Rq H512.out));have HMB:=hid (HALL.out ((zs.map (·.1))[k]'hltm) (List.getElem_mem hltm));have hkeys:=HK.out (zs[k]'hlt) (List.getElem_mem hlt);rw[hmk]at HST HTT HTL HMB
   obtain⟨g,rfl⟩:=Qg.some' OZ.out (by intro e;rw[e]at hlt;simp at hlt)
   obtain⟨r0,_,gl⟩:=OZ.out.cell k 0 (.string ⟨((zs[k]'hlt).1.1).toArray⟩) hlt rfl
   obtain⟨r1,_,_⟩:=OZ.out.cell k 1 (Qr (zs[k]'hlt)) hlt rfl
   rw[Nat.add_zero]at r0;generalize zs[k]'hlt=z at *
   obtain⟨⟨nm,ks⟩,az,cz⟩:=z
   simp only[Qr]at r0 r1 hkeys HST HTT HTL HMB;have HA5:=hid (bal w2 (.cells #[.string ⟨nm.toArray⟩,.slice az ks.length cz] 82));have F5:=hid (heap_alloc_new w2 (.cells #[.string ⟨nm.toArray⟩,.slice az ks.length cz] 82));clear hmk;go_upto_region 8 with fail;generalize w2.alloc (.cells #[.string ⟨nm.toArray⟩,.slice az ks.length cz] 82)=w5 at *
   obtain⟨y0,y1,_,_,yl⟩:=Qq F5.out
   have B5:=hid (B2.out.then HA5.out);have OS5:=hid (show Qt w5 w.heap.size _ _ from Qz OS.out HA5.out);have OZ5:=hid (OZ.out.below HA5.out);have RK5:=hid (show RdP w5 (.slice az ks.length cz) ks from hkeys.below B5.out);clear HA5 OS OZ B2 hkeys r0 r1 gl;generalize w2.heap.size=Sb at *;have MY:=hid (Xqx w5 (nm,ks) (.slice az ks.length cz) RK5.out HMB.out.1 (by have:=HTL.out;omega));rw[HMB.out.2]at MY;go_wp2_with fail;refine MY.out.mono ?_;rintro e w6 ⟨rfl,hb6⟩;have F6:=hid (bk hb6 F5.out);have B6:=hid (B5.out.then hb6);have OS6:=hid (show Qt w6 w.heap.size _ _ from Qz OS5.out hb6);have OZ6:=hid (OZ5.out.below hb6);have RK6:=hid (RK5.out.below hb6);clear hb6 y0 y1 yl F5 B5 OS5 OZ5 RK5 MY
   obtain⟨y0,y1,_,_,yl⟩:=Qq F6.out
   have TX:=hid (Qxk w6 (nm,ks) (.slice az ks.length cz) RK6.out (by have:=HTL.out;omega));go_wp2_with fail;refine TX.out.mono ?_;rintro e w7 ⟨rfl,hb7⟩;have B7:=hid (B6.out.then hb7);have OS7:=hid (show Qt w7 w.heap.size _ _ from Qz OS6.out hb7);have OZ7:=hid (OZ6.out.below hb7);clear hb7 y0 y1 yl F6 B6 OS6 OZ6 RK6 TX;have HSI:=hid (show(szS ((zs.map (·.1)).take (k+1)):Int)=(szS ((zs.map (·.1)).take k):Int)+(((Qp (nm,ks)).length:Int)+1)by have:=HST.out;omega);have HTK:=hid (show(((zs.map (·.1)).take k).map Qp).length≤64 by have h1:=H64.out;rw[List.length_map,List.length_take];omega);generalize htx:Qp (nm,ks)=tx at *;generalize szS ((zs.map (·.1)).take k)=S at *;generalize ((zs.map (·.1)).take k).map Qp=T at *;have hS1:(S:Int)≤513:=by have:=HS2.out;omega
   have hS0:(0:Int)≤(S:Int):=by omega
   have htx1:(tx.length:Int)≤513:=by have:=HTL.out;omega
   have htx0:(0:Int)≤(tx.length:Int):=by omega
   have HZ7:=hid B7.out.size;have HAB:=hid (bal w7 (.cells #[.string ⟨tx.toArray⟩] 9))
   go_wp2_with (at_builtin;refine Zz rfl (.tmp 39) (.tmp 41) rfl w.heap.size _ T tx rfl OS7.out rfl (by have:=HTK.out;omega) HZ7.out ?_;intro v8 w8 own gr mv;have OS8:=hid (show Qt w8 w.heap.size v8 (T++[tx])from own);have OZ8:=hid (show Qg Qm 82 w8 w.heap.size _ zs from World.ownsRow.kept OZ7.out gr (Kd OZ7.out OS7.out (by decide)));have B8:=hid (B7.out.grown gr HZ7.out (fun k hk=>(World.ownsRow.lt OS7.out k hk).1));clear own gr mv)
   go_wp2_with fail
   go_roundg (gk-1)
   case measure=>have:=HG.out;omega
   case rel=>exact⟨k+1,by omega,by have:=HG.out;omega,rfl,by rw[HSI.out],by simp,by rw[HTT.out];exact OS8.out,OZ8.out,B8.out⟩
  ·have hni:¬(k:Int)<(zs.length:Int):=by omega
   have hkn:k=zs.length:=by omega
   have HTA:=hid (show(zs.map (·.1)).take k=zs.map (·.1)by rw[hkn,←HML.out];exact List.take_length);rw[HTA.out]at OS HS2 ⊢;have JN:=hid (Xqj w2 w.heap.size _ _ OS.out (by have h1:=H64.out;rw[List.length_map];omega) (by rw[Cn];have:=H512.out;omega));rw[Cn]at JN;generalize szS (zs.map (·.1))=S at *;have hS1:(S:Int)≤513:=by have:=HS2.out;omega
   have hS0:(0:Int)≤(S:Int):=by omega
   have hS2:(S:Int)-1≤512:=by omega
   go_wp2_with (go_at_call 151;refine JN.out.mono ?_;rintro e w9 ⟨rfl,hb9⟩;have B9:=hid (B2.out.then hb9);clear hb9)
   exact bodyPost_ret (by simp[results,Tryz.results87,go_sem]) rfl ⟨rfl,B9.out⟩
end
end Go.Proofs.YtbbmdbolkicpcabGreatDoor
