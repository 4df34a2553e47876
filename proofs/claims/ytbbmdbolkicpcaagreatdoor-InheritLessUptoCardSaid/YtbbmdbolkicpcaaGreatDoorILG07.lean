/- TbMem, DressP, ListP, ListQ, CanonA, CanonB, CanonC, CanonD, CanonE, CanonF -/
import Derived.Test.YtbbmdbolkicpcaaGreatDoorILG06
import Derived.Maps.OwnSet
import Derived.Maps.OwnOps
import Derived.Maps.StringElems
import Derived.Maps.RangeWalk
import Derived.Sort.KeysCollected
import Derived.Test.YtbbmdbolkicpcaaGreatDoorILG01
import Derived.Test.YtbbmdbolkicpcaaGreatDoorILG04
set_option maxRecDepth 100000
set_option maxHeartbeats 32000000
set_option linter.unusedVariables false
set_option linter.unusedSimpArgs false
namespace Go.Proofs.YtbbmdbolkicpcaaGreatDoor
section
open Go.RowKit Go.Lib Go.Sort Go.Maps Go.WideMaps
theorem lawS:Keyed Tryz.prog 9:=string_keyed Tryz.underlying9
theorem key_ofS {k:Str}(h:k.length≤maxLen):keyOf Tryz.prog 9 (.string ⟨k.toArray⟩)=some (.string k):=by
 have:=keyOf_string_mk (P:=Tryz.prog) Tryz.underlying9 (s:=⟨k.toArray⟩) (by rw [Lib.size_eq];exact h)
 simpa using this
theorem strLit (k:Str):WideAt.IsKeyLit (.string k):=by simp [WideAt.IsKeyLit]
structure El (α:Type) where
 v:α→Value
 d:α→DataW Unit
 rd:Value→Option (DataW Unit×List MemPlace)
 ok:∀ x,rd (v x)=some (d x,[])
 inv:∀ {u:Value} {z:DataW Unit×List MemPlace},rd u=some z→∃ x,u=v x∧z=(d x,[])
 inj:∀ {x y:α},d x=d y→x=y
def Zj {α:Type}(L:List (Str×α))(k:Str):Option α:=(L.find? (fun p=>p.1==k)).map (·.2)
theorem lookE_append {α:Type}(E F:List (Str×α))(k:Str):Zj (E++F) k=(Zj E k).or (Zj F k):=by
 unfold Zj;rw [List.find?_append]
 cases E.find? (fun p=>p.1==k) <;> rfl
theorem lookE_none {α:Type}{E:List (Str×α)}{k:Str}:Zj E k=none↔∀ p∈E,p.1≠k:=by
 unfold Zj;rw [Option.map_eq_none_iff,List.find?_eq_none]
 simp
theorem lookE_some {α:Type}{E:List (Str×α)}{k:Str}(h:(Zj E k).isSome=true):k∈E.map (·.1):=by
 unfold Zj at h;rw [Option.isSome_map] at h
 obtain⟨p,hp⟩:=Option.isSome_iff_exists.1 h
 have h1:=List.find?_some hp;have h2:=List.mem_of_find?_eq_some hp
 simp at h1
 exact List.mem_map.2 ⟨p,h2,h1⟩
theorem lookE_mem {α:Type}{E:List (Str×α)}{k:Str}(h:k∈E.map (·.1)):(Zj E k).isSome=true:=by
 cases hl:Zj E k with
 | some v=>rfl
 | none =>
  obtain⟨p,hp,rfl⟩:=List.mem_map.1 h
  exact absurd rfl (lookE_none.1 hl p hp)
theorem lookE_in {α:Type}{E:List (Str×α)}{k:Str}{x:α}(h:Zj E k=some x):(k,x)∈E:=by
 unfold Zj at h
 obtain⟨p,hp,rfl⟩:=Option.map_eq_some_iff.1 h
 have h1:=List.find?_some hp
 simp at h1
 have h2:=List.mem_of_find?_eq_some hp;rw [← h1];exact h2
theorem lookE_is {α:Type}{E:List (Str×α)}(hn:(E.map (·.1)).Nodup){p:Str×α}(hp:p∈E):Zj E p.1=some p.2:=by
 induction E with
 | nil=>cases hp
 | cons q E ih =>
  rw [List.map_cons,List.nodup_cons] at hn;unfold Zj;rw [List.find?_cons]
  rcases List.mem_cons.1 hp with rfl | hp
  ·simp
  ·have:q.1≠p.1:=fun e=>hn.1 (by rw [e];exact List.mem_map.2 ⟨p,hp,rfl⟩)
   rw [show(q.1==p.1)=false by simpa using this];exact ih hn.2 hp
def Zh {α:Type}(E:El α)(w:World)(b n:Nat)(L:List (Str×α)):Prop :=
 ∃ m:DataW Unit,w.ownsMap Tryz.prog 9 E.rd b n m∧∀ k z,m.atKey (.string k) z=match Zj L k with | some v=>E.d v | none=>z
section
variable {α : Type} {E : El α} {w w' : World} {b n : Nat} {L : List (Str × α)}
theorem Zh.lt (h:Zh E w b n L):b<w.heap.size:=by obtain⟨m,h,_⟩:=h;exact h.lt
theorem Zh.mono {n':Nat}(h:Zh E w b n L)(hn:n≤n'):Zh E w b n' L:=by obtain⟨m,h,h2⟩:=h;exact⟨m,h.mono hn,h2⟩
theorem ownsMapE_block {P:Program}{k:TypeId}{R:Value→Option (DataW Unit×List MemPlace)}{m:DataW Unit}(h:w.ownsMap P k R b n m)(he:w'.heap[b]?=w.heap[b]?):w'.ownsMap P k R b n m:=by
 obtain⟨es,clock,hb,F,hs,hD⟩:=h
 exact⟨es,clock,he.trans hb,F,hs,hD⟩
theorem Zh.block (h:Zh E w b n L)(he:w'.heap[b]?=w.heap[b]?):Zh E w' b n L:=by obtain⟨m,h,h2⟩:=h;exact⟨m,ownsMapE_block h he,h2⟩
theorem Zh.below (h:Zh E w b n L)(hb:Below w.heap.size w w'):Zh E w' b n L:=h.block (hb.block _ h.lt)
theorem Zh.made (E:El α)(w:World):Zh E (w.alloc (.map #[] 0)) w.heap.size 0 []:=⟨.map [],World.ownsMap_made _ _ _ _,fun k z=>rfl⟩
theorem Zh.isMap (h:Zh E w b n L):∃ es clock,w.heap[b]?=some (.map es clock):=by obtain⟨m,⟨es,ck,hb,_⟩,_⟩:=h;exact⟨es,ck,hb⟩
theorem Zh.look_ok (h:Zh E w b n L){mt e:TypeId}(hu:Tryz.prog.underlying mt=some (.map 9 e)){x0:α}(hz:∀ W:World,(zeroValue e).run Tryz.prog W=.ok (E.v x0) W)(k:Str)(hk:k.length≤maxLen) :
  (Instr.lookup mt (.map (some b)) (.string ⟨k.toArray⟩) true).run Tryz.prog w=.ok (.tuple #[E.v ((Zj L k).getD x0),.bool (Zj L k).isSome]) w:=by
 obtain⟨mm,hown,hat⟩:=h
 obtain⟨v,ps,hrun,hv⟩:=hown.look_ok lawS hu (hz w) (E.ok x0) (key_ofS hk)
 obtain⟨s,rfl,hz⟩:=E.inv hv
 rw [hat] at hz;have hhas:Maps.has mm (.string k)=(Zj L k).isSome:=by
  cases hl:Zj L k with
  | some v=>rw [has_true_of_atKey (y:=E.d v) (fun z=>by rw [hat,hl])];rfl
  | none=>rw [has_false_of_atKey (fun z=>by rw [hat,hl])];rfl
 have hs:s=(Zj L k).getD x0:=by
  cases hl:Zj L k with
  | some v=>rw [hl] at hz;exact(E.inj (Prod.mk.inj hz).1).symm
  | none=>rw [hl] at hz;exact(E.inj (Prod.mk.inj hz).1).symm
 rw [← hhas,← hs];exact hrun
theorem Zh.look (h:Zh E w b n L){mt e:TypeId}(hu:Tryz.prog.underlying mt=some (.map 9 e)){x0:α}(hz:∀ W:World,(zeroValue e).run Tryz.prog W=.ok (E.v x0) W)(k:Str)(hk:k.length≤maxLen) :
  (Instr.lookup mt (.map (some b)) (.string ⟨k.toArray⟩) false).run Tryz.prog w=.ok (E.v ((Zj L k).getD x0)) w:=by
 obtain⟨mm,hown,hat⟩:=h
 obtain⟨v,ps,hrun,hv⟩:=hown.lookup lawS hu (hz w) (E.ok x0) (key_ofS hk)
 obtain⟨s,rfl,hz⟩:=E.inv hv
 rw [hat] at hz;have hs:s=(Zj L k).getD x0:=by
  cases hl:Zj L k with
  | some v=>rw [hl] at hz;exact(E.inj (Prod.mk.inj hz).1).symm
  | none=>rw [hl] at hz;exact(E.inj (Prod.mk.inj hz).1).symm
 rw [← hs];exact hrun
theorem Zh.say (h:Zh E w b n L)(hn:n<maxLen){mt e:TypeId}(hu:Tryz.prog.underlying mt=some (.map 9 e))(k:Str)(x:α)(hk:k.length≤maxLen)(hno:Zj L k=none) :
  ∃ w',(Instr.mapUpdate mt (.map (some b)) (.string ⟨k.toArray⟩) (E.v x)).run Tryz.prog w=.ok () w'∧Zh E w' b (n+1) (L++[(k,x)])∧w.grownBy w' (some b):=by
 obtain⟨mm,hown,hat⟩:=h
 obtain⟨w',hrun,hown',hgr⟩:=hown.update lawS hu hn (key_ofS hk) (E.ok x)
 refine⟨w',hrun,⟨_,hown',fun k' z=>?_⟩,hgr⟩
 rw [lookE_append]
 by_cases he:k'=k
 ·subst he;rw [atKey_put_same hown.isMap (strLit _),hno]
  simp [Zj]
 ·rw [atKey_put_other (fun e=>he (by simpa using e)),hat]
  cases hl:Zj L k' with
  | some u=>rfl
  | none=>simp [Zj,Ne.symm he]
theorem Zh.again (h:Zh E w b n L)(hn:n<maxLen){mt e:TypeId}(hu:Tryz.prog.underlying mt=some (.map 9 e))(k:Str)(x:α)(hk:k.length≤maxLen)(his:Zj L k=some x) :
  ∃ w',(Instr.mapUpdate mt (.map (some b)) (.string ⟨k.toArray⟩) (E.v x)).run Tryz.prog w=.ok () w'∧Zh E w' b (n+1) L∧w.grownBy w' (some b):=by
 obtain⟨mm,hown,hat⟩:=h
 obtain⟨w',hrun,hown',hgr⟩:=hown.update lawS hu hn (key_ofS hk) (E.ok x)
 refine⟨w',hrun,⟨_,hown',fun k' z=>?_⟩,hgr⟩
 by_cases he:k'=k
 ·subst he;rw [atKey_put_same hown.isMap (strLit _),his]
 ·rw [atKey_put_other (fun e=>he (by simpa using e)),hat]
theorem Zh.keys {m:DataW Unit}(hown:w.ownsMap Tryz.prog 9 E.rd b n m)(hat:∀ k z,m.atKey (.string k) z=match Zj L k with | some v=>E.d v | none=>z)(hn:(L.map (·.1)).Nodup):(L.map (·.1)).Perm (strKeys m):=by
 obtain⟨es,hD,hpw,_⟩:=hown.entries lawS
 obtain⟨es',hD',hko⟩:=hown.keysOf
 obtain rfl:es=es':=by rw [hD] at hD';simpa using hD'
 subst hD;refine perm_strKeys hpw (fun p hp=>by obtain⟨v,hv⟩:=hko p hp;obtain⟨x,_,hx,_⟩:=Maps.keyOf_str Tryz.underlying9 hv;exact⟨x,hx⟩) hn (fun x=>?_);have hl:∀ z,(DataW.map es).atKey (.string x) z=match Zj L x with | some v=>E.d v | none=>z:=hat x
 cases hx:Zj L x with
 | some v=>rw [has_true_of_atKey (y:=E.d v) (fun z=>by rw [hl,hx])];exact⟨fun _=>rfl,fun _=>lookE_some (by rw [hx];rfl)⟩
 | none =>
  rw [has_false_of_atKey (fun z=>by rw [hl,hx])]
  exact⟨fun h=>(by have:=lookE_mem h;rw [hx] at this;cases this),fun h=>by cases h⟩
end
def sdV (x:Str×Int×Int):Value:=.agg #[.string ⟨x.1.toArray⟩,.int .i64 x.2.1,.int .i64 x.2.2]
def sdD (x:Str×Int×Int):DataW Unit:=.agg [.lit (.string x.1),.lit (.int .i64 x.2.1),.lit (.int .i64 x.2.2)]
def rdSd (v:Value):Option (DataW Unit×List MemPlace):=match v with
 | .agg cs=>match cs.toList with
  | [.string a,.int .i64 b,.int .i64 c]=>some (sdD (a.data.toList,b,c),[])
  | _=>none
 | _=>none
def elSd:El (Str×Int×Int) where
 v:=sdV
 d:=sdD
 rd:=rdSd
 ok:=fun x=>by simp [rdSd,sdV]
 inv:=by
  intro u z h;unfold rdSd at h
  split at h
  ·rename_i cs
   split at h
   ·rename_i a b c e
    cases h
    refine⟨(a.data.toList,b,c),?_,rfl⟩
    obtain⟨l⟩:=cs
    simp only at e
    simp [sdV,e]
   ·cases h
  ·cases h
 inj:=by
  rintro⟨a,b,c⟩ ⟨d,e,f⟩ h
  simpa [sdD] using h
def mpI:Option Nat→Int
 | none=>-1
 | some b=>b
def rdMp (v:Value):Option (DataW Unit×List MemPlace):=match v with
 | .map b=>some (.lit (.int .i64 (mpI b)),[])
 | _=>none
def elMp:El (Option Nat) where
 v:=fun b=>.map b
 d:=fun b=>.lit (.int .i64 (mpI b))
 rd:=rdMp
 ok:=fun x=>rfl
 inv:=by
  intro u z h;unfold rdMp at h
  split at h
  ·cases h;exact⟨_,rfl,rfl⟩
  ·cases h
 inj:=by
  intro x y h;have h:mpI x=mpI y:=by simpa using h
  cases x <;> cases y <;> simp [mpI] at h ⊢ <;> omega
def mpL (V:List (Str×Nat)):List (Str×Option Nat):=V.map fun p=>(p.1,some p.2)
theorem look_mp (V:List (Str×Nat))(k:Str):Zj (mpL V) k=(Zj V k).map some:=by
 unfold Zj mpL;rw [List.find?_map,Option.map_map,Option.map_map];rfl
theorem mpL_append (V U:List (Str×Nat)):mpL (V++U)=mpL V++mpL U:=by simp [mpL]
def rdBo (v:Value):Option (DataW Unit×List MemPlace):=match v with
 | .bool b=>some (.lit (.bool b),[])
 | _=>none
def elBo:El Bool where
 v:=fun b=>.bool b
 d:=fun b=>.lit (.bool b)
 rd:=rdBo
 ok:=fun x=>rfl
 inv:=by
  intro u z h;unfold rdBo at h
  split at h
  ·cases h;exact⟨_,rfl,rfl⟩
  ·cases h
 inj:=by intro x y h;simpa using h
def Jb (L:List Str):List (Str×Bool):=L.map fun k=>(k,true)
theorem look_set (L:List Str)(k:Str):Zj (Jb L) k=if k∈L then some true else none:=by
 unfold Zj Jb;rw [List.find?_map]
 by_cases h:k∈L
 ·rw [if_pos h]
  cases hf:L.find? ((fun p:Str×Bool=>p.1==k) ∘ fun k=>(k,true)) with
  | none =>
   rw [List.find?_eq_none] at hf;exact absurd (by simp) (hf k h)
  | some x=>rfl
 ·rw [if_neg h]
  cases hf:L.find? ((fun p:Str×Bool=>p.1==k) ∘ fun k=>(k,true)) with
  | none=>rfl
  | some x =>
   have h1:=List.find?_some hf;have h2:=List.mem_of_find?_eq_some hf
   simp at h1
   exact absurd (h1 ▸ h2) h
end
section
def cls (c:UInt8):UInt8:=if c=95 then 45 else lowB c
theorem all_bytes {p:UInt8→Prop} [DecidablePred p] (h:∀ n:Fin 256,p (UInt8.ofNat n.val))(c:UInt8):p c:=by
 have:=h ⟨c.toNat,c.toNat_lt⟩
 simpa using this
theorem letB_cls (c:UInt8):letB (cls c)=letB c:=all_bytes (p:=fun c=>letB (cls c)=letB c) (by decide +kernel) c
theorem digB_cls (c:UInt8):digB (cls c)=digB c:=all_bytes (p:=fun c=>digB (cls c)=digB c) (by decide +kernel) c
def clean (l:Str):Prop:=∀ c∈l,noSep c=true
theorem all_cls (p:UInt8→Bool)(hp:∀ c,p (cls c)=p c)(l:Str):(l.map cls).all p=l.all p:=by
 rw [List.all_map]
 congr 1
 funext c
 exact hp c
theorem allB_cls (p:UInt8→Bool)(hp:∀ c,p (cls c)=p c)(l:Str):allB p (l.map cls)=allB p l:=by
 unfold allB;rw [all_cls p hp]
 cases l <;> rfl
theorem mixedB_cls (l:Str)(a b:Nat):mixedB (l.map cls) a b=mixedB l a b:=by
 unfold mixedB;rw [List.length_map,all_cls _ fun c=>by rw [letB_cls,digB_cls]]
theorem isLang_cls (l:Str):isLang (l.map cls)=isLang l:=by unfold isLang;rw [allB_cls _ letB_cls,List.length_map]
theorem isScript_cls (l:Str):Zn (l.map cls)=Zn l:=by unfold Zn lettersB;rw [allB_cls _ letB_cls,List.length_map]
theorem isRegion_cls (l:Str):Zr (l.map cls)=Zr l:=by unfold Zr lettersB;rw [allB_cls _ letB_cls,allB_cls _ digB_cls,List.length_map]
theorem isVariant_cls (l:Str):Zq (l.map cls)=Zq l:=by unfold Zq;rw [mixedB_cls,mixedB_cls,← List.map_take,allB_cls _ digB_cls]
theorem isKey_cls (l:Str):isKey (l.map cls)=isKey l:=by unfold isKey;rw [mixedB_cls,← List.map_drop,allB_cls _ letB_cls]
theorem isType_cls (l:Str):Xx (l.map cls)=Xx l:=mixedB_cls l 3 8
def Rd.cl (r:Rd):Rd:=⟨r.rest.map cls,r.pos,r.sub.map cls,r.fin⟩
end
section
def splitRest:Nat→Str→List Str
 | 0,_=>[]
 | _+1,[]=>[]
 | n+1,_::l=>l.takeWhile noSep::splitRest n (l.dropWhile noSep)
theorem splitRest_more:∀ (n m:Nat)(l:Str),l.length≤n→l.length≤m→splitRest n l=splitRest m l
 | 0,m,l,h,_=>by cases l with | nil=>cases m <;> rfl | cons=>simp at h
 | n+1,0,l,_,h=>by cases l with | nil=>rfl | cons=>simp at h
 | n+1,m+1,[],_,_=>rfl
 | n+1,m+1,c::l,h1,h2=>by
  have:=take_drop_len l
  simp only [List.length_cons] at h1 h2;simp only [splitRest];rw [splitRest_more n m _ (by omega) (by omega)]
def Rd.subs (r:Rd):List Str:=if r.fin then [] else r.sub::splitRest r.rest.length r.rest
def Rd.ok (r:Rd):Prop:=r.fin=true→r.sub=[]∧r.rest=[]
theorem ok_next (r:Rd)(h:r.ok):r.next.ok:=by
 unfold Rd.ok Rd.next at *
 cases hr:r.rest with
 | nil=>intro _;exact⟨rfl,rfl⟩
 | cons c l=>intro hf;have:=(h hf).2;rw [hr] at this;cases this
theorem ok_first (s:Str):(Rd.first s).ok:=by
 unfold Rd.ok Rd.first
 split
 ·intro _;exact⟨rfl,rfl⟩
 ·intro h;cases h
theorem subs_next (r:Rd)(h:r.ok):r.next.subs=r.subs.drop 1:=by
 unfold Rd.subs Rd.next
 cases hr:r.rest with
 | nil=>cases r.fin <;> simp [splitRest]
 | cons c l =>
  cases hf:r.fin
  ·have:=take_drop_len l
   simp only [List.length_cons,splitRest,List.drop_succ_cons,List.drop_zero];simp only [Bool.false_eq_true,if_false];rw [splitRest_more l.length (l.dropWhile noSep).length _ (by omega) (Nat.le_refl _)]
   rfl
  ·have:=(h hf).2;rw [hr] at this;cases this
def keysL:Nat→Tg→List Str→Option Tg
 | 0,_,_=>none
 | _+1,t,[]=>some { t with keys:=Kh t.keys }
 | n+1,t,x::ps =>
  if isKey x then
   if t.keys.any (fun p=>p.1==lower x) then none
   else if t.keys.length=16 then none
   else keysL n { t with keys:=t.keys++[(lower x,value ((ps.takeWhile Xx).map lower))] } (ps.dropWhile Xx)
  else none
def tailL (t:Tg):List Str→Option Tg
 | []=>some { t with vars:=srtS t.vars }
 | x::ps=>if lower x=[117] then(match ps with
   | []=>none
   | y::qs=>if isKey y then keysL 17 { t with vars:=srtS t.vars } (y::qs) else none) else none
def varsL:Nat→Tg→List Str→Option Tg
 | 0,_,_=>none
 | _+1,t,[]=>tailL t []
 | n+1,t,x::ps =>
  if Zq x then
   if t.vars.contains (lower x) then none
   else if t.vars.length=8 then none
   else varsL n { t with vars:=t.vars++[lower x] } ps
  else tailL t (x::ps)
def regionL (t:Tg):List Str→Option Tg
 | []=>varsL 9 t []
 | x::ps=>if Zr x then varsL 9 { t with region:=Jz x } ps else varsL 9 t (x::ps)
def scriptL (t:Tg):List Str→Option Tg
 | []=>regionL t []
 | x::ps=>if Zn x then regionL { t with script:=title x } ps else regionL t (x::ps)
def parseL:List Str→Option Tg
 | []=>none
 | x::ps=>if isLang x then scriptL { Tg.zero with lang:=langOf x } ps else none
def okR (x:Res):Option Tg:=if x.err=0 then some x.tag else none
theorem okR_bad (e:Nat)(r:Rd)(h:e≠0):okR (bad e r)=none:=by unfold okR bad;rw [if_neg h]
theorem fin_cases (r:Rd)(h:r.ok):(r.fin=true∧r.subs=[]∧r.sub=[])∨(r.fin=false∧∃ ps,r.subs=r.sub::ps∧r.next.subs=ps):=by
 cases hf:r.fin
 ·right
  refine⟨rfl,_,by unfold Rd.subs;rw [hf];rfl,?_⟩
  rw [subs_next r h];unfold Rd.subs;rw [hf]
  rfl
 ·left
  exact⟨rfl,by unfold Rd.subs;rw [hf];rfl,(h hf).1⟩
end
section
theorem isType_nil:Xx []=false:=by decide
theorem isKey_nil:isKey []=false:=by decide
theorem isVariant_nil:Zq []=false:=by decide
theorem isRegion_nil:Zr []=false:=by decide
theorem isScript_nil:Zn []=false:=by decide
theorem isLang_nil:isLang []=false:=by decide
theorem rest_next (r:Rd):r.next.rest.length≤r.rest.length:=by
 have:=Rd.next_all r
 unfold Rd.next
 cases r.rest with
 | nil=>simp
 | cons c l=>have:=take_drop_len l;simp;omega
theorem types_L:∀ (n:Nat)(r:Rd)(acc:List Str),r.ok→(r.rest.length+2≤n∨(Xx r.sub=false∧1≤n)) →
  (types n r acc).1=acc++(r.subs.takeWhile Xx).map lower∧(types n r acc).2.subs=r.subs.dropWhile Xx∧(types n r acc).2.ok∧(types n r acc).2.rest.length≤r.rest.length
 | 0,r,acc,h,hm=>by rcases hm with h | h <;> omega
 | n+1,r,acc,h,hm=>by
  unfold types
  rcases fin_cases r h with ⟨hf,hs,hb⟩ | ⟨hf,ps,hs,hn⟩
  ·rw [hb,hs];simp only [isType_nil,Bool.false_eq_true,if_false,List.takeWhile_nil,List.dropWhile_nil,List.map_nil,List.append_nil]
   exact⟨trivial,hs,h,Nat.le_refl _⟩
  ·by_cases hq:Xx r.sub=true
   ·have hm2:r.rest.length+2≤n+1:=by
     rcases hm with h | h
     ·exact h
     ·rw [hq] at h;cases h.1
    obtain⟨h1,h2,h3,h4⟩:=types_L n r.next (acc++[lower r.sub]) (ok_next r h) (types_inv hm2)
    rw [if_pos hq,h1,h2,hs,hn]
    refine⟨by simp [List.takeWhile_cons,hq],by simp [List.dropWhile_cons,hq],h3,Nat.le_trans h4 (rest_next r)⟩
   ·have hq2:Xx r.sub=false:=by simpa using hq
    rw [if_neg hq,hs]
    refine⟨by simp [List.takeWhile_cons,hq2],by simp [List.dropWhile_cons,hq2,hs],h,Nat.le_refl _⟩
theorem keys_L:∀ (n:Nat)(t:Tg)(r:Rd),r.ok→r.rest.length≤128→17≤n+t.keys.length→t.keys.length≤16→okR (keysF n t r)=keysL n t r.subs
 | 0,t,r,h,hl,hn,hk=>by omega
 | n+1,t,r,h,hl,hn,hk=>by
  unfold keysF
  rcases fin_cases r h with ⟨hf,hs,hb⟩ | ⟨hf,ps,hs,hnx⟩
  ·rw [hb,hs,isKey_nil,hf]
   simp [keysL,okR]
  ·rw [hs,hf];simp only [keysL]
   by_cases hq:isKey r.sub=true
   ·simp only [hq,if_true]
    by_cases hd:(t.keys.any fun p=>p.1==lower r.sub)=true
    ·rw [if_pos hd,if_pos hd];exact okR_bad _ _ (by decide)
    ·rw [if_neg hd,if_neg hd]
     by_cases h16:t.keys.length=16
     ·rw [if_pos h16,if_pos h16];exact okR_bad _ _ (by decide)
     ·rw [if_neg h16,if_neg h16]
      obtain⟨h1,h2,h3,h4⟩:=types_L 130 r.next [] (ok_next r h) (Or.inl (by have:=rest_next r;omega))
      rw [keys_L n { t with keys:=t.keys++[(lower r.sub,value (types 130 r.next []).1)] } (types 130 r.next []).2 h3 (by have:=rest_next r;omega) (by simp;omega) (by simp;omega),h2,h1,hnx]
      rfl
   ·simp only [hq];simp only [Bool.false_eq_true,if_false];exact okR_bad _ _ (by decide)
theorem tail_L (t:Tg)(r:Rd)(h:r.ok)(hl:r.rest.length≤128)(hk:t.keys=[]):okR (tailF t r)=tailL t r.subs:=by
 unfold tailF
 rcases fin_cases r h with ⟨hf,hs,hb⟩ | ⟨hf,ps,hs,hnx⟩
 ·rw [hs,hf];simp [tailL,okR]
 ·rw [hs,hf];simp only [Bool.false_eq_true,if_false];simp only [tailL]
  by_cases hu:lower r.sub=[117]
  ·rw [if_pos hu,if_pos hu];have hl2:=rest_next r
   rcases fin_cases r.next (ok_next r h) with ⟨hf2,hs2,hb2⟩ | ⟨hf2,qs,hs2,hn2⟩
   ·rw [hb2,isKey_nil,← hnx,hs2];simp only [Bool.false_eq_true,if_false];exact okR_bad _ _ (by decide)
   ·rw [← hnx,hs2]
    by_cases hq:isKey r.next.sub=true
    ·rw [if_pos hq];simp only [hq,if_true];rw [keys_L 17 { t with vars:=srtS t.vars } r.next (ok_next r h) (by omega) (by simp) (by simp [hk]),hs2]
    ·rw [if_neg hq];simp only [hq];exact okR_bad _ _ (by decide)
  ·rw [if_neg hu,if_neg hu];exact okR_bad _ _ (by decide)
theorem vars_L:∀ (n:Nat)(t:Tg)(r:Rd),r.ok→r.rest.length≤128→9≤n+t.vars.length→t.vars.length≤8→t.keys=[]→okR (varsF n t r)=varsL n t r.subs
 | 0,t,r,h,hl,hn,hv,hk=>by omega
 | n+1,t,r,h,hl,hn,hv,hk=>by
  unfold varsF
  rcases fin_cases r h with ⟨hf,hs,hb⟩ | ⟨hf,ps,hs,hnx⟩
  ·rw [hb,isVariant_nil,hs];simp only [Bool.false_eq_true,if_false,varsL];rw [tail_L t r h hl hk,hs]
  ·rw [hs];simp only [varsL]
   by_cases hq:Zq r.sub=true
   ·rw [if_pos hq,if_pos hq]
    by_cases hd:t.vars.contains (lower r.sub)=true
    ·rw [if_pos hd,if_pos hd];exact okR_bad _ _ (by decide)
    ·rw [if_neg hd,if_neg hd]
     by_cases h8:t.vars.length=8
     ·rw [if_pos h8,if_pos h8];exact okR_bad _ _ (by decide)
     ·rw [if_neg h8,if_neg h8,vars_L n { t with vars:=t.vars++[lower r.sub] } r.next (ok_next r h) (by have:=rest_next r;omega) (by simp;omega) (by simp;omega) hk,hnx]
   ·rw [if_neg hq,if_neg hq,tail_L t r h hl hk,hs]
theorem region_L (t:Tg)(r:Rd)(h:r.ok)(hl:r.rest.length≤128)(hv:t.vars=[])(hk:t.keys=[]):okR (regionF t r)=regionL t r.subs:=by
 unfold regionF;have hl2:=rest_next r
 rcases fin_cases r h with ⟨hf,hs,hb⟩ | ⟨hf,ps,hs,hnx⟩
 ·rw [hb,isRegion_nil,hs];simp only [Bool.false_eq_true,if_false,regionL];rw [vars_L 9 t r h hl (by omega) (by simp [hv]) hk,hs]
 ·rw [hs];simp only [regionL]
  by_cases hq:Zr r.sub=true
  ·rw [if_pos hq,if_pos hq,vars_L 9 { t with region:=Jz r.sub } r.next (ok_next r h) (by omega) (by simp) (by simp [hv]) hk,hnx]
  ·rw [if_neg hq,if_neg hq,vars_L 9 t r h hl (by omega) (by simp [hv]) hk,hs]
theorem script_L (t:Tg)(r:Rd)(h:r.ok)(hl:r.rest.length≤128)(hv:t.vars=[])(hk:t.keys=[]):okR (scriptF t r)=scriptL t r.subs:=by
 unfold scriptF;have hl2:=rest_next r
 rcases fin_cases r h with ⟨hf,hs,hb⟩ | ⟨hf,ps,hs,hnx⟩
 ·rw [hb,isScript_nil,hs];simp only [Bool.false_eq_true,if_false,scriptL];rw [region_L t r h hl hv hk,hs]
 ·rw [hs];simp only [scriptL]
  by_cases hq:Zn r.sub=true
  ·rw [if_pos hq,if_pos hq,region_L { t with script:=title r.sub } r.next (ok_next r h) (by omega) hv hk,hnx]
  ·rw [if_neg hq,if_neg hq,region_L t r h hl hv hk,hs]
theorem parse_L (s:Str):okR (Xs s)=if 128<s.length then none else if lower s=Qv then some Tg.zero else parseL (Rd.first s).subs:=by
 unfold Xs
 by_cases h1:128<s.length
 ·rw [if_pos h1,if_pos h1];rfl
 ·rw [if_neg h1,if_neg h1]
  by_cases h2:lower s=Qv
  ·rw [if_pos h2,if_pos h2];rfl
  ·rw [if_neg h2,if_neg h2];have ha:=Rd.first_all s;have hl2:=rest_next (Rd.first s);unfold Rd.all at ha
   rcases fin_cases _ (ok_first s) with ⟨hf,hs,hb⟩ | ⟨hf,ps,hs,hnx⟩
   ·rw [hb,isLang_nil,hs];simp only [Bool.false_eq_true,if_false,parseL];exact okR_bad _ _ (by decide)
   ·rw [hs];simp only [parseL]
    by_cases hq:isLang (Rd.first s).sub=true
    ·rw [if_pos hq,if_pos hq,script_L _ _ (ok_next _ (ok_first s)) (by omega) rfl rfl,hnx]
    ·rw [if_neg hq,if_neg hq];exact okR_bad _ _ (by decide)
end
section
def jt (ps:List Str):Str:=Lib.joinTail [45] ps
theorem jt_nil:jt []=[]:=rfl
theorem jt_cons (p:Str)(ps:List Str):jt (p::ps)=45::(p++jt ps):=by simp [jt,Lib.joinTail]
theorem jt_append (a b:List Str):jt (a++b)=jt a++jt b:=by simp [jt,Lib.joinTail]
theorem take_jt (p:Str)(ps:List Str)(h:clean p):(p++jt ps).takeWhile noSep=p∧(p++jt ps).dropWhile noSep=jt ps:=by
 induction p with
 | nil =>
  cases ps with
  | nil=>exact⟨rfl,rfl⟩
  | cons q qs=>rw [jt_cons];exact⟨rfl,rfl⟩
 | cons c p ih =>
  have hc:noSep c=true:=h c (List.mem_cons_self)
  obtain⟨h1,h2⟩:=ih fun d hd=>h d (List.mem_cons_of_mem _ hd)
  rw [List.cons_append,List.takeWhile_cons,List.dropWhile_cons]
  simp [hc,h1,h2]
theorem split_jt:∀ (n:Nat)(ps:List Str),(∀ p∈ps,clean p)→(jt ps).length≤n→splitRest n (jt ps)=ps
 | n,[],_,_=>by rw [jt_nil];cases n <;> rfl
 | 0,p::ps,_,h=>by rw [jt_cons] at h;simp at h
 | n+1,p::ps,hc,h=>by
  obtain⟨h1,h2⟩:=take_jt p ps (hc p (List.mem_cons_self))
  rw [jt_cons] at h ⊢;simp only [splitRest,h1,h2];rw [split_jt n ps (fun q hq=>hc q (List.mem_cons_of_mem _ hq)) (by simp at h;omega)]
theorem join_jt (p:Str)(ps:List Str):Lib.join (p::ps) [45]=p++jt ps:=Lib.join_cons p ps [45]
theorem subs_join (p:Str)(ps:List Str)(h0:p≠[])(hc:∀ q∈p::ps,clean q):(Rd.first (Lib.join (p::ps) [45])).subs=p::ps:=by
 rw [join_jt]
 obtain⟨h1,h2⟩:=take_jt p ps (hc p (List.mem_cons_self))
 have hne:p++jt ps≠[]:=fun e=>h0 (List.append_eq_nil_iff.1 e).1
 unfold Rd.first Rd.subs;rw [if_neg hne];simp only [h1,h2,Bool.false_eq_true,if_false];rw [split_jt _ ps (fun q hq=>hc q (List.mem_cons_of_mem _ hq)) (Nat.le_refl _)]
def sz (ps:List Str):Nat:=(ps.map fun p=>p.length+1).sum
theorem sz_nil:sz []=0:=rfl
theorem Kw (p:Str)(ps:List Str):sz (p::ps)=p.length+1+sz ps:=by simp [sz]
theorem Zz (a b:List Str):sz (a++b)=sz a+sz b:=by simp [sz]
theorem sz_perm {a b:List Str}(h:a.Perm b):sz a=sz b:=(h.map _).sum_nat
theorem sz_lower (a:List Str):sz (a.map lower)=sz a:=by
 induction a with
 | nil=>rfl
 | cons x a ih=>rw [List.map_cons,Kw,Kw,ih,Kx]
theorem jt_len (ps:List Str):(jt ps).length=sz ps:=by
 induction ps with
 | nil=>rfl
 | cons p ps ih=>rw [jt_cons,Kw,← ih];simp;omega
theorem join_sz (p:Str)(ps:List Str):(Lib.join (p::ps) [45]).length+1=sz (p::ps):=by
 rw [join_jt,List.length_append,jt_len,Kw];omega
theorem split_sz:∀ (n:Nat)(l:Str),l.length≤n→sz (splitRest n l)=l.length
 | n,[],_=>by cases n <;> rfl
 | 0,c::l,h=>by simp at h
 | n+1,c::l,h=>by
  have:=take_drop_len l
  simp only [List.length_cons] at h;simp only [splitRest];rw [Kw,split_sz n _ (by omega),List.length_cons]
  omega
theorem subs_sz (s:Str)(h:s≠[]):sz (Rd.first s).subs=s.length+1:=by
 have:=take_drop_len s
 unfold Rd.first Rd.subs;rw [if_neg h];simp only [Bool.false_eq_true,if_false];rw [Kw,split_sz _ _ (Nat.le_refl _)]
 omega
end
section
theorem low_low (c:UInt8):lowB (lowB c)=lowB c:=all_bytes (p:=fun c=>lowB (lowB c)=lowB c) (by decide +kernel) c
theorem upp_upp (c:UInt8):uppB (uppB c)=uppB c:=all_bytes (p:=fun c=>uppB (uppB c)=uppB c) (by decide +kernel) c
theorem cls_low (c:UInt8):cls (lowB c)=cls c:=all_bytes (p:=fun c=>cls (lowB c)=cls c) (by decide +kernel) c
theorem cls_upp (c:UInt8):cls (uppB c)=cls c:=all_bytes (p:=fun c=>cls (uppB c)=cls c) (by decide +kernel) c
theorem mix_noSep (c:UInt8):(letB c||digB c)=true→noSep c=true:=all_bytes (p:=fun c=>(letB c||digB c)=true→noSep c=true) (by decide +kernel) c
theorem let_noSep (c:UInt8):letB c=true→noSep c=true:=fun h=>mix_noSep c (by rw [h];rfl)
theorem dig_noSep (c:UInt8):digB c=true→noSep c=true:=fun h=>mix_noSep c (by rw [h];simp)
theorem lower_lower (l:Str):lower (lower l)=lower l:=by
 unfold lower;rw [List.map_map];exact List.map_congr_left fun c _=>low_low c
theorem upper_upper (l:Str):Jz (Jz l)=Jz l:=by
 unfold Jz;rw [List.map_map];exact List.map_congr_left fun c _=>upp_upp c
theorem title_title (l:Str):title (title l)=title l:=by
 cases l with
 | nil=>rfl
 | cons c l =>
  show Jz ((title (c::l)).take 1)++lower ((title (c::l)).drop 1)=_
  have:title (c::l)=uppB c::lower l:=rfl
  rw [this];show Jz [uppB c]++lower (lower l)=_;rw [lower_lower]
  simp [Jz,upp_upp]
theorem lower_map (l:Str):(lower l).map cls=l.map cls:=by
 unfold lower;rw [List.map_map];exact List.map_congr_left fun c _=>cls_low c
theorem upper_map (l:Str):(Jz l).map cls=l.map cls:=by
 unfold Jz;rw [List.map_map];exact List.map_congr_left fun c _=>cls_upp c
theorem title_map (l:Str):(title l).map cls=l.map cls:=by
 unfold title;rw [List.map_append,upper_map,lower_map,← List.map_append,List.take_append_drop]
theorem isKey_lower (l:Str):isKey (lower l)=isKey l:=by rw [← isKey_cls,lower_map,isKey_cls]
theorem isType_lower (l:Str):Xx (lower l)=Xx l:=by rw [← isType_cls,lower_map,isType_cls]
theorem isVariant_lower (l:Str):Zq (lower l)=Zq l:=by rw [← isVariant_cls,lower_map,isVariant_cls]
theorem isLang_lower (l:Str):isLang (lower l)=isLang l:=by rw [← isLang_cls,lower_map,isLang_cls]
theorem isRegion_upper (l:Str):Zr (Jz l)=Zr l:=by rw [← isRegion_cls,upper_map,isRegion_cls]
theorem isScript_title (l:Str):Zn (title l)=Zn l:=by rw [← isScript_cls,title_map,isScript_cls]
theorem mixed_clean {l:Str}{a b:Nat}(h:mixedB l a b=true):clean l∧a≤l.length∧l.length≤b:=by
 unfold mixedB at h;simp only [Bool.and_eq_true,decide_eq_true_eq] at h
 exact⟨fun c hc=>mix_noSep c (List.all_eq_true.1 h.2.2 c hc),h.1,h.2.1⟩
theorem allB_clean {p:UInt8→Bool}(hp:∀ c,p c=true→noSep c=true){l:Str}(h:allB p l=true):clean l:=by
 unfold allB at h;simp only [Bool.and_eq_true] at h;exact fun c hc=>hp c (List.all_eq_true.1 h.1 c hc)
theorem type_clean {l:Str}(h:Xx l=true):clean l∧3≤l.length∧l.length≤8:=mixed_clean h
theorem key_clean {l:Str}(h:isKey l=true):clean l∧l.length=2:=by
 unfold isKey at h;simp only [Bool.and_eq_true] at h
 obtain⟨h1,h2,h3⟩:=mixed_clean h.1
 exact⟨h1,by omega⟩
theorem variant_clean {l:Str}(h:Zq l=true):clean l∧4≤l.length∧l.length≤8:=by
 unfold Zq at h;simp only [Bool.or_eq_true,Bool.and_eq_true] at h
 rcases h with h | h
 ·obtain⟨h1,h2,h3⟩:=mixed_clean h;exact⟨h1,by omega,h3⟩
 ·obtain⟨h1,h2,h3⟩:=mixed_clean h.1;exact⟨h1,h2,by omega⟩
theorem script_clean {l:Str}(h:Zn l=true):clean l∧l.length=4:=by
 unfold Zn lettersB at h;simp only [Bool.and_eq_true,beq_iff_eq] at h
 exact⟨allB_clean let_noSep h.2,h.1⟩
theorem region_clean {l:Str}(h:Zr l=true):clean l∧(l.length=2∨l.length=3):=by
 unfold Zr lettersB at h;simp only [Bool.or_eq_true,Bool.and_eq_true,beq_iff_eq] at h
 rcases h with h | h
 ·exact⟨allB_clean let_noSep h.2,Or.inl h.1⟩
 ·exact⟨allB_clean dig_noSep h.2,Or.inr h.1⟩
theorem lang_clean {l:Str}(h:isLang l=true):clean l∧(l.length=2∨l.length=3∨(5≤l.length∧l.length≤8)):=by
 unfold isLang at h;simp only [Bool.or_eq_true,Bool.and_eq_true,beq_iff_eq,decide_eq_true_eq] at h
 refine⟨allB_clean let_noSep h.1,?_⟩
 rcases h.2 with (h | h) | h
 ·exact Or.inl h
 ·exact Or.inr (Or.inl h)
 ·exact Or.inr (Or.inr h)
end
section
def vparts (v:Str):List Str:=if v=[] then [] else(Rd.first v).subs
def kparts (p:Str×Str):List Str:=p.1::vparts p.2
def ValOK (v:Str):Prop:=∃ ts:List Str,(∀ x∈ts,Xx x=true∧lower x=x)∧v=value ts
def KeyOK (p:Str×Str):Prop:=isKey p.1=true∧lower p.1=p.1∧ValOK p.2
def Kt (l:List (Str×Str)):Prop:=(l.map (·.1)).Nodup∧(∀ p∈l,KeyOK p)∧l.length≤16
def VarsOK (l:List Str):Prop:=l.Nodup∧(∀ v∈l,Zq v=true∧lower v=v)∧l.length≤8
theorem value_cases (ts:List Str):value ts=[]∨(value ts=Lib.join ts [45]∧ts≠[]∧value ts≠[]):=by
 unfold value
 by_cases h:Lib.join ts [45]=tTrue
 ·rw [if_pos h];exact Or.inl rfl
 ·rw [if_neg h]
  by_cases h2:Lib.join ts [45]=[]
  ·exact Or.inl h2
  ·exact Or.inr ⟨rfl,fun e=>h2 (by rw [e];rfl),h2⟩
theorem vparts_value (ts:List Str)(h:∀ x∈ts,Xx x=true):vparts (value ts)=if value ts=[] then [] else ts:=by
 unfold vparts
 by_cases h0:value ts=[]
 ·rw [if_pos h0,if_pos h0]
 ·rw [if_neg h0,if_neg h0]
  rcases value_cases ts with h1 | ⟨h1,h2,h3⟩
  ·exact absurd h1 h0
  ·rw [h1]
   cases ts with
   | nil=>exact absurd rfl h2
   | cons x xs =>
    refine subs_join x xs ?_ fun q hq=>(type_clean (h q hq)).1
    have:=(type_clean (h x (List.mem_cons_self))).2.1
    rintro rfl
    simp at this
theorem sz_value (ts:List Str)(h:∀ x∈ts,Xx x=true):sz (vparts (value ts))≤sz ts:=by
 rw [vparts_value ts h]
 split
 ·exact Nat.zero_le _
 ·exact Nat.le_refl _
theorem takeWhile_mem {p:Str→Bool}:∀ (l:List Str),∀ x∈l.takeWhile p,p x=true
 | [],x,h=>by simp at h
 | a::l,x,h=>by
  rw [List.takeWhile_cons] at h
  split at h
  ·rcases List.mem_cons.1 h with rfl | h
   ·assumption
   ·exact takeWhile_mem l x h
  ·simp at h
theorem sz_take_drop (p:Str→Bool)(l:List Str):sz (l.takeWhile p)+sz (l.dropWhile p)=sz l:=by
 rw [← Zz,List.takeWhile_append_dropWhile]
theorem nodup_snoc' {l:List (Str×Str)}{key v:Str}(h:¬ (l.any fun p=>p.1==key)=true)(hn:(l.map (·.1)).Nodup):((l++[(key,v)]).map (·.1)).Nodup:=by
 rw [List.map_append,List.nodup_append]
 refine⟨hn,by simp,fun a ha b hb=>?_⟩
 simp only [List.map_cons,List.map_nil,List.mem_singleton] at hb;subst hb;rintro rfl
 obtain⟨p,hp,rfl⟩:=List.mem_map.1 ha
 exact h (List.any_eq_true.2 ⟨p,hp,by simp⟩)
theorem keys_fact:∀ (n:Nat)(t t':Tg)(ps:List Str),keysL n t ps=some t'→Kt t.keys →
  ∃ ks,t'={ t with keys:=Kh (t.keys++ks) }∧Kt (t.keys++ks)∧sz (ks.flatMap kparts)≤sz ps
 | 0,t,t',ps,h,_=>by simp [keysL] at h
 | n+1,t,t',[],h,hk=>by
  simp only [keysL,Option.some.injEq] at h
  exact⟨[],by rw [← h,List.append_nil],by rw [List.append_nil];exact hk,by simp [sz_nil]⟩
 | n+1,t,t',x::ps,h,hk=>by
  simp only [keysL] at h
  by_cases hq:isKey x=true
  ·rw [if_pos hq] at h
   by_cases hd:(t.keys.any fun p=>p.1==lower x)=true
   ·rw [if_pos hd] at h;cases h
   ·rw [if_neg hd] at h
    by_cases h16:t.keys.length=16
    ·rw [if_pos h16] at h;cases h
    ·rw [if_neg h16] at h;have hty:∀ y∈(ps.takeWhile Xx).map lower,Xx y=true∧lower y=y:=by
      intro y hy
      obtain⟨z,hz,rfl⟩:=List.mem_map.1 hy
      exact⟨by rw [isType_lower];exact takeWhile_mem ps z hz,lower_lower z⟩
     have hok:KeyOK (lower x,value ((ps.takeWhile Xx).map lower)):=⟨by rw [isKey_lower];exact hq,lower_lower x,_,hty,rfl⟩;have hk2:Kt (t.keys++[(lower x,value ((ps.takeWhile Xx).map lower))]):=by
      refine⟨nodup_snoc' hd hk.1,fun p hp=>?_,by have:=hk.2.2;simp;omega⟩
      rcases List.mem_append.1 hp with hp | hp
      ·exact hk.2.1 p hp
      ·rw [List.mem_singleton.1 hp];exact hok
     obtain⟨ks,h1,h2,h3⟩:=keys_fact n _ t' _ h hk2
     refine⟨(lower x,value ((ps.takeWhile Xx).map lower))::ks,?_,?_,?_⟩
     ·rw [h1];simp
     ·simpa using h2
     ·rw [List.flatMap_cons,Zz,Kw]
      have:=sz_take_drop Xx ps
      have h4:=sz_value ((ps.takeWhile Xx).map lower) fun y hy=>(hty y hy).1
      rw [sz_lower] at h4;rw [show kparts (lower x,value ((ps.takeWhile Xx).map lower))=lower x::vparts (value ((ps.takeWhile Xx).map lower)) from rfl,Kw,Kx]
      omega
  ·rw [if_neg hq] at h;cases h
end
section
theorem Kt.nil:Kt []:=⟨by simp,by simp,by simp⟩
theorem VarsOK.nil:VarsOK []:=⟨by simp,by simp,by simp⟩
theorem srtS_perm (l:List Str):(srtS l).Perm l:=List.mergeSort_perm l _
theorem srtS_sorted (l:List Str):(srtS l).Pairwise (fun a b=>decide (a≤b)=true) :=
 List.pairwise_mergeSort (fun a b c h1 h2=>by simp only [decide_eq_true_eq] at *;exact List.le_trans h1 h2) (fun a b=>by simp only [Bool.or_eq_true,decide_eq_true_eq];exact List.le_total _ _) l
theorem srtS_srtS (l:List Str):srtS (srtS l)=srtS l:=List.mergeSort_of_pairwise (srtS_sorted l)
theorem Kt.srt {l:List (Str×Str)}(h:Kt l):Kt (Kh l) :=
 ⟨((srtK_perm l).map _).nodup_iff.2 h.1,fun p hp=>h.2.1 p ((srtK_perm l).mem_iff.1 hp),by rw [(srtK_perm l).length_eq];exact h.2.2⟩
theorem VarsOK.srt {l:List Str}(h:VarsOK l):VarsOK (srtS l) :=
 ⟨(srtS_perm l).nodup_iff.2 h.1,fun p hp=>h.2.1 p ((srtS_perm l).mem_iff.1 hp),by rw [(srtS_perm l).length_eq];exact h.2.2⟩
theorem srtK_srtK {l:List (Str×Str)}(h:Kt l):Kh (Kh l)=Kh l :=
 (srtK_one (Kh l) (Kh l) (List.Perm.refl _) h.srt.1 (srtK_sorted l)).symm
def Zk (ks:List (Str×Str)):List Str:=uPart ks++ks.flatMap kparts
theorem sz_kuParts (ks:List (Str×Str)):sz (Zk ks)≤2+sz (ks.flatMap kparts):=by
 unfold Zk uPart
 split
 ·simp [sz_nil]
 ·rw [Zz,Kw,sz_nil];simp
theorem tail_fact (t t':Tg)(ps:List Str)(h:tailL t ps=some t')(hk:t.keys=[]):∃ ks,t'={ t with vars:=srtS t.vars,keys:=Kh ks }∧Kt ks∧sz (Zk ks)≤sz ps:=by
 cases ps with
 | nil =>
  simp only [tailL,Option.some.injEq] at h
  exact⟨[],by rw [← h,hk];simp [Kh],Kt.nil,by simp [Zk,uPart,sz_nil]⟩
 | cons x ps =>
  simp only [tailL] at h
  by_cases hu:lower x=[117]
  ·rw [if_pos hu] at h
   cases ps with
   | nil=>cases h
   | cons y qs =>
    simp only at h
    by_cases hq:isKey y=true
    ·rw [if_pos hq] at h
     obtain⟨ks,h1,h2,h3⟩:=keys_fact 17 _ t' _ h (by simp only [hk];exact Kt.nil)
     simp only [hk,List.nil_append] at h1 h2;have hx:x.length=1:=by rw [← Kx,hu];rfl
     exact⟨ks,h1,h2,by have:=sz_kuParts ks;rw [Kw,hx];omega⟩
    ·rw [if_neg hq] at h;cases h
  ·rw [if_neg hu] at h;cases h
theorem vars_fact:∀ (n:Nat)(t t':Tg)(ps:List Str),varsL n t ps=some t'→t.keys=[]→VarsOK t.vars →
  ∃ vs ks,t'={ t with vars:=srtS (t.vars++vs),keys:=Kh ks }∧VarsOK (t.vars++vs)∧Kt ks∧sz (vs++Zk ks)≤sz ps
 | 0,t,t',ps,h,_,_=>by simp [varsL] at h
 | n+1,t,t',[],h,hk,hv=>by
  simp only [varsL] at h
  obtain⟨ks,h1,h2,h3⟩:=tail_fact t t' [] h hk
  exact⟨[],ks,by rw [List.append_nil];exact h1,by rw [List.append_nil];exact hv,h2,h3⟩
 | n+1,t,t',x::ps,h,hk,hv=>by
  simp only [varsL] at h
  by_cases hq:Zq x=true
  ·rw [if_pos hq] at h
   by_cases hd:t.vars.contains (lower x)=true
   ·rw [if_pos hd] at h;cases h
   ·rw [if_neg hd] at h
    by_cases h8:t.vars.length=8
    ·rw [if_pos h8] at h;cases h
    ·rw [if_neg h8] at h;have hv2:VarsOK (t.vars++[lower x]):=by
      refine⟨?_,fun p hp=>?_,by have:=hv.2.2;simp;omega⟩
      ·rw [List.nodup_append]
       refine⟨hv.1,by simp,fun a ha b hb=>?_⟩
       rw [List.mem_singleton] at hb;subst hb;rintro rfl;exact hd (List.contains_iff_mem.2 ha)
      ·rcases List.mem_append.1 hp with hp | hp
       ·exact hv.2.1 p hp
       ·rw [List.mem_singleton.1 hp];exact⟨by rw [isVariant_lower];exact hq,lower_lower x⟩
     obtain⟨vs,ks,h1,h2,h3,h4⟩:=vars_fact n _ t' _ h hk hv2
     refine⟨lower x::vs,ks,?_,?_,h3,?_⟩
     ·rw [h1];simp
     ·simpa using h2
     ·rw [List.cons_append,Kw,Kw,Kx];omega
  ·rw [if_neg hq] at h
   obtain⟨ks,h1,h2,h3⟩:=tail_fact t t' (x::ps) h hk
   exact⟨[],ks,by rw [List.append_nil];exact h1,by rw [List.append_nil];exact hv,h2,h3⟩
def opt (s:Str):List Str:=if s=[] then [] else [s]
theorem opt_nil:opt []=[]:=rfl
theorem sz_opt (s:Str):sz (opt s)≤s.length+1:=by
 unfold opt
 split
 ·exact Nat.zero_le _
 ·rw [Kw,sz_nil];simp
theorem region_fact (t t':Tg)(ps:List Str)(h:regionL t ps=some t')(hk:t.keys=[])(hv:t.vars=[])(hr:t.region=[]) :
  ∃ rg vs ks,t'={ t with region:=rg,vars:=srtS vs,keys:=Kh ks }∧(rg=[]∨(Zr rg=true∧Jz rg=rg))∧VarsOK vs∧Kt ks∧sz (opt rg++vs++Zk ks)≤sz ps:=by
 have hnil:∀ ps,varsL 9 t ps=some t'→∃ rg vs ks,t'={ t with region:=rg,vars:=srtS vs,keys:=Kh ks }∧(rg=[]∨(Zr rg=true∧Jz rg=rg))∧VarsOK vs∧Kt ks∧sz (opt rg++vs++Zk ks)≤sz ps:=by
  intro ps h
  obtain⟨vs,ks,h1,h2,h3,h4⟩:=vars_fact 9 t t' ps h hk (by rw [hv];exact VarsOK.nil)
  simp only [hv,List.nil_append] at h1 h2
  exact⟨[],vs,ks,by rw [h1,← hr],Or.inl rfl,h2,h3,by rw [opt_nil];exact h4⟩
 cases ps with
 | nil=>exact hnil [] h
 | cons x ps =>
  simp only [regionL] at h
  by_cases hq:Zr x=true
  ·rw [if_pos hq] at h
   obtain⟨vs,ks,h1,h2,h3,h4⟩:=vars_fact 9 _ t' ps h hk (by simp only [hv];exact VarsOK.nil)
   simp only [hv,List.nil_append] at h1 h2
   refine⟨Jz x,vs,ks,h1,Or.inr ⟨by rw [isRegion_upper];exact hq,upper_upper x⟩,h2,h3,?_⟩
   have:=sz_opt (Jz x)
   rw [upper_length] at this;rw [List.append_assoc,Zz,Kw]
   omega
  ·rw [if_neg hq] at h;exact hnil (x::ps) h
theorem script_fact (t t':Tg)(ps:List Str)(h:scriptL t ps=some t')(hk:t.keys=[])(hv:t.vars=[])(hr:t.region=[])(hs:t.script=[]) :
  ∃ sc rg vs ks,t'={ t with script:=sc,region:=rg,vars:=srtS vs,keys:=Kh ks }∧(sc=[]∨(Zn sc=true∧title sc=sc))∧(rg=[]∨(Zr rg=true∧Jz rg=rg))∧VarsOK vs∧Kt ks∧sz (opt sc++opt rg++vs++Zk ks)≤sz ps:=by
 have hnil:∀ ps,regionL t ps=some t'→∃ sc rg vs ks,t'={ t with script:=sc,region:=rg,vars:=srtS vs,keys:=Kh ks }∧(sc=[]∨(Zn sc=true∧title sc=sc))∧(rg=[]∨(Zr rg=true∧Jz rg=rg))∧VarsOK vs∧Kt ks∧sz (opt sc++opt rg++vs++Zk ks)≤sz ps:=by
  intro ps h
  obtain⟨rg,vs,ks,h1,h2,h3,h4,h5⟩:=region_fact t t' ps h hk hv hr
  exact⟨[],rg,vs,ks,by rw [h1,← hs],Or.inl rfl,h2,h3,h4,by rw [opt_nil];exact h5⟩
 cases ps with
 | nil=>exact hnil [] h
 | cons x ps =>
  simp only [scriptL] at h
  by_cases hq:Zn x=true
  ·rw [if_pos hq] at h
   obtain⟨rg,vs,ks,h1,h2,h3,h4,h5⟩:=region_fact _ t' ps h hk hv hr
   refine⟨title x,rg,vs,ks,h1,Or.inr ⟨by rw [isScript_title];exact hq,title_title x⟩,h2,h3,h4,?_⟩
   have:=sz_opt (title x)
   rw [title_length] at this;rw [List.append_assoc,List.append_assoc,Zz,Kw,← List.append_assoc]
   omega
  ·rw [if_neg hq] at h;exact hnil (x::ps) h
structure Canon (t:Tg):Prop where
 lang:t.lang=[]∨(isLang t.lang=true∧lower t.lang=t.lang∧t.lang≠tUnd)
 script:t.script=[]∨(Zn t.script=true∧title t.script=t.script)
 region:t.region=[]∨(Zr t.region=true∧Jz t.region=t.region)
 vars:VarsOK t.vars
 vsort:srtS t.vars=t.vars
 keys:Kt t.keys
 ksort:Kh t.keys=t.keys
def partsR (t:Tg):List Str:=Kg t.lang::(opt t.script++opt t.region++t.vars++Zk t.keys)
theorem sz_ku_perm {a b:List (Str×Str)}(h:a.Perm b):sz (Zk a)=sz (Zk b):=by
 unfold Zk;rw [Zz,Zz,sz_perm (h.flatMap_right kparts)]
 congr 2
 unfold uPart
 have:=h.length_eq
 by_cases ha:a=[]
 ·subst ha;have hb:b=[]:=List.eq_nil_of_length_eq_zero (by simpa using this.symm);rw [hb]
 ·have hb:b≠[]:=fun e=>ha (List.eq_nil_of_length_eq_zero (by rw [this,e];rfl))
  rw [if_neg ha,if_neg hb]
theorem parse_fact (t:Tg)(ps:List Str)(h:parseL ps=some t):Canon t∧sz (partsR t)≤sz ps:=by
 cases ps with
 | nil=>cases h
 | cons x ps =>
  simp only [parseL] at h
  by_cases hq:isLang x=true
  ·rw [if_pos hq] at h
   obtain⟨sc,rg,vs,ks,h1,h2,h3,h4,h5,h6⟩:=script_fact _ t ps h rfl rfl rfl rfl
   subst h1
   refine⟨⟨?_,h2,h3,h4.srt,srtS_srtS vs,h5.srt,srtK_srtK h5⟩,?_⟩
   ·show langOf x=[]∨_;unfold langOf
    by_cases hu:lower x=tUnd
    ·rw [if_pos hu];exact Or.inl rfl
    ·rw [if_neg hu];exact Or.inr ⟨by rw [isLang_lower];exact hq,lower_lower x,hu⟩
   ·have hl:(Kg (langOf x)).length=x.length:=by
     unfold langOf Kg
     by_cases hu:lower x=tUnd
     ·rw [if_pos hu,if_pos rfl,← hu,Kx]
     ·rw [if_neg hu,if_neg,Kx];intro e;have e2:=congrArg List.length e;rw [Kx] at e2;have e3:=(lang_clean hq).2;simp only [List.length_nil] at e2
      omega
    show sz (Kg (langOf x)::(opt sc++opt rg++srtS vs++Zk (Kh ks)))≤_;rw [Kw,Kw,hl,Zz,Zz,sz_perm (srtS_perm vs),sz_ku_perm (srtK_perm ks)];rw [Zz,Zz] at h6
    omega
  ·rw [if_neg hq] at h;cases h
end
section
def partsK (t:Tg)(ks:List (Str×Str)):List Str:=Kg t.lang::(opt t.script++opt t.region++t.vars++Zk ks)
theorem vparts_ok {v:Str}(h:ValOK v):(∀ x∈vparts v,Xx x=true)∧value ((vparts v).map lower)=v∧(v≠[]→jt (vparts v)=45::v):=by
 obtain⟨ts,h1,rfl⟩:=h
 have hm:ts.map lower=ts:=by
  conv=>rhs;rw [← List.map_id ts]
  exact List.map_congr_left fun x hx=>(h1 x hx).2
 rw [vparts_value ts fun x hx=>(h1 x hx).1]
 by_cases h0:value ts=[]
 ·rw [if_pos h0]
  exact⟨by simp,by rw [h0];decide,fun h=>absurd h0 h⟩
 ·rw [if_neg h0,hm]
  refine⟨fun x hx=>(h1 x hx).1,rfl,fun _=>?_⟩
  rcases value_cases ts with h2 | ⟨h2,h3,h4⟩
  ·exact absurd h2 h0
  ·rw [h2]
   cases ts with
   | nil=>exact absurd rfl h3
   | cons x xs=>rw [join_jt,jt_cons]
theorem jt_pair {p:Str×Str}(h:KeyOK p):jt (Xj p)=jt (kparts p):=by
 unfold Xj kparts
 by_cases h0:p.2=[]
 ·rw [if_pos h0,h0];rfl
 ·rw [if_neg h0,jt_cons,jt_cons,jt_cons,jt_nil,(vparts_ok h.2.2).2.2 h0,List.append_nil]
theorem jt_pairs:∀ (ks:List (Str×Str)),(∀ p∈ks,KeyOK p)→jt (ks.flatMap Xj)=jt (ks.flatMap kparts)
 | [],_=>rfl
 | p::ks,h=>by
  rw [List.flatMap_cons,List.flatMap_cons,jt_append,jt_append,jt_pair (h p (List.mem_cons_self)),jt_pairs ks fun q hq=>h q (List.mem_cons_of_mem _ hq)]
theorem full_vars:∀ (l:List Str),(∀ v∈l,Zq v=true∧lower v=v)→l.filter full=l:=by
 intro l h;refine List.filter_eq_self.2 fun v hv=>?_
 have:=(variant_clean (h v hv).1).2.1
 unfold full
 cases v with
 | nil=>simp at this
 | cons=>rfl
theorem full_opt (s:Str):[s].filter full=opt s:=by
 unfold opt full
 cases s <;> rfl
theorem head_ne (l:Str):Kg l≠[]:=by
 unfold Kg
 split
 ·decide
 ·assumption
theorem write_K (t:Tg)(h:Canon t)(ks:List (Str×Str))(hk:∀ p∈ks,KeyOK p) :
  Lib.join (partsA t ([t.script,t.region]++t.vars)++(uPart ks++ks.flatMap Xj)) [45]=Lib.join (partsK t ks) [45]:=by
 unfold partsA partsK Zk;rw [List.cons_append,join_jt,join_jt]
 congr 1
 rw [List.filter_append,full_vars _ h.vars.2.1,show [t.script,t.region]=[t.script]++[t.region] from rfl,List.filter_append,full_opt,full_opt];simp only [jt_append];rw [jt_pairs ks hk]
theorem write_R (t:Tg)(h:Canon t):Kf t=Lib.join (partsR t) [45]:=write_K t h t.keys h.keys.2.1
theorem clean_opt {s:Str}(h:s=[]∨clean s):∀ q∈opt s,clean q:=by
 intro q hq;unfold opt at hq
 split at hq
 ·simp at hq
 ·rw [List.mem_singleton.1 hq];exact h.resolve_left (by assumption)
theorem clean_kparts {p:Str×Str}(h:KeyOK p):∀ q∈kparts p,clean q:=by
 intro q hq
 rcases List.mem_cons.1 hq with rfl | hq
 ·exact(key_clean h.1).1
 ·exact(type_clean ((vparts_ok h.2.2).1 q hq)).1
theorem clean_K (t:Tg)(h:Canon t)(ks:List (Str×Str))(hk:∀ p∈ks,KeyOK p):∀ q∈partsK t ks,clean q:=by
 intro q hq;unfold partsK Zk at hq
 rcases List.mem_cons.1 hq with rfl | hq
 ·unfold Kg
  by_cases h0:t.lang=[]
  ·rw [if_pos h0];unfold clean;decide
  ·rw [if_neg h0]
   exact(lang_clean (h.lang.resolve_left h0).1).1
 ·simp only [List.mem_append,List.mem_flatMap] at hq
  rcases hq with ((hq | hq) | hq) | (hq | ⟨p,hp,hq⟩)
  ·exact clean_opt (h.script.imp id fun h=>(script_clean h.1).1) q hq
  ·exact clean_opt (h.region.imp id fun h=>(region_clean h.1).1) q hq
  ·exact(variant_clean (h.vars.2.1 q hq).1).1
  ·unfold uPart at hq
   split at hq
   ·simp at hq
   ·rw [List.mem_singleton.1 hq];unfold clean;decide
  ·exact clean_kparts (hk p hp) q hq
theorem key_not_type {l:Str}(h:isKey l=true):Xx l=false:=by
 by_cases ht:Xx l=true
 ·have h1:=(type_clean ht).2.1;have h2:=(key_clean h).2
  omega
 ·simpa using ht
theorem takeWhile_app {p:Str→Bool}(a b:List Str)(ha:∀ x∈a,p x=true)(hb:∀ x∈b.head?,p x=false):(a++b).takeWhile p=a∧(a++b).dropWhile p=b:=by
 induction a with
 | nil =>
  cases b with
  | nil=>exact⟨rfl,rfl⟩
  | cons y b =>
   have:=hb y rfl
   simp [List.takeWhile_cons,List.dropWhile_cons,this]
 | cons x a ih =>
  have h1:=ha x (List.mem_cons_self)
  obtain⟨h2,h3⟩:=ih fun y hy=>ha y (List.mem_cons_of_mem _ hy)
  simp [List.takeWhile_cons,List.dropWhile_cons,h1,h2,h3]
theorem keys_back:∀ (n:Nat)(ks:List (Str×Str))(t:Tg),Kt (t.keys++ks)→17≤n+t.keys.length→keysL n t (ks.flatMap kparts)=some { t with keys:=Kh (t.keys++ks) }
 | 0,ks,t,h,hn=>by have:=h.2.2;simp at this;omega
 | n+1,[],t,h,hn=>by simp [keysL]
 | n+1,p::ks,t,h,hn=>by
  have hp:KeyOK p:=h.2.1 p (by simp);have hty:=vparts_ok hp.2.2;rw [List.flatMap_cons];show keysL (n+1) t (p.1::(vparts p.2++ks.flatMap kparts))=_;have hb:∀ x∈(ks.flatMap kparts).head?,Xx x=false:=by
   cases ks with
   | nil=>simp
   | cons q ks =>
    intro x hx;rw [List.flatMap_cons] at hx
    have:q.1=x:=by simpa [kparts] using hx
    rw [← this];exact key_not_type (h.2.1 q (by simp)).1
  obtain⟨h1,h2⟩:=takeWhile_app (vparts p.2) (ks.flatMap kparts) hty.1 hb
  simp only [keysL];have hd:¬ (t.keys.any fun q=>q.1==lower p.1)=true:=by
   intro hh
   obtain⟨q,hq,he⟩:=List.any_eq_true.1 hh
   rw [hp.2.1] at he;have hn1:=h.1;rw [List.map_append,List.nodup_append] at hn1;exact hn1.2.2 q.1 (List.mem_map.2 ⟨q,hq,rfl⟩) p.1 (by simp) (by simpa using he)
  have hl:=h.2.2;simp only [List.length_append,List.length_cons] at hl;rw [if_pos hp.1,if_neg hd,if_neg (by omega),h1,h2,hty.2.1,hp.2.1];rw [keys_back n ks { t with keys:=t.keys++[(p.1,p.2)] } (by simpa using h) (by simp;omega)]
  simp
theorem tail_back (ks:List (Str×Str))(t:Tg)(hk:t.keys=[])(h:Kt ks):tailL t (Zk ks)=some { t with vars:=srtS t.vars,keys:=Kh ks }:=by
 unfold Zk uPart
 cases ks with
 | nil =>
  rw [if_pos rfl];simp only [List.flatMap_nil,List.append_nil,tailL]
  simp [Kh,hk]
 | cons p ks =>
  rw [if_neg (by simp),List.flatMap_cons];show tailL t ([117]::(p.1::(vparts p.2++ks.flatMap kparts)))=_;simp only [tailL];rw [if_pos (by decide),if_pos (h.2.1 p (List.mem_cons_self)).1]
  have:=keys_back 17 (p::ks) { t with vars:=srtS t.vars } (by simpa [hk] using h) (by simp)
  rw [List.flatMap_cons] at this;refine Eq.trans this ?_
  simp [hk]
theorem ku_head (ks:List (Str×Str)):∀ x∈(Zk ks).head?,x=[117]:=by
 unfold Zk uPart
 cases ks with
 | nil=>simp
 | cons p ks=>intro x hx;rw [if_neg (by simp)] at hx;simpa using hx.symm
theorem vars_skip (n:Nat)(t:Tg)(ps:List Str)(h:∀ x∈ps.head?,Zq x=false):varsL (n+1) t ps=tailL t ps:=by
 cases ps with
 | nil=>rfl
 | cons x ps=>simp only [varsL];rw [if_neg (by rw [h x rfl];decide)]
theorem vars_back:∀ (n:Nat)(vs:List Str)(ks:List (Str×Str))(t:Tg),t.keys=[]→Kt ks→VarsOK (t.vars++vs)→9≤n+t.vars.length →
  varsL n t (vs++Zk ks)=some { t with vars:=srtS (t.vars++vs),keys:=Kh ks }
 | 0,vs,ks,t,_,_,h,hn=>by have:=h.2.2;simp at this;omega
 | n+1,[],ks,t,hk,h,hv,hn=>by
  rw [List.nil_append,vars_skip n t _ (fun x hx=>by rw [ku_head ks x hx];decide),tail_back ks t hk h,List.append_nil]
 | n+1,v::vs,ks,t,hk,h,hv,hn=>by
  have hp:=hv.2.1 v (by simp);have hl:=hv.2.2;simp only [List.length_append,List.length_cons] at hl;have hd:¬ t.vars.contains (lower v)=true:=by
   intro hh;rw [hp.2] at hh;have hn1:=hv.1;rw [List.nodup_append] at hn1;exact hn1.2.2 v (List.contains_iff_mem.1 hh) v (by simp) rfl
  rw [List.cons_append];simp only [varsL];rw [if_pos hp.1,if_neg hd,if_neg (by omega),hp.2];rw [vars_back n vs ks { t with vars:=t.vars++[v] } hk h (by simpa using hv) (by simp;omega)]
  simp
theorem dig_let (c:UInt8):digB c=true→letB c=false:=all_bytes (p:=fun c=>digB c=true→letB c=false) (by decide +kernel) c
theorem variant_not_script {l:Str}(h:Zq l=true):Zn l=false:=by
 by_cases hs:Zn l=true
 ·have h4:=(script_clean hs).2;unfold Zq at h;simp only [Bool.or_eq_true,Bool.and_eq_true] at h
  rcases h with h | h
  ·have:=(mixed_clean h).2.1;omega
  ·exfalso
   cases l with
   | nil=>simp at h4
   | cons c l =>
    have hc:digB c=true:=by have:=h.2;simpa [allB] using this
    unfold Zn lettersB allB at hs;simp only [Bool.and_eq_true,List.all_cons] at hs;rw [dig_let c hc] at hs
    simp at hs
 ·simpa using hs
theorem variant_not_region {l:Str}(h:Zq l=true):Zr l=false:=by
 by_cases hs:Zr l=true
 ·have h4:=(region_clean hs).2
  have:=(variant_clean h).2.1
  omega
 ·simpa using hs
theorem region_not_script {l:Str}(h:Zr l=true):Zn l=false:=by
 by_cases hs:Zn l=true
 ·have h4:=(script_clean hs).2
  have:=(region_clean h).2
  omega
 ·simpa using hs
theorem vk_head (vs : List Str) (ks : List (Str × Str)) : ∀ x ∈ (vs ++ Zk ks).head?, x ∈ vs ∨ x = [117] := by
  cases vs with
  | nil => intro x hx; exact Or.inr (ku_head ks x hx)
  | cons v vs => intro x hx; left; have : v = x := by simpa using hx
                 rw [← this]; simp
theorem region_back (rg:Str)(vs:List Str)(ks:List (Str×Str))(t:Tg)(hr:rg=[]∨(Zr rg=true∧Jz rg=rg))(h0:t.region=[])(h1:t.vars=[])(h2:t.keys=[])(hk:Kt ks)(hv:VarsOK vs) :
  regionL t (opt rg++vs++Zk ks)=some { t with region:=rg,vars:=srtS vs,keys:=Kh ks }:=by
 unfold opt
 by_cases hn:rg=[]
 ·rw [if_pos hn,List.nil_append];have hskip:regionL t (vs++Zk ks)=varsL 9 t (vs++Zk ks):=by
   have hh:=vk_head vs ks
   cases hl:vs++Zk ks with
   | nil=>rfl
   | cons x ps =>
    rw [hl] at hh
    have:Zr x=false:=by
     rcases hh x rfl with h | h
     ·exact variant_not_region (hv.2.1 x h).1
     ·rw [h];decide
    simp only [regionL];rw [if_neg (by rw [this];decide)]
  rw [hskip,vars_back 9 vs ks t h2 hk (by rw [h1];exact hv) (by omega),h1,hn,List.nil_append,← h0]
 ·rw [if_neg hn];have hr2:=hr.resolve_left hn;show regionL t (rg::(vs++Zk ks))=_;simp only [regionL];rw [if_pos hr2.1,hr2.2,vars_back 9 vs ks { t with region:=rg } h2 hk (by simp only [h1];exact hv) (by simp)]
  simp [h1]
theorem script_back (sc rg:Str)(vs:List Str)(ks:List (Str×Str))(t:Tg)(hs:sc=[]∨(Zn sc=true∧title sc=sc))(hr:rg=[]∨(Zr rg=true∧Jz rg=rg))(h3:t.script=[])(h0:t.region=[])(h1:t.vars=[])(h2:t.keys=[])(hk:Kt ks)(hv:VarsOK vs) :
  scriptL t (opt sc++opt rg++vs++Zk ks)=some { t with script:=sc,region:=rg,vars:=srtS vs,keys:=Kh ks }:=by
 by_cases hn:sc=[]
 ·rw [show opt sc=[] by rw [hn];rfl,List.nil_append];have hskip:scriptL t (opt rg++vs++Zk ks)=regionL t (opt rg++vs++Zk ks):=by
   have hh:∀ x∈(opt rg++vs++Zk ks).head?,Zn x=false:=by
    by_cases hg:rg=[]
    ·rw [show opt rg=[] by rw [hg];rfl,List.nil_append];intro x hx
     rcases vk_head vs ks x hx with h | h
     ·exact variant_not_script (hv.2.1 x h).1
     ·rw [h];decide
    ·rw [show opt rg=[rg] by unfold opt;rw [if_neg hg]];intro x hx
     have:rg=x:=by simpa using hx
     rw [← this];exact region_not_script (hr.resolve_left hg).1
   cases hl:opt rg++vs++Zk ks with
   | nil=>rfl
   | cons x ps =>
    rw [hl] at hh;simp only [scriptL];rw [if_neg (by rw [hh x rfl];decide)]
  rw [hskip,region_back rg vs ks t hr h0 h1 h2 hk hv,hn,← h3]
 ·rw [show opt sc=[sc] by unfold opt;rw [if_neg hn]];have hs2:=hs.resolve_left hn;show scriptL t (sc::(opt rg++vs++Zk ks))=_;simp only [scriptL];rw [if_pos hs2.1,hs2.2,region_back rg vs ks { t with script:=sc } hr h0 h1 h2 hk hv]
theorem parts_back (t:Tg)(h:Canon t)(ks:List (Str×Str))(hk:Kt ks):parseL (partsK t ks)=some { t with keys:=Kh ks }:=by
 unfold partsK;simp only [parseL];have hl:isLang (Kg t.lang)=true∧langOf (Kg t.lang)=t.lang:=by
  unfold Kg
  by_cases h0:t.lang=[]
  ·rw [if_pos h0,h0];decide
  ·rw [if_neg h0]
   obtain⟨h1,h2,h3⟩:=h.lang.resolve_left h0
   refine⟨h1,?_⟩
   unfold langOf;rw [h2,if_neg h3]
 rw [if_pos hl.1,hl.2,script_back t.script t.region t.vars ks _ h.script h.region rfl rfl rfl rfl hk h.vars,h.vsort]
end
section
def Fine (x:Res):Prop:=(x.err=0→x.pos=0)∧(x.err≠0→x.tag=Tg.zero)
theorem fine_bad {e:Nat}{r:Rd}(h:e≠0):Fine (bad e r):=⟨fun h2=>absurd h2 h,fun _=>rfl⟩
theorem fine_ok (t:Tg):Fine ⟨t,0,0⟩:=⟨fun _=>rfl,fun h=>absurd rfl h⟩
theorem keys_fine:∀ (n:Nat)(t:Tg)(r:Rd),17≤n+t.keys.length→t.keys.length≤16→Fine (keysF n t r)
 | 0,t,r,hn,hk=>by omega
 | n+1,t,r,hn,hk=>by
  unfold keysF
  split
  ·split
   ·exact fine_bad (by decide)
   ·split
    ·exact fine_bad (by decide)
    ·exact keys_fine n _ _ (by simp;omega) (by simp;omega)
  ·split
   ·exact fine_ok _
   ·exact fine_bad (by decide)
theorem tail_fine (t:Tg)(r:Rd)(hk:t.keys=[]):Fine (tailF t r):=by
 unfold tailF
 split
 ·exact fine_ok _
 ·split
  ·split
   ·exact keys_fine 17 _ _ (by simp) (by simp [hk])
   ·exact fine_bad (by decide)
  ·exact fine_bad (by decide)
theorem vars_fine:∀ (n:Nat)(t:Tg)(r:Rd),9≤n+t.vars.length→t.vars.length≤8→t.keys=[]→Fine (varsF n t r)
 | 0,t,r,hn,hk,_=>by omega
 | n+1,t,r,hn,hk,h0=>by
  unfold varsF
  split
  ·split
   ·exact fine_bad (by decide)
   ·split
    ·exact fine_bad (by decide)
    ·exact vars_fine n _ _ (by simp;omega) (by simp;omega) h0
  ·exact tail_fine t r h0
theorem region_fine (t:Tg)(r:Rd)(h1:t.vars=[])(h2:t.keys=[]):Fine (regionF t r):=by
 unfold regionF
 split
 ·exact vars_fine 9 _ _ (by simp) (by simp [h1]) h2
 ·exact vars_fine 9 _ _ (by omega) (by simp [h1]) h2
theorem script_fine (t:Tg)(r:Rd)(h1:t.vars=[])(h2:t.keys=[]):Fine (scriptF t r):=by
 unfold scriptF
 split
 ·exact region_fine _ _ h1 h2
 ·exact region_fine _ _ h1 h2
theorem parse_fine (s:Str):Fine (Xs s):=by
 unfold Xs
 split
 ·exact⟨fun h=>by simp at h,fun _=>rfl⟩
 ·split
  ·exact fine_ok _
  ·split
   ·exact script_fine _ _ rfl rfl
   ·exact fine_bad (by decide)
structure Good (t:Tg):Prop where
 canon:Canon t
 short:sz (partsR t)≤129
theorem srtK_nil:Kh []=[]:=by simp [Kh]
theorem srtS_nil:srtS []=[]:=by simp [srtS]
theorem canon_zero:Canon Tg.zero:=⟨Or.inl rfl,Or.inl rfl,Or.inl rfl,VarsOK.nil,srtS_nil,Kt.nil,srtK_nil⟩
theorem Good.zero:Good Tg.zero:=⟨canon_zero,by decide⟩
theorem Good.vars {t:Tg}(h:Good t):t.vars.length≤8:=h.canon.vars.2.2
theorem Good.keys {t:Tg}(h:Good t):t.keys.length≤16:=h.canon.keys.2.2
theorem Good.write {t:Tg}(h:Good t):(Kf t).length≤128:=by
 rw [write_R t h.canon]
 have:=h.short
 have h2:=join_sz (Kg t.lang) (opt t.script++opt t.region++t.vars++Zk t.keys);unfold partsR at this ⊢
 omega
theorem Good.bare {t:Tg}(h:Good t):Good (bareT t):=by
 refine⟨⟨h.canon.lang,h.canon.script,h.canon.region,h.canon.vars,h.canon.vsort,Kt.nil,srtK_nil⟩,?_⟩
 have:=h.short
 unfold partsR at this ⊢;show sz (Kg t.lang::(opt t.script++opt t.region++t.vars++Zk []))≤129;rw [Kw,Zz] at *
 have:sz (Zk [])=0:=rfl
 omega
theorem good_of (s:Str)(h:(Xs s).err=0):Good (Xs s).tag:=by
 have h1:=parse_L s;unfold okR at h1;rw [if_pos h] at h1
 by_cases h2:128<s.length
 ·rw [if_pos h2] at h1;cases h1
 ·rw [if_neg h2] at h1
  by_cases h3:lower s=Qv
  ·rw [if_pos h3] at h1;rw [Option.some.inj h1];exact Good.zero
  ·rw [if_neg h3] at h1
   obtain⟨h4,h5⟩:=parse_fact _ _ h1.symm
   refine⟨h4,?_⟩
   by_cases hs:s=[]
   ·subst hs;cases h1
   ·rw [subs_sz s hs] at h5
    omega
theorem not_root (p:Str)(ps:List Str)(h:isLang p=true):¬ lower (Lib.join (p::ps) [45])=Qv:=by
 intro he;rw [join_jt] at he
 cases ps with
 | nil =>
  rw [jt_nil,List.append_nil] at he;have h1:=(lang_clean h).2;have h2:=congrArg List.length he;rw [Kx] at h2
  have:Qv.length=4:=rfl
  omega
 | cons q qs =>
  rw [jt_cons] at he
  have:(45:UInt8)∈lower (p++45::(q++jt qs)):=by
   unfold lower;exact List.mem_map.2 ⟨45,by simp,by decide⟩
  rw [he] at this
  revert this
  decide
theorem good_read (t:Tg)(h:Good t)(ks:List (Str×Str))(hp:ks.Perm t.keys):Xs (Lib.join (partsK t ks) [45])=⟨t,0,0⟩:=by
 have hk:Kt ks:=⟨(hp.map _).nodup_iff.2 h.canon.keys.1,fun p hq=>h.canon.keys.2.1 p (hp.mem_iff.1 hq),by rw [hp.length_eq];exact h.canon.keys.2.2⟩;have h1:=parse_L (Lib.join (partsK t ks) [45]);have h2:=parts_back t h.canon ks hk;have h3:(Rd.first (Lib.join (partsK t ks) [45])).subs=partsK t ks:=subs_join _ _ (head_ne _) (clean_K t h.canon ks hk.2.1);have h4:(Lib.join (partsK t ks) [45]).length≤128:=by
  have h5:=join_sz (Kg t.lang) (opt t.script++opt t.region++t.vars++Zk ks);have h6:=h.short;unfold partsR at h6;unfold partsK;rw [Kw,Zz,sz_ku_perm hp] at h5;rw [Kw,Zz] at h6
  omega
 have h5:¬ lower (Lib.join (partsK t ks) [45])=Qv:=by
  refine not_root _ _ ?_;unfold Kg
  by_cases h0:t.lang=[]
  ·rw [if_pos h0];decide
  ·rw [if_neg h0];exact(h.canon.lang.resolve_left h0).1
 have h6:Kh ks=t.keys:=by
  rw [← h.canon.ksort];have hs:=srtK_sorted t.keys
  exact(srtK_one ks (Kh t.keys) ((srtK_perm _).trans hp.symm) hk.1 hs).symm
 rw [if_neg (by omega),if_neg h5,h3,h2,h6] at h1;have h7:=parse_fine (Lib.join (partsK t ks) [45]);unfold okR at h1
 by_cases he:(Xs (Lib.join (partsK t ks) [45])).err=0
 ·rw [if_pos he] at h1;have h8:=h7.1 he;have h9:=Option.some.inj h1;generalize Xs (Lib.join (partsK t ks) [45])=x at *
  cases x;simp only at *;rw [he,h8,h9]
 ·rw [if_neg he] at h1;cases h1
theorem good_back (t:Tg)(h:Good t):Xs (Kf t)=⟨t,0,0⟩:=by
 rw [write_R t h.canon];exact good_read t h t.keys (List.Perm.refl _)
theorem good_check (t:Tg)(h:Good t):checkF t=0:=by
 unfold checkF;rw [good_back t h,if_neg]
 simp [sameB_refl]
theorem good_name (t:Tg)(h:Good t):nameF t=(nameOf (Kf (bareT t)),0):=by
 unfold nameF;rw [if_pos (good_check t h)];rfl
theorem good_nameRead (t:Tg)(h:Good t):Xs (nameOf (Kf (bareT t)))=⟨bareT t,0,0⟩:=by
 unfold nameOf
 by_cases hu:Kf (bareT t)=tUnd
 ·rw [if_pos hu];have h1:=good_back _ h.bare;have h2:=good_back _ Good.zero;have h3:Kf Tg.zero=tUnd:=by decide
  rw [hu] at h1;rw [h3,h1] at h2;rw [h2]
  rfl
 ·rw [if_neg hu];exact good_back _ h.bare
def Qk (n:Str):Bool:=(Xs n).err==0&&((nameF (Xs n).tag).2==0&&(nameF (Xs n).tag).1==n)
theorem good_named (t:Tg)(h:Good t):Qk (nameOf (Kf (bareT t)))=true:=by
 unfold Qk;rw [good_nameRead t h,good_name _ h.bare]
 simp [bareT]
end
end Go.Proofs.YtbbmdbolkicpcaaGreatDoor
