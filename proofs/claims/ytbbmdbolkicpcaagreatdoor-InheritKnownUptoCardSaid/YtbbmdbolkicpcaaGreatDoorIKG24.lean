/- InhKnown, OpenB -/
import Derived.Test.YtbbmdbolkicpcaaGreatDoorIKG23
import Derived.Deep.RegionHeld3
import Derived.Test.YtbbmdbolkicpcaaGreatDoorRows
import Derived.Test.YtbbmdbolkicpcaaGreatDoorIKG21
set_option maxRecDepth 100000
set_option maxHeartbeats 32000000
set_option linter.unusedVariables false
set_option linter.unusedSimpArgs false
namespace Go.Proofs.YtbbmdbolkicpcaaGreatDoor
section
open Go.RowKit Go.Lib Go.Sort Go.Maps Go.WideMaps
def altQ:Str:=[91,97,108,116,61,113,93]
def fewQ:Str:=[91,99,111,117,110,116,61,102,101,119,93]
def askK (ks:List Str):List Str:=ks.flatMap fun p=>[p++altQ,p++fewQ]
theorem askK_take {ks:List Str}{n:Nat}(hn:n<ks.length):askK (ks.take (n+1))=askK (ks.take n)++[ks[n]'hn++altQ,ks[n]'hn++fewQ]:=by
 unfold askK;rw [List.take_succ_eq_append_getElem hn,List.flatMap_append]
 simp
theorem askK_len (ks:List Str):(askK ks).length=2 * ks.length:=by
 induction ks with
 | nil=>rfl
 | cons p r ih=>unfold askK at ih ⊢;rw [List.flatMap_cons,List.length_append,ih];simp;omega
theorem catK (a b:Str):(⟨a.toArray⟩:ByteArray)++⟨b.toArray⟩=⟨(a++b).toArray⟩:=by
 apply ByteArray.ext
 simp
theorem ext_min (s:Str)(k:Nat):ByteArray.extract ⟨s.toArray⟩ 0 (min (s.length:Int) ((k:Nat):Int)).toNat=⟨(s.take k).toArray⟩:=by
 rw [ext_at]
 congr 2
 rw [List.drop_zero,Nat.sub_zero]
 by_cases h:s.length≤k
 ·rw [show(min (s.length:Int) (k:Int)).toNat=s.length by omega,List.take_of_length_le (by simp),List.take_of_length_le h]
 ·rw [show(min (s.length:Int) (k:Int)).toNat=k by omega]
theorem step_appS {w:World}{ops:Array Oper}{o:Oper}{a:Act}{K:Act→World→Prop}{Q:Exit→Act→World→Prop}{E:Prop}(hgd:o.guard=none)(s x:Operand)
  (ho:o.op=.call { callee:=.builtin .append,args:=#[s,x],argTypes:=#[36,36] })
  (B:Nat)(v:Value)(l m:List Str)(cs:Array Value)(hcs:cs.toList=flatL encT m)(hs:a.eval s=v)(hown:OwnS w B v l)(g:Nat)(hg:w.heap[g]?=some (.cells cs 9 (0,0)))(hx:a.eval x=.slice (some ⟨g,0,none⟩) m.length m.length)(hm:0<m.length)(hl:l.length+m.length≤1000000)(hB:B≤w.heap.size)
  (h:∀ v' w',OwnS w' B v' (l++m)→w.grownBy w' v.ownBlock→K (a.put o.dst v') w') :
  if Region.wanted o (yielded ops a.tmps)=true then Oper.wp Tryz.prog o a w K Q else E:=by
 obtain⟨i0,hi,hz0,hz1,hz2⟩:=info_parts infoS
 refine step_append_lies w hgd s x 36 ho B 9 i0 _ 1 16 Tryz.underlying36 hi hz0 hz1 hz2 rfl (by decide) v l.length (flatL encT l) hs (ownT_S.2 hown) ⟨g,0,none⟩ m.length m.length (flatL encT m) hx (flatL_len encT _) (fun j u hu=>?_) (fun u hu=>?_) (by omega) (by unfold maxLen;omega) (by omega) hB _ rfl ?_
 ·have hadd:((⟨g,0,none⟩:Addr).add j)=⟨g,j,none⟩:=by
   unfold Addr.add
   split
   ·next e=>subst e;rfl
   ·simp
  rw [hadd,cell_of_row _ _ _ _ _ _ hg,← Array.getElem?_toList,hcs];exact hu
 ·obtain⟨y',_,hy⟩:=List.mem_flatMap.1 hu
  exact encT.one y' u hy
 ·intro g2 cap w' own gr _ _;exact h _ w' (ownT_S.1 (own_cast own (by simp) (by rw [flatL_append]))) gr
theorem run_appR (w:World)(ty:TypeId)(B:Nat)(v:Value)(l m:List Str)(hown:OwnS w B v l){u:Value}(hr:RdL encT w u m)(hl:l.length+m.length≤1000000)(hB:B≤w.heap.size) :
  ∃ v' w',(Builtin.append_ #[36,36] ty #[v,u]).run Tryz.prog w=.ok v' w'∧OwnS w' B v' (l++m)∧w.grownBy w' v.ownBlock:=by
 obtain⟨i0,hi,hz0,hz1,hz2⟩:=info_parts infoS
 obtain⟨ao,cp,rfl,⟨h1,h2,h3⟩,hc⟩:=hr
 cases hao:ao with
 | none =>
  subst hao
  obtain⟨rfl,rfl⟩:=h3 rfl
  exact⟨v,w,run_append_owned_none (P:=Tryz.prog) (w:=w) B 36 ty 9 i0 1 Tryz.underlying36 hi v l.length _ (ownT_S.2 hown),by rw [List.append_nil];exact hown,World.grownBy.refl _ _⟩
 | some ad =>
  subst hao
  by_cases hm:m=[]
  ·subst hm
   obtain⟨v',w',hr,own,gr,_⟩:=run_app (P:=Tryz.prog) w B 36 ty 9 i0 _ 1 16 Tryz.underlying36 hi hz0 hz1 hz2 rfl (by decide) v l.length _ (ownT_S.2 hown) ad 0 cp [] (by simp) (fun j u hu=>by simp at hu) (fun u hu=>by cases hu) (by unfold maxLen;omega) (by omega) hB
   exact⟨v',w',hr,by rw [List.append_nil];exact ownT_S.1 (own_cast own rfl (by simp)),gr⟩
  ·obtain⟨b,off,ha,hlt,hcell⟩:=hc hm
   cases ha
   obtain⟨v',w',hr,own,gr,_⟩:=run_app (P:=Tryz.prog) w B 36 ty 9 i0 _ 1 16 Tryz.underlying36 hi hz0 hz1 hz2 rfl (by decide) v l.length _ (ownT_S.2 hown) ⟨b,off,none⟩ m.length cp (flatL encT m) (flatL_len encT m) (fun j u hu=>by
    have hj:j<m.length:=by have:=(List.getElem?_eq_some_iff.1 hu).1;rwa [flatL_len,Nat.mul_one] at this
    have:=hcell j 0 u hj (by rw [← flatL_get encT m j 0 hj (by decide),Nat.mul_one,Nat.add_zero];exact hu)
    have hadd:((⟨b,off,none⟩:Addr).add j)=⟨b,off+j,none⟩:=by
     unfold Addr.add
     split
     ·next e=>subst e;rfl
     ·rfl
    rw [hadd]
    simpa using this) (fun u hu=>by
    obtain⟨y,_,hy⟩:=List.mem_flatMap.1 hu
    exact encT.one y u hy) (by unfold maxLen;omega) (by omega) hB
   exact⟨v',w',hr,ownT_S.1 (own_cast own (by simp) (by rw [flatL_append])),gr⟩
theorem step_appR {w:World}{ops:Array Oper}{o:Oper}{a:Act}{K:Act→World→Prop}{Q:Exit→Act→World→Prop}{E:Prop}(hgd:o.guard=none)(s x:Operand)
  (ho:o.op=.call { callee:=.builtin .append,args:=#[s,x],argTypes:=#[36,36] })
  (B:Nat)(v u:Value)(l m:List Str)(hs:a.eval s=v)(hx:a.eval x=u)(hown:OwnS w B v l)(hr:RdL encT w u m)(hl:l.length+m.length≤1000000)(hB:B≤w.heap.size)
  (h:∀ v' w',OwnS w' B v' (l++m)→w.grownBy w' v.ownBlock→K (a.put o.dst v') w') :
  if Region.wanted o (yielded ops a.tmps)=true then Oper.wp Tryz.prog o a w K Q else E:=by
 have hw:Region.wanted o (yielded ops a.tmps)=true:=by simp [Region.wanted,hgd]
 rw [if_pos hw]
 obtain⟨v',w',hr,h2,h3⟩:=run_appR w o.type B v l m hown hr hl hB
 unfold Oper.wp execOp;simp only [ho,resolve,invoke,builtin,Sem.run_bind,Sem.run_pure,Result.andThen_ok,List.map_toArray,List.map_cons,List.map_nil,hs,hx,hr];exact h v' w' h2 h3
theorem first_take {R:Rsv}{l:Str}:∀ {ps:List Str}{n:Nat}(hn:n<ps.length),firstD R l (ps.take (n+1))=match firstD R l (ps.take n) with | some v=>some v | none=>directF R l (ps[n]'hn)
 | p::r,0,_=>by
  show firstD R l [p]=_;simp only [List.take_zero,firstD,List.getElem_cons_zero]
  cases directF R l p <;> rfl
 | p::r,n+1,h=>by
  rw [List.take_succ_cons,List.take_succ_cons,firstD,firstD]
  cases directF R l p with
  | some v=>rfl
  | none=>exact first_take (ps:=r) (by simpa using h)
theorem known14_any (w:World)(l:List Dc)(v:Value)(loc path:Str)(hd:RdD w v l)(hs:SzL l)(hv:SzV l)(hloc:loc.length≤maxLen)(hpath:path.length≤maxLen)(hT:TabsB w.heap.size w) :
  Calls Tryz.prog 5 #[v,.string ⟨loc.toArray⟩,.string ⟨path.toArray⟩] w fun e w'=>e=.returned (.bool true)∧Below w.heap.size w w':=by
 have HT:=hid (fun W (h:Below w.heap.size w W)=>(show TabsB W.heap.size W from⟨(hT.below h).1,Nat.lt_of_lt_of_le hT.2.1 h.size,Nat.lt_of_lt_of_le hT.2.2 h.size⟩));have HD:=hid hd;have HSZ:=hid hs;have HSV:=hid hv;have HL40:=hid (show(loc.take 40).length≤maxLen by rw [List.length_take];omega);have HP6:=hid (show(path.take 600).length≤maxLen by rw [List.length_take];omega);have HE40:=hid (ext_min loc 40);have HE600:=hid (ext_min path 600);clear hd hs hv hloc hpath hT
 go_enter Tryz.func5,Tryz.ntmps5
 go_wp2_with fail
 refine(w14wakes_gen w (HT.out _ (Below.refl _ _))).mono ?_
 rintro e w1 ⟨rfl,hb1⟩;have RSV:=hid (resolver_any w1 l v (HD.out.bel hb1) HSZ.out HSV.out (HT.out _ hb1));have B1:=hid hb1;clear hb1 HD HT;go_wp2_with fail;refine RSV.out.mono ?_;rintro e w2 ⟨hb2,hx⟩;have B2:=hid (B1.out.then hb2);clear hb2 B1 RSV
 rcases hx with ⟨rfl,_⟩ | ⟨vr,C,R,rfl,hrs,hri⟩
 ·go_wp2_with fail;exact bodyPost_ret (v:=.bool true) (by simp [results,Tryz.results5,go_sem]) rfl ⟨rfl,B2.out⟩
 ·obtain⟨b,Bt,vc,va,km,nk,rfl,hbx,htb,_⟩:=id hrs
  have RS2:=hid hrs;have T2:=hid htb;have FIT:=hid hri.fit;have TAB:=hid (fun W (h:Below w2.heap.size w2 W)=>rtable_any W b Bt vc va km (bk h hbx));have HNZ:=hid (hri.names (sz_cut14 HSZ.out));have HK6:=hid (show(srtT R.known).length≤600 by unfold srtT;rw [List.length_mergeSort];exact hri.k600);clear hrs hri hbx htb HSZ HSV;have LOC:=hid (fun W (h:Below w2.heap.size w2 W)=>(T2.out.below h).locales FIT.out.fit.ok);have KN:=hid (known_any RS2.out FIT.out.ok);have DI:=hid (fun W (h:Below w2.heap.size w2 W) s p (hs:s.length≤maxLen) (hp:p.length≤maxLen)=>direct_any (RS2.out.below h) FIT.out.ok s p hs hp (by have:=FIT.out.als;omega) (by have:=FIT.out.parLen;omega) FIT.out.sza);have VA:=hid (fun W (h:Below w2.heap.size w2 W) s p (hs:s.length≤maxLen) (hp:p.length≤maxLen)=>value_any (RS2.out.below h) FIT.out.ok s p hs hp (by have:=FIT.out.als;omega) (by have:=FIT.out.parLen;omega) FIT.out.sza);have SW:=hid (fun W p (hp:p.length≤maxLen)=>sideways_any W p hp);have HAS:=hid (fun W v l (s:Str) (h:RdS W v l) (hl:l.length≤1000000)=>has14_any W v l s h hl);have HLN:=hid (show(srtT R.t.names).length≤512 by unfold srtT;rw [List.length_mergeSort];exact FIT.out.fit.ok.n512);have HKP:=hid (show ∀ p∈srtT R.known,p.length≤512 from fun p hp=>by
   have h1:=(srtT_perm _).mem_iff.1 hp;exact path_len (Gen.path (fun q hq=>by
    obtain⟨s,_,h⟩:=(FIT.out.fit.base q).1 hq
    obtain⟨r,hr⟩:=Option.isSome_iff_exists.1 (path_has h)
    obtain⟨h2,_,h3⟩:=findR_some hr
    rw [← h3];exact FIT.out.fit.paths _ (FIT.out.fit.ok.rp r h2)) (FIT.out.ok.known.gen p h1)))
  have HDK:=hid (show ∀ s p x,s≠[]→directF R s p=some x→(srtT R.known).contains p=true from fun s p x h1 h2=>by
   rw [List.contains_iff_mem]
   exact(srtT_perm _).mem_iff.2 (direct_known FIT.out.ok h1 h2))
  have HVF:=hid (fun s p (h:s≠[])=>value_first FIT.out.ok (l:=s) (p:=p) h);have HVN:=hid (show ∀ p,valueF R [] p=directF R [] p from fun p=>value_nil);go_wp2_with fail;refine KN.out.mono ?_;rintro e w3 ⟨vk,rfl,ok3,hb3⟩;have OK3:=hid ok3;have B3:=hid hb3
  obtain⟨ak,ck,rfl⟩:=own_sliceS ok3
  clear ok3 hb3 KN;generalize srtT R.t.names=ns at *;generalize srtT R.known=ks at *
  obtain⟨L1,hL1⟩:∃ L1,L1=ns++[[101,110,45,71,66],loc.take 40]:=⟨_,rfl⟩
  have HL1:=hid hL1;have HLL:=hid (show L1.length=ns.length+2 by rw [hL1];simp);have HZ1:=hid (show ∀ s∈L1,s.length≤maxLen by
   rw [hL1];intro s h
   rcases List.mem_append.1 h with h | h
   ·exact HNZ.out s h
   ·simp only [List.mem_cons,List.not_mem_nil,or_false] at h
    rcases h with rfl | rfl
    ·simp [maxLen]
    ·exact HL40.out)
  clear hL1;go_upto_region 7 with fail;have hm1:(0:Int)≤min (loc.length:Int) 40:=by omega
  have hm2:min (loc.length:Int) 40≤(loc.length:Int):=by omega
  have hS0:Below w3.heap.size w3 w3.drew:=(Below.refl _ _).drew
  go_cut [9] from 35 to 44 (fun v9 wx=>∃ a c,v9=.slice a L1.length c∧OwnS wx w3.heap.size (.slice a L1.length c) L1∧Below w3.heap.size w3 wx)
  case first =>
   obtain⟨cs,hcs⟩:∃ cs:Array Value,cs=#[.string ⟨#[101,110,45,71,66]⟩,.string (ByteArray.extract ⟨loc.toArray⟩ 0 (min (loc.length:Int) 40).toNat)]:=⟨_,rfl⟩
   have HCS:=hid (show cs.toList=flatL encT [[101,110,45,71,66],loc.take 40] from by rw [hcs,show ByteArray.extract ⟨loc.toArray⟩ 0 (min (loc.length:Int) 40).toNat=⟨(loc.take 40).toArray⟩ from HE40.out];rfl);have HL1':=hid (show L1=ns++[[101,110,45,71,66],loc.take 40] from HL1.out);subst hcs
   go_region_held3 (fun W=>Below w3.heap.size w3 W) (first | with_reducible assumption | exact Below.alloc (by with_reducible assumption) (Below.size (by with_reducible assumption)) _ | go_keep) (first
    | (go_at_call 15;refine(TAB.out _ (B3.out.then (by assumption))).mono ?_;rintro e wT ⟨rfl,rfl⟩)
    | (go_at_call 17;refine(LOC.out _ (B3.out.then (by assumption))).mono ?_;rintro e wL ⟨vL,rfl,oL,bL⟩;have hSL:Below w3.heap.size w3 wL:=Below.then (by assumption) bL;obtain⟨aL,cL,rfl⟩:=own_sliceS oL)
    | (refine step_appS rfl (.tmp 37) (.tmp 43) rfl w3.heap.size (.slice aL ns.length cL) ns [[101,110,45,71,66],loc.take 40] _ HCS.out (by exact rfl) (own_below (ownS_mono oL (by first | exact Nat.le_refl _ | simp)) (bal _ _)) wL.heap.size (heap_alloc_new _ _) rfl (by simp) (by have:=HLN.out;simp;omega) (Nat.le_trans hSL.size (by simp)) ?_;intro v8 w8 own8 gr8;have HO8:=hid (show OwnS w8 w3.heap.size v8 L1 by rw [HL1'.out];exact own8);have hS8:Below w3.heap.size w3 w8:=((hSL.alloc hSL.size _).grown gr8 (Nat.le_trans hSL.size (by simp)) (fun k hk=>Nat.le_trans (by first | exact Nat.le_refl _ | simp) (World.ownsRow.lt oL k hk).1));clear own8 gr8)
    | (refine step_appS rfl (.tmp 37) (.tmp 43) rfl w3.heap.size (.slice aL ns.length cL) ns [[101,110,45,71,66],loc.take 40] _ HCS.out (by exact rfl) (ownS_mono oL (by simp)) w3.heap.size ((bL.block _ (by simp)).trans (heap_alloc_new _ _)) rfl (by simp) (by have:=HLN.out;simp;omega) hSL.size ?_;intro v8 w8 own8 gr8;have HO8:=hid (show OwnS w8 w3.heap.size v8 L1 by rw [HL1'.out];exact own8);have hS8:Below w3.heap.size w3 w8:=(hSL.grown gr8 hSL.size (fun k hk=>Nat.le_trans (by simp) (World.ownsRow.lt oL k hk).1));clear own8 gr8))
   all_goals
    obtain⟨a9,c9,rfl⟩:=own_sliceS HO8.out
    go_wp2_with fail
    go_meet
    exact⟨a9,c9,rfl,HO8.out,hS8⟩
  case rest =>
   obtain⟨a9,c9,rfl,o9,b9⟩:=hcut
   have O9:=hid o9;have B9:=hid (B3.out.then b9);have RKc:=hid (show RdL encT wc (.slice ak ks.length ck) ks from(ownT_S.2 OK3.out).rd.below b9);have b9':=b9;clear o9 b9 hm1 hm2 hS0
   obtain⟨L2,hL2⟩:∃ L2,L2=ks++[path.take 600]:=⟨_,rfl⟩
   have HL2:=hid hL2;clear hL2;have hm1:(0:Int)≤min (path.length:Int) 600:=by omega
   have hm2:min (path.length:Int) 600≤(path.length:Int):=by omega
   have hS0:Below wc.heap.size wc wc.drew:=(Below.refl _ _).drew;go_upto_region 8 with fail
   go_cut [10] from 45 to 54 (fun v10 wx=>∃ a c,v10=.slice a L2.length c∧OwnS wx wc.heap.size (.slice a L2.length c) L2∧Below wc.heap.size wc wx)
   case first =>
    have HRW:=hid (fun(W:World)=>(show RdL encT (W.alloc (.cells #[.string (ByteArray.extract ⟨path.toArray⟩ 0 (min (path.length:Int) 600).toNat)] 9)) (.slice (some ⟨W.heap.size,0,none⟩) 1 1) [path.take 600] from by
     rw [show ByteArray.extract ⟨path.toArray⟩ 0 (min (path.length:Int) 600).toNat=⟨(path.take 600).toArray⟩ from HE600.out];exact RdL.of_row (l:=[path.take 600]) (cp:=1) encT (heap_alloc_new W _) rfl (by simp) (by simp)))
    have HFR:=hid (fun(W:World) (h:wc.heap.size≤W.heap.size)=>(show OwnS (W.alloc (.cells #[] 9)) wc.heap.size (.slice (some ⟨W.heap.size,0,none⟩) 0 0) [] from ownT_S.1 (own_fresh encT [] (heap_alloc_new W _) rfl h (by simp [maxLen]))));have HFR2:=hid (fun(o:Obj)=>(show OwnS ((wc.alloc o).alloc (.cells #[] 9)) wc.heap.size (.slice (some ⟨wc.heap.size+1,0,none⟩) 0 0) [] from by
     have h:=HFR.out (wc.alloc o) (by simp)
     rwa [show(wc.alloc o).heap.size=wc.heap.size+1 by simp] at h))
    have HRK:=hid (fun(W W7:World) (g i:Nat) (h:W.heap[i]?=some (.cells #[.string (ByteArray.extract ⟨path.toArray⟩ 0 (min (path.length:Int) 600).toNat)] 9 (0,0))) (gr:W.grownBy W7 (some g)) (hne:i≠g)=>(show RdL encT W7 (.slice (some ⟨i,0,none⟩) 1 1) [path.take 600] from by
     have h2:=(gr.block i (lt_of_block h) (fun e=>hne (Option.some.inj e))).trans h;rw [show ByteArray.extract ⟨path.toArray⟩ 0 (min (path.length:Int) 600).toNat=⟨(path.take 600).toArray⟩ from HE600.out] at h2;exact RdL.of_row (l:=[path.take 600]) (cp:=1) encT h2 rfl (by simp) (by simp)))
    have HSB:=hid (fun(o1 o2:Obj)=>(show Below wc.heap.size wc ((wc.alloc o1).alloc o2).drew from((bal _ _).alloc (by simp) _).drew));have HLE:=hid (show ks.length+[path.take 600].length≤1000000 by have:=HK6.out;simp;omega);have HLE0:=hid (show([]:List Str).length+ks.length≤1000000 by have:=HK6.out;simp;omega);have HGB:=hid (fun(W W7:World) (g:Nat) (gr:W.grownBy W7 (some g)) (h:Below wc.heap.size wc W) (hg:wc.heap.size≤g)=>(show Below wc.heap.size wc W7 from h.grown gr h.size (fun k hk=>by cases hk;exact hg)));have HL2':=hid (show([]++ks)++[path.take 600]=L2 from by rw [HL2.out];rfl);have HA0:=hid (show Below wc.heap.size wc (World.alloc wc (.cells #[] 9)).drew from(bal _ _).drew);have HA1:=hid (show OwnS (World.alloc wc (.cells #[] 9)).drew wc.heap.size (.slice (some ⟨wc.heap.size,0,none⟩) 0 0) [] from HFR.out wc (Nat.le_refl _));have HA2:=hid (show RdL encT (World.alloc wc (.cells #[] 9)).drew (.slice ak ks.length ck) ks from RKc.out.below HA0.out);have HA3:=hid (show wc.heap.size≤(World.alloc wc (.cells #[] 9)).drew.heap.size from HA0.out.size);have HB0:=hid (show Below wc.heap.size wc (World.alloc (World.alloc wc (.cells #[] 9)) (.cells #[.string (ByteArray.extract ⟨path.toArray⟩ 0 (min (path.length:Int) 600).toNat)] 9)).drew from HSB.out _ _);have HB1:=hid (show OwnS (World.alloc (World.alloc wc (.cells #[] 9)) (.cells #[.string (ByteArray.extract ⟨path.toArray⟩ 0 (min (path.length:Int) 600).toNat)] 9)).drew wc.heap.size (.slice (some ⟨wc.heap.size,0,none⟩) 0 0) [] from own_below (HFR.out wc (Nat.le_refl _)) (bal _ _).drew);have HB2:=hid (show RdL encT (World.alloc (World.alloc wc (.cells #[] 9)) (.cells #[.string (ByteArray.extract ⟨path.toArray⟩ 0 (min (path.length:Int) 600).toNat)] 9)).drew (.slice ak ks.length ck) ks from RKc.out.below HB0.out);have HB3:=hid (show wc.heap.size≤(World.alloc (World.alloc wc (.cells #[] 9)) (.cells #[.string (ByteArray.extract ⟨path.toArray⟩ 0 (min (path.length:Int) 600).toNat)] 9)).drew.heap.size from HB0.out.size);have HC0:=hid (show Below wc.heap.size wc (World.alloc (World.alloc wc (.cells #[.string (ByteArray.extract ⟨path.toArray⟩ 0 (min (path.length:Int) 600).toNat)] 9)) (.cells #[] 9)).drew from HSB.out _ _);have HC1:=hid (show OwnS (World.alloc (World.alloc wc (.cells #[.string (ByteArray.extract ⟨path.toArray⟩ 0 (min (path.length:Int) 600).toNat)] 9)) (.cells #[] 9)).drew wc.heap.size (.slice (some ⟨wc.heap.size+1,0,none⟩) 0 0) [] from HFR2.out _);have HC2:=hid (show RdL encT (World.alloc (World.alloc wc (.cells #[.string (ByteArray.extract ⟨path.toArray⟩ 0 (min (path.length:Int) 600).toNat)] 9)) (.cells #[] 9)).drew (.slice ak ks.length ck) ks from RKc.out.below HC0.out);have HC3:=hid (show wc.heap.size≤(World.alloc (World.alloc wc (.cells #[.string (ByteArray.extract ⟨path.toArray⟩ 0 (min (path.length:Int) 600).toNat)] 9)) (.cells #[] 9)).drew.heap.size from HC0.out.size);have HB4:=hid (show(World.alloc (World.alloc wc (.cells #[] 9)) (.cells #[.string (ByteArray.extract ⟨path.toArray⟩ 0 (min (path.length:Int) 600).toNat)] 9)).drew.heap[wc.heap.size+1]?=some (.cells #[.string (ByteArray.extract ⟨path.toArray⟩ 0 (min (path.length:Int) 600).toNat)] 9 (0,0)) from by have h:=heap_alloc_new (wc.alloc (.cells #[] 9)) (.cells #[.string (ByteArray.extract ⟨path.toArray⟩ 0 (min (path.length:Int) 600).toNat)] 9);rwa [show(wc.alloc (.cells #[] 9)).heap.size=wc.heap.size+1 by simp] at h);have HC4:=hid (show(World.alloc (World.alloc wc (.cells #[.string (ByteArray.extract ⟨path.toArray⟩ 0 (min (path.length:Int) 600).toNat)] 9)) (.cells #[] 9)).drew.heap[wc.heap.size]?=some (.cells #[.string (ByteArray.extract ⟨path.toArray⟩ 0 (min (path.length:Int) 600).toNat)] 9 (0,0)) from(heap_alloc_old _ _ (by simp)).trans (heap_alloc_new _ _))
    go_region_held3 (fun W=>Below wc.heap.size wc W) (first | with_reducible assumption | exact Below.alloc (by with_reducible assumption) (Below.size (by with_reducible assumption)) _ | go_keep) (first
     | (refine step_appR (w:=(World.alloc wc (.cells #[] 9)).drew) rfl (.tmp 45) (.tmp 46) rfl wc.heap.size (.slice (some ⟨wc.heap.size,0,none⟩) 0 0) (.slice ak ks.length ck) [] ks rfl rfl HA1.out HA2.out HLE0.out HA3.out ?_;intro v7 w7 own7 gr7;have hS7:Below wc.heap.size wc w7:=HGB.out _ _ _ gr7 HA0.out (Nat.le_refl _);obtain⟨a7,c7,rfl⟩:=own_sliceS own7)
     | (refine step_appR (w:=(World.alloc (World.alloc wc (.cells #[] 9)) (.cells #[.string (ByteArray.extract ⟨path.toArray⟩ 0 (min (path.length:Int) 600).toNat)] 9)).drew) rfl (.tmp 45) (.tmp 46) rfl wc.heap.size (.slice (some ⟨wc.heap.size,0,none⟩) 0 0) (.slice ak ks.length ck) [] ks rfl rfl HB1.out HB2.out HLE0.out HB3.out ?_;intro v7 w7 own7 gr7;have hS7:Below wc.heap.size wc w7:=HGB.out _ _ _ gr7 HB0.out (Nat.le_refl _);have HR7:=hid (HRK.out _ _ wc.heap.size (wc.heap.size+1) HB4.out gr7 (by omega));obtain⟨a7,c7,rfl⟩:=own_sliceS own7)
     | (refine step_appR (w:=(World.alloc (World.alloc wc (.cells #[.string (ByteArray.extract ⟨path.toArray⟩ 0 (min (path.length:Int) 600).toNat)] 9)) (.cells #[] 9)).drew) rfl (.tmp 45) (.tmp 46) rfl wc.heap.size (.slice (some ⟨wc.heap.size+1,0,none⟩) 0 0) (.slice ak ks.length ck) [] ks rfl rfl HC1.out HC2.out HLE0.out HC3.out ?_;intro v7 w7 own7 gr7;have hS7:Below wc.heap.size wc w7:=HGB.out _ _ _ gr7 HC0.out (Nat.le_succ _);have HR7:=hid (HRK.out _ _ (wc.heap.size+1) wc.heap.size HC4.out gr7 (by omega));obtain⟨a7,c7,rfl⟩:=own_sliceS own7)
     | (refine step_appR rfl (.tmp 47) (.tmp 53) rfl wc.heap.size _ _ ([]++ks) [path.take 600] (by exact rfl) (by exact rfl) (own_below own7 (bal _ _)) (HRW.out _) (by simpa using HLE.out) (Nat.le_trans hS7.size (by simp)) ?_;intro v10 w10 own10 gr10;have HO10:=hid (show OwnS w10 wc.heap.size v10 L2 by rw [← HL2'.out];exact own10);have hS10:Below wc.heap.size wc w10:=(hS7.alloc hS7.size _).grown gr10 (Nat.le_trans hS7.size (by simp)) (fun k hk=>(World.ownsRow.lt own7 k hk).1))
     | (refine step_appR rfl (.tmp 47) (.tmp 53) rfl wc.heap.size _ _ ([]++ks) [path.take 600] (by exact rfl) (by exact rfl) own7 HR7.out (by simpa using HLE.out) hS7.size ?_;intro v10 w10 own10 gr10;have HO10:=hid (show OwnS w10 wc.heap.size v10 L2 by rw [← HL2'.out];exact own10);have hS10:Below wc.heap.size wc w10:=hS7.grown gr10 hS7.size (fun k hk=>(World.ownsRow.lt own7 k hk).1)))
    all_goals
     obtain⟨a10,c10,rfl⟩:=own_sliceS HO10.out
     go_wp2_with fail
     go_meet
     exact⟨a10,c10,rfl,HO10.out,hS10⟩
   case rest =>
    obtain⟨a10,c10,rfl,o10,b10⟩:=hcut
    rename World=>wd
    have O10:=hid o10;have B10:=hid b10;have HKO:=hid (fun W (h:Below wc.heap.size wc W)=>(show OwnS W _ (.slice ak ks.length ck) ks from own_below (own_below OK3.out b9') h));clear o10 b10 hm1 hm2 hS0
    obtain⟨L3,hL3⟩:∃ L3,L3=L2++askK ks:=⟨_,rfl⟩
    have HL3:=hid hL3;have HLZ:=hid (show L2.length≤601 from by rw [HL2.out];have:=HK6.out;simp;omega);have HLY:=hid (show L3.length≤1801 from by rw [hL3,List.length_append,askK_len];have:=HK6.out;have:=HLZ.out;omega);have HPZ:=hid (show ∀ p∈L3,p.length≤maxLen from fun p hp=>by
     rw [HL3.out,HL2.out] at hp
     rcases List.mem_append.1 hp with hp | hp
     ·rcases List.mem_append.1 hp with hp | hp
      ·have:=HKP.out p hp;unfold maxLen;omega
      ·rw [List.mem_singleton.1 hp];exact HP6.out
     ·unfold askK at hp
      obtain⟨q,hq,hp⟩:=List.mem_flatMap.1 hp
      have:=HKP.out q hq
      simp only [List.mem_cons,List.not_mem_nil,or_false] at hp
      rcases hp with rfl | rfl
      ·rw [List.length_append];simp [altQ,maxLen];omega
      ·rw [List.length_append];simp [fewQ,maxLen];omega)
    clear hL3;go_upto_region 10 with fail
    go_loopg [10,57] ks.length (fun g v10 v57 W=>∃ k:Nat,k≤ks.length∧ks.length≤k+g∧v57=.int .i64 k∧OwnS W wc.heap.size v10 (L2++askK (ks.take k))∧Below wc.heap.size wc W)
    case atStart=>exact⟨0,Nat.zero_le _,by omega,rfl,by rw [List.take_zero];simpa [askK] using O10.out,B10.out⟩
    case round =>
     obtain⟨k,hk,hg,rfl,ho,hb⟩:=hrel
     rename World=>we
     have HG:=hid hg;have HO:=hid ho;have HB:=hid hb;clear hg ho hb
     by_cases hlt:k<ks.length
     ·obtain⟨ap,cp,rfl⟩:=own_sliceS HO.out
      have hki:(k:Int)<(ks.length:Int):=by omega
      have hk0:(0:Int)≤(k:Int):=by omega
      have hkz:(ks.length:Int)≤600:=by have:=HK6.out;omega
      have hso:=ownT_S.2 (HKO.out we HB.out)
      obtain⟨gk',rfl⟩:=OwnL.some' hso (by intro e;rw [e] at hlt;simp at hlt)
      obtain⟨r0,_,gl⟩:=hso.cell k 0 (.string ⟨(ks[k]'hlt).toArray⟩) hlt rfl
      rw [Nat.mul_one,Nat.add_zero] at r0;have HTK:=hid (askK_take hlt);have HPL:=hid (HKP.out _ (List.getElem_mem hlt));generalize ks[k]'hlt=p at *;clear hso;have hpz:(p.length:Int)≤512:=by have:=HPL.out;omega
      have hps:(⟨p.toArray⟩:ByteArray).size=p.length:=Lib.size_eq _;have HRw:=hid (show RdL encT (we.alloc (.cells #[.string (⟨p.toArray⟩++⟨#[91,97,108,116,61,113,93]⟩),.string (⟨p.toArray⟩++⟨#[91,99,111,117,110,116,61,102,101,119,93]⟩)] 9)) (.slice (some ⟨we.heap.size,0,none⟩) 2 2) [p++altQ,p++fewQ] from by
       have e1:(⟨p.toArray⟩:ByteArray)++⟨#[91,97,108,116,61,113,93]⟩=⟨(p++altQ).toArray⟩:=catK p altQ;have e2:(⟨p.toArray⟩:ByteArray)++⟨#[91,99,111,117,110,116,61,102,101,119,93]⟩=⟨(p++fewQ).toArray⟩:=catK p fewQ;rw [e1,e2];exact RdL.of_row (l:=[p++altQ,p++fewQ]) (cp:=2) encT (heap_alloc_new we _) rfl (by simp) (by simp))
      have HOw:=hid (ownT_S.2 (own_below HO.out (bal we (.cells #[.string (⟨p.toArray⟩++⟨#[91,97,108,116,61,113,93]⟩),.string (⟨p.toArray⟩++⟨#[91,99,111,117,110,116,61,102,101,119,93]⟩)] 9))));have HBw:=hid (HB.out.alloc HB.out.size (.cells #[.string (⟨p.toArray⟩++⟨#[91,97,108,116,61,113,93]⟩),.string (⟨p.toArray⟩++⟨#[91,99,111,117,110,116,61,102,101,119,93]⟩)] 9));have HBz:=hid HBw.out.size;have HLX:=hid (show(L2++askK (ks.take k)).length≤1801 from by rw [List.length_append,askK_len,List.length_take];have:=HLZ.out;have:=HK6.out;omega)
      go_wp2_with (at_builtin;refine wpList_appL (E:=encT) rfl (.tmp 61) (.tmp 66) rfl Tryz.underlying36 infoS rfl (by decide) wc.heap.size _ (L2++askK (ks.take k)) [p++altQ,p++fewQ] rfl HOw.out rfl HRw.out (by have:=HLX.out;unfold maxLen;simp only [List.length_cons,List.length_nil];omega) (by have:=HLX.out;simp only [List.length_cons,List.length_nil];omega) HBz.out ?_;intro vb wb own gr;have Ob:=hid (show OwnS wb wc.heap.size vb (L2++askK (ks.take (k+1))) by rw [HTK.out,← List.append_assoc];exact ownT_S.1 own);have Bb:=hid (HBw.out.grown gr HBz.out (fun k hk=>(World.ownsRow.lt HOw.out k hk).1));clear own gr;obtain⟨ab,cb,rfl⟩:=own_sliceS Ob.out)
      go_roundg (gk - 1)
      case measure=>have:=HG.out;omega
      case rel=>exact⟨k+1,by omega,by have:=HG.out;omega,by simp,by have h:=Ob.out;rwa [List.length_append] at h,Bb.out⟩
     ·have hki:¬ (k:Int)<(ks.length:Int):=by omega
      have ho3:OwnS we wc.heap.size u10 L3:=by
       have h:=HO.out;rw [List.take_of_length_le (by omega),← HL3.out] at h;exact h
      obtain⟨ap,cp,rfl⟩:=own_sliceS ho3
      have O3:=hid ho3;have Be:=hid HB.out;have OL1:=hid (show OwnS we w3.heap.size (.slice a9 L1.length c9) L1 from own_below O9.out HB.out);have HBE:=hid (show ∀ W,Below we.heap.size we W→Below w2.heap.size w2 W from fun W h=>B9.out.then (Be.out.then h));have RK:=hid (show ∀ W,Below we.heap.size we W→RdS W (.slice ak ks.length ck) ks from fun W h=>(HKO.out W (Be.out.then h)).rd);have hL1z:(L1.length:Int)≤9223372036854775807:=by have:=HLL.out;have:=HLN.out;omega
      have hL3z:(L3.length:Int)≤9223372036854775807:=by have:=HLY.out;omega
      clear ho3 HO HB;go_wp2_with fail
      go_loopg [71] L1.length (fun g v71 W=>∃ n:Nat,n≤L1.length∧L1.length≤n+g∧v71=.int .i64 n∧Below we.heap.size we W)
      case atStart=>exact⟨0,Nat.zero_le _,by omega,rfl,Below.refl _ _⟩
      case round =>
       obtain⟨n,hn,hg,rfl,hb⟩:=hrel
       rename World=>wf
       obtain⟨g2,hg2⟩:∃ g2,g2=gk:=⟨_,rfl⟩
       have HG2:=hid (show L1.length≤n+g2 by rw [hg2];exact hg);have HGE2:=hid hg2;have HB:=hid hb;clear hg hg2 hb
       by_cases hlt2:n<L1.length
       ·have hni:(n:Int)<(L1.length:Int):=by omega
        have hn0:(0:Int)≤(n:Int):=by omega
        have hso:=ownT_S.2 (show OwnS wf w3.heap.size (.slice a9 L1.length c9) L1 from own_below OL1.out HB.out)
        obtain⟨gb,rfl⟩:=OwnL.some' hso (by intro e;rw [e] at hlt2;simp at hlt2)
        obtain⟨r0,_,gl⟩:=hso.cell n 0 (.string ⟨(L1[n]'hlt2).toArray⟩) hlt2 rfl
        rw [Nat.mul_one,Nat.add_zero] at r0;have HSL:=hid (HZ1.out _ (List.getElem_mem hlt2));generalize L1[n]'hlt2=s at *;clear hso;go_wp2_with fail
        go_loopg [77] L3.length (fun g v77 W=>∃ m:Nat,m≤L3.length∧L3.length≤m+g∧v77=.int .i64 m∧Below wf.heap.size wf W)
        case atStart=>exact⟨0,Nat.zero_le _,by omega,rfl,Below.refl _ _⟩
        case round =>
         obtain⟨m,hm,hg,rfl,hb⟩:=hrel
         rename World=>wi
         obtain⟨g3,hg3⟩:∃ g3,g3=gk:=⟨_,rfl⟩
         have HG3:=hid (show L3.length≤m+g3 by rw [hg3];exact hg);have HGE3:=hid hg3;have HBi:=hid hb;have HBe:=hid (HB.out.then hb);clear hg hg3 hb r0 gl
         by_cases hlt3:m<L3.length
         ·have hmi:(m:Int)<(L3.length:Int):=by omega
          have hm0:(0:Int)≤(m:Int):=by omega
          have hso:=ownT_S.2 (show OwnS wi wc.heap.size (.slice ap L3.length cp) L3 from own_below O3.out HBe.out)
          obtain⟨gp,rfl⟩:=OwnL.some' hso (by intro e;rw [e] at hlt3;simp at hlt3)
          obtain⟨r0,_,gl⟩:=hso.cell m 0 (.string ⟨(L3[m]'hlt3).toArray⟩) hlt3 rfl
          rw [Nat.mul_one,Nat.add_zero] at r0;have HPL:=hid (HPZ.out _ (List.getElem_mem hlt3));generalize L3[m]'hlt3=p at *;clear hso;have DIi:=hid (DI.out wi (HBE.out wi HBe.out) s p HSL.out HPL.out);have VAi:=hid (fun W (h:Below wi.heap.size wi W)=>VA.out W (HBE.out W (HBe.out.then h)) s p HSL.out HPL.out);have SWi:=hid (fun W=>SW.out W p HPL.out);have HSP:=hid (fun q (h:q∈sideF p)=>(show q.length≤maxLen from Nat.le_trans (path_len (side_paths h)) (by unfold maxLen;omega)));have HSN:=hid (sideF_len p);have HD0:=hid (fun x (h:s≠[])=>HDK.out s p x h);have HV1:=hid (fun(h:s≠[])=>HVF.out s p h);have HV0:=hid (show s=[]→valueF R s p=directF R s p from fun e=>by rw [e];exact HVN.out p);have FT:=hid (fun j (hj:j<(sideF p).length)=>first_take (R:=R) (l:=s) hj);have FD:=hid (fun W (h:Below wi.heap.size wi W) q (hq:q∈sideF p)=>DI.out W (HBE.out W (HBe.out.then h)) s q HSL.out (HSP.out q hq));generalize directF R s p=d0 at *;generalize valueF R s p=v0 at *;go_wp2_with fail;refine DIi.out.mono ?_;rintro e wj ⟨rfl,hbj⟩;have Bj:=hid hbj;have HASi:=hid (HAS.out wj _ ks p (RK.out wj (HBe.out.then hbj)) (by have:=HK6.out;omega));clear hbj r0 gl DIi;go_upto_region 21 with fail
          go_cut [98] from 88 to 97 (fun v98 wx=>v98=.bool false∧wx=wj)
          case first =>
           by_cases hse:s=[]
           ·have hs3:(s==[])=true:=by rw [hse];rfl
            have hs4:List.isEmpty s=true:=by rw [hse];rfl
            have hs5:(s != [])=false:=by rw [hse];rfl
            clear hse
            cases d0 with
            | none =>
             simp only [Option.getD_none,Option.isSome_none];go_wp2_with fail
             go_meet
             exact⟨rfl,rfl⟩
            | some x =>
             simp only [Option.getD_some,Option.isSome_some]
             cases hcc:ks.contains p with
             | true =>
              rw [hcc] at HASi
              go_wp2_with (go_at_call 20;refine HASi.out.mono ?_;rintro e wq ⟨rfl,rfl⟩)
              go_meet
              exact⟨rfl,rfl⟩
             | false =>
              rw [hcc] at HASi
              go_wp2_with (go_at_call 20;refine HASi.out.mono ?_;rintro e wq ⟨rfl,rfl⟩)
              go_meet
              exact⟨rfl,rfl⟩
           ·cases d0 with
            | none =>
             simp only [Option.getD_none,Option.isSome_none];go_wp2_with fail
             go_meet
             exact⟨rfl,rfl⟩
            | some x =>
             have hcc:=HD0.out x hse rfl;rw [hcc] at HASi;simp only [Option.getD_some,Option.isSome_some];clear hse
             go_wp2_with (go_at_call 20;refine HASi.out.mono ?_;rintro e wq ⟨rfl,rfl⟩)
             go_meet
             exact⟨rfl,rfl⟩
          case rest =>
           obtain⟨rfl,rfl⟩:=hcut
           rename World=>wk
           clear HASi HD0;have HLS:=hid (show(sideF p).length≤4 from HSN.out)
           obtain⟨sl,hsl⟩:∃ sl,sl=sideF p:=⟨_,rfl⟩
           rw [← hsl] at HLS FT FD SWi HV1;have hslz:(sl.length:Int)≤4:=by have:=HLS.out;omega
           clear hsl HSP HSN;go_wp2_with fail
           refine(SWi.out _).mono ?_
           rintro e wl ⟨vs,rfl,os,bs⟩;have OSL:=hid os;have Bl:=hid (Bj.out.then bs)
           obtain⟨as',cs',rfl⟩:=own_sliceS os
           clear os bs;go_upto_region 25 with fail
           go_loopg [19,20,102] sl.length (fun g v19 v20 v102 W=>∃ (j:Nat) (fo:Option Str),j≤sl.length∧sl.length≤j+g∧v19=.string ⟨(fo.getD []).toArray⟩∧v20=.bool fo.isSome∧v102=.int .i64 j∧fo=firstD R s (sl.take j)∧Below wl.heap.size wl W)
           case atStart=>exact⟨0,none,Nat.zero_le _,by omega,rfl,rfl,rfl,rfl,Below.refl _ _⟩
           case round =>
            obtain⟨j,fo,hj,hg,rfl,rfl,rfl,hfo,hb⟩:=hrel
            rename World=>wm
            have HG4:=hid hg;have HFO:=hid hfo;have HBm:=hid hb;clear hg hfo hb
            by_cases hlt4:j<sl.length
            ·have hji:(j:Int)<(sl.length:Int):=by omega
             have hj0:(0:Int)≤(j:Int):=by omega
             have hso:=ownT_S.2 (show OwnS wm _ (.slice as' sl.length cs') sl from own_below OSL.out HBm.out)
             obtain⟨gs,rfl⟩:=OwnL.some' hso (by intro e;rw [e] at hlt4;simp at hlt4)
             obtain⟨r0,_,gl⟩:=hso.cell j 0 (.string ⟨(sl[j]'hlt4).toArray⟩) hlt4 rfl
             rw [Nat.mul_one,Nat.add_zero] at r0;have FTj:=hid (FT.out j hlt4);rw [← HFO.out] at FTj;have FDj:=hid (FD.out wm (Bl.out.then HBm.out) _ (List.getElem_mem hlt4));generalize sl[j]'hlt4=q at *;generalize directF R s q=dq at *;clear hso;go_wp2_with fail;refine FDj.out.mono ?_;rintro e wn ⟨rfl,hbn⟩;have Bn:=hid (HBm.out.then hbn);clear hbn r0 gl FDj
             cases dq with
             | none =>
              have HN:=hid (show fo=firstD R s (sl.take (j+1)) from by rw [FTj.out];cases fo <;> rfl);simp only [Option.getD_none,Option.isSome_none];go_wp2_with fail
              go_roundg (gk - 1)
              case measure=>have:=HG4.out;omega
              case rel=>exact⟨j+1,fo,by omega,by have:=HG4.out;omega,rfl,rfl,by simp,HN.out,Bn.out⟩
             | some x =>
              cases fo with
              | none =>
               have HN:=hid (show some x=firstD R s (sl.take (j+1)) from FTj.out.symm);simp only [Option.getD_some,Option.isSome_some,Option.getD_none,Option.isSome_none];go_wp2_with fail
               go_roundg (gk - 1)
               case measure=>have:=HG4.out;omega
               case rel=>exact⟨j+1,some x,by omega,by have:=HG4.out;omega,rfl,rfl,by simp,HN.out,Bn.out⟩
              | some y =>
               have HN:=hid (show some y=firstD R s (sl.take (j+1)) from FTj.out.symm);simp only [Option.getD_some,Option.isSome_some];go_wp2_with fail
               go_roundg (gk - 1)
               case measure=>have:=HG4.out;omega
               case rel=>exact⟨j+1,some y,by omega,by have:=HG4.out;omega,rfl,rfl,by simp,HN.out,Bn.out⟩
            ·have hji:¬ (j:Int)<(sl.length:Int):=by omega
             have HFE:=hid (show fo=firstD R s sl from by rw [HFO.out,List.take_of_length_le (by omega)]);have Bm:=hid (Bl.out.then HBm.out);go_wp2_with fail
             refine(VAi.out wm Bm.out).mono ?_
             rintro e wq ⟨rfl,hbq⟩;have Bq:=hid (Bm.out.then hbq);clear hbq
             by_cases hse:s=[]
             ·have hs3:(s==[])=true:=by rw [hse];rfl
              have hs4:List.isEmpty s=true:=by rw [hse];rfl
              obtain rfl:=HV0.out hse;clear hse;go_wp2_with fail
              go_roundg (g3 - 1)
              case measure=>have:=HG3.out;have:=HGE3.out;omega
              case rel=>exact⟨m+1,by omega,by have:=HG3.out;omega,by simp,HBi.out.then Bq.out⟩
             ·have hs3:(s==[])=false:=beq_eq_false_iff_ne.2 hse;have hs4:List.isEmpty s=false:=isEmpty_ne hse;obtain rfl:v0=fo:=(HV1.out hse).trans HFE.out.symm;clear hse;go_wp2_with fail
              go_roundg (g3 - 1)
              case measure=>have:=HG3.out;have:=HGE3.out;omega
              case rel=>exact⟨m+1,by omega,by have:=HG3.out;omega,by simp,HBi.out.then Bq.out⟩
         ·have hmi:¬ (m:Int)<(L3.length:Int):=by omega
          go_wp2_with fail
          go_roundg (g2 - 1)
          case measure=>have:=HG2.out;have:=HGE2.out;omega
          case rel=>exact⟨n+1,by omega,by have:=HG2.out;omega,by simp,HBe.out⟩
       ·have hni:¬ (n:Int)<(L1.length:Int):=by omega
        go_wp2_with fail;exact bodyPost_ret (v:=.bool true) (by simp [results,Tryz.results5,go_sem]) rfl ⟨rfl,B2.out.then (HBE.out _ HB.out)⟩
end
section
open Go.RowKit Go.Lib Go.Sort Go.ChangeShapes Go.WideShapes
theorem bulk_mem {H:Type}{d:DataW H}:∀ {l:List (DataW H)},d∈l→Rows.uptoBulk d≤Rows.uptoBulkAll l
 | x::r,h=>by
  simp only [Rows.uptoBulkAll]
  rcases List.mem_cons.1 h with rfl | h
  ·omega
  ·have:=bulk_mem h;omega
section
variable {H : Type} {enc : TypeId × Value → H} {w : World} {base : Nat} {spare : Nat → Bool} {held : Bool}
theorem open_rdLB {α:Type}{k:Nat}(E:Enc α k)(hk:0<k){tS tE:TypeId}(hu:Tryz.prog.underlying tS=some (.slice tE))(hC:Tryz.prog.cellsOf tE=k)(P:α→DataW H→Prop)
  (hel:∀ (n:Nat)(cs:List Value)(y:DataW H×List MemPlace),DataW.trod enc Tryz.prog w base spare held n tE cs=some y→∃ x,cs=E.enc x∧P x y.1){fuel:Nat}{cs:List Value}{x:DataW H×List MemPlace}(h:DataW.trod enc Tryz.prog w base spare held fuel tS cs=some x) :
  ∃ v l,cs=[v]∧RdL E w v l∧∀ z∈l,∃ d,P z d∧Rows.uptoBulk d≤Rows.uptoBulk x.1:=by
 rcases DataW.trod_slice hu h with ⟨rfl,_⟩ | ⟨a,len,cap,elems,rest,n,_,rfl,hx,hb,hl,hm,hlen,hel2,_,_⟩
 ·exact⟨_,[],rfl,RdL.nil E w,fun p hp=>by cases hp⟩
 ·rw [hC] at hel2;have key:∀ i:Fin len,∃ p:α,w.cells? base (a.add (i.1 * k)) k=some (E.enc p)∧∃ d,P p d∧Rows.uptoBulk d≤Rows.uptoBulk x.1:=by
   intro i;have hy:=hel2 i.1 i.2;rw [List.getElem?_eq_getElem (by omega),Option.bind_eq_some_iff] at hy
   obtain⟨cs',hcs,hy'⟩:=hy
   obtain⟨p,rfl,hp⟩:=hel _ _ _ hy'
   refine⟨p,hcs,_,hp,?_⟩
   rw [hx];simp only [Rows.uptoBulk]
   have:=bulk_mem (d:=(elems[i.1]'(by omega)).1) (l:=elems.map (·.1)) (List.mem_map.2 ⟨_,List.getElem_mem _,rfl⟩)
   omega
  have hf:=fun i=>(key i).choose_spec
  obtain⟨f,hfe⟩:∃ f:Fin len→α,f=fun i=>(key i).choose:=⟨_,rfl⟩
  have hf2:∀ i,w.cells? base (a.add (i.1 * k)) k=some (E.enc (f i))∧∃ d,P (f i) d∧Rows.uptoBulk d≤Rows.uptoBulk x.1:=by rw [hfe];exact hf
  have hlen2:(List.ofFn f).length=len:=List.length_ofFn
  refine⟨.slice (some a) len cap,List.ofFn f,rfl,⟨some a,cap,by rw [hlen2],⟨by rw [hlen2];exact hl,by rw [hlen2];unfold maxLen at hm;omega,fun e=>by cases e⟩,fun hne=>?_⟩,fun p hp=>?_⟩
  ·have h0:0<len:=by
    rcases Nat.eq_zero_or_pos len with h0 | h0
    ·subst h0;simp at hne
    ·exact h0
   have c0:=(World.cells?_some (hf2 ⟨0,h0⟩).1).2.2 0 (by omega);rw [List.getElem?_eq_getElem (show 0<(E.enc (f ⟨0,h0⟩)).length by rw [E.len];exact hk)] at c0;rw [show(a.add (0 * k)).add 0=a from by unfold Addr.add;simp] at c0
   obtain⟨hs,hlt⟩:=spot_of_cell c0
   obtain⟨b,off,sp⟩:=a
   simp only at hs hlt;subst hs
   refine⟨b,off,rfl,hlt,fun j i y hj hy=>?_⟩
   rw [hlen2] at hj;have hc:=(World.cells?_some (hf2 ⟨j,hj⟩).1);have hi:i<k:=by have:=(List.getElem?_eq_some_iff.1 hy).1;rwa [E.len] at this
   have hci:=hc.2.2 i hi;rw [add_of,add_of] at hci;rw [hci];rw [List.getElem_ofFn] at hy;exact hy
  ·obtain⟨i,rfl⟩:=(List.mem_ofFn).1 hp
   exact(hf2 i).2
theorem open_itemB (n:Nat)(cs:List Value)(y:DataW H×List MemPlace)(h:DataW.trod enc Tryz.prog w base spare held n 55 cs=some y):∃ x:Itm,cs=encI.enc x∧(x.path.length≤maxLen∧x.value.length≤Rows.uptoBulk y.1):=by
 have hC:Tryz.prog.cellsOf 55=5:=by kernel_rfl
 have hD:Tryz.prog.cellsOf 9=1:=by kernel_rfl
 have hE:Tryz.prog.cellsOf 4=1:=by kernel_rfl
 have hF:Tryz.prog.cellsOf 3=1:=by kernel_rfl
 obtain⟨xs,m,_,hy,hl,hlen,hfs⟩:=DataW.trod_struct Tryz.underlying55 h
 rw [hC] at hl
 obtain⟨c0,c1,c2,c3,c4,rfl⟩:=list5 hl
 have g0:=hfs 0 _ rfl;have g1:=hfs 1 _ rfl;have g2:=hfs 2 _ rfl;have g3:=hfs 3 _ rfl;have g4:=hfs 4 _ rfl;have hx:xs.length=5:=hlen;rw [List.getElem?_eq_getElem (by omega)] at g0 g1 g2 g3 g4;simp only [List.getElem_toArray,List.getElem_cons_zero,List.getElem_cons_succ,hD,hE,hF,List.drop_zero,List.drop_succ_cons,List.take_succ_cons,List.take_zero] at g0 g1 g2 g3 g4
 obtain⟨s0,e0,_,z0⟩:=DataW.trod_string Tryz.underlying9 g0
 obtain⟨s1,e1,f1,z1⟩:=DataW.trod_string Tryz.underlying9 g1
 obtain⟨b2,e2,_⟩:=DataW.trod_bool Tryz.underlying4 g2
 obtain⟨s3,e3,_,z3⟩:=DataW.trod_string Tryz.underlying9 g3
 obtain⟨i4,e4,_,_⟩:=DataW.trod_int Tryz.underlying3 g4
 obtain rfl:=List.head_eq_of_cons_eq e0;obtain rfl:=List.head_eq_of_cons_eq e1;obtain rfl:=List.head_eq_of_cons_eq e2;obtain rfl:=List.head_eq_of_cons_eq e3;obtain rfl:=List.head_eq_of_cons_eq e4
 refine⟨⟨s0.data.toList,s1.data.toList,b2,s3.data.toList,i4⟩,?_,z0,?_⟩
 ·rw [S_of s0,S_of s1,S_of s3];rfl
 ·rw [hy];simp only [Rows.uptoBulk];have hm:=bulk_mem (d:=(xs[1]'(by omega)).1) (l:=xs.map (·.1)) (List.mem_map.2 ⟨_,List.getElem_mem _,rfl⟩);rw [f1] at hm;simp only [Rows.uptoBulk] at hm
  omega
theorem open_docB (n:Nat)(cs:List Value)(y:DataW H×List MemPlace)(h:DataW.trod enc Tryz.prog w base spare held n 53 cs=some y):∃ z:Dc×(Option Addr×Nat),cs=encD.enc z∧((z.1.loc.length≤maxLen∧∀ x∈z.1.items,x.path.length≤maxLen)∧(∀ x∈z.1.items,x.value.length≤Rows.uptoBulk y.1)∧RdL encI w (.slice z.2.1 z.1.items.length z.2.2) z.1.items):=by
 have hC:Tryz.prog.cellsOf 53=3:=by kernel_rfl
 have hD:Tryz.prog.cellsOf 9=1:=by kernel_rfl
 have hE:Tryz.prog.cellsOf 4=1:=by kernel_rfl
 have hF:Tryz.prog.cellsOf 51=1:=by kernel_rfl
 have hI:Tryz.prog.cellsOf 55=5:=by kernel_rfl
 obtain⟨xs,m,_,hy,hl,hlen,hfs⟩:=DataW.trod_struct Tryz.underlying53 h
 rw [hC] at hl
 obtain⟨c0,c1,c2,rfl⟩:=list3 hl
 have g0:=hfs 0 _ rfl;have g1:=hfs 1 _ rfl;have g2:=hfs 2 _ rfl;have hx:xs.length=3:=hlen;rw [List.getElem?_eq_getElem (by omega)] at g0 g1 g2;simp only [List.getElem_toArray,List.getElem_cons_zero,List.getElem_cons_succ,hD,hE,hF,List.drop_zero,List.drop_succ_cons,List.take_succ_cons,List.take_zero] at g0 g1 g2
 obtain⟨s0,e0,_,z0⟩:=DataW.trod_string Tryz.underlying9 g0
 obtain⟨b1,e1,_⟩:=DataW.trod_bool Tryz.underlying4 g1
 obtain⟨v2,l2,e2,r2,p2⟩:=open_rdLB encI (by decide) Tryz.underlying51 hI (fun x d=>x.path.length≤maxLen∧x.value.length≤Rows.uptoBulk d) open_itemB g2
 obtain rfl:=List.head_eq_of_cons_eq e0;obtain rfl:=List.head_eq_of_cons_eq e1;obtain rfl:=List.head_eq_of_cons_eq e2
 obtain⟨ao,cp,rfl,_⟩:=r2.slice
 refine⟨(⟨s0.data.toList,b1,l2⟩,(ao,cp)),?_,⟨z0,fun x hx=>?_⟩,fun x hx=>?_,r2⟩
 ·rw [S_of s0];rfl
 ·obtain⟨d,h1,_⟩:=p2 x hx
  exact h1.1
 ·obtain⟨d,h1,h2⟩:=p2 x hx
  rw [hy];simp only [Rows.uptoBulk];have hm:=bulk_mem (d:=(xs[2]'(by omega)).1) (l:=xs.map (·.1)) (List.mem_map.2 ⟨_,List.getElem_mem _,rfl⟩)
  have:=h1.2
  omega
theorem open_docsB {v:Value}{d:DataW H}{p:List MemPlace}{r:Reach}{b0:Nat}(hv:Value.okWide Tryz.prog w r b0 43 v)(h:DataW.Trod enc Tryz.prog w base spare held 43 v d p):∃ l:List Dc,RdD w v l∧SzL l∧∀ z∈l,∀ x∈z.items,x.value.length≤Rows.uptoBulk d:=by
 have hC:Tryz.prog.cellsOf 53=3:=by kernel_rfl
 obtain⟨fuel,hf⟩:=h
 obtain⟨v',zs,e,hr,hp⟩:=open_rdLB encD (by decide) Tryz.underlying43 hC (fun z d=>(z.1.loc.length≤maxLen∧∀ x∈z.1.items,x.path.length≤maxLen)∧(∀ x∈z.1.items,x.value.length≤Rows.uptoBulk d)∧RdL encI w (.slice z.2.1 z.1.items.length z.2.2) z.1.items) open_docB hf
 obtain⟨ao,cp,rfl,_⟩:=hr.slice
 have hvv:v=.slice ao zs.length cp:=by
  obtain⟨a0,n0,c0,rfl⟩:=okWide_slice Tryz.underlying43 hv
  exact List.head_eq_of_cons_eq e
 subst hvv
 refine⟨zs.map (·.1),⟨zs,rfl,hr,fun z hz=>?_⟩,fun d' hd=>?_,fun d' hd x hx=>?_⟩
 ·obtain⟨_,h1,_⟩:=hp z hz
  exact h1.2.2
 ·obtain⟨z,hz,rfl⟩:=List.mem_map.1 hd
  obtain⟨_,h1,_⟩:=hp z hz
  exact h1.1
 ·obtain⟨z,hz,rfl⟩:=List.mem_map.1 hd
  obtain⟨_,h1,h2⟩:=hp z hz
  exact Nat.le_trans (h1.2.1 x hx) h2
end
end
end Go.Proofs.YtbbmdbolkicpcaaGreatDoor
