/- InhLess, OpenB -/
import Derived.Test.YtbbmdbolkicpcaaGreatDoorILG23
import Derived.Test.YtbbmdbolkicpcaaGreatDoorILG21
import Derived.Deep.RegionHeld3
import Derived.Test.YtbbmdbolkicpcaaGreatDoorRows
import Derived.Test.YtbbmdbolkicpcaaGreatDoorILG22
set_option maxRecDepth 100000
set_option maxHeartbeats 32000000
set_option linter.unusedVariables false
set_option linter.unusedSimpArgs false
namespace Go.Proofs.YtbbmdbolkicpcaaGreatDoor
section
open Go.RowKit Go.Lib Go.Sort Go.Maps Go.WideMaps
theorem firstUp_take {t:Tb}{q:Str}:∀ {c:List Str}{n:Nat}(hn:n<c.length),Xy t q (c.take (n+1))=match Xy t q (c.take n) with | some v=>some v | none=>atF t (c[n]'hn,q)
 | x::r,0,_=>by
  show Xy t q [x]=_;simp only [List.take_zero,Xy,List.getElem_cons_zero]
  cases atF t (x,q) <;> rfl
 | x::r,n+1,h=>by
  rw [List.take_succ_cons,List.take_succ_cons,firstUp_cons,firstUp_cons]
  cases atF t (x,q) with
  | some v=>rfl
  | none=>exact firstUp_take (c:=r) (by simpa using h)
theorem par_up {D:List (Str×Str)}{s:Str}(hD:saidOK D)(h:(Xw D s).2=true):(Xw D s).1.length≤maxLen:=by
 have:stepF D s=some (Xw D s).1:=by unfold stepF;rw [if_pos h]
 exact Nat.le_trans (named_len (step_named hD this)) (by decide)
theorem filt_take {l:List Itm}{p:Itm→Bool}{m:Nat}(hm:m<l.length):(l.take (m+1)).filter p=(l.take m).filter p++(if p (l[m]'hm)=true then [l[m]'hm] else []):=by
 rw [List.take_succ_eq_append_getElem hm,List.filter_append]
 cases h:p (l[m]'hm) <;> simp [h]
theorem beq_some (a b:Str):(a==b)=decide (some a=some b):=by
 by_cases h:a=b
 ·subst h;simp
 ·rw [beq_eq_false_iff_ne.2 h,decide_eq_false (fun e=>h (Option.some.inj e))]
theorem sz_less {R:Rsv}{L:List Dc}(h:SzL L):SzL (Jk R L):=fun d hd=>by
 obtain⟨c,hc,rfl⟩:=List.mem_map.1 hd
 exact⟨(h c hc).1,fun x hx=>(h c hc).2 x (List.mem_filter.1 hx).1⟩
theorem szV_less {R:Rsv}{L:List Dc}(h:SzV L):SzV (Jk R L):=fun d hd x hx=>by
 obtain⟨c,hc,rfl⟩:=List.mem_map.1 hd
 exact h c hc x (List.mem_filter.1 hx).1
theorem less_take {R:Rsv}{L:List Dc}{n:Nat}(hn:n<L.length):Jk R (L.take (n+1))=Jk R (L.take n)++[lessDoc R (L[n]'hn)]:=by
 unfold Jk;rw [List.take_succ_eq_append_getElem hn,List.map_append];rfl
theorem at_ne {t:Tb}{x q:Str}(hx:x≠[]):atF t (x,q)=match Qy t.rows x q with | none=>none | some r=>if r.text=arrows then none else some r.text:=by
 unfold atF
 simp only
 cases Qy t.rows x q with
 | none=>rfl
 | some r=>simp only [hx,ne_eq,not_false_eq_true,and_true]
theorem less_res {D:List Dc}{R:Rsv}(h:ResIs D R)(hD:Small D):¬ NoRes (Jk R D)∧∀ R2,ResIs (Jk R D) R2→srtT R2.known=srtT R.known∧∀ l p,valueF R2 l p=valueF R l p:=by
 have he:(evs D).length≤16384:=by
  have h1:=evs_len D 30 hD.each;have h2:=hD.len
  omega
 have hn:(nms D).length≤512:=by
  have h2:=hD.len
  have:(nms D).length≤D.length:=by unfold nms;rw [List.length_map];exact List.length_filter_le ..
  omega
 obtain⟨h1,lt⟩:=less_new h.err h.tb hn he
 have key:=fun {w o} (g:New14 (Kc (Jk R D)).2 w o)=>lt.new h.fit.ok h.fit.fit.locs h.fit.par h.fit.tgt g
 refine⟨fun hn=>?_,fun R2 h2=>?_⟩
 ·rcases hn with g | ⟨wr,Ro,_,g,g2⟩
  ·rw [h1] at g;exact g rfl
  ·obtain⟨_,K,rfl,_,hk,_⟩:=key g
   rcases g2 with g2 | ⟨R',g2,g3⟩
   ·cases g2
   ·cases g2
    have:=h.k600
    simp only at g3
    omega
 ·obtain⟨wr,g⟩:=h2.new
  obtain⟨_,K,e,hk,_,_⟩:=key g
  cases e
  exact⟨hk,fun l p=>lt.value h.fit.ok K l p⟩
theorem less14_any (w:World)(l:List Dc)(v:Value)(hd:RdD w v l)(hs:SzL l)(hv:SzV l)(hT:TabsB w.heap.size w) :
  Calls Tryz.prog 6 #[v] w fun e w'=>e=.returned (.bool true)∧Below w.heap.size w w':=by
 have HT:=hid (fun W (h:Below w.heap.size w W)=>(show TabsB W.heap.size W from⟨(hT.below h).1,Nat.lt_of_lt_of_le hT.2.1 h.size,Nat.lt_of_lt_of_le hT.2.2 h.size⟩));have HD:=hid hd;have HSZ:=hid hs;have HSV:=hid hv;clear hd hs hv hT
 go_enter Tryz.func6,Tryz.ntmps6
 go_wp2_with fail
 refine(w14wakes_gen w (HT.out _ (Below.refl _ _))).mono ?_
 rintro e w1 ⟨rfl,hb1⟩;have CU:=hid (cut14_any w1 l v (HD.out.bel hb1));have B1:=hid hb1;have SM:=hid (cut14_small l);have SZD:=hid (sz_cut14 HSZ.out);have SVD:=hid (szV_cut14 HSV.out);clear hb1 HD HSZ HSV;generalize cut14 l=D at *;go_wp2_with fail;refine CU.out.mono ?_;rintro e wc ⟨vD,rfl,hod,hbc⟩;have RD:=hid hod.rd;have Bc:=hid (B1.out.then hbc)
 obtain⟨aD,cD,rfl,hcD⟩:=hod.slice
 clear hod hbc hcD CU B1;have RSV:=hid (show Calls Tryz.prog 16 #[.slice aD D.length cD] wc fun e w'=>ResOut wc D e w' from by
  have h:=resolver_any wc D _ RD.out SZD.out SVD.out (HT.out _ Bc.out)
  rwa [cut14_id SM.out] at h)
 go_wp2_with fail;refine RSV.out.mono ?_;rintro e w2 ⟨hb2,hx⟩;have B2:=hid hb2;have BS:=hid (Bc.out.then hb2);clear hb2 RSV
 rcases hx with ⟨rfl,_⟩ | ⟨vr,C,R,rfl,hrs,hri⟩
 ·go_wp2_with fail;exact bodyPost_ret (v:=.bool true) (by simp [results,Tryz.results6,go_sem]) rfl ⟨rfl,BS.out⟩
 ·obtain⟨b,Bt,vc,va,km,nk,rfl,hbx,htb,hch,_⟩:=id hrs
  have RS2:=hid hrs;have T2:=hid htb;have FIT:=hid hri.fit;have LR:=hid (less_res hri SM.out);have TAB:=hid (fun W (h:Below w2.heap.size w2 W)=>rtable_any W b Bt vc va km (bk h hbx));have CHS:=hid (fun W (h:Below w2.heap.size w2 W)=>chains_any W b Bt vc va km (bk h hbx));have PA:=hid (fun W (h:Below w2.heap.size w2 W) s (hs:s.length≤maxLen)=>parent_any W _ R.par s (hch.below h) hs);have CH:=hid (fun W (h:Below w2.heap.size w2 W) s (hs:s.length≤maxLen)=>chain_any W _ R.par s (Xl R.par s) (hch.below h) (new_ok FIT.out.ok.par).1 (FIT.out.ok.chain s) hs (by have:=FIT.out.parLen;omega));have GE:=hid (fun W (h:Below w2.heap.size w2 W) s p (hs:s.length≤maxLen) (hp:p.length≤maxLen)=>(T2.out.below h).get s p hs hp);have HNZ:=hid (hri.names SZD.out);have HK6:=hid (show(srtT R.known).length≤600 by unfold srtT;rw [List.length_mergeSort];exact hri.k600);clear hrs hri hbx htb hch;have LOC:=hid (fun W (h:Below w2.heap.size w2 W)=>(T2.out.below h).locales FIT.out.fit.ok);have KN:=hid (fun W (h:Below w2.heap.size w2 W)=>known_any (RS2.out.below h) FIT.out.ok);have VA:=hid (fun W (h:Below w2.heap.size w2 W) s p (hs:s.length≤maxLen) (hp:p.length≤maxLen)=>value_any (RS2.out.below h) FIT.out.ok s p hs hp (by have:=FIT.out.als;omega) (by have:=FIT.out.parLen;omega) FIT.out.sza);have HLN:=hid (show(srtT R.t.names).length≤512 by unfold srtT;rw [List.length_mergeSort];exact FIT.out.fit.ok.n512);have HKP:=hid (show ∀ p∈srtT R.known,p.length≤512 from fun p hp=>by
   have h1:=(srtT_perm _).mem_iff.1 hp;exact path_len (Gen.path (fun q hq=>by
    obtain⟨s,_,h⟩:=(FIT.out.fit.base q).1 hq
    obtain⟨r,hr⟩:=Option.isSome_iff_exists.1 (path_has h)
    obtain⟨h2,_,h3⟩:=findR_some hr
    rw [← h3];exact FIT.out.fit.paths _ (FIT.out.fit.ok.rp r h2)) (FIT.out.ok.known.gen p h1)))
  have PUP:=hid (fun s (h:(Xw R.par s).2=true)=>par_up (new_ok FIT.out.ok.par).1 h);have CNE:=hid (fun s x (hx:x∈Xl R.par s)=>(show x≠[]∧x.length≤maxLen from⟨fun e=>(by have:=FIT.out.ok.chain_ne hx;rw [e,named_nil] at this;cases this),Nat.le_trans (named_len (FIT.out.ok.chain_ne hx)) (by decide)⟩));have CLN:=hid (fun s=>FIT.out.chain_len s);have SMZ:=hid SM.out.len;have SME:=hid SM.out.each;have RES2:=hid (fun W u (h:RdD W u (Jk R D)) (hT:TabsB W.heap.size W)=>(show Calls Tryz.prog 16 #[u] W fun e w'=>ResOut W (Jk R D) e w' from by
   have h:=resolver_any W (Jk R D) _ h (sz_less SZD.out) (szV_less SVD.out) hT
   rwa [cut14_id (small_less SM.out)] at h))
  have HT2:=hid (fun W (h:Below w2.heap.size w2 W)=>HT.out _ (BS.out.then h));clear HT SM SVD
  obtain⟨ao,cp,hao,hln,h63,hcell⟩:=RD.out.cells
  cases hao;have HCELL:=hid hcell;clear hcell RD hln h63;go_wp2_with fail
  refine(TAB.out _ (Below.refl _ _)).mono ?_
  rintro e w2' ⟨rfl,rfl⟩;clear TAB;go_wp2_with fail
  go_loopg [5,40] D.length (fun g v5 v40 W=>∃ (n:Nat) (zs:List (Dc×(Option Addr×Nat))),n≤D.length∧D.length≤n+g∧v40=.int .i64 n∧CutG w2' W (Jk R (D.take n)) v5 zs)
  case atStart=>exact⟨0,[],Nat.zero_le _,by omega,rfl,rfl,Qf.nil _ _ _ _,fun z hz=>(by cases hz),Below.refl _ _⟩
  case round =>
   obtain⟨n,zs,hn,hg,rfl,st⟩:=hrel
   rename World=>w3
   obtain⟨go,hgo⟩:∃ go,go=gk:=⟨_,rfl⟩
   have HGO:=hid hgo;have HG:=hid (show D.length≤n+go by rw [hgo];exact hg);have ST3:=hid st;clear hg st hgo
   by_cases hlt:n<D.length
   ·have hni:(n:Int)<(D.length:Int):=by omega
    have hn0:(0:Int)≤(n:Int):=by omega
    have hnz:(D.length:Int)≤10:=by have:=SMZ.out;omega
    obtain⟨pb,po,da,dc,rfl,hp,q0,q1,q2,hits⟩:=HCELL.out n hlt
    have B23:=hid (B2.out.then ST3.out.bel);have r0:=(B23.out.cell (p:=⟨pb,po+n * 3,none⟩) hp).trans q0;have r1:=(B23.out.cell (p:=⟨pb,po+n * 3+1,none⟩) hp).trans q1;have r2:=(B23.out.cell (p:=⟨pb,po+n * 3+2,none⟩) hp).trans q2;have hp2:pb<w3.heap.size:=Nat.lt_of_lt_of_le hp B23.out.size
    obtain⟨_,hic,_⟩:=RdI.cells hits
    have HIC:=hid hic;have HITS:=hid hits;have HPB:=hid hp;have HTK:=hid (less_take (R:=R) hlt);have HI30:=hid (SME.out _ (List.getElem_mem hlt));have HSZL:=hid (SZD.out _ (List.getElem_mem hlt));clear q0 q1 q2 hits hic;generalize D[n]'hlt=d at *
    obtain⟨loc,supp,its⟩:=d
    simp only at r0 r1 r2 HITS HTK HIC HI30 HSZL;have HB4:=hid (bal w3 (.cells #[.string ⟨loc.toArray⟩,.bool supp,.slice da its.length dc] 53));have F4:=hid (heap_alloc_new w3 (.cells #[.string ⟨loc.toArray⟩,.bool supp,.slice da its.length dc] 53));go_upto_region 12 with fail;generalize w3.alloc (.cells #[.string ⟨loc.toArray⟩,.bool supp,.slice da its.length dc] 53)=w4 at *;have ST4:=hid (ST3.out.below HB4.out);have HDB:=hid (show w2'.heap.size≤w3.heap.size from ST3.out.bel.size);have HLT:=hid (fun k (e:u5.ownBlock=some k)=>(World.ownsRow.lt ST3.out.own k e).2);have HLE:=hid (fun z (hz:z∈zs) k (e:(Value.slice z.2.1 z.1.items.length z.2.2).ownBlock=some k)=>(World.ownsRow.lt (ST3.out.each z hz) k e).2);clear r0 r1 r2 hp2 ST3 HB4 B23;generalize w3.heap.size=Db at *
    obtain⟨d0,d1,d2,dl⟩:=Qj F4.out
    have HB5:=hid (bal w4 (.cells #[.string ⟨loc.toArray⟩,.bool supp,.slice da its.length dc] 53));have F5:=hid (heap_alloc_new w4 (.cells #[.string ⟨loc.toArray⟩,.bool supp,.slice da its.length dc] 53));have D5:=hid (bk HB5.out F4.out);have HDE:=hid dl;go_upto_region 13 with fail;generalize w4.alloc (.cells #[.string ⟨loc.toArray⟩,.bool supp,.slice da its.length dc] 53)=w5 at *;have ST5:=hid (ST4.out.below HB5.out);clear ST4 HB5 d0 d1 d2 dl F4;generalize w4.heap.size=Eb at *;have HDB2:=hid (show w2'.heap.size≤Eb from by have:=HDB.out;have:=HDE.out;omega);have HLT2:=hid (fun k (e:u5.ownBlock=some k)=>(show k<Eb from by have:=HLT.out k e;have:=HDE.out;omega));have HLE2:=hid (fun z (hz:z∈zs) k (e:(Value.slice z.2.1 z.1.items.length z.2.2).ownBlock=some k)=>(show k<Eb from by have:=HLE.out z hz k e;have:=HDE.out;omega))
    obtain⟨e0,e1,e2,el⟩:=Qj F5.out
    obtain⟨ef0,ef1,ef2⟩:=Zl F5.out
    obtain⟨d0,d1,d2,dl⟩:=Qj D5.out
    have F6:=hid (show(w5.setCell ⟨Eb,2,none⟩ (.slice none 0 0)).heap[Eb]?=some (.cells #[.string ⟨loc.toArray⟩,.bool supp,.slice none 0 0] 53 (0,0)) from by rw [heap_setCell_same _ _ _ _ _ _ F5.out];simp);have ON6:=hid (show Qr Eb w5 (w5.setCell ⟨Eb,2,none⟩ (.slice none 0 0)) from(Qr.refl w5 Eb).set _ _);have D6:=hid ((ON6.out.block Db (lt_of_block D5.out) (by intro h2;have h3:=Option.some.inj h2;have:=HDE.out;omega)).trans D5.out);have HSZ5:=hid (lt_of_block F5.out);go_upto_region 14 with fail;generalize w5.setCell ⟨Eb,2,none⟩ (.slice none 0 0)=w6 at *;clear d0 d1 d2 dl e0 e1 e2 el ef0 ef1 ef2 F5
    obtain⟨d0,d1,d2,dl⟩:=Qj D6.out
    go_wp2_with fail
    go_loopg [49] its.length (fun g v49 W=>∃ (m:Nat) (u:Value) (done:List Itm),m≤its.length∧its.length≤m+g∧v49=.int .i64 m∧W.heap[Eb]?=some (.cells #[.string ⟨loc.toArray⟩,.bool supp,u] 53 (0,0))∧Qf encI 55 W w5.heap.size u done∧Qr Eb w5 W∧done=(its.take m).filter (fun x=>!sameI R loc x))
    case atStart=>exact⟨0,_,[],Nat.zero_le _,by omega,rfl,F6.out,Qf.nil _ _ _ _,ON6.out,rfl⟩
    case round =>
     obtain⟨m,u,done,hm,hg2,rfl,hrow,hou,hon,hdn⟩:=hrel
     rename World=>w7
     have HG2:=hid hg2;have HDN:=hid hdn;have HDL:=hid (show done.length≤m from by rw [hdn];exact Nat.le_trans (List.length_filter_le ..) (by rw [List.length_take];omega));have F7:=hid hrow;have OU7:=hid hou;have ON7:=hid hon;clear hg2 hdn hrow hou hon F6 ON6
     obtain⟨au,cu,rfl,_⟩:=OU7.out.slice
     have UGE:=hid (fun k (e:(Value.slice au done.length cu).ownBlock=some k)=>(World.ownsRow.lt OU7.out k e).1);have UNE:=hid (show(Value.slice au done.length cu).ownBlock≠some Eb from fun e=>by have h1:=UGE.out _ e;have h2:=HSZ5.out;omega);have BW:=hid (ST5.out.bel.grown ON7.out ST5.out.bel.size (fun k hk=>by cases hk;exact HDB2.out))
     by_cases hlt2:m<its.length
     ·have hmi:(m:Int)<(its.length:Int):=by omega
      have hm0:(0:Int)≤(m:Int):=by omega
      have hmb:(its.length:Int)≤30:=by have:=HI30.out;omega
      obtain⟨_,_,_,hic2⟩:=RdI.cells HITS.out
      obtain⟨ib,io,rfl,hib,q0,q1,q2,q3,q4⟩:=hic2 m hlt2
      have BC:=hid (B2.out.then BW.out);have r0:=(BC.out.cell (p:=⟨ib,io+m * 5,none⟩) hib).trans q0;have r1:=(BC.out.cell (p:=⟨ib,io+m * 5+1,none⟩) hib).trans q1;have r2:=(BC.out.cell (p:=⟨ib,io+m * 5+2,none⟩) hib).trans q2;have r3:=(BC.out.cell (p:=⟨ib,io+m * 5+3,none⟩) hib).trans q3;have r4:=(BC.out.cell (p:=⟨ib,io+m * 5+4,none⟩) hib).trans q4;have hib2:ib<w7.heap.size:=Nat.lt_of_lt_of_le hib BC.out.size;have HST:=hid (show(its.take (m+1)).filter (fun x=>!sameI R loc x)=done++(if(!sameI R loc (its[m]'hlt2))=true then [its[m]'hlt2] else []) by rw [HDN.out];exact filt_take hlt2);have HXP:=hid (HSZL.out.2 _ (List.getElem_mem hlt2));clear q0 q1 q2 q3 q4 hic2;generalize its[m]'hlt2=x at *
      obtain⟨xp,xv,xal,xd,xa⟩:=x
      simp only at r0 r1 r2 r3 r4 HXP;have D7:=hid ((ON7.out.block Db (lt_of_block D5.out) (by intro h2;have h3:=Option.some.inj h2;have:=HDE.out;omega)).trans D5.out);have HA8:=hid (bal w7 (.cells #[.string ⟨xp.toArray⟩,.string ⟨xv.toArray⟩,.bool xal,.string ⟨xd.toArray⟩,.int .i64 xa] 55));have X8:=hid (heap_alloc_new w7 (.cells #[.string ⟨xp.toArray⟩,.string ⟨xv.toArray⟩,.bool xal,.string ⟨xd.toArray⟩,.int .i64 xa] 55));go_upto_region 17 with fail;generalize w7.alloc (.cells #[.string ⟨xp.toArray⟩,.string ⟨xv.toArray⟩,.bool xal,.string ⟨xd.toArray⟩,.int .i64 xa] 55)=w8 at *;have D8:=hid (bk HA8.out D7.out);have F8:=hid (bk HA8.out F7.out);have OU8:=hid (OU7.out.below HA8.out);have ON8:=hid (ON7.out.below HA8.out);have B8:=hid (BW.out.then HA8.out);have HBZ8:=hid ON8.out.size;have XLT:=hid (lt_of_block X8.out);clear r0 r1 r2 r3 r4 hib2 F7 OU7 ON7 BW HA8 D7 BC d0 d1 d2 dl D6;generalize w7.heap.size=Xb at *
      obtain⟨x0,x1,x2,x3,x4,xl⟩:=Zf X8.out
      obtain⟨d0,d1,d2,dl⟩:=Qj D8.out
      obtain⟨up,hup⟩:∃ up,up=(Xw R.par loc).1:=⟨_,rfl⟩
      obtain⟨pk,hpk⟩:∃ pk,pk=(Xw R.par loc).2:=⟨_,rfl⟩
      have HSI:=hid (show sameI R loc ⟨xp,xv,xal,xd,xa⟩=(!xal&&(pk&&decide (loc≠Qv)&&decide (Xy R.t xp (Xl R.par up)=some xv))) from by rw [hup,hpk];rfl);have PA8:=hid (show ∀ W,Below w8.heap.size w8 W→Calls Tryz.prog 23 #[.pointer (some ⟨vc,0,none⟩),.string ⟨loc.toArray⟩] W fun e w'=>e=.returned (.tuple #[.string ⟨up.toArray⟩,.bool pk])∧Below W.heap.size W w' from fun W h=>by rw [hup,hpk];exact PA.out W (B8.out.then h) loc HSZL.out.1);have CH8:=hid (fun W (h:Below w8.heap.size w8 W)=>CHS.out W (B8.out.then h));have HUP:=hid (show pk=true→up.length≤maxLen from by rw [hup,hpk];exact PUP.out loc);have hS0:Below w8.heap.size w8 w8.drew:=(Below.refl _ _).drew;have hc0:w8.drew.cell? ⟨Db,0,none⟩=some (.string ⟨loc.toArray⟩):=d0;clear hup hpk;go_upto_region 18 with fail
      go_cut [12,13] from 53 to 61 (fun v12 v13 wx=>v12=.string ⟨up.toArray⟩∧v13=.bool pk∧Below w8.heap.size w8 wx)
      case first =>
       go_region_held3 (fun W=>W.cell? ⟨Db,0,none⟩=some (.string ⟨loc.toArray⟩)∧Below w8.heap.size w8 W) (first | with_reducible assumption | go_keep) (first
        | (go_at_call 14;refine(CH8.out _ (by with_reducible assumption)).mono ?_;rintro e wT ⟨rfl,rfl⟩)
        | (go_at_call 23;refine(PA8.out _ (by with_reducible assumption)).mono ?_;rintro e wL ⟨rfl,bL⟩;have hSL:Below w8.heap.size w8 wL:=Below.then (by with_reducible assumption) bL;have hcL:wL.cell? ⟨Db,0,none⟩=some (.string ⟨loc.toArray⟩):=(hSL.cell (p:=⟨Db,0,none⟩) dl).trans d0;clear bL))
       all_goals
        go_wp2_with fail
        go_meet
        exact⟨rfl,rfl,by with_reducible assumption⟩
      case rest =>
       obtain⟨rfl,rfl,b9⟩:=hcut
       rename World=>w9
       have D9:=hid (bk b9 D8.out);have F9:=hid (bk b9 F8.out);have X9:=hid (bk b9 X8.out);have OU9:=hid (OU8.out.below b9);have ON9:=hid (ON8.out.below b9);have B9:=hid (B8.out.then b9);clear b9 hS0 hc0 x0 x1 x2 x3 x4 xl d0 d1 d2 dl F8 X8 OU8 ON8 HBZ8 D8 B8 PA8 CH8 XLT
       obtain⟨x0,x1,x2,x3,x4,xl⟩:=Zf X9.out
       obtain⟨d0,d1,d2,dl⟩:=Qj D9.out
       obtain⟨cd,hcd⟩:∃ cd,cd=(!xal&&(pk&&decide (loc≠Qv))):=⟨_,rfl⟩
       have HCD:=hid (show pk=true→xal=false→loc≠Qv→cd=true from fun h1 h2 h3=>by rw [hcd,h1,h2,decide_eq_true h3];rfl);have HCF:=hid (show(pk=false∨xal=true∨loc=Qv)→cd=false from fun h=>by
        rw [hcd]
        rcases h with h | h | h
        ·rw [h];simp
        ·rw [h];rfl
        ·rw [h];simp)
       have HCT:=hid (show cd=true→pk=true from fun h=>by rw [hcd] at h;simp only [Bool.and_eq_true] at h;exact h.2.1);have HSJ:=hid (show sameI R loc ⟨xp,xv,xal,xd,xa⟩=(cd&&decide (Xy R.t xp (Xl R.par up)=some xv)) from by rw [HSI.out,hcd];simp only [Bool.and_assoc]);clear hcd HSI;go_upto_region 19 with fail
       go_cut [71] from 61 to 72 (fun v71 wx=>v71=.bool cd∧wx=w9)
       case first =>
        cases pk with
        | false =>
         obtain rfl:=HCF.out (Or.inl rfl);go_wp2_with fail
         go_meet
         exact⟨rfl,rfl⟩
        | true =>
         cases xal with
         | true =>
          obtain rfl:=HCF.out (Or.inr (Or.inl rfl));go_wp2_with fail
          go_meet
          exact⟨rfl,rfl⟩
         | false =>
          by_cases hr:loc=Qv
          ·obtain rfl:=HCF.out (Or.inr (Or.inr hr));have hr2:(loc != [114,111,111,116])=false:=by rw [hr];rfl
           have hr3:(loc==[114,111,111,116])=true:=by rw [hr];rfl
           clear hr;go_wp2_with fail
           go_meet
           exact⟨rfl,rfl⟩
          ·obtain rfl:=HCD.out rfl rfl hr;have hr2:(loc != [114,111,111,116])=true:=bne_iff_ne.2 hr;have hr3:(loc==[114,111,111,116])=false:=beq_eq_false_iff_ne.2 hr;clear hr;go_wp2_with fail
           go_meet
           exact⟨rfl,rfl⟩
       case rest =>
        obtain⟨rfl,rfl⟩:=hcut
        rename World=>w9'
        go_upto_if 71 with fail
        have CHU:=hid (fun(h:cd=true)=>CH.out w9' B9.out up (HUP.out (HCT.out h)));have GET:=hid (fun W (h:Below w9'.heap.size w9' W) s (hs:s.length≤maxLen)=>GE.out W (B9.out.then h) s xp hs HXP.out);have CHC:=hid (fun W (h:Below w9'.heap.size w9' W)=>CHS.out W (B9.out.then h));have CNU:=hid (CNE.out up);have CNL:=hid (CLN.out up);have HFT:=hid (fun n (h:n<(Xl R.par up).length)=>firstUp_take (t:=R.t) (q:=xp) h);have HFE:=hid (fun n (h:(Xl R.par up).length≤n)=>(show Xy R.t xp ((Xl R.par up).take n)=Xy R.t xp (Xl R.par up) from by rw [List.take_of_length_le h]));have HF0:=hid (show Xy R.t xp ((Xl R.par up).take 0)=none from rfl);generalize Xl R.par up=ch at *
        go_cut [11,14,16,17,18] from 72 to 103 (fun v11 v14 v16 v17 v18 wx=>v11=.bool (sameI R loc ⟨xp,xv,xal,xd,xa⟩)∧Below w9'.heap.size w9' wx)
        case first =>
         cases cd with
         | false =>
          have HS0:=hid (show sameI R loc ⟨xp,xv,xal,xd,xa⟩=false from by rw [HSJ.out];rfl);go_wp2_with fail
          go_meet
          exact⟨by rw [HS0.out],Below.refl _ _⟩
         | true =>
          have HS1:=hid (show sameI R loc ⟨xp,xv,xal,xd,xa⟩=decide (Xy R.t xp ch=some xv) from by rw [HSJ.out];rfl);have CHT:=hid (CHU.out rfl);have CC0:=hid (CHC.out w9' (Below.refl _ _));clear HSJ CHU CHC HCD HCF HCT;go_wp2_with fail;refine CC0.out.mono ?_;rintro e w9a ⟨rfl,rfl⟩;go_wp2_with fail;refine CHT.out.mono ?_;rintro e wA ⟨vA,rfl,oA,bA⟩;have OA:=hid (ownT_S.2 oA);have BA:=hid bA
          obtain⟨aA,cA,rfl⟩:=Qc oA
          clear oA bA CHT CC0;go_wp2_with fail
          go_loopg [11,14,77] ch.length (fun g v11 v14 v77 W=>∃ (j:Nat) (fo:Option Str),j≤ch.length∧ch.length≤j+g∧v11=.bool (decide (fo=some xv))∧v14=.bool fo.isSome∧v77=.int .i64 j∧fo=Xy R.t xp (ch.take j)∧Below wA.heap.size wA W)
          case atStart=>exact⟨0,none,Nat.zero_le _,by omega,by simp,rfl,rfl,HF0.out.symm,Below.refl _ _⟩
          case round =>
           obtain⟨j,fo,hj,hg3,rfl,rfl,rfl,hfo,hb⟩:=hrel
           rename World=>wl
           have HG3:=hid hg3;have HFO:=hid hfo;have HBl:=hid hb;clear hg3 hfo hb
           by_cases hlt3:j<ch.length
           ·have hji:(j:Int)<(ch.length:Int):=by omega
            have hj0:(0:Int)≤(j:Int):=by omega
            have hjz:(ch.length:Int)≤732:=by have:=CNL.out;omega
            have hso:=OA.out.below HBl.out
            obtain⟨gs,rfl⟩:=Qf.some' hso (by intro e;rw [e] at hlt3;simp at hlt3)
            obtain⟨r0,_,gl⟩:=hso.cell j 0 (.string ⟨(ch[j]'hlt3).toArray⟩) hlt3 rfl
            rw [Nat.mul_one,Nat.add_zero] at r0;have FTj:=hid (HFT.out j hlt3);rw [← HFO.out] at FTj;have HCN:=hid (CNU.out _ (List.getElem_mem hlt3));generalize ch[j]'hlt3=s at *;have HAT:=hid (at_ne (t:=R.t) (q:=xp) HCN.out.1);have GEj:=hid (GET.out wl (BA.out.then HBl.out) s HCN.out.2);have XL:=hid (((BA.out.then HBl.out).block _ (lt_of_block X9.out)).trans X9.out);clear hso x0 x1 x2 x3 x4 xl
            obtain⟨x0,x1,x2,x3,x4,xl⟩:=Zf XL.out
            go_wp2_with fail;refine GEj.out.mono ?_;rintro e wn ⟨rfl,hbn⟩;have Bn:=hid (HBl.out.then hbn);have XN:=hid (bk hbn XL.out);clear hbn r0 gl GEj x0 x1 x2 x3 x4 xl XL
            obtain⟨x0,x1,x2,x3,x4,xl⟩:=Zf XN.out
            generalize Qy R.t.rows s xp=fr at *
            cases fr with
            | none =>
             have HN:=hid (show fo=Xy R.t xp (ch.take (j+1)) from by rw [FTj.out,HAT.out];cases fo <;> rfl);simp only [rText,Option.map_none,Option.getD_none,Option.isSome_none];go_wp2_with fail
             go_roundg (gk - 1)
             case measure=>have:=HG3.out;omega
             case rel=>exact⟨j+1,fo,by omega,by have:=HG3.out;omega,rfl,rfl,by simp,HN.out,Bn.out⟩
            | some r =>
             obtain⟨tx,htx⟩:∃ tx,tx=r.text:=⟨_,rfl⟩
             simp only [rText,Option.map_some,Option.getD_some,Option.isSome_some];rw [← htx]
             by_cases har:tx=arrows
             ·have hs1:(tx != [226,134,145,226,134,145,226,134,145])=false:=by rw [har];rfl
              have hs2:(tx==[226,134,145,226,134,145,226,134,145])=true:=by rw [har];rfl
              have HN:=hid (show fo=Xy R.t xp (ch.take (j+1)) from by
               rw [FTj.out,HAT.out];simp only;rw [if_pos (htx.symm.trans har)];cases fo <;> rfl)
              clear har htx;go_wp2_with fail
              go_roundg (gk - 1)
              case measure=>have:=HG3.out;omega
              case rel=>exact⟨j+1,fo,by omega,by have:=HG3.out;omega,rfl,rfl,by simp,HN.out,Bn.out⟩
             ·have hs1:(tx != [226,134,145,226,134,145,226,134,145])=true:=bne_iff_ne.2 har;have hs2:(tx==[226,134,145,226,134,145,226,134,145])=false:=beq_eq_false_iff_ne.2 har;have HA2:=hid (show atF R.t (s,xp)=some tx from by rw [HAT.out];simp only;rw [if_neg (fun e=>har (htx.trans e)),htx]);clear har htx
              cases fo with
              | some y =>
               have HN:=hid (show some y=Xy R.t xp (ch.take (j+1)) from FTj.out.symm);simp only [Option.isSome_some];go_wp2_with fail
               go_roundg (gk - 1)
               case measure=>have:=HG3.out;omega
               case rel=>exact⟨j+1,some y,by omega,by have:=HG3.out;omega,by simp,rfl,by simp,HN.out,Bn.out⟩
              | none =>
               have HN:=hid (show some tx=Xy R.t xp (ch.take (j+1)) from by rw [FTj.out];exact HA2.out.symm);simp only [Option.isSome_none];go_wp2_with fail
               go_roundg (gk - 1)
               case measure=>have:=HG3.out;omega
               case rel=>exact⟨j+1,some tx,by omega,by have:=HG3.out;omega,by rw [← beq_some],rfl,by simp,HN.out,Bn.out⟩
           ·have hji:¬ (j:Int)<(ch.length:Int):=by omega
            have HFF:=hid (show sameI R loc ⟨xp,xv,xal,xd,xa⟩=decide (fo=some xv) from by rw [HS1.out,HFO.out,HFE.out j (by omega)]);have BF:=hid (BA.out.then HBl.out);go_wp2_with fail
            go_meet
            exact⟨by rw [HFF.out],BF.out⟩
        case rest =>
         obtain⟨rfl,b9⟩:=hcut
         rename World=>wB
         generalize sameI R loc ⟨xp,xv,xal,xd,xa⟩=sm at *;have FB:=hid (bk b9 F9.out);have XB:=hid (bk b9 X9.out);have OUB:=hid (OU9.out.below b9);have ONB:=hid (ON9.out.below b9);have HBZB:=hid ONB.out.size;clear b9 x0 x1 x2 x3 x4 xl d0 d1 d2 dl F9 X9 OU9 ON9 D9 B9 CHU GET CHC CNU CNL HFT HFE HF0 HSJ HCD HCF HCT
         obtain⟨x0,x1,x2,x3,x4,xl⟩:=Zf XB.out
         obtain⟨d0,d1,d2,dl⟩:=Qj FB.out
         obtain⟨df0,df1,df2⟩:=Zl FB.out
         cases sm with
         | true =>
          go_wp2_with fail
          go_roundg (gk - 1)
          case measure=>have:=HG2.out;omega
          case rel=>exact⟨m+1,_,done,by omega,by have:=HG2.out;omega,by simp,FB.out,OUB.out,ONB.out,by rw [HST.out];simp⟩
         | false =>
          go_wp2_with (at_builtin;refine Xv (E:=encI) rfl (.tmp 106) (.tmp 108) rfl Tryz.underlying51 infoItm' rfl (by decide) w5.heap.size _ done ⟨xp,xv,xal,xd,xa⟩ rfl OUB.out rfl (by have:=HDL.out;have:=HI30.out;unfold maxLen;omega) (by have:=HDL.out;have:=HI30.out;omega) HBZB.out #[.string ⟨xp.toArray⟩,.string ⟨xv.toArray⟩,.bool xal,.string ⟨xd.toArray⟩,.int .i64 xa] rfl ?_;intro v8 w10 own8 gr8 mv8;obtain⟨a8,c8,rfl,_⟩:=own8.slice;have F10:=hid ((gr8.block _ (lt_of_block FB.out) (fun e=>UNE.out e.symm)).trans FB.out);have O10:=hid own8;have ON10:=hid (only_push ONB.out gr8 UGE.out);clear own8 gr8 mv8 d0 d1 d2 dl df0 df1 df2;obtain⟨d0,d1,d2,dl⟩:=Qj F10.out;obtain⟨df0,df1,df2⟩:=Zl F10.out)
          go_roundg (gk - 1)
          case measure=>have:=HG2.out;omega
          case rel =>
           have o8:=O10.out;simp only [List.length_append,List.length_cons,List.length_nil,Nat.zero_add] at o8
           exact⟨m+1,.slice a8 (done.length+1) c8,done++[(⟨xp,xv,xal,xd,xa⟩:Itm)],by omega,by have:=HG2.out;omega,by simp,by rw [heap_setCell_same _ _ _ _ _ _ F10.out];simp,Qw o8 (Qx o8 F10.out (by decide)) 2 _,ON10.out.set _ _,by rw [HST.out];simp⟩
     ·have hmi:¬ (m:Int)<(its.length:Int):=by omega
      have HDO:=hid (show done=its.filter (fun x=>!sameI R loc x) by rw [HDN.out,List.take_of_length_le (by omega)]);have HLS:=hid (show Jk R (D.take (n+1))=Jk R (D.take n)++[⟨loc,supp,done⟩] by rw [HTK.out,HDO.out];rfl);clear d0 d1 d2 dl
      obtain⟨d0,d1,d2,dl⟩:=Qj F7.out
      have ST7:=hid (ST5.out.only HDB2.out HLT2.out HLE2.out ON7.out);have OI7:=hid (show Qf encI 55 w7 w2'.heap.size (.slice au done.length cu) done from row_mono OU7.out ST5.out.bel.size);have HLNz:=hid (show zs.length≤10 by have h1:=congrArg List.length ST5.out.eq;rw [List.length_map] at h1;have:=SMZ.out;unfold Jk at h1;rw [List.length_map,List.length_take] at h1;omega);have HB2:=hid ST7.out.bel.size
      go_wp2_with (at_builtin;refine Xv (E:=encD) rfl (.tmp 112) (.tmp 114) rfl Tryz.underlying43 infoDoc' rfl (by decide) w2'.heap.size _ zs (⟨loc,supp,done⟩,(au,cu)) rfl ST7.out.own rfl (by have:=HLNz.out;unfold maxLen;omega) (by have:=HLNz.out;omega) HB2.out #[.string ⟨loc.toArray⟩,.bool supp,.slice au done.length cu] rfl ?_;intro v9 w9 own7 gr7 mv7;have ST9:=hid (ST7.out.push OI7.out own7 gr7);clear own7 gr7 mv7)
      go_roundg (go - 1)
      case measure=>have:=HG.out;have:=HGO.out;omega
      case rel=>exact⟨n+1,_,by omega,by have:=HG.out;omega,by simp,by rw [HLS.out];exact ST9.out⟩
   ·have hni:¬ (n:Int)<(D.length:Int):=by omega
    have OD3:=hid (show OwnD w3 w2'.heap.size u5 (Jk R D) from by have h:=ST3.out.done;rwa [List.take_of_length_le (by omega)] at h);have B3:=hid ST3.out.bel
    obtain⟨a5,c5,rfl,_⟩:=OD3.out.slice
    have RSU:=hid (RES2.out w3 _ OD3.out.rd (HT2.out _ B3.out));clear ST3 OD3 RES2 HCELL HG HGO SME SZD CHS PA CH GE PUP CNE CLN;go_wp2_with fail;refine RSU.out.mono ?_;rintro e w4 ⟨hb4,hx⟩;have B4:=hid (B3.out.then hb4);clear hb4 RSU
    rcases hx with ⟨rfl,hno⟩ | ⟨vu,C2,R2,rfl,hrs2,hri2⟩
    ·exact absurd hno LR.out.1
    ·obtain⟨b2,Bt2,vc2,va2,km2,nk2,rfl,_⟩:=id hrs2
     have RU:=hid hrs2
     obtain⟨hk2,hv2⟩:=LR.out.2 R2 hri2
     have FIT2:=hid hri2.fit;have KNU:=hid (show Calls Tryz.prog 13 #[.pointer (some ⟨b2,0,none⟩)] w4 fun e w'=>OutS w4 (srtT R.known) e w' from by
      have h:=known_any RU.out FIT2.out.ok
      rwa [hk2] at h)
     have VAU:=hid (fun W (h:Below w4.heap.size w4 W) s p (hs:s.length≤maxLen) (hp:p.length≤maxLen)=>(show Calls Tryz.prog 9 #[.pointer (some ⟨b2,0,none⟩),.string ⟨s.toArray⟩,.string ⟨p.toArray⟩] W fun e w'=>e=.returned (.tuple #[.string ⟨((valueF R s p).getD []).toArray⟩,.bool (valueF R s p).isSome])∧Below W.heap.size W w' from by
      have h:=value_any (RU.out.below h) FIT2.out.ok s p hs hp (by have:=FIT2.out.als;omega) (by have:=FIT2.out.parLen;omega) FIT2.out.sza
      rwa [hv2] at h))
     clear hrs2 hri2 hk2 hv2 LR;generalize srtT R.known=ks at *;generalize srtT R.t.names=ns at *;generalize valueF R=vf at *;go_wp2_with fail;refine KNU.out.mono ?_;rintro e w5 ⟨vk,rfl,ok5,hb5⟩;have OK5:=hid ok5;have B5:=hid (B4.out.then hb5);have B45:=hid hb5;clear ok5 hb5 KNU;have KN5:=hid (KN.out w5 B5.out);go_wp2_with fail;refine KN5.out.mono ?_;rintro e w6 ⟨vr,rfl,ok6,hb6⟩;have TX:=hid (texts14_any w6 vk vr ks (Qg.rd (Qz OK5.out hb6)) (Qg.rd ok6));have B6:=hid (B5.out.then hb6);have B46:=hid (B45.out.then hb6);clear ok6 hb6 KN5 OK5;go_wp2_with fail;refine TX.out.mono ?_;rintro e w7 ⟨rfl,hb7⟩;have B7:=hid (B6.out.then hb7);have B47:=hid (B46.out.then hb7);clear hb7 TX;have LO7:=hid (LOC.out _ B7.out)
     obtain⟨L1,hL1⟩:∃ L1,L1=ns++[[101,110,45,71,66]]:=⟨_,rfl⟩
     have HL1:=hid hL1;have HLL:=hid (show L1.length=ns.length+1 by rw [hL1];simp);have HZ1:=hid (show ∀ s∈L1,s.length≤maxLen by
      rw [hL1];intro s h
      rcases List.mem_append.1 h with h | h
      ·exact HNZ.out s h
      ·rw [List.mem_singleton.1 h];simp [maxLen])
     clear hL1;go_wp2_with fail;refine LO7.out.mono ?_;rintro e wa ⟨va',rfl,oa,hba⟩;have Oa:=hid (ownT_S.2 oa);have Ba:=hid hba
     obtain⟨aa,ca,rfl⟩:=Qc oa
     clear oa hba LO7;have HBZ:=hid Ba.out.size
     go_wp2_with (at_builtin;refine Xk rfl (.tmp 130) (.tmp 131) rfl w7.heap.size _ ns [101,110,45,71,66] rfl (ownT_S.1 Oa.out) rfl (by have:=HLN.out;omega) HBZ.out ?_;intro vb wb own gr mv;have Ob:=hid (show Qg wb w7.heap.size vb L1 by rw [HL1.out];exact own);have Bb:=hid (Ba.out.grown gr HBZ.out (fun k hk=>(World.ownsRow.lt Oa.out k hk).1));clear own gr mv;obtain⟨ab,cb,rfl⟩:=Qc Ob.out)
     go_loopg [134] L1.length (fun g v134 W=>∃ n:Nat,n≤L1.length∧L1.length≤n+g∧v134=.int .i64 n∧Qg W w7.heap.size (.slice ab L1.length cb) L1∧Below w7.heap.size w7 W)
     case atStart=>exact⟨0,Nat.zero_le _,by omega,rfl,Ob.out,Bb.out⟩
     case round =>
      obtain⟨q,hq,hg,rfl,ho,hb⟩:=hrel
      rename World=>wq
      have HG:=hid hg;have HO:=hid ho;have HB:=hid hb
      obtain⟨gq,hgq⟩:∃ gq,gq=gk:=⟨_,rfl⟩
      have HGQ:=hid hgq;clear hg ho hb Ob Bb hgq
      by_cases hlt:q<L1.length
      ·have hqi:(q:Int)<(L1.length:Int):=by omega
       have hL1z:(L1.length:Int)≤9223372036854775807:=by have:=HLL.out;have:=HLN.out;omega
       have hq0:(0:Int)≤(q:Int):=by omega
       have hso:=ownT_S.2 HO.out
       obtain⟨gb,rfl⟩:=Qf.some' hso (by intro e;rw [e] at hlt;simp at hlt)
       obtain⟨r0,_,gl⟩:=hso.cell q 0 (.string ⟨(L1[q]'hlt).toArray⟩) hlt rfl
       rw [Nat.mul_one,Nat.add_zero] at r0;have HSL:=hid (HZ1.out _ (List.getElem_mem hlt));generalize L1[q]'hlt=s at *;clear hso;have KNq:=hid (KN.out wq (B7.out.then HB.out));go_wp2_with fail;refine KNq.out.mono ?_;rintro e wr ⟨vq,rfl,oq,hbq⟩;have OQ:=hid oq;have BQ:=hid hbq;have Br:=hid ((B7.out.then HB.out).then hbq);have Br4:=hid ((B47.out.then HB.out).then hbq)
       obtain⟨aq,cq,rfl⟩:=Qc oq
       clear oq hbq r0 gl KNq;go_wp2_with fail
       go_loopg [141] ks.length (fun g v141 W=>∃ m:Nat,m≤ks.length∧ks.length≤m+g∧v141=.int .i64 m∧Below wr.heap.size wr W)
       case atStart=>exact⟨0,Nat.zero_le _,by omega,rfl,Below.refl _ _⟩
       case round =>
        obtain⟨m,hm,hg2,rfl,hb⟩:=hrel
        rename World=>wm
        have HG2:=hid hg2;have HBm:=hid hb;clear hg2 hb
        by_cases hlt2:m<ks.length
        ·have hmi:(m:Int)<(ks.length:Int):=by omega
         have hm0:(0:Int)≤(m:Int):=by omega
         have hkz:(ks.length:Int)≤600:=by have:=HK6.out;omega
         have hso:=ownT_S.2 (Qz OQ.out HBm.out)
         obtain⟨gs,rfl⟩:=Qf.some' hso (by intro e;rw [e] at hlt2;simp at hlt2)
         obtain⟨r0,_,gl⟩:=hso.cell m 0 (.string ⟨(ks[m]'hlt2).toArray⟩) hlt2 rfl
         rw [Nat.mul_one,Nat.add_zero] at r0;have HPL:=hid (show(ks[m]'hlt2).length≤maxLen from Nat.le_trans (HKP.out _ (List.getElem_mem hlt2)) (by decide));generalize ks[m]'hlt2=p at *;clear hso;have VA1:=hid (VA.out wm (Br.out.then HBm.out) s p HSL.out HPL.out);have VA2:=hid (fun W (h:Below wm.heap.size wm W)=>VAU.out W ((Br4.out.then HBm.out).then h) s p HSL.out HPL.out);generalize vf s p=vv at *;go_wp2_with fail;refine VA1.out.mono ?_;rintro e wn ⟨rfl,hbn⟩;have BN:=hid hbn;have VA3:=hid (VA2.out wn hbn);clear hbn VA1 VA2 r0 gl;go_wp2_with fail;refine VA3.out.mono ?_;rintro e wo ⟨rfl,hbo⟩;have BO:=hid (HBm.out.then (BN.out.then hbo));clear hbo VA3 BN;go_wp2_with fail
         go_roundg (gk - 1)
         case measure=>have:=HG2.out;omega
         case rel=>exact⟨m+1,by omega,by have:=HG2.out;omega,by simp,BO.out⟩
        ·have hmi:¬ (m:Int)<(ks.length:Int):=by omega
         have BL:=hid (HB.out.then (BQ.out.then HBm.out));have OL:=hid (Qz HO.out (BQ.out.then HBm.out));go_wp2_with fail
         go_roundg (gq - 1)
         case measure=>have:=HG.out;have:=HGQ.out;omega
         case rel=>exact⟨q+1,by omega,by have:=HG.out;have:=HGQ.out;omega,by simp,OL.out,BL.out⟩
      ·have hqi:¬ (q:Int)<(L1.length:Int):=by omega
       have BE:=hid (BS.out.then (B7.out.then HB.out));go_wp2_with fail;exact bodyPost_ret (v:=.bool true) (by simp [results,Tryz.results6,go_sem]) rfl ⟨rfl,BE.out⟩
end
section
open Go.RowKit Go.Lib Go.Sort Go.ChangeShapes Go.WideShapes
theorem bulk_mem {H:Type}{d:DataW H}:∀ {l:List (DataW H)},d∈l→Rows.uptoBulk d≤Rows.uptoBulkAll l
 | x::r,h=>by
  simp only [Rows.uptoBulkAll]
  rcases List.mem_cons.1 h with rfl | h
  ·omega
  ·have:=bulk_mem h;omega
section
variable {H : Type} {enc : TypeId × Value → H} {w : World} {base : Nat} {spare : Nat → Bool} {held : Bool}
theorem open_rdLB {α:Type}{k:Nat}(E:Enc α k)(hk:0<k){tS tE:TypeId}(hu:Tryz.prog.underlying tS=some (.slice tE))(hC:Tryz.prog.cellsOf tE=k)(P:α→DataW H→Prop)
  (hel:∀ (n:Nat)(cs:List Value)(y:DataW H×List MemPlace),DataW.trod enc Tryz.prog w base spare held n tE cs=some y→∃ x,cs=E.enc x∧P x y.1){fuel:Nat}{cs:List Value}{x:DataW H×List MemPlace}(h:DataW.trod enc Tryz.prog w base spare held fuel tS cs=some x) :
  ∃ v l,cs=[v]∧RdL E w v l∧∀ z∈l,∃ d,P z d∧Rows.uptoBulk d≤Rows.uptoBulk x.1:=by
 rcases DataW.trod_slice hu h with ⟨rfl,_⟩ | ⟨a,len,cap,elems,rest,n,_,rfl,hx,hb,hl,hm,hlen,hel2,_,_⟩
 ·exact⟨_,[],rfl,RdL.nil E w,fun p hp=>by cases hp⟩
 ·rw [hC] at hel2;have key:∀ i:Fin len,∃ p:α,w.cells? base (a.add (i.1 * k)) k=some (E.enc p)∧∃ d,P p d∧Rows.uptoBulk d≤Rows.uptoBulk x.1:=by
   intro i;have hy:=hel2 i.1 i.2;rw [List.getElem?_eq_getElem (by omega),Option.bind_eq_some_iff] at hy
   obtain⟨cs',hcs,hy'⟩:=hy
   obtain⟨p,rfl,hp⟩:=hel _ _ _ hy'
   refine⟨p,hcs,_,hp,?_⟩
   rw [hx];simp only [Rows.uptoBulk]
   have:=bulk_mem (d:=(elems[i.1]'(by omega)).1) (l:=elems.map (·.1)) (List.mem_map.2 ⟨_,List.getElem_mem _,rfl⟩)
   omega
  have hf:=fun i=>(key i).choose_spec
  obtain⟨f,hfe⟩:∃ f:Fin len→α,f=fun i=>(key i).choose:=⟨_,rfl⟩
  have hf2:∀ i,w.cells? base (a.add (i.1 * k)) k=some (E.enc (f i))∧∃ d,P (f i) d∧Rows.uptoBulk d≤Rows.uptoBulk x.1:=by rw [hfe];exact hf
  have hlen2:(List.ofFn f).length=len:=List.length_ofFn
  refine⟨.slice (some a) len cap,List.ofFn f,rfl,⟨some a,cap,by rw [hlen2],⟨by rw [hlen2];exact hl,by rw [hlen2];unfold maxLen at hm;omega,fun e=>by cases e⟩,fun hne=>?_⟩,fun p hp=>?_⟩
  ·have h0:0<len:=by
    rcases Nat.eq_zero_or_pos len with h0 | h0
    ·subst h0;simp at hne
    ·exact h0
   have c0:=(World.cells?_some (hf2 ⟨0,h0⟩).1).2.2 0 (by omega);rw [List.getElem?_eq_getElem (show 0<(E.enc (f ⟨0,h0⟩)).length by rw [E.len];exact hk)] at c0;rw [show(a.add (0 * k)).add 0=a from by unfold Addr.add;simp] at c0
   obtain⟨hs,hlt⟩:=spot_of_cell c0
   obtain⟨b,off,sp⟩:=a
   simp only at hs hlt;subst hs
   refine⟨b,off,rfl,hlt,fun j i y hj hy=>?_⟩
   rw [hlen2] at hj;have hc:=(World.cells?_some (hf2 ⟨j,hj⟩).1);have hi:i<k:=by have:=(List.getElem?_eq_some_iff.1 hy).1;rwa [E.len] at this
   have hci:=hc.2.2 i hi;rw [add_of,add_of] at hci;rw [hci];rw [List.getElem_ofFn] at hy;exact hy
  ·obtain⟨i,rfl⟩:=(List.mem_ofFn).1 hp
   exact(hf2 i).2
theorem open_itemB (n:Nat)(cs:List Value)(y:DataW H×List MemPlace)(h:DataW.trod enc Tryz.prog w base spare held n 55 cs=some y):∃ x:Itm,cs=encI.enc x∧(x.path.length≤maxLen∧x.value.length≤Rows.uptoBulk y.1):=by
 have hC:Tryz.prog.cellsOf 55=5:=by kernel_rfl
 have hD:Tryz.prog.cellsOf 9=1:=by kernel_rfl
 have hE:Tryz.prog.cellsOf 4=1:=by kernel_rfl
 have hF:Tryz.prog.cellsOf 3=1:=by kernel_rfl
 obtain⟨xs,m,_,hy,hl,hlen,hfs⟩:=DataW.trod_struct Tryz.underlying55 h
 rw [hC] at hl
 obtain⟨c0,c1,c2,c3,c4,rfl⟩:=list5 hl
 have g0:=hfs 0 _ rfl;have g1:=hfs 1 _ rfl;have g2:=hfs 2 _ rfl;have g3:=hfs 3 _ rfl;have g4:=hfs 4 _ rfl;have hx:xs.length=5:=hlen;rw [List.getElem?_eq_getElem (by omega)] at g0 g1 g2 g3 g4;simp only [List.getElem_toArray,List.getElem_cons_zero,List.getElem_cons_succ,hD,hE,hF,List.drop_zero,List.drop_succ_cons,List.take_succ_cons,List.take_zero] at g0 g1 g2 g3 g4
 obtain⟨s0,e0,_,z0⟩:=DataW.trod_string Tryz.underlying9 g0
 obtain⟨s1,e1,f1,z1⟩:=DataW.trod_string Tryz.underlying9 g1
 obtain⟨b2,e2,_⟩:=DataW.trod_bool Tryz.underlying4 g2
 obtain⟨s3,e3,_,z3⟩:=DataW.trod_string Tryz.underlying9 g3
 obtain⟨i4,e4,_,_⟩:=DataW.trod_int Tryz.underlying3 g4
 obtain rfl:=List.head_eq_of_cons_eq e0;obtain rfl:=List.head_eq_of_cons_eq e1;obtain rfl:=List.head_eq_of_cons_eq e2;obtain rfl:=List.head_eq_of_cons_eq e3;obtain rfl:=List.head_eq_of_cons_eq e4
 refine⟨⟨s0.data.toList,s1.data.toList,b2,s3.data.toList,i4⟩,?_,z0,?_⟩
 ·rw [S_of s0,S_of s1,S_of s3];rfl
 ·rw [hy];simp only [Rows.uptoBulk];have hm:=bulk_mem (d:=(xs[1]'(by omega)).1) (l:=xs.map (·.1)) (List.mem_map.2 ⟨_,List.getElem_mem _,rfl⟩);rw [f1] at hm;simp only [Rows.uptoBulk] at hm
  omega
theorem open_docB (n:Nat)(cs:List Value)(y:DataW H×List MemPlace)(h:DataW.trod enc Tryz.prog w base spare held n 53 cs=some y):∃ z:Dc×(Option Addr×Nat),cs=encD.enc z∧((z.1.loc.length≤maxLen∧∀ x∈z.1.items,x.path.length≤maxLen)∧(∀ x∈z.1.items,x.value.length≤Rows.uptoBulk y.1)∧RdL encI w (.slice z.2.1 z.1.items.length z.2.2) z.1.items):=by
 have hC:Tryz.prog.cellsOf 53=3:=by kernel_rfl
 have hD:Tryz.prog.cellsOf 9=1:=by kernel_rfl
 have hE:Tryz.prog.cellsOf 4=1:=by kernel_rfl
 have hF:Tryz.prog.cellsOf 51=1:=by kernel_rfl
 have hI:Tryz.prog.cellsOf 55=5:=by kernel_rfl
 obtain⟨xs,m,_,hy,hl,hlen,hfs⟩:=DataW.trod_struct Tryz.underlying53 h
 rw [hC] at hl
 obtain⟨c0,c1,c2,rfl⟩:=list3 hl
 have g0:=hfs 0 _ rfl;have g1:=hfs 1 _ rfl;have g2:=hfs 2 _ rfl;have hx:xs.length=3:=hlen;rw [List.getElem?_eq_getElem (by omega)] at g0 g1 g2;simp only [List.getElem_toArray,List.getElem_cons_zero,List.getElem_cons_succ,hD,hE,hF,List.drop_zero,List.drop_succ_cons,List.take_succ_cons,List.take_zero] at g0 g1 g2
 obtain⟨s0,e0,_,z0⟩:=DataW.trod_string Tryz.underlying9 g0
 obtain⟨b1,e1,_⟩:=DataW.trod_bool Tryz.underlying4 g1
 obtain⟨v2,l2,e2,r2,p2⟩:=open_rdLB encI (by decide) Tryz.underlying51 hI (fun x d=>x.path.length≤maxLen∧x.value.length≤Rows.uptoBulk d) open_itemB g2
 obtain rfl:=List.head_eq_of_cons_eq e0;obtain rfl:=List.head_eq_of_cons_eq e1;obtain rfl:=List.head_eq_of_cons_eq e2
 obtain⟨ao,cp,rfl,_⟩:=r2.slice
 refine⟨(⟨s0.data.toList,b1,l2⟩,(ao,cp)),?_,⟨z0,fun x hx=>?_⟩,fun x hx=>?_,r2⟩
 ·rw [S_of s0];rfl
 ·obtain⟨d,h1,_⟩:=p2 x hx
  exact h1.1
 ·obtain⟨d,h1,h2⟩:=p2 x hx
  rw [hy];simp only [Rows.uptoBulk];have hm:=bulk_mem (d:=(xs[2]'(by omega)).1) (l:=xs.map (·.1)) (List.mem_map.2 ⟨_,List.getElem_mem _,rfl⟩)
  have:=h1.2
  omega
theorem open_docsB {v:Value}{d:DataW H}{p:List MemPlace}{r:Reach}{b0:Nat}(hv:Value.okWide Tryz.prog w r b0 43 v)(h:DataW.Trod enc Tryz.prog w base spare held 43 v d p):∃ l:List Dc,RdD w v l∧SzL l∧∀ z∈l,∀ x∈z.items,x.value.length≤Rows.uptoBulk d:=by
 have hC:Tryz.prog.cellsOf 53=3:=by kernel_rfl
 obtain⟨fuel,hf⟩:=h
 obtain⟨v',zs,e,hr,hp⟩:=open_rdLB encD (by decide) Tryz.underlying43 hC (fun z d=>(z.1.loc.length≤maxLen∧∀ x∈z.1.items,x.path.length≤maxLen)∧(∀ x∈z.1.items,x.value.length≤Rows.uptoBulk d)∧RdL encI w (.slice z.2.1 z.1.items.length z.2.2) z.1.items) open_docB hf
 obtain⟨ao,cp,rfl,_⟩:=hr.slice
 have hvv:v=.slice ao zs.length cp:=by
  obtain⟨a0,n0,c0,rfl⟩:=okWide_slice Tryz.underlying43 hv
  exact List.head_eq_of_cons_eq e
 subst hvv
 refine⟨zs.map (·.1),⟨zs,rfl,hr,fun z hz=>?_⟩,fun d' hd=>?_,fun d' hd x hx=>?_⟩
 ·obtain⟨_,h1,_⟩:=hp z hz
  exact h1.2.2
 ·obtain⟨z,hz,rfl⟩:=List.mem_map.1 hd
  obtain⟨_,h1,_⟩:=hp z hz
  exact h1.1
 ·obtain⟨z,hz,rfl⟩:=List.mem_map.1 hd
  obtain⟨_,h1,h2⟩:=hp z hz
  exact Nat.le_trans (h1.2.1 x hx) h2
end
end
end Go.Proofs.YtbbmdbolkicpcaaGreatDoor
