/- InhOwn, OpenB -/
import Derived.Test.YtbbmdbolkicpcaaGreatDoorIOG23
import Derived.Test.YtbbmdbolkicpcaaGreatDoorRows
import Derived.Test.YtbbmdbolkicpcaaGreatDoorIOG21
set_option maxRecDepth 100000
set_option maxHeartbeats 32000000
set_option linter.unusedVariables false
set_option linter.unusedSimpArgs false
namespace Go.Proofs.YtbbmdbolkicpcaaGreatDoor
section
open Go.RowKit Go.Lib Go.Sort Go.Maps Go.WideMaps
theorem RdD.bel {w w1:World}{v:Value}{l:List Dc}(h:RdD w v l)(hb:Below w.heap.size w w1):RdD w1 v l:=by
 obtain⟨zs,h1,h2,h3⟩:=h
 exact⟨zs,h1,h2.below hb,fun z hz=>(h3 z hz).below hb⟩
theorem ResIs.names {D:List Dc}{R:Rsv}(h:ResIs D R)(hs:SzL D):∀ s∈srtT R.t.names,s.length≤maxLen:=fun s hs'=>names_sz h.fit.fit.sz hs'
theorem RsvFit.pathsLen {R:Rsv}(h:RsvFit R)(l:Str):(pathsF R.t l).length≤16384:=by
 refine Nat.le_trans (nodup_le _ R.t.paths (((srtT_perm _).nodup_iff).2 (rows_nodup h.fit.ok l)) fun p hp=>?_) h.fit.ok.p16;have h1:=(srtT_perm _).mem_iff.1 hp
 obtain⟨r,hr,rfl⟩:=List.mem_map.1 h1
 exact h.fit.ok.rp r (List.mem_filter.1 hr).1
theorem own_said {R:Rsv}(h:RsvFit R){l p:Str}(hp:p∈pathsF R.t l):∃ r,findR R.t.rows l p=some r∧(r.text≠arrows∨l=[]→valueF R l p=some r.text):=by
 have h1:=path_has hp
 obtain⟨r,hr⟩:=Option.isSome_iff_exists.1 h1
 refine⟨r,hr,fun hs=>value_own h.ok hr ?_ hs⟩
 obtain⟨g1,g2,_⟩:=findR_some hr
 have:=h.fit.locs r g1
 rwa [g2] at this
theorem look_le (t:Tb):∀ a:List (Str×Str),(lookF t a).1.length≤a.length
 | []=>Nat.le_refl _
 | s::r=>by
  rw [lookF]
  cases atF t s with
  | some v=>simp
  | none=>have:=look_le t r;simp;omega
theorem own14_any (w:World)(l:List Dc)(v:Value)(loc path:Str)(hd:RdD w v l)(hs:SzL l)(hv:SzV l)(hloc:loc.length≤maxLen)(hpath:path.length≤maxLen)(hT:TabsB w.heap.size w) :
  Calls Tryz.prog 4 #[v,.string ⟨loc.toArray⟩,.string ⟨path.toArray⟩] w fun e w'=>e=.returned (.bool true)∧Below w.heap.size w w':=by
 have HT:=hid (fun W (h:Below w.heap.size w W)=>(show TabsB W.heap.size W from⟨(hT.below h).1,Nat.lt_of_lt_of_le hT.2.1 h.size,Nat.lt_of_lt_of_le hT.2.2 h.size⟩));have HD:=hid hd;have HSZ:=hid hs;have HSV:=hid hv;have HLOC:=hid hloc;have HPATH:=hid hpath;clear hd hs hv hloc hpath hT
 go_enter Tryz.func4,Tryz.ntmps4
 go_wp2_with fail
 refine(w14wakes_gen w (HT.out _ (Below.refl _ _))).mono ?_
 rintro e w1 ⟨rfl,hb1⟩;have RSV:=hid (resolver_any w1 l v (HD.out.bel hb1) HSZ.out HSV.out (HT.out _ hb1));have B1:=hid hb1;clear hb1 HD HT;go_wp2_with fail;refine RSV.out.mono ?_;rintro e w2 ⟨hb2,hx⟩;have B2:=hid (B1.out.then hb2);clear hb2 B1 RSV
 rcases hx with ⟨rfl,_⟩ | ⟨vr,C,R,rfl,hrs,hri⟩
 ·go_wp2_with fail;exact bodyPost_ret (v:=.bool true) (by simp [results,Tryz.results4,go_sem]) rfl ⟨rfl,B2.out⟩
 ·obtain⟨b,Bt,vc,va,km,nk,rfl,hbx,htb,_⟩:=id hrs
  have RS2:=hid hrs;have T2:=hid htb;have FIT:=hid hri.fit;have TAB:=hid (rtable_any w2 b Bt vc va km hbx);have HNZ:=hid (hri.names (sz_cut14 HSZ.out));clear hrs hri hbx htb HSZ HSV;have LOC:=hid (fun W (h:TbP C W Bt R.t)=>h.locales FIT.out.fit.ok);have PA:=hid (fun W (h:TbP C W Bt R.t) s (hs:s.length≤maxLen)=>h.paths FIT.out.fit.ok s hs);have GE:=hid (fun W (h:TbP C W Bt R.t) s p (hs:s.length≤maxLen) (hp:p.length≤maxLen)=>h.get s p hs hp);have VA:=hid (fun W (h:RsP C W (.pointer (some ⟨b,0,none⟩)) R) s p (hs:s.length≤maxLen) (hp:p.length≤maxLen)=>value_any h FIT.out.ok s p hs hp (by have:=FIT.out.als;omega) (by have:=FIT.out.parLen;omega) FIT.out.sza);have TRL:=hid (fun W (h:RsP C W (.pointer (some ⟨b,0,none⟩)) R)=>trail_any h FIT.out.ok loc path HLOC.out HPATH.out (by have:=FIT.out.als;omega) (by have:=FIT.out.parLen;omega) FIT.out.sza (by
   have h1:=flat_len (f:=stopsF R loc) (k:=16000) (l:=sideL loc path) fun x _=>FIT.out.stops_len loc x
   have h2:=sideL_len loc path
   show((sideL loc path).flatMap (stopsF R loc)).length≤10000000
   omega))
  have HLN:=hid (show(srtT R.t.names).length≤512 by unfold srtT;rw [List.length_mergeSort];exact FIT.out.fit.ok.n512);have HSAID:=hid (fun s p (hp:p∈pathsF R.t s)=>own_said FIT.out hp);have HPSZ:=hid (fun s p (hp:p∈pathsF R.t s)=>paths_sz FIT.out.fit.sz hp);have HPLN:=hid (fun s=>FIT.out.pathsLen s);go_wp2_with fail;refine TAB.out.mono ?_;rintro e w3 ⟨rfl,rfl⟩;clear TAB;generalize srtT R.t.names=ns at *;go_wp2_with fail
  refine(LOC.out _ T2.out).mono ?_
  rintro e wa ⟨va',rfl,oa,hba⟩;have Oa:=hid (ownT_S.2 oa);have Ba:=hid hba
  obtain⟨aa,ca,rfl⟩:=own_sliceS oa
  clear oa hba
  obtain⟨L1,hL1⟩:∃ L1,L1=ns++[[]]:=⟨_,rfl⟩
  have HL1:=hid hL1;have HLL:=hid (show L1.length=ns.length+1 by rw [hL1];simp);have HZ1:=hid (show ∀ s∈L1,s.length≤maxLen by
   rw [hL1];intro s h
   rcases List.mem_append.1 h with h | h
   ·exact HNZ.out s h
   ·rw [List.mem_singleton.1 h];simp [maxLen])
  have HBZ:=hid Ba.out.size;clear hL1
  go_wp2_with (at_builtin;refine wpList_pushS rfl (.tmp 32) (.tmp 33) rfl w3.heap.size _ ns [] rfl (ownT_S.1 Oa.out) rfl (by have:=HLN.out;omega) HBZ.out ?_;intro vb wb own gr mv;have Ob:=hid (show OwnS wb w3.heap.size vb L1 by rw [HL1.out];exact own);have Bb:=hid (Ba.out.grown gr HBZ.out (fun k hk=>(World.ownsRow.lt Oa.out k hk).1));clear own gr mv;obtain⟨ab,cb,rfl⟩:=own_sliceS Ob.out)
  go_loopg [36] L1.length (fun g v36 W=>∃ n:Nat,n≤L1.length∧L1.length≤n+g∧v36=.int .i64 n∧OwnS W w3.heap.size (.slice ab L1.length cb) L1∧Below w3.heap.size w3 W)
  case atStart=>exact⟨0,Nat.zero_le _,by omega,rfl,Ob.out,Bb.out⟩
  case round =>
   obtain⟨n,hn,hg,rfl,ho,hb⟩:=hrel
   rename World=>wc
   obtain⟨go,hgo⟩:∃ go,go=gk:=⟨_,rfl⟩
   have HG:=hid (show L1.length≤n+go by rw [hgo];exact hg);have HGO:=hid hgo;have HO:=hid ho;have HB:=hid hb;clear hg hgo ho hb Ob Bb
   by_cases hlt:n<L1.length
   ·have hni:(n:Int)<(L1.length:Int):=by omega
    have hL1z:(L1.length:Int)≤9223372036854775807:=by have:=HLL.out;have:=HLN.out;omega
    have hn0:(0:Int)≤(n:Int):=by omega
    have hso:=ownT_S.2 HO.out
    obtain⟨gb,rfl⟩:=OwnL.some' hso (by intro e;rw [e] at hlt;simp at hlt)
    obtain⟨r0,_,gl⟩:=hso.cell n 0 (.string ⟨(L1[n]'hlt).toArray⟩) hlt rfl
    rw [Nat.mul_one,Nat.add_zero] at r0;have HSL:=hid (HZ1.out _ (List.getElem_mem hlt));generalize L1[n]'hlt=s at *;clear hso;have Tc:=hid (T2.out.below HB.out);have Rc:=hid (RS2.out.below HB.out);have PAc:=hid (PA.out wc Tc.out s HSL.out);have HSs:=hid (HSAID.out s);have HPs:=hid (HPSZ.out s);have HPl:=hid (HPLN.out s);generalize pathsF R.t s=L2 at *;go_wp2_with fail;refine PAc.out.mono ?_;rintro e wd ⟨vd,rfl,od,hbd⟩;have Od:=hid (show OwnS wd _ vd L2 from od);have Bd:=hid hbd
    obtain⟨ad,cd,rfl⟩:=own_sliceS od
    clear od hbd r0 gl;go_upto_region 11 with fail
    go_loopg [44] L2.length (fun g v44 W=>∃ m:Nat,m≤L2.length∧L2.length≤m+g∧v44=.int .i64 m∧OwnS W wc.heap.size (.slice ad L2.length cd) L2∧Below wc.heap.size wc W)
    case atStart=>exact⟨0,Nat.zero_le _,by omega,rfl,Od.out,Bd.out⟩
    case round =>
     obtain⟨m,hm,hg2,rfl,ho,hb⟩:=hrel
     rename World=>wi
     have HG2:=hid hg2;have HO2:=hid ho;have HB2:=hid hb;clear hg2 ho hb Od Bd
     by_cases hlt2:m<L2.length
     ·have hmi:(m:Int)<(L2.length:Int):=by omega
      have hL2z:(L2.length:Int)≤9223372036854775807:=by have h1:=HPl.out;omega
      have hm0:(0:Int)≤(m:Int):=by omega
      have hso:=ownT_S.2 HO2.out
      obtain⟨gh,rfl⟩:=OwnL.some' hso (by intro e;rw [e] at hlt2;simp at hlt2)
      obtain⟨r0,_,gl⟩:=hso.cell m 0 (.string ⟨(L2[m]'hlt2).toArray⟩) hlt2 rfl
      rw [Nat.mul_one,Nat.add_zero] at r0;have HPL:=hid (HPs.out _ (List.getElem_mem hlt2));have HSP:=hid (HSs.out _ (List.getElem_mem hlt2));generalize L2[m]'hlt2=p at *;clear hso
      obtain⟨r,hr,hval⟩:=HSP.out
      have HVAL:=hid hval;have GEi:=hid (GE.out wi (Tc.out.below HB2.out) s p HSL.out HPL.out);rw [hr] at GEi;have VAi:=hid (fun W (h:Below wi.heap.size wi W)=>VA.out W ((Rc.out.below HB2.out).below h) s p HSL.out HPL.out);generalize valueF R s p=vo at *
      obtain⟨tx,htx⟩:∃ tx,tx=r.text:=⟨_,rfl⟩
      have GE2:=hid (show Calls Tryz.prog 19 #[.pointer (some ⟨Bt,0,none⟩),.string ⟨s.toArray⟩,.string ⟨p.toArray⟩] wi fun e w'=>e=.returned (.tuple #[.string ⟨tx.toArray⟩,.bool true])∧Below wi.heap.size wi w' by rw [htx];exact GEi.out);rw [← htx] at HVAL;clear hr hval htx HSP GEi;go_wp2_with fail;refine GE2.out.mono ?_;rintro e wj ⟨rfl,hbj⟩;have Bj:=hid hbj;clear hbj r0 gl;go_wp2_with fail
      refine(VAi.out wj Bj.out).mono ?_
      rintro e wk ⟨rfl,hbk⟩;have Bk:=hid (Bj.out.then hbk);clear hbk VAi GE2
      by_cases har:tx=arrows
      ·by_cases hse:s=[]
       ·obtain rfl:=HVAL.out (Or.inr hse);have hs1:(tx != [226,134,145,226,134,145,226,134,145])=false:=by rw [har];rfl
        have hs2:(tx==[226,134,145,226,134,145,226,134,145])=true:=by rw [har];rfl
        have hs3:(s==[])=true:=by rw [hse];rfl
        have hs4:List.isEmpty s=true:=by rw [hse];rfl
        have hs5:(tx != tx)=false:=by simp
        clear har hse;simp only [Option.getD_some,Option.isSome_some];go_wp2_with fail
        go_roundg (gk - 1)
        case measure=>have:=HG2.out;omega
        case rel=>exact⟨m+1,by omega,by have:=HG2.out;omega,by simp,own_below HO2.out Bk.out,HB2.out.then Bk.out⟩
       ·have hs1:(tx != [226,134,145,226,134,145,226,134,145])=false:=by rw [har];rfl
        have hs2:(tx==[226,134,145,226,134,145,226,134,145])=true:=by rw [har];rfl
        have hs3:(s==[])=false:=beq_eq_false_iff_ne.2 hse;have hs4:List.isEmpty s=false:=isEmpty_ne hse;clear har hse;go_wp2_with fail
        go_roundg (gk - 1)
        case measure=>have:=HG2.out;omega
        case rel=>exact⟨m+1,by omega,by have:=HG2.out;omega,by simp,own_below HO2.out Bk.out,HB2.out.then Bk.out⟩
      ·obtain rfl:=HVAL.out (Or.inl har);have hs1:(tx != [226,134,145,226,134,145,226,134,145])=true:=bne_iff_ne.2 har;have hs2:(tx==[226,134,145,226,134,145,226,134,145])=false:=beq_eq_false_iff_ne.2 har;have hs5:(tx != tx)=false:=by simp
       clear har;simp only [Option.getD_some,Option.isSome_some];go_wp2_with fail
       go_roundg (gk - 1)
       case measure=>have:=HG2.out;omega
       case rel=>exact⟨m+1,by omega,by have:=HG2.out;omega,by simp,own_below HO2.out Bk.out,HB2.out.then Bk.out⟩
     ·have hmi:¬ (m:Int)<(L2.length:Int):=by omega
      go_wp2_with fail
      go_roundg (go - 1)
      case measure=>have:=HG.out;have:=HGO.out;omega
      case rel=>exact⟨n+1,by omega,by have:=HG.out;omega,by simp,own_below HO.out HB2.out,HB.out.then HB2.out⟩
   ·have hni:¬ (n:Int)<(L1.length:Int):=by omega
    have Rc:=hid (RS2.out.below HB.out);have Tc:=hid (T2.out.below HB.out);have TRc:=hid (TRL.out wc Rc.out);have HTRL:=hid (show(trailF R loc path).length≤10000000 from by
     unfold trailF
     split
     ·have h1:=flat_len (f:=stopsF R loc) (k:=16000) (l:=sideL loc path) fun x _=>FIT.out.stops_len loc x
      have h2:=sideL_len loc path;have h3:=look_le R.t (roadF R loc path);unfold roadF at h3;unfold roadF
      omega
     ·simp)
    have VTR:=hid (fun x (h:valueF R loc path=some x)=>value_trail h);have VAl:=hid (fun W (h:Below wc.heap.size wc W)=>VA.out W (Rc.out.below h) loc path HLOC.out HPATH.out);have B3:=hid (B2.out.then HB.out);generalize valueF R loc path=vo at *;generalize trailF R loc path=tr at *;go_wp2_with fail;refine TRc.out.mono ?_;rintro e wd ⟨vt,rfl,ot,hbd⟩;have OT:=hid ot;have Bd:=hid hbd
    obtain⟨at',ct,rfl,_⟩:=ot.slice
    clear ot hbd;go_wp2_with fail
    refine(VAl.out wd Bd.out).mono ?_
    rintro e we ⟨rfl,hbe⟩;have OTe:=hid (OT.out.below hbe);have Be:=hid (Bd.out.then hbe);clear hbe OT Bd
    cases vo with
    | none =>
     simp only [Option.getD_none,Option.isSome_none];go_wp2_with fail;exact bodyPost_ret (v:=.bool true) (by simp [results,Tryz.results4,go_sem]) rfl ⟨rfl,B3.out.then Be.out⟩
    | some vx =>
     obtain⟨pa,ls,htr,r,hr,hrt⟩:=VTR.out vx rfl
     have hne:tr≠[]:=by rw [htr];simp
     have hz:tr.length=pa.length+1:=by rw [htr];simp
     obtain⟨gt,rfl⟩:=OwnL.some' OTe.out hne
     have hlt:pa.length<tr.length:=by omega
     have hls:tr[pa.length]'hlt=ls:=by simp [htr]
     obtain⟨ll,lp⟩:=ls
     obtain⟨c0,_,cl⟩:=OTe.out.cell pa.length 0 (.string ⟨ll.toArray⟩) hlt (by rw [hls];rfl)
     obtain⟨c1,_,_⟩:=OTe.out.cell pa.length 1 (.string ⟨lp.toArray⟩) hlt (by rw [hls];rfl)
     rw [Nat.add_zero] at c0;simp only at hr
     obtain⟨hr1,hr2,hr3⟩:=findR_some hr
     have HL1:=hid (show ll.length≤maxLen by rw [← hr2];exact FIT.out.fit.rloc r hr1);have HL2:=hid (show lp.length≤maxLen by rw [← hr3];exact FIT.out.fit.sz.rows r hr1);clear hr1 hr2 hr3;have GEl:=hid (fun W (h:Below wc.heap.size wc W)=>GE.out W (Tc.out.below h) ll lp HL1.out HL2.out);rw [hr] at GEl;have GE2:=hid (show ∀ W,Below wc.heap.size wc W→Calls Tryz.prog 19 #[.pointer (some ⟨Bt,0,none⟩),.string ⟨ll.toArray⟩,.string ⟨lp.toArray⟩] W fun e w'=>e=.returned (.tuple #[.string ⟨vx.toArray⟩,.bool true])∧Below W.heap.size W w' from fun W h=>by rw [← hrt];exact GEl.out W h);have hz0:((tr.length:Int)==0)=false:=by rw [beq_eq_false_iff_ne];omega
     have hz1:(tr.length:Int) - 1=(pa.length:Int):=by omega
     have hz2:(0:Int)≤(pa.length:Int):=by omega
     have hz3:(pa.length:Int)<(tr.length:Int):=by omega
     have hz4:(tr.length:Int)≤9223372036854775807:=by have:=HTRL.out;omega
     have hz5:(pa.length:Int)≤9223372036854775807:=by have:=HTRL.out;omega
     clear hr hrt hne hz htr hls hlt GEl VTR;simp only [Option.getD_some,Option.isSome_some];have HAe:=hid (bal we (.cells #[.string ⟨ll.toArray⟩,.string ⟨lp.toArray⟩] 47));have Fe:=hid (heap_alloc_new we (.cells #[.string ⟨ll.toArray⟩,.string ⟨lp.toArray⟩] 47));go_upto_region 26 with fail;generalize we.alloc (.cells #[.string ⟨ll.toArray⟩,.string ⟨lp.toArray⟩] 47)=wf at *
     obtain⟨x0,x1,_,_,xl⟩:=box2_cells Fe.out
     go_wp2_with fail
     refine(GE2.out wf (Be.out.then HAe.out)).mono ?_
     rintro e wg ⟨rfl,hbg⟩;have Bg:=hid (B3.out.then (Be.out.then (HAe.out.then hbg)));clear hbg;go_wp2_with fail;exact bodyPost_ret (v:=.bool true) (by simp [results,Tryz.results4,go_sem]) rfl ⟨rfl,Bg.out⟩
end
section
open Go.RowKit Go.Lib Go.Sort Go.ChangeShapes Go.WideShapes
theorem bulk_mem {H:Type}{d:DataW H}:∀ {l:List (DataW H)},d∈l→Rows.uptoBulk d≤Rows.uptoBulkAll l
 | x::r,h=>by
  simp only [Rows.uptoBulkAll]
  rcases List.mem_cons.1 h with rfl | h
  ·omega
  ·have:=bulk_mem h;omega
section
variable {H : Type} {enc : TypeId × Value → H} {w : World} {base : Nat} {spare : Nat → Bool} {held : Bool}
theorem open_rdLB {α:Type}{k:Nat}(E:Enc α k)(hk:0<k){tS tE:TypeId}(hu:Tryz.prog.underlying tS=some (.slice tE))(hC:Tryz.prog.cellsOf tE=k)(P:α→DataW H→Prop)
  (hel:∀ (n:Nat)(cs:List Value)(y:DataW H×List MemPlace),DataW.trod enc Tryz.prog w base spare held n tE cs=some y→∃ x,cs=E.enc x∧P x y.1){fuel:Nat}{cs:List Value}{x:DataW H×List MemPlace}(h:DataW.trod enc Tryz.prog w base spare held fuel tS cs=some x) :
  ∃ v l,cs=[v]∧RdL E w v l∧∀ z∈l,∃ d,P z d∧Rows.uptoBulk d≤Rows.uptoBulk x.1:=by
 rcases DataW.trod_slice hu h with ⟨rfl,_⟩ | ⟨a,len,cap,elems,rest,n,_,rfl,hx,hb,hl,hm,hlen,hel2,_,_⟩
 ·exact⟨_,[],rfl,RdL.nil E w,fun p hp=>by cases hp⟩
 ·rw [hC] at hel2;have key:∀ i:Fin len,∃ p:α,w.cells? base (a.add (i.1 * k)) k=some (E.enc p)∧∃ d,P p d∧Rows.uptoBulk d≤Rows.uptoBulk x.1:=by
   intro i;have hy:=hel2 i.1 i.2;rw [List.getElem?_eq_getElem (by omega),Option.bind_eq_some_iff] at hy
   obtain⟨cs',hcs,hy'⟩:=hy
   obtain⟨p,rfl,hp⟩:=hel _ _ _ hy'
   refine⟨p,hcs,_,hp,?_⟩
   rw [hx];simp only [Rows.uptoBulk]
   have:=bulk_mem (d:=(elems[i.1]'(by omega)).1) (l:=elems.map (·.1)) (List.mem_map.2 ⟨_,List.getElem_mem _,rfl⟩)
   omega
  have hf:=fun i=>(key i).choose_spec
  obtain⟨f,hfe⟩:∃ f:Fin len→α,f=fun i=>(key i).choose:=⟨_,rfl⟩
  have hf2:∀ i,w.cells? base (a.add (i.1 * k)) k=some (E.enc (f i))∧∃ d,P (f i) d∧Rows.uptoBulk d≤Rows.uptoBulk x.1:=by rw [hfe];exact hf
  have hlen2:(List.ofFn f).length=len:=List.length_ofFn
  refine⟨.slice (some a) len cap,List.ofFn f,rfl,⟨some a,cap,by rw [hlen2],⟨by rw [hlen2];exact hl,by rw [hlen2];unfold maxLen at hm;omega,fun e=>by cases e⟩,fun hne=>?_⟩,fun p hp=>?_⟩
  ·have h0:0<len:=by
    rcases Nat.eq_zero_or_pos len with h0 | h0
    ·subst h0;simp at hne
    ·exact h0
   have c0:=(World.cells?_some (hf2 ⟨0,h0⟩).1).2.2 0 (by omega);rw [List.getElem?_eq_getElem (show 0<(E.enc (f ⟨0,h0⟩)).length by rw [E.len];exact hk)] at c0;rw [show(a.add (0 * k)).add 0=a from by unfold Addr.add;simp] at c0
   obtain⟨hs,hlt⟩:=spot_of_cell c0
   obtain⟨b,off,sp⟩:=a
   simp only at hs hlt;subst hs
   refine⟨b,off,rfl,hlt,fun j i y hj hy=>?_⟩
   rw [hlen2] at hj;have hc:=(World.cells?_some (hf2 ⟨j,hj⟩).1);have hi:i<k:=by have:=(List.getElem?_eq_some_iff.1 hy).1;rwa [E.len] at this
   have hci:=hc.2.2 i hi;rw [add_of,add_of] at hci;rw [hci];rw [List.getElem_ofFn] at hy;exact hy
  ·obtain⟨i,rfl⟩:=(List.mem_ofFn).1 hp
   exact(hf2 i).2
theorem open_itemB (n:Nat)(cs:List Value)(y:DataW H×List MemPlace)(h:DataW.trod enc Tryz.prog w base spare held n 55 cs=some y):∃ x:Itm,cs=encI.enc x∧(x.path.length≤maxLen∧x.value.length≤Rows.uptoBulk y.1):=by
 have hC:Tryz.prog.cellsOf 55=5:=by kernel_rfl
 have hD:Tryz.prog.cellsOf 9=1:=by kernel_rfl
 have hE:Tryz.prog.cellsOf 4=1:=by kernel_rfl
 have hF:Tryz.prog.cellsOf 3=1:=by kernel_rfl
 obtain⟨xs,m,_,hy,hl,hlen,hfs⟩:=DataW.trod_struct Tryz.underlying55 h
 rw [hC] at hl
 obtain⟨c0,c1,c2,c3,c4,rfl⟩:=list5 hl
 have g0:=hfs 0 _ rfl;have g1:=hfs 1 _ rfl;have g2:=hfs 2 _ rfl;have g3:=hfs 3 _ rfl;have g4:=hfs 4 _ rfl;have hx:xs.length=5:=hlen;rw [List.getElem?_eq_getElem (by omega)] at g0 g1 g2 g3 g4;simp only [List.getElem_toArray,List.getElem_cons_zero,List.getElem_cons_succ,hD,hE,hF,List.drop_zero,List.drop_succ_cons,List.take_succ_cons,List.take_zero] at g0 g1 g2 g3 g4
 obtain⟨s0,e0,_,z0⟩:=DataW.trod_string Tryz.underlying9 g0
 obtain⟨s1,e1,f1,z1⟩:=DataW.trod_string Tryz.underlying9 g1
 obtain⟨b2,e2,_⟩:=DataW.trod_bool Tryz.underlying4 g2
 obtain⟨s3,e3,_,z3⟩:=DataW.trod_string Tryz.underlying9 g3
 obtain⟨i4,e4,_,_⟩:=DataW.trod_int Tryz.underlying3 g4
 obtain rfl:=List.head_eq_of_cons_eq e0;obtain rfl:=List.head_eq_of_cons_eq e1;obtain rfl:=List.head_eq_of_cons_eq e2;obtain rfl:=List.head_eq_of_cons_eq e3;obtain rfl:=List.head_eq_of_cons_eq e4
 refine⟨⟨s0.data.toList,s1.data.toList,b2,s3.data.toList,i4⟩,?_,z0,?_⟩
 ·rw [S_of s0,S_of s1,S_of s3];rfl
 ·rw [hy];simp only [Rows.uptoBulk];have hm:=bulk_mem (d:=(xs[1]'(by omega)).1) (l:=xs.map (·.1)) (List.mem_map.2 ⟨_,List.getElem_mem _,rfl⟩);rw [f1] at hm;simp only [Rows.uptoBulk] at hm
  omega
theorem open_docB (n:Nat)(cs:List Value)(y:DataW H×List MemPlace)(h:DataW.trod enc Tryz.prog w base spare held n 53 cs=some y):∃ z:Dc×(Option Addr×Nat),cs=encD.enc z∧((z.1.loc.length≤maxLen∧∀ x∈z.1.items,x.path.length≤maxLen)∧(∀ x∈z.1.items,x.value.length≤Rows.uptoBulk y.1)∧RdL encI w (.slice z.2.1 z.1.items.length z.2.2) z.1.items):=by
 have hC:Tryz.prog.cellsOf 53=3:=by kernel_rfl
 have hD:Tryz.prog.cellsOf 9=1:=by kernel_rfl
 have hE:Tryz.prog.cellsOf 4=1:=by kernel_rfl
 have hF:Tryz.prog.cellsOf 51=1:=by kernel_rfl
 have hI:Tryz.prog.cellsOf 55=5:=by kernel_rfl
 obtain⟨xs,m,_,hy,hl,hlen,hfs⟩:=DataW.trod_struct Tryz.underlying53 h
 rw [hC] at hl
 obtain⟨c0,c1,c2,rfl⟩:=list3 hl
 have g0:=hfs 0 _ rfl;have g1:=hfs 1 _ rfl;have g2:=hfs 2 _ rfl;have hx:xs.length=3:=hlen;rw [List.getElem?_eq_getElem (by omega)] at g0 g1 g2;simp only [List.getElem_toArray,List.getElem_cons_zero,List.getElem_cons_succ,hD,hE,hF,List.drop_zero,List.drop_succ_cons,List.take_succ_cons,List.take_zero] at g0 g1 g2
 obtain⟨s0,e0,_,z0⟩:=DataW.trod_string Tryz.underlying9 g0
 obtain⟨b1,e1,_⟩:=DataW.trod_bool Tryz.underlying4 g1
 obtain⟨v2,l2,e2,r2,p2⟩:=open_rdLB encI (by decide) Tryz.underlying51 hI (fun x d=>x.path.length≤maxLen∧x.value.length≤Rows.uptoBulk d) open_itemB g2
 obtain rfl:=List.head_eq_of_cons_eq e0;obtain rfl:=List.head_eq_of_cons_eq e1;obtain rfl:=List.head_eq_of_cons_eq e2
 obtain⟨ao,cp,rfl,_⟩:=r2.slice
 refine⟨(⟨s0.data.toList,b1,l2⟩,(ao,cp)),?_,⟨z0,fun x hx=>?_⟩,fun x hx=>?_,r2⟩
 ·rw [S_of s0];rfl
 ·obtain⟨d,h1,_⟩:=p2 x hx
  exact h1.1
 ·obtain⟨d,h1,h2⟩:=p2 x hx
  rw [hy];simp only [Rows.uptoBulk];have hm:=bulk_mem (d:=(xs[2]'(by omega)).1) (l:=xs.map (·.1)) (List.mem_map.2 ⟨_,List.getElem_mem _,rfl⟩)
  have:=h1.2
  omega
theorem open_docsB {v:Value}{d:DataW H}{p:List MemPlace}{r:Reach}{b0:Nat}(hv:Value.okWide Tryz.prog w r b0 43 v)(h:DataW.Trod enc Tryz.prog w base spare held 43 v d p):∃ l:List Dc,RdD w v l∧SzL l∧∀ z∈l,∀ x∈z.items,x.value.length≤Rows.uptoBulk d:=by
 have hC:Tryz.prog.cellsOf 53=3:=by kernel_rfl
 obtain⟨fuel,hf⟩:=h
 obtain⟨v',zs,e,hr,hp⟩:=open_rdLB encD (by decide) Tryz.underlying43 hC (fun z d=>(z.1.loc.length≤maxLen∧∀ x∈z.1.items,x.path.length≤maxLen)∧(∀ x∈z.1.items,x.value.length≤Rows.uptoBulk d)∧RdL encI w (.slice z.2.1 z.1.items.length z.2.2) z.1.items) open_docB hf
 obtain⟨ao,cp,rfl,_⟩:=hr.slice
 have hvv:v=.slice ao zs.length cp:=by
  obtain⟨a0,n0,c0,rfl⟩:=okWide_slice Tryz.underlying43 hv
  exact List.head_eq_of_cons_eq e
 subst hvv
 refine⟨zs.map (·.1),⟨zs,rfl,hr,fun z hz=>?_⟩,fun d' hd=>?_,fun d' hd x hx=>?_⟩
 ·obtain⟨_,h1,_⟩:=hp z hz
  exact h1.2.2
 ·obtain⟨z,hz,rfl⟩:=List.mem_map.1 hd
  obtain⟨_,h1,_⟩:=hp z hz
  exact h1.1
 ·obtain⟨z,hz,rfl⟩:=List.mem_map.1 hd
  obtain⟨_,h1,h2⟩:=hp z hz
  exact Nat.le_trans (h1.2.1 x hx) h2
end
end
end Go.Proofs.YtbbmdbolkicpcaaGreatDoor
