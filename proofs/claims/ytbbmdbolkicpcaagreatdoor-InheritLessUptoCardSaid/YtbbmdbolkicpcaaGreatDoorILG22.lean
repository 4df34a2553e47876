/- OpenD, InhCutW, InhWakeP, InhWakes, WalkG -/
import Derived.Test.YtbbmdbolkicpcaaGreatDoorILG06
import Derived.Test.YtbbmdbolkicpcaaGreatDoorILG21
import Derived.Test.YtbbmdbolkicpcaaGreatDoorILG10
import Derived.Test.YtbbmdbolkicpcaaGreatDoorILG19
import Derived.Test.YtbbmdbolkicpcaaGreatDoorILG18
import Derived.Test.YtbbmdbolkicpcaaGreatDoorILG13
import Derived.Test.YtbbmdbolkicpcaaGreatDoorILG14
import Derived.Deep.CutRange
set_option maxRecDepth 100000
set_option maxHeartbeats 32000000
set_option linter.unusedVariables false
set_option linter.unusedSimpArgs false
namespace Go.Proofs.YtbbmdbolkicpcaaGreatDoor
section
open Go.RowKit Go.Lib Go.Sort Go.ChangeShapes Go.WideShapes
theorem list3 {α:Type}{cs:List α}(h:cs.length=3):∃ c0 c1 c2,cs=[c0,c1,c2]:=by
 match cs,h with
 | [c0,c1,c2],_=>exact⟨c0,c1,c2,rfl⟩
theorem list5 {α:Type}{cs:List α}(h:cs.length=5):∃ c0 c1 c2 c3 c4,cs=[c0,c1,c2,c3,c4]:=by
 match cs,h with
 | [c0,c1,c2,c3,c4],_=>exact⟨c0,c1,c2,c3,c4,rfl⟩
section
variable {H : Type} {enc : TypeId × Value → H} {w : World} {base : Nat} {spare : Nat → Bool} {held : Bool}
end
end
section
open Go.RowKit Go.Lib Go.Sort Go.Maps Go.WideMaps
structure CutG (w W:World)(D:List Dc)(v:Value)(zs:List (Dc×(Option Addr×Nat))):Prop where
 eq:zs.map (·.1)=D
 own:Qf encD 53 W w.heap.size v zs
 each:∀ z∈zs,Qf encI 55 W w.heap.size (.slice z.2.1 z.1.items.length z.2.2) z.1.items
 bel:Below w.heap.size w W
section
variable {w W W' : World} {D : List Dc} {v v' : Value} {zs : List (Dc × (Option Addr × Nat))}
theorem CutG.below (h:CutG w W D v zs)(hb:Below W.heap.size W W'):CutG w W' D v zs :=
 ⟨h.eq,h.own.below hb,fun z hz=>(h.each z hz).below hb,h.bel.then hb⟩
theorem CutG.only {b:Nat}(h:CutG w W D v zs)(hb:w.heap.size≤b)(h1:∀ k,v.ownBlock=some k→k<b)(h2:∀ z∈zs,∀ k,(Value.slice z.2.1 z.1.items.length z.2.2).ownBlock=some k→k<b)(g:Qr b W W'):CutG w W' D v zs :=
 ⟨h.eq,World.ownsRow.kept h.own g (Or.inr fun e=>Nat.lt_irrefl _ (h1 _ e)),fun z hz=>World.ownsRow.kept (h.each z hz) g (Or.inr fun e=>Nat.lt_irrefl _ (h2 z hz _ e)),h.bel.grown g h.bel.size (fun k hk=>by cases hk;exact hb)⟩
theorem CutG.push (h:CutG w W D v zs){z:Dc×(Option Addr×Nat)}(hz:Qf encI 55 W w.heap.size (.slice z.2.1 z.1.items.length z.2.2) z.1.items)(o:Qf encD 53 W' w.heap.size v' (zs++[z]))(gr:W.grownBy W' v.ownBlock):CutG w W' (D++[z.1]) v' (zs++[z]):=by
 refine⟨by rw [List.map_append,h.eq];rfl,o,fun x hx=>?_,h.bel.grown gr h.bel.size (fun k hk=>(World.ownsRow.lt h.own k hk).1)⟩
 rcases List.mem_append.1 hx with hx | hx
 ·exact World.ownsRow.kept (h.each x hx) gr (Kn (h.each x hx) h.own (by decide))
 ·rw [List.mem_singleton.1 hx];exact World.ownsRow.kept hz gr (Kn hz h.own (by decide))
theorem CutG.done (h:CutG w W D v zs):OwnD W w.heap.size v D:=⟨zs,h.eq,h.own,h.each⟩
end
theorem only_push {b:Nat}{w W W':World}{v:Value}(h:Qr b w W)(g:W.grownBy W' v.ownBlock)(hv:∀ k,v.ownBlock=some k→w.heap.size≤k):Qr b w W' :=
 ⟨g.os.trans h.os,g.tape.trans h.tape,g.output.trans h.output,Nat.le_trans h.size g.size,fun i hi hne=>(g.block i (Nat.lt_of_lt_of_le hi h.size) (fun e=>by have:=hv i e.symm;omega)).trans (h.block i hi hne)⟩
theorem foldI_take {l:List Itm}{m:Nat}(hm:m<l.length)(s:CutI):(l.take (m+1)).foldl stepC s=stepC ((l.take m).foldl stepC s) (l[m]'hm):=by
 rw [List.take_succ_eq_append_getElem hm,List.foldl_append];rfl
theorem foldD_take {l:List Dc}{m:Nat}(hm:m<l.length)(s:CutS):(l.take (m+1)).foldl stepD s=stepD ((l.take m).foldl stepD s) (l[m]'hm):=by
 rw [List.take_succ_eq_append_getElem hm,List.foldl_append];rfl
theorem stepC_push {done:List Itm}{a p:Nat}{x:Itm}{pr:Bool}(h:skipC (a,p) x=false)(hp:isParP x.path=pr):stepC (done,a,p) x=(done++[x],a+b01 x.alias',p+b01 pr):=by
 subst hp;exact if_neg (by rw [h];decide)
theorem cut14_at {l:List Dc}{n:Nat}(h:n=10∨(n=l.length∧n≤10)):(l.take n).foldl stepD ([],0,0)=cutE l:=by
 unfold cutE
 rcases h with rfl | ⟨rfl,h2⟩
 ·rfl
 ·rw [List.take_of_length_le (Nat.le_refl _),List.take_of_length_le h2]
theorem ext7 (s:Str):ByteArray.extract ⟨s.toArray⟩ 0 7=⟨(s.take 7).toArray⟩:=by
 rw [ext_at];rfl
theorem cut14_any (w:World)(l:List Dc)(v:Value)(hd:RdD w v l) :
  Calls Tryz.prog 22 #[v] w fun e w'=>∃ v',e=.returned v'∧OwnD w' w.heap.size v' (cut14 l)∧Below w.heap.size w w':=by
 obtain⟨ao,cp,rfl,hln,h63,hcell⟩:=hd.cells
 have HCELL:=hid hcell;clear hcell hd
 go_enter Tryz.func22,Tryz.ntmps22
 go_wp2_with fail
 go_loopg [3,4,5,14] l.length (fun g v3 v4 v5 v14 W=>∃ (n a p:Nat) (zs:List (Dc×(Option Addr×Nat))) (D:List Dc),n≤l.length∧n≤10∧l.length≤n+g∧v4=.int .i64 a∧v5=.int .i64 p∧v14=.int .i64 n∧a≤20∧p≤60∧(l.take n).foldl stepD ([],0,0)=(D,a,p)∧D.length=n∧CutG w W D v3 zs)
 case atStart=>exact⟨0,0,0,[],[],Nat.zero_le _,by omega,by omega,rfl,rfl,rfl,by omega,by omega,rfl,rfl,rfl,Qf.nil _ _ _ _,fun z hz=>(by cases hz),Below.refl _ _⟩
 case round =>
  obtain⟨n,a,p,zs,D,hn,h10,hg,rfl,rfl,rfl,ha20,hp60,hfo,hdl,st⟩:=hrel
  rename World=>w2
  obtain⟨go,hgo⟩:∃ go,go=gk:=⟨_,rfl⟩
  have HGO:=hid hgo;have HG:=hid (show l.length≤n+go by rw [hgo];exact hg);have ST2:=hid st;have H10:=hid h10;have HFO:=hid hfo;have HDL:=hid hdl;have HA20:=hid ha20;have HP60:=hid hp60;clear hg st h10 hgo hfo hdl ha20 hp60
  by_cases hlt:n<l.length
  ·have hni:(n:Int)<(l.length:Int):=by omega
   have hn0:(0:Int)≤(n:Int):=by omega
   obtain⟨pb,po,da,dc,rfl,hp,q0,q1,q2,hits⟩:=HCELL.out n hlt
   have r0:=(ST2.out.bel.cell (p:=⟨pb,po+n * 3,none⟩) hp).trans q0;have r1:=(ST2.out.bel.cell (p:=⟨pb,po+n * 3+1,none⟩) hp).trans q1;have r2:=(ST2.out.bel.cell (p:=⟨pb,po+n * 3+2,none⟩) hp).trans q2;have hp2:pb<w2.heap.size:=Nat.lt_of_lt_of_le hp ST2.out.bel.size
   obtain⟨_,hic,_⟩:=RdI.cells hits
   have HIC:=hid hic;have HITS:=hid (hits.take (min (l[n]'hlt).items.length 30) (Nat.min_le_left _ _));have HPB:=hid hp;have HTK:=hid (show(l[n]'hlt).items.take (min (l[n]'hlt).items.length 30)=(l[n]'hlt).items.take 30 by
    by_cases h:(l[n]'hlt).items.length≤30
    ·rw [Nat.min_eq_left h,List.take_of_length_le h,List.take_of_length_le (Nat.le_refl _)]
    ·rw [Nat.min_eq_right (by omega)])
   have HFN:=hid (show(l.take (n+1)).foldl stepD ([],0,0)=stepD (D,a,p) (l[n]'hlt) by rw [foldD_take hlt,HFO.out]);clear q0 q1 q2 hits hic
   obtain⟨d,hdd⟩:∃ d,d=l[n]'hlt:=⟨_,rfl⟩
   rw [← hdd] at r0 r1 r2 HITS HTK HIC HFN;clear hdd
   obtain⟨loc,supp,its⟩:=d
   simp only at r0 r1 r2 HITS HTK HIC HFN;rw [HTK.out] at HITS;have HB3:=hid (bal w2 (.cells #[.string ⟨loc.toArray⟩,.bool supp,.slice da its.length dc] 53));have F3:=hid (heap_alloc_new w2 (.cells #[.string ⟨loc.toArray⟩,.bool supp,.slice da its.length dc] 53));go_upto_region 6 with fail;generalize w2.alloc (.cells #[.string ⟨loc.toArray⟩,.bool supp,.slice da its.length dc] 53)=w3 at *;have ST3:=hid (ST2.out.below HB3.out);have HDB:=hid (show w.heap.size≤w2.heap.size from ST2.out.bel.size);have HLT:=hid (fun k (e:u3.ownBlock=some k)=>(World.ownsRow.lt ST2.out.own k e).2);have HLE:=hid (fun z (hz:z∈zs) k (e:(Value.slice z.2.1 z.1.items.length z.2.2).ownBlock=some k)=>(World.ownsRow.lt (ST2.out.each z hz) k e).2);clear r0 r1 r2 hp2 ST2 HB3 HTK;generalize w2.heap.size=Db at *
   obtain⟨d0,d1,d2,dl⟩:=Qj F3.out
   obtain⟨df0,df1,df2⟩:=Zl F3.out
   by_cases he:n=10
   ·have heb:((n:Int)==10)=true:=by rw [beq_iff_eq];omega
    have HD:=hid (show OwnD w3 w.heap.size u3 (cut14 l) from by
     have h1:=cut14_at (l:=l) (n:=n) (Or.inl he);rw [HFO.out] at h1;have h2:cut14 l=D:=by unfold cut14;rw [← h1]
     rw [h2];exact ST3.out.done)
    clear he;go_wp2_with fail;exact bodyPost_ret (v:=u3) (by simp [results,Tryz.results22,go_sem]) rfl ⟨_,rfl,HD.out,ST3.out.bel⟩
   ·have heb:((n:Int)==10)=false:=by rw [beq_eq_false_iff_ne];omega
    have HE:=hid he;clear he;have HM:=hid (show(min (its.length:Int) 30).toNat=min its.length 30 by omega);have hm1:(0:Int)≤min (its.length:Int) 30:=by omega
    have hm2:min (its.length:Int) 30≤(dc:Int):=by have:=HIC.out;omega
    have HZI:=hid (show(its.take 30).length≤30 by rw [List.length_take];omega);have HLI:=hid (show(its.take 30).length=min its.length 30 by rw [List.length_take];omega);have HLJ:=hid (show min (its.length:Int) 30=((its.take 30).length:Int) by rw [List.length_take];omega);have HFS:=hid (show ∀ done a' p',(its.take 30).foldl stepC ([],a,p)=(done,a',p')→(l.take (n+1)).foldl stepD ([],0,0)=(D++[⟨loc,supp,done⟩],a',p') from fun done a' p' h=>by
     rw [HFN.out];unfold stepD itemsC;simp only [h])
    generalize its.take 30=its2 at *;have HBZ:=hid (show Below w3.heap.size w3 ((w3.setCell ⟨Db,2,none⟩ (.slice (some ⟨w3.heap.size,0,none⟩) 0 0)).alloc (.cells #[] 55))∨True from Or.inr trivial);have HSZ4:=hid (show(w3.setCell ⟨Db,2,none⟩ (.slice (some ⟨w3.heap.size,0,none⟩) 0 0)).heap.size=w3.heap.size by simp);have FA:=hid (own_fresh encI (B:=w3.heap.size) [] (heap_alloc_new (w3.setCell ⟨Db,2,none⟩ (.slice (some ⟨w3.heap.size,0,none⟩) 0 0)) (.cells #[] 55)) rfl (Nat.le_of_eq HSZ4.out.symm) (by simp [maxLen]));rw [HSZ4.out] at FA;have ON4:=hid (show Qr Db w3 ((w3.setCell ⟨Db,2,none⟩ (.slice (some ⟨w3.heap.size,0,none⟩) 0 0)).alloc (.cells #[] 55)) from((Qr.refl w3 Db).set _ _).below (bal _ _));have F4:=hid (show((w3.setCell ⟨Db,2,none⟩ (.slice (some ⟨w3.heap.size,0,none⟩) 0 0)).alloc (.cells #[] 55)).heap[Db]?=some (.cells #[.string ⟨loc.toArray⟩,.bool supp,.slice (some ⟨w3.heap.size,0,none⟩) 0 0] 53 (0,0)) from(heap_alloc_old _ _ (by simpa using dl)).trans (by rw [heap_setCell_same _ _ _ _ _ _ F3.out];simp));rw [← HLI.out] at HITS;have HML:=hid HZI.out;go_upto_region 8 with fail;rw [HM.out,← HLI.out];go_upto_region 9 with fail;clear d0 d1 d2 dl df0 df1 df2 HBZ;generalize (w3.setCell ⟨Db,2,none⟩ (.slice (some ⟨w3.heap.size,0,none⟩) 0 0)).alloc (.cells #[] 55)=w4 at *;generalize min (its.length:Int) 30=mz at *;go_upto_region 10 with fail
    go_loopg [4,5,32] its2.length (fun g v4 v5 v32 W=>∃ (m a' p':Nat) (u:Value) (done:List Itm),m≤its2.length∧its2.length≤m+g∧v4=.int .i64 a'∧v5=.int .i64 p'∧v32=.int .i64 m∧a'≤20∧p'≤60∧(its2.take m).foldl stepC ([],a,p)=(done,a',p')∧W.heap[Db]?=some (.cells #[.string ⟨loc.toArray⟩,.bool supp,u] 53 (0,0))∧Qf encI 55 W w3.heap.size u done∧Qr Db w3 W∧done.length≤m)
    case atStart=>exact⟨0,a,p,_,[],Nat.zero_le _,by omega,rfl,rfl,rfl,HA20.out,HP60.out,rfl,F4.out,FA.out,ON4.out,Nat.le_refl _⟩
    case round =>
     obtain⟨m,a',p',u,done,hm,hg2,rfl,rfl,rfl,ha1,hp1',hfo,hrow,hou,hon,hdn⟩:=hrel
     rename World=>w5
     have HG2:=hid hg2;have HFI:=hid hfo;have HA1:=hid ha1;have HP1:=hid hp1';have HDN:=hid hdn;have F5:=hid hrow;have OU5:=hid hou;have ON5:=hid hon;clear hg2 hfo hdn hrow hou hon F4 FA ON4
     obtain⟨au,cu,rfl,_⟩:=OU5.out.slice
     have UGE:=hid (fun k (e:(Value.slice au done.length cu).ownBlock=some k)=>(World.ownsRow.lt OU5.out k e).1);have UNE:=hid (show(Value.slice au done.length cu).ownBlock≠some Db from fun e=>by have h1:=UGE.out _ e;have h2:=lt_of_block F3.out;omega);have BW:=hid (ST3.out.bel.grown ON5.out ST3.out.bel.size (fun k hk=>by cases hk;exact HDB.out))
     by_cases hlt2:m<its2.length
     ·have hmi:(m:Int)<(its2.length:Int):=by omega
      have hm0:(0:Int)≤(m:Int):=by omega
      have hmb:(its2.length:Int)≤30:=by have:=HML.out;omega
      obtain⟨_,_,_,hic2⟩:=RdI.cells HITS.out
      obtain⟨ib,io,rfl,hib,q0,q1,q2,q3,q4⟩:=hic2 m hlt2
      have r0:=(BW.out.cell (p:=⟨ib,io+m * 5,none⟩) hib).trans q0;have r1:=(BW.out.cell (p:=⟨ib,io+m * 5+1,none⟩) hib).trans q1;have r2:=(BW.out.cell (p:=⟨ib,io+m * 5+2,none⟩) hib).trans q2;have r3:=(BW.out.cell (p:=⟨ib,io+m * 5+3,none⟩) hib).trans q3;have r4:=(BW.out.cell (p:=⟨ib,io+m * 5+4,none⟩) hib).trans q4;have hib2:ib<w5.heap.size:=Nat.lt_of_lt_of_le hib BW.out.size;have HST:=hid (show(its2.take (m+1)).foldl stepC ([],a,p)=stepC (done,a',p') (its2[m]'hlt2) by rw [foldI_take hlt2,HFI.out]);clear q0 q1 q2 q3 q4;generalize its2[m]'hlt2=x at *
      obtain⟨xp,xv,xal,xd,xa⟩:=x
      simp only at r0 r1 r2 r3 r4;have HA6:=hid (bal w5 (.cells #[.string ⟨xp.toArray⟩,.string ⟨xv.toArray⟩,.bool xal,.string ⟨xd.toArray⟩,.int .i64 xa] 55));have X6:=hid (heap_alloc_new w5 (.cells #[.string ⟨xp.toArray⟩,.string ⟨xv.toArray⟩,.bool xal,.string ⟨xd.toArray⟩,.int .i64 xa] 55));go_upto_region 12 with fail;generalize w5.alloc (.cells #[.string ⟨xp.toArray⟩,.string ⟨xv.toArray⟩,.bool xal,.string ⟨xd.toArray⟩,.int .i64 xa] 55)=w6 at *;have F6:=hid (bk HA6.out F5.out);have OU6:=hid (OU5.out.below HA6.out);have ON6:=hid (ON5.out.below HA6.out);have HBZ6:=hid ON6.out.size;clear r0 r1 r2 r3 r4 hib2 F5 OU5 ON5 BW HA6;generalize w5.heap.size=Xb at *
      obtain⟨x0,x1,x2,x3,x4,xl⟩:=Zf X6.out
      obtain⟨d0,d1,d2,dl⟩:=Qj F6.out
      obtain⟨df0,df1,df2⟩:=Zl F6.out
      go_cut [11] from 36 to 45 (fun v11 wx=>v11=.bool (isParP xp)∧wx=w6)
      case first =>
       have HEX:=hid (ext7 xp)
       by_cases h7:7<xp.length
       ·have h7i:(7:Int)<(xp.length:Int):=by omega
        have h7j:(7:Int)≤(xp.length:Int):=by omega
        go_wp2_with fail
        go_meet
        refine⟨?_,rfl⟩
        rw [HEX.out]
        simp [isParP,h7,parPre]
       ·have h7i:¬ (7:Int)<(xp.length:Int):=by omega
        have HN7:=hid (show isParP xp=false by unfold isParP;rw [decide_eq_false h7];rfl);go_wp2_with fail
        go_meet
        exact⟨by rw [HN7.out],rfl⟩
      case rest =>
       obtain⟨rfl,rfl⟩:=hcut
       obtain⟨pr,hpr⟩:∃ pr,pr=isParP xp:=⟨_,rfl⟩
       have HPR:=hid (show isParP xp=pr from hpr.symm);rw [HPR.out];clear hpr
       cases xal with
       | false =>
        cases pr with
        | false =>
         go_wp2_with (at_builtin;refine Xv (E:=encI) rfl (.tmp 67) (.tmp 69) rfl Tryz.underlying51 infoItm' rfl (by decide) w3.heap.size _ done ⟨xp,xv,false,xd,xa⟩ rfl OU6.out rfl (by have:=HDN.out;have:=HML.out;unfold maxLen;omega) (by have:=HDN.out;have:=HML.out;omega) HBZ6.out #[.string ⟨xp.toArray⟩,.string ⟨xv.toArray⟩,.bool false,.string ⟨xd.toArray⟩,.int .i64 xa] rfl ?_;intro v8 w8 own8 gr8 mv8;obtain⟨a8,c8,rfl,_⟩:=own8.slice;have F8:=hid ((gr8.block _ (lt_of_block F6.out) (fun e=>UNE.out e.symm)).trans F6.out);have O8:=hid own8;have ON8:=hid (only_push ON6.out gr8 UGE.out);clear own8 gr8 mv8 d0 d1 d2 dl df0 df1 df2;obtain⟨d0,d1,d2,dl⟩:=Qj F8.out;obtain⟨df0,df1,df2⟩:=Zl F8.out)
         go_roundg (gk - 1)
         case measure=>have:=HG2.out;omega
         case rel =>
          have o8:=O8.out;simp only [List.length_append,List.length_cons,List.length_nil,Nat.zero_add] at o8
          exact⟨m+1,a'+b01 false,p'+b01 false,.slice a8 (done.length+1) c8,done++[(⟨xp,xv,false,xd,xa⟩:Itm)],by omega,by have:=HG2.out;omega,by simp [b01],by simp [b01],by simp,by have h1:=HA1.out;first | (have h2:=EA.out;simp [b01];omega) | simpa [b01] using h1,by have h1:=HP1.out;first | (have h2:=EP.out;simp [b01];omega) | simpa [b01] using h1,by rw [HST.out];exact stepC_push (by simp [skipC,HPR.out]) (by rw [HPR.out]),by rw [heap_setCell_same _ _ _ _ _ _ F8.out];simp,Qw o8 (Qx o8 F8.out (by decide)) 2 _,ON8.out.set _ _,by have:=HDN.out;simp;omega⟩
        | true =>
         by_cases ep:p'=60
         ·skip
          have hp1:((p':Int)==60)=true:=by rw [beq_iff_eq];omega
          have EP:=hid ep;clear ep;go_wp2_with fail
          go_roundg (gk - 1)
          case measure=>have:=HG2.out;omega
          case rel=>exact⟨m+1,a',p',_,done,by omega,by have:=HG2.out;omega,rfl,rfl,by simp,by omega,by omega,by rw [HST.out];exact if_pos (by simp [skipC,HPR.out,EP.out]),F6.out,OU6.out,ON6.out,by have:=HDN.out;omega⟩
         ·skip
          have hp1:((p':Int)==60)=false:=by rw [beq_eq_false_iff_ne];omega
          have EP:=hid ep;clear ep
          go_wp2_with (at_builtin;refine Xv (E:=encI) rfl (.tmp 67) (.tmp 69) rfl Tryz.underlying51 infoItm' rfl (by decide) w3.heap.size _ done ⟨xp,xv,false,xd,xa⟩ rfl OU6.out rfl (by have:=HDN.out;have:=HML.out;unfold maxLen;omega) (by have:=HDN.out;have:=HML.out;omega) HBZ6.out #[.string ⟨xp.toArray⟩,.string ⟨xv.toArray⟩,.bool false,.string ⟨xd.toArray⟩,.int .i64 xa] rfl ?_;intro v8 w8 own8 gr8 mv8;obtain⟨a8,c8,rfl,_⟩:=own8.slice;have F8:=hid ((gr8.block _ (lt_of_block F6.out) (fun e=>UNE.out e.symm)).trans F6.out);have O8:=hid own8;have ON8:=hid (only_push ON6.out gr8 UGE.out);clear own8 gr8 mv8 d0 d1 d2 dl df0 df1 df2;obtain⟨d0,d1,d2,dl⟩:=Qj F8.out;obtain⟨df0,df1,df2⟩:=Zl F8.out)
          go_roundg (gk - 1)
          case measure=>have:=HG2.out;omega
          case rel =>
           have o8:=O8.out;simp only [List.length_append,List.length_cons,List.length_nil,Nat.zero_add] at o8
           exact⟨m+1,a'+b01 false,p'+b01 true,.slice a8 (done.length+1) c8,done++[(⟨xp,xv,false,xd,xa⟩:Itm)],by omega,by have:=HG2.out;omega,by simp [b01],by simp [b01],by simp,by have h1:=HA1.out;first | (have h2:=EA.out;simp [b01];omega) | simpa [b01] using h1,by have h1:=HP1.out;first | (have h2:=EP.out;simp [b01];omega) | simpa [b01] using h1,by rw [HST.out];exact stepC_push (by simp [skipC,HPR.out,EP.out]) (by rw [HPR.out]),by rw [heap_setCell_same _ _ _ _ _ _ F8.out];simp,Qw o8 (Qx o8 F8.out (by decide)) 2 _,ON8.out.set _ _,by have:=HDN.out;simp;omega⟩
       | true =>
        by_cases ea:a'=20
        ·skip
         have ha1:((a':Int)==20)=true:=by rw [beq_iff_eq];omega
         have EA:=hid ea;clear ea;go_wp2_with fail
         go_roundg (gk - 1)
         case measure=>have:=HG2.out;omega
         case rel=>exact⟨m+1,a',p',_,done,by omega,by have:=HG2.out;omega,rfl,rfl,by simp,by omega,by omega,by rw [HST.out];exact if_pos (by simp [skipC,HPR.out,EA.out]),F6.out,OU6.out,ON6.out,by have:=HDN.out;omega⟩
        ·skip
         cases pr with
         | false =>
          have ha1:((a':Int)==20)=false:=by rw [beq_eq_false_iff_ne];omega
          have EA:=hid ea;clear ea
          go_wp2_with (at_builtin;refine Xv (E:=encI) rfl (.tmp 67) (.tmp 69) rfl Tryz.underlying51 infoItm' rfl (by decide) w3.heap.size _ done ⟨xp,xv,true,xd,xa⟩ rfl OU6.out rfl (by have:=HDN.out;have:=HML.out;unfold maxLen;omega) (by have:=HDN.out;have:=HML.out;omega) HBZ6.out #[.string ⟨xp.toArray⟩,.string ⟨xv.toArray⟩,.bool true,.string ⟨xd.toArray⟩,.int .i64 xa] rfl ?_;intro v8 w8 own8 gr8 mv8;obtain⟨a8,c8,rfl,_⟩:=own8.slice;have F8:=hid ((gr8.block _ (lt_of_block F6.out) (fun e=>UNE.out e.symm)).trans F6.out);have O8:=hid own8;have ON8:=hid (only_push ON6.out gr8 UGE.out);clear own8 gr8 mv8 d0 d1 d2 dl df0 df1 df2;obtain⟨d0,d1,d2,dl⟩:=Qj F8.out;obtain⟨df0,df1,df2⟩:=Zl F8.out)
          go_roundg (gk - 1)
          case measure=>have:=HG2.out;omega
          case rel =>
           have o8:=O8.out;simp only [List.length_append,List.length_cons,List.length_nil,Nat.zero_add] at o8
           exact⟨m+1,a'+b01 true,p'+b01 false,.slice a8 (done.length+1) c8,done++[(⟨xp,xv,true,xd,xa⟩:Itm)],by omega,by have:=HG2.out;omega,by simp [b01],by simp [b01],by simp,by have h1:=HA1.out;first | (have h2:=EA.out;simp [b01];omega) | simpa [b01] using h1,by have h1:=HP1.out;first | (have h2:=EP.out;simp [b01];omega) | simpa [b01] using h1,by rw [HST.out];exact stepC_push (by simp [skipC,HPR.out,EA.out]) (by rw [HPR.out]),by rw [heap_setCell_same _ _ _ _ _ _ F8.out];simp,Qw o8 (Qx o8 F8.out (by decide)) 2 _,ON8.out.set _ _,by have:=HDN.out;simp;omega⟩
         | true =>
          by_cases ep:p'=60
          ·skip
           have ha1:((a':Int)==20)=false:=by rw [beq_eq_false_iff_ne];omega
           have EA:=hid ea;clear ea;have hp1:((p':Int)==60)=true:=by rw [beq_iff_eq];omega
           have EP:=hid ep;clear ep;go_wp2_with fail
           go_roundg (gk - 1)
           case measure=>have:=HG2.out;omega
           case rel=>exact⟨m+1,a',p',_,done,by omega,by have:=HG2.out;omega,rfl,rfl,by simp,by omega,by omega,by rw [HST.out];exact if_pos (by simp [skipC,HPR.out,EA.out,EP.out]),F6.out,OU6.out,ON6.out,by have:=HDN.out;omega⟩
          ·skip
           have ha1:((a':Int)==20)=false:=by rw [beq_eq_false_iff_ne];omega
           have EA:=hid ea;clear ea;have hp1:((p':Int)==60)=false:=by rw [beq_eq_false_iff_ne];omega
           have EP:=hid ep;clear ep
           go_wp2_with (at_builtin;refine Xv (E:=encI) rfl (.tmp 67) (.tmp 69) rfl Tryz.underlying51 infoItm' rfl (by decide) w3.heap.size _ done ⟨xp,xv,true,xd,xa⟩ rfl OU6.out rfl (by have:=HDN.out;have:=HML.out;unfold maxLen;omega) (by have:=HDN.out;have:=HML.out;omega) HBZ6.out #[.string ⟨xp.toArray⟩,.string ⟨xv.toArray⟩,.bool true,.string ⟨xd.toArray⟩,.int .i64 xa] rfl ?_;intro v8 w8 own8 gr8 mv8;obtain⟨a8,c8,rfl,_⟩:=own8.slice;have F8:=hid ((gr8.block _ (lt_of_block F6.out) (fun e=>UNE.out e.symm)).trans F6.out);have O8:=hid own8;have ON8:=hid (only_push ON6.out gr8 UGE.out);clear own8 gr8 mv8 d0 d1 d2 dl df0 df1 df2;obtain⟨d0,d1,d2,dl⟩:=Qj F8.out;obtain⟨df0,df1,df2⟩:=Zl F8.out)
           go_roundg (gk - 1)
           case measure=>have:=HG2.out;omega
           case rel =>
            have o8:=O8.out;simp only [List.length_append,List.length_cons,List.length_nil,Nat.zero_add] at o8
            exact⟨m+1,a'+b01 true,p'+b01 true,.slice a8 (done.length+1) c8,done++[(⟨xp,xv,true,xd,xa⟩:Itm)],by omega,by have:=HG2.out;omega,by simp [b01],by simp [b01],by simp,by have h1:=HA1.out;first | (have h2:=EA.out;simp [b01];omega) | simpa [b01] using h1,by have h1:=HP1.out;first | (have h2:=EP.out;simp [b01];omega) | simpa [b01] using h1,by rw [HST.out];exact stepC_push (by simp [skipC,HPR.out,EA.out,EP.out]) (by rw [HPR.out]),by rw [heap_setCell_same _ _ _ _ _ _ F8.out];simp,Qw o8 (Qx o8 F8.out (by decide)) 2 _,ON8.out.set _ _,by have:=HDN.out;simp;omega⟩
     ·have hmi:¬ (m:Int)<(its2.length:Int):=by omega
      have HDO:=hid (HFS.out done a' p' (by have:=HFI.out;rwa [List.take_of_length_le (by omega)] at this))
      obtain⟨d0,d1,d2,dl⟩:=Qj F5.out
      have ST5:=hid (ST3.out.only HDB.out HLT.out HLE.out ON5.out);have OI5:=hid (show Qf encI 55 w5 w.heap.size (.slice au done.length cu) done from row_mono OU5.out ST3.out.bel.size);have HLN:=hid (show zs.length≤10 by have h1:=congrArg List.length ST3.out.eq;rw [List.length_map] at h1;have:=HDL.out;have:=H10.out;omega);have HB2:=hid ST5.out.bel.size
      go_wp2_with (at_builtin;refine Xv (E:=encD) rfl (.tmp 73) (.tmp 75) rfl Tryz.underlying43 infoDoc' rfl (by decide) w.heap.size _ zs (⟨loc,supp,done⟩,(au,cu)) rfl ST5.out.own rfl (by have:=HLN.out;unfold maxLen;omega) (by have:=HLN.out;omega) HB2.out #[.string ⟨loc.toArray⟩,.bool supp,.slice au done.length cu] rfl ?_;intro v7 w7 own7 gr7 mv7;have ST7:=hid (ST5.out.push OI5.out own7 gr7);clear own7 gr7 mv7)
      go_roundg (go - 1)
      case measure=>have:=HG.out;have:=HGO.out;omega
      case rel=>exact⟨n+1,a',p',_,D++[⟨loc,supp,done⟩],by omega,by have:=H10.out;have:=HE.out;omega,by have:=HG.out;omega,rfl,rfl,by simp,HA1.out,HP1.out,HDO.out,by have:=HDL.out;simp;omega,ST7.out⟩
  ·have hni:¬ (n:Int)<(l.length:Int):=by omega
   have HD:=hid (show OwnD w2 w.heap.size u3 (cut14 l) from by
     have h1:=cut14_at (l:=l) (n:=n) (Or.inr ⟨by omega,H10.out⟩);rw [HFO.out] at h1;have h2:cut14 l=D:=by unfold cut14;rw [← h1]
     rw [h2];exact ST2.out.done)
   go_wp2_with fail;exact bodyPost_ret (v:=u3) (by simp [results,Tryz.results22,go_sem]) rfl ⟨_,rfl,HD.out,ST2.out.bel⟩
end
section
open Go.RowKit Go.Lib
def w14I:List Itm:=[⟨[97,47,98],[49],false,[],0⟩,⟨[99],[46,46,47,97],true,[],0⟩]
def w14D:Dc:=⟨[114,111,111,116],false,w14I⟩
def w14T:Tb:=⟨[⟨[114,111,111,116],[97,47,98],[49],0,0⟩],[⟨[114,111,111,116],[99],[46,46,47,97],0,0⟩],[[114,111,111,116]],[[97,47,98]]⟩
def w14A:List Al:=[([99],[97])]
def enGB:Str:=[101,110,45,71,66]
theorem w14_new:Kc [w14D]=(Wrg.ok,w14T):=by kernel_rfl
theorem w14_none:Qn w14T []=[]:=by decide +kernel
theorem w14_tgts:tgtsF (Xq w14T) []=.inl w14A:=by decide +kernel
theorem w14_srt:Kh w14A=w14A:=by decide +kernel
theorem w14_base:basePs w14T=[[97,47,98]]:=by decide +kernel
theorem w14_names:srtT w14T.names=[[114,111,111,116]]:=by decide +kernel
theorem w14_root:Qn w14T [114,111,111,116]=[[97,47,98]]:=by decide +kernel
theorem w14_mv1:movedF [97,47,98] ([99],[97])=some [99,47,98]:=by decide +kernel
theorem w14_mv2:movedF [99,47,98] ([99],[97])=none:=by decide +kernel
theorem w14_fol:folB ([99],[97]) ([99],[97])=false:=by decide +kernel
theorem w14_bad:badA [] w14A=none:=by decide +kernel
theorem w14_asks:asksB enGB [99,47,98]=true:=by decide +kernel
theorem w14_ld1:leadA w14A [99,47,98]=some [97,47,98]:=by decide +kernel
theorem w14_ld2:leadA w14A [97,47,98]=none:=by decide +kernel
theorem w14_step:stepF [] enGB=some [101,110]:=by decide +kernel
theorem w14_step2:stepF [] [101,110]=some Qv:=by decide +kernel
theorem w14_named:Qk enGB=true:=by decide +kernel
theorem w14_chain:Xl [] enGB=[enGB,[101,110],Qv] :=
 chainF_of (Or.inl ⟨w14_named,rfl,by decide,w14_step,rfl,by decide,w14_step2,rfl,rfl⟩)
theorem w14_way:wayF w14A [99,47,98]=[[99,47,98],[97,47,98]]:=wayF_of ⟨rfl,w14_ld1,rfl,w14_ld2⟩
theorem w14_ring:∀ (n:Nat)(a b:Al),a∈w14A→¬ reachA w14A n a b
 | 0,a,b,ha,h=>by
  obtain⟨_,hb,hf⟩:=h
  simp only [w14A,List.mem_singleton] at ha hb;subst ha;subst hb;rw [w14_fol] at hf;cases hf
 | n+1,a,b,ha,h=>by
  obtain⟨c,h1,_⟩:=h
  exact w14_ring n a c ha h1
theorem w14_out:AlOut w14A 0 0:=Or.inr (Or.inr ⟨w14_bad,rfl,rfl,fun p hp=>fun⟨n,h⟩=>w14_ring n p p hp h⟩)
theorem w14_al (e i:Nat)(h:AlOut w14A e i):e=0:=(alOut_uniq h w14_out).1
theorem w14_gen {p:Str}(g:Gen w14A (basePs w14T) p):p∈[[97,47,98],[99,47,98]]:=by
 induction g with
 | base h=>rw [w14_base] at h;rw [List.mem_singleton.1 h];simp
 | step _ ha hm ih =>
  simp only [w14A,List.mem_singleton] at ha;subst ha;simp only [List.mem_cons,List.not_mem_nil,or_false] at ih
  rcases ih with rfl | rfl
  ·rw [w14_mv1] at hm;cases hm;simp
  ·rw [w14_mv2] at hm;cases hm
theorem w14_kn (b:Bool)(K:List Str)(h:KnownOut w14A (basePs w14T) b K):b=true:=by
 rcases h with ⟨h,_⟩ | ⟨_,L,h1,h2,h3⟩
 ·exact h
 ·have:=nodup_le L [[97,47,98],[99,47,98]] h1 fun p hp=>w14_gen (h2 p hp)
  simp at this
  omega
theorem w14_hb (p:Str):p∈basePs w14T↔∃ l∈srtT w14T.names,p∈Qn w14T l:=by
 rw [w14_base,w14_names]
 constructor
 ·intro h;exact⟨_,List.mem_singleton.2 rfl,by rw [w14_root];exact h⟩
 ·rintro⟨l,hl,h⟩
  rw [List.mem_singleton.1 hl,w14_root] at h;exact h
theorem w14_stops (K:List Str):Km ⟨w14T,[],w14A,K⟩ enGB [99,47,98]=[(enGB,[99,47,98]),([101,110],[99,47,98]),(Qv,[99,47,98]),(enGB,[97,47,98]),([101,110],[97,47,98]),(Qv,[97,47,98])]:=by
 unfold Km;rw [if_neg (by decide)];simp only [w14_way,w14_chain]
 rfl
theorem w14_look (K:List Str):(Xh w14T (Km ⟨w14T,[],w14A,K⟩ enGB [99,47,98])).2=some [49]:=by
 rw [w14_stops]
 decide +kernel
theorem w14_ok {K:List Str}(hk:KnownOut w14A (basePs w14T) true K)(ok:Jq w14T):RsvOk ⟨w14T,[],w14A,K⟩:=by
 rcases hk with ⟨_,h1,h2⟩ | ⟨h,_⟩
 ·exact⟨Or.inr (Or.inr ⟨rfl,rfl,rfl,fun p hp=>by cases hp⟩),w14_out,h1,h2,fun p hp=>by
   simp only [w14T,List.mem_singleton] at hp;subst hp
   decide +kernel,ok⟩
 ·cases h
end
section
open Go.RowKit Go.Lib Go.Sort Go.Maps Go.WideMaps
abbrev cellsI:Array Value:=#[.string ⟨#[97,47,98]⟩,.string ⟨#[49]⟩,.bool false,.string ⟨#[]⟩,.int .i64 0,.string ⟨#[99]⟩,.string ⟨#[46,46,47,97]⟩,.bool true,.string ⟨#[]⟩,.int .i64 0]
theorem w14_rd {w:World}:RdD ((w.alloc (.cells #[.string ⟨#[97,47,98]⟩,.string ⟨#[49]⟩,.bool false,.string ⟨#[]⟩,.int .i64 0,.string ⟨#[99]⟩,.string ⟨#[46,46,47,97]⟩,.bool true,.string ⟨#[]⟩,.int .i64 0] 55)).alloc (.cells #[.string ⟨#[114,111,111,116]⟩,.bool false,.slice (some ⟨w.heap.size,0,none⟩) 2 2] 53)) (.slice (some ⟨w.heap.size+1,0,none⟩) 1 1) [w14D]:=by
 have z1:(w.alloc (.cells cellsI 55)).heap.size=w.heap.size+1:=by simp
 have e1:=heap_alloc_new (w.alloc (.cells cellsI 55)) (.cells #[.string ⟨#[114,111,111,116]⟩,.bool false,.slice (some ⟨w.heap.size,0,none⟩) 2 2] 53);rw [z1] at e1;have e0:=(Below.heap_alloc (w.alloc (.cells cellsI 55)) (.cells #[.string ⟨#[114,111,111,116]⟩,.bool false,.slice (some ⟨w.heap.size,0,none⟩) 2 2] 53) w.heap.size (by rw [z1];omega)).trans (heap_alloc_new w _)
 refine⟨[(w14D,(some ⟨w.heap.size,0,none⟩,2))],rfl,RdL.of_row (l:=[(w14D,(some ⟨w.heap.size,0,none⟩,2))]) (cp:=1) encD e1 rfl (by simp) (by simp),fun z hz=>?_⟩
 rw [List.mem_singleton.1 hz];exact RdL.of_row (l:=w14I) (cp:=2) encI e0 rfl (by simp [w14I]) (by simp [w14I])
theorem w14_sz:SzD [w14D]:=by
 refine⟨fun d hd=>?_,by simp [costD,w14D,w14I,maxLen]⟩
 rw [List.mem_singleton.1 hd]
 refine⟨by simp [w14D,maxLen],fun x hx=>?_⟩
 simp only [w14D,w14I,List.mem_cons,List.not_mem_nil,or_false] at hx
 rcases hx with rfl | rfl <;> simp [maxLen]
theorem w14_szt:SzT w14T:=by
 constructor
 all_goals (intro r hr;simp only [w14T,List.mem_singleton] at hr;subst hr;simp [maxLen])
theorem w14_sza:szA w14A:=fun x hx=>by
 simp only [w14A,List.mem_singleton] at hx;subst hx
 simp [maxLen]
theorem w14_hav:∀ g∈Xq w14T,g.1.length≤maxLen∧g.2.length≤1048576:=by
 have e:Xq w14T=[([99],[46,46,47,97])]:=by decide +kernel
 rw [e];intro g hg;rw [List.mem_singleton.1 hg]
 simp [maxLen]
theorem setCell_self {W:World}{g i:Nat}{cs:Array Value}{t:TypeId}{v:Value}(h:W.heap[g]?=some (.cells cs t (0,0)))(hv:cs[i]?=some v):W.setCell ⟨g,i,none⟩ v=W:=by
 have hh:(W.setCell ⟨g,i,none⟩ v).heap=W.heap:=by
  apply Array.ext_getElem?
  intro k
  by_cases hk:k=g
  ·subst hk;rw [heap_setCell_same _ _ _ _ _ _ h,h]
   congr 2
   apply Array.ext_getElem?
   intro j
   by_cases hj:i=j
   ·subst hj;rw [Array.getElem?_setIfInBounds_self_of_lt (Array.getElem?_eq_some_iff.1 hv).1,hv]
   ·rw [Array.getElem?_setIfInBounds_ne hj]
  ·exact heap_setCell_other _ _ _ _ hk
 have e:W.setCell ⟨g,i,none⟩ v={ W with heap:=(W.setCell ⟨g,i,none⟩ v).heap }:=rfl;rw [e,hh]
end
section
open Go.RowKit Go.Lib
theorem lookG_more {t:Tb}{a:List (Str×Str)}{s:Str×Str}(h:(Xh t a).2=none)(hs:atF t s=none):(Xh t (a++[s])).2=none∧(Xh t (a++[s])).1=a++[s]:=by
 rw [lookF_append,h]
 simp [Xh,hs]
theorem lookG_hit {t:Tb}{a r:List (Str×Str)}{s:Str×Str}{v:Str}(h:(Xh t a).2=none)(hs:atF t s=some v):(Xh t (a++s::r)).2=some v∧(Xh t (a++s::r)).1=a++[s]:=by
 rw [lookF_append,h]
 simp [Xh,hs]
theorem lookG_all {t:Tb}:∀ {a:List (Str×Str)},(Xh t a).2=none→(Xh t a).1=a
 | [],_=>rfl
 | s::a,h=>by
  cases hs:atF t s with
  | some v=>simp [Xh,hs] at h
  | none =>
   simp only [Xh,hs] at h ⊢;rw [lookG_all h]
theorem ownW_one (w:World)(B:Nat)(p:Str)(hB:B≤w.heap.size):Qg (w.alloc (.cells #[.string ⟨p.toArray⟩] 9)) B (.slice (some ⟨w.heap.size,0,none⟩) 1 1) [p]:=by
 refine⟨by simp,Or.inr ⟨w.heap.size,1,#[.string ⟨p.toArray⟩],rfl,hB,heap_alloc_new w _,by simp,by unfold maxLen;omega,rfl,?_⟩⟩
 simp [S]
structure FrW (n:Nat)(A B:World):Prop where
 os:B.os=A.os
 tape:B.tape=A.tape
 output:B.output=A.output
 size:A.heap.size≤B.heap.size
 low:∀ k:Nat,k<n→B.heap[k]?=A.heap[k]?
 typ:∀ (k:Nat) (cs:Array Value) (t:TypeId),A.heap[k]?=some (.cells cs t (0,0))→t≠47→t≠34→B.heap[k]?=some (.cells cs t (0,0))
theorem FrW.refl (n:Nat)(A:World):FrW n A A:=⟨rfl,rfl,rfl,Nat.le_refl _,fun _ _=>rfl,fun _ _ _ h _ _=>h⟩
theorem FrW.trans {n:Nat}{A B C:World}(h:FrW n A B)(g:FrW n B C):FrW n A C :=
 ⟨g.os.trans h.os,g.tape.trans h.tape,g.output.trans h.output,Nat.le_trans h.size g.size,fun k hk=>(g.low k hk).trans (h.low k hk),fun k cs t h1 h2 h3=>g.typ k cs t (h.typ k cs t h1 h2 h3) h2 h3⟩
theorem FrW.of_below {n:Nat}{A B:World}(h:Below A.heap.size A B)(hn:n≤A.heap.size):FrW n A B :=
 ⟨h.os,h.tape,h.output,h.size,fun k hk=>h.block k (by omega),fun k cs t hc _ _=>(h.block k (lt_of_block hc)).trans hc⟩
theorem FrW.bel {n:Nat}{A B C:World}(hb:Below n A B)(g:FrW n B C):Below n A C :=
 hb.trans ⟨g.os,g.tape,g.output,g.size,g.low⟩
theorem ownS_mono {w:World}{B C:Nat}{v:Value}{l:List Str}(h:Qg w B v l)(hc:C≤B):Qg w C v l:=by
 refine⟨h.1,?_⟩
 rcases h.2 with h2 | ⟨b,cap,cur,h1,h2,h3⟩
 ·exact Or.inl h2
 ·exact Or.inr ⟨b,cap,cur,h1,Nat.le_trans hc h2,h3⟩
theorem FrW.own {n B:Nat}{A C:World}{v:Value}{l:List Str}(g:FrW n A C)(h:Qg A B v l):Qg C B v l:=by
 refine⟨h.1,?_⟩
 rcases h.2 with h2 | ⟨b,cap,cur,h1,h2,h3,h4⟩
 ·exact Or.inl h2
 ·exact Or.inr ⟨b,cap,cur,h1,h2,g.typ b cur _ h3 (by decide) (by decide),h4⟩
theorem walk_gen {B0:Nat}{w0 w:World}{v:Value}{R:Rsv}(h:RsP B0 w0 v R)(hbw:Below w0.heap.size w0 w)(ok:RsvOk R)(l:Str)(vp:Value)(ps:List Str)(hps:Qg w w0.heap.size vp ps)(hpb:∀ p∈ps,Qm p=true)(hl:l.length≤maxLen)(hA:R.als.length≤900)(hn:ps.length≤1000)(hsz:R.par.length≤10000000000)(hsa:szA R.als)
  (sf:Nat)(sc:Array Value)(heg:∀ args W,(callFunc sf args).run Tryz.prog W=.ok (.enter sf args) W)(J:List (Str×Str)→World→Prop)(hJb:∀ V W W',J V W→Below W.heap.size W W'→J V W')(hJ0:J [] w)
  (hsee:∀ V W x q,J V W→Below w0.heap.size w0 W→(V++[(x,q)]) <+: ps.flatMap (Km R l)→Calls Tryz.prog sf (#[.agg #[.string ⟨x.toArray⟩,.string ⟨q.toArray⟩]]++sc) W fun e w'=>e=.returned (.tuple #[])∧J (V++[(x,q)]) w'∧FrW w0.heap.size W w') :
  Calls Tryz.prog 36 #[v,.string ⟨l.toArray⟩,vp,.func (.func sf) #[] sc] w fun e w'=>e=.returned (.tuple #[.string ⟨((Xh R.t (ps.flatMap (Km R l))).2.getD []).toArray⟩,.bool (Xh R.t (ps.flatMap (Km R l))).2.isSome])∧J (Xh R.t (ps.flatMap (Km R l))).1 w'∧FrW w0.heap.size w w':=by
 have CH:=hid (fun W (hb:Below w0.heap.size w0 W) vc (hc:ChRd W vc R.par)=>chain_any W vc R.par l (Xl R.par l) hc (new_ok ok.par).1 (ok.chain l) hl hsz);have HWY:=hid (fun p (hp:p∈ps)=>ok.way p);have HWP:=hid (fun p (hp:p∈ps) q (hq:q∈wayF R.als p)=>(show q.length≤maxLen from by have:=pathB_len (way_path (hpb p hp) (ok.way p).1 q hq);unfold maxLen;omega));have HPP:=hid (fun p (hp:p∈ps)=>(show p.length≤maxLen from by have:=pathB_len (hpb p hp);unfold maxLen;omega));have WY:=hid (fun W va (p:Str) (hp:p∈ps) (ha:AlRd W va R.als)=>away_any W va R.als p (wayF R.als p) ha (hpb p hp) hsa (ok.way p).1 (by have:=(ok.way p).2;omega));have HNM:=hid (fun x (hx:x∈Xl R.par l)=>ok.chain_ne hx);have HST:=hid (fun p (hne:l≠[])=>show Km R l p=(wayF R.als p).flatMap fun q=>(Xl R.par l).map fun x=>(x,q) from by unfold Km;rw [if_neg hne]);have HST0:=hid (fun p (hne:l=[])=>show Km R l p=[([],p)] from by unfold Km;rw [if_pos hne]);have HAE:=hid hA;have HN:=hid hn;have SEE:=hid hsee;have EG:=hid heg;have JB:=hid hJb;have J0:=hid hJ0
 obtain⟨b,Bt,vc,va,km,n,rfl,hb,ht,hc,ha,_⟩:=h
 obtain⟨ap,cp,rfl⟩:=Qc hps
 have HB:=hid hb;have HT:=hid ht;have HA:=hid ha;have HP:=hid hps;have HBW:=hid hbw;have HN0:=hid (show w0.heap.size≤w.heap.size from hbw.size);have CHW:=hid (CH.out w hbw _ (hc.below hbw))
 obtain⟨a0,a1,a2,a3,al⟩:=Kk (bk hbw hb)
 have hpl:(ps.length:Int)≤1000:=by omega
 clear hb ht hc ha hps ok hpb hA hn hsz hsa CH hbw heg hsee hJb hJ0
 go_enter Tryz.func36,Tryz.ntmps36
 go_wp2_with fail
 go_step3
 go_wp2_with fail;refine CHW.out.mono ?_;rintro e w1 ⟨vv,rfl,ho,hb1⟩
 obtain⟨au0,cu0,rfl⟩:=Qc ho
 have F1:=hid (FrW.of_below hb1 HN0.out);have B1:=hid (F1.out.bel HBW.out);have HU0:=hid (show Qg w1 w0.heap.size _ (Xl R.par l) from ownS_mono ho HN0.out);have HP1:=hid (show Qg w1 w0.heap.size _ ps from Qz HP.out hb1);have J1:=hid (JB.out [] w w1 J0.out hb1);clear ho hb1 a0 a1 a2 a3 al HP CHW J0 HBW;have hul0:((Xl R.par l).length:Int)≤9223372036854775807:=by
  rcases HU0.out.shape with ⟨_,e⟩ | ⟨g,cap,cur,e,hB,hg,hn,hm,hs,ht⟩
  ·rw [e];simp
  ·unfold maxLen at hm;omega
 have HUL0:=hid hul0;clear hul0;go_upto_region 4 with fail
 go_step3
 go_upto_region 4 with fail
 go_loopg [10,11,12,30] ps.length (fun g v10 v11 v12 v30 W=>∃ a:Nat,a≤ps.length∧ps.length≤a+g∧v10=.bool false∧v11=.string ⟨#[]⟩∧(l≠[]→v12=.slice au0 (Xl R.par l).length cu0)∧v30=.int .i64 a∧(Xh R.t ((ps.take a).flatMap (Km R l))).2=none∧J ((ps.take a).flatMap (Km R l)) W∧FrW w0.heap.size w1 W)
 case atStart=>exact⟨0,Nat.zero_le _,by omega,rfl,rfl,fun _=>rfl,rfl,rfl,by simpa using J1.out,FrW.refl _ _⟩
 case round =>
  obtain⟨a,ha,hg,rfl,rfl,h12,rfl,hno,hj,hb⟩:=hrel
  rename World=>w2
  obtain⟨g1,hg1⟩:∃ g1,g1=gk:=⟨_,rfl⟩
  have HGE1:=hid hg1;have HG:=hid (show ps.length≤a+g1 by rw [hg1];exact hg);have HNO:=hid hno;have HJ2:=hid hj;have H12:=hid h12;clear hg1;have HF2:=hid hb;have B2:=hid (HF2.out.bel B1.out);clear hg hno hb hj h12
  by_cases hlt:a<ps.length
  ·have hni:(a:Int)<(ps.length:Int):=by omega
   have hn0:(0:Int)≤(a:Int):=by omega
   obtain⟨pp,rfl,hpl2,r0⟩:=own_atW (HF2.out.own HP1.out) a hlt
   obtain⟨p,hp⟩:∃ p,p=ps[a]'hlt:=⟨_,rfl⟩
   have HPM:=hid (show p∈ps by rw [hp];exact List.getElem_mem hlt);have HTK:=hid (show(ps.take (a+1)).flatMap (Km R l)=(ps.take a).flatMap (Km R l)++Km R l p by
    rw [List.take_succ_eq_append_getElem hlt,List.flatMap_append,← hp];simp)
   have HAL:=hid (show ∃ rest,ps.flatMap (Km R l)=(ps.take a).flatMap (Km R l)++(Km R l p++rest) from
    ⟨(ps.drop (a+1)).flatMap (Km R l),by
     rw [← List.append_assoc,← HTK.out,← List.flatMap_append,List.take_append_drop]⟩)
   rw [← hp] at r0;clear hp;have HB2':=hid (bk B2.out HB.out)
   obtain⟨a0,a1,a2,a3,al⟩:=Kk HB2'.out
   have WYP:=hid (WY.out w2 _ p HPM.out (HA.out.below B2.out));have HQL:=hid (HWP.out p HPM.out);have hwl:((wayF R.als p).length:Int)≤1000:=by have:=(HWY.out p HPM.out).2;have:=HAE.out;omega
   have HSP:=hid (HST.out p);have HSP0:=hid (HST0.out p);have HPL:=hid (HPP.out p HPM.out)
   obtain⟨rd,hrd⟩:∃ rd,rd=ps.flatMap (Km R l):=⟨_,rfl⟩
   generalize (ps.take a).flatMap (Km R l)=pre at *;generalize Km R l p=sp at *;generalize wayF R.als p=wl0 at *;go_wp2_with fail;refine WYP.out.mono ?_;rintro e w3 ⟨vw,rfl,how,hb3⟩
   obtain⟨aw0,cw0,rfl⟩:=Qc how
   have HN2:=hid (show w0.heap.size≤w2.heap.size from B2.out.size);have HW0:=hid (show Qg w3 w0.heap.size _ wl0 from ownS_mono how HN2.out);have HF23:=hid (FrW.of_below hb3 HN2.out);have HF3:=hid (HF2.out.trans HF23.out);have HU3:=hid (HF3.out.own HU0.out);have HJ3:=hid (JB.out _ _ _ HJ2.out hb3);have B3:=hid (HF3.out.bel B1.out);have HWL:=hid hwl;clear how hb3 a0 a1 a2 a3 al HB2' WYP r0 hpl2 hwl HJ2
   go_upto_if 41 with fail
   go_cut [12,15] from 41 to 84 (fun v12 v15 wc=>∃ (ul wl:List Str) (au aw:Option Addr) (cu cw:Nat),v12=.slice au ul.length cu∧v15=.slice aw wl.length cw∧Qg wc w0.heap.size (.slice au ul.length cu) ul∧Qg wc w0.heap.size (.slice aw wl.length cw) wl∧FrW w0.heap.size w3 wc∧J pre wc∧sp=(wl.flatMap fun q=>ul.map fun x=>(x,q))∧
    (∀ x∈ul,x.length≤maxLen∧(x=[]↔l=[]))∧(∀ q∈wl,q.length≤maxLen)∧((wl.length:Int)≤1000)∧((ul.length:Int)≤9223372036854775807)∧(l≠[]→v12=.slice au0 (Xl R.par l).length cu0))
   case first =>
    by_cases hle:l=[]
    ·refine wp_cond_true (by show Value.bool (List.isEmpty l)=_;rw [hle];rfl) ?_;have HLE:=hid hle;have A1:=hid (bal w3 (.cells #[.string ⟨p.toArray⟩] 9));have A2:=hid (show Below (w3.alloc (.cells #[.string ⟨p.toArray⟩] 9)).heap.size (w3.alloc (.cells #[.string ⟨p.toArray⟩] 9)) ((w3.alloc (.cells #[.string ⟨p.toArray⟩] 9)).alloc (.cells #[.string ⟨#[]⟩] 9)) from bal _ _);have HN3:=hid (show w0.heap.size≤w3.heap.size from B3.out.size);have OW:=hid (show Qg ((w3.alloc (.cells #[.string ⟨p.toArray⟩] 9)).alloc (.cells #[.string ⟨#[]⟩] 9)) w0.heap.size (.slice (some ⟨w3.heap.size,0,none⟩) 1 1) [p] from Qz (ownW_one w3 _ p HN3.out) A2.out);have OU:=hid (show Qg ((w3.alloc (.cells #[.string ⟨p.toArray⟩] 9)).alloc (.cells #[.string ⟨#[]⟩] 9)) w0.heap.size (.slice (some ⟨(w3.alloc (.cells #[.string ⟨p.toArray⟩] 9)).heap.size,0,none⟩) 1 1) [[]] from ownW_one _ _ [] (Nat.le_trans HN3.out A1.out.size));have JA:=hid (JB.out _ _ _ HJ3.out (A1.out.then A2.out));have FA:=hid (FrW.of_below (A1.out.then A2.out) HN3.out);have HS1:=hid (show(w3.alloc (.cells #[.string ⟨p.toArray⟩] 9)).heap.size=w3.heap.size+1 by simp);rw [HS1.out] at OU;clear A1 A2 hle;go_wp2_with fail
     go_meet
     exact⟨[[]],[p],_,_,_,_,rfl,rfl,OU.out,OW.out,FA.out,JA.out,by rw [HSP0.out HLE.out];rfl,fun x hx=>by rw [List.mem_singleton.1 hx];exact⟨Nat.zero_le _,fun _=>HLE.out,fun _=>rfl⟩,fun q hq=>by rw [List.mem_singleton.1 hq];exact HPL.out,by simp,by simp,fun h=>absurd HLE.out h⟩
    ·refine wp_cond_false (by show Value.bool (List.isEmpty l)=_;rw [isEmpty_ne hle]) ?_;have h12:=H12.out hle;have HLE:=hid hle;have HXX:=hid (show ∀ x∈Xl R.par l,x.length≤maxLen∧(x=[]↔l=[]) from fun x hx=>by
      have hn:=HNM.out x hx
      refine⟨Nat.le_trans (named_len hn) (by decide),fun e=>?_,fun e=>absurd e hle⟩
      rw [e,named_nil] at hn;cases hn)
     subst h12;clear hle;go_wp2_with fail
     go_meet
     exact⟨Xl R.par l,wl0,au0,aw0,cu0,cw0,rfl,rfl,HU3.out,HW0.out,FrW.refl _ _,HJ3.out,HSP.out HLE.out,HXX.out,HQL.out,HWL.out,HUL0.out,fun _=>rfl⟩
   case rest =>
    obtain⟨ul,wl,au,aw,cu,cw,rfl,rfl,hu,hw,hf,hj,hspl,hxx,hqq,hwl,hul,h12⟩:=hcut
    have HU:=hid hu;have HW:=hid hw;have HFC:=hid (HF3.out.trans hf);have HJC:=hid hj;have HSPL:=hid hspl;have HXX:=hid hxx;have HQQ:=hid hqq;have HWL2:=hid hwl;have HUL2:=hid hul;have H12B:=hid h12;clear hu hw hf hj hspl hxx hqq hwl hul h12 HU3 HW0 HJ3 HF3 HF23 H12 HSP HSP0 HQL HWL HNM HPL B2 B3 HN2 HF2;have hwl:=HWL2.out;have hul:=HUL2.out;go_upto_region 10 with fail
    go_loopg [10,11,47] wl.length (fun g v10 v11 v47 W=>∃ bb:Nat,bb≤wl.length∧wl.length≤bb+g∧v10=.bool false∧v11=.string ⟨#[]⟩∧v47=.int .i64 bb∧(Xh R.t (pre++(wl.take bb).flatMap fun q=>ul.map fun x=>(x,q))).2=none∧J (pre++(wl.take bb).flatMap fun q=>ul.map fun x=>(x,q)) W∧FrW w0.heap.size wc W)
    case atStart=>exact⟨0,Nat.zero_le _,by omega,rfl,rfl,rfl,by simpa using HNO.out,by simpa using HJC.out,FrW.refl _ _⟩
    case round =>
     obtain⟨bb,hbb,hg,rfl,rfl,rfl,hno2,hj,hb⟩:=hrel
     rename World=>w4
     obtain⟨g2,hg2⟩:∃ g2,g2=gk:=⟨_,rfl⟩
     have HGE2:=hid hg2;have HG2:=hid (show wl.length≤bb+g2 by rw [hg2];exact hg);have HNO2:=hid hno2;have HJ4:=hid hj;clear hg2;have HF4:=hid hb;clear hg hno2 hb hj
     by_cases hlt2:bb<wl.length
     ·have hbi:(bb:Int)<(wl.length:Int):=by omega
      have hb0:(0:Int)≤(bb:Int):=by omega
      obtain⟨gw,rfl,hgl,s0⟩:=own_atW (HF4.out.own HW.out) bb hlt2
      obtain⟨q,hq⟩:∃ q,q=wl[bb]'hlt2:=⟨_,rfl⟩
      have HQ:=hid (show q.length≤maxLen from HQQ.out q (by rw [hq];exact List.getElem_mem hlt2));have HTK2:=hid (show(wl.take (bb+1)).flatMap (fun q=>ul.map fun x=>(x,q))=(wl.take bb).flatMap (fun q=>ul.map fun x=>(x,q))++ul.map fun x=>(x,q) by
       rw [List.take_succ_eq_append_getElem hlt2,List.flatMap_append,← hq];simp)
      have HSR:=hid (show ∃ rest,sp=(wl.take bb).flatMap (fun q=>ul.map fun x=>(x,q))++((ul.map fun x=>(x,q))++rest) from
       ⟨(wl.drop (bb+1)).flatMap (fun q=>ul.map fun x=>(x,q)),by
        rw [← List.append_assoc,← HTK2.out,← List.flatMap_append,List.take_append_drop];exact HSPL.out⟩)
      rw [← hq] at s0;clear hq;go_upto_region 13 with fail;generalize (wl.take bb).flatMap (fun q=>ul.map fun x=>(x,q))=mid at *
      go_loopg [10,11,53] ul.length (fun g v10 v11 v53 W=>∃ cc:Nat,cc≤ul.length∧ul.length≤cc+g∧v10=.bool false∧v11=.string ⟨#[]⟩∧v53=.int .i64 cc∧(Xh R.t (pre++(mid++(ul.take cc).map fun x=>(x,q)))).2=none∧J (pre++(mid++(ul.take cc).map fun x=>(x,q))) W∧FrW w0.heap.size w4 W)
      case atStart=>exact⟨0,Nat.zero_le _,by omega,rfl,rfl,rfl,by simpa using HNO2.out,by simpa using HJ4.out,FrW.refl _ _⟩
      case round =>
       obtain⟨cc,hcc,hg,rfl,rfl,rfl,hno3,hj,hb⟩:=hrel
       rename World=>w5
       have HG3:=hid hg;have HNO3:=hid hno3;have HJ5:=hid hj;have HF5:=hid (HF4.out.trans hb);have HF45:=hid hb;have B5:=hid ((HFC.out.trans HF5.out).bel B1.out);clear hg hno3 hb s0 hgl hj
       by_cases hlt3:cc<ul.length
       ·have hci:(cc:Int)<(ul.length:Int):=by omega
        have hc0:(0:Int)≤(cc:Int):=by omega
        obtain⟨gu,rfl,hgl,s0⟩:=own_atW (HF5.out.own HU.out) cc hlt3
        obtain⟨x,hx⟩:∃ x,x=ul[cc]'hlt3:=⟨_,rfl⟩
        have HX:=hid (HXX.out x (by rw [hx];exact List.getElem_mem hlt3));rw [← hx] at s0;have HTK3:=hid (show(ul.take (cc+1)).map (fun x=>(x,q))=(ul.take cc).map (fun x=>(x,q))++[(x,q)] by
         rw [List.take_succ_eq_append_getElem hlt3,List.map_append,← hx];rfl)
        clear hx;have HRD:=hid (show ∃ r,rd=(pre++(mid++(ul.take cc).map fun x=>(x,q)))++((x,q)::r) from by
         obtain⟨r1,e1⟩:=HAL.out
         obtain⟨r2,e2⟩:=HSR.out
         have e3:(ul.map fun x=>(x,q))=(ul.take cc).map (fun x=>(x,q))++((x,q)::(ul.drop (cc+1)).map fun x=>(x,q)):=by
          have h1:(ul.take (cc+1)).map (fun x=>(x,q))++(ul.drop (cc+1)).map (fun x=>(x,q))=ul.map fun x=>(x,q):=by rw [← List.map_append,List.take_append_drop]
          rw [← h1,HTK3.out,List.append_assoc,List.singleton_append]
         refine⟨(ul.drop (cc+1)).map (fun x=>(x,q))++(r2++r1),?_⟩
         rw [hrd,e1,e2,e3]
         simp [List.append_assoc])
        have SW:=hid (SEE.out (pre++(mid++(ul.take cc).map fun x=>(x,q))) w5 x q HJ5.out B5.out (by
         obtain⟨r,e⟩:=HRD.out
         rw [← hrd,e]
         exact⟨r,by simp⟩))
        go_wp2_with fail;rw [EG.out];simp only [Oper.upon];refine SW.out.mono ?_;rintro e w6 ⟨rfl,hj6,hf6⟩;have HF6:=hid (HF5.out.trans hf6);have HF46:=hid (HF45.out.trans hf6);have HJ6:=hid hj6;have B6:=hid (hf6.bel B5.out);have HBX:=hid (bk B6.out HB.out)
        obtain⟨a0,a1,a2,a3,al⟩:=Kk HBX.out
        have GT:=hid ((HT.out.below B6.out).get x q HX.out.1 HQ.out);clear hf6 hj6 s0 hgl SW HJ5;have HN6:=hid (show w0.heap.size≤w6.heap.size from B6.out.size);have HAT:=hid (show atF R.t (x,q)=match Qy R.t.rows x q with
         | none=>none
         | some r=>if r.text=arrows∧x≠[] then none else some r.text from rfl)
        cases hfr:Qy R.t.rows x q with
        | none =>
         rw [hfr] at GT HAT;have HN4:=hid (lookG_more HNO3.out HAT.out).1;clear hfr;go_wp2_with fail;refine GT.out.mono ?_;rintro e w7 ⟨rfl,hb7⟩;have HF47:=hid (HF46.out.trans (FrW.of_below hb7 HN6.out));have HJ7:=hid (JB.out _ _ _ HJ6.out hb7);clear hb7;go_wp2_with fail
         go_roundg (gk - 1)
         case measure=>have:=HG3.out;omega
         case rel=>exact⟨cc+1,by omega,by have:=HG3.out;omega,rfl,rfl,by simp,by have:=HN4.out;rw [HTK3.out];simpa using this,by have:=HJ7.out;rw [HTK3.out];simpa using this,HF47.out⟩
        | some r =>
         rw [hfr] at GT HAT;rw [show rText (some r)=r.text from rfl,Option.isSome_some] at GT;clear hfr
         by_cases hle:l=[]
         ·have hlb:(l==[])=true:=by rw [hle];rfl
          have hlb2:List.isEmpty l=true:=by rw [hle];rfl
          have HIT:=hid (show(Xh R.t rd).2=some r.text∧(Xh R.t rd).1=(pre++(mid++(ul.take cc).map fun x=>(x,q)))++[(x,q)] from by
           obtain⟨r1,e⟩:=HRD.out
           rw [e];exact lookG_hit HNO3.out (HAT.out.trans (if_neg (fun h=>h.2 (HX.out.2.2 hle)))))
          clear hle
          obtain⟨tx,htx⟩:∃ tx,tx=r.text:=⟨_,rfl⟩
          rw [← htx] at GT HIT;clear htx
          by_cases har:tx=arrows
          ·have hs1:(tx != [226,134,145,226,134,145,226,134,145])=false:=by rw [har];rfl
           have hs2:(tx==[226,134,145,226,134,145,226,134,145])=true:=by rw [har];rfl
           clear har;go_wp2_with fail;refine GT.out.mono ?_;rintro e w7 ⟨rfl,hb7⟩;have HF7:=hid (F1.out.trans (HFC.out.trans (HF6.out.trans (FrW.of_below hb7 HN6.out))));have HJ7:=hid (JB.out _ _ _ HJ6.out hb7);clear hb7;go_wp2_with fail;rw [Exit.noGoto_ret];change bodyPost _ _ _ Exit.ret _ _;refine bodyPost_ret (v:=.tuple #[.string ⟨(tx).toArray⟩,.bool true]) ?_ rfl ?_
           ·simp [results,Tryz.results36,go_sem]
           exact⟨by rw [← hrd,HIT.out.1];rfl,by rw [← hrd,HIT.out.2];exact HJ7.out,HF7.out⟩
          ·have hs1:(tx != [226,134,145,226,134,145,226,134,145])=true:=bne_iff_ne.2 har;have hs2:(tx==[226,134,145,226,134,145,226,134,145])=false:=beq_eq_false_iff_ne.2 har;clear har;go_wp2_with fail;refine GT.out.mono ?_;rintro e w7 ⟨rfl,hb7⟩;have HF7:=hid (F1.out.trans (HFC.out.trans (HF6.out.trans (FrW.of_below hb7 HN6.out))));have HJ7:=hid (JB.out _ _ _ HJ6.out hb7);clear hb7;go_wp2_with fail;rw [Exit.noGoto_ret];change bodyPost _ _ _ Exit.ret _ _;refine bodyPost_ret (v:=.tuple #[.string ⟨(tx).toArray⟩,.bool true]) ?_ rfl ?_
           ·simp [results,Tryz.results36,go_sem]
           exact⟨by rw [← hrd,HIT.out.1];rfl,by rw [← hrd,HIT.out.2];exact HJ7.out,HF7.out⟩
         by_cases har:r.text=arrows
         ·have hlb:(l==[])=false:=beq_eq_false_iff_ne.2 hle;have hlb2:List.isEmpty l=false:=isEmpty_ne hle;have hs2:r.text=[226,134,145,226,134,145,226,134,145]:=har;have HN4:=hid (lookG_more HNO3.out (HAT.out.trans (if_pos ⟨har,fun e=>hle (HX.out.2.1 e)⟩))).1;clear har;rw [hs2] at GT;clear hs2 hle;go_wp2_with fail;refine GT.out.mono ?_;rintro e w7 ⟨rfl,hb7⟩;have HF47:=hid (HF46.out.trans (FrW.of_below hb7 HN6.out));have HJ7:=hid (JB.out _ _ _ HJ6.out hb7);clear hb7;go_wp2_with fail
          go_roundg (gk - 1)
          case measure=>have:=HG3.out;omega
          case rel=>exact⟨cc+1,by omega,by have:=HG3.out;omega,rfl,rfl,by simp,by have:=HN4.out;rw [HTK3.out];simpa using this,by have:=HJ7.out;rw [HTK3.out];simpa using this,HF47.out⟩
         ·have hlb:(l==[])=false:=beq_eq_false_iff_ne.2 hle;have hlb2:List.isEmpty l=false:=isEmpty_ne hle;have hs1:(r.text != [226,134,145,226,134,145,226,134,145])=true:=bne_iff_ne.2 har;have hs2:(r.text==[226,134,145,226,134,145,226,134,145])=false:=beq_eq_false_iff_ne.2 har;have HIT:=hid (show(Xh R.t rd).2=some r.text∧(Xh R.t rd).1=(pre++(mid++(ul.take cc).map fun x=>(x,q)))++[(x,q)] from by
           obtain⟨r1,e⟩:=HRD.out
           rw [e];exact lookG_hit HNO3.out (HAT.out.trans (if_neg (fun h=>har h.1))))
          clear har hle;go_wp2_with fail;refine GT.out.mono ?_;rintro e w7 ⟨rfl,hb7⟩;have HF7:=hid (F1.out.trans (HFC.out.trans (HF6.out.trans (FrW.of_below hb7 HN6.out))));have HJ7:=hid (JB.out _ _ _ HJ6.out hb7);clear hb7;go_wp2_with fail;rw [Exit.noGoto_ret];change bodyPost _ _ _ Exit.ret _ _;refine bodyPost_ret (v:=.tuple #[.string ⟨(r.text).toArray⟩,.bool true]) ?_ rfl ?_
          ·simp [results,Tryz.results36,go_sem]
          exact⟨by rw [← hrd,HIT.out.1];rfl,by rw [← hrd,HIT.out.2];exact HJ7.out,HF7.out⟩
       ·have hci:¬ (cc:Int)<(ul.length:Int):=by omega
        have HTA:=hid (show(ul.take cc).map (fun x=>(x,q))=ul.map fun x=>(x,q) by rw [List.take_of_length_le (by omega)]);rw [HTA.out] at HNO3 HJ5;go_wp2_with fail
        go_roundg (g2 - 1)
        case measure=>have:=HG2.out;have:=HGE2.out;omega
        case rel=>exact⟨bb+1,by omega,by have:=HG2.out;omega,rfl,rfl,by simp,by rw [HTK2.out];exact HNO3.out,by rw [HTK2.out];exact HJ5.out,HF5.out⟩
     ·have hbi:¬ (bb:Int)<(wl.length:Int):=by omega
      have HTA:=hid (show wl.take bb=wl from List.take_of_length_le (by omega));rw [HTA.out,← HSPL.out] at HNO2 HJ4;go_wp2_with fail
      go_roundg (g1 - 1)
      case measure=>have:=HG.out;have:=HGE1.out;omega
      case rel=>exact⟨a+1,by omega,by have:=HG.out;omega,rfl,rfl,H12B.out,by simp,by rw [HTK.out];exact HNO2.out,by rw [HTK.out];exact HJ4.out,HFC.out.trans HF4.out⟩
  ·have hni:¬ (a:Int)<(ps.length:Int):=by omega
   have HTA:=hid (show ps.take a=ps from List.take_of_length_le (by omega));rw [HTA.out] at HNO HJ2;go_wp2_with fail;change bodyPost _ _ _ Exit.ret _ _;refine bodyPost_ret (v:=.tuple #[.string ⟨#[]⟩,.bool false]) ?_ rfl ?_
   ·simp [results,Tryz.results36,go_sem]
   exact⟨by rw [HNO.out];rfl,by rw [lookG_all HNO.out];exact HJ2.out,F1.out.trans HF2.out⟩
end
end Go.Proofs.YtbbmdbolkicpcaaGreatDoor
