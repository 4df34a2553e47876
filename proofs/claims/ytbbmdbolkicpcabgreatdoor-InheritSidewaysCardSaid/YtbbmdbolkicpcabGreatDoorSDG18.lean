/- AsVal, AlTgtA, AlNewA -/
import Derived.Test.YtbbmdbolkicpcabGreatDoorSDG17
import Derived.Test.YtbbmdbolkicpcabGreatDoorSDShelf
import Derived.Deep.RegionHeld3
import Derived.Test.YtbbmdbolkicpcabGreatDoorSDG08
import Derived.Test.YtbbmdbolkicpcabGreatDoorSDG11
import Derived.Test.YtbbmdbolkicpcabGreatDoorSDG06
import Derived.Test.YtbbmdbolkicpcabGreatDoorSDG05
import Derived.Test.YtbbmdbolkicpcabGreatDoorSDG16
import Derived.Deep.CutBlock
import Derived.Deep.LoopGhost
set_option maxRecDepth 100000
set_option maxHeartbeats 32000000
set_option linter.unusedVariables false
set_option linter.unusedSimpArgs false
namespace Go.Proofs.YtbbmdbolkicpcabGreatDoor
section
open Go.RowKit Go.Lib
def Yx (q:UInt8)(t:Str):Bool:=Jf (t.takeWhile (fun c=>c != q))
theorem Qyg {q:UInt8}{t:Str}(h:Zl (fun c=>c==q) t=true):Yx q t=true:=by
 cases t with
 |nil=>rfl
 |cons c t =>
  have hc:(c==q)=true:=h;unfold Yx;rw[List.takeWhile_cons]
  simp[bne,hc]
  rfl
theorem ctl_high {c:UInt8}(h:128≤c.toNat):Bz c=false:=by
 unfold Bz;simp only[Bool.or_eq_false_iff,decide_eq_false_iff_not]
 constructor
 ·omega
 ·rw[beq_eq_false_iff_ne];omega
theorem Qkh {q:UInt8}:∀(run t:Str),(∀c∈run,c≠q)→(run++t).takeWhile (fun c=>c != q)=run++t.takeWhile (fun c=>c != q)∧(run++t).dropWhile (fun c=>c != q)=t.dropWhile (fun c=>c != q)
 |[],t,_=>⟨rfl,rfl⟩
 |c::r,t,h=>by
  obtain⟨h1,h2⟩:=Qkh r t (fun d hd=>h d (List.mem_cons_of_mem _ hd))
  have hc:(c != q)=true:=by simpa using h c (List.mem_cons_self ..)
  rw[List.cons_append,List.takeWhile_cons,List.dropWhile_cons,hc];simp only[if_true]
  exact⟨by rw[h1];rfl,h2⟩
theorem Qsj {q:UInt8}(hq:q.toNat<128){t:Str}(hne:t≠[])(hh:Zl (fun c=>c==q) t=false)(hb:decodeL t≠(65533,1))(h32:32≤(decodeL t).1)(h127:(decodeL t).1≠127) :
  Yx q t=Yx q (t.drop (decodeL t).2)∧t.takeWhile (fun c=>c != q)=t.take (decodeL t).2++(t.drop (decodeL t).2).takeWhile (fun c=>c != q)∧t.dropWhile (fun c=>c != q)=(t.drop (decodeL t).2).dropWhile (fun c=>c != q):=by
 have hs:=Sq t hne hb;have hpre:∀u,decodeL (t.take (decodeL t).2++u)=decodeL t:=fun u=>Pj hne hb _ rfl
 generalize hd:decodeL t=d at *
 obtain⟨r,n⟩:=d
 simp only at hs h32 h127 hpre ⊢
 cases hs with
 |one c t' h =>
  have hc:c≠q:=by
   intro e
   have:(c==q)=false:=hh
   rw[e]at this;simp at this
  obtain⟨h1,h2⟩:=Qkh [c] t' (fun d hd=>by rw[List.mem_singleton.1 hd];exact hc)
  rw[List.singleton_append]at h1 h2
  refine⟨?_,h1,h2⟩
  unfold Yx Jf;rw[h1];have hct:Bz c=false:=by
   unfold Bz;simp only[Bool.or_eq_false_iff,decide_eq_false_iff_not]
   exact⟨by omega,beq_eq_false_iff_ne.2 h127⟩
  show(Zq (c::List.takeWhile (fun c=>c != q) t')&&(c::List.takeWhile (fun c=>c != q) t').all (fun c=>!Bz c))=_
  rw[Jg h,List.all_cons,hct]
  rfl
 |more run t' _ h2 h4 hr hm hbb he =>
  have hrq:∀c∈run,c≠q:=fun c hc e=>by have:=hbb c hc;rw[e]at this;omega
  obtain⟨h1,h2'⟩:=Qkh run t' hrq
  have e1:(run++t').take run.length=run:=by simp
  have e2:(run++t').drop run.length=t':=by simp
  rw[e1]at hpre;rw[e1,e2]
  refine⟨?_,h1,h2'⟩
  unfold Yx Jf;rw[h1];have hrn:run++t'.takeWhile (fun c=>c != q)≠[]:=by
   intro e
   have:=congrArg List.length e
   rw[List.length_append,List.length_nil]at this;omega
  rw[Yj hrn,hpre];have hx:((r,run.length)==((65533,1):Nat×Nat))=false:=by
   rw[beq_eq_false_iff_ne];intro e
   have:=(Prod.mk.inj e).2
   omega
  rw[hx,List.all_append];have ha:run.all (fun c=>!Bz c)=true:=List.all_eq_true.2 (fun c hc=>by rw[ctl_high (hbb c hc)];rfl);rw[ha]
  simp
theorem Zhq {q:UInt8}{t:Str}(hne:t≠[])(hh:Zl (fun c=>c==q) t=false)(hb:decodeL t=(65533,1)∨(decodeL t).1<32∨(decodeL t).1=127):Yx q t=false:=by
 have hun:t.takeWhile (fun c=>c != q)≠[]:=by
  cases t with
  |nil=>exact absurd rfl hne
  |cons c t =>
   have hc:(c==q)=false:=hh;rw[List.takeWhile_cons]
   simp[bne,hc]
 by_cases hdec:decodeL t=(65533,1)
 ·unfold Yx Jf;have hu:decodeL (t.takeWhile (fun c=>c != q))=(65533,1):=by
   refine Classical.byContradiction fun hc=>?_
   have hsp:=(List.takeWhile_append_dropWhile (p:=fun c=>c != q) (l:=t)).symm
   have:=Pj hun hc t (b:=(t.takeWhile (fun c=>c != q)).drop (decodeL (t.takeWhile (fun c=>c != q))).2++t.dropWhile (fun c=>c != q)) (by
    rw[←List.append_assoc,List.take_append_drop];exact hsp)
   rw[hdec]at this;exact hc this.symm
  rw[Yj hun,hu]
  rfl
 ·have hs:=Sq t hne hdec;have hlow:(decodeL t).1<32∨(decodeL t).1=127:=by
   rcases hb with h|h
   ·exact absurd h hdec
   ·exact h
  generalize decodeL t=d at *
  obtain⟨r,n⟩:=d
  simp only at hs hlow
  cases hs with
  |one c t' h =>
   have hct:Bz c=true:=by
    unfold Bz
    rcases hlow with h|h
    ·simp[h]
    ·simp[h]
   have hc:(c==q)=false:=hh;unfold Yx Jf;rw[List.takeWhile_cons]
   simp[bne,hc,hct]
  |more run t' _ h2 h4 hr hm hbb he=>omega
theorem My (b:ByteArray)(p:Nat)(h:p<b.size):b.data.toList.drop p=b[p]::b.data.toList.drop (p+1):=by
 have hl:p<b.data.toList.length:=by rw[←Lib.size_eq];exact h
 rw[List.drop_eq_getElem_cons hl];rfl
def Hk (Br:Nat)(w:World):Prop:=Lib.Utf8Tabs 1 2 w∧1<Br∧2<Br
theorem Hk.below {Br:Nat}{w w':World}(h:Hk Br w)(hb:Below Br w w'):Hk Br w' :=
 ⟨⟨fun c hc=>(hb.cell (p:=⟨1,c,none⟩) h.2.1).trans (h.1.1 c hc),fun i hi=>⟨(hb.cell (p:=⟨2,2 * i,none⟩) h.2.2).trans (h.1.2 i hi).1,(hb.cell (p:=⟨2,2 * i+1,none⟩) h.2.2).trans (h.1.2 i hi).2⟩⟩,h.2⟩
theorem Qf.bel {b:Nat}{a w:World}(o:Qf b a w)(h:b<a.heap.size):Below b a w:=⟨o.os,o.tape,o.output,o.size,fun k hk=>o.block k (Nat.lt_trans hk h) (fun e=>Nat.ne_of_lt hk (Option.some.inj e))⟩
theorem dec_go (b:ByteArray)(q:Nat)(h:q<b.size):Lib.decodeGo (b.extract q b.size)=decodeL (b.data.toList.drop q):=by
 have hl:(b.data.toList.drop q).length=b.size-q:=by rw[List.length_drop,←Lib.size_eq]
 have he:b.extract q b.size=⟨(b.data.toList.drop q).toArray⟩:=by
  rw[Gw,List.take_of_length_le (by rw[hl];exact Nat.le_refl _)]
 rw[he];unfold Lib.decodeGo;rw[if_neg,Qfw,List.drop_zero];rw[Lib.size_eq]
 simp only
 rw[hl];omega
def Zmq (Br:Nat) (b:ByteArray) (p:Nat) (w:World) (x:Ending) (w' : World):Prop := Qf Br w w' ∧
  ((∃v q,Jr (b.data.toList.drop p)=some (v,b.data.toList.drop q)∧x=.returned (.tuple #[.string ⟨v.toArray⟩,.bool true])∧ASc w' Br b q∧q≤b.size) ∨
   (Jr (b.data.toList.drop p)=none∧∃(s:ByteArray) (q:Nat),x=.returned (.tuple #[.string s,.bool false])∧ASc w' Br b q∧q≤b.size))
theorem value_no (b:ByteArray)(p:Nat)(h1:Zl (fun d=>d==39) (b.data.toList.drop p)=false)(h2:Zl (fun d=>d==34) (b.data.toList.drop p)=false):Jr (b.data.toList.drop p)=none:=by
 cases h:b.data.toList.drop p with
 |nil=>rfl
 |cons c s =>
  rw[h]at h1 h2;have h1:(c==39)=false:=h1;have h2:(c==34)=false:=h2
  show(if c=39∨c=34 then Fp c s else none)=none
  rw[if_neg]
  rintro(rfl|rfl)
  ·simp at h1
  ·simp at h2
theorem aval_39 (Br:Nat)(b:ByteArray)(p:Nat)(w:World)(h:ASc w Br b p)(hp:p≤b.size)(hb:b.size≤4294967296)(hT:Hk Br w)(hlt:p<b.size)(hbq:b[p]'hlt=39) :
  Calls Tryz.prog 111 #[.pointer (some ⟨Br,0,none⟩)] w fun x w'=>Zmq Br b p w x w':=by
 have H:=hid h;have H0:=hid h;have HT:=hid hT;have HLB:=hid (show b.data.toList.length=b.size from(Lib.size_eq b).symm);have hp0:(0:Int)≤(p:Int):=by omega
 have hpi:(p:Int)<(b.size:Int):=by omega
 have hv:((b[p]'hlt).toNat:Int)=39:=by rw[hbq];rfl
 have HON:=hid (show Zl (fun d=>d==39) (b.data.toList.drop p)=true by rw[Dq b p 39 hlt,hbq];rfl);have HON2:=hid (show Zl (fun d=>d==34) (b.data.toList.drop p)=false by rw[Dq b p 34 hlt,hbq];rfl);have HVQ:=hid (show Jr (b.data.toList.drop p)=Fp 39 (b.data.toList.drop (p+1)) by
  rw[My b p hlt,hbq];rfl)
 have AO:=hid (fun(W:World) (h:ASc W Br b p)=>(show Calls Tryz.prog 106 #[.pointer (some ⟨Br,0,none⟩),.int .u8 39] W _ from Bl Br b p 39 W h hp hb));have AO2:=hid (fun(W:World) (h:ASc W Br b p)=>(show Calls Tryz.prog 106 #[.pointer (some ⟨Br,0,none⟩),.int .u8 34] W _ from Bl Br b p 34 W h hp hb));have AM:=hid (fun(W:World) (q:Nat) (h:ASc W Br b q) (hq:q≤b.size)=>Qky Br b ⟨#[39]⟩ q W h hq hb (by decide));rw[HON.out]at AO;rw[HON2.out]at AO2;have O0:=hid (Qf.refl w Br);clear h hbq hT HON HON2
 go_enter Tryz.func111,Tryz.ntmps111
 go_wp2_with (go_at_call 106;refine(AO.out _ H.out).mono ?_;rintro e wn ⟨rfl,h2,o2⟩;have HN:=hid h2;have ON:=hid (O0.out.trans o2);clear h2 o2 H O0)
 obtain⟨c0,c1,f1,lt⟩:=HN.out.cells
 go_wp2_with fail
 go_quiet (fail)
 have H1:=hid (HN.out.drewN nq);have O1:=hid (ON.out.drewN nq);clear c0 c1 f1 lt HN ON;generalize wn.drewN nq=w1 at *
 obtain⟨c0,c1,f1,lt⟩:=H1.out.cells
 have H2:=hid (show ASc (w1.setCell ⟨Br,1,none⟩ (.int .i64 ((p:Int)+1))) Br b (p+1)from H1.out.setAt (p+1));have O2:=hid (O1.out.set 1 (.int .i64 ((p:Int)+1)));go_upto_region 5 with fail;clear c0 c1 f1 lt H1 O1;generalize w1.setCell ⟨Br,1,none⟩ (.int .i64 ((p:Int)+1))=w2 at *
 obtain⟨f,hf⟩:∃f,f=p+1:=⟨_,rfl⟩
 have HF:=hid hf;have hfb:f≤b.size:=by omega
 have hfi:((p:Int)+1)=(f:Int):=by omega
 rw[←hf]at HVQ H2;simp only[hfi];clear hf AO AO2 hv hfi
 obtain⟨c0,c1,f1,lt⟩:=H2.out.cells
 have HBL:=hid lt;have HOT:=hid (fun(W:World) (o:Qf Br w W)=>HT.out.below (o.bel (lt_of_block H0.out)));go_wp2_with fail
 go_loopg[] b.size (fun g W=>∃q:Nat,f≤q∧q≤b.size∧b.size≤q+g∧Yx 39 (b.data.toList.drop f)=Yx 39 (b.data.toList.drop q)∧(b.data.toList.drop f).takeWhile (fun c=>c != 39)=(b.data.toList.drop f).take (q-f)++(b.data.toList.drop q).takeWhile (fun c=>c != 39)∧(b.data.toList.drop f).dropWhile (fun c=>c != 39)=(b.data.toList.drop q).dropWhile (fun c=>c != 39)∧ASc W Br b q∧Qf Br w W)
 case atStart=>exact⟨f,Nat.le_refl _,hfb,by omega,rfl,by rw[Nat.sub_self,List.take_zero,List.nil_append],rfl,H2.out,O2.out⟩
 case round =>
  obtain⟨q,hfq,hqb,hg,e1,e2,e3,st,o3⟩:=hrel
  rename World=>w3
  have HG:=hid hg;have E1:=hid e1;have E2:=hid e2;have E3:=hid e3;have ST:=hid st;have O3:=hid o3;clear hg e1 e2 e3 st o3 c0 c1 f1 lt H2 O2
  obtain⟨c0,c1,f1,lt⟩:=ST.out.cells
  have hq0:(0:Int)≤(q:Int):=by omega
  have hqb':(q:Int)≤(b.size:Int):=by omega
  have hfq':(f:Int)≤(q:Int):=by omega
  by_cases hql:q<b.size
  ·have hqi:(q:Int)<(b.size:Int):=by omega
   by_cases hc:b[q]'hql=39
   ·have hx:(((b[q]'hql).toNat:Int) != 39)=false:=by rw[hc];rfl
    have HDQ:=hid (show b.data.toList.drop q=39::b.data.toList.drop (q+1)by rw[My b q hql,hc]);have HQA:=hid (show Jr (b.data.toList.drop p)=some ((b.data.toList.drop f).take (q-f),b.data.toList.drop (q+1)) by
     have h1:(b.data.toList.drop f).takeWhile (fun c=>c != 39)=(b.data.toList.drop f).take (q-f):=by
      rw[E2.out,HDQ.out];simp
     have h2:(b.data.toList.drop f).dropWhile (fun c=>c != 39)=39::b.data.toList.drop (q+1):=by
      rw[E3.out,HDQ.out];simp
     have h3:Jf ((b.data.toList.drop f).take (q-f))=true:=by
      have h4:Yx 39 (b.data.toList.drop f)=true:=by rw[E1.out];exact Qyg (by rw[HDQ.out];rfl)
      unfold Yx at h4
      rwa [h1]at h4
     rw[HVQ.out];unfold Fp;rw[h2,h1];simp only[h3,if_true])
    have AMT:=hid (fun(W:World) (h:ASc W Br b q)=>(show Calls Tryz.prog 107 #[.pointer (some ⟨Br,0,none⟩),.string ⟨#[39]⟩] W fun x w'=>x=.returned (.bool true)∧Qf Br W w'∧ASc w' Br b (q+1) from
     (AM.out W q h hqb).mono fun x w' ⟨h1,h2⟩=>by
      rcases h2 with ⟨h2,h3,_⟩|⟨_,_,h4⟩
      ·exact⟨h2,h1,h3⟩
      ·exact absurd (show [39] <+: b.data.toList.drop q from by rw[HDQ.out];exact⟨_,rfl⟩) h4))
    have HXT:=hid (Gw b f q);clear hc E1 E2 E3 AM HVQ HDQ HG;go_wp2_with fail
    go_quiet (fail)
    have S2:=hid (ST.out.drewN nq);have O4:=hid (O3.out.drewN nq);clear c0 c1 f1 lt ST O3 hx;generalize w3.drewN nq=w4 at *
    obtain⟨c0,c1,f1,lt⟩:=S2.out.cells
    go_wp2_with fail
    go_quiet (fail)
    have S5:=hid (S2.out.drewN nq);have O5:=hid (O4.out.drewN nq);clear c0 c1 f1 lt S2 O4;generalize w4.drewN nq=w5 at *
    go_wp2_with (go_at_call 107;refine(AMT.out _ S5.out).mono ?_;rintro e w6 ⟨rfl,o6,h6⟩;have S6:=hid h6;have O6:=hid (O5.out.trans o6);clear o6 h6)
    refine bodyPost_ret (v:=.tuple #[.string (b.extract f q),.bool true]) (by simp[results,Tryz.results111,go_sem]) rfl ?_
    exact⟨O6.out,Or.inl ⟨_,q+1,HQA.out,by rw[HXT.out],S6.out,hql⟩⟩
   ·have hx:(((b[q]'hql).toNat:Int) != 39)=true:=by
     rw[bne_iff_ne];intro e
     apply hc
     apply UInt8.toNat_inj.1
     show(b[q]'hql).toNat=39
     omega
    have HHD:=hid (show Zl (fun c=>c==39) (b.data.toList.drop q)=false by
     rw[Dq b q 39 hql];exact beq_eq_false_iff_ne.2 hc)
    have HNE:=hid (show b.data.toList.drop q≠[]by rw[My b q hql];simp);have HGO:=hid (dec_go b q hql);have HLE:=hid (Sz HNE.out);have HLN:=hid (show(b.data.toList.drop q).length=b.size-q by rw[List.length_drop,HLB.out]);have HST:=hid (fun h1 h2 h3=>Qsj (q:=39) (by decide) HNE.out HHD.out h1 h2 h3);have HBD:=hid (fun h1=>Zhq HNE.out HHD.out h1);clear hc HHD
    obtain⟨r,hr⟩:∃r,r=(decodeL (b.data.toList.drop q)).1:=⟨_,rfl⟩
    obtain⟨n,hn⟩:∃n,n=(decodeL (b.data.toList.drop q)).2:=⟨_,rfl⟩
    have HDE:=hid (show decodeL (b.data.toList.drop q)=(r,n)by rw[hr,hn]);rw[←hr,←hn]at HST;rw[←hr]at HBD;rw[←hn,HLN.out]at HLE;rw[HDE.out]at HST HBD HGO;clear hr hn;have hn1:(1:Int)≤(n:Int):=by have:=HLE.out.2;omega
    have hn2:(q:Int)+(n:Int)≤(b.size:Int):=by have:=HLE.out.1;omega
    go_wp2_with fail
    go_quiet (fail)
    have S2:=hid (ST.out.drewN nq);have O4:=hid (O3.out.drewN nq);clear c0 c1 f1 lt ST O3 hx;generalize w3.drewN nq=w4 at *
    obtain⟨c0,c1,f1,lt⟩:=S2.out.cells
    have DR:=hid (fun(W:World) (h:W.cell? ⟨Br,0,none⟩=some (.string b)∧W.cell? ⟨Br,1,none⟩=some (.int .i64 q)∧ASc W Br b q∧Qf Br w W)=>(show Calls Tryz.prog 166 #[.string (b.extract q b.size)] W fun e w'=>e=.returned (.tuple #[.int .i32 r,.int .i64 n])∧(w'.cell? ⟨Br,0,none⟩=some (.string b)∧w'.cell? ⟨Br,1,none⟩=some (.int .i64 q)∧ASc w' Br b q∧Qf Br w w') from
     (Tryz.utf8_DecodeRuneInString (b.extract q b.size) W (HOT.out W h.2.2.2).1).mono fun e w' ⟨h1,h2⟩=>by
      rw[HGO.out]at h1;have h3:=h.2.2.1.below h2
      exact⟨h1,h3.cells.1,h3.cells.2.1,h3,h.2.2.2.below h2⟩))
    have S0:w4.drew.cell? ⟨Br,0,none⟩=some (.string b)∧w4.drew.cell? ⟨Br,1,none⟩=some (.int .i64 q)∧ASc w4.drew Br b q∧Qf Br w w4.drew:=⟨c0,c1,S2.out,O4.out.drew⟩;clear HLE HGO HLN HNE;go_upto_region 7 with fail
    go_region_held3 (fun W=>W.cell? ⟨Br,0,none⟩=some (.string b)∧W.cell? ⟨Br,1,none⟩=some (.int .i64 q)∧ASc W Br b q∧Qf Br w W) (first|with_reducible assumption) (first
     |(go_at_call 166;with_reducible refine(DR.out _ (by assumption)).mono ?_;rintro e w' ⟨rfl,hs'⟩))
    rename World=>w5
    obtain⟨d0,d1,st5,o5⟩:=hs'
    have S5:=hid st5;have O5:=hid o5;clear d0 d1 st5 o5 DR S0 c0 c1 f1 lt S2 O4
    obtain⟨c0,c1,f1,lt⟩:=S5.out.cells
    have HBAD:=hid (fun(h:(r,n)=(65533,1)∨r<32∨r=127)=>show Jr (b.data.toList.drop p)=none from by
     have h4:Yx 39 (b.data.toList.drop f)=false:=by rw[E1.out];exact HBD.out h
     unfold Yx at h4;rw[HVQ.out];unfold Fp
     split
     ·rfl
     ·rw[h4];rfl)
    have HGD:=hid (fun(h1:(r,n)≠(65533,1)) (h2:32≤r) (h3:r≠127)=>show Yx 39 (b.data.toList.drop f)=Yx 39 (b.data.toList.drop (q+n))∧(b.data.toList.drop f).takeWhile (fun c=>c != 39)=(b.data.toList.drop f).take (q+n-f)++(b.data.toList.drop (q+n)).takeWhile (fun c=>c != 39)∧(b.data.toList.drop f).dropWhile (fun c=>c != 39)=(b.data.toList.drop (q+n)).dropWhile (fun c=>c != 39)from by
     obtain⟨s1,s2,s3⟩:=HST.out h1 h2 h3
     rw[List.drop_drop]at s1 s2 s3
     refine⟨E1.out.trans s1,?_,E3.out.trans s3⟩
     rw[E2.out,s2,←List.append_assoc,show q+n-f=(q-f)+n by omega,List.take_add,List.drop_drop,show f+(q-f)=q by omega])
    clear E1 E2 E3 HST HBD HVQ
    by_cases hr:r=65533
    ·have hx1:((r:Int)==65533)=true:=beq_iff_eq.2 (by omega);have hx2:¬(r:Int)<32:=by omega
     have hx3:((r:Int)==127)=false:=beq_eq_false_iff_ne.2 (by omega)
     by_cases hk:n=1
     ·have hx4:((n:Int)==1)=true:=beq_iff_eq.2 (by omega);go_wp2_with fail;refine bodyPost_ret (v:=.tuple #[.string ⟨#[]⟩,.bool false]) (by simp[results,Tryz.results111,go_sem]) rfl ?_
      exact⟨O5.out,Or.inr ⟨HBAD.out (Or.inl (by rw[hr,hk])),_,q,rfl,S5.out,hqb⟩⟩
     ·have hx4:((n:Int)==1)=false:=beq_eq_false_iff_ne.2 (by omega)
      obtain⟨g1,g2,g3⟩:=HGD.out (by intro e;exact hk (Prod.mk.inj e).2) (by omega) (by omega)
      have G1:=hid g1;have G2:=hid g2;have G3:=hid g3;clear g1 g2 g3;go_wp2_with fail
      go_roundg (gk-1)
      case measure=>have:=HG.out;omega
      case rel=>exact⟨q+n,by omega,by omega,by have:=HG.out;omega,G1.out,G2.out,G3.out,S5.out.setAt (q+n),O5.out.set _ _⟩
    ·have hx1:((r:Int)==65533)=false:=beq_eq_false_iff_ne.2 (by omega)
     by_cases h32:r<32
     ·have hx2:(r:Int)<32:=by omega
      go_wp2_with fail;refine bodyPost_ret (v:=.tuple #[.string ⟨#[]⟩,.bool false]) (by simp[results,Tryz.results111,go_sem]) rfl ?_
      exact⟨O5.out,Or.inr ⟨HBAD.out (Or.inr (Or.inl h32)),_,q,rfl,S5.out,hqb⟩⟩
     ·have hx2:¬(r:Int)<32:=by omega
      by_cases h127:r=127
      ·have hx3:((r:Int)==127)=true:=beq_iff_eq.2 (by omega);go_wp2_with fail;refine bodyPost_ret (v:=.tuple #[.string ⟨#[]⟩,.bool false]) (by simp[results,Tryz.results111,go_sem]) rfl ?_
       exact⟨O5.out,Or.inr ⟨HBAD.out (Or.inr (Or.inr h127)),_,q,rfl,S5.out,hqb⟩⟩
      ·have hx3:((r:Int)==127)=false:=beq_eq_false_iff_ne.2 (by omega)
       obtain⟨g1,g2,g3⟩:=HGD.out (by intro e;exact hr (Prod.mk.inj e).1) (by omega) (by omega)
       have G1:=hid g1;have G2:=hid g2;have G3:=hid g3;clear g1 g2 g3;go_wp2_with fail
       go_roundg (gk-1)
       case measure=>have:=HG.out;omega
       case rel=>exact⟨q+n,by omega,by omega,by have:=HG.out;omega,G1.out,G2.out,G3.out,S5.out.setAt (q+n),O5.out.set _ _⟩
  ·have hqi:¬(q:Int)<(b.size:Int):=by omega
   have hd:decide (q<b.size)=false:=decide_eq_false hql;have HDQ:=hid (show b.data.toList.drop q=[]from List.drop_eq_nil_of_le (by rw[HLB.out];omega));have HQA:=hid (show Jr (b.data.toList.drop p)=none by
    have h2:(b.data.toList.drop f).dropWhile (fun c=>c != 39)=[]:=by
     rw[E3.out,HDQ.out];rfl
    rw[HVQ.out];unfold Fp;rw[h2])
   have AMF:=hid (fun(W:World) (h:ASc W Br b q)=>(show Calls Tryz.prog 107 #[.pointer (some ⟨Br,0,none⟩),.string ⟨#[39]⟩] W fun x w'=>x=.returned (.bool false)∧Qf Br W w'∧∃q,ASc w' Br b q∧q≤b.size from
    (AM.out W q h hqb).mono fun x w' ⟨h1,h2⟩=>by
     rcases h2 with ⟨_,_,_,h4⟩|⟨h2,h3,_⟩
     ·rw[HDQ.out]at h4;cases h4
     ·exact⟨h2,h1,h3⟩))
   clear E1 E2 E3 AM HVQ HDQ HG;go_wp2_with fail
   go_quiet (fail)
   have S2:=hid (ST.out.drewN nq);have O4:=hid (O3.out.drewN nq);clear c0 c1 f1 lt ST O3 hd;generalize w3.drewN nq=w4 at *
   obtain⟨c0,c1,f1,lt⟩:=S2.out.cells
   go_wp2_with fail
   go_quiet (fail)
   have S5:=hid (S2.out.drewN nq);have O5:=hid (O4.out.drewN nq);clear c0 c1 f1 lt S2 O4;generalize w4.drewN nq=w5 at *
   go_wp2_with (go_at_call 107;refine(AMF.out _ S5.out).mono ?_;rintro e w6 ⟨rfl,o6,h6⟩;have S6:=hid h6;have O6:=hid (O5.out.trans o6);clear o6 h6)
   refine bodyPost_ret (v:=.tuple #[.string (b.extract f q),.bool false]) (by simp[results,Tryz.results111,go_sem]) rfl ?_
   obtain⟨q2,s1,s2⟩:=S6.out
   exact⟨O6.out,Or.inr ⟨HQA.out,_,q2,rfl,s1,s2⟩⟩
theorem aval_34 (Br:Nat)(b:ByteArray)(p:Nat)(w:World)(h:ASc w Br b p)(hp:p≤b.size)(hb:b.size≤4294967296)(hT:Hk Br w)(hlt:p<b.size)(hbq:b[p]'hlt=34) :
  Calls Tryz.prog 111 #[.pointer (some ⟨Br,0,none⟩)] w fun x w'=>Zmq Br b p w x w':=by
 have H:=hid h;have H0:=hid h;have HT:=hid hT;have HLB:=hid (show b.data.toList.length=b.size from(Lib.size_eq b).symm);have hp0:(0:Int)≤(p:Int):=by omega
 have hpi:(p:Int)<(b.size:Int):=by omega
 have hv:((b[p]'hlt).toNat:Int)=34:=by rw[hbq];rfl
 have HON:=hid (show Zl (fun d=>d==39) (b.data.toList.drop p)=false by rw[Dq b p 39 hlt,hbq];rfl);have HON2:=hid (show Zl (fun d=>d==34) (b.data.toList.drop p)=true by rw[Dq b p 34 hlt,hbq];rfl);have HVQ:=hid (show Jr (b.data.toList.drop p)=Fp 34 (b.data.toList.drop (p+1)) by
  rw[My b p hlt,hbq];rfl)
 have AO:=hid (fun(W:World) (h:ASc W Br b p)=>(show Calls Tryz.prog 106 #[.pointer (some ⟨Br,0,none⟩),.int .u8 39] W _ from Bl Br b p 39 W h hp hb));have AO2:=hid (fun(W:World) (h:ASc W Br b p)=>(show Calls Tryz.prog 106 #[.pointer (some ⟨Br,0,none⟩),.int .u8 34] W _ from Bl Br b p 34 W h hp hb));have AM:=hid (fun(W:World) (q:Nat) (h:ASc W Br b q) (hq:q≤b.size)=>Qky Br b ⟨#[34]⟩ q W h hq hb (by decide));rw[HON.out]at AO;rw[HON2.out]at AO2;have O0:=hid (Qf.refl w Br);clear h hbq hT HON HON2
 go_enter Tryz.func111,Tryz.ntmps111
 go_wp2_with (first
  |(go_at_call 106;refine(AO.out _ H.out).mono ?_;rintro e wm ⟨rfl,h2,o2⟩;have HM:=hid h2;have OM:=hid (O0.out.trans o2);clear h2 o2 H O0)
  |(go_at_call 106;refine(AO2.out _ HM.out).mono ?_;rintro e wn ⟨rfl,h2,o2⟩;have HN:=hid h2;have ON:=hid (OM.out.trans o2);clear h2 o2 HM OM))
 obtain⟨c0,c1,f1,lt⟩:=HN.out.cells
 go_wp2_with fail
 go_quiet (fail)
 have H1:=hid (HN.out.drewN nq);have O1:=hid (ON.out.drewN nq);clear c0 c1 f1 lt HN ON;generalize wn.drewN nq=w1 at *
 obtain⟨c0,c1,f1,lt⟩:=H1.out.cells
 have H2:=hid (show ASc (w1.setCell ⟨Br,1,none⟩ (.int .i64 ((p:Int)+1))) Br b (p+1)from H1.out.setAt (p+1));have O2:=hid (O1.out.set 1 (.int .i64 ((p:Int)+1)));go_upto_region 5 with fail;clear c0 c1 f1 lt H1 O1;generalize w1.setCell ⟨Br,1,none⟩ (.int .i64 ((p:Int)+1))=w2 at *
 obtain⟨f,hf⟩:∃f,f=p+1:=⟨_,rfl⟩
 have HF:=hid hf;have hfb:f≤b.size:=by omega
 have hfi:((p:Int)+1)=(f:Int):=by omega
 rw[←hf]at HVQ H2;simp only[hfi];clear hf AO AO2 hv hfi
 obtain⟨c0,c1,f1,lt⟩:=H2.out.cells
 have HBL:=hid lt;have HOT:=hid (fun(W:World) (o:Qf Br w W)=>HT.out.below (o.bel (lt_of_block H0.out)));go_wp2_with fail
 go_loopg[] b.size (fun g W=>∃q:Nat,f≤q∧q≤b.size∧b.size≤q+g∧Yx 34 (b.data.toList.drop f)=Yx 34 (b.data.toList.drop q)∧(b.data.toList.drop f).takeWhile (fun c=>c != 34)=(b.data.toList.drop f).take (q-f)++(b.data.toList.drop q).takeWhile (fun c=>c != 34)∧(b.data.toList.drop f).dropWhile (fun c=>c != 34)=(b.data.toList.drop q).dropWhile (fun c=>c != 34)∧ASc W Br b q∧Qf Br w W)
 case atStart=>exact⟨f,Nat.le_refl _,hfb,by omega,rfl,by rw[Nat.sub_self,List.take_zero,List.nil_append],rfl,H2.out,O2.out⟩
 case round =>
  obtain⟨q,hfq,hqb,hg,e1,e2,e3,st,o3⟩:=hrel
  rename World=>w3
  have HG:=hid hg;have E1:=hid e1;have E2:=hid e2;have E3:=hid e3;have ST:=hid st;have O3:=hid o3;clear hg e1 e2 e3 st o3 c0 c1 f1 lt H2 O2
  obtain⟨c0,c1,f1,lt⟩:=ST.out.cells
  have hq0:(0:Int)≤(q:Int):=by omega
  have hqb':(q:Int)≤(b.size:Int):=by omega
  have hfq':(f:Int)≤(q:Int):=by omega
  by_cases hql:q<b.size
  ·have hqi:(q:Int)<(b.size:Int):=by omega
   by_cases hc:b[q]'hql=34
   ·have hx:(((b[q]'hql).toNat:Int) != 34)=false:=by rw[hc];rfl
    have HDQ:=hid (show b.data.toList.drop q=34::b.data.toList.drop (q+1)by rw[My b q hql,hc]);have HQA:=hid (show Jr (b.data.toList.drop p)=some ((b.data.toList.drop f).take (q-f),b.data.toList.drop (q+1)) by
     have h1:(b.data.toList.drop f).takeWhile (fun c=>c != 34)=(b.data.toList.drop f).take (q-f):=by
      rw[E2.out,HDQ.out];simp
     have h2:(b.data.toList.drop f).dropWhile (fun c=>c != 34)=34::b.data.toList.drop (q+1):=by
      rw[E3.out,HDQ.out];simp
     have h3:Jf ((b.data.toList.drop f).take (q-f))=true:=by
      have h4:Yx 34 (b.data.toList.drop f)=true:=by rw[E1.out];exact Qyg (by rw[HDQ.out];rfl)
      unfold Yx at h4
      rwa [h1]at h4
     rw[HVQ.out];unfold Fp;rw[h2,h1];simp only[h3,if_true])
    have AMT:=hid (fun(W:World) (h:ASc W Br b q)=>(show Calls Tryz.prog 107 #[.pointer (some ⟨Br,0,none⟩),.string ⟨#[34]⟩] W fun x w'=>x=.returned (.bool true)∧Qf Br W w'∧ASc w' Br b (q+1) from
     (AM.out W q h hqb).mono fun x w' ⟨h1,h2⟩=>by
      rcases h2 with ⟨h2,h3,_⟩|⟨_,_,h4⟩
      ·exact⟨h2,h1,h3⟩
      ·exact absurd (show [34] <+: b.data.toList.drop q from by rw[HDQ.out];exact⟨_,rfl⟩) h4))
    have HXT:=hid (Gw b f q);clear hc E1 E2 E3 AM HVQ HDQ HG;go_wp2_with fail
    go_quiet (fail)
    have S2:=hid (ST.out.drewN nq);have O4:=hid (O3.out.drewN nq);clear c0 c1 f1 lt ST O3 hx;generalize w3.drewN nq=w4 at *
    obtain⟨c0,c1,f1,lt⟩:=S2.out.cells
    go_wp2_with fail
    go_quiet (fail)
    have S5:=hid (S2.out.drewN nq);have O5:=hid (O4.out.drewN nq);clear c0 c1 f1 lt S2 O4;generalize w4.drewN nq=w5 at *
    go_wp2_with (go_at_call 107;refine(AMT.out _ S5.out).mono ?_;rintro e w6 ⟨rfl,o6,h6⟩;have S6:=hid h6;have O6:=hid (O5.out.trans o6);clear o6 h6)
    refine bodyPost_ret (v:=.tuple #[.string (b.extract f q),.bool true]) (by simp[results,Tryz.results111,go_sem]) rfl ?_
    exact⟨O6.out,Or.inl ⟨_,q+1,HQA.out,by rw[HXT.out],S6.out,hql⟩⟩
   ·have hx:(((b[q]'hql).toNat:Int) != 34)=true:=by
     rw[bne_iff_ne];intro e
     apply hc
     apply UInt8.toNat_inj.1
     show(b[q]'hql).toNat=34
     omega
    have HHD:=hid (show Zl (fun c=>c==34) (b.data.toList.drop q)=false by
     rw[Dq b q 34 hql];exact beq_eq_false_iff_ne.2 hc)
    have HNE:=hid (show b.data.toList.drop q≠[]by rw[My b q hql];simp);have HGO:=hid (dec_go b q hql);have HLE:=hid (Sz HNE.out);have HLN:=hid (show(b.data.toList.drop q).length=b.size-q by rw[List.length_drop,HLB.out]);have HST:=hid (fun h1 h2 h3=>Qsj (q:=34) (by decide) HNE.out HHD.out h1 h2 h3);have HBD:=hid (fun h1=>Zhq HNE.out HHD.out h1);clear hc HHD
    obtain⟨r,hr⟩:∃r,r=(decodeL (b.data.toList.drop q)).1:=⟨_,rfl⟩
    obtain⟨n,hn⟩:∃n,n=(decodeL (b.data.toList.drop q)).2:=⟨_,rfl⟩
    have HDE:=hid (show decodeL (b.data.toList.drop q)=(r,n)by rw[hr,hn]);rw[←hr,←hn]at HST;rw[←hr]at HBD;rw[←hn,HLN.out]at HLE;rw[HDE.out]at HST HBD HGO;clear hr hn;have hn1:(1:Int)≤(n:Int):=by have:=HLE.out.2;omega
    have hn2:(q:Int)+(n:Int)≤(b.size:Int):=by have:=HLE.out.1;omega
    go_wp2_with fail
    go_quiet (fail)
    have S2:=hid (ST.out.drewN nq);have O4:=hid (O3.out.drewN nq);clear c0 c1 f1 lt ST O3 hx;generalize w3.drewN nq=w4 at *
    obtain⟨c0,c1,f1,lt⟩:=S2.out.cells
    have DR:=hid (fun(W:World) (h:W.cell? ⟨Br,0,none⟩=some (.string b)∧W.cell? ⟨Br,1,none⟩=some (.int .i64 q)∧ASc W Br b q∧Qf Br w W)=>(show Calls Tryz.prog 166 #[.string (b.extract q b.size)] W fun e w'=>e=.returned (.tuple #[.int .i32 r,.int .i64 n])∧(w'.cell? ⟨Br,0,none⟩=some (.string b)∧w'.cell? ⟨Br,1,none⟩=some (.int .i64 q)∧ASc w' Br b q∧Qf Br w w') from
     (Tryz.utf8_DecodeRuneInString (b.extract q b.size) W (HOT.out W h.2.2.2).1).mono fun e w' ⟨h1,h2⟩=>by
      rw[HGO.out]at h1;have h3:=h.2.2.1.below h2
      exact⟨h1,h3.cells.1,h3.cells.2.1,h3,h.2.2.2.below h2⟩))
    have S0:w4.drew.cell? ⟨Br,0,none⟩=some (.string b)∧w4.drew.cell? ⟨Br,1,none⟩=some (.int .i64 q)∧ASc w4.drew Br b q∧Qf Br w w4.drew:=⟨c0,c1,S2.out,O4.out.drew⟩;clear HLE HGO HLN HNE;go_upto_region 7 with fail
    go_region_held3 (fun W=>W.cell? ⟨Br,0,none⟩=some (.string b)∧W.cell? ⟨Br,1,none⟩=some (.int .i64 q)∧ASc W Br b q∧Qf Br w W) (first|with_reducible assumption) (first
     |(go_at_call 166;with_reducible refine(DR.out _ (by assumption)).mono ?_;rintro e w' ⟨rfl,hs'⟩))
    rename World=>w5
    obtain⟨d0,d1,st5,o5⟩:=hs'
    have S5:=hid st5;have O5:=hid o5;clear d0 d1 st5 o5 DR S0 c0 c1 f1 lt S2 O4
    obtain⟨c0,c1,f1,lt⟩:=S5.out.cells
    have HBAD:=hid (fun(h:(r,n)=(65533,1)∨r<32∨r=127)=>show Jr (b.data.toList.drop p)=none from by
     have h4:Yx 34 (b.data.toList.drop f)=false:=by rw[E1.out];exact HBD.out h
     unfold Yx at h4;rw[HVQ.out];unfold Fp
     split
     ·rfl
     ·rw[h4];rfl)
    have HGD:=hid (fun(h1:(r,n)≠(65533,1)) (h2:32≤r) (h3:r≠127)=>show Yx 34 (b.data.toList.drop f)=Yx 34 (b.data.toList.drop (q+n))∧(b.data.toList.drop f).takeWhile (fun c=>c != 34)=(b.data.toList.drop f).take (q+n-f)++(b.data.toList.drop (q+n)).takeWhile (fun c=>c != 34)∧(b.data.toList.drop f).dropWhile (fun c=>c != 34)=(b.data.toList.drop (q+n)).dropWhile (fun c=>c != 34)from by
     obtain⟨s1,s2,s3⟩:=HST.out h1 h2 h3
     rw[List.drop_drop]at s1 s2 s3
     refine⟨E1.out.trans s1,?_,E3.out.trans s3⟩
     rw[E2.out,s2,←List.append_assoc,show q+n-f=(q-f)+n by omega,List.take_add,List.drop_drop,show f+(q-f)=q by omega])
    clear E1 E2 E3 HST HBD HVQ
    by_cases hr:r=65533
    ·have hx1:((r:Int)==65533)=true:=beq_iff_eq.2 (by omega);have hx2:¬(r:Int)<32:=by omega
     have hx3:((r:Int)==127)=false:=beq_eq_false_iff_ne.2 (by omega)
     by_cases hk:n=1
     ·have hx4:((n:Int)==1)=true:=beq_iff_eq.2 (by omega);go_wp2_with fail;refine bodyPost_ret (v:=.tuple #[.string ⟨#[]⟩,.bool false]) (by simp[results,Tryz.results111,go_sem]) rfl ?_
      exact⟨O5.out,Or.inr ⟨HBAD.out (Or.inl (by rw[hr,hk])),_,q,rfl,S5.out,hqb⟩⟩
     ·have hx4:((n:Int)==1)=false:=beq_eq_false_iff_ne.2 (by omega)
      obtain⟨g1,g2,g3⟩:=HGD.out (by intro e;exact hk (Prod.mk.inj e).2) (by omega) (by omega)
      have G1:=hid g1;have G2:=hid g2;have G3:=hid g3;clear g1 g2 g3;go_wp2_with fail
      go_roundg (gk-1)
      case measure=>have:=HG.out;omega
      case rel=>exact⟨q+n,by omega,by omega,by have:=HG.out;omega,G1.out,G2.out,G3.out,S5.out.setAt (q+n),O5.out.set _ _⟩
    ·have hx1:((r:Int)==65533)=false:=beq_eq_false_iff_ne.2 (by omega)
     by_cases h32:r<32
     ·have hx2:(r:Int)<32:=by omega
      go_wp2_with fail;refine bodyPost_ret (v:=.tuple #[.string ⟨#[]⟩,.bool false]) (by simp[results,Tryz.results111,go_sem]) rfl ?_
      exact⟨O5.out,Or.inr ⟨HBAD.out (Or.inr (Or.inl h32)),_,q,rfl,S5.out,hqb⟩⟩
     ·have hx2:¬(r:Int)<32:=by omega
      by_cases h127:r=127
      ·have hx3:((r:Int)==127)=true:=beq_iff_eq.2 (by omega);go_wp2_with fail;refine bodyPost_ret (v:=.tuple #[.string ⟨#[]⟩,.bool false]) (by simp[results,Tryz.results111,go_sem]) rfl ?_
       exact⟨O5.out,Or.inr ⟨HBAD.out (Or.inr (Or.inr h127)),_,q,rfl,S5.out,hqb⟩⟩
      ·have hx3:((r:Int)==127)=false:=beq_eq_false_iff_ne.2 (by omega)
       obtain⟨g1,g2,g3⟩:=HGD.out (by intro e;exact hr (Prod.mk.inj e).1) (by omega) (by omega)
       have G1:=hid g1;have G2:=hid g2;have G3:=hid g3;clear g1 g2 g3;go_wp2_with fail
       go_roundg (gk-1)
       case measure=>have:=HG.out;omega
       case rel=>exact⟨q+n,by omega,by omega,by have:=HG.out;omega,G1.out,G2.out,G3.out,S5.out.setAt (q+n),O5.out.set _ _⟩
  ·have hqi:¬(q:Int)<(b.size:Int):=by omega
   have hd:decide (q<b.size)=false:=decide_eq_false hql;have HDQ:=hid (show b.data.toList.drop q=[]from List.drop_eq_nil_of_le (by rw[HLB.out];omega));have HQA:=hid (show Jr (b.data.toList.drop p)=none by
    have h2:(b.data.toList.drop f).dropWhile (fun c=>c != 34)=[]:=by
     rw[E3.out,HDQ.out];rfl
    rw[HVQ.out];unfold Fp;rw[h2])
   have AMF:=hid (fun(W:World) (h:ASc W Br b q)=>(show Calls Tryz.prog 107 #[.pointer (some ⟨Br,0,none⟩),.string ⟨#[34]⟩] W fun x w'=>x=.returned (.bool false)∧Qf Br W w'∧∃q,ASc w' Br b q∧q≤b.size from
    (AM.out W q h hqb).mono fun x w' ⟨h1,h2⟩=>by
     rcases h2 with ⟨_,_,_,h4⟩|⟨h2,h3,_⟩
     ·rw[HDQ.out]at h4;cases h4
     ·exact⟨h2,h1,h3⟩))
   clear E1 E2 E3 AM HVQ HDQ HG;go_wp2_with fail
   go_quiet (fail)
   have S2:=hid (ST.out.drewN nq);have O4:=hid (O3.out.drewN nq);clear c0 c1 f1 lt ST O3 hd;generalize w3.drewN nq=w4 at *
   obtain⟨c0,c1,f1,lt⟩:=S2.out.cells
   go_wp2_with fail
   go_quiet (fail)
   have S5:=hid (S2.out.drewN nq);have O5:=hid (O4.out.drewN nq);clear c0 c1 f1 lt S2 O4;generalize w4.drewN nq=w5 at *
   go_wp2_with (go_at_call 107;refine(AMF.out _ S5.out).mono ?_;rintro e w6 ⟨rfl,o6,h6⟩;have S6:=hid h6;have O6:=hid (O5.out.trans o6);clear o6 h6)
   refine bodyPost_ret (v:=.tuple #[.string (b.extract f q),.bool false]) (by simp[results,Tryz.results111,go_sem]) rfl ?_
   obtain⟨q2,s1,s2⟩:=S6.out
   exact⟨O6.out,Or.inr ⟨HQA.out,_,q2,rfl,s1,s2⟩⟩
theorem aval_any (Br:Nat)(b:ByteArray)(p:Nat)(w:World)(h:ASc w Br b p)(hp:p≤b.size)(hb:b.size≤4294967296)(hT:Hk Br w) :
  Calls Tryz.prog 111 #[.pointer (some ⟨Br,0,none⟩)] w fun x w'=>Zmq Br b p w x w':=by
 by_cases hh:(∃hlt:p<b.size,b[p]'hlt=39)∨∃hlt:p<b.size,b[p]'hlt=34
 ·rcases hh with ⟨hlt,hq⟩|⟨hlt,hq⟩
  ·exact aval_39 Br b p w h hp hb hT hlt hq
  ·exact aval_34 Br b p w h hp hb hT hlt hq
 ·have hn:∀c:UInt8,c=39∨c=34→Zl (fun d=>d==c) (b.data.toList.drop p)=false:=fun c hc=>by
   by_cases hlt:p<b.size
   ·rw[Dq b p c hlt,beq_eq_false_iff_ne];intro e
    rcases hc with rfl|rfl
    ·exact hh (Or.inl ⟨hlt,e⟩)
    ·exact hh (Or.inr ⟨hlt,e⟩)
   ·exact Qkw b p c hlt
  have H:=hid h;have HON:=hid (hn 39 (Or.inl rfl));have HON2:=hid (hn 34 (Or.inr rfl));have HVN:=hid (value_no b p HON.out HON2.out);have AO:=hid (fun(W:World) (h:ASc W Br b p)=>(show Calls Tryz.prog 106 #[.pointer (some ⟨Br,0,none⟩),.int .u8 39] W _ from Bl Br b p 39 W h hp hb));have AO2:=hid (fun(W:World) (h:ASc W Br b p)=>(show Calls Tryz.prog 106 #[.pointer (some ⟨Br,0,none⟩),.int .u8 34] W _ from Bl Br b p 34 W h hp hb));rw[HON.out]at AO;rw[HON2.out]at AO2;have O0:=hid (Qf.refl w Br);clear h hT HON HON2 hh hn
  go_enter Tryz.func111,Tryz.ntmps111
  go_wp2_with (first
   |(go_at_call 106;refine(AO.out _ H.out).mono ?_;rintro e wm ⟨rfl,h2,o2⟩;have HM:=hid h2;have OM:=hid (O0.out.trans o2);clear h2 o2 H O0)
   |(go_at_call 106;refine(AO2.out _ HM.out).mono ?_;rintro e wn ⟨rfl,h2,o2⟩;have HN:=hid h2;have ON:=hid (OM.out.trans o2);clear h2 o2 HM OM))
  refine bodyPost_ret (v:=.tuple #[.string ⟨#[]⟩,.bool false]) (by simp[results,Tryz.results111,go_sem]) rfl ?_
  exact⟨ON.out,Or.inr ⟨HVN.out,_,p,rfl,HN.out,hp⟩⟩
end
section
open Go.RowKit Go.Lib
abbrev Zs:=List (Stp×(Option Addr×Nat))
structure TgM (w W:World)(b:ByteArray)(Sb Xb q:Nat)(v:Value)(zs:Zs):Prop where
 rb:W.heap[w.heap.size]?=some (.cells #[.int .i64 0,.int .i64 0] 78 (0,0))
 sc:ASc W Sb b q
 xb:∃x0 x1,W.heap[Xb]?=some (.cells #[x0,x1] 82 (0,0))
 own:Qg Qm 82 W w.heap.size v zs
 each:∀z∈zs,Qd W w.heap.size (Qr z) z.1.2
 bel:Below w.heap.size w W
 ls:w.heap.size≤Sb
 lx:w.heap.size≤Xb
 xne:v.ownBlock≠some Xb
 may:∀z∈zs,Kr z.1=true∧(Qp z.1).length≤1073741824
 qb:q≤b.size
 cnt:zs.length≤513+q
section
variable {w W W' : World}{b:ByteArray}{Sb Xb q:Nat}{v:Value}{zs:Zs}
theorem Ry {b1 b2:Nat}{c1 c2:Array Value}{t1 t2:TypeId}{u1 u2:Nat×Nat}(h1:W.heap[b1]?=some (.cells c1 t1 u1))(h2:W.heap[b2]?=some (.cells c2 t2 u2))(h:t1≠t2):b1≠b2:=fun e=>by
 subst e;rw[h1]at h2
 cases h2;exact h rfl
theorem TgM.sx (h:TgM w W b Sb Xb q v zs):Sb≠Xb:=by
 obtain⟨x0,x1,hx⟩:=h.xb
 exact Ry h.sc hx (by decide)
theorem TgM.step {q':Nat}(h:TgM w W b Sb Xb q v zs)(o:Qf Sb W W')(hs:ASc W' Sb b q')(hq:q'≤b.size)(hle:q≤q'):TgM w W' b Sb Xb q' v zs:=by
 obtain⟨x0,x1,hx⟩:=h.xb
 have hsc:W.heap[Sb]?=some (.cells (asc b q) 180 (0,0)):=h.sc
 refine⟨(o.block _ (lt_of_block h.rb) (fun e=>Ry h.rb hsc (by decide) (Option.some.inj e))).trans h.rb,hs,⟨x0,x1,(o.block _ (lt_of_block hx) (fun e=>h.sx (Option.some.inj e).symm)).trans hx⟩,World.ownsRow.kept h.own o (Or.inr (Qx h.own hsc (by decide))),fun z hz=>World.ownsRow.kept (h.each z hz) o (Or.inr (Qx (h.each z hz) hsc (by decide))),?_,h.ls,h.lx,h.xne,h.may,hq,by have:=h.cnt;omega⟩
 exact h.bel.grown o h.bel.size (fun k hk=>by cases hk;exact h.ls)
theorem TgM.below (h:TgM w W b Sb Xb q v zs)(hb:Below W.heap.size W W'):TgM w W' b Sb Xb q v zs:=by
 obtain⟨x0,x1,hx⟩:=h.xb
 exact⟨bk hb h.rb,h.sc.below hb,⟨x0,x1,bk hb hx⟩,h.own.below hb,fun z hz=>Qz (h.each z hz) hb,h.bel.then hb,h.ls,h.lx,h.xne,h.may,h.qb,h.cnt⟩
theorem TgM.setX (h:TgM w W b Sb Xb q v zs)(i:Nat)(u:Value):TgM w (W.setCell ⟨Xb,i,none⟩ u) b Sb Xb q v zs:=by
 obtain⟨x0,x1,hx⟩:=h.xb
 have hsc:W.heap[Sb]?=some (.cells (asc b q) 180 (0,0)):=h.sc
 refine⟨(heap_setCell_other _ _ _ _ (Ry h.rb hx (by decide))).trans h.rb,(heap_setCell_other _ _ _ _ h.sx).trans hsc,?_,Qb h.own h.xne i u,fun z hz=>Qb (h.each z hz) (Qx (h.each z hz) hx (by decide)) i u,h.bel.setCell h.lx u,h.ls,h.lx,h.xne,h.may,h.qb,h.cnt⟩
 have:=heap_setCell_same W Xb i _ _ u hx
 match i with
 |0=>exact⟨u,x1,by rw[this];simp⟩
 |1=>exact⟨x0,u,by rw[this];simp⟩
 |n+2=>exact⟨x0,x1,by rw[this];simp⟩
theorem TgM.pop {a:Option Addr}{n c:Nat}(h:TgM w W b Sb Xb q (.slice a n c) zs)(hne:zs≠[]):TgM w W b Sb Xb q (.slice a (zs.length-1) c) zs.dropLast:=by
 have hx:=h.xne;have hp:=Qg.pop h.own (zs.length-1) (Nat.sub_le _ _) hne;rw[←List.dropLast_eq_take]at hp
 refine⟨h.rb,h.sc,h.xb,hp,fun z hz=>h.each z (List.dropLast_subset _ hz),h.bel,h.ls,h.lx,?_,fun z hz=>h.may z (List.dropLast_subset _ hz),h.qb,?_⟩
 ·obtain⟨g,rfl⟩:=Qg.some' h.own hne
  exact hx
 ·rw[List.length_dropLast];have:=h.cnt;omega
def KeyLt (M:Nat)(zs:Zs):Prop:=∀z∈zs,∀k,(Qr z).ownBlock=some k→k<M
theorem TgM.keyLt (h:TgM w W b Sb Xb q v zs):KeyLt W.heap.size zs:=fun z hz k hk=>(World.ownsRow.lt (h.each z hz) k hk).2
structure KyM (w W:World)(b:ByteArray)(Sb Xb q:Nat)(v:Value)(zs:Zs)(n:Str)(ks:List (Str×Str))(kv:Value)(M:Nat):Prop where
 m:TgM w W b Sb Xb q v zs
 x:W.heap[Xb]?=some (.cells #[.string ⟨n.toArray⟩,kv] 82 (0,0))
 ko:Qd W M kv ks
 lt:KeyLt M zs
 lo:w.heap.size≤M
 hi:M≤W.heap.size
 nm:Xg n=true
 ok:∀k∈ks,Xg k.1=true∧Jf k.2=true
 nd:(ks.map (·.1)).Nodup
 kw:kw ks+n.length≤q
 cn:zs.length+1≤513+q
variable {n:Str}{ks:List (Str × Str)}{kv:Value}{M:Nat}
theorem KyM.step {q':Nat}(h:KyM w W b Sb Xb q v zs n ks kv M)(o:Qf Sb W W')(hs:ASc W' Sb b q')(hq:q'≤b.size)(hle:q≤q'):KyM w W' b Sb Xb q' v zs n ks kv M:=by
 have hsc:W.heap[Sb]?=some (.cells (asc b q) 180 (0,0)):=h.m.sc
 refine⟨h.m.step o hs hq hle,(o.block _ (lt_of_block h.x) (fun e=>h.m.sx (Option.some.inj e).symm)).trans h.x,World.ownsRow.kept h.ko o (Or.inr (Qx h.ko hsc (by decide))),h.lt,h.lo,Nat.le_trans h.hi o.size,h.nm,h.ok,h.nd,by have:=h.kw;omega,by have:=h.cn;omega⟩
theorem KyM.below (h:KyM w W b Sb Xb q v zs n ks kv M)(hb:Below W.heap.size W W'):KyM w W' b Sb Xb q v zs n ks kv M :=
 ⟨h.m.below hb,bk hb h.x,Qz h.ko hb,h.lt,h.lo,Nat.le_trans h.hi hb.size,h.nm,h.ok,h.nd,h.kw,h.cn⟩
theorem KyM.grow {kv':Value}{ks':List (Str×Str)}(h:KyM w W b Sb Xb q v zs n ks kv M)(gr:W.grownBy W' kv.ownBlock)(ho:Qd W' M kv' ks'):TgM w W' b Sb Xb q v zs∧W'.heap[Xb]?=some (.cells #[.string ⟨n.toArray⟩,kv] 82 (0,0)):=by
 have hsc:W.heap[Sb]?=some (.cells (asc b q) 180 (0,0)):=h.m.sc;have bl:∀{k:Nat}{cs:Array Value}{t:TypeId},W.heap[k]?=some (.cells cs t (0,0))→37≠t→W'.heap[k]?=W.heap[k]?:=fun hk ht=>gr.block _ (lt_of_block hk) (fun e=>Qx h.ko hk ht e.symm)
 have hx:=(bl h.x (by decide)).trans h.x
 refine⟨⟨(bl h.m.rb (by decide)).trans h.m.rb,(bl hsc (by decide)).trans hsc,⟨_,_,hx⟩,World.ownsRow.kept h.m.own gr (Kd h.m.own h.ko (by decide)),fun z hz=>World.ownsRow.kept (h.m.each z hz) gr ?_,?_,h.m.ls,h.m.lx,h.m.xne,h.m.may,h.m.qb,h.m.cnt⟩,hx⟩
 ·cases hk:(Qr z).ownBlock with
  |none=>exact Or.inl rfl
  |some k =>
   refine Or.inr fun e=>?_
   have h1:=h.lt z hz k hk;have h2:=(World.ownsRow.lt h.ko k e.symm).1
   omega
 ·exact h.m.bel.grown gr h.m.bel.size (fun k hk=>by have:=(World.ownsRow.lt h.ko k hk).1;have:=h.lo;omega)
theorem KyM.push {kv':Value}{k:Str×Str}(h:KyM w W b Sb Xb q v zs n ks kv M)(gr:W.grownBy W' kv.ownBlock)(ho:Qd W' M kv' (ks++[k]))(h1:Xg k.1=true)(h2:Jf k.2=true)(h3:k.1 ∉ ks.map (·.1))(hq:Go.Proofs.YtbbmdbolkicpcabGreatDoor.kw (ks++[k])+n.length≤q) :
  KyM w (W'.setCell ⟨Xb,1,none⟩ kv') b Sb Xb q v zs n (ks++[k]) kv' M:=by
 obtain⟨hm,hx⟩:=h.grow gr ho
 refine⟨hm.setX 1 kv',by rw[heap_setCell_same _ _ _ _ _ _ hx];simp,Qb ho (Qx ho hx (by decide)) 1 kv',h.lt,h.lo,Nat.le_trans h.hi (by simpa using gr.size),h.nm,?_,?_,hq,h.cn⟩
 ·intro x hx
  rcases List.mem_append.1 hx with hx|hx
  ·exact h.ok x hx
  ·rw[List.mem_singleton.1 hx];exact⟨h1,h2⟩
 ·rw[List.map_append,List.nodup_append]
  refine⟨h.nd,by simp,fun a ha c hc e=>?_⟩
  simp only[List.map_cons,List.map_nil,List.mem_singleton]at hc;subst hc;subst e;exact h3 ha
theorem KyM.sort {ks':List (Str×Str)}(h:KyM w W b Sb Xb q v zs n ks kv M)(gr:W.grownBy W' kv.ownBlock)(ho:Qd W' M kv ks')(hp:ks'.Perm ks)(hs:ks'.Pairwise (fun a b=>¬b.1<a.1)):KyM w W' b Sb Xb q v zs n (Ky ks) kv M:=by
 obtain⟨hm,hx⟩:=h.grow gr ho
 have e:=Rt ks ks' hp h.nd hs;subst e
 refine⟨hm,hx,ho,h.lt,h.lo,Nat.le_trans h.hi gr.size,h.nm,fun k hk=>h.ok k (hp.mem_iff.1 hk),(hp.map _).nodup_iff.2 h.nd,?_,h.cn⟩
 rw[Xpq hp];exact h.kw
theorem KyM.join {v':Value}{a:Option Addr}{c:Nat}(h:KyM w W b Sb Xb q v zs n ks (.slice a ks.length c) M)(hmay:Kr (n,ks)=true∧(Qp (n,ks)).length≤1073741824)(o:Qg Qm 82 W' w.heap.size v' (zs++[((n,ks),(a,c))]))(gr:W.grownBy W' v.ownBlock)(mv:Nk W v v') :
  TgM w W' b Sb Xb q v' (zs++[((n,ks),(a,c))]):=by
 have hsc:W.heap[Sb]?=some (.cells (asc b q) 180 (0,0)):=h.m.sc;have bl:∀{k:Nat}{cs:Array Value}{t:TypeId},W.heap[k]?=some (.cells cs t (0,0))→82≠t→W'.heap[k]?=W.heap[k]?:=fun hk ht=>gr.block _ (lt_of_block hk) (fun e=>Qx h.m.own hk ht e.symm)
 refine⟨(bl h.m.rb (by decide)).trans h.m.rb,(bl hsc (by decide)).trans hsc,⟨_,_,(gr.block _ (lt_of_block h.x) (fun e=>h.m.xne e.symm)).trans h.x⟩,o,fun z hz=>?_,?_,h.m.ls,h.m.lx,?_,fun z hz=>?_,h.m.qb,by simpa using h.cn⟩
 ·rcases List.mem_append.1 hz with hz|hz
  ·exact World.ownsRow.kept (h.m.each z hz) gr (Kd (h.m.each z hz) h.m.own (by decide))
  ·rw[List.mem_singleton.1 hz];exact Ks (World.ownsRow.kept h.ko gr (Kd h.ko h.m.own (by decide))) h.lo
 ·exact h.m.bel.grown gr h.m.bel.size (fun k hk=>by have:=(World.ownsRow.lt h.m.own k hk).1;omega)
 ·intro e
  rcases mv with m|⟨k,h1,h2⟩
  ·exact h.m.xne (m.symm.trans e)
  ·rw[h1]at e
   cases e
   have:=lt_of_block h.x
   omega
 ·rcases List.mem_append.1 hz with hz|hz
  ·exact h.m.may z hz
  ·rw[List.mem_singleton.1 hz];exact hmay
end
theorem Qkg {c:UInt8}{s:Str}(h:¬ [c] <+: s):Xx c s=none:=by
 cases s with
 |nil=>rfl
 |cons d r =>
  change (if d=c then some r else none)=none;rw[if_neg];rintro rfl;exact h ⟨r,rfl⟩
section
variable {ks:List (Str × Str)}{s1 s2 k r:Str}
theorem Qvq (h1:s1=64::s2)(h2:Xf s2=(k,r)):Rp ks s1=if k∈ks.map (·.1)then none
  else if k=[]then none
  else match Xx 61 r with
   |none=>none
   |some s4=>match Jr s4 with
    |none=>none
    |some (v,s5)=>match Xx 93 s5 with
     |none=>none
     |some s6=>some ((k,v),s6):=by
 subst h1;unfold Rp;rw[show Xx 64 (64::s2)=some s2 from rfl];simp only[h2]
 rfl
theorem Xnh {k:Str}:ks.any (fun p=>p.1==k)=true↔k∈ks.map (·.1):=by
 rw[List.any_eq_true,List.mem_map]
 constructor
 ·rintro⟨x,hx,e⟩;exact⟨x,hx,by simpa using e⟩
 ·rintro⟨x,hx,e⟩;exact⟨x,hx,by simpa using e⟩
theorem keyA_has (h1:s1=64::s2)(h2:Xf s2=(k,r))(h:ks.any (fun p=>p.1==k)=true):Rp ks s1=none:=by
 rw[Qvq h1 h2,if_pos (Xnh.1 h)]
theorem keyA_nil (h1:s1=64::s2)(h2:Xf s2=(k,r))(h:k=[]):Rp ks s1=none:=by
 rw[Qvq h1 h2,if_pos h]
 split <;> rfl
theorem keyA_eq (h1:s1=64::s2)(h2:Xf s2=(k,r))(h:¬ [61] <+: r):Rp ks s1=none:=by
 rw[Qvq h1 h2,Qkg h]
 split
 ·rfl
 ·split <;> rfl
theorem keyA_val {s4:Str}(h1:s1=64::s2)(h2:Xf s2=(k,r))(h3:r=61::s4)(h:Jr s4=none):Rp ks s1=none:=by
 rw[Qvq h1 h2,h3,show Xx 61 (61::s4)=some s4 from rfl]
 simp only
 rw[h]
 split
 ·rfl
 ·split <;> rfl
theorem keyA_end {s4 s5 v:Str}(h1:s1=64::s2)(h2:Xf s2=(k,r))(h3:r=61::s4)(h4:Jr s4=some (v,s5))(h:¬ [93] <+: s5):Rp ks s1=none:=by
 rw[Qvq h1 h2,h3,show Xx 61 (61::s4)=some s4 from rfl]
 simp only
 rw[h4]
 simp only
 rw[Qkg h]
 split
 ·rfl
 ·split <;> rfl
theorem keyA_all {s4 s5 s6 v:Str}(h1:s1=64::s2)(h2:Xf s2=(k,r))(hn:ks.any (fun p=>p.1==k)=false)(hk:k≠[])(h3:r=61::s4)(h4:Jr s4=some (v,s5))(h5:s5=93::s6):Rp ks s1=some ((k,v),s6):=by
 rw[Qvq h1 h2,if_neg (fun h=>by rw[Xnh.2 h]at hn;cases hn),if_neg hk,h3,show Xx 61 (61::s4)=some s4 from rfl]
 simp only
 rw[h4,h5]
 simp only
 rw[show Xx 93 (93::s6)=some s6 from rfl]
end
theorem ownP_hp {w:World}{B:Nat}{v:Value}{l:List (Str×Str)}(h:Qd w B v l):∀a n c,v=.slice (some a) n c→∃p o,a=⟨p,o,none⟩∧p<w.heap.size:=by
 intro a n c e
 rcases h.shape with ⟨rfl,_⟩|⟨g,cap,cur,rfl,_,hg,_⟩
 ·cases e
 ·cases e;exact⟨g,0,rfl,lt_of_block hg⟩
theorem kw_len (ks:List (Str×Str)):2 * ks.length≤kw ks:=by
 unfold kw
 induction ks with
 |nil=>simp
 |cons k r ih=>rw[List.map_cons,List.sum_cons,List.length_cons];omega
theorem Zhz {b:ByteArray}{q:Nat}{c:UInt8}(h:Zl (fun d=>d==c) (b.data.toList.drop q)=true):q<b.size∧b.data.toList.drop q=c::b.data.toList.drop (q+1):=by
 by_cases hq:q<b.size
 ·rw[Dq b q c hq]at h
  refine⟨hq,?_⟩
  rw[My b q hq,beq_iff_eq.1 h]
 ·rw[Qkw b q c hq]at h;cases h
theorem Zhx {b:ByteArray}{q q2:Nat}{k:Str}(hk:k=(Xf (b.data.toList.drop q)).1)(hq:q2=q+k.length):Xf (b.data.toList.drop q)=(k,b.data.toList.drop q2):=by
 have h:=Mv (b.data.toList.drop q);rw[←hk]at h;have h2:b.data.toList.drop q2=(Xf (b.data.toList.drop q)).2:=by
  have h3:=congrArg (List.drop k.length) h;rw[List.drop_drop,List.drop_left]at h3;rw[hq];exact h3
 rw[h2,hk]
def Xxx (w:World) (t:Str ⊕ Nat) (x:Ending) (w' : World):Prop := Below w.heap.size w w' ∧
  ((∃s,t=.inl s∧x=.returned (.tuple #[.string ⟨s.toArray⟩,.agg #[.int .i64 0,.int .i64 0]])) ∨
   (∃(e:Nat) (a:Int),t=.inr e∧e≠0∧x=.returned (.tuple #[.string ⟨#[]⟩,.agg #[.int .i64 e,.int .i64 a]])))
end
section
open Go.RowKit Go.Lib
def Hv (l:List Al)(k:Nat):Prop:=(∀p∈l.take k,Sm p)∧((l.take k).map (·.1)).Nodup
theorem Hv.zero (l:List Al):Hv l 0:=⟨fun p h=>by simp at h,by simp⟩
theorem Hv.bad {l:List Al}{k:Nat}(h:Hv l k)(hk:k<l.length):Pd [] l=Pd (l.take k) (l[k]::l.drop (k+1)):=by
 have key:∀(a done r:List Al),(∀p∈done++a,Sm p)→((done++a).map (·.1)).Nodup→Pd done (a++r)=Pd (done++a) r:=by
  intro a
  induction a with
  |nil=>intro done r _ _;simp
  |cons p a ih =>
   intro done r h1 h2;rw[List.cons_append,Pd,if_pos (h1 p (by simp)),if_neg,ih (done++[p]) r (by simpa using h1) (by simpa using h2),List.append_assoc]
   ·rfl
   ·intro hm;rw[List.map_append,List.nodup_append]at h2;exact h2.2.2 _ hm p.1 (by simp) rfl
 have e:l=l.take k++(l[k]::l.drop (k+1)):=by rw[←List.drop_eq_getElem_cons hk,List.take_append_drop]
 have:=key (l.take k) [] (l[k]::l.drop (k+1)) (by simpa using h.1) (by simpa using h.2)
 rw[←e]at this
 simpa using this
theorem Hv.no {l:List Al}{k:Nat}(h:Hv l k)(hk:k<l.length)(hn:¬Sm l[k]):Np l 2 k:=by
 refine Or.inl ?_;rw[h.bad hk,Pd,if_neg hn,List.length_take,Nat.min_eq_left (Nat.le_of_lt hk)]
theorem Hv.again {l:List Al}{k:Nat}(h:Hv l k)(hk:k<l.length)(hn:Sm l[k])(ha:(l.take k).any (fun p=>p.1==l[k].1)=true):Np l 211 k:=by
 refine Or.inl ?_;rw[h.bad hk,Pd,if_pos hn,if_pos,List.length_take,Nat.min_eq_left (Nat.le_of_lt hk)];rw[List.any_eq_true]at ha
 obtain⟨x,hx,e⟩:=ha
 exact List.mem_map.2 ⟨x,hx,by simpa using e⟩
theorem Hv.more {l:List Al}{k:Nat}(h:Hv l k)(hk:k<l.length)(hn:Sm l[k])(ha:(l.take k).any (fun p=>p.1==l[k].1)=false):Hv l (k+1):=by
 unfold Hv;rw[List.take_succ_eq_append_getElem hk]
 refine⟨fun p hp=>?_,?_⟩
 ·rcases List.mem_append.1 hp with hp|hp
  ·exact h.1 p hp
  ·rw[List.mem_singleton.1 hp];exact hn
 ·rw[List.map_append,List.nodup_append]
  refine⟨h.2,by simp,fun a hm b hb e=>?_⟩
  simp only[List.map_cons,List.map_nil,List.mem_singleton]at hb;subst hb;subst e
  obtain⟨x,hx,e⟩:=List.mem_map.1 hm
  rw[List.any_eq_false]at ha;exact ha x hx (by simpa using e)
theorem Hv.done {l:List Al}(h:Hv l l.length):Pd [] l=none:=by
 unfold Hv at h;rw[List.take_length]at h;exact Xmy h.1 (by simpa using h.2)
def Hr (l:List Al)(p:Al):List Bool:=l.map fun q=>Wp q p
def Mh (l:List Al):List (List Bool):=l.map fun p=>Hr l p
theorem fol_edge (l:List Al):Rv (Mh l)=Zcy l:=by
 funext i k
 unfold Rv Zcy Mh Hr
 by_cases hi:i<l.length
 ·by_cases hk:k<l.length
  ·simp[List.getD_eq_getElem?_getD,List.getElem?_map,List.getElem?_eq_getElem hi,List.getElem?_eq_getElem hk]
  ·simp[List.getD_eq_getElem?_getD,List.getElem?_map,List.getElem?_eq_getElem hi,List.getElem?_eq_none (Nat.not_lt.1 hk)]
 ·simp[List.getD_eq_getElem?_getD,List.getElem?_map,List.getElem?_eq_none (Nat.not_lt.1 hi)]
def Nt (l:List Al)(p:Al)(u:Nat):List Bool:=(l.take u).map (fun q=>Wp q p)++List.replicate (l.length-u) false
theorem Qvz (l:List Al)(p:Al)(u:Nat)(h:u≤l.length):(Nt l p u).length=l.length:=by
 unfold Nt;rw[List.length_append,List.length_map,List.length_take,List.length_replicate];omega
theorem Xbq (l:List Al)(p:Al):Nt l p 0=List.replicate l.length false:=by simp[Nt]
theorem rowAt_all (l:List Al)(p:Al):Nt l p l.length=Hr l p:=by simp[Nt,Hr]
theorem rowAt_set (l:List Al)(p:Al)(u:Nat)(h:u<l.length):(Nt l p u).set u (Wp l[u] p)=Nt l p (u+1):=by
 unfold Nt;rw[List.take_succ_eq_append_getElem h,List.map_append,List.set_append_right _ _ (by simp;omega),show l.length-u=(l.length-(u+1))+1 by omega,List.replicate_succ]
 simp[Nat.min_eq_left (Nat.le_of_lt h)]
structure Qqv (W:World)(B:Nat)(v:Value)(rows:List (List Bool))(zs:List (List Bool×(Option Addr×Nat))):Prop where
 eq:zs.map (·.1)=rows
 own:Qg Xxz 187 W B v zs
 each:∀z∈zs,Qg Bq 4 W B (.slice z.2.1 z.1.length z.2.2) z.1
theorem Qqv.rd {W:World}{B:Nat}{v:Value}{rows:List (List Bool)}{zs:List (List Bool×(Option Addr×Nat))}(h:Qqv W B v rows zs):Rk W v rows:=⟨zs,h.eq,h.own.rd,fun z hz=>(h.each z hz).rd⟩
theorem Qqv.below {W W':World}{B:Nat}{v:Value}{rows:List (List Bool)}{zs:List (List Bool×(Option Addr×Nat))}(h:Qqv W B v rows zs)(hb:Below W.heap.size W W'):Qqv W' B v rows zs :=
 ⟨h.eq,h.own.below hb,fun z hz=>(h.each z hz).below hb⟩
theorem Qqv.push {W W':World}{B:Nat}{v v':Value}{rows:List (List Bool)}{zs:List (List Bool×(Option Addr×Nat))}(h:Qqv W B v rows zs){r:List Bool}{a:Option Addr}{c:Nat}(hr:Qg Bq 4 W B (.slice a r.length c) r)
  (own:Qg Xxz 187 W' B v' (zs++[(r,(a,c))]))(gr:W.grownBy W' v.ownBlock):Qqv W' B v' (rows++[r]) (zs++[(r,(a,c))]):=by
 refine⟨by rw[List.map_append,h.eq];rfl,own,fun z hz=>?_⟩
 rcases List.mem_append.1 hz with hz|hz
 ·exact World.ownsRow.kept (h.each z hz) gr (Kd (h.each z hz) h.own (by decide))
 ·rw[List.mem_singleton.1 hz];exact World.ownsRow.kept hr gr (Kd hr h.own (by decide))
theorem rdP_take {w:World}{a:Option Addr}{n c:Nat}{l:List (Str×Str)}(h:RdP w (.slice a n c) l)(k:Nat)(hk:k≤l.length):RdP w (.slice a (l.take k).length c) (l.take k):=by
 obtain⟨ao,cp,e,⟨h1,h2⟩,hc⟩:=h
 cases e
 refine⟨a,c,rfl,⟨by rw[List.length_take];omega,fun e=>⟨by rw[(h2 e).1];simp,(h2 e).2⟩⟩,fun hne=>?_⟩
 obtain⟨b,off,h3,h4,h5⟩:=hc (by rintro rfl;simp at hne)
 refine⟨b,off,h3,h4,fun j i x hj hx=>h5 j i x (by rw[List.length_take]at hj;omega) (by rw[List.getElem_take]at hx;exact hx)⟩
theorem Xxj {w:World}{p o n c:Nat}{l:List (Str×Str)}(h:RdP w (.slice (some ⟨p,o,none⟩) n c) l)(hne:l≠[]):p<w.heap.size:=by
 obtain⟨ao,cp,e,_,hc⟩:=h
 cases e
 obtain⟨b,off,h3,h4,_⟩:=hc hne
 cases h3;exact h4
theorem infoBr':(Tryz.prog.info? 187).map (fun i=>(i.zero,i.size,i.bytes))=some (some (.slice none 0 0),1,24):=by kernel_rfl
def Qvx (B:Nat)(W:World)(v:Value)(D:List Al):Prop:=∃b kv,v=.pointer (some ⟨b,0,none⟩)∧B≤b∧W.heap[b]?=some (.cells #[kv] 192 (0,0))∧Qd W B kv D
theorem Qvx.rd {B:Nat}{W:World}{v:Value}{D:List Al}(h:Qvx B W v D):Qsz W v D:=by
 obtain⟨b,kv,h1,_,h2,h3⟩:=h
 exact⟨b,kv,h1,h2,h3.rd⟩
theorem Qvx.below {B:Nat}{W W':World}{v:Value}{D:List Al}(h:Qvx B W v D)(hb:Below W.heap.size W W'):Qvx B W' v D:=by
 obtain⟨b,kv,h1,h2,h3,h4⟩:=h
 exact⟨b,kv,h1,h2,bk hb h3,Qz h4 hb⟩
theorem Qvx.set {B x i:Nat}{W:World}{v u:Value}{D:List Al}(h:Qvx B W v D)(hx:x<B):Qvx B (W.setCell ⟨x,i,none⟩ u) v D:=by
 obtain⟨b,kv,h1,h2,h3,h4⟩:=h
 exact⟨b,kv,h1,h2,(heap_setCell_other _ _ _ _ (by simp;omega)).trans h3,Qb h4 (fun e=>by have:=(World.ownsRow.lt h4 x e).1;omega) i u⟩
def Xng (w:World)(l:List Al)(x:Ending)(w':World):Prop:=Below w.heap.size w w'∧∃(e i:Nat) (v:Value),Np l e i∧x=.returned (.tuple #[v,.agg #[.int .i64 e,.int .i64 i]])∧(e=0→Qvx w.heap.size w' v (Ky l))∧(e≠0→v=.pointer none)
theorem Cr {w W:World}{l:List Al}{e i:Nat}{v:Value}(hf:W.heap[w.heap.size]?=some (.cells #[.int .i64 0,.int .i64 0] 105 (0,0)))(hb:Below w.heap.size w W)(ho:Np l e i)
  (h0:e=0→Qvx w.heap.size (P2 W w.heap.size (.int .i64 e) (.int .i64 i)) v (Ky l))(h1:e≠0→v=.pointer none){a:Act}(hd:a.defers=[])(h2:a.tmps.getD 2 undef=v)(h3:a.tmps.getD 3 undef=.pointer (some ⟨w.heap.size,0,none⟩)) :
  bodyPost Tryz.prog Tryz.f55 (fun x w'=>Xng w l x w') Exit.ret a (P2 W w.heap.size (.int .i64 e) (.int .i64 i)):=by
 have hr:=Xy (.int .i64 e) (.int .i64 i) hf
 obtain⟨e0,e1,_,_,_⟩:=Qq hr
 refine bodyPost_ret (v:=.tuple #[v,.agg #[.int .i64 e,.int .i64 i]]) ?_ hd ⟨Zr _ _ hb (Nat.le_refl _),e,i,v,ho,rfl,h0,h1⟩
 obtain⟨tmps,defers⟩:=a
 simp only[Array.getD_eq_getD_getElem?]at h2 h3
 simp[results,Tryz.results55,go_sem,h2,h3,e0,e1]
end
end Go.Proofs.YtbbmdbolkicpcabGreatDoor
