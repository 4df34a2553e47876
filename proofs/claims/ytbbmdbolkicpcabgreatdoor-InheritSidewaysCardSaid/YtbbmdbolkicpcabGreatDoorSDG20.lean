/- ChNew, InhMem, InhAdd, InhLrn, PtWithoutA, RWithout -/
import Derived.Test.YtbbmdbolkicpcabGreatDoorSDG19
import Derived.Test.YtbbmdbolkicpcabGreatDoorSDG09
import Derived.BigQuiet
import Derived.Deep.Cut
import Derived.Test.YtbbmdbolkicpcabGreatDoorSDG16
import Derived.Test.YtbbmdbolkicpcabGreatDoorSDG11
import Derived.Test.YtbbmdbolkicpcabGreatDoorSDG08
import Derived.Test.YtbbmdbolkicpcabGreatDoorSDG17
import Derived.Test.YtbbmdbolkicpcabGreatDoorSDG10
import Derived.Test.YtbbmdbolkicpcabGreatDoorSDG12
import Derived.Test.YtbbmdbolkicpcabGreatDoorSDG13
import Derived.Test.YtbbmdbolkicpcabGreatDoorSDG15
set_option maxRecDepth 100000
set_option maxHeartbeats 32000000
set_option linter.unusedVariables false
set_option linter.unusedSimpArgs false
namespace Go.Proofs.YtbbmdbolkicpcabGreatDoor
section
open Go.RowKit Go.Lib Go.Sort Go.Maps
def Rr (B:Nat)(w:World)(v:Value)(D:List (Str×Str)):Prop :=
 ∃bc bm n,v=.pointer (some ⟨bc,0,none⟩)∧B≤bc∧B≤bm∧w.heap[bc]?=some (.cells #[.map (some bm)] 173 (0,0))∧Hj w bm n D
theorem Rr.rd {B:Nat}{w:World}{v:Value}{D:List (Str×Str)}(h:Rr B w v D):Zqw w v D:=by
 obtain⟨bc,bm,n,h1,_,_,h2,h3⟩:=h
 exact⟨bc,bm,n,h1,lt_of_block h2,by rw[cell_of_row _ _ _ _ _ _ h2];rfl,h3⟩
theorem Rr.below {B:Nat}{w w':World}{v:Value}{D:List (Str×Str)}(h:Rr B w v D)(hb:Below w.heap.size w w'):Rr B w' v D:=by
 obtain⟨bc,bm,n,h1,h2,h3,h4,h5⟩:=h
 exact⟨bc,bm,n,h1,h2,h3,bk hb h4,h5.below hb⟩
def NewRes (w:World)(l:List (Str×Str))(e:Ending)(w':World):Prop :=
 ∃(er i:Nat) (vc:Value),e=.returned (.tuple #[vc,.agg #[.int .i64 er,.int .i64 i]])∧Pf l er i∧(er=0→Rr w.heap.size w' vc l)∧(er≠0→vc=.pointer none)∧Below w.heap.size w w'
def F2 (w:World)(B e i:Nat):World:=(w.setCell ⟨B,0,none⟩ (.int .i64 e)).setCell ⟨B,1,none⟩ (.int .i64 i)
structure Fq (w:World)(l:List (Str×Str))(W:World)(n:Nat):Prop where
 bad:Fm [] l=Fm (l.take n) (l.drop n)
 own:Hj W (w.heap.size+1) n (l.take n)
 f:W.heap[w.heap.size]?=some (.cells #[.int .i64 0,.int .i64 0] 105 (0,0))
 c:W.heap[w.heap.size+1+1]?=some (.cells #[.map (some (w.heap.size+1))] 173 (0,0))
 bel:Below w.heap.size w W
theorem Fq.below {w W W':World}{l:List (Str×Str)}{n:Nat}(h:Fq w l W n)(hb:Below W.heap.size W W'):Fq w l W' n :=
 ⟨h.bad,h.own.below hb,bk hb h.f,bk hb h.c,h.bel.then hb⟩
theorem Fq.step {w W W':World}{l:List (Str×Str)}{n:Nat}(h:Fq w l W n)(hn:n<l.length)(h1:(Qj l[n].1=true∧Qj l[n].2=true)∧l[n].1≠Qs)(h2:look (l.take n) l[n].1=none)
  (own:Hj W' (w.heap.size+1) (n+1) (l.take n++[(l[n].1,l[n].2)]))(hg:W.grownBy W' (some (w.heap.size+1))):Fq w l W' (n+1):=by
 have hf:=lt_of_block h.f;have hc:=lt_of_block h.c
 refine⟨?_,?_,(hg.block _ hf (by simp)).trans h.f,(hg.block _ hc (by simp)).trans h.c,h.bel.grown hg h.bel.size (fun j hj=>by cases hj;omega)⟩
 ·rw[h.bad,Qpy hn,if_pos h1,if_pos h2]
 ·rw[List.take_add_one,List.getElem?_eq_getElem hn];exact own
theorem new_bad2 {l:List (Str×Str)}{n:Nat}(hb:Fm [] l=Fm (l.take n) (l.drop n))(hn:n<l.length)(h1:¬((Qj l[n].1=true∧Qj l[n].2=true)∧l[n].1≠Qs)):Pf l 2 n :=
 Or.inl (by rw[hb,Qpy hn,if_neg h1])
theorem Xbk {l:List (Str×Str)}{n:Nat}{y:Str}(hb:Fm [] l=Fm (l.take n) (l.drop n))(hn:n<l.length)(h1:(Qj l[n].1=true∧Qj l[n].2=true)∧l[n].1≠Qs)(h2:look (l.take n) l[n].1=some y):Pf l 211 n :=
 Or.inl (by rw[hb,Qpy hn,if_pos h1,if_neg (by rw[h2];simp)])
theorem F2_row {w:World}{B:Nat}(e i:Nat)(h:w.heap[B]?=some (.cells #[.int .i64 0,.int .i64 0] 105 (0,0))):(F2 w B e i).heap[B]?=some (.cells #[.int .i64 e,.int .i64 i] 105 (0,0)):=by
 unfold F2;rw[heap_setCell_same _ _ _ _ _ _ (heap_setCell_same _ _ _ _ _ _ h)]
 simp
theorem Xxy {w:World}{B b:Nat}(e i:Nat)(h:b≠B):(F2 w B e i).heap[b]?=w.heap[b]?:=by
 unfold F2;rw[heap_setCell_other _ _ _ _ h,heap_setCell_other _ _ _ _ h]
theorem F2_below {w w0:World}{B:Nat}(e i:Nat)(h:Below B w0 w):Below B w0 (F2 w B e i):=(h.setCell (Nat.le_refl _) _).setCell (Nat.le_refl _) _
theorem Ug {w W:World}{l:List (Str×Str)}(er i:Nat)(vc:Value)(hf:W.heap[w.heap.size]?=some (.cells #[.int .i64 0,.int .i64 0] 105 (0,0)))(hb:Below w.heap.size w W)(ho:Pf l er i)
  (h0:er=0→Rr w.heap.size (F2 W w.heap.size er i) vc l)(h1:er≠0→vc=.pointer none){a:Act}(hd:a.defers=[])(h2:a.tmps.getD 2 undef=vc)(h3:a.tmps.getD 3 undef=.pointer (some ⟨w.heap.size,0,none⟩)) :
  bodyPost Tryz.prog Tryz.f50 (fun e w'=>NewRes w l e w') Exit.ret a (F2 W w.heap.size er i):=by
 have hr:=F2_row er i hf;have hbb:=F2_below er i hb;generalize F2 W w.heap.size er i=V at *;have e0:V.cell? ⟨w.heap.size,0,none⟩=some (.int .i64 er):=cR hr;have e1:V.cell? ⟨w.heap.size,1,none⟩=some (.int .i64 i):=cR hr;refine bodyPost_ret (v:=.tuple #[vc,.agg #[.int .i64 er,.int .i64 i]]) ?_ hd ⟨er,i,vc,rfl,ho,h0,h1,hbb⟩
 obtain⟨tmps,defers⟩:=a
 simp only[Array.getD_eq_getD_getElem?]at h2 h3
 simp[results,Tryz.results50,go_sem,h2,h3,e0,e1]
theorem Fq.start (w:World)(l:List (Str×Str)):Fq w l (((w.alloc (.cells #[.int .i64 0,.int .i64 0] 105)).alloc (.map #[] 0)).alloc (.cells #[.map (some (w.heap.size+1))] 173)) 0:=by
 have s1:(w.alloc (.cells #[.int .i64 0,.int .i64 0] 105)).heap.size=w.heap.size+1:=by simp
 have s2:((w.alloc (.cells #[.int .i64 0,.int .i64 0] 105)).alloc (.map #[] 0)).heap.size=w.heap.size+1+1:=by simp
 refine⟨by simp,?_,?_,?_,?_⟩
 ·have:=Hj.made (w.alloc (.cells #[.int .i64 0,.int .i64 0] 105))
  rw[s1]at this;exact this.block (heap_alloc_old _ _ (by rw[s2];omega))
 ·exact(heap_alloc_old _ _ (by rw[s2];omega)).trans ((heap_alloc_old _ _ (by rw[s1];omega)).trans (heap_alloc_new w _))
 ·have:=heap_alloc_new ((w.alloc (.cells #[.int .i64 0,.int .i64 0] 105)).alloc (.map #[] 0)) (.cells #[.map (some (w.heap.size+1))] 173)
  rw[s2]at this;exact this
 ·exact((bal _ _).alloc (by rw[s1];omega) _).alloc (by rw[s2];omega) _
theorem Fq.chRd {w W:World}{l:List (Str×Str)}(h:Fq w l W l.length):Zqw W (.pointer (some ⟨w.heap.size+1+1,0,none⟩)) l :=
 ⟨_,w.heap.size+1,l.length,rfl,lt_of_block h.c,by rw[cell_of_row _ _ _ _ _ _ h.c];rfl,by have:=h.own;rw[List.take_length]at this;exact this⟩
theorem Fq.okB {w W:World}{l:List (Str×Str)}(h:Fq w l W l.length):Fm [] l=none:=by
 have:=h.bad
 rw[List.take_length,List.drop_length]at this;rw[this];rfl
theorem Fq.done {w W:World}{l:List (Str×Str)}(h:Fq w l W l.length):Rr w.heap.size (F2 W w.heap.size 0 0) (.pointer (some ⟨w.heap.size+1+1,0,none⟩)) l:=by
 have e1:(F2 W w.heap.size 0 0).heap[w.heap.size+1+1]?=W.heap[w.heap.size+1+1]?:=Xxy 0 0 (by omega);have hc:=e1.trans h.c
 refine⟨_,w.heap.size+1,l.length,rfl,by omega,by omega,hc,?_⟩
 have:=h.own.block (w':=F2 W w.heap.size 0 0) (Xxy 0 0 (by omega))
 rw[List.take_length]at this;exact this
theorem new_any (w:World)(va:Value)(l:List (Str×Str))(hl:RdP w va l)(hp:PSz l)(hsz:l.length≤10000000000) :
  Calls Tryz.prog 50 #[va] w fun e w'=>NewRes w l e w':=by
 have hmm:=@run_makeMap Tryz.prog
 obtain⟨ao,cp,rfl,hlen,hcell⟩:=hl
 have HCELL:=hid hcell;have HP:=hid hp;have HSZ:=hid hsz;have NM:=hid (fun W (s:Str) (hs:s.length≤maxLen)=>Zvh s W hs);simp only[Sr]at NM;have ST0:=hid (Fq.start w l);clear hcell hp hsz
 go_enter Tryz.func50,Tryz.ntmps50
 go_upto_region 2 with (fail)
 generalize (((w.alloc (.cells #[.int .i64 0,.int .i64 0] 105)).alloc (.map #[] 0)).alloc (.cells #[.map (some (w.heap.size+1))] 173))=w0 at *;go_wp2_with fail
 go_loopg[20] l.length (fun g vi W=>∃n:Nat,n≤l.length∧l.length≤n+g∧vi=.int .i64 n∧Fq w l W n)
 case atStart=>exact⟨0,Nat.zero_le _,by omega,rfl,ST0.out⟩
 case round =>
  obtain⟨n,hn,hg,rfl,st⟩:=hrel
  rename World=>w1
  have HG:=hid hg;have ST1:=hid st;clear st ST0 hg
  by_cases hlt:n<l.length
  ·have hne:l≠[]:=by intro e;rw[e]at hlt;simp at hlt
   obtain⟨p1,o1,rfl,hp1,hc1⟩:=HCELL.out hne
   have hps:=HP.out _ (List.getElem_mem hlt)
   obtain⟨kv,hkv⟩:∃kv,kv=l[n]'hlt:=⟨_,rfl⟩
   obtain⟨k,v⟩:=kv
   have hk:(l[n]'hlt).1=k:=by rw[←hkv]
   have hv:(l[n]'hlt).2=v:=by rw[←hkv]
   have q1:=(ST1.out.bel.cell (p:=⟨p1,o1+n * 2+0,none⟩) hp1).trans (hc1 n 0 (S k) hlt (by rw[←hkv];rfl));have q2:=(ST1.out.bel.cell (p:=⟨p1,o1+n * 2+1,none⟩) hp1).trans (hc1 n 1 (S v) hlt (by rw[←hkv];rfl));rw[S]at q1 q2;rw[Nat.add_zero]at q1;have hkl:k.length≤maxLen:=by rw[←hk];exact hps.1
   have hvl:v.length≤maxLen:=by rw[←hv];exact hps.2
   have HK:=hid hk;have HV:=hid hv;have hni:(n:Int)<(l.length:Int):=by omega
   have hn0:(0:Int)≤(n:Int):=by omega
   clear hk hv hkv hc1 hps hne
   go_upto_region 5 with (fail)
   have HPB:=hid (heap_alloc_new w1 (.cells #[.string ⟨k.toArray⟩,.string ⟨v.toArray⟩] 37));have HB2:=hid (bal w1 (.cells #[.string ⟨k.toArray⟩,.string ⟨v.toArray⟩] 37));generalize w1.alloc (.cells #[.string ⟨k.toArray⟩,.string ⟨v.toArray⟩] 37)=w2 at *;have ST2:=hid (ST1.out.below HB2.out);clear q1 q2 HB2;have c0:w2.cell? ⟨w1.heap.size,0,none⟩=some (.string ⟨k.toArray⟩):=cR HPB.out;have lt0:=lt_of_block HPB.out;go_wp2_with fail
   refine(NM.out _ k hkl).mono ?_
   rintro e w3 ⟨v3,rfl,⟨vv3,kv3,rfl,⟨a3,b3,rfl,_,_⟩,⟨a4,b4,rfl,_,_⟩⟩,hb3⟩;generalize Fl k=t3 at *;simp only[Qv,S];clear c0 lt0;have HPB3:=hid (bk hb3 HPB.out);have ST3:=hid (ST2.out.below hb3);clear hb3 HPB ST2
   go_upto_region 6 with (fail)
   have HB4:=hid (bal w3 (.cells #[.string ⟨t3.lang.toArray⟩,.string ⟨t3.script.toArray⟩,.string ⟨t3.region.toArray⟩,.slice a3 t3.vars.length b3,.slice a4 t3.keys.length b4] 160));generalize w3.alloc (.cells #[.string ⟨t3.lang.toArray⟩,.string ⟨t3.script.toArray⟩,.string ⟨t3.region.toArray⟩,.slice a3 t3.vars.length b3,.slice a4 t3.keys.length b4] 160)=w4 at *;have HPB4:=hid (bk HB4.out HPB3.out);have ST4:=hid (ST3.out.below HB4.out);clear HB4 HPB3 ST3;have c1:w4.cell? ⟨w1.heap.size,1,none⟩=some (.string ⟨v.toArray⟩):=cR HPB4.out;have lt1:=lt_of_block HPB4.out;go_wp2_with fail
   refine(NM.out _ v hvl).mono ?_
   rintro e w5 ⟨v5,rfl,⟨vv5,kv5,rfl,⟨a5,b5,rfl,_,_⟩,⟨a6,b6,rfl,_,_⟩⟩,hb5⟩;generalize Fl v=t5 at *;simp only[Qv,S];clear c1 lt1;have HPB5:=hid (bk hb5 HPB4.out);have ST5:=hid (ST4.out.below hb5);clear hb5 HPB4 ST4
   go_upto_region 7 with (fail)
   have HB6:=hid (bal w5 (.cells #[.string ⟨t5.lang.toArray⟩,.string ⟨t5.script.toArray⟩,.string ⟨t5.region.toArray⟩,.slice a5 t5.vars.length b5,.slice a6 t5.keys.length b6] 160));generalize w5.alloc (.cells #[.string ⟨t5.lang.toArray⟩,.string ⟨t5.script.toArray⟩,.string ⟨t5.region.toArray⟩,.slice a5 t5.vars.length b5,.slice a6 t5.keys.length b6] 160)=w6 at *;have HPB6:=hid (bk HB6.out HPB5.out);have ST6:=hid (ST5.out.below HB6.out);clear HB6 HPB5 ST5;have d0:w6.cell? ⟨w1.heap.size,0,none⟩=some (.string ⟨k.toArray⟩):=cR HPB6.out;have d1:w6.cell? ⟨w1.heap.size,1,none⟩=some (.string ⟨v.toArray⟩):=cR HPB6.out;have ltd:=lt_of_block HPB6.out;have y0:w6.cell? ⟨w.heap.size,0,none⟩=some (.int .i64 0):=cR ST6.out.f;have y1:w6.cell? ⟨w.heap.size,1,none⟩=some (.int .i64 0):=cR ST6.out.f;have fy0:=frozen_of_row w6 w.heap.size 0 _ _ ST6.out.f;have fy1:=frozen_of_row w6 w.heap.size 1 _ _ ST6.out.f;have lty:=lt_of_block ST6.out.f;have cc:w6.cell? ⟨w.heap.size+1+1,0,none⟩=some (.map (some (w.heap.size+1))):=cR ST6.out.c;have ltc:=lt_of_block ST6.out.c
   by_cases hgood:(Qj k=true∧Qj v=true)∧k≠Qs
   ·obtain⟨⟨g1,g2⟩,g3⟩:=hgood
    have hub:(k==[114,111,111,116])=false:=by rw[beq_eq_false_iff_ne];exact g3
    have hub2:(k != [114,111,111,116])=true:=by rw[bne_iff_ne];exact g3
    have HGOOD:=hid (show(Qj (l[n]'hlt).1=true∧Qj (l[n]'hlt).2=true)∧(l[n]'hlt).1≠Qs by rw[HK.out,HV.out];exact⟨⟨g1,g2⟩,g3⟩);rw[g1,g2];clear g1 g2 g3;have LK:=ST6.out.own.look_run k hkl;have LKd:∀m,(Instr.lookup 171 (.map (some (w.heap.size+1))) (.string ⟨k.toArray⟩) true).run Tryz.prog (w6.drewN m)=.ok (.tuple #[.string ⟨((look (l.take n) k).getD []).toArray⟩,.bool (look (l.take n) k).isSome]) (w6.drewN m):=fun m=>(show Hj (w6.drewN m) (w.heap.size+1) n (l.take n)from ST6.out.own.block rfl).look_run k hkl
    cases hlk:look (l.take n) k with
    |some y =>
     rw[hlk]at LK LKd;simp only[Option.getD_some,Option.isSome_some]at LK LKd;have HLK:=hid hlk;clear hlk;go_wp2_with fail
     go_quiet (fail)
     go_wp2_with fail;change bodyPost _ _ _ _ _ (F2 (w6.drewN _) w.heap.size 211 n);exact Ug (W:=w6.drewN nq) 211 n (.pointer none) ST6.out.f (below_drewN ST6.out.bel _) (Xbk ST6.out.bad hlt HGOOD.out (by rw[HK.out];exact HLK.out)) (fun h=>by cases h) (fun _=>rfl) rfl rfl rfl
    |none =>
     rw[hlk]at LK LKd;simp only[Option.getD_none,Option.isSome_none]at LK LKd;have HLK:=hid hlk;clear hlk;go_wp2_with fail
     go_quiet (fail)
     go_wp2_with fail;have HB7:=hid (show Below w6.heap.size w6 (w6.drewN nq)from below_drewN (Below.refl _ _) nq);clear LK LKd d0 d1 ltd y0 y1 fy0 fy1 lty cc ltc;generalize w6.drewN nq=w7 at *;have HPB7:=hid (bk HB7.out HPB6.out);have ST7:=hid (ST6.out.below HB7.out);clear HB7 HPB6 ST6;have d0:w7.cell? ⟨w1.heap.size,0,none⟩=some (.string ⟨k.toArray⟩):=cR HPB7.out;have d1:w7.cell? ⟨w1.heap.size,1,none⟩=some (.string ⟨v.toArray⟩):=cR HPB7.out;have ltd:=lt_of_block HPB7.out;have cc:w7.cell? ⟨w.heap.size+1+1,0,none⟩=some (.map (some (w.heap.size+1))):=cR ST7.out.c;have ltc:=lt_of_block ST7.out.c
     obtain⟨w8,hrun,hown8,hgr8⟩:=(show Hj w7.drew (w.heap.size+1) n (l.take n)from ST7.out.own).say_run (by have:=HSZ.out;unfold maxLen;omega) k v hkl hvl HLK.out
     have HO8:=hid hown8;have HG8:=hid hgr8;clear hown8 hgr8
     go_region
     all_goals go_wp2_with fail
     all_goals go_roundg (gk-1)
     all_goals first
      |(have:=HG.out;omega)
      |exact⟨n+1,by omega,by have:=HG.out;omega,by simp,Fq.step (W:=w7.drew) (show Fq w l w7.drew n from⟨ST7.out.bad,ST7.out.own,ST7.out.f,ST7.out.c,ST7.out.bel.drew⟩) hlt HGOOD.out (by rw[HK.out];exact HLK.out) (by rw[HK.out,HV.out];exact HO8.out) HG8.out⟩
   ·have HBAD:=hid (show ¬((Qj (l[n]'hlt).1=true∧Qj (l[n]'hlt).2=true)∧(l[n]'hlt).1≠Qs)by rw[HK.out,HV.out];exact hgood);have hout:=hid (new_bad2 ST6.out.bad hlt HBAD.out)
    cases hn1:Qj k with
    |false =>
     clear hgood;go_wp2_with fail;change bodyPost _ _ _ _ _ (F2 w6 w.heap.size 2 n);exact Ug 2 n (.pointer none) ST6.out.f ST6.out.bel hout.out (fun h=>by cases h) (fun _=>rfl) rfl rfl rfl
    |true =>
     cases hn2:Qj v with
     |false =>
      clear hgood;go_wp2_with fail;change bodyPost _ _ _ _ _ (F2 w6 w.heap.size 2 n);exact Ug 2 n (.pointer none) ST6.out.f ST6.out.bel hout.out (fun h=>by cases h) (fun _=>rfl) rfl rfl rfl
     |true =>
      have hkr:k=Qs:=by
       apply Classical.byContradiction
       intro hc;exact hgood ⟨⟨hn1,hn2⟩,hc⟩
      have hub:(k==[114,111,111,116])=true:=by rw[hkr];rfl
      have hub2:(k != [114,111,111,116])=false:=by rw[hkr];rfl
      clear hgood hkr;go_wp2_with fail;change bodyPost _ _ _ _ _ (F2 w6 w.heap.size 2 n);exact Ug 2 n (.pointer none) ST6.out.f ST6.out.bel hout.out (fun h=>by cases h) (fun _=>rfl) rfl rfl rfl
  ·have hnl:n=l.length:=by omega
   subst hnl;have HNB:=hid ST1.out.okB;have HSA:=hid (Zsh (done:=[]) HNB.out (fun p hp=>by cases hp));have RI:=hid (fun W (k:Str) (hst:Fq w l W l.length) (hk:Qj k=true)=>rings_any W _ l k hst.chRd HSA.out hk (by have:=HSZ.out;omega));go_wp2_with fail
   go_loopg[74] l.length (fun g vi W=>∃m:Nat,m≤l.length∧l.length≤m+g∧vi=.int .i64 m∧Fq w l W l.length∧∀j p,j<m→l[j]?=some p→¬Ch l p.1)
   case atStart=>exact⟨0,Nat.zero_le _,by omega,rfl,ST1.out,fun j p hj=>by omega⟩
   case round =>
    obtain⟨m,hm,hg2,rfl,st,hno⟩:=hrel
    rename World=>w2
    have HG2:=hid hg2;have ST2:=hid st;have HNO:=hid hno;clear st hg2 hno ST1
    by_cases hlt2:m<l.length
    ·have hne:l≠[]:=by intro e;rw[e]at hlt2;simp at hlt2
     obtain⟨p1,o1,rfl,hp1,hc1⟩:=HCELL.out hne
     obtain⟨kv,hkv⟩:∃kv,kv=l[m]'hlt2:=⟨_,rfl⟩
     obtain⟨k,v⟩:=kv
     have hk:(l[m]'hlt2).1=k:=by rw[←hkv]
     have q1:=(ST2.out.bel.cell (p:=⟨p1,o1+m * 2+0,none⟩) hp1).trans (hc1 m 0 (S k) hlt2 (by rw[←hkv];rfl));have q2:=(ST2.out.bel.cell (p:=⟨p1,o1+m * 2+1,none⟩) hp1).trans (hc1 m 1 (S v) hlt2 (by rw[←hkv];rfl));rw[S]at q1 q2;rw[Nat.add_zero]at q1;have HKN:=hid (show Qj k=true by rw[←hk];exact(HSA.out _ (List.getElem_mem hlt2)).1);have HKV:=hid (show l[m]?=some (k,v)by rw[List.getElem?_eq_getElem hlt2,hkv]);have hni:(m:Int)<(l.length:Int):=by omega
     have hn0:(0:Int)≤(m:Int):=by omega
     clear hk hkv hc1 hne
     go_upto_region 17 with (fail)
     have HPB:=hid (heap_alloc_new w2 (.cells #[.string ⟨k.toArray⟩,.string ⟨v.toArray⟩] 37));have HB3:=hid (bal w2 (.cells #[.string ⟨k.toArray⟩,.string ⟨v.toArray⟩] 37));generalize w2.alloc (.cells #[.string ⟨k.toArray⟩,.string ⟨v.toArray⟩] 37)=w3 at *;have ST3:=hid (ST2.out.below HB3.out);clear q1 q2 HB3;have c0:w3.cell? ⟨w2.heap.size,0,none⟩=some (.string ⟨k.toArray⟩):=cR HPB.out;have lt0:=lt_of_block HPB.out;go_wp2_with fail
     refine(RI.out _ k ST3.out HKN.out).mono ?_
     rintro e w4 ⟨⟨b,rfl,hb⟩,hb4⟩;have HRB:=hid hb;have ST4:=hid (ST3.out.below hb4);clear hb hb4 c0 lt0 HPB;have y0:w4.cell? ⟨w.heap.size,0,none⟩=some (.int .i64 0):=cR ST4.out.f;have y1:w4.cell? ⟨w.heap.size,1,none⟩=some (.int .i64 0):=cR ST4.out.f;have fy0:=frozen_of_row w4 w.heap.size 0 _ _ ST4.out.f;have fy1:=frozen_of_row w4 w.heap.size 1 _ _ ST4.out.f;have lty:=lt_of_block ST4.out.f
     cases b with
     |true =>
      have HOUT:=hid (show Pf l 210 m from Or.inr (Or.inl ⟨HNB.out,rfl,⟨(k,v),HKV.out,HRB.out.1 rfl⟩,HNO.out⟩));go_wp2_with fail;change bodyPost _ _ _ _ _ (F2 w4 w.heap.size 210 m);exact Ug 210 m (.pointer none) ST4.out.f ST4.out.bel HOUT.out (fun h=>by cases h) (fun _=>rfl) rfl rfl rfl
     |false =>
      have HNR:=hid (show ¬Ch l k from fun h=>by have:=HRB.out.2 h;cases this);clear y0 y1 fy0 fy1 lty;go_wp2_with fail
      go_roundg (gk-1)
      case measure=>have:=HG2.out;omega
      case rel=>exact⟨m+1,by omega,by have:=HG2.out;omega,by simp,ST4.out,fun j p hj hp=>by
       by_cases he:j=m
       ·subst he;rw[HKV.out]at hp;cases hp;exact HNR.out
       ·exact HNO.out j p (by omega) hp⟩
    ·have hml:m=l.length:=by omega
     have HOUT:=hid (show Pf l 0 0 from Or.inr (Or.inr ⟨HNB.out,rfl,rfl,fun p hp=>by
      obtain⟨j,hj,rfl⟩:=List.getElem_of_mem hp
      exact HNO.out j _ (by omega) (List.getElem?_eq_getElem hj)⟩))
     have y0:w2.cell? ⟨w.heap.size,0,none⟩=some (.int .i64 0):=cR ST2.out.f;have y1:w2.cell? ⟨w.heap.size,1,none⟩=some (.int .i64 0):=cR ST2.out.f;have fy0:=frozen_of_row w2 w.heap.size 0 _ _ ST2.out.f;have fy1:=frozen_of_row w2 w.heap.size 1 _ _ ST2.out.f;have lty:=lt_of_block ST2.out.f;clear hml;go_wp2_with fail;change bodyPost _ _ _ _ _ (F2 w2 w.heap.size 0 0);exact Ug 0 0 (.pointer (some ⟨w.heap.size+1+1,0,none⟩)) ST2.out.f ST2.out.bel HOUT.out (fun _=>ST2.out.done) (fun h=>absurd rfl h) rfl rfl rfl
end
section
open Go.RowKit Go.Lib
attribute [local go_sem] Qnh
def RsP (B0:Nat)(W:World)(v:Value)(R:Rsv):Prop:=∃b Bt vc va km n,v=.pointer (some ⟨b,0,none⟩)∧W.heap[b]?=some (.cells #[.pointer (some ⟨Bt,0,none⟩),.pointer (some ⟨vc,0,none⟩),.pointer (some ⟨va,0,none⟩),.map (some km)] 75 (0,0))∧
 TbP B0 W Bt R.t∧Zqw W (.pointer (some ⟨vc,0,none⟩)) R.par∧Qsz W (.pointer (some ⟨va,0,none⟩)) R.als∧Zm Yy W km n (Jw R.known)
theorem RsP.below {B0:Nat}{W W':World}{v:Value}{R:Rsv}(h:RsP B0 W v R)(hb:Below W.heap.size W W'):RsP B0 W' v R:=by
 obtain⟨b,Bt,vc,va,km,n,h1,h2,h3,h4,h5,h6⟩:=h
 exact⟨b,Bt,vc,va,km,n,h1,bk hb h2,h3.below hb,h4.below hb,h5.below hb,h6.below hb⟩
theorem Jm {W:World}{B:Nat}{a0 a1 a2 a3:Value}{ty:TypeId}(h:W.heap[B]?=some (.cells #[a0,a1,a2,a3] ty (0,0))) :
  W.cell? ⟨B,0,none⟩=some a0∧W.cell? ⟨B,1,none⟩=some a1∧W.cell? ⟨B,2,none⟩=some a2∧W.cell? ⟨B,3,none⟩=some a3∧B<W.heap.size:=by
 refine⟨?_,?_,?_,?_,lt_of_block h⟩
 all_goals (rw[cell_of_row _ _ _ _ _ _ h];rfl)
theorem asks_any {B0:Nat}{w:World}{v:Value}{R:Rsv}(h:RsP B0 w v R)(ok:Rm R)(l p:Str)(hl:l.length≤maxLen)(hp:p.length≤maxLen)(hsz:R.par.length≤10000000000) :
  Calls Tryz.prog 40 #[v,.string ⟨l.toArray⟩,.string ⟨p.toArray⟩] w fun e w'=>e=.returned (.bool (Xph l p))∧Below w.heap.size w w':=by
 obtain⟨b,Bt,vc,va,km,n,rfl,hb,_,hc,_,_⟩:=h
 have CK:=hid (Cf p w hp);have CH:=hid (fun W (hb:Below w.heap.size w W)=>Zhj W _ R.par l (Hp R.par l) (hc.below hb) (Zdq ok.par).1 (ok.chain l) hl hsz);have CL:=hid (ok.chain_len l);have HB:=hid hb;have HAS:=hid (show Xph l p=(Zv p&&(l==[]||Qj l))from rfl);clear hb hc
 go_enter Tryz.func40,Tryz.ntmps40
 cases hpb:Zv p with
 |false =>
  rw[hpb]at HAS
  go_wp2_with (go_at_call 89;refine CK.out.mono ?_;rintro e w1 ⟨⟨er,ea,rfl,he⟩,hb1⟩;have hne:(er:Int)≠0:=(by intro e0;have:er=0:=(by omega);rw[he.1 this]at hpb;cases hpb);have B1:=hid hb1;clear hb1 he)
  exact bodyPost_ret (v:=.bool false) (by simp[results,Tryz.results40,go_sem]) rfl ⟨by rw[HAS.out];rfl,B1.out⟩
 |true =>
  rw[hpb]at HAS;have HPB:=hid hpb;clear hpb
  by_cases hln:l=[]
  ·subst hln
   go_wp2_with (go_at_call 89;refine CK.out.mono ?_;rintro e w1 ⟨⟨er,ea,rfl,he⟩,hb1⟩;have he0:=he.2 HPB.out;subst he0;have B1:=hid hb1;clear hb1 he)
   exact bodyPost_ret (v:=.bool true) (by simp[results,Tryz.results40,go_sem]) rfl ⟨by rw[HAS.out];rfl,B1.out⟩
  ·have hlb:(l==[])=false:=beq_eq_false_iff_ne.2 hln;rw[hlb]at HAS
   obtain⟨N,hN⟩:∃N,N=(Hp R.par l).length:=⟨_,rfl⟩
   have HNB:=hid (show decide (0<N)=Qj l by
    have:=CL.out
    rw[←hN]at this
    cases hb:Qj l with
    |true=>exact decide_eq_true (this.2 hb)
    |false=>exact decide_eq_false (fun h=>by rw[this.1 h]at hb;cases hb))
   have HN:=hid hN;have hN0:(0:Int)≤(N:Int):=by omega
   clear hN CL hln
   go_wp2_with (first
    |(go_at_call 89;refine CK.out.mono ?_;rintro e w1 ⟨⟨er,ea,rfl,he⟩,hb1⟩;have he0:=he.2 HPB.out;subst he0;have B1:=hid hb1;have HB1:=hid (bk hb1 HB.out);clear hb1 he;obtain⟨a0,a1,a2,a3,al⟩:=Jm HB1.out)
    |(go_at_call 90;refine(CH.out _ B1.out).mono ?_;rintro e w2 ⟨vv,rfl,ho,hb2⟩;obtain⟨av,cv,rfl⟩:=Zc ho;rw[←HN.out];have B2:=hid (B1.out.then hb2);clear ho hb2))
   exact bodyPost_ret (v:=.bool (decide (0<N))) (by simp[results,Tryz.results40,go_sem]) rfl ⟨by rw[HAS.out,HNB.out];rfl,B2.out⟩
end
section
open Go.RowKit Go.Lib Go.Maps
def Qqh (K:List Str)(p:Str):List Str:=if p∈K then K else K++[p]
def Qsh (K pile:List Str)(p:Str):List Str:=if p∈K then pile else pile++[p]
theorem Qqg {α:Type}{E:El α}{W:World}{base size n km n2:Nat}{e:TypeId}{v:Value}{xs:List Value}{L:List (Str×α)}(h:W.ownsRow base e size v n xs)(hm:Zm E W km n2 L):v.ownBlock=none∨v.ownBlock≠some km:=by
 rcases h.2 with ⟨rfl,_⟩|⟨g,cap,cur,rfl,_,hg,_⟩
 ·exact Or.inl rfl
 ·refine Or.inr fun e=>?_
  cases e
  obtain⟨es,ck,h2⟩:=hm.isMap
  rw[hg]at h2;cases h2
structure LrM (w W:World)(rb km Rb Pb:Nat)(cs:Array Value)(K:List Str)(pv:Value)(pile:List Str):Prop where
 r0:W.heap[Rb]?=some (.cells #[.pointer (some ⟨rb,0,none⟩)] 24 (0,0))
 pb:W.heap[Pb]?=some (.cells #[pv] 28 (0,0))
 ps:Qt W w.heap.size pv pile
 mp:Zm Yy W km K.length (Jw K)
 on:w.grownBy W (some km)
 rs:W.heap[rb]?=some (.cells cs 75 (0,0))
 lr:w.heap.size≤Rb
 lp:w.heap.size≤Pb
 kl:km<w.heap.size
 nd:K.Nodup
def LrK (W W':World)(km Pb:Nat)(pv pv':Value):Prop:=W.heap.size≤W'.heap.size∧∀k,k<W.heap.size→k≠km→k≠Pb→pv.ownBlock≠some k→W'.heap[k]?=W.heap[k]?∧pv'.ownBlock≠some k
section
variable {w W W' : World}{rb km Rb Pb:Nat}{cs:Array Value}{K pile:List Str}{pv:Value}
theorem LrM.below (h:LrM w W rb km Rb Pb cs K pv pile)(hb:Below W.heap.size W W'):LrM w W' rb km Rb Pb cs K pv pile :=
 ⟨bk hb h.r0,bk hb h.pb,Qz h.ps hb,h.mp.below hb,⟨hb.os.trans h.on.os,hb.tape.trans h.on.tape,hb.output.trans h.on.output,Nat.le_trans h.on.size hb.size,fun k hk hne=>(hb.block k (Nat.lt_of_lt_of_le hk h.on.size)).trans (h.on.block k hk hne)⟩,bk hb h.rs,h.lr,h.lp,h.kl,h.nd⟩
theorem Xxh {Bt va vc:Value}(h:LrM w W rb km Rb Pb #[Bt,vc,va,.map (some km)] K pv pile)(p:Str)(hp:p.length≤maxLen)(hK:K.length≤1000000)(hl:pile.length≤1000000) :
  Calls Tryz.prog 119 #[.string ⟨p.toArray⟩,.pointer (some ⟨Rb,0,none⟩),.pointer (some ⟨Pb,0,none⟩)] W fun x w'=>x=.returned (.tuple #[])∧∃pv',LrM w w' rb km Rb Pb #[Bt,vc,va,.map (some km)] (Qqh K p) pv' (Qsh K pile p)∧LrK W w' km Pb pv pv':=by
 obtain⟨a0,a1,a2,a3,al⟩:=Jm h.rs
 have r0:W.cell? ⟨Rb,0,none⟩=some (.pointer (some ⟨rb,0,none⟩)):=cR h.r0;have rl:=lt_of_block h.r0;have H:=hid h
 by_cases hm:p∈K
 ·have HF:=hid (show Qqh K p=K∧Qsh K pile p=pile by unfold Qqh Qsh;rw[if_pos hm,if_pos hm];exact⟨rfl,rfl⟩);have HLK:=hid (show Zb (Jw K) p=some true by rw[Gb,if_pos hm]);clear h hm
  go_enter Tryz.func119,Tryz.ntmps119
  go_wp2_with (at_lookup;refine Yv (E:=Yy) H.out.mp Tryz.underlying73 Qjh rfl _ _ rfl rfl p rfl hp (.bool true) (by rw[HLK.out];rfl) ?_)
  refine bodyPost_end (v:=.tuple #[]) (by simp[results,Tryz.results119,go_sem]) rfl ?_
  exact⟨rfl,pv,by rw[HF.out.1,HF.out.2];exact H.out,Nat.le_refl _,fun k _ _ _ h=>⟨rfl,h⟩⟩
 ·have HF:=hid (show Qqh K p=K++[p]∧Qsh K pile p=pile++[p]by unfold Qqh Qsh;rw[if_neg hm,if_neg hm];exact⟨rfl,rfl⟩);have HLK:=hid (show Zb (Jw K) p=none by rw[Gb,if_neg hm]);have HM:=hid hm;clear h hm;have HWS:=hid H.out.on.size
  go_enter Tryz.func119,Tryz.ntmps119
  go_wp2_with (first
   |(at_lookup;refine Yv (E:=Yy) H.out.mp Tryz.underlying73 Qjh rfl _ _ rfl rfl p rfl hp (.bool false) (by rw[HLK.out];rfl) ?_)
   |(at_mapUpdate;refine Sp (E:=Yy) H.out.mp (by unfold maxLen;omega) Tryz.underlying73 rfl _ _ _ rfl rfl p rfl hp true rfl HLK.out ?_;intro w3 ho3 hg3;have HO3:=hid ho3;have HG3:=hid hg3;have P3:=hid (Kk H.out.pb H.out.mp hg3);have p0:w3.cell? ⟨Pb,0,none⟩=some pv:=(by rw[cell_of_row _ _ _ _ _ _ P3.out];rfl);have pf:=frozen_of_row _ _ 0 _ _ P3.out;have pl:=lt_of_block P3.out;clear ho3 hg3 a0 a1 a2 a3 al r0 rl)
   |(at_builtin;refine Zz rfl (.tmp 16) (.tmp 18) rfl w.heap.size pv pile p rfl (World.ownsRow.kept H.out.ps HG3.out (Qqg H.out.ps H.out.mp)) rfl hl (Nat.le_trans HWS.out HG3.out.size) ?_;intro pv' w4 own4 gr4 mv4;obtain⟨a',c',rfl⟩:=Zc own4;rw[show(pile++[p]).length=pile.length+1 from by simp]at own4 mv4;have O4:=hid own4;have G4:=hid gr4;have MV4:=hid mv4;have PB4:=hid ((gr4.block _ (lt_of_block P3.out) (fun e=>Qx H.out.ps H.out.pb (by decide) e.symm)).trans P3.out);clear own4 gr4 mv4 p0 pf pl;have p0:w4.cell? ⟨Pb,0,none⟩=some pv:=(by rw[cell_of_row _ _ _ _ _ _ PB4.out];rfl);have pf:=frozen_of_row _ _ 0 _ _ PB4.out;have pl:=lt_of_block PB4.out))
  refine bodyPost_end (v:=.tuple #[]) (by simp[results,Tryz.results119,go_sem]) rfl ?_
  refine⟨rfl,.slice a' (pile.length+1) c',?_⟩
  rw[HF.out.1,HF.out.2];have nx:∀{k:Nat}{c:Array Value}{ty:TypeId},W.heap[k]?=some (.cells c ty (0,0))→9≠ty→w4.heap[k]?=some (.cells c ty (0,0)):=fun {k c ty} hk ht=>by
   have h3:=Kk hk H.out.mp HG3.out
   exact(G4.out.block _ (lt_of_block h3) (fun e=>Qx (World.ownsRow.kept H.out.ps HG3.out (Qqg H.out.ps H.out.mp)) h3 ht e.symm)).trans h3
  have hrp:Rb≠Pb:=fun e=>by
   have h1:=H.out.r0;rw[e,H.out.pb]at h1
   have:=Option.some.inj h1
   injection this with _ e2 _
   revert e2
   decide
  have hsp:rb≠Pb:=fun e=>by
   have h1:=H.out.rs;rw[e,H.out.pb]at h1
   have:=Option.some.inj h1
   injection this with _ e2 _
   revert e2
   decide
  have hkp:km≠Pb:=fun e=>by
   obtain⟨es,ck,h2⟩:=H.out.mp.isMap
   rw[e,H.out.pb]at h2
   cases h2
  have hkv:(w4.setCell ⟨Pb,0,none⟩ (.slice a' (pile.length+1) c')).heap[km]?=w3.heap[km]?:=by
   rw[heap_setCell_other _ _ _ _ hkp];refine G4.out.block _ HO3.out.lt (fun e=>?_)
   rcases Qqg H.out.ps H.out.mp with h|h
   ·rw[h]at e;cases e
   ·exact h e.symm
  refine⟨?_,by simpa using Nat.le_trans HG3.out.size G4.out.size,fun k hk h1 h2 h3=>⟨by rw[heap_setCell_other _ _ _ _ h2,G4.out.block k (Nat.lt_of_lt_of_le hk HG3.out.size) (fun e=>h3 e.symm),HG3.out.block k hk (fun e=>h1 (Option.some.inj e))],fun e=>?_⟩⟩
  rotate_left
  ·rcases MV4.out with m|⟨j,h4,h5⟩
   ·exact h3 (m.symm.trans e)
   ·rw[h4]at e
    cases e
    have:=HG3.out.size
    omega
  refine⟨(heap_setCell_other _ _ _ _ hrp).trans (nx H.out.r0 (by decide)),by rw[heap_setCell_same _ _ _ _ _ _ PB4.out];rfl,Qb O4.out (Qx O4.out PB4.out (by decide)) 0 _,?_,?_,(heap_setCell_other _ _ _ _ hsp).trans (nx H.out.rs (by decide)),H.out.lr,H.out.lp,H.out.kl,?_⟩
  ·have:=HO3.out.block hkv
   rw[List.length_append,List.length_singleton,show Jw (K++[p])=Jw K++[(p,true)]from by simp[Jw]];exact this
  ·have h1:=H.out.on;have h2:=HG3.out;have h3:=G4.out
   refine⟨h3.os.trans (h2.os.trans h1.os),h3.tape.trans (h2.tape.trans h1.tape),h3.output.trans (h2.output.trans h1.output),by simpa using Nat.le_trans h1.size (Nat.le_trans h2.size h3.size),fun k hk hne=>?_⟩
   have hkW:=Nat.lt_of_lt_of_le hk h1.size;rw[heap_setCell_other _ _ _ _ (fun e=>by have:=H.out.lp;simp only at e;omega),h3.block k (Nat.lt_of_lt_of_le hkW h2.size) (fun e=>by have:=(World.ownsRow.lt H.out.ps k e.symm).1;omega),h2.block k hkW hne];exact h1.block k hk hne
  ·rw[List.nodup_append]
   exact⟨H.out.nd,by simp,fun a ha b hb e=>HM.out (by simp at hb;rw[←hb,←e];exact ha)⟩
end
end
section
open Go.RowKit Go.Lib Go.Maps
structure Rg (D:List Al)(S:List Str)(K pile:List Str)(cur:Option (Str×Nat)):Prop where
 gen:∀p∈K,Gen D S p
 base:∀p∈S,p∈K
 pk:∀p∈pile,p∈K
 closed:∀p∈K,p ∉ pile→(∀c u,cur=some (c,u)→p≠c)→∀a∈D,∀q,Bk p a=some q→q∈K
 part:∀c u,cur=some (c,u)→c∈K∧∀a∈D.take u,∀q,Bk c a=some q→q∈K
section
variable {D:List Al}{S K pile:List Str}{c q:Str}{u:Nat}
theorem Rg.start (h1:∀p∈K,p∈S)(h2:∀p∈S,p∈K):Rg D S K K none :=
 ⟨fun p hp=>.base (h1 p hp),h2,fun p hp=>hp,fun p hp hn=>absurd hp hn,fun c u e=>by cases e⟩
theorem Rg.pop {m:Nat}(h:Rg D S K pile none)(hm:pile.length=m+1)(hc:pile[m]?=some c):Rg D S K (pile.take m) (some (c,0)):=by
 have e:pile=pile.take m++[c]:=by
  have h1:m<pile.length:=by omega
  rw[List.getElem?_eq_getElem h1]at hc;rw[←Option.some.inj hc,←List.take_succ_eq_append_getElem h1,List.take_of_length_le (by omega)]
 refine⟨h.gen,h.base,fun p hp=>h.pk p (List.mem_of_mem_take hp),fun p hp hn hne a ha q hq=>?_,fun c' u e'=>?_⟩
 ·refine h.closed p hp (fun hx=>?_) (fun _ _ e=>by cases e) a ha q hq;rw[e]at hx
  rcases List.mem_append.1 hx with hx|hx
  ·exact hn hx
  ·exact hne c 0 rfl (List.mem_singleton.1 hx)
 ·cases e'
  exact⟨h.pk _ (by rw[e];simp),fun a ha=>by simp at ha⟩
theorem Rg.none_ (h:Rg D S K pile (some (c,u)))(hu:u<D.length)(hn:Bk c D[u]=none):Rg D S K pile (some (c,u+1)):=by
 refine⟨h.gen,h.base,h.pk,fun p hp hx hne=>h.closed p hp hx (fun c' u' e=>by cases e;exact hne _ _ rfl),fun c' u' e=>?_⟩
 cases e
 obtain⟨h1,h2⟩:=h.part _ _ rfl
 refine⟨h1,fun a ha q hq=>?_⟩
 rw[List.take_succ_eq_append_getElem hu]at ha
 rcases List.mem_append.1 ha with ha|ha
 ·exact h2 a ha q hq
 ·rw[List.mem_singleton.1 ha,hn]at hq;cases hq
theorem Rg.add (h:Rg D S K pile (some (c,u)))(hu:u<D.length)(hq:Bk c D[u]=some q):Rg D S (Qqh K q) (Qsh K pile q) (some (c,u+1)):=by
 obtain⟨h1,h2⟩:=h.part _ _ rfl
 unfold Qqh Qsh
 by_cases hk:q∈K
 ·rw[if_pos hk,if_pos hk]
  refine⟨h.gen,h.base,h.pk,fun p hp hx hne=>h.closed p hp hx (fun c' u' e=>by cases e;exact hne _ _ rfl),fun c' u' e=>?_⟩
  cases e
  refine⟨h1,fun a ha q' hq'=>?_⟩
  rw[List.take_succ_eq_append_getElem hu]at ha
  rcases List.mem_append.1 ha with ha|ha
  ·exact h2 a ha q' hq'
  ·rw[List.mem_singleton.1 ha,hq]at hq';cases hq';exact hk
 ·rw[if_neg hk,if_neg hk]
  refine⟨fun p hp=>?_,fun p hp=>List.mem_append_left _ (h.base p hp),fun p hp=>?_,fun p hp hx hne a ha q' hq'=>?_,fun c' u' e=>?_⟩
  ·rcases List.mem_append.1 hp with hp|hp
   ·exact h.gen p hp
   ·rw[List.mem_singleton.1 hp];exact .step (h.gen c h1) (List.getElem_mem hu) hq
  ·rcases List.mem_append.1 hp with hp|hp
   ·exact List.mem_append_left _ (h.pk p hp)
   ·exact List.mem_append_right _ hp
  ·rcases List.mem_append.1 hp with hp|hp
   ·exact List.mem_append_left _ (h.closed p hp (fun hx'=>hx (List.mem_append_left _ hx')) (fun c' u' e=>by cases e;exact hne _ _ rfl) a ha q' hq')
   ·exact absurd (List.mem_append_right _ hp) hx
  ·cases e
   refine⟨List.mem_append_left _ h1,fun a ha q' hq'=>?_⟩
   rw[List.take_succ_eq_append_getElem hu]at ha
   rcases List.mem_append.1 ha with ha|ha
   ·exact List.mem_append_left _ (h2 a ha q' hq')
   ·rw[List.mem_singleton.1 ha,hq]at hq';cases hq';simp
theorem Rg.fin (h:Rg D S K pile (some (c,u)))(hu:u=D.length):Rg D S K pile none:=by
 subst hu
 obtain⟨h1,h2⟩:=h.part _ _ rfl
 rw[List.take_length]at h2
 refine⟨h.gen,h.base,h.pk,fun p hp hx _ a ha q hq=>?_,fun c' u' e=>by cases e⟩
 by_cases hpc:p=c
 ·subst hpc;exact h2 a ha q hq
 ·exact h.closed p hp hx (fun c' u' e=>by cases e;exact hpc) a ha q hq
theorem Rg.known (h:Rg D S K [] none)(hn:K.Nodup):En D S K :=
 ⟨hn,h.gen,h.base,fun p hp a ha q hq=>h.closed p hp (by simp) (fun _ _ e=>by cases e) a ha q hq⟩
theorem addK_len (K:List Str)(q:Str):(Qqh K q).length=K.length∧Qsh K pile q=pile∨(Qqh K q).length=K.length+1∧(Qsh K pile q).length=pile.length+1:=by
 unfold Qqh Qsh
 by_cases hk:q∈K
 ·rw[if_pos hk,if_pos hk];exact Or.inl ⟨rfl,rfl⟩
 ·rw[if_neg hk,if_neg hk];exact Or.inr ⟨by simp,by simp⟩
theorem Qzq {K:List Str}{p x:Str}:x∈Qqh K p↔x∈K∨x=p:=by
 unfold Qqh
 by_cases hk:p∈K
 ·rw[if_pos hk];exact⟨Or.inl,fun h=>h.elim id (fun e=>e▸hk)⟩
 ·rw[if_neg hk];simp
theorem gen_len (hs:∀p∈S,p.length≤maxLen){p:Str}(g:Gen D S p):p.length≤maxLen:=by
 cases g with
 |base h=>exact hs _ h
 |step _ _ h =>
  obtain⟨l,hl⟩:=Option.isSome_iff_exists.1 (Qnk h)
  have h1:=Zy hl;have h2:=h1.2.2.2.1;rw[h1.2.2.2.2]at h2;unfold maxLen
  omega
end
theorem own_take {W:World}{B k n m c:Nat}{e:TypeId}{a:Option Addr}{xs:List Value}(h:W.ownsRow B e k (.slice a n c) n xs)(hm:m≤n)(hn:0<n):W.ownsRow B e k (.slice a m c) m (xs.take (m * k)):=by
 obtain⟨hl,h2⟩:=h
 rcases h2 with ⟨e1,e2⟩|⟨g,cap,cur,e1,hB,hg,hnc,hcm,hs,ht⟩
 ·omega
 ·cases e1;have hmk:m * k≤n * k:=Nat.mul_le_mul_right k hm
  refine⟨by rw[List.length_take,hl,Nat.min_eq_left hmk],Or.inr ⟨g,c,cur,rfl,hB,hg,by omega,hcm,hs,?_⟩⟩
  rw[←ht,List.take_take,Nat.min_eq_left hmk]
theorem Xbv {W W':World}{B k n:Nat}{e:TypeId}{v:Value}{xs:List Value}(h:W.ownsRow B e k v n xs)(hk:∀g,v.ownBlock=some g→W'.heap[g]?=W.heap[g]?):W'.ownsRow B e k v n xs:=by
 refine⟨h.1,?_⟩
 rcases h.2 with h|⟨g,cap,cur,rfl,hB,hg,rest⟩
 ·exact Or.inl h
 ·exact Or.inr ⟨g,cap,cur,rfl,hB,(hk g rfl).trans hg,rest⟩
def ApS (pv v:Value):Prop:=∀g,v.ownBlock=some g→pv.ownBlock≠some g
theorem Zmx {W W':World}{km Pb B k n n2:Nat}{e:TypeId}{pv pv' v:Value}{xs:List Value}{L:List (Str×Bool)}{cs:Array Value}(h:W.ownsRow B e k v n xs)(hk:LrK W W' km Pb pv pv')(ha:ApS pv v)(hm:Zm Yy W km n2 L)(hp:W.heap[Pb]?=some (.cells cs 28 (0,0)))(he:e≠28):W'.ownsRow B e k v n xs∧ApS pv' v:=by
 have key:∀g,v.ownBlock=some g→W'.heap[g]?=W.heap[g]?∧pv'.ownBlock≠some g:=fun g hg=>by
  refine hk.2 g (World.ownsRow.lt h g hg).2 ?_ ?_ (ha g hg)
  ·rintro rfl
   rcases Qqg h hm with h1|h1
   ·rw[h1]at hg;cases hg
   ·exact h1 hg
  ·rintro rfl;exact Qx h hp he hg
 exact⟨Xbv h fun g hg=>(key g hg).1,fun g hg=>(key g hg).2⟩
end
section
open Go.RowKit Go.Lib Go.Sort Go.Maps Go.WideMaps Go.Shelf
attribute [local go_sem] Oper.semAt_some
theorem del_steps {W W':World}{B g0 n cp x g c:Nat}{zs:List (Stp×(Option Addr×Nat))}{ks':List (Str×Str)}(h:Qg Qm 82 W B (.slice (some ⟨g0,0,none⟩) n cp) zs)(hn:n=zs.length)(he:∀z∈zs,Qd W B (Qr z) z.1.2)(hd:zs.Pairwise Zrx)
  (hx:x<zs.length)(hz:(zs[x]'hx).2=(some ⟨g,0,none⟩,c))(ho:Qd W' B (.slice (some ⟨g,0,none⟩) ks'.length c) ks')(hg:W.grownBy W' (some g)) :
  g0≠g∧Qg Qm 82 W' B (.slice (some ⟨g0,0,none⟩) n cp) zs∧Qg Qm 82 (W'.setCell ⟨g0,x * 2+1,none⟩ (.slice (some ⟨g,0,none⟩) ks'.length c)) B (.slice (some ⟨g0,0,none⟩) n cp) (zs.set x (((zs[x]'hx).1.1,ks'),(some ⟨g,0,none⟩,c)))∧
   (∀z∈zs.set x (((zs[x]'hx).1.1,ks'),(some ⟨g,0,none⟩,c)),Qd (W'.setCell ⟨g0,x * 2+1,none⟩ (.slice (some ⟨g,0,none⟩) ks'.length c)) B (Qr z) z.1.2)∧(zs.set x (((zs[x]'hx).1.1,ks'),(some ⟨g,0,none⟩,c))).Pairwise Zrx:=by
 obtain⟨cur,hcur⟩:=h.row
 have hkx:Qr (zs[x]'hx)=.slice (some ⟨g,0,none⟩) (zs[x]'hx).1.2.length c:=by unfold Qr;rw[hz]
 have hne:∀z∈zs,(Qr z).ownBlock≠some g0:=fun z hz' e=>by
  rcases Qd.shape (he z hz')with ⟨e1,_⟩|⟨g',cap,cur',e1,_,hg',_⟩
  ·rw[e1]at e;cases e
  ·rw[e1]at e;obtain rfl:g'=g0:=Option.some.inj e;rw[hcur]at hg';cases hg'
 have hg0:g0≠g:=fun e=>hne _ (List.getElem_mem hx) (by rw[hkx,e];rfl)
 have hb0:W'.heap[g0]?=W.heap[g0]?:=hg.block g0 (lt_of_block hcur) (fun e=>hg0 (Option.some.inj e));have h1:Qg Qm 82 W' B (.slice (some ⟨g0,0,none⟩) n cp) zs:=Xbv h fun k hk=>by
  obtain rfl:g0=k:=Option.some.inj hk;exact hb0
 have hdis:∀j (hj:j<zs.length),j≠x→(Qr (zs[j]'hj)).ownBlock≠some g:=fun j hj hjx e=>by
  have hp:=List.pairwise_iff_getElem.1 hd
  rcases Nat.lt_or_gt_of_ne hjx with hlt|hlt
  ·exact hp j x hj hx hlt g e (by rw[hkx];rfl)
  ·exact hp x j hx hj hlt g (by rw[hkx];rfl) e
 refine⟨hg0,h1,h1.set hn x 1 hx (by decide) _ _ ?_ rfl,fun z hz'=>?_,?_⟩
 ·simp[Qm]
 ·obtain⟨j,hj,rfl⟩:=List.getElem_of_mem hz'
  rw[List.length_set]at hj;rw[List.getElem_set]
  split
  ·next e=>exact Qb ho (fun e'=>hg0 (Option.some.inj e').symm) _ _
  ·next e =>
   have hjx:j≠x:=fun e'=>e e'.symm
   refine Qb (Xbv (he _ (List.getElem_mem hj)) fun k hk=>hg.block k ?_ fun e'=>hdis j hj hjx (by rw[hk,e'])) (hne _ (List.getElem_mem hj)) _ _
   exact(World.ownsRow.lt (he _ (List.getElem_mem hj)) k hk).2
 ·rw[List.pairwise_iff_getElem];have hp:=List.pairwise_iff_getElem.1 hd;intro i j hi hj hij;rw[List.length_set]at hi hj;rw[List.getElem_set,List.getElem_set];have hkz:(Qr ((((zs[x]'hx).1.1,ks'),(some ⟨g,0,none⟩,c)):Stp×(Option Addr×Nat))).ownBlock=some g:=rfl
  split
  ·next e =>
   rw[if_neg (by omega)];intro k hk e2;rw[hkz]at hk;exact hdis j hj (by omega) (by rw[e2,hk])
  ·next e =>
   split
   ·next e' =>
    intro k hk e2;rw[hkz]at e2;exact hdis i hi (by omega) (by rw[hk,e2])
   ·exact hp i j hi hj hij
theorem Zhk {m i:Nat}(h:i<m):(Dl m)[i]?=some (m-1-i):=by
 have hl:i<(Dl m).length:=by rw[Ns];exact h
 rw[List.getElem?_eq_getElem hl]
 simp[Dl,List.getElem_reverse]
theorem Zhv {m n:Nat}{pre:List Nat}(h:pre++[n] <+: Dl m)(hm:n<m):∀k,n<k→k<m→k∈pre:=fun k h1 h2=>by
 have hlen:=h.length_le;rw[Ns,List.length_append,List.length_singleton]at hlen
 obtain⟨t,ht⟩:=h
 have e0:(Dl m)[pre.length]?=some n:=by rw[←ht];simp
 rw[Zhk (by omega)]at e0;have e0':=Option.some.inj e0;have e1:=Zhk (m:=m) (i:=m-1-k) (by omega);rw[←ht,List.append_assoc,List.getElem?_append_left (by omega)]at e1;have hk:m-1-(m-1-k)=k:=by omega
 rw[hk]at e1;exact List.mem_of_getElem? e1
theorem Xxg {m:Nat}{xs:List Nat}(h:xs=Dl m):∀k,k<m→k∈xs:=fun k hk=>by
 rw[h]
 simp[Dl,hk]
def Xrq (l:List (Str×Str))(key:Str)(i:Nat):Prop:=∃hi:i<l.length,(l[i]'hi).1=key∧∀j (hj:j<i),(l[j]'(Nat.lt_trans hj hi)).1≠key
theorem idxK_at (l:List (Str×Str))(key:Str):(Xqw l key=-1∧∀k∈l,k.1≠key)∨∃n:Nat,Xqw l key=(n:Int)∧Xrq l key n:=by
 rcases Qrx l key with h|⟨n,hn,h1,h2,h3⟩
 ·exact Or.inl h
 ·exact Or.inr ⟨n,h1,hn,h2,h3⟩
def Zj (p key:Str):Str×Bool:=match Qh p key with
 |some q=>(q,true)
 |none=>(if Zv p=true then p else [],false)
theorem Qzz {p key:Str}(h:Qy p=none):Zj p key=([],false):=by
 have hb:Zv p=false:=by unfold Zv;rw[h];rfl
 unfold Zj Qh;rw[h]
 simp[hb]
theorem Mg {p key:Str}{l:List Stp}(h:Qy p=some l)(hn:∀x∈l,Jy x key=false):Zj p key=(p,false):=by
 have hb:Zv p=true:=by unfold Zv;rw[h];rfl
 unfold Zj Qh Tz;rw[h,Option.bind_some,Qkv hn]
 simp[hb]
theorem Qhx {p key:Str}{l:List Stp}(h:Qy p=some l){n:Nat}(hn:n<l.length)(h1:Jy (l[n]'hn) key=true)(h2:∀m (hm:m<l.length),n<m→Jy (l[m]'hm) key=false):Zj p key=(Zk (l.set n (Hq (l[n]'hn) key)),true):=by
 unfold Zj Qh Tz;rw[h,Option.bind_some,Qgw hn h1 h2,Option.bind_some,Ms h hn]
end
section
open Go.RowKit Go.Lib
theorem Zmj {α:Type}{l:List α}{n:Nat}(hn:n<l.length)(x:α):l.take n++[x]++l.drop (n+1)=l.set n x:=by
 rw[List.set_eq_take_append_cons_drop,if_pos hn];simp
theorem Qsg {p:Str}{l:List Stp}(h:Qy p=some l){x:Stp}(hx:x∈l):x.2.length≤512:=by
 obtain⟨h1,h2,h3,h4,h5⟩:=Zy h
 obtain⟨n,hn,rfl⟩:=List.getElem_of_mem hx
 exact Nat.le_trans (Qfq _) (Nat.le_trans (Qqj hn) h4)
theorem Zmk (w:World)(p key:Str)(hp:p.length≤maxLen) :
  Calls Tryz.prog 31 #[.string ⟨p.toArray⟩,.string ⟨key.toArray⟩] w fun e w'=>e=.returned (.tuple #[.string ⟨(Zj p key).1.toArray⟩,.bool (Zj p key).2])∧Below w.heap.size w w':=by
 have PRS:=hid (Ty p w hp);clear hp
 go_enter Tryz.func31,Tryz.ntmps31
 go_wp2_with fail;refine PRS.out.mono ?_;rintro e w1 ⟨hpo,hb1⟩;have B1:=hid hb1;clear hb1 PRS
 rcases hpo with ⟨l,v,hpl,rfl,ho⟩|⟨hpn,er,a,hne,rfl⟩
 ·obtain⟨zs,hzl,ho1,ho2,_⟩:=ho
  have HPL:=hid hpl;have HZL:=hid hzl;have HLZ:=hid (show zs.length=l.length by rw[←hzl,List.length_map]);have OL:=hid ho1;have OE:=hid ho2
  obtain⟨al,cl,rfl,hcl⟩:=ho1.slice
  rw[HLZ.out]at OL hcl ⊢;have HL64:=hid (show l.length≤64 from(Zy hpl).2.2.1);have HCL:=hid hcl;clear ho1 ho2 hzl hpl hcl;have HB2:=hid (bal w1 (.cells #[.int .i64 0,.int .i64 0] 78));have S2:=hid (heap_alloc_new w1 (.cells #[.int .i64 0,.int .i64 0] 78));go_upto_region 2 with fail;generalize w1.alloc (.cells #[.int .i64 0,.int .i64 0] 78)=w2 at *
  obtain⟨s0,s1,_,_,sl⟩:=Qq S2.out
  have hl64:(l.length:Int)≤64:=by have:=HL64.out;omega
  have hl0:(0:Int)≤(l.length:Int):=by omega
  go_wp2_with fail;clear s0 s1 sl
  go_loopg[8] l.length (fun g v8 W=>∃a:Nat,a≤l.length∧a≤g∧v8=.int .i64 ((a:Int)-1)∧(∀m (hm:m<l.length),a≤m→Jy (l[m]'hm) key=false)∧Below w2.heap.size w2 W)
  case atStart=>exact⟨l.length,Nat.le_refl _,Nat.le_refl _,rfl,fun m hm h=>absurd h (by omega),Below.refl _ _⟩
  case round =>
   obtain⟨a,ha,hg,rfl,hno,hb⟩:=hrel
   rename World=>w3
   have HG:=hid hg;have HNO:=hid hno;have B3:=hid hb;clear hg hno hb
   cases a with
   |zero =>
    have HW:=hid (Mg (key:=key) HPL.out (fun x hx=>by obtain⟨n,hn,rfl⟩:=List.getElem_of_mem hx;exact HNO.out n hn (Nat.zero_le _)));have BE:=hid (B1.out.then (HB2.out.then B3.out));go_wp2_with fail;exact bodyPost_ret (v:=.tuple #[.string ⟨p.toArray⟩,.bool false]) (by simp[results,Tryz.results31,go_sem]) rfl ⟨by rw[HW.out],BE.out⟩
   |succ i =>
    have hil:i<l.length:=by omega
    have hiz:i<zs.length:=by rw[HLZ.out];exact hil
    have hii:(i:Int)<(l.length:Int):=by omega
    have hi0:(0:Int)≤(i:Int):=by omega
    have HCI:=hid (show((i+1:Nat):Int)-1=(i:Int)by omega);rw[HCI.out];have B23:=hid (HB2.out.then B3.out);have hso:=OL.out.below B23.out
    obtain⟨gs,rfl⟩:=Qg.some' hso (by intro e;rw[e]at hiz;simp at hiz)
    obtain⟨r0,_,gl⟩:=hso.cell i 0 (.string ⟨(zs[i]'hiz).1.1.toArray⟩) hiz rfl
    obtain⟨r1,_,_⟩:=hso.cell i 1 (.slice (zs[i]'hiz).2.1 (zs[i]'hiz).1.2.length (zs[i]'hiz).2.2) hiz rfl
    rw[Nat.add_zero]at r0;have HRK:=hid (show RdP w3 (Qr (zs[i]'hiz)) (zs[i]'hiz).1.2 from((Qd.rd (OE.out _ (List.getElem_mem hiz))).below B23.out));have HZI:=hid (show(zs[i]'hiz).1=l[i]'hil from by simp only[←HZL.out,List.getElem_map]);have HK5:=hid (show(zs[i]'hiz).1.2.length≤512 from by rw[HZI.out];exact Qsg HPL.out (List.getElem_mem hil));have OLs:=hid hso;clear hso;generalize zs[i]'hiz=z at *
    obtain⟨⟨n,ks⟩,⟨ak,ck⟩⟩:=z
    simp only at r0 r1 HK5 HZI;have TK:=hid (Zwg w3 n key ks _ HRK.out (by have:=HK5.out;omega));have HTL:=hid (show decide ((ks.filter fun k=>k.1 != key).length<ks.length)=Jy (l[i]'hil) key from by rw[←HZI.out];exact Xnx (x:=(n,ks)));rw[HTL.out]at TK
    obtain⟨ks',hks'⟩:∃ks',ks'=ks.filter fun k=>k.1 != key:=⟨_,rfl⟩
    rw[←hks']at TK;have HTS:=hid (show Hq (l[i]'hil) key=(n,ks')from by rw[←HZI.out,hks'];rfl);have HWA:=hid (fun(h:Jy (l[i]'hil) key=true)=>Qhx (key:=key) HPL.out hil h (fun m hm hlt=>HNO.out m hm hlt));have HNS:=hid (fun(h:Jy (l[i]'hil) key=false)=>(show ∀m (hm:m<l.length),i≤m→Jy (l[m]'hm) key=false from fun m hm hle=>by
     by_cases e:m=i
     ·subst e;exact h
     ·exact HNO.out m hm (by omega)))
    clear hks' HTL;generalize Jy (l[i]'hil) key=ok at *;go_wp2_with fail;refine TK.out.mono ?_;rintro e w4 ⟨a4,c4,rfl,ho4,hb4⟩;have O4:=hid ho4;have B4:=hid (B3.out.then hb4);have B34:=hid hb4;clear ho4 hb4 TK r0 r1 gl;have HB5:=hid (bal w4 (.cells #[.string ⟨n.toArray⟩,.slice a4 ks'.length c4] 82));have X5:=hid (heap_alloc_new w4 (.cells #[.string ⟨n.toArray⟩,.slice a4 ks'.length c4] 82));go_upto_region 8 with fail;generalize w4.alloc (.cells #[.string ⟨n.toArray⟩,.slice a4 ks'.length c4] 82)=w5 at *
    cases ok with
    |false =>
     have BR:=hid (B4.out.then HB5.out);go_wp2_with fail
     go_roundg (gk-1)
     case measure=>have:=HG.out;omega
     case rel=>exact⟨i,by omega,by have:=HG.out;omega,by simp,HNS.out (by first|rfl|trivial),BR.out⟩
    |true =>
     have OL5:=hid (OLs.out.below (B34.out.then HB5.out));have B5:=hid (B4.out.then HB5.out);have D5:=hid ((Qz O4.out HB5.out:Qd w5 _ _ ks'));have XLT:=hid (lt_of_block X5.out);have HXW:=hid (show w4.heap.size<w5.heap.size from lt_of_block X5.out);clear HB5 B4 B34 OLs;generalize w4.heap.size=Xb at *
     obtain⟨x0,x1,xf0,xf1,xl⟩:=Qq X5.out
     have RT:=hid (RdL.take OL5.out.rd i (by rw[HLZ.out];omega));have HTL:=hid (show(zs.take i).length=i by rw[List.length_take,HLZ.out];omega)
     obtain⟨z',hz'⟩:∃z':Stp×(Option Addr×Nat),z'=((n,ks'),(a4,c4)):=⟨_,rfl⟩
     obtain⟨L2,hL2⟩:∃L2,L2=zs.take i++[z']:=⟨_,rfl⟩
     have HL2:=hid hL2;have HL2n:=hid (show L2.length=i+1 by rw[hL2,List.length_append,HTL.out];rfl);have HZ':=hid hz';have hm2:(i:Int)≤(cl:Int):=by have:=HCL.out;omega
     clear hL2 hz';have hS0:Below w5.heap.size w5 w5.drew:=(Below.refl _ _).drew;go_upto_region 9 with fail
     go_cut[11]from 39 to 47 (fun v11 wx=>∃a c,v11=.slice a (i+1) c∧Qg Qm 82 wx w5.heap.size (.slice a (i+1) c) L2∧Below w5.heap.size w5 wx)
     case first =>
      have HRW:=hid (fun(W:World)=>(show RdL Qm (W.alloc (.cells #[.string ⟨n.toArray⟩,.slice a4 ks'.length c4] 82)) (.slice (some ⟨W.heap.size,0,none⟩) 1 1) [z']from by
       rw[HZ'.out];exact RdL.of_row (l:=[(((n,ks'),(a4,c4)):Stp×(Option Addr×Nat))]) (cp:=1) Qm (heap_alloc_new W _) rfl (by simp) (by simp)))
      have HFR:=hid (fun(W:World) (h:w5.heap.size≤W.heap.size)=>(show Qg Qm 82 (W.alloc (.cells #[] 82)) w5.heap.size (.slice (some ⟨W.heap.size,0,none⟩) 0 0) []from Qkx Qm [] (heap_alloc_new W _) rfl h (by simp[maxLen])));have HFR2:=hid (fun(o:Obj)=>(show Qg Qm 82 ((w5.alloc o).alloc (.cells #[] 82)) w5.heap.size (.slice (some ⟨w5.heap.size+1,0,none⟩) 0 0) []from by
       have h:=HFR.out (w5.alloc o) (by simp)
       rwa [show(w5.alloc o).heap.size=w5.heap.size+1 by simp]at h))
      have HRK:=hid (fun(W W7:World) (g j:Nat) (h:W.heap[j]?=some (.cells #[.string ⟨n.toArray⟩,.slice a4 ks'.length c4] 82 (0,0))) (gr:W.grownBy W7 (some g)) (hne:j≠g)=>(show RdL Qm W7 (.slice (some ⟨j,0,none⟩) 1 1) [z']from by
       have h2:=(gr.block j (lt_of_block h) (fun e=>hne (Option.some.inj e))).trans h;rw[HZ'.out];exact RdL.of_row (l:=[(((n,ks'),(a4,c4)):Stp×(Option Addr×Nat))]) (cp:=1) Qm h2 rfl (by simp) (by simp)))
      have HSB:=hid (fun(o1 o2:Obj)=>(show Below w5.heap.size w5 ((w5.alloc o1).alloc o2).drew from((bal _ _).alloc (by simp) _).drew));have HLE:=hid (show([]++zs.take i).length+[z'].length≤maxLen by have:=HTL.out;have:=HL64.out;simp[maxLen];omega);have HLE1:=hid (show(([]++zs.take i).length+[z'].length) * 40≤140737488355328 by have:=HTL.out;have:=HL64.out;simp;omega);have HLE0:=hid (show([]:List (Stp×(Option Addr×Nat))).length+(zs.take i).length≤maxLen by have:=HTL.out;have:=HL64.out;simp[maxLen];omega);have HLE2:=hid (show(([]:List (Stp×(Option Addr×Nat))).length+(zs.take i).length) * 40≤140737488355328 by have:=HTL.out;have:=HL64.out;simp;omega);have HGB:=hid (fun(W W7:World) (g:Nat) (gr:W.grownBy W7 (some g)) (h:Below w5.heap.size w5 W) (hg:w5.heap.size≤g)=>(show Below w5.heap.size w5 W7 from h.grown gr h.size (fun k hk=>by cases hk;exact hg)));have HXC0:=hid (fun(W:World) (h:Below w5.heap.size w5 W)=>(h.cell (p:=⟨Xb,0,none⟩) xl).trans x0);have HXC1:=hid (fun(W:World) (h:Below w5.heap.size w5 W)=>(h.cell (p:=⟨Xb,1,none⟩) xl).trans x1);have HL2':=hid (show([]++zs.take i)++[z']=L2 from by rw[HL2.out];rfl);have HA0:=hid (show Below w5.heap.size w5 (World.alloc w5 (.cells #[] 82)).drew from(bal _ _).drew);have HA1:=hid (show Qg Qm 82 (World.alloc w5 (.cells #[] 82)).drew w5.heap.size (.slice (some ⟨w5.heap.size,0,none⟩) 0 0) []from HFR.out w5 (Nat.le_refl _));have HA2:=hid (show RdL Qm (World.alloc w5 (.cells #[] 82)).drew (.slice (some ⟨gs,0,none⟩) i cl) (zs.take i)from RT.out.below HA0.out);have HA3:=hid (show w5.heap.size≤(World.alloc w5 (.cells #[] 82)).drew.heap.size from HA0.out.size);have HB0:=hid (show Below w5.heap.size w5 (World.alloc (World.alloc w5 (.cells #[] 82)) (.cells #[.string ⟨n.toArray⟩,.slice a4 ks'.length c4] 82)).drew from HSB.out _ _);have HB1:=hid (show Qg Qm 82 (World.alloc (World.alloc w5 (.cells #[] 82)) (.cells #[.string ⟨n.toArray⟩,.slice a4 ks'.length c4] 82)).drew w5.heap.size (.slice (some ⟨w5.heap.size,0,none⟩) 0 0) [] from(HFR.out w5 (Nat.le_refl _)).below (bal _ _).drew);have HB2':=hid (show RdL Qm (World.alloc (World.alloc w5 (.cells #[] 82)) (.cells #[.string ⟨n.toArray⟩,.slice a4 ks'.length c4] 82)).drew (.slice (some ⟨gs,0,none⟩) i cl) (zs.take i)from RT.out.below HB0.out);have HB3:=hid (show w5.heap.size≤(World.alloc (World.alloc w5 (.cells #[] 82)) (.cells #[.string ⟨n.toArray⟩,.slice a4 ks'.length c4] 82)).drew.heap.size from HB0.out.size);have HC0:=hid (show Below w5.heap.size w5 (World.alloc (World.alloc w5 (.cells #[.string ⟨n.toArray⟩,.slice a4 ks'.length c4] 82)) (.cells #[] 82)).drew from HSB.out _ _);have HC1:=hid (show Qg Qm 82 (World.alloc (World.alloc w5 (.cells #[.string ⟨n.toArray⟩,.slice a4 ks'.length c4] 82)) (.cells #[] 82)).drew w5.heap.size (.slice (some ⟨w5.heap.size+1,0,none⟩) 0 0) []from HFR2.out _);have HC2:=hid (show RdL Qm (World.alloc (World.alloc w5 (.cells #[.string ⟨n.toArray⟩,.slice a4 ks'.length c4] 82)) (.cells #[] 82)).drew (.slice (some ⟨gs,0,none⟩) i cl) (zs.take i)from RT.out.below HC0.out);have HC3:=hid (show w5.heap.size≤(World.alloc (World.alloc w5 (.cells #[.string ⟨n.toArray⟩,.slice a4 ks'.length c4] 82)) (.cells #[] 82)).drew.heap.size from HC0.out.size);have HB4:=hid (show(World.alloc (World.alloc w5 (.cells #[] 82)) (.cells #[.string ⟨n.toArray⟩,.slice a4 ks'.length c4] 82)).drew.heap[w5.heap.size+1]?=some (.cells #[.string ⟨n.toArray⟩,.slice a4 ks'.length c4] 82 (0,0))from by have h:=heap_alloc_new (w5.alloc (.cells #[] 82)) (.cells #[.string ⟨n.toArray⟩,.slice a4 ks'.length c4] 82);rwa [show(w5.alloc (.cells #[] 82)).heap.size=w5.heap.size+1 by simp]at h);have HC4:=hid (show(World.alloc (World.alloc w5 (.cells #[.string ⟨n.toArray⟩,.slice a4 ks'.length c4] 82)) (.cells #[] 82)).drew.heap[w5.heap.size]?=some (.cells #[.string ⟨n.toArray⟩,.slice a4 ks'.length c4] 82 (0,0)) from(heap_alloc_old _ _ (by simp)).trans (heap_alloc_new _ _))
      go_region_held3 (fun W=>W.cell? ⟨Xb,0,none⟩=some (.string ⟨n.toArray⟩)∧W.cell? ⟨Xb,1,none⟩=some (.slice a4 ks'.length c4)) (first|with_reducible assumption|go_keep) (first
       |(refine Hn Qm Tryz.underlying76 Yd rfl (by decide) (w:=(World.alloc w5 (.cells #[] 82)).drew) rfl (.tmp 39) (.tmp 42) rfl w5.heap.size (.slice (some ⟨w5.heap.size,0,none⟩) 0 0) (.slice (some ⟨gs,0,none⟩) i cl) [] (zs.take i) rfl rfl HA1.out HA2.out HLE0.out HLE2.out HA3.out ?_;intro v7 w7 own7 gr7;have hS7:Below w5.heap.size w5 w7:=HGB.out _ _ _ gr7 HA0.out (Nat.le_refl _);have hX0:=HXC0.out w7 hS7;have hX1:=HXC1.out w7 hS7)
       |(refine Hn Qm Tryz.underlying76 Yd rfl (by decide) (w:=(World.alloc (World.alloc w5 (.cells #[] 82)) (.cells #[.string ⟨n.toArray⟩,.slice a4 ks'.length c4] 82)).drew) rfl (.tmp 39) (.tmp 42) rfl w5.heap.size (.slice (some ⟨w5.heap.size,0,none⟩) 0 0) (.slice (some ⟨gs,0,none⟩) i cl) [] (zs.take i) rfl rfl HB1.out HB2'.out HLE0.out HLE2.out HB3.out ?_;intro v7 w7 own7 gr7;have hS7:Below w5.heap.size w5 w7:=HGB.out _ _ _ gr7 HB0.out (Nat.le_refl _);have HR7:=hid (HRK.out _ _ w5.heap.size (w5.heap.size+1) HB4.out gr7 (by omega));have hX0:=HXC0.out w7 hS7;have hX1:=HXC1.out w7 hS7)
       |(refine Hn Qm Tryz.underlying76 Yd rfl (by decide) (w:=(World.alloc (World.alloc w5 (.cells #[.string ⟨n.toArray⟩,.slice a4 ks'.length c4] 82)) (.cells #[] 82)).drew) rfl (.tmp 39) (.tmp 42) rfl w5.heap.size (.slice (some ⟨w5.heap.size+1,0,none⟩) 0 0) (.slice (some ⟨gs,0,none⟩) i cl) [] (zs.take i) rfl rfl HC1.out HC2.out HLE0.out HLE2.out HC3.out ?_;intro v7 w7 own7 gr7;have hS7:Below w5.heap.size w5 w7:=HGB.out _ _ _ gr7 HC0.out (Nat.le_succ _);have HR7:=hid (HRK.out _ _ (w5.heap.size+1) w5.heap.size HC4.out gr7 (by omega));have hX0:=HXC0.out w7 hS7;have hX1:=HXC1.out w7 hS7)
       |(refine Hn Qm Tryz.underlying76 Yd rfl (by decide) rfl (.tmp 43) (.tmp 45) rfl w5.heap.size _ _ ([]++zs.take i) [z'] (by exact rfl) (by exact rfl) (own7.below (bal _ _)) (HRW.out _) HLE.out HLE1.out (Nat.le_trans hS7.size (by simp)) ?_;intro v10 w10 own10 gr10;have HO10:=hid (show Qg Qm 82 w10 w5.heap.size v10 L2 by rw[←HL2'.out];exact own10);have hS10:Below w5.heap.size w5 w10:=(hS7.alloc hS7.size _).grown gr10 (Nat.le_trans hS7.size (by simp)) (fun k hk=>(World.ownsRow.lt own7 k hk).1);have hX2:=HXC0.out w10 hS10;have hX3:=HXC1.out w10 hS10)
       |(refine Hn Qm Tryz.underlying76 Yd rfl (by decide) rfl (.tmp 43) (.tmp 45) rfl w5.heap.size _ _ ([]++zs.take i) [z'] (by exact rfl) (by exact rfl) own7 HR7.out HLE.out HLE1.out hS7.size ?_;intro v10 w10 own10 gr10;have HO10:=hid (show Qg Qm 82 w10 w5.heap.size v10 L2 by rw[←HL2'.out];exact own10);have hS10:Below w5.heap.size w5 w10:=hS7.grown gr10 hS7.size (fun k hk=>(World.ownsRow.lt own7 k hk).1);have hX2:=HXC0.out w10 hS10;have hX3:=HXC1.out w10 hS10))
      all_goals
       obtain⟨a10,c10,rfl,_⟩:=HO10.out.slice
       rw[HL2n.out]at HO10 ⊢;go_wp2_with fail
       go_meet
       exact⟨a10,c10,rfl,HO10.out,hS10⟩
     case rest =>
      obtain⟨a9,c9,rfl,o9,b9⟩:=hcut
      rename World=>w9
      have O9:=hid o9;have B9:=hid b9;have HWT:=hid (HWA.out (by first|rfl|trivial));have HWP:=hid (Ms (key:=key) HPL.out hil);rw[HTS.out]at HWT HWP;have HPA:=hid (Zy (Vs HWP.out));have B15:=hid (HB2.out.then B5.out);have LRS:=hid (show Mr w5 (.slice (some ⟨gs,0,none⟩) l.length cl) l from⟨zs,HZL.out,OL5.out.rd,fun z hz=>(Qd.rd (OE.out z hz)).below B15.out⟩);have KEY:=hid (show ∃(u:Value) (zs2:List (Stp×(Option Addr×Nat))),zs2.map (·.1)=l.drop (i+1)∧RdL Qm w5 u zs2∧(∀z∈zs2,RdP w5 (Qr z) z.1.2)∧((cl=i+1∧u=.slice (some ⟨gs,0,none⟩) 0 0)∨(¬cl=i+1∧u=.slice (some ⟨gs,0+(i+1) * 2,none⟩) (l.length-(i+1)) (cl-(i+1))))from by
       by_cases hkk:cl=i+1
       ·refine⟨_,[],?_,?_,fun z hz=>(by cases hz),Or.inl ⟨hkk,rfl⟩⟩
        ·rw[List.drop_eq_nil_of_le (by have:=HCL.out;omega)];rfl
        ·exact⟨_,_,rfl,⟨Nat.le_refl _,by simp,fun e=>by cases e⟩,fun h=>absurd rfl h⟩
       ·obtain⟨zs2,z1,z2,z3⟩:=LRS.out.drop (i+1) (by omega)
        exact⟨_,zs2,z1,z2,z3,Or.inr ⟨hkk,rfl⟩⟩)
      obtain⟨u,zs2,hz1,hz2,hz3,hc⟩:=KEY.out
      have Z1:=hid hz1;have Z2:=hid (hz2.below b9);have Z3:=hid hz3;have HZ2:=hid (show zs2.length=l.length-(i+1)from by have h:=congrArg List.length hz1;rw[List.length_map,List.length_drop]at h;exact h);have FIN:=hid (show ∀w10 v10,Qg Qm 82 w10 w5.heap.size v10 (L2++zs2)→Below w5.heap.size w5 w10→Mr w10 v10 (l.set i (n,ks'))from fun w10 v10 o10 b10=>by
       refine⟨L2++zs2,?_,o10.rd,fun z hz=>?_⟩
       ·rw[List.map_append,Z1.out,HL2.out,List.map_append,List.map_take,HZL.out,HZ'.out];exact Zmj hil (n,ks')
       ·rw[HL2.out]at hz
        rcases List.mem_append.1 hz with hz|hz
        ·rcases List.mem_append.1 hz with hz|hz
         ·exact((Qd.rd (OE.out z (List.mem_of_mem_take hz))).below B15.out).below b10
         ·rw[List.mem_singleton.1 hz,HZ'.out];exact(Qd.rd (show Qd w5 _ _ ks' from D5.out)).below b10
        ·exact(Z3.out z hz).below b10)
      have HSZ5:=hid B9.out.size;have HLA:=hid (show L2.length+zs2.length≤maxLen by have:=HL2n.out;have:=HZ2.out;have:=HL64.out;unfold maxLen;omega);have HLB:=hid (show(L2.length+zs2.length) * 40≤140737488355328 by have:=HL2n.out;have:=HZ2.out;have:=HL64.out;omega);have BX:=hid (B1.out.then B15.out);clear hz1 hz2 hz3 KEY LRS o9 b9 x0 x1 xf0 xf1 xl hS0;have PR:=hid (fun w10 v10 (o10:Qg Qm 82 w10 w5.heap.size v10 (L2++zs2)) (b10:Below w5.heap.size w5 w10)=>(show Calls Tryz.prog 35 #[v10] w10 fun e w'=>e=.returned (prV (some (Zk (l.set i (n,ks')))))∧Below w10.heap.size w10 w' from by
       have h:=Qyh w10 v10 (l.set i (n,ks')) (FIN.out w10 v10 o10 b10) HPA.out.1 (Nat.le_trans HPA.out.2.2.2.1 (by decide))
       rwa [HWP.out]at h))
      rcases hc with ⟨hkk,rfl⟩|⟨hkk,rfl⟩
      ·subst hkk;have hlm:l.length-(i+1)=0:=by have:=HCL.out;omega
       have hlm2:(l.length:Int)=(i:Int)+1:=by have:=HCL.out;omega
       go_wp2_with (at_builtin;refine Ds (E:=Qm) rfl (.tmp 48) (.tmp 52) rfl Tryz.underlying76 Yd rfl (by decide) w5.heap.size _ L2 zs2 rfl O9.out rfl Z2.out HLA.out HLB.out HSZ5.out ?_;intro v10 w10 own10 gr10;have B10:=hid (B9.out.grown gr10 B9.out.size (fun k hk=>(World.ownsRow.lt O9.out k hk).1));have PR10:=hid (PR.out w10 v10 own10 B10.out);clear own10 gr10)
       refine PR10.out.mono ?_;unfold prV;rintro e w11 ⟨rfl,hb11⟩;have BE:=hid (BX.out.then (B10.out.then hb11));clear hb11 PR10;go_wp2_with fail;exact bodyPost_ret (v:=.tuple #[.string ⟨(Zk (l.set i (n,ks'))).toArray⟩,.bool true]) (by simp[results,Tryz.results31,go_sem]) rfl ⟨by rw[HWT.out],BE.out⟩
      ·have hki:¬(cl:Int)=(i:Int)+1:=by omega
       rw[Nat.zero_add]at Z2
       go_wp2_with (at_builtin;refine Ds (E:=Qm) rfl (.tmp 48) (.tmp 52) rfl Tryz.underlying76 Yd rfl (by decide) w5.heap.size _ L2 zs2 rfl O9.out rfl Z2.out HLA.out HLB.out HSZ5.out ?_;intro v10 w10 own10 gr10;have B10:=hid (B9.out.grown gr10 B9.out.size (fun k hk=>(World.ownsRow.lt O9.out k hk).1));have PR10:=hid (PR.out w10 v10 own10 B10.out);clear own10 gr10)
       refine PR10.out.mono ?_;unfold prV;rintro e w11 ⟨rfl,hb11⟩;have BE:=hid (BX.out.then (B10.out.then hb11));clear hb11 PR10;go_wp2_with fail;exact bodyPost_ret (v:=.tuple #[.string ⟨(Zk (l.set i (n,ks'))).toArray⟩,.bool true]) (by simp[results,Tryz.results31,go_sem]) rfl ⟨by rw[HWT.out],BE.out⟩
 ·have hne':(er:Int)≠0:=by omega
  have HW:=hid (Qzz (key:=key) hpn);have HB2:=hid (bal w1 (.cells #[.int .i64 er,.int .i64 a] 78));have S2:=hid (heap_alloc_new w1 (.cells #[.int .i64 er,.int .i64 a] 78));clear hpn;go_upto_region 2 with fail;generalize w1.alloc (.cells #[.int .i64 er,.int .i64 a] 78)=w2 at *
  obtain⟨s0,s1,_,_,sl⟩:=Qq S2.out
  go_wp2_with fail;exact bodyPost_ret (v:=.tuple #[.string ⟨#[]⟩,.bool false]) (by simp[results,Tryz.results31,go_sem]) rfl ⟨by rw[HW.out],B1.out.then HB2.out⟩
end
end Go.Proofs.YtbbmdbolkicpcabGreatDoor
