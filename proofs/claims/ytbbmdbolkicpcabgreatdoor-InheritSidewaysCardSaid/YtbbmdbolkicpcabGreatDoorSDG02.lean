/- PathQ, PtUtf, PtRd, Lists, State -/
import Derived.Test.YtbbmdbolkicpcabGreatDoorSDG01
import Derived.Lib.OthersKept
import Derived.LoopTactic
import Derived.Deep.LoopGhost
import Derived.Deep.CutBlock
import Derived.BigQuiet
import Derived.Sort.OwnSorted
import Derived.Lib.OwnBridge
set_option maxRecDepth 100000
set_option maxHeartbeats 32000000
set_option linter.unusedVariables false
set_option linter.unusedSimpArgs false
namespace Go.Proofs.YtbbmdbolkicpcabGreatDoor
section
open Go.Lib
theorem Pz {a b:UInt8}(h:a.toNat=b.toNat):a=b:=UInt8.toNat_inj.1 h
theorem utf2 (a b:UInt8)(h1:a.toNat / 32=6)(h2:b.toNat / 64=2)(h3:a.toNat % 32 * 64+b.toNat % 64 ≥ 128) :
  (Utf8.encode ((a.toNat % 32 * 64+b.toNat % 64:Nat):Int)).data.toList=[a,b]:=by
 have ha:=a.toNat_lt;have hb:=b.toNat_lt;generalize hr:a.toNat % 32 * 64+b.toNat % 64=r at *;have hv:Utf8.valid (r:Int)=true:=by simp[Utf8.valid];omega
 unfold Utf8.encode;simp only[hv,if_true,Int.toNat_natCast];rw[if_neg (by omega),if_pos (by omega)];have e1:UInt8.ofNat (192+r / 64)=a:=Pz (by simp;omega);have e2:UInt8.ofNat (128+r % 64)=b:=Pz (by simp;omega);simp only[e1,e2]
theorem utf3 (a b c:UInt8)(h1:a.toNat / 16=14)(h2:b.toNat / 64=2)(h4:c.toNat / 64=2)(h3:a.toNat % 16 * 4096+b.toNat % 64 * 64+c.toNat % 64 ≥ 2048)
  (h5:a.toNat % 16 * 4096+b.toNat % 64 * 64+c.toNat % 64<55296∨57344≤a.toNat % 16 * 4096+b.toNat % 64 * 64+c.toNat % 64) :
  (Utf8.encode ((a.toNat % 16 * 4096+b.toNat % 64 * 64+c.toNat % 64:Nat):Int)).data.toList=[a,b,c]:=by
 have ha:=a.toNat_lt;have hb:=b.toNat_lt;have hc:=c.toNat_lt;generalize hr:a.toNat % 16 * 4096+b.toNat % 64 * 64+c.toNat % 64=r at *;have hv:Utf8.valid (r:Int)=true:=by simp[Utf8.valid];omega
 unfold Utf8.encode;simp only[hv,if_true,Int.toNat_natCast];rw[if_neg (by omega),if_neg (by omega),if_pos (by omega)];have e1:UInt8.ofNat (224+r / 4096)=a:=Pz (by simp;omega);have e2:UInt8.ofNat (128+r / 64 % 64)=b:=Pz (by simp;omega);have e3:UInt8.ofNat (128+r % 64)=c:=Pz (by simp;omega);simp only[e1,e2,e3]
theorem utf4 (a b c d:UInt8)(h1:a.toNat / 8=30)(h2:b.toNat / 64=2)(h4:c.toNat / 64=2)(h6:d.toNat / 64=2)
  (h3:a.toNat % 8 * 262144+b.toNat % 64 * 4096+c.toNat % 64 * 64+d.toNat % 64 ≥ 65536)(h5:a.toNat % 8 * 262144+b.toNat % 64 * 4096+c.toNat % 64 * 64+d.toNat % 64≤1114111) :
  (Utf8.encode ((a.toNat % 8 * 262144+b.toNat % 64 * 4096+c.toNat % 64 * 64+d.toNat % 64:Nat):Int)).data.toList=[a,b,c,d]:=by
 have ha:=a.toNat_lt;have hb:=b.toNat_lt;have hc:=c.toNat_lt;have hd:=d.toNat_lt;generalize hr:a.toNat % 8 * 262144+b.toNat % 64 * 4096+c.toNat % 64 * 64+d.toNat % 64=r at *;have hv:Utf8.valid (r:Int)=true:=by simp[Utf8.valid];omega
 unfold Utf8.encode;simp only[hv,if_true,Int.toNat_natCast];rw[if_neg (by omega),if_neg (by omega),if_neg (by omega)];have e1:UInt8.ofNat (240+r / 262144)=a:=Pz (by simp;omega);have e2:UInt8.ofNat (128+r / 4096 % 64)=b:=Pz (by simp;omega);have e3:UInt8.ofNat (128+r / 64 % 64)=c:=Pz (by simp;omega);have e4:UInt8.ofNat (128+r % 64)=d:=Pz (by simp;omega);simp only[e1,e2,e3,e4]
inductive Lw:Str→Nat→Nat→Prop
 |one (c:UInt8) (t:Str) (h:c.toNat<128):Lw (c::t) c.toNat 1
 |more (run t:Str) (r:Nat) (h2:2≤run.length) (h4:run.length≤4) (hr:128≤r) (hm:r≤1114111) (hb:∀c∈run,128≤c.toNat) (he:(Utf8.encode (r:Int)).data.toList=run):Lw (run++t) r run.length
theorem Sq:∀(l:Str),l≠[]→decodeL l≠(65533,1)→Lw l (decodeL l).1 (decodeL l).2
 |[],h,_=>absurd rfl h
 |a::t,_,h=>by
  have ha:=a.toNat_lt;rw[decodeL_N]at h ⊢;simp only[List.getD_cons_zero,List.getD_cons_succ,List.length_cons]at h ⊢;unfold decodeN at h ⊢
  by_cases h1:a.toNat<128
  ·simp only[h1,if_true];exact Lw.one a t h1
  ·simp only[h1,if_false]at h ⊢
   match t with
   |[]=>simp at h
   |b::t =>
    have hb:=b.toNat_lt;simp only[List.getD_cons_zero,List.getD_cons_succ,List.length_cons]at h ⊢
    split at h
    ·next c2 =>
     split at h
     ·next c3 =>
      rw[if_pos c2,if_pos c3];have he:=utf2 a b c2.1 c2.2.2 c3;have h5:∀c∈[a,b],128≤c.toNat:=by
       intro c hc
       rcases List.mem_cons.1 hc with rfl|hc
       ·omega
       ·rw[List.mem_singleton.1 hc];omega
      have h6:a.toNat % 32 * 64+b.toNat % 64≤1114111:=by omega
      simp only
      generalize a.toNat % 32 * 64+b.toNat % 64=r at *;exact Lw.more [a,b] t r (by simp) (by simp) c3 h6 h5 he
     ·exact absurd rfl h
    ·next c2 =>
     rw[if_neg c2]
     match t with
     |[]=>simp at h
     |c::t =>
      have hc:=c.toNat_lt;simp only[List.getD_cons_zero,List.getD_cons_succ,List.length_cons]at h ⊢
      split at h
      ·next c4 =>
       split at h
       ·next c5 =>
        rw[if_pos c4,if_pos c5];have he:=utf3 a b c c4.1 c4.2.1.2 c4.2.2.2 c5.1 (by omega);have h5:∀x∈[a,b,c],128≤x.toNat:=by
         intro x hx
         rcases List.mem_cons.1 hx with rfl|hx
         ·omega
         ·rcases List.mem_cons.1 hx with rfl|hx
          ·omega
          ·rw[List.mem_singleton.1 hx];omega
        have h6:a.toNat % 16 * 4096+b.toNat % 64 * 64+c.toNat % 64≤1114111:=by omega
        have h7:128≤a.toNat % 16 * 4096+b.toNat % 64 * 64+c.toNat % 64:=by omega
        simp only
        generalize a.toNat % 16 * 4096+b.toNat % 64 * 64+c.toNat % 64=r at *;exact Lw.more [a,b,c] t r (by simp) (by simp) h7 h6 h5 he
       ·exact absurd rfl h
      ·next c4 =>
       rw[if_neg c4]
       match t with
       |[]=>simp at h
       |d::t =>
        have hd:=d.toNat_lt;simp only[List.getD_cons_zero,List.getD_cons_succ,List.length_cons]at h ⊢
        split at h
        ·next c6 =>
         split at h
         ·next c7 =>
          rw[if_pos c6,if_pos c7];have he:=utf4 a b c d c6.1 c6.2.1.2 c6.2.2.1.2 c6.2.2.2.2 c7.1 (by omega);have h5:∀x∈[a,b,c,d],128≤x.toNat:=by
           intro x hx
           rcases List.mem_cons.1 hx with rfl|hx
           ·omega
           ·rcases List.mem_cons.1 hx with rfl|hx
            ·omega
            ·rcases List.mem_cons.1 hx with rfl|hx
             ·omega
             ·rw[List.mem_singleton.1 hx];omega
          have h6:a.toNat % 8 * 262144+b.toNat % 64 * 4096+c.toNat % 64 * 64+d.toNat % 64≤1114111:=by omega
          have h7:128≤a.toNat % 8 * 262144+b.toNat % 64 * 4096+c.toNat % 64 * 64+d.toNat % 64:=by omega
          simp only
          generalize a.toNat % 8 * 262144+b.toNat % 64 * 4096+c.toNat % 64 * 64+d.toNat % 64=r at *;exact Lw.more [a,b,c,d] t r (by simp) (by simp) h7 h6 h5 he
         ·exact absurd rfl h
        ·exact absurd rfl h
theorem Hy {l:Str}(hl:l≠[])(h:Zq l=true):Lw l (decodeL l).1 (decodeL l).2∧Zq (l.drop (decodeL l).2)=true:=by
 rw[Yj hl]at h;simp only[Bool.and_eq_true,Bool.not_eq_true',beq_eq_false_iff_ne]at h
 exact⟨Sq l hl h.1,h.2⟩
theorem Zgy {c:UInt8}(h:128≤c.toNat):Km c=false∧c≠92∧c≠93∧(Bz c||c==91||c==47||c==61)=false:=by
 have k:∀d:UInt8,d.toNat<128→c≠d:=fun d hd e=>by rw[e]at h;omega
 have k2:∀d:UInt8,d.toNat<128→(c==d)=false:=fun d hd=>beq_eq_false_iff_ne.2 (k d hd)
 refine⟨?_,k 92 (by decide),k 93 (by decide),?_⟩
 ·simp[Km,k2 91 (by decide),k2 93 (by decide),k2 47 (by decide),k2 61 (by decide),k2 92 (by decide)]
 ·simp[Bz,k2 91 (by decide),k2 47 (by decide),k2 61 (by decide)];omega
theorem Wx:∀(run acc t:Str),(∀c∈run,128≤c.toNat)→Qw false acc (run++t)=Qw false (acc++run) t
 |[],acc,t,_=>by simp
 |c::r,acc,t,h=>by
  obtain⟨_,h2,h3,h4⟩:=Zgy (h c (List.mem_cons_self ..))
  simp only[List.cons_append,Qw];rw[if_neg h2,if_neg h3,h4];simp only[Bool.false_eq_true,if_false];rw[Wx r (acc++[c]) t (fun d hd=>h d (List.mem_cons_of_mem _ hd)),List.append_assoc,List.singleton_append]
end
section
open Go.RowKit Go.Lib
theorem Fv (c d:UInt8):((c.toNat:Int)==(d.toNat:Int))=(c==d):=by
 rw[Bool.eq_iff_iff,beq_iff_eq,beq_iff_eq]
 exact⟨fun h=>UInt8.toNat_inj.1 (by omega),fun h=>by rw[h]⟩
theorem Yk (c:UInt8)(w:World):Calls Tryz.prog 164 #[.int .u8 (c.toNat:Int)] w fun e w'=>e=.returned (.bool (Xr c))∧w'=w:=by
 have h95:((c.toNat:Int)==95)=(c==95):=Fv c 95;have LT:=hid (Wq c w)
 cases hl:Yt c
 ·rw[hl]at LT
  go_enter Tryz.func164,Tryz.ntmps164
  go_wp2_with (go_at_call 227;refine LT.out.mono ?_;rintro e w' ⟨rfl,rfl⟩)
  go_ret
  exact⟨Qc (by simp[Xr,hl]),rfl⟩
 ·rw[hl]at LT
  go_enter Tryz.func164,Tryz.ntmps164
  go_wp2_with (go_at_call 227;refine LT.out.mono ?_;rintro e w' ⟨rfl,rfl⟩)
  go_ret
  exact⟨Qc (by simp[Xr,hl]),rfl⟩
theorem Yl (c:UInt8)(w:World):Calls Tryz.prog 165 #[.int .u8 (c.toNat:Int)] w fun e w'=>e=.returned (.bool (Zd c))∧w'=w:=by
 have h45:((c.toNat:Int)==45)=(c==45):=Fv c 45;have h46:((c.toNat:Int)==46)=(c==46):=Fv c 46;have NS:=hid (Yk c w);have DG:=hid (Qzw c w)
 cases hs:Xr c <;> cases hd:Gg c <;> cases h1:(c==45) <;> cases h2:(c==46)
 all_goals
  rw[hs]at NS;rw[hd]at DG;rw[h1]at h45;rw[h2]at h46
  go_enter Tryz.func165,Tryz.ntmps165
  go_wp2_with (first
   |(go_at_call 164;refine NS.out.mono ?_;rintro e w' ⟨rfl,rfl⟩)
   |(go_at_call 228;refine DG.out.mono ?_;rintro e w' ⟨rfl,rfl⟩))
  go_ret
  exact⟨Qc (by simp[Zd,hs,hd,h1,h2]),rfl⟩
theorem Sz {l:Str}(hl:l≠[]):(decodeL l).2≤l.length∧1≤(decodeL l).2:=by
 refine⟨?_,(Rl l).pos⟩
 by_cases hb:decodeL l=(65533,1)
 ·rw[hb];cases l with
  |nil=>exact absurd rfl hl
  |cons c t=>simp
 ·have hs:=Sq l hl hb;generalize (decodeL l).1=r at hs;generalize (decodeL l).2=k at hs
  cases hs with
  |one c t h=>simp
  |more run t r h2 h4 hr hm hb he=>simp
theorem Qfw (s:Str)(pos:Nat):Utf8.decode ⟨s.toArray⟩ pos=decodeL (s.drop pos):=(decodeL_drop ⟨s.toArray⟩ pos).symm
def Qvw (s:Str)(pos last:Nat)(brk:Bool):Bool:=if brk&&decide (pos=last+1)then false else Zq (s.drop pos)
theorem Qfy (s:Str)(w:World)(hs:s.length≤maxLen) :
  Calls Tryz.prog 81 #[.string ⟨s.toArray⟩] w fun e w'=>(∃(er:Nat) (at':Int),e=.returned (.agg #[.int .i64 er,.int .i64 at'])∧((Zq s=true∧er=0∧at'=0)∨(Zq s=false∧er=6)))∧Below w.heap.size w w':=by
 have hs2:s.length≤9223372036854775807:=by unfold maxLen at hs;omega
 have F0:=hid (heap_alloc_new w (.cells #[.int .i64 0,.int .i64 0] 78));have B0:=hid ((Below.refl w.heap.size w).alloc (Nat.le_refl _) (.cells #[.int .i64 0,.int .i64 0] 78))
 go_enter Tryz.func81,Tryz.ntmps81
 go_upto_region 1 with fail;generalize w.alloc (.cells #[.int .i64 0,.int .i64 0] 78)=w1 at *;have hsz1:w.heap.size<w1.heap.size:=lt_of_block F0.out;go_wp2_with fail
 go_loopw [3,4] (fun v3 v4 wr=>∃(pos last:Nat) (brk:Bool),v3=.int .i64 last∧v4=.bool brk∧pos≤s.length∧last≤pos∧wr.heap[w.heap.size]?=some (.cells #[.int .i64 0,.int .i64 0] 78 (0,0))∧wr.heap[w1.heap.size]?=some (.stringIter ⟨s.toArray⟩ pos)∧Below w.heap.size w wr∧Zq s=Qvw s pos last brk) (fun _ _ wr=>s.length-wr.iterPos w1.heap.size)
 case atStart =>
  exact⟨0,0,false,rfl,rfl,Nat.zero_le _,Nat.le_refl _,(heap_alloc_old w1 _ hsz1).trans F0.out,World.iter_heap w1 _ 0,B0.out.alloc (by omega) _,rfl⟩
 case round =>
  obtain⟨pos,last,brk,rfl,rfl,hpos,hlast,hF,hit,hbw,hseen⟩:=hrel
  have HS:=hid hseen;clear hseen F0 B0
  by_cases hp:pos<s.length
  ·have hne:s.drop pos≠[]:=by intro e;have:=congrArg List.length e;simp at this;omega
   have hdl:=Sz hne;have hst:=hid (Yj hne);have hnx:∀ty,(Instr.next (.pointer (some ⟨w1.heap.size,0,none⟩)) true ty).run Tryz.prog wr=_:=fun ty=>Lib.run_next_any_at wr w1.heap.size ⟨s.toArray⟩ pos ty hit (by rw[Lib.size_eq];exact hp)
   simp only[Qfw]at hnx;rw[List.length_drop]at hdl;rw[List.drop_drop]at hst;generalize hd:decodeL (s.drop pos)=rk at *
   obtain⟨r,k⟩:=rk
   simp only at hnx hdl hst;have hF2:=hid ((Lib.iterAt_other wr w1.heap.size w.heap.size ⟨s.toArray⟩ (pos+k) (by omega)).trans hF);have hit2:=hid (Lib.iterAt_heap wr w1.heap.size ⟨s.toArray⟩ pos (pos+k) hit);have hbw2:=hid (Lib.below_iterAt hbw (k:=w1.heap.size) (by omega) ⟨s.toArray⟩ (pos+k));have hsz2:wr.heap.size=(wr.iterAt w1.heap.size ⟨s.toArray⟩ (pos+k)).heap.size:=(Lib.iterAt_size wr w1.heap.size ⟨s.toArray⟩ (pos+k)).symm;have hpk:pos+k≤s.length:=by omega
   by_cases hbr:brk=true∧pos=last+1
   ·obtain⟨rfl,hpl⟩:=hbr
    have he1:((pos:Int)-(last:Int)==1)=true:=by rw[beq_iff_eq];omega
    have hf:Zq s=false:=by have:=HS.out;rw[this];simp[Qvw,hpl]
    have HFF:=hid hf;clear hf hst HS hpl;go_upto_region 6 with fail;generalize wr.iterAt w1.heap.size ⟨s.toArray⟩ (pos+k)=w2 at *;have c0:w2.cell? ⟨w.heap.size,0,none⟩=some (.int .i64 0):=cR hF2.out;have c1:w2.cell? ⟨w.heap.size,1,none⟩=some (.int .i64 0):=cR hF2.out;have fz0:=frozen_of_row w2 w.heap.size 0 _ _ hF2.out;have fz1:=frozen_of_row w2 w.heap.size 1 _ _ hF2.out;have lt0:=lt_of_block hF2.out;go_wp2_with fail;have hr:((w2.setCell ⟨w.heap.size,0,none⟩ (.int .i64 6)).setCell ⟨w.heap.size,1,none⟩ (.int .i64 last)).heap[w.heap.size]?=some (.cells #[.int .i64 6,.int .i64 last] 78 (0,0)):=by
     rw[heap_setCell_same _ _ _ _ _ _ (heap_setCell_same _ _ _ _ _ _ hF2.out)];simp
    have hb2:=(hbw2.out.setCell (p:=⟨w.heap.size,0,none⟩) (Nat.le_refl _) (.int .i64 6)).setCell (p:=⟨w.heap.size,1,none⟩) (Nat.le_refl _) (.int .i64 last);generalize (w2.setCell ⟨w.heap.size,0,none⟩ (.int .i64 6)).setCell ⟨w.heap.size,1,none⟩ (.int .i64 last)=V at *;have e0:V.cell? ⟨w.heap.size,0,none⟩=some (.int .i64 6):=cR hr;have e1:V.cell? ⟨w.heap.size,1,none⟩=some (.int .i64 last):=cR hr;refine bodyPost_ret (v:=.agg #[.int .i64 6,.int .i64 last]) (by simp[results,Tryz.results81,go_sem,e0,e1]) rfl ⟨⟨6,last,rfl,Or.inr ⟨HFF.out,rfl⟩⟩,hb2⟩
   ·have HN:=hid (show Zq s=Qvw s (pos+k) pos (decide (r=65533))from by
     rw[HS.out];have h1:Qvw s pos last brk=Zq (s.drop pos):=by
      unfold Qvw;rw[if_neg (by simpa using hbr)]
     rw[h1,hst];unfold Qvw
     by_cases hr:r=65533
     ·by_cases hk:k=1
      ·simp[hr,hk]
      ·simp[hr,hk]
     ·simp[hr])
    have hre:((r:Int)==65533)=decide (r=65533):=by
     rw[Bool.eq_iff_iff,beq_iff_eq,decide_eq_true_iff];omega
    have hbr2:brk=true→((pos:Int)-(last:Int)==1)=false:=fun e=>by rw[beq_eq_false_iff_ne];intro h;exact hbr ⟨e,by omega⟩
    have hps:(pos:Int)-(last:Int)≤9223372036854775807:=by omega
    clear hst HS hbr
    cases brk with
    |true =>
     have hbr3:=hbr2 rfl;clear hbr2;go_wp2_with fail;generalize wr.iterAt w1.heap.size ⟨s.toArray⟩ (pos+k)=w2 at *
     go_roundw
     case rel=>exact⟨pos+k,pos,decide (r=65533),rfl,by first|rfl|rw[hre],hpk,by omega,hF2.out,hit2.out,hbw2.out,HN.out⟩
     case measure=>simp only[World.iterPos,hit2.out,hit];omega
    |false =>
     clear hbr2;go_wp2_with fail;generalize wr.iterAt w1.heap.size ⟨s.toArray⟩ (pos+k)=w2 at *
     go_roundw
     case rel=>exact⟨pos+k,pos,decide (r=65533),rfl,by first|rfl|rw[hre],hpk,by omega,hF2.out,hit2.out,hbw2.out,HN.out⟩
     case measure=>simp only[World.iterPos,hit2.out,hit];omega
  ·have hnx:∀ty,(Instr.next (.pointer (some ⟨w1.heap.size,0,none⟩)) true ty).run Tryz.prog wr=_:=fun ty=>Lib.run_next_end_at wr w1.heap.size ⟨s.toArray⟩ pos ty hit (by rw[Lib.size_eq];exact hp)
   have hpe:pos=s.length:=by omega
   have c0:wr.cell? ⟨w.heap.size,0,none⟩=some (.int .i64 0):=cR hF;have c1:wr.cell? ⟨w.heap.size,1,none⟩=some (.int .i64 0):=cR hF;have fz0:=frozen_of_row wr w.heap.size 0 _ _ hF;have fz1:=frozen_of_row wr w.heap.size 1 _ _ hF;have lt0:=lt_of_block hF
   by_cases hbr:brk=true∧pos=last+1
   ·obtain⟨rfl,hpl⟩:=hbr
    have hlen:((s.length:Int)-(last:Int)==1)=true:=by rw[beq_iff_eq];omega
    have hf:Zq s=false:=by have:=HS.out;rw[this];simp[Qvw,hpl]
    have HFF:=hid hf;have HF2:=hid hF;have HBW:=hid hbw;clear hf HS hF hbw hpl hpe;go_wp2_with fail;have hr:((wr.setCell ⟨w.heap.size,0,none⟩ (.int .i64 6)).setCell ⟨w.heap.size,1,none⟩ (.int .i64 last)).heap[w.heap.size]?=some (.cells #[.int .i64 6,.int .i64 last] 78 (0,0)):=by
     rw[heap_setCell_same _ _ _ _ _ _ (heap_setCell_same _ _ _ _ _ _ HF2.out)];simp
    have hb2:=(HBW.out.setCell (p:=⟨w.heap.size,0,none⟩) (Nat.le_refl _) (.int .i64 6)).setCell (p:=⟨w.heap.size,1,none⟩) (Nat.le_refl _) (.int .i64 last);generalize (wr.setCell ⟨w.heap.size,0,none⟩ (.int .i64 6)).setCell ⟨w.heap.size,1,none⟩ (.int .i64 last)=V at *;have e0:V.cell? ⟨w.heap.size,0,none⟩=some (.int .i64 6):=cR hr;have e1:V.cell? ⟨w.heap.size,1,none⟩=some (.int .i64 last):=cR hr;refine bodyPost_ret (v:=.agg #[.int .i64 6,.int .i64 last]) (by simp[results,Tryz.results81,go_sem,e0,e1]) rfl ⟨⟨6,last,rfl,Or.inr ⟨HFF.out,rfl⟩⟩,hb2⟩
   ·have ht:Zq s=true:=by
     rw[HS.out];unfold Qvw;rw[if_neg (by simpa using hbr),hpe,List.drop_length];rfl
    have hbr2:brk=true→((s.length:Int)-(last:Int)==1)=false:=fun e=>by rw[beq_eq_false_iff_ne];intro h;exact hbr ⟨e,by omega⟩
    have HTT:=hid ht;have HF2:=hid hF;have HBW:=hid hbw;clear ht HS hF hbw hbr hpe
    cases brk with
    |true =>
     have hbr3:=hbr2 rfl;clear hbr2;go_wp2_with fail;have hr:((wr.setCell ⟨w.heap.size,0,none⟩ (.int .i64 0)).setCell ⟨w.heap.size,1,none⟩ (.int .i64 0)).heap[w.heap.size]?=some (.cells #[.int .i64 0,.int .i64 0] 78 (0,0)):=by
      rw[heap_setCell_same _ _ _ _ _ _ (heap_setCell_same _ _ _ _ _ _ HF2.out)];simp
     have hb2:=(HBW.out.setCell (p:=⟨w.heap.size,0,none⟩) (Nat.le_refl _) (.int .i64 0)).setCell (p:=⟨w.heap.size,1,none⟩) (Nat.le_refl _) (.int .i64 0);generalize (wr.setCell ⟨w.heap.size,0,none⟩ (.int .i64 0)).setCell ⟨w.heap.size,1,none⟩ (.int .i64 0)=V at *;have e0:V.cell? ⟨w.heap.size,0,none⟩=some (.int .i64 0):=cR hr;have e1:V.cell? ⟨w.heap.size,1,none⟩=some (.int .i64 0):=cR hr;refine bodyPost_ret (v:=.agg #[.int .i64 0,.int .i64 0]) (by simp[results,Tryz.results81,go_sem,e0,e1]) rfl ⟨⟨0,0,rfl,Or.inl ⟨HTT.out,rfl,rfl⟩⟩,hb2⟩
    |false =>
     clear hbr2;go_wp2_with fail;have hr:((wr.setCell ⟨w.heap.size,0,none⟩ (.int .i64 0)).setCell ⟨w.heap.size,1,none⟩ (.int .i64 0)).heap[w.heap.size]?=some (.cells #[.int .i64 0,.int .i64 0] 78 (0,0)):=by
      rw[heap_setCell_same _ _ _ _ _ _ (heap_setCell_same _ _ _ _ _ _ HF2.out)];simp
     have hb2:=(HBW.out.setCell (p:=⟨w.heap.size,0,none⟩) (Nat.le_refl _) (.int .i64 0)).setCell (p:=⟨w.heap.size,1,none⟩) (Nat.le_refl _) (.int .i64 0);generalize (wr.setCell ⟨w.heap.size,0,none⟩ (.int .i64 0)).setCell ⟨w.heap.size,1,none⟩ (.int .i64 0)=V at *;have e0:V.cell? ⟨w.heap.size,0,none⟩=some (.int .i64 0):=cR hr;have e1:V.cell? ⟨w.heap.size,1,none⟩=some (.int .i64 0):=cR hr;refine bodyPost_ret (v:=.agg #[.int .i64 0,.int .i64 0]) (by simp[results,Tryz.results81,go_sem,e0,e1]) rfl ⟨⟨0,0,rfl,Or.inl ⟨HTT.out,rfl,rfl⟩⟩,hb2⟩
end
section
open Go.RowKit Go.Lib
def prd (b:ByteArray)(p er:Nat)(ea:Int):Array Value:=#[.string b,.int .i64 p,.int .i64 er,.int .i64 ea]
def PRd (W:World)(Br:Nat)(b:ByteArray)(p er:Nat)(ea:Int):Prop:=W.heap[Br]?=some (.cells (prd b p er ea) 151 (0,0))
theorem PRd.cells {W:World}{Br:Nat}{b:ByteArray}{p er:Nat}{ea:Int}(h:PRd W Br b p er ea) :
  W.cell? ⟨Br,0,none⟩=some (.string b)∧W.cell? ⟨Br,1,none⟩=some (.int .i64 p)∧W.cell? ⟨Br,2,none⟩=some (.int .i64 er)∧W.cell? ⟨Br,3,none⟩=some (.int .i64 ea)∧
  W.frozen? ⟨Br,1,none⟩=false∧W.frozen? ⟨Br,2,none⟩=false∧W.frozen? ⟨Br,3,none⟩=false∧Br<W.heap.size:=by
 unfold PRd at h
 refine⟨?_,?_,?_,?_,frozen_of_row _ _ _ _ _ h,frozen_of_row _ _ _ _ _ h,frozen_of_row _ _ _ _ _ h,lt_of_block h⟩
 all_goals rw[cell_of_row _ _ _ _ _ _ h];rfl
theorem PRd.setAt {W:World}{Br:Nat}{b:ByteArray}{p er:Nat}{ea:Int}(h:PRd W Br b p er ea)(q:Nat):PRd (W.setCell ⟨Br,1,none⟩ (.int .i64 q)) Br b q er ea:=by
 unfold PRd at *;rw[heap_setCell_same _ _ _ _ _ _ h];simp[prd]
theorem PRd.setSpot {W:World}{Br:Nat}{b:ByteArray}{p er:Nat}{ea:Int}(h:PRd W Br b p er ea)(e:Nat)(a:Int):PRd ((W.setCell ⟨Br,2,none⟩ (.int .i64 e)).setCell ⟨Br,3,none⟩ (.int .i64 a)) Br b p e a:=by
 unfold PRd at *;rw[heap_setCell_same _ _ _ _ _ _ (heap_setCell_same _ _ _ _ _ _ h)];simp[prd]
theorem PRd.drewN {W:World}{Br:Nat}{b:ByteArray}{p er:Nat}{ea:Int}(h:PRd W Br b p er ea)(q:Nat):PRd (W.drewN q) Br b p er ea:=h
theorem PRd.below {W W':World}{Br:Nat}{b:ByteArray}{p er:Nat}{ea:Int}(h:PRd W Br b p er ea)(hb:Below W.heap.size W W'):PRd W' Br b p er ea:=bk hb h
theorem Qf.drewN {b:Nat}{a w:World}(h:Qf b a w)(q:Nat):Qf b a (w.drewN q):=⟨h.os,h.tape,h.output,h.size,h.block⟩
theorem Tc (Br:Nat)(b:ByteArray)(p er:Nat)(ea:Int)(e:Nat)(a:Int)(w:World)(h:PRd w Br b p er ea) :
  Calls Tryz.prog 82 #[.pointer (some ⟨Br,0,none⟩),.int .i64 e,.int .i64 a] w fun x w'=>x=.returned (.bool false)∧PRd w' Br b p e a∧Qf Br w w':=by
 obtain⟨c0,c1,c2,c3,f1,f2,f3,lt⟩:=h.cells
 have H:=hid h;clear h
 go_enter Tryz.func82,Tryz.ntmps82
 go_wp2_with fail
 go_ret
 exact⟨rfl,H.out.setSpot e a,((Qf.refl w Br).set _ _).set _ _⟩
theorem Ly (b:ByteArray)(p:Nat)(c:UInt8)(h:p<b.size):Xx c (b.data.toList.drop p)=if b[p]=c then some (b.data.toList.drop (p+1))else none:=by
 have hl:p<b.data.toList.length:=by rw[←Lib.size_eq];exact h
 rw[List.drop_eq_getElem_cons hl]
 rfl
theorem Tm (b:ByteArray)(p:Nat)(c:UInt8)(h:¬p<b.size):Xx c (b.data.toList.drop p)=none:=by
 rw[List.drop_eq_nil_of_le (by rw[←Lib.size_eq];omega)];rfl
theorem pnext_any (Br:Nat)(b:ByteArray)(p er:Nat)(ea:Int)(c:UInt8)(w:World)(h:PRd w Br b p er ea)(hp:p≤b.size)(hb:b.size≤1000) :
  Calls Tryz.prog 84 #[.pointer (some ⟨Br,0,none⟩),.int .u8 (c.toNat:Int)] w fun x w'=>x=.returned (.bool (Xx c (b.data.toList.drop p)).isSome)∧PRd w' Br b (if(Xx c (b.data.toList.drop p)).isSome then p+1 else p) er ea∧Qf Br w w':=by
 have H:=hid h
 by_cases hlt:p<b.size
 ·have hTB:=Ly b p c hlt;have hpi:(p:Int)<(b.size:Int):=by omega
  have hp0:(0:Int)≤(p:Int):=by omega
  by_cases hc:b[p]=c
  ·have hx:((b[p].toNat:Int)==(c.toNat:Int))=true:=by rw[Fv,hc];simp
   rw[if_pos hc]at hTB;rw[hTB]
   obtain⟨c0,c1,c2,c3,f1,f2,f3,lt⟩:=h.cells
   clear h hTB hc
   go_enter Tryz.func84,Tryz.ntmps84
   go_wp2_with fail
   go_quiet (fail)
   have H2:=hid (H.out.drewN nq);have O2:=hid ((Qf.refl w Br).drewN nq);clear c0 c1 c2 c3 f1 f2 f3 lt H;generalize w.drewN nq=w2 at *
   obtain⟨c0,c1,c2,c3,f1,f2,f3,lt⟩:=H2.out.cells
   go_wp2_with fail
   go_ret
   exact⟨rfl,H2.out.setAt (p+1),O2.out.set _ _⟩
  ·have hx:((b[p].toNat:Int)==(c.toNat:Int))=false:=by rw[Fv];simpa using hc
   rw[if_neg hc]at hTB;rw[hTB]
   obtain⟨c0,c1,c2,c3,f1,f2,f3,lt⟩:=h.cells
   clear h hTB hc
   go_enter Tryz.func84,Tryz.ntmps84
   go_wp2_with fail
   go_quiet (fail)
   go_wp2_with fail
   go_ret
   exact⟨rfl,H.out.drewN _,(Qf.refl w Br).drewN _⟩
 ·rw[Tm b p c hlt]
  obtain⟨c0,c1,c2,c3,f1,f2,f3,lt⟩:=h.cells
  have HD:=hid (show decide (p<b.size)=false from decide_eq_false hlt);clear h hlt
  go_enter Tryz.func84,Tryz.ntmps84
  go_wp2_with fail;have hd:=HD.out
  go_quiet (fail)
  go_wp2_with fail
  go_ret
  exact⟨rfl,H.out.drewN _,(Qf.refl w Br).drewN _⟩
theorem Gq {p:UInt8→Bool}:∀(l:Str)(k:Nat),k≤l.length→(l.take k).all p=true→(∀c,l[k]?=some c→p c=false)→l.takeWhile p=l.take k∧l.dropWhile p=l.drop k
 |[],k,hk,_,_=>by simp
 |c::t,0,hk,_,h=>by
  have:=h c rfl
  simp[List.takeWhile_cons,List.dropWhile_cons,this]
 |c::t,k+1,hk,ha,h=>by
  simp only[List.take_succ_cons,List.all_cons,Bool.and_eq_true]at ha;have ih:=Gq t k (by simpa using hk) ha.2 (fun d hd=>h d (by simpa using hd))
  simp[List.takeWhile_cons,List.dropWhile_cons,ha.1,ih]
theorem Qfh {s:Str}(h:Zl Xr s=false):Jh s=none:=by unfold Jh;rw[h];simp
theorem Lh {s:Str}{k:Nat}(h:Zl Xr s=true)(h1:s.takeWhile Zd=s.take k)(h2:s.dropWhile Zd=s.drop k)(hk:k≤s.length):Jh s=if k≤64 then some (s.take k,s.drop k)else none:=by
 unfold Jh;rw[h,h1,h2,List.length_take,Nat.min_eq_left hk]
 by_cases h64:k≤64
 ·simp[h64]
 ·simp[h64]
theorem Lg (b:ByteArray)(p:Nat)(h:p<b.size):Zl Xr (b.data.toList.drop p)=Xr b[p]:=by
 have hl:p<b.data.toList.length:=by rw[←Lib.size_eq];exact h
 rw[List.drop_eq_getElem_cons hl];rfl
theorem Zpv (b:ByteArray)(p:Nat)(h:¬p<b.size):Zl Xr (b.data.toList.drop p)=false:=by
 rw[List.drop_eq_nil_of_le (by rw[←Lib.size_eq];omega)];rfl
theorem Bd {p:UInt8→Bool}(b:ByteArray)(q k:Nat)(h:q+k<b.size)(ha:((b.data.toList.drop q).take k).all p=true)(hc:p b[q+k]=true):((b.data.toList.drop q).take (k+1)).all p=true:=by
 have hl:k<(b.data.toList.drop q).length:=by rw[List.length_drop,←Lib.size_eq];omega
 rw[List.take_succ_eq_append_getElem hl,List.all_append,ha];simp only[List.all_cons,List.all_nil,Bool.and_true,Bool.true_and,List.getElem_drop];exact hc
theorem Gw (b:ByteArray)(p q:Nat):b.extract p q=⟨((b.data.toList.drop p).take (q-p)).toArray⟩:=by
 have h:(b.extract p q).data.toList=(b.data.toList.drop p).take (q-p):=by
  rw[ByteArray.data_extract,Array.toList_extract]
 rw[←h]
def NameRes (Br:Nat)(b:ByteArray)(p:Nat)(w:World)(x:Ending)(w':World):Prop :=
 (∃n r q,Jh (b.data.toList.drop p)=some (n,r)∧x=.returned (.tuple #[.string ⟨n.toArray⟩,.bool true])∧PRd w' Br b q 0 0∧q≤b.size∧p≤q∧r=b.data.toList.drop q∧Qf Br w w') ∨
 (Jh (b.data.toList.drop p)=none∧x=.returned (.tuple #[.string ⟨#[]⟩,.bool false])∧(∃q e a,e≠0∧PRd w' Br b q e a)∧Qf Br w w')
theorem pname_any (Br:Nat)(b:ByteArray)(p:Nat)(w:World)(h:PRd w Br b p 0 0)(hp:p≤b.size)(hb:b.size≤1000) :
  Calls Tryz.prog 144 #[.pointer (some ⟨Br,0,none⟩)] w fun x w'=>NameRes Br b p w x w':=by
 have H:=hid h;have FA:=hid (fun q er ea e a W (h:PRd W Br b q er ea)=>Tc Br b q er ea e a W h)
 by_cases hst:Zl Xr (b.data.toList.drop p)=true
 ·have hlt:p<b.size:=by
   rcases Nat.lt_or_ge p b.size with h1|h1
   ·exact h1
   ·rw[Zpv b p (by omega)]at hst;cases hst
  have HST:=hid hst;rw[Lg b p hlt]at hst;have NS:=hid (fun m=>hst▸Yk b[p] (w.drewN m));have hpi:(p:Int)<(b.size:Int):=by omega
  have hp0:(0:Int)≤(p:Int):=by omega
  have HD:=hid (show((p:Int)==(b.size:Int))=false from beq_eq_false_iff_ne.2 (by omega))
  obtain⟨c0,c1,c2,c3,f1,f2,f3,lt⟩:=h.cells
  clear h hst
  go_enter Tryz.func144,Tryz.ntmps144
  go_wp2_with fail;have hd:=HD.out
  go_quiet ((go_at_call 164;exact Calls.quiet_of_same (NS.out _)))
  have H2:=hid (H.out.drewN nq);have O2:=hid ((Qf.refl w Br).drewN nq);clear c0 c1 c2 c3 f1 f2 f3 lt H NS HD hd;generalize w.drewN nq=w2 at *
  obtain⟨c0,c1,c2,c3,f1,f2,f3,lt⟩:=H2.out.cells
  go_wp2_with fail
  go_loopg[] b.size (fun g W=>∃q:Nat,p≤q∧q≤b.size∧b.size≤q+g∧((b.data.toList.drop p).take (q-p)).all Zd=true∧PRd W Br b q 0 0∧Qf Br w W)
  case atStart=>exact⟨p,Nat.le_refl _,hp,by omega,by simp,H2.out,O2.out⟩
  case round =>
   obtain⟨q,hple,hqle,hg,hall,st3,o3⟩:=hrel
   rename World=>w3
   clear c0 c1 c2 c3 f1 f2 f3 lt H2 O2;have HG:=hid hg;have ST3:=hid st3;have O3:=hid o3;have HALL:=hid hall;clear hg st3 o3 hall
   obtain⟨c0,c1,c2,c3,f1,f2,f3,lt⟩:=ST3.out.cells
   by_cases hql:q<b.size
   ·have hqi:(q:Int)<(b.size:Int):=by omega
    have hqz:(0:Int)≤(q:Int):=by omega
    cases hnb:Zd b[q]
    ·have NB:=hid (fun m=>hnb▸Yl b[q] (w3.drewN m));have HNM:=hid (show Jh (b.data.toList.drop p)=if q-p≤64 then some ((b.data.toList.drop p).take (q-p),(b.data.toList.drop p).drop (q-p))else none from by
      have hl:q-p≤(b.data.toList.drop p).length:=by rw[List.length_drop,←Lib.size_eq];omega
      obtain⟨e1,e2⟩:=Gq (b.data.toList.drop p) (q-p) hl HALL.out (fun c hc=>by
       rw[List.getElem?_drop,show p+(q-p)=q by omega,List.getElem?_eq_getElem (by rw[←Lib.size_eq];exact hql)]at hc;rw[←Option.some.inj hc];exact hnb)
      exact Lh HST.out e1 e2 hl)
     clear HALL hnb HG;go_wp2_with fail
     go_quiet ((go_at_call 165;exact Calls.quiet_of_same (NB.out _)))
     have H4:=hid (ST3.out.drewN nq);have O4:=hid (O3.out.drewN nq);clear c0 c1 c2 c3 f1 f2 f3 lt ST3 O3;generalize w3.drewN nq=w4 at *
     obtain⟨c0,c1,c2,c3,f1,f2,f3,lt⟩:=H4.out.cells
     have hpq:(p:Int)≤(q:Int):=by omega
     have hq0:(0:Int)≤(q:Int):=by omega
     have hqb:(q:Int)≤(b.size:Int):=by omega
     by_cases h64:q-p≤64
     ·have hng:¬(64:Int)<(q:Int)-(p:Int):=by omega
      have HXT:=hid (Gw b p q);go_wp2_with fail
      go_quiet (fail)
      go_wp2_with fail;refine bodyPost_ret (v:=.tuple #[.string (b.extract p q),.bool true]) (by simp[results,Tryz.results144,go_sem]) rfl ?_;exact Or.inl ⟨_,_,q,by rw[HNM.out,if_pos h64],by rw[HXT.out],H4.out.drewN _,hqle,hple,by rw[List.drop_drop];congr 1;omega,O4.out.drewN _⟩
     ·have hng:(64:Int)<(q:Int)-(p:Int):=by omega
      go_wp2_with (go_at_call 82;refine(FA.out q 0 0 3 p w4 H4.out).mono ?_;rintro e w5 ⟨rfl,h5,o5⟩)
      refine bodyPost_ret (v:=.tuple #[.string ⟨#[]⟩,.bool false]) (by simp[results,Tryz.results144,go_sem]) rfl ?_;exact Or.inr ⟨by rw[HNM.out,if_neg h64],rfl,⟨q,3,p,by decide,h5⟩,O4.out.trans o5⟩
    ·have NB:=hid (fun m=>hnb▸Yl b[q] (w3.drewN m));have HA2:=hid (show((b.data.toList.drop p).take (q+1-p)).all Zd=true from by
      have:=Bd (p:=Zd) b p (q-p) (by omega) HALL.out (by simpa[show p+(q-p)=q by omega]using hnb)
      rwa [show q-p+1=q+1-p by omega]at this)
     clear HALL hnb;go_wp2_with fail
     go_quiet ((go_at_call 165;exact Calls.quiet_of_same (NB.out _)))
     have H4:=hid (ST3.out.drewN nq);have O4:=hid (O3.out.drewN nq);clear c0 c1 c2 c3 f1 f2 f3 lt ST3 O3 NB;generalize w3.drewN nq=w4 at *
     obtain⟨c0,c1,c2,c3,f1,f2,f3,lt⟩:=H4.out.cells
     go_wp2_with fail
     go_roundg (gk-1)
     case measure=>have:=HG.out;omega
     case rel=>exact⟨q+1,by omega,by omega,by have:=HG.out;omega,HA2.out,H4.out.setAt (q+1),O4.out.set _ _⟩
   ·have HD:=hid (show decide (q<b.size)=false from decide_eq_false hql);have HNM:=hid (show Jh (b.data.toList.drop p)=if q-p≤64 then some ((b.data.toList.drop p).take (q-p),(b.data.toList.drop p).drop (q-p))else none from by
     have hl:q-p≤(b.data.toList.drop p).length:=by rw[List.length_drop,←Lib.size_eq];omega
     obtain⟨e1,e2⟩:=Gq (b.data.toList.drop p) (q-p) hl HALL.out (fun c hc=>by
      rw[List.getElem?_drop,show p+(q-p)=q by omega,List.getElem?_eq_none (by rw[←Lib.size_eq];omega)]at hc
      cases hc)
     exact Lh HST.out e1 e2 hl)
    clear HALL HG;go_wp2_with fail;have hd:=HD.out
    go_quiet (fail)
    have H4:=hid (ST3.out.drewN nq);have O4:=hid (O3.out.drewN nq);clear c0 c1 c2 c3 f1 f2 f3 lt ST3 O3;generalize w3.drewN nq=w4 at *
    obtain⟨c0,c1,c2,c3,f1,f2,f3,lt⟩:=H4.out.cells
    have hpq:(p:Int)≤(q:Int):=by omega
    have hq0:(0:Int)≤(q:Int):=by omega
    have hqb:(q:Int)≤(b.size:Int):=by omega
    by_cases h64:q-p≤64
    ·have hng:¬(64:Int)<(q:Int)-(p:Int):=by omega
     have HXT:=hid (Gw b p q);go_wp2_with fail
     go_quiet (fail)
     go_wp2_with fail;refine bodyPost_ret (v:=.tuple #[.string (b.extract p q),.bool true]) (by simp[results,Tryz.results144,go_sem]) rfl ?_;exact Or.inl ⟨_,_,q,by rw[HNM.out,if_pos h64],by rw[HXT.out],H4.out.drewN _,hqle,hple,by rw[List.drop_drop];congr 1;omega,O4.out.drewN _⟩
    ·have hng:(64:Int)<(q:Int)-(p:Int):=by omega
     go_wp2_with (go_at_call 82;refine(FA.out q 0 0 3 p w4 H4.out).mono ?_;rintro e w5 ⟨rfl,h5,o5⟩)
     refine bodyPost_ret (v:=.tuple #[.string ⟨#[]⟩,.bool false]) (by simp[results,Tryz.results144,go_sem]) rfl ?_;exact Or.inr ⟨by rw[HNM.out,if_neg h64],rfl,⟨q,3,p,by decide,h5⟩,O4.out.trans o5⟩
 ·have HNN:=hid (Qfh (s:=b.data.toList.drop p) (by simpa using hst))
  by_cases hlt:p<b.size
  ·rw[Lg b p hlt]at hst;have hst:Xr b[p]=false:=by simpa using hst
   have NS:=hid (fun m=>hst▸Yk b[p] (w.drewN m));have hpi:(p:Int)<(b.size:Int):=by omega
   have hp0:(0:Int)≤(p:Int):=by omega
   have HD:=hid (show((p:Int)==(b.size:Int))=false from beq_eq_false_iff_ne.2 (by omega))
   obtain⟨c0,c1,c2,c3,f1,f2,f3,lt⟩:=h.cells
   clear h hst
   go_enter Tryz.func144,Tryz.ntmps144
   go_wp2_with fail;have hd:=HD.out
   go_quiet ((go_at_call 164;exact Calls.quiet_of_same (NS.out _)))
   have H2:=hid (H.out.drewN nq);have O2:=hid ((Qf.refl w Br).drewN nq);clear c0 c1 c2 c3 f1 f2 f3 lt H NS HD hd;generalize w.drewN nq=w2 at *
   obtain⟨c0,c1,c2,c3,f1,f2,f3,lt⟩:=H2.out.cells
   go_wp2_with (go_at_call 82;refine(FA.out p 0 0 160 p w2 H2.out).mono ?_;rintro e w5 ⟨rfl,h5,o5⟩)
   refine bodyPost_ret (v:=.tuple #[.string ⟨#[]⟩,.bool false]) (by simp[results,Tryz.results144,go_sem]) rfl ?_;exact Or.inr ⟨HNN.out,rfl,⟨p,160,p,by decide,h5⟩,O2.out.trans o5⟩
  ·have HD:=hid (show((p:Int)==(b.size:Int))=true from beq_iff_eq.2 (by omega))
   obtain⟨c0,c1,c2,c3,f1,f2,f3,lt⟩:=h.cells
   clear h hst
   go_enter Tryz.func144,Tryz.ntmps144
   go_wp2_with fail;have hd:=HD.out
   go_quiet (fail)
   have H2:=hid (H.out.drewN nq);have O2:=hid ((Qf.refl w Br).drewN nq);clear c0 c1 c2 c3 f1 f2 f3 lt H HD hd;generalize w.drewN nq=w2 at *
   obtain⟨c0,c1,c2,c3,f1,f2,f3,lt⟩:=H2.out.cells
   go_wp2_with (go_at_call 82;refine(FA.out p 0 0 160 p w2 H2.out).mono ?_;rintro e w5 ⟨rfl,h5,o5⟩)
   refine bodyPost_ret (v:=.tuple #[.string ⟨#[]⟩,.bool false]) (by simp[results,Tryz.results144,go_sem]) rfl ?_;exact Or.inr ⟨HNN.out,rfl,⟨p,160,p,by decide,h5⟩,O2.out.trans o5⟩
end
section
open Go.RowKit Go.Lib Go.Sort
def Kt (p:Str×Str):List Value:=[S p.1,S p.2]
def Kz (l:List (Str×Str)):List Value:=l.flatMap Kt
theorem Kn (l:List (Str×Str)):(Kz l).length=l.length * 2:=by
 induction l with
 |nil=>rfl
 |cons a r ih=>simp only[Kz,List.flatMap_cons,List.length_append,List.length_cons]at ih ⊢;rw[ih];simp[Kt];omega
theorem Cz (l:List (Str×Str))(j i:Nat)(h:j<l.length)(hi:i<2):(Kz l)[j * 2+i]?=(Kt l[j])[i]?:=by
 induction l generalizing j with
 |nil=>simp at h
 |cons a r ih =>
  simp only[Kz,List.flatMap_cons]
  cases j with
  |zero=>rw[List.getElem?_append_left (by simp[Kt];omega)];simp
  |succ j =>
   rw[List.getElem?_append_right (by simp[Kt];omega)]
   have:=ih j (by simpa using h)
   simp only[Kz]at this;simp only[Kt,List.length_cons,List.length_nil]at this ⊢;rw[show(j+1) * 2+i-(0+1+1)=j * 2+i by omega,this];rfl
def Qt (w:World)(B:Nat)(v:Value)(l:List Str):Prop:=w.ownsRow B 9 1 v l.length (l.map S)
def Qd (w:World)(B:Nat)(v:Value)(l:List (Str×Str)):Prop:=w.ownsRow B 37 2 v l.length (Kz l)
theorem Qt.shape {w:World}{B:Nat}{v:Value}{l:List Str}(h:Qt w B v l):(v=.slice none 0 0∧l=[]) ∨
  ∃g cap cur,v=.slice (some ⟨g,0,none⟩) l.length cap∧B≤g∧w.heap[g]?=some (.cells cur 9 (0,0))∧l.length≤cap∧cap≤maxLen∧cur.size=cap * 1∧cur.toList.take l.length=l.map S:=by
 rcases h.2 with ⟨h1,h2⟩|⟨g,cap,cur,h1,h2,h3,h4,h5,h6,h7⟩
 ·exact Or.inl ⟨h1,List.eq_nil_of_length_eq_zero h2⟩
 ·exact Or.inr ⟨g,cap,cur,h1,h2,h3,h4,h5,h6,by simpa using h7⟩
theorem Qd.shape {w:World}{B:Nat}{v:Value}{l:List (Str×Str)}(h:Qd w B v l):(v=.slice none 0 0∧l=[]) ∨
  ∃g cap cur,v=.slice (some ⟨g,0,none⟩) l.length cap∧B≤g∧w.heap[g]?=some (.cells cur 37 (0,0))∧l.length≤cap∧cap≤maxLen∧cur.size=cap * 2∧cur.toList.take (l.length * 2)=Kz l:=by
 rcases h.2 with ⟨h1,h2⟩|⟨g,cap,cur,h1,h2,h3,h4,h5,h6,h7⟩
 ·exact Or.inl ⟨h1,List.eq_nil_of_length_eq_zero h2⟩
 ·exact Or.inr ⟨g,cap,cur,h1,h2,h3,h4,h5,h6,h7⟩
theorem Yg {w:World}{g:Nat}{cur:Array Value}{t:TypeId}{xs:List Value}{n:Nat}(hg:w.heap[g]?=some (.cells cur t (0,0)))(ht:cur.toList.take n=xs)(j:Nat)(v:Value)(hv:xs[j]?=some v):w.cell? ⟨g,j,none⟩=some v:=by
 rw[cell_of_row _ _ _ _ _ _ hg];rw[←ht,List.getElem?_take]at hv
 split at hv
 ·simpa using hv
 ·cases hv
def bas (l:List Str):List ByteArray:=l.map fun x=>⟨x.toArray⟩
theorem Zgh (l:List Str)(j:Nat)(h:j<l.length):(bas l).getD j ByteArray.empty=⟨(l[j]).toArray⟩:=by
 simp[bas,List.getD,h]
theorem Zgg (w:World)(B:Nat)(v:Value)(l:List Str)(x:Str)(h:Qt w B v l) :
  Calls Tryz.prog 210 #[v,S x] w fun e w'=>e=.returned (.bool (l.contains x))∧w'=w:=by
 rcases h.shape with ⟨rfl,rfl⟩|⟨g,cap,cur,rfl,hB,hg,hn,hm,hs,ht⟩
 ·exact Tryz.slices_Contains_string_empty none 0 ⟨x.toArray⟩ w
 ·have hlen:(bas l).length=l.length:=by simp[bas]
  have hc:=Tryz.slices_Contains_string g 0 l.length cap (bas l) ⟨x.toArray⟩ w (by omega) (by unfold maxLen at hm;omega) (fun j hj=>by
   have hj':j<l.length:=by omega
   rw[Nat.zero_add,Zgh l j hj'];exact Yg hg ht j _ (by simp[hj',S]))
  refine hc.mono fun e w' hh=>⟨?_,hh.2⟩
  rw[hh.1]
  congr 2
  rw[List.take_of_length_le (by omega),Bool.eq_iff_iff,Lib.containsS_iff];simp only[bas,List.mem_map,List.contains_iff_mem]
  constructor
  ·rintro⟨a,ha,hax⟩
   have:a=x:=by have:=congrArg (fun b:ByteArray=>b.data.toList) hax;simpa using this
   rwa [←this]
  ·exact fun hx=>⟨x,hx,rfl⟩
theorem sort_own (w:World)(B:Nat)(v:Value)(l:List Str)(h:Qt w B v l)(hl:l.length≤1000) :
  Calls Tryz.prog 133 #[v] w fun e w'=>e=.returned (.tuple #[])∧Qt w' B v (l.mergeSort fun x y=>decide (x≤y))∧w.grownBy w' v.ownBlock:=by
 rcases h.shape with ⟨rfl,rfl⟩|⟨g,cap,cur,rfl,hB,hg,hn,hm,hs,ht⟩
 ·exact(Tryz.slices_Sort_string_none none 0 w).mono fun e w' hh=>⟨hh.1,by rw[hh.2];simpa using h,by rw[hh.2];exact⟨rfl,rfl,rfl,Nat.le_refl _,fun _ _ _=>rfl⟩⟩
 ·have hH:Holds encStr w g 0 l.toArray:=holds_of_block hg (by rw[ht];rfl)
  refine(Tryz.slices_Sort_string g 0 cap l w hH (lt_of_block hg) (by omega)).mono fun e w' hh=>⟨hh.1,?_⟩
  obtain⟨n,os,rfl⟩:=hh.2
  refine⟨?_,grownBy_sorted _⟩
  have:=ownsRow_sorted (n:=n) (os:=os) (ss:=l) (ts:=l.mergeSort fun x y=>decide (x≤y)) (by simp) hB hg hn hm hs
  unfold Qt;rw[List.length_mergeSort];exact this
theorem Sx (w:World)(B:Nat)(v:Value)(l:List Str)(h:Qt w B v l)(hl:l.length≤1000000)(hb:(Lib.join l [45]).length≤140737488355328) :
  Calls Tryz.prog 151 #[v,S [45]] w fun e w'=>e=.returned (S (Lib.join l [45]))∧Below w.heap.size w w':=by
 rcases h.shape with ⟨rfl,rfl⟩|⟨g,cap,cur,rfl,hB,hg,hn,hm,hs,ht⟩
 ·exact(Tryz.strings_Join_none none 0 ⟨#[45]⟩ w).mono fun e w' hh=>⟨hh.1,hh.2▸Below.refl _ _⟩
 ·have e1:(bas l).map (·.data.toList)=l:=by simp[bas,Function.comp_def]
  have hlen:(bas l).length=l.length:=by simp[bas]
  have hj:=Tryz.strings_Join g 0 cap (bas l) ⟨#[45]⟩ w (fun j x hx=>by
   rw[Nat.zero_add];refine Yg hg ht j _ ?_;simp only[bas,List.getElem?_map]at hx ⊢
   cases hq:l[j]? with
   |none=>rw[hq]at hx;cases hx
   |some y=>rw[hq]at hx;simp at hx;subst hx;rfl) (lt_of_block hg) (by omega) (by omega) (by rw[e1];exact hb)
  rw[e1,hlen]at hj;exact hj
theorem Zpw (bk:Nat)(key:Str)(x:Str×Str)(W:World)(hk:W.cell? ⟨bk,0,none⟩=some (S key))(hb:bk<W.heap.size) :
  Calls Tryz.prog 212 #[.agg #[S x.1,S x.2],.pointer (some ⟨bk,0,none⟩)] W fun e w'=>e=.returned (.bool (x.1==key))∧Below W.heap.size W w':=by
 unfold S at hk ⊢
 go_enter Tryz.func212,Tryz.ntmps212
 go_wp2
 all_goals go_ret
 all_goals refine⟨Qc ?_,?_⟩
 all_goals first|exact bal _ _|simp[Lib.toList_data]
theorem key_pred (w:World)(bk:Nat)(key:Str)(hk:w.heap[bk]?=some (.cells #[S key] 9 (0,0))) :
  PredBelow Tryz.prog 212 #[.pointer (some ⟨bk,0,none⟩)] (fun x=>.agg (Kt x).toArray) (fun x=>x.1==key) w:=by
 intro W x hb;have hlt:=lt_of_block hk;have h:=Zpw bk key x W ((hb.cell (p:=⟨bk,0,none⟩) hlt).trans (cell_of_one hk)) (Nat.lt_of_lt_of_le hlt hb.size);exact h.mono fun e w' hh=>⟨hh.1,hb.then hh.2⟩
theorem Qtg (lb:Array Value)(w:World) :
  Calls Tryz.prog 146 #[.slice none 0 0,.func (.func 212) #[] lb] w fun e w'=>e=.returned (.int .i64 (-1))∧w'=w:=by
 go_enter Tryz.func146,Tryz.ntmps146
 go_wp2
 refine wp_loop_rounds 1 ?_;rw[rounds_succ]
 go_wp2
 go_ret
 exact⟨rfl,rfl⟩
theorem Qzy (lb:Array Value)(w:World) :
  Calls Tryz.prog 109 #[.slice none 0 0,.func (.func 212) #[] lb] w fun e w'=>e=.returned (.bool false)∧w'=w:=by
 go_enter Tryz.func109,Tryz.ntmps109
 go_wp2_with (go_at_call 146;refine(Qtg _ _).mono ?_;rintro e w' ⟨rfl,rfl⟩)
 go_ret
 exact⟨rfl,rfl⟩
theorem Qfg {w:World}{g:Nat}{cur:Array Value}{l:List (Str×Str)}(hg:w.heap[g]?=some (.cells cur 37 (0,0)))(ht:cur.toList.take (l.length * 2)=Kz l) :
  ∀j,j<l.length→∀i v,(Kt l[j]!)[i]?=some v→w.cell? ⟨g,0+j * 2+i,none⟩=some v:=by
 intro j hj i v hv;have hi:i<2:=by have:=(List.getElem?_eq_some_iff.1 hv).1;simpa[Kt]using this
 rw[Nat.zero_add];refine Yg hg ht _ _ ?_;rw[Cz l j i hj hi]
 rwa [getElem!_pos l j hj]at hv
theorem Xkh (w:World)(B:Nat)(v:Value)(l:List (Str×Str))(bk:Nat)(key:Str)(h:Qd w B v l)(hk:w.heap[bk]?=some (.cells #[S key] 9 (0,0))) :
  Calls Tryz.prog 109 #[v,.func (.func 212) #[] #[.pointer (some ⟨bk,0,none⟩)]] w fun e w'=>e=.returned (.bool (l.any fun p=>p.1==key))∧Below w.heap.size w w':=by
 have eg:∀args w,(callFunc 212 args).run Tryz.prog w=.ok (.enter 212 args) w:=enters_of Tryz.func212 (by kernel_rfl) rfl
 rcases h.shape with ⟨rfl,rfl⟩|⟨g,cap,cur,rfl,hB,hg,hn,hm,hs,ht⟩
 ·exact(Qzy _ w).mono fun e w' hh=>⟨hh.1,hh.2▸Below.refl _ _⟩
 ·have hc:=AnyQ.slices_ContainsFunc Tryz.cfPair 2 Tryz.isAgg37 Tryz.sizeOf37 Kt (fun _=>rfl) (fun x=>x.1==key) 212 #[.pointer (some ⟨bk,0,none⟩)] eg g 0 l.length cap l w (key_pred w bk key hk) (Nat.le_refl _) (by unfold maxLen at hm;omega) (lt_of_block hg) (Qfg hg ht);change Calls Tryz.prog 109 _ _ _ at hc;rw[List.take_length]at hc;exact hc
theorem Zpy (x y:Str×Str)(W:World):Calls Tryz.prog 214 #[.agg #[S x.1,S x.2],.agg #[S y.1,S y.2]] W fun e w'=>e=.returned (.int .i64 (Lib.compareBytes x.1 y.1))∧∃q os',w'=grow (W.drewN q) os':=by
 have hcon:=fun W'=>Tryz.strings_Compare ⟨x.1.toArray⟩ ⟨y.1.toArray⟩ W'
 change ∀W',Calls _ _ _ _ fun e w'=>e=.returned (.int .i64 (Lib.compareBytes x.1 y.1))∧_ at hcon
 generalize Lib.compareBytes x.1 y.1=r at hcon ⊢;unfold S
 go_enter Tryz.func214,Tryz.ntmps214
 go_wp2_with (go_at_call 105;refine(hcon _).mono ?_;rintro e w' ⟨rfl,rfl⟩)
 go_ret
 exact⟨rfl,0,_,by rw[alloc_eq_grow,alloc_eq_grow,grow_grow];rfl⟩
def Lf (x y:Str×Str):Int:=Lib.compareBytes x.1 y.1
theorem Zzk:∀a b:Str,(Lib.compareBytes a b<0)↔a<b
 |[],[]=>by simp[Lib.compareBytes]
 |[],b::ys=>by simp[Lib.compareBytes]
 |a::xs,[]=>by simp[Lib.compareBytes]
 |a::xs,b::ys=>by
  unfold Lib.compareBytes;rw[List.cons_lt_cons_iff]
  by_cases h1:a<b
  ·simp[h1]
  ·by_cases h2:b<a
   ·have h3:¬a=b:=fun e=>by subst e;exact h1 h2
    simp[h1,h2,h3]
   ·have h3:a=b:=UInt8.le_antisymm (UInt8.not_lt.1 h2) (UInt8.not_lt.1 h1);simp only[h1,h2,if_false,h3,true_and,false_or]
    simpa using Zzk xs ys
theorem swo:SWO (ltOf Lf):=by
 have e:∀x y,ltOf Lf x y=decide (x.1<y.1):=fun x y=>by
  show decide (Lib.compareBytes x.1 y.1<0)=_;exact decide_eq_decide.2 (Zzk _ _)
 refine⟨fun x=>?_,fun x y z h1 h2=>?_,fun x y z h1 h2=>?_⟩
 ·rw[e];simp
 ·rw[e]at *;simp only[decide_eq_true_eq]at *;exact List.lt_trans h1 h2
 ·rw[e]at *;simp only[decide_eq_false_iff_not]at *;exact fun h=>by
   have a1:=List.not_lt.1 h1;have a2:=List.not_lt.1 h2;exact absurd (List.le_trans a2 a1) (List.not_le.2 h)
theorem cmpLays (blk off size:Nat)(w:World):CmpLays Tryz.prog 214 #[] Kt 2 Lf blk off size w :=
 fun _ _ _ _ x y=>Zpy x y _
theorem Zzv (l:List (Str×Str)):(flatK Kt 2 l.toArray).toList=Kz l:=by
 apply List.ext_getElem?
 intro t
 by_cases h:t<l.length * 2
 ·have h2:=get_flatK Kt 2 l.toArray t (by simpa using h);rw[getElem!_pos (flatK Kt 2 l.toArray) t (by simpa using h)]at h2;rw[Array.getElem?_toList,Array.getElem?_eq_getElem (by simpa using h),h2];have hq:t / 2<l.length:=by omega
  have e:t=t / 2 * 2+t % 2:=by omega
  have:=Cz l (t / 2) (t % 2) hq (by omega)
  rw[←e]at this;rw[this,getElem!_pos l.toArray (t / 2) (by simpa using hq)];have hm:t % 2<(Kt l[t / 2]).length:=by simp[Kt];omega
  rw[List.getElem?_eq_getElem hm];simp only[List.getElem_toArray];rw[getElem!_pos (Kt l[t / 2]) (t % 2) hm]
 ·rw[List.getElem?_eq_none (by simp;omega),List.getElem?_eq_none (by rw[Kn];omega)]
theorem Tp {w:World}{g:Nat}{cur:Array Value}{l:List (Str×Str)}(hg:w.heap[g]?=some (.cells cur 37 (0,0)))(ht:cur.toList.take (l.length * 2)=Kz l):HoldsK Kt 2 w g 0 l.toArray:=by
 intro j hj;have hj2:j<l.length * 2:=by simpa using hj
 rw[Nat.zero_add,frozen_of_row _ _ _ _ _ hg]
 refine⟨Yg hg ht j _ ?_,rfl⟩
 rw[getElem!_pos _ j hj,←Zzv]
 simp[hj2]
theorem Fw (cur:Array Value)(l:List (Str×Str))(h:l.length * 2≤cur.size):(putCells id 0 (flatK Kt 2 l.toArray) cur).toList.take (l.length * 2)=Kz l:=by
 rw[←Zzv]
 apply List.ext_getElem?
 intro j
 by_cases hj:j<l.length * 2
 ·rw[List.getElem?_take_of_lt hj,Array.getElem?_toList]
  simp[putCells,hj,show j<cur.size by omega]
 ·rw[List.getElem?_take_eq_none (by omega),List.getElem?_eq_none (by simp;omega)]
theorem Qlq (w:World)(B:Nat)(v:Value)(l:List (Str×Str))(h:Qd w B v l)(hl:l.length≤1000)(h0:l≠[]) :
  Calls Tryz.prog 103 #[v,.func (.func 214) #[] #[]] w fun e w'=>e=.returned (.tuple #[])∧
   (∃l':List (Str×Str),l'.Perm l∧l'.Pairwise (fun a b=>¬b.1<a.1)∧Qd w' B v l')∧w.grownBy w' v.ownBlock:=by
 have eg:∀args w,(callFunc 214 args).run Tryz.prog w=.ok (.enter 214 args) w:=enters_of Tryz.func214 (by kernel_rfl) rfl
 rcases h.shape with ⟨rfl,rfl⟩|⟨g,cap,cur,rfl,hB,hg,hn,hm,hs,ht⟩
 ·exact absurd rfl h0
 ·have hc:=AnyQ.slices_SortFunc Tryz.sfPair 2 Tryz.isAgg37 Tryz.sizeOf37 Kt (fun _=>rfl) (fun x v hv=>by simp[Kt]at hv;rcases hv with rfl|rfl <;> rfl) Lf swo 214 #[] g 0 cap l.toArray w eg (cmpLays g 0 _ w) (Tp hg ht) (lt_of_block hg) (by simp;omega);change Calls Tryz.prog 103 _ _ _ at hc;refine hc.mono fun e w' hh=>⟨hh.1,?_⟩
  obtain⟨d',n,os,hp,hsd,rfl⟩:=hh.2
  have hsz:d'.size=l.length:=by simpa using hp.1
  have hperm:d'.toList.Perm l:=by
   have:=hp.2.2
   simp only[List.size_toArray]at this;rw[←hsz]at this;have ht':List.take l.length d'.toList=d'.toList:=List.take_of_length_le (by simp[hsz])
   simpa[hsz,ht']using this
  refine⟨⟨d'.toList,hperm,?_,?_⟩,?_⟩
  ·rw[List.pairwise_iff_getElem];intro i j hi hj hij
   have:=hsd i j (Nat.zero_le _) hij (by simp at hj ⊢;omega)
   rw[getElem!_pos _ i (by simpa using hi),getElem!_pos _ j (by simpa using hj)]at this;intro hlt;have h2:ltOf Lf d'[j] d'[i]=true:=by
    show decide (Lib.compareBytes _ _<0)=true;exact decide_eq_true ((Zzk _ _).2 (by simpa using hlt))
   rw[this]at h2;cases h2
  ·have hlen:d'.toList.length=l.length:=hperm.length_eq
   refine⟨Kn _,Or.inr ⟨g,cap,putCells id 0 (flatK Kt 2 d') cur,by rw[hlen],hB,?_,by omega,hm,by simpa[putCells]using hs,?_⟩⟩
   ·unfold sortWorldK putRowK;rw[heap_grow_old _ _ (by simpa using lt_of_block hg)]
    simp[putRow,mapBlock,Sort.ahead,Array.getElem?_modify,hg,onCells]
   ·have:=Fw cur d'.toList (by rw[hlen,hs];omega)
    simpa using this
  ·refine⟨rfl,rfl,rfl,by simp[sortWorldK,putRowK],fun k hk hne=>?_⟩
   unfold sortWorldK putRowK;rw[heap_grow_old _ _ (by simpa using hk)]
   have:g≠k:=fun e=>hne (by rw[e];rfl)
   simp[putRow,mapBlock,Sort.ahead,Array.getElem?_modify,this]
end
end Go.Proofs.YtbbmdbolkicpcabGreatDoor
namespace Go
def Exit.jumps (J:Nat→Act→World→Prop)(Q:Exit→Act→World→Prop):Exit→Act→World→Prop
 | .goto l,a,w=>J l a w
 |e,a,w=>Q e a w
theorem Bj {P:Program}{a:Act}{w:World}{Q:Exit→Act→World→Prop}{c:Code}(J:Nat→Nat→Act→World→Prop)
  (first:c.wp P (Exit.jumps (fun l a w=>∃n,J l n a w) Q) a w)
  (pass:∀l n a w,J l n a w→∃rest,findLabel c l=some rest∧rest.wp P (Exit.jumps (fun l' a' w'=>∃n',n'<n∧J l' n' a' w') Q) a w):(Code.scope c).wp P Q a w:=by
 intro b k cs;have key:∀n l a w rest,J l n a w→findLabel c l=some rest→∃e a' w',Q e a' w'∧Arrives P (lone (b.at a (.code rest::.inScope c::k)) cs w) b k cs e a' w':=by
  intro n
  induction n using Nat.strongRecOn with
  |_ n ih =>
   intro l a w rest hJ hf
   obtain⟨rest',hf',hp⟩:=pass l n a w hJ
   rw[hf]at hf'
   injection hf' with hf'
   subst hf'
   obtain⟨e,a₁,w₁,hq,harr⟩:=hp b (.inScope c::k) cs
   cases e with
   |normal=>exact⟨.normal,a₁,w₁,hq,Steps.trans harr (.one step_inScope)⟩
   |exit id=>exact⟨.exit id,a₁,w₁,hq,fun k' hk=>harr k' (by simp[exitTo,hk])⟩
   |goto l' =>
    obtain⟨n',hlt,hJ'⟩:=hq
    obtain⟨rest2,hf2,_⟩:=pass l' n' a₁ w₁ hJ'
    have hg:gotoIn l' (.inScope c::k)=some (.code rest2::.inScope c::k):=by simp[gotoIn,hf2]
    obtain⟨e₂,a₂,w₂,hq₂,harr₂⟩:=ih n' hlt l' a₁ w₁ rest2 hJ' hf2
    exact⟨e₂,a₂,w₂,hq₂,.of_steps (harr _ hg) harr₂⟩
   |ret=>exact⟨_,a₁,w₁,hq,harr⟩
   |panic ch=>exact⟨_,a₁,w₁,hq,harr⟩
   |outgrown=>exact⟨_,a₁,w₁,hq,harr⟩
 obtain⟨e,a₁,w₁,hq,harr⟩:=first b (.inScope c::k) cs
 cases e with
 |normal=>exact⟨.normal,a₁,w₁,hq,.head step_scope (Steps.trans harr (.one step_inScope))⟩
 |exit id=>exact⟨.exit id,a₁,w₁,hq,fun k' hk=>.head step_scope (harr k' (by simp[exitTo,hk]))⟩
 |goto l' =>
  obtain⟨n',hJ'⟩:=hq
  obtain⟨rest2,hf2,_⟩:=pass l' n' a₁ w₁ hJ'
  have hg:gotoIn l' (.inScope c::k)=some (.code rest2::.inScope c::k):=by simp[gotoIn,hf2]
  obtain⟨e₂,a₂,w₂,hq₂,harr₂⟩:=key n' l' a₁ w₁ rest2 hJ' hf2
  exact⟨e₂,a₂,w₂,hq₂,.of_steps (.head step_scope (harr _ hg)) harr₂⟩
 |ret=>exact⟨_,a₁,w₁,hq,.of_steps (.one step_scope) harr⟩
 |panic ch=>exact⟨_,a₁,w₁,hq,.of_steps (.one step_scope) harr⟩
 |outgrown=>exact⟨_,a₁,w₁,hq,.of_steps (.one step_scope) harr⟩
end Go
namespace Go.Proofs.YtbbmdbolkicpcabGreatDoor
open Go.RowKit Go.Lib Go.Sort
def Xw:Value:=.slice none 0 0
def Qv (t:Tg)(vv kv:Value):Array Value:=#[S t.lang,S t.script,S t.region,vv,kv]
structure St (B Br Bp:Nat)(w0 w:World)(vv kv:Value)(t:Tg)(r:Rd):Prop where
 bel:Below B w0 w
 h0:w.heap[B]?=some (.cells (Qv Tg.zero Xw Xw) 160 (0,0))
 h1:w.heap[B+1]?=some (.cells #[.int .i64 0,.int .i64 0] 78 (0,0))
 ht:w.heap[B+2]?=some (.cells (Qv t vv kv) 160 (0,0))
 hr:w.heap[Br]?=some (.cells (rdr r.rest r.pos r.sub true r.fin) 253 (0,0))
 hp:w.heap[Bp]?=some (.cells #[.pointer (some ⟨Br,0,none⟩)] 251 (0,0))
 os:Qt w B vv t.vars
 op:Qd w B kv t.keys
 lo:B+3≤Br
theorem Qx {w:World}{base:Nat}{e:TypeId}{size:Nat}{v:Value}{n:Nat}{xs:List Value}(h:w.ownsRow base e size v n xs){b:Nat}{cs:Array Value}{t:TypeId}(hb:w.heap[b]?=some (.cells cs t (0,0)))(hne:e≠t):v.ownBlock≠some b:=by
 rcases h.2 with ⟨rfl,_⟩|⟨g,cap,cur,rfl,_,hg,_⟩
 ·simp[Value.ownBlock]
 ·simp only[Value.ownBlock];intro e
  injection e with e
  rw[e,hb]at hg
  injection hg with hg
  injection hg with _ h2 _
  exact hne h2.symm
theorem Qbq {w w1:World}(h:Below w.heap.size w w1):w.grownBy w1 none:=⟨h.os,h.tape,h.output,h.size,fun k hk _=>h.block k hk⟩
theorem Qz {w w1:World}{base:Nat}{e:TypeId}{size:Nat}{v:Value}{n:Nat}{xs:List Value}(h:w.ownsRow base e size v n xs)(hb:Below w.heap.size w w1):w1.ownsRow base e size v n xs :=
 h.kept (Qbq hb) (by cases v.ownBlock <;> simp)
section
variable {B Br Bp:Nat}{w0 w w1:World}{vv kv:Value}{t:Tg}{r:Rd}
theorem St.below (st:St B Br Bp w0 w vv kv t r)(h:Below w.heap.size w w1):St B Br Bp w0 w1 vv kv t r:=by
 have k:∀b o,w.heap[b]?=some o→w1.heap[b]?=some o:=fun b o hb=>by rw[h.block b (lt_of_block hb)];exact hb
 have hB:B≤w.heap.size:=Nat.le_of_lt (lt_of_block st.h0)
 exact⟨st.bel.trans (h.mono hB),k _ _ st.h0,k _ _ st.h1,k _ _ st.ht,k _ _ st.hr,k _ _ st.hp,Qz st.os h,Qz st.op h,st.lo⟩
theorem St.drew (st:St B Br Bp w0 w vv kv t r):St B Br Bp w0 w.drew vv kv t r :=
 ⟨st.bel.drew,st.h0,st.h1,st.ht,st.hr,st.hp,st.os,st.op,st.lo⟩
theorem Dk {w:World}{a b:Nat}{c d:Array Value}{e f:TypeId}(h:w.heap[a]?=some (.cells c e (0,0)))(k:w.heap[b]?=some (.cells d f (0,0)))(hne:e≠f):a≠b:=by
 intro e1;subst e1;rw[h]at k;injection k with k;injection k with _ k2 _;exact hne k2
theorem St.read (st:St B Br Bp w0 w vv kv t r){r':Rd}(h:w1.heap[Br]?=some (.cells (rdr r'.rest r'.pos r'.sub true r'.fin) 253 (0,0))∧Qf Br w w1):St B Br Bp w0 w1 vv kv t r':=by
 obtain⟨h,ho⟩:=h
 have k:∀b o,w.heap[b]?=some o→b≠Br→w1.heap[b]?=some o:=fun b o hb hne=>by rw[ho.block b (lt_of_block hb) (fun e=>hne (Option.some.inj e))];exact hb
 have hB:B≤w.heap.size:=Nat.le_of_lt (lt_of_block st.h0);have lo:=st.lo
 refine⟨st.bel.grown ho hB (fun k hk=>by injection hk with hk;omega),k _ _ st.h0 (by omega),k _ _ st.h1 (by omega),k _ _ st.ht (by omega),h,k _ _ st.hp (Dk st.hp st.hr (by decide)),?_,?_,lo⟩
 ·exact World.ownsRow.kept st.os ho (Or.inr (Qx st.os st.hr (by decide)))
 ·exact World.ownsRow.kept st.op ho (Or.inr (Qx st.op st.hr (by decide)))
theorem St.set (st:St B Br Bp w0 w vv kv t r)(i:Nat)(x:Value){t':Tg}{vv' kv':Value}(hc:(Qv t vv kv).setIfInBounds i x=Qv t' vv' kv')
  (os:Qt w B vv' t'.vars)(op:Qd w B kv' t'.keys):St B Br Bp w0 (w.setCell ⟨B+2,i,none⟩ x) vv' kv' t' r:=by
 have hB:B≤w.heap.size:=Nat.le_of_lt (lt_of_block st.h0);have lo:=st.lo;have k:∀b o,w.heap[b]?=some o→b≠B+2→(w.setCell ⟨B+2,i,none⟩ x).heap[b]?=some o:=fun b o hb hne=>by rw[heap_setCell_other _ _ _ _ hne];exact hb
 refine⟨st.bel.setCell (by simp) _,k _ _ st.h0 (by omega),k _ _ st.h1 (by omega),?_,k _ _ st.hr (by omega),k _ _ st.hp (Dk st.hp st.ht (by decide)),?_,?_,lo⟩
 ·rw[heap_setCell_same _ _ _ _ _ _ st.ht,hc]
 ·exact ownsRow_setCell_other os (Qx os st.ht (by decide)) _
 ·exact ownsRow_setCell_other op (Qx op st.ht (by decide)) _
theorem St.grown (st:St B Br Bp w0 w vv kv t r){b:Option Nat}(h:w.grownBy w1 b)(hlo:∀k,b=some k→B≤k)(hne:∀k cs e,b=some k→w.heap[k]?=some (.cells cs e (0,0))→e=9∨e=37)
  {vv' kv':Value}{t':Tg} (hc:Qv t vv kv=Qv t' vv' kv') (os:Qt w1 B vv' t'.vars) (op:Qd w1 B kv' t'.keys):St B Br Bp w0 w1 vv' kv' t' r:=by
 have hB:B≤w.heap.size:=Nat.le_of_lt (lt_of_block st.h0);have k:∀(b1:Nat) (cs:Array Value) (e:TypeId),w.heap[b1]?=some (.cells cs e (0,0))→e≠9→e≠37→w1.heap[b1]?=some (.cells cs e (0,0)):=fun b1 cs e hb n1 n2=>by
  rw[h.block b1 (lt_of_block hb) (fun e1=>by
   rcases hne b1 cs e e1.symm hb with h1|h1
   ·exact n1 h1
   ·exact n2 h1)]
  exact hb
 refine⟨st.bel.grown h hB hlo,k _ _ _ st.h0 (by decide) (by decide),k _ _ _ st.h1 (by decide) (by decide),?_,k _ _ _ st.hr (by decide) (by decide),k _ _ _ st.hp (by decide) (by decide),os,op,st.lo⟩
 rw[←hc];exact k _ _ _ st.ht (by decide) (by decide)
theorem Zfq {w:World}{B:Nat}{l1:List Str}{l2:List (Str×Str)}(a:Qt w B vv l1)(b:Qd w B kv l2):(vv.ownBlock=none∨vv.ownBlock≠kv.ownBlock)∧(kv.ownBlock=none∨kv.ownBlock≠vv.ownBlock):=by
 rcases b.shape with ⟨rfl,_⟩|⟨g,cap,cur,rfl,_,hg,_⟩
 ·refine⟨?_,Or.inl rfl⟩
  cases h:vv.ownBlock with
  |none=>exact Or.inl rfl
  |some x=>exact Or.inr (by simp[Value.ownBlock])
 ·have h:=Qx a hg (by decide)
  exact⟨Or.inr h,Or.inr (fun e=>h e.symm)⟩
theorem Ld {w:World}{base:Nat}{e:TypeId}{size:Nat}{v:Value}{n:Nat}{xs:List Value}(h:w.ownsRow base e size v n xs):∀(k:Nat)(cs:Array Value)(e':TypeId),v.ownBlock=some k→w.heap[k]?=some (.cells cs e' (0,0))→e'=e:=by
 intro k cs e' hk hb
 rcases h.2 with ⟨rfl,_⟩|⟨g,cap,cur,rfl,_,hg,_⟩
 ·simp[Value.ownBlock]at hk
 ·simp only[Value.ownBlock]at hk
  injection hk with hk
  rw[hk,hb]at hg
  injection hg with hg
  injection hg
theorem Zc {l:List Str}(h:Qt w B vv l):∃ao cp,vv=.slice ao l.length cp:=by
 rcases h.shape with ⟨rfl,rfl⟩|⟨g,cap,cur,rfl,_⟩
 ·exact⟨none,0,rfl⟩
 ·exact⟨_,_,rfl⟩
theorem Zx {l:List (Str×Str)}(h:Qd w B kv l):∃ao cp,kv=.slice ao l.length cp:=by
 rcases h.shape with ⟨rfl,rfl⟩|⟨g,cap,cur,rfl,_⟩
 ·exact⟨none,0,rfl⟩
 ·exact⟨_,_,rfl⟩
theorem St.sortP (st:St B Br Bp w0 w vv kv t r){l:List (Str×Str)}(op:Qd w1 B kv l)(h:w.grownBy w1 kv.ownBlock):St B Br Bp w0 w1 vv kv { t with keys:=l } r :=
 st.grown h (fun k hk=>(World.ownsRow.lt st.op k hk).1) (fun k cs e hk hb=>Or.inr (Ld st.op k cs e hk hb)) rfl (World.ownsRow.kept st.os h (Zfq st.os st.op).1) op
theorem St.sortS (st:St B Br Bp w0 w vv kv t r){l:List Str}(os:Qt w1 B vv l)(h:w.grownBy w1 vv.ownBlock):St B Br Bp w0 w1 vv kv { t with vars:=l } r :=
 st.grown h (fun k hk=>(World.ownsRow.lt st.os k hk).1) (fun k cs e hk hb=>Or.inl (Ld st.os k cs e hk hb)) rfl os (World.ownsRow.kept st.op h (Zfq st.os st.op).2)
theorem St.app (st:St B Br Bp w0 w vv kv t r){b:Option Nat}(h:w.grownBy w1 b)(hlo:∀k,b=some k→B≤k)(hne:∀(k:Nat)(cs:Array Value)(e:TypeId),b=some k→w.heap[k]?=some (.cells cs e (0,0))→e=9∨e=37)
  (i:Nat)(x:Value){vv' kv':Value}{t':Tg}(hc:(Qv t vv kv).setIfInBounds i x=Qv t' vv' kv')(os:Qt w1 B vv' t'.vars)(op:Qd w1 B kv' t'.keys):St B Br Bp w0 (w1.setCell ⟨B+2,i,none⟩ x) vv' kv' t' r:=by
 have hB:B≤w.heap.size:=Nat.le_of_lt (lt_of_block st.h0);have lo:=st.lo;have k:∀(b1:Nat) (cs:Array Value) (e:TypeId),w.heap[b1]?=some (.cells cs e (0,0))→e≠9→e≠37→w1.heap[b1]?=some (.cells cs e (0,0)):=fun b1 cs e hb n1 n2=>by
  rw[h.block b1 (lt_of_block hb) (fun e1=>by
   rcases hne b1 cs e e1.symm hb with h1|h1
   ·exact n1 h1
   ·exact n2 h1)]
  exact hb
 have k2:∀(b1:Nat) (cs:Array Value) (e:TypeId),w.heap[b1]?=some (.cells cs e (0,0))→e≠9→e≠37→b1≠B+2→(w1.setCell ⟨B+2,i,none⟩ x).heap[b1]?=some (.cells cs e (0,0)):=fun b1 cs e hb n1 n2 n3=>by
  rw[heap_setCell_other _ _ _ _ n3];exact k b1 cs e hb n1 n2
 have ht1:=k _ _ _ st.ht (by decide) (by decide)
 refine⟨(st.bel.grown h hB hlo).setCell (by simp) _,k2 _ _ _ st.h0 (by decide) (by decide) (by omega),k2 _ _ _ st.h1 (by decide) (by decide) (by omega),?_,k2 _ _ _ st.hr (by decide) (by decide) (by omega),k2 _ _ _ st.hp (by decide) (by decide) (Dk st.hp st.ht (by decide)),?_,?_,lo⟩
 ·rw[heap_setCell_same _ _ _ _ _ _ ht1,hc]
 ·exact ownsRow_setCell_other os (Qx os ht1 (by decide)) _
 ·exact ownsRow_setCell_other op (Qx op ht1 (by decide)) _
theorem St.appP (st:St B Br Bp w0 w vv kv t r){l:List (Str×Str)}{kv':Value}(op:Qd w1 B kv' l)(h:w.grownBy w1 kv.ownBlock):St B Br Bp w0 (w1.setCell ⟨B+2,4,none⟩ kv') vv kv' { t with keys:=l } r :=
 st.app h (fun k hk=>(World.ownsRow.lt st.op k hk).1) (fun k cs e hk hb=>Or.inr (Ld st.op k cs e hk hb)) 4 kv' (by simp[Qv]) (World.ownsRow.kept st.os h (Zfq st.os st.op).1) op
theorem St.appS (st:St B Br Bp w0 w vv kv t r){l:List Str}{vv':Value}(os:Qt w1 B vv' l)(h:w.grownBy w1 vv.ownBlock):St B Br Bp w0 (w1.setCell ⟨B+2,3,none⟩ vv') vv' kv { t with vars:=l } r :=
 st.app h (fun k hk=>(World.ownsRow.lt st.os k hk).1) (fun k cs e hk hb=>Or.inl (Ld st.os k cs e hk hb)) 3 vv' (by simp[Qv]) os (World.ownsRow.kept st.op h (Zfq st.os st.op).2)
structure Low (B Br Bp B2:Nat)(vv kv:Value):Prop where
 a:B+2<B2
 b:Br<B2
 c:Bp<B2
 v:∀k,vv.ownBlock=some k→k<B2
 k:∀k,kv.ownBlock=some k→k<B2
theorem St.low (st:St B Br Bp w0 w vv kv t r):Low B Br Bp w.heap.size vv kv :=
 ⟨lt_of_block st.ht,lt_of_block st.hr,lt_of_block st.hp,fun k hk=>(World.ownsRow.lt st.os k hk).2,fun k hk=>(World.ownsRow.lt st.op k hk).2⟩
theorem Xcq {w w1:World}{base B2:Nat}{e:TypeId}{size:Nat}{v:Value}{n:Nat}{xs:List Value}(h:w.ownsRow base e size v n xs)(hv:∀k,v.ownBlock=some k→k<B2)(hb:Below B2 w w1):w1.ownsRow base e size v n xs:=by
 refine⟨h.1,?_⟩
 rcases h.2 with h1|⟨g,cap,cur,rfl,h2,h3,h4⟩
 ·exact Or.inl h1
 ·exact Or.inr ⟨g,cap,cur,rfl,h2,by rw[hb.block g (hv g rfl)];exact h3,h4⟩
theorem St.above (st:St B Br Bp w0 w vv kv t r){B2:Nat}(l:Low B Br Bp B2 vv kv)(h:Below B2 w w1):St B Br Bp w0 w1 vv kv t r:=by
 have la:=l.a;have k:∀b o,b<B2→w.heap[b]?=some o→w1.heap[b]?=some o:=fun b o hl hb=>by rw[h.block b hl];exact hb
 exact⟨st.bel.trans (h.mono (by omega)),k _ _ (by omega) st.h0,k _ _ (by omega) st.h1,k _ _ (by omega) st.ht,k _ _ l.b st.hr,k _ _ l.c st.hp,Xcq st.os l.v h,Xcq st.op l.k h,st.lo⟩
theorem St.next (st:St B Br Bp w0 w vv kv t r)(hall:r.all≤128):Calls Tryz.prog 203 #[.pointer (some ⟨Br,0,none⟩)] w fun e w'=>e=.returned (.tuple #[])∧(w'.heap[Br]?=some (.cells (rdr r.next.rest r.next.pos r.next.sub true r.next.fin) 253 (0,0))∧Qf Br w w'):=by
 have h:=st.hr;unfold Rd.all at hall;unfold Rd.next
 cases hr:r.rest with
 |nil=>rw[hr]at h;exact Zpk Br r.pos r.sub true r.fin w (by omega) (by omega) h
 |cons c l=>rw[hr]at h hall;exact next_more Br c l r.pos r.sub r.fin w (by simp at hall;omega) (by omega) (by omega) h
theorem St.cp (st:St B Br Bp w0 w vv kv t r):w.cell? ⟨Bp,0,none⟩=some (.pointer (some ⟨Br,0,none⟩)):=cell_of_one st.hp
theorem St.cr1 (st:St B Br Bp w0 w vv kv t r):w.cell? ⟨Br,1,none⟩=some (.int .i64 r.pos):=cR st.hr
theorem St.cr2 (st:St B Br Bp w0 w vv kv t r):w.cell? ⟨Br,2,none⟩=some (.string ⟨r.sub.toArray⟩):=cR st.hr
theorem St.cr4 (st:St B Br Bp w0 w vv kv t r):w.cell? ⟨Br,4,none⟩=some (.bool r.fin):=cR st.hr
theorem St.ct0 (st:St B Br Bp w0 w vv kv t r):w.cell? ⟨B+2,0,none⟩=some (.string ⟨t.lang.toArray⟩):=cR st.ht
theorem St.ct1 (st:St B Br Bp w0 w vv kv t r):w.cell? ⟨B+2,1,none⟩=some (.string ⟨t.script.toArray⟩):=cR st.ht
theorem St.ct2 (st:St B Br Bp w0 w vv kv t r):w.cell? ⟨B+2,2,none⟩=some (.string ⟨t.region.toArray⟩):=cR st.ht
theorem St.ct3 (st:St B Br Bp w0 w vv kv t r):w.cell? ⟨B+2,3,none⟩=some vv:=cR st.ht
theorem St.ct4 (st:St B Br Bp w0 w vv kv t r):w.cell? ⟨B+2,4,none⟩=some kv:=cR st.ht
theorem St.z0 (st:St B Br Bp w0 w vv kv t r):w.cell? ⟨B,0,none⟩=some (.string ⟨#[]⟩):=cR st.h0
theorem St.z1 (st:St B Br Bp w0 w vv kv t r):w.cell? ⟨B,1,none⟩=some (.string ⟨#[]⟩):=cR st.h0
theorem St.z2 (st:St B Br Bp w0 w vv kv t r):w.cell? ⟨B,2,none⟩=some (.string ⟨#[]⟩):=cR st.h0
theorem St.z3 (st:St B Br Bp w0 w vv kv t r):w.cell? ⟨B,3,none⟩=some (.slice none 0 0):=cR st.h0
theorem St.z4 (st:St B Br Bp w0 w vv kv t r):w.cell? ⟨B,4,none⟩=some (.slice none 0 0):=cR st.h0
theorem St.fz (st:St B Br Bp w0 w vv kv t r)(j:Nat):w.frozen? ⟨B,j,none⟩=false:=frozen_of_row _ _ _ _ _ st.h0
theorem St.y0 (st:St B Br Bp w0 w vv kv t r):w.cell? ⟨B+1,0,none⟩=some (.int .i64 0):=cR st.h1
theorem St.y1 (st:St B Br Bp w0 w vv kv t r):w.cell? ⟨B+1,1,none⟩=some (.int .i64 0):=cR st.h1
theorem St.fy (st:St B Br Bp w0 w vv kv t r)(j:Nat):w.frozen? ⟨B+1,j,none⟩=false:=frozen_of_row _ _ _ _ _ st.h1
theorem St.ft (st:St B Br Bp w0 w vv kv t r)(j:Nat):w.frozen? ⟨B+2,j,none⟩=false:=frozen_of_row _ _ _ _ _ st.ht
end
def Qbz (B:Nat)(w0:World)(x:Res)(e:Ending)(w':World):Prop :=
 ∃vv kv,e=.returned (.tuple #[.agg (Qv x.tag vv kv),.agg #[.int .i64 x.err,.int .i64 x.pos]])∧Qt w' B vv x.tag.vars∧Qd w' B kv x.tag.keys∧Below B w0 w'
theorem Zzw:(Tryz.prog.info? 9).map (fun i=>(i.zero,i.size,i.bytes))=some (some (.string ⟨#[]⟩),1,16):=by kernel_rfl
theorem Zph:(Tryz.prog.info? 37).map (fun i=>(i.zero,i.size,i.bytes))=some (some (.agg #[.string ⟨#[]⟩,.string ⟨#[]⟩]),2,32):=by kernel_rfl
theorem Xh {w:World}{base:Nat}{e:TypeId}{size:Nat}{v:Value}{n m:Nat}{xs ys:List Value}(h:w.ownsRow base e size v n xs)(hn:m=n)(hx:ys=xs):w.ownsRow base e size v m ys:=by rw[hn,hx];exact h
theorem Qbx {l:List (Str×Str)}{key v:Str}(h:(l.any fun p=>p.1==key)=false)(hn:(l.map (·.1)).Nodup):((l++[(key,v)]).map (·.1)).Nodup:=by
 rw[List.map_append,List.nodup_append]
 refine⟨hn,by simp,fun a ha b hb=>?_⟩
 simp only[List.map_cons,List.map_nil,List.mem_singleton]at hb;subst hb
 obtain⟨p,hp,rfl⟩:=List.mem_map.1 ha
 have:=List.any_eq_false.1 h p hp
 simpa using this
end Go.Proofs.YtbbmdbolkicpcabGreatDoor
