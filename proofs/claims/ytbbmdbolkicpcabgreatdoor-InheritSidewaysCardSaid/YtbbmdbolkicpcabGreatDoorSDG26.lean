/- InhWakes -/
import Derived.Test.YtbbmdbolkicpcabGreatDoorSDG25
set_option maxRecDepth 100000
set_option maxHeartbeats 32000000
set_option linter.unusedVariables false
set_option linter.unusedSimpArgs false
namespace Go.Proofs.YtbbmdbolkicpcabGreatDoor
section
open Go.RowKit Go.Lib Go.Sort Go.Maps Go.WideMaps
abbrev Xdh:Array Value:=#[.string ⟨#[97,47,98]⟩,.string ⟨#[49]⟩,.bool false,.string ⟨#[]⟩,.int .i64 0,.string ⟨#[99]⟩,.string ⟨#[46,46,47,97]⟩,.bool true,.string ⟨#[]⟩,.int .i64 0]
theorem w14_rd {w:World}:RdD ((w.alloc (.cells #[.string ⟨#[97,47,98]⟩,.string ⟨#[49]⟩,.bool false,.string ⟨#[]⟩,.int .i64 0,.string ⟨#[99]⟩,.string ⟨#[46,46,47,97]⟩,.bool true,.string ⟨#[]⟩,.int .i64 0] 53)).alloc (.cells #[.string ⟨#[114,111,111,116]⟩,.bool false,.slice (some ⟨w.heap.size,0,none⟩) 2 2] 56)) (.slice (some ⟨w.heap.size+1,0,none⟩) 1 1) [Xjg]:=by
 have z1:(w.alloc (.cells Xdh 53)).heap.size=w.heap.size+1:=by simp
 have e1:=heap_alloc_new (w.alloc (.cells Xdh 53)) (.cells #[.string ⟨#[114,111,111,116]⟩,.bool false,.slice (some ⟨w.heap.size,0,none⟩) 2 2] 56);rw[z1]at e1;have e0:=(Below.heap_alloc (w.alloc (.cells Xdh 53)) (.cells #[.string ⟨#[114,111,111,116]⟩,.bool false,.slice (some ⟨w.heap.size,0,none⟩) 2 2] 56) w.heap.size (by rw[z1];omega)).trans (heap_alloc_new w _)
 refine⟨[(Xjg,(some ⟨w.heap.size,0,none⟩,2))],rfl,RdL.of_row (l:=[(Xjg,(some ⟨w.heap.size,0,none⟩,2))]) (cp:=1) encD e1 rfl (by simp) (by simp),fun z hz=>?_⟩
 rw[List.mem_singleton.1 hz];exact RdL.of_row (l:=w14I) (cp:=2) encI e0 rfl (by simp[w14I]) (by simp[w14I])
theorem w14_sz:SzD [Xjg]:=by
 refine⟨fun d hd=>?_,by simp[Qyk,Xjg,w14I,maxLen]⟩
 rw[List.mem_singleton.1 hd]
 refine⟨by simp[Xjg,maxLen],fun x hx=>?_⟩
 simp only[Xjg,w14I,List.mem_cons,List.not_mem_nil,or_false]at hx
 rcases hx with rfl|rfl <;> simp[maxLen]
theorem w14_szt:SzT By:=by
 constructor
 all_goals (intro r hr;simp only[By,List.mem_singleton]at hr;subst hr;simp[maxLen])
theorem Xrh:szA Cs:=fun x hx=>by
 simp only[Cs,List.mem_singleton]at hx;subst hx
 simp[maxLen]
theorem w14_hav:∀g∈Vc By,g.1.length≤maxLen∧g.2.length≤1048576:=by
 have e:Vc By=[([99],[46,46,47,97])]:=by decide +kernel
 rw[e];intro g hg;rw[List.mem_singleton.1 hg]
 simp[maxLen]
theorem Rf {W:World}{g i:Nat}{cs:Array Value}{t:TypeId}{v:Value}(h:W.heap[g]?=some (.cells cs t (0,0)))(hv:cs[i]?=some v):W.setCell ⟨g,i,none⟩ v=W:=by
 have hh:(W.setCell ⟨g,i,none⟩ v).heap=W.heap:=by
  apply Array.ext_getElem?
  intro k
  by_cases hk:k=g
  ·subst hk;rw[heap_setCell_same _ _ _ _ _ _ h,h]
   congr 2
   apply Array.ext_getElem?
   intro j
   by_cases hj:i=j
   ·subst hj;rw[Array.getElem?_setIfInBounds_self_of_lt (Array.getElem?_eq_some_iff.1 hv).1,hv]
   ·rw[Array.getElem?_setIfInBounds_ne hj]
  ·exact heap_setCell_other _ _ _ _ hk
 have e:W.setCell ⟨g,i,none⟩ v={ W with heap:=(W.setCell ⟨g,i,none⟩ v).heap }:=rfl;rw[e,hh]
theorem Zmg (w:World)(hT:Hk w.heap.size w):Calls Tryz.prog 6 #[] w fun e w'=>e=.returned (.bool true)∧Below w.heap.size w w':=by
 have HT:=hid (fun W (h:Below w.heap.size w W)=>(show Hk W.heap.size W from⟨(hT.below h).1,Nat.lt_of_lt_of_le hT.2.1 h.size,Nat.lt_of_lt_of_le hT.2.2 h.size⟩));have HB1:=hid (show Below w.heap.size w ((w.alloc (.cells #[.string ⟨#[97,47,98]⟩,.string ⟨#[49]⟩,.bool false,.string ⟨#[]⟩,.int .i64 0,.string ⟨#[99]⟩,.string ⟨#[46,46,47,97]⟩,.bool true,.string ⟨#[]⟩,.int .i64 0] 53)).alloc (.cells #[.string ⟨#[114,111,111,116]⟩,.bool false,.slice (some ⟨w.heap.size,0,none⟩) 2 2] 56)) from(bal _ _).alloc (by simp) _);have NW:=hid (tnew_any _ _ _ (w14_rd (w:=w)) w14_sz);clear hT
 go_enter Tryz.func6,Tryz.ntmps6
 go_wp2_with fail;refine NW.out.mono ?_;rintro e w1 ⟨hb1,hx⟩;rw[w14_new]at hx
 rcases hx with ⟨_,Bt,bv,ba,bn,bp,N,V,rfl,tb,ok⟩|⟨h,_⟩
 ·have B1:=hid (HB1.out.trans (hb1.mono HB1.out.size));have OK:=hid ok;have A2:=hid (bal w1 (.cells #[.int .i64 0,.int .i64 0,.int .i64 0] 49));have F2:=hid (heap_alloc_new w1 (.cells #[.int .i64 0,.int .i64 0,.int .i64 0] 49));have T2:=hid (show TbP _ (w1.alloc (.cells #[.int .i64 0,.int .i64 0,.int .i64 0] 49)) Bt By from⟨bv,ba,bn,bp,N,V,tb.below A2.out⟩);have B2:=hid (B1.out.then A2.out);clear hb1 tb ok NW B1 A2;go_upto_region 2 with fail;generalize w1.alloc (.cells #[.int .i64 0,.int .i64 0,.int .i64 0] 49)=w2 at *
  obtain⟨x0,x1,x2,xl⟩:=Qn F2.out
  have RN:=hid (rnew_ok w2 Bt By T2.out OK.out w14_szt w14_none (by simp[By]) w14_hav Cs w14_tgts Xrh w14_srt w14_al w14_kn w14_hb (HT.out _ B2.out));go_wp2_with fail;refine RN.out.mono ?_;rintro e w3 ⟨rb,K,rfl,hrs,hkn,hb3⟩;have F3:=hid (bk hb3 F2.out);have B3:=hid (B2.out.then hb3);have RS:=hid hrs;have RO:=hid (w14_ok hkn OK.out);clear x0 x1 x2 xl hb3 hrs hkn RN F2 B2 T2
  obtain⟨x0,x1,x2,xl⟩:=Qn F3.out
  obtain⟨xf0,xf1,xf2⟩:=Dr F3.out
  have VN:=hid (Xby RS.out RO.out Zqg [99,47,98] (by decide) (by decide) (by decide) w14_asks _ w14_path (by decide) (by decide) (by simp[Cs]) (by simp) Xrh);simp only[w14_look,Option.getD_some,Option.isSome_some]at VN;go_upto_region 5 with fail;rw[Rf (W:=w3) F3.out rfl,Rf (W:=w3) F3.out rfl,Rf (W:=w3) F3.out rfl];go_wp2_with fail;refine VN.out.mono ?_;rintro e w4 ⟨rfl,hb4⟩;have F4:=hid (bk hb4 F3.out);have B4:=hid (B3.out.then hb4);clear x0 x1 x2 xl xf0 xf1 xf2 hb4
  obtain⟨x0,x1,x2,xl⟩:=Qn F4.out
  go_wp2_with fail;exact bodyPost_ret (v:=.bool true) (by simp[results,Tryz.results6,go_sem]) rfl ⟨rfl,B4.out⟩
 ·exact absurd rfl h
end
end Go.Proofs.YtbbmdbolkicpcabGreatDoor
