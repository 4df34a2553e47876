/- PtJoin, AlFind, ChMem, ChainW, ChainQ, ChPar, ChUp, AlWay, TbSort, TbAlias -/
import Derived.Test.YtbbmdbolkicpcaaGreatDoorILG11
import Derived.Test.YtbbmdbolkicpcaaGreatDoorILG06
import Derived.Test.YtbbmdbolkicpcaaGreatDoorILG08
import Derived.Maps.OwnSet
import Derived.Maps.OwnOps
import Derived.Maps.StringElems
import Derived.Test.YtbbmdbolkicpcaaGreatDoorILG09
import Derived.Test.YtbbmdbolkicpcaaGreatDoorILG04
import Derived.Deep.Cut
import Derived.Test.YtbbmdbolkicpcaaGreatDoorILG10
import Derived.Shelf.SlSortCmp.NoneTotal
set_option maxRecDepth 100000
set_option maxHeartbeats 32000000
set_option linter.unusedVariables false
set_option linter.unusedSimpArgs false
namespace Go.Proofs.YtbbmdbolkicpcaaGreatDoor
section
open Go.RowKit Go.Lib
theorem join_take_le (m:List Stp)(k:Nat):(Zb (m.take k)).length≤(Zb m).length:=by
 cases h:m.take k with
 | nil=>simp [Zb]
 | cons x r =>
  have hm:m≠[]:=by rintro rfl;simp at h
  have h1:=szS_join m hm;have h2:=szS_join (m.take k) (by rw [h];simp);have h3:=szS_take_le m k;rw [h] at h2 h3
  omega
theorem print_take {s:Str}{l:List Stp}(h:Qb s=some l)(k:Nat):Zy (l.take k)=some (Zb (l.take k)):=by
 obtain⟨h1,h2,h3,h4,h5⟩:=Zd h
 unfold Zy;rw [all_take h1 k,all_take h2 k]
 have:=join_take_le l k
 rw [if_pos];simp only [Bool.and_self,Bool.true_and,Bool.and_eq_true,decide_eq_true_eq,List.length_take]
 omega
theorem text_len {s:Str}{l:List Stp}(h:Qb s=some l){x:Stp}(hx:x∈l):(Zw x).length≤513:=by
 obtain⟨k,hk,rfl⟩:=List.getElem_of_mem hx
 exact Nat.le_trans (text_le hk) (szS_513 (Zd h).2.2.2.1)
theorem put_gen1 (w:World)(u:Value)(zs:List (Stp×(Option Addr×Nat)))(hu:RdL Xf w u zs)(hk:∀ z∈zs,RdP w (Qt z) z.1.2)(hm:∀ z∈zs,mayB z.1=true∧(Zw z.1).length≤1073741824)(hz:zs.length≤1000000000) :
  Calls Tryz.prog 89 #[.slice (some ⟨w.heap.size,0,none⟩) 1 1] (w.alloc (.cells #[u] 99)) fun e w'=>e=.returned (.tuple #[.string ⟨(putT (zs.map (·.1))).toArray⟩,.int .i64 (putE (zs.map (·.1)))])∧Below w.heap.size w w':=by
 have hB:Below w.heap.size w (w.alloc (.cells #[u] 99)):=bal _ _;have hf:([zs]:List (List (Stp×(Option Addr×Nat)))).flatten=zs:=by simp
 refine(pput_gen (w.alloc (.cells #[u] 99)) (.slice (some ⟨w.heap.size,0,none⟩) 1 1) [zs] ⟨_,_,rfl,fun n hn=>?_⟩ (by rw [hf];exact fun z hz=>(hk z hz).below hB) (by simp) (by rw [hf];exact hm) (by rw [hf];exact hz)).mono ?_
 ·have h0:n=0:=by simp at hn;omega
  subst h0
  refine⟨_,_,u,rfl,lt_of_block (heap_alloc_new w _),?_,hu.below hB⟩
  rw [cell_of_row _ _ _ _ _ _ (heap_alloc_new w _)]
  rfl
 ·rintro e w' ⟨rfl,hb⟩;rw [hf]
  exact⟨rfl,hB.then hb⟩
theorem put_gen2 (w:World)(u v:Value)(zs ys:List (Stp×(Option Addr×Nat)))(hu:RdL Xf w u zs)(hv:RdL Xf w v ys)(hk:∀ z∈zs++ys,RdP w (Qt z) z.1.2)(hm:∀ z∈zs++ys,mayB z.1=true∧(Zw z.1).length≤1073741824)(hz:(zs++ys).length≤1000000000) :
  Calls Tryz.prog 89 #[.slice (some ⟨w.heap.size,0,none⟩) 2 2] (w.alloc (.cells #[u,v] 99)) fun e w'=>e=.returned (.tuple #[.string ⟨(putT ((zs++ys).map (·.1))).toArray⟩,.int .i64 (putE ((zs++ys).map (·.1)))])∧Below w.heap.size w w':=by
 have hB:Below w.heap.size w (w.alloc (.cells #[u,v] 99)):=bal _ _;have hf:([zs,ys]:List (List (Stp×(Option Addr×Nat)))).flatten=zs++ys:=by simp
 refine(pput_gen (w.alloc (.cells #[u,v] 99)) (.slice (some ⟨w.heap.size,0,none⟩) 2 2) [zs,ys] ⟨_,_,rfl,fun n hn=>?_⟩ (by rw [hf];exact fun z hz=>(hk z hz).below hB) (by simp) (by rw [hf];exact hm) (by rw [hf];exact hz)).mono ?_
 ·have h0:n=0∨n=1:=by simp at hn;omega
  rcases h0 with rfl | rfl
  ·refine⟨_,_,u,rfl,lt_of_block (heap_alloc_new w _),?_,hu.below hB⟩
   rw [cell_of_row _ _ _ _ _ _ (heap_alloc_new w _)]
   rfl
  ·refine⟨_,_,v,rfl,lt_of_block (heap_alloc_new w _),?_,hv.below hB⟩
   rw [cell_of_row _ _ _ _ _ _ (heap_alloc_new w _)]
   rfl
 ·rintro e w' ⟨rfl,hb⟩;rw [hf]
  exact⟨rfl,hB.then hb⟩
theorem put_none {m:List Stp}(h:Zy m=none):putT m=[]∧putE m=3:=⟨by rw [putT,h];rfl,by rw [putE,h];rfl⟩
theorem put_some {m:List Stp}{t:Str}(h:Zy m=some t):putT m=t∧putE m=0:=⟨by rw [putT,h];rfl,by rw [putE,h];rfl⟩
theorem pjoin_any (w:World)(a b:Str)(ha:a.length≤maxLen)(hb:b.length≤maxLen) :
  Calls Tryz.prog 77 #[.string ⟨a.toArray⟩,.string ⟨b.toArray⟩] w fun e w'=>(∃ er:Nat,e=.returned (.tuple #[.string ⟨((joinF a b).getD []).toArray⟩,.int .i64 er])∧(er=0↔(joinF a b).isSome=true))∧Below w.heap.size w w':=by
 have HB:=hid hb
 go_enter Tryz.func77,Tryz.ntmps77
 go_wp2_with fail
 refine(pparse_any a w ha).mono ?_
 rintro e w1 h1
 obtain⟨v1,e1,t1,rfl,hb1,l,hl,hc1,a1,k1,rfl,hcap1,hs1⟩:=h1.open'
 have L1:=hid hl;have C1:=hid hc1;have B1:=hid hb1;clear h1 hl hc1 hb1 hs1;have HA2:=hid (bal w1 (.cells #[.int .i64 e1,.int .i64 t1] 77));have F2:=hid (heap_alloc_new w1 (.cells #[.int .i64 e1,.int .i64 t1] 77));go_upto_region 2 with fail;generalize w1.alloc (.cells #[.int .i64 e1,.int .i64 t1] 77)=w2 at *;have L2:=hid (L1.out.below HA2.out);have B2:=hid (B1.out.then HA2.out);clear L1 B1 HA2;generalize w1.heap.size=Xb at *
 obtain⟨x0,x1,_,_,xl⟩:=Qq F2.out
 rcases C1.out with ⟨rfl,hp1⟩ | ⟨hz1,hp1⟩
 ·go_wp2_with fail
  refine(pparse_any b w2 HB.out).mono ?_
  rintro e w3 h3
  obtain⟨v3,e3,t3,rfl,hb3,m,hm,hc3,a3,k3,rfl,hcap3,_⟩:=h3.open'
  have L3:=hid (L2.out.below hb3);have M3:=hid hm;have C3:=hid hc3;have B3:=hid (B2.out.then hb3);clear h3 hm hc3 hb3 L2 B2 F2 x0 x1 xl;have HA4:=hid (bal w3 (.cells #[.int .i64 e3,.int .i64 t3] 77));have F4:=hid (heap_alloc_new w3 (.cells #[.int .i64 e3,.int .i64 t3] 77));go_upto_region 5 with fail;generalize w3.alloc (.cells #[.int .i64 e3,.int .i64 t3] 77)=w4 at *;have L4:=hid (L3.out.below HA4.out);have M4:=hid (M3.out.below HA4.out);have B4:=hid (B3.out.then HA4.out);clear L3 M3 B3 HA4;generalize w3.heap.size=Yb at *
  obtain⟨y0,y1,_,_,yl⟩:=Qq F4.out
  rcases C3.out with ⟨rfl,hp3⟩ | ⟨hz3,hp3⟩
  ·obtain⟨zs,hz1,hz2,hz3⟩:=L4.out
   obtain⟨ys,hy1,hy2,hy3⟩:=M4.out
   have RZ:=hid hz2;have RY:=hid hy2;have RK:=hid (show ∀ z∈zs++ys,RdP w4 (Qt z) z.1.2 from fun z hz=>by
    rcases List.mem_append.1 hz with hz | hz
    ·exact hz3 z hz
    ·exact hy3 z hz)
   have RM:=hid (show ∀ z∈zs++ys,mayB z.1=true∧(Zw z.1).length≤1073741824 from fun z hz=>by
    rcases List.mem_append.1 hz with hz | hz
    ·have hm:z.1∈l:=hz1 ▸ List.mem_map_of_mem hz
     exact⟨List.all_eq_true.1 (Zd hp1).1 _ hm,by have:=text_len hp1 hm;omega⟩
    ·have hm:z.1∈m:=hy1 ▸ List.mem_map_of_mem hz
     exact⟨List.all_eq_true.1 (Zd hp3).1 _ hm,by have:=text_len hp3 hm;omega⟩)
   have RL:=hid (show(zs++ys).length≤1000000000 from by
    have h1:=congrArg List.length hz1;have h2:=congrArg List.length hy1;rw [List.length_map] at h1 h2;have h3:=(Zd hp1).2.2.1;have h4:=(Zd hp3).2.2.1;rw [List.length_append];omega)
   have HM:=hid (show(zs++ys).map (·.1)=l++m by rw [List.map_append,hz1,hy1]);have HJ:=hid (join_of hp1 hp3);clear hz1 hz2 hz3 hy1 hy2 hy3 hp1 hp3 C1 C3 L4 M4
   go_wp2_with (go_at_call 89;refine(put_gen2 _ _ _ zs ys RZ.out RY.out RK.out RM.out RL.out).mono ?_;rintro e w6 ⟨rfl,hb6⟩;have B6:=hid (B4.out.then hb6);clear hb6)
   refine bodyPost_ret (v:=.tuple #[.string ⟨(putT ((zs++ys).map (·.1))).toArray⟩,.int .i64 (putE ((zs++ys).map (·.1)))]) (by simp [results,Tryz.results77,go_sem]) rfl ⟨?_,B6.out⟩;rw [HM.out,HJ.out]
   cases h:Zy (l++m) with
   | none=>rw [(put_none h).1,(put_none h).2];exact⟨3,rfl,by simp⟩
   | some t=>rw [(put_some h).1,(put_some h).2];exact⟨0,rfl,by simp⟩
  ·have hne:(e3:Int)≠0:=by omega
   have HR:=hid (show joinF a b=none by unfold joinF;rw [hp1,hp3]);have HZ:=hid hz3;clear hp1 hp3 C1 C3;go_wp2_with fail
   go_quiet (fail)
   have BQ:=hid (below_drewN B4.out nq)
   try go_wp2_with fail
   refine bodyPost_ret (v:=.tuple #[.string ⟨#[]⟩,.int .i64 e3]) (by simp [results,Tryz.results77,go_sem]) rfl ?_
   exact⟨⟨e3,by rw [HR.out];rfl,by rw [HR.out];simpa using HZ.out⟩,BQ.out⟩
 ·have hne:(e1:Int)≠0:=by omega
  have HR:=hid (show joinF a b=none by unfold joinF;rw [hp1]);have HZ:=hid hz1;clear hp1 C1;go_wp2_with fail
  go_quiet (fail)
  have BQ:=hid (below_drewN B2.out nq)
  try go_wp2_with fail
  refine bodyPost_ret (v:=.tuple #[.string ⟨#[]⟩,.int .i64 e1]) (by simp [results,Tryz.results77,go_sem]) rfl ?_
  exact⟨⟨e1,by rw [HR.out];rfl,by rw [HR.out];simpa using HZ.out⟩,BQ.out⟩
end
section
open Go.RowKit Go.Lib
theorem afollows_any (w:World)(x y:Al)(hx:x.1.length≤maxLen)(hy:y.2.length≤maxLen) :
  Calls Tryz.prog 70 #[.agg #[.string ⟨x.1.toArray⟩,.string ⟨x.2.toArray⟩],.agg #[.string ⟨y.1.toArray⟩,.string ⟨y.2.toArray⟩]] w fun e w'=>e=.returned (.bool (folB x y))∧Below w.heap.size w w':=by
 obtain⟨x1,x2⟩:=x
 obtain⟨y1,y2⟩:=y
 simp only at hx hy ⊢;have IN1:=hid (fun W=>pin_any W y2 x1 hy hx);have IN2:=hid (fun W=>pin_any W x1 y2 hx hy);have HF:=hid (show folB (x1,x2) (y1,y2)=(inB y2 x1||inB x1 y2) from rfl);have B0:=hid (below2 w (.cells #[.string ⟨x1.toArray⟩,.string ⟨x2.toArray⟩] 76) (.cells #[.string ⟨y1.toArray⟩,.string ⟨y2.toArray⟩] 76));have G0:=hid (show((w.alloc (.cells #[.string ⟨x1.toArray⟩,.string ⟨x2.toArray⟩] 76)).alloc (.cells #[.string ⟨y1.toArray⟩,.string ⟨y2.toArray⟩] 76)).heap[w.heap.size]?=some (.cells #[.string ⟨x1.toArray⟩,.string ⟨x2.toArray⟩] 76 (0,0)) from(Below.heap_alloc _ _ _ (lt_of_block (heap_alloc_new w _))).trans (heap_alloc_new w _));have H0:=hid (show((w.alloc (.cells #[.string ⟨x1.toArray⟩,.string ⟨x2.toArray⟩] 76)).alloc (.cells #[.string ⟨y1.toArray⟩,.string ⟨y2.toArray⟩] 76)).heap[w.heap.size+1]?=some (.cells #[.string ⟨y1.toArray⟩,.string ⟨y2.toArray⟩] 76 (0,0)) from by
  have:=heap_alloc_new (w.alloc (.cells #[.string ⟨x1.toArray⟩,.string ⟨x2.toArray⟩] 76)) (.cells #[.string ⟨y1.toArray⟩,.string ⟨y2.toArray⟩] 76)
  rw [show(w.alloc (.cells #[.string ⟨x1.toArray⟩,.string ⟨x2.toArray⟩] 76)).heap.size=w.heap.size+1 by simp] at this;exact this)
 go_enter Tryz.func70,Tryz.ntmps70
 go_upto_region 1 with fail;generalize (w.alloc (.cells #[.string ⟨x1.toArray⟩,.string ⟨x2.toArray⟩] 76)).alloc (.cells #[.string ⟨y1.toArray⟩,.string ⟨y2.toArray⟩] 76)=w1 at *
 obtain⟨a0,a1,_,_,al⟩:=Qq G0.out
 obtain⟨b0,b1,_,_,bl⟩:=Qq H0.out
 cases h1:inB y2 x1 with
 | true =>
  rw [h1] at IN1 HF;clear h1
  go_wp2_with (go_at_call 95;refine(IN1.out _).mono ?_;rintro e w2 ⟨rfl,hb⟩;have B2:=hid (B0.out.then hb);clear hb)
  exact bodyPost_ret (v:=.bool true) (by simp [results,Tryz.results70,go_sem]) rfl ⟨by rw [HF.out];rfl,B2.out⟩
 | false =>
  rw [h1] at IN1 HF;clear h1;generalize inB x1 y2=q at *
  go_wp2_with (first
   | (go_at_call 95;refine(IN1.out _).mono ?_;rintro e w2 ⟨rfl,hb⟩;have G2:=hid (bk hb G0.out);have H2:=hid (bk hb H0.out);have B2:=hid (B0.out.then hb);clear hb a0 a1 al b0 b1 bl IN1;obtain⟨a0,a1,_,_,al⟩:=Qq G2.out;obtain⟨b0,b1,_,_,bl⟩:=Qq H2.out)
   | (go_at_call 95;refine(IN2.out _).mono ?_;rintro e w3 ⟨rfl,hb⟩;have B3:=hid (B2.out.then hb);clear hb))
  exact bodyPost_ret (v:=.bool q) (by simp [results,Tryz.results70,go_sem]) rfl ⟨by rw [HF.out];rfl,B3.out⟩
def AlRd (W:World)(v:Value)(D:List Al):Prop:=∃ b kv,v=.pointer (some ⟨b,0,none⟩)∧W.heap[b]?=some (.cells #[kv] 141 (0,0))∧RdP W kv D
theorem AlRd.below {W W':World}{v:Value}{D:List Al}(h:AlRd W v D)(hb:Below W.heap.size W W'):AlRd W' v D:=by
 obtain⟨b,kv,h1,h2,h3⟩:=h
 exact⟨b,kv,h1,bk hb h2,h3.below hb⟩
def szA (D:List Al):Prop:=∀ x∈D,x.1.length≤maxLen∧x.2.length≤maxLen
def alV (o:Option Al):Value:=match o with | some x=>.agg #[.string ⟨x.1.toArray⟩,.string ⟨x.2.toArray⟩] | none=>.agg #[.string ⟨#[]⟩,.string ⟨#[]⟩]
def keyO (o:Option Al):Str:=(o.map (·.1)).getD []
def valO (o:Option Al):Str:=(o.map (·.2)).getD []
theorem alV_eq (o:Option Al):alV o=.agg #[.string ⟨(keyO o).toArray⟩,.string ⟨(valO o).toArray⟩]:=by cases o <;> rfl
theorem find_take {D:List Al}{p:Str}{k:Nat}(h:k<D.length):findA (D.take (k+1)) p=bestA p (findA (D.take k) p) (D[k]'h):=by
 rw [List.take_succ_eq_append_getElem h,find_snoc]
theorem find_sz {D:List Al}{p:Str}(h:szA D)(k:Nat):(keyO (findA (D.take k) p)).length≤maxLen:=by
 cases e:findA (D.take k) p with
 | none=>simp [keyO]
 | some x=>exact(h x (List.mem_of_mem_take (find_some e).1)).1
theorem afind_any (w:World)(v:Value)(D:List Al)(p:Str)(h:AlRd w v D)(hp:p.length≤maxLen)(hs:szA D) :
  Calls Tryz.prog 147 #[v,.string ⟨p.toArray⟩] w fun e w'=>e=.returned (.tuple #[alV (findA D p),.bool (findA D p).isSome])∧Below w.heap.size w w':=by
 obtain⟨b,kv,rfl,hb,hr⟩:=h
 obtain⟨ao,cp,rfl,h63,hcell⟩:=Ks hr
 have HB:=hid hb;have HR:=hid hr;have HS:=hid hs;have HP:=hid hp;have IN:=hid (fun W a b ha hb=>pin_any W a b ha hb);clear hb hr hs hp hcell
 go_enter Tryz.func147,Tryz.ntmps147
 have B0:=hid (bal w (.cells #[.string ⟨#[]⟩,.string ⟨#[]⟩] 76));have F0:=hid (heap_alloc_new w (.cells #[.string ⟨#[]⟩,.string ⟨#[]⟩] 76));go_upto_region 1 with fail;generalize w.alloc (.cells #[.string ⟨#[]⟩,.string ⟨#[]⟩] 76)=w0 at *;have HB0:=hid (bk B0.out HB.out);have a0:w0.cell? ⟨b,0,none⟩=some (.slice ao D.length cp):=cR HB0.out;have a1:=lt_of_block HB0.out;go_wp2_with fail
 go_loopg [5,16] D.length (fun g v5 v16 W=>∃ k:Nat,k≤D.length∧D.length≤k+g∧v5=.bool (findA (D.take k) p).isSome∧v16=.int .i64 k∧W.heap[w.heap.size]?=some (.cells #[.string ⟨(keyO (findA (D.take k) p)).toArray⟩,.string ⟨(valO (findA (D.take k) p)).toArray⟩] 76 (0,0))∧Below w.heap.size w W)
 case atStart=>exact⟨0,Nat.zero_le _,by omega,rfl,rfl,F0.out,B0.out⟩
 case round =>
  obtain⟨k,hk,hg,rfl,rfl,hrow,hbw⟩:=hrel
  rename World=>w2
  have HG:=hid hg;have F2:=hid hrow;have B2:=hid hbw;clear hg hrow hbw a0 a1 HB0
  by_cases hlt:k<D.length
  ·have hni:(k:Int)<(D.length:Int):=by omega
   have hn0:(0:Int)≤(k:Int):=by omega
   obtain⟨ao2,cp2,e2,_,hc2⟩:=Ks (HR.out.below B2.out)
   cases e2
   obtain⟨g,o,rfl,hgl,r0,r1⟩:=hc2 k hlt
   have HXS:=hid (HS.out _ (List.getElem_mem hlt));have HTK:=hid (find_take (p:=p) hlt);have HSZ:=hid (find_sz (p:=p) HS.out k);generalize hx:D[k]'hlt=x at *;clear hx
   obtain⟨x1,x2⟩:=x
   simp only at r0 r1 HXS;have HA3:=hid (bal w2 (.cells #[.string ⟨x1.toArray⟩,.string ⟨x2.toArray⟩] 76));have X3:=hid (heap_alloc_new w2 (.cells #[.string ⟨x1.toArray⟩,.string ⟨x2.toArray⟩] 76));go_upto_region 6 with fail;generalize w2.alloc (.cells #[.string ⟨x1.toArray⟩,.string ⟨x2.toArray⟩] 76)=w3 at *;have F3:=hid (bk HA3.out F2.out);have B3:=hid (B2.out.then HA3.out);have HXN:=hid (show w.heap.size≠w2.heap.size from Nat.ne_of_lt (lt_of_block F2.out));clear F2 B2 HA3 r0 r1;generalize w2.heap.size=Xb at *
   obtain⟨x0,x1',_,_,xl⟩:=Qq X3.out
   obtain⟨y0,y1,yf0,yf1,yl⟩:=Qq F3.out
   have I1:=hid (fun W=>IN.out W p x1 HP.out HXS.out.1)
   cases h1:inB p x1 with
   | false =>
    have HN:=hid (show findA (D.take (k+1)) p=findA (D.take k) p by rw [HTK.out,bestA_neg];rw [h1];simp);rw [h1] at I1;clear h1
    go_wp2_with (go_at_call 95;refine(I1.out _).mono ?_;rintro e w4 ⟨rfl,hb4⟩;have F4:=hid (bk hb4 F3.out);have B4:=hid (B3.out.then hb4);clear hb4)
    go_roundg (gk - 1)
    case measure=>have:=HG.out;omega
    case rel=>exact⟨k+1,by omega,by have:=HG.out;omega,by rw [HN.out],by simp,by rw [HN.out];exact F4.out,B4.out⟩
   | true =>
    rw [h1] at I1;have HRB:=hid (show w.heap.size≤w.heap.size from Nat.le_refl _);generalize hfo:findA (D.take k) p=fo at *
    cases fo with
    | none =>
     have HN:=hid (show findA (D.take (k+1)) p=some (x1,x2) by rw [HTK.out,bestA_pos];rw [h1];rfl);clear h1 hfo
     go_wp2_with (go_at_call 95;refine(I1.out _).mono ?_;rintro e w4 ⟨rfl,hb4⟩;have F4:=hid (bk hb4 F3.out);have X4:=hid (bk hb4 X3.out);have B4:=hid (B3.out.then hb4);clear hb4 x0 x1' xl y0 y1 yf0 yf1 yl;obtain⟨x0,x1',_,_,xl⟩:=Qq X4.out;obtain⟨y0,y1,yf0,yf1,yl⟩:=Qq F4.out)
     go_roundg (gk - 1)
     case measure=>have:=HG.out;omega
     case rel=>exact⟨k+1,by omega,by have:=HG.out;omega,by rw [HN.out];rfl,by simp,by rw [HN.out];exact Kv _ _ F4.out,Xd _ _ B4.out (Nat.le_refl _)⟩
    | some y =>
     have I2:=hid (fun W=>IN.out W x1 y.1 HXS.out.1 (by have:=HSZ.out;simpa [keyO] using this))
     cases h2:inB x1 y.1 with
     | true =>
      have HN:=hid (show findA (D.take (k+1)) p=some (x1,x2) by rw [HTK.out,bestA_pos];rw [h1];exact h2);rw [h2] at I2;clear h1 h2 hfo
      go_wp2_with (first
       | (go_at_call 95;refine(I1.out _).mono ?_;rintro e w4 ⟨rfl,hb4⟩;have F4:=hid (bk hb4 F3.out);have X4:=hid (bk hb4 X3.out);have B4:=hid (B3.out.then hb4);clear hb4 I1 x0 x1' xl y0 y1 yf0 yf1 yl;obtain⟨x0,x1',_,_,xl⟩:=Qq X4.out;obtain⟨y0,y1,yf0,yf1,yl⟩:=Qq F4.out)
       | (go_at_call 95;refine(I2.out _).mono ?_;rintro e w5 ⟨rfl,hb5⟩;have F5:=hid (bk hb5 F4.out);have X5:=hid (bk hb5 X4.out);have B5:=hid (B4.out.then hb5);clear hb5 x0 x1' xl y0 y1 yf0 yf1 yl;obtain⟨x0,x1',_,_,xl⟩:=Qq X5.out;obtain⟨y0,y1,yf0,yf1,yl⟩:=Qq F5.out))
      go_roundg (gk - 1)
      case measure=>have:=HG.out;omega
      case rel=>exact⟨k+1,by omega,by have:=HG.out;omega,by rw [HN.out];rfl,by simp,by rw [HN.out];exact Kv _ _ F5.out,Xd _ _ B5.out (Nat.le_refl _)⟩
     | false =>
      have HN:=hid (show findA (D.take (k+1)) p=some y by rw [HTK.out,bestA_neg];rw [h1];intro h;have h:inB x1 y.1=true:=h;rw [h2] at h;cases h);rw [h2] at I2;clear h1 h2 hfo
      go_wp2_with (first
       | (go_at_call 95;refine(I1.out _).mono ?_;rintro e w4 ⟨rfl,hb4⟩;have F4:=hid (bk hb4 F3.out);have X4:=hid (bk hb4 X3.out);have B4:=hid (B3.out.then hb4);clear hb4 I1 x0 x1' xl y0 y1 yf0 yf1 yl;obtain⟨x0,x1',_,_,xl⟩:=Qq X4.out;obtain⟨y0,y1,yf0,yf1,yl⟩:=Qq F4.out)
       | (go_at_call 95;refine(I2.out _).mono ?_;rintro e w5 ⟨rfl,hb5⟩;have F5:=hid (bk hb5 F4.out);have X5:=hid (bk hb5 X4.out);have B5:=hid (B4.out.then hb5);clear hb5 x0 x1' xl y0 y1 yf0 yf1 yl;obtain⟨x0,x1',_,_,xl⟩:=Qq X5.out;obtain⟨y0,y1,yf0,yf1,yl⟩:=Qq F5.out))
      go_roundg (gk - 1)
      case measure=>have:=HG.out;omega
      case rel=>exact⟨k+1,by omega,by have:=HG.out;omega,by rw [HN.out];rfl,by simp,by rw [HN.out];exact F5.out,B5.out⟩
  ·have hni:¬ (k:Int)<(D.length:Int):=by omega
   have hkn:k=D.length:=by omega
   have HTA:=hid (show D.take k=D by rw [hkn];exact List.take_length);rw [HTA.out] at F2 ⊢
   obtain⟨fo,hfo⟩:∃ fo,fo=findA D p:=⟨_,rfl⟩
   have HFO:=hid hfo;rw [← hfo] at F2 ⊢;clear hfo;have HV:=hid (alV_eq fo)
   obtain⟨y0,y1,yf0,yf1,yl⟩:=Qq F2.out
   obtain⟨q0,q1,_,_,ql⟩:=Qq (show(P2 w2 w.heap.size (.string ⟨(keyO fo).toArray⟩) (.string ⟨(valO fo).toArray⟩)).heap[w.heap.size]?=some (.cells #[.string ⟨(keyO fo).toArray⟩,.string ⟨(valO fo).toArray⟩] 76 (0,0)) from Kv _ _ F2.out)
   unfold P2 at q0 q1 ql;go_wp2_with fail;exact bodyPost_ret (v:=.tuple #[.agg #[.string ⟨(keyO fo).toArray⟩,.string ⟨(valO fo).toArray⟩],.bool fo.isSome]) (by simp [results,Tryz.results147,go_sem,q0,q1]) rfl ⟨by rw [← HFO.out,HV.out],Xd _ _ B2.out (Nat.le_refl _)⟩
theorem alead_any (w:World)(v:Value)(D:List Al)(p:Str)(h:AlRd w v D)(hp:p.length≤maxLen)(hs:szA D) :
  Calls Tryz.prog 107 #[v,.string ⟨p.toArray⟩] w fun e w'=>(∃ s:Str,e=.returned (.tuple #[.string ⟨s.toArray⟩,.bool (leadA D p).isSome])∧∀ t,leadA D p=some t→s=t)∧Below w.heap.size w w':=by
 have FI:=hid (afind_any w v D p h hp hs);have HS:=hid hs;have HP:=hid hp;have PV:∃ b,v=.pointer (some ⟨b,0,none⟩):=by obtain⟨b,_,e,_⟩:=h;exact⟨b,e⟩
 obtain⟨b,rfl⟩:=PV
 clear h hp hs
 obtain⟨fo,hfo⟩:∃ fo,fo=findA D p:=⟨_,rfl⟩
 have HFO:=hid hfo;rw [← hfo,alV_eq] at FI;clear hfo
 go_enter Tryz.func107,Tryz.ntmps107
 go_wp2_with fail;refine FI.out.mono ?_;rintro e w1 ⟨rfl,hb1⟩;have B1:=hid hb1;clear hb1 FI;have HA2:=hid (bal w1 (.cells #[.string ⟨(keyO fo).toArray⟩,.string ⟨(valO fo).toArray⟩] 76));have F2:=hid (heap_alloc_new w1 (.cells #[.string ⟨(keyO fo).toArray⟩,.string ⟨(valO fo).toArray⟩] 76));go_upto_region 2 with fail;generalize w1.alloc (.cells #[.string ⟨(keyO fo).toArray⟩,.string ⟨(valO fo).toArray⟩] 76)=w2 at *;have B2:=hid (B1.out.then HA2.out)
 obtain⟨x0,x1,_,_,xl⟩:=Qq F2.out
 cases fo with
 | none =>
  have HL:=hid (show leadA D p=none by unfold leadA;rw [← HFO.out]);go_wp2_with fail;refine bodyPost_ret (v:=.tuple #[.string ⟨#[]⟩,.bool false]) (by simp [results,Tryz.results107,go_sem]) rfl ?_
  exact⟨⟨[],by rw [HL.out];rfl,fun t ht=>by rw [HL.out] at ht;cases ht⟩,B2.out⟩
 | some x =>
  have HL:=hid (show leadA D p=(restF p x.1).bind fun r=>joinF x.2 r by unfold leadA;rw [← HFO.out]);have HXD:=hid (HS.out x (find_some HFO.out.symm).1);have HIN:=hid (find_some HFO.out.symm).2
  obtain⟨r,hr⟩:∃ r,restF p x.1=some r:=by
   have:=HIN.out
   unfold inB at this;exact Option.isSome_iff_exists.1 this
  have RS:=hid (prest_any w2 p x.1 HP.out HXD.out.1);have HRL:=hid (show r.length≤maxLen by
   obtain⟨l,m,_,_,e,hp2⟩:=rest_some hr
   have:=(Zd hp2).2.2.2.1
   rw [(Zd hp2).2.2.2.2] at this;unfold maxLen;omega)
  rw [hr] at RS;rw [hr] at HL;have HL2:=hid (show leadA D p=joinF x.2 r from HL.out);clear hr HL HFO;simp only [keyO,valO,Option.map_some,Option.getD_some] at x0 x1 ⊢;have JN:=hid (fun W=>pjoin_any W x.2 r HXD.out.2 HRL.out);unfold restV at RS
  go_wp2_with (first
   | (go_at_call 76;refine RS.out.mono ?_;rintro e w3 ⟨rfl,hb3⟩;have F3:=hid (bk hb3 F2.out);have B3:=hid (B2.out.then hb3);clear hb3 x0 x1 xl;obtain⟨x0,x1,_,_,xl⟩:=Qq F3.out)
   | (go_at_call 77;refine(JN.out _).mono ?_;rintro e w4 ⟨⟨er,rfl,hz⟩,hb4⟩;have HZ:=hid hz;have B4:=hid (B3.out.then hb4);clear hb4 hz))
  refine bodyPost_ret (v:=.tuple #[.string ⟨((joinF x.2 r).getD []).toArray⟩,.bool ((er:Int)==0)]) (by simp [results,Tryz.results107,go_sem]) rfl ?_
  refine⟨⟨(joinF x.2 r).getD [],?_,fun t ht=>?_⟩,B4.out⟩
  ·rw [HL2.out]
   cases hj:(joinF x.2 r).isSome with
   | true=>have:=HZ.out.2 hj;subst this;rfl
   | false =>
    have hne:er≠0:=fun e=>by rw [HZ.out.1 e] at hj;cases hj
    have:((er:Int)==0)=false:=beq_eq_false_iff_ne.2 (by omega)
    rw [this]
  ·rw [HL2.out] at ht;rw [ht];rfl
end
section
open Go.RowKit Go.Lib Go.Sort Go.Maps Go.WideMaps
theorem law:Keyed Tryz.prog 9:=string_keyed Tryz.underlying9
theorem zeroS (w:World):(zeroValue 9).run Tryz.prog w=.ok (.string ⟨#[]⟩) w:=by kernel_rfl
theorem zeroB (w:World):(zeroValue 4).run Tryz.prog w=.ok (.bool false) w:=by kernel_rfl
theorem key_of {k:Str}(h:k.length≤maxLen):keyOf Tryz.prog 9 (.string ⟨k.toArray⟩)=some (.string k):=by
 have:=keyOf_string_mk (P:=Tryz.prog) Tryz.underlying9 (s:=⟨k.toArray⟩) (by rw [Lib.size_eq];exact h)
 simpa using this
theorem elS {k:Str}(h:k.length≤maxLen):plainElem (H:=Unit) Tryz.prog 9 (.string ⟨k.toArray⟩)=some (.lit (.string k),[]):=by
 have:=plainElem_string (H:=Unit) (P:=Tryz.prog) Tryz.underlying9 (s:=⟨k.toArray⟩) (by rw [Lib.size_eq];exact h)
 simpa using this
def OwnM (w:World)(b n:Nat)(D:List (Str×Str)):Prop :=
 ∃ m:DataW Unit,w.ownsMap Tryz.prog 9 (plainElem Tryz.prog 9) b n m∧∀ k z,m.atKey (.string k) z=match look D k with | some v=>.lit (.string v) | none=>z
def OwnB (w:World)(b n:Nat)(L:List Str):Prop :=
 ∃ m:DataW Unit,w.ownsMap Tryz.prog 9 (plainElem Tryz.prog 4) b n m∧∀ k z,m.atKey (.string k) z=if k∈L then .lit (.bool true) else z
theorem OwnM.lt {w:World}{b n:Nat}{D:List (Str×Str)}(h:OwnM w b n D):b<w.heap.size:=by obtain⟨m,h,_⟩:=h;exact h.lt
theorem OwnB.lt {w:World}{b n:Nat}{L:List Str}(h:OwnB w b n L):b<w.heap.size:=by obtain⟨m,h,_⟩:=h;exact h.lt
theorem OwnM.mono {w:World}{b n n':Nat}{D:List (Str×Str)}(h:OwnM w b n D)(hn:n≤n'):OwnM w b n' D:=by obtain⟨m,h,h2⟩:=h;exact⟨m,h.mono hn,h2⟩
theorem ownsMap_block {w w':World}{P:Program}{k:TypeId}{R:Value→Option (DataW Unit×List MemPlace)}{b n:Nat}{m:DataW Unit}(h:w.ownsMap P k R b n m)(he:w'.heap[b]?=w.heap[b]?):w'.ownsMap P k R b n m:=by
 obtain⟨es,clock,hb,F,hs,hD⟩:=h
 exact⟨es,clock,he.trans hb,F,hs,hD⟩
theorem OwnM.block {w w':World}{b n:Nat}{D:List (Str×Str)}(h:OwnM w b n D)(he:w'.heap[b]?=w.heap[b]?):OwnM w' b n D:=by obtain⟨m,h,h2⟩:=h;exact⟨m,ownsMap_block h he,h2⟩
theorem OwnB.block {w w':World}{b n:Nat}{L:List Str}(h:OwnB w b n L)(he:w'.heap[b]?=w.heap[b]?):OwnB w' b n L:=by obtain⟨m,h,h2⟩:=h;exact⟨m,ownsMap_block h he,h2⟩
theorem OwnM.below {w w':World}{b n:Nat}{D:List (Str×Str)}(h:OwnM w b n D)(hb:Below w.heap.size w w'):OwnM w' b n D:=h.block (hb.block _ h.lt)
theorem OwnB.below {w w':World}{b n:Nat}{L:List Str}(h:OwnB w b n L)(hb:Below w.heap.size w w'):OwnB w' b n L:=h.block (hb.block _ h.lt)
theorem OwnM.made (w:World):OwnM (w.alloc (.map #[] 0)) w.heap.size 0 []:=⟨.map [],World.ownsMap_made _ _ _ _,fun k z=>rfl⟩
theorem OwnB.made (w:World):OwnB (w.alloc (.map #[] 0)) w.heap.size 0 []:=⟨.map [],World.ownsMap_made _ _ _ _,fun k z=>by simp;rfl⟩
theorem strKey (k:Str):WideAt.IsKeyLit (.string k):=by
 simp [WideAt.IsKeyLit]
theorem OwnM.look_run {w:World}{b n:Nat}{D:List (Str×Str)}(h:OwnM w b n D)(k:Str)(hk:k.length≤maxLen) :
  (Instr.lookup 109 (.map (some b)) (.string ⟨k.toArray⟩) true).run Tryz.prog w=.ok (.tuple #[.string ⟨((look D k).getD []).toArray⟩,.bool (look D k).isSome]) w:=by
 obtain⟨mm,hown,hat⟩:=h
 obtain⟨v,ps,hrun,hv⟩:=hown.look_ok law Tryz.underlying109 (zeroS w) (elS (k:=[]) (Nat.zero_le _)) (key_of hk)
 obtain⟨s,rfl,hz,_⟩:=plainElem_string_inv (H:=Unit) Tryz.underlying9 hv
 rw [hat] at hz;have hhas:Maps.has mm (.string k)=(look D k).isSome:=by
  cases hl:look D k with
  | some v=>rw [has_true_of_atKey (y:=.lit (.string v)) (fun z=>by rw [hat,hl])];rfl
  | none=>rw [has_false_of_atKey (fun z=>by rw [hat,hl])];rfl
 have hs:s=⟨((look D k).getD []).toArray⟩:=by
  cases hl:look D k with
  | some v =>
   rw [hl] at hz
   simp at hz
   cases s
   simp at hz ⊢
   rw [hz.1]
  | none =>
   rw [hl] at hz
   simp at hz
   cases s
   simp at hz ⊢
   exact hz.1
 rw [← hhas,← hs];exact hrun
theorem OwnM.say_run {w:World}{b n:Nat}{D:List (Str×Str)}(h:OwnM w b n D)(hn:n<maxLen)(k y:Str)(hk:k.length≤maxLen)(hy:y.length≤maxLen)(hno:look D k=none) :
  ∃ w',(Instr.mapUpdate 109 (.map (some b)) (.string ⟨k.toArray⟩) (.string ⟨y.toArray⟩)).run Tryz.prog w=.ok () w'∧OwnM w' b (n+1) (D++[(k,y)])∧w.grownBy w' (some b):=by
 obtain⟨mm,hown,hat⟩:=h
 obtain⟨w',hrun,hown',hgr⟩:=hown.update law Tryz.underlying109 hn (key_of hk) (elS hy)
 refine⟨w',hrun,⟨_,hown',fun k' z=>?_⟩,hgr⟩
 rw [look_append]
 by_cases he:k'=k
 ·subst he;rw [atKey_put_same hown.isMap (strKey _),hno]
  simp [look]
 ·rw [atKey_put_other (fun e=>he (by simpa using e)),hat]
  cases hl:look D k' with
  | some u=>rfl
  | none=>simp [look,Ne.symm he]
section
variable {w : World} {ops : Array Oper} {rest : List Oper} {o : Oper} {a : Act} {Q : Exit → Act → World → Prop}
theorem wpList_look {b n:Nat}{D:List (Str×Str)}(h:OwnM w b n D)(hg:o.guard=none)(m x:Operand)(hop:o.op=Op.lookup 109 m x true)(hm:a.eval m=.map (some b))(k:Str)(hx:a.eval x=.string ⟨k.toArray⟩)(hk:k.length≤maxLen)
  (hK:wpList Tryz.prog ops Q rest (a.put o.dst (.tuple #[.string ⟨((look D k).getD []).toArray⟩,.bool (look D k).isSome])) w):wpList Tryz.prog ops Q (o::rest) a w:=by
 obtain⟨mm,hown,hat⟩:=h
 refine wpList_lookup_own_ok w hg m x 109 hop 9 9 law Tryz.underlying109 (plainElem Tryz.prog 9) (zeroS w) (.lit (.string [])) [] (elS (k:=[]) (Nat.zero_le _)) b n mm hm hown _ _ hx (key_of hk) ?_;intro v ps hv
 obtain⟨s,rfl,hz,_⟩:=plainElem_string_inv (H:=Unit) Tryz.underlying9 hv
 rw [hat] at hz;have hhas:Maps.has mm (.string k)=(look D k).isSome:=by
  cases hl:look D k with
  | some v=>rw [has_true_of_atKey (y:=.lit (.string v)) (fun z=>by rw [hat,hl])];rfl
  | none=>rw [has_false_of_atKey (fun z=>by rw [hat,hl])];rfl
 have hs:s=⟨((look D k).getD []).toArray⟩:=by
  cases hl:look D k with
  | some v =>
   rw [hl] at hz
   simp at hz
   cases s
   simp at hz ⊢
   rw [hz.1]
  | none =>
   rw [hl] at hz
   simp at hz
   cases s
   simp at hz ⊢
   exact hz.1
 rw [hhas,hs];exact hK
theorem wpList_look_some {b n:Nat}{D:List (Str×Str)}(h:OwnM w b n D)(hg:o.guard=none)(m x:Operand)(hop:o.op=Op.lookup 109 m x true)(hm:a.eval m=.map (some b))(k y:Str)(hx:a.eval x=.string ⟨k.toArray⟩)(hk:k.length≤maxLen)(hL:look D k=some y)
  (hK:wpList Tryz.prog ops Q rest (a.put o.dst (.tuple #[.string ⟨y.toArray⟩,.bool true])) w):wpList Tryz.prog ops Q (o::rest) a w :=
 wpList_look h hg m x hop hm k hx hk (by rw [hL];exact hK)
theorem wpList_look_none {b n:Nat}{D:List (Str×Str)}(h:OwnM w b n D)(hg:o.guard=none)(m x:Operand)(hop:o.op=Op.lookup 109 m x true)(hm:a.eval m=.map (some b))(k:Str)(hx:a.eval x=.string ⟨k.toArray⟩)(hk:k.length≤maxLen)(hL:look D k=none)
  (hK:wpList Tryz.prog ops Q rest (a.put o.dst (.tuple #[.string ⟨#[]⟩,.bool false])) w):wpList Tryz.prog ops Q (o::rest) a w :=
 wpList_look h hg m x hop hm k hx hk (by rw [hL];exact hK)
theorem wpList_met {b n:Nat}{L:List Str}(h:OwnB w b n L)(hg:o.guard=none)(m x:Operand)(hop:o.op=Op.lookup 61 m x false)(hm:a.eval m=.map (some b))(k:Str)(hx:a.eval x=.string ⟨k.toArray⟩)(hk:k.length≤maxLen)
  (hK:wpList Tryz.prog ops Q rest (a.put o.dst (.bool (decide (k∈L)))) w):wpList Tryz.prog ops Q (o::rest) a w:=by
 obtain⟨mm,hown,hat⟩:=h
 refine wpList_plain hg fun K' hK'=>?_
 obtain⟨v,ps,hrun,hv⟩:=hown.lookup law Tryz.underlying61 (zeroB w) (plainElem_bool Tryz.underlying4 false) (key_of hk)
 have hb:v=.bool (decide (k∈L)):=by
  rw [hat] at hv;unfold plainElem at hv;rw [Tryz.underlying4] at hv
  cases v <;> simp at hv
  rename_i q
  by_cases hm:k∈L
  ·rw [if_pos hm] at hv
   simp at hv
   rw [hv.1];simp [hm]
  ·rw [if_neg hm] at hv
   simp at hv
   rw [hv.1];simp [hm]
 subst hb;unfold Oper.wp
 simp [execOp,hop,hm,hx,hrun,Result.andThen]
 exact hK' _ _ hK
theorem wpList_met_b {b n:Nat}{L:List Str}(h:OwnB w b n L)(hg:o.guard=none)(m x:Operand)(hop:o.op=Op.lookup 61 m x false)(hm:a.eval m=.map (some b))(k:Str)(hx:a.eval x=.string ⟨k.toArray⟩)(hk:k.length≤maxLen)(q:Bool)(hq:decide (k∈L)=q)
  (hK:wpList Tryz.prog ops Q rest (a.put o.dst (.bool q)) w):wpList Tryz.prog ops Q (o::rest) a w :=
 wpList_met h hg m x hop hm k hx hk (by rw [hq];exact hK)
theorem wpList_mark {b n:Nat}{L:List Str}(h:OwnB w b n L)(hg:o.guard=none)(m x v:Operand)(hop:o.op=Op.mapUpdate 61 m x v)(hm:a.eval m=.map (some b))(hn:n<maxLen)(k:Str)(hx:a.eval x=.string ⟨k.toArray⟩)(hv:a.eval v=.bool true)(hk:k.length≤maxLen)
  (hK:∀ w',OwnB w' b (n+1) (k::L)→w.grownBy w' (some b)→wpList Tryz.prog ops Q rest (a.put o.dst undef) w'):wpList Tryz.prog ops Q (o::rest) a w:=by
 obtain⟨mm,hown,hat⟩:=h
 refine wpList_mapUpdate_own w hg m x v 61 hop 9 4 law Tryz.underlying61 (plainElem Tryz.prog 4) b n mm hm hown hn _ _ _ hx hv (key_of hk) _ [] (plainElem_bool Tryz.underlying4 true) ?_;intro w' hown' hgr;refine hK w' ⟨_,hown',fun k' z=>?_⟩ hgr
 by_cases he:k'=k
 ·subst he;rw [atKey_put_same hown.isMap (strKey _)]
  simp
 ·rw [atKey_put_other (fun e=>he (by simpa using e)),hat]
  simp [he]
end
def ChRd (w:World)(v:Value)(D:List (Str×Str)):Prop :=
 ∃ bc bm n,v=.pointer (some ⟨bc,0,none⟩)∧bc<w.heap.size∧w.cell? ⟨bc,0,none⟩=some (.map (some bm))∧OwnM w bm n D
theorem ChRd.below {w w':World}{v:Value}{D:List (Str×Str)}(h:ChRd w v D)(hb:Below w.heap.size w w'):ChRd w' v D:=by
 obtain⟨bc,bm,n,h1,h2,h3,h4⟩:=h
 exact⟨bc,bm,n,h1,Nat.lt_of_lt_of_le h2 hb.size,(hb.cell (p:=⟨bc,0,none⟩) h2).trans h3,h4.below hb⟩
end
section
theorem named_len {s:Str}(h:Qk s=true):s.length≤128:=by
 obtain⟨h1,_⟩:=named_facts h
 have h2:=parse_L s;unfold okR at h2;rw [if_pos h1] at h2
 by_cases h3:128<s.length
 ·rw [if_pos h3] at h2;cases h2
 ·omega
theorem bad_err:∀ {r done:List (Str×Str)}{e i:Nat},badAt done r=some (e,i)→e=2∨e=211
 | [],_,_,_,h=>by cases h
 | p::r,done,e,i,h=>by
  unfold badAt at h
  split at h
  ·split at h
   ·exact bad_err h
   ·cases h;exact Or.inr rfl
  ·cases h;exact Or.inl rfl
theorem new_ok {D:List (Str×Str)}{i:Nat}(h:NewOut D 0 i):saidOK D∧(∀ p∈D,¬ ringP D p.1)∧badAt [] D=none∧i=0:=by
 rcases h with h | ⟨_,h,_⟩ | ⟨h1,_,hi,h2⟩
 ·rcases bad_err h with h | h <;> cases h
 ·cases h
 ·have:=bad_none h1 (fun p hp=>by cases hp)
  exact⟨this,h2,h1,hi⟩
theorem up_ne {D:List (Str×Str)}{s:Str}{l:List Str}(h:Up D s l):l≠[]:=by
 obtain⟨r,rfl⟩:=up_head h;simp
theorem up_end {D:List (Str×Str)}{s:Str}{l:List Str}(h:Up D s l)(j:Nat)(hj:j<l.length)(hr:l[j]=Qv):j+1=l.length:=by
 have h1:=up_drop j hj h;rw [hr] at h1;have h2:=congrArg List.length (up_one h1 (up_root D));simp only [List.length_drop,List.length_cons,List.length_nil] at h2
 omega
theorem up_next {D:List (Str×Str)}{s:Str}{l:List Str}(h:Up D s l)(j:Nat)(hj:j<l.length)(hr:l[j]≠Qv):∃ hj':j+1<l.length,stepF D l[j]=some l[j+1]:=by
 have h1:=up_drop j hj h;rw [List.drop_eq_getElem_cons hj] at h1
 by_cases hj':j+1<l.length
 ·rw [List.drop_eq_getElem_cons hj'] at h1
  exact⟨hj',h1.2.2.1⟩
 ·rw [List.drop_of_length_le (by omega)] at h1;exact absurd h1.2 hr
theorem step_parent {D:List (Str×Str)}{s t:Str}(h:stepF D s=some t):Xw D s=(t,true):=by
 unfold stepF at h
 split at h
 ·rename_i h2
  cases h;generalize Xw D s=q at *
  cases q;simp only at *;rw [h2]
 ·cases h
theorem parent_step {D:List (Str×Str)}{s t:Str}(h:Xw D s=(t,true)):stepF D s=some t:=by unfold stepF;rw [h];rfl
theorem parent_none {D:List (Str×Str)}{s:Str}(h:(Xw D s).2=false):stepF D s=none:=by unfold stepF;rw [h];rfl
theorem up_len {D:List (Str×Str)}(hD:saidOK D){s:Str}{l:List Str}(hs:Qk s=true)(h:Up D s l):l.length≤12 * (D.length+1):=by
 refine Nat.le_trans (nodup_le l (reach D s) ?_ ?_) (reach_len D s)
 ·rw [List.nodup_iff_pairwise_ne,List.pairwise_iff_getElem];intro i j hi hj hij;exact up_nodup h i j hj hij
 ·intro x hx;have key:∀ j (hj:j<l.length),iter D j s=some l[j]:=by
   intro j
   induction j with
   | zero =>
    intro hj
    obtain⟨r,rfl⟩:=up_head h
    rfl
   | succ j ih =>
    intro hj;rw [iter,ih (by omega),Option.bind_some];have hne:l[j]≠Qv:=fun e=>by have:=up_end h j (by omega) e;omega
    obtain⟨_,h2⟩:=up_next h j (by omega) hne
    exact h2
  obtain⟨j,hj,rfl⟩:=List.getElem_of_mem hx
  exact iter_reach hD hs j _ (key j hj)
theorem ring_no1 {D:List (Str×Str)}{k a:Str}{j:Nat}(hj:iter D j k=some a)(hs:stepF D a=none)(hL:∀ i,i<j→iter D (i+1) k≠some k):¬ ringP D k:=by
 rintro⟨n,hn⟩
 by_cases h:n<j
 ·exact hL n h hn
 ·rw [show n+1=j+1+(n - j) by omega,iter_add,iter,hj,Option.bind_some,hs] at hn
  cases hn
theorem ring_no3 {D:List (Str×Str)}{k a x:Str}{i j:Nat}(hj:iter D j k=some a)(hs:stepF D a=some x)(hi:i<j)(hx:iter D (i+1) k=some x)(hL:∀ i,i<j→iter D (i+1) k≠some k):¬ ringP D k:=by
 have key:∀ m,∃ i',i'<j∧iter D (m+1) k=iter D (i'+1) k:=by
  intro m
  induction m using Nat.strongRecOn with
  | _ m ih =>
   by_cases h:m<j
   ·exact⟨m,h,rfl⟩
   ·have h1:iter D (m+1) k=iter D (i+(m - j)+1) k:=by
     rw [show m+1=j+1+(m - j) by omega,iter_add,iter,hj,Option.bind_some,hs,show i+(m - j)+1=i+1+(m - j) by omega,iter_add,hx]
    obtain⟨i',h2,h3⟩:=ih (i+(m - j)) (by omega)
    exact⟨i',h2,h1.trans h3⟩
 rintro⟨n,hn⟩
 obtain⟨i',h1,h2⟩:=key n
 exact hL i' h1 (h2 ▸ hn)
def ChainIs (D:List (Str×Str))(s:Str)(l:List Str):Prop:=(Qk s=true∧Up D s l)∨(Qk s=false∧l=[])
theorem chain_ex {D:List (Str×Str)}(h0:NewOut D 0 0)(s:Str):∃ l,ChainIs D s l:=by
 obtain⟨h1,h2,_⟩:=new_ok h0
 by_cases hs:Qk s=true
 ·obtain⟨l,hl⟩:=up_ex h1 h2 hs
  exact⟨l,Or.inl ⟨hs,hl⟩⟩
 ·exact⟨[],Or.inr ⟨by simpa using hs,rfl⟩⟩
theorem bad_step {l:List (Str×Str)}{n:Nat}(hn:n<l.length):badAt (l.take n) (l.drop n) =
  if(Qk l[n].1=true∧Qk l[n].2=true)∧l[n].1≠Qv then(if look (l.take n) l[n].1=none then badAt (l.take (n+1)) (l.drop (n+1)) else some (211,n)) else some (2,n):=by
 rw [List.drop_eq_getElem_cons hn,badAt,List.length_take,show min n l.length=n by omega,List.take_add_one,List.getElem?_eq_getElem hn]
 rfl
end
section
open Go.RowKit Go.Lib Go.Sort Go.Maps
theorem parent_any (w:World)(v:Value)(D:List (Str×Str))(l:Str)(h:ChRd w v D)(hl:l.length≤maxLen) :
  Calls Tryz.prog 23 #[v,.string ⟨l.toArray⟩] w fun e w'=>e=.returned (.tuple #[.string ⟨(Xw D l).1.toArray⟩,.bool (Xw D l).2])∧Below w.heap.size w w':=by
 obtain⟨bc,bm,n,rfl,hlt,hc,hown⟩:=h
 have PL:=hid (fun W=>plain_any l W hl);have HOWN:=hid hown;clear hown
 cases hlk:look D l with
 | some p =>
  have hpf:Xw D l=(p,true):=by unfold Xw;rw [hlk]
  rw [hpf];have HLK:=hid hlk;clear hpf hlk
  go_enter Tryz.func23,Tryz.ntmps23
  go_wp2_with (at_lookup;refine wpList_look_some HOWN.out rfl _ _ rfl rfl l _ rfl hl HLK.out ?_)
  exact bodyPost_ret (v:=.tuple #[.string ⟨p.toArray⟩,.bool true]) (by simp [results,Tryz.results23,go_sem]) rfl ⟨rfl,Below.refl _ _⟩
 | none =>
  have hpf:Xw D l=plainF l:=by unfold Xw;rw [hlk]
  rw [hpf];have HLK:=hid hlk;clear hpf hlk;generalize plainF l=q at *
  go_enter Tryz.func23,Tryz.ntmps23
  go_wp2_with (at_lookup;refine wpList_look_none HOWN.out rfl _ _ rfl rfl l rfl hl HLK.out ?_)
  refine(PL.out _).mono ?_
  rintro e w1 ⟨rfl,hb1⟩;go_wp2_with fail;exact bodyPost_ret (v:=.tuple #[.string ⟨q.1.toArray⟩,.bool q.2]) (by simp [results,Tryz.results23,go_sem]) rfl ⟨rfl,hb1⟩
end
section
open Go.RowKit Go.Lib Go.Sort Go.Maps
theorem wpList_pushU {w:World}{ops:Array Oper}{rest:List Oper}{o:Oper}{a:Act}{Q:Exit→Act→World→Prop}(hgd:o.guard=none)(s x:Operand)
  (ho:o.op=.call { callee:=.builtin .append,args:=#[s,x],argTypes:=#[36,36] })
  (B:Nat)(v:Value)(l:List Str)(y:Str)(hs:a.eval s=v)(hown:Qg w B v l)(hx:a.eval x=.slice (some ⟨w.heap.size,0,none⟩) 1 1)(hl:l.length≤1000000000000)(hB:B≤w.heap.size)
  (h:∀ v' w',Qg w' B v' (l++[y])→w.grownBy w' v.ownBlock→Moved w v v'→wpList Tryz.prog ops Q rest (a.put o.dst v') w') :
  wpList Tryz.prog ops Q (o::rest) a (w.alloc (.cells #[.string ⟨y.toArray⟩] 9)):=by
 obtain⟨i0,hi,hz0,hz1,hz2⟩:=info_parts infoS
 refine wpList_app hgd s x 36 ho B 9 i0 (.string ⟨#[]⟩) 1 16 Tryz.underlying36 hi hz0 hz1 hz2 rfl (by decide) v l.length (l.map S) hs (World.ownsRow.alloc hown _) ⟨w.heap.size,0,none⟩ 1 1 [.string ⟨y.toArray⟩] hx rfl (cell_one_new _ _ _) (fun u hu=>by simp at hu;subst hu;rfl) (by unfold maxLen;omega) (by omega) (by simp;omega) ?_;intro v' w' own gr mv;refine h v' w' (Xn own (by simp) (by simp [S])) ⟨gr.os,gr.tape,gr.output,Nat.le_trans (by simp) gr.size,fun k hk hne=>?_⟩ ?_
 ·rw [gr.block k (by simp;omega) hne];exact heap_alloc_old _ _ hk
 ·rcases mv with m | ⟨k,h1,h2⟩
  ·exact Or.inl m
  ·exact Or.inr ⟨k,h1,by simp at h2;omega⟩
def ChainOut (w:World)(l:List Str)(e:Ending)(w':World):Prop:=∃ vv,e=.returned vv∧Qg w' w.heap.size vv l∧Below w.heap.size w w'
theorem chain_any (w:World)(v:Value)(D:List (Str×Str))(s:Str)(l:List Str)(h:ChRd w v D)(hD:saidOK D)(hl:ChainIs D s l)(hs:s.length≤maxLen)(hsz:D.length≤10000000000) :
  Calls Tryz.prog 24 #[v,.string ⟨s.toArray⟩] w fun e w'=>ChainOut w l e w':=by
 have PA:=hid (fun W (hb:Below w.heap.size w W) (a:Str) (ha:a.length≤maxLen)=>parent_any W v D a (h.below hb) ha);have NM:=hid (fun W=>named_any s W hs);simp only [NamedOut] at NM
 obtain⟨bc,bm,n0,rfl,_,_,_⟩:=h
 rcases hl with ⟨hn,hu⟩ | ⟨hn,rfl⟩
 ·rw [hn] at NM;have hlen:=up_len hD hn hu;have HU:=hid hu;have HLEN:=hid (show l.length≤200000000000 by omega);have HNA:=hid (up_named hD hn hu);have hl0:0<l.length:=List.length_pos_iff.2 (up_ne hu);have hh:l.take 1=[s]:=by obtain⟨r,rfl⟩:=up_head hu;simp
  have hg:∀ hj:0<l.length,l[0]'hj=s:=by obtain⟨r,rfl⟩:=up_head hu;intro _;rfl
  have HL0:=hid hl0;have HH:=hid hh;have HG0:=hid hg;clear hu hlen hD hsz hl0 hh hg hn;generalize namedT s=nt at *
  go_enter Tryz.func24,Tryz.ntmps24
  go_wp2_with fail
  refine(NM.out _).mono ?_
  rintro e w1 ⟨v1,rfl,⟨vv,kv,rfl,⟨av,cv,rfl,_,_⟩,⟨ak,ck,rfl,_,_⟩⟩,hb1⟩;simp only [Qh,S];have hb2:Below w1.heap.size w1 (w1.alloc (.cells #[.string ⟨nt.lang.toArray⟩,.string ⟨nt.script.toArray⟩,.string ⟨nt.region.toArray⟩,.slice av nt.vars.length cv,.slice ak nt.keys.length ck] 113)):=bal _ _;have HB2:=hid (hb1.then hb2);clear hb1 hb2
  go_upto_region 4 with (fail)
  generalize w1.alloc (.cells #[.string ⟨nt.lang.toArray⟩,.string ⟨nt.script.toArray⟩,.string ⟨nt.region.toArray⟩,.slice av nt.vars.length cv,.slice ak nt.keys.length ck] 113)=w2 at *;have ho:=fresh_own w2 [s] w.heap.size HB2.out.size (by simp);have HOW:=hid ho;have HB3:=hid (HB2.out.then (bal w2 (.cells #[.string ⟨s.toArray⟩] 9)));clear ho;go_wp2_with fail
  go_loopg [1,7] l.length (fun g va vl W=>∃ (j:Nat) (hj:j<l.length),va=.string ⟨l[j].toArray⟩∧Qg W w.heap.size vl (l.take (j+1))∧l.length≤j+1+g∧Below w.heap.size w W)
  case atStart=>exact⟨0,HL0.out,by rw [HG0.out HL0.out],by rw [HH.out];simpa [S] using HOW.out,by omega,HB3.out⟩
  case round =>
   obtain⟨j,hj,rfl,own,hg,hb⟩:=hrel
   rename World=>w4
   have HOJ:=hid own;have HGJ:=hid hg;have HBJ:=hid hb
   obtain⟨a,ha⟩:∃ a,a=l[j]'hj:=⟨_,rfl⟩
   have HAL:=hid (show a.length≤maxLen by rw [ha];exact Nat.le_trans (named_len (HNA.out _ (List.getElem_mem hj))) (by decide));have HEND:=hid (show a=Qv→j+1=l.length from fun h=>up_end HU.out j hj (by rw [← ha];exact h));have HNXT:=hid (show a≠Qv→∃ hj':j+1<l.length,stepF D a=some (l[j+1]'hj') from fun h=>by rw [ha];exact up_next HU.out j hj (by rw [← ha];exact h));clear own hg hb HOW HB3 HB2;rw [← ha];clear ha hj
   by_cases hr:a=Qv
   ·have hub:(a==[114,111,111,116])=true:=by rw [hr];rfl
    have hub2:(a != [114,111,111,116])=false:=by rw [hr];rfl
    have hjl:=HEND.out hr;have hown:=HOJ.out;rw [List.take_of_length_le (by omega)] at hown;have HOWN:=hid hown;clear hr hjl hown;go_wp2_with fail
    go_ret
    exact⟨_,rfl,HOWN.out,HBJ.out⟩
   ·have hub:(a==[114,111,111,116])=false:=by rw [beq_eq_false_iff_ne];exact hr
    have hub2:(a != [114,111,111,116])=true:=by rw [bne_iff_ne];exact hr
    obtain⟨hj2,hst⟩:=HNXT.out hr
    have hpa:=step_parent hst;have htk:l.take (j+1)++[l[j+1]'hj2]=l.take (j+1+1):=by rw [List.take_add_one (i:=j+1),List.getElem?_eq_getElem hj2];rfl
    have HTK:=hid htk
    obtain⟨y,hy⟩:∃ y,y=l[j+1]'hj2:=⟨_,rfl⟩
    have HJ2:=hid hj2;have HY:=hid (show ∀ h:j+1<l.length,y=l[j+1]'h from fun _=>hy);rw [← hy] at hpa HTK;have HPA:=hid hpa;clear hr hst hpa htk hy hj2;go_wp2_with fail
    refine(PA.out _ HBJ.out a HAL.out).mono ?_
    rintro e w5 ⟨rfl,hb5⟩;rw [HPA.out]
    simp only
    have HO5:=hid (Qz HOJ.out hb5);have HB5:=hid (HBJ.out.then hb5);have hll:(l.take (j+1)).length≤1000000000000:=by rw [List.length_take];have:=HLEN.out;omega
    have HLL:=hid hll;clear hb5 hll
    go_wp2_with (at_builtin;refine wpList_pushU rfl (.tmp 29) (.tmp 31) rfl w.heap.size _ _ y rfl HO5.out rfl HLL.out HB5.out.size ?_;intro v6 w6 own6 gr6 mv6)
    have HO6:=hid own6;have HB6:=hid (HB5.out.grown gr6 HB5.out.size (fun j hj=>(World.ownsRow.lt HO5.out _ hj).1));clear own6 gr6 mv6;go_wp2_with fail
    go_roundg (gk - 1)
    case measure=>have:=HGJ.out;have:=HJ2.out;omega
    case rel=>exact⟨j+1,HJ2.out,by rw [HY.out HJ2.out],by rw [← HTK.out];exact HO6.out,by have:=HGJ.out;have:=HJ2.out;omega,HB6.out⟩
 ·rw [hn] at NM;generalize namedT s=nt at *
  go_enter Tryz.func24,Tryz.ntmps24
  go_wp2_with fail
  refine(NM.out _).mono ?_
  rintro e w1 ⟨v1,rfl,⟨vv,kv,rfl,⟨av,cv,rfl,_,_⟩,⟨ak,ck,rfl,_,_⟩⟩,hb1⟩;simp only [Qh,S];go_wp2_with fail
  go_ret
  exact⟨_,rfl,World.ownsRow_nil _ _ _ _,hb1.then (bal _ _)⟩
end
section
open Go.RowKit Go.Lib
attribute [local go_sem] spot_fld
theorem pathB_len {p:Str}(h:Qm p=true):p.length≤512:=by
 unfold Qm at h
 obtain⟨l,hl⟩:=Option.isSome_iff_exists.1 h
 have:=(Zd hl).2.2.2.1
 rwa [(Zd hl).2.2.2.2] at this
theorem way_tail {D:List Al}:∀ {d:List Str}{q:Str}{r:List Str}{p:Str},WayIs D p (d++q::r)→WayIs D q (q::r)
 | [],q,r,p,h=>by
  obtain⟨r',e⟩:=way_head h
  cases e;exact h
 | [x],q,r,p,h=>h.2.2
 | x::y::d,q,r,p,h=>way_tail (d:=y::d) h.2.2
theorem away_any (w:World)(v:Value)(D:List Al)(p:Str)(l:List Str)(h:AlRd w v D)(hp:Qm p=true)(hs:szA D)(hl:WayIs D p l)(hn:l.length≤1000) :
  Calls Tryz.prog 78 #[v,.string ⟨p.toArray⟩] w fun e w'=>∃ vv,e=.returned vv∧Qg w' w.heap.size vv l∧Below w.heap.size w w':=by
 have HLQ:=hid (show ∀ q∈l,q.length≤maxLen from fun q hq=>by have:=pathB_len (way_path hp hl q hq);unfold maxLen;omega);have LD:=hid (fun W (hb:Below w.heap.size w W) (q:Str) (hq:q∈l)=>alead_any W v D q (h.below hb) (HLQ.out q hq) hs);have CK:=hid (pcheck_any p w (by have:=pathB_len hp;unfold maxLen;omega));have HP:=hid hp;have HL:=hid hl;have HN:=hid hn
 obtain⟨r0,hr0⟩:=way_head hl
 have HR0:=hid hr0
 obtain⟨b,kv,rfl,_,_⟩:=h
 clear hp hs hl hn hr0
 go_enter Tryz.func78,Tryz.ntmps78
 go_wp2_with (go_at_call 68;refine CK.out.mono ?_;rintro e w1 ⟨⟨er,ea,rfl,he⟩,hb1⟩;have he0:=he.2 HP.out;subst he0;have B1:=hid hb1;clear hb1 he)
 have ho:=fresh_own w1 [p] w.heap.size B1.out.size (by simp);have HOW:=hid ho;have HB3:=hid (B1.out.then (bal w1 (.cells #[.string ⟨p.toArray⟩] 9)));clear ho
 go_loopg [1,5] l.length (fun g v1 v5 W=>∃ (d:List Str) (q:Str) (r:List Str),l=d++q::r∧r.length≤g∧v1=.string ⟨q.toArray⟩∧Qg W w.heap.size v5 (d++[q])∧Below w.heap.size w W)
 case atStart=>exact⟨[],p,r0,HR0.out,by rw [HR0.out];simp,rfl,by simpa [S] using HOW.out,HB3.out⟩
 case round =>
  obtain⟨d,q,r,hd,hg,rfl,own,hb⟩:=hrel
  rename World=>w4
  have HD:=hid hd;have HG:=hid hg;have HO:=hid own;have HB:=hid hb;have HT:=hid (way_tail (d:=d) (hd ▸ HL.out));have LQ:=hid (LD.out w4 hb q (by rw [hd];simp));have HDL:=hid (show(d++[q]).length≤1000 by have:=HN.out;rw [hd] at this;simp at this ⊢;omega);clear hd hg own hb HOW HB3 B1 CK
  cases r with
  | nil =>
   have hno:leadA D q=none:=HT.out.2;rw [hno] at LQ;clear hno
   go_wp2_with (go_at_call 107;refine LQ.out.mono ?_;rintro e w5 ⟨⟨s,rfl,_⟩,hb5⟩;have B5:=hid hb5;clear hb5)
   go_ret
   exact⟨_,rfl,by rw [HD.out];exact Qz HO.out B5.out,HB.out.then B5.out⟩
  | cons y r =>
   have hyes:leadA D q=some y:=HT.out.2.1;rw [hyes] at LQ;clear hyes;go_wp2_with fail;refine LQ.out.mono ?_;rintro e w5 ⟨⟨s,rfl,hs⟩,hb5⟩;have hs2:=hs y rfl;subst hs2;have HO5:=hid (Qz HO.out hb5);have HB5:=hid (HB.out.then hb5);have hll:(d++[q]).length≤1000000000000:=by have:=HDL.out;omega
   have HLL:=hid hll;clear hs hb5 hll
   go_wp2_with (at_builtin;refine wpList_pushU rfl (.tmp 27) (.tmp 29) rfl w.heap.size _ _ s rfl HO5.out rfl HLL.out HB5.out.size ?_;intro v6 w6 own6 gr6 mv6;have HO6:=hid own6;have HB6:=hid (HB5.out.grown gr6 HB5.out.size (fun j hj=>(World.ownsRow.lt HO5.out _ hj).1));clear own6 gr6 mv6)
   go_wp2_with fail
   go_roundg (gk - 1)
   case measure=>have:=HG.out;simp only [List.length_cons] at this;omega
   case rel=>exact⟨d++[q],s,r,by rw [HD.out];simp,by have:=HG.out;simp only [List.length_cons] at this;omega,rfl,HO6.out,HB6.out⟩
end
section
open Go.RowKit Go.Lib Go.Sort
theorem cmp_closure12 (x y:Str×Str)(W:World):Calls Tryz.prog 58 #[.agg #[S x.1,S x.2],.agg #[S y.1,S y.2]] W fun e w'=>e=.returned (.int .i64 (Lib.compareBytes x.1 y.1))∧∃ q os',w'=grow (W.drewN q) os':=by
 have hcon:=fun W'=>Tryz.strings_Compare ⟨x.1.toArray⟩ ⟨y.1.toArray⟩ W'
 change ∀ W',Calls _ _ _ _ fun e w'=>e=.returned (.int .i64 (Lib.compareBytes x.1 y.1))∧_ at hcon
 generalize Lib.compareBytes x.1 y.1=r at hcon ⊢;unfold S
 go_enter Tryz.func58,Tryz.ntmps58
 go_wp2_with (go_at_call 59;refine(hcon _).mono ?_;rintro e w' ⟨rfl,rfl⟩)
 go_ret
 exact⟨rfl,0,_,by rw [alloc_eq_grow,alloc_eq_grow,grow_grow];rfl⟩
theorem cmpLays12 (blk off size:Nat)(w:World):CmpLays Tryz.prog 58 #[] Jh 2 cmpK blk off size w :=
 fun _ _ _ _ x y=>cmp_closure12 x y _
theorem sortPairs12 (w:World)(B:Nat)(v:Value)(l:List (Str×Str))(h:Qd w B v l)(hl:l.length≤1000) :
  Calls Tryz.prog 57 #[v,.func (.func 58) #[] #[]] w fun e w'=>e=.returned (.tuple #[])∧
   (∃ l':List (Str×Str),l'.Perm l∧l'.Pairwise (fun a b=>¬ b.1<a.1)∧Qd w' B v l')∧w.grownBy w' v.ownBlock:=by
 have eg:∀ args w,(callFunc 58 args).run Tryz.prog w=.ok (.enter 58 args) w:=enters_of Tryz.func58 (by kernel_rfl) rfl
 rcases h.shape with ⟨rfl,rfl⟩ | ⟨g,cap,cur,rfl,hB,hg,hn,hm,hs,ht⟩
 ·have hc:=AnyF.slices_SortFunc_none Tryz.sfPair none 0 (.func (.func 58) #[] #[]) w;change Calls Tryz.prog 57 _ _ _ at hc;refine hc.mono ?_;rintro e w' ⟨rfl,rfl⟩
  exact⟨rfl,⟨[],List.Perm.refl _,List.Pairwise.nil,h⟩,World.grownBy.refl _ _⟩
 ·have hc:=AnyQ.slices_SortFunc Tryz.sfPair 2 Tryz.isAgg76 Tryz.sizeOf76 Jh (fun _=>rfl) (fun x v hv=>by simp [Jh] at hv;rcases hv with rfl | rfl <;> rfl) cmpK swo 58 #[] g 0 cap l.toArray w eg (cmpLays12 g 0 _ w) (holdsK_of hg ht) (lt_of_block hg) (by simp;omega);change Calls Tryz.prog 57 _ _ _ at hc;refine hc.mono fun e w' hh=>⟨hh.1,?_⟩
  obtain⟨d',n,os,hp,hsd,rfl⟩:=hh.2
  have hsz:d'.size=l.length:=by simpa using hp.1
  have hperm:d'.toList.Perm l:=by
   have:=hp.2.2
   simp only [List.size_toArray] at this;rw [← hsz] at this;have ht':List.take l.length d'.toList=d'.toList:=List.take_of_length_le (by simp [hsz])
   simpa [hsz,ht'] using this
  refine⟨⟨d'.toList,hperm,?_,?_⟩,?_⟩
  ·rw [List.pairwise_iff_getElem];intro i j hi hj hij
   have:=hsd i j (Nat.zero_le _) hij (by simp at hj ⊢;omega)
   rw [getElem!_pos _ i (by simpa using hi),getElem!_pos _ j (by simpa using hj)] at this;intro hlt;have h2:ltOf cmpK d'[j] d'[i]=true:=by
    show decide (Lib.compareBytes _ _<0)=true;exact decide_eq_true ((cb_lt _ _).2 (by simpa using hlt))
   rw [this] at h2;cases h2
  ·have hlen:d'.toList.length=l.length:=hperm.length_eq
   refine⟨Jv _,Or.inr ⟨g,cap,putCells id 0 (flatK Jh 2 d') cur,by rw [hlen],hB,?_,by omega,hm,by simpa [putCells] using hs,?_⟩⟩
   ·unfold sortWorldK putRowK;rw [heap_grow_old _ _ (by simpa using lt_of_block hg)]
    simp [putRow,mapBlock,Sort.ahead,Array.getElem?_modify,hg,onCells]
   ·have:=take_putCells2 cur d'.toList (by rw [hlen,hs];omega)
    simpa using this
  ·refine⟨rfl,rfl,rfl,by simp [sortWorldK,putRowK],fun k hk hne=>?_⟩
   unfold sortWorldK putRowK;rw [heap_grow_old _ _ (by simpa using hk)]
   have:g≠k:=fun e=>hne (by rw [e];rfl)
   simp [putRow,mapBlock,Sort.ahead,Array.getElem?_modify,this]
end
section
open Go.RowKit Go.Lib Go.Sort Go.Maps Go.WideMaps
theorem nodup_len {α:Type} [BEq α] [LawfulBEq α]:∀ (l R:List α),l.Nodup→(∀ x∈l,x∈R)→l.length≤R.length
 | [],R,_,_=>Nat.zero_le _
 | x::l,R,hn,hs=>by
  rw [List.nodup_cons] at hn;have hx:=hs x List.mem_cons_self;have h2:=nodup_len l (R.erase x) hn.2 fun y hy=>(List.mem_erase_of_ne (fun e=>hn.1 (by rw [← e];exact hy))).2 (hs y (List.mem_cons_of_mem _ hy))
  rw [List.length_erase_of_mem hx] at h2
  have:0<R.length:=List.length_pos_of_mem hx
  rw [List.length_cons];omega
theorem wpList_next_sd {w:World}{ops:Array Oper}{rest:List Oper}{o:Oper}{a:Act}{Q:Exit→Act→World→Prop}(hg:o.guard=none)(it:Operand)(hop:o.op=Op.next it false)
  (b r n:Nat)(m:DataW Unit)(left:Lit→Bool)(cnt:Nat)(hit:a.eval it=.pointer (some ⟨r,0,none⟩))(h:w.ranges Tryz.prog 9 rdSd b r n m left cnt)
  (hDone:cnt=0→(∀ kl,left kl=false)→wpList Tryz.prog ops Q rest (a.put o.dst (.tuple #[.bool false])) w)
  (hMore:∀ (x:Str)(ct:Str)(cf ca:Int)(w':World)(cnt':Nat),x.length≤maxLen→left (.string x)=true→(∀ zd,m.atKey (.string x) zd=sdD (ct,cf,ca))→w'.ranges Tryz.prog 9 rdSd b r n m (fun z=>left z&&!z.sameKey (.string x)) cnt'→cnt'<cnt →
   w.grownBy w' (some r)→w'.heap.size=w.heap.size→(Instr.entry (.pointer (some ⟨r,0,none⟩))).run Tryz.prog w'=.ok (.tuple #[.string ⟨x.toArray⟩,.agg #[.string ⟨ct.toArray⟩,.int .i64 cf,.int .i64 ca]]) w'→wpList Tryz.prog ops Q rest (a.put o.dst (.tuple #[.bool true,.string ⟨x.toArray⟩,.agg #[.string ⟨ct.toArray⟩,.int .i64 cf,.int .i64 ca]])) w') :
  wpList Tryz.prog ops Q (o::rest) a w :=
 wpList_next_ranges w hg it hop 9 lawS rdSd (fun s:Str=>Value.string ⟨s.toArray⟩) sdV
  (fun key kl hkey=>by obtain⟨s,rfl,_⟩:=string_of_keyOf Tryz.underlying9 hkey;exact⟨s.data.toList,rfl⟩)
  (fun v y hv=>by obtain⟨c,rfl,_⟩:=elSd.inv hv;exact⟨c,rfl⟩)
  b r n m left cnt hit h hDone (fun x c kl y w' cnt' hkey hlk hv hat hrg hlt hgr hsz hen=>by
   obtain⟨s,e1,e2,hs⟩:=string_of_keyOf Tryz.underlying9 hkey
   cases e1;subst e2
   obtain⟨c',ec,rfl⟩:=elSd.inv (show elSd.rd (elSd.v c)=some y from hv)
   have:c=c':=elSd.inj (by
    have h1:=elSd.ok c;have h2:=elSd.ok c';rw [show elSd.v c=elSd.v c' from ec,h2] at h1
    exact((Prod.mk.inj (Option.some.inj h1)).1).symm)
   subst this
   obtain⟨ct,cf,ca⟩:=c
   exact hMore x ct cf ca w' cnt' (by have:=hs;rw [Lib.size_eq] at this;exact this) hlk hat hrg hlt hgr hsz hen)
def alP (t:Tb):List (Str×Str):=t.als.map fun r=>(r.path,r.text)
def keyLe (a b:Str×Str):Bool:=decide (a.1≤b.1)
def Xq (t:Tb):List (Str×Str):=(alP t).mergeSort keyLe
theorem sortedK_one:∀ {l m:List (Str×Str)},l.Perm m→(l.map (·.1)).Nodup→l.Pairwise (fun a b=>¬ b.1<a.1)→m.Pairwise (fun a b=>¬ b.1<a.1)→l=m
 | l,m,hp,hn,h1,h2=>by
  refine List.Perm.eq_of_pairwise (le:=fun a b=>¬ b.1<a.1) (fun a b ha hb hab hba=>?_) h1 h2 hp;have e:a.1=b.1:=List.le_antisymm (by simpa using hab) (by simpa using hba);have hb':b∈l:=hp.mem_iff.2 hb
  obtain⟨i,hi,rfl⟩:=List.getElem_of_mem ha
  obtain⟨j,hj,rfl⟩:=List.getElem_of_mem hb'
  by_cases hij:i=j
  ·subst hij;rfl
  ·exfalso
   have hk:=fun i j hi hj hij=>(List.pairwise_iff_getElem.1 hn) i j hi hj hij
   rcases Nat.lt_or_gt_of_ne hij with hl | hl
   ·exact hk i j (by simpa using hi) (by simpa using hj) hl (by simpa using e)
   ·exact hk j i (by simpa using hj) (by simpa using hi) hl (by simpa using e.symm)
theorem aliasesF_sorted (t:Tb):(Xq t).Pairwise (fun a b=>¬ b.1<a.1):=by
 have:=List.pairwise_mergeSort (le:=keyLe) (fun a b c h1 h2=>by simp only [keyLe,decide_eq_true_eq] at *;exact List.le_trans h1 h2) (fun a b=>by simp only [keyLe,Bool.or_eq_true,decide_eq_true_eq];exact List.le_total a.1 b.1) (alP t)
 exact this.imp fun {a b} h=>by simpa [keyLe] using h
theorem aliasesF_perm (t:Tb):(Xq t).Perm (alP t):=List.mergeSort_perm _ _
theorem alP_keys (t:Tb):(alP t).map (·.1)=t.als.map (·.path):=by unfold alP;rw [List.map_map];rfl
theorem aliases_one {t:Tb}(ok:Jq t){l:List (Str×Str)}(hp:l.Perm (alP t))(hs:l.Pairwise (fun a b=>¬ b.1<a.1)):l=Xq t :=
 sortedK_one (hp.trans (aliasesF_perm t).symm) (by rw [(hp.map _).nodup_iff,alP_keys];exact ok.als) hs (aliasesF_sorted t)
theorem alP_len (t:Tb):(alP t).length=t.als.length:=by unfold alP;rw [List.length_map]
structure AlsSt (w:World)(t:Tb)(ba n:Nat)(m:DataW Unit)(g:Nat)(vl:Value)(W:World)(left:Lit→Bool)(cnt:Nat)(l:List (Str×Str)):Prop where
 rng:W.ranges Tryz.prog 9 rdSd ba w.heap.size n m left cnt
 gas:cnt≤g
 own:Qd W (w.heap.size+1) vl l
 nd:l.Nodup
 mem:∀ p,p∈l↔p∈alP t∧left (.string p.1)=false
 bel:Below w.heap.size w W
theorem AlsSt.len {w W:World}{t:Tb}{ba n g cnt:Nat}{m:DataW Unit}{vl:Value}{left:Lit→Bool}{l:List (Str×Str)}(h:AlsSt w t ba n m g vl W left cnt l):l.length≤(alP t).length :=
 nodup_len l (alP t) h.nd fun x hx=>((h.mem x).1 hx).1
theorem als_mem {t:Tb}(ok:Jq t){l:List (Str×Str)}{left:Lit→Bool}{x ct:Str}{cf ca:Int}(hm:∀ p,p∈l↔p∈alP t∧left (.string p.1)=false)(hl:left (.string x)=true)(hlk:Zj (sdL t.als) x=some (ct,cf,ca)) :
  (x,ct) ∉ l∧∀ p,p∈l++[(x,ct)]↔p∈alP t∧(left (.string p.1)&&!(Lit.string p.1).sameKey (.string x))=false:=by
 refine⟨fun h=>(by have:=((hm _).1 h).2;rw [hl] at this;cases this),fun p=>?_⟩
 have hs:(Lit.string p.1).sameKey (.string x)=decide (p.1=x):=by
  by_cases e:p.1=x
  ·rw [e];simp [Lit.sameKey]
  ·rw [sameKey_ne (fun h=>e (by simpa using h))];simp [e]
 have hin:(x,ct)∈alP t:=by
  have:=lookE_in hlk
  unfold sdL at this
  obtain⟨r,hr,e⟩:=List.mem_map.1 this
  simp only [sdOf,Prod.mk.injEq] at e;exact List.mem_map.2 ⟨r,hr,by rw [e.1,e.2.1]⟩
 have hone:∀ q∈alP t,q.1=x→q=(x,ct):=by
  intro q hq e;have hn:((alP t).map (·.1)).Nodup:=by rw [alP_keys];exact ok.als
  have h1:=lookE_is hn hq;have h2:=lookE_is hn hin;rw [e] at h1;simp only at h2;rw [h1] at h2
  obtain⟨q1,q2⟩:=q
  simp only at e h2;rw [e,Option.some.inj h2]
 rw [List.mem_append,hm,List.mem_singleton,hs]
 constructor
 ·rintro(⟨h1,h2⟩ | rfl)
  ·exact⟨h1,by rw [h2];rfl⟩
  ·exact⟨hin,by simp⟩
 ·rintro⟨h1,h2⟩
  by_cases e:p.1=x
  ·right;exact hone p h1 e
  ·left
   refine⟨h1,?_⟩
   simpa [e] using h2
def OutP (w:World)(l:List (Str×Str))(e:Ending)(w':World):Prop:=∃ v,e=.returned v∧Qd w' w.heap.size v l∧Below w.heap.size w w'
theorem aliases_any {w:World}{B0 Bt bv ba bn bp N:Nat}{V:List (Str×Nat)}{t:Tb}(h:TbIn B0 w Bt bv ba bn bp N V t)(ok:Jq t)(hsz:t.als.length≤1000) :
  Calls Tryz.prog 30 #[.pointer (some ⟨Bt,0,none⟩)] w fun e w'=>OutP w (Xq t) e w':=by
 obtain⟨t0,t1,t2,t3,tl⟩:=h.box
 obtain⟨m,hown,hat⟩:=h.at_.als
 have HOK:=hid ok;have HSZ:=hid (show(alP t).length≤1000 by rw [alP_len];exact hsz);have HAT:=hid hat;have HOWN:=hid hown;have hbm:=hown.lt;have HND:=hid (show(alP t).Nodup from by
  have:=ok.als
  rw [← alP_keys,List.Nodup,List.pairwise_map] at this;exact this.imp fun h e=>h (by rw [e]))
 clear ok hsz hat hown
 go_enter Tryz.func30,Tryz.ntmps30
 go_wp2_with (at_range;refine wpList_range_own _ rfl _ 91 rfl 9 96 lawS Tryz.underlying91 _ ba N m rfl HOWN.out ?_;intro w1 hrg0 hg0 hs0)
 go_frame
 have ST0:=hid (show AlsSt w t ba N m (Maps.size m) (.slice none 0 0) w1 (Maps.has m) (Maps.size m) [] from⟨hrg0,Nat.le_refl _,World.ownsRow_nil _ _ _ _,List.nodup_nil,(fun p=>⟨fun h=>(by cases h),fun⟨h1,h2⟩=>by
   obtain⟨r,hr,rfl⟩:=List.mem_map.1 h1
   have h3:(Zj (sdL t.als) r.path).isSome=true:=lookE_mem (List.mem_map.2 ⟨(r.path,sdOf r),List.mem_map.2 ⟨r,hr,rfl⟩,rfl⟩)
   obtain⟨y,hy⟩:=Option.isSome_iff_exists.1 h3
   rw [has_true_of_atKey (y:=sdD y) (fun z=>by rw [HAT.out,hy];rfl)] at h2
   cases h2⟩),(Below.refl _ _).grown hg0 (Nat.le_refl _) (fun j hj=>by cases hj)⟩)
 clear hrg0 hg0 hs0 t0 t1 t2 t3 tl h
 obtain⟨NN,hN⟩:∃ NN,NN=Maps.size m:=⟨_,rfl⟩
 have HN:=hid hN;clear hN
 go_loopg [3] NN (fun g vl W=>∃ left cnt l,AlsSt w t ba N m g vl W left cnt l)
 case atStart=>exact⟨_,_,_,by rw [HN.out];exact ST0.out⟩
 case round =>
  obtain⟨left,cnt,l,st⟩:=hrel
  rename World=>w2
  have ST:=hid st;clear st ST0
  go_wp2_with (at_next;refine wpList_next_sd rfl _ rfl ba w.heap.size N m left cnt rfl ST.out.rng ?_ ?_)
  ·intro _ hl0;have HPM:=hid (show l.Perm (alP t) from(List.perm_ext_iff_of_nodup ST.out.nd HND.out).2 fun p=>by rw [ST.out.mem];simp [hl0]);have HOW:=hid ST.out.own;have HBL:=hid ST.out.bel;have hll:l.length≤1000:=by have:=ST.out.len;have:=HSZ.out;omega
   have HLL:=hid hll;clear hl0 hll ST;go_wp2_with fail
   refine(sortPairs12 w2 _ _ l HOW.out HLL.out).mono ?_
   rintro e w3 ⟨rfl,⟨l2,hp,hs,own2⟩,hgr⟩;have hl2:=aliases_one HOK.out (hp.trans HPM.out) hs;subst hl2;have HO2:=hid own2;have HB3:=hid (HBL.out.grown hgr HBL.out.size (fun j hj=>by have:=(World.ownsRow.lt HOW.out _ hj).1;omega));clear hp hs own2 hgr;go_wp2_with fail
   go_ret
   exact⟨_,rfl,ownP_monoS HO2.out (by omega),HB3.out⟩
  ·intro x ct cf ca w3 cnt1 hxl hlx hatx hrg1 hlt1 hg1 hs1 hen;have hlk:Zj (sdL t.als) x=some (ct,cf,ca):=by
    have h1:=hatx .nil;rw [HAT.out] at h1
    cases hl:Zj (sdL t.als) x with
    | some y=>rw [hl] at h1;rw [elSd.inj (show elSd.d y=elSd.d (ct,cf,ca) from h1)]
    | none=>rw [hl] at h1;cases h1
   have HMM:=hid (als_mem HOK.out ST.out.mem hlx hlk);have hown3:Qd w3 (w.heap.size+1) _ l:=World.ownsRow.kept ST.out.own hg1 (Or.inr fun e=>by have:=(World.ownsRow.lt ST.out.own _ e).1;omega);have HO3:=hid hown3;have HB3:=hid (ST.out.bel.grown hg1 ST.out.bel.size (fun j hj=>by cases hj;exact Nat.le_refl _));have HRG:=hid hrg1;have hll:l.length≤1000000:=by have:=ST.out.len;have:=HSZ.out;omega
   have HLL:=hid hll;have HS3:=hid (show w.heap.size+1≤w3.heap.size by have:=hrg1.lt;omega);have HC:=hid hlt1;clear hlk hown3 hll hatx hrg1 hlt1 hg1 hs1 hlx;go_upto_region 7 with fail;have HA:=hid (bal w3 (.cells #[.string ⟨ct.toArray⟩,.int .i64 cf,.int .i64 ca] 96));have GA:=hid (World.grownBy_alloc w3 (.cells #[.string ⟨ct.toArray⟩,.int .i64 cf,.int .i64 ca] 96) none);have Y4:=hid (heap_alloc_new w3 (.cells #[.string ⟨ct.toArray⟩,.int .i64 cf,.int .i64 ca] 96));generalize w3.alloc (.cells #[.string ⟨ct.toArray⟩,.int .i64 cf,.int .i64 ca] 96)=w4 at *
   obtain⟨y0,y1,y2,yl⟩:=Qj Y4.out
   have HO4:=hid (show Qd w4 (w.heap.size+1) _ l from Qz HO3.out HA.out);have HR4:=hid (HRG.out.kept GA.out (fun e=>by cases e) (fun e=>by cases e));have HB4:=hid (HB3.out.then HA.out);have HS4:=hid (Nat.le_trans HS3.out HA.out.size);clear HO3 HRG HB3 HA GA hen
   go_wp2_with (at_builtin;refine wpList_pushP rfl (.tmp 18) (.tmp 23) rfl (w.heap.size+1) _ l (x,ct) rfl HO4.out rfl HLL.out HS4.out ?_;intro v5 w5 own5 gr5 mv5)
   have HO5:=hid own5;have HR5:=hid (HR4.out.kept gr5 (fun e=>by have h1:=(World.ownsRow.lt HO4.out _ e.symm).1;omega) (fun e=>by have h1:=(World.ownsRow.lt HO4.out _ e.symm).1;omega));have HB5:=hid (HB4.out.grown gr5 HB4.out.size (fun j hj=>by have:=(World.ownsRow.lt HO4.out _ hj).1;omega));clear own5 gr5 mv5;go_wp2_with fail
   go_roundg (gk - 1)
   case measure=>have:=ST.out.gas;have:=HC.out;omega
   case rel=>exact⟨_,cnt1,l++[(x,ct)],HR5.out,by have:=ST.out.gas;have:=HC.out;omega,HO5.out,by
    rw [List.nodup_append]
    exact⟨ST.out.nd,by simp,fun p hp q hq=>by rw [List.mem_singleton.1 hq];exact fun e=>HMM.out.1 (e ▸ hp)⟩,HMM.out.2,HB5.out⟩
end
end Go.Proofs.YtbbmdbolkicpcaaGreatDoor
