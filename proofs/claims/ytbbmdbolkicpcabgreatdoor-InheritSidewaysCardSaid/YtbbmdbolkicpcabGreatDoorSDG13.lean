/- AppE, RRestA, RRestB, RpFormP, RpRd, RpForm, RpBroken, RRestC, RRestD -/
import Derived.Test.YtbbmdbolkicpcabGreatDoorSDG11
import Derived.Deep.RegionHeld3
import Derived.Test.YtbbmdbolkicpcabGreatDoorSDG06
import Derived.Test.YtbbmdbolkicpcabGreatDoorSDG02
import Derived.BigQuiet
import Derived.Lib.RuneBytes
import Derived.Test.YtbbmdbolkicpcabGreatDoorSDG04
import Derived.LoopTactic
import Derived.Deep.LoopGhost
import Derived.Deep.CutBlock
set_option maxRecDepth 100000
set_option maxHeartbeats 32000000
set_option linter.unusedVariables false
set_option linter.unusedSimpArgs false
namespace Go.Proofs.YtbbmdbolkicpcabGreatDoor
section
open Go.RowKit Go.Lib
theorem run_appE {α:Type}{k:Nat}(E:Enc α k){e t:TypeId}{z:Value}{bytes:Nat}(ht:Tryz.prog.underlying t=some (.slice e))(hinf:(Tryz.prog.info? e).map (fun i=>(i.zero,i.size,i.bytes))=some (some z,k,bytes))(hzs:z.cells.size=k)(hk:0<k)
  (w:World)(ty:TypeId)(B:Nat)(v:Value)(l m:List α)(hown:Qg E e w B v l){u:Value}(hr:RdL E w u m)(hl:l.length+m.length≤maxLen)(hl2:(l.length+m.length) * bytes≤140737488355328)(hB:B≤w.heap.size) :
  ∃v' w',(Builtin.append_ #[t,t] ty #[v,u]).run Tryz.prog w=.ok v' w'∧Qg E e w' B v' (l++m)∧w.grownBy w' v.ownBlock:=by
 obtain⟨i0,hi,hz0,hz1,hz2⟩:=info_parts hinf
 obtain⟨ao,cp,rfl,⟨h1,h2,h3⟩,hc⟩:=hr
 cases hao:ao with
 |none =>
  subst hao
  obtain⟨rfl,rfl⟩:=h3 rfl
  exact⟨v,w,run_append_owned_none (P:=Tryz.prog) (w:=w) B t ty e i0 k ht hi v l.length _ hown,by rw[List.append_nil];exact hown,World.grownBy.refl _ _⟩
 |some ad =>
  subst hao
  by_cases hm:m=[]
  ·subst hm
   obtain⟨v',w',hr,own,gr,_⟩:=Qgx (P:=Tryz.prog) w B t ty e i0 _ k bytes ht hi hz0 hz1 hz2 hzs hk v l.length _ hown ad 0 cp [] (by simp) (fun j u hu=>by simp at hu) (fun u hu=>by cases hu) (by simpa using hl) (by simpa using hl2) hB
   exact⟨v',w',hr,by rw[List.append_nil];exact Xh own rfl (by simp),gr⟩
  ·obtain⟨b,off,ha,hlt,hcell⟩:=hc hm
   cases ha
   obtain⟨v',w',hr,own,gr,_⟩:=Qgx (P:=Tryz.prog) w B t ty e i0 _ k bytes ht hi hz0 hz1 hz2 hzs hk v l.length _ hown ⟨b,off,none⟩ m.length cp (Xd E m) (Js E m) (fun j u hu=>by
    have hj:j<m.length * k:=by have:=(List.getElem?_eq_some_iff.1 hu).1;rwa [Js]at this
    have hq:j / k<m.length:=Nat.div_lt_of_lt_mul (by rw[Nat.mul_comm];exact hj);have hr:=Nat.mod_lt j hk;have he:j=j / k * k+j % k:=by rw[Nat.mul_comm];exact(Nat.div_add_mod j k).symm
    rw[he,Hg E m (j / k) (j % k) hq hr]at hu
    have:=hcell (j / k) (j % k) u hq hu
    rw[Nat.add_assoc,←he]at this;have hadd:((⟨b,off,none⟩:Addr).add j)=⟨b,off+j,none⟩:=by
     unfold Addr.add
     split
     ·next e=>subst e;rfl
     ·rfl
    rw[hadd];exact this) (fun u hu=>by
    obtain⟨y,_,hy⟩:=List.mem_flatMap.1 hu
    exact E.one y u hy) hl hl2 hB
   exact⟨v',w',hr,Xh own (by simp) (by rw[Fh]),gr⟩
theorem Hn {α:Type}{k:Nat}(E:Enc α k){e t:TypeId}{z:Value}{bytes:Nat}(ht:Tryz.prog.underlying t=some (.slice e))(hinf:(Tryz.prog.info? e).map (fun i=>(i.zero,i.size,i.bytes))=some (some z,k,bytes))(hzs:z.cells.size=k)(hk:0<k)
  {w:World}{ops:Array Oper}{o:Oper}{a:Act}{K:Act→World→Prop}{Q:Exit→Act→World→Prop}{X:Prop} (hgd:o.guard=none) (s x:Operand)
  (ho:o.op=.call { callee:=.builtin .append,args:=#[s,x],argTypes:=#[t,t] })
  (B:Nat)(v u:Value)(l m:List α)(hs:a.eval s=v)(hx:a.eval x=u)(hown:Qg E e w B v l)(hr:RdL E w u m)(hl:l.length+m.length≤maxLen)(hl2:(l.length+m.length) * bytes≤140737488355328)(hB:B≤w.heap.size)
  (h:∀v' w',Qg E e w' B v' (l++m)→w.grownBy w' v.ownBlock→K (a.put o.dst v') w') :
  if Region.wanted o (yielded ops a.tmps)=true then Oper.wp Tryz.prog o a w K Q else X:=by
 have hw:Region.wanted o (yielded ops a.tmps)=true:=by simp[Region.wanted,hgd]
 rw[if_pos hw]
 obtain⟨v',w',hr,h2,h3⟩:=run_appE E ht hinf hzs hk w o.type B v l m hown hr hl hl2 hB
 unfold Oper.wp execOp;simp only[ho,resolve,invoke,builtin,Sem.run_bind,Sem.run_pure,Result.andThen_ok,List.map_toArray,List.map_cons,List.map_nil,hs,hx,hr];exact h v' w' h2 h3
end
section
open Go.RowKit Go.Lib
theorem cat2 (a b:Str):(⟨a.toArray⟩:ByteArray)++⟨b.toArray⟩=⟨(a++b).toArray⟩:=by
 apply ByteArray.ext
 simp
theorem one_byte {v:Str}{m:Nat}(h:m<v.length):(⟨v.toArray⟩:ByteArray).extract m (m+1)=⟨[v[m]'h].toArray⟩:=by
 apply ByteArray.ext
 rw[ByteArray.data_extract]
 apply Array.ext'
 rw[Array.toList_extract,List.extract_eq_take_drop,Nat.add_sub_cancel_left,List.drop_eq_getElem_cons h]
 rfl
theorem Xgw (v:Str)(w:World)(hs:(Ql v).length≤140737488355328) :
  Calls Tryz.prog 143 #[.string ⟨v.toArray⟩] w fun e w'=>e=.returned (.string ⟨(Ql v).toArray⟩)∧w'=w:=by
 have IX:=hid (fun(c:UInt8) W=>(show Calls Tryz.prog 190 #[.string ⟨#[91,93,47,61,92]⟩,.int .u8 (c.toNat:Int)] W fun e w'=>∃ix:Int,e=.returned (.int .i64 ix)∧decide ((0:Int)≤ix)=Km c∧w'=W from by
  have h:=Tryz.strings_IndexByte ⟨#[91,93,47,61,92]⟩ (c.toNat:Int) W;rw[show((c.toNat:Int)).toNat.toUInt8=c by simp]at h;exact h.mono (by rintro e w' ⟨rfl,rfl⟩;exact⟨_,rfl,Zrj c,rfl⟩)))
 have HS:=hid hs;have hvl:=Uq v;have hvz:(v.length:Int)≤140737488355328:=by omega
 have hsz:(⟨v.toArray⟩:ByteArray).size=v.length:=Lib.size_eq _;clear hs hvl
 go_enter Tryz.func143,Tryz.ntmps143
 go_wp2_with fail
 go_loopg[3,4] v.length (fun g v3 v4 W=>∃m:Nat,m≤v.length∧v.length≤m+g∧v3=.string ⟨(Ql (v.take m)).toArray⟩∧v4=.int .i64 m∧W=w)
 case atStart=>exact⟨0,Nat.zero_le _,by omega,rfl,rfl,rfl⟩
 case round =>
  obtain⟨m,hm,hg,rfl,rfl,rfl⟩:=hrel
  rename World=>w
  have HG:=hid hg;clear hg
  by_cases hlt:m<v.length
  ·have hmi:(m:Int)<(v.length:Int):=by omega
   have hm0:(0:Int)≤(m:Int):=by omega
   have HDS:=hid (Qdh hlt);have hby:∀h,(⟨v.toArray⟩:ByteArray)[m]'h=v[m]'hlt:=fun h=>rfl
   have hex:=one_byte hlt;have hle:(Ql (v.take m)).length+2≤140737488355328+2:=by
    have h2:Ql v=Ql (v.take m)++Ql (v.drop m):=by rw[←Bc,List.take_append_drop]
    have:=HS.out
    rw[h2,List.length_append]at this
    omega
   have hdz:((Ql (v.take m)).length:Int)≤140737488355328:=by omega
   generalize v[m]'hlt=c at *
   cases hc:Km c with
   |true =>
    rw[hc]at HDS;have HSC:=hid hc;clear hc;go_wp2_with fail
    refine(IX.out c w).mono ?_
    rintro e w8 ⟨ix,rfl,hix,rfl⟩;rw[HSC.out]at hix;have hix2:(0:Int)≤ix:=of_decide_eq_true hix;clear hix;go_wp2_with fail
    go_roundg (gk-1)
    case measure=>have:=HG.out;omega
    case rel=>exact⟨m+1,by omega,by have:=HG.out;omega,by rw[HDS.out];simp[cat2],by simp,rfl⟩
   |false =>
    rw[hc]at HDS;have HSC:=hid hc;clear hc;go_wp2_with fail
    refine(IX.out c w).mono ?_
    rintro e w8 ⟨ix,rfl,hix,rfl⟩;rw[HSC.out]at hix;have hix2:¬(0:Int)≤ix:=of_decide_eq_false hix;clear hix;go_wp2_with fail
    go_roundg (gk-1)
    case measure=>have:=HG.out;omega
    case rel=>exact⟨m+1,by omega,by have:=HG.out;omega,by rw[HDS.out];simp[cat2],by simp,rfl⟩
  ·have hmi:¬(m:Int)<(v.length:Int):=by omega
   have HF:=hid (show Ql (v.take m)=Ql v by rw[List.take_of_length_le (by omega)]);go_wp2_with fail;exact bodyPost_ret (v:=.string ⟨(Ql (v.take m)).toArray⟩) (by simp[results,Tryz.results143,go_sem]) rfl ⟨by rw[HF.out],rfl⟩
end
section
open Go.RowKit Go.Lib
theorem rtext_any (w:World)(x:Stp)(kv:Value)(hr:RdP w kv x.2)(hs:(Qp x).length≤140737488355328) :
  Calls Tryz.prog 80 #[.agg #[.string ⟨x.1.toArray⟩,kv]] w fun e w'=>e=.returned (.string ⟨(Qp x).toArray⟩)∧Below w.heap.size w w':=by
 obtain⟨n,ks⟩:=x
 obtain⟨ao,cp,rfl,h63,hcell⟩:=Xm hr
 simp only at hcell h63 hs ⊢;have HCELL:=hid hcell;have HS:=hid hs;have HB1:=hid (bal w (.cells #[.string ⟨n.toArray⟩,.slice ao ks.length cp] 82));have F1:=hid (heap_alloc_new w (.cells #[.string ⟨n.toArray⟩,.slice ao ks.length cp] 82));clear hr hcell hs
 go_enter Tryz.func80,Tryz.ntmps80
 go_upto_region 1 with fail;generalize w.alloc (.cells #[.string ⟨n.toArray⟩,.slice ao ks.length cp] 82)=w1 at *
 obtain⟨s0,s1,_,_,sl⟩:=Qq F1.out
 go_wp2_with fail
 go_loopg[3,11] ks.length (fun g v3 v11 W=>∃k:Nat,k≤ks.length∧ks.length≤k+g∧v3=.string ⟨(n++Zt (ks.take k)).toArray⟩∧v11=.int .i64 k∧Below w.heap.size w W)
 case atStart=>exact⟨0,Nat.zero_le _,by omega,by simp[Zt],rfl,HB1.out⟩
 case round =>
  obtain⟨k,hk,hg,rfl,rfl,bb⟩:=hrel
  rename World=>w4
  have HG:=hid hg;have B4:=hid bb;clear hg bb HB1 F1 s0 s1 sl
  by_cases hlt:k<ks.length
  ·have hni:(k:Int)<(ks.length:Int):=by omega
   have hn0:(0:Int)≤(k:Int):=by omega
   obtain⟨p,o,rfl,hp,q0,q1⟩:=HCELL.out k hlt
   have r0:=(B4.out.cell (p:=⟨p,o+k * 2,none⟩) hp).trans q0;have r1:=(B4.out.cell (p:=⟨p,o+k * 2+1,none⟩) hp).trans q1;have hp2:p<w4.heap.size:=Nat.lt_of_lt_of_le hp B4.out.size;have HKT:=hid (Qdg hlt);have HTOT:=hid (show(n++Zt (ks.take (k+1))).length≤140737488355328 by
    have h1:Zt ks=Zt (ks.take (k+1))++Zt (ks.drop (k+1)):=by
     unfold Zt;rw[←List.flatMap_append,List.take_append_drop]
    have:=HS.out
    unfold Qp at this;rw[h1]at this;simp only[List.length_append]at this ⊢
    omega)
   clear q0 q1;generalize ks[k]'hlt=kv at *
   obtain⟨ky,v⟩:=kv
   simp only at r0 r1 HKT;rw[HKT.out]at HTOT;have htz:=HTOT.out;simp only[Ff,List.length_append,List.length_cons,List.length_nil]at htz
   obtain⟨pre,hpre⟩:∃pre,pre=n++Zt (ks.take k):=⟨_,rfl⟩
   have hprl:pre.length=n.length+(Zt (ks.take k)).length:=by rw[hpre,List.length_append]
   have HPRE:=hid (show n++Zt (ks.take (k+1))=pre++Ff (ky,v)by rw[hpre,HKT.out,List.append_assoc]);rw[←hpre];have hz1:(pre.length:Int)+(ky.length:Int)+((Ql v).length:Int)+3≤140737488355328:=by omega
   have DR:=hid (fun W=>Xgw v W (by omega));clear hpre htz hprl HTOT HKT;have HA5:=hid (bal w4 (.cells #[.string ⟨ky.toArray⟩,.string ⟨v.toArray⟩] 37));have F5:=hid (heap_alloc_new w4 (.cells #[.string ⟨ky.toArray⟩,.string ⟨v.toArray⟩] 37));go_upto_region 5 with fail;generalize w4.alloc (.cells #[.string ⟨ky.toArray⟩,.string ⟨v.toArray⟩] 37)=w5 at *;have B5:=hid (B4.out.then HA5.out)
   obtain⟨y0,y1,_,_,yl⟩:=Qq F5.out
   clear r0 r1 hp2
   go_quiet ((go_at_call 143;exact Calls.quiet_of_same (DR.out _)))
   go_wp2_with fail
   go_roundg (gk-1)
   case measure=>have:=HG.out;omega
   case rel=>exact⟨k+1,by omega,by have:=HG.out;omega,by rw[HPRE.out];simp[cat2,Ff],by simp,below_drewN B5.out _⟩
  ·have hni:¬(k:Int)<(ks.length:Int):=by omega
   have HF:=hid (show n++Zt (ks.take k)=Qp (n,ks)by rw[List.take_of_length_le (by omega)];rfl);go_wp2_with fail;exact bodyPost_ret (v:=.string ⟨(n++Zt (ks.take k)).toArray⟩) (by simp[results,Tryz.results80,go_sem]) rfl ⟨by rw[HF.out],B4.out⟩
end
section
open Go.Lib
def Jc:Nat→Nat→Str→Option Nat
 |0,r,_=>some r
 |_+1,_,[]=>none
 |m+1,r,c::t=>if c.toNat / 64=2 then Jc m (r * 64+c.toNat % 64) t else none
def Lz (b:Nat):Option (Nat×Nat) :=
 if 194≤b∧b≤223 then some (2,b % 32)else if 224≤b∧b≤239 then some (3,b % 16)else if 240≤b∧b≤244 then some (4,b % 8)else none
def Lx (n r:Nat):Bool:=(n==3&&(decide (r<2048)||(decide (55296≤r)&&decide (r≤57343))))||(n==4&&(decide (r<65536)||decide (1114111<r)))
def Bh (n r:Nat)(t:Str):Int×Nat :=
 match Jc (n-1) r t with
 |none=>(-1,1)
 |some x=>if Lx n x then(-1,1) else((x:Int),n)
def Kl:Str→Int×Nat
 |[]=>(-1,0)
 |b::t=>if b.toNat<128 then((b.toNat:Int),1) else
  match Lz b.toNat with
  |none=>(-1,1)
  |some (n,r)=>Bh n r t
def Qlh (d:Nat×Nat):Int×Nat:=if d=(65533,1) then(-1,1) else((d.1:Int),d.2)
theorem Kw:Qlh (65533,1)=(-1,1):=rfl
theorem outD_two (r:Nat):Qlh (r,2)=((r:Int),2):=by unfold Qlh;rw[if_neg (by intro h;cases h)]
theorem Xgy (r:Nat):Qlh (r,3)=((r:Int),3):=by unfold Qlh;rw[if_neg (by intro h;cases h)]
theorem outD_four (r:Nat):Qlh (r,4)=((r:Int),4):=by unfold Qlh;rw[if_neg (by intro h;cases h)]
theorem form_dec (l:Str)(hl:l≠[]):Kl l=Qlh (decodeL l):=by
 cases l with
 |nil=>exact absurd rfl hl
 |cons b t =>
  rw[decodeL_N];have hb:=b.toNat_lt;simp only[Kl,List.getD_cons_zero]
  by_cases h128:b.toNat<128
  ·rw[if_pos h128];unfold decodeN;rw[if_pos h128];unfold Qlh;rw[if_neg (by intro h;have:=congrArg Prod.fst h;simp at this;omega)]
  rw[if_neg h128]
  by_cases k2:194≤b.toNat∧b.toNat≤223
  ·have hc:Lz b.toNat=some (2,b.toNat % 32):=by unfold Lz;rw[if_pos k2]
   rw[hc];have d1:b.toNat / 32=6:=by omega
   simp only[Bh]
   cases t with
   |nil=>simp[Jc,decodeN,Kw,h128,d1,show ¬b.toNat / 16=14 by omega,show ¬b.toNat / 8=30 by omega]
   |cons c t =>
    have hcc:=c.toNat_lt
    by_cases e1:c.toNat / 64=2
    ·simp[Jc,decodeN,e1,h128,d1,Lx,outD_two,show 128≤b.toNat % 32 * 64+c.toNat % 64 by omega]
    ·simp[Jc,decodeN,e1,h128,d1,Kw]
  by_cases k3:224≤b.toNat∧b.toNat≤239
  ·have hc:Lz b.toNat=some (3,b.toNat % 16):=by unfold Lz;rw[if_neg k2,if_pos k3]
   rw[hc];have d1:b.toNat / 16=14:=by omega
   have d2:¬b.toNat / 32=6:=by omega
   have d3:¬b.toNat / 8=30:=by omega
   simp only[Bh]
   match t with
   |[]=>simp[Jc,decodeN,Kw,h128,d1,d2,d3]
   |[c] =>
    by_cases e1:c.toNat / 64=2
    ·simp[Jc,decodeN,Kw,h128,d1,d2,d3,e1]
    ·simp[Jc,decodeN,Kw,h128,d1,d2,d3,e1]
   |c::d::t =>
    have hcc:=c.toNat_lt;have hdd:=d.toNat_lt
    by_cases e1:c.toNat / 64=2
    ·by_cases e2:d.toNat / 64=2
     ·simp only[Jc,e1,e2,if_true,decodeN,h128,if_false,d1,d2,d3,false_and,List.length_cons,List.getD_cons_succ,List.getD_cons_zero,true_and,and_true];rw[if_pos (show 1<t.length+1+1+1∧2<t.length+1+1+1 by omega)];have hm:(b.toNat % 16 * 64+c.toNat % 64) * 64+d.toNat % 64=b.toNat % 16 * 4096+c.toNat % 64 * 64+d.toNat % 64:=by omega
      rw[hm];generalize hx:b.toNat % 16 * 4096+c.toNat % 64 * 64+d.toNat % 64=x
      by_cases hv:x ≥ 2048∧(x<55296∨(57344≤x∧x≤1114111))
      ·rw[if_pos hv,Xgy,if_neg (by simp[Lx];omega)]
      ·rw[if_neg hv,Kw,if_pos (by simp[Lx];omega)]
     ·simp[Jc,decodeN,Kw,h128,d1,d2,d3,e1,e2]
    ·simp[Jc,decodeN,Kw,h128,d1,d2,d3,e1]
  by_cases k4:240≤b.toNat∧b.toNat≤244
  ·have hc:Lz b.toNat=some (4,b.toNat % 8):=by unfold Lz;rw[if_neg k2,if_neg k3,if_pos k4]
   rw[hc];have d1:b.toNat / 8=30:=by omega
   have d2:¬b.toNat / 32=6:=by omega
   have d3:¬b.toNat / 16=14:=by omega
   simp only[Bh]
   match t with
   |[]=>simp[Jc,decodeN,Kw,h128,d1,d2,d3]
   |[c] =>
    by_cases e1:c.toNat / 64=2
    ·simp[Jc,decodeN,Kw,h128,d1,d2,d3,e1]
    ·simp[Jc,decodeN,Kw,h128,d1,d2,d3,e1]
   |[c,d] =>
    by_cases e1:c.toNat / 64=2
    ·by_cases e2:d.toNat / 64=2
     ·simp[Jc,decodeN,Kw,h128,d1,d2,d3,e1,e2]
     ·simp[Jc,decodeN,Kw,h128,d1,d2,d3,e1,e2]
    ·simp[Jc,decodeN,Kw,h128,d1,d2,d3,e1]
   |c::d::e::t =>
    have hcc:=c.toNat_lt;have hdd:=d.toNat_lt;have hee:=e.toNat_lt
    by_cases e1:c.toNat / 64=2
    ·by_cases e2:d.toNat / 64=2
     ·by_cases e3:e.toNat / 64=2
      ·simp only[Jc,e1,e2,e3,if_true,decodeN,h128,if_false,d1,d2,d3,false_and,List.length_cons,List.getD_cons_succ,List.getD_cons_zero,true_and,and_true];rw[if_pos (show 1<t.length+1+1+1+1∧2<t.length+1+1+1+1∧3<t.length+1+1+1+1 by omega)];have hm:((b.toNat % 8 * 64+c.toNat % 64) * 64+d.toNat % 64) * 64+e.toNat % 64=b.toNat % 8 * 262144+c.toNat % 64 * 4096+d.toNat % 64 * 64+e.toNat % 64:=by omega
       rw[hm];generalize hx:b.toNat % 8 * 262144+c.toNat % 64 * 4096+d.toNat % 64 * 64+e.toNat % 64=x
       by_cases hv:x ≥ 65536∧(x<55296∨(57344≤x∧x≤1114111))
       ·rw[if_pos hv,outD_four,if_neg (by simp[Lx];omega)]
       ·rw[if_neg hv,Kw,if_pos (by simp[Lx];omega)]
      ·simp[Jc,decodeN,Kw,h128,d1,d2,d3,e1,e2,e3]
     ·simp[Jc,decodeN,Kw,h128,d1,d2,d3,e1,e2]
    ·simp[Jc,decodeN,Kw,h128,d1,d2,d3,e1]
  have hc:Lz b.toNat=none:=by unfold Lz;rw[if_neg k2,if_neg k3,if_neg k4]
  rw[hc];simp only[decodeN];rw[if_neg h128];generalize ((b::t).getD 1 0).toNat=c1;generalize ((b::t).getD 2 0).toNat=c2;generalize ((b::t).getD 3 0).toNat=c3
  repeat' split
  all_goals first|exact Kw.symm|(exfalso;omega)
end
section
open Go.RowKit Go.Lib
theorem rletB_int (c:UInt8):Yt c=((decide (97≤(c.toNat:Int))&&decide ((c.toNat:Int)≤122))||(decide (65≤(c.toNat:Int))&&decide ((c.toNat:Int)≤90))):=by
 revert c;apply Zn;decide +kernel
theorem Xzq (n:Int)(w:World)(h0:0≤n)(h1:n<256) :
  Calls Tryz.prog 242 #[.int .u8 n] w fun e w'=>e=.returned (.bool ((decide (97≤n)&&decide (n≤122))||(decide (65≤n)&&decide (n≤90))))∧w'=w:=by
 go_enter Tryz.func242,Tryz.ntmps242
 go_wp2
 all_goals go_ret
 all_goals exact⟨Qc (by first|(simp[*];done)|(simp;omega)),rfl⟩
theorem Xgh (n:Int)(w:World)(h0:0≤n)(h1:n<256) :
  Calls Tryz.prog 243 #[.int .u8 n] w fun e w'=>e=.returned (.bool (decide (48≤n)&&decide (n≤57)))∧w'=w:=by
 go_enter Tryz.func243,Tryz.ntmps243
 go_wp2
 all_goals go_ret
 all_goals exact⟨Qc (by first|(simp[*];done)|(simp;omega)),rfl⟩
theorem Qlg (c:UInt8)(w:World) :
  Calls Tryz.prog 242 #[.int .u8 (c.toNat:Int)] w fun e w'=>e=.returned (.bool (Yt c))∧w'=w :=
 (Xzq c.toNat w (by omega) (by have:=c.toNat_lt;omega)).mono fun _ _ h=>⟨h.1.trans (Qc (rletB_int c).symm),h.2⟩
theorem Zcz (c:UInt8)(w:World) :
  Calls Tryz.prog 243 #[.int .u8 (c.toNat:Int)] w fun e w'=>e=.returned (.bool (Gg c))∧w'=w :=
 (Xgh c.toNat w (by omega) (by have:=c.toNat_lt;omega)).mono fun _ _ h=>⟨h.1.trans (Qc (Zpq c).symm),h.2⟩
theorem Bs (c:UInt8)(w:World):Calls Tryz.prog 188 #[.int .u8 (c.toNat:Int)] w fun e w'=>e=.returned (.bool (Xr c))∧w'=w:=by
 have h95:((c.toNat:Int)==95)=(c==95):=Fv c 95;have LT:=hid (Qlg c w)
 cases hl:Yt c
 ·rw[hl]at LT
  go_enter Tryz.func188,Tryz.ntmps188
  go_wp2_with (go_at_call 242;refine LT.out.mono ?_;rintro e w' ⟨rfl,rfl⟩)
  go_ret
  exact⟨Qc (by simp[Xr,hl]),rfl⟩
 ·rw[hl]at LT
  go_enter Tryz.func188,Tryz.ntmps188
  go_wp2_with (go_at_call 242;refine LT.out.mono ?_;rintro e w' ⟨rfl,rfl⟩)
  go_ret
  exact⟨Qc (by simp[Xr,hl]),rfl⟩
theorem Tw (c:UInt8)(w:World):Calls Tryz.prog 189 #[.int .u8 (c.toNat:Int)] w fun e w'=>e=.returned (.bool (Zd c))∧w'=w:=by
 have h45:((c.toNat:Int)==45)=(c==45):=Fv c 45;have h46:((c.toNat:Int)==46)=(c==46):=Fv c 46;have NS:=hid (Bs c w);have DG:=hid (Zcz c w)
 cases hs:Xr c <;> cases hd:Gg c <;> cases h1:(c==45) <;> cases h2:(c==46)
 all_goals
  rw[hs]at NS;rw[hd]at DG;rw[h1]at h45;rw[h2]at h46
  go_enter Tryz.func189,Tryz.ntmps189
  go_wp2_with (first
   |(go_at_call 188;refine NS.out.mono ?_;rintro e w' ⟨rfl,rfl⟩)
   |(go_at_call 243;refine DG.out.mono ?_;rintro e w' ⟨rfl,rfl⟩))
  go_ret
  exact⟨Qc (by simp[Zd,hs,hd,h1,h2]),rfl⟩
theorem Xzz (r:Int)(W:World):Calls Tryz.prog 142 #[.int .i32 r] W fun e w'=>e=.returned (.bool (decide (r<32)||r==127))∧w'=W:=by
 by_cases h1:r<32
 ·go_enter Tryz.func142,Tryz.ntmps142
  go_wp2
  go_ret
  exact⟨Qc (by simp[h1]),rfl⟩
 ·cases h2:(r==127)
  all_goals
   go_enter Tryz.func142,Tryz.ntmps142
   go_wp2
   go_ret
   exact⟨Qc (by simp[h1,h2]),rfl⟩
def SRd (W:World)(Br:Nat)(b:ByteArray)(p er:Nat)(ea:Int):Prop:=W.heap[Br]?=some (.cells (prd b p er ea) 141 (0,0))
theorem SRd.cells {W:World}{Br:Nat}{b:ByteArray}{p er:Nat}{ea:Int}(h:SRd W Br b p er ea) :
  W.cell? ⟨Br,0,none⟩=some (.string b)∧W.cell? ⟨Br,1,none⟩=some (.int .i64 p)∧W.cell? ⟨Br,2,none⟩=some (.int .i64 er)∧W.cell? ⟨Br,3,none⟩=some (.int .i64 ea)∧
  W.frozen? ⟨Br,1,none⟩=false∧W.frozen? ⟨Br,2,none⟩=false∧W.frozen? ⟨Br,3,none⟩=false∧Br<W.heap.size:=by
 unfold SRd at h
 refine⟨?_,?_,?_,?_,frozen_of_row _ _ _ _ _ h,frozen_of_row _ _ _ _ _ h,frozen_of_row _ _ _ _ _ h,lt_of_block h⟩
 all_goals rw[cell_of_row _ _ _ _ _ _ h];rfl
theorem SRd.setAt {W:World}{Br:Nat}{b:ByteArray}{p er:Nat}{ea:Int}(h:SRd W Br b p er ea)(q:Nat):SRd (W.setCell ⟨Br,1,none⟩ (.int .i64 q)) Br b q er ea:=by
 unfold SRd at *;rw[heap_setCell_same _ _ _ _ _ _ h];simp[prd]
theorem SRd.setSpot {W:World}{Br:Nat}{b:ByteArray}{p er:Nat}{ea:Int}(h:SRd W Br b p er ea)(e:Nat)(a:Int):SRd ((W.setCell ⟨Br,2,none⟩ (.int .i64 e)).setCell ⟨Br,3,none⟩ (.int .i64 a)) Br b p e a:=by
 unfold SRd at *;rw[heap_setCell_same _ _ _ _ _ _ (heap_setCell_same _ _ _ _ _ _ h)];simp[prd]
theorem SRd.drewN {W:World}{Br:Nat}{b:ByteArray}{p er:Nat}{ea:Int}(h:SRd W Br b p er ea)(q:Nat):SRd (W.drewN q) Br b p er ea:=h
theorem SRd.below {W W':World}{Br:Nat}{b:ByteArray}{p er:Nat}{ea:Int}(h:SRd W Br b p er ea)(hb:Below W.heap.size W W'):SRd W' Br b p er ea:=bk hb h
theorem Rz (Br:Nat)(b:ByteArray)(p er:Nat)(ea:Int)(e:Nat)(a:Int)(w:World)(h:SRd w Br b p er ea) :
  Calls Tryz.prog 76 #[.pointer (some ⟨Br,0,none⟩),.int .i64 e,.int .i64 a] w fun x w'=>x=.returned (.tuple #[])∧SRd w' Br b p (if er=0 then e else er) (if er=0 then a else ea)∧Qf Br w w':=by
 obtain⟨c0,c1,c2,c3,f1,f2,f3,lt⟩:=h.cells
 have H:=hid h;clear h
 by_cases he:er=0
 ·subst he
  go_enter Tryz.func76,Tryz.ntmps76
  go_wp2_with fail;refine bodyPost_end (results_none Tryz.results76 _ _ _) rfl ⟨rfl,?_⟩
  exact⟨H.out.setSpot e a,((Qf.refl w Br).set _ _).set _ _⟩
 ·have he2:((er:Int)==0)=false:=by rw[beq_eq_false_iff_ne];omega
  rw[if_neg he,if_neg he];clear he
  go_enter Tryz.func76,Tryz.ntmps76
  go_wp2_with fail;refine bodyPost_end (results_none Tryz.results76 _ _ _) rfl ⟨rfl,?_⟩
  exact⟨H.out,Qf.refl w Br⟩
end
section
open Go.RowKit Go.Lib
theorem and31 (c:UInt8):bits BinOp.and IntKind.u8 (c.toNat:Int) 31=((c.toNat % 32:Nat):Int):=by revert c;apply Zn;decide +kernel
theorem and15 (c:UInt8):bits BinOp.and IntKind.u8 (c.toNat:Int) 15=((c.toNat % 16:Nat):Int):=by revert c;apply Zn;decide +kernel
theorem and7 (c:UInt8):bits BinOp.and IntKind.u8 (c.toNat:Int) 7=((c.toNat % 8:Nat):Int):=by revert c;apply Zn;decide +kernel
theorem and63 (c:UInt8):bits BinOp.and IntKind.u8 (c.toNat:Int) 63=((c.toNat % 64:Nat):Int):=by revert c;apply Zn;decide +kernel
theorem Xgg (c:UInt8):(bits BinOp.and IntKind.u8 (c.toNat:Int) 192==128)=decide (c.toNat / 64=2):=by revert c;apply Zn;decide +kernel
theorem or64 (r x:Nat)(hr:r<1048576)(hx:x<64):bits BinOp.or IntKind.i32 ((r:Int) * 64) ((x:Int))=((r * 64+x:Nat):Int):=by
 have e:bits BinOp.or IntKind.i32 ((r:Int) * 64) (x:Int)=(((r * 64) |||x:Nat):Int):=by
  unfold bits;have e1:(BitVec.ofInt IntKind.i32.bits ((r:Int) * 64))=BitVec.ofNat 32 (r * 64):=by
   rw[show((r:Int) * 64)=((r * 64:Nat):Int)by omega,BitVec.ofInt_natCast];rfl
  have e2:(BitVec.ofInt IntKind.i32.bits (x:Int))=BitVec.ofNat 32 x:=by rw[BitVec.ofInt_natCast];rfl
  simp only[e1,e2];have e3:(BitVec.ofNat 32 (r * 64) |||BitVec.ofNat 32 x).toNat=(r * 64) |||x:=by
   rw[BitVec.toNat_or,BitVec.toNat_ofNat,BitVec.toNat_ofNat,Nat.mod_eq_of_lt (by omega),Nat.mod_eq_of_lt (by omega)]
  have e4:(r * 64) |||x<2 ^ 26:=Nat.or_lt_two_pow (by omega) (by omega);show IntKind.wrap .i32 (((BitVec.ofNat 32 (r * 64) |||BitVec.ofNat 32 x).toNat:Nat):Int)=_;rw[e3,IntKind.wrap_i32]
  omega
 rw[e]
 have:=Nat.two_pow_add_eq_or_of_lt (b:=x) (i:=6) (by omega) r
 rw[show r * 64=2 ^ 6 * r by omega,←this]
theorem or64w (r x:Nat)(hr:r<131072):bits BinOp.or IntKind.i32 (wrap32 ((r:Int) * 64)) ((x:Int) % 64)=((r * 64+x % 64:Nat):Int):=by
 rw[show wrap32 ((r:Int) * 64)=(r:Int) * 64 by unfold wrap32;omega,←or64 r (x % 64) (by omega) (by omega),Int.natCast_emod];rfl
theorem Yr (s:ByteArray)(q:Nat)(h:q<s.size):s.data.toList.drop q=s[q]::s.data.toList.drop (q+1):=by
 rw[List.drop_eq_getElem_cons (by rw[←Lib.size_eq];exact h)];rfl
theorem Zcx (s:ByteArray)(q:Nat)(h:q<s.size)(m r:Nat)(hm:0<m):Jc m r (s.data.toList.drop q)=if s[q].toNat / 64=2 then Jc (m-1) (r * 64+s[q].toNat % 64) (s.data.toList.drop (q+1))else none:=by
 rw[Yr s q h]
 cases m with
 |zero=>omega
 |succ m=>rfl
theorem Qrv (s:ByteArray)(p:Nat)(h:p<s.size)(hs:s.size≤140737488355328)(n r:Nat)(h1:¬s[p].toNat<128)(hc:Lz s[p].toNat=some (n,r)):Kl (s.data.toList.drop p)=Bh n r (s.data.toList.drop (p+1)):=by
 rw[Yr s p h];simp only[Kl];rw[if_neg h1,hc]
theorem Qrw:∀(m r:Nat)(t:Str),t.length<m→Jc m r t=none
 |0,_,_,h=>by omega
 |m+1,r,[],_=>rfl
 |m+1,r,c::t,h=>by
  simp only[Jc]
  split
  ·exact Qrw m _ t (by simpa using h)
  ·rfl
theorem Lj (s:ByteArray)(p n r:Nat)(h1:0<n)(h2:p<s.size)(h3:¬p+n≤s.size):Bh n r (s.data.toList.drop (p+1))=(-1,1):=by
 unfold Bh;rw[Qrw _ _ _ (by rw[List.length_drop,←Lib.size_eq];omega)]
theorem rform_2 (s : ByteArray) (p : Nat) (w : World) (hp : p < s.size) (hs : s.size ≤ 140737488355328) (hk : 194 ≤ s[p].toNat ∧ s[p].toNat ≤ 223) :
    Calls Tryz.prog 137 #[.string s,.int .i64 p] w fun e w' => e=.returned (.tuple #[.int .i32 (Kl (s.data.toList.drop p)).1,.int .i64 (Kl (s.data.toList.drop p)).2])∧w' = w := by
  have hpi:(p:Int) < (s.size:Int) := by omega
  have hp0:(0:Int)≤(p:Int) := by omega
  have h128:¬(s[p].toNat:Int) < 128 := by omega
  have k1:(194:Int)≤(s[p].toNat:Int) := by omega
  have k2:(s[p].toNat:Int)≤223 := by omega
  have a31 := and31 s[p]
  have HV := hid (show Kl (s.data.toList.drop p)=Bh 2 (s[p].toNat % 32) (s.data.toList.drop (p + 1))from Qrv s p hp hs 2 _ (by omega) (by unfold Lz;rw[if_pos ⟨by omega,by omega⟩]))
  have HR := hid (show s[p].toNat % 32 < 32 by omega)
  clear hk
  by_cases hlen:p + 2≤s.size
  · have hle:(p:Int) + 2≤(s.size:Int) := by omega
    go_enter Tryz.func137,Tryz.ntmps137
    go_wp2_with fail
    go_loopg[8,9,10] 2 (fun g v8 v9 v10 W => ∃i r:Nat,v8=.int .i32 r∧v9=.int .i64 i∧1≤i∧i≤2∧2≤i + g∧(i=1→r < 32)∧(i=2→r < 2048)∧(i=3→r < 131072)∧Jc (2-1) (s[p].toNat % 32) (s.data.toList.drop (p + 1))=Jc (2-i) r (s.data.toList.drop (p + i))∧W=w)
    case atStart => exact ⟨1,s[p].toNat % 32,rfl,rfl,Nat.le_refl _,by omega,by omega,fun _ => HR.out,by omega,by omega,rfl,rfl⟩
    case round =>
      obtain ⟨i,r,rfl,rfl,hi1,hin,hg,b1,b2,b3,hc,rfl⟩ := hrel
      have HC := hid hc
      clear hc
      by_cases hi:i < 2
      · have hii:(i:Int) < 2 := by omega
        have hi0:(0:Int)≤(i:Int) := by omega
        have hr:r < 131072 := by omega
        obtain ⟨q,hpq⟩ : ∃q,q=p + i := ⟨_,rfl⟩
        have hq:q < s.size := by omega
        have HP := hid hpq
        rw[←hpq]at HC
        have hpqi:(p:Int) + (i:Int)=(q:Int) := by omega
        have hqi:(q:Int) < (s.size:Int) := by omega
        have hq0:(0:Int)≤(q:Int) := by omega
        have e192 := Xgg s[q]
        have e63 := and63 s[q]
        have HST := hid (Zcx s q hq (2-i) r (by omega))
        have HB := hid (And.intro b1 (And.intro b2 (And.intro hi1 (And.intro hi (And.intro hg hr)))))
        clear b1 b2 b3 hi1 hin hg hi hr hpq
        by_cases hcc:s[q].toNat / 64=2
        · rw[show decide (s[q].toNat / 64=2)=true from decide_eq_true hcc]at e192
          have HO := hid (or64w r s[q].toNat (by have := HB.out;omega))
          have HCC := hid hcc
          clear hcc
          go_wp2_with fail
          go_roundg (gk-1)
          case measure => have := HB.out;omega
          case rel => exact ⟨i + 1,r * 64 + s[q].toNat % 64,by rw[←HO.out],rfl,by omega,by have := HB.out;omega,by have := HB.out;omega,by have := HB.out;omega,by have := HB.out;omega,by have := HB.out;omega,by rw[HC.out,HST.out,if_pos HCC.out,show p + (i + 1)=q + 1 by have := HP.out;omega];rfl,rfl⟩
        · rw[show decide (s[q].toNat / 64=2)=false from decide_eq_false hcc]at e192
          have HF := hid (show Kl (s.data.toList.drop p)=(-1,1)from by
            rw[HV.out];unfold Bh;rw[HC.out,HST.out];simp only[hcc,if_false])
          clear hcc
          go_wp2_with fail
          refine bodyPost_ret (v := .tuple #[.int .i32 (-1),.int .i64 1]) (by simp[results,Tryz.results137,go_sem]) rfl ⟨by rw[HF.out];rfl,rfl⟩
      · have hii:¬(i:Int) < 2 := by omega
        have hin2:i=2 := by omega
        have HF := hid (show Kl (s.data.toList.drop p)=if Lx 2 r then (-1,1)else ((r:Int),2)from by
          rw[HV.out];unfold Bh;rw[HC.out,hin2];rfl)
        clear hin2 hi hin hi1 hg b1 b2 b3
        go_wp2_with fail
        all_goals first
          | (refine bodyPost_ret (v := .tuple #[.int .i32 (-1), .int .i64 1]) (by simp [results, Tryz.results137, go_sem]; done) rfl ⟨?_, rfl⟩
             rw[HF.out,if_pos (by simp[Lx];omega)];rfl)
          | (refine bodyPost_ret (v := .tuple #[.int .i32 r, .int .i64 2]) (by simp [results, Tryz.results137, go_sem]; done) rfl ⟨?_, rfl⟩
             rw[HF.out,if_neg (by simp[Lx];try omega)];rfl)
  · have hle:¬(p:Int) + 2≤(s.size:Int) := by omega
    have HF := hid (show Kl (s.data.toList.drop p)=(-1,1)from by rw[HV.out];exact Lj s p 2 _ (by omega) (by omega) (by omega))
    clear hlen
    go_enter Tryz.func137,Tryz.ntmps137
    go_wp2_with fail
    refine bodyPost_ret (v := .tuple #[.int .i32 (-1),.int .i64 1]) (by simp[results,Tryz.results137,go_sem]) rfl ⟨by rw[HF.out];rfl,rfl⟩
theorem rform_3 (s : ByteArray) (p : Nat) (w : World) (hp : p < s.size) (hs : s.size ≤ 140737488355328) (hk : 224 ≤ s[p].toNat ∧ s[p].toNat ≤ 239) :
    Calls Tryz.prog 137 #[.string s,.int .i64 p] w fun e w' => e=.returned (.tuple #[.int .i32 (Kl (s.data.toList.drop p)).1,.int .i64 (Kl (s.data.toList.drop p)).2])∧w' = w := by
  have hpi:(p:Int) < (s.size:Int) := by omega
  have hp0:(0:Int)≤(p:Int) := by omega
  have h128:¬(s[p].toNat:Int) < 128 := by omega
  have k1:(224:Int)≤(s[p].toNat:Int) := by omega
  have k2:(s[p].toNat:Int)≤239 := by omega
  have k3:¬(s[p].toNat:Int)≤223 := by omega
  have a31 := and15 s[p]
  have HV := hid (show Kl (s.data.toList.drop p)=Bh 3 (s[p].toNat % 16) (s.data.toList.drop (p + 1))from Qrv s p hp hs 3 _ (by omega) (by unfold Lz;rw[if_neg (by omega),if_pos ⟨by omega,by omega⟩]))
  have HR := hid (show s[p].toNat % 16 < 32 by omega)
  clear hk
  by_cases hlen:p + 3≤s.size
  · have hle:(p:Int) + 3≤(s.size:Int) := by omega
    go_enter Tryz.func137,Tryz.ntmps137
    go_wp2_with fail
    go_loopg[8,9,10] 3 (fun g v8 v9 v10 W => ∃i r:Nat,v8=.int .i32 r∧v9=.int .i64 i∧1≤i∧i≤3∧3≤i + g∧(i=1→r < 32)∧(i=2→r < 2048)∧(i=3→r < 131072)∧Jc (3-1) (s[p].toNat % 16) (s.data.toList.drop (p + 1))=Jc (3-i) r (s.data.toList.drop (p + i))∧W=w)
    case atStart => exact ⟨1,s[p].toNat % 16,rfl,rfl,Nat.le_refl _,by omega,by omega,fun _ => HR.out,by omega,by omega,rfl,rfl⟩
    case round =>
      obtain ⟨i,r,rfl,rfl,hi1,hin,hg,b1,b2,b3,hc,rfl⟩ := hrel
      have HC := hid hc
      clear hc
      by_cases hi:i < 3
      · have hii:(i:Int) < 3 := by omega
        have hi0:(0:Int)≤(i:Int) := by omega
        have hr:r < 131072 := by omega
        obtain ⟨q,hpq⟩ : ∃q,q=p + i := ⟨_,rfl⟩
        have hq:q < s.size := by omega
        have HP := hid hpq
        rw[←hpq]at HC
        have hpqi:(p:Int) + (i:Int)=(q:Int) := by omega
        have hqi:(q:Int) < (s.size:Int) := by omega
        have hq0:(0:Int)≤(q:Int) := by omega
        have e192 := Xgg s[q]
        have e63 := and63 s[q]
        have HST := hid (Zcx s q hq (3-i) r (by omega))
        have HB := hid (And.intro b1 (And.intro b2 (And.intro hi1 (And.intro hi (And.intro hg hr)))))
        clear b1 b2 b3 hi1 hin hg hi hr hpq
        by_cases hcc:s[q].toNat / 64=2
        · rw[show decide (s[q].toNat / 64=2)=true from decide_eq_true hcc]at e192
          have HO := hid (or64w r s[q].toNat (by have := HB.out;omega))
          have HCC := hid hcc
          clear hcc
          go_wp2_with fail
          go_roundg (gk-1)
          case measure => have := HB.out;omega
          case rel => exact ⟨i + 1,r * 64 + s[q].toNat % 64,by rw[←HO.out],rfl,by omega,by have := HB.out;omega,by have := HB.out;omega,by have := HB.out;omega,by have := HB.out;omega,by have := HB.out;omega,by rw[HC.out,HST.out,if_pos HCC.out,show p + (i + 1)=q + 1 by have := HP.out;omega];rfl,rfl⟩
        · rw[show decide (s[q].toNat / 64=2)=false from decide_eq_false hcc]at e192
          have HF := hid (show Kl (s.data.toList.drop p)=(-1,1)from by
            rw[HV.out];unfold Bh;rw[HC.out,HST.out];simp only[hcc,if_false])
          clear hcc
          go_wp2_with fail
          refine bodyPost_ret (v := .tuple #[.int .i32 (-1),.int .i64 1]) (by simp[results,Tryz.results137,go_sem]) rfl ⟨by rw[HF.out];rfl,rfl⟩
      · have hii:¬(i:Int) < 3 := by omega
        have hin2:i=3 := by omega
        have HF := hid (show Kl (s.data.toList.drop p)=if Lx 3 r then (-1,1)else ((r:Int),3)from by
          rw[HV.out];unfold Bh;rw[HC.out,hin2];rfl)
        clear hin2 hi hin hi1 hg b1 b2 b3
        go_wp2_with fail
        all_goals first
          | (refine bodyPost_ret (v := .tuple #[.int .i32 (-1), .int .i64 1]) (by simp [results, Tryz.results137, go_sem]; done) rfl ⟨?_, rfl⟩
             rw[HF.out,if_pos (by simp[Lx];omega)];rfl)
          | (refine bodyPost_ret (v := .tuple #[.int .i32 r, .int .i64 3]) (by simp [results, Tryz.results137, go_sem]; done) rfl ⟨?_, rfl⟩
             rw[HF.out,if_neg (by simp[Lx];try omega)];rfl)
  · have hle:¬(p:Int) + 3≤(s.size:Int) := by omega
    have HF := hid (show Kl (s.data.toList.drop p)=(-1,1)from by rw[HV.out];exact Lj s p 3 _ (by omega) (by omega) (by omega))
    clear hlen
    go_enter Tryz.func137,Tryz.ntmps137
    go_wp2_with fail
    refine bodyPost_ret (v := .tuple #[.int .i32 (-1),.int .i64 1]) (by simp[results,Tryz.results137,go_sem]) rfl ⟨by rw[HF.out];rfl,rfl⟩
theorem rform_4 (s : ByteArray) (p : Nat) (w : World) (hp : p < s.size) (hs : s.size ≤ 140737488355328) (hk : 240 ≤ s[p].toNat ∧ s[p].toNat ≤ 244) :
    Calls Tryz.prog 137 #[.string s,.int .i64 p] w fun e w' => e=.returned (.tuple #[.int .i32 (Kl (s.data.toList.drop p)).1,.int .i64 (Kl (s.data.toList.drop p)).2])∧w' = w := by
  have hpi:(p:Int) < (s.size:Int) := by omega
  have hp0:(0:Int)≤(p:Int) := by omega
  have h128:¬(s[p].toNat:Int) < 128 := by omega
  have k1:(240:Int)≤(s[p].toNat:Int) := by omega
  have k2:(s[p].toNat:Int)≤244 := by omega
  have k3:¬(s[p].toNat:Int)≤223 := by omega
  have k4:¬(s[p].toNat:Int)≤239 := by omega
  have a31 := and7 s[p]
  have HV := hid (show Kl (s.data.toList.drop p)=Bh 4 (s[p].toNat % 8) (s.data.toList.drop (p + 1))from Qrv s p hp hs 4 _ (by omega) (by unfold Lz;rw[if_neg (by omega),if_neg (by omega),if_pos ⟨by omega,by omega⟩]))
  have HR := hid (show s[p].toNat % 8 < 32 by omega)
  clear hk
  by_cases hlen:p + 4≤s.size
  · have hle:(p:Int) + 4≤(s.size:Int) := by omega
    go_enter Tryz.func137,Tryz.ntmps137
    go_wp2_with fail
    go_loopg[8,9,10] 4 (fun g v8 v9 v10 W => ∃i r:Nat,v8=.int .i32 r∧v9=.int .i64 i∧1≤i∧i≤4∧4≤i + g∧(i=1→r < 32)∧(i=2→r < 2048)∧(i=3→r < 131072)∧Jc (4-1) (s[p].toNat % 8) (s.data.toList.drop (p + 1))=Jc (4-i) r (s.data.toList.drop (p + i))∧W=w)
    case atStart => exact ⟨1,s[p].toNat % 8,rfl,rfl,Nat.le_refl _,by omega,by omega,fun _ => HR.out,by omega,by omega,rfl,rfl⟩
    case round =>
      obtain ⟨i,r,rfl,rfl,hi1,hin,hg,b1,b2,b3,hc,rfl⟩ := hrel
      have HC := hid hc
      clear hc
      by_cases hi:i < 4
      · have hii:(i:Int) < 4 := by omega
        have hi0:(0:Int)≤(i:Int) := by omega
        have hr:r < 131072 := by omega
        obtain ⟨q,hpq⟩ : ∃q,q=p + i := ⟨_,rfl⟩
        have hq:q < s.size := by omega
        have HP := hid hpq
        rw[←hpq]at HC
        have hpqi:(p:Int) + (i:Int)=(q:Int) := by omega
        have hqi:(q:Int) < (s.size:Int) := by omega
        have hq0:(0:Int)≤(q:Int) := by omega
        have e192 := Xgg s[q]
        have e63 := and63 s[q]
        have HST := hid (Zcx s q hq (4-i) r (by omega))
        have HB := hid (And.intro b1 (And.intro b2 (And.intro hi1 (And.intro hi (And.intro hg hr)))))
        clear b1 b2 b3 hi1 hin hg hi hr hpq
        by_cases hcc:s[q].toNat / 64=2
        · rw[show decide (s[q].toNat / 64=2)=true from decide_eq_true hcc]at e192
          have HO := hid (or64w r s[q].toNat (by have := HB.out;omega))
          have HCC := hid hcc
          clear hcc
          go_wp2_with fail
          go_roundg (gk-1)
          case measure => have := HB.out;omega
          case rel => exact ⟨i + 1,r * 64 + s[q].toNat % 64,by rw[←HO.out],rfl,by omega,by have := HB.out;omega,by have := HB.out;omega,by have := HB.out;omega,by have := HB.out;omega,by have := HB.out;omega,by rw[HC.out,HST.out,if_pos HCC.out,show p + (i + 1)=q + 1 by have := HP.out;omega];rfl,rfl⟩
        · rw[show decide (s[q].toNat / 64=2)=false from decide_eq_false hcc]at e192
          have HF := hid (show Kl (s.data.toList.drop p)=(-1,1)from by
            rw[HV.out];unfold Bh;rw[HC.out,HST.out];simp only[hcc,if_false])
          clear hcc
          go_wp2_with fail
          refine bodyPost_ret (v := .tuple #[.int .i32 (-1),.int .i64 1]) (by simp[results,Tryz.results137,go_sem]) rfl ⟨by rw[HF.out];rfl,rfl⟩
      · have hii:¬(i:Int) < 4 := by omega
        have hin2:i=4 := by omega
        have HF := hid (show Kl (s.data.toList.drop p)=if Lx 4 r then (-1,1)else ((r:Int),4)from by
          rw[HV.out];unfold Bh;rw[HC.out,hin2];rfl)
        clear hin2 hi hin hi1 hg b1 b2 b3
        go_wp2_with fail
        all_goals first
          | (refine bodyPost_ret (v := .tuple #[.int .i32 (-1), .int .i64 1]) (by simp [results, Tryz.results137, go_sem]; done) rfl ⟨?_, rfl⟩
             rw[HF.out,if_pos (by simp[Lx];omega)];rfl)
          | (refine bodyPost_ret (v := .tuple #[.int .i32 r, .int .i64 4]) (by simp [results, Tryz.results137, go_sem]; done) rfl ⟨?_, rfl⟩
             rw[HF.out,if_neg (by simp[Lx];try omega)];rfl)
  · have hle:¬(p:Int) + 4≤(s.size:Int) := by omega
    have HF := hid (show Kl (s.data.toList.drop p)=(-1,1)from by rw[HV.out];exact Lj s p 4 _ (by omega) (by omega) (by omega))
    clear hlen
    go_enter Tryz.func137,Tryz.ntmps137
    go_wp2_with fail
    refine bodyPost_ret (v := .tuple #[.int .i32 (-1),.int .i64 1]) (by simp[results,Tryz.results137,go_sem]) rfl ⟨by rw[HF.out];rfl,rfl⟩
theorem Zyq (s:ByteArray)(p:Nat)(w:World)(hp:p<s.size)(hs:s.size≤140737488355328) :
  Calls Tryz.prog 137 #[.string s,.int .i64 p] w fun e w'=>e=.returned (.tuple #[.int .i32 (Kl (s.data.toList.drop p)).1,.int .i64 (Kl (s.data.toList.drop p)).2])∧w'=w:=by
 by_cases k2:194≤s[p].toNat∧s[p].toNat≤223
 ·exact rform_2 s p w hp hs k2
 by_cases k3:224≤s[p].toNat∧s[p].toNat≤239
 ·exact rform_3 s p w hp hs k3
 by_cases k4:240≤s[p].toNat∧s[p].toNat≤244
 ·exact rform_4 s p w hp hs k4
 have hpi:(p:Int)<(s.size:Int):=by omega
 have hp0:(0:Int)≤(p:Int):=by omega
 by_cases k:s[p].toNat<128
 ·have h128:(s[p].toNat:Int)<128:=by omega
  have HV:=hid (show Kl (s.data.toList.drop p)=((s[p].toNat:Int),1)by rw[Yr s p hp];simp only[Kl];rw[if_pos k]);clear k k2 k3 k4
  go_enter Tryz.func137,Tryz.ntmps137
  go_wp2_with fail;refine bodyPost_ret (v:=.tuple #[.int .i32 s[p].toNat,.int .i64 1]) (by simp[results,Tryz.results137,go_sem]) rfl ⟨by rw[HV.out];rfl,rfl⟩
 ·have h128:¬(s[p].toNat:Int)<128:=by omega
  have HV:=hid (show Kl (s.data.toList.drop p)=(-1,1) by
   rw[Yr s p hp];simp only[Kl];rw[if_neg k,show Lz s[p].toNat=none by unfold Lz;rw[if_neg k2,if_neg k3,if_neg k4]])
  have HK:=hid (show(s[p].toNat<194∨244<s[p].toNat)from by omega);clear k k2 k3 k4
  by_cases kk:(s[p].toNat:Int)<194
  ·have k1:¬(194:Int)≤(s[p].toNat:Int):=by omega
   have k3:¬(224:Int)≤(s[p].toNat:Int):=by omega
   have k5:¬(240:Int)≤(s[p].toNat:Int):=by omega
   clear kk
   go_enter Tryz.func137,Tryz.ntmps137
   go_wp2_with fail;refine bodyPost_ret (v:=.tuple #[.int .i32 (-1),.int .i64 1]) (by simp[results,Tryz.results137,go_sem]) rfl ⟨by rw[HV.out];rfl,rfl⟩
  ·have hh:244<s[p].toNat:=by have:=HK.out;omega
   have k1:¬(s[p].toNat:Int)≤223:=by omega
   have k3:¬(s[p].toNat:Int)≤239:=by omega
   have k5:¬(s[p].toNat:Int)≤244:=by omega
   clear kk hh
   go_enter Tryz.func137,Tryz.ntmps137
   go_wp2_with fail
   all_goals refine bodyPost_ret (v:=.tuple #[.int .i32 (-1),.int .i64 1]) (by simp[results,Tryz.results137,go_sem]) rfl ⟨by rw[HV.out];rfl,rfl⟩
end
section
open Go.RowKit Go.Lib
theorem Zcj (s:ByteArray)(p:Nat)(hp:p<s.size) :
  (Zq (s.data.toList.drop p)=false∧Kl (s.data.toList.drop p)=(-1,1)) ∨
  ∃r k:Nat,Kl (s.data.toList.drop p)=((r:Int),k)∧decodeL (s.data.toList.drop p)=(r,k)∧decodeL (s.data.toList.drop p)≠(65533,1)∧1≤k∧p+k≤s.size∧Zq (s.data.toList.drop p)=Zq (s.data.toList.drop (p+k)):=by
 have hne:s.data.toList.drop p≠[]:=by
  intro e
  have:=congrArg List.length e
  rw[List.length_drop,←Lib.size_eq]at this
  simp at this;omega
 have hd:=Sz hne;rw[List.length_drop,←Lib.size_eq]at hd;rw[form_dec _ hne,Yj hne]
 by_cases hb:decodeL (s.data.toList.drop p)=(65533,1)
 ·left;rw[hb];exact⟨rfl,rfl⟩
 ·right
  refine⟨(decodeL (s.data.toList.drop p)).1,(decodeL (s.data.toList.drop p)).2,by unfold Qlh;rw[if_neg hb],rfl,hb,hd.2,by omega,?_⟩
  rw[beq_eq_false_iff_ne.2 hb,List.drop_drop];rfl
def BrokRes (s:ByteArray)(e:Ending):Prop:=∃i:Int,e=.returned (.int .i64 i)∧(if Zq s.data.toList=true then i=-1 else 0≤i)
theorem Qyw (s:ByteArray)(w:World)(hs:s.size≤140737488355328) :
  Calls Tryz.prog 75 #[.string s] w fun e w'=>BrokRes s e∧w'=w:=by
 have FM:=hid (fun p hp W=>Zyq s p W hp hs)
 go_enter Tryz.func75,Tryz.ntmps75
 go_wp2_with fail
 go_loopg[3,4,5] s.size (fun g v3 v4 v5 W=>∃q:Nat,v3=.int .i64 q∧q≤s.size∧s.size≤q+g∧Zq s.data.toList=Zq (s.data.toList.drop q)∧W=w)
 case atStart=>exact⟨0,rfl,by omega,by omega,rfl,rfl⟩
 case round =>
  obtain⟨q,rfl,hq,hg,hu,rfl⟩:=hrel
  have HU:=hid hu;have HG:=hid (And.intro hq hg);clear hu hq hg
  by_cases hlt:q<s.size
  ·have hqi:(q:Int)<(s.size:Int):=by omega
   have F:=hid (fun W=>FM.out q hlt W)
   rcases Zcj s q hlt with ⟨f1,f2⟩|⟨r,k,f1,f2,f3,f4,f5,f6⟩
   ·have HF:=hid f1;rw[f2]at F;clear f1 f2 hlt
    go_wp2_with (go_at_call 137;refine(F.out _).mono ?_;rintro e w' ⟨rfl,rfl⟩)
    go_ret
    exact⟨⟨q,rfl,by rw[HU.out,HF.out];simp⟩,rfl⟩
   ·have HF:=hid (And.intro f4 (And.intro f5 f6));rw[f1]at F;have hr:¬(r:Int)<0:=by omega
    have hk1:(k:Int)≤140737488355328:=by omega
    have hk0:(0:Int)≤(k:Int):=by omega
    have hq1:(q:Int)≤140737488355328:=by omega
    have hq0:(0:Int)≤(q:Int):=by omega
    clear f1 f2 f3 f4 f5 f6 hlt
    go_wp2_with (go_at_call 137;refine(F.out _).mono ?_;rintro e w' ⟨rfl,rfl⟩)
    go_roundg (gk-1)
    case measure=>have:=HG.out;have:=HF.out;omega
    case rel=>exact⟨q+k,by go_num,HF.out.2.1,by have:=HG.out;have:=HF.out;omega,by rw[HU.out,HF.out.2.2],rfl⟩
  ·have hqi:¬(q:Int)<(s.size:Int):=by omega
   have HE:=hid (show Zq s.data.toList=true from by
    rw[HU.out,List.drop_eq_nil_of_le (by rw[←Lib.size_eq];omega)];rfl)
   clear hlt;go_wp2_with fail
   go_ret
   exact⟨⟨-1,rfl,by rw[HE.out];rfl⟩,rfl⟩
end
section
open Go.RowKit Go.Lib
theorem name_get {s:Str}(h:Xg s=true):(∀k (hk:k<s.length),Zd (s[k]'hk)=true∧(k=0→Xr (s[k]'hk)=true)):=by
 intro k hk;simp only[Xg,Bool.and_eq_true,List.all_eq_true]at h
 refine⟨h.2 _ (List.getElem_mem hk),?_⟩
 rintro rfl
 cases s with
 |nil=>simp at hk
 |cons c t=>exact h.1
theorem Qyy (s:Str)(w:World)(hs:s.length≤140737488355328)(h:Xg s=true):Calls Tryz.prog 140 #[.string ⟨s.toArray⟩] w fun e w'=>e=.returned (.bool true)∧w'=w:=by
 have HG:=hid (name_get h);have hne:s≠[]:=Tt h;have ST:=hid (fun c W=>Bs c W);have BY:=hid (fun c W=>Tw c W);have hsz:(⟨s.toArray⟩:ByteArray).size=s.length:=Lib.size_eq _;have hzi:(s.length:Int)≤140737488355328:=by omega
 have hpos:(0:Int)<(s.length:Int):=by have:=List.length_pos_iff.2 hne;omega
 have HNE:=hid hne;clear h hs hne
 go_enter Tryz.func140,Tryz.ntmps140
 go_wp2_with fail
 go_loopg[3] s.length (fun g v3 W=>∃k:Nat,k≤s.length∧s.length≤k+g∧v3=.int .i64 k∧W=w)
 case atStart=>exact⟨0,Nat.zero_le _,by omega,rfl,rfl⟩
 case round =>
  obtain⟨k,hk,hg,rfl,rfl⟩:=hrel
  rename World=>w
  have HGK:=hid hg;clear hg
  by_cases hlt:k<s.length
  ·have hki:(k:Int)<(s.length:Int):=by omega
   have hk0:(0:Int)≤(k:Int):=by omega
   obtain⟨g1,g2⟩:=HG.out k hlt
   have hby:∀h,(⟨s.toArray⟩:ByteArray)[k]'h=s[k]'hlt:=fun h=>rfl
   generalize s[k]'hlt=c at *
   by_cases h0:k=0
   ·have hz:(k:Int)=0:=by omega
    have SC:=hid (ST.out c w);have BC:=hid (BY.out c w);rw[g2 h0]at SC;rw[g1]at BC;clear g1 g2;subst h0
    go_wp2_with (first
     |(go_at_call 188;refine SC.out.mono ?_;rintro e w' ⟨rfl,rfl⟩)
     |(go_at_call 189;refine BC.out.mono ?_;rintro e w' ⟨rfl,rfl⟩))
    go_roundg (gk-1)
    case measure=>have:=HGK.out;omega
    case rel=>exact⟨0+1,by omega,by have:=HGK.out;omega,rfl,rfl⟩
   ·have hz:((k:Int)==0)=false:=by rw[beq_eq_false_iff_ne];omega
    have BC:=hid (BY.out c w);rw[g1]at BC;clear g1 g2
    go_wp2_with (go_at_call 189;refine BC.out.mono ?_;rintro e w' ⟨rfl,rfl⟩)
    go_roundg (gk-1)
    case measure=>have:=HGK.out;omega
    case rel=>exact⟨k+1,by omega,by have:=HGK.out;omega,by simp,rfl⟩
  ·have hki:¬(k:Int)<(s.length:Int):=by omega
   have hne2:=HNE.out;go_wp2_with fail;exact bodyPost_ret (v:=.bool true) (by simp[results,Tryz.results140,go_sem,hne2]) rfl ⟨rfl,rfl⟩
theorem Xfq (s:Str)(w:World)(hs:s.length≤140737488355328)(h:Zq s=true):Calls Tryz.prog 141 #[.string ⟨s.toArray⟩] w fun e w'=>e=.returned (.bool true)∧w'=w:=by
 have BK:=hid (Qyw ⟨s.toArray⟩ w (by rw[Lib.size_eq];exact hs));have HU:=hid (show Zq (⟨s.toArray⟩:ByteArray).data.toList=true from h);clear h
 go_enter Tryz.func141,Tryz.ntmps141
 go_wp2_with fail;refine BK.out.mono ?_;rintro e w' ⟨⟨i,rfl,hi⟩,rfl⟩;rw[if_pos HU.out]at hi;subst hi;go_wp2_with fail;exact bodyPost_ret (v:=.bool true) (by simp[results,Tryz.results141,go_sem]) rfl ⟨rfl,rfl⟩
end
section
open Go.RowKit Go.Lib
theorem Rx (w:World){k b:Nat}(s:ByteArray)(pos:Nat){s0:ByteArray}{p0:Nat}(h:w.heap[k]?=some (.stringIter s0 p0)){cs:Array Value}{ty:TypeId}{z:Nat×Nat}(hb:w.heap[b]?=some (.cells cs ty z)):(w.iterAt k s pos).heap[b]?=w.heap[b]?:=by
 have:b≠k:=by rintro rfl;rw[h]at hb;cases hb
 exact Lib.iterAt_other w k b s pos this
theorem rmay_any (w:World)(x:Stp)(kv:Value)(hr:RdP w kv x.2)(hm:Kr x=true)(hs:(Qp x).length≤140737488355328) :
  Calls Tryz.prog 79 #[.agg #[.string ⟨x.1.toArray⟩,kv]] w fun e w'=>e=.returned (.tuple #[.bool true,.bool (!Gx x)])∧Below w.heap.size w w':=by
 have HKL:=hid (fun k h=>@Xpg x k h)
 obtain⟨n,ks⟩:=x
 obtain⟨ao,cp,rfl,h63,hcell⟩:=Xm hr
 simp only at hcell h63 hs HKL ⊢;unfold Kr at hm;simp only[Bool.and_eq_true]at hm;have HOK:=hid (Lq ks [] hm.2);have HCELL:=hid hcell;have hnl:n.length≤140737488355328:=by unfold Qp at hs;simp at hs;omega
 have hnz:(n.length:Int)≤140737488355328:=by omega
 have NMN:=hid (fun W=>Qyy n W hnl hm.1);have HS:=hid hs;have HB1:=hid (bal w (.cells #[.string ⟨n.toArray⟩,.slice ao ks.length cp] 82));have F1:=hid (heap_alloc_new w (.cells #[.string ⟨n.toArray⟩,.slice ao ks.length cp] 82));have hl0:decide ((64:Int)<(n.length:Int))=Mn n (ks.take 0):=by
  unfold Mn
  by_cases e:n.length≤64
  ·rw[decide_eq_false (by omega),decide_eq_true e];rfl
  ·rw[decide_eq_true (by omega),decide_eq_false e];rfl
 have HL0:=hid hl0;clear hr hcell hs hm hl0 hnl
 go_enter Tryz.func79,Tryz.ntmps79
 go_upto_region 1 with fail;generalize w.alloc (.cells #[.string ⟨n.toArray⟩,.slice ao ks.length cp] 82)=w1 at *;have HSB:=hid (lt_of_block F1.out)
 obtain⟨s0,s1,_,_,sl⟩:=Qq F1.out
 go_upto_region 4 with (go_at_call 140;refine(NMN.out _).mono ?_;rintro e wz ⟨rfl,rfl⟩)
 rw[HL0.out];go_upto_region 5 with fail
 go_loopg[4,21] ks.length (fun g v4 v21 W=>∃k:Nat,k≤ks.length∧ks.length≤k+g∧v4=.bool (Mn n (ks.take k))∧v21=.int .i64 k∧W.heap[w.heap.size]?=some (.cells #[.string ⟨n.toArray⟩,.slice ao ks.length cp] 82 (0,0))∧Below w.heap.size w W)
 case atStart=>exact⟨0,Nat.zero_le _,by omega,rfl,rfl,F1.out,HB1.out⟩
 case round =>
  obtain⟨k,hk,hg,rfl,rfl,ff,bb⟩:=hrel
  rename World=>w4
  obtain⟨go,hgo⟩:∃go,go=gk:=⟨_,rfl⟩
  have HG:=hid (show ks.length≤k+go by rw[hgo];exact hg);have HGO:=hid hgo;have B4:=hid bb;have F4:=hid ff;clear bb ff F1 HB1 s0 s1 sl hg hgo
  by_cases hlt:k<ks.length
  ·have hni:(k:Int)<(ks.length:Int):=by omega
   have hn0:(0:Int)≤(k:Int):=by omega
   have hkz:(k:Int)≤9223372036854775806:=by omega
   obtain⟨p,o,rfl,hp,q0,q1⟩:=HCELL.out k hlt
   have r0:=(B4.out.cell (p:=⟨p,o+k * 2,none⟩) hp).trans q0;have r1:=(B4.out.cell (p:=⟨p,o+k * 2+1,none⟩) hp).trans q1;have hp2:p<w4.heap.size:=Nat.lt_of_lt_of_le hp B4.out.size
   obtain⟨ok1,ok2,ok3⟩:=HOK.out k hlt
   have hkl:=HKL.out k hlt;have HLS:=hid (@Xqz n ks k hlt);rw[List.nil_append]at ok3;have hal:=Xqq ok3 (Tt ok1);clear q0 q1 ok3;generalize ks[k]'hlt=kv at *
   obtain⟨ky,v⟩:=kv
   simp only at r0 r1 hkl HLS ok1 ok2 hal;have hky:ky.length≤140737488355328:=by have:=HS.out;omega
   have hvy:v.length≤140737488355328:=by have:=HS.out;omega
   unfold Jf at ok2;simp only[Bool.and_eq_true]at ok2;have NMK:=hid (fun W=>Qyy ky W hky ok1);have RG:=hid (fun W=>Xfq v W hvy ok2.1);have HU:=hid ok2.1;have HNC:=hid (show Gl v=true from ok2.2);have CT:=hid (fun r W=>Xzz r W);have hkyz:(ky.length:Int)≤140737488355328:=by omega
   have hvyz:(v.length:Int)≤140737488355328:=by omega
   have HALT:=hid hal;clear ok1 ok2 hkl hky hvy hal;have HA5:=hid (bal w4 (.cells #[.string ⟨ky.toArray⟩,.string ⟨v.toArray⟩] 37));have F5:=hid (heap_alloc_new w4 (.cells #[.string ⟨ky.toArray⟩,.string ⟨v.toArray⟩] 37));go_upto_region 7 with fail;generalize w4.alloc (.cells #[.string ⟨ky.toArray⟩,.string ⟨v.toArray⟩] 37)=w5 at *
   obtain⟨y0,y1,_,_,yl⟩:=Qq F5.out
   have B5:=hid (B4.out.then HA5.out);have HZ4:=hid B4.out.size;have F5s:=hid (bk HA5.out F4.out);clear B4 F4 HA5 r0 r1 hp2;generalize w4.heap.size=Pb at *
   obtain⟨s0,s1,_,_,sl⟩:=Qq F5s.out
   rcases Nat.eq_zero_or_pos k with hk0|hk0
   ·subst hk0;have hz:¬(0:Int)<((0:Nat):Int):=by omega
    have hz2:decide ((0:Int)<((0:Nat):Int))=false:=decide_eq_false hz
    go_quiet ((first|(go_at_call 140;exact Calls.quiet_of_same (NMK.out _))|(go_at_call 141;exact Calls.quiet_of_same (RG.out _))))
    have F6:=hid (show(w5.drewN nq).heap[Pb]?=some (.cells #[.string ⟨ky.toArray⟩,.string ⟨v.toArray⟩] 37 (0,0))from F5.out);have F6s:=hid (show(w5.drewN nq).heap[w.heap.size]?=some (.cells #[.string ⟨n.toArray⟩,.slice (some ⟨p,o,none⟩) ks.length cp] 82 (0,0))from F5s.out);have B6:=hid (show Below w.heap.size w (w5.drewN nq)from below_drewN B5.out _);generalize w5.drewN nq=w6 at *;clear y0 y1 yl s0 s1 sl F5 F5s B5 
    obtain⟨y0,y1,_,_,yl⟩:=Qq F6.out
    generalize hlg:Mn n (ks.take 0)=lg at *;have HZ6:=hid B6.out.size;have BI:=hid (B6.out.alloc B6.out.size (.stringIter ⟨v.toArray⟩ 0));have FI:=hid ((Below.heap_alloc w6 (.stringIter ⟨v.toArray⟩ 0) Pb (lt_of_block F6.out)).trans F6.out);have FIs:=hid ((Below.heap_alloc w6 (.stringIter ⟨v.toArray⟩ 0) w.heap.size (lt_of_block F6s.out)).trans F6s.out);go_wp2_with fail
    go_loopg[8] v.length (fun g v8 W=>∃pos:Nat,pos≤v.length∧v.length≤pos+g∧W.heap[w6.heap.size]?=some (.stringIter ⟨v.toArray⟩ pos)∧Zq (v.drop pos)=true∧Gl (v.drop pos)=true∧W.heap[Pb]?=some (.cells #[.string ⟨ky.toArray⟩,.string ⟨v.toArray⟩] 37 (0,0))∧W.heap[w.heap.size]?=some (.cells #[.string ⟨n.toArray⟩,.slice (some ⟨p,o,none⟩) ks.length cp] 82 (0,0))∧Below w.heap.size w W)
    case atStart=>exact⟨0,Nat.zero_le _,by omega,World.iter_heap w6 _ 0,HU.out,HNC.out,FI.out,FIs.out,BI.out⟩
    case round =>
     obtain⟨pos,hpos,hg,hit,hut,hno,hf,hfs,hb⟩:=hrel
     rename World=>wr
     have HG2:=hid hg;clear hg y0 y1 yl
     by_cases hp:pos<v.length
     ·have hne:v.drop pos≠[]:=by intro e;have:=congrArg List.length e;simp at this;omega
      have hdl:=Sz hne
      obtain⟨hsd,hnext⟩:=Hy hne hut
      have hnx:∀ty,(Instr.next (.pointer (some ⟨w6.heap.size,0,none⟩)) true ty).run Tryz.prog wr=_:=fun ty=>Lib.run_next_any_at wr w6.heap.size ⟨v.toArray⟩ pos ty hit (by rw[Lib.size_eq];exact hp)
      simp only[Qfw]at hnx;have hrc:=Qny hsd;rw[hno]at hrc;rw[List.length_drop]at hdl;rw[List.drop_drop]at hnext hrc;generalize hd:decodeL (v.drop pos)=rk at *
      obtain⟨r,kk⟩:=rk
      simp only at hnx hdl hnext hrc;have hrc2:=hrc.symm;simp only[Bool.and_eq_true,Bool.not_eq_true']at hrc2;have HIT:=hid (Lib.iterAt_heap wr w6.heap.size ⟨v.toArray⟩ pos (pos+kk) hit);have HBW:=hid (Lib.below_iterAt hb (k:=w6.heap.size) HZ6.out ⟨v.toArray⟩ (pos+kk));have HIF:=hid ((Rx wr (k:=w6.heap.size) (b:=Pb) ⟨v.toArray⟩ (pos+kk) hit hf).trans hf);have HIS:=hid ((Rx wr (k:=w6.heap.size) (b:=w.heap.size) ⟨v.toArray⟩ (pos+kk) hit hfs).trans hfs);have HPK:=hid (show pos+kk≤v.length∧1≤kk by omega);have HNX:=hid hnext;have HNC2:=hid hrc2.2;have CTR:=hid (fun W=>CT.out (r:Int) W);rw[hrc2.1]at CTR;clear hit hut hne hdl hsd hnext hrc hrc2 hd hb hno hf hfs
      go_wp2_with (go_at_call 142;refine(CTR.out _).mono ?_;rintro e w' ⟨rfl,rfl⟩)
      go_roundg (gk-1)
      case measure=>have:=HG2.out;omega
      case rel=>exact⟨pos+kk,HPK.out.1,by have:=HG2.out;have:=HPK.out;omega,HIT.out,HNX.out,HNC2.out,HIF.out,HIS.out,HBW.out⟩
     ·have hnx:∀ty,(Instr.next (.pointer (some ⟨w6.heap.size,0,none⟩)) true ty).run Tryz.prog wr=_:=fun ty=>Lib.run_next_end_at wr w6.heap.size ⟨v.toArray⟩ pos ty hit (by rw[Lib.size_eq];exact hp)
      have B7:=hid hb;have F7s:=hid hfs
      obtain⟨y0,y1,_,_,yl⟩:=Qq hf
      clear hut hb hno hf hfs;have HTAIL:=hid (show Mn n (ks.take (0+1))=(lg||decide ((64:Int)<(ky.length:Int))||decide ((64:Int)<(v.length:Int)))from HLS.out);clear HLS
      cases lg with
      |true =>
       go_wp2_with fail
       go_roundg (go-1)
       case measure=>have:=HG.out;have:=HGO.out;omega
       case rel=>exact⟨0+1,by omega,by have:=HG.out;omega,by rw[HTAIL.out];rfl,by simp,F7s.out,B7.out⟩
      |false =>
       by_cases h1:(64:Int)<(ky.length:Int)
       ·go_wp2_with fail
        go_roundg (go-1)
        case measure=>have:=HG.out;have:=HGO.out;omega
        case rel=>exact⟨0+1,by omega,by have:=HG.out;omega,by rw[HTAIL.out,decide_eq_true h1];rfl,by simp,F7s.out,B7.out⟩
       ·by_cases h2:(64:Int)<(v.length:Int)
        ·go_wp2_with fail
         go_roundg (go-1)
         case measure=>have:=HG.out;have:=HGO.out;omega
         case rel=>exact⟨0+1,by omega,by have:=HG.out;omega,by rw[HTAIL.out,decide_eq_true h2,decide_eq_false (show ¬(64:Int)<(ky.length:Int)by omega)];rfl,by simp,F7s.out,B7.out⟩
        ·go_wp2_with fail
         go_roundg (go-1)
         case measure=>have:=HG.out;have:=HGO.out;omega
         case rel=>exact⟨0+1,by omega,by have:=HG.out;omega,by rw[HTAIL.out,decide_eq_false (show ¬(64:Int)<(v.length:Int)by omega),decide_eq_false (show ¬(64:Int)<(ky.length:Int)by omega)];rfl,by simp,F7s.out,B7.out⟩
   ·obtain⟨j,rfl⟩:∃j,k=j+1:=⟨k-1,by omega⟩
    have hz:(0:Int)<((j+1:Nat):Int):=by omega
    have hj:j<ks.length:=by omega
    obtain⟨p',o',e',hp',q0,q1⟩:=HCELL.out j hj
    cases e'
    have r0:=(B5.out.cell (p:=⟨p,o+j * 2,none⟩) hp').trans q0;have hp2:p<w5.heap.size:=Nat.lt_of_lt_of_le hp' B5.out.size;have hja:=Qng hj;have hal:=HALT.out;rw[hja]at hal;have hbl:Op.bytesLess ky (ks[j]'hj).1=false:=by rw[Proofs.bytesLess_eq];exact decide_eq_false (List.lt_asymm hal)
    have hbe:(ky==(ks[j]'hj).1)=false:=beq_eq_false_iff_ne.2 (fun e=>List.lt_irrefl _ (e▸hal));have hj0:(0:Int)≤(j:Int):=by omega
    have hjl:(j:Int)<(ks.length:Int):=by omega
    have hj1:((j+1:Nat):Int)-1=(j:Int):=by omega
    have hjz:(j:Int)≤9223372036854775806:=by omega
    clear q0 q1 hp' hal hja;generalize (ks[j]'hj).1=kj at *
    go_quiet ((first|(go_at_call 140;exact Calls.quiet_of_same (NMK.out _))|(go_at_call 141;exact Calls.quiet_of_same (RG.out _))))
    have F6:=hid (show(w5.drewN nq).heap[Pb]?=some (.cells #[.string ⟨ky.toArray⟩,.string ⟨v.toArray⟩] 37 (0,0))from F5.out);have F6s:=hid (show(w5.drewN nq).heap[w.heap.size]?=some (.cells #[.string ⟨n.toArray⟩,.slice (some ⟨p,o,none⟩) ks.length cp] 82 (0,0))from F5s.out);have B6:=hid (show Below w.heap.size w (w5.drewN nq)from below_drewN B5.out _);generalize w5.drewN nq=w6 at *;clear y0 y1 yl s0 s1 sl F5 F5s B5 r0 hp2 hbl hbe
    obtain⟨y0,y1,_,_,yl⟩:=Qq F6.out
    generalize hlg:Mn n (ks.take (j+1))=lg at *;have HZ6:=hid B6.out.size;have BI:=hid (B6.out.alloc B6.out.size (.stringIter ⟨v.toArray⟩ 0));have FI:=hid ((Below.heap_alloc w6 (.stringIter ⟨v.toArray⟩ 0) Pb (lt_of_block F6.out)).trans F6.out);have FIs:=hid ((Below.heap_alloc w6 (.stringIter ⟨v.toArray⟩ 0) w.heap.size (lt_of_block F6s.out)).trans F6s.out);go_wp2_with fail
    go_loopg[8] v.length (fun g v8 W=>∃pos:Nat,pos≤v.length∧v.length≤pos+g∧W.heap[w6.heap.size]?=some (.stringIter ⟨v.toArray⟩ pos)∧Zq (v.drop pos)=true∧Gl (v.drop pos)=true∧W.heap[Pb]?=some (.cells #[.string ⟨ky.toArray⟩,.string ⟨v.toArray⟩] 37 (0,0))∧W.heap[w.heap.size]?=some (.cells #[.string ⟨n.toArray⟩,.slice (some ⟨p,o,none⟩) ks.length cp] 82 (0,0))∧Below w.heap.size w W)
    case atStart=>exact⟨0,Nat.zero_le _,by omega,World.iter_heap w6 _ 0,HU.out,HNC.out,FI.out,FIs.out,BI.out⟩
    case round =>
     obtain⟨pos,hpos,hg,hit,hut,hno,hf,hfs,hb⟩:=hrel
     rename World=>wr
     have HG2:=hid hg;clear hg y0 y1 yl
     by_cases hp:pos<v.length
     ·have hne:v.drop pos≠[]:=by intro e;have:=congrArg List.length e;simp at this;omega
      have hdl:=Sz hne
      obtain⟨hsd,hnext⟩:=Hy hne hut
      have hnx:∀ty,(Instr.next (.pointer (some ⟨w6.heap.size,0,none⟩)) true ty).run Tryz.prog wr=_:=fun ty=>Lib.run_next_any_at wr w6.heap.size ⟨v.toArray⟩ pos ty hit (by rw[Lib.size_eq];exact hp)
      simp only[Qfw]at hnx;have hrc:=Qny hsd;rw[hno]at hrc;rw[List.length_drop]at hdl;rw[List.drop_drop]at hnext hrc;generalize hd:decodeL (v.drop pos)=rk at *
      obtain⟨r,kk⟩:=rk
      simp only at hnx hdl hnext hrc;have hrc2:=hrc.symm;simp only[Bool.and_eq_true,Bool.not_eq_true']at hrc2;have HIT:=hid (Lib.iterAt_heap wr w6.heap.size ⟨v.toArray⟩ pos (pos+kk) hit);have HBW:=hid (Lib.below_iterAt hb (k:=w6.heap.size) HZ6.out ⟨v.toArray⟩ (pos+kk));have HIF:=hid ((Rx wr (k:=w6.heap.size) (b:=Pb) ⟨v.toArray⟩ (pos+kk) hit hf).trans hf);have HIS:=hid ((Rx wr (k:=w6.heap.size) (b:=w.heap.size) ⟨v.toArray⟩ (pos+kk) hit hfs).trans hfs);have HPK:=hid (show pos+kk≤v.length∧1≤kk by omega);have HNX:=hid hnext;have HNC2:=hid hrc2.2;have CTR:=hid (fun W=>CT.out (r:Int) W);rw[hrc2.1]at CTR;clear hit hut hne hdl hsd hnext hrc hrc2 hd hb hno hf hfs
      go_wp2_with (go_at_call 142;refine(CTR.out _).mono ?_;rintro e w' ⟨rfl,rfl⟩)
      go_roundg (gk-1)
      case measure=>have:=HG2.out;omega
      case rel=>exact⟨pos+kk,HPK.out.1,by have:=HG2.out;have:=HPK.out;omega,HIT.out,HNX.out,HNC2.out,HIF.out,HIS.out,HBW.out⟩
     ·have hnx:∀ty,(Instr.next (.pointer (some ⟨w6.heap.size,0,none⟩)) true ty).run Tryz.prog wr=_:=fun ty=>Lib.run_next_end_at wr w6.heap.size ⟨v.toArray⟩ pos ty hit (by rw[Lib.size_eq];exact hp)
      have B7:=hid hb;have F7s:=hid hfs
      obtain⟨y0,y1,_,_,yl⟩:=Qq hf
      clear hut hb hno hf hfs;have HTAIL:=hid (show Mn n (ks.take ((j+1)+1))=(lg||decide ((64:Int)<(ky.length:Int))||decide ((64:Int)<(v.length:Int)))from HLS.out);clear HLS
      cases lg with
      |true =>
       go_wp2_with fail
       go_roundg (go-1)
       case measure=>have:=HG.out;have:=HGO.out;omega
       case rel=>exact⟨(j+1)+1,by omega,by have:=HG.out;omega,by rw[HTAIL.out];rfl,by simp,F7s.out,B7.out⟩
      |false =>
       by_cases h1:(64:Int)<(ky.length:Int)
       ·go_wp2_with fail
        go_roundg (go-1)
        case measure=>have:=HG.out;have:=HGO.out;omega
        case rel=>exact⟨(j+1)+1,by omega,by have:=HG.out;omega,by rw[HTAIL.out,decide_eq_true h1];rfl,by simp,F7s.out,B7.out⟩
       ·by_cases h2:(64:Int)<(v.length:Int)
        ·go_wp2_with fail
         go_roundg (go-1)
         case measure=>have:=HG.out;have:=HGO.out;omega
         case rel=>exact⟨(j+1)+1,by omega,by have:=HG.out;omega,by rw[HTAIL.out,decide_eq_true h2,decide_eq_false (show ¬(64:Int)<(ky.length:Int)by omega)];rfl,by simp,F7s.out,B7.out⟩
        ·go_wp2_with fail
         go_roundg (go-1)
         case measure=>have:=HG.out;have:=HGO.out;omega
         case rel=>exact⟨(j+1)+1,by omega,by have:=HG.out;omega,by rw[HTAIL.out,decide_eq_false (show ¬(64:Int)<(v.length:Int)by omega),decide_eq_false (show ¬(64:Int)<(ky.length:Int)by omega)];rfl,by simp,F7s.out,B7.out⟩
  ·have hni:¬(k:Int)<(ks.length:Int):=by omega
   have hkn:k=ks.length:=by omega
   subst hkn;have HF:=hid (show Mn n (ks.take ks.length)=!Gx (n,ks)by rw[List.take_length];rfl);generalize Mn n (ks.take ks.length)=lg at *;go_wp2_with fail;refine bodyPost_ret (v:=.tuple #[.bool true,.bool lg]) (by simp[results,Tryz.results79,go_sem]) rfl ⟨?_,B4.out⟩;rw[HF.out]
end
end Go.Proofs.YtbbmdbolkicpcabGreatDoor
