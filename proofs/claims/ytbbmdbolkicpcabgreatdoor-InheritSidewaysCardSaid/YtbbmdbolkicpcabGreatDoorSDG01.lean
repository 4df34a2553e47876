/- Pure, Utf, Tiny, Turn, ParseP, Any, Next, PathP -/
import Derived.Lib.Strings
import Derived.Test.YtbbmdbolkicpcabGreatDoorProg
import Derived.WalkKit
import Derived.WalkLawsBesides
import Derived.WalkSpells
import Derived.Deep.RegionWith
import Derived.Lib.IndexAny
import Derived.Lib.Join
import Derived.Test.YtbbmdbolkicpcabGreatDoorSDShelf
import Derived.Deep.QuietTactic
import Derived.BigQuiet
import Derived.Deep.LoopGhost
import Derived.WalkSmall
import Derived.Lib.OthersKept
import Derived.Lib.TrimUEq
import Derived.Lib.RuneBytes
set_option maxRecDepth 100000
set_option maxHeartbeats 32000000
set_option linter.unusedVariables false
set_option linter.unusedSimpArgs false
namespace Go.Proofs.YtbbmdbolkicpcabGreatDoor
section
def Yt (c:UInt8):Bool:=97≤(c |||32)&&(c |||32)≤122
def Gg (c:UInt8):Bool:=48≤c&&c≤57
def Yh (p:UInt8→Bool)(l:List UInt8):Bool:=l.all p&&!l.isEmpty
def Ul (c:UInt8):UInt8:=if 65≤c&&c≤90 then c ^^^ 32 else c
def Uf (c:UInt8):UInt8:=if 97≤c&&c≤122 then c ^^^ 32 else c
def lower (l:List UInt8):List UInt8:=l.map Ul
def Kf (l:List UInt8):List UInt8:=l.map Uf
def Vp (l:List UInt8):List UInt8:=Kf (l.take 1)++lower (l.drop 1)
def Jp (l:List UInt8)(lo hi:Nat):Bool:=decide (lo≤l.length)&&(decide (l.length≤hi)&&l.all fun c=>Yt c||Gg c)
def Vw (l:List UInt8):Bool:=Yh Yt l&&(l.length==2||l.length==3||(decide (5≤l.length)&&decide (l.length≤8)))
def Vy (l:List UInt8)(n:Nat):Bool:=l.length==n&&Yh Yt l
def Xq (l:List UInt8):Bool:=Vy l 4
def Xz (l:List UInt8):Bool:=Vy l 2||(l.length==3&&Yh Gg l)
def Zh (l:List UInt8):Bool:=Jp l 5 8||(Jp l 4 4&&Yh Gg (l.take 1))
def Jt (l:List UInt8):Bool:=Jp l 2 2&&Yh Yt (l.drop 1)
def Xj (l:List UInt8):Bool:=Jp l 3 8
theorem Zn {p:UInt8→Prop} [DecidablePred p] (h:∀n:Fin 256,p (UInt8.ofNat n.val))(c:UInt8):p c:=by
 have:=h ⟨c.toNat,c.toNat_lt⟩
 simpa using this
theorem allB_one (p:UInt8→Bool)(c:UInt8):Yh p [c]=p c:=by simp[Yh]
theorem Xt (l:List UInt8):(lower l).length=l.length:=by simp[lower]
theorem Bg (l:List UInt8):(Kf l).length=l.length:=by simp[Kf]
theorem Zgx (l:List UInt8):(Vp l).length=l.length:=by
 simp only[Vp,List.length_append,Xt,Bg,List.length_take,List.length_drop];omega
end
section
open Go.RowKit
theorem hid {p:Prop}(h:p):Hid p:=h
theorem Qc {a b:Bool}(h:a=b):Ending.returned (.bool a)=.returned (.bool b):=by rw[h]
theorem or32 (c:UInt8):bits BinOp.or IntKind.u8 (c.toNat:Int) 32=((c |||32).toNat:Int):=by
 revert c;apply Zn;decide +kernel
theorem letB_int (c:UInt8):Yt c=(decide (97≤((c |||32).toNat:Int))&&decide (((c |||32).toNat:Int)≤122)):=by
 revert c;apply Zn;decide +kernel
theorem Zpq (c:UInt8):Gg c=(decide (48≤(c.toNat:Int))&&decide ((c.toNat:Int)≤57)):=by
 revert c;apply Zn;decide +kernel
theorem digit_n (n:Int)(w:World)(h0:0≤n)(h1:n<256) :
  Calls Tryz.prog 228 #[.int .u8 n] w fun e w'=>e=.returned (.bool (decide (48≤n)&&decide (n≤57)))∧w'=w:=by
 go_enter Tryz.func228,Tryz.ntmps228
 go_wp2
 all_goals go_ret
 all_goals exact⟨Qc (by first|(simp[*];done)|(simp;omega)),rfl⟩
theorem letter_n (n:Int)(w:World)(h0:0≤n)(h1:n<256) :
  Calls Tryz.prog 227 #[.int .u8 n] w fun e w'=>e=.returned (.bool (decide (97≤bits BinOp.or IntKind.u8 n 32)&&decide (bits BinOp.or IntKind.u8 n 32≤122)))∧w'=w:=by
 go_enter Tryz.func227,Tryz.ntmps227
 go_wp2
 all_goals go_ret
 all_goals exact⟨Qc (by first|(simp[*];done)|(simp;omega)),rfl⟩
theorem Qzw (c:UInt8)(w:World) :
  Calls Tryz.prog 228 #[.int .u8 (c.toNat:Int)] w fun e w'=>e=.returned (.bool (Gg c))∧w'=w :=
 (digit_n c.toNat w (by omega) (by have:=c.toNat_lt;omega)).mono fun _ _ h=>⟨h.1.trans (Qc (Zpq c).symm),h.2⟩
theorem Wq (c:UInt8)(w:World) :
  Calls Tryz.prog 227 #[.int .u8 (c.toNat:Int)] w fun e w'=>e=.returned (.bool (Yt c))∧w'=w :=
 (letter_n c.toNat w (by omega) (by have:=c.toNat_lt;omega)).mono fun _ _ h=>⟨h.1.trans (Qc (by rw[letB_int,or32])),h.2⟩
theorem Hs (p:UInt8→Bool)(s:ByteArray)(k:Nat)(h:k<s.size):(s.data.toList.take (k+1)).all p=((s.data.toList.take k).all p&&p s[k]):=by
 rw[List.take_succ_eq_append_getElem (by simpa using h),List.all_append];simp;rfl
theorem Qfz {p:UInt8→Bool}{s:ByteArray}{k:Nat}(hk:k≤s.size)(h:¬k<s.size)(ha:(s.data.toList.take k).all p=true):Yh p s.data.toList=!s.data.toList.isEmpty:=by
 rw[List.take_of_length_le (by simp;omega)]at ha
 simp[Yh,ha]
theorem Zgj {p:UInt8→Bool}{s:ByteArray}{k:Nat}(h:k<s.size)(ha:p s[k]=false):Yh p s.data.toList=false:=by
 have hm:s[k]∈s.data.toList:=by
  have:s[k]=s.data.toList[k]'(by simpa using h):=rfl
  rw[this];exact List.getElem_mem _
 have:s.data.toList.all p=false:=List.all_eq_false.2 ⟨_,hm,by simp[ha]⟩
 simp[Yh,this]
theorem Qty (s:ByteArray)(w:World)(hs:s.size≤1000) :
  Calls Tryz.prog 245 #[.string s,.func (.func 227) #[] #[]] w fun e w'=>e=.returned (.bool (Yh Yt s.data.toList))∧w'=w:=by
 go_enter Tryz.func245,Tryz.ntmps245
 go_wp2
 go_loop[5,8] (fun _ i=>∃k:Nat,k≤s.size∧i=.int .i64 k∧(s.data.toList.take k).all Yt=true) (fun _ i=>s.size-(intOf i).toNat)
 case atStart=>exact⟨0,Nat.zero_le _,rfl,by simp⟩
 case round =>
  obtain⟨k,hk,rfl,hall⟩:=hrel
  have HA:=hid hall;clear hall
  by_cases hlt:k<s.size
  ·have HS:=hid (Hs Yt s k hlt)
   cases hp:Yt s[k]
   ·have HP:=hid hp;have hgk:∀W,Calls Tryz.prog 227 #[.int .u8 (s[k].toNat:Int)] W fun e w'=>e=.returned (.bool false)∧w'=W:=fun W=>hp▸Wq s[k] W
    clear hp
    go_wp2_with (go_at_call 227;refine(hgk _).mono ?_;rintro e w' ⟨rfl,rfl⟩)
    go_ret
    exact⟨Qc (Zgj hlt HP.out).symm,rfl⟩
   ·have HP:=hid hp;have hgk:∀W,Calls Tryz.prog 227 #[.int .u8 (s[k].toNat:Int)] W fun e w'=>e=.returned (.bool true)∧w'=W:=fun W=>hp▸Wq s[k] W
    clear hp
    go_wp2_with (go_at_call 227;refine(hgk _).mono ?_;rintro e w' ⟨rfl,rfl⟩)
    go_round
    case rel=>exact⟨k+1,by omega,by go_num,by rw[HS.out,HA.out,HP.out];rfl⟩
    case measure=>simp[intOf];omega
  ·go_wp2
   go_ret
   exact⟨Qc (by rw[Qfz hk hlt HA.out,Lib.toList_data]),rfl⟩
theorem Zgk (s:ByteArray)(w:World)(hs:s.size≤1000) :
  Calls Tryz.prog 245 #[.string s,.func (.func 228) #[] #[]] w fun e w'=>e=.returned (.bool (Yh Gg s.data.toList))∧w'=w:=by
 go_enter Tryz.func245,Tryz.ntmps245
 go_wp2
 go_loop[5,8] (fun _ i=>∃k:Nat,k≤s.size∧i=.int .i64 k∧(s.data.toList.take k).all Gg=true) (fun _ i=>s.size-(intOf i).toNat)
 case atStart=>exact⟨0,Nat.zero_le _,rfl,by simp⟩
 case round =>
  obtain⟨k,hk,rfl,hall⟩:=hrel
  have HA:=hid hall;clear hall
  by_cases hlt:k<s.size
  ·have HS:=hid (Hs Gg s k hlt)
   cases hp:Gg s[k]
   ·have HP:=hid hp;have hgk:∀W,Calls Tryz.prog 228 #[.int .u8 (s[k].toNat:Int)] W fun e w'=>e=.returned (.bool false)∧w'=W:=fun W=>hp▸Qzw s[k] W
    clear hp
    go_wp2_with (go_at_call 228;refine(hgk _).mono ?_;rintro e w' ⟨rfl,rfl⟩)
    go_ret
    exact⟨Qc (Zgj hlt HP.out).symm,rfl⟩
   ·have HP:=hid hp;have hgk:∀W,Calls Tryz.prog 228 #[.int .u8 (s[k].toNat:Int)] W fun e w'=>e=.returned (.bool true)∧w'=W:=fun W=>hp▸Qzw s[k] W
    clear hp
    go_wp2_with (go_at_call 228;refine(hgk _).mono ?_;rintro e w' ⟨rfl,rfl⟩)
    go_round
    case rel=>exact⟨k+1,by omega,by go_num,by rw[HS.out,HA.out,HP.out];rfl⟩
    case measure=>simp[intOf];omega
  ·go_wp2
   go_ret
   exact⟨Qc (by rw[Qfz hk hlt HA.out,Lib.toList_data]),rfl⟩
theorem Ct (s:ByteArray)(w:World)(hs:s.size≤1000) :
  Calls Tryz.prog 251 #[.string s] w fun e w'=>e=.returned (.bool (Yh Yt s.data.toList))∧w'=w:=by
 have h:=Qty s w hs;generalize Yh Yt s.data.toList=b at *
 go_enter Tryz.func251,Tryz.ntmps251
 go_wp2_with (go_at_call 245;refine h.mono ?_;rintro e w' ⟨rfl,rfl⟩)
 go_ret
 exact⟨rfl,rfl⟩
theorem Wz (s:ByteArray)(w:World)(hs:s.size≤1000) :
  Calls Tryz.prog 253 #[.string s] w fun e w'=>e=.returned (.bool (Yh Gg s.data.toList))∧w'=w:=by
 have h:=Zgk s w hs;generalize Yh Gg s.data.toList=b at *
 go_enter Tryz.func253,Tryz.ntmps253
 go_wp2_with (go_at_call 245;refine h.mono ?_;rintro e w' ⟨rfl,rfl⟩)
 go_ret
 exact⟨rfl,rfl⟩
end
section
open Go.RowKit
theorem bal (w:World) (o:Obj):Below w.heap.size w (w.alloc o) := (Below.refl _ _).alloc (Nat.le_refl _) _
theorem cR {W:World}{b i:Nat}{cs:Array Value}{t:TypeId}{fz:Nat × Nat}{v:Value} (h:W.heap[b]? = some (.cells cs t fz)) (hv:cs[i]? = some v := by rfl):W.cell? ⟨b,i,none⟩=some v := (cell_of_row _ _ _ _ _ _ h).trans hv
theorem bk {w W:World}{b:Nat}{o:Obj} (hb:Below w.heap.size w W) (h:w.heap[b]? = some o):W.heap[b]? = some o := (hb.block _ (lt_of_block h)).trans h
end
section
open Go.RowKit
def Jq (w:World)(b:Nat)(l:List UInt8):Prop :=
 ∀j c,l[j]?=some c→w.cell? ⟨b,j,none⟩=some (.int .u8 (c.toNat:Int))∧w.frozen? ⟨b,j,none⟩=false
def stt (f:UInt8→UInt8)(l:List UInt8)(k:Nat):List UInt8:=(l.take k).map f++l.drop k
theorem Zpz (f:UInt8→UInt8)(l:List UInt8):stt f l 0=l:=by simp[stt]
theorem Xdg (f:UInt8→UInt8)(l:List UInt8)(k:Nat)(h:l.length≤k):stt f l k=l.map f:=by
 simp[stt,List.take_of_length_le h,List.drop_of_length_le h]
theorem Td (f:UInt8→UInt8)(l:List UInt8)(k j:Nat):(stt f l k)[j]?=(l[j]?).map fun c=>if j<k then f c else c:=by
 unfold stt;rw[List.getElem?_append];simp only[List.length_map,List.length_take]
 by_cases h:j<min k l.length
 ·rw[if_pos h,List.getElem?_map,List.getElem?_take,if_pos (by omega)];have hk:j<k:=by omega
  simp[hk]
 ·rw[if_neg h,List.getElem?_drop]
  by_cases hj:j<l.length
  ·have hk:¬j<k:=by omega
   have e:k+(j-min k l.length)=j:=by omega
   rw[e];simp[hk]
  ·rw[List.getElem?_eq_none (by omega),List.getElem?_eq_none (by omega)];rfl
theorem Jq.keep {w:World}{b:Nat}{f:UInt8→UInt8}{l:List UInt8}{k:Nat}{c:UInt8}(h:Jq w b (stt f l k))(hc:l[k]?=some c)(hf:f c=c):Jq w b (stt f l (k+1)):=by
 intro j d hd
 apply h
 rw[Td]at hd ⊢
 by_cases e:j=k
 ·subst e;rw[hc]at hd ⊢;simpa[hf]using hd
 ·have:j<k+1↔j<k:=by omega
  simpa[this]using hd
theorem Jq.turn {w:World}{b:Nat}{f:UInt8→UInt8}{l:List UInt8}{k:Nat}{c:UInt8}{v:Value}(h:Jq w b (stt f l k))(hc:l[k]?=some c)(hv:v=.int .u8 ((f c).toNat:Int)):Jq (w.setCell ⟨b,k,none⟩ v) b (stt f l (k+1)):=by
 intro j d hd;rw[World.frozen?_setCell];rw[Td]at hd
 by_cases e:j=k
 ·subst e;rw[hc]at hd
  simp at hd
  subst hd;have h0:=h j c (by rw[Td,hc];simp)
  exact⟨by rw[World.cell?_setCell_same w _ _ h0.1,hv],h0.2⟩
 ·have h1:j<k+1↔j<k:=by omega
  have h0:=h j d (by rw[Td];simpa[h1]using hd)
  exact⟨by rw[World.cell?_setCell_other _ _ _ _ (by simp[Ne.symm e])];exact h0.1,h0.2⟩
theorem Jq.row (w:World)(s:ByteArray)(cap:Nat)(e:TypeId):Jq (w.alloc (.cells (bytesRow s cap) e ((bytesRow s cap).size,(bytesRow s cap).size+1))) w.heap.size s.data.toList:=by
 intro j c hc;have hj:j<s.size:=by have:=(List.getElem?_eq_some_iff.1 hc).1;simpa using this
 rw[World.cell?_alloc_mark,World.frozen?_alloc_mark];have hsz:s.size≤(bytesRow s cap).size:=by simp[bytesRow]
 refine⟨?_,by simp;omega⟩
 unfold bytesRow;rw[Array.getElem?_append_left (by simpa using hj)]
 simp at hc ⊢
 exact⟨c,hc,rfl⟩
theorem Jq.drew {w:World}{b:Nat}{l:List UInt8}(h:Jq w b l):Jq w.drew b l:=h
theorem xor32 (c:UInt8):bits BinOp.xor IntKind.u8 (c.toNat:Int) 32=((c ^^^ 32).toNat:Int):=by
 revert c;apply Zn;decide +kernel
theorem lowB_yes (c:UInt8)(h1:65≤(c.toNat:Int))(h2:(c.toNat:Int)<91):Ul c=c ^^^ 32:=by
 have:65≤c&&c≤90:=by simp[UInt8.le_iff_toNat_le];omega
 simp only[Ul];rw[if_pos this]
theorem lowB_no (c:UInt8)(h:¬(65≤(c.toNat:Int)∧(c.toNat:Int)<91)):Ul c=c:=by
 have:¬(65≤c&&c≤90)=true:=by simp[UInt8.le_iff_toNat_le];omega
 simp only[Ul];rw[if_neg this]
theorem uppB_yes (c:UInt8)(h1:97≤(c.toNat:Int))(h2:(c.toNat:Int)<123):Uf c=c ^^^ 32:=by
 have:97≤c&&c≤122:=by simp[UInt8.le_iff_toNat_le];omega
 simp only[Uf];rw[if_pos this]
theorem uppB_no (c:UInt8)(h:¬(97≤(c.toNat:Int)∧(c.toNat:Int)<123)):Uf c=c:=by
 have:¬(97≤c&&c≤122)=true:=by simp[UInt8.le_iff_toNat_le];omega
 simp only[Uf];rw[if_neg this]
theorem turnLow (s:ByteArray)(w:World)(hs:s.size≤1000) :
  Calls Tryz.prog 249 #[.string s,.int .u8 65] w fun e w'=>e=.returned (.string ⟨(lower s.data.toList).toArray⟩)∧Below w.heap.size w w':=by
 have hcv:=fun W=>run_bytes_of_string (P:=Tryz.prog) W 9 237 5 s Tryz.underlying9 Tryz.underlying237 Tryz.underlying5
 generalize hcap:grownCap w s.size 0 5=cap at *;have hcw:=hcv w;rw[hcap]at hcw;clear hcv hcap;have hrow:=Jq.row w s cap 5;have hbel:Below w.heap.size w ((w.alloc (.cells (bytesRow s cap) 5 ((bytesRow s cap).size,(bytesRow s cap).size+1))).drew):=(bal _ _).drew
 go_enter Tryz.func249,Tryz.ntmps249
 go_wp2
 go_loopw [12] (fun i wr=>∃k:Nat,k≤s.size∧i=.int .i64 k∧Jq wr w.heap.size (stt Ul s.data.toList k)∧Below w.heap.size w wr) (fun i _=>s.size-(intOf i).toNat)
 case atStart=>exact⟨0,Nat.zero_le _,rfl,by rw[Zpz];exact hrow.drew,hbel⟩
 case round =>
  obtain⟨k,hk,rfl,hby,hbw⟩:=hrel
  clear hrow hbel hcw
  by_cases hlt:k<s.size
  ·have hc:s.data.toList[k]?=some s[k]:=by simp[hlt];rfl
   generalize s[k]=c at hc;have h0:=hby k c (by rw[Td,hc];simp);have HY:=fun v=>Jq.turn (v:=v) hby hc
   have HN:=Jq.keep hby hc;have HX:=xor32 c;have H1:=lowB_yes c;have H2:=lowB_no c;have hb:(c.toNat:Int)<256:=by have:=c.toNat_lt;omega
   have hb0:0≤(c.toNat:Int):=by omega
   have hcell:=h0.1;have hfz:=h0.2;clear h0 hby hc;generalize (c.toNat:Int)=n at *;have HX':=hid HX;have HY':=hid HY;have HN':=hid HN;have H1':=hid H1;have H2':=hid H2;clear HX HY HN H1 H2;have hwsz:=hbw.size;have HB:=hid hbw;clear hbw
   by_cases h:65≤n∧n<91
   ·obtain⟨ha,hb'⟩:=h
    go_wp2
    go_roundw
    case rel=>exact⟨k+1,by omega,by go_num,HY'.out _ (by rw[H1'.out ha (by omega),←HX'.out]),HB.out.setCell (Nat.le_refl _) _⟩
    case measure=>simp[intOf];omega
   ·by_cases ha:65≤n
    ·have hb':¬n<91:=fun x=>h ⟨ha,x⟩
     clear h
     go_wp2
     go_roundw
     case rel=>exact⟨k+1,by omega,by go_num,HN'.out (H2'.out (by omega)),HB.out⟩
     case measure=>simp[intOf];omega
    ·clear h
     go_wp2
     go_roundw
     case rel=>exact⟨k+1,by omega,by go_num,HN'.out (H2'.out (by omega)),HB.out⟩
     case measure=>simp[intOf];omega
  ·have hback:=run_convert_bytes_back (P:=Tryz.prog) wr 237 9 5 ⟨w.heap.size,0,none⟩ cap (lower s.data.toList) Tryz.underlying237 Tryz.underlying5 Tryz.underlying9 (fun j hj=>by
    have:=(hby j _ (by rw[Xdg _ _ _ (by simp;omega)];exact List.getElem?_eq_getElem hj)).1
    simpa[Addr.add_lit]using this)
   rw[Xt]at hback;have hsz:s.data.toList.length=s.size:=by simp
   rw[hsz]at hback;clear hsz;have HB:=hid hbw;clear hbw hby;generalize hr:lower s.data.toList=r at *;have HR:=hid hr;clear hr
   go_wp2
   go_ret
   exact⟨by rw[HR.out];rfl,HB.out⟩
theorem turnUpp (s:ByteArray)(w:World)(hs:s.size≤1000) :
  Calls Tryz.prog 249 #[.string s,.int .u8 97] w fun e w'=>e=.returned (.string ⟨(Kf s.data.toList).toArray⟩)∧Below w.heap.size w w':=by
 have hcv:=fun W=>run_bytes_of_string (P:=Tryz.prog) W 9 237 5 s Tryz.underlying9 Tryz.underlying237 Tryz.underlying5
 generalize hcap:grownCap w s.size 0 5=cap at *;have hcw:=hcv w;rw[hcap]at hcw;clear hcv hcap;have hrow:=Jq.row w s cap 5;have hbel:Below w.heap.size w ((w.alloc (.cells (bytesRow s cap) 5 ((bytesRow s cap).size,(bytesRow s cap).size+1))).drew):=(bal _ _).drew
 go_enter Tryz.func249,Tryz.ntmps249
 go_wp2
 go_loopw [12] (fun i wr=>∃k:Nat,k≤s.size∧i=.int .i64 k∧Jq wr w.heap.size (stt Uf s.data.toList k)∧Below w.heap.size w wr) (fun i _=>s.size-(intOf i).toNat)
 case atStart=>exact⟨0,Nat.zero_le _,rfl,by rw[Zpz];exact hrow.drew,hbel⟩
 case round =>
  obtain⟨k,hk,rfl,hby,hbw⟩:=hrel
  clear hrow hbel hcw
  by_cases hlt:k<s.size
  ·have hc:s.data.toList[k]?=some s[k]:=by simp[hlt];rfl
   generalize s[k]=c at hc;have h0:=hby k c (by rw[Td,hc];simp);have HY:=fun v=>Jq.turn (v:=v) hby hc
   have HN:=Jq.keep hby hc;have HX:=xor32 c;have H1:=uppB_yes c;have H2:=uppB_no c;have hb:(c.toNat:Int)<256:=by have:=c.toNat_lt;omega
   have hb0:0≤(c.toNat:Int):=by omega
   have hcell:=h0.1;have hfz:=h0.2;clear h0 hby hc;generalize (c.toNat:Int)=n at *;have HX':=hid HX;have HY':=hid HY;have HN':=hid HN;have H1':=hid H1;have H2':=hid H2;clear HX HY HN H1 H2;have hwsz:=hbw.size;have HB:=hid hbw;clear hbw
   by_cases h:97≤n∧n<123
   ·obtain⟨ha,hb'⟩:=h
    go_wp2
    go_roundw
    case rel=>exact⟨k+1,by omega,by go_num,HY'.out _ (by rw[H1'.out ha (by omega),←HX'.out]),HB.out.setCell (Nat.le_refl _) _⟩
    case measure=>simp[intOf];omega
   ·by_cases ha:97≤n
    ·have hb':¬n<123:=fun x=>h ⟨ha,x⟩
     clear h
     go_wp2
     go_roundw
     case rel=>exact⟨k+1,by omega,by go_num,HN'.out (H2'.out (by omega)),HB.out⟩
     case measure=>simp[intOf];omega
    ·clear h
     go_wp2
     go_roundw
     case rel=>exact⟨k+1,by omega,by go_num,HN'.out (H2'.out (by omega)),HB.out⟩
     case measure=>simp[intOf];omega
  ·have hback:=run_convert_bytes_back (P:=Tryz.prog) wr 237 9 5 ⟨w.heap.size,0,none⟩ cap (Kf s.data.toList) Tryz.underlying237 Tryz.underlying5 Tryz.underlying9 (fun j hj=>by
    have:=(hby j _ (by rw[Xdg _ _ _ (by simp;omega)];exact List.getElem?_eq_getElem hj)).1
    simpa[Addr.add_lit]using this)
   rw[Bg]at hback;have hsz:s.data.toList.length=s.size:=by simp
   rw[hsz]at hback;clear hsz;have HB:=hid hbw;clear hbw hby;generalize hr:Kf s.data.toList=r at *;have HR:=hid hr;clear hr
   go_wp2
   go_ret
   exact⟨by rw[HR.out];rfl,HB.out⟩
theorem Hw (s:ByteArray)(w:World)(hs:s.size≤1000) :
  Calls Tryz.prog 201 #[.string s] w fun e w'=>e=.returned (.string ⟨(lower s.data.toList).toArray⟩)∧Below w.heap.size w w':=by
 have h:=turnLow s w hs;generalize lower s.data.toList=b at *
 go_enter Tryz.func201,Tryz.ntmps201
 go_wp2_with (go_at_call 249;refine h.mono ?_;rintro e w' ⟨rfl,hb⟩)
 go_ret
 exact⟨rfl,by assumption⟩
theorem Zzq (s:ByteArray)(w:World)(hs:s.size≤1000) :
  Calls Tryz.prog 208 #[.string s] w fun e w'=>e=.returned (.string ⟨(Kf s.data.toList).toArray⟩)∧Below w.heap.size w w':=by
 have h:=turnUpp s w hs;generalize Kf s.data.toList=b at *
 go_enter Tryz.func208,Tryz.ntmps208
 go_wp2_with (go_at_call 249;refine h.mono ?_;rintro e w' ⟨rfl,hb⟩)
 go_ret
 exact⟨rfl,by assumption⟩
theorem Zgv (a b:List UInt8):(⟨a.toArray⟩:ByteArray)++⟨b.toArray⟩=⟨(a++b).toArray⟩:=by
 apply ByteArray.ext;simp[ByteArray.data_append]
theorem Qfx (s:ByteArray)(a b:Nat):(s.extract a b).size≤s.size:=by
 rw[Lib.size_eq,Lib.extract_data,Lib.size_eq];simp only[List.length_take,List.length_drop];omega
theorem title_cut (s:ByteArray):Kf (s.extract 0 1).data.toList++lower (s.extract 1 s.size).data.toList=Vp s.data.toList:=by
 unfold Vp;rw[Lib.extract_data,Lib.extract_data]
 congr 2
 rw[List.take_of_length_le];simp
theorem _root_.Go.RowKit.Below.then {w w1 w2:World}(h:Below w.heap.size w w1)(k:Below w1.heap.size w1 w2):Below w.heap.size w w2:=h.trans (k.mono h.size)
theorem _root_.Go.RowKit.Below.undrew {w w1:World}(h:Below w.drew.heap.size w.drew w1):Below w.heap.size w w1:=⟨h.os,h.tape,h.output,h.size,h.block⟩
theorem Upper_r (s:ByteArray)(w:World)(hs:s.size≤1000) :
  Calls Tryz.prog 208 #[.string s] w fun e w'=>∃r:ByteArray,e=.returned (.string r)∧Hid (r=⟨(Kf s.data.toList).toArray⟩)∧r.size≤1000∧Below w.heap.size w w' :=
 (Zzq s w hs).mono fun e w' h=>⟨_,h.1,rfl,by rw[Lib.size_eq];simp[Bg];exact hs,h.2⟩
theorem Lower_r (s:ByteArray)(w:World)(hs:s.size≤1000) :
  Calls Tryz.prog 201 #[.string s] w fun e w'=>∃r:ByteArray,e=.returned (.string r)∧Hid (r=⟨(lower s.data.toList).toArray⟩)∧r.size≤1000∧Below w.heap.size w w' :=
 (Hw s w hs).mono fun e w' h=>⟨_,h.1,rfl,by rw[Lib.size_eq];simp[Xt];exact hs,h.2⟩
theorem Title_any (s : ByteArray) (w : World) (hs : s.size ≤ 1000) (h0 : 0 < s.size) :
    Calls Tryz.prog 206 #[.string s] w fun e w' => e=.returned (.string ⟨(Vp s.data.toList).toArray⟩)∧Below w.heap.size w w' := by
  have hne:s.toList.isEmpty=false := by
    rw[Lib.toList_data];cases h:s.data.toList with
    | nil => have h' : s.data.toList.length = 0 := by rw [h]; rfl
             have := Lib.size_eq s;omega
    |cons a r => rfl
  go_enter Tryz.func206,Tryz.ntmps206
  go_wp2_with fail
  go_region_with (first|(go_at_call 208;refine (Upper_r _ _ (by exact Nat.le_trans (Qfx s _ _) hs)).mono ?_;rintro e w1 ⟨r1,rfl,hr1,hrs1,hb1⟩)|(go_at_call 201;refine (Lower_r _ _ (by exact Nat.le_trans (Qfx s _ _) hs)).mono ?_;rintro e w2 ⟨r2,rfl,hr2,hrs2,hb2⟩))
  all_goals go_wp2
  all_goals go_ret
  all_goals refine ⟨?_,by first|exact hb1.undrew.then hb2|exact hb2.undrew.then hb1⟩
  all_goals show Ending.returned (.string (r1++r2))=_
  all_goals rw[hr1.out,hr2.out,Zgv,title_cut]
end
section
abbrev Str:=List UInt8
def Rs:Str:=[45,95]
def Jz (c:UInt8):Bool:=!Rs.contains c
structure Tg where
 lang:Str
 script:Str
 region:Str
 vars:List Str
 keys:List (Str×Str)
def Tg.zero:Tg:=⟨[],[],[],[],[]⟩
structure Rd where
 rest:Str
 pos:Nat
 sub:Str
 fin:Bool
def Rd.next (r:Rd):Rd :=
 match r.rest with
 |[]=>⟨[],r.pos+r.sub.length,[],true⟩
 |_::l=>⟨l.dropWhile Jz,r.pos+r.sub.length+1,l.takeWhile Jz,r.fin⟩
def Rd.first (s:Str):Rd:=if s=[] then⟨[],0,[],true⟩ else⟨s.dropWhile Jz,0,s.takeWhile Jz,false⟩
def Rd.all (r:Rd):Nat:=r.pos+r.sub.length+r.rest.length
theorem Jj (l:Str):(l.takeWhile Jz).length+(l.dropWhile Jz).length=l.length:=by
 rw[←List.length_append,List.takeWhile_append_dropWhile]
theorem Rd.next_all (r:Rd):r.next.all=r.all:=by
 unfold Rd.next Rd.all
 cases h:r.rest with
 |nil=>simp
 |cons c l=>have:=Jj l;simp only[List.length_cons];omega
theorem Rd.first_all (s:Str):(Rd.first s).all=s.length:=by
 unfold Rd.first Rd.all
 by_cases h:s=[]
 ·simp[h]
 ·have:=Jj s;simp only[h,if_false];omega
structure Res where
 tag:Tg
 err:Nat
 pos:Nat
def bad (e:Nat)(r:Rd):Res:=⟨Tg.zero,e,r.pos⟩
def tTrue:Str:=[116,114,117,101]
def Qs:Str:=[114,111,111,116]
def Qth:Str:=[117,110,100]
def Fj:Nat→Rd→List Str→List Str×Rd
 |0,r,acc=>(acc,r)
 |n+1,r,acc=>if Xj r.sub then Fj n r.next (acc++[lower r.sub]) else(acc,r)
def value (l:List Str):Str:=if Lib.join l [45]=tTrue then []else Lib.join l [45]
def Fz (l:List Str):List Str:=l.mergeSort fun x y=>decide (x≤y)
def leK (a b:Str×Str):Bool:=decide (a.1≤b.1)
def Ky (l:List (Str×Str)):List (Str×Str):=l.mergeSort leK
def Cj:Nat→Tg→Rd→Res
 |0,t,r=>bad 0 r
 |n+1,t,r =>
  if Jt r.sub then
   if t.keys.any (fun p=>p.1==lower r.sub)then bad 181 r
   else if t.keys.length=16 then bad 3 r
   else Cj n { t with keys:=t.keys++[(lower r.sub,value (Fj 130 r.next []).1)] } (Fj 130 r.next []).2
  else if r.fin then⟨{ t with keys:=Ky t.keys },0,0⟩else bad 180 r
def Ud (t:Tg)(r:Rd):Res :=
 if r.fin then⟨{ t with vars:=Fz t.vars },0,0⟩
 else if lower r.sub=[117] then
  if Jt r.next.sub then Cj 17 { t with vars:=Fz t.vars } r.next else bad 180 r.next
 else bad 180 r
def Cl:Nat→Tg→Rd→Res
 |0,t,r=>bad 0 r
 |n+1,t,r =>
  if Zh r.sub then
   if t.vars.contains (lower r.sub)then bad 181 r
   else if t.vars.length=8 then bad 3 r
   else Cl n { t with vars:=t.vars++[lower r.sub] } r.next
  else Ud t r
def Fk (t:Tg)(r:Rd):Res :=
 if Xz r.sub then Cl 9 { t with region:=Kf r.sub } r.next else Cl 9 t r
def Bf (t:Tg)(r:Rd):Res :=
 if Xq r.sub then Fk { t with script:=Vp r.sub } r.next else Fk t r
def Vh (l:Str):Str:=if lower l=Qth then []else lower l
def Xp (s:Str):Res :=
 if 128<s.length then⟨Tg.zero,3,0⟩
 else if lower s=Qs then⟨Tg.zero,0,0⟩
 else if Vw (Rd.first s).sub then Bf { Tg.zero with lang:=Vh (Rd.first s).sub } (Rd.first s).next
 else bad 180 (Rd.first s)
theorem Qfj:∀(l l':List (Str×Str)),l'.Perm l→(l.map (·.1)).Nodup→l.Pairwise (fun a b=>¬b.1<a.1)→l'.Pairwise (fun a b=>¬b.1<a.1)→l'=l
 |[],l',hp,_,_,_=>List.perm_nil.1 hp
 |x::l,l',hp,hn,hs,hs'=>by
  cases l' with
  |nil=>exact absurd (List.perm_nil.1 hp.symm) (by simp)
  |cons y l' =>
   have hxy:y=x:=by
    have hy:y∈x::l:=hp.subset (List.mem_cons_self);have hx:x∈y::l':=hp.symm.subset (List.mem_cons_self)
    rcases List.mem_cons.1 hy with e|hyl
    ·exact e
    rcases List.mem_cons.1 hx with e|hxl
    ·exact e.symm
    have h1:¬y.1<x.1:=(List.pairwise_cons.1 hs).1 y hyl;have h2:¬x.1<y.1:=(List.pairwise_cons.1 hs').1 x hxl;have e:x.1=y.1:=List.le_antisymm (List.not_lt.1 h1) (List.not_lt.1 h2)
    have:x.1 ∉ l.map (·.1):=(List.nodup_cons.1 hn).1
    exact absurd (List.mem_map.2 ⟨y,hyl,e.symm⟩) this
   subst hxy;rw[Qfj l l' (List.Perm.cons_inv hp) (List.nodup_cons.1 hn).2 (List.pairwise_cons.1 hs).2 (List.pairwise_cons.1 hs').2]
theorem Mq (l:List (Str×Str)):(Ky l).Pairwise (fun a b=>¬b.1<a.1):=by
 have h:=List.pairwise_mergeSort (le:=leK) (fun a b c h1 h2=>by
   simp only[leK,decide_eq_true_eq]at *;exact List.le_trans h1 h2) (fun a b=>by
   simp only[leK,Bool.or_eq_true,decide_eq_true_eq];exact List.le_total _ _) l
 exact h.imp fun {a b} hab=>by
  simp only[leK,decide_eq_true_eq]at hab;exact List.not_lt.2 hab
theorem Vg (l:List (Str×Str)):(Ky l).Perm l:=List.mergeSort_perm l leK
theorem Rt (l l':List (Str×Str))(hp:l'.Perm l)(hn:(l.map (·.1)).Nodup)(hs:l'.Pairwise (fun a b=>¬b.1<a.1)):l'=Ky l :=
 Qfj (Ky l) l' (hp.trans (Vg l).symm) (((Vg l).map _).nodup_iff.2 hn) (Mq l) hs
theorem Xkj {g:Nat}{r:Rd}{acc:List Str}{z:List Str×Rd}(h:Fj g r acc=z)(hg:1≤g)(hq:Xj r.sub=true):Fj (g-1) r.next (acc++[lower r.sub])=z:=by
 obtain⟨k,rfl⟩:∃k,g=k+1:=⟨g-1,by omega⟩
 rw[Fj,if_pos hq]at h;exact h
theorem types_end {g:Nat}{r:Rd}{acc:List Str}{z:List Str×Rd}(h:Fj g r acc=z)(hg:1≤g)(hq:Xj r.sub=false):z=(acc,r):=by
 obtain⟨k,rfl⟩:∃k,g=k+1:=⟨g-1,by omega⟩
 rw[Fj,hq]at h;exact h.symm
theorem Zzz {g:Nat}{r:Rd}(h:r.rest.length+2≤g):r.next.rest.length+2≤g-1∨(Xj r.next.sub=false∧1≤g-1):=by
 unfold Rd.next
 cases hr:r.rest with
 |nil=>right;rw[hr]at h;simp at h;exact⟨rfl,by omega⟩
 |cons c l =>
  left
  rw[hr]at h
  have:=Jj l
  simp at h ⊢
  omega
theorem Lv:∀(l:List Str),(∀y∈l,y.length≤128)→(Lib.joinTail [45] l).length≤l.length * 129
 |[],_=>by simp[Lib.joinTail]
 |x::l,h=>by
  have ih:=Lv l (fun y hy=>h y (List.mem_cons_of_mem _ hy));have hx:=h x (List.mem_cons_self);simp only[Lib.joinTail,List.map_cons,List.flatten_cons,List.length_append,List.length_cons,List.length_nil]at ih ⊢
  omega
theorem join_len (l:List Str)(h:∀y∈l,y.length≤128):(Lib.join l [45]).length≤l.length * 129:=by
 cases l with
 |nil=>simp[Lib.join_nil]
 |cons x l =>
  rw[Lib.join_cons,List.length_append]
  have:=Lv l (fun y hy=>h y (List.mem_cons_of_mem _ hy))
  have hx:=h x (List.mem_cons_self);simp only[List.length_cons]
  omega
end
section
open Go.RowKit Go.Lib
theorem get_le (s:ByteArray)(k:Nat)(h:k<s.size):s.get! k=s[k]'h:=by
 show s.get! k=_
 simp[ByteArray.get!,getElem!_pos,h]
 rfl
theorem Zgw (s:ByteArray)(pos:Nat)(h:pos<s.size)(ha:128≤(s[pos]'h).toNat) :
  pos+(Utf8.decode s pos).2≤s.size∧∀j,pos≤j→j<pos+(Utf8.decode s pos).2→∀hj:j<s.size,128≤(s[j]'hj).toNat:=by
 have e0:s.get! (pos+0)=s[pos]'h:=get_le s pos h;have c:∀k,(decide (pos+k<s.size)&&(s.get! (pos+k)).toNat / 64==2)=true→pos+k<s.size∧∀hj:pos+k<s.size,128≤(s[pos+k]'hj).toNat:=by
  intro k hk;simp only[Bool.and_eq_true,decide_eq_true_eq,beq_iff_eq]at hk
  refine⟨hk.1,fun hj=>?_⟩
  rw[←get_le s _ hj];omega
 have one:pos+1≤s.size∧∀j,pos≤j→j<pos+1→∀hj:j<s.size,128≤(s[j]'hj).toNat:=by
  refine⟨by omega,fun j h1 h2 hj=>?_⟩
  obtain rfl:j=pos:=by omega
  exact ha
 have c1:=c 1;have c2:=c 2;have c3:=c 3;have two:((decide (pos+1<s.size)&&(s.get! (pos+1)).toNat / 64==2)=true)→pos+2≤s.size∧∀j,pos≤j→j<pos+2→∀hj:j<s.size,128≤(s[j]'hj).toNat:=by
  intro h1
  have:=c1 h1
  refine⟨by omega,fun j g1 g2 hj=>?_⟩
  by_cases e:j=pos
  ·subst e;exact ha
  ·obtain rfl:j=pos+1:=by omega
   exact this.2 hj
 have three:((decide (pos+1<s.size)&&(s.get! (pos+1)).toNat / 64==2)=true)→((decide (pos+2<s.size)&&(s.get! (pos+2)).toNat / 64==2)=true)→pos+3≤s.size∧∀j,pos≤j→j<pos+3→∀hj:j<s.size,128≤(s[j]'hj).toNat:=by
  intro h1 h2;have a1:=two h1;have a2:=c2 h2
  refine⟨by omega,fun j g1 g2 hj=>?_⟩
  by_cases e:j<pos+2
  ·exact a1.2 j g1 e hj
  ·obtain rfl:j=pos+2:=by omega
   exact a2.2 hj
 have four:((decide (pos+1<s.size)&&(s.get! (pos+1)).toNat / 64==2)=true)→((decide (pos+2<s.size)&&(s.get! (pos+2)).toNat / 64==2)=true)→((decide (pos+3<s.size)&&(s.get! (pos+3)).toNat / 64==2)=true)→pos+4≤s.size∧∀j,pos≤j→j<pos+4→∀hj:j<s.size,128≤(s[j]'hj).toNat:=by
  intro h1 h2 h3;have a1:=three h1 h2;have a2:=c3 h3
  refine⟨by omega,fun j g1 g2 hj=>?_⟩
  by_cases e:j<pos+3
  ·exact a1.2 j g1 e hj
  ·obtain rfl:j=pos+3:=by omega
   exact a2.2 hj
 clear c c1 c2 c3;unfold Utf8.decode;simp only[]
 split
 ·rename_i h1;rw[e0]at h1;omega
 split
 ·rename_i h1;simp only[Bool.and_eq_true]at h1 two
  split
  ·exact two (by simpa using h1.2)
  ·exact one
 split
 ·rename_i h1
  simp only[Bool.and_eq_true]at h1
  split
  ·exact three (by simpa using h1.1.2) (by simpa using h1.2)
  ·exact one
 split
 ·rename_i h1
  simp only[Bool.and_eq_true]at h1
  split
  ·exact four (by simpa using h1.1.1.2) (by simpa using h1.1.2) (by simpa using h1.2)
  ·exact one
 ·exact one
theorem high_no (b:UInt8)(h:128≤b.toNat):Rs.contains b=false:=by
 revert h;revert b;apply Zn;decide +kernel
theorem Xkk (r:Int)(h1:128≤r)(h2:r<2048)(hv:Utf8.valid r=true):∃a b:UInt8,Utf8.encode r=⟨#[a,b]⟩∧128≤b.toNat:=by
 unfold Utf8.encode;rw[if_pos hv];simp only[];rw[if_neg (by omega),if_pos (by omega)]
 exact⟨_,_,rfl,by simp;omega⟩
theorem Zpx (r:Int)(h2:2048≤r)(hv:Utf8.valid r=true):3≤(Utf8.encode r).size∧(Utf8.encode r).size≤4:=by
 unfold Utf8.encode;rw[if_pos hv];simp only[];rw[if_neg (by omega),if_neg (by omega)]
 split <;> simp[ByteArray.size]
theorem Xkv (w:World):Calls Tryz.prog 271 #[.string ⟨#[45,95]⟩,.int .i32 65533] w fun e w'=>e=.returned (.int .i64 (-1))∧Below w.heap.size w w':=by
 have n0:=fun ty=>run_next_ascii (P:=Tryz.prog) w ⟨#[45,95]⟩ 0 ty (by decide) (by decide)
 have n1:=fun ty=>run_next_ascii (P:=Tryz.prog) w ⟨#[45,95]⟩ 1 ty (by decide) (by decide)
 have n2:=fun ty=>run_next_end (P:=Tryz.prog) w ⟨#[45,95]⟩ 2 ty (by decide)
 have b:∀k,Below w.heap.size w (w.iter ⟨#[45,95]⟩ k):=fun k=>bal _ _
 have B:=hid b;clear b
 go_enter Tryz.func271,Tryz.ntmps271
 go_wp2_with fail;refine wp_loop_rounds 3 ?_;rw[rounds_succ];go_wp2_with fail;rw[rounds_succ];go_wp2_with fail;rw[rounds_succ];go_wp2_with fail
 go_ret
 exact⟨rfl,B.out _⟩
theorem rune_none (r:Int)(w:World)(h1:128≤r)(h2:r≤2147483647)(he:(r==65533)=false)(hv:Lib.validRune r=false) :
  Calls Tryz.prog 271 #[.string ⟨#[45,95]⟩,.int .i32 r] w fun e w'=>e=.returned (.int .i64 (-1))∧w'=w:=by
 have h:=Tryz.utf8_ValidRune r;rw[hv]at h;clear hv
 go_enter Tryz.func271,Tryz.ntmps271
 go_wp2_with (go_at_call 277;refine(h _).mono ?_;rintro e w' ⟨rfl,rfl⟩)
 go_ret
 exact⟨rfl,rfl⟩
theorem rune_two (r:Int)(w:World)(h1:128≤r)(h2:r<2048)(he:(r==65533)=false)(hv:Lib.validRune r=true) :
  Calls Tryz.prog 271 #[.string ⟨#[45,95]⟩,.int .i32 r] w fun e w'=>e=.returned (.int .i64 (-1))∧Below w.heap.size w w':=by
 have h:=Tryz.utf8_ValidRune r;rw[hv]at h;have hvv:Utf8.valid r=true:=by simp only[Utf8.valid];simp;omega
 obtain⟨a,b,hab,hb⟩:=Xkk r h1 h2 hvv
 have hb2:=b.toNat_lt;clear hv hvv
 go_enter Tryz.func271,Tryz.ntmps271
 go_wp2_with (go_at_call 277;refine(h _).mono ?_;rintro e w' ⟨rfl,rfl⟩)
 go_step3
 go_wp2_with fail;refine wp_loop_rounds 1 ?_;rw[rounds_succ];go_wp2_with fail
 go_step3
 go_wp2_with fail;have hne:((((⟨#[45,95]⟩:ByteArray)[1]'(by decide)).toNat:Int) != (((⟨#[a,b]⟩:ByteArray)[1]'(by show 1<2;omega)).toNat:Int))=true:=by
  show((95:Int) != (b.toNat:Int))=true
  rw[bne_iff_ne];omega
 have hix:∀(s:ByteArray) (c:Int) (W:World),s.size=0→Calls Tryz.prog 190 #[.string s,.int .u8 c] W fun e w'=>e=.returned (.int .i64 (-1))∧w'=W:=fun s c W h0 =>
  (Tryz.strings_IndexByte s c W).mono fun _ _ h=>⟨by rw[h.1,List.eq_nil_of_length_eq_zero (l:=s.data.toList) (by rw[←Lib.size_eq];exact h0)];rfl,h.2⟩
 go_quiet (fail)
 go_wp2_with fail;have hB:Below w'.heap.size w' (w'.drewN nq):=below_drewN (Below.refl _ _) nq;generalize w'.drewN nq=W at *;have hw2:IntKind.i64.wrap 2=2:=by decide
 go_quiet ((go_at_call 190;exact Calls.quiet_of_same (hix _ _ _ (by rfl))))
 go_wp2_with fail
 try simp only[Exit.inBlock,Exit.then]
 try rw[Exit.noGoto_ret]
 try simp only[Exit.inBlock,Exit.then]
 try rw[Exit.noGoto_ret]
 go_ret
 exact⟨rfl,below_drewN hB nq⟩
theorem rune_more (r:Int)(w:World)(h1:2048≤r)(h2:r≤2147483647)(he:(r==65533)=false)(hv:Lib.validRune r=true) :
  Calls Tryz.prog 271 #[.string ⟨#[45,95]⟩,.int .i32 r] w fun e w'=>e=.returned (.int .i64 (-1))∧w'=w:=by
 have h:=Tryz.utf8_ValidRune r;rw[hv]at h;have hvv:Utf8.valid r=true:=by simp only[Lib.validRune,Utf8.valid,decide_eq_true_eq]at hv ⊢;simp;omega
 have hm:=Zpx r h1 hvv
 obtain⟨hm1,hm2⟩:=hm
 clear hv hvv
 go_enter Tryz.func271,Tryz.ntmps271
 go_wp2_with (go_at_call 277;refine(h _).mono ?_;rintro e w' ⟨rfl,rfl⟩)
 go_step3
 go_wp2_with fail;refine wp_loop_rounds 1 ?_;rw[rounds_succ];go_wp2_with fail
 try rw[Exit.noGoto_ret]
 try rw[Exit.noGoto_ret]
 go_ret
 exact⟨rfl,rfl⟩
theorem rune_high (r:Int)(w:World)(h1:128≤r)(h2:r≤2147483647) :
  Calls Tryz.prog 271 #[.string ⟨#[45,95]⟩,.int .i32 r] w fun e w'=>e=.returned (.int .i64 (-1))∧Below w.heap.size w w':=by
 by_cases he:r=65533
 ·subst he;exact Xkv w
 ·have he':(r==65533)=false:=beq_eq_false_iff_ne.2 he
  cases hv:Lib.validRune r
  ·exact(rune_none r w h1 h2 he' hv).mono fun _ _ h=>⟨h.1,h.2▸Below.refl _ _⟩
  ·by_cases h3:r<2048
   ·exact rune_two r w h1 h3 he' hv
   ·exact(rune_more r w (by omega) h2 he' hv).mono fun _ _ h=>⟨h.1,h.2▸Below.refl _ _⟩
theorem any_short (s:ByteArray)(w:World)(h8:s.size≤8) :
  Calls Tryz.prog 250 #[.string s,.string ⟨#[45,95]⟩] w fun e w'=>e=.returned (.int .i64 (Lib.indexAny s.data.toList Rs))∧Below w.heap.size w w':=by
 have h8z:decide ((8:Int)<(s.size:Int))=false:=decide_eq_false (by omega);have hsh:=Tryz.strings_shouldUseASCIISet s.size;rw[h8z]at hsh
 go_enter Tryz.func250,Tryz.ntmps250
 go_wp2_with (go_at_call 272;refine(hsh _).mono ?_;rintro e w' ⟨rfl,rfl⟩)
 obtain⟨B,hB⟩:∃B,B=w'.heap.size:=⟨_,rfl⟩
 rw[←hB];have HB:=hid hB;clear hB
 go_loopg[9,10] s.size (fun g _ _ wx=>∃i:Nat,i≤s.size∧s.size≤i+g∧wx.heap[B]?=some (.stringIter s i)∧Below B w' wx∧Lib.NoAny s.data.toList Rs i)
 case atStart=>exact⟨0,by omega,by omega,by rw[HB.out];exact World.iter_heap _ _ _,by rw[HB.out];exact bal _ _,Lib.NoAny.zero _ _⟩
 case round =>
  obtain⟨i,hi,hig,hit,hbel,hno⟩:=hrel
  have HN:=hid hno;have HL:=hid hbel;have hsz:B<wr.heap.size:=lt_of_block hit;clear hno hbel
  by_cases hlt:i<s.size
  ·cases gk with
   |zero=>omega
   |succ g =>
   by_cases ha:(s[i]'hlt).toNat<128
   ·have hnx:=fun ty=>Lib.run_next_ascii_at (P:=Tryz.prog) wr B s i ty hit hlt ha
    have hxl:s.data.toList[i]?=some (s[i]'hlt):=Lib.data_getElem? s i hlt;generalize s[i]'hlt=x at *;have Hx:=hid hxl;have hv:(wr.iterAt B s (i+1)).heap[B]?=some (.stringIter s (i+1))∧Below B w' (wr.iterAt B s (i+1)):=⟨Lib.iterAt_heap wr B s i (i+1) hit,Lib.below_iterAt HL.out (Nat.le_refl _) s (i+1)⟩;clear hxl hit;have hcon:=Lib.contains_iff_indexByte Rs x;have hback:((x.toNat:Int)).toNat.toUInt8=x:=by simp
    have hcall:=fun W=>Tryz.strings_IndexRune_ascii ⟨#[45,95]⟩ (x.toNat:Int) W (by omega) (by omega)
    rw[hback]at hcall;change ∀W,Calls _ _ _ _ (fun e w'=>e=.returned (.int .i64 (Lib.indexByte Rs x))∧w'=W)at hcall
    cases hin:Rs.contains x
    ·rw[hin]at hcon;have hneg:Lib.indexByte Rs x<0:=by have:=of_decide_eq_false hcon.symm;omega
     have HI:=hid hin;generalize Lib.indexByte Rs x=y at *;clear hcon hin hback;generalize wr.iterAt B s (i+1)=w2 at *;have HV:=hid hv;clear hv
     go_wp2_with (go_at_call 271;refine(hcall _).mono ?_;rintro e w3 ⟨rfl,rfl⟩)
     go_roundg g
     case measure=>omega
     case rel=>exact⟨i+1,by omega,by omega,HV.out.1,HV.out.2,HN.out.succ Hx.out HI.out⟩
    ·rw[hin]at hcon;have hpos:0≤Lib.indexByte Rs x:=of_decide_eq_true hcon.symm;have HI:=hid hin;generalize Lib.indexByte Rs x=y at *;clear hcon hin hback;generalize wr.iterAt B s (i+1)=w2 at *;have HV:=hid hv;clear hv
     go_wp2_with (go_at_call 271;refine(hcall _).mono ?_;rintro e w3 ⟨rfl,rfl⟩)
     go_ret
     exact⟨by rw[Lib.indexAny_hit HN.out Hx.out HI.out];rfl,by rw[←HB.out];exact HV.out.2⟩
   ·have hnx:=fun ty=>Lib.run_next_any_at (P:=Tryz.prog) wr B s i ty hit hlt
    have hd:=hid (Zgw s i hlt (by omega));have hd2:=decode_high s i hlt (by omega);have hd3:=decode_le s i;generalize hdec:Utf8.decode s i=d at *
    obtain⟨r,n⟩:=d
    simp only[]at hd2 hd3 hnx
    obtain⟨hr1,hn1⟩:=hd2
    have hdn:i+n≤s.size:=hd.out.1;have HD:=hid hdec;have hv:(wr.iterAt B s (i+n)).heap[B]?=some (.stringIter s (i+n))∧Below B w' (wr.iterAt B s (i+n)):=⟨Lib.iterAt_heap wr B s i (i+n) hit,Lib.below_iterAt HL.out (Nat.le_refl _) s (i+n)⟩;clear hit hdec;generalize wr.iterAt B s (i+n)=w2 at *;have HV:=hid hv;clear hv
    go_wp2_with (go_at_call 271;refine(rune_high _ _ (by omega) (by omega)).mono ?_;rintro e w3 ⟨rfl,hb3⟩)
    go_roundg g
    case measure=>omega
    case rel =>
     refine⟨i+n,by omega,by omega,?_,?_,?_⟩
     ·rw[hb3.block _ (lt_of_block HV.out.1)];exact HV.out.1
     ·exact HV.out.2.trans (hb3.mono (Nat.le_of_lt (lt_of_block HV.out.1)))
     ·intro j b hj hb
      by_cases hji:j<i
      ·exact HN.out j b hji hb
      ·have hjs:j<s.size:=by omega
       have h128:=hd.out.2 j (by omega) (by omega) hjs;rw[Lib.data_getElem? s j hjs]at hb
       simp at hb
       exact high_no b (by rw[←hb];exact h128)
  ·obtain rfl:i=s.size:=by omega
   have hnx:=fun ty=>Lib.run_next_end_at (P:=Tryz.prog) wr B s s.size ty hit (by omega)
   clear hit
   go_wp2
   go_ret
   exact⟨by rw[Lib.indexAny_none (by rw[←Lib.size_eq];exact HN.out)];rfl,by rw[←HB.out];exact HL.out⟩
theorem Zpj (s:ByteArray)(w:World)(hs:s.size≤1000) :
  Calls Tryz.prog 250 #[.string s,.string ⟨#[45,95]⟩] w fun e w'=>e=.returned (.int .i64 (Lib.indexAny s.data.toList Rs))∧Below w.heap.size w w':=by
 by_cases h8:s.size≤8
 ·exact any_short s w h8
 ·have h:=Tryz.strings_IndexAny_long (zero_of_info (n:=256) (by kernel_rfl)).1 s ⟨#[45,95]⟩ w (by decide) (by omega) (by omega) (by decide) (fun j b hb=>by
   match j,hb with
   |0,hb=>simp at hb;subst hb;decide
   |1,hb=>simp at hb;subst hb;decide)
  exact h.mono fun _ _ h=>⟨h.1,h.2▸(bal _ _).alloc (by simp) _⟩
end
section
open Go.RowKit Go.Lib
def S (l:List UInt8):Value:=.string ⟨l.toArray⟩
def rdr (rest:List UInt8)(at_:Nat)(sub:List UInt8)(bg en:Bool):Array Value:=#[S rest,.int .i64 at_,S sub,.bool bg,.bool en]
theorem Zzx (l:List UInt8):(Lib.indexAny l Rs=-1∧l.takeWhile Jz=l∧l.dropWhile Jz=[]) ∨
  (∃k:Nat,Lib.indexAny l Rs=k∧k<l.length∧l.takeWhile Jz=l.take k∧l.dropWhile Jz=l.drop k):=by
 induction l with
 |nil=>left;exact⟨rfl,rfl,rfl⟩
 |cons c r ih =>
  by_cases h:Rs.contains c=true
  ·right
   refine⟨0,?_,by simp,?_,?_⟩
   ·simp only[Lib.indexAny,h,if_true];rfl
   ·have hn:Jz c=false:=by unfold Jz;rw[h];rfl
    simp[List.takeWhile_cons,hn]
   ·have hn:Jz c=false:=by unfold Jz;rw[h];rfl
    simp[List.dropWhile_cons,hn]
  ·have hn:Jz c=true:=by simpa[Jz]using h
   rcases ih with ⟨h1,h2,h3⟩|⟨k,h1,h2,h3,h4⟩
   ·left
    refine⟨?_,by simp[List.takeWhile_cons,hn,h2],by simp[List.dropWhile_cons,hn,h3]⟩
    simp only[Lib.indexAny,h,h1];rfl
   ·right
    refine⟨k+1,?_,by simp;omega,by simp[List.takeWhile_cons,hn,h3],by simp[List.dropWhile_cons,hn,h4]⟩
    simp only[Lib.indexAny,h,h1]
    have:((k:Int)==-1)=false:=beq_eq_false_iff_ne.2 (by omega)
    rw[this];simp
def Qf (b:Nat)(w w':World):Prop:=w.grownBy w' (some b)
theorem Qf.refl (w:World)(b:Nat):Qf b w w:=⟨rfl,rfl,rfl,Nat.le_refl _,fun _ _ _=>rfl⟩
theorem Qf.trans {b:Nat}{a w w':World}(h:Qf b a w)(k:Qf b w w'):Qf b a w' :=
 ⟨k.os.trans h.os,k.tape.trans h.tape,k.output.trans h.output,Nat.le_trans h.size k.size,fun i hi hne=>(k.block i (Nat.lt_of_lt_of_le hi h.size) hne).trans (h.block i hi hne)⟩
theorem Qf.set {b:Nat}{a w:World}(h:Qf b a w)(i:Nat)(v:Value):Qf b a (w.setCell ⟨b,i,none⟩ v) :=
 h.trans ⟨rfl,rfl,rfl,by simp,fun k _ hne=>heap_setCell_other w _ k v (fun e=>hne (by rw[e]))⟩
theorem Qf.drew {b:Nat}{a w:World}(h:Qf b a w):Qf b a w.drew:=⟨h.os,h.tape,h.output,h.size,h.block⟩
theorem Qf.below {b:Nat}{a w w':World}(h:Qf b a w)(k:Below w.heap.size w w'):Qf b a w' :=
 h.trans ⟨k.os,k.tape,k.output,k.size,fun i hi _=>k.block i hi⟩
theorem Zpk (br:Nat)(at_:Nat)(sub:List UInt8)(bg en:Bool)(w:World)(hat:at_≤1000)(hsub:sub.length≤1000)
  (hb:w.heap[br]?=some (.cells (rdr [] at_ sub bg en) 253 (0,0))) :
  Calls Tryz.prog 203 #[.pointer (some ⟨br,0,none⟩)] w fun e w'=>e=.returned (.tuple #[])∧
   w'.heap[br]?=some (.cells (rdr [] (at_+sub.length) [] bg true) 253 (0,0))∧Qf br w w':=by
 have c0:w.cell? ⟨br,0,none⟩=some (.string ⟨#[]⟩):=cR hb;have c1:w.cell? ⟨br,1,none⟩=some (.int .i64 at_):=cR hb;have c2:w.cell? ⟨br,2,none⟩=some (.string ⟨sub.toArray⟩):=cR hb;have c4:w.cell? ⟨br,4,none⟩=some (.bool en):=cR hb;have f:∀j,w.frozen? ⟨br,j,none⟩=false:=fun j=>frozen_of_row _ _ _ _ _ hb
 have f1:=f 1;have f2:=f 2;have f4:=f 4;have hsz:(⟨sub.toArray⟩:ByteArray).size≤1000:=by rw[Lib.size_eq];simpa using hsub
 have HB:=hid hb;clear f hb
 go_enter Tryz.func203,Tryz.ntmps203
 go_wp2_with fail
 go_region
 go_wp2_with fail;refine bodyPost_ret (results_none rfl _ _ _) rfl ⟨rfl,?_,?_⟩
 ·rw[heap_drew,heap_setCell_same _ _ _ _ _ _ (heap_setCell_same _ _ _ _ _ _ (heap_setCell_same _ _ _ _ _ _ HB.out))]
  simp[rdr,S]
 ·exact(((Qf.refl w br).set 1 _).set 2 _).set 4 _ |>.drew
theorem Xkw (br:Nat)(l:List UInt8)(w:World)(hl:l.length≤1000)(h0:l≠[])
  (hb:w.heap[br]?=some (.cells (rdr l 0 [] false false) 253 (0,0))) :
  Calls Tryz.prog 203 #[.pointer (some ⟨br,0,none⟩)] w fun e w'=>e=.returned (.tuple #[])∧
   w'.heap[br]?=some (.cells (rdr (l.dropWhile Jz) 0 (l.takeWhile Jz) true false) 253 (0,0))∧Qf br w w':=by
 have c0:w.cell? ⟨br,0,none⟩=some (.string ⟨l.toArray⟩):=cR hb;have c3:w.cell? ⟨br,3,none⟩=some (.bool false):=cR hb;have hne:(⟨l.toArray⟩:ByteArray).toList.isEmpty=false:=by rw[Lib.toList_data];cases l with|nil=>exact absurd rfl h0|cons a r=>rfl
 have hsz:(⟨l.toArray⟩:ByteArray).size≤1000:=by rw[Lib.size_eq];simpa using hl
 have hsl:(⟨l.toArray⟩:ByteArray).size=l.length:=by rw[Lib.size_eq]
 have ha:=Zpj ⟨l.toArray⟩;have hix:=Zzx l;change ∀w:World,_→Calls _ _ _ _ fun e w'=>e=.returned (.int .i64 (Lib.indexAny l Rs))∧_ at ha
 have HB:=hid hb;have HL:=hid hsl;clear hb h0 hsl;generalize hs:(⟨l.toArray⟩:ByteArray)=s at *;have HS:=hid hs;clear hs
 rcases hix with ⟨h1,h2,h3⟩|⟨k,h1,hk,h2,h3⟩
 ·rw[h1]at ha;have H2:=hid h2;have H3:=hid h3;clear h1 h2 h3
  go_enter Tryz.func203,Tryz.ntmps203
  go_wp2_with fail
  refine(ha _ hsz).mono ?_
  rintro e w1 ⟨rfl,hb1⟩;have hb1':w1.heap[br]?=some (.cells (rdr l 0 [] false false) 253 (0,0)):=by rw[hb1.block _ (lt_of_block HB.out)];exact HB.out
  have c0':w1.cell? ⟨br,0,none⟩=some (.string s):=by rw[cell_of_row _ _ _ _ _ _ hb1',←HS.out];rfl
  have f:∀j,w1.frozen? ⟨br,j,none⟩=false:=fun j=>frozen_of_row _ _ _ _ _ hb1'
  have f0:=f 0;have f2:=f 2;have f3:=f 3;have c2':w1.cell? ⟨br,2,none⟩=some (.string ⟨#[]⟩):=cR hb1';have c3':w1.cell? ⟨br,3,none⟩=some (.bool false):=cR hb1';have HB1:=hid hb1';have HO:=hid hb1;clear c0 c3 f hb1 hb1' ha;go_wp2_with fail
  go_region
  go_wp2_with fail
  go_end0
  refine⟨rfl,?_,?_⟩
  ·rw[heap_drew,heap_setCell_same _ _ _ _ _ _ (heap_setCell_same _ _ _ _ _ _ (heap_setCell_same _ _ _ _ _ _ HB1.out))];rw[H2.out,H3.out,←HS.out]
   simp[rdr,S]
   rfl
  ·exact(((((Qf.refl w br).below HO.out).set _ _).set _ _).set _ _).drew
 ·have hks:k≤s.size:=by rw[HL.out];omega
  rw[h1]at ha;have H2:=hid h2;have H3:=hid h3;clear h1 h2 h3
  go_enter Tryz.func203,Tryz.ntmps203
  go_wp2_with fail
  refine(ha _ hsz).mono ?_
  rintro e w1 ⟨rfl,hb1⟩;have hb1':w1.heap[br]?=some (.cells (rdr l 0 [] false false) 253 (0,0)):=by rw[hb1.block _ (lt_of_block HB.out)];exact HB.out
  have c0':w1.cell? ⟨br,0,none⟩=some (.string s):=by rw[cell_of_row _ _ _ _ _ _ hb1',←HS.out];rfl
  have f:∀j,w1.frozen? ⟨br,j,none⟩=false:=fun j=>frozen_of_row _ _ _ _ _ hb1'
  have f0:=f 0;have f2:=f 2;have f3:=f 3;have c2':w1.cell? ⟨br,2,none⟩=some (.string ⟨#[]⟩):=cR hb1';have c3':w1.cell? ⟨br,3,none⟩=some (.bool false):=cR hb1';have HB1:=hid hb1';have HO:=hid hb1;clear c0 c3 f hb1 hb1' ha;go_wp2_with fail
  go_region
  go_wp2_with fail
  go_end0
  refine⟨rfl,?_,?_⟩
  ·rw[heap_drew,heap_setCell_same _ _ _ _ _ _ (heap_setCell_same _ _ _ _ _ _ (heap_setCell_same _ _ _ _ _ _ HB1.out))];rw[H2.out,H3.out,Lib.extract_eq,Lib.extract_eq,←HS.out]
   simp[rdr,S]
   rw[List.take_of_length_le (by rw[Lib.size_eq];simp)]
  ·exact(((((Qf.refl w br).below HO.out).set _ _).set _ _).set _ _).drew
theorem next_more (br:Nat)(c:UInt8)(l:List UInt8)(at_:Nat)(sub:List UInt8)(en:Bool)(w:World)(hl:l.length≤999)(hat:at_≤1000)(hsub:sub.length≤1000)
  (hb:w.heap[br]?=some (.cells (rdr (c::l) at_ sub true en) 253 (0,0))) :
  Calls Tryz.prog 203 #[.pointer (some ⟨br,0,none⟩)] w fun e w'=>e=.returned (.tuple #[])∧
   w'.heap[br]?=some (.cells (rdr (l.dropWhile Jz) (at_+sub.length+1) (l.takeWhile Jz) true en) 253 (0,0))∧Qf br w w':=by
 have c0:w.cell? ⟨br,0,none⟩=some (.string ⟨(c::l).toArray⟩):=cR hb;have c1:w.cell? ⟨br,1,none⟩=some (.int .i64 at_):=cR hb;have c2:w.cell? ⟨br,2,none⟩=some (.string ⟨sub.toArray⟩):=cR hb;have c3:w.cell? ⟨br,3,none⟩=some (.bool true):=cR hb;have f:∀j,w.frozen? ⟨br,j,none⟩=false:=fun j=>frozen_of_row _ _ _ _ _ hb
 have f0:=f 0;have f1:=f 1;have hne:(⟨(c::l).toArray⟩:ByteArray).toList.isEmpty=false:=by rw[Lib.toList_data];rfl
 have hsz:(⟨(c::l).toArray⟩:ByteArray).size≤1000:=by rw[Lib.size_eq];simpa using hl
 have hs1:1≤(⟨(c::l).toArray⟩:ByteArray).size:=by rw[Lib.size_eq];simp
 have hss:(⟨sub.toArray⟩:ByteArray).size≤1000:=by rw[Lib.size_eq];simpa using hsub
 have hex:(⟨(c::l).toArray⟩:ByteArray).extract 1 (⟨(c::l).toArray⟩:ByteArray).size=⟨l.toArray⟩:=by
  rw[Lib.extract_eq,Lib.size_eq]
  simp
 have hsl:(⟨l.toArray⟩:ByteArray).size=l.length:=by rw[Lib.size_eq]
 have hsz1:(⟨l.toArray⟩:ByteArray).size≤999:=by rw[Lib.size_eq];simpa using hl
 have ha:=Zpj ⟨l.toArray⟩;have hix:=Zzx l;change ∀w:World,_→Calls _ _ _ _ fun e w'=>e=.returned (.int .i64 (Lib.indexAny l Rs))∧_ at ha
 have HB:=hid hb;have HL:=hid hsl;have HC:=hid (f);clear hb hsl f;generalize hs:(⟨(c::l).toArray⟩:ByteArray)=s0 at *;generalize hs':(⟨l.toArray⟩:ByteArray)=s at *;have HS:=hid hs';have HS0:=hid hs;clear hs hs'
 rcases hix with ⟨h1,h2,h3⟩|⟨k,h1,hk,h2,h3⟩
 ·rw[h1]at ha;have H2:=hid h2;have H3:=hid h3;clear h1 h2 h3
  go_enter Tryz.func203,Tryz.ntmps203
  go_wp2_with fail
  go_region
  go_wp2_with fail;generalize hW:(World.setCell (World.setCell w _ _) _ _).drew=Wm;have hWm:Wm.heap[br]?=some (.cells (rdr l (at_+sub.length+1) sub true en) 253 (0,0))∧Qf br w Wm:=by
   rw[←hW]
   refine⟨?_,(((Qf.refl w br).set _ _).set _ _).drew⟩
   rw[heap_drew,heap_setCell_same _ _ _ _ _ _ (heap_setCell_same _ _ _ _ _ _ HB.out),←HS.out]
   simp[rdr,S]
   omega
  clear hW c0 c1 c2 c3 f0 f1 hne hsz hs1 hss hex
  refine(ha _ (by omega)).mono ?_
  rintro e w1 ⟨rfl,hb1⟩;have hb1':w1.heap[br]?=some (.cells (rdr l (at_+sub.length+1) sub true en) 253 (0,0)):=by rw[hb1.block _ (lt_of_block hWm.1)];exact hWm.1
  have HO:=hid (hWm.2.below hb1);have c0':w1.cell? ⟨br,0,none⟩=some (.string s):=by rw[cell_of_row _ _ _ _ _ _ hb1',←HS.out];rfl
  have f:∀j,w1.frozen? ⟨br,j,none⟩=false:=fun j=>frozen_of_row _ _ _ _ _ hb1'
  have f0:=f 0;have f2:=f 2;have f3:=f 3;have c2':w1.cell? ⟨br,2,none⟩=some (.string ⟨sub.toArray⟩):=cR hb1';have c3':w1.cell? ⟨br,3,none⟩=some (.bool true):=cR hb1';have HB1:=hid hb1';clear f hb1 hb1' ha hWm;go_wp2_with fail
  go_region
  go_wp2_with fail
  go_end0
  refine⟨rfl,?_,?_⟩
  ·rw[heap_drew,heap_setCell_same _ _ _ _ _ _ (heap_setCell_same _ _ _ _ _ _ (heap_setCell_same _ _ _ _ _ _ HB1.out))];rw[H2.out,H3.out,←HS.out]
   simp[rdr,S]
   try rfl
  ·exact(((HO.out.set _ _).set _ _).set _ _).drew
 ·have hks:k≤s.size:=by rw[HL.out];omega
  rw[h1]at ha;have H2:=hid h2;have H3:=hid h3;clear h1 h2 h3
  go_enter Tryz.func203,Tryz.ntmps203
  go_wp2_with fail
  go_region
  go_wp2_with fail;generalize hW:(World.setCell (World.setCell w _ _) _ _).drew=Wm;have hWm:Wm.heap[br]?=some (.cells (rdr l (at_+sub.length+1) sub true en) 253 (0,0))∧Qf br w Wm:=by
   rw[←hW]
   refine⟨?_,(((Qf.refl w br).set _ _).set _ _).drew⟩
   rw[heap_drew,heap_setCell_same _ _ _ _ _ _ (heap_setCell_same _ _ _ _ _ _ HB.out),←HS.out]
   simp[rdr,S]
   omega
  clear hW c0 c1 c2 c3 f0 f1 hne hsz hs1 hss hex
  refine(ha _ (by omega)).mono ?_
  rintro e w1 ⟨rfl,hb1⟩;have hb1':w1.heap[br]?=some (.cells (rdr l (at_+sub.length+1) sub true en) 253 (0,0)):=by rw[hb1.block _ (lt_of_block hWm.1)];exact hWm.1
  have HO:=hid (hWm.2.below hb1);have c0':w1.cell? ⟨br,0,none⟩=some (.string s):=by rw[cell_of_row _ _ _ _ _ _ hb1',←HS.out];rfl
  have f:∀j,w1.frozen? ⟨br,j,none⟩=false:=fun j=>frozen_of_row _ _ _ _ _ hb1'
  have f0:=f 0;have f2:=f 2;have f3:=f 3;have c2':w1.cell? ⟨br,2,none⟩=some (.string ⟨sub.toArray⟩):=cR hb1';have c3':w1.cell? ⟨br,3,none⟩=some (.bool true):=cR hb1';have HB1:=hid hb1';clear f hb1 hb1' ha hWm;go_wp2_with fail
  go_region
  go_wp2_with fail
  go_end0
  refine⟨rfl,?_,?_⟩
  ·rw[heap_drew,heap_setCell_same _ _ _ _ _ _ (heap_setCell_same _ _ _ _ _ _ (heap_setCell_same _ _ _ _ _ _ HB1.out))];rw[H2.out,H3.out,Lib.extract_eq,Lib.extract_eq,←HS.out]
   simp[rdr,S]
   rw[List.take_of_length_le (by rw[Lib.size_eq];simp)]
  ·exact(((HO.out.set _ _).set _ _).set _ _).drew
end
section
open Go.Lib
abbrev Stp:=Str×List (Str×Str)
def Xr (c:UInt8):Bool:=Yt c||c==95
def Zd (c:UInt8):Bool:=Xr c||Gg c||c==45||c==46
def Km (c:UInt8):Bool:=c==91||c==93||c==47||c==61||c==92
def Bz (c:UInt8):Bool:=decide (c.toNat<32)||c.toNat==127
def Zl (p:UInt8→Bool):Str→Bool
 |[]=>false
 |c::_=>p c
def Xx (c:UInt8):Str→Option Str
 |[]=>none
 |d::r=>if d=c then some r else none
def Jh (s:Str):Option (Str×Str) :=
 if Zl Xr s&&decide ((s.takeWhile Zd).length≤64)then some (s.takeWhile Zd,s.dropWhile Zd)else none
def Qw:Bool→Str→Str→Option (Str×Str)
 |_,_,[]=>none
 |true,acc,c::r=>if Km c then Qw false (acc++[c]) r else none
 |false,acc,c::r =>
  if c=92 then Qw true acc r
  else if c=93 then(if acc.length≤64 then some (acc,r)else none)
  else if Bz c||c==91||c==47||c==61 then none
  else Qw false (acc++[c]) r
def Vx (ks:List (Str×Str))(k:Str):Bool :=
 match ks.getLast? with
 |none=>false
 |some p=>decide (k≤p.1)
def Mf (ks:List (Str×Str))(r:Str):Option ((Str×Str)×Str) :=
 match Jh r with
 |none=>none
 |some (k,r1) =>
  if Vx ks k then none else
  match Xx 61 r1 with
  |none=>none
  |some r2 =>
   match Qw false [] r2 with
   |none=>none
   |some (v,r3)=>some ((k,v),r3)
def Mz:Nat→List (Str×Str)→Str→Option (List (Str×Str)×Str)
 |0,ks,s=>some (ks,s)
 |f+1,ks,s =>
  match Xx 91 s with
  |none=>some (ks,s)
  |some r =>
   match Mf ks r with
   |none=>none
   |some (p,r3)=>Mz f (ks++[p]) r3
def Xs (s:Str):Option (Stp×Str) :=
 match Jh s with
 |none=>none
 |some (n,r) =>
  match Mz r.length [] r with
  |none=>none
  |some (ks,r')=>some ((n,ks),r')
def Jn:Nat→List Stp→Str→Option (List Stp)
 |0,_,_=>none
 |f+1,l,s =>
  match Xs s with
  |none=>none
  |some (x,r)=>if r=[]then some (l++[x]) else
   match Xx 47 r with
   |none=>none
   |some r'=>Jn f (l++[x]) r'
def Xky:Nat→Str→Bool
 |0,l=>l.isEmpty
 |f+1,l=>l.isEmpty||(!(decodeL l==(65533,1))&&Xky f (l.drop (decodeL l).2))
def Zq (l:Str):Bool:=Xky l.length l
def Qy (s:Str):Option (List Stp) :=
 if 512<s.length then none else if Zq s=false then none else if s=[]then some []else Jn 64 [] s
def Zv (s:Str):Bool:=(Qy s).isSome
theorem Kh {c:UInt8}{s r:Str} (h:Xx c s=some r):s=c::r := by
  cases s with
  |nil => cases h
  | cons d t => simp only [Xx] at h; split at h
                · next e => cases h;rw[e]
                · cases h
theorem Dj {s n r:Str}(h:Jh s=some (n,r)):s=n++r∧0<n.length∧n.length≤64:=by
 unfold Jh at h
 split at h
 ·next hc =>
  simp only[Bool.and_eq_true,decide_eq_true_eq]at hc
  cases h
  refine⟨(List.takeWhile_append_dropWhile).symm,?_,hc.2⟩
  cases s with
  |nil=>exact absurd hc.1 (by simp[Zl])
  |cons c t =>
   have:Zd c=true:=by have:=hc.1;simp only[Zl]at this;simp[Zd,this]
   simp[List.takeWhile_cons,this]
 ·cases h
theorem Pq:∀(s:Str)(e:Bool)(acc:Str){v r:Str},Qw e acc s=some (v,r)→r.length<s.length∧v.length≤64
 |[],e,acc,v,r,h=>by cases e <;> cases h
 |c::t,true,acc,v,r,h=>by
  simp only[Qw]at h
  split at h
  ·have:=Pq t _ _ h;exact⟨by simp only[List.length_cons];omega,this.2⟩
  ·cases h
 |c::t,false,acc,v,r,h=>by
  simp only[Qw]at h
  split at h
  ·have:=Pq t _ _ h;exact⟨by simp only[List.length_cons];omega,this.2⟩
  ·split at h
   ·split at h
    ·next hl=>cases h;exact⟨by simp,hl⟩
    ·cases h
   ·split at h
    ·cases h
    ·have:=Pq t _ _ h;exact⟨by simp only[List.length_cons];omega,this.2⟩
theorem Qfk {ks:List (Str×Str)}{s r:Str}{p:Str×Str}(h:Mf ks s=some (p,r)):r.length+3≤s.length∧p.1.length≤64∧p.2.length≤64:=by
 unfold Mf at h
 split at h
 ·cases h
 ·next k r1 hn =>
  split at h
  ·cases h
  ·split at h
   ·cases h
   ·next r2 h2 =>
    split at h
    ·cases h
    ·next v r3 hv =>
     cases h
     obtain⟨e1,e2,e3⟩:=Dj hn
     have e4:=Kh h2;have e5:=Pq _ _ _ hv;rw[e1,e4];simp only[List.length_append,List.length_cons]
     exact⟨by omega,e3,e5.2⟩
theorem Qfv:∀(f g:Nat)(ks:List (Str×Str))(s:Str),s.length≤f→s.length≤g→Mz f ks s=Mz g ks s
 |0,0,ks,s,_,_=>rfl
 |0,g+1,ks,s,h,_=>by
  have:s=[]:=List.eq_nil_of_length_eq_zero (by omega)
  subst this;rfl
 |f+1,0,ks,s,_,h=>by
  have:s=[]:=List.eq_nil_of_length_eq_zero (by omega)
  subst this;rfl
 |f+1,g+1,ks,s,hf,hg=>by
  simp only[Mz]
  split
  ·rfl
  ·next r1 h1 =>
   split
   ·rfl
   ·next p r3 h3 =>
    have e1:=Kh h1;have e2:=(Qfk h3).1;rw[e1]at hf hg;simp only[List.length_cons]at hf hg;exact Qfv f g _ _ (by omega) (by omega)
theorem Zzj:∀(f g:Nat)(l:Str),l.length≤f→l.length≤g→Xky f l=Xky g l
 |0,0,l,_,_=>rfl
 |0,g+1,l,h,_=>by
  have:l=[]:=List.eq_nil_of_length_eq_zero (by omega)
  subst this;rfl
 |f+1,0,l,_,h=>by
  have:l=[]:=List.eq_nil_of_length_eq_zero (by omega)
  subst this;rfl
 |f+1,g+1,l,hf,hg=>by
  simp only[Xky]
  cases l with
  |nil=>rfl
  |cons c t =>
   have h1:1≤(decodeL (c::t)).2:=by
    rw[decodeL_N];unfold decodeN
    repeat' split
    all_goals simp
   rw[Zzj f g ((c::t).drop (decodeL (c::t)).2) (by simp only[List.length_drop,List.length_cons]at hf ⊢;omega) (by simp only[List.length_drop,List.length_cons]at hg ⊢;omega)]
structure Rune (l:Str)(r k:Nat):Prop where
 dec:decodeL l=(r,k)
 pos:1≤k
 le:k≤4
theorem Rl (l:Str):Rune l (decodeL l).1 (decodeL l).2:=by
 refine⟨rfl,?_,?_⟩
 all_goals
  rw[decodeL_N];unfold decodeN
  repeat' split
  all_goals simp
theorem Yj {l:Str}(hl:l≠[]):Zq l=(!(decodeL l==(65533,1))&&Zq (l.drop (decodeL l).2)):=by
 cases l with
 |nil=>exact absurd rfl hl
 |cons c t =>
  have h1:=(Rl (c::t)).pos;show Xky (t.length+1) (c::t)=_;simp only[Xky,List.isEmpty_cons,Bool.false_or];rw[Zzj t.length ((c::t).drop (decodeL (c::t)).2).length _ (by simp only[List.length_drop,List.length_cons];omega) (Nat.le_refl _)]
  rfl
end
end Go.Proofs.YtbbmdbolkicpcabGreatDoor
