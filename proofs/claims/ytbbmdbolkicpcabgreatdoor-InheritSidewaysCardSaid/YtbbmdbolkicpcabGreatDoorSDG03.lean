/- Frame, Wrong, Kinds, Keys, Vars, Parse -/
import Derived.Test.YtbbmdbolkicpcabGreatDoorSDG02
import Derived.Test.YtbbmdbolkicpcabGreatDoorSDG01
set_option maxRecDepth 100000
set_option maxHeartbeats 32000000
set_option linter.unusedVariables false
set_option linter.unusedSimpArgs false
namespace Go.Proofs.YtbbmdbolkicpcabGreatDoor
section
open Go.RowKit Go.Lib Go.Sort
theorem list_lit (n:Nat)(l:List Value)(h:l.length=n):l=(List.range n).map fun i=>l.getD i undef:=by
 apply List.ext_getElem?
 intro i
 by_cases hi:i<n
 ·simp[hi,h]
 ·rw[List.getElem?_eq_none (by omega),List.getElem?_eq_none (by simp;omega)]
theorem frame_lit (t:Array Value)(h:t.size=213):∃u:Nat→Value,(∀i,t.getD i undef=u i)∧t=#[u 0,u 1,u 2,u 3,u 4,u 5,u 6,u 7,u 8,u 9,u 10,u 11,u 12,u 13,u 14,u 15,u 16,u 17,u 18,u 19,u 20,u 21,u 22,u 23,u 24,u 25,u 26,u 27,u 28,u 29,u 30,u 31,u 32,u 33,u 34,u 35,u 36,u 37,u 38,u 39,u 40,u 41,u 42,u 43,u 44,u 45,u 46,u 47,u 48,u 49,u 50,u 51,u 52,u 53,u 54,u 55,u 56,u 57,u 58,u 59,u 60,u 61,u 62,u 63,u 64,u 65,u 66,u 67,u 68,u 69,u 70,u 71,u 72,u 73,u 74,u 75,u 76,u 77,u 78,u 79,u 80,u 81,u 82,u 83,u 84,u 85,u 86,u 87,u 88,u 89,u 90,u 91,u 92,u 93,u 94,u 95,u 96,u 97,u 98,u 99,u 100,u 101,u 102,u 103,u 104,u 105,u 106,u 107,u 108,u 109,u 110,u 111,u 112,u 113,u 114,u 115,u 116,u 117,u 118,u 119,u 120,u 121,u 122,u 123,u 124,u 125,u 126,u 127,u 128,u 129,u 130,u 131,u 132,u 133,u 134,u 135,u 136,u 137,u 138,u 139,u 140,u 141,u 142,u 143,u 144,u 145,u 146,u 147,u 148,u 149,u 150,u 151,u 152,u 153,u 154,u 155,u 156,u 157,u 158,u 159,u 160,u 161,u 162,u 163,u 164,u 165,u 166,u 167,u 168,u 169,u 170,u 171,u 172,u 173,u 174,u 175,u 176,u 177,u 178,u 179,u 180,u 181,u 182,u 183,u 184,u 185,u 186,u 187,u 188,u 189,u 190,u 191,u 192,u 193,u 194,u 195,u 196,u 197,u 198,u 199,u 200,u 201,u 202,u 203,u 204,u 205,u 206,u 207,u 208,u 209,u 210,u 211,u 212]:=by
 refine⟨fun i=>t.getD i undef,fun _=>rfl,?_⟩
 have e:=list_lit 213 t.toList (by simpa using h);have e2:t=⟨(List.range 213).map fun i=>t.toList.getD i undef⟩:=by
  rw[←e]
 have e3:∀i,t.toList.getD i undef=t.getD i undef:=fun i=>by simp[Array.getD_eq_getD_getElem?]
 simp only[e3]at e2;exact e2
structure Fr (s:ByteArray)(B Bp:Nat)(a:Act):Prop where
 d:a.defers=[]
 n:a.tmps.size=213
 s0:a.tmps.getD 0 undef=.string s
 s2:a.tmps.getD 2 undef=.pointer (some ⟨B,0,none⟩)
 s3:a.tmps.getD 3 undef=.pointer (some ⟨B+1,0,none⟩)
 s4:a.tmps.getD 4 undef=.pointer (some ⟨B+2,0,none⟩)
 s5:a.tmps.getD 5 undef=.pointer (some ⟨Bp,0,none⟩)
 s6:a.tmps.getD 6 undef=.func (.func 202) #[] #[.pointer (some ⟨Bp,0,none⟩)]
theorem Fr.lit {s:ByteArray}{B Bp:Nat}{a:Act}(h:Fr s B Bp a):∃u:Nat→Value,a={ tmps:=#[.string s,u 1,.pointer (some ⟨B,0,none⟩),.pointer (some ⟨B+1,0,none⟩),.pointer (some ⟨B+2,0,none⟩),.pointer (some ⟨Bp,0,none⟩),.func (.func 202) #[] #[.pointer (some ⟨Bp,0,none⟩)],u 7,u 8,u 9,u 10,u 11,u 12,u 13,u 14,u 15,u 16,u 17,u 18,u 19,u 20,u 21,u 22,u 23,u 24,u 25,u 26,u 27,u 28,u 29,u 30,u 31,u 32,u 33,u 34,u 35,u 36,u 37,u 38,u 39,u 40,u 41,u 42,u 43,u 44,u 45,u 46,u 47,u 48,u 49,u 50,u 51,u 52,u 53,u 54,u 55,u 56,u 57,u 58,u 59,u 60,u 61,u 62,u 63,u 64,u 65,u 66,u 67,u 68,u 69,u 70,u 71,u 72,u 73,u 74,u 75,u 76,u 77,u 78,u 79,u 80,u 81,u 82,u 83,u 84,u 85,u 86,u 87,u 88,u 89,u 90,u 91,u 92,u 93,u 94,u 95,u 96,u 97,u 98,u 99,u 100,u 101,u 102,u 103,u 104,u 105,u 106,u 107,u 108,u 109,u 110,u 111,u 112,u 113,u 114,u 115,u 116,u 117,u 118,u 119,u 120,u 121,u 122,u 123,u 124,u 125,u 126,u 127,u 128,u 129,u 130,u 131,u 132,u 133,u 134,u 135,u 136,u 137,u 138,u 139,u 140,u 141,u 142,u 143,u 144,u 145,u 146,u 147,u 148,u 149,u 150,u 151,u 152,u 153,u 154,u 155,u 156,u 157,u 158,u 159,u 160,u 161,u 162,u 163,u 164,u 165,u 166,u 167,u 168,u 169,u 170,u 171,u 172,u 173,u 174,u 175,u 176,u 177,u 178,u 179,u 180,u 181,u 182,u 183,u 184,u 185,u 186,u 187,u 188,u 189,u 190,u 191,u 192,u 193,u 194,u 195,u 196,u 197,u 198,u 199,u 200,u 201,u 202,u 203,u 204,u 205,u 206,u 207,u 208,u 209,u 210,u 211,u 212],defers:=[] }:=by
 obtain⟨t,d⟩:=a
 obtain⟨hd,hn,h0,h2,h3,h4,h5,h6⟩:=h
 simp only at hd hn h0 h2 h3 h4 h5 h6
 obtain⟨u,hu,e⟩:=frame_lit t hn
 rw[hu]at h0 h2 h3 h4 h5 h6
 refine⟨u,?_⟩
 rw[h0,h2,h3,h4,h5,h6]at e;rw[e,hd]
end
section
open Go.RowKit Go.Lib Go.Sort
theorem Gz (e:Int)(bp br:Nat)(pos:Nat)(w:World)(hp:w.cell? ⟨bp,0,none⟩=some (.pointer (some ⟨br,0,none⟩)))(hr:w.cell? ⟨br,1,none⟩=some (.int .i64 pos)) :
  Calls Tryz.prog 202 #[.int .i64 e,.pointer (some ⟨bp,0,none⟩)] w fun en w'=>en=.returned (.tuple #[.agg #[.string ⟨#[]⟩,.string ⟨#[]⟩,.string ⟨#[]⟩,.slice none 0 0,.slice none 0 0],.agg #[.int .i64 e,.int .i64 pos]])∧Below w.heap.size w w':=by
 have b1:=World.block_lt_of_cell? w _ hp;have b2:=World.block_lt_of_cell? w _ hr
 go_enter Tryz.func202,Tryz.ntmps202
 go_wp2
 go_region
 go_wp2
 exact bodyPost_ret (v:=.tuple #[.agg #[.string ⟨#[]⟩,.string ⟨#[]⟩,.string ⟨#[]⟩,.slice none 0 0,.slice none 0 0],.agg #[.int .i64 e,.int .i64 pos]]) (by simp[results,Tryz.results202,go_sem]) rfl ⟨rfl,((bal _ _).alloc (by simp) _).drew⟩
def Qlz (w:World)(B:Nat)(x:Res)(vv kv:Value):World :=
 ((((((w.setCell ⟨B,0,none⟩ (S x.tag.lang)).setCell ⟨B,1,none⟩ (S x.tag.script)).setCell ⟨B,2,none⟩ (S x.tag.region)).setCell ⟨B,3,none⟩ vv).setCell ⟨B,4,none⟩ kv).setCell ⟨B+1,0,none⟩ (.int .i64 x.err)).setCell ⟨B+1,1,none⟩ (.int .i64 x.pos)
theorem Qb {w:World}{base:Nat}{e:TypeId}{size:Nat}{v:Value}{n:Nat}{xs:List Value}(h:w.ownsRow base e size v n xs){b:Nat}(hb:v.ownBlock≠some b)(i:Nat)(u:Value):(w.setCell ⟨b,i,none⟩ u).ownsRow base e size v n xs :=
 ownsRow_setCell_other h hb u
theorem Qbj {B:Nat}{w0 w:World}(st_bel:Below B w0 w)(st_h0:w.heap[B]?=some (.cells (Qv Tg.zero Xw Xw) 160 (0,0)))(st_h1:w.heap[B+1]?=some (.cells #[.int .i64 0,.int .i64 0] 78 (0,0)))(x:Res)(vv' kv':Value){a:Act}{Jx:Nat→Act→World→Prop}(hd:a.defers=[])
  (h2:a.tmps.getD 2 undef=.pointer (some ⟨B,0,none⟩))(h3:a.tmps.getD 3 undef=.pointer (some ⟨B+1,0,none⟩))(os:Qt w B vv' x.tag.vars)(op:Qd w B kv' x.tag.keys) :
  Exit.jumps Jx (bodyPost Tryz.prog Tryz.f155 (Qbz B w0 x)) Exit.ret a (Qlz w B x vv' kv'):=by
 have n1:vv'.ownBlock≠some B:=Qx os st_h0 (by decide);have n2:kv'.ownBlock≠some B:=Qx op st_h0 (by decide);have n3:vv'.ownBlock≠some (B+1):=Qx os st_h1 (by decide);have n4:kv'.ownBlock≠some (B+1):=Qx op st_h1 (by decide);have hB:(Qlz w B x vv' kv').heap[B]?=some (.cells (Qv x.tag vv' kv') 160 (0,0)):=by
  unfold Qlz;rw[heap_setCell_other _ _ _ _ (by simp),heap_setCell_other _ _ _ _ (by simp),heap_setCell_same _ _ _ _ _ _ (heap_setCell_same _ _ _ _ _ _ (heap_setCell_same _ _ _ _ _ _ (heap_setCell_same _ _ _ _ _ _ (heap_setCell_same _ _ _ _ _ _ st_h0))))]
  simp[Qv]
 have hS:(Qlz w B x vv' kv').heap[B+1]?=some (.cells #[.int .i64 x.err,.int .i64 x.pos] 78 (0,0)):=by
  unfold Qlz;rw[heap_setCell_same _ _ _ _ _ _ (heap_setCell_same _ _ _ _ _ _ (by
   rw[heap_setCell_other _ _ _ _ (by simp),heap_setCell_other _ _ _ _ (by simp),heap_setCell_other _ _ _ _ (by simp),heap_setCell_other _ _ _ _ (by simp),heap_setCell_other _ _ _ _ (by simp)];exact st_h1))]
  simp
 have os':Qt (Qlz w B x vv' kv') B vv' x.tag.vars:=Qb (Qb (Qb (Qb (Qb (Qb (Qb os n1 _ _) n1 _ _) n1 _ _) n1 _ _) n1 _ _) n3 _ _) n3 _ _;have op':Qd (Qlz w B x vv' kv') B kv' x.tag.keys:=Qb (Qb (Qb (Qb (Qb (Qb (Qb op n2 _ _) n2 _ _) n2 _ _) n2 _ _) n2 _ _) n4 _ _) n4 _ _;have bel:Below B w0 (Qlz w B x vv' kv'):=((((((st_bel.setCell (by simp) _).setCell (by simp) _).setCell (by simp) _).setCell (by simp) _).setCell (by simp) _).setCell (by simp) _).setCell (by simp) _;generalize Qlz w B x vv' kv'=W at *;have c0:W.cell? ⟨B,0,none⟩=some (S x.tag.lang):=cR hB;have c1:W.cell? ⟨B,1,none⟩=some (S x.tag.script):=cR hB;have c2:W.cell? ⟨B,2,none⟩=some (S x.tag.region):=cR hB;have c3:W.cell? ⟨B,3,none⟩=some vv':=cR hB;have c4:W.cell? ⟨B,4,none⟩=some kv':=cR hB;have e0:W.cell? ⟨B+1,0,none⟩=some (.int .i64 x.err):=cR hS;have e1:W.cell? ⟨B+1,1,none⟩=some (.int .i64 x.pos):=cR hS;simp only[Exit.jumps];refine bodyPost_ret (v:=.tuple #[.agg (Qv x.tag vv' kv'),.agg #[.int .i64 x.err,.int .i64 x.pos]]) ?_ hd ⟨vv',kv',rfl,os',op',bel⟩
 obtain⟨tmps,defers⟩:=a
 simp only[Array.getD_eq_getD_getElem?]at h2 h3
 simp[results,Tryz.results155,go_sem,h2,h3,c0,c1,c2,c3,c4,e0,e1,Qv]
theorem Ht {B Br Bp:Nat}{w0 w:World}{vv kv:Value}{t:Tg}{r:Rd}(st:St B Br Bp w0 w vv kv t r)(x:Res)(vv' kv':Value){a:Act}{Jx:Nat→Act→World→Prop}(hd:a.defers=[])
  (h2:a.tmps.getD 2 undef=.pointer (some ⟨B,0,none⟩))(h3:a.tmps.getD 3 undef=.pointer (some ⟨B+1,0,none⟩))(os:Qt w B vv' x.tag.vars)(op:Qd w B kv' x.tag.keys) :
  Exit.jumps Jx (bodyPost Tryz.prog Tryz.f155 (Qbz B w0 x)) Exit.ret a (Qlz w B x vv' kv') :=
 Qbj st.bel st.h0 st.h1 x vv' kv' hd h2 h3 os op
end
section
open Go.RowKit
theorem Qvy (s:ByteArray)(n:Nat)(w:World)(hs:s.size≤1000)(hn:n≤1000) :
  Calls Tryz.prog 252 #[.string s,.int .i64 n] w fun e w'=>e=.returned (.bool (Vy s.data.toList n))∧w'=w:=by
 have h:=Ct s w hs;generalize hb:Yh Yt s.data.toList=b at *;have HB:=hid hb;clear hb
 by_cases hq:s.size=n
 ·have hq':((s.size:Int)==(n:Int))=true:=by simp[hq]
  have HQ:=hid hq;clear hq
  go_enter Tryz.func252,Tryz.ntmps252
  go_wp2_with (go_at_call 251;refine h.mono ?_;rintro e w' ⟨rfl,rfl⟩)
  all_goals go_ret
  all_goals exact⟨Qc (by simp[Vy,HB.out,HQ.out]),rfl⟩
 ·have hq':((s.size:Int)==(n:Int))=false:=by simp;omega
  have HQ:=hid hq;clear hq
  go_enter Tryz.func252,Tryz.ntmps252
  go_wp2_with (go_at_call 251;refine h.mono ?_;rintro e w' ⟨rfl,rfl⟩)
  all_goals go_ret
  all_goals exact⟨Qc (by simp[Vy,HQ.out]),rfl⟩
theorem Sj (s:ByteArray)(w:World)(hs:s.size≤1000) :
  Calls Tryz.prog 204 #[.string s] w fun e w'=>e=.returned (.bool (Vw s.data.toList))∧w'=w:=by
 have h:=Ct s w hs;have hl:s.data.toList.length=s.size:=by simp
 generalize hb:Yh Yt s.data.toList=b at *;have HB:=hid hb;have HL:=hid hl;clear hb hl
 go_enter Tryz.func204,Tryz.ntmps204
 go_wp2_with (go_at_call 251;refine h.mono ?_;rintro e w' ⟨rfl,rfl⟩)
 all_goals go_ret
 all_goals refine⟨Qc ?_,rfl⟩
 all_goals unfold Vw
 all_goals rw[HB.out,HL.out]
 all_goals simp only[*,Bool.true_and,Bool.false_and]
 all_goals rw[Bool.eq_iff_iff]
 all_goals simp
 all_goals omega
theorem Zfz (s:ByteArray)(w:World)(hs:s.size≤1000) :
  Calls Tryz.prog 205 #[.string s] w fun e w'=>e=.returned (.bool (Xq s.data.toList))∧w'=w:=by
 have h:=Qvy s 4 w hs (by omega);unfold Xq;generalize Vy s.data.toList 4=b at *
 go_enter Tryz.func205,Tryz.ntmps205
 go_wp2_with (go_at_call 252;refine h.mono ?_;rintro e w' ⟨rfl,rfl⟩)
 go_ret
 exact⟨rfl,rfl⟩
theorem Zfx (s:ByteArray)(w:World)(hs:s.size≤1000) :
  Calls Tryz.prog 207 #[.string s] w fun e w'=>e=.returned (.bool (Xz s.data.toList))∧w'=w:=by
 have h:=Qvy s 2 w hs (by omega);have h2:=Wz s w hs;have hl:s.data.toList.length=s.size:=by simp
 generalize hb:Vy s.data.toList 2=b at *;generalize hd:Yh Gg s.data.toList=d at *;have HB:=hid hb;have HD:=hid hd;have HL:=hid hl;clear hb hl hd
 go_enter Tryz.func207,Tryz.ntmps207
 go_wp2_with (first|(go_at_call 252;refine h.mono ?_;rintro e w' ⟨rfl,rfl⟩)|(go_at_call 253;refine h2.mono ?_;rintro e w' ⟨rfl,rfl⟩))
 all_goals go_ret
 all_goals refine⟨Qc ?_,rfl⟩
 all_goals unfold Xz
 all_goals rw[HB.out,HL.out,HD.out]
 all_goals simp only[*,Bool.true_or,Bool.false_or]
 all_goals try rw[Bool.eq_iff_iff]
 all_goals simp
 all_goals try omega
theorem Qvh (s:ByteArray)(k:Nat)(h:k<s.size):(s.extract k (k+1)).data.toList=[s[k]]:=by
 rw[Lib.extract_data,Nat.add_sub_cancel_left];have hk:k<s.data.toList.length:=by simpa using h
 rw[List.drop_eq_getElem_cons hk]
 rfl
theorem Nz (s:ByteArray)(k:Nat)(h:k<s.size):(s.extract k (k+1)).size=1:=by
 rw[Lib.size_eq,Qvh s k h];rfl
def mixC (c:UInt8):Bool:=Yt c||Gg c
theorem Zzy {s:ByteArray}{lo hi:Nat}(h:¬(lo≤s.size∧s.size≤hi)):Jp s.data.toList lo hi=false:=by
 have hl:s.data.toList.length=s.size:=by simp
 unfold Jp;rw[hl]
 by_cases h1:lo≤s.size
 ·have h2:¬s.size≤hi:=fun x=>h ⟨h1,x⟩
  simp[h2]
 ·simp[h1]
theorem mixed_yes {s:ByteArray}{lo hi k:Nat}(h1:lo≤s.size)(h2:s.size≤hi)(hk:¬k<s.size)(ha:(s.data.toList.take k).all mixC=true):Jp s.data.toList lo hi=true:=by
 have hl:s.data.toList.length=s.size:=by simp
 rw[List.take_of_length_le (by omega)]at ha;unfold Jp;rw[hl];simp only[h1,h2,decide_true,Bool.true_and];exact ha
theorem mixed_no {s:ByteArray}{lo hi k:Nat}(h:k<s.size)(ha:mixC s[k]=false):Jp s.data.toList lo hi=false:=by
 have hm:s[k]∈s.data.toList:=by
  have:s[k]=s.data.toList[k]'(by simpa using h):=rfl
  rw[this];exact List.getElem_mem _
 have:(s.data.toList.all fun c=>Yt c||Gg c)=false:=List.all_eq_false.2 ⟨_,hm,by have:=ha;simp[mixC]at this;simp[this]⟩
 unfold Jp;rw[this]
 simp
theorem Tn (s:ByteArray)(lo hi:Nat)(w:World)(hs:s.size≤1000)(hlo:lo≤1000)(hhi:hi≤1000) :
  Calls Tryz.prog 254 #[.string s,.int .i64 lo,.int .i64 hi] w fun e w'=>e=.returned (.bool (Jp s.data.toList lo hi))∧w'=w:=by
 by_cases h1:lo≤s.size
 ·by_cases h2:s.size≤hi
  ·have hd1:decide (s.size<lo)=false:=by simp;omega
   have hd2:decide (hi<s.size)=false:=by simp;omega
   go_enter Tryz.func254,Tryz.ntmps254
   go_wp2
   go_loop[7] (fun i=>∃k:Nat,k≤s.size∧i=.int .i64 k∧(s.data.toList.take k).all mixC=true) (fun i=>s.size-(intOf i).toNat)
   case atStart=>exact⟨0,Nat.zero_le _,rfl,by simp⟩
   case round =>
    obtain⟨k,hk,rfl,hall⟩:=hrel
    have HA:=hid hall;clear hall
    by_cases hlt:k<s.size
    ·have HS:=hid (Hs mixC s k hlt);have h3:=Ct (s.extract k (k+1)) w (by rw[Nz s k hlt];omega);have h4:=Wz (s.extract k (k+1)) w (by rw[Nz s k hlt];omega);rw[Qvh s k hlt,allB_one]at h3 h4;have HM:Hid (mixC s[k]=(Yt s[k]||Gg s[k])):=rfl;have HN:=hid (fun x=>mixed_no (lo:=lo) (hi:=hi) hlt x);generalize Yt s[k]=b1 at *;generalize Gg s[k]=b2 at *
     go_wp2_with (first|(go_at_call 251;refine h3.mono ?_;rintro e w' ⟨rfl,rfl⟩)|(go_at_call 253;refine h4.mono ?_;rintro e w' ⟨rfl,rfl⟩))
     ·have e1:b1=true:=by assumption
      go_round
      case rel=>exact⟨k+1,by omega,by go_num,by rw[HS.out,HA.out,HM.out,e1];rfl⟩
      case measure=>simp[intOf];omega
     ·have e1:¬b1=true:=by assumption
      have e2:(!b2)=true:=by assumption
      go_ret
      exact⟨Qc (HN.out (by rw[HM.out];simp at e1 e2;simp[e1,e2])).symm,rfl⟩
     ·have e2:(!b2)=false:=by assumption
      go_round
      case rel=>exact⟨k+1,by omega,by go_num,by rw[HS.out,HA.out,HM.out];simp at e2;simp[e2]⟩
      case measure=>simp[intOf];omega
    ·go_wp2
     go_ret
     exact⟨Qc (mixed_yes h1 h2 hlt HA.out).symm,rfl⟩
  ·have hm:=hid (Zzy (s:=s) (lo:=lo) (hi:=hi) (fun x=>h2 x.2))
   go_enter Tryz.func254,Tryz.ntmps254
   go_wp2
   go_ret
   exact⟨Qc hm.out.symm,rfl⟩
 ·have hm:=hid (Zzy (s:=s) (lo:=lo) (hi:=hi) (fun x=>h1 x.1))
  go_enter Tryz.func254,Tryz.ntmps254
  go_wp2
  go_ret
  exact⟨Qc hm.out.symm,rfl⟩
theorem Xkg (s:ByteArray)(w:World)(hs:s.size≤1000) :
  Calls Tryz.prog 213 #[.string s] w fun e w'=>e=.returned (.bool (Xj s.data.toList))∧w'=w:=by
 have h:=Tn s 3 8 w hs (by omega) (by omega);unfold Xj;generalize Jp s.data.toList 3 8=b at *
 go_enter Tryz.func213,Tryz.ntmps213
 go_wp2_with (go_at_call 254;refine h.mono ?_;rintro e w' ⟨rfl,rfl⟩)
 go_ret
 exact⟨rfl,rfl⟩
theorem Zzh {l:List UInt8}{lo hi:Nat}(h:Jp l lo hi=true):lo≤l.length∧l.length≤hi:=by
 simp only[Jp,Bool.and_eq_true,decide_eq_true_eq]at h
 exact⟨h.1,h.2.1⟩
theorem Zzg (s:ByteArray)(w:World)(hs:s.size≤1000) :
  Calls Tryz.prog 211 #[.string s] w fun e w'=>e=.returned (.bool (Jt s.data.toList))∧w'=w:=by
 have h:=Tn s 2 2 w hs (by omega) (by omega)
 cases hb:Jp s.data.toList 2 2
 ·have hk:Jt s.data.toList=false:=by simp[Jt,hb]
  rw[hb]at h;rw[hk];clear hk hb
  go_enter Tryz.func211,Tryz.ntmps211
  go_wp2_with (go_at_call 254;refine h.mono ?_;rintro e w' ⟨rfl,rfl⟩)
  go_ret
  exact⟨rfl,rfl⟩
 ·have hl:s.size=2:=by have:=Zzh hb;rw[←Lib.size_eq]at this;omega
  have hk:Jt s.data.toList=Yh Yt (s.data.toList.drop 1):=by simp[Jt,hb]
  have h1:1≤s.size:=by omega
  have h2:=Ct (s.extract 1 s.size) w (by rw[Lib.size_eq,Lib.extract_data];simp;omega);rw[hb]at h;rw[hk];have e1:(s.extract 1 s.size).data.toList=s.data.toList.drop 1:=by
   rw[Lib.extract_data,List.take_of_length_le];simp
  rw[e1]at h2;generalize Yh Yt (s.data.toList.drop 1)=b at *;clear hk hb hl e1
  go_enter Tryz.func211,Tryz.ntmps211
  go_wp2_with (first|(go_at_call 254;refine h.mono ?_;rintro e w' ⟨rfl,rfl⟩)|(go_at_call 251;refine h2.mono ?_;rintro e w' ⟨rfl,rfl⟩))
  go_ret
  exact⟨rfl,rfl⟩
theorem Qlx (s:ByteArray)(w:World)(hs:s.size≤1000) :
  Calls Tryz.prog 209 #[.string s] w fun e w'=>e=.returned (.bool (Zh s.data.toList))∧w'=w:=by
 have h:=Tn s 5 8 w hs (by omega) (by omega);have h':=Tn s 4 4 w hs (by omega) (by omega)
 cases hb:Jp s.data.toList 5 8
 ·cases hc:Jp s.data.toList 4 4
  ·have hk:Zh s.data.toList=false:=by simp[Zh,hb,hc]
   rw[hb]at h;rw[hc]at h';rw[hk];clear hk hb hc
   go_enter Tryz.func209,Tryz.ntmps209
   go_wp2_with fail;refine h.mono ?_;rintro e w' ⟨rfl,rfl⟩;go_wp2_with fail;refine h'.mono ?_;rintro e w' ⟨rfl,rfl⟩;go_wp2_with fail
   go_ret
   exact⟨rfl,rfl⟩
  ·have hl:s.size=4:=by have:=Zzh hc;rw[←Lib.size_eq]at this;omega
   have hk:Zh s.data.toList=Yh Gg (s.data.toList.take 1):=by simp[Zh,hb,hc]
   have h1:1≤s.size:=by omega
   have h2:=Wz (s.extract 0 1) w (by rw[Lib.size_eq,Lib.extract_data];simp;omega);rw[hb]at h;rw[hc]at h';rw[hk];have e1:(s.extract 0 1).data.toList=s.data.toList.take 1:=by
    rw[Lib.extract_data];simp
   rw[e1]at h2;generalize Yh Gg (s.data.toList.take 1)=b at *;clear hk hb hc hl e1
   go_enter Tryz.func209,Tryz.ntmps209
   go_wp2_with fail;refine h.mono ?_;rintro e w' ⟨rfl,rfl⟩;go_wp2_with fail;refine h'.mono ?_;rintro e w' ⟨rfl,rfl⟩;go_wp2_with fail;refine h2.mono ?_;rintro e w' ⟨rfl,rfl⟩;go_wp2_with fail
   go_ret
   exact⟨rfl,rfl⟩
 ·have hk:Zh s.data.toList=true:=by simp[Zh,hb]
  rw[hb]at h;rw[hk];clear hk hb h'
  go_enter Tryz.func209,Tryz.ntmps209
  go_wp2_with fail;refine h.mono ?_;rintro e w' ⟨rfl,rfl⟩;go_wp2_with fail
  go_ret
  exact⟨rfl,rfl⟩
end
section
open Go.RowKit Go.Lib Go.Sort
def J (s:ByteArray)(B Bp:Nat)(w0:World)(goal:Res):Nat→Nat→Act→World→Prop
 |0,n,a,w=>Fr s B Bp a∧∃Br vv t r,St B Br Bp w0 w vv Xw t r∧t.keys=[]∧t.vars.length≤8∧n=109-t.vars.length∧r.all≤128∧goal=Cl (9-t.vars.length) t r
 |1,n,a,w=>Fr s B Bp a∧∃Br vv kv t r,St B Br Bp w0 w vv kv t r∧t.keys.length≤16∧n=17-t.keys.length∧(t.keys.map (·.1)).Nodup∧(t.keys=[]→Jt r.sub=true)∧r.all≤128∧goal=Cj (17-t.keys.length) t r
 |_,_,_,_=>False
def bodyOf (f:Func)(l:Nat):Option Code:=f.body.bind fun c=>match c with | .seq _ (.scope c)=>findLabel c l|_=>none
theorem Zpg (s:ByteArray)(B Bp:Nat)(w0:World)(goal:Res):∃rest,bodyOf Tryz.f155 1=some (.seq .skip rest)∧∀n a w,J s B Bp w0 goal 1 n a w→∀Jx:Nat→Act→World→Prop,(∀n' a' w',n'<n→J s B Bp w0 goal 1 n' a' w'→Jx 1 a' w') →
  rest.wp Tryz.prog (Exit.jumps Jx (bodyPost Tryz.prog Tryz.f155 (Qbz B w0 goal))) a w:=by
 refine⟨_,rfl,?_⟩
 intro n a w hJ Jx hJx
 obtain⟨hfr,Br,vv,kv,t,r,st,hk,hn,hnd,hke,hall,hg⟩:=hJ
 obtain⟨u,rfl⟩:=hfr.lit
 obtain⟨av,cv,rfl⟩:=Zc st.os
 obtain⟨ak,ck,rfl⟩:=Zx st.op
 have HN:=hid hn;have HG:=hid hg;have HD:=hid hnd;have HX:=hid hJx;have HE:=hid hke;clear hke hn hg hnd hJx hfr;have cp:=st.cp;have cr2:=st.cr2;have cr4:=st.cr4;have ct4:=st.ct4;have hsub:r.sub.length≤128:=by have:=hall;unfold Rd.all at this;omega
 have hsz:(⟨r.sub.toArray⟩:ByteArray).size≤1000:=by rw[Lib.size_eq];show r.sub.length≤1000;omega
 have hik:=Zzg ⟨r.sub.toArray⟩;change ∀w:World,_→Calls _ _ _ _ fun e w'=>e=.returned (.bool (Jt r.sub))∧_ at hik
 have e17:17-t.keys.length=(16-t.keys.length)+1:=by omega
 cases hq:Jt r.sub
 ·rw[hq]at hik;have hg2:goal=if r.fin then⟨{ t with keys:=Ky t.keys },0,0⟩else bad 180 r:=by
   rw[HG.out,e17,Cj,hq];rfl
  have HG2:=hid hg2;have HQ:=hid hq;clear hg2 hq e17
  cases hf:r.fin
  ·rw[hf]at cr4;have HF:=hid hf;have cr1:=st.cr1;clear hf;go_wp2_with fail
   refine(hik _ hsz).mono ?_
   rintro e w1 ⟨rfl,rfl⟩;go_wp2_with fail
   refine(Gz 180 Bp Br r.pos _ cp cr1).mono ?_
   rintro e w2 ⟨rfl,hb⟩;have st2:=st.below hb
   have z0 := st2.z0
   have z1 := st2.z1
   have z2 := st2.z2
   have z3 := st2.z3
   have z4 := st2.z4
   have fz0 := st2.fz 0
   have fz1 := st2.fz 1
   have fz2 := st2.fz 2
   have fz3 := st2.fz 3
   have fz4 := st2.fz 4
   have y0 := st2.y0
   have y1 := st2.y1
   have fy0 := st2.fy 0
   have fy1 := st2.fy 1
   clear cp cr1 cr2 cr4 ct4 hik hall;go_wp2_with fail;rw[HG2.out,HF.out];exact Ht st2 (bad 180 r) Xw Xw rfl rfl rfl (World.ownsRow_nil _ _ _ _) (World.ownsRow_nil _ _ _ _)
  ·rw[hf]at cr4;have HF:=hid hf;clear hf;go_wp2_with fail
   refine(hik _ hsz).mono ?_
   rintro e w1 ⟨rfl,rfl⟩;go_wp2_with fail
   refine(Qlq _ B _ t.keys st.op (by omega) (fun e=>by have:=HE.out e;rw[HQ.out]at this;cases this)).mono ?_
   rintro e w2 ⟨rfl,⟨l',hp1,hp2,op2⟩,hgr⟩;have hl':l'=Ky t.keys:=Rt _ _ hp1 HD.out hp2;have st2:=st.sortP op2 hgr;rw[hl']at st2;clear hl' hp1 hp2 op2 hgr cp cr2 cr4 ct4 hik hall
   have z0 := st2.z0
   have z1 := st2.z1
   have z2 := st2.z2
   have z3 := st2.z3
   have z4 := st2.z4
   have fz0 := st2.fz 0
   have fz1 := st2.fz 1
   have fz2 := st2.fz 2
   have fz3 := st2.fz 3
   have fz4 := st2.fz 4
   have y0 := st2.y0
   have y1 := st2.y1
   have fy0 := st2.fy 0
   have fy1 := st2.fy 1
   have ct0:=st2.ct0;have ct1:=st2.ct1;have ct2:=st2.ct2;have ct3:=st2.ct3;have ct4:=st2.ct4;go_wp2_with fail;rw[HG2.out,HF.out];exact Ht st2 ⟨{ t with keys:=Ky t.keys },0,0⟩ _ _ rfl rfl rfl st2.os st2.op
 ·rw[hq]at hik
  obtain⟨key,hkey⟩:∃k,k=lower r.sub:=⟨_,rfl⟩
  have hlo:=Hw ⟨r.sub.toArray⟩;change ∀w:World,_→Calls _ _ _ _ fun e w'=>e=.returned (.string ⟨(lower r.sub).toArray⟩)∧_ at hlo
  rw[←hkey]at hlo;have hg2:goal=if t.keys.any (fun p=>p.1==key)then bad 181 r
   else if t.keys.length=16 then bad 3 r
   else Cj (16-t.keys.length) { t with keys:=t.keys++[(key,value (Fj 130 r.next []).1)] } (Fj 130 r.next []).2:=by
   rw[HG.out,e17,Cj,hq,if_pos rfl,←hkey]
  have HG2:=hid hg2;have HK:=hid hkey;clear hg2 hq e17 hkey;go_wp2_with fail
  refine(hik _ hsz).mono ?_
  rintro e w1 ⟨rfl,rfl⟩;go_wp2_with fail
  refine(hlo _ hsz).mono ?_
  rintro e w2 ⟨rfl,hb2⟩;have st2:=st.below hb2;have HS:=hid hb2.size;clear cp cr2 cr4 ct4 hik hlo hb2;have ct4:=st2.ct4;have lt1:B+2<w2.heap.size:=lt_of_block st2.ht;go_wp2_with fail;generalize hW3:w2.alloc (.cells #[.string ⟨key.toArray⟩] 9)=w3;have hW3':St B Br Bp w0 w3 (.slice av t.vars.length cv) (.slice ak t.keys.length ck) t r∧w3.heap[w2.heap.size]?=some (.cells #[S key] 9 (0,0)):=by
   rw[←hW3]
   exact⟨st2.below (bal _ _),heap_alloc_new w2 _⟩
  obtain⟨st3,hbk⟩:=hW3'
  obtain⟨bk,hbk'⟩:∃k,k=w2.heap.size:=⟨_,rfl⟩
  rw[←hbk']at hbk ⊢;clear hW3 ct4 lt1 hbk' HS st2 st;have hc:=Xkh w3 B (.slice ak t.keys.length ck) t.keys bk key st3.op hbk
  cases hq:t.keys.any fun p=>p.1==key
  ·rw[hq]at hc HG2;refine hc.mono ?_;rintro e w4 ⟨rfl,hb4⟩;have st4:=st3.below hb4;have hbk4:w4.heap[bk]?=some (.cells #[S key] 9 (0,0)):=by rw[hb4.block _ (lt_of_block hbk)];exact hbk
   clear hc hb4 hbk st3;have ct4:=st4.ct4;have cp:=st4.cp;have cr1:=st4.cr1
   by_cases hlen:t.keys.length=16
   ·have hl16:((t.keys.length:Int)==16)=true:=by simp;omega
    have HL:=hid hlen;clear hlen;go_wp2_with fail
    refine(Gz 3 Bp Br r.pos _ cp cr1).mono ?_
    rintro e w5 ⟨rfl,hb5⟩;have st5:=st4.below hb5;clear cp cr1 ct4
    have z0 := st5.z0
    have z1 := st5.z1
    have z2 := st5.z2
    have z3 := st5.z3
    have z4 := st5.z4
    have fz0 := st5.fz 0
    have fz1 := st5.fz 1
    have fz2 := st5.fz 2
    have fz3 := st5.fz 3
    have fz4 := st5.fz 4
    have y0 := st5.y0
    have y1 := st5.y1
    have fy0 := st5.fy 0
    have fy1 := st5.fy 1
    go_wp2_with fail;rw[HG2.out,if_neg (by simp),if_pos HL.out];exact Ht st5 (bad 3 r) Xw Xw rfl rfl rfl (World.ownsRow_nil _ _ _ _) (World.ownsRow_nil _ _ _ _)
   ·have hl16:((t.keys.length:Int)==16)=false:=by simp;omega
    have HL:=hid hlen;clear hlen;go_wp2_with fail
    refine(st4.next hall).mono ?_
    rintro e w5 ⟨rfl,hn5⟩;have st5:=st4.read hn5;have hbk5:w5.heap[bk]?=some (.cells #[S key] 9 (0,0)):=by
     rw[hn5.2.block _ (lt_of_block hbk4) (fun e=>Dk hbk4 st4.hr (by decide) (Option.some.inj e))];exact hbk4
    clear hn5 hbk4 st4 ct4 cp cr1;go_wp2_with fail;have ha5:r.next.all≤128:=by rw[Rd.next_all];exact hall
    have HLow:=st5.low;have hbl:=lt_of_block hbk5
    obtain⟨B2,hB2⟩:∃k,k=w5.heap.size:=⟨_,rfl⟩
    rw[←hB2]at HLow hbl;have HB2:=hid hB2;clear hB2
    go_loopg[9] 130 (fun g v9 wr=>∃r' acc,St B Br Bp w0 wr (.slice av t.vars.length cv) (.slice ak t.keys.length ck) t r'∧wr.heap[bk]?=some (.cells #[S key] 9 (0,0))∧Qt wr B2 v9 acc∧B2≤wr.heap.size∧r'.all≤128∧Fj g r' acc=Fj 130 r.next []∧(∀y∈acc,y.length≤128)∧(r'.rest.length+2≤g∨(Xj r'.sub=false∧1≤g))∧acc.length+g≤130)
    case atStart=>exact⟨r.next,[],st5,hbk5,World.ownsRow_nil _ _ _ _,Nat.le_of_eq HB2.out,ha5,rfl,by simp,Or.inl (by unfold Rd.all at ha5;omega),by simp⟩
    case round =>
     obtain⟨r',acc,st6,hbk6,own6,hB6,hall6,hty,hy8,hm,hacc⟩:=hrel
     have cp:=st6.cp;have cr2:=st6.cr2;have hsub6:r'.sub.length≤128:=by have:=hall6;unfold Rd.all at this;omega
     have hsz6:(⟨r'.sub.toArray⟩:ByteArray).size≤1000:=by rw[Lib.size_eq];show r'.sub.length≤1000;omega
     have hit:=Xkg ⟨r'.sub.toArray⟩;change ∀w:World,_→Calls _ _ _ _ fun e w'=>e=.returned (.bool (Xj r'.sub))∧_ at hit
     have HT:=hid hty;have HY8:=hid hy8;clear hy8;have HM:=hid hm;clear hty hm st5 hbk5
     cases hq2:Xj r'.sub
     ·rw[hq2]at hit;have HQ2:=hid hq2;clear hq2;go_wp2_with fail
      refine(hit _ hsz6).mono ?_
      rintro e w7 ⟨rfl,rfl⟩;have hg1:1≤gk:=by rcases HM.out with h|h;omega;exact h.2
      have hend:=types_end HT.out hg1 HQ2.out;have HEnd:=hid hend;have hjl:=join_len acc HY8.out;have hj:=Sx w7 B2 u9 acc own6 (by omega) (by omega);clear hend hit cp cr2 HT HM;unfold S at hj;generalize hjj:Lib.join acc [45]=j at *;have HJ:=hid hjj;clear hjj;go_wp2_with fail;refine hj.mono ?_;rintro e w8 ⟨rfl,hb8⟩;have st8:=st6.below hb8;have hbk8:w8.heap[bk]?=some (.cells #[S key] 9 (0,0)):=by rw[hb8.block _ (lt_of_block hbk6)];exact hbk6
      clear hj hb8 st6 hbk6 own6;have ct4:=st8.ct4;have cbk:=cell_of_one hbk8;unfold S at cbk;have hB8:B≤w8.heap.size:=Nat.le_of_lt (lt_of_block st8.h0);have hlb:bk<w8.heap.size:=lt_of_block hbk8;have hlt:B+2<w8.heap.size:=lt_of_block st8.ht
      obtain⟨i0,hi,hz0,hz1,hz2⟩:=info_parts Zph
      by_cases hT:j=tTrue
      ·have hTb:(j==[116,114,117,101])=true:=by rw[hT];rfl
       have HT:=hid hT;clear hT;have hval:value acc=[]:=by unfold value;rw[HJ.out,if_pos HT.out]
       have HV:=hid hval;clear hval
       go_wp2_with (at_builtin;refine wpList_append_own _ rfl _ _ 31 rfl B 37 i0 (.agg #[.string ⟨#[]⟩,.string ⟨#[]⟩]) 2 32 Tryz.underlying31 hi hz0 hz1 hz2 rfl (by decide) _ _ _ rfl (World.ownsRow.alloc st8.op _) ⟨w8.heap.size,0,none⟩ 1 1 [.string ⟨key.toArray⟩,.string ⟨#[]⟩] rfl rfl (cell_two_new _ _ _ _) ?d2t ?d3t ?d4t ?d5t ?_)
       case d2t=>intro u hu;simp at hu;rcases hu with rfl|rfl <;> rfl
       case d3t=>unfold maxLen;omega
       case d4t=>omega
       case d5t=>simp;omega
       intro kv9 w9 own9 hgr9 _;have own9':Qd w9 B kv9 (t.keys++[(key,[])]):=by
        refine Xh own9 (by simp) ?_
        simp[Kz,Kt,S]
       have st8':=st8.below (bal _ (.cells #[.string ⟨key.toArray⟩,.string ⟨#[]⟩] 37));have st9:=st8'.appP own9' hgr9;have fr9:w9.frozen? ⟨B+2,4,none⟩=false:=by
        have:=frozen_of_row (w9.setCell ⟨B+2,4,none⟩ kv9) (B+2) 4 _ _ st9.ht
        rwa [World.frozen?_setCell]at this
       have hl9:B+2<w9.heap.size:=by have:=lt_of_block st9.ht;simpa using this
       obtain⟨ao9,cp9,hk9⟩:=Zx own9'
       simp only[List.length_append,List.length_cons,List.length_nil,Nat.zero_add]at hk9;subst hk9;have c9:∃v,w9.cell? ⟨B+2,4,none⟩=some v:=by
        have hne:(Value.slice ak t.keys.length ck).ownBlock≠some (B+2):=Qx st8.op st8.ht (by decide);rw[World.cell?_of_block (w:=w8.alloc (.cells #[.string ⟨key.toArray⟩,.string ⟨#[]⟩] 37)) (hgr9.block (B+2) (by simp;omega) (fun e=>hne e.symm))]
        exact⟨_,st8'.ct4⟩
       obtain⟨v9,c9⟩:=c9
       clear own9 hgr9 own9' hi hz0 hz1 hz2 st8 st8' hbk8 cbk ct4;go_wp2_with fail
       go_step3
       have hlen17:=HL.out;have hgoal:goal=Cj (16-t.keys.length) { t with keys:=t.keys++[(key,[])] } r':=by
        rw[HG2.out,if_neg (by simp),if_neg HL.out,HEnd.out,HV.out]
       refine HX.out (16-t.keys.length) _ _ (by rw[HN.out];omega) ?_
       refine⟨⟨rfl,rfl,rfl,rfl,rfl,rfl,rfl,rfl⟩,Br,_,_,_,_,st9,?_,?_,?_,?_,hall6,?_⟩
       ·simp;omega
       ·simp;try omega
       ·exact Qbx hq HD.out
       ·intro e;simp at e
       ·rw[hgoal];simp;try omega
      ·have hTb:(j==[116,114,117,101])=false:=by
        rw[beq_eq_false_iff_ne];exact hT
       have HT:=hid hT;clear hT;have hval:value acc=j:=by unfold value;rw[HJ.out,if_neg HT.out]
       have HV:=hid hval;clear hval
       go_wp2_with (at_builtin;refine wpList_append_own _ rfl _ _ 31 rfl B 37 i0 (.agg #[.string ⟨#[]⟩,.string ⟨#[]⟩]) 2 32 Tryz.underlying31 hi hz0 hz1 hz2 rfl (by decide) _ _ _ rfl (World.ownsRow.alloc st8.op _) ⟨w8.heap.size,0,none⟩ 1 1 [.string ⟨key.toArray⟩,.string ⟨j.toArray⟩] rfl rfl (cell_two_new _ _ _ _) ?d2f ?d3f ?d4f ?d5f ?_)
       case d2f=>intro u hu;simp at hu;rcases hu with rfl|rfl <;> rfl
       case d3f=>unfold maxLen;omega
       case d4f=>omega
       case d5f=>simp;omega
       intro kv9 w9 own9 hgr9 _;have own9':Qd w9 B kv9 (t.keys++[(key,j)]):=by
        refine Xh own9 (by simp) ?_
        simp[Kz,Kt,S]
       have st8':=st8.below (bal _ (.cells #[.string ⟨key.toArray⟩,.string ⟨j.toArray⟩] 37));have st9:=st8'.appP own9' hgr9;have fr9:w9.frozen? ⟨B+2,4,none⟩=false:=by
        have:=frozen_of_row (w9.setCell ⟨B+2,4,none⟩ kv9) (B+2) 4 _ _ st9.ht
        rwa [World.frozen?_setCell]at this
       have hl9:B+2<w9.heap.size:=by have:=lt_of_block st9.ht;simpa using this
       obtain⟨ao9,cp9,hk9⟩:=Zx own9'
       simp only[List.length_append,List.length_cons,List.length_nil,Nat.zero_add]at hk9;subst hk9;have c9:∃v,w9.cell? ⟨B+2,4,none⟩=some v:=by
        have hne:(Value.slice ak t.keys.length ck).ownBlock≠some (B+2):=Qx st8.op st8.ht (by decide);rw[World.cell?_of_block (w:=w8.alloc (.cells #[.string ⟨key.toArray⟩,.string ⟨j.toArray⟩] 37)) (hgr9.block (B+2) (by simp;omega) (fun e=>hne e.symm))]
        exact⟨_,st8'.ct4⟩
       obtain⟨v9,c9⟩:=c9
       clear own9 hgr9 own9' hi hz0 hz1 hz2 st8 st8' hbk8 cbk ct4;go_wp2_with fail
       go_step3
       have hlen17:=HL.out;have hgoal:goal=Cj (16-t.keys.length) { t with keys:=t.keys++[(key,j)] } r':=by
        rw[HG2.out,if_neg (by simp),if_neg HL.out,HEnd.out,HV.out]
       refine HX.out (16-t.keys.length) _ _ (by rw[HN.out];omega) ?_
       refine⟨⟨rfl,rfl,rfl,rfl,rfl,rfl,rfl,rfl⟩,Br,_,_,_,_,st9,?_,?_,?_,?_,hall6,?_⟩
       ·simp;omega
       ·simp;try omega
       ·exact Qbx hq HD.out
       ·intro e;simp at e
       ·rw[hgoal];simp;try omega
     ·rw[hq2]at hit;have HQ2:=hid hq2;clear hq2;go_wp2_with fail
      refine(hit _ hsz6).mono ?_
      rintro e w7 ⟨rfl,rfl⟩;go_wp2_with fail
      obtain⟨x,hx⟩:∃k,k=lower r'.sub:=⟨_,rfl⟩
      have hlo:=Hw ⟨r'.sub.toArray⟩;change ∀w:World,_→Calls _ _ _ _ fun e w'=>e=.returned (.string ⟨(lower r'.sub).toArray⟩)∧_ at hlo
      rw[←hx]at hlo;have HX':=hid hx;clear hx
      refine(hlo _ hsz6).mono ?_
      rintro e w8 ⟨rfl,hb8⟩;have st8:=st6.below hb8;have own8:=Qz own6 hb8;have hbk8:w8.heap[bk]?=some (.cells #[S key] 9 (0,0)):=by rw[hb8.block _ (lt_of_block hbk6)];exact hbk6
      have hz8:=hb8.size;clear hlo hit cp cr2 hb8 own6 st6 hbk6;have cp:=st8.cp;have hB8:B2≤w8.heap.size:=Nat.le_trans hB6 hz8;have hlp:Bp<w8.heap.size:=lt_of_block st8.hp
      obtain⟨i0,hi,hz0,hz1,hz2⟩:=info_parts Zzw
      go_wp2_with (at_builtin;refine wpList_append_own _ rfl _ _ 28 rfl B2 9 i0 (.string ⟨#[]⟩) 1 16 Tryz.underlying28 hi hz0 hz1 hz2 rfl (by decide) _ _ _ rfl (World.ownsRow.alloc own8 _) ⟨w8.heap.size,0,none⟩ 1 1 [.string ⟨x.toArray⟩] rfl rfl (cell_one_new _ _ _) ?c2 ?c3 ?c4 ?c5 ?_)
      case c2=>intro u hu;simp at hu;subst hu;rfl
      case c3=>unfold maxLen;omega
      case c4=>omega
      case c5=>simp;omega
      intro v9' w9 own9 hgr9 _;have hbel9:Below B2 w8 w9:=((Below.refl _ _).alloc hB8 _).grown hgr9 (by simp;omega) (fun k hk=>(World.ownsRow.lt own8 k hk).1);have st9:=st8.above HLow hbel9;have hbk9:w9.heap[bk]?=some (.cells #[S key] 9 (0,0)):=by rw[hbel9.block _ hbl];exact hbk8
      have own9':Qt w9 B2 v9' (acc++[x]):=by
       unfold Qt;rw[List.length_append,List.map_append];exact own9
      have hz9:=hbel9.size;clear own9 hgr9 hbel9 own8 cp hi hz0 hz1 hz2 st8 hbk8 hlp;have cp:=st9.cp;have cr2:=st9.cr2;go_wp2_with fail
      refine(st9.next hall6).mono ?_
      rintro e w10 ⟨rfl,hn10⟩;have st10:=st9.read hn10;have hbk10:w10.heap[bk]?=some (.cells #[S key] 9 (0,0)):=by
       rw[hn10.2.block _ (lt_of_block hbk9) (fun e=>Dk hbk9 st9.hr (by decide) (Option.some.inj e))];exact hbk9
      have own10:Qt w10 B2 v9' (acc++[x]):=World.ownsRow.kept own9' hn10.2 (Or.inr (Qx own9' st9.hr (by decide)));have hz10:=hn10.2.size;clear hn10 st9 cp cr2 hbk9 own9';go_wp2_with fail;have hg2:r'.rest.length+2≤gk:=by rcases HM.out with h|h;exact h;rw[HQ2.out]at h;cases h.1
      go_roundg (gk-1)
      case measure=>omega
      case rel=>exact⟨r'.next,acc++[x],st10,hbk10,own10,by omega,by rw[Rd.next_all];exact hall6,by rw[HX'.out];exact Xkj HT.out (by omega) HQ2.out,(by
        intro y hy
        rcases List.mem_append.1 hy with h|h
        ·exact HY8.out y h
        ·rw[List.mem_singleton.1 h,HX'.out,Xt];exact hsub6),Zzz hg2,by simp;omega⟩
  ·rw[hq]at hc HG2;refine hc.mono ?_;rintro e w4 ⟨rfl,hb4⟩;have st4:=st3.below hb4;clear hc hb4 hbk st3;have cp:=st4.cp;have cr1:=st4.cr1;go_wp2_with fail
   refine(Gz 181 Bp Br r.pos _ cp cr1).mono ?_
   rintro e w5 ⟨rfl,hb5⟩;have st5:=st4.below hb5;clear cp cr1
   have z0 := st5.z0
   have z1 := st5.z1
   have z2 := st5.z2
   have z3 := st5.z3
   have z4 := st5.z4
   have fz0 := st5.fz 0
   have fz1 := st5.fz 1
   have fz2 := st5.fz 2
   have fz3 := st5.fz 3
   have fz4 := st5.fz 4
   have y0 := st5.y0
   have y1 := st5.y1
   have fy0 := st5.fy 0
   have fy1 := st5.fy 1
   go_wp2_with fail;rw[HG2.out];exact Ht st5 (bad 181 r) Xw Xw rfl rfl rfl (World.ownsRow_nil _ _ _ _) (World.ownsRow_nil _ _ _ _)
end
section
open Go.RowKit Go.Lib Go.Sort
theorem Xcz {P:Program}{c d:Code}{Q:Exit→Act→World→Prop}{a:Act}{w:World}(h:c.wp P Q a w)(e:some (Code.seq .skip c)=some (Code.seq .skip d)):d.wp P Q a w:=by
 injection e with e
 injection e with _ e
 exact e▸h
theorem Znq (s:ByteArray)(B Bp:Nat)(w0:World)(goal:Res):∃rest,bodyOf Tryz.f155 0=some (.seq .skip rest)∧∀n a w,J s B Bp w0 goal 0 n a w→∀Jx:Nat→Act→World→Prop,(∀l' n' a' w',n'<n→J s B Bp w0 goal l' n' a' w'→Jx l' a' w') →
  rest.wp Tryz.prog (Exit.jumps Jx (bodyPost Tryz.prog Tryz.f155 (Qbz B w0 goal))) a w:=by
 obtain⟨rest1,hr1,hkeys⟩:=Zpg s B Bp w0 goal
 have HKEYS:=hid hkeys;clear hkeys
 refine⟨_,rfl,?_⟩
 intro n a w hJ Jx hJx
 obtain⟨hfr,Br,vv,t,r,st,hke,hvl,hn,hall,hg⟩:=hJ
 obtain⟨u,rfl⟩:=hfr.lit
 obtain⟨av,cv,rfl⟩:=Zc st.os
 have HN:=hid hn;have HG:=hid hg;have HX:=hid hJx;have HE:=hid hke;have HR1:=hid hr1;clear hn hg hJx hfr hke hr1;have cp:=st.cp;have cr2:=st.cr2;have hsub:r.sub.length≤128:=by have:=hall;unfold Rd.all at this;omega
 have hsz:(⟨r.sub.toArray⟩:ByteArray).size≤1000:=by rw[Lib.size_eq];show r.sub.length≤1000;omega
 have hik:=Qlx ⟨r.sub.toArray⟩;change ∀w:World,_→Calls _ _ _ _ fun e w'=>e=.returned (.bool (Zh r.sub))∧_ at hik
 have e9:9-t.vars.length=(8-t.vars.length)+1:=by omega
 cases hq:Zh r.sub
 ·rw[hq]at hik;have hg2:goal=Ud t r:=by rw[HG.out,e9,Cl,hq];rfl
  have HG2:=hid hg2;clear hg2 hq e9;go_wp2_with fail
  refine(hik _ hsz).mono ?_
  rintro e w1 ⟨rfl,rfl⟩;have ct3:=st.ct3;clear hik;go_wp2_with fail
  refine(sort_own _ B _ t.vars st.os (by omega)).mono ?_
  rintro e w2 ⟨rfl,os2,hgr2⟩;have st2:=st.sortS os2 hgr2;clear os2 hgr2 st cp cr2 ct3;have cp:=st2.cp;have cr4:=st2.cr4
  cases hf:r.fin
  ·rw[hf]at cr4;have HF:=hid hf;clear hf;have cr2:=st2.cr2
   obtain⟨x,hx⟩:∃k,k=lower r.sub:=⟨_,rfl⟩
   have hlo:=Hw ⟨r.sub.toArray⟩;change ∀w:World,_→Calls _ _ _ _ fun e w'=>e=.returned (.string ⟨(lower r.sub).toArray⟩)∧_ at hlo
   rw[←hx]at hlo;have HX':=hid hx;clear hx;go_wp2_with fail
   refine(hlo _ hsz).mono ?_
   rintro e w3 ⟨rfl,hb3⟩;have st3:=st2.below hb3;clear hb3 st2 hlo cp cr2 cr4;have cp:=st3.cp
   by_cases hu:x=[117]
   ·have hub:(x != [117])=false:=by rw[hu];rfl
    have hub2:(x==[117])=true:=by rw[hu];rfl
    have HU:=hid hu;clear hu;go_wp2_with fail
    refine(st3.next hall).mono ?_
    rintro e w4 ⟨rfl,hn4⟩;have st4:=st3.read hn4;have ha4:r.next.all≤128:=by rw[Rd.next_all];exact hall
    clear hn4 st3 cp;have cp:=st4.cp;have cr2:=st4.cr2;have hsub4:r.next.sub.length≤128:=by have:=ha4;unfold Rd.all at this;omega
    have hsz4:(⟨r.next.sub.toArray⟩:ByteArray).size≤1000:=by rw[Lib.size_eq];show r.next.sub.length≤1000;omega
    have hik:=Zzg ⟨r.next.sub.toArray⟩;change ∀w:World,_→Calls _ _ _ _ fun e w'=>e=.returned (.bool (Jt r.next.sub))∧_ at hik
    have hgl:goal=if Jt r.next.sub then Cj 17 { t with vars:=Fz t.vars } r.next else bad 180 r.next:=by
     rw[HG2.out];unfold Ud;rw[HF.out,if_neg (by simp),←HX'.out,if_pos HU.out]
    have HGL:=hid hgl;clear hgl
    cases hq2:Jt r.next.sub
    ·rw[hq2]at hik HGL;have cr1:=st4.cr1;go_wp2_with fail
     refine(hik _ hsz4).mono ?_
     rintro e w5 ⟨rfl,rfl⟩;go_wp2_with fail
     refine(Gz 180 Bp Br r.next.pos _ cp cr1).mono ?_
     rintro e w6 ⟨rfl,hb6⟩;have st6:=st4.below hb6;clear cp cr1
     have z0 := st6.z0
     have z1 := st6.z1
     have z2 := st6.z2
     have z3 := st6.z3
     have z4 := st6.z4
     have fz0 := st6.fz 0
     have fz1 := st6.fz 1
     have fz2 := st6.fz 2
     have fz3 := st6.fz 3
     have fz4 := st6.fz 4
     have y0 := st6.y0
     have y1 := st6.y1
     have fy0 := st6.fy 0
     have fy1 := st6.fy 1
     go_wp2_with fail;rw[HGL.out];exact Ht st6 (bad 180 r.next) Xw Xw rfl rfl rfl (World.ownsRow_nil _ _ _ _) (World.ownsRow_nil _ _ _ _)
    ·rw[hq2]at hik HGL;go_wp2_with fail
     refine(hik _ hsz4).mono ?_
     rintro e w5 ⟨rfl,rfl⟩;go_wp2_with fail
     go_step3
     go_step
     go_step
     refine Xcz (HKEYS.out 17 _ _ ?_ Jx ?_) (HR1.out.symm.trans rfl)
     ·refine⟨⟨rfl,rfl,rfl,rfl,rfl,rfl,rfl,rfl⟩,Br,_,_,_,_,st4,?_,?_,?_,fun _=>hq2,ha4,?_⟩
      ·show t.keys.length≤16;rw[HE.out];simp
      ·show 17=17-t.keys.length;rw[HE.out];simp
      ·show(t.keys.map (·.1)).Nodup;rw[HE.out];simp
      ·rw[HGL.out];simp only[if_true];show Cj 17 _ _=Cj (17-t.keys.length) _ _;rw[HE.out];rfl
     ·exact fun n' a' w' hlt hj=>HX.out 1 n' a' w' (by rw[HN.out];omega) hj
   ·have hub:(x != [117])=true:=by rw[bne_iff_ne];exact hu
    have hub2:(x==[117])=false:=by rw[beq_eq_false_iff_ne];exact hu
    have HU:=hid hu;clear hu;have cr1:=st3.cr1;go_wp2_with fail
    refine(Gz 180 Bp Br r.pos _ cp cr1).mono ?_
    rintro e w5 ⟨rfl,hb5⟩;have st5:=st3.below hb5;clear cp cr1
    have z0 := st5.z0
    have z1 := st5.z1
    have z2 := st5.z2
    have z3 := st5.z3
    have z4 := st5.z4
    have fz0 := st5.fz 0
    have fz1 := st5.fz 1
    have fz2 := st5.fz 2
    have fz3 := st5.fz 3
    have fz4 := st5.fz 4
    have y0 := st5.y0
    have y1 := st5.y1
    have fy0 := st5.fy 0
    have fy1 := st5.fy 1
    go_wp2_with fail;rw[HG2.out];have hgl:Ud t r=bad 180 r:=by unfold Ud;rw[HF.out,if_neg (by simp),←HX'.out,if_neg HU.out]
    rw[hgl];exact Ht st5 (bad 180 r) Xw Xw rfl rfl rfl (World.ownsRow_nil _ _ _ _) (World.ownsRow_nil _ _ _ _)
  ·rw[hf]at cr4;have HF:=hid hf;clear hf
   have z0 := st2.z0
   have z1 := st2.z1
   have z2 := st2.z2
   have z3 := st2.z3
   have z4 := st2.z4
   have fz0 := st2.fz 0
   have fz1 := st2.fz 1
   have fz2 := st2.fz 2
   have fz3 := st2.fz 3
   have fz4 := st2.fz 4
   have y0 := st2.y0
   have y1 := st2.y1
   have fy0 := st2.fy 0
   have fy1 := st2.fy 1
   have ct0:=st2.ct0;have ct1:=st2.ct1;have ct2:=st2.ct2;have ct3:=st2.ct3;have ct4:=st2.ct4;unfold Xw at ct4;go_wp2_with fail;have hgl:goal=⟨{ t with vars:=Fz t.vars },0,0⟩:=by rw[HG2.out];unfold Ud;rw[HF.out,if_pos rfl]
   rw[hgl];exact Ht st2 ⟨{ t with vars:=Fz t.vars },0,0⟩ _ Xw rfl rfl rfl st2.os st2.op
 ·rw[hq]at hik
  obtain⟨x,hx⟩:∃k,k=lower r.sub:=⟨_,rfl⟩
  have hlo:=Hw ⟨r.sub.toArray⟩;change ∀w:World,_→Calls _ _ _ _ fun e w'=>e=.returned (.string ⟨(lower r.sub).toArray⟩)∧_ at hlo
  rw[←hx]at hlo;have hg2:goal=if t.vars.contains x then bad 181 r
   else if t.vars.length=8 then bad 3 r
   else Cl (8-t.vars.length) { t with vars:=t.vars++[x] } r.next:=by
   rw[HG.out,e9,Cl,hq,if_pos rfl,←hx]
  have HG2:=hid hg2;clear hg2 hq e9 hx;go_wp2_with fail
  refine(hik _ hsz).mono ?_
  rintro e w1 ⟨rfl,rfl⟩;go_wp2_with fail
  refine(hlo _ hsz).mono ?_
  rintro e w2 ⟨rfl,hb2⟩;have st2:=st.below hb2;clear cp cr2 hik hlo hb2 st;have ct3:=st2.ct3;have cp:=st2.cp;have cr1:=st2.cr1;have hc:=Zgg w2 B _ t.vars x st2.os;unfold S at hc
  cases hq:t.vars.contains x
  ·rw[hq]at hc HG2
   by_cases hlen:t.vars.length=8
   ·have hl8:((t.vars.length:Int)==8)=true:=by simp;omega
    have HL:=hid hlen;clear hlen;go_wp2_with fail;refine hc.mono ?_;rintro e w4 ⟨rfl,rfl⟩;go_wp2_with fail
    refine(Gz 3 Bp Br r.pos _ cp cr1).mono ?_
    rintro e w5 ⟨rfl,hb5⟩;have st5:=st2.below hb5;clear cp cr1 ct3
    have z0 := st5.z0
    have z1 := st5.z1
    have z2 := st5.z2
    have z3 := st5.z3
    have z4 := st5.z4
    have fz0 := st5.fz 0
    have fz1 := st5.fz 1
    have fz2 := st5.fz 2
    have fz3 := st5.fz 3
    have fz4 := st5.fz 4
    have y0 := st5.y0
    have y1 := st5.y1
    have fy0 := st5.fy 0
    have fy1 := st5.fy 1
    go_wp2_with fail;rw[HG2.out,if_neg (by simp),if_pos HL.out];exact Ht st5 (bad 3 r) Xw Xw rfl rfl rfl (World.ownsRow_nil _ _ _ _) (World.ownsRow_nil _ _ _ _)
   ·have hl8:((t.vars.length:Int)==8)=false:=by simp;omega
    have HL:=hid hlen;clear hlen;go_wp2_with fail;refine hc.mono ?_;rintro e w4 ⟨rfl,rfl⟩;clear hc;have hB8:B≤w4.heap.size:=Nat.le_of_lt (lt_of_block st2.h0);have hlt:B+2<w4.heap.size:=lt_of_block st2.ht
    obtain⟨i0,hi,hz0,hz1,hz2⟩:=info_parts Zzw
    go_wp2_with (at_builtin;refine wpList_append_own _ rfl _ _ 28 rfl B 9 i0 (.string ⟨#[]⟩) 1 16 Tryz.underlying28 hi hz0 hz1 hz2 rfl (by decide) _ _ _ rfl (World.ownsRow.alloc st2.os _) ⟨w4.heap.size,0,none⟩ 1 1 [.string ⟨x.toArray⟩] rfl rfl (cell_one_new _ _ _) ?c2 ?c3 ?c4 ?c5 ?_)
    case c2=>intro y hy;simp at hy;subst hy;rfl
    case c3=>unfold maxLen;omega
    case c4=>omega
    case c5=>simp;omega
    intro vv9 w9 own9 hgr9 _;have own9':Qt w9 B vv9 (t.vars++[x]):=Xh own9 (by simp) (by simp[S]);have st8:=st2.below (bal _ (.cells #[.string ⟨x.toArray⟩] 9));have st9:=st8.appS own9' hgr9;have fr9:w9.frozen? ⟨B+2,3,none⟩=false:=by
     have:=frozen_of_row (w9.setCell ⟨B+2,3,none⟩ vv9) (B+2) 3 _ _ st9.ht
     rwa [World.frozen?_setCell]at this
    obtain⟨ao9,cp9,hk9⟩:=Zc own9'
    simp only[List.length_append,List.length_cons,List.length_nil,Nat.zero_add]at hk9;subst hk9;have c9:∃v,w9.cell? ⟨B+2,3,none⟩=some v:=by
     have hne:(Value.slice av t.vars.length cv).ownBlock≠some (B+2):=Qx st2.os st2.ht (by decide);rw[World.cell?_of_block (w:=w4.alloc (.cells #[.string ⟨x.toArray⟩] 9)) (hgr9.block (B+2) (by simp;omega) (fun e=>hne e.symm))]
     exact⟨_,st8.ct3⟩
    obtain⟨v9,c9⟩:=c9
    have cp9':(w9.setCell ⟨B+2,3,none⟩ (.slice ao9 (t.vars.length+1) cp9)).cell? ⟨Bp,0,none⟩=some (.pointer (some ⟨Br,0,none⟩)):=st9.cp;clear own9 hgr9 own9' hi hz0 hz1 hz2 st8 st2 ct3 cr1 cp;go_wp2_with fail
    refine(st9.next hall).mono ?_
    rintro e w10 ⟨rfl,hn10⟩;have st10:=st9.read hn10;have ha10:r.next.all≤128:=by rw[Rd.next_all];exact hall
    clear hn10 st9 cp9' c9 fr9;go_wp2_with fail
    go_step3
    refine HX.out 0 (108-t.vars.length) _ _ (by rw[HN.out];omega) ?_;have hlen8:=HL.out
    refine⟨⟨rfl,rfl,rfl,rfl,rfl,rfl,rfl,rfl⟩,Br,_,_,_,st10,HE.out,?_,?_,ha10,?_⟩
    ·simp;omega
    ·simp;try omega
    ·rw[HG2.out,if_neg (by simp),if_neg hlen8]
     simp;try omega
  ·rw[hq]at hc HG2;go_wp2_with fail;refine hc.mono ?_;rintro e w4 ⟨rfl,rfl⟩;go_wp2_with fail
   refine(Gz 181 Bp Br r.pos _ cp cr1).mono ?_
   rintro e w5 ⟨rfl,hb5⟩;have st5:=st2.below hb5;clear cp cr1 ct3 hc
   have z0 := st5.z0
   have z1 := st5.z1
   have z2 := st5.z2
   have z3 := st5.z3
   have z4 := st5.z4
   have fz0 := st5.fz 0
   have fz1 := st5.fz 1
   have fz2 := st5.fz 2
   have fz3 := st5.fz 3
   have fz4 := st5.fz 4
   have y0 := st5.y0
   have y1 := st5.y1
   have fy0 := st5.fy 0
   have fy1 := st5.fy 1
   go_wp2_with fail;rw[HG2.out];exact Ht st5 (bad 181 r) Xw Xw rfl rfl rfl (World.ownsRow_nil _ _ _ _) (World.ownsRow_nil _ _ _ _)
end
section
open Go.RowKit Go.Lib Go.Sort
def J' (s:ByteArray)(B:Nat)(w0:World)(goal:Res)(l n:Nat)(a:Act)(w:World):Prop:=∃Bp,J s B Bp w0 goal l n a w
theorem Qvg {P:Program}{c:Code}{Q:Exit→Act→World→Prop}{a:Act}{w:World}(h:c.wp P Q a w):(Code.seq .skip c).wp P Q a w:=by
 go_wp2_with fail;exact h
def W3 (w:World):World:=((w.alloc (.cells (Qv Tg.zero Xw Xw) 160)).alloc (.cells #[.int .i64 0,.int .i64 0] 78)).alloc (.cells (Qv Tg.zero Xw Xw) 160)
theorem W3_facts (w:World):Below w.heap.size w (W3 w)∧(W3 w).heap[w.heap.size]?=some (.cells (Qv Tg.zero Xw Xw) 160 (0,0))∧(W3 w).heap[w.heap.size+1]?=some (.cells #[.int .i64 0,.int .i64 0] 78 (0,0))∧
  (W3 w).heap[w.heap.size+2]?=some (.cells (Qv Tg.zero Xw Xw) 160 (0,0))∧(W3 w).heap.size=w.heap.size+3:=by
 refine⟨((bal _ _).alloc (by simp) _).alloc (by simp;omega) _,?_,?_,?_,by simp[W3]⟩
 ·unfold W3;rw[heap_alloc_old _ _ (by simp;omega),heap_alloc_old _ _ (by simp)];exact heap_alloc_new w _
 ·unfold W3;rw[heap_alloc_old _ _ (by simp)]
  have:=heap_alloc_new (w.alloc (.cells (Qv Tg.zero Xw Xw) 160)) (.cells #[.int .i64 0,.int .i64 0] 78)
  simpa using this
 ·unfold W3
  have:=heap_alloc_new ((w.alloc (.cells (Qv Tg.zero Xw Xw) 160)).alloc (.cells #[.int .i64 0,.int .i64 0] 78)) (.cells (Qv Tg.zero Xw Xw) 160)
  simpa using this
theorem Qzh (s:ByteArray)(w:World)(hs:s.size≤maxLen):Calls Tryz.prog 155 #[.string s] w (Qbz w.heap.size w (Xp s.data.toList)):=by
 unfold maxLen at hs
 obtain⟨goal,hgoal⟩:∃g,g=Xp s.data.toList:=⟨_,rfl⟩
 rw[←hgoal];have HG:=hid hgoal;clear hgoal;have hl:s.data.toList.length=s.size:=by simp
 have HL:=hid hl;clear hl
 go_enter Tryz.func155,Tryz.ntmps155
 go_wp2_with fail;refine Bj (J' s w.heap.size w goal) ?_ ?_
 ·by_cases h128:128<s.size
  ·go_wp2_with fail;have hgl:goal=⟨Tg.zero,3,0⟩:=by rw[HG.out,Xp,if_pos (by rw[HL.out];exact h128)]
   rw[hgl];simp only[Exit.jumps];refine bodyPost_ret (v:=.tuple #[.agg (Qv Tg.zero Xw Xw),.agg #[.int .i64 3,.int .i64 0]]) ?_ rfl ?_
   ·simp[results,Tryz.results155,go_sem,Qv,S,Tg.zero,Xw]
   ·exact⟨Xw,Xw,rfl,World.ownsRow_nil _ _ _ _,World.ownsRow_nil _ _ _ _,((bal _ _).alloc (by simp) _).alloc (by simp;omega) _⟩
  ·have hlo:=Hw s
   obtain⟨x,hx⟩:∃k,k=lower s.data.toList:=⟨_,rfl⟩
   rw[←hx]at hlo;have HX':=hid hx;clear hx;have hs':s.size≤1000:=by omega
   go_wp2_with fail
   refine(hlo _ hs').mono ?_
   rintro e w1 ⟨rfl,hb1⟩;change Below (W3 w).heap.size (W3 w) w1 at hb1
   obtain⟨f1,f2,f3,f4,f5⟩:=W3_facts w
   have k:∀b o,(W3 w).heap[b]?=some o→w1.heap[b]?=some o:=fun b o hb=>by rw[hb1.block b (lt_of_block hb)];exact hb
   have h0:=hid (k _ _ f2);have h1:=hid (k _ _ f3);have ht:=hid (k _ _ f4);have hbel:=hid (f1.trans (hb1.mono (by omega)));clear k f1 f2 f3 f4 f5 hb1 hlo
   by_cases hr:x=[114,111,111,116]
   ·have hrb:(x==[114,111,111,116])=true:=by rw[hr];rfl
    have HR:=hid hr;clear hr;have z0:w1.cell? ⟨w.heap.size,0,none⟩=some (.string ⟨#[]⟩):=cR h0.out;have z1:w1.cell? ⟨w.heap.size,1,none⟩=some (.string ⟨#[]⟩):=cR h0.out;have z2:w1.cell? ⟨w.heap.size,2,none⟩=some (.string ⟨#[]⟩):=cR h0.out;have z3:w1.cell? ⟨w.heap.size,3,none⟩=some (.slice none 0 0):=cR h0.out;have z4:w1.cell? ⟨w.heap.size,4,none⟩=some (.slice none 0 0):=cR h0.out;have fz:∀j,w1.frozen? ⟨w.heap.size,j,none⟩=false:=fun j=>frozen_of_row _ _ _ _ _ h0.out
    have fz0:=fz 0;have fz1:=fz 1;have fz2:=fz 2;have fz3:=fz 3;have fz4:=fz 4;have y0:w1.cell? ⟨w.heap.size+1,0,none⟩=some (.int .i64 0):=cR h1.out;have y1:w1.cell? ⟨w.heap.size+1,1,none⟩=some (.int .i64 0):=cR h1.out;have fy:∀j,w1.frozen? ⟨w.heap.size+1,j,none⟩=false:=fun j=>frozen_of_row _ _ _ _ _ h1.out
    have fy0:=fy 0;have fy1:=fy 1;have ct0:w1.cell? ⟨w.heap.size+1+1,0,none⟩=some (.string ⟨#[]⟩):=cR ht.out;have ct1:w1.cell? ⟨w.heap.size+1+1,1,none⟩=some (.string ⟨#[]⟩):=cR ht.out;have ct2:w1.cell? ⟨w.heap.size+1+1,2,none⟩=some (.string ⟨#[]⟩):=cR ht.out;have ct3:w1.cell? ⟨w.heap.size+1+1,3,none⟩=some (.slice none 0 0):=cR ht.out;have ct4:w1.cell? ⟨w.heap.size+1+1,4,none⟩=some (.slice none 0 0):=cR ht.out;clear fz fy;go_wp2_with fail;have hgl:goal=⟨Tg.zero,0,0⟩:=by rw[HG.out,Xp,if_neg (by rw[HL.out];exact h128),if_pos (by rw[←HX'.out];exact HR.out)]
    rw[hgl];exact Qbj hbel.out h0.out h1.out ⟨Tg.zero,0,0⟩ Xw Xw rfl rfl rfl (World.ownsRow_nil _ _ _ _) (World.ownsRow_nil _ _ _ _)
   ·have hrb:(x==[114,111,111,116])=false:=by rw[beq_eq_false_iff_ne];exact hr
    have HR:=hid hr;clear hr;go_wp2_with fail;generalize hW:World.alloc (World.alloc w1 _) _=W2;have hW2:Below w1.heap.size w1 W2∧W2.heap[w1.heap.size]?=some (.cells (rdr s.data.toList 0 [] false false) 253 (0,0))∧W2.heap[w1.heap.size+1]?=some (.cells #[.pointer (some ⟨w1.heap.size,0,none⟩)] 251 (0,0)):=by
     rw[←hW]
     refine⟨(bal _ _).alloc (by simp) _,?_,?_⟩
     ·rw[heap_alloc2_old];simp[rdr,S]
     ·rw[heap_alloc2_new]
    obtain⟨b2,hrd,hpp⟩:=hW2
    clear hW;have k:∀b o,w1.heap[b]?=some o→W2.heap[b]?=some o:=fun b o hb=>by rw[b2.block b (lt_of_block hb)];exact hb
    have h0':=hid (k _ _ h0.out);have h1':=hid (k _ _ h1.out);have ht':=hid (k _ _ ht.out);have hbel':=hid (hbel.out.trans (b2.mono (Nat.le_of_lt (lt_of_block h0.out))));have hlo:=hid (Nat.lt_of_lt_of_le (lt_of_block ht.out) (Nat.le_refl w1.heap.size));have hg2:goal=if Vw (Rd.first s.data.toList).sub then Bf { Tg.zero with lang:=Vh (Rd.first s.data.toList).sub } (Rd.first s.data.toList).next else bad 180 (Rd.first s.data.toList):=by
     rw[HG.out,Xp,if_neg (by rw[HL.out];exact h128),if_neg (by rw[←HX'.out];exact HR.out)]
    have HG2:=hid hg2;clear hg2 k h0 h1 ht hbel;generalize w1.heap.size=Br at *;have hl128:s.data.toList.length≤128:=by rw[HL.out];omega
    generalize s.data.toList=l at *
    by_cases hnil:l=[]
    ·subst hnil
     refine(Zpk Br 0 [] false false W2 (by omega) (by simp) hrd).mono ?_
     rintro e w4 ⟨rfl,hr4,ho4⟩;have hpp4:w4.heap[Br+1]?=some (.cells #[.pointer (some ⟨Br,0,none⟩)] 251 (0,0)):=by
      rw[ho4.block _ (lt_of_block hpp) (fun e=>by have:=Option.some.inj e;omega)];exact hpp
     have cp:w4.cell? ⟨Br+1,0,none⟩=some (.pointer (some ⟨Br,0,none⟩)):=cell_of_one hpp4;have cr2:w4.cell? ⟨Br,2,none⟩=some (.string ⟨#[]⟩):=cR hr4;have cr1:w4.cell? ⟨Br,1,none⟩=some (.int .i64 0):=cR hr4;have hloo:=hlo.out;have k:∀b o,b≠Br→W2.heap[b]?=some o→w4.heap[b]?=some o:=fun b o hne hb=>by rw[ho4.block b (lt_of_block hb) (fun e=>hne (Option.some.inj e))];exact hb
     have h04:=k _ _ (by omega) h0'.out;have h14:=k _ _ (by omega) h1'.out;have bel4:=hbel'.out.grown ho4 (Nat.le_of_lt (lt_of_block h0'.out)) (fun k hk=>by injection hk with hk;omega);have H0:=hid h04;have H1:=hid h14;have BEL:=hid bel4;clear h04 h14 bel4 k hpp4 hr4 ho4 hpp hrd b2;have hil:=fun W=>Sj ⟨#[]⟩ W (by decide)
     change ∀w:World,Calls _ _ _ _ fun e w'=>e=.returned (.bool false)∧_ at hil
     go_wp2_with fail
     refine(hil _).mono ?_
     rintro e w5 ⟨rfl,rfl⟩;go_wp2_with fail
     refine(Gz 180 (Br+1) Br 0 _ cp cr1).mono ?_
     rintro e w6 ⟨rfl,hb6⟩;have k6:∀b o,w5.heap[b]?=some o→w6.heap[b]?=some o:=fun b o hb=>by rw[hb6.block b (lt_of_block hb)];exact hb
     have h06:=hid (k6 _ _ H0.out);have h16:=hid (k6 _ _ H1.out);have bel6:=hid (BEL.out.trans (hb6.mono (Nat.le_of_lt (lt_of_block H0.out))));clear k6 hb6 cp cr1 cr2 hil;have z0:w6.cell? ⟨w.heap.size,0,none⟩=some (.string ⟨#[]⟩):=cR h06.out;have z1:w6.cell? ⟨w.heap.size,1,none⟩=some (.string ⟨#[]⟩):=cR h06.out;have z2:w6.cell? ⟨w.heap.size,2,none⟩=some (.string ⟨#[]⟩):=cR h06.out;have z3:w6.cell? ⟨w.heap.size,3,none⟩=some (.slice none 0 0):=cR h06.out;have z4:w6.cell? ⟨w.heap.size,4,none⟩=some (.slice none 0 0):=cR h06.out;have fz:∀j,w6.frozen? ⟨w.heap.size,j,none⟩=false:=fun j=>frozen_of_row _ _ _ _ _ h06.out
     have fz0:=fz 0;have fz1:=fz 1;have fz2:=fz 2;have fz3:=fz 3;have fz4:=fz 4;have y0:w6.cell? ⟨w.heap.size+1,0,none⟩=some (.int .i64 0):=cR h16.out;have y1:w6.cell? ⟨w.heap.size+1,1,none⟩=some (.int .i64 0):=cR h16.out;have fy:∀j,w6.frozen? ⟨w.heap.size+1,j,none⟩=false:=fun j=>frozen_of_row _ _ _ _ _ h16.out
     have fy0:=fy 0;have fy1:=fy 1;clear fz fy;go_wp2_with fail;have hgl:goal=⟨Tg.zero,180,0⟩:=by rw[HG2.out];rfl
     rw[hgl];exact Qbj bel6.out h06.out h16.out ⟨Tg.zero,180,0⟩ Xw Xw rfl rfl rfl (World.ownsRow_nil _ _ _ _) (World.ownsRow_nil _ _ _ _)
    ·refine(Xkw Br l W2 (by omega) hnil hrd).mono ?_
     rintro e w4 ⟨rfl,hr4,ho4⟩;have hpp4:w4.heap[Br+1]?=some (.cells #[.pointer (some ⟨Br,0,none⟩)] 251 (0,0)):=by
      rw[ho4.block _ (lt_of_block hpp) (fun e=>by have:=Option.some.inj e;omega)];exact hpp
     have hloo:=hlo.out;have k:∀b o,b≠Br→W2.heap[b]?=some o→w4.heap[b]?=some o:=fun b o hne hb=>by rw[ho4.block b (lt_of_block hb) (fun e=>hne (Option.some.inj e))];exact hb
     have st4:St w.heap.size Br (Br+1) w w4 Xw Xw Tg.zero (Rd.first l):=by
      refine⟨hbel'.out.grown ho4 (Nat.le_of_lt (lt_of_block h0'.out)) (fun k hk=>by injection hk with hk;omega),k _ _ (by omega) h0'.out,k _ _ (by omega) h1'.out,k _ _ (by omega) ht'.out,?_,hpp4,World.ownsRow_nil _ _ _ _,World.ownsRow_nil _ _ _ _,by omega⟩
      rw[hr4];unfold Rd.first;rw[if_neg hnil]
     have hall:(Rd.first l).all≤128:=by rw[Rd.first_all];exact hl128
     clear k hpp4 hr4 ho4 hpp hrd b2 hnil h0' h1' ht' hbel' hlo;generalize Rd.first l=r at *;have cp:=st4.cp;have cr2:=st4.cr2;have hsub:r.sub.length≤128:=by have:=hall;unfold Rd.all at this;omega
     have hsz:(⟨r.sub.toArray⟩:ByteArray).size≤1000:=by rw[Lib.size_eq];show r.sub.length≤1000;omega
     have hil:=Sj ⟨r.sub.toArray⟩;change ∀w:World,_→Calls _ _ _ _ fun e w'=>e=.returned (.bool (Vw r.sub))∧_ at hil
     cases hq:Vw r.sub
     ·rw[hq]at hil HG2;have cr1:=st4.cr1;go_wp2_with fail
      refine(hil _ hsz).mono ?_
      rintro e w5 ⟨rfl,rfl⟩;go_wp2_with fail
      refine(Gz 180 (Br+1) Br r.pos _ cp cr1).mono ?_
      rintro e w6 ⟨rfl,hb6⟩;have st6:=st4.below hb6;clear cp cr1 cr2 hil
      have z0 := st6.z0
      have z1 := st6.z1
      have z2 := st6.z2
      have z3 := st6.z3
      have z4 := st6.z4
      have fz0 := st6.fz 0
      have fz1 := st6.fz 1
      have fz2 := st6.fz 2
      have fz3 := st6.fz 3
      have fz4 := st6.fz 4
      have y0 := st6.y0
      have y1 := st6.y1
      have fy0 := st6.fy 0
      have fy1 := st6.fy 1
      go_wp2_with fail;rw[HG2.out];exact Ht st6 (bad 180 r) Xw Xw rfl rfl rfl (World.ownsRow_nil _ _ _ _) (World.ownsRow_nil _ _ _ _)
     ·rw[hq]at hil HG2
      obtain⟨y,hy⟩:∃k,k=lower r.sub:=⟨_,rfl⟩
      have hlw:=Hw ⟨r.sub.toArray⟩;change ∀w:World,_→Calls _ _ _ _ fun e w'=>e=.returned (.string ⟨(lower r.sub).toArray⟩)∧_ at hlw
      rw[←hy]at hlw;have HY:=hid hy;clear hy hq;go_wp2_with fail
      refine(hil _ hsz).mono ?_
      rintro e w5 ⟨rfl,rfl⟩;go_wp2_with fail
      refine(hlw _ hsz).mono ?_
      rintro e w6 ⟨rfl,hb6⟩;have st6:=st4.below hb6;clear st4 hb6 cp cr2 hil hlw
      rename_i KA hKA KB hKB KC hKC
      have hA:∀(a:Act) (W:World),Fr s w.heap.size (Br+1) a→St w.heap.size Br (Br+1) w W Xw Xw { Tg.zero with lang:=Vh r.sub } r→KA a W:=by
       intro a W hfr st
       obtain⟨u,rfl⟩:=hfr.lit
       have cp:=st.cp;have HG3:Hid (goal=Bf { Tg.zero with lang:=Vh r.sub } r.next):=by rw[HG2.out];rfl
       apply hKA
       clear hKA hKB hKC HG2 HY hfr st6
       go_step
       rename_i KD hKD
       have hB:∀(a:Act) (W:World) (t:Tg) (r:Rd),Fr s w.heap.size (Br+1) a→St w.heap.size Br (Br+1) w W Xw Xw t r→r.all≤128→t.vars=[]→t.keys=[]→goal=Fk t r→KD a W:=by
        clear HG3 cp st hsub hsz hall;intro a W t r hfr st hall hv0 hk0 hgr
        obtain⟨u,rfl⟩:=hfr.lit
        have cp:=st.cp;have cr2:=st.cr2;have HG4:=hid hgr;have HV0:=hid hv0;have HK0:=hid hk0;clear hgr hv0 hk0 hfr
        apply hKD
        clear hKD
        go_step
        rename_i KE hKE
        have hC:∀(a:Act) (W:World) (t:Tg) (r:Rd),Fr s w.heap.size (Br+1) a→St w.heap.size Br (Br+1) w W Xw Xw t r→r.all≤128→t.vars=[]→t.keys=[]→goal=Cl 9 t r→KE a W:=by
         clear cp cr2 HG4 HV0 HK0 st hall;intro a W t r hfr st hall hv0 hk0 hgr
         obtain⟨rest0,hr0,hvr⟩:=Znq s w.heap.size (Br+1) w goal
         have HR0:=hid hr0;have HVR:=hid hvr;clear hr0 hvr
         apply hKE
         clear hKE
         go_step
         go_step3
         go_step
         go_step
         refine Xcz (HVR.out 109 _ _ ?_ _ ?_) (HR0.out.symm.trans rfl)
         ·refine⟨hfr,Br,Xw,t,r,st,hk0,by rw[hv0];simp,by rw[hv0];simp,hall,by rw[hgr,hv0];rfl⟩
         ·exact fun l' n' a' w' hlt hj=>⟨n',Br+1,hj⟩
        clear hKE;have hsub:r.sub.length≤128:=by have:=hall;unfold Rd.all at this;omega
        have hsz:(⟨r.sub.toArray⟩:ByteArray).size≤1000:=by rw[Lib.size_eq];show r.sub.length≤1000;omega
        have hik:=Zfx ⟨r.sub.toArray⟩;change ∀w:World,_→Calls _ _ _ _ fun e w'=>e=.returned (.bool (Xz r.sub))∧_ at hik
        cases hq:Xz r.sub
        ·rw[hq]at hik;have hg5:goal=Cl 9 t r:=by rw[HG4.out,Fk,hq];rfl
         have HG5:=hid hg5;clear hg5 hq;go_wp2_with fail
         refine(hik _ hsz).mono ?_
         rintro e w8 ⟨rfl,rfl⟩;go_wp2_with fail;exact hC _ _ t r ⟨rfl,rfl,rfl,rfl,rfl,rfl,rfl,rfl⟩ st hall HV0.out HK0.out HG5.out
        ·rw[hq]at hik;have hg5:goal=Cl 9 { t with region:=Kf r.sub } r.next:=by rw[HG4.out,Fk,hq];rfl
         have HG5:=hid hg5;clear hg5 hq
         obtain⟨y,hy⟩:∃k,k=Kf r.sub:=⟨_,rfl⟩
         have hup:=Zzq ⟨r.sub.toArray⟩;change ∀w:World,_→Calls _ _ _ _ fun e w'=>e=.returned (.string ⟨(Kf r.sub).toArray⟩)∧_ at hup
         rw[←hy]at hup;have HY:=hid hy;clear hy;go_wp2_with fail
         refine(hik _ hsz).mono ?_
         rintro e w8 ⟨rfl,rfl⟩;go_wp2_with fail
         refine(hup _ hsz).mono ?_
         rintro e w9 ⟨rfl,hb9⟩;have st9:=st.below hb9;clear hb9 hup hik cp cr2 st;have ct2:=st9.ct2;have ft2:=st9.ft 2;have st10:=st9.set 2 (.string ⟨y.toArray⟩) (t':={ t with region:=y }) (vv':=Xw) (kv':=Xw) (by simp[Qv,S]) st9.os st9.op;have cp10:(w9.setCell ⟨w.heap.size+2,2,none⟩ (.string ⟨y.toArray⟩)).cell? ⟨Br+1,0,none⟩=some (.pointer (some ⟨Br,0,none⟩)):=st10.cp;go_wp2_with fail
         refine(st10.next hall).mono ?_
         rintro e w11 ⟨rfl,hn11⟩;have st11:=st10.read hn11;clear hn11 cp10 ct2 ft2 st9;go_wp2_with fail;exact hC _ _ { t with region:=y } r.next ⟨rfl,rfl,rfl,rfl,rfl,rfl,rfl,rfl⟩ st11 (by rw[Rd.next_all];exact hall) HV0.out HK0.out (by rw[HY.out];exact HG5.out)
       clear hKD;go_wp2_with fail
       refine(st.next hall).mono ?_
       rintro e w7 ⟨rfl,hn7⟩;have st7:=st.read hn7;have ha7:r.next.all≤128:=by rw[Rd.next_all];exact hall
       clear hn7 st cp hsub hsz hall;generalize r.next=r1 at *;have cp:=st7.cp;have cr2:=st7.cr2;have hsub:r1.sub.length≤128:=by have:=ha7;unfold Rd.all at this;omega
       have hsz:(⟨r1.sub.toArray⟩:ByteArray).size≤1000:=by rw[Lib.size_eq];show r1.sub.length≤1000;omega
       have hik:=Zfz ⟨r1.sub.toArray⟩;change ∀w:World,_→Calls _ _ _ _ fun e w'=>e=.returned (.bool (Xq r1.sub))∧_ at hik
       cases hq:Xq r1.sub
       ·rw[hq]at hik;have hg5:goal=Fk { Tg.zero with lang:=Vh r.sub } r1:=by rw[HG3.out,Bf,hq];rfl
        have HG5:=hid hg5;clear hg5 hq;go_wp2_with fail
        refine(hik _ hsz).mono ?_
        rintro e w8 ⟨rfl,rfl⟩;go_wp2_with fail;exact hB _ _ _ r1 ⟨rfl,rfl,rfl,rfl,rfl,rfl,rfl,rfl⟩ st7 ha7 rfl rfl HG5.out
       ·rw[hq]at hik;have h04:0<(⟨r1.sub.toArray⟩:ByteArray).size:=by
         rw[Lib.size_eq];show 0<r1.sub.length
         have:=hq;simp only[Xq,Vy,Bool.and_eq_true,beq_iff_eq]at this;omega
        have hg5:goal=Fk { Tg.zero with lang:=Vh r.sub,script:=Vp r1.sub } r1.next:=by rw[HG3.out,Bf,hq];rfl
        have HG5:=hid hg5;clear hg5 hq
        obtain⟨y2,hy2⟩:∃k,k=Vp r1.sub:=⟨_,rfl⟩
        have hup:=Title_any ⟨r1.sub.toArray⟩;change ∀w:World,_→_→Calls _ _ _ _ fun e w'=>e=.returned (.string ⟨(Vp r1.sub).toArray⟩)∧_ at hup
        rw[←hy2]at hup;have HY2:=hid hy2;clear hy2;go_wp2_with fail
        refine(hik _ hsz).mono ?_
        rintro e w8 ⟨rfl,rfl⟩;go_wp2_with fail
        refine(hup _ hsz h04).mono ?_
        rintro e w9 ⟨rfl,hb9⟩;have st9:=st7.below hb9;clear hb9 hup hik cp cr2 st7;have ct1:=st9.ct1;have ft1:=st9.ft 1;have st10:=st9.set 1 (.string ⟨y2.toArray⟩) (t':={ Tg.zero with lang:=Vh r.sub,script:=y2 }) (vv':=Xw) (kv':=Xw) (by simp[Qv,S,Tg.zero]) st9.os st9.op;have cp10:(w9.setCell ⟨w.heap.size+2,1,none⟩ (.string ⟨y2.toArray⟩)).cell? ⟨Br+1,0,none⟩=some (.pointer (some ⟨Br,0,none⟩)):=st10.cp;go_wp2_with fail
        refine(st10.next ha7).mono ?_
        rintro e w11 ⟨rfl,hn11⟩;have st11:=st10.read hn11;clear hn11 cp10 ct1 ft1 st9;go_wp2_with fail;exact hB _ _ { Tg.zero with lang:=Vh r.sub,script:=y2 } r1.next ⟨rfl,rfl,rfl,rfl,rfl,rfl,rfl,rfl⟩ st11 (by rw[Rd.next_all];exact ha7) rfl rfl (by rw[HY2.out];exact HG5.out)
      clear hKA;have ct0:=st6.ct0;have ft0:=st6.ft 0;have ct0':w6.cell? ⟨w.heap.size+1+1,0,none⟩=some (.string ⟨#[]⟩):=ct0;have ft0':w6.frozen? ⟨w.heap.size+1+1,0,none⟩=false:=ft0;have st7:=st6.set 0 (.string ⟨y.toArray⟩) (t':={ Tg.zero with lang:=y }) (vv':=Xw) (kv':=Xw) (by simp[Qv,S,Tg.zero]) st6.os st6.op;clear ct0 ft0
      by_cases hu:y=[117,110,100]
      ·have hub:(y==[117,110,100])=true:=by rw[hu];rfl
       have HU:=hid hu;clear hu;go_wp2_with fail;refine hA _ _ ⟨rfl,rfl,rfl,rfl,rfl,rfl,rfl,rfl⟩ ?_;have hlg:Vh r.sub=[]:=by unfold Vh;rw[←HY.out,HU.out];rfl
       rw[hlg];exact st7.set 0 (.string ⟨#[]⟩) (t':=Tg.zero) (vv':=Xw) (kv':=Xw) (by simp[Qv,S,Tg.zero]) st7.os st7.op
      ·have hub:(y==[117,110,100])=false:=by rw[beq_eq_false_iff_ne];exact hu
       have HU:=hid hu;clear hu;go_wp2_with fail;refine hA _ _ ⟨rfl,rfl,rfl,rfl,rfl,rfl,rfl,rfl⟩ ?_;have hlg:Vh r.sub=y:=by unfold Vh;rw[←HY.out];exact if_neg HU.out
       rw[hlg];exact st7
 ·rintro l n a wl ⟨Bp,hJ⟩
  match l,hJ with
  |0,hJ =>
   obtain⟨rest,hr,hp⟩:=Znq s w.heap.size Bp w goal
   exact⟨_,hr,Qvg (hp n a wl hJ _ (fun l' n' a' w' hlt hj=>⟨n',hlt,Bp,hj⟩))⟩
  |1,hJ =>
   obtain⟨rest,hr,hp⟩:=Zpg s w.heap.size Bp w goal
   exact⟨_,hr,Qvg (hp n a wl hJ _ (fun n' a' w' hlt hj=>⟨n',hlt,Bp,hj⟩))⟩
  |l+2,hJ=>exact absurd hJ (by simp[J])
end
end Go.Proofs.YtbbmdbolkicpcabGreatDoor
