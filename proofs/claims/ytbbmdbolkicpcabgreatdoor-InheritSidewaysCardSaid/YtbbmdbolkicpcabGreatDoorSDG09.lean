/- TbItem, TbTake, Check, BoxC, Name, Boxes, Named, NamedC -/
import Derived.Test.YtbbmdbolkicpcabGreatDoorSDG08
import Derived.Deep.RegionHeld3
import Derived.Test.YtbbmdbolkicpcabGreatDoorSDG05
import Derived.Test.YtbbmdbolkicpcabGreatDoorSDG07
set_option maxRecDepth 100000
set_option maxHeartbeats 32000000
set_option linter.unusedVariables false
set_option linter.unusedSimpArgs false
namespace Go.Proofs.YtbbmdbolkicpcabGreatDoor
section
open Go.RowKit Go.Lib Go.Sort Go.Maps Go.WideMaps
theorem Zm.len {α:Type}{E:El α}{w:World}{b n:Nat}{L:List (Str×α)}(h:Zm E w b n L){mt e:TypeId}(hu:Tryz.prog.underlying mt=some (.map 9 e))(hn:(L.map (·.1)).Nodup)(ty:TypeId) :
  (Builtin.len_ #[mt] ty #[.map (some b)]).run Tryz.prog w=.ok (.int .i64 L.length) w:=by
 obtain⟨m,hown,hat⟩:=h
 have hp:=(Zm.keys hown hat hn).length_eq
 obtain⟨es,rfl,_⟩:=hown.keysOf
 rw[hown.len hu ty]
 have:Maps.size (DataW.map es)=L.length:=by
  rw[List.length_map]at hp;rw[hp]
  simp[Maps.size,strKeys]
 rw[this]
structure Fs (B:Nat)(w w':World):Prop where
 bel:Below B w w'
 cells:∀(k:Nat) (cs:Array Value) (ty:TypeId) (z:Nat×Nat),w.heap[k]?=some (Obj.cells cs ty z)→w'.heap[k]?=some (Obj.cells cs ty z)
section
variable {B:Nat}{w w1 w2:World}
theorem Fs.of (hb:Below w.heap.size w w1)(hB:B≤w.heap.size):Fs B w w1:=⟨hb.mono hB,fun k cs ty z h=>(hb.block k (lt_of_block h)).trans h⟩
theorem Fs.then (h:Fs B w w1)(hb:Below w1.heap.size w1 w2)(hB:B≤w1.heap.size):Fs B w w2 :=
 ⟨h.bel.trans (hb.mono hB),fun k cs ty z hk=>(hb.block k (lt_of_block (h.cells k cs ty z hk))).trans (h.cells k cs ty z hk)⟩
theorem Fs.drew (h:Fs B w w1):Fs B w w1.drew:=⟨h.bel.drew,h.cells⟩
theorem Fs.drewN (h:Fs B w w1)(n:Nat):Fs B w (w1.drewN n):=⟨below_drewN h.bel n,h.cells⟩
theorem Fs.grown (h:Fs B w w1){α:Type}{E:El α}{b n:Nat}{L:List (Str×α)}(o:Zm E w1 b n L)(gr:w1.grownBy w2 (some b))(hB:B≤w1.heap.size)(hb:B≤b):Fs B w w2:=by
 refine⟨h.bel.grown gr hB (fun k hk=>by cases hk;exact hb),fun k cs ty z hk=>?_⟩
 have h1:=h.cells k cs ty z hk
 obtain⟨es,ck,hm⟩:=o.isMap
 rw[gr.block k (lt_of_block h1) (by rintro e;cases e;rw[hm]at h1;cases h1)];exact h1
end
structure Yp (B0:Nat)(W:World)(Bt bv ba bn bp N:Nat)(V:List (Str×Nat))(t:Tb):Prop where
 at_:Fn W Bt bv ba bn bp N V t
 lo:B0≤Bt∧B0≤bv∧B0≤ba∧B0≤bn∧B0≤bp
 each:∀p∈V,B0≤p.2
section
variable {B0:Nat}{W W' : World}{Bt bv ba bn bp N:Nat}{V:List (Str × Nat)}{t:Tb}
theorem Yp.below (h:Yp B0 W Bt bv ba bn bp N V t)(hb:Below W.heap.size W W'):Yp B0 W' Bt bv ba bn bp N V t:=⟨h.at_.below hb,h.lo,h.each⟩
theorem Yp.mono {N':Nat}(h:Yp B0 W Bt bv ba bn bp N V t)(hn:N≤N'):Yp B0 W Bt bv ba bn bp N' V t:=⟨h.at_.mono hn,h.lo,h.each⟩
theorem Yp.box (h:Yp B0 W Bt bv ba bn bp N V t):W.cell? ⟨Bt,0,none⟩=some (.map (some bv))∧W.cell? ⟨Bt,1,none⟩=some (.map (some ba))∧W.cell? ⟨Bt,2,none⟩=some (.map (some bn))∧W.cell? ⟨Bt,3,none⟩=some (.map (some bp))∧Bt<W.heap.size:=by
 have hb:=h.at_.box
 exact⟨by rw[cell_of_row _ _ _ _ _ _ hb];rfl,by rw[cell_of_row _ _ _ _ _ _ hb];rfl,by rw[cell_of_row _ _ _ _ _ _ hb];rfl,by rw[cell_of_row _ _ _ _ _ _ hb];rfl,lt_of_block hb⟩
theorem Fn.putAl (h:Fn W Bt bv ba bn bp N V t)(l:List Rw)(hl:∀r∈l,r.loc=Qs)(o:Zm Gm W' ba (N+1) (sdL l))(gr:W.grownBy W' (some ba)):Fn W' Bt bv ba bn bp (N+1) V { t with als:=l }:=by
 obtain⟨h1,h2,h3,h5,h6,h8,hV⟩:=h.lo
 have hN:N≤N+1:=Nat.le_succ N
 exact⟨Kk h.box h.als gr,(h.vals.kept gr h1).mono hN,o,(h.names.kept gr (Ne.symm h5)).mono hN,(h.paths.kept gr (Ne.symm h6)).mono hN,
  fun p hp=>((h.each p hp).kept gr (hV p hp).2.1).mono hN,h.keys,h.has,hl,h.apart⟩
end
def putAl (t:Tb)(f:Nat)(x:Itm):List Rw:=match Jk t.als Qs x.path with|none=>t.als++[⟨Qs,x.path,x.value,f,x.at'⟩] |some _=>t.als
section
variable {t:Tb}{loc:Str}{f:Nat}{x:Itm}
theorem Xhq (h:∀r∈t.als,r.loc=Qs):∀r∈putAl t f x,r.loc=Qs:=by
 intro r hr;unfold putAl at hr
 cases hf:Jk t.als Qs x.path with
 |none =>
  rw[hf]at hr
  rcases List.mem_append.1 hr with hr|hr
  ·exact h r hr
  ·rw[List.mem_singleton.1 hr]
 |some y=>rw[hf]at hr;exact h r hr
theorem putAl_sd (h:∀r∈t.als,r.loc=Qs):Xyh (sdL t.als) x.path (x.value,(f:Int),x.at')=sdL (putAl t f x):=by
 unfold Xyh putAl;rw[Ztw h]
 cases hf:Jk t.als Qs x.path with
 |none=>simp[sdL,Qhv]
 |some y=>rfl
theorem item_path (h:x.path=[]∨Zv x.path=false):Vr t loc f x=(2,t):=by unfold Vr;rw[if_pos h]
theorem Xhz (h:¬(x.path=[]∨Zv x.path=false))(ha:x.alias'=true)(hl:loc≠Qs):Vr t loc f x=(221,t):=by unfold Vr;rw[if_neg h,if_pos ⟨ha,hl⟩]
theorem Xhx (hr:∀r∈t.als,r.loc=Qs)(h:¬(x.path=[]∨Zv x.path=false))(ha:x.alias'=true)(hl:loc=Qs):Vr t loc f x=if Xyg (sdL t.als) x.path x.value=true then(0,{ t with als:=putAl t f x }) else(220,t):=by
 unfold Vr;rw[if_neg h,if_neg (fun e=>e.2 hl),if_pos ha];subst hl;have hR:Xyg (sdL t.als) x.path x.value=match Jk t.als Qs x.path with|none=>true|some y=>y.text==x.value:=by
  unfold Xyg;rw[Ztw hr]
  cases Jk t.als Qs x.path <;> rfl
 rw[hR];unfold putAl
 cases hf:Jk t.als Qs x.path with
 |none=>rfl
 |some y =>
  show(if y.text=x.value then((0:Nat),t) else(220,t))=if(y.text==x.value)=true then(0,t) else(220,t)
  by_cases e:y.text=x.value
  ·rw[if_pos e,if_pos (by rw[e];exact beq_self_eq_true _)]
  ·rw[if_neg e,if_neg (by rw[beq_iff_eq];exact e)]
theorem item_old (h:¬(x.path=[]∨Zv x.path=false))(ha:x.alias'=false){r:Rw}(hf:Jk t.rows loc x.path=some r):Vr t loc f x=if r.text=x.value then(0,t) else(220,t):=by
 unfold Vr;rw[if_neg h,if_neg (by simp[ha]),if_neg (by simp[ha]),hf]
theorem item_new (h : ¬ (x.path = [] ∨ Zv x.path = false)) (ha : x.alias' = false) (hf : Jk t.rows loc x.path = none) : Vr t loc f x = if x.path ∈ t.paths then (0, { t with rows := t.rows ++ [⟨loc, x.path, x.value, f, x.at'⟩] })
      else if t.paths.length=16384 then (3,t)
      else (0,{ t with rows := t.rows++[⟨loc,x.path,x.value,f,x.at'⟩],paths := t.paths++[x.path] }) := by
  unfold Vr
  rw[if_neg h,if_neg (by simp[ha]),if_neg (by simp[ha]),hf]
end
theorem Xl {W:World}{B:Nat}{a b c d e:Value}{ty:TypeId}(h:W.heap[B]?=some (.cells #[a,b,c,d,e] ty (0,0))) :
  W.cell? ⟨B,0,none⟩=some a∧W.cell? ⟨B,1,none⟩=some b∧W.cell? ⟨B,2,none⟩=some c∧W.cell? ⟨B,3,none⟩=some d∧W.cell? ⟨B,4,none⟩=some e∧B<W.heap.size :=
 ⟨by rw[cell_of_row _ _ _ _ _ _ h];rfl,by rw[cell_of_row _ _ _ _ _ _ h];rfl,by rw[cell_of_row _ _ _ _ _ _ h];rfl,by rw[cell_of_row _ _ _ _ _ _ h];rfl,by rw[cell_of_row _ _ _ _ _ _ h];rfl,lt_of_block h⟩
theorem Cb {W W':World}{b c i:Nat}{v:Value}(gr:W.grownBy W' (some c))(hlt:b<W.heap.size)(hne:b≠c)(h:W.cell? ⟨b,i,none⟩=some v):W'.cell? ⟨b,i,none⟩=some v:=by
 rw[World.cell?_of_block (gr.block b hlt (by simpa using hne))];exact h
theorem keep_said {B0 Bt bv ba bn bp N bi bs:Nat}{W W':World}{V:List (Str×Nat)}{t:Tb}{p s0 s1 s2:Value}{c1 c2 c3 c4:Value}{ty ty2:TypeId}(h:Yp B0 W Bt bv ba bn bp N V t)(hi:W.heap[bi]?=some (.cells #[p,c1,c2,c3,c4] ty (0,0)))(hs:W.heap[bs]?=some (.cells #[s0,s1,s2] ty2 (0,0)))(g:W.drew.grownBy W' (some ba)) :
  W'.cell? ⟨Bt,1,none⟩=some (.map (some ba))∧W'.cell? ⟨bi,0,none⟩=some p∧W'.cell? ⟨bs,0,none⟩=some s0∧W'.cell? ⟨bs,1,none⟩=some s1∧W'.cell? ⟨bs,2,none⟩=some s2:=by
 obtain⟨es,ck,hm⟩:=h.at_.als.isMap
 have n1:Bt≠ba:=by rintro rfl;have:=h.at_.box;rw[hm]at this;cases this
 have n2:bi≠ba:=by rintro rfl;rw[hm]at hi;cases hi
 have n3:bs≠ba:=by rintro rfl;rw[hm]at hs;cases hs
 obtain⟨_,t1,_,_,tl⟩:=h.box
 obtain⟨i0,_,_,_,_,il⟩:=Xl hi
 obtain⟨x0,x1,x2,xl⟩:=Qn hs
 exact⟨Cb g tl n1 t1,Cb g il n2 i0,Cb g xl n3 x0,Cb g xl n3 x1,Cb g xl n3 x2⟩
theorem Yw {B0:Nat}{w W':World}{Bt bv ba bn bp N e1:Nat}{t t1:Tb}{loc:Str}{f:Nat}{x:Itm}(h:Vr t loc f x=(e1,t1))(hb:Fs B0 w W')(ht:e1=0→∃V',Yp B0 W' Bt bv ba bn bp (N+4) V' t1) :
  Ending.returned (.int .i64 (e1:Int))=Ending.returned (.int .i64 (Vr t loc f x).1)∧Fs B0 w W'∧((Vr t loc f x).1=0→∃V',Yp B0 W' Bt bv ba bn bp (N+4) V' (Vr t loc f x).2):=by
 rw[h];exact⟨rfl,hb,ht⟩
theorem Hm (L:List Str):(Jw L).map (·.1)=L:=by unfold Jw;rw[List.map_map];exact List.map_id' L
theorem Zth (x y:Int)(w:World):(Instr.field 78 (.agg #[.int .i64 x,.int .i64 y]) 0).run Tryz.prog w=.ok (.int .i64 x) w:=by kernel_rfl
theorem not_both {a b:Prop}(ha:¬a)(hb:¬b):¬(a∨b):=fun h=>h.elim ha hb
end
section
open Go.RowKit Go.Lib Go.Sort Go.Maps Go.WideMaps
theorem item_any (B0:Nat)(w:World){Bt bv ba bn bp N:Nat}{V:List (Str×Nat)}{t:Tb}(loc:Str)(f:Nat)(x:Itm)(h:Yp B0 w Bt bv ba bn bp N V t)(ok:Fx t)(hB:B0≤w.heap.size)(hN:N+4<maxLen)(hl:loc.length≤maxLen)(hp:x.path.length≤maxLen) :
  Calls Tryz.prog 48 #[.pointer (some ⟨Bt,0,none⟩),.string ⟨loc.toArray⟩,.int .i64 f,.agg #[.string ⟨x.path.toArray⟩,.string ⟨x.value.toArray⟩,.bool x.alias',.string ⟨x.draft.toArray⟩,.int .i64 x.at']] w fun e w' =>
   e=.returned (.int .i64 (Vr t loc f x).1)∧Fs B0 w w'∧((Vr t loc f x).1=0→∃V',Yp B0 w' Bt bv ba bn bp (N+4) V' (Vr t loc f x).2):=by
 have HOK:=hid ok;have HPATH:=hid (fun hh=>item_path (t:=t) (loc:=loc) (f:=f) (x:=x) hh);have HPLACE:=hid (fun h1 h2 h3=>Xhz (t:=t) (loc:=loc) (f:=f) (x:=x) h1 h2 h3);have HALIAS:=hid (fun h1 h2 h3=>Xhx (t:=t) (loc:=loc) (f:=f) (x:=x) ok.root h1 h2 h3);have HOLD:=hid (fun h1 h2 r h3=>item_old (t:=t) (loc:=loc) (f:=f) (x:=x) h1 h2 (r:=r) h3);have HNEW:=hid (fun h1 h2 h3=>item_new (t:=t) (loc:=loc) (f:=f) (x:=x) h1 h2 h3);have HPUT:=hid (putAl_sd (t:=t) (f:=f) (x:=x) ok.root);have HPUTR:=hid (Xhq (t:=t) (f:=f) (x:=x) ok.root)
 obtain⟨xp,xv,xal,xd,xa⟩:=x
 simp only at *;have F1:=hid (heap_alloc_new w (.cells #[.string ⟨xp.toArray⟩,.string ⟨xv.toArray⟩,.bool xal,.string ⟨xd.toArray⟩,.int .i64 xa] 53));have hb1:Below w.heap.size w (w.alloc (.cells #[.string ⟨xp.toArray⟩,.string ⟨xv.toArray⟩,.bool xal,.string ⟨xd.toArray⟩,.int .i64 xa] 53)):=bal _ _;have T1:=hid (h.below hb1);have B1:=hid (Fs.of hb1 hB);have HS1:=hid hb1.size;have CK:=hid (fun W=>Cf xp W hp);clear hb1 ok h
 by_cases he:xp=[]
 ·subst he;have HRES:=hid (HPATH.out (Or.inl rfl))
  go_enter Tryz.func48,Tryz.ntmps48
  go_upto_region 1 with fail;generalize w.alloc (.cells #[.string ⟨([]:Str).toArray⟩,.string ⟨xv.toArray⟩,.bool xal,.string ⟨xd.toArray⟩,.int .i64 xa] 53)=w1 at *
  obtain⟨c0,c1,c2,c3,c4,lt⟩:=Xl F1.out
  go_wp2_with fail;exact bodyPost_ret (v:=.int .i64 2) (by simp[results,Tryz.results48,go_sem]) rfl (Yw (e1:=2) HRES.out (B1.out) (fun h=>by cases h))
 ·have hne:List.isEmpty xp=false:=Pt he;have hne2:(xp==[])=false:=by rw[beq_eq_false_iff_ne];exact he
  have HE:=hid he;clear he
  go_enter Tryz.func48,Tryz.ntmps48
  go_upto_region 1 with fail;generalize w.alloc (.cells #[.string ⟨xp.toArray⟩,.string ⟨xv.toArray⟩,.bool xal,.string ⟨xd.toArray⟩,.int .i64 xa] 53)=w1 at *
  obtain⟨c0,c1,c2,c3,c4,lt⟩:=Xl F1.out
  go_wp2_with fail
  refine(CK.out w1).mono ?_
  rintro e w2 ⟨⟨er,ea,rfl,hi⟩,hb2⟩;have HI:=hid hi;have hfd:=Zth er ea w2;have T2:=hid (T1.out.below hb2);have F2:=hid (bk hb2 F1.out);have B2:=hid (B1.out.then hb2 (Nat.le_trans hB HS1.out));have HS2:=hid (Nat.le_trans HS1.out hb2.size);clear hi hb2 c0 c1 c2 c3 c4 lt T1 F1 B1 HS1 CK
  obtain⟨c0,c1,c2,c3,c4,lt⟩:=Xl F2.out
  cases hpb:Zv xp with
  |false =>
   have hz:(er:Int)≠0:=by
    intro e
    have:=HI.out.1 (by omega)
    rw[hpb]at this;cases this
   have hz1:((er:Int) != 0)=true:=by rw[bne_iff_ne];exact hz
   have hz2:er≠0:=by omega
   have HRES:=hid (HPATH.out (Or.inr hpb));go_wp2_with fail;exact bodyPost_ret (v:=.int .i64 2) (by simp[results,Tryz.results48,go_sem]) rfl (Yw (e1:=2) HRES.out (B2.out) (fun h=>by cases h))
  |true =>
   obtain rfl:er=0:=HI.out.2 hpb;have HGOOD:=hid (not_both HE.out (show ¬Zv xp=false by rw[hpb];simp));clear hpb HI;have hfd0:=Zth 0 ea w2;have SB:=hid ((Below.refl w2.heap.size w2).alloc (Nat.le_refl _) (.cells #[.string ⟨xv.toArray⟩,.int .i64 f,.int .i64 xa] 137));have G3:=hid (heap_alloc_new w2 (.cells #[.string ⟨xv.toArray⟩,.int .i64 f,.int .i64 xa] 137));have T3:=hid (T2.out.below SB.out);have F3:=hid (bk SB.out F2.out);have SBL:=hid SB.out.size;have HLW:=hid (show w.heap.size<w2.heap.size from lt_of_block F2.out);have B3:=hid (B2.out.then SB.out (show B0≤w2.heap.size from Nat.le_trans hB HS2.out))
   cases xal with
   |true =>
    by_cases hr:loc=Qs
    ·have hub:(loc==[114,111,111,116])=true:=by rw[hr];rfl
     have hub2:(loc != [114,111,111,116])=false:=by rw[hr];rfl
     have HRES:=hid (HALIAS.out HGOOD.out (by simp) hr);clear hr;go_upto_region 6 with fail;generalize w2.alloc (.cells #[.string ⟨xv.toArray⟩,.int .i64 f,.int .i64 xa] 137)=w3 at *;clear c0 c1 c2 c3 c4 lt T2 F2 B2
     obtain⟨c0,c1,c2,c3,c4,lt⟩:=Xl F3.out
     obtain⟨s0,s1,s2,sl⟩:=Qn G3.out
     obtain⟨t0,t1,t2,t3,tl⟩:=T3.out.box
     go_wp2_with fail;have PUT:=hid (Zdj w3.drew ba N (sdL t.als) xp xv f xa (show Zm Gm w3.drew ba N (sdL t.als)from T3.out.at_.als.block rfl) (by omega) hp);generalize hR:Xyg (sdL t.als) xp xv=r at *;have KS:=hid (fun W' (g:w3.drew.grownBy W' (some ba))=>keep_said T3.out F3.out G3.out g);have S0:w3.drew.cell? ⟨Bt,1,none⟩=some (.map (some ba))∧w3.drew.cell? ⟨w.heap.size,0,none⟩=some (.string ⟨xp.toArray⟩)∧w3.drew.cell? ⟨w2.heap.size,0,none⟩=some (.string ⟨xv.toArray⟩)∧w3.drew.cell? ⟨w2.heap.size,1,none⟩=some (.int .i64 f)∧w3.drew.cell? ⟨w2.heap.size,2,none⟩=some (.int .i64 xa):=⟨t1,c0,s0,s1,s2⟩
     go_region_held3 (fun W=>W.cell? ⟨Bt,1,none⟩=some (.map (some ba))∧W.cell? ⟨w.heap.size,0,none⟩=some (.string ⟨xp.toArray⟩)∧W.cell? ⟨w2.heap.size,0,none⟩=some (.string ⟨xv.toArray⟩)∧W.cell? ⟨w2.heap.size,1,none⟩=some (.int .i64 f)∧W.cell? ⟨w2.heap.size,2,none⟩=some (.int .i64 xa)) (first|with_reducible assumption|go_keep)
      (first|(go_at_call 97;refine PUT.out.mono ?_;rintro e w4 ⟨rfl,ho,hg⟩;have hs:w4.cell? ⟨Bt,1,none⟩=some (.map (some ba))∧w4.cell? ⟨w.heap.size,0,none⟩=some (.string ⟨xp.toArray⟩)∧w4.cell? ⟨w2.heap.size,0,none⟩=some (.string ⟨xv.toArray⟩)∧w4.cell? ⟨w2.heap.size,1,none⟩=some (.int .i64 f)∧w4.cell? ⟨w2.heap.size,2,none⟩=some (.int .i64 xa):=KS.out _ hg))
     all_goals
      have HO4:=hid ho;have HG4:=hid hg;clear ho hg hs S0 c0 c1 c2 c3 c4 lt s0 s1 s2 sl t0 t1 t2 t3 tl;have T4:=hid (show Yp B0 w4 Bt bv ba bn bp (N+1) V { t with als:=putAl t f ⟨xp,xv,true,xd,xa⟩ } from⟨(show Fn w3.drew Bt bv ba bn bp N V t from(T3.out.below (Below.refl _ _).drew).at_).putAl _ HPUTR.out (by rw[←HPUT.out];exact HO4.out) HG4.out,T3.out.lo,T3.out.each⟩);have B4:=hid (B3.out.drew.grown (show Zm Gm w3.drew ba N (sdL t.als)from T3.out.at_.als.block rfl) HG4.out (Nat.le_trans hB (Nat.le_trans HS2.out SBL.out)) T3.out.lo.2.2.1)
      cases r with
      |true =>
       have HRES2:=hid (HRES.out.trans (if_pos rfl));go_wp2_with fail;exact bodyPost_ret (v:=.int .i64 0) (by simp[results,Tryz.results48,go_sem]) rfl (Yw (e1:=0) HRES2.out (B4.out) (fun _=>⟨V,T4.out.mono (by omega)⟩))
      |false =>
       have HRES2:=hid (HRES.out.trans (if_neg (by simp)));go_wp2_with fail;exact bodyPost_ret (v:=.int .i64 220) (by simp[results,Tryz.results48,go_sem]) rfl (Yw (e1:=220) HRES2.out (B4.out) (fun h=>by cases h))
    ·have hub:(loc==[114,111,111,116])=false:=by rw[beq_eq_false_iff_ne];exact hr
     have hub2:(loc != [114,111,111,116])=true:=by rw[bne_iff_ne];exact hr
     have HRES:=hid (HPLACE.out HGOOD.out (by simp) hr);clear hr;go_wp2_with fail;exact bodyPost_ret (v:=.int .i64 221) (by simp[results,Tryz.results48,go_sem]) rfl (Yw (e1:=221) HRES.out (B2.out) (fun h=>by cases h))
   |false =>
    go_upto_region 6 with fail;generalize w2.alloc (.cells #[.string ⟨xv.toArray⟩,.int .i64 f,.int .i64 xa] 137)=w3 at *;clear c0 c1 c2 c3 c4 lt T2 F2 B2
    obtain⟨c0,c1,c2,c3,c4,lt⟩:=Xl F3.out
    obtain⟨s0,s1,s2,sl⟩:=Qn G3.out
    obtain⟨t0,t1,t2,t3,tl⟩:=T3.out.box
    obtain⟨o,ho⟩:∃o,o=Zb V loc:=⟨_,rfl⟩
    have HO:=hid ho;clear ho
    go_upto_if 59 with (at_lookup;refine Gk (E:=Zdx) T3.out.at_.vals Tryz.underlying97 Em rfl _ _ rfl rfl loc rfl hl (.map o) o.isSome (by rw[Pr,←HO.out];cases o <;> rfl) (by rw[Pr,←HO.out];cases o <;> rfl) ?_)
    go_cut[10]from 58 to 66 (fun v wx=>∃bm V',v=.map (some bm)∧(loc,bm)∈V'∧Yp B0 wx Bt bv ba bn bp (N+1) V' t∧wx.heap[w.heap.size]?=some (.cells #[.string ⟨xp.toArray⟩,.string ⟨xv.toArray⟩,.bool false,.string ⟨xd.toArray⟩,.int .i64 xa] 53 (0,0))∧wx.heap[w2.heap.size]?=some (.cells #[.string ⟨xv.toArray⟩,.int .i64 f,.int .i64 xa] 137 (0,0))∧Fs B0 w wx)
    case first =>
     cases o with
     |some bm =>
      go_wp2_with fail
      go_meet
      exact⟨bm,V,rfl,Eb HO.out.symm,T3.out.mono (Nat.le_succ N),F3.out,G3.out,B3.out⟩
     |none =>
      have hmm:=@run_makeMap Tryz.prog;have HA:=hid (bal w3 (.map #[] 0));have T4:=hid (T3.out.below HA.out);have F4:=hid (bk HA.out F3.out);have G4:=hid (bk HA.out G3.out);clear c0 c1 c2 c3 c4 lt s0 s1 s2 sl t0 t1 t2 t3 tl
      obtain⟨t0,t1,t2,t3,tl⟩:=T4.out.box
      go_wp2_with (at_mapUpdate;refine Sp (E:=Zdx) T4.out.at_.vals (by omega) Tryz.underlying97 rfl _ _ _ rfl rfl loc rfl hl (some w3.heap.size) rfl (by rw[Pr,←HO.out];rfl) ?_;intro w5 ho5 hg5;have HO5:=hid ho5;have HG5:=hid hg5;clear ho5 hg5)
      go_meet
      exact⟨w3.heap.size,V++[(loc,w3.heap.size)],rfl,by simp,⟨T3.out.at_.addMap loc HO.out.symm HO5.out HG5.out,T3.out.lo,fun p hp=>by
       rcases List.mem_append.1 hp with hp|hp
       ·exact T3.out.each p hp
       ·rw[List.mem_singleton.1 hp];exact Nat.le_trans hB (Nat.le_trans HS2.out SBL.out)⟩,Kk F4.out T4.out.at_.vals HG5.out,Kk G4.out T4.out.at_.vals HG5.out,
       (B3.out.then HA.out (Nat.le_trans hB (Nat.le_trans HS2.out SBL.out))).grown T4.out.at_.vals HG5.out (Nat.le_trans hB (Nat.le_trans HS2.out (Nat.le_trans SBL.out HA.out.size))) T3.out.lo.2.1⟩
    case rest =>
     obtain⟨bm,V',rfl,hin,tb5,f5,g5,b5⟩:=hcut
     rename World=>w5
     have T5:=hid tb5;have F5:=hid f5;have G5:=hid g5;have B5:=hid b5;have HIN:=hid hin;clear tb5 f5 g5 b5 hin c0 c1 c2 c3 c4 lt s0 s1 s2 sl t0 t1 t2 t3 tl T3 F3 G3 B3 HO;have HS5:=hid (show B0≤w5.heap.size by have:=T5.out.lo.1;have:=T5.out.box.2.2.2.2;omega)
     obtain⟨c0,c1,c2,c3,c4,lt⟩:=Xl F5.out
     obtain⟨r,hr⟩:∃r,r=Jk t.rows loc xp:=⟨_,rfl⟩
     have LKM:=hid (show Zb (sdL (Kc t loc)) xp=r.map Qhv by rw[Zvk,hr]);have HR:=hid hr;clear hr
     cases r with
     |some r =>
      have HRES:=hid (HOLD.out HGOOD.out (by simp) r HR.out.symm)
      go_upto_region 15 with (at_lookup;refine Gk (E:=Gm) (T5.out.at_.each _ HIN.out) Tryz.underlying98 Qnq rfl _ _ rfl rfl xp rfl hp (.agg #[.string ⟨r.text.toArray⟩,.int .i64 r.file,.int .i64 r.at']) true (by rw[LKM.out];rfl) (by rw[LKM.out];rfl) ?_)
      have HA:=hid (bal w5 (.cells #[.string ⟨r.text.toArray⟩,.int .i64 r.file,.int .i64 r.at'] 137));have Y6:=hid (heap_alloc_new w5 (.cells #[.string ⟨r.text.toArray⟩,.int .i64 r.file,.int .i64 r.at'] 137));generalize w5.alloc (.cells #[.string ⟨r.text.toArray⟩,.int .i64 r.file,.int .i64 r.at'] 137)=w6 at *;have F6:=hid (bk HA.out F5.out);have T6:=hid (T5.out.below HA.out);have B6:=hid (B5.out.then HA.out HS5.out);clear c0 c1 c2 c3 c4 lt
      obtain⟨c0,c1,c2,c3,c4,lt⟩:=Xl F6.out
      obtain⟨y0,y1,y2,yl⟩:=Qn Y6.out
      by_cases ht:r.text=xv
      ·have hub:(r.text != xv)=false:=by rw[bne_eq_false_iff_eq];exact ht
       have hub2:(r.text==xv)=true:=by rw[beq_iff_eq];exact ht
       have HRES2:=hid (HRES.out.trans (if_pos ht));clear ht;go_wp2_with fail;exact bodyPost_ret (v:=.int .i64 0) (by simp[results,Tryz.results48,go_sem]) rfl (Yw (e1:=0) HRES2.out (B6.out) (fun _=>⟨V',T6.out.mono (by omega)⟩))
      ·have hub:(r.text != xv)=true:=by rw[bne_iff_ne];exact ht
       have hub2:(r.text==xv)=false:=by rw[beq_eq_false_iff_ne];exact ht
       have HRES2:=hid (HRES.out.trans (if_neg ht));clear ht;go_wp2_with fail;exact bodyPost_ret (v:=.int .i64 220) (by simp[results,Tryz.results48,go_sem]) rfl (Yw (e1:=220) HRES2.out (B6.out) (fun h=>by cases h))
     |none =>
      have HRES:=hid (HNEW.out HGOOD.out (by simp) HR.out.symm)
      go_upto_region 15 with (at_lookup;refine Gk (E:=Gm) (T5.out.at_.each _ HIN.out) Tryz.underlying98 Qnq rfl _ _ rfl rfl xp rfl hp (.agg #[.string ⟨#[]⟩,.int .i64 0,.int .i64 0]) false (by rw[LKM.out];rfl) (by rw[LKM.out];rfl) ?_)
      have HA:=hid (bal w5 (.cells #[.string ⟨#[]⟩,.int .i64 0,.int .i64 0] 137));generalize w5.alloc (.cells #[.string ⟨#[]⟩,.int .i64 0,.int .i64 0] 137)=w6 at *;have F6:=hid (bk HA.out F5.out);have G6:=hid (bk HA.out G5.out);have T6:=hid (T5.out.below HA.out);have B6:=hid (B5.out.then HA.out HS5.out);have HS6:=hid (Nat.le_trans HS5.out HA.out.size);clear c0 c1 c2 c3 c4 lt F5 G5 T5 B5 HS5 HA
      obtain⟨c0,c1,c2,c3,c4,lt⟩:=Xl F6.out
      obtain⟨t0,t1,t2,t3,tl⟩:=T6.out.box
      have LN:∀m ty,(Builtin.len_ #[73] ty #[.map (some bp)]).run Tryz.prog (w6.drewN m)=.ok (.int .i64 t.paths.length) (w6.drewN m):=fun m ty=>by
       have:=(show Zm Yy (w6.drewN m) bp (N+1) (Jw t.paths)from T6.out.at_.paths.block rfl).len Tryz.underlying73 (by rw[Hm];exact HOK.out.paths) ty
       rw[this];simp[Jw]
      by_cases hmp:xp∈t.paths
      ·have LK:∀m,(Instr.lookup 73 (.map (some bp)) (.string ⟨xp.toArray⟩) false).run Tryz.prog (w6.drewN m)=.ok (.bool true) (w6.drewN m):=fun m=>by
        have:=(show Zm Yy (w6.drewN m) bp (N+1) (Jw t.paths)from T6.out.at_.paths.block rfl).look Tryz.underlying73 Qjh xp hp
        rw[Gb,if_pos hmp]at this;exact this
       have HRES2:=hid (HRES.out.trans (if_pos hmp));have HMP:=hid (show Zb (Jw t.paths) xp=some true by rw[Gb,if_pos hmp]);clear hmp;go_wp2_with fail
       go_quiet (fail)
       go_wp2_with fail;have HB7:=hid (show Below w6.heap.size w6 (w6.drewN nq)from below_drewN (Below.refl _ _) nq);clear LK LN c0 c1 c2 c3 c4 lt t0 t1 t2 t3 tl;generalize w6.drewN nq=w7 at *;have F7:=hid (bk HB7.out F6.out);have G7:=hid (bk HB7.out G6.out);have T7:=hid (T6.out.below HB7.out);have B7:=hid (B6.out.then HB7.out HS6.out);have HS7:=hid (Nat.le_trans HS6.out HB7.out.size);clear F6 G6 T6 B6 HS6 HB7
       obtain⟨c0,c1,c2,c3,c4,lt⟩:=Xl F7.out
       obtain⟨t0,t1,t2,t3,tl⟩:=T7.out.box
       obtain⟨w8,hrun,ho8,hg8⟩:=(show Zm Yy w7.drew bp (N+1) (Jw t.paths)from T7.out.at_.paths.block rfl).again (by omega) Tryz.underlying73 xp true hp HMP.out
       have hrun2:(Instr.mapUpdate 73 (.map (some bp)) (.string ⟨xp.toArray⟩) (.bool true)).run Tryz.prog w7.drew=.ok () w8:=hrun;have T8:=hid (show Yp B0 w8 Bt bv ba bn bp (N+2) V' { t with paths:=t.paths } from⟨(show Fn w7.drew Bt bv ba bn bp (N+1) V' t from(T7.out.below (Below.refl _ _).drew).at_).addPath (by  exact ho8) hg8,T7.out.lo,T7.out.each⟩);have B8:=hid (B7.out.drew.grown (show Zm Yy w7.drew bp (N+1) (Jw t.paths)from T7.out.at_.paths.block rfl) hg8 HS7.out T7.out.lo.2.2.2.2);have F8:=hid (Kk (show w7.drew.heap[w.heap.size]?=_ from F7.out) (show Zm Yy w7.drew bp (N+1) (Jw t.paths)from T7.out.at_.paths.block rfl) hg8);have G8:=hid (Kk (show w7.drew.heap[w2.heap.size]?=_ from G7.out) (show Zm Yy w7.drew bp (N+1) (Jw t.paths)from T7.out.at_.paths.block rfl) hg8);have HS8:=hid (Nat.le_trans HS7.out hg8.size);clear hrun ho8 hg8
       first
        |go_region
        | fail "r21"
       all_goals
        clear hrun2 c0 c1 c2 c3 c4 lt t0 t1 t2 t3 tl F7 G7 T7 B7 HS7
        obtain⟨c0,c1,c2,c3,c4,lt⟩:=Xl F8.out
        obtain⟨s0,s1,s2,sl⟩:=Qn G8.out
        go_wp2_with fail
        refine(Zdj w8 bm (N+2) (sdL (Kc t loc)) xp xv f xa (T8.out.at_.each _ HIN.out) (by omega) hp).mono ?_
        rintro e w9 ⟨rfl,ho9,hg9⟩;have T9:=hid (show Yp B0 w9 Bt bv ba bn bp (N+3) V' { t with rows:=t.rows++[⟨loc,xp,xv,f,xa⟩],paths:=t.paths } from⟨T8.out.at_.addRow ⟨loc,xp,xv,f,xa⟩ HIN.out (by rw[Xyh,LKM.out]at ho9;exact ho9) hg9,T8.out.lo,T8.out.each⟩);have B9:=hid (B8.out.grown (T8.out.at_.each _ HIN.out) hg9 HS8.out (T8.out.each _ HIN.out));clear ho9 hg9 c0 c1 c2 c3 c4 lt s0 s1 s2 sl;go_wp2_with fail;exact bodyPost_ret (v:=.int .i64 0) (by simp[results,Tryz.results48,go_sem]) rfl (Yw (e1:=0) HRES2.out (B9.out) (fun _=>⟨V',T9.out.mono (by omega)⟩))
      ·have LK:∀m,(Instr.lookup 73 (.map (some bp)) (.string ⟨xp.toArray⟩) false).run Tryz.prog (w6.drewN m)=.ok (.bool false) (w6.drewN m):=fun m=>by
        have:=(show Zm Yy (w6.drewN m) bp (N+1) (Jw t.paths)from T6.out.at_.paths.block rfl).look Tryz.underlying73 Qjh xp hp
        rw[Gb,if_neg hmp]at this;exact this
       have HRES1:=hid (HRES.out.trans (if_neg hmp));have HMP:=hid (show Zb (Jw t.paths) xp=none by rw[Gb,if_neg hmp]);clear hmp
       by_cases hful:t.paths.length=16384
       ·have hfl:((t.paths.length:Int)==16384)=true:=by rw[beq_iff_eq];omega
        have HRES2:=hid (HRES1.out.trans (if_pos hful));clear hful;go_wp2_with fail
        go_quiet (fail)
        go_wp2_with fail;exact bodyPost_ret (v:=.int .i64 3) (by simp[results,Tryz.results48,go_sem]) rfl (Yw (e1:=3) HRES2.out (B6.out.drewN _) (fun h=>by cases h))
       ·have hfl:((t.paths.length:Int)==16384)=false:=by rw[beq_eq_false_iff_ne];omega
        have HRES2:=hid (HRES1.out.trans (if_neg hful));clear hful;go_wp2_with fail
        go_quiet (fail)
        go_wp2_with fail;have HB7:=hid (show Below w6.heap.size w6 (w6.drewN nq)from below_drewN (Below.refl _ _) nq);clear LK LN c0 c1 c2 c3 c4 lt t0 t1 t2 t3 tl;generalize w6.drewN nq=w7 at *;have F7:=hid (bk HB7.out F6.out);have G7:=hid (bk HB7.out G6.out);have T7:=hid (T6.out.below HB7.out);have B7:=hid (B6.out.then HB7.out HS6.out);have HS7:=hid (Nat.le_trans HS6.out HB7.out.size);clear F6 G6 T6 B6 HS6 HB7
        obtain⟨c0,c1,c2,c3,c4,lt⟩:=Xl F7.out
        obtain⟨t0,t1,t2,t3,tl⟩:=T7.out.box
        obtain⟨w8,hrun,ho8,hg8⟩:=(show Zm Yy w7.drew bp (N+1) (Jw t.paths)from T7.out.at_.paths.block rfl).say (by omega) Tryz.underlying73 xp true hp HMP.out
        have hrun2:(Instr.mapUpdate 73 (.map (some bp)) (.string ⟨xp.toArray⟩) (.bool true)).run Tryz.prog w7.drew=.ok () w8:=hrun;have T8:=hid (show Yp B0 w8 Bt bv ba bn bp (N+2) V' { t with paths:=t.paths++[xp] } from⟨(show Fn w7.drew Bt bv ba bn bp (N+1) V' t from(T7.out.below (Below.refl _ _).drew).at_).addPath (by rw[Jw,List.map_append];exact ho8) hg8,T7.out.lo,T7.out.each⟩);have B8:=hid (B7.out.drew.grown (show Zm Yy w7.drew bp (N+1) (Jw t.paths)from T7.out.at_.paths.block rfl) hg8 HS7.out T7.out.lo.2.2.2.2);have F8:=hid (Kk (show w7.drew.heap[w.heap.size]?=_ from F7.out) (show Zm Yy w7.drew bp (N+1) (Jw t.paths)from T7.out.at_.paths.block rfl) hg8);have G8:=hid (Kk (show w7.drew.heap[w2.heap.size]?=_ from G7.out) (show Zm Yy w7.drew bp (N+1) (Jw t.paths)from T7.out.at_.paths.block rfl) hg8);have HS8:=hid (Nat.le_trans HS7.out hg8.size);clear hrun ho8 hg8
        first
         |go_region
         | fail "r21"
        all_goals
         clear hrun2 c0 c1 c2 c3 c4 lt t0 t1 t2 t3 tl F7 G7 T7 B7 HS7
         obtain⟨c0,c1,c2,c3,c4,lt⟩:=Xl F8.out
         obtain⟨s0,s1,s2,sl⟩:=Qn G8.out
         go_wp2_with fail
         refine(Zdj w8 bm (N+2) (sdL (Kc t loc)) xp xv f xa (T8.out.at_.each _ HIN.out) (by omega) hp).mono ?_
         rintro e w9 ⟨rfl,ho9,hg9⟩;have T9:=hid (show Yp B0 w9 Bt bv ba bn bp (N+3) V' { t with rows:=t.rows++[⟨loc,xp,xv,f,xa⟩],paths:=t.paths++[xp] } from⟨T8.out.at_.addRow ⟨loc,xp,xv,f,xa⟩ HIN.out (by rw[Xyh,LKM.out]at ho9;exact ho9) hg9,T8.out.lo,T8.out.each⟩);have B9:=hid (B8.out.grown (T8.out.at_.each _ HIN.out) hg9 HS8.out (T8.out.each _ HIN.out));clear ho9 hg9 c0 c1 c2 c3 c4 lt s0 s1 s2 sl;go_wp2_with fail;exact bodyPost_ret (v:=.int .i64 0) (by simp[results,Tryz.results48,go_sem]) rfl (Yw (e1:=0) HRES2.out (B9.out) (fun _=>⟨V',T9.out.mono (by omega)⟩))
end
section
open Go.RowKit Go.Lib Go.Sort
theorem check_any (w:World)(v:Value)(t:Tg)(h:RdT w v t)(hv:t.vars.length≤1000)(hk:t.keys.length≤1000)(hj:(Kj t).length≤140737488355328) :
  Calls Tryz.prog 156 #[v] w fun e w'=>e=.returned (.int .i64 (Wk t))∧Below w.heap.size w w':=by
 have W1:=hid (fun W (hb:Below w.heap.size w W)=>Zjx W v t (h.below hb) hv hk hj);have HT:=hid h;have HJ:=hid hj
 obtain⟨vv,kv,rfl,hS,hP⟩:=h
 obtain⟨av,cv,rfl,_,_⟩:=hS
 obtain⟨ak,ck,rfl,_,_⟩:=hP
 unfold Wk
 obtain⟨s,hs⟩:∃x,x=Kj t:=⟨_,rfl⟩
 rw[←hs]at HJ ⊢;rw[←hs]at W1
 obtain⟨x,hx⟩:∃k,k=Xp s:=⟨_,rfl⟩
 rw[←hx];simp only[Qv,S]at W1 HT ⊢;have HX:=hid hx;clear hs hx hj
 go_enter Tryz.func156,Tryz.ntmps156
 go_wp2_with fail;have hb0:Below w.heap.size w (w.alloc (.cells #[.string ⟨t.lang.toArray⟩,.string ⟨t.script.toArray⟩,.string ⟨t.region.toArray⟩,.slice av t.vars.length cv,.slice ak t.keys.length ck] 160)):=bal _ _
 refine(W1.out _ hb0).mono ?_
 rintro e w1 ⟨rfl,hb1⟩;have hx1:w1.heap[w.heap.size]?=some (.cells #[.string ⟨t.lang.toArray⟩,.string ⟨t.script.toArray⟩,.string ⟨t.region.toArray⟩,.slice av t.vars.length cv,.slice ak t.keys.length ck] 160 (0,0)):=by
  rw[hb1.block w.heap.size (by simp)];exact heap_alloc_new w _
 have hw1:=hb0.then hb1;clear hb0 hb1;go_wp2_with fail;have hp:=Qzh ⟨s.toArray⟩ w1 (by rw[Lib.size_eq];have:=HJ.out;unfold maxLen;simp;omega);rw[show(⟨s.toArray⟩:ByteArray).data.toList=s from rfl,←HX.out]at hp;refine hp.mono ?_;rintro e w2 ⟨vv2,kv2,rfl,o1,o2,hb2⟩
 obtain⟨av2,cv2,rfl⟩:=Zc o1
 obtain⟨ak2,ck2,rfl⟩:=Zx o2
 have hw2:=hw1.then hb2;have hx2:w2.heap[w.heap.size]?=some (.cells #[.string ⟨t.lang.toArray⟩,.string ⟨t.script.toArray⟩,.string ⟨t.region.toArray⟩,.slice av t.vars.length cv,.slice ak t.keys.length ck] 160 (0,0)):=by
  rw[hb2.block w.heap.size (lt_of_block hx1)];exact hx1
 have hsz2:=lt_of_block hx2;have RB:=hid (show RdT w2 (.agg (Qv x.tag (.slice av2 x.tag.vars.length cv2) (.slice ak2 x.tag.keys.length ck2))) x.tag from⟨_,_,rfl,o1.rd,o2.rd⟩);have HW:=hid hw2;have HX2:=hid hx2;clear o1 o2 hb2 hx1 hw1 hp hx2 hw2 W1;simp only[Qv,S]at RB ⊢
 by_cases he:x.err=0
 ·have c0:w2.cell? ⟨w.heap.size,0,none⟩=some _:=cell_of_row _ _ _ _ _ _ HX2.out;have c1:w2.cell? ⟨w.heap.size,1,none⟩=some _:=cell_of_row _ _ _ _ _ _ HX2.out;have c2:w2.cell? ⟨w.heap.size,2,none⟩=some _:=cell_of_row _ _ _ _ _ _ HX2.out;have c3:w2.cell? ⟨w.heap.size,3,none⟩=some (.slice av t.vars.length cv):=cell_of_row _ _ _ _ _ _ HX2.out;have c4:w2.cell? ⟨w.heap.size,4,none⟩=some (.slice ak t.keys.length ck):=cell_of_row _ _ _ _ _ _ HX2.out;rw[he];have HE:=hid he;clear he;have hb4:=Px w2 (.cells #[.string ⟨x.tag.lang.toArray⟩,.string ⟨x.tag.script.toArray⟩,.string ⟨x.tag.region.toArray⟩,.slice av2 x.tag.vars.length cv2,.slice ak2 x.tag.keys.length ck2] 160) (.cells #[.int .i64 ((0:Nat):Int),.int .i64 (x.pos:Int)] 78);have hw4:=HW.out.then hb4;have hs:=same_any _ _ _ x.tag t (RB.out.below hb4) (HT.out.below hw4);have HS:=hid hs;have HW4:=hid hw4;clear hb4 hs hw4;generalize hq:Zxq x.tag t=q at HS ⊢;go_wp2_with fail;refine HS.out.mono ?_;rintro e w5 ⟨rfl,hb5⟩;have hw5:=HW4.out.then hb5;clear HS hb5
  cases q
  ·go_wp2_with fail
   all_goals go_ret
   all_goals exact⟨by simp,hw5⟩
  ·go_wp2_with fail
   all_goals go_ret
   all_goals exact⟨by simp[HE.out],hw5⟩
 ·have he2:(x.err != 0)=true:=by rw[bne_iff_ne];exact he
  have he3:((x.err:Int) != 0)=true:=by rw[bne_iff_ne];omega
  go_wp2_with fail
  go_ret
  exact⟨rfl,HW.out.then (Px _ _ _)⟩
end
section
open Go.RowKit Go.Lib Go.Sort
def Zdk (p:Str×Int):Value:=.tuple #[.string ⟨p.1.toArray⟩,.int .i64 p.2]
theorem Zp {W:World}{b:Nat}{a0 a1 a2 a3 a4:Value}(h:W.heap[b]?=some (.cells #[a0,a1,a2,a3,a4] 160 (0,0))) :
  W.cell? ⟨b,0,none⟩=some a0∧W.cell? ⟨b,1,none⟩=some a1∧W.cell? ⟨b,2,none⟩=some a2∧W.cell? ⟨b,3,none⟩=some a3∧W.cell? ⟨b,4,none⟩=some a4 :=
 ⟨cell_of_row _ _ _ _ _ _ h,cell_of_row _ _ _ _ _ _ h,cell_of_row _ _ _ _ _ _ h,cell_of_row _ _ _ _ _ _ h,cell_of_row _ _ _ _ _ _ h⟩
end
section
open Go.RowKit Go.Lib Go.Sort
theorem Qnz (w:World)(v:Value)(t:Tg)(h:RdT w v t)(hv:t.vars.length≤1000)(hk:t.keys.length≤1000)(hj:(Kj t).length≤140737488355328)(hj2:(Kj { t with keys:=[] }).length≤140737488355328) :
  Calls Tryz.prog 96 #[v] w fun e w'=>e=.returned (Zdk (Sk t))∧Below w.heap.size w w':=by
 have C1:=hid (fun W (hb:Below w.heap.size w W)=>check_any W v t (h.below hb) hv hk hj)
 obtain⟨vv,kv,rfl,hS,hP⟩:=h
 have W1:=hid (fun W (hb:Below w.heap.size w W)=>Zjx W (.agg (Qv { t with keys:=[] } vv Xw)) { t with keys:=[] } ⟨vv,Xw,rfl,hS.below hb,RdP.nil W⟩ hv (Nat.zero_le _) hj2)
 obtain⟨av,cv,rfl,_,_⟩:=hS
 obtain⟨ak,ck,rfl,_,_⟩:=hP
 clear hj hj2;unfold Sk Zdk Hh;generalize hq:Wk t=q at *;generalize hs:Kj { t with keys:=[] }=s at *;simp only[Qv,S,Xw]at W1 C1 ⊢;have hb0:Below w.heap.size w (w.alloc (.cells #[.string ⟨t.lang.toArray⟩,.string ⟨t.script.toArray⟩,.string ⟨t.region.toArray⟩,.slice av t.vars.length cv,.slice ak t.keys.length ck] 160)):=bal _ _;have hx0:(w.alloc (.cells #[.string ⟨t.lang.toArray⟩,.string ⟨t.script.toArray⟩,.string ⟨t.region.toArray⟩,.slice av t.vars.length cv,.slice ak t.keys.length ck] 160)).heap[w.heap.size]?=some (.cells #[.string ⟨t.lang.toArray⟩,.string ⟨t.script.toArray⟩,.string ⟨t.region.toArray⟩,.slice av t.vars.length cv,.slice ak t.keys.length ck] 160 (0,0)):=heap_alloc_new w _;have HX0:=hid hx0;have HB0:=hid hb0;clear hx0 hb0
 go_enter Tryz.func96,Tryz.ntmps96
 go_wp2_with fail
 refine(C1.out _ HB0.out).mono ?_
 rintro e w1 ⟨rfl,hb1⟩;have hw1:=HB0.out.then hb1;have hx1:w1.heap[w.heap.size]?=some (.cells #[.string ⟨t.lang.toArray⟩,.string ⟨t.script.toArray⟩,.string ⟨t.region.toArray⟩,.slice av t.vars.length cv,.slice ak t.keys.length ck] 160 (0,0)):=by
  rw[hb1.block w.heap.size (by simp)];exact HX0.out
 obtain⟨c0,c1,c2,c3,c4⟩:=Zp hx1
 have hsz:=lt_of_block hx1;have HW:=hid hw1;have HX1:=hid hx1;clear hb1 hw1 hx1 HX0 HB0 C1
 by_cases h0:q=0
 ·subst h0;have hfz:=frozen_of_row w1 w.heap.size 4 _ _ HX1.out;go_wp2_with fail;have hw2:=HW.out.setCell (p:=⟨w.heap.size,4,none⟩) (Nat.le_refl _) (.slice none 0 0)
  refine(W1.out _ hw2).mono ?_
  rintro e w2 ⟨rfl,hb2⟩;have hw3:=hw2.then hb2;clear hb2 hw2 W1 c0 c1 c2 c3 c4
  by_cases hu:s=[117,110,100]
  ·have hub:(s != [117,110,100])=false:=by rw[hu];rfl
   have hub2:(s==[117,110,100])=true:=by rw[hu];rfl
   have hu2:s=Qth:=hu;clear hu;go_wp2_with fail;exact bodyPost_ret (v:=.tuple #[.string ⟨Qs.toArray⟩,.int .i64 0]) (by simp[results,Tryz.results96,go_sem,Qs]) rfl ⟨by simp[hu2],hw3⟩
  ·have hub:(s != [117,110,100])=true:=by rw[bne_iff_ne];exact hu
   have hub2:(s==[117,110,100])=false:=by rw[beq_eq_false_iff_ne];exact hu
   have hu2:¬s=Qth:=hu;clear hu;go_wp2_with fail;exact bodyPost_ret (v:=.tuple #[.string ⟨s.toArray⟩,.int .i64 0]) (by simp[results,Tryz.results96,go_sem]) rfl ⟨by simp[hu2],hw3⟩
 ·have hb:(q != 0)=true:=by rw[bne_iff_ne];exact h0
  go_wp2_with fail;exact bodyPost_ret (v:=.tuple #[.string ⟨#[]⟩,.int .i64 q]) (by simp[results,Tryz.results96,go_sem]) rfl ⟨by simp[h0],HW.out⟩
end
section
open Go.RowKit Go.Lib Go.Sort
def P5 (w:World)(b:Nat)(a0 a1 a2 a3 a4:Value):World :=
 ((((w.setCell ⟨b,0,none⟩ a0).setCell ⟨b,1,none⟩ a1).setCell ⟨b,2,none⟩ a2).setCell ⟨b,3,none⟩ a3).setCell ⟨b,4,none⟩ a4
theorem Sn {w:World}{b:Nat}{z0 z1 z2 z3 z4:Value}(a0 a1 a2 a3 a4:Value)(h:w.heap[b]?=some (.cells #[z0,z1,z2,z3,z4] 160 (0,0))):(P5 w b a0 a1 a2 a3 a4).heap[b]?=some (.cells #[a0,a1,a2,a3,a4] 160 (0,0)):=by
 unfold P5;rw[heap_setCell_same _ _ _ _ _ _ (heap_setCell_same _ _ _ _ _ _ (heap_setCell_same _ _ _ _ _ _ (heap_setCell_same _ _ _ _ _ _ (heap_setCell_same _ _ _ _ _ _ h))))]
 simp
theorem Dn {B b:Nat}{w0 w:World}(a0 a1 a2 a3 a4:Value)(h:Below B w0 w)(hb:B≤b):Below B w0 (P5 w b a0 a1 a2 a3 a4) :=
 ((((h.setCell (by simpa using hb) _).setCell (by simpa using hb) _).setCell (by simpa using hb) _).setCell (by simpa using hb) _).setCell (by simpa using hb) _
theorem Zdv {w:World}{b base:Nat}{e:TypeId}{size:Nat}{v:Value}{n:Nat}{xs:List Value}(a0 a1 a2 a3 a4:Value)(h:w.ownsRow base e size v n xs)(hb:v.ownBlock≠some b):(P5 w b a0 a1 a2 a3 a4).ownsRow base e size v n xs :=
 Qb (Qb (Qb (Qb (Qb h hb _ _) hb _ _) hb _ _) hb _ _) hb _ _
end
section
open Go.RowKit Go.Lib Go.Sort
def Fl (l:Str):Tg:=if Qj l=true then(Xp l).tag else Tg.zero
def Sr (w:World)(l:Str)(e:Ending)(w':World):Prop :=
 ∃v,e=.returned (.tuple #[v,.bool (Qj l)])∧RdT w' v (Fl l)∧Below w.heap.size w w'
theorem Nr {l:Str}{x:Res}{q:Str×Int}(hx:Xp l=x)(hq:Sk x.tag=q):Qj l=(x.err==0&&(q.2==0&&q.1==l)):=by
 unfold Qj;rw[hx,hq]
theorem Zvy {l:Str}{x:Res}(hx:Xp l=x)(he:¬x.err=0):Qj l=false:=by
 unfold Qj;rw[hx,beq_eq_false_iff_ne.2 he];rfl
theorem Pl {w W:World}{l:Str}(h:Qj l=false)(hw:Below w.heap.size w W):Sr w l (.returned (.tuple #[.agg #[.string ⟨#[]⟩,.string ⟨#[]⟩,.string ⟨#[]⟩,.slice none 0 0,.slice none 0 0],.bool false])) W :=
 ⟨_,by rw[h],by unfold Fl;rw[h];exact RdT.zero W,hw⟩
theorem Ztg {w W:World}{l:Str}{v:Value}(h:Qj l=true)(ht:RdT W v (Xp l).tag)(hw:Below w.heap.size w W):Sr w l (.returned (.tuple #[v,.bool true])) W :=
 ⟨v,by rw[h],by unfold Fl;rw[if_pos h];exact ht,hw⟩
theorem Zvh (l:Str)(w:World)(hs:l.length≤maxLen) :
  Calls Tryz.prog 95 #[.string ⟨l.toArray⟩] w fun e w'=>Sr w l e w':=by
 have PA:=hid (fun W=>Qzh ⟨l.toArray⟩ W (by rw[Lib.size_eq];exact hs));have hgood:=Zbw l;have hfine:=Wb l;rw[show(⟨l.toArray⟩:ByteArray).data.toList=l from rfl]at PA;generalize hx:Xp l=x at *;have HX:=hid hx;clear hx
 go_enter Tryz.func95,Tryz.ntmps95
 go_wp2_with fail
 refine(PA.out _).mono ?_
 rintro e w1 ⟨vv,kv,rfl,o1,o2,hb1⟩
 obtain⟨av,cv,rfl⟩:=Zc o1
 obtain⟨ak,ck,rfl⟩:=Zx o2
 simp only[Qv,S];have hb0:Below w.heap.size w (w.alloc (.cells #[.string ⟨#[]⟩,.string ⟨#[]⟩,.string ⟨#[]⟩,.slice none 0 0,.slice none 0 0] 160)):=bal _ _;have hz1:w1.heap[w.heap.size]?=some (.cells #[.string ⟨#[]⟩,.string ⟨#[]⟩,.string ⟨#[]⟩,.slice none 0 0,.slice none 0 0] 160 (0,0)):=by rw[hb1.block w.heap.size (by simp)];exact heap_alloc_new w _
 have hw1:=hb0.then hb1;have HR:=hid (show RdT w1 (.agg (Qv x.tag (.slice av x.tag.vars.length cv) (.slice ak x.tag.keys.length ck))) x.tag from⟨_,_,rfl,o1.rd,o2.rd⟩);have hno1:(Value.slice av x.tag.vars.length cv).ownBlock≠some w.heap.size:=fun e=>by have:=(World.ownsRow.lt o1 _ e).1;simp at this;omega
 have hno2:(Value.slice ak x.tag.keys.length ck).ownBlock≠some w.heap.size:=fun e=>by have:=(World.ownsRow.lt o2 _ e).1;simp at this;omega
 have O1:=hid o1;have O2:=hid o2;have HNO1:=hid hno1;have HNO2:=hid hno2;clear hb0 hb1 o1 o2 PA hno1 hno2;have hb2:Below w1.heap.size w1 ((w1.alloc (.cells #[.string ⟨x.tag.lang.toArray⟩,.string ⟨x.tag.script.toArray⟩,.string ⟨x.tag.region.toArray⟩,.slice av x.tag.vars.length cv,.slice ak x.tag.keys.length ck] 160)).alloc (.cells #[.int .i64 (x.err:Int),.int .i64 (x.pos:Int)] 78)):=Px _ _ _;have HZ2:=hid (show((w1.alloc (.cells #[.string ⟨x.tag.lang.toArray⟩,.string ⟨x.tag.script.toArray⟩,.string ⟨x.tag.region.toArray⟩,.slice av x.tag.vars.length cv,.slice ak x.tag.keys.length ck] 160)).alloc (.cells #[.int .i64 (x.err:Int),.int .i64 (x.pos:Int)] 78)).heap[w.heap.size]?=some (.cells #[.string ⟨#[]⟩,.string ⟨#[]⟩,.string ⟨#[]⟩,.slice none 0 0,.slice none 0 0] 160 (0,0))from bk hb2 hz1);have HT2:=hid (show((w1.alloc (.cells #[.string ⟨x.tag.lang.toArray⟩,.string ⟨x.tag.script.toArray⟩,.string ⟨x.tag.region.toArray⟩,.slice av x.tag.vars.length cv,.slice ak x.tag.keys.length ck] 160)).alloc (.cells #[.int .i64 (x.err:Int),.int .i64 (x.pos:Int)] 78)).heap[w1.heap.size]?=some (.cells #[.string ⟨x.tag.lang.toArray⟩,.string ⟨x.tag.script.toArray⟩,.string ⟨x.tag.region.toArray⟩,.slice av x.tag.vars.length cv,.slice ak x.tag.keys.length ck] 160 (0,0))from heap_alloc2_old _ _ _);have HW2:=hid (hw1.then hb2);have HB2:=hid hb2;clear hz1 hw1 hb2
 by_cases he:x.err=0
 ·have hg:=hgood he;have N1:=hid (fun W (hb:Below w1.heap.size w1 W)=>Qnz W _ x.tag (HR.out.below hb) (by have:=hg.vars;omega) (by have:=hg.keys;omega) (by have:=hg.write;omega) (by have:=hg.bare.write;unfold Fy at this;omega));simp only[Qv,S]at N1 HR;clear hgood hfine;generalize hq:Sk x.tag=q at *
  obtain⟨nm,ne⟩:=q
  simp only[Zdk]at N1;have e0:(x.err==0)=true:=by rw[he];rfl
  rw[he]at HZ2 HT2 HW2 HB2 ⊢;have HQ:=hid hq;have HG:=hid hg;have HE:=hid e0;clear hq hg e0;have HZ:=HZ2
  obtain⟨c0,c1,c2,c3,c4⟩:=Zp HT2.out
  obtain⟨d0,d1,d2,d3,d4⟩:=Zp HZ.out
  have fz0:=frozen_of_row _ w.heap.size 0 _ _ HZ.out;have fz1:=frozen_of_row _ w.heap.size 1 _ _ HZ.out;have fz2:=frozen_of_row _ w.heap.size 2 _ _ HZ.out;have fz3:=frozen_of_row _ w.heap.size 3 _ _ HZ.out;have fz4:=frozen_of_row _ w.heap.size 4 _ _ HZ.out;have hsz:=lt_of_block HZ.out;have hst:=lt_of_block HT2.out;go_wp2_with fail
  refine(N1.out _ HB2.out).mono ?_
  rintro e w3 ⟨rfl,hb3⟩;clear c0 c1 c2 c3 c4 d0 d1 d2 d3 d4 fz0 fz1 fz2 fz3 fz4 HZ;have HZ:=hid ((hb3.block _ hsz).trans HZ2.out);have HT3:=hid ((hb3.block _ hst).trans HT2.out);have HW:=hid (HW2.out.then hb3);have O13:=hid (Qz O1.out (HB2.out.then hb3));have O23:=hid (Qz O2.out (HB2.out.then hb3));clear O1 O2;clear hsz hst HZ2 HT2 HW2 HB2 HR hb3 N1
  obtain⟨c0,c1,c2,c3,c4⟩:=Zp HT3.out
  obtain⟨d0,d1,d2,d3,d4⟩:=Zp HZ.out
  have fz0:=frozen_of_row w3 w.heap.size 0 _ _ HZ.out;have fz1:=frozen_of_row w3 w.heap.size 1 _ _ HZ.out;have fz2:=frozen_of_row w3 w.heap.size 2 _ _ HZ.out;have fz3:=frozen_of_row w3 w.heap.size 3 _ _ HZ.out;have fz4:=frozen_of_row w3 w.heap.size 4 _ _ HZ.out;have hsz:=lt_of_block HZ.out;have hst:=lt_of_block HT3.out
  by_cases h1:ne=0
  ·subst h1
   by_cases h2:nm=l
   ·have hub:(nm==l)=true:=by rw[h2];simp
    have hub2:(nm != l)=false:=by rw[h2];simp
    subst h2;go_wp2_with fail;have hr:=Sn (.string ⟨x.tag.lang.toArray⟩) (.string ⟨x.tag.script.toArray⟩) (.string ⟨x.tag.region.toArray⟩) (.slice av x.tag.vars.length cv) (.slice ak x.tag.keys.length ck) HZ.out;have hw:=Dn (.string ⟨x.tag.lang.toArray⟩) (.string ⟨x.tag.script.toArray⟩) (.string ⟨x.tag.region.toArray⟩) (.slice av x.tag.vars.length cv) (.slice ak x.tag.keys.length ck) HW.out (Nat.le_refl w.heap.size);have p1:=Zdv (.string ⟨x.tag.lang.toArray⟩) (.string ⟨x.tag.script.toArray⟩) (.string ⟨x.tag.region.toArray⟩) (.slice av x.tag.vars.length cv) (.slice ak x.tag.keys.length ck) O13.out HNO1.out;have p2:=Zdv (.string ⟨x.tag.lang.toArray⟩) (.string ⟨x.tag.script.toArray⟩) (.string ⟨x.tag.region.toArray⟩) (.slice av x.tag.vars.length cv) (.slice ak x.tag.keys.length ck) O23.out HNO2.out;clear c0 c1 c2 c3 c4 d0 d1 d2 d3 d4 fz0 fz1 fz2 fz3 fz4;change bodyPost _ _ _ _ _ (P5 w3 (w.heap.size) (.string ⟨x.tag.lang.toArray⟩) (.string ⟨x.tag.script.toArray⟩) (.string ⟨x.tag.region.toArray⟩) (.slice av x.tag.vars.length cv) (.slice ak x.tag.keys.length ck));generalize P5 w3 (w.heap.size) (.string ⟨x.tag.lang.toArray⟩) (.string ⟨x.tag.script.toArray⟩) (.string ⟨x.tag.region.toArray⟩) (.slice av x.tag.vars.length cv) (.slice ak x.tag.keys.length ck)=W at *
    obtain⟨d0,d1,d2,d3,d4⟩:=Zp hr
    refine bodyPost_ret (v:=.tuple #[.agg #[.string ⟨x.tag.lang.toArray⟩,.string ⟨x.tag.script.toArray⟩,.string ⟨x.tag.region.toArray⟩,.slice av x.tag.vars.length cv,.slice ak x.tag.keys.length ck],.bool true]) (by simp[results,Tryz.results95,go_sem,d0,d1,d2,d3,d4]) rfl (Ztg (by rw[Nr HX.out HQ.out];simp[HE.out]) (by rw[HX.out];exact⟨_,_,rfl,Qt.rd p1,Qd.rd p2⟩) hw)
   ·have hub:(nm==l)=false:=by rw[beq_eq_false_iff_ne];exact h2
    have hub2:(nm != l)=true:=by rw[bne_iff_ne];exact h2
    go_wp2_with fail;have hr:=Sn (.string ⟨#[]⟩) (.string ⟨#[]⟩) (.string ⟨#[]⟩) (.slice none 0 0) (.slice none 0 0) HZ.out;have hw:=Dn (.string ⟨#[]⟩) (.string ⟨#[]⟩) (.string ⟨#[]⟩) (.slice none 0 0) (.slice none 0 0) HW.out (Nat.le_refl w.heap.size);clear c0 c1 c2 c3 c4 d0 d1 d2 d3 d4 fz0 fz1 fz2 fz3 fz4;change bodyPost _ _ _ _ _ (P5 (w3) (w.heap.size) (.string ⟨#[]⟩) (.string ⟨#[]⟩) (.string ⟨#[]⟩) (.slice none 0 0) (.slice none 0 0));generalize P5 (w3) (w.heap.size) (.string ⟨#[]⟩) (.string ⟨#[]⟩) (.string ⟨#[]⟩) (.slice none 0 0) (.slice none 0 0)=W at *
    obtain⟨d0,d1,d2,d3,d4⟩:=Zp hr
    refine bodyPost_ret (v:=.tuple #[.agg #[.string ⟨#[]⟩,.string ⟨#[]⟩,.string ⟨#[]⟩,.slice none 0 0,.slice none 0 0],.bool false]) (by simp[results,Tryz.results95,go_sem,d0,d1,d2,d3,d4]) rfl (Pl (by rw[Nr HX.out HQ.out];simp[hub]) hw)
  ·have hnb:(ne != 0)=true:=by rw[bne_iff_ne];exact h1
   have hnb2:(ne==0)=false:=by rw[beq_eq_false_iff_ne];exact h1
   go_wp2_with fail;have hr:=Sn (.string ⟨#[]⟩) (.string ⟨#[]⟩) (.string ⟨#[]⟩) (.slice none 0 0) (.slice none 0 0) HZ.out;have hw:=Dn (.string ⟨#[]⟩) (.string ⟨#[]⟩) (.string ⟨#[]⟩) (.slice none 0 0) (.slice none 0 0) HW.out (Nat.le_refl w.heap.size);clear c0 c1 c2 c3 c4 d0 d1 d2 d3 d4 fz0 fz1 fz2 fz3 fz4;change bodyPost _ _ _ _ _ (P5 (w3) (w.heap.size) (.string ⟨#[]⟩) (.string ⟨#[]⟩) (.string ⟨#[]⟩) (.slice none 0 0) (.slice none 0 0));generalize P5 (w3) (w.heap.size) (.string ⟨#[]⟩) (.string ⟨#[]⟩) (.string ⟨#[]⟩) (.slice none 0 0) (.slice none 0 0)=W at *
   obtain⟨d0,d1,d2,d3,d4⟩:=Zp hr
   refine bodyPost_ret (v:=.tuple #[.agg #[.string ⟨#[]⟩,.string ⟨#[]⟩,.string ⟨#[]⟩,.slice none 0 0,.slice none 0 0],.bool false]) (by simp[results,Tryz.results95,go_sem,d0,d1,d2,d3,d4]) rfl (Pl (by rw[Nr HX.out HQ.out];simp[h1]) hw)
 ·have heb:(x.err != 0)=true:=by rw[bne_iff_ne];exact he
  have heb3:((x.err:Int) != 0)=true:=by rw[bne_iff_ne];omega
  have heb2:(x.err==0)=false:=by rw[beq_eq_false_iff_ne];exact he
  have HZ:=HZ2;have HW:=HW2
  obtain⟨c0,c1,c2,c3,c4⟩:=Zp HT2.out
  obtain⟨d0,d1,d2,d3,d4⟩:=Zp HZ.out
  have fz0:=frozen_of_row _ w.heap.size 0 _ _ HZ.out;have fz1:=frozen_of_row _ w.heap.size 1 _ _ HZ.out;have fz2:=frozen_of_row _ w.heap.size 2 _ _ HZ.out;have fz3:=frozen_of_row _ w.heap.size 3 _ _ HZ.out;have fz4:=frozen_of_row _ w.heap.size 4 _ _ HZ.out;have hsz:=lt_of_block HZ.out;have hst:=lt_of_block HT2.out;go_wp2_with fail;have hr:=Sn (.string ⟨#[]⟩) (.string ⟨#[]⟩) (.string ⟨#[]⟩) (.slice none 0 0) (.slice none 0 0) HZ.out;have hw:=Dn (.string ⟨#[]⟩) (.string ⟨#[]⟩) (.string ⟨#[]⟩) (.slice none 0 0) (.slice none 0 0) HW.out (Nat.le_refl w.heap.size);clear c0 c1 c2 c3 c4 d0 d1 d2 d3 d4 fz0 fz1 fz2 fz3 fz4;change bodyPost _ _ _ _ _ (P5 (((w1.alloc (.cells #[.string ⟨x.tag.lang.toArray⟩,.string ⟨x.tag.script.toArray⟩,.string ⟨x.tag.region.toArray⟩,.slice av x.tag.vars.length cv,.slice ak x.tag.keys.length ck] 160)).alloc (.cells #[.int .i64 (x.err:Int),.int .i64 (x.pos:Int)] 78))) (w.heap.size) (.string ⟨#[]⟩) (.string ⟨#[]⟩) (.string ⟨#[]⟩) (.slice none 0 0) (.slice none 0 0));generalize P5 (((w1.alloc (.cells #[.string ⟨x.tag.lang.toArray⟩,.string ⟨x.tag.script.toArray⟩,.string ⟨x.tag.region.toArray⟩,.slice av x.tag.vars.length cv,.slice ak x.tag.keys.length ck] 160)).alloc (.cells #[.int .i64 (x.err:Int),.int .i64 (x.pos:Int)] 78))) (w.heap.size) (.string ⟨#[]⟩) (.string ⟨#[]⟩) (.string ⟨#[]⟩) (.slice none 0 0) (.slice none 0 0)=W at *
  obtain⟨d0,d1,d2,d3,d4⟩:=Zp hr
  refine bodyPost_ret (v:=.tuple #[.agg #[.string ⟨#[]⟩,.string ⟨#[]⟩,.string ⟨#[]⟩,.slice none 0 0,.slice none 0 0],.bool false]) (by simp[results,Tryz.results95,go_sem,d0,d1,d2,d3,d4]) rfl (Pl (Zvy HX.out he) hw)
end
section
open Go.RowKit Go.Lib Go.Sort
def capV (v:Value):Prop:=∀a0 a1 a2 ao n cp kv,v=.agg #[a0,a1,a2,.slice ao n cp,kv]→n≤cp
theorem cap_own {w:World}{B:Nat}{ao:Option Addr}{n cp:Nat}{l:List Str}(h:Qt w B (.slice ao n cp) l):n≤cp:=by
 rcases h.shape with ⟨e,_⟩|⟨g,cap,cur,e,_,_,h1,_⟩
 ·cases e;exact Nat.le_refl _
 ·cases e;exact h1
theorem Xpv {a0 a1 a2 kv:Value}{ao:Option Addr}{n cp:Nat}(h:n≤cp):capV (.agg #[a0,a1,a2,.slice ao n cp,kv]):=by
 intro b0 b1 b2 ao2 n2 cp2 kv2 e;simp only[Value.agg.injEq,Array.mk.injEq,List.cons.injEq]at e
 obtain⟨_,_,_,e,_⟩:=e
 cases e;exact h
def Uh (w:World)(l:Str)(e:Ending)(w':World):Prop :=
 ∃v,e=.returned (.tuple #[v,.bool (Qj l)])∧RdT w' v (Fl l)∧capV v∧Below w.heap.size w w'
theorem Mc {w W:World}{l:Str}(h:Qj l=false)(hw:Below w.heap.size w W):Uh w l (.returned (.tuple #[.agg #[.string ⟨#[]⟩,.string ⟨#[]⟩,.string ⟨#[]⟩,.slice none 0 0,.slice none 0 0],.bool false])) W :=
 ⟨_,by rw[h],by unfold Fl;rw[h];exact RdT.zero W,Xpv (Nat.le_refl _),hw⟩
theorem Zdw {w W:World}{l:Str}{v:Value}(h:Qj l=true)(ht:RdT W v (Xp l).tag)(hc:capV v)(hw:Below w.heap.size w W):Uh w l (.returned (.tuple #[v,.bool true])) W :=
 ⟨v,by rw[h],by unfold Fl;rw[if_pos h];exact ht,hc,hw⟩
theorem Xhj (l:Str)(w:World)(hs:l.length≤maxLen) :
  Calls Tryz.prog 95 #[.string ⟨l.toArray⟩] w fun e w'=>Uh w l e w':=by
 have PA:=hid (fun W=>Qzh ⟨l.toArray⟩ W (by rw[Lib.size_eq];exact hs));have hgood:=Zbw l;have hfine:=Wb l;rw[show(⟨l.toArray⟩:ByteArray).data.toList=l from rfl]at PA;generalize hx:Xp l=x at *;have HX:=hid hx;clear hx
 go_enter Tryz.func95,Tryz.ntmps95
 go_wp2_with fail
 refine(PA.out _).mono ?_
 rintro e w1 ⟨vv,kv,rfl,o1,o2,hb1⟩
 obtain⟨av,cv,rfl⟩:=Zc o1
 obtain⟨ak,ck,rfl⟩:=Zx o2
 simp only[Qv,S];have hb0:Below w.heap.size w (w.alloc (.cells #[.string ⟨#[]⟩,.string ⟨#[]⟩,.string ⟨#[]⟩,.slice none 0 0,.slice none 0 0] 160)):=bal _ _;have hz1:w1.heap[w.heap.size]?=some (.cells #[.string ⟨#[]⟩,.string ⟨#[]⟩,.string ⟨#[]⟩,.slice none 0 0,.slice none 0 0] 160 (0,0)):=by rw[hb1.block w.heap.size (by simp)];exact heap_alloc_new w _
 have hw1:=hb0.then hb1;have HR:=hid (show RdT w1 (.agg (Qv x.tag (.slice av x.tag.vars.length cv) (.slice ak x.tag.keys.length ck))) x.tag from⟨_,_,rfl,o1.rd,o2.rd⟩);have hno1:(Value.slice av x.tag.vars.length cv).ownBlock≠some w.heap.size:=fun e=>by have:=(World.ownsRow.lt o1 _ e).1;simp at this;omega
 have hno2:(Value.slice ak x.tag.keys.length ck).ownBlock≠some w.heap.size:=fun e=>by have:=(World.ownsRow.lt o2 _ e).1;simp at this;omega
 have O1:=hid o1;have O2:=hid o2;have HNO1:=hid hno1;have HNO2:=hid hno2;clear hb0 hb1 o1 o2 PA hno1 hno2;have hb2:Below w1.heap.size w1 ((w1.alloc (.cells #[.string ⟨x.tag.lang.toArray⟩,.string ⟨x.tag.script.toArray⟩,.string ⟨x.tag.region.toArray⟩,.slice av x.tag.vars.length cv,.slice ak x.tag.keys.length ck] 160)).alloc (.cells #[.int .i64 (x.err:Int),.int .i64 (x.pos:Int)] 78)):=Px _ _ _;have HZ2:=hid (show((w1.alloc (.cells #[.string ⟨x.tag.lang.toArray⟩,.string ⟨x.tag.script.toArray⟩,.string ⟨x.tag.region.toArray⟩,.slice av x.tag.vars.length cv,.slice ak x.tag.keys.length ck] 160)).alloc (.cells #[.int .i64 (x.err:Int),.int .i64 (x.pos:Int)] 78)).heap[w.heap.size]?=some (.cells #[.string ⟨#[]⟩,.string ⟨#[]⟩,.string ⟨#[]⟩,.slice none 0 0,.slice none 0 0] 160 (0,0))from bk hb2 hz1);have HT2:=hid (show((w1.alloc (.cells #[.string ⟨x.tag.lang.toArray⟩,.string ⟨x.tag.script.toArray⟩,.string ⟨x.tag.region.toArray⟩,.slice av x.tag.vars.length cv,.slice ak x.tag.keys.length ck] 160)).alloc (.cells #[.int .i64 (x.err:Int),.int .i64 (x.pos:Int)] 78)).heap[w1.heap.size]?=some (.cells #[.string ⟨x.tag.lang.toArray⟩,.string ⟨x.tag.script.toArray⟩,.string ⟨x.tag.region.toArray⟩,.slice av x.tag.vars.length cv,.slice ak x.tag.keys.length ck] 160 (0,0))from heap_alloc2_old _ _ _);have HW2:=hid (hw1.then hb2);have HB2:=hid hb2;clear hz1 hw1 hb2
 by_cases he:x.err=0
 ·have hg:=hgood he;have N1:=hid (fun W (hb:Below w1.heap.size w1 W)=>Qnz W _ x.tag (HR.out.below hb) (by have:=hg.vars;omega) (by have:=hg.keys;omega) (by have:=hg.write;omega) (by have:=hg.bare.write;unfold Fy at this;omega));simp only[Qv,S]at N1 HR;clear hgood hfine;generalize hq:Sk x.tag=q at *
  obtain⟨nm,ne⟩:=q
  simp only[Zdk]at N1;have e0:(x.err==0)=true:=by rw[he];rfl
  rw[he]at HZ2 HT2 HW2 HB2 ⊢;have HQ:=hid hq;have HG:=hid hg;have HE:=hid e0;clear hq hg e0;have HZ:=HZ2
  obtain⟨c0,c1,c2,c3,c4⟩:=Zp HT2.out
  obtain⟨d0,d1,d2,d3,d4⟩:=Zp HZ.out
  have fz0:=frozen_of_row _ w.heap.size 0 _ _ HZ.out;have fz1:=frozen_of_row _ w.heap.size 1 _ _ HZ.out;have fz2:=frozen_of_row _ w.heap.size 2 _ _ HZ.out;have fz3:=frozen_of_row _ w.heap.size 3 _ _ HZ.out;have fz4:=frozen_of_row _ w.heap.size 4 _ _ HZ.out;have hsz:=lt_of_block HZ.out;have hst:=lt_of_block HT2.out;go_wp2_with fail
  refine(N1.out _ HB2.out).mono ?_
  rintro e w3 ⟨rfl,hb3⟩;clear c0 c1 c2 c3 c4 d0 d1 d2 d3 d4 fz0 fz1 fz2 fz3 fz4 HZ;have HZ:=hid ((hb3.block _ hsz).trans HZ2.out);have HT3:=hid ((hb3.block _ hst).trans HT2.out);have HW:=hid (HW2.out.then hb3);have O13:=hid (Qz O1.out (HB2.out.then hb3));have O23:=hid (Qz O2.out (HB2.out.then hb3));clear O1 O2;clear hsz hst HZ2 HT2 HW2 HB2 HR hb3 N1
  obtain⟨c0,c1,c2,c3,c4⟩:=Zp HT3.out
  obtain⟨d0,d1,d2,d3,d4⟩:=Zp HZ.out
  have fz0:=frozen_of_row w3 w.heap.size 0 _ _ HZ.out;have fz1:=frozen_of_row w3 w.heap.size 1 _ _ HZ.out;have fz2:=frozen_of_row w3 w.heap.size 2 _ _ HZ.out;have fz3:=frozen_of_row w3 w.heap.size 3 _ _ HZ.out;have fz4:=frozen_of_row w3 w.heap.size 4 _ _ HZ.out;have hsz:=lt_of_block HZ.out;have hst:=lt_of_block HT3.out
  by_cases h1:ne=0
  ·subst h1
   by_cases h2:nm=l
   ·have hub:(nm==l)=true:=by rw[h2];simp
    have hub2:(nm != l)=false:=by rw[h2];simp
    subst h2;go_wp2_with fail;have hr:=Sn (.string ⟨x.tag.lang.toArray⟩) (.string ⟨x.tag.script.toArray⟩) (.string ⟨x.tag.region.toArray⟩) (.slice av x.tag.vars.length cv) (.slice ak x.tag.keys.length ck) HZ.out;have hw:=Dn (.string ⟨x.tag.lang.toArray⟩) (.string ⟨x.tag.script.toArray⟩) (.string ⟨x.tag.region.toArray⟩) (.slice av x.tag.vars.length cv) (.slice ak x.tag.keys.length ck) HW.out (Nat.le_refl w.heap.size);have p1:=Zdv (.string ⟨x.tag.lang.toArray⟩) (.string ⟨x.tag.script.toArray⟩) (.string ⟨x.tag.region.toArray⟩) (.slice av x.tag.vars.length cv) (.slice ak x.tag.keys.length ck) O13.out HNO1.out;have p2:=Zdv (.string ⟨x.tag.lang.toArray⟩) (.string ⟨x.tag.script.toArray⟩) (.string ⟨x.tag.region.toArray⟩) (.slice av x.tag.vars.length cv) (.slice ak x.tag.keys.length ck) O23.out HNO2.out;clear c0 c1 c2 c3 c4 d0 d1 d2 d3 d4 fz0 fz1 fz2 fz3 fz4;change bodyPost _ _ _ _ _ (P5 w3 (w.heap.size) (.string ⟨x.tag.lang.toArray⟩) (.string ⟨x.tag.script.toArray⟩) (.string ⟨x.tag.region.toArray⟩) (.slice av x.tag.vars.length cv) (.slice ak x.tag.keys.length ck));generalize P5 w3 (w.heap.size) (.string ⟨x.tag.lang.toArray⟩) (.string ⟨x.tag.script.toArray⟩) (.string ⟨x.tag.region.toArray⟩) (.slice av x.tag.vars.length cv) (.slice ak x.tag.keys.length ck)=W at *
    obtain⟨d0,d1,d2,d3,d4⟩:=Zp hr
    refine bodyPost_ret (v:=.tuple #[.agg #[.string ⟨x.tag.lang.toArray⟩,.string ⟨x.tag.script.toArray⟩,.string ⟨x.tag.region.toArray⟩,.slice av x.tag.vars.length cv,.slice ak x.tag.keys.length ck],.bool true]) (by simp[results,Tryz.results95,go_sem,d0,d1,d2,d3,d4]) rfl (Zdw (by rw[Nr HX.out HQ.out];simp[HE.out]) (by rw[HX.out];exact⟨_,_,rfl,Qt.rd p1,Qd.rd p2⟩) (Xpv (cap_own p1)) hw)
   ·have hub:(nm==l)=false:=by rw[beq_eq_false_iff_ne];exact h2
    have hub2:(nm != l)=true:=by rw[bne_iff_ne];exact h2
    go_wp2_with fail;have hr:=Sn (.string ⟨#[]⟩) (.string ⟨#[]⟩) (.string ⟨#[]⟩) (.slice none 0 0) (.slice none 0 0) HZ.out;have hw:=Dn (.string ⟨#[]⟩) (.string ⟨#[]⟩) (.string ⟨#[]⟩) (.slice none 0 0) (.slice none 0 0) HW.out (Nat.le_refl w.heap.size);clear c0 c1 c2 c3 c4 d0 d1 d2 d3 d4 fz0 fz1 fz2 fz3 fz4;change bodyPost _ _ _ _ _ (P5 (w3) (w.heap.size) (.string ⟨#[]⟩) (.string ⟨#[]⟩) (.string ⟨#[]⟩) (.slice none 0 0) (.slice none 0 0));generalize P5 (w3) (w.heap.size) (.string ⟨#[]⟩) (.string ⟨#[]⟩) (.string ⟨#[]⟩) (.slice none 0 0) (.slice none 0 0)=W at *
    obtain⟨d0,d1,d2,d3,d4⟩:=Zp hr
    refine bodyPost_ret (v:=.tuple #[.agg #[.string ⟨#[]⟩,.string ⟨#[]⟩,.string ⟨#[]⟩,.slice none 0 0,.slice none 0 0],.bool false]) (by simp[results,Tryz.results95,go_sem,d0,d1,d2,d3,d4]) rfl (Mc (by rw[Nr HX.out HQ.out];simp[hub]) hw)
  ·have hnb:(ne != 0)=true:=by rw[bne_iff_ne];exact h1
   have hnb2:(ne==0)=false:=by rw[beq_eq_false_iff_ne];exact h1
   go_wp2_with fail;have hr:=Sn (.string ⟨#[]⟩) (.string ⟨#[]⟩) (.string ⟨#[]⟩) (.slice none 0 0) (.slice none 0 0) HZ.out;have hw:=Dn (.string ⟨#[]⟩) (.string ⟨#[]⟩) (.string ⟨#[]⟩) (.slice none 0 0) (.slice none 0 0) HW.out (Nat.le_refl w.heap.size);clear c0 c1 c2 c3 c4 d0 d1 d2 d3 d4 fz0 fz1 fz2 fz3 fz4;change bodyPost _ _ _ _ _ (P5 (w3) (w.heap.size) (.string ⟨#[]⟩) (.string ⟨#[]⟩) (.string ⟨#[]⟩) (.slice none 0 0) (.slice none 0 0));generalize P5 (w3) (w.heap.size) (.string ⟨#[]⟩) (.string ⟨#[]⟩) (.string ⟨#[]⟩) (.slice none 0 0) (.slice none 0 0)=W at *
   obtain⟨d0,d1,d2,d3,d4⟩:=Zp hr
   refine bodyPost_ret (v:=.tuple #[.agg #[.string ⟨#[]⟩,.string ⟨#[]⟩,.string ⟨#[]⟩,.slice none 0 0,.slice none 0 0],.bool false]) (by simp[results,Tryz.results95,go_sem,d0,d1,d2,d3,d4]) rfl (Mc (by rw[Nr HX.out HQ.out];simp[h1]) hw)
 ·have heb:(x.err != 0)=true:=by rw[bne_iff_ne];exact he
  have heb3:((x.err:Int) != 0)=true:=by rw[bne_iff_ne];omega
  have heb2:(x.err==0)=false:=by rw[beq_eq_false_iff_ne];exact he
  have HZ:=HZ2;have HW:=HW2
  obtain⟨c0,c1,c2,c3,c4⟩:=Zp HT2.out
  obtain⟨d0,d1,d2,d3,d4⟩:=Zp HZ.out
  have fz0:=frozen_of_row _ w.heap.size 0 _ _ HZ.out;have fz1:=frozen_of_row _ w.heap.size 1 _ _ HZ.out;have fz2:=frozen_of_row _ w.heap.size 2 _ _ HZ.out;have fz3:=frozen_of_row _ w.heap.size 3 _ _ HZ.out;have fz4:=frozen_of_row _ w.heap.size 4 _ _ HZ.out;have hsz:=lt_of_block HZ.out;have hst:=lt_of_block HT2.out;go_wp2_with fail;have hr:=Sn (.string ⟨#[]⟩) (.string ⟨#[]⟩) (.string ⟨#[]⟩) (.slice none 0 0) (.slice none 0 0) HZ.out;have hw:=Dn (.string ⟨#[]⟩) (.string ⟨#[]⟩) (.string ⟨#[]⟩) (.slice none 0 0) (.slice none 0 0) HW.out (Nat.le_refl w.heap.size);clear c0 c1 c2 c3 c4 d0 d1 d2 d3 d4 fz0 fz1 fz2 fz3 fz4;change bodyPost _ _ _ _ _ (P5 (((w1.alloc (.cells #[.string ⟨x.tag.lang.toArray⟩,.string ⟨x.tag.script.toArray⟩,.string ⟨x.tag.region.toArray⟩,.slice av x.tag.vars.length cv,.slice ak x.tag.keys.length ck] 160)).alloc (.cells #[.int .i64 (x.err:Int),.int .i64 (x.pos:Int)] 78))) (w.heap.size) (.string ⟨#[]⟩) (.string ⟨#[]⟩) (.string ⟨#[]⟩) (.slice none 0 0) (.slice none 0 0));generalize P5 (((w1.alloc (.cells #[.string ⟨x.tag.lang.toArray⟩,.string ⟨x.tag.script.toArray⟩,.string ⟨x.tag.region.toArray⟩,.slice av x.tag.vars.length cv,.slice ak x.tag.keys.length ck] 160)).alloc (.cells #[.int .i64 (x.err:Int),.int .i64 (x.pos:Int)] 78))) (w.heap.size) (.string ⟨#[]⟩) (.string ⟨#[]⟩) (.string ⟨#[]⟩) (.slice none 0 0) (.slice none 0 0)=W at *
  obtain⟨d0,d1,d2,d3,d4⟩:=Zp hr
  refine bodyPost_ret (v:=.tuple #[.agg #[.string ⟨#[]⟩,.string ⟨#[]⟩,.string ⟨#[]⟩,.slice none 0 0,.slice none 0 0],.bool false]) (by simp[results,Tryz.results95,go_sem,d0,d1,d2,d3,d4]) rfl (Mc (Zvy HX.out he) hw)
end
end Go.Proofs.YtbbmdbolkicpcabGreatDoor
