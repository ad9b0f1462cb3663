/- The structs of agree as opaque rows of cells: flat programs, policies, sides, traces; the contracts of made, run and leaks in these words. Condition: what comes in reads as the plain data; the tables hold what they are laid with. -/
import Derived.Test.YtkjkpddajjmloaaGreatDoorAgV
set_option linter.all false
set_option maxRecDepth 1000000
set_option maxHeartbeats 6400000
namespace Go.Proofs.YtkjkpddajjmloaaGreatDoor
open Go.ChangeShapes Go.WideShapes Go.ChangeAt Go.RowKit
open Go.Lib (hid)
theorem gsAgY {α:Type} {a:Array α} {i:Nat} {v:α} (h:a[i]?=some v):i<a.size:=(Array.getElem?_eq_some_iff.1 h).1
def FlatC (w:World) (f:FlatD) (c:Array Value):Prop:=∃ fcv fsv fav fkv,c=#[.int .i64 f.width,.int .i64 f.regs,fcv,fsv,fav,fkv]∧RdFlat none w f fcv fsv fav fkv
def PolC (w:World) (q:PolD) (c:Array Value):Prop:=∃ lv ov cv sv,c=#[lv,ov,cv,sv,.bool q.sens,.int .i64 q.steps,.int .i64 q.paths,.int .i64 q.nodes,.int .i64 q.confs]∧RdPol none w q lv ov cv sv
def TrcC (w:World) (t:TraceD) (c:Array Value):Prop:=∃ ov rv bv dv,c=#[.int .u8 t.status,.int .i64 t.steps,ov,rv,bv,dv]∧RdTrace none w t ov rv bv dv
def SideC (w:World) (f:FlatD) (q:PolD) (c:Array Value):Prop:=∃ p cla clc sla slc fcv fsv fav fkv lv ov cv sv,c=#[.pointer (some ⟨p,0,none⟩),.int .i64 f.width,.int .i64 f.regs,fcv,fsv,fav,fkv,lv,ov,cv,sv,.bool q.sens,.int .i64 q.steps,.int .i64 q.paths,.int .i64 q.nodes,.int .i64 q.confs,.slice cla f.chans.length clc,.slice sla f.sites.length slc]∧LatAt w (.pointer (some ⟨p,0,none⟩)) (sideLat q) ∧
 RdRow kInt none w (.slice cla f.chans.length clc) (chansL f q)∧RdRow kInt none w (.slice sla f.sites.length slc) (sitesL f q)∧RdFlat none w f fcv fsv fav fkv∧RdPol none w q lv ov cv sv
theorem FlatC.keep {w w':World} {f:FlatD} {c:Array Value} (h:FlatC w f c) (k:Below w.heap.size w w'):FlatC w' f c:=by obtain⟨a,b,d,e,r,g⟩:=h;exact⟨a,b,d,e,r,g.keep k⟩
theorem PolC.keep {w w':World} {q:PolD} {c:Array Value} (h:PolC w q c) (k:Below w.heap.size w w'):PolC w' q c:=by obtain⟨a,b,d,e,r,g⟩:=h;exact⟨a,b,d,e,r,g.keep k⟩
theorem TrcC.keep {w w':World} {t:TraceD} {c:Array Value} (h:TrcC w t c) (k:Below w.heap.size w w'):TrcC w' t c:=by obtain⟨a,b,d,e,r,g⟩:=h;exact⟨a,b,d,e,r,g.keep k⟩
theorem SideC.keep {w w':World} {f:FlatD} {q:PolD} {c:Array Value} (h:SideC w f q c) (k:Below w.heap.size w w'):SideC w' f q c:=by
 obtain⟨p,a1,a2,a3,a4,a5,a6,a7,a8,a9,a10,a11,a12,r,g1,g2,g3,g4,g5⟩:=h
 exact⟨p,a1,a2,a3,a4,a5,a6,a7,a8,a9,a10,a11,a12,r,g1.keep k,g2.keep k,g3.keep k,g4.keep k,g5.keep k⟩
theorem FlatC.info {w:World} {f:FlatD} {c:Array Value} (h:FlatC w f c):(Tryz.prog.info? 26).map (·.size)=some c.size:=by obtain⟨a,b,d,e,rfl,g⟩:=h;kernel_rfl
theorem PolC.info {w:World} {q:PolD} {c:Array Value} (h:PolC w q c):(Tryz.prog.info? 30).map (·.size)=some c.size:=by obtain⟨a,b,d,e,rfl,g⟩:=h;kernel_rfl
theorem TrcC.info {w:World} {t:TraceD} {c:Array Value} (h:TrcC w t c):(Tryz.prog.info? 52).map (·.size)=some c.size:=by obtain⟨a,b,d,e,rfl,g⟩:=h;kernel_rfl
theorem TrcC.size {w:World} {t:TraceD} {c:Array Value} (h:TrcC w t c):c.size=6:=by obtain⟨a,b,d,e,rfl,g⟩:=h;rfl
theorem TrcC.one {w:World} {t:TraceD} {c:Array Value} (h:TrcC w t c):c.all (·.oneCell')=true:=by
 obtain⟨a,b,d,e,rfl,g⟩:=h
 obtain⟨_,_,rfl⟩:=g.1.is
 obtain⟨_,_,rfl⟩:=g.2.1.is
 obtain⟨_,_,rfl⟩:=g.2.2.1.is
 obtain⟨_,_,rfl⟩:=g.2.2.2.1.is
 kernel_rfl
theorem SideC.info {w:World} {f:FlatD} {q:PolD} {c:Array Value} (h:SideC w f q c):(Tryz.prog.info? 64).map (·.size)=some c.size:=by obtain⟨p,a1,a2,a3,a4,a5,a6,a7,a8,a9,a10,a11,a12,rfl,g⟩:=h;kernel_rfl
theorem SideC.size {w:World} {f:FlatD} {q:PolD} {c:Array Value} (h:SideC w f q c):c.size=18:=by obtain⟨p,a1,a2,a3,a4,a5,a6,a7,a8,a9,a10,a11,a12,rfl,g⟩:=h;rfl
theorem SideC.one {w:World} {f:FlatD} {q:PolD} {c:Array Value} (h:SideC w f q c):c.all (·.oneCell')=true:=by
 obtain⟨p,a1,a2,a3,a4,a5,a6,a7,a8,a9,a10,a11,a12,rfl,g1,g2,g3,g4,g5⟩:=h
 obtain⟨_,_,rfl⟩:=g4.1.is
 obtain⟨_,_,rfl⟩:=g4.2.1.is
 obtain⟨_,_,rfl⟩:=g4.2.2.1.is
 obtain⟨_,_,rfl⟩:=g4.2.2.2.1.is
 obtain⟨_,_,rfl⟩:=g5.1.is
 obtain⟨_,_,rfl⟩:=g5.2.1.is
 obtain⟨_,_,rfl⟩:=g5.2.2.1.is
 obtain⟨_,_,rfl⟩:=g5.2.2.2.1.is
 kernel_rfl
theorem SideC.lat {w:World} {f:FlatD} {q:PolD} {c:Array Value} (h:SideC w f q c):∃ p,c[0]?=some (.pointer (some ⟨p,0,none⟩))∧LatAt w (.pointer (some ⟨p,0,none⟩)) (sideLat q):=by
 obtain⟨p,a1,a2,a3,a4,a5,a6,a7,a8,a9,a10,a11,a12,rfl,g1,g2⟩:=h;exact⟨p,rfl,g1⟩
theorem FlatC.chans {w:World} {f:FlatD} {c:Array Value} (h:FlatC w f c):∃ a k,c[2]?=some (.slice a f.chans.length k):=by
 obtain⟨a,b,d,e,rfl,g⟩:=h;obtain⟨x,y,rfl⟩:=g.1.is;exact⟨x,y,rfl⟩
theorem side_err {f:FlatD} {q:PolD} (h:SideP f q) {n:Nat} (hn:n≤f.chans.length):errRun f n q.steps=0:=by
 unfold errRun errNew
 have:=h.s1
 have:=h.s2
 rw[if_neg (by omega),if_pos h.ok,if_neg (by omega)]
theorem sideLat_n (q:PolD):((sideLat q).n:Int)=q.levels.length:=by unfold sideLat latOf;simp
theorem made_open (f:FlatD) (q:PolD) (cF cP:Array Value) (w:World) (hF:FlatC w f cF) (hP:PolC w q cP) (hL:Laid w) (hT:BitsAt w) (h0:sideErr f q=0) :
  Calls Tryz.prog 27 #[.agg cF,.agg cP] w fun e w'=>∃ cS,e=.returned (.tuple #[.agg cS,.int .i64 0])∧SideC w' f q cS∧Below w.heap.size w w':=by
 obtain⟨fcv,fsv,fav,fkv,rfl,hF⟩:=hF
 obtain⟨lv,ov,cv,sv,rfl,hP⟩:=hP
 refine (made_any f fcv fsv fav fkv q lv ov cv sv w hF hP hL hT).mono ?_
 rintro e w' ⟨S,rfl,hs,hb⟩
 rw[h0] at hs ⊢
 rcases hs with ⟨h,_⟩|⟨_,p,cla,clc,sla,slc,rfl,g1,g2,g3⟩
 ·exact absurd rfl h
 ·exact⟨_,rfl,⟨p,cla,clc,sla,slc,fcv,fsv,fav,fkv,lv,ov,cv,sv,rfl,g1,g2,g3,hF.keep hb,hP.keep hb⟩,hb⟩
theorem made_bad (f:FlatD) (q:PolD) (cF cP:Array Value) (w:World) (hF:FlatC w f cF) (hP:PolC w q cP) (hL:Laid w) (hT:BitsAt w) {E:Int} (hE:sideErr f q=E) (h0:E≠0) :
  Calls Tryz.prog 27 #[.agg cF,.agg cP] w fun e w'=>e=.returned (.tuple #[.agg sideZ,.int .i64 E])∧Below w.heap.size w w':=by
 obtain⟨fcv,fsv,fav,fkv,rfl,hF⟩:=hF
 obtain⟨lv,ov,cv,sv,rfl,hP⟩:=hP
 refine (made_any f fcv fsv fav fkv q lv ov cv sv w hF hP hL hT).mono ?_
 rintro e w' ⟨S,rfl,hs,hb⟩
 rw[hE] at hs ⊢
 rcases hs with ⟨_,h⟩|⟨h,_⟩
 ·rw[h];exact⟨rfl,hb⟩
 ·exact absurd h h0
theorem run_open (f:FlatD) (q:PolD) (cS:Array Value) (av:Value) (A:List (List Int)) (w:World) (hS:SideC w f q cS) (hSP:SideP f q) (hI:RdLists none w av A) (hL:Laid w) (hn:A.length≤f.chans.length) :
  Calls Tryz.prog 29 #[.agg cS,av] w fun e w'=>∃ cT,e=.returned (.tuple #[.agg cT,.int .i64 0])∧TrcC w' (runT f A q.steps) cT∧Below w.heap.size w w':=by
 obtain⟨p,cla,clc,sla,slc,fcv,fsv,fav,fkv,lv,ov,cv,sv,rfl,g1,g2,g3,g4,g5⟩:=hS
 have hh:=(headP hSP.ok).chans
 obtain⟨fca,fcc,rfl⟩:=g4.1.is
 obtain⟨fsa,fsc,rfl⟩:=g4.2.1.is
 obtain⟨faa,fac,rfl⟩:=g4.2.2.1.is
 obtain⟨fka,fkc,rfl⟩:=g4.2.2.2.1.is
 obtain⟨la,lc,rfl⟩:=g5.1.is
 obtain⟨oa,oc,rfl⟩:=g5.2.1.is
 obtain⟨ca,cc,rfl⟩:=g5.2.2.1.is
 obtain⟨sa,sc,rfl⟩:=g5.2.2.2.1.is
 refine (side_run p f fca fcc fsa fsc faa fac fka fkc q la lc oa oc ca cc sa sc cla f.chans.length clc sla f.sites.length slc av A w g4 ⟨by have:=hSP.s1;omega,by have:=hSP.s2;omega⟩ hI hL (by omega)).mono ?_
 rintro e w' ⟨a1,a2,a3,a4,a5,a6,a7,a8,rfl,hr,hb⟩
 rw[side_err hSP hn]
 exact⟨_,rfl,⟨_,_,_,_,rfl,hr.forget⟩,hb⟩
theorem leaks_open (f:FlatD) (q:PolD) (cS cX cY:Array Value) (level:Int) (av bv:Value) (A B:List (List Int)) (x y:TraceD) (w:World) (hS:SideC w f q cS) (hSP:SideP f q) (h0:0≤level) (h1:level<q.levels.length) (hA:A.length≤f.chans.length) (hB:B.length≤f.chans.length) (hzA:∀ l∈A,l.length≤1000000) (hzB:∀ l∈B,l.length≤1000000)
  (ha:RdLists none w av A) (hb:RdLists none w bv B) (hx:TrcC w x cX) (hy:TrcC w y cY) :
  Calls Tryz.prog 30 #[.agg cS,.int .i64 level,av,bv,.agg cX,.agg cY] w fun e w'=>e=.returned (.bool (leaks1 f q level A B x y))∧Below w.heap.size w w':=by
 obtain⟨p,cla,clc,sla,slc,fcv,fsv,fav,fkv,lv,ov,cv,sv,rfl,g1,g2,g3,g4,g5⟩:=hS
 obtain⟨xo,xr,xb,xd,rfl,hx⟩:=hx
 obtain⟨yo,yr,yb,yd,rfl,hy⟩:=hy
 obtain⟨fca,fcc,rfl⟩:=g4.1.is
 obtain⟨fsa,fsc,rfl⟩:=g4.2.1.is
 obtain⟨faa,fac,rfl⟩:=g4.2.2.1.is
 obtain⟨fka,fkc,rfl⟩:=g4.2.2.2.1.is
 obtain⟨la,lc,rfl⟩:=g5.1.is
 obtain⟨oa,oc,rfl⟩:=g5.2.1.is
 obtain⟨ca,cc,rfl⟩:=g5.2.2.1.is
 obtain⟨sa,sc,rfl⟩:=g5.2.2.2.1.is
 obtain⟨xa1,xa2,rfl⟩:=hx.1.is
 obtain⟨xa3,xa4,rfl⟩:=hx.2.1.is
 obtain⟨xa5,xa6,rfl⟩:=hx.2.2.1.is
 obtain⟨xa7,xa8,rfl⟩:=hx.2.2.2.1.is
 obtain⟨ya1,ya2,rfl⟩:=hy.1.is
 obtain⟨ya3,ya4,rfl⟩:=hy.2.1.is
 obtain⟨ya5,ya6,rfl⟩:=hy.2.2.1.is
 obtain⟨ya7,ya8,rfl⟩:=hy.2.2.2.1.is
 exact side_leaks p f fca fcc fsa fsc faa fac fka fkc q la lc oa oc ca cc sa sc cla clc sla slc level av bv A B x y xa1 xa2 xa3 xa4 xa5 xa6 xa7 xa8 ya1 ya2 ya3 ya4 ya5 ya6 ya7 ya8 w hSP h0 h1 hA hB hzA hzB g1 g2 g3 ha hb hx hy
theorem leaks_any (f:FlatD) (q:PolD) (cF cP:Array Value) (level:Int) (av bv:Value) (A B:List (List Int)) (w:World) (hF:FlatC w f cF) (hP:PolC w q cP) (hL:Laid w) (hT:BitsAt w) (hlv:InI64 level) (ha:RdLists none w av A) (hb:RdLists none w bv B) (hzA:∀ l∈A,l.length≤1000000) (hzB:∀ l∈B,l.length≤1000000) :
  Calls Tryz.prog 9 #[.agg cF,.agg cP,.int .i64 level,av,bv] w fun e w'=>e=.returned (.tuple #[.bool (leaksB f q level A B),.int .i64 (leaksErr f q level A B)])∧Below w.heap.size w w':=by
 obtain⟨aa,ac,rfl⟩:=ha.is
 obtain⟨ba,bc,rfl⟩:=hb.is
 obtain⟨V,hV⟩:∃ V,leaksB f q level A B=V:=⟨_,rfl⟩
 obtain⟨R,hR⟩:∃ R,leaksErr f q level A B=R:=⟨_,rfl⟩
 rw[hV,hR]
 have HV:=hid hV
 have HR:=hid hR
 have HF:=hid hF
 have HP:=hid hP
 have HLd:=hid hL
 have HT:=hid hT
 have HA:=hid ha
 have HB:=hid hb
 have HFI:=hid hF.info
 have HPI:=hid hP.info
 clear hV hR hF hP hL hT ha hb
 have hal:=((Below.refl w.heap.size w).alloc (Nat.le_refl _) (.cells cF 26)).alloc (by simp) (.cells cP 30)
 have hx:=heap2_of (w:=w) (A:=(.cells cF 26)) (B:=(.cells cP 30)) (Below.refl _ _)
 have HB0:=hid hal
 have HG0:=hid hx.1
 have HG1:=hid hx.2.1
 clear hal hx
 go_enter Tryz.func9,Tryz.ntmps9
 go_upto_region 1 with fail
 generalize (w.alloc (.cells cF 26)).alloc (.cells cP 30)=W at *
 have hsz:w.heap.size+1<W.heap.size:=(gsAgY HG1.out)
 have HFW:=hid (HF.out.keep HB0.out)
 have HPW:=hid (HP.out.keep HB0.out)
 have HLW:=hid (HLd.out.keep HB0.out)
 have HTW:=hid (HT.out.keep HB0.out)
 clear HF HP HLd HT
 obtain⟨E,hE⟩:∃ E,sideErr f q=E:=⟨_,rfl⟩
 by_cases n1:E=0
 case neg=>
  have HM:=hid (made_bad f q cF cP W HFW.out HPW.out HLW.out HTW.out hE n1)
  obtain rfl:R=E:=by rw[← HR.out,leaksErr,hE,if_pos n1]
  have HVV:Hid (V=false):=by show V=_;rw[← HV.out,leaksB,HR.out,if_pos n1]
  clear hE
  go_upto_region 2 with (first|(refine wpList_load_row rfl 26 (.tmp 5) rfl w.heap.size rfl 26 cF (0,0) _ ?l50001 Tryz.underlying26 rfl ?i50001 ?_;exact HG0.out;exact HFI.out)|(refine wpList_load_row rfl 30 (.tmp 6) rfl (w.heap.size+1) rfl 30 cP (0,0) _ ?l50002 Tryz.underlying30 rfl ?i50002 ?_;exact HG1.out;exact HPI.out)|(go_at_call 27;refine HM.out.mono ?_;rintro e z1 ⟨rfl,hz⟩;have B1:=hid hz;have HZN:=hid (heap_alloc_new z1 (.cells #[.pointer none,.int .i64 0,.int .i64 0,.slice none 0 0,.slice none 0 0,.slice none 0 0,.slice none 0 0,.slice none 0 0,.slice none 0 0,.slice none 0 0,.slice none 0 0,.bool false,.int .i64 0,.int .i64 0,.int .i64 0,.int .i64 0,.slice none 0 0,.slice none 0 0] 64));clear hz)|(refine wpList_store_row rfl 64 (.tmp 12) (.tmp 20) rfl z1.heap.size #[.pointer none,.int .i64 0,.int .i64 0,.slice none 0 0,.slice none 0 0,.slice none 0 0,.slice none 0 0,.slice none 0 0,.slice none 0 0,.slice none 0 0,.slice none 0 0,.bool false,.int .i64 0,.int .i64 0,.int .i64 0,.int .i64 0,.slice none 0 0,.slice none 0 0] rfl rfl 64 #[.pointer none,.int .i64 0,.int .i64 0,.slice none 0 0,.slice none 0 0,.slice none 0 0,.slice none 0 0,.slice none 0 0,.slice none 0 0,.slice none 0 0,.slice none 0 0,.bool false,.int .i64 0,.int .i64 0,.int .i64 0,.int .i64 0,.slice none 0 0,.slice none 0 0] ?h50003 (by as_aux_lemma=>kernel_rfl) (by as_aux_lemma=>kernel_rfl) (by as_aux_lemma=>kernel_rfl) ?_;exact HZN.out))
  have HB1:=hid (bcomp HB0.out (bcomp B1.out (below_row ((Below.refl z1.heap.size z1).alloc (Nat.le_refl _) (.cells #[.pointer none,.int .i64 0,.int .i64 0,.slice none 0 0,.slice none 0 0,.slice none 0 0,.slice none 0 0,.slice none 0 0,.slice none 0 0,.slice none 0 0,.slice none 0 0,.bool false,.int .i64 0,.int .i64 0,.int .i64 0,.int .i64 0,.slice none 0 0,.slice none 0 0] 64)) (Nat.le_refl _) #[.pointer none,.int .i64 0,.int .i64 0,.slice none 0 0,.slice none 0 0,.slice none 0 0,.slice none 0 0,.slice none 0 0,.slice none 0 0,.slice none 0 0,.slice none 0 0,.bool false,.int .i64 0,.int .i64 0,.int .i64 0,.int .i64 0,.slice none 0 0,.slice none 0 0])))
  try simp only[Act.put]
  generalize (z1.alloc (.cells #[.pointer none,.int .i64 0,.int .i64 0,.slice none 0 0,.slice none 0 0,.slice none 0 0,.slice none 0 0,.slice none 0 0,.slice none 0 0,.slice none 0 0,.slice none 0 0,.bool false,.int .i64 0,.int .i64 0,.int .i64 0,.int .i64 0,.slice none 0 0,.slice none 0 0] 64)).setRow z1.heap.size #[.pointer none,.int .i64 0,.int .i64 0,.slice none 0 0,.slice none 0 0,.slice none 0 0,.slice none 0 0,.slice none 0 0,.slice none 0 0,.slice none 0 0,.slice none 0 0,.bool false,.int .i64 0,.int .i64 0,.int .i64 0,.int .i64 0,.slice none 0 0,.slice none 0 0]=W2 at *
  have n1':(R != 0)=true:=by simp[n1]
  go_wp2_with fail
  go_ret2
  exact⟨by rw[HVV.out];rfl,HB1.out⟩
 subst n1
 have HM:=hid (made_open f q cF cP W HFW.out HPW.out HLW.out HTW.out hE)
 have hSP:=sideP hE
 have HSP:=hid hSP
 have HE:=hid hE
 clear hE hSP
 go_upto_region 2 with (first|(refine wpList_load_row rfl 26 (.tmp 5) rfl w.heap.size rfl 26 cF (0,0) _ ?l64001 Tryz.underlying26 rfl ?i64001 ?_;exact HG0.out;exact HFI.out)|(refine wpList_load_row rfl 30 (.tmp 6) rfl (w.heap.size+1) rfl 30 cP (0,0) _ ?l64002 Tryz.underlying30 rfl ?i64002 ?_;exact HG1.out;exact HPI.out)|(go_at_call 27;refine HM.out.mono ?_;rintro e z1 ⟨cS,rfl,hs,hz⟩;have HS:=hid hs;have HSI:=hid hs.info;have HSZ:=hid hs.size;have HSO:=hid hs.one;have B1:=hid hz;have HZN:=hid (heap_alloc_new z1 (.cells #[.pointer none,.int .i64 0,.int .i64 0,.slice none 0 0,.slice none 0 0,.slice none 0 0,.slice none 0 0,.slice none 0 0,.slice none 0 0,.slice none 0 0,.slice none 0 0,.bool false,.int .i64 0,.int .i64 0,.int .i64 0,.int .i64 0,.slice none 0 0,.slice none 0 0] 64));clear hz hs)|(refine wpList_store_row rfl 64 (.tmp 12) (.tmp 20) rfl z1.heap.size cS rfl rfl 64 #[.pointer none,.int .i64 0,.int .i64 0,.slice none 0 0,.slice none 0 0,.slice none 0 0,.slice none 0 0,.slice none 0 0,.slice none 0 0,.slice none 0 0,.slice none 0 0,.bool false,.int .i64 0,.int .i64 0,.int .i64 0,.int .i64 0,.slice none 0 0,.slice none 0 0] ?h64004 (HSI.out) (by rw[HSZ.out];rfl) (HSO.out) ?_;exact HZN.out))
 have hbn:Below z1.heap.size z1 ((z1.alloc (.cells #[.pointer none,.int .i64 0,.int .i64 0,.slice none 0 0,.slice none 0 0,.slice none 0 0,.slice none 0 0,.slice none 0 0,.slice none 0 0,.slice none 0 0,.slice none 0 0,.bool false,.int .i64 0,.int .i64 0,.int .i64 0,.int .i64 0,.slice none 0 0,.slice none 0 0] 64)).setRow z1.heap.size cS):=below_row ((Below.refl z1.heap.size z1).alloc (Nat.le_refl _) (.cells #[.pointer none,.int .i64 0,.int .i64 0,.slice none 0 0,.slice none 0 0,.slice none 0 0,.slice none 0 0,.slice none 0 0,.slice none 0 0,.slice none 0 0,.slice none 0 0,.bool false,.int .i64 0,.int .i64 0,.int .i64 0,.int .i64 0,.slice none 0 0,.slice none 0 0] 64)) (Nat.le_refl _) cS
 have HB1:=hid (bcomp B1.out hbn)
 have HS1:=hid (HS.out.keep hbn)
 have HG2:Hid (((z1.alloc (.cells #[.pointer none,.int .i64 0,.int .i64 0,.slice none 0 0,.slice none 0 0,.slice none 0 0,.slice none 0 0,.slice none 0 0,.slice none 0 0,.slice none 0 0,.slice none 0 0,.bool false,.int .i64 0,.int .i64 0,.int .i64 0,.int .i64 0,.slice none 0 0,.slice none 0 0] 64)).setRow z1.heap.size cS).heap[z1.heap.size]?=some (.cells cS 64 (0,0))):=setRow_heap _ _ _ _ _ _ HZN.out
 have hzs:W.heap.size≤z1.heap.size:=B1.out.size
 try simp only[Act.put]
 clear hbn HZN HS HM
 generalize (z1.alloc (.cells #[.pointer none,.int .i64 0,.int .i64 0,.slice none 0 0,.slice none 0 0,.slice none 0 0,.slice none 0 0,.slice none 0 0,.slice none 0 0,.slice none 0 0,.slice none 0 0,.bool false,.int .i64 0,.int .i64 0,.int .i64 0,.int .i64 0,.slice none 0 0,.slice none 0 0] 64)).setRow z1.heap.size cS=W2 at *
 have HG3:Hid (W2.heap[w.heap.size]?=some (.cells cF 26 (0,0))):=(HB1.out.block _ (by omega)).trans HG0.out
 have hsb2:z1.heap.size<W2.heap.size:=(gsAgY HG2.out)
 have HBW2:=hid (bcomp HB0.out HB1.out)
 have HL2:=hid (HLW.out.keep HB1.out)
 have HA2:=hid (HA.out.keep HBW2.out)
 have HB2:=hid (HB.out.keep HBW2.out)
 obtain⟨fca,fcc,hy2⟩:=HFW.out.chans
 have y2:=row_of HG3.out 2 _ hy2
 obtain⟨p,hp0,hLat⟩:=HS1.out.lat
 have s0:=row_of HG2.out 0 _ hp0
 clear HG0 HG1 HFW HPW HLW HTW HA HB HB0 HB1 B1 hy2 hp0
 have HLEN:=hid ((len_any (sideLat q) _ W2 hLat).mono fun e w' h=>(⟨h.1.trans (by rw[sideLat_n]),h.2.symm⟩:e=.returned (.int .i64 q.levels.length)∧W2=w'))
 have HRNG:Hid (rangeBad f q level A B→R=3∧V=false):=by
  intro hb
  have hr:R=3:=by rw[← HR.out,leaksErr,if_neg (by rw[HE.out];simp),if_pos hb]
  refine⟨hr,?_⟩
  rw[← HV.out,leaksB,HR.out,hr];rfl
 clear hLat
 by_cases r0:level<0
 ·obtain⟨rfl,hv3⟩:=HRNG.out (by unfold rangeBad;omega)
  subst hv3
  go_wp2_with fail
  go_ret2
  exact⟨rfl,HBW2.out⟩
 by_cases r1:(q.levels.length:Int)≤level
 ·obtain⟨rfl,hv3⟩:=HRNG.out (by unfold rangeBad;omega)
  subst hv3
  go_wp2_with (go_at_call 28;refine HLEN.out.mono ?_;rintro e z ⟨rfl,rfl⟩)
  go_ret2
  exact⟨rfl,HBW2.out⟩
 by_cases r2:f.chans.length<A.length
 ·obtain⟨rfl,hv3⟩:=HRNG.out (by unfold rangeBad;omega)
  subst hv3
  have r2':(f.chans.length:Int)<A.length:=by omega
  go_wp2_with (go_at_call 28;refine HLEN.out.mono ?_;rintro e z ⟨rfl,rfl⟩)
  go_ret2
  exact⟨rfl,HBW2.out⟩
 have r2':¬ (f.chans.length:Int)<A.length:=by omega
 by_cases r3:f.chans.length<B.length
 ·obtain⟨rfl,hv3⟩:=HRNG.out (by unfold rangeBad;omega)
  subst hv3
  have r3':(f.chans.length:Int)<B.length:=by omega
  go_wp2_with (go_at_call 28;refine HLEN.out.mono ?_;rintro e z ⟨rfl,rfl⟩)
  go_ret2
  exact⟨rfl,HBW2.out⟩
 have r3':¬ (f.chans.length:Int)<B.length:=by omega
 have HNR:Hid (¬ rangeBad f q level A B):=by
  show ¬ _
  unfold rangeBad
  omega
 obtain rfl:R=0:=by rw[← HR.out,leaksErr,if_neg (by rw[HE.out];simp),if_neg HNR.out]
 have HV2:Hid (V=leaks1 f q level A B (runT f A q.steps) (runT f B q.steps)):=by show V=_;rw[← HV.out,leaksB,HR.out];rfl
 clear HRNG HNR HR HV
 go_upto_region 6 with (go_at_call 28;refine HLEN.out.mono ?_;rintro e z ⟨rfl,rfl⟩)
 clear HLEN s0 y2
 have hrA:=run_open f q cS _ A W2 HS1.out HSP.out HA2.out HL2.out (by omega)
 obtain⟨tx,htx⟩:∃ t,runT f A q.steps=t:=⟨_,rfl⟩
 rw[htx] at hrA HV2
 have HRA:=hid hrA
 clear hrA htx
 go_upto_region 7 with (first|(refine wpList_load_row rfl 64 (.tmp 12) rfl z1.heap.size rfl 64 cS (0,0) _ ?l133005 Tryz.underlying64 rfl ?i133005 ?_;exact HG2.out;exact HSI.out)|(go_at_call 29;refine HRA.out.mono ?_;rintro e z3 ⟨cX,rfl,ht,hz⟩;have HTX:=hid ht;have HXI:=hid ht.info;have HXS:=hid ht.size;have HXO:=hid ht.one;have B3:=hid hz;have HZN:=hid (heap_alloc_new z3 (.cells #[.int .u8 0,.int .i64 0,.slice none 0 0,.slice none 0 0,.slice none 0 0,.slice none 0 0] 52));clear hz ht)|(refine wpList_store_row rfl 52 (.tmp 14) (.tmp 54) rfl z3.heap.size cX rfl rfl 52 #[.int .u8 0,.int .i64 0,.slice none 0 0,.slice none 0 0,.slice none 0 0,.slice none 0 0] ?h133008 (HXI.out) (by rw[HXS.out];rfl) (HXO.out) ?_;exact HZN.out))
 have hbn:Below z3.heap.size z3 ((z3.alloc (.cells #[.int .u8 0,.int .i64 0,.slice none 0 0,.slice none 0 0,.slice none 0 0,.slice none 0 0] 52)).setRow z3.heap.size cX):=below_row ((Below.refl z3.heap.size z3).alloc (Nat.le_refl _) (.cells #[.int .u8 0,.int .i64 0,.slice none 0 0,.slice none 0 0,.slice none 0 0,.slice none 0 0] 52)) (Nat.le_refl _) cX
 have HB3:=hid (bcomp B3.out hbn)
 have HTX1:=hid (HTX.out.keep hbn)
 have HG4:Hid (((z3.alloc (.cells #[.int .u8 0,.int .i64 0,.slice none 0 0,.slice none 0 0,.slice none 0 0,.slice none 0 0] 52)).setRow z3.heap.size cX).heap[z3.heap.size]?=some (.cells cX 52 (0,0))):=setRow_heap _ _ _ _ _ _ HZN.out
 try simp only[Act.put]
 clear hbn HZN HTX HRA B3
 generalize (z3.alloc (.cells #[.int .u8 0,.int .i64 0,.slice none 0 0,.slice none 0 0,.slice none 0 0,.slice none 0 0] 52)).setRow z3.heap.size cX=W3 at *
 have HG5:=hid ((HB3.out.block _ hsb2).trans HG2.out)
 have hxb2:z3.heap.size<W3.heap.size:=(gsAgY HG4.out)
 have hrB:=run_open f q cS _ B W3 (HS1.out.keep HB3.out) HSP.out (HB2.out.keep HB3.out) (HL2.out.keep HB3.out) (by omega)
 obtain⟨ty,hty⟩:∃ t,runT f B q.steps=t:=⟨_,rfl⟩
 rw[hty] at hrB HV2
 have HRB:=hid hrB
 clear hrB hty
 go_upto_region 9 with fail
 go_upto_region 10 with (first|(refine wpList_load_row rfl 64 (.tmp 12) rfl z1.heap.size rfl 64 cS (0,0) _ ?l149006 Tryz.underlying64 rfl ?i149006 ?_;exact HG5.out;exact HSI.out)|(go_at_call 29;refine HRB.out.mono ?_;rintro e z4 ⟨cY,rfl,ht,hz⟩;have HTY:=hid ht;have HYI:=hid ht.info;have HYS:=hid ht.size;have HYO:=hid ht.one;have B4:=hid hz;have HZN:=hid (heap_alloc_new z4 (.cells #[.int .u8 0,.int .i64 0,.slice none 0 0,.slice none 0 0,.slice none 0 0,.slice none 0 0] 52));clear hz ht)|(refine wpList_store_row rfl 52 (.tmp 15) (.tmp 63) rfl z4.heap.size cY rfl rfl 52 #[.int .u8 0,.int .i64 0,.slice none 0 0,.slice none 0 0,.slice none 0 0,.slice none 0 0] ?h149009 (HYI.out) (by rw[HYS.out];rfl) (HYO.out) ?_;exact HZN.out))
 have hbn:Below z4.heap.size z4 ((z4.alloc (.cells #[.int .u8 0,.int .i64 0,.slice none 0 0,.slice none 0 0,.slice none 0 0,.slice none 0 0] 52)).setRow z4.heap.size cY):=below_row ((Below.refl z4.heap.size z4).alloc (Nat.le_refl _) (.cells #[.int .u8 0,.int .i64 0,.slice none 0 0,.slice none 0 0,.slice none 0 0,.slice none 0 0] 52)) (Nat.le_refl _) cY
 have HB4:=hid (bcomp B4.out hbn)
 have HTY1:=hid (HTY.out.keep hbn)
 have HG6:Hid (((z4.alloc (.cells #[.int .u8 0,.int .i64 0,.slice none 0 0,.slice none 0 0,.slice none 0 0,.slice none 0 0] 52)).setRow z4.heap.size cY).heap[z4.heap.size]?=some (.cells cY 52 (0,0))):=setRow_heap _ _ _ _ _ _ HZN.out
 try simp only[Act.put]
 clear hbn HZN HTY HRB B4
 generalize (z4.alloc (.cells #[.int .u8 0,.int .i64 0,.slice none 0 0,.slice none 0 0,.slice none 0 0,.slice none 0 0] 52)).setRow z4.heap.size cY=W4 at *
 have HB24:=hid (bcomp HB3.out HB4.out)
 have HG7:=hid ((HB4.out.block _ (gsAgY HG5.out)).trans HG5.out)
 have HG8:=hid ((HB4.out.block _ hxb2).trans HG4.out)
 have hlk:=leaks_open f q cS cX cY level _ _ A B tx ty W4 (HS1.out.keep HB24.out) HSP.out (by omega) (by omega) (by omega) (by omega) hzA hzB (HA2.out.keep HB24.out) (HB2.out.keep HB24.out) (HTX1.out.keep HB4.out) HTY1.out
 rw[← HV2.out] at hlk
 have HLK:=hid hlk
 have HBF:=hid (bcomp HBW2.out HB24.out)
 clear hlk HG5 HG4 HB24
 go_upto_region 12 with fail
 go_wp2_with (first|(refine wpList_load_row rfl 64 (.tmp 12) rfl z1.heap.size rfl 64 cS (0,0) _ ?l166007 Tryz.underlying64 rfl ?i166007 ?_;exact HG7.out;exact HSI.out)|(refine wpList_load_row rfl 52 (.tmp 14) rfl z3.heap.size rfl 52 cX (0,0) _ ?l166010 Tryz.underlying52 rfl ?i166010 ?_;exact HG8.out;exact HXI.out)|(refine wpList_load_row rfl 52 (.tmp 15) rfl z4.heap.size rfl 52 cY (0,0) _ ?l166011 Tryz.underlying52 rfl ?i166011 ?_;exact HG6.out;exact HYI.out)|(go_at_call 30;refine HLK.out.mono ?_;rintro e z5 ⟨rfl,hz⟩;have B5:=hid (bcomp HBF.out hz);clear hz))
 go_ret2
 exact⟨rfl,B5.out⟩
theorem row_rdw {α:Type} (K:Kind α) {w:World} {g:Nat} {l:List α} {cs:Array Value} (h:w.heap[g]?=some (.cells cs K.T (0,0))) (hc:cs=(l.flatMap K.cells).toArray) (hl:l.length*K.bytes≤140737488351232) (hs:∀ s∈l,K.ok s):RdRow K none w (.slice (some ⟨g,0,none⟩) l.length l.length) l:=by
 subst hc
 refine⟨_,_,rfl,⟨hl,Nat.le_refl _⟩,fun i x hx=>⟨g,0,rfl,Free.none _ _ _,fun j u hj=>?_,hs x (List.mem_of_getElem? hx)⟩⟩
 have hjl:j<K.sz:=by rw[← K.len x];exact (List.getElem?_eq_some_iff.1 hj).1
 refine row_of h _ u ?_
 rw[List.getElem?_toArray,Nat.zero_add,flat_get K.cells K.sz K.len l i j x hx hjl]
 exact hj
theorem row_nw {α:Type} (K:Kind α) {w:World} {g:Nat} {l:List α} {cs:Array Value} (h:w.heap[g]?=some (.cells cs K.T (0,0))) (hc:cs=(l.flatMap K.cells).toArray) (hl:l.length*K.bytes≤140737488351232) (hs:∀ s∈l,K.ok s):RdRow K (some (upFrom 0)) w (.slice (some ⟨g,0,none⟩) l.length l.length) l:=by
 obtain⟨a,c,e,hx,hr⟩:=row_rdw K h hc hl hs
 simp only[Value.slice.injEq] at e
 obtain⟨rfl,-,rfl⟩:=e
 refine⟨_,_,rfl,hx,fun i x hi=>?_⟩
 obtain⟨b,o,e1,hf,hcc,hk⟩:=hr i x hi
 simp only[Option.some.injEq,Addr.mk.injEq,and_true] at e1
 obtain⟨rfl,rfl⟩:=e1
 exact⟨g,0,rfl,Free.of (Nat.zero_le _) h,hcc,hk⟩
theorem nilOne {w:World} {g h:Nat} {x:Int} (hx:InU64 x) (hg:w.heap[g]?=some (.cells #[.int .u64 x] 58 (0,0))) (hh:w.heap[h]?=some (.cells #[.slice none 0 0,.slice (some ⟨g,0,none⟩) 1 1] 61 (0,0))):RdLists none w (.slice (some ⟨h,0,none⟩) 2 2) [[],[x]]:=by
 refine⟨_,2,rfl,⟨by show 2*24≤140737488351232;omega,by show 2≤2;omega⟩,fun i l hl=>?_⟩
 match i,hl with
 | 0,hl=>simp only[List.getElem?_cons_zero,Option.some.injEq] at hl;subst hl;exact⟨h,0,_,rfl,Free.none _ _ _,row_of hh 0 _ rfl,nilRow _ _ _⟩
 | 1,hl=>simp only[List.getElem?_cons_zero,List.getElem?_cons_succ,Option.some.injEq] at hl;subst hl;exact⟨h,0,_,rfl,Free.none _ _ _,row_of hh 1 _ rfl,(row_nw kNum (l:=[x]) hg rfl (by show 1*8≤_;omega) (fun s hs=>by simp only[List.mem_singleton] at hs;subst hs;exact hx)).forget⟩
 | i+2,hl=>simp at hl
theorem a_any (w:World):Calls Tryz.prog 25 #[] w fun e w'=>∃ v,e=.returned v∧RdLists none w' v [[],[3]]∧Below w.heap.size w w':=by
 have hal:=((Below.refl w.heap.size w).alloc (Nat.le_refl _) (.cells #[.int .u64 3] 58)).alloc (by simp) (.cells #[.slice none 0 0,.slice (some ⟨w.heap.size,0,none⟩) 1 1] 61)
 have hx:=heap2_of (w:=w) (A:=.cells #[.int .u64 3] 58 (0,0)) (B:=.cells #[.slice none 0 0,.slice (some ⟨w.heap.size,0,none⟩) 1 1] 61 (0,0)) (Below.refl _ _)
 have HV:=hid (nilOne ⟨by decide,by decide⟩ hx.1 hx.2.1)
 have HB:=hid hal
 clear hal hx
 go_enter Tryz.func25,Tryz.ntmps25
 go_wp2_with fail
 go_ret
 exact⟨_,rfl,HV.out,HB.out⟩
theorem b_any (w:World):Calls Tryz.prog 26 #[] w fun e w'=>∃ v,e=.returned v∧RdLists none w' v [[],[0]]∧Below w.heap.size w w':=by
 have hal:=((Below.refl w.heap.size w).alloc (Nat.le_refl _) (.cells #[.int .u64 0] 58)).alloc (by simp) (.cells #[.slice none 0 0,.slice (some ⟨w.heap.size,0,none⟩) 1 1] 61)
 have hx:=heap2_of (w:=w) (A:=.cells #[.int .u64 0] 58 (0,0)) (B:=.cells #[.slice none 0 0,.slice (some ⟨w.heap.size,0,none⟩) 1 1] 61 (0,0)) (Below.refl _ _)
 have HV:=hid (nilOne ⟨by decide,by decide⟩ hx.1 hx.2.1)
 have HB:=hid hal
 clear hal hx
 go_enter Tryz.func26,Tryz.ntmps26
 go_wp2_with fail
 go_ret
 exact⟨_,rfl,HV.out,HB.out⟩
theorem imm_any (x:Int) (w:World):Calls Tryz.prog 44 #[.int .u64 x] w fun e w'=>e=.returned (.agg #[.int .i64 (-1),.int .u64 x])∧Below w.heap.size w w':=by
 have HB:=hid ((Below.refl w.heap.size w).alloc (Nat.le_refl _) (.cells #[.int .i64 0,.int .u64 0] 88))
 have HN:=hid (heap_alloc_new w (.cells #[.int .i64 0,.int .u64 0] 88))
 go_enter Tryz.func44,Tryz.ntmps44
 go_wp2_with fail
 exact bodyPost_ret (v:=.agg #[.int .i64 (-1),.int .u64 x]) (results_cell_row (P:=Tryz.prog) (fn:=Tryz.f44) rfl _ _ w.heap.size 88 _ (0,0) _ rfl (heap_alloc_new _ _) Tryz.underlying88 rfl (by kernel_rfl)) rfl ⟨rfl,(Below.refl _ _).alloc (Nat.le_refl _) _⟩
theorem heap4_of (w:World) (A B C D:Obj):((((w.alloc A).alloc B).alloc C).alloc D).heap[w.heap.size]?=some A∧((((w.alloc A).alloc B).alloc C).alloc D).heap[w.heap.size+1]?=some B∧((((w.alloc A).alloc B).alloc C).alloc D).heap[w.heap.size+1+1]?=some C∧((((w.alloc A).alloc B).alloc C).alloc D).heap[w.heap.size+1+1+1]?=some D∧Below w.heap.size w ((((w.alloc A).alloc B).alloc C).alloc D):=by
 have h1:=heap2_of (w:=w) (A:=A) (B:=B) (((Below.refl ((w.alloc A).alloc B).heap.size ((w.alloc A).alloc B)).alloc (Nat.le_refl _) C).alloc (by simp) D)
 have h2:=heap2_of (w:=(w.alloc A).alloc B) (A:=C) (B:=D) (Below.refl _ _)
 have hs:((w.alloc A).alloc B).heap.size=w.heap.size+1+1:=by simp
 rw[hs] at h2
 exact⟨h1.1,h1.2.1,h2.1,h2.2.1,h1.2.2⟩
abbrev lowS:ByteArray:=⟨#[108,111,119]⟩
abbrev highS:ByteArray:=⟨#[104,105,103,104]⟩
abbrev pubS:ByteArray:=⟨#[112,117,98]⟩
abbrev secS:ByteArray:=⟨#[115,101,99]⟩
def p1D:PolD:=⟨[lowS,highS],[(0,1)],[⟨pubS,0⟩,⟨secS,1⟩],[],true,20,16,0,0⟩
abbrev p1V (a b c:Nat):Array Value:=#[.slice (some ⟨a,0,none⟩) 2 2,.slice (some ⟨b,0,none⟩) 1 1,.slice (some ⟨c,0,none⟩) 2 2,.slice none 0 0,.bool true,.int .i64 20,.int .i64 16,.int .i64 0,.int .i64 0]
theorem p1_rd {w:World} {a b c:Nat} (ha:w.heap[a]?=some (.cells #[.string lowS,.string highS] 9 (0,0))) (hb:w.heap[b]?=some (.cells #[.int .i64 0,.int .i64 1] 92 (0,0))) (hc:w.heap[c]?=some (.cells #[.string pubS,.int .i64 0,.string secS,.int .i64 1] 94 (0,0))):PolC w p1D (p1V a b c):=by
 refine⟨_,_,_,_,rfl,row_rdw kStr (l:=[lowS,highS]) ha rfl (by show 2*16≤_;omega) ?_,row_rdw kPair (l:=[(0,1)]) hb rfl (by show 1*16≤_;omega) ?_,row_rdw kBind (l:=[⟨pubS,0⟩,⟨secS,1⟩]) hc rfl (by show 2*24≤_;omega) ?_,nilRow _ _ _,⟨by decide,by decide⟩,⟨by decide,by decide⟩,⟨by decide,by decide⟩,⟨by decide,by decide⟩⟩
 ·intro s hs;simp only[List.mem_cons,List.not_mem_nil,or_false] at hs;rcases hs with rfl|rfl <;> decide
 ·intro s hs;simp only[List.mem_cons,List.not_mem_nil,or_false] at hs;subst hs;exact⟨⟨by decide,by decide⟩,⟨by decide,by decide⟩⟩
 ·intro s hs;simp only[List.mem_cons,List.not_mem_nil,or_false] at hs;rcases hs with rfl|rfl <;> exact⟨by decide,⟨by decide,by decide⟩⟩
theorem p1_any (w:World):Calls Tryz.prog 24 #[] w fun e w'=>∃ c,e=.returned (.agg c)∧PolC w' p1D c∧Below w.heap.size w w':=by
 go_enter Tryz.func24,Tryz.ntmps24
 go_wp2_with fail
 obtain⟨x1,x2,x3,x4,x5⟩:=heap4_of w (.cells #[.slice (some ⟨w.heap.size+1,0,none⟩) 2 2,.slice (some ⟨w.heap.size+1+1,0,none⟩) 1 1,.slice (some ⟨w.heap.size+1+1+1,0,none⟩) 2 2,.slice none 0 0,.bool true,.int .i64 20,.int .i64 16,.int .i64 0,.int .i64 0] 30 (0,0)) (.cells #[.string lowS,.string highS] 9 (0,0)) (.cells #[.int .i64 0,.int .i64 1] 92 (0,0)) (.cells #[.string pubS,.int .i64 0,.string secS,.int .i64 1] 94 (0,0))
 exact bodyPost_ret (v:=.agg #[.slice (some ⟨w.heap.size+1,0,none⟩) 2 2,.slice (some ⟨w.heap.size+1+1,0,none⟩) 1 1,.slice (some ⟨w.heap.size+1+1+1,0,none⟩) 2 2,.slice none 0 0,.bool true,.int .i64 20,.int .i64 16,.int .i64 0,.int .i64 0]) (results_cell_row (P:=Tryz.prog) (fn:=Tryz.f24) rfl _ _ w.heap.size 30 _ (0,0) _ rfl x1 Tryz.underlying30 rfl (by kernel_rfl)) rfl ⟨_,rfl,p1_rd x2 x3 x4,x5⟩
def e1D (s:Int):FlatD:=⟨2,2,[pubS,secS],[],[],[⟨4,0,0,1,⟨0,0⟩,⟨0,0⟩⟩,⟨1,15,1,0,⟨0,0⟩,⟨-1,3⟩⟩,⟨8,0,0,5,⟨1,0⟩,⟨0,0⟩⟩,⟨5,0,0,0,⟨-1,1⟩,⟨0,0⟩⟩,⟨9,0,0,0,⟨0,0⟩,⟨0,0⟩⟩,⟨5,0,0,0,⟨-1,s⟩,⟨0,0⟩⟩,⟨9,0,0,0,⟨0,0⟩,⟨0,0⟩⟩]⟩
theorem e1_rd {w:World} {c k:Nat} {s:Int} (hs:InU64 s) (hc:w.heap[c]?=some (.cells #[.string pubS,.string secS] 9 (0,0))) (hk:w.heap[k]?=some (.cells #[.int .u8 4,.int .u8 0,.int .i64 0,.int .i64 1,.int .i64 0,.int .u64 0,.int .i64 0,.int .u64 0,.int .u8 1,.int .u8 15,.int .i64 1,.int .i64 0,.int .i64 0,.int .u64 0,.int .i64 (-1),.int .u64 3,.int .u8 8,.int .u8 0,.int .i64 0,.int .i64 5,.int .i64 1,.int .u64 0,.int .i64 0,.int .u64 0,.int .u8 5,.int .u8 0,.int .i64 0,.int .i64 0,.int .i64 (-1),.int .u64 1,.int .i64 0,.int .u64 0,.int .u8 9,.int .u8 0,.int .i64 0,.int .i64 0,.int .i64 0,.int .u64 0,.int .i64 0,.int .u64 0,.int .u8 5,.int .u8 0,.int .i64 0,.int .i64 0,.int .i64 (-1),.int .u64 s,.int .i64 0,.int .u64 0,.int .u8 9,.int .u8 0,.int .i64 0,.int .i64 0,.int .i64 0,.int .u64 0,.int .i64 0,.int .u64 0] 91 (0,0))):FlatC w (e1D s) #[.int .i64 2,.int .i64 2,.slice (some ⟨c,0,none⟩) 2 2,.slice none 0 0,.slice none 0 0,.slice (some ⟨k,0,none⟩) 7 7]:=by
 refine⟨_,_,_,_,rfl,row_rdw kStr (l:=[pubS,secS]) hc rfl (by show 2*16≤_;omega) ?_,nilRow _ _ _,nilRow _ _ _,row_rdw kCode (l:=(e1D s).code) hk rfl (by show 7*56≤_;omega) ?_,(show InI64 2 from ⟨by decide,by decide⟩),(show InI64 2 from ⟨by decide,by decide⟩)⟩
 ·intro s hs;simp only[List.mem_cons,List.not_mem_nil,or_false] at hs;rcases hs with rfl|rfl <;> decide
 ·intro x hx
  simp only[e1D,List.mem_cons,List.not_mem_nil,or_false] at hx
  rcases hx with rfl|rfl|rfl|rfl|rfl|rfl|rfl
  case inr.inr.inr.inr.inr.inl=>exact⟨show InU8 5 from ⟨by decide,by decide⟩,show InU8 0 from ⟨by decide,by decide⟩,show InI64 0 from ⟨by decide,by decide⟩,show InI64 0 from ⟨by decide,by decide⟩,show InI64 (-1) from ⟨by decide,by decide⟩,hs,show InI64 0 from ⟨by decide,by decide⟩,show InU64 0 from ⟨by decide,by decide⟩⟩
  all_goals exact⟨⟨by decide,by decide⟩,⟨by decide,by decide⟩,⟨by decide,by decide⟩,⟨by decide,by decide⟩,⟨by decide,by decide⟩,⟨by decide,by decide⟩,⟨by decide,by decide⟩,⟨by decide,by decide⟩⟩
theorem e1_any (s:Int) (hs:InU64 s) (w:World):Calls Tryz.prog 23 #[.int .u64 s] w fun e w'=>∃ c,e=.returned (.agg c)∧FlatC w' (e1D s) c∧Below w.heap.size w w':=by
 have HB0:=hid ((Below.refl w.heap.size w).alloc (Nat.le_refl _) (.cells #[.int .i64 0,.int .i64 0,.slice none 0 0,.slice none 0 0,.slice none 0 0,.slice none 0 0] 26))
 have HG0:=hid (heap_alloc_new w (.cells #[.int .i64 0,.int .i64 0,.slice none 0 0,.slice none 0 0,.slice none 0 0,.slice none 0 0] 26))
 have HS:=hid hs
 clear hs
 go_enter Tryz.func23,Tryz.ntmps23
 go_upto_region 1 with fail
 generalize w.alloc (.cells #[.int .i64 0,.int .i64 0,.slice none 0 0,.slice none 0 0,.slice none 0 0,.slice none 0 0] 26)=W0 at *
 have hs0:w.heap.size<W0.heap.size:=(gsAgY HG0.out)
 have HBS:=hid ((Below.refl W0.heap.size W0).alloc (Nat.le_refl _) (.cells #[.string pubS,.string secS] 9))
 have HGS:=hid (heap_alloc_new W0 (.cells #[.string pubS,.string secS] 9))
 go_wp2_with (first|(go_at_call 44;first|(refine (imm_any 3 _).mono ?_;rintro e z1 ⟨rfl,hz1⟩)|(refine (imm_any 1 _).mono ?_;rintro e z2 ⟨rfl,hz2⟩)|(refine (imm_any s _).mono ?_;rintro e z3 ⟨rfl,hz3⟩;have hsn:=(gsAgY HGS.out);have B1:=hid (bcomp hz1 (hz2.trans (hz3.mono hz2.size)));have B3:=hid (bcomp HBS.out (bcomp B1.out ((Below.refl z3.heap.size z3).alloc (Nat.le_refl _) (.cells #[.int .u8 4,.int .u8 0,.int .i64 0,.int .i64 1,.int .i64 0,.int .u64 0,.int .i64 0,.int .u64 0,.int .u8 1,.int .u8 15,.int .i64 1,.int .i64 0,.int .i64 0,.int .u64 0,.int .i64 (-1),.int .u64 3,.int .u8 8,.int .u8 0,.int .i64 0,.int .i64 5,.int .i64 1,.int .u64 0,.int .i64 0,.int .u64 0,.int .u8 5,.int .u8 0,.int .i64 0,.int .i64 0,.int .i64 (-1),.int .u64 1,.int .i64 0,.int .u64 0,.int .u8 9,.int .u8 0,.int .i64 0,.int .i64 0,.int .i64 0,.int .u64 0,.int .i64 0,.int .u64 0,.int .u8 5,.int .u8 0,.int .i64 0,.int .i64 0,.int .i64 (-1),.int .u64 s,.int .i64 0,.int .u64 0,.int .u8 9,.int .u8 0,.int .i64 0,.int .i64 0,.int .i64 0,.int .u64 0,.int .i64 0,.int .u64 0] 91))));have HZK:=hid (heap_alloc_new z3 (.cells #[.int .u8 4,.int .u8 0,.int .i64 0,.int .i64 1,.int .i64 0,.int .u64 0,.int .i64 0,.int .u64 0,.int .u8 1,.int .u8 15,.int .i64 1,.int .i64 0,.int .i64 0,.int .u64 0,.int .i64 (-1),.int .u64 3,.int .u8 8,.int .u8 0,.int .i64 0,.int .i64 5,.int .i64 1,.int .u64 0,.int .i64 0,.int .u64 0,.int .u8 5,.int .u8 0,.int .i64 0,.int .i64 0,.int .i64 (-1),.int .u64 1,.int .i64 0,.int .u64 0,.int .u8 9,.int .u8 0,.int .i64 0,.int .i64 0,.int .i64 0,.int .u64 0,.int .i64 0,.int .u64 0,.int .u8 5,.int .u8 0,.int .i64 0,.int .i64 0,.int .i64 (-1),.int .u64 s,.int .i64 0,.int .u64 0,.int .u8 9,.int .u8 0,.int .i64 0,.int .i64 0,.int .i64 0,.int .u64 0,.int .i64 0,.int .u64 0] 91));have HZF:=hid ((B3.out.block _ hs0).trans HG0.out);clear hz1 hz2 hz3))|(refine wpList_store_row rfl 26 (.tmp 2) (.tmp 22) rfl w.heap.size #[.int .i64 2,.int .i64 2,.slice (some ⟨W0.heap.size,0,none⟩) 2 2,.slice none 0 0,.slice none 0 0,.slice (some ⟨z3.heap.size,0,none⟩) 7 7] rfl rfl 26 #[.int .i64 0,.int .i64 0,.slice none 0 0,.slice none 0 0,.slice none 0 0,.slice none 0 0] ?h77 (by as_aux_lemma=>kernel_rfl) (by as_aux_lemma=>kernel_rfl) (by as_aux_lemma=>kernel_rfl) ?_;exact HZF.out))
 try simp only[Act.put]
 have hk2:((z3.alloc (.cells #[.int .u8 4,.int .u8 0,.int .i64 0,.int .i64 1,.int .i64 0,.int .u64 0,.int .i64 0,.int .u64 0,.int .u8 1,.int .u8 15,.int .i64 1,.int .i64 0,.int .i64 0,.int .u64 0,.int .i64 (-1),.int .u64 3,.int .u8 8,.int .u8 0,.int .i64 0,.int .i64 5,.int .i64 1,.int .u64 0,.int .i64 0,.int .u64 0,.int .u8 5,.int .u8 0,.int .i64 0,.int .i64 0,.int .i64 (-1),.int .u64 1,.int .i64 0,.int .u64 0,.int .u8 9,.int .u8 0,.int .i64 0,.int .i64 0,.int .i64 0,.int .u64 0,.int .i64 0,.int .u64 0,.int .u8 5,.int .u8 0,.int .i64 0,.int .i64 0,.int .i64 (-1),.int .u64 s,.int .i64 0,.int .u64 0,.int .u8 9,.int .u8 0,.int .i64 0,.int .i64 0,.int .i64 0,.int .u64 0,.int .i64 0,.int .u64 0] 91)).setRow w.heap.size #[.int .i64 2,.int .i64 2,.slice (some ⟨W0.heap.size,0,none⟩) 2 2,.slice none 0 0,.slice none 0 0,.slice (some ⟨z3.heap.size,0,none⟩) 7 7]).heap[z3.heap.size]?=some (.cells #[.int .u8 4,.int .u8 0,.int .i64 0,.int .i64 1,.int .i64 0,.int .u64 0,.int .i64 0,.int .u64 0,.int .u8 1,.int .u8 15,.int .i64 1,.int .i64 0,.int .i64 0,.int .u64 0,.int .i64 (-1),.int .u64 3,.int .u8 8,.int .u8 0,.int .i64 0,.int .i64 5,.int .i64 1,.int .u64 0,.int .i64 0,.int .u64 0,.int .u8 5,.int .u8 0,.int .i64 0,.int .i64 0,.int .i64 (-1),.int .u64 1,.int .i64 0,.int .u64 0,.int .u8 9,.int .u8 0,.int .i64 0,.int .i64 0,.int .i64 0,.int .u64 0,.int .i64 0,.int .u64 0,.int .u8 5,.int .u8 0,.int .i64 0,.int .i64 0,.int .i64 (-1),.int .u64 s,.int .i64 0,.int .u64 0,.int .u8 9,.int .u8 0,.int .i64 0,.int .i64 0,.int .i64 0,.int .u64 0,.int .i64 0,.int .u64 0] 91 (0,0)):=by
  have hq:W0.heap.size+1≤z3.heap.size:=by simpa using B1.out.size
  exact (setRow_other _ _ _ _ (by omega)).trans HZK.out
 have hc2:((z3.alloc (.cells #[.int .u8 4,.int .u8 0,.int .i64 0,.int .i64 1,.int .i64 0,.int .u64 0,.int .i64 0,.int .u64 0,.int .u8 1,.int .u8 15,.int .i64 1,.int .i64 0,.int .i64 0,.int .u64 0,.int .i64 (-1),.int .u64 3,.int .u8 8,.int .u8 0,.int .i64 0,.int .i64 5,.int .i64 1,.int .u64 0,.int .i64 0,.int .u64 0,.int .u8 5,.int .u8 0,.int .i64 0,.int .i64 0,.int .i64 (-1),.int .u64 1,.int .i64 0,.int .u64 0,.int .u8 9,.int .u8 0,.int .i64 0,.int .i64 0,.int .i64 0,.int .u64 0,.int .i64 0,.int .u64 0,.int .u8 5,.int .u8 0,.int .i64 0,.int .i64 0,.int .i64 (-1),.int .u64 s,.int .i64 0,.int .u64 0,.int .u8 9,.int .u8 0,.int .i64 0,.int .i64 0,.int .i64 0,.int .u64 0,.int .i64 0,.int .u64 0] 91)).setRow w.heap.size #[.int .i64 2,.int .i64 2,.slice (some ⟨W0.heap.size,0,none⟩) 2 2,.slice none 0 0,.slice none 0 0,.slice (some ⟨z3.heap.size,0,none⟩) 7 7]).heap[W0.heap.size]?=some (.cells #[.string pubS,.string secS] 9 (0,0)):=by
  exact (setRow_other _ _ _ _ (by omega)).trans (((bcomp B1.out ((Below.refl z3.heap.size z3).alloc (Nat.le_refl _) (.cells #[.int .u8 4,.int .u8 0,.int .i64 0,.int .i64 1,.int .i64 0,.int .u64 0,.int .i64 0,.int .u64 0,.int .u8 1,.int .u8 15,.int .i64 1,.int .i64 0,.int .i64 0,.int .u64 0,.int .i64 (-1),.int .u64 3,.int .u8 8,.int .u8 0,.int .i64 0,.int .i64 5,.int .i64 1,.int .u64 0,.int .i64 0,.int .u64 0,.int .u8 5,.int .u8 0,.int .i64 0,.int .i64 0,.int .i64 (-1),.int .u64 1,.int .i64 0,.int .u64 0,.int .u8 9,.int .u8 0,.int .i64 0,.int .i64 0,.int .i64 0,.int .u64 0,.int .i64 0,.int .u64 0,.int .u8 5,.int .u8 0,.int .i64 0,.int .i64 0,.int .i64 (-1),.int .u64 s,.int .i64 0,.int .u64 0,.int .u8 9,.int .u8 0,.int .i64 0,.int .i64 0,.int .i64 0,.int .u64 0,.int .i64 0,.int .u64 0] 91))).block _ hsn).trans HGS.out)
 exact bodyPost_ret (v:=.agg #[.int .i64 2,.int .i64 2,.slice (some ⟨W0.heap.size,0,none⟩) 2 2,.slice none 0 0,.slice none 0 0,.slice (some ⟨z3.heap.size,0,none⟩) 7 7]) (results_cell_row (P:=Tryz.prog) (fn:=Tryz.f23) rfl _ _ w.heap.size 26 _ (0,0) _ rfl (setRow_heap _ _ _ _ _ _ HZF.out) Tryz.underlying26 rfl (by kernel_rfl)) rfl ⟨_,rfl,e1_rd HS.out hc2 hk2,below_row (bcomp HB0.out B3.out) (Nat.le_refl _) _⟩
theorem wake1:leaksB (e1D 1) p1D 0 [[],[3]] [[],[0]]=false:=by kernel_rfl
theorem wake2:leaksErr (e1D 1) p1D 0 [[],[3]] [[],[0]]=0:=by kernel_rfl
theorem wake3:leaksB (e1D 0) p1D 0 [[],[3]] [[],[0]]=true:=by kernel_rfl
theorem wake4:leaksErr (e1D 0) p1D 0 [[],[3]] [[],[0]]=0:=by kernel_rfl
theorem wake5:leaksB (e1D 0) p1D 1 [[],[3]] [[],[0]]=false:=by kernel_rfl
theorem wake6:leaksErr (e1D 0) p1D 1 [[],[3]] [[],[0]]=0:=by kernel_rfl
theorem wake_one (s lv:Int) (cF cP:Array Value) (va vb:Value) (w:World) (hF:FlatC w (e1D s) cF) (hP:PolC w p1D cP) (hA:RdLists none w va [[],[3]]) (hB:RdLists none w vb [[],[0]]) (hL:Laid w) (hT:BitsAt w) {V:Bool} (hV:leaksB (e1D s) p1D lv [[],[3]] [[],[0]]=V) (hE:leaksErr (e1D s) p1D lv [[],[3]] [[],[0]]=0) (hlv:InI64 lv) :
  Calls Tryz.prog 9 #[.agg cF,.agg cP,.int .i64 lv,va,vb] w fun e w'=>e=.returned (.tuple #[.bool V,.int .i64 0])∧Below w.heap.size w w':=by
 have h:=leaks_any (e1D s) p1D cF cP lv va vb [[],[3]] [[],[0]] w hF hP hL hT hlv hA hB (fun l hl=>by simp only[List.mem_cons,List.not_mem_nil,or_false] at hl;rcases hl with rfl|rfl <;> decide) (fun l hl=>by simp only[List.mem_cons,List.not_mem_nil,or_false] at hl;rcases hl with rfl|rfl <;> decide)
 rw[hV,hE] at h
 exact h
theorem awake_any (w:World) (hL:Laid w) (hT:BitsAt w):Calls Tryz.prog 7 #[] w fun e w'=>e=.returned (.bool true)∧Below w.heap.size w w':=by
 have HL:=hid hL
 have HT:=hid hT
 have HB:=hid (Below.refl w.heap.size w)
 clear hL hT
 go_enter Tryz.func7,Tryz.ntmps7
 go_upto_region 1 with fail
 go_upto_region 2 with (first|(go_at_call 23;refine (e1_any 1 ⟨by decide,by decide⟩ _).mono ?_;rintro e a1 ⟨cF,rfl,hf,hz⟩;have HF:=hid hf;have B1:=hid hz;clear hf hz)|(go_at_call 24;refine (p1_any _).mono ?_;rintro e a2 ⟨cP,rfl,hf,hz⟩;have HP:=hid hf;have B2:=hid hz;clear hf hz)|(go_at_call 25;refine (a_any _).mono ?_;rintro e a3 ⟨va,rfl,hf,hz⟩;have HA:=hid hf;have B3:=hid hz;clear hf hz)|(go_at_call 26;refine (b_any _).mono ?_;rintro e a4 ⟨vb,rfl,hf,hz⟩;have HBB:=hid hf;have B4:=hid hz;clear hf hz;have HLK:=hid (wake_one 1 0 cF cP va vb a4 (HF.out.keep (bcomp B2.out (bcomp B3.out B4.out))) (HP.out.keep (bcomp B3.out B4.out)) (HA.out.keep B4.out) HBB.out (HL.out.keep (bcomp HB.out (bcomp B1.out (bcomp B2.out (bcomp B3.out B4.out))))) (HT.out.keep (bcomp HB.out (bcomp B1.out (bcomp B2.out (bcomp B3.out B4.out))))) wake1 wake2 ⟨by decide,by decide⟩))|(go_at_call 9;refine HLK.out.mono ?_;rintro e a5 ⟨rfl,hz⟩;have HB':=hid (bcomp HB.out (bcomp B1.out (bcomp B2.out (bcomp B3.out (bcomp B4.out hz)))));clear hz HB))
 have HB:=HB'
 clear HB' HF HP HA HBB HLK B1 B2 B3 B4
 go_upto_region 3 with (first|(go_at_call 23;refine (e1_any 0 ⟨by decide,by decide⟩ _).mono ?_;rintro e a1 ⟨cF,rfl,hf,hz⟩;have HF:=hid hf;have B1:=hid hz;clear hf hz)|(go_at_call 24;refine (p1_any _).mono ?_;rintro e a2 ⟨cP,rfl,hf,hz⟩;have HP:=hid hf;have B2:=hid hz;clear hf hz)|(go_at_call 25;refine (a_any _).mono ?_;rintro e a3 ⟨va,rfl,hf,hz⟩;have HA:=hid hf;have B3:=hid hz;clear hf hz)|(go_at_call 26;refine (b_any _).mono ?_;rintro e a4 ⟨vb,rfl,hf,hz⟩;have HBB:=hid hf;have B4:=hid hz;clear hf hz;have HLK:=hid (wake_one 0 0 cF cP va vb a4 (HF.out.keep (bcomp B2.out (bcomp B3.out B4.out))) (HP.out.keep (bcomp B3.out B4.out)) (HA.out.keep B4.out) HBB.out (HL.out.keep (bcomp HB.out (bcomp B1.out (bcomp B2.out (bcomp B3.out B4.out))))) (HT.out.keep (bcomp HB.out (bcomp B1.out (bcomp B2.out (bcomp B3.out B4.out))))) wake3 wake4 ⟨by decide,by decide⟩))|(go_at_call 9;refine HLK.out.mono ?_;rintro e a5 ⟨rfl,hz⟩;have HB':=hid (bcomp HB.out (bcomp B1.out (bcomp B2.out (bcomp B3.out (bcomp B4.out hz)))));clear hz HB))
 have HB:=HB'
 clear HB' HF HP HA HBB HLK B1 B2 B3 B4
 go_upto_region 4 with (first|(go_at_call 23;refine (e1_any 0 ⟨by decide,by decide⟩ _).mono ?_;rintro e a1 ⟨cF,rfl,hf,hz⟩;have HF:=hid hf;have B1:=hid hz;clear hf hz)|(go_at_call 24;refine (p1_any _).mono ?_;rintro e a2 ⟨cP,rfl,hf,hz⟩;have HP:=hid hf;have B2:=hid hz;clear hf hz)|(go_at_call 25;refine (a_any _).mono ?_;rintro e a3 ⟨va,rfl,hf,hz⟩;have HA:=hid hf;have B3:=hid hz;clear hf hz)|(go_at_call 26;refine (b_any _).mono ?_;rintro e a4 ⟨vb,rfl,hf,hz⟩;have HBB:=hid hf;have B4:=hid hz;clear hf hz;have HLK:=hid (wake_one 0 1 cF cP va vb a4 (HF.out.keep (bcomp B2.out (bcomp B3.out B4.out))) (HP.out.keep (bcomp B3.out B4.out)) (HA.out.keep B4.out) HBB.out (HL.out.keep (bcomp HB.out (bcomp B1.out (bcomp B2.out (bcomp B3.out B4.out))))) (HT.out.keep (bcomp HB.out (bcomp B1.out (bcomp B2.out (bcomp B3.out B4.out))))) wake5 wake6 ⟨by decide,by decide⟩))|(go_at_call 9;refine HLK.out.mono ?_;rintro e a5 ⟨rfl,hz⟩;have HB':=hid (bcomp HB.out (bcomp B1.out (bcomp B2.out (bcomp B3.out (bcomp B4.out hz)))));clear hz HB))
 have HB:=HB'
 clear HB' HF HP HA HBB HLK B1 B2 B3 B4
 go_wp2_with fail
 go_ret
 exact⟨rfl,HB.out⟩
end Go.Proofs.YtkjkpddajjmloaaGreatDoor
