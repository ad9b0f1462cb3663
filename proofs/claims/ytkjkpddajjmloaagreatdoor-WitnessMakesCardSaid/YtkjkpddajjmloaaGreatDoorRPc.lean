/- Contracts of the reference's Sides, Runs, Leaks. Condition: what comes in reads as the plain data. -/
import Derived.Test.YtkjkpddajjmloaaGreatDoorRPa
import Derived.Test.YtkjkpddajjmloaaGreatDoorRPb
import Derived.Test.YtkjkpddajjmloaaGreatDoorRNd
set_option linter.all false
set_option maxRecDepth 1000000
set_option maxHeartbeats 6400000
namespace Go.Proofs.YtkjkpddajjmloaaGreatDoor
open Go.ChangeShapes Go.WideShapes Go.ChangeAt Go.RowKit
open Go.Lib (hid)
theorem gsRPc {α:Type} {a:Array α} {i:Nat} {v:α} (h:a[i]?=some v):i<a.size:=(Array.getElem?_eq_some_iff.1 h).1
theorem results_tmp4 {fn:Func} {t u v x:Tmp} (h:fn.results=#[.tmp t,.tmp u,.tmp v,.tmp x]) (tmps:Array Value) (P:Program) (w:World) :
  (results fn tmps).run P w=.ok (.tuple #[tmps.getD t undef,tmps.getD u undef,tmps.getD v undef,tmps.getD x undef]) w:=by
 simp[results,h]
theorem refCheckC (f:FlatD) (cF:Array Value) (w:World) (hF:FlatC w f cF) :
  Calls Tryz.prog 54 #[.agg cF] w fun e w'=>e=.returned (.int .i64 (flatE f))∧Below w.heap.size w w':=by
 obtain⟨a,b,c,d,rfl,h⟩:=hF
 exact refCheck f a b c d w h
theorem refRulesC (f:FlatD) (q:PolD) (cF cP:Array Value) (w:World) (hF:FlatC w f cF) (hP:PolC w q cP) :
  Calls Tryz.prog 56 #[.agg cF,.agg cP] w fun e w'=>∃ v1 v2,e=.returned (.tuple #[v1,v2,.int .i64 (rulesErr f q)])∧LevSaid (rulesErr f q) f q w.heap.size w' v1 v2∧Below w.heap.size w w':=by
 obtain⟨a,b,c,d,rfl,h⟩:=hF
 obtain⟨e,g,i,j,rfl,k⟩:=hP
 exact refRules f a b c d q e g i j w h k
def SidesSaid (E:Int) (f:FlatD) (q:PolD) (w:World) (e:Ending) (w':World):Prop:=
 ∃ v v1 v2,e=.returned (.tuple #[v,v1,v2,.int .i64 E])∧(E=0→RefLat w' v (sideLat q)∧RdRow kInt none w' v1 (chansL f q)∧RdRow kInt none w' v2 (sitesL f q))∧Below w.heap.size w w'
theorem refSides (f:FlatD) (q:PolD) (cF cP:Array Value) (w:World) (hF:FlatC w f cF) (hP:PolC w q cP) :
  Calls Tryz.prog 31 #[.agg cF,.agg cP] w (SidesSaid (sideErr f q) f q w):=by
 generalize hE:sideErr f q=E
 have HE:=hid hE
 obtain⟨lv,ov,cv,sv,rfl,hP⟩:=hP
 have HF:=hid hF
 have HP:=hid hP
 have HFI:=hid hF.info
 have hq63:q.levels.length*16≤140737488351232:=hP.1.size
 obtain⟨lva,lvc,rfl⟩:=hP.1.is
 clear hE hF hP
 have hal:=((Below.refl w.heap.size w).alloc (Nat.le_refl _) (.cells cF 26)).alloc (by simp) (.cells #[.slice lva q.levels.length lvc,ov,cv,sv,.bool q.sens,.int .i64 q.steps,.int .i64 q.paths,.int .i64 q.nodes,.int .i64 q.confs] 30)
 have hx:=heap2_of (w:=w) (A:=.cells cF 26 (0,0)) (B:=.cells #[.slice lva q.levels.length lvc,ov,cv,sv,.bool q.sens,.int .i64 q.steps,.int .i64 q.paths,.int .i64 q.nodes,.int .i64 q.confs] 30 (0,0)) (Below.refl _ _)
 have HB0:=hid hal
 have HG0:=hid hx.1
 have HG1:=hid hx.2.1
 clear hal hx
 go_enter Tryz.func31,Tryz.ntmps31
 go_upto_region 1 with fail
 generalize (w.alloc (.cells cF 26)).alloc (.cells #[.slice lva q.levels.length lvc,ov,cv,sv,.bool q.sens,.int .i64 q.steps,.int .i64 q.paths,.int .i64 q.nodes,.int .i64 q.confs] 30)=W at *
 have hsz:w.heap.size+1<W.heap.size:=(gsRPc HG1.out)
 have HFW:=hid (HF.out.keep HB0.out)
 have HPW:=hid (HP.out.keep HB0.out)
 clear HF HP
 have p0:=row_of HG1.out 0 (.slice lva q.levels.length lvc) rfl
 have p1:=row_of HG1.out 1 ov rfl
 have p2:=row_of HG1.out 2 cv rfl
 have p3:=row_of HG1.out 3 sv rfl
 have p4:=row_of HG1.out 4 (.bool q.sens) rfl
 have p5:=row_of HG1.out 5 (.int .i64 q.steps) rfl
 have p6:=row_of HG1.out 6 (.int .i64 q.paths) rfl
 have p7:=row_of HG1.out 7 (.int .i64 q.nodes) rfl
 have p8:=row_of HG1.out 8 (.int .i64 q.confs) rfl
 have HC1:=hid (refCheckC f cF W HFW.out)
 obtain⟨eF,heF⟩:∃ e,flatE f=e:=⟨_,rfl⟩
 rw[heF] at HC1
 have HEF:=hid heF
 clear heF
 by_cases n1:eF=0
 case neg=>
  obtain rfl:E=2:=by rw[← HE.out,sideErr,HEF.out,if_pos (.inl n1)]
  have n1':(eF != 0)=true:=by simp[n1]
  go_wp2_with (first|(refine wpList_load_row rfl 26 (.tmp 2) rfl w.heap.size rfl 26 cF (0,0) _ ?l1 Tryz.underlying26 rfl ?i1 ?_;exact HG0.out;exact HFI.out)|(go_at_call 54;refine HC1.out.mono ?_;rintro e z1 ⟨rfl,hz⟩;have B1:=hid (bcomp HB0.out hz);clear hz))
  (try simp only[Exit.inBlock,Exit.then])
  refine bodyPost_ret (results_tmp4 rfl _ _ _) rfl ?_
  exact⟨_,_,_,rfl,fun h=>(by cases h),B1.out⟩
 subst n1
 have HC2:=hid (fun (z:World) (hz:Below W.heap.size W z)=>refPolCheck q _ _ _ _ z (HPW.out.keep hz))
 obtain⟨eP,heP⟩:∃ e,polErr q=e:=⟨_,rfl⟩
 rw[heP] at HC2
 have HEP:=hid heP
 clear heP
 by_cases n2:eP=0
 case neg=>
  obtain rfl:E=2:=by rw[← HE.out,sideErr,HEP.out,if_pos (.inr n2)]
  have n2':(eP != 0)=true:=by simp[n2]
  go_wp2_with (first|(refine wpList_load_row rfl 26 (.tmp 2) rfl w.heap.size rfl 26 cF (0,0) _ ?l2 Tryz.underlying26 rfl ?i2 ?_;exact HG0.out;exact HFI.out)|(go_at_call 54;refine HC1.out.mono ?_;rintro e z1 ⟨rfl,hz⟩;have B1:=hid hz;clear hz;have p0:=cell_keep B1.out p0;have p1:=cell_keep B1.out p1;have p2:=cell_keep B1.out p2;have p3:=cell_keep B1.out p3;have p4:=cell_keep B1.out p4;have p5:=cell_keep B1.out p5;have p6:=cell_keep B1.out p6;have p7:=cell_keep B1.out p7;have p8:=cell_keep B1.out p8)|(go_at_call 55;refine (HC2.out _ B1.out).mono ?_;rintro e z2 ⟨rfl,hz⟩;have B2:=hid (bcomp HB0.out (bcomp B1.out hz));clear hz))
  (try simp only[Exit.inBlock,Exit.then])
  refine bodyPost_ret (results_tmp4 rfl _ _ _) rfl ?_
  exact⟨_,_,_,rfl,fun h=>(by cases h),B2.out⟩
 subst n2
 have HE1:Hid (E=rulesErr f q):=by show E=_;rw[← HE.out,sideErr,if_neg (by rw[HEF.out,HEP.out];simp)]
 have HLT:Hid (latErr q.levels.length q.order=0):=pol_lat HEP.out
 go_upto_region 3 with (first|(refine wpList_load_row rfl 26 (.tmp 2) rfl w.heap.size rfl 26 cF (0,0) _ ?l3 Tryz.underlying26 rfl ?i3 ?_;exact HG0.out;exact HFI.out)|(go_at_call 54;refine HC1.out.mono ?_;rintro e z1 ⟨rfl,hz⟩;have B1:=hid hz;clear hz;have p0:=cell_keep B1.out p0;have p1:=cell_keep B1.out p1;have p2:=cell_keep B1.out p2;have p3:=cell_keep B1.out p3;have p4:=cell_keep B1.out p4;have p5:=cell_keep B1.out p5;have p6:=cell_keep B1.out p6;have p7:=cell_keep B1.out p7;have p8:=cell_keep B1.out p8)|(go_at_call 55;refine (HC2.out _ B1.out).mono ?_;rintro e z2 ⟨rfl,hz⟩;have B2:=hid (bcomp B1.out hz);clear hz))
 clear p0 p1 p2 p3 p4 p5 p6 p7 p8 HC1 HC2 HE HEF HEP
 have HBz:=hid (bcomp HB0.out B2.out)
 have HG2:Hid (z2.heap[w.heap.size]?=some (.cells cF 26 (0,0))):=(B2.out.block _ (by omega)).trans HG0.out
 have HG3:Hid (z2.heap[w.heap.size+1]?=some (.cells #[.slice lva q.levels.length lvc,ov,cv,sv,.bool q.sens,.int .i64 q.steps,.int .i64 q.paths,.int .i64 q.nodes,.int .i64 q.confs] 30 (0,0))):=(B2.out.block _ (by omega)).trans HG1.out
 have HF2:=hid (HFW.out.keep B2.out)
 have HP2:=hid (HPW.out.keep B2.out)
 have hsz2:w.heap.size+1<z2.heap.size:=(gsRPc HG3.out)
 clear HG0 HG1 HFW HPW HB0
 have HC3:=hid (refRulesC f q cF _ z2 HF2.out ⟨_,_,_,_,rfl,HP2.out⟩)
 rw[← HE1.out] at HC3
 clear HE1
 have p0:=row_of HG3.out 0 (.slice lva q.levels.length lvc) rfl
 have p1:=row_of HG3.out 1 ov rfl
 have p2:=row_of HG3.out 2 cv rfl
 have p3:=row_of HG3.out 3 sv rfl
 have p4:=row_of HG3.out 4 (.bool q.sens) rfl
 have p5:=row_of HG3.out 5 (.int .i64 q.steps) rfl
 have p6:=row_of HG3.out 6 (.int .i64 q.paths) rfl
 have p7:=row_of HG3.out 7 (.int .i64 q.nodes) rfl
 have p8:=row_of HG3.out 8 (.int .i64 q.confs) rfl
 go_upto_region 4 with (first|(refine wpList_load_row rfl 26 (.tmp 2) rfl w.heap.size rfl 26 cF (0,0) _ ?l4 Tryz.underlying26 rfl ?i4 ?_;exact HG2.out;exact HFI.out)|(go_at_call 56;refine HC3.out.mono ?_;rintro e z3 ⟨v1,v2,rfl,HV,hz⟩;have B3:=hid hz;clear hz))
 clear p0 p1 p2 p3 p4 p5 p6 p7 p8 HC3
 have HB3:=hid (bcomp HBz.out B3.out)
 by_cases n3:E=0
 case neg=>
  have n3':(E != 0)=true:=by simp[n3]
  go_wp2_with fail
  (try simp only[Exit.inBlock,Exit.then])
  refine bodyPost_ret (results_tmp4 rfl _ _ _) rfl ?_
  exact⟨_,_,_,rfl,fun h=>absurd h n3,HB3.out⟩
 subst n3
 have HVV:Hid (LevSaid 0 f q z2.heap.size z3 v1 v2):=HV
 have HG4:Hid (z3.heap[w.heap.size+1]?=some (.cells #[.slice lva q.levels.length lvc,ov,cv,sv,.bool q.sens,.int .i64 q.steps,.int .i64 q.paths,.int .i64 q.nodes,.int .i64 q.confs] 30 (0,0))):=(B3.out.block _ (by omega)).trans HG3.out
 have HP3:=hid (HP2.out.keep B3.out)
 clear HG2 HG3 HF2 HP2 HBz HV
 have p0:=row_of HG4.out 0 (.slice lva q.levels.length lvc) rfl
 have p1:=row_of HG4.out 1 ov rfl
 have HLN:=hid (refLatNew q.levels.length ov q.order z3 ⟨by omega,by omega⟩ HP3.out.2.1)
 rw[HLT.out] at HLN
 go_upto_region 7 with (go_at_call 57;refine HLN.out.mono ?_;rintro e z4 ⟨vl,rfl,HVL,-,hz⟩;have B4:=hid hz;clear hz)
 have HVL2:Hid (RefLat z4 vl (sideLat q)):=by first|exact HVL rfl|exact HVL trivial
 clear p0 p1 HLN HVL
 go_wp2_with fail
 (try simp only[Exit.inBlock,Exit.then])
 refine bodyPost_ret (results_tmp4 rfl _ _ _) rfl ?_
 exact⟨_,_,_,rfl,fun _=>⟨HVL2.out,((HVV.out.1 rfl).1.keep B4.out).forget,((HVV.out.1 rfl).2.keep B4.out).forget⟩,bcomp HB3.out B4.out⟩
theorem premC (L:LatD) (v lvs:Value) (level:Int) (levels:List Int) (sens:Bool) (x y:TraceD) (cX cY:Array Value) (w:World) (h:RefLat w v L) (hlv:InI64 level) (hr:RdRow kInt none w lvs levels) (hlen:levels.length≤1000000) (hx:TrcC w x cX) (hy:TrcC w y cY) :
  Calls Tryz.prog 63 #[v,.int .i64 level,lvs,.bool sens,.agg cX,.agg cY] w fun e w'=>∃ er,e=.returned (.tuple #[.bool (premB L level levels sens x y),.int .i64 er])∧Below w.heap.size w w':=by
 obtain⟨xo,xr,xb,xd,rfl,hx⟩:=hx
 obtain⟨yo,yr,yb,yd,rfl,hy⟩:=hy
 obtain⟨xa1,xa2,rfl⟩:=hx.1.is
 obtain⟨xa3,xa4,rfl⟩:=hx.2.1.is
 obtain⟨xa5,xa6,rfl⟩:=hx.2.2.1.is
 obtain⟨xa7,xa8,rfl⟩:=hx.2.2.2.1.is
 obtain⟨ya1,ya2,rfl⟩:=hy.1.is
 obtain⟨ya3,ya4,rfl⟩:=hy.2.1.is
 obtain⟨ya5,ya6,rfl⟩:=hy.2.2.1.is
 obtain⟨ya7,ya8,rfl⟩:=hy.2.2.2.1.is
 refine (refPremise L v lvs level levels sens x y _ _ _ _ _ _ _ _ _ _ _ _ _ _ _ _ w h hlv hr hlen hx hy).mono ?_
 rintro e w' ⟨rfl,hb⟩
 exact⟨_,rfl,hb⟩
theorem sameC (L:LatD) (v lvs:Value) (level:Int) (levels:List Int) (sens:Bool) (x y:TraceD) (cX cY:Array Value) (w:World) (h:RefLat w v L) (hlv:InI64 level) (hr:RdRow kInt none w lvs levels) (hlen:levels.length≤1000000) (hx:TrcC w x cX) (hy:TrcC w y cY) :
  Calls Tryz.prog 64 #[v,.int .i64 level,lvs,.bool sens,.agg cX,.agg cY] w fun e w'=>∃ er,e=.returned (.tuple #[.bool (sameB L level levels sens x y),.int .i64 er])∧Below w.heap.size w w':=by
 obtain⟨xo,xr,xb,xd,rfl,hx⟩:=hx
 obtain⟨yo,yr,yb,yd,rfl,hy⟩:=hy
 obtain⟨xa1,xa2,rfl⟩:=hx.1.is
 obtain⟨xa3,xa4,rfl⟩:=hx.2.1.is
 obtain⟨xa5,xa6,rfl⟩:=hx.2.2.1.is
 obtain⟨xa7,xa8,rfl⟩:=hx.2.2.2.1.is
 obtain⟨ya1,ya2,rfl⟩:=hy.1.is
 obtain⟨ya3,ya4,rfl⟩:=hy.2.1.is
 obtain⟨ya5,ya6,rfl⟩:=hy.2.2.1.is
 obtain⟨ya7,ya8,rfl⟩:=hy.2.2.2.1.is
 refine (refSame L v lvs level levels sens x y _ _ _ _ _ _ _ _ _ _ _ _ _ _ _ _ w h hlv hr hlen hx hy).mono ?_
 rintro e w' ⟨rfl,hb⟩
 exact⟨_,rfl,hb⟩
theorem refRuns (L:LatD) (v chv stv:Value) (level:Int) (chans sites:List Int) (sens:Bool) (x y:TraceD) (cX cY:Array Value) (w:World) (h:RefLat w v L) (hlv:InI64 level) (hc:RdRow kInt none w chv chans) (hs:RdRow kInt none w stv sites) (hcl:chans.length≤1000000) (hsl:sites.length≤1000000) (hx:TrcC w x cX) (hy:TrcC w y cY) :
  Calls Tryz.prog 35 #[v,.int .i64 level,chv,stv,.bool sens,.agg cX,.agg cY] w fun e w'=>e=.returned (.bool (premB L level sites sens x y&&!sameB L level chans sens x y))∧Below w.heap.size w w':=by
 have HP1:=hid (fun (z:World) (k:Below w.heap.size w z)=>premC L v stv level sites sens x y cX cY z (h.keep k) hlv (hs.keep k) hsl (hx.keep k) (hy.keep k))
 have HS1:=hid (fun (z:World) (k:Below w.heap.size w z)=>sameC L v chv level chans sens x y cX cY z (h.keep k) hlv (hc.keep k) hcl (hx.keep k) (hy.keep k))
 obtain⟨P,hP⟩:∃ P,premB L level sites sens x y=P:=⟨_,rfl⟩
 obtain⟨S,hS⟩:∃ S,sameB L level chans sens x y=S:=⟨_,rfl⟩
 rw[hP] at HP1
 rw[hS] at HS1
 rw[hP,hS]
 have HXI:=hid hx.info
 have HYI:=hid hy.info
 have hal:=((Below.refl w.heap.size w).alloc (Nat.le_refl _) (.cells cX 52)).alloc (by simp) (.cells cY 52)
 have hbb:=heap2_of (w:=w) (A:=.cells cX 52 (0,0)) (B:=.cells cY 52 (0,0)) (Below.refl _ _)
 have HB0:=hid hal
 have HGX:=hid hbb.1
 have HGY:=hid hbb.2.1
 clear hal hbb hP hS h hlv hc hs hcl hsl hx hy
 go_enter Tryz.func35,Tryz.ntmps35
 go_upto_region 1 with fail
 generalize (w.alloc (.cells cX 52)).alloc (.cells cY 52)=W at *
 have hsz:w.heap.size+1<W.heap.size:=(gsRPc HGY.out)
 go_upto_region 2 with (first|(refine wpList_load_row rfl 52 (.tmp 12) rfl w.heap.size rfl 52 cX (0,0) _ ?l5 Tryz.underlying52 rfl ?i5 ?_;exact HGX.out;exact HXI.out)|(refine wpList_load_row rfl 52 (.tmp 13) rfl (w.heap.size+1) rfl 52 cY (0,0) _ ?l6 Tryz.underlying52 rfl ?i6 ?_;exact HGY.out;exact HYI.out)|(go_at_call 63;refine (HP1.out _ HB0.out).mono ?_;rintro e z1 ⟨e1,rfl,hz⟩;have B1:=hid hz;clear hz))
 have HB1:=hid (bcomp HB0.out B1.out)
 have HG2X:Hid (z1.heap[w.heap.size]?=some (.cells cX 52 (0,0))):=(B1.out.block _ (by omega)).trans HGX.out
 have HG2Y:Hid (z1.heap[w.heap.size+1]?=some (.cells cY 52 (0,0))):=(B1.out.block _ (by omega)).trans HGY.out
 clear HGX HGY HP1
 go_upto_region 3 with (first|(refine wpList_load_row rfl 52 (.tmp 12) rfl w.heap.size rfl 52 cX (0,0) _ ?l7 Tryz.underlying52 rfl ?i7 ?_;exact HG2X.out;exact HXI.out)|(refine wpList_load_row rfl 52 (.tmp 13) rfl (w.heap.size+1) rfl 52 cY (0,0) _ ?l8 Tryz.underlying52 rfl ?i8 ?_;exact HG2Y.out;exact HYI.out)|(go_at_call 64;refine (HS1.out _ HB1.out).mono ?_;rintro e z2 ⟨e2,rfl,hz⟩;have B2:=hid (bcomp HB1.out hz);clear hz))
 cases P
 ·go_wp2_with fail
  go_ret
  exact⟨rfl,B2.out⟩
 ·go_wp2_with fail
  go_ret
  exact⟨rfl,B2.out⟩
theorem refRunC (f:FlatD) (cF:Array Value) (iv:Value) (L:List (List Int)) (steps:Int) (w:World) (hF:FlatC w f cF) (hI:RdLists none w iv L) (hst:InI64 steps) (hn:L.length≤1000000) (h0:errRun f L.length steps=0) :
  Calls Tryz.prog 34 #[.agg cF,.int .i64 steps,iv] w fun e w'=>∃ cT,e=.returned (.tuple #[.agg cT,.int .i64 0])∧TrcC w' (runT f L steps) cT∧Below w.heap.size w w':=by
 obtain⟨a,b,c,d,rfl,h⟩:=hF
 refine (refRun f a b c d iv L steps w h hI hst hn).mono ?_
 rintro e w' ⟨o1,o2,o3,o4,rfl,hr,hb⟩
 rw[h0]
 exact⟨_,rfl,⟨_,_,_,_,rfl,hr.forget⟩,hb⟩
theorem PolC.levels0 {w:World} {q:PolD} {c:Array Value} (h:PolC w q c):∃ a k,c[0]?=some (.slice a q.levels.length k)∧q.levels.length*16≤140737488351232:=by
 obtain⟨a,b,d,e,rfl,g⟩:=h
 obtain⟨x,y,rfl⟩:=g.1.is
 exact⟨x,y,rfl,g.1.size⟩
theorem PolC.sens0 {w:World} {q:PolD} {c:Array Value} (h:PolC w q c):c[4]?=some (.bool q.sens):=by obtain⟨a,b,d,e,rfl,_⟩:=h;rfl
theorem PolC.steps0 {w:World} {q:PolD} {c:Array Value} (h:PolC w q c):c[5]?=some (.int .i64 q.steps):=by obtain⟨a,b,d,e,rfl,_⟩:=h;rfl
theorem refLeaks (f:FlatD) (q:PolD) (cF cP:Array Value) (level:Int) (av bv:Value) (A B:List (List Int)) (w:World) (hF:FlatC w f cF) (hP:PolC w q cP) (hlv:InI64 level) (ha:RdLists none w av A) (hb:RdLists none w bv B) (hzA:∀ l∈A,l.length≤1000000) (hzB:∀ l∈B,l.length≤1000000) :
  Calls Tryz.prog 10 #[.agg cF,.agg cP,.int .i64 level,av,bv] w fun e w'=>e=.returned (.tuple #[.bool (leaksB f q level A B),.int .i64 (leaksErr f q level A B)])∧Below w.heap.size w w':=by
 obtain⟨aa,ac,rfl⟩:=ha.is
 obtain⟨ba,bc,rfl⟩:=hb.is
 obtain⟨V,hV⟩:∃ V,leaksB f q level A B=V:=⟨_,rfl⟩
 obtain⟨R,hR⟩:∃ R,leaksErr f q level A B=R:=⟨_,rfl⟩
 rw[hV,hR]
 have HV:=hid hV
 have HR:=hid hR
 obtain⟨fcv,fsv,fav,fkv,rfl,hF⟩:=hF
 obtain⟨pla,plc,hp0,hq63⟩:=hP.levels0
 have HP0:=hid hp0
 have HP4:=hid hP.sens0
 have HP5:=hid hP.steps0
 have HF:=hid hF
 have HP:=hid hP
 have HPI:=hid hP.info
 have HA:=hid ha
 have HB:=hid hb
 have HLV:=hid hlv
 have HZA:=hid hzA
 have HZB:=hid hzB
 have hal24:A.length*24≤140737488351232:=ha.size
 have hbl24:B.length*24≤140737488351232:=hb.size
 clear hV hR hF hP ha hb hlv hzA hzB hp0
 have hal:=((Below.refl w.heap.size w).alloc (Nat.le_refl _) (.cells #[.int .i64 f.width,.int .i64 f.regs,fcv,fsv,fav,fkv] 26)).alloc (by simp) (.cells cP 30)
 have hx:=heap2_of (w:=w) (A:=.cells #[.int .i64 f.width,.int .i64 f.regs,fcv,fsv,fav,fkv] 26 (0,0)) (B:=.cells cP 30 (0,0)) (Below.refl _ _)
 have HB0:=hid hal
 have HG0:=hid hx.1
 have HG1:=hid hx.2.1
 clear hal hx
 go_enter Tryz.func10,Tryz.ntmps10
 go_upto_region 1 with fail
 generalize (w.alloc (.cells #[.int .i64 f.width,.int .i64 f.regs,fcv,fsv,fav,fkv] 26)).alloc (.cells cP 30)=W at *
 have hsz:w.heap.size+1<W.heap.size:=(gsRPc HG1.out)
 have HFW:=hid (HF.out.keep HB0.out)
 have HPW:=hid (HP.out.keep HB0.out)
 clear HF HP
 have HS:=hid (refSides f q #[.int .i64 f.width,.int .i64 f.regs,fcv,fsv,fav,fkv] cP W ⟨_,_,_,_,rfl,HFW.out⟩ HPW.out)
 obtain⟨E,hE⟩:∃ E,sideErr f q=E:=⟨_,rfl⟩
 rw[hE] at HS
 have y0:=row_of HG0.out 0 (.int .i64 f.width) rfl
 have y1:=row_of HG0.out 1 (.int .i64 f.regs) rfl
 have y2:=row_of HG0.out 2 fcv rfl
 have y3:=row_of HG0.out 3 fsv rfl
 have y4:=row_of HG0.out 4 fav rfl
 have y5:=row_of HG0.out 5 fkv rfl
 go_upto_region 2 with (first|(refine wpList_load_row rfl 30 (.tmp 6) rfl (w.heap.size+1) rfl 30 cP (0,0) _ ?l9 Tryz.underlying30 rfl ?i9 ?_;exact HG1.out;exact HPI.out)|(go_at_call 31;refine HS.out.mono ?_;rintro e z1 ⟨v,v1,v2,rfl,HSV,hz⟩;have B1:=hid hz;clear hz))
 clear y0 y1 y2 y3 y4 y5 HS
 have HB1:=hid (bcomp HB0.out B1.out)
 by_cases n1:E=0
 case neg=>
  obtain rfl:R=E:=by rw[← HR.out,leaksErr,hE,if_pos n1]
  have HVV:Hid (V=false):=by show V=_;rw[← HV.out,leaksB,HR.out,if_pos n1]
  have n1':(R != 0)=true:=by simp[n1]
  clear hE
  go_wp2_with fail
  go_ret2
  exact⟨by rw[HVV.out];rfl,HB1.out⟩
 subst n1
 have hSP:=sideP hE
 have HR1:Hid (R=if rangeBad f q level A B then 3 else 0):=by show R=_;rw[← HR.out,leaksErr,if_neg (by rw[hE];simp)]
 have HSP:=hid hSP
 obtain⟨hl1,hc1,hs1⟩:=HSV rfl
 obtain⟨C,hC⟩:∃ C,chansL f q=C:=⟨_,rfl⟩
 obtain⟨S,hS⟩:∃ S,sitesL f q=S:=⟨_,rfl⟩
 rw[hC] at hc1
 rw[hS] at hs1
 obtain⟨ca,cc,rfl⟩:=hc1.is
 obtain⟨sa,sc,rfl⟩:=hs1.is
 have HCL:Hid (C.length=f.chans.length):=by show _=_;rw[← hC];exact hSP.cl
 have HSL:Hid (S.length=f.sites.length):=by show _=_;rw[← hS];exact hSP.sl
 have hch:=(headP hSP.ok).chans
 have hsi:=(headP hSP.ok).sites
 have hC6:C.length≤1000000:=by have:=HCL.out;omega
 have hS6:S.length≤1000000:=by have:=HSL.out;omega
 have HC:=hid hC
 have HSS:=hid hS
 have HL1:=hid hl1
 have HC1:=hid hc1
 have HS1:=hid hs1
 have HG2:Hid (z1.heap[w.heap.size]?=some (.cells #[.int .i64 f.width,.int .i64 f.regs,fcv,fsv,fav,fkv] 26 (0,0))):=(B1.out.block _ (by omega)).trans HG0.out
 have HG3:Hid (z1.heap[w.heap.size+1]?=some (.cells cP 30 (0,0))):=(B1.out.block _ (by omega)).trans HG1.out
 have HF1:=hid (HFW.out.keep B1.out)
 have hsz1:w.heap.size+1<z1.heap.size:=(gsRPc HG3.out)
 have p0:=row_of HG3.out 0 _ HP0.out
 clear HG0 HG1 HFW HPW HB0 hE hSP hl1 hc1 hs1 hC hS HSV hch hsi
 by_cases t0:level<0
 ·obtain rfl:R=3:=by rw[HR1.out,if_pos (.inl t0)]
  have HVV:Hid (V=false):=by show V=_;rw[← HV.out,leaksB,HR.out,if_pos (by decide)]
  go_wp2_with fail
  go_ret2
  exact⟨by rw[HVV.out];rfl,HB1.out⟩
 by_cases t1:(q.levels.length:Int)≤level
 ·obtain rfl:R=3:=by rw[HR1.out,if_pos (.inr (.inl t1))]
  have HVV:Hid (V=false):=by show V=_;rw[← HV.out,leaksB,HR.out,if_pos (by decide)]
  go_wp2_with fail
  go_ret2
  exact⟨by rw[HVV.out];rfl,HB1.out⟩
 by_cases t2:f.chans.length<A.length
 ·obtain rfl:R=3:=by rw[HR1.out,if_pos (.inr (.inr (.inl t2)))]
  have HVV:Hid (V=false):=by show V=_;rw[← HV.out,leaksB,HR.out,if_pos (by decide)]
  have t2':(C.length:Int)<(A.length:Int):=by have:=HCL.out;omega
  go_wp2_with fail
  go_ret2
  exact⟨by rw[HVV.out];rfl,HB1.out⟩
 by_cases t3:f.chans.length<B.length
 ·obtain rfl:R=3:=by rw[HR1.out,if_pos (.inr (.inr (.inr t3)))]
  have HVV:Hid (V=false):=by show V=_;rw[← HV.out,leaksB,HR.out,if_pos (by decide)]
  have t2':¬ (C.length:Int)<(A.length:Int):=by have:=HCL.out;omega
  have t3':(C.length:Int)<(B.length:Int):=by have:=HCL.out;omega
  go_wp2_with fail
  go_ret2
  exact⟨by rw[HVV.out];rfl,HB1.out⟩
 have t2':¬ (C.length:Int)<(A.length:Int):=by have:=HCL.out;omega
 have t3':¬ (C.length:Int)<(B.length:Int):=by have:=HCL.out;omega
 obtain rfl:R=0:=by rw[HR1.out,if_neg (by unfold rangeBad;omega)]
 have HV1:Hid (V=leaks1 f q level A B (runT f A q.steps) (runT f B q.steps)):=by show V=_;rw[← HV.out,leaksB,if_neg (by rw[HR.out];simp)]
 obtain⟨TA,hTA⟩:∃ T,trimL f A=T:=⟨_,rfl⟩
 obtain⟨TB,hTB⟩:∃ T,trimL f B=T:=⟨_,rfl⟩
 have hTAl:TA.length=A.length:=by rw[← hTA,trimL,List.length_map]
 have hTBl:TB.length=B.length:=by rw[← hTB,trimL,List.length_map]
 have hh:=headP HSP.out.ok
 have HTA:=hid (fun (w':World) (k:Below z1.heap.size z1 w')=>refTrimmed f #[.int .i64 f.width,.int .i64 f.regs,fcv,fsv,fav,fkv] _ A w' ⟨_,_,_,_,rfl,HF1.out.keep k⟩ hh.w1 hh.w2 (HA.out.keep (bcomp HB1.out k)) (by omega) HZA.out)
 have HTB:=hid (fun (w':World) (k:Below z1.heap.size z1 w')=>refTrimmed f #[.int .i64 f.width,.int .i64 f.regs,fcv,fsv,fav,fkv] _ B w' ⟨_,_,_,_,rfl,HF1.out.keep k⟩ hh.w1 hh.w2 (HB.out.keep (bcomp HB1.out k)) (by omega) HZB.out)
 rw[hTA] at HTA
 rw[hTB] at HTB
 have hie:inpErr (sideLat q) level C TA TB=0:=by
  have hkc:=known_side (q:=q) (lv:=level) (ls:=chansL f q) (by omega) (by omega) HSP.out.ci
  rw[HC.out] at hkc
  have:=HCL.out
  rw[inpErr,if_neg];rw[hkc];simp;omega
 have HIN:=hid (fun (w':World) (va vb:Value) (k:Below z1.heap.size z1 w') (r1:RdLists none w' va TA) (r2:RdLists none w' vb TB)=>refInputs (sideLat q) v _ va vb level C TA TB w' (HL1.out.keep k) HLV.out (HC1.out.keep k) hC6 r1 r2)
 obtain⟨I,hI⟩:∃ I,inpSame (sideLat q) level C TA TB=I:=⟨_,rfl⟩
 rw[hie,hI,show ((0:Int)==0&&I)=I from rfl] at HIN
 obtain⟨tx,htx⟩:∃ t,runT f A q.steps=t:=⟨_,rfl⟩
 obtain⟨ty,hty⟩:∃ t,runT f B q.steps=t:=⟨_,rfl⟩
 have HV2:Hid (V=(I&&premB (sideLat q) level S q.sens tx ty&&!sameB (sideLat q) level C q.sens tx ty)):=by show V=_;rw[HV1.out,leaks1,hTA,hTB,HC.out,HSS.out,hI,htx,hty]
 have HTX:=hid htx
 have HTY:=hid hty
 have hqs:InI64 q.steps:=⟨by have:=HSP.out.s1;omega,by have:=HSP.out.s2;omega⟩
 have HQS:=hid hqs
 have HAl:Hid (A.length≤f.chans.length):=by show _≤_;omega
 have HBl:Hid (B.length≤f.chans.length):=by show _≤_;omega
 clear HV HR HR1 HV1 hTA hTB hTAl hTBl hh hie hI htx hty hqs
 go_upto_region 6 with fail
 clear p0 t0 t1 t2 t3 t2' t3'
 go_cut [16,17] from 56 to 69 (fun c16 _ wx=>c16=.bool I∧Below z1.heap.size z1 wx)
 case first=>
  have l0:=ext_cell (row_of HG2.out 0 (.int .i64 f.width) rfl)
  have l1:=ext_cell (row_of HG2.out 1 (.int .i64 f.regs) rfl)
  have l2:=ext_cell (row_of HG2.out 2 fcv rfl)
  have l3:=ext_cell (row_of HG2.out 3 fsv rfl)
  have l4:=ext_cell (row_of HG2.out 4 fav rfl)
  have l5:=ext_cell (row_of HG2.out 5 fkv rfl)
  refine wp_region_mix (.one [0,1,2,3,4,6,7] 5 (.one [] 8 (.one [] 9 (.fin [10,11,12,13,14])))) (fun j=>decide (99≤j)) (by kernel_rfl) (by kernel_rfl) rfl (by kernel_rfl) (fun _ d _ _ _ h=>by cases d <;> exact h) ?_
  have HBd:Hid (Below z1.heap.size z1 z1.drew):=(Below.refl _ _).drew
  generalize z1.drew=w0 at *
  refine mix_one (by simp only[opsOf,List.filterMap_cons,List.filterMap_nil,List.getElem?_toArray,List.getElem?_cons_succ,List.getElem?_cons_zero];rfl) ⟨_,ext_of HBd.out⟩ ?_
  change wpQuiet _ _ _ _ [_,_,_,_,_,_,_] _
  (repeat (go_big_quiet_step (fail)))
  refine wpQuiet_nil ?_
  clear l0 l1 l2 l3 l4 l5
  ·refine mix_step rfl ?_
   go_wp2_with (go_at_call 33;refine (HTA.out _ HBd.out).mono ?_;rintro e z2 ⟨va,rfl,hr,hz⟩;have HRA:=hid hr;have B2:=hid (bcomp HBd.out hz);clear hr hz)
   refine⟨by first|exact⟨_,ext_of B2.out⟩|exact fun _=>⟨_,ext_of B2.out⟩,?_⟩
   refine mix_now ?_
   refine mix_step rfl ?_
   go_wp2_with (go_at_call 33;refine (HTB.out _ B2.out).mono ?_;rintro e z3 ⟨vb,rfl,hr,hz⟩;have HRB:=hid hr;have HRA2:=hid (HRA.out.keep hz);have B3:=hid (bcomp B2.out hz);clear hr hz)
   refine⟨by first|exact⟨_,ext_of B3.out⟩|exact fun _=>⟨_,ext_of B3.out⟩,?_⟩
   refine mix_now ?_
   refine mix_step rfl ?_
   go_wp2_with (go_at_call 32;refine (HIN.out _ _ _ B3.out HRA2.out HRB.out).mono ?_;rintro e z4 ⟨rfl,hz⟩;have B4:=hid (bcomp B3.out hz);clear hz)
   refine⟨by first|exact⟨_,ext_of B4.out⟩|exact fun _=>⟨_,ext_of B4.out⟩,?_⟩
   refine mix_fin (by simp only[opsOf,List.filterMap_cons,List.filterMap_nil,List.getElem?_toArray,List.getElem?_cons_succ,List.getElem?_cons_zero];rfl) ⟨_,ext_of B4.out⟩ ?_
   change wpQuiet _ _ _ _ [_,_,_,_,_] _
   (repeat (go_big_quiet_step (fail)))
   refine wpQuiet_nil ?_
   go_wp2_with fail
   go_meet
   exact⟨rfl,B4.out⟩
 case rest=>
  obtain⟨rfl,hbc⟩:=hcut
  generalize wc=W2 at *
  have B2:=hid hbc
  clear hbc HTA HTB HIN
  have HB2:=hid (bcomp HB1.out B2.out)
  cases I
  ·obtain rfl:V=false:=HV2.out
   go_wp2_with fail
   go_ret2
   exact⟨rfl,HB2.out⟩
  have HV3:Hid (V=(premB (sideLat q) level S q.sens tx ty&&!sameB (sideLat q) level C q.sens tx ty)):=by show V=_;rw[HV2.out,Bool.true_and]
  clear HV2
  have HG4:Hid (W2.heap[w.heap.size]?=some (.cells #[.int .i64 f.width,.int .i64 f.regs,fcv,fsv,fav,fkv] 26 (0,0))):=(B2.out.block _ (by omega)).trans HG2.out
  have HG5:Hid (W2.heap[w.heap.size+1]?=some (.cells cP 30 (0,0))):=(B2.out.block _ (by omega)).trans HG3.out
  have hsz2:w.heap.size+1<W2.heap.size:=(gsRPc HG5.out)
  have HRX:=refRunC f #[.int .i64 f.width,.int .i64 f.regs,fcv,fsv,fav,fkv] _ A q.steps W2 ⟨_,_,_,_,rfl,HF1.out.keep B2.out⟩ (HA.out.keep HB2.out) HQS.out (by have:=HAl.out;have:=HCL.out;omega) (side_err HSP.out HAl.out)
  rw[HTX.out] at HRX
  have HRX:=hid HRX
  have p5:=row_of HG5.out 5 _ HP5.out
  go_upto_region 9 with fail
  have y0:=row_of HG4.out 0 (.int .i64 f.width) rfl
  have y1:=row_of HG4.out 1 (.int .i64 f.regs) rfl
  have y2:=row_of HG4.out 2 fcv rfl
  have y3:=row_of HG4.out 3 fsv rfl
  have y4:=row_of HG4.out 4 fav rfl
  have y5:=row_of HG4.out 5 fkv rfl
  go_upto_region 10 with (first|(go_at_call 34;refine HRX.out.mono ?_;rintro e z3 ⟨cX,rfl,ht,hz⟩;have HTX1:=hid ht;have HXI:=hid ht.info;have HXS:=hid ht.size;have HXO:=hid ht.one;have B3:=hid hz;have HZN:=hid (heap_alloc_new z3 (.cells #[.int .u8 0,.int .i64 0,.slice none 0 0,.slice none 0 0,.slice none 0 0,.slice none 0 0] 52));clear hz ht)|(refine wpList_store_row rfl 52 (.tmp 18) (.tmp 77) rfl z3.heap.size cX rfl rfl 52 #[.int .u8 0,.int .i64 0,.slice none 0 0,.slice none 0 0,.slice none 0 0,.slice none 0 0] ?h10 (HXI.out) (by rw[HXS.out];rfl) (HXO.out) ?_;exact HZN.out))
  clear y0 y1 y2 y3 y4 y5 p5
  have hbn:Below z3.heap.size z3 ((z3.alloc (.cells #[.int .u8 0,.int .i64 0,.slice none 0 0,.slice none 0 0,.slice none 0 0,.slice none 0 0] 52)).setRow z3.heap.size cX):=below_row ((Below.refl z3.heap.size z3).alloc (Nat.le_refl _) (.cells #[.int .u8 0,.int .i64 0,.slice none 0 0,.slice none 0 0,.slice none 0 0,.slice none 0 0] 52)) (Nat.le_refl _) cX
  have HB3:=hid (bcomp B3.out hbn)
  have HTX2:=hid (HTX1.out.keep hbn)
  have HGX:Hid (((z3.alloc (.cells #[.int .u8 0,.int .i64 0,.slice none 0 0,.slice none 0 0,.slice none 0 0,.slice none 0 0] 52)).setRow z3.heap.size cX).heap[z3.heap.size]?=some (.cells cX 52 (0,0))):=setRow_heap _ _ _ _ _ _ HZN.out
  try simp only[Act.put]
  clear hbn HZN HTX1 HRX B3
  generalize (z3.alloc (.cells #[.int .u8 0,.int .i64 0,.slice none 0 0,.slice none 0 0,.slice none 0 0,.slice none 0 0] 52)).setRow z3.heap.size cX=W3 at *
  have HBW3:=hid (bcomp HB2.out HB3.out)
  have HG6:Hid (W3.heap[w.heap.size]?=some (.cells #[.int .i64 f.width,.int .i64 f.regs,fcv,fsv,fav,fkv] 26 (0,0))):=(HB3.out.block _ (by omega)).trans HG4.out
  have HG7:Hid (W3.heap[w.heap.size+1]?=some (.cells cP 30 (0,0))):=(HB3.out.block _ (by omega)).trans HG5.out
  have hsz3:z3.heap.size<W3.heap.size:=(gsRPc HGX.out)
  have hsz4:w.heap.size+1<W3.heap.size:=(gsRPc HG7.out)
  have HB23:=hid (bcomp B2.out HB3.out)
  have HRY:=refRunC f #[.int .i64 f.width,.int .i64 f.regs,fcv,fsv,fav,fkv] _ B q.steps W3 ⟨_,_,_,_,rfl,HF1.out.keep HB23.out⟩ (HB.out.keep HBW3.out) HQS.out (by have:=HBl.out;have:=HCL.out;omega) (side_err HSP.out HBl.out)
  rw[HTY.out] at HRY
  have HRY:=hid HRY
  have p5:=row_of HG7.out 5 _ HP5.out
  have y0:=row_of HG6.out 0 (.int .i64 f.width) rfl
  have y1:=row_of HG6.out 1 (.int .i64 f.regs) rfl
  have y2:=row_of HG6.out 2 fcv rfl
  have y3:=row_of HG6.out 3 fsv rfl
  have y4:=row_of HG6.out 4 fav rfl
  have y5:=row_of HG6.out 5 fkv rfl
  go_upto_region 11 with (first|(go_at_call 34;refine HRY.out.mono ?_;rintro e z4 ⟨cY,rfl,ht,hz⟩;have HTY1:=hid ht;have HYI:=hid ht.info;have HYS:=hid ht.size;have HYO:=hid ht.one;have B4:=hid hz;have HZN:=hid (heap_alloc_new z4 (.cells #[.int .u8 0,.int .i64 0,.slice none 0 0,.slice none 0 0,.slice none 0 0,.slice none 0 0] 52));clear hz ht)|(refine wpList_store_row rfl 52 (.tmp 20) (.tmp 85) rfl z4.heap.size cY rfl rfl 52 #[.int .u8 0,.int .i64 0,.slice none 0 0,.slice none 0 0,.slice none 0 0,.slice none 0 0] ?h11 (HYI.out) (by rw[HYS.out];rfl) (HYO.out) ?_;exact HZN.out))
  clear y0 y1 y2 y3 y4 y5 p5
  have hbn:Below z4.heap.size z4 ((z4.alloc (.cells #[.int .u8 0,.int .i64 0,.slice none 0 0,.slice none 0 0,.slice none 0 0,.slice none 0 0] 52)).setRow z4.heap.size cY):=below_row ((Below.refl z4.heap.size z4).alloc (Nat.le_refl _) (.cells #[.int .u8 0,.int .i64 0,.slice none 0 0,.slice none 0 0,.slice none 0 0,.slice none 0 0] 52)) (Nat.le_refl _) cY
  have HB4:=hid (bcomp B4.out hbn)
  have HTY2:=hid (HTY1.out.keep hbn)
  have HGY:Hid (((z4.alloc (.cells #[.int .u8 0,.int .i64 0,.slice none 0 0,.slice none 0 0,.slice none 0 0,.slice none 0 0] 52)).setRow z4.heap.size cY).heap[z4.heap.size]?=some (.cells cY 52 (0,0))):=setRow_heap _ _ _ _ _ _ HZN.out
  try simp only[Act.put]
  clear hbn HZN HTY1 HRY B4
  generalize (z4.alloc (.cells #[.int .u8 0,.int .i64 0,.slice none 0 0,.slice none 0 0,.slice none 0 0,.slice none 0 0] 52)).setRow z4.heap.size cY=W4 at *
  have HB24:=hid (bcomp HB23.out HB4.out)
  have HBW4:=hid (bcomp HBW3.out HB4.out)
  have HGX4:Hid (W4.heap[z3.heap.size]?=some (.cells cX 52 (0,0))):=(HB4.out.block _ hsz3).trans HGX.out
  have HGP4:Hid (W4.heap[w.heap.size+1]?=some (.cells cP 30 (0,0))):=(HB4.out.block _ hsz4).trans HG7.out
  have HRU:=refRuns (sideLat q) v _ _ level C S q.sens tx ty cX cY W4 (HL1.out.keep HB24.out) HLV.out (HC1.out.keep HB24.out) (HS1.out.keep HB24.out) hC6 hS6 (HTX2.out.keep HB4.out) HTY2.out
  rw[← HV3.out] at HRU
  have HRU:=hid HRU
  have p4:=row_of HGP4.out 4 _ HP4.out
  go_wp2_with (first|(refine wpList_load_row rfl 52 (.tmp 18) rfl z3.heap.size rfl 52 cX (0,0) _ ?l12 Tryz.underlying52 rfl ?i12 ?_;exact HGX4.out;exact HXI.out)|(refine wpList_load_row rfl 52 (.tmp 20) rfl z4.heap.size rfl 52 cY (0,0) _ ?l13 Tryz.underlying52 rfl ?i13 ?_;exact HGY.out;exact HYI.out)|(go_at_call 35;refine HRU.out.mono ?_;rintro e z5 ⟨rfl,hz⟩;have B5:=hid (bcomp HBW4.out hz);clear hz))
  go_ret2
  exact⟨rfl,B5.out⟩
end Go.Proofs.YtkjkpddajjmloaaGreatDoor
