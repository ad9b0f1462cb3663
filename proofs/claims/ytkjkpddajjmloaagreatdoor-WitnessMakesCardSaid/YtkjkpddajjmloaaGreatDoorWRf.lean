/- Contracts of the reference's witness: Implicit, branches, Check, Make. Condition: what comes in reads as the plain data. -/
import Derived.Test.YtkjkpddajjmloaaGreatDoorRPc
import Derived.Test.YtkjkpddajjmloaaGreatDoorWtR
set_option linter.all false
set_option maxRecDepth 1000000
set_option maxHeartbeats 6400000
namespace Go.Proofs.YtkjkpddajjmloaaGreatDoor
open Go.ChangeShapes Go.WideShapes Go.ChangeAt Go.RowKit
open Go.Lib (hid)
theorem gsWRf {α:Type} {a:Array α} {i:Nat} {v:α} (h:a[i]?=some v):i<a.size:=(Array.getElem?_eq_some_iff.1 h).1
theorem ext_rowR {W:World} {b:Nat} {v:Obj} (h:W.heap[b]?=some v):∀ w,(∃ x,w=ext W x)→w.heap[b]?=some v:=by
 rintro w ⟨x,rfl⟩
 exact ((ext_below W x).block b (gsWRf h)).trans h
theorem refImplicit (x y:TraceD) (cX cY:Array Value) (w:World) (hX:TrcC w x cX) (hY:TrcC w y cY) :
  Calls Tryz.prog 22 #[.agg cX,.agg cY] w fun e w'=>e=.returned (.bool (implB x y))∧Below w.heap.size w w':=by
 obtain⟨xo,xr,xb,xd,rfl,hx⟩:=hX
 obtain⟨yo,yr,yb,yd,rfl,hy⟩:=hY
 obtain⟨xa1,xa2,rfl⟩:=hx.1.is
 obtain⟨xa3,xa4,rfl⟩:=hx.2.1.is
 obtain⟨a,c,rfl⟩:=hx.2.2.1.is
 obtain⟨xa7,xa8,rfl⟩:=hx.2.2.2.1.is
 obtain⟨ya1,ya2,rfl⟩:=hy.1.is
 obtain⟨ya3,ya4,rfl⟩:=hy.2.1.is
 obtain⟨a2,c2,rfl⟩:=hy.2.2.1.is
 obtain⟨ya7,ya8,rfl⟩:=hy.2.2.2.1.is
 have hal:=((Below.refl w.heap.size w).alloc (Nat.le_refl _) (.cells #[.int .u8 x.status,.int .i64 x.steps,.slice xa1 x.outs.length xa2,.slice xa3 x.rels.length xa4,.slice a x.brs.length c,.slice xa7 x.reads.length xa8] 52)).alloc (by simp) (.cells #[.int .u8 y.status,.int .i64 y.steps,.slice ya1 y.outs.length ya2,.slice ya3 y.rels.length ya4,.slice a2 y.brs.length c2,.slice ya7 y.reads.length ya8] 52)
 have hh:=heap2_of (w:=w) (A:=.cells #[.int .u8 x.status,.int .i64 x.steps,.slice xa1 x.outs.length xa2,.slice xa3 x.rels.length xa4,.slice a x.brs.length c,.slice xa7 x.reads.length xa8] 52 (0,0)) (B:=.cells #[.int .u8 y.status,.int .i64 y.steps,.slice ya1 y.outs.length ya2,.slice ya3 y.rels.length ya4,.slice a2 y.brs.length c2,.slice ya7 y.reads.length ya8] 52 (0,0)) (Below.refl _ _)
 have HB:=hid hal
 have HE:=hid (equalBool _ _ x.brs y.brs _ (hx.2.2.1.keep hal) (hy.2.2.1.keep hal))
 have p4:=row_of hh.1 4 (.slice a x.brs.length c) rfl
 have q4:=row_of hh.2.1 4 (.slice a2 y.brs.length c2) rfl
 obtain⟨V,hV⟩:∃ V,eqL eqBool x.brs y.brs=V:=⟨_,rfl⟩
 have HI:Hid (implB x y=!V):=by show _=_;rw[← hV];rfl
 rw[HI.out]
 rw[hV] at HE
 clear hx hy hal hh hV
 go_enter Tryz.func22,Tryz.ntmps22
 go_upto_region 1 with fail
 generalize (w.alloc (.cells #[.int .u8 x.status,.int .i64 x.steps,.slice xa1 x.outs.length xa2,.slice xa3 x.rels.length xa4,.slice a x.brs.length c,.slice xa7 x.reads.length xa8] 52)).alloc (.cells #[.int .u8 y.status,.int .i64 y.steps,.slice ya1 y.outs.length ya2,.slice ya3 y.rels.length ya4,.slice a2 y.brs.length c2,.slice ya7 y.reads.length ya8] 52)=W at *
 go_wp2_with (go_at_call 43;refine HE.out.mono ?_;rintro e z ⟨rfl,hz⟩;have BZ:=hid (bcomp HB.out hz);clear hz)
 go_ret
 exact⟨rfl,BZ.out⟩
theorem refBranches (f:FlatD) (q:PolD) (cF cP:Array Value) (av bv:Value) (A B:List (List Int)) (w:World) (hF:FlatC w f cF) (hP:PolC w q cP) (ha:RdLists none w av A) (hb:RdLists none w bv B) (hnA:A.length≤1000000) (hnB:B.length≤1000000) (h1:errRun f A.length q.steps=0) (h2:errRun f B.length q.steps=0) :
  Calls Tryz.prog 39 #[.agg cF,.agg cP,av,bv] w fun e w'=>e=.returned (.bool (implB (runT f A q.steps) (runT f B q.steps)))∧Below w.heap.size w w':=by
 obtain⟨aa,ac,rfl⟩:=ha.is
 obtain⟨ba,bc,rfl⟩:=hb.is
 have hst:InI64 q.steps:=(by obtain⟨_,_,_,_,_,h⟩:=hP;exact h.2.2.2.2.1)
 have HFI:=hid hF.info
 have HP5:=hid hP.steps0
 obtain⟨tx,htx⟩:∃ t,runT f A q.steps=t:=⟨_,rfl⟩
 obtain⟨ty,hty⟩:∃ t,runT f B q.steps=t:=⟨_,rfl⟩
 rw[htx,hty]
 obtain⟨V,hV⟩:∃ V,implB tx ty=V:=⟨_,rfl⟩
 rw[hV]
 have HVI:=hid hV
 clear hV
 have HR1:=hid (fun (z:World) (hz:Below w.heap.size w z)=>(by
  have h:=refRunC f cF (.slice aa A.length ac) A q.steps z (hF.keep hz) (ha.keep hz) hst hnA h1
  rw[htx] at h
  exact h:Calls Tryz.prog 34 #[.agg cF,.int .i64 q.steps,.slice aa A.length ac] z fun e w'=>∃ cT,e=.returned (.tuple #[.agg cT,.int .i64 0])∧TrcC w' tx cT∧Below z.heap.size z w'))
 have HR2:=hid (fun (z:World) (hz:Below w.heap.size w z)=>(by
  have h:=refRunC f cF (.slice ba B.length bc) B q.steps z (hF.keep hz) (hb.keep hz) hst hnB h2
  rw[hty] at h
  exact h:Calls Tryz.prog 34 #[.agg cF,.int .i64 q.steps,.slice ba B.length bc] z fun e w'=>∃ cT,e=.returned (.tuple #[.agg cT,.int .i64 0])∧TrcC w' ty cT∧Below z.heap.size z w'))
 clear htx hty hst ha hb h1 h2 hF hP
 have hal:=((Below.refl w.heap.size w).alloc (Nat.le_refl _) (.cells cF 26)).alloc (by simp) (.cells cP 30)
 have hx:=heap2_of (w:=w) (A:=(.cells cF 26)) (B:=(.cells cP 30)) (Below.refl _ _)
 have HB0:=hid hal
 have HG0:=hid hx.1
 have HG1:=hid hx.2.1
 clear hal hx
 go_enter Tryz.func39,Tryz.ntmps39
 go_upto_region 1 with fail
 generalize (w.alloc (.cells cF 26)).alloc (.cells cP 30)=W at *
 have hsz:w.heap.size+1<W.heap.size:=(gsWRf HG1.out)
 have p5:=row_of HG1.out 5 _ HP5.out
 go_upto_region 2 with (first|(refine wpList_load_row rfl 26 (.tmp 4) rfl w.heap.size rfl 26 cF (0,0) _ ?l3 Tryz.underlying26 rfl ?i3 ?_;exact HG0.out;exact HFI.out)|(go_at_call 34;refine (HR1.out _ HB0.out).mono ?_;rintro e z1 ⟨cX,rfl,ht,hz⟩;have HX:=hid ht;have HX1:=hid ht.info;have HX2:=hid ht.size;have HX3:=hid ht.one;have B1:=hid hz;have HZN:=hid (heap_alloc_new z1 (.cells #[.int .u8 0,.int .i64 0,.slice none 0 0,.slice none 0 0,.slice none 0 0,.slice none 0 0] 52));clear hz ht)|(refine wpList_store_row rfl 52 (.tmp 9) (.tmp 19) rfl z1.heap.size cX rfl rfl 52 #[.int .u8 0,.int .i64 0,.slice none 0 0,.slice none 0 0,.slice none 0 0,.slice none 0 0] ?h5 (HX1.out) (by rw[HX2.out];rfl) (HX3.out) ?_;exact HZN.out))
 clear p5
 have hbn:Below z1.heap.size z1 ((z1.alloc (.cells #[.int .u8 0,.int .i64 0,.slice none 0 0,.slice none 0 0,.slice none 0 0,.slice none 0 0] 52)).setRow z1.heap.size cX):=below_row ((Below.refl z1.heap.size z1).alloc (Nat.le_refl _) (.cells #[.int .u8 0,.int .i64 0,.slice none 0 0,.slice none 0 0,.slice none 0 0,.slice none 0 0] 52)) (Nat.le_refl _) cX
 have HB1:=hid (bcomp B1.out hbn)
 have HXW:=hid (HX.out.keep hbn)
 have HGX:Hid (((z1.alloc (.cells #[.int .u8 0,.int .i64 0,.slice none 0 0,.slice none 0 0,.slice none 0 0,.slice none 0 0] 52)).setRow z1.heap.size cX).heap[z1.heap.size]?=some (.cells cX 52 (0,0))):=setRow_heap _ _ _ _ _ _ HZN.out
 try simp only[Act.put]
 clear hbn HZN HX B1
 generalize (z1.alloc (.cells #[.int .u8 0,.int .i64 0,.slice none 0 0,.slice none 0 0,.slice none 0 0,.slice none 0 0] 52)).setRow z1.heap.size cX=W2 at *
 have HG2:Hid (W2.heap[w.heap.size]?=some (.cells cF 26 (0,0))):=(HB1.out.block _ (by omega)).trans HG0.out
 have HG3:Hid (W2.heap[w.heap.size+1]?=some (.cells cP 30 (0,0))):=(HB1.out.block _ hsz).trans HG1.out
 have p5:=row_of HG3.out 5 _ HP5.out
 have HB02:=hid (bcomp HB0.out HB1.out)
 go_upto_region 3 with (first|(refine wpList_load_row rfl 26 (.tmp 4) rfl w.heap.size rfl 26 cF (0,0) _ ?l4 Tryz.underlying26 rfl ?i4 ?_;exact HG2.out;exact HFI.out)|(go_at_call 34;refine (HR2.out _ HB02.out).mono ?_;rintro e z3 ⟨cY,rfl,ht,hz⟩;have HY:=hid ht;have HY1:=hid ht.info;have HY2:=hid ht.size;have HY3:=hid ht.one;have B3:=hid hz;have HZN:=hid (heap_alloc_new z3 (.cells #[.int .u8 0,.int .i64 0,.slice none 0 0,.slice none 0 0,.slice none 0 0,.slice none 0 0] 52));clear hz ht)|(refine wpList_store_row rfl 52 (.tmp 11) (.tmp 27) rfl z3.heap.size cY rfl rfl 52 #[.int .u8 0,.int .i64 0,.slice none 0 0,.slice none 0 0,.slice none 0 0,.slice none 0 0] ?h6 (HY1.out) (by rw[HY2.out];rfl) (HY3.out) ?_;exact HZN.out))
 clear p5
 have hbn:Below z3.heap.size z3 ((z3.alloc (.cells #[.int .u8 0,.int .i64 0,.slice none 0 0,.slice none 0 0,.slice none 0 0,.slice none 0 0] 52)).setRow z3.heap.size cY):=below_row ((Below.refl z3.heap.size z3).alloc (Nat.le_refl _) (.cells #[.int .u8 0,.int .i64 0,.slice none 0 0,.slice none 0 0,.slice none 0 0,.slice none 0 0] 52)) (Nat.le_refl _) cY
 have HB3:=hid (bcomp B3.out hbn)
 have HYW:=hid (HY.out.keep hbn)
 have HGY:Hid (((z3.alloc (.cells #[.int .u8 0,.int .i64 0,.slice none 0 0,.slice none 0 0,.slice none 0 0,.slice none 0 0] 52)).setRow z3.heap.size cY).heap[z3.heap.size]?=some (.cells cY 52 (0,0))):=setRow_heap _ _ _ _ _ _ HZN.out
 try simp only[Act.put]
 clear hbn HZN HY B3
 generalize (z3.alloc (.cells #[.int .u8 0,.int .i64 0,.slice none 0 0,.slice none 0 0,.slice none 0 0,.slice none 0 0] 52)).setRow z3.heap.size cY=W4 at *
 have HX4:=hid (HXW.out.keep HB3.out)
 have HGX4:=hid ((HB3.out.block _ (gsWRf HGX.out)).trans HGX.out)
 have HB4:=hid (bcomp HB02.out HB3.out)
 have HIM:=refImplicit tx ty cX cY W4 HX4.out HYW.out
 rw[HVI.out] at HIM
 have HIM:=hid HIM
 go_wp2_with (first|(refine wpList_load_row rfl 52 (.tmp 9) rfl z1.heap.size rfl 52 cX (0,0) _ ?l7 Tryz.underlying52 rfl ?i7 ?_;exact HGX4.out;exact HX1.out)|(refine wpList_load_row rfl 52 (.tmp 11) rfl z3.heap.size rfl 52 cY (0,0) _ ?l8 Tryz.underlying52 rfl ?i8 ?_;exact HGY.out;exact HY1.out)|(go_at_call 22;refine HIM.out.mono ?_;rintro e z5 ⟨rfl,hz⟩;have B5:=hid (bcomp HB4.out hz);clear hz))
 go_ret
 exact⟨rfl,B5.out⟩
theorem refCheck37 (f:FlatD) (q:PolD) (cF cP cW:Array Value) (level:Int) (A B:List (List Int)) (i:Bool) (w:World) (hF:FlatC w f cF) (hP:PolC w q cP) (hW:WitC w level A B i cW) (hlv:InI64 level) (hzA:∀ l∈A,l.length≤1000000) (hzB:∀ l∈B,l.length≤1000000) :
  Calls Tryz.prog 17 #[.agg cF,.agg cP,.agg cW] w fun e w'=>e=.returned (.int .i64 (checkE f q level A B i))∧Below w.heap.size w w':=by
 obtain⟨av,bv,rfl,ha,hb⟩:=hW
 obtain⟨aa,ac,rfl⟩:=ha.is
 obtain⟨ba,bc,rfl⟩:=hb.is
 obtain⟨R,hR⟩:∃ R,checkE f q level A B i=R:=⟨_,rfl⟩
 rw[hR]
 have HR:=hid hR
 obtain⟨fcv,fsv,fav,fkv,rfl,hf⟩:=hF
 obtain⟨fca,fcc,rfl⟩:=hf.1.is
 obtain⟨fsa,fsc,rfl⟩:=hf.2.1.is
 obtain⟨faa,fac,rfl⟩:=hf.2.2.1.is
 obtain⟨fka,fkc,rfl⟩:=hf.2.2.2.1.is
 have hF:FlatC w f #[.int .i64 f.width,.int .i64 f.regs,.slice fca f.chans.length fcc,.slice fsa f.sites.length fsc,.slice faa f.arrays.length fac,.slice fka f.code.length fkc]:=⟨_,_,_,_,rfl,hf⟩
 obtain⟨plv,pov,pcv,psv,rfl,hp⟩:=hP
 obtain⟨la,lc,rfl⟩:=hp.1.is
 obtain⟨oa,oc,rfl⟩:=hp.2.1.is
 obtain⟨ca,cc,rfl⟩:=hp.2.2.1.is
 obtain⟨sa,sc,rfl⟩:=hp.2.2.2.1.is
 have hP:PolC w q #[.slice la q.levels.length lc,.slice oa q.order.length oc,.slice ca q.chans.length cc,.slice sa q.sites.length sc,.bool q.sens,.int .i64 q.steps,.int .i64 q.paths,.int .i64 q.nodes,.int .i64 q.confs]:=⟨_,_,_,_,rfl,hp⟩
 clear hf hp hR
 have HF:=hid hF
 have HP:=hid hP
 have HA:=hid ha
 have HB:=hid hb
 have HLV:=hid hlv
 have HZA:=hid hzA
 have HZB:=hid hzB
 have hal:=((((Below.refl w.heap.size w).alloc (Nat.le_refl _) (.cells #[.int .i64 f.width,.int .i64 f.regs,.slice fca f.chans.length fcc,.slice fsa f.sites.length fsc,.slice faa f.arrays.length fac,.slice fka f.code.length fkc] 26)).alloc (by simp) (.cells #[.slice la q.levels.length lc,.slice oa q.order.length oc,.slice ca q.chans.length cc,.slice sa q.sites.length sc,.bool q.sens,.int .i64 q.steps,.int .i64 q.paths,.int .i64 q.nodes,.int .i64 q.confs] 30))).alloc (by simp;omega) (.cells #[.int .i64 level,.slice aa A.length ac,.slice ba B.length bc,.bool i] 43)
 have hx:=heap2_of (w:=w) (A:=.cells #[.int .i64 f.width,.int .i64 f.regs,.slice fca f.chans.length fcc,.slice fsa f.sites.length fsc,.slice faa f.arrays.length fac,.slice fka f.code.length fkc] 26 (0,0)) (B:=.cells #[.slice la q.levels.length lc,.slice oa q.order.length oc,.slice ca q.chans.length cc,.slice sa q.sites.length sc,.bool q.sens,.int .i64 q.steps,.int .i64 q.paths,.int .i64 q.nodes,.int .i64 q.confs] 30 (0,0)) ((Below.refl ((w.alloc (.cells #[.int .i64 f.width,.int .i64 f.regs,.slice fca f.chans.length fcc,.slice fsa f.sites.length fsc,.slice faa f.arrays.length fac,.slice fka f.code.length fkc] 26)).alloc (.cells #[.slice la q.levels.length lc,.slice oa q.order.length oc,.slice ca q.chans.length cc,.slice sa q.sites.length sc,.bool q.sens,.int .i64 q.steps,.int .i64 q.paths,.int .i64 q.nodes,.int .i64 q.confs] 30)).heap.size ((w.alloc (.cells #[.int .i64 f.width,.int .i64 f.regs,.slice fca f.chans.length fcc,.slice fsa f.sites.length fsc,.slice faa f.arrays.length fac,.slice fka f.code.length fkc] 26)).alloc (.cells #[.slice la q.levels.length lc,.slice oa q.order.length oc,.slice ca q.chans.length cc,.slice sa q.sites.length sc,.bool q.sens,.int .i64 q.steps,.int .i64 q.paths,.int .i64 q.nodes,.int .i64 q.confs] 30))).alloc (Nat.le_refl _) (.cells #[.int .i64 level,.slice aa A.length ac,.slice ba B.length bc,.bool i] 43))
 have hw3:(((w.alloc (.cells #[.int .i64 f.width,.int .i64 f.regs,.slice fca f.chans.length fcc,.slice fsa f.sites.length fsc,.slice faa f.arrays.length fac,.slice fka f.code.length fkc] 26)).alloc (.cells #[.slice la q.levels.length lc,.slice oa q.order.length oc,.slice ca q.chans.length cc,.slice sa q.sites.length sc,.bool q.sens,.int .i64 q.steps,.int .i64 q.paths,.int .i64 q.nodes,.int .i64 q.confs] 30)).alloc (.cells #[.int .i64 level,.slice aa A.length ac,.slice ba B.length bc,.bool i] 43)).heap[w.heap.size+1+1]?=some (.cells #[.int .i64 level,.slice aa A.length ac,.slice ba B.length bc,.bool i] 43 (0,0)):=by
  have:=heap_alloc_new ((w.alloc (.cells #[.int .i64 f.width,.int .i64 f.regs,.slice fca f.chans.length fcc,.slice fsa f.sites.length fsc,.slice faa f.arrays.length fac,.slice fka f.code.length fkc] 26)).alloc (.cells #[.slice la q.levels.length lc,.slice oa q.order.length oc,.slice ca q.chans.length cc,.slice sa q.sites.length sc,.bool q.sens,.int .i64 q.steps,.int .i64 q.paths,.int .i64 q.nodes,.int .i64 q.confs] 30)) (.cells #[.int .i64 level,.slice aa A.length ac,.slice ba B.length bc,.bool i] 43)
  simpa using this
 have HB0:=hid hal
 have HG0:=hid hx.1
 have HG1:=hid hx.2.1
 have HG2:=hid hw3
 clear hal hx hw3 hF hP ha hb hlv hzA hzB
 go_enter Tryz.func17,Tryz.ntmps17
 go_upto_region 1 with fail
 generalize ((w.alloc (.cells #[.int .i64 f.width,.int .i64 f.regs,.slice fca f.chans.length fcc,.slice fsa f.sites.length fsc,.slice faa f.arrays.length fac,.slice fka f.code.length fkc] 26)).alloc (.cells #[.slice la q.levels.length lc,.slice oa q.order.length oc,.slice ca q.chans.length cc,.slice sa q.sites.length sc,.bool q.sens,.int .i64 q.steps,.int .i64 q.paths,.int .i64 q.nodes,.int .i64 q.confs] 30)).alloc (.cells #[.int .i64 level,.slice aa A.length ac,.slice ba B.length bc,.bool i] 43)=W at *
 have hsz:w.heap.size+1+1<W.heap.size:=(gsWRf HG2.out)
 have hk:=refLeaks f q _ _ level _ _ A B W (HF.out.keep HB0.out) (HP.out.keep HB0.out) HLV.out (HA.out.keep HB0.out) (HB.out.keep HB0.out) HZA.out HZB.out
 obtain⟨V,hV⟩:∃ V,leaksB f q level A B=V:=⟨_,rfl⟩
 obtain⟨E,hE⟩:∃ E,leaksErr f q level A B=E:=⟨_,rfl⟩
 rw[hV,hE] at hk
 have HK:=hid hk
 have HV:=hid hV
 have HE:=hid hE
 clear hk hV hE
 have x0:=row_of HG0.out 0 (.int .i64 f.width) rfl
 have x1:=row_of HG0.out 1 (.int .i64 f.regs) rfl
 have x2:=row_of HG0.out 2 (.slice fca f.chans.length fcc) rfl
 have x3:=row_of HG0.out 3 (.slice fsa f.sites.length fsc) rfl
 have x4:=row_of HG0.out 4 (.slice faa f.arrays.length fac) rfl
 have x5:=row_of HG0.out 5 (.slice fka f.code.length fkc) rfl
 have y0:=row_of HG1.out 0 (.slice la q.levels.length lc) rfl
 have y1:=row_of HG1.out 1 (.slice oa q.order.length oc) rfl
 have y2:=row_of HG1.out 2 (.slice ca q.chans.length cc) rfl
 have y3:=row_of HG1.out 3 (.slice sa q.sites.length sc) rfl
 have y4:=row_of HG1.out 4 (.bool q.sens) rfl
 have y5:=row_of HG1.out 5 (.int .i64 q.steps) rfl
 have y6:=row_of HG1.out 6 (.int .i64 q.paths) rfl
 have y7:=row_of HG1.out 7 (.int .i64 q.nodes) rfl
 have y8:=row_of HG1.out 8 (.int .i64 q.confs) rfl
 have v0:=row_of HG2.out 0 (.int .i64 level) rfl
 have v1:=row_of HG2.out 1 (.slice aa A.length ac) rfl
 have v2:=row_of HG2.out 2 (.slice ba B.length bc) rfl
 have v3:=row_of HG2.out 3 (.bool i) rfl
 go_upto_region 2 with (go_at_call 10;refine HK.out.mono ?_;rintro e z1 ⟨rfl,hz⟩;have B1:=hid hz;clear hz)
 clear x0 x1 x2 x3 x4 x5 y0 y1 y2 y3 y4 y5 y6 y7 y8 v0 v1 v2 v3 HK
 have HB1:=hid (bcomp HB0.out B1.out)
 by_cases h1:E=0
 case neg=>
  have h1':(E != 0)=true:=by simpa using h1
  obtain rfl:R=E:=by rw[← HR.out,checkE,makeE_err (by rw[HE.out];exact h1),HE.out,if_pos h1]
  go_wp2_with fail
  go_ret
  exact⟨rfl,HB1.out⟩
 subst h1
 have hHE:((0:Int) != 0)=false:=rfl
 go_upto_region 4 with fail
 have HG01:=hid ((B1.out.block _ (by omega)).trans HG0.out)
 have HG11:=hid ((B1.out.block _ (by omega)).trans HG1.out)
 have HG21:=hid ((B1.out.block _ hsz).trans HG2.out)
 have x0:=ext_cell (row_of HG01.out 0 (.int .i64 f.width) rfl)
 have x1:=ext_cell (row_of HG01.out 1 (.int .i64 f.regs) rfl)
 have x2:=ext_cell (row_of HG01.out 2 (.slice fca f.chans.length fcc) rfl)
 have x3:=ext_cell (row_of HG01.out 3 (.slice fsa f.sites.length fsc) rfl)
 have x4:=ext_cell (row_of HG01.out 4 (.slice faa f.arrays.length fac) rfl)
 have x5:=ext_cell (row_of HG01.out 5 (.slice fka f.code.length fkc) rfl)
 have y0:=ext_cell (row_of HG11.out 0 (.slice la q.levels.length lc) rfl)
 have y1:=ext_cell (row_of HG11.out 1 (.slice oa q.order.length oc) rfl)
 have y2:=ext_cell (row_of HG11.out 2 (.slice ca q.chans.length cc) rfl)
 have y3:=ext_cell (row_of HG11.out 3 (.slice sa q.sites.length sc) rfl)
 have y4:=ext_cell (row_of HG11.out 4 (.bool q.sens) rfl)
 have y5:=ext_cell (row_of HG11.out 5 (.int .i64 q.steps) rfl)
 have y6:=ext_cell (row_of HG11.out 6 (.int .i64 q.paths) rfl)
 have y7:=ext_cell (row_of HG11.out 7 (.int .i64 q.nodes) rfl)
 have y8:=ext_cell (row_of HG11.out 8 (.int .i64 q.confs) rfl)
 have v0:=ext_cell (row_of HG21.out 0 (.int .i64 level) rfl)
 have v1:=ext_cell (row_of HG21.out 1 (.slice aa A.length ac) rfl)
 have v2:=ext_cell (row_of HG21.out 2 (.slice ba B.length bc) rfl)
 have v3:=ext_cell (row_of HG21.out 3 (.bool i) rfl)
 cases V
 case false=>
  obtain rfl:R=4:=by rw[← HR.out,checkE,makeE_not HE.out HV.out];rfl
  clear HR
  (refine wp_region_calm (by kernel_rfl) (by kernel_rfl) ?_;(repeat (go_big_quiet_step (fail)));refine wpQuiet_nil ?_;intro wc hwc)
  go_wp2_with fail
  go_ret
  exact⟨rfl,bcomp HB1.out hwc⟩
 case true=>
  obtain⟨er1,er2,hnA,hnB⟩:=runs_fine HE.out
  have HC:=hid (fun (x:World)=>refBranches f q #[.int .i64 f.width,.int .i64 f.regs,.slice fca f.chans.length fcc,.slice fsa f.sites.length fsc,.slice faa f.arrays.length fac,.slice fka f.code.length fkc] #[.slice la q.levels.length lc,.slice oa q.order.length oc,.slice ca q.chans.length cc,.slice sa q.sites.length sc,.bool q.sens,.int .i64 q.steps,.int .i64 q.paths,.int .i64 q.nodes,.int .i64 q.confs] _ _ A B (ext z1 x) (HF.out.keep (bcomp HB1.out (ext_below z1 x))) (HP.out.keep (bcomp HB1.out (ext_below z1 x))) (HA.out.keep (bcomp HB1.out (ext_below z1 x))) (HB.out.keep (bcomp HB1.out (ext_below z1 x))) hnA hnB er1 er2)
  obtain⟨I,hI⟩:∃ I,implB (runT f A q.steps) (runT f B q.steps)=I:=⟨_,rfl⟩
  rw[hI] at HC
  have HRR:Hid (R=if I=i then 0 else 4):=by show R=_;rw[← HR.out,checkE,makeE_good HE.out HV.out,hI];rfl
  clear HR hI er1 er2
  (refine wp_region_calm (by kernel_rfl) (by kernel_rfl) ?_;(repeat (go_big_quiet_step ((go_at_call 39;with_reducible exact calls_calm (HC.out _)))));refine wpQuiet_nil ?_;intro wc hwc)
  have HBZ:=hid (bcomp HB1.out hwc)
  cases i <;> cases I
  ·obtain rfl:R=0:=HRR.out
   go_wp2_with fail
   go_ret
   exact⟨rfl,HBZ.out⟩
  ·obtain rfl:R=4:=HRR.out
   go_wp2_with fail
   go_ret
   exact⟨rfl,HBZ.out⟩
  ·obtain rfl:R=4:=HRR.out
   go_wp2_with fail
   go_ret
   exact⟨rfl,HBZ.out⟩
  ·obtain rfl:R=0:=HRR.out
   go_wp2_with fail
   go_ret
   exact⟨rfl,HBZ.out⟩
def MakeSaid (M:Int) (I:Bool) (level:Int) (A B:List (List Int)) (w:World) (e:Ending) (w':World):Prop:=
 ∃ c,e=.returned (.tuple #[.agg c,.int .i64 M])∧(M≠0→c=#[.int .i64 0,.slice none 0 0,.slice none 0 0,.bool false] )∧(M=0→WitC w' level A B I c)∧Below w.heap.size w w'
theorem refMake37 (f:FlatD) (q:PolD) (cF cP:Array Value) (level:Int) (av bv:Value) (A B:List (List Int)) (w:World) (hF:FlatC w f cF) (hP:PolC w q cP) (hlv:InI64 level) (ha:RdLists none w av A) (hb:RdLists none w bv B) (hzA:∀ l∈A,l.length≤1000000) (hzB:∀ l∈B,l.length≤1000000) :
  Calls Tryz.prog 20 #[.agg cF,.agg cP,.int .i64 level,av,bv] w (MakeSaid (makeE f q level A B) (implB (runT f A q.steps) (runT f B q.steps)) level A B w):=by
 obtain⟨M,hM⟩:∃ M,makeE f q level A B=M:=⟨_,rfl⟩
 obtain⟨I,hI⟩:∃ I,implB (runT f A q.steps) (runT f B q.steps)=I:=⟨_,rfl⟩
 rw[hM,hI]
 have HM:=hid hM
 have HII:=hid hI
 clear hM hI
 obtain⟨aa,ac,rfl⟩:=ha.is
 obtain⟨ba,bc,rfl⟩:=hb.is
 have hal:=(((Below.refl w.heap.size w).alloc (Nat.le_refl _) (.cells cF 26)).alloc (by simp) (.cells cP 30)).alloc (by simp;omega) (.cells #[.int .i64 0,.slice none 0 0,.slice none 0 0,.bool false] 43)
 have hx:=heap2_of (w:=w) (A:=.cells cF 26 (0,0)) (B:=.cells cP 30 (0,0)) ((Below.refl ((w.alloc (.cells cF 26)).alloc (.cells cP 30)).heap.size ((w.alloc (.cells cF 26)).alloc (.cells cP 30))).alloc (Nat.le_refl _) (.cells #[.int .i64 0,.slice none 0 0,.slice none 0 0,.bool false] 43))
 have hw3:(((w.alloc (.cells cF 26)).alloc (.cells cP 30)).alloc (.cells #[.int .i64 0,.slice none 0 0,.slice none 0 0,.bool false] 43)).heap[w.heap.size+1+1]?=some (.cells #[.int .i64 0,.slice none 0 0,.slice none 0 0,.bool false] 43 (0,0)):=by
  have:=heap_alloc_new ((w.alloc (.cells cF 26)).alloc (.cells cP 30)) (.cells #[.int .i64 0,.slice none 0 0,.slice none 0 0,.bool false] 43)
  simpa using this
 have HB0:=hid hal
 have HGF:=hid hx.1
 have HGP:=hid hx.2.1
 have HGW:=hid hw3
 have HFI:=hid hF.info
 have HPI:=hid hP.info
 have hk:=refLeaks f q cF cP level _ _ A B _ (hF.keep hal) (hP.keep hal) hlv (ha.keep hal) (hb.keep hal) hzA hzB
 obtain⟨V,hV⟩:∃ V,leaksB f q level A B=V:=⟨_,rfl⟩
 obtain⟨E1,hE1⟩:∃ E,leaksErr f q level A B=E:=⟨_,rfl⟩
 rw[hV,hE1] at hk
 have HK:=hid hk
 have HV:=hid hV
 have HE:=hid hE1
 have HF:=hid hF
 have HP:=hid hP
 have HA:=hid ha
 have HB:=hid hb
 clear hal hx hw3 hk hF hP ha hb hV hE1 hlv hzA hzB
 go_enter Tryz.func20,Tryz.ntmps20
 go_upto_region 1 with fail
 generalize ((w.alloc (.cells cF 26)).alloc (.cells cP 30)).alloc (.cells #[.int .i64 0,.slice none 0 0,.slice none 0 0,.bool false] 43)=W at *
 have hsz:w.heap.size+1+1<W.heap.size:=(gsWRf HGW.out)
 go_upto_region 2 with (first|(refine wpList_load_row rfl 26 (.tmp 5) rfl w.heap.size rfl 26 cF (0,0) _ ?l1 Tryz.underlying26 rfl ?i1 ?_;exact HGF.out;exact HFI.out)|(refine wpList_load_row rfl 30 (.tmp 6) rfl (w.heap.size+1) rfl 30 cP (0,0) _ ?l2 Tryz.underlying30 rfl ?i2 ?_;exact HGP.out;exact HPI.out)|(go_at_call 10;refine HK.out.mono ?_;rintro e z1 ⟨rfl,hz⟩;have BZ:=hid hz;have HGZ:=hid ((hz.block _ hsz).trans HGW.out);clear hz))
 clear HK
 have HB1:=hid (bcomp HB0.out BZ.out)
 by_cases h1:E1=0
 case neg=>
  have h1':(E1 != 0)=true:=by simpa using h1
  obtain rfl:M=E1:=by rw[← HM.out,makeE_err (by rw[HE.out];exact h1),HE.out]
  go_wp2_with (refine wpList_store_row rfl 43 (.tmp 10) (.tmp 25) rfl (w.heap.size+1+1) #[.int .i64 0,.slice none 0 0,.slice none 0 0,.bool false] rfl rfl 43 #[.int .i64 0,.slice none 0 0,.slice none 0 0,.bool false] ?hst1 (by as_aux_lemma=>kernel_rfl) (by as_aux_lemma=>kernel_rfl) (by as_aux_lemma=>kernel_rfl) ?_;exact HGZ.out)
  refine bodyPost_ret (v:=.tuple #[.agg #[.int .i64 0,.slice none 0 0,.slice none 0 0,.bool false],.int .i64 M]) ?_ rfl ⟨_,rfl,fun _=>rfl,fun h=>absurd h h1,below_row HB1.out (by omega) _⟩
  try simp only[Act.put]
  exact results_cell_two (P:=Tryz.prog) (fn:=Tryz.f20) rfl _ _ (w.heap.size+1+1) 43 #[.int .i64 0,.slice none 0 0,.slice none 0 0,.bool false] (0,0) _ rfl (setRow_heap _ _ _ _ _ _ HGZ.out) Tryz.underlying43 rfl (by kernel_rfl)
 subst h1
 have hHE:((0:Int) != 0)=false:=rfl
 cases V
 case false=>
  obtain rfl:M=4:=by rw[← HM.out];exact makeE_not HE.out HV.out
  go_wp2_with (refine wpList_store_row rfl 43 (.tmp 10) (.tmp 29) rfl (w.heap.size+1+1) #[.int .i64 0,.slice none 0 0,.slice none 0 0,.bool false] rfl rfl 43 #[.int .i64 0,.slice none 0 0,.slice none 0 0,.bool false] ?hst2 (by as_aux_lemma=>kernel_rfl) (by as_aux_lemma=>kernel_rfl) (by as_aux_lemma=>kernel_rfl) ?_;exact HGZ.out)
  refine bodyPost_ret (v:=.tuple #[.agg #[.int .i64 0,.slice none 0 0,.slice none 0 0,.bool false],.int .i64 4]) ?_ rfl ⟨_,rfl,fun _=>rfl,fun h=>(by cases h),below_row HB1.out (by omega) _⟩
  try simp only[Act.put]
  exact results_cell_two (P:=Tryz.prog) (fn:=Tryz.f20) rfl _ _ (w.heap.size+1+1) 43 #[.int .i64 0,.slice none 0 0,.slice none 0 0,.bool false] (0,0) _ rfl (setRow_heap _ _ _ _ _ _ HGZ.out) Tryz.underlying43 rfl (by kernel_rfl)
 case true=>
  obtain⟨er1,er2,hnA,hnB⟩:=runs_fine HE.out
  obtain rfl:M=0:=by rw[← HM.out];exact makeE_good HE.out HV.out
  have HC:=hid (fun (z:World) (hz:Below w.heap.size w z)=>(by
   have h:=refBranches f q cF cP _ _ A B z (HF.out.keep hz) (HP.out.keep hz) (HA.out.keep hz) (HB.out.keep hz) hnA hnB er1 er2
   rw[HII.out] at h
   exact h:Calls Tryz.prog 39 #[.agg cF,.agg cP,.slice aa A.length ac,.slice ba B.length bc] z fun e w'=>e=.returned (.bool I)∧Below z.heap.size z w'))
  clear er1 er2
  go_upto_region 6 with fail
  have HGF1:=hid ((BZ.out.block _ (by omega)).trans HGF.out)
  have HGP1:=hid ((BZ.out.block _ (by omega)).trans HGP.out)
  refine wp_region_mix (.one [0,1,3,5,6,7,8] 2 (.one [] 4 (.one [] 9 (tailOf [10,11,12])))) (fun j=>decide (10≤j)) (by kernel_rfl) (by kernel_rfl) rfl (by kernel_rfl) (fun _ d _ _ _ h=>by cases d <;> exact h) ?_
  have HBd:Hid (Below z1.heap.size z1 z1.drew):=(Below.refl _ _).drew
  generalize z1.drew=wn at *
  have HBn:=hid (bcomp HB1.out HBd.out)
  refine mix_one (by simp only[opsOf,List.filterMap_cons,List.filterMap_nil,List.getElem?_toArray,List.getElem?_cons_succ,List.getElem?_cons_zero];rfl) ⟨_,ext_of HBd.out⟩ ?_
  change wpQuiet _ _ _ _ [_,_,_,_,_,_,_] _
  go_big_quiet_step (fail)
  go_big_quiet_step (fail)
  go_big_quiet_step (fail)
  go_big_quiet_want
  refine quiet_load_row 26 (.tmp 5) rfl w.heap.size rfl 26 cF (0,0) _ (ext_rowR HGF1.out) Tryz.underlying26 rfl HFI.out ?_
  simp only[Act.put,List.setIfInBounds_toArray,List.set_cons_succ,List.set_cons_zero,List.getElem_toArray,List.getElem_cons_succ,List.getElem_cons_zero]
  go_big_quiet_on
  go_big_quiet_want
  refine quiet_load_row 30 (.tmp 6) rfl (w.heap.size+1) rfl 30 cP (0,0) _ (ext_rowR HGP1.out) Tryz.underlying30 rfl HPI.out ?_
  simp only[Act.put,List.setIfInBounds_toArray,List.set_cons_succ,List.set_cons_zero,List.getElem_toArray,List.getElem_cons_succ,List.getElem_cons_zero]
  go_big_quiet_on
  (repeat (go_big_quiet_step (fail)))
  refine wpQuiet_nil ?_
  refine mix_step rfl ?_
  go_wp2_with (go_at_call 36;refine (copyLists _ _ _ (HA.out.keep HBn.out)).mono ?_;rintro e w4 ⟨v,rfl,r4,b4⟩)
  obtain⟨xa,xc,rfl⟩:=r4.is
  have R4:=hid r4
  have HE4:=hid (bcomp HBd.out b4)
  have HB4:=hid (bcomp HBn.out b4)
  clear r4 b4
  (first|refine⟨fun _=>⟨_,ext_of HE4.out⟩,?_⟩|refine⟨⟨_,ext_of HE4.out⟩,?_⟩)
  refine mix_now ?_
  refine mix_step rfl ?_
  go_wp2_with (go_at_call 36;refine (copyLists _ _ _ (HB.out.keep HB4.out)).mono ?_;rintro e w5 ⟨v,rfl,r5,b5⟩)
  obtain⟨ya,yc,rfl⟩:=r5.is
  have R5:=hid r5
  have R45:=hid (R4.out.keep b5)
  have hs45:=b5.size
  have hs4:=HB4.out.size
  have HE5:=hid (bcomp HE4.out b5)
  have HB5:=hid (bcomp HB4.out b5)
  clear r5 b5
  (first|refine⟨fun _=>⟨_,ext_of HE5.out⟩,?_⟩|refine⟨⟨_,ext_of HE5.out⟩,?_⟩)
  refine mix_now ?_
  refine mix_step rfl ?_
  go_wp2_with (go_at_call 39;refine (HC.out _ HB5.out).mono ?_;rintro e w6 ⟨rfl,b6⟩)
  have R46:=hid ((R45.out.keep b6).up (show w.heap.size+3≤_ by have:=HBn.out.size;have:=HBd.out.size;have:=BZ.out.size;omega))
  have R56:=hid ((R5.out.keep b6).up (show w.heap.size+3≤_ by have:=HE4.out.size;have:=BZ.out.size;omega))
  have HE6:=hid (bcomp HE5.out b6)
  have HB6:=hid (bcomp HB5.out b6)
  clear b6
  (first|refine⟨fun _=>⟨_,ext_of HE6.out⟩,?_⟩|refine⟨⟨_,ext_of HE6.out⟩,?_⟩)
  refine mix_tail [10,11,12] [_,_,_] _ _ rfl rfl ?_
  have HG6:=hid ((HE6.out.block _ (gsWRf HGZ.out)).trans HGZ.out)
  go_wp2_with (refine wpList_store_row rfl 43 (.tmp 10) (.tmp 40) rfl (w.heap.size+1+1) #[.int .i64 level,.slice xa A.length xc,.slice ya B.length yc,.bool I] rfl rfl 43 #[.int .i64 0,.slice none 0 0,.slice none 0 0,.bool false] ?hsw (by as_aux_lemma=>kernel_rfl) (by as_aux_lemma=>kernel_rfl) (by as_aux_lemma=>kernel_rfl) ?_;exact HG6.out)
  have h61:=(R46.out.setRow (x:=w.heap.size+1+1) (m:=0) (by omega) (by omega) #[.int .i64 level,.slice xa A.length xc,.slice ya B.length yc,.bool I]).forget
  have h62:=(R56.out.setRow (x:=w.heap.size+1+1) (m:=0) (by omega) (by omega) #[.int .i64 level,.slice xa A.length xc,.slice ya B.length yc,.bool I]).forget
  refine bodyPost_ret (v:=.tuple #[.agg #[.int .i64 level,.slice xa A.length xc,.slice ya B.length yc,.bool I],.int .i64 0]) ?_ rfl ⟨_,rfl,fun h=>absurd rfl h,fun _=>⟨_,_,rfl,h61,h62⟩,below_row HB6.out (by omega) _⟩
  try simp only[Act.put]
  exact results_cell_two (P:=Tryz.prog) (fn:=Tryz.f20) rfl _ _ (w.heap.size+1+1) 43 #[.int .i64 level,.slice xa A.length xc,.slice ya B.length yc,.bool I] (0,0) _ rfl (setRow_heap _ _ _ _ _ _ HG6.out) Tryz.underlying43 rfl (by kernel_rfl)
end Go.Proofs.YtkjkpddajjmloaaGreatDoor
