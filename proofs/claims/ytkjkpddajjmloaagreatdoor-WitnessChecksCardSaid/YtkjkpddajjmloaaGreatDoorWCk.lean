/- The walk of WitnessChecks. Condition: what comes in reads as the plain data; the tables hold what they are laid with. -/
import Derived.Test.YtkjkpddajjmloaaGreatDoorWRf
import Derived.Test.YtkjkpddajjmloaaGreatDoorAWw
set_option linter.all false
set_option maxRecDepth 1000000
set_option maxHeartbeats 6400000
namespace Go.Proofs.YtkjkpddajjmloaaGreatDoor
open Go.ChangeShapes Go.WideShapes Go.ChangeAt Go.RowKit
open Go.Lib (hid)
theorem gsWCk {α:Type} {a:Array α} {i:Nat} {v:α} (h:a[i]?=some v):i<a.size:=(Array.getElem?_eq_some_iff.1 h).1
theorem WitC.info {w:World} {l:Int} {A B:List (List Int)} {i:Bool} {c:Array Value} (h:WitC w l A B i c):(Tryz.prog.info? 43).map (·.size)=some c.size:=by
 obtain⟨va,vb,rfl,-⟩:=h
 kernel_rfl
theorem checks_walk (f:FlatD) (cF:Array Value) (q:PolD) (cP:Array Value) (d:Int × List (List Int) × List (List Int) × Bool) (cW:Array Value) (w:World) (hF:FlatC w f cF) (hP:PolC w q cP) (hW:WitX w d cW) (hL:Laid w) (hT:BitsAt w) :
  Calls Tryz.prog 4 #[.agg cF,.agg cP,.agg cW] w fun e w'=>e=.returned (.bool true)∧Below w.heap.size w w':=by
 obtain⟨level,A,B,i⟩:=d
 obtain⟨hWC,hlv⟩:=hW
 replace hWC:WitC w level A B i cW:=hWC
 replace hlv:InI64 level:=hlv
 have HWI:=hid hWC.info
 have HFI:=hid hF.info
 have HPI:=hid hP.info
 obtain⟨av,bv,rfl,ha,hb⟩:=hWC
 obtain⟨aa,ac,rfl⟩:=ha.is
 obtain⟨ba,bc,rfl⟩:=hb.is
 obtain⟨fcv,fsv,fav,fkv,rfl,hf⟩:=hF
 obtain⟨fca,fcc,rfl⟩:=hf.1.is
 obtain⟨fsa,fsc,rfl⟩:=hf.2.1.is
 obtain⟨faa,fac,rfl⟩:=hf.2.2.1.is
 obtain⟨fka,fkc,rfl⟩:=hf.2.2.2.1.is
 have hF:FlatC w f #[.int .i64 f.width,.int .i64 f.regs,.slice fca f.chans.length fcc,.slice fsa f.sites.length fsc,.slice faa f.arrays.length fac,.slice fka f.code.length fkc]:=⟨_,_,_,_,rfl,hf⟩
 obtain⟨plv,pov,pcv,psv,rfl,hp⟩:=hP
 obtain⟨la,lc,rfl⟩:=hp.1.is
 obtain⟨oa,oc,rfl⟩:=hp.2.1.is
 obtain⟨ca,cc,rfl⟩:=hp.2.2.1.is
 obtain⟨sa,sc,rfl⟩:=hp.2.2.2.1.is
 have hP:PolC w q #[.slice la q.levels.length lc,.slice oa q.order.length oc,.slice ca q.chans.length cc,.slice sa q.sites.length sc,.bool q.sens,.int .i64 q.steps,.int .i64 q.paths,.int .i64 q.nodes,.int .i64 q.confs]:=⟨_,_,_,_,rfl,hp⟩
 clear hf hp
 have HF:=hid hF
 have HP:=hid hP
 have HA:=hid ha
 have HBB:=hid hb
 have HL:=hid hL
 have HT:=hid hT
 have HLV:=hid hlv
 clear hF hP ha hb hL hT hlv
 have hal:=((((Below.refl w.heap.size w).alloc (Nat.le_refl _) (.cells #[.int .i64 f.width,.int .i64 f.regs,.slice fca f.chans.length fcc,.slice fsa f.sites.length fsc,.slice faa f.arrays.length fac,.slice fka f.code.length fkc] 26)).alloc (by simp) (.cells #[.slice la q.levels.length lc,.slice oa q.order.length oc,.slice ca q.chans.length cc,.slice sa q.sites.length sc,.bool q.sens,.int .i64 q.steps,.int .i64 q.paths,.int .i64 q.nodes,.int .i64 q.confs] 30))).alloc (by simp;omega) (.cells #[.int .i64 level,.slice aa A.length ac,.slice ba B.length bc,.bool i] 43)
 have hx:=heap2_of (w:=w) (A:=.cells #[.int .i64 f.width,.int .i64 f.regs,.slice fca f.chans.length fcc,.slice fsa f.sites.length fsc,.slice faa f.arrays.length fac,.slice fka f.code.length fkc] 26 (0,0)) (B:=.cells #[.slice la q.levels.length lc,.slice oa q.order.length oc,.slice ca q.chans.length cc,.slice sa q.sites.length sc,.bool q.sens,.int .i64 q.steps,.int .i64 q.paths,.int .i64 q.nodes,.int .i64 q.confs] 30 (0,0)) ((Below.refl ((w.alloc (.cells #[.int .i64 f.width,.int .i64 f.regs,.slice fca f.chans.length fcc,.slice fsa f.sites.length fsc,.slice faa f.arrays.length fac,.slice fka f.code.length fkc] 26)).alloc (.cells #[.slice la q.levels.length lc,.slice oa q.order.length oc,.slice ca q.chans.length cc,.slice sa q.sites.length sc,.bool q.sens,.int .i64 q.steps,.int .i64 q.paths,.int .i64 q.nodes,.int .i64 q.confs] 30)).heap.size ((w.alloc (.cells #[.int .i64 f.width,.int .i64 f.regs,.slice fca f.chans.length fcc,.slice fsa f.sites.length fsc,.slice faa f.arrays.length fac,.slice fka f.code.length fkc] 26)).alloc (.cells #[.slice la q.levels.length lc,.slice oa q.order.length oc,.slice ca q.chans.length cc,.slice sa q.sites.length sc,.bool q.sens,.int .i64 q.steps,.int .i64 q.paths,.int .i64 q.nodes,.int .i64 q.confs] 30))).alloc (Nat.le_refl _) (.cells #[.int .i64 level,.slice aa A.length ac,.slice ba B.length bc,.bool i] 43))
 have hw3:(((w.alloc (.cells #[.int .i64 f.width,.int .i64 f.regs,.slice fca f.chans.length fcc,.slice fsa f.sites.length fsc,.slice faa f.arrays.length fac,.slice fka f.code.length fkc] 26)).alloc (.cells #[.slice la q.levels.length lc,.slice oa q.order.length oc,.slice ca q.chans.length cc,.slice sa q.sites.length sc,.bool q.sens,.int .i64 q.steps,.int .i64 q.paths,.int .i64 q.nodes,.int .i64 q.confs] 30)).alloc (.cells #[.int .i64 level,.slice aa A.length ac,.slice ba B.length bc,.bool i] 43)).heap[w.heap.size+1+1]?=some (.cells #[.int .i64 level,.slice aa A.length ac,.slice ba B.length bc,.bool i] 43 (0,0)):=by
  have:=heap_alloc_new ((w.alloc (.cells #[.int .i64 f.width,.int .i64 f.regs,.slice fca f.chans.length fcc,.slice fsa f.sites.length fsc,.slice faa f.arrays.length fac,.slice fka f.code.length fkc] 26)).alloc (.cells #[.slice la q.levels.length lc,.slice oa q.order.length oc,.slice ca q.chans.length cc,.slice sa q.sites.length sc,.bool q.sens,.int .i64 q.steps,.int .i64 q.paths,.int .i64 q.nodes,.int .i64 q.confs] 30)) (.cells #[.int .i64 level,.slice aa A.length ac,.slice ba B.length bc,.bool i] 43)
  simpa using this
 have B0:=hid hal
 have HG0:=hid hx.1
 have HG1:=hid hx.2.1
 have HG2:=hid hw3
 clear hal hx hw3
 go_enter Tryz.func4,Tryz.ntmps4
 go_upto_region 1 with fail
 generalize ((w.alloc (.cells #[.int .i64 f.width,.int .i64 f.regs,.slice fca f.chans.length fcc,.slice fsa f.sites.length fsc,.slice faa f.arrays.length fac,.slice fka f.code.length fkc] 26)).alloc (.cells #[.slice la q.levels.length lc,.slice oa q.order.length oc,.slice ca q.chans.length cc,.slice sa q.sites.length sc,.bool q.sens,.int .i64 q.steps,.int .i64 q.paths,.int .i64 q.nodes,.int .i64 q.confs] 30)).alloc (.cells #[.int .i64 level,.slice aa A.length ac,.slice ba B.length bc,.bool i] 43)=W at *
 have hsz:w.heap.size+1+1<W.heap.size:=(gsWCk HG2.out)
 have hal2:=(Below.refl W.heap.size W).alloc (Nat.le_refl _) (.cells #[.slice aa A.length ac,.slice ba B.length bc] 35)
 have hb2:=bcomp B0.out hal2
 have HFN:=hid (fine7_any f q #[.int .i64 f.width,.int .i64 f.regs,.slice fca f.chans.length fcc,.slice fsa f.sites.length fsc,.slice faa f.arrays.length fac,.slice fka f.code.length fkc] #[.slice la q.levels.length lc,.slice oa q.order.length oc,.slice ca q.chans.length cc,.slice sa q.sites.length sc,.bool q.sens,.int .i64 q.steps,.int .i64 q.paths,.int .i64 q.nodes,.int .i64 q.confs] _ [A,B] _ (HF.out.keep hb2) (HP.out.keep hb2) (runs_two (heap_alloc_new W (.cells #[.slice aa A.length ac,.slice ba B.length bc] 35)) (HA.out.keep hb2) (HBB.out.keep hb2)) (by simp))
 have BX:=hid hal2
 have HAW:=hid (fun (z:World) (hz:Below W.heap.size W z)=>awake7_any z (HL.out.keep (bcomp B0.out hz)) (HT.out.keep (bcomp B0.out hz)))
 clear hal2 hb2
 have v1:=row_of HG2.out 1 (.slice aa A.length ac) rfl
 have v2:=row_of HG2.out 2 (.slice ba B.length bc) rfl
 by_cases hfi:fine7 f q [A,B]=true
 case neg=>
  rw[Bool.eq_false_iff.2 hfi] at HFN
  go_wp2_with (first|(refine wpList_load_row rfl 26 (.tmp 3) rfl w.heap.size rfl 26 #[.int .i64 f.width,.int .i64 f.regs,.slice fca f.chans.length fcc,.slice fsa f.sites.length fsc,.slice faa f.arrays.length fac,.slice fka f.code.length fkc] (0,0) _ ?l1 Tryz.underlying26 rfl ?i1 ?_;exact HG0.out;exact HFI.out)|(refine wpList_load_row rfl 30 (.tmp 4) rfl (w.heap.size+1) rfl 30 #[.slice la q.levels.length lc,.slice oa q.order.length oc,.slice ca q.chans.length cc,.slice sa q.sites.length sc,.bool q.sens,.int .i64 q.steps,.int .i64 q.paths,.int .i64 q.nodes,.int .i64 q.confs] (0,0) _ ?l2 Tryz.underlying30 rfl ?i2 ?_;exact HG1.out;exact HPI.out)|(go_at_call 13;refine HFN.out.mono ?_;rintro e z1 ⟨rfl,hz⟩;have B1:=hid (bcomp BX.out hz);clear hz)|(go_at_call 14;refine (HAW.out _ B1.out).mono ?_;rintro e x9 ⟨rfl,hz⟩;have B9:=hid (bcomp B0.out (bcomp B1.out hz));clear hz))
  go_ret
  exact⟨rfl,B9.out⟩
 rw[hfi] at HFN
 have hsA:=short_fits (fine7_short hfi (A:=A) (by simp))
 have hsB:=short_fits (fine7_short hfi (A:=B) (by simp))
 have HSA:=hid hsA
 have HSB:=hid hsB
 clear hfi hsA hsB
 go_upto_region 3 with (first|(refine wpList_load_row rfl 26 (.tmp 3) rfl w.heap.size rfl 26 #[.int .i64 f.width,.int .i64 f.regs,.slice fca f.chans.length fcc,.slice fsa f.sites.length fsc,.slice faa f.arrays.length fac,.slice fka f.code.length fkc] (0,0) _ ?l3 Tryz.underlying26 rfl ?i3 ?_;exact HG0.out;exact HFI.out)|(refine wpList_load_row rfl 30 (.tmp 4) rfl (w.heap.size+1) rfl 30 #[.slice la q.levels.length lc,.slice oa q.order.length oc,.slice ca q.chans.length cc,.slice sa q.sites.length sc,.bool q.sens,.int .i64 q.steps,.int .i64 q.paths,.int .i64 q.nodes,.int .i64 q.confs] (0,0) _ ?l4 Tryz.underlying30 rfl ?i4 ?_;exact HG1.out;exact HPI.out)|(go_at_call 13;refine HFN.out.mono ?_;rintro e z1 ⟨rfl,hz⟩;have B1:=hid (bcomp BX.out hz);clear hz))
 clear v1 v2 HFN BX
 have HG3:=hid ((B1.out.block _ hsz).trans HG2.out)
 have B01:=hid (bcomp B0.out B1.out)
 have HCW:=hid (copyWit level A B i #[.int .i64 level,.slice aa A.length ac,.slice ba B.length bc,.bool i] z1 ⟨_,_,rfl,HA.out.keep B01.out,HBB.out.keep B01.out⟩)
 go_upto_region 4 with (first|(refine wpList_load_row rfl 43 (.tmp 5) rfl (w.heap.size+1+1) rfl 43 #[.int .i64 level,.slice aa A.length ac,.slice ba B.length bc,.bool i] (0,0) _ ?l5 Tryz.underlying43 rfl ?i5 ?_;exact HG3.out;exact HWI.out)|(go_at_call 15;refine HCW.out.mono ?_;rintro e z2 ⟨va,vb,rfl,hra,hrb,hz⟩;obtain⟨xa,xc,rfl⟩:=hra.is;obtain⟨ya,yc,rfl⟩:=hrb.is;have HXA:=hid hra;have HXB:=hid hrb;have B2:=hid hz;have HZN:=hid (heap_alloc_new z2 (.cells #[.int .i64 0,.slice none 0 0,.slice none 0 0,.bool false] 43));clear hz hra hrb)|(refine wpList_store_row rfl 43 (.tmp 7) (.tmp 19) rfl z2.heap.size #[.int .i64 level,.slice xa A.length xc,.slice ya B.length yc,.bool i] rfl rfl 43 #[.int .i64 0,.slice none 0 0,.slice none 0 0,.bool false] ?hs1 (by as_aux_lemma=>kernel_rfl) (by as_aux_lemma=>kernel_rfl) (by as_aux_lemma=>kernel_rfl) ?_;exact HZN.out))
 clear HCW
 have hbn:Below z2.heap.size z2 ((z2.alloc (.cells #[.int .i64 0,.slice none 0 0,.slice none 0 0,.bool false] 43)).setRow z2.heap.size #[.int .i64 level,.slice xa A.length xc,.slice ya B.length yc,.bool i]):=below_row ((Below.refl z2.heap.size z2).alloc (Nat.le_refl _) (.cells #[.int .i64 0,.slice none 0 0,.slice none 0 0,.bool false] 43)) (Nat.le_refl _) #[.int .i64 level,.slice xa A.length xc,.slice ya B.length yc,.bool i]
 have HGC:Hid (((z2.alloc (.cells #[.int .i64 0,.slice none 0 0,.slice none 0 0,.bool false] 43)).setRow z2.heap.size #[.int .i64 level,.slice xa A.length xc,.slice ya B.length yc,.bool i]).heap[z2.heap.size]?=some (.cells #[.int .i64 level,.slice xa A.length xc,.slice ya B.length yc,.bool i] 43 (0,0))):=setRow_heap _ _ _ _ _ _ HZN.out
 have B12:=hid (bcomp B1.out (bcomp B2.out hbn))
 have HXA2:=hid (HXA.out.keep hbn)
 have HXB2:=hid (HXB.out.keep hbn)
 try simp only[Act.put]
 clear hbn HZN HXA HXB B2 HG3 B01
 generalize (z2.alloc (.cells #[.int .i64 0,.slice none 0 0,.slice none 0 0,.bool false] 43)).setRow z2.heap.size #[.int .i64 level,.slice xa A.length xc,.slice ya B.length yc,.bool i]=W3 at *
 generalize z2.heap.size=gc at *
 have B03:=hid (bcomp B0.out B12.out)
 have HG03:=hid ((B12.out.block _ (by omega)).trans HG0.out)
 have HG13:=hid ((B12.out.block _ (by omega)).trans HG1.out)
 have HG23:=hid ((B12.out.block _ hsz).trans HG2.out)
 have x0:=ext_cell (row_of HG03.out 0 (.int .i64 f.width) rfl)
 have x1:=ext_cell (row_of HG03.out 1 (.int .i64 f.regs) rfl)
 have x2:=ext_cell (row_of HG03.out 2 (.slice fca f.chans.length fcc) rfl)
 have x3:=ext_cell (row_of HG03.out 3 (.slice fsa f.sites.length fsc) rfl)
 have x4:=ext_cell (row_of HG03.out 4 (.slice faa f.arrays.length fac) rfl)
 have x5:=ext_cell (row_of HG03.out 5 (.slice fka f.code.length fkc) rfl)
 have y0:=ext_cell (row_of HG13.out 0 (.slice la q.levels.length lc) rfl)
 have y1:=ext_cell (row_of HG13.out 1 (.slice oa q.order.length oc) rfl)
 have y2:=ext_cell (row_of HG13.out 2 (.slice ca q.chans.length cc) rfl)
 have y3:=ext_cell (row_of HG13.out 3 (.slice sa q.sites.length sc) rfl)
 have y4:=ext_cell (row_of HG13.out 4 (.bool q.sens) rfl)
 have y5:=ext_cell (row_of HG13.out 5 (.int .i64 q.steps) rfl)
 have y6:=ext_cell (row_of HG13.out 6 (.int .i64 q.paths) rfl)
 have y7:=ext_cell (row_of HG13.out 7 (.int .i64 q.nodes) rfl)
 have y8:=ext_cell (row_of HG13.out 8 (.int .i64 q.confs) rfl)
 have v0:=ext_cell (row_of HG23.out 0 (.int .i64 level) rfl)
 have v1:=ext_cell (row_of HG23.out 1 (.slice aa A.length ac) rfl)
 have v2:=ext_cell (row_of HG23.out 2 (.slice ba B.length bc) rfl)
 have v3:=ext_cell (row_of HG23.out 3 (.bool i) rfl)
 have u0:=ext_cell (row_of HGC.out 0 (.int .i64 level) rfl)
 have u1:=ext_cell (row_of HGC.out 1 (.slice xa A.length xc) rfl)
 have u2:=ext_cell (row_of HGC.out 2 (.slice ya B.length yc) rfl)
 have u3:=ext_cell (row_of HGC.out 3 (.bool i) rfl)
 obtain⟨R,hR⟩:∃ R,checkE f q level A B i=R:=⟨_,rfl⟩
 have HK1:=(fun (x:World)=>check_any f q #[.int .i64 f.width,.int .i64 f.regs,.slice fca f.chans.length fcc,.slice fsa f.sites.length fsc,.slice faa f.arrays.length fac,.slice fka f.code.length fkc] #[.slice la q.levels.length lc,.slice oa q.order.length oc,.slice ca q.chans.length cc,.slice sa q.sites.length sc,.bool q.sens,.int .i64 q.steps,.int .i64 q.paths,.int .i64 q.nodes,.int .i64 q.confs] #[.int .i64 level,.slice xa A.length xc,.slice ya B.length yc,.bool i] level A B i (ext W3 x) (HF.out.keep (bcomp B03.out (ext_below W3 x))) (HP.out.keep (bcomp B03.out (ext_below W3 x))) ⟨_,_,rfl,HXA2.out.keep (ext_below W3 x),HXB2.out.keep (ext_below W3 x)⟩ (HL.out.keep (bcomp B03.out (ext_below W3 x))) (HT.out.keep (bcomp B03.out (ext_below W3 x))) HLV.out HSA.out HSB.out)
 have HK2:=(fun (x:World)=>refCheck37 f q #[.int .i64 f.width,.int .i64 f.regs,.slice fca f.chans.length fcc,.slice fsa f.sites.length fsc,.slice faa f.arrays.length fac,.slice fka f.code.length fkc] #[.slice la q.levels.length lc,.slice oa q.order.length oc,.slice ca q.chans.length cc,.slice sa q.sites.length sc,.bool q.sens,.int .i64 q.steps,.int .i64 q.paths,.int .i64 q.nodes,.int .i64 q.confs] #[.int .i64 level,.slice aa A.length ac,.slice ba B.length bc,.bool i] level A B i (ext W3 x) (HF.out.keep (bcomp B03.out (ext_below W3 x))) (HP.out.keep (bcomp B03.out (ext_below W3 x))) ⟨_,_,rfl,HA.out.keep (bcomp B03.out (ext_below W3 x)),HBB.out.keep (bcomp B03.out (ext_below W3 x))⟩ HLV.out HSA.out HSB.out)
 rw[hR] at HK1 HK2
 have HK1:=hid HK1
 have HK2:=hid HK2
 have HK3:=hid (fun (x:World)=>witSelf level A B i #[.int .i64 level,.slice xa A.length xc,.slice ya B.length yc,.bool i] #[.int .i64 level,.slice aa A.length ac,.slice ba B.length bc,.bool i] (ext W3 x) ⟨_,_,rfl,HXA2.out.keep (ext_below W3 x),HXB2.out.keep (ext_below W3 x)⟩ ⟨_,_,rfl,HA.out.keep (bcomp B03.out (ext_below W3 x)),HBB.out.keep (bcomp B03.out (ext_below W3 x))⟩)
 have HK4:=hid (fun (x:World)=>awake7_any (ext W3 x) (HL.out.keep (bcomp B03.out (ext_below W3 x))) (HT.out.keep (bcomp B03.out (ext_below W3 x))))
 clear hR HF HP HA HBB HL HT HLV HSA HSB HAW HXA2 HXB2 HG0 HG1 HG2 HG03 HG13 HG23 HGC
 have hrr:(R==R)=true:=by simp
 (refine wp_region_calm (by kernel_rfl) (by kernel_rfl) ?_;(repeat (go_big_quiet_step ((first|(go_at_call 16;with_reducible exact calls_calm (HK1.out _))|(go_at_call 17;with_reducible exact calls_calm (HK2.out _))|(go_at_call 18;with_reducible exact calls_calm (HK3.out _))|(go_at_call 14;with_reducible exact calls_calm (HK4.out _))))));refine wpQuiet_nil ?_;intro wc hwc)
 go_wp2_with fail
 go_ret
 exact⟨rfl,bcomp B03.out hwc⟩
end Go.Proofs.YtkjkpddajjmloaaGreatDoor
