/- The kit's copy of a policy, once more: its rows of bindings lie in blocks of their own. Condition: what comes in reads as the plain data. -/
import Derived.Test.YtgllkgedjplpdaaDoorRuP
import Derived.Test.YtgllkgedjplpdaaDoorFlG
set_option linter.all false
set_option maxRecDepth 1000000
set_option maxHeartbeats 12800000
set_option linter.unusedVariables false
set_option linter.unusedSimpArgs false
namespace Go.Proofs.YtgllkgedjplpdaaDoor
open Go.ChangeShapes Go.WideShapes Go.ChangeAt Go.RowKit
theorem own_sameO {w w':World} {base:Nat} {e:TypeId} {size:Nat} {v:Value} {n:Nat} {xs:List Value} (h:w.ownsRow base e size v n xs) (hb:∀ b,v.ownBlock=some b→w'.heap[b]?=w.heap[b]?):w'.ownsRow base e size v n xs:=by
 obtain ⟨hl,h|⟨g,cap,cur,rfl,hg,hc,hr⟩⟩:=h
 ·exact ⟨hl,.inl h⟩
 ·exact ⟨hl,.inr ⟨g,cap,cur,rfl,hg,(hb g (by simp [Value.ownBlock])).trans hc,hr⟩⟩
theorem copyPolO (q:PolD) (lv ov cv sv:Value) (w:World) (h:RdPol none w q lv ov cv sv) :
  Calls Tryd.prog 22 #[polV q lv ov cv sv] w fun e w'=>∃ lv ov cv sv,e=.returned (polV q lv ov cv sv)∧RdRow kStr (some (upFrom w.heap.size)) w' lv q.levels∧RdRow kPair (some (upFrom w.heap.size)) w' ov q.order∧w'.ownsRow w.heap.size 58 2 cv q.chans.length (q.chans.flatMap cellsBind)∧w'.ownsRow w.heap.size 58 2 sv q.sites.length (q.sites.flatMap cellsBind)∧(∀ i,cv.ownBlock=some i→sv.ownBlock ≠ some i)∧Below w.heap.size w w':=by
 obtain ⟨la,lc,rfl⟩:=h.1.is
 obtain ⟨oa,oc,rfl⟩:=h.2.1.is
 obtain ⟨ca,cc,rfl⟩:=h.2.2.1.is
 obtain ⟨sa,sc,rfl⟩:=h.2.2.2.1.is
 have hrest:=Lib.hid h.2.2.2.2
 have hal:=((Below.refl w.heap.size w).alloc (Nat.le_refl _) (.cells #[.slice la q.levels.length lc,.slice oa q.order.length oc,.slice ca q.chans.length cc,.slice sa q.sites.length sc,.bool q.sens,.int .i64 q.steps,.int .i64 q.paths,.int .i64 q.nodes,.int .i64 q.confs] 30)).alloc (by simp) (.cells #[.slice none 0 0,.slice none 0 0,.slice none 0 0,.slice none 0 0,.bool false,.int .i64 0,.int .i64 0,.int .i64 0,.int .i64 0] 30)
 have hbb:=heap2_of (w:=w) (A:=.cells #[.slice la q.levels.length lc,.slice oa q.order.length oc,.slice ca q.chans.length cc,.slice sa q.sites.length sc,.bool q.sens,.int .i64 q.steps,.int .i64 q.paths,.int .i64 q.nodes,.int .i64 q.confs] 30) (B:=.cells #[.slice none 0 0,.slice none 0 0,.slice none 0 0,.slice none 0 0,.bool false,.int .i64 0,.int .i64 0,.int .i64 0,.int .i64 0] 30) (Below.refl _ _)
 have HO:=Lib.hid h.1
 have HR:=Lib.hid h.2.1
 have HB:=Lib.hid h.2.2.1
 have HD:=Lib.hid h.2.2.2.1
 have HG1:=Lib.hid hbb.1
 have HG0:=Lib.hid hbb.2.1
 have HW:=Lib.hid hal
 clear h hal hbb
 go_enter Tryd.func22,Tryd.ntmps22
 go_upto_region 1 with fail
 generalize ((w.alloc (.cells #[.slice la q.levels.length lc,.slice oa q.order.length oc,.slice ca q.chans.length cc,.slice sa q.sites.length sc,.bool q.sens,.int .i64 q.steps,.int .i64 q.paths,.int .i64 q.nodes,.int .i64 q.confs] 30)).alloc (.cells #[.slice none 0 0,.slice none 0 0,.slice none 0 0,.slice none 0 0,.bool false,.int .i64 0,.int .i64 0,.int .i64 0,.int .i64 0] 30))=W at *
 refine wp_region_mix (.one [0,1,3,4,6,7,9,10] 2 (.one [12] 5 (.one [] 8 (.one [] 11 (tailOf [13,14,15,16,17,18,19]))))) (fun j=>decide (13≤j)) (by kernel_rfl) (by kernel_rfl) rfl (by kernel_rfl) (fun _ d _ _ _ h=>by cases d <;> exact h) ?_
 have HBd:Hid (Below W.heap.size W W.drew):=(Below.refl _ _).drew
 have b1:Below w.heap.size w W.drew:=HW.out.drew
 generalize W.drew=wn at *
 have l2:=ext_cell (row_of HG1.out 0 (.slice la q.levels.length lc) rfl)
 have l3:=ext_cell (row_of HG1.out 1 (.slice oa q.order.length oc) rfl)
 have l4:=ext_cell (row_of HG1.out 2 (.slice ca q.chans.length cc) rfl)
 have l5:=ext_cell (row_of HG1.out 3 (.slice sa q.sites.length sc) rfl)
 refine mix_one (by simp only [opsOf,List.filterMap_cons,List.filterMap_nil,List.getElem?_toArray,List.getElem?_cons_succ,List.getElem?_cons_zero];rfl) ⟨_,ext_of HBd.out⟩ ?_
 change wpQuiet _ _ _ _ [_,_,_,_,_,_,_,_] _
 (repeat (go_big_quiet_step (fail)))
 refine wpQuiet_nil ?_
 clear l2 l3 l4 l5
 have R1:=HO.out.keep b1
 refine mix_step rfl ?_
 go_wp2_with (go_at_call 35;refine (copyStr _ _ _ R1).mono ?_;rintro e w2 ⟨v,rfl,_,r2,b2⟩)
 obtain ⟨xa2,xc2,rfl⟩:=r2.is
 have B2:=bcomp HBd.out b2
 have k2:=bcomp b1 b2
 have R2:=HR.out.keep k2
 refine ⟨fun _=>⟨_,ext_of B2⟩,?_⟩
 refine mix_one (by simp only [opsOf,List.filterMap_cons,List.filterMap_nil,List.getElem?_toArray,List.getElem?_cons_succ,List.getElem?_cons_zero];rfl) ⟨_,ext_of B2⟩ ?_
 change wpQuiet _ _ _ _ [_] _
 (repeat (go_big_quiet_step (fail)))
 refine wpQuiet_nil ?_
 refine mix_step rfl ?_
 go_wp2_with (go_at_call 50;refine (copyPair _ _ _ R2).mono ?_;rintro e w3 ⟨v,rfl,_,r3,b3⟩)
 obtain ⟨xa3,xc3,rfl⟩:=r3.is
 have B3:=bcomp B2 b3
 have k3:=bcomp k2 b3
 have R3:=HB.out.keep k3
 refine ⟨fun _=>⟨_,ext_of B3⟩,?_⟩
 refine mix_now ?_
 refine mix_step rfl ?_
 go_wp2_with (go_at_call 51;refine (copyBind _ _ _ R3).mono ?_;rintro e w4 ⟨v,rfl,o4,r4,b4⟩)
 obtain ⟨xa4,xc4,rfl⟩:=r4.is
 have B4:=bcomp B3 b4
 have k4:=bcomp k3 b4
 have R4:=HD.out.keep k4
 refine ⟨fun _=>⟨_,ext_of B4⟩,?_⟩
 refine mix_now ?_
 refine mix_step rfl ?_
 go_wp2_with (go_at_call 51;refine (copyBind _ _ _ R4).mono ?_;rintro e w5 ⟨v,rfl,o5,r5,b5⟩)
 obtain ⟨xa5,xc5,rfl⟩:=r5.is
 have B5:=bcomp B4 b5
 have k5:=bcomp k4 b5
 refine ⟨fun _=>⟨_,ext_of B5⟩,?_⟩
 refine mix_tail [13,14,15,16,17,18,19] [_,_,_,_,_,_,_] _ _ rfl rfl ?_
 have hszW:w.heap.size+1<W.heap.size:=(Array.getElem?_eq_some_iff.1 HG0.out).1
 have hszn:w.heap.size+1<wn.heap.size:=by have:=HBd.out.size;omega
 have hsz5:w.heap.size+1<w5.heap.size:=by have:=B5.size;omega
 have G5:=(B5.block _ (by omega:w.heap.size<W.heap.size)).trans HG1.out
 have Z5:=(B5.block _ hszW).trans HG0.out
 have HR5:Hid (RdPol (some (upFrom (w.heap.size+2))) w5 q (.slice xa2 q.levels.length xc2) (.slice xa3 q.order.length xc3) (.slice xa4 q.chans.length xc4) (.slice xa5 q.sites.length xc5)):=
  ⟨(r2.keep (bcomp b3 (bcomp b4 b5))).up (by omega),(r3.keep (bcomp b4 b5)).up (by have:=b2.size;omega),(r4.keep b5).up (by have:=b2.size;have:=b3.size;omega),r5.up (by have:=b2.size;have:=b3.size;have:=b4.size;omega),hrest.out⟩
 have HO4:=Lib.hid (own_upF (own_below o4 b5) (base':=w.heap.size+2) (by have:=b2.size;have:=b3.size;omega))
 have HO5:=Lib.hid (own_upF o5 (base':=w.heap.size+2) (by have:=b2.size;have:=b3.size;have:=b4.size;omega))
 have HAP:Hid (∀ i,(Value.slice xa4 q.chans.length xc4).ownBlock=some i→(Value.slice xa5 q.sites.length xc5).ownBlock ≠ some i):=fun i hi hj=>by
  obtain ⟨_,cur,hc⟩:=own_is o4 hi
  have h1:=(Array.getElem?_eq_some_iff.1 hc).1
  have h2:=(own_is o5 hj).1
  omega
 have HB5:=Lib.hid k5
 have x2:=row_of G5 0 (.slice la q.levels.length lc) rfl
 have f2:=frozen_of_row w5 w.heap.size 0 _ _ G5
 have x3:=row_of G5 1 (.slice oa q.order.length oc) rfl
 have f3:=frozen_of_row w5 w.heap.size 1 _ _ G5
 have x4:=row_of G5 2 (.slice ca q.chans.length cc) rfl
 have f4:=frozen_of_row w5 w.heap.size 2 _ _ G5
 have x5:=row_of G5 3 (.slice sa q.sites.length sc) rfl
 have f5:=frozen_of_row w5 w.heap.size 3 _ _ G5
 have HG6:Hid (((((w5.setCell ⟨w.heap.size,0,none⟩ (.slice xa2 q.levels.length xc2)).setCell ⟨w.heap.size,1,none⟩ (.slice xa3 q.order.length xc3)).setCell ⟨w.heap.size,2,none⟩ (.slice xa4 q.chans.length xc4)).setCell ⟨w.heap.size,3,none⟩ (.slice xa5 q.sites.length xc5)).heap[w.heap.size]?=some (.cells #[.slice xa2 q.levels.length xc2,.slice xa3 q.order.length xc3,.slice xa4 q.chans.length xc4,.slice xa5 q.sites.length xc5,.bool q.sens,.int .i64 q.steps,.int .i64 q.paths,.int .i64 q.nodes,.int .i64 q.confs] 30 (0,0))):=by
  show _=_
  rw [heap_setCell_same _ _ _ _ _ _ (heap_setCell_same _ _ _ _ _ _ (heap_setCell_same _ _ _ _ _ _ (heap_setCell_same _ _ _ _ _ _ G5)))]
  rfl
 have hoth:∀ b,b ≠ w.heap.size→((((w5.setCell ⟨w.heap.size,0,none⟩ (.slice xa2 q.levels.length xc2)).setCell ⟨w.heap.size,1,none⟩ (.slice xa3 q.order.length xc3)).setCell ⟨w.heap.size,2,none⟩ (.slice xa4 q.chans.length xc4)).setCell ⟨w.heap.size,3,none⟩ (.slice xa5 q.sites.length xc5)).heap[b]?=w5.heap[b]?:=fun b hb=>by
  rw [heap_setCell_other _ _ _ _ (by simpa using hb),heap_setCell_other _ _ _ _ (by simpa using hb),heap_setCell_other _ _ _ _ (by simpa using hb),heap_setCell_other _ _ _ _ (by simpa using hb)]
 have HZ6:=Lib.hid ((hoth (w.heap.size+1) (by omega)).trans Z5)
 have HR6:Hid (RdPol (some (upFrom (w.heap.size+2))) ((((w5.setCell ⟨w.heap.size,0,none⟩ (.slice xa2 q.levels.length xc2)).setCell ⟨w.heap.size,1,none⟩ (.slice xa3 q.order.length xc3)).setCell ⟨w.heap.size,2,none⟩ (.slice xa4 q.chans.length xc4)).setCell ⟨w.heap.size,3,none⟩ (.slice xa5 q.sites.length xc5)) q (.slice xa2 q.levels.length xc2) (.slice xa3 q.order.length xc3) (.slice xa4 q.chans.length xc4) (.slice xa5 q.sites.length xc5)):=HR5.out.same (fun b hb _=>hoth b (by have:w.heap.size+2≤b:=hb;omega)) (fun _ _ k=>k)
 have HP4:Hid (((((w5.setCell ⟨w.heap.size,0,none⟩ (.slice xa2 q.levels.length xc2)).setCell ⟨w.heap.size,1,none⟩ (.slice xa3 q.order.length xc3)).setCell ⟨w.heap.size,2,none⟩ (.slice xa4 q.chans.length xc4)).setCell ⟨w.heap.size,3,none⟩ (.slice xa5 q.sites.length xc5)).ownsRow (w.heap.size+2) 58 2 (.slice xa4 q.chans.length xc4) q.chans.length (q.chans.flatMap cellsBind)):=own_sameO HO4.out fun b hb=>hoth b (by have:=(own_is HO4.out hb).1;omega)
 have HP5:Hid (((((w5.setCell ⟨w.heap.size,0,none⟩ (.slice xa2 q.levels.length xc2)).setCell ⟨w.heap.size,1,none⟩ (.slice xa3 q.order.length xc3)).setCell ⟨w.heap.size,2,none⟩ (.slice xa4 q.chans.length xc4)).setCell ⟨w.heap.size,3,none⟩ (.slice xa5 q.sites.length xc5)).ownsRow (w.heap.size+2) 58 2 (.slice xa5 q.sites.length xc5) q.sites.length (q.sites.flatMap cellsBind)):=own_sameO HO5.out fun b hb=>hoth b (by have:=(own_is HO5.out hb).1;omega)
 have HB6:Hid (Below w.heap.size w ((((w5.setCell ⟨w.heap.size,0,none⟩ (.slice xa2 q.levels.length xc2)).setCell ⟨w.heap.size,1,none⟩ (.slice xa3 q.order.length xc3)).setCell ⟨w.heap.size,2,none⟩ (.slice xa4 q.chans.length xc4)).setCell ⟨w.heap.size,3,none⟩ (.slice xa5 q.sites.length xc5))):=(((HB5.out.setCell (by simp) _).setCell (by simp) _).setCell (by simp) _).setCell (by simp) _
 clear o4 o5 HO4 HO5 r2 r3 r4 r5 b1 b2 b3 b4 b5 B2 B3 B4 B5 k2 k3 k4 k5 R1 R2 R3 R4 G5 Z5 hoth HR5
 go_upto_region 2 with fail
 clear x2 x3 x4 x5 f2 f3 f4 f5
 generalize ((((w5.setCell ⟨w.heap.size,0,none⟩ (.slice xa2 q.levels.length xc2)).setCell ⟨w.heap.size,1,none⟩ (.slice xa3 q.order.length xc3)).setCell ⟨w.heap.size,2,none⟩ (.slice xa4 q.chans.length xc4)).setCell ⟨w.heap.size,3,none⟩ (.slice xa5 q.sites.length xc5))=W6 at *
 have y0:=row_of HG6.out 0 (.slice xa2 q.levels.length xc2) rfl
 have y1:=row_of HG6.out 1 (.slice xa3 q.order.length xc3) rfl
 have y2:=row_of HG6.out 2 (.slice xa4 q.chans.length xc4) rfl
 have y3:=row_of HG6.out 3 (.slice xa5 q.sites.length xc5) rfl
 have y4:=row_of HG6.out 4 (.bool q.sens) rfl
 have y5:=row_of HG6.out 5 (.int .i64 q.steps) rfl
 have y6:=row_of HG6.out 6 (.int .i64 q.paths) rfl
 have y7:=row_of HG6.out 7 (.int .i64 q.nodes) rfl
 have y8:=row_of HG6.out 8 (.int .i64 q.confs) rfl
 go_wp2_with (refine wpList_store_row rfl 30 (.tmp 2) (.tmp 19) rfl (w.heap.size+1) #[.slice xa2 q.levels.length xc2,.slice xa3 q.order.length xc3,.slice xa4 q.chans.length xc4,.slice xa5 q.sites.length xc5,.bool q.sens,.int .i64 q.steps,.int .i64 q.paths,.int .i64 q.nodes,.int .i64 q.confs] rfl rfl 30 #[.slice none 0 0,.slice none 0 0,.slice none 0 0,.slice none 0 0,.bool false,.int .i64 0,.int .i64 0,.int .i64 0,.int .i64 0] ?hs (by as_aux_lemma=>kernel_rfl) (by as_aux_lemma=>kernel_rfl) (by as_aux_lemma=>kernel_rfl) ?_;exact HZ6.out)
 refine bodyPost_ret (v:=.agg #[.slice xa2 q.levels.length xc2,.slice xa3 q.order.length xc3,.slice xa4 q.chans.length xc4,.slice xa5 q.sites.length xc5,.bool q.sens,.int .i64 q.steps,.int .i64 q.paths,.int .i64 q.nodes,.int .i64 q.confs]) ?_ rfl ⟨_,_,_,_,rfl,(HR6.out.setRow (by omega) (by omega) _).1,(HR6.out.setRow (by omega) (by omega) _).2.1,own_upF (own_sameO HP4.out fun b hb=>setRow_other _ _ _ _ (by have:=(own_is HP4.out hb).1;omega)) (by omega),own_upF (own_sameO HP5.out fun b hb=>setRow_other _ _ _ _ (by have:=(own_is HP5.out hb).1;omega)) (by omega),HAP.out,below_row HB6.out (by omega) _⟩
 exact results_cell_row (P:=Tryd.prog) (fn:=Tryd.f22) rfl _ _ (w.heap.size+1) 30 #[.slice xa2 q.levels.length xc2,.slice xa3 q.order.length xc3,.slice xa4 q.chans.length xc4,.slice xa5 q.sites.length xc5,.bool q.sens,.int .i64 q.steps,.int .i64 q.paths,.int .i64 q.nodes,.int .i64 q.confs] (0,0) _ rfl (setRow_heap _ _ _ _ _ _ HZ6.out) Tryd.underlying30 rfl (by as_aux_lemma=>kernel_rfl)
end Go.Proofs.YtgllkgedjplpdaaDoor
