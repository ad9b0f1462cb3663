/- Contracts of the kit's CopyFlat and of the law's Short: new flat programs. Condition: what comes in reads as the flat program. -/
import Derived.Test.YtkjkpddajjmloaaGreatDoorKOl
import Derived.Test.YtkjkpddajjmloaaGreatDoorPur
set_option linter.all false
set_option maxRecDepth 1000000
set_option maxHeartbeats 6400000
namespace Go.Proofs.YtkjkpddajjmloaaGreatDoor
open Go.ChangeShapes Go.WideShapes Go.ChangeAt Go.RowKit
open Go.Lib (hid)
theorem gsKMb {α:Type} {a:Array α} {i:Nat} {v:α} (h:a[i]?=some v):i<a.size:=(Array.getElem?_eq_some_iff.1 h).1
theorem RdFlat.same {g g':Nat→Prop} {w w':World} {f:FlatD} {a b c d:Value} (h:RdFlat (some g) w f a b c d) (k:∀ b,g b→b<w.heap.size→w'.heap[b]?=w.heap[b]?) (hg:∀ b,b<w.heap.size→g b→g' b):RdFlat (some g') w' f a b c d:=
 ⟨h.1.same k hg,h.2.1.same k hg,h.2.2.1.same k hg,h.2.2.2.1.same k hg,h.2.2.2.2⟩
theorem RdFlat.setRow {n m:Nat} {w:World} {f:FlatD} {a b c d:Value} (h:RdFlat (some (upFrom n)) w f a b c d) {x:Nat} (hx:x<n) (hm:m≤n) (cs:Array Value):RdFlat (some (upFrom m)) (w.setRow x cs) f a b c d:=
 h.same (fun b hb _=>setRow_other w x b cs (by have:n≤b:=hb;omega)) (fun b _ hb=>Nat.le_trans hm hb)
def FlatNew (f:FlatD) (w:World) (e:Ending) (w':World):Prop:=
 ∃ cv sv av kv,e=.returned (flatV f cv sv av kv)∧RdFlat (some (upFrom w.heap.size)) w' f cv sv av kv∧Below w.heap.size w w'
theorem copyFlat (f:FlatD) (cv sv av kv:Value) (w:World) (h:RdFlat none w f cv sv av kv) :
  Calls Tryz.prog 92 #[flatV f cv sv av kv] w (FlatNew f w):=by
 obtain⟨ca,cc,rfl⟩:=h.1.is
 obtain⟨sa,sc,rfl⟩:=h.2.1.is
 obtain⟨aa,ac,rfl⟩:=h.2.2.1.is
 obtain⟨ka,kc,rfl⟩:=h.2.2.2.1.is
 have hrest:=hid h.2.2.2.2
 have hal:=((Below.refl w.heap.size w).alloc (Nat.le_refl _) (.cells #[.int .i64 f.width,.int .i64 f.regs,.slice ca f.chans.length cc,.slice sa f.sites.length sc,.slice aa f.arrays.length ac,.slice ka f.code.length kc] 26)).alloc (by simp) (.cells #[.int .i64 0,.int .i64 0,.slice none 0 0,.slice none 0 0,.slice none 0 0,.slice none 0 0] 26)
 have hbb:=heap2_of (w:=w) (A:=.cells #[.int .i64 f.width,.int .i64 f.regs,.slice ca f.chans.length cc,.slice sa f.sites.length sc,.slice aa f.arrays.length ac,.slice ka f.code.length kc] 26) (B:=.cells #[.int .i64 0,.int .i64 0,.slice none 0 0,.slice none 0 0,.slice none 0 0,.slice none 0 0] 26) (Below.refl _ _)
 have HO:=hid h.1
 have HR:=hid h.2.1
 have HB:=hid h.2.2.1
 have HD:=hid h.2.2.2.1
 have HG1:=hid hbb.1
 have HG0:=hid hbb.2.1
 have HW:=hid hal
 clear h hal hbb
 go_enter Tryz.func92,Tryz.ntmps92
 go_upto_region 1 with fail
 generalize ((w.alloc (.cells #[.int .i64 f.width,.int .i64 f.regs,.slice ca f.chans.length cc,.slice sa f.sites.length sc,.slice aa f.arrays.length ac,.slice ka f.code.length kc] 26)).alloc (.cells #[.int .i64 0,.int .i64 0,.slice none 0 0,.slice none 0 0,.slice none 0 0,.slice none 0 0] 26))=W at *
 refine wp_region_mix (.one [0,1,3,4,6,7,9,10] 2 (.one [12] 5 (.one [] 8 (.one [] 11 (tailOf [13,14,15,16,17,18,19]))))) (fun j=>decide (13≤j)) (by kernel_rfl) (by kernel_rfl) rfl (by kernel_rfl) (fun _ d _ _ _ h=>by cases d <;> exact h) ?_
 have HBd:Hid (Below W.heap.size W W.drew):=(Below.refl _ _).drew
 have b1:Below w.heap.size w W.drew:=HW.out.drew
 generalize W.drew=wn at *
 have l2:=ext_cell (row_of HG1.out 2 (.slice ca f.chans.length cc) rfl)
 have l3:=ext_cell (row_of HG1.out 3 (.slice sa f.sites.length sc) rfl)
 have l4:=ext_cell (row_of HG1.out 4 (.slice aa f.arrays.length ac) rfl)
 have l5:=ext_cell (row_of HG1.out 5 (.slice ka f.code.length kc) rfl)
 refine mix_one (by simp only[opsOf,List.filterMap_cons,List.filterMap_nil,List.getElem?_toArray,List.getElem?_cons_succ,List.getElem?_cons_zero];rfl) ⟨_,ext_of HBd.out⟩ ?_
 change wpQuiet _ _ _ _ [_,_,_,_,_,_,_,_] _
 (repeat (go_big_quiet_step (fail)))
 refine wpQuiet_nil ?_
 clear l2 l3 l4 l5
 have R1:=HO.out.keep b1
 refine mix_step rfl ?_
 go_wp2_with (go_at_call 123;refine (copyStr _ _ _ R1).mono ?_;rintro e w2 ⟨v,rfl,_,r2,b2⟩)
 obtain⟨xa2,xc2,rfl⟩:=r2.is
 have B2:=bcomp HBd.out b2
 have k2:=bcomp b1 b2
 have R2:=HR.out.keep k2
 refine⟨fun _=>⟨_,ext_of B2⟩,?_⟩
 refine mix_one (by simp only[opsOf,List.filterMap_cons,List.filterMap_nil,List.getElem?_toArray,List.getElem?_cons_succ,List.getElem?_cons_zero];rfl) ⟨_,ext_of B2⟩ ?_
 change wpQuiet _ _ _ _ [_] _
 (repeat (go_big_quiet_step (fail)))
 refine wpQuiet_nil ?_
 refine mix_step rfl ?_
 go_wp2_with (go_at_call 123;refine (copyStr _ _ _ R2).mono ?_;rintro e w3 ⟨v,rfl,_,r3,b3⟩)
 obtain⟨xa3,xc3,rfl⟩:=r3.is
 have B3:=bcomp B2 b3
 have k3:=bcomp k2 b3
 have R3:=HB.out.keep k3
 refine⟨fun _=>⟨_,ext_of B3⟩,?_⟩
 refine mix_now ?_
 refine mix_step rfl ?_
 go_wp2_with (go_at_call 124;refine (copyInt _ _ _ R3).mono ?_;rintro e w4 ⟨v,rfl,_,r4,b4⟩)
 obtain⟨xa4,xc4,rfl⟩:=r4.is
 have B4:=bcomp B3 b4
 have k4:=bcomp k3 b4
 have R4:=HD.out.keep k4
 refine⟨fun _=>⟨_,ext_of B4⟩,?_⟩
 refine mix_now ?_
 refine mix_step rfl ?_
 go_wp2_with (go_at_call 125;refine (copyCode _ _ _ R4).mono ?_;rintro e w5 ⟨v,rfl,_,r5,b5⟩)
 obtain⟨xa5,xc5,rfl⟩:=r5.is
 have B5:=bcomp B4 b5
 have k5:=bcomp k4 b5
 refine⟨fun _=>⟨_,ext_of B5⟩,?_⟩
 refine mix_tail [13,14,15,16,17,18,19] [_,_,_,_,_,_,_] _ _ rfl rfl ?_
 have hszW:w.heap.size+1<W.heap.size:=(gsKMb HG0.out)
 have hszn:w.heap.size+1<wn.heap.size:=by have:=HBd.out.size;omega
 have hsz5:w.heap.size+1<w5.heap.size:=by have:=B5.size;omega
 have G5:=(B5.block _ (by omega:w.heap.size<W.heap.size)).trans HG1.out
 have Z5:=(B5.block _ hszW).trans HG0.out
 have HR5:Hid (RdFlat (some (upFrom (w.heap.size+2))) w5 f (.slice xa2 f.chans.length xc2) (.slice xa3 f.sites.length xc3) (.slice xa4 f.arrays.length xc4) (.slice xa5 f.code.length xc5)):=
  ⟨(r2.keep (bcomp b3 (bcomp b4 b5))).up (by omega),(r3.keep (bcomp b4 b5)).up (by have:=b2.size;omega),(r4.keep b5).up (by have:=b2.size;have:=b3.size;omega),r5.up (by have:=b2.size;have:=b3.size;have:=b4.size;omega),hrest.out⟩
 have HB5:=hid k5
 have x2:=row_of G5 2 (.slice ca f.chans.length cc) rfl
 have f2:=frozen_of_row w5 w.heap.size 2 _ _ G5
 have x3:=row_of G5 3 (.slice sa f.sites.length sc) rfl
 have f3:=frozen_of_row w5 w.heap.size 3 _ _ G5
 have x4:=row_of G5 4 (.slice aa f.arrays.length ac) rfl
 have f4:=frozen_of_row w5 w.heap.size 4 _ _ G5
 have x5:=row_of G5 5 (.slice ka f.code.length kc) rfl
 have f5:=frozen_of_row w5 w.heap.size 5 _ _ G5
 have HG6:Hid (((((w5.setCell ⟨w.heap.size,2,none⟩ (.slice xa2 f.chans.length xc2)).setCell ⟨w.heap.size,3,none⟩ (.slice xa3 f.sites.length xc3)).setCell ⟨w.heap.size,4,none⟩ (.slice xa4 f.arrays.length xc4)).setCell ⟨w.heap.size,5,none⟩ (.slice xa5 f.code.length xc5)).heap[w.heap.size]?=some (.cells #[.int .i64 f.width,.int .i64 f.regs,.slice xa2 f.chans.length xc2,.slice xa3 f.sites.length xc3,.slice xa4 f.arrays.length xc4,.slice xa5 f.code.length xc5] 26 (0,0))):=by
  show _=_
  rw[heap_setCell_same _ _ _ _ _ _ (heap_setCell_same _ _ _ _ _ _ (heap_setCell_same _ _ _ _ _ _ (heap_setCell_same _ _ _ _ _ _ G5)))]
  rfl
 have hoth:∀ b,b≠w.heap.size→((((w5.setCell ⟨w.heap.size,2,none⟩ (.slice xa2 f.chans.length xc2)).setCell ⟨w.heap.size,3,none⟩ (.slice xa3 f.sites.length xc3)).setCell ⟨w.heap.size,4,none⟩ (.slice xa4 f.arrays.length xc4)).setCell ⟨w.heap.size,5,none⟩ (.slice xa5 f.code.length xc5)).heap[b]?=w5.heap[b]?:=fun b hb=>by
  rw[heap_setCell_other _ _ _ _ (by simpa using hb),heap_setCell_other _ _ _ _ (by simpa using hb),heap_setCell_other _ _ _ _ (by simpa using hb),heap_setCell_other _ _ _ _ (by simpa using hb)]
 have HZ6:=hid ((hoth (w.heap.size+1) (by omega)).trans Z5)
 have HR6:Hid (RdFlat (some (upFrom (w.heap.size+2))) ((((w5.setCell ⟨w.heap.size,2,none⟩ (.slice xa2 f.chans.length xc2)).setCell ⟨w.heap.size,3,none⟩ (.slice xa3 f.sites.length xc3)).setCell ⟨w.heap.size,4,none⟩ (.slice xa4 f.arrays.length xc4)).setCell ⟨w.heap.size,5,none⟩ (.slice xa5 f.code.length xc5)) f (.slice xa2 f.chans.length xc2) (.slice xa3 f.sites.length xc3) (.slice xa4 f.arrays.length xc4) (.slice xa5 f.code.length xc5)):=HR5.out.same (fun b hb _=>hoth b (by have:w.heap.size+2≤b:=hb;omega)) (fun _ _ k=>k)
 have HB6:Hid (Below w.heap.size w ((((w5.setCell ⟨w.heap.size,2,none⟩ (.slice xa2 f.chans.length xc2)).setCell ⟨w.heap.size,3,none⟩ (.slice xa3 f.sites.length xc3)).setCell ⟨w.heap.size,4,none⟩ (.slice xa4 f.arrays.length xc4)).setCell ⟨w.heap.size,5,none⟩ (.slice xa5 f.code.length xc5))):=(((HB5.out.setCell (by simp) _).setCell (by simp) _).setCell (by simp) _).setCell (by simp) _
 clear r2 r3 r4 r5 b1 b2 b3 b4 b5 B2 B3 B4 B5 k2 k3 k4 k5 R1 R2 R3 R4 G5 Z5 hoth HR5
 go_upto_region 2 with fail
 clear x2 x3 x4 x5 f2 f3 f4 f5
 generalize ((((w5.setCell ⟨w.heap.size,2,none⟩ (.slice xa2 f.chans.length xc2)).setCell ⟨w.heap.size,3,none⟩ (.slice xa3 f.sites.length xc3)).setCell ⟨w.heap.size,4,none⟩ (.slice xa4 f.arrays.length xc4)).setCell ⟨w.heap.size,5,none⟩ (.slice xa5 f.code.length xc5))=W6 at *
 have y0:=row_of HG6.out 0 (.int .i64 f.width) rfl
 have y1:=row_of HG6.out 1 (.int .i64 f.regs) rfl
 have y2:=row_of HG6.out 2 (.slice xa2 f.chans.length xc2) rfl
 have y3:=row_of HG6.out 3 (.slice xa3 f.sites.length xc3) rfl
 have y4:=row_of HG6.out 4 (.slice xa4 f.arrays.length xc4) rfl
 have y5:=row_of HG6.out 5 (.slice xa5 f.code.length xc5) rfl
 go_wp2_with (refine wpList_store_row rfl 26 (.tmp 2) (.tmp 19) rfl (w.heap.size+1) #[.int .i64 f.width,.int .i64 f.regs,.slice xa2 f.chans.length xc2,.slice xa3 f.sites.length xc3,.slice xa4 f.arrays.length xc4,.slice xa5 f.code.length xc5] rfl rfl 26 #[.int .i64 0,.int .i64 0,.slice none 0 0,.slice none 0 0,.slice none 0 0,.slice none 0 0] ?hs (by as_aux_lemma=>kernel_rfl) (by as_aux_lemma=>kernel_rfl) (by as_aux_lemma=>kernel_rfl) ?_;exact HZ6.out)
 refine bodyPost_ret (v:=.agg #[.int .i64 f.width,.int .i64 f.regs,.slice xa2 f.chans.length xc2,.slice xa3 f.sites.length xc3,.slice xa4 f.arrays.length xc4,.slice xa5 f.code.length xc5]) ?_ rfl ⟨_,_,_,_,rfl,HR6.out.setRow (by omega) (by omega) _,below_row HB6.out (by omega) _⟩
 exact results_cell_row (P:=Tryz.prog) (fn:=Tryz.f92) rfl _ _ (w.heap.size+1) 26 #[.int .i64 f.width,.int .i64 f.regs,.slice xa2 f.chans.length xc2,.slice xa3 f.sites.length xc3,.slice xa4 f.arrays.length xc4,.slice xa5 f.code.length xc5] (0,0) _ rfl (setRow_heap _ _ _ _ _ _ HZ6.out) Tryz.underlying26 rfl (by as_aux_lemma=>kernel_rfl)
end Go.Proofs.YtkjkpddajjmloaaGreatDoor
