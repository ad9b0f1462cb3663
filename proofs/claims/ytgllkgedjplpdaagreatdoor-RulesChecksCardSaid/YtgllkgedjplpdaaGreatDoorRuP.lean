/- Contracts of the kit's CopyPairs, CopyBinds, CopyPolicy and of the law's Few of policies: new policies. Condition: what comes in reads as the policy. -/
import Derived.Test.YtgllkgedjplpdaaGreatDoorAgH
import Derived.Test.YtgllkgedjplpdaaGreatDoorKMb
set_option linter.all false
set_option maxRecDepth 1000000
set_option maxHeartbeats 12800000
set_option linter.unusedVariables false
set_option linter.unusedSimpArgs false
namespace Go.Proofs.YtgllkgedjplpdaaGreatDoor
open Go.ChangeShapes Go.WideShapes Go.ChangeAt Go.RowKit
theorem infoPairU:(Tryz.prog.info? 93).map (fun i=>(i.zero,i.size,i.bytes))=some (some (.agg #[.int .i64 0,.int .i64 0]),2,16):=by kernel_rfl
theorem infoBindU:(Tryz.prog.info? 54).map (fun i=>(i.zero,i.size,i.bytes))=some (some (.agg #[.string ⟨#[]⟩,.int .i64 0]),2,24):=by kernel_rfl
theorem copyPair (av:Value) (l:List (Int × Int)) (w:World) (h:RdRow kPair none w av l) :
  Calls Tryz.prog 22 #[av] w fun e w'=>∃ v,e=.returned v/\w'.ownsRow w.heap.size 93 2 v l.length (l.flatMap cellsPair)/\RdRow kPair (some (upFrom w.heap.size)) w' v l/\Below w.heap.size w w':=by
 obtain ⟨a,c,rfl⟩:=h.is
 obtain ⟨i0,hi,hz0,hz1,hz2⟩:=info_parts infoPairU
 have hok:Hid (∀ s ∈ l,kPair.ok s):=h.ok
 have hl:l.length * 16<=140737488351232:=h.size
 have HR:=Hd h
 clear h
 go_enter Tryz.func22,Tryz.ntmps22
 go_wp2
 go_loopw [3,4] (fun v i wr=>∃ k:Nat,k<=l.length/\i=.int .i64 k/\wr.ownsRow w.heap.size 93 2 v k ((l.take k).flatMap cellsPair)/\Below w.heap.size w wr) (fun _ i _=>l.length - (intOf i).toNat)
 case atStart=>exact ⟨0,Nat.zero_le _,rfl,World.ownsRow_nil _ _ _ _,bR _ _⟩
 case round=>
  obtain ⟨k,hk,rfl,hown,hb⟩:=hrel
  by_cases hlt:k<l.length
  ·obtain ⟨x,hx⟩:∃ x,l[k]?=some x:=⟨_,lG hlt⟩
   obtain ⟨b,o,rfl,_,c0,c1,_⟩:=atPair HR.out hx
   have c0':=cell_keepB hb c0 (block_lt_of_cell c0)
   have c1':=cell_keepB hb c1 (block_lt_of_cell c1)
   have HX:=Hd (flat_take cellsPair l k x hx)
   clear c0 c1
   have hsz:=hb.size
   clear hx
   go_wp2_with (at_builtin;refine wpList_append_own _ rfl (.tmp 11) (.tmp 16) 28 rfl w.heap.size 93 i0 (.agg #[.int .i64 0,.int .i64 0]) 2 16 Tryz.underlying28 hi hz0 hz1 hz2 rfl (by decide) _ _ _ rfl (hown.alloc _) ⟨wr.heap.size,0,none⟩ 1 1 (cellsPair x) rfl rfl (many_new _ _ _) ?c2 ?c3 ?c4 ?c5 ?_)
   case c2=>intro u hu;simp [cellsPair] at hu;rcases hu with rfl|rfl <;> rfl
   case c3=>unfold maxLen;omega
   case c4=>omega
   case c5=>simp;omega
   ·intro v' w1 hown' hgrow _
    rw [<- HX.out] at hown'
    have hb1:=(hb.alloc hb.size (.cells (cellsPair x).toArray 93)).grown hgrow (by simp;omega) (own_row_le hown)
    clear hown
    go_wp2
    go_roundw
    case rel=>exact ⟨k+1,by omega,by go_num,hown',hb1⟩
    case measure=>simp [intOf];omega
  ·obtain rfl:k=l.length:=by omega
   rw [List.take_length] at hown
   go_wp2
   go_ret
   exact ⟨_,rfl,hown,own_rows (K:=kPair) hown hl hok.out,hb⟩
theorem copyBind (av:Value) (l:List BindD) (w:World) (h:RdRow kBind none w av l) :
  Calls Tryz.prog 23 #[av] w fun e w'=>∃ v,e=.returned v/\w'.ownsRow w.heap.size 54 2 v l.length (l.flatMap cellsBind)/\RdRow kBind (some (upFrom w.heap.size)) w' v l/\Below w.heap.size w w':=by
 obtain ⟨a,c,rfl⟩:=h.is
 obtain ⟨i0,hi,hz0,hz1,hz2⟩:=info_parts infoBindU
 have hok:Hid (∀ s ∈ l,kBind.ok s):=h.ok
 have hl:l.length * 24<=140737488351232:=h.size
 have HR:=Hd h
 clear h
 go_enter Tryz.func23,Tryz.ntmps23
 go_wp2
 go_loopw [3,4] (fun v i wr=>∃ k:Nat,k<=l.length/\i=.int .i64 k/\wr.ownsRow w.heap.size 54 2 v k ((l.take k).flatMap cellsBind)/\Below w.heap.size w wr) (fun _ i _=>l.length - (intOf i).toNat)
 case atStart=>exact ⟨0,Nat.zero_le _,rfl,World.ownsRow_nil _ _ _ _,bR _ _⟩
 case round=>
  obtain ⟨k,hk,rfl,hown,hb⟩:=hrel
  by_cases hlt:k<l.length
  ·obtain ⟨x,hx⟩:∃ x,l[k]?=some x:=⟨_,lG hlt⟩
   obtain ⟨b,o,rfl,_,c0,c1,_⟩:=atBind HR.out hx
   have c0':=cell_keepB hb c0 (block_lt_of_cell c0)
   have c1':=cell_keepB hb c1 (block_lt_of_cell c1)
   have HX:=Hd (flat_take cellsBind l k x hx)
   clear c0 c1
   have hsz:=hb.size
   clear hx
   go_wp2_with (at_builtin;refine wpList_append_own _ rfl (.tmp 11) (.tmp 16) 29 rfl w.heap.size 54 i0 (.agg #[.string ⟨#[]⟩,.int .i64 0]) 2 24 Tryz.underlying29 hi hz0 hz1 hz2 rfl (by decide) _ _ _ rfl (hown.alloc _) ⟨wr.heap.size,0,none⟩ 1 1 (cellsBind x) rfl rfl (many_new _ _ _) ?c2 ?c3 ?c4 ?c5 ?_)
   case c2=>intro u hu;simp [cellsBind] at hu;rcases hu with rfl|rfl <;> rfl
   case c3=>unfold maxLen;omega
   case c4=>omega
   case c5=>simp;omega
   ·intro v' w1 hown' hgrow _
    rw [<- HX.out] at hown'
    have hb1:=(hb.alloc hb.size (.cells (cellsBind x).toArray 54)).grown hgrow (by simp;omega) (own_row_le hown)
    clear hown
    go_wp2
    go_roundw
    case rel=>exact ⟨k+1,by omega,by go_num,hown',hb1⟩
    case measure=>simp [intOf];omega
  ·obtain rfl:k=l.length:=by omega
   rw [List.take_length] at hown
   go_wp2
   go_ret
   exact ⟨_,rfl,hown,own_rows (K:=kBind) hown hl hok.out,hb⟩
theorem RdPol.same {g g':Nat->Prop} {w w':World} {q:PolD} {a b c d:Value} (h:RdPol (some g) w q a b c d) (k:∀ b,g b->b<w.heap.size->w'.heap[b]?=w.heap[b]?) (hg:∀ b,b<w.heap.size->g b->g' b):RdPol (some g') w' q a b c d:=
 ⟨h.1.same k hg,h.2.1.same k hg,h.2.2.1.same k hg,h.2.2.2.1.same k hg,h.2.2.2.2⟩
theorem RdPol.setRow {n m:Nat} {w:World} {q:PolD} {a b c d:Value} (h:RdPol (some (upFrom n)) w q a b c d) {x:Nat} (hx:x<n) (hm:m<=n) (cs:Array Value):RdPol (some (upFrom m)) (w.setRow x cs) q a b c d:=
 h.same (fun b hb _=>setRow_other w x b cs (by have:n<=b:=hb;omega)) (fun b _ hb=>Nat.le_trans hm hb)
theorem RdPol.up {n m:Nat} {w:World} {q:PolD} {a b c d:Value} (h:RdPol (some (upFrom n)) w q a b c d) (hm:m<=n):RdPol (some (upFrom m)) w q a b c d:=
 ⟨h.1.up hm,h.2.1.up hm,h.2.2.1.up hm,h.2.2.2.1.up hm,h.2.2.2.2⟩
def PolNew (q:PolD) (w:World) (e:Ending) (w':World):Prop:=
 ∃ lv ov cv sv,e=.returned (polV q lv ov cv sv)/\RdPol (some (upFrom w.heap.size)) w' q lv ov cv sv/\Below w.heap.size w w'
theorem copyPol (q:PolD) (lv ov cv sv:Value) (w:World) (h:RdPol none w q lv ov cv sv) :
  Calls Tryz.prog 8 #[polV q lv ov cv sv] w (PolNew q w):=by
 obtain ⟨la,lc,rfl⟩:=h.1.is
 obtain ⟨oa,oc,rfl⟩:=h.2.1.is
 obtain ⟨ca,cc,rfl⟩:=h.2.2.1.is
 obtain ⟨sa,sc,rfl⟩:=h.2.2.2.1.is
 have hrest:=Hd h.2.2.2.2
 have hal:=((bR w.heap.size w).alloc (nR _) (.cells #[.slice la q.levels.length lc,.slice oa q.order.length oc,.slice ca q.chans.length cc,.slice sa q.sites.length sc,.bool q.sens,.int .i64 q.steps,.int .i64 q.paths,.int .i64 q.nodes,.int .i64 q.confs] 31)).alloc (by simp) (.cells #[.slice none 0 0,.slice none 0 0,.slice none 0 0,.slice none 0 0,.bool false,.int .i64 0,.int .i64 0,.int .i64 0,.int .i64 0] 31)
 have hbb:=heap2_of (w:=w) (A:=.cells #[.slice la q.levels.length lc,.slice oa q.order.length oc,.slice ca q.chans.length cc,.slice sa q.sites.length sc,.bool q.sens,.int .i64 q.steps,.int .i64 q.paths,.int .i64 q.nodes,.int .i64 q.confs] 31) (B:=.cells #[.slice none 0 0,.slice none 0 0,.slice none 0 0,.slice none 0 0,.bool false,.int .i64 0,.int .i64 0,.int .i64 0,.int .i64 0] 31) (bR _ _)
 have HO:=Hd h.1
 have HR:=Hd h.2.1
 have HB:=Hd h.2.2.1
 have HD:=Hd h.2.2.2.1
 have HG1:=Hd hbb.1
 have HG0:=Hd hbb.2.1
 have HW:=Hd hal
 clear h hal hbb
 go_enter Tryz.func8,Tryz.ntmps8
 go_upto_region 1 with fail
 generalize ((w.alloc (.cells #[.slice la q.levels.length lc,.slice oa q.order.length oc,.slice ca q.chans.length cc,.slice sa q.sites.length sc,.bool q.sens,.int .i64 q.steps,.int .i64 q.paths,.int .i64 q.nodes,.int .i64 q.confs] 31)).alloc (.cells #[.slice none 0 0,.slice none 0 0,.slice none 0 0,.slice none 0 0,.bool false,.int .i64 0,.int .i64 0,.int .i64 0,.int .i64 0] 31))=W at *
 refine wp_region_mix (.one [0,1,3,4,6,7,9,10] 2 (.one [12] 5 (.one [] 8 (.one [] 11 (tailOf [13,14,15,16,17,18,19]))))) (fun j=>decide (13<=j)) (by kernel_rfl) (by kernel_rfl) rfl (by kernel_rfl) (fun _ d _ _ _ h=>by cases d <;> exact h) ?_
 have HBd:Hid (Below W.heap.size W W.drew):=(bR _ _).drew
 have b1:Below w.heap.size w W.drew:=HW.out.drew
 generalize W.drew=wn at *
 have l2:=ext_cell (row_of HG1.out 0 (.slice la q.levels.length lc) rfl)
 have l3:=ext_cell (row_of HG1.out 1 (.slice oa q.order.length oc) rfl)
 have l4:=ext_cell (row_of HG1.out 2 (.slice ca q.chans.length cc) rfl)
 have l5:=ext_cell (row_of HG1.out 3 (.slice sa q.sites.length sc) rfl)
 refine mix_one (by simp only [opsOf,List.filterMap_cons,List.filterMap_nil,List.getElem?_toArray,List.getElem?_cons_succ,List.getElem?_cons_zero];rfl) ⟨_,ext_of HBd.out⟩ ?_
 change wpQuiet _ _ _ _ [_,_,_,_,_,_,_,_] _
 (repeat (go_big_quiet_step (fail)))
 refine wpQuiet_nil ?_
 clear l2 l3 l4 l5
 have R1:=HO.out.keep b1
 refine mix_step rfl ?_
 go_wp2_with (go_at_call 17;refine (copyStr _ _ _ R1).mono ?_;rintro e w2 ⟨v,rfl,_,r2,b2⟩)
 obtain ⟨xa2,xc2,rfl⟩:=r2.is
 have B2:=bcomp HBd.out b2
 have k2:=bcomp b1 b2
 have R2:=HR.out.keep k2
 refine ⟨fun _=>⟨_,ext_of B2⟩,?_⟩
 refine mix_one (by simp only [opsOf,List.filterMap_cons,List.filterMap_nil,List.getElem?_toArray,List.getElem?_cons_succ,List.getElem?_cons_zero];rfl) ⟨_,ext_of B2⟩ ?_
 change wpQuiet _ _ _ _ [_] _
 (repeat (go_big_quiet_step (fail)))
 refine wpQuiet_nil ?_
 refine mix_step rfl ?_
 go_wp2_with (go_at_call 22;refine (copyPair _ _ _ R2).mono ?_;rintro e w3 ⟨v,rfl,_,r3,b3⟩)
 obtain ⟨xa3,xc3,rfl⟩:=r3.is
 have B3:=bcomp B2 b3
 have k3:=bcomp k2 b3
 have R3:=HB.out.keep k3
 refine ⟨fun _=>⟨_,ext_of B3⟩,?_⟩
 refine mix_now ?_
 refine mix_step rfl ?_
 go_wp2_with (go_at_call 23;refine (copyBind _ _ _ R3).mono ?_;rintro e w4 ⟨v,rfl,_,r4,b4⟩)
 obtain ⟨xa4,xc4,rfl⟩:=r4.is
 have B4:=bcomp B3 b4
 have k4:=bcomp k3 b4
 have R4:=HD.out.keep k4
 refine ⟨fun _=>⟨_,ext_of B4⟩,?_⟩
 refine mix_now ?_
 refine mix_step rfl ?_
 go_wp2_with (go_at_call 23;refine (copyBind _ _ _ R4).mono ?_;rintro e w5 ⟨v,rfl,_,r5,b5⟩)
 obtain ⟨xa5,xc5,rfl⟩:=r5.is
 have B5:=bcomp B4 b5
 have k5:=bcomp k4 b5
 refine ⟨fun _=>⟨_,ext_of B5⟩,?_⟩
 refine mix_tail [13,14,15,16,17,18,19] [_,_,_,_,_,_,_] _ _ rfl rfl ?_
 have hszW:w.heap.size+1<W.heap.size:=(aE HG0.out).1
 have hszn:w.heap.size+1<wn.heap.size:=by have:=HBd.out.size;omega
 have hsz5:w.heap.size+1<w5.heap.size:=by have:=B5.size;omega
 have G5:=(B5.block _ (by omega:w.heap.size<W.heap.size)).trans HG1.out
 have Z5:=(B5.block _ hszW).trans HG0.out
 have HR5:Hid (RdPol (some (upFrom (w.heap.size+2))) w5 q (.slice xa2 q.levels.length xc2) (.slice xa3 q.order.length xc3) (.slice xa4 q.chans.length xc4) (.slice xa5 q.sites.length xc5)):=
  ⟨(r2.keep (bcomp b3 (bcomp b4 b5))).up (by omega),(r3.keep (bcomp b4 b5)).up (by have:=b2.size;omega),(r4.keep b5).up (by have:=b2.size;have:=b3.size;omega),r5.up (by have:=b2.size;have:=b3.size;have:=b4.size;omega),hrest.out⟩
 have HB5:=Hd k5
 have x2:=row_of G5 0 (.slice la q.levels.length lc) rfl
 have f2:=frozen_of_row w5 w.heap.size 0 _ _ G5
 have x3:=row_of G5 1 (.slice oa q.order.length oc) rfl
 have f3:=frozen_of_row w5 w.heap.size 1 _ _ G5
 have x4:=row_of G5 2 (.slice ca q.chans.length cc) rfl
 have f4:=frozen_of_row w5 w.heap.size 2 _ _ G5
 have x5:=row_of G5 3 (.slice sa q.sites.length sc) rfl
 have f5:=frozen_of_row w5 w.heap.size 3 _ _ G5
 have HG6:Hid (((((w5.setCell ⟨w.heap.size,0,none⟩ (.slice xa2 q.levels.length xc2)).setCell ⟨w.heap.size,1,none⟩ (.slice xa3 q.order.length xc3)).setCell ⟨w.heap.size,2,none⟩ (.slice xa4 q.chans.length xc4)).setCell ⟨w.heap.size,3,none⟩ (.slice xa5 q.sites.length xc5)).heap[w.heap.size]?=some (.cells #[.slice xa2 q.levels.length xc2,.slice xa3 q.order.length xc3,.slice xa4 q.chans.length xc4,.slice xa5 q.sites.length xc5,.bool q.sens,.int .i64 q.steps,.int .i64 q.paths,.int .i64 q.nodes,.int .i64 q.confs] 31 (0,0))):=by
  show _=_
  rw [heap_setCell_same _ _ _ _ _ _ (heap_setCell_same _ _ _ _ _ _ (heap_setCell_same _ _ _ _ _ _ (heap_setCell_same _ _ _ _ _ _ G5)))]
  rfl
 have hoth:∀ b,b ≠ w.heap.size->((((w5.setCell ⟨w.heap.size,0,none⟩ (.slice xa2 q.levels.length xc2)).setCell ⟨w.heap.size,1,none⟩ (.slice xa3 q.order.length xc3)).setCell ⟨w.heap.size,2,none⟩ (.slice xa4 q.chans.length xc4)).setCell ⟨w.heap.size,3,none⟩ (.slice xa5 q.sites.length xc5)).heap[b]?=w5.heap[b]?:=fun b hb=>by
  rw [heap_setCell_other _ _ _ _ (by simpa using hb),heap_setCell_other _ _ _ _ (by simpa using hb),heap_setCell_other _ _ _ _ (by simpa using hb),heap_setCell_other _ _ _ _ (by simpa using hb)]
 have HZ6:=Hd ((hoth (w.heap.size+1) (by omega)).trans Z5)
 have HR6:Hid (RdPol (some (upFrom (w.heap.size+2))) ((((w5.setCell ⟨w.heap.size,0,none⟩ (.slice xa2 q.levels.length xc2)).setCell ⟨w.heap.size,1,none⟩ (.slice xa3 q.order.length xc3)).setCell ⟨w.heap.size,2,none⟩ (.slice xa4 q.chans.length xc4)).setCell ⟨w.heap.size,3,none⟩ (.slice xa5 q.sites.length xc5)) q (.slice xa2 q.levels.length xc2) (.slice xa3 q.order.length xc3) (.slice xa4 q.chans.length xc4) (.slice xa5 q.sites.length xc5)):=HR5.out.same (fun b hb _=>hoth b (by have:w.heap.size+2<=b:=hb;omega)) (fun _ _ k=>k)
 have HB6:Hid (Below w.heap.size w ((((w5.setCell ⟨w.heap.size,0,none⟩ (.slice xa2 q.levels.length xc2)).setCell ⟨w.heap.size,1,none⟩ (.slice xa3 q.order.length xc3)).setCell ⟨w.heap.size,2,none⟩ (.slice xa4 q.chans.length xc4)).setCell ⟨w.heap.size,3,none⟩ (.slice xa5 q.sites.length xc5))):=(((HB5.out.setCell (by simp) _).setCell (by simp) _).setCell (by simp) _).setCell (by simp) _
 clear r2 r3 r4 r5 b1 b2 b3 b4 b5 B2 B3 B4 B5 k2 k3 k4 k5 R1 R2 R3 R4 G5 Z5 hoth HR5
 go_upto_region 2 with fail
 clear x2 x3 x4 x5 f2 f3 f4 f5
 generalize ((((w5.setCell ⟨w.heap.size,0,none⟩ (.slice xa2 q.levels.length xc2)).setCell ⟨w.heap.size,1,none⟩ (.slice xa3 q.order.length xc3)).setCell ⟨w.heap.size,2,none⟩ (.slice xa4 q.chans.length xc4)).setCell ⟨w.heap.size,3,none⟩ (.slice xa5 q.sites.length xc5))=W6 at *
 have y0:=row_of HG6.out 0 (.slice xa2 q.levels.length xc2) rfl
 have y1:=row_of HG6.out 1 (.slice xa3 q.order.length xc3) rfl
 have y2:=row_of HG6.out 2 (.slice xa4 q.chans.length xc4) rfl
 have y3:=row_of HG6.out 3 (.slice xa5 q.sites.length xc5) rfl
 have y4:=row_of HG6.out 4 (.bool q.sens) rfl
 have y5:=row_of HG6.out 5 (.int .i64 q.steps) rfl
 have y6:=row_of HG6.out 6 (.int .i64 q.paths) rfl
 have y7:=row_of HG6.out 7 (.int .i64 q.nodes) rfl
 have y8:=row_of HG6.out 8 (.int .i64 q.confs) rfl
 go_wp2_with (refine wpList_store_row rfl 31 (.tmp 2) (.tmp 19) rfl (w.heap.size+1) #[.slice xa2 q.levels.length xc2,.slice xa3 q.order.length xc3,.slice xa4 q.chans.length xc4,.slice xa5 q.sites.length xc5,.bool q.sens,.int .i64 q.steps,.int .i64 q.paths,.int .i64 q.nodes,.int .i64 q.confs] rfl rfl 31 #[.slice none 0 0,.slice none 0 0,.slice none 0 0,.slice none 0 0,.bool false,.int .i64 0,.int .i64 0,.int .i64 0,.int .i64 0] ?hs (by as_aux_lemma=>kernel_rfl) (by as_aux_lemma=>kernel_rfl) (by as_aux_lemma=>kernel_rfl) ?_;exact HZ6.out)
 refine bodyPost_ret (v:=.agg #[.slice xa2 q.levels.length xc2,.slice xa3 q.order.length xc3,.slice xa4 q.chans.length xc4,.slice xa5 q.sites.length xc5,.bool q.sens,.int .i64 q.steps,.int .i64 q.paths,.int .i64 q.nodes,.int .i64 q.confs]) ?_ rfl ⟨_,_,_,_,rfl,HR6.out.setRow (by omega) (by omega) _,below_row HB6.out (by omega) _⟩
 exact results_cell_row (P:=Tryz.prog) (fn:=Tryz.f8) rfl _ _ (w.heap.size+1) 31 #[.slice xa2 q.levels.length xc2,.slice xa3 q.order.length xc3,.slice xa4 q.chans.length xc4,.slice xa5 q.sites.length xc5,.bool q.sens,.int .i64 q.steps,.int .i64 q.paths,.int .i64 q.nodes,.int .i64 q.confs] (0,0) _ rfl (setRow_heap _ _ _ _ _ _ HZ6.out) Tryz.underlying31 rfl (by as_aux_lemma=>kernel_rfl)
def fewQ (q:PolD):PolD:={ q with levels:=q.levels.take 34,order:=q.order.take 1100,chans:=q.chans.take 34,sites:=q.sites.take 34 }
theorem few28 (q:PolD) (lv ov cv sv:Value) (w:World) (h:RdPol none w q lv ov cv sv) :
  Calls Tryz.prog 6 #[polV q lv ov cv sv] w (PolNew (fewQ q) w):=by
 obtain ⟨la,lc,rfl⟩:=h.1.is
 obtain ⟨oa,oc,rfl⟩:=h.2.1.is
 obtain ⟨ca,cc,rfl⟩:=h.2.2.1.is
 obtain ⟨sa,sc,rfl⟩:=h.2.2.2.1.is
 obtain ⟨n1,h1⟩:∃ n:Nat,min q.levels.length 34=n:=⟨_,rfl⟩
 obtain ⟨n2,h2⟩:∃ n:Nat,min q.order.length 1100=n:=⟨_,rfl⟩
 obtain ⟨n3,h3⟩:∃ n:Nat,min q.chans.length 34=n:=⟨_,rfl⟩
 obtain ⟨n4,h4⟩:∃ n:Nat,min q.sites.length 34=n:=⟨_,rfl⟩
 have min1:=min_run q.levels.length n1 34 (by omega)
 have min2:=min_run q.order.length n2 1100 (by omega)
 have min3:=min_run q.chans.length n3 34 (by omega)
 have min4:=min_run q.sites.length n4 34 (by omega)
 have k1:=cap_of h.1
 have k2:=cap_of h.2.1
 have k3:=cap_of h.2.2.1
 have k4:=cap_of h.2.2.2.1
 have e1:n1<=q.levels.length:=by omega
 have e2:n2<=q.order.length:=by omega
 have e3:n3<=q.chans.length:=by omega
 have e4:n4<=q.sites.length:=by omega
 have g1:n1<=lc:=by omega
 have g2:n2<=oc:=by omega
 have g3:n3<=cc:=by omega
 have g4:n4<=sc:=by omega
 have HS:Hid (RdPol none w (fewQ q) (.slice la n1 lc) (.slice oa n2 oc) (.slice ca n3 cc) (.slice sa n4 sc)):=by
  have q1:=h.1.take n1 e1
  have q2:=h.2.1.take n2 e2
  have q3:=h.2.2.1.take n3 e3
  have q4:=h.2.2.2.1.take n4 e4
  rw [<- h1,take_minM] at q1
  rw [<- h2,take_minM] at q2
  rw [<- h3,take_minM] at q3
  rw [<- h4,take_minM] at q4
  rw [h1] at q1
  rw [h2] at q2
  rw [h3] at q3
  rw [h4] at q4
  exact ⟨q1,q2,q3,q4,h.2.2.2.2⟩
 have hlen:Hid ((fewQ q).levels.length=n1/\(fewQ q).order.length=n2/\(fewQ q).chans.length=n3/\(fewQ q).sites.length=n4):=by
  refine ⟨?_,?_,?_,?_⟩ <;> simp only [fewQ,List.length_take] <;> omega
 have hal:=((bR w.heap.size w).alloc (nR _) (.cells #[.slice la q.levels.length lc,.slice oa q.order.length oc,.slice ca q.chans.length cc,.slice sa q.sites.length sc,.bool q.sens,.int .i64 q.steps,.int .i64 q.paths,.int .i64 q.nodes,.int .i64 q.confs] 31)).alloc (by simp) (.cells #[.slice none 0 0,.slice none 0 0,.slice none 0 0,.slice none 0 0,.bool false,.int .i64 0,.int .i64 0,.int .i64 0,.int .i64 0] 31)
 have hbb:=heap2_of (w:=w) (A:=.cells #[.slice la q.levels.length lc,.slice oa q.order.length oc,.slice ca q.chans.length cc,.slice sa q.sites.length sc,.bool q.sens,.int .i64 q.steps,.int .i64 q.paths,.int .i64 q.nodes,.int .i64 q.confs] 31) (B:=.cells #[.slice none 0 0,.slice none 0 0,.slice none 0 0,.slice none 0 0,.bool false,.int .i64 0,.int .i64 0,.int .i64 0,.int .i64 0] 31) (bR _ _)
 have HG1:=Hd hbb.1
 have HG0:=Hd hbb.2.1
 have HW:=Hd hal
 clear h hal hbb h1 h2 h3 h4 k1 k2 k3 k4
 go_enter Tryz.func6,Tryz.ntmps6
 go_upto_region 1 with fail
 generalize ((w.alloc (.cells #[.slice la q.levels.length lc,.slice oa q.order.length oc,.slice ca q.chans.length cc,.slice sa q.sites.length sc,.bool q.sens,.int .i64 q.steps,.int .i64 q.paths,.int .i64 q.nodes,.int .i64 q.confs] 31)).alloc (.cells #[.slice none 0 0,.slice none 0 0,.slice none 0 0,.slice none 0 0,.bool false,.int .i64 0,.int .i64 0,.int .i64 0,.int .i64 0] 31))=W at *
 have l2:=keepS_cell (S:=[w.heap.size]) (by simp) (row_of HG1.out 0 (.slice la q.levels.length lc) rfl)
 have l3:=keepS_cell (S:=[w.heap.size]) (by simp) (row_of HG1.out 1 (.slice oa q.order.length oc) rfl)
 have HBd:Hid (Below w.heap.size w W.drew):=HW.out.drew
 have HG5:Hid (W.drew.heap[w.heap.size]?=_):=HG1.out
 have HZ5:Hid (W.drew.heap[w.heap.size+1]?=_):=HG0.out
 refine wp_region_pure [w.heap.size] [0,1,2,3,4,5,6,7,8,9,10] [11,12,13,14] (tailOf [15,16,17]) (fun j=>decide (15<=j)) (by kernel_rfl) (by kernel_rfl) rfl (by kernel_rfl) (fun _ d _ _ _ h=>by cases d <;> exact h) ?_
 refine pure_walk (by simp only [opsOf,List.filterMap_cons,List.filterMap_nil,List.getElem?_toArray,List.getElem?_cons_succ,List.getElem?_cons_zero];rfl) (by simp only [opsOf,List.filterMap_cons,List.filterMap_nil,List.getElem?_toArray,List.getElem?_cons_succ,List.getElem?_cons_zero];rfl) ?_
 change wpQuiet _ _ _ _ [_,_,_,_,_,_,_,_,_,_,_] _
 generalize W.drew=Wd at *
 (repeat (go_big_quiet_step (fail)))
 refine wpQuiet_nil ?_
 clear l2 l3
 change wpQuiet _ _ _ _ [_,_,_,_] _
 (repeat (go_big_quiet_step (fail)))
 refine wpQuiet_nil ?_
 have x2:=row_of HG5.out 0 (.slice la q.levels.length lc) rfl
 have fr2:=frozen_of_row Wd w.heap.size 0 _ _ HG5.out
 have x3:=row_of HG5.out 1 (.slice oa q.order.length oc) rfl
 have fr3:=frozen_of_row Wd w.heap.size 1 _ _ HG5.out
 refine mix_tail [15,16,17] [_,_,_] _ _ rfl rfl ?_
 have HG6:Hid (((Wd.setCell ⟨w.heap.size,0,none⟩ (.slice la n1 lc)).setCell ⟨w.heap.size,1,none⟩ (.slice oa n2 oc)).heap[w.heap.size]?=some (.cells #[.slice la n1 lc,.slice oa n2 oc,.slice ca q.chans.length cc,.slice sa q.sites.length sc,.bool q.sens,.int .i64 q.steps,.int .i64 q.paths,.int .i64 q.nodes,.int .i64 q.confs] 31 (0,0))):=by
  show _=_
  rw [heap_setCell_same _ _ _ _ _ _ (heap_setCell_same _ _ _ _ _ _ HG5.out)]
  rfl
 have hoth:∀ b,b ≠ w.heap.size->((Wd.setCell ⟨w.heap.size,0,none⟩ (.slice la n1 lc)).setCell ⟨w.heap.size,1,none⟩ (.slice oa n2 oc)).heap[b]?=Wd.heap[b]?:=fun b hb=>by
  rw [heap_setCell_other _ _ _ _ (by simpa using hb),heap_setCell_other _ _ _ _ (by simpa using hb)]
 have HZ6:=Hd ((hoth (w.heap.size+1) (by omega)).trans HZ5.out)
 have HB6:Hid (Below w.heap.size w ((Wd.setCell ⟨w.heap.size,0,none⟩ (.slice la n1 lc)).setCell ⟨w.heap.size,1,none⟩ (.slice oa n2 oc))):=((HBd.out).setCell (by simp) _).setCell (by simp) _
 clear hoth HG5 HZ5 HBd
 go_upto_region 2 with fail
 clear x2 x3 fr2 fr3 min1 min2
 generalize (Wd.setCell ⟨w.heap.size,0,none⟩ (.slice la n1 lc)).setCell ⟨w.heap.size,1,none⟩ (.slice oa n2 oc)=W3 at *
 clear HG1 HG0 HW
 have HG1:=HG6
 have HG0:=HZ6
 have HW:=HB6
 clear HG6 HZ6 HB6
 have l2:=keepS_cell (S:=[w.heap.size]) (by simp) (row_of HG1.out 2 (.slice ca q.chans.length cc) rfl)
 have l3:=keepS_cell (S:=[w.heap.size]) (by simp) (row_of HG1.out 3 (.slice sa q.sites.length sc) rfl)
 have HBd:Hid (Below w.heap.size w W3.drew):=HW.out.drew
 have HG5:Hid (W3.drew.heap[w.heap.size]?=_):=HG1.out
 have HZ5:Hid (W3.drew.heap[w.heap.size+1]?=_):=HG0.out
 refine wp_region_pure [w.heap.size] [0,1,2,3,4,5,6,7,8,9,10] [11,12,13,14] (tailOf [15,16,17]) (fun j=>decide (15<=j)) (by kernel_rfl) (by kernel_rfl) rfl (by kernel_rfl) (fun _ d _ _ _ h=>by cases d <;> exact h) ?_
 refine pure_walk (by simp only [opsOf,List.filterMap_cons,List.filterMap_nil,List.getElem?_toArray,List.getElem?_cons_succ,List.getElem?_cons_zero];rfl) (by simp only [opsOf,List.filterMap_cons,List.filterMap_nil,List.getElem?_toArray,List.getElem?_cons_succ,List.getElem?_cons_zero];rfl) ?_
 change wpQuiet _ _ _ _ [_,_,_,_,_,_,_,_,_,_,_] _
 generalize W3.drew=We at *
 (repeat (go_big_quiet_step (fail)))
 refine wpQuiet_nil ?_
 clear l2 l3
 change wpQuiet _ _ _ _ [_,_,_,_] _
 (repeat (go_big_quiet_step (fail)))
 refine wpQuiet_nil ?_
 have x2:=row_of HG5.out 2 (.slice ca q.chans.length cc) rfl
 have fr2:=frozen_of_row We w.heap.size 2 _ _ HG5.out
 have x3:=row_of HG5.out 3 (.slice sa q.sites.length sc) rfl
 have fr3:=frozen_of_row We w.heap.size 3 _ _ HG5.out
 refine mix_tail [15,16,17] [_,_,_] _ _ rfl rfl ?_
 have HG6:Hid (((We.setCell ⟨w.heap.size,2,none⟩ (.slice ca n3 cc)).setCell ⟨w.heap.size,3,none⟩ (.slice sa n4 sc)).heap[w.heap.size]?=some (.cells #[.slice la n1 lc,.slice oa n2 oc,.slice ca n3 cc,.slice sa n4 sc,.bool q.sens,.int .i64 q.steps,.int .i64 q.paths,.int .i64 q.nodes,.int .i64 q.confs] 31 (0,0))):=by
  show _=_
  rw [heap_setCell_same _ _ _ _ _ _ (heap_setCell_same _ _ _ _ _ _ HG5.out)]
  rfl
 have hoth:∀ b,b ≠ w.heap.size->((We.setCell ⟨w.heap.size,2,none⟩ (.slice ca n3 cc)).setCell ⟨w.heap.size,3,none⟩ (.slice sa n4 sc)).heap[b]?=We.heap[b]?:=fun b hb=>by
  rw [heap_setCell_other _ _ _ _ (by simpa using hb),heap_setCell_other _ _ _ _ (by simpa using hb)]
 have HZ6:=Hd ((hoth (w.heap.size+1) (by omega)).trans HZ5.out)
 have HB6:Hid (Below w.heap.size w ((We.setCell ⟨w.heap.size,2,none⟩ (.slice ca n3 cc)).setCell ⟨w.heap.size,3,none⟩ (.slice sa n4 sc))):=((HBd.out).setCell (by simp) _).setCell (by simp) _
 clear hoth HG5 HZ5 HBd
 go_upto_region 3 with fail
 clear x2 x3 fr2 fr3 min3 min4
 generalize (We.setCell ⟨w.heap.size,2,none⟩ (.slice ca n3 cc)).setCell ⟨w.heap.size,3,none⟩ (.slice sa n4 sc)=W4 at *
 clear HG1 HG0 HW
 have HG1:=HG6
 have HG0:=HZ6
 have HW:=HB6
 clear HG6 HZ6 HB6
 have y0:=row_of HG1.out 0 (.slice la n1 lc) rfl
 have y1:=row_of HG1.out 1 (.slice oa n2 oc) rfl
 have y2:=row_of HG1.out 2 (.slice ca n3 cc) rfl
 have y3:=row_of HG1.out 3 (.slice sa n4 sc) rfl
 have y4:=row_of HG1.out 4 (.bool q.sens) rfl
 have y5:=row_of HG1.out 5 (.int .i64 q.steps) rfl
 have y6:=row_of HG1.out 6 (.int .i64 q.paths) rfl
 have y7:=row_of HG1.out 7 (.int .i64 q.nodes) rfl
 have y8:=row_of HG1.out 8 (.int .i64 q.confs) rfl
 have HC:Hid (Calls Tryz.prog 8 #[.agg #[.slice la n1 lc,.slice oa n2 oc,.slice ca n3 cc,.slice sa n4 sc,.bool q.sens,.int .i64 q.steps,.int .i64 q.paths,.int .i64 q.nodes,.int .i64 q.confs]] W4 fun e w'=>∃ xa2 xc2 xa3 xc3 xa4 xc4 xa5 xc5,e=.returned (.agg #[.slice xa2 n1 xc2,.slice xa3 n2 xc3,.slice xa4 n3 xc4,.slice xa5 n4 xc5,.bool q.sens,.int .i64 q.steps,.int .i64 q.paths,.int .i64 q.nodes,.int .i64 q.confs])/\RdPol (some (upFrom W4.heap.size)) w' (fewQ q) (.slice xa2 n1 xc2) (.slice xa3 n2 xc3) (.slice xa4 n3 xc4) (.slice xa5 n4 xc5)/\Below W4.heap.size W4 w'):=by
  refine (copyPol (fewQ q) _ _ _ _ W4 (HS.out.keep HW.out)).mono ?_
  rintro e w' ⟨a,b,c,d,rfl,hr,hz⟩
  obtain ⟨xa2,xc2,rfl⟩:=hr.1.is
  obtain ⟨xa3,xc3,rfl⟩:=hr.2.1.is
  obtain ⟨xa4,xc4,rfl⟩:=hr.2.2.1.is
  obtain ⟨xa5,xc5,rfl⟩:=hr.2.2.2.1.is
  obtain ⟨z1,z2,z3,z4⟩:=hlen.out
  rw [z1,z2,z3,z4] at hr ⊢
  exact ⟨xa2,xc2,xa3,xc3,xa4,xc4,xa5,xc5,rfl,hr,hz⟩
 go_wp2_with (first|(go_at_call 8;refine HC.out.mono ?_;rintro e w5 ⟨xa2,xc2,xa3,xc3,xa4,xc4,xa5,xc5,rfl,hr,hz⟩;have HR:=Hd hr;have BZ:=Hd hz;have HZ7:=Hd ((hz.block _ (aE HG0.out).1).trans HG0.out);clear hr hz)|(refine wpList_store_row rfl 31 (.tmp 2) (.tmp 36) rfl (w.heap.size+1) #[.slice xa2 n1 xc2,.slice xa3 n2 xc3,.slice xa4 n3 xc4,.slice xa5 n4 xc5,.bool q.sens,.int .i64 q.steps,.int .i64 q.paths,.int .i64 q.nodes,.int .i64 q.confs] rfl rfl 31 #[.slice none 0 0,.slice none 0 0,.slice none 0 0,.slice none 0 0,.bool false,.int .i64 0,.int .i64 0,.int .i64 0,.int .i64 0] ?hs (by as_aux_lemma=>kernel_rfl) (by as_aux_lemma=>kernel_rfl) (by as_aux_lemma=>kernel_rfl) ?_;exact HZ7.out))
 have hsz:w.heap.size+1<W4.heap.size:=(aE HG0.out).1
 refine bodyPost_ret (v:=.agg #[.slice xa2 n1 xc2,.slice xa3 n2 xc3,.slice xa4 n3 xc4,.slice xa5 n4 xc5,.bool q.sens,.int .i64 q.steps,.int .i64 q.paths,.int .i64 q.nodes,.int .i64 q.confs]) ?_ rfl ⟨.slice xa2 n1 xc2,.slice xa3 n2 xc3,.slice xa4 n3 xc4,.slice xa5 n4 xc5,rfl,HR.out.setRow hsz (by omega) _,below_row (bcomp HW.out BZ.out) (by omega) _⟩
 exact results_cell_row (P:=Tryz.prog) (fn:=Tryz.f6) rfl _ _ (w.heap.size+1) 31 #[.slice xa2 n1 xc2,.slice xa3 n2 xc3,.slice xa4 n3 xc4,.slice xa5 n4 xc5,.bool q.sens,.int .i64 q.steps,.int .i64 q.paths,.int .i64 q.nodes,.int .i64 q.confs] (0,0) _ rfl (setRow_heap _ _ _ _ _ _ HZ7.out) Tryz.underlying31 rfl (by as_aux_lemma=>kernel_rfl)
end Go.Proofs.YtgllkgedjplpdaaGreatDoor
