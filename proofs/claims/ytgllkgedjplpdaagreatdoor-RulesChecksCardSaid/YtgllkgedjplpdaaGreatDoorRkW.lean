/- The walk of RulesChecks: Check returns what the reference returns; arguments are not modified. Condition: the arguments read as the plain data; the tables hold what they are laid with; the chapter's examples hold. -/
import Derived.Test.YtgllkgedjplpdaaGreatDoorRkD
import Derived.Test.YtgllkgedjplpdaaGreatDoorRkE
import Derived.Test.YtgllkgedjplpdaaGreatDoorRkP
import Derived.Test.YtgllkgedjplpdaaGreatDoorRuD
set_option linter.all false
set_option maxRecDepth 1000000
set_option maxHeartbeats 12800000
namespace Go.Proofs.YtgllkgedjplpdaaGreatDoor
open Go.ChangeShapes Go.WideShapes Go.ChangeAt Go.RowKit
theorem strs_of_row {lo:Option (Nat->Prop)} {w:World} {v:Value} {l:List ByteArray} (h:RdRow kStr lo w v l):RdStrs lo w v l:=by
 obtain ⟨a,c,rfl,hl,hr⟩:=h
 exact ⟨a,c,rfl,hl,fun i s hs=>by
  obtain ⟨b,o,e,hf,hc,hz⟩:=hr i s hs
  exact ⟨b,o,e,hf,by have:=hc 0 _ rfl;simpa using this,hz⟩⟩
theorem rulesChecks_of (hAw:∀ w,Laid w->LaidM w->BitsAt w->Calls Tryz.prog 13 #[] w fun e w'=>e=.returned (.bool true)/\Below w.heap.size w w') (p:ProgD) (cv av fv mv:Value) (q:PolD) (lv ov qv sv:Value) (w:World) (h:RdProg none w p cv av fv mv) (g:RdPol none w q lv ov qv sv) (hL:Laid w) (hM:LaidM w) (hT:BitsAt w) :
  Calls Tryz.prog 3 #[progV p cv av fv mv,polV q lv ov qv sv] w fun e w'=>e=.returned (.bool true)/\Below w.heap.size w w':=by
 obtain ⟨pa,pc,rfl,-,-⟩:=id h.1
 obtain ⟨aa,ac,rfl,-,-⟩:=id h.2.1
 obtain ⟨fa,fc,rfl,-,-⟩:=id h.2.2.1
 obtain ⟨ma,mc,rfl,-,-⟩:=id h.2.2.2.1
 obtain ⟨la,lc,rfl⟩:=g.1.is
 obtain ⟨oa,oc,rfl⟩:=g.2.1.is
 obtain ⟨ca,cc,rfl⟩:=g.2.2.1.is
 obtain ⟨ta,tc,rfl⟩:=g.2.2.2.1.is
 obtain ⟨hx0,hx1,hb0⟩:=heap2_of (w:=w) (A:=.cells #[.int .i64 p.width,.slice pa p.chans.length pc,.slice aa p.arrays.length ac,.slice fa p.funcs.length fc,.slice ma p.main.length mc] 27) (B:=.cells #[.slice la q.levels.length lc,.slice oa q.order.length oc,.slice ca q.chans.length cc,.slice ta q.sites.length tc,.bool q.sens,.int .i64 q.steps,.int .i64 q.paths,.int .i64 q.nodes,.int .i64 q.confs] 31) (bR _ _)
 have H:=Hd (h.keep hb0)
 have G0:=Hd (g.keep hb0)
 have HL:=Hd hL
 have HM:=Hd hM
 have HT:=Hd hT
 have HX0:=Hd hx0
 have HX1:=Hd hx1
 have HB0:=Hd hb0
 have HAW:=Hd hAw
 clear h g hL hM hT hx0 hx1 hb0 hAw
 go_enter Tryz.func3,Tryz.ntmps3
 go_upto_region 1 with fail
 generalize (w.alloc (.cells #[.int .i64 p.width,.slice pa p.chans.length pc,.slice aa p.arrays.length ac,.slice fa p.funcs.length fc,.slice ma p.main.length mc] 27)).alloc (.cells #[.slice la q.levels.length lc,.slice oa q.order.length oc,.slice ca q.chans.length cc,.slice ta q.sites.length tc,.bool q.sens,.int .i64 q.steps,.int .i64 q.paths,.int .i64 q.nodes,.int .i64 q.confs] 31)=W at *
 obtain ⟨fb,hfb⟩:∃ fb,w.heap.size=fb:=⟨_,rfl⟩
 have HFB:=Hd hfb
 rw [hfb] at HX0 HX1
 rw [hfb]
 clear hfb
 obtain ⟨P,hP⟩:∃ P,fewP p=P:=⟨_,rfl⟩
 obtain ⟨G,hG⟩:∃ G,fewQ q=G:=⟨_,rfl⟩
 have HS1:Hid (∀ z,Below W.heap.size W z->Calls Tryz.prog 5 #[.agg #[.int .i64 p.width,.slice pa p.chans.length pc,.slice aa p.arrays.length ac,.slice fa p.funcs.length fc,.slice ma p.main.length mc]] z fun e w'=>∃ a1 k1 a2 k2 a3 k3 a4 k4,e=.returned (.agg #[.int .i64 P.width,.slice a1 P.chans.length k1,.slice a2 P.arrays.length k2,.slice a3 P.funcs.length k3,.slice a4 P.main.length k4])/\RdProg (some (upFrom z.heap.size)) w' P (.slice a1 P.chans.length k1) (.slice a2 P.arrays.length k2) (.slice a3 P.funcs.length k3) (.slice a4 P.main.length k4)/\Below z.heap.size z w'):=by
  intro z hz
  refine (few_prog p _ _ _ _ z (H.out.keep hz)).mono ?_
  rintro e w' ⟨c,s,a,k,rfl,hrd,hz⟩
  rw [hP] at hrd ⊢
  obtain ⟨a1,k1,rfl,-,-⟩:=id hrd.1
  obtain ⟨a2,k2,rfl,-,-⟩:=id hrd.2.1
  obtain ⟨a3,k3,rfl,-,-⟩:=id hrd.2.2.1
  obtain ⟨a4,k4,rfl,-,-⟩:=id hrd.2.2.2.1
  exact ⟨a1,k1,a2,k2,a3,k3,a4,k4,rfl,hrd,hz⟩
 have HS2:Hid (∀ z,Below W.heap.size W z->Calls Tryz.prog 6 #[.agg #[.slice la q.levels.length lc,.slice oa q.order.length oc,.slice ca q.chans.length cc,.slice ta q.sites.length tc,.bool q.sens,.int .i64 q.steps,.int .i64 q.paths,.int .i64 q.nodes,.int .i64 q.confs]] z (PolNew G z)):=fun z hz=>by rw [<- hG];exact few28 q _ _ _ _ z (G0.out.keep hz)
 have HGL:Hid (G.levels.length<=1100/\G.order.length<=1100/\G.chans.length<=1100/\G.sites.length<=1100):=by
  show _/\_
  rw [<- hG]
  unfold fewQ
  simp only [List.length_take]
  omega
 have HPN:Hid ((codesOf P.funcs).length+P.main.length<=100000):=by show _<=_;rw [<- hP];exact few_size p
 clear hP hG
 refine wp_region_own [0,2] [⟨1,some 12,[]⟩,⟨3,some 14,[(1,some 12)]⟩] [4,5] [_,_] (fun j=>decide (4<=j))
  (fun j v w' lo hi=>match j with
    | 1=>∃ a1 k1 a2 k2 a3 k3 a4 k4,v=.agg #[.int .i64 P.width,.slice a1 P.chans.length k1,.slice a2 P.arrays.length k2,.slice a3 P.funcs.length k3,.slice a4 P.main.length k4]/\RdProg (some (upFrom W.heap.size)) w' P (.slice a1 P.chans.length k1) (.slice a2 P.arrays.length k2) (.slice a3 P.funcs.length k3) (.slice a4 P.main.length k4)
    | 3=>∃ b1 l1 b2 l2 b3 l3 b4 l4,v=.agg #[.slice b1 G.levels.length l1,.slice b2 G.order.length l2,.slice b3 G.chans.length l3,.slice b4 G.sites.length l4,.bool G.sens,.int .i64 G.steps,.int .i64 G.paths,.int .i64 G.nodes,.int .i64 G.confs]/\RdPol (some (upFrom W.heap.size)) w' G (.slice b1 G.levels.length l1) (.slice b2 G.order.length l2) (.slice b3 G.chans.length l3) (.slice b4 G.sites.length l4)
    | _=>True) (by kernel_rfl) (by kernel_rfl) rfl (by kernel_rfl) rfl rfl (fun _ d _ _ _ h=>by cases d <;> exact h) ?_ ?_
 ·intro j v w w' lo hi hy hbw
  match j,hy with
  | 1,⟨a1,k1,a2,k2,a3,k3,a4,k4,e,h1⟩=>exact ⟨a1,k1,a2,k2,a3,k3,a4,k4,e,h1.keep hbw⟩
  | 3,⟨a1,k1,a2,k2,a3,k3,a4,k4,e,h1⟩=>exact ⟨a1,k1,a2,k2,a3,k3,a4,k4,e,h1.keep hbw⟩
  | 0,_|2,_|(x+4),_=>trivial
 have e0:=ext_cell (row_of HX0.out 0 (.int .i64 p.width) rfl)
 have e1:=ext_cell (row_of HX0.out 1 (.slice pa p.chans.length pc) rfl)
 have e2:=ext_cell (row_of HX0.out 2 (.slice aa p.arrays.length ac) rfl)
 have e3:=ext_cell (row_of HX0.out 3 (.slice fa p.funcs.length fc) rfl)
 have e4:=ext_cell (row_of HX0.out 4 (.slice ma p.main.length mc) rfl)
 have d0:=ext_cell (row_of HX1.out 0 (.slice la q.levels.length lc) rfl)
 have d1:=ext_cell (row_of HX1.out 1 (.slice oa q.order.length oc) rfl)
 have d2:=ext_cell (row_of HX1.out 2 (.slice ca q.chans.length cc) rfl)
 have d3:=ext_cell (row_of HX1.out 3 (.slice ta q.sites.length tc) rfl)
 have d4:=ext_cell (row_of HX1.out 4 (.bool q.sens) rfl)
 have d5:=ext_cell (row_of HX1.out 5 (.int .i64 q.steps) rfl)
 have d6:=ext_cell (row_of HX1.out 6 (.int .i64 q.paths) rfl)
 have d7:=ext_cell (row_of HX1.out 7 (.int .i64 q.nodes) rfl)
 have d8:=ext_cell (row_of HX1.out 8 (.int .i64 q.confs) rfl)
 refine mix_reads (by simp only [opsOf,List.filterMap_cons,List.filterMap_nil,List.getElem?_toArray,List.getElem?_cons_succ,List.getElem?_cons_zero];rfl) ⟨_,ext_of (bR _ _).drew⟩ ?_
 change wpQuiet _ _ _ _ [_,_] _
 (repeat (go_big_quiet_step (fail)))
 refine wpQuiet_nil ?_
 clear e0 e1 e2 e3 e4 d0 d1 d2 d3 d4 d5 d6 d7 d8
 have HD:Hid (Below W.heap.size W W.drew):=(bR _ _).drew
 refine ⟨⟨fun vs wn hb hn=>?_,fun vs wn hb hn=>?_,trivial⟩,fun vs wn hb hy hd=>?_⟩
 ·clear hn
  have HBN:=Hd (bcomp HD.out hb)
  clear hb
  refine mix_step rfl ?_
  simp only [pv]
  go_wp2_with (go_at_call 5;refine (HS1.out _ HBN.out).mono ?_;rintro e wz ⟨a1,k1,a2,k2,a3,k3,a4,k4,rfl,hr,hz⟩)
  exact ⟨_,rfl,hz,a1,k1,a2,k2,a3,k3,a4,k4,rfl,hr.up HBN.out.size⟩
 ·clear hn
  have HBN:=Hd (bcomp HD.out hb)
  clear hb
  refine mix_step rfl ?_
  simp only [pv]
  go_wp2_with (go_at_call 6;refine (HS2.out _ HBN.out).mono ?_;rintro e wz ⟨c,s,a,k,rfl,hr,hz⟩)
  obtain ⟨a1,k1,rfl⟩:=hr.1.is
  obtain ⟨a2,k2,rfl⟩:=hr.2.1.is
  obtain ⟨a3,k3,rfl⟩:=hr.2.2.1.is
  obtain ⟨a4,k4,rfl⟩:=hr.2.2.2.1.is
  exact ⟨_,rfl,hz,a1,k1,a2,k2,a3,k3,a4,k4,rfl,hr.up HBN.out.size⟩
 obtain ⟨⟨a1,k1,a2,k2,a3,k3,a4,k4,em1,hr1⟩,⟨b1,l1,b2,l2,b3,l3,b4,l4,em2,hr2⟩⟩:(∃ a1 k1 a2 k2 a3 k3 a4 k4,(vs 1).1=.agg #[.int .i64 P.width,.slice a1 P.chans.length k1,.slice a2 P.arrays.length k2,.slice a3 P.funcs.length k3,.slice a4 P.main.length k4]/\RdProg (some (upFrom W.heap.size)) wn P (.slice a1 P.chans.length k1) (.slice a2 P.arrays.length k2) (.slice a3 P.funcs.length k3) (.slice a4 P.main.length k4))/\(∃ b1 l1 b2 l2 b3 l3 b4 l4,(vs 3).1=.agg #[.slice b1 G.levels.length l1,.slice b2 G.order.length l2,.slice b3 G.chans.length l3,.slice b4 G.sites.length l4,.bool G.sens,.int .i64 G.steps,.int .i64 G.paths,.int .i64 G.nodes,.int .i64 G.confs]/\RdPol (some (upFrom W.heap.size)) wn G (.slice b1 G.levels.length l1) (.slice b2 G.order.length l2) (.slice b3 G.chans.length l3) (.slice b4 G.sites.length l4)):=⟨(hy ⟨1,some 12,[]⟩ (by simp)).1,(hy ⟨3,some 14,[(1,some 12)]⟩ (by simp)).1⟩
 have HBN:=Hd (bcomp HD.out hb)
 have HR1:=Hd hr1
 have HR2:=Hd hr2
 clear hy hd hb HS1 HS2 hr1 hr2 HD H G0
 simp only [List.map,Maker.pr,pv]
 rw [em1,em2]
 clear em1 em2
 simp only [Act.put,List.setIfInBounds_toArray,List.set_cons_succ,List.set_cons_zero,List.getElem_toArray,List.getElem_cons_succ,List.getElem_cons_zero]
 have HXa:=Hd ((HBN.out.block _ (aE HX0.out).1).trans HX0.out)
 have HXb:=Hd ((HBN.out.block _ (aE HX1.out).1).trans HX1.out)
 go_upto_region 2 with (first|(refine wpList_store_row rfl 27 (.tmp 2) (.tmp 12) rfl fb #[.int .i64 P.width,.slice a1 P.chans.length k1,.slice a2 P.arrays.length k2,.slice a3 P.funcs.length k3,.slice a4 P.main.length k4] rfl rfl 27 #[.int .i64 p.width,.slice pa p.chans.length pc,.slice aa p.arrays.length ac,.slice fa p.funcs.length fc,.slice ma p.main.length mc] ?hs1 (by as_aux_lemma=>kernel_rfl) (by as_aux_lemma=>kernel_rfl) (by as_aux_lemma=>kernel_rfl) ?_;exact HXa.out)|(refine wpList_store_row rfl 31 (.tmp 3) (.tmp 14) rfl (fb+1) #[.slice b1 G.levels.length l1,.slice b2 G.order.length l2,.slice b3 G.chans.length l3,.slice b4 G.sites.length l4,.bool G.sens,.int .i64 G.steps,.int .i64 G.paths,.int .i64 G.nodes,.int .i64 G.confs] rfl rfl 31 #[.slice la q.levels.length lc,.slice oa q.order.length oc,.slice ca q.chans.length cc,.slice ta q.sites.length tc,.bool q.sens,.int .i64 q.steps,.int .i64 q.paths,.int .i64 q.nodes,.int .i64 q.confs] ?hs2 (by as_aux_lemma=>kernel_rfl) (by as_aux_lemma=>kernel_rfl) (by as_aux_lemma=>kernel_rfl) ?_;exact (setRow_other _ _ _ _ (by omega)).trans HXb.out))
 try simp only [Act.put]
 have HY0:Hid (((wn.setRow fb #[.int .i64 P.width,.slice a1 P.chans.length k1,.slice a2 P.arrays.length k2,.slice a3 P.funcs.length k3,.slice a4 P.main.length k4]).setRow (fb+1) #[.slice b1 G.levels.length l1,.slice b2 G.order.length l2,.slice b3 G.chans.length l3,.slice b4 G.sites.length l4,.bool G.sens,.int .i64 G.steps,.int .i64 G.paths,.int .i64 G.nodes,.int .i64 G.confs]).heap[fb]?=some (.cells #[.int .i64 P.width,.slice a1 P.chans.length k1,.slice a2 P.arrays.length k2,.slice a3 P.funcs.length k3,.slice a4 P.main.length k4] 27 (0,0))):=(setRow_other _ _ _ _ (by omega)).trans (setRow_heap _ _ _ _ _ _ HXa.out)
 have HY1:Hid (((wn.setRow fb #[.int .i64 P.width,.slice a1 P.chans.length k1,.slice a2 P.arrays.length k2,.slice a3 P.funcs.length k3,.slice a4 P.main.length k4]).setRow (fb+1) #[.slice b1 G.levels.length l1,.slice b2 G.order.length l2,.slice b3 G.chans.length l3,.slice b4 G.sites.length l4,.bool G.sens,.int .i64 G.steps,.int .i64 G.paths,.int .i64 G.nodes,.int .i64 G.confs]).heap[fb+1]?=some (.cells #[.slice b1 G.levels.length l1,.slice b2 G.order.length l2,.slice b3 G.chans.length l3,.slice b4 G.sites.length l4,.bool G.sens,.int .i64 G.steps,.int .i64 G.paths,.int .i64 G.nodes,.int .i64 G.confs] 31 (0,0))):=setRow_heap _ _ _ _ _ _ ((setRow_other _ _ _ _ (by omega)).trans HXb.out)
 have hlt:fb+1<W.heap.size:=(aE HX1.out).1
 have hoth:∀ b,W.heap.size<=b->((wn.setRow fb #[.int .i64 P.width,.slice a1 P.chans.length k1,.slice a2 P.arrays.length k2,.slice a3 P.funcs.length k3,.slice a4 P.main.length k4]).setRow (fb+1) #[.slice b1 G.levels.length l1,.slice b2 G.order.length l2,.slice b3 G.chans.length l3,.slice b4 G.sites.length l4,.bool G.sens,.int .i64 G.steps,.int .i64 G.paths,.int .i64 G.nodes,.int .i64 G.confs]).heap[b]?=wn.heap[b]?:=fun b hb=>(setRow_other _ _ _ _ (by omega)).trans (setRow_other _ _ _ _ (by omega))
 have HP1:Hid (RdProg none ((wn.setRow fb #[.int .i64 P.width,.slice a1 P.chans.length k1,.slice a2 P.arrays.length k2,.slice a3 P.funcs.length k3,.slice a4 P.main.length k4]).setRow (fb+1) #[.slice b1 G.levels.length l1,.slice b2 G.order.length l2,.slice b3 G.chans.length l3,.slice b4 G.sites.length l4,.bool G.sens,.int .i64 G.steps,.int .i64 G.paths,.int .i64 G.nodes,.int .i64 G.confs]) P (.slice a1 P.chans.length k1) (.slice a2 P.arrays.length k2) (.slice a3 P.funcs.length k3) (.slice a4 P.main.length k4)):=(RdProg.same (g':=upFrom W.heap.size) HR1.out (fun b hg _=>hoth b hg) (fun _ _ k=>k)).forget
 have HG1:Hid (RdPol none ((wn.setRow fb #[.int .i64 P.width,.slice a1 P.chans.length k1,.slice a2 P.arrays.length k2,.slice a3 P.funcs.length k3,.slice a4 P.main.length k4]).setRow (fb+1) #[.slice b1 G.levels.length l1,.slice b2 G.order.length l2,.slice b3 G.chans.length l3,.slice b4 G.sites.length l4,.bool G.sens,.int .i64 G.steps,.int .i64 G.paths,.int .i64 G.nodes,.int .i64 G.confs]) G (.slice b1 G.levels.length l1) (.slice b2 G.order.length l2) (.slice b3 G.chans.length l3) (.slice b4 G.sites.length l4)):=(RdPol.same (g':=upFrom W.heap.size) HR2.out (fun b hg _=>hoth b hg) (fun _ _ k=>k)).forget
 have HBB:Hid (Below w.heap.size w ((wn.setRow fb #[.int .i64 P.width,.slice a1 P.chans.length k1,.slice a2 P.arrays.length k2,.slice a3 P.funcs.length k3,.slice a4 P.main.length k4]).setRow (fb+1) #[.slice b1 G.levels.length l1,.slice b2 G.order.length l2,.slice b3 G.chans.length l3,.slice b4 G.sites.length l4,.bool G.sens,.int .i64 G.steps,.int .i64 G.paths,.int .i64 G.nodes,.int .i64 G.confs])):=below_row (below_row (bcomp HB0.out HBN.out) (by have:=HFB.out;omega) _) (by have:=HFB.out;omega) _
 clear HX0 HX1 HB0 HBN HR1 HR2 HXa HXb hlt hoth
 generalize (wn.setRow fb #[.int .i64 P.width,.slice a1 P.chans.length k1,.slice a2 P.arrays.length k2,.slice a3 P.funcs.length k3,.slice a4 P.main.length k4]).setRow (fb+1) #[.slice b1 G.levels.length l1,.slice b2 G.order.length l2,.slice b3 G.chans.length l3,.slice b4 G.sites.length l4,.bool G.sens,.int .i64 G.steps,.int .i64 G.paths,.int .i64 G.nodes,.int .i64 G.confs]=W2 at *
 have HL2:=Hd (HL.out.keep HBB.out)
 have HM2:=Hd (HM.out.keep HBB.out)
 have HT2:=Hd (HT.out.keep HBB.out)
 clear HL HM HT
  -- the copies
 refine wp_region_own [0,2] [⟨1,some 16,[]⟩,⟨3,some 18,[(1,some 16)]⟩,⟨4,some 5,[]⟩,⟨5,some 6,[]⟩] [6,7] [_,_] (fun j=>decide (6<=j))
  (fun j v w' lo hi=>match j with
    | 1=>∃ i1 j1 i2 j2 i3 j3 i4 j4,v=.agg #[.int .i64 P.width,.slice i1 P.chans.length j1,.slice i2 P.arrays.length j2,.slice i3 P.funcs.length j3,.slice i4 P.main.length j4]/\RdProg (some (within lo hi)) w' P (.slice i1 P.chans.length j1) (.slice i2 P.arrays.length j2) (.slice i3 P.funcs.length j3) (.slice i4 P.main.length j4)
    | 3=>∃ s1 t1 s2 t2 s3 t3 s4 t4,v=.agg #[.slice s1 G.levels.length t1,.slice s2 G.order.length t2,.slice s3 G.chans.length t3,.slice s4 G.sites.length t4,.bool G.sens,.int .i64 G.steps,.int .i64 G.paths,.int .i64 G.nodes,.int .i64 G.confs]/\RdPol (some (within lo hi)) w' G (.slice s1 G.levels.length t1) (.slice s2 G.order.length t2) (.slice s3 G.chans.length t3) (.slice s4 G.sites.length t4)
    | 4=>∃ g,v=.pointer (some ⟨g,0,none⟩)/\lo<=g/\g<hi/\w'.heap[g]?=some (.cells #[.int .i64 0,.slice none 0 0,.slice none 0 0,.slice none 0 0,.slice none 0 0] 27 (0,0))
    | 5=>∃ g,v=.pointer (some ⟨g,0,none⟩)/\lo<=g/\g<hi/\w'.heap[g]?=some (.cells #[.slice none 0 0,.slice none 0 0,.slice none 0 0,.slice none 0 0,.bool false,.int .i64 0,.int .i64 0,.int .i64 0,.int .i64 0] 31 (0,0))
    | _=>True) (by kernel_rfl) (by kernel_rfl) rfl (by kernel_rfl) rfl rfl (fun _ d _ _ _ h=>by cases d <;> exact h) ?_ ?_
 ·intro j v w w' lo hi hy hbw
  match j,hy with
  | 1,⟨a1,k1,a2,k2,a3,k3,a4,k4,e,h1⟩=>exact ⟨a1,k1,a2,k2,a3,k3,a4,k4,e,h1.keep hbw⟩
  | 3,⟨a1,k1,a2,k2,a3,k3,a4,k4,e,h1⟩=>exact ⟨a1,k1,a2,k2,a3,k3,a4,k4,e,h1.keep hbw⟩
  | 4,⟨g,e,h1,h2,h⟩=>exact ⟨g,e,h1,h2,(hbw.block _ (aE h).1).trans h⟩
  | 5,⟨g,e,h1,h2,h⟩=>exact ⟨g,e,h1,h2,(hbw.block _ (aE h).1).trans h⟩
  | 0,_|2,_|(x+6),_=>trivial
 have e0:=ext_cell (row_of HY0.out 0 (.int .i64 P.width) rfl)
 have e1:=ext_cell (row_of HY0.out 1 (.slice a1 P.chans.length k1) rfl)
 have e2:=ext_cell (row_of HY0.out 2 (.slice a2 P.arrays.length k2) rfl)
 have e3:=ext_cell (row_of HY0.out 3 (.slice a3 P.funcs.length k3) rfl)
 have e4:=ext_cell (row_of HY0.out 4 (.slice a4 P.main.length k4) rfl)
 have d0:=ext_cell (row_of HY1.out 0 (.slice b1 G.levels.length l1) rfl)
 have d1:=ext_cell (row_of HY1.out 1 (.slice b2 G.order.length l2) rfl)
 have d2:=ext_cell (row_of HY1.out 2 (.slice b3 G.chans.length l3) rfl)
 have d3:=ext_cell (row_of HY1.out 3 (.slice b4 G.sites.length l4) rfl)
 have d4:=ext_cell (row_of HY1.out 4 (.bool G.sens) rfl)
 have d5:=ext_cell (row_of HY1.out 5 (.int .i64 G.steps) rfl)
 have d6:=ext_cell (row_of HY1.out 6 (.int .i64 G.paths) rfl)
 have d7:=ext_cell (row_of HY1.out 7 (.int .i64 G.nodes) rfl)
 have d8:=ext_cell (row_of HY1.out 8 (.int .i64 G.confs) rfl)
 refine mix_reads (by simp only [opsOf,List.filterMap_cons,List.filterMap_nil,List.getElem?_toArray,List.getElem?_cons_succ,List.getElem?_cons_zero];rfl) ⟨_,ext_of (bR _ _).drew⟩ ?_
 change wpQuiet _ _ _ _ [_,_] _
 (repeat (go_big_quiet_step (fail)))
 refine wpQuiet_nil ?_
 clear e0 e1 e2 e3 e4 d0 d1 d2 d3 d4 d5 d6 d7 d8
 have HD2:Hid (Below W2.heap.size W2 W2.drew):=(bR _ _).drew
 refine ⟨⟨fun vs wn hb hn=>?_,fun vs wn hb hn=>?_,fun vs wn hb hn=>?_,fun vs wn hb hn=>?_,trivial⟩,fun vs wn hb hy hd=>?_⟩
 ·clear hn
  have C:=Hd (copyProg P _ _ _ _ wn (HP1.out.keep (bcomp HD2.out hb)))
  refine mix_step rfl ?_
  simp only [pv]
  go_wp2_with (go_at_call 7;refine C.out.mono ?_;rintro e wz ⟨c,s,a,k,m,rfl,r1,r2,r3,r4,hm,hz⟩;obtain ⟨i1,j1,rfl,-,-⟩:=id r1;obtain ⟨i2,j2,rfl,-,-⟩:=id r2;obtain ⟨i3,j3,rfl,-,-⟩:=id r3;obtain ⟨i4,j4,rfl,-,-⟩:=id r4)
  exact ⟨_,rfl,hz,i1,j1,i2,j2,i3,j3,i4,j4,rfl,RdStrs.same r1 (fun _ _ _=>rfl) (fun _ hb hg=>⟨hg.1,hb⟩),RdArrs.same r2 (fun _ _ _=>rfl) (fun _ hb hg=>⟨hg.1,hb⟩),RdFuncs.same r3 (fun _ _ _=>rfl) (fun _ hb hg=>⟨hg.1,hb⟩),RdInstrs.same r4 (fun _ _ _=>rfl) (fun _ hb hg=>⟨Nat.le_trans hm hg,hb⟩),HP1.out.2.2.2.2⟩
 ·clear hn
  have C:=Hd (copyPol G _ _ _ _ wn (HG1.out.keep (bcomp HD2.out hb)))
  refine mix_step rfl ?_
  simp only [pv]
  go_wp2_with (go_at_call 8;refine C.out.mono ?_;rintro e wz ⟨c,s,a,k,rfl,hr,hz⟩;obtain ⟨s1,t1,rfl⟩:=hr.1.is;obtain ⟨s2,t2,rfl⟩:=hr.2.1.is;obtain ⟨s3,t3,rfl⟩:=hr.2.2.1.is;obtain ⟨s4,t4,rfl⟩:=hr.2.2.2.1.is)
  exact ⟨_,rfl,hz,s1,t1,s2,t2,s3,t3,s4,t4,rfl,RdPol.same hr (fun _ _ _=>rfl) (fun _ hb hg=>⟨hg,hb⟩)⟩
 ·
  clear hn
  refine mix_step rfl ?_
  simp only [pv]
  go_wp2_with fail
  exact ⟨_,rfl,(bR _ _).alloc (nR _) _,wn.heap.size,rfl,nR _,by simp,heap_alloc_new _ _⟩
 ·
  clear hn
  refine mix_step rfl ?_
  simp only [pv]
  go_wp2_with fail
  exact ⟨_,rfl,(bR _ _).alloc (nR _) _,wn.heap.size,rfl,nR _,by simp,heap_alloc_new _ _⟩
 obtain ⟨⟨i1,j1,i2,j2,i3,j3,i4,j4,em1,hr1⟩,hp1⟩:(∃ i1 j1 i2 j2 i3 j3 i4 j4,(vs 1).1=.agg #[.int .i64 P.width,.slice i1 P.chans.length j1,.slice i2 P.arrays.length j2,.slice i3 P.funcs.length j3,.slice i4 P.main.length j4]/\RdProg (some (within (vs 1).2.1 (vs 1).2.2)) wn P (.slice i1 P.chans.length j1) (.slice i2 P.arrays.length j2) (.slice i3 P.funcs.length j3) (.slice i4 P.main.length j4))/\True:=⟨(hy ⟨1,some 16,[]⟩ (by simp)).1,trivial⟩
 obtain ⟨s1,t1,s2,t2,s3,t3,s4,t4,em3,hr3⟩:∃ s1 t1 s2 t2 s3 t3 s4 t4,(vs 3).1=.agg #[.slice s1 G.levels.length t1,.slice s2 G.order.length t2,.slice s3 G.chans.length t3,.slice s4 G.sites.length t4,.bool G.sens,.int .i64 G.steps,.int .i64 G.paths,.int .i64 G.nodes,.int .i64 G.confs]/\RdPol (some (within (vs 3).2.1 (vs 3).2.2)) wn G (.slice s1 G.levels.length t1) (.slice s2 G.order.length t2) (.slice s3 G.chans.length t3) (.slice s4 G.sites.length t4):=(hy ⟨3,some 18,[(1,some 16)]⟩ (by simp)).1
 obtain ⟨⟨g4,em4,l4a,l4b,hg4⟩,q4⟩:=hy ⟨4,some 5,[]⟩ (by simp)
 obtain ⟨⟨g5,em5,l5a,l5b,hg5⟩,q5⟩:=hy ⟨5,some 6,[]⟩ (by simp)
 have d14:=hd ⟨1,some 16,[]⟩ (by simp) ⟨4,some 5,[]⟩ (by simp) (by decide)
 have d15:=hd ⟨1,some 16,[]⟩ (by simp) ⟨5,some 6,[]⟩ (by simp) (by decide)
 have d34:=hd ⟨3,some 18,[(1,some 16)]⟩ (by simp) ⟨4,some 5,[]⟩ (by simp) (by decide)
 have d35:=hd ⟨3,some 18,[(1,some 16)]⟩ (by simp) ⟨5,some 6,[]⟩ (by simp) (by decide)
 have hg45:g4 ≠ g5:=fun e=>by rw [e,hg5] at hg4;simp at hg4
 have hbn:Below W2.heap.size W2 wn:=bcomp HD2.out hb
 have hlo4:W2.heap.size<=g4:=by have:=HD2.out.size;have:=q4.1;omega
 have hlo5:W2.heap.size<=g5:=by have:=HD2.out.size;have:=q5.1;omega
 have HBN:=Hd hbn
 have HR1:=Hd hr1
 have HR3:=Hd hr3
 have HG4:=Hd hg4
 have HG5:=Hd hg5
 have l4a:(vs 4).2.1<=g4:=l4a
 have l4b:g4<(vs 4).2.2:=l4b
 have l5a:(vs 5).2.1<=g5:=l5a
 have l5b:g5<(vs 5).2.2:=l5b
 have d14:(vs 1).2.2<=(vs 4).2.1 \/ (vs 4).2.2<=(vs 1).2.1:=d14
 have d15:(vs 1).2.2<=(vs 5).2.1 \/ (vs 5).2.2<=(vs 1).2.1:=d15
 have d34:(vs 3).2.2<=(vs 4).2.1 \/ (vs 4).2.2<=(vs 3).2.1:=d34
 have d35:(vs 3).2.2<=(vs 5).2.1 \/ (vs 5).2.2<=(vs 3).2.1:=d35
 have HN1:Hid (∀ b,within (vs 1).2.1 (vs 1).2.2 b->b ≠ g4/\b ≠ g5):=fun b hb=>by
  obtain ⟨h1,h2⟩:=hb
  rcases d14 with d|d <;> rcases d15 with d'|d' <;> exact ⟨by omega,by omega⟩
 have HN3:Hid (∀ b,within (vs 3).2.1 (vs 3).2.2 b->b ≠ g4/\b ≠ g5):=fun b hb=>by
  obtain ⟨h1,h2⟩:=hb
  rcases d34 with d|d <;> rcases d35 with d'|d' <;> exact ⟨by omega,by omega⟩
 clear hy hd hb hr1 hr3 hg4 hg5 hbn d14 d15 d34 d35 HD2 hp1
 simp only [List.map,Maker.pr,pv]
 rw [em1,em3,em4,em5]
 clear em1 em3 em4 em5 q4 q5 l4a l4b l5a l5b
 simp only [Act.put,List.setIfInBounds_toArray,List.set_cons_succ,List.set_cons_zero,List.getElem_toArray,List.getElem_cons_succ,List.getElem_cons_zero]
 go_upto_region 3 with (first|(refine wpList_store_row rfl 27 (.tmp 5) (.tmp 16) rfl g4 #[.int .i64 P.width,.slice i1 P.chans.length j1,.slice i2 P.arrays.length j2,.slice i3 P.funcs.length j3,.slice i4 P.main.length j4] rfl rfl 27 #[.int .i64 0,.slice none 0 0,.slice none 0 0,.slice none 0 0,.slice none 0 0] ?hs3 (by as_aux_lemma=>kernel_rfl) (by as_aux_lemma=>kernel_rfl) (by as_aux_lemma=>kernel_rfl) ?_;exact HG4.out)|(refine wpList_store_row rfl 31 (.tmp 6) (.tmp 18) rfl g5 #[.slice s1 G.levels.length t1,.slice s2 G.order.length t2,.slice s3 G.chans.length t3,.slice s4 G.sites.length t4,.bool G.sens,.int .i64 G.steps,.int .i64 G.paths,.int .i64 G.nodes,.int .i64 G.confs] rfl rfl 31 #[.slice none 0 0,.slice none 0 0,.slice none 0 0,.slice none 0 0,.bool false,.int .i64 0,.int .i64 0,.int .i64 0,.int .i64 0] ?hs4 (by as_aux_lemma=>kernel_rfl) (by as_aux_lemma=>kernel_rfl) (by as_aux_lemma=>kernel_rfl) ?_;exact (setRow_other _ _ _ _ (fun e=>hg45 e.symm)).trans HG5.out))
 try simp only [Act.put]
 have HZ4:Hid (((wn.setRow g4 #[.int .i64 P.width,.slice i1 P.chans.length j1,.slice i2 P.arrays.length j2,.slice i3 P.funcs.length j3,.slice i4 P.main.length j4]).setRow g5 #[.slice s1 G.levels.length t1,.slice s2 G.order.length t2,.slice s3 G.chans.length t3,.slice s4 G.sites.length t4,.bool G.sens,.int .i64 G.steps,.int .i64 G.paths,.int .i64 G.nodes,.int .i64 G.confs]).heap[g4]?=some (.cells #[.int .i64 P.width,.slice i1 P.chans.length j1,.slice i2 P.arrays.length j2,.slice i3 P.funcs.length j3,.slice i4 P.main.length j4] 27 (0,0))):=(setRow_other _ _ _ _ hg45).trans (setRow_heap _ _ _ _ _ _ HG4.out)
 have HZ5:Hid (((wn.setRow g4 #[.int .i64 P.width,.slice i1 P.chans.length j1,.slice i2 P.arrays.length j2,.slice i3 P.funcs.length j3,.slice i4 P.main.length j4]).setRow g5 #[.slice s1 G.levels.length t1,.slice s2 G.order.length t2,.slice s3 G.chans.length t3,.slice s4 G.sites.length t4,.bool G.sens,.int .i64 G.steps,.int .i64 G.paths,.int .i64 G.nodes,.int .i64 G.confs]).heap[g5]?=some (.cells #[.slice s1 G.levels.length t1,.slice s2 G.order.length t2,.slice s3 G.chans.length t3,.slice s4 G.sites.length t4,.bool G.sens,.int .i64 G.steps,.int .i64 G.paths,.int .i64 G.nodes,.int .i64 G.confs] 31 (0,0))):=setRow_heap _ _ _ _ _ _ ((setRow_other _ _ _ _ (fun e=>hg45 e.symm)).trans HG5.out)
 have hoth:∀ b,b ≠ g4/\b ≠ g5->((wn.setRow g4 #[.int .i64 P.width,.slice i1 P.chans.length j1,.slice i2 P.arrays.length j2,.slice i3 P.funcs.length j3,.slice i4 P.main.length j4]).setRow g5 #[.slice s1 G.levels.length t1,.slice s2 G.order.length t2,.slice s3 G.chans.length t3,.slice s4 G.sites.length t4,.bool G.sens,.int .i64 G.steps,.int .i64 G.paths,.int .i64 G.nodes,.int .i64 G.confs]).heap[b]?=wn.heap[b]?:=fun b hb=>(setRow_other _ _ _ _ hb.2).trans (setRow_other _ _ _ _ hb.1)
 have HPc:Hid (RdProg none ((wn.setRow g4 #[.int .i64 P.width,.slice i1 P.chans.length j1,.slice i2 P.arrays.length j2,.slice i3 P.funcs.length j3,.slice i4 P.main.length j4]).setRow g5 #[.slice s1 G.levels.length t1,.slice s2 G.order.length t2,.slice s3 G.chans.length t3,.slice s4 G.sites.length t4,.bool G.sens,.int .i64 G.steps,.int .i64 G.paths,.int .i64 G.nodes,.int .i64 G.confs]) P (.slice i1 P.chans.length j1) (.slice i2 P.arrays.length j2) (.slice i3 P.funcs.length j3) (.slice i4 P.main.length j4)):=(RdProg.same (g':=within (vs 1).2.1 (vs 1).2.2) HR1.out (fun b hg _=>hoth b (HN1.out b hg)) (fun _ _ k=>k)).forget
 have HGc:Hid (RdPol none ((wn.setRow g4 #[.int .i64 P.width,.slice i1 P.chans.length j1,.slice i2 P.arrays.length j2,.slice i3 P.funcs.length j3,.slice i4 P.main.length j4]).setRow g5 #[.slice s1 G.levels.length t1,.slice s2 G.order.length t2,.slice s3 G.chans.length t3,.slice s4 G.sites.length t4,.bool G.sens,.int .i64 G.steps,.int .i64 G.paths,.int .i64 G.nodes,.int .i64 G.confs]) G (.slice s1 G.levels.length t1) (.slice s2 G.order.length t2) (.slice s3 G.chans.length t3) (.slice s4 G.sites.length t4)):=(RdPol.same (g':=within (vs 3).2.1 (vs 3).2.2) HR3.out (fun b hg _=>hoth b (HN3.out b hg)) (fun _ _ k=>k)).forget
 have HB3:Hid (Below W2.heap.size W2 ((wn.setRow g4 #[.int .i64 P.width,.slice i1 P.chans.length j1,.slice i2 P.arrays.length j2,.slice i3 P.funcs.length j3,.slice i4 P.main.length j4]).setRow g5 #[.slice s1 G.levels.length t1,.slice s2 G.order.length t2,.slice s3 G.chans.length t3,.slice s4 G.sites.length t4,.bool G.sens,.int .i64 G.steps,.int .i64 G.paths,.int .i64 G.nodes,.int .i64 G.confs])):=below_row (below_row HBN.out hlo4 _) hlo5 _
 clear HR1 HR3 HG4 HG5 HN1 HN3 hoth HBN
 generalize (wn.setRow g4 #[.int .i64 P.width,.slice i1 P.chans.length j1,.slice i2 P.arrays.length j2,.slice i3 P.funcs.length j3,.slice i4 P.main.length j4]).setRow g5 #[.slice s1 G.levels.length t1,.slice s2 G.order.length t2,.slice s3 G.chans.length t3,.slice s4 G.sites.length t4,.bool G.sens,.int .i64 G.steps,.int .i64 G.paths,.int .i64 G.nodes,.int .i64 G.confs]=W3 at *
 have HL3:=Hd (HL2.out.keep HB3.out)
 have HM3:=Hd (HM2.out.keep HB3.out)
 have HT3:=Hd (HT2.out.keep HB3.out)
 have HP3:=Hd (HP1.out.keep HB3.out)
 have HG3:=Hd (HG1.out.keep HB3.out)
 have HX3:=Hd ((HB3.out.block _ (aE HY0.out).1).trans HY0.out)
 have HY3:=Hd ((HB3.out.block _ (aE HY1.out).1).trans HY1.out)
 have HB3w:=Hd (bcomp HBB.out HB3.out)
 have hrc:=rulesCheck P _ _ _ _ G _ _ _ _ W3 HPc.out HGc.out HL3.out HT3.out
 have hrr:=fun z (hz:Below W3.heap.size W3 z)=>refRulesC P (.slice a1 P.chans.length k1) (.slice a2 P.arrays.length k2) (.slice a3 P.funcs.length k3) (.slice a4 P.main.length k4) G (.slice b1 G.levels.length l1) (.slice b2 G.order.length l2) (.slice b3 G.chans.length l3) (.slice b4 G.sites.length l4) z (HP3.out.keep hz) (HG3.out.keep hz) (by have:=HPN.out;omega)
 obtain ⟨⟨⟨pl,pq⟩,ec⟩,hRC⟩:∃ r,rulesC P G=r:=⟨_,rfl⟩
 rw [hRC] at hrc
 have HRC:=Hd hrc
 have HRR:Hid (∀ z,Below W3.heap.size W3 z->Calls Tryz.prog 10 #[.agg #[.int .i64 P.width,.slice a1 P.chans.length k1,.slice a2 P.arrays.length k2,.slice a3 P.funcs.length k3,.slice a4 P.main.length k4],.agg #[.slice b1 G.levels.length l1,.slice b2 G.order.length l2,.slice b3 G.chans.length l3,.slice b4 G.sites.length l4,.bool G.sens,.int .i64 G.steps,.int .i64 G.paths,.int .i64 G.nodes,.int .i64 G.confs]] z fun e w'=>e=.returned (.tuple #[.agg #[.int .i64 pl,.int .i64 pq],.int .i64 ec])/\Below z.heap.size z w'):=fun z hz=>by
  have h1:=hrr z hz
  rw [hRC] at h1
  exact h1
 clear hrc hrr hRC HL2 HM2 HT2 HB3 HP1 HG1 HY0 HY1 HBB
 have c0:=row_of HZ4.out 0 (.int .i64 P.width) rfl
 have c1:=row_of HZ4.out 1 (.slice i1 P.chans.length j1) rfl
 have c2:=row_of HZ4.out 2 (.slice i2 P.arrays.length j2) rfl
 have c3:=row_of HZ4.out 3 (.slice i3 P.funcs.length j3) rfl
 have c4:=row_of HZ4.out 4 (.slice i4 P.main.length j4) rfl
 have d0:=row_of HZ5.out 0 (.slice s1 G.levels.length t1) rfl
 have d1:=row_of HZ5.out 1 (.slice s2 G.order.length t2) rfl
 have d2:=row_of HZ5.out 2 (.slice s3 G.chans.length t3) rfl
 have d3:=row_of HZ5.out 3 (.slice s4 G.sites.length t4) rfl
 have d4:=row_of HZ5.out 4 (.bool G.sens) rfl
 have d5:=row_of HZ5.out 5 (.int .i64 G.steps) rfl
 have d6:=row_of HZ5.out 6 (.int .i64 G.paths) rfl
 have d7:=row_of HZ5.out 7 (.int .i64 G.nodes) rfl
 have d8:=row_of HZ5.out 8 (.int .i64 G.confs) rfl
 go_upto_region 4 with (go_at_call 9;refine HRC.out.mono ?_;rintro e w4 ⟨rfl,hz⟩;have HZ:=Hd hz;clear hz)
 clear c0 c1 c2 c3 c4 d0 d1 d2 d3 d4 d5 d6 d7 d8 HRC
 have HX4:=Hd (heap_alloc_new w4 (.cells #[.int .i64 pl,.int .i64 pq] 35))
 have HB4:Hid (Below W3.heap.size W3 (w4.alloc (.cells #[.int .i64 pl,.int .i64 pq] 35))):=bcomp HZ.out ((bR _ _).alloc (nR _) _)
 generalize w4.alloc (.cells #[.int .i64 pl,.int .i64 pq] 35)=W4 at *
 obtain ⟨xb,hxb⟩:∃ xb,w4.heap.size=xb:=⟨_,rfl⟩
 rw [hxb] at HX4
 try rw [hxb]
 clear hxb HZ
 have HP4:=Hd ((HB4.out.block _ (aE HX3.out).1).trans HX3.out)
 have HQ4:=Hd ((HB4.out.block _ (aE HY3.out).1).trans HY3.out)
 have c0:=row_of HP4.out 0 (.int .i64 P.width) rfl
 have c1:=row_of HP4.out 1 (.slice a1 P.chans.length k1) rfl
 have c2:=row_of HP4.out 2 (.slice a2 P.arrays.length k2) rfl
 have c3:=row_of HP4.out 3 (.slice a3 P.funcs.length k3) rfl
 have c4:=row_of HP4.out 4 (.slice a4 P.main.length k4) rfl
 have d0:=row_of HQ4.out 0 (.slice b1 G.levels.length l1) rfl
 have d1:=row_of HQ4.out 1 (.slice b2 G.order.length l2) rfl
 have d2:=row_of HQ4.out 2 (.slice b3 G.chans.length l3) rfl
 have d3:=row_of HQ4.out 3 (.slice b4 G.sites.length l4) rfl
 have d4:=row_of HQ4.out 4 (.bool G.sens) rfl
 have d5:=row_of HQ4.out 5 (.int .i64 G.steps) rfl
 have d6:=row_of HQ4.out 6 (.int .i64 G.paths) rfl
 have d7:=row_of HQ4.out 7 (.int .i64 G.nodes) rfl
 have d8:=row_of HQ4.out 8 (.int .i64 G.confs) rfl
 go_upto_region 5 with (go_at_call 10;refine (HRR.out _ HB4.out).mono ?_;rintro e w5 ⟨rfl,hz⟩;have HZ:=Hd hz;clear hz)
 clear c0 c1 c2 c3 c4 d0 d1 d2 d3 d4 d5 d6 d7 d8 HRR
 have HX5:=Hd (heap_alloc_new w5 (.cells #[.int .i64 pl,.int .i64 pq] 35))
 have HB45:Hid (Below W4.heap.size W4 (w5.alloc (.cells #[.int .i64 pl,.int .i64 pq] 35))):=bcomp HZ.out ((bR _ _).alloc (nR _) _)
 generalize w5.alloc (.cells #[.int .i64 pl,.int .i64 pq] 35)=W5 at *
 obtain ⟨yb,hyb⟩:∃ yb,w5.heap.size=yb:=⟨_,rfl⟩
 rw [hyb] at HX5
 try rw [hyb]
 clear hyb HZ
 have HB5:=Hd (bcomp HB4.out HB45.out)
 have HX45:=Hd ((HB45.out.block _ (aE HX4.out).1).trans HX4.out)
 have HP5:=Hd ((HB5.out.block _ (aE HX3.out).1).trans HX3.out)
 have HQ5:=Hd ((HB5.out.block _ (aE HY3.out).1).trans HY3.out)
 have HC5:=Hd ((HB5.out.block _ (aE HZ4.out).1).trans HZ4.out)
 have HD5:=Hd ((HB5.out.block _ (aE HZ5.out).1).trans HZ5.out)
 have HEP:Hid (∀ z,Below W5.heap.size W5 z->Calls Tryz.prog 11 #[.agg #[.int .i64 P.width,.slice i1 P.chans.length j1,.slice i2 P.arrays.length j2,.slice i3 P.funcs.length j3,.slice i4 P.main.length j4],.agg #[.int .i64 P.width,.slice a1 P.chans.length k1,.slice a2 P.arrays.length k2,.slice a3 P.funcs.length k3,.slice a4 P.main.length k4]] z fun e w'=>e=.returned (.bool true)/\Below z.heap.size z w'):=fun z hz=>by
  have h1:=equalProg P P (.slice i1 P.chans.length j1) (.slice i2 P.arrays.length j2) (.slice i3 P.funcs.length j3) (.slice i4 P.main.length j4) (.slice a1 P.chans.length k1) (.slice a2 P.arrays.length k2) (.slice a3 P.funcs.length k3) (.slice a4 P.main.length k4) z (HPc.out.keep (bcomp HB5.out hz)) (HP3.out.keep (bcomp HB5.out hz))
  rw [eqProg_refl] at h1
  exact h1
 have hz1:RdPolZ W3 G (.slice s1 G.levels.length t1) (.slice s2 G.order.length t2) (.slice s3 G.chans.length t3) (.slice s4 G.sites.length t4):=⟨strs_of_row HGc.out.1,RdZ.of (K:=kPair) HGc.out.2.1 (by have:=HGL.out;omega),RdZ.of (K:=kBind) HGc.out.2.2.1 (by have:=HGL.out;omega),RdZ.of (K:=kBind) HGc.out.2.2.2.1 (by have:=HGL.out;omega)⟩
 have hz2:RdPolZ W3 G (.slice b1 G.levels.length l1) (.slice b2 G.order.length l2) (.slice b3 G.chans.length l3) (.slice b4 G.sites.length l4):=⟨strs_of_row HG3.out.1,RdZ.of (K:=kPair) HG3.out.2.1 (by have:=HGL.out;omega),RdZ.of (K:=kBind) HG3.out.2.2.1 (by have:=HGL.out;omega),RdZ.of (K:=kBind) HG3.out.2.2.2.1 (by have:=HGL.out;omega)⟩
 have HEQ:Hid (∀ z,Below W5.heap.size W5 z->Calls Tryz.prog 12 #[.agg #[.slice s1 G.levels.length t1,.slice s2 G.order.length t2,.slice s3 G.chans.length t3,.slice s4 G.sites.length t4,.bool G.sens,.int .i64 G.steps,.int .i64 G.paths,.int .i64 G.nodes,.int .i64 G.confs],.agg #[.slice b1 G.levels.length l1,.slice b2 G.order.length l2,.slice b3 G.chans.length l3,.slice b4 G.sites.length l4,.bool G.sens,.int .i64 G.steps,.int .i64 G.paths,.int .i64 G.nodes,.int .i64 G.confs]] z fun e w'=>e=.returned (.bool true)/\Below z.heap.size z w'):=fun z hz=>policySame G _ _ _ _ _ _ _ _ z (hz1.keep (bcomp HB5.out hz)) (hz2.keep (bcomp HB5.out hz))
 have HAA:Hid (∀ z,Below W5.heap.size W5 z->Calls Tryz.prog 13 #[] z fun e w'=>e=.returned (.bool true)/\Below z.heap.size z w'):=fun z hz=>HAW.out z (HL3.out.keep (bcomp HB5.out hz)) (HM3.out.keep (bcomp HB5.out hz)) (HT3.out.keep (bcomp HB5.out hz))
 have HTOT:=Hd (bcomp HB3w.out HB5.out)
 clear hz1 hz2 HX4 HP4 HQ4 HX3 HY3 HZ4 HZ5 hlo4 hlo5 hg45 HPc HGc HP3 HG3
 have x0:=row_of HX45.out 0 (.int .i64 pl) rfl
 have x1:=row_of HX45.out 1 (.int .i64 pq) rfl
 have y0:=row_of HX5.out 0 (.int .i64 pl) rfl
 have y1:=row_of HX5.out 1 (.int .i64 pq) rfl
 have c0:=row_of HC5.out 0 (.int .i64 P.width) rfl
 have c1:=row_of HC5.out 1 (.slice i1 P.chans.length j1) rfl
 have c2:=row_of HC5.out 2 (.slice i2 P.arrays.length j2) rfl
 have c3:=row_of HC5.out 3 (.slice i3 P.funcs.length j3) rfl
 have c4:=row_of HC5.out 4 (.slice i4 P.main.length j4) rfl
 have n0:=row_of HP5.out 0 (.int .i64 P.width) rfl
 have n1:=row_of HP5.out 1 (.slice a1 P.chans.length k1) rfl
 have n2:=row_of HP5.out 2 (.slice a2 P.arrays.length k2) rfl
 have n3:=row_of HP5.out 3 (.slice a3 P.funcs.length k3) rfl
 have n4:=row_of HP5.out 4 (.slice a4 P.main.length k4) rfl
 have d0:=row_of HD5.out 0 (.slice s1 G.levels.length t1) rfl
 have d1:=row_of HD5.out 1 (.slice s2 G.order.length t2) rfl
 have d2:=row_of HD5.out 2 (.slice s3 G.chans.length t3) rfl
 have d3:=row_of HD5.out 3 (.slice s4 G.sites.length t4) rfl
 have d4:=row_of HD5.out 4 (.bool G.sens) rfl
 have d5:=row_of HD5.out 5 (.int .i64 G.steps) rfl
 have d6:=row_of HD5.out 6 (.int .i64 G.paths) rfl
 have d7:=row_of HD5.out 7 (.int .i64 G.nodes) rfl
 have d8:=row_of HD5.out 8 (.int .i64 G.confs) rfl
 have m0:=row_of HQ5.out 0 (.slice b1 G.levels.length l1) rfl
 have m1:=row_of HQ5.out 1 (.slice b2 G.order.length l2) rfl
 have m2:=row_of HQ5.out 2 (.slice b3 G.chans.length l3) rfl
 have m3:=row_of HQ5.out 3 (.slice b4 G.sites.length l4) rfl
 have m4:=row_of HQ5.out 4 (.bool G.sens) rfl
 have m5:=row_of HQ5.out 5 (.int .i64 G.steps) rfl
 have m6:=row_of HQ5.out 6 (.int .i64 G.paths) rfl
 have m7:=row_of HQ5.out 7 (.int .i64 G.nodes) rfl
 have m8:=row_of HQ5.out 8 (.int .i64 G.confs) rfl
 go_wp2_with (first
  | (go_at_call 13;refine (HAA.out _ B7.out).mono ?_;rintro e z3 ⟨rfl,hz⟩;have B8:=Hd (bcomp B7.out hz);clear hz)
  | (go_at_call 12;refine (HEQ.out _ B6.out).mono ?_;rintro e z2 ⟨rfl,hz⟩;have B7:=Hd (bcomp B6.out hz);clear hz)
  | (go_at_call 11;refine (HEP.out _ (bR _ _)).mono ?_;rintro e z1 ⟨rfl,hz⟩;have B6:=Hd hz;clear hz;have D0:=cell_keep B6.out d0;have M0:=cell_keep B6.out m0;have D1:=cell_keep B6.out d1;have M1:=cell_keep B6.out m1;have D2:=cell_keep B6.out d2;have M2:=cell_keep B6.out m2;have D3:=cell_keep B6.out d3;have M3:=cell_keep B6.out m3;have D4:=cell_keep B6.out d4;have M4:=cell_keep B6.out m4;have D5:=cell_keep B6.out d5;have M5:=cell_keep B6.out m5;have D6:=cell_keep B6.out d6;have M6:=cell_keep B6.out m6;have D7:=cell_keep B6.out d7;have M7:=cell_keep B6.out m7;have D8:=cell_keep B6.out d8;have M8:=cell_keep B6.out m8))
 go_ret
 exact ⟨rfl,bcomp HTOT.out B8.out⟩
end Go.Proofs.YtgllkgedjplpdaaGreatDoor
