/- The walk of RulesLevels: Levels returns what the reference returns; results are new memory. Condition: the arguments read as the plain data; the tables hold what they are laid with; the chapter's examples hold. -/
import Derived.Test.YtgllkgedjplpdaaDoorRuB
import Derived.Test.YtgllkgedjplpdaaDoorRuP
set_option linter.all false
set_option maxRecDepth 1000000
set_option maxHeartbeats 12800000
set_option linter.unusedVariables false
set_option linter.unusedSimpArgs false
namespace Go.Proofs.YtgllkgedjplpdaaDoor
open Go.ChangeShapes Go.WideShapes Go.ChangeAt Go.RowKit
def IntsW (g:Nat→Prop) (w:World) (a:Option Addr) (n:Nat):Prop:=∀ i,i<n→∃ b o cs v,a=some ⟨b,o,none⟩∧g b∧w.heap[b]?=some (.cells cs 3 (0,0))∧cs[o+i]?=some (.int .i64 v)∧InI64 v
theorem IntsW.of {g:Nat→Prop} {w:World} {a:Option Addr} {n c:Nat} {l:List Int} (h:RdRow kInt (some g) w (.slice a n c) l):IntsW g w a n:=by
 obtain ⟨a',c',e,_,hr⟩:=h
 simp only [Value.slice.injEq] at e
 obtain ⟨rfl,rfl,_⟩:=e
 intro i hi
 obtain ⟨b,o,rfl,hf,hc,hz⟩:=hr i l[i] (List.getElem?_eq_getElem hi)
 obtain ⟨h1,cs,h2⟩:=hf g rfl
 have h3:=hc 0 (.int .i64 l[i]) rfl
 rw [cell_of_row w b _ cs _ (0,0) h2] at h3
 exact ⟨b,o,cs,l[i],rfl,h1,h2,by simpa [Nat.mul_one] using h3,hz⟩
theorem IntsW.keep {g:Nat→Prop} {w w':World} {a:Option Addr} {n:Nat} (h:IntsW g w a n) (k:Below w.heap.size w w'):IntsW g w' a n:=by
 intro i hi
 obtain ⟨b,o,cs,v,e,h1,h2,h3,h4⟩:=h i hi
 exact ⟨b,o,cs,v,e,h1,(k.block _ (Array.getElem?_eq_some_iff.1 h2).1).trans h2,h3,h4⟩
theorem IntsW.set {g:Nat→Prop} {w:World} {a:Option Addr} {n:Nat} (h:IntsW g w a n) {b o:Nat} {cs:Array Value} {v:Int} (hb:w.heap[b]?=some (.cells cs 3 (0,0))) (hv:InI64 v):IntsW g (w.setCell ⟨b,o,none⟩ (.int .i64 v)) a n:=by
 intro i hi
 obtain ⟨b1,o1,cs1,v1,e,h1,h2,h3,h4⟩:=h i hi
 by_cases hbb:b1=b
 ·subst hbb
  rw [hb] at h2
  simp only [Option.some.injEq,Obj.cells.injEq,and_true] at h2
  obtain rfl:cs=cs1:=h2
  by_cases hoo:o=o1+i
  ·refine ⟨b1,o1,_,v,e,h1,heap_setCell_same _ _ _ _ _ _ hb,?_,hv⟩
   rw [Array.getElem?_setIfInBounds]
   have:=(Array.getElem?_eq_some_iff.1 h3).1
   rw [if_pos hoo,if_pos (by omega)]
  ·refine ⟨b1,o1,_,v1,e,h1,heap_setCell_same _ _ _ _ _ _ hb,?_,h4⟩
   rw [Array.getElem?_setIfInBounds,if_neg hoo];exact h3
 ·exact ⟨b1,o1,cs1,v1,e,h1,(heap_setCell_other _ _ _ _ hbb).trans h2,h3,h4⟩
theorem wrap_i64U (x:Int):InI64 (wrap64 x):=by
 unfold wrap64 InI64
 omega
theorem eqL_selfU:∀ l:List Int,eqL eqInt l l=true:=by
 intro l
 induction l with
 | nil=>rfl
 | cons x r ih=>simp [eqL,eqInt,ih]
theorem LevSaid.keep {E:Int} {f:FlatD} {q:PolD} {b:Nat} {w w':World} {v1 v2:Value} (h:LevSaid E f q b w v1 v2) (k:Below w.heap.size w w'):LevSaid E f q b w' v1 v2:=⟨fun e=>⟨(h.1 e).1.keep k,(h.1 e).2.keep k⟩,h.2⟩
theorem LevSaid.slice1 {E:Int} {f:FlatD} {q:PolD} {b:Nat} {w:World} {v1 v2:Value} (h:LevSaid E f q b w v1 v2):∃ x y z,v1=.slice x y z:=by
 by_cases he:E=0
 ·obtain ⟨a,c,e⟩:=(h.1 he).1.is;exact ⟨a,_,c,e⟩
 ·exact ⟨_,_,_,(h.2 he).1⟩
theorem LevSaid.slice2 {E:Int} {f:FlatD} {q:PolD} {b:Nat} {w:World} {v1 v2:Value} (h:LevSaid E f q b w v1 v2):∃ x y z,v2=.slice x y z:=by
 by_cases he:E=0
 ·obtain ⟨a,c,e⟩:=(h.1 he).2.is;exact ⟨a,_,c,e⟩
 ·exact ⟨_,_,_,(h.2 he).2⟩
theorem LevSaid.rows1 {E:Int} {f:FlatD} {q:PolD} {b b':Nat} {w:World} {v1 v2 u1 u2:Value} (h:LevSaid E f q b w v1 v2) (g:LevSaid E f q b' w u1 u2):∃ l,RdRow kInt none w v1 l∧RdRow kInt none w u1 l:=by
 by_cases he:E=0
 ·exact ⟨_,(h.1 he).1.forget,(g.1 he).1.forget⟩
 ·rw [(h.2 he).1,(g.2 he).1];exact ⟨[],nilRow _ _ _,nilRow _ _ _⟩
theorem LevSaid.rows2 {E:Int} {f:FlatD} {q:PolD} {b b':Nat} {w:World} {v1 v2 u1 u2:Value} (h:LevSaid E f q b w v1 v2) (g:LevSaid E f q b' w u1 u2):∃ l,RdRow kInt none w v2 l∧RdRow kInt none w u2 l:=by
 by_cases he:E=0
 ·exact ⟨_,(h.1 he).2.forget,(g.1 he).2.forget⟩
 ·rw [(h.2 he).2,(g.2 he).2];exact ⟨[],nilRow _ _ _,nilRow _ _ _⟩
theorem LevSaid.ints1 {E:Int} {f:FlatD} {q:PolD} {b:Nat} {w:World} {a a2:Option Addr} {n c n2 c2:Nat} (h:LevSaid E f q b w (.slice a n c) (.slice a2 n2 c2)):IntsW (upFrom b) w a n:=by
 by_cases he:E=0
 ·exact IntsW.of (h.1 he).1
 ·have:=(h.2 he).1
  simp only [Value.slice.injEq] at this
  obtain ⟨rfl,rfl,rfl⟩:=this
  intro i hi;omega
theorem LevSaid.ints2 {E:Int} {f:FlatD} {q:PolD} {b:Nat} {w:World} {a a2:Option Addr} {n c n2 c2:Nat} (h:LevSaid E f q b w (.slice a n c) (.slice a2 n2 c2)):IntsW (upFrom b) w a2 n2:=by
 by_cases he:E=0
 ·exact IntsW.of (h.1 he).2
 ·have:=(h.2 he).2
  simp only [Value.slice.injEq] at this
  obtain ⟨rfl,rfl,rfl⟩:=this
  intro i hi;omega
theorem LevSaid.small {E:Int} {f:FlatD} {q:PolD} {b:Nat} {w:World} {a a2:Option Addr} {n c n2 c2:Nat} (h:LevSaid E f q b w (.slice a n c) (.slice a2 n2 c2)):n≤100000000000000∧n2≤100000000000000:=by
 by_cases he:E=0
 ·have h1:=(h.1 he).1
  have h2:=(h.1 he).2
  obtain ⟨_,_,e1⟩:=h1.is
  obtain ⟨_,_,e2⟩:=h2.is
  simp only [Value.slice.injEq] at e1 e2
  have g1:_ * 8≤_:=h1.size
  have g2:_ * 8≤_:=h2.size
  obtain ⟨_,e1,_⟩:=e1
  obtain ⟨_,e2,_⟩:=e2
  omega
 ·have h1:=(h.2 he).1
  have h2:=(h.2 he).2
  simp only [Value.slice.injEq] at h1 h2
  obtain ⟨_,e1,_⟩:=h1
  obtain ⟨_,e2,_⟩:=h2
  omega
theorem rulesLevels_of (hAw:∀ w,Laid w→LaidM w→BitsAt w→Calls Tryd.prog 13 #[] w fun e w'=>e=.returned (.bool true)∧Below w.heap.size w w') (f:FlatD) (fc fs fa fk:Value) (q:PolD) (lv ov cv sv:Value) (w:World) (h:RdFlat none w f fc fs fa fk) (g:RdPol none w q lv ov cv sv) (hL:Laid w) (hM:LaidM w) (hT:BitsAt w) :
  Calls Tryd.prog 3 #[flatV f fc fs fa fk,polV q lv ov cv sv] w fun e w'=>e=.returned (.bool true)∧Below w.heap.size w w':=by
 obtain ⟨ca,cc,rfl⟩:=h.1.is
 obtain ⟨sa,sc,rfl⟩:=h.2.1.is
 obtain ⟨aa,ac,rfl⟩:=h.2.2.1.is
 obtain ⟨ka,kc,rfl⟩:=h.2.2.2.1.is
 obtain ⟨la,lc,rfl⟩:=g.1.is
 obtain ⟨oa,oc,rfl⟩:=g.2.1.is
 obtain ⟨pa,pc,rfl⟩:=g.2.2.1.is
 obtain ⟨ta,tc,rfl⟩:=g.2.2.2.1.is
 obtain ⟨hx0,hx1,hb0⟩:=heap2_of (w:=w) (A:=.cells #[.int .i64 f.width,.int .i64 f.regs,.slice ca f.chans.length cc,.slice sa f.sites.length sc,.slice aa f.arrays.length ac,.slice ka f.code.length kc] 26) (B:=.cells #[.slice la q.levels.length lc,.slice oa q.order.length oc,.slice pa q.chans.length pc,.slice ta q.sites.length tc,.bool q.sens,.int .i64 q.steps,.int .i64 q.paths,.int .i64 q.nodes,.int .i64 q.confs] 30) (Below.refl _ _)
 have H:=Lib.hid (h.keep hb0)
 have G0:=Lib.hid (g.keep hb0)
 have HL:=Lib.hid hL
 have HM:=Lib.hid hM
 have HT:=Lib.hid hT
 have HX0:=Lib.hid hx0
 have HX1:=Lib.hid hx1
 have HB0:=Lib.hid hb0
 have HAW:=Lib.hid hAw
 clear h g hL hM hT hx0 hx1 hb0 hAw
 go_enter Tryd.func3,Tryd.ntmps3
 go_upto_region 1 with fail
 generalize (w.alloc (.cells #[.int .i64 f.width,.int .i64 f.regs,.slice ca f.chans.length cc,.slice sa f.sites.length sc,.slice aa f.arrays.length ac,.slice ka f.code.length kc] 26)).alloc (.cells #[.slice la q.levels.length lc,.slice oa q.order.length oc,.slice pa q.chans.length pc,.slice ta q.sites.length tc,.bool q.sens,.int .i64 q.steps,.int .i64 q.paths,.int .i64 q.nodes,.int .i64 q.confs] 30)=W at *
 obtain ⟨fb,hfb⟩:∃ fb,w.heap.size=fb:=⟨_,rfl⟩
 have HFB:=Lib.hid hfb
 rw [hfb] at HX0 HX1
 rw [hfb]
 clear hfb
 obtain ⟨F,hF⟩:∃ F,shortF f=F:=⟨_,rfl⟩
 obtain ⟨G,hG⟩:∃ G,fewQ q=G:=⟨_,rfl⟩
 have HS1:Hid (∀ z,Below W.heap.size W z→Calls Tryd.prog 8 #[.agg #[.int .i64 f.width,.int .i64 f.regs,.slice ca f.chans.length cc,.slice sa f.sites.length sc,.slice aa f.arrays.length ac,.slice ka f.code.length kc]] z (FlatNew F z)):=fun z hz=>by rw [← hF];exact short25 f _ _ _ _ z (H.out.keep hz)
 have HS2:Hid (∀ z,Below W.heap.size W z→Calls Tryd.prog 9 #[.agg #[.slice la q.levels.length lc,.slice oa q.order.length oc,.slice pa q.chans.length pc,.slice ta q.sites.length tc,.bool q.sens,.int .i64 q.steps,.int .i64 q.paths,.int .i64 q.nodes,.int .i64 q.confs]] z (PolNew G z)):=fun z hz=>by rw [← hG];exact few28 q _ _ _ _ z (G0.out.keep hz)
 clear hF hG
 refine wp_region_own [0,2] [⟨1,some 15,[]⟩,⟨3,some 17,[(1,some 15)]⟩] [4,5] [_,_] (fun j=>decide (4≤j))
  (fun j v w' lo hi=>match j with
    | 1=>∃ a1 k1 a2 k2 a3 k3 a4 k4,v=.agg #[.int .i64 F.width,.int .i64 F.regs,.slice a1 F.chans.length k1,.slice a2 F.sites.length k2,.slice a3 F.arrays.length k3,.slice a4 F.code.length k4]∧RdFlat (some (upFrom W.heap.size)) w' F (.slice a1 F.chans.length k1) (.slice a2 F.sites.length k2) (.slice a3 F.arrays.length k3) (.slice a4 F.code.length k4)
    | 3=>∃ b1 l1 b2 l2 b3 l3 b4 l4,v=.agg #[.slice b1 G.levels.length l1,.slice b2 G.order.length l2,.slice b3 G.chans.length l3,.slice b4 G.sites.length l4,.bool G.sens,.int .i64 G.steps,.int .i64 G.paths,.int .i64 G.nodes,.int .i64 G.confs]∧RdPol (some (upFrom W.heap.size)) w' G (.slice b1 G.levels.length l1) (.slice b2 G.order.length l2) (.slice b3 G.chans.length l3) (.slice b4 G.sites.length l4)
    | _=>True) (by kernel_rfl) (by kernel_rfl) rfl (by kernel_rfl) rfl rfl (fun _ d _ _ _ h=>by cases d <;> exact h) ?_ ?_
 ·intro j v w w' lo hi hy hbw
  match j,hy with
  | 1,⟨a1,k1,a2,k2,a3,k3,a4,k4,e,h1⟩=>exact ⟨a1,k1,a2,k2,a3,k3,a4,k4,e,h1.keep hbw⟩
  | 3,⟨a1,k1,a2,k2,a3,k3,a4,k4,e,h1⟩=>exact ⟨a1,k1,a2,k2,a3,k3,a4,k4,e,h1.keep hbw⟩
  | 0,_|2,_|(x+4),_=>trivial
 have e0:=ext_cell (row_of HX0.out 0 (.int .i64 f.width) rfl)
 have e1:=ext_cell (row_of HX0.out 1 (.int .i64 f.regs) rfl)
 have e2:=ext_cell (row_of HX0.out 2 (.slice ca f.chans.length cc) rfl)
 have e3:=ext_cell (row_of HX0.out 3 (.slice sa f.sites.length sc) rfl)
 have e4:=ext_cell (row_of HX0.out 4 (.slice aa f.arrays.length ac) rfl)
 have e5:=ext_cell (row_of HX0.out 5 (.slice ka f.code.length kc) rfl)
 have d0:=ext_cell (row_of HX1.out 0 (.slice la q.levels.length lc) rfl)
 have d1:=ext_cell (row_of HX1.out 1 (.slice oa q.order.length oc) rfl)
 have d2:=ext_cell (row_of HX1.out 2 (.slice pa q.chans.length pc) rfl)
 have d3:=ext_cell (row_of HX1.out 3 (.slice ta q.sites.length tc) rfl)
 have d4:=ext_cell (row_of HX1.out 4 (.bool q.sens) rfl)
 have d5:=ext_cell (row_of HX1.out 5 (.int .i64 q.steps) rfl)
 have d6:=ext_cell (row_of HX1.out 6 (.int .i64 q.paths) rfl)
 have d7:=ext_cell (row_of HX1.out 7 (.int .i64 q.nodes) rfl)
 have d8:=ext_cell (row_of HX1.out 8 (.int .i64 q.confs) rfl)
 refine mix_reads (by simp only [opsOf,List.filterMap_cons,List.filterMap_nil,List.getElem?_toArray,List.getElem?_cons_succ,List.getElem?_cons_zero];rfl) ⟨_,ext_of (Below.refl _ _).drew⟩ ?_
 change wpQuiet _ _ _ _ [_,_] _
 (repeat (go_big_quiet_step (fail)))
 refine wpQuiet_nil ?_
 clear e0 e1 e2 e3 e4 e5 d0 d1 d2 d3 d4 d5 d6 d7 d8
 have HD:Hid (Below W.heap.size W W.drew):=(Below.refl _ _).drew
 refine ⟨⟨fun vs wn hb hn=>?_,fun vs wn hb hn=>?_,trivial⟩,fun vs wn hb hy hd=>?_⟩
 ·clear hn
  have HBN:=Lib.hid (bcomp HD.out hb)
  clear hb
  refine mix_step rfl ?_
  simp only [pv]
  go_wp2_with (go_at_call 8;refine (HS1.out _ HBN.out).mono ?_;rintro e wz ⟨c,s,a,k,rfl,hr,hz⟩)
  obtain ⟨a1,k1,rfl⟩:=hr.1.is
  obtain ⟨a2,k2,rfl⟩:=hr.2.1.is
  obtain ⟨a3,k3,rfl⟩:=hr.2.2.1.is
  obtain ⟨a4,k4,rfl⟩:=hr.2.2.2.1.is
  exact ⟨_,rfl,hz,a1,k1,a2,k2,a3,k3,a4,k4,rfl,hr.up HBN.out.size⟩
 ·clear hn
  have HBN:=Lib.hid (bcomp HD.out hb)
  clear hb
  refine mix_step rfl ?_
  simp only [pv]
  go_wp2_with (go_at_call 9;refine (HS2.out _ HBN.out).mono ?_;rintro e wz ⟨c,s,a,k,rfl,hr,hz⟩)
  obtain ⟨a1,k1,rfl⟩:=hr.1.is
  obtain ⟨a2,k2,rfl⟩:=hr.2.1.is
  obtain ⟨a3,k3,rfl⟩:=hr.2.2.1.is
  obtain ⟨a4,k4,rfl⟩:=hr.2.2.2.1.is
  exact ⟨_,rfl,hz,a1,k1,a2,k2,a3,k3,a4,k4,rfl,hr.up HBN.out.size⟩
 obtain ⟨⟨a1,k1,a2,k2,a3,k3,a4,k4,em1,hr1⟩,⟨b1,l1,b2,l2,b3,l3,b4,l4,em2,hr2⟩⟩:(∃ a1 k1 a2 k2 a3 k3 a4 k4,(vs 1).1=.agg #[.int .i64 F.width,.int .i64 F.regs,.slice a1 F.chans.length k1,.slice a2 F.sites.length k2,.slice a3 F.arrays.length k3,.slice a4 F.code.length k4]∧RdFlat (some (upFrom W.heap.size)) wn F (.slice a1 F.chans.length k1) (.slice a2 F.sites.length k2) (.slice a3 F.arrays.length k3) (.slice a4 F.code.length k4))∧(∃ b1 l1 b2 l2 b3 l3 b4 l4,(vs 3).1=.agg #[.slice b1 G.levels.length l1,.slice b2 G.order.length l2,.slice b3 G.chans.length l3,.slice b4 G.sites.length l4,.bool G.sens,.int .i64 G.steps,.int .i64 G.paths,.int .i64 G.nodes,.int .i64 G.confs]∧RdPol (some (upFrom W.heap.size)) wn G (.slice b1 G.levels.length l1) (.slice b2 G.order.length l2) (.slice b3 G.chans.length l3) (.slice b4 G.sites.length l4)):=⟨(hy ⟨1,some 15,[]⟩ (by simp)).1,(hy ⟨3,some 17,[(1,some 15)]⟩ (by simp)).1⟩
 have HBN:=Lib.hid (bcomp HD.out hb)
 have HR1:=Lib.hid hr1
 have HR2:=Lib.hid hr2
 clear hy hd hb HS1 HS2 hr1 hr2 HD H G0
 simp only [List.map,Maker.pr,pv]
 rw [em1,em2]
 clear em1 em2
 simp only [Act.put,List.setIfInBounds_toArray,List.set_cons_succ,List.set_cons_zero,List.getElem_toArray,List.getElem_cons_succ,List.getElem_cons_zero]
 have HXa:=Lib.hid ((HBN.out.block _ (Array.getElem?_eq_some_iff.1 HX0.out).1).trans HX0.out)
 have HXb:=Lib.hid ((HBN.out.block _ (Array.getElem?_eq_some_iff.1 HX1.out).1).trans HX1.out)
 go_upto_region 2 with (first|(refine wpList_store_row rfl 26 (.tmp 2) (.tmp 15) rfl fb #[.int .i64 F.width,.int .i64 F.regs,.slice a1 F.chans.length k1,.slice a2 F.sites.length k2,.slice a3 F.arrays.length k3,.slice a4 F.code.length k4] rfl rfl 26 #[.int .i64 f.width,.int .i64 f.regs,.slice ca f.chans.length cc,.slice sa f.sites.length sc,.slice aa f.arrays.length ac,.slice ka f.code.length kc] ?hs1 (by as_aux_lemma=>kernel_rfl) (by as_aux_lemma=>kernel_rfl) (by as_aux_lemma=>kernel_rfl) ?_;exact HXa.out)|(refine wpList_store_row rfl 30 (.tmp 3) (.tmp 17) rfl (fb+1) #[.slice b1 G.levels.length l1,.slice b2 G.order.length l2,.slice b3 G.chans.length l3,.slice b4 G.sites.length l4,.bool G.sens,.int .i64 G.steps,.int .i64 G.paths,.int .i64 G.nodes,.int .i64 G.confs] rfl rfl 30 #[.slice la q.levels.length lc,.slice oa q.order.length oc,.slice pa q.chans.length pc,.slice ta q.sites.length tc,.bool q.sens,.int .i64 q.steps,.int .i64 q.paths,.int .i64 q.nodes,.int .i64 q.confs] ?hs2 (by as_aux_lemma=>kernel_rfl) (by as_aux_lemma=>kernel_rfl) (by as_aux_lemma=>kernel_rfl) ?_;exact (setRow_other _ _ _ _ (by omega)).trans HXb.out))
 try simp only [Act.put]
 have HY0:Hid (((wn.setRow fb #[.int .i64 F.width,.int .i64 F.regs,.slice a1 F.chans.length k1,.slice a2 F.sites.length k2,.slice a3 F.arrays.length k3,.slice a4 F.code.length k4]).setRow (fb+1) #[.slice b1 G.levels.length l1,.slice b2 G.order.length l2,.slice b3 G.chans.length l3,.slice b4 G.sites.length l4,.bool G.sens,.int .i64 G.steps,.int .i64 G.paths,.int .i64 G.nodes,.int .i64 G.confs]).heap[fb]?=some (.cells #[.int .i64 F.width,.int .i64 F.regs,.slice a1 F.chans.length k1,.slice a2 F.sites.length k2,.slice a3 F.arrays.length k3,.slice a4 F.code.length k4] 26 (0,0))):=(setRow_other _ _ _ _ (by omega)).trans (setRow_heap _ _ _ _ _ _ HXa.out)
 have HY1:Hid (((wn.setRow fb #[.int .i64 F.width,.int .i64 F.regs,.slice a1 F.chans.length k1,.slice a2 F.sites.length k2,.slice a3 F.arrays.length k3,.slice a4 F.code.length k4]).setRow (fb+1) #[.slice b1 G.levels.length l1,.slice b2 G.order.length l2,.slice b3 G.chans.length l3,.slice b4 G.sites.length l4,.bool G.sens,.int .i64 G.steps,.int .i64 G.paths,.int .i64 G.nodes,.int .i64 G.confs]).heap[fb+1]?=some (.cells #[.slice b1 G.levels.length l1,.slice b2 G.order.length l2,.slice b3 G.chans.length l3,.slice b4 G.sites.length l4,.bool G.sens,.int .i64 G.steps,.int .i64 G.paths,.int .i64 G.nodes,.int .i64 G.confs] 30 (0,0))):=setRow_heap _ _ _ _ _ _ ((setRow_other _ _ _ _ (by omega)).trans HXb.out)
 have hlt:fb+1<W.heap.size:=(Array.getElem?_eq_some_iff.1 HX1.out).1
 have hoth:∀ b,W.heap.size≤b→((wn.setRow fb #[.int .i64 F.width,.int .i64 F.regs,.slice a1 F.chans.length k1,.slice a2 F.sites.length k2,.slice a3 F.arrays.length k3,.slice a4 F.code.length k4]).setRow (fb+1) #[.slice b1 G.levels.length l1,.slice b2 G.order.length l2,.slice b3 G.chans.length l3,.slice b4 G.sites.length l4,.bool G.sens,.int .i64 G.steps,.int .i64 G.paths,.int .i64 G.nodes,.int .i64 G.confs]).heap[b]?=wn.heap[b]?:=fun b hb=>(setRow_other _ _ _ _ (by omega)).trans (setRow_other _ _ _ _ (by omega))
 have HF1:Hid (RdFlat none ((wn.setRow fb #[.int .i64 F.width,.int .i64 F.regs,.slice a1 F.chans.length k1,.slice a2 F.sites.length k2,.slice a3 F.arrays.length k3,.slice a4 F.code.length k4]).setRow (fb+1) #[.slice b1 G.levels.length l1,.slice b2 G.order.length l2,.slice b3 G.chans.length l3,.slice b4 G.sites.length l4,.bool G.sens,.int .i64 G.steps,.int .i64 G.paths,.int .i64 G.nodes,.int .i64 G.confs]) F (.slice a1 F.chans.length k1) (.slice a2 F.sites.length k2) (.slice a3 F.arrays.length k3) (.slice a4 F.code.length k4)):=(RdFlat.same (g':=upFrom W.heap.size) HR1.out (fun b hg _=>hoth b hg) (fun _ _ k=>k)).forget
 have HG1:Hid (RdPol none ((wn.setRow fb #[.int .i64 F.width,.int .i64 F.regs,.slice a1 F.chans.length k1,.slice a2 F.sites.length k2,.slice a3 F.arrays.length k3,.slice a4 F.code.length k4]).setRow (fb+1) #[.slice b1 G.levels.length l1,.slice b2 G.order.length l2,.slice b3 G.chans.length l3,.slice b4 G.sites.length l4,.bool G.sens,.int .i64 G.steps,.int .i64 G.paths,.int .i64 G.nodes,.int .i64 G.confs]) G (.slice b1 G.levels.length l1) (.slice b2 G.order.length l2) (.slice b3 G.chans.length l3) (.slice b4 G.sites.length l4)):=(RdPol.same (g':=upFrom W.heap.size) HR2.out (fun b hg _=>hoth b hg) (fun _ _ k=>k)).forget
 have HBB:Hid (Below w.heap.size w ((wn.setRow fb #[.int .i64 F.width,.int .i64 F.regs,.slice a1 F.chans.length k1,.slice a2 F.sites.length k2,.slice a3 F.arrays.length k3,.slice a4 F.code.length k4]).setRow (fb+1) #[.slice b1 G.levels.length l1,.slice b2 G.order.length l2,.slice b3 G.chans.length l3,.slice b4 G.sites.length l4,.bool G.sens,.int .i64 G.steps,.int .i64 G.paths,.int .i64 G.nodes,.int .i64 G.confs])):=below_row (below_row (bcomp HB0.out HBN.out) (by have:=HFB.out;omega) _) (by have:=HFB.out;omega) _
 clear HX0 HX1 HB0 HBN HR1 HR2 HXa HXb hlt hoth
 generalize (wn.setRow fb #[.int .i64 F.width,.int .i64 F.regs,.slice a1 F.chans.length k1,.slice a2 F.sites.length k2,.slice a3 F.arrays.length k3,.slice a4 F.code.length k4]).setRow (fb+1) #[.slice b1 G.levels.length l1,.slice b2 G.order.length l2,.slice b3 G.chans.length l3,.slice b4 G.sites.length l4,.bool G.sens,.int .i64 G.steps,.int .i64 G.paths,.int .i64 G.nodes,.int .i64 G.confs]=W2 at *
 obtain ⟨E,hE⟩:∃ E,rulesErr F G=E:=⟨_,rfl⟩
 have hee:(E == E)=true:=by simp
 have hREF:=refRules F _ _ _ _ G _ _ _ _ W2 HF1.out HG1.out
 rw [hE] at hREF
 have HREF:Hid (Calls Tryd.prog 10 #[.agg #[.int .i64 F.width,.int .i64 F.regs,.slice a1 F.chans.length k1,.slice a2 F.sites.length k2,.slice a3 F.arrays.length k3,.slice a4 F.code.length k4],.agg #[.slice b1 G.levels.length l1,.slice b2 G.order.length l2,.slice b3 G.chans.length l3,.slice b4 G.sites.length l4,.bool G.sens,.int .i64 G.steps,.int .i64 G.paths,.int .i64 G.nodes,.int .i64 G.confs]] W2 fun e w'=>∃ x1 y1 z1 x2 y2 z2,e=.returned (.tuple #[.slice x1 y1 z1,.slice x2 y2 z2,.int .i64 E])∧LevSaid E F G W2.heap.size w' (.slice x1 y1 z1) (.slice x2 y2 z2)∧Below W2.heap.size W2 w'):=by
  refine hREF.mono ?_
  rintro e w' ⟨v1,v2,rfl,hl,hz⟩
  obtain ⟨x1,y1,z1,rfl⟩:=hl.slice1
  obtain ⟨x2,y2,z2,rfl⟩:=hl.slice2
  exact ⟨x1,y1,z1,x2,y2,z2,rfl,hl,hz⟩
 have f0:=row_of HY0.out 0 (.int .i64 F.width) rfl
 have f1:=row_of HY0.out 1 (.int .i64 F.regs) rfl
 have f2:=row_of HY0.out 2 (.slice a1 F.chans.length k1) rfl
 have f3:=row_of HY0.out 3 (.slice a2 F.sites.length k2) rfl
 have f4:=row_of HY0.out 4 (.slice a3 F.arrays.length k3) rfl
 have f5:=row_of HY0.out 5 (.slice a4 F.code.length k4) rfl
 have g0:=row_of HY1.out 0 (.slice b1 G.levels.length l1) rfl
 have g1:=row_of HY1.out 1 (.slice b2 G.order.length l2) rfl
 have g2:=row_of HY1.out 2 (.slice b3 G.chans.length l3) rfl
 have g3:=row_of HY1.out 3 (.slice b4 G.sites.length l4) rfl
 have g4:=row_of HY1.out 4 (.bool G.sens) rfl
 have g5:=row_of HY1.out 5 (.int .i64 G.steps) rfl
 have g6:=row_of HY1.out 6 (.int .i64 G.paths) rfl
 have g7:=row_of HY1.out 7 (.int .i64 G.nodes) rfl
 have g8:=row_of HY1.out 8 (.int .i64 G.confs) rfl
 clear hREF
 go_upto_region 3 with (go_at_call 10;refine HREF.out.mono ?_;rintro e W3 ⟨x1,y1,z1,x2,y2,z2,rfl,hl,hz⟩;have HLV:=Lib.hid hl;have B3:=Lib.hid hz;clear hl hz)
 clear f0 f1 f2 f3 f4 f5 g0 g1 g2 g3 g4 g5 g6 g7 g8 HREF
 have HY0a:=Lib.hid ((B3.out.block _ (Array.getElem?_eq_some_iff.1 HY0.out).1).trans HY0.out)
 have HY1a:=Lib.hid ((B3.out.block _ (Array.getElem?_eq_some_iff.1 HY1.out).1).trans HY1.out)
 have HF3:=Lib.hid (HF1.out.keep B3.out)
 have HG3:=Lib.hid (HG1.out.keep B3.out)
 have HB3:=Lib.hid (bcomp HBB.out B3.out)
 have HE:=Lib.hid hE
 clear HY0 HY1 HF1 HG1 HBB hE B3
 go_wp2_with fail
 go_loopw [8,9,10,11,12,13] (fun i _ _ _ _ _ wr=>∃ k:Nat,k≤2∧i=.int .i64 k∧Below W3.heap.size W3 wr) (fun i _ _ _ _ _ _=>2 - (intOf i).toNat)
 case atStart=>exact ⟨0,by omega,rfl,Below.refl _ _⟩
 case round=>
  obtain ⟨k,hk,rfl,hb⟩:=hrel
  obtain ⟨W4,rfl⟩:∃ x:World,x=wr:=⟨_,rfl⟩
  have HB4:=Lib.hid hb
  clear hb
  by_cases hlt:k<2
  rotate_left
  ·obtain rfl:k=2:=by omega
   have hlt2:¬ ((2:Nat):Int)<2:=by omega
   have HBE:=Lib.hid (bcomp HB3.out HB4.out)
   have HA:=Lib.hid (HAW.out W4 (HL.out.keep HBE.out) (HM.out.keep HBE.out) (HT.out.keep HBE.out))
   clear hk hlt
   go_wp2_with (go_at_call 13;refine HA.out.mono ?_;rintro e z ⟨rfl,hz⟩;have BZ:=Lib.hid hz;clear hz)
   go_ret
   exact ⟨rfl,bcomp HBE.out BZ.out⟩
  have hlt2:(k:Int)<2:=by omega
  have HY0b:=Lib.hid ((HB4.out.block _ (Array.getElem?_eq_some_iff.1 HY0a.out).1).trans HY0a.out)
  have HY1b:=Lib.hid ((HB4.out.block _ (Array.getElem?_eq_some_iff.1 HY1a.out).1).trans HY1a.out)
  have HBE:=Lib.hid (bcomp HB3.out HB4.out)
  have hLEV:=rulesLevels F _ _ _ _ G _ _ _ _ W4 (HF3.out.keep HB4.out) (HG3.out.keep HB4.out) (HM.out.keep HBE.out) (HT.out.keep HBE.out)
  rw [HE.out] at hLEV
  have HLEV:Hid (Calls Tryd.prog 11 #[.agg #[.int .i64 F.width,.int .i64 F.regs,.slice a1 F.chans.length k1,.slice a2 F.sites.length k2,.slice a3 F.arrays.length k3,.slice a4 F.code.length k4],.agg #[.slice b1 G.levels.length l1,.slice b2 G.order.length l2,.slice b3 G.chans.length l3,.slice b4 G.sites.length l4,.bool G.sens,.int .i64 G.steps,.int .i64 G.paths,.int .i64 G.nodes,.int .i64 G.confs]] W4 fun e w'=>∃ u1 n1 t1 u2 n2 t2,e=.returned (.tuple #[.slice u1 n1 t1,.slice u2 n2 t2,.int .i64 E])∧LevSaid E F G W4.heap.size w' (.slice u1 n1 t1) (.slice u2 n2 t2)∧Below W4.heap.size W4 w'):=by
   refine hLEV.mono ?_
   rintro e w' ⟨v1,v2,rfl,hl,hz⟩
   obtain ⟨u1,n1,t1,rfl⟩:=hl.slice1
   obtain ⟨u2,n2,t2,rfl⟩:=hl.slice2
   exact ⟨u1,n1,t1,u2,n2,t2,rfl,hl,hz⟩
  have f0:=row_of HY0b.out 0 (.int .i64 F.width) rfl
  have f1:=row_of HY0b.out 1 (.int .i64 F.regs) rfl
  have f2:=row_of HY0b.out 2 (.slice a1 F.chans.length k1) rfl
  have f3:=row_of HY0b.out 3 (.slice a2 F.sites.length k2) rfl
  have f4:=row_of HY0b.out 4 (.slice a3 F.arrays.length k3) rfl
  have f5:=row_of HY0b.out 5 (.slice a4 F.code.length k4) rfl
  have g0:=row_of HY1b.out 0 (.slice b1 G.levels.length l1) rfl
  have g1:=row_of HY1b.out 1 (.slice b2 G.order.length l2) rfl
  have g2:=row_of HY1b.out 2 (.slice b3 G.chans.length l3) rfl
  have g3:=row_of HY1b.out 3 (.slice b4 G.sites.length l4) rfl
  have g4:=row_of HY1b.out 4 (.bool G.sens) rfl
  have g5:=row_of HY1b.out 5 (.int .i64 G.steps) rfl
  have g6:=row_of HY1b.out 6 (.int .i64 G.paths) rfl
  have g7:=row_of HY1b.out 7 (.int .i64 G.nodes) rfl
  have g8:=row_of HY1b.out 8 (.int .i64 G.confs) rfl
  clear hLEV
  go_upto_region 7 with (go_at_call 11;refine HLEV.out.mono ?_;rintro e W5 ⟨u1,n1,t1,u2,n2,t2,rfl,hl,hz⟩;have HL5:=Lib.hid hl;have B5:=Lib.hid hz;clear hl hz)
  clear f0 f1 f2 f3 f4 f5 g0 g1 g2 g3 g4 g5 g6 g7 g8 HLEV
  have hnn:=HL5.out.small
  have HQ1:Hid (Calls Tryd.prog 12 #[.slice x1 y1 z1,.slice u1 n1 t1] W5 fun e w'=>e=.returned (.bool true)∧Below W5.heap.size W5 w'):=by
   obtain ⟨l,g1,g2⟩:=LevSaid.rows1 (HLV.out.keep (bcomp HB4.out B5.out)) HL5.out
   have h1:=equalInt _ _ l l W5 g1 g2
   rw [eqL_selfU] at h1
   exact h1
  have HQ2:Hid (∀ z,Below W5.heap.size W5 z→Calls Tryd.prog 12 #[.slice x2 y2 z2,.slice u2 n2 t2] z fun e w'=>e=.returned (.bool true)∧Below z.heap.size z w'):=by
   intro z hz
   obtain ⟨l,g1,g2⟩:=LevSaid.rows2 (HLV.out.keep (bcomp HB4.out B5.out)) HL5.out
   have h1:=equalInt _ _ l l z (g1.keep hz) (g2.keep hz)
   rw [eqL_selfU] at h1
   exact h1
  have HI1:=Lib.hid HL5.out.ints1
  have HI2:=Lib.hid HL5.out.ints2
  go_upto_region 9 with (first
   | (go_at_call 12;have HK:=B6.out;refine (HQ2.out _ B6.out).mono ?_;rintro e w7 ⟨rfl,hz⟩;have B7:=Lib.hid (bcomp B6.out hz);clear hz HK)
   | (go_at_call 12;refine HQ1.out.mono ?_;rintro e w6 ⟨rfl,hz⟩;have B6:=Lib.hid hz;clear hz))
  have HI1b:=Lib.hid (HI1.out.keep B7.out)
  have HI2b:=Lib.hid (HI2.out.keep B7.out)
  have HB7:=Lib.hid (bcomp B5.out B7.out)
  have HNN:=Lib.hid hnn
  obtain ⟨hn1,hn2⟩:=hnn
  clear HQ1 HQ2 HI1 HI2 B6 B5 HL5 hlt hk HY0b HY1b HBE B7
  go_wp2_with fail
  go_loopw [12] (fun i wr=>∃ j:Nat,j≤n1∧i=.int .i64 j∧IntsW (upFrom W4.heap.size) wr u1 n1∧IntsW (upFrom W4.heap.size) wr u2 n2∧Below W4.heap.size W4 wr) (fun i _=>n1 - (intOf i).toNat)
  case atStart=>exact ⟨0,Nat.zero_le _,rfl,HI1b.out,HI2b.out,HB7.out⟩
  case round=>
   obtain ⟨j,hj,rfl,hi1,hi2,hb⟩:=hrel
   obtain ⟨W8,rfl⟩:∃ x:World,x=wr:=⟨_,rfl⟩
   have HI1c:=Lib.hid hi1
   have HI2c:=Lib.hid hi2
   have HB8:=Lib.hid hb
   clear hi1 hi2 hb HI1b HI2b HB7
   by_cases hjl:j<n1
   ·have hjl2:(j:Int)<(n1:Int):=by omega
    obtain ⟨b,o,cs,v,rfl,hgb,hh,hc,hv⟩:=HI1c.out j hjl
    have hcell:W8.cell? ⟨b,o+j,none⟩=some (.int .i64 v):=(cell_of_row W8 b (o+j) cs _ (0,0) hh).trans hc
    have hfr:=frozen_of_row W8 b (o+j) _ _ hh
    have HV1:Hid (InI64 (wrap64 (v+1))):=wrap_i64U _
    have HN1:=Lib.hid (HI1c.out.set (o:=o+j) hh HV1.out)
    have HN2:=Lib.hid (HI2c.out.set (o:=o+j) hh HV1.out)
    have HBn:Hid (Below W4.heap.size W4 (W8.setCell ⟨b,o+j,none⟩ (.int .i64 (wrap64 (v+1))))):=HB8.out.setCell (by show W4.heap.size≤b;exact hgb) _
    clear hh hc hv hgb
    go_wp2_with fail
    go_roundw
    case rel=>exact ⟨j+1,by omega,by go_num,HN1.out,HN2.out,HBn.out⟩
    case measure=>simp [intOf];omega
   ·obtain rfl:j=n1:=by omega
    have hjl2:¬ (j:Int)<(j:Int):=by omega
    clear hj hjl
    go_wp2_with fail
    go_loopw [13] (fun i wr=>∃ j:Nat,j≤n2∧i=.int .i64 j∧IntsW (upFrom W4.heap.size) wr u2 n2∧Below W4.heap.size W4 wr) (fun i _=>n2 - (intOf i).toNat)
    case atStart=>exact ⟨0,Nat.zero_le _,rfl,HI2c.out,HB8.out⟩
    case round=>
     obtain ⟨m,hm,rfl,hi2,hb⟩:=hrel
     obtain ⟨W9,rfl⟩:∃ x:World,x=wr:=⟨_,rfl⟩
     have HI2d:=Lib.hid hi2
     have HB9:=Lib.hid hb
     clear hi2 hb HI1c HI2c HB8
     by_cases hml:m<n2
     ·have hml2:(m:Int)<(n2:Int):=by omega
      obtain ⟨b,o,cs,v,rfl,hgb,hh,hc,hv⟩:=HI2d.out m hml
      have hcell:W9.cell? ⟨b,o+m,none⟩=some (.int .i64 v):=(cell_of_row W9 b (o+m) cs _ (0,0) hh).trans hc
      have hfr:=frozen_of_row W9 b (o+m) _ _ hh
      have HV1:Hid (InI64 (wrap64 (v - 1))):=wrap_i64U _
      have HN2:=Lib.hid (HI2d.out.set (o:=o+m) hh HV1.out)
      have HBn:Hid (Below W4.heap.size W4 (W9.setCell ⟨b,o+m,none⟩ (.int .i64 (wrap64 (v - 1))))):=HB9.out.setCell (by show W4.heap.size≤b;exact hgb) _
      clear hh hc hv hgb
      go_wp2_with fail
      go_roundw
      case rel=>exact ⟨m+1,by omega,by go_num,HN2.out,HBn.out⟩
      case measure=>simp [intOf];omega
     ·obtain rfl:m=n2:=by omega
      have hml2:¬ (m:Int)<(m:Int):=by omega
      clear hm hml
      go_wp2_with fail
      go_roundw
      case rel=>exact ⟨k+1,by omega,by go_num,bcomp HB4.out HB9.out⟩
      case measure=>simp [intOf];omega
end Go.Proofs.YtgllkgedjplpdaaDoor
