/- The walk of law29.Given: a policy with a level for each channel and site. Condition: what comes in reads as the plain data; the lists are not too long. -/
import Derived.Test.YtgllkgedjplpdaaDoorRgA
import Derived.Test.YtgllkgedjplpdaaDoorRefD
set_option linter.all false
set_option maxRecDepth 1000000
set_option maxHeartbeats 12800000
set_option linter.unusedVariables false
set_option linter.unusedSimpArgs false
namespace Go.Proofs.YtgllkgedjplpdaaDoor
open Go.ChangeShapes Go.WideShapes Go.ChangeAt Go.RowKit
def hasN (M:List BindD) (s:ByteArray):Bool:=M.any fun b=>b.name.toList == s.toList
theorem hasN_step {M:List BindD} {k:Nat} {b:BindD} (h:M[k]?=some b) (s:ByteArray):hasN (M.take (k+1)) s=(hasN (M.take k) s || (b.name.toList == s.toList)):=by
 unfold hasN
 rw [List.take_add_one,h,List.any_append]
 simp
theorem hasN_in (M:List BindD) (s:ByteArray):inL s (M.map (·.name))=hasN M s:=by
 unfold inL hasN
 rw [List.any_map]
 congr 1
 funext b
 show decide (s=b.name)=(b.name.toList == s.toList)
 rw [Bool.eq_iff_iff]
 simp only [decide_eq_true_eq,beq_iff_eq]
 exact ⟨fun e=>by rw [e],fun e=>(Pre.ba_inj e).symm⟩
theorem put_has {M:List BindD} {s:ByteArray} (h:hasN M s=true):putL s (M.map (·.name))=M.map (·.name):=by unfold putL;rw [hasN_in,h];rfl
theorem put_not {M:List BindD} {s:ByteArray} (x:Int) (h:hasN M s=false):putL s (M.map (·.name))=(M ++ [(⟨s,x⟩:BindD)]).map (·.name):=by unfold putL;rw [hasN_in,h];simp
theorem sites_preC {p:ProgD} (h:0=0):sitesOf [] (preC p (p.funcs.length+1))=sitesAllF p:=by
 unfold preC sitesAllF
 rw [List.take_of_length_le (by omega),if_pos (by omega)]
theorem Turned.three {T:Nat→Prop} {x y:World} {S:List Nat} (k:Turned T x y) (hl:∀ i ∈ S,i<x.heap.size) (hT:∀ i ∈ S,¬ T i):∀ b ∈ S,y.heap[b]?=x.heap[b]?:=fun b hb=>k.block b (hl b hb) (hT b hb)
theorem mem_two {a b x:Nat} (h:x ∈ [a,b]):x=a ∨ x=b:=by simpa using h
theorem mem_three {a b c x:Nat} (h:x ∈ [a,b,c]):x=a ∨ x=b ∨ x=c:=by simpa using h
theorem given29 (P:ProgD) (pv1 pv2 pv3 pv4:Value) (q:PolD) (lv ov cv sv dv:Value) (dl:List Int) (w:World) (h:RdProg none w P pv1 pv2 pv3 pv4) (g:RdPol none w q lv ov cv sv) (hd:RdRow kInt none w dv dl) (hT:BitsAt w) (hb:P.chans.length≤1000000∧(codesOf P.funcs).length+P.main.length≤1000000) :
  Calls Tryd.prog 19 #[progV P pv1 pv2 pv3 pv4,polV q lv ov cv sv,dv] w fun e w'=>∃ R,GivenQ P R∧PolNew R w e w':=by
 obtain ⟨a1,k1,rfl,-,-⟩:=id h.1
 obtain ⟨a2,k2,rfl,-,-⟩:=id h.2.1
 obtain ⟨a3,k3,rfl,-,-⟩:=id h.2.2.1
 obtain ⟨a4,k4,rfl,-,-⟩:=id h.2.2.2.1
 obtain ⟨la,lc,rfl⟩:=g.1.is
 obtain ⟨oa,oc,rfl⟩:=g.2.1.is
 obtain ⟨ca,cc,rfl⟩:=g.2.2.1.is
 obtain ⟨ta,tc,rfl⟩:=g.2.2.2.1.is
 obtain ⟨da,dc,rfl⟩:=hd.is
 obtain ⟨iB,hiB,hzB0,hzB1,hzB2⟩:=info_parts infoBindU
 have hmf:∀ (fn:Fn) (first cap:Array Value) (w:World),(Instr.makeFunc fn first cap).run Tryd.prog w=.ok (.func fn first cap) w:=fun _ _ _ _=>rfl
 obtain ⟨hx0,hx1,hx2,hx3,hb0⟩:=heap4_ofU w (.cells #[.int .i64 P.width,.slice a1 P.chans.length k1,.slice a2 P.arrays.length k2,.slice a3 P.funcs.length k3,.slice a4 P.main.length k4] 43) (.cells #[.slice la q.levels.length lc,.slice oa q.order.length oc,.slice ca q.chans.length cc,.slice ta q.sites.length tc,.bool q.sens,.int .i64 q.steps,.int .i64 q.paths,.int .i64 q.nodes,.int .i64 q.confs] 30) (.cells #[.slice da dl.length dc] 23) (.cells #[.slice none 0 0,.slice none 0 0,.slice none 0 0,.slice none 0 0,.bool false,.int .i64 0,.int .i64 0,.int .i64 0,.int .i64 0] 30)
 have hW4:((((w.alloc (.cells #[.int .i64 P.width,.slice a1 P.chans.length k1,.slice a2 P.arrays.length k2,.slice a3 P.funcs.length k3,.slice a4 P.main.length k4] 43)).alloc (.cells #[.slice la q.levels.length lc,.slice oa q.order.length oc,.slice ca q.chans.length cc,.slice ta q.sites.length tc,.bool q.sens,.int .i64 q.steps,.int .i64 q.paths,.int .i64 q.nodes,.int .i64 q.confs] 30)).alloc (.cells #[.slice da dl.length dc] 23)).alloc (.cells #[.slice none 0 0,.slice none 0 0,.slice none 0 0,.slice none 0 0,.bool false,.int .i64 0,.int .i64 0,.int .i64 0,.int .i64 0] 30)).heap.size=w.heap.size+4:=by simp
 have H:=Lib.hid h
 have G0:=Lib.hid (g.keep hb0)
 have HDL:=Lib.hid hd
 have HTT:=Lib.hid hT
 have HX0:=Lib.hid hx0
 have HX1:=Lib.hid hx1
 have HX2:=Lib.hid hx2
 have HX3:=Lib.hid hx3
 have HB0:=Lib.hid hb0
 have HBB:=Lib.hid hb
 have HW4:=Lib.hid hW4
 clear h g hd hT hx0 hx1 hx2 hx3 hb0 hb hW4
 go_enter Tryd.func19,Tryd.ntmps19
 go_upto_region 1 with fail
 generalize (((w.alloc (.cells #[.int .i64 P.width,.slice a1 P.chans.length k1,.slice a2 P.arrays.length k2,.slice a3 P.funcs.length k3,.slice a4 P.main.length k4] 43)).alloc (.cells #[.slice la q.levels.length lc,.slice oa q.order.length oc,.slice ca q.chans.length cc,.slice ta q.sites.length tc,.bool q.sens,.int .i64 q.steps,.int .i64 q.paths,.int .i64 q.nodes,.int .i64 q.confs] 30)).alloc (.cells #[.slice da dl.length dc] 23)).alloc (.cells #[.slice none 0 0,.slice none 0 0,.slice none 0 0,.slice none 0 0,.bool false,.int .i64 0,.int .i64 0,.int .i64 0,.int .i64 0] 30)=W at *
 obtain ⟨fb,hfb⟩:∃ fb,w.heap.size=fb:=⟨_,rfl⟩
 have HFB:=Lib.hid hfb
 rw [hfb] at HX0 HX1 HX2 HX3 HW4
 try rw [hfb]
 clear hfb
 obtain ⟨G,hG⟩:∃ G,fewQ q=G:=⟨_,rfl⟩
 have HFEW:Hid (Calls Tryd.prog 9 #[.agg #[.slice la q.levels.length lc,.slice oa q.order.length oc,.slice ca q.chans.length cc,.slice ta q.sites.length tc,.bool q.sens,.int .i64 q.steps,.int .i64 q.paths,.int .i64 q.nodes,.int .i64 q.confs]] W (PolNew G W)):=by rw [← hG];exact few28 q _ _ _ _ W G0.out
 clear hG
 have d0:=row_of HX1.out 0 (.slice la q.levels.length lc) rfl
 have d1:=row_of HX1.out 1 (.slice oa q.order.length oc) rfl
 have d2:=row_of HX1.out 2 (.slice ca q.chans.length cc) rfl
 have d3:=row_of HX1.out 3 (.slice ta q.sites.length tc) rfl
 have d4:=row_of HX1.out 4 (.bool q.sens) rfl
 have d5:=row_of HX1.out 5 (.int .i64 q.steps) rfl
 have d6:=row_of HX1.out 6 (.int .i64 q.paths) rfl
 have d7:=row_of HX1.out 7 (.int .i64 q.nodes) rfl
 have d8:=row_of HX1.out 8 (.int .i64 q.confs) rfl
 go_upto_region 2 with (first|(go_at_call 9;refine HFEW.out.mono ?_;rintro e wz ⟨c,s,a,k,rfl,hr,hz⟩;obtain ⟨b1,l1,rfl⟩:=hr.1.is;obtain ⟨b2,l2,rfl⟩:=hr.2.1.is;obtain ⟨b3,l3,rfl⟩:=hr.2.2.1.is;obtain ⟨b4,l4,rfl⟩:=hr.2.2.2.1.is;have HBZ:=Lib.hid hz;have HRZ:=Lib.hid hr;clear hr hz;have HXb:=Lib.hid ((HBZ.out.block _ (Array.getElem?_eq_some_iff.1 HX1.out).1).trans HX1.out))|(refine wpList_store_row rfl 30 (.tmp 4) (.tmp 17) rfl (fb+1) #[.slice b1 G.levels.length l1,.slice b2 G.order.length l2,.slice b3 G.chans.length l3,.slice b4 G.sites.length l4,.bool G.sens,.int .i64 G.steps,.int .i64 G.paths,.int .i64 G.nodes,.int .i64 G.confs] rfl rfl 30 #[.slice la q.levels.length lc,.slice oa q.order.length oc,.slice ca q.chans.length cc,.slice ta q.sites.length tc,.bool q.sens,.int .i64 q.steps,.int .i64 q.paths,.int .i64 q.nodes,.int .i64 q.confs] ?hs2 (by as_aux_lemma=>kernel_rfl) (by as_aux_lemma=>kernel_rfl) (by as_aux_lemma=>kernel_rfl) ?_;exact HXb.out))
 try simp only [Act.put]
 clear d0 d1 d2 d3 d4 d5 d6 d7 d8 HFEW
 have HY0:Hid ((wz.setRow (fb+1) #[.slice b1 G.levels.length l1,.slice b2 G.order.length l2,.slice b3 G.chans.length l3,.slice b4 G.sites.length l4,.bool G.sens,.int .i64 G.steps,.int .i64 G.paths,.int .i64 G.nodes,.int .i64 G.confs]).heap[fb]?=some (.cells #[.int .i64 P.width,.slice a1 P.chans.length k1,.slice a2 P.arrays.length k2,.slice a3 P.funcs.length k3,.slice a4 P.main.length k4] 43 (0,0))):=(setRow_other _ _ _ _ (by omega)).trans ((HBZ.out.block _ (Array.getElem?_eq_some_iff.1 HX0.out).1).trans HX0.out)
 have HY1:Hid ((wz.setRow (fb+1) #[.slice b1 G.levels.length l1,.slice b2 G.order.length l2,.slice b3 G.chans.length l3,.slice b4 G.sites.length l4,.bool G.sens,.int .i64 G.steps,.int .i64 G.paths,.int .i64 G.nodes,.int .i64 G.confs]).heap[fb+1]?=some (.cells #[.slice b1 G.levels.length l1,.slice b2 G.order.length l2,.slice b3 G.chans.length l3,.slice b4 G.sites.length l4,.bool G.sens,.int .i64 G.steps,.int .i64 G.paths,.int .i64 G.nodes,.int .i64 G.confs] 30 (0,0))):=setRow_heap _ _ _ _ _ _ HXb.out
 have HY2:Hid ((wz.setRow (fb+1) #[.slice b1 G.levels.length l1,.slice b2 G.order.length l2,.slice b3 G.chans.length l3,.slice b4 G.sites.length l4,.bool G.sens,.int .i64 G.steps,.int .i64 G.paths,.int .i64 G.nodes,.int .i64 G.confs]).heap[fb+1+1]?=some (.cells #[.slice da dl.length dc] 23 (0,0))):=(setRow_other _ _ _ _ (by omega)).trans ((HBZ.out.block _ (Array.getElem?_eq_some_iff.1 HX2.out).1).trans HX2.out)
 have HY3:Hid ((wz.setRow (fb+1) #[.slice b1 G.levels.length l1,.slice b2 G.order.length l2,.slice b3 G.chans.length l3,.slice b4 G.sites.length l4,.bool G.sens,.int .i64 G.steps,.int .i64 G.paths,.int .i64 G.nodes,.int .i64 G.confs]).heap[fb+1+1+1]?=some (.cells #[.slice none 0 0,.slice none 0 0,.slice none 0 0,.slice none 0 0,.bool false,.int .i64 0,.int .i64 0,.int .i64 0,.int .i64 0] 30 (0,0))):=(setRow_other _ _ _ _ (by omega)).trans ((HBZ.out.block _ (Array.getElem?_eq_some_iff.1 HX3.out).1).trans HX3.out)
 have HG1:Hid (RdPol (some (upFrom (fb+4))) (wz.setRow (fb+1) #[.slice b1 G.levels.length l1,.slice b2 G.order.length l2,.slice b3 G.chans.length l3,.slice b4 G.sites.length l4,.bool G.sens,.int .i64 G.steps,.int .i64 G.paths,.int .i64 G.nodes,.int .i64 G.confs]) G (.slice b1 G.levels.length l1) (.slice b2 G.order.length l2) (.slice b3 G.chans.length l3) (.slice b4 G.sites.length l4)):=by
  have h1:=HRZ.out
  rw [HW4.out] at h1
  exact h1.setRow (by omega) (Nat.le_refl _) _
 have HB1:Hid (Below w.heap.size w (wz.setRow (fb+1) #[.slice b1 G.levels.length l1,.slice b2 G.order.length l2,.slice b3 G.chans.length l3,.slice b4 G.sites.length l4,.bool G.sens,.int .i64 G.steps,.int .i64 G.paths,.int .i64 G.nodes,.int .i64 G.confs])):=below_row (bcomp HB0.out HBZ.out) (by have:=HFB.out;omega) _
 have HT1:=Lib.hid (HTT.out.keep HB1.out)
 have HZ1:Hid (fb+4≤(wz.setRow (fb+1) #[.slice b1 G.levels.length l1,.slice b2 G.order.length l2,.slice b3 G.chans.length l3,.slice b4 G.sites.length l4,.bool G.sens,.int .i64 G.steps,.int .i64 G.paths,.int .i64 G.nodes,.int .i64 G.confs]).heap.size):=by
  have h1:=HBZ.out.size
  rw [HW4.out] at h1
  show _≤_
  simpa using h1
 clear HX0 HX1 HX2 HX3 HXb HB0 HBZ HRZ HTT G0
 generalize wz.setRow (fb+1) #[.slice b1 G.levels.length l1,.slice b2 G.order.length l2,.slice b3 G.chans.length l3,.slice b4 G.sites.length l4,.bool G.sens,.int .i64 G.steps,.int .i64 G.paths,.int .i64 G.nodes,.int .i64 G.confs]=W1 at *
 have HPC:=Lib.hid (polCheck G _ _ _ _ W1 HG1.out.forget HT1.out)
 have d0:=row_of HY1.out 0 (.slice b1 G.levels.length l1) rfl
 have d1:=row_of HY1.out 1 (.slice b2 G.order.length l2) rfl
 have d2:=row_of HY1.out 2 (.slice b3 G.chans.length l3) rfl
 have d3:=row_of HY1.out 3 (.slice b4 G.sites.length l4) rfl
 have d4:=row_of HY1.out 4 (.bool G.sens) rfl
 have d5:=row_of HY1.out 5 (.int .i64 G.steps) rfl
 have d6:=row_of HY1.out 6 (.int .i64 G.paths) rfl
 have d7:=row_of HY1.out 7 (.int .i64 G.nodes) rfl
 have d8:=row_of HY1.out 8 (.int .i64 G.confs) rfl
 obtain ⟨ec,hec⟩:∃ e,polErr G=e:=⟨_,rfl⟩
 rw [hec] at HPC
 have HEC:=Lib.hid hec
 clear hec
 go_upto_if 20 with (go_at_call 31;refine HPC.out.mono ?_;rintro e W2 ⟨rfl,hz⟩;have HB2:=Lib.hid hz;clear hz)
 clear d0 d1 d2 d3 d4 d5 d6 d7 d8 HPC
 have HZ2:=Lib.hid HB2.out.size
 have HY0b:=Lib.hid ((HB2.out.block _ (Array.getElem?_eq_some_iff.1 HY0.out).1).trans HY0.out)
 have HY1b:=Lib.hid ((HB2.out.block _ (Array.getElem?_eq_some_iff.1 HY1.out).1).trans HY1.out)
 have HY2b:=Lib.hid ((HB2.out.block _ (Array.getElem?_eq_some_iff.1 HY2.out).1).trans HY2.out)
 have HY3b:=Lib.hid ((HB2.out.block _ (Array.getElem?_eq_some_iff.1 HY3.out).1).trans HY3.out)
 have HGb:=Lib.hid (HG1.out.keep HB2.out)
 have HBb:=Lib.hid (bcomp HB1.out HB2.out)
 clear HY0 HY1 HY2 HY3 HG1 HT1 HB1 HB2
 go_cut [] from 18 to 21 (fun wx=>∃ (B:PolD) (u1:Option Addr) (m1:Nat) (u2:Option Addr) (m2:Nat) (u3:Option Addr) (m3:Nat) (u4:Option Addr) (m4:Nat),polErr B=0∧wx.heap[fb]?=some (.cells #[.int .i64 P.width,.slice a1 P.chans.length k1,.slice a2 P.arrays.length k2,.slice a3 P.funcs.length k3,.slice a4 P.main.length k4] 43 (0,0))∧wx.heap[fb+1]?=some (.cells #[.slice u1 B.levels.length m1,.slice u2 B.order.length m2,.slice u3 B.chans.length m3,.slice u4 B.sites.length m4,.bool B.sens,.int .i64 B.steps,.int .i64 B.paths,.int .i64 B.nodes,.int .i64 B.confs] 30 (0,0))∧wx.heap[fb+1+1]?=some (.cells #[.slice da dl.length dc] 23 (0,0))∧wx.heap[fb+1+1+1]?=some (.cells #[.slice none 0 0,.slice none 0 0,.slice none 0 0,.slice none 0 0,.bool false,.int .i64 0,.int .i64 0,.int .i64 0,.int .i64 0] 30 (0,0))∧RdPol (some (upFrom (fb+4))) wx B (.slice u1 B.levels.length m1) (.slice u2 B.order.length m2) (.slice u3 B.chans.length m3) (.slice u4 B.sites.length m4)∧Below w.heap.size w wx∧fb+4≤wx.heap.size)
 case first=>
  by_cases h0:ec=0
  ·subst h0
   go_wp2_with fail
   go_meet
   exact ⟨G,_,_,_,_,_,_,_,_,HEC.out,HY0b.out,HY1b.out,HY2b.out,HY3b.out,HGb.out,HBb.out,Nat.le_trans HZ1.out HZ2.out⟩
  ·have h01:(ec != 0)=true:=by simpa using h0
   go_wp2_with (first|(go_at_call 34;refine (p1_new _).mono ?_;rintro e wz ⟨c,s,a,k,rfl,hr,hz⟩;obtain ⟨c1,m1,rfl⟩:=hr.1.is;obtain ⟨c2,m2,rfl⟩:=hr.2.1.is;obtain ⟨c3,m3,rfl⟩:=hr.2.2.1.is;obtain ⟨c4,m4,rfl⟩:=hr.2.2.2.1.is;have HBZ:=Lib.hid hz;have HRZ:=Lib.hid hr;clear hr hz;have HXb:=Lib.hid ((HBZ.out.block _ (Array.getElem?_eq_some_iff.1 HY1b.out).1).trans HY1b.out))|(refine wpList_store_row rfl 30 (.tmp 4) (.tmp 21) rfl (fb+1) #[.slice c1 p1P.levels.length m1,.slice c2 p1P.order.length m2,.slice c3 p1P.chans.length m3,.slice c4 p1P.sites.length m4,.bool p1P.sens,.int .i64 p1P.steps,.int .i64 p1P.paths,.int .i64 p1P.nodes,.int .i64 p1P.confs] rfl rfl 30 #[.slice b1 G.levels.length l1,.slice b2 G.order.length l2,.slice b3 G.chans.length l3,.slice b4 G.sites.length l4,.bool G.sens,.int .i64 G.steps,.int .i64 G.paths,.int .i64 G.nodes,.int .i64 G.confs] ?hs3 (by as_aux_lemma=>kernel_rfl) (by as_aux_lemma=>kernel_rfl) (by as_aux_lemma=>kernel_rfl) ?_;exact HXb.out))
   try simp only [Act.put]
   go_meet
   refine ⟨p1P,_,_,_,_,_,_,_,_,p1_fits,(setRow_other _ _ _ _ (by omega)).trans ((HBZ.out.block _ (Array.getElem?_eq_some_iff.1 HY0b.out).1).trans HY0b.out),setRow_heap _ _ _ _ _ _ HXb.out,(setRow_other _ _ _ _ (by omega)).trans ((HBZ.out.block _ (Array.getElem?_eq_some_iff.1 HY2b.out).1).trans HY2b.out),(setRow_other _ _ _ _ (by omega)).trans ((HBZ.out.block _ (Array.getElem?_eq_some_iff.1 HY3b.out).1).trans HY3b.out),?_,below_row (bcomp HBb.out HBZ.out) (by have:=HFB.out;omega) _,?_⟩
   ·exact HRZ.out.setRow (by have:=HZ1.out;have:=HZ2.out;omega) (by have:=HZ1.out;have:=HZ2.out;omega) _
   ·have h1:=HBZ.out.size
    have h2:=HZ1.out
    have h3:=HZ2.out
    simp
    omega
 case rest=>
  obtain ⟨B,u1,m1,u2,m2,u3,m3,u4,m4,hB,hy0,hy1,hy2,hy3,hrd,hbw,hsz⟩:=hcut
  obtain ⟨W3,rfl⟩:∃ x:World,x=wc:=⟨_,rfl⟩
  clear HEC HZ1 HZ2 HY0b HY1b HY2b HY3b HGb HBb
  have hal:Below W3.heap.size W3 (W3.alloc (.cells #[.int .i64 0] 3)):=(Below.refl _ _).alloc (Nat.le_refl _) _
  have HK0:=Lib.hid (heap_alloc_new W3 (.cells #[.int .i64 0] 3))
  have HY0:=Lib.hid ((hal.block _ (Array.getElem?_eq_some_iff.1 hy0).1).trans hy0)
  have HY1:=Lib.hid ((hal.block _ (Array.getElem?_eq_some_iff.1 hy1).1).trans hy1)
  have HY2:=Lib.hid ((hal.block _ (Array.getElem?_eq_some_iff.1 hy2).1).trans hy2)
  have HY3:=Lib.hid ((hal.block _ (Array.getElem?_eq_some_iff.1 hy3).1).trans hy3)
  have HBE:=Lib.hid hB
  have HSZ:=Lib.hid hsz
  have HBW:=Lib.hid (bcomp hbw hal)
  have HSA:Hid ((W3.alloc (.cells #[.int .i64 0] 3)).heap.size=W3.heap.size+1):=by show _=_;simp
  have HLR:Hid (RdRow kStr (some fun b=>fb+4≤b∧b<W3.heap.size) (W3.alloc (.cells #[.int .i64 0] 3)) (.slice u1 B.levels.length m1) B.levels):=hrd.1.same (fun b _ hl=>hal.block b hl) (fun b hl hg=>⟨hg,hl⟩)
  have HOR:Hid (RdRow kPair (some fun b=>fb+4≤b∧b<W3.heap.size) (W3.alloc (.cells #[.int .i64 0] 3)) (.slice u2 B.order.length m2) B.order):=hrd.2.1.same (fun b _ hl=>hal.block b hl) (fun b hl hg=>⟨hg,hl⟩)
  have HLIM:=Lib.hid hrd.2.2.2.2
  clear hB hy0 hy1 hy2 hy3 hrd hbw hsz hal
  go_upto_region 6 with fail
  generalize W3.alloc (.cells #[.int .i64 0] 3)=W4 at *
  obtain ⟨kb,hkb⟩:∃ kb,W3.heap.size=kb:=⟨_,rfl⟩
  rw [hkb] at HK0 HSZ HSA HLR HOR
  try rw [hkb]
  clear hkb
  have c2:=row_of HY1.out 2 (.slice u3 B.chans.length m3) rfl
  have c3:=row_of HY1.out 3 (.slice u4 B.sites.length m4) rfl
  have f2:=frozen_of_row W4 (fb+1) 2 _ _ HY1.out
  have f3:=frozen_of_row W4 (fb+1) 3 _ _ HY1.out
  have c3b:(W4.setCell ⟨fb+1,2,none⟩ (.slice none 0 0)).cell? ⟨fb+1,3,none⟩=some (.slice u4 B.sites.length m4):=by
   have h1:=heap_setCell_same W4 (fb+1) 2 _ _ (.slice none 0 0) HY1.out
   exact row_of h1 3 _ rfl
  have f3b:(W4.setCell ⟨fb+1,2,none⟩ (.slice none 0 0)).frozen? ⟨fb+1,3,none⟩=false:=by
   have h1:=heap_setCell_same W4 (fb+1) 2 _ _ (.slice none 0 0) HY1.out
   exact frozen_of_row _ _ _ _ _ h1
  go_upto_region 7 with fail
  clear c2 c3 f2 f3 c3b f3b
  have hq5:((W4.setCell ⟨fb+1,2,none⟩ (.slice none 0 0)).setCell ⟨fb+1,3,none⟩ (.slice none 0 0)).heap[fb+1]?=some (.cells #[.slice u1 B.levels.length m1,.slice u2 B.order.length m2,.slice none 0 0,.slice none 0 0,.bool B.sens,.int .i64 B.steps,.int .i64 B.paths,.int .i64 B.nodes,.int .i64 B.confs] 30 (0,0)):=by
   have h1:=heap_setCell_same W4 (fb+1) 2 _ _ (.slice none 0 0) HY1.out
   rw [heap_setCell_same _ _ _ _ _ _ h1]
   rfl
  have hot:∀ b,b ≠ fb+1→((W4.setCell ⟨fb+1,2,none⟩ (.slice none 0 0)).setCell ⟨fb+1,3,none⟩ (.slice none 0 0)).heap[b]?=W4.heap[b]?:=fun b hb=>(heap_setCell_other _ _ _ _ (fun e=>hb e)).trans (heap_setCell_other _ _ _ _ (fun e=>hb e))
  have hs5:((W4.setCell ⟨fb+1,2,none⟩ (.slice none 0 0)).setCell ⟨fb+1,3,none⟩ (.slice none 0 0)).heap.size=W4.heap.size:=by simp
  have hb5:Below w.heap.size w ((W4.setCell ⟨fb+1,2,none⟩ (.slice none 0 0)).setCell ⟨fb+1,3,none⟩ (.slice none 0 0)):=below_then (below_then HBW.out (setCell_turned W4 ⟨fb+1,2,none⟩ (.slice none 0 0)) HBW.out.size (fun i e=>by have e:i=fb+1:=e;have:=HFB.out;omega)) (setCell_turned _ ⟨fb+1,3,none⟩ (.slice none 0 0)) (by have:=HBW.out.size;simp;omega) (fun i e=>by have e:i=fb+1:=e;have:=HFB.out;omega)
  have hb6:Below fb w ((W4.setCell ⟨fb+1,2,none⟩ (.slice none 0 0)).setCell ⟨fb+1,3,none⟩ (.slice none 0 0)):=by
   have:=hb5
   rwa [HFB.out] at this
  have hat0:Gv.At ⟨w,fb,P,a1,k1,a2,k2,a3,k3,a4,k4,B,u1,m1,u2,m2,dl,da,dc,kb⟩ 0 (.slice none 0 0) (.slice none 0 0) [] [] ((W4.setCell ⟨fb+1,2,none⟩ (.slice none 0 0)).setCell ⟨fb+1,3,none⟩ (.slice none 0 0)):=
   ⟨HFB.out,hb6,(hot fb (by omega)).trans HY0.out,hq5,(hot (fb+1+1) (by omega)).trans HY2.out,(hot (fb+1+1+1) (by omega)).trans HY3.out,(hot kb (by have:=HSZ.out;omega)).trans HK0.out,HSZ.out,
    HLR.out.same (fun b hg _=>hot b (by have:=hg.1;omega)) (fun _ _ k=>k),HOR.out.same (fun b hg _=>hot b (by have:=hg.1;omega)) (fun _ _ k=>k),World.ownsRow_nil _ _ _ _,World.ownsRow_nil _ _ _ _,Nat.le_of_eq (by rw [hs5,HSA.out]),(fun i hi=>by cases hi),(fun b hb=>by cases hb)⟩
  have HAT:=Lib.hid hat0
  generalize (W4.setCell ⟨fb+1,2,none⟩ (.slice none 0 0)).setCell ⟨fb+1,3,none⟩ (.slice none 0 0)=W5 at *
  clear hq5 hot hs5 hb5 hb6 hat0 HW4 HK0 HY0 HY1 HY2 HY3 HBW HSA HLR HOR HSZ W4 W1 W
  have HLV:=Lib.hid (polErr_levels HBE.out)
  obtain ⟨g,hg0,hg1,hg2,hg3,hg4,hg5,hg6,hg7,hg8,hg9,hg10,hg11,hg12,hg13,hg14,hg15,hg16,hg17,hg18,hg19,hg20⟩:∃ g:Gv,w=g.w0∧fb=g.n0∧P=g.P∧a1=g.a1∧k1=g.k1∧a2=g.a2∧k2=g.k2∧a3=g.a3∧k3=g.k3∧a4=g.a4∧k4=g.k4∧B=g.B∧u1=g.la∧m1=g.lc∧u2=g.oa∧m2=g.oc∧dl=g.dl∧da=g.da∧dc=g.dc∧kb=g.kb∧True:=⟨⟨w,fb,P,a1,k1,a2,k2,a3,k3,a4,k4,B,u1,m1,u2,m2,dl,da,dc,kb⟩,rfl,rfl,rfl,rfl,rfl,rfl,rfl,rfl,rfl,rfl,rfl,rfl,rfl,rfl,rfl,rfl,rfl,rfl,rfl,rfl,trivial⟩
  subst hg0 hg1 hg2 hg3 hg4 hg5 hg6 hg7 hg8 hg9 hg10 hg11 hg12 hg13 hg14 hg15 hg16 hg17 hg18 hg19
  have HAT:Hid (g.At 0 (.slice none 0 0) (.slice none 0 0) [] [] W5):=HAT.out
  clear hg20
  go_wp2_with fail
  go_loopw [9] (fun i wr=>∃ (j:Nat) (xa:Option Addr) (xc:Nat) (L:List BindD),j≤g.P.chans.length∧i=.int .i64 j∧L.map (·.name)=g.P.chans.take j∧g.At L.length (.slice xa L.length xc) (.slice none 0 0) L [] wr) (fun i _=>g.P.chans.length - (intOf i).toNat)
  case atStart=>exact ⟨0,none,0,[],Nat.zero_le _,rfl,rfl,HAT.out⟩
  case round=>
   obtain ⟨j,xa,xc,L,hj,rfl,hLn,hat⟩:=hrel
   obtain ⟨wo,rfl⟩:∃ x:World,x=wr:=⟨_,rfl⟩
   have hcl:g.P.chans.length≤1000000:=HBB.out.1
   have hLj:L.length=j:=by
    have:=congrArg List.length hLn
    rw [List.length_map,List.length_take] at this
    omega
   subst hLj
   have HAT:=Lib.hid hat
   clear hat
   have p1:=row_of HAT.out.hp 1 (.slice g.a1 g.P.chans.length g.k1) rfl
   by_cases hlt:L.length<g.P.chans.length
   ·have hlt1:(L.length:Int)<(g.P.chans.length:Int):=by omega
    obtain ⟨NM,hs⟩:∃ s,g.P.chans[L.length]?=some s:=⟨_,List.getElem?_eq_getElem hlt⟩
    have HLN:Hid (∀ v,(L ++ [(⟨NM,v⟩:BindD)]).map (·.name)=g.P.chans.take (L.length+1)):=fun v=>by
     rw [List.map_append,hLn,List.take_add_one,hs]
     rfl
    obtain ⟨bs,os,ha1,cs,hsz⟩:∃ b o,g.a1=some ⟨b,o,none⟩∧g.w0.cell? ⟨b,o+L.length,none⟩=some (.string NM)∧NM.size≤maxLen:=by
     obtain ⟨a',c',e,_,hh⟩:=H.out.1
     simp only [Value.slice.injEq] at e
     obtain ⟨e0,_,e2⟩:=e
     obtain ⟨b,o,e1,_,e2,e3⟩:=hh L.length NM hs
     exact ⟨b,o,e0.trans e1,e2,e3⟩
    have HNZ:=Lib.hid hsz
    have hbl:bs<g.w0.heap.size:=block_lt_of_cell cs
    have cs1:=cell_keep HAT.out.below0 cs
    rw [ha1] at p1
    have HSL:Hid (∀ b ∈ [g.n0+1,g.n0,bs],b<wo.heap.size):=fun b hb=>by
     have h1:=HAT.out.hkb
     have h2:=HAT.out.c1
     have h3:=HAT.out.h0
     rcases mem_three hb with rfl|rfl|rfl <;> omega
    have HNK:Hid (∀ b ∈ [g.n0+1,g.n0,bs],¬ b=g.kb):=fun b hb=>by
     have h1:=HAT.out.hkb
     have h3:=HAT.out.h0
     rcases mem_three hb with rfl|rfl|rfl <;> omega
    have HNO:Hid (∀ wa,g.At (L.length+1) (.slice xa L.length xc) (.slice none 0 0) L [] wa→(∀ b ∈ [g.n0+1,g.n0,bs],wa.heap[b]?=wo.heap[b]?)→∀ b ∈ [g.n0+1,g.n0,bs],¬ (Value.slice xa L.length xc).ownBlock=some b):=fun wa hA _ b hb e=>by
     have h1:=HAT.out.hkb
     have h3:=HAT.out.h0
     have h4:=(own_is hA.own1 e).1
     rcases mem_three hb with rfl|rfl|rfl <;> omega
    have HCN:Hid (L.length≤1000000000):=by show _≤_;omega
    have HLL:Hid (L.length≤1000000):=by show _≤_;omega
    have l1:=keepS_cell (S:=[g.n0+1,g.n0,bs]) (by simp) (row_of HAT.out.hq 2 (.slice xa L.length xc) rfl)
    have l2:=keepS_cell (S:=[g.n0+1,g.n0,bs]) (by simp) p1
    have l3:=keepS_cell (S:=[g.n0+1,g.n0,bs]) (by simp) cs1
    clear hs hsz cs hbl cs1 hLn ha1
    go_upto_region 10 with fail
    clear p1
    refine wp_region_mixS [g.n0+1,g.n0,bs] (.one [0,1,2,3,4,5,6,7] 8 (.one [9] 10 (.one [] 11 (tailOf [12,13])))) (fun j=>decide (12≤j)) (by kernel_rfl) (by kernel_rfl) rfl (by kernel_rfl) (fun _ d _ _ _ h=>by cases d <;> exact h) ?_
    have HBd:Hid (Below wo.heap.size wo wo.drew):=(Below.refl _ _).drew
    generalize wo.drew=wn at *
    have HKn:Hid (∀ b ∈ [g.n0+1,g.n0,bs],wn.heap[b]?=wo.heap[b]?):=fun b hb=>HBd.out.block b (HSL.out b hb)
    have HAn:=Lib.hid (HAT.out.keep HBd.out)
    refine mix_one (by simp only [opsOf,List.filterMap_cons,List.filterMap_nil,List.getElem?_toArray,List.getElem?_cons_succ,List.getElem?_cons_zero];rfl) ⟨_,keepS_of HKn.out⟩ ?_
    change wpQuiet _ _ _ _ [_,_,_,_,_,_,_,_] _
    (repeat (go_big_quiet_step (fail)))
    clear l1 l2 l3
    refine wpQuiet_nil ?_
    refine mix_step rfl ?_
    go_wp2_with (go_at_call 49;refine (next29 g _ _ _ _ _ _ HAn.out HCN.out HDL.out HLV.out).mono ?_;rintro e w2 ⟨rfl,ht2,hk2⟩)
    have HA2:=Lib.hid (HAn.out.called ht2 hk2)
    have HK2:Hid (∀ b ∈ [g.n0+1,g.n0,bs],w2.heap[b]?=wo.heap[b]?):=fun b hb=>(ht2.block b (by have:=HSL.out b hb;have:=HBd.out.size;omega) (HNK.out b hb)).trans (HKn.out b hb)
    have HS2:Hid (wo.heap.size≤w2.heap.size):=Nat.le_trans HBd.out.size ht2.size
    have HLI:=Lib.hid (g.lev_in (L.length+1) HLV.out.1)
    clear ht2 hk2 HAn HKn
    obtain ⟨v,hv⟩:∃ v,g.lev (L.length+1)=v:=⟨_,rfl⟩
    rw [hv] at HLI
    try rw [hv]
    clear hv
    (first|refine ⟨fun _=>⟨_,keepS_of HK2.out⟩,?_⟩|refine ⟨⟨_,keepS_of HK2.out⟩,?_⟩)
    refine mix_one (by simp only [opsOf,List.filterMap_cons,List.filterMap_nil,List.getElem?_toArray,List.getElem?_cons_succ,List.getElem?_cons_zero];rfl) ⟨_,keepS_of HK2.out⟩ ?_
    change wpQuiet _ _ _ _ [_] _
    (repeat (go_big_quiet_step (fail)))
    refine wpQuiet_nil ?_
    refine mix_step rfl ?_
    go_wp2_with fail
    have HN:=Lib.hid (heap_alloc_new w2 (.cells #[.string NM,.int .i64 v] 58))
    have hal2:Below w2.heap.size w2 (w2.alloc (.cells #[.string NM,.int .i64 v] 58)):=(Below.refl _ _).alloc (Nat.le_refl _) _
    have HKw:Hid (∀ b ∈ [g.n0+1,g.n0,bs],(w2.alloc (.cells #[.string NM,.int .i64 v] 58)).heap[b]?=wo.heap[b]?):=fun b hb=>(hal2.block b (by have:=HSL.out b hb;have:=HS2.out;omega)).trans (HK2.out b hb)
    have HAa:=Lib.hid (HA2.out.keep hal2)
    obtain ⟨gb,hgb⟩:∃ gb,w2.heap.size=gb:=⟨_,rfl⟩
    rw [hgb] at HN
    try rw [hgb]
    have HSa:Hid (wo.heap.size≤(w2.alloc (.cells #[.string NM,.int .i64 v] 58)).heap.size):=Nat.le_trans HS2.out hal2.size
    clear hal2
    generalize w2.alloc (.cells #[.string NM,.int .i64 v] 58)=wa at *
    clear hgb HA2 HK2 HS2
    (first|refine ⟨fun _=>⟨_,keepS_of HKw.out⟩,?_⟩|refine ⟨⟨_,keepS_of HKw.out⟩,?_⟩)
    refine mix_now ?_
    refine mix_step rfl ?_
    try (simp only [Act.put,List.setIfInBounds_toArray,List.set_cons_succ,List.set_cons_zero,List.getElem_toArray,List.getElem_cons_succ,List.getElem_cons_zero])
    have hLM:L.length≤1000000:=HLL.out
    refine wpList_append_own_at _ rfl (.tmp 33) (.tmp 42) 28 rfl (g.kb+1) 58 iB (.agg #[.string ⟨#[]⟩,.int .i64 0]) 2 24 Tryd.underlying28 hiB hzB0 hzB1 hzB2 rfl (by decide) _ _ _ rfl HAa.out.own1 ⟨gb,0,none⟩ 1 1 (cellsBind ⟨NM,v⟩) rfl rfl ?hnw ?hone ?h63 ?hby HAa.out.c1 ?_
    case hnw=>
     intro j u hu
     have e:(⟨gb,0,none⟩:Addr).add j=⟨gb,j,none⟩:=by simp [Addr.add];omega
     rw [e]
     exact row_of HN.out j u (by rw [← List.getElem?_toArray] at hu;exact hu)
    case hone=>intro u hu;simp only [cellsBind,List.mem_cons,List.not_mem_nil,or_false] at hu;rcases hu with rfl|rfl <;> rfl
    case h63=>unfold maxLen;omega
    case hby=>omega
    intro v' w4 hown' hgrow _ hblk
    have hT4:Turned (fun k=>(Value.slice xa L.length xc).ownBlock=some k) wa w4:=Turned.of_grown hgrow (fun b e=>e)
    obtain ⟨za,zc,rfl,_⟩:=own_read hown'
    have HP4:=Lib.hid (HAa.out.push1 ⟨NM,v⟩ ⟨HNZ.out,HLI.out⟩ hT4 hown' hblk)
    have hq4:w4.heap[g.n0+1]?=some (.cells (g.qc (.slice xa L.length xc) (.slice none 0 0)) 30 (0,0)):=(hT4.block _ (by have:=HAa.out.hkb;have:=HAa.out.c1;omega) (fun e=>by have:=(own_is HAa.out.own1 e).1;have:=HAa.out.hkb;omega)).trans HAa.out.hq
    have c8:=row_of hq4 2 (.slice xa L.length xc) rfl
    have f8:=frozen_of_row w4 (g.n0+1) 2 _ _ hq4
    have HKf:Hid (∀ b ∈ [g.n0+1,g.n0,bs],w4.heap[b]?=wo.heap[b]?):=fun b hb=>(hT4.block b (by have:=HSL.out b hb;have:=HSa.out;omega) (HNO.out wa HAa.out HKw.out b hb)).trans (HKw.out b hb)
    clear hown' hgrow hblk hT4 hq4
    try (simp only [Act.put,List.setIfInBounds_toArray,List.set_cons_succ,List.set_cons_zero,List.getElem_toArray,List.getElem_cons_succ,List.getElem_cons_zero])
    (first|refine ⟨fun _=>⟨_,keepS_of HKf.out⟩,?_⟩|refine ⟨⟨_,keepS_of HKf.out⟩,?_⟩)
    refine mix_tail [12,13] [_,_] _ _ rfl rfl ?_
    try (simp only [Act.put,List.setIfInBounds_toArray,List.set_cons_succ,List.set_cons_zero,List.getElem_toArray,List.getElem_cons_succ,List.getElem_cons_zero])
    go_wp2_with fail
    go_roundw
    case rel=>exact ⟨L.length+1,za,zc,L ++ [⟨NM,v⟩],by omega,by go_num,HLN.out v,by
     have h9:=HP4.out
     rw [show (L ++ [(⟨NM,v⟩:BindD)]).length=L.length+1 by simp]
     exact h9⟩
    case measure=>simp [intOf];omega
   ·have hLE:L.length=g.P.chans.length:=by omega
    have hlt1:¬ (L.length:Int)<(g.P.chans.length:Int):=by omega
    have HLC:Hid (L.length≤1000000):=by show _≤_;omega
    rw [hLE,List.take_length] at hLn
    clear hLE
    have HLN:=Lib.hid hLn
    clear hLn hlt hj
    go_wp2_with fail
    clear p1
    go_loopw [10] (fun i wr=>∃ (m:Nat) (ya:Option Addr) (yc:Nat) (M:List BindD),m≤g.P.funcs.length+1∧i=.int .i64 m∧M.map (·.name)=sitesOf [] (preC g.P m)∧g.At (L.length+M.length) (.slice xa L.length xc) (.slice ya M.length yc) L M wr) (fun i _=>g.P.funcs.length+1 - (intOf i).toNat)
    case atStart=>exact ⟨0,none,0,[],Nat.zero_le _,rfl,by simp [preC,codesOf,sitesOf],HAT.out⟩
    case round=>
     obtain ⟨m,ya,yc,M,hm,rfl,hMn,hat⟩:=hrel
     obtain ⟨z0,rfl⟩:∃ x:World,x=wr:=⟨_,rfl⟩
     have HAT:=Lib.hid hat
     have HMN:=Lib.hid hMn
     clear hat hMn
     have hfl:g.P.funcs.length≤100000000000000:=by obtain ⟨_,_,_,⟨h1,_⟩,_⟩:=H.out.2.2.1;omega
     have p3:=row_of HAT.out.hp 3 (.slice g.a3 g.P.funcs.length g.k3) rfl
     have p4:=row_of HAT.out.hp 4 (.slice g.a4 g.P.main.length g.k4) rfl
     by_cases hm1:m≤g.P.funcs.length
     rotate_left
     ·-- the result
      obtain rfl:m=g.P.funcs.length+1:=by omega
      have hm2:¬ ((g.P.funcs.length+1:Nat):Int)≤(g.P.funcs.length:Int):=by omega
      have hmn:=HMN.out
      rw [sites_preC rfl] at hmn
      have hQ:=HAT.out.hq
      have d0:=row_of hQ 0 (.slice g.la g.B.levels.length g.lc) rfl
      have d1:=row_of hQ 1 (.slice g.oa g.B.order.length g.oc) rfl
      have d2:=row_of hQ 2 (.slice xa L.length xc) rfl
      have d3:=row_of hQ 3 (.slice ya M.length yc) rfl
      have d4:=row_of hQ 4 (.bool g.B.sens) rfl
      have d5:=row_of hQ 5 (.int .i64 g.B.steps) rfl
      have d6:=row_of hQ 6 (.int .i64 g.B.paths) rfl
      have d7:=row_of hQ 7 (.int .i64 g.B.nodes) rfl
      have d8:=row_of hQ 8 (.int .i64 g.B.confs) rfl
      have hRd:RdPol (some (upFrom g.n0)) z0 { g.B with chans:=L,sites:=M } (.slice g.la g.B.levels.length g.lc) (.slice g.oa g.B.order.length g.oc) (.slice xa L.length xc) (.slice ya M.length yc):=by
       have hkb:=HAT.out.hkb
       have h1:L.length≤1000000:=HLC.out
       have h2:M.length≤1000000:=by
        have e1:=congrArg List.length HMN.out
        have e2:=sites_len (preC g.P (g.P.funcs.length+1)) []
        have e3:=preC_len g.P (g.P.funcs.length+1)
        have e4:=HBB.out.2
        rw [List.length_map] at e1
        simp at e2
        omega
       have hok:∀ b ∈ L ++ M,kBind.ok b:=fun b hb=>by
        obtain ⟨o1,o2,o3⟩:=HAT.out.ok b hb
        have o4:=HLV.out.2
        exact ⟨o1,by omega,by omega⟩
       exact ⟨HAT.out.rl.same (fun _ _ _=>rfl) (fun b _ hb=>by have:=hb.1;show g.n0≤b;omega),HAT.out.ro.same (fun _ _ _=>rfl) (fun b _ hb=>by have:=hb.1;show g.n0≤b;omega),own_rows (K:=kBind) (own_upF HAT.out.own1 (by omega)) (by show L.length * 24≤_;omega) (fun b hb=>hok b (List.mem_append_left _ hb)),own_rows (K:=kBind) (own_upF HAT.out.own2 (by omega)) (by show M.length * 24≤_;omega) (fun b hb=>hok b (List.mem_append_right _ hb)),HLIM.out⟩
      have HRD:=Lib.hid hRd
      have HGQ:Hid (GivenQ g.P { g.B with chans:=L,sites:=M }):=⟨HLN.out,hmn,fun b hb=>(HAT.out.ok b hb).2,by have h:=polErr_bare (q:=g.B) HBE.out;exact h⟩
      clear hRd hmn hQ hm1 hm
      go_wp2_with (refine wpList_store_row rfl 30 (.tmp 6) (.tmp 109) rfl (g.n0+3) #[.slice g.la g.B.levels.length g.lc,.slice g.oa g.B.order.length g.oc,.slice xa L.length xc,.slice ya M.length yc,.bool g.B.sens,.int .i64 g.B.steps,.int .i64 g.B.paths,.int .i64 g.B.nodes,.int .i64 g.B.confs] rfl rfl 30 Gv.polZ ?hs9 (by as_aux_lemma=>kernel_rfl) (by as_aux_lemma=>kernel_rfl) (by as_aux_lemma=>kernel_rfl) ?_;exact HAT.out.hr)
      refine bodyPost_ret (v:=.agg #[.slice g.la g.B.levels.length g.lc,.slice g.oa g.B.order.length g.oc,.slice xa L.length xc,.slice ya M.length yc,.bool g.B.sens,.int .i64 g.B.steps,.int .i64 g.B.paths,.int .i64 g.B.nodes,.int .i64 g.B.confs]) ?_ rfl ⟨{ g.B with chans:=L,sites:=M },HGQ.out,.slice g.la g.B.levels.length g.lc,.slice g.oa g.B.order.length g.oc,.slice xa L.length xc,.slice ya M.length yc,rfl,?_,?_⟩
      ·try simp only [Act.put]
       exact results_cell_row (P:=Tryd.prog) (fn:=Tryd.f19) rfl _ _ (g.n0+3) 30 _ (0,0) _ rfl (setRow_heap _ _ _ _ _ _ HAT.out.hr) Tryd.underlying30 rfl (by kernel_rfl)
      ·have h0:=HAT.out.h0
       rw [h0]
       have hkb:=HAT.out.hkb
       have hr2:=HRD.out
       refine ⟨HAT.out.rl.same (fun b hb _=>setRow_other _ _ _ _ (by have:=hb.1;omega)) (fun b _ hb=>by have:=hb.1;show g.n0≤b;omega),HAT.out.ro.same (fun b hb _=>setRow_other _ _ _ _ (by have:=hb.1;omega)) (fun b _ hb=>by have:=hb.1;show g.n0≤b;omega),?_,?_,HLIM.out⟩
       ·exact (RdRow.same (own_rows (K:=kBind) HAT.out.own1 hr2.2.2.1.size hr2.2.2.1.ok) (g':=upFrom g.n0) (fun b hb _=>setRow_other _ _ _ _ (by have hb:g.kb+1≤b:=hb;omega)) (fun b _ hb=>by have hb:g.kb+1≤b:=hb;show g.n0≤b;omega))
       ·exact (RdRow.same (own_rows (K:=kBind) HAT.out.own2 hr2.2.2.2.1.size hr2.2.2.2.1.ok) (g':=upFrom g.n0) (fun b hb _=>setRow_other _ _ _ _ (by have hb:g.kb+1≤b:=hb;omega)) (fun b _ hb=>by have hb:g.kb+1≤b:=hb;show g.n0≤b;omega))
      ·exact below_row HAT.out.below0 (by have:=HAT.out.h0;omega) _
     have hm2:(m:Int)≤(g.P.funcs.length:Int):=by omega
     have HML:Hid ((preC g.P m ++ codeAt g.P m).length≤1000000):=by
      show _≤_
      rw [← preC_step hm1]
      have:=preC_len g.P (m+1)
      have:=HBB.out.2
      omega
     go_upto_if 58 with fail
     go_cut [11] from 52 to 64 (fun cw wx=>RdInstrs none g.w0 cw (codeAt g.P m)∧z0=wx)
     case first=>
      by_cases hlt:m<g.P.funcs.length
      ·have hlt1:(m:Int)<(g.P.funcs.length:Int):=by omega
       obtain ⟨fd,hfd⟩:∃ fd,g.P.funcs[m]?=some fd:=⟨_,List.getElem?_eq_getElem hlt⟩
       obtain ⟨a',c',e',hl',hr'⟩:=H.out.2.2.1
       simp only [Value.slice.injEq] at e'
       obtain ⟨fq,fo,fv1,fv2,e'',_,f0,f1,f2,f3,f4,hri⟩:=hr' m fd hfd
       obtain ⟨ka2,kk2,rfl,_⟩:=id hri.2.1
       rw [e'.1,e''] at p3
       have f5:=cell_keep HAT.out.below0 f2
       have HRI:Hid (RdInstrs none g.w0 (.slice ka2 fd.code.length kk2) (codeAt g.P m)):=by
        show RdInstrs _ _ _ _
        have:codeAt g.P m=fd.code:=by unfold codeAt;rw [hfd]
        rw [this];exact hri.2.1
       clear hri hr' e' e'' f0 f1 f2 f3 f4 hfd hl' p4
       go_wp2_with fail
       go_meet
       exact ⟨HRI.out,by first|trivial|rfl⟩
      ·have hlt1:¬ (m:Int)<(g.P.funcs.length:Int):=by omega
       have HRI:Hid (RdInstrs none g.w0 (.slice g.a4 g.P.main.length g.k4) (codeAt g.P m)):=by
        show RdInstrs _ _ _ _
        have:codeAt g.P m=g.P.main:=by unfold codeAt;rw [List.getElem?_eq_none (by omega)]
        rw [this];exact H.out.2.2.2.1
       go_wp2_with fail
       go_meet
       exact ⟨HRI.out,by first|trivial|rfl⟩
     case rest=>
      obtain ⟨hrd,rfl⟩:=hcut
      clear p3 p4
      obtain ⟨acd,kcd,rfl,⟨hcl2,_⟩,hcr⟩:=id hrd
      obtain ⟨code,hcode⟩:∃ code,codeAt g.P m=code:=⟨_,rfl⟩
      rw [hcode] at hcl2 hcr hrd HML
      try rw [hcode]
      have HSTEP:Hid (sitesOf [] (preC g.P m ++ code)=sitesOf [] (preC g.P (m+1))):=by show _=_;rw [preC_step hm1,hcode]
      have HRC:=Lib.hid hrd
      clear hcode hcr hrd
      obtain ⟨PRE,hpre⟩:∃ l,preC g.P m=l:=⟨_,rfl⟩
      rw [hpre] at HMN HML HSTEP
      clear hpre
      go_wp2_with fail
      go_loopw [12] (fun i wr=>∃ (k:Nat) (ya:Option Addr) (yc:Nat) (M:List BindD),k≤code.length∧i=.int .i64 k∧M.map (·.name)=sitesOf [] (PRE ++ code.take k)∧g.At (L.length+M.length) (.slice xa L.length xc) (.slice ya M.length yc) L M wr) (fun i _=>code.length - (intOf i).toNat)
      case atStart=>exact ⟨0,ya,yc,M,Nat.zero_le _,rfl,by rw [List.take_zero,List.append_nil];exact HMN.out,HAT.out⟩
      case round=>
       clear HMN HAT M ya yc
       obtain ⟨k,ya,yc,M,hk,rfl,hMn,hat⟩:=hrel
       obtain ⟨wo,rfl⟩:∃ x:World,x=wr:=⟨_,rfl⟩
       have HA0:=Lib.hid hat
       clear hat
       by_cases hlt:k<code.length
       rotate_left
       ·obtain rfl:k=code.length:=by omega
        have hlt1:¬ (code.length:Int)<(code.length:Int):=by omega
        rw [List.take_length,HSTEP.out] at hMn
        have HMN:=Lib.hid hMn
        clear hMn
        go_wp2_with fail
        go_roundw
        case rel=>exact ⟨m+1,ya,yc,M,by omega,by go_num,HMN.out,HA0.out⟩
        case measure=>simp [intOf];omega
       have hlt1:(k:Int)<(code.length:Int):=by omega
       obtain ⟨x,hx⟩:∃ x,code[k]?=some x:=⟨_,List.getElem?_eq_getElem hlt⟩
       have hML:M.length≤1000000:=by
        have e1:=congrArg List.length hMn
        have e2:=sites_len (PRE ++ code.take k) []
        have e3:=HML.out
        rw [List.length_map] at e1
        rw [List.length_append] at e2 e3
        rw [List.length_take] at e2
        simp at e2
        omega
       have HNX:Hid (sitesOf [] (PRE ++ code.take (k+1))=if x.kind == 7 then putL x.name (M.map (·.name)) else M.map (·.name)):=by
        show _=_
        rw [List.take_add_one,hx,← List.append_assoc]
        rw [hMn]
        exact sitesOf_snoc [] _ x
       have HLL:Hid (M.length≤1000000):=hML
       clear hMn hML
       obtain ⟨a',c',e',_,hrr⟩:=HRC.out.keep HA0.out.below0
       simp only [Value.slice.injEq] at e'
       obtain ⟨rfl,_,rfl⟩:=e'
       obtain ⟨bx,ox,xv,rfl,_,i0,i1,i2,i3,i4,i5,i6,hri⟩:=hrr k x hx
       obtain ⟨aa2,ca2,rfl,_⟩:=id hri.1
       have hnz:x.name.size≤maxLen:=hri.2.2.2.2.2.2
       have HNZ:=Lib.hid hnz
       have hal:=(Below.refl wo.heap.size wo).alloc (Nat.le_refl _) (.cells #[.int .u8 x.kind,.int .u8 x.op,.string x.dst,.string x.name,.slice aa2 x.args.length ca2,.int .i64 x.line,.int .i64 x.col] 63)
       have HX:=Lib.hid (heap_alloc_new wo (.cells #[.int .u8 x.kind,.int .u8 x.op,.string x.dst,.string x.name,.slice aa2 x.args.length ca2,.int .i64 x.line,.int .i64 x.col] 63))
       have HAT:=Lib.hid (HA0.out.keep hal)
       have hxk:g.kb<wo.heap.size:=by have:=HA0.out.c1;omega
       clear hrr hx hri hal hnz HA0
       go_upto_region 21 with fail
       generalize wo.alloc (.cells #[.int .u8 x.kind,.int .u8 x.op,.string x.dst,.string x.name,.slice aa2 x.args.length ca2,.int .i64 x.line,.int .i64 x.col] 63)=W at *
       obtain ⟨xb,hxb⟩:∃ xb,wo.heap.size=xb:=⟨_,rfl⟩
       rw [hxb] at HX hxk
       try rw [hxb]
       clear hxb i0 i1 i2 i3 i4 i5 i6
       have HXK:=Lib.hid hxk
       clear hxk
       have p0:=row_of HX.out 0 (.int .u8 x.kind) rfl
       by_cases hk7:x.kind=7
       rotate_left
       ·have hk1:(x.kind != 7)=true:=by simp [hk7]
        have HNX2:Hid (M.map (·.name)=sitesOf [] (PRE ++ code.take (k+1))):=by show _=_;rw [HNX.out,if_neg (by simp [hk7])]
        clear HNX
        go_wp2_with fail
        go_roundw
        case rel=>exact ⟨k+1,ya,yc,M,by omega,by go_num,HNX2.out,HAT.out⟩
        case measure=>simp [intOf];omega
       have hk1:(x.kind != 7)=false:=by simp [hk7]
       have HNX2:Hid (sitesOf [] (PRE ++ code.take (k+1))=putL x.name (M.map (·.name))):=by show _=_;rw [HNX.out,if_pos (by simp [hk7])]
       clear HNX
       go_wp2_with fail
       clear p0 hk7 hk1
       go_loopw [14,15] (fun t i wr=>∃ q:Nat,q≤M.length∧i=.int .i64 q∧t=.bool (hasN (M.take q) x.name)∧Below W.heap.size W wr) (fun _ i _=>M.length - (intOf i).toNat)
       case atStart=>exact ⟨0,Nat.zero_le _,rfl,rfl,Below.refl _ _⟩
       case round=>
        obtain ⟨q,hq,rfl,rfl,hbw⟩:=hrel
        obtain ⟨z,rfl⟩:∃ x:World,x=wr:=⟨_,rfl⟩
        have HAZ:=Lib.hid (HAT.out.keep hbw)
        have HXZ:=Lib.hid ((hbw.block xb (Array.getElem?_eq_some_iff.1 HX.out).1).trans HX.out)
        have HBZ:=Lib.hid hbw
        clear hbw
        have q3:=row_of HAZ.out.hq 3 (.slice ya M.length yc) rfl
        have hML:M.length≤1000000:=HLL.out
        by_cases hlq:q<M.length
        ·have hlq1:(q:Int)<(M.length:Int):=by omega
         obtain ⟨y,hy⟩:∃ y,M[q]?=some y:=⟨_,List.getElem?_eq_getElem hlq⟩
         have hST:=hasN_step hy x.name
         have hrow:RdRow kBind none z (.slice ya M.length yc) M:=(own_rows (K:=kBind) HAZ.out.own2 (by show _ * 24≤_;omega) (fun b hb=>by
          obtain ⟨o1,o2,o3⟩:=HAZ.out.ok b (List.mem_append_right _ hb)
          have o4:=HLV.out.2
          exact ⟨o1,by omega,by omega⟩)).forget
         obtain ⟨bs,os,hya,_,c0,_,_⟩:=atBind hrow hy
         go_upto_region 26 with fail
         rw [hya] at q3
         have e1:=ext_cell q3
         have e2:=ext_cell c0
         have e3:=ext_cell (row_of HXZ.out 3 (.string x.name) rfl)
         clear hy hrow q3 c0 hya
         obtain ⟨T,hTT⟩:∃ T,hasN (M.take q) x.name=T:=⟨_,rfl⟩
         rw [hTT] at hST
         try rw [hTT]
         have HST:=Lib.hid hST
         clear hTT hST
         cases T
         ·(refine wp_region_calm (by kernel_rfl) (by kernel_rfl) ?_; (repeat (go_big_quiet_step (fail))); refine wpQuiet_nil ?_; intro wc hwc)
          clear e1 e2 e3
          have HBC:=Lib.hid hwc
          clear hwc
          go_wp2_with fail
          go_roundw
          case rel=>exact ⟨q+1,by omega,by go_num,by rw [HST.out];rfl,bcomp HBZ.out HBC.out⟩
          case measure=>simp [intOf];omega
         ·(refine wp_region_calm (by kernel_rfl) (by kernel_rfl) ?_; (repeat (go_big_quiet_step (fail))); refine wpQuiet_nil ?_; intro wc hwc)
          clear e1 e2 e3
          have HBC:=Lib.hid hwc
          clear hwc
          go_wp2_with fail
          go_roundw
          case rel=>exact ⟨q+1,by omega,by go_num,by rw [HST.out];rfl,bcomp HBZ.out HBC.out⟩
          case measure=>simp [intOf];omega
        obtain rfl:q=M.length:=by omega
        have hlq1:¬ (M.length:Int)<(M.length:Int):=by omega
        rw [List.take_length]
        cases hh:hasN M x.name
        rotate_left
        ·have HNX3:Hid (M.map (·.name)=sitesOf [] (PRE ++ code.take (k+1))):=by show _=_;rw [HNX2.out,put_has hh]
         clear hh HNX2
         go_wp2_with fail
         go_roundw
         case rel=>exact ⟨k+1,ya,yc,M,by omega,by go_num,HNX3.out,HAZ.out⟩
         case measure=>simp [intOf];omega
        have HNX3:Hid (∀ v,(M ++ [(⟨x.name,v⟩:BindD)]).map (·.name)=sitesOf [] (PRE ++ code.take (k+1))):=fun v=>by rw [HNX2.out,put_not v hh]
        clear hh HNX2 HAT HX
        have HAT:=Lib.hid HAZ.out
        clear HAZ
        have hLl:L.length≤1000000:=HLC.out
        have hMl:M.length≤1000000:=HLL.out
        have HCN:Hid (L.length+M.length≤1000000000):=by show _≤_;omega
        have HSL:Hid (∀ b ∈ [g.n0+1,xb],b<z.heap.size):=fun b hb=>by
         have h1:=HAT.out.hkb
         have h2:=HAT.out.c1
         have h3:=(Array.getElem?_eq_some_iff.1 HXZ.out).1
         rcases mem_two hb with rfl|rfl <;> omega
        have HNK:Hid (∀ b ∈ [g.n0+1,xb],¬ b=g.kb):=fun b hb=>by
         have h1:=HAT.out.hkb
         have h2:=HXK.out
         rcases mem_two hb with rfl|rfl <;> omega
        have HNO:Hid (∀ wa,g.At (L.length+M.length+1) (.slice xa L.length xc) (.slice ya M.length yc) L M wa→(∀ b ∈ [g.n0+1,xb],wa.heap[b]?=z.heap[b]?)→∀ b ∈ [g.n0+1,xb],¬ (Value.slice ya M.length yc).ownBlock=some b):=fun wa hA hw b hb e=>by
         have h1:=HAT.out.hkb
         rcases mem_two hb with rfl|rfl
         ·have h4:=(own_is hA.own2 e).1
          omega
         ·exact own_ne_cells hA.own2 ((hw _ (by simp)).trans HXZ.out) (by decide) e
        have l1:=keepS_cell (S:=[g.n0+1,xb]) (by simp) q3
        have l3:=keepS_cell (S:=[g.n0+1,xb]) (by simp) (row_of HXZ.out 3 (.string x.name) rfl)
        go_upto_region 28 with fail
        clear q3
        refine wp_region_mixS [g.n0+1,xb] (.one [0,1,2,3,4] 5 (.one [6] 7 (.one [] 8 (tailOf [9,10])))) (fun j=>decide (9≤j)) (by kernel_rfl) (by kernel_rfl) rfl (by kernel_rfl) (fun _ d _ _ _ h=>by cases d <;> exact h) ?_
        have HBd:Hid (Below z.heap.size z z.drew):=(Below.refl _ _).drew
        generalize z.drew=wn at *
        have HKn:Hid (∀ b ∈ [g.n0+1,xb],wn.heap[b]?=z.heap[b]?):=fun b hb=>HBd.out.block b (HSL.out b hb)
        have HAn:=Lib.hid (HAT.out.keep HBd.out)
        refine mix_one (by simp only [opsOf,List.filterMap_cons,List.filterMap_nil,List.getElem?_toArray,List.getElem?_cons_succ,List.getElem?_cons_zero];rfl) ⟨_,keepS_of HKn.out⟩ ?_
        change wpQuiet _ _ _ _ [_,_,_,_,_] _
        (repeat (go_big_quiet_step (fail)))
        clear l1 l3
        refine wpQuiet_nil ?_
        refine mix_step rfl ?_
        go_wp2_with (go_at_call 49;refine (next29 g _ _ _ _ _ _ HAn.out HCN.out HDL.out HLV.out).mono ?_;rintro e w2 ⟨rfl,ht2,hk2⟩)
        have HA2:=Lib.hid (HAn.out.called ht2 hk2)
        have HK2:Hid (∀ b ∈ [g.n0+1,xb],w2.heap[b]?=z.heap[b]?):=fun b hb=>(ht2.block b (by have:=HSL.out b hb;have:=HBd.out.size;omega) (HNK.out b hb)).trans (HKn.out b hb)
        have HS2:Hid (z.heap.size≤w2.heap.size):=Nat.le_trans HBd.out.size ht2.size
        have HLI:=Lib.hid (g.lev_in ((L.length+M.length)+1) HLV.out.1)
        clear ht2 hk2 HAn HKn
        obtain ⟨v,hv⟩:∃ v,g.lev ((L.length+M.length)+1)=v:=⟨_,rfl⟩
        rw [hv] at HLI
        try rw [hv]
        clear hv
        (first|refine ⟨fun _=>⟨_,keepS_of HK2.out⟩,?_⟩|refine ⟨⟨_,keepS_of HK2.out⟩,?_⟩)
        refine mix_one (by simp only [opsOf,List.filterMap_cons,List.filterMap_nil,List.getElem?_toArray,List.getElem?_cons_succ,List.getElem?_cons_zero];rfl) ⟨_,keepS_of HK2.out⟩ ?_
        change wpQuiet _ _ _ _ [_] _
        (repeat (go_big_quiet_step (fail)))
        refine wpQuiet_nil ?_
        refine mix_step rfl ?_
        go_wp2_with fail
        have HN:=Lib.hid (heap_alloc_new w2 (.cells #[.string x.name,.int .i64 v] 58))
        have hal2:Below w2.heap.size w2 (w2.alloc (.cells #[.string x.name,.int .i64 v] 58)):=(Below.refl _ _).alloc (Nat.le_refl _) _
        have HKw:Hid (∀ b ∈ [g.n0+1,xb],(w2.alloc (.cells #[.string x.name,.int .i64 v] 58)).heap[b]?=z.heap[b]?):=fun b hb=>(hal2.block b (by have:=HSL.out b hb;have:=HS2.out;omega)).trans (HK2.out b hb)
        have HAa:=Lib.hid (HA2.out.keep hal2)
        obtain ⟨gb,hgb⟩:∃ gb,w2.heap.size=gb:=⟨_,rfl⟩
        rw [hgb] at HN
        try rw [hgb]
        have HSa:Hid (z.heap.size≤(w2.alloc (.cells #[.string x.name,.int .i64 v] 58)).heap.size):=Nat.le_trans HS2.out hal2.size
        clear hal2
        generalize w2.alloc (.cells #[.string x.name,.int .i64 v] 58)=wa at *
        clear hgb HA2 HK2 HS2
        (first|refine ⟨fun _=>⟨_,keepS_of HKw.out⟩,?_⟩|refine ⟨⟨_,keepS_of HKw.out⟩,?_⟩)
        refine mix_now ?_
        refine mix_step rfl ?_
        try (simp only [Act.put,List.setIfInBounds_toArray,List.set_cons_succ,List.set_cons_zero,List.getElem_toArray,List.getElem_cons_succ,List.getElem_cons_zero])
        have hLM:M.length≤1000000:=HLL.out
        refine wpList_append_own_at _ rfl (.tmp 100) (.tmp 106) 28 rfl (g.kb+1) 58 iB (.agg #[.string ⟨#[]⟩,.int .i64 0]) 2 24 Tryd.underlying28 hiB hzB0 hzB1 hzB2 rfl (by decide) _ _ _ rfl HAa.out.own2 ⟨gb,0,none⟩ 1 1 (cellsBind ⟨x.name,v⟩) rfl rfl ?hnw ?hone ?h63 ?hby HAa.out.c1 ?_
        case hnw=>
         intro j u hu
         have e:(⟨gb,0,none⟩:Addr).add j=⟨gb,j,none⟩:=by simp [Addr.add];omega
         rw [e]
         exact row_of HN.out j u (by rw [← List.getElem?_toArray] at hu;exact hu)
        case hone=>intro u hu;simp only [cellsBind,List.mem_cons,List.not_mem_nil,or_false] at hu;rcases hu with rfl|rfl <;> rfl
        case h63=>unfold maxLen;omega
        case hby=>omega
        intro v' w4 hown' hgrow _ hblk
        have hT4:Turned (fun k=>(Value.slice ya M.length yc).ownBlock=some k) wa w4:=Turned.of_grown hgrow (fun b e=>e)
        obtain ⟨za,zc,rfl,_⟩:=own_read hown'
        have HP4:=Lib.hid (HAa.out.push2 ⟨x.name,v⟩ ⟨HNZ.out,HLI.out⟩ hT4 hown' hblk)
        have hq4:w4.heap[g.n0+1]?=some (.cells (g.qc (.slice xa L.length xc) (.slice ya M.length yc)) 30 (0,0)):=(hT4.block _ (by have:=HAa.out.hkb;have:=HAa.out.c1;omega) (fun e=>by have:=(own_is HAa.out.own2 e).1;have:=HAa.out.hkb;omega)).trans HAa.out.hq
        have c8:=row_of hq4 3 (.slice ya M.length yc) rfl
        have f8:=frozen_of_row w4 (g.n0+1) 3 _ _ hq4
        have HKf:Hid (∀ b ∈ [g.n0+1,xb],w4.heap[b]?=z.heap[b]?):=fun b hb=>(hT4.block b (by have:=HSL.out b hb;have:=HSa.out;omega) (HNO.out wa HAa.out HKw.out b hb)).trans (HKw.out b hb)
        clear hown' hgrow hblk hT4 hq4
        try (simp only [Act.put,List.setIfInBounds_toArray,List.set_cons_succ,List.set_cons_zero,List.getElem_toArray,List.getElem_cons_succ,List.getElem_cons_zero])
        (first|refine ⟨fun _=>⟨_,keepS_of HKf.out⟩,?_⟩|refine ⟨⟨_,keepS_of HKf.out⟩,?_⟩)
        refine mix_tail [9,10] [_,_] _ _ rfl rfl ?_
        try (simp only [Act.put,List.setIfInBounds_toArray,List.set_cons_succ,List.set_cons_zero,List.getElem_toArray,List.getElem_cons_succ,List.getElem_cons_zero])
        go_wp2_with fail
        go_roundw
        case rel=>exact ⟨k+1,za,zc,M ++ [⟨x.name,v⟩],by omega,by go_num,HNX3.out v,by
         have h9:=HP4.out
         rw [show (M ++ [(⟨x.name,v⟩:BindD)]).length=M.length+1 by simp]
         exact h9⟩
        case measure=>simp [intOf];omega
end Go.Proofs.YtgllkgedjplpdaaDoor
