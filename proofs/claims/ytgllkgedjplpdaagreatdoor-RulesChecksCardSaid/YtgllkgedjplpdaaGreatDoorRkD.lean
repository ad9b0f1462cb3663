/- The reference of rules.Check says what the plain function rulesC says. Condition: what comes in reads as the plain data. -/
import Derived.Test.YtgllkgedjplpdaaGreatDoorRkC
import Derived.Test.YtgllkgedjplpdaaGreatDoorFlG
set_option linter.all false
set_option maxRecDepth 1000000
set_option maxHeartbeats 12800000
namespace Go.Proofs.YtgllkgedjplpdaaGreatDoor
open Go.ChangeShapes Go.WideShapes Go.ChangeAt Go.RowKit
def unbS (q:PolD) (s:ByteArray):Bool:=(levelOf q.sites s).isNone
theorem find_sites {q:PolD}:∀ (l:List InstrD) (S:List ByteArray),(∀ s ∈ S,unbS q s=false)->(sitesOf S l).find? (unbS q)=(l.find? (relB q)).map (·.name)
 | [],S,h=>by
  show S.find? (unbS q)=none
  rw [List.find?_eq_none]
  intro s hs
  rw [h s hs];simp
 | x :: r,S,h=>by
  show (sitesOf (if x.kind == 7 then putL x.name S else S) r).find? (unbS q)=_
  rw [List.find?_cons]
  cases hx:relB q x with
  | true=>
   have h7:x.kind == 7:=by unfold relB at hx;rw [Bool.and_eq_true] at hx;exact hx.1
   have hu:unbS q x.name=true:=by unfold relB at hx;rw [Bool.and_eq_true] at hx;exact hx.2
   have hn:inL x.name S=false:=by
    cases hi:inL x.name S with
    | false=>rfl
    | true=>rw [h _ (inL_iff.1 hi)] at hu;cases hu
   rw [if_pos h7]
   unfold putL
   rw [hn,if_neg (by simp)]
   obtain ⟨t,ht⟩:=sites_prefix r (S ++ [x.name])
   rw [ht,List.find?_append,List.find?_append]
   have hs:S.find? (unbS q)=none:=by
    rw [List.find?_eq_none]
    intro s hs
    rw [h s hs];simp
   rw [hs,Option.none_or,List.find?_cons,hu]
   rfl
  | false=>
   simp only
   refine find_sites r _ ?_
   intro s hs
   split at hs
   ·rename_i h7
    unfold putL at hs
    split at hs
    ·exact h s hs
    ·rcases List.mem_append.1 hs with hs|hs
     ·exact h s hs
     ·rw [List.mem_singleton] at hs
      subst hs
      unfold relB at hx
      rw [h7,Bool.true_and] at hx
      exact hx
   ·exact h s hs
theorem find_same {α:Type} {f g:α->Bool} {x:α}:∀ {l:List α},l.find? f=some x->g x=true->(∀ y ∈ l,g y=true->f y=true)->l.find? g=some x
 | [],h,_,_=>by cases h
 | y :: r,h,hg,ha=>by
  rw [List.find?_cons] at h ⊢
  cases hf:f y with
  | true=>
   rw [hf] at h
   simp only [Option.some.injEq] at h
   subst h
   rw [hg]
  | false=>
   rw [hf] at h
   cases hgy:g y with
   | true=>rw [ha y (by simp) hgy] at hf;cases hf
   | false=>exact find_same h hg fun z hz=>ha z (by simp [hz])
theorem site_first {p:ProgD} {q:PolD} {s:ByteArray} (h:(sitesAllF p).find? (unbS q)=some s):∃ x,(allI p).find? (relB q)=some x/\atI ((allI p).find? (frB 7 7 s))=(x.line,x.col):=by
 have h1:=find_sites (q:=q) (allI p) [] (fun _ h=>by cases h)
 have h2:sitesAllF p=sitesOf [] (allI p):=rfl
 rw [<- h2,h] at h1
 cases hr:(allI p).find? (relB q) with
 | none=>rw [hr] at h1;cases h1
 | some x=>
  rw [hr] at h1
  simp only [Option.map_some,Option.some.injEq] at h1
  have hx:=List.find?_some hr
  have hx1:(x.kind == 7)=true/\(levelOf q.sites x.name).isNone=true:=by unfold relB at hx;rwa [Bool.and_eq_true] at hx
  have h3:=find_same (g:=frB 7 7 s) hr (by unfold frB;rw [hx1.1,h1];simp) (fun y _ hy=>by
   unfold frB at hy
   rw [Bool.and_eq_true,Bool.or_self] at hy
   have hn:y.name.toList=s.toList:=by simpa using hy.2
   unfold relB
   rw [hy.1,Bool.true_and,Pre.ba_inj hn,h1]
   exact hx1.2)
  exact ⟨x,rfl,by rw [h3];rfl⟩
theorem site_none {p:ProgD} {q:PolD} (h:(sitesAllF p).find? (unbS q)=none):(allI p).find? (relB q)=none:=by
 have h1:=find_sites (q:=q) (allI p) [] (fun _ h=>by cases h)
 have h2:sitesAllF p=sitesOf [] (allI p):=rfl
 rw [<- h2,h] at h1
 cases hr:(allI p).find? (relB q) with
 | none=>rfl
 | some x=>rw [hr] at h1;cases h1
theorem refRulesC (p:ProgD) (cv av fv mv:Value) (q:PolD) (lv ov qv sv:Value) (w:World) (h:RdProg none w p cv av fv mv) (g:RdPol none w q lv ov qv sv) (hN:(codesOf p.funcs).length+p.main.length<=1000000) :
  Calls Tryz.prog 10 #[progV p cv av fv mv,polV q lv ov qv sv] w fun e w'=>e=.returned (.tuple #[.agg #[.int .i64 (rulesC p q).1.1,.int .i64 (rulesC p q).1.2],.int .i64 (rulesC p q).2])/\Below w.heap.size w w':=by
 obtain ⟨pa,pc,rfl,-,-⟩:=id h.1
 obtain ⟨aa,ac,rfl,-,-⟩:=id h.2.1
 obtain ⟨fa,fc,rfl,-,-⟩:=id h.2.2.1
 obtain ⟨ma,mc,rfl,-,-⟩:=id h.2.2.2.1
 obtain ⟨la,lc,rfl⟩:=g.1.is
 obtain ⟨oa,oc,rfl⟩:=g.2.1.is
 obtain ⟨ca,cc,rfl⟩:=g.2.2.1.is
 obtain ⟨ta,tc,rfl⟩:=g.2.2.2.1.is
 obtain ⟨hx0,hx1,hb0⟩:=heap2_of (w:=w) (A:=.cells #[.int .i64 p.width,.slice pa p.chans.length pc,.slice aa p.arrays.length ac,.slice fa p.funcs.length fc,.slice ma p.main.length mc] 27) (B:=.cells #[.slice la q.levels.length lc,.slice oa q.order.length oc,.slice ca q.chans.length cc,.slice ta q.sites.length tc,.bool q.sens,.int .i64 q.steps,.int .i64 q.paths,.int .i64 q.nodes,.int .i64 q.confs] 31) ((bR ((w.alloc (.cells #[.int .i64 p.width,.slice pa p.chans.length pc,.slice aa p.arrays.length ac,.slice fa p.funcs.length fc,.slice ma p.main.length mc] 27)).alloc (.cells #[.slice la q.levels.length lc,.slice oa q.order.length oc,.slice ca q.chans.length cc,.slice ta q.sites.length tc,.bool q.sens,.int .i64 q.steps,.int .i64 q.paths,.int .i64 q.nodes,.int .i64 q.confs] 31)).heap.size ((w.alloc (.cells #[.int .i64 p.width,.slice pa p.chans.length pc,.slice aa p.arrays.length ac,.slice fa p.funcs.length fc,.slice ma p.main.length mc] 27)).alloc (.cells #[.slice la q.levels.length lc,.slice oa q.order.length oc,.slice ca q.chans.length cc,.slice ta q.sites.length tc,.bool q.sens,.int .i64 q.steps,.int .i64 q.paths,.int .i64 q.nodes,.int .i64 q.confs] 31))).alloc (nR _) (.cells #[.int .i64 0,.int .i64 0] 35))
 have hx2:=heap_alloc_new ((w.alloc (.cells #[.int .i64 p.width,.slice pa p.chans.length pc,.slice aa p.arrays.length ac,.slice fa p.funcs.length fc,.slice ma p.main.length mc] 27)).alloc (.cells #[.slice la q.levels.length lc,.slice oa q.order.length oc,.slice ca q.chans.length cc,.slice ta q.sites.length tc,.bool q.sens,.int .i64 q.steps,.int .i64 q.paths,.int .i64 q.nodes,.int .i64 q.confs] 31)) (.cells #[.int .i64 0,.int .i64 0] 35)
 rw [show ((w.alloc (.cells #[.int .i64 p.width,.slice pa p.chans.length pc,.slice aa p.arrays.length ac,.slice fa p.funcs.length fc,.slice ma p.main.length mc] 27)).alloc (.cells #[.slice la q.levels.length lc,.slice oa q.order.length oc,.slice ca q.chans.length cc,.slice ta q.sites.length tc,.bool q.sens,.int .i64 q.steps,.int .i64 q.paths,.int .i64 q.nodes,.int .i64 q.confs] 31)).heap.size=w.heap.size+1+1 by simp] at hx2
 have H:=Hd (h.keep hb0)
 have G:=Hd (g.keep hb0)
 have HX0:=Hd hx0
 have HX1:=Hd hx1
 have HX2:=Hd hx2
 have HB0:=Hd hb0
 have HNN:=Hd hN
 clear h g hx0 hx1 hx2 hb0 hN
 obtain ⟨⟨⟨rl,rc⟩,re⟩,hR⟩:∃ r,rulesC p q=r:=⟨_,rfl⟩
 rw [hR]
 have HR:=Hd hR
 clear hR
 go_enter Tryz.func10,Tryz.ntmps10
 go_upto_region 1 with fail
 generalize ((w.alloc (.cells #[.int .i64 p.width,.slice pa p.chans.length pc,.slice aa p.arrays.length ac,.slice fa p.funcs.length fc,.slice ma p.main.length mc] 27)).alloc (.cells #[.slice la q.levels.length lc,.slice oa q.order.length oc,.slice ca q.chans.length cc,.slice ta q.sites.length tc,.bool q.sens,.int .i64 q.steps,.int .i64 q.paths,.int .i64 q.nodes,.int .i64 q.confs] 31)).alloc (.cells #[.int .i64 0,.int .i64 0] 35)=W at *
 obtain ⟨fb,hfb⟩:∃ fb,w.heap.size=fb:=⟨_,rfl⟩
 have HFB:=Hd hfb
 rw [hfb] at HX0 HX1 HX2
 try rw [hfb]
 clear hfb
 have HSZ:Hid (fb+1+1<W.heap.size):=(aE HX2.out).1
  -- what is written into the result, and the end
 have HEND:Hid (∀ (z:World) (l c:Int),Below W.heap.size W z->((z.setCell ⟨fb+1+1,0,none⟩ (.int .i64 l)).setCell ⟨fb+1+1,1,none⟩ (.int .i64 c)).heap[fb+1+1]?=some (.cells #[.int .i64 l,.int .i64 c] 35 (0,0))/\Below w.heap.size w ((z.setCell ⟨fb+1+1,0,none⟩ (.int .i64 l)).setCell ⟨fb+1+1,1,none⟩ (.int .i64 c))):=fun z l c hz=>by
  have hg:=(hz.block _ HSZ.out).trans HX2.out
  refine ⟨pos_row hg,?_⟩
  exact below_then (below_then (bcomp HB0.out hz) (setCell_turned _ ⟨fb+1+1,0,none⟩ (.int .i64 l)) (by have:=HB0.out.size;have:=hz.size;omega) (fun i e=>by have e:i=fb+1+1:=e;have:=HFB.out;omega)) (setCell_turned _ ⟨fb+1+1,1,none⟩ (.int .i64 c)) (by have:=HB0.out.size;have:=hz.size;simp;omega) (fun i e=>by have e:i=fb+1+1:=e;have:=HFB.out;omega)
 have hck:=refCheck p _ _ _ _ W H.out (by have:=HNN.out;omega)
 have c0:=row_of HX0.out 0 (.int .i64 p.width) rfl
 have c1:=row_of HX0.out 1 (.slice pa p.chans.length pc) rfl
 have c2:=row_of HX0.out 2 (.slice aa p.arrays.length ac) rfl
 have c3:=row_of HX0.out 3 (.slice fa p.funcs.length fc) rfl
 have c4:=row_of HX0.out 4 (.slice ma p.main.length mc) rfl
 cases hc:checkF p with
 | some F=>
  have h9:=(check_fault hc).1
  rw [hc,refV_some] at hck
  have HR1:=HR.out
  unfold rulesC at HR1
  rw [hc] at HR1
  simp only [Prod.mk.injEq] at HR1
  obtain ⟨⟨rfl,rfl⟩,rfl⟩:=HR1
  have HCK:=Hd hck
  have he0:(F.e != 0)=true:=by simp;omega
  clear hck hc h9
  go_upto_region 3 with (go_at_call 30;refine HCK.out.mono ?_;rintro e w2 ⟨rfl,hz⟩;have HZ2:=Hd hz;clear hz)
  clear c0 c1 c2 c3 c4
  have HB2:=Hd (bcomp HZ2.out ((bR w2.heap.size w2).alloc (nR _) (.cells #[.int .i64 F.line,.int .i64 F.col] 35)))
  have HP2:=Hd (heap_alloc_new w2 (.cells #[.int .i64 F.line,.int .i64 F.col] 35))
  generalize w2.alloc (.cells #[.int .i64 F.line,.int .i64 F.col] 35)=W2 at *
  have p0:=row_of HP2.out 0 (.int .i64 F.line) rfl
  have p1:=row_of HP2.out 1 (.int .i64 F.col) rfl
  have hg2:=(HB2.out.block _ HSZ.out).trans HX2.out
  have y0:=row_of hg2 0 (.int .i64 0) rfl
  have y1:=row_of hg2 1 (.int .i64 0) rfl
  have f0:=frozen_of_row W2 (fb+1+1) 0 _ _ hg2
  have f1:=frozen_of_row W2 (fb+1+1) 1 _ _ hg2
  clear hg2
  go_wp2_with fail
  refine bodyPost_ret (v:=.tuple #[.agg #[.int .i64 F.line,.int .i64 F.col],.int .i64 F.e]) ?_ rfl ⟨rfl,(HEND.out W2 F.line F.col HB2.out).2⟩
  try simp only [Act.put]
  exact results_cell_two (P:=Tryz.prog) (fn:=Tryz.f10) rfl _ _ (fb+1+1) 35 #[.int .i64 F.line,.int .i64 F.col] (0,0) _ rfl (HEND.out W2 F.line F.col HB2.out).1 Tryz.underlying35 rfl (by kernel_rfl)
 | none=>
 rw [hc,refV_none] at hck
 have HCK:=Hd hck
 have HCF:=Hd hc
 clear hck hc
 go_upto_region 4 with (go_at_call 30;refine HCK.out.mono ?_;rintro e w2 ⟨rfl,hz⟩;have HZ2:=Hd hz;clear hz)
 clear c0 c1 c2 c3 c4 HCK
 have HB2:=Hd (bcomp HZ2.out ((bR w2.heap.size w2).alloc (nR _) (.cells #[.int .i64 0,.int .i64 0] 35)))
 generalize w2.alloc (.cells #[.int .i64 0,.int .i64 0] 35)=W2 at *
 have HY1:=Hd ((HB2.out.block _ (aE HX1.out).1).trans HX1.out)
 have hpc:=refPolCheck q _ _ _ _ W2 (G.out.keep HB2.out)
 obtain ⟨pe,hpe⟩:∃ e,polErr q=e:=⟨_,rfl⟩
 rw [hpe] at hpc
 have HPC:=Hd hpc
 have HPE:=Hd hpe
 clear hpc hpe
 have d0:=row_of HY1.out 0 (.slice la q.levels.length lc) rfl
 have d1:=row_of HY1.out 1 (.slice oa q.order.length oc) rfl
 have d2:=row_of HY1.out 2 (.slice ca q.chans.length cc) rfl
 have d3:=row_of HY1.out 3 (.slice ta q.sites.length tc) rfl
 have d4:=row_of HY1.out 4 (.bool q.sens) rfl
 have d5:=row_of HY1.out 5 (.int .i64 q.steps) rfl
 have d6:=row_of HY1.out 6 (.int .i64 q.paths) rfl
 have d7:=row_of HY1.out 7 (.int .i64 q.nodes) rfl
 have d8:=row_of HY1.out 8 (.int .i64 q.confs) rfl
 by_cases h0:pe=0
 rotate_left
 ·have h01:(pe != 0)=true:=by simpa using h0
  have HR1:=HR.out
  unfold rulesC fitF at HR1
  rw [HCF.out,HPE.out] at HR1
  simp only [ne_eq,h0,not_false_eq_true,if_true,Prod.mk.injEq] at HR1
  obtain ⟨⟨rfl,rfl⟩,rfl⟩:=HR1
  go_upto_region 6 with (go_at_call 31;refine HPC.out.mono ?_;rintro e W3 ⟨rfl,hz⟩;have HZ3:=Hd hz;clear hz)
  clear d0 d1 d2 d3 d4 d5 d6 d7 d8
  have HB3:=Hd (bcomp HB2.out HZ3.out)
  have hg2:=(HB3.out.block _ HSZ.out).trans HX2.out
  have y0:=row_of hg2 0 (.int .i64 0) rfl
  have y1:=row_of hg2 1 (.int .i64 0) rfl
  have f0:=frozen_of_row W3 (fb+1+1) 0 _ _ hg2
  have f1:=frozen_of_row W3 (fb+1+1) 1 _ _ hg2
  clear hg2
  go_wp2_with fail
  refine bodyPost_ret (v:=.tuple #[.agg #[.int .i64 0,.int .i64 0],.int .i64 pe]) ?_ rfl ⟨rfl,(HEND.out W3 0 0 HB3.out).2⟩
  try simp only [Act.put]
  exact results_cell_two (P:=Tryz.prog) (fn:=Tryz.f10) rfl _ _ (fb+1+1) 35 #[.int .i64 0,.int .i64 0] (0,0) _ rfl (HEND.out W3 0 0 HB3.out).1 Tryz.underlying35 rfl (by kernel_rfl)
 subst h0
 go_upto_region 7 with (go_at_call 31;refine HPC.out.mono ?_;rintro e W3 ⟨rfl,hz⟩;have HZ3:=Hd hz;clear hz)
 clear d0 d1 d2 d3 d4 d5 d6 d7 d8
 have HB3:=Hd (bcomp HB2.out HZ3.out)
 clear HZ3 HZ2 HB2 HY1
 have hcl:p.chans.length<=32:=(wfP_of HCF.out).chl
 go_wp2_with fail
 go_loopw [9] (fun i wr=>∃ j:Nat,j<=p.chans.length/\i=.int .i64 j/\Hid ((p.chans.take j).find? (noChan q)=none)/\Below W3.heap.size W3 wr) (fun i _=>p.chans.length - (intOf i).toNat)
 case atStart=>exact ⟨0,Nat.zero_le _,rfl,rfl,bR _ _⟩
 case round=>
  obtain ⟨j,hj,rfl,HM,hb⟩:=hrel
  obtain ⟨z0,rfl⟩:∃ x:World,x=wr:=⟨_,rfl⟩
  have HBz:=Hd (bcomp HB3.out hb)
  have HBl:=Hd hb
  clear hb
  have HP0:=Hd ((HBz.out.block _ (aE HX0.out).1).trans HX0.out)
  have HQ0:=Hd ((HBz.out.block _ (aE HX1.out).1).trans HX1.out)
  have q1:=row_of HP0.out 1 (.slice pa p.chans.length pc) rfl
  by_cases hlt:j<p.chans.length
  ·have hlt1:(j:Int)<(p.chans.length:Int):=by omega
   obtain ⟨s,hs⟩:∃ s,p.chans[j]?=some s:=⟨_,lG hlt⟩
   have HS:=Hd (find_snoc hs HM.out)
   obtain ⟨bs,os,rfl,cs,hsz⟩:∃ b o,pa=some ⟨b,o,none⟩/\z0.cell? ⟨b,o+j,none⟩=some (.string s)/\s.size<=maxLen:=by
    obtain ⟨a',c',e,_,hh⟩:=(H.out.keep HBz.out).1
    simp only [Value.slice.injEq] at e
    obtain ⟨rfl,_,rfl⟩:=e
    obtain ⟨b,o,e1,_,e2,e3⟩:=hh j s hs
    exact ⟨b,o,e1,e2,e3⟩
   have HLV:Hid (∀ z,Calls Tryz.prog 32 #[.slice ca q.chans.length cc,.string s] (ext z0 z) fun e w'=>e=.returned (.tuple #[.int .i64 ((levelOf q.chans s).getD 0),.bool (levelOf q.chans s).isSome])/\Below (ext z0 z).heap.size (ext z0 z) w'):=fun z=>refLevel _ q.chans s (ext z0 z) ((G.out.keep HBz.out).2.2.1.keep (ext_below z0 z))
   have e1:=ext_cell q1
   have e2:=ext_cell (row_of HQ0.out 2 (.slice ca q.chans.length cc) rfl)
   have e3:=ext_cell cs
   obtain ⟨lx,hlx⟩:∃ x,(levelOf q.chans s).getD 0=x:=⟨_,rfl⟩
   rw [hlx] at HLV
   have HSS:=Hd hs
   clear hlx hs
   go_upto_region 10 with fail
   clear q1
   cases hv:levelOf q.chans s with
   | some v=>
    rw [hv] at HLV
    have HM2:Hid ((p.chans.take (j+1)).find? (noChan q)=none):=by show _=_;rw [HS.out];unfold noChan;rw [hv];rfl
    have HLV2:Hid (∀ z,Calls Tryz.prog 32 #[.slice ca q.chans.length cc,.string s] (ext z0 z) fun e w'=>e=.returned (.tuple #[.int .i64 lx,.bool true])/\Below (ext z0 z).heap.size (ext z0 z) w'):=HLV.out
    clear hv HLV HS cs
    (refine wp_region_calm (by kernel_rfl) (by kernel_rfl) ?_;(repeat (go_big_quiet_step ((go_at_call 32;exact calls_calm (HLV2.out _)))));refine wpQuiet_nil ?_;intro wc hwc)
    clear e1 e2 e3 HLV2
    have HBC:=Hd hwc
    clear hwc
    go_wp2_with fail
    go_roundw
    case rel=>exact ⟨j+1,by omega,by go_num,HM2,bcomp HBl.out HBC.out⟩
    case measure=>simp [intOf];omega
   | none=>
    rw [hv] at HLV
    have hfd:p.chans.find? (noChan q)=some s:=by
     have h1:=HS.out
     rw [if_pos (by unfold noChan;rw [hv];rfl)] at h1
     rw [<- List.take_append_drop (j+1) p.chans]
     exact find_pre h1
    have HR1:=HR.out
    unfold rulesC fitF at HR1
    rw [HCF.out,HPE.out] at HR1
    simp only [ne_eq,not_true_eq_false,if_false,hfd,Prod.mk.injEq] at HR1
    have HLV2:Hid (∀ z,Calls Tryz.prog 32 #[.slice ca q.chans.length cc,.string s] (ext z0 z) fun e w'=>e=.returned (.tuple #[.int .i64 lx,.bool false])/\Below (ext z0 z).heap.size (ext z0 z) w'):=HLV.out
    clear hv HLV HS hfd
    (refine wp_region_calm (by kernel_rfl) (by kernel_rfl) ?_;(repeat (go_big_quiet_step ((go_at_call 32;exact calls_calm (HLV2.out _)))));refine wpQuiet_nil ?_;intro wc hwc)
    clear e1 e2 e3 HLV2
    have HBC:=Hd hwc
    have HCS:=Hd (cell_keep hwc cs)
    clear hwc cs
    go_upto_region 12 with fail
    obtain ⟨hr1,hr2⟩:=HR1
    have hF:=refFirst p (.slice (some ⟨bs,os,none⟩) p.chans.length pc) (.slice aa p.arrays.length ac) (.slice fa p.funcs.length fc) (.slice ma p.main.length mc) 5 6 s
    have hfr:frB 5 6 s=rwB s:=rfl
    rw [hfr,hr1] at hF
    subst hr2
    have hy0:=((HBC.out.block _ (aE HP0.out).1).trans HP0.out)
    have HBT:=Hd (bcomp HBz.out HBC.out)
    have HFF:=Hd (fun z (hz:Below W.heap.size W z)=>hF z (H.out.keep hz))
    have u0:=ext_cell (row_of hy0 0 (.int .i64 p.width) rfl)
    have u1:=ext_cell (row_of hy0 1 (.slice (some ⟨bs,os,none⟩) p.chans.length pc) rfl)
    have u2:=ext_cell (row_of hy0 2 (.slice aa p.arrays.length ac) rfl)
    have u3:=ext_cell (row_of hy0 3 (.slice fa p.funcs.length fc) rfl)
    have u4:=ext_cell (row_of hy0 4 (.slice ma p.main.length mc) rfl)
    have u5:=ext_cell HCS.out
    clear hy0 hF hr1
    refine wp_region_mix (.one [0,1,2,3,4,5] 6 (tailOf [7,8])) (fun j=>decide (6<=j)) (by kernel_rfl) (by kernel_rfl) rfl (by kernel_rfl) (fun _ d _ _ _ h=>by cases d <;> exact h) ?_
    have HBd:=Hd (bcomp HBT.out ((bR wc.heap.size wc).drew))
    have HBe:Hid (Below wc.heap.size wc wc.drew):=(bR wc.heap.size wc).drew
    generalize wc.drew=wn at *
    refine mix_one (by simp only [opsOf,List.filterMap_cons,List.filterMap_nil,List.getElem?_toArray,List.getElem?_cons_succ,List.getElem?_cons_zero];rfl) ⟨_,ext_of HBe.out⟩ ?_
    change wpQuiet _ _ _ _ [_,_,_,_,_,_] _
    (repeat (go_big_quiet_step (fail)))
    refine wpQuiet_nil ?_
    clear u0 u1 u2 u3 u4 u5
    refine mix_step rfl ?_
    go_wp2_with (go_at_call 33;refine (HFF.out _ HBd.out).mono ?_;rintro e w5 ⟨rfl,hz⟩;have HZ5:=Hd (bcomp HBd.out hz);clear hz)
    refine ⟨fun h=>absurd h (by decide),?_⟩
    have hg2:=(HZ5.out.block _ HSZ.out).trans HX2.out
    have y0:=row_of hg2 0 (.int .i64 0) rfl
    have y1:=row_of hg2 1 (.int .i64 0) rfl
    have f0:=frozen_of_row w5 (fb+1+1) 0 _ _ hg2
    have f1:=frozen_of_row w5 (fb+1+1) 1 _ _ hg2
    clear hg2
    refine mix_tail [7,8] [_,_] _ _ rfl rfl ?_
    go_wp2_with fail
    refine bodyPost_ret (v:=.tuple #[.agg #[.int .i64 rl,.int .i64 rc],.int .i64 6]) ?_ rfl ⟨rfl,(HEND.out w5 rl rc HZ5.out).2⟩
    try simp only [Act.put]
    exact results_cell_two (P:=Tryz.prog) (fn:=Tryz.f10) rfl _ _ (fb+1+1) 35 #[.int .i64 rl,.int .i64 rc] (0,0) _ rfl (HEND.out w5 rl rc HZ5.out).1 Tryz.underlying35 rfl (by kernel_rfl)
  ·obtain rfl:j=p.chans.length:=by omega
   have hlt1:¬ (p.chans.length:Int)<(p.chans.length:Int):=by omega
   have HNC:Hid (p.chans.find? (noChan q)=none):=by show _=_;have:=HM.out;rwa [List.take_length] at this
   have HST:=Hd (refSites p _ _ _ _ z0 (H.out.keep HBz.out) (by have:=HNN.out;omega))
   clear hlt hj HM q1
   have c0:=row_of HP0.out 0 (.int .i64 p.width) rfl
   have c1:=row_of HP0.out 1 (.slice pa p.chans.length pc) rfl
   have c2:=row_of HP0.out 2 (.slice aa p.arrays.length ac) rfl
   have c3:=row_of HP0.out 3 (.slice fa p.funcs.length fc) rfl
   have c4:=row_of HP0.out 4 (.slice ma p.main.length mc) rfl
   go_upto_region 14 with (go_at_call 34;refine HST.out.mono ?_;rintro e z1 ⟨v1,rfl,hr,hz⟩;have hr:=hr.forget;obtain ⟨sa,sk,rfl,hsl,-⟩:=id hr;have HRS:=Hd hr;have HZ1:=Hd hz;clear hr hz)
   clear c0 c1 c2 c3 c4 HST
   obtain ⟨S,hS⟩:∃ S,sitesOf [] (preC p (p.funcs.length+1))=S:=⟨_,rfl⟩
   rw [hS] at HRS hsl
   try rw [hS]
   have HSA:Hid (sitesAllF p=S):=by show _=_;rw [<- hS,preC_all];rfl
   have hsl2:S.length<=100000000000000:=by have:=hsl.1;omega
   clear hS hsl
   have HB4:=Hd (bcomp HBz.out HZ1.out)
   clear HBl HP0 HQ0
   go_wp2_with fail
   go_loopw [13] (fun i wr=>∃ j:Nat,j<=S.length/\i=.int .i64 j/\Hid ((S.take j).find? (unbS q)=none)/\Below z1.heap.size z1 wr) (fun i _=>S.length - (intOf i).toNat)
   case atStart=>exact ⟨0,Nat.zero_le _,rfl,rfl,bR _ _⟩
   case round=>
    obtain ⟨j,hj,rfl,HM,hb⟩:=hrel
    obtain ⟨z2,rfl⟩:∃ x:World,x=wr:=⟨_,rfl⟩
    have HBz:=Hd (bcomp HB4.out hb)
    have HBl:=Hd hb
    clear hb
    have HP0:=Hd ((HBz.out.block _ (aE HX0.out).1).trans HX0.out)
    have HQ0:=Hd ((HBz.out.block _ (aE HX1.out).1).trans HX1.out)
    by_cases hlt:j<S.length
    ·have hlt1:(j:Int)<(S.length:Int):=by omega
     obtain ⟨s,hs⟩:∃ s,S[j]?=some s:=⟨_,lG hlt⟩
     have HS:=Hd (find_snoc hs HM.out)
     obtain ⟨bs,os,rfl,cs,hsz⟩:∃ b o,sa=some ⟨b,o,none⟩/\z2.cell? ⟨b,o+j,none⟩=some (.string s)/\s.size<=maxLen:=by
      obtain ⟨a',c',e,_,hh⟩:=HRS.out.keep HBl.out
      simp only [Value.slice.injEq] at e
      obtain ⟨rfl,_,rfl⟩:=e
      obtain ⟨b,o,e1,_,e2,e3⟩:=hh j s hs
      exact ⟨b,o,e1,e2,e3⟩
     have HLV:Hid (∀ z,Calls Tryz.prog 32 #[.slice ta q.sites.length tc,.string s] (ext z2 z) fun e w'=>e=.returned (.tuple #[.int .i64 ((levelOf q.sites s).getD 0),.bool (levelOf q.sites s).isSome])/\Below (ext z2 z).heap.size (ext z2 z) w'):=fun z=>refLevel _ q.sites s (ext z2 z) ((G.out.keep HBz.out).2.2.2.1.keep (ext_below z2 z))
     have e2:=ext_cell (row_of HQ0.out 3 (.slice ta q.sites.length tc) rfl)
     have e3:=ext_cell cs
     obtain ⟨lx,hlx⟩:∃ x,(levelOf q.sites s).getD 0=x:=⟨_,rfl⟩
     rw [hlx] at HLV
     clear hlx hs
     go_upto_region 17 with fail
     cases hv:levelOf q.sites s with
     | some v=>
      rw [hv] at HLV
      have HM2:Hid ((S.take (j+1)).find? (unbS q)=none):=by show _=_;rw [HS.out];unfold unbS;rw [hv];rfl
      have HLV2:Hid (∀ z,Calls Tryz.prog 32 #[.slice ta q.sites.length tc,.string s] (ext z2 z) fun e w'=>e=.returned (.tuple #[.int .i64 lx,.bool true])/\Below (ext z2 z).heap.size (ext z2 z) w'):=HLV.out
      clear hv HLV HS cs
      (refine wp_region_calm (by kernel_rfl) (by kernel_rfl) ?_;(repeat (go_big_quiet_step ((go_at_call 32;exact calls_calm (HLV2.out _)))));refine wpQuiet_nil ?_;intro wc hwc)
      clear e2 e3 HLV2
      have HBC:=Hd hwc
      clear hwc
      go_wp2_with fail
      go_roundw
      case rel=>exact ⟨j+1,by omega,by go_num,HM2,bcomp HBl.out HBC.out⟩
      case measure=>simp [intOf];omega
     | none=>
      rw [hv] at HLV
      have hfd:S.find? (unbS q)=some s:=by
       have h1:=HS.out
       rw [if_pos (by unfold unbS;rw [hv];rfl)] at h1
       rw [<- List.take_append_drop (j+1) S]
       exact find_pre h1
      rw [<- HSA.out] at hfd
      obtain ⟨x,hx1,hx2⟩:=site_first hfd
      have HR1:=HR.out
      unfold rulesC fitF at HR1
      rw [HCF.out,HPE.out] at HR1
      simp only [ne_eq,not_true_eq_false,if_false,HNC.out,hx1,Prod.mk.injEq] at HR1
      have HLV2:Hid (∀ z,Calls Tryz.prog 32 #[.slice ta q.sites.length tc,.string s] (ext z2 z) fun e w'=>e=.returned (.tuple #[.int .i64 lx,.bool false])/\Below (ext z2 z).heap.size (ext z2 z) w'):=HLV.out
      clear hv HLV HS hfd
      (refine wp_region_calm (by kernel_rfl) (by kernel_rfl) ?_;(repeat (go_big_quiet_step ((go_at_call 32;exact calls_calm (HLV2.out _)))));refine wpQuiet_nil ?_;intro wc hwc)
      clear e2 e3 HLV2
      have HBC:=Hd hwc
      have HCS:=Hd (cell_keep hwc cs)
      clear hwc cs
      go_upto_region 19 with fail
      obtain ⟨hr1,hr2⟩:=HR1
      have hF:=refFirst p (.slice pa p.chans.length pc) (.slice aa p.arrays.length ac) (.slice fa p.funcs.length fc) (.slice ma p.main.length mc) 7 7 s
      have hr1:atI ((allI p).find? (frB 7 7 s))=(rl,rc):=hx2.trans hr1
      rw [hr1] at hF
      subst hr2
      have hy0:=((HBC.out.block _ (aE HP0.out).1).trans HP0.out)
      have HBT:=Hd (bcomp HBz.out HBC.out)
      have HFF:=Hd (fun z (hz:Below W.heap.size W z)=>hF z (H.out.keep hz))
      have u0:=ext_cell (row_of hy0 0 (.int .i64 p.width) rfl)
      have u1:=ext_cell (row_of hy0 1 (.slice pa p.chans.length pc) rfl)
      have u2:=ext_cell (row_of hy0 2 (.slice aa p.arrays.length ac) rfl)
      have u3:=ext_cell (row_of hy0 3 (.slice fa p.funcs.length fc) rfl)
      have u4:=ext_cell (row_of hy0 4 (.slice ma p.main.length mc) rfl)
      have u5:=ext_cell HCS.out
      clear hy0 hF hr1
      refine wp_region_mix (.one [0,1,2,3,4] 5 (tailOf [6,7])) (fun j=>decide (5<=j)) (by kernel_rfl) (by kernel_rfl) rfl (by kernel_rfl) (fun _ d _ _ _ h=>by cases d <;> exact h) ?_
      have HBd:=Hd (bcomp HBT.out ((bR wc.heap.size wc).drew))
      have HBe:Hid (Below wc.heap.size wc wc.drew):=(bR wc.heap.size wc).drew
      generalize wc.drew=wn at *
      refine mix_one (by simp only [opsOf,List.filterMap_cons,List.filterMap_nil,List.getElem?_toArray,List.getElem?_cons_succ,List.getElem?_cons_zero];rfl) ⟨_,ext_of HBe.out⟩ ?_
      change wpQuiet _ _ _ _ [_,_,_,_,_] _
      (repeat (go_big_quiet_step (fail)))
      refine wpQuiet_nil ?_
      clear u0 u1 u2 u3 u4 u5
      refine mix_step rfl ?_
      go_wp2_with (go_at_call 33;refine (HFF.out _ HBd.out).mono ?_;rintro e w5 ⟨rfl,hz⟩;have HZ5:=Hd (bcomp HBd.out hz);clear hz)
      refine ⟨fun h=>absurd h (by decide),?_⟩
      have hg2:=(HZ5.out.block _ HSZ.out).trans HX2.out
      have y0:=row_of hg2 0 (.int .i64 0) rfl
      have y1:=row_of hg2 1 (.int .i64 0) rfl
      have f0:=frozen_of_row w5 (fb+1+1) 0 _ _ hg2
      have f1:=frozen_of_row w5 (fb+1+1) 1 _ _ hg2
      clear hg2
      refine mix_tail [6,7] [_,_] _ _ rfl rfl ?_
      go_wp2_with fail
      refine bodyPost_ret (v:=.tuple #[.agg #[.int .i64 rl,.int .i64 rc],.int .i64 6]) ?_ rfl ⟨rfl,(HEND.out w5 rl rc HZ5.out).2⟩
      try simp only [Act.put]
      exact results_cell_two (P:=Tryz.prog) (fn:=Tryz.f10) rfl _ _ (fb+1+1) 35 #[.int .i64 rl,.int .i64 rc] (0,0) _ rfl (HEND.out w5 rl rc HZ5.out).1 Tryz.underlying35 rfl (by kernel_rfl)
    ·obtain rfl:j=S.length:=by omega
     have hlt1:¬ (S.length:Int)<(S.length:Int):=by omega
     have hnone:(sitesAllF p).find? (unbS q)=none:=by rw [HSA.out];have:=HM.out;rwa [List.take_length] at this
     have HR1:=HR.out
     unfold rulesC fitF at HR1
     rw [HCF.out,HPE.out] at HR1
     simp only [ne_eq,not_true_eq_false,if_false,HNC.out,site_none hnone,Prod.mk.injEq] at HR1
     obtain ⟨⟨rfl,rfl⟩,rfl⟩:=HR1
     have hg2:=(HBz.out.block _ HSZ.out).trans HX2.out
     have y0:=row_of hg2 0 (.int .i64 0) rfl
     have y1:=row_of hg2 1 (.int .i64 0) rfl
     have f0:=frozen_of_row z2 (fb+1+1) 0 _ _ hg2
     have f1:=frozen_of_row z2 (fb+1+1) 1 _ _ hg2
     clear hg2 hnone hlt hj
     go_wp2_with fail
     refine bodyPost_ret (v:=.tuple #[.agg #[.int .i64 0,.int .i64 0],.int .i64 0]) ?_ rfl ⟨rfl,(HEND.out z2 0 0 HBz.out).2⟩
     try simp only [Act.put]
     exact results_cell_two (P:=Tryz.prog) (fn:=Tryz.f10) rfl _ _ (fb+1+1) 35 #[.int .i64 0,.int .i64 0] (0,0) _ rfl (HEND.out z2 0 0 HBz.out).1 Tryz.underlying35 rfl (by kernel_rfl)
end Go.Proofs.YtgllkgedjplpdaaGreatDoor
