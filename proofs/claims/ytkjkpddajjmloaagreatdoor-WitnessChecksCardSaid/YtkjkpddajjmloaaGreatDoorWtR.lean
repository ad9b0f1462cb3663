/- Plain facts of law37's awake. Condition: the tables hold what they are laid with. -/
import Derived.Test.YtkjkpddajjmloaaGreatDoorWtJ
import Derived.Test.YtkjkpddajjmloaaGreatDoorAgY
import Derived.BigQuiet
set_option linter.all false
set_option maxRecDepth 1000000
set_option maxHeartbeats 6400000
namespace Go.Proofs.YtkjkpddajjmloaaGreatDoor
open Go.ChangeShapes Go.WideShapes Go.ChangeAt Go.RowKit
open Go.Lib (hid)
theorem gsWtR {α:Type} {a:Array α} {i:Nat} {v:α} (h:a[i]?=some v):i<a.size:=(Array.getElem?_eq_some_iff.1 h).1
theorem awk1:makeE (e1D 0) p1D 0 [[],[3]] [[],[0]]=0:=by kernel_rfl
theorem awk2:implB (runT (e1D 0) [[],[3]] p1D.steps) (runT (e1D 0) [[],[0]] p1D.steps)=true:=by kernel_rfl
theorem awk3:checkE (e1D 0) p1D 0 [[],[3]] [[],[0]] true=0:=by kernel_rfl
theorem quiet_load_row {P:Program} {o:Oper} {a:Act} {C:World→Prop} {K:Act→Prop} (ty:TypeId) (x:Operand) (ho:o.op=.load ty x)
  (g:Nat) (hx:a.eval x=.pointer (some ⟨g,0,none⟩)) (t:TypeId) (cs:Array Value) (fr:Nat × Nat) (d:TypeDesc) (hg:∀ w,C w→w.heap[g]?=some (.cells cs t fr))
  (hu:P.underlying ty=some d) (hd:(match d with|.struct _|.array _ _=>true|_=>false)=true) (hi:(P.info? ty).map (·.size)=some cs.size)
  (h:K (a.put o.dst (.agg cs))):o.quiet P a C K:=by
 refine⟨_,fun w hw=>?_,h⟩
 unfold Oper.quietAt
 unfold execOp
 simp only[ho,hx,Instr.loadAt,Instr.sureAddr,Sem.run_bind,Sem.run_pure,Result.andThen_ok,run_loadVar_row w g t ty cs fr d (hg w hw) hu hd hi]
 exact⟨rfl,rfl⟩
theorem keepS_row {W:World} {S:List Nat} {b:Nat} {v:Obj} (hb:b∈S) (h:W.heap[b]?=some v):∀ w,(∃ x,w=keepS W S x)→w.heap[b]?=some v:=by
 rintro w ⟨x,rfl⟩
 exact (keepS_is W S x b hb).trans h
theorem awake7_any (w:World) (hL:Laid w) (hT:BitsAt w):Calls Tryz.prog 14 #[] w fun e w'=>e=.returned (.bool true)∧Below w.heap.size w w':=by
 have he7:=fun w=>e1_any 0 ⟨by decide,by decide⟩ w
 have hp7:=p1_any
 have ha7:=a_any
 have hb7:=b_any
 have h1:=awk1
 have h2:=awk2
 have h3:=awk3
 have hsA:∀ l∈([[],[3]]:List (List Int)),l.length≤1000000:=fun l hl=>by simp only[List.mem_cons,List.not_mem_nil,or_false] at hl;rcases hl with rfl|rfl <;> decide
 have hsB:∀ l∈([[],[0]]:List (List Int)),l.length≤1000000:=fun l hl=>by simp only[List.mem_cons,List.not_mem_nil,or_false] at hl;rcases hl with rfl|rfl <;> decide
 have hlA:([[],[3]]:List (List Int)).length≤1000000:=by decide
 have hlB:([[],[0]]:List (List Int)).length≤1000000:=by decide
 generalize e1D 0=F at he7 h1 h2 h3
 generalize p1D=q at hp7 h1 h2 h3
 generalize ([[],[3]]:List (List Int))=LA at ha7 h1 h2 h3 hsA hlA
 generalize ([[],[0]]:List (List Int))=LB at hb7 h1 h2 h3 hsB hlB
 have HE7:=hid he7
 have HP7:=hid hp7
 have HA7:=hid ha7
 have HB7:=hid hb7
 have HM0:=hid h1
 have HI0:=hid h2
 have HC0:=hid h3
 have HSA:=hid hsA
 have HSB:=hid hsB
 have HLN:=hid hlA
 have HLN2:=hid hlB
 have HL:=hid hL
 have HT:=hid hT
 clear he7 hp7 ha7 hb7 h1 h2 h3 hsA hsB hlA hlB hL hT
 go_enter Tryz.func14,Tryz.ntmps14
 go_upto_region 1 with fail
 go_upto_region 2 with (first|(go_at_call 23;refine (HE7.out _).mono ?_;rintro e a1 ⟨cF,rfl,⟨fcv,fsv,fav,fkv,rfl,hf⟩,hz⟩;obtain⟨ca,cc,rfl⟩:=hf.1.is;obtain⟨sa,sc,rfl⟩:=hf.2.1.is;obtain⟨aa,ac,rfl⟩:=hf.2.2.1.is;obtain⟨ka,kc,rfl⟩:=hf.2.2.2.1.is;have HF:=hid hf;have B1:=hid hz;clear hf hz)|(go_at_call 24;refine (HP7.out _).mono ?_;rintro e a2 ⟨cP,rfl,⟨plv,pov,pcv,psv,rfl,hp⟩,hz⟩;obtain⟨la,lc,rfl⟩:=hp.1.is;obtain⟨oa,oc,rfl⟩:=hp.2.1.is;obtain⟨ba,bc,rfl⟩:=hp.2.2.1.is;obtain⟨da,dc,rfl⟩:=hp.2.2.2.1.is;have HP:=hid hp;have B2:=hid hz;clear hp hz))
 have hal:=((Below.refl a2.heap.size a2).alloc (Nat.le_refl _) (.cells #[.int .i64 F.width,.int .i64 F.regs,.slice ca F.chans.length cc,.slice sa F.sites.length sc,.slice aa F.arrays.length ac,.slice ka F.code.length kc] 26)).alloc (by simp) (.cells #[.slice la q.levels.length lc,.slice oa q.order.length oc,.slice ba q.chans.length bc,.slice da q.sites.length dc,.bool q.sens,.int .i64 q.steps,.int .i64 q.paths,.int .i64 q.nodes,.int .i64 q.confs] 30)
 have hx:=heap2_of (w:=a2) (A:=.cells #[.int .i64 F.width,.int .i64 F.regs,.slice ca F.chans.length cc,.slice sa F.sites.length sc,.slice aa F.arrays.length ac,.slice ka F.code.length kc] 26 (0,0)) (B:=.cells #[.slice la q.levels.length lc,.slice oa q.order.length oc,.slice ba q.chans.length bc,.slice da q.sites.length dc,.bool q.sens,.int .i64 q.steps,.int .i64 q.paths,.int .i64 q.nodes,.int .i64 q.confs] 30 (0,0)) (Below.refl _ _)
 have HGF:=hid hx.1
 have HGP:=hid hx.2.1
 have HFC:Hid (FlatC ((a2.alloc (.cells #[.int .i64 F.width,.int .i64 F.regs,.slice ca F.chans.length cc,.slice sa F.sites.length sc,.slice aa F.arrays.length ac,.slice ka F.code.length kc] 26)).alloc (.cells #[.slice la q.levels.length lc,.slice oa q.order.length oc,.slice ba q.chans.length bc,.slice da q.sites.length dc,.bool q.sens,.int .i64 q.steps,.int .i64 q.paths,.int .i64 q.nodes,.int .i64 q.confs] 30)) F #[.int .i64 F.width,.int .i64 F.regs,.slice ca F.chans.length cc,.slice sa F.sites.length sc,.slice aa F.arrays.length ac,.slice ka F.code.length kc]):=⟨_,_,_,_,rfl,HF.out.keep (bcomp B2.out hal)⟩
 have HPC:Hid (PolC ((a2.alloc (.cells #[.int .i64 F.width,.int .i64 F.regs,.slice ca F.chans.length cc,.slice sa F.sites.length sc,.slice aa F.arrays.length ac,.slice ka F.code.length kc] 26)).alloc (.cells #[.slice la q.levels.length lc,.slice oa q.order.length oc,.slice ba q.chans.length bc,.slice da q.sites.length dc,.bool q.sens,.int .i64 q.steps,.int .i64 q.paths,.int .i64 q.nodes,.int .i64 q.confs] 30)) q #[.slice la q.levels.length lc,.slice oa q.order.length oc,.slice ba q.chans.length bc,.slice da q.sites.length dc,.bool q.sens,.int .i64 q.steps,.int .i64 q.paths,.int .i64 q.nodes,.int .i64 q.confs]):=⟨_,_,_,_,rfl,HP.out.keep hal⟩
 have HB0:=hid (bcomp B1.out (bcomp B2.out hal))
 have HLW:=hid (HL.out.keep HB0.out)
 have HTW:=hid (HT.out.keep HB0.out)
 have HFI:=hid HFC.out.info
 have HPI:=hid HPC.out.info
 clear hal hx HF HP B1 B2 HL HT
 generalize (a2.alloc (.cells #[.int .i64 F.width,.int .i64 F.regs,.slice ca F.chans.length cc,.slice sa F.sites.length sc,.slice aa F.arrays.length ac,.slice ka F.code.length kc] 26)).alloc (.cells #[.slice la q.levels.length lc,.slice oa q.order.length oc,.slice ba q.chans.length bc,.slice da q.sites.length dc,.bool q.sens,.int .i64 q.steps,.int .i64 q.paths,.int .i64 q.nodes,.int .i64 q.confs] 30)=W at *
 have hsz:a2.heap.size+1<W.heap.size:=(gsWtR HGP.out)
 have HSL:Hid (∀ b∈[a2.heap.size,a2.heap.size+1],b<W.heap.size):=by
  intro b hb
  simp only[List.mem_cons,List.not_mem_nil,or_false] at hb
  rcases hb with rfl|rfl <;> omega
 go_cut [3,4] from 7 to 15 (fun c3 c4 wx=>∃ (g:Nat) (c:Array Value),c3=.pointer (some ⟨g,0,none⟩)∧c4=.int .i64 0∧W.heap.size≤g∧wx.heap[g]?=some (.cells c 43 (0,0))∧WitC wx 0 LA LB true c∧Below W.heap.size W wx)
 case first=>
  have HDR:Hid (∀ b:Nat,W.drew.heap[b]?=W.heap[b]?):=fun _=>rfl
  have HD00:Hid (Below W.heap.size W W.drew):=(Below.refl _ _).drew
  refine wp_region_mixS [a2.heap.size,a2.heap.size+1] (.two [0,1] 2 8 (.two [] 3 8 (.two [] 4 8 (.one [5,6,7] 8 (.one [] 9 (.fin [10]))) (.one [] 4 (.one [5,6,7] 9 (.fin [10])))) (.one [] 3 (.one [] 4 (.one [5,6,7] 9 (.fin [10]))))) (.one [] 2 (.one [] 3 (.one [] 4 (.one [5,6,7] 9 (.fin [10])))))) (fun _=>false) (by kernel_rfl) (by kernel_rfl) rfl (by kernel_rfl) (fun _ d _ _ _ h=>by cases d <;> exact h) ?_
  generalize W.drew=W0 at *
  have HD0:Hid (Below W.heap.size W W0):=HD00.out
  have HK0:Hid (∀ b∈[a2.heap.size,a2.heap.size+1],W0.heap[b]?=W.heap[b]?):=fun b _=>HDR.out b
  refine mix_two (by simp only[opsOf,List.filterMap_cons,List.filterMap_nil,List.getElem?_toArray,List.getElem?_cons_succ,List.getElem?_cons_zero];rfl) ⟨_,keepS_of HK0.out⟩ ?_
  change wpQuiet _ _ _ _ [_,_] _
  go_big_quiet_want;refine quiet_load_row 26 (.tmp 1) rfl a2.heap.size rfl 26 #[.int .i64 F.width,.int .i64 F.regs,.slice ca F.chans.length cc,.slice sa F.sites.length sc,.slice aa F.arrays.length ac,.slice ka F.code.length kc] (0,0) _ (keepS_row (by simp) HGF.out) Tryz.underlying26 rfl HFI.out ?_;simp only[Act.put,List.setIfInBounds_toArray,List.set_cons_succ,List.set_cons_zero,List.getElem_toArray,List.getElem_cons_succ,List.getElem_cons_zero];go_big_quiet_on
  go_big_quiet_want;refine quiet_load_row 30 (.tmp 2) rfl (a2.heap.size+1) rfl 30 #[.slice la q.levels.length lc,.slice oa q.order.length oc,.slice ba q.chans.length bc,.slice da q.sites.length dc,.bool q.sens,.int .i64 q.steps,.int .i64 q.paths,.int .i64 q.nodes,.int .i64 q.confs] (0,0) _ (keepS_row (by simp) HGP.out) Tryz.underlying30 rfl HPI.out ?_;simp only[Act.put,List.setIfInBounds_toArray,List.set_cons_succ,List.set_cons_zero,List.getElem_toArray,List.getElem_cons_succ,List.getElem_cons_zero];go_big_quiet_on
  refine wpQuiet_nil ?_
  refine⟨?_,?_⟩
  ·refine mix_step rfl ?_
   go_wp2_with (go_at_call 25;refine (HA7.out _).mono ?_;rintro e W1 ⟨va,rfl,hr,hz⟩;obtain⟨va1,va2,rfl⟩:=hr.is;have HRA:=hid hr;have BZ1:=hid hz;clear hr hz)
   have HD1:=hid (bcomp HD0.out BZ1.out)
   have HK1:Hid (∀ b∈[a2.heap.size,a2.heap.size+1],W1.heap[b]?=W.heap[b]?):=fun b hb=>(BZ1.out.block b (by have:=HSL.out b hb;have:=HD0.out.size;omega)).trans (HK0.out b hb)
   refine⟨by first|exact⟨_,keepS_of HK1.out⟩|exact fun _=>⟨_,keepS_of HK1.out⟩,?_⟩
   refine mix_both ?_ ?_
   ·refine mix_step rfl ?_
    go_wp2_with (go_at_call 26;refine (HB7.out _).mono ?_;rintro e W2 ⟨vb,rfl,hr,hz⟩;obtain⟨vb1,vb2,rfl⟩:=hr.is;have HRB:=hid hr;have BZ2:=hid hz;clear hr hz)
    have HD2:=hid (bcomp HD1.out BZ2.out)
    have HK2:Hid (∀ b∈[a2.heap.size,a2.heap.size+1],W2.heap[b]?=W.heap[b]?):=fun b hb=>(BZ2.out.block b (by have:=HSL.out b hb;have:=HD1.out.size;omega)).trans (HK1.out b hb)
    refine⟨by first|exact⟨_,keepS_of HK2.out⟩|exact fun _=>⟨_,keepS_of HK2.out⟩,?_⟩
    refine mix_both ?_ ?_
    ·refine mix_step rfl ?_
     have hmk:=make_good F q #[.int .i64 F.width,.int .i64 F.regs,.slice ca F.chans.length cc,.slice sa F.sites.length sc,.slice aa F.arrays.length ac,.slice ka F.code.length kc] #[.slice la q.levels.length lc,.slice oa q.order.length oc,.slice ba q.chans.length bc,.slice da q.sites.length dc,.bool q.sens,.int .i64 q.steps,.int .i64 q.paths,.int .i64 q.nodes,.int .i64 q.confs] 0 _ _ LA LB W2 (HFC.out.keep HD2.out) (HPC.out.keep HD2.out) (HLW.out.keep HD2.out) (HTW.out.keep HD2.out) ⟨by decide,by decide⟩ (HRA.out.keep BZ2.out) HRB.out HSA.out HSB.out HM0.out
     rw[HI0.out] at hmk
     have HMK:=hid hmk
     clear hmk
     go_wp2_with (go_at_call 19;refine HMK.out.mono ?_;rintro e W3 ⟨wa,wsa,wb,wsb,rfl,ho1,ho2,hz⟩;obtain⟨wa1,wa2,rfl,-⟩:=own_read ho1.own;obtain⟨wb1,wb2,rfl,-⟩:=own_read ho2.own;have HO1:=hid ho1;have HO2:=hid ho2;have BZ3:=hid hz;clear ho1 ho2 hz)
     clear HMK
     have HD3:=hid (bcomp HD2.out BZ3.out)
     have HK3:Hid (∀ b∈[a2.heap.size,a2.heap.size+1],W3.heap[b]?=W.heap[b]?):=fun b hb=>(BZ3.out.block b (by have:=HSL.out b hb;have:=HD2.out.size;omega)).trans (HK2.out b hb)
     refine⟨by first|exact⟨_,keepS_of HK3.out⟩|exact fun _=>⟨_,keepS_of HK3.out⟩,?_⟩
     refine mix_one (by simp only[opsOf,List.filterMap_cons,List.filterMap_nil,List.getElem?_toArray,List.getElem?_cons_succ,List.getElem?_cons_zero];rfl) ⟨_,keepS_of HK3.out⟩ ?_
     change wpQuiet _ _ _ _ [_,_,_] _
     (repeat (go_big_quiet_step (fail)))
     refine wpQuiet_nil ?_
     refine mix_step rfl ?_
     go_wp2_with fail
     have hz:Below W3.heap.size W3 (W3.alloc (.cells #[.int .i64 0,.slice none 0 0,.slice none 0 0,.bool false] 43)):=(Below.refl _ _).alloc (Nat.le_refl _) _
     have BZ4:=hid hz
     have HZ0:=hid (heap_alloc_new W3 (.cells #[.int .i64 0,.slice none 0 0,.slice none 0 0,.bool false] 43))
     have hgz:W.heap.size≤W3.heap.size:=HD3.out.size
     clear hz
     obtain⟨gz,hgz0⟩:∃ gz,W3.heap.size=gz:=⟨_,rfl⟩
     rw[hgz0] at HZ0 hgz
     try rw[hgz0]
     have HGZ:=hid hgz0
     clear hgz0
     generalize W3.alloc (.cells #[.int .i64 0,.slice none 0 0,.slice none 0 0,.bool false] 43)=W4 at *
     have HD4:=hid (bcomp HD3.out BZ4.out)
     have HK4:Hid (∀ b∈[a2.heap.size,a2.heap.size+1],W4.heap[b]?=W.heap[b]?):=fun b hb=>(BZ4.out.block b (by have:=HSL.out b hb;have:=HD3.out.size;omega)).trans (HK3.out b hb)
     refine⟨by first|exact⟨_,keepS_of HK4.out⟩|exact fun _=>⟨_,keepS_of HK4.out⟩,?_⟩
     refine mix_now ?_
     refine mix_step rfl ?_
     have HZ9:=hid (HZ0.out)
     simp only[Act.put,List.setIfInBounds_toArray,List.set_cons_succ,List.set_cons_zero,List.getElem_toArray,List.getElem_cons_succ,List.getElem_cons_zero]
     go_wp2_with (refine wpList_store_row rfl 43 (.tmp 3) (.tmp 13) rfl gz #[.int .i64 0,.slice wa1 wsa.length wa2,.slice wb1 wsb.length wb2,.bool true] rfl rfl 43 #[.int .i64 0,.slice none 0 0,.slice none 0 0,.bool false] ?h1 (by as_aux_lemma=>kernel_rfl) (by as_aux_lemma=>kernel_rfl) (by as_aux_lemma=>kernel_rfl) ?_;exact HZ9.out)
     try simp only[Act.put]
     have hne:∀ b,b≠gz→(W4.setRow gz #[.int .i64 0,.slice wa1 wsa.length wa2,.slice wb1 wsb.length wb2,.bool true]).heap[b]?=W4.heap[b]?:=fun b h=>setRow_other _ _ _ _ h
     have hq1:=(((HO1.out.same (w':=(W4.setRow gz #[.int .i64 0,.slice wa1 wsa.length wa2,.slice wb1 wsb.length wb2,.bool true])) (fun b hb hl=>(hne b (by have:=HGZ.out;omega)).trans (BZ4.out.block b hl))))).rd HLN.out HSA.out
     have hq2:=(((HO2.out.same (w':=(W4.setRow gz #[.int .i64 0,.slice wa1 wsa.length wa2,.slice wb1 wsb.length wb2,.bool true])) (fun b hb hl=>(hne b (by have:=HGZ.out;omega)).trans (BZ4.out.block b hl))))).rd HLN2.out HSB.out
     have hbw:Below W.heap.size W (W4.setRow gz #[.int .i64 0,.slice wa1 wsa.length wa2,.slice wb1 wsb.length wb2,.bool true]):=below_row HD4.out hgz _
     have hgz2:(W4.setRow gz #[.int .i64 0,.slice wa1 wsa.length wa2,.slice wb1 wsb.length wb2,.bool true]).heap[gz]?=some (.cells #[.int .i64 0,.slice wa1 wsa.length wa2,.slice wb1 wsb.length wb2,.bool true] 43 (0,0)):=setRow_heap _ _ _ _ _ _ HZ9.out
     have hks:∀ b∈[a2.heap.size,a2.heap.size+1],(W4.setRow gz #[.int .i64 0,.slice wa1 wsa.length wa2,.slice wb1 wsb.length wb2,.bool true]).heap[b]?=W.heap[b]?:=fun b hb=>(hne b (by have hlt:=HSL.out b hb;omega)).trans (HK4.out b hb)
     refine⟨by first|exact⟨_,keepS_of hks⟩|exact fun _=>⟨_,keepS_of hks⟩,?_⟩
     refine mix_fin (by simp only[opsOf,List.filterMap_cons,List.filterMap_nil,List.getElem?_toArray,List.getElem?_cons_succ,List.getElem?_cons_zero];rfl) ⟨_,keepS_of hks⟩ ?_
     change wpQuiet _ _ _ _ [_] _
     (repeat (go_big_quiet_step (fail)))
     refine wpQuiet_nil ?_
     go_wp2_with fail
     go_meet
     exact⟨gz,_,rfl,rfl,hgz,hgz2,⟨_,_,rfl,hq1.forget,hq2.forget⟩,hbw⟩
    ·refine mix_step rfl ?_
     go_wp2_with fail
     have hz:Below W2.heap.size W2 (W2.alloc (.cells #[.int .i64 0,.slice none 0 0,.slice none 0 0,.bool false] 43)):=(Below.refl _ _).alloc (Nat.le_refl _) _
     have BZ3:=hid hz
     have HZ0:=hid (heap_alloc_new W2 (.cells #[.int .i64 0,.slice none 0 0,.slice none 0 0,.bool false] 43))
     have hgz:W.heap.size≤W2.heap.size:=HD2.out.size
     clear hz
     obtain⟨gz,hgz0⟩:∃ gz,W2.heap.size=gz:=⟨_,rfl⟩
     rw[hgz0] at HZ0 hgz
     try rw[hgz0]
     have HGZ:=hid hgz0
     clear hgz0
     generalize W2.alloc (.cells #[.int .i64 0,.slice none 0 0,.slice none 0 0,.bool false] 43)=W3 at *
     have HD3:=hid (bcomp HD2.out BZ3.out)
     have HK3:Hid (∀ b∈[a2.heap.size,a2.heap.size+1],W3.heap[b]?=W.heap[b]?):=fun b hb=>(BZ3.out.block b (by have:=HSL.out b hb;have:=HD2.out.size;omega)).trans (HK2.out b hb)
     refine⟨by first|exact⟨_,keepS_of HK3.out⟩|exact fun _=>⟨_,keepS_of HK3.out⟩,?_⟩
     refine mix_now ?_
     refine mix_step rfl ?_
     have hmk:=make_good F q #[.int .i64 F.width,.int .i64 F.regs,.slice ca F.chans.length cc,.slice sa F.sites.length sc,.slice aa F.arrays.length ac,.slice ka F.code.length kc] #[.slice la q.levels.length lc,.slice oa q.order.length oc,.slice ba q.chans.length bc,.slice da q.sites.length dc,.bool q.sens,.int .i64 q.steps,.int .i64 q.paths,.int .i64 q.nodes,.int .i64 q.confs] 0 _ _ LA LB W3 (HFC.out.keep HD3.out) (HPC.out.keep HD3.out) (HLW.out.keep HD3.out) (HTW.out.keep HD3.out) ⟨by decide,by decide⟩ ((HRA.out.keep BZ2.out).keep BZ3.out) (HRB.out.keep BZ3.out) HSA.out HSB.out HM0.out
     rw[HI0.out] at hmk
     have HMK:=hid hmk
     clear hmk
     go_wp2_with (go_at_call 19;refine HMK.out.mono ?_;rintro e W4 ⟨wa,wsa,wb,wsb,rfl,ho1,ho2,hz⟩;obtain⟨wa1,wa2,rfl,-⟩:=own_read ho1.own;obtain⟨wb1,wb2,rfl,-⟩:=own_read ho2.own;have HO1:=hid ho1;have HO2:=hid ho2;have BZ4:=hid hz;clear ho1 ho2 hz)
     clear HMK
     have HD4:=hid (bcomp HD3.out BZ4.out)
     have HK4:Hid (∀ b∈[a2.heap.size,a2.heap.size+1],W4.heap[b]?=W.heap[b]?):=fun b hb=>(BZ4.out.block b (by have:=HSL.out b hb;have:=HD3.out.size;omega)).trans (HK3.out b hb)
     refine⟨by first|exact⟨_,keepS_of HK4.out⟩|exact fun _=>⟨_,keepS_of HK4.out⟩,?_⟩
     refine mix_one (by simp only[opsOf,List.filterMap_cons,List.filterMap_nil,List.getElem?_toArray,List.getElem?_cons_succ,List.getElem?_cons_zero];rfl) ⟨_,keepS_of HK4.out⟩ ?_
     change wpQuiet _ _ _ _ [_,_,_] _
     (repeat (go_big_quiet_step (fail)))
     refine wpQuiet_nil ?_
     refine mix_step rfl ?_
     have HZ9:=hid (((BZ4.out.block _ (Array.getElem?_eq_some_iff.1 (HZ0.out)).1).trans (HZ0.out)))
     simp only[Act.put,List.setIfInBounds_toArray,List.set_cons_succ,List.set_cons_zero,List.getElem_toArray,List.getElem_cons_succ,List.getElem_cons_zero]
     go_wp2_with (refine wpList_store_row rfl 43 (.tmp 3) (.tmp 13) rfl gz #[.int .i64 0,.slice wa1 wsa.length wa2,.slice wb1 wsb.length wb2,.bool true] rfl rfl 43 #[.int .i64 0,.slice none 0 0,.slice none 0 0,.bool false] ?h2 (by as_aux_lemma=>kernel_rfl) (by as_aux_lemma=>kernel_rfl) (by as_aux_lemma=>kernel_rfl) ?_;exact HZ9.out)
     try simp only[Act.put]
     have hne:∀ b,b≠gz→(W4.setRow gz #[.int .i64 0,.slice wa1 wsa.length wa2,.slice wb1 wsb.length wb2,.bool true]).heap[b]?=W4.heap[b]?:=fun b h=>setRow_other _ _ _ _ h
     have HGZS:Hid (gz<W3.heap.size):=(Array.getElem?_eq_some_iff.1 (HZ0.out)).1
     have hq1:=(HO1.out.same (w':=(W4.setRow gz #[.int .i64 0,.slice wa1 wsa.length wa2,.slice wb1 wsb.length wb2,.bool true])) (fun b hb hl=>hne b (by have:=HGZS.out;omega))).rd HLN.out HSA.out
     have hq2:=(HO2.out.same (w':=(W4.setRow gz #[.int .i64 0,.slice wa1 wsa.length wa2,.slice wb1 wsb.length wb2,.bool true])) (fun b hb hl=>hne b (by have:=HGZS.out;omega))).rd HLN2.out HSB.out
     have hbw:Below W.heap.size W (W4.setRow gz #[.int .i64 0,.slice wa1 wsa.length wa2,.slice wb1 wsb.length wb2,.bool true]):=below_row HD4.out hgz _
     have hgz2:(W4.setRow gz #[.int .i64 0,.slice wa1 wsa.length wa2,.slice wb1 wsb.length wb2,.bool true]).heap[gz]?=some (.cells #[.int .i64 0,.slice wa1 wsa.length wa2,.slice wb1 wsb.length wb2,.bool true] 43 (0,0)):=setRow_heap _ _ _ _ _ _ HZ9.out
     have hks:∀ b∈[a2.heap.size,a2.heap.size+1],(W4.setRow gz #[.int .i64 0,.slice wa1 wsa.length wa2,.slice wb1 wsb.length wb2,.bool true]).heap[b]?=W.heap[b]?:=fun b hb=>(hne b (by have hlt:=HSL.out b hb;omega)).trans (HK4.out b hb)
     refine⟨by first|exact⟨_,keepS_of hks⟩|exact fun _=>⟨_,keepS_of hks⟩,?_⟩
     refine mix_fin (by simp only[opsOf,List.filterMap_cons,List.filterMap_nil,List.getElem?_toArray,List.getElem?_cons_succ,List.getElem?_cons_zero];rfl) ⟨_,keepS_of hks⟩ ?_
     change wpQuiet _ _ _ _ [_] _
     (repeat (go_big_quiet_step (fail)))
     refine wpQuiet_nil ?_
     go_wp2_with fail
     go_meet
     exact⟨gz,_,rfl,rfl,hgz,hgz2,⟨_,_,rfl,hq1.forget,hq2.forget⟩,hbw⟩
   ·refine mix_step rfl ?_
    go_wp2_with fail
    have hz:Below W1.heap.size W1 (W1.alloc (.cells #[.int .i64 0,.slice none 0 0,.slice none 0 0,.bool false] 43)):=(Below.refl _ _).alloc (Nat.le_refl _) _
    have BZ2:=hid hz
    have HZ0:=hid (heap_alloc_new W1 (.cells #[.int .i64 0,.slice none 0 0,.slice none 0 0,.bool false] 43))
    have hgz:W.heap.size≤W1.heap.size:=HD1.out.size
    clear hz
    obtain⟨gz,hgz0⟩:∃ gz,W1.heap.size=gz:=⟨_,rfl⟩
    rw[hgz0] at HZ0 hgz
    try rw[hgz0]
    have HGZ:=hid hgz0
    clear hgz0
    generalize W1.alloc (.cells #[.int .i64 0,.slice none 0 0,.slice none 0 0,.bool false] 43)=W2 at *
    have HD2:=hid (bcomp HD1.out BZ2.out)
    have HK2:Hid (∀ b∈[a2.heap.size,a2.heap.size+1],W2.heap[b]?=W.heap[b]?):=fun b hb=>(BZ2.out.block b (by have:=HSL.out b hb;have:=HD1.out.size;omega)).trans (HK1.out b hb)
    refine⟨by first|exact⟨_,keepS_of HK2.out⟩|exact fun _=>⟨_,keepS_of HK2.out⟩,?_⟩
    refine mix_now ?_
    refine mix_step rfl ?_
    go_wp2_with (go_at_call 26;refine (HB7.out _).mono ?_;rintro e W3 ⟨vb,rfl,hr,hz⟩;obtain⟨vb1,vb2,rfl⟩:=hr.is;have HRB:=hid hr;have BZ3:=hid hz;clear hr hz)
    have HD3:=hid (bcomp HD2.out BZ3.out)
    have HK3:Hid (∀ b∈[a2.heap.size,a2.heap.size+1],W3.heap[b]?=W.heap[b]?):=fun b hb=>(BZ3.out.block b (by have:=HSL.out b hb;have:=HD2.out.size;omega)).trans (HK2.out b hb)
    refine⟨by first|exact⟨_,keepS_of HK3.out⟩|exact fun _=>⟨_,keepS_of HK3.out⟩,?_⟩
    refine mix_now ?_
    refine mix_step rfl ?_
    have hmk:=make_good F q #[.int .i64 F.width,.int .i64 F.regs,.slice ca F.chans.length cc,.slice sa F.sites.length sc,.slice aa F.arrays.length ac,.slice ka F.code.length kc] #[.slice la q.levels.length lc,.slice oa q.order.length oc,.slice ba q.chans.length bc,.slice da q.sites.length dc,.bool q.sens,.int .i64 q.steps,.int .i64 q.paths,.int .i64 q.nodes,.int .i64 q.confs] 0 _ _ LA LB W3 (HFC.out.keep HD3.out) (HPC.out.keep HD3.out) (HLW.out.keep HD3.out) (HTW.out.keep HD3.out) ⟨by decide,by decide⟩ ((HRA.out.keep BZ2.out).keep BZ3.out) HRB.out HSA.out HSB.out HM0.out
    rw[HI0.out] at hmk
    have HMK:=hid hmk
    clear hmk
    go_wp2_with (go_at_call 19;refine HMK.out.mono ?_;rintro e W4 ⟨wa,wsa,wb,wsb,rfl,ho1,ho2,hz⟩;obtain⟨wa1,wa2,rfl,-⟩:=own_read ho1.own;obtain⟨wb1,wb2,rfl,-⟩:=own_read ho2.own;have HO1:=hid ho1;have HO2:=hid ho2;have BZ4:=hid hz;clear ho1 ho2 hz)
    clear HMK
    have HD4:=hid (bcomp HD3.out BZ4.out)
    have HK4:Hid (∀ b∈[a2.heap.size,a2.heap.size+1],W4.heap[b]?=W.heap[b]?):=fun b hb=>(BZ4.out.block b (by have:=HSL.out b hb;have:=HD3.out.size;omega)).trans (HK3.out b hb)
    refine⟨by first|exact⟨_,keepS_of HK4.out⟩|exact fun _=>⟨_,keepS_of HK4.out⟩,?_⟩
    refine mix_one (by simp only[opsOf,List.filterMap_cons,List.filterMap_nil,List.getElem?_toArray,List.getElem?_cons_succ,List.getElem?_cons_zero];rfl) ⟨_,keepS_of HK4.out⟩ ?_
    change wpQuiet _ _ _ _ [_,_,_] _
    (repeat (go_big_quiet_step (fail)))
    refine wpQuiet_nil ?_
    refine mix_step rfl ?_
    have HZ9:=hid (((BZ4.out.block _ (Array.getElem?_eq_some_iff.1 (((BZ3.out.block _ (Array.getElem?_eq_some_iff.1 (HZ0.out)).1).trans (HZ0.out)))).1).trans (((BZ3.out.block _ (Array.getElem?_eq_some_iff.1 (HZ0.out)).1).trans (HZ0.out)))))
    simp only[Act.put,List.setIfInBounds_toArray,List.set_cons_succ,List.set_cons_zero,List.getElem_toArray,List.getElem_cons_succ,List.getElem_cons_zero]
    go_wp2_with (refine wpList_store_row rfl 43 (.tmp 3) (.tmp 13) rfl gz #[.int .i64 0,.slice wa1 wsa.length wa2,.slice wb1 wsb.length wb2,.bool true] rfl rfl 43 #[.int .i64 0,.slice none 0 0,.slice none 0 0,.bool false] ?h3 (by as_aux_lemma=>kernel_rfl) (by as_aux_lemma=>kernel_rfl) (by as_aux_lemma=>kernel_rfl) ?_;exact HZ9.out)
    try simp only[Act.put]
    have hne:∀ b,b≠gz→(W4.setRow gz #[.int .i64 0,.slice wa1 wsa.length wa2,.slice wb1 wsb.length wb2,.bool true]).heap[b]?=W4.heap[b]?:=fun b h=>setRow_other _ _ _ _ h
    have HGZS:Hid (gz<W3.heap.size):=(Array.getElem?_eq_some_iff.1 (((BZ3.out.block _ (Array.getElem?_eq_some_iff.1 (HZ0.out)).1).trans (HZ0.out)))).1
    have hq1:=(HO1.out.same (w':=(W4.setRow gz #[.int .i64 0,.slice wa1 wsa.length wa2,.slice wb1 wsb.length wb2,.bool true])) (fun b hb hl=>hne b (by have:=HGZS.out;omega))).rd HLN.out HSA.out
    have hq2:=(HO2.out.same (w':=(W4.setRow gz #[.int .i64 0,.slice wa1 wsa.length wa2,.slice wb1 wsb.length wb2,.bool true])) (fun b hb hl=>hne b (by have:=HGZS.out;omega))).rd HLN2.out HSB.out
    have hbw:Below W.heap.size W (W4.setRow gz #[.int .i64 0,.slice wa1 wsa.length wa2,.slice wb1 wsb.length wb2,.bool true]):=below_row HD4.out hgz _
    have hgz2:(W4.setRow gz #[.int .i64 0,.slice wa1 wsa.length wa2,.slice wb1 wsb.length wb2,.bool true]).heap[gz]?=some (.cells #[.int .i64 0,.slice wa1 wsa.length wa2,.slice wb1 wsb.length wb2,.bool true] 43 (0,0)):=setRow_heap _ _ _ _ _ _ HZ9.out
    have hks:∀ b∈[a2.heap.size,a2.heap.size+1],(W4.setRow gz #[.int .i64 0,.slice wa1 wsa.length wa2,.slice wb1 wsb.length wb2,.bool true]).heap[b]?=W.heap[b]?:=fun b hb=>(hne b (by have hlt:=HSL.out b hb;omega)).trans (HK4.out b hb)
    refine⟨by first|exact⟨_,keepS_of hks⟩|exact fun _=>⟨_,keepS_of hks⟩,?_⟩
    refine mix_fin (by simp only[opsOf,List.filterMap_cons,List.filterMap_nil,List.getElem?_toArray,List.getElem?_cons_succ,List.getElem?_cons_zero];rfl) ⟨_,keepS_of hks⟩ ?_
    change wpQuiet _ _ _ _ [_] _
    (repeat (go_big_quiet_step (fail)))
    refine wpQuiet_nil ?_
    go_wp2_with fail
    go_meet
    exact⟨gz,_,rfl,rfl,hgz,hgz2,⟨_,_,rfl,hq1.forget,hq2.forget⟩,hbw⟩
  ·refine mix_step rfl ?_
   go_wp2_with fail
   have hz:Below W0.heap.size W0 (W0.alloc (.cells #[.int .i64 0,.slice none 0 0,.slice none 0 0,.bool false] 43)):=(Below.refl _ _).alloc (Nat.le_refl _) _
   have BZ1:=hid hz
   have HZ0:=hid (heap_alloc_new W0 (.cells #[.int .i64 0,.slice none 0 0,.slice none 0 0,.bool false] 43))
   have hgz:W.heap.size≤W0.heap.size:=HD0.out.size
   clear hz
   obtain⟨gz,hgz0⟩:∃ gz,W0.heap.size=gz:=⟨_,rfl⟩
   rw[hgz0] at HZ0 hgz
   try rw[hgz0]
   have HGZ:=hid hgz0
   clear hgz0
   generalize W0.alloc (.cells #[.int .i64 0,.slice none 0 0,.slice none 0 0,.bool false] 43)=W1 at *
   have HD1:=hid (bcomp HD0.out BZ1.out)
   have HK1:Hid (∀ b∈[a2.heap.size,a2.heap.size+1],W1.heap[b]?=W.heap[b]?):=fun b hb=>(BZ1.out.block b (by have:=HSL.out b hb;have:=HD0.out.size;omega)).trans (HK0.out b hb)
   refine⟨by first|exact⟨_,keepS_of HK1.out⟩|exact fun _=>⟨_,keepS_of HK1.out⟩,?_⟩
   refine mix_now ?_
   refine mix_step rfl ?_
   go_wp2_with (go_at_call 25;refine (HA7.out _).mono ?_;rintro e W2 ⟨va,rfl,hr,hz⟩;obtain⟨va1,va2,rfl⟩:=hr.is;have HRA:=hid hr;have BZ2:=hid hz;clear hr hz)
   have HD2:=hid (bcomp HD1.out BZ2.out)
   have HK2:Hid (∀ b∈[a2.heap.size,a2.heap.size+1],W2.heap[b]?=W.heap[b]?):=fun b hb=>(BZ2.out.block b (by have:=HSL.out b hb;have:=HD1.out.size;omega)).trans (HK1.out b hb)
   refine⟨by first|exact⟨_,keepS_of HK2.out⟩|exact fun _=>⟨_,keepS_of HK2.out⟩,?_⟩
   refine mix_now ?_
   refine mix_step rfl ?_
   go_wp2_with (go_at_call 26;refine (HB7.out _).mono ?_;rintro e W3 ⟨vb,rfl,hr,hz⟩;obtain⟨vb1,vb2,rfl⟩:=hr.is;have HRB:=hid hr;have BZ3:=hid hz;clear hr hz)
   have HD3:=hid (bcomp HD2.out BZ3.out)
   have HK3:Hid (∀ b∈[a2.heap.size,a2.heap.size+1],W3.heap[b]?=W.heap[b]?):=fun b hb=>(BZ3.out.block b (by have:=HSL.out b hb;have:=HD2.out.size;omega)).trans (HK2.out b hb)
   refine⟨by first|exact⟨_,keepS_of HK3.out⟩|exact fun _=>⟨_,keepS_of HK3.out⟩,?_⟩
   refine mix_now ?_
   refine mix_step rfl ?_
   have hmk:=make_good F q #[.int .i64 F.width,.int .i64 F.regs,.slice ca F.chans.length cc,.slice sa F.sites.length sc,.slice aa F.arrays.length ac,.slice ka F.code.length kc] #[.slice la q.levels.length lc,.slice oa q.order.length oc,.slice ba q.chans.length bc,.slice da q.sites.length dc,.bool q.sens,.int .i64 q.steps,.int .i64 q.paths,.int .i64 q.nodes,.int .i64 q.confs] 0 _ _ LA LB W3 (HFC.out.keep HD3.out) (HPC.out.keep HD3.out) (HLW.out.keep HD3.out) (HTW.out.keep HD3.out) ⟨by decide,by decide⟩ (HRA.out.keep BZ3.out) HRB.out HSA.out HSB.out HM0.out
   rw[HI0.out] at hmk
   have HMK:=hid hmk
   clear hmk
   go_wp2_with (go_at_call 19;refine HMK.out.mono ?_;rintro e W4 ⟨wa,wsa,wb,wsb,rfl,ho1,ho2,hz⟩;obtain⟨wa1,wa2,rfl,-⟩:=own_read ho1.own;obtain⟨wb1,wb2,rfl,-⟩:=own_read ho2.own;have HO1:=hid ho1;have HO2:=hid ho2;have BZ4:=hid hz;clear ho1 ho2 hz)
   clear HMK
   have HD4:=hid (bcomp HD3.out BZ4.out)
   have HK4:Hid (∀ b∈[a2.heap.size,a2.heap.size+1],W4.heap[b]?=W.heap[b]?):=fun b hb=>(BZ4.out.block b (by have:=HSL.out b hb;have:=HD3.out.size;omega)).trans (HK3.out b hb)
   refine⟨by first|exact⟨_,keepS_of HK4.out⟩|exact fun _=>⟨_,keepS_of HK4.out⟩,?_⟩
   refine mix_one (by simp only[opsOf,List.filterMap_cons,List.filterMap_nil,List.getElem?_toArray,List.getElem?_cons_succ,List.getElem?_cons_zero];rfl) ⟨_,keepS_of HK4.out⟩ ?_
   change wpQuiet _ _ _ _ [_,_,_] _
   (repeat (go_big_quiet_step (fail)))
   refine wpQuiet_nil ?_
   refine mix_step rfl ?_
   have HZ9:=hid (((BZ4.out.block _ (Array.getElem?_eq_some_iff.1 (((BZ3.out.block _ (Array.getElem?_eq_some_iff.1 (((BZ2.out.block _ (Array.getElem?_eq_some_iff.1 (HZ0.out)).1).trans (HZ0.out)))).1).trans (((BZ2.out.block _ (Array.getElem?_eq_some_iff.1 (HZ0.out)).1).trans (HZ0.out)))))).1).trans (((BZ3.out.block _ (Array.getElem?_eq_some_iff.1 (((BZ2.out.block _ (Array.getElem?_eq_some_iff.1 (HZ0.out)).1).trans (HZ0.out)))).1).trans (((BZ2.out.block _ (Array.getElem?_eq_some_iff.1 (HZ0.out)).1).trans (HZ0.out)))))))
   simp only[Act.put,List.setIfInBounds_toArray,List.set_cons_succ,List.set_cons_zero,List.getElem_toArray,List.getElem_cons_succ,List.getElem_cons_zero]
   go_wp2_with (refine wpList_store_row rfl 43 (.tmp 3) (.tmp 13) rfl gz #[.int .i64 0,.slice wa1 wsa.length wa2,.slice wb1 wsb.length wb2,.bool true] rfl rfl 43 #[.int .i64 0,.slice none 0 0,.slice none 0 0,.bool false] ?h4 (by as_aux_lemma=>kernel_rfl) (by as_aux_lemma=>kernel_rfl) (by as_aux_lemma=>kernel_rfl) ?_;exact HZ9.out)
   try simp only[Act.put]
   have hne:∀ b,b≠gz→(W4.setRow gz #[.int .i64 0,.slice wa1 wsa.length wa2,.slice wb1 wsb.length wb2,.bool true]).heap[b]?=W4.heap[b]?:=fun b h=>setRow_other _ _ _ _ h
   have HGZS:Hid (gz<W3.heap.size):=(Array.getElem?_eq_some_iff.1 (((BZ3.out.block _ (Array.getElem?_eq_some_iff.1 (((BZ2.out.block _ (Array.getElem?_eq_some_iff.1 (HZ0.out)).1).trans (HZ0.out)))).1).trans (((BZ2.out.block _ (Array.getElem?_eq_some_iff.1 (HZ0.out)).1).trans (HZ0.out)))))).1
   have hq1:=(HO1.out.same (w':=(W4.setRow gz #[.int .i64 0,.slice wa1 wsa.length wa2,.slice wb1 wsb.length wb2,.bool true])) (fun b hb hl=>hne b (by have:=HGZS.out;omega))).rd HLN.out HSA.out
   have hq2:=(HO2.out.same (w':=(W4.setRow gz #[.int .i64 0,.slice wa1 wsa.length wa2,.slice wb1 wsb.length wb2,.bool true])) (fun b hb hl=>hne b (by have:=HGZS.out;omega))).rd HLN2.out HSB.out
   have hbw:Below W.heap.size W (W4.setRow gz #[.int .i64 0,.slice wa1 wsa.length wa2,.slice wb1 wsb.length wb2,.bool true]):=below_row HD4.out hgz _
   have hgz2:(W4.setRow gz #[.int .i64 0,.slice wa1 wsa.length wa2,.slice wb1 wsb.length wb2,.bool true]).heap[gz]?=some (.cells #[.int .i64 0,.slice wa1 wsa.length wa2,.slice wb1 wsb.length wb2,.bool true] 43 (0,0)):=setRow_heap _ _ _ _ _ _ HZ9.out
   have hks:∀ b∈[a2.heap.size,a2.heap.size+1],(W4.setRow gz #[.int .i64 0,.slice wa1 wsa.length wa2,.slice wb1 wsb.length wb2,.bool true]).heap[b]?=W.heap[b]?:=fun b hb=>(hne b (by have hlt:=HSL.out b hb;omega)).trans (HK4.out b hb)
   refine⟨by first|exact⟨_,keepS_of hks⟩|exact fun _=>⟨_,keepS_of hks⟩,?_⟩
   refine mix_fin (by simp only[opsOf,List.filterMap_cons,List.filterMap_nil,List.getElem?_toArray,List.getElem?_cons_succ,List.getElem?_cons_zero];rfl) ⟨_,keepS_of hks⟩ ?_
   change wpQuiet _ _ _ _ [_] _
   (repeat (go_big_quiet_step (fail)))
   refine wpQuiet_nil ?_
   go_wp2_with fail
   go_meet
   exact⟨gz,_,rfl,rfl,hgz,hgz2,⟨_,_,rfl,hq1.forget,hq2.forget⟩,hbw⟩
 case rest=>
  obtain⟨gz,c,rfl,rfl,hgz,hgc,⟨v1,v2,rfl,hr1,hr2⟩,hbv⟩:=hcut
  obtain⟨V,rfl⟩:∃ x:World,x=wc:=⟨_,rfl⟩
  obtain⟨xa,xc,rfl⟩:=hr1.is
  obtain⟨ya,yc,rfl⟩:=hr2.is
  have HGZ:=hid hgc
  have HWC:Hid (WitC V 0 LA LB true #[.int .i64 0,.slice xa LA.length xc,.slice ya LB.length yc,.bool true]):=⟨_,_,rfl,hr1,hr2⟩
  have HWI:Hid ((Tryz.prog.info? 43).map (·.size)=some (#[.int .i64 0,.slice xa LA.length xc,.slice ya LB.length yc,.bool true]:Array Value).size):=by show _=_;kernel_rfl
  have HBV:=hid hbv
  have HGF':=hid ((hbv.block _ (by omega)).trans HGF.out)
  have HGP':=hid ((hbv.block _ (by omega)).trans HGP.out)
  have HFV:=hid (HFC.out.keep hbv)
  have HPV:=hid (HPC.out.keep hbv)
  have HLV:=hid (HLW.out.keep hbv)
  have HTV:=hid (HTW.out.keep hbv)
  have hgl:gz<V.heap.size:=(gsWtR hgc)
  have HSV:Hid (∀ b∈[a2.heap.size,a2.heap.size+1,gz],b<V.heap.size):=by
   intro b hb
   simp only[List.mem_cons,List.not_mem_nil,or_false] at hb
   have:=hbv.size
   rcases hb with rfl|rfl|rfl <;> omega
  clear hgc hr1 hr2 hbv HGF HGP
  have HGF:=HGF'
  have HGP:=HGP'
  clear HGF' HGP'
  go_upto_region 3 with fail
  have HDR:Hid (∀ b:Nat,V.drew.heap[b]?=V.heap[b]?):=fun _=>rfl
  have HD00:Hid (Below V.heap.size V V.drew):=(Below.refl _ _).drew
  refine wp_region_mixS [a2.heap.size,a2.heap.size+1,gz] (.one [0] 1 (.one [] 2 (.one [3] 4 (.one [5,6,7,8,9,10,11,12] 13 (.fin [14,15,16]))))) (fun _=>false) (by kernel_rfl) (by kernel_rfl) rfl (by kernel_rfl) (fun _ d _ _ _ h=>by cases d <;> exact h) ?_
  generalize V.drew=V0 at *
  have HD0:Hid (Below V.heap.size V V0):=HD00.out
  have HK0:Hid (∀ b∈[a2.heap.size,a2.heap.size+1,gz],V0.heap[b]?=V.heap[b]?):=fun b _=>HDR.out b
  refine mix_one (by simp only[opsOf,List.filterMap_cons,List.filterMap_nil,List.getElem?_toArray,List.getElem?_cons_succ,List.getElem?_cons_zero];rfl) ⟨_,keepS_of HK0.out⟩ ?_
  change wpQuiet _ _ _ _ [_] _
  go_big_quiet_want;refine quiet_load_row 43 (.tmp 3) rfl gz rfl 43 #[.int .i64 0,.slice xa LA.length xc,.slice ya LB.length yc,.bool true] (0,0) _ (keepS_row (by simp) HGZ.out) Tryz.underlying43 rfl HWI.out ?_;simp only[Act.put,List.setIfInBounds_toArray,List.set_cons_succ,List.set_cons_zero,List.getElem_toArray,List.getElem_cons_succ,List.getElem_cons_zero];go_big_quiet_on
  refine wpQuiet_nil ?_
  refine mix_step rfl ?_
  go_wp2_with (go_at_call 25;refine (HA7.out _).mono ?_;rintro e V1 ⟨va,rfl,hr,hz⟩;obtain⟨va1,va2,rfl⟩:=hr.is;have HRA:=hid hr;clear hr;have BZ1:=hid hz;clear hz)
  have HD1:=hid (bcomp HD0.out BZ1.out)
  have HK1:Hid (∀ b∈[a2.heap.size,a2.heap.size+1,gz],V1.heap[b]?=V.heap[b]?):=fun b hb=>(BZ1.out.block b (by have:=HSV.out b hb;have:=HD0.out.size;omega)).trans (HK0.out b hb)
  refine⟨by first|exact⟨_,keepS_of HK1.out⟩|exact fun _=>⟨_,keepS_of HK1.out⟩,?_⟩
  refine mix_now ?_
  refine mix_step rfl ?_
  go_wp2_with (go_at_call 26;refine (HB7.out _).mono ?_;rintro e V2 ⟨vb,rfl,hr,hz⟩;obtain⟨vb1,vb2,rfl⟩:=hr.is;have HRB:=hid hr;clear hr;have BZ2:=hid hz;clear hz)
  have HD2:=hid (bcomp HD1.out BZ2.out)
  have HK2:Hid (∀ b∈[a2.heap.size,a2.heap.size+1,gz],V2.heap[b]?=V.heap[b]?):=fun b hb=>(BZ2.out.block b (by have:=HSV.out b hb;have:=HD1.out.size;omega)).trans (HK1.out b hb)
  refine⟨by first|exact⟨_,keepS_of HK2.out⟩|exact fun _=>⟨_,keepS_of HK2.out⟩,?_⟩
  have HEQ:=hid (witSelf 0 LA LB true #[.int .i64 0,.slice xa LA.length xc,.slice ya LB.length yc,.bool true] #[.int .i64 0,.slice va1 LA.length va2,.slice vb1 LB.length vb2,.bool true] V2 (HWC.out.keep HD2.out) ⟨_,_,rfl,HRA.out.keep BZ2.out,HRB.out⟩)
  refine mix_one (by simp only[opsOf,List.filterMap_cons,List.filterMap_nil,List.getElem?_toArray,List.getElem?_cons_succ,List.getElem?_cons_zero];rfl) ⟨_,keepS_of HK2.out⟩ ?_
  change wpQuiet _ _ _ _ [_] _
  (repeat (go_big_quiet_step (fail)))
  refine wpQuiet_nil ?_
  refine mix_step rfl ?_
  go_wp2_with (go_at_call 18;refine HEQ.out.mono ?_;rintro e V3 ⟨rfl,hz⟩;have BZ3:=hid hz;clear hz)
  have HD3:=hid (bcomp HD2.out BZ3.out)
  have HK3:Hid (∀ b∈[a2.heap.size,a2.heap.size+1,gz],V3.heap[b]?=V.heap[b]?):=fun b hb=>(BZ3.out.block b (by have:=HSV.out b hb;have:=HD2.out.size;omega)).trans (HK2.out b hb)
  refine⟨by first|exact⟨_,keepS_of HK3.out⟩|exact fun _=>⟨_,keepS_of HK3.out⟩,?_⟩
  have HCK:=hid (check_any F q #[.int .i64 F.width,.int .i64 F.regs,.slice ca F.chans.length cc,.slice sa F.sites.length sc,.slice aa F.arrays.length ac,.slice ka F.code.length kc] #[.slice la q.levels.length lc,.slice oa q.order.length oc,.slice ba q.chans.length bc,.slice da q.sites.length dc,.bool q.sens,.int .i64 q.steps,.int .i64 q.paths,.int .i64 q.nodes,.int .i64 q.confs] #[.int .i64 0,.slice xa LA.length xc,.slice ya LB.length yc,.bool true] 0 LA LB true V3 (HFV.out.keep HD3.out) (HPV.out.keep HD3.out) (HWC.out.keep HD3.out) (HLV.out.keep HD3.out) (HTV.out.keep HD3.out) ⟨by decide,by decide⟩ HSA.out HSB.out)
  rw[HC0.out] at HCK
  refine mix_one (by simp only[opsOf,List.filterMap_cons,List.filterMap_nil,List.getElem?_toArray,List.getElem?_cons_succ,List.getElem?_cons_zero];rfl) ⟨_,keepS_of HK3.out⟩ ?_
  change wpQuiet _ _ _ _ [_,_,_,_,_,_,_,_] _
  go_big_quiet_step (fail)
  go_big_quiet_step (fail)
  go_big_quiet_step (fail)
  go_big_quiet_step (fail)
  go_big_quiet_step (fail)
  go_big_quiet_want;refine quiet_load_row 26 (.tmp 1) rfl a2.heap.size rfl 26 #[.int .i64 F.width,.int .i64 F.regs,.slice ca F.chans.length cc,.slice sa F.sites.length sc,.slice aa F.arrays.length ac,.slice ka F.code.length kc] (0,0) _ (keepS_row (by simp) HGF.out) Tryz.underlying26 rfl HFI.out ?_;simp only[Act.put,List.setIfInBounds_toArray,List.set_cons_succ,List.set_cons_zero,List.getElem_toArray,List.getElem_cons_succ,List.getElem_cons_zero];go_big_quiet_on
  go_big_quiet_want;refine quiet_load_row 30 (.tmp 2) rfl (a2.heap.size+1) rfl 30 #[.slice la q.levels.length lc,.slice oa q.order.length oc,.slice ba q.chans.length bc,.slice da q.sites.length dc,.bool q.sens,.int .i64 q.steps,.int .i64 q.paths,.int .i64 q.nodes,.int .i64 q.confs] (0,0) _ (keepS_row (by simp) HGP.out) Tryz.underlying30 rfl HPI.out ?_;simp only[Act.put,List.setIfInBounds_toArray,List.set_cons_succ,List.set_cons_zero,List.getElem_toArray,List.getElem_cons_succ,List.getElem_cons_zero];go_big_quiet_on
  go_big_quiet_want;refine quiet_load_row 43 (.tmp 3) rfl gz rfl 43 #[.int .i64 0,.slice xa LA.length xc,.slice ya LB.length yc,.bool true] (0,0) _ (keepS_row (by simp) HGZ.out) Tryz.underlying43 rfl HWI.out ?_;simp only[Act.put,List.setIfInBounds_toArray,List.set_cons_succ,List.set_cons_zero,List.getElem_toArray,List.getElem_cons_succ,List.getElem_cons_zero];go_big_quiet_on
  refine wpQuiet_nil ?_
  refine mix_step rfl ?_
  go_wp2_with (go_at_call 16;refine HCK.out.mono ?_;rintro e V4 ⟨rfl,hz⟩;have BZ4:=hid hz;clear hz)
  have HD4:=hid (bcomp HD3.out BZ4.out)
  have HK4:Hid (∀ b∈[a2.heap.size,a2.heap.size+1,gz],V4.heap[b]?=V.heap[b]?):=fun b hb=>(BZ4.out.block b (by have:=HSV.out b hb;have:=HD3.out.size;omega)).trans (HK3.out b hb)
  refine⟨by first|exact⟨_,keepS_of HK4.out⟩|exact fun _=>⟨_,keepS_of HK4.out⟩,?_⟩
  refine mix_fin (by simp only[opsOf,List.filterMap_cons,List.filterMap_nil,List.getElem?_toArray,List.getElem?_cons_succ,List.getElem?_cons_zero];rfl) ⟨_,keepS_of HK4.out⟩ ?_
  change wpQuiet _ _ _ _ [_,_,_] _
  (repeat (go_big_quiet_step (fail)))
  refine wpQuiet_nil ?_
  go_wp2_with fail
  go_ret
  exact⟨rfl,bcomp HB0.out (bcomp HBV.out HD4.out)⟩
theorem makeE_err {f:FlatD} {q:PolD} {lv:Int} {A B:List (List Int)} (h:leaksErr f q lv A B≠0):makeE f q lv A B=leaksErr f q lv A B:=by
 unfold makeE;rw[if_pos h]
theorem makeE_not {f:FlatD} {q:PolD} {lv:Int} {A B:List (List Int)} (h:leaksErr f q lv A B=0) (g:leaksB f q lv A B=false):makeE f q lv A B=4:=by
 unfold makeE;rw[if_neg (fun k=>k h),if_pos g]
theorem makeE_good {f:FlatD} {q:PolD} {lv:Int} {A B:List (List Int)} (h:leaksErr f q lv A B=0) (g:leaksB f q lv A B=true):makeE f q lv A B=0:=by
 unfold makeE;rw[if_neg (fun k=>k h),if_neg (by rw[g];decide)]
theorem RdLists.setRow {n m:Nat} {w:World} {v:Value} {l:List (List Int)} (h:RdLists (some (upFrom n)) w v l) {x:Nat} (hx:x<n) (hm:m≤n) (cs:Array Value):RdLists (some (upFrom m)) (w.setRow x cs) v l:=
 h.same (fun b hb _=>setRow_other w x b cs (by have:n≤b:=hb;omega)) (fun b _ hb=>Nat.le_trans hm hb)
theorem copyWit (l:Int) (A B:List (List Int)) (i:Bool) (c:Array Value) (w:World) (h:WitC w l A B i c) :
  Calls Tryz.prog 15 #[.agg c] w fun e w'=>∃ va vb,e=.returned (.agg #[.int .i64 l,va,vb,.bool i])∧RdLists none w' va A∧RdLists none w' vb B∧Below w.heap.size w w':=by
 obtain⟨va,vb,rfl,h1,h2⟩:=h
 obtain⟨aa,ac,rfl⟩:=h1.is
 obtain⟨ba,bc,rfl⟩:=h2.is
 have hal:=((Below.refl w.heap.size w).alloc (Nat.le_refl _) (.cells #[.int .i64 l,.slice aa A.length ac,.slice ba B.length bc,.bool i] 43)).alloc (by simp) (.cells #[.int .i64 0,.slice none 0 0,.slice none 0 0,.bool false] 43)
 have hbb:=heap2_of (w:=w) (A:=.cells #[.int .i64 l,.slice aa A.length ac,.slice ba B.length bc,.bool i] 43 (0,0)) (B:=.cells #[.int .i64 0,.slice none 0 0,.slice none 0 0,.bool false] 43 (0,0)) (Below.refl _ _)
 have HA:=hid h1
 have HBB:=hid h2
 have HG1:=hid hbb.1
 have HG0:=hid hbb.2.1
 have HW:=hid hal
 clear h1 h2 hal hbb
 go_enter Tryz.func15,Tryz.ntmps15
 go_upto_region 1 with fail
 generalize ((w.alloc (.cells #[.int .i64 l,.slice aa A.length ac,.slice ba B.length bc,.bool i] 43)).alloc (.cells #[.int .i64 0,.slice none 0 0,.slice none 0 0,.bool false] 43))=W at *
 refine wp_region_mix (.one [0,1,3,4] 2 (.one [6] 5 (tailOf [7,8,9]))) (fun j=>decide (7≤j)) (by kernel_rfl) (by kernel_rfl) rfl (by kernel_rfl) (fun _ d _ _ _ h=>by cases d <;> exact h) ?_
 have HBd:Hid (Below W.heap.size W W.drew):=(Below.refl _ _).drew
 have b1:Below w.heap.size w W.drew:=HW.out.drew
 generalize W.drew=wn at *
 have l1:=ext_cell (row_of HG1.out 1 (.slice aa A.length ac) rfl)
 have l2:=ext_cell (row_of HG1.out 2 (.slice ba B.length bc) rfl)
 refine mix_one (by simp only[opsOf,List.filterMap_cons,List.filterMap_nil,List.getElem?_toArray,List.getElem?_cons_succ,List.getElem?_cons_zero];rfl) ⟨_,ext_of HBd.out⟩ ?_
 change wpQuiet _ _ _ _ [_,_,_,_] _
 (repeat (go_big_quiet_step (fail)))
 refine wpQuiet_nil ?_
 clear l1 l2
 have R1:=HA.out.keep b1
 refine mix_step rfl ?_
 go_wp2_with (go_at_call 36;refine (copyLists _ _ _ R1).mono ?_;rintro e w4 ⟨v,rfl,r4,b4⟩)
 obtain⟨xa,xc,rfl⟩:=r4.is
 have B4:=bcomp HBd.out b4
 have k4:=bcomp b1 b4
 have R4:=HBB.out.keep k4
 refine⟨fun _=>⟨_,ext_of B4⟩,?_⟩
 refine mix_one (by simp only[opsOf,List.filterMap_cons,List.filterMap_nil,List.getElem?_toArray,List.getElem?_cons_succ,List.getElem?_cons_zero];rfl) ⟨_,ext_of B4⟩ ?_
 change wpQuiet _ _ _ _ [_] _
 (repeat (go_big_quiet_step (fail)))
 refine wpQuiet_nil ?_
 refine mix_step rfl ?_
 go_wp2_with (go_at_call 36;refine (copyLists _ _ _ R4).mono ?_;rintro e w5 ⟨v,rfl,r5,b5⟩)
 obtain⟨ya,yc,rfl⟩:=r5.is
 have B5:=bcomp B4 b5
 have k5:=bcomp k4 b5
 refine⟨fun _=>⟨_,ext_of B5⟩,?_⟩
 refine mix_tail [7,8,9] [_,_,_] _ _ rfl rfl ?_
 have hszW:w.heap.size+1<W.heap.size:=(gsWtR HG0.out)
 have hszn:w.heap.size+1<wn.heap.size:=by have:=HBd.out.size;omega
 have hsz5:w.heap.size+1<w5.heap.size:=by have:=B5.size;omega
 have G5:=(B5.block _ (by omega:w.heap.size<W.heap.size)).trans HG1.out
 have Z5:=(B5.block _ hszW).trans HG0.out
 have HR5:Hid (RdLists (some (upFrom (w.heap.size+2))) w5 (.slice xa A.length xc) A):=(r4.keep b5).up (by omega)
 have HS5:Hid (RdLists (some (upFrom (w.heap.size+2))) w5 (.slice ya B.length yc) B):=r5.up (by have:=b4.size;omega)
 have HB5:=hid k5
 have x1:=row_of G5 1 (.slice aa A.length ac) rfl
 have f1:=frozen_of_row w5 w.heap.size 1 _ _ G5
 have x2:=row_of G5 2 (.slice ba B.length bc) rfl
 have f2:=frozen_of_row w5 w.heap.size 2 _ _ G5
 have HG6:Hid (((w5.setCell ⟨w.heap.size,1,none⟩ (.slice xa A.length xc)).setCell ⟨w.heap.size,2,none⟩ (.slice ya B.length yc)).heap[w.heap.size]?=some (.cells #[.int .i64 l,.slice xa A.length xc,.slice ya B.length yc,.bool i] 43 (0,0))):=by
  show _=_
  rw[heap_setCell_same _ _ _ _ _ _ (heap_setCell_same _ _ _ _ _ _ G5)]
  rfl
 have hoth:∀ b,b≠w.heap.size→((w5.setCell ⟨w.heap.size,1,none⟩ (.slice xa A.length xc)).setCell ⟨w.heap.size,2,none⟩ (.slice ya B.length yc)).heap[b]?=w5.heap[b]?:=fun b hb=>by
  rw[heap_setCell_other _ _ _ _ (by simpa using hb),heap_setCell_other _ _ _ _ (by simpa using hb)]
 have HZ6:=hid ((hoth (w.heap.size+1) (by omega)).trans Z5)
 have HR6:Hid (RdLists (some (upFrom (w.heap.size+2))) ((w5.setCell ⟨w.heap.size,1,none⟩ (.slice xa A.length xc)).setCell ⟨w.heap.size,2,none⟩ (.slice ya B.length yc)) (.slice xa A.length xc) A):=HR5.out.same (fun b hb _=>hoth b (by have:w.heap.size+2≤b:=hb;omega)) (fun _ _ k=>k)
 have HS6:Hid (RdLists (some (upFrom (w.heap.size+2))) ((w5.setCell ⟨w.heap.size,1,none⟩ (.slice xa A.length xc)).setCell ⟨w.heap.size,2,none⟩ (.slice ya B.length yc)) (.slice ya B.length yc) B):=HS5.out.same (fun b hb _=>hoth b (by have:w.heap.size+2≤b:=hb;omega)) (fun _ _ k=>k)
 have HB6:Hid (Below w.heap.size w ((w5.setCell ⟨w.heap.size,1,none⟩ (.slice xa A.length xc)).setCell ⟨w.heap.size,2,none⟩ (.slice ya B.length yc))):=(HB5.out.setCell (by simp) _).setCell (by simp) _
 clear r4 r5 b1 b4 b5 B4 B5 k4 k5 R1 R4 G5 Z5 hoth HR5 HS5
 go_upto_region 2 with fail
 clear x1 x2 f1 f2
 generalize ((w5.setCell ⟨w.heap.size,1,none⟩ (.slice xa A.length xc)).setCell ⟨w.heap.size,2,none⟩ (.slice ya B.length yc))=W6 at *
 have y0:=row_of HG6.out 0 (.int .i64 l) rfl
 have y1:=row_of HG6.out 1 (.slice xa A.length xc) rfl
 have y2:=row_of HG6.out 2 (.slice ya B.length yc) rfl
 have y3:=row_of HG6.out 3 (.bool i) rfl
 go_wp2_with (refine wpList_store_row rfl 43 (.tmp 2) (.tmp 11) rfl (w.heap.size+1) #[.int .i64 l,.slice xa A.length xc,.slice ya B.length yc,.bool i] rfl rfl 43 #[.int .i64 0,.slice none 0 0,.slice none 0 0,.bool false] ?hs (by as_aux_lemma=>kernel_rfl) (by as_aux_lemma=>kernel_rfl) (by as_aux_lemma=>kernel_rfl) ?_;exact HZ6.out)
 have h61:=(HR6.out.setRow (x:=w.heap.size+1) (m:=0) (by omega) (by omega) #[.int .i64 l,.slice xa A.length xc,.slice ya B.length yc,.bool i]).forget
 have h62:=(HS6.out.setRow (x:=w.heap.size+1) (m:=0) (by omega) (by omega) #[.int .i64 l,.slice xa A.length xc,.slice ya B.length yc,.bool i]).forget
 refine bodyPost_ret (v:=.agg #[.int .i64 l,.slice xa A.length xc,.slice ya B.length yc,.bool i]) ?_ rfl ⟨_,_,rfl,h61,h62,below_row HB6.out (by omega) _⟩
 exact results_cell_row (P:=Tryz.prog) (fn:=Tryz.f15) rfl _ _ (w.heap.size+1) 43 #[.int .i64 l,.slice xa A.length xc,.slice ya B.length yc,.bool i] (0,0) _ rfl (setRow_heap _ _ _ _ _ _ HZ6.out) Tryz.underlying43 rfl (by as_aux_lemma=>kernel_rfl)
end Go.Proofs.YtkjkpddajjmloaaGreatDoor
