/- The card of WitnessMakes: whatever the input, the law returns true, and each argument reads as it did. Condition: the row's own (the two tables are as the program's text lays them). -/
import Derived.Test.YtkjkpddajjmloaaGreatDoorWMk
import Derived.Test.YtkjkpddajjmloaaGreatDoorAWt
set_option linter.all false
set_option maxRecDepth 1000000
set_option maxHeartbeats 6400000
namespace Go.Proofs.YtkjkpddajjmloaaGreatDoor
open Go.ChangeShapes Go.WideShapes Go.ChangeAt Go.RowKit
theorem wmakes_reads (os:Os) {H:Type} (enc:TypeId × Value→H):(DataW.whole enc Tryz.prog ((laidWorld os).forCall (fun _ _=>0) ⟨#[],#[.agg #[.int .i64 0,.int .i64 0,.slice none 0 0,.slice none 0 0,.slice none 0 0,.slice none 0 0],.agg #[.slice none 0 0,.slice none 0 0,.slice none 0 0,.slice none 0 0,.bool false,.int .i64 0,.int .i64 0,.int .i64 0,.int .i64 0],.int .i64 0,.slice none 0 0,.slice none 0 0,.agg #[.int .u8 0,.int .i64 0,.slice none 0 0,.slice none 0 0,.slice none 0 0,.slice none 0 0],.agg #[.int .u8 0,.int .i64 0,.slice none 0 0,.slice none 0 0,.slice none 0 0,.slice none 0 0]],[]⟩).memory Tryz.f5.params.toList Rows.witnessMakesSpec.vars false (#[.agg #[.int .i64 0,.int .i64 0,.slice none 0 0,.slice none 0 0,.slice none 0 0,.slice none 0 0],.agg #[.slice none 0 0,.slice none 0 0,.slice none 0 0,.slice none 0 0,.bool false,.int .i64 0,.int .i64 0,.int .i64 0,.int .i64 0],.int .i64 0,.slice none 0 0,.slice none 0 0,.agg #[.int .u8 0,.int .i64 0,.slice none 0 0,.slice none 0 0,.slice none 0 0,.slice none 0 0],.agg #[.int .u8 0,.int .i64 0,.slice none 0 0,.slice none 0 0,.slice none 0 0,.slice none 0 0]]:Array Value).toList 8).map (fun x=>(x.1,x.2.1)) =
  some ([.agg [.lit (.int .i64 0),.lit (.int .i64 0),.nil,.nil,.nil,.nil],.agg [.nil,.nil,.nil,.nil,.lit (.bool false),.lit (.int .i64 0),.lit (.int .i64 0),.lit (.int .i64 0),.lit (.int .i64 0)],.lit (.int .i64 0),.nil,.nil,.agg [.lit (.int .u8 0),.lit (.int .i64 0),.nil,.nil,.nil,.nil],.agg [.lit (.int .u8 0),.lit (.int .i64 0),.nil,.nil,.nil,.nil]],[]):=by kernel_rfl
theorem wmakes_contract (H:Type) (enc:TypeId × Value→H) (W:World) (base:Nat) (args:Array Value) (ds gs:List (DataW H)) (before:List MemPlace)
  (hval:∀ (j:Nat) t v,Tryz.f5.params[j]?=some t→args[j]?=some v→Value.okWide Tryz.prog W .any base t v)
  (hW:DataW.Whole enc Tryz.prog Tryz.f5.params.toList Rows.witnessMakesSpec.vars false W args.toList ds gs before)
  (hsz:((DataW.weightsEach Tryz.prog (Tryz.f5.params.toList++DataSpec.varTypes Tryz.prog (OpenSpec.ofChange Rows.witnessMakesSpec).bare.plain) (ds++gs)).all fun x=>decide (x≤reachBytes))=true) (hL:laidMetH Tryz.prog Rows.witnessMakesRow.laid W) :
  Calls Tryz.prog 5 args W fun e W'=>∃ v,e=.returned v∧Rows.witnessMakesSpec.post enc Tryz.prog Tryz.f5 false true false false W args v W':=by
 have hW':=hW
 have hlt:=DataW.Whole.lt hW
 obtain⟨p,q,hA0,hV,rfl,hfz,hnd⟩:=hW
 have hA:DataW.TrodAll enc Tryz.prog W 0 (fun _=>true) true Tryz.f5.params.toList args.toList ds p:=hA0
 rw[Tryz.params5] at hA hval hsz
 obtain⟨v0,vs0,d0,ds0,p0,q0,hargs,rfl,rfl,h0,r0⟩:=trodAll_cons hA
 obtain⟨v1,vs1,d1,ds1,p1,q1,rfl,rfl,rfl,h1,r1⟩:=trodAll_cons r0
 obtain⟨v2,vs2,d2,ds2,p2,q2,rfl,rfl,rfl,h2,r2⟩:=trodAll_cons r1
 obtain⟨v3,vs3,d3,ds3,p3,q3,rfl,rfl,rfl,h3,r3⟩:=trodAll_cons r2
 obtain⟨v4,vs4,d4,ds4,p4,q4,rfl,rfl,rfl,h4,r4⟩:=trodAll_cons r3
 obtain⟨v5,vs5,d5,ds5,p5,q5,rfl,rfl,rfl,h5,r5⟩:=trodAll_cons r4
 obtain⟨v6,vs6,d6,ds6,p6,q6,rfl,rfl,rfl,h6,r6⟩:=trodAll_cons r5
 obtain⟨rfl,rfl,rfl⟩:=trodAll_nil r6
 obtain rfl:args=#[v0,v1,v2,v3,v4,v5,v6]:=by cases args;simp_all
 obtain⟨rfl,rfl⟩:=trodVars_none hV
 have hall:=List.all_eq_true.1 hsz
 obtain⟨fuel0,hf0⟩:=id h0
 have hfit0:Fits Tryz.prog 26 d0:=fun n hn=>of_decide_eq_true (hall n (by simp only[DataW.weightsEach,List.cons_append,List.nil_append,List.mem_append];simp[hn]))
 obtain⟨cs0,rfl,hcs0⟩:=okWide_struct Tryz.underlying26 (hval 0 26 v0 rfl rfl)
 obtain⟨pr0,cv0,sv0,av0,kv0,rfl,hr0⟩:=rdFlat_of hf0 hfit0 (hcs0.trans (by kernel_rfl))
 have hc0:FlatC W pr0 _:=⟨cv0,sv0,av0,kv0,rfl,hr0⟩
 obtain⟨fuel1,hf1⟩:=id h1
 have hfit1:Fits Tryz.prog 30 d1:=fun n hn=>of_decide_eq_true (hall n (by simp only[DataW.weightsEach,List.cons_append,List.nil_append,List.mem_append];simp[hn]))
 obtain⟨cs1,rfl,hcs1⟩:=okWide_struct Tryz.underlying30 (hval 1 30 v1 rfl rfl)
 obtain⟨pr1,hc1⟩:=polC_of hf1 hfit1 (hcs1.trans (by kernel_rfl))
 obtain⟨a2,rfl,rfl,rfl,w2⟩:=open_int Tryz.underlying3 (hval 2 3 v2 rfl rfl) h2
 have b2:=w2
 simp[Lit.wf,IntKind.min,IntKind.max,IntKind.bits,IntKind.signed] at b2
 obtain⟨fuel3,hf3⟩:=id h3
 have hfit3:Fits Tryz.prog 35 d3:=fun n hn=>of_decide_eq_true (hall n (by simp only[DataW.weightsEach,List.cons_append,List.nil_append,List.mem_append];simp[hn]))
 obtain⟨sa3,sn3,sc3,rfl⟩:=okWide_slice Tryz.underlying35 (hval 3 35 v3 rfl rfl)
 obtain⟨L3,hr3⟩:=rdLists_of (v:=.slice sa3 sn3 sc3) hf3 hfit3
 obtain⟨fuel4,hf4⟩:=id h4
 have hfit4:Fits Tryz.prog 35 d4:=fun n hn=>of_decide_eq_true (hall n (by simp only[DataW.weightsEach,List.cons_append,List.nil_append,List.mem_append];simp[hn]))
 obtain⟨sa4,sn4,sc4,rfl⟩:=okWide_slice Tryz.underlying35 (hval 4 35 v4 rfl rfl)
 obtain⟨L4,hr4⟩:=rdLists_of (v:=.slice sa4 sn4 sc4) hf4 hfit4
 obtain⟨fuel5,hf5⟩:=id h5
 have hfit5:Fits Tryz.prog 52 d5:=fun n hn=>of_decide_eq_true (hall n (by simp only[DataW.weightsEach,List.cons_append,List.nil_append,List.mem_append];simp[hn]))
 obtain⟨cs5,rfl,hcs5⟩:=okWide_struct Tryz.underlying52 (hval 5 52 v5 rfl rfl)
 obtain⟨pr5,hc5⟩:=trcC_of hf5 hfit5 (hcs5.trans (by kernel_rfl))
 obtain⟨fuel6,hf6⟩:=id h6
 have hfit6:Fits Tryz.prog 52 d6:=fun n hn=>of_decide_eq_true (hall n (by simp only[DataW.weightsEach,List.cons_append,List.nil_append,List.mem_append];simp[hn]))
 obtain⟨cs6,rfl,hcs6⟩:=okWide_struct Tryz.underlying52 (hval 6 52 v6 rfl rfl)
 obtain⟨pr6,hc6⟩:=trcC_of hf6 hfit6 (hcs6.trans (by kernel_rfl))
 refine (makes_walk pr0 _ pr1 _ a2 (.slice sa3 sn3 sc3) L3 (.slice sa4 sn4 sc4) L4 pr5 _ pr6 _ W hc0 hc1 (by unfold InI64;omega) hr3 hr4 hc5 hc6 (laid_parts hL).1 (laid_parts hL).2).mono fun e W' ⟨he,hb⟩=>?_
 subst he
 exact⟨_,rfl,_,_,_,[],_,[],hW',trodAll_mk1 (shut_bool Tryz.underlying4 _),(trodAll_cons_mk (hb.trod laidOut_all (by kernel_rfl) (of_decide_eq_true (by kernel_rfl)) h0 (fun x hx=>hlt x (by simp[hx]))) (trodAll_cons_mk (hb.trod laidOut_all (by kernel_rfl) (of_decide_eq_true (by kernel_rfl)) h1 (fun x hx=>hlt x (by simp[hx]))) (trodAll_cons_mk (shut_int Tryz.underlying3 w2) (trodAll_cons_mk (hb.trod laidOut_all (by kernel_rfl) (of_decide_eq_true (by kernel_rfl)) h3 (fun x hx=>hlt x (by simp[hx]))) (trodAll_cons_mk (hb.trod laidOut_all (by kernel_rfl) (of_decide_eq_true (by kernel_rfl)) h4 (fun x hx=>hlt x (by simp[hx]))) (trodAll_cons_mk (hb.trod laidOut_all (by kernel_rfl) (of_decide_eq_true (by kernel_rfl)) h5 (fun x hx=>hlt x (by simp[hx]))) (trodAll_cons_mk (hb.trod laidOut_all (by kernel_rfl) (of_decide_eq_true (by kernel_rfl)) h6 (fun x hx=>hlt x (by simp[hx]))) trodAll_mk0))))))),rfl,hb.frame _,fun h=>by cases h⟩
theorem wmakes_row (os:Os) {H:Type} (enc:TypeId × Value→H) :
  (OpenSpec.ofChange Rows.witnessMakesSpec).preRow enc Tryz.prog Tryz.f5 Rows.witnessMakesRow.domain false Rows.witnessMakesRow.laid ((laidWorld os).forCall (fun _ _=>0) ⟨#[],#[.agg #[.int .i64 0,.int .i64 0,.slice none 0 0,.slice none 0 0,.slice none 0 0,.slice none 0 0],.agg #[.slice none 0 0,.slice none 0 0,.slice none 0 0,.slice none 0 0,.bool false,.int .i64 0,.int .i64 0,.int .i64 0,.int .i64 0],.int .i64 0,.slice none 0 0,.slice none 0 0,.agg #[.int .u8 0,.int .i64 0,.slice none 0 0,.slice none 0 0,.slice none 0 0,.slice none 0 0],.agg #[.int .u8 0,.int .i64 0,.slice none 0 0,.slice none 0 0,.slice none 0 0,.slice none 0 0]],[]⟩).memory #[.agg #[.int .i64 0,.int .i64 0,.slice none 0 0,.slice none 0 0,.slice none 0 0,.slice none 0 0],.agg #[.slice none 0 0,.slice none 0 0,.slice none 0 0,.slice none 0 0,.bool false,.int .i64 0,.int .i64 0,.int .i64 0,.int .i64 0],.int .i64 0,.slice none 0 0,.slice none 0 0,.agg #[.int .u8 0,.int .i64 0,.slice none 0 0,.slice none 0 0,.slice none 0 0,.slice none 0 0],.agg #[.int .u8 0,.int .i64 0,.slice none 0 0,.slice none 0 0,.slice none 0 0,.slice none 0 0]]:=by
 obtain⟨⟨x1,x2,x3⟩,hx,hx1⟩:=Option.map_eq_some_iff.1 (wmakes_reads os enc)
 simp only[Prod.mk.injEq] at hx1
 obtain⟨rfl,rfl⟩:=hx1
 exact OpenSpec.preRow_of_cond 8 hx (by kernel_rfl) (fun k hk=>by cases hk) (by kernel_rfl) (laid_met os _)
theorem wmakes_lifted (os:Os) (started:os.Started) (H:Type) (enc:TypeId × Value→H) (F:Stop.Interp) :
  ReturnsInHanded {} Tryz.checked os 5 .any ((OpenSpec.ofChange Rows.witnessMakesSpec).preRow enc Tryz.prog Tryz.f5 Rows.witnessMakesRow.domain false Rows.witnessMakesRow.laid) (((OpenSpec.ofChange Rows.witnessMakesSpec).at F).post enc Tryz.prog Tryz.f5 false true false false):=by
 refine returnsInHanded_of_row (C:=Tryz.checked) (s:=OpenSpec.ofChange Rows.witnessMakesSpec) ownKnobNone started (by kernel_rfl) Tryz.func5
  (witness_row_atRef (enc:=enc) (C:=Tryz.checked) false (laidWorld os) #[.agg #[.int .i64 0,.int .i64 0,.slice none 0 0,.slice none 0 0,.slice none 0 0,.slice none 0 0],.agg #[.slice none 0 0,.slice none 0 0,.slice none 0 0,.slice none 0 0,.bool false,.int .i64 0,.int .i64 0,.int .i64 0,.int .i64 0],.int .i64 0,.slice none 0 0,.slice none 0 0,.agg #[.int .u8 0,.int .i64 0,.slice none 0 0,.slice none 0 0,.slice none 0 0,.slice none 0 0],.agg #[.int .u8 0,.int .i64 0,.slice none 0 0,.slice none 0 0,.slice none 0 0,.slice none 0 0]] rfl (by kernel_rfl) (by kernel_rfl) (by kernel_rfl) (wmakes_row os enc)) ?_
 intro W base args ds gs before hval hW _ _ hsz hL _ _
 exact wmakes_contract H enc W base args ds gs before hval hW hsz hL
theorem wmakes_said:Rows.WitnessMakesSaid:=
 OpenClaim.holds_of_cond 5 Tryz.f5 rfl rfl rfl rfl rfl rfl rfl ⟨rfl,rfl,rfl,rfl,rfl⟩ rfl rfl rfl rfl rfl (by kernel_rfl) Tryz.func5 (by kernel_rfl)
  (of_decide_eq_true (by kernel_rfl)) (by unfold Func.isWrapper;first|(rw[if_pos (by decide +kernel)];kernel_rfl)|(rw[if_neg (by decide +kernel)];exact⟨rfl,rfl⟩))
  (fun os started H enc _ F=>by rw[OpenClaim.pre_eq_preRow];exact wmakes_lifted os started H enc F)
theorem wmakes_plain (f : FuncId) (fn : Func) (hf : Tryz.pinned.checked.prog.funcNamed "weephole/weepholelaw37.WitnessMakes" = some f) (hfn : Tryz.pinned.checked.prog.funcs[f]? = some fn) :
  false=Tryz.pinned.checked.prog.looks []∧∀ (j:Nat) t,fn.params[j]?=some t→Tryz.pinned.checked.prog.wantsStandIn t=false:=by
 obtain rfl : f = 5 := Option.some.inj ((show Tryz.prog.funcNamed "weephole/weepholelaw37.WitnessMakes" = some 5 by kernel_rfl).symm.trans hf) |>.symm
 obtain rfl:fn=Tryz.f5:=(Option.some.inj (Tryz.func5.symm.trans hfn)).symm
 refine⟨by kernel_rfl,fun j t ht=>?_⟩
 rw[Tryz.params5] at ht
 have hmem:=Array.mem_of_getElem? ht
 simp only[List.mem_toArray,List.mem_cons,List.not_mem_nil,or_false] at hmem
 rcases hmem with rfl|rfl|rfl|rfl|rfl|rfl|rfl
 ·exact (show Tryz.prog.wantsStandIn 26=false by kernel_rfl)
 ·exact (show Tryz.prog.wantsStandIn 30=false by kernel_rfl)
 ·exact (show Tryz.prog.wantsStandIn 3=false by kernel_rfl)
 ·exact (show Tryz.prog.wantsStandIn 35=false by kernel_rfl)
 ·exact (show Tryz.prog.wantsStandIn 35=false by kernel_rfl)
 ·exact (show Tryz.prog.wantsStandIn 52=false by kernel_rfl)
 ·exact (show Tryz.prog.wantsStandIn 52=false by kernel_rfl)
theorem wmakes_card:Rows.WitnessMakesCardSaid:=
 Claim7.holds_tied_plain_at .later [] _ _ _ _ wmakes_said (fun _ h=>by cases h) (by kernel_rfl) (fun _ h=>by cases h) witnessMakes_row_tie rfl ⟨rfl,rfl⟩ (by kernel_rfl) rfl wmakes_plain (by kernel_rfl)
end Go.Proofs.YtkjkpddajjmloaaGreatDoor
