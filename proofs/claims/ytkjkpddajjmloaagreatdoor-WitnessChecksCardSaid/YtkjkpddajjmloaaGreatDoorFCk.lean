/- The card of WitnessChecks: whatever the input, the law returns true, and each argument reads as it did. Condition: the row's own (the two tables are as the program's text lays them). -/
import Derived.Test.YtkjkpddajjmloaaGreatDoorWCk
import Derived.Test.YtkjkpddajjmloaaGreatDoorAWw
set_option linter.all false
set_option maxRecDepth 1000000
set_option maxHeartbeats 6400000
namespace Go.Proofs.YtkjkpddajjmloaaGreatDoor
open Go.ChangeShapes Go.WideShapes Go.ChangeAt Go.RowKit
theorem wchecks_reads (os:Os) {H:Type} (enc:TypeId × Value→H):(DataW.whole enc Tryz.prog ((laidWorld os).forCall (fun _ _=>0) ⟨#[],#[.agg #[.int .i64 0,.int .i64 0,.slice none 0 0,.slice none 0 0,.slice none 0 0,.slice none 0 0],.agg #[.slice none 0 0,.slice none 0 0,.slice none 0 0,.slice none 0 0,.bool false,.int .i64 0,.int .i64 0,.int .i64 0,.int .i64 0],.agg #[.int .i64 0,.slice none 0 0,.slice none 0 0,.bool false]],[]⟩).memory Tryz.f4.params.toList Rows.witnessChecksSpec.vars false (#[.agg #[.int .i64 0,.int .i64 0,.slice none 0 0,.slice none 0 0,.slice none 0 0,.slice none 0 0],.agg #[.slice none 0 0,.slice none 0 0,.slice none 0 0,.slice none 0 0,.bool false,.int .i64 0,.int .i64 0,.int .i64 0,.int .i64 0],.agg #[.int .i64 0,.slice none 0 0,.slice none 0 0,.bool false]]:Array Value).toList 8).map (fun x=>(x.1,x.2.1)) =
  some ([.agg [.lit (.int .i64 0),.lit (.int .i64 0),.nil,.nil,.nil,.nil],.agg [.nil,.nil,.nil,.nil,.lit (.bool false),.lit (.int .i64 0),.lit (.int .i64 0),.lit (.int .i64 0),.lit (.int .i64 0)],.agg [.lit (.int .i64 0),.nil,.nil,.lit (.bool false)]],[]):=by kernel_rfl
theorem wchecks_contract (H:Type) (enc:TypeId × Value→H) (W:World) (base:Nat) (args:Array Value) (ds gs:List (DataW H)) (before:List MemPlace)
  (hval:∀ (j:Nat) t v,Tryz.f4.params[j]?=some t→args[j]?=some v→Value.okWide Tryz.prog W .any base t v)
  (hW:DataW.Whole enc Tryz.prog Tryz.f4.params.toList Rows.witnessChecksSpec.vars false W args.toList ds gs before)
  (hsz:((DataW.weightsEach Tryz.prog (Tryz.f4.params.toList++DataSpec.varTypes Tryz.prog (OpenSpec.ofChange Rows.witnessChecksSpec).bare.plain) (ds++gs)).all fun x=>decide (x≤reachBytes))=true) (hL:laidMetH Tryz.prog Rows.witnessChecksRow.laid W) :
  Calls Tryz.prog 4 args W fun e W'=>∃ v,e=.returned v∧Rows.witnessChecksSpec.post enc Tryz.prog Tryz.f4 false true false false W args v W':=by
 have hW':=hW
 have hlt:=DataW.Whole.lt hW
 obtain⟨p,q,hA0,hV,rfl,hfz,hnd⟩:=hW
 have hA:DataW.TrodAll enc Tryz.prog W 0 (fun _=>true) true Tryz.f4.params.toList args.toList ds p:=hA0
 rw[Tryz.params4] at hA hval hsz
 obtain⟨v0,vs0,d0,ds0,p0,q0,hargs,rfl,rfl,h0,r0⟩:=trodAll_cons hA
 obtain⟨v1,vs1,d1,ds1,p1,q1,rfl,rfl,rfl,h1,r1⟩:=trodAll_cons r0
 obtain⟨v2,vs2,d2,ds2,p2,q2,rfl,rfl,rfl,h2,r2⟩:=trodAll_cons r1
 obtain⟨rfl,rfl,rfl⟩:=trodAll_nil r2
 obtain rfl:args=#[v0,v1,v2]:=by cases args;simp_all
 obtain⟨rfl,rfl⟩:=trodVars_none hV
 have hall:=List.all_eq_true.1 hsz
 obtain⟨fuel0,hf0⟩:=id h0
 have hfit0:Fits Tryz.prog 26 d0:=fun n hn=>of_decide_eq_true (hall n (by simp only[DataW.weightsEach,List.cons_append,List.nil_append,List.mem_append];simp[hn]))
 obtain⟨cs0,rfl,hcs0⟩:=okWide_struct Tryz.underlying26 (hval 0 26 v0 rfl rfl)
 obtain⟨pr0,cv0,sv0,av0,kv0,rfl,hr0⟩:=rdFlat_of hf0 hfit0 (hcs0.trans (by kernel_rfl))
 have hc0:FlatC W pr0 _:=⟨cv0,sv0,av0,kv0,rfl,hr0⟩
 obtain⟨fuel1,hf1⟩:=id h1
 have hfit1:Fits Tryz.prog 30 d1:=fun n hn=>of_decide_eq_true (hall n (by simp only[DataW.weightsEach,List.cons_append,List.nil_append,List.mem_append];simp[hn]))
 obtain⟨cs1,rfl,hcs1⟩:=okWide_struct Tryz.underlying30 (hval 1 30 v1 rfl rfl)
 obtain⟨pr1,hc1⟩:=polC_of hf1 hfit1 (hcs1.trans (by kernel_rfl))
 obtain⟨fuel2,hf2⟩:=id h2
 have hfit2:Fits Tryz.prog 43 d2:=fun n hn=>of_decide_eq_true (hall n (by simp only[DataW.weightsEach,List.cons_append,List.nil_append,List.mem_append];simp[hn]))
 obtain⟨cs2,rfl,hcs2⟩:=okWide_struct Tryz.underlying43 (hval 2 43 v2 rfl rfl)
 obtain⟨pr2,hc2⟩:=witX_of hf2 hfit2 (hcs2.trans (by kernel_rfl))
 refine (checks_walk pr0 _ pr1 _ pr2 _ W hc0 hc1 hc2 (laid_parts hL).1 (laid_parts hL).2).mono fun e W' ⟨he,hb⟩=>?_
 subst he
 exact⟨_,rfl,_,_,_,[],_,[],hW',trodAll_mk1 (shut_bool Tryz.underlying4 _),(trodAll_cons_mk (hb.trod laidOut_all (by kernel_rfl) (of_decide_eq_true (by kernel_rfl)) h0 (fun x hx=>hlt x (by simp[hx]))) (trodAll_cons_mk (hb.trod laidOut_all (by kernel_rfl) (of_decide_eq_true (by kernel_rfl)) h1 (fun x hx=>hlt x (by simp[hx]))) (trodAll_cons_mk (hb.trod laidOut_all (by kernel_rfl) (of_decide_eq_true (by kernel_rfl)) h2 (fun x hx=>hlt x (by simp[hx]))) trodAll_mk0))),rfl,hb.frame _,fun h=>by cases h⟩
theorem wchecks_row (os:Os) {H:Type} (enc:TypeId × Value→H) :
  (OpenSpec.ofChange Rows.witnessChecksSpec).preRow enc Tryz.prog Tryz.f4 Rows.witnessChecksRow.domain false Rows.witnessChecksRow.laid ((laidWorld os).forCall (fun _ _=>0) ⟨#[],#[.agg #[.int .i64 0,.int .i64 0,.slice none 0 0,.slice none 0 0,.slice none 0 0,.slice none 0 0],.agg #[.slice none 0 0,.slice none 0 0,.slice none 0 0,.slice none 0 0,.bool false,.int .i64 0,.int .i64 0,.int .i64 0,.int .i64 0],.agg #[.int .i64 0,.slice none 0 0,.slice none 0 0,.bool false]],[]⟩).memory #[.agg #[.int .i64 0,.int .i64 0,.slice none 0 0,.slice none 0 0,.slice none 0 0,.slice none 0 0],.agg #[.slice none 0 0,.slice none 0 0,.slice none 0 0,.slice none 0 0,.bool false,.int .i64 0,.int .i64 0,.int .i64 0,.int .i64 0],.agg #[.int .i64 0,.slice none 0 0,.slice none 0 0,.bool false]]:=by
 obtain⟨⟨x1,x2,x3⟩,hx,hx1⟩:=Option.map_eq_some_iff.1 (wchecks_reads os enc)
 simp only[Prod.mk.injEq] at hx1
 obtain⟨rfl,rfl⟩:=hx1
 exact OpenSpec.preRow_of_cond 8 hx (by kernel_rfl) (fun k hk=>by cases hk) (by kernel_rfl) (laid_met os _)
theorem wchecks_lifted (os:Os) (started:os.Started) (H:Type) (enc:TypeId × Value→H) (F:Stop.Interp) :
  ReturnsInHanded {} Tryz.checked os 4 .any ((OpenSpec.ofChange Rows.witnessChecksSpec).preRow enc Tryz.prog Tryz.f4 Rows.witnessChecksRow.domain false Rows.witnessChecksRow.laid) (((OpenSpec.ofChange Rows.witnessChecksSpec).at F).post enc Tryz.prog Tryz.f4 false true false false):=by
 refine returnsInHanded_of_row (C:=Tryz.checked) (s:=OpenSpec.ofChange Rows.witnessChecksSpec) ownKnobNone started (by kernel_rfl) Tryz.func4
  (witness_row_atRef (enc:=enc) (C:=Tryz.checked) false (laidWorld os) #[.agg #[.int .i64 0,.int .i64 0,.slice none 0 0,.slice none 0 0,.slice none 0 0,.slice none 0 0],.agg #[.slice none 0 0,.slice none 0 0,.slice none 0 0,.slice none 0 0,.bool false,.int .i64 0,.int .i64 0,.int .i64 0,.int .i64 0],.agg #[.int .i64 0,.slice none 0 0,.slice none 0 0,.bool false]] rfl (by kernel_rfl) (by kernel_rfl) (by kernel_rfl) (wchecks_row os enc)) ?_
 intro W base args ds gs before hval hW _ _ hsz hL _ _
 exact wchecks_contract H enc W base args ds gs before hval hW hsz hL
theorem wchecks_said:Rows.WitnessChecksSaid:=
 OpenClaim.holds_of_cond 4 Tryz.f4 rfl rfl rfl rfl rfl rfl rfl ⟨rfl,rfl,rfl,rfl,rfl⟩ rfl rfl rfl rfl rfl (by kernel_rfl) Tryz.func4 (by kernel_rfl)
  (of_decide_eq_true (by kernel_rfl)) (by unfold Func.isWrapper;first|(rw[if_pos (by decide +kernel)];kernel_rfl)|(rw[if_neg (by decide +kernel)];exact⟨rfl,rfl⟩))
  (fun os started H enc _ F=>by rw[OpenClaim.pre_eq_preRow];exact wchecks_lifted os started H enc F)
theorem wchecks_plain (f : FuncId) (fn : Func) (hf : Tryz.pinned.checked.prog.funcNamed "weephole/weepholelaw37.WitnessChecks" = some f) (hfn : Tryz.pinned.checked.prog.funcs[f]? = some fn) :
  false=Tryz.pinned.checked.prog.looks []∧∀ (j:Nat) t,fn.params[j]?=some t→Tryz.pinned.checked.prog.wantsStandIn t=false:=by
 obtain rfl : f = 4 := Option.some.inj ((show Tryz.prog.funcNamed "weephole/weepholelaw37.WitnessChecks" = some 4 by kernel_rfl).symm.trans hf) |>.symm
 obtain rfl:fn=Tryz.f4:=(Option.some.inj (Tryz.func4.symm.trans hfn)).symm
 refine⟨by kernel_rfl,fun j t ht=>?_⟩
 rw[Tryz.params4] at ht
 have hmem:=Array.mem_of_getElem? ht
 simp only[List.mem_toArray,List.mem_cons,List.not_mem_nil,or_false] at hmem
 rcases hmem with rfl|rfl|rfl
 ·exact (show Tryz.prog.wantsStandIn 26=false by kernel_rfl)
 ·exact (show Tryz.prog.wantsStandIn 30=false by kernel_rfl)
 ·exact (show Tryz.prog.wantsStandIn 43=false by kernel_rfl)
theorem wchecks_card:Rows.WitnessChecksCardSaid:=
 Claim7.holds_tied_plain_at .later [] _ _ _ _ wchecks_said (fun _ h=>by cases h) (by kernel_rfl) (fun _ h=>by cases h) witnessChecks_row_tie rfl ⟨rfl,rfl⟩ (by kernel_rfl) rfl wchecks_plain (by kernel_rfl)
end Go.Proofs.YtkjkpddajjmloaaGreatDoor
