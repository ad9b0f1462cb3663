/- The card of FlatMakes: whatever the input, the law returns true, and each argument reads as it did. Condition: the row's own (the two tables are as the program's text lays them). -/
import Derived.Test.YtgcfdbhpophnjaaDoorFOq
import Derived.Test.YtgcfdbhpophnjaaDoorFlZ
set_option linter.all false
set_option maxRecDepth 1000000
set_option maxHeartbeats 12800000
namespace Go.Proofs.YtgcfdbhpophnjaaDoor
open Go.ChangeShapes Go.WideShapes Go.ChangeAt Go.RowKit
theorem fmakes_reads (os:Os) {H:Type} (enc:TypeId × Value→H):(DataW.whole enc Tryd.prog ((laidWorld os).forCall (fun _ _=>0) ⟨#[],#[.agg #[.int .i64 0,.slice none 0 0,.slice none 0 0,.slice none 0 0,.slice none 0 0]],[]⟩).memory Tryd.f3.params.toList Rows.flatMakesSpec.vars false (#[.agg #[.int .i64 0,.slice none 0 0,.slice none 0 0,.slice none 0 0,.slice none 0 0]]:Array Value).toList 8).map (fun x=>(x.1,x.2.1)) =
  some ([.agg [.lit (.int .i64 0),.nil,.nil,.nil,.nil]],[]):=by kernel_rfl
theorem fmakes_contract (H:Type) (enc:TypeId × Value→H) (W:World) (base:Nat) (args:Array Value) (ds gs:List (DataW H)) (before:List MemPlace)
  (hval:∀ (j:Nat) t v,Tryd.f3.params[j]?=some t→args[j]?=some v→Value.okWide Tryd.prog W .any base t v)
  (hW:DataW.Whole enc Tryd.prog Tryd.f3.params.toList Rows.flatMakesSpec.vars false W args.toList ds gs before)
  (hsz:((DataW.weightsEach Tryd.prog (Tryd.f3.params.toList++DataSpec.varTypes Tryd.prog (OpenSpec.ofChange Rows.flatMakesSpec).bare.plain) (ds++gs)).all fun x=>decide (x≤reachBytes))=true) (hL:laidMetH Tryd.prog Rows.flatMakesRow.laid W) :
  Calls Tryd.prog 3 args W fun e W'=>∃ v,e=.returned v∧Rows.flatMakesSpec.post enc Tryd.prog Tryd.f3 false true false false W args v W':=by
 have hW':=hW
 have hlt:=DataW.Whole.lt hW
 obtain⟨p,q,hA0,hV,rfl,hfz,hnd⟩:=hW
 have hA:DataW.TrodAll enc Tryd.prog W 0 (fun _=>true) true Tryd.f3.params.toList args.toList ds p:=hA0
 rw[Tryd.params3] at hA hval hsz
 obtain⟨v0,vs0,d0,ds0,p0,q0,hargs,rfl,rfl,h0,r0⟩:=trodAll_cons hA
 obtain⟨rfl,rfl,rfl⟩:=trodAll_nil r0
 obtain rfl:args=#[v0]:=by cases args;simp_all
 obtain⟨rfl,rfl⟩:=trodVars_none hV
 have hall:=List.all_eq_true.1 hsz
 obtain⟨fuel0,hf0⟩:=id h0
 have hfit0:Fits Tryd.prog 27 d0:=fun n hn=>of_decide_eq_true (hall n (by simp only[DataW.weightsEach,List.cons_append,List.nil_append,List.mem_append];simp[hn]))
 obtain⟨cs0,rfl,hcs0⟩:=okWide_struct Tryd.underlying27 (hval 0 27 v0 rfl rfl)
 obtain⟨pr0,cv0,av0,fv0,mv0,rfl,hr0⟩:=rdProg_of hf0 hfit0 (hcs0.trans (by kernel_rfl))
 refine (flatMakes_walk pr0 cv0 av0 fv0 mv0 W hr0 (laid_of hL) (laidM_of hL)).mono fun e W' ⟨he,hb⟩=>?_
 subst he
 exact⟨_,rfl,_,_,_,[],_,[],hW',trodAll_mk1 (shut_bool Tryd.underlying4 _),(trodAll_cons_mk (hb.trod laidOut_all (by kernel_rfl) (of_decide_eq_true (by kernel_rfl)) h0 (fun x hx=>hlt x (by simp[hx]))) trodAll_mk0),rfl,hb.frame _,fun h=>by cases h⟩
theorem fmakes_row (os:Os) {H:Type} (enc:TypeId × Value→H) :
  (OpenSpec.ofChange Rows.flatMakesSpec).preRow enc Tryd.prog Tryd.f3 Rows.flatMakesRow.domain false Rows.flatMakesRow.laid ((laidWorld os).forCall (fun _ _=>0) ⟨#[],#[.agg #[.int .i64 0,.slice none 0 0,.slice none 0 0,.slice none 0 0,.slice none 0 0]],[]⟩).memory #[.agg #[.int .i64 0,.slice none 0 0,.slice none 0 0,.slice none 0 0,.slice none 0 0]]:=by
 obtain⟨⟨x1,x2,x3⟩,hx,hx1⟩:=Option.map_eq_some_iff.1 (fmakes_reads os enc)
 simp only[Prod.mk.injEq] at hx1
 obtain⟨rfl,rfl⟩:=hx1
 exact OpenSpec.preRow_of_cond 8 hx (by kernel_rfl) (fun k hk=>by cases hk) (by kernel_rfl) (laid_met os _)
theorem fmakes_lifted (os:Os) (started:os.Started) (H:Type) (enc:TypeId × Value→H) (F:Stop.Interp) :
  ReturnsInHanded {} Tryd.checked os 3 .any ((OpenSpec.ofChange Rows.flatMakesSpec).preRow enc Tryd.prog Tryd.f3 Rows.flatMakesRow.domain false Rows.flatMakesRow.laid) (((OpenSpec.ofChange Rows.flatMakesSpec).at F).post enc Tryd.prog Tryd.f3 false true false false):=by
 refine returnsInHanded_of_row (C:=Tryd.checked) (s:=OpenSpec.ofChange Rows.flatMakesSpec) ownKnobNone started (by kernel_rfl) Tryd.func3
  (witness_row_atRef (enc:=enc) (C:=Tryd.checked) false (laidWorld os) #[.agg #[.int .i64 0,.slice none 0 0,.slice none 0 0,.slice none 0 0,.slice none 0 0]] rfl (by kernel_rfl) (by kernel_rfl) (by kernel_rfl) (fmakes_row os enc)) ?_
 intro W base args ds gs before hval hW _ _ hsz hL _ _
 exact fmakes_contract H enc W base args ds gs before hval hW hsz hL
theorem fmakes_said:Rows.FlatMakesSaid:=
 OpenClaim.holds_of_cond 3 Tryd.f3 rfl rfl rfl rfl rfl rfl rfl ⟨rfl,rfl,rfl,rfl,rfl⟩ rfl rfl rfl rfl rfl (by kernel_rfl) Tryd.func3 (by kernel_rfl)
  (of_decide_eq_true (by kernel_rfl)) (by unfold Func.isWrapper;first|(rw[if_pos (by decide +kernel)];kernel_rfl)|(rw[if_neg (by decide +kernel)];exact⟨rfl,rfl⟩))
  (fun os started H enc _ F=>by rw[OpenClaim.pre_eq_preRow];exact fmakes_lifted os started H enc F)
theorem fmakes_plain (f : FuncId) (fn : Func) (hf : Tryd.pinned.checked.prog.funcNamed "weephole/weepholelaw25.FlatMakes" = some f) (hfn : Tryd.pinned.checked.prog.funcs[f]? = some fn) :
  true=Tryd.pinned.checked.prog.looks []∧∀ (j:Nat) t,fn.params[j]?=some t→Tryd.pinned.checked.prog.wantsStandIn t=false:=by
 obtain rfl : f = 3 := Option.some.inj ((show Tryd.prog.funcNamed "weephole/weepholelaw25.FlatMakes" = some 3 by kernel_rfl).symm.trans hf) |>.symm
 obtain rfl:fn=Tryd.f3:=(Option.some.inj (Tryd.func3.symm.trans hfn)).symm
 refine⟨by kernel_rfl,fun j t ht=>?_⟩
 rw[Tryd.params3] at ht
 have hmem:=Array.mem_of_getElem? ht
 simp only[List.mem_toArray,List.mem_cons,List.not_mem_nil,or_false] at hmem
 subst hmem
 exact (show Tryd.prog.wantsStandIn 27=false by kernel_rfl)
theorem fmakes_card:Rows.FlatMakesCardSaid:=
 Claim7.holds_tied_plain_at .later [] _ _ _ _ fmakes_said (fun _ h=>by cases h) (by kernel_rfl) (fun _ h=>by cases h) flatMakes_row_tie rfl ⟨rfl,rfl⟩ (by kernel_rfl) rfl fmakes_plain (by kernel_rfl)
end Go.Proofs.YtgcfdbhpophnjaaDoor
