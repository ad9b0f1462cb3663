/- The card of ScriptOthers: whatever the input, the law returns true, and each argument reads as it did. Condition: the row's own (the two tables are as the program's text lays them). -/
import Derived.Test.YtfdinncgncbmfaaGreatDoorTWl
import Derived.Test.YtfdinncgncbmfaaGreatDoorOpu
import Derived.Test.YtfdinncgncbmfaaGreatDoorOtW
set_option linter.unnecessarySimpa false
set_option linter.unusedVariables false
set_option linter.unusedSimpArgs false
namespace Go.Proofs.YtfdinncgncbmfaaGreatDoor
open Go.ChangeShapes Go.WideShapes Go.ChangeAt Go.RowKit
open Go.ChangeMaps (open_string shut_string)
set_option maxRecDepth 1000000 in
theorem others_reads (os : Os) {H : Type} (enc : TypeId × Value → H) : (DataW.whole enc Tryz.prog ((laidWorld os).forCall (fun _ _ => 0) ⟨#[], #[.string ⟨#[]⟩, .agg #[.int .i64 0, .slice none 0 0, .slice none 0 0, .slice none 0 0, .slice none 0 0]], []⟩).memory Tryz.f4.params.toList Rows.scriptOthersSpec.vars false (#[.string ⟨#[]⟩, .agg #[.int .i64 0, .slice none 0 0, .slice none 0 0, .slice none 0 0, .slice none 0 0]] : Array Value).toList 8).map (fun x => (x.1, x.2.1)) =
    some ([.lit (.string []), .agg [.lit (.int .i64 0), .nil, .nil, .nil, .nil]], []) := by kernel_rfl
set_option maxRecDepth 1000000 in
theorem others_contract (H : Type) (enc : TypeId × Value → H) (W : World) (base : Nat) (args : Array Value) (ds gs : List (DataW H)) (before : List MemPlace)
    (hval : ∀ (j : Nat) t v, Tryz.f4.params[j]? = some t → args[j]? = some v → Value.okWide Tryz.prog W .any base t v)
    (hW : DataW.Whole enc Tryz.prog Tryz.f4.params.toList Rows.scriptOthersSpec.vars false W args.toList ds gs before)
    (hsz : ((DataW.weightsEach Tryz.prog (Tryz.f4.params.toList ++ DataSpec.varTypes Tryz.prog (Rows.OpenSpec.upto Rows.scriptOthersSpec).bare.plain) (ds ++ gs)).all fun x => decide (x ≤ reachBytes)) = true) (hcond : Rows.uptoSmall H (ds ++ gs) = true) (hL : laidMetH Tryz.prog Rows.scriptOthersUptoRow.laid W) :
    Calls Tryz.prog 4 args W fun e W' => ∃ v, e = .returned v ∧ Rows.scriptOthersSpec.post enc Tryz.prog Tryz.f4 false true false false W args v W' := by
  have hW' := hW
  have hlt := DataW.Whole.lt hW
  obtain ⟨p, q, hA0, hV, rfl, hfz, hnd⟩ := hW
  have hA : DataW.TrodAll enc Tryz.prog W 0 (fun _ => true) true Tryz.f4.params.toList args.toList ds p := hA0
  rw [Tryz.params4] at hA hval hsz
  obtain ⟨v0, vs0, d0, ds0, p0, q0, hargs, rfl, rfl, h0, r0⟩ := trodAll_cons hA
  obtain ⟨v1, vs1, d1, ds1, p1, q1, rfl, rfl, rfl, h1, r1⟩ := trodAll_cons r0
  obtain ⟨rfl, rfl, rfl⟩ := trodAll_nil r1
  obtain rfl : args = #[v0, v1] := by cases args; simp_all
  obtain ⟨rfl, rfl⟩ := trodVars_none hV
  have hall := List.all_eq_true.1 hsz
  obtain ⟨a0, rfl, rfl, rfl, w0⟩ := open_string Tryz.underlying9 (hval 0 9 v0 rfl rfl) h0
  obtain ⟨fuel1, hf1⟩ := id h1
  have hfit1 : Fits Tryz.prog 28 d1 := fun n hn => of_decide_eq_true (hall n (by simp only [DataW.weightsEach, List.cons_append, List.nil_append, List.mem_append]; simp [hn]))
  obtain ⟨cs1, rfl, hcs1⟩ := okWide_struct Tryz.underlying28 (hval 1 28 v1 rfl rfl)
  obtain ⟨pr1, cv1, av1, fv1, mv1, rfl, hr1⟩ := rdProg_of hf1 hfit1 (hcs1.trans (by kernel_rfl))
  have hco1 : ∀ f ∈ pr1.funcs, f.code.length ≤ 1048576 := fun f hf => Nat.le_trans (prog_codes hf1 hr1 f hf) (Nat.le_trans (bulk_part (l := _) (by simp)) (bulk_bound hcond))
  refine (others_walk a0 pr1 cv1 av1 fv1 mv1 W w0 hr1 hco1 (laid_of hL)).mono fun e W' ⟨he, hb⟩ => ?_
  subst he
  exact ⟨_, rfl, _, _, _, [], _, [], hW', trodAll_mk1 (shut_bool Tryz.underlying4 _), (trodAll_cons_mk (shut_string Tryz.underlying9 w0) (trodAll_cons_mk (hb.trod laidOut_all (by kernel_rfl) (of_decide_eq_true (by kernel_rfl)) h1 (fun x hx => hlt x (by simp [hx]))) trodAll_mk0)), rfl, hb.frame _, fun h => by cases h⟩
set_option maxRecDepth 1000000 in
theorem others_row (os : Os) {H : Type} (enc : TypeId × Value → H) :
    (Rows.OpenSpec.upto Rows.scriptOthersSpec).preRow enc Tryz.prog Tryz.f4 Rows.scriptOthersUptoRow.domain false Rows.scriptOthersUptoRow.laid ((laidWorld os).forCall (fun _ _ => 0) ⟨#[], #[.string ⟨#[]⟩, .agg #[.int .i64 0, .slice none 0 0, .slice none 0 0, .slice none 0 0, .slice none 0 0]], []⟩).memory #[.string ⟨#[]⟩, .agg #[.int .i64 0, .slice none 0 0, .slice none 0 0, .slice none 0 0, .slice none 0 0]] := by
  obtain ⟨⟨x1, x2, x3⟩, hx, hx1⟩ := Option.map_eq_some_iff.1 (others_reads os enc)
  simp only [Prod.mk.injEq] at hx1
  obtain ⟨rfl, rfl⟩ := hx1
  exact OpenSpec.preRow_of_cond 8 hx (by kernel_rfl) (fun k hk => by cases hk; kernel_rfl) (by kernel_rfl) (laid_met os _)
set_option maxRecDepth 1000000 in
theorem others_lifted (os : Os) (started : os.Started) (H : Type) (enc : TypeId × Value → H) (F : Stop.Interp) :
    ReturnsInHanded {} Tryz.checked os 4 .any ((Rows.OpenSpec.upto Rows.scriptOthersSpec).preRow enc Tryz.prog Tryz.f4 Rows.scriptOthersUptoRow.domain false Rows.scriptOthersUptoRow.laid) (((Rows.OpenSpec.upto Rows.scriptOthersSpec).at F).post enc Tryz.prog Tryz.f4 false true false false) := by
  refine returnsInHanded_of_row (C := Tryz.checked) (s := Rows.OpenSpec.upto Rows.scriptOthersSpec) ownKnobNone started (by kernel_rfl) Tryz.func4
    (witness_row_atRef (enc := enc) (C := Tryz.checked) false (laidWorld os) #[.string ⟨#[]⟩, .agg #[.int .i64 0, .slice none 0 0, .slice none 0 0, .slice none 0 0, .slice none 0 0]] rfl (by kernel_rfl) (by kernel_rfl) (by kernel_rfl) (others_row os enc)) ?_
  intro W base args ds gs before hval hW _ hcond hsz hL _ _
  exact others_contract H enc W base args ds gs before hval hW hsz (hcond _ rfl) hL
theorem others_said : Rows.ScriptOthersUptoSaid :=
  OpenClaim.holds_of_cond 4 Tryz.f4 rfl rfl rfl rfl rfl rfl rfl ⟨rfl, rfl, rfl, rfl, rfl⟩ rfl rfl rfl rfl rfl (by kernel_rfl) Tryz.func4 (by kernel_rfl)
    (of_decide_eq_true (by kernel_rfl)) (by unfold Func.isWrapper; first | (rw [if_pos (by decide +kernel)]; kernel_rfl) | (rw [if_neg (by decide +kernel)]; exact ⟨rfl, rfl⟩))
    (fun os started H enc _ F => by rw [OpenClaim.pre_eq_preRow]; exact others_lifted os started H enc F)
theorem others_plain (f : FuncId) (fn : Func) (hf : Tryz.pinned.checked.prog.funcNamed "weephole/weepholelaw41.ScriptOthers" = some f) (hfn : Tryz.pinned.checked.prog.funcs[f]? = some fn) :
    true = Tryz.pinned.checked.prog.looks [] ∧ ∀ (j : Nat) t, fn.params[j]? = some t → Tryz.pinned.checked.prog.wantsStandIn t = false := by
  obtain rfl : f = 4 := Option.some.inj ((show Tryz.prog.funcNamed "weephole/weepholelaw41.ScriptOthers" = some 4 by kernel_rfl).symm.trans hf) |>.symm
  obtain rfl : fn = Tryz.f4 := (Option.some.inj (Tryz.func4.symm.trans hfn)).symm
  refine ⟨by kernel_rfl, fun j t ht => ?_⟩
  rw [Tryz.params4] at ht
  have hmem := Array.mem_of_getElem? ht
  simp only [List.mem_toArray, List.mem_cons, List.not_mem_nil, or_false] at hmem
  rcases hmem with rfl | rfl
  · exact (show Tryz.prog.wantsStandIn 9 = false by kernel_rfl)
  · exact (show Tryz.prog.wantsStandIn 28 = false by kernel_rfl)
theorem others_card : Rows.ScriptOthersUptoCardSaid :=
  Claim7.holds_tied_plain_at .later [] _ _ _ _ others_said (fun _ h => by cases h) (by kernel_rfl) (fun _ h => by cases h) scriptOthersUpto_row_tie rfl ⟨rfl, rfl⟩ (by kernel_rfl) rfl others_plain (by kernel_rfl)
end Go.Proofs.YtfdinncgncbmfaaGreatDoor
