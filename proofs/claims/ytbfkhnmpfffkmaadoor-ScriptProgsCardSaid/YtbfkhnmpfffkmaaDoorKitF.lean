/- Contracts of the kit's comparisons of instructions, functions and programs: called in whatever memory they return whether the two values read as equal ones, and write nothing that was there. Condition: both read as instructions, functions, programs. -/
import Derived.Test.YtbfkhnmpfffkmaaDoorKitE
set_option linter.unusedVariables false
set_option linter.unusedSimpArgs false
namespace Go.Proofs.YtbfkhnmpfffkmaaDoor
open Go.ChangeShapes Go.WideShapes Go.ChangeAt Go.RowKit
set_option maxRecDepth 100000 in
set_option maxHeartbeats 3200000 in
theorem equalInstr (x y : InstrD) (av bv : Value) (w : World) (h : RdInstr none w x av) (g : RdInstr none w y bv) :
    Calls Tryd.prog 12 #[instrV x av, instrV y bv] w fun e w' => e = .returned (.bool (eqInstr x y)) ∧ Below w.heap.size w w' := by
  have hb0 : Hid (Below w.heap.size w ((w.alloc (.cells #[.int .u8 x.kind, .int .u8 x.op, .string x.dst, .string x.name, av, .int .i64 x.line, .int .i64 x.col] 37)).alloc (.cells #[.int .u8 y.kind, .int .u8 y.op, .string y.dst, .string y.name, bv, .int .i64 y.line, .int .i64 y.col] 37))) := (((Below.refl _ _).alloc (Nat.le_refl _) _).alloc (by simp) _)
  have HA := Lib.hid (equalArgs av bv x.args y.args _ (h.1.keep hb0.out) (g.1.keep hb0.out))
  clear h g
  cases h0 : (x.kind == y.kind)
  · have HV : Hid (eqInstr x y = false) := by show _ = _; simp [eqInstr, h0]
    go_enter Tryd.func12, Tryd.ntmps12
    go_wp2_with (go_at_call 25; refine HA.out.mono ?_; rintro e w1 ⟨rfl, hw1⟩; have hc := heap2_of hw1; have g0 := hc.1; have g1 := hc.2.1; have i5 := row_of g0 5 (.int .i64 x.line) rfl; have i6 := row_of g0 6 (.int .i64 x.col) rfl; have j5 := row_of g1 5 (.int .i64 y.line) rfl; have j6 := row_of g1 6 (.int .i64 y.col) rfl; clear g0 g1 hc)
    go_ret
    exact ⟨by rw [HV.out]; rfl, by repeat (first | exact hb0.out | refine bcomp' (by assumption) ?_)⟩
  cases h1 : (x.op == y.op)
  · have HV : Hid (eqInstr x y = false) := by show _ = _; simp [eqInstr, h0, h1]
    go_enter Tryd.func12, Tryd.ntmps12
    go_wp2_with (go_at_call 25; refine HA.out.mono ?_; rintro e w1 ⟨rfl, hw1⟩; have hc := heap2_of hw1; have g0 := hc.1; have g1 := hc.2.1; have i5 := row_of g0 5 (.int .i64 x.line) rfl; have i6 := row_of g0 6 (.int .i64 x.col) rfl; have j5 := row_of g1 5 (.int .i64 y.line) rfl; have j6 := row_of g1 6 (.int .i64 y.col) rfl; clear g0 g1 hc)
    go_ret
    exact ⟨by rw [HV.out]; rfl, by repeat (first | exact hb0.out | refine bcomp' (by assumption) ?_)⟩
  cases h2 : (x.dst.toList == y.dst.toList)
  · have HV : Hid (eqInstr x y = false) := by show _ = _; simp [eqInstr, h0, h1, h2]
    go_enter Tryd.func12, Tryd.ntmps12
    go_wp2_with (go_at_call 25; refine HA.out.mono ?_; rintro e w1 ⟨rfl, hw1⟩; have hc := heap2_of hw1; have g0 := hc.1; have g1 := hc.2.1; have i5 := row_of g0 5 (.int .i64 x.line) rfl; have i6 := row_of g0 6 (.int .i64 x.col) rfl; have j5 := row_of g1 5 (.int .i64 y.line) rfl; have j6 := row_of g1 6 (.int .i64 y.col) rfl; clear g0 g1 hc)
    go_ret
    exact ⟨by rw [HV.out]; rfl, by repeat (first | exact hb0.out | refine bcomp' (by assumption) ?_)⟩
  cases h3 : (x.name.toList == y.name.toList)
  · have HV : Hid (eqInstr x y = false) := by show _ = _; simp [eqInstr, h0, h1, h2, h3]
    go_enter Tryd.func12, Tryd.ntmps12
    go_wp2_with (go_at_call 25; refine HA.out.mono ?_; rintro e w1 ⟨rfl, hw1⟩; have hc := heap2_of hw1; have g0 := hc.1; have g1 := hc.2.1; have i5 := row_of g0 5 (.int .i64 x.line) rfl; have i6 := row_of g0 6 (.int .i64 x.col) rfl; have j5 := row_of g1 5 (.int .i64 y.line) rfl; have j6 := row_of g1 6 (.int .i64 y.col) rfl; clear g0 g1 hc)
    go_ret
    exact ⟨by rw [HV.out]; rfl, by repeat (first | exact hb0.out | refine bcomp' (by assumption) ?_)⟩
  cases h4 : (eqL eqArg x.args y.args)
  · have HV : Hid (eqInstr x y = false) := by show _ = _; simp [eqInstr, h0, h1, h2, h3, h4]
    go_enter Tryd.func12, Tryd.ntmps12
    go_wp2_with (go_at_call 25; refine HA.out.mono ?_; rintro e w1 ⟨rfl, hw1⟩; have hc := heap2_of hw1; have g0 := hc.1; have g1 := hc.2.1; have i5 := row_of g0 5 (.int .i64 x.line) rfl; have i6 := row_of g0 6 (.int .i64 x.col) rfl; have j5 := row_of g1 5 (.int .i64 y.line) rfl; have j6 := row_of g1 6 (.int .i64 y.col) rfl; clear g0 g1 hc)
    go_ret
    exact ⟨by rw [HV.out]; rfl, by repeat (first | exact hb0.out | refine bcomp' (by assumption) ?_)⟩
  by_cases h5 : x.line = y.line
  · by_cases h5' : x.col = y.col
    · have HV : Hid (eqInstr x y = true) := by show _ = _; simp [eqInstr, h0, h1, h2, h3, h4, h5, h5']
      have H5 := Lib.hid h5
      have H6 := Lib.hid h5'
      clear h5 h5'
      go_enter Tryd.func12, Tryd.ntmps12
      go_wp2_with (go_at_call 25; refine HA.out.mono ?_; rintro e w1 ⟨rfl, hw1⟩; have hc := heap2_of hw1; have g0 := hc.1; have g1 := hc.2.1; have i5 := row_of g0 5 (.int .i64 x.line) rfl; have i6 := row_of g0 6 (.int .i64 x.col) rfl; have j5 := row_of g1 5 (.int .i64 y.line) rfl; have j6 := row_of g1 6 (.int .i64 y.col) rfl; clear g0 g1 hc; have q5 := H5.out; have q6 := H6.out)
      go_ret
      exact ⟨by rw [HV.out]; rfl, by repeat (first | exact hb0.out | refine bcomp' (by assumption) ?_)⟩
    · have HV : Hid (eqInstr x y = false) := by show _ = _; simp [eqInstr, h0, h1, h2, h3, h4, h5, h5']
      have H5 := Lib.hid h5
      have H6 := Lib.hid h5'
      clear h5 h5'
      go_enter Tryd.func12, Tryd.ntmps12
      go_wp2_with (go_at_call 25; refine HA.out.mono ?_; rintro e w1 ⟨rfl, hw1⟩; have hc := heap2_of hw1; have g0 := hc.1; have g1 := hc.2.1; have i5 := row_of g0 5 (.int .i64 x.line) rfl; have i6 := row_of g0 6 (.int .i64 x.col) rfl; have j5 := row_of g1 5 (.int .i64 y.line) rfl; have j6 := row_of g1 6 (.int .i64 y.col) rfl; clear g0 g1 hc; have q5 := H5.out; have q6 := H6.out)
      go_ret
      exact ⟨by rw [HV.out]; rfl, by repeat (first | exact hb0.out | refine bcomp' (by assumption) ?_)⟩
  · have HV : Hid (eqInstr x y = false) := by show _ = _; simp [eqInstr, h0, h1, h2, h3, h4, h5]
    go_enter Tryd.func12, Tryd.ntmps12
    go_wp2_with (go_at_call 25; refine HA.out.mono ?_; rintro e w1 ⟨rfl, hw1⟩; have hc := heap2_of hw1; have g0 := hc.1; have g1 := hc.2.1; have i5 := row_of g0 5 (.int .i64 x.line) rfl; have i6 := row_of g0 6 (.int .i64 x.col) rfl; have j5 := row_of g1 5 (.int .i64 y.line) rfl; have j6 := row_of g1 6 (.int .i64 y.col) rfl; clear g0 g1 hc)
    go_ret
    exact ⟨by rw [HV.out]; rfl, by repeat (first | exact hb0.out | refine bcomp' (by assumption) ?_)⟩
end Go.Proofs.YtbfkhnmpfffkmaaDoor
