/-
  NARROWER THAN 'FOR EVERY INPUT', by the rows' own cells (each row's printed sentence says how): MachSteps: laid · MachRuns: laid · MachExamples: laid · MachMore: laid · MachInputs: laid · MachSmall: laid.
  DERIVED. THE GIVEN ROWS OF THIS SEAT. 6 by the template 'for every input the law returns true; each argument reads behind the call as it read before'; 0 by the template 'total and deterministic' (their statements: YthmdioldnnhidaaDoorTotals.lean).
  GIVEN WITH THE SEED: the statements are not yours to turn. If you find one false, say at which input.
  Laid BY PROGRAM, IN A SANDBOX (cutbox-rows.mjs): the forced cells as the released guide's own fill.sh prints them over the translation 11be980351fdc080… (all of the seat's roots in one cut). By AI agents, Wed Nov 11 2026. No macro, syntax, notation, axiom, sorry.
-/
import Derived.Test.YthmdioldnnhidaaDoorChecked
import GoSem.Claim
import GoSem.ClaimJoined
import GoSem.ClaimMapViews
import Derived.JoinedTies
import Derived.KernelRfl
namespace Go.Proofs.YthmdioldnnhidaaDoor
/- THE CELL 'sum', in the pinned program and in every row, IS THE sha256 OF THE DUMP (.gsa) THAT YthmdioldnnhidaaDoorProg.lean LOADS. Nothing in Lean hashes anything: it is a label: what it is worth is what the hold of that sum in a sandbox is worth. -/
noncomputable def Tryd.pinned : Pinned := { name := "ythmdioldnnhidaadoor", sum := "11be980351fdc0802ffee41bcd99553cecf5d19920e11e798e202c758ecb6bd9", checked := Tryd.checked }
namespace Rows
def none {H : Type} : Left H := { results := [], args := [] }

/- WHAT THE LISTED PACKAGE-LEVEL VARIABLES READ AS WHEN THE CALL BEGINS. Each datum BY PROGRAM (the guide's laid-datum.mjs) off the statement by which the dump's own 'gosem.cut.vars' lays the variable. In a bare row this is a premise. The card (YthmdioldnnhidaaDoorCards.lean) ties it to the program's text. -/
def laid_weephole_flat_shapes {H : Type} : DataW H := .agg [.agg [.lit (.bool true), .lit (.bool true), .lit (.bool false), .lit (.int .i64 0)], .agg [.lit (.bool true), .lit (.bool true), .lit (.bool true), .lit (.int .i64 0)], .agg [.lit (.bool true), .lit (.bool true), .lit (.bool false), .lit (.int .i64 1)], .agg [.lit (.bool false), .lit (.bool true), .lit (.bool true), .lit (.int .i64 1)], .agg [.lit (.bool true), .lit (.bool false), .lit (.bool false), .lit (.int .i64 2)], .agg [.lit (.bool false), .lit (.bool true), .lit (.bool false), .lit (.int .i64 2)], .agg [.lit (.bool true), .lit (.bool true), .lit (.bool false), .lit (.int .i64 3)], .agg [.lit (.bool false), .lit (.bool false), .lit (.bool false), .lit (.int .i64 4)], .agg [.lit (.bool false), .lit (.bool true), .lit (.bool false), .lit (.int .i64 4)], .agg [.lit (.bool false), .lit (.bool false), .lit (.bool false), .lit (.int .i64 0)]]
def laid_weephole_mach_kinds {H : Type} : DataW H := .iface "func table" (.agg [.iface "func" (.lit (.string [40, 42, 119, 101, 101, 112, 104, 111, 108, 101, 47, 109, 97, 99, 104, 46, 77, 97, 99, 104, 105, 110, 101, 41, 46, 99, 111, 112, 121])), .iface "func" (.lit (.string [40, 42, 119, 101, 101, 112, 104, 111, 108, 101, 47, 109, 97, 99, 104, 46, 77, 97, 99, 104, 105, 110, 101, 41, 46, 97, 112, 112, 108, 121])), .iface "func" (.lit (.string [40, 42, 119, 101, 101, 112, 104, 111, 108, 101, 47, 109, 97, 99, 104, 46, 77, 97, 99, 104, 105, 110, 101, 41, 46, 108, 111, 97, 100])), .iface "func" (.lit (.string [40, 42, 119, 101, 101, 112, 104, 111, 108, 101, 47, 109, 97, 99, 104, 46, 77, 97, 99, 104, 105, 110, 101, 41, 46, 115, 116, 111, 114, 101])), .iface "func" (.lit (.string [40, 42, 119, 101, 101, 112, 104, 111, 108, 101, 47, 109, 97, 99, 104, 46, 77, 97, 99, 104, 105, 110, 101, 41, 46, 114, 101, 97, 100])), .iface "func" (.lit (.string [40, 42, 119, 101, 101, 112, 104, 111, 108, 101, 47, 109, 97, 99, 104, 46, 77, 97, 99, 104, 105, 110, 101, 41, 46, 119, 114, 105, 116, 101])), .iface "func" (.lit (.string [40, 42, 119, 101, 101, 112, 104, 111, 108, 101, 47, 109, 97, 99, 104, 46, 77, 97, 99, 104, 105, 110, 101, 41, 46, 114, 101, 108, 101, 97, 115, 101])), .iface "func" (.lit (.string [40, 42, 119, 101, 101, 112, 104, 111, 108, 101, 47, 109, 97, 99, 104, 46, 77, 97, 99, 104, 105, 110, 101, 41, 46, 106, 117, 109, 112])), .iface "func" (.lit (.string [40, 42, 119, 101, 101, 112, 104, 111, 108, 101, 47, 109, 97, 99, 104, 46, 77, 97, 99, 104, 105, 110, 101, 41, 46, 98, 114, 97, 110, 99, 104])), .iface "func" (.lit (.string [40, 42, 119, 101, 101, 112, 104, 111, 108, 101, 47, 109, 97, 99, 104, 46, 77, 97, 99, 104, 105, 110, 101, 41, 46, 104, 97, 108, 116]))])

/-- 'weepholelaw26.MachSteps': WHATEVER THE INPUT: true; the input reads as it did. -/
def machStepsSpec : ChangeSpec := { name := "machSteps", fn := fun _ => fun
  | [d1, d2, d3] => { results := [.lit (.bool true)], args := [d1, d2, d3] }
  | _ => none }
def machStepsRow : OpenClaim := { program := "ythmdioldnnhidaadoor", sum := "11be980351fdc0802ffee41bcd99553cecf5d19920e11e798e202c758ecb6bd9", func := "weephole/weepholelaw26.MachSteps", spec := "machSteps", unfollowed := true, recurses := true, named := ["weephole/flat.shapes", "weephole/mach.kinds"], apart := false, laid := [("weephole/flat.shapes", laid_weephole_flat_shapes), ("weephole/mach.kinds", laid_weephole_mach_kinds)] }
def MachStepsSaid : Prop := machStepsRow.holds Tryd.pinned (OpenSpec.ofChange machStepsSpec)

/-- ITS FALSE NEIGHBOUR: 'it returns false'. Refute it at one input. -/
def machStepsWrong : ChangeSpec := { name := "machSteps", fn := fun _ => fun
  | [d1, d2, d3] => { results := [.lit (.bool false)], args := [d1, d2, d3] }
  | _ => none }
def MachStepsWrongFalsely : Prop := machStepsRow.holds Tryd.pinned (OpenSpec.ofChange machStepsWrong)

/-- 'weepholelaw26.MachRuns': WHATEVER THE INPUT: true; the input reads as it did. -/
def machRunsSpec : ChangeSpec := { name := "machRuns", fn := fun _ => fun
  | [d1, d2, d3] => { results := [.lit (.bool true)], args := [d1, d2, d3] }
  | _ => none }
def machRunsRow : OpenClaim := { program := "ythmdioldnnhidaadoor", sum := "11be980351fdc0802ffee41bcd99553cecf5d19920e11e798e202c758ecb6bd9", func := "weephole/weepholelaw26.MachRuns", spec := "machRuns", unfollowed := true, recurses := true, named := ["weephole/flat.shapes", "weephole/mach.kinds"], apart := false, laid := [("weephole/flat.shapes", laid_weephole_flat_shapes), ("weephole/mach.kinds", laid_weephole_mach_kinds)] }
def MachRunsSaid : Prop := machRunsRow.holds Tryd.pinned (OpenSpec.ofChange machRunsSpec)

/-- ITS FALSE NEIGHBOUR: 'it returns false'. Refute it at one input. -/
def machRunsWrong : ChangeSpec := { name := "machRuns", fn := fun _ => fun
  | [d1, d2, d3] => { results := [.lit (.bool false)], args := [d1, d2, d3] }
  | _ => none }
def MachRunsWrongFalsely : Prop := machRunsRow.holds Tryd.pinned (OpenSpec.ofChange machRunsWrong)

/-- 'weepholelaw26.MachExamples': WHATEVER THE INPUT: true; the input reads as it did. -/
def machExamplesSpec : ChangeSpec := { name := "machExamples", fn := fun _ => fun
  | [] => { results := [.lit (.bool true)], args := [] }
  | _ => none }
def machExamplesRow : OpenClaim := { program := "ythmdioldnnhidaadoor", sum := "11be980351fdc0802ffee41bcd99553cecf5d19920e11e798e202c758ecb6bd9", func := "weephole/weepholelaw26.MachExamples", spec := "machExamples", unfollowed := true, recurses := true, named := ["weephole/flat.shapes", "weephole/mach.kinds"], apart := false, laid := [("weephole/flat.shapes", laid_weephole_flat_shapes), ("weephole/mach.kinds", laid_weephole_mach_kinds)] }
def MachExamplesSaid : Prop := machExamplesRow.holds Tryd.pinned (OpenSpec.ofChange machExamplesSpec)

/-- ITS FALSE NEIGHBOUR: 'it returns false'. Refute it at one input. -/
def machExamplesWrong : ChangeSpec := { name := "machExamples", fn := fun _ => fun
  | [] => { results := [.lit (.bool false)], args := [] }
  | _ => none }
def MachExamplesWrongFalsely : Prop := machExamplesRow.holds Tryd.pinned (OpenSpec.ofChange machExamplesWrong)

/-- 'weepholelaw26.MachMore': WHATEVER THE INPUT: true; the input reads as it did. -/
def machMoreSpec : ChangeSpec := { name := "machMore", fn := fun _ => fun
  | [d1, d2, d3, d4] => { results := [.lit (.bool true)], args := [d1, d2, d3, d4] }
  | _ => none }
def machMoreRow : OpenClaim := { program := "ythmdioldnnhidaadoor", sum := "11be980351fdc0802ffee41bcd99553cecf5d19920e11e798e202c758ecb6bd9", func := "weephole/weepholelaw26.MachMore", spec := "machMore", unfollowed := true, recurses := true, named := ["weephole/flat.shapes", "weephole/mach.kinds"], apart := false, laid := [("weephole/flat.shapes", laid_weephole_flat_shapes), ("weephole/mach.kinds", laid_weephole_mach_kinds)] }
def MachMoreSaid : Prop := machMoreRow.holds Tryd.pinned (OpenSpec.ofChange machMoreSpec)

/-- ITS FALSE NEIGHBOUR: 'it returns false'. Refute it at one input. -/
def machMoreWrong : ChangeSpec := { name := "machMore", fn := fun _ => fun
  | [d1, d2, d3, d4] => { results := [.lit (.bool false)], args := [d1, d2, d3, d4] }
  | _ => none }
def MachMoreWrongFalsely : Prop := machMoreRow.holds Tryd.pinned (OpenSpec.ofChange machMoreWrong)

/-- 'weepholelaw26.MachInputs': WHATEVER THE INPUT: true; the input reads as it did. -/
def machInputsSpec : ChangeSpec := { name := "machInputs", fn := fun _ => fun
  | [d1, d2, d3] => { results := [.lit (.bool true)], args := [d1, d2, d3] }
  | _ => none }
def machInputsRow : OpenClaim := { program := "ythmdioldnnhidaadoor", sum := "11be980351fdc0802ffee41bcd99553cecf5d19920e11e798e202c758ecb6bd9", func := "weephole/weepholelaw26.MachInputs", spec := "machInputs", unfollowed := true, recurses := true, named := ["weephole/flat.shapes", "weephole/mach.kinds"], apart := false, laid := [("weephole/flat.shapes", laid_weephole_flat_shapes), ("weephole/mach.kinds", laid_weephole_mach_kinds)] }
def MachInputsSaid : Prop := machInputsRow.holds Tryd.pinned (OpenSpec.ofChange machInputsSpec)

/-- ITS FALSE NEIGHBOUR: 'it returns false'. Refute it at one input. -/
def machInputsWrong : ChangeSpec := { name := "machInputs", fn := fun _ => fun
  | [d1, d2, d3] => { results := [.lit (.bool false)], args := [d1, d2, d3] }
  | _ => none }
def MachInputsWrongFalsely : Prop := machInputsRow.holds Tryd.pinned (OpenSpec.ofChange machInputsWrong)

/-- 'weepholelaw26.MachSmall': WHATEVER THE INPUT: true; the input reads as it did. -/
def machSmallSpec : ChangeSpec := { name := "machSmall", fn := fun _ => fun
  | [d1, d2] => { results := [.lit (.bool true)], args := [d1, d2] }
  | _ => none }
def machSmallRow : OpenClaim := { program := "ythmdioldnnhidaadoor", sum := "11be980351fdc0802ffee41bcd99553cecf5d19920e11e798e202c758ecb6bd9", func := "weephole/weepholelaw26.MachSmall", spec := "machSmall", unfollowed := true, recurses := true, named := ["weephole/flat.shapes", "weephole/mach.kinds"], apart := false, laid := [("weephole/flat.shapes", laid_weephole_flat_shapes), ("weephole/mach.kinds", laid_weephole_mach_kinds)] }
def MachSmallSaid : Prop := machSmallRow.holds Tryd.pinned (OpenSpec.ofChange machSmallSpec)

/-- ITS FALSE NEIGHBOUR: 'it returns false'. Refute it at one input. -/
def machSmallWrong : ChangeSpec := { name := "machSmall", fn := fun _ => fun
  | [d1, d2] => { results := [.lit (.bool false)], args := [d1, d2] }
  | _ => none }
def MachSmallWrongFalsely : Prop := machSmallRow.holds Tryd.pinned (OpenSpec.ofChange machSmallWrong)

/- THE SECOND FORM. 'bulk': how many values and letters a reading holds, each counted each time it is reached (what is shared counts as often as it is met; a slice's spare places count too). A statement '..UptoSaid' is the law's where the arguments, and the package variables that the reading takes, are together of bulk at most 1048576: NARROWER than '..Said'. Prove '..Said' where nothing that the law and all that it calls make is longer than what came in: it says more and counts as full. Else prove '..UptoSaid'. A law counts once. -/
mutual
def uptoBulk {H : Type} : DataW H → Nat
  | .lit (.string bytes) => bytes.length + 1
  | .lit _ => 1
  | .nil => 1
  | .ptr d => uptoBulk d + 1
  | .slice elems spare => uptoBulkAll elems + uptoBulkAll spare + 1
  | .agg parts => uptoBulkAll parts + 1
  | .iface _ d => uptoBulk d + 1
  | .map entries => uptoBulkEntries entries + 1
  | .held _ => 1
def uptoBulkAll {H : Type} : List (DataW H) → Nat
  | [] => 0
  | d :: r => uptoBulk d + uptoBulkAll r
def uptoBulkEntries {H : Type} : List (Lit × DataW H) → Nat
  | [] => 0
  | x :: r => uptoBulkEntry x + uptoBulkEntries r
def uptoBulkEntry {H : Type} : Lit × DataW H → Nat
  | (.string bytes, d) => bytes.length + uptoBulk d + 1
  | (_, d) => uptoBulk d + 1
 end
def uptoSmall : (H : Type) → List (DataW H) → Bool := fun _ ds => decide (uptoBulkAll ds ≤ 1048576)
def OpenSpec.upto (s : _root_.Go.ChangeSpec) : _root_.Go.OpenSpec := { _root_.Go.OpenSpec.ofChange s with cond := some uptoSmall }

/-- 'weepholelaw26.MachSteps', WHERE WHAT IT READS IS OF BULK AT MOST 1048576: true; the input reads as it did. -/
def machStepsUptoRow : OpenClaim := { program := "ythmdioldnnhidaadoor", sum := "11be980351fdc0802ffee41bcd99553cecf5d19920e11e798e202c758ecb6bd9", func := "weephole/weepholelaw26.MachSteps", spec := "machSteps", unfollowed := true, recurses := true, named := ["weephole/flat.shapes", "weephole/mach.kinds"], apart := false, laid := [("weephole/flat.shapes", laid_weephole_flat_shapes), ("weephole/mach.kinds", laid_weephole_mach_kinds)], narrowed := true }
def MachStepsUptoSaid : Prop := machStepsUptoRow.holds Tryd.pinned (OpenSpec.upto machStepsSpec)

/-- 'weepholelaw26.MachRuns', WHERE WHAT IT READS IS OF BULK AT MOST 1048576: true; the input reads as it did. -/
def machRunsUptoRow : OpenClaim := { program := "ythmdioldnnhidaadoor", sum := "11be980351fdc0802ffee41bcd99553cecf5d19920e11e798e202c758ecb6bd9", func := "weephole/weepholelaw26.MachRuns", spec := "machRuns", unfollowed := true, recurses := true, named := ["weephole/flat.shapes", "weephole/mach.kinds"], apart := false, laid := [("weephole/flat.shapes", laid_weephole_flat_shapes), ("weephole/mach.kinds", laid_weephole_mach_kinds)], narrowed := true }
def MachRunsUptoSaid : Prop := machRunsUptoRow.holds Tryd.pinned (OpenSpec.upto machRunsSpec)

/-- 'weepholelaw26.MachExamples', WHERE WHAT IT READS IS OF BULK AT MOST 1048576: true; the input reads as it did. -/
def machExamplesUptoRow : OpenClaim := { program := "ythmdioldnnhidaadoor", sum := "11be980351fdc0802ffee41bcd99553cecf5d19920e11e798e202c758ecb6bd9", func := "weephole/weepholelaw26.MachExamples", spec := "machExamples", unfollowed := true, recurses := true, named := ["weephole/flat.shapes", "weephole/mach.kinds"], apart := false, laid := [("weephole/flat.shapes", laid_weephole_flat_shapes), ("weephole/mach.kinds", laid_weephole_mach_kinds)], narrowed := true }
def MachExamplesUptoSaid : Prop := machExamplesUptoRow.holds Tryd.pinned (OpenSpec.upto machExamplesSpec)

/-- 'weepholelaw26.MachMore', WHERE WHAT IT READS IS OF BULK AT MOST 1048576: true; the input reads as it did. -/
def machMoreUptoRow : OpenClaim := { program := "ythmdioldnnhidaadoor", sum := "11be980351fdc0802ffee41bcd99553cecf5d19920e11e798e202c758ecb6bd9", func := "weephole/weepholelaw26.MachMore", spec := "machMore", unfollowed := true, recurses := true, named := ["weephole/flat.shapes", "weephole/mach.kinds"], apart := false, laid := [("weephole/flat.shapes", laid_weephole_flat_shapes), ("weephole/mach.kinds", laid_weephole_mach_kinds)], narrowed := true }
def MachMoreUptoSaid : Prop := machMoreUptoRow.holds Tryd.pinned (OpenSpec.upto machMoreSpec)

/-- 'weepholelaw26.MachInputs', WHERE WHAT IT READS IS OF BULK AT MOST 1048576: true; the input reads as it did. -/
def machInputsUptoRow : OpenClaim := { program := "ythmdioldnnhidaadoor", sum := "11be980351fdc0802ffee41bcd99553cecf5d19920e11e798e202c758ecb6bd9", func := "weephole/weepholelaw26.MachInputs", spec := "machInputs", unfollowed := true, recurses := true, named := ["weephole/flat.shapes", "weephole/mach.kinds"], apart := false, laid := [("weephole/flat.shapes", laid_weephole_flat_shapes), ("weephole/mach.kinds", laid_weephole_mach_kinds)], narrowed := true }
def MachInputsUptoSaid : Prop := machInputsUptoRow.holds Tryd.pinned (OpenSpec.upto machInputsSpec)

/-- 'weepholelaw26.MachSmall', WHERE WHAT IT READS IS OF BULK AT MOST 1048576: true; the input reads as it did. -/
def machSmallUptoRow : OpenClaim := { program := "ythmdioldnnhidaadoor", sum := "11be980351fdc0802ffee41bcd99553cecf5d19920e11e798e202c758ecb6bd9", func := "weephole/weepholelaw26.MachSmall", spec := "machSmall", unfollowed := true, recurses := true, named := ["weephole/flat.shapes", "weephole/mach.kinds"], apart := false, laid := [("weephole/flat.shapes", laid_weephole_flat_shapes), ("weephole/mach.kinds", laid_weephole_mach_kinds)], narrowed := true }
def MachSmallUptoSaid : Prop := machSmallUptoRow.holds Tryd.pinned (OpenSpec.upto machSmallSpec)

end Rows
end Go.Proofs.YthmdioldnnhidaaDoor
