/-
  NARROWER THAN 'FOR EVERY INPUT', by the rows' own cells (each row's printed sentence says how): AgreeTraces: laid · AgreeTurns: laid · AgreeOpen: laid · AgreeWords: laid · AgreeExamples: laid · AgreeModes: laid · WitnessExamples: laid · WitnessTrue: laid · WitnessLong: laid · WitnessBranches: laid.
  DERIVED. THE GIVEN ROWS OF THIS SEAT. 10 by the template 'for every input the law returns true; each argument reads behind the call as it read before'; 0 by the template 'total and deterministic' (their statements: YtkjkpddajjmloaaDoorTotals.lean).
  GIVEN WITH THE SEED: the statements are not yours to turn. If you find one false, say at which input.
  Laid BY PROGRAM, IN A SANDBOX (cutbox-rows.mjs): the forced cells as the released guide's own fill.sh prints them over the translation be0a3f7f71ae86a0… (all of the seat's roots in one cut). By AI agents, Wed Nov 11 2026. No macro, syntax, notation, axiom, sorry.
-/
import Derived.Test.YtkjkpddajjmloaaDoorChecked
import GoSem.Claim
import GoSem.ClaimJoined
import GoSem.ClaimMapViews
import Derived.JoinedTies
import Derived.KernelRfl
namespace Go.Proofs.YtkjkpddajjmloaaDoor
/- THE CELL 'sum', in the pinned program and in every row, IS THE sha256 OF THE DUMP (.gsa) THAT YtkjkpddajjmloaaDoorProg.lean LOADS. Nothing in Lean hashes anything: it is a label: what it is worth is what the hold of that sum in a sandbox is worth. -/
noncomputable def Tryd.pinned : Pinned := { name := "ytkjkpddajjmloaadoor", sum := "be0a3f7f71ae86a0151573a1a17e4bbe16fe9749164c2bcc91a9709107b52fac", checked := Tryd.checked }
namespace Rows
def none {H : Type} : Left H := { results := [], args := [] }

/- WHAT THE LISTED PACKAGE-LEVEL VARIABLES READ AS WHEN THE CALL BEGINS. Each datum BY PROGRAM (the guide's laid-datum.mjs) off the statement by which the dump's own 'gosem.cut.vars' lays the variable. In a bare row this is a premise. The card (YtkjkpddajjmloaaDoorCards.lean) ties it to the program's text. -/
def laid_math_bits_deBruijn32tab {H : Type} : DataW H := .agg [.lit (.int .u8 0), .lit (.int .u8 1), .lit (.int .u8 28), .lit (.int .u8 2), .lit (.int .u8 29), .lit (.int .u8 14), .lit (.int .u8 24), .lit (.int .u8 3), .lit (.int .u8 30), .lit (.int .u8 22), .lit (.int .u8 20), .lit (.int .u8 15), .lit (.int .u8 25), .lit (.int .u8 17), .lit (.int .u8 4), .lit (.int .u8 8), .lit (.int .u8 31), .lit (.int .u8 27), .lit (.int .u8 13), .lit (.int .u8 23), .lit (.int .u8 21), .lit (.int .u8 19), .lit (.int .u8 16), .lit (.int .u8 7), .lit (.int .u8 26), .lit (.int .u8 12), .lit (.int .u8 18), .lit (.int .u8 6), .lit (.int .u8 11), .lit (.int .u8 5), .lit (.int .u8 10), .lit (.int .u8 9)]
def laid_weephole_flat_shapes {H : Type} : DataW H := .agg [.agg [.lit (.bool true), .lit (.bool true), .lit (.bool false), .lit (.int .i64 0)], .agg [.lit (.bool true), .lit (.bool true), .lit (.bool true), .lit (.int .i64 0)], .agg [.lit (.bool true), .lit (.bool true), .lit (.bool false), .lit (.int .i64 1)], .agg [.lit (.bool false), .lit (.bool true), .lit (.bool true), .lit (.int .i64 1)], .agg [.lit (.bool true), .lit (.bool false), .lit (.bool false), .lit (.int .i64 2)], .agg [.lit (.bool false), .lit (.bool true), .lit (.bool false), .lit (.int .i64 2)], .agg [.lit (.bool true), .lit (.bool true), .lit (.bool false), .lit (.int .i64 3)], .agg [.lit (.bool false), .lit (.bool false), .lit (.bool false), .lit (.int .i64 4)], .agg [.lit (.bool false), .lit (.bool true), .lit (.bool false), .lit (.int .i64 4)], .agg [.lit (.bool false), .lit (.bool false), .lit (.bool false), .lit (.int .i64 0)]]
def laid_weephole_mach_kinds {H : Type} : DataW H := .iface "func table" (.agg [.iface "func" (.lit (.string [40, 42, 119, 101, 101, 112, 104, 111, 108, 101, 47, 109, 97, 99, 104, 46, 77, 97, 99, 104, 105, 110, 101, 41, 46, 99, 111, 112, 121])), .iface "func" (.lit (.string [40, 42, 119, 101, 101, 112, 104, 111, 108, 101, 47, 109, 97, 99, 104, 46, 77, 97, 99, 104, 105, 110, 101, 41, 46, 97, 112, 112, 108, 121])), .iface "func" (.lit (.string [40, 42, 119, 101, 101, 112, 104, 111, 108, 101, 47, 109, 97, 99, 104, 46, 77, 97, 99, 104, 105, 110, 101, 41, 46, 108, 111, 97, 100])), .iface "func" (.lit (.string [40, 42, 119, 101, 101, 112, 104, 111, 108, 101, 47, 109, 97, 99, 104, 46, 77, 97, 99, 104, 105, 110, 101, 41, 46, 115, 116, 111, 114, 101])), .iface "func" (.lit (.string [40, 42, 119, 101, 101, 112, 104, 111, 108, 101, 47, 109, 97, 99, 104, 46, 77, 97, 99, 104, 105, 110, 101, 41, 46, 114, 101, 97, 100])), .iface "func" (.lit (.string [40, 42, 119, 101, 101, 112, 104, 111, 108, 101, 47, 109, 97, 99, 104, 46, 77, 97, 99, 104, 105, 110, 101, 41, 46, 119, 114, 105, 116, 101])), .iface "func" (.lit (.string [40, 42, 119, 101, 101, 112, 104, 111, 108, 101, 47, 109, 97, 99, 104, 46, 77, 97, 99, 104, 105, 110, 101, 41, 46, 114, 101, 108, 101, 97, 115, 101])), .iface "func" (.lit (.string [40, 42, 119, 101, 101, 112, 104, 111, 108, 101, 47, 109, 97, 99, 104, 46, 77, 97, 99, 104, 105, 110, 101, 41, 46, 106, 117, 109, 112])), .iface "func" (.lit (.string [40, 42, 119, 101, 101, 112, 104, 111, 108, 101, 47, 109, 97, 99, 104, 46, 77, 97, 99, 104, 105, 110, 101, 41, 46, 98, 114, 97, 110, 99, 104])), .iface "func" (.lit (.string [40, 42, 119, 101, 101, 112, 104, 111, 108, 101, 47, 109, 97, 99, 104, 46, 77, 97, 99, 104, 105, 110, 101, 41, 46, 104, 97, 108, 116]))])

/-- 'weepholelaw34.AgreeTraces': WHATEVER THE INPUT: true; the input reads as it did. -/
def agreeTracesSpec : ChangeSpec := { name := "agreeTraces", fn := fun _ => fun
  | [d1, d2, d3, d4, d5, d6, d7] => { results := [.lit (.bool true)], args := [d1, d2, d3, d4, d5, d6, d7] }
  | _ => none }
def agreeTracesRow : OpenClaim := { program := "ytkjkpddajjmloaadoor", sum := "be0a3f7f71ae86a0151573a1a17e4bbe16fe9749164c2bcc91a9709107b52fac", func := "weephole/weepholelaw34.AgreeTraces", spec := "agreeTraces", unfollowed := true, recurses := true, named := ["math/bits.deBruijn32tab", "weephole/flat.shapes", "weephole/mach.kinds"], apart := false, laid := [("math/bits.deBruijn32tab", laid_math_bits_deBruijn32tab), ("weephole/flat.shapes", laid_weephole_flat_shapes), ("weephole/mach.kinds", laid_weephole_mach_kinds)] }
def AgreeTracesSaid : Prop := agreeTracesRow.holds Tryd.pinned (OpenSpec.ofChange agreeTracesSpec)

/-- ITS FALSE NEIGHBOUR: 'it returns false'. Refute it at one input. -/
def agreeTracesWrong : ChangeSpec := { name := "agreeTraces", fn := fun _ => fun
  | [d1, d2, d3, d4, d5, d6, d7] => { results := [.lit (.bool false)], args := [d1, d2, d3, d4, d5, d6, d7] }
  | _ => none }
def AgreeTracesWrongFalsely : Prop := agreeTracesRow.holds Tryd.pinned (OpenSpec.ofChange agreeTracesWrong)

/-- 'weepholelaw34.AgreeTurns': WHATEVER THE INPUT: true; the input reads as it did. -/
def agreeTurnsSpec : ChangeSpec := { name := "agreeTurns", fn := fun _ => fun
  | [d1, d2, d3, d4, d5] => { results := [.lit (.bool true)], args := [d1, d2, d3, d4, d5] }
  | _ => none }
def agreeTurnsRow : OpenClaim := { program := "ytkjkpddajjmloaadoor", sum := "be0a3f7f71ae86a0151573a1a17e4bbe16fe9749164c2bcc91a9709107b52fac", func := "weephole/weepholelaw34.AgreeTurns", spec := "agreeTurns", unfollowed := true, recurses := true, named := ["weephole/flat.shapes", "math/bits.deBruijn32tab", "weephole/mach.kinds"], apart := false, laid := [("math/bits.deBruijn32tab", laid_math_bits_deBruijn32tab), ("weephole/flat.shapes", laid_weephole_flat_shapes), ("weephole/mach.kinds", laid_weephole_mach_kinds)] }
def AgreeTurnsSaid : Prop := agreeTurnsRow.holds Tryd.pinned (OpenSpec.ofChange agreeTurnsSpec)

/-- ITS FALSE NEIGHBOUR: 'it returns false'. Refute it at one input. -/
def agreeTurnsWrong : ChangeSpec := { name := "agreeTurns", fn := fun _ => fun
  | [d1, d2, d3, d4, d5] => { results := [.lit (.bool false)], args := [d1, d2, d3, d4, d5] }
  | _ => none }
def AgreeTurnsWrongFalsely : Prop := agreeTurnsRow.holds Tryd.pinned (OpenSpec.ofChange agreeTurnsWrong)

/-- 'weepholelaw34.AgreeOpen': WHATEVER THE INPUT: true; the input reads as it did. -/
def agreeOpenSpec : ChangeSpec := { name := "agreeOpen", fn := fun _ => fun
  | [d1, d2, d3, d4, d5] => { results := [.lit (.bool true)], args := [d1, d2, d3, d4, d5] }
  | _ => none }
def agreeOpenRow : OpenClaim := { program := "ytkjkpddajjmloaadoor", sum := "be0a3f7f71ae86a0151573a1a17e4bbe16fe9749164c2bcc91a9709107b52fac", func := "weephole/weepholelaw34.AgreeOpen", spec := "agreeOpen", unfollowed := true, recurses := true, named := ["weephole/flat.shapes", "math/bits.deBruijn32tab", "weephole/mach.kinds"], apart := false, laid := [("math/bits.deBruijn32tab", laid_math_bits_deBruijn32tab), ("weephole/flat.shapes", laid_weephole_flat_shapes), ("weephole/mach.kinds", laid_weephole_mach_kinds)] }
def AgreeOpenSaid : Prop := agreeOpenRow.holds Tryd.pinned (OpenSpec.ofChange agreeOpenSpec)

/-- ITS FALSE NEIGHBOUR: 'it returns false'. Refute it at one input. -/
def agreeOpenWrong : ChangeSpec := { name := "agreeOpen", fn := fun _ => fun
  | [d1, d2, d3, d4, d5] => { results := [.lit (.bool false)], args := [d1, d2, d3, d4, d5] }
  | _ => none }
def AgreeOpenWrongFalsely : Prop := agreeOpenRow.holds Tryd.pinned (OpenSpec.ofChange agreeOpenWrong)

/-- 'weepholelaw34.AgreeWords': WHATEVER THE INPUT: true; the input reads as it did. -/
def agreeWordsSpec : ChangeSpec := { name := "agreeWords", fn := fun _ => fun
  | [d1, d2, d3, d4, d5, d6, d7] => { results := [.lit (.bool true)], args := [d1, d2, d3, d4, d5, d6, d7] }
  | _ => none }
def agreeWordsRow : OpenClaim := { program := "ytkjkpddajjmloaadoor", sum := "be0a3f7f71ae86a0151573a1a17e4bbe16fe9749164c2bcc91a9709107b52fac", func := "weephole/weepholelaw34.AgreeWords", spec := "agreeWords", unfollowed := true, recurses := true, named := ["weephole/flat.shapes", "math/bits.deBruijn32tab", "weephole/mach.kinds"], apart := false, laid := [("math/bits.deBruijn32tab", laid_math_bits_deBruijn32tab), ("weephole/flat.shapes", laid_weephole_flat_shapes), ("weephole/mach.kinds", laid_weephole_mach_kinds)] }
def AgreeWordsSaid : Prop := agreeWordsRow.holds Tryd.pinned (OpenSpec.ofChange agreeWordsSpec)

/-- ITS FALSE NEIGHBOUR: 'it returns false'. Refute it at one input. -/
def agreeWordsWrong : ChangeSpec := { name := "agreeWords", fn := fun _ => fun
  | [d1, d2, d3, d4, d5, d6, d7] => { results := [.lit (.bool false)], args := [d1, d2, d3, d4, d5, d6, d7] }
  | _ => none }
def AgreeWordsWrongFalsely : Prop := agreeWordsRow.holds Tryd.pinned (OpenSpec.ofChange agreeWordsWrong)

/-- 'weepholelaw34.AgreeExamples': WHATEVER THE INPUT: true; the input reads as it did. -/
def agreeExamplesSpec : ChangeSpec := { name := "agreeExamples", fn := fun _ => fun
  | [] => { results := [.lit (.bool true)], args := [] }
  | _ => none }
def agreeExamplesRow : OpenClaim := { program := "ytkjkpddajjmloaadoor", sum := "be0a3f7f71ae86a0151573a1a17e4bbe16fe9749164c2bcc91a9709107b52fac", func := "weephole/weepholelaw34.AgreeExamples", spec := "agreeExamples", unfollowed := true, recurses := true, named := ["weephole/flat.shapes", "math/bits.deBruijn32tab", "weephole/mach.kinds"], apart := false, laid := [("math/bits.deBruijn32tab", laid_math_bits_deBruijn32tab), ("weephole/flat.shapes", laid_weephole_flat_shapes), ("weephole/mach.kinds", laid_weephole_mach_kinds)] }
def AgreeExamplesSaid : Prop := agreeExamplesRow.holds Tryd.pinned (OpenSpec.ofChange agreeExamplesSpec)

/-- ITS FALSE NEIGHBOUR: 'it returns false'. Refute it at one input. -/
def agreeExamplesWrong : ChangeSpec := { name := "agreeExamples", fn := fun _ => fun
  | [] => { results := [.lit (.bool false)], args := [] }
  | _ => none }
def AgreeExamplesWrongFalsely : Prop := agreeExamplesRow.holds Tryd.pinned (OpenSpec.ofChange agreeExamplesWrong)

/-- 'weepholelaw34.AgreeModes': WHATEVER THE INPUT: true; the input reads as it did. -/
def agreeModesSpec : ChangeSpec := { name := "agreeModes", fn := fun _ => fun
  | [d1, d2, d3, d4, d5] => { results := [.lit (.bool true)], args := [d1, d2, d3, d4, d5] }
  | _ => none }
def agreeModesRow : OpenClaim := { program := "ytkjkpddajjmloaadoor", sum := "be0a3f7f71ae86a0151573a1a17e4bbe16fe9749164c2bcc91a9709107b52fac", func := "weephole/weepholelaw34.AgreeModes", spec := "agreeModes", unfollowed := true, recurses := true, named := ["weephole/flat.shapes", "math/bits.deBruijn32tab", "weephole/mach.kinds"], apart := false, laid := [("math/bits.deBruijn32tab", laid_math_bits_deBruijn32tab), ("weephole/flat.shapes", laid_weephole_flat_shapes), ("weephole/mach.kinds", laid_weephole_mach_kinds)] }
def AgreeModesSaid : Prop := agreeModesRow.holds Tryd.pinned (OpenSpec.ofChange agreeModesSpec)

/-- ITS FALSE NEIGHBOUR: 'it returns false'. Refute it at one input. -/
def agreeModesWrong : ChangeSpec := { name := "agreeModes", fn := fun _ => fun
  | [d1, d2, d3, d4, d5] => { results := [.lit (.bool false)], args := [d1, d2, d3, d4, d5] }
  | _ => none }
def AgreeModesWrongFalsely : Prop := agreeModesRow.holds Tryd.pinned (OpenSpec.ofChange agreeModesWrong)

/-- 'weepholelaw37.WitnessExamples': WHATEVER THE INPUT: true; the input reads as it did. -/
def witnessExamplesSpec : ChangeSpec := { name := "witnessExamples", fn := fun _ => fun
  | [] => { results := [.lit (.bool true)], args := [] }
  | _ => none }
def witnessExamplesRow : OpenClaim := { program := "ytkjkpddajjmloaadoor", sum := "be0a3f7f71ae86a0151573a1a17e4bbe16fe9749164c2bcc91a9709107b52fac", func := "weephole/weepholelaw37.WitnessExamples", spec := "witnessExamples", unfollowed := true, recurses := true, named := ["weephole/flat.shapes", "math/bits.deBruijn32tab", "weephole/mach.kinds"], apart := false, laid := [("math/bits.deBruijn32tab", laid_math_bits_deBruijn32tab), ("weephole/flat.shapes", laid_weephole_flat_shapes), ("weephole/mach.kinds", laid_weephole_mach_kinds)] }
def WitnessExamplesSaid : Prop := witnessExamplesRow.holds Tryd.pinned (OpenSpec.ofChange witnessExamplesSpec)

/-- ITS FALSE NEIGHBOUR: 'it returns false'. Refute it at one input. -/
def witnessExamplesWrong : ChangeSpec := { name := "witnessExamples", fn := fun _ => fun
  | [] => { results := [.lit (.bool false)], args := [] }
  | _ => none }
def WitnessExamplesWrongFalsely : Prop := witnessExamplesRow.holds Tryd.pinned (OpenSpec.ofChange witnessExamplesWrong)

/-- 'weepholelaw37.WitnessTrue': WHATEVER THE INPUT: true; the input reads as it did. -/
def witnessTrueSpec : ChangeSpec := { name := "witnessTrue", fn := fun _ => fun
  | [d1, d2, d3, d4, d5] => { results := [.lit (.bool true)], args := [d1, d2, d3, d4, d5] }
  | _ => none }
def witnessTrueRow : OpenClaim := { program := "ytkjkpddajjmloaadoor", sum := "be0a3f7f71ae86a0151573a1a17e4bbe16fe9749164c2bcc91a9709107b52fac", func := "weephole/weepholelaw37.WitnessTrue", spec := "witnessTrue", unfollowed := true, recurses := true, named := ["weephole/flat.shapes", "math/bits.deBruijn32tab", "weephole/mach.kinds"], apart := false, laid := [("math/bits.deBruijn32tab", laid_math_bits_deBruijn32tab), ("weephole/flat.shapes", laid_weephole_flat_shapes), ("weephole/mach.kinds", laid_weephole_mach_kinds)] }
def WitnessTrueSaid : Prop := witnessTrueRow.holds Tryd.pinned (OpenSpec.ofChange witnessTrueSpec)

/-- ITS FALSE NEIGHBOUR: 'it returns false'. Refute it at one input. -/
def witnessTrueWrong : ChangeSpec := { name := "witnessTrue", fn := fun _ => fun
  | [d1, d2, d3, d4, d5] => { results := [.lit (.bool false)], args := [d1, d2, d3, d4, d5] }
  | _ => none }
def WitnessTrueWrongFalsely : Prop := witnessTrueRow.holds Tryd.pinned (OpenSpec.ofChange witnessTrueWrong)

/-- 'weepholelaw37.WitnessLong': WHATEVER THE INPUT: true; the input reads as it did. -/
def witnessLongSpec : ChangeSpec := { name := "witnessLong", fn := fun _ => fun
  | [d1, d2, d3, d4, d5, d6, d7] => { results := [.lit (.bool true)], args := [d1, d2, d3, d4, d5, d6, d7] }
  | _ => none }
def witnessLongRow : OpenClaim := { program := "ytkjkpddajjmloaadoor", sum := "be0a3f7f71ae86a0151573a1a17e4bbe16fe9749164c2bcc91a9709107b52fac", func := "weephole/weepholelaw37.WitnessLong", spec := "witnessLong", unfollowed := true, recurses := true, named := ["weephole/flat.shapes", "math/bits.deBruijn32tab", "weephole/mach.kinds"], apart := false, laid := [("math/bits.deBruijn32tab", laid_math_bits_deBruijn32tab), ("weephole/flat.shapes", laid_weephole_flat_shapes), ("weephole/mach.kinds", laid_weephole_mach_kinds)] }
def WitnessLongSaid : Prop := witnessLongRow.holds Tryd.pinned (OpenSpec.ofChange witnessLongSpec)

/-- ITS FALSE NEIGHBOUR: 'it returns false'. Refute it at one input. -/
def witnessLongWrong : ChangeSpec := { name := "witnessLong", fn := fun _ => fun
  | [d1, d2, d3, d4, d5, d6, d7] => { results := [.lit (.bool false)], args := [d1, d2, d3, d4, d5, d6, d7] }
  | _ => none }
def WitnessLongWrongFalsely : Prop := witnessLongRow.holds Tryd.pinned (OpenSpec.ofChange witnessLongWrong)

/-- 'weepholelaw37.WitnessBranches': WHATEVER THE INPUT: true; the input reads as it did. -/
def witnessBranchesSpec : ChangeSpec := { name := "witnessBranches", fn := fun _ => fun
  | [d1, d2, d3, d4, d5] => { results := [.lit (.bool true)], args := [d1, d2, d3, d4, d5] }
  | _ => none }
def witnessBranchesRow : OpenClaim := { program := "ytkjkpddajjmloaadoor", sum := "be0a3f7f71ae86a0151573a1a17e4bbe16fe9749164c2bcc91a9709107b52fac", func := "weephole/weepholelaw37.WitnessBranches", spec := "witnessBranches", unfollowed := true, recurses := true, named := ["weephole/flat.shapes", "math/bits.deBruijn32tab", "weephole/mach.kinds"], apart := false, laid := [("math/bits.deBruijn32tab", laid_math_bits_deBruijn32tab), ("weephole/flat.shapes", laid_weephole_flat_shapes), ("weephole/mach.kinds", laid_weephole_mach_kinds)] }
def WitnessBranchesSaid : Prop := witnessBranchesRow.holds Tryd.pinned (OpenSpec.ofChange witnessBranchesSpec)

/-- ITS FALSE NEIGHBOUR: 'it returns false'. Refute it at one input. -/
def witnessBranchesWrong : ChangeSpec := { name := "witnessBranches", fn := fun _ => fun
  | [d1, d2, d3, d4, d5] => { results := [.lit (.bool false)], args := [d1, d2, d3, d4, d5] }
  | _ => none }
def WitnessBranchesWrongFalsely : Prop := witnessBranchesRow.holds Tryd.pinned (OpenSpec.ofChange witnessBranchesWrong)

/- THE SECOND FORM. 'bulk': how many values and letters a reading holds, each counted each time it is reached (what is shared counts as often as it is met; a slice's spare places count too). A statement '..UptoSaid' is the law's where the arguments, and the package variables that the reading takes, are together of bulk at most 1048576: NARROWER than '..Said'. Prove '..Said' where nothing that the law and all that it calls make is longer than what came in: it says more and counts as full. Else prove '..UptoSaid'. A law counts once. -/
mutual
def uptoBulk {H : Type} : DataW H → Nat
  | .lit (.string bytes) => bytes.length + 1
  | .lit _ => 1
  | .nil => 1
  | .ptr d => uptoBulk d + 1
  | .slice elems spare => uptoBulkAll elems + uptoBulkAll spare + 1
  | .agg parts => uptoBulkAll parts + 1
  | .iface _ d => uptoBulk d + 1
  | .map entries => uptoBulkEntries entries + 1
  | .held _ => 1
def uptoBulkAll {H : Type} : List (DataW H) → Nat
  | [] => 0
  | d :: r => uptoBulk d + uptoBulkAll r
def uptoBulkEntries {H : Type} : List (Lit × DataW H) → Nat
  | [] => 0
  | x :: r => uptoBulkEntry x + uptoBulkEntries r
def uptoBulkEntry {H : Type} : Lit × DataW H → Nat
  | (.string bytes, d) => bytes.length + uptoBulk d + 1
  | (_, d) => uptoBulk d + 1
 end
def uptoSmall : (H : Type) → List (DataW H) → Bool := fun _ ds => decide (uptoBulkAll ds ≤ 1048576)
def OpenSpec.upto (s : _root_.Go.ChangeSpec) : _root_.Go.OpenSpec := { _root_.Go.OpenSpec.ofChange s with cond := some uptoSmall }

/-- 'weepholelaw34.AgreeTraces', WHERE WHAT IT READS IS OF BULK AT MOST 1048576: true; the input reads as it did. -/
def agreeTracesUptoRow : OpenClaim := { program := "ytkjkpddajjmloaadoor", sum := "be0a3f7f71ae86a0151573a1a17e4bbe16fe9749164c2bcc91a9709107b52fac", func := "weephole/weepholelaw34.AgreeTraces", spec := "agreeTraces", unfollowed := true, recurses := true, named := ["math/bits.deBruijn32tab", "weephole/flat.shapes", "weephole/mach.kinds"], apart := false, laid := [("math/bits.deBruijn32tab", laid_math_bits_deBruijn32tab), ("weephole/flat.shapes", laid_weephole_flat_shapes), ("weephole/mach.kinds", laid_weephole_mach_kinds)], narrowed := true }
def AgreeTracesUptoSaid : Prop := agreeTracesUptoRow.holds Tryd.pinned (OpenSpec.upto agreeTracesSpec)

/-- 'weepholelaw34.AgreeTurns', WHERE WHAT IT READS IS OF BULK AT MOST 1048576: true; the input reads as it did. -/
def agreeTurnsUptoRow : OpenClaim := { program := "ytkjkpddajjmloaadoor", sum := "be0a3f7f71ae86a0151573a1a17e4bbe16fe9749164c2bcc91a9709107b52fac", func := "weephole/weepholelaw34.AgreeTurns", spec := "agreeTurns", unfollowed := true, recurses := true, named := ["weephole/flat.shapes", "math/bits.deBruijn32tab", "weephole/mach.kinds"], apart := false, laid := [("math/bits.deBruijn32tab", laid_math_bits_deBruijn32tab), ("weephole/flat.shapes", laid_weephole_flat_shapes), ("weephole/mach.kinds", laid_weephole_mach_kinds)], narrowed := true }
def AgreeTurnsUptoSaid : Prop := agreeTurnsUptoRow.holds Tryd.pinned (OpenSpec.upto agreeTurnsSpec)

/-- 'weepholelaw34.AgreeOpen', WHERE WHAT IT READS IS OF BULK AT MOST 1048576: true; the input reads as it did. -/
def agreeOpenUptoRow : OpenClaim := { program := "ytkjkpddajjmloaadoor", sum := "be0a3f7f71ae86a0151573a1a17e4bbe16fe9749164c2bcc91a9709107b52fac", func := "weephole/weepholelaw34.AgreeOpen", spec := "agreeOpen", unfollowed := true, recurses := true, named := ["weephole/flat.shapes", "math/bits.deBruijn32tab", "weephole/mach.kinds"], apart := false, laid := [("math/bits.deBruijn32tab", laid_math_bits_deBruijn32tab), ("weephole/flat.shapes", laid_weephole_flat_shapes), ("weephole/mach.kinds", laid_weephole_mach_kinds)], narrowed := true }
def AgreeOpenUptoSaid : Prop := agreeOpenUptoRow.holds Tryd.pinned (OpenSpec.upto agreeOpenSpec)

/-- 'weepholelaw34.AgreeWords', WHERE WHAT IT READS IS OF BULK AT MOST 1048576: true; the input reads as it did. -/
def agreeWordsUptoRow : OpenClaim := { program := "ytkjkpddajjmloaadoor", sum := "be0a3f7f71ae86a0151573a1a17e4bbe16fe9749164c2bcc91a9709107b52fac", func := "weephole/weepholelaw34.AgreeWords", spec := "agreeWords", unfollowed := true, recurses := true, named := ["weephole/flat.shapes", "math/bits.deBruijn32tab", "weephole/mach.kinds"], apart := false, laid := [("math/bits.deBruijn32tab", laid_math_bits_deBruijn32tab), ("weephole/flat.shapes", laid_weephole_flat_shapes), ("weephole/mach.kinds", laid_weephole_mach_kinds)], narrowed := true }
def AgreeWordsUptoSaid : Prop := agreeWordsUptoRow.holds Tryd.pinned (OpenSpec.upto agreeWordsSpec)

/-- 'weepholelaw34.AgreeExamples', WHERE WHAT IT READS IS OF BULK AT MOST 1048576: true; the input reads as it did. -/
def agreeExamplesUptoRow : OpenClaim := { program := "ytkjkpddajjmloaadoor", sum := "be0a3f7f71ae86a0151573a1a17e4bbe16fe9749164c2bcc91a9709107b52fac", func := "weephole/weepholelaw34.AgreeExamples", spec := "agreeExamples", unfollowed := true, recurses := true, named := ["weephole/flat.shapes", "math/bits.deBruijn32tab", "weephole/mach.kinds"], apart := false, laid := [("math/bits.deBruijn32tab", laid_math_bits_deBruijn32tab), ("weephole/flat.shapes", laid_weephole_flat_shapes), ("weephole/mach.kinds", laid_weephole_mach_kinds)], narrowed := true }
def AgreeExamplesUptoSaid : Prop := agreeExamplesUptoRow.holds Tryd.pinned (OpenSpec.upto agreeExamplesSpec)

/-- 'weepholelaw34.AgreeModes', WHERE WHAT IT READS IS OF BULK AT MOST 1048576: true; the input reads as it did. -/
def agreeModesUptoRow : OpenClaim := { program := "ytkjkpddajjmloaadoor", sum := "be0a3f7f71ae86a0151573a1a17e4bbe16fe9749164c2bcc91a9709107b52fac", func := "weephole/weepholelaw34.AgreeModes", spec := "agreeModes", unfollowed := true, recurses := true, named := ["weephole/flat.shapes", "math/bits.deBruijn32tab", "weephole/mach.kinds"], apart := false, laid := [("math/bits.deBruijn32tab", laid_math_bits_deBruijn32tab), ("weephole/flat.shapes", laid_weephole_flat_shapes), ("weephole/mach.kinds", laid_weephole_mach_kinds)], narrowed := true }
def AgreeModesUptoSaid : Prop := agreeModesUptoRow.holds Tryd.pinned (OpenSpec.upto agreeModesSpec)

/-- 'weepholelaw37.WitnessExamples', WHERE WHAT IT READS IS OF BULK AT MOST 1048576: true; the input reads as it did. -/
def witnessExamplesUptoRow : OpenClaim := { program := "ytkjkpddajjmloaadoor", sum := "be0a3f7f71ae86a0151573a1a17e4bbe16fe9749164c2bcc91a9709107b52fac", func := "weephole/weepholelaw37.WitnessExamples", spec := "witnessExamples", unfollowed := true, recurses := true, named := ["weephole/flat.shapes", "math/bits.deBruijn32tab", "weephole/mach.kinds"], apart := false, laid := [("math/bits.deBruijn32tab", laid_math_bits_deBruijn32tab), ("weephole/flat.shapes", laid_weephole_flat_shapes), ("weephole/mach.kinds", laid_weephole_mach_kinds)], narrowed := true }
def WitnessExamplesUptoSaid : Prop := witnessExamplesUptoRow.holds Tryd.pinned (OpenSpec.upto witnessExamplesSpec)

/-- 'weepholelaw37.WitnessTrue', WHERE WHAT IT READS IS OF BULK AT MOST 1048576: true; the input reads as it did. -/
def witnessTrueUptoRow : OpenClaim := { program := "ytkjkpddajjmloaadoor", sum := "be0a3f7f71ae86a0151573a1a17e4bbe16fe9749164c2bcc91a9709107b52fac", func := "weephole/weepholelaw37.WitnessTrue", spec := "witnessTrue", unfollowed := true, recurses := true, named := ["weephole/flat.shapes", "math/bits.deBruijn32tab", "weephole/mach.kinds"], apart := false, laid := [("math/bits.deBruijn32tab", laid_math_bits_deBruijn32tab), ("weephole/flat.shapes", laid_weephole_flat_shapes), ("weephole/mach.kinds", laid_weephole_mach_kinds)], narrowed := true }
def WitnessTrueUptoSaid : Prop := witnessTrueUptoRow.holds Tryd.pinned (OpenSpec.upto witnessTrueSpec)

/-- 'weepholelaw37.WitnessLong', WHERE WHAT IT READS IS OF BULK AT MOST 1048576: true; the input reads as it did. -/
def witnessLongUptoRow : OpenClaim := { program := "ytkjkpddajjmloaadoor", sum := "be0a3f7f71ae86a0151573a1a17e4bbe16fe9749164c2bcc91a9709107b52fac", func := "weephole/weepholelaw37.WitnessLong", spec := "witnessLong", unfollowed := true, recurses := true, named := ["weephole/flat.shapes", "math/bits.deBruijn32tab", "weephole/mach.kinds"], apart := false, laid := [("math/bits.deBruijn32tab", laid_math_bits_deBruijn32tab), ("weephole/flat.shapes", laid_weephole_flat_shapes), ("weephole/mach.kinds", laid_weephole_mach_kinds)], narrowed := true }
def WitnessLongUptoSaid : Prop := witnessLongUptoRow.holds Tryd.pinned (OpenSpec.upto witnessLongSpec)

/-- 'weepholelaw37.WitnessBranches', WHERE WHAT IT READS IS OF BULK AT MOST 1048576: true; the input reads as it did. -/
def witnessBranchesUptoRow : OpenClaim := { program := "ytkjkpddajjmloaadoor", sum := "be0a3f7f71ae86a0151573a1a17e4bbe16fe9749164c2bcc91a9709107b52fac", func := "weephole/weepholelaw37.WitnessBranches", spec := "witnessBranches", unfollowed := true, recurses := true, named := ["weephole/flat.shapes", "math/bits.deBruijn32tab", "weephole/mach.kinds"], apart := false, laid := [("math/bits.deBruijn32tab", laid_math_bits_deBruijn32tab), ("weephole/flat.shapes", laid_weephole_flat_shapes), ("weephole/mach.kinds", laid_weephole_mach_kinds)], narrowed := true }
def WitnessBranchesUptoSaid : Prop := witnessBranchesUptoRow.holds Tryd.pinned (OpenSpec.upto witnessBranchesSpec)

end Rows
end Go.Proofs.YtkjkpddajjmloaaDoor
