/-
  NARROWER THAN 'FOR EVERY INPUT', by the rows' own cells (each row's printed sentence says how): FlatMakes: laid · FlatChecks: laid · FlatExamples: laid · FlatGood: laid · FlatPlain: laid · FlatCalls: laid.
  DERIVED. THE GIVEN ROWS OF THIS SEAT. 6 by the template 'for every input the law returns true; each argument reads behind the call as it read before'; 0 by the template 'total and deterministic' (their statements: YtgcfdbhpophnjaaDoorTotals.lean).
  GIVEN WITH THE SEED: the statements are not yours to turn. If you find one false, say at which input.
  Laid BY PROGRAM, IN A SANDBOX (cutbox-rows.mjs): the forced cells as the released guide's own fill.sh prints them over the translation cc83a3c4d73088c4… (all of the seat's roots in one cut). By AI agents, Wed Nov 11 2026. No macro, syntax, notation, axiom, sorry.
-/
import Derived.Test.YtgcfdbhpophnjaaDoorChecked
import GoSem.Claim
import GoSem.ClaimJoined
import GoSem.ClaimMapViews
import Derived.JoinedTies
import Derived.KernelRfl
namespace Go.Proofs.YtgcfdbhpophnjaaDoor
/- THE CELL 'sum', in the pinned program and in every row, IS THE sha256 OF THE DUMP (.gsa) THAT YtgcfdbhpophnjaaDoorProg.lean LOADS. Nothing in Lean hashes anything: it is a label: what it is worth is what the hold of that sum in a sandbox is worth. -/
noncomputable def Tryd.pinned : Pinned := { name := "ytgcfdbhpophnjaadoor", sum := "cc83a3c4d73088c4db614b5244969e8156b0da6f94b3b8530b0ee20348804d7d", checked := Tryd.checked }
namespace Rows
def none {H : Type} : Left H := { results := [], args := [] }

/- WHAT THE LISTED PACKAGE-LEVEL VARIABLES READ AS WHEN THE CALL BEGINS. Each datum BY PROGRAM (the guide's laid-datum.mjs) off the statement by which the dump's own 'gosem.cut.vars' lays the variable. In a bare row this is a premise. The card (YtgcfdbhpophnjaaDoorCards.lean) ties it to the program's text. -/
def laid_weephole_prog_keywords {H : Type} : DataW H := .slice [.lit (.string [119, 105, 100, 116, 104]), .lit (.string [99, 104, 97, 110]), .lit (.string [97, 114, 114, 97, 121]), .lit (.string [102, 117, 110, 99]), .lit (.string [109, 97, 105, 110]), .lit (.string [101, 110, 100]), .lit (.string [108, 111, 97, 100]), .lit (.string [115, 116, 111, 114, 101]), .lit (.string [99, 97, 108, 108]), .lit (.string [105, 110]), .lit (.string [111, 117, 116]), .lit (.string [114, 101, 108, 101, 97, 115, 101]), .lit (.string [106, 117, 109, 112]), .lit (.string [105, 102]), .lit (.string [104, 97, 108, 116]), .lit (.string [114, 101, 116])] []
def laid_weephole_prog_forms {H : Type} : DataW H := .agg [.agg [.lit (.bool true), .lit (.bool false), .lit (.int .i64 1)], .agg [.lit (.bool true), .lit (.bool false), .lit (.int .i64 0)], .agg [.lit (.bool true), .lit (.bool true), .lit (.int .i64 1)], .agg [.lit (.bool false), .lit (.bool true), .lit (.int .i64 2)], .agg [.lit (.bool true), .lit (.bool true), .lit (.int .i64 (-1))], .agg [.lit (.bool true), .lit (.bool true), .lit (.int .i64 0)], .agg [.lit (.bool false), .lit (.bool true), .lit (.int .i64 1)], .agg [.lit (.bool true), .lit (.bool true), .lit (.int .i64 1)], .agg [.lit (.bool false), .lit (.bool true), .lit (.int .i64 0)], .agg [.lit (.bool false), .lit (.bool true), .lit (.int .i64 1)], .agg [.lit (.bool false), .lit (.bool true), .lit (.int .i64 0)], .agg [.lit (.bool false), .lit (.bool false), .lit (.int .i64 0)], .agg [.lit (.bool false), .lit (.bool false), .lit (.int .i64 1)]]
def laid_weephole_flat_shapes {H : Type} : DataW H := .agg [.agg [.lit (.bool true), .lit (.bool true), .lit (.bool false), .lit (.int .i64 0)], .agg [.lit (.bool true), .lit (.bool true), .lit (.bool true), .lit (.int .i64 0)], .agg [.lit (.bool true), .lit (.bool true), .lit (.bool false), .lit (.int .i64 1)], .agg [.lit (.bool false), .lit (.bool true), .lit (.bool true), .lit (.int .i64 1)], .agg [.lit (.bool true), .lit (.bool false), .lit (.bool false), .lit (.int .i64 2)], .agg [.lit (.bool false), .lit (.bool true), .lit (.bool false), .lit (.int .i64 2)], .agg [.lit (.bool true), .lit (.bool true), .lit (.bool false), .lit (.int .i64 3)], .agg [.lit (.bool false), .lit (.bool false), .lit (.bool false), .lit (.int .i64 4)], .agg [.lit (.bool false), .lit (.bool true), .lit (.bool false), .lit (.int .i64 4)], .agg [.lit (.bool false), .lit (.bool false), .lit (.bool false), .lit (.int .i64 0)]]

/-- 'weepholelaw25.FlatMakes': WHATEVER THE INPUT: true; the input reads as it did. -/
def flatMakesSpec : ChangeSpec := { name := "flatMakes", fn := fun _ => fun
  | [d] => { results := [.lit (.bool true)], args := [d] }
  | _ => none }
def flatMakesRow : OpenClaim := { program := "ytgcfdbhpophnjaadoor", sum := "cc83a3c4d73088c4db614b5244969e8156b0da6f94b3b8530b0ee20348804d7d", func := "weephole/weepholelaw25.FlatMakes", spec := "flatMakes", unfollowed := true, recurses := true, named := ["weephole/prog.keywords", "weephole/prog.forms", "weephole/flat.shapes"], plainKeys := false, apart := false, laid := [("weephole/prog.keywords", laid_weephole_prog_keywords), ("weephole/prog.forms", laid_weephole_prog_forms), ("weephole/flat.shapes", laid_weephole_flat_shapes)] }
def FlatMakesSaid : Prop := flatMakesRow.holds Tryd.pinned (OpenSpec.ofChange flatMakesSpec)

/-- ITS FALSE NEIGHBOUR: 'it returns false'. Refute it at one input. -/
def flatMakesWrong : ChangeSpec := { name := "flatMakes", fn := fun _ => fun
  | [d] => { results := [.lit (.bool false)], args := [d] }
  | _ => none }
def FlatMakesWrongFalsely : Prop := flatMakesRow.holds Tryd.pinned (OpenSpec.ofChange flatMakesWrong)

/-- 'weepholelaw25.FlatChecks': WHATEVER THE INPUT: true; the input reads as it did. -/
def flatChecksSpec : ChangeSpec := { name := "flatChecks", fn := fun _ => fun
  | [d] => { results := [.lit (.bool true)], args := [d] }
  | _ => none }
def flatChecksRow : OpenClaim := { program := "ytgcfdbhpophnjaadoor", sum := "cc83a3c4d73088c4db614b5244969e8156b0da6f94b3b8530b0ee20348804d7d", func := "weephole/weepholelaw25.FlatChecks", spec := "flatChecks", unfollowed := true, recurses := true, named := ["weephole/flat.shapes", "weephole/prog.keywords", "weephole/prog.forms"], plainKeys := false, apart := false, laid := [("weephole/prog.keywords", laid_weephole_prog_keywords), ("weephole/prog.forms", laid_weephole_prog_forms), ("weephole/flat.shapes", laid_weephole_flat_shapes)] }
def FlatChecksSaid : Prop := flatChecksRow.holds Tryd.pinned (OpenSpec.ofChange flatChecksSpec)

/-- ITS FALSE NEIGHBOUR: 'it returns false'. Refute it at one input. -/
def flatChecksWrong : ChangeSpec := { name := "flatChecks", fn := fun _ => fun
  | [d] => { results := [.lit (.bool false)], args := [d] }
  | _ => none }
def FlatChecksWrongFalsely : Prop := flatChecksRow.holds Tryd.pinned (OpenSpec.ofChange flatChecksWrong)

/-- 'weepholelaw25.FlatExamples': WHATEVER THE INPUT: true; the input reads as it did. -/
def flatExamplesSpec : ChangeSpec := { name := "flatExamples", fn := fun _ => fun
  | [] => { results := [.lit (.bool true)], args := [] }
  | _ => none }
def flatExamplesRow : OpenClaim := { program := "ytgcfdbhpophnjaadoor", sum := "cc83a3c4d73088c4db614b5244969e8156b0da6f94b3b8530b0ee20348804d7d", func := "weephole/weepholelaw25.FlatExamples", spec := "flatExamples", unfollowed := true, recurses := true, named := ["weephole/flat.shapes", "weephole/prog.keywords", "weephole/prog.forms"], plainKeys := false, apart := false, laid := [("weephole/prog.keywords", laid_weephole_prog_keywords), ("weephole/prog.forms", laid_weephole_prog_forms), ("weephole/flat.shapes", laid_weephole_flat_shapes)] }
def FlatExamplesSaid : Prop := flatExamplesRow.holds Tryd.pinned (OpenSpec.ofChange flatExamplesSpec)

/-- ITS FALSE NEIGHBOUR: 'it returns false'. Refute it at one input. -/
def flatExamplesWrong : ChangeSpec := { name := "flatExamples", fn := fun _ => fun
  | [] => { results := [.lit (.bool false)], args := [] }
  | _ => none }
def FlatExamplesWrongFalsely : Prop := flatExamplesRow.holds Tryd.pinned (OpenSpec.ofChange flatExamplesWrong)

/-- 'weepholelaw25.FlatGood': WHATEVER THE INPUT: true; the input reads as it did. -/
def flatGoodSpec : ChangeSpec := { name := "flatGood", fn := fun _ => fun
  | [d] => { results := [.lit (.bool true)], args := [d] }
  | _ => none }
def flatGoodRow : OpenClaim := { program := "ytgcfdbhpophnjaadoor", sum := "cc83a3c4d73088c4db614b5244969e8156b0da6f94b3b8530b0ee20348804d7d", func := "weephole/weepholelaw25.FlatGood", spec := "flatGood", unfollowed := true, recurses := true, named := ["weephole/prog.keywords", "weephole/prog.forms", "weephole/flat.shapes"], plainKeys := false, apart := false, laid := [("weephole/prog.keywords", laid_weephole_prog_keywords), ("weephole/prog.forms", laid_weephole_prog_forms), ("weephole/flat.shapes", laid_weephole_flat_shapes)] }
def FlatGoodSaid : Prop := flatGoodRow.holds Tryd.pinned (OpenSpec.ofChange flatGoodSpec)

/-- ITS FALSE NEIGHBOUR: 'it returns false'. Refute it at one input. -/
def flatGoodWrong : ChangeSpec := { name := "flatGood", fn := fun _ => fun
  | [d] => { results := [.lit (.bool false)], args := [d] }
  | _ => none }
def FlatGoodWrongFalsely : Prop := flatGoodRow.holds Tryd.pinned (OpenSpec.ofChange flatGoodWrong)

/-- 'weepholelaw25.FlatPlain': WHATEVER THE INPUT: true; the input reads as it did. -/
def flatPlainSpec : ChangeSpec := { name := "flatPlain", fn := fun _ => fun
  | [d] => { results := [.lit (.bool true)], args := [d] }
  | _ => none }
def flatPlainRow : OpenClaim := { program := "ytgcfdbhpophnjaadoor", sum := "cc83a3c4d73088c4db614b5244969e8156b0da6f94b3b8530b0ee20348804d7d", func := "weephole/weepholelaw25.FlatPlain", spec := "flatPlain", unfollowed := true, recurses := true, named := ["weephole/prog.keywords", "weephole/prog.forms", "weephole/flat.shapes"], plainKeys := false, apart := false, laid := [("weephole/prog.keywords", laid_weephole_prog_keywords), ("weephole/prog.forms", laid_weephole_prog_forms), ("weephole/flat.shapes", laid_weephole_flat_shapes)] }
def FlatPlainSaid : Prop := flatPlainRow.holds Tryd.pinned (OpenSpec.ofChange flatPlainSpec)

/-- ITS FALSE NEIGHBOUR: 'it returns false'. Refute it at one input. -/
def flatPlainWrong : ChangeSpec := { name := "flatPlain", fn := fun _ => fun
  | [d] => { results := [.lit (.bool false)], args := [d] }
  | _ => none }
def FlatPlainWrongFalsely : Prop := flatPlainRow.holds Tryd.pinned (OpenSpec.ofChange flatPlainWrong)

/-- 'weepholelaw25.FlatCalls': WHATEVER THE INPUT: true; the input reads as it did. -/
def flatCallsSpec : ChangeSpec := { name := "flatCalls", fn := fun _ => fun
  | [d1, d2, d3] => { results := [.lit (.bool true)], args := [d1, d2, d3] }
  | _ => none }
def flatCallsRow : OpenClaim := { program := "ytgcfdbhpophnjaadoor", sum := "cc83a3c4d73088c4db614b5244969e8156b0da6f94b3b8530b0ee20348804d7d", func := "weephole/weepholelaw25.FlatCalls", spec := "flatCalls", unfollowed := true, recurses := true, named := ["weephole/prog.keywords", "weephole/prog.forms", "weephole/flat.shapes"], plainKeys := false, apart := false, laid := [("weephole/prog.keywords", laid_weephole_prog_keywords), ("weephole/prog.forms", laid_weephole_prog_forms), ("weephole/flat.shapes", laid_weephole_flat_shapes)] }
def FlatCallsSaid : Prop := flatCallsRow.holds Tryd.pinned (OpenSpec.ofChange flatCallsSpec)

/-- ITS FALSE NEIGHBOUR: 'it returns false'. Refute it at one input. -/
def flatCallsWrong : ChangeSpec := { name := "flatCalls", fn := fun _ => fun
  | [d1, d2, d3] => { results := [.lit (.bool false)], args := [d1, d2, d3] }
  | _ => none }
def FlatCallsWrongFalsely : Prop := flatCallsRow.holds Tryd.pinned (OpenSpec.ofChange flatCallsWrong)

/- THE SECOND FORM. 'bulk': how many values and letters a reading holds, each counted each time it is reached (what is shared counts as often as it is met; a slice's spare places count too). A statement '..UptoSaid' is the law's where the arguments, and the package variables that the reading takes, are together of bulk at most 1048576: NARROWER than '..Said'. Prove '..Said' where nothing that the law and all that it calls make is longer than what came in: it says more and counts as full. Else prove '..UptoSaid'. A law counts once. -/
mutual
def uptoBulk {H : Type} : DataW H → Nat
  | .lit (.string bytes) => bytes.length + 1
  | .lit _ => 1
  | .nil => 1
  | .ptr d => uptoBulk d + 1
  | .slice elems spare => uptoBulkAll elems + uptoBulkAll spare + 1
  | .agg parts => uptoBulkAll parts + 1
  | .iface _ d => uptoBulk d + 1
  | .map entries => uptoBulkEntries entries + 1
  | .held _ => 1
def uptoBulkAll {H : Type} : List (DataW H) → Nat
  | [] => 0
  | d :: r => uptoBulk d + uptoBulkAll r
def uptoBulkEntries {H : Type} : List (Lit × DataW H) → Nat
  | [] => 0
  | x :: r => uptoBulkEntry x + uptoBulkEntries r
def uptoBulkEntry {H : Type} : Lit × DataW H → Nat
  | (.string bytes, d) => bytes.length + uptoBulk d + 1
  | (_, d) => uptoBulk d + 1
 end
def uptoSmall : (H : Type) → List (DataW H) → Bool := fun _ ds => decide (uptoBulkAll ds ≤ 1048576)
def OpenSpec.upto (s : _root_.Go.ChangeSpec) : _root_.Go.OpenSpec := { _root_.Go.OpenSpec.ofChange s with cond := some uptoSmall }

/-- 'weepholelaw25.FlatMakes', WHERE WHAT IT READS IS OF BULK AT MOST 1048576: true; the input reads as it did. -/
def flatMakesUptoRow : OpenClaim := { program := "ytgcfdbhpophnjaadoor", sum := "cc83a3c4d73088c4db614b5244969e8156b0da6f94b3b8530b0ee20348804d7d", func := "weephole/weepholelaw25.FlatMakes", spec := "flatMakes", unfollowed := true, recurses := true, named := ["weephole/prog.keywords", "weephole/prog.forms", "weephole/flat.shapes"], plainKeys := false, apart := false, laid := [("weephole/prog.keywords", laid_weephole_prog_keywords), ("weephole/prog.forms", laid_weephole_prog_forms), ("weephole/flat.shapes", laid_weephole_flat_shapes)], narrowed := true }
def FlatMakesUptoSaid : Prop := flatMakesUptoRow.holds Tryd.pinned (OpenSpec.upto flatMakesSpec)

/-- 'weepholelaw25.FlatChecks', WHERE WHAT IT READS IS OF BULK AT MOST 1048576: true; the input reads as it did. -/
def flatChecksUptoRow : OpenClaim := { program := "ytgcfdbhpophnjaadoor", sum := "cc83a3c4d73088c4db614b5244969e8156b0da6f94b3b8530b0ee20348804d7d", func := "weephole/weepholelaw25.FlatChecks", spec := "flatChecks", unfollowed := true, recurses := true, named := ["weephole/flat.shapes", "weephole/prog.keywords", "weephole/prog.forms"], plainKeys := false, apart := false, laid := [("weephole/prog.keywords", laid_weephole_prog_keywords), ("weephole/prog.forms", laid_weephole_prog_forms), ("weephole/flat.shapes", laid_weephole_flat_shapes)], narrowed := true }
def FlatChecksUptoSaid : Prop := flatChecksUptoRow.holds Tryd.pinned (OpenSpec.upto flatChecksSpec)

/-- 'weepholelaw25.FlatExamples', WHERE WHAT IT READS IS OF BULK AT MOST 1048576: true; the input reads as it did. -/
def flatExamplesUptoRow : OpenClaim := { program := "ytgcfdbhpophnjaadoor", sum := "cc83a3c4d73088c4db614b5244969e8156b0da6f94b3b8530b0ee20348804d7d", func := "weephole/weepholelaw25.FlatExamples", spec := "flatExamples", unfollowed := true, recurses := true, named := ["weephole/flat.shapes", "weephole/prog.keywords", "weephole/prog.forms"], plainKeys := false, apart := false, laid := [("weephole/prog.keywords", laid_weephole_prog_keywords), ("weephole/prog.forms", laid_weephole_prog_forms), ("weephole/flat.shapes", laid_weephole_flat_shapes)], narrowed := true }
def FlatExamplesUptoSaid : Prop := flatExamplesUptoRow.holds Tryd.pinned (OpenSpec.upto flatExamplesSpec)

/-- 'weepholelaw25.FlatGood', WHERE WHAT IT READS IS OF BULK AT MOST 1048576: true; the input reads as it did. -/
def flatGoodUptoRow : OpenClaim := { program := "ytgcfdbhpophnjaadoor", sum := "cc83a3c4d73088c4db614b5244969e8156b0da6f94b3b8530b0ee20348804d7d", func := "weephole/weepholelaw25.FlatGood", spec := "flatGood", unfollowed := true, recurses := true, named := ["weephole/prog.keywords", "weephole/prog.forms", "weephole/flat.shapes"], plainKeys := false, apart := false, laid := [("weephole/prog.keywords", laid_weephole_prog_keywords), ("weephole/prog.forms", laid_weephole_prog_forms), ("weephole/flat.shapes", laid_weephole_flat_shapes)], narrowed := true }
def FlatGoodUptoSaid : Prop := flatGoodUptoRow.holds Tryd.pinned (OpenSpec.upto flatGoodSpec)

/-- 'weepholelaw25.FlatPlain', WHERE WHAT IT READS IS OF BULK AT MOST 1048576: true; the input reads as it did. -/
def flatPlainUptoRow : OpenClaim := { program := "ytgcfdbhpophnjaadoor", sum := "cc83a3c4d73088c4db614b5244969e8156b0da6f94b3b8530b0ee20348804d7d", func := "weephole/weepholelaw25.FlatPlain", spec := "flatPlain", unfollowed := true, recurses := true, named := ["weephole/prog.keywords", "weephole/prog.forms", "weephole/flat.shapes"], plainKeys := false, apart := false, laid := [("weephole/prog.keywords", laid_weephole_prog_keywords), ("weephole/prog.forms", laid_weephole_prog_forms), ("weephole/flat.shapes", laid_weephole_flat_shapes)], narrowed := true }
def FlatPlainUptoSaid : Prop := flatPlainUptoRow.holds Tryd.pinned (OpenSpec.upto flatPlainSpec)

/-- 'weepholelaw25.FlatCalls', WHERE WHAT IT READS IS OF BULK AT MOST 1048576: true; the input reads as it did. -/
def flatCallsUptoRow : OpenClaim := { program := "ytgcfdbhpophnjaadoor", sum := "cc83a3c4d73088c4db614b5244969e8156b0da6f94b3b8530b0ee20348804d7d", func := "weephole/weepholelaw25.FlatCalls", spec := "flatCalls", unfollowed := true, recurses := true, named := ["weephole/prog.keywords", "weephole/prog.forms", "weephole/flat.shapes"], plainKeys := false, apart := false, laid := [("weephole/prog.keywords", laid_weephole_prog_keywords), ("weephole/prog.forms", laid_weephole_prog_forms), ("weephole/flat.shapes", laid_weephole_flat_shapes)], narrowed := true }
def FlatCallsUptoSaid : Prop := flatCallsUptoRow.holds Tryd.pinned (OpenSpec.upto flatCallsSpec)

end Rows
end Go.Proofs.YtgcfdbhpophnjaaDoor
