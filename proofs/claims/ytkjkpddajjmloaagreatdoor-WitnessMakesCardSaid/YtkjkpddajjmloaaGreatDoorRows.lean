/-
  NARROWER THAN 'FOR EVERY INPUT', by the rows' own cells (each row's printed sentence says how): AgreeLeaks: laid · WitnessChecks: laid · WitnessMakes: laid.
  DERIVED. THE GIVEN ROWS OF THIS SEAT. 3 by the template 'for every input the law returns true; each argument reads behind the call as it read before'; 0 by the template 'total and deterministic' (their statements: YtkjkpddajjmloaaGreatDoorTotals.lean).
  GIVEN WITH THE SEED: the statements are not yours to turn. If you find one false, say at which input.
  Laid BY PROGRAM, IN A SANDBOX (cutbox-rows.mjs): the forced cells as the released guide's own fill.sh prints them over the translation 361b8de54ec9c851… (all of the seat's roots in one cut). By AI agents, Wed Nov 11 2026. No macro, syntax, notation, axiom, sorry.
-/
import Derived.Test.YtkjkpddajjmloaaGreatDoorChecked
import GoSem.Claim
import GoSem.ClaimJoined
import GoSem.ClaimMapViews
import Derived.JoinedTies
import Derived.KernelRfl
namespace Go.Proofs.YtkjkpddajjmloaaGreatDoor
/- THE CELL 'sum', in the pinned program and in every row, IS THE sha256 OF THE DUMP (.gsa) THAT YtkjkpddajjmloaaGreatDoorProg.lean LOADS. Nothing in Lean hashes anything: it is a label: what it is worth is what the hold of that sum in a sandbox is worth. -/
noncomputable def Tryz.pinned : Pinned := { name := "ytkjkpddajjmloaagreatdoor", sum := "361b8de54ec9c851fc85f5a53e5211e4781eac03034e252b864255a9c9dc2bed", checked := Tryz.checked }
namespace Rows
def none {H : Type} : Left H := { results := [], args := [] }

/- WHAT THE LISTED PACKAGE-LEVEL VARIABLES READ AS WHEN THE CALL BEGINS. Each datum BY PROGRAM (the guide's laid-datum.mjs) off the statement by which the dump's own 'gosem.cut.vars' lays the variable. In a bare row this is a premise. The card (YtkjkpddajjmloaaGreatDoorCards.lean) ties it to the program's text. -/
def laid_math_bits_deBruijn32tab {H : Type} : DataW H := .agg [.lit (.int .u8 0), .lit (.int .u8 1), .lit (.int .u8 28), .lit (.int .u8 2), .lit (.int .u8 29), .lit (.int .u8 14), .lit (.int .u8 24), .lit (.int .u8 3), .lit (.int .u8 30), .lit (.int .u8 22), .lit (.int .u8 20), .lit (.int .u8 15), .lit (.int .u8 25), .lit (.int .u8 17), .lit (.int .u8 4), .lit (.int .u8 8), .lit (.int .u8 31), .lit (.int .u8 27), .lit (.int .u8 13), .lit (.int .u8 23), .lit (.int .u8 21), .lit (.int .u8 19), .lit (.int .u8 16), .lit (.int .u8 7), .lit (.int .u8 26), .lit (.int .u8 12), .lit (.int .u8 18), .lit (.int .u8 6), .lit (.int .u8 11), .lit (.int .u8 5), .lit (.int .u8 10), .lit (.int .u8 9)]
def laid_weephole_flat_shapes {H : Type} : DataW H := .agg [.agg [.lit (.bool true), .lit (.bool true), .lit (.bool false), .lit (.int .i64 0)], .agg [.lit (.bool true), .lit (.bool true), .lit (.bool true), .lit (.int .i64 0)], .agg [.lit (.bool true), .lit (.bool true), .lit (.bool false), .lit (.int .i64 1)], .agg [.lit (.bool false), .lit (.bool true), .lit (.bool true), .lit (.int .i64 1)], .agg [.lit (.bool true), .lit (.bool false), .lit (.bool false), .lit (.int .i64 2)], .agg [.lit (.bool false), .lit (.bool true), .lit (.bool false), .lit (.int .i64 2)], .agg [.lit (.bool true), .lit (.bool true), .lit (.bool false), .lit (.int .i64 3)], .agg [.lit (.bool false), .lit (.bool false), .lit (.bool false), .lit (.int .i64 4)], .agg [.lit (.bool false), .lit (.bool true), .lit (.bool false), .lit (.int .i64 4)], .agg [.lit (.bool false), .lit (.bool false), .lit (.bool false), .lit (.int .i64 0)]]
def laid_weephole_mach_kinds {H : Type} : DataW H := .iface "func table" (.agg [.iface "func" (.lit (.string [40, 42, 119, 101, 101, 112, 104, 111, 108, 101, 47, 109, 97, 99, 104, 46, 77, 97, 99, 104, 105, 110, 101, 41, 46, 99, 111, 112, 121])), .iface "func" (.lit (.string [40, 42, 119, 101, 101, 112, 104, 111, 108, 101, 47, 109, 97, 99, 104, 46, 77, 97, 99, 104, 105, 110, 101, 41, 46, 97, 112, 112, 108, 121])), .iface "func" (.lit (.string [40, 42, 119, 101, 101, 112, 104, 111, 108, 101, 47, 109, 97, 99, 104, 46, 77, 97, 99, 104, 105, 110, 101, 41, 46, 108, 111, 97, 100])), .iface "func" (.lit (.string [40, 42, 119, 101, 101, 112, 104, 111, 108, 101, 47, 109, 97, 99, 104, 46, 77, 97, 99, 104, 105, 110, 101, 41, 46, 115, 116, 111, 114, 101])), .iface "func" (.lit (.string [40, 42, 119, 101, 101, 112, 104, 111, 108, 101, 47, 109, 97, 99, 104, 46, 77, 97, 99, 104, 105, 110, 101, 41, 46, 114, 101, 97, 100])), .iface "func" (.lit (.string [40, 42, 119, 101, 101, 112, 104, 111, 108, 101, 47, 109, 97, 99, 104, 46, 77, 97, 99, 104, 105, 110, 101, 41, 46, 119, 114, 105, 116, 101])), .iface "func" (.lit (.string [40, 42, 119, 101, 101, 112, 104, 111, 108, 101, 47, 109, 97, 99, 104, 46, 77, 97, 99, 104, 105, 110, 101, 41, 46, 114, 101, 108, 101, 97, 115, 101])), .iface "func" (.lit (.string [40, 42, 119, 101, 101, 112, 104, 111, 108, 101, 47, 109, 97, 99, 104, 46, 77, 97, 99, 104, 105, 110, 101, 41, 46, 106, 117, 109, 112])), .iface "func" (.lit (.string [40, 42, 119, 101, 101, 112, 104, 111, 108, 101, 47, 109, 97, 99, 104, 46, 77, 97, 99, 104, 105, 110, 101, 41, 46, 98, 114, 97, 110, 99, 104])), .iface "func" (.lit (.string [40, 42, 119, 101, 101, 112, 104, 111, 108, 101, 47, 109, 97, 99, 104, 46, 77, 97, 99, 104, 105, 110, 101, 41, 46, 104, 97, 108, 116]))])

/-- 'weepholelaw34.AgreeLeaks': WHATEVER THE INPUT: true; the input reads as it did. -/
def agreeLeaksSpec : ChangeSpec := { name := "agreeLeaks", fn := fun _ => fun
  | [d1, d2, d3, d4] => { results := [.lit (.bool true)], args := [d1, d2, d3, d4] }
  | _ => none }
def agreeLeaksRow : OpenClaim := { program := "ytkjkpddajjmloaagreatdoor", sum := "361b8de54ec9c851fc85f5a53e5211e4781eac03034e252b864255a9c9dc2bed", func := "weephole/weepholelaw34.AgreeLeaks", spec := "agreeLeaks", unfollowed := true, recurses := true, named := ["weephole/flat.shapes", "math/bits.deBruijn32tab", "weephole/mach.kinds"], apart := false, laid := [("math/bits.deBruijn32tab", laid_math_bits_deBruijn32tab), ("weephole/flat.shapes", laid_weephole_flat_shapes), ("weephole/mach.kinds", laid_weephole_mach_kinds)] }
def AgreeLeaksSaid : Prop := agreeLeaksRow.holds Tryz.pinned (OpenSpec.ofChange agreeLeaksSpec)

/-- ITS FALSE NEIGHBOUR: 'it returns false'. Refute it at one input. -/
def agreeLeaksWrong : ChangeSpec := { name := "agreeLeaks", fn := fun _ => fun
  | [d1, d2, d3, d4] => { results := [.lit (.bool false)], args := [d1, d2, d3, d4] }
  | _ => none }
def AgreeLeaksWrongFalsely : Prop := agreeLeaksRow.holds Tryz.pinned (OpenSpec.ofChange agreeLeaksWrong)

/-- 'weepholelaw37.WitnessChecks': WHATEVER THE INPUT: true; the input reads as it did. -/
def witnessChecksSpec : ChangeSpec := { name := "witnessChecks", fn := fun _ => fun
  | [d1, d2, d3] => { results := [.lit (.bool true)], args := [d1, d2, d3] }
  | _ => none }
def witnessChecksRow : OpenClaim := { program := "ytkjkpddajjmloaagreatdoor", sum := "361b8de54ec9c851fc85f5a53e5211e4781eac03034e252b864255a9c9dc2bed", func := "weephole/weepholelaw37.WitnessChecks", spec := "witnessChecks", unfollowed := true, recurses := true, named := ["weephole/flat.shapes", "math/bits.deBruijn32tab", "weephole/mach.kinds"], apart := false, laid := [("math/bits.deBruijn32tab", laid_math_bits_deBruijn32tab), ("weephole/flat.shapes", laid_weephole_flat_shapes), ("weephole/mach.kinds", laid_weephole_mach_kinds)] }
def WitnessChecksSaid : Prop := witnessChecksRow.holds Tryz.pinned (OpenSpec.ofChange witnessChecksSpec)

/-- ITS FALSE NEIGHBOUR: 'it returns false'. Refute it at one input. -/
def witnessChecksWrong : ChangeSpec := { name := "witnessChecks", fn := fun _ => fun
  | [d1, d2, d3] => { results := [.lit (.bool false)], args := [d1, d2, d3] }
  | _ => none }
def WitnessChecksWrongFalsely : Prop := witnessChecksRow.holds Tryz.pinned (OpenSpec.ofChange witnessChecksWrong)

/-- 'weepholelaw37.WitnessMakes': WHATEVER THE INPUT: true; the input reads as it did. -/
def witnessMakesSpec : ChangeSpec := { name := "witnessMakes", fn := fun _ => fun
  | [d1, d2, d3, d4, d5, d6, d7] => { results := [.lit (.bool true)], args := [d1, d2, d3, d4, d5, d6, d7] }
  | _ => none }
def witnessMakesRow : OpenClaim := { program := "ytkjkpddajjmloaagreatdoor", sum := "361b8de54ec9c851fc85f5a53e5211e4781eac03034e252b864255a9c9dc2bed", func := "weephole/weepholelaw37.WitnessMakes", spec := "witnessMakes", unfollowed := true, recurses := true, named := ["weephole/flat.shapes", "math/bits.deBruijn32tab", "weephole/mach.kinds"], apart := false, laid := [("math/bits.deBruijn32tab", laid_math_bits_deBruijn32tab), ("weephole/flat.shapes", laid_weephole_flat_shapes), ("weephole/mach.kinds", laid_weephole_mach_kinds)] }
def WitnessMakesSaid : Prop := witnessMakesRow.holds Tryz.pinned (OpenSpec.ofChange witnessMakesSpec)

/-- ITS FALSE NEIGHBOUR: 'it returns false'. Refute it at one input. -/
def witnessMakesWrong : ChangeSpec := { name := "witnessMakes", fn := fun _ => fun
  | [d1, d2, d3, d4, d5, d6, d7] => { results := [.lit (.bool false)], args := [d1, d2, d3, d4, d5, d6, d7] }
  | _ => none }
def WitnessMakesWrongFalsely : Prop := witnessMakesRow.holds Tryz.pinned (OpenSpec.ofChange witnessMakesWrong)

/- THE SECOND FORM. 'bulk': how many values and letters a reading holds, each counted each time it is reached (what is shared counts as often as it is met; a slice's spare places count too). A statement '..UptoSaid' is the law's where the arguments, and the package variables that the reading takes, are together of bulk at most 1048576: NARROWER than '..Said'. Prove '..Said' where nothing that the law and all that it calls make is longer than what came in: it says more and counts as full. Else prove '..UptoSaid'. A law counts once. -/
mutual
def uptoBulk {H : Type} : DataW H → Nat
  | .lit (.string bytes) => bytes.length + 1
  | .lit _ => 1
  | .nil => 1
  | .ptr d => uptoBulk d + 1
  | .slice elems spare => uptoBulkAll elems + uptoBulkAll spare + 1
  | .agg parts => uptoBulkAll parts + 1
  | .iface _ d => uptoBulk d + 1
  | .map entries => uptoBulkEntries entries + 1
  | .held _ => 1
def uptoBulkAll {H : Type} : List (DataW H) → Nat
  | [] => 0
  | d :: r => uptoBulk d + uptoBulkAll r
def uptoBulkEntries {H : Type} : List (Lit × DataW H) → Nat
  | [] => 0
  | x :: r => uptoBulkEntry x + uptoBulkEntries r
def uptoBulkEntry {H : Type} : Lit × DataW H → Nat
  | (.string bytes, d) => bytes.length + uptoBulk d + 1
  | (_, d) => uptoBulk d + 1
 end
def uptoSmall : (H : Type) → List (DataW H) → Bool := fun _ ds => decide (uptoBulkAll ds ≤ 1048576)
def OpenSpec.upto (s : _root_.Go.ChangeSpec) : _root_.Go.OpenSpec := { _root_.Go.OpenSpec.ofChange s with cond := some uptoSmall }

/-- 'weepholelaw34.AgreeLeaks', WHERE WHAT IT READS IS OF BULK AT MOST 1048576: true; the input reads as it did. -/
def agreeLeaksUptoRow : OpenClaim := { program := "ytkjkpddajjmloaagreatdoor", sum := "361b8de54ec9c851fc85f5a53e5211e4781eac03034e252b864255a9c9dc2bed", func := "weephole/weepholelaw34.AgreeLeaks", spec := "agreeLeaks", unfollowed := true, recurses := true, named := ["weephole/flat.shapes", "math/bits.deBruijn32tab", "weephole/mach.kinds"], apart := false, laid := [("math/bits.deBruijn32tab", laid_math_bits_deBruijn32tab), ("weephole/flat.shapes", laid_weephole_flat_shapes), ("weephole/mach.kinds", laid_weephole_mach_kinds)], narrowed := true }
def AgreeLeaksUptoSaid : Prop := agreeLeaksUptoRow.holds Tryz.pinned (OpenSpec.upto agreeLeaksSpec)

/-- 'weepholelaw37.WitnessChecks', WHERE WHAT IT READS IS OF BULK AT MOST 1048576: true; the input reads as it did. -/
def witnessChecksUptoRow : OpenClaim := { program := "ytkjkpddajjmloaagreatdoor", sum := "361b8de54ec9c851fc85f5a53e5211e4781eac03034e252b864255a9c9dc2bed", func := "weephole/weepholelaw37.WitnessChecks", spec := "witnessChecks", unfollowed := true, recurses := true, named := ["weephole/flat.shapes", "math/bits.deBruijn32tab", "weephole/mach.kinds"], apart := false, laid := [("math/bits.deBruijn32tab", laid_math_bits_deBruijn32tab), ("weephole/flat.shapes", laid_weephole_flat_shapes), ("weephole/mach.kinds", laid_weephole_mach_kinds)], narrowed := true }
def WitnessChecksUptoSaid : Prop := witnessChecksUptoRow.holds Tryz.pinned (OpenSpec.upto witnessChecksSpec)

/-- 'weepholelaw37.WitnessMakes', WHERE WHAT IT READS IS OF BULK AT MOST 1048576: true; the input reads as it did. -/
def witnessMakesUptoRow : OpenClaim := { program := "ytkjkpddajjmloaagreatdoor", sum := "361b8de54ec9c851fc85f5a53e5211e4781eac03034e252b864255a9c9dc2bed", func := "weephole/weepholelaw37.WitnessMakes", spec := "witnessMakes", unfollowed := true, recurses := true, named := ["weephole/flat.shapes", "math/bits.deBruijn32tab", "weephole/mach.kinds"], apart := false, laid := [("math/bits.deBruijn32tab", laid_math_bits_deBruijn32tab), ("weephole/flat.shapes", laid_weephole_flat_shapes), ("weephole/mach.kinds", laid_weephole_mach_kinds)], narrowed := true }
def WitnessMakesUptoSaid : Prop := witnessMakesUptoRow.holds Tryz.pinned (OpenSpec.upto witnessMakesSpec)

end Rows
end Go.Proofs.YtkjkpddajjmloaaGreatDoor
