/-
  NARROWER THAN 'FOR EVERY INPUT', by the rows' own cells (each row's printed sentence says how): ProgRenames: laid · ProgEquals: laid.
  DERIVED. THE GIVEN ROWS OF THIS SEAT. 2 by the template 'for every input the law returns true; each argument reads behind the call as it read before'; 0 by the template 'total and deterministic' (their statements: YteeebofjlchndaaDoorTotals.lean).
  GIVEN WITH THE SEED: the statements are not yours to turn. If you find one false, say at which input.
  Laid BY PROGRAM, IN A SANDBOX (cutbox-rows.mjs): the forced cells as the released guide's own fill.sh prints them over the translation 370d8c5e41976f98… (all of the seat's roots in one cut). By AI agents, Wed Nov 11 2026. No macro, syntax, notation, axiom, sorry.
-/
import Derived.Test.YteeebofjlchndaaDoorChecked
import GoSem.Claim
import GoSem.ClaimJoined
import GoSem.ClaimMapViews
import Derived.JoinedTies
import Derived.KernelRfl
namespace Go.Proofs.YteeebofjlchndaaDoor
/- THE CELL 'sum', in the pinned program and in every row, IS THE sha256 OF THE DUMP (.gsa) THAT YteeebofjlchndaaDoorProg.lean LOADS. Nothing in Lean hashes anything: it is a label: what it is worth is what the hold of that sum in a sandbox is worth. -/
noncomputable def Tryd.pinned : Pinned := { name := "yteeebofjlchndaadoor", sum := "370d8c5e41976f987462de89863a43b73f07afa6e791825bb6e70735c4658711", checked := Tryd.checked }
namespace Rows
def none {H : Type} : Left H := { results := [], args := [] }

/- WHAT THE LISTED PACKAGE-LEVEL VARIABLES READ AS WHEN THE CALL BEGINS. Each datum BY PROGRAM (the guide's laid-datum.mjs) off the statement by which the dump's own 'gosem.cut.vars' lays the variable. In a bare row this is a premise. The card (YteeebofjlchndaaDoorCards.lean) ties it to the program's text. -/
def laid_weephole_prog_keywords {H : Type} : DataW H := .slice [.lit (.string [119, 105, 100, 116, 104]), .lit (.string [99, 104, 97, 110]), .lit (.string [97, 114, 114, 97, 121]), .lit (.string [102, 117, 110, 99]), .lit (.string [109, 97, 105, 110]), .lit (.string [101, 110, 100]), .lit (.string [108, 111, 97, 100]), .lit (.string [115, 116, 111, 114, 101]), .lit (.string [99, 97, 108, 108]), .lit (.string [105, 110]), .lit (.string [111, 117, 116]), .lit (.string [114, 101, 108, 101, 97, 115, 101]), .lit (.string [106, 117, 109, 112]), .lit (.string [105, 102]), .lit (.string [104, 97, 108, 116]), .lit (.string [114, 101, 116])] []
def laid_weephole_prog_forms {H : Type} : DataW H := .agg [.agg [.lit (.bool true), .lit (.bool false), .lit (.int .i64 1)], .agg [.lit (.bool true), .lit (.bool false), .lit (.int .i64 0)], .agg [.lit (.bool true), .lit (.bool true), .lit (.int .i64 1)], .agg [.lit (.bool false), .lit (.bool true), .lit (.int .i64 2)], .agg [.lit (.bool true), .lit (.bool true), .lit (.int .i64 (-1))], .agg [.lit (.bool true), .lit (.bool true), .lit (.int .i64 0)], .agg [.lit (.bool false), .lit (.bool true), .lit (.int .i64 1)], .agg [.lit (.bool true), .lit (.bool true), .lit (.int .i64 1)], .agg [.lit (.bool false), .lit (.bool true), .lit (.int .i64 0)], .agg [.lit (.bool false), .lit (.bool true), .lit (.int .i64 1)], .agg [.lit (.bool false), .lit (.bool true), .lit (.int .i64 0)], .agg [.lit (.bool false), .lit (.bool false), .lit (.int .i64 0)], .agg [.lit (.bool false), .lit (.bool false), .lit (.int .i64 1)]]

/-- 'weepholelaw22.ProgRenames': WHATEVER THE INPUT: true; the input reads as it did. -/
def progRenamesSpec : ChangeSpec := { name := "progRenames", fn := fun _ => fun
  | [d1, d2] => { results := [.lit (.bool true)], args := [d1, d2] }
  | _ => none }
def progRenamesRow : OpenClaim := { program := "yteeebofjlchndaadoor", sum := "370d8c5e41976f987462de89863a43b73f07afa6e791825bb6e70735c4658711", func := "weephole/weepholelaw22.ProgRenames", spec := "progRenames", unfollowed := true, recurses := true, named := ["weephole/prog.keywords", "weephole/prog.forms"], apart := false, laid := [("weephole/prog.keywords", laid_weephole_prog_keywords), ("weephole/prog.forms", laid_weephole_prog_forms)] }
def ProgRenamesSaid : Prop := progRenamesRow.holds Tryd.pinned (OpenSpec.ofChange progRenamesSpec)

/-- ITS FALSE NEIGHBOUR: 'it returns false'. Refute it at one input. -/
def progRenamesWrong : ChangeSpec := { name := "progRenames", fn := fun _ => fun
  | [d1, d2] => { results := [.lit (.bool false)], args := [d1, d2] }
  | _ => none }
def ProgRenamesWrongFalsely : Prop := progRenamesRow.holds Tryd.pinned (OpenSpec.ofChange progRenamesWrong)

/-- 'weepholelaw22.ProgEquals': WHATEVER THE INPUT: true; the input reads as it did. -/
def progEqualsSpec : ChangeSpec := { name := "progEquals", fn := fun _ => fun
  | [d1, d2] => { results := [.lit (.bool true)], args := [d1, d2] }
  | _ => none }
def progEqualsRow : OpenClaim := { program := "yteeebofjlchndaadoor", sum := "370d8c5e41976f987462de89863a43b73f07afa6e791825bb6e70735c4658711", func := "weephole/weepholelaw22.ProgEquals", spec := "progEquals", unfollowed := true, recurses := true, named := ["weephole/prog.keywords", "weephole/prog.forms"], apart := false, laid := [("weephole/prog.keywords", laid_weephole_prog_keywords), ("weephole/prog.forms", laid_weephole_prog_forms)] }
def ProgEqualsSaid : Prop := progEqualsRow.holds Tryd.pinned (OpenSpec.ofChange progEqualsSpec)

/-- ITS FALSE NEIGHBOUR: 'it returns false'. Refute it at one input. -/
def progEqualsWrong : ChangeSpec := { name := "progEquals", fn := fun _ => fun
  | [d1, d2] => { results := [.lit (.bool false)], args := [d1, d2] }
  | _ => none }
def ProgEqualsWrongFalsely : Prop := progEqualsRow.holds Tryd.pinned (OpenSpec.ofChange progEqualsWrong)

/- THE SECOND FORM. 'bulk': how many values and letters a reading holds, each counted each time it is reached (what is shared counts as often as it is met; a slice's spare places count too). A statement '..UptoSaid' is the law's where the arguments, and the package variables that the reading takes, are together of bulk at most 1048576: NARROWER than '..Said'. Prove '..Said' where nothing that the law and all that it calls make is longer than what came in: it says more and counts as full. Else prove '..UptoSaid'. A law counts once. -/
mutual
def uptoBulk {H : Type} : DataW H → Nat
  | .lit (.string bytes) => bytes.length + 1
  | .lit _ => 1
  | .nil => 1
  | .ptr d => uptoBulk d + 1
  | .slice elems spare => uptoBulkAll elems + uptoBulkAll spare + 1
  | .agg parts => uptoBulkAll parts + 1
  | .iface _ d => uptoBulk d + 1
  | .map entries => uptoBulkEntries entries + 1
  | .held _ => 1
def uptoBulkAll {H : Type} : List (DataW H) → Nat
  | [] => 0
  | d :: r => uptoBulk d + uptoBulkAll r
def uptoBulkEntries {H : Type} : List (Lit × DataW H) → Nat
  | [] => 0
  | x :: r => uptoBulkEntry x + uptoBulkEntries r
def uptoBulkEntry {H : Type} : Lit × DataW H → Nat
  | (.string bytes, d) => bytes.length + uptoBulk d + 1
  | (_, d) => uptoBulk d + 1
 end
def uptoSmall : (H : Type) → List (DataW H) → Bool := fun _ ds => decide (uptoBulkAll ds ≤ 1048576)
def OpenSpec.upto (s : _root_.Go.ChangeSpec) : _root_.Go.OpenSpec := { _root_.Go.OpenSpec.ofChange s with cond := some uptoSmall }

/-- 'weepholelaw22.ProgRenames', WHERE WHAT IT READS IS OF BULK AT MOST 1048576: true; the input reads as it did. -/
def progRenamesUptoRow : OpenClaim := { program := "yteeebofjlchndaadoor", sum := "370d8c5e41976f987462de89863a43b73f07afa6e791825bb6e70735c4658711", func := "weephole/weepholelaw22.ProgRenames", spec := "progRenames", unfollowed := true, recurses := true, named := ["weephole/prog.keywords", "weephole/prog.forms"], apart := false, laid := [("weephole/prog.keywords", laid_weephole_prog_keywords), ("weephole/prog.forms", laid_weephole_prog_forms)], narrowed := true }
def ProgRenamesUptoSaid : Prop := progRenamesUptoRow.holds Tryd.pinned (OpenSpec.upto progRenamesSpec)

/-- 'weepholelaw22.ProgEquals', WHERE WHAT IT READS IS OF BULK AT MOST 1048576: true; the input reads as it did. -/
def progEqualsUptoRow : OpenClaim := { program := "yteeebofjlchndaadoor", sum := "370d8c5e41976f987462de89863a43b73f07afa6e791825bb6e70735c4658711", func := "weephole/weepholelaw22.ProgEquals", spec := "progEquals", unfollowed := true, recurses := true, named := ["weephole/prog.keywords", "weephole/prog.forms"], apart := false, laid := [("weephole/prog.keywords", laid_weephole_prog_keywords), ("weephole/prog.forms", laid_weephole_prog_forms)], narrowed := true }
def ProgEqualsUptoSaid : Prop := progEqualsUptoRow.holds Tryd.pinned (OpenSpec.upto progEqualsSpec)

end Rows
end Go.Proofs.YteeebofjlchndaaDoor
