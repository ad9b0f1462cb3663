/-
  No cell of these rows narrows 'for every input' (looked for: loops, veiled, ifaces, maps, wideKeys, modest, calm, conditions, laid).
  DERIVED. THE GIVEN ROWS OF THIS SEAT. 7 by the template 'for every input the law returns true; each argument reads behind the call as it read before'; 0 by the template 'total and deterministic' (their statements: YtfpebdgpedcijaaTotals.lean).
  GIVEN WITH THE SEED: the statements are not yours to turn. If you find one false, say at which input.
  Laid BY PROGRAM, IN A SANDBOX (cutbox-rows.mjs): the forced cells as the released guide's own fill.sh prints them over the translation 8bc93de7666903cb… (all of the seat's roots in one cut). By AI agents, Wed Nov 11 2026. No macro, syntax, notation, axiom, sorry.
-/
import Derived.Test.YtfpebdgpedcijaaChecked
import GoSem.Claim
import GoSem.ClaimJoined
import GoSem.ClaimMapViews
import Derived.JoinedTies
import Derived.KernelRfl
namespace Go.Proofs.Ytfpebdgpedcijaa
/- THE CELL 'sum', in the pinned program and in every row, IS THE sha256 OF THE DUMP (.gsa) THAT YtfpebdgpedcijaaProg.lean LOADS. Nothing in Lean hashes anything: it is a label: what it is worth is what the hold of that sum in a sandbox is worth. -/
noncomputable def Try.pinned : Pinned := { name := "ytfpebdgpedcijaa", sum := "8bc93de7666903cb51877a9a5c18a1260a62f3cdaadbc9f44761de066a148d17", checked := Try.checked }
namespace Rows
def none {H : Type} : Left H := { results := [], args := [] }

/-- 'weepholelaw08.OpOfs': WHATEVER THE INPUT: true; the input reads as it did. -/
def opOfsSpec : ChangeSpec := { name := "opOfs", fn := fun _ => fun
  | [d] => { results := [.lit (.bool true)], args := [d] }
  | _ => none }
def opOfsRow : OpenClaim := { program := "ytfpebdgpedcijaa", sum := "8bc93de7666903cb51877a9a5c18a1260a62f3cdaadbc9f44761de066a148d17", func := "weephole/weepholelaw08.OpOfs", spec := "opOfs", apart := false }
def OpOfsSaid : Prop := opOfsRow.holds Try.pinned (OpenSpec.ofChange opOfsSpec)

/-- ITS FALSE NEIGHBOUR: 'it returns false'. Refute it at one input. -/
def opOfsWrong : ChangeSpec := { name := "opOfs", fn := fun _ => fun
  | [d] => { results := [.lit (.bool false)], args := [d] }
  | _ => none }
def OpOfsWrongFalsely : Prop := opOfsRow.holds Try.pinned (OpenSpec.ofChange opOfsWrong)

/-- 'weepholelaw08.OpInverse': WHATEVER THE INPUT: true; the input reads as it did. -/
def opInverseSpec : ChangeSpec := { name := "opInverse", fn := fun _ => fun
  | [d1, d2] => { results := [.lit (.bool true)], args := [d1, d2] }
  | _ => none }
def opInverseRow : OpenClaim := { program := "ytfpebdgpedcijaa", sum := "8bc93de7666903cb51877a9a5c18a1260a62f3cdaadbc9f44761de066a148d17", func := "weephole/weepholelaw08.OpInverse", spec := "opInverse", apart := false }
def OpInverseSaid : Prop := opInverseRow.holds Try.pinned (OpenSpec.ofChange opInverseSpec)

/-- ITS FALSE NEIGHBOUR: 'it returns false'. Refute it at one input. -/
def opInverseWrong : ChangeSpec := { name := "opInverse", fn := fun _ => fun
  | [d1, d2] => { results := [.lit (.bool false)], args := [d1, d2] }
  | _ => none }
def OpInverseWrongFalsely : Prop := opInverseRow.holds Try.pinned (OpenSpec.ofChange opInverseWrong)

/-- 'weepholelaw08.OpLetters': WHATEVER THE INPUT: true; the input reads as it did. -/
def opLettersSpec : ChangeSpec := { name := "opLetters", fn := fun _ => fun
  | [d1, d2] => { results := [.lit (.bool true)], args := [d1, d2] }
  | _ => none }
def opLettersRow : OpenClaim := { program := "ytfpebdgpedcijaa", sum := "8bc93de7666903cb51877a9a5c18a1260a62f3cdaadbc9f44761de066a148d17", func := "weephole/weepholelaw08.OpLetters", spec := "opLetters", apart := false }
def OpLettersSaid : Prop := opLettersRow.holds Try.pinned (OpenSpec.ofChange opLettersSpec)

/-- ITS FALSE NEIGHBOUR: 'it returns false'. Refute it at one input. -/
def opLettersWrong : ChangeSpec := { name := "opLetters", fn := fun _ => fun
  | [d1, d2] => { results := [.lit (.bool false)], args := [d1, d2] }
  | _ => none }
def OpLettersWrongFalsely : Prop := opLettersRow.holds Try.pinned (OpenSpec.ofChange opLettersWrong)

/-- 'weepholelaw08.OpArities': WHATEVER THE INPUT: true; the input reads as it did. -/
def opAritiesSpec : ChangeSpec := { name := "opArities", fn := fun _ => fun
  | [d] => { results := [.lit (.bool true)], args := [d] }
  | _ => none }
def opAritiesRow : OpenClaim := { program := "ytfpebdgpedcijaa", sum := "8bc93de7666903cb51877a9a5c18a1260a62f3cdaadbc9f44761de066a148d17", func := "weephole/weepholelaw08.OpArities", spec := "opArities", apart := false }
def OpAritiesSaid : Prop := opAritiesRow.holds Try.pinned (OpenSpec.ofChange opAritiesSpec)

/-- ITS FALSE NEIGHBOUR: 'it returns false'. Refute it at one input. -/
def opAritiesWrong : ChangeSpec := { name := "opArities", fn := fun _ => fun
  | [d] => { results := [.lit (.bool false)], args := [d] }
  | _ => none }
def OpAritiesWrongFalsely : Prop := opAritiesRow.holds Try.pinned (OpenSpec.ofChange opAritiesWrong)

/-- 'weepholelaw08.OpMatches': WHATEVER THE INPUT: true; the input reads as it did. -/
def opMatchesSpec : ChangeSpec := { name := "opMatches", fn := fun _ => fun
  | [d] => { results := [.lit (.bool true)], args := [d] }
  | _ => none }
def opMatchesRow : OpenClaim := { program := "ytfpebdgpedcijaa", sum := "8bc93de7666903cb51877a9a5c18a1260a62f3cdaadbc9f44761de066a148d17", func := "weephole/weepholelaw08.OpMatches", spec := "opMatches", apart := false }
def OpMatchesSaid : Prop := opMatchesRow.holds Try.pinned (OpenSpec.ofChange opMatchesSpec)

/-- ITS FALSE NEIGHBOUR: 'it returns false'. Refute it at one input. -/
def opMatchesWrong : ChangeSpec := { name := "opMatches", fn := fun _ => fun
  | [d] => { results := [.lit (.bool false)], args := [d] }
  | _ => none }
def OpMatchesWrongFalsely : Prop := opMatchesRow.holds Try.pinned (OpenSpec.ofChange opMatchesWrong)

/-- 'weepholelaw08.OpNames': WHATEVER THE INPUT: true; the input reads as it did. -/
def opNamesSpec : ChangeSpec := { name := "opNames", fn := fun _ => fun
  | [] => { results := [.lit (.bool true)], args := [] }
  | _ => none }
def opNamesRow : OpenClaim := { program := "ytfpebdgpedcijaa", sum := "8bc93de7666903cb51877a9a5c18a1260a62f3cdaadbc9f44761de066a148d17", func := "weephole/weepholelaw08.OpNames", spec := "opNames", apart := false }
def OpNamesSaid : Prop := opNamesRow.holds Try.pinned (OpenSpec.ofChange opNamesSpec)

/-- ITS FALSE NEIGHBOUR: 'it returns false'. Refute it at one input. -/
def opNamesWrong : ChangeSpec := { name := "opNames", fn := fun _ => fun
  | [] => { results := [.lit (.bool false)], args := [] }
  | _ => none }
def OpNamesWrongFalsely : Prop := opNamesRow.holds Try.pinned (OpenSpec.ofChange opNamesWrong)

/-- 'weepholelaw08.OpCommuting': WHATEVER THE INPUT: true; the input reads as it did. -/
def opCommutingSpec : ChangeSpec := { name := "opCommuting", fn := fun _ => fun
  | [d] => { results := [.lit (.bool true)], args := [d] }
  | _ => none }
def opCommutingRow : OpenClaim := { program := "ytfpebdgpedcijaa", sum := "8bc93de7666903cb51877a9a5c18a1260a62f3cdaadbc9f44761de066a148d17", func := "weephole/weepholelaw08.OpCommuting", spec := "opCommuting", apart := false }
def OpCommutingSaid : Prop := opCommutingRow.holds Try.pinned (OpenSpec.ofChange opCommutingSpec)

/-- ITS FALSE NEIGHBOUR: 'it returns false'. Refute it at one input. -/
def opCommutingWrong : ChangeSpec := { name := "opCommuting", fn := fun _ => fun
  | [d] => { results := [.lit (.bool false)], args := [d] }
  | _ => none }
def OpCommutingWrongFalsely : Prop := opCommutingRow.holds Try.pinned (OpenSpec.ofChange opCommutingWrong)

/- THE SECOND FORM. 'bulk': how many values and letters a reading holds, each counted each time it is reached (what is shared counts as often as it is met; a slice's spare places count too). A statement '..UptoSaid' is the law's where the arguments, and the package variables that the reading takes, are together of bulk at most 1048576: NARROWER than '..Said'. Prove '..Said' where nothing that the law and all that it calls make is longer than what came in: it says more and counts as full. Else prove '..UptoSaid'. A law counts once. -/
mutual
def uptoBulk {H : Type} : DataW H → Nat
  | .lit (.string bytes) => bytes.length + 1
  | .lit _ => 1
  | .nil => 1
  | .ptr d => uptoBulk d + 1
  | .slice elems spare => uptoBulkAll elems + uptoBulkAll spare + 1
  | .agg parts => uptoBulkAll parts + 1
  | .iface _ d => uptoBulk d + 1
  | .map entries => uptoBulkEntries entries + 1
  | .held _ => 1
def uptoBulkAll {H : Type} : List (DataW H) → Nat
  | [] => 0
  | d :: r => uptoBulk d + uptoBulkAll r
def uptoBulkEntries {H : Type} : List (Lit × DataW H) → Nat
  | [] => 0
  | x :: r => uptoBulkEntry x + uptoBulkEntries r
def uptoBulkEntry {H : Type} : Lit × DataW H → Nat
  | (.string bytes, d) => bytes.length + uptoBulk d + 1
  | (_, d) => uptoBulk d + 1
 end
def uptoSmall : (H : Type) → List (DataW H) → Bool := fun _ ds => decide (uptoBulkAll ds ≤ 1048576)
def OpenSpec.upto (s : _root_.Go.ChangeSpec) : _root_.Go.OpenSpec := { _root_.Go.OpenSpec.ofChange s with cond := some uptoSmall }

/-- 'weepholelaw08.OpOfs', WHERE WHAT IT READS IS OF BULK AT MOST 1048576: true; the input reads as it did. -/
def opOfsUptoRow : OpenClaim := { program := "ytfpebdgpedcijaa", sum := "8bc93de7666903cb51877a9a5c18a1260a62f3cdaadbc9f44761de066a148d17", func := "weephole/weepholelaw08.OpOfs", spec := "opOfs", apart := false, narrowed := true }
def OpOfsUptoSaid : Prop := opOfsUptoRow.holds Try.pinned (OpenSpec.upto opOfsSpec)

/-- 'weepholelaw08.OpInverse', WHERE WHAT IT READS IS OF BULK AT MOST 1048576: true; the input reads as it did. -/
def opInverseUptoRow : OpenClaim := { program := "ytfpebdgpedcijaa", sum := "8bc93de7666903cb51877a9a5c18a1260a62f3cdaadbc9f44761de066a148d17", func := "weephole/weepholelaw08.OpInverse", spec := "opInverse", apart := false, narrowed := true }
def OpInverseUptoSaid : Prop := opInverseUptoRow.holds Try.pinned (OpenSpec.upto opInverseSpec)

/-- 'weepholelaw08.OpLetters', WHERE WHAT IT READS IS OF BULK AT MOST 1048576: true; the input reads as it did. -/
def opLettersUptoRow : OpenClaim := { program := "ytfpebdgpedcijaa", sum := "8bc93de7666903cb51877a9a5c18a1260a62f3cdaadbc9f44761de066a148d17", func := "weephole/weepholelaw08.OpLetters", spec := "opLetters", apart := false, narrowed := true }
def OpLettersUptoSaid : Prop := opLettersUptoRow.holds Try.pinned (OpenSpec.upto opLettersSpec)

/-- 'weepholelaw08.OpArities', WHERE WHAT IT READS IS OF BULK AT MOST 1048576: true; the input reads as it did. -/
def opAritiesUptoRow : OpenClaim := { program := "ytfpebdgpedcijaa", sum := "8bc93de7666903cb51877a9a5c18a1260a62f3cdaadbc9f44761de066a148d17", func := "weephole/weepholelaw08.OpArities", spec := "opArities", apart := false, narrowed := true }
def OpAritiesUptoSaid : Prop := opAritiesUptoRow.holds Try.pinned (OpenSpec.upto opAritiesSpec)

/-- 'weepholelaw08.OpMatches', WHERE WHAT IT READS IS OF BULK AT MOST 1048576: true; the input reads as it did. -/
def opMatchesUptoRow : OpenClaim := { program := "ytfpebdgpedcijaa", sum := "8bc93de7666903cb51877a9a5c18a1260a62f3cdaadbc9f44761de066a148d17", func := "weephole/weepholelaw08.OpMatches", spec := "opMatches", apart := false, narrowed := true }
def OpMatchesUptoSaid : Prop := opMatchesUptoRow.holds Try.pinned (OpenSpec.upto opMatchesSpec)

/-- 'weepholelaw08.OpNames', WHERE WHAT IT READS IS OF BULK AT MOST 1048576: true; the input reads as it did. -/
def opNamesUptoRow : OpenClaim := { program := "ytfpebdgpedcijaa", sum := "8bc93de7666903cb51877a9a5c18a1260a62f3cdaadbc9f44761de066a148d17", func := "weephole/weepholelaw08.OpNames", spec := "opNames", apart := false, narrowed := true }
def OpNamesUptoSaid : Prop := opNamesUptoRow.holds Try.pinned (OpenSpec.upto opNamesSpec)

/-- 'weepholelaw08.OpCommuting', WHERE WHAT IT READS IS OF BULK AT MOST 1048576: true; the input reads as it did. -/
def opCommutingUptoRow : OpenClaim := { program := "ytfpebdgpedcijaa", sum := "8bc93de7666903cb51877a9a5c18a1260a62f3cdaadbc9f44761de066a148d17", func := "weephole/weepholelaw08.OpCommuting", spec := "opCommuting", apart := false, narrowed := true }
def OpCommutingUptoSaid : Prop := opCommutingUptoRow.holds Try.pinned (OpenSpec.upto opCommutingSpec)

end Rows
end Go.Proofs.Ytfpebdgpedcijaa
