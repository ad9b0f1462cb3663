/- A world that holds the laid tables of the seat script. Condition: none. -/
import Derived.Test.YtbfkhnmpfffkmaaDoorLib
import Derived.Test.YtbfkhnmpfffkmaaDoorRows
import Derived.Test.YtbfkhnmpfffkmaaDoorCards
import Derived.Test.YtbfkhnmpfffkmaaDoorTie
import Derived.LaidLaws
import Derived.Stop.LaidErr
import Derived.LaidMore
import Derived.LaidHandle
import Derived.ChangeArms
import Derived.OpenShut
import Derived.ShutString
import Derived.SliceStrings
import Derived.SizedLaws
import Derived.ProofKit
import Derived.Carry
import Derived.Deep.DeepHandedRow
import Derived.Deep.DeepWitnessRowRef
set_option linter.unusedVariables false
namespace Go.Proofs.YtbfkhnmpfffkmaaDoor
open Go.ChangeShapes Go.WideShapes Go.ChangeAt Go.RowKit
abbrev laidL : List (String × DataW Unit) := [("math/bits.deBruijn32tab", Rows.laid_math_bits_deBruijn32tab), ("math/bits.deBruijn64tab", Rows.laid_math_bits_deBruijn64tab), ("internal/strconv.uint64pow10", Rows.laid_internal_strconv_uint64pow10)]
theorem ownKnobNone : ownKnob Tryd.prog.godebug = none := by kernel_rfl
noncomputable def laidWorld (os : Os) : World := World.doorLaid Tryd.prog 400 os
set_option maxRecDepth 1000000 in
theorem laid_met (os : Os) (args : Array Value) : laidMet Tryd.prog laidL ((laidWorld os).forCall (fun _ _ => 0) ⟨#[], args, []⟩).memory :=
  laidMet_of_run' 8 (by kernel_rfl) (by kernel_rfl)
set_option maxRecDepth 1000000 in
theorem laidOut_all : laidOutB Tryd.prog = true := by kernel_rfl
end Go.Proofs.YtbfkhnmpfffkmaaDoor
