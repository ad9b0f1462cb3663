/- A world that holds the two tables, for the witnesses of the rows that list them. -/
import Derived.Test.YteeebofjlchndaaDoorOpn
import Derived.Test.YteeebofjlchndaaDoorCards
import Derived.Test.YteeebofjlchndaaDoorTie
import Derived.ProofKit
import Derived.OpenShut
import Derived.Carry
import Derived.Deep.DeepHandedRow
import Derived.Deep.DeepWitnessRowRef
set_option linter.unusedVariables false
set_option linter.unusedSimpArgs false
namespace Go.Proofs.YteeebofjlchndaaDoor
open Go.ChangeShapes Go.WideShapes Go.ChangeAt Go.RowKit
theorem ownKnobNone : ownKnob Tryd.prog.godebug = none := by kernel_rfl
def kwTab : Array Value := (kwL.map Value.string).toArray
def foTab : Array Value := (formL.flatMap fun x => [.bool x.1, .bool x.2.1, .int .i64 x.2.2]).toArray
noncomputable def laidWorld (os : Os) : World :=
  let N := (World.settled Tryd.prog os).heap.size
  let w0 := World.holding Tryd.prog os ⟨#[.cells kwTab 9], #[], []⟩
  let put (h : Array Obj) (g : Nat) (cs : Array Value) : Array Obj := h.modify g fun
    | .cells _ t frozen => .cells cs t frozen
    | o => o
  { w0 with heap := put (put w0.heap 0 #[.slice (some ⟨N, 0, none⟩) 16 16]) 1 foTab }
set_option maxRecDepth 1000000 in
theorem laid_met (os : Os) (args : Array Value) : laidMet Tryd.prog laidL ((laidWorld os).forCall (fun _ _ => 0) ⟨#[], args, []⟩).memory :=
  laidMet_of_run' 8 (by kernel_rfl) (by kernel_rfl)
set_option maxRecDepth 1000000 in
theorem laidOut_all : laidOutB Tryd.prog = true := by kernel_rfl
end Go.Proofs.YteeebofjlchndaaDoor
