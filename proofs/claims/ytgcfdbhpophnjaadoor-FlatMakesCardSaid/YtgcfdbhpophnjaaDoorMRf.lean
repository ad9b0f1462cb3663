/- Contracts of flat.reference, instr and Check: called in whatever memory in which the table of shapes reads as the program's text lays it, they return what the plain functions refOk, codeOk and flatE say, and write nothing that was there. Condition: what comes in reads as a flat program. -/
import Derived.Test.YtgcfdbhpophnjaaDoorMLd
import Derived.Deep.DeepCutAuto
import Derived.Test.YtgcfdbhpophnjaaDoorMixK
set_option linter.all false
set_option maxRecDepth 1000000
set_option maxHeartbeats 12800000
namespace Go.Proofs.YtgcfdbhpophnjaaDoor
open Go.ChangeShapes Go.WideShapes Go.ChangeAt Go.RowKit
end Go.Proofs.YtgcfdbhpophnjaaDoor
