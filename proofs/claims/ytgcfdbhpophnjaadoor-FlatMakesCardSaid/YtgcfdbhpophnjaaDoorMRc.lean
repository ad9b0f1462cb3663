/- Contract of the reference's Check of flat programs: called in whatever memory it returns what the plain function flatE says, and writes nothing that was there. Condition: what comes in reads as a flat program. -/
import Derived.Test.YtgcfdbhpophnjaaDoorMRf
set_option linter.all false
set_option maxRecDepth 1000000
set_option maxHeartbeats 12800000
namespace Go.Proofs.YtgcfdbhpophnjaaDoor
open Go.ChangeShapes Go.WideShapes Go.ChangeAt Go.RowKit
end Go.Proofs.YtgcfdbhpophnjaaDoor
