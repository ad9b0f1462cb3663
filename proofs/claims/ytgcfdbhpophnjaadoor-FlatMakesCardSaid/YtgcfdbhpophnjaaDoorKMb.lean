/- Contracts of the kit's CopyFlat and of the law's Short: new flat programs. Condition: what comes in reads as the flat program. -/
import Derived.Test.YtgcfdbhpophnjaaDoorMixK
import Derived.Test.YtgcfdbhpophnjaaDoorRowE
import Derived.Deep.CutBlock
import Derived.Test.YtgcfdbhpophnjaaDoorPu2
set_option linter.all false
set_option maxRecDepth 1000000
set_option maxHeartbeats 12800000
namespace Go.Proofs.YtgcfdbhpophnjaaDoor
open Go.ChangeShapes Go.WideShapes Go.ChangeAt Go.RowKit
end Go.Proofs.YtgcfdbhpophnjaaDoor
