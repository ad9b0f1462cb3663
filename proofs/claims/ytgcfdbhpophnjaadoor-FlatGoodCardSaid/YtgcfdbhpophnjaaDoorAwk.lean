/- Contracts of the small helpers of the statements: at, is, main. -/
import Derived.Test.YtgcfdbhpophnjaaDoorEva
import Derived.Test.YtgcfdbhpophnjaaDoorKitE
import Derived.Test.YtgcfdbhpophnjaaDoorMix
set_option linter.unusedVariables false
set_option linter.unusedSimpArgs false
namespace Go.Proofs.YtgcfdbhpophnjaaDoor
open Go.ChangeShapes Go.WideShapes Go.ChangeAt Go.RowKit
end Go.Proofs.YtgcfdbhpophnjaaDoor
