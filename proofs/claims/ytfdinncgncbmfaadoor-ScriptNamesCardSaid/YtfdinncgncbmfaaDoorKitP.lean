/- Contract of the copy of a program: what comes back reads as what came in, in new memory, and nothing that was there is written. Condition: what comes in reads as the program. -/
import Derived.Test.YtfdinncgncbmfaaDoorKitD
set_option linter.unusedVariables false
set_option linter.unusedSimpArgs false
namespace Go.Proofs.YtfdinncgncbmfaaDoor
open Go.ChangeShapes Go.WideShapes Go.ChangeAt Go.RowKit
end Go.Proofs.YtfdinncgncbmfaaDoor
