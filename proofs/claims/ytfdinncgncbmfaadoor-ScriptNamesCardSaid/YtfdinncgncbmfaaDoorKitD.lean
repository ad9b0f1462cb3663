/- Contracts of the copies of functions and programs: what comes back reads as what came in, in new memory, and nothing that was there is written. Condition: what comes in reads as the function, the program. -/
import Derived.Test.YtfdinncgncbmfaaDoorKitC
import Derived.Test.YtfdinncgncbmfaaDoorReg
set_option linter.unusedVariables false
set_option linter.unusedSimpArgs false
namespace Go.Proofs.YtfdinncgncbmfaaDoor
open Go.ChangeShapes Go.WideShapes Go.ChangeAt Go.RowKit
theorem infoFunc : (Tryd.prog.info? 41).map (fun i => (i.zero, i.size, i.bytes)) = some (some (.agg #[.string ⟨#[]⟩, .slice none 0 0, .slice none 0 0, .int .i64 0, .int .i64 0]), 5, 80) := by kernel_rfl
end Go.Proofs.YtfdinncgncbmfaaDoor
