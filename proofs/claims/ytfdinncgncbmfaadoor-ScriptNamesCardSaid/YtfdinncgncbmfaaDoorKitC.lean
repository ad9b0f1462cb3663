/- Contracts of the copies of the kit's lists: what comes back reads as what came in, in new memory, and nothing that was there is written. Condition: what comes in reads as the list. -/
import Derived.Test.YtfdinncgncbmfaaDoorProg
import Derived.Test.YtfdinncgncbmfaaDoorLib
set_option linter.unusedVariables false
set_option linter.unusedSimpArgs false
namespace Go.Proofs.YtfdinncgncbmfaaDoor
open Go.ChangeShapes Go.WideShapes Go.ChangeAt Go.RowKit
theorem infoStr : (Tryd.prog.info? 9).map (fun i => (i.zero, i.size, i.bytes)) = some (some (.string ⟨#[]⟩), 1, 16) := by kernel_rfl
theorem infoArr : (Tryd.prog.info? 39).map (fun i => (i.zero, i.size, i.bytes)) = some (some (.agg #[.string ⟨#[]⟩, .int .i64 0]), 2, 24) := by kernel_rfl
theorem infoArg : (Tryd.prog.info? 32).map (fun i => (i.zero, i.size, i.bytes)) = some (some (.agg #[.string ⟨#[]⟩, .int .u64 0]), 2, 24) := by kernel_rfl
/-- An instruction as a value: its operands are the slice av. -/
abbrev instrV (x : InstrD) (av : Value) : Value := .agg #[.int .u8 x.kind, .int .u8 x.op, .string x.dst, .string x.name, av, .int .i64 x.line, .int .i64 x.col]
abbrev funcV (x : FuncD) (pv cv : Value) : Value := .agg #[.string x.name, pv, cv, .int .i64 x.line, .int .i64 x.col]
abbrev progV (p : ProgD) (cv av fv mv : Value) : Value := .agg #[.int .i64 p.width, cv, av, fv, mv]
theorem infoInstr : (Tryd.prog.info? 37).map (fun i => (i.zero, i.size, i.bytes)) = some (some (.agg #[.int .u8 0, .int .u8 0, .string ⟨#[]⟩, .string ⟨#[]⟩, .slice none 0 0, .int .i64 0, .int .i64 0]), 7, 80) := by kernel_rfl
end Go.Proofs.YtfdinncgncbmfaaDoor
