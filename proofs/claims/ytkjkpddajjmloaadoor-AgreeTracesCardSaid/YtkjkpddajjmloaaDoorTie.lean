/-
  DERIVED. GIVEN WITH THE SEED: THE PROGRAM's TIES (one call each: nine closed facts by the kernel) AND EACH ROW's TIE, after the 31st guide's Derived/Test/Toyas{Tie, Card}.lean. No idea stands in it: it is a product of the set-up. Laid BY PROGRAM, IN A SANDBOX (cutbox-door.mjs). By AI agents, Wed Nov 11 2026. No macro, syntax, notation, axiom, sorry.
-/
import Derived.Test.YtkjkpddajjmloaaDoorRows
import Derived.LaidByTextLater
import Derived.SevenTiedAt
import Derived.LaidSub
import Derived.LaidOnce
namespace Go.Proofs.YtkjkpddajjmloaaDoor
open Go
set_option maxRecDepth 100000
theorem seatTie1 : Tryd.prog.laidByTextLater [("math/bits.deBruijn32tab", Rows.laid_math_bits_deBruijn32tab), ("weephole/flat.shapes", Rows.laid_weephole_flat_shapes), ("weephole/mach.kinds", Rows.laid_weephole_mach_kinds)] [.data, .data, .funcs] true :=
  Program.laidByTextLater_by_one 34 8 41 (by kernel_rfl) (by kernel_rfl) (by kernel_rfl) (by kernel_rfl) (by kernel_rfl) (by kernel_rfl) (fun _ _ => by kernel_rfl)
theorem noOwnUnsafe : Tryd.pinned.checked.prog.headLifts.contains "ownunsafe" = false := by kernel_rfl
theorem tie : Tryd.prog.laidByTextLater [("math/bits.deBruijn32tab", Rows.laid_math_bits_deBruijn32tab), ("weephole/flat.shapes", Rows.laid_weephole_flat_shapes), ("weephole/mach.kinds", Rows.laid_weephole_mach_kinds)] [.data, .data, .funcs] true :=
  Program.laidByTextLater.sub seatTie1 ["math/bits.deBruijn32tab", "weephole/flat.shapes", "weephole/mach.kinds"] (by kernel_rfl) (by kernel_rfl)
theorem agreeTraces_row_tie : Rows.agreeTracesRow.laidByTextAt .later Tryd.pinned [.data, .data, .funcs] true :=
  OpenClaim.laidByTextAt_later rfl rfl tie noOwnUnsafe
theorem agreeTurns_row_tie : Rows.agreeTurnsRow.laidByTextAt .later Tryd.pinned [.data, .data, .funcs] true :=
  OpenClaim.laidByTextAt_later rfl rfl tie noOwnUnsafe
theorem agreeOpen_row_tie : Rows.agreeOpenRow.laidByTextAt .later Tryd.pinned [.data, .data, .funcs] true :=
  OpenClaim.laidByTextAt_later rfl rfl tie noOwnUnsafe
theorem agreeWords_row_tie : Rows.agreeWordsRow.laidByTextAt .later Tryd.pinned [.data, .data, .funcs] true :=
  OpenClaim.laidByTextAt_later rfl rfl tie noOwnUnsafe
theorem agreeExamples_row_tie : Rows.agreeExamplesRow.laidByTextAt .later Tryd.pinned [.data, .data, .funcs] true :=
  OpenClaim.laidByTextAt_later rfl rfl tie noOwnUnsafe
theorem agreeModes_row_tie : Rows.agreeModesRow.laidByTextAt .later Tryd.pinned [.data, .data, .funcs] true :=
  OpenClaim.laidByTextAt_later rfl rfl tie noOwnUnsafe
theorem witnessExamples_row_tie : Rows.witnessExamplesRow.laidByTextAt .later Tryd.pinned [.data, .data, .funcs] true :=
  OpenClaim.laidByTextAt_later rfl rfl tie noOwnUnsafe
theorem witnessTrue_row_tie : Rows.witnessTrueRow.laidByTextAt .later Tryd.pinned [.data, .data, .funcs] true :=
  OpenClaim.laidByTextAt_later rfl rfl tie noOwnUnsafe
theorem witnessLong_row_tie : Rows.witnessLongRow.laidByTextAt .later Tryd.pinned [.data, .data, .funcs] true :=
  OpenClaim.laidByTextAt_later rfl rfl tie noOwnUnsafe
theorem witnessBranches_row_tie : Rows.witnessBranchesRow.laidByTextAt .later Tryd.pinned [.data, .data, .funcs] true :=
  OpenClaim.laidByTextAt_later rfl rfl tie noOwnUnsafe
theorem agreeTracesUpto_row_tie : Rows.agreeTracesUptoRow.laidByTextAt .later Tryd.pinned [.data, .data, .funcs] true :=
  OpenClaim.laidByTextAt_later rfl rfl tie noOwnUnsafe
theorem agreeTurnsUpto_row_tie : Rows.agreeTurnsUptoRow.laidByTextAt .later Tryd.pinned [.data, .data, .funcs] true :=
  OpenClaim.laidByTextAt_later rfl rfl tie noOwnUnsafe
theorem agreeOpenUpto_row_tie : Rows.agreeOpenUptoRow.laidByTextAt .later Tryd.pinned [.data, .data, .funcs] true :=
  OpenClaim.laidByTextAt_later rfl rfl tie noOwnUnsafe
theorem agreeWordsUpto_row_tie : Rows.agreeWordsUptoRow.laidByTextAt .later Tryd.pinned [.data, .data, .funcs] true :=
  OpenClaim.laidByTextAt_later rfl rfl tie noOwnUnsafe
theorem agreeExamplesUpto_row_tie : Rows.agreeExamplesUptoRow.laidByTextAt .later Tryd.pinned [.data, .data, .funcs] true :=
  OpenClaim.laidByTextAt_later rfl rfl tie noOwnUnsafe
theorem agreeModesUpto_row_tie : Rows.agreeModesUptoRow.laidByTextAt .later Tryd.pinned [.data, .data, .funcs] true :=
  OpenClaim.laidByTextAt_later rfl rfl tie noOwnUnsafe
theorem witnessExamplesUpto_row_tie : Rows.witnessExamplesUptoRow.laidByTextAt .later Tryd.pinned [.data, .data, .funcs] true :=
  OpenClaim.laidByTextAt_later rfl rfl tie noOwnUnsafe
theorem witnessTrueUpto_row_tie : Rows.witnessTrueUptoRow.laidByTextAt .later Tryd.pinned [.data, .data, .funcs] true :=
  OpenClaim.laidByTextAt_later rfl rfl tie noOwnUnsafe
theorem witnessLongUpto_row_tie : Rows.witnessLongUptoRow.laidByTextAt .later Tryd.pinned [.data, .data, .funcs] true :=
  OpenClaim.laidByTextAt_later rfl rfl tie noOwnUnsafe
theorem witnessBranchesUpto_row_tie : Rows.witnessBranchesUptoRow.laidByTextAt .later Tryd.pinned [.data, .data, .funcs] true :=
  OpenClaim.laidByTextAt_later rfl rfl tie noOwnUnsafe
end Go.Proofs.YtkjkpddajjmloaaDoor
