/-
  DERIVED. GIVEN WITH THE SEED: THE PROGRAM's TIES (one call each: nine closed facts by the kernel) AND EACH ROW's TIE, after the 31st guide's Derived/Test/Toyas{Tie, Card}.lean. No idea stands in it: it is a product of the set-up. Laid BY PROGRAM, IN A SANDBOX (cutbox-door.mjs). By AI agents, Wed Nov 11 2026. No macro, syntax, notation, axiom, sorry.
-/
import Derived.Test.YtkjkpddajjmloaaGreatDoorRows
import Derived.LaidByTextLater
import Derived.SevenTiedAt
import Derived.LaidSub
import Derived.LaidOnce
namespace Go.Proofs.YtkjkpddajjmloaaGreatDoor
open Go
set_option maxRecDepth 100000
theorem seatTie1 : Tryz.prog.laidByTextLater [("math/bits.deBruijn32tab", Rows.laid_math_bits_deBruijn32tab), ("weephole/flat.shapes", Rows.laid_weephole_flat_shapes), ("weephole/mach.kinds", Rows.laid_weephole_mach_kinds)] [.data, .data, .funcs] true :=
  Program.laidByTextLater_by_one 34 8 41 (by kernel_rfl) (by kernel_rfl) (by kernel_rfl) (by kernel_rfl) (by kernel_rfl) (by kernel_rfl) (fun _ _ => by kernel_rfl)
theorem noOwnUnsafe : Tryz.pinned.checked.prog.headLifts.contains "ownunsafe" = false := by kernel_rfl
theorem tie : Tryz.prog.laidByTextLater [("math/bits.deBruijn32tab", Rows.laid_math_bits_deBruijn32tab), ("weephole/flat.shapes", Rows.laid_weephole_flat_shapes), ("weephole/mach.kinds", Rows.laid_weephole_mach_kinds)] [.data, .data, .funcs] true :=
  Program.laidByTextLater.sub seatTie1 ["math/bits.deBruijn32tab", "weephole/flat.shapes", "weephole/mach.kinds"] (by kernel_rfl) (by kernel_rfl)
theorem agreeLeaks_row_tie : Rows.agreeLeaksRow.laidByTextAt .later Tryz.pinned [.data, .data, .funcs] true :=
  OpenClaim.laidByTextAt_later rfl rfl tie noOwnUnsafe
theorem witnessChecks_row_tie : Rows.witnessChecksRow.laidByTextAt .later Tryz.pinned [.data, .data, .funcs] true :=
  OpenClaim.laidByTextAt_later rfl rfl tie noOwnUnsafe
theorem witnessMakes_row_tie : Rows.witnessMakesRow.laidByTextAt .later Tryz.pinned [.data, .data, .funcs] true :=
  OpenClaim.laidByTextAt_later rfl rfl tie noOwnUnsafe
theorem agreeLeaksUpto_row_tie : Rows.agreeLeaksUptoRow.laidByTextAt .later Tryz.pinned [.data, .data, .funcs] true :=
  OpenClaim.laidByTextAt_later rfl rfl tie noOwnUnsafe
theorem witnessChecksUpto_row_tie : Rows.witnessChecksUptoRow.laidByTextAt .later Tryz.pinned [.data, .data, .funcs] true :=
  OpenClaim.laidByTextAt_later rfl rfl tie noOwnUnsafe
theorem witnessMakesUpto_row_tie : Rows.witnessMakesUptoRow.laidByTextAt .later Tryz.pinned [.data, .data, .funcs] true :=
  OpenClaim.laidByTextAt_later rfl rfl tie noOwnUnsafe
end Go.Proofs.YtkjkpddajjmloaaGreatDoor
