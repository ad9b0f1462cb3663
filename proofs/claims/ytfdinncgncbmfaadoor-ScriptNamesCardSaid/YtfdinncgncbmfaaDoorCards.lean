/-
  DERIVED. GIVEN WITH THE SEED: THE CARDS: each row of YtfdinncgncbmfaaDoorRows.lean that lists a variable, with what it lists TIED to the program's text (the seventh form; the later family's looks); each row that meets fmt, with fmt's text TOLD by the authors' own Lean function (tested against real Go, not proved from fmt's source: count such statements apart). THE CARD IS WHAT COUNTS. Prove the row's statement (the work); the ties are given (YtfdinncgncbmfaaDoorTie.lean); close each card by the builder's one call (the guide's Derived/Test/ToyasCard.lean, 'card_holds'). Laid BY PROGRAM, IN A SANDBOX (cutbox-door.mjs). By AI agents, Wed Nov 11 2026. No macro, syntax, notation, axiom, sorry.
-/
import Derived.Test.YtfdinncgncbmfaaDoorRows
import GoSem.ClaimSeven
namespace Go.Proofs.YtfdinncgncbmfaaDoor
namespace Rows

/-- THE TIED CARD OF 'weepholelaw41.ScriptNames'. -/
def scriptNamesCard : Claim7 := { stood := { row := scriptNamesRow, standIns := [], harness := (true, "deaf854f6828a27285ad93cace760f13525c9319f6c5a6e5566a9ee7775cc4b1"), looks := true }, kinds := [], alts := [], laidByText := true, laidKinds := [.data, .data, .data, .widerDeep, .data], laidTests := true, laidLooks := .later }
def ScriptNamesCardSaid : Prop := Claim7.holds Tryd.pinned (.plain (OpenSpec.ofChange scriptNamesSpec)) scriptNamesCard

/-- THE TIED CARD OF 'weepholelaw41.ScriptZeros'. -/
def scriptZerosCard : Claim7 := { stood := { row := scriptZerosRow, standIns := [], harness := (true, "deaf854f6828a27285ad93cace760f13525c9319f6c5a6e5566a9ee7775cc4b1"), looks := true }, kinds := [], alts := [], laidByText := true, laidKinds := [.data, .data, .data, .widerDeep, .data], laidTests := true, laidLooks := .later }
def ScriptZerosCardSaid : Prop := Claim7.holds Tryd.pinned (.plain (OpenSpec.ofChange scriptZerosSpec)) scriptZerosCard

/-- THE TIED CARD OF 'weepholelaw41.ScriptLevels'. -/
def scriptLevelsCard : Claim7 := { stood := { row := scriptLevelsRow, standIns := [], harness := (true, "deaf854f6828a27285ad93cace760f13525c9319f6c5a6e5566a9ee7775cc4b1"), looks := true }, kinds := [], alts := [], laidByText := true, laidKinds := [.data, .data, .data, .widerDeep, .data], laidTests := true, laidLooks := .later }
def ScriptLevelsCardSaid : Prop := Claim7.holds Tryd.pinned (.plain (OpenSpec.ofChange scriptLevelsSpec)) scriptLevelsCard

/-- THE SECOND FORM's CARD OF 'weepholelaw41.ScriptNames'. -/
def scriptNamesUptoCard : Claim7 := { stood := { row := scriptNamesUptoRow, standIns := [], harness := (true, "deaf854f6828a27285ad93cace760f13525c9319f6c5a6e5566a9ee7775cc4b1"), looks := true }, kinds := [], alts := [], laidByText := true, laidKinds := [.data, .data, .data, .widerDeep, .data], laidTests := true, laidLooks := .later }
def ScriptNamesUptoCardSaid : Prop := Claim7.holds Tryd.pinned (.plain (OpenSpec.upto scriptNamesSpec)) scriptNamesUptoCard

/-- THE SECOND FORM's CARD OF 'weepholelaw41.ScriptZeros'. -/
def scriptZerosUptoCard : Claim7 := { stood := { row := scriptZerosUptoRow, standIns := [], harness := (true, "deaf854f6828a27285ad93cace760f13525c9319f6c5a6e5566a9ee7775cc4b1"), looks := true }, kinds := [], alts := [], laidByText := true, laidKinds := [.data, .data, .data, .widerDeep, .data], laidTests := true, laidLooks := .later }
def ScriptZerosUptoCardSaid : Prop := Claim7.holds Tryd.pinned (.plain (OpenSpec.upto scriptZerosSpec)) scriptZerosUptoCard

/-- THE SECOND FORM's CARD OF 'weepholelaw41.ScriptLevels'. -/
def scriptLevelsUptoCard : Claim7 := { stood := { row := scriptLevelsUptoRow, standIns := [], harness := (true, "deaf854f6828a27285ad93cace760f13525c9319f6c5a6e5566a9ee7775cc4b1"), looks := true }, kinds := [], alts := [], laidByText := true, laidKinds := [.data, .data, .data, .widerDeep, .data], laidTests := true, laidLooks := .later }
def ScriptLevelsUptoCardSaid : Prop := Claim7.holds Tryd.pinned (.plain (OpenSpec.upto scriptLevelsSpec)) scriptLevelsUptoCard
end Rows
end Go.Proofs.YtfdinncgncbmfaaDoor
