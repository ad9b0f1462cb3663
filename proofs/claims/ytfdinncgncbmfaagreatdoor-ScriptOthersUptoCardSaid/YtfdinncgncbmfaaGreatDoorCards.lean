/-
  DERIVED. GIVEN WITH THE SEED: THE CARDS: each row of YtfdinncgncbmfaaGreatDoorRows.lean that lists a variable, with what it lists TIED to the program's text (the seventh form; the later family's looks); each row that meets fmt, with fmt's text TOLD by the authors' own Lean function (tested against real Go, not proved from fmt's source: count such statements apart). THE CARD IS WHAT COUNTS. Prove the row's statement (the work); the ties are given (YtfdinncgncbmfaaGreatDoorTie.lean); close each card by the builder's one call (the guide's Derived/Test/ToyasCard.lean, 'card_holds'). Laid BY PROGRAM, IN A SANDBOX (cutbox-door.mjs). By AI agents, Wed Nov 11 2026. No macro, syntax, notation, axiom, sorry.
-/
import Derived.Test.YtfdinncgncbmfaaGreatDoorRows
import GoSem.ClaimSeven
namespace Go.Proofs.YtfdinncgncbmfaaGreatDoor
namespace Rows

/-- THE TIED CARD OF 'weepholelaw41.ScriptPolicies'. -/
def scriptPoliciesCard : Claim7 := { stood := { row := scriptPoliciesRow, standIns := [], harness := (true, "8781736e21c8b0fa6a2b05e88dc2533068769fe915cd8d3d52a8e0fcb435a27d"), looks := true }, kinds := [], alts := [], laidByText := true, laidKinds := [.data, .data, .data, .widerDeep, .data], laidTests := true, laidLooks := .later }
def ScriptPoliciesCardSaid : Prop := Claim7.holds Tryz.pinned (.plain (OpenSpec.ofChange scriptPoliciesSpec)) scriptPoliciesCard

/-- THE TIED CARD OF 'weepholelaw41.ScriptOthers'. -/
def scriptOthersCard : Claim7 := { stood := { row := scriptOthersRow, standIns := [], harness := (true, "8781736e21c8b0fa6a2b05e88dc2533068769fe915cd8d3d52a8e0fcb435a27d"), looks := true }, kinds := [], alts := [], laidByText := true, laidKinds := [.data, .data, .data, .widerDeep, .data], laidTests := true, laidLooks := .later }
def ScriptOthersCardSaid : Prop := Claim7.holds Tryz.pinned (.plain (OpenSpec.ofChange scriptOthersSpec)) scriptOthersCard

/-- THE SECOND FORM's CARD OF 'weepholelaw41.ScriptPolicies'. -/
def scriptPoliciesUptoCard : Claim7 := { stood := { row := scriptPoliciesUptoRow, standIns := [], harness := (true, "8781736e21c8b0fa6a2b05e88dc2533068769fe915cd8d3d52a8e0fcb435a27d"), looks := true }, kinds := [], alts := [], laidByText := true, laidKinds := [.data, .data, .data, .widerDeep, .data], laidTests := true, laidLooks := .later }
def ScriptPoliciesUptoCardSaid : Prop := Claim7.holds Tryz.pinned (.plain (OpenSpec.upto scriptPoliciesSpec)) scriptPoliciesUptoCard

/-- THE SECOND FORM's CARD OF 'weepholelaw41.ScriptOthers'. -/
def scriptOthersUptoCard : Claim7 := { stood := { row := scriptOthersUptoRow, standIns := [], harness := (true, "8781736e21c8b0fa6a2b05e88dc2533068769fe915cd8d3d52a8e0fcb435a27d"), looks := true }, kinds := [], alts := [], laidByText := true, laidKinds := [.data, .data, .data, .widerDeep, .data], laidTests := true, laidLooks := .later }
def ScriptOthersUptoCardSaid : Prop := Claim7.holds Tryz.pinned (.plain (OpenSpec.upto scriptOthersSpec)) scriptOthersUptoCard
end Rows
end Go.Proofs.YtfdinncgncbmfaaGreatDoor
