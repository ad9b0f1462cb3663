/-
  DERIVED. GIVEN WITH THE SEED: THE CARDS: each row of YtkjkpddajjmloaaGreatDoorRows.lean that lists a variable, with what it lists TIED to the program's text (the seventh form; the later family's looks); each row that meets fmt, with fmt's text TOLD by the authors' own Lean function (tested against real Go, not proved from fmt's source: count such statements apart). THE CARD IS WHAT COUNTS. Prove the row's statement (the work); the ties are given (YtkjkpddajjmloaaGreatDoorTie.lean); close each card by the builder's one call (the guide's Derived/Test/ToyasCard.lean, 'card_holds'). Laid BY PROGRAM, IN A SANDBOX (cutbox-door.mjs). By AI agents, Wed Nov 11 2026. No macro, syntax, notation, axiom, sorry.
-/
import Derived.Test.YtkjkpddajjmloaaGreatDoorRows
import GoSem.ClaimSeven
namespace Go.Proofs.YtkjkpddajjmloaaGreatDoor
namespace Rows

/-- THE TIED CARD OF 'weepholelaw34.AgreeLeaks'. -/
def agreeLeaksCard : Claim7 := { stood := { row := agreeLeaksRow, standIns := [], harness := (true, "5b7a7ac470dc34f2c6ee0cf1caa9d61f7c7a60fd745f10453d4f9242098f3ff7"), looks := false }, kinds := [], alts := [], laidByText := true, laidKinds := [.data, .data, .funcs], laidTests := true, laidLooks := .later }
def AgreeLeaksCardSaid : Prop := Claim7.holds Tryz.pinned (.plain (OpenSpec.ofChange agreeLeaksSpec)) agreeLeaksCard

/-- THE TIED CARD OF 'weepholelaw37.WitnessChecks'. -/
def witnessChecksCard : Claim7 := { stood := { row := witnessChecksRow, standIns := [], harness := (true, "5b7a7ac470dc34f2c6ee0cf1caa9d61f7c7a60fd745f10453d4f9242098f3ff7"), looks := false }, kinds := [], alts := [], laidByText := true, laidKinds := [.data, .data, .funcs], laidTests := true, laidLooks := .later }
def WitnessChecksCardSaid : Prop := Claim7.holds Tryz.pinned (.plain (OpenSpec.ofChange witnessChecksSpec)) witnessChecksCard

/-- THE TIED CARD OF 'weepholelaw37.WitnessMakes'. -/
def witnessMakesCard : Claim7 := { stood := { row := witnessMakesRow, standIns := [], harness := (true, "5b7a7ac470dc34f2c6ee0cf1caa9d61f7c7a60fd745f10453d4f9242098f3ff7"), looks := false }, kinds := [], alts := [], laidByText := true, laidKinds := [.data, .data, .funcs], laidTests := true, laidLooks := .later }
def WitnessMakesCardSaid : Prop := Claim7.holds Tryz.pinned (.plain (OpenSpec.ofChange witnessMakesSpec)) witnessMakesCard

/-- THE SECOND FORM's CARD OF 'weepholelaw34.AgreeLeaks'. -/
def agreeLeaksUptoCard : Claim7 := { stood := { row := agreeLeaksUptoRow, standIns := [], harness := (true, "5b7a7ac470dc34f2c6ee0cf1caa9d61f7c7a60fd745f10453d4f9242098f3ff7"), looks := false }, kinds := [], alts := [], laidByText := true, laidKinds := [.data, .data, .funcs], laidTests := true, laidLooks := .later }
def AgreeLeaksUptoCardSaid : Prop := Claim7.holds Tryz.pinned (.plain (OpenSpec.upto agreeLeaksSpec)) agreeLeaksUptoCard

/-- THE SECOND FORM's CARD OF 'weepholelaw37.WitnessChecks'. -/
def witnessChecksUptoCard : Claim7 := { stood := { row := witnessChecksUptoRow, standIns := [], harness := (true, "5b7a7ac470dc34f2c6ee0cf1caa9d61f7c7a60fd745f10453d4f9242098f3ff7"), looks := false }, kinds := [], alts := [], laidByText := true, laidKinds := [.data, .data, .funcs], laidTests := true, laidLooks := .later }
def WitnessChecksUptoCardSaid : Prop := Claim7.holds Tryz.pinned (.plain (OpenSpec.upto witnessChecksSpec)) witnessChecksUptoCard

/-- THE SECOND FORM's CARD OF 'weepholelaw37.WitnessMakes'. -/
def witnessMakesUptoCard : Claim7 := { stood := { row := witnessMakesUptoRow, standIns := [], harness := (true, "5b7a7ac470dc34f2c6ee0cf1caa9d61f7c7a60fd745f10453d4f9242098f3ff7"), looks := false }, kinds := [], alts := [], laidByText := true, laidKinds := [.data, .data, .funcs], laidTests := true, laidLooks := .later }
def WitnessMakesUptoCardSaid : Prop := Claim7.holds Tryz.pinned (.plain (OpenSpec.upto witnessMakesSpec)) witnessMakesUptoCard
end Rows
end Go.Proofs.YtkjkpddajjmloaaGreatDoor
