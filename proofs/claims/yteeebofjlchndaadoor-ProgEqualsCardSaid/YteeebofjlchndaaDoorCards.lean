/-
  DERIVED. GIVEN WITH THE SEED: THE CARDS: each row of YteeebofjlchndaaDoorRows.lean that lists a variable, with what it lists TIED to the program's text (the seventh form; the later family's looks); each row that meets fmt, with fmt's text TOLD by the authors' own Lean function (tested against real Go, not proved from fmt's source: count such statements apart). THE CARD IS WHAT COUNTS. Prove the row's statement (the work); the ties are given (YteeebofjlchndaaDoorTie.lean); close each card by the builder's one call (the guide's Derived/Test/ToyasCard.lean, 'card_holds'). Laid BY PROGRAM, IN A SANDBOX (cutbox-door.mjs). By AI agents, Wed Nov 11 2026. No macro, syntax, notation, axiom, sorry.
-/
import Derived.Test.YteeebofjlchndaaDoorRows
import GoSem.ClaimSeven
namespace Go.Proofs.YteeebofjlchndaaDoor
namespace Rows

/-- THE TIED CARD OF 'weepholelaw22.ProgRenames'. -/
def progRenamesCard : Claim7 := { stood := { row := progRenamesRow, standIns := [], harness := (true, "6e442932ffedb395c07b2d7274a5ec4e9f2d8f9f53e101fa3364c5f1b2a57395"), looks := true }, kinds := [], alts := [], laidByText := true, laidKinds := [.widerDeep, .data], laidTests := true, laidLooks := .later }
def ProgRenamesCardSaid : Prop := Claim7.holds Tryd.pinned (.plain (OpenSpec.ofChange progRenamesSpec)) progRenamesCard

/-- THE TIED CARD OF 'weepholelaw22.ProgEquals'. -/
def progEqualsCard : Claim7 := { stood := { row := progEqualsRow, standIns := [], harness := (true, "6e442932ffedb395c07b2d7274a5ec4e9f2d8f9f53e101fa3364c5f1b2a57395"), looks := true }, kinds := [], alts := [], laidByText := true, laidKinds := [.widerDeep, .data], laidTests := true, laidLooks := .later }
def ProgEqualsCardSaid : Prop := Claim7.holds Tryd.pinned (.plain (OpenSpec.ofChange progEqualsSpec)) progEqualsCard

/-- THE SECOND FORM's CARD OF 'weepholelaw22.ProgRenames'. -/
def progRenamesUptoCard : Claim7 := { stood := { row := progRenamesUptoRow, standIns := [], harness := (true, "6e442932ffedb395c07b2d7274a5ec4e9f2d8f9f53e101fa3364c5f1b2a57395"), looks := true }, kinds := [], alts := [], laidByText := true, laidKinds := [.widerDeep, .data], laidTests := true, laidLooks := .later }
def ProgRenamesUptoCardSaid : Prop := Claim7.holds Tryd.pinned (.plain (OpenSpec.upto progRenamesSpec)) progRenamesUptoCard

/-- THE SECOND FORM's CARD OF 'weepholelaw22.ProgEquals'. -/
def progEqualsUptoCard : Claim7 := { stood := { row := progEqualsUptoRow, standIns := [], harness := (true, "6e442932ffedb395c07b2d7274a5ec4e9f2d8f9f53e101fa3364c5f1b2a57395"), looks := true }, kinds := [], alts := [], laidByText := true, laidKinds := [.widerDeep, .data], laidTests := true, laidLooks := .later }
def ProgEqualsUptoCardSaid : Prop := Claim7.holds Tryd.pinned (.plain (OpenSpec.upto progEqualsSpec)) progEqualsUptoCard
end Rows
end Go.Proofs.YteeebofjlchndaaDoor
