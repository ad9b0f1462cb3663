/-
  DERIVED. GIVEN WITH THE SEED: THE CARDS: each row of YtjdbdoeopobciaaDoorRows.lean that lists a variable, with what it lists TIED to the program's text (the seventh form; the later family's looks); each row that meets fmt, with fmt's text TOLD by the authors' own Lean function (tested against real Go, not proved from fmt's source: count such statements apart). THE CARD IS WHAT COUNTS. Prove the row's statement (the work); the ties are given (YtjdbdoeopobciaaDoorTie.lean); close each card by the builder's one call (the guide's Derived/Test/ToyasCard.lean, 'card_holds'). Laid BY PROGRAM, IN A SANDBOX (cutbox-door.mjs). By AI agents, Wed Nov 11 2026. No macro, syntax, notation, axiom, sorry.
-/
import Derived.Test.YtjdbdoeopobciaaDoorRows
import GoSem.ClaimSeven
namespace Go.Proofs.YtjdbdoeopobciaaDoor
namespace Rows

/-- THE TIED CARD OF 'weepholelaw22.ProgChecks'. -/
def progChecksCard : Claim7 := { stood := { row := progChecksRow, standIns := [], harness := (true, "9972f6fc485a71f512de285436563faddc4929779ab24687bf2a671e91a57a19"), looks := true }, kinds := [], alts := [], laidByText := true, laidKinds := [.widerDeep, .data], laidTests := true, laidLooks := .later }
def ProgChecksCardSaid : Prop := Claim7.holds Tryd.pinned (.plain (OpenSpec.ofChange progChecksSpec)) progChecksCard

/-- THE TIED CARD OF 'weepholelaw22.ProgLocals'. -/
def progLocalsCard : Claim7 := { stood := { row := progLocalsRow, standIns := [], harness := (true, "9972f6fc485a71f512de285436563faddc4929779ab24687bf2a671e91a57a19"), looks := true }, kinds := [], alts := [], laidByText := true, laidKinds := [.widerDeep, .data], laidTests := true, laidLooks := .later }
def ProgLocalsCardSaid : Prop := Claim7.holds Tryd.pinned (.plain (OpenSpec.ofChange progLocalsSpec)) progLocalsCard

/-- THE TIED CARD OF 'weepholelaw22.ProgExamples'. -/
def progExamplesCard : Claim7 := { stood := { row := progExamplesRow, standIns := [], harness := (true, "9972f6fc485a71f512de285436563faddc4929779ab24687bf2a671e91a57a19"), looks := true }, kinds := [], alts := [], laidByText := true, laidKinds := [.widerDeep, .data], laidTests := true, laidLooks := .later }
def ProgExamplesCardSaid : Prop := Claim7.holds Tryd.pinned (.plain (OpenSpec.ofChange progExamplesSpec)) progExamplesCard

/-- THE TIED CARD OF 'weepholelaw22.ProgPlaces'. -/
def progPlacesCard : Claim7 := { stood := { row := progPlacesRow, standIns := [], harness := (true, "9972f6fc485a71f512de285436563faddc4929779ab24687bf2a671e91a57a19"), looks := true }, kinds := [], alts := [], laidByText := true, laidKinds := [.widerDeep, .data], laidTests := true, laidLooks := .later }
def ProgPlacesCardSaid : Prop := Claim7.holds Tryd.pinned (.plain (OpenSpec.ofChange progPlacesSpec)) progPlacesCard

/-- THE TIED CARD OF 'weepholelaw22.ProgMore'. -/
def progMoreCard : Claim7 := { stood := { row := progMoreRow, standIns := [], harness := (true, "9972f6fc485a71f512de285436563faddc4929779ab24687bf2a671e91a57a19"), looks := true }, kinds := [], alts := [], laidByText := true, laidKinds := [.widerDeep, .data], laidTests := true, laidLooks := .later }
def ProgMoreCardSaid : Prop := Claim7.holds Tryd.pinned (.plain (OpenSpec.ofChange progMoreSpec)) progMoreCard

/-- THE TIED CARD OF 'weepholelaw22.ProgCalls'. -/
def progCallsCard : Claim7 := { stood := { row := progCallsRow, standIns := [], harness := (true, "9972f6fc485a71f512de285436563faddc4929779ab24687bf2a671e91a57a19"), looks := true }, kinds := [], alts := [], laidByText := true, laidKinds := [.widerDeep, .data], laidTests := true, laidLooks := .later }
def ProgCallsCardSaid : Prop := Claim7.holds Tryd.pinned (.plain (OpenSpec.ofChange progCallsSpec)) progCallsCard

/-- THE TIED CARD OF 'weepholelaw22.ProgRenames'. -/
def progRenamesCard : Claim7 := { stood := { row := progRenamesRow, standIns := [], harness := (true, "9972f6fc485a71f512de285436563faddc4929779ab24687bf2a671e91a57a19"), looks := true }, kinds := [], alts := [], laidByText := true, laidKinds := [.widerDeep, .data], laidTests := true, laidLooks := .later }
def ProgRenamesCardSaid : Prop := Claim7.holds Tryd.pinned (.plain (OpenSpec.ofChange progRenamesSpec)) progRenamesCard

/-- THE TIED CARD OF 'weepholelaw22.ProgEquals'. -/
def progEqualsCard : Claim7 := { stood := { row := progEqualsRow, standIns := [], harness := (true, "9972f6fc485a71f512de285436563faddc4929779ab24687bf2a671e91a57a19"), looks := true }, kinds := [], alts := [], laidByText := true, laidKinds := [.widerDeep, .data], laidTests := true, laidLooks := .later }
def ProgEqualsCardSaid : Prop := Claim7.holds Tryd.pinned (.plain (OpenSpec.ofChange progEqualsSpec)) progEqualsCard

/-- THE SECOND FORM's CARD OF 'weepholelaw22.ProgChecks'. -/
def progChecksUptoCard : Claim7 := { stood := { row := progChecksUptoRow, standIns := [], harness := (true, "9972f6fc485a71f512de285436563faddc4929779ab24687bf2a671e91a57a19"), looks := true }, kinds := [], alts := [], laidByText := true, laidKinds := [.widerDeep, .data], laidTests := true, laidLooks := .later }
def ProgChecksUptoCardSaid : Prop := Claim7.holds Tryd.pinned (.plain (OpenSpec.upto progChecksSpec)) progChecksUptoCard

/-- THE SECOND FORM's CARD OF 'weepholelaw22.ProgLocals'. -/
def progLocalsUptoCard : Claim7 := { stood := { row := progLocalsUptoRow, standIns := [], harness := (true, "9972f6fc485a71f512de285436563faddc4929779ab24687bf2a671e91a57a19"), looks := true }, kinds := [], alts := [], laidByText := true, laidKinds := [.widerDeep, .data], laidTests := true, laidLooks := .later }
def ProgLocalsUptoCardSaid : Prop := Claim7.holds Tryd.pinned (.plain (OpenSpec.upto progLocalsSpec)) progLocalsUptoCard

/-- THE SECOND FORM's CARD OF 'weepholelaw22.ProgExamples'. -/
def progExamplesUptoCard : Claim7 := { stood := { row := progExamplesUptoRow, standIns := [], harness := (true, "9972f6fc485a71f512de285436563faddc4929779ab24687bf2a671e91a57a19"), looks := true }, kinds := [], alts := [], laidByText := true, laidKinds := [.widerDeep, .data], laidTests := true, laidLooks := .later }
def ProgExamplesUptoCardSaid : Prop := Claim7.holds Tryd.pinned (.plain (OpenSpec.upto progExamplesSpec)) progExamplesUptoCard

/-- THE SECOND FORM's CARD OF 'weepholelaw22.ProgPlaces'. -/
def progPlacesUptoCard : Claim7 := { stood := { row := progPlacesUptoRow, standIns := [], harness := (true, "9972f6fc485a71f512de285436563faddc4929779ab24687bf2a671e91a57a19"), looks := true }, kinds := [], alts := [], laidByText := true, laidKinds := [.widerDeep, .data], laidTests := true, laidLooks := .later }
def ProgPlacesUptoCardSaid : Prop := Claim7.holds Tryd.pinned (.plain (OpenSpec.upto progPlacesSpec)) progPlacesUptoCard

/-- THE SECOND FORM's CARD OF 'weepholelaw22.ProgMore'. -/
def progMoreUptoCard : Claim7 := { stood := { row := progMoreUptoRow, standIns := [], harness := (true, "9972f6fc485a71f512de285436563faddc4929779ab24687bf2a671e91a57a19"), looks := true }, kinds := [], alts := [], laidByText := true, laidKinds := [.widerDeep, .data], laidTests := true, laidLooks := .later }
def ProgMoreUptoCardSaid : Prop := Claim7.holds Tryd.pinned (.plain (OpenSpec.upto progMoreSpec)) progMoreUptoCard

/-- THE SECOND FORM's CARD OF 'weepholelaw22.ProgCalls'. -/
def progCallsUptoCard : Claim7 := { stood := { row := progCallsUptoRow, standIns := [], harness := (true, "9972f6fc485a71f512de285436563faddc4929779ab24687bf2a671e91a57a19"), looks := true }, kinds := [], alts := [], laidByText := true, laidKinds := [.widerDeep, .data], laidTests := true, laidLooks := .later }
def ProgCallsUptoCardSaid : Prop := Claim7.holds Tryd.pinned (.plain (OpenSpec.upto progCallsSpec)) progCallsUptoCard

/-- THE SECOND FORM's CARD OF 'weepholelaw22.ProgRenames'. -/
def progRenamesUptoCard : Claim7 := { stood := { row := progRenamesUptoRow, standIns := [], harness := (true, "9972f6fc485a71f512de285436563faddc4929779ab24687bf2a671e91a57a19"), looks := true }, kinds := [], alts := [], laidByText := true, laidKinds := [.widerDeep, .data], laidTests := true, laidLooks := .later }
def ProgRenamesUptoCardSaid : Prop := Claim7.holds Tryd.pinned (.plain (OpenSpec.upto progRenamesSpec)) progRenamesUptoCard

/-- THE SECOND FORM's CARD OF 'weepholelaw22.ProgEquals'. -/
def progEqualsUptoCard : Claim7 := { stood := { row := progEqualsUptoRow, standIns := [], harness := (true, "9972f6fc485a71f512de285436563faddc4929779ab24687bf2a671e91a57a19"), looks := true }, kinds := [], alts := [], laidByText := true, laidKinds := [.widerDeep, .data], laidTests := true, laidLooks := .later }
def ProgEqualsUptoCardSaid : Prop := Claim7.holds Tryd.pinned (.plain (OpenSpec.upto progEqualsSpec)) progEqualsUptoCard
end Rows
end Go.Proofs.YtjdbdoeopobciaaDoor
