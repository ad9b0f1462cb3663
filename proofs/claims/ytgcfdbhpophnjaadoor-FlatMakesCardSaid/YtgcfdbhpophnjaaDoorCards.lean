/-
  DERIVED. GIVEN WITH THE SEED: THE CARDS: each row of YtgcfdbhpophnjaaDoorRows.lean that lists a variable, with what it lists TIED to the program's text (the seventh form; the later family's looks); each row that meets fmt, with fmt's text TOLD by the authors' own Lean function (tested against real Go, not proved from fmt's source: count such statements apart). THE CARD IS WHAT COUNTS. Prove the row's statement (the work); the ties are given (YtgcfdbhpophnjaaDoorTie.lean); close each card by the builder's one call (the guide's Derived/Test/ToyasCard.lean, 'card_holds'). Laid BY PROGRAM, IN A SANDBOX (cutbox-door.mjs). By AI agents, Wed Nov 11 2026. No macro, syntax, notation, axiom, sorry.
-/
import Derived.Test.YtgcfdbhpophnjaaDoorRows
import GoSem.ClaimSeven
namespace Go.Proofs.YtgcfdbhpophnjaaDoor
namespace Rows

/-- THE TIED CARD OF 'weepholelaw25.FlatMakes'. -/
def flatMakesCard : Claim7 := { stood := { row := flatMakesRow, standIns := [], harness := (true, "242a3349179ac9abb0aa2de10db148b8ca9d5ed3a80e0dcb88721f1155b83013"), looks := true }, kinds := [], alts := [], laidByText := true, laidKinds := [.widerDeep, .data, .data], laidTests := true, laidLooks := .later }
def FlatMakesCardSaid : Prop := Claim7.holds Tryd.pinned (.plain (OpenSpec.ofChange flatMakesSpec)) flatMakesCard

/-- THE TIED CARD OF 'weepholelaw25.FlatChecks'. -/
def flatChecksCard : Claim7 := { stood := { row := flatChecksRow, standIns := [], harness := (true, "242a3349179ac9abb0aa2de10db148b8ca9d5ed3a80e0dcb88721f1155b83013"), looks := true }, kinds := [], alts := [], laidByText := true, laidKinds := [.widerDeep, .data, .data], laidTests := true, laidLooks := .later }
def FlatChecksCardSaid : Prop := Claim7.holds Tryd.pinned (.plain (OpenSpec.ofChange flatChecksSpec)) flatChecksCard

/-- THE TIED CARD OF 'weepholelaw25.FlatExamples'. -/
def flatExamplesCard : Claim7 := { stood := { row := flatExamplesRow, standIns := [], harness := (true, "242a3349179ac9abb0aa2de10db148b8ca9d5ed3a80e0dcb88721f1155b83013"), looks := true }, kinds := [], alts := [], laidByText := true, laidKinds := [.widerDeep, .data, .data], laidTests := true, laidLooks := .later }
def FlatExamplesCardSaid : Prop := Claim7.holds Tryd.pinned (.plain (OpenSpec.ofChange flatExamplesSpec)) flatExamplesCard

/-- THE TIED CARD OF 'weepholelaw25.FlatGood'. -/
def flatGoodCard : Claim7 := { stood := { row := flatGoodRow, standIns := [], harness := (true, "242a3349179ac9abb0aa2de10db148b8ca9d5ed3a80e0dcb88721f1155b83013"), looks := true }, kinds := [], alts := [], laidByText := true, laidKinds := [.widerDeep, .data, .data], laidTests := true, laidLooks := .later }
def FlatGoodCardSaid : Prop := Claim7.holds Tryd.pinned (.plain (OpenSpec.ofChange flatGoodSpec)) flatGoodCard

/-- THE TIED CARD OF 'weepholelaw25.FlatPlain'. -/
def flatPlainCard : Claim7 := { stood := { row := flatPlainRow, standIns := [], harness := (true, "242a3349179ac9abb0aa2de10db148b8ca9d5ed3a80e0dcb88721f1155b83013"), looks := true }, kinds := [], alts := [], laidByText := true, laidKinds := [.widerDeep, .data, .data], laidTests := true, laidLooks := .later }
def FlatPlainCardSaid : Prop := Claim7.holds Tryd.pinned (.plain (OpenSpec.ofChange flatPlainSpec)) flatPlainCard

/-- THE TIED CARD OF 'weepholelaw25.FlatCalls'. -/
def flatCallsCard : Claim7 := { stood := { row := flatCallsRow, standIns := [], harness := (true, "242a3349179ac9abb0aa2de10db148b8ca9d5ed3a80e0dcb88721f1155b83013"), looks := true }, kinds := [], alts := [], laidByText := true, laidKinds := [.widerDeep, .data, .data], laidTests := true, laidLooks := .later }
def FlatCallsCardSaid : Prop := Claim7.holds Tryd.pinned (.plain (OpenSpec.ofChange flatCallsSpec)) flatCallsCard

/-- THE SECOND FORM's CARD OF 'weepholelaw25.FlatMakes'. -/
def flatMakesUptoCard : Claim7 := { stood := { row := flatMakesUptoRow, standIns := [], harness := (true, "242a3349179ac9abb0aa2de10db148b8ca9d5ed3a80e0dcb88721f1155b83013"), looks := true }, kinds := [], alts := [], laidByText := true, laidKinds := [.widerDeep, .data, .data], laidTests := true, laidLooks := .later }
def FlatMakesUptoCardSaid : Prop := Claim7.holds Tryd.pinned (.plain (OpenSpec.upto flatMakesSpec)) flatMakesUptoCard

/-- THE SECOND FORM's CARD OF 'weepholelaw25.FlatChecks'. -/
def flatChecksUptoCard : Claim7 := { stood := { row := flatChecksUptoRow, standIns := [], harness := (true, "242a3349179ac9abb0aa2de10db148b8ca9d5ed3a80e0dcb88721f1155b83013"), looks := true }, kinds := [], alts := [], laidByText := true, laidKinds := [.widerDeep, .data, .data], laidTests := true, laidLooks := .later }
def FlatChecksUptoCardSaid : Prop := Claim7.holds Tryd.pinned (.plain (OpenSpec.upto flatChecksSpec)) flatChecksUptoCard

/-- THE SECOND FORM's CARD OF 'weepholelaw25.FlatExamples'. -/
def flatExamplesUptoCard : Claim7 := { stood := { row := flatExamplesUptoRow, standIns := [], harness := (true, "242a3349179ac9abb0aa2de10db148b8ca9d5ed3a80e0dcb88721f1155b83013"), looks := true }, kinds := [], alts := [], laidByText := true, laidKinds := [.widerDeep, .data, .data], laidTests := true, laidLooks := .later }
def FlatExamplesUptoCardSaid : Prop := Claim7.holds Tryd.pinned (.plain (OpenSpec.upto flatExamplesSpec)) flatExamplesUptoCard

/-- THE SECOND FORM's CARD OF 'weepholelaw25.FlatGood'. -/
def flatGoodUptoCard : Claim7 := { stood := { row := flatGoodUptoRow, standIns := [], harness := (true, "242a3349179ac9abb0aa2de10db148b8ca9d5ed3a80e0dcb88721f1155b83013"), looks := true }, kinds := [], alts := [], laidByText := true, laidKinds := [.widerDeep, .data, .data], laidTests := true, laidLooks := .later }
def FlatGoodUptoCardSaid : Prop := Claim7.holds Tryd.pinned (.plain (OpenSpec.upto flatGoodSpec)) flatGoodUptoCard

/-- THE SECOND FORM's CARD OF 'weepholelaw25.FlatPlain'. -/
def flatPlainUptoCard : Claim7 := { stood := { row := flatPlainUptoRow, standIns := [], harness := (true, "242a3349179ac9abb0aa2de10db148b8ca9d5ed3a80e0dcb88721f1155b83013"), looks := true }, kinds := [], alts := [], laidByText := true, laidKinds := [.widerDeep, .data, .data], laidTests := true, laidLooks := .later }
def FlatPlainUptoCardSaid : Prop := Claim7.holds Tryd.pinned (.plain (OpenSpec.upto flatPlainSpec)) flatPlainUptoCard

/-- THE SECOND FORM's CARD OF 'weepholelaw25.FlatCalls'. -/
def flatCallsUptoCard : Claim7 := { stood := { row := flatCallsUptoRow, standIns := [], harness := (true, "242a3349179ac9abb0aa2de10db148b8ca9d5ed3a80e0dcb88721f1155b83013"), looks := true }, kinds := [], alts := [], laidByText := true, laidKinds := [.widerDeep, .data, .data], laidTests := true, laidLooks := .later }
def FlatCallsUptoCardSaid : Prop := Claim7.holds Tryd.pinned (.plain (OpenSpec.upto flatCallsSpec)) flatCallsUptoCard
end Rows
end Go.Proofs.YtgcfdbhpophnjaaDoor
