/-
  DERIVED. GIVEN WITH THE SEED: THE CARDS: each row of YtgllkgedjplpdaaDoorRows.lean that lists a variable, with what it lists TIED to the program's text (the seventh form; the later family's looks); each row that meets fmt, with fmt's text TOLD by the authors' own Lean function (tested against real Go, not proved from fmt's source: count such statements apart). THE CARD IS WHAT COUNTS. Prove the row's statement (the work); the ties are given (YtgllkgedjplpdaaDoorTie.lean); close each card by the builder's one call (the guide's Derived/Test/ToyasCard.lean, 'card_holds'). Laid BY PROGRAM, IN A SANDBOX (cutbox-door.mjs). By AI agents, Wed Nov 11 2026. No macro, syntax, notation, axiom, sorry.
-/
import Derived.Test.YtgllkgedjplpdaaDoorRows
import GoSem.ClaimSeven
namespace Go.Proofs.YtgllkgedjplpdaaDoor
namespace Rows

/-- THE TIED CARD OF 'weepholelaw29.RulesLevels'. -/
def rulesLevelsCard : Claim7 := { stood := { row := rulesLevelsRow, standIns := [], harness := (true, "5e9978602f8c7032d66fe93ee15f23b38667a48e239bc4d2687a154a4f44b572"), looks := true }, kinds := [], alts := [], laidByText := true, laidKinds := [.data, .widerDeep, .data, .data], laidTests := true, laidLooks := .later }
def RulesLevelsCardSaid : Prop := Claim7.holds Tryd.pinned (.plain (OpenSpec.ofChange rulesLevelsSpec)) rulesLevelsCard

/-- THE TIED CARD OF 'weepholelaw29.RulesFit'. -/
def rulesFitCard : Claim7 := { stood := { row := rulesFitRow, standIns := [], harness := (true, "5e9978602f8c7032d66fe93ee15f23b38667a48e239bc4d2687a154a4f44b572"), looks := true }, kinds := [], alts := [], laidByText := true, laidKinds := [.data, .widerDeep, .data, .data], laidTests := true, laidLooks := .later }
def RulesFitCardSaid : Prop := Claim7.holds Tryd.pinned (.plain (OpenSpec.ofChange rulesFitSpec)) rulesFitCard

/-- THE TIED CARD OF 'weepholelaw29.RulesGiven'. -/
def rulesGivenCard : Claim7 := { stood := { row := rulesGivenRow, standIns := [], harness := (true, "5e9978602f8c7032d66fe93ee15f23b38667a48e239bc4d2687a154a4f44b572"), looks := true }, kinds := [], alts := [], laidByText := true, laidKinds := [.data, .widerDeep, .data, .data], laidTests := true, laidLooks := .later }
def RulesGivenCardSaid : Prop := Claim7.holds Tryd.pinned (.plain (OpenSpec.ofChange rulesGivenSpec)) rulesGivenCard

/-- THE TIED CARD OF 'weepholelaw29.RulesMore'. -/
def rulesMoreCard : Claim7 := { stood := { row := rulesMoreRow, standIns := [], harness := (true, "5e9978602f8c7032d66fe93ee15f23b38667a48e239bc4d2687a154a4f44b572"), looks := true }, kinds := [], alts := [], laidByText := true, laidKinds := [.data, .widerDeep, .data, .data], laidTests := true, laidLooks := .later }
def RulesMoreCardSaid : Prop := Claim7.holds Tryd.pinned (.plain (OpenSpec.ofChange rulesMoreSpec)) rulesMoreCard

/-- THE TIED CARD OF 'weepholelaw29.RulesRenames'. -/
def rulesRenamesCard : Claim7 := { stood := { row := rulesRenamesRow, standIns := [], harness := (true, "5e9978602f8c7032d66fe93ee15f23b38667a48e239bc4d2687a154a4f44b572"), looks := true }, kinds := [], alts := [], laidByText := true, laidKinds := [.data, .widerDeep, .data, .data], laidTests := true, laidLooks := .later }
def RulesRenamesCardSaid : Prop := Claim7.holds Tryd.pinned (.plain (OpenSpec.ofChange rulesRenamesSpec)) rulesRenamesCard

/-- THE SECOND FORM's CARD OF 'weepholelaw29.RulesLevels'. -/
def rulesLevelsUptoCard : Claim7 := { stood := { row := rulesLevelsUptoRow, standIns := [], harness := (true, "5e9978602f8c7032d66fe93ee15f23b38667a48e239bc4d2687a154a4f44b572"), looks := true }, kinds := [], alts := [], laidByText := true, laidKinds := [.data, .widerDeep, .data, .data], laidTests := true, laidLooks := .later }
def RulesLevelsUptoCardSaid : Prop := Claim7.holds Tryd.pinned (.plain (OpenSpec.upto rulesLevelsSpec)) rulesLevelsUptoCard

/-- THE SECOND FORM's CARD OF 'weepholelaw29.RulesFit'. -/
def rulesFitUptoCard : Claim7 := { stood := { row := rulesFitUptoRow, standIns := [], harness := (true, "5e9978602f8c7032d66fe93ee15f23b38667a48e239bc4d2687a154a4f44b572"), looks := true }, kinds := [], alts := [], laidByText := true, laidKinds := [.data, .widerDeep, .data, .data], laidTests := true, laidLooks := .later }
def RulesFitUptoCardSaid : Prop := Claim7.holds Tryd.pinned (.plain (OpenSpec.upto rulesFitSpec)) rulesFitUptoCard

/-- THE SECOND FORM's CARD OF 'weepholelaw29.RulesGiven'. -/
def rulesGivenUptoCard : Claim7 := { stood := { row := rulesGivenUptoRow, standIns := [], harness := (true, "5e9978602f8c7032d66fe93ee15f23b38667a48e239bc4d2687a154a4f44b572"), looks := true }, kinds := [], alts := [], laidByText := true, laidKinds := [.data, .widerDeep, .data, .data], laidTests := true, laidLooks := .later }
def RulesGivenUptoCardSaid : Prop := Claim7.holds Tryd.pinned (.plain (OpenSpec.upto rulesGivenSpec)) rulesGivenUptoCard

/-- THE SECOND FORM's CARD OF 'weepholelaw29.RulesMore'. -/
def rulesMoreUptoCard : Claim7 := { stood := { row := rulesMoreUptoRow, standIns := [], harness := (true, "5e9978602f8c7032d66fe93ee15f23b38667a48e239bc4d2687a154a4f44b572"), looks := true }, kinds := [], alts := [], laidByText := true, laidKinds := [.data, .widerDeep, .data, .data], laidTests := true, laidLooks := .later }
def RulesMoreUptoCardSaid : Prop := Claim7.holds Tryd.pinned (.plain (OpenSpec.upto rulesMoreSpec)) rulesMoreUptoCard

/-- THE SECOND FORM's CARD OF 'weepholelaw29.RulesRenames'. -/
def rulesRenamesUptoCard : Claim7 := { stood := { row := rulesRenamesUptoRow, standIns := [], harness := (true, "5e9978602f8c7032d66fe93ee15f23b38667a48e239bc4d2687a154a4f44b572"), looks := true }, kinds := [], alts := [], laidByText := true, laidKinds := [.data, .widerDeep, .data, .data], laidTests := true, laidLooks := .later }
def RulesRenamesUptoCardSaid : Prop := Claim7.holds Tryd.pinned (.plain (OpenSpec.upto rulesRenamesSpec)) rulesRenamesUptoCard
end Rows
end Go.Proofs.YtgllkgedjplpdaaDoor
