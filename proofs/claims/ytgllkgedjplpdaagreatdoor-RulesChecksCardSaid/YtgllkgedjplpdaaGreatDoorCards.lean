/-
  DERIVED. GIVEN WITH THE SEED: THE CARDS: each row of YtgllkgedjplpdaaGreatDoorRows.lean that lists a variable, with what it lists TIED to the program's text (the seventh form; the later family's looks); each row that meets fmt, with fmt's text TOLD by the authors' own Lean function (tested against real Go, not proved from fmt's source: count such statements apart). THE CARD IS WHAT COUNTS. Prove the row's statement (the work); the ties are given (YtgllkgedjplpdaaGreatDoorTie.lean); close each card by the builder's one call (the guide's Derived/Test/ToyasCard.lean, 'card_holds'). Laid BY PROGRAM, IN A SANDBOX (cutbox-door.mjs). By AI agents, Wed Nov 11 2026. No macro, syntax, notation, axiom, sorry.
-/
import Derived.Test.YtgllkgedjplpdaaGreatDoorRows
import GoSem.ClaimSeven
namespace Go.Proofs.YtgllkgedjplpdaaGreatDoor
namespace Rows

/-- THE TIED CARD OF 'weepholelaw29.RulesChecks'. -/
def rulesChecksCard : Claim7 := { stood := { row := rulesChecksRow, standIns := [], harness := (true, "0ed58e71c2f7f96ba816a45bc21fe865828b1f54a8b4399036247c367c2571af"), looks := true }, kinds := [], alts := [], laidByText := true, laidKinds := [.data, .widerDeep, .data, .data], laidTests := true, laidLooks := .later }
def RulesChecksCardSaid : Prop := Claim7.holds Tryz.pinned (.plain (OpenSpec.ofChange rulesChecksSpec)) rulesChecksCard

/-- THE TIED CARD OF 'weepholelaw29.RulesExamples'. -/
def rulesExamplesCard : Claim7 := { stood := { row := rulesExamplesRow, standIns := [], harness := (true, "0ed58e71c2f7f96ba816a45bc21fe865828b1f54a8b4399036247c367c2571af"), looks := true }, kinds := [], alts := [], laidByText := true, laidKinds := [.data, .widerDeep, .data, .data], laidTests := true, laidLooks := .later }
def RulesExamplesCardSaid : Prop := Claim7.holds Tryz.pinned (.plain (OpenSpec.ofChange rulesExamplesSpec)) rulesExamplesCard

/-- THE SECOND FORM's CARD OF 'weepholelaw29.RulesChecks'. -/
def rulesChecksUptoCard : Claim7 := { stood := { row := rulesChecksUptoRow, standIns := [], harness := (true, "0ed58e71c2f7f96ba816a45bc21fe865828b1f54a8b4399036247c367c2571af"), looks := true }, kinds := [], alts := [], laidByText := true, laidKinds := [.data, .widerDeep, .data, .data], laidTests := true, laidLooks := .later }
def RulesChecksUptoCardSaid : Prop := Claim7.holds Tryz.pinned (.plain (OpenSpec.upto rulesChecksSpec)) rulesChecksUptoCard

/-- THE SECOND FORM's CARD OF 'weepholelaw29.RulesExamples'. -/
def rulesExamplesUptoCard : Claim7 := { stood := { row := rulesExamplesUptoRow, standIns := [], harness := (true, "0ed58e71c2f7f96ba816a45bc21fe865828b1f54a8b4399036247c367c2571af"), looks := true }, kinds := [], alts := [], laidByText := true, laidKinds := [.data, .widerDeep, .data, .data], laidTests := true, laidLooks := .later }
def RulesExamplesUptoCardSaid : Prop := Claim7.holds Tryz.pinned (.plain (OpenSpec.upto rulesExamplesSpec)) rulesExamplesUptoCard
end Rows
end Go.Proofs.YtgllkgedjplpdaaGreatDoor
