/-
  DERIVED. GIVEN WITH THE SEED: THE CARDS: each row of YthmdioldnnhidaaDoorRows.lean that lists a variable, with what it lists TIED to the program's text (the seventh form; the later family's looks); each row that meets fmt, with fmt's text TOLD by the authors' own Lean function (tested against real Go, not proved from fmt's source: count such statements apart). THE CARD IS WHAT COUNTS. Prove the row's statement (the work); the ties are given (YthmdioldnnhidaaDoorTie.lean); close each card by the builder's one call (the guide's Derived/Test/ToyasCard.lean, 'card_holds'). Laid BY PROGRAM, IN A SANDBOX (cutbox-door.mjs). By AI agents, Wed Nov 11 2026. No macro, syntax, notation, axiom, sorry.
-/
import Derived.Test.YthmdioldnnhidaaDoorRows
import GoSem.ClaimSeven
namespace Go.Proofs.YthmdioldnnhidaaDoor
namespace Rows

/-- THE TIED CARD OF 'weepholelaw26.MachSteps'. -/
def machStepsCard : Claim7 := { stood := { row := machStepsRow, standIns := [], harness := (true, "e59177a22d00f59e5db3cc53e4e428ccca1ebd47fc18ec34e54cc13e556af1b1"), looks := false }, kinds := [], alts := [], laidByText := true, laidKinds := [.data, .funcs], laidTests := true, laidLooks := .later }
def MachStepsCardSaid : Prop := Claim7.holds Tryd.pinned (.plain (OpenSpec.ofChange machStepsSpec)) machStepsCard

/-- THE TIED CARD OF 'weepholelaw26.MachRuns'. -/
def machRunsCard : Claim7 := { stood := { row := machRunsRow, standIns := [], harness := (true, "e59177a22d00f59e5db3cc53e4e428ccca1ebd47fc18ec34e54cc13e556af1b1"), looks := false }, kinds := [], alts := [], laidByText := true, laidKinds := [.data, .funcs], laidTests := true, laidLooks := .later }
def MachRunsCardSaid : Prop := Claim7.holds Tryd.pinned (.plain (OpenSpec.ofChange machRunsSpec)) machRunsCard

/-- THE TIED CARD OF 'weepholelaw26.MachExamples'. -/
def machExamplesCard : Claim7 := { stood := { row := machExamplesRow, standIns := [], harness := (true, "e59177a22d00f59e5db3cc53e4e428ccca1ebd47fc18ec34e54cc13e556af1b1"), looks := false }, kinds := [], alts := [], laidByText := true, laidKinds := [.data, .funcs], laidTests := true, laidLooks := .later }
def MachExamplesCardSaid : Prop := Claim7.holds Tryd.pinned (.plain (OpenSpec.ofChange machExamplesSpec)) machExamplesCard

/-- THE TIED CARD OF 'weepholelaw26.MachMore'. -/
def machMoreCard : Claim7 := { stood := { row := machMoreRow, standIns := [], harness := (true, "e59177a22d00f59e5db3cc53e4e428ccca1ebd47fc18ec34e54cc13e556af1b1"), looks := false }, kinds := [], alts := [], laidByText := true, laidKinds := [.data, .funcs], laidTests := true, laidLooks := .later }
def MachMoreCardSaid : Prop := Claim7.holds Tryd.pinned (.plain (OpenSpec.ofChange machMoreSpec)) machMoreCard

/-- THE TIED CARD OF 'weepholelaw26.MachInputs'. -/
def machInputsCard : Claim7 := { stood := { row := machInputsRow, standIns := [], harness := (true, "e59177a22d00f59e5db3cc53e4e428ccca1ebd47fc18ec34e54cc13e556af1b1"), looks := false }, kinds := [], alts := [], laidByText := true, laidKinds := [.data, .funcs], laidTests := true, laidLooks := .later }
def MachInputsCardSaid : Prop := Claim7.holds Tryd.pinned (.plain (OpenSpec.ofChange machInputsSpec)) machInputsCard

/-- THE TIED CARD OF 'weepholelaw26.MachSmall'. -/
def machSmallCard : Claim7 := { stood := { row := machSmallRow, standIns := [], harness := (true, "e59177a22d00f59e5db3cc53e4e428ccca1ebd47fc18ec34e54cc13e556af1b1"), looks := false }, kinds := [], alts := [], laidByText := true, laidKinds := [.data, .funcs], laidTests := true, laidLooks := .later }
def MachSmallCardSaid : Prop := Claim7.holds Tryd.pinned (.plain (OpenSpec.ofChange machSmallSpec)) machSmallCard

/-- THE SECOND FORM's CARD OF 'weepholelaw26.MachSteps'. -/
def machStepsUptoCard : Claim7 := { stood := { row := machStepsUptoRow, standIns := [], harness := (true, "e59177a22d00f59e5db3cc53e4e428ccca1ebd47fc18ec34e54cc13e556af1b1"), looks := false }, kinds := [], alts := [], laidByText := true, laidKinds := [.data, .funcs], laidTests := true, laidLooks := .later }
def MachStepsUptoCardSaid : Prop := Claim7.holds Tryd.pinned (.plain (OpenSpec.upto machStepsSpec)) machStepsUptoCard

/-- THE SECOND FORM's CARD OF 'weepholelaw26.MachRuns'. -/
def machRunsUptoCard : Claim7 := { stood := { row := machRunsUptoRow, standIns := [], harness := (true, "e59177a22d00f59e5db3cc53e4e428ccca1ebd47fc18ec34e54cc13e556af1b1"), looks := false }, kinds := [], alts := [], laidByText := true, laidKinds := [.data, .funcs], laidTests := true, laidLooks := .later }
def MachRunsUptoCardSaid : Prop := Claim7.holds Tryd.pinned (.plain (OpenSpec.upto machRunsSpec)) machRunsUptoCard

/-- THE SECOND FORM's CARD OF 'weepholelaw26.MachExamples'. -/
def machExamplesUptoCard : Claim7 := { stood := { row := machExamplesUptoRow, standIns := [], harness := (true, "e59177a22d00f59e5db3cc53e4e428ccca1ebd47fc18ec34e54cc13e556af1b1"), looks := false }, kinds := [], alts := [], laidByText := true, laidKinds := [.data, .funcs], laidTests := true, laidLooks := .later }
def MachExamplesUptoCardSaid : Prop := Claim7.holds Tryd.pinned (.plain (OpenSpec.upto machExamplesSpec)) machExamplesUptoCard

/-- THE SECOND FORM's CARD OF 'weepholelaw26.MachMore'. -/
def machMoreUptoCard : Claim7 := { stood := { row := machMoreUptoRow, standIns := [], harness := (true, "e59177a22d00f59e5db3cc53e4e428ccca1ebd47fc18ec34e54cc13e556af1b1"), looks := false }, kinds := [], alts := [], laidByText := true, laidKinds := [.data, .funcs], laidTests := true, laidLooks := .later }
def MachMoreUptoCardSaid : Prop := Claim7.holds Tryd.pinned (.plain (OpenSpec.upto machMoreSpec)) machMoreUptoCard

/-- THE SECOND FORM's CARD OF 'weepholelaw26.MachInputs'. -/
def machInputsUptoCard : Claim7 := { stood := { row := machInputsUptoRow, standIns := [], harness := (true, "e59177a22d00f59e5db3cc53e4e428ccca1ebd47fc18ec34e54cc13e556af1b1"), looks := false }, kinds := [], alts := [], laidByText := true, laidKinds := [.data, .funcs], laidTests := true, laidLooks := .later }
def MachInputsUptoCardSaid : Prop := Claim7.holds Tryd.pinned (.plain (OpenSpec.upto machInputsSpec)) machInputsUptoCard

/-- THE SECOND FORM's CARD OF 'weepholelaw26.MachSmall'. -/
def machSmallUptoCard : Claim7 := { stood := { row := machSmallUptoRow, standIns := [], harness := (true, "e59177a22d00f59e5db3cc53e4e428ccca1ebd47fc18ec34e54cc13e556af1b1"), looks := false }, kinds := [], alts := [], laidByText := true, laidKinds := [.data, .funcs], laidTests := true, laidLooks := .later }
def MachSmallUptoCardSaid : Prop := Claim7.holds Tryd.pinned (.plain (OpenSpec.upto machSmallSpec)) machSmallUptoCard
end Rows
end Go.Proofs.YthmdioldnnhidaaDoor
