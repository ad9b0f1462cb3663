/-
  DERIVED. GIVEN WITH THE SEED: THE CARDS: each row of YtbfkhnmpfffkmaaDoorRows.lean that lists a variable, with what it lists TIED to the program's text (the seventh form; the later family's looks); each row that meets fmt, with fmt's text TOLD by the authors' own Lean function (tested against real Go, not proved from fmt's source: count such statements apart). THE CARD IS WHAT COUNTS. Prove the row's statement (the work); the ties are given (YtbfkhnmpfffkmaaDoorTie.lean); close each card by the builder's one call (the guide's Derived/Test/ToyasCard.lean, 'card_holds'). Laid BY PROGRAM, IN A SANDBOX (cutbox-door.mjs). By AI agents, Wed Nov 11 2026. No macro, syntax, notation, axiom, sorry.
-/
import Derived.Test.YtbfkhnmpfffkmaaDoorRows
import GoSem.ClaimSeven
namespace Go.Proofs.YtbfkhnmpfffkmaaDoor
namespace Rows

/-- THE TIED CARD OF 'weepholelaw41.ScriptProgs'. -/
def scriptProgsCard : Claim7 := { stood := { row := scriptProgsRow, standIns := [], harness := (true, "b44daacef5e7149df29e75cb7af9a4af2e7ab0b7b2a01a4a24847d7ef164fd52"), looks := false }, kinds := [], alts := [], laidByText := true, laidKinds := [.data, .data, .data], laidTests := true, laidLooks := .later }
def ScriptProgsCardSaid : Prop := Claim7.holds Tryd.pinned (.plain (OpenSpec.ofChange scriptProgsSpec)) scriptProgsCard

/-- THE TIED CARD OF 'weepholelaw41.ScriptLess'. -/
def scriptLessCard : Claim7 := { stood := { row := scriptLessRow, standIns := [], harness := (true, "b44daacef5e7149df29e75cb7af9a4af2e7ab0b7b2a01a4a24847d7ef164fd52"), looks := false }, kinds := [], alts := [], laidByText := true, laidKinds := [.data, .data, .data], laidTests := true, laidLooks := .later }
def ScriptLessCardSaid : Prop := Claim7.holds Tryd.pinned (.plain (OpenSpec.ofChange scriptLessSpec)) scriptLessCard

/-- THE TIED CARD OF 'weepholelaw41.ScriptKinds'. -/
def scriptKindsCard : Claim7 := { stood := { row := scriptKindsRow, standIns := [], harness := (true, "b44daacef5e7149df29e75cb7af9a4af2e7ab0b7b2a01a4a24847d7ef164fd52"), looks := false }, kinds := [], alts := [], laidByText := true, laidKinds := [.data, .data, .data], laidTests := true, laidLooks := .later }
def ScriptKindsCardSaid : Prop := Claim7.holds Tryd.pinned (.plain (OpenSpec.ofChange scriptKindsSpec)) scriptKindsCard

/-- THE TIED CARD OF 'weepholelaw41.ScriptOps'. -/
def scriptOpsCard : Claim7 := { stood := { row := scriptOpsRow, standIns := [], harness := (true, "b44daacef5e7149df29e75cb7af9a4af2e7ab0b7b2a01a4a24847d7ef164fd52"), looks := false }, kinds := [], alts := [], laidByText := true, laidKinds := [.data, .data, .data], laidTests := true, laidLooks := .later }
def ScriptOpsCardSaid : Prop := Claim7.holds Tryd.pinned (.plain (OpenSpec.ofChange scriptOpsSpec)) scriptOpsCard

/-- THE SECOND FORM's CARD OF 'weepholelaw41.ScriptProgs'. -/
def scriptProgsUptoCard : Claim7 := { stood := { row := scriptProgsUptoRow, standIns := [], harness := (true, "b44daacef5e7149df29e75cb7af9a4af2e7ab0b7b2a01a4a24847d7ef164fd52"), looks := false }, kinds := [], alts := [], laidByText := true, laidKinds := [.data, .data, .data], laidTests := true, laidLooks := .later }
def ScriptProgsUptoCardSaid : Prop := Claim7.holds Tryd.pinned (.plain (OpenSpec.upto scriptProgsSpec)) scriptProgsUptoCard

/-- THE SECOND FORM's CARD OF 'weepholelaw41.ScriptLess'. -/
def scriptLessUptoCard : Claim7 := { stood := { row := scriptLessUptoRow, standIns := [], harness := (true, "b44daacef5e7149df29e75cb7af9a4af2e7ab0b7b2a01a4a24847d7ef164fd52"), looks := false }, kinds := [], alts := [], laidByText := true, laidKinds := [.data, .data, .data], laidTests := true, laidLooks := .later }
def ScriptLessUptoCardSaid : Prop := Claim7.holds Tryd.pinned (.plain (OpenSpec.upto scriptLessSpec)) scriptLessUptoCard

/-- THE SECOND FORM's CARD OF 'weepholelaw41.ScriptKinds'. -/
def scriptKindsUptoCard : Claim7 := { stood := { row := scriptKindsUptoRow, standIns := [], harness := (true, "b44daacef5e7149df29e75cb7af9a4af2e7ab0b7b2a01a4a24847d7ef164fd52"), looks := false }, kinds := [], alts := [], laidByText := true, laidKinds := [.data, .data, .data], laidTests := true, laidLooks := .later }
def ScriptKindsUptoCardSaid : Prop := Claim7.holds Tryd.pinned (.plain (OpenSpec.upto scriptKindsSpec)) scriptKindsUptoCard

/-- THE SECOND FORM's CARD OF 'weepholelaw41.ScriptOps'. -/
def scriptOpsUptoCard : Claim7 := { stood := { row := scriptOpsUptoRow, standIns := [], harness := (true, "b44daacef5e7149df29e75cb7af9a4af2e7ab0b7b2a01a4a24847d7ef164fd52"), looks := false }, kinds := [], alts := [], laidByText := true, laidKinds := [.data, .data, .data], laidTests := true, laidLooks := .later }
def ScriptOpsUptoCardSaid : Prop := Claim7.holds Tryd.pinned (.plain (OpenSpec.upto scriptOpsSpec)) scriptOpsUptoCard
end Rows
end Go.Proofs.YtbfkhnmpfffkmaaDoor
