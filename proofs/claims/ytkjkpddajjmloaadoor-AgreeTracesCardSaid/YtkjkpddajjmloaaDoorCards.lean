/-
  DERIVED. GIVEN WITH THE SEED: THE CARDS: each row of YtkjkpddajjmloaaDoorRows.lean that lists a variable, with what it lists TIED to the program's text (the seventh form; the later family's looks); each row that meets fmt, with fmt's text TOLD by the authors' own Lean function (tested against real Go, not proved from fmt's source: count such statements apart). THE CARD IS WHAT COUNTS. Prove the row's statement (the work); the ties are given (YtkjkpddajjmloaaDoorTie.lean); close each card by the builder's one call (the guide's Derived/Test/ToyasCard.lean, 'card_holds'). Laid BY PROGRAM, IN A SANDBOX (cutbox-door.mjs). By AI agents, Wed Nov 11 2026. No macro, syntax, notation, axiom, sorry.
-/
import Derived.Test.YtkjkpddajjmloaaDoorRows
import GoSem.ClaimSeven
namespace Go.Proofs.YtkjkpddajjmloaaDoor
namespace Rows

/-- THE TIED CARD OF 'weepholelaw34.AgreeTraces'. -/
def agreeTracesCard : Claim7 := { stood := { row := agreeTracesRow, standIns := [], harness := (true, "944ab5949621e1059e58b22db713e6d4fd5f709aa33162c35f981004e3259471"), looks := false }, kinds := [], alts := [], laidByText := true, laidKinds := [.data, .data, .funcs], laidTests := true, laidLooks := .later }
def AgreeTracesCardSaid : Prop := Claim7.holds Tryd.pinned (.plain (OpenSpec.ofChange agreeTracesSpec)) agreeTracesCard

/-- THE TIED CARD OF 'weepholelaw34.AgreeTurns'. -/
def agreeTurnsCard : Claim7 := { stood := { row := agreeTurnsRow, standIns := [], harness := (true, "944ab5949621e1059e58b22db713e6d4fd5f709aa33162c35f981004e3259471"), looks := false }, kinds := [], alts := [], laidByText := true, laidKinds := [.data, .data, .funcs], laidTests := true, laidLooks := .later }
def AgreeTurnsCardSaid : Prop := Claim7.holds Tryd.pinned (.plain (OpenSpec.ofChange agreeTurnsSpec)) agreeTurnsCard

/-- THE TIED CARD OF 'weepholelaw34.AgreeOpen'. -/
def agreeOpenCard : Claim7 := { stood := { row := agreeOpenRow, standIns := [], harness := (true, "944ab5949621e1059e58b22db713e6d4fd5f709aa33162c35f981004e3259471"), looks := false }, kinds := [], alts := [], laidByText := true, laidKinds := [.data, .data, .funcs], laidTests := true, laidLooks := .later }
def AgreeOpenCardSaid : Prop := Claim7.holds Tryd.pinned (.plain (OpenSpec.ofChange agreeOpenSpec)) agreeOpenCard

/-- THE TIED CARD OF 'weepholelaw34.AgreeWords'. -/
def agreeWordsCard : Claim7 := { stood := { row := agreeWordsRow, standIns := [], harness := (true, "944ab5949621e1059e58b22db713e6d4fd5f709aa33162c35f981004e3259471"), looks := false }, kinds := [], alts := [], laidByText := true, laidKinds := [.data, .data, .funcs], laidTests := true, laidLooks := .later }
def AgreeWordsCardSaid : Prop := Claim7.holds Tryd.pinned (.plain (OpenSpec.ofChange agreeWordsSpec)) agreeWordsCard

/-- THE TIED CARD OF 'weepholelaw34.AgreeExamples'. -/
def agreeExamplesCard : Claim7 := { stood := { row := agreeExamplesRow, standIns := [], harness := (true, "944ab5949621e1059e58b22db713e6d4fd5f709aa33162c35f981004e3259471"), looks := false }, kinds := [], alts := [], laidByText := true, laidKinds := [.data, .data, .funcs], laidTests := true, laidLooks := .later }
def AgreeExamplesCardSaid : Prop := Claim7.holds Tryd.pinned (.plain (OpenSpec.ofChange agreeExamplesSpec)) agreeExamplesCard

/-- THE TIED CARD OF 'weepholelaw34.AgreeModes'. -/
def agreeModesCard : Claim7 := { stood := { row := agreeModesRow, standIns := [], harness := (true, "944ab5949621e1059e58b22db713e6d4fd5f709aa33162c35f981004e3259471"), looks := false }, kinds := [], alts := [], laidByText := true, laidKinds := [.data, .data, .funcs], laidTests := true, laidLooks := .later }
def AgreeModesCardSaid : Prop := Claim7.holds Tryd.pinned (.plain (OpenSpec.ofChange agreeModesSpec)) agreeModesCard

/-- THE TIED CARD OF 'weepholelaw37.WitnessExamples'. -/
def witnessExamplesCard : Claim7 := { stood := { row := witnessExamplesRow, standIns := [], harness := (true, "944ab5949621e1059e58b22db713e6d4fd5f709aa33162c35f981004e3259471"), looks := false }, kinds := [], alts := [], laidByText := true, laidKinds := [.data, .data, .funcs], laidTests := true, laidLooks := .later }
def WitnessExamplesCardSaid : Prop := Claim7.holds Tryd.pinned (.plain (OpenSpec.ofChange witnessExamplesSpec)) witnessExamplesCard

/-- THE TIED CARD OF 'weepholelaw37.WitnessTrue'. -/
def witnessTrueCard : Claim7 := { stood := { row := witnessTrueRow, standIns := [], harness := (true, "944ab5949621e1059e58b22db713e6d4fd5f709aa33162c35f981004e3259471"), looks := false }, kinds := [], alts := [], laidByText := true, laidKinds := [.data, .data, .funcs], laidTests := true, laidLooks := .later }
def WitnessTrueCardSaid : Prop := Claim7.holds Tryd.pinned (.plain (OpenSpec.ofChange witnessTrueSpec)) witnessTrueCard

/-- THE TIED CARD OF 'weepholelaw37.WitnessLong'. -/
def witnessLongCard : Claim7 := { stood := { row := witnessLongRow, standIns := [], harness := (true, "944ab5949621e1059e58b22db713e6d4fd5f709aa33162c35f981004e3259471"), looks := false }, kinds := [], alts := [], laidByText := true, laidKinds := [.data, .data, .funcs], laidTests := true, laidLooks := .later }
def WitnessLongCardSaid : Prop := Claim7.holds Tryd.pinned (.plain (OpenSpec.ofChange witnessLongSpec)) witnessLongCard

/-- THE TIED CARD OF 'weepholelaw37.WitnessBranches'. -/
def witnessBranchesCard : Claim7 := { stood := { row := witnessBranchesRow, standIns := [], harness := (true, "944ab5949621e1059e58b22db713e6d4fd5f709aa33162c35f981004e3259471"), looks := false }, kinds := [], alts := [], laidByText := true, laidKinds := [.data, .data, .funcs], laidTests := true, laidLooks := .later }
def WitnessBranchesCardSaid : Prop := Claim7.holds Tryd.pinned (.plain (OpenSpec.ofChange witnessBranchesSpec)) witnessBranchesCard

/-- THE SECOND FORM's CARD OF 'weepholelaw34.AgreeTraces'. -/
def agreeTracesUptoCard : Claim7 := { stood := { row := agreeTracesUptoRow, standIns := [], harness := (true, "944ab5949621e1059e58b22db713e6d4fd5f709aa33162c35f981004e3259471"), looks := false }, kinds := [], alts := [], laidByText := true, laidKinds := [.data, .data, .funcs], laidTests := true, laidLooks := .later }
def AgreeTracesUptoCardSaid : Prop := Claim7.holds Tryd.pinned (.plain (OpenSpec.upto agreeTracesSpec)) agreeTracesUptoCard

/-- THE SECOND FORM's CARD OF 'weepholelaw34.AgreeTurns'. -/
def agreeTurnsUptoCard : Claim7 := { stood := { row := agreeTurnsUptoRow, standIns := [], harness := (true, "944ab5949621e1059e58b22db713e6d4fd5f709aa33162c35f981004e3259471"), looks := false }, kinds := [], alts := [], laidByText := true, laidKinds := [.data, .data, .funcs], laidTests := true, laidLooks := .later }
def AgreeTurnsUptoCardSaid : Prop := Claim7.holds Tryd.pinned (.plain (OpenSpec.upto agreeTurnsSpec)) agreeTurnsUptoCard

/-- THE SECOND FORM's CARD OF 'weepholelaw34.AgreeOpen'. -/
def agreeOpenUptoCard : Claim7 := { stood := { row := agreeOpenUptoRow, standIns := [], harness := (true, "944ab5949621e1059e58b22db713e6d4fd5f709aa33162c35f981004e3259471"), looks := false }, kinds := [], alts := [], laidByText := true, laidKinds := [.data, .data, .funcs], laidTests := true, laidLooks := .later }
def AgreeOpenUptoCardSaid : Prop := Claim7.holds Tryd.pinned (.plain (OpenSpec.upto agreeOpenSpec)) agreeOpenUptoCard

/-- THE SECOND FORM's CARD OF 'weepholelaw34.AgreeWords'. -/
def agreeWordsUptoCard : Claim7 := { stood := { row := agreeWordsUptoRow, standIns := [], harness := (true, "944ab5949621e1059e58b22db713e6d4fd5f709aa33162c35f981004e3259471"), looks := false }, kinds := [], alts := [], laidByText := true, laidKinds := [.data, .data, .funcs], laidTests := true, laidLooks := .later }
def AgreeWordsUptoCardSaid : Prop := Claim7.holds Tryd.pinned (.plain (OpenSpec.upto agreeWordsSpec)) agreeWordsUptoCard

/-- THE SECOND FORM's CARD OF 'weepholelaw34.AgreeExamples'. -/
def agreeExamplesUptoCard : Claim7 := { stood := { row := agreeExamplesUptoRow, standIns := [], harness := (true, "944ab5949621e1059e58b22db713e6d4fd5f709aa33162c35f981004e3259471"), looks := false }, kinds := [], alts := [], laidByText := true, laidKinds := [.data, .data, .funcs], laidTests := true, laidLooks := .later }
def AgreeExamplesUptoCardSaid : Prop := Claim7.holds Tryd.pinned (.plain (OpenSpec.upto agreeExamplesSpec)) agreeExamplesUptoCard

/-- THE SECOND FORM's CARD OF 'weepholelaw34.AgreeModes'. -/
def agreeModesUptoCard : Claim7 := { stood := { row := agreeModesUptoRow, standIns := [], harness := (true, "944ab5949621e1059e58b22db713e6d4fd5f709aa33162c35f981004e3259471"), looks := false }, kinds := [], alts := [], laidByText := true, laidKinds := [.data, .data, .funcs], laidTests := true, laidLooks := .later }
def AgreeModesUptoCardSaid : Prop := Claim7.holds Tryd.pinned (.plain (OpenSpec.upto agreeModesSpec)) agreeModesUptoCard

/-- THE SECOND FORM's CARD OF 'weepholelaw37.WitnessExamples'. -/
def witnessExamplesUptoCard : Claim7 := { stood := { row := witnessExamplesUptoRow, standIns := [], harness := (true, "944ab5949621e1059e58b22db713e6d4fd5f709aa33162c35f981004e3259471"), looks := false }, kinds := [], alts := [], laidByText := true, laidKinds := [.data, .data, .funcs], laidTests := true, laidLooks := .later }
def WitnessExamplesUptoCardSaid : Prop := Claim7.holds Tryd.pinned (.plain (OpenSpec.upto witnessExamplesSpec)) witnessExamplesUptoCard

/-- THE SECOND FORM's CARD OF 'weepholelaw37.WitnessTrue'. -/
def witnessTrueUptoCard : Claim7 := { stood := { row := witnessTrueUptoRow, standIns := [], harness := (true, "944ab5949621e1059e58b22db713e6d4fd5f709aa33162c35f981004e3259471"), looks := false }, kinds := [], alts := [], laidByText := true, laidKinds := [.data, .data, .funcs], laidTests := true, laidLooks := .later }
def WitnessTrueUptoCardSaid : Prop := Claim7.holds Tryd.pinned (.plain (OpenSpec.upto witnessTrueSpec)) witnessTrueUptoCard

/-- THE SECOND FORM's CARD OF 'weepholelaw37.WitnessLong'. -/
def witnessLongUptoCard : Claim7 := { stood := { row := witnessLongUptoRow, standIns := [], harness := (true, "944ab5949621e1059e58b22db713e6d4fd5f709aa33162c35f981004e3259471"), looks := false }, kinds := [], alts := [], laidByText := true, laidKinds := [.data, .data, .funcs], laidTests := true, laidLooks := .later }
def WitnessLongUptoCardSaid : Prop := Claim7.holds Tryd.pinned (.plain (OpenSpec.upto witnessLongSpec)) witnessLongUptoCard

/-- THE SECOND FORM's CARD OF 'weepholelaw37.WitnessBranches'. -/
def witnessBranchesUptoCard : Claim7 := { stood := { row := witnessBranchesUptoRow, standIns := [], harness := (true, "944ab5949621e1059e58b22db713e6d4fd5f709aa33162c35f981004e3259471"), looks := false }, kinds := [], alts := [], laidByText := true, laidKinds := [.data, .data, .funcs], laidTests := true, laidLooks := .later }
def WitnessBranchesUptoCardSaid : Prop := Claim7.holds Tryd.pinned (.plain (OpenSpec.upto witnessBranchesSpec)) witnessBranchesUptoCard
end Rows
end Go.Proofs.YtkjkpddajjmloaaDoor
