/-
  DERIVED. GIVEN WITH THE SEED: THE CARDS: each row of YtfpjcnkfoehhmaaGreatDoorRows.lean that lists a variable, with what it lists TIED to the program's text (the seventh form; the later family's looks); each row that meets fmt, with fmt's text TOLD by the authors' own Lean function (tested against real Go, not proved from fmt's source: count such statements apart). THE CARD IS WHAT COUNTS. Prove the row's statement (the work); the ties are given (YtfpjcnkfoehhmaaGreatDoorTie.lean); close each card by the builder's one call (the guide's Derived/Test/ToyasCard.lean, 'card_holds'). Laid BY PROGRAM, IN A SANDBOX (cutbox-door.mjs). By AI agents, Wed Nov 11 2026. No macro, syntax, notation, axiom, sorry.
-/
import Derived.Test.YtfpjcnkfoehhmaaGreatDoorRows
import GoSem.ClaimSeven
namespace Go.Proofs.YtfpjcnkfoehhmaaGreatDoor
namespace Rows

/-- THE TIED CARD OF 'bipolelaw02.ArmStates'. -/
def armStatesCard : Claim7 := { stood := { row := armStatesRow, standIns := [], harness := (true, "5e38d7d07dcbcaac2e031df41b6d0984237ba526e25c5356a27ebd257cbcd36d"), looks := false }, kinds := [], alts := [], laidByText := true, laidKinds := [.data, .data, .data], laidTests := true, laidLooks := .later }
def ArmStatesCardSaid : Prop := Claim7.holds Tryz.pinned (.plain (OpenSpec.ofChange armStatesSpec)) armStatesCard

/-- THE TIED CARD OF 'bipolelaw02.ArmRuns'. -/
def armRunsCard : Claim7 := { stood := { row := armRunsRow, standIns := [], harness := (true, "5e38d7d07dcbcaac2e031df41b6d0984237ba526e25c5356a27ebd257cbcd36d"), looks := false }, kinds := [], alts := [], laidByText := true, laidKinds := [.data, .data, .data], laidTests := true, laidLooks := .later }
def ArmRunsCardSaid : Prop := Claim7.holds Tryz.pinned (.plain (OpenSpec.ofChange armRunsSpec)) armRunsCard

/-- THE TIED CARD OF 'bipolelaw02.ArmFlows'. -/
def armFlowsCard : Claim7 := { stood := { row := armFlowsRow, standIns := [], harness := (true, "5e38d7d07dcbcaac2e031df41b6d0984237ba526e25c5356a27ebd257cbcd36d"), looks := false }, kinds := [], alts := [], laidByText := true, laidKinds := [.data, .data, .data], laidTests := true, laidLooks := .later }
def ArmFlowsCardSaid : Prop := Claim7.holds Tryz.pinned (.plain (OpenSpec.ofChange armFlowsSpec)) armFlowsCard

/-- THE TIED CARD OF 'bipolelaw02.ArmChoices'. -/
def armChoicesCard : Claim7 := { stood := { row := armChoicesRow, standIns := [], harness := (true, "5e38d7d07dcbcaac2e031df41b6d0984237ba526e25c5356a27ebd257cbcd36d"), looks := false }, kinds := [], alts := [], laidByText := true, laidKinds := [.data, .data, .data], laidTests := true, laidLooks := .later }
def ArmChoicesCardSaid : Prop := Claim7.holds Tryz.pinned (.plain (OpenSpec.ofChange armChoicesSpec)) armChoicesCard

/-- THE TIED CARD OF 'bipolelaw02.ArmSpreads'. -/
def armSpreadsCard : Claim7 := { stood := { row := armSpreadsRow, standIns := [], harness := (true, "5e38d7d07dcbcaac2e031df41b6d0984237ba526e25c5356a27ebd257cbcd36d"), looks := false }, kinds := [], alts := [], laidByText := true, laidKinds := [.data, .data, .data], laidTests := true, laidLooks := .later }
def ArmSpreadsCardSaid : Prop := Claim7.holds Tryz.pinned (.plain (OpenSpec.ofChange armSpreadsSpec)) armSpreadsCard

/-- THE TIED CARD OF 'bipolelaw02.ArmModules'. -/
def armModulesCard : Claim7 := { stood := { row := armModulesRow, standIns := [], harness := (true, "5e38d7d07dcbcaac2e031df41b6d0984237ba526e25c5356a27ebd257cbcd36d"), looks := false }, kinds := [], alts := [], laidByText := true, laidKinds := [.data, .data, .data], laidTests := true, laidLooks := .later }
def ArmModulesCardSaid : Prop := Claim7.holds Tryz.pinned (.plain (OpenSpec.ofChange armModulesSpec)) armModulesCard

/-- THE TIED CARD OF 'bipolelaw02.ArmKeeps'. -/
def armKeepsCard : Claim7 := { stood := { row := armKeepsRow, standIns := [], harness := (true, "5e38d7d07dcbcaac2e031df41b6d0984237ba526e25c5356a27ebd257cbcd36d"), looks := false }, kinds := [], alts := [], laidByText := true, laidKinds := [.data, .data, .data], laidTests := true, laidLooks := .later }
def ArmKeepsCardSaid : Prop := Claim7.holds Tryz.pinned (.plain (OpenSpec.ofChange armKeepsSpec)) armKeepsCard

/-- THE TIED CARD OF 'bipolelaw02.ArmLevels'. -/
def armLevelsCard : Claim7 := { stood := { row := armLevelsRow, standIns := [], harness := (true, "5e38d7d07dcbcaac2e031df41b6d0984237ba526e25c5356a27ebd257cbcd36d"), looks := false }, kinds := [], alts := [], laidByText := true, laidKinds := [.data, .data, .data], laidTests := true, laidLooks := .later }
def ArmLevelsCardSaid : Prop := Claim7.holds Tryz.pinned (.plain (OpenSpec.ofChange armLevelsSpec)) armLevelsCard

/-- THE TIED CARD OF 'bipolelaw02.ArmTexts'. -/
def armTextsCard : Claim7 := { stood := { row := armTextsRow, standIns := [], harness := (true, "5e38d7d07dcbcaac2e031df41b6d0984237ba526e25c5356a27ebd257cbcd36d"), looks := false }, kinds := [], alts := [], laidByText := true, laidKinds := [.data, .data, .data, .data, .pinned], laidTests := true, laidLooks := .later }
def ArmTextsCardSaid : Prop := Claim7.holds Tryz.pinned (.plain (OpenSpec.ofChange armTextsSpec)) armTextsCard

/-- THE TIED CARD OF 'bipolelaw02.ArmBack'. -/
def armBackCard : Claim7 := { stood := { row := armBackRow, standIns := [], harness := (true, "5e38d7d07dcbcaac2e031df41b6d0984237ba526e25c5356a27ebd257cbcd36d"), looks := false }, kinds := [], alts := [], laidByText := true, laidKinds := [.data, .data, .data, .data, .pinned], laidTests := true, laidLooks := .later }
def ArmBackCardSaid : Prop := Claim7.holds Tryz.pinned (.plain (OpenSpec.ofChange armBackSpec)) armBackCard

/-- THE SECOND FORM's CARD OF 'bipolelaw02.ArmStates'. -/
def armStatesUptoCard : Claim7 := { stood := { row := armStatesUptoRow, standIns := [], harness := (true, "5e38d7d07dcbcaac2e031df41b6d0984237ba526e25c5356a27ebd257cbcd36d"), looks := false }, kinds := [], alts := [], laidByText := true, laidKinds := [.data, .data, .data], laidTests := true, laidLooks := .later }
def ArmStatesUptoCardSaid : Prop := Claim7.holds Tryz.pinned (.plain (OpenSpec.upto armStatesSpec)) armStatesUptoCard

/-- THE SECOND FORM's CARD OF 'bipolelaw02.ArmRuns'. -/
def armRunsUptoCard : Claim7 := { stood := { row := armRunsUptoRow, standIns := [], harness := (true, "5e38d7d07dcbcaac2e031df41b6d0984237ba526e25c5356a27ebd257cbcd36d"), looks := false }, kinds := [], alts := [], laidByText := true, laidKinds := [.data, .data, .data], laidTests := true, laidLooks := .later }
def ArmRunsUptoCardSaid : Prop := Claim7.holds Tryz.pinned (.plain (OpenSpec.upto armRunsSpec)) armRunsUptoCard

/-- THE SECOND FORM's CARD OF 'bipolelaw02.ArmFlows'. -/
def armFlowsUptoCard : Claim7 := { stood := { row := armFlowsUptoRow, standIns := [], harness := (true, "5e38d7d07dcbcaac2e031df41b6d0984237ba526e25c5356a27ebd257cbcd36d"), looks := false }, kinds := [], alts := [], laidByText := true, laidKinds := [.data, .data, .data], laidTests := true, laidLooks := .later }
def ArmFlowsUptoCardSaid : Prop := Claim7.holds Tryz.pinned (.plain (OpenSpec.upto armFlowsSpec)) armFlowsUptoCard

/-- THE SECOND FORM's CARD OF 'bipolelaw02.ArmChoices'. -/
def armChoicesUptoCard : Claim7 := { stood := { row := armChoicesUptoRow, standIns := [], harness := (true, "5e38d7d07dcbcaac2e031df41b6d0984237ba526e25c5356a27ebd257cbcd36d"), looks := false }, kinds := [], alts := [], laidByText := true, laidKinds := [.data, .data, .data], laidTests := true, laidLooks := .later }
def ArmChoicesUptoCardSaid : Prop := Claim7.holds Tryz.pinned (.plain (OpenSpec.upto armChoicesSpec)) armChoicesUptoCard

/-- THE SECOND FORM's CARD OF 'bipolelaw02.ArmSpreads'. -/
def armSpreadsUptoCard : Claim7 := { stood := { row := armSpreadsUptoRow, standIns := [], harness := (true, "5e38d7d07dcbcaac2e031df41b6d0984237ba526e25c5356a27ebd257cbcd36d"), looks := false }, kinds := [], alts := [], laidByText := true, laidKinds := [.data, .data, .data], laidTests := true, laidLooks := .later }
def ArmSpreadsUptoCardSaid : Prop := Claim7.holds Tryz.pinned (.plain (OpenSpec.upto armSpreadsSpec)) armSpreadsUptoCard

/-- THE SECOND FORM's CARD OF 'bipolelaw02.ArmModules'. -/
def armModulesUptoCard : Claim7 := { stood := { row := armModulesUptoRow, standIns := [], harness := (true, "5e38d7d07dcbcaac2e031df41b6d0984237ba526e25c5356a27ebd257cbcd36d"), looks := false }, kinds := [], alts := [], laidByText := true, laidKinds := [.data, .data, .data], laidTests := true, laidLooks := .later }
def ArmModulesUptoCardSaid : Prop := Claim7.holds Tryz.pinned (.plain (OpenSpec.upto armModulesSpec)) armModulesUptoCard

/-- THE SECOND FORM's CARD OF 'bipolelaw02.ArmKeeps'. -/
def armKeepsUptoCard : Claim7 := { stood := { row := armKeepsUptoRow, standIns := [], harness := (true, "5e38d7d07dcbcaac2e031df41b6d0984237ba526e25c5356a27ebd257cbcd36d"), looks := false }, kinds := [], alts := [], laidByText := true, laidKinds := [.data, .data, .data], laidTests := true, laidLooks := .later }
def ArmKeepsUptoCardSaid : Prop := Claim7.holds Tryz.pinned (.plain (OpenSpec.upto armKeepsSpec)) armKeepsUptoCard

/-- THE SECOND FORM's CARD OF 'bipolelaw02.ArmLevels'. -/
def armLevelsUptoCard : Claim7 := { stood := { row := armLevelsUptoRow, standIns := [], harness := (true, "5e38d7d07dcbcaac2e031df41b6d0984237ba526e25c5356a27ebd257cbcd36d"), looks := false }, kinds := [], alts := [], laidByText := true, laidKinds := [.data, .data, .data], laidTests := true, laidLooks := .later }
def ArmLevelsUptoCardSaid : Prop := Claim7.holds Tryz.pinned (.plain (OpenSpec.upto armLevelsSpec)) armLevelsUptoCard

/-- THE SECOND FORM's CARD OF 'bipolelaw02.ArmTexts'. -/
def armTextsUptoCard : Claim7 := { stood := { row := armTextsUptoRow, standIns := [], harness := (true, "5e38d7d07dcbcaac2e031df41b6d0984237ba526e25c5356a27ebd257cbcd36d"), looks := false }, kinds := [], alts := [], laidByText := true, laidKinds := [.data, .data, .data, .data, .pinned], laidTests := true, laidLooks := .later }
def ArmTextsUptoCardSaid : Prop := Claim7.holds Tryz.pinned (.plain (OpenSpec.upto armTextsSpec)) armTextsUptoCard

/-- THE SECOND FORM's CARD OF 'bipolelaw02.ArmBack'. -/
def armBackUptoCard : Claim7 := { stood := { row := armBackUptoRow, standIns := [], harness := (true, "5e38d7d07dcbcaac2e031df41b6d0984237ba526e25c5356a27ebd257cbcd36d"), looks := false }, kinds := [], alts := [], laidByText := true, laidKinds := [.data, .data, .data, .data, .pinned], laidTests := true, laidLooks := .later }
def ArmBackUptoCardSaid : Prop := Claim7.holds Tryz.pinned (.plain (OpenSpec.upto armBackSpec)) armBackUptoCard
end Rows
end Go.Proofs.YtfpjcnkfoehhmaaGreatDoor
