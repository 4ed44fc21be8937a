/-
  DERIVED. GIVEN WITH THE SEED: THE CARDS: each row of YtjanojmgnpfjeaaGreatDoorRows.lean that lists a variable, with what it lists TIED to the program's text (the seventh form; the later family's looks); each row that meets fmt, with fmt's text TOLD by the authors' own Lean function (tested against real Go, not proved from fmt's source: count such statements apart). THE CARD IS WHAT COUNTS. Prove the row's statement (the work); the ties are given (YtjanojmgnpfjeaaGreatDoorTie.lean); close each card by the builder's one call (the guide's Derived/Test/ToyasCard.lean, 'card_holds'). Laid BY PROGRAM, IN A SANDBOX (cutbox-door.mjs). By AI agents, Wed Nov 11 2026. No macro, syntax, notation, axiom, sorry.
-/
import Derived.Test.YtjanojmgnpfjeaaGreatDoorRows
import GoSem.ClaimSeven
namespace Go.Proofs.YtjanojmgnpfjeaaGreatDoor
namespace Rows

/-- THE TIED CARD OF 'bipolelaw02.ArmLevels'. -/
def armLevelsCard : Claim7 := { stood := { row := armLevelsRow, standIns := [], harness := (true, "7297c98d363c92d842d49a50dee1ead8cf6caea432c94a70c02f4b86c922ba4a"), looks := false }, kinds := [], alts := [], laidByText := true, laidKinds := [.data, .data, .data], laidTests := true, laidLooks := .later }
def ArmLevelsCardSaid : Prop := Claim7.holds Tryz.pinned (.plain (OpenSpec.ofChange armLevelsSpec)) armLevelsCard

/-- THE TIED CARD OF 'bipolelaw02.ArmTexts'. -/
def armTextsCard : Claim7 := { stood := { row := armTextsRow, standIns := [], harness := (true, "7297c98d363c92d842d49a50dee1ead8cf6caea432c94a70c02f4b86c922ba4a"), looks := false }, kinds := [], alts := [], laidByText := true, laidKinds := [.data, .data, .data, .data, .pinned], laidTests := true, laidLooks := .later }
def ArmTextsCardSaid : Prop := Claim7.holds Tryz.pinned (.plain (OpenSpec.ofChange armTextsSpec)) armTextsCard

/-- THE TIED CARD OF 'bipolelaw02.ArmBack'. -/
def armBackCard : Claim7 := { stood := { row := armBackRow, standIns := [], harness := (true, "7297c98d363c92d842d49a50dee1ead8cf6caea432c94a70c02f4b86c922ba4a"), looks := false }, kinds := [], alts := [], laidByText := true, laidKinds := [.data, .data, .data, .data, .pinned], laidTests := true, laidLooks := .later }
def ArmBackCardSaid : Prop := Claim7.holds Tryz.pinned (.plain (OpenSpec.ofChange armBackSpec)) armBackCard

/-- THE TIED CARD OF 'bipoletop.TopShacklePulses'. -/
def topShacklePulsesCard : Claim7 := { stood := { row := topShacklePulsesRow, standIns := [], harness := (true, "7297c98d363c92d842d49a50dee1ead8cf6caea432c94a70c02f4b86c922ba4a"), looks := false }, kinds := [], alts := [], laidByText := true, laidKinds := [.data, .data, .data], laidTests := true, laidLooks := .later }
def TopShacklePulsesCardSaid : Prop := Claim7.holds Tryz.pinned (.plain (OpenSpec.ofChange topShacklePulsesSpec)) topShacklePulsesCard

/-- THE SECOND FORM's CARD OF 'bipolelaw02.ArmLevels'. -/
def armLevelsUptoCard : Claim7 := { stood := { row := armLevelsUptoRow, standIns := [], harness := (true, "7297c98d363c92d842d49a50dee1ead8cf6caea432c94a70c02f4b86c922ba4a"), looks := false }, kinds := [], alts := [], laidByText := true, laidKinds := [.data, .data, .data], laidTests := true, laidLooks := .later }
def ArmLevelsUptoCardSaid : Prop := Claim7.holds Tryz.pinned (.plain (OpenSpec.upto armLevelsSpec)) armLevelsUptoCard

/-- THE SECOND FORM's CARD OF 'bipolelaw02.ArmTexts'. -/
def armTextsUptoCard : Claim7 := { stood := { row := armTextsUptoRow, standIns := [], harness := (true, "7297c98d363c92d842d49a50dee1ead8cf6caea432c94a70c02f4b86c922ba4a"), looks := false }, kinds := [], alts := [], laidByText := true, laidKinds := [.data, .data, .data, .data, .pinned], laidTests := true, laidLooks := .later }
def ArmTextsUptoCardSaid : Prop := Claim7.holds Tryz.pinned (.plain (OpenSpec.upto armTextsSpec)) armTextsUptoCard

/-- THE SECOND FORM's CARD OF 'bipolelaw02.ArmBack'. -/
def armBackUptoCard : Claim7 := { stood := { row := armBackUptoRow, standIns := [], harness := (true, "7297c98d363c92d842d49a50dee1ead8cf6caea432c94a70c02f4b86c922ba4a"), looks := false }, kinds := [], alts := [], laidByText := true, laidKinds := [.data, .data, .data, .data, .pinned], laidTests := true, laidLooks := .later }
def ArmBackUptoCardSaid : Prop := Claim7.holds Tryz.pinned (.plain (OpenSpec.upto armBackSpec)) armBackUptoCard

/-- THE SECOND FORM's CARD OF 'bipoletop.TopShacklePulses'. -/
def topShacklePulsesUptoCard : Claim7 := { stood := { row := topShacklePulsesUptoRow, standIns := [], harness := (true, "7297c98d363c92d842d49a50dee1ead8cf6caea432c94a70c02f4b86c922ba4a"), looks := false }, kinds := [], alts := [], laidByText := true, laidKinds := [.data, .data, .data], laidTests := true, laidLooks := .later }
def TopShacklePulsesUptoCardSaid : Prop := Claim7.holds Tryz.pinned (.plain (OpenSpec.upto topShacklePulsesSpec)) topShacklePulsesUptoCard
end Rows
end Go.Proofs.YtjanojmgnpfjeaaGreatDoor
