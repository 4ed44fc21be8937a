/-
  DERIVED. GIVEN WITH THE SEED: THE CARDS: each row of YtphlojgmfkgeiaaGreatDoorRows.lean that lists a variable, with what it lists TIED to the program's text (the seventh form; the later family's looks); each row that meets fmt, with fmt's text TOLD by the authors' own Lean function (tested against real Go, not proved from fmt's source: count such statements apart). THE CARD IS WHAT COUNTS. Prove the row's statement (the work); the ties are given (YtphlojgmfkgeiaaGreatDoorTie.lean); close each card by the builder's one call (the guide's Derived/Test/ToyasCard.lean, 'card_holds'). Laid BY PROGRAM, IN A SANDBOX (cutbox-door.mjs). By AI agents, Wed Nov 11 2026. No macro, syntax, notation, axiom, sorry.
-/
import Derived.Test.YtphlojgmfkgeiaaGreatDoorRows
import GoSem.ClaimSeven
namespace Go.Proofs.YtphlojgmfkgeiaaGreatDoor
namespace Rows

/-- THE TIED CARD OF 'bipolelaw09.PermitBarriers'. -/
def permitBarriersCard : Claim7 := { stood := { row := permitBarriersRow, standIns := [], harness := (true, "0e7184a0faf646af2e89606aa4d5b63c2af5ba9d42dc060a8656d169a5f4f74d"), looks := false }, kinds := [], alts := [], laidByText := true, laidKinds := [.widerDeep, .widerDeep], laidTests := true, laidLooks := .later }
def PermitBarriersCardSaid : Prop := Claim7.holds Tryz.pinned (.plain (OpenSpec.ofChange permitBarriersSpec)) permitBarriersCard

/-- THE TIED CARD OF 'bipolelaw09.PermitYards'. -/
def permitYardsCard : Claim7 := { stood := { row := permitYardsRow, standIns := [], harness := (true, "0e7184a0faf646af2e89606aa4d5b63c2af5ba9d42dc060a8656d169a5f4f74d"), looks := false }, kinds := [], alts := [], laidByText := true, laidKinds := [.widerDeep, .widerDeep], laidTests := true, laidLooks := .later }
def PermitYardsCardSaid : Prop := Claim7.holds Tryz.pinned (.plain (OpenSpec.ofChange permitYardsSpec)) permitYardsCard

/-- THE TIED CARD OF 'bipolelaw09.PermitIslands'. -/
def permitIslandsCard : Claim7 := { stood := { row := permitIslandsRow, standIns := [], harness := (true, "0e7184a0faf646af2e89606aa4d5b63c2af5ba9d42dc060a8656d169a5f4f74d"), looks := false }, kinds := [], alts := [], laidByText := true, laidKinds := [.widerDeep, .widerDeep], laidTests := true, laidLooks := .later }
def PermitIslandsCardSaid : Prop := Claim7.holds Tryz.pinned (.plain (OpenSpec.ofChange permitIslandsSpec)) permitIslandsCard

/-- THE TIED CARD OF 'bipolelaw09.PermitStates'. -/
def permitStatesCard : Claim7 := { stood := { row := permitStatesRow, standIns := [], harness := (true, "0e7184a0faf646af2e89606aa4d5b63c2af5ba9d42dc060a8656d169a5f4f74d"), looks := false }, kinds := [], alts := [], laidByText := true, laidKinds := [.widerDeep, .widerDeep], laidTests := true, laidLooks := .later }
def PermitStatesCardSaid : Prop := Claim7.holds Tryz.pinned (.plain (OpenSpec.ofChange permitStatesSpec)) permitStatesCard

/-- THE TIED CARD OF 'bipolelaw09.PermitOrders'. -/
def permitOrdersCard : Claim7 := { stood := { row := permitOrdersRow, standIns := [], harness := (true, "0e7184a0faf646af2e89606aa4d5b63c2af5ba9d42dc060a8656d169a5f4f74d"), looks := false }, kinds := [], alts := [], laidByText := true, laidKinds := [.widerDeep, .widerDeep], laidTests := true, laidLooks := .later }
def PermitOrdersCardSaid : Prop := Claim7.holds Tryz.pinned (.plain (OpenSpec.ofChange permitOrdersSpec)) permitOrdersCard

/-- THE TIED CARD OF 'bipolelaw09.PermitMoves'. -/
def permitMovesCard : Claim7 := { stood := { row := permitMovesRow, standIns := [], harness := (true, "0e7184a0faf646af2e89606aa4d5b63c2af5ba9d42dc060a8656d169a5f4f74d"), looks := false }, kinds := [], alts := [], laidByText := true, laidKinds := [.widerDeep, .widerDeep], laidTests := true, laidLooks := .later }
def PermitMovesCardSaid : Prop := Claim7.holds Tryz.pinned (.plain (OpenSpec.ofChange permitMovesSpec)) permitMovesCard

/-- THE TIED CARD OF 'bipolelaw09.PermitReaches'. -/
def permitReachesCard : Claim7 := { stood := { row := permitReachesRow, standIns := [], harness := (true, "0e7184a0faf646af2e89606aa4d5b63c2af5ba9d42dc060a8656d169a5f4f74d"), looks := false }, kinds := [], alts := [], laidByText := true, laidKinds := [.widerDeep, .widerDeep], laidTests := true, laidLooks := .later }
def PermitReachesCardSaid : Prop := Claim7.holds Tryz.pinned (.plain (OpenSpec.ofChange permitReachesSpec)) permitReachesCard

/-- THE TIED CARD OF 'bipolelaw09.PermitActs'. -/
def permitActsCard : Claim7 := { stood := { row := permitActsRow, standIns := [], harness := (true, "0e7184a0faf646af2e89606aa4d5b63c2af5ba9d42dc060a8656d169a5f4f74d"), looks := false }, kinds := [], alts := [], laidByText := true, laidKinds := [.widerDeep, .widerDeep], laidTests := true, laidLooks := .later }
def PermitActsCardSaid : Prop := Claim7.holds Tryz.pinned (.plain (OpenSpec.ofChange permitActsSpec)) permitActsCard

/-- THE TIED CARD OF 'bipolelaw09.PermitNever'. -/
def permitNeverCard : Claim7 := { stood := { row := permitNeverRow, standIns := [], harness := (true, "0e7184a0faf646af2e89606aa4d5b63c2af5ba9d42dc060a8656d169a5f4f74d"), looks := false }, kinds := [], alts := [], laidByText := true, laidKinds := [.widerDeep, .widerDeep], laidTests := true, laidLooks := .later }
def PermitNeverCardSaid : Prop := Claim7.holds Tryz.pinned (.plain (OpenSpec.ofChange permitNeverSpec)) permitNeverCard

/-- THE TIED CARD OF 'bipolelaw09.PermitTexts'. -/
def permitTextsCard : Claim7 := { stood := { row := permitTextsRow, standIns := [], harness := (true, "0e7184a0faf646af2e89606aa4d5b63c2af5ba9d42dc060a8656d169a5f4f74d"), looks := false }, kinds := [], alts := [], laidByText := true, laidKinds := [.data, .widerDeep, .widerDeep, .pinned], laidTests := true, laidLooks := .later }
def PermitTextsCardSaid : Prop := Claim7.holds Tryz.pinned (.plain (OpenSpec.ofChange permitTextsSpec)) permitTextsCard

/-- THE TIED CARD OF 'bipolelaw09.PermitBack'. -/
def permitBackCard : Claim7 := { stood := { row := permitBackRow, standIns := [], harness := (true, "0e7184a0faf646af2e89606aa4d5b63c2af5ba9d42dc060a8656d169a5f4f74d"), looks := false }, kinds := [], alts := [], laidByText := true, laidKinds := [.data, .widerDeep, .widerDeep, .pinned], laidTests := true, laidLooks := .later }
def PermitBackCardSaid : Prop := Claim7.holds Tryz.pinned (.plain (OpenSpec.ofChange permitBackSpec)) permitBackCard

/-- THE SECOND FORM's CARD OF 'bipolelaw09.PermitBarriers'. -/
def permitBarriersUptoCard : Claim7 := { stood := { row := permitBarriersUptoRow, standIns := [], harness := (true, "0e7184a0faf646af2e89606aa4d5b63c2af5ba9d42dc060a8656d169a5f4f74d"), looks := false }, kinds := [], alts := [], laidByText := true, laidKinds := [.widerDeep, .widerDeep], laidTests := true, laidLooks := .later }
def PermitBarriersUptoCardSaid : Prop := Claim7.holds Tryz.pinned (.plain (OpenSpec.upto permitBarriersSpec)) permitBarriersUptoCard

/-- THE SECOND FORM's CARD OF 'bipolelaw09.PermitYards'. -/
def permitYardsUptoCard : Claim7 := { stood := { row := permitYardsUptoRow, standIns := [], harness := (true, "0e7184a0faf646af2e89606aa4d5b63c2af5ba9d42dc060a8656d169a5f4f74d"), looks := false }, kinds := [], alts := [], laidByText := true, laidKinds := [.widerDeep, .widerDeep], laidTests := true, laidLooks := .later }
def PermitYardsUptoCardSaid : Prop := Claim7.holds Tryz.pinned (.plain (OpenSpec.upto permitYardsSpec)) permitYardsUptoCard

/-- THE SECOND FORM's CARD OF 'bipolelaw09.PermitIslands'. -/
def permitIslandsUptoCard : Claim7 := { stood := { row := permitIslandsUptoRow, standIns := [], harness := (true, "0e7184a0faf646af2e89606aa4d5b63c2af5ba9d42dc060a8656d169a5f4f74d"), looks := false }, kinds := [], alts := [], laidByText := true, laidKinds := [.widerDeep, .widerDeep], laidTests := true, laidLooks := .later }
def PermitIslandsUptoCardSaid : Prop := Claim7.holds Tryz.pinned (.plain (OpenSpec.upto permitIslandsSpec)) permitIslandsUptoCard

/-- THE SECOND FORM's CARD OF 'bipolelaw09.PermitStates'. -/
def permitStatesUptoCard : Claim7 := { stood := { row := permitStatesUptoRow, standIns := [], harness := (true, "0e7184a0faf646af2e89606aa4d5b63c2af5ba9d42dc060a8656d169a5f4f74d"), looks := false }, kinds := [], alts := [], laidByText := true, laidKinds := [.widerDeep, .widerDeep], laidTests := true, laidLooks := .later }
def PermitStatesUptoCardSaid : Prop := Claim7.holds Tryz.pinned (.plain (OpenSpec.upto permitStatesSpec)) permitStatesUptoCard

/-- THE SECOND FORM's CARD OF 'bipolelaw09.PermitOrders'. -/
def permitOrdersUptoCard : Claim7 := { stood := { row := permitOrdersUptoRow, standIns := [], harness := (true, "0e7184a0faf646af2e89606aa4d5b63c2af5ba9d42dc060a8656d169a5f4f74d"), looks := false }, kinds := [], alts := [], laidByText := true, laidKinds := [.widerDeep, .widerDeep], laidTests := true, laidLooks := .later }
def PermitOrdersUptoCardSaid : Prop := Claim7.holds Tryz.pinned (.plain (OpenSpec.upto permitOrdersSpec)) permitOrdersUptoCard

/-- THE SECOND FORM's CARD OF 'bipolelaw09.PermitMoves'. -/
def permitMovesUptoCard : Claim7 := { stood := { row := permitMovesUptoRow, standIns := [], harness := (true, "0e7184a0faf646af2e89606aa4d5b63c2af5ba9d42dc060a8656d169a5f4f74d"), looks := false }, kinds := [], alts := [], laidByText := true, laidKinds := [.widerDeep, .widerDeep], laidTests := true, laidLooks := .later }
def PermitMovesUptoCardSaid : Prop := Claim7.holds Tryz.pinned (.plain (OpenSpec.upto permitMovesSpec)) permitMovesUptoCard

/-- THE SECOND FORM's CARD OF 'bipolelaw09.PermitReaches'. -/
def permitReachesUptoCard : Claim7 := { stood := { row := permitReachesUptoRow, standIns := [], harness := (true, "0e7184a0faf646af2e89606aa4d5b63c2af5ba9d42dc060a8656d169a5f4f74d"), looks := false }, kinds := [], alts := [], laidByText := true, laidKinds := [.widerDeep, .widerDeep], laidTests := true, laidLooks := .later }
def PermitReachesUptoCardSaid : Prop := Claim7.holds Tryz.pinned (.plain (OpenSpec.upto permitReachesSpec)) permitReachesUptoCard

/-- THE SECOND FORM's CARD OF 'bipolelaw09.PermitActs'. -/
def permitActsUptoCard : Claim7 := { stood := { row := permitActsUptoRow, standIns := [], harness := (true, "0e7184a0faf646af2e89606aa4d5b63c2af5ba9d42dc060a8656d169a5f4f74d"), looks := false }, kinds := [], alts := [], laidByText := true, laidKinds := [.widerDeep, .widerDeep], laidTests := true, laidLooks := .later }
def PermitActsUptoCardSaid : Prop := Claim7.holds Tryz.pinned (.plain (OpenSpec.upto permitActsSpec)) permitActsUptoCard

/-- THE SECOND FORM's CARD OF 'bipolelaw09.PermitNever'. -/
def permitNeverUptoCard : Claim7 := { stood := { row := permitNeverUptoRow, standIns := [], harness := (true, "0e7184a0faf646af2e89606aa4d5b63c2af5ba9d42dc060a8656d169a5f4f74d"), looks := false }, kinds := [], alts := [], laidByText := true, laidKinds := [.widerDeep, .widerDeep], laidTests := true, laidLooks := .later }
def PermitNeverUptoCardSaid : Prop := Claim7.holds Tryz.pinned (.plain (OpenSpec.upto permitNeverSpec)) permitNeverUptoCard

/-- THE SECOND FORM's CARD OF 'bipolelaw09.PermitTexts'. -/
def permitTextsUptoCard : Claim7 := { stood := { row := permitTextsUptoRow, standIns := [], harness := (true, "0e7184a0faf646af2e89606aa4d5b63c2af5ba9d42dc060a8656d169a5f4f74d"), looks := false }, kinds := [], alts := [], laidByText := true, laidKinds := [.data, .widerDeep, .widerDeep, .pinned], laidTests := true, laidLooks := .later }
def PermitTextsUptoCardSaid : Prop := Claim7.holds Tryz.pinned (.plain (OpenSpec.upto permitTextsSpec)) permitTextsUptoCard

/-- THE SECOND FORM's CARD OF 'bipolelaw09.PermitBack'. -/
def permitBackUptoCard : Claim7 := { stood := { row := permitBackUptoRow, standIns := [], harness := (true, "0e7184a0faf646af2e89606aa4d5b63c2af5ba9d42dc060a8656d169a5f4f74d"), looks := false }, kinds := [], alts := [], laidByText := true, laidKinds := [.data, .widerDeep, .widerDeep, .pinned], laidTests := true, laidLooks := .later }
def PermitBackUptoCardSaid : Prop := Claim7.holds Tryz.pinned (.plain (OpenSpec.upto permitBackSpec)) permitBackUptoCard
end Rows
end Go.Proofs.YtphlojgmfkgeiaaGreatDoor
