/-
  DERIVED. GIVEN WITH THE SEED: THE CARDS: each row of YtjakigncloleaaaDoorRows.lean that lists a variable, with what it lists TIED to the program's text (the seventh form; the later family's looks); each row that meets fmt, with fmt's text TOLD by the authors' own Lean function (tested against real Go, not proved from fmt's source: count such statements apart). THE CARD IS WHAT COUNTS. Prove the row's statement (the work); the ties are given (YtjakigncloleaaaDoorTie.lean); close each card by the builder's one call (the guide's Derived/Test/ToyasCard.lean, 'card_holds'). Laid BY PROGRAM, IN A SANDBOX (cutbox-door.mjs). By AI agents, Wed Nov 11 2026. No macro, syntax, notation, axiom, sorry.
-/
import Derived.Test.YtjakigncloleaaaDoorRows
import GoSem.ClaimSeven
namespace Go.Proofs.YtjakigncloleaaaDoor
namespace Rows

/-- THE TIED CARD OF 'bipoletop.TopThimbleRotating'. -/
def topThimbleRotatingCard : Claim7 := { stood := { row := topThimbleRotatingRow, standIns := [], harness := (true, "aae218d05ce0f484e9f4266d2066f40bc8d35f710a7ef2dfe975e72c5d11680b"), looks := false }, kinds := [], alts := [], laidByText := true, laidKinds := [.wider, .wider], laidTests := true, laidLooks := .later }
def TopThimbleRotatingCardSaid : Prop := Claim7.holds Tryd.pinned (.plain (OpenSpec.ofChange topThimbleRotatingSpec)) topThimbleRotatingCard

/-- THE TIED CARD OF 'bipoletop.TopShackleHeat'. -/
def topShackleHeatCard : Claim7 := { stood := { row := topShackleHeatRow, standIns := [], harness := (true, "aae218d05ce0f484e9f4266d2066f40bc8d35f710a7ef2dfe975e72c5d11680b"), looks := false }, kinds := [], alts := [], laidByText := true, laidKinds := [.data], laidTests := true, laidLooks := .later }
def TopShackleHeatCardSaid : Prop := Claim7.holds Tryd.pinned (.plain (OpenSpec.ofChange topShackleHeatSpec)) topShackleHeatCard

/-- THE SECOND FORM's CARD OF 'bipoletop.TopThimbleRotating'. -/
def topThimbleRotatingUptoCard : Claim7 := { stood := { row := topThimbleRotatingUptoRow, standIns := [], harness := (true, "aae218d05ce0f484e9f4266d2066f40bc8d35f710a7ef2dfe975e72c5d11680b"), looks := false }, kinds := [], alts := [], laidByText := true, laidKinds := [.wider, .wider], laidTests := true, laidLooks := .later }
def TopThimbleRotatingUptoCardSaid : Prop := Claim7.holds Tryd.pinned (.plain (OpenSpec.upto topThimbleRotatingSpec)) topThimbleRotatingUptoCard

/-- THE SECOND FORM's CARD OF 'bipoletop.TopShackleHeat'. -/
def topShackleHeatUptoCard : Claim7 := { stood := { row := topShackleHeatUptoRow, standIns := [], harness := (true, "aae218d05ce0f484e9f4266d2066f40bc8d35f710a7ef2dfe975e72c5d11680b"), looks := false }, kinds := [], alts := [], laidByText := true, laidKinds := [.data], laidTests := true, laidLooks := .later }
def TopShackleHeatUptoCardSaid : Prop := Claim7.holds Tryd.pinned (.plain (OpenSpec.upto topShackleHeatSpec)) topShackleHeatUptoCard
end Rows
end Go.Proofs.YtjakigncloleaaaDoor
