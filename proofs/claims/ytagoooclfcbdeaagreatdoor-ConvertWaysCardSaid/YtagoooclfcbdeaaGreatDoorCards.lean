/-
  DERIVED. GIVEN WITH THE SEED: THE CARDS: each row of YtagoooclfcbdeaaGreatDoorRows.lean that lists a variable, with what it lists TIED to the program's text (the seventh form; the later family's looks); each row that meets fmt, with fmt's text TOLD by the authors' own Lean function (tested against real Go, not proved from fmt's source: count such statements apart). THE CARD IS WHAT COUNTS. Prove the row's statement (the work); the ties are given (YtagoooclfcbdeaaGreatDoorTie.lean); close each card by the builder's one call (the guide's Derived/Test/ToyasCard.lean, 'card_holds'). Laid BY PROGRAM, IN A SANDBOX (cutbox-door.mjs). By AI agents, Wed Nov 11 2026. No macro, syntax, notation, axiom, sorry.
-/
import Derived.Test.YtagoooclfcbdeaaGreatDoorRows
import GoSem.ClaimSeven
namespace Go.Proofs.YtagoooclfcbdeaaGreatDoor
namespace Rows

/-- THE TIED CARD OF 'swingbridgelaw06.ConvertDoes'. -/
def convertDoesCard : Claim7 := { stood := { row := convertDoesRow, standIns := [], harness := (true, "ecfa6349d50d81c761a7af070b599d5c3d2d5de6d3abd511da2507729f2efabb"), looks := true }, kinds := [], alts := [], laidByText := true, laidKinds := [.data, .data, .data, .handle, .sentinel, .sentinel], laidTests := true, laidLooks := .later }
def ConvertDoesCardSaid : Prop := Claim7.holds Tryz.pinned (.plain (OpenSpec.ofChange convertDoesSpec)) convertDoesCard

/-- THE TIED CARD OF 'swingbridgelaw06.ConvertHolds'. -/
def convertHoldsCard : Claim7 := { stood := { row := convertHoldsRow, standIns := [], harness := (true, "ecfa6349d50d81c761a7af070b599d5c3d2d5de6d3abd511da2507729f2efabb"), looks := true }, kinds := [], alts := [], laidByText := true, laidKinds := [.data, .data, .data, .handle, .sentinel, .sentinel], laidTests := true, laidLooks := .later }
def ConvertHoldsCardSaid : Prop := Claim7.holds Tryz.pinned (.plain (OpenSpec.ofChange convertHoldsSpec)) convertHoldsCard

/-- THE TIED CARD OF 'swingbridgelaw06.ConvertSure'. -/
def convertSureCard : Claim7 := { stood := { row := convertSureRow, standIns := [], harness := (true, "ecfa6349d50d81c761a7af070b599d5c3d2d5de6d3abd511da2507729f2efabb"), looks := true }, kinds := [], alts := [], laidByText := true, laidKinds := [.data, .data, .data, .handle, .sentinel, .sentinel], laidTests := true, laidLooks := .later }
def ConvertSureCardSaid : Prop := Claim7.holds Tryz.pinned (.plain (OpenSpec.ofChange convertSureSpec)) convertSureCard

/-- THE TIED CARD OF 'swingbridgelaw06.ConvertRows'. -/
def convertRowsCard : Claim7 := { stood := { row := convertRowsRow, standIns := [], harness := (true, "ecfa6349d50d81c761a7af070b599d5c3d2d5de6d3abd511da2507729f2efabb"), looks := true }, kinds := [], alts := [], laidByText := true, laidKinds := [.data, .data, .data, .handle, .sentinel, .sentinel], laidTests := true, laidLooks := .later }
def ConvertRowsCardSaid : Prop := Claim7.holds Tryz.pinned (.plain (OpenSpec.ofChange convertRowsSpec)) convertRowsCard

/-- THE TIED CARD OF 'swingbridgelaw06.ConvertWays'. -/
def convertWaysCard : Claim7 := { stood := { row := convertWaysRow, standIns := [], harness := (true, "ecfa6349d50d81c761a7af070b599d5c3d2d5de6d3abd511da2507729f2efabb"), looks := true }, kinds := [], alts := [], laidByText := true, laidKinds := [.data, .data, .data, .handle, .sentinel, .sentinel], laidTests := true, laidLooks := .later }
def ConvertWaysCardSaid : Prop := Claim7.holds Tryz.pinned (.plain (OpenSpec.ofChange convertWaysSpec)) convertWaysCard

/-- THE SECOND FORM's CARD OF 'swingbridgelaw06.ConvertDoes'. -/
def convertDoesUptoCard : Claim7 := { stood := { row := convertDoesUptoRow, standIns := [], harness := (true, "ecfa6349d50d81c761a7af070b599d5c3d2d5de6d3abd511da2507729f2efabb"), looks := true }, kinds := [], alts := [], laidByText := true, laidKinds := [.data, .data, .data, .handle, .sentinel, .sentinel], laidTests := true, laidLooks := .later }
def ConvertDoesUptoCardSaid : Prop := Claim7.holds Tryz.pinned (.plain (OpenSpec.upto convertDoesSpec)) convertDoesUptoCard

/-- THE SECOND FORM's CARD OF 'swingbridgelaw06.ConvertHolds'. -/
def convertHoldsUptoCard : Claim7 := { stood := { row := convertHoldsUptoRow, standIns := [], harness := (true, "ecfa6349d50d81c761a7af070b599d5c3d2d5de6d3abd511da2507729f2efabb"), looks := true }, kinds := [], alts := [], laidByText := true, laidKinds := [.data, .data, .data, .handle, .sentinel, .sentinel], laidTests := true, laidLooks := .later }
def ConvertHoldsUptoCardSaid : Prop := Claim7.holds Tryz.pinned (.plain (OpenSpec.upto convertHoldsSpec)) convertHoldsUptoCard

/-- THE SECOND FORM's CARD OF 'swingbridgelaw06.ConvertSure'. -/
def convertSureUptoCard : Claim7 := { stood := { row := convertSureUptoRow, standIns := [], harness := (true, "ecfa6349d50d81c761a7af070b599d5c3d2d5de6d3abd511da2507729f2efabb"), looks := true }, kinds := [], alts := [], laidByText := true, laidKinds := [.data, .data, .data, .handle, .sentinel, .sentinel], laidTests := true, laidLooks := .later }
def ConvertSureUptoCardSaid : Prop := Claim7.holds Tryz.pinned (.plain (OpenSpec.upto convertSureSpec)) convertSureUptoCard

/-- THE SECOND FORM's CARD OF 'swingbridgelaw06.ConvertRows'. -/
def convertRowsUptoCard : Claim7 := { stood := { row := convertRowsUptoRow, standIns := [], harness := (true, "ecfa6349d50d81c761a7af070b599d5c3d2d5de6d3abd511da2507729f2efabb"), looks := true }, kinds := [], alts := [], laidByText := true, laidKinds := [.data, .data, .data, .handle, .sentinel, .sentinel], laidTests := true, laidLooks := .later }
def ConvertRowsUptoCardSaid : Prop := Claim7.holds Tryz.pinned (.plain (OpenSpec.upto convertRowsSpec)) convertRowsUptoCard

/-- THE SECOND FORM's CARD OF 'swingbridgelaw06.ConvertWays'. -/
def convertWaysUptoCard : Claim7 := { stood := { row := convertWaysUptoRow, standIns := [], harness := (true, "ecfa6349d50d81c761a7af070b599d5c3d2d5de6d3abd511da2507729f2efabb"), looks := true }, kinds := [], alts := [], laidByText := true, laidKinds := [.data, .data, .data, .handle, .sentinel, .sentinel], laidTests := true, laidLooks := .later }
def ConvertWaysUptoCardSaid : Prop := Claim7.holds Tryz.pinned (.plain (OpenSpec.upto convertWaysSpec)) convertWaysUptoCard
end Rows
end Go.Proofs.YtagoooclfcbdeaaGreatDoor
