/-
  DERIVED. GIVEN WITH THE SEED: THE CARDS: each row of YtdgmhegcoogokaaDoorRows.lean that lists a variable, with what it lists TIED to the program's text (the seventh form; the later family's looks); each row that meets fmt, with fmt's text TOLD by the authors' own Lean function (tested against real Go, not proved from fmt's source: count such statements apart). THE CARD IS WHAT COUNTS. Prove the row's statement (the work); the ties are given (YtdgmhegcoogokaaDoorTie.lean); close each card by the builder's one call (the guide's Derived/Test/ToyasCard.lean, 'card_holds'). Laid BY PROGRAM, IN A SANDBOX (cutbox-door.mjs). By AI agents, Wed Nov 11 2026. No macro, syntax, notation, axiom, sorry.
-/
import Derived.Test.YtdgmhegcoogokaaDoorRows
import GoSem.ClaimSeven
namespace Go.Proofs.YtdgmhegcoogokaaDoor
namespace Rows

/-- THE TIED CARD OF 'swingbridgelaw05.KeyBytes'. -/
def keyBytesCard : Claim7 := { stood := { row := keyBytesRow, standIns := [], harness := (true, "c107250e12105363bc08452e4cf9b084f3bf7003f8557000d478a5c1016dc695"), looks := true }, kinds := [], alts := [], laidByText := true, laidKinds := [.data, .data, .data], laidTests := true, laidLooks := .later }
def KeyBytesCardSaid : Prop := Claim7.holds Tryd.pinned (.plain (OpenSpec.ofChange keyBytesSpec)) keyBytesCard

/-- THE TIED CARD OF 'swingbridgelaw05.KeyReads'. -/
def keyReadsCard : Claim7 := { stood := { row := keyReadsRow, standIns := [], harness := (true, "c107250e12105363bc08452e4cf9b084f3bf7003f8557000d478a5c1016dc695"), looks := true }, kinds := [], alts := [], laidByText := true, laidKinds := [.data, .data, .data], laidTests := true, laidLooks := .later }
def KeyReadsCardSaid : Prop := Claim7.holds Tryd.pinned (.plain (OpenSpec.ofChange keyReadsSpec)) keyReadsCard

/-- THE TIED CARD OF 'swingbridgelaw05.KeyEach'. -/
def keyEachCard : Claim7 := { stood := { row := keyEachRow, standIns := [], harness := (true, "c107250e12105363bc08452e4cf9b084f3bf7003f8557000d478a5c1016dc695"), looks := true }, kinds := [], alts := [], laidByText := true, laidKinds := [.data, .data, .data], laidTests := true, laidLooks := .later }
def KeyEachCardSaid : Prop := Claim7.holds Tryd.pinned (.plain (OpenSpec.ofChange keyEachSpec)) keyEachCard

/-- THE TIED CARD OF 'swingbridgelaw05.KeyHolds'. -/
def keyHoldsCard : Claim7 := { stood := { row := keyHoldsRow, standIns := [], harness := (true, "c107250e12105363bc08452e4cf9b084f3bf7003f8557000d478a5c1016dc695"), looks := true }, kinds := [], alts := [], laidByText := true, laidKinds := [.data, .data, .data], laidTests := true, laidLooks := .later }
def KeyHoldsCardSaid : Prop := Claim7.holds Tryd.pinned (.plain (OpenSpec.ofChange keyHoldsSpec)) keyHoldsCard

/-- THE TIED CARD OF 'swingbridgelaw05.KeyBehind'. -/
def keyBehindCard : Claim7 := { stood := { row := keyBehindRow, standIns := [], harness := (true, "c107250e12105363bc08452e4cf9b084f3bf7003f8557000d478a5c1016dc695"), looks := true }, kinds := [], alts := [], laidByText := true, laidKinds := [.data, .data, .data], laidTests := true, laidLooks := .later }
def KeyBehindCardSaid : Prop := Claim7.holds Tryd.pinned (.plain (OpenSpec.ofChange keyBehindSpec)) keyBehindCard

/-- THE SECOND FORM's CARD OF 'swingbridgelaw05.KeyBytes'. -/
def keyBytesUptoCard : Claim7 := { stood := { row := keyBytesUptoRow, standIns := [], harness := (true, "c107250e12105363bc08452e4cf9b084f3bf7003f8557000d478a5c1016dc695"), looks := true }, kinds := [], alts := [], laidByText := true, laidKinds := [.data, .data, .data], laidTests := true, laidLooks := .later }
def KeyBytesUptoCardSaid : Prop := Claim7.holds Tryd.pinned (.plain (OpenSpec.upto keyBytesSpec)) keyBytesUptoCard

/-- THE SECOND FORM's CARD OF 'swingbridgelaw05.KeyReads'. -/
def keyReadsUptoCard : Claim7 := { stood := { row := keyReadsUptoRow, standIns := [], harness := (true, "c107250e12105363bc08452e4cf9b084f3bf7003f8557000d478a5c1016dc695"), looks := true }, kinds := [], alts := [], laidByText := true, laidKinds := [.data, .data, .data], laidTests := true, laidLooks := .later }
def KeyReadsUptoCardSaid : Prop := Claim7.holds Tryd.pinned (.plain (OpenSpec.upto keyReadsSpec)) keyReadsUptoCard

/-- THE SECOND FORM's CARD OF 'swingbridgelaw05.KeyEach'. -/
def keyEachUptoCard : Claim7 := { stood := { row := keyEachUptoRow, standIns := [], harness := (true, "c107250e12105363bc08452e4cf9b084f3bf7003f8557000d478a5c1016dc695"), looks := true }, kinds := [], alts := [], laidByText := true, laidKinds := [.data, .data, .data], laidTests := true, laidLooks := .later }
def KeyEachUptoCardSaid : Prop := Claim7.holds Tryd.pinned (.plain (OpenSpec.upto keyEachSpec)) keyEachUptoCard

/-- THE SECOND FORM's CARD OF 'swingbridgelaw05.KeyHolds'. -/
def keyHoldsUptoCard : Claim7 := { stood := { row := keyHoldsUptoRow, standIns := [], harness := (true, "c107250e12105363bc08452e4cf9b084f3bf7003f8557000d478a5c1016dc695"), looks := true }, kinds := [], alts := [], laidByText := true, laidKinds := [.data, .data, .data], laidTests := true, laidLooks := .later }
def KeyHoldsUptoCardSaid : Prop := Claim7.holds Tryd.pinned (.plain (OpenSpec.upto keyHoldsSpec)) keyHoldsUptoCard

/-- THE SECOND FORM's CARD OF 'swingbridgelaw05.KeyBehind'. -/
def keyBehindUptoCard : Claim7 := { stood := { row := keyBehindUptoRow, standIns := [], harness := (true, "c107250e12105363bc08452e4cf9b084f3bf7003f8557000d478a5c1016dc695"), looks := true }, kinds := [], alts := [], laidByText := true, laidKinds := [.data, .data, .data], laidTests := true, laidLooks := .later }
def KeyBehindUptoCardSaid : Prop := Claim7.holds Tryd.pinned (.plain (OpenSpec.upto keyBehindSpec)) keyBehindUptoCard
end Rows
end Go.Proofs.YtdgmhegcoogokaaDoor
