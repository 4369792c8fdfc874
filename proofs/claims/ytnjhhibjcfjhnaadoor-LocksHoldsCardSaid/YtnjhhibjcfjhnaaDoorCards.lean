/-
  DERIVED. GIVEN WITH THE SEED: THE CARDS: each row of YtnjhhibjcfjhnaaDoorRows.lean that lists a variable, with what it lists TIED to the program's text (the seventh form; the later family's looks); each row that meets fmt, with fmt's text TOLD by the authors' own Lean function (tested against real Go, not proved from fmt's source: count such statements apart). THE CARD IS WHAT COUNTS. Prove the row's statement (the work); the ties are given (YtnjhhibjcfjhnaaDoorTie.lean); close each card by the builder's one call (the guide's Derived/Test/ToyasCard.lean, 'card_holds'). Laid BY PROGRAM, IN A SANDBOX (cutbox-door.mjs). By AI agents, Wed Nov 11 2026. No macro, syntax, notation, axiom, sorry.
-/
import Derived.Test.YtnjhhibjcfjhnaaDoorRows
import GoSem.ClaimSeven
namespace Go.Proofs.YtnjhhibjcfjhnaaDoor
namespace Rows

/-- THE TIED CARD OF 'swingbridgelaw17.LocksHolds'. -/
def locksHoldsCard : Claim7 := { stood := { row := locksHoldsRow, standIns := [], harness := (true, "014b44803b755f0f37368eff06770390c59e06136d7381c4bfc8fd8baebc685d"), looks := true }, kinds := [], alts := [], laidByText := true, laidKinds := [.handle], laidTests := true, laidLooks := .later }
def LocksHoldsCardSaid : Prop := Claim7.holds Tryd.pinned (.plain (OpenSpec.ofChange locksHoldsSpec)) locksHoldsCard

/-- THE TIED CARD OF 'swingbridgelaw17.LocksPlays'. -/
def locksPlaysCard : Claim7 := { stood := { row := locksPlaysRow, standIns := [], harness := (true, "014b44803b755f0f37368eff06770390c59e06136d7381c4bfc8fd8baebc685d"), looks := true }, kinds := [], alts := [], laidByText := true, laidKinds := [.handle], laidTests := true, laidLooks := .later }
def LocksPlaysCardSaid : Prop := Claim7.holds Tryd.pinned (.plain (OpenSpec.ofChange locksPlaysSpec)) locksPlaysCard

/-- THE TIED CARD OF 'swingbridgelaw17.LocksNone'. -/
def locksNoneCard : Claim7 := { stood := { row := locksNoneRow, standIns := [], harness := (true, "014b44803b755f0f37368eff06770390c59e06136d7381c4bfc8fd8baebc685d"), looks := true }, kinds := [], alts := [], laidByText := true, laidKinds := [.handle], laidTests := true, laidLooks := .later }
def LocksNoneCardSaid : Prop := Claim7.holds Tryd.pinned (.plain (OpenSpec.ofChange locksNoneSpec)) locksNoneCard

/-- THE TIED CARD OF 'swingbridgelaw17.LocksCopies'. -/
def locksCopiesCard : Claim7 := { stood := { row := locksCopiesRow, standIns := [], harness := (true, "014b44803b755f0f37368eff06770390c59e06136d7381c4bfc8fd8baebc685d"), looks := true }, kinds := [], alts := [], laidByText := true, laidKinds := [.handle], laidTests := true, laidLooks := .later }
def LocksCopiesCardSaid : Prop := Claim7.holds Tryd.pinned (.plain (OpenSpec.ofChange locksCopiesSpec)) locksCopiesCard

/-- THE SECOND FORM's CARD OF 'swingbridgelaw17.LocksHolds'. -/
def locksHoldsUptoCard : Claim7 := { stood := { row := locksHoldsUptoRow, standIns := [], harness := (true, "014b44803b755f0f37368eff06770390c59e06136d7381c4bfc8fd8baebc685d"), looks := true }, kinds := [], alts := [], laidByText := true, laidKinds := [.handle], laidTests := true, laidLooks := .later }
def LocksHoldsUptoCardSaid : Prop := Claim7.holds Tryd.pinned (.plain (OpenSpec.upto locksHoldsSpec)) locksHoldsUptoCard

/-- THE SECOND FORM's CARD OF 'swingbridgelaw17.LocksPlays'. -/
def locksPlaysUptoCard : Claim7 := { stood := { row := locksPlaysUptoRow, standIns := [], harness := (true, "014b44803b755f0f37368eff06770390c59e06136d7381c4bfc8fd8baebc685d"), looks := true }, kinds := [], alts := [], laidByText := true, laidKinds := [.handle], laidTests := true, laidLooks := .later }
def LocksPlaysUptoCardSaid : Prop := Claim7.holds Tryd.pinned (.plain (OpenSpec.upto locksPlaysSpec)) locksPlaysUptoCard

/-- THE SECOND FORM's CARD OF 'swingbridgelaw17.LocksNone'. -/
def locksNoneUptoCard : Claim7 := { stood := { row := locksNoneUptoRow, standIns := [], harness := (true, "014b44803b755f0f37368eff06770390c59e06136d7381c4bfc8fd8baebc685d"), looks := true }, kinds := [], alts := [], laidByText := true, laidKinds := [.handle], laidTests := true, laidLooks := .later }
def LocksNoneUptoCardSaid : Prop := Claim7.holds Tryd.pinned (.plain (OpenSpec.upto locksNoneSpec)) locksNoneUptoCard

/-- THE SECOND FORM's CARD OF 'swingbridgelaw17.LocksCopies'. -/
def locksCopiesUptoCard : Claim7 := { stood := { row := locksCopiesUptoRow, standIns := [], harness := (true, "014b44803b755f0f37368eff06770390c59e06136d7381c4bfc8fd8baebc685d"), looks := true }, kinds := [], alts := [], laidByText := true, laidKinds := [.handle], laidTests := true, laidLooks := .later }
def LocksCopiesUptoCardSaid : Prop := Claim7.holds Tryd.pinned (.plain (OpenSpec.upto locksCopiesSpec)) locksCopiesUptoCard
end Rows
end Go.Proofs.YtnjhhibjcfjhnaaDoor
