/-
  NARROWER THAN 'FOR EVERY INPUT', by the rows' own cells (each row's printed sentence says how): LocksHolds: laid · LocksPlays: laid · LocksNone: laid · LocksCopies: laid.
  DERIVED. THE GIVEN ROWS OF THIS SEAT. 4 by the template 'for every input the law returns true; each argument reads behind the call as it read before'; 0 by the template 'total and deterministic' (their statements: YtnjhhibjcfjhnaaDoorTotals.lean).
  GIVEN WITH THE SEED: the statements are not yours to turn. If you find one false, say at which input.
  Laid BY PROGRAM, IN A SANDBOX (cutbox-rows.mjs): the forced cells as the released guide's own fill.sh prints them over the translation 541e3129ae67b1de… (all of the seat's roots in one cut). By AI agents, Wed Nov 11 2026. No macro, syntax, notation, axiom, sorry.
-/
import Derived.Test.YtnjhhibjcfjhnaaDoorChecked
import GoSem.Claim
import GoSem.ClaimJoined
import GoSem.ClaimMapViews
import Derived.JoinedTies
import Derived.KernelRfl
namespace Go.Proofs.YtnjhhibjcfjhnaaDoor
/- THE CELL 'sum', in the pinned program and in every row, IS THE sha256 OF THE DUMP (.gsa) THAT YtnjhhibjcfjhnaaDoorProg.lean LOADS. Nothing in Lean hashes anything: it is a label: what it is worth is what the hold of that sum in a sandbox is worth. -/
noncomputable def Tryd.pinned : Pinned := { name := "ytnjhhibjcfjhnaadoor", sum := "541e3129ae67b1deda34c9761d4c3675b8f9c14f96a8629615b068ba2a5f056c", checked := Tryd.checked }
namespace Rows
def none {H : Type} : Left H := { results := [], args := [] }

/- WHAT THE LISTED PACKAGE-LEVEL VARIABLES READ AS WHEN THE CALL BEGINS. Each datum BY PROGRAM (the guide's laid-datum.mjs) off the statement by which the dump's own 'gosem.cut.vars' lays the variable. In a bare row this is a premise. The card (YtnjhhibjcfjhnaaDoorCards.lean) ties it to the program's text. -/
def laid_errors_errorType {H : Type} : DataW H := .iface "internal/reflectlite.rtype" (.agg [.ptr (.lit (.string [101, 114, 114, 111, 114]))])

/-- 'swingbridgelaw17.LocksHolds': WHATEVER THE INPUT: true; the input reads as it did. -/
def locksHoldsSpec : ChangeSpec := { name := "locksHolds", fn := fun _ => fun
  | [d] => { results := [.lit (.bool true)], args := [d] }
  | _ => none }
def locksHoldsRow : OpenClaim := { program := "ytnjhhibjcfjhnaadoor", sum := "541e3129ae67b1deda34c9761d4c3675b8f9c14f96a8629615b068ba2a5f056c", func := "swingbridge/swingbridgelaw17.LocksHolds", spec := "locksHolds", inPlace := ["internal/reflectlite.ValueOf", "(internal/reflectlite.Value).Type", "(internal/reflectlite.Value).IsNil", "internal/reflectlite.TypeOf", "(internal/reflectlite.Value).Elem", "(internal/reflectlite.Value).Set"], unfollowed := true, recurses := true, named := ["errors.errorType"], apart := false, laid := [("errors.errorType", laid_errors_errorType)] }
def LocksHoldsSaid : Prop := locksHoldsRow.holds Tryd.pinned (OpenSpec.ofChange locksHoldsSpec)

/-- ITS FALSE NEIGHBOUR: 'it returns false'. Refute it at one input. -/
def locksHoldsWrong : ChangeSpec := { name := "locksHolds", fn := fun _ => fun
  | [d] => { results := [.lit (.bool false)], args := [d] }
  | _ => none }
def LocksHoldsWrongFalsely : Prop := locksHoldsRow.holds Tryd.pinned (OpenSpec.ofChange locksHoldsWrong)

/-- 'swingbridgelaw17.LocksPlays': WHATEVER THE INPUT: true; the input reads as it did. -/
def locksPlaysSpec : ChangeSpec := { name := "locksPlays", fn := fun _ => fun
  | [d1, d2] => { results := [.lit (.bool true)], args := [d1, d2] }
  | _ => none }
def locksPlaysRow : OpenClaim := { program := "ytnjhhibjcfjhnaadoor", sum := "541e3129ae67b1deda34c9761d4c3675b8f9c14f96a8629615b068ba2a5f056c", func := "swingbridge/swingbridgelaw17.LocksPlays", spec := "locksPlays", inPlace := ["internal/reflectlite.ValueOf", "(internal/reflectlite.Value).Type", "(internal/reflectlite.Value).IsNil", "internal/reflectlite.TypeOf", "(internal/reflectlite.Value).Elem", "(internal/reflectlite.Value).Set"], unfollowed := true, recurses := true, named := ["errors.errorType"], apart := false, laid := [("errors.errorType", laid_errors_errorType)] }
def LocksPlaysSaid : Prop := locksPlaysRow.holds Tryd.pinned (OpenSpec.ofChange locksPlaysSpec)

/-- ITS FALSE NEIGHBOUR: 'it returns false'. Refute it at one input. -/
def locksPlaysWrong : ChangeSpec := { name := "locksPlays", fn := fun _ => fun
  | [d1, d2] => { results := [.lit (.bool false)], args := [d1, d2] }
  | _ => none }
def LocksPlaysWrongFalsely : Prop := locksPlaysRow.holds Tryd.pinned (OpenSpec.ofChange locksPlaysWrong)

/-- 'swingbridgelaw17.LocksNone': WHATEVER THE INPUT: true; the input reads as it did. -/
def locksNoneSpec : ChangeSpec := { name := "locksNone", fn := fun _ => fun
  | [d] => { results := [.lit (.bool true)], args := [d] }
  | _ => none }
def locksNoneRow : OpenClaim := { program := "ytnjhhibjcfjhnaadoor", sum := "541e3129ae67b1deda34c9761d4c3675b8f9c14f96a8629615b068ba2a5f056c", func := "swingbridge/swingbridgelaw17.LocksNone", spec := "locksNone", inPlace := ["internal/reflectlite.ValueOf", "(internal/reflectlite.Value).Type", "(internal/reflectlite.Value).IsNil", "internal/reflectlite.TypeOf", "(internal/reflectlite.Value).Elem", "(internal/reflectlite.Value).Set"], unfollowed := true, recurses := true, named := ["errors.errorType"], apart := false, laid := [("errors.errorType", laid_errors_errorType)] }
def LocksNoneSaid : Prop := locksNoneRow.holds Tryd.pinned (OpenSpec.ofChange locksNoneSpec)

/-- ITS FALSE NEIGHBOUR: 'it returns false'. Refute it at one input. -/
def locksNoneWrong : ChangeSpec := { name := "locksNone", fn := fun _ => fun
  | [d] => { results := [.lit (.bool false)], args := [d] }
  | _ => none }
def LocksNoneWrongFalsely : Prop := locksNoneRow.holds Tryd.pinned (OpenSpec.ofChange locksNoneWrong)

/-- 'swingbridgelaw17.LocksCopies': WHATEVER THE INPUT: true; the input reads as it did. -/
def locksCopiesSpec : ChangeSpec := { name := "locksCopies", fn := fun _ => fun
  | [d1, d2] => { results := [.lit (.bool true)], args := [d1, d2] }
  | _ => none }
def locksCopiesRow : OpenClaim := { program := "ytnjhhibjcfjhnaadoor", sum := "541e3129ae67b1deda34c9761d4c3675b8f9c14f96a8629615b068ba2a5f056c", func := "swingbridge/swingbridgelaw17.LocksCopies", spec := "locksCopies", inPlace := ["internal/reflectlite.ValueOf", "(internal/reflectlite.Value).Type", "(internal/reflectlite.Value).IsNil", "internal/reflectlite.TypeOf", "(internal/reflectlite.Value).Elem", "(internal/reflectlite.Value).Set"], unfollowed := true, recurses := true, named := ["errors.errorType"], apart := false, laid := [("errors.errorType", laid_errors_errorType)] }
def LocksCopiesSaid : Prop := locksCopiesRow.holds Tryd.pinned (OpenSpec.ofChange locksCopiesSpec)

/-- ITS FALSE NEIGHBOUR: 'it returns false'. Refute it at one input. -/
def locksCopiesWrong : ChangeSpec := { name := "locksCopies", fn := fun _ => fun
  | [d1, d2] => { results := [.lit (.bool false)], args := [d1, d2] }
  | _ => none }
def LocksCopiesWrongFalsely : Prop := locksCopiesRow.holds Tryd.pinned (OpenSpec.ofChange locksCopiesWrong)

/- THE SECOND FORM. 'bulk': how many values and letters a reading holds, each counted each time it is reached (what is shared counts as often as it is met; a slice's spare places count too). A statement '..UptoSaid' is the law's where the arguments, and the package variables that the reading takes, are together of bulk at most 1048576: NARROWER than '..Said'. Prove '..Said' where nothing that the law and all that it calls make is longer than what came in: it says more and counts as full. Else prove '..UptoSaid'. A law counts once. -/
mutual
def uptoBulk {H : Type} : DataW H → Nat
  | .lit (.string bytes) => bytes.length + 1
  | .lit _ => 1
  | .nil => 1
  | .ptr d => uptoBulk d + 1
  | .slice elems spare => uptoBulkAll elems + uptoBulkAll spare + 1
  | .agg parts => uptoBulkAll parts + 1
  | .iface _ d => uptoBulk d + 1
  | .map entries => uptoBulkEntries entries + 1
  | .held _ => 1
def uptoBulkAll {H : Type} : List (DataW H) → Nat
  | [] => 0
  | d :: r => uptoBulk d + uptoBulkAll r
def uptoBulkEntries {H : Type} : List (Lit × DataW H) → Nat
  | [] => 0
  | x :: r => uptoBulkEntry x + uptoBulkEntries r
def uptoBulkEntry {H : Type} : Lit × DataW H → Nat
  | (.string bytes, d) => bytes.length + uptoBulk d + 1
  | (_, d) => uptoBulk d + 1
 end
def uptoSmall : (H : Type) → List (DataW H) → Bool := fun _ ds => decide (uptoBulkAll ds ≤ 1048576)
def OpenSpec.upto (s : _root_.Go.ChangeSpec) : _root_.Go.OpenSpec := { _root_.Go.OpenSpec.ofChange s with cond := some uptoSmall }

/-- 'swingbridgelaw17.LocksHolds', WHERE WHAT IT READS IS OF BULK AT MOST 1048576: true; the input reads as it did. -/
def locksHoldsUptoRow : OpenClaim := { program := "ytnjhhibjcfjhnaadoor", sum := "541e3129ae67b1deda34c9761d4c3675b8f9c14f96a8629615b068ba2a5f056c", func := "swingbridge/swingbridgelaw17.LocksHolds", spec := "locksHolds", inPlace := ["internal/reflectlite.ValueOf", "(internal/reflectlite.Value).Type", "(internal/reflectlite.Value).IsNil", "internal/reflectlite.TypeOf", "(internal/reflectlite.Value).Elem", "(internal/reflectlite.Value).Set"], unfollowed := true, recurses := true, named := ["errors.errorType"], apart := false, laid := [("errors.errorType", laid_errors_errorType)], narrowed := true }
def LocksHoldsUptoSaid : Prop := locksHoldsUptoRow.holds Tryd.pinned (OpenSpec.upto locksHoldsSpec)

/-- 'swingbridgelaw17.LocksPlays', WHERE WHAT IT READS IS OF BULK AT MOST 1048576: true; the input reads as it did. -/
def locksPlaysUptoRow : OpenClaim := { program := "ytnjhhibjcfjhnaadoor", sum := "541e3129ae67b1deda34c9761d4c3675b8f9c14f96a8629615b068ba2a5f056c", func := "swingbridge/swingbridgelaw17.LocksPlays", spec := "locksPlays", inPlace := ["internal/reflectlite.ValueOf", "(internal/reflectlite.Value).Type", "(internal/reflectlite.Value).IsNil", "internal/reflectlite.TypeOf", "(internal/reflectlite.Value).Elem", "(internal/reflectlite.Value).Set"], unfollowed := true, recurses := true, named := ["errors.errorType"], apart := false, laid := [("errors.errorType", laid_errors_errorType)], narrowed := true }
def LocksPlaysUptoSaid : Prop := locksPlaysUptoRow.holds Tryd.pinned (OpenSpec.upto locksPlaysSpec)

/-- 'swingbridgelaw17.LocksNone', WHERE WHAT IT READS IS OF BULK AT MOST 1048576: true; the input reads as it did. -/
def locksNoneUptoRow : OpenClaim := { program := "ytnjhhibjcfjhnaadoor", sum := "541e3129ae67b1deda34c9761d4c3675b8f9c14f96a8629615b068ba2a5f056c", func := "swingbridge/swingbridgelaw17.LocksNone", spec := "locksNone", inPlace := ["internal/reflectlite.ValueOf", "(internal/reflectlite.Value).Type", "(internal/reflectlite.Value).IsNil", "internal/reflectlite.TypeOf", "(internal/reflectlite.Value).Elem", "(internal/reflectlite.Value).Set"], unfollowed := true, recurses := true, named := ["errors.errorType"], apart := false, laid := [("errors.errorType", laid_errors_errorType)], narrowed := true }
def LocksNoneUptoSaid : Prop := locksNoneUptoRow.holds Tryd.pinned (OpenSpec.upto locksNoneSpec)

/-- 'swingbridgelaw17.LocksCopies', WHERE WHAT IT READS IS OF BULK AT MOST 1048576: true; the input reads as it did. -/
def locksCopiesUptoRow : OpenClaim := { program := "ytnjhhibjcfjhnaadoor", sum := "541e3129ae67b1deda34c9761d4c3675b8f9c14f96a8629615b068ba2a5f056c", func := "swingbridge/swingbridgelaw17.LocksCopies", spec := "locksCopies", inPlace := ["internal/reflectlite.ValueOf", "(internal/reflectlite.Value).Type", "(internal/reflectlite.Value).IsNil", "internal/reflectlite.TypeOf", "(internal/reflectlite.Value).Elem", "(internal/reflectlite.Value).Set"], unfollowed := true, recurses := true, named := ["errors.errorType"], apart := false, laid := [("errors.errorType", laid_errors_errorType)], narrowed := true }
def LocksCopiesUptoSaid : Prop := locksCopiesUptoRow.holds Tryd.pinned (OpenSpec.upto locksCopiesSpec)

end Rows
end Go.Proofs.YtnjhhibjcfjhnaaDoor
