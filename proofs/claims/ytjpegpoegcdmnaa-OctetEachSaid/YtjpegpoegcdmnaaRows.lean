/-
  No cell of these rows narrows 'for every input' (looked for: loops, veiled, ifaces, maps, wideKeys, modest, calm, conditions, laid).
  DERIVED. THE GIVEN ROWS OF THIS SEAT. 5 by the template 'for every input the law returns true; each argument reads behind the call as it read before'; 0 by the template 'total and deterministic' (their statements: YtjpegpoegcdmnaaTotals.lean).
  GIVEN WITH THE SEED: the statements are not yours to turn. If you find one false, say at which input.
  Laid BY PROGRAM, IN A SANDBOX (cutbox-rows.mjs): the forced cells as the released guide's own fill.sh prints them over the translation b2fcff1d9ace3e4c… (all of the seat's roots in one cut). By AI agents, Wed Nov 11 2026. No macro, syntax, notation, axiom, sorry.
-/
import Derived.Test.YtjpegpoegcdmnaaChecked
import GoSem.Claim
import GoSem.ClaimJoined
import GoSem.ClaimMapViews
import Derived.JoinedTies
import Derived.KernelRfl
namespace Go.Proofs.Ytjpegpoegcdmnaa
/- THE CELL 'sum', in the pinned program and in every row, IS THE sha256 OF THE DUMP (.gsa) THAT YtjpegpoegcdmnaaProg.lean LOADS. Nothing in Lean hashes anything: it is a label: what it is worth is what the hold of that sum in a sandbox is worth. -/
noncomputable def Try.pinned : Pinned := { name := "ytjpegpoegcdmnaa", sum := "b2fcff1d9ace3e4c048007001da76e48e0cf95546e4cbe47c8b1a3cc5a837b8b", checked := Try.checked }
namespace Rows
def none {H : Type} : Left H := { results := [], args := [] }

/-- 'swingbridgelaw02.OctetNumbers': WHATEVER THE INPUT: true; the input reads as it did. -/
def octetNumbersSpec : ChangeSpec := { name := "octetNumbers", fn := fun _ => fun
  | [d1, d2] => { results := [.lit (.bool true)], args := [d1, d2] }
  | _ => none }
def octetNumbersRow : OpenClaim := { program := "ytjpegpoegcdmnaa", sum := "b2fcff1d9ace3e4c048007001da76e48e0cf95546e4cbe47c8b1a3cc5a837b8b", func := "swingbridge/swingbridgelaw02.OctetNumbers", spec := "octetNumbers", unfollowed := true, recurses := true, apart := false }
def OctetNumbersSaid : Prop := octetNumbersRow.holds Try.pinned (OpenSpec.ofChange octetNumbersSpec)

/-- ITS FALSE NEIGHBOUR: 'it returns false'. Refute it at one input. -/
def octetNumbersWrong : ChangeSpec := { name := "octetNumbers", fn := fun _ => fun
  | [d1, d2] => { results := [.lit (.bool false)], args := [d1, d2] }
  | _ => none }
def OctetNumbersWrongFalsely : Prop := octetNumbersRow.holds Try.pinned (OpenSpec.ofChange octetNumbersWrong)

/-- 'swingbridgelaw02.OctetHolds': WHATEVER THE INPUT: true; the input reads as it did. -/
def octetHoldsSpec : ChangeSpec := { name := "octetHolds", fn := fun _ => fun
  | [d1, d2, d3, d4] => { results := [.lit (.bool true)], args := [d1, d2, d3, d4] }
  | _ => none }
def octetHoldsRow : OpenClaim := { program := "ytjpegpoegcdmnaa", sum := "b2fcff1d9ace3e4c048007001da76e48e0cf95546e4cbe47c8b1a3cc5a837b8b", func := "swingbridge/swingbridgelaw02.OctetHolds", spec := "octetHolds", unfollowed := true, recurses := true, apart := false }
def OctetHoldsSaid : Prop := octetHoldsRow.holds Try.pinned (OpenSpec.ofChange octetHoldsSpec)

/-- ITS FALSE NEIGHBOUR: 'it returns false'. Refute it at one input. -/
def octetHoldsWrong : ChangeSpec := { name := "octetHolds", fn := fun _ => fun
  | [d1, d2, d3, d4] => { results := [.lit (.bool false)], args := [d1, d2, d3, d4] }
  | _ => none }
def OctetHoldsWrongFalsely : Prop := octetHoldsRow.holds Try.pinned (OpenSpec.ofChange octetHoldsWrong)

/-- 'swingbridgelaw02.OctetSums': WHATEVER THE INPUT: true; the input reads as it did. -/
def octetSumsSpec : ChangeSpec := { name := "octetSums", fn := fun _ => fun
  | [d1, d2, d3, d4] => { results := [.lit (.bool true)], args := [d1, d2, d3, d4] }
  | _ => none }
def octetSumsRow : OpenClaim := { program := "ytjpegpoegcdmnaa", sum := "b2fcff1d9ace3e4c048007001da76e48e0cf95546e4cbe47c8b1a3cc5a837b8b", func := "swingbridge/swingbridgelaw02.OctetSums", spec := "octetSums", unfollowed := true, recurses := true, apart := false }
def OctetSumsSaid : Prop := octetSumsRow.holds Try.pinned (OpenSpec.ofChange octetSumsSpec)

/-- ITS FALSE NEIGHBOUR: 'it returns false'. Refute it at one input. -/
def octetSumsWrong : ChangeSpec := { name := "octetSums", fn := fun _ => fun
  | [d1, d2, d3, d4] => { results := [.lit (.bool false)], args := [d1, d2, d3, d4] }
  | _ => none }
def OctetSumsWrongFalsely : Prop := octetSumsRow.holds Try.pinned (OpenSpec.ofChange octetSumsWrong)

/-- 'swingbridgelaw02.OctetTexts': WHATEVER THE INPUT: true; the input reads as it did. -/
def octetTextsSpec : ChangeSpec := { name := "octetTexts", fn := fun _ => fun
  | [d1, d2] => { results := [.lit (.bool true)], args := [d1, d2] }
  | _ => none }
def octetTextsRow : OpenClaim := { program := "ytjpegpoegcdmnaa", sum := "b2fcff1d9ace3e4c048007001da76e48e0cf95546e4cbe47c8b1a3cc5a837b8b", func := "swingbridge/swingbridgelaw02.OctetTexts", spec := "octetTexts", unfollowed := true, recurses := true, apart := false }
def OctetTextsSaid : Prop := octetTextsRow.holds Try.pinned (OpenSpec.ofChange octetTextsSpec)

/-- ITS FALSE NEIGHBOUR: 'it returns false'. Refute it at one input. -/
def octetTextsWrong : ChangeSpec := { name := "octetTexts", fn := fun _ => fun
  | [d1, d2] => { results := [.lit (.bool false)], args := [d1, d2] }
  | _ => none }
def OctetTextsWrongFalsely : Prop := octetTextsRow.holds Try.pinned (OpenSpec.ofChange octetTextsWrong)

/-- 'swingbridgelaw02.OctetEach': WHATEVER THE INPUT: true; the input reads as it did. -/
def octetEachSpec : ChangeSpec := { name := "octetEach", fn := fun _ => fun
  | [d1, d2] => { results := [.lit (.bool true)], args := [d1, d2] }
  | _ => none }
def octetEachRow : OpenClaim := { program := "ytjpegpoegcdmnaa", sum := "b2fcff1d9ace3e4c048007001da76e48e0cf95546e4cbe47c8b1a3cc5a837b8b", func := "swingbridge/swingbridgelaw02.OctetEach", spec := "octetEach", unfollowed := true, recurses := true, apart := false }
def OctetEachSaid : Prop := octetEachRow.holds Try.pinned (OpenSpec.ofChange octetEachSpec)

/-- ITS FALSE NEIGHBOUR: 'it returns false'. Refute it at one input. -/
def octetEachWrong : ChangeSpec := { name := "octetEach", fn := fun _ => fun
  | [d1, d2] => { results := [.lit (.bool false)], args := [d1, d2] }
  | _ => none }
def OctetEachWrongFalsely : Prop := octetEachRow.holds Try.pinned (OpenSpec.ofChange octetEachWrong)

/- THE SECOND FORM. 'bulk': how many values and letters a reading holds, each counted each time it is reached (what is shared counts as often as it is met; a slice's spare places count too). A statement '..UptoSaid' is the law's where the arguments, and the package variables that the reading takes, are together of bulk at most 1048576: NARROWER than '..Said'. Prove '..Said' where nothing that the law and all that it calls make is longer than what came in: it says more and counts as full. Else prove '..UptoSaid'. A law counts once. -/
mutual
def uptoBulk {H : Type} : DataW H → Nat
  | .lit (.string bytes) => bytes.length + 1
  | .lit _ => 1
  | .nil => 1
  | .ptr d => uptoBulk d + 1
  | .slice elems spare => uptoBulkAll elems + uptoBulkAll spare + 1
  | .agg parts => uptoBulkAll parts + 1
  | .iface _ d => uptoBulk d + 1
  | .map entries => uptoBulkEntries entries + 1
  | .held _ => 1
def uptoBulkAll {H : Type} : List (DataW H) → Nat
  | [] => 0
  | d :: r => uptoBulk d + uptoBulkAll r
def uptoBulkEntries {H : Type} : List (Lit × DataW H) → Nat
  | [] => 0
  | x :: r => uptoBulkEntry x + uptoBulkEntries r
def uptoBulkEntry {H : Type} : Lit × DataW H → Nat
  | (.string bytes, d) => bytes.length + uptoBulk d + 1
  | (_, d) => uptoBulk d + 1
 end
def uptoSmall : (H : Type) → List (DataW H) → Bool := fun _ ds => decide (uptoBulkAll ds ≤ 1048576)
def OpenSpec.upto (s : _root_.Go.ChangeSpec) : _root_.Go.OpenSpec := { _root_.Go.OpenSpec.ofChange s with cond := some uptoSmall }

/-- 'swingbridgelaw02.OctetNumbers', WHERE WHAT IT READS IS OF BULK AT MOST 1048576: true; the input reads as it did. -/
def octetNumbersUptoRow : OpenClaim := { program := "ytjpegpoegcdmnaa", sum := "b2fcff1d9ace3e4c048007001da76e48e0cf95546e4cbe47c8b1a3cc5a837b8b", func := "swingbridge/swingbridgelaw02.OctetNumbers", spec := "octetNumbers", unfollowed := true, recurses := true, apart := false, narrowed := true }
def OctetNumbersUptoSaid : Prop := octetNumbersUptoRow.holds Try.pinned (OpenSpec.upto octetNumbersSpec)

/-- 'swingbridgelaw02.OctetHolds', WHERE WHAT IT READS IS OF BULK AT MOST 1048576: true; the input reads as it did. -/
def octetHoldsUptoRow : OpenClaim := { program := "ytjpegpoegcdmnaa", sum := "b2fcff1d9ace3e4c048007001da76e48e0cf95546e4cbe47c8b1a3cc5a837b8b", func := "swingbridge/swingbridgelaw02.OctetHolds", spec := "octetHolds", unfollowed := true, recurses := true, apart := false, narrowed := true }
def OctetHoldsUptoSaid : Prop := octetHoldsUptoRow.holds Try.pinned (OpenSpec.upto octetHoldsSpec)

/-- 'swingbridgelaw02.OctetSums', WHERE WHAT IT READS IS OF BULK AT MOST 1048576: true; the input reads as it did. -/
def octetSumsUptoRow : OpenClaim := { program := "ytjpegpoegcdmnaa", sum := "b2fcff1d9ace3e4c048007001da76e48e0cf95546e4cbe47c8b1a3cc5a837b8b", func := "swingbridge/swingbridgelaw02.OctetSums", spec := "octetSums", unfollowed := true, recurses := true, apart := false, narrowed := true }
def OctetSumsUptoSaid : Prop := octetSumsUptoRow.holds Try.pinned (OpenSpec.upto octetSumsSpec)

/-- 'swingbridgelaw02.OctetTexts', WHERE WHAT IT READS IS OF BULK AT MOST 1048576: true; the input reads as it did. -/
def octetTextsUptoRow : OpenClaim := { program := "ytjpegpoegcdmnaa", sum := "b2fcff1d9ace3e4c048007001da76e48e0cf95546e4cbe47c8b1a3cc5a837b8b", func := "swingbridge/swingbridgelaw02.OctetTexts", spec := "octetTexts", unfollowed := true, recurses := true, apart := false, narrowed := true }
def OctetTextsUptoSaid : Prop := octetTextsUptoRow.holds Try.pinned (OpenSpec.upto octetTextsSpec)

/-- 'swingbridgelaw02.OctetEach', WHERE WHAT IT READS IS OF BULK AT MOST 1048576: true; the input reads as it did. -/
def octetEachUptoRow : OpenClaim := { program := "ytjpegpoegcdmnaa", sum := "b2fcff1d9ace3e4c048007001da76e48e0cf95546e4cbe47c8b1a3cc5a837b8b", func := "swingbridge/swingbridgelaw02.OctetEach", spec := "octetEach", unfollowed := true, recurses := true, apart := false, narrowed := true }
def OctetEachUptoSaid : Prop := octetEachUptoRow.holds Try.pinned (OpenSpec.upto octetEachSpec)

end Rows
end Go.Proofs.Ytjpegpoegcdmnaa
