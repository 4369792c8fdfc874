/- Locks that are nil. -/
import Derived.Test.YtnjhhibjcfjhnaaDoorLkO
namespace Go.Proofs.YtnjhhibjcfjhnaaDoor
open Go.RowKit
set_option linter.unusedVariables false

set_option maxRecDepth 100000 in
theorem Now_nil (w : World) : Calls Tryd.prog 21 #[.pointer none] w fun e w' => e = .returned (.int .i64 0) ∧ w = w' := by
  go_enter Tryd.func21, Tryd.ntmps21
  go_wp2
  go_ret
  exact ⟨rfl, rfl⟩
set_option maxRecDepth 100000 in
theorem At_nil (s : Int) (w : World) : Calls Tryd.prog 33 #[.pointer none, .int .i64 s] w fun e w' => e = .returned (.int .i64 (-1)) ∧ Below w.heap.size w w' := by
  have hb0 : Below w.heap.size w (w.alloc (.cells #[.int .i64 s] 3)) := (Below.refl _ _).alloc (Nat.le_refl _) _
  go_enter Tryd.func33, Tryd.ntmps33
  go_wp2
  go_ret
  exact ⟨rfl, hb0⟩
set_option maxRecDepth 100000 in
theorem Copy_nil (w : World) : Calls Tryd.prog 10 #[.pointer none] w fun e w' => e = .returned (.pointer none) ∧ w = w' := by
  go_enter Tryd.func10, Tryd.ntmps10
  go_wp2
  go_ret
  exact ⟨rfl, rfl⟩
set_option maxRecDepth 100000 in
theorem Held_nil (s : Int) (w : World) : Calls Tryd.prog 22 #[.pointer none, .int .i64 s] w fun e w' => e = .returned (.bool false) ∧ Below w.heap.size w w' := by
  have hat := Lib.hid (At_nil s w)
  go_enter Tryd.func22, Tryd.ntmps22
  go_wp2_with fail
  refine hat.out.mono ?_
  rintro e w1 ⟨rfl, hb1⟩
  clear hat
  go_wp2
  go_ret
  exact ⟨rfl, hb1⟩
set_option maxRecDepth 100000 in
theorem Wants_nil (s : Int) (w : World) : Calls Tryd.prog 20 #[.pointer none, .int .i64 s] w fun e w' => e = .returned (.slice none 0 0) ∧ Below w.heap.size w w' := by
  have hat := Lib.hid (At_nil s w)
  go_enter Tryd.func20, Tryd.ntmps20
  go_wp2_with fail
  refine hat.out.mono ?_
  rintro e w1 ⟨rfl, hb1⟩
  clear hat
  go_wp2
  go_ret
  exact ⟨rfl, hb1⟩
set_option maxRecDepth 100000 in
theorem Waits_nil (s : Int) (w : World) : Calls Tryd.prog 18 #[.pointer none, .int .i64 s] w fun e w' => e = .returned (.tuple #[.int .i64 0, .bool false]) ∧ Below w.heap.size w w' := by
  have hat := Lib.hid (At_nil s w)
  go_enter Tryd.func18, Tryd.ntmps18
  go_wp2_with fail
  refine hat.out.mono ?_
  rintro e w1 ⟨rfl, hb1⟩
  clear hat
  go_wp2
  go_ret2
  exact ⟨rfl, hb1⟩
end Go.Proofs.YtnjhhibjcfjhnaaDoor
