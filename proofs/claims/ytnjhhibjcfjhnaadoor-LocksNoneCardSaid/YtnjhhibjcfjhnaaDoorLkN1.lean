/- Locks that are nil: Ask, Release, Of, Tick. -/
import Derived.Test.YtnjhhibjcfjhnaaDoorLkN0
namespace Go.Proofs.YtnjhhibjcfjhnaaDoor
open Go.RowKit
set_option linter.unusedVariables false

set_option maxRecDepth 100000 in
theorem Asked_nil (s wait : Int) (D : Value) (w : World) : Calls Tryd.prog 29 #[.pointer none, .int .i64 s, .int .i64 wait, D] w fun e w' => e = .returned (faultV s 1) ∧ Below w.heap.size w w' := by
  have eF : faultV s 1 = .iface 83 (.agg #[.int .i64 s, .int .i64 1]) := if_neg (by decide)
  rw [eF]
  clear eF
  go_enter Tryd.func29, Tryd.ntmps29
  go_wp2
  go_ret
  exact ⟨rfl, Below.refl _ _⟩
set_option maxRecDepth 100000 in
set_option maxHeartbeats 2000000 in
theorem Ask_nil (s wait : Int) (first : Bool) (D : Value) (w : World) (hE : Env w) : Calls Tryd.prog 11 #[.pointer none, .int .i64 s, .bool first, .int .i64 wait, D] w fun e w' => e = .returned (.tuple #[.bool false, .int .i64 1]) ∧ Below w.heap.size w w' := by
  have hak := Lib.hid (Asked_nil s wait D w)
  have hnu := Lib.hid (fun W (hW : Below w.heap.size w W) => Number_any s 1 W (hE.below hW) (by decide))
  have eF : faultV s 1 = .iface 83 (.agg #[.int .i64 s, .int .i64 1]) := if_neg (by decide)
  rw [eF] at hak hnu
  clear eF
  go_enter Tryd.func11, Tryd.ntmps11
  go_wp2_with fail
  refine hak.out.mono ?_
  rintro e w1 ⟨rfl, hb1⟩
  clear hak
  go_wp2_with fail
  refine (hnu.out _ hb1).mono ?_
  rintro e w2 ⟨rfl, hb2⟩
  clear hnu
  go_wp2
  go_ret2
  exact ⟨rfl, gr hb1 hb2⟩
set_option maxRecDepth 100000 in
set_option maxHeartbeats 2000000 in
theorem Release_nil (s : Int) (w : World) (hE : Env w) : Calls Tryd.prog 13 #[.pointer none, .int .i64 s] w fun e w' => e = .returned (.tuple #[.slice none 0 0, .int .i64 1]) ∧ Below w.heap.size w w' := by
  have hat := Lib.hid (At_nil s w)
  have hnu := Lib.hid (fun W (hW : Below w.heap.size w W) => Number_any s 1 W (hE.below hW) (by decide))
  have his := Lib.hid (fun W => is_fault s 1 W (by decide))
  have eF : faultV s 1 = .iface 83 (.agg #[.int .i64 s, .int .i64 1]) := if_neg (by decide)
  rw [eF] at hnu
  clear eF
  go_enter Tryd.func13, Tryd.ntmps13
  go_wp2_with fail
  refine hat.out.mono ?_
  rintro e w1 ⟨rfl, hb1⟩
  clear hat
  go_wp2_with fail
  refine (his.out _).mono ?_
  rintro e w2 ⟨rfl, hb2⟩
  clear his
  go_wp2_with fail
  refine (hnu.out _ (gr hb1 hb2)).mono ?_
  rintro e w3 ⟨rfl, hb3⟩
  clear hnu
  go_wp2
  go_ret2
  exact ⟨rfl, gr (gr hb1 hb2) hb3⟩
end Go.Proofs.YtnjhhibjcfjhnaaDoor
