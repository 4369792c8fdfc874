/- Slices of strings. Laws of the model; no condition but the bounds. -/
import Derived.Test.YtagoooclfcbdeaaGreatDoorProg
import Derived.WalkKit
import Derived.Test.YtagoooclfcbdeaaGreatDoorConv
namespace Go.Proofs.YtagoooclfcbdeaaGreatDoor
open Go.RowKit
set_option linter.unusedVariables false

theorem strS_cut (l : List UInt8) (lo hi : Nat) : (strL l).extract lo hi = strL ((l.drop lo).take (hi - lo)) := by
  unfold strL
  apply ByteArray.ext
  rw [ByteArray.data_extract]
  simp
attribute [local go_sem] strL_size
theorem sl_both (l : List UInt8) (lo hi : Nat) (h1 : lo ≤ hi) (h2 : hi ≤ l.length) (W : World) : (Instr.slice 9 (.string (strL l)) (some (.int .i64 (lo : Int))) (some (.int .i64 (hi : Int))) none).run Tryz.prog W = .ok (.string (strL ((l.drop lo).take (hi - lo)))) W := by
  have h := strS_cut l lo hi
  unfold Instr.slice Instr.sliceBounds Instr.sliceBound
  simp [go_sem, Sem.run_bind, asIntOf]
  rw [if_pos (by omega), h, if_pos h1]
theorem sl_lo (l : List UInt8) (lo : Nat) (h1 : lo ≤ l.length) (W : World) : (Instr.slice 9 (.string (strL l)) (some (.int .i64 (lo : Int))) none none).run Tryz.prog W = .ok (.string (strL (l.drop lo))) W := by
  have h := strS_cut l lo l.length
  rw [List.take_of_length_le (by simp)] at h
  unfold Instr.slice Instr.sliceBounds Instr.sliceBound
  simp [go_sem, Sem.run_bind, asIntOf]
  rw [if_pos (by omega), h]
theorem sl_hi (l : List UInt8) (hi : Nat) (h2 : hi ≤ l.length) (W : World) : (Instr.slice 9 (.string (strL l)) none (some (.int .i64 (hi : Int))) none).run Tryz.prog W = .ok (.string (strL (l.take hi))) W := by
  have h := strS_cut l 0 hi
  rw [List.drop_zero, Nat.sub_zero] at h
  unfold Instr.slice Instr.sliceBounds Instr.sliceBound
  simp [go_sem, Sem.run_bind, asIntOf]
  rw [if_pos (by omega), h]
end Go.Proofs.YtagoooclfcbdeaaGreatDoor
