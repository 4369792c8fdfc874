/- A value, as the program lays it and as its cells lie. -/
import Derived.Test.YtagoooclfcbdeaaGreatDoorVal2
namespace Go.Proofs.YtagoooclfcbdeaaGreatDoor
open Go.RowKit
set_option linter.unusedVariables false

/-- A value. -/
structure Vl where
  k : Int
  i : Int
  u : Int
  s : List UInt8
def Vl.val (x : Vl) : Value := valV x.k x.i x.u (strL x.s)
def Vl.cells (x : Vl) : List Value := [.int .i64 x.k, .int .i64 x.i, .int .u64 x.u, .string (strL x.s)]
def vcells (xs : List Vl) : List Value := xs.flatMap Vl.cells
/-- Its numbers are such as the types hold. -/
structure Vl.Wf (x : Vl) : Prop where
  i0 : -9223372036854775808 ≤ x.i
  i1 : x.i ≤ 9223372036854775807
  u0 : 0 ≤ x.u
  u1 : x.u ≤ 18446744073709551615
  sl : x.s.length ≤ maxLen
def Vl.ok (x : Vl) : Bool := okV x.k x.i x.u (strL x.s)
def Vl.chk (x : Vl) : Nat := chkV x.k x.i x.u (strL x.s)

theorem vcells_length (xs : List Vl) : (vcells xs).length = xs.length * 4 := by
  induction xs with
  | nil => rfl
  | cons x xs ih =>
    unfold vcells at *
    rw [List.flatMap_cons, List.length_append, ih]
    simp [Vl.cells]
    omega
theorem vcells_at (xs : List Vl) (i : Nat) (h : i < xs.length) (j : Nat) (hj : j < 4) : (vcells xs)[4 * i + j]? = (xs[i].cells)[j]? := by
  induction xs generalizing i with
  | nil => simp at h
  | cons x xs ih =>
    unfold vcells at *
    rw [List.flatMap_cons]
    cases i with
    | zero =>
      rw [List.getElem?_append_left (by simp [Vl.cells]; omega)]
      simp
    | succ i =>
      rw [List.getElem?_append_right (by simp [Vl.cells]; omega)]
      have := ih i (by simpa using h)
      simp only [Vl.cells, List.length_cons, List.length_nil] at *
      rw [show 4 * (i + 1) + j - (0 + 1 + 1 + 1 + 1) = 4 * i + j from by omega]
      simpa using this
end Go.Proofs.YtagoooclfcbdeaaGreatDoor
