/- Contracts of the reference's Fixed, of both ReadFixed, of both Text and ReadText. -/
import Derived.Test.YtdgmhegcoogokaaDoorOctD
import Derived.Laws.BytesArg
namespace Go.Proofs.YtdgmhegcoogokaaDoor
open Go.RowKit
set_option linter.unusedVariables false

theorem beB_zeros (n : Nat) : ∀ (d k : Nat), n < 256 ^ k → beB n (d + k) = List.replicate d 0 ++ beB n k := by
  intro d
  induction d with
  | zero => intro k _; simp
  | succ d ih =>
    intro k h
    rw [show d + 1 + k = (d + k) + 1 from by omega, beB, ih k h, List.replicate_succ, List.cons_append]
    congr 1
    have h1 : n / 2 ^ (8 * (d + k)) = 0 := by
      refine Nat.div_eq_of_lt (Nat.lt_of_lt_of_le h ?_)
      rw [pow256]
      exact Nat.pow_le_pow_right (by omega) (by omega)
    rw [h1]
    rfl

def readFixN (l : List UInt8) : Nat × Nat := if l.length < 1 ∨ 8 < l.length then (0, 2) else (rdN l, 0)

theorem ReadFixed_any (A : Option Addr) (n c : Nat) (l : List UInt8) (w : World) (h : Rd w A n c l) :
    Calls Tryd.prog 40 #[.slice A n c] w fun e w' => e = .returned (.tuple #[.int .u64 ((readFixN l).1 : Int), .int .i64 ((readFixN l).2 : Int)]) ∧ w = w' := by
  have hl := h.len
  have hcap := h.cap
  have hle := h.le
  by_cases hlo : n < 1
  · have e : readFixN l = (0, 2) := by unfold readFixN; rw [if_pos (by omega)]
    rw [e]
    clear e h hl
    go_enter Tryd.func40, Tryd.ntmps40
    go_wp2
    go_ret2
    exact ⟨rfl, rfl⟩
  · have hd0 : decide (n < 1) = false := by simp; omega
    by_cases hhi : 8 < n
    · have e : readFixN l = (0, 2) := by unfold readFixN; rw [if_pos (by omega)]
      rw [e]
      have hd1 : decide (8 < n) = true := by simp; omega
      clear e h hl
      go_enter Tryd.func40, Tryd.ntmps40
      go_wp2
      go_ret2
      exact ⟨rfl, rfl⟩
    · have e : readFixN l = (rdN l, 0) := by unfold readFixN; rw [if_neg (by omega)]
      rw [e]
      have hd1 : decide (8 < n) = false := by simp; omega
      clear e hl
      have H := Lib.hid h
      clear h
      go_enter Tryd.func40, Tryd.ntmps40
      go_wp2_with (go_at_call 72; refine (number_any A n c l _ H.out (by omega)).mono ?_; rintro e w' ⟨rfl, rfl⟩)
      go_ret2
      exact ⟨rfl, rfl⟩

theorem refReadFixed_any (A : Option Addr) (n c : Nat) (l : List UInt8) (w : World) (h : Rd w A n c l) :
    Calls Tryd.prog 26 #[.slice A n c] w fun e w' => e = .returned (.tuple #[.int .u64 ((readFixN l).1 : Int), .int .i64 ((readFixN l).2 : Int)]) ∧ w = w' := by
  have hl := h.len
  have hcap := h.cap
  have hle := h.le
  by_cases hlo : n < 1
  · have e : readFixN l = (0, 2) := by unfold readFixN; rw [if_pos (by omega)]
    rw [e]
    clear e h hl
    go_enter Tryd.func26, Tryd.ntmps26
    go_wp2
    go_ret2
    exact ⟨rfl, rfl⟩
  · have hd0 : decide (n < 1) = false := by simp; omega
    by_cases hhi : 8 < n
    · have e : readFixN l = (0, 2) := by unfold readFixN; rw [if_pos (by omega)]
      rw [e]
      have hd1 : decide (8 < n) = true := by simp; omega
      clear e h hl
      go_enter Tryd.func26, Tryd.ntmps26
      go_wp2
      go_ret2
      exact ⟨rfl, rfl⟩
    · have e : readFixN l = (rdN l, 0) := by unfold readFixN; rw [if_neg (by omega)]
      rw [e]
      have hd1 : decide (8 < n) = false := by simp; omega
      clear e hl
      have H := Lib.hid h
      clear h
      go_enter Tryd.func26, Tryd.ntmps26
      go_wp2_with (go_at_call 55; refine (read_any A n c l _ H.out (by omega)).mono ?_; rintro e w' ⟨rfl, rfl⟩)
      go_ret2
      exact ⟨rfl, rfl⟩

theorem numL_size (n : Nat) (h : n < 18446744073709551616) : (numL n).length ≤ 9 := by
  rw [numL_length]
  have := needN_le n h
  omega

end Go.Proofs.YtdgmhegcoogokaaDoor
