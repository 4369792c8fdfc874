/- The reference's Check. -/
import Derived.Test.YtagoooclfcbdeaaGreatDoorVl
import Derived.Test.YtagoooclfcbdeaaGreatDoorReg
namespace Go.Proofs.YtagoooclfcbdeaaGreatDoor
open Go.RowKit
set_option linter.unusedVariables false

attribute [local go_sem] strL_toList strL_size
set_option maxRecDepth 100000 in
set_option maxHeartbeats 4000000 in
theorem refCheck_any (k i u : Int) (s : List UInt8) (w : World) : Calls Tryz.prog 43 #[valV k i u (strL s)] w fun e w' => e = .returned (.int .i64 (chkV k i u (strL s) : Int)) ∧ Below w.heap.size w w' := by
  unfold valV
  have hse : (strL s = ByteArray.empty) = (s = []) := by
    apply propext
    constructor
    · intro e
      have := congrArg ByteArray.data e
      have := congrArg Array.toList this
      simpa [strL] using this
    · intro e
      rw [e]
      rfl
  have hch : chkV k i u (strL s) = if (k = 0 ∧ i = 0 ∧ u = 0 ∧ s = []) ∨ (k = 1 ∧ u = 0 ∧ s = []) ∨ (k = 2 ∧ i = 0 ∧ s = []) ∨ (k = 3 ∧ u = 0 ∧ s = [] ∧ (i = 0 ∨ i = 1)) ∨ (k = 4 ∧ i = 0 ∧ u = 0) then (if 200 < s.length then 3 else 0) else 2 := by
    unfold chkV okV
    rw [strL_size]
    simp only [hse, decide_eq_true_eq]
  obtain ⟨N, hN⟩ : ∃ N, chkV k i u (strL s) = N := ⟨_, rfl⟩
  rw [hN]
  rw [hch] at hN
  clear hch hse
  by_cases hr : k < 0 ∨ 4 < k
  · obtain rfl : N = 2 := by rw [← hN, if_neg (by omega)]
    clear hN
    rcases hr with hr | hr
    · have hd : decide (k < 0) = true := by simp; omega
      go_enter Tryz.func43, Tryz.ntmps43
      go_wp2
      go_ret
      exact ⟨rfl, (Below.refl _ w).alloc (Nat.le_refl _) _⟩
    · have hd : decide (k < 0) = false := by simp; omega
      have hd2 : decide (4 < k) = true := by simp; omega
      go_enter Tryz.func43, Tryz.ntmps43
      go_wp2
      go_ret
      exact ⟨rfl, (Below.refl _ w).alloc (Nat.le_refl _) _⟩
  have hk : k = 0 ∨ k = 1 ∨ k = 2 ∨ k = 3 ∨ k = 4 := by omega
  clear hr
  rcases hk with rfl | rfl | rfl | rfl | rfl
  · skip
    by_cases hi : i = 0
    · subst hi
      by_cases hu : u = 0
      · subst hu
        by_cases hs : s = []
        · subst hs
          obtain rfl : N = 0 := by (rw [← hN]; simp [*])
          clear hN
          go_enter Tryz.func43, Tryz.ntmps43
          go_wp2
          go_ret
          exact ⟨rfl, (Below.refl _ w).alloc (Nat.le_refl _) _⟩
        · have hds : (s == []) = false := by simpa using hs
          obtain rfl : N = 2 := by (rw [← hN]; simp [*])
          clear hN
          go_enter Tryz.func43, Tryz.ntmps43
          go_wp2
          go_ret
          exact ⟨rfl, (Below.refl _ w).alloc (Nat.le_refl _) _⟩
      · have hdu : (u != 0) = true := by simpa using hu
        obtain rfl : N = 2 := by (rw [← hN]; simp [*])
        clear hN
        go_enter Tryz.func43, Tryz.ntmps43
        go_wp2
        go_ret
        exact ⟨rfl, (Below.refl _ w).alloc (Nat.le_refl _) _⟩
    · have hdi : (i != 0) = true := by simpa using hi
      obtain rfl : N = 2 := by (rw [← hN]; simp [*])
      clear hN
      go_enter Tryz.func43, Tryz.ntmps43
      go_wp2
      go_ret
      exact ⟨rfl, (Below.refl _ w).alloc (Nat.le_refl _) _⟩
  · skip
    by_cases hu : u = 0
    · subst hu
      by_cases hs : s = []
      · subst hs
        obtain rfl : N = 0 := by (rw [← hN]; simp [*])
        clear hN
        go_enter Tryz.func43, Tryz.ntmps43
        go_wp2
        go_ret
        exact ⟨rfl, (Below.refl _ w).alloc (Nat.le_refl _) _⟩
      · have hds : (s == []) = false := by simpa using hs
        obtain rfl : N = 2 := by (rw [← hN]; simp [*])
        clear hN
        go_enter Tryz.func43, Tryz.ntmps43
        go_wp2
        go_ret
        exact ⟨rfl, (Below.refl _ w).alloc (Nat.le_refl _) _⟩
    · have hdu : (u != 0) = true := by simpa using hu
      obtain rfl : N = 2 := by (rw [← hN]; simp [*])
      clear hN
      go_enter Tryz.func43, Tryz.ntmps43
      go_wp2
      go_ret
      exact ⟨rfl, (Below.refl _ w).alloc (Nat.le_refl _) _⟩
  · skip
    by_cases hi : i = 0
    · subst hi
      by_cases hs : s = []
      · subst hs
        obtain rfl : N = 0 := by (rw [← hN]; simp [*])
        clear hN
        go_enter Tryz.func43, Tryz.ntmps43
        go_wp2
        go_ret
        exact ⟨rfl, (Below.refl _ w).alloc (Nat.le_refl _) _⟩
      · have hds : (s == []) = false := by simpa using hs
        obtain rfl : N = 2 := by (rw [← hN]; simp [*])
        clear hN
        go_enter Tryz.func43, Tryz.ntmps43
        go_wp2
        go_ret
        exact ⟨rfl, (Below.refl _ w).alloc (Nat.le_refl _) _⟩
    · have hdi : (i != 0) = true := by simpa using hi
      obtain rfl : N = 2 := by (rw [← hN]; simp [*])
      clear hN
      go_enter Tryz.func43, Tryz.ntmps43
      go_wp2
      go_ret
      exact ⟨rfl, (Below.refl _ w).alloc (Nat.le_refl _) _⟩
  · skip
    by_cases hu : u = 0
    · subst hu
      by_cases hs : s = []
      · subst hs
        by_cases hi : i = 0
        · subst hi
          obtain rfl : N = 0 := by (rw [← hN]; simp [*])
          clear hN
          go_enter Tryz.func43, Tryz.ntmps43
          go_wp2
          go_ret
          exact ⟨rfl, (Below.refl _ w).alloc (Nat.le_refl _) _⟩
        by_cases hi1 : i = 1
        · subst hi1
          obtain rfl : N = 0 := by (rw [← hN]; simp [*])
          clear hN
          go_enter Tryz.func43, Tryz.ntmps43
          go_wp2
          go_ret
          exact ⟨rfl, (Below.refl _ w).alloc (Nat.le_refl _) _⟩
        have hdi : (i != 0) = true := by simpa using hi
        have hdj : (i != 1) = true := by simpa using hi1
        obtain rfl : N = 2 := by (rw [← hN]; simp [*])
        clear hN
        go_enter Tryz.func43, Tryz.ntmps43
        go_wp2
        go_ret
        exact ⟨rfl, (Below.refl _ w).alloc (Nat.le_refl _) _⟩
      · have hds : (s == []) = false := by simpa using hs
        obtain rfl : N = 2 := by (rw [← hN]; simp [*])
        clear hN
        go_enter Tryz.func43, Tryz.ntmps43
        go_wp2
        go_ret
        exact ⟨rfl, (Below.refl _ w).alloc (Nat.le_refl _) _⟩
    · have hdu : (u != 0) = true := by simpa using hu
      obtain rfl : N = 2 := by (rw [← hN]; simp [*])
      clear hN
      go_enter Tryz.func43, Tryz.ntmps43
      go_wp2
      go_ret
      exact ⟨rfl, (Below.refl _ w).alloc (Nat.le_refl _) _⟩
  · skip
    by_cases hi : i = 0
    · subst hi
      by_cases hu : u = 0
      · subst hu
        by_cases hl : 200 < s.length
        · have hd : decide ((200 : Int) < (s.length : Int)) = true := by simp; omega
          obtain rfl : N = 3 := by (rw [← hN]; simp [*])
          clear hN
          go_enter Tryz.func43, Tryz.ntmps43
          go_wp2
          go_ret
          exact ⟨rfl, (Below.refl _ w).alloc (Nat.le_refl _) _⟩
        · have hd : decide ((200 : Int) < (s.length : Int)) = false := by simp; omega
          obtain rfl : N = 0 := by (rw [← hN]; simp [*])
          clear hN
          go_enter Tryz.func43, Tryz.ntmps43
          go_wp2
          go_ret
          exact ⟨rfl, (Below.refl _ w).alloc (Nat.le_refl _) _⟩
      · have hdu : (u != 0) = true := by simpa using hu
        obtain rfl : N = 2 := by (rw [← hN]; simp [*])
        clear hN
        go_enter Tryz.func43, Tryz.ntmps43
        go_wp2
        go_ret
        exact ⟨rfl, (Below.refl _ w).alloc (Nat.le_refl _) _⟩
    · have hdi : (i != 0) = true := by simpa using hi
      obtain rfl : N = 2 := by (rw [← hN]; simp [*])
      clear hN
      go_enter Tryz.func43, Tryz.ntmps43
      go_wp2
      go_ret
      exact ⟨rfl, (Below.refl _ w).alloc (Nat.le_refl _) _⟩
end Go.Proofs.YtagoooclfcbdeaaGreatDoor
