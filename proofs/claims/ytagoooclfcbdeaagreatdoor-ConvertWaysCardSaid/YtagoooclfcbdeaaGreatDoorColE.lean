/- ref06.right: which columns may be. -/
import Derived.Test.YtagoooclfcbdeaaGreatDoorColD
namespace Go.Proofs.YtagoooclfcbdeaaGreatDoor
open Go.RowKit
set_option linter.unusedVariables false

def z24 : List UInt8 := [122, 122, 122, 122, 122, 122, 122, 122, 122, 122, 122, 122, 122, 122, 122, 122, 122, 122, 122, 122, 122, 122, 122, 122]
theorem colV_z : colV ⟨z24, 3, 0, false⟩ = true := by decide
theorem colV_y : colV ⟨[121], 3, 0, false⟩ = true := by decide
theorem TwoC.new (W : World) (c d : Cl) : TwoC ((W.alloc (.cells #[.string (strL c.n), .int .i64 c.t, .int .i64 c.z, .bool c.nl, .string (strL d.n), .int .i64 d.t, .int .i64 d.z, .bool d.nl] 24)).alloc (.cells #[.int .i64 1] 3)) W.heap.size (W.heap.size + 1) c d := by
  have h1 : ((W.alloc (.cells #[.string (strL c.n), .int .i64 c.t, .int .i64 c.z, .bool c.nl, .string (strL d.n), .int .i64 d.t, .int .i64 d.z, .bool d.nl] 24)).alloc (.cells #[.int .i64 1] 3)).heap[W.heap.size]? = some (.cells #[.string (strL c.n), .int .i64 c.t, .int .i64 c.z, .bool c.nl, .string (strL d.n), .int .i64 d.t, .int .i64 d.z, .bool d.nl] 24) :=
    (((Below.refl _ _).alloc (Nat.le_refl _) (.cells #[.int .i64 1] 3)).block W.heap.size (by simp)).trans (World.alloc_heap_new W _)
  have h2 : ((W.alloc (.cells #[.string (strL c.n), .int .i64 c.t, .int .i64 c.z, .bool c.nl, .string (strL d.n), .int .i64 d.t, .int .i64 d.z, .bool d.nl] 24)).alloc (.cells #[.int .i64 1] 3)).heap[W.heap.size + 1]? = some (.cells #[.int .i64 1] 3) := by
    have h := World.alloc_heap_new (W.alloc (.cells #[.string (strL c.n), .int .i64 c.t, .int .i64 c.z, .bool c.nl, .string (strL d.n), .int .i64 d.t, .int .i64 d.z, .bool d.nl] 24)) (.cells #[.int .i64 1] 3)
    rwa [World.size_alloc] at h
  refine ⟨⟨?_, ?_, ?_, ?_⟩, ⟨?_, ?_, ?_, ?_⟩, ?_⟩
  all_goals
    rw [World.cell?]
    first
      | (rw [h1]; rfl)
      | (rw [h2]; rfl)
attribute [local go_sem] strL_toList
set_option maxRecDepth 100000 in
set_option maxHeartbeats 2000000 in
theorem r6right_any (c : Cl) (w : World) (hl : c.n.length ≤ 100000) : Calls Tryz.prog 29 #[c.val] w fun e w' => e = .returned (.bool (colV c)) ∧ Below w.heap.size w w' := by
  have hb1 : Below w.heap.size w (w.alloc (.cells #[.string (strL c.n), .int .i64 c.t, .int .i64 c.z, .bool c.nl] 24)) := (Below.refl _ w).alloc (Nat.le_refl _) _
  have hC := CBox.new w c
  have t1 := TwoC.new (w.alloc (.cells #[.string (strL c.n), .int .i64 c.t, .int .i64 c.z, .bool c.nl] 24)) c ⟨z24, 3, 0, false⟩
  have r1 := rRight_two c ⟨z24, 3, 0, false⟩ _ _ _ t1 colV_z rfl hl (by decide)
  have r2 := fun (W : World) => rRight_two c ⟨[121], 3, 0, false⟩ _ _ _ (TwoC.new W c ⟨[121], 3, 0, false⟩) colV_y rfl hl (by decide)
  rw [World.size_alloc] at r1
  clear t1 hl
  obtain ⟨n, t, z, nl⟩ := c
  simp only [Cl.val] at *
  generalize colV ⟨n, t, z, nl⟩ = cv at *
  unfold z24 at r1
  by_cases hn : n = z24
  · subst hn
    have hr1 : (cv && decide (z24 ≠ [122, 122, 122, 122, 122, 122, 122, 122, 122, 122, 122, 122, 122, 122, 122, 122, 122, 122, 122, 122, 122, 122, 122, 122])) = false := by simp [z24]
    have hr2 : (cv && decide (z24 ≠ [121])) = cv := by simp [z24]
    rw [hr1] at r1
    simp only [hr2] at r2
    have hn2 : (z24 == [122, 122, 122, 122, 122, 122, 122, 122, 122, 122, 122, 122, 122, 122, 122, 122, 122, 122, 122, 122, 122, 122, 122, 122]) = true := by decide
    replace r1 := Lib.hid r1
    replace r2 := Lib.hid r2
    clear hr1 hr2
    generalize z24 = n at *
    go_enter Tryz.func29, Tryz.ntmps29
    go_wp2_with fail
    refine r1.out.mono ?_
    rintro e w1 ⟨rfl, g1⟩
    have b1 := gr ((hb1.alloc hb1.size _).alloc (by simp <;> omega) _) g1
    have hC1 := hC.below ((((Below.refl _ _).alloc (Nat.le_refl _) _).alloc (by simp) _).trans (g1.mono (by simp <;> omega))) (by simp)
    have cc1 := hC1.cells
    clear r1 g1 hC hb1
    go_wp2_with fail
    refine (r2.out _).mono ?_
    rintro e w2 ⟨rfl, g2⟩
    have b2 := gr ((b1.alloc b1.size _).alloc (by have := b1.size; simp; omega) _) g2
    clear r2 g2
    go_wp2
    go_ret
    exact ⟨rfl, b2⟩
  · have hn2 : (n == [122, 122, 122, 122, 122, 122, 122, 122, 122, 122, 122, 122, 122, 122, 122, 122, 122, 122, 122, 122, 122, 122, 122, 122]) = false := by simpa [z24] using hn
    have hr : (cv && decide (n ≠ [122, 122, 122, 122, 122, 122, 122, 122, 122, 122, 122, 122, 122, 122, 122, 122, 122, 122, 122, 122, 122, 122, 122, 122])) = cv := by
      have : decide (n ≠ [122, 122, 122, 122, 122, 122, 122, 122, 122, 122, 122, 122, 122, 122, 122, 122, 122, 122, 122, 122, 122, 122, 122, 122]) = true := by simpa [z24] using hn
      rw [this, Bool.and_true]
    rw [hr] at r1
    replace r1 := Lib.hid r1
    clear hr r2 hn
    cases cv
    all_goals
      go_enter Tryz.func29, Tryz.ntmps29
      go_wp2_with fail
      refine r1.out.mono ?_
      rintro e w1 ⟨rfl, g1⟩
      have b1 := gr ((hb1.alloc hb1.size _).alloc (by simp <;> omega) _) g1
      have hC1 := hC.below ((((Below.refl _ _).alloc (Nat.le_refl _) _).alloc (by simp) _).trans (g1.mono (by simp <;> omega))) (by simp)
      have cc1 := hC1.cells
      clear r1 g1 hC hb1
      go_wp2
      go_ret
      exact ⟨rfl, b1⟩
end Go.Proofs.YtagoooclfcbdeaaGreatDoor
