/- Which columns may be, and what fits them (the reference). -/
import Derived.Test.YtagoooclfcbdeaaGreatDoorColA
import Derived.Test.YtagoooclfcbdeaaGreatDoorRefC
namespace Go.Proofs.YtagoooclfcbdeaaGreatDoor
open Go.RowKit
set_option linter.unusedVariables false

/-- May a size be of a type? -/
def sizeV (t z : Int) : Bool := if t = 1 ∨ t = 2 then decide (z = 1 ∨ z = 2 ∨ z = 4 ∨ z = 8) else if t = 3 then decide (z = 0) else if t = 4 then decide (1 ≤ z ∧ z ≤ 200) else false
/-- May a column be? -/
def colV (c : Cl) : Bool := nameV c.n && sizeV c.t c.z

set_option maxRecDepth 100000 in
set_option maxHeartbeats 2000000 in
theorem column_any (c : Cl) (w : World) (hl : c.n.length ≤ 100000) : Calls Tryz.prog 42 #[c.val] w fun e w' => e = .returned (.bool (colV c)) ∧ Below w.heap.size w w' := by
  obtain ⟨n, t, z, nl⟩ := c
  unfold Cl.val colV
  dsimp only at hl ⊢
  have hN := fun W => Name_any n W hl
  generalize nameV n = nb at *
  replace hN := Lib.hid hN
  clear hl
  have hb0 := fun o => (Below.refl w.heap.size w).alloc (Nat.le_refl _) o
  by_cases t1 : t = 1 ∨ t = 2
  · have hv : sizeV t z = decide (z = 1 ∨ z = 2 ∨ z = 4 ∨ z = 8) := by unfold sizeV; rw [if_pos t1]
    rw [hv]
    clear hv
    rcases t1 with rfl | rfl
    all_goals
      cases nb
      · go_enter Tryz.func42, Tryz.ntmps42
        go_wp2_with (go_at_call 65; refine (hN.out _).mono ?_; rintro e w' ⟨rfl, rfl⟩)
        go_ret
        exact ⟨rfl, hb0 _⟩
      · by_cases z1 : z = 1
        · subst z1
          go_enter Tryz.func42, Tryz.ntmps42
          go_wp2_with (go_at_call 65; refine (hN.out _).mono ?_; rintro e w' ⟨rfl, rfl⟩)
          go_ret
          exact ⟨rfl, hb0 _⟩
        · by_cases z2 : z = 2
          · subst z2
            go_enter Tryz.func42, Tryz.ntmps42
            go_wp2_with (go_at_call 65; refine (hN.out _).mono ?_; rintro e w' ⟨rfl, rfl⟩)
            go_ret
            exact ⟨rfl, hb0 _⟩
          · by_cases z4 : z = 4
            · subst z4
              go_enter Tryz.func42, Tryz.ntmps42
              go_wp2_with (go_at_call 65; refine (hN.out _).mono ?_; rintro e w' ⟨rfl, rfl⟩)
              go_ret
              exact ⟨rfl, hb0 _⟩
            · have e1 : (z == 1) = false := by simpa using z1
              have e2 : (z == 2) = false := by simpa using z2
              have e4 : (z == 4) = false := by simpa using z4
              have hr : decide (z = 1 ∨ z = 2 ∨ z = 4 ∨ z = 8) = (z == 8) := by rw [Bool.eq_iff_iff]; simp; omega
              replace hr := Lib.hid hr
              clear z1 z2 z4
              go_enter Tryz.func42, Tryz.ntmps42
              go_wp2_with (go_at_call 65; refine (hN.out _).mono ?_; rintro e w' ⟨rfl, rfl⟩)
              go_ret
              exact ⟨by rw [hr.out]; rfl, hb0 _⟩
  · by_cases t3 : t = 3
    · subst t3
      have hv : sizeV 3 z = (z == 0) := by unfold sizeV; rw [if_neg t1, if_pos rfl, Bool.eq_iff_iff]; simp
      rw [hv]
      clear hv
      cases nb
      all_goals
        go_enter Tryz.func42, Tryz.ntmps42
        go_wp2_with (go_at_call 65; refine (hN.out _).mono ?_; rintro e w' ⟨rfl, rfl⟩)
        go_ret
        exact ⟨rfl, hb0 _⟩
    · by_cases t4 : t = 4
      · subst t4
        have hv : sizeV 4 z = decide (1 ≤ z ∧ z ≤ 200) := by unfold sizeV; rw [if_neg t1, if_neg t3, if_pos rfl]
        rw [hv]
        clear hv
        cases nb
        · go_enter Tryz.func42, Tryz.ntmps42
          go_wp2_with (go_at_call 65; refine (hN.out _).mono ?_; rintro e w' ⟨rfl, rfl⟩)
          go_ret
          exact ⟨rfl, hb0 _⟩
        · by_cases z1 : 1 ≤ z
          · have d1 : decide ((1 : Int) ≤ z) = true := by simpa using z1
            have hr : decide (1 ≤ z ∧ z ≤ 200) = decide (z ≤ 200) := by rw [Bool.eq_iff_iff]; simp; omega
            replace hr := Lib.hid hr
            clear z1
            go_enter Tryz.func42, Tryz.ntmps42
            go_wp2_with (go_at_call 65; refine (hN.out _).mono ?_; rintro e w' ⟨rfl, rfl⟩)
            go_ret
            exact ⟨by rw [hr.out]; rfl, hb0 _⟩
          · have d1 : decide ((1 : Int) ≤ z) = false := by simpa using z1
            have hr : decide (1 ≤ z ∧ z ≤ 200) = false := by simp; omega
            replace hr := Lib.hid hr
            clear z1
            go_enter Tryz.func42, Tryz.ntmps42
            go_wp2_with (go_at_call 65; refine (hN.out _).mono ?_; rintro e w' ⟨rfl, rfl⟩)
            go_ret
            exact ⟨by rw [hr.out]; rfl, hb0 _⟩
      · have hv : sizeV t z = false := by unfold sizeV; rw [if_neg t1, if_neg t3, if_neg t4]
        rw [hv, Bool.and_false]
        have e1 : (t == 1) = false := by simp; omega
        have e2 : (t == 2) = false := by simp; omega
        have e3 : (t == 3) = false := by simpa using t3
        have e4 : (t == 4) = false := by simpa using t4
        clear hv t1 t3 t4
        go_enter Tryz.func42, Tryz.ntmps42
        go_wp2
        go_ret
        exact ⟨rfl, hb0 _⟩
end Go.Proofs.YtagoooclfcbdeaaGreatDoor
