/- schema: what each type asks. -/
import Derived.Test.YtagoooclfcbdeaaGreatDoorColC
import Derived.Test.YtagoooclfcbdeaaGreatDoorColF
import Derived.Test.YtagoooclfcbdeaaGreatDoorMap
namespace Go.Proofs.YtagoooclfcbdeaaGreatDoor
open Go.RowKit
set_option linter.unusedVariables false

/-- A type's functions. -/
def sk (a : FuncId) (k : Int) (b : FuncId) : Value := .agg #[.func (.func a) #[] #[], .int .i64 k, .func (.func b) #[] #[]]
def SKinds : List (Int × Value) := [(1, sk 86 1 87), (2, sk 86 2 88), (3, sk 89 3 90), (4, sk 91 4 92)]
theorem skinds_any (w : World) : Calls Tryz.prog 56 #[] w fun e w' => ∃ r, e = .returned (.map (some r)) ∧ IMap w' r .i64 SKinds ∧ Below w.heap.size w w' ∧ w.heap.size ≤ r := by
  have m0 := IMap.new w .i64
  have hb0 : Below w.heap.size w (w.alloc (.map #[] 0)) := (Below.refl _ w).alloc (Nat.le_refl _) _
  obtain ⟨w1, e1, m1, g1⟩ := m0.insert (P := Tryz.prog) 113 22 112 Tryz.underlying113 Tryz.underlying22 1 (sk 86 1 87) rfl
  obtain ⟨w2, e2, m2, g2⟩ := m1.insert (P := Tryz.prog) 113 22 112 Tryz.underlying113 Tryz.underlying22 2 (sk 86 2 88) rfl
  obtain ⟨w3, e3, m3, g3⟩ := m2.insert (P := Tryz.prog) 113 22 112 Tryz.underlying113 Tryz.underlying22 3 (sk 89 3 90) rfl
  obtain ⟨w4, e4, m4, g4⟩ := m3.insert (P := Tryz.prog) 113 22 112 Tryz.underlying113 Tryz.underlying22 4 (sk 91 4 92) rfl
  have hb1 := hb0.grown g1 hb0.size (fun k e => by cases e; exact Nat.le_refl _)
  have hb2 := hb1.grown g2 hb1.size (fun k e => by cases e; exact Nat.le_refl _)
  have hb3 := hb2.grown g3 hb2.size (fun k e => by cases e; exact Nat.le_refl _)
  have hb4 := hb3.grown g4 hb3.size (fun k e => by cases e; exact Nat.le_refl _)
  unfold sk at e1 e2 e3 e4
  clear g1 g2 g3 g4 hb1 hb2 hb3 hb0 m0 m1 m2 m3
  go_enter Tryz.func56, Tryz.ntmps56
  have hmm := @run_makeMap Tryz.prog
  go_wp2
  go_ret
  exact ⟨_, rfl, m4, hb4, Nat.le_refl _⟩

theorem whole_any (z : Int) (w : World) : Calls Tryz.prog 86 #[.int .i64 z] w fun e w' => e = .returned (.bool (decide (z = 1 ∨ z = 2 ∨ z = 4 ∨ z = 8))) ∧ w = w' := by
  by_cases z1 : z = 1
  · subst z1
    go_enter Tryz.func86, Tryz.ntmps86
    go_wp2
    go_ret
    exact ⟨rfl, rfl⟩
  · by_cases z2 : z = 2
    · subst z2
      go_enter Tryz.func86, Tryz.ntmps86
      go_wp2
      go_ret
      exact ⟨rfl, rfl⟩
    · by_cases z4 : z = 4
      · subst z4
        go_enter Tryz.func86, Tryz.ntmps86
        go_wp2
        go_ret
        exact ⟨rfl, rfl⟩
      · have e1 : (z == 1) = false := by simpa using z1
        have e2 : (z == 2) = false := by simpa using z2
        have e4 : (z == 4) = false := by simpa using z4
        obtain ⟨R, hR⟩ : ∃ R, decide (z = 1 ∨ z = 2 ∨ z = 4 ∨ z = 8) = R := ⟨_, rfl⟩
        have hr : R = (z == 8) := by rw [← hR, Bool.eq_iff_iff]; simp; omega
        rw [hR]
        replace hr := Lib.hid hr
        clear z1 z2 z4 hR
        go_enter Tryz.func86, Tryz.ntmps86
        go_wp2
        go_ret
        exact ⟨by rw [hr.out]; rfl, rfl⟩
theorem size3_any (z : Int) (w : World) : Calls Tryz.prog 89 #[.int .i64 z] w fun e w' => e = .returned (.bool (z == 0)) ∧ w = w' := by
  go_enter Tryz.func89, Tryz.ntmps89
  go_wp2
  go_ret
  exact ⟨rfl, rfl⟩
theorem size5_any (z : Int) (w : World) : Calls Tryz.prog 91 #[.int .i64 z] w fun e w' => e = .returned (.bool (decide (1 ≤ z ∧ z ≤ 200))) ∧ w = w' := by
  obtain ⟨R, hR⟩ : ∃ R, decide (1 ≤ z ∧ z ≤ 200) = R := ⟨_, rfl⟩
  rw [hR]
  by_cases z1 : 1 ≤ z
  · have d1 : decide ((1 : Int) ≤ z) = true := by simpa using z1
    have hr : R = decide (z ≤ 200) := by rw [← hR, Bool.eq_iff_iff]; simp; omega
    replace hr := Lib.hid hr
    clear z1 hR
    go_enter Tryz.func91, Tryz.ntmps91
    go_wp2
    go_ret
    exact ⟨by rw [hr.out]; rfl, rfl⟩
  · have d1 : decide ((1 : Int) ≤ z) = false := by simpa using z1
    have hr : R = false := by rw [← hR]; simp; omega
    replace hr := Lib.hid hr
    clear z1 hR
    go_enter Tryz.func91, Tryz.ntmps91
    go_wp2
    go_ret
    exact ⟨by rw [hr.out]; rfl, rfl⟩
theorem room4_any (z : Int) (x : Vl) (w : World) : Calls Tryz.prog 90 #[.int .i64 z, x.val] w fun e w' => e = .returned (.bool true) ∧ Below w.heap.size w w' := by
  have hb := fun o => (Below.refl w.heap.size w).alloc (Nat.le_refl _) o
  obtain ⟨xk, xi, xu, xs⟩ := x
  simp only [Vl.val, valV]
  go_enter Tryz.func90, Tryz.ntmps90
  go_wp2
  go_ret
  exact ⟨rfl, hb _⟩
attribute [local go_sem] strL_size
theorem room6_any (z : Int) (x : Vl) (w : World) : Calls Tryz.prog 92 #[.int .i64 z, x.val] w fun e w' => e = .returned (.bool (decide ((x.s.length : Int) ≤ z))) ∧ Below w.heap.size w w' := by
  have hb := fun o => (Below.refl w.heap.size w).alloc (Nat.le_refl _) o
  obtain ⟨xk, xi, xu, xs⟩ := x
  simp only [Vl.val, valV]
  go_enter Tryz.func92, Tryz.ntmps92
  go_wp2
  go_ret
  exact ⟨rfl, hb _⟩
theorem room1_any (z : Int) (x : Vl) (w : World) (hz : z = 1 ∨ z = 2 ∨ z = 4 ∨ z = 8) : Calls Tryz.prog 87 #[.int .i64 z, x.val] w fun e w' => e = .returned (.bool (decide (leastV z ≤ x.i ∧ x.i ≤ -(leastV z + 1)))) ∧ Below w.heap.size w w' := by
  have hb : Below w.heap.size w (w.alloc (.cells #[.int .i64 x.k, .int .i64 x.i, .int .u64 x.u, .string (strL x.s)] 28)) := (Below.refl w.heap.size w).alloc (Nat.le_refl _) _
  have cv := (VBox.new w x.k x.i x.u (strL x.s)).cells
  obtain ⟨xk, xi, xu, xs⟩ := x
  simp only [Vl.val, valV] at *
  have p1 : (wrap64 (xi * 72057594037927936) / 72057594037927936 == xi) = decide (leastV 1 ≤ xi ∧ xi ≤ -(leastV 1 + 1)) := by
    rw [Bool.eq_iff_iff]; simp [leastV]; unfold wrap64; omega
  have p2 : (wrap64 (xi * 281474976710656) / 281474976710656 == xi) = decide (leastV 2 ≤ xi ∧ xi ≤ -(leastV 2 + 1)) := by
    rw [Bool.eq_iff_iff]; simp [leastV]; unfold wrap64; omega
  have p4 : (wrap64 (xi * 4294967296) / 4294967296 == xi) = decide (leastV 4 ≤ xi ∧ xi ≤ -(leastV 4 + 1)) := by
    rw [Bool.eq_iff_iff]; simp [leastV]; unfold wrap64; omega
  have p8 : (wrap64 xi == xi) = decide (leastV 8 ≤ xi ∧ xi ≤ -(leastV 8 + 1)) := by
    rw [Bool.eq_iff_iff]; simp [leastV]; unfold wrap64; omega
  replace p1 := Lib.hid p1
  replace p2 := Lib.hid p2
  replace p4 := Lib.hid p4
  replace p8 := Lib.hid p8
  rcases hz with rfl | rfl | rfl | rfl
  · generalize decide (leastV 1 ≤ xi ∧ xi ≤ -(leastV 1 + 1)) = R at *
    go_enter Tryz.func87, Tryz.ntmps87
    go_wp2
    generalize (w.alloc (.cells #[.int .i64 xk, .int .i64 xi, .int .u64 xu, .string (strL xs)] 28)) = w1 at *
    go_region
    go_wp2
    go_ret
    exact ⟨by rw [← p1.out]; rfl, hb.drew⟩
  · generalize decide (leastV 2 ≤ xi ∧ xi ≤ -(leastV 2 + 1)) = R at *
    go_enter Tryz.func87, Tryz.ntmps87
    go_wp2
    generalize (w.alloc (.cells #[.int .i64 xk, .int .i64 xi, .int .u64 xu, .string (strL xs)] 28)) = w1 at *
    go_region
    go_wp2
    go_ret
    exact ⟨by rw [← p2.out]; rfl, hb.drew⟩
  · generalize decide (leastV 4 ≤ xi ∧ xi ≤ -(leastV 4 + 1)) = R at *
    go_enter Tryz.func87, Tryz.ntmps87
    go_wp2
    generalize (w.alloc (.cells #[.int .i64 xk, .int .i64 xi, .int .u64 xu, .string (strL xs)] 28)) = w1 at *
    go_region
    go_wp2
    go_ret
    exact ⟨by rw [← p4.out]; rfl, hb.drew⟩
  · generalize decide (leastV 8 ≤ xi ∧ xi ≤ -(leastV 8 + 1)) = R at *
    go_enter Tryz.func87, Tryz.ntmps87
    go_wp2
    generalize (w.alloc (.cells #[.int .i64 xk, .int .i64 xi, .int .u64 xu, .string (strL xs)] 28)) = w1 at *
    go_region
    go_wp2
    go_ret
    exact ⟨by rw [← p8.out]; rfl, hb.drew⟩
theorem room2_any (z : Int) (x : Vl) (w : World) (hx : 0 ≤ x.u) (hx1 : x.u ≤ 18446744073709551615) (hz : z = 1 ∨ z = 2 ∨ z = 4 ∨ z = 8) : Calls Tryz.prog 88 #[.int .i64 z, x.val] w fun e w' => e = .returned (.bool (decide (x.u ≤ mostV z))) ∧ Below w.heap.size w w' := by
  have hb : Below w.heap.size w (w.alloc (.cells #[.int .i64 x.k, .int .i64 x.i, .int .u64 x.u, .string (strL x.s)] 28)) := (Below.refl w.heap.size w).alloc (Nat.le_refl _) _
  have cv := (VBox.new w x.k x.i x.u (strL x.s)).cells
  obtain ⟨xk, xi, xu, xs⟩ := x
  simp only [Vl.val, valV] at *
  have p1 : (IntKind.u64.wrap (xu * 72057594037927936) / 72057594037927936 == xu) = decide (xu ≤ mostV 1) := by
    rw [Bool.eq_iff_iff, IntKind.wrap_u64]; simp [mostV]; omega
  have p2 : (IntKind.u64.wrap (xu * 281474976710656) / 281474976710656 == xu) = decide (xu ≤ mostV 2) := by
    rw [Bool.eq_iff_iff, IntKind.wrap_u64]; simp [mostV]; omega
  have p4 : (IntKind.u64.wrap (xu * 4294967296) / 4294967296 == xu) = decide (xu ≤ mostV 4) := by
    rw [Bool.eq_iff_iff, IntKind.wrap_u64]; simp [mostV]; omega
  have p8 : (IntKind.u64.wrap xu == xu) = decide (xu ≤ mostV 8) := by
    rw [Bool.eq_iff_iff, IntKind.wrap_u64]; simp [mostV]; omega
  replace p1 := Lib.hid p1
  replace p2 := Lib.hid p2
  replace p4 := Lib.hid p4
  replace p8 := Lib.hid p8
  clear hx hx1
  rcases hz with rfl | rfl | rfl | rfl
  · generalize decide (xu ≤ mostV 1) = R at *
    go_enter Tryz.func88, Tryz.ntmps88
    go_wp2
    generalize (w.alloc (.cells #[.int .i64 xk, .int .i64 xi, .int .u64 xu, .string (strL xs)] 28)) = w1 at *
    go_region
    go_wp2
    go_ret
    exact ⟨by rw [← p1.out]; rfl, hb.drew⟩
  · generalize decide (xu ≤ mostV 2) = R at *
    go_enter Tryz.func88, Tryz.ntmps88
    go_wp2
    generalize (w.alloc (.cells #[.int .i64 xk, .int .i64 xi, .int .u64 xu, .string (strL xs)] 28)) = w1 at *
    go_region
    go_wp2
    go_ret
    exact ⟨by rw [← p2.out]; rfl, hb.drew⟩
  · generalize decide (xu ≤ mostV 4) = R at *
    go_enter Tryz.func88, Tryz.ntmps88
    go_wp2
    generalize (w.alloc (.cells #[.int .i64 xk, .int .i64 xi, .int .u64 xu, .string (strL xs)] 28)) = w1 at *
    go_region
    go_wp2
    go_ret
    exact ⟨by rw [← p4.out]; rfl, hb.drew⟩
  · generalize decide (xu ≤ mostV 8) = R at *
    go_enter Tryz.func88, Tryz.ntmps88
    go_wp2
    generalize (w.alloc (.cells #[.int .i64 xk, .int .i64 xi, .int .u64 xu, .string (strL xs)] 28)) = w1 at *
    go_region
    go_wp2
    go_ret
    exact ⟨by rw [← p8.out]; rfl, hb.drew⟩
end Go.Proofs.YtagoooclfcbdeaaGreatDoor
