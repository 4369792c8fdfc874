/- value: kinds, bare, Check. -/
import Derived.Test.YtagoooclfcbdeaaGreatDoorMap
import Derived.Test.YtagoooclfcbdeaaGreatDoorBox
import Derived.RangeFuncBox
import Derived.Test.YtagoooclfcbdeaaGreatDoorLen
namespace Go.Proofs.YtagoooclfcbdeaaGreatDoor
open Go.RowKit
set_option linter.unusedVariables false

/-- A Kind's two functions. -/
def vk (a b : FuncId) : Value := .agg #[.func (.func a) #[] #[], .func (.func b) #[] #[]]
def VKinds : List (Int × Value) := [(0, vk 112 113), (1, vk 114 115), (2, vk 116 117), (3, vk 118 119), (4, vk 121 122)]

theorem vkinds_any (w : World) : Calls Tryz.prog 84 #[] w fun e w' => ∃ r, e = .returned (.map (some r)) ∧ IMap w' r .i64 VKinds ∧ Below w.heap.size w w' ∧ w.heap.size ≤ r := by
  have m0 := IMap.new w .i64
  have hb0 : Below w.heap.size w (w.alloc (.map #[] 0)) := (Below.refl _ w).alloc (Nat.le_refl _) _
  obtain ⟨w1, e1, m1, g1⟩ := m0.insert (P := Tryz.prog) 142 25 140 Tryz.underlying142 Tryz.underlying25 0 (vk 112 113) rfl
  obtain ⟨w2, e2, m2, g2⟩ := m1.insert (P := Tryz.prog) 142 25 140 Tryz.underlying142 Tryz.underlying25 1 (vk 114 115) rfl
  obtain ⟨w3, e3, m3, g3⟩ := m2.insert (P := Tryz.prog) 142 25 140 Tryz.underlying142 Tryz.underlying25 2 (vk 116 117) rfl
  obtain ⟨w4, e4, m4, g4⟩ := m3.insert (P := Tryz.prog) 142 25 140 Tryz.underlying142 Tryz.underlying25 3 (vk 118 119) rfl
  obtain ⟨w5, e5, m5, g5⟩ := m4.insert (P := Tryz.prog) 142 25 140 Tryz.underlying142 Tryz.underlying25 4 (vk 121 122) rfl
  have hb1 := hb0.grown g1 hb0.size (fun k e => by cases e; exact Nat.le_refl _)
  have hb2 := hb1.grown g2 hb1.size (fun k e => by cases e; exact Nat.le_refl _)
  have hb3 := hb2.grown g3 hb2.size (fun k e => by cases e; exact Nat.le_refl _)
  have hb4 := hb3.grown g4 hb3.size (fun k e => by cases e; exact Nat.le_refl _)
  have hb5 := hb4.grown g5 hb4.size (fun k e => by cases e; exact Nat.le_refl _)
  unfold vk at e1 e2 e3 e4 e5
  clear g1 g2 g3 g4 g5 hb1 hb2 hb3 hb4 hb0 m0 m1 m2 m3 m4
  go_enter Tryz.func84, Tryz.ntmps84
  have hmm := @run_makeMap Tryz.prog
  go_wp2
  go_ret
  exact ⟨_, rfl, m5, hb5, Nat.le_refl _⟩

/-- A value as the program lays it. -/
def valV (k i u : Int) (s : ByteArray) : Value := .agg #[.int .i64 k, .int .i64 i, .int .u64 u, .string s]

theorem may_null (k i u : Int) (s : ByteArray) (w : World) : Calls Tryz.prog 112 #[valV k i u s] w fun e w' => e = .returned (.bool true) ∧ Below w.heap.size w w' := by
  unfold valV
  go_enter Tryz.func112, Tryz.ntmps112
  go_wp2
  go_ret
  exact ⟨rfl, (Below.refl _ w).alloc (Nat.le_refl _) _⟩
theorem may_int (k i u : Int) (s : ByteArray) (w : World) : Calls Tryz.prog 114 #[valV k i u s] w fun e w' => e = .returned (.bool true) ∧ Below w.heap.size w w' := by
  unfold valV
  go_enter Tryz.func114, Tryz.ntmps114
  go_wp2
  go_ret
  exact ⟨rfl, (Below.refl _ w).alloc (Nat.le_refl _) _⟩
theorem may_uint (k i u : Int) (s : ByteArray) (w : World) : Calls Tryz.prog 116 #[valV k i u s] w fun e w' => e = .returned (.bool true) ∧ Below w.heap.size w w' := by
  unfold valV
  go_enter Tryz.func116, Tryz.ntmps116
  go_wp2
  go_ret
  exact ⟨rfl, (Below.refl _ w).alloc (Nat.le_refl _) _⟩
theorem may_bytes (k i u : Int) (s : ByteArray) (w : World) : Calls Tryz.prog 121 #[valV k i u s] w fun e w' => e = .returned (.bool true) ∧ Below w.heap.size w w' := by
  unfold valV
  go_enter Tryz.func121, Tryz.ntmps121
  go_wp2
  go_ret
  exact ⟨rfl, (Below.refl _ w).alloc (Nat.le_refl _) _⟩
theorem may_bool (k i u : Int) (s : ByteArray) (w : World) : Calls Tryz.prog 118 #[valV k i u s] w fun e w' => e = .returned (.bool (decide (i = 0 ∨ i = 1))) ∧ Below w.heap.size w w' := by
  unfold valV
  by_cases h0 : i = 0
  · subst h0
    go_enter Tryz.func118, Tryz.ntmps118
    go_wp2
    go_ret
    exact ⟨rfl, (Below.refl _ w).alloc (Nat.le_refl _) _⟩
  · by_cases h1 : i = 1
    · subst h1
      go_enter Tryz.func118, Tryz.ntmps118
      go_wp2
      go_ret
      exact ⟨rfl, (Below.refl _ w).alloc (Nat.le_refl _) _⟩
    · have hd0 : (i == 0) = false := by simpa using h0
      have hd1 : (i == 1) = false := by simpa using h1
      go_enter Tryz.func118, Tryz.ntmps118
      go_wp2
      go_ret
      exact ⟨by simp [h0, h1], (Below.refl _ w).alloc (Nat.le_refl _) _⟩

/-- What a value's Kind names alone. -/
def bareV (k i u : Int) (s : ByteArray) : Value := valV k (if k = 1 ∨ k = 3 then i else 0) (if k = 2 then u else 0) (if k = 4 then s else ByteArray.empty)
theorem bare_any (k i u : Int) (s : ByteArray) (w : World) : Calls Tryz.prog 85 #[valV k i u s] w fun e w' => e = .returned (bareV k i u s) ∧ Below w.heap.size w w' := by
  unfold bareV valV
  have hb : ∀ o1 o2 o3, Below w.heap.size w (((w.alloc o1).alloc o2).alloc o3) := fun o1 o2 o3 => (((Below.refl _ w).alloc (Nat.le_refl _) o1).alloc (by simp) o2).alloc (by simp; omega) o3
  by_cases h3 : k = 3
  · subst h3
    go_enter Tryz.func85, Tryz.ntmps85
    go_wp2
    exact ⟨rfl, .agg #[.int .i64 3, .int .i64 i, .int .u64 0, .string ByteArray.empty], by simp [results, Tryz.f85, go_sem]; rfl, rfl, hb _ _ _⟩
  by_cases h1 : k = 1
  · subst h1
    go_enter Tryz.func85, Tryz.ntmps85
    go_wp2
    exact ⟨rfl, .agg #[.int .i64 1, .int .i64 i, .int .u64 0, .string ByteArray.empty], by simp [results, Tryz.f85, go_sem]; rfl, rfl, hb _ _ _⟩
  by_cases h2 : k = 2
  · subst h2
    go_enter Tryz.func85, Tryz.ntmps85
    go_wp2
    exact ⟨rfl, .agg #[.int .i64 2, .int .i64 0, .int .u64 u, .string ByteArray.empty], by simp [results, Tryz.f85, go_sem]; rfl, rfl, hb _ _ _⟩
  by_cases h4 : k = 4
  · subst h4
    go_enter Tryz.func85, Tryz.ntmps85
    go_wp2
    exact ⟨rfl, .agg #[.int .i64 4, .int .i64 0, .int .u64 0, .string s], by simp [results, Tryz.f85, go_sem], rfl, hb _ _ _⟩
  · have d1 : (k == 1) = false := by simpa using h1
    have d2 : (k == 2) = false := by simpa using h2
    have d3 : (k == 3) = false := by simpa using h3
    have d4 : (k == 4) = false := by simpa using h4
    have e0 : (.agg #[.int .i64 k, .int .i64 (if k = 1 ∨ k = 3 then i else 0), .int .u64 (if k = 2 then u else 0), .string (if k = 4 then s else ByteArray.empty)] : Value) = .agg #[.int .i64 k, .int .i64 0, .int .u64 0, .string ByteArray.empty] := by simp [h1, h2, h3, h4]
    rw [e0]
    clear e0
    go_enter Tryz.func85, Tryz.ntmps85
    go_wp2
    exact ⟨rfl, .agg #[.int .i64 k, .int .i64 0, .int .u64 0, .string ByteArray.empty], by simp [results, Tryz.f85, go_sem]; rfl, rfl, hb _ _ _⟩
end Go.Proofs.YtagoooclfcbdeaaGreatDoor