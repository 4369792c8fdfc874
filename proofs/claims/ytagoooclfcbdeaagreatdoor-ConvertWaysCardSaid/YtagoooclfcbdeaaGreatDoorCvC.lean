/- convert: the ways between numbers, each a function value. convert: the ways from truths, to bytes and from bytes, and what is sure, each a function value. -/
import Derived.Test.YtagoooclfcbdeaaGreatDoorPairK
import Derived.Test.YtagoooclfcbdeaaGreatDoorCvA
import Derived.Test.YtagoooclfcbdeaaGreatDoorFmt
import Derived.Test.YtagoooclfcbdeaaGreatDoorVBox
import Derived.Test.YtagoooclfcbdeaaGreatDoorPrs
import Derived.Test.YtagoooclfcbdeaaGreatDoorTextP
namespace Go.Proofs.YtagoooclfcbdeaaGreatDoor
open Go.RowKit
set_option linter.unusedVariables false

theorem vbox_drew {W : World} {B : Nat} {k i u : Int} {s : ByteArray} (h : VBox W B k i u s) : VBox W.drew B k i u s := h
/-- What a value is turned to, if it is. -/
def TurnP (w : World) (r : Option Vl) (e : Ending) (w' : World) : Prop :=
  ∃ (y : Vl) (b : Bool), e = .returned (.tuple #[y.val, .bool b]) ∧ (b = true → r = some y) ∧ (b = false → r = none) ∧ Below w.heap.size w w'

set_option maxRecDepth 100000 in
set_option maxHeartbeats 2000000 in
theorem turn1 (x : Vl) (hx : x.Wf) (w : World) : Calls Tryz.prog 68 #[x.val] w (TurnP w (if 0 ≤ x.i then some ⟨2, 0, x.i, []⟩ else none)) := by
  have i0 := hx.i0
  have i1 := hx.i1
  clear hx
  obtain ⟨xk, xi, xu, xs⟩ := x
  simp only [Vl.val, valV] at *
  by_cases hc : 0 ≤ xi
  · have hd : decide (0 ≤ xi) = true := by simpa using hc
    have hw : xi % 18446744073709551616 = xi := by omega
    have hr : (if 0 ≤ xi then some (⟨2, 0, xi, []⟩ : Vl) else none) = some ⟨2, 0, xi, []⟩ := if_pos hc
    rw [hr]
    clear hr hc i0 i1
    have hb : Below w.heap.size w ((w.alloc (.cells #[.int .i64 xk, .int .i64 xi, .int .u64 xu, .string (strL xs)] 28)).alloc (.cells #[.int .i64 0, .int .i64 0, .int .u64 0, .string { data := #[] }] 28)) := gr_alloc (gr_alloc (Below.refl _ w) _) _
    have hV := (VBox.new w xk xi xu (strL xs)).below ((Below.refl _ (w.alloc (.cells #[.int .i64 xk, .int .i64 xi, .int .u64 xu, .string (strL xs)] 28))).alloc (Nat.le_refl _) (.cells #[.int .i64 0, .int .i64 0, .int .u64 0, .string { data := #[] }] 28)) (by simp)
    have hR := VBox.new (w.alloc (.cells #[.int .i64 xk, .int .i64 xi, .int .u64 xu, .string (strL xs)] 28)) 0 0 0 { data := #[] }
    rw [show (w.alloc (.cells #[.int .i64 xk, .int .i64 xi, .int .u64 xu, .string (strL xs)] 28)).heap.size = w.heap.size + 1 by simp] at hR
    have cv := hV.cells
    have cr := hR.cells
    have f0 := hR.frozen 0
    have f1 := hR.frozen 1
    have f2 := hR.frozen 2
    have f3 := hR.frozen 3
    go_enter Tryz.func68, Tryz.ntmps68
    go_wp2
    generalize ((w.alloc (.cells #[.int .i64 xk, .int .i64 xi, .int .u64 xu, .string (strL xs)] 28)).alloc (.cells #[.int .i64 0, .int .i64 0, .int .u64 0, .string { data := #[] }] 28)) = w2 at *
    go_region
    go_wp2
    have hP := vbox_drew (hR.put 2 0 xi { data := #[] })
    refine bodyPost_ret (results_cellV rfl _ _ rfl hP) rfl ?_
    exact ⟨⟨2, 0, xi, []⟩, true, rfl, (fun _ => rfl), (by intro h; cases h), (below_put hb (Nat.le_succ _) _ _ _ _).drew⟩
  · have hd : decide (0 ≤ xi) = false := by simpa using hc
    have hr : (if 0 ≤ xi then some (⟨2, 0, xi, []⟩ : Vl) else none) = none := if_neg hc
    rw [hr]
    clear hr hc i0 i1
    have hb : Below w.heap.size w ((w.alloc (.cells #[.int .i64 xk, .int .i64 xi, .int .u64 xu, .string (strL xs)] 28)).alloc (.cells #[.int .i64 0, .int .i64 0, .int .u64 0, .string { data := #[] }] 28)) := gr_alloc (gr_alloc (Below.refl _ w) _) _
    have hV := (VBox.new w xk xi xu (strL xs)).below ((Below.refl _ (w.alloc (.cells #[.int .i64 xk, .int .i64 xi, .int .u64 xu, .string (strL xs)] 28))).alloc (Nat.le_refl _) (.cells #[.int .i64 0, .int .i64 0, .int .u64 0, .string { data := #[] }] 28)) (by simp)
    have hR := VBox.new (w.alloc (.cells #[.int .i64 xk, .int .i64 xi, .int .u64 xu, .string (strL xs)] 28)) 0 0 0 { data := #[] }
    rw [show (w.alloc (.cells #[.int .i64 xk, .int .i64 xi, .int .u64 xu, .string (strL xs)] 28)).heap.size = w.heap.size + 1 by simp] at hR
    have cv := hV.cells
    have cr := hR.cells
    have f0 := hR.frozen 0
    have f1 := hR.frozen 1
    have f2 := hR.frozen 2
    have f3 := hR.frozen 3
    go_enter Tryz.func68, Tryz.ntmps68
    go_wp2
    generalize ((w.alloc (.cells #[.int .i64 xk, .int .i64 xi, .int .u64 xu, .string (strL xs)] 28)).alloc (.cells #[.int .i64 0, .int .i64 0, .int .u64 0, .string { data := #[] }] 28)) = w2 at *
    go_region
    go_wp2
    have hP := vbox_drew (hR.put 2 0 (xi % 18446744073709551616) { data := #[] })
    refine bodyPost_ret (results_cellV rfl _ _ rfl hP) rfl ?_
    exact ⟨⟨2, 0, (xi % 18446744073709551616), []⟩, false, rfl, (by intro h; cases h), (fun _ => rfl), (below_put hb (Nat.le_succ _) _ _ _ _).drew⟩
set_option maxRecDepth 100000 in
set_option maxHeartbeats 2000000 in
theorem turn2 (x : Vl) (hx : x.Wf) (w : World) : Calls Tryz.prog 70 #[x.val] w (TurnP w (if x.u < 9223372036854775808 then some ⟨1, x.u, 0, []⟩ else none)) := by
  have i0 := hx.u0
  have i1 := hx.u1
  clear hx
  obtain ⟨xk, xi, xu, xs⟩ := x
  simp only [Vl.val, valV] at *
  by_cases hc : xu < 9223372036854775808
  · have hw : wrap64 xu = xu := by unfold wrap64; omega
    have hd : decide (0 ≤ xu) = true := by simpa using i0
    have hr : (if xu < 9223372036854775808 then some (⟨1, xu, 0, []⟩ : Vl) else none) = some ⟨1, xu, 0, []⟩ := if_pos hc
    rw [hr]
    clear hr hc i0 i1
    have hb : Below w.heap.size w ((w.alloc (.cells #[.int .i64 xk, .int .i64 xi, .int .u64 xu, .string (strL xs)] 28)).alloc (.cells #[.int .i64 0, .int .i64 0, .int .u64 0, .string { data := #[] }] 28)) := gr_alloc (gr_alloc (Below.refl _ w) _) _
    have hV := (VBox.new w xk xi xu (strL xs)).below ((Below.refl _ (w.alloc (.cells #[.int .i64 xk, .int .i64 xi, .int .u64 xu, .string (strL xs)] 28))).alloc (Nat.le_refl _) (.cells #[.int .i64 0, .int .i64 0, .int .u64 0, .string { data := #[] }] 28)) (by simp)
    have hR := VBox.new (w.alloc (.cells #[.int .i64 xk, .int .i64 xi, .int .u64 xu, .string (strL xs)] 28)) 0 0 0 { data := #[] }
    rw [show (w.alloc (.cells #[.int .i64 xk, .int .i64 xi, .int .u64 xu, .string (strL xs)] 28)).heap.size = w.heap.size + 1 by simp] at hR
    have cv := hV.cells
    have cr := hR.cells
    have f0 := hR.frozen 0
    have f1 := hR.frozen 1
    have f2 := hR.frozen 2
    have f3 := hR.frozen 3
    go_enter Tryz.func70, Tryz.ntmps70
    go_wp2
    generalize ((w.alloc (.cells #[.int .i64 xk, .int .i64 xi, .int .u64 xu, .string (strL xs)] 28)).alloc (.cells #[.int .i64 0, .int .i64 0, .int .u64 0, .string { data := #[] }] 28)) = w2 at *
    go_region
    go_wp2
    have hP := vbox_drew (hR.put 1 xu 0 { data := #[] })
    refine bodyPost_ret (results_cellV rfl _ _ rfl hP) rfl ?_
    exact ⟨⟨1, xu, 0, []⟩, true, rfl, (fun _ => rfl), (by intro h; cases h), (below_put hb (Nat.le_succ _) _ _ _ _).drew⟩
  · have hd : decide (0 ≤ wrap64 xu) = false := by simp [wrap64]; omega
    have hr : (if xu < 9223372036854775808 then some (⟨1, xu, 0, []⟩ : Vl) else none) = none := if_neg hc
    rw [hr]
    clear hr hc i0 i1
    have hb : Below w.heap.size w ((w.alloc (.cells #[.int .i64 xk, .int .i64 xi, .int .u64 xu, .string (strL xs)] 28)).alloc (.cells #[.int .i64 0, .int .i64 0, .int .u64 0, .string { data := #[] }] 28)) := gr_alloc (gr_alloc (Below.refl _ w) _) _
    have hV := (VBox.new w xk xi xu (strL xs)).below ((Below.refl _ (w.alloc (.cells #[.int .i64 xk, .int .i64 xi, .int .u64 xu, .string (strL xs)] 28))).alloc (Nat.le_refl _) (.cells #[.int .i64 0, .int .i64 0, .int .u64 0, .string { data := #[] }] 28)) (by simp)
    have hR := VBox.new (w.alloc (.cells #[.int .i64 xk, .int .i64 xi, .int .u64 xu, .string (strL xs)] 28)) 0 0 0 { data := #[] }
    rw [show (w.alloc (.cells #[.int .i64 xk, .int .i64 xi, .int .u64 xu, .string (strL xs)] 28)).heap.size = w.heap.size + 1 by simp] at hR
    have cv := hV.cells
    have cr := hR.cells
    have f0 := hR.frozen 0
    have f1 := hR.frozen 1
    have f2 := hR.frozen 2
    have f3 := hR.frozen 3
    go_enter Tryz.func70, Tryz.ntmps70
    go_wp2
    generalize ((w.alloc (.cells #[.int .i64 xk, .int .i64 xi, .int .u64 xu, .string (strL xs)] 28)).alloc (.cells #[.int .i64 0, .int .i64 0, .int .u64 0, .string { data := #[] }] 28)) = w2 at *
    go_region
    go_wp2
    have hP := vbox_drew (hR.put 1 (wrap64 xu) 0 { data := #[] })
    refine bodyPost_ret (results_cellV rfl _ _ rfl hP) rfl ?_
    exact ⟨⟨1, (wrap64 xu), 0, []⟩, false, rfl, (by intro h; cases h), (fun _ => rfl), (below_put hb (Nat.le_succ _) _ _ _ _).drew⟩
set_option maxRecDepth 100000 in
set_option maxHeartbeats 2000000 in
theorem turn4 (x : Vl) (w : World) : Calls Tryz.prog 72 #[x.val] w (TurnP w (if x.i = 0 ∨ x.i = 1 then some ⟨3, x.i, 0, []⟩ else none)) := by
  obtain ⟨xk, xi, xu, xs⟩ := x
  simp only [Vl.val, valV] at *
  by_cases hc : xi = 0
  · have hr : (if xi = 0 ∨ xi = 1 then some (⟨3, xi, 0, []⟩ : Vl) else none) = some ⟨3, xi, 0, []⟩ := if_pos (.inl hc)
    rw [hr]
    have hd : (xi == 0) = true := by simpa using hc
    clear hr hc
    have hb : Below w.heap.size w ((w.alloc (.cells #[.int .i64 xk, .int .i64 xi, .int .u64 xu, .string (strL xs)] 28)).alloc (.cells #[.int .i64 0, .int .i64 0, .int .u64 0, .string { data := #[] }] 28)) := gr_alloc (gr_alloc (Below.refl _ w) _) _
    have hV := (VBox.new w xk xi xu (strL xs)).below ((Below.refl _ (w.alloc (.cells #[.int .i64 xk, .int .i64 xi, .int .u64 xu, .string (strL xs)] 28))).alloc (Nat.le_refl _) (.cells #[.int .i64 0, .int .i64 0, .int .u64 0, .string { data := #[] }] 28)) (by simp)
    have hR := VBox.new (w.alloc (.cells #[.int .i64 xk, .int .i64 xi, .int .u64 xu, .string (strL xs)] 28)) 0 0 0 { data := #[] }
    rw [show (w.alloc (.cells #[.int .i64 xk, .int .i64 xi, .int .u64 xu, .string (strL xs)] 28)).heap.size = w.heap.size + 1 by simp] at hR
    have cv := hV.cells
    have cr := hR.cells
    have f0 := hR.frozen 0
    have f1 := hR.frozen 1
    have f2 := hR.frozen 2
    have f3 := hR.frozen 3
    go_enter Tryz.func72, Tryz.ntmps72
    go_wp2
    generalize ((w.alloc (.cells #[.int .i64 xk, .int .i64 xi, .int .u64 xu, .string (strL xs)] 28)).alloc (.cells #[.int .i64 0, .int .i64 0, .int .u64 0, .string { data := #[] }] 28)) = w2 at *
    go_region
    go_wp2
    have hP := vbox_drew (hR.put 3 xi 0 { data := #[] })
    refine bodyPost_ret (results_cellV rfl _ _ rfl hP) rfl ?_
    exact ⟨⟨3, xi, 0, []⟩, true, rfl, (fun _ => rfl), (by intro h; cases h), (below_put hb (Nat.le_succ _) _ _ _ _).drew⟩
  · have hd : (xi == 0) = false := by simpa using hc
    by_cases hc1 : xi = 1
    · have hr : (if xi = 0 ∨ xi = 1 then some (⟨3, xi, 0, []⟩ : Vl) else none) = some ⟨3, xi, 0, []⟩ := by rw [if_pos (.inr hc1)]
      have hd1 : (xi == 1) = true := by simpa using hc1
      rw [hr]
      clear hr hc hc1
      have hb : Below w.heap.size w ((w.alloc (.cells #[.int .i64 xk, .int .i64 xi, .int .u64 xu, .string (strL xs)] 28)).alloc (.cells #[.int .i64 0, .int .i64 0, .int .u64 0, .string { data := #[] }] 28)) := gr_alloc (gr_alloc (Below.refl _ w) _) _
      have hV := (VBox.new w xk xi xu (strL xs)).below ((Below.refl _ (w.alloc (.cells #[.int .i64 xk, .int .i64 xi, .int .u64 xu, .string (strL xs)] 28))).alloc (Nat.le_refl _) (.cells #[.int .i64 0, .int .i64 0, .int .u64 0, .string { data := #[] }] 28)) (by simp)
      have hR := VBox.new (w.alloc (.cells #[.int .i64 xk, .int .i64 xi, .int .u64 xu, .string (strL xs)] 28)) 0 0 0 { data := #[] }
      rw [show (w.alloc (.cells #[.int .i64 xk, .int .i64 xi, .int .u64 xu, .string (strL xs)] 28)).heap.size = w.heap.size + 1 by simp] at hR
      have cv := hV.cells
      have cr := hR.cells
      have f0 := hR.frozen 0
      have f1 := hR.frozen 1
      have f2 := hR.frozen 2
      have f3 := hR.frozen 3
      go_enter Tryz.func72, Tryz.ntmps72
      go_wp2
      generalize ((w.alloc (.cells #[.int .i64 xk, .int .i64 xi, .int .u64 xu, .string (strL xs)] 28)).alloc (.cells #[.int .i64 0, .int .i64 0, .int .u64 0, .string { data := #[] }] 28)) = w2 at *
      go_region
      go_wp2
      have hP := vbox_drew (hR.put 3 xi 0 { data := #[] })
      refine bodyPost_ret (results_cellV rfl _ _ rfl hP) rfl ?_
      exact ⟨⟨3, xi, 0, []⟩, true, rfl, (fun _ => rfl), (by intro h; cases h), (below_put hb (Nat.le_succ _) _ _ _ _).drew⟩
    · have hr : (if xi = 0 ∨ xi = 1 then some (⟨3, xi, 0, []⟩ : Vl) else none) = none := by rw [if_neg]; rintro (h | h); exact hc h; exact hc1 h
      have hd1 : (xi == 1) = false := by simpa using hc1
      rw [hr]
      clear hr hc hc1
      have hb : Below w.heap.size w ((w.alloc (.cells #[.int .i64 xk, .int .i64 xi, .int .u64 xu, .string (strL xs)] 28)).alloc (.cells #[.int .i64 0, .int .i64 0, .int .u64 0, .string { data := #[] }] 28)) := gr_alloc (gr_alloc (Below.refl _ w) _) _
      have hV := (VBox.new w xk xi xu (strL xs)).below ((Below.refl _ (w.alloc (.cells #[.int .i64 xk, .int .i64 xi, .int .u64 xu, .string (strL xs)] 28))).alloc (Nat.le_refl _) (.cells #[.int .i64 0, .int .i64 0, .int .u64 0, .string { data := #[] }] 28)) (by simp)
      have hR := VBox.new (w.alloc (.cells #[.int .i64 xk, .int .i64 xi, .int .u64 xu, .string (strL xs)] 28)) 0 0 0 { data := #[] }
      rw [show (w.alloc (.cells #[.int .i64 xk, .int .i64 xi, .int .u64 xu, .string (strL xs)] 28)).heap.size = w.heap.size + 1 by simp] at hR
      have cv := hV.cells
      have cr := hR.cells
      have f0 := hR.frozen 0
      have f1 := hR.frozen 1
      have f2 := hR.frozen 2
      have f3 := hR.frozen 3
      go_enter Tryz.func72, Tryz.ntmps72
      go_wp2
      generalize ((w.alloc (.cells #[.int .i64 xk, .int .i64 xi, .int .u64 xu, .string (strL xs)] 28)).alloc (.cells #[.int .i64 0, .int .i64 0, .int .u64 0, .string { data := #[] }] 28)) = w2 at *
      go_region
      go_wp2
      have hP := vbox_drew (hR.put 3 xi 0 { data := #[] })
      refine bodyPost_ret (results_cellV rfl _ _ rfl hP) rfl ?_
      exact ⟨⟨3, xi, 0, []⟩, false, rfl, (by intro h; cases h), (fun _ => rfl), (below_put hb (Nat.le_succ _) _ _ _ _).drew⟩
set_option maxRecDepth 100000 in
set_option maxHeartbeats 2000000 in
theorem turn5 (x : Vl) (hx : x.Wf) (w : World) : Calls Tryz.prog 73 #[x.val] w (TurnP w (if x.u = 0 ∨ x.u = 1 then some ⟨3, x.u, 0, []⟩ else none)) := by
  have i0 := hx.u0
  have i1 := hx.u1
  clear hx
  obtain ⟨xk, xi, xu, xs⟩ := x
  simp only [Vl.val, valV] at *
  by_cases hc : xu ≤ 1
  · have hw : wrap64 xu = xu := by unfold wrap64; omega
    have hd : decide (xu ≤ 1) = true := by simpa using hc
    have hr : (if xu = 0 ∨ xu = 1 then some (⟨3, xu, 0, []⟩ : Vl) else none) = some ⟨3, xu, 0, []⟩ := if_pos (by omega)
    rw [hr]
    clear hr hc i0 i1
    have hb : Below w.heap.size w ((w.alloc (.cells #[.int .i64 xk, .int .i64 xi, .int .u64 xu, .string (strL xs)] 28)).alloc (.cells #[.int .i64 0, .int .i64 0, .int .u64 0, .string { data := #[] }] 28)) := gr_alloc (gr_alloc (Below.refl _ w) _) _
    have hV := (VBox.new w xk xi xu (strL xs)).below ((Below.refl _ (w.alloc (.cells #[.int .i64 xk, .int .i64 xi, .int .u64 xu, .string (strL xs)] 28))).alloc (Nat.le_refl _) (.cells #[.int .i64 0, .int .i64 0, .int .u64 0, .string { data := #[] }] 28)) (by simp)
    have hR := VBox.new (w.alloc (.cells #[.int .i64 xk, .int .i64 xi, .int .u64 xu, .string (strL xs)] 28)) 0 0 0 { data := #[] }
    rw [show (w.alloc (.cells #[.int .i64 xk, .int .i64 xi, .int .u64 xu, .string (strL xs)] 28)).heap.size = w.heap.size + 1 by simp] at hR
    have cv := hV.cells
    have cr := hR.cells
    have f0 := hR.frozen 0
    have f1 := hR.frozen 1
    have f2 := hR.frozen 2
    have f3 := hR.frozen 3
    go_enter Tryz.func73, Tryz.ntmps73
    go_wp2
    generalize ((w.alloc (.cells #[.int .i64 xk, .int .i64 xi, .int .u64 xu, .string (strL xs)] 28)).alloc (.cells #[.int .i64 0, .int .i64 0, .int .u64 0, .string { data := #[] }] 28)) = w2 at *
    go_region
    go_wp2
    have hP := vbox_drew (hR.put 3 xu 0 { data := #[] })
    refine bodyPost_ret (results_cellV rfl _ _ rfl hP) rfl ?_
    exact ⟨⟨3, xu, 0, []⟩, true, rfl, (fun _ => rfl), (by intro h; cases h), (below_put hb (Nat.le_succ _) _ _ _ _).drew⟩
  · have hd : decide (xu ≤ 1) = false := by simpa using hc
    have hr : (if xu = 0 ∨ xu = 1 then some (⟨3, xu, 0, []⟩ : Vl) else none) = none := if_neg (by omega)
    rw [hr]
    clear hr hc i0 i1
    have hb : Below w.heap.size w ((w.alloc (.cells #[.int .i64 xk, .int .i64 xi, .int .u64 xu, .string (strL xs)] 28)).alloc (.cells #[.int .i64 0, .int .i64 0, .int .u64 0, .string { data := #[] }] 28)) := gr_alloc (gr_alloc (Below.refl _ w) _) _
    have hV := (VBox.new w xk xi xu (strL xs)).below ((Below.refl _ (w.alloc (.cells #[.int .i64 xk, .int .i64 xi, .int .u64 xu, .string (strL xs)] 28))).alloc (Nat.le_refl _) (.cells #[.int .i64 0, .int .i64 0, .int .u64 0, .string { data := #[] }] 28)) (by simp)
    have hR := VBox.new (w.alloc (.cells #[.int .i64 xk, .int .i64 xi, .int .u64 xu, .string (strL xs)] 28)) 0 0 0 { data := #[] }
    rw [show (w.alloc (.cells #[.int .i64 xk, .int .i64 xi, .int .u64 xu, .string (strL xs)] 28)).heap.size = w.heap.size + 1 by simp] at hR
    have cv := hV.cells
    have cr := hR.cells
    have f0 := hR.frozen 0
    have f1 := hR.frozen 1
    have f2 := hR.frozen 2
    have f3 := hR.frozen 3
    go_enter Tryz.func73, Tryz.ntmps73
    go_wp2
    generalize ((w.alloc (.cells #[.int .i64 xk, .int .i64 xi, .int .u64 xu, .string (strL xs)] 28)).alloc (.cells #[.int .i64 0, .int .i64 0, .int .u64 0, .string { data := #[] }] 28)) = w2 at *
    go_region
    go_wp2
    have hP := vbox_drew (hR.put 3 (wrap64 xu) 0 { data := #[] })
    refine bodyPost_ret (results_cellV rfl _ _ rfl hP) rfl ?_
    exact ⟨⟨3, (wrap64 xu), 0, []⟩, false, rfl, (by intro h; cases h), (fun _ => rfl), (below_put hb (Nat.le_succ _) _ _ _ _).drew⟩
end Go.Proofs.YtagoooclfcbdeaaGreatDoor
namespace Go.Proofs.YtagoooclfcbdeaaGreatDoor
open Go.RowKit
set_option linter.unusedVariables false

theorem results_cellV1 {fn : Func} {s : Tmp} (h : fn.results = #[.cell s 28]) (tmps : Array Value) (w : World) {B : Nat} {k i u : Int} {x : ByteArray} (hs : tmps.getD s undef = .pointer (some ⟨B, 0, none⟩)) (hV : VBox w B k i u x) :
    (results fn tmps).run Tryz.prog w = .ok (valV k i u x) w := by
  have hc := hV.cells
  rw [Array.getD_eq_getD_getElem?] at hs
  simp [results, h, hs, go_sem, hc]
  rfl
set_option maxRecDepth 100000 in
theorem cbytes_any (l : List UInt8) (w : World) : Calls Tryz.prog 78 #[.string (strL l)] w fun e w' => e = .returned (valV 4 0 0 (strL l)) ∧ Below w.heap.size w w' := by
  go_enter Tryz.func78, Tryz.ntmps78
  go_wp2
  refine bodyPost_ret (results_cellV1 rfl _ _ rfl (VBox.new w 4 0 0 (strL l))) rfl ?_
  exact ⟨rfl, gr_alloc (Below.refl _ w) _⟩
set_option maxRecDepth 100000 in
theorem turn6 (x : Vl) (w : World) : Calls Tryz.prog 74 #[x.val] w (TurnP w (some ⟨1, x.i, 0, []⟩)) := by
  obtain ⟨xk, xi, xu, xs⟩ := x
  simp only [Vl.val, valV] at *
  go_enter Tryz.func74, Tryz.ntmps74
  go_wp2
  have hP := VBox.new (w.alloc (.cells #[.int .i64 xk, .int .i64 xi, .int .u64 xu, .string (strL xs)] 28)) 1 xi 0 { data := #[] }
  rw [show (w.alloc (.cells #[.int .i64 xk, .int .i64 xi, .int .u64 xu, .string (strL xs)] 28)).heap.size = w.heap.size + 1 by simp] at hP
  refine bodyPost_ret (results_cellV rfl _ _ rfl hP) rfl ?_
  exact ⟨⟨1, xi, 0, []⟩, true, rfl, fun _ => rfl, (by intro h; cases h), gr_alloc (gr_alloc (Below.refl _ w) _) _⟩
set_option maxRecDepth 100000 in
theorem turn7 (x : Vl) (w : World) (h0 : 0 ≤ x.i) (h1 : x.i ≤ 9223372036854775807) : Calls Tryz.prog 76 #[x.val] w (TurnP w (some ⟨2, 0, x.i, []⟩)) := by
  obtain ⟨xk, xi, xu, xs⟩ := x
  simp only [Vl.val, valV] at *
  have hw : xi % 18446744073709551616 = xi := by omega
  clear h0 h1
  go_enter Tryz.func76, Tryz.ntmps76
  go_wp2
  have hP := VBox.new (w.alloc (.cells #[.int .i64 xk, .int .i64 xi, .int .u64 xu, .string (strL xs)] 28)) 2 0 xi { data := #[] }
  rw [show (w.alloc (.cells #[.int .i64 xk, .int .i64 xi, .int .u64 xu, .string (strL xs)] 28)).heap.size = w.heap.size + 1 by simp] at hP
  refine bodyPost_ret (results_cellV rfl _ _ rfl hP) rfl ?_
  exact ⟨⟨2, 0, xi, []⟩, true, rfl, fun _ => rfl, (by intro h; cases h), gr_alloc (gr_alloc (Below.refl _ w) _) _⟩
set_option maxRecDepth 100000 in
theorem turn8 (x : Vl) (w : World) (hE : Env w) (h0 : -9223372036854775808 ≤ x.i) (h1 : x.i ≤ 9223372036854775807) : Calls Tryz.prog 77 #[x.val] w (TurnP w (some ⟨4, 0, 0, Lib.itoa x.i⟩)) := by
  obtain ⟨xk, xi, xu, xs⟩ := x
  simp only [Vl.val, valV] at *
  have hF := fun W hW => FmtI_any xi W hW h0 h1
  generalize Lib.itoa xi = l at *
  have hB := fun W => cbytes_any l W
  simp only [valV] at hB
  have hE2 := (hE.alloc (.cells #[.int .i64 xk, .int .i64 xi, .int .u64 xu, .string (strL xs)] 28)).alloc (.cells #[.int .i64 0, .int .i64 0, .int .u64 0, .string { data := #[] }] 28)
  replace hF := Lib.hid hF
  replace hB := Lib.hid hB
  clear h0 h1
  have hb : Below w.heap.size w ((w.alloc (.cells #[.int .i64 xk, .int .i64 xi, .int .u64 xu, .string (strL xs)] 28)).alloc (.cells #[.int .i64 0, .int .i64 0, .int .u64 0, .string { data := #[] }] 28)) := gr_alloc (gr_alloc (Below.refl _ w) _) _
  have hR := VBox.new (w.alloc (.cells #[.int .i64 xk, .int .i64 xi, .int .u64 xu, .string (strL xs)] 28)) 0 0 0 { data := #[] }
  rw [show (w.alloc (.cells #[.int .i64 xk, .int .i64 xi, .int .u64 xu, .string (strL xs)] 28)).heap.size = w.heap.size + 1 by simp] at hR
  go_enter Tryz.func77, Tryz.ntmps77
  go_wp2_with fail
  refine (hF.out _ hE2).mono ?_
  rintro e w3 ⟨rfl, g1⟩
  go_wp2_with fail
  refine (hB.out _).mono ?_
  rintro e w4 ⟨rfl, g2⟩
  have g3 := gr g1 g2
  have hR2 := hR.below g3 (by simp)
  have hb2 := gr hb g3
  clear g1 g2 g3 hF hB hR hb
  have cr := hR2.cells
  have f0 := hR2.frozen 0
  have f1 := hR2.frozen 1
  have f2 := hR2.frozen 2
  have f3 := hR2.frozen 3
  go_wp2
  refine bodyPost_ret (results_cellV rfl _ _ rfl (hR2.put 4 0 0 (strL l))) rfl ?_
  exact ⟨⟨4, 0, 0, l⟩, true, rfl, fun _ => rfl, (by intro h; cases h), below_put hb2 (Nat.le_succ _) _ _ _ _⟩
set_option maxRecDepth 100000 in
theorem turn9 (x : Vl) (w : World) (hE : Env w) (h0 : 0 ≤ x.u) (h1 : x.u ≤ 18446744073709551615) : Calls Tryz.prog 80 #[x.val] w (TurnP w (some ⟨4, 0, 0, Lib.decDigits x.u.toNat⟩)) := by
  obtain ⟨xk, xi, xu, xs⟩ := x
  simp only [Vl.val, valV] at *
  have hF := fun W hW => FmtU_any xu.toNat W hW (by omega)
  rw [show (xu.toNat : Int) = xu by omega] at hF
  generalize Lib.decDigits xu.toNat = l at *
  have hB := fun W => cbytes_any l W
  simp only [valV] at hB
  have hE2 := (hE.alloc (.cells #[.int .i64 xk, .int .i64 xi, .int .u64 xu, .string (strL xs)] 28)).alloc (.cells #[.int .i64 0, .int .i64 0, .int .u64 0, .string { data := #[] }] 28)
  replace hF := Lib.hid hF
  replace hB := Lib.hid hB
  clear h0 h1
  have hb : Below w.heap.size w ((w.alloc (.cells #[.int .i64 xk, .int .i64 xi, .int .u64 xu, .string (strL xs)] 28)).alloc (.cells #[.int .i64 0, .int .i64 0, .int .u64 0, .string { data := #[] }] 28)) := gr_alloc (gr_alloc (Below.refl _ w) _) _
  have hR := VBox.new (w.alloc (.cells #[.int .i64 xk, .int .i64 xi, .int .u64 xu, .string (strL xs)] 28)) 0 0 0 { data := #[] }
  rw [show (w.alloc (.cells #[.int .i64 xk, .int .i64 xi, .int .u64 xu, .string (strL xs)] 28)).heap.size = w.heap.size + 1 by simp] at hR
  go_enter Tryz.func80, Tryz.ntmps80
  go_wp2_with fail
  refine (hF.out _ hE2).mono ?_
  rintro e w3 ⟨rfl, g1⟩
  go_wp2_with fail
  refine (hB.out _).mono ?_
  rintro e w4 ⟨rfl, g2⟩
  have g3 := gr g1 g2
  have hR2 := hR.below g3 (by simp)
  have hb2 := gr hb g3
  clear g1 g2 g3 hF hB hR hb
  have cr := hR2.cells
  have f0 := hR2.frozen 0
  have f1 := hR2.frozen 1
  have f2 := hR2.frozen 2
  have f3 := hR2.frozen 3
  go_wp2
  refine bodyPost_ret (results_cellV rfl _ _ rfl (hR2.put 4 0 0 (strL l))) rfl ?_
  exact ⟨⟨4, 0, 0, l⟩, true, rfl, fun _ => rfl, (by intro h; cases h), below_put hb2 (Nat.le_succ _) _ _ _ _⟩

/-! ### From bytes -/
def IsErr (v : Value) : Prop := ∃ N : Nat, v = .iface 196 (.pointer (some ⟨N, 0, none⟩))
set_option maxRecDepth 100000 in
theorem pI_ok (t : List UInt8) (v : Int) (w : World) (ht : t.length ≤ 100000) (h : Lib.parseIntB 64 t = .ok v) : Calls Tryz.prog 102 #[.string (strL t)] w fun e w' => e = .returned (.tuple #[.int .i64 v, .nilIface]) ∧ Below w.heap.size w w' := by
  have hP := Lib.hid (fun W => ParseI_ok t v W ht h)
  go_enter Tryz.func102, Tryz.ntmps102
  go_wp2_with fail
  refine (hP.out _).mono ?_
  rintro e w2 ⟨rfl, g1⟩
  clear hP
  go_wp2
  go_ret2
  exact ⟨rfl, g1⟩
set_option maxRecDepth 100000 in
theorem pI_bad (t : List UInt8) (w : World) (hE : Env w) (ht : t.length ≤ 100000) (h : ∀ u, Lib.parseIntB 64 t ≠ .ok u) : Calls Tryz.prog 102 #[.string (strL t)] w fun e w' => ∃ (v : Int) (N : Nat), e = .returned (.tuple #[.int .i64 v, .iface 196 (.pointer (some ⟨N, 0, none⟩))]) ∧ Below w.heap.size w w' := by
  have hP := Lib.hid (fun W hW => ParseI_bad t W hW ht h)
  go_enter Tryz.func102, Tryz.ntmps102
  go_wp2_with fail
  refine (hP.out _ hE).mono ?_
  rintro e w2 ⟨v, N, rfl, g1⟩
  clear hP
  go_wp2
  go_ret2
  exact ⟨v, N, rfl, g1⟩
set_option maxRecDepth 100000 in
theorem pU_ok (t : List UInt8) (v : Nat) (w : World) (ht : t.length ≤ 100000) (h : Lib.parseUintB 64 t = .ok v) : Calls Tryz.prog 106 #[.string (strL t)] w fun e w' => e = .returned (.tuple #[.int .u64 (v : Int), .nilIface]) ∧ Below w.heap.size w w' := by
  have hP := Lib.hid (fun W => ParseU_ok t v W ht h)
  go_enter Tryz.func106, Tryz.ntmps106
  go_wp2_with fail
  refine (hP.out _).mono ?_
  rintro e w2 ⟨rfl, g1⟩
  clear hP
  go_wp2
  go_ret2
  exact ⟨rfl, g1⟩
set_option maxRecDepth 100000 in
theorem pU_bad (t : List UInt8) (w : World) (hE : Env w) (ht : t.length ≤ 100000) (h : ∀ u, Lib.parseUintB 64 t ≠ .ok u) : Calls Tryz.prog 106 #[.string (strL t)] w fun e w' => ∃ (v : Int) (N : Nat), e = .returned (.tuple #[.int .u64 v, .iface 196 (.pointer (some ⟨N, 0, none⟩))]) ∧ Below w.heap.size w w' := by
  have hP := Lib.hid (fun W hW => ParseU_bad t W hW ht h)
  go_enter Tryz.func106, Tryz.ntmps106
  go_wp2_with fail
  refine (hP.out _ hE).mono ?_
  rintro e w2 ⟨v, N, rfl, g1⟩
  clear hP
  go_wp2
  go_ret2
  exact ⟨v, N, rfl, g1⟩
set_option maxRecDepth 100000 in
theorem fI_any (n : Int) (w : World) (hE : Env w) (h0 : -9223372036854775808 ≤ n) (h1 : n ≤ 9223372036854775807) : Calls Tryz.prog 104 #[.int .i64 n] w fun e w' => e = .returned (.string (strL (Lib.itoa n))) ∧ Below w.heap.size w w' := by
  have hP := Lib.hid (fun W hW => FmtI_any n W hW h0 h1)
  generalize Lib.itoa n = l at *
  clear h0 h1
  go_enter Tryz.func104, Tryz.ntmps104
  go_wp2_with fail
  refine (hP.out _ hE).mono ?_
  rintro e w2 ⟨rfl, g1⟩
  clear hP
  go_wp2
  go_ret
  exact ⟨rfl, g1⟩
set_option maxRecDepth 100000 in
theorem fU_any (n : Nat) (w : World) (hE : Env w) (h1 : n < 18446744073709551616) : Calls Tryz.prog 108 #[.int .u64 (n : Int)] w fun e w' => e = .returned (.string (strL (Lib.decDigits n))) ∧ Below w.heap.size w w' := by
  have hP := Lib.hid (fun W hW => FmtU_any n W hW h1)
  generalize Lib.decDigits n = l at *
  clear h1
  go_enter Tryz.func108, Tryz.ntmps108
  go_wp2_with fail
  refine (hP.out _ hE).mono ?_
  rintro e w2 ⟨rfl, g1⟩
  clear hP
  go_wp2
  go_ret
  exact ⟨rfl, g1⟩
/-- Digits that are written as numbers are: the number where it is told. -/
def DigP (w : World) (q : IntKind) (r : Option Int) (e : Ending) (w' : World) : Prop :=
  ∃ (v : Int) (b : Bool), e = .returned (.tuple #[.int q v, .bool b]) ∧ (b = true → r = some v) ∧ (b = false → r = none) ∧ Below w.heap.size w w'
set_option maxRecDepth 100000 in
set_option maxHeartbeats 2000000 in
theorem digI_any (t : List UInt8) (w : World) (hE : Env w) (ht : t.length ≤ 100000) : Calls Tryz.prog 101 #[.string (strL t), .func (.func 102) #[] #[], .func (.func 104) #[] #[]] w (DigP w .i64 (sigD t)) := by
  have e1 := enters_of Tryz.func102 (by kernel_rfl) rfl
  have e2 := enters_of Tryz.func104 (by kernel_rfl) rfl
  by_cases h : ∃ v, Lib.parseIntB 64 t = .ok v
  · obtain ⟨v, h⟩ := h
    have hP := Lib.hid (fun W => pI_ok t v W ht h)
    have hbd := parseIntB_le h
    have hF := Lib.hid (fun W hW => fI_any v W hW hbd.1 hbd.2)
    clear hbd
    have hD : sigD t = if Lib.itoa v = t then some v else none := by
      split
      · rename_i he; have hz := (sigD_some t v).2 ⟨h, he⟩; rw [hz]
      · rename_i he
        cases hs : sigD t with
        | none => rfl
        | some n =>
          obtain ⟨h1, h2⟩ := (sigD_some t n).1 hs
          rw [h] at h1
          injection h1 with h1
          subst h1
          exact absurd h2 he
    have hq : ((strL (Lib.itoa v)).toList == (strL t).toList) = decide (Lib.itoa v = t) := by
      rw [strL_toList, strL_toList, Bool.eq_iff_iff]
      simp
    generalize Lib.itoa v = l at *
    replace hD := Lib.hid hD
    clear h
    go_enter Tryz.func101, Tryz.ntmps101
    go_wp2_with fail
    refine (hP.out _).mono ?_
    rintro e w2 ⟨rfl, g1⟩
    clear hP
    go_wp2_with fail
    refine (hF.out _ (hE.below g1)).mono ?_
    rintro e w3 ⟨rfl, g2⟩
    clear hF
    have b2 := gr g1 g2
    clear g1 g2
    go_wp2
    go_ret2
    by_cases hl : l = t
    · exact ⟨v, true, by simp [hl], fun _ => by rw [hD.out, if_pos hl], (by intro h; cases h), b2⟩
    · exact ⟨v, false, by simp [hl], (by intro h; cases h), fun _ => by rw [hD.out, if_neg hl], b2⟩
  · have hP := Lib.hid (fun W hW => pI_bad t W hW ht (fun u hu => h ⟨u, hu⟩))
    have hD : sigD t = none := by
      cases hs : sigD t with
      | none => rfl
      | some n => exact absurd ⟨n, ((sigD_some t n).1 hs).1⟩ h
    replace hD := Lib.hid hD
    clear h
    go_enter Tryz.func101, Tryz.ntmps101
    go_wp2_with fail
    refine (hP.out _ hE).mono ?_
    rintro e w2 ⟨v, N, rfl, g1⟩
    clear hP
    go_wp2
    go_ret2
    exact ⟨v, false, rfl, (by intro h; cases h), fun _ => hD.out, g1⟩
set_option maxRecDepth 100000 in
set_option maxHeartbeats 2000000 in
theorem digU_any (t : List UInt8) (w : World) (hE : Env w) (ht : t.length ≤ 100000) : Calls Tryz.prog 105 #[.string (strL t), .func (.func 106) #[] #[], .func (.func 108) #[] #[]] w (DigP w .u64 ((unsD t).map fun (n : Nat) => (n : Int))) := by
  have e1 := enters_of Tryz.func106 (by kernel_rfl) rfl
  have e2 := enters_of Tryz.func108 (by kernel_rfl) rfl
  by_cases h : ∃ v, Lib.parseUintB 64 t = .ok v
  · obtain ⟨v, h⟩ := h
    have hP := Lib.hid (fun W => pU_ok t v W ht h)
    have hF := Lib.hid (fun W hW => fU_any v W hW (parseUintB_lt h))
    have hD : ((unsD t).map fun (n : Nat) => (n : Int)) = if Lib.decDigits v = t then some (v : Int) else none := by
      split
      · rename_i he; have hz := (unsD_some t v).2 ⟨h, he⟩; rw [hz]; rfl
      · rename_i he
        cases hs : unsD t with
        | none => rfl
        | some n =>
          obtain ⟨h1, h2⟩ := (unsD_some t n).1 hs
          rw [h] at h1
          injection h1 with h1
          subst h1
          exact absurd h2 he
    have hq : ((strL (Lib.decDigits v)).toList == (strL t).toList) = decide (Lib.decDigits v = t) := by
      rw [strL_toList, strL_toList, Bool.eq_iff_iff]
      simp
    generalize Lib.decDigits v = l at *
    replace hD := Lib.hid hD
    clear h
    go_enter Tryz.func105, Tryz.ntmps105
    go_wp2_with fail
    refine (hP.out _).mono ?_
    rintro e w2 ⟨rfl, g1⟩
    clear hP
    go_wp2_with fail
    refine (hF.out _ (hE.below g1)).mono ?_
    rintro e w3 ⟨rfl, g2⟩
    clear hF
    have b2 := gr g1 g2
    clear g1 g2
    go_wp2
    go_ret2
    by_cases hl : l = t
    · exact ⟨v, true, by simp [hl], fun _ => by rw [hD.out, if_pos hl], (by intro h; cases h), b2⟩
    · exact ⟨v, false, by simp [hl], (by intro h; cases h), fun _ => by rw [hD.out, if_neg hl], b2⟩
  · have hP := Lib.hid (fun W hW => pU_bad t W hW ht (fun u hu => h ⟨u, hu⟩))
    have hD : ((unsD t).map fun (n : Nat) => (n : Int)) = none := by
      cases hs : unsD t with
      | none => rfl
      | some n => exact absurd ⟨n, ((unsD_some t n).1 hs).1⟩ h
    replace hD := Lib.hid hD
    clear h
    go_enter Tryz.func105, Tryz.ntmps105
    go_wp2_with fail
    refine (hP.out _ hE).mono ?_
    rintro e w2 ⟨v, N, rfl, g1⟩
    clear hP
    go_wp2
    go_ret2
    exact ⟨v, false, rfl, (by intro h; cases h), fun _ => hD.out, g1⟩
set_option maxRecDepth 100000 in
set_option maxHeartbeats 2000000 in
theorem turnS (x : Vl) (w : World) (hE : Env w) (ht : x.s.length ≤ 100000) : Calls Tryz.prog 81 #[x.val] w (TurnP w ((sigD x.s).map fun n => ⟨1, n, 0, []⟩)) := by
  obtain ⟨xk, xi, xu, xs⟩ := x
  simp only [Vl.val, valV] at *
  have hD := fun W hW => digI_any xs W hW ht
  generalize sigD xs = r at *
  have hE2 := (hE.alloc (.cells #[.int .i64 xk, .int .i64 xi, .int .u64 xu, .string (strL xs)] 28)).alloc (.cells #[.int .i64 0, .int .i64 0, .int .u64 0, .string { data := #[] }] 28)
  replace hD := Lib.hid hD
  have hb : Below w.heap.size w ((w.alloc (.cells #[.int .i64 xk, .int .i64 xi, .int .u64 xu, .string (strL xs)] 28)).alloc (.cells #[.int .i64 0, .int .i64 0, .int .u64 0, .string { data := #[] }] 28)) := gr_alloc (gr_alloc (Below.refl _ w) _) _
  have hR := VBox.new (w.alloc (.cells #[.int .i64 xk, .int .i64 xi, .int .u64 xu, .string (strL xs)] 28)) 0 0 0 { data := #[] }
  rw [show (w.alloc (.cells #[.int .i64 xk, .int .i64 xi, .int .u64 xu, .string (strL xs)] 28)).heap.size = w.heap.size + 1 by simp] at hR
  go_enter Tryz.func81, Tryz.ntmps81
  go_wp2_with fail
  refine (hD.out _ hE2).mono ?_
  rintro e w3 ⟨v, b, rfl, hv1, hv2, g1⟩
  have hR2 := hR.below g1 (by simp)
  have hb2 := gr hb g1
  replace hv1 := Lib.hid hv1
  replace hv2 := Lib.hid hv2
  clear g1 hD hR hb
  have cr := hR2.cells
  have f0 := hR2.frozen 0
  have f1 := hR2.frozen 1
  have f2 := hR2.frozen 2
  have f3 := hR2.frozen 3
  go_wp2
  refine bodyPost_ret (results_cellV rfl _ _ rfl (hR2.put 1 v 0 { data := #[] })) rfl ?_
  exact ⟨⟨1, v, 0, []⟩, b, rfl, fun h => by rw [hv1.out h]; rfl, fun h => by rw [hv2.out h]; rfl, below_put hb2 (Nat.le_succ _) _ _ _ _⟩
set_option maxRecDepth 100000 in
set_option maxHeartbeats 2000000 in
theorem turnU (x : Vl) (w : World) (hE : Env w) (ht : x.s.length ≤ 100000) : Calls Tryz.prog 82 #[x.val] w (TurnP w ((unsD x.s).map fun (n : Nat) => ⟨2, 0, (n : Int), []⟩)) := by
  obtain ⟨xk, xi, xu, xs⟩ := x
  simp only [Vl.val, valV] at *
  have hD := fun W hW => digU_any xs W hW ht
  have hm : ((unsD xs).map fun (n : Nat) => (⟨2, 0, (n : Int), []⟩ : Vl)) = ((unsD xs).map fun (n : Nat) => (n : Int)).map fun n => ⟨2, 0, n, []⟩ := by
    cases unsD xs <;> rfl
  rw [hm]
  clear hm
  generalize (unsD xs).map (fun (n : Nat) => (n : Int)) = r at *
  have hE2 := (hE.alloc (.cells #[.int .i64 xk, .int .i64 xi, .int .u64 xu, .string (strL xs)] 28)).alloc (.cells #[.int .i64 0, .int .i64 0, .int .u64 0, .string { data := #[] }] 28)
  replace hD := Lib.hid hD
  have hb : Below w.heap.size w ((w.alloc (.cells #[.int .i64 xk, .int .i64 xi, .int .u64 xu, .string (strL xs)] 28)).alloc (.cells #[.int .i64 0, .int .i64 0, .int .u64 0, .string { data := #[] }] 28)) := gr_alloc (gr_alloc (Below.refl _ w) _) _
  have hR := VBox.new (w.alloc (.cells #[.int .i64 xk, .int .i64 xi, .int .u64 xu, .string (strL xs)] 28)) 0 0 0 { data := #[] }
  rw [show (w.alloc (.cells #[.int .i64 xk, .int .i64 xi, .int .u64 xu, .string (strL xs)] 28)).heap.size = w.heap.size + 1 by simp] at hR
  go_enter Tryz.func82, Tryz.ntmps82
  go_wp2_with fail
  refine (hD.out _ hE2).mono ?_
  rintro e w3 ⟨v, b, rfl, hv1, hv2, g1⟩
  have hR2 := hR.below g1 (by simp)
  have hb2 := gr hb g1
  replace hv1 := Lib.hid hv1
  replace hv2 := Lib.hid hv2
  clear g1 hD hR hb
  have cr := hR2.cells
  have f0 := hR2.frozen 0
  have f1 := hR2.frozen 1
  have f2 := hR2.frozen 2
  have f3 := hR2.frozen 3
  go_wp2
  refine bodyPost_ret (results_cellV rfl _ _ rfl (hR2.put 2 0 v { data := #[] })) rfl ?_
  exact ⟨⟨2, 0, v, []⟩, b, rfl, fun h => by rw [hv1.out h]; rfl, fun h => by rw [hv2.out h]; rfl, below_put hb2 (Nat.le_succ _) _ _ _ _⟩
set_option maxRecDepth 100000 in
theorem turn0 (x : Vl) (w : World) : Calls Tryz.prog 51 #[x.val] w (TurnP w (some x)) := by
  obtain ⟨xk, xi, xu, xs⟩ := x
  simp only [Vl.val, valV] at *
  go_enter Tryz.func51, Tryz.ntmps51
  go_wp2
  have hP := VBox.new (w.alloc (.cells #[.int .i64 xk, .int .i64 xi, .int .u64 xu, .string (strL xs)] 28)) xk xi xu (strL xs)
  rw [show (w.alloc (.cells #[.int .i64 xk, .int .i64 xi, .int .u64 xu, .string (strL xs)] 28)).heap.size = w.heap.size + 1 by simp] at hP
  refine bodyPost_ret (results_cellV rfl _ _ rfl hP) rfl ?_
  exact ⟨⟨xk, xi, xu, xs⟩, true, rfl, fun _ => rfl, (by intro h; cases h), gr_alloc (gr_alloc (Below.refl _ w) _) _⟩

/-! ### What is sure -/
set_option maxRecDepth 100000 in
theorem sure_never (c d : Cl) (w : World) : Calls Tryz.prog 69 #[c.val, d.val] w fun e w' => e = .returned (.bool false) ∧ Below w.heap.size w w' := by
  obtain ⟨n, t, z, nl⟩ := c
  obtain ⟨n2, t2, z2, nl2⟩ := d
  simp only [Cl.val]
  go_enter Tryz.func69, Tryz.ntmps69
  go_wp2
  go_ret
  exact ⟨rfl, gr_alloc (gr_alloc (Below.refl _ w) _) _⟩
set_option maxRecDepth 100000 in
theorem sure_always (c d : Cl) (w : World) : Calls Tryz.prog 75 #[c.val, d.val] w fun e w' => e = .returned (.bool true) ∧ Below w.heap.size w w' := by
  obtain ⟨n, t, z, nl⟩ := c
  obtain ⟨n2, t2, z2, nl2⟩ := d
  simp only [Cl.val]
  go_enter Tryz.func75, Tryz.ntmps75
  go_wp2
  go_ret
  exact ⟨rfl, gr_alloc (gr_alloc (Below.refl _ w) _) _⟩
set_option maxRecDepth 100000 in
theorem sure_of2 (c d : Cl) (w : World) : Calls Tryz.prog 52 #[c.val, d.val] w fun e w' => e = .returned (.bool (decide (c.z ≤ d.z))) ∧ Below w.heap.size w w' := by
  obtain ⟨n, t, z, nl⟩ := c
  obtain ⟨n2, t2, z2, nl2⟩ := d
  simp only [Cl.val]
  go_enter Tryz.func52, Tryz.ntmps52
  go_wp2
  go_ret
  exact ⟨rfl, gr_alloc (gr_alloc (Below.refl _ w) _) _⟩
set_option maxRecDepth 100000 in
theorem sure_3 (c d : Cl) (w : World) : Calls Tryz.prog 71 #[c.val, d.val] w fun e w' => e = .returned (.bool (decide (c.z < d.z))) ∧ Below w.heap.size w w' := by
  obtain ⟨n, t, z, nl⟩ := c
  obtain ⟨n2, t2, z2, nl2⟩ := d
  simp only [Cl.val]
  go_enter Tryz.func71, Tryz.ntmps71
  go_wp2
  go_ret
  exact ⟨rfl, gr_alloc (gr_alloc (Below.refl _ w) _) _⟩
set_option maxRecDepth 100000 in
theorem wide_any (r : Nat) (w : World) : Calls Tryz.prog 79 #[.map (some r)] w fun e w' => e = .returned (.func (.func 100) #[] #[.pointer (some ⟨w.heap.size, 0, none⟩)]) ∧ w'.cell? ⟨w.heap.size, 0, none⟩ = some (.map (some r)) ∧ w'.heap.size = w.heap.size + 1 ∧ Below w.heap.size w w' := by
  go_enter Tryz.func79, Tryz.ntmps79
  go_wp2
  go_ret
  exact ⟨rfl, by simp [go_sem], by simp, gr_alloc (Below.refl _ w) _⟩
/-- The keys that are numbers. -/
def OKi (v : Value) : Prop := ∃ n, v = .int .i64 n
set_option maxRecDepth 100000 in
theorem wide1_any (c d : Cl) (w : World) (B r : Nat) (T : List (Nat × Value × Value)) (g : Nat → Bool) (hT : Apart T) (hc : w.cell? ⟨B, 0, none⟩ = some (.map (some r))) (hr : Tab OKi w r T g) (n : Nat) (v : Int) (hm : (n, .int .i64 c.z, .int .i64 v) ∈ T) (hg : g n = true) :
    Calls Tryz.prog 100 #[c.val, d.val, .pointer (some ⟨B, 0, none⟩)] w fun e w' => e = .returned (.bool (decide (v ≤ d.z))) ∧ Below w.heap.size w w' := by
  obtain ⟨cn, ct, cz, cl⟩ := c
  obtain ⟨dn, dt, dz, dl⟩ := d
  simp only [Cl.val] at *
  have hb : Below w.heap.size w ((w.alloc (.cells #[.string (strL cn), .int .i64 ct, .int .i64 cz, .bool cl] 24)).alloc (.cells #[.string (strL dn), .int .i64 dt, .int .i64 dz, .bool dl] 24)) := gr_alloc (gr_alloc (Below.refl _ w) _) _
  have hl := Tab.look 135 3 3 Tryz.underlying135 (klaw_int Tryz.underlying3) (hr.below hb) hT ⟨cz, rfl⟩ hm hg false
  rw [if_neg (by decide)] at hl
  have hc2 := (hb.cell (p := ⟨B, 0, none⟩) (World.block_lt_of_cell? _ _ hc)).trans hc
  clear hr hc hm hT
  go_enter Tryz.func100, Tryz.ntmps100
  go_wp2
  generalize ((w.alloc (.cells #[.string (strL cn), .int .i64 ct, .int .i64 cz, .bool cl] 24)).alloc (.cells #[.string (strL dn), .int .i64 dt, .int .i64 dz, .bool dl] 24)) = w2 at *
  go_wp2
  go_ret
  exact ⟨rfl, hb⟩
end Go.Proofs.YtagoooclfcbdeaaGreatDoor
