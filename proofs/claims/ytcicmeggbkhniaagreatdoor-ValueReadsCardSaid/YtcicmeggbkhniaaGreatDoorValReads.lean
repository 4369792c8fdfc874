/- ValueReads: true, whatever the text. -/
import Derived.Test.YtcicmeggbkhniaaGreatDoorValTexts
import Derived.Test.YtcicmeggbkhniaaGreatDoorRefPc
namespace Go.Proofs.YtcicmeggbkhniaaGreatDoor
open Go.RowKit
set_option linter.unusedVariables false
attribute [local go_sem] strL_toList

theorem neq_same (k i u : Int) (s : ByteArray) (w : World) : (binOp .neq 25 (.agg #[.int .i64 k, .int .i64 i, .int .u64 u, .string s]) (.agg #[.int .i64 k, .int .i64 i, .int .u64 u, .string s])).run Tryz.prog w = .ok (.bool false) w := by
  rw [neq_V]
  simp
set_option maxRecDepth 100000 in
set_option maxHeartbeats 4000000 in
theorem ValueReads_walk (l : List UInt8) (w : World) (hE : Env w) (hl : l.length ≤ maxLen) : Calls Tryz.prog 4 #[.string (strL l)] w fun e w' => e = .returned (.bool true) ∧ Below w.heap.size w w' := by
  have hsz : (strL l).size = l.length := strL_size l
  by_cases h8 : 800 < l.length
  · have d8 : decide ((800 : Int) < (l.length : Int)) = true := by simp; omega
    clear h8 hl
    go_enter Tryz.func4, Tryz.ntmps4
    go_wp2_with (go_at_call 9; refine (works_any _ hE).mono ?_; rintro e w' ⟨rfl, hb5⟩)
    go_ret
    exact ⟨rfl, hb5⟩
  · have d8 : decide ((800 : Int) < (l.length : Int)) = false := by simp; omega
    have hl2 : l.length ≤ 800 := by omega
    have p1 := fun W h => VParse_any l W h (by omega)
    have p2 : ∀ W, Env W → Calls Tryz.prog 14 #[.string (strL l)] W (ParsePost W l) := fun W _ => rParse_any l W (by omega)
    have hT : (readT l).2 = 0 → textV (readT l).1 = l ∧ (readT l).1.chk = 0 ∧ (readT l).1.Wf := fun h => textV_readT (by rw [← h])
    unfold ParsePost at p1 p2
    clear h8 hl hl2
    generalize (readT l).2 = n at *
    generalize (readT l).1 = x at *
    have t1 := fun W h hw => Text_any x W h hw
    unfold TextP at t1
    obtain ⟨xk, xi, xu, xs⟩ := x
    simp only [Vl.val, valV] at p1 p2 t1
    have hnq := neq_same xk xi xu (strL xs)
    by_cases h0 : n = 0
    · subst h0
      obtain ⟨hT1, hT2, hT3⟩ := hT rfl
      simp only [hT2, hT1, if_true] at t1
      replace t1 := fun W h => t1 W h hT3
      replace p1 := Lib.hid p1
      replace p2 := Lib.hid p2
      replace t1 := Lib.hid t1
      clear hT hT1 hT2 hT3
      go_enter Tryz.func4, Tryz.ntmps4
      go_wp2_with fail
      refine (p1.out _ hE).mono ?_
      rintro e w1 ⟨rfl, g1⟩
      have hbA : Below w1.heap.size w1 (w1.alloc (.cells #[.int .i64 xk, .int .i64 xi, .int .u64 xu, .string (strL xs)] 25)) := (Below.refl _ _).alloc (Nat.le_refl _) _
      have hv1 := VBox.new w1 xk xi xu (strL xs)
      have hb1 := gr g1 hbA
      have hE1 := hE.below hb1
      clear p1 g1 hbA
      go_wp2_with fail
      generalize hB : w1.heap.size = B at *
      generalize (w1.alloc (.cells #[.int .i64 xk, .int .i64 xi, .int .u64 xu, .string (strL xs)] 25)) = w2 at *
      refine (p2.out _ hE1).mono ?_
      rintro e w3 ⟨rfl, g3⟩
      have hv3 := hv1.below g3 hv1.lt
      have hb3 := gr hb1 g3
      have hbA : Below w3.heap.size w3 (w3.alloc (.cells #[.int .i64 xk, .int .i64 xi, .int .u64 xu, .string (strL xs)] 25)) := (Below.refl _ _).alloc (Nat.le_refl _) _
      have hv4 := hv3.below hbA hv3.lt
      have hb4 := gr hb3 hbA
      have hE4 := hE.below hb4
      have cv4 := hv4.cells
      clear p2 g3 hbA hv1 hv3 hb1 hb3 hE1
      go_wp2_with (go_at_call 12; refine (lnum_any _ _).mono ?_; rintro e w' ⟨rfl, rfl⟩)
      refine (t1.out _ hE4).mono ?_
      rintro e w5 ⟨rfl, g5⟩
      have hb5 := gr hb4 g5
      have hE5 := hE4.below g5
      clear t1 g5 cv4 hv4
      go_wp2_with (first | (go_at_call 12; refine (lnum_any _ _).mono ?_; rintro e w' ⟨rfl, rfl⟩) | (go_at_call 9; refine (works_any _ hE5).mono ?_; rintro e w' ⟨rfl, hb6⟩))
      go_ret
      exact ⟨rfl, gr hb5 hb6⟩
    · have hd : ((n : Int) != 0) = true := by simp; omega
      replace p1 := Lib.hid p1
      replace p2 := Lib.hid p2
      clear hT t1 h0
      go_enter Tryz.func4, Tryz.ntmps4
      go_wp2_with fail
      refine (p1.out _ hE).mono ?_
      rintro e w1 ⟨rfl, g1⟩
      have hbA : Below w1.heap.size w1 (w1.alloc (.cells #[.int .i64 xk, .int .i64 xi, .int .u64 xu, .string (strL xs)] 25)) := (Below.refl _ _).alloc (Nat.le_refl _) _
      have hv1 := VBox.new w1 xk xi xu (strL xs)
      have hb1 := gr g1 hbA
      have hE1 := hE.below hb1
      clear p1 g1 hbA
      go_wp2_with fail
      generalize hB : w1.heap.size = B at *
      generalize (w1.alloc (.cells #[.int .i64 xk, .int .i64 xi, .int .u64 xu, .string (strL xs)] 25)) = w2 at *
      refine (p2.out _ hE1).mono ?_
      rintro e w3 ⟨rfl, g3⟩
      have hv3 := hv1.below g3 hv1.lt
      have hb3 := gr hb1 g3
      have hbA : Below w3.heap.size w3 (w3.alloc (.cells #[.int .i64 xk, .int .i64 xi, .int .u64 xu, .string (strL xs)] 25)) := (Below.refl _ _).alloc (Nat.le_refl _) _
      have hv4 := hv3.below hbA hv3.lt
      have hb4 := gr hb3 hbA
      have hE4 := hE.below hb4
      have cv4 := hv4.cells
      clear p2 g3 hbA hv1 hv3 hb1 hb3 hE1
      go_wp2_with (first | (go_at_call 12; refine (lnum_any _ _).mono ?_; rintro e w' ⟨rfl, rfl⟩) | (go_at_call 9; refine (works_any _ hE4).mono ?_; rintro e w' ⟨rfl, hb6⟩))
      go_ret
      exact ⟨rfl, gr hb4 hb6⟩
end Go.Proofs.YtcicmeggbkhniaaGreatDoor
