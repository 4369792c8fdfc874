/- key.one: a value that is read, or given up. -/
import Derived.Test.YtdgmhegcoogokaaDoorKeyE
import Derived.Test.YtdgmhegcoogokaaDoorKeyF
import Derived.Test.YtdgmhegcoogokaaDoorBox
import Derived.Defers
import Derived.Recover
namespace Go.Proofs.YtdgmhegcoogokaaDoor
open Go.RowKit
set_option linter.unusedVariables false

def readR (k : Int) (t : List UInt8) : Option (Int × Int × List UInt8 × Nat) :=
  if k = 0 then some (0, 0, [], 0) else if k = 1 then readI t else if k = 2 then readU t else if k = 3 then readB t else (readG [] t).map fun r => (0, 0, r.1, r.2)
theorem readK_any (T B : Nat) (k : Int) (t : List UInt8) (w : World) (h0 : 0 ≤ k) (h4 : k ≤ 4) (hne : T ≠ B) (hT : SBox w T (strL t)) (hB : VBox w B k 0 0 (strL [])) (hl : t.length ≤ maxLen) :
    Calls Tryd.prog (readF k) #[.pointer (some ⟨T, 0, none⟩), .pointer (some ⟨B, 0, none⟩)] w (ReadK T B k t w (readR k t)) := by
  have : k = 0 ∨ k = 1 ∨ k = 2 ∨ k = 3 ∨ k = 4 := by omega
  rcases this with rfl | rfl | rfl | rfl | rfl
  · exact read_0 T B 0 t w hT hB
  · exact read_1 T B 1 t w hne hT hB hl
  · exact read_2 T B 2 t w hne hT hB hl
  · exact read_3 T B 3 t w hne hT hB hl
  · exact read_4 T B 4 t w hne hT hB hl

theorem clear_any (B M : Nat) (k i u m : Int) (s : ByteArray) (w : World) (hB : VBox w B k i u s) (hM : Boxed w M 3 (.int .i64 m)) (hne : B ≠ M) :
    Calls Tryd.prog 54 #[.pointer (some ⟨B, 0, none⟩), .pointer (some ⟨M, 0, none⟩)] w fun e w' => e = .returned (.tuple #[]) ∧ VBox w' B 0 0 0 ByteArray.empty ∧ Boxed w' M 3 (.int .i64 0) ∧ But B M w w' := by
  have hc := hB.cells
  have hf0 := hB.frozen 0
  have hf1 := hB.frozen 1
  have hf2 := hB.frozen 2
  have hf3 := hB.frozen 3
  have hm := hM.cell
  have hfm := hM.frozen
  go_enter Tryd.func54, Tryd.ntmps54
  go_wp2
  go_end0
  refine ⟨rfl, ((((hB.setK 0).setI 0).setU 0).setS ByteArray.empty).other hne _, ?_, ?_⟩
  · have h1 := (((hM.kept (grownBy_setCell_at w ⟨B, 0, none⟩ (.int .i64 0)) (by simp; omega)).kept (grownBy_setCell_at _ ⟨B, 1, none⟩ (.int .i64 0)) (by simp; omega)).kept (grownBy_setCell_at _ ⟨B, 2, none⟩ (.int .u64 0)) (by simp; omega)).kept (grownBy_setCell_at _ ⟨B, 3, none⟩ (.string ByteArray.empty)) (by simp; omega)
    exact h1.set _
  · exact ((((But.setT w 0 (.int .i64 0)).trans (But.setT _ 1 (.int .i64 0))).trans (But.setT _ 2 (.int .u64 0))).trans (But.setT _ 3 (.string ByteArray.empty))).trans (But.setB _ 0 _)

theorem caught_idle (E : Value) (C : Value) (w : World) :
    CallsD Tryd.prog 53 #[E, C] .returning w fun e u' w' => e = .returned (.tuple #[]) ∧ u' = .returning ∧ w' = w := by
  refine callsD_of_wpS Tryd.func53 rfl fun c₀ cs hu => ?_
  apply wpS_seq
  apply wpS_region
  simp [wpOpsS, go_sem, recoverD, hu, Tryd.ntmps53, Exit.thenS]
  apply wpS_seq
  apply wpS_region
  simp [wpOpsS, go_sem, recoverD, hu, Exit.thenS]
  refine wpS_cond (t := false) (by simp [Act.eval, Array.replicate]) ?_
  simp only [Bool.false_eq_true, if_false]
  refine wpS_of_wp (wp_skip ?_)
  cases c₀
  simp_all [bodyPostS, results, Tryd.f53]

set_option maxRecDepth 100000 in
theorem caught_panic (B M E : Nat) (k i u m e0 : Int) (s : ByteArray) (w : World) (hB : VBox w B k i u s) (hM : Boxed w M 3 (.int .i64 m)) (hE : Boxed w E 25 (.int .i64 e0)) (h1 : B ≠ M) (h2 : B ≠ E) (h3 : M ≠ E) :
    CallsD Tryd.prog 53 #[.pointer (some ⟨E, 0, none⟩), .func (.func 54) #[] #[.pointer (some ⟨B, 0, none⟩), .pointer (some ⟨M, 0, none⟩)]] (.panicking keyPanic) w fun e u' w' =>
      e = .returned (.tuple #[]) ∧ u' = .panicking [{ v := .iface 25 (.int .i64 150), recovered := true }] ∧ VBox w' B 0 0 0 ByteArray.empty ∧ Boxed w' M 3 (.int .i64 0) ∧ Boxed w' E 25 (.int .i64 150) ∧ ∀ base, base ≤ B → base ≤ M → base ≤ E → Below base w w' := by
  refine callsD_of_wpS Tryd.func53 rfl fun c₀ cs hu => ?_
  unfold keyPanic at hu
  apply wpS_seq
  apply wpS_region
  simp [wpOpsS, go_sem, recoverD, hu, Tryd.ntmps53, Exit.thenS]
  apply wpS_seq
  apply wpS_region
  simp [wpOpsS, go_sem, recoverD, Exit.thenS]
  refine wpS_cond (t := true) (by simp [Act.eval, Array.replicate]) ?_
  simp only [if_true]
  refine wpS_of_wp ?_
  simp only [Array.replicate_succ, Array.replicate_zero, List.push_toArray, List.append_toArray, List.setIfInBounds_toArray, List.set_cons_zero, List.set_cons_succ, List.nil_append, List.cons_append]
  have hta : ∀ w', (Instr.typeAssert (.iface 25 (.int .i64 150)) 20 25 true).run Tryd.prog w' = .ok (.tuple #[.int .i64 150, .bool true]) w' := fun w' => by
    unfold Instr.typeAssert
    simp [Sem.run_bind, run_underlying Tryd.underlying25]
  have hcl := (clear_any B M k i u m s w hB hM h1)
  replace hcl := Lib.hid hcl
  go_wp2_with fail
  refine hcl.out.mono ?_
  rintro e w1 ⟨rfl, hB1, hM1, hbu⟩
  have hE1 : Boxed w1 E 25 (.int .i64 e0) := (hbu.block E hE.lt (Ne.symm h2) (Ne.symm h3)).trans hE
  have hce := hE1.cell
  have hfe := hE1.frozen
  clear hcl
  go_wp2
  have hfin : VBox (w1.setCell ⟨E, 0, none⟩ (.int .i64 150)) B 0 0 0 ByteArray.empty ∧ Boxed (w1.setCell ⟨E, 0, none⟩ (.int .i64 150)) M 3 (.int .i64 0) ∧ Boxed (w1.setCell ⟨E, 0, none⟩ (.int .i64 150)) E 25 (.int .i64 150) ∧ ∀ base, base ≤ B → base ≤ M → base ≤ E → Below base w (w1.setCell ⟨E, 0, none⟩ (.int .i64 150)) :=
    ⟨hB1.other h2 _, box_other hM1 h3, hE1.set _, fun base b1 b2 b3 => (hbu.below b1 b2 (by have := hB.lt; omega)).setCell (p := ⟨E, 0, none⟩) b3 _⟩
  generalize (w1.setCell ⟨E, 0, none⟩ (.int .i64 150)) = w2 at *
  cases c₀
  simp [bodyPostS, results, Tryd.f53]
  exact hfin
end Go.Proofs.YtdgmhegcoogokaaDoor
