/- schema.number: the number of an error. -/
import Derived.Test.YtagoooclfcbdeaaGreatDoorAsP
import Derived.Test.YtagoooclfcbdeaaGreatDoorEnv
import Derived.Test.YtagoooclfcbdeaaGreatDoorColH
namespace Go.Proofs.YtagoooclfcbdeaaGreatDoor
open Go.RowKit
set_option linter.unusedVariables false

theorem unwrapS (g : Nat) (n : Int) (w : World) (h : w.cell? ⟨g, 1, none⟩ = some (.iface 31 (.int .i64 n))) : Calls Tryz.prog 172 #[.pointer (some ⟨g, 0, none⟩)] w fun e w' => e = .returned (.iface 31 (.int .i64 n)) ∧ Below w.heap.size w w' := by
  have hlt := World.block_lt_of_cell? _ _ h
  go_enter Tryz.func172, Tryz.ntmps172
  go_wp2
  go_ret
  exact ⟨rfl, Below.refl _ _⟩
/-- An error of a value that does not fit. -/
def SErr (w : World) (n : Nat) (v : Value) : Prop := (n = 0 ∧ v = .nilIface) ∨ (n ≠ 0 ∧ ∃ g, v = .iface 106 (.pointer (some ⟨g, 0, none⟩)) ∧ w.cell? ⟨g, 1, none⟩ = some (.iface 31 (.int .i64 (n : Int))))
set_option maxRecDepth 100000 in
theorem snumber_any (n : Nat) (v : Value) (w : World) (hE : Env w) (hv : SErr w n v) : Calls Tryz.prog 33 #[v] w fun e w' => e = .returned (.int .i64 (n : Int)) ∧ Below w.heap.size w w' := by
  have hb : Below w.heap.size w (w.alloc (.cells #[.int .i64 0] 31)) := (Below.refl _ w).alloc (Nat.le_refl _) _
  have hB := Boxed.new w 31 (.int .i64 0)
  rcases hv with ⟨rfl, rfl⟩ | ⟨hn, g, rfl, hc⟩
  · have cB := hB.cell
    have fB := hB.frozen
    go_enter Tryz.func33, Tryz.ntmps33
    go_wp2_with (go_at_call 40; refine (as_nil _ _).mono ?_; rintro e w' ⟨rfl, rfl⟩)
    exact bodyPost_ret (v := .int .i64 0) (by simp [results, Tryz.f33, go_sem]) rfl ⟨rfl, hb⟩
  · have hlt := World.block_lt_of_cell? _ _ hc
    have hcc := as_faultP ⟨g, 0, none⟩ (n : Int) 0 w.heap.size _ hB (hE.alloc _).et (fun W h => unwrapS g n W (((hb.trans (h.mono hb.size)).cell (p := ⟨g, 1, none⟩) hlt).trans hc))
    replace hcc := Lib.hid hcc
    clear hB hE
    go_enter Tryz.func33, Tryz.ntmps33
    go_wp2_with fail
    refine hcc.out.mono ?_
    rintro e w2 ⟨rfl, hE2, hg2⟩
    have cB := hE2.cell
    have fB := hE2.frozen
    have hb2 := hb.grown hg2 (by simp) (fun k e => by cases e; exact Nat.le_refl _)
    clear hcc
    have cB2 := (hE2.set (.int .i64 (n : Int))).cell
    go_wp2
    exact bodyPost_ret (v := .int .i64 (n : Int)) (by simp [results, Tryz.f33, go_sem, cB2]) rfl ⟨rfl, hb2.setCell (p := ⟨w.heap.size, 0, none⟩) (Nat.le_refl _) _⟩
end Go.Proofs.YtagoooclfcbdeaaGreatDoor
