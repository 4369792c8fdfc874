/- Locks that are nil: Of, Tick. -/
import Derived.Test.YtnjhhibjcfjhnaaDoorLkN1
namespace Go.Proofs.YtnjhhibjcfjhnaaDoor
open Go.RowKit
set_option linter.unusedVariables false

set_option maxRecDepth 100000 in
theorem Of_nil (t : List UInt8) (w : World) :
    Calls Tryd.prog 19 #[.pointer none, .string (strL t)] w fun e w' => e = .returned (.func (.func 46) #[] #[.pointer (some ⟨w.heap.size + 1, 0, none⟩), .pointer (some ⟨w.heap.size, 0, none⟩)]) ∧
      w'.cell? ⟨w.heap.size + 1, 0, none⟩ = some (.slice none 0 0) ∧ w'.cell? ⟨w.heap.size, 0, none⟩ = some (.string (strL t)) ∧ Below w.heap.size w w' := by
  have hb0 : Below w.heap.size w (w.alloc (.cells #[.string (strL t)] 9)) := (Below.refl _ _).alloc (Nat.le_refl _) _
  have hb1 : Below w.heap.size w ((w.alloc (.cells #[.string (strL t)] 9)).alloc (.cells #[.slice none 0 0] 67)) := gr_alloc hb0 _
  have hbt : Boxed ((w.alloc (.cells #[.string (strL t)] 9)).alloc (.cells #[.slice none 0 0] 67)) w.heap.size 9 (.string (strL t)) := (Boxed.new w 9 (.string (strL t))).alloc _
  have hba : Boxed ((w.alloc (.cells #[.string (strL t)] 9)).alloc (.cells #[.slice none 0 0] 67)) (w.heap.size + 1) 67 (.slice none 0 0) := by
    have := Boxed.new (w.alloc (.cells #[.string (strL t)] 9)) 67 (.slice none 0 0)
    rw [World.size_alloc] at this
    exact this
  replace hb1 := Lib.hid hb1
  replace hba := Lib.hid hba
  replace hbt := Lib.hid hbt
  go_enter Tryd.func19, Tryd.ntmps19
  go_wp2
  go_ret
  exact ⟨rfl, hba.out.cell, hbt.out.cell, hb1.out⟩
set_option maxRecDepth 100000 in
theorem Tick_nil (w : World) : Calls Tryd.prog 14 #[.pointer none] w fun e w' => e = .returned (.tuple #[.slice none 0 0, .slice none 0 0]) ∧ Below w.heap.size w w' := by
  have hb0 : Below w.heap.size w (w.alloc (.cells #[.pointer none] 25)) := (Below.refl _ _).alloc (Nat.le_refl _) _
  have hb1 : Below w.heap.size w ((w.alloc (.cells #[.pointer none] 25)).alloc (.cells #[.slice none 0 0] 36)) := gr_alloc hb0 _
  have hbl : Boxed ((w.alloc (.cells #[.pointer none] 25)).alloc (.cells #[.slice none 0 0] 36)) w.heap.size 25 (.pointer none) := (Boxed.new w 25 (.pointer none)).alloc _
  have hbo : Boxed ((w.alloc (.cells #[.pointer none] 25)).alloc (.cells #[.slice none 0 0] 36)) (w.heap.size + 1) 36 (.slice none 0 0) := by
    have := Boxed.new (w.alloc (.cells #[.pointer none] 25)) 36 (.slice none 0 0)
    rw [World.size_alloc] at this
    exact this
  go_enter Tryd.func14, Tryd.ntmps14
  go_upto_region 1 with fail
  generalize ((w.alloc (.cells #[.pointer none] 25)).alloc (.cells #[.slice none 0 0] 36)) = w1 at *
  have cl := hbl.cell
  have co := hbo.cell
  have fo := hbo.frozen
  have c7 := (hbo.set (.slice none 0 0)).cell
  have hB := hb1.setCell (p := ⟨w.heap.size + 1, 0, none⟩) (Nat.le_succ _) (.slice none 0 0)
  clear hbl hbo
  replace hB := Lib.hid hB
  go_wp2
  refine bodyPost_ret (v := .tuple #[.slice none 0 0, .slice none 0 0]) ?_ rfl ?_
  · simp [results, Tryd.f14, go_sem, c7]
  · exact ⟨rfl, hB.out⟩
end Go.Proofs.YtnjhhibjcfjhnaaDoor
