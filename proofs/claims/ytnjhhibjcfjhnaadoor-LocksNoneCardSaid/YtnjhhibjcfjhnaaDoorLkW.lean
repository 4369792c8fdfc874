/- The law's read and write: one want. -/
import Derived.Test.YtnjhhibjcfjhnaaDoorLkN3
namespace Go.Proofs.YtnjhhibjcfjhnaaDoor
open Go.RowKit
set_option linter.unusedVariables false

theorem results_w1 {fn : Func} {s : Tmp} (h : fn.results = #[.cell s 64]) (tmps : Array Value) (w : World) {B : Nat} {u v : Value} (hs : tmps.getD s undef = .pointer (some ⟨B, 0, none⟩))
    (h0 : w.cell? ⟨B, 0, none⟩ = some u) (h1 : w.cell? ⟨B, 1, none⟩ = some v) :
    (results fn tmps).run Tryd.prog w = .ok (.agg #[u, v]) w := by
  rw [Array.getD_eq_getD_getElem?] at hs
  simp [results, h, hs, go_sem, h0, h1]
set_option maxRecDepth 100000 in
theorem Read_any (t : List UInt8) (w : World) : Calls Tryd.prog 26 #[.string (strL t)] w fun e w' => e = .returned (.agg #[.string (strL t), .bool false]) ∧ Below w.heap.size w w' := by
  have hb0 : Below w.heap.size w (w.alloc (.cells #[.string (strL t), .bool false] 64)) := (Below.refl _ _).alloc (Nat.le_refl _) _
  have c0 := (box_cells (World.alloc_heap_new w (.cells #[.string (strL t), .bool false] 64))).1
  replace hb0 := Lib.hid hb0
  replace c0 := Lib.hid c0
  go_enter Tryd.func26, Tryd.ntmps26
  go_wp2
  refine bodyPost_ret (results_w1 rfl _ _ rfl c0.out.1 c0.out.2) rfl ?_
  exact ⟨rfl, hb0.out⟩
set_option maxRecDepth 100000 in
theorem Write_any (t : List UInt8) (w : World) : Calls Tryd.prog 25 #[.string (strL t)] w fun e w' => e = .returned (.agg #[.string (strL t), .bool true]) ∧ Below w.heap.size w w' := by
  have hb0 : Below w.heap.size w (w.alloc (.cells #[.string (strL t), .bool true] 64)) := (Below.refl _ _).alloc (Nat.le_refl _) _
  have c0 := (box_cells (World.alloc_heap_new w (.cells #[.string (strL t), .bool true] 64))).1
  replace hb0 := Lib.hid hb0
  replace c0 := Lib.hid c0
  go_enter Tryd.func25, Tryd.ntmps25
  go_wp2
  refine bodyPost_ret (results_w1 rfl _ _ rfl c0.out.1 c0.out.2) rfl ?_
  exact ⟨rfl, hb0.out⟩
end Go.Proofs.YtnjhhibjcfjhnaaDoor
