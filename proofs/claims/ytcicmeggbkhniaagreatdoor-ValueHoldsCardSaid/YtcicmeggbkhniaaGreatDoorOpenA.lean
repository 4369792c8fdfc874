/- From what the row's frame tells of an array of three values to the words of the walks. -/
import Derived.Test.YtcicmeggbkhniaaGreatDoorOpenV
import Derived.WideShapes
namespace Go.Proofs.YtcicmeggbkhniaaGreatDoor
open Go.RowKit
set_option linter.unusedVariables false

theorem okWide_array {P : Program} {w : World} {r : Reach} {base : Nat} {t : TypeId} {v : Value} {n : Nat} {e : TypeId} (ht : P.underlying t = some (.array n e)) (h : Value.okWide P w r base t v) : ∃ xs : Array Value, v = .agg xs := by
  simp only [Value.okWide, ht] at h
  obtain ⟨cs, h1, _⟩ := h
  exact ⟨cs, h1⟩
set_option maxRecDepth 100000 in
theorem open_A {H : Type} {enc : TypeId × Value → H} {w : World} {base : Nat} {spare : Nat → Bool} {held : Bool} {fuel : Nat} {cs : List Value} {x : DataW H × List MemPlace} (h : DataW.trod enc Tryz.prog w base spare held fuel 41 cs = some x) :
    ∃ a b c : Vl, cs = vcells [a, b, c] ∧ a.Wf ∧ b.Wf ∧ c.Wf := by
  obtain ⟨xs, m, rfl, rfl, hl, hxl, hel⟩ := DataW.trod_array Tryz.underlying41 h
  have c4 : Tryz.prog.cellsOf 25 = 4 := by kernel_rfl
  have c12 : Tryz.prog.cellsOf 41 = 12 := by kernel_rfl
  rw [c12] at hl
  rw [c4] at hel
  match xs, hxl with
  | [x0, x1, x2], _ =>
    have h0 := hel 0 (by omega)
    have h1 := hel 1 (by omega)
    have h2 := hel 2 (by omega)
    obtain ⟨a, ea, ha⟩ := open_V h0
    obtain ⟨b, eb, hb⟩ := open_V h1
    obtain ⟨c, ec, hc⟩ := open_V h2
    refine ⟨a, b, c, ?_, ha, hb, hc⟩
    show cs = a.cells ++ (b.cells ++ (c.cells ++ []))
    rw [← ea, ← eb, ← ec]
    match cs, hl with
    | [v0, v1, v2, v3, v4, v5, v6, v7, v8, v9, v10, v11], _ => rfl
end Go.Proofs.YtcicmeggbkhniaaGreatDoor
