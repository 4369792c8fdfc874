/- What the package's variables hold, and that a call which turns nothing old leaves it so; the number of an error. -/
import Derived.Test.YtnjhhibjcfjhnaaDoorAsW
import Derived.Lib.LaidTab
import Derived.Lib.ItoaMem
import Derived.Lib.AppendIntMem
namespace Go.Proofs.YtnjhhibjcfjhnaaDoor
open Go.RowKit
set_option linter.unusedVariables false

/-- The variables that this program's code reads. -/
structure Env (w : World) : Prop where
  et : w.cell? ⟨0, 0, none⟩ = some (.iface 131 (.agg #[.pointer (some ⟨1, 76, none⟩)]))

theorem var_below {P : Program} {w w' : World} {name : String} {cs : Array Value} (h : w.var? P name = some cs) (hb : Below w.heap.size w w') : w'.var? P name = some cs := by
  unfold World.var? at *
  cases hg : P.globalNamed name with
  | none => simp [hg] at h
  | some g =>
    simp only [hg, Option.bind_some] at h ⊢
    have hlt : g < w.heap.size := by
      rcases Nat.lt_or_ge g w.heap.size with h1 | h1
      · exact h1
      · rw [Array.getElem?_eq_none h1] at h
        cases h
    rw [hb.block g hlt]
    exact h
theorem Env.below {w w' : World} (h : Env w) (hb : Below w.heap.size w w') : Env w' where
  et := (hb.cell (p := ⟨0, 0, none⟩) (World.block_lt_of_cell? _ _ h.et)).trans h.et
theorem Env.alloc {w : World} (h : Env w) (o : Obj) : Env (w.alloc o) := h.below ((Below.refl _ w).alloc (Nat.le_refl _) o)

/-- A pair of a string or what else, and an error that is nil or a fault of a number. -/
def errV (mk : Int → Value) (n : Nat) : Value := if n = 0 then .nilIface else .iface 83 (mk n)

theorem number_nil (w : World) : Calls Tryd.prog 30 #[.nilIface] w fun e w' => e = .returned (.int .i64 0) ∧ Below w.heap.size w w' := by
  have hb : Below w.heap.size w (w.alloc (.cells #[.int .i64 0] 32)) := (Below.refl _ w).alloc (Nat.le_refl _) _
  go_enter Tryd.func30, Tryd.ntmps30
  go_wp2_with (go_at_call 51; refine (as_nil _ _).mono ?_; rintro e w' ⟨rfl, rfl⟩)
  go_ret
  exact ⟨rfl, hb⟩

theorem number_fault (cs : Array Value) (n : Int) (w : World) (hg : Env w) (hu : ∀ W, Calls Tryd.prog 103 #[.agg cs] W fun e W' => e = .returned (.iface 32 (.int .i64 n)) ∧ Below W.heap.size W W') :
    Calls Tryd.prog 30 #[.iface 83 (.agg cs)] w fun e w' => e = .returned (.int .i64 n) ∧ Below w.heap.size w w' := by
  have hb : Below w.heap.size w (w.alloc (.cells #[.int .i64 0] 32)) := (Below.refl _ w).alloc (Nat.le_refl _) _
  have hE := Boxed.new w 32 (.int .i64 0)
  have hc := as_fault cs n 0 w.heap.size _ hE (hg.alloc _).et hu
  replace hc := Lib.hid hc
  clear hE hg hu
  go_enter Tryd.func30, Tryd.ntmps30
  go_wp2_with fail
  refine hc.out.mono ?_
  rintro e w2 ⟨rfl, hE2, hg2⟩
  have hce := hE2.cell
  have hb2 := hb.grown hg2 (by simp) (fun k e => by cases e; exact Nat.le_refl _)
  clear hc hb hg2
  go_wp2
  go_ret
  exact ⟨rfl, hb2⟩
end Go.Proofs.YtnjhhibjcfjhnaaDoor
