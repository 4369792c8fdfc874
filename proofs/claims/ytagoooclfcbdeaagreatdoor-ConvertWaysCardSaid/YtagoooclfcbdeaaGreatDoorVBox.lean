/- A value in a box of its own: its cells, one by one; a result that lies in such a box. (For seats without key's texts: these have it themselves.) -/
import Derived.Test.YtagoooclfcbdeaaGreatDoorVl
namespace Go.Proofs.YtagoooclfcbdeaaGreatDoor
open Go.RowKit
set_option linter.unusedVariables false

theorem VBox.other {W : World} {B B' o : Nat} {k i u : Int} {s : ByteArray} (h : VBox W B k i u s) (hne : B ≠ B') (v : Value) : VBox (W.setCell ⟨B', o, none⟩ v) B k i u s := (Below.heap_setCell _ _ _ B hne).trans h
theorem VBox.setI {W : World} {B : Nat} {k i u : Int} {s : ByteArray} (h : VBox W B k i u s) (y : Int) : VBox (W.setCell ⟨B, 1, none⟩ (.int .i64 y)) B k y u s := by
  unfold VBox at *
  show (W.heap.modify B _)[B]? = _
  obtain ⟨hlt, hk⟩ := Array.getElem?_eq_some_iff.1 h
  rw [Array.getElem?_eq_getElem (by rw [Array.size_modify]; exact hlt), Array.getElem_modify_self, hk]
  rfl
theorem VBox.setU {W : World} {B : Nat} {k i u : Int} {s : ByteArray} (h : VBox W B k i u s) (y : Int) : VBox (W.setCell ⟨B, 2, none⟩ (.int .u64 y)) B k i y s := by
  unfold VBox at *
  show (W.heap.modify B _)[B]? = _
  obtain ⟨hlt, hk⟩ := Array.getElem?_eq_some_iff.1 h
  rw [Array.getElem?_eq_getElem (by rw [Array.size_modify]; exact hlt), Array.getElem_modify_self, hk]
  rfl
theorem VBox.setS {W : World} {B : Nat} {k i u : Int} {s : ByteArray} (h : VBox W B k i u s) (y : ByteArray) : VBox (W.setCell ⟨B, 3, none⟩ (.string y)) B k i u y := by
  unfold VBox at *
  show (W.heap.modify B _)[B]? = _
  obtain ⟨hlt, hk⟩ := Array.getElem?_eq_some_iff.1 h
  rw [Array.getElem?_eq_getElem (by rw [Array.size_modify]; exact hlt), Array.getElem_modify_self, hk]
  rfl
theorem VBox.setK {W : World} {B : Nat} {k i u : Int} {s : ByteArray} (h : VBox W B k i u s) (y : Int) : VBox (W.setCell ⟨B, 0, none⟩ (.int .i64 y)) B y i u s := by
  unfold VBox at *
  show (W.heap.modify B _)[B]? = _
  obtain ⟨hlt, hk⟩ := Array.getElem?_eq_some_iff.1 h
  rw [Array.getElem?_eq_getElem (by rw [Array.size_modify]; exact hlt), Array.getElem_modify_self, hk]
  rfl

theorem results_cellV {fn : Func} {s r : Tmp} (h : fn.results = #[.cell s 28, .tmp r]) (tmps : Array Value) (w : World) {B : Nat} {k i u : Int} {x : ByteArray} (hs : tmps.getD s undef = .pointer (some ⟨B, 0, none⟩)) (hV : VBox w B k i u x) :
    (results fn tmps).run Tryz.prog w = .ok (.tuple #[valV k i u x, tmps.getD r undef]) w := by
  have hc := hV.cells
  rw [Array.getD_eq_getD_getElem?] at hs
  simp [results, h, hs, go_sem, hc]
  rfl
theorem VBox.put {W : World} {B : Nat} {k i u : Int} {s : ByteArray} (h : VBox W B k i u s) (k' i' u' : Int) (s' : ByteArray) :
    VBox ((((W.setCell ⟨B, 0, none⟩ (.int .i64 k')).setCell ⟨B, 1, none⟩ (.int .i64 i')).setCell ⟨B, 2, none⟩ (.int .u64 u')).setCell ⟨B, 3, none⟩ (.string s')) B k' i' u' s' := (((h.setK k').setI i').setU u').setS s'
theorem below_put {base : Nat} {w W : World} (h : Below base w W) {B : Nat} (hB : base ≤ B) (k' i' u' : Int) (s' : ByteArray) :
    Below base w ((((W.setCell ⟨B, 0, none⟩ (.int .i64 k')).setCell ⟨B, 1, none⟩ (.int .i64 i')).setCell ⟨B, 2, none⟩ (.int .u64 u')).setCell ⟨B, 3, none⟩ (.string s')) :=
  (((h.setCell (p := ⟨B, 0, none⟩) hB _).setCell (p := ⟨B, 1, none⟩) hB _).setCell (p := ⟨B, 2, none⟩) hB _).setCell (p := ⟨B, 3, none⟩) hB _

end Go.Proofs.YtagoooclfcbdeaaGreatDoor
