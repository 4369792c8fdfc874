/- From what the row's frame tells of a column, and of a slice of columns, to the words of the walks. -/
import Derived.Test.YtagoooclfcbdeaaGreatDoorOpenV
import Derived.Test.YtagoooclfcbdeaaGreatDoorColA
namespace Go.Proofs.YtagoooclfcbdeaaGreatDoor
open Go.RowKit
set_option linter.unusedVariables false

def ccells (cs : List Cl) : List Value := cs.flatMap Cl.cells
theorem ccells_length (xs : List Cl) : (ccells xs).length = xs.length * 4 := by
  induction xs with
  | nil => rfl
  | cons x xs ih =>
    unfold ccells at *
    rw [List.flatMap_cons, List.length_append, ih]
    simp [Cl.cells]
    omega
theorem ccells_at (xs : List Cl) (i : Nat) (h : i < xs.length) (j : Nat) (hj : j < 4) : (ccells xs)[4 * i + j]? = (xs[i].cells)[j]? := by
  induction xs generalizing i with
  | nil => simp at h
  | cons x xs ih =>
    unfold ccells at *
    rw [List.flatMap_cons]
    cases i with
    | zero =>
      rw [List.getElem?_append_left (by simp [Cl.cells]; omega)]
      simp
    | succ i =>
      rw [List.getElem?_append_right (by simp [Cl.cells]; omega)]
      have := ih i (by simpa using h)
      simp only [Cl.cells, List.length_cons, List.length_nil] at *
      rw [show 4 * (i + 1) + j - (0 + 1 + 1 + 1 + 1) = 4 * i + j from by omega]
      simpa using this
set_option maxRecDepth 100000 in
theorem open_C {H : Type} {enc : TypeId × Value → H} {w : World} {base : Nat} {spare : Nat → Bool} {held : Bool} {fuel : Nat} {cs : List Value} {x : DataW H × List MemPlace} (h : DataW.trod enc Tryz.prog w base spare held fuel 24 cs = some x) :
    ∃ v : Cl, cs = v.cells := by
  obtain ⟨xs, n, rfl, rfl, hl, hxl, hel⟩ := DataW.trod_struct Tryz.underlying24 h
  have c0 : Tryz.prog.cellsOf 9 = 1 := by kernel_rfl
  have c1 : Tryz.prog.cellsOf 22 = 1 := by kernel_rfl
  have c2 : Tryz.prog.cellsOf 3 = 1 := by kernel_rfl
  have c3 : Tryz.prog.cellsOf 4 = 1 := by kernel_rfl
  have c4 : Tryz.prog.cellsOf 24 = 4 := by kernel_rfl
  rw [c4] at hl
  match cs, hl with
  | [v0, v1, v2, v3], _ =>
    match xs, hxl with
    | [x0, x1, x2, x3], _ =>
      have h0 : DataW.trod enc Tryz.prog w base spare held n 9 (([v0, v1, v2, v3].drop 0).take (Tryz.prog.cellsOf 9)) = some x0 := hel 0 _ rfl
      have h1 : DataW.trod enc Tryz.prog w base spare held n 22 (([v0, v1, v2, v3].drop 1).take (Tryz.prog.cellsOf 22)) = some x1 := hel 1 _ rfl
      have h2 : DataW.trod enc Tryz.prog w base spare held n 3 (([v0, v1, v2, v3].drop 2).take (Tryz.prog.cellsOf 3)) = some x2 := hel 2 _ rfl
      have h3 : DataW.trod enc Tryz.prog w base spare held n 4 (([v0, v1, v2, v3].drop 3).take (Tryz.prog.cellsOf 4)) = some x3 := hel 3 _ rfl
      rw [c0] at h0
      rw [c1] at h1
      rw [c2] at h2
      rw [c3] at h3
      obtain ⟨k, e0, _, w0⟩ := DataW.trod_string Tryz.underlying9 h0
      obtain ⟨i, e1, _, w1⟩ := DataW.trod_int Tryz.underlying22 h1
      obtain ⟨u, e2, _, w2⟩ := DataW.trod_int Tryz.underlying3 h2
      obtain ⟨s, e3, _⟩ := DataW.trod_bool Tryz.underlying4 h3
      simp at e0 e1 e2 e3
      subst e0 e1 e2 e3
      exact ⟨⟨k.data.toList, i, u, s⟩, rfl⟩

set_option maxRecDepth 100000 in
theorem open_Cs {H : Type} {enc : TypeId × Value → H} {w : World} {base : Nat} {spare : Nat → Bool} {held : Bool} {fuel : Nat} {cs : List Value} {x : DataW H × List MemPlace} (h : DataW.trod enc Tryz.prog w base spare held fuel 47 cs = some x) :
    ∃ (A : Option Addr) (n c : Nat) (xs : List Cl), cs = [.slice A n c] ∧ Rv w 4 A n c (ccells xs) := by
  have c4 : Tryz.prog.cellsOf 24 = 4 := by kernel_rfl
  rcases DataW.trod_slice Tryz.underlying47 h with ⟨rfl, _⟩ | ⟨a, len, cap, elems, rest, n, _, rfl, _, hb, hl, hm, hlen, hel, _, _⟩
  · exact ⟨none, 0, 0, [], rfl, Rv.nil w 4⟩
  · refine ⟨some a, len, cap, ?_⟩
    rw [c4] at hel
    have key : ∀ k, k ≤ len → ∃ xs : List Cl, xs.length = k ∧ ∀ j u, (ccells xs)[j]? = some u → w.cell? (a.add j) = some u := by
      intro k
      induction k with
      | zero => exact fun _ => ⟨[], rfl, by simp [ccells]⟩
      | succ k ih =>
        intro hk
        obtain ⟨xs, h1, h3⟩ := ih (by omega)
        have he := hel k (by omega)
        have hs : ∃ y, elems[k]? = some y := ⟨_, List.getElem?_eq_getElem (by omega)⟩
        obtain ⟨y, hy⟩ := hs
        rw [hy, Option.bind_eq_some_iff] at he
        obtain ⟨ds, hd1, hd2⟩ := he
        obtain ⟨v, rfl⟩ := open_C hd2
        obtain ⟨v0, v1, v2, v3, e, g0, g1, g2, g3⟩ := cells_four hd1
        simp [Cl.cells] at e
        obtain ⟨rfl, rfl, rfl, rfl⟩ := e
        have hxl : (ccells xs).length = k * 4 := by rw [ccells_length, h1]
        refine ⟨xs ++ [v], by simp [h1], fun j u hu => ?_⟩
        · have ev : ccells (xs ++ [v]) = ccells xs ++ v.cells := by simp [ccells]
          rw [ev] at hu
          by_cases hj : j < k * 4
          · rw [List.getElem?_append_left (by omega)] at hu
            exact h3 j u hu
          · rw [List.getElem?_append_right (by omega), hxl] at hu
            obtain ⟨i, rfl⟩ : ∃ i, j = k * 4 + i := ⟨j - k * 4, by omega⟩
            rw [show k * 4 + i - k * 4 = i from by omega] at hu
            have ea : ∀ i, (a.add (k * 4)).add i = a.add (k * 4 + i) := fun i => by
              by_cases hi : i = 0 <;> by_cases hk0 : k = 0 <;> simp [Addr.add, hi, hk0]
              all_goals (split <;> simp_all <;> omega)
            rw [ea] at g0 g1 g2 g3
            match i, hu with
            | 0, hu => simp [Cl.cells] at hu; subst hu; exact g0
            | 1, hu => simp [Cl.cells] at hu; subst hu; exact g1
            | 2, hu => simp [Cl.cells] at hu; subst hu; exact g2
            | 3, hu => simp [Cl.cells] at hu; subst hu; exact g3
            | i + 4, hu => simp [Cl.cells] at hu
    obtain ⟨xs, h1, h3⟩ := key len (Nat.le_refl _)
    refine ⟨xs, rfl, ⟨by rw [ccells_length, h1], hl, hm, fun hn => ?_⟩⟩
    have hx0 : ∃ u, (ccells xs)[0]? = some u := ⟨_, List.getElem?_eq_getElem (by rw [ccells_length]; omega)⟩
    obtain ⟨u, hu⟩ := hx0
    have hc0 := h3 0 u hu
    obtain ⟨b, off, spot⟩ := a
    have hs : spot = none := by simpa [Addr.add] using World.cell?_spot hc0
    subst hs
    refine ⟨b, off, rfl, World.block_lt_of_cell? w (⟨b, off, none⟩ : Addr) (by simpa [Addr.add] using hc0), fun j u hu => ?_⟩
    have h1 := h3 j u hu
    rw [Addr.add_lit] at h1
    exact h1
end Go.Proofs.YtagoooclfcbdeaaGreatDoor
