/- From what the row's frame tells of a slice of values to the words of the walks. -/
import Derived.Test.YtagoooclfcbdeaaGreatDoorVl
import Derived.OpenShut
import Derived.ChangeSlices
namespace Go.Proofs.YtagoooclfcbdeaaGreatDoor
open Go.RowKit
set_option linter.unusedVariables false

theorem cells_four {w : World} {base : Nat} {a : Addr} {cs : List Value} (h : w.cells? base a 4 = some cs) : ∃ v0 v1 v2 v3, cs = [v0, v1, v2, v3] ∧ w.cell? (a.add 0) = some v0 ∧ w.cell? (a.add 1) = some v1 ∧ w.cell? (a.add 2) = some v2 ∧ w.cell? (a.add 3) = some v3 := by
  unfold World.cells? at h
  split at h
  · rw [show List.range 4 = [0, 1, 2, 3] from rfl] at h
    simp only [List.mapM_cons, List.mapM_nil, Option.bind_eq_bind, Option.bind_eq_some_iff, Option.pure_def, Option.some.injEq] at h
    obtain ⟨v0, h0, r0, ⟨v1, h1, r1, ⟨v2, h2, r2, ⟨v3, h3, r3, rfl, rfl⟩, rfl⟩, rfl⟩, rfl⟩ := h
    exact ⟨v0, v1, v2, v3, rfl, h0, h1, h2, h3⟩
  · cases h

set_option maxRecDepth 100000 in
theorem open_V {H : Type} {enc : TypeId × Value → H} {w : World} {base : Nat} {spare : Nat → Bool} {held : Bool} {fuel : Nat} {cs : List Value} {x : DataW H × List MemPlace} (h : DataW.trod enc Tryz.prog w base spare held fuel 28 cs = some x) :
    ∃ v : Vl, cs = v.cells ∧ v.Wf := by
  obtain ⟨xs, n, rfl, rfl, hl, hxl, hel⟩ := DataW.trod_struct Tryz.underlying28 h
  have c0 : Tryz.prog.cellsOf 25 = 1 := by kernel_rfl
  have c1 : Tryz.prog.cellsOf 2 = 1 := by kernel_rfl
  have c2 : Tryz.prog.cellsOf 26 = 1 := by kernel_rfl
  have c3 : Tryz.prog.cellsOf 9 = 1 := by kernel_rfl
  have c4 : Tryz.prog.cellsOf 28 = 4 := by kernel_rfl
  rw [c4] at hl
  match cs, hl with
  | [v0, v1, v2, v3], _ =>
    match xs, hxl with
    | [x0, x1, x2, x3], _ =>
      have h0 : DataW.trod enc Tryz.prog w base spare held n 25 (([v0, v1, v2, v3].drop 0).take (Tryz.prog.cellsOf 25)) = some x0 := hel 0 _ rfl
      have h1 : DataW.trod enc Tryz.prog w base spare held n 2 (([v0, v1, v2, v3].drop 1).take (Tryz.prog.cellsOf 2)) = some x1 := hel 1 _ rfl
      have h2 : DataW.trod enc Tryz.prog w base spare held n 26 (([v0, v1, v2, v3].drop 2).take (Tryz.prog.cellsOf 26)) = some x2 := hel 2 _ rfl
      have h3 : DataW.trod enc Tryz.prog w base spare held n 9 (([v0, v1, v2, v3].drop 3).take (Tryz.prog.cellsOf 9)) = some x3 := hel 3 _ rfl
      rw [c0] at h0
      rw [c1] at h1
      rw [c2] at h2
      rw [c3] at h3
      obtain ⟨k, e0, _, w0⟩ := DataW.trod_int Tryz.underlying25 h0
      obtain ⟨i, e1, _, w1⟩ := DataW.trod_int Tryz.underlying2 h1
      obtain ⟨u, e2, _, w2⟩ := DataW.trod_int Tryz.underlying26 h2
      obtain ⟨s, e3, _, w3⟩ := DataW.trod_string Tryz.underlying9 h3
      simp at e0 e1 e2 e3
      subst e0 e1 e2 e3
      refine ⟨⟨k, i, u, s.data.toList⟩, rfl, ?_⟩
      simp [Lit.wf, IntKind.min, IntKind.max, IntKind.signed, IntKind.bits] at w1 w2
      exact ⟨by dsimp only; omega, by dsimp only; omega, by dsimp only; omega, by dsimp only; omega, by rw [Array.length_toList]; exact w3⟩

set_option maxRecDepth 100000 in
theorem open_Vs {H : Type} {enc : TypeId × Value → H} {w : World} {base : Nat} {spare : Nat → Bool} {held : Bool} {fuel : Nat} {cs : List Value} {x : DataW H × List MemPlace} (h : DataW.trod enc Tryz.prog w base spare held fuel 48 cs = some x) :
    ∃ (A : Option Addr) (n c : Nat) (xs : List Vl), cs = [.slice A n c] ∧ Rv w 4 A n c (vcells xs) ∧ ∀ v ∈ xs, v.Wf := by
  have c4 : Tryz.prog.cellsOf 28 = 4 := by kernel_rfl
  rcases DataW.trod_slice Tryz.underlying48 h with ⟨rfl, _⟩ | ⟨a, len, cap, elems, rest, n, _, rfl, _, hb, hl, hm, hlen, hel, _, _⟩
  · exact ⟨none, 0, 0, [], rfl, Rv.nil w 4, by simp⟩
  · refine ⟨some a, len, cap, ?_⟩
    rw [c4] at hel
    have key : ∀ k, k ≤ len → ∃ xs : List Vl, xs.length = k ∧ (∀ v ∈ xs, v.Wf) ∧ ∀ j u, (vcells xs)[j]? = some u → w.cell? (a.add j) = some u := by
      intro k
      induction k with
      | zero => exact fun _ => ⟨[], rfl, by simp, by simp [vcells]⟩
      | succ k ih =>
        intro hk
        obtain ⟨xs, h1, h2, h3⟩ := ih (by omega)
        have he := hel k (by omega)
        have hs : ∃ y, elems[k]? = some y := ⟨_, List.getElem?_eq_getElem (by omega)⟩
        obtain ⟨y, hy⟩ := hs
        rw [hy, Option.bind_eq_some_iff] at he
        obtain ⟨ds, hd1, hd2⟩ := he
        obtain ⟨v, rfl, hv⟩ := open_V hd2
        obtain ⟨v0, v1, v2, v3, e, g0, g1, g2, g3⟩ := cells_four hd1
        simp [Vl.cells] at e
        obtain ⟨rfl, rfl, rfl, rfl⟩ := e
        have hxl : (vcells xs).length = k * 4 := by rw [vcells_length, h1]
        refine ⟨xs ++ [v], by simp [h1], fun z hz => ?_, fun j u hu => ?_⟩
        · rcases List.mem_append.1 hz with hz | hz
          · exact h2 z hz
          · rw [List.mem_singleton.1 hz]
            exact hv
        · have ev : vcells (xs ++ [v]) = vcells xs ++ v.cells := by simp [vcells]
          rw [ev] at hu
          by_cases hj : j < k * 4
          · rw [List.getElem?_append_left (by omega)] at hu
            exact h3 j u hu
          · rw [List.getElem?_append_right (by omega), hxl] at hu
            obtain ⟨i, rfl⟩ : ∃ i, j = k * 4 + i := ⟨j - k * 4, by omega⟩
            rw [show k * 4 + i - k * 4 = i from by omega] at hu
            have ea : ∀ i, (a.add (k * 4)).add i = a.add (k * 4 + i) := fun i => by
              by_cases hi : i = 0 <;> by_cases hk0 : k = 0 <;> simp [Addr.add, hi, hk0]
              all_goals (split <;> simp_all <;> omega)
            rw [ea] at g0 g1 g2 g3
            match i, hu with
            | 0, hu => simp [Vl.cells] at hu; subst hu; exact g0
            | 1, hu => simp [Vl.cells] at hu; subst hu; exact g1
            | 2, hu => simp [Vl.cells] at hu; subst hu; exact g2
            | 3, hu => simp [Vl.cells] at hu; subst hu; exact g3
            | i + 4, hu => simp [Vl.cells] at hu
    obtain ⟨xs, h1, h2, h3⟩ := key len (Nat.le_refl _)
    refine ⟨xs, rfl, ⟨by rw [vcells_length, h1], hl, hm, fun hn => ?_⟩, h2⟩
    have hx0 : ∃ u, (vcells xs)[0]? = some u := ⟨_, List.getElem?_eq_getElem (by rw [vcells_length]; omega)⟩
    obtain ⟨u, hu⟩ := hx0
    have hc0 := h3 0 u hu
    obtain ⟨b, off, spot⟩ := a
    have hs : spot = none := by simpa [Addr.add] using World.cell?_spot hc0
    subst hs
    refine ⟨b, off, rfl, World.block_lt_of_cell? w (⟨b, off, none⟩ : Addr) (by simpa [Addr.add] using hc0), fun j u hu => ?_⟩
    have h1 := h3 j u hu
    rw [Addr.add_lit] at h1
    exact h1
end Go.Proofs.YtagoooclfcbdeaaGreatDoor
