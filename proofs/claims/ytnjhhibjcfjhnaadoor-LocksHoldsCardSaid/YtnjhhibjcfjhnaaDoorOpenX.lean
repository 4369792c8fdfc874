/- From what the row's frame tells of acts to the words of the walks. -/
import Derived.Test.YtnjhhibjcfjhnaaDoorActA
import Derived.OpenShut
import Derived.ChangeSlices
import Derived.WideShapes
namespace Go.Proofs.YtnjhhibjcfjhnaaDoor
open Go.RowKit
set_option linter.unusedVariables false

theorem mapM_opt {α β : Type} (f : α → Option β) : ∀ (l : List α) (r : List β), l.mapM f = some r → r.length = l.length ∧ ∀ (i : Nat) (u : β), r[i]? = some u → ∃ x, l[i]? = some x ∧ f x = some u
  | [], r, h => by
    simp at h
    subst h
    simp
  | a :: l, r, h => by
    simp only [List.mapM_cons, Option.bind_eq_bind, Option.bind_eq_some_iff, Option.pure_def, Option.some.injEq] at h
    obtain ⟨v, hv, t, ht, rfl⟩ := h
    obtain ⟨h1, h2⟩ := mapM_opt f l t ht
    refine ⟨by simp [h1], fun i u hu => ?_⟩
    cases i with
    | zero =>
      simp at hu
      subst hu
      exact ⟨a, rfl, hv⟩
    | succ i =>
      simp at hu ⊢
      exact h2 i u hu
theorem cells_many {w : World} {base : Nat} {a : Addr} {k : Nat} {cs : List Value} (h : w.cells? base a k = some cs) : cs.length = k ∧ ∀ i u, cs[i]? = some u → w.cell? (a.add i) = some u := by
  unfold World.cells? at h
  split at h
  · obtain ⟨h1, h2⟩ := mapM_opt _ _ _ h
    refine ⟨by simpa using h1, fun i u hu => ?_⟩
    obtain ⟨x, hx, hf⟩ := h2 i u hu
    rw [List.getElem?_range (by have := (List.getElem?_eq_some_iff.1 hx).1; simpa using this)] at hx
    cases hx
    exact hf
  · cases h
theorem flat_len {α : Type} {f : α → List Value} {k : Nat} (hf : ∀ x, (f x).length = k) : ∀ xs : List α, (xs.flatMap f).length = xs.length * k
  | [] => by simp
  | x :: xs => by
    rw [List.flatMap_cons, List.length_append, flat_len hf xs, hf, List.length_cons, Nat.add_mul]
    omega
theorem add_add (a : Addr) (k i : Nat) : (a.add k).add i = a.add (k + i) := by
  by_cases hi : i = 0 <;> by_cases hk0 : k = 0 <;> simp [Addr.add, hi, hk0]
  all_goals first | omega | (split <;> simp_all <;> omega)
/-- A slice of anything that is opened element by element. -/
theorem open_row {H : Type} {enc : TypeId × Value → H} {w : World} {base : Nat} {spare : Nat → Bool} {held : Bool} {fuel : Nat} {cs : List Value} {x : DataW H × List MemPlace} {t e : TypeId} {k : Nat} (ht : Tryd.prog.underlying t = some (.slice e)) (hk : Tryd.prog.cellsOf e = k) (hk0 : 0 < k)
    {α : Type} (f : α → List Value) (hf : ∀ x, (f x).length = k) (p : α → Prop) (hel : ∀ n cs y, DataW.trod enc Tryd.prog w base spare held n e cs = some y → ∃ v, cs = f v ∧ p v) (h : DataW.trod enc Tryd.prog w base spare held fuel t cs = some x) :
    ∃ (A : Option Addr) (n c : Nat) (xs : List α), cs = [.slice A n c] ∧ Rv w k A n c (xs.flatMap f) ∧ ∀ v ∈ xs, p v := by
  rcases DataW.trod_slice ht h with ⟨rfl, _⟩ | ⟨a, len, cap, elems, rest, n, _, rfl, _, hb, hl, hm, hlen, hels, _, _⟩
  · exact ⟨none, 0, 0, [], rfl, Rv.nil w k, by simp⟩
  · refine ⟨some a, len, cap, ?_⟩
    rw [hk] at hels
    have key : ∀ q, q ≤ len → ∃ xs : List α, xs.length = q ∧ (∀ v ∈ xs, p v) ∧ ∀ j u, (xs.flatMap f)[j]? = some u → w.cell? (a.add j) = some u := by
      intro q
      induction q with
      | zero => exact fun _ => ⟨[], rfl, by simp, by simp⟩
      | succ q ih =>
        intro hq
        obtain ⟨xs, h1, h2, h3⟩ := ih (by omega)
        have he := hels q (by omega)
        obtain ⟨y, hy⟩ : ∃ y, elems[q]? = some y := ⟨_, List.getElem?_eq_getElem (by omega)⟩
        rw [hy, Option.bind_eq_some_iff] at he
        obtain ⟨ds, hd1, hd2⟩ := he
        obtain ⟨v, rfl, hv⟩ := hel _ _ _ hd2
        obtain ⟨-, hc⟩ := cells_many hd1
        have hxl : (xs.flatMap f).length = q * k := by rw [flat_len hf, h1]
        refine ⟨xs ++ [v], by simp [h1], fun z hz => ?_, fun j u hu => ?_⟩
        · rcases List.mem_append.1 hz with hz | hz
          · exact h2 z hz
          · rw [List.mem_singleton.1 hz]
            exact hv
        · have ev : (xs ++ [v]).flatMap f = xs.flatMap f ++ f v := by simp
          rw [ev] at hu
          by_cases hj : j < q * k
          · rw [List.getElem?_append_left (by omega)] at hu
            exact h3 j u hu
          · rw [List.getElem?_append_right (by omega), hxl] at hu
            have := hc _ _ hu
            rw [add_add] at this
            rw [show j = q * k + (j - q * k) from by omega]
            exact this
    obtain ⟨xs, h1, h2, h3⟩ := key len (Nat.le_refl _)
    refine ⟨xs, rfl, ⟨by rw [flat_len hf, h1], hl, hm, fun hn => ?_⟩, h2⟩
    have hx0 : ∃ u, (xs.flatMap f)[0]? = some u := ⟨_, List.getElem?_eq_getElem (by rw [flat_len hf, h1]; exact Nat.mul_pos hn hk0)⟩
    obtain ⟨u, hu⟩ := hx0
    have hc0 := h3 0 u hu
    obtain ⟨b, off, spot⟩ := a
    have hs : spot = none := by simpa [Addr.add] using World.cell?_spot hc0
    subst hs
    refine ⟨b, off, rfl, World.block_lt_of_cell? w (⟨b, off, none⟩ : Addr) (by simpa [Addr.add] using hc0), fun j u hu => ?_⟩
    have h1 := h3 j u hu
    rw [Addr.add_lit] at h1
    exact h1
section
variable {H : Type} {enc : TypeId × Value → H} {w : World} {base : Nat} {spare : Nat → Bool} {held : Bool} {fuel : Nat} {cs : List Value} {x : DataW H × List MemPlace}
set_option maxRecDepth 100000 in
theorem open_W (h : DataW.trod enc Tryd.prog w base spare held fuel 64 cs = some x) : ∃ v : Wt, cs = v.cells ∧ True := by
  obtain ⟨xs, n, rfl, rfl, hl, hxl, hel⟩ := DataW.trod_struct Tryd.underlying64 h
  have c0 : Tryd.prog.cellsOf 9 = 1 := by kernel_rfl
  have c1 : Tryd.prog.cellsOf 4 = 1 := by kernel_rfl
  have c4 : Tryd.prog.cellsOf 64 = 2 := by kernel_rfl
  rw [c4] at hl
  match cs, hl with
  | [v0, v1], _ =>
    match xs, hxl with
    | [x0, x1], _ =>
      have h0 : DataW.trod enc Tryd.prog w base spare held n 9 (([v0, v1].drop 0).take (Tryd.prog.cellsOf 9)) = some x0 := hel 0 _ rfl
      have h1 : DataW.trod enc Tryd.prog w base spare held n 4 (([v0, v1].drop 1).take (Tryd.prog.cellsOf 4)) = some x1 := hel 1 _ rfl
      rw [c0] at h0
      rw [c1] at h1
      obtain ⟨s, e0, _⟩ := DataW.trod_string Tryd.underlying9 h0
      obtain ⟨b, e1, _⟩ := DataW.trod_bool Tryd.underlying4 h1
      simp at e0 e1
      subst e0 e1
      exact ⟨⟨s.data.toList, b⟩, rfl, trivial⟩
theorem open_Ws (h : DataW.trod enc Tryd.prog w base spare held fuel 29 cs = some x) : ∃ (A : Option Addr) (n c : Nat) (xs : List Wt), cs = [.slice A n c] ∧ Rv w 2 A n c (wcells xs) := by
  obtain ⟨A, n, c, xs, h1, h2, -⟩ := open_row Tryd.underlying29 (show Tryd.prog.cellsOf 64 = 2 by kernel_rfl) (by decide) Wt.cells (fun _ => rfl) (fun _ => True) (fun n cs y h => open_W h) h
  exact ⟨A, n, c, xs, h1, h2⟩
def Ac.Lies (w : World) (x : Ac) : Prop := Rv w 2 x.A x.n x.c (wcells x.W)
set_option maxRecDepth 100000 in
theorem open_X (h : DataW.trod enc Tryd.prog w base spare held fuel 31 cs = some x) : ∃ v : Ac, cs = v.cells ∧ v.Lies w := by
  obtain ⟨xs, n, rfl, rfl, hl, hxl, hel⟩ := DataW.trod_struct Tryd.underlying31 h
  have c0 : Tryd.prog.cellsOf 3 = 1 := by kernel_rfl
  have c1 : Tryd.prog.cellsOf 4 = 1 := by kernel_rfl
  have c2 : Tryd.prog.cellsOf 29 = 1 := by kernel_rfl
  have c4 : Tryd.prog.cellsOf 31 = 5 := by kernel_rfl
  rw [c4] at hl
  match cs, hl with
  | [v0, v1, v2, v3, v4], _ =>
    match xs, hxl with
    | [x0, x1, x2, x3, x4], _ =>
      have h0 : DataW.trod enc Tryd.prog w base spare held n 3 (([v0, v1, v2, v3, v4].drop 0).take (Tryd.prog.cellsOf 3)) = some x0 := hel 0 _ rfl
      have h1 : DataW.trod enc Tryd.prog w base spare held n 3 (([v0, v1, v2, v3, v4].drop 1).take (Tryd.prog.cellsOf 3)) = some x1 := hel 1 _ rfl
      have h2 : DataW.trod enc Tryd.prog w base spare held n 3 (([v0, v1, v2, v3, v4].drop 2).take (Tryd.prog.cellsOf 3)) = some x2 := hel 2 _ rfl
      have h3 : DataW.trod enc Tryd.prog w base spare held n 4 (([v0, v1, v2, v3, v4].drop 3).take (Tryd.prog.cellsOf 4)) = some x3 := hel 3 _ rfl
      have h4 : DataW.trod enc Tryd.prog w base spare held n 29 (([v0, v1, v2, v3, v4].drop 4).take (Tryd.prog.cellsOf 29)) = some x4 := hel 4 _ rfl
      rw [c0] at h0 h1 h2
      rw [c1] at h3
      rw [c2] at h4
      obtain ⟨i0, e0, _⟩ := DataW.trod_int Tryd.underlying3 h0
      obtain ⟨i1, e1, _⟩ := DataW.trod_int Tryd.underlying3 h1
      obtain ⟨i2, e2, _⟩ := DataW.trod_int Tryd.underlying3 h2
      obtain ⟨b3, e3, _⟩ := DataW.trod_bool Tryd.underlying4 h3
      obtain ⟨A, m, c, ws, e4, hr⟩ := open_Ws h4
      simp at e0 e1 e2 e3 e4
      subst e0 e1 e2 e3 e4
      exact ⟨⟨i0, i1, i2, b3, ws, A, m, c⟩, rfl, hr⟩
theorem open_Xs (h : DataW.trod enc Tryd.prog w base spare held fuel 22 cs = some x) : ∃ (A : Option Addr) (n c : Nat) (xs : List Ac), cs = [.slice A n c] ∧ Cv w A n c xs := by
  obtain ⟨A, n, c, xs, h1, h2, h3⟩ := open_row Tryd.underlying22 (show Tryd.prog.cellsOf 31 = 5 by kernel_rfl) (by decide) Ac.cells (fun _ => rfl) (fun v => v.Lies w) (fun n cs y h => open_X h) h
  exact ⟨A, n, c, xs, h1, h2, h3⟩
theorem okWide_array {P : Program} {w : World} {r : Reach} {base : Nat} {t : TypeId} {v : Value} {n : Nat} {e : TypeId} (ht : P.underlying t = some (.array n e)) (h : Value.okWide P w r base t v) : ∃ xs : Array Value, v = .agg xs := by
  simp only [Value.okWide, ht] at h
  obtain ⟨cs, h1, _⟩ := h
  exact ⟨cs, h1⟩
set_option maxRecDepth 100000 in
theorem open_X2 (h : DataW.trod enc Tryd.prog w base spare held fuel 60 cs = some x) : ∃ a b : Ac, cs = ccells [a, b] ∧ a.Lies w ∧ b.Lies w := by
  obtain ⟨xs, m, rfl, rfl, hl, hxl, hel⟩ := DataW.trod_array Tryd.underlying60 h
  have c4 : Tryd.prog.cellsOf 31 = 5 := by kernel_rfl
  have c12 : Tryd.prog.cellsOf 60 = 10 := by kernel_rfl
  rw [c12] at hl
  rw [c4] at hel
  match xs, hxl with
  | [x0, x1], _ =>
    have h0 := hel 0 (by omega)
    have h1 := hel 1 (by omega)
    obtain ⟨a, ea, ha⟩ := open_X h0
    obtain ⟨b, eb, hb⟩ := open_X h1
    refine ⟨a, b, ?_, ha, hb⟩
    show cs = a.cells ++ (b.cells ++ [])
    rw [← ea, ← eb]
    match cs, hl with
    | [v0, v1, v2, v3, v4, v5, v6, v7, v8, v9], _ => rfl
end
end Go.Proofs.YtnjhhibjcfjhnaaDoor
