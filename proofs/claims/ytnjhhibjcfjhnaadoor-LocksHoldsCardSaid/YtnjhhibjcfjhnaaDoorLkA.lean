/- Locks in memory: wants and asks as cells; the library's IndexFunc, ContainsFunc, Clone at these. -/
import Derived.Test.YtnjhhibjcfjhnaaDoorLkP
import Derived.Test.YtnjhhibjcfjhnaaDoorEnv
import Derived.Lib.SliceRun
namespace Go.Proofs.YtnjhhibjcfjhnaaDoor
open Go.RowKit
set_option linter.unusedVariables false

theorem wcells_cell {w W : World} {b off : Nat} {xs : List Wt} (hcell : ∀ j u, (wcells xs)[j]? = some u → w.cell? ⟨b, off + j, none⟩ = some u) (hW : ∀ o, W.cell? ⟨b, o, none⟩ = w.cell? ⟨b, o, none⟩) (i : Nat) (h : i < xs.length) :
    W.cell? ⟨b, off + i * 2, none⟩ = some (.string (strL xs[i].t)) ∧ W.cell? ⟨b, off + i * 2 + 1, none⟩ = some (.bool xs[i].wr) := by
  have hca : ∀ j v, j < 2 → (xs[i].cells)[j]? = some v → W.cell? ⟨b, off + (2 * i + j), none⟩ = some v := fun j v hj hv => (hW _).trans (hcell (2 * i + j) v ((wcells_at xs i h j hj).trans hv))
  have c0 := hca 0 _ (by omega) rfl
  have c1 := hca 1 _ (by omega) rfl
  rw [Nat.add_zero] at c0
  simp only [← Nat.add_assoc, Nat.mul_comm 2 i] at c0 c1
  exact ⟨c0, c1⟩

def acells (l : List Ak) : List Value := l.flatMap Ak.cells
def rcells (l : List Ak) : List Value := l.flatMap Ak.rcells
theorem flat_length {α : Type} {f : α → List Value} {k : Nat} (hf : ∀ x, (f x).length = k) (xs : List α) : (xs.flatMap f).length = xs.length * k := by
  induction xs with
  | nil => simp
  | cons x xs ih =>
    rw [List.flatMap_cons, List.length_append, ih, hf, List.length_cons, Nat.add_mul]
    omega
theorem flat_at {α : Type} {f : α → List Value} {k : Nat} (hf : ∀ x, (f x).length = k) (xs : List α) (i : Nat) (h : i < xs.length) (j : Nat) (hj : j < k) : (xs.flatMap f)[k * i + j]? = (f xs[i])[j]? := by
  induction xs generalizing i with
  | nil => simp at h
  | cons x xs ih =>
    rw [List.flatMap_cons]
    cases i with
    | zero => rw [List.getElem?_append_left (by rw [hf]; omega)]; simp
    | succ i =>
      rw [List.getElem?_append_right (by rw [hf, Nat.mul_succ]; omega)]
      have := ih i (by simpa using h)
      rw [hf, show k * (i + 1) + j - k = k * i + j from by rw [Nat.mul_succ]; omega]
      simpa using this
theorem acells_length (xs : List Ak) : (acells xs).length = xs.length * 6 := flat_length (f := Ak.cells) (fun _ => rfl) xs
theorem rcells_length (xs : List Ak) : (rcells xs).length = xs.length * 6 := flat_length (f := Ak.rcells) (fun _ => rfl) xs
theorem acells_cell {w W : World} {b off : Nat} {xs : List Ak} (hcell : ∀ j u, (acells xs)[j]? = some u → w.cell? ⟨b, off + j, none⟩ = some u) (hW : ∀ o, W.cell? ⟨b, o, none⟩ = w.cell? ⟨b, o, none⟩) (i : Nat) (h : i < xs.length) :
    W.cell? ⟨b, off + i * 6, none⟩ = some (.slice xs[i].A xs[i].n xs[i].c) ∧ W.cell? ⟨b, off + i * 6 + 1, none⟩ = some (.int .i64 xs[i].s) ∧ W.cell? ⟨b, off + i * 6 + 2, none⟩ = some (.int .i64 xs[i].since) ∧
      W.cell? ⟨b, off + i * 6 + 3, none⟩ = some (.int .i64 xs[i].wait) ∧ W.cell? ⟨b, off + i * 6 + 4, none⟩ = some (.bool xs[i].first) ∧ W.cell? ⟨b, off + i * 6 + 5, none⟩ = some (.bool xs[i].held) := by
  have hca : ∀ j v, j < 6 → (xs[i].cells)[j]? = some v → W.cell? ⟨b, off + (6 * i + j), none⟩ = some v := fun j v hj hv => (hW _).trans (hcell (6 * i + j) v ((flat_at (f := Ak.cells) (fun _ => rfl) xs i h j hj).trans hv))
  have c0 := hca 0 _ (by omega) rfl
  have c1 := hca 1 _ (by omega) rfl
  have c2 := hca 2 _ (by omega) rfl
  have c3 := hca 3 _ (by omega) rfl
  have c4 := hca 4 _ (by omega) rfl
  have c5 := hca 5 _ (by omega) rfl
  rw [Nat.add_zero] at c0
  simp only [← Nat.add_assoc, Nat.mul_comm 6 i] at c0 c1 c2 c3 c4 c5
  exact ⟨c0, c1, c2, c3, c4, c5⟩
theorem rcells_cell {w W : World} {b off : Nat} {xs : List Ak} (hcell : ∀ j u, (rcells xs)[j]? = some u → w.cell? ⟨b, off + j, none⟩ = some u) (hW : ∀ o, W.cell? ⟨b, o, none⟩ = w.cell? ⟨b, o, none⟩) (i : Nat) (h : i < xs.length) :
    W.cell? ⟨b, off + i * 6, none⟩ = some (.int .i64 xs[i].s) ∧ W.cell? ⟨b, off + i * 6 + 1, none⟩ = some (.int .i64 xs[i].since) ∧ W.cell? ⟨b, off + i * 6 + 2, none⟩ = some (.int .i64 xs[i].wait) ∧
      W.cell? ⟨b, off + i * 6 + 3, none⟩ = some (.bool xs[i].first) ∧ W.cell? ⟨b, off + i * 6 + 4, none⟩ = some (.bool xs[i].held) ∧ W.cell? ⟨b, off + i * 6 + 5, none⟩ = some (.slice xs[i].A xs[i].n xs[i].c) := by
  have hca : ∀ j v, j < 6 → (xs[i].rcells)[j]? = some v → W.cell? ⟨b, off + (6 * i + j), none⟩ = some v := fun j v hj hv => (hW _).trans (hcell (6 * i + j) v ((flat_at (f := Ak.rcells) (fun _ => rfl) xs i h j hj).trans hv))
  have c0 := hca 0 _ (by omega) rfl
  have c1 := hca 1 _ (by omega) rfl
  have c2 := hca 2 _ (by omega) rfl
  have c3 := hca 3 _ (by omega) rfl
  have c4 := hca 4 _ (by omega) rfl
  have c5 := hca 5 _ (by omega) rfl
  rw [Nat.add_zero] at c0
  simp only [← Nat.add_assoc, Nat.mul_comm 6 i] at c0 c1 c2 c3 c4 c5
  exact ⟨c0, c1, c2, c3, c4, c5⟩
theorem one_flat {α : Type} {f : α → List Value} (hf : ∀ x, ∀ u ∈ f x, u.oneCell' = true) (l : List α) : ∀ u ∈ l.flatMap f, u.oneCell' = true := by
  intro u hu
  obtain ⟨x, _, hx⟩ := List.mem_flatMap.1 hu
  exact hf x u hx
theorem acells_one (l : List Ak) : ∀ u ∈ acells l, u.oneCell' = true := one_flat (fun x u hu => by
  simp [Ak.cells] at hu
  rcases hu with rfl | rfl | rfl | rfl | rfl | rfl <;> rfl) l
theorem rcells_one (l : List Ak) : ∀ u ∈ rcells l, u.oneCell' = true := one_flat (fun x u hu => by
  simp [Ak.rcells] at hu
  rcases hu with rfl | rfl | rfl | rfl | rfl | rfl <;> rfl) l
theorem wcells_one (l : List Wt) : ∀ u ∈ wcells l, u.oneCell' = true := one_flat (fun x u hu => by
  simp [Wt.cells] at hu
  rcases hu with rfl | rfl <;> rfl) l

/-- The first place where p holds, or -1. -/
def idxL {α : Type} (p : α → Bool) : List α → Int
  | [] => -1
  | x :: r => if p x then 0 else if idxL p r = -1 then -1 else idxL p r + 1
theorem idxL_ge {α : Type} (p : α → Bool) : ∀ l : List α, -1 ≤ idxL p l
  | [] => by simp [idxL]
  | x :: r => by
    have := idxL_ge p r
    unfold idxL
    split
    · omega
    · split <;> omega
theorem idxL_none {α : Type} {p : α → Bool} : ∀ {l : List α}, (∀ x ∈ l, p x = false) → idxL p l = -1
  | [], _ => rfl
  | x :: r, h => by
    rw [idxL, h x (by simp), idxL_none (fun y hy => h y (by simp [hy]))]
    simp
theorem idxL_hit {α : Type} {p : α → Bool} : ∀ {l : List α} {i : Nat} (hi : i < l.length), (∀ x ∈ l.take i, p x = false) → p (l[i]'hi) = true → idxL p l = (i : Int)
  | [], i, hi, _, _ => by simp at hi
  | x :: r, 0, _, _, hq => by
    rw [idxL]
    simp at hq
    simp [hq]
  | x :: r, i + 1, hi, h0, hq => by
    have h := idxL_hit (p := p) (l := r) (i := i) (by simpa using hi) (fun y hy => h0 y (by simp [hy])) (by simpa using hq)
    rw [idxL, h0 x (by simp), h]
    simp
    try omega
theorem idxL_any {α : Type} (p : α → Bool) (l : List α) : decide (0 ≤ idxL p l) = l.any p := by
  induction l with
  | nil => rfl
  | cons x r ih =>
    have hg := idxL_ge p r
    rw [idxL, List.any_cons, ← ih]
    cases p x
    · simp only [Bool.false_eq_true, if_false, Bool.false_or]
      by_cases e : idxL p r = -1
      · rw [if_pos e, e]
      · rw [if_neg e]
        have e1 : (0 ≤ idxL p r + 1) = True := by simp; omega
        have e2 : (0 ≤ idxL p r) = True := by simp; omega
        simp [e1, e2]
    · simp

set_option maxRecDepth 100000 in
set_option maxHeartbeats 2000000 in
theorem IdxW_any (p : Wt → Bool) (g : Nat) (lb : Array Value) (eg : ∀ args w, (callFunc g args).run Tryd.prog w = .ok (.enter g args) w) (A : Option Addr) (n c : Nat) (xs : List Wt) (w : World) (hr : Rv w 2 A n c (wcells xs))
    (hp : ∀ W x, x ∈ xs → Below w.heap.size w W → Calls Tryd.prog g (#[.agg x.cells.toArray] ++ lb) W fun e w' => e = .returned (.bool (p x)) ∧ Below w.heap.size w w') :
    Calls Tryd.prog 76 #[.slice A n c, .func (.func g) #[] lb] w fun e w' => e = .returned (.int .i64 (idxL p xs)) ∧ Below w.heap.size w w' := by
    have hxn : xs.length = n := by
      have := hr.1
      rw [wcells_length] at this
      omega
    have hcap : c ≤ 9223372036854775807 := hr.2.2.1
    have hle := hr.2.1
    have hp := Lib.hid hp
    go_enter Tryd.func76, Tryd.ntmps76
    go_wp2
    go_loopw [8] (fun q wr => ∃ i : Nat, q = .int .i64 (i : Int) ∧ i ≤ n ∧ (∀ x ∈ xs.take i, p x = false) ∧ Below w.heap.size w wr)
      (fun q wr => n - (intOf q).toNat)
    case atStart => exact ⟨0, rfl, by omega, by simp, Below.refl _ _⟩
    case round =>
      obtain ⟨i, rfl, hi, h0, hbw⟩ := hrel
      by_cases hlt : i < n
      · obtain ⟨b1, o1, rfl, hb1, hc1⟩ := hr.2.2.2 (by omega)
        have e1 := wcells_cell hc1 (fun o => hbw.cell (p := ⟨b1, o, none⟩) hb1) i (by omega)
        have htk : xs.take (i + 1) = xs.take i ++ [xs[i]'(by omega)] := List.take_succ_eq_append_getElem (by omega)
        have hcall := hp.out wr (xs[i]'(by omega)) (List.getElem_mem _) hbw
        have hfix : ∀ x, x = xs[i]'(by omega) → p x = true → idxL p xs = (i : Int) := fun x hx hq => idxL_hit (by omega) h0 (by rw [← hx]; exact hq)
        have hlt1 : (i : Int) < (n : Int) := by omega
        have hlt2 : decide ((i : Int) < (n : Int)) = true := by simp; omega
        generalize hy : xs[i]'(by omega) = x at *
        replace hfix := Lib.hid (hfix x rfl)
        obtain ⟨x0,x1⟩ := x
        simp only [Wt.cells] at e1 hcall
        replace hcall := Lib.hid hcall
        replace htk := Lib.hid htk
        clear hy hc1
        go_wp2_with fail
        refine hcall.out.mono ?_
        rintro e w1 ⟨rfl, hb1'⟩
        clear hcall e1
        generalize hq : p _ = q at *
        cases q with
        | true =>
          have hN := hfix.out rfl
          clear hq hfix htk
          replace hN := Lib.hid hN
          go_wp2
          go_ret
          exact ⟨by rw [hN.out]; rfl, hb1'⟩
        | false =>
          have hN : ∀ x ∈ xs.take (i + 1), p x = false := by
            rw [htk.out]
            intro x hx
            rcases List.mem_append.1 hx with hx | hx
            · exact h0 x hx
            · rw [List.mem_singleton.1 hx]; exact hq
          clear hq hfix htk
          replace hN := Lib.hid hN
          go_wp2
          exact ⟨⟨i + 1, by simp, by omega, hN.out, hb1'⟩, by simp [intOf]; omega⟩
      · obtain rfl : i = n := by omega
        have hN : idxL p xs = -1 := idxL_none (by
          rw [List.take_of_length_le (by omega)] at h0
          exact h0)
        have hlt2 : decide ((i : Int) < (i : Int)) = false := by simp
        replace hN := Lib.hid hN
        go_wp2
        go_ret
        exact ⟨by rw [hN.out]; rfl, hbw⟩
set_option maxRecDepth 100000 in
set_option maxHeartbeats 2000000 in
theorem IdxA_any (p : Ak → Bool) (g : Nat) (lb : Array Value) (eg : ∀ args w, (callFunc g args).run Tryd.prog w = .ok (.enter g args) w) (A : Option Addr) (n c : Nat) (xs : List Ak) (w : World) (hr : Rv w 6 A n c (acells xs))
    (hp : ∀ W x, x ∈ xs → Below w.heap.size w W → Calls Tryd.prog g (#[.agg x.cells.toArray] ++ lb) W fun e w' => e = .returned (.bool (p x)) ∧ Below w.heap.size w w') :
    Calls Tryd.prog 57 #[.slice A n c, .func (.func g) #[] lb] w fun e w' => e = .returned (.int .i64 (idxL p xs)) ∧ Below w.heap.size w w' := by
    have hxn : xs.length = n := by
      have := hr.1
      rw [acells_length] at this
      omega
    have hcap : c ≤ 9223372036854775807 := hr.2.2.1
    have hle := hr.2.1
    have hp := Lib.hid hp
    go_enter Tryd.func57, Tryd.ntmps57
    go_wp2
    go_loopw [8] (fun q wr => ∃ i : Nat, q = .int .i64 (i : Int) ∧ i ≤ n ∧ (∀ x ∈ xs.take i, p x = false) ∧ Below w.heap.size w wr)
      (fun q wr => n - (intOf q).toNat)
    case atStart => exact ⟨0, rfl, by omega, by simp, Below.refl _ _⟩
    case round =>
      obtain ⟨i, rfl, hi, h0, hbw⟩ := hrel
      by_cases hlt : i < n
      · obtain ⟨b1, o1, rfl, hb1, hc1⟩ := hr.2.2.2 (by omega)
        have e1 := acells_cell hc1 (fun o => hbw.cell (p := ⟨b1, o, none⟩) hb1) i (by omega)
        have htk : xs.take (i + 1) = xs.take i ++ [xs[i]'(by omega)] := List.take_succ_eq_append_getElem (by omega)
        have hcall := hp.out wr (xs[i]'(by omega)) (List.getElem_mem _) hbw
        have hfix : ∀ x, x = xs[i]'(by omega) → p x = true → idxL p xs = (i : Int) := fun x hx hq => idxL_hit (by omega) h0 (by rw [← hx]; exact hq)
        have hlt1 : (i : Int) < (n : Int) := by omega
        have hlt2 : decide ((i : Int) < (n : Int)) = true := by simp; omega
        generalize hy : xs[i]'(by omega) = x at *
        replace hfix := Lib.hid (hfix x rfl)
        obtain ⟨x0,x1,x2,x3,x4,x5,x6,x7,x8⟩ := x
        simp only [Ak.cells] at e1 hcall
        replace hcall := Lib.hid hcall
        replace htk := Lib.hid htk
        clear hy hc1
        go_wp2_with fail
        refine hcall.out.mono ?_
        rintro e w1 ⟨rfl, hb1'⟩
        clear hcall e1
        generalize hq : p _ = q at *
        cases q with
        | true =>
          have hN := hfix.out rfl
          clear hq hfix htk
          replace hN := Lib.hid hN
          go_wp2
          go_ret
          exact ⟨by rw [hN.out]; rfl, hb1'⟩
        | false =>
          have hN : ∀ x ∈ xs.take (i + 1), p x = false := by
            rw [htk.out]
            intro x hx
            rcases List.mem_append.1 hx with hx | hx
            · exact h0 x hx
            · rw [List.mem_singleton.1 hx]; exact hq
          clear hq hfix htk
          replace hN := Lib.hid hN
          go_wp2
          exact ⟨⟨i + 1, by simp, by omega, hN.out, hb1'⟩, by simp [intOf]; omega⟩
      · obtain rfl : i = n := by omega
        have hN : idxL p xs = -1 := idxL_none (by
          rw [List.take_of_length_le (by omega)] at h0
          exact h0)
        have hlt2 : decide ((i : Int) < (i : Int)) = false := by simp
        replace hN := Lib.hid hN
        go_wp2
        go_ret
        exact ⟨by rw [hN.out]; rfl, hbw⟩
theorem idxL_cases {α : Type} (p : α → Bool) : ∀ l : List α, (idxL p l = -1 ∧ l.find? p = none) ∨ ∃ (i : Nat) (h : i < l.length), idxL p l = (i : Int) ∧ l.find? p = some l[i] ∧ l.any p = true ∧ p l[i] = true
  | [] => .inl ⟨rfl, rfl⟩
  | x :: r => by
    cases hq : p x with
    | true => exact .inr ⟨0, by simp, by simp [idxL, hq], by simp [hq], by simp [hq], by simpa using hq⟩
    | false =>
      rcases idxL_cases p r with ⟨h1, h2⟩ | ⟨i, h, h1, h2, h3, h4⟩
      · exact .inl ⟨by simp [idxL, hq, h1], by simp [hq, h2]⟩
      · exact .inr ⟨i + 1, by simpa using h, by simp [idxL, hq, h1], by simp [hq, h2], by simp [hq]; simpa using h3, by simpa using h4⟩
set_option maxRecDepth 100000 in
theorem ContW_any (p : Wt → Bool) (g : Nat) (lb : Array Value) (eg : ∀ args w, (callFunc g args).run Tryd.prog w = .ok (.enter g args) w) (A : Option Addr) (n c : Nat) (xs : List Wt) (w : World) (hr : Rv w 2 A n c (wcells xs))
    (hp : ∀ W x, x ∈ xs → Below w.heap.size w W → Calls Tryd.prog g (#[.agg x.cells.toArray] ++ lb) W fun e w' => e = .returned (.bool (p x)) ∧ Below w.heap.size w w') :
    Calls Tryd.prog 64 #[.slice A n c, .func (.func g) #[] lb] w fun e w' => e = .returned (.bool (xs.any p)) ∧ Below w.heap.size w w' := by
  have h := Lib.hid (IdxW_any p g lb eg A n c xs w hr hp)
  rw [← idxL_any]
  clear hp hr
  go_enter Tryd.func64, Tryd.ntmps64
  go_wp2_with fail
  refine h.out.mono ?_
  rintro e w1 ⟨rfl, hb⟩
  clear h
  go_wp2
  go_ret
  exact ⟨rfl, hb⟩
set_option maxRecDepth 100000 in
theorem ContA_any (p : Ak → Bool) (g : Nat) (lb : Array Value) (eg : ∀ args w, (callFunc g args).run Tryd.prog w = .ok (.enter g args) w) (A : Option Addr) (n c : Nat) (xs : List Ak) (w : World) (hr : Rv w 6 A n c (acells xs))
    (hp : ∀ W x, x ∈ xs → Below w.heap.size w W → Calls Tryd.prog g (#[.agg x.cells.toArray] ++ lb) W fun e w' => e = .returned (.bool (p x)) ∧ Below w.heap.size w w') :
    Calls Tryd.prog 54 #[.slice A n c, .func (.func g) #[] lb] w fun e w' => e = .returned (.bool (xs.any p)) ∧ Below w.heap.size w w' := by
  have h := Lib.hid (IdxA_any p g lb eg A n c xs w hr hp)
  rw [← idxL_any]
  clear hp hr
  go_enter Tryd.func54, Tryd.ntmps54
  go_wp2_with fail
  refine h.out.mono ?_
  rintro e w1 ⟨rfl, hb⟩
  clear h
  go_wp2
  go_ret
  exact ⟨rfl, hb⟩

/-! ### Clone -/
def zeroA : Value := .agg #[.slice none 0 0, .int .i64 0, .int .i64 0, .int .i64 0, .bool false, .bool false]
def zeroW : Value := .agg #[.string ByteArray.empty, .bool false]
theorem info_A : (Tryd.prog.info? 74).map (fun i => (i.zero, i.size, i.bytes)) = some (some zeroA, 6, 56) := by kernel_rfl
theorem info_W : (Tryd.prog.info? 64).map (fun i => (i.zero, i.size, i.bytes)) = some (some zeroW, 2, 24) := by kernel_rfl
theorem Rv.none0 {w : World} {k n c : Nat} {xs : List Value} (h : Rv w k none n c xs) : n = 0 := by
  rcases Nat.eq_zero_or_pos n with h0 | h0
  · exact h0
  · obtain ⟨b, off, hA, _⟩ := h.2.2.2 h0
    cases hA
set_option maxRecDepth 100000 in
theorem CloneA_any (A : Option Addr) (n c : Nat) (xs : List Ak) (w : World) (hr : Rv w 6 A n c (acells xs)) (hn : n ≤ 100000) :
    Calls Tryd.prog 28 #[.slice A n c] w fun e w' => ∃ A' c', e = .returned (.slice A' n c') ∧ Ov w' w.heap.size 74 6 A' n c' (acells xs) ∧ Below w.heap.size w w' := by
  obtain ⟨iS, hiS, hzS, hsS, hbS⟩ := info_parts info_A
  have hxl := acells_length xs
  have hxn := hr.1
  cases A with
  | none =>
    obtain rfl := hr.none0
    have hx : xs = [] := List.eq_nil_of_length_eq_zero (by omega)
    subst hx
    have hq : ∀ (w : World) (a : Option Addr) (n c n' c' : Nat), (binOp .eql 67 (.slice a n c) (.slice none n' c')).run Tryd.prog w = .ok (.bool a.isNone) w := fun w a n c n' c' => Lib.run_eql_slice_nil w _ _ a n c n' c' Tryd.underlying67
    go_enter Tryd.func28, Tryd.ntmps28
    go_wp2
    go_ret
    exact ⟨none, 0, rfl, Ov.nil _ _ _ _, Below.refl _ _⟩
  | some ad =>
    have hb0 : Below w.heap.size w (w.alloc (.cells #[] 74)) := (Below.refl _ w).alloc (Nat.le_refl _) _
    have hO : Ov (w.alloc (.cells #[] 74)) w.heap.size 74 6 (some ⟨w.heap.size, 0, none⟩) 0 0 [] := by
      have h := World.ownsRow_lit (base := w.heap.size) (e := 74) (size := 6) w #[] 0 (Nat.le_refl _) (by simp [maxLen]) (by simp)
      simpa [Ov] using h
    have hr1 := hr.below hb0
    have h1 := acells_one xs
    have hcap : c ≤ 9223372036854775807 := hr.2.2.1
    have hq : ∀ (w : World) (a : Option Addr) (n c n' c' : Nat), (binOp .eql 67 (.slice a n c) (.slice none n' c')).run Tryd.prog w = .ok (.bool a.isNone) w := fun w a n c n' c' => Lib.run_eql_slice_nil w _ _ a n c n' c' Tryd.underlying67
    go_enter Tryd.func28, Tryd.ntmps28
    go_wp2_with (at_builtin; refine wpList_append_v _ rfl _ _ 67 rfl 74 iS zeroA 6 56 Tryd.underlying67 hiS hzS hsS hbS rfl (by decide) w.heap.size _ 0 0 _ rfl hO (some ad) n c (acells xs) rfl hr1 h1 (by unfold maxLen; omega) (by omega) (by simp) ?_; intro A' c' w2 hO2 hg2 hab2)
    go_ret
    exact ⟨A', c', by simp, by simpa using hO2, hb0.grown hg2 (by simp) (fun k e => by cases e; exact Nat.le_refl _)⟩
set_option maxRecDepth 100000 in
theorem CloneW_any (A : Option Addr) (n c : Nat) (xs : List Wt) (w : World) (hr : Rv w 2 A n c (wcells xs)) (hn : n ≤ 100000) :
    Calls Tryd.prog 31 #[.slice A n c] w fun e w' => ∃ A' c', e = .returned (.slice A' n c') ∧ Ov w' w.heap.size 64 2 A' n c' (wcells xs) ∧ Below w.heap.size w w' := by
  obtain ⟨iS, hiS, hzS, hsS, hbS⟩ := info_parts info_W
  have hxl := wcells_length xs
  have hxn := hr.1
  cases A with
  | none =>
    obtain rfl := hr.none0
    have hx : xs = [] := List.eq_nil_of_length_eq_zero (by omega)
    subst hx
    have hq : ∀ (w : World) (a : Option Addr) (n c n' c' : Nat), (binOp .eql 29 (.slice a n c) (.slice none n' c')).run Tryd.prog w = .ok (.bool a.isNone) w := fun w a n c n' c' => Lib.run_eql_slice_nil w _ _ a n c n' c' Tryd.underlying29
    go_enter Tryd.func31, Tryd.ntmps31
    go_wp2
    go_ret
    exact ⟨none, 0, rfl, Ov.nil _ _ _ _, Below.refl _ _⟩
  | some ad =>
    have hb0 : Below w.heap.size w (w.alloc (.cells #[] 64)) := (Below.refl _ w).alloc (Nat.le_refl _) _
    have hO : Ov (w.alloc (.cells #[] 64)) w.heap.size 64 2 (some ⟨w.heap.size, 0, none⟩) 0 0 [] := by
      have h := World.ownsRow_lit (base := w.heap.size) (e := 64) (size := 2) w #[] 0 (Nat.le_refl _) (by simp [maxLen]) (by simp)
      simpa [Ov] using h
    have hr1 := hr.below hb0
    have h1 := wcells_one xs
    have hcap : c ≤ 9223372036854775807 := hr.2.2.1
    have hq : ∀ (w : World) (a : Option Addr) (n c n' c' : Nat), (binOp .eql 29 (.slice a n c) (.slice none n' c')).run Tryd.prog w = .ok (.bool a.isNone) w := fun w a n c n' c' => Lib.run_eql_slice_nil w _ _ a n c n' c' Tryd.underlying29
    go_enter Tryd.func31, Tryd.ntmps31
    go_wp2_with (at_builtin; refine wpList_append_v _ rfl _ _ 29 rfl 64 iS zeroW 2 24 Tryd.underlying29 hiS hzS hsS hbS rfl (by decide) w.heap.size _ 0 0 _ rfl hO (some ad) n c (wcells xs) rfl hr1 h1 (by unfold maxLen; omega) (by omega) (by simp) ?_; intro A' c' w2 hO2 hg2 hab2)
    go_ret
    exact ⟨A', c', by simp, by simpa using hO2, hb0.grown hg2 (by simp) (fun k e => by cases e; exact Nat.le_refl _)⟩
end Go.Proofs.YtnjhhibjcfjhnaaDoor
