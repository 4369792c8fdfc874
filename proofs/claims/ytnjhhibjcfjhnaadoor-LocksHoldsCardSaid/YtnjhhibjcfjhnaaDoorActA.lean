/- Acts: what a call is; few. -/
import Derived.Test.YtnjhhibjcfjhnaaDoorLbQ
namespace Go.Proofs.YtnjhhibjcfjhnaaDoor
open Go.RowKit
set_option linter.unusedVariables false

/-- A call, and where its wants lie. -/
structure Ac where
  what : Int
  s : Int
  wait : Int
  first : Bool
  W : List Wt
  A : Option Addr
  n : Nat
  c : Nat
def Ac.cells (x : Ac) : List Value := [.int .i64 x.what, .int .i64 x.s, .int .i64 x.wait, .bool x.first, .slice x.A x.n x.c]
def ccells (l : List Ac) : List Value := l.flatMap Ac.cells
theorem ccells_length (xs : List Ac) : (ccells xs).length = xs.length * 5 := by
  induction xs with
  | nil => rfl
  | cons x xs ih =>
    unfold ccells at *
    rw [List.flatMap_cons, List.length_append, ih]
    simp [Ac.cells]
    omega
theorem ccells_at (xs : List Ac) (i : Nat) (h : i < xs.length) (j : Nat) (hj : j < 5) : (ccells xs)[i * 5 + j]? = (xs[i].cells)[j]? := by
  induction xs generalizing i with
  | nil => simp at h
  | cons x xs ih =>
    unfold ccells at *
    rw [List.flatMap_cons]
    cases i with
    | zero =>
      rw [List.getElem?_append_left (by simp [Ac.cells]; omega)]
      simp
    | succ i =>
      rw [List.getElem?_append_right (by simp [Ac.cells]; omega)]
      have := ih i (by simpa using h)
      simp only [Ac.cells, List.length_cons, List.length_nil] at *
      rw [show (i + 1) * 5 + j - (0 + 1 + 1 + 1 + 1 + 1) = i * 5 + j from by omega]
      simpa using this
theorem ccells_cell {w W : World} {b off : Nat} {xs : List Ac} (hcell : ∀ j u, (ccells xs)[j]? = some u → w.cell? ⟨b, off + j, none⟩ = some u) (hW : ∀ o, W.cell? ⟨b, o, none⟩ = w.cell? ⟨b, o, none⟩) (i : Nat) (h : i < xs.length) :
    W.cell? ⟨b, off + i * 5, none⟩ = some (.int .i64 xs[i].what) ∧ W.cell? ⟨b, off + i * 5 + 1, none⟩ = some (.int .i64 xs[i].s) ∧ W.cell? ⟨b, off + i * 5 + 2, none⟩ = some (.int .i64 xs[i].wait) ∧
      W.cell? ⟨b, off + i * 5 + 3, none⟩ = some (.bool xs[i].first) ∧ W.cell? ⟨b, off + i * 5 + 4, none⟩ = some (.slice xs[i].A xs[i].n xs[i].c) := by
  have key : ∀ j (hj : j < 5) u, (xs[i].cells)[j]? = some u → W.cell? ⟨b, off + i * 5 + j, none⟩ = some u := fun j hj u hu => by
    rw [hW, Nat.add_assoc]
    exact hcell _ _ (by rw [ccells_at xs i h j hj]; exact hu)
  exact ⟨key 0 (by omega) _ rfl, key 1 (by omega) _ rfl, key 2 (by omega) _ rfl, key 3 (by omega) _ rfl, key 4 (by omega) _ rfl⟩

/-- Acts as an argument lays them. -/
structure Cv (w : World) (A : Option Addr) (n c : Nat) (xs : List Ac) : Prop where
  rv : Rv w 5 A n c (ccells xs)
  tabs : ∀ x ∈ xs, Rv w 2 x.A x.n x.c (wcells x.W)
theorem Cv.len {w : World} {A : Option Addr} {n c : Nat} {xs : List Ac} (h : Cv w A n c xs) : xs.length = n := by
  have := h.rv.1
  rw [ccells_length] at this
  omega
theorem Cv.below {w w' : World} {A : Option Addr} {n c : Nat} {xs : List Ac} (h : Cv w A n c xs) (hb : Below w.heap.size w w') : Cv w' A n c xs := ⟨h.rv.below hb, fun x hx => (h.tabs x hx).below hb⟩

set_option maxRecDepth 100000 in
set_option maxHeartbeats 4000000 in
theorem Few_any (A : Option Addr) (n c : Nat) (xs : List Ac) (many : Int) (w : World) (h : Cv w A n c xs) (hm : many < 1000) :
    Calls Tryd.prog 7 #[.slice A n c, .int .i64 many] w fun e w' => (e = .returned (.bool false) ∧ w = w') ∨ (e = .returned (.bool true) ∧ w = w' ∧ (xs.length : Int) ≤ many ∧ ∀ x ∈ xs, x.W.length ≤ 12) := by
  have hxn := h.len
  have hr := h.rv
  have hcap : c ≤ 9223372036854775807 := hr.2.2.1
  have hle := hr.2.1
  have ht := Lib.hid h.tabs
  clear h
  go_enter Tryd.func7, Tryd.ntmps7
  go_wp2
  go_loopw [5] (fun q wr => ∃ i : Nat, q = .int .i64 (i : Int) ∧ i ≤ n ∧ (i : Int) ≤ max (many + 1) 0 ∧ (∀ x ∈ xs.take i, x.W.length ≤ 12) ∧ w = wr)
    (fun q wr => n - (intOf q).toNat)
  case atStart => exact ⟨0, rfl, by omega, by omega, by simp, rfl⟩
  case round =>
    obtain ⟨i, rfl, hi, him, h0, rfl⟩ := hrel
    by_cases hlt : i < n
    · have hlt1 : (i : Int) < (n : Int) := by omega
      have hlt2 : decide ((i : Int) < (n : Int)) = true := by simp; omega
      by_cases hmy : (i : Int) ≤ many
      · have hm2 : decide ((i : Int) ≤ many) = true := decide_eq_true hmy
        obtain ⟨b1, o1, rfl, hb1, hc1⟩ := hr.2.2.2 (by omega)
        have e1 := (ccells_cell hc1 (fun o => rfl) i (by omega)).2.2.2.2
        have htk : xs.take (i + 1) = xs.take i ++ [xs[i]'(by omega)] := List.take_succ_eq_append_getElem (by omega)
        have hw := ht.out (xs[i]'(by omega)) (List.getElem_mem _)
        generalize xs[i]'(by omega) = x at *
        obtain ⟨x0, x1, x2, x3, x5, x6, x7, x8⟩ := x
        simp only at e1 hw
        have hwl : x5.length = x7 := by have := hw.1; rw [wcells_length] at this; omega
        have hwc : x8 ≤ 9223372036854775807 := hw.2.2.1
        have hwle := hw.2.1
        clear hc1
        by_cases h12 : x7 ≤ 12
        · have d12 : decide (12 < (x7 : Int)) = false := by simp; omega
          have hN : ∀ x ∈ xs.take (i + 1), x.W.length ≤ 12 := by
            rw [htk]
            intro x hx
            rcases List.mem_append.1 hx with hx | hx
            · exact h0 x hx
            · rw [List.mem_singleton.1 hx]; simp only; omega
          replace hN := Lib.hid hN
          clear htk
          obtain ⟨wo, hwo⟩ : ∃ wo, wo = w := ⟨_, rfl⟩
          subst hwo
          go_wp2
          go_loopw [6] (fun p wr => ∃ k : Nat, p = .int .i64 (k : Int) ∧ k ≤ x7 ∧ wo = wr)
            (fun p wr => x7 - (intOf p).toNat)
          case atStart => exact ⟨0, rfl, by omega, rfl⟩
          case round =>
            obtain ⟨k, rfl, hk, rfl⟩ := hrel
            by_cases hltk : k < x7
            · have hltk1 : (k : Int) < (x7 : Int) := by omega
              have hltk2 : decide ((k : Int) < (x7 : Int)) = true := by simp; omega
              obtain ⟨b2, o2, rfl, hb2, hc2⟩ := hw.2.2.2 (by omega)
              have e2 := wcells_cell hc2 (fun o => rfl) k (by omega)
              generalize x5[k]'(by omega) = y at *
              obtain ⟨y0, y1⟩ := y
              simp only at e2
              clear hc2
              have hsz : (strL y0).size = y0.length := strL_size y0
              by_cases h40 : y0.length ≤ 40
              · have d40 : decide (40 < (y0.length : Int)) = false := by simp; omega
                go_wp2
                exact ⟨⟨k + 1, by simp, by omega, trivial⟩, by simp [intOf]; omega⟩
              · have d40 : decide (40 < (y0.length : Int)) = true := by simp; omega
                go_wp2
                go_ret
                exact .inl ⟨rfl, rfl⟩
            · obtain rfl : k = x7 := by omega
              have hltk2 : decide ((k : Int) < (k : Int)) = false := by simp
              go_wp2
              exact ⟨⟨i + 1, by simp, by omega, by omega, hN.out, trivial⟩, by simp [intOf]; omega⟩
        · have d12 : decide (12 < (x7 : Int)) = true := by simp; omega
          go_wp2
          go_ret
          exact .inl ⟨rfl, rfl⟩
      · have hm2 : decide ((i : Int) ≤ many) = false := decide_eq_false hmy
        have hm3 : decide ((n : Int) ≤ many) = false := by simp; omega
        go_wp2
        go_ret
        exact .inl ⟨rfl, rfl⟩
    · obtain rfl : i = n := by omega
      have hlt2 : decide ((i : Int) < (i : Int)) = false := by simp
      have hN : ∀ x ∈ xs, x.W.length ≤ 12 := by
        rw [List.take_of_length_le (by omega)] at h0
        exact h0
      replace hN := Lib.hid hN
      clear h0
      by_cases hmy : (i : Int) ≤ many
      · have hm3 : decide ((i : Int) ≤ many) = true := decide_eq_true hmy
        go_wp2
        go_ret
        exact .inr ⟨rfl, rfl, by omega, hN.out⟩
      · have hm3 : decide ((i : Int) ≤ many) = false := decide_eq_false hmy
        go_wp2
        go_ret
        exact .inl ⟨rfl, rfl⟩
end Go.Proofs.YtnjhhibjcfjhnaaDoor
