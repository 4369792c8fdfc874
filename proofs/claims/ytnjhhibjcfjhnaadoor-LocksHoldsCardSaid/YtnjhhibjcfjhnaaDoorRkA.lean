/- The reference's locks: Wants, Ints, At, ordered, against. -/
import Derived.Test.YtnjhhibjcfjhnaaDoorLkN
namespace Go.Proofs.YtnjhhibjcfjhnaaDoor
open Go.RowKit
set_option linter.unusedVariables false

set_option maxRecDepth 100000 in
set_option maxHeartbeats 4000000 in
theorem RWants_any (A : Option Addr) (n c : Nat) (xs : List Wt) (A2 : Option Addr) (m d : Nat) (ys : List Wt) (w : World) (hx : Rv w 2 A n c (wcells xs)) (hy : Rv w 2 A2 m d (wcells ys)) :
    Calls Tryd.prog 44 #[.slice A n c, .slice A2 m d] w fun e w' => e = .returned (.bool (decide (xs = ys))) ∧ Below w.heap.size w w' := by
  have hxn : xs.length = n := by have := hx.1; rw [wcells_length] at this; omega
  have hyn : ys.length = m := by have := hy.1; rw [wcells_length] at this; omega
  have hcx : c ≤ 9223372036854775807 := hx.2.2.1
  have hcy : d ≤ 9223372036854775807 := hy.2.2.1
  have hlx := hx.2.1
  have hly := hy.2.1
  by_cases hnm : n = m
  · subst hnm
    have hne : ((n : Int) != (n : Int)) = false := by simp
    go_enter Tryd.func44, Tryd.ntmps44
    go_wp2
    go_loopw [5] (fun q wr => ∃ i : Nat, q = .int .i64 (i : Int) ∧ i ≤ n ∧ xs.take i = ys.take i ∧ Below w.heap.size w wr)
      (fun q wr => n - (intOf q).toNat)
    case atStart => exact ⟨0, rfl, by omega, by simp, Below.refl _ _⟩
    case round =>
      clear hne
      obtain ⟨i, rfl, hi, he, hbw⟩ := hrel
      by_cases hlt : i < n
      · obtain ⟨b1, o1, rfl, hb1, hc1⟩ := hx.2.2.2 (by omega)
        obtain ⟨b2, o2, rfl, hb2, hc2⟩ := hy.2.2.2 (by omega)
        have e1 := wcells_cell hc1 (fun o => hbw.cell (p := ⟨b1, o, none⟩) hb1) i (by omega)
        have e2 := wcells_cell hc2 (fun o => hbw.cell (p := ⟨b2, o, none⟩) hb2) i (by omega)
        have t1 : xs.take (i + 1) = xs.take i ++ [xs[i]'(by omega)] := List.take_succ_eq_append_getElem (by omega)
        have t2 : ys.take (i + 1) = ys.take i ++ [ys[i]'(by omega)] := List.take_succ_eq_append_getElem (by omega)
        have hno : xs[i]'(by omega) ≠ ys[i]'(by omega) → xs ≠ ys := fun h e => h (by subst e; rfl)
        have hlt1 : (i : Int) < (n : Int) := by omega
        have hlt2 : decide ((i : Int) < (n : Int)) = true := by simp; omega
        generalize xs[i]'(by omega) = x at *
        generalize ys[i]'(by omega) = y at *
        (obtain ⟨x0, x1⟩ := x); (obtain ⟨y0, y1⟩ := y); simp only at e1 e2
        have hq := fun w => neq_W x0 y0 x1 y1 w
        obtain ⟨q, hqq⟩ : ∃ q, decide (Wt.mk x0 x1 = Wt.mk y0 y1) = q := ⟨_, rfl⟩
        rw [hqq] at hq
        replace hqq := Lib.hid hqq
        have hdr : Below w.heap.size w wr.drew := hbw.drew
        clear hc1 hc2
        go_wp2_with fail
        refine wp_region_noPanic ?_
        refine wp_region_held_drew (S := (fun w' => (w'.cell? ⟨b1, o1 + i * 2, none⟩ = some (.string (strL x0)) ∧ w'.cell? ⟨b1, o1 + i * 2 + 1, none⟩ = some (.bool x1)) ∧ w'.cell? ⟨b2, o2 + i * 2, none⟩ = some (.string (strL y0)) ∧ w'.cell? ⟨b2, o2 + i * 2 + 1, none⟩ = some (.bool y1))) (by kernel_rfl) ⟨e1, e2⟩ (fun hHeld => ?_)
        refine wpAnyH_takeL (i := 0) (v := ?vhy1) rfl (by kernel_rfl) (by kernel_rfl) (by kernel_rfl) (fun _ _ _ h => h) (Or.inl ⟨by rfl, ?hy1⟩) (by assumption) ?rhy1
        case hy1 => ((intro w hSw; (try dsimp only at hSw); go_simp); try with_reducible rfl)
        try simp only [Act.put, List.setIfInBounds_toArray, List.set_cons_zero, List.set_cons_succ]
        refine wpAnyH_takeL (i := 1) (v := ?vhy2) rfl (by kernel_rfl) (by kernel_rfl) (by kernel_rfl) (fun _ _ _ h => h) (Or.inl ⟨by rfl, ?hy2⟩) (by assumption) ?rhy2
        case hy2 => ((intro w hSw; (try dsimp only at hSw); go_simp); try with_reducible rfl)
        try simp only [Act.put, List.setIfInBounds_toArray, List.set_cons_zero, List.set_cons_succ]
        refine wpAnyH_takeL (i := 2) (v := ?vhy3) rfl (by kernel_rfl) (by kernel_rfl) (by kernel_rfl) (fun _ _ _ h => h) (Or.inl ⟨by rfl, ?hy3⟩) (by assumption) ?rhy3
        case hy3 => ((intro w hSw; (try dsimp only at hSw); go_simp); try with_reducible rfl)
        try simp only [Act.put, List.setIfInBounds_toArray, List.set_cons_zero, List.set_cons_succ]
        refine wpAnyH_takeL (i := 3) (v := ?vhy4) rfl (by kernel_rfl) (by kernel_rfl) (by kernel_rfl) (fun _ _ _ h => h) (Or.inl ⟨by rfl, ?hy4⟩) (by assumption) ?rhy4
        case hy4 => ((intro w hSw; (try dsimp only at hSw); go_simp); try with_reducible rfl)
        try simp only [Act.put, List.setIfInBounds_toArray, List.set_cons_zero, List.set_cons_succ]
        refine wpAnyH_takeL (i := 4) (v := ?vhy5) rfl (by kernel_rfl) (by kernel_rfl) (by kernel_rfl) (fun _ _ _ h => h) (Or.inl ⟨by rfl, ?hy5⟩) (by assumption) ?rhy5
        case hy5 => ((intro w hSw; (try dsimp only at hSw); go_simp); try with_reducible rfl)
        try simp only [Act.put, List.setIfInBounds_toArray, List.set_cons_zero, List.set_cons_succ]
        refine wpAnyH_takeL (i := 5) (v := ?vhy6) rfl (by kernel_rfl) (by kernel_rfl) (by kernel_rfl) (fun _ _ _ h => h) (Or.inl ⟨by rfl, ?hy6⟩) (by assumption) ?rhy6
        case hy6 => ((intro w hSw; (try dsimp only at hSw); go_simp); try with_reducible rfl)
        try simp only [Act.put, List.setIfInBounds_toArray, List.set_cons_zero, List.set_cons_succ]
        refine wpAnyH_takeL (i := 6) (v := ?vhy7) rfl (by kernel_rfl) (by kernel_rfl) (by kernel_rfl) (fun _ _ _ h => h) (Or.inl ⟨by rfl, ?hy7⟩) (by assumption) ?rhy7
        case hy7 => ((intro w hSw; (try dsimp only at hSw); go_simp); try with_reducible rfl)
        try simp only [Act.put, List.setIfInBounds_toArray, List.set_cons_zero, List.set_cons_succ]
        refine wpAnyH_takeL (i := 7) (v := ?vhy8) rfl (by kernel_rfl) (by kernel_rfl) (by kernel_rfl) (fun _ _ _ h => h) (Or.inl ⟨by rfl, ?hy8⟩) (by assumption) ?rhy8
        case hy8 => ((intro w hSw; (try dsimp only at hSw); go_simp); try with_reducible rfl)
        try simp only [Act.put, List.setIfInBounds_toArray, List.set_cons_zero, List.set_cons_succ]
        refine wpAnyH_takeL (i := 8) (v := ?vhy9) rfl (by kernel_rfl) (by kernel_rfl) (by kernel_rfl) (fun _ _ _ h => h) (Or.inl ⟨by rfl, ?hy9⟩) (by assumption) ?rhy9
        case hy9 => ((intro w hSw; (try dsimp only at hSw); go_simp); try with_reducible rfl)
        try simp only [Act.put, List.setIfInBounds_toArray, List.set_cons_zero, List.set_cons_succ]
        refine wpAnyH_done (by kernel_rfl) ?_ _
        refine NoPanic.normal ?_
        clear hHeld hq
        cases q with
        | true =>
          have hxy := of_decide_eq_true hqq.out
          have hN : xs.take (i + 1) = ys.take (i + 1) := by rw [t1, t2, he, hxy]
          replace hN := Lib.hid hN
          clear hxy hno t1 t2 hqq
          go_wp2
          exact ⟨⟨i + 1, by simp, by omega, hN.out, hdr⟩, by simp [intOf]; omega⟩
        | false =>
          have hxy := of_decide_eq_false hqq.out
          have hN : decide (xs = ys) = false := decide_eq_false (hno hxy)
          replace hN := Lib.hid hN
          clear hxy hno t1 t2 hqq
          go_wp2
          go_ret
          exact ⟨by rw [hN.out]; rfl, hdr⟩
      · obtain rfl : i = n := by omega
        have hN : decide (xs = ys) = true := decide_eq_true (by
          rw [List.take_of_length_le (by omega), List.take_of_length_le (by omega)] at he
          exact he)
        have hlt2 : decide ((i : Int) < (i : Int)) = false := by simp
        replace hN := Lib.hid hN
        go_wp2
        go_ret
        exact ⟨by rw [hN.out]; rfl, hbw⟩
  · have hne : ((n : Int) != (m : Int)) = true := by simp; omega
    have hN : decide (xs = ys) = false := decide_eq_false (fun e => hnm (by rw [← hxn, ← hyn, e]))
    replace hN := Lib.hid hN
    go_enter Tryd.func44, Tryd.ntmps44
    go_wp2
    go_ret
    exact ⟨by rw [hN.out]; rfl, Below.refl _ _⟩
theorem icells_length (l : List Int) : (icells l).length = l.length := by simp [icells]
theorem icells_cell {w W : World} {b off : Nat} {xs : List Int} (hcell : ∀ j u, (icells xs)[j]? = some u → w.cell? ⟨b, off + j, none⟩ = some u) (hW : ∀ o, W.cell? ⟨b, o, none⟩ = w.cell? ⟨b, o, none⟩) (i : Nat) (h : i < xs.length) : W.cell? ⟨b, off + i, none⟩ = some (.int .i64 xs[i]) :=
  (hW _).trans (hcell i _ (by simp [icells, h]))
theorem neq_Ib (a b : Int) : (a != b) = !(decide (a = b)) := by by_cases h : a = b <;> simp [h]
set_option maxRecDepth 100000 in
set_option maxHeartbeats 4000000 in
theorem RInts_any (A : Option Addr) (n c : Nat) (xs : List Int) (A2 : Option Addr) (m d : Nat) (ys : List Int) (w : World) (hx : Rv w 1 A n c (icells xs)) (hy : Rv w 1 A2 m d (icells ys)) :
    Calls Tryd.prog 27 #[.slice A n c, .slice A2 m d] w fun e w' => e = .returned (.bool (decide (xs = ys))) ∧ Below w.heap.size w w' := by
  have hxn : xs.length = n := by have := hx.1; rw [icells_length] at this; omega
  have hyn : ys.length = m := by have := hy.1; rw [icells_length] at this; omega
  have hcx : c ≤ 9223372036854775807 := hx.2.2.1
  have hcy : d ≤ 9223372036854775807 := hy.2.2.1
  have hlx := hx.2.1
  have hly := hy.2.1
  by_cases hnm : n = m
  · subst hnm
    have hne : ((n : Int) != (n : Int)) = false := by simp
    go_enter Tryd.func27, Tryd.ntmps27
    go_wp2
    go_loopw [5] (fun q wr => ∃ i : Nat, q = .int .i64 (i : Int) ∧ i ≤ n ∧ xs.take i = ys.take i ∧ Below w.heap.size w wr)
      (fun q wr => n - (intOf q).toNat)
    case atStart => exact ⟨0, rfl, by omega, by simp, Below.refl _ _⟩
    case round =>
      clear hne
      obtain ⟨i, rfl, hi, he, hbw⟩ := hrel
      by_cases hlt : i < n
      · obtain ⟨b1, o1, rfl, hb1, hc1⟩ := hx.2.2.2 (by omega)
        obtain ⟨b2, o2, rfl, hb2, hc2⟩ := hy.2.2.2 (by omega)
        have e1 := icells_cell hc1 (fun o => hbw.cell (p := ⟨b1, o, none⟩) hb1) i (by omega)
        have e2 := icells_cell hc2 (fun o => hbw.cell (p := ⟨b2, o, none⟩) hb2) i (by omega)
        have t1 : xs.take (i + 1) = xs.take i ++ [xs[i]'(by omega)] := List.take_succ_eq_append_getElem (by omega)
        have t2 : ys.take (i + 1) = ys.take i ++ [ys[i]'(by omega)] := List.take_succ_eq_append_getElem (by omega)
        have hno : xs[i]'(by omega) ≠ ys[i]'(by omega) → xs ≠ ys := fun h e => h (by subst e; rfl)
        have hlt1 : (i : Int) < (n : Int) := by omega
        have hlt2 : decide ((i : Int) < (n : Int)) = true := by simp; omega
        generalize xs[i]'(by omega) = x at *
        generalize ys[i]'(by omega) = y at *
        skip
        have hq := neq_Ib x y
        obtain ⟨q, hqq⟩ : ∃ q, decide (x = y) = q := ⟨_, rfl⟩
        rw [hqq] at hq
        replace hqq := Lib.hid hqq
        have hdr : Below w.heap.size w wr.drew := hbw.drew
        clear hc1 hc2
        go_wp2_with fail
        refine wp_region_noPanic ?_
        refine wp_region_held_drew (S := (fun w' => w'.cell? ⟨b1, o1 + i, none⟩ = some (.int .i64 x) ∧ w'.cell? ⟨b2, o2 + i, none⟩ = some (.int .i64 y))) (by kernel_rfl) ⟨e1, e2⟩ (fun hHeld => ?_)
        refine wpAnyH_takeL (i := 0) (v := ?vhy10) rfl (by kernel_rfl) (by kernel_rfl) (by kernel_rfl) (fun _ _ _ h => h) (Or.inl ⟨by rfl, ?hy10⟩) (by assumption) ?rhy10
        case hy10 => ((intro w hSw; (try dsimp only at hSw); go_simp); try with_reducible rfl)
        try simp only [Act.put, List.setIfInBounds_toArray, List.set_cons_zero, List.set_cons_succ]
        refine wpAnyH_takeL (i := 1) (v := ?vhy11) rfl (by kernel_rfl) (by kernel_rfl) (by kernel_rfl) (fun _ _ _ h => h) (Or.inl ⟨by rfl, ?hy11⟩) (by assumption) ?rhy11
        case hy11 => ((intro w hSw; (try dsimp only at hSw); go_simp); try with_reducible rfl)
        try simp only [Act.put, List.setIfInBounds_toArray, List.set_cons_zero, List.set_cons_succ]
        refine wpAnyH_takeL (i := 2) (v := ?vhy12) rfl (by kernel_rfl) (by kernel_rfl) (by kernel_rfl) (fun _ _ _ h => h) (Or.inl ⟨by rfl, ?hy12⟩) (by assumption) ?rhy12
        case hy12 => ((intro w hSw; (try dsimp only at hSw); go_simp); try with_reducible rfl)
        try simp only [Act.put, List.setIfInBounds_toArray, List.set_cons_zero, List.set_cons_succ]
        refine wpAnyH_takeL (i := 3) (v := ?vhy13) rfl (by kernel_rfl) (by kernel_rfl) (by kernel_rfl) (fun _ _ _ h => h) (Or.inl ⟨by rfl, ?hy13⟩) (by assumption) ?rhy13
        case hy13 => ((intro w hSw; (try dsimp only at hSw); go_simp); try with_reducible rfl)
        try simp only [Act.put, List.setIfInBounds_toArray, List.set_cons_zero, List.set_cons_succ]
        refine wpAnyH_takeL (i := 4) (v := ?vhy14) rfl (by kernel_rfl) (by kernel_rfl) (by kernel_rfl) (fun _ _ _ h => h) (Or.inl ⟨by rfl, ?hy14⟩) (by assumption) ?rhy14
        case hy14 => ((intro w hSw; (try dsimp only at hSw); go_simp); try with_reducible rfl)
        try simp only [Act.put, List.setIfInBounds_toArray, List.set_cons_zero, List.set_cons_succ]
        refine wpAnyH_takeL (i := 5) (v := ?vhy15) rfl (by kernel_rfl) (by kernel_rfl) (by kernel_rfl) (fun _ _ _ h => h) (Or.inl ⟨by rfl, ?hy15⟩) (by assumption) ?rhy15
        case hy15 => ((intro w hSw; (try dsimp only at hSw); go_simp); try with_reducible rfl)
        try simp only [Act.put, List.setIfInBounds_toArray, List.set_cons_zero, List.set_cons_succ]
        refine wpAnyH_takeL (i := 6) (v := ?vhy16) rfl (by kernel_rfl) (by kernel_rfl) (by kernel_rfl) (fun _ _ _ h => h) (Or.inl ⟨by rfl, ?hy16⟩) (by assumption) ?rhy16
        case hy16 => ((intro w hSw; (try dsimp only at hSw); go_simp); try with_reducible rfl)
        try simp only [Act.put, List.setIfInBounds_toArray, List.set_cons_zero, List.set_cons_succ]
        refine wpAnyH_takeL (i := 7) (v := ?vhy17) rfl (by kernel_rfl) (by kernel_rfl) (by kernel_rfl) (fun _ _ _ h => h) (Or.inl ⟨by rfl, ?hy17⟩) (by assumption) ?rhy17
        case hy17 => ((intro w hSw; (try dsimp only at hSw); go_simp); try with_reducible rfl)
        try simp only [Act.put, List.setIfInBounds_toArray, List.set_cons_zero, List.set_cons_succ]
        refine wpAnyH_takeL (i := 8) (v := ?vhy18) rfl (by kernel_rfl) (by kernel_rfl) (by kernel_rfl) (fun _ _ _ h => h) (Or.inl ⟨by rfl, ?hy18⟩) (by assumption) ?rhy18
        case hy18 => ((intro w hSw; (try dsimp only at hSw); go_simp); try with_reducible rfl)
        try simp only [Act.put, List.setIfInBounds_toArray, List.set_cons_zero, List.set_cons_succ]
        refine wpAnyH_done (by kernel_rfl) ?_ _
        refine NoPanic.normal ?_
        clear hHeld hq
        cases q with
        | true =>
          have hxy := of_decide_eq_true hqq.out
          have hN : xs.take (i + 1) = ys.take (i + 1) := by rw [t1, t2, he, hxy]
          replace hN := Lib.hid hN
          clear hxy hno t1 t2 hqq
          go_wp2
          exact ⟨⟨i + 1, by simp, by omega, hN.out, hdr⟩, by simp [intOf]; omega⟩
        | false =>
          have hxy := of_decide_eq_false hqq.out
          have hN : decide (xs = ys) = false := decide_eq_false (hno hxy)
          replace hN := Lib.hid hN
          clear hxy hno t1 t2 hqq
          go_wp2
          go_ret
          exact ⟨by rw [hN.out]; rfl, hdr⟩
      · obtain rfl : i = n := by omega
        have hN : decide (xs = ys) = true := decide_eq_true (by
          rw [List.take_of_length_le (by omega), List.take_of_length_le (by omega)] at he
          exact he)
        have hlt2 : decide ((i : Int) < (i : Int)) = false := by simp
        replace hN := Lib.hid hN
        go_wp2
        go_ret
        exact ⟨by rw [hN.out]; rfl, hbw⟩
  · have hne : ((n : Int) != (m : Int)) = true := by simp; omega
    have hN : decide (xs = ys) = false := decide_eq_false (fun e => hnm (by rw [← hxn, ← hyn, e]))
    replace hN := Lib.hid hN
    go_enter Tryd.func27, Tryd.ntmps27
    go_wp2
    go_ret
    exact ⟨by rw [hN.out]; rfl, Below.refl _ _⟩

set_option maxRecDepth 100000 in
set_option maxHeartbeats 4000000 in
theorem RAt_any (A : Option Addr) (n c : Nat) (xs : List Ak) (now s : Int) (w : World) (hr : Rv w 6 A n c (rcells xs)) :
    Calls Tryd.prog 43 #[.agg #[.int .i64 now, .slice A n c], .int .i64 s] w fun e w' => e = .returned (.int .i64 (idxL (isS s) xs)) ∧ Below w.heap.size w w' := by
  have hxn : xs.length = n := by have := hr.1; rw [rcells_length] at this; omega
  have hcap : c ≤ 9223372036854775807 := hr.2.2.1
  have hle := hr.2.1
  have hb0 : Below w.heap.size w (w.alloc (.cells #[.int .i64 now, .slice A n c] 45)) := (Below.refl _ _).alloc (Nat.le_refl _) _
  have hbx : (w.alloc (.cells #[.int .i64 now, .slice A n c] 45)).cell? ⟨w.heap.size, 1, none⟩ = some (.slice A n c) := by
    have := World.alloc_heap_new w (.cells #[.int .i64 now, .slice A n c] 45)
    unfold World.cell?
    rw [this]
    rfl
  go_enter Tryd.func43, Tryd.ntmps43
  go_wp2_with fail
  generalize (w.alloc (.cells #[.int .i64 now, .slice A n c] 45)) = w1 at *
  go_loopw [5] (fun q wr => ∃ i : Nat, q = .int .i64 (i : Int) ∧ i ≤ n ∧ (∀ x ∈ xs.take i, isS s x = false) ∧ wr = w1)
    (fun q wr => n - (intOf q).toNat)
  case atStart => exact ⟨0, rfl, by omega, by simp, rfl⟩
  case round =>
    obtain ⟨i, rfl, hi, h0, rfl⟩ := hrel
    by_cases hlt : i < n
    · obtain ⟨b1, o1, rfl, hb1, hc1⟩ := hr.2.2.2 (by omega)
      have e1 := rcells_cell hc1 (fun o => hb0.cell (p := ⟨b1, o, none⟩) hb1) i (by omega)
      have htk : xs.take (i + 1) = xs.take i ++ [xs[i]'(by omega)] := List.take_succ_eq_append_getElem (by omega)
      have hfix : isS s (xs[i]'(by omega)) = true → idxL (isS s) xs = (i : Int) := fun hq => idxL_hit (by omega) h0 hq
      have hlt1 : (i : Int) < (n : Int) := by omega
      have hlt2 : decide ((i : Int) < (n : Int)) = true := by simp; omega
      generalize xs[i]'(by omega) = x at *
      obtain ⟨x0, x1, x2, x3, x4, x5, x6, x7, x8⟩ := x
      simp only [isS] at e1 hfix
      clear hc1
      by_cases hq : x0 = s
      · subst hq
        have hN := Lib.hid (hfix (by simp))
        have hb : ((x0 : Int) == x0) = true := by simp
        clear hfix htk
        go_wp2
        go_ret
        exact ⟨by rw [show idxL (isS x0) xs = _ from hN.out]; rfl, hb0⟩
      · have hb : (x0 == s) = false := beq_false_of_ne hq
        have hN : ∀ x ∈ xs.take (i + 1), isS s x = false := by
          rw [htk]
          intro x hx
          rcases List.mem_append.1 hx with hx | hx
          · exact h0 x hx
          · rw [List.mem_singleton.1 hx]; exact hb
        replace hN := Lib.hid hN
        clear hfix htk hq
        go_wp2
        exact ⟨⟨i + 1, by simp, by omega, hN.out, trivial⟩, by simp [intOf]; omega⟩
    · obtain rfl : i = n := by omega
      have hN : idxL (isS s) xs = -1 := idxL_none (by
        rw [List.take_of_length_le (by omega)] at h0
        exact h0)
      have hlt2 : decide ((i : Int) < (i : Int)) = false := by simp
      replace hN := Lib.hid hN
      go_wp2
      go_ret
      exact ⟨by rw [hN.out]; rfl, hb0⟩
theorem rcells_app (xs ys : List Ak) : rcells (xs ++ ys) = rcells xs ++ rcells ys := by simp [rcells]
def zeroR : Value := .agg #[.int .i64 0, .int .i64 0, .int .i64 0, .bool false, .bool false, .slice none 0 0]
theorem info_R : (Tryd.prog.info? 96).map (fun i => (i.zero, i.size, i.bytes)) = some (some zeroR, 6, 56) := by kernel_rfl
/-- The asks of the ranks ahead. -/
def upR (k : Nat) (xs : List Ak) : List Ak := (if 0 < k then xs.filter (isR 0) else []) ++ ((if 1 < k then xs.filter (isR 1) else []) ++ (if 2 < k then xs.filter (isR 2) else []))
theorem upR_3 (xs : List Ak) : upR 3 xs = ordK xs := by simp [upR, ordK]
theorem upR_succ (k : Nat) (hk : k < 3) (xs : List Ak) : upR (k + 1) xs = upR k xs ++ xs.filter (isR k) := by
  rcases (show k = 0 ∨ k = 1 ∨ k = 2 by omega) with rfl | rfl | rfl <;> simp [upR]
theorem isR_snoc (k : Nat) (l : List Ak) (x : Ak) : (l ++ [x]).filter (isR k) = if x.rank = k then l.filter (isR k) ++ [x] else l.filter (isR k) := by
  rw [List.filter_append]
  by_cases h : x.rank = k <;> simp [isR, h]

set_option maxRecDepth 100000 in
set_option maxHeartbeats 8000000 in
theorem ROrd_any (A : Option Addr) (n c : Nat) (xs : List Ak) (w : World) (hr : Rv w 6 A n c (rcells xs)) (hn : n ≤ 1000) :
    Calls Tryd.prog 74 #[.slice A n c] w fun e w' => ∃ A' c', e = .returned (.slice A' n c') ∧ Ov w' w.heap.size 96 6 A' n c' (rcells (ordK xs)) ∧ Below w.heap.size w w' := by
  have hxn : xs.length = n := by have := hr.1; rw [rcells_length] at this; omega
  have hcap : c ≤ 9223372036854775807 := hr.2.2.1
  have hle := hr.2.1
  obtain ⟨iS, hiS, hzS, hsS, hbS⟩ := info_parts info_R
  go_enter Tryd.func74, Tryd.ntmps74
  go_wp2
  go_loopw [3, 4] (fun o p wr => ∃ (k : Nat) (out : List Ak) (A' : Option Addr) (c' : Nat), p = .int .i64 (k : Int) ∧ k ≤ 3 ∧ out = upR k xs ∧ o = .slice A' out.length c' ∧ Ov wr w.heap.size 96 6 A' out.length c' (rcells out) ∧ out.length ≤ k * n ∧ Below w.heap.size w wr)
    (fun _ p wr => 3 - (intOf p).toNat)
  case atStart => exact ⟨0, [], none, 0, rfl, by omega, by simp [upR], rfl, Ov.nil _ _ _ _, by simp, Below.refl _ _⟩
  case round =>
    obtain ⟨k, out, A', c', rfl, hk, hout, rfl, hO, hol, hbw⟩ := hrel
    by_cases hlt : k < 3
    · have hq : decide ((k : Int) < 3) = true := by simp; omega
      have hup := upR_succ k hlt xs
      rw [← hout] at hup
      have hkn : (k + 1) * n = k * n + n := Nat.succ_mul k n
      have hk3 : k * n ≤ 3 * n := Nat.mul_le_mul_right n (by omega)
      replace hup := Lib.hid hup
      clear hout
      go_wp2
      go_loopw [3, 5] (fun o p wr => ∃ (i : Nat) (o2 : List Ak) (A' : Option Addr) (c' : Nat), p = .int .i64 (i : Int) ∧ i ≤ n ∧ o2 = out ++ (xs.take i).filter (isR k) ∧ o = .slice A' o2.length c' ∧ Ov wr w.heap.size 96 6 A' o2.length c' (rcells o2) ∧ o2.length ≤ out.length + i ∧ Below w.heap.size w wr)
        (fun _ p wr => n - (intOf p).toNat)
      case atStart => exact ⟨0, out, A', c', rfl, by omega, by simp, rfl, hO, by omega, hbw⟩
      case round =>
        clear hO hbw
        obtain ⟨i, o2, A2, c2, rfl, hi, ho2, rfl, hO, hol2, hbw⟩ := hrel
        by_cases hlti : i < n
        · obtain ⟨b1, o1, rfl, hb1, hc1⟩ := hr.2.2.2 (by omega)
          have e1 := rcells_cell hc1 (fun o => hbw.cell (p := ⟨b1, o, none⟩) hb1) i (by omega)
          have htk : xs.take (i + 1) = xs.take i ++ [xs[i]'(by omega)] := List.take_succ_eq_append_getElem (by omega)
          have hlti1 : (i : Int) < (n : Int) := by omega
          have hlti2 : decide ((i : Int) < (n : Int)) = true := by simp; omega
          generalize xs[i]'(by omega) = x at *
          have hsn := isR_snoc k (xs.take i) x
          rw [← htk] at hsn
          have hba : Below wr.heap.size wr (wr.alloc (.cells x.rcells.toArray 96)) := (Below.refl _ _).alloc (Nat.le_refl _) _
          have hO1 := hO.below hba
          have hbw1 := gr hbw hba
          have hr3 := Rv.lit (w := wr) 96 6 x.rcells 1 rfl (by decide)
          have hws := hbw.size
          have hxr : x.rank = if x.held then 0 else if x.first then 1 else 2 := rfl
          have hone : ∀ u ∈ x.rcells, u.oneCell' = true := by have := rcells_one [x]; simpa [rcells] using this
          have hcat : rcells (o2 ++ [x]) = rcells o2 ++ x.rcells := by simp [rcells]
          obtain ⟨rk, hrk⟩ : ∃ r, x.rank = r := ⟨_, rfl⟩
          rw [hrk] at hsn hxr
          obtain ⟨x0, x1, x2, x3, x4, x5, x6, x7, x8⟩ := x
          simp only [Ak.rcells] at e1 hba hO1 hbw1 hr3 hone hcat hxr
          clear hc1 htk hba hrk
          replace hcat := Lib.hid hcat
          by_cases hkk : rk = k
          · have hN : o2 ++ [⟨x0, x1, x2, x3, x4, x5, x6, x7, x8⟩] = out ++ (xs.take (i + 1)).filter (isR k) := by rw [hsn, if_pos hkk, ho2]; simp
            replace hN := Lib.hid hN
            clear hsn ho2
            cases x4 with
            | true =>
              simp only [if_true] at hxr
              have hb : ((0 : Int) == (k : Int)) = true := beq_iff_eq.2 (by omega)
              clear hxr hkk
              cases x3 with
              | true =>
                go_wp2_with (at_builtin; refine wpList_append_v _ rfl _ _ 43 rfl 96 iS zeroR 6 56 Tryd.underlying43 hiS hzS hsS hbS rfl (by decide) w.heap.size A2 o2.length c2 (rcells o2) rfl hO1 (some ⟨wr.heap.size, 0, none⟩) 1 1 _ rfl hr3 hone (by unfold maxLen; omega) (by omega) (by simp; omega) ?_; intro A3 c3 w3 hO3 hg3 hab3)
                refine ⟨⟨i + 1, o2 ++ [Ak.mk x0 x1 x2 true true x5 x6 x7 x8], A3, c3, by simp, by omega, hN.out, by simp, ?_, by simp; omega, hbw1.grown hg3 (by simp; omega) (fun q e => (hO1.ab q e).1)⟩, by simp [intOf]; omega⟩
                rw [hcat.out, List.length_append]
                exact hO3
              | false =>
                go_wp2_with (at_builtin; refine wpList_append_v _ rfl _ _ 43 rfl 96 iS zeroR 6 56 Tryd.underlying43 hiS hzS hsS hbS rfl (by decide) w.heap.size A2 o2.length c2 (rcells o2) rfl hO1 (some ⟨wr.heap.size, 0, none⟩) 1 1 _ rfl hr3 hone (by unfold maxLen; omega) (by omega) (by simp; omega) ?_; intro A3 c3 w3 hO3 hg3 hab3)
                refine ⟨⟨i + 1, o2 ++ [Ak.mk x0 x1 x2 false true x5 x6 x7 x8], A3, c3, by simp, by omega, hN.out, by simp, ?_, by simp; omega, hbw1.grown hg3 (by simp; omega) (fun q e => (hO1.ab q e).1)⟩, by simp [intOf]; omega⟩
                rw [hcat.out, List.length_append]
                exact hO3
            | false =>
              cases x3 with
              | true =>
                simp only [Bool.false_eq_true, if_false, if_true] at hxr
                have hb : ((1 : Int) == (k : Int)) = true := beq_iff_eq.2 (by omega)
                clear hxr hkk
                go_wp2_with (at_builtin; refine wpList_append_v _ rfl _ _ 43 rfl 96 iS zeroR 6 56 Tryd.underlying43 hiS hzS hsS hbS rfl (by decide) w.heap.size A2 o2.length c2 (rcells o2) rfl hO1 (some ⟨wr.heap.size, 0, none⟩) 1 1 _ rfl hr3 hone (by unfold maxLen; omega) (by omega) (by simp; omega) ?_; intro A3 c3 w3 hO3 hg3 hab3)
                refine ⟨⟨i + 1, o2 ++ [Ak.mk x0 x1 x2 true false x5 x6 x7 x8], A3, c3, by simp, by omega, hN.out, by simp, ?_, by simp; omega, hbw1.grown hg3 (by simp; omega) (fun q e => (hO1.ab q e).1)⟩, by simp [intOf]; omega⟩
                rw [hcat.out, List.length_append]
                exact hO3
              | false =>
                simp only [Bool.false_eq_true, if_false] at hxr
                have hb : ((2 : Int) == (k : Int)) = true := beq_iff_eq.2 (by omega)
                clear hxr hkk
                go_wp2_with (at_builtin; refine wpList_append_v _ rfl _ _ 43 rfl 96 iS zeroR 6 56 Tryd.underlying43 hiS hzS hsS hbS rfl (by decide) w.heap.size A2 o2.length c2 (rcells o2) rfl hO1 (some ⟨wr.heap.size, 0, none⟩) 1 1 _ rfl hr3 hone (by unfold maxLen; omega) (by omega) (by simp; omega) ?_; intro A3 c3 w3 hO3 hg3 hab3)
                refine ⟨⟨i + 1, o2 ++ [Ak.mk x0 x1 x2 false false x5 x6 x7 x8], A3, c3, by simp, by omega, hN.out, by simp, ?_, by simp; omega, hbw1.grown hg3 (by simp; omega) (fun q e => (hO1.ab q e).1)⟩, by simp [intOf]; omega⟩
                rw [hcat.out, List.length_append]
                exact hO3
          · have hN : o2 = out ++ (xs.take (i + 1)).filter (isR k) := by rw [hsn, if_neg hkk, ho2]
            replace hN := Lib.hid hN
            clear hsn ho2
            cases x4 with
            | true =>
              simp only [if_true] at hxr
              have hb : ((0 : Int) == (k : Int)) = false := beq_false_of_ne (by omega)
              clear hxr hkk
              cases x3 with
              | true =>
                go_wp2
                exact ⟨⟨i + 1, o2, A2, c2, by simp, by omega, hN.out, rfl, hO, by omega, hbw⟩, by simp [intOf]; omega⟩
              | false =>
                go_wp2
                exact ⟨⟨i + 1, o2, A2, c2, by simp, by omega, hN.out, rfl, hO, by omega, hbw⟩, by simp [intOf]; omega⟩
            | false =>
              cases x3 with
              | true =>
                simp only [Bool.false_eq_true, if_false, if_true] at hxr
                have hb : ((1 : Int) == (k : Int)) = false := beq_false_of_ne (by omega)
                clear hxr hkk
                go_wp2
                exact ⟨⟨i + 1, o2, A2, c2, by simp, by omega, hN.out, rfl, hO, by omega, hbw⟩, by simp [intOf]; omega⟩
              | false =>
                simp only [Bool.false_eq_true, if_false] at hxr
                have hb : ((2 : Int) == (k : Int)) = false := beq_false_of_ne (by omega)
                clear hxr hkk
                go_wp2
                exact ⟨⟨i + 1, o2, A2, c2, by simp, by omega, hN.out, rfl, hO, by omega, hbw⟩, by simp [intOf]; omega⟩
        · obtain rfl : i = n := by omega
          have hlti2 : decide ((i : Int) < (i : Int)) = false := by simp
          rw [List.take_of_length_le (by omega)] at ho2
          have hN : o2 = upR (k + 1) xs := by rw [hup.out]; exact ho2
          replace hN := Lib.hid hN
          clear ho2
          go_wp2
          refine ⟨⟨k + 1, o2, A2, c2, by simp, by omega, hN.out, rfl, hO, by omega, hbw⟩, by simp [intOf]; omega⟩
    · obtain rfl : k = 3 := by omega
      rw [upR_3] at hout
      have hl : out.length = n := by rw [hout, ordK_length, hxn]
      rw [hl] at hO ⊢
      replace hout := Lib.hid hout
      go_wp2
      go_ret
      rw [← hout.out]
      exact ⟨A', c', rfl, hO, hbw⟩
end Go.Proofs.YtnjhhibjcfjhnaaDoor
