/- Locks: which are the same. -/
import Derived.Test.YtnjhhibjcfjhnaaDoorLkM
namespace Go.Proofs.YtnjhhibjcfjhnaaDoor
open Go.RowKit
set_option linter.unusedVariables false

instance : DecidableEq Ak := fun x y => decidable_of_iff (x.s = y.s ∧ x.since = y.since ∧ x.wait = y.wait ∧ x.first = y.first ∧ x.held = y.held ∧ x.W = y.W ∧ x.A = y.A ∧ x.n = y.n ∧ x.c = y.c)
  ⟨fun h => by cases x; cases y; simp_all, fun h => by subst h; simp⟩
theorem toList_strL_eq (s t : List UInt8) : (strL s).toList = (strL t).toList ↔ s = t := by rw [strL_toList, strL_toList]
theorem equal_W (s t : List UInt8) (a b : Bool) (w : World) : (Op.equal 64 (.agg #[.string (strL s), .bool a]) (.agg #[.string (strL t), .bool b])).run Tryd.prog w = .ok (decide (Wt.mk s a = Wt.mk t b)) w := by
  have : Op.maxDepth = 9998 + 1 + 1 := rfl
  rw [Op.equal, this, Op.equalIn]
  simp [go_sem, Sem.run_bind, run_underlying Tryd.underlying64, toList_strL_eq]
  by_cases h1 : s = t <;> by_cases h2 : a = b <;> simp [h1, h2]
theorem neq_W (s t : List UInt8) (a b : Bool) (w : World) : (binOp .neq 64 (.agg #[.string (strL s), .bool a]) (.agg #[.string (strL t), .bool b])).run Tryd.prog w = .ok (.bool (!(decide (Wt.mk s a = Wt.mk t b)))) w := by
  have he := equal_W s t a b w
  unfold binOp
  simp [go_sem, he]

set_option maxRecDepth 100000 in
set_option maxHeartbeats 4000000 in
theorem EqW_any (A : Option Addr) (n c : Nat) (xs : List Wt) (A2 : Option Addr) (m d : Nat) (ys : List Wt) (w : World) (hx : Rv w 2 A n c (wcells xs)) (hy : Rv w 2 A2 m d (wcells ys)) :
    Calls Tryd.prog 49 #[.slice A n c, .slice A2 m d] w fun e w' => e = .returned (.bool (decide (xs = ys))) ∧ Below w.heap.size w w' := by
  have hxn : xs.length = n := by have := hx.1; rw [wcells_length] at this; omega
  have hyn : ys.length = m := by have := hy.1; rw [wcells_length] at this; omega
  have hcx : c ≤ 9223372036854775807 := hx.2.2.1
  have hcy : d ≤ 9223372036854775807 := hy.2.2.1
  have hlx := hx.2.1
  have hly := hy.2.1
  by_cases hnm : n = m
  · subst hnm
    have hne : ((n : Int) != (n : Int)) = false := by simp
    go_enter Tryd.func49, Tryd.ntmps49
    go_wp2
    go_loopw [13] (fun q wr => ∃ i : Nat, q = .int .i64 (i : Int) ∧ i ≤ n ∧ xs.take i = ys.take i ∧ Below w.heap.size w wr)
      (fun q wr => n - (intOf q).toNat)
    case atStart => exact ⟨0, rfl, by omega, by simp, Below.refl _ _⟩
    case round =>
      clear hne
      obtain ⟨i, rfl, hi, he, hbw⟩ := hrel
      by_cases hlt : i < n
      · obtain ⟨b1, o1, rfl, hb1, hc1⟩ := hx.2.2.2 (by omega)
        obtain ⟨b2, o2, rfl, hb2, hc2⟩ := hy.2.2.2 (by omega)
        have e1 := wcells_cell hc1 (fun o => hbw.cell (p := ⟨b1, o, none⟩) hb1) i (by omega)
        have e2 := wcells_cell hc2 (fun o => hbw.cell (p := ⟨b2, o, none⟩) hb2) i (by omega)
        have t1 : xs.take (i + 1) = xs.take i ++ [xs[i]'(by omega)] := List.take_succ_eq_append_getElem (by omega)
        have t2 : ys.take (i + 1) = ys.take i ++ [ys[i]'(by omega)] := List.take_succ_eq_append_getElem (by omega)
        have hno : xs[i]'(by omega) ≠ ys[i]'(by omega) → xs ≠ ys := fun h e => h (by subst e; rfl)
        have hlt1 : (i : Int) < (n : Int) := by omega
        have hlt2 : decide ((i : Int) < (n : Int)) = true := by simp; omega
        generalize xs[i]'(by omega) = x at *
        generalize ys[i]'(by omega) = y at *
        obtain ⟨x0, x1⟩ := x
        obtain ⟨y0, y1⟩ := y
        simp only at e1 e2
        have hq := fun w => neq_W x0 y0 x1 y1 w
        obtain ⟨q, hqq⟩ : ∃ q, decide (Wt.mk x0 x1 = Wt.mk y0 y1) = q := ⟨_, rfl⟩
        rw [hqq] at hq
        replace hqq := Lib.hid hqq
        have hdr : Below w.heap.size w wr.drew := hbw.drew
        clear hc1 hc2
        go_wp2_with fail
        refine wp_region_noPanic ?_
        refine wp_region_held_drew (S := fun w' => (w'.cell? ⟨b1, o1 + i * 2, none⟩ = some (.string (strL x0)) ∧ w'.cell? ⟨b1, o1 + i * 2 + 1, none⟩ = some (.bool x1)) ∧ w'.cell? ⟨b2, o2 + i * 2, none⟩ = some (.string (strL y0)) ∧ w'.cell? ⟨b2, o2 + i * 2 + 1, none⟩ = some (.bool y1)) (by kernel_rfl) ⟨e1, e2⟩ (fun hHeld => ?_)
        refine wpAnyH_takeL (i := 0) (v := ?vhy1) rfl (by kernel_rfl) (by kernel_rfl) (by kernel_rfl) (fun _ _ _ h => h) (Or.inl ⟨by rfl, ?hy1⟩) (by assumption) ?rhy1
        case hy1 => ((intro w hSw; (try dsimp only at hSw); go_simp); try with_reducible rfl)
        try simp only [Act.put, List.setIfInBounds_toArray, List.set_cons_zero, List.set_cons_succ]
        refine wpAnyH_takeL (i := 1) (v := ?vhy2) rfl (by kernel_rfl) (by kernel_rfl) (by kernel_rfl) (fun _ _ _ h => h) (Or.inl ⟨by rfl, ?hy2⟩) (by assumption) ?rhy2
        case hy2 => ((intro w hSw; (try dsimp only at hSw); go_simp); try with_reducible rfl)
        try simp only [Act.put, List.setIfInBounds_toArray, List.set_cons_zero, List.set_cons_succ]
        refine wpAnyH_takeL (i := 2) (v := ?vhy3) rfl (by kernel_rfl) (by kernel_rfl) (by kernel_rfl) (fun _ _ _ h => h) (Or.inl ⟨by rfl, ?hy3⟩) (by assumption) ?rhy3
        case hy3 => ((intro w hSw; (try dsimp only at hSw); go_simp); try with_reducible rfl)
        try simp only [Act.put, List.setIfInBounds_toArray, List.set_cons_zero, List.set_cons_succ]
        refine wpAnyH_takeL (i := 3) (v := ?vhy4) rfl (by kernel_rfl) (by kernel_rfl) (by kernel_rfl) (fun _ _ _ h => h) (Or.inl ⟨by rfl, ?hy4⟩) (by assumption) ?rhy4
        case hy4 => ((intro w hSw; (try dsimp only at hSw); go_simp); try with_reducible rfl)
        try simp only [Act.put, List.setIfInBounds_toArray, List.set_cons_zero, List.set_cons_succ]
        refine wpAnyH_takeL (i := 4) (v := ?vhy5) rfl (by kernel_rfl) (by kernel_rfl) (by kernel_rfl) (fun _ _ _ h => h) (Or.inl ⟨by rfl, ?hy5⟩) (by assumption) ?rhy5
        case hy5 => ((intro w hSw; (try dsimp only at hSw); go_simp); try with_reducible rfl)
        try simp only [Act.put, List.setIfInBounds_toArray, List.set_cons_zero, List.set_cons_succ]
        refine wpAnyH_takeL (i := 5) (v := ?vhy6) rfl (by kernel_rfl) (by kernel_rfl) (by kernel_rfl) (fun _ _ _ h => h) (Or.inl ⟨by rfl, ?hy6⟩) (by assumption) ?rhy6
        case hy6 => ((intro w hSw; (try dsimp only at hSw); go_simp); try with_reducible rfl)
        try simp only [Act.put, List.setIfInBounds_toArray, List.set_cons_zero, List.set_cons_succ]
        refine wpAnyH_takeL (i := 6) (v := ?vhy7) rfl (by kernel_rfl) (by kernel_rfl) (by kernel_rfl) (fun _ _ _ h => h) (Or.inl ⟨by rfl, ?hy7⟩) (by assumption) ?rhy7
        case hy7 => ((intro w hSw; (try dsimp only at hSw); go_simp); try with_reducible rfl)
        try simp only [Act.put, List.setIfInBounds_toArray, List.set_cons_zero, List.set_cons_succ]
        refine wpAnyH_takeL (i := 7) (v := ?vhy8) rfl (by kernel_rfl) (by kernel_rfl) (by kernel_rfl) (fun _ _ _ h => h) (Or.inl ⟨by rfl, ?hy8⟩) (by assumption) ?rhy8
        case hy8 => ((intro w hSw; (try dsimp only at hSw); go_simp); try with_reducible rfl)
        try simp only [Act.put, List.setIfInBounds_toArray, List.set_cons_zero, List.set_cons_succ]
        refine wpAnyH_takeL (i := 8) (v := ?vhy9) rfl (by kernel_rfl) (by kernel_rfl) (by kernel_rfl) (fun _ _ _ h => h) (Or.inl ⟨by rfl, ?hy9⟩) (by assumption) ?rhy9
        case hy9 => ((intro w hSw; (try dsimp only at hSw); go_simp); try with_reducible rfl)
        try simp only [Act.put, List.setIfInBounds_toArray, List.set_cons_zero, List.set_cons_succ]
        refine wpAnyH_done (by kernel_rfl) ?_ _
        refine NoPanic.normal ?_
        clear hHeld hq
        cases q with
        | true =>
          have hxy := of_decide_eq_true hqq.out
          have hN : xs.take (i + 1) = ys.take (i + 1) := by rw [t1, t2, he, hxy]
          replace hN := Lib.hid hN
          clear hxy hno t1 t2 hqq
          go_wp2
          exact ⟨⟨i + 1, by simp, by omega, hN.out, hdr⟩, by simp [intOf]; omega⟩
        | false =>
          have hxy := of_decide_eq_false hqq.out
          have hN : decide (xs = ys) = false := decide_eq_false (hno hxy)
          replace hN := Lib.hid hN
          clear hxy hno t1 t2 hqq
          go_wp2
          go_ret
          exact ⟨by rw [hN.out]; rfl, hdr⟩
      · obtain rfl : i = n := by omega
        have hN : decide (xs = ys) = true := decide_eq_true (by
          rw [List.take_of_length_le (by omega), List.take_of_length_le (by omega)] at he
          exact he)
        have hlt2 : decide ((i : Int) < (i : Int)) = false := by simp
        replace hN := Lib.hid hN
        go_wp2
        go_ret
        exact ⟨by rw [hN.out]; rfl, hbw⟩
  · have hne : ((n : Int) != (m : Int)) = true := by simp; omega
    have hN : decide (xs = ys) = false := decide_eq_false (fun e => hnm (by rw [← hxn, ← hyn, e]))
    replace hN := Lib.hid hN
    go_enter Tryd.func49, Tryd.ntmps49
    go_wp2
    go_ret
    exact ⟨by rw [hN.out]; rfl, Below.refl _ _⟩

theorem eSame1 : ∀ args w, (callFunc 48 args).run Tryd.prog w = .ok (.enter 48 args) w := enters_of Tryd.func48 (by kernel_rfl) rfl
def sameA (x y : Ak) : Bool := decide (x.s = y.s) && (decide (x.since = y.since) && (decide (x.wait = y.wait) && (decide (x.first = y.first) && (decide (x.held = y.held) && decide (x.W = y.W)))))
theorem sameA_iff {x y : Ak} : sameA x y = true ↔ x.bare = y.bare := by
  obtain ⟨x0, x1, x2, x3, x4, x5, x6, x7, x8⟩ := x
  obtain ⟨y0, y1, y2, y3, y4, y5, y6, y7, y8⟩ := y
  simp [sameA, Ak.bare]
set_option maxRecDepth 100000 in
set_option maxHeartbeats 8000000 in
theorem Same1_any (x y : Ak) (w : World) (hx : Rv w 2 x.A x.n x.c (wcells x.W)) (hy : Rv w 2 y.A y.n y.c (wcells y.W)) :
    Calls Tryd.prog 48 #[.agg x.cells.toArray, .agg y.cells.toArray] w fun e w' => e = .returned (.bool (sameA x y)) ∧ Below w.heap.size w w' := by
  have hb2 : Below w.heap.size w ((w.alloc (.cells x.cells.toArray 74)).alloc (.cells y.cells.toArray 74)) := gr_alloc (gr_alloc (Below.refl _ _) _) _
  have hq := Lib.hid (EqW_any x.A x.n x.c x.W y.A y.n y.c y.W _ (hx.below hb2) (hy.below hb2))
  obtain ⟨x0, x1, x2, x3, x4, x5, x6, x7, x8⟩ := x
  obtain ⟨y0, y1, y2, y3, y4, y5, y6, y7, y8⟩ := y
  simp only [Ak.cells, sameA] at *
  clear hx hy
  by_cases h0 : x0 = y0
  case neg =>
    have d0 : (x0 == y0) = false := beq_false_of_ne h0
    rw [decide_eq_false h0, Bool.false_and]
    clear h0
    go_enter Tryd.func48, Tryd.ntmps48
    go_wp2
    go_ret
    exact ⟨rfl, hb2⟩
  have d0 : (x0 == y0) = true := beq_iff_eq.2 h0
  rw [decide_eq_true h0, Bool.true_and]
  clear h0
  by_cases h1 : x1 = y1
  case neg =>
    have d1 : (x1 == y1) = false := beq_false_of_ne h1
    rw [decide_eq_false h1, Bool.false_and]
    clear h1
    go_enter Tryd.func48, Tryd.ntmps48
    go_wp2
    go_ret
    exact ⟨rfl, hb2⟩
  have d1 : (x1 == y1) = true := beq_iff_eq.2 h1
  rw [decide_eq_true h1, Bool.true_and]
  clear h1
  by_cases h2 : x2 = y2
  case neg =>
    have d2 : (x2 == y2) = false := beq_false_of_ne h2
    rw [decide_eq_false h2, Bool.false_and]
    clear h2
    go_enter Tryd.func48, Tryd.ntmps48
    go_wp2
    go_ret
    exact ⟨rfl, hb2⟩
  have d2 : (x2 == y2) = true := beq_iff_eq.2 h2
  rw [decide_eq_true h2, Bool.true_and]
  clear h2
  by_cases h3 : x3 = y3
  case neg =>
    have d3 : (x3 == y3) = false := beq_false_of_ne h3
    rw [decide_eq_false h3, Bool.false_and]
    clear h3
    go_enter Tryd.func48, Tryd.ntmps48
    go_wp2
    go_ret
    exact ⟨rfl, hb2⟩
  subst h3
  rw [decide_eq_true rfl, Bool.true_and]
  by_cases h4 : x4 = y4
  case neg =>
    have d4 : (x4 == y4) = false := beq_false_of_ne h4
    rw [decide_eq_false h4, Bool.false_and]
    clear h4
    go_enter Tryd.func48, Tryd.ntmps48
    go_wp2
    go_ret
    exact ⟨rfl, hb2⟩
  subst h4
  rw [decide_eq_true rfl, Bool.true_and]
  go_enter Tryd.func48, Tryd.ntmps48
  go_wp2_with fail
  refine hq.out.mono ?_
  rintro e w1 ⟨rfl, hb3⟩
  clear hq
  go_wp2
  go_ret
  exact ⟨rfl, gr hb2 hb3⟩
set_option maxRecDepth 100000 in
set_option maxHeartbeats 8000000 in
theorem EqF_any (A : Option Addr) (n c : Nat) (xs : List Ak) (A2 : Option Addr) (m d : Nat) (ys : List Ak) (w : World) (hx : Rv w 6 A n c (acells xs)) (hy : Rv w 6 A2 m d (acells ys)) (tx : ∀ x ∈ xs, Rv w 2 x.A x.n x.c (wcells x.W)) (ty : ∀ x ∈ ys, Rv w 2 x.A x.n x.c (wcells x.W)) :
    Calls Tryd.prog 47 #[.slice A n c, .slice A2 m d, .func (.func 48) #[] #[]] w fun e w' => e = .returned (.bool (decide (xs.map Ak.bare = ys.map Ak.bare))) ∧ Below w.heap.size w w' := by
  have hxn : xs.length = n := by have := hx.1; rw [acells_length] at this; omega
  have hyn : ys.length = m := by have := hy.1; rw [acells_length] at this; omega
  have hcx : c ≤ 9223372036854775807 := hx.2.2.1
  have hcy : d ≤ 9223372036854775807 := hy.2.2.1
  have hlx := hx.2.1
  have hly := hy.2.1
  have eg := eSame1
  by_cases hnm : n = m
  · subst hnm
    have hne : ((n : Int) != (n : Int)) = false := by simp
    have hS := Lib.hid (fun W (hW : Below w.heap.size w W) x (h1 : x ∈ xs) y (h2 : y ∈ ys) => Same1_any x y W ((tx x h1).below hW) ((ty y h2).below hW))
    clear tx ty
    go_enter Tryd.func47, Tryd.ntmps47
    go_wp2
    go_loopw [17] (fun q wr => ∃ i : Nat, q = .int .i64 (i : Int) ∧ i ≤ n ∧ (xs.take i).map Ak.bare = (ys.take i).map Ak.bare ∧ Below w.heap.size w wr)
      (fun q wr => n - (intOf q).toNat)
    case atStart => exact ⟨0, rfl, by omega, by simp, Below.refl _ _⟩
    case round =>
      clear hne
      obtain ⟨i, rfl, hi, he, hbw⟩ := hrel
      by_cases hlt : i < n
      · obtain ⟨b1, o1, rfl, hb1, hc1⟩ := hx.2.2.2 (by omega)
        obtain ⟨b2, o2, rfl, hb2, hc2⟩ := hy.2.2.2 (by omega)
        have e1 := acells_cell hc1 (fun o => hbw.cell (p := ⟨b1, o, none⟩) hb1) i (by omega)
        have t1 : xs.take (i + 1) = xs.take i ++ [xs[i]'(by omega)] := List.take_succ_eq_append_getElem (by omega)
        have t2 : ys.take (i + 1) = ys.take i ++ [ys[i]'(by omega)] := List.take_succ_eq_append_getElem (by omega)
        have hno : (xs[i]'(by omega)).bare ≠ (ys[i]'(by omega)).bare → xs.map Ak.bare ≠ ys.map Ak.bare := fun h e => by
          have e3 : (xs.map Ak.bare)[i]? = (ys.map Ak.bare)[i]? := by rw [e]
          rw [List.getElem?_map, List.getElem?_map, List.getElem?_eq_getElem (by omega), List.getElem?_eq_getElem (by omega)] at e3
          exact h (Option.some.inj e3)
        have hba : Below w.heap.size w (wr.alloc (.cells (xs[i]'(by omega)).cells.toArray 74)) := gr_alloc hbw _
        have e2 := acells_cell hc2 (fun o => hba.cell (p := ⟨b2, o, none⟩) hb2) i (by omega)
        have hcall := hS.out ((wr.alloc (.cells (xs[i]'(by omega)).cells.toArray 74)).alloc (.cells (ys[i]'(by omega)).cells.toArray 74)) (gr_alloc hba _) (xs[i]'(by omega)) (List.getElem_mem _) (ys[i]'(by omega)) (List.getElem_mem _)
        have hbb : Below w.heap.size w ((wr.alloc (.cells (xs[i]'(by omega)).cells.toArray 74)).alloc (.cells (ys[i]'(by omega)).cells.toArray 74)) := gr_alloc hba _
        have hlt1 : (i : Int) < (n : Int) := by omega
        have hlt2 : decide ((i : Int) < (n : Int)) = true := by simp; omega
        generalize xs[i]'(by omega) = x at *
        generalize ys[i]'(by omega) = y at *
        have hsm := sameA_iff (x := x) (y := y)
        obtain ⟨q, hqq⟩ : ∃ q, sameA x y = q := ⟨_, rfl⟩
        rw [hqq] at hcall hsm
        replace hsm := Lib.hid hsm
        obtain ⟨x0, x1, x2, x3, x4, x5, x6, x7, x8⟩ := x
        obtain ⟨y0, y1, y2, y3, y4, y5, y6, y7, y8⟩ := y
        simp only [Ak.cells] at e1 e2 hcall hbb
        replace hcall := Lib.hid hcall
        clear hc1 hc2 hba hqq
        go_wp2_with fail
        refine hcall.out.mono ?_
        rintro e w2 ⟨rfl, hb3⟩
        have hb4 := gr hbb hb3
        clear hcall e1 e2 hbb hb3
        cases q with
        | true =>
          have hN : (xs.take (i + 1)).map Ak.bare = (ys.take (i + 1)).map Ak.bare := by
            rw [t1, t2, List.map_append, List.map_append, he]
            simp only [List.map_cons, List.map_nil]
            rw [hsm.out.1 rfl]
          replace hN := Lib.hid hN
          clear hsm hno t1 t2
          go_wp2
          exact ⟨⟨i + 1, by simp, by omega, hN.out, hb4⟩, by simp [intOf]; omega⟩
        | false =>
          have hN : decide (xs.map Ak.bare = ys.map Ak.bare) = false := decide_eq_false (hno (fun e => by have := hsm.out.2 e; cases this))
          replace hN := Lib.hid hN
          clear hsm hno t1 t2
          go_wp2
          go_ret
          exact ⟨by rw [hN.out]; rfl, hb4⟩
      · obtain rfl : i = n := by omega
        have hN : decide (xs.map Ak.bare = ys.map Ak.bare) = true := decide_eq_true (by
          rw [List.take_of_length_le (by omega), List.take_of_length_le (by omega)] at he
          exact he)
        have hlt2 : decide ((i : Int) < (i : Int)) = false := by simp
        replace hN := Lib.hid hN
        go_wp2
        go_ret
        exact ⟨by rw [hN.out]; rfl, hbw⟩
  · have hne : ((n : Int) != (m : Int)) = true := by simp; omega
    have hN : decide (xs.map Ak.bare = ys.map Ak.bare) = false := decide_eq_false (fun e => hnm (by rw [← hxn, ← hyn]; simpa using congrArg List.length e))
    replace hN := Lib.hid hN
    go_enter Tryd.func47, Tryd.ntmps47
    go_wp2
    go_ret
    exact ⟨by rw [hN.out]; rfl, Below.refl _ _⟩

set_option maxRecDepth 100000 in
set_option maxHeartbeats 8000000 in
theorem Same_any {w : World} {base B : Nat} {now : Int} {A : Option Addr} {n c : Nat} {xs : List Ak} (h : LK w base B now A n c xs) {base2 B2 : Nat} {now2 : Int} {A2 : Option Addr} {n2 c2 : Nat} {ys : List Ak} (h2 : LK w base2 B2 now2 A2 n2 c2 ys) :
    Calls Tryd.prog 23 #[.pointer (some ⟨B, 0, none⟩), .pointer (some ⟨B2, 0, none⟩)] w fun e w' => e = .returned (.bool (decide (now = now2 ∧ xs.map Ak.bare = ys.map Ak.bare))) ∧ Below w.heap.size w w' := by
  have hc1 := h.cells
  have hc2 := h2.cells
  have hd : Below w.heap.size w w.drew := (Below.refl _ _).drew
  have hq := Lib.hid (EqF_any A n c xs A2 n2 c2 ys w.drew (h.own.rv.below hd) (h2.own.rv.below hd) (fun x hx => (h.tabs x hx).rv.below hd) (fun x hx => (h2.tabs x hx).rv.below hd))
  have hL := Lib.hid (fun W (hW : Below w.heap.size w W) => (show ((W.cell? ⟨B, 0, none⟩ = some (.int .i64 now) ∧ W.cell? ⟨B, 1, none⟩ = some (.slice A n c)) ∧ W.cell? ⟨B2, 0, none⟩ = some (.int .i64 now2) ∧ W.cell? ⟨B2, 1, none⟩ = some (.slice A2 n2 c2)) from ⟨(h.below hW).cells, (h2.below hW).cells⟩))
  clear h h2
  by_cases hn : now = now2
  · subst hn
    have e : decide (now = now ∧ xs.map Ak.bare = ys.map Ak.bare) = decide (xs.map Ak.bare = ys.map Ak.bare) := by simp
    rw [e]
    clear e
    go_enter Tryd.func23, Tryd.ntmps23
    go_wp2_with fail
    refine wp_region_noPanic ?_
    refine wp_region_held_drew (S := fun W => (W.cell? ⟨B, 0, none⟩ = some (.int .i64 now) ∧ W.cell? ⟨B, 1, none⟩ = some (.slice A n c)) ∧ W.cell? ⟨B2, 0, none⟩ = some (.int .i64 now) ∧ W.cell? ⟨B2, 1, none⟩ = some (.slice A2 n2 c2)) (by kernel_rfl) ⟨hc1, hc2⟩ (fun hHeld => ?_)
    refine wpAnyH_takeL (i := 0) (v := ?vhy10) rfl (by kernel_rfl) (by kernel_rfl) (by kernel_rfl) (fun _ _ _ h => h) (Or.inl ⟨by rfl, ?hy10⟩) (by assumption) ?rhy10
    case hy10 => ((intro w hSw; (try dsimp only at hSw); go_simp); try with_reducible rfl)
    try simp only [Act.put, List.setIfInBounds_toArray, List.set_cons_zero, List.set_cons_succ]
    refine wpAnyH_takeL (i := 1) (v := ?vhy11) rfl (by kernel_rfl) (by kernel_rfl) (by kernel_rfl) (fun _ _ _ h => h) (Or.inl ⟨by rfl, ?hy11⟩) (by assumption) ?rhy11
    case hy11 => ((intro w hSw; (try dsimp only at hSw); go_simp); try with_reducible rfl)
    try simp only [Act.put, List.setIfInBounds_toArray, List.set_cons_zero, List.set_cons_succ]
    refine wpAnyH_takeL (i := 2) (v := ?vhy12) rfl (by kernel_rfl) (by kernel_rfl) (by kernel_rfl) (fun _ _ _ h => h) (Or.inl ⟨by rfl, ?hy12⟩) (by assumption) ?rhy12
    case hy12 => ((intro w hSw; (try dsimp only at hSw); go_simp); try with_reducible rfl)
    try simp only [Act.put, List.setIfInBounds_toArray, List.set_cons_zero, List.set_cons_succ]
    refine wpAnyH_takeL (i := 3) (v := ?vhy13) rfl (by kernel_rfl) (by kernel_rfl) (by kernel_rfl) (fun _ _ _ h => h) (Or.inl ⟨by rfl, ?hy13⟩) (by assumption) ?rhy13
    case hy13 => ((intro w hSw; (try dsimp only at hSw); go_simp); try with_reducible rfl)
    try simp only [Act.put, List.setIfInBounds_toArray, List.set_cons_zero, List.set_cons_succ]
    refine wpAnyH_takeL (i := 4) (v := ?vhy14) rfl (by kernel_rfl) (by kernel_rfl) (by kernel_rfl) (fun _ _ _ h => h) (Or.inl ⟨by rfl, ?hy14⟩) (by assumption) ?rhy14
    case hy14 => ((intro w hSw; (try dsimp only at hSw); go_simp); try with_reducible rfl)
    try simp only [Act.put, List.setIfInBounds_toArray, List.set_cons_zero, List.set_cons_succ]
    refine wpAnyH_takeL (i := 5) (v := ?vhy15) rfl (by kernel_rfl) (by kernel_rfl) (by kernel_rfl) (fun _ _ _ h => h) (Or.inl ⟨by rfl, ?hy15⟩) (by assumption) ?rhy15
    case hy15 => ((intro w hSw; (try dsimp only at hSw); go_simp); try with_reducible rfl)
    try simp only [Act.put, List.setIfInBounds_toArray, List.set_cons_zero, List.set_cons_succ]
    refine wpAnyH_takeL (i := 6) (v := ?vhy16) rfl (by kernel_rfl) (by kernel_rfl) (by kernel_rfl) (fun _ _ _ h => h) (Or.inl ⟨by rfl, ?hy16⟩) (by assumption) ?rhy16
    case hy16 => ((intro w hSw; (try dsimp only at hSw); go_simp); try with_reducible rfl)
    try simp only [Act.put, List.setIfInBounds_toArray, List.set_cons_zero, List.set_cons_succ]
    refine wpAnyH_takeL (i := 7) (v := ?vhy17) rfl (by kernel_rfl) (by kernel_rfl) (by kernel_rfl) (fun _ _ _ h => h) (Or.inl ⟨by rfl, ?hy17⟩) (by assumption) ?rhy17
    case hy17 => ((intro w hSw; (try dsimp only at hSw); go_simp); try with_reducible rfl)
    try simp only [Act.put, List.setIfInBounds_toArray, List.set_cons_zero, List.set_cons_succ]
    refine wpAnyH_takeL (i := 8) (v := ?vhy18) rfl (by kernel_rfl) (by kernel_rfl) (by kernel_rfl) (fun _ _ _ h => h) (Or.inl ⟨by rfl, ?hy18⟩) (by assumption) ?rhy18
    case hy18 => ((intro w hSw; (try dsimp only at hSw); go_simp); try with_reducible rfl)
    try simp only [Act.put, List.setIfInBounds_toArray, List.set_cons_zero, List.set_cons_succ]
    refine wpAnyH_takeL (i := 9) (v := ?vhy19) rfl (by kernel_rfl) (by kernel_rfl) (by kernel_rfl) (fun _ _ _ h => h) (Or.inl ⟨by rfl, ?hy19⟩) (by assumption) ?rhy19
    case hy19 => ((intro w hSw; (try dsimp only at hSw); go_simp); try with_reducible rfl)
    try simp only [Act.put, List.setIfInBounds_toArray, List.set_cons_zero, List.set_cons_succ]
    refine wpAnyH_takeL (i := 10) (v := ?vhy20) rfl (by kernel_rfl) (by kernel_rfl) (by kernel_rfl) (fun _ _ _ h => h) (Or.inl ⟨by rfl, ?hy20⟩) (by assumption) ?rhy20
    case hy20 => ((intro w hSw; (try dsimp only at hSw); go_simp); try with_reducible rfl)
    try simp only [Act.put, List.setIfInBounds_toArray, List.set_cons_zero, List.set_cons_succ]
    refine wpAnyH_takeL (i := 11) (v := ?vhy21) rfl (by kernel_rfl) (by kernel_rfl) (by kernel_rfl) (fun _ _ _ h => h) (Or.inl ⟨by rfl, ?hy21⟩) (by assumption) ?rhy21
    case hy21 => ((intro w hSw; (try dsimp only at hSw); go_simp); try with_reducible rfl)
    try simp only [Act.put, List.setIfInBounds_toArray, List.set_cons_zero, List.set_cons_succ]
    refine wpAnyH_takeL (i := 12) (v := ?vhy22) rfl (by kernel_rfl) (by kernel_rfl) (by kernel_rfl) (fun _ _ _ h => h) (Or.inl ⟨by rfl, ?hy22⟩) (by assumption) ?rhy22
    case hy22 => ((intro w hSw; (try dsimp only at hSw); go_simp); try with_reducible rfl)
    try simp only [Act.put, List.setIfInBounds_toArray, List.set_cons_zero, List.set_cons_succ]
    refine wpAnyH_takeL (i := 13) (v := ?vhy23) rfl (by kernel_rfl) (by kernel_rfl) (by kernel_rfl) (fun _ _ _ h => h) (Or.inl ⟨by rfl, ?hy23⟩) (by assumption) ?rhy23
    case hy23 => ((intro w hSw; (try dsimp only at hSw); go_simp); try with_reducible rfl)
    try simp only [Act.put, List.setIfInBounds_toArray, List.set_cons_zero, List.set_cons_succ]
    refine wpAnyH_takeL (i := 14) (v := ?vhy24) rfl (by kernel_rfl) (by kernel_rfl) (by kernel_rfl) (fun _ _ _ h => h) (Or.inl ⟨by rfl, ?hy24⟩) (by assumption) ?rhy24
    case hy24 => ((intro w hSw; (try dsimp only at hSw); go_simp); try with_reducible rfl)
    try simp only [Act.put, List.setIfInBounds_toArray, List.set_cons_zero, List.set_cons_succ]
    refine wpAnyH_takeL (i := 15) (v := ?vhy25) rfl (by kernel_rfl) (by kernel_rfl) (by kernel_rfl) (fun _ _ _ h => h) (Or.inl ⟨by rfl, ?hy25⟩) (by assumption) ?rhy25
    case hy25 => ((intro w hSw; (try dsimp only at hSw); go_simp); try with_reducible rfl)
    try simp only [Act.put, List.setIfInBounds_toArray, List.set_cons_zero, List.set_cons_succ]
    refine wpAnyH_takeL (i := 16) (v := ?vhy26) rfl (by kernel_rfl) (by kernel_rfl) (by kernel_rfl) (fun _ _ _ h => h) (Or.inl ⟨by rfl, ?hy26⟩) (by assumption) ?rhy26
    case hy26 => ((intro w hSw; (try dsimp only at hSw); go_simp); try with_reducible rfl)
    try simp only [Act.put, List.setIfInBounds_toArray, List.set_cons_zero, List.set_cons_succ]
    refine wpAnyH_takeL (i := 17) (v := ?vhy27) rfl (by kernel_rfl) (by kernel_rfl) (by kernel_rfl) (fun _ _ _ h => h) (Or.inl ⟨by rfl, ?hy27⟩) (by assumption) ?rhy27
    case hy27 => ((intro w hSw; (try dsimp only at hSw); go_simp); try with_reducible rfl)
    try simp only [Act.put, List.setIfInBounds_toArray, List.set_cons_zero, List.set_cons_succ]
    refine wpAnyH_ready (rs := [18]) (by kernel_rfl) (by simp) ?_
    refine AllReadyH.consL (i := 18) rfl (fun K hK => ?_) AllReadyH.nil
    go_simp
    refine hq.out.mono ?_
    rintro e w2 ⟨rfl, hb2⟩
    have hb3 := gr hd hb2
    refine hK.out _ _ (hL.out _ hb3) (fun hHeld => ?_)
    clear hK hq
    try simp only [Act.put, List.setIfInBounds_toArray, List.set_cons_zero, List.set_cons_succ]
    refine wpAnyH_takeL (i := 19) (v := ?vhy28) rfl (by kernel_rfl) (by kernel_rfl) (by kernel_rfl) (fun _ _ _ h => h) (Or.inl ⟨by rfl, ?hy28⟩) (by assumption) ?rhy28
    case hy28 => ((intro w hSw; (try dsimp only at hSw); go_simp); try with_reducible rfl)
    try simp only [Act.put, List.setIfInBounds_toArray, List.set_cons_zero, List.set_cons_succ]
    refine wpAnyH_takeL (i := 20) (v := ?vhy29) rfl (by kernel_rfl) (by kernel_rfl) (by kernel_rfl) (fun _ _ _ h => h) (Or.inl ⟨by rfl, ?hy29⟩) (by assumption) ?rhy29
    case hy29 => ((intro w hSw; (try dsimp only at hSw); go_simp); try with_reducible rfl)
    try simp only [Act.put, List.setIfInBounds_toArray, List.set_cons_zero, List.set_cons_succ]
    refine wpAnyH_done (by kernel_rfl) ?_ _
    refine NoPanic.normal ?_
    go_wp2
    go_ret
    exact ⟨rfl, hb3⟩
  · have e : decide (now = now2 ∧ xs.map Ak.bare = ys.map Ak.bare) = false := decide_eq_false (fun q => hn q.1)
    rw [e]
    have hne : (now == now2) = false := beq_false_of_ne hn
    clear e hn hq
    go_enter Tryd.func23, Tryd.ntmps23
    go_wp2_with fail
    refine wp_region_noPanic ?_
    refine wp_region_held_drew (S := fun W => (W.cell? ⟨B, 0, none⟩ = some (.int .i64 now) ∧ W.cell? ⟨B, 1, none⟩ = some (.slice A n c)) ∧ W.cell? ⟨B2, 0, none⟩ = some (.int .i64 now2) ∧ W.cell? ⟨B2, 1, none⟩ = some (.slice A2 n2 c2)) (by kernel_rfl) ⟨hc1, hc2⟩ (fun hHeld => ?_)
    refine wpAnyH_takeL (i := 0) (v := ?vhy30) rfl (by kernel_rfl) (by kernel_rfl) (by kernel_rfl) (fun _ _ _ h => h) (Or.inl ⟨by rfl, ?hy30⟩) (by assumption) ?rhy30
    case hy30 => ((intro w hSw; (try dsimp only at hSw); go_simp); try with_reducible rfl)
    try simp only [Act.put, List.setIfInBounds_toArray, List.set_cons_zero, List.set_cons_succ]
    refine wpAnyH_takeL (i := 1) (v := ?vhy31) rfl (by kernel_rfl) (by kernel_rfl) (by kernel_rfl) (fun _ _ _ h => h) (Or.inl ⟨by rfl, ?hy31⟩) (by assumption) ?rhy31
    case hy31 => ((intro w hSw; (try dsimp only at hSw); go_simp); try with_reducible rfl)
    try simp only [Act.put, List.setIfInBounds_toArray, List.set_cons_zero, List.set_cons_succ]
    refine wpAnyH_takeL (i := 2) (v := ?vhy32) rfl (by kernel_rfl) (by kernel_rfl) (by kernel_rfl) (fun _ _ _ h => h) (Or.inl ⟨by rfl, ?hy32⟩) (by assumption) ?rhy32
    case hy32 => ((intro w hSw; (try dsimp only at hSw); go_simp); try with_reducible rfl)
    try simp only [Act.put, List.setIfInBounds_toArray, List.set_cons_zero, List.set_cons_succ]
    refine wpAnyH_takeL (i := 3) (v := ?vhy33) rfl (by kernel_rfl) (by kernel_rfl) (by kernel_rfl) (fun _ _ _ h => h) (Or.inl ⟨by rfl, ?hy33⟩) (by assumption) ?rhy33
    case hy33 => ((intro w hSw; (try dsimp only at hSw); go_simp); try with_reducible rfl)
    try simp only [Act.put, List.setIfInBounds_toArray, List.set_cons_zero, List.set_cons_succ]
    refine wpAnyH_takeL (i := 4) (v := ?vhy34) rfl (by kernel_rfl) (by kernel_rfl) (by kernel_rfl) (fun _ _ _ h => h) (Or.inl ⟨by rfl, ?hy34⟩) (by assumption) ?rhy34
    case hy34 => ((intro w hSw; (try dsimp only at hSw); go_simp); try with_reducible rfl)
    try simp only [Act.put, List.setIfInBounds_toArray, List.set_cons_zero, List.set_cons_succ]
    refine wpAnyH_takeL (i := 5) (v := ?vhy35) rfl (by kernel_rfl) (by kernel_rfl) (by kernel_rfl) (fun _ _ _ h => h) (Or.inl ⟨by rfl, ?hy35⟩) (by assumption) ?rhy35
    case hy35 => ((intro w hSw; (try dsimp only at hSw); go_simp); try with_reducible rfl)
    try simp only [Act.put, List.setIfInBounds_toArray, List.set_cons_zero, List.set_cons_succ]
    refine wpAnyH_takeL (i := 6) (v := ?vhy36) rfl (by kernel_rfl) (by kernel_rfl) (by kernel_rfl) (fun _ _ _ h => h) (Or.inl ⟨by rfl, ?hy36⟩) (by assumption) ?rhy36
    case hy36 => ((intro w hSw; (try dsimp only at hSw); go_simp); try with_reducible rfl)
    try simp only [Act.put, List.setIfInBounds_toArray, List.set_cons_zero, List.set_cons_succ]
    refine wpAnyH_takeL (i := 7) (v := ?vhy37) rfl (by kernel_rfl) (by kernel_rfl) (by kernel_rfl) (fun _ _ _ h => h) (Or.inl ⟨by rfl, ?hy37⟩) (by assumption) ?rhy37
    case hy37 => ((intro w hSw; (try dsimp only at hSw); go_simp); try with_reducible rfl)
    try simp only [Act.put, List.setIfInBounds_toArray, List.set_cons_zero, List.set_cons_succ]
    refine wpAnyH_takeL (i := 8) (v := ?vhy38) rfl (by kernel_rfl) (by kernel_rfl) (by kernel_rfl) (fun _ _ _ h => h) (Or.inl ⟨by rfl, ?hy38⟩) (by assumption) ?rhy38
    case hy38 => ((intro w hSw; (try dsimp only at hSw); go_simp); try with_reducible rfl)
    try simp only [Act.put, List.setIfInBounds_toArray, List.set_cons_zero, List.set_cons_succ]
    refine wpAnyH_takeL (i := 9) (v := ?vhy39) rfl (by kernel_rfl) (by kernel_rfl) (by kernel_rfl) (fun _ _ _ h => h) (Or.inl ⟨by rfl, ?hy39⟩) (by assumption) ?rhy39
    case hy39 => ((intro w hSw; (try dsimp only at hSw); go_simp); try with_reducible rfl)
    try simp only [Act.put, List.setIfInBounds_toArray, List.set_cons_zero, List.set_cons_succ]
    refine wpAnyH_takeL (i := 10) (v := undef) rfl (by kernel_rfl) (by kernel_rfl) (by kernel_rfl) (fun _ _ _ h => h) (Or.inr ⟨by rfl, rfl⟩) (by assumption) ?_
    try simp only [Act.put, List.setIfInBounds_toArray, List.set_cons_zero, List.set_cons_succ]
    refine wpAnyH_takeL (i := 11) (v := undef) rfl (by kernel_rfl) (by kernel_rfl) (by kernel_rfl) (fun _ _ _ h => h) (Or.inr ⟨by rfl, rfl⟩) (by assumption) ?_
    try simp only [Act.put, List.setIfInBounds_toArray, List.set_cons_zero, List.set_cons_succ]
    refine wpAnyH_takeL (i := 12) (v := undef) rfl (by kernel_rfl) (by kernel_rfl) (by kernel_rfl) (fun _ _ _ h => h) (Or.inr ⟨by rfl, rfl⟩) (by assumption) ?_
    try simp only [Act.put, List.setIfInBounds_toArray, List.set_cons_zero, List.set_cons_succ]
    refine wpAnyH_takeL (i := 13) (v := undef) rfl (by kernel_rfl) (by kernel_rfl) (by kernel_rfl) (fun _ _ _ h => h) (Or.inr ⟨by rfl, rfl⟩) (by assumption) ?_
    try simp only [Act.put, List.setIfInBounds_toArray, List.set_cons_zero, List.set_cons_succ]
    refine wpAnyH_takeL (i := 14) (v := undef) rfl (by kernel_rfl) (by kernel_rfl) (by kernel_rfl) (fun _ _ _ h => h) (Or.inr ⟨by rfl, rfl⟩) (by assumption) ?_
    try simp only [Act.put, List.setIfInBounds_toArray, List.set_cons_zero, List.set_cons_succ]
    refine wpAnyH_takeL (i := 15) (v := undef) rfl (by kernel_rfl) (by kernel_rfl) (by kernel_rfl) (fun _ _ _ h => h) (Or.inr ⟨by rfl, rfl⟩) (by assumption) ?_
    try simp only [Act.put, List.setIfInBounds_toArray, List.set_cons_zero, List.set_cons_succ]
    refine wpAnyH_takeL (i := 16) (v := undef) rfl (by kernel_rfl) (by kernel_rfl) (by kernel_rfl) (fun _ _ _ h => h) (Or.inr ⟨by rfl, rfl⟩) (by assumption) ?_
    try simp only [Act.put, List.setIfInBounds_toArray, List.set_cons_zero, List.set_cons_succ]
    refine wpAnyH_takeL (i := 17) (v := undef) rfl (by kernel_rfl) (by kernel_rfl) (by kernel_rfl) (fun _ _ _ h => h) (Or.inr ⟨by rfl, rfl⟩) (by assumption) ?_
    try simp only [Act.put, List.setIfInBounds_toArray, List.set_cons_zero, List.set_cons_succ]
    refine wpAnyH_takeL (i := 18) (v := undef) rfl (by kernel_rfl) (by kernel_rfl) (by kernel_rfl) (fun _ _ _ h => h) (Or.inr ⟨by rfl, rfl⟩) (by assumption) ?_
    try simp only [Act.put, List.setIfInBounds_toArray, List.set_cons_zero, List.set_cons_succ]
    refine wpAnyH_takeL (i := 19) (v := ?vhy40) rfl (by kernel_rfl) (by kernel_rfl) (by kernel_rfl) (fun _ _ _ h => h) (Or.inl ⟨by rfl, ?hy40⟩) (by assumption) ?rhy40
    case hy40 => ((intro w hSw; (try dsimp only at hSw); go_simp); try with_reducible rfl)
    try simp only [Act.put, List.setIfInBounds_toArray, List.set_cons_zero, List.set_cons_succ]
    refine wpAnyH_takeL (i := 20) (v := ?vhy41) rfl (by kernel_rfl) (by kernel_rfl) (by kernel_rfl) (fun _ _ _ h => h) (Or.inl ⟨by rfl, ?hy41⟩) (by assumption) ?rhy41
    case hy41 => ((intro w hSw; (try dsimp only at hSw); go_simp); try with_reducible rfl)
    try simp only [Act.put, List.setIfInBounds_toArray, List.set_cons_zero, List.set_cons_succ]
    refine wpAnyH_done (by kernel_rfl) ?_ _
    refine NoPanic.normal ?_
    go_wp2
    go_ret
    exact ⟨rfl, hd⟩
end Go.Proofs.YtnjhhibjcfjhnaaDoor
