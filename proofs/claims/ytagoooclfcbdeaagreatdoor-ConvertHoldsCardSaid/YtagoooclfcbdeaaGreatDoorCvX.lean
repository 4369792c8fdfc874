/- Law 06: ConvertHolds. -/
import Derived.Test.YtagoooclfcbdeaaGreatDoorCvV
namespace Go.Proofs.YtagoooclfcbdeaaGreatDoor
open Go.RowKit
set_option linter.unusedVariables false
attribute [local go_sem] strL_size

theorem holds_boxes (w : World) (c d : Cl) (x y : Vl) :
    CBox ((((w.alloc (.cells #[.string (strL c.n), .int .i64 c.t, .int .i64 c.z, .bool c.nl] 24)).alloc (.cells #[.string (strL d.n), .int .i64 d.t, .int .i64 d.z, .bool d.nl] 24)).alloc (.cells #[.int .i64 x.k, .int .i64 x.i, .int .u64 x.u, .string (strL x.s)] 28)).alloc (.cells #[.int .i64 y.k, .int .i64 y.i, .int .u64 y.u, .string (strL y.s)] 28)) w.heap.size c ∧
    CBox ((((w.alloc (.cells #[.string (strL c.n), .int .i64 c.t, .int .i64 c.z, .bool c.nl] 24)).alloc (.cells #[.string (strL d.n), .int .i64 d.t, .int .i64 d.z, .bool d.nl] 24)).alloc (.cells #[.int .i64 x.k, .int .i64 x.i, .int .u64 x.u, .string (strL x.s)] 28)).alloc (.cells #[.int .i64 y.k, .int .i64 y.i, .int .u64 y.u, .string (strL y.s)] 28)) (w.heap.size + 1) d ∧
    VBox ((((w.alloc (.cells #[.string (strL c.n), .int .i64 c.t, .int .i64 c.z, .bool c.nl] 24)).alloc (.cells #[.string (strL d.n), .int .i64 d.t, .int .i64 d.z, .bool d.nl] 24)).alloc (.cells #[.int .i64 x.k, .int .i64 x.i, .int .u64 x.u, .string (strL x.s)] 28)).alloc (.cells #[.int .i64 y.k, .int .i64 y.i, .int .u64 y.u, .string (strL y.s)] 28)) (w.heap.size + 1 + 1) x.k x.i x.u (strL x.s) ∧
    VBox ((((w.alloc (.cells #[.string (strL c.n), .int .i64 c.t, .int .i64 c.z, .bool c.nl] 24)).alloc (.cells #[.string (strL d.n), .int .i64 d.t, .int .i64 d.z, .bool d.nl] 24)).alloc (.cells #[.int .i64 x.k, .int .i64 x.i, .int .u64 x.u, .string (strL x.s)] 28)).alloc (.cells #[.int .i64 y.k, .int .i64 y.i, .int .u64 y.u, .string (strL y.s)] 28)) (w.heap.size + 1 + 1 + 1) y.k y.i y.u (strL y.s) ∧
    Below w.heap.size w ((((w.alloc (.cells #[.string (strL c.n), .int .i64 c.t, .int .i64 c.z, .bool c.nl] 24)).alloc (.cells #[.string (strL d.n), .int .i64 d.t, .int .i64 d.z, .bool d.nl] 24)).alloc (.cells #[.int .i64 x.k, .int .i64 x.i, .int .u64 x.u, .string (strL x.s)] 28)).alloc (.cells #[.int .i64 y.k, .int .i64 y.i, .int .u64 y.u, .string (strL y.s)] 28)) := by
  obtain ⟨e1, e2, e3, b3⟩ := three_boxes w c d x
  generalize h3 : (((w.alloc (.cells #[.string (strL c.n), .int .i64 c.t, .int .i64 c.z, .bool c.nl] 24)).alloc (.cells #[.string (strL d.n), .int .i64 d.t, .int .i64 d.z, .bool d.nl] 24)).alloc (.cells #[.int .i64 x.k, .int .i64 x.i, .int .u64 x.u, .string (strL x.s)] 28)) = w3 at *
  have z3 : w3.heap.size = w.heap.size + 1 + 1 + 1 := by rw [← h3]; simp
  have e4 := VBox.new w3 y.k y.i y.u (strL y.s)
  have b4 := gr_alloc b3 (.cells #[.int .i64 y.k, .int .i64 y.i, .int .u64 y.u, .string (strL y.s)] 28)
  have ha := (Below.refl _ w3).alloc (Nat.le_refl _) (.cells #[.int .i64 y.k, .int .i64 y.i, .int .u64 y.u, .string (strL y.s)] 28)
  rw [z3] at e4
  exact ⟨e1.below ha e1.lt, e2.below ha e2.lt, e3.below ha e3.lt, e4, b4⟩
set_option maxRecDepth 100000 in
theorem holds_w1 (c d : Cl) (x y : Vl) (w : World) (hE : Env w) (h1 : decide ((c.n.length : Int) ≤ 40) = false) : Calls Tryz.prog 4 #[c.val, d.val, x.val, y.val] w (TrueP w) := by
  obtain ⟨cn, ct, cz, cl⟩ := c
  obtain ⟨dn, dt, dz, dl⟩ := d
  obtain ⟨xk, xi, xu, xs⟩ := x
  obtain ⟨yk, yi, yu, ys⟩ := y
  simp only [Cl.val, Vl.val, valV] at *
  obtain ⟨hC1, hD1, hX1, hY1, hb1⟩ := holds_boxes w ⟨cn, ct, cz, cl⟩ ⟨dn, dt, dz, dl⟩ ⟨xk, xi, xu, xs⟩ ⟨yk, yi, yu, ys⟩
  dsimp only at hC1 hD1 hX1 hY1 hb1
  have hE1 := hE.below hb1
  have hW := Lib.hid (fun W h => lworks_any W h)
  have hS1 := Lib.hid (fun W => lshort_any ⟨cn, ct, cz, cl⟩ W)
  have hS2 := Lib.hid (fun W => lshort_any ⟨dn, dt, dz, dl⟩ W)
  simp only [Cl.val] at hS1 hS2
  rw [h1] at hS1
  go_enter Tryz.func4, Tryz.ntmps4
  go_wp2_with fail
  refine (hS1.out _).mono ?_
  rintro e w2 ⟨rfl, g1⟩
  have hlt := hY1.lt
  have hC2 := hC1.below g1 (by omega)
  have hD2 := hD1.below g1 (by omega)
  have hX2 := hX1.below g1 (by omega)
  have hY2 := hY1.below g1 (by omega)
  have hb2 := gr hb1 g1
  have hE2 := hE1.below g1
  clear hlt hC1 hD1 hX1 hY1 hb1 hE1
  clear g1 hS1 hE
  have cc := hC2.cells
  have cd := hD2.cells
  have cx := hX2.cells
  have cy := hY2.cells
  dsimp only at cc cd cx cy
  clear hS2
  go_wp2_with fail
  refine (hW.out _ hE2).mono ?_
  rintro e w20 ⟨rfl, g20⟩
  have hb20 := gr hb2 g20
  clear g20 hW
  go_wp2
  go_ret
  exact ⟨rfl, hb20⟩
set_option maxRecDepth 100000 in
theorem holds_w2 (c d : Cl) (x y : Vl) (w : World) (hE : Env w) (h1 : decide ((c.n.length : Int) ≤ 40) = true) (h2 : decide ((d.n.length : Int) ≤ 40) = false) : Calls Tryz.prog 4 #[c.val, d.val, x.val, y.val] w (TrueP w) := by
  obtain ⟨cn, ct, cz, cl⟩ := c
  obtain ⟨dn, dt, dz, dl⟩ := d
  obtain ⟨xk, xi, xu, xs⟩ := x
  obtain ⟨yk, yi, yu, ys⟩ := y
  simp only [Cl.val, Vl.val, valV] at *
  obtain ⟨hC1, hD1, hX1, hY1, hb1⟩ := holds_boxes w ⟨cn, ct, cz, cl⟩ ⟨dn, dt, dz, dl⟩ ⟨xk, xi, xu, xs⟩ ⟨yk, yi, yu, ys⟩
  dsimp only at hC1 hD1 hX1 hY1 hb1
  have hE1 := hE.below hb1
  have hW := Lib.hid (fun W h => lworks_any W h)
  have hS1 := Lib.hid (fun W => lshort_any ⟨cn, ct, cz, cl⟩ W)
  have hS2 := Lib.hid (fun W => lshort_any ⟨dn, dt, dz, dl⟩ W)
  simp only [Cl.val] at hS1 hS2
  rw [h1] at hS1
  go_enter Tryz.func4, Tryz.ntmps4
  go_wp2_with fail
  refine (hS1.out _).mono ?_
  rintro e w2 ⟨rfl, g1⟩
  have hlt := hY1.lt
  have hC2 := hC1.below g1 (by omega)
  have hD2 := hD1.below g1 (by omega)
  have hX2 := hX1.below g1 (by omega)
  have hY2 := hY1.below g1 (by omega)
  have hb2 := gr hb1 g1
  have hE2 := hE1.below g1
  clear hlt hC1 hD1 hX1 hY1 hb1 hE1
  clear g1 hS1 hE
  have cc := hC2.cells
  have cd := hD2.cells
  have cx := hX2.cells
  have cy := hY2.cells
  dsimp only at cc cd cx cy
  rw [h2] at hS2
  go_wp2_with fail
  refine (hS2.out _).mono ?_
  rintro e w3 ⟨rfl, g2⟩
  clear cc cd cx cy
  have hlt := hY2.lt
  have hC3 := hC2.below g2 (by omega)
  have hD3 := hD2.below g2 (by omega)
  have hX3 := hX2.below g2 (by omega)
  have hY3 := hY2.below g2 (by omega)
  have hb3 := gr hb2 g2
  have hE3 := hE2.below g2
  clear hlt hC2 hD2 hX2 hY2 hb2 hE2
  clear g2 hS2
  have cc := hC3.cells
  have cd := hD3.cells
  have cx := hX3.cells
  have cy := hY3.cells
  dsimp only at cc cd cx cy
  go_wp2_with fail
  refine (hW.out _ hE3).mono ?_
  rintro e w20 ⟨rfl, g20⟩
  have hb20 := gr hb3 g20
  clear g20 hW
  go_wp2
  go_ret
  exact ⟨rfl, hb20⟩
set_option maxRecDepth 100000 in
theorem holds_w3 (c d : Cl) (x y : Vl) (w : World) (hE : Env w) (h1 : decide ((c.n.length : Int) ≤ 40) = true) (h2 : decide ((d.n.length : Int) ≤ 40) = true) (h3 : decide (300 < (x.s.length : Int)) = true) : Calls Tryz.prog 4 #[c.val, d.val, x.val, y.val] w (TrueP w) := by
  obtain ⟨cn, ct, cz, cl⟩ := c
  obtain ⟨dn, dt, dz, dl⟩ := d
  obtain ⟨xk, xi, xu, xs⟩ := x
  obtain ⟨yk, yi, yu, ys⟩ := y
  simp only [Cl.val, Vl.val, valV] at *
  obtain ⟨hC1, hD1, hX1, hY1, hb1⟩ := holds_boxes w ⟨cn, ct, cz, cl⟩ ⟨dn, dt, dz, dl⟩ ⟨xk, xi, xu, xs⟩ ⟨yk, yi, yu, ys⟩
  dsimp only at hC1 hD1 hX1 hY1 hb1
  have hE1 := hE.below hb1
  have hW := Lib.hid (fun W h => lworks_any W h)
  have hS1 := Lib.hid (fun W => lshort_any ⟨cn, ct, cz, cl⟩ W)
  have hS2 := Lib.hid (fun W => lshort_any ⟨dn, dt, dz, dl⟩ W)
  simp only [Cl.val] at hS1 hS2
  rw [h1] at hS1
  go_enter Tryz.func4, Tryz.ntmps4
  go_wp2_with fail
  refine (hS1.out _).mono ?_
  rintro e w2 ⟨rfl, g1⟩
  have hlt := hY1.lt
  have hC2 := hC1.below g1 (by omega)
  have hD2 := hD1.below g1 (by omega)
  have hX2 := hX1.below g1 (by omega)
  have hY2 := hY1.below g1 (by omega)
  have hb2 := gr hb1 g1
  have hE2 := hE1.below g1
  clear hlt hC1 hD1 hX1 hY1 hb1 hE1
  clear g1 hS1 hE
  have cc := hC2.cells
  have cd := hD2.cells
  have cx := hX2.cells
  have cy := hY2.cells
  dsimp only at cc cd cx cy
  rw [h2] at hS2
  go_wp2_with fail
  refine (hS2.out _).mono ?_
  rintro e w3 ⟨rfl, g2⟩
  clear cc cd cx cy
  have hlt := hY2.lt
  have hC3 := hC2.below g2 (by omega)
  have hD3 := hD2.below g2 (by omega)
  have hX3 := hX2.below g2 (by omega)
  have hY3 := hY2.below g2 (by omega)
  have hb3 := gr hb2 g2
  have hE3 := hE2.below g2
  clear hlt hC2 hD2 hX2 hY2 hb2 hE2
  clear g2 hS2
  have cc := hC3.cells
  have cd := hD3.cells
  have cx := hX3.cells
  have cy := hY3.cells
  dsimp only at cc cd cx cy
  go_wp2_with fail
  refine (hW.out _ hE3).mono ?_
  rintro e w20 ⟨rfl, g20⟩
  have hb20 := gr hb3 g20
  clear g20 hW
  go_wp2
  go_ret
  exact ⟨rfl, hb20⟩
set_option maxRecDepth 100000 in
theorem holds_w4 (c d : Cl) (x y : Vl) (w : World) (hE : Env w) (h1 : decide ((c.n.length : Int) ≤ 40) = true) (h2 : decide ((d.n.length : Int) ≤ 40) = true) (h3 : decide (300 < (x.s.length : Int)) = false) (h4 : decide (300 < (y.s.length : Int)) = true) : Calls Tryz.prog 4 #[c.val, d.val, x.val, y.val] w (TrueP w) := by
  obtain ⟨cn, ct, cz, cl⟩ := c
  obtain ⟨dn, dt, dz, dl⟩ := d
  obtain ⟨xk, xi, xu, xs⟩ := x
  obtain ⟨yk, yi, yu, ys⟩ := y
  simp only [Cl.val, Vl.val, valV] at *
  obtain ⟨hC1, hD1, hX1, hY1, hb1⟩ := holds_boxes w ⟨cn, ct, cz, cl⟩ ⟨dn, dt, dz, dl⟩ ⟨xk, xi, xu, xs⟩ ⟨yk, yi, yu, ys⟩
  dsimp only at hC1 hD1 hX1 hY1 hb1
  have hE1 := hE.below hb1
  have hW := Lib.hid (fun W h => lworks_any W h)
  have hS1 := Lib.hid (fun W => lshort_any ⟨cn, ct, cz, cl⟩ W)
  have hS2 := Lib.hid (fun W => lshort_any ⟨dn, dt, dz, dl⟩ W)
  simp only [Cl.val] at hS1 hS2
  rw [h1] at hS1
  go_enter Tryz.func4, Tryz.ntmps4
  go_wp2_with fail
  refine (hS1.out _).mono ?_
  rintro e w2 ⟨rfl, g1⟩
  have hlt := hY1.lt
  have hC2 := hC1.below g1 (by omega)
  have hD2 := hD1.below g1 (by omega)
  have hX2 := hX1.below g1 (by omega)
  have hY2 := hY1.below g1 (by omega)
  have hb2 := gr hb1 g1
  have hE2 := hE1.below g1
  clear hlt hC1 hD1 hX1 hY1 hb1 hE1
  clear g1 hS1 hE
  have cc := hC2.cells
  have cd := hD2.cells
  have cx := hX2.cells
  have cy := hY2.cells
  dsimp only at cc cd cx cy
  rw [h2] at hS2
  go_wp2_with fail
  refine (hS2.out _).mono ?_
  rintro e w3 ⟨rfl, g2⟩
  clear cc cd cx cy
  have hlt := hY2.lt
  have hC3 := hC2.below g2 (by omega)
  have hD3 := hD2.below g2 (by omega)
  have hX3 := hX2.below g2 (by omega)
  have hY3 := hY2.below g2 (by omega)
  have hb3 := gr hb2 g2
  have hE3 := hE2.below g2
  clear hlt hC2 hD2 hX2 hY2 hb2 hE2
  clear g2 hS2
  have cc := hC3.cells
  have cd := hD3.cells
  have cx := hX3.cells
  have cy := hY3.cells
  dsimp only at cc cd cx cy
  go_wp2_with fail
  refine (hW.out _ hE3).mono ?_
  rintro e w20 ⟨rfl, g20⟩
  have hb20 := gr hb3 g20
  clear g20 hW
  go_wp2
  go_ret
  exact ⟨rfl, hb20⟩
set_option maxRecDepth 100000 in
set_option maxHeartbeats 8000000 in
theorem holds_ok (c d : Cl) (x y : Vl) (w : World) (hE : Env w) (hx : x.Wf) (hy : y.Wf) (h1 : decide ((c.n.length : Int) ≤ 40) = true) (h2 : decide ((d.n.length : Int) ≤ 40) = true) (h3 : decide (300 < (x.s.length : Int)) = false) (h4 : decide (300 < (y.s.length : Int)) = false) : Calls Tryz.prog 4 #[c.val, d.val, x.val, y.val] w (TrueP w) := by
  have l1 : c.n.length ≤ 40 := by have := of_decide_eq_true h1; omega
  have l2 : d.n.length ≤ 40 := by have := of_decide_eq_true h2; omega
  have hSu := fun W h => sure_any c d W h (by omega) (by omega)
  have hCx := fun W h => convert_any c d x W h (by omega) (by omega) hx
  have hCy := fun W h => convert_any c d y W h (by omega) (by omega) hy
  have hFi := fun W h => sFits_any c x W h (by omega) hx
  have hBack : (convV c d x).2 = 0 → ∀ W, Env W → Calls Tryz.prog 10 #[d.val, c.val, (convV c d x).1.val] W fun e w' => e = .returned (.tuple #[x.val, .int .i64 0]) ∧ Below W.heap.size W w' := by
    intro h0 W hW
    have := convert_any d c (convV c d x).1 W hW (by omega) (by omega) (conv_wf c d hx)
    rw [conv_back hx h0] at this
    exact this
  have hA : (sureV c d).2 = 0 → (sureV c d).1 = true → fitV c x = 0 → (convV c d x).2 = 0 := fun a b e => sure_ok hx (Prod.ext b a) e
  have hE' : ∃ E : Bool, (E = true ↔ x = y) ∧ ((convV c d x).2 = 0 → (convV c d y).2 = 0 → (E = true ↔ (convV c d x).1 = (convV c d y).1)) := by
    by_cases e : x = y
    · exact ⟨true, by simp [e], fun a b => by simp [e]⟩
    · exact ⟨false, by simp [e], fun a b => by rw [conv_inj hx hy a b]; simp [e]⟩
  obtain ⟨E, hE1', hE2'⟩ := hE'
  generalize (sureV c d).1 = sb at *
  generalize (sureV c d).2 = sn at *
  generalize (convV c d x).1 = p at *
  generalize (convV c d x).2 = f at *
  generalize (convV c d y).1 = q at *
  generalize (convV c d y).2 = g at *
  generalize fitV c x = F at *
  have hq1 := Lib.hid (fun W => eql_iff (x := x) (y := x) (E := true) (by simp) W)
  have hq3 := Lib.hid (fun W => eql_iff hE1' W)
  have hq2 : ∃ E2 : Bool, (f = 0 → g = 0 → E2 = E) ∧ ∀ W, (binOp .eql 28 (.agg #[.int .i64 p.k, .int .i64 p.i, .int .u64 p.u, .string (strL p.s)]) (.agg #[.int .i64 q.k, .int .i64 q.i, .int .u64 q.u, .string (strL q.s)])).run Tryz.prog W = .ok (.bool E2) W := by
    by_cases e : p = q
    · exact ⟨true, fun a b => ((hE2' a b).2 e).symm, fun W => eql_iff (by simp [e]) W⟩
    · refine ⟨false, fun a b => ?_, fun W => eql_iff (by simp [e]) W⟩
      cases E with
      | false => rfl
      | true => exact absurd ((hE2' a b).1 rfl) e
  obtain ⟨E2, hE3', hq2⟩ := hq2
  replace hq2 := Lib.hid hq2
  obtain ⟨pk, pi, pu, ps⟩ := p
  obtain ⟨qk, qi, qu, qs⟩ := q
  dsimp only at hq2
  clear hE1' hE2' l1 l2 hx hy
  replace hSu := Lib.hid hSu
  replace hCx := Lib.hid hCx
  replace hCy := Lib.hid hCy
  replace hFi := Lib.hid hFi
  have hB := Lib.hid hBack
  clear hBack
  replace hA := Lib.hid hA
  have hEq := Lib.hid hE3'
  clear hE3'
  obtain ⟨cn, ct, cz, cl⟩ := c
  obtain ⟨dn, dt, dz, dl⟩ := d
  obtain ⟨xk, xi, xu, xs⟩ := x
  obtain ⟨yk, yi, yu, ys⟩ := y
  simp only [Cl.val, Vl.val, valV] at *
  obtain ⟨hC1, hD1, hX1, hY1, hb1⟩ := holds_boxes w ⟨cn, ct, cz, cl⟩ ⟨dn, dt, dz, dl⟩ ⟨xk, xi, xu, xs⟩ ⟨yk, yi, yu, ys⟩
  dsimp only at hC1 hD1 hX1 hY1 hb1
  have hE1 := hE.below hb1
  have hW := Lib.hid (fun W h => lworks_any W h)
  have hS1 := Lib.hid (fun W => lshort_any ⟨cn, ct, cz, cl⟩ W)
  have hS2 := Lib.hid (fun W => lshort_any ⟨dn, dt, dz, dl⟩ W)
  simp only [Cl.val] at hS1 hS2
  rw [h1] at hS1
  go_enter Tryz.func4, Tryz.ntmps4
  go_wp2_with fail
  refine (hS1.out _).mono ?_
  rintro e w2 ⟨rfl, g1⟩
  have hlt := hY1.lt
  have hC2 := hC1.below g1 (by omega)
  have hD2 := hD1.below g1 (by omega)
  have hX2 := hX1.below g1 (by omega)
  have hY2 := hY1.below g1 (by omega)
  have hb2 := gr hb1 g1
  have hE2 := hE1.below g1
  clear hlt hC1 hD1 hX1 hY1 hb1 hE1
  clear g1 hS1 hE
  have cc := hC2.cells
  have cd := hD2.cells
  have cx := hX2.cells
  have cy := hY2.cells
  dsimp only at cc cd cx cy
  rw [h2] at hS2
  go_wp2_with fail
  refine (hS2.out _).mono ?_
  rintro e w3 ⟨rfl, g2⟩
  clear cc cd cx cy
  have hlt := hY2.lt
  have hC3 := hC2.below g2 (by omega)
  have hD3 := hD2.below g2 (by omega)
  have hX3 := hX2.below g2 (by omega)
  have hY3 := hY2.below g2 (by omega)
  have hb3 := gr hb2 g2
  have hE3 := hE2.below g2
  clear hlt hC2 hD2 hX2 hY2 hb2 hE2
  clear g2 hS2
  have cc := hC3.cells
  have cd := hD3.cells
  have cx := hX3.cells
  have cy := hY3.cells
  dsimp only at cc cd cx cy
  go_wp2_with fail
  refine (hSu.out _ hE3).mono ?_
  rintro e w30 ⟨rfl, g2⟩
  clear cc cd cx cy
  have hlt := hY3.lt
  have hC30 := hC3.below g2 (by omega)
  have hD30 := hD3.below g2 (by omega)
  have hX30 := hX3.below g2 (by omega)
  have hY30 := hY3.below g2 (by omega)
  have hb30 := gr hb3 g2
  have hE30 := hE3.below g2
  clear hlt hC3 hD3 hX3 hY3 hb3 hE3
  clear g2 hSu
  have cc := hC30.cells
  have cd := hD30.cells
  have cx := hX30.cells
  have cy := hY30.cells
  dsimp only at cc cd cx cy
  go_wp2_with fail
  refine (hCx.out _ hE30).mono ?_
  rintro e w4 ⟨rfl, g2⟩
  clear cc cd cx cy
  have g3 := gr_alloc g2 (.cells #[.int .i64 pk, .int .i64 pi, .int .u64 pu, .string (strL ps)] 28)
  have hP5 := VBox.new w4 pk pi pu (strL ps)
  have hlt := hY30.lt
  have hC5 := hC30.below g3 (by omega)
  have hD5 := hD30.below g3 (by omega)
  have hX5 := hX30.below g3 (by omega)
  have hY5 := hY30.below g3 (by omega)
  have hb5 := gr hb30 g3
  have hE5 := hE30.below g3
  clear hlt hC30 hD30 hX30 hY30 hb30 hE30
  clear g2 g3 hCx
  have cc := hC5.cells
  have cd := hD5.cells
  have cx := hX5.cells
  have cy := hY5.cells
  dsimp only at cc cd cx cy
  go_wp2_with fail
  refine (hCy.out _ hE5).mono ?_
  rintro e w6 ⟨rfl, g2⟩
  clear cc cd cx cy
  have g3 := gr_alloc g2 (.cells #[.int .i64 qk, .int .i64 qi, .int .u64 qu, .string (strL qs)] 28)
  have hQ7 := VBox.new w6 qk qi qu (strL qs)
  have hP7 := hP5.below g3 hP5.lt
  have hlt := hY5.lt
  have hC7 := hC5.below g3 (by omega)
  have hD7 := hD5.below g3 (by omega)
  have hX7 := hX5.below g3 (by omega)
  have hY7 := hY5.below g3 (by omega)
  have hb7 := gr hb5 g3
  have hE7 := hE5.below g3
  clear hlt hC5 hD5 hX5 hY5 hb5 hE5
  clear g2 g3 hCy hP5
  have cc := hC7.cells
  have cd := hD7.cells
  have cx := hX7.cells
  have cy := hY7.cells
  dsimp only at cc cd cx cy
  have cp := hP7.cells
  have cq := hQ7.cells
  by_cases hsn : sn = 0
  · subst hsn
    cases sb
    · clear hFi
      -- behind region 6: was the value converted?
      by_cases hf0 : f = 0
      · subst hf0
        clear hA
        have hBk := hB.out (by simp)
        replace hBk := Lib.hid hBk
        clear hB
        -- behind region 6, where the value was converted
        go_wp2_with (go_at_call 12; refine (lnum_any _ _).mono ?_; rintro e w' ⟨rfl, rfl⟩)
        refine (hBk.out _ hE7).mono ?_
        rintro e w8 ⟨rfl, g8⟩
        clear cc cd cx cy
        clear cp cq hBk
        have g9 := gr_alloc g8 (.cells #[.int .i64 xk, .int .i64 xi, .int .u64 xu, .string (strL xs)] 28)
        have hZ10 := VBox.new w8 xk xi xu (strL xs)
        have hP10 := hP7.below g9 hP7.lt
        have hQ10 := hQ7.below g9 hQ7.lt
        have hlt := hY7.lt
        have hC10 := hC7.below g9 (by omega)
        have hD10 := hD7.below g9 (by omega)
        have hX10 := hX7.below g9 (by omega)
        have hY10 := hY7.below g9 (by omega)
        have hb10 := gr hb7 g9
        have hE10 := hE7.below g9
        clear hlt hC7 hD7 hX7 hY7 hb7 hE7
        clear g8 g9 hP7 hQ7
        go_upto_region 11 with fail
        obtain ⟨w10, hw10⟩ : ∃ w10, (w8.alloc (.cells #[.int .i64 xk, .int .i64 xi, .int .u64 xu, .string (strL xs)] 28)) = w10 := ⟨_, rfl⟩
        rw [hw10] at hZ10 hP10 hQ10 hX10 hY10 hb10 hE10 hC10 hD10 ⊢
        clear hw10 hC10 hD10
        have hE11 : Env w10.drew := hE10.below (Below.refl w10.heap.size w10).drew
        have hb11 := hb10.drew
        have hX11 : VBox w10.drew _ _ _ _ _ := hX10
        have hY11 : VBox w10.drew _ _ _ _ _ := hY10
        have hZ11 : VBox w10.drew _ _ _ _ _ := hZ10
        have hP11 : VBox w10.drew _ _ _ _ _ := hP10
        have hQ11 : VBox w10.drew _ _ _ _ _ := hQ10
        clear hX10 hY10 hZ10 hP10 hQ10 hE10 hb10
        refine wp_region_held_drew (S := fun W' => (W'.cell? ⟨w8.heap.size, 0, none⟩ = some (.int .i64 xk) ∧ W'.cell? ⟨w8.heap.size, 1, none⟩ = some (.int .i64 xi) ∧ W'.cell? ⟨w8.heap.size, 2, none⟩ = some (.int .u64 xu) ∧ W'.cell? ⟨w8.heap.size, 3, none⟩ = some (.string (strL xs))) ∧ (W'.cell? ⟨w.heap.size + 1 + 1, 0, none⟩ = some (.int .i64 xk) ∧ W'.cell? ⟨w.heap.size + 1 + 1, 1, none⟩ = some (.int .i64 xi) ∧ W'.cell? ⟨w.heap.size + 1 + 1, 2, none⟩ = some (.int .u64 xu) ∧ W'.cell? ⟨w.heap.size + 1 + 1, 3, none⟩ = some (.string (strL xs))) ∧ (W'.cell? ⟨w.heap.size + 1 + 1 + 1, 0, none⟩ = some (.int .i64 yk) ∧ W'.cell? ⟨w.heap.size + 1 + 1 + 1, 1, none⟩ = some (.int .i64 yi) ∧ W'.cell? ⟨w.heap.size + 1 + 1 + 1, 2, none⟩ = some (.int .u64 yu) ∧ W'.cell? ⟨w.heap.size + 1 + 1 + 1, 3, none⟩ = some (.string (strL ys))) ∧ (W'.cell? ⟨w4.heap.size, 0, none⟩ = some (.int .i64 pk) ∧ W'.cell? ⟨w4.heap.size, 1, none⟩ = some (.int .i64 pi) ∧ W'.cell? ⟨w4.heap.size, 2, none⟩ = some (.int .u64 pu) ∧ W'.cell? ⟨w4.heap.size, 3, none⟩ = some (.string (strL ps))) ∧ W'.cell? ⟨w6.heap.size, 0, none⟩ = some (.int .i64 qk) ∧ W'.cell? ⟨w6.heap.size, 1, none⟩ = some (.int .i64 qi) ∧ W'.cell? ⟨w6.heap.size, 2, none⟩ = some (.int .u64 qu) ∧ W'.cell? ⟨w6.heap.size, 3, none⟩ = some (.string (strL qs))) (by kernel_rfl) ⟨hZ11.cells, hX11.cells, hY11.cells, hP11.cells, hQ11.cells⟩ (fun hHeld => ?_)
        have hq1 := hq1.out
        have hq2 := hq2.out
        have hq3 := hq3.out
        refine wpAnyH_takeL (i := 0) (v := ?vhy1) rfl (by kernel_rfl) (by kernel_rfl) (by kernel_rfl) (fun _ _ _ h => h) (Or.inl ⟨by rfl, ?hy1⟩) (by assumption) ?rhy1
        case hy1 => ((intro w hSw; (try dsimp only at hSw); go_simp); try with_reducible rfl)
        try simp only [Act.put, List.setIfInBounds_toArray, List.set_cons_zero, List.set_cons_succ]
        refine wpAnyH_takeL (i := 1) (v := ?vhy2) rfl (by kernel_rfl) (by kernel_rfl) (by kernel_rfl) (fun _ _ _ h => h) (Or.inl ⟨by rfl, ?hy2⟩) (by assumption) ?rhy2
        case hy2 => ((intro w hSw; (try dsimp only at hSw); go_simp); try with_reducible rfl)
        try simp only [Act.put, List.setIfInBounds_toArray, List.set_cons_zero, List.set_cons_succ]
        refine wpAnyH_takeL (i := 2) (v := ?vhy3) rfl (by kernel_rfl) (by kernel_rfl) (by kernel_rfl) (fun _ _ _ h => h) (Or.inl ⟨by rfl, ?hy3⟩) (by assumption) ?rhy3
        case hy3 => ((intro w hSw; (try dsimp only at hSw); go_simp); try with_reducible rfl)
        try simp only [Act.put, List.setIfInBounds_toArray, List.set_cons_zero, List.set_cons_succ]
        refine wpAnyH_takeL (i := 3) (v := ?vhy4) rfl (by kernel_rfl) (by kernel_rfl) (by kernel_rfl) (fun _ _ _ h => h) (Or.inl ⟨by rfl, ?hy4⟩) (by assumption) ?rhy4
        case hy4 => ((intro w hSw; (try dsimp only at hSw); go_simp); try with_reducible rfl)
        try simp only [Act.put, List.setIfInBounds_toArray, List.set_cons_zero, List.set_cons_succ]
        refine wpAnyH_takeL (i := 4) (v := ?vhy5) rfl (by kernel_rfl) (by kernel_rfl) (by kernel_rfl) (fun _ _ _ h => h) (Or.inl ⟨by rfl, ?hy5⟩) (by assumption) ?rhy5
        case hy5 => ((intro w hSw; (try dsimp only at hSw); go_simp); try with_reducible rfl)
        try simp only [Act.put, List.setIfInBounds_toArray, List.set_cons_zero, List.set_cons_succ]
        refine wpAnyH_ready (rs := [5]) (by kernel_rfl) (by simp) ?_
        refine AllReadyH.consL (i := 5) rfl (fun K hK => ?_) AllReadyH.nil
        go_simp
        refine (lnum_any _ _).mono ?_
        rintro e w' ⟨rfl, rfl⟩
        refine hK.out _ _ hHeld (fun hHeld2 => ?_)
        refine wpAnyH_takeL (i := 6) (v := ?vhy6) rfl (by kernel_rfl) (by kernel_rfl) (by kernel_rfl) (fun _ _ _ h => h) (Or.inl ⟨by rfl, ?hy6⟩) (by assumption) ?rhy6
        case hy6 => ((intro w hSw; (try dsimp only at hSw); go_simp); try with_reducible rfl)
        try simp only [Act.put, List.setIfInBounds_toArray, List.set_cons_zero, List.set_cons_succ]
        refine wpAnyH_takeL (i := 7) (v := ?vhy7) rfl (by kernel_rfl) (by kernel_rfl) (by kernel_rfl) (fun _ _ _ h => h) (Or.inl ⟨by rfl, ?hy7⟩) (by assumption) ?rhy7
        case hy7 => ((intro w hSw; (try dsimp only at hSw); go_simp); try with_reducible rfl)
        try simp only [Act.put, List.setIfInBounds_toArray, List.set_cons_zero, List.set_cons_succ]
        refine wpAnyH_takeL (i := 8) (v := ?vhy8) rfl (by kernel_rfl) (by kernel_rfl) (by kernel_rfl) (fun _ _ _ h => h) (Or.inl ⟨by rfl, ?hy8⟩) (by assumption) ?rhy8
        case hy8 => ((intro w hSw; (try dsimp only at hSw); go_simp); try with_reducible rfl)
        try simp only [Act.put, List.setIfInBounds_toArray, List.set_cons_zero, List.set_cons_succ]
        refine wpAnyH_takeL (i := 9) (v := ?vhy9) rfl (by kernel_rfl) (by kernel_rfl) (by kernel_rfl) (fun _ _ _ h => h) (Or.inl ⟨by rfl, ?hy9⟩) (by assumption) ?rhy9
        case hy9 => ((intro w hSw; (try dsimp only at hSw); go_simp); try with_reducible rfl)
        try simp only [Act.put, List.setIfInBounds_toArray, List.set_cons_zero, List.set_cons_succ]
        refine wpAnyH_ready (rs := [10]) (by kernel_rfl) (by simp) ?_
        refine AllReadyH.consL (i := 10) rfl (fun K hK => ?_) AllReadyH.nil
        go_simp
        refine (lnum_any _ _).mono ?_
        rintro e w' ⟨rfl, rfl⟩
        refine hK.out _ _ hHeld (fun hHeld3 => ?_)
        by_cases hg0 : g = 0
        · subst hg0
          have hee := hEq.out (by simp) (by simp)
          subst hee
          refine wpAnyH_takeL (i := 11) (v := ?vhy10) rfl (by kernel_rfl) (by kernel_rfl) (by kernel_rfl) (fun _ _ _ h => h) (Or.inl ⟨by rfl, ?hy10⟩) (by assumption) ?rhy10
          case hy10 => ((intro w hSw; (try dsimp only at hSw); go_simp); try with_reducible rfl)
          try simp only [Act.put, List.setIfInBounds_toArray, List.set_cons_zero, List.set_cons_succ]
          refine wpAnyH_takeL (i := 12) (v := ?vhy11) rfl (by kernel_rfl) (by kernel_rfl) (by kernel_rfl) (fun _ _ _ h => h) (Or.inl ⟨by rfl, ?hy11⟩) (by assumption) ?rhy11
          case hy11 => ((intro w hSw; (try dsimp only at hSw); go_simp); try with_reducible rfl)
          try simp only [Act.put, List.setIfInBounds_toArray, List.set_cons_zero, List.set_cons_succ]
          refine wpAnyH_takeL (i := 13) (v := ?vhy12) rfl (by kernel_rfl) (by kernel_rfl) (by kernel_rfl) (fun _ _ _ h => h) (Or.inl ⟨by rfl, ?hy12⟩) (by assumption) ?rhy12
          case hy12 => ((intro w hSw; (try dsimp only at hSw); go_simp); try with_reducible rfl)
          try simp only [Act.put, List.setIfInBounds_toArray, List.set_cons_zero, List.set_cons_succ]
          refine wpAnyH_takeL (i := 14) (v := ?vhy13) rfl (by kernel_rfl) (by kernel_rfl) (by kernel_rfl) (fun _ _ _ h => h) (Or.inl ⟨by rfl, ?hy13⟩) (by assumption) ?rhy13
          case hy13 => ((intro w hSw; (try dsimp only at hSw); go_simp); try with_reducible rfl)
          try simp only [Act.put, List.setIfInBounds_toArray, List.set_cons_zero, List.set_cons_succ]
          refine wpAnyH_takeL (i := 15) (v := ?vhy14) rfl (by kernel_rfl) (by kernel_rfl) (by kernel_rfl) (fun _ _ _ h => h) (Or.inl ⟨by rfl, ?hy14⟩) (by assumption) ?rhy14
          case hy14 => ((intro w hSw; (try dsimp only at hSw); go_simp); try with_reducible rfl)
          try simp only [Act.put, List.setIfInBounds_toArray, List.set_cons_zero, List.set_cons_succ]
          refine wpAnyH_takeL (i := 16) (v := ?vhy15) rfl (by kernel_rfl) (by kernel_rfl) (by kernel_rfl) (fun _ _ _ h => h) (Or.inl ⟨by rfl, ?hy15⟩) (by assumption) ?rhy15
          case hy15 => ((intro w hSw; (try dsimp only at hSw); go_simp); try with_reducible rfl)
          try simp only [Act.put, List.setIfInBounds_toArray, List.set_cons_zero, List.set_cons_succ]
          refine wpAnyH_takeL (i := 17) (v := ?vhy16) rfl (by kernel_rfl) (by kernel_rfl) (by kernel_rfl) (fun _ _ _ h => h) (Or.inl ⟨by rfl, ?hy16⟩) (by assumption) ?rhy16
          case hy16 => ((intro w hSw; (try dsimp only at hSw); go_simp); try with_reducible rfl)
          try simp only [Act.put, List.setIfInBounds_toArray, List.set_cons_zero, List.set_cons_succ]
          refine wpAnyH_takeL (i := 18) (v := ?vhy17) rfl (by kernel_rfl) (by kernel_rfl) (by kernel_rfl) (fun _ _ _ h => h) (Or.inl ⟨by rfl, ?hy17⟩) (by assumption) ?rhy17
          case hy17 => ((intro w hSw; (try dsimp only at hSw); go_simp); try with_reducible rfl)
          try simp only [Act.put, List.setIfInBounds_toArray, List.set_cons_zero, List.set_cons_succ]
          refine wpAnyH_takeL (i := 19) (v := ?vhy18) rfl (by kernel_rfl) (by kernel_rfl) (by kernel_rfl) (fun _ _ _ h => h) (Or.inl ⟨by rfl, ?hy18⟩) (by assumption) ?rhy18
          case hy18 => ((intro w hSw; (try dsimp only at hSw); go_simp); try with_reducible rfl)
          try simp only [Act.put, List.setIfInBounds_toArray, List.set_cons_zero, List.set_cons_succ]
          refine wpAnyH_takeL (i := 20) (v := ?vhy19) rfl (by kernel_rfl) (by kernel_rfl) (by kernel_rfl) (fun _ _ _ h => h) (Or.inl ⟨by rfl, ?hy19⟩) (by assumption) ?rhy19
          case hy19 => ((intro w hSw; (try dsimp only at hSw); go_simp); try with_reducible rfl)
          try simp only [Act.put, List.setIfInBounds_toArray, List.set_cons_zero, List.set_cons_succ]
          refine wpAnyH_takeL (i := 21) (v := ?vhy20) rfl (by kernel_rfl) (by kernel_rfl) (by kernel_rfl) (fun _ _ _ h => h) (Or.inl ⟨by rfl, ?hy20⟩) (by assumption) ?rhy20
          case hy20 => ((intro w hSw; (try dsimp only at hSw); go_simp); try with_reducible rfl)
          try simp only [Act.put, List.setIfInBounds_toArray, List.set_cons_zero, List.set_cons_succ]
          refine wpAnyH_takeL (i := 22) (v := ?vhy21) rfl (by kernel_rfl) (by kernel_rfl) (by kernel_rfl) (fun _ _ _ h => h) (Or.inl ⟨by rfl, ?hy21⟩) (by assumption) ?rhy21
          case hy21 => ((intro w hSw; (try dsimp only at hSw); go_simp); try with_reducible rfl)
          try simp only [Act.put, List.setIfInBounds_toArray, List.set_cons_zero, List.set_cons_succ]
          refine wpAnyH_ready (rs := [23]) (by kernel_rfl) (by simp) ?_
          refine AllReadyH.consL (i := 23) rfl (fun K hK => ?_) AllReadyH.nil
          go_simp
          refine (hW.out _ hE11).mono ?_
          rintro e w12 ⟨rfl, g12⟩
          have hb12 := gr hb11 g12
          refine hK.out _ _ ⟨(hZ11.below g12 hZ11.lt).cells, (hX11.below g12 hX11.lt).cells, (hY11.below g12 hY11.lt).cells, (hP11.below g12 hP11.lt).cells, (hQ11.below g12 hQ11.lt).cells⟩ (fun hHeld4 => ?_)
          refine wpAnyH_takeL (i := 24) (v := ?vhy22) rfl (by kernel_rfl) (by kernel_rfl) (by kernel_rfl) (fun _ _ _ h => h) (Or.inl ⟨by rfl, ?hy22⟩) (by assumption) ?rhy22
          case hy22 => ((intro w hSw; (try dsimp only at hSw); go_simp); try with_reducible rfl)
          try simp only [Act.put, List.setIfInBounds_toArray, List.set_cons_zero, List.set_cons_succ]
          refine wpAnyH_takeL (i := 25) (v := ?vhy23) rfl (by kernel_rfl) (by kernel_rfl) (by kernel_rfl) (fun _ _ _ h => h) (Or.inl ⟨by rfl, ?hy23⟩) (by assumption) ?rhy23
          case hy23 => ((intro w hSw; (try dsimp only at hSw); go_simp); try with_reducible rfl)
          try simp only [Act.put, List.setIfInBounds_toArray, List.set_cons_zero, List.set_cons_succ]
          refine wpAnyH_done (by kernel_rfl) ?_ _
          clear hW hq1 hq2 hq3
          go_wp2
          go_ret
          exact ⟨rfl, hb12⟩
        · have hgd : ((g : Int) != 0) = true := by simp; omega
          refine wpAnyH_takeL (i := 11) (v := ?vhy24) rfl (by kernel_rfl) (by kernel_rfl) (by kernel_rfl) (fun _ _ _ h => h) (Or.inl ⟨by rfl, ?hy24⟩) (by assumption) ?rhy24
          case hy24 => ((intro w hSw; (try dsimp only at hSw); go_simp); try with_reducible rfl)
          try simp only [Act.put, List.setIfInBounds_toArray, List.set_cons_zero, List.set_cons_succ]
          refine wpAnyH_takeL (i := 12) (v := ?vhy25) rfl (by kernel_rfl) (by kernel_rfl) (by kernel_rfl) (fun _ _ _ h => h) (Or.inl ⟨by rfl, ?hy25⟩) (by assumption) ?rhy25
          case hy25 => ((intro w hSw; (try dsimp only at hSw); go_simp); try with_reducible rfl)
          try simp only [Act.put, List.setIfInBounds_toArray, List.set_cons_zero, List.set_cons_succ]
          refine wpAnyH_takeL (i := 13) (v := undef) rfl (by kernel_rfl) (by kernel_rfl) (by kernel_rfl) (fun _ _ _ h => h) (Or.inr ⟨by rfl, rfl⟩) (by assumption) ?_
          try simp only [Act.put, List.setIfInBounds_toArray, List.set_cons_zero, List.set_cons_succ]
          refine wpAnyH_takeL (i := 14) (v := undef) rfl (by kernel_rfl) (by kernel_rfl) (by kernel_rfl) (fun _ _ _ h => h) (Or.inr ⟨by rfl, rfl⟩) (by assumption) ?_
          try simp only [Act.put, List.setIfInBounds_toArray, List.set_cons_zero, List.set_cons_succ]
          refine wpAnyH_takeL (i := 15) (v := undef) rfl (by kernel_rfl) (by kernel_rfl) (by kernel_rfl) (fun _ _ _ h => h) (Or.inr ⟨by rfl, rfl⟩) (by assumption) ?_
          try simp only [Act.put, List.setIfInBounds_toArray, List.set_cons_zero, List.set_cons_succ]
          refine wpAnyH_takeL (i := 16) (v := undef) rfl (by kernel_rfl) (by kernel_rfl) (by kernel_rfl) (fun _ _ _ h => h) (Or.inr ⟨by rfl, rfl⟩) (by assumption) ?_
          try simp only [Act.put, List.setIfInBounds_toArray, List.set_cons_zero, List.set_cons_succ]
          refine wpAnyH_takeL (i := 17) (v := undef) rfl (by kernel_rfl) (by kernel_rfl) (by kernel_rfl) (fun _ _ _ h => h) (Or.inr ⟨by rfl, rfl⟩) (by assumption) ?_
          try simp only [Act.put, List.setIfInBounds_toArray, List.set_cons_zero, List.set_cons_succ]
          refine wpAnyH_takeL (i := 18) (v := undef) rfl (by kernel_rfl) (by kernel_rfl) (by kernel_rfl) (fun _ _ _ h => h) (Or.inr ⟨by rfl, rfl⟩) (by assumption) ?_
          try simp only [Act.put, List.setIfInBounds_toArray, List.set_cons_zero, List.set_cons_succ]
          refine wpAnyH_takeL (i := 19) (v := undef) rfl (by kernel_rfl) (by kernel_rfl) (by kernel_rfl) (fun _ _ _ h => h) (Or.inr ⟨by rfl, rfl⟩) (by assumption) ?_
          try simp only [Act.put, List.setIfInBounds_toArray, List.set_cons_zero, List.set_cons_succ]
          refine wpAnyH_takeL (i := 20) (v := ?vhy26) rfl (by kernel_rfl) (by kernel_rfl) (by kernel_rfl) (fun _ _ _ h => h) (Or.inl ⟨by rfl, ?hy26⟩) (by assumption) ?rhy26
          case hy26 => ((intro w hSw; (try dsimp only at hSw); go_simp); try with_reducible rfl)
          try simp only [Act.put, List.setIfInBounds_toArray, List.set_cons_zero, List.set_cons_succ]
          refine wpAnyH_takeL (i := 21) (v := ?vhy27) rfl (by kernel_rfl) (by kernel_rfl) (by kernel_rfl) (fun _ _ _ h => h) (Or.inl ⟨by rfl, ?hy27⟩) (by assumption) ?rhy27
          case hy27 => ((intro w hSw; (try dsimp only at hSw); go_simp); try with_reducible rfl)
          try simp only [Act.put, List.setIfInBounds_toArray, List.set_cons_zero, List.set_cons_succ]
          refine wpAnyH_takeL (i := 22) (v := ?vhy28) rfl (by kernel_rfl) (by kernel_rfl) (by kernel_rfl) (fun _ _ _ h => h) (Or.inl ⟨by rfl, ?hy28⟩) (by assumption) ?rhy28
          case hy28 => ((intro w hSw; (try dsimp only at hSw); go_simp); try with_reducible rfl)
          try simp only [Act.put, List.setIfInBounds_toArray, List.set_cons_zero, List.set_cons_succ]
          refine wpAnyH_ready (rs := [23]) (by kernel_rfl) (by simp) ?_
          refine AllReadyH.consL (i := 23) rfl (fun K hK => ?_) AllReadyH.nil
          go_simp
          refine (hW.out _ hE11).mono ?_
          rintro e w12 ⟨rfl, g12⟩
          have hb12 := gr hb11 g12
          refine hK.out _ _ ⟨(hZ11.below g12 hZ11.lt).cells, (hX11.below g12 hX11.lt).cells, (hY11.below g12 hY11.lt).cells, (hP11.below g12 hP11.lt).cells, (hQ11.below g12 hQ11.lt).cells⟩ (fun hHeld4 => ?_)
          refine wpAnyH_takeL (i := 24) (v := ?vhy29) rfl (by kernel_rfl) (by kernel_rfl) (by kernel_rfl) (fun _ _ _ h => h) (Or.inl ⟨by rfl, ?hy29⟩) (by assumption) ?rhy29
          case hy29 => ((intro w hSw; (try dsimp only at hSw); go_simp); try with_reducible rfl)
          try simp only [Act.put, List.setIfInBounds_toArray, List.set_cons_zero, List.set_cons_succ]
          refine wpAnyH_takeL (i := 25) (v := ?vhy30) rfl (by kernel_rfl) (by kernel_rfl) (by kernel_rfl) (fun _ _ _ h => h) (Or.inl ⟨by rfl, ?hy30⟩) (by assumption) ?rhy30
          case hy30 => ((intro w hSw; (try dsimp only at hSw); go_simp); try with_reducible rfl)
          try simp only [Act.put, List.setIfInBounds_toArray, List.set_cons_zero, List.set_cons_succ]
          refine wpAnyH_done (by kernel_rfl) ?_ _
          clear hW hq1 hq2 hq3
          go_wp2
          go_ret
          exact ⟨rfl, hb12⟩
      · have hfd : ((f : Int) != 0) = true := by simp; omega
        clear hA hB hf0 hP7 hQ7 cp cq hq1 hq2 hq3
        go_wp2_with (go_at_call 12; refine (lnum_any _ _).mono ?_; rintro e w' ⟨rfl, rfl⟩)
        refine (hW.out _ hE7).mono ?_
        rintro e w20 ⟨rfl, g20⟩
        have hb20 := gr hb7 g20
        clear g20 hW
        go_wp2
        go_ret
        exact ⟨rfl, hb20⟩
    · go_wp2_with (go_at_call 12; refine (lnum_any _ _).mono ?_; rintro e w' ⟨rfl, rfl⟩)
      refine (hFi.out _ hE7).mono ?_
      rintro e w71 ⟨rfl, g2⟩
      clear cc cd cx cy
      clear cp cq hFi
      have hP71 := hP7.below g2 hP7.lt
      have hQ71 := hQ7.below g2 hQ7.lt
      have hlt := hY7.lt
      have hC71 := hC7.below g2 (by omega)
      have hD71 := hD7.below g2 (by omega)
      have hX71 := hX7.below g2 (by omega)
      have hY71 := hY7.below g2 (by omega)
      have hb71 := gr hb7 g2
      have hE71 := hE7.below g2
      clear hlt hC7 hD7 hX7 hY7 hb7 hE7
      clear g2 hP7 hQ7
      have cc := hC71.cells
      have cd := hD71.cells
      have cx := hX71.cells
      have cy := hY71.cells
      dsimp only at cc cd cx cy
      have cp := hP71.cells
      have cq := hQ71.cells
      by_cases hF0 : F = 0
      · subst hF0
        have hf0 : f = 0 := hA.out (by simp) (by simp) (by simp)
        subst hf0
        clear hA
        have hBk := hB.out (by simp)
        replace hBk := Lib.hid hBk
        clear hB
        -- behind region 6, where the value was converted
        go_wp2_with (go_at_call 12; refine (lnum_any _ _).mono ?_; rintro e w' ⟨rfl, rfl⟩)
        refine (hBk.out _ hE71).mono ?_
        rintro e w8 ⟨rfl, g8⟩
        clear cc cd cx cy
        clear cp cq hBk
        have g9 := gr_alloc g8 (.cells #[.int .i64 xk, .int .i64 xi, .int .u64 xu, .string (strL xs)] 28)
        have hZ10 := VBox.new w8 xk xi xu (strL xs)
        have hP10 := hP71.below g9 hP71.lt
        have hQ10 := hQ71.below g9 hQ71.lt
        have hlt := hY71.lt
        have hC10 := hC71.below g9 (by omega)
        have hD10 := hD71.below g9 (by omega)
        have hX10 := hX71.below g9 (by omega)
        have hY10 := hY71.below g9 (by omega)
        have hb10 := gr hb71 g9
        have hE10 := hE71.below g9
        clear hlt hC71 hD71 hX71 hY71 hb71 hE71
        clear g8 g9 hP71 hQ71
        go_upto_region 11 with fail
        obtain ⟨w10, hw10⟩ : ∃ w10, (w8.alloc (.cells #[.int .i64 xk, .int .i64 xi, .int .u64 xu, .string (strL xs)] 28)) = w10 := ⟨_, rfl⟩
        rw [hw10] at hZ10 hP10 hQ10 hX10 hY10 hb10 hE10 hC10 hD10 ⊢
        clear hw10 hC10 hD10
        have hE11 : Env w10.drew := hE10.below (Below.refl w10.heap.size w10).drew
        have hb11 := hb10.drew
        have hX11 : VBox w10.drew _ _ _ _ _ := hX10
        have hY11 : VBox w10.drew _ _ _ _ _ := hY10
        have hZ11 : VBox w10.drew _ _ _ _ _ := hZ10
        have hP11 : VBox w10.drew _ _ _ _ _ := hP10
        have hQ11 : VBox w10.drew _ _ _ _ _ := hQ10
        clear hX10 hY10 hZ10 hP10 hQ10 hE10 hb10
        refine wp_region_held_drew (S := fun W' => (W'.cell? ⟨w8.heap.size, 0, none⟩ = some (.int .i64 xk) ∧ W'.cell? ⟨w8.heap.size, 1, none⟩ = some (.int .i64 xi) ∧ W'.cell? ⟨w8.heap.size, 2, none⟩ = some (.int .u64 xu) ∧ W'.cell? ⟨w8.heap.size, 3, none⟩ = some (.string (strL xs))) ∧ (W'.cell? ⟨w.heap.size + 1 + 1, 0, none⟩ = some (.int .i64 xk) ∧ W'.cell? ⟨w.heap.size + 1 + 1, 1, none⟩ = some (.int .i64 xi) ∧ W'.cell? ⟨w.heap.size + 1 + 1, 2, none⟩ = some (.int .u64 xu) ∧ W'.cell? ⟨w.heap.size + 1 + 1, 3, none⟩ = some (.string (strL xs))) ∧ (W'.cell? ⟨w.heap.size + 1 + 1 + 1, 0, none⟩ = some (.int .i64 yk) ∧ W'.cell? ⟨w.heap.size + 1 + 1 + 1, 1, none⟩ = some (.int .i64 yi) ∧ W'.cell? ⟨w.heap.size + 1 + 1 + 1, 2, none⟩ = some (.int .u64 yu) ∧ W'.cell? ⟨w.heap.size + 1 + 1 + 1, 3, none⟩ = some (.string (strL ys))) ∧ (W'.cell? ⟨w4.heap.size, 0, none⟩ = some (.int .i64 pk) ∧ W'.cell? ⟨w4.heap.size, 1, none⟩ = some (.int .i64 pi) ∧ W'.cell? ⟨w4.heap.size, 2, none⟩ = some (.int .u64 pu) ∧ W'.cell? ⟨w4.heap.size, 3, none⟩ = some (.string (strL ps))) ∧ W'.cell? ⟨w6.heap.size, 0, none⟩ = some (.int .i64 qk) ∧ W'.cell? ⟨w6.heap.size, 1, none⟩ = some (.int .i64 qi) ∧ W'.cell? ⟨w6.heap.size, 2, none⟩ = some (.int .u64 qu) ∧ W'.cell? ⟨w6.heap.size, 3, none⟩ = some (.string (strL qs))) (by kernel_rfl) ⟨hZ11.cells, hX11.cells, hY11.cells, hP11.cells, hQ11.cells⟩ (fun hHeld => ?_)
        have hq1 := hq1.out
        have hq2 := hq2.out
        have hq3 := hq3.out
        refine wpAnyH_takeL (i := 0) (v := ?vhy31) rfl (by kernel_rfl) (by kernel_rfl) (by kernel_rfl) (fun _ _ _ h => h) (Or.inl ⟨by rfl, ?hy31⟩) (by assumption) ?rhy31
        case hy31 => ((intro w hSw; (try dsimp only at hSw); go_simp); try with_reducible rfl)
        try simp only [Act.put, List.setIfInBounds_toArray, List.set_cons_zero, List.set_cons_succ]
        refine wpAnyH_takeL (i := 1) (v := ?vhy32) rfl (by kernel_rfl) (by kernel_rfl) (by kernel_rfl) (fun _ _ _ h => h) (Or.inl ⟨by rfl, ?hy32⟩) (by assumption) ?rhy32
        case hy32 => ((intro w hSw; (try dsimp only at hSw); go_simp); try with_reducible rfl)
        try simp only [Act.put, List.setIfInBounds_toArray, List.set_cons_zero, List.set_cons_succ]
        refine wpAnyH_takeL (i := 2) (v := ?vhy33) rfl (by kernel_rfl) (by kernel_rfl) (by kernel_rfl) (fun _ _ _ h => h) (Or.inl ⟨by rfl, ?hy33⟩) (by assumption) ?rhy33
        case hy33 => ((intro w hSw; (try dsimp only at hSw); go_simp); try with_reducible rfl)
        try simp only [Act.put, List.setIfInBounds_toArray, List.set_cons_zero, List.set_cons_succ]
        refine wpAnyH_takeL (i := 3) (v := ?vhy34) rfl (by kernel_rfl) (by kernel_rfl) (by kernel_rfl) (fun _ _ _ h => h) (Or.inl ⟨by rfl, ?hy34⟩) (by assumption) ?rhy34
        case hy34 => ((intro w hSw; (try dsimp only at hSw); go_simp); try with_reducible rfl)
        try simp only [Act.put, List.setIfInBounds_toArray, List.set_cons_zero, List.set_cons_succ]
        refine wpAnyH_takeL (i := 4) (v := ?vhy35) rfl (by kernel_rfl) (by kernel_rfl) (by kernel_rfl) (fun _ _ _ h => h) (Or.inl ⟨by rfl, ?hy35⟩) (by assumption) ?rhy35
        case hy35 => ((intro w hSw; (try dsimp only at hSw); go_simp); try with_reducible rfl)
        try simp only [Act.put, List.setIfInBounds_toArray, List.set_cons_zero, List.set_cons_succ]
        refine wpAnyH_ready (rs := [5]) (by kernel_rfl) (by simp) ?_
        refine AllReadyH.consL (i := 5) rfl (fun K hK => ?_) AllReadyH.nil
        go_simp
        refine (lnum_any _ _).mono ?_
        rintro e w' ⟨rfl, rfl⟩
        refine hK.out _ _ hHeld (fun hHeld2 => ?_)
        refine wpAnyH_takeL (i := 6) (v := ?vhy36) rfl (by kernel_rfl) (by kernel_rfl) (by kernel_rfl) (fun _ _ _ h => h) (Or.inl ⟨by rfl, ?hy36⟩) (by assumption) ?rhy36
        case hy36 => ((intro w hSw; (try dsimp only at hSw); go_simp); try with_reducible rfl)
        try simp only [Act.put, List.setIfInBounds_toArray, List.set_cons_zero, List.set_cons_succ]
        refine wpAnyH_takeL (i := 7) (v := ?vhy37) rfl (by kernel_rfl) (by kernel_rfl) (by kernel_rfl) (fun _ _ _ h => h) (Or.inl ⟨by rfl, ?hy37⟩) (by assumption) ?rhy37
        case hy37 => ((intro w hSw; (try dsimp only at hSw); go_simp); try with_reducible rfl)
        try simp only [Act.put, List.setIfInBounds_toArray, List.set_cons_zero, List.set_cons_succ]
        refine wpAnyH_takeL (i := 8) (v := ?vhy38) rfl (by kernel_rfl) (by kernel_rfl) (by kernel_rfl) (fun _ _ _ h => h) (Or.inl ⟨by rfl, ?hy38⟩) (by assumption) ?rhy38
        case hy38 => ((intro w hSw; (try dsimp only at hSw); go_simp); try with_reducible rfl)
        try simp only [Act.put, List.setIfInBounds_toArray, List.set_cons_zero, List.set_cons_succ]
        refine wpAnyH_takeL (i := 9) (v := ?vhy39) rfl (by kernel_rfl) (by kernel_rfl) (by kernel_rfl) (fun _ _ _ h => h) (Or.inl ⟨by rfl, ?hy39⟩) (by assumption) ?rhy39
        case hy39 => ((intro w hSw; (try dsimp only at hSw); go_simp); try with_reducible rfl)
        try simp only [Act.put, List.setIfInBounds_toArray, List.set_cons_zero, List.set_cons_succ]
        refine wpAnyH_ready (rs := [10]) (by kernel_rfl) (by simp) ?_
        refine AllReadyH.consL (i := 10) rfl (fun K hK => ?_) AllReadyH.nil
        go_simp
        refine (lnum_any _ _).mono ?_
        rintro e w' ⟨rfl, rfl⟩
        refine hK.out _ _ hHeld (fun hHeld3 => ?_)
        by_cases hg0 : g = 0
        · subst hg0
          have hee := hEq.out (by simp) (by simp)
          subst hee
          refine wpAnyH_takeL (i := 11) (v := ?vhy40) rfl (by kernel_rfl) (by kernel_rfl) (by kernel_rfl) (fun _ _ _ h => h) (Or.inl ⟨by rfl, ?hy40⟩) (by assumption) ?rhy40
          case hy40 => ((intro w hSw; (try dsimp only at hSw); go_simp); try with_reducible rfl)
          try simp only [Act.put, List.setIfInBounds_toArray, List.set_cons_zero, List.set_cons_succ]
          refine wpAnyH_takeL (i := 12) (v := ?vhy41) rfl (by kernel_rfl) (by kernel_rfl) (by kernel_rfl) (fun _ _ _ h => h) (Or.inl ⟨by rfl, ?hy41⟩) (by assumption) ?rhy41
          case hy41 => ((intro w hSw; (try dsimp only at hSw); go_simp); try with_reducible rfl)
          try simp only [Act.put, List.setIfInBounds_toArray, List.set_cons_zero, List.set_cons_succ]
          refine wpAnyH_takeL (i := 13) (v := ?vhy42) rfl (by kernel_rfl) (by kernel_rfl) (by kernel_rfl) (fun _ _ _ h => h) (Or.inl ⟨by rfl, ?hy42⟩) (by assumption) ?rhy42
          case hy42 => ((intro w hSw; (try dsimp only at hSw); go_simp); try with_reducible rfl)
          try simp only [Act.put, List.setIfInBounds_toArray, List.set_cons_zero, List.set_cons_succ]
          refine wpAnyH_takeL (i := 14) (v := ?vhy43) rfl (by kernel_rfl) (by kernel_rfl) (by kernel_rfl) (fun _ _ _ h => h) (Or.inl ⟨by rfl, ?hy43⟩) (by assumption) ?rhy43
          case hy43 => ((intro w hSw; (try dsimp only at hSw); go_simp); try with_reducible rfl)
          try simp only [Act.put, List.setIfInBounds_toArray, List.set_cons_zero, List.set_cons_succ]
          refine wpAnyH_takeL (i := 15) (v := ?vhy44) rfl (by kernel_rfl) (by kernel_rfl) (by kernel_rfl) (fun _ _ _ h => h) (Or.inl ⟨by rfl, ?hy44⟩) (by assumption) ?rhy44
          case hy44 => ((intro w hSw; (try dsimp only at hSw); go_simp); try with_reducible rfl)
          try simp only [Act.put, List.setIfInBounds_toArray, List.set_cons_zero, List.set_cons_succ]
          refine wpAnyH_takeL (i := 16) (v := ?vhy45) rfl (by kernel_rfl) (by kernel_rfl) (by kernel_rfl) (fun _ _ _ h => h) (Or.inl ⟨by rfl, ?hy45⟩) (by assumption) ?rhy45
          case hy45 => ((intro w hSw; (try dsimp only at hSw); go_simp); try with_reducible rfl)
          try simp only [Act.put, List.setIfInBounds_toArray, List.set_cons_zero, List.set_cons_succ]
          refine wpAnyH_takeL (i := 17) (v := ?vhy46) rfl (by kernel_rfl) (by kernel_rfl) (by kernel_rfl) (fun _ _ _ h => h) (Or.inl ⟨by rfl, ?hy46⟩) (by assumption) ?rhy46
          case hy46 => ((intro w hSw; (try dsimp only at hSw); go_simp); try with_reducible rfl)
          try simp only [Act.put, List.setIfInBounds_toArray, List.set_cons_zero, List.set_cons_succ]
          refine wpAnyH_takeL (i := 18) (v := ?vhy47) rfl (by kernel_rfl) (by kernel_rfl) (by kernel_rfl) (fun _ _ _ h => h) (Or.inl ⟨by rfl, ?hy47⟩) (by assumption) ?rhy47
          case hy47 => ((intro w hSw; (try dsimp only at hSw); go_simp); try with_reducible rfl)
          try simp only [Act.put, List.setIfInBounds_toArray, List.set_cons_zero, List.set_cons_succ]
          refine wpAnyH_takeL (i := 19) (v := ?vhy48) rfl (by kernel_rfl) (by kernel_rfl) (by kernel_rfl) (fun _ _ _ h => h) (Or.inl ⟨by rfl, ?hy48⟩) (by assumption) ?rhy48
          case hy48 => ((intro w hSw; (try dsimp only at hSw); go_simp); try with_reducible rfl)
          try simp only [Act.put, List.setIfInBounds_toArray, List.set_cons_zero, List.set_cons_succ]
          refine wpAnyH_takeL (i := 20) (v := ?vhy49) rfl (by kernel_rfl) (by kernel_rfl) (by kernel_rfl) (fun _ _ _ h => h) (Or.inl ⟨by rfl, ?hy49⟩) (by assumption) ?rhy49
          case hy49 => ((intro w hSw; (try dsimp only at hSw); go_simp); try with_reducible rfl)
          try simp only [Act.put, List.setIfInBounds_toArray, List.set_cons_zero, List.set_cons_succ]
          refine wpAnyH_takeL (i := 21) (v := ?vhy50) rfl (by kernel_rfl) (by kernel_rfl) (by kernel_rfl) (fun _ _ _ h => h) (Or.inl ⟨by rfl, ?hy50⟩) (by assumption) ?rhy50
          case hy50 => ((intro w hSw; (try dsimp only at hSw); go_simp); try with_reducible rfl)
          try simp only [Act.put, List.setIfInBounds_toArray, List.set_cons_zero, List.set_cons_succ]
          refine wpAnyH_takeL (i := 22) (v := ?vhy51) rfl (by kernel_rfl) (by kernel_rfl) (by kernel_rfl) (fun _ _ _ h => h) (Or.inl ⟨by rfl, ?hy51⟩) (by assumption) ?rhy51
          case hy51 => ((intro w hSw; (try dsimp only at hSw); go_simp); try with_reducible rfl)
          try simp only [Act.put, List.setIfInBounds_toArray, List.set_cons_zero, List.set_cons_succ]
          refine wpAnyH_ready (rs := [23]) (by kernel_rfl) (by simp) ?_
          refine AllReadyH.consL (i := 23) rfl (fun K hK => ?_) AllReadyH.nil
          go_simp
          refine (hW.out _ hE11).mono ?_
          rintro e w12 ⟨rfl, g12⟩
          have hb12 := gr hb11 g12
          refine hK.out _ _ ⟨(hZ11.below g12 hZ11.lt).cells, (hX11.below g12 hX11.lt).cells, (hY11.below g12 hY11.lt).cells, (hP11.below g12 hP11.lt).cells, (hQ11.below g12 hQ11.lt).cells⟩ (fun hHeld4 => ?_)
          refine wpAnyH_takeL (i := 24) (v := ?vhy52) rfl (by kernel_rfl) (by kernel_rfl) (by kernel_rfl) (fun _ _ _ h => h) (Or.inl ⟨by rfl, ?hy52⟩) (by assumption) ?rhy52
          case hy52 => ((intro w hSw; (try dsimp only at hSw); go_simp); try with_reducible rfl)
          try simp only [Act.put, List.setIfInBounds_toArray, List.set_cons_zero, List.set_cons_succ]
          refine wpAnyH_takeL (i := 25) (v := ?vhy53) rfl (by kernel_rfl) (by kernel_rfl) (by kernel_rfl) (fun _ _ _ h => h) (Or.inl ⟨by rfl, ?hy53⟩) (by assumption) ?rhy53
          case hy53 => ((intro w hSw; (try dsimp only at hSw); go_simp); try with_reducible rfl)
          try simp only [Act.put, List.setIfInBounds_toArray, List.set_cons_zero, List.set_cons_succ]
          refine wpAnyH_done (by kernel_rfl) ?_ _
          clear hW hq1 hq2 hq3
          go_wp2
          go_ret
          exact ⟨rfl, hb12⟩
        · have hgd : ((g : Int) != 0) = true := by simp; omega
          refine wpAnyH_takeL (i := 11) (v := ?vhy54) rfl (by kernel_rfl) (by kernel_rfl) (by kernel_rfl) (fun _ _ _ h => h) (Or.inl ⟨by rfl, ?hy54⟩) (by assumption) ?rhy54
          case hy54 => ((intro w hSw; (try dsimp only at hSw); go_simp); try with_reducible rfl)
          try simp only [Act.put, List.setIfInBounds_toArray, List.set_cons_zero, List.set_cons_succ]
          refine wpAnyH_takeL (i := 12) (v := ?vhy55) rfl (by kernel_rfl) (by kernel_rfl) (by kernel_rfl) (fun _ _ _ h => h) (Or.inl ⟨by rfl, ?hy55⟩) (by assumption) ?rhy55
          case hy55 => ((intro w hSw; (try dsimp only at hSw); go_simp); try with_reducible rfl)
          try simp only [Act.put, List.setIfInBounds_toArray, List.set_cons_zero, List.set_cons_succ]
          refine wpAnyH_takeL (i := 13) (v := undef) rfl (by kernel_rfl) (by kernel_rfl) (by kernel_rfl) (fun _ _ _ h => h) (Or.inr ⟨by rfl, rfl⟩) (by assumption) ?_
          try simp only [Act.put, List.setIfInBounds_toArray, List.set_cons_zero, List.set_cons_succ]
          refine wpAnyH_takeL (i := 14) (v := undef) rfl (by kernel_rfl) (by kernel_rfl) (by kernel_rfl) (fun _ _ _ h => h) (Or.inr ⟨by rfl, rfl⟩) (by assumption) ?_
          try simp only [Act.put, List.setIfInBounds_toArray, List.set_cons_zero, List.set_cons_succ]
          refine wpAnyH_takeL (i := 15) (v := undef) rfl (by kernel_rfl) (by kernel_rfl) (by kernel_rfl) (fun _ _ _ h => h) (Or.inr ⟨by rfl, rfl⟩) (by assumption) ?_
          try simp only [Act.put, List.setIfInBounds_toArray, List.set_cons_zero, List.set_cons_succ]
          refine wpAnyH_takeL (i := 16) (v := undef) rfl (by kernel_rfl) (by kernel_rfl) (by kernel_rfl) (fun _ _ _ h => h) (Or.inr ⟨by rfl, rfl⟩) (by assumption) ?_
          try simp only [Act.put, List.setIfInBounds_toArray, List.set_cons_zero, List.set_cons_succ]
          refine wpAnyH_takeL (i := 17) (v := undef) rfl (by kernel_rfl) (by kernel_rfl) (by kernel_rfl) (fun _ _ _ h => h) (Or.inr ⟨by rfl, rfl⟩) (by assumption) ?_
          try simp only [Act.put, List.setIfInBounds_toArray, List.set_cons_zero, List.set_cons_succ]
          refine wpAnyH_takeL (i := 18) (v := undef) rfl (by kernel_rfl) (by kernel_rfl) (by kernel_rfl) (fun _ _ _ h => h) (Or.inr ⟨by rfl, rfl⟩) (by assumption) ?_
          try simp only [Act.put, List.setIfInBounds_toArray, List.set_cons_zero, List.set_cons_succ]
          refine wpAnyH_takeL (i := 19) (v := undef) rfl (by kernel_rfl) (by kernel_rfl) (by kernel_rfl) (fun _ _ _ h => h) (Or.inr ⟨by rfl, rfl⟩) (by assumption) ?_
          try simp only [Act.put, List.setIfInBounds_toArray, List.set_cons_zero, List.set_cons_succ]
          refine wpAnyH_takeL (i := 20) (v := ?vhy56) rfl (by kernel_rfl) (by kernel_rfl) (by kernel_rfl) (fun _ _ _ h => h) (Or.inl ⟨by rfl, ?hy56⟩) (by assumption) ?rhy56
          case hy56 => ((intro w hSw; (try dsimp only at hSw); go_simp); try with_reducible rfl)
          try simp only [Act.put, List.setIfInBounds_toArray, List.set_cons_zero, List.set_cons_succ]
          refine wpAnyH_takeL (i := 21) (v := ?vhy57) rfl (by kernel_rfl) (by kernel_rfl) (by kernel_rfl) (fun _ _ _ h => h) (Or.inl ⟨by rfl, ?hy57⟩) (by assumption) ?rhy57
          case hy57 => ((intro w hSw; (try dsimp only at hSw); go_simp); try with_reducible rfl)
          try simp only [Act.put, List.setIfInBounds_toArray, List.set_cons_zero, List.set_cons_succ]
          refine wpAnyH_takeL (i := 22) (v := ?vhy58) rfl (by kernel_rfl) (by kernel_rfl) (by kernel_rfl) (fun _ _ _ h => h) (Or.inl ⟨by rfl, ?hy58⟩) (by assumption) ?rhy58
          case hy58 => ((intro w hSw; (try dsimp only at hSw); go_simp); try with_reducible rfl)
          try simp only [Act.put, List.setIfInBounds_toArray, List.set_cons_zero, List.set_cons_succ]
          refine wpAnyH_ready (rs := [23]) (by kernel_rfl) (by simp) ?_
          refine AllReadyH.consL (i := 23) rfl (fun K hK => ?_) AllReadyH.nil
          go_simp
          refine (hW.out _ hE11).mono ?_
          rintro e w12 ⟨rfl, g12⟩
          have hb12 := gr hb11 g12
          refine hK.out _ _ ⟨(hZ11.below g12 hZ11.lt).cells, (hX11.below g12 hX11.lt).cells, (hY11.below g12 hY11.lt).cells, (hP11.below g12 hP11.lt).cells, (hQ11.below g12 hQ11.lt).cells⟩ (fun hHeld4 => ?_)
          refine wpAnyH_takeL (i := 24) (v := ?vhy59) rfl (by kernel_rfl) (by kernel_rfl) (by kernel_rfl) (fun _ _ _ h => h) (Or.inl ⟨by rfl, ?hy59⟩) (by assumption) ?rhy59
          case hy59 => ((intro w hSw; (try dsimp only at hSw); go_simp); try with_reducible rfl)
          try simp only [Act.put, List.setIfInBounds_toArray, List.set_cons_zero, List.set_cons_succ]
          refine wpAnyH_takeL (i := 25) (v := ?vhy60) rfl (by kernel_rfl) (by kernel_rfl) (by kernel_rfl) (fun _ _ _ h => h) (Or.inl ⟨by rfl, ?hy60⟩) (by assumption) ?rhy60
          case hy60 => ((intro w hSw; (try dsimp only at hSw); go_simp); try with_reducible rfl)
          try simp only [Act.put, List.setIfInBounds_toArray, List.set_cons_zero, List.set_cons_succ]
          refine wpAnyH_done (by kernel_rfl) ?_ _
          clear hW hq1 hq2 hq3
          go_wp2
          go_ret
          exact ⟨rfl, hb12⟩
      · have hFd : ((F : Int) == 0) = false := by simp; omega
        clear hF0
        -- behind region 6: was the value converted?
        by_cases hf0 : f = 0
        · subst hf0
          clear hA
          have hBk := hB.out (by simp)
          replace hBk := Lib.hid hBk
          clear hB
          -- behind region 6, where the value was converted
          go_wp2_with (go_at_call 12; refine (lnum_any _ _).mono ?_; rintro e w' ⟨rfl, rfl⟩)
          refine (hBk.out _ hE71).mono ?_
          rintro e w8 ⟨rfl, g8⟩
          clear cc cd cx cy
          clear cp cq hBk
          have g9 := gr_alloc g8 (.cells #[.int .i64 xk, .int .i64 xi, .int .u64 xu, .string (strL xs)] 28)
          have hZ10 := VBox.new w8 xk xi xu (strL xs)
          have hP10 := hP71.below g9 hP71.lt
          have hQ10 := hQ71.below g9 hQ71.lt
          have hlt := hY71.lt
          have hC10 := hC71.below g9 (by omega)
          have hD10 := hD71.below g9 (by omega)
          have hX10 := hX71.below g9 (by omega)
          have hY10 := hY71.below g9 (by omega)
          have hb10 := gr hb71 g9
          have hE10 := hE71.below g9
          clear hlt hC71 hD71 hX71 hY71 hb71 hE71
          clear g8 g9 hP71 hQ71
          go_upto_region 11 with fail
          obtain ⟨w10, hw10⟩ : ∃ w10, (w8.alloc (.cells #[.int .i64 xk, .int .i64 xi, .int .u64 xu, .string (strL xs)] 28)) = w10 := ⟨_, rfl⟩
          rw [hw10] at hZ10 hP10 hQ10 hX10 hY10 hb10 hE10 hC10 hD10 ⊢
          clear hw10 hC10 hD10
          have hE11 : Env w10.drew := hE10.below (Below.refl w10.heap.size w10).drew
          have hb11 := hb10.drew
          have hX11 : VBox w10.drew _ _ _ _ _ := hX10
          have hY11 : VBox w10.drew _ _ _ _ _ := hY10
          have hZ11 : VBox w10.drew _ _ _ _ _ := hZ10
          have hP11 : VBox w10.drew _ _ _ _ _ := hP10
          have hQ11 : VBox w10.drew _ _ _ _ _ := hQ10
          clear hX10 hY10 hZ10 hP10 hQ10 hE10 hb10
          refine wp_region_held_drew (S := fun W' => (W'.cell? ⟨w8.heap.size, 0, none⟩ = some (.int .i64 xk) ∧ W'.cell? ⟨w8.heap.size, 1, none⟩ = some (.int .i64 xi) ∧ W'.cell? ⟨w8.heap.size, 2, none⟩ = some (.int .u64 xu) ∧ W'.cell? ⟨w8.heap.size, 3, none⟩ = some (.string (strL xs))) ∧ (W'.cell? ⟨w.heap.size + 1 + 1, 0, none⟩ = some (.int .i64 xk) ∧ W'.cell? ⟨w.heap.size + 1 + 1, 1, none⟩ = some (.int .i64 xi) ∧ W'.cell? ⟨w.heap.size + 1 + 1, 2, none⟩ = some (.int .u64 xu) ∧ W'.cell? ⟨w.heap.size + 1 + 1, 3, none⟩ = some (.string (strL xs))) ∧ (W'.cell? ⟨w.heap.size + 1 + 1 + 1, 0, none⟩ = some (.int .i64 yk) ∧ W'.cell? ⟨w.heap.size + 1 + 1 + 1, 1, none⟩ = some (.int .i64 yi) ∧ W'.cell? ⟨w.heap.size + 1 + 1 + 1, 2, none⟩ = some (.int .u64 yu) ∧ W'.cell? ⟨w.heap.size + 1 + 1 + 1, 3, none⟩ = some (.string (strL ys))) ∧ (W'.cell? ⟨w4.heap.size, 0, none⟩ = some (.int .i64 pk) ∧ W'.cell? ⟨w4.heap.size, 1, none⟩ = some (.int .i64 pi) ∧ W'.cell? ⟨w4.heap.size, 2, none⟩ = some (.int .u64 pu) ∧ W'.cell? ⟨w4.heap.size, 3, none⟩ = some (.string (strL ps))) ∧ W'.cell? ⟨w6.heap.size, 0, none⟩ = some (.int .i64 qk) ∧ W'.cell? ⟨w6.heap.size, 1, none⟩ = some (.int .i64 qi) ∧ W'.cell? ⟨w6.heap.size, 2, none⟩ = some (.int .u64 qu) ∧ W'.cell? ⟨w6.heap.size, 3, none⟩ = some (.string (strL qs))) (by kernel_rfl) ⟨hZ11.cells, hX11.cells, hY11.cells, hP11.cells, hQ11.cells⟩ (fun hHeld => ?_)
          have hq1 := hq1.out
          have hq2 := hq2.out
          have hq3 := hq3.out
          refine wpAnyH_takeL (i := 0) (v := ?vhy61) rfl (by kernel_rfl) (by kernel_rfl) (by kernel_rfl) (fun _ _ _ h => h) (Or.inl ⟨by rfl, ?hy61⟩) (by assumption) ?rhy61
          case hy61 => ((intro w hSw; (try dsimp only at hSw); go_simp); try with_reducible rfl)
          try simp only [Act.put, List.setIfInBounds_toArray, List.set_cons_zero, List.set_cons_succ]
          refine wpAnyH_takeL (i := 1) (v := ?vhy62) rfl (by kernel_rfl) (by kernel_rfl) (by kernel_rfl) (fun _ _ _ h => h) (Or.inl ⟨by rfl, ?hy62⟩) (by assumption) ?rhy62
          case hy62 => ((intro w hSw; (try dsimp only at hSw); go_simp); try with_reducible rfl)
          try simp only [Act.put, List.setIfInBounds_toArray, List.set_cons_zero, List.set_cons_succ]
          refine wpAnyH_takeL (i := 2) (v := ?vhy63) rfl (by kernel_rfl) (by kernel_rfl) (by kernel_rfl) (fun _ _ _ h => h) (Or.inl ⟨by rfl, ?hy63⟩) (by assumption) ?rhy63
          case hy63 => ((intro w hSw; (try dsimp only at hSw); go_simp); try with_reducible rfl)
          try simp only [Act.put, List.setIfInBounds_toArray, List.set_cons_zero, List.set_cons_succ]
          refine wpAnyH_takeL (i := 3) (v := ?vhy64) rfl (by kernel_rfl) (by kernel_rfl) (by kernel_rfl) (fun _ _ _ h => h) (Or.inl ⟨by rfl, ?hy64⟩) (by assumption) ?rhy64
          case hy64 => ((intro w hSw; (try dsimp only at hSw); go_simp); try with_reducible rfl)
          try simp only [Act.put, List.setIfInBounds_toArray, List.set_cons_zero, List.set_cons_succ]
          refine wpAnyH_takeL (i := 4) (v := ?vhy65) rfl (by kernel_rfl) (by kernel_rfl) (by kernel_rfl) (fun _ _ _ h => h) (Or.inl ⟨by rfl, ?hy65⟩) (by assumption) ?rhy65
          case hy65 => ((intro w hSw; (try dsimp only at hSw); go_simp); try with_reducible rfl)
          try simp only [Act.put, List.setIfInBounds_toArray, List.set_cons_zero, List.set_cons_succ]
          refine wpAnyH_ready (rs := [5]) (by kernel_rfl) (by simp) ?_
          refine AllReadyH.consL (i := 5) rfl (fun K hK => ?_) AllReadyH.nil
          go_simp
          refine (lnum_any _ _).mono ?_
          rintro e w' ⟨rfl, rfl⟩
          refine hK.out _ _ hHeld (fun hHeld2 => ?_)
          refine wpAnyH_takeL (i := 6) (v := ?vhy66) rfl (by kernel_rfl) (by kernel_rfl) (by kernel_rfl) (fun _ _ _ h => h) (Or.inl ⟨by rfl, ?hy66⟩) (by assumption) ?rhy66
          case hy66 => ((intro w hSw; (try dsimp only at hSw); go_simp); try with_reducible rfl)
          try simp only [Act.put, List.setIfInBounds_toArray, List.set_cons_zero, List.set_cons_succ]
          refine wpAnyH_takeL (i := 7) (v := ?vhy67) rfl (by kernel_rfl) (by kernel_rfl) (by kernel_rfl) (fun _ _ _ h => h) (Or.inl ⟨by rfl, ?hy67⟩) (by assumption) ?rhy67
          case hy67 => ((intro w hSw; (try dsimp only at hSw); go_simp); try with_reducible rfl)
          try simp only [Act.put, List.setIfInBounds_toArray, List.set_cons_zero, List.set_cons_succ]
          refine wpAnyH_takeL (i := 8) (v := ?vhy68) rfl (by kernel_rfl) (by kernel_rfl) (by kernel_rfl) (fun _ _ _ h => h) (Or.inl ⟨by rfl, ?hy68⟩) (by assumption) ?rhy68
          case hy68 => ((intro w hSw; (try dsimp only at hSw); go_simp); try with_reducible rfl)
          try simp only [Act.put, List.setIfInBounds_toArray, List.set_cons_zero, List.set_cons_succ]
          refine wpAnyH_takeL (i := 9) (v := ?vhy69) rfl (by kernel_rfl) (by kernel_rfl) (by kernel_rfl) (fun _ _ _ h => h) (Or.inl ⟨by rfl, ?hy69⟩) (by assumption) ?rhy69
          case hy69 => ((intro w hSw; (try dsimp only at hSw); go_simp); try with_reducible rfl)
          try simp only [Act.put, List.setIfInBounds_toArray, List.set_cons_zero, List.set_cons_succ]
          refine wpAnyH_ready (rs := [10]) (by kernel_rfl) (by simp) ?_
          refine AllReadyH.consL (i := 10) rfl (fun K hK => ?_) AllReadyH.nil
          go_simp
          refine (lnum_any _ _).mono ?_
          rintro e w' ⟨rfl, rfl⟩
          refine hK.out _ _ hHeld (fun hHeld3 => ?_)
          by_cases hg0 : g = 0
          · subst hg0
            have hee := hEq.out (by simp) (by simp)
            subst hee
            refine wpAnyH_takeL (i := 11) (v := ?vhy70) rfl (by kernel_rfl) (by kernel_rfl) (by kernel_rfl) (fun _ _ _ h => h) (Or.inl ⟨by rfl, ?hy70⟩) (by assumption) ?rhy70
            case hy70 => ((intro w hSw; (try dsimp only at hSw); go_simp); try with_reducible rfl)
            try simp only [Act.put, List.setIfInBounds_toArray, List.set_cons_zero, List.set_cons_succ]
            refine wpAnyH_takeL (i := 12) (v := ?vhy71) rfl (by kernel_rfl) (by kernel_rfl) (by kernel_rfl) (fun _ _ _ h => h) (Or.inl ⟨by rfl, ?hy71⟩) (by assumption) ?rhy71
            case hy71 => ((intro w hSw; (try dsimp only at hSw); go_simp); try with_reducible rfl)
            try simp only [Act.put, List.setIfInBounds_toArray, List.set_cons_zero, List.set_cons_succ]
            refine wpAnyH_takeL (i := 13) (v := ?vhy72) rfl (by kernel_rfl) (by kernel_rfl) (by kernel_rfl) (fun _ _ _ h => h) (Or.inl ⟨by rfl, ?hy72⟩) (by assumption) ?rhy72
            case hy72 => ((intro w hSw; (try dsimp only at hSw); go_simp); try with_reducible rfl)
            try simp only [Act.put, List.setIfInBounds_toArray, List.set_cons_zero, List.set_cons_succ]
            refine wpAnyH_takeL (i := 14) (v := ?vhy73) rfl (by kernel_rfl) (by kernel_rfl) (by kernel_rfl) (fun _ _ _ h => h) (Or.inl ⟨by rfl, ?hy73⟩) (by assumption) ?rhy73
            case hy73 => ((intro w hSw; (try dsimp only at hSw); go_simp); try with_reducible rfl)
            try simp only [Act.put, List.setIfInBounds_toArray, List.set_cons_zero, List.set_cons_succ]
            refine wpAnyH_takeL (i := 15) (v := ?vhy74) rfl (by kernel_rfl) (by kernel_rfl) (by kernel_rfl) (fun _ _ _ h => h) (Or.inl ⟨by rfl, ?hy74⟩) (by assumption) ?rhy74
            case hy74 => ((intro w hSw; (try dsimp only at hSw); go_simp); try with_reducible rfl)
            try simp only [Act.put, List.setIfInBounds_toArray, List.set_cons_zero, List.set_cons_succ]
            refine wpAnyH_takeL (i := 16) (v := ?vhy75) rfl (by kernel_rfl) (by kernel_rfl) (by kernel_rfl) (fun _ _ _ h => h) (Or.inl ⟨by rfl, ?hy75⟩) (by assumption) ?rhy75
            case hy75 => ((intro w hSw; (try dsimp only at hSw); go_simp); try with_reducible rfl)
            try simp only [Act.put, List.setIfInBounds_toArray, List.set_cons_zero, List.set_cons_succ]
            refine wpAnyH_takeL (i := 17) (v := ?vhy76) rfl (by kernel_rfl) (by kernel_rfl) (by kernel_rfl) (fun _ _ _ h => h) (Or.inl ⟨by rfl, ?hy76⟩) (by assumption) ?rhy76
            case hy76 => ((intro w hSw; (try dsimp only at hSw); go_simp); try with_reducible rfl)
            try simp only [Act.put, List.setIfInBounds_toArray, List.set_cons_zero, List.set_cons_succ]
            refine wpAnyH_takeL (i := 18) (v := ?vhy77) rfl (by kernel_rfl) (by kernel_rfl) (by kernel_rfl) (fun _ _ _ h => h) (Or.inl ⟨by rfl, ?hy77⟩) (by assumption) ?rhy77
            case hy77 => ((intro w hSw; (try dsimp only at hSw); go_simp); try with_reducible rfl)
            try simp only [Act.put, List.setIfInBounds_toArray, List.set_cons_zero, List.set_cons_succ]
            refine wpAnyH_takeL (i := 19) (v := ?vhy78) rfl (by kernel_rfl) (by kernel_rfl) (by kernel_rfl) (fun _ _ _ h => h) (Or.inl ⟨by rfl, ?hy78⟩) (by assumption) ?rhy78
            case hy78 => ((intro w hSw; (try dsimp only at hSw); go_simp); try with_reducible rfl)
            try simp only [Act.put, List.setIfInBounds_toArray, List.set_cons_zero, List.set_cons_succ]
            refine wpAnyH_takeL (i := 20) (v := ?vhy79) rfl (by kernel_rfl) (by kernel_rfl) (by kernel_rfl) (fun _ _ _ h => h) (Or.inl ⟨by rfl, ?hy79⟩) (by assumption) ?rhy79
            case hy79 => ((intro w hSw; (try dsimp only at hSw); go_simp); try with_reducible rfl)
            try simp only [Act.put, List.setIfInBounds_toArray, List.set_cons_zero, List.set_cons_succ]
            refine wpAnyH_takeL (i := 21) (v := ?vhy80) rfl (by kernel_rfl) (by kernel_rfl) (by kernel_rfl) (fun _ _ _ h => h) (Or.inl ⟨by rfl, ?hy80⟩) (by assumption) ?rhy80
            case hy80 => ((intro w hSw; (try dsimp only at hSw); go_simp); try with_reducible rfl)
            try simp only [Act.put, List.setIfInBounds_toArray, List.set_cons_zero, List.set_cons_succ]
            refine wpAnyH_takeL (i := 22) (v := ?vhy81) rfl (by kernel_rfl) (by kernel_rfl) (by kernel_rfl) (fun _ _ _ h => h) (Or.inl ⟨by rfl, ?hy81⟩) (by assumption) ?rhy81
            case hy81 => ((intro w hSw; (try dsimp only at hSw); go_simp); try with_reducible rfl)
            try simp only [Act.put, List.setIfInBounds_toArray, List.set_cons_zero, List.set_cons_succ]
            refine wpAnyH_ready (rs := [23]) (by kernel_rfl) (by simp) ?_
            refine AllReadyH.consL (i := 23) rfl (fun K hK => ?_) AllReadyH.nil
            go_simp
            refine (hW.out _ hE11).mono ?_
            rintro e w12 ⟨rfl, g12⟩
            have hb12 := gr hb11 g12
            refine hK.out _ _ ⟨(hZ11.below g12 hZ11.lt).cells, (hX11.below g12 hX11.lt).cells, (hY11.below g12 hY11.lt).cells, (hP11.below g12 hP11.lt).cells, (hQ11.below g12 hQ11.lt).cells⟩ (fun hHeld4 => ?_)
            refine wpAnyH_takeL (i := 24) (v := ?vhy82) rfl (by kernel_rfl) (by kernel_rfl) (by kernel_rfl) (fun _ _ _ h => h) (Or.inl ⟨by rfl, ?hy82⟩) (by assumption) ?rhy82
            case hy82 => ((intro w hSw; (try dsimp only at hSw); go_simp); try with_reducible rfl)
            try simp only [Act.put, List.setIfInBounds_toArray, List.set_cons_zero, List.set_cons_succ]
            refine wpAnyH_takeL (i := 25) (v := ?vhy83) rfl (by kernel_rfl) (by kernel_rfl) (by kernel_rfl) (fun _ _ _ h => h) (Or.inl ⟨by rfl, ?hy83⟩) (by assumption) ?rhy83
            case hy83 => ((intro w hSw; (try dsimp only at hSw); go_simp); try with_reducible rfl)
            try simp only [Act.put, List.setIfInBounds_toArray, List.set_cons_zero, List.set_cons_succ]
            refine wpAnyH_done (by kernel_rfl) ?_ _
            clear hW hq1 hq2 hq3
            go_wp2
            go_ret
            exact ⟨rfl, hb12⟩
          · have hgd : ((g : Int) != 0) = true := by simp; omega
            refine wpAnyH_takeL (i := 11) (v := ?vhy84) rfl (by kernel_rfl) (by kernel_rfl) (by kernel_rfl) (fun _ _ _ h => h) (Or.inl ⟨by rfl, ?hy84⟩) (by assumption) ?rhy84
            case hy84 => ((intro w hSw; (try dsimp only at hSw); go_simp); try with_reducible rfl)
            try simp only [Act.put, List.setIfInBounds_toArray, List.set_cons_zero, List.set_cons_succ]
            refine wpAnyH_takeL (i := 12) (v := ?vhy85) rfl (by kernel_rfl) (by kernel_rfl) (by kernel_rfl) (fun _ _ _ h => h) (Or.inl ⟨by rfl, ?hy85⟩) (by assumption) ?rhy85
            case hy85 => ((intro w hSw; (try dsimp only at hSw); go_simp); try with_reducible rfl)
            try simp only [Act.put, List.setIfInBounds_toArray, List.set_cons_zero, List.set_cons_succ]
            refine wpAnyH_takeL (i := 13) (v := undef) rfl (by kernel_rfl) (by kernel_rfl) (by kernel_rfl) (fun _ _ _ h => h) (Or.inr ⟨by rfl, rfl⟩) (by assumption) ?_
            try simp only [Act.put, List.setIfInBounds_toArray, List.set_cons_zero, List.set_cons_succ]
            refine wpAnyH_takeL (i := 14) (v := undef) rfl (by kernel_rfl) (by kernel_rfl) (by kernel_rfl) (fun _ _ _ h => h) (Or.inr ⟨by rfl, rfl⟩) (by assumption) ?_
            try simp only [Act.put, List.setIfInBounds_toArray, List.set_cons_zero, List.set_cons_succ]
            refine wpAnyH_takeL (i := 15) (v := undef) rfl (by kernel_rfl) (by kernel_rfl) (by kernel_rfl) (fun _ _ _ h => h) (Or.inr ⟨by rfl, rfl⟩) (by assumption) ?_
            try simp only [Act.put, List.setIfInBounds_toArray, List.set_cons_zero, List.set_cons_succ]
            refine wpAnyH_takeL (i := 16) (v := undef) rfl (by kernel_rfl) (by kernel_rfl) (by kernel_rfl) (fun _ _ _ h => h) (Or.inr ⟨by rfl, rfl⟩) (by assumption) ?_
            try simp only [Act.put, List.setIfInBounds_toArray, List.set_cons_zero, List.set_cons_succ]
            refine wpAnyH_takeL (i := 17) (v := undef) rfl (by kernel_rfl) (by kernel_rfl) (by kernel_rfl) (fun _ _ _ h => h) (Or.inr ⟨by rfl, rfl⟩) (by assumption) ?_
            try simp only [Act.put, List.setIfInBounds_toArray, List.set_cons_zero, List.set_cons_succ]
            refine wpAnyH_takeL (i := 18) (v := undef) rfl (by kernel_rfl) (by kernel_rfl) (by kernel_rfl) (fun _ _ _ h => h) (Or.inr ⟨by rfl, rfl⟩) (by assumption) ?_
            try simp only [Act.put, List.setIfInBounds_toArray, List.set_cons_zero, List.set_cons_succ]
            refine wpAnyH_takeL (i := 19) (v := undef) rfl (by kernel_rfl) (by kernel_rfl) (by kernel_rfl) (fun _ _ _ h => h) (Or.inr ⟨by rfl, rfl⟩) (by assumption) ?_
            try simp only [Act.put, List.setIfInBounds_toArray, List.set_cons_zero, List.set_cons_succ]
            refine wpAnyH_takeL (i := 20) (v := ?vhy86) rfl (by kernel_rfl) (by kernel_rfl) (by kernel_rfl) (fun _ _ _ h => h) (Or.inl ⟨by rfl, ?hy86⟩) (by assumption) ?rhy86
            case hy86 => ((intro w hSw; (try dsimp only at hSw); go_simp); try with_reducible rfl)
            try simp only [Act.put, List.setIfInBounds_toArray, List.set_cons_zero, List.set_cons_succ]
            refine wpAnyH_takeL (i := 21) (v := ?vhy87) rfl (by kernel_rfl) (by kernel_rfl) (by kernel_rfl) (fun _ _ _ h => h) (Or.inl ⟨by rfl, ?hy87⟩) (by assumption) ?rhy87
            case hy87 => ((intro w hSw; (try dsimp only at hSw); go_simp); try with_reducible rfl)
            try simp only [Act.put, List.setIfInBounds_toArray, List.set_cons_zero, List.set_cons_succ]
            refine wpAnyH_takeL (i := 22) (v := ?vhy88) rfl (by kernel_rfl) (by kernel_rfl) (by kernel_rfl) (fun _ _ _ h => h) (Or.inl ⟨by rfl, ?hy88⟩) (by assumption) ?rhy88
            case hy88 => ((intro w hSw; (try dsimp only at hSw); go_simp); try with_reducible rfl)
            try simp only [Act.put, List.setIfInBounds_toArray, List.set_cons_zero, List.set_cons_succ]
            refine wpAnyH_ready (rs := [23]) (by kernel_rfl) (by simp) ?_
            refine AllReadyH.consL (i := 23) rfl (fun K hK => ?_) AllReadyH.nil
            go_simp
            refine (hW.out _ hE11).mono ?_
            rintro e w12 ⟨rfl, g12⟩
            have hb12 := gr hb11 g12
            refine hK.out _ _ ⟨(hZ11.below g12 hZ11.lt).cells, (hX11.below g12 hX11.lt).cells, (hY11.below g12 hY11.lt).cells, (hP11.below g12 hP11.lt).cells, (hQ11.below g12 hQ11.lt).cells⟩ (fun hHeld4 => ?_)
            refine wpAnyH_takeL (i := 24) (v := ?vhy89) rfl (by kernel_rfl) (by kernel_rfl) (by kernel_rfl) (fun _ _ _ h => h) (Or.inl ⟨by rfl, ?hy89⟩) (by assumption) ?rhy89
            case hy89 => ((intro w hSw; (try dsimp only at hSw); go_simp); try with_reducible rfl)
            try simp only [Act.put, List.setIfInBounds_toArray, List.set_cons_zero, List.set_cons_succ]
            refine wpAnyH_takeL (i := 25) (v := ?vhy90) rfl (by kernel_rfl) (by kernel_rfl) (by kernel_rfl) (fun _ _ _ h => h) (Or.inl ⟨by rfl, ?hy90⟩) (by assumption) ?rhy90
            case hy90 => ((intro w hSw; (try dsimp only at hSw); go_simp); try with_reducible rfl)
            try simp only [Act.put, List.setIfInBounds_toArray, List.set_cons_zero, List.set_cons_succ]
            refine wpAnyH_done (by kernel_rfl) ?_ _
            clear hW hq1 hq2 hq3
            go_wp2
            go_ret
            exact ⟨rfl, hb12⟩
        · have hfd : ((f : Int) != 0) = true := by simp; omega
          clear hA hB hf0 hP71 hQ71 cp cq hq1 hq2 hq3
          go_wp2_with (go_at_call 12; refine (lnum_any _ _).mono ?_; rintro e w' ⟨rfl, rfl⟩)
          refine (hW.out _ hE71).mono ?_
          rintro e w20 ⟨rfl, g20⟩
          have hb20 := gr hb71 g20
          clear g20 hW
          go_wp2
          go_ret
          exact ⟨rfl, hb20⟩
  · have hsd : ((sn : Int) == 0) = false := by simp; omega
    clear hsn hFi
    -- behind region 6: was the value converted?
    by_cases hf0 : f = 0
    · subst hf0
      clear hA
      have hBk := hB.out (by simp)
      replace hBk := Lib.hid hBk
      clear hB
      -- behind region 6, where the value was converted
      go_wp2_with (go_at_call 12; refine (lnum_any _ _).mono ?_; rintro e w' ⟨rfl, rfl⟩)
      refine (hBk.out _ hE7).mono ?_
      rintro e w8 ⟨rfl, g8⟩
      clear cc cd cx cy
      clear cp cq hBk
      have g9 := gr_alloc g8 (.cells #[.int .i64 xk, .int .i64 xi, .int .u64 xu, .string (strL xs)] 28)
      have hZ10 := VBox.new w8 xk xi xu (strL xs)
      have hP10 := hP7.below g9 hP7.lt
      have hQ10 := hQ7.below g9 hQ7.lt
      have hlt := hY7.lt
      have hC10 := hC7.below g9 (by omega)
      have hD10 := hD7.below g9 (by omega)
      have hX10 := hX7.below g9 (by omega)
      have hY10 := hY7.below g9 (by omega)
      have hb10 := gr hb7 g9
      have hE10 := hE7.below g9
      clear hlt hC7 hD7 hX7 hY7 hb7 hE7
      clear g8 g9 hP7 hQ7
      go_upto_region 11 with fail
      obtain ⟨w10, hw10⟩ : ∃ w10, (w8.alloc (.cells #[.int .i64 xk, .int .i64 xi, .int .u64 xu, .string (strL xs)] 28)) = w10 := ⟨_, rfl⟩
      rw [hw10] at hZ10 hP10 hQ10 hX10 hY10 hb10 hE10 hC10 hD10 ⊢
      clear hw10 hC10 hD10
      have hE11 : Env w10.drew := hE10.below (Below.refl w10.heap.size w10).drew
      have hb11 := hb10.drew
      have hX11 : VBox w10.drew _ _ _ _ _ := hX10
      have hY11 : VBox w10.drew _ _ _ _ _ := hY10
      have hZ11 : VBox w10.drew _ _ _ _ _ := hZ10
      have hP11 : VBox w10.drew _ _ _ _ _ := hP10
      have hQ11 : VBox w10.drew _ _ _ _ _ := hQ10
      clear hX10 hY10 hZ10 hP10 hQ10 hE10 hb10
      refine wp_region_held_drew (S := fun W' => (W'.cell? ⟨w8.heap.size, 0, none⟩ = some (.int .i64 xk) ∧ W'.cell? ⟨w8.heap.size, 1, none⟩ = some (.int .i64 xi) ∧ W'.cell? ⟨w8.heap.size, 2, none⟩ = some (.int .u64 xu) ∧ W'.cell? ⟨w8.heap.size, 3, none⟩ = some (.string (strL xs))) ∧ (W'.cell? ⟨w.heap.size + 1 + 1, 0, none⟩ = some (.int .i64 xk) ∧ W'.cell? ⟨w.heap.size + 1 + 1, 1, none⟩ = some (.int .i64 xi) ∧ W'.cell? ⟨w.heap.size + 1 + 1, 2, none⟩ = some (.int .u64 xu) ∧ W'.cell? ⟨w.heap.size + 1 + 1, 3, none⟩ = some (.string (strL xs))) ∧ (W'.cell? ⟨w.heap.size + 1 + 1 + 1, 0, none⟩ = some (.int .i64 yk) ∧ W'.cell? ⟨w.heap.size + 1 + 1 + 1, 1, none⟩ = some (.int .i64 yi) ∧ W'.cell? ⟨w.heap.size + 1 + 1 + 1, 2, none⟩ = some (.int .u64 yu) ∧ W'.cell? ⟨w.heap.size + 1 + 1 + 1, 3, none⟩ = some (.string (strL ys))) ∧ (W'.cell? ⟨w4.heap.size, 0, none⟩ = some (.int .i64 pk) ∧ W'.cell? ⟨w4.heap.size, 1, none⟩ = some (.int .i64 pi) ∧ W'.cell? ⟨w4.heap.size, 2, none⟩ = some (.int .u64 pu) ∧ W'.cell? ⟨w4.heap.size, 3, none⟩ = some (.string (strL ps))) ∧ W'.cell? ⟨w6.heap.size, 0, none⟩ = some (.int .i64 qk) ∧ W'.cell? ⟨w6.heap.size, 1, none⟩ = some (.int .i64 qi) ∧ W'.cell? ⟨w6.heap.size, 2, none⟩ = some (.int .u64 qu) ∧ W'.cell? ⟨w6.heap.size, 3, none⟩ = some (.string (strL qs))) (by kernel_rfl) ⟨hZ11.cells, hX11.cells, hY11.cells, hP11.cells, hQ11.cells⟩ (fun hHeld => ?_)
      have hq1 := hq1.out
      have hq2 := hq2.out
      have hq3 := hq3.out
      refine wpAnyH_takeL (i := 0) (v := ?vhy91) rfl (by kernel_rfl) (by kernel_rfl) (by kernel_rfl) (fun _ _ _ h => h) (Or.inl ⟨by rfl, ?hy91⟩) (by assumption) ?rhy91
      case hy91 => ((intro w hSw; (try dsimp only at hSw); go_simp); try with_reducible rfl)
      try simp only [Act.put, List.setIfInBounds_toArray, List.set_cons_zero, List.set_cons_succ]
      refine wpAnyH_takeL (i := 1) (v := ?vhy92) rfl (by kernel_rfl) (by kernel_rfl) (by kernel_rfl) (fun _ _ _ h => h) (Or.inl ⟨by rfl, ?hy92⟩) (by assumption) ?rhy92
      case hy92 => ((intro w hSw; (try dsimp only at hSw); go_simp); try with_reducible rfl)
      try simp only [Act.put, List.setIfInBounds_toArray, List.set_cons_zero, List.set_cons_succ]
      refine wpAnyH_takeL (i := 2) (v := ?vhy93) rfl (by kernel_rfl) (by kernel_rfl) (by kernel_rfl) (fun _ _ _ h => h) (Or.inl ⟨by rfl, ?hy93⟩) (by assumption) ?rhy93
      case hy93 => ((intro w hSw; (try dsimp only at hSw); go_simp); try with_reducible rfl)
      try simp only [Act.put, List.setIfInBounds_toArray, List.set_cons_zero, List.set_cons_succ]
      refine wpAnyH_takeL (i := 3) (v := ?vhy94) rfl (by kernel_rfl) (by kernel_rfl) (by kernel_rfl) (fun _ _ _ h => h) (Or.inl ⟨by rfl, ?hy94⟩) (by assumption) ?rhy94
      case hy94 => ((intro w hSw; (try dsimp only at hSw); go_simp); try with_reducible rfl)
      try simp only [Act.put, List.setIfInBounds_toArray, List.set_cons_zero, List.set_cons_succ]
      refine wpAnyH_takeL (i := 4) (v := ?vhy95) rfl (by kernel_rfl) (by kernel_rfl) (by kernel_rfl) (fun _ _ _ h => h) (Or.inl ⟨by rfl, ?hy95⟩) (by assumption) ?rhy95
      case hy95 => ((intro w hSw; (try dsimp only at hSw); go_simp); try with_reducible rfl)
      try simp only [Act.put, List.setIfInBounds_toArray, List.set_cons_zero, List.set_cons_succ]
      refine wpAnyH_ready (rs := [5]) (by kernel_rfl) (by simp) ?_
      refine AllReadyH.consL (i := 5) rfl (fun K hK => ?_) AllReadyH.nil
      go_simp
      refine (lnum_any _ _).mono ?_
      rintro e w' ⟨rfl, rfl⟩
      refine hK.out _ _ hHeld (fun hHeld2 => ?_)
      refine wpAnyH_takeL (i := 6) (v := ?vhy96) rfl (by kernel_rfl) (by kernel_rfl) (by kernel_rfl) (fun _ _ _ h => h) (Or.inl ⟨by rfl, ?hy96⟩) (by assumption) ?rhy96
      case hy96 => ((intro w hSw; (try dsimp only at hSw); go_simp); try with_reducible rfl)
      try simp only [Act.put, List.setIfInBounds_toArray, List.set_cons_zero, List.set_cons_succ]
      refine wpAnyH_takeL (i := 7) (v := ?vhy97) rfl (by kernel_rfl) (by kernel_rfl) (by kernel_rfl) (fun _ _ _ h => h) (Or.inl ⟨by rfl, ?hy97⟩) (by assumption) ?rhy97
      case hy97 => ((intro w hSw; (try dsimp only at hSw); go_simp); try with_reducible rfl)
      try simp only [Act.put, List.setIfInBounds_toArray, List.set_cons_zero, List.set_cons_succ]
      refine wpAnyH_takeL (i := 8) (v := ?vhy98) rfl (by kernel_rfl) (by kernel_rfl) (by kernel_rfl) (fun _ _ _ h => h) (Or.inl ⟨by rfl, ?hy98⟩) (by assumption) ?rhy98
      case hy98 => ((intro w hSw; (try dsimp only at hSw); go_simp); try with_reducible rfl)
      try simp only [Act.put, List.setIfInBounds_toArray, List.set_cons_zero, List.set_cons_succ]
      refine wpAnyH_takeL (i := 9) (v := ?vhy99) rfl (by kernel_rfl) (by kernel_rfl) (by kernel_rfl) (fun _ _ _ h => h) (Or.inl ⟨by rfl, ?hy99⟩) (by assumption) ?rhy99
      case hy99 => ((intro w hSw; (try dsimp only at hSw); go_simp); try with_reducible rfl)
      try simp only [Act.put, List.setIfInBounds_toArray, List.set_cons_zero, List.set_cons_succ]
      refine wpAnyH_ready (rs := [10]) (by kernel_rfl) (by simp) ?_
      refine AllReadyH.consL (i := 10) rfl (fun K hK => ?_) AllReadyH.nil
      go_simp
      refine (lnum_any _ _).mono ?_
      rintro e w' ⟨rfl, rfl⟩
      refine hK.out _ _ hHeld (fun hHeld3 => ?_)
      by_cases hg0 : g = 0
      · subst hg0
        have hee := hEq.out (by simp) (by simp)
        subst hee
        refine wpAnyH_takeL (i := 11) (v := ?vhy100) rfl (by kernel_rfl) (by kernel_rfl) (by kernel_rfl) (fun _ _ _ h => h) (Or.inl ⟨by rfl, ?hy100⟩) (by assumption) ?rhy100
        case hy100 => ((intro w hSw; (try dsimp only at hSw); go_simp); try with_reducible rfl)
        try simp only [Act.put, List.setIfInBounds_toArray, List.set_cons_zero, List.set_cons_succ]
        refine wpAnyH_takeL (i := 12) (v := ?vhy101) rfl (by kernel_rfl) (by kernel_rfl) (by kernel_rfl) (fun _ _ _ h => h) (Or.inl ⟨by rfl, ?hy101⟩) (by assumption) ?rhy101
        case hy101 => ((intro w hSw; (try dsimp only at hSw); go_simp); try with_reducible rfl)
        try simp only [Act.put, List.setIfInBounds_toArray, List.set_cons_zero, List.set_cons_succ]
        refine wpAnyH_takeL (i := 13) (v := ?vhy102) rfl (by kernel_rfl) (by kernel_rfl) (by kernel_rfl) (fun _ _ _ h => h) (Or.inl ⟨by rfl, ?hy102⟩) (by assumption) ?rhy102
        case hy102 => ((intro w hSw; (try dsimp only at hSw); go_simp); try with_reducible rfl)
        try simp only [Act.put, List.setIfInBounds_toArray, List.set_cons_zero, List.set_cons_succ]
        refine wpAnyH_takeL (i := 14) (v := ?vhy103) rfl (by kernel_rfl) (by kernel_rfl) (by kernel_rfl) (fun _ _ _ h => h) (Or.inl ⟨by rfl, ?hy103⟩) (by assumption) ?rhy103
        case hy103 => ((intro w hSw; (try dsimp only at hSw); go_simp); try with_reducible rfl)
        try simp only [Act.put, List.setIfInBounds_toArray, List.set_cons_zero, List.set_cons_succ]
        refine wpAnyH_takeL (i := 15) (v := ?vhy104) rfl (by kernel_rfl) (by kernel_rfl) (by kernel_rfl) (fun _ _ _ h => h) (Or.inl ⟨by rfl, ?hy104⟩) (by assumption) ?rhy104
        case hy104 => ((intro w hSw; (try dsimp only at hSw); go_simp); try with_reducible rfl)
        try simp only [Act.put, List.setIfInBounds_toArray, List.set_cons_zero, List.set_cons_succ]
        refine wpAnyH_takeL (i := 16) (v := ?vhy105) rfl (by kernel_rfl) (by kernel_rfl) (by kernel_rfl) (fun _ _ _ h => h) (Or.inl ⟨by rfl, ?hy105⟩) (by assumption) ?rhy105
        case hy105 => ((intro w hSw; (try dsimp only at hSw); go_simp); try with_reducible rfl)
        try simp only [Act.put, List.setIfInBounds_toArray, List.set_cons_zero, List.set_cons_succ]
        refine wpAnyH_takeL (i := 17) (v := ?vhy106) rfl (by kernel_rfl) (by kernel_rfl) (by kernel_rfl) (fun _ _ _ h => h) (Or.inl ⟨by rfl, ?hy106⟩) (by assumption) ?rhy106
        case hy106 => ((intro w hSw; (try dsimp only at hSw); go_simp); try with_reducible rfl)
        try simp only [Act.put, List.setIfInBounds_toArray, List.set_cons_zero, List.set_cons_succ]
        refine wpAnyH_takeL (i := 18) (v := ?vhy107) rfl (by kernel_rfl) (by kernel_rfl) (by kernel_rfl) (fun _ _ _ h => h) (Or.inl ⟨by rfl, ?hy107⟩) (by assumption) ?rhy107
        case hy107 => ((intro w hSw; (try dsimp only at hSw); go_simp); try with_reducible rfl)
        try simp only [Act.put, List.setIfInBounds_toArray, List.set_cons_zero, List.set_cons_succ]
        refine wpAnyH_takeL (i := 19) (v := ?vhy108) rfl (by kernel_rfl) (by kernel_rfl) (by kernel_rfl) (fun _ _ _ h => h) (Or.inl ⟨by rfl, ?hy108⟩) (by assumption) ?rhy108
        case hy108 => ((intro w hSw; (try dsimp only at hSw); go_simp); try with_reducible rfl)
        try simp only [Act.put, List.setIfInBounds_toArray, List.set_cons_zero, List.set_cons_succ]
        refine wpAnyH_takeL (i := 20) (v := ?vhy109) rfl (by kernel_rfl) (by kernel_rfl) (by kernel_rfl) (fun _ _ _ h => h) (Or.inl ⟨by rfl, ?hy109⟩) (by assumption) ?rhy109
        case hy109 => ((intro w hSw; (try dsimp only at hSw); go_simp); try with_reducible rfl)
        try simp only [Act.put, List.setIfInBounds_toArray, List.set_cons_zero, List.set_cons_succ]
        refine wpAnyH_takeL (i := 21) (v := ?vhy110) rfl (by kernel_rfl) (by kernel_rfl) (by kernel_rfl) (fun _ _ _ h => h) (Or.inl ⟨by rfl, ?hy110⟩) (by assumption) ?rhy110
        case hy110 => ((intro w hSw; (try dsimp only at hSw); go_simp); try with_reducible rfl)
        try simp only [Act.put, List.setIfInBounds_toArray, List.set_cons_zero, List.set_cons_succ]
        refine wpAnyH_takeL (i := 22) (v := ?vhy111) rfl (by kernel_rfl) (by kernel_rfl) (by kernel_rfl) (fun _ _ _ h => h) (Or.inl ⟨by rfl, ?hy111⟩) (by assumption) ?rhy111
        case hy111 => ((intro w hSw; (try dsimp only at hSw); go_simp); try with_reducible rfl)
        try simp only [Act.put, List.setIfInBounds_toArray, List.set_cons_zero, List.set_cons_succ]
        refine wpAnyH_ready (rs := [23]) (by kernel_rfl) (by simp) ?_
        refine AllReadyH.consL (i := 23) rfl (fun K hK => ?_) AllReadyH.nil
        go_simp
        refine (hW.out _ hE11).mono ?_
        rintro e w12 ⟨rfl, g12⟩
        have hb12 := gr hb11 g12
        refine hK.out _ _ ⟨(hZ11.below g12 hZ11.lt).cells, (hX11.below g12 hX11.lt).cells, (hY11.below g12 hY11.lt).cells, (hP11.below g12 hP11.lt).cells, (hQ11.below g12 hQ11.lt).cells⟩ (fun hHeld4 => ?_)
        refine wpAnyH_takeL (i := 24) (v := ?vhy112) rfl (by kernel_rfl) (by kernel_rfl) (by kernel_rfl) (fun _ _ _ h => h) (Or.inl ⟨by rfl, ?hy112⟩) (by assumption) ?rhy112
        case hy112 => ((intro w hSw; (try dsimp only at hSw); go_simp); try with_reducible rfl)
        try simp only [Act.put, List.setIfInBounds_toArray, List.set_cons_zero, List.set_cons_succ]
        refine wpAnyH_takeL (i := 25) (v := ?vhy113) rfl (by kernel_rfl) (by kernel_rfl) (by kernel_rfl) (fun _ _ _ h => h) (Or.inl ⟨by rfl, ?hy113⟩) (by assumption) ?rhy113
        case hy113 => ((intro w hSw; (try dsimp only at hSw); go_simp); try with_reducible rfl)
        try simp only [Act.put, List.setIfInBounds_toArray, List.set_cons_zero, List.set_cons_succ]
        refine wpAnyH_done (by kernel_rfl) ?_ _
        clear hW hq1 hq2 hq3
        go_wp2
        go_ret
        exact ⟨rfl, hb12⟩
      · have hgd : ((g : Int) != 0) = true := by simp; omega
        refine wpAnyH_takeL (i := 11) (v := ?vhy114) rfl (by kernel_rfl) (by kernel_rfl) (by kernel_rfl) (fun _ _ _ h => h) (Or.inl ⟨by rfl, ?hy114⟩) (by assumption) ?rhy114
        case hy114 => ((intro w hSw; (try dsimp only at hSw); go_simp); try with_reducible rfl)
        try simp only [Act.put, List.setIfInBounds_toArray, List.set_cons_zero, List.set_cons_succ]
        refine wpAnyH_takeL (i := 12) (v := ?vhy115) rfl (by kernel_rfl) (by kernel_rfl) (by kernel_rfl) (fun _ _ _ h => h) (Or.inl ⟨by rfl, ?hy115⟩) (by assumption) ?rhy115
        case hy115 => ((intro w hSw; (try dsimp only at hSw); go_simp); try with_reducible rfl)
        try simp only [Act.put, List.setIfInBounds_toArray, List.set_cons_zero, List.set_cons_succ]
        refine wpAnyH_takeL (i := 13) (v := undef) rfl (by kernel_rfl) (by kernel_rfl) (by kernel_rfl) (fun _ _ _ h => h) (Or.inr ⟨by rfl, rfl⟩) (by assumption) ?_
        try simp only [Act.put, List.setIfInBounds_toArray, List.set_cons_zero, List.set_cons_succ]
        refine wpAnyH_takeL (i := 14) (v := undef) rfl (by kernel_rfl) (by kernel_rfl) (by kernel_rfl) (fun _ _ _ h => h) (Or.inr ⟨by rfl, rfl⟩) (by assumption) ?_
        try simp only [Act.put, List.setIfInBounds_toArray, List.set_cons_zero, List.set_cons_succ]
        refine wpAnyH_takeL (i := 15) (v := undef) rfl (by kernel_rfl) (by kernel_rfl) (by kernel_rfl) (fun _ _ _ h => h) (Or.inr ⟨by rfl, rfl⟩) (by assumption) ?_
        try simp only [Act.put, List.setIfInBounds_toArray, List.set_cons_zero, List.set_cons_succ]
        refine wpAnyH_takeL (i := 16) (v := undef) rfl (by kernel_rfl) (by kernel_rfl) (by kernel_rfl) (fun _ _ _ h => h) (Or.inr ⟨by rfl, rfl⟩) (by assumption) ?_
        try simp only [Act.put, List.setIfInBounds_toArray, List.set_cons_zero, List.set_cons_succ]
        refine wpAnyH_takeL (i := 17) (v := undef) rfl (by kernel_rfl) (by kernel_rfl) (by kernel_rfl) (fun _ _ _ h => h) (Or.inr ⟨by rfl, rfl⟩) (by assumption) ?_
        try simp only [Act.put, List.setIfInBounds_toArray, List.set_cons_zero, List.set_cons_succ]
        refine wpAnyH_takeL (i := 18) (v := undef) rfl (by kernel_rfl) (by kernel_rfl) (by kernel_rfl) (fun _ _ _ h => h) (Or.inr ⟨by rfl, rfl⟩) (by assumption) ?_
        try simp only [Act.put, List.setIfInBounds_toArray, List.set_cons_zero, List.set_cons_succ]
        refine wpAnyH_takeL (i := 19) (v := undef) rfl (by kernel_rfl) (by kernel_rfl) (by kernel_rfl) (fun _ _ _ h => h) (Or.inr ⟨by rfl, rfl⟩) (by assumption) ?_
        try simp only [Act.put, List.setIfInBounds_toArray, List.set_cons_zero, List.set_cons_succ]
        refine wpAnyH_takeL (i := 20) (v := ?vhy116) rfl (by kernel_rfl) (by kernel_rfl) (by kernel_rfl) (fun _ _ _ h => h) (Or.inl ⟨by rfl, ?hy116⟩) (by assumption) ?rhy116
        case hy116 => ((intro w hSw; (try dsimp only at hSw); go_simp); try with_reducible rfl)
        try simp only [Act.put, List.setIfInBounds_toArray, List.set_cons_zero, List.set_cons_succ]
        refine wpAnyH_takeL (i := 21) (v := ?vhy117) rfl (by kernel_rfl) (by kernel_rfl) (by kernel_rfl) (fun _ _ _ h => h) (Or.inl ⟨by rfl, ?hy117⟩) (by assumption) ?rhy117
        case hy117 => ((intro w hSw; (try dsimp only at hSw); go_simp); try with_reducible rfl)
        try simp only [Act.put, List.setIfInBounds_toArray, List.set_cons_zero, List.set_cons_succ]
        refine wpAnyH_takeL (i := 22) (v := ?vhy118) rfl (by kernel_rfl) (by kernel_rfl) (by kernel_rfl) (fun _ _ _ h => h) (Or.inl ⟨by rfl, ?hy118⟩) (by assumption) ?rhy118
        case hy118 => ((intro w hSw; (try dsimp only at hSw); go_simp); try with_reducible rfl)
        try simp only [Act.put, List.setIfInBounds_toArray, List.set_cons_zero, List.set_cons_succ]
        refine wpAnyH_ready (rs := [23]) (by kernel_rfl) (by simp) ?_
        refine AllReadyH.consL (i := 23) rfl (fun K hK => ?_) AllReadyH.nil
        go_simp
        refine (hW.out _ hE11).mono ?_
        rintro e w12 ⟨rfl, g12⟩
        have hb12 := gr hb11 g12
        refine hK.out _ _ ⟨(hZ11.below g12 hZ11.lt).cells, (hX11.below g12 hX11.lt).cells, (hY11.below g12 hY11.lt).cells, (hP11.below g12 hP11.lt).cells, (hQ11.below g12 hQ11.lt).cells⟩ (fun hHeld4 => ?_)
        refine wpAnyH_takeL (i := 24) (v := ?vhy119) rfl (by kernel_rfl) (by kernel_rfl) (by kernel_rfl) (fun _ _ _ h => h) (Or.inl ⟨by rfl, ?hy119⟩) (by assumption) ?rhy119
        case hy119 => ((intro w hSw; (try dsimp only at hSw); go_simp); try with_reducible rfl)
        try simp only [Act.put, List.setIfInBounds_toArray, List.set_cons_zero, List.set_cons_succ]
        refine wpAnyH_takeL (i := 25) (v := ?vhy120) rfl (by kernel_rfl) (by kernel_rfl) (by kernel_rfl) (fun _ _ _ h => h) (Or.inl ⟨by rfl, ?hy120⟩) (by assumption) ?rhy120
        case hy120 => ((intro w hSw; (try dsimp only at hSw); go_simp); try with_reducible rfl)
        try simp only [Act.put, List.setIfInBounds_toArray, List.set_cons_zero, List.set_cons_succ]
        refine wpAnyH_done (by kernel_rfl) ?_ _
        clear hW hq1 hq2 hq3
        go_wp2
        go_ret
        exact ⟨rfl, hb12⟩
    · have hfd : ((f : Int) != 0) = true := by simp; omega
      clear hA hB hf0 hP7 hQ7 cp cq hq1 hq2 hq3
      go_wp2_with (go_at_call 12; refine (lnum_any _ _).mono ?_; rintro e w' ⟨rfl, rfl⟩)
      refine (hW.out _ hE7).mono ?_
      rintro e w20 ⟨rfl, g20⟩
      have hb20 := gr hb7 g20
      clear g20 hW
      go_wp2
      go_ret
      exact ⟨rfl, hb20⟩
theorem holds_any (c d : Cl) (x y : Vl) (w : World) (hE : Env w) (hx : x.Wf) (hy : y.Wf) : Calls Tryz.prog 4 #[c.val, d.val, x.val, y.val] w (TrueP w) := by
  cases h1 : decide ((c.n.length : Int) ≤ 40)
  · exact holds_w1 c d x y w hE h1
  cases h2 : decide ((d.n.length : Int) ≤ 40)
  · exact holds_w2 c d x y w hE h1 h2
  cases h3 : decide (300 < (x.s.length : Int))
  · cases h4 : decide (300 < (y.s.length : Int))
    · exact holds_ok c d x y w hE hx hy h1 h2 h3 h4
    · exact holds_w4 c d x y w hE h1 h2 h3 h4
  · exact holds_w3 c d x y w hE h1 h2 h3
end Go.Proofs.YtagoooclfcbdeaaGreatDoor
