/- Law 06: ConvertDoes. -/
import Derived.Test.YtagoooclfcbdeaaGreatDoorCvS
import Derived.Test.YtagoooclfcbdeaaGreatDoorCvU
namespace Go.Proofs.YtagoooclfcbdeaaGreatDoor
open Go.RowKit
set_option linter.unusedVariables false
attribute [local go_sem] strL_size

theorem lshort_any (c : Cl) (w : World) : Calls Tryz.prog 8 #[c.val] w fun e w' => e = .returned (.bool (decide ((c.n.length : Int) ≤ 40))) ∧ Below w.heap.size w w' := by
  obtain ⟨cn, ct, cz, cl⟩ := c
  simp only [Cl.val]
  go_enter Tryz.func8, Tryz.ntmps8
  go_wp2
  go_ret
  exact ⟨rfl, gr_alloc (Below.refl _ w) _⟩
theorem three_boxes (w : World) (c d : Cl) (x : Vl) :
    CBox (((w.alloc (.cells #[.string (strL c.n), .int .i64 c.t, .int .i64 c.z, .bool c.nl] 24)).alloc (.cells #[.string (strL d.n), .int .i64 d.t, .int .i64 d.z, .bool d.nl] 24)).alloc (.cells #[.int .i64 x.k, .int .i64 x.i, .int .u64 x.u, .string (strL x.s)] 28)) w.heap.size c ∧
    CBox (((w.alloc (.cells #[.string (strL c.n), .int .i64 c.t, .int .i64 c.z, .bool c.nl] 24)).alloc (.cells #[.string (strL d.n), .int .i64 d.t, .int .i64 d.z, .bool d.nl] 24)).alloc (.cells #[.int .i64 x.k, .int .i64 x.i, .int .u64 x.u, .string (strL x.s)] 28)) (w.heap.size + 1) d ∧
    VBox (((w.alloc (.cells #[.string (strL c.n), .int .i64 c.t, .int .i64 c.z, .bool c.nl] 24)).alloc (.cells #[.string (strL d.n), .int .i64 d.t, .int .i64 d.z, .bool d.nl] 24)).alloc (.cells #[.int .i64 x.k, .int .i64 x.i, .int .u64 x.u, .string (strL x.s)] 28)) (w.heap.size + 1 + 1) x.k x.i x.u (strL x.s) ∧
    Below w.heap.size w (((w.alloc (.cells #[.string (strL c.n), .int .i64 c.t, .int .i64 c.z, .bool c.nl] 24)).alloc (.cells #[.string (strL d.n), .int .i64 d.t, .int .i64 d.z, .bool d.nl] 24)).alloc (.cells #[.int .i64 x.k, .int .i64 x.i, .int .u64 x.u, .string (strL x.s)] 28)) := by
  have e1 := CBox.new w c
  generalize h1 : (w.alloc (.cells #[.string (strL c.n), .int .i64 c.t, .int .i64 c.z, .bool c.nl] 24)) = w1 at *
  have z1 : w1.heap.size = w.heap.size + 1 := by rw [← h1]; simp
  have b1 : Below w.heap.size w w1 := by rw [← h1]; exact gr_alloc (Below.refl _ w) _
  have e2 := CBox.new w1 d
  have e1 := e1.below ((Below.refl _ w1).alloc (Nat.le_refl _) (.cells #[.string (strL d.n), .int .i64 d.t, .int .i64 d.z, .bool d.nl] 24)) (by omega)
  have b2 := gr_alloc b1 (.cells #[.string (strL d.n), .int .i64 d.t, .int .i64 d.z, .bool d.nl] 24)
  generalize h2 : (w1.alloc (.cells #[.string (strL d.n), .int .i64 d.t, .int .i64 d.z, .bool d.nl] 24)) = w2 at *
  have z2 : w2.heap.size = w.heap.size + 1 + 1 := by rw [← h2]; simp [z1]
  have e3 := VBox.new w2 x.k x.i x.u (strL x.s)
  have e2 := e2.below ((Below.refl _ w2).alloc (Nat.le_refl _) (.cells #[.int .i64 x.k, .int .i64 x.i, .int .u64 x.u, .string (strL x.s)] 28)) (by omega)
  have e1 := e1.below ((Below.refl _ w2).alloc (Nat.le_refl _) (.cells #[.int .i64 x.k, .int .i64 x.i, .int .u64 x.u, .string (strL x.s)] 28)) (by omega)
  have b3 := gr_alloc b2 (.cells #[.int .i64 x.k, .int .i64 x.i, .int .u64 x.u, .string (strL x.s)] 28)
  rw [z1] at e2
  rw [z2] at e3
  exact ⟨e1, e2, e3, b3⟩
/-- Two values that are compared. -/
theorem eql_iff {x y : Vl} {E : Bool} (h : E = true ↔ x = y) (W : World) : (binOp .eql 28 (.agg #[.int .i64 x.k, .int .i64 x.i, .int .u64 x.u, .string (strL x.s)]) (.agg #[.int .i64 y.k, .int .i64 y.i, .int .u64 y.u, .string (strL y.s)])).run Tryz.prog W = .ok (.bool E) W := by
  rw [eql_V]
  have e : (x.k == y.k && x.i == y.i && x.u == y.u && decide (strL x.s = strL y.s)) = E := by
    rw [Bool.eq_iff_iff, h]
    obtain ⟨a, b, c, d⟩ := x
    obtain ⟨a', b', c', d'⟩ := y
    simp [and_assoc]
    intro _ _ _
    constructor
    · intro s
      have := congrArg (fun z : ByteArray => z.data.toList) s
      simpa [strL] using this
    · rintro rfl; rfl
  rw [e]
def TrueP (w : World) (e : Ending) (w' : World) : Prop := e = .returned (.bool true) ∧ Below w.heap.size w w'
set_option maxRecDepth 100000 in
theorem does_w1 (c d : Cl) (x : Vl) (w : World) (hE : Env w) (h1 : decide ((c.n.length : Int) ≤ 40) = false) : Calls Tryz.prog 3 #[c.val, d.val, x.val] w (TrueP w) := by
  obtain ⟨cn, ct, cz, cl⟩ := c
  obtain ⟨dn, dt, dz, dl⟩ := d
  obtain ⟨xk, xi, xu, xs⟩ := x
  simp only [Cl.val, Vl.val, valV] at *
  obtain ⟨hC1, hD1, hX1, hb1⟩ := three_boxes w ⟨cn, ct, cz, cl⟩ ⟨dn, dt, dz, dl⟩ ⟨xk, xi, xu, xs⟩
  dsimp only at hC1 hD1 hX1 hb1
  have hE1 := hE.below hb1
  have hW := Lib.hid (fun W h => lworks_any W h)
  have hS1 := Lib.hid (fun W => lshort_any ⟨cn, ct, cz, cl⟩ W)
  have hS2 := Lib.hid (fun W => lshort_any ⟨dn, dt, dz, dl⟩ W)
  simp only [Cl.val] at hS1 hS2
  rw [h1] at hS1
  go_enter Tryz.func3, Tryz.ntmps3
  go_wp2_with fail
  refine (hS1.out _).mono ?_
  rintro e w2 ⟨rfl, g1⟩
  have hlt := hX1.lt
  have hC2 := hC1.below g1 (by omega)
  have hD2 := hD1.below g1 (by omega)
  have hX2 := hX1.below g1 (by omega)
  have hb2 := gr hb1 g1
  have hE2 := hE1.below g1
  clear hlt hC1 hD1 hX1 hb1 hE1
  clear g1 hS1 hE
  clear hS2
  go_wp2_with fail
  refine (hW.out _ hE2).mono ?_
  rintro e w9 ⟨rfl, g9⟩
  have hb9 := gr hb2 g9
  clear g9 hW
  go_wp2
  go_ret
  exact ⟨rfl, hb9⟩
set_option maxRecDepth 100000 in
theorem does_w2 (c d : Cl) (x : Vl) (w : World) (hE : Env w) (h1 : decide ((c.n.length : Int) ≤ 40) = true) (h2 : decide ((d.n.length : Int) ≤ 40) = false) : Calls Tryz.prog 3 #[c.val, d.val, x.val] w (TrueP w) := by
  obtain ⟨cn, ct, cz, cl⟩ := c
  obtain ⟨dn, dt, dz, dl⟩ := d
  obtain ⟨xk, xi, xu, xs⟩ := x
  simp only [Cl.val, Vl.val, valV] at *
  obtain ⟨hC1, hD1, hX1, hb1⟩ := three_boxes w ⟨cn, ct, cz, cl⟩ ⟨dn, dt, dz, dl⟩ ⟨xk, xi, xu, xs⟩
  dsimp only at hC1 hD1 hX1 hb1
  have hE1 := hE.below hb1
  have hW := Lib.hid (fun W h => lworks_any W h)
  have hS1 := Lib.hid (fun W => lshort_any ⟨cn, ct, cz, cl⟩ W)
  have hS2 := Lib.hid (fun W => lshort_any ⟨dn, dt, dz, dl⟩ W)
  simp only [Cl.val] at hS1 hS2
  rw [h1] at hS1
  go_enter Tryz.func3, Tryz.ntmps3
  go_wp2_with fail
  refine (hS1.out _).mono ?_
  rintro e w2 ⟨rfl, g1⟩
  have hlt := hX1.lt
  have hC2 := hC1.below g1 (by omega)
  have hD2 := hD1.below g1 (by omega)
  have hX2 := hX1.below g1 (by omega)
  have hb2 := gr hb1 g1
  have hE2 := hE1.below g1
  clear hlt hC1 hD1 hX1 hb1 hE1
  clear g1 hS1 hE
  rw [h2] at hS2
  have cc := hC2.cells
  have cd := hD2.cells
  have cv := hX2.cells
  dsimp only at cc cd cv
  go_wp2_with fail
  refine (hS2.out _).mono ?_
  rintro e w3 ⟨rfl, g2⟩
  clear cc cd cv
  have hlt := hX2.lt
  have hC3 := hC2.below g2 (by omega)
  have hD3 := hD2.below g2 (by omega)
  have hX3 := hX2.below g2 (by omega)
  have hb3 := gr hb2 g2
  have hE3 := hE2.below g2
  clear hlt hC2 hD2 hX2 hb2 hE2
  clear g2 hS2
  go_wp2_with fail
  refine (hW.out _ hE3).mono ?_
  rintro e w9 ⟨rfl, g9⟩
  have hb9 := gr hb3 g9
  clear g9 hW
  go_wp2
  go_ret
  exact ⟨rfl, hb9⟩
set_option maxRecDepth 100000 in
theorem does_w3 (c d : Cl) (x : Vl) (w : World) (hE : Env w) (h1 : decide ((c.n.length : Int) ≤ 40) = true) (h2 : decide ((d.n.length : Int) ≤ 40) = true) (h3 : decide (300 < (x.s.length : Int)) = true) : Calls Tryz.prog 3 #[c.val, d.val, x.val] w (TrueP w) := by
  obtain ⟨cn, ct, cz, cl⟩ := c
  obtain ⟨dn, dt, dz, dl⟩ := d
  obtain ⟨xk, xi, xu, xs⟩ := x
  simp only [Cl.val, Vl.val, valV] at *
  obtain ⟨hC1, hD1, hX1, hb1⟩ := three_boxes w ⟨cn, ct, cz, cl⟩ ⟨dn, dt, dz, dl⟩ ⟨xk, xi, xu, xs⟩
  dsimp only at hC1 hD1 hX1 hb1
  have hE1 := hE.below hb1
  have hW := Lib.hid (fun W h => lworks_any W h)
  have hS1 := Lib.hid (fun W => lshort_any ⟨cn, ct, cz, cl⟩ W)
  have hS2 := Lib.hid (fun W => lshort_any ⟨dn, dt, dz, dl⟩ W)
  simp only [Cl.val] at hS1 hS2
  rw [h1] at hS1
  go_enter Tryz.func3, Tryz.ntmps3
  go_wp2_with fail
  refine (hS1.out _).mono ?_
  rintro e w2 ⟨rfl, g1⟩
  have hlt := hX1.lt
  have hC2 := hC1.below g1 (by omega)
  have hD2 := hD1.below g1 (by omega)
  have hX2 := hX1.below g1 (by omega)
  have hb2 := gr hb1 g1
  have hE2 := hE1.below g1
  clear hlt hC1 hD1 hX1 hb1 hE1
  clear g1 hS1 hE
  rw [h2] at hS2
  have cc := hC2.cells
  have cd := hD2.cells
  have cv := hX2.cells
  dsimp only at cc cd cv
  go_wp2_with fail
  refine (hS2.out _).mono ?_
  rintro e w3 ⟨rfl, g2⟩
  clear cc cd cv
  have hlt := hX2.lt
  have hC3 := hC2.below g2 (by omega)
  have hD3 := hD2.below g2 (by omega)
  have hX3 := hX2.below g2 (by omega)
  have hb3 := gr hb2 g2
  have hE3 := hE2.below g2
  clear hlt hC2 hD2 hX2 hb2 hE2
  clear g2 hS2
  have cc := hC3.cells
  have cd := hD3.cells
  have cv := hX3.cells
  dsimp only at cc cd cv
  go_wp2_with fail
  refine (hW.out _ hE3).mono ?_
  rintro e w9 ⟨rfl, g9⟩
  have hb9 := gr hb3 g9
  clear g9 hW
  go_wp2
  go_ret
  exact ⟨rfl, hb9⟩
set_option maxRecDepth 100000 in
set_option maxHeartbeats 2000000 in
theorem does_ok (c d : Cl) (x : Vl) (w : World) (hE : Env w) (hx : x.Wf) (h1 : decide ((c.n.length : Int) ≤ 40) = true) (h2 : decide ((d.n.length : Int) ≤ 40) = true) (h3 : decide (300 < (x.s.length : Int)) = false) : Calls Tryz.prog 3 #[c.val, d.val, x.val] w (TrueP w) := by
  have l1 : c.n.length ≤ 40 := by have := of_decide_eq_true h1; omega
  have l2 : d.n.length ≤ 40 := by have := of_decide_eq_true h2; omega
  have l3 : x.s.length ≤ 300 := by have := of_decide_eq_false h3; omega
  have hP := fun W h => convert_any c d x W h (by omega) (by omega) hx
  have hQ := fun W h => rconv_any c d x W h (by omega) (by omega) hx (by omega)
  unfold ConvP at hQ
  generalize (convV c d x).1 = y at *
  generalize (convV c d x).2 = n at *
  have heq := Lib.hid (fun W => eql_iff (x := y) (y := y) (E := true) (by simp) W)
  obtain ⟨yk, yi, yu, ys⟩ := y
  dsimp only at heq
  replace hP := Lib.hid hP
  replace hQ := Lib.hid hQ
  clear l1 l2 l3 hx
  obtain ⟨cn, ct, cz, cl⟩ := c
  obtain ⟨dn, dt, dz, dl⟩ := d
  obtain ⟨xk, xi, xu, xs⟩ := x
  simp only [Cl.val, Vl.val, valV] at *
  obtain ⟨hC1, hD1, hX1, hb1⟩ := three_boxes w ⟨cn, ct, cz, cl⟩ ⟨dn, dt, dz, dl⟩ ⟨xk, xi, xu, xs⟩
  dsimp only at hC1 hD1 hX1 hb1
  have hE1 := hE.below hb1
  have hW := Lib.hid (fun W h => lworks_any W h)
  have hS1 := Lib.hid (fun W => lshort_any ⟨cn, ct, cz, cl⟩ W)
  have hS2 := Lib.hid (fun W => lshort_any ⟨dn, dt, dz, dl⟩ W)
  simp only [Cl.val] at hS1 hS2
  rw [h1] at hS1
  go_enter Tryz.func3, Tryz.ntmps3
  go_wp2_with fail
  refine (hS1.out _).mono ?_
  rintro e w2 ⟨rfl, g1⟩
  have hlt := hX1.lt
  have hC2 := hC1.below g1 (by omega)
  have hD2 := hD1.below g1 (by omega)
  have hX2 := hX1.below g1 (by omega)
  have hb2 := gr hb1 g1
  have hE2 := hE1.below g1
  clear hlt hC1 hD1 hX1 hb1 hE1
  clear g1 hS1 hE
  rw [h2] at hS2
  have cc := hC2.cells
  have cd := hD2.cells
  have cv := hX2.cells
  dsimp only at cc cd cv
  go_wp2_with fail
  refine (hS2.out _).mono ?_
  rintro e w3 ⟨rfl, g2⟩
  clear cc cd cv
  have hlt := hX2.lt
  have hC3 := hC2.below g2 (by omega)
  have hD3 := hD2.below g2 (by omega)
  have hX3 := hX2.below g2 (by omega)
  have hb3 := gr hb2 g2
  have hE3 := hE2.below g2
  clear hlt hC2 hD2 hX2 hb2 hE2
  clear g2 hS2
  have cc := hC3.cells
  have cd := hD3.cells
  have cv := hX3.cells
  dsimp only at cc cd cv
  go_wp2_with fail
  refine (hP.out _ hE3).mono ?_
  rintro e w4 ⟨rfl, g2⟩
  clear cc cd cv hP
  have g3 := gr_alloc g2 (.cells #[.int .i64 yk, .int .i64 yi, .int .u64 yu, .string (strL ys)] 28)
  have hY := VBox.new w4 yk yi yu (strL ys)
  have hYlt := hY.lt
  have hlt := hX3.lt
  have hC5 := hC3.below g3 (by omega)
  have hD5 := hD3.below g3 (by omega)
  have hX5 := hX3.below g3 (by omega)
  have hb5 := gr hb3 g3
  have hE5 := hE3.below g3
  clear hlt hC3 hD3 hX3 hb3 hE3
  clear g2 g3
  have cc := hC5.cells
  have cd := hD5.cells
  have cv := hX5.cells
  dsimp only at cc cd cv
  go_wp2_with fail
  refine (hQ.out _ hE5).mono ?_
  rintro e w6 ⟨rfl, g2⟩
  clear cc cd cv hQ
  have g3 := gr_alloc g2 (.cells #[.int .i64 yk, .int .i64 yi, .int .u64 yu, .string (strL ys)] 28)
  have hY7 := hY.below g3 hYlt
  have hlt := hX5.lt
  have hC7 := hC5.below g3 (by omega)
  have hD7 := hD5.below g3 (by omega)
  have hX7 := hX5.below g3 (by omega)
  have hb7 := gr hb5 g3
  have hE7 := hE5.below g3
  clear hlt hC5 hD5 hX5 hb5 hE5
  clear g2 g3 hY hYlt hC7 hD7 hX7
  have cy := hY7.cells
  have heq := heq.out
  go_wp2_with (go_at_call 12; refine (lnum_any _ _).mono ?_; rintro e w' ⟨rfl, rfl⟩)
  go_wp2_with fail
  refine (hW.out _ hE7).mono ?_
  rintro e w9 ⟨rfl, g9⟩
  have hb9 := gr hb7 g9
  clear g9 hW
  go_wp2
  go_ret
  exact ⟨rfl, hb9⟩
theorem does_any (c d : Cl) (x : Vl) (w : World) (hE : Env w) (hx : x.Wf) : Calls Tryz.prog 3 #[c.val, d.val, x.val] w (TrueP w) := by
  cases h1 : decide ((c.n.length : Int) ≤ 40)
  · exact does_w1 c d x w hE h1
  cases h2 : decide ((d.n.length : Int) ≤ 40)
  · exact does_w2 c d x w hE h1 h2
  cases h3 : decide (300 < (x.s.length : Int))
  · exact does_ok c d x w hE hx h1 h2 h3
  · exact does_w3 c d x w hE h1 h2 h3
end Go.Proofs.YtagoooclfcbdeaaGreatDoor
