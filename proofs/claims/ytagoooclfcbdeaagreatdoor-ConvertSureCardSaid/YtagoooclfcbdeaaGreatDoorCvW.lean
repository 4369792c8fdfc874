/- Law 06: ConvertSure. -/
import Derived.Test.YtagoooclfcbdeaaGreatDoorCvV
namespace Go.Proofs.YtagoooclfcbdeaaGreatDoor
open Go.RowKit
set_option linter.unusedVariables false

theorem two_boxes (w : World) (c d : Cl) :
    CBox ((w.alloc (.cells #[.string (strL c.n), .int .i64 c.t, .int .i64 c.z, .bool c.nl] 24)).alloc (.cells #[.string (strL d.n), .int .i64 d.t, .int .i64 d.z, .bool d.nl] 24)) w.heap.size c ∧
    CBox ((w.alloc (.cells #[.string (strL c.n), .int .i64 c.t, .int .i64 c.z, .bool c.nl] 24)).alloc (.cells #[.string (strL d.n), .int .i64 d.t, .int .i64 d.z, .bool d.nl] 24)) (w.heap.size + 1) d ∧
    Below w.heap.size w ((w.alloc (.cells #[.string (strL c.n), .int .i64 c.t, .int .i64 c.z, .bool c.nl] 24)).alloc (.cells #[.string (strL d.n), .int .i64 d.t, .int .i64 d.z, .bool d.nl] 24)) := by
  have e1 := CBox.new w c
  generalize h1 : (w.alloc (.cells #[.string (strL c.n), .int .i64 c.t, .int .i64 c.z, .bool c.nl] 24)) = w1 at *
  have z1 : w1.heap.size = w.heap.size + 1 := by rw [← h1]; simp
  have b1 : Below w.heap.size w w1 := by rw [← h1]; exact gr_alloc (Below.refl _ w) _
  have e2 := CBox.new w1 d
  have e1 := e1.below ((Below.refl _ w1).alloc (Nat.le_refl _) (.cells #[.string (strL d.n), .int .i64 d.t, .int .i64 d.z, .bool d.nl] 24)) (by omega)
  have b2 := gr_alloc b1 (.cells #[.string (strL d.n), .int .i64 d.t, .int .i64 d.z, .bool d.nl] 24)
  rw [z1] at e2
  exact ⟨e1, e2, b2⟩
set_option maxRecDepth 100000 in
theorem sure_w1 (c d : Cl) (w : World) (hE : Env w) (h1 : decide ((c.n.length : Int) ≤ 40) = false) : Calls Tryz.prog 5 #[c.val, d.val] w (TrueP w) := by
  obtain ⟨cn, ct, cz, cl⟩ := c
  obtain ⟨dn, dt, dz, dl⟩ := d
  simp only [Cl.val] at *
  obtain ⟨hC1, hD1, hb1⟩ := two_boxes w ⟨cn, ct, cz, cl⟩ ⟨dn, dt, dz, dl⟩
  dsimp only at hC1 hD1 hb1
  have hE1 := hE.below hb1
  have hW := Lib.hid (fun W h => lworks_any W h)
  have hS1 := Lib.hid (fun W => lshort_any ⟨cn, ct, cz, cl⟩ W)
  have hS2 := Lib.hid (fun W => lshort_any ⟨dn, dt, dz, dl⟩ W)
  simp only [Cl.val] at hS1 hS2
  rw [h1] at hS1
  go_enter Tryz.func5, Tryz.ntmps5
  go_wp2_with fail
  refine (hS1.out _).mono ?_
  rintro e w2 ⟨rfl, g1⟩
  have hlt := hD1.lt
  have hC2 := hC1.below g1 (by omega)
  have hD2 := hD1.below g1 (by omega)
  have hb2 := gr hb1 g1
  have hE2 := hE1.below g1
  clear hlt hC1 hD1 hb1 hE1
  clear g1 hS1 hE
  clear hS2
  go_wp2_with fail
  refine (hW.out _ hE2).mono ?_
  rintro e w9 ⟨rfl, g9⟩
  have hb9 := gr hb2 g9
  clear g9 hW
  go_wp2
  go_ret
  exact ⟨rfl, hb9⟩
set_option maxRecDepth 100000 in
theorem sure_w2 (c d : Cl) (w : World) (hE : Env w) (h1 : decide ((c.n.length : Int) ≤ 40) = true) (h2 : decide ((d.n.length : Int) ≤ 40) = false) : Calls Tryz.prog 5 #[c.val, d.val] w (TrueP w) := by
  obtain ⟨cn, ct, cz, cl⟩ := c
  obtain ⟨dn, dt, dz, dl⟩ := d
  simp only [Cl.val] at *
  obtain ⟨hC1, hD1, hb1⟩ := two_boxes w ⟨cn, ct, cz, cl⟩ ⟨dn, dt, dz, dl⟩
  dsimp only at hC1 hD1 hb1
  have hE1 := hE.below hb1
  have hW := Lib.hid (fun W h => lworks_any W h)
  have hS1 := Lib.hid (fun W => lshort_any ⟨cn, ct, cz, cl⟩ W)
  have hS2 := Lib.hid (fun W => lshort_any ⟨dn, dt, dz, dl⟩ W)
  simp only [Cl.val] at hS1 hS2
  rw [h1] at hS1
  go_enter Tryz.func5, Tryz.ntmps5
  go_wp2_with fail
  refine (hS1.out _).mono ?_
  rintro e w2 ⟨rfl, g1⟩
  have hlt := hD1.lt
  have hC2 := hC1.below g1 (by omega)
  have hD2 := hD1.below g1 (by omega)
  have hb2 := gr hb1 g1
  have hE2 := hE1.below g1
  clear hlt hC1 hD1 hb1 hE1
  clear g1 hS1 hE
  rw [h2] at hS2
  have cc := hC2.cells
  have cd := hD2.cells
  dsimp only at cc cd
  go_wp2_with fail
  refine (hS2.out _).mono ?_
  rintro e w3 ⟨rfl, g2⟩
  clear cc cd
  have hlt := hD2.lt
  have hC3 := hC2.below g2 (by omega)
  have hD3 := hD2.below g2 (by omega)
  have hb3 := gr hb2 g2
  have hE3 := hE2.below g2
  clear hlt hC2 hD2 hb2 hE2
  clear g2 hS2
  go_wp2_with fail
  refine (hW.out _ hE3).mono ?_
  rintro e w9 ⟨rfl, g9⟩
  have hb9 := gr hb3 g9
  clear g9 hW
  go_wp2
  go_ret
  exact ⟨rfl, hb9⟩
set_option maxRecDepth 100000 in
set_option maxHeartbeats 2000000 in
theorem sure_wok (c d : Cl) (w : World) (hE : Env w) (h1 : decide ((c.n.length : Int) ≤ 40) = true) (h2 : decide ((d.n.length : Int) ≤ 40) = true) : Calls Tryz.prog 5 #[c.val, d.val] w (TrueP w) := by
  have l1 : c.n.length ≤ 40 := by have := of_decide_eq_true h1; omega
  have l2 : d.n.length ≤ 40 := by have := of_decide_eq_true h2; omega
  have hP := fun W h => sure_any c d W h (by omega) (by omega)
  have hQ := fun W => rsure_any c d W (by omega) (by omega)
  generalize (sureV c d).1 = b at *
  generalize (sureV c d).2 = n at *
  have hY1 := Lib.hid (fun W => way_any c.t d.t W)
  have hY2 := Lib.hid (fun W => rway_any c.t d.t W)
  generalize wayV c.t d.t = y at *
  replace hP := Lib.hid hP
  replace hQ := Lib.hid hQ
  clear l1 l2
  obtain ⟨cn, ct, cz, cl⟩ := c
  obtain ⟨dn, dt, dz, dl⟩ := d
  simp only [Cl.val] at *
  obtain ⟨hC1, hD1, hb1⟩ := two_boxes w ⟨cn, ct, cz, cl⟩ ⟨dn, dt, dz, dl⟩
  dsimp only at hC1 hD1 hb1
  have hE1 := hE.below hb1
  have hW := Lib.hid (fun W h => lworks_any W h)
  have hS1 := Lib.hid (fun W => lshort_any ⟨cn, ct, cz, cl⟩ W)
  have hS2 := Lib.hid (fun W => lshort_any ⟨dn, dt, dz, dl⟩ W)
  simp only [Cl.val] at hS1 hS2
  rw [h1] at hS1
  go_enter Tryz.func5, Tryz.ntmps5
  go_wp2_with fail
  refine (hS1.out _).mono ?_
  rintro e w2 ⟨rfl, g1⟩
  have hlt := hD1.lt
  have hC2 := hC1.below g1 (by omega)
  have hD2 := hD1.below g1 (by omega)
  have hb2 := gr hb1 g1
  have hE2 := hE1.below g1
  clear hlt hC1 hD1 hb1 hE1
  clear g1 hS1 hE
  rw [h2] at hS2
  have cc := hC2.cells
  have cd := hD2.cells
  dsimp only at cc cd
  go_wp2_with fail
  refine (hS2.out _).mono ?_
  rintro e w3 ⟨rfl, g2⟩
  clear cc cd
  have hlt := hD2.lt
  have hC3 := hC2.below g2 (by omega)
  have hD3 := hD2.below g2 (by omega)
  have hb3 := gr hb2 g2
  have hE3 := hE2.below g2
  clear hlt hC2 hD2 hb2 hE2
  clear g2 hS2
  have cc := hC3.cells
  have cd := hD3.cells
  dsimp only at cc cd
  go_wp2_with fail
  refine (hP.out _ hE3).mono ?_
  rintro e w4 ⟨rfl, g2⟩
  clear cc cd hP
  have hlt := hD3.lt
  have hC4 := hC3.below g2 (by omega)
  have hD4 := hD3.below g2 (by omega)
  have hb4 := gr hb3 g2
  have hE4 := hE3.below g2
  clear hlt hC3 hD3 hb3 hE3
  clear g2
  have cc := hC4.cells
  have cd := hD4.cells
  dsimp only at cc cd
  go_wp2_with fail
  refine (hQ.out _).mono ?_
  rintro e w5 ⟨rfl, g2⟩
  clear cc cd hQ
  have hlt := hD4.lt
  have hC5 := hC4.below g2 (by omega)
  have hD5 := hD4.below g2 (by omega)
  have hb5 := gr hb4 g2
  have hE5 := hE4.below g2
  clear hlt hC4 hD4 hb4 hE4
  clear g2
  go_upto_region 5 with fail
  have hC6 : CBox w5.drew _ _ := hC5
  have hD6 : CBox w5.drew _ _ := hD5
  have hE6 : Env w5.drew := hE5.below (Below.refl w5.heap.size w5).drew
  have hb6 := hb5.drew
  clear hC5 hD5 hE5 hb5
  refine wp_region_held_drew (S := fun w' => w'.cell? ⟨w.heap.size, 1, none⟩ = some (.int .i64 ct) ∧ w'.cell? ⟨w.heap.size + 1, 1, none⟩ = some (.int .i64 dt)) (by kernel_rfl) ⟨hC6.cells.2.1, hD6.cells.2.1⟩ (fun hHeld => ?_)
  refine wpAnyH_takeL (i := 0) (v := ?vhy1) rfl (by kernel_rfl) (by kernel_rfl) (by kernel_rfl) (fun _ _ _ h => h) (Or.inl ⟨by rfl, ?hy1⟩) (by assumption) ?rhy1
  case hy1 => ((intro w hSw; (try dsimp only at hSw); go_simp); try with_reducible rfl)
  try simp only [Act.put, List.setIfInBounds_toArray, List.set_cons_zero, List.set_cons_succ]
  refine wpAnyH_takeL (i := 1) (v := ?vhy2) rfl (by kernel_rfl) (by kernel_rfl) (by kernel_rfl) (fun _ _ _ h => h) (Or.inl ⟨by rfl, ?hy2⟩) (by assumption) ?rhy2
  case hy2 => ((intro w hSw; (try dsimp only at hSw); go_simp); try with_reducible rfl)
  try simp only [Act.put, List.setIfInBounds_toArray, List.set_cons_zero, List.set_cons_succ]
  refine wpAnyH_takeL (i := 2) (v := ?vhy3) rfl (by kernel_rfl) (by kernel_rfl) (by kernel_rfl) (fun _ _ _ h => h) (Or.inl ⟨by rfl, ?hy3⟩) (by assumption) ?rhy3
  case hy3 => ((intro w hSw; (try dsimp only at hSw); go_simp); try with_reducible rfl)
  try simp only [Act.put, List.setIfInBounds_toArray, List.set_cons_zero, List.set_cons_succ]
  refine wpAnyH_takeL (i := 3) (v := ?vhy4) rfl (by kernel_rfl) (by kernel_rfl) (by kernel_rfl) (fun _ _ _ h => h) (Or.inl ⟨by rfl, ?hy4⟩) (by assumption) ?rhy4
  case hy4 => ((intro w hSw; (try dsimp only at hSw); go_simp); try with_reducible rfl)
  try simp only [Act.put, List.setIfInBounds_toArray, List.set_cons_zero, List.set_cons_succ]
  refine wpAnyH_takeL (i := 4) (v := ?vhy5) rfl (by kernel_rfl) (by kernel_rfl) (by kernel_rfl) (fun _ _ _ h => h) (Or.inl ⟨by rfl, ?hy5⟩) (by assumption) ?rhy5
  case hy5 => ((intro w hSw; (try dsimp only at hSw); go_simp); try with_reducible rfl)
  try simp only [Act.put, List.setIfInBounds_toArray, List.set_cons_zero, List.set_cons_succ]
  refine wpAnyH_takeL (i := 6) (v := ?vhy6) rfl (by kernel_rfl) (by kernel_rfl) (by kernel_rfl) (fun _ _ _ h => h) (Or.inl ⟨by rfl, ?hy6⟩) (by assumption) ?rhy6
  case hy6 => ((intro w hSw; (try dsimp only at hSw); go_simp); try with_reducible rfl)
  try simp only [Act.put, List.setIfInBounds_toArray, List.set_cons_zero, List.set_cons_succ]
  refine wpAnyH_ready (rs := [5]) (by kernel_rfl) (by simp) ?_
  refine AllReadyH.consL (i := 5) rfl (fun K hK => ?_) AllReadyH.nil
  go_simp
  refine (lnum_any _ _).mono ?_
  rintro e w' ⟨rfl, rfl⟩
  refine hK.out _ _ hHeld (fun hHeld2 => ?_)
  refine wpAnyH_takeL (i := 7) (v := ?vhy7) rfl (by kernel_rfl) (by kernel_rfl) (by kernel_rfl) (fun _ _ _ h => h) (Or.inl ⟨by rfl, ?hy7⟩) (by assumption) ?rhy7
  case hy7 => ((intro w hSw; (try dsimp only at hSw); go_simp); try with_reducible rfl)
  try simp only [Act.put, List.setIfInBounds_toArray, List.set_cons_zero, List.set_cons_succ]
  refine wpAnyH_takeL (i := 8) (v := ?vhy8) rfl (by kernel_rfl) (by kernel_rfl) (by kernel_rfl) (fun _ _ _ h => h) (Or.inl ⟨by rfl, ?hy8⟩) (by assumption) ?rhy8
  case hy8 => ((intro w hSw; (try dsimp only at hSw); go_simp); try with_reducible rfl)
  try simp only [Act.put, List.setIfInBounds_toArray, List.set_cons_zero, List.set_cons_succ]
  refine wpAnyH_takeL (i := 9) (v := ?vhy9) rfl (by kernel_rfl) (by kernel_rfl) (by kernel_rfl) (fun _ _ _ h => h) (Or.inl ⟨by rfl, ?hy9⟩) (by assumption) ?rhy9
  case hy9 => ((intro w hSw; (try dsimp only at hSw); go_simp); try with_reducible rfl)
  try simp only [Act.put, List.setIfInBounds_toArray, List.set_cons_zero, List.set_cons_succ]
  refine wpAnyH_takeL (i := 10) (v := ?vhy10) rfl (by kernel_rfl) (by kernel_rfl) (by kernel_rfl) (fun _ _ _ h => h) (Or.inl ⟨by rfl, ?hy10⟩) (by assumption) ?rhy10
  case hy10 => ((intro w hSw; (try dsimp only at hSw); go_simp); try with_reducible rfl)
  try simp only [Act.put, List.setIfInBounds_toArray, List.set_cons_zero, List.set_cons_succ]
  refine wpAnyH_takeL (i := 11) (v := ?vhy11) rfl (by kernel_rfl) (by kernel_rfl) (by kernel_rfl) (fun _ _ _ h => h) (Or.inl ⟨by rfl, ?hy11⟩) (by assumption) ?rhy11
  case hy11 => ((intro w hSw; (try dsimp only at hSw); go_simp); try with_reducible rfl)
  try simp only [Act.put, List.setIfInBounds_toArray, List.set_cons_zero, List.set_cons_succ]
  refine wpAnyH_takeL (i := 12) (v := ?vhy12) rfl (by kernel_rfl) (by kernel_rfl) (by kernel_rfl) (fun _ _ _ h => h) (Or.inl ⟨by rfl, ?hy12⟩) (by assumption) ?rhy12
  case hy12 => ((intro w hSw; (try dsimp only at hSw); go_simp); try with_reducible rfl)
  try simp only [Act.put, List.setIfInBounds_toArray, List.set_cons_zero, List.set_cons_succ]
  refine wpAnyH_takeL (i := 13) (v := ?vhy13) rfl (by kernel_rfl) (by kernel_rfl) (by kernel_rfl) (fun _ _ _ h => h) (Or.inl ⟨by rfl, ?hy13⟩) (by assumption) ?rhy13
  case hy13 => ((intro w hSw; (try dsimp only at hSw); go_simp); try with_reducible rfl)
  try simp only [Act.put, List.setIfInBounds_toArray, List.set_cons_zero, List.set_cons_succ]
  refine wpAnyH_takeL (i := 15) (v := ?vhy14) rfl (by kernel_rfl) (by kernel_rfl) (by kernel_rfl) (fun _ _ _ h => h) (Or.inl ⟨by rfl, ?hy14⟩) (by assumption) ?rhy14
  case hy14 => ((intro w hSw; (try dsimp only at hSw); go_simp); try with_reducible rfl)
  try simp only [Act.put, List.setIfInBounds_toArray, List.set_cons_zero, List.set_cons_succ]
  refine wpAnyH_takeL (i := 16) (v := ?vhy15) rfl (by kernel_rfl) (by kernel_rfl) (by kernel_rfl) (fun _ _ _ h => h) (Or.inl ⟨by rfl, ?hy15⟩) (by assumption) ?rhy15
  case hy15 => ((intro w hSw; (try dsimp only at hSw); go_simp); try with_reducible rfl)
  try simp only [Act.put, List.setIfInBounds_toArray, List.set_cons_zero, List.set_cons_succ]
  refine wpAnyH_takeL (i := 17) (v := ?vhy16) rfl (by kernel_rfl) (by kernel_rfl) (by kernel_rfl) (fun _ _ _ h => h) (Or.inl ⟨by rfl, ?hy16⟩) (by assumption) ?rhy16
  case hy16 => ((intro w hSw; (try dsimp only at hSw); go_simp); try with_reducible rfl)
  try simp only [Act.put, List.setIfInBounds_toArray, List.set_cons_zero, List.set_cons_succ]
  refine wpAnyH_takeL (i := 18) (v := ?vhy17) rfl (by kernel_rfl) (by kernel_rfl) (by kernel_rfl) (fun _ _ _ h => h) (Or.inl ⟨by rfl, ?hy17⟩) (by assumption) ?rhy17
  case hy17 => ((intro w hSw; (try dsimp only at hSw); go_simp); try with_reducible rfl)
  try simp only [Act.put, List.setIfInBounds_toArray, List.set_cons_zero, List.set_cons_succ]
  refine wpAnyH_ready (rs := [14]) (by kernel_rfl) (by simp) ?_
  refine AllReadyH.consL (i := 14) rfl (fun K hK => ?_) AllReadyH.nil
  go_simp
  refine (hY1.out _).mono ?_
  rintro e w7 ⟨rfl, g7⟩
  have hlt := hD6.lt
  have hC7 := hC6.below g7 (by omega)
  have hD7 := hD6.below g7 (by omega)
  have hb7 := gr hb6 g7
  have hE7 := hE6.below g7
  clear hlt hC6 hD6 hb6 hE6
  refine hK.out _ _ ⟨hC7.cells.2.1, hD7.cells.2.1⟩ (fun hHeld3 => ?_)
  refine wpAnyH_ready (rs := [19]) (by kernel_rfl) (by simp) ?_
  refine AllReadyH.consL (i := 19) rfl (fun K hK => ?_) AllReadyH.nil
  go_simp
  refine (hY2.out _).mono ?_
  rintro e w' ⟨rfl, rfl⟩
  refine hK.out _ _ ⟨hC7.cells.2.1, hD7.cells.2.1⟩ (fun hHeld4 => ?_)
  refine wpAnyH_takeL (i := 20) (v := ?vhy18) rfl (by kernel_rfl) (by kernel_rfl) (by kernel_rfl) (fun _ _ _ h => h) (Or.inl ⟨by rfl, ?hy18⟩) (by assumption) ?rhy18
  case hy18 => ((intro w hSw; (try dsimp only at hSw); go_simp); try with_reducible rfl)
  try simp only [Act.put, List.setIfInBounds_toArray, List.set_cons_zero, List.set_cons_succ]
  refine wpAnyH_takeL (i := 21) (v := ?vhy19) rfl (by kernel_rfl) (by kernel_rfl) (by kernel_rfl) (fun _ _ _ h => h) (Or.inl ⟨by rfl, ?hy19⟩) (by assumption) ?rhy19
  case hy19 => ((intro w hSw; (try dsimp only at hSw); go_simp); try with_reducible rfl)
  try simp only [Act.put, List.setIfInBounds_toArray, List.set_cons_zero, List.set_cons_succ]
  refine wpAnyH_takeL (i := 22) (v := ?vhy20) rfl (by kernel_rfl) (by kernel_rfl) (by kernel_rfl) (fun _ _ _ h => h) (Or.inl ⟨by rfl, ?hy20⟩) (by assumption) ?rhy20
  case hy20 => ((intro w hSw; (try dsimp only at hSw); go_simp); try with_reducible rfl)
  try simp only [Act.put, List.setIfInBounds_toArray, List.set_cons_zero, List.set_cons_succ]
  refine wpAnyH_ready (rs := [23]) (by kernel_rfl) (by simp) ?_
  refine AllReadyH.consL (i := 23) rfl (fun K hK => ?_) AllReadyH.nil
  go_simp
  refine (hW.out _ hE7).mono ?_
  rintro e w8 ⟨rfl, g8⟩
  have hlt := hD7.lt
  have hC8 := hC7.below g8 (by omega)
  have hD8 := hD7.below g8 (by omega)
  have hb8 := gr hb7 g8
  have hE8 := hE7.below g8
  clear hlt hC7 hD7 hb7 hE7
  refine hK.out _ _ ⟨hC8.cells.2.1, hD8.cells.2.1⟩ (fun hHeld5 => ?_)
  refine wpAnyH_takeL (i := 24) (v := ?vhy21) rfl (by kernel_rfl) (by kernel_rfl) (by kernel_rfl) (fun _ _ _ h => h) (Or.inl ⟨by rfl, ?hy21⟩) (by assumption) ?rhy21
  case hy21 => ((intro w hSw; (try dsimp only at hSw); go_simp); try with_reducible rfl)
  try simp only [Act.put, List.setIfInBounds_toArray, List.set_cons_zero, List.set_cons_succ]
  refine wpAnyH_takeL (i := 25) (v := ?vhy22) rfl (by kernel_rfl) (by kernel_rfl) (by kernel_rfl) (fun _ _ _ h => h) (Or.inl ⟨by rfl, ?hy22⟩) (by assumption) ?rhy22
  case hy22 => ((intro w hSw; (try dsimp only at hSw); go_simp); try with_reducible rfl)
  try simp only [Act.put, List.setIfInBounds_toArray, List.set_cons_zero, List.set_cons_succ]
  refine wpAnyH_done (by kernel_rfl) ?_ _
  clear hY1 hY2 hW
  go_wp2
  go_ret
  exact ⟨rfl, hb8⟩
theorem csure_any (c d : Cl) (w : World) (hE : Env w) : Calls Tryz.prog 5 #[c.val, d.val] w (TrueP w) := by
  cases h1 : decide ((c.n.length : Int) ≤ 40)
  · exact sure_w1 c d w hE h1
  cases h2 : decide ((d.n.length : Int) ≤ 40)
  · exact sure_w2 c d w hE h1 h2
  · exact sure_wok c d w hE h1 h2
end Go.Proofs.YtagoooclfcbdeaaGreatDoor
