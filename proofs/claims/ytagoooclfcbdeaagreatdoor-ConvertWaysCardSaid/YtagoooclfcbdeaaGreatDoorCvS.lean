/- The answer of chapter 6: Sure. The answer of chapter 6: Convert. -/
import Derived.Test.YtagoooclfcbdeaaGreatDoorCvQ
import Derived.Test.YtagoooclfcbdeaaGreatDoorColE
namespace Go.Proofs.YtagoooclfcbdeaaGreatDoor
open Go.RowKit
set_option linter.unusedVariables false

set_option maxRecDepth 100000 in
theorem rsure_bad1 (c d : Cl) (w : World) (hl : c.n.length ≤ 100000) (hl2 : d.n.length ≤ 100000) (h1 : colV c = false) : Calls Tryz.prog 15 #[c.val, d.val] w fun e w' => e = .returned (.tuple #[.bool false, .int .i64 2]) ∧ Below w.heap.size w w' := by
  obtain ⟨cn, ct, cz, cl⟩ := c
  obtain ⟨dn, dt, dz, dl⟩ := d
  simp only [Cl.val] at *
  have hC := CBox.new w ⟨cn, ct, cz, cl⟩
  have hD1 := CBox.new (w.alloc (.cells #[.string (strL cn), .int .i64 ct, .int .i64 cz, .bool cl] 24)) ⟨dn, dt, dz, dl⟩
  rw [show (w.alloc (.cells #[.string (strL cn), .int .i64 ct, .int .i64 cz, .bool cl] 24)).heap.size = w.heap.size + 1 by simp] at hD1
  have hb1 : Below w.heap.size w ((w.alloc (.cells #[.string (strL cn), .int .i64 ct, .int .i64 cz, .bool cl] 24)).alloc (.cells #[.string (strL dn), .int .i64 dt, .int .i64 dz, .bool dl] 24)) := gr_alloc (gr_alloc (Below.refl _ w) _) _
  have hC1 := hC.below ((Below.refl _ _).alloc (Nat.le_refl _) (.cells #[.string (strL dn), .int .i64 dt, .int .i64 dz, .bool dl] 24)) hC.lt
  dsimp only at hC1 hD1
  have hR1 := Lib.hid (fun W => r6right_any ⟨cn, ct, cz, cl⟩ W hl)
  have hR2 := Lib.hid (fun W => r6right_any ⟨dn, dt, dz, dl⟩ W hl2)
  simp only [Cl.val] at hR1 hR2
  rw [h1] at hR1
  clear hC
  go_enter Tryz.func15, Tryz.ntmps15
  go_wp2_with fail
  refine (hR1.out _).mono ?_
  rintro e w2 ⟨rfl, g1⟩
  have hlt1 := hC1.lt
  have hlt2 := hD1.lt
  have hC2 := hC1.below g1 hlt1
  have hD2 := hD1.below g1 hlt2
  have hb2 := gr hb1 g1
  clear hlt1 hlt2 hC1 hD1 hb1
  clear g1 hR1
  clear hR2
  go_wp2
  go_ret2
  exact ⟨rfl, hb2⟩
set_option maxRecDepth 100000 in
theorem rsure_bad2 (c d : Cl) (w : World) (hl : c.n.length ≤ 100000) (hl2 : d.n.length ≤ 100000) (h1 : colV c = true) (h2 : colV d = false) : Calls Tryz.prog 15 #[c.val, d.val] w fun e w' => e = .returned (.tuple #[.bool false, .int .i64 2]) ∧ Below w.heap.size w w' := by
  obtain ⟨cn, ct, cz, cl⟩ := c
  obtain ⟨dn, dt, dz, dl⟩ := d
  simp only [Cl.val] at *
  have hC := CBox.new w ⟨cn, ct, cz, cl⟩
  have hD1 := CBox.new (w.alloc (.cells #[.string (strL cn), .int .i64 ct, .int .i64 cz, .bool cl] 24)) ⟨dn, dt, dz, dl⟩
  rw [show (w.alloc (.cells #[.string (strL cn), .int .i64 ct, .int .i64 cz, .bool cl] 24)).heap.size = w.heap.size + 1 by simp] at hD1
  have hb1 : Below w.heap.size w ((w.alloc (.cells #[.string (strL cn), .int .i64 ct, .int .i64 cz, .bool cl] 24)).alloc (.cells #[.string (strL dn), .int .i64 dt, .int .i64 dz, .bool dl] 24)) := gr_alloc (gr_alloc (Below.refl _ w) _) _
  have hC1 := hC.below ((Below.refl _ _).alloc (Nat.le_refl _) (.cells #[.string (strL dn), .int .i64 dt, .int .i64 dz, .bool dl] 24)) hC.lt
  dsimp only at hC1 hD1
  have hR1 := Lib.hid (fun W => r6right_any ⟨cn, ct, cz, cl⟩ W hl)
  have hR2 := Lib.hid (fun W => r6right_any ⟨dn, dt, dz, dl⟩ W hl2)
  simp only [Cl.val] at hR1 hR2
  rw [h1] at hR1
  clear hC
  go_enter Tryz.func15, Tryz.ntmps15
  go_wp2_with fail
  refine (hR1.out _).mono ?_
  rintro e w2 ⟨rfl, g1⟩
  have hlt1 := hC1.lt
  have hlt2 := hD1.lt
  have hC2 := hC1.below g1 hlt1
  have hD2 := hD1.below g1 hlt2
  have hb2 := gr hb1 g1
  clear hlt1 hlt2 hC1 hD1 hb1
  clear g1 hR1
  rw [h2] at hR2
  have cd := hD2.cells
  dsimp only at cd
  go_wp2_with fail
  refine (hR2.out _).mono ?_
  rintro e w3 ⟨rfl, g2⟩
  clear cd
  have hlt1 := hC2.lt
  have hlt2 := hD2.lt
  have hC3 := hC2.below g2 hlt1
  have hD3 := hD2.below g2 hlt2
  have hb3 := gr hb2 g2
  clear hlt1 hlt2 hC2 hD2 hb2
  clear g2 hR2
  go_wp2
  go_ret2
  exact ⟨rfl, hb3⟩
set_option maxRecDepth 100000 in
set_option maxHeartbeats 8000000 in
theorem rsure_ok (c d : Cl) (w : World) (hl : c.n.length ≤ 100000) (hl2 : d.n.length ≤ 100000) (h1 : colV c = true) (h2 : colV d = true) : Calls Tryz.prog 15 #[c.val, d.val] w fun e w' => e = .returned (.tuple #[.bool (wayV c.t d.t && (d.nl || !c.nl) && sizeB c d), .int .i64 0]) ∧ Below w.heap.size w w' := by
  obtain ⟨R, hR⟩ : ∃ R, (wayV c.t d.t && (d.nl || !c.nl) && sizeB c d) = R := ⟨_, rfl⟩
  have hDi := fun W hz => rdigits_any c W hz
  have hsz := fun h => size_num (c := c) h1 h
  have ht1 := type_four h1
  have ht2 := type_four h2
  obtain ⟨cn, ct, cz, cl⟩ := c
  obtain ⟨dn, dt, dz, dl⟩ := d
  simp only [Cl.val] at *
  rw [hR]
  have hWy := Lib.hid (fun W => rway_any ct dt W)
  obtain ⟨Wy, hWe⟩ : ∃ Wy, wayV ct dt = Wy := ⟨_, rfl⟩
  rw [hWe] at hWy hR
  replace hDi := Lib.hid hDi
  replace hsz := Lib.hid hsz
  replace hR := Lib.hid hR
  replace hWe := Lib.hid hWe
  replace ht1 := Lib.hid ht1
  replace ht2 := Lib.hid ht2
  have hC := CBox.new w ⟨cn, ct, cz, cl⟩
  have hD1 := CBox.new (w.alloc (.cells #[.string (strL cn), .int .i64 ct, .int .i64 cz, .bool cl] 24)) ⟨dn, dt, dz, dl⟩
  rw [show (w.alloc (.cells #[.string (strL cn), .int .i64 ct, .int .i64 cz, .bool cl] 24)).heap.size = w.heap.size + 1 by simp] at hD1
  have hb1 : Below w.heap.size w ((w.alloc (.cells #[.string (strL cn), .int .i64 ct, .int .i64 cz, .bool cl] 24)).alloc (.cells #[.string (strL dn), .int .i64 dt, .int .i64 dz, .bool dl] 24)) := gr_alloc (gr_alloc (Below.refl _ w) _) _
  have hC1 := hC.below ((Below.refl _ _).alloc (Nat.le_refl _) (.cells #[.string (strL dn), .int .i64 dt, .int .i64 dz, .bool dl] 24)) hC.lt
  dsimp only at hC1 hD1
  have hR1 := Lib.hid (fun W => r6right_any ⟨cn, ct, cz, cl⟩ W hl)
  have hR2 := Lib.hid (fun W => r6right_any ⟨dn, dt, dz, dl⟩ W hl2)
  simp only [Cl.val] at hR1 hR2
  rw [h1] at hR1
  clear hC
  go_enter Tryz.func15, Tryz.ntmps15
  go_wp2_with fail
  refine (hR1.out _).mono ?_
  rintro e w2 ⟨rfl, g1⟩
  have hlt1 := hC1.lt
  have hlt2 := hD1.lt
  have hC2 := hC1.below g1 hlt1
  have hD2 := hD1.below g1 hlt2
  have hb2 := gr hb1 g1
  clear hlt1 hlt2 hC1 hD1 hb1
  clear g1 hR1
  rw [h2] at hR2
  have cd := hD2.cells
  dsimp only at cd
  go_wp2_with fail
  refine (hR2.out _).mono ?_
  rintro e w3 ⟨rfl, g2⟩
  clear cd
  have hlt1 := hC2.lt
  have hlt2 := hD2.lt
  have hC3 := hC2.below g2 hlt1
  have hD3 := hD2.below g2 hlt2
  have hb3 := gr hb2 g2
  clear hlt1 hlt2 hC2 hD2 hb2
  clear g2 hR2
  clear h1 h2
  have cc := hC3.cells
  have cd := hD3.cells
  dsimp only at cc cd
  go_wp2
  go_region
  go_wp2_with fail
  refine (hWy.out _).mono ?_
  rintro e w4 ⟨rfl, rfl⟩
  cases Wy
  · clear hWy hDi
    go_wp2
    go_ret2
    exact ⟨by rw [← hR.out]; rfl, hb3.drew⟩
  · have hq := hWe.out
    rw [wayV_iff] at hq
    clear hWy
    obtain ⟨nl, hnl⟩ : ∃ nl, (dl || !cl) = nl := ⟨_, rfl⟩
    cases nl
    · obtain ⟨rfl, rfl⟩ : dl = false ∧ cl = true := by cases dl <;> cases cl <;> simp_all
      clear hnl hq ht1 ht2 hDi hsz hWe
      go_wp2
      go_ret2
      exact ⟨by rw [← hR.out]; rfl, hb3.drew⟩
    · have hR2 := hR.out
      rw [hnl, Bool.true_and, Bool.true_and] at hR2
      replace hR2 := Lib.hid hR2
      have hs := hsz.out
      clear hsz hR
      have hcl : cl = false ∨ (cl = true ∧ dl = true) := by cases dl <;> cases cl <;> simp_all
      clear hnl
      have ha : ct = 1 ∨ ct = 2 ∨ ct = 3 ∨ ct = 4 := by omega
      have hb : dt = 1 ∨ dt = 2 ∨ dt = 3 ∨ dt = 4 := by omega
      clear ht1 ht2 hWe
      rcases ha with rfl | rfl | rfl | rfl <;> rcases hb with rfl | rfl | rfl | rfl <;> try (exfalso; omega)
      all_goals clear hq
      · skip
        clear hDi hs
        rcases hcl with rfl | ⟨rfl, rfl⟩
        · go_wp2
          go_ret2
          exact ⟨by rw [← hR2.out]; rfl, hb3.drew⟩
        · go_wp2
          go_ret2
          exact ⟨by rw [← hR2.out]; rfl, hb3.drew⟩
      · skip
        clear hDi hs
        rcases hcl with rfl | ⟨rfl, rfl⟩
        · go_wp2
          go_ret2
          exact ⟨by rw [← hR2.out]; rfl, hb3.drew⟩
        · go_wp2
          go_ret2
          exact ⟨by rw [← hR2.out]; rfl, hb3.drew⟩
      · skip
        clear hDi hs
        rcases hcl with rfl | ⟨rfl, rfl⟩
        · go_wp2
          go_ret2
          exact ⟨by rw [← hR2.out]; rfl, hb3.drew⟩
        · go_wp2
          go_ret2
          exact ⟨by rw [← hR2.out]; rfl, hb3.drew⟩
      · skip
        have hz := hs (by decide)
        have hD := Lib.hid (fun W => hDi.out W hz)
        clear hDi hs hz
        rcases hcl with rfl | ⟨rfl, rfl⟩
        · skip
          go_upto_region 13 with fail
          refine wp_region_held_drew (S := fun w' => (w'.cell? ⟨w.heap.size, 0, none⟩ = some (.string (strL cn)) ∧ w'.cell? ⟨w.heap.size, 1, none⟩ = some (.int .i64 1) ∧ w'.cell? ⟨w.heap.size, 2, none⟩ = some (.int .i64 cz) ∧ w'.cell? ⟨w.heap.size, 3, none⟩ = some (.bool false)) ∧ w'.cell? ⟨w.heap.size + 1, 2, none⟩ = some (.int .i64 dz)) (by kernel_rfl) ⟨cc, cd.2.2.1⟩ (fun hHeld => ?_)
          refine wpAnyH_takeL (i := 0) (v := ?vhy1) rfl (by kernel_rfl) (by kernel_rfl) (by kernel_rfl) (fun _ _ _ h => h) (Or.inl ⟨by rfl, ?hy1⟩) (by assumption) ?rhy1
          case hy1 => ((intro w hSw; (try dsimp only at hSw); go_simp); try with_reducible rfl)
          try simp only [Act.put, List.setIfInBounds_toArray, List.set_cons_zero, List.set_cons_succ]
          refine wpAnyH_takeL (i := 1) (v := ?vhy2) rfl (by kernel_rfl) (by kernel_rfl) (by kernel_rfl) (fun _ _ _ h => h) (Or.inl ⟨by rfl, ?hy2⟩) (by assumption) ?rhy2
          case hy2 => ((intro w hSw; (try dsimp only at hSw); go_simp); try with_reducible rfl)
          try simp only [Act.put, List.setIfInBounds_toArray, List.set_cons_zero, List.set_cons_succ]
          refine wpAnyH_takeL (i := 2) (v := ?vhy3) rfl (by kernel_rfl) (by kernel_rfl) (by kernel_rfl) (fun _ _ _ h => h) (Or.inl ⟨by rfl, ?hy3⟩) (by assumption) ?rhy3
          case hy3 => ((intro w hSw; (try dsimp only at hSw); go_simp); try with_reducible rfl)
          try simp only [Act.put, List.setIfInBounds_toArray, List.set_cons_zero, List.set_cons_succ]
          refine wpAnyH_ready (rs := [3]) (by kernel_rfl) (by simp) ?_
          refine AllReadyH.consL (i := 3) rfl (fun K hK => ?_) AllReadyH.nil
          go_simp
          refine (hD.out _).mono ?_
          rintro e w5 ⟨rfl, g5⟩
          have g5 : Below w3.heap.size w3 w5 := ⟨g5.os, g5.tape, g5.output, g5.size, g5.block⟩
          have hC5 := hC3.below (base := w3.heap.size) g5 hC3.lt
          have hD5 := hD3.below (base := w3.heap.size) g5 hD3.lt
          have hb5 := gr hb3 (b := w3) (c := w5) g5
          have hS5 := And.intro hC5.cells hD5.cells.2.2.1
          refine hK.out _ _ hS5 (fun hHeld2 => ?_)
          refine wpAnyH_takeL (i := 4) (v := ?vhy4) rfl (by kernel_rfl) (by kernel_rfl) (by kernel_rfl) (fun _ _ _ h => h) (Or.inl ⟨by rfl, ?hy4⟩) (by assumption) ?rhy4
          case hy4 => ((intro w hSw; (try dsimp only at hSw); go_simp); try with_reducible rfl)
          try simp only [Act.put, List.setIfInBounds_toArray, List.set_cons_zero, List.set_cons_succ]
          refine wpAnyH_takeL (i := 5) (v := ?vhy5) rfl (by kernel_rfl) (by kernel_rfl) (by kernel_rfl) (fun _ _ _ h => h) (Or.inl ⟨by rfl, ?hy5⟩) (by assumption) ?rhy5
          case hy5 => ((intro w hSw; (try dsimp only at hSw); go_simp); try with_reducible rfl)
          try simp only [Act.put, List.setIfInBounds_toArray, List.set_cons_zero, List.set_cons_succ]
          refine wpAnyH_takeL (i := 6) (v := ?vhy6) rfl (by kernel_rfl) (by kernel_rfl) (by kernel_rfl) (fun _ _ _ h => h) (Or.inl ⟨by rfl, ?hy6⟩) (by assumption) ?rhy6
          case hy6 => ((intro w hSw; (try dsimp only at hSw); go_simp); try with_reducible rfl)
          try simp only [Act.put, List.setIfInBounds_toArray, List.set_cons_zero, List.set_cons_succ]
          refine wpAnyH_done (by kernel_rfl) ?_ _
          go_wp2
          go_ret2
          exact ⟨by rw [← hR2.out]; rfl, hb5⟩
        · skip
          go_upto_region 13 with fail
          refine wp_region_held_drew (S := fun w' => (w'.cell? ⟨w.heap.size, 0, none⟩ = some (.string (strL cn)) ∧ w'.cell? ⟨w.heap.size, 1, none⟩ = some (.int .i64 1) ∧ w'.cell? ⟨w.heap.size, 2, none⟩ = some (.int .i64 cz) ∧ w'.cell? ⟨w.heap.size, 3, none⟩ = some (.bool true)) ∧ w'.cell? ⟨w.heap.size + 1, 2, none⟩ = some (.int .i64 dz)) (by kernel_rfl) ⟨cc, cd.2.2.1⟩ (fun hHeld => ?_)
          refine wpAnyH_takeL (i := 0) (v := ?vhy7) rfl (by kernel_rfl) (by kernel_rfl) (by kernel_rfl) (fun _ _ _ h => h) (Or.inl ⟨by rfl, ?hy7⟩) (by assumption) ?rhy7
          case hy7 => ((intro w hSw; (try dsimp only at hSw); go_simp); try with_reducible rfl)
          try simp only [Act.put, List.setIfInBounds_toArray, List.set_cons_zero, List.set_cons_succ]
          refine wpAnyH_takeL (i := 1) (v := ?vhy8) rfl (by kernel_rfl) (by kernel_rfl) (by kernel_rfl) (fun _ _ _ h => h) (Or.inl ⟨by rfl, ?hy8⟩) (by assumption) ?rhy8
          case hy8 => ((intro w hSw; (try dsimp only at hSw); go_simp); try with_reducible rfl)
          try simp only [Act.put, List.setIfInBounds_toArray, List.set_cons_zero, List.set_cons_succ]
          refine wpAnyH_takeL (i := 2) (v := ?vhy9) rfl (by kernel_rfl) (by kernel_rfl) (by kernel_rfl) (fun _ _ _ h => h) (Or.inl ⟨by rfl, ?hy9⟩) (by assumption) ?rhy9
          case hy9 => ((intro w hSw; (try dsimp only at hSw); go_simp); try with_reducible rfl)
          try simp only [Act.put, List.setIfInBounds_toArray, List.set_cons_zero, List.set_cons_succ]
          refine wpAnyH_ready (rs := [3]) (by kernel_rfl) (by simp) ?_
          refine AllReadyH.consL (i := 3) rfl (fun K hK => ?_) AllReadyH.nil
          go_simp
          refine (hD.out _).mono ?_
          rintro e w5 ⟨rfl, g5⟩
          have g5 : Below w3.heap.size w3 w5 := ⟨g5.os, g5.tape, g5.output, g5.size, g5.block⟩
          have hC5 := hC3.below (base := w3.heap.size) g5 hC3.lt
          have hD5 := hD3.below (base := w3.heap.size) g5 hD3.lt
          have hb5 := gr hb3 (b := w3) (c := w5) g5
          have hS5 := And.intro hC5.cells hD5.cells.2.2.1
          refine hK.out _ _ hS5 (fun hHeld2 => ?_)
          refine wpAnyH_takeL (i := 4) (v := ?vhy10) rfl (by kernel_rfl) (by kernel_rfl) (by kernel_rfl) (fun _ _ _ h => h) (Or.inl ⟨by rfl, ?hy10⟩) (by assumption) ?rhy10
          case hy10 => ((intro w hSw; (try dsimp only at hSw); go_simp); try with_reducible rfl)
          try simp only [Act.put, List.setIfInBounds_toArray, List.set_cons_zero, List.set_cons_succ]
          refine wpAnyH_takeL (i := 5) (v := ?vhy11) rfl (by kernel_rfl) (by kernel_rfl) (by kernel_rfl) (fun _ _ _ h => h) (Or.inl ⟨by rfl, ?hy11⟩) (by assumption) ?rhy11
          case hy11 => ((intro w hSw; (try dsimp only at hSw); go_simp); try with_reducible rfl)
          try simp only [Act.put, List.setIfInBounds_toArray, List.set_cons_zero, List.set_cons_succ]
          refine wpAnyH_takeL (i := 6) (v := ?vhy12) rfl (by kernel_rfl) (by kernel_rfl) (by kernel_rfl) (fun _ _ _ h => h) (Or.inl ⟨by rfl, ?hy12⟩) (by assumption) ?rhy12
          case hy12 => ((intro w hSw; (try dsimp only at hSw); go_simp); try with_reducible rfl)
          try simp only [Act.put, List.setIfInBounds_toArray, List.set_cons_zero, List.set_cons_succ]
          refine wpAnyH_done (by kernel_rfl) ?_ _
          go_wp2
          go_ret2
          exact ⟨by rw [← hR2.out]; rfl, hb5⟩
      · skip
        clear hDi hs
        rcases hcl with rfl | ⟨rfl, rfl⟩
        · go_wp2
          go_ret2
          exact ⟨by rw [← hR2.out]; rfl, hb3.drew⟩
        · go_wp2
          go_ret2
          exact ⟨by rw [← hR2.out]; rfl, hb3.drew⟩
      · skip
        clear hDi hs
        rcases hcl with rfl | ⟨rfl, rfl⟩
        · go_wp2
          go_ret2
          exact ⟨by rw [← hR2.out]; rfl, hb3.drew⟩
        · go_wp2
          go_ret2
          exact ⟨by rw [← hR2.out]; rfl, hb3.drew⟩
      · skip
        clear hDi hs
        rcases hcl with rfl | ⟨rfl, rfl⟩
        · go_wp2
          go_ret2
          exact ⟨by rw [← hR2.out]; rfl, hb3.drew⟩
        · go_wp2
          go_ret2
          exact ⟨by rw [← hR2.out]; rfl, hb3.drew⟩
      · skip
        have hz := hs (by decide)
        have hD := Lib.hid (fun W => hDi.out W hz)
        clear hDi hs hz
        rcases hcl with rfl | ⟨rfl, rfl⟩
        · skip
          go_upto_region 13 with fail
          refine wp_region_held_drew (S := fun w' => (w'.cell? ⟨w.heap.size, 0, none⟩ = some (.string (strL cn)) ∧ w'.cell? ⟨w.heap.size, 1, none⟩ = some (.int .i64 2) ∧ w'.cell? ⟨w.heap.size, 2, none⟩ = some (.int .i64 cz) ∧ w'.cell? ⟨w.heap.size, 3, none⟩ = some (.bool false)) ∧ w'.cell? ⟨w.heap.size + 1, 2, none⟩ = some (.int .i64 dz)) (by kernel_rfl) ⟨cc, cd.2.2.1⟩ (fun hHeld => ?_)
          refine wpAnyH_takeL (i := 0) (v := ?vhy13) rfl (by kernel_rfl) (by kernel_rfl) (by kernel_rfl) (fun _ _ _ h => h) (Or.inl ⟨by rfl, ?hy13⟩) (by assumption) ?rhy13
          case hy13 => ((intro w hSw; (try dsimp only at hSw); go_simp); try with_reducible rfl)
          try simp only [Act.put, List.setIfInBounds_toArray, List.set_cons_zero, List.set_cons_succ]
          refine wpAnyH_takeL (i := 1) (v := ?vhy14) rfl (by kernel_rfl) (by kernel_rfl) (by kernel_rfl) (fun _ _ _ h => h) (Or.inl ⟨by rfl, ?hy14⟩) (by assumption) ?rhy14
          case hy14 => ((intro w hSw; (try dsimp only at hSw); go_simp); try with_reducible rfl)
          try simp only [Act.put, List.setIfInBounds_toArray, List.set_cons_zero, List.set_cons_succ]
          refine wpAnyH_takeL (i := 2) (v := ?vhy15) rfl (by kernel_rfl) (by kernel_rfl) (by kernel_rfl) (fun _ _ _ h => h) (Or.inl ⟨by rfl, ?hy15⟩) (by assumption) ?rhy15
          case hy15 => ((intro w hSw; (try dsimp only at hSw); go_simp); try with_reducible rfl)
          try simp only [Act.put, List.setIfInBounds_toArray, List.set_cons_zero, List.set_cons_succ]
          refine wpAnyH_ready (rs := [3]) (by kernel_rfl) (by simp) ?_
          refine AllReadyH.consL (i := 3) rfl (fun K hK => ?_) AllReadyH.nil
          go_simp
          refine (hD.out _).mono ?_
          rintro e w5 ⟨rfl, g5⟩
          have g5 : Below w3.heap.size w3 w5 := ⟨g5.os, g5.tape, g5.output, g5.size, g5.block⟩
          have hC5 := hC3.below (base := w3.heap.size) g5 hC3.lt
          have hD5 := hD3.below (base := w3.heap.size) g5 hD3.lt
          have hb5 := gr hb3 (b := w3) (c := w5) g5
          have hS5 := And.intro hC5.cells hD5.cells.2.2.1
          refine hK.out _ _ hS5 (fun hHeld2 => ?_)
          refine wpAnyH_takeL (i := 4) (v := ?vhy16) rfl (by kernel_rfl) (by kernel_rfl) (by kernel_rfl) (fun _ _ _ h => h) (Or.inl ⟨by rfl, ?hy16⟩) (by assumption) ?rhy16
          case hy16 => ((intro w hSw; (try dsimp only at hSw); go_simp); try with_reducible rfl)
          try simp only [Act.put, List.setIfInBounds_toArray, List.set_cons_zero, List.set_cons_succ]
          refine wpAnyH_takeL (i := 5) (v := ?vhy17) rfl (by kernel_rfl) (by kernel_rfl) (by kernel_rfl) (fun _ _ _ h => h) (Or.inl ⟨by rfl, ?hy17⟩) (by assumption) ?rhy17
          case hy17 => ((intro w hSw; (try dsimp only at hSw); go_simp); try with_reducible rfl)
          try simp only [Act.put, List.setIfInBounds_toArray, List.set_cons_zero, List.set_cons_succ]
          refine wpAnyH_takeL (i := 6) (v := ?vhy18) rfl (by kernel_rfl) (by kernel_rfl) (by kernel_rfl) (fun _ _ _ h => h) (Or.inl ⟨by rfl, ?hy18⟩) (by assumption) ?rhy18
          case hy18 => ((intro w hSw; (try dsimp only at hSw); go_simp); try with_reducible rfl)
          try simp only [Act.put, List.setIfInBounds_toArray, List.set_cons_zero, List.set_cons_succ]
          refine wpAnyH_done (by kernel_rfl) ?_ _
          go_wp2
          go_ret2
          exact ⟨by rw [← hR2.out]; rfl, hb5⟩
        · skip
          go_upto_region 13 with fail
          refine wp_region_held_drew (S := fun w' => (w'.cell? ⟨w.heap.size, 0, none⟩ = some (.string (strL cn)) ∧ w'.cell? ⟨w.heap.size, 1, none⟩ = some (.int .i64 2) ∧ w'.cell? ⟨w.heap.size, 2, none⟩ = some (.int .i64 cz) ∧ w'.cell? ⟨w.heap.size, 3, none⟩ = some (.bool true)) ∧ w'.cell? ⟨w.heap.size + 1, 2, none⟩ = some (.int .i64 dz)) (by kernel_rfl) ⟨cc, cd.2.2.1⟩ (fun hHeld => ?_)
          refine wpAnyH_takeL (i := 0) (v := ?vhy19) rfl (by kernel_rfl) (by kernel_rfl) (by kernel_rfl) (fun _ _ _ h => h) (Or.inl ⟨by rfl, ?hy19⟩) (by assumption) ?rhy19
          case hy19 => ((intro w hSw; (try dsimp only at hSw); go_simp); try with_reducible rfl)
          try simp only [Act.put, List.setIfInBounds_toArray, List.set_cons_zero, List.set_cons_succ]
          refine wpAnyH_takeL (i := 1) (v := ?vhy20) rfl (by kernel_rfl) (by kernel_rfl) (by kernel_rfl) (fun _ _ _ h => h) (Or.inl ⟨by rfl, ?hy20⟩) (by assumption) ?rhy20
          case hy20 => ((intro w hSw; (try dsimp only at hSw); go_simp); try with_reducible rfl)
          try simp only [Act.put, List.setIfInBounds_toArray, List.set_cons_zero, List.set_cons_succ]
          refine wpAnyH_takeL (i := 2) (v := ?vhy21) rfl (by kernel_rfl) (by kernel_rfl) (by kernel_rfl) (fun _ _ _ h => h) (Or.inl ⟨by rfl, ?hy21⟩) (by assumption) ?rhy21
          case hy21 => ((intro w hSw; (try dsimp only at hSw); go_simp); try with_reducible rfl)
          try simp only [Act.put, List.setIfInBounds_toArray, List.set_cons_zero, List.set_cons_succ]
          refine wpAnyH_ready (rs := [3]) (by kernel_rfl) (by simp) ?_
          refine AllReadyH.consL (i := 3) rfl (fun K hK => ?_) AllReadyH.nil
          go_simp
          refine (hD.out _).mono ?_
          rintro e w5 ⟨rfl, g5⟩
          have g5 : Below w3.heap.size w3 w5 := ⟨g5.os, g5.tape, g5.output, g5.size, g5.block⟩
          have hC5 := hC3.below (base := w3.heap.size) g5 hC3.lt
          have hD5 := hD3.below (base := w3.heap.size) g5 hD3.lt
          have hb5 := gr hb3 (b := w3) (c := w5) g5
          have hS5 := And.intro hC5.cells hD5.cells.2.2.1
          refine hK.out _ _ hS5 (fun hHeld2 => ?_)
          refine wpAnyH_takeL (i := 4) (v := ?vhy22) rfl (by kernel_rfl) (by kernel_rfl) (by kernel_rfl) (fun _ _ _ h => h) (Or.inl ⟨by rfl, ?hy22⟩) (by assumption) ?rhy22
          case hy22 => ((intro w hSw; (try dsimp only at hSw); go_simp); try with_reducible rfl)
          try simp only [Act.put, List.setIfInBounds_toArray, List.set_cons_zero, List.set_cons_succ]
          refine wpAnyH_takeL (i := 5) (v := ?vhy23) rfl (by kernel_rfl) (by kernel_rfl) (by kernel_rfl) (fun _ _ _ h => h) (Or.inl ⟨by rfl, ?hy23⟩) (by assumption) ?rhy23
          case hy23 => ((intro w hSw; (try dsimp only at hSw); go_simp); try with_reducible rfl)
          try simp only [Act.put, List.setIfInBounds_toArray, List.set_cons_zero, List.set_cons_succ]
          refine wpAnyH_takeL (i := 6) (v := ?vhy24) rfl (by kernel_rfl) (by kernel_rfl) (by kernel_rfl) (fun _ _ _ h => h) (Or.inl ⟨by rfl, ?hy24⟩) (by assumption) ?rhy24
          case hy24 => ((intro w hSw; (try dsimp only at hSw); go_simp); try with_reducible rfl)
          try simp only [Act.put, List.setIfInBounds_toArray, List.set_cons_zero, List.set_cons_succ]
          refine wpAnyH_done (by kernel_rfl) ?_ _
          go_wp2
          go_ret2
          exact ⟨by rw [← hR2.out]; rfl, hb5⟩
      · skip
        clear hDi hs
        rcases hcl with rfl | ⟨rfl, rfl⟩
        · go_wp2
          go_ret2
          exact ⟨by rw [← hR2.out]; rfl, hb3.drew⟩
        · go_wp2
          go_ret2
          exact ⟨by rw [← hR2.out]; rfl, hb3.drew⟩
      · skip
        clear hDi hs
        rcases hcl with rfl | ⟨rfl, rfl⟩
        · go_wp2
          go_ret2
          exact ⟨by rw [← hR2.out]; rfl, hb3.drew⟩
        · go_wp2
          go_ret2
          exact ⟨by rw [← hR2.out]; rfl, hb3.drew⟩
      · skip
        clear hDi hs
        rcases hcl with rfl | ⟨rfl, rfl⟩
        · go_wp2
          go_ret2
          exact ⟨by rw [← hR2.out]; rfl, hb3.drew⟩
        · go_wp2
          go_ret2
          exact ⟨by rw [← hR2.out]; rfl, hb3.drew⟩
      · skip
        clear hDi hs
        rcases hcl with rfl | ⟨rfl, rfl⟩
        · go_wp2
          go_ret2
          exact ⟨by rw [← hR2.out]; rfl, hb3.drew⟩
        · go_wp2
          go_ret2
          exact ⟨by rw [← hR2.out]; rfl, hb3.drew⟩
      · skip
        clear hDi hs
        rcases hcl with rfl | ⟨rfl, rfl⟩
        · go_wp2
          go_ret2
          exact ⟨by rw [← hR2.out]; rfl, hb3.drew⟩
        · go_wp2
          go_ret2
          exact ⟨by rw [← hR2.out]; rfl, hb3.drew⟩
      · skip
        clear hDi hs
        rcases hcl with rfl | ⟨rfl, rfl⟩
        · go_wp2
          go_ret2
          exact ⟨by rw [← hR2.out]; rfl, hb3.drew⟩
        · go_wp2
          go_ret2
          exact ⟨by rw [← hR2.out]; rfl, hb3.drew⟩
theorem rsure_any (c d : Cl) (w : World) (hl : c.n.length ≤ 100000) (hl2 : d.n.length ≤ 100000) : Calls Tryz.prog 15 #[c.val, d.val] w fun e w' => e = .returned (.tuple #[.bool (sureV c d).1, .int .i64 ((sureV c d).2 : Int)]) ∧ Below w.heap.size w w' := by
  cases h1 : colV c with
  | false => rw [sureV_bad (by rw [h1]; rfl)]; exact rsure_bad1 c d w hl hl2 h1
  | true =>
    cases h2 : colV d with
    | false => rw [sureV_bad (by rw [h1, h2]; rfl)]; exact rsure_bad2 c d w hl hl2 h1 h2
    | true => rw [sureV_ok h1 h2]; exact rsure_ok c d w hl hl2 h1 h2
end Go.Proofs.YtagoooclfcbdeaaGreatDoor
namespace Go.Proofs.YtagoooclfcbdeaaGreatDoor
open Go.RowKit
set_option linter.unusedVariables false

/-- What Convert tells. -/
def ConvP (w : World) (y : Vl) (n : Int) (e : Ending) (w' : World) : Prop := e = .returned (.tuple #[y.val, .int .i64 n]) ∧ Below w.heap.size w w'
set_option maxRecDepth 100000 in
theorem rconv_bad1 (c d : Cl) (x : Vl) (w : World) (hl : c.n.length ≤ 100000) (hl2 : d.n.length ≤ 100000) (h1 : colV c = false) : Calls Tryz.prog 11 #[c.val, d.val, x.val] w (ConvP w zeroT 2) := by
  obtain ⟨cn, ct, cz, cl⟩ := c
  obtain ⟨dn, dt, dz, dl⟩ := d
  obtain ⟨xk, xi, xu, xs⟩ := x
  simp only [Cl.val, Vl.val, valV] at *
  obtain ⟨hC1, hD1, hX1, hR1, hb1⟩ := four_boxes w ⟨cn, ct, cz, cl⟩ ⟨dn, dt, dz, dl⟩ ⟨xk, xi, xu, xs⟩
  dsimp only at hC1 hD1 hX1 hR1 hb1
  have hQ1 := Lib.hid (fun W => r6right_any ⟨cn, ct, cz, cl⟩ W hl)
  have hQ2 := Lib.hid (fun W => r6right_any ⟨dn, dt, dz, dl⟩ W hl2)
  have hQ3 := Lib.hid (fun W => rFits_any ⟨cn, ct, cz, cl⟩ ⟨xk, xi, xu, xs⟩ W hl)
  have hQ4 := Lib.hid (fun W => rway_any ct dt W)
  simp only [Cl.val, Vl.val, valV] at hQ1 hQ2 hQ3
  rw [h1] at hQ1
  go_enter Tryz.func11, Tryz.ntmps11
  go_wp2_with fail
  refine (hQ1.out _).mono ?_
  rintro e w2 ⟨rfl, g1⟩
  have hlt := hR1.lt
  have hC2 := hC1.below g1 (by omega)
  have hD2 := hD1.below g1 (by omega)
  have hX2 := hX1.below g1 (by omega)
  have hR2 := hR1.below g1 (by omega)
  have hb2 := gr hb1 g1
  clear hlt hC1 hD1 hX1 hR1 hb1
  clear g1 hQ1
  have cc := hC2.cells
  have cd := hD2.cells
  have cv := hX2.cells
  have cr := hR2.cells
  have f0 := hR2.frozen 0
  have f1 := hR2.frozen 1
  have f2 := hR2.frozen 2
  have f3 := hR2.frozen 3
  dsimp only at cc cd cv cr
  clear hQ2 hQ3 hQ4
  go_wp2
  have hP := hR2.put 0 0 0 ⟨#[]⟩
  refine bodyPost_ret (results_cellV rfl _ _ rfl hP) rfl ?_
  exact ⟨rfl, below_put hb2 (by omega) _ _ _ _⟩
set_option maxRecDepth 100000 in
theorem rconv_bad2 (c d : Cl) (x : Vl) (w : World) (hl : c.n.length ≤ 100000) (hl2 : d.n.length ≤ 100000) (h1 : colV c = true) (h2 : colV d = false) : Calls Tryz.prog 11 #[c.val, d.val, x.val] w (ConvP w zeroT 2) := by
  obtain ⟨cn, ct, cz, cl⟩ := c
  obtain ⟨dn, dt, dz, dl⟩ := d
  obtain ⟨xk, xi, xu, xs⟩ := x
  simp only [Cl.val, Vl.val, valV] at *
  obtain ⟨hC1, hD1, hX1, hR1, hb1⟩ := four_boxes w ⟨cn, ct, cz, cl⟩ ⟨dn, dt, dz, dl⟩ ⟨xk, xi, xu, xs⟩
  dsimp only at hC1 hD1 hX1 hR1 hb1
  have hQ1 := Lib.hid (fun W => r6right_any ⟨cn, ct, cz, cl⟩ W hl)
  have hQ2 := Lib.hid (fun W => r6right_any ⟨dn, dt, dz, dl⟩ W hl2)
  have hQ3 := Lib.hid (fun W => rFits_any ⟨cn, ct, cz, cl⟩ ⟨xk, xi, xu, xs⟩ W hl)
  have hQ4 := Lib.hid (fun W => rway_any ct dt W)
  simp only [Cl.val, Vl.val, valV] at hQ1 hQ2 hQ3
  rw [h1] at hQ1
  go_enter Tryz.func11, Tryz.ntmps11
  go_wp2_with fail
  refine (hQ1.out _).mono ?_
  rintro e w2 ⟨rfl, g1⟩
  have hlt := hR1.lt
  have hC2 := hC1.below g1 (by omega)
  have hD2 := hD1.below g1 (by omega)
  have hX2 := hX1.below g1 (by omega)
  have hR2 := hR1.below g1 (by omega)
  have hb2 := gr hb1 g1
  clear hlt hC1 hD1 hX1 hR1 hb1
  clear g1 hQ1
  have cc := hC2.cells
  have cd := hD2.cells
  have cv := hX2.cells
  have cr := hR2.cells
  have f0 := hR2.frozen 0
  have f1 := hR2.frozen 1
  have f2 := hR2.frozen 2
  have f3 := hR2.frozen 3
  dsimp only at cc cd cv cr
  rw [h2] at hQ2
  go_wp2_with fail
  refine (hQ2.out _).mono ?_
  rintro e w3 ⟨rfl, g2⟩
  clear cc cd cv cr f0 f1 f2 f3
  have hlt := hR2.lt
  have hC3 := hC2.below g2 (by omega)
  have hD3 := hD2.below g2 (by omega)
  have hX3 := hX2.below g2 (by omega)
  have hR3 := hR2.below g2 (by omega)
  have hb3 := gr hb2 g2
  clear hlt hC2 hD2 hX2 hR2 hb2
  clear g2 hQ2
  have cc := hC3.cells
  have cd := hD3.cells
  have cv := hX3.cells
  have cr := hR3.cells
  have f0 := hR3.frozen 0
  have f1 := hR3.frozen 1
  have f2 := hR3.frozen 2
  have f3 := hR3.frozen 3
  dsimp only at cc cd cv cr
  clear hQ3 hQ4
  go_wp2
  have hP := hR3.put 0 0 0 ⟨#[]⟩
  refine bodyPost_ret (results_cellV rfl _ _ rfl hP) rfl ?_
  exact ⟨rfl, below_put hb3 (by omega) _ _ _ _⟩
set_option maxRecDepth 100000 in
theorem rconv_unfit (c d : Cl) (x : Vl) (w : World) (hl : c.n.length ≤ 100000) (hl2 : d.n.length ≤ 100000) (h1 : colV c = true) (h2 : colV d = true) {F : Nat} (hf : fitV c x = F) (hF : F ≠ 0) : Calls Tryz.prog 11 #[c.val, d.val, x.val] w (ConvP w zeroT F) := by
  have hd : ((F : Int) != 0) = true := by simp; omega
  clear hF
  obtain ⟨cn, ct, cz, cl⟩ := c
  obtain ⟨dn, dt, dz, dl⟩ := d
  obtain ⟨xk, xi, xu, xs⟩ := x
  simp only [Cl.val, Vl.val, valV] at *
  obtain ⟨hC1, hD1, hX1, hR1, hb1⟩ := four_boxes w ⟨cn, ct, cz, cl⟩ ⟨dn, dt, dz, dl⟩ ⟨xk, xi, xu, xs⟩
  dsimp only at hC1 hD1 hX1 hR1 hb1
  have hQ1 := Lib.hid (fun W => r6right_any ⟨cn, ct, cz, cl⟩ W hl)
  have hQ2 := Lib.hid (fun W => r6right_any ⟨dn, dt, dz, dl⟩ W hl2)
  have hQ3 := Lib.hid (fun W => rFits_any ⟨cn, ct, cz, cl⟩ ⟨xk, xi, xu, xs⟩ W hl)
  have hQ4 := Lib.hid (fun W => rway_any ct dt W)
  simp only [Cl.val, Vl.val, valV] at hQ1 hQ2 hQ3
  rw [h1] at hQ1
  go_enter Tryz.func11, Tryz.ntmps11
  go_wp2_with fail
  refine (hQ1.out _).mono ?_
  rintro e w2 ⟨rfl, g1⟩
  have hlt := hR1.lt
  have hC2 := hC1.below g1 (by omega)
  have hD2 := hD1.below g1 (by omega)
  have hX2 := hX1.below g1 (by omega)
  have hR2 := hR1.below g1 (by omega)
  have hb2 := gr hb1 g1
  clear hlt hC1 hD1 hX1 hR1 hb1
  clear g1 hQ1
  have cc := hC2.cells
  have cd := hD2.cells
  have cv := hX2.cells
  have cr := hR2.cells
  have f0 := hR2.frozen 0
  have f1 := hR2.frozen 1
  have f2 := hR2.frozen 2
  have f3 := hR2.frozen 3
  dsimp only at cc cd cv cr
  rw [h2] at hQ2
  go_wp2_with fail
  refine (hQ2.out _).mono ?_
  rintro e w3 ⟨rfl, g2⟩
  clear cc cd cv cr f0 f1 f2 f3
  have hlt := hR2.lt
  have hC3 := hC2.below g2 (by omega)
  have hD3 := hD2.below g2 (by omega)
  have hX3 := hX2.below g2 (by omega)
  have hR3 := hR2.below g2 (by omega)
  have hb3 := gr hb2 g2
  clear hlt hC2 hD2 hX2 hR2 hb2
  clear g2 hQ2
  have cc := hC3.cells
  have cd := hD3.cells
  have cv := hX3.cells
  have cr := hR3.cells
  have f0 := hR3.frozen 0
  have f1 := hR3.frozen 1
  have f2 := hR3.frozen 2
  have f3 := hR3.frozen 3
  dsimp only at cc cd cv cr
  rw [hf] at hQ3
  go_wp2_with fail
  refine (hQ3.out _).mono ?_
  rintro e w4 ⟨rfl, g2⟩
  clear cc cd cv cr f0 f1 f2 f3
  have hlt := hR3.lt
  have hC4 := hC3.below g2 (by omega)
  have hD4 := hD3.below g2 (by omega)
  have hX4 := hX3.below g2 (by omega)
  have hR4 := hR3.below g2 (by omega)
  have hb4 := gr hb3 g2
  clear hlt hC3 hD3 hX3 hR3 hb3
  clear g2 hQ3
  have cc := hC4.cells
  have cd := hD4.cells
  have cv := hX4.cells
  have cr := hR4.cells
  have f0 := hR4.frozen 0
  have f1 := hR4.frozen 1
  have f2 := hR4.frozen 2
  have f3 := hR4.frozen 3
  dsimp only at cc cd cv cr
  clear hQ4 h1 h2 hf
  go_wp2
  have hP := hR4.put 0 0 0 ⟨#[]⟩
  refine bodyPost_ret (results_cellV rfl _ _ rfl hP) rfl ?_
  exact ⟨rfl, below_put hb4 (by omega) _ _ _ _⟩
set_option maxRecDepth 100000 in
theorem rconv_noway (c d : Cl) (x : Vl) (w : World) (hl : c.n.length ≤ 100000) (hl2 : d.n.length ≤ 100000) (h1 : colV c = true) (h2 : colV d = true) (hf : fitV c x = 0) (hw : wayV c.t d.t = false) : Calls Tryz.prog 11 #[c.val, d.val, x.val] w (ConvP w zeroT 160) := by
  obtain ⟨cn, ct, cz, cl⟩ := c
  obtain ⟨dn, dt, dz, dl⟩ := d
  obtain ⟨xk, xi, xu, xs⟩ := x
  simp only [Cl.val, Vl.val, valV] at *
  obtain ⟨hC1, hD1, hX1, hR1, hb1⟩ := four_boxes w ⟨cn, ct, cz, cl⟩ ⟨dn, dt, dz, dl⟩ ⟨xk, xi, xu, xs⟩
  dsimp only at hC1 hD1 hX1 hR1 hb1
  have hQ1 := Lib.hid (fun W => r6right_any ⟨cn, ct, cz, cl⟩ W hl)
  have hQ2 := Lib.hid (fun W => r6right_any ⟨dn, dt, dz, dl⟩ W hl2)
  have hQ3 := Lib.hid (fun W => rFits_any ⟨cn, ct, cz, cl⟩ ⟨xk, xi, xu, xs⟩ W hl)
  have hQ4 := Lib.hid (fun W => rway_any ct dt W)
  simp only [Cl.val, Vl.val, valV] at hQ1 hQ2 hQ3
  rw [h1] at hQ1
  go_enter Tryz.func11, Tryz.ntmps11
  go_wp2_with fail
  refine (hQ1.out _).mono ?_
  rintro e w2 ⟨rfl, g1⟩
  have hlt := hR1.lt
  have hC2 := hC1.below g1 (by omega)
  have hD2 := hD1.below g1 (by omega)
  have hX2 := hX1.below g1 (by omega)
  have hR2 := hR1.below g1 (by omega)
  have hb2 := gr hb1 g1
  clear hlt hC1 hD1 hX1 hR1 hb1
  clear g1 hQ1
  have cc := hC2.cells
  have cd := hD2.cells
  have cv := hX2.cells
  have cr := hR2.cells
  have f0 := hR2.frozen 0
  have f1 := hR2.frozen 1
  have f2 := hR2.frozen 2
  have f3 := hR2.frozen 3
  dsimp only at cc cd cv cr
  rw [h2] at hQ2
  go_wp2_with fail
  refine (hQ2.out _).mono ?_
  rintro e w3 ⟨rfl, g2⟩
  clear cc cd cv cr f0 f1 f2 f3
  have hlt := hR2.lt
  have hC3 := hC2.below g2 (by omega)
  have hD3 := hD2.below g2 (by omega)
  have hX3 := hX2.below g2 (by omega)
  have hR3 := hR2.below g2 (by omega)
  have hb3 := gr hb2 g2
  clear hlt hC2 hD2 hX2 hR2 hb2
  clear g2 hQ2
  have cc := hC3.cells
  have cd := hD3.cells
  have cv := hX3.cells
  have cr := hR3.cells
  have f0 := hR3.frozen 0
  have f1 := hR3.frozen 1
  have f2 := hR3.frozen 2
  have f3 := hR3.frozen 3
  dsimp only at cc cd cv cr
  rw [hf] at hQ3
  go_wp2_with fail
  refine (hQ3.out _).mono ?_
  rintro e w4 ⟨rfl, g2⟩
  clear cc cd cv cr f0 f1 f2 f3
  have hlt := hR3.lt
  have hC4 := hC3.below g2 (by omega)
  have hD4 := hD3.below g2 (by omega)
  have hX4 := hX3.below g2 (by omega)
  have hR4 := hR3.below g2 (by omega)
  have hb4 := gr hb3 g2
  clear hlt hC3 hD3 hX3 hR3 hb3
  clear g2 hQ3
  have cc := hC4.cells
  have cd := hD4.cells
  have cv := hX4.cells
  have cr := hR4.cells
  have f0 := hR4.frozen 0
  have f1 := hR4.frozen 1
  have f2 := hR4.frozen 2
  have f3 := hR4.frozen 3
  dsimp only at cc cd cv cr
  clear h1 h2 hf
  rw [hw] at hQ4
  go_wp2_with fail
  refine (hQ4.out _).mono ?_
  rintro e w5 ⟨rfl, rfl⟩
  clear hQ4
  clear hw
  go_wp2
  have hP := hR4.put 0 0 0 ⟨#[]⟩
  refine bodyPost_ret (results_cellV rfl _ _ rfl hP) rfl ?_
  exact ⟨rfl, below_put hb4 (by omega) _ _ _ _⟩
set_option maxRecDepth 100000 in
theorem rconv_null0 (c d : Cl) (x : Vl) (w : World) (hl : c.n.length ≤ 100000) (hl2 : d.n.length ≤ 100000) (h1 : colV c = true) (h2 : colV d = true) (hf : fitV c x = 0) (hw : wayV c.t d.t = true) (hk : (x.k == 0) = true) (hn : d.nl = false) : Calls Tryz.prog 11 #[c.val, d.val, x.val] w (ConvP w zeroT 161) := by
  replace hn := Lib.hid hn
  obtain ⟨cn, ct, cz, cl⟩ := c
  obtain ⟨dn, dt, dz, dl⟩ := d
  obtain ⟨xk, xi, xu, xs⟩ := x
  simp only [Cl.val, Vl.val, valV] at *
  obtain ⟨hC1, hD1, hX1, hR1, hb1⟩ := four_boxes w ⟨cn, ct, cz, cl⟩ ⟨dn, dt, dz, dl⟩ ⟨xk, xi, xu, xs⟩
  dsimp only at hC1 hD1 hX1 hR1 hb1
  have hQ1 := Lib.hid (fun W => r6right_any ⟨cn, ct, cz, cl⟩ W hl)
  have hQ2 := Lib.hid (fun W => r6right_any ⟨dn, dt, dz, dl⟩ W hl2)
  have hQ3 := Lib.hid (fun W => rFits_any ⟨cn, ct, cz, cl⟩ ⟨xk, xi, xu, xs⟩ W hl)
  have hQ4 := Lib.hid (fun W => rway_any ct dt W)
  simp only [Cl.val, Vl.val, valV] at hQ1 hQ2 hQ3
  rw [h1] at hQ1
  go_enter Tryz.func11, Tryz.ntmps11
  go_wp2_with fail
  refine (hQ1.out _).mono ?_
  rintro e w2 ⟨rfl, g1⟩
  have hlt := hR1.lt
  have hC2 := hC1.below g1 (by omega)
  have hD2 := hD1.below g1 (by omega)
  have hX2 := hX1.below g1 (by omega)
  have hR2 := hR1.below g1 (by omega)
  have hb2 := gr hb1 g1
  clear hlt hC1 hD1 hX1 hR1 hb1
  clear g1 hQ1
  have cc := hC2.cells
  have cd := hD2.cells
  have cv := hX2.cells
  have cr := hR2.cells
  have f0 := hR2.frozen 0
  have f1 := hR2.frozen 1
  have f2 := hR2.frozen 2
  have f3 := hR2.frozen 3
  dsimp only at cc cd cv cr
  have hn2 := hn.out
  clear hn
  subst hn2
  rw [h2] at hQ2
  go_wp2_with fail
  refine (hQ2.out _).mono ?_
  rintro e w3 ⟨rfl, g2⟩
  clear cc cd cv cr f0 f1 f2 f3
  have hlt := hR2.lt
  have hC3 := hC2.below g2 (by omega)
  have hD3 := hD2.below g2 (by omega)
  have hX3 := hX2.below g2 (by omega)
  have hR3 := hR2.below g2 (by omega)
  have hb3 := gr hb2 g2
  clear hlt hC2 hD2 hX2 hR2 hb2
  clear g2 hQ2
  have cc := hC3.cells
  have cd := hD3.cells
  have cv := hX3.cells
  have cr := hR3.cells
  have f0 := hR3.frozen 0
  have f1 := hR3.frozen 1
  have f2 := hR3.frozen 2
  have f3 := hR3.frozen 3
  dsimp only at cc cd cv cr
  rw [hf] at hQ3
  go_wp2_with fail
  refine (hQ3.out _).mono ?_
  rintro e w4 ⟨rfl, g2⟩
  clear cc cd cv cr f0 f1 f2 f3
  have hlt := hR3.lt
  have hC4 := hC3.below g2 (by omega)
  have hD4 := hD3.below g2 (by omega)
  have hX4 := hX3.below g2 (by omega)
  have hR4 := hR3.below g2 (by omega)
  have hb4 := gr hb3 g2
  clear hlt hC3 hD3 hX3 hR3 hb3
  clear g2 hQ3
  have cc := hC4.cells
  have cd := hD4.cells
  have cv := hX4.cells
  have cr := hR4.cells
  have f0 := hR4.frozen 0
  have f1 := hR4.frozen 1
  have f2 := hR4.frozen 2
  have f3 := hR4.frozen 3
  dsimp only at cc cd cv cr
  clear h1 h2 hf
  rw [hw] at hQ4
  go_wp2_with fail
  refine (hQ4.out _).mono ?_
  rintro e w5 ⟨rfl, rfl⟩
  clear hQ4
  clear hw
  go_wp2
  have hP := hR4.put 0 0 0 ⟨#[]⟩
  refine bodyPost_ret (results_cellV rfl _ _ rfl hP) rfl ?_
  exact ⟨rfl, below_put hb4 (by omega) _ _ _ _⟩
set_option maxRecDepth 100000 in
theorem rconv_null1 (c d : Cl) (x : Vl) (w : World) (hl : c.n.length ≤ 100000) (hl2 : d.n.length ≤ 100000) (h1 : colV c = true) (h2 : colV d = true) (hf : fitV c x = 0) (hw : wayV c.t d.t = true) (hk : (x.k == 0) = true) (hn : d.nl = true) : Calls Tryz.prog 11 #[c.val, d.val, x.val] w (ConvP w x 0) := by
  replace hn := Lib.hid hn
  obtain ⟨cn, ct, cz, cl⟩ := c
  obtain ⟨dn, dt, dz, dl⟩ := d
  obtain ⟨xk, xi, xu, xs⟩ := x
  simp only [Cl.val, Vl.val, valV] at *
  obtain ⟨hC1, hD1, hX1, hR1, hb1⟩ := four_boxes w ⟨cn, ct, cz, cl⟩ ⟨dn, dt, dz, dl⟩ ⟨xk, xi, xu, xs⟩
  dsimp only at hC1 hD1 hX1 hR1 hb1
  have hQ1 := Lib.hid (fun W => r6right_any ⟨cn, ct, cz, cl⟩ W hl)
  have hQ2 := Lib.hid (fun W => r6right_any ⟨dn, dt, dz, dl⟩ W hl2)
  have hQ3 := Lib.hid (fun W => rFits_any ⟨cn, ct, cz, cl⟩ ⟨xk, xi, xu, xs⟩ W hl)
  have hQ4 := Lib.hid (fun W => rway_any ct dt W)
  simp only [Cl.val, Vl.val, valV] at hQ1 hQ2 hQ3
  rw [h1] at hQ1
  go_enter Tryz.func11, Tryz.ntmps11
  go_wp2_with fail
  refine (hQ1.out _).mono ?_
  rintro e w2 ⟨rfl, g1⟩
  have hlt := hR1.lt
  have hC2 := hC1.below g1 (by omega)
  have hD2 := hD1.below g1 (by omega)
  have hX2 := hX1.below g1 (by omega)
  have hR2 := hR1.below g1 (by omega)
  have hb2 := gr hb1 g1
  clear hlt hC1 hD1 hX1 hR1 hb1
  clear g1 hQ1
  have cc := hC2.cells
  have cd := hD2.cells
  have cv := hX2.cells
  have cr := hR2.cells
  have f0 := hR2.frozen 0
  have f1 := hR2.frozen 1
  have f2 := hR2.frozen 2
  have f3 := hR2.frozen 3
  dsimp only at cc cd cv cr
  have hn2 := hn.out
  clear hn
  subst hn2
  rw [h2] at hQ2
  go_wp2_with fail
  refine (hQ2.out _).mono ?_
  rintro e w3 ⟨rfl, g2⟩
  clear cc cd cv cr f0 f1 f2 f3
  have hlt := hR2.lt
  have hC3 := hC2.below g2 (by omega)
  have hD3 := hD2.below g2 (by omega)
  have hX3 := hX2.below g2 (by omega)
  have hR3 := hR2.below g2 (by omega)
  have hb3 := gr hb2 g2
  clear hlt hC2 hD2 hX2 hR2 hb2
  clear g2 hQ2
  have cc := hC3.cells
  have cd := hD3.cells
  have cv := hX3.cells
  have cr := hR3.cells
  have f0 := hR3.frozen 0
  have f1 := hR3.frozen 1
  have f2 := hR3.frozen 2
  have f3 := hR3.frozen 3
  dsimp only at cc cd cv cr
  rw [hf] at hQ3
  go_wp2_with fail
  refine (hQ3.out _).mono ?_
  rintro e w4 ⟨rfl, g2⟩
  clear cc cd cv cr f0 f1 f2 f3
  have hlt := hR3.lt
  have hC4 := hC3.below g2 (by omega)
  have hD4 := hD3.below g2 (by omega)
  have hX4 := hX3.below g2 (by omega)
  have hR4 := hR3.below g2 (by omega)
  have hb4 := gr hb3 g2
  clear hlt hC3 hD3 hX3 hR3 hb3
  clear g2 hQ3
  have cc := hC4.cells
  have cd := hD4.cells
  have cv := hX4.cells
  have cr := hR4.cells
  have f0 := hR4.frozen 0
  have f1 := hR4.frozen 1
  have f2 := hR4.frozen 2
  have f3 := hR4.frozen 3
  dsimp only at cc cd cv cr
  clear h1 h2 hf
  rw [hw] at hQ4
  go_wp2_with fail
  refine (hQ4.out _).mono ?_
  rintro e w5 ⟨rfl, rfl⟩
  clear hQ4
  clear hw
  go_wp2
  have hP := hR4.put xk xi xu (strL xs)
  refine bodyPost_ret (results_cellV rfl _ _ rfl hP) rfl ?_
  exact ⟨rfl, below_put hb4 (by omega) _ _ _ _⟩
set_option maxRecDepth 100000 in
set_option maxHeartbeats 2000000 in
theorem rconv_turn (c d : Cl) (x : Vl) (w : World) (hE : Env w) (hl : c.n.length ≤ 100000) (hl2 : d.n.length ≤ 100000) (hx : x.Wf) (hlx : x.s.length ≤ 90000) (h1 : colV c = true) (h2 : colV d = true) (hf : fitV c x = 0) (hw : wayV c.t d.t = true) (hk : x.k ≠ 0) : Calls Tryz.prog 11 #[c.val, d.val, x.val] w (ConvP w (convV c d x).1 ((convV c d x).2 : Int)) := by
  have hk0 : (x.k == 0) = false := by simpa using hk
  have hcn := Lib.hid (conv_turn h1 h2 hf hw hk)
  have hT := fun W h => rturned_any x d.t W h hx hlx (by rw [((fit_zero hf).2.2.2 hk).1]; exact hw)
  replace hT := Lib.hid hT
  clear hk
  obtain ⟨cn, ct, cz, cl⟩ := c
  obtain ⟨dn, dt, dz, dl⟩ := d
  obtain ⟨xk, xi, xu, xs⟩ := x
  simp only [Cl.val, Vl.val, valV] at *
  obtain ⟨hC1, hD1, hX1, hR1, hb1⟩ := four_boxes w ⟨cn, ct, cz, cl⟩ ⟨dn, dt, dz, dl⟩ ⟨xk, xi, xu, xs⟩
  dsimp only at hC1 hD1 hX1 hR1 hb1
  have hQ1 := Lib.hid (fun W => r6right_any ⟨cn, ct, cz, cl⟩ W hl)
  have hQ2 := Lib.hid (fun W => r6right_any ⟨dn, dt, dz, dl⟩ W hl2)
  have hQ3 := Lib.hid (fun W => rFits_any ⟨cn, ct, cz, cl⟩ ⟨xk, xi, xu, xs⟩ W hl)
  have hQ4 := Lib.hid (fun W => rway_any ct dt W)
  simp only [Cl.val, Vl.val, valV] at hQ1 hQ2 hQ3
  rw [h1] at hQ1
  go_enter Tryz.func11, Tryz.ntmps11
  go_wp2_with fail
  refine (hQ1.out _).mono ?_
  rintro e w2 ⟨rfl, g1⟩
  have hlt := hR1.lt
  have hC2 := hC1.below g1 (by omega)
  have hD2 := hD1.below g1 (by omega)
  have hX2 := hX1.below g1 (by omega)
  have hR2 := hR1.below g1 (by omega)
  have hb2 := gr hb1 g1
  clear hlt hC1 hD1 hX1 hR1 hb1
  clear g1 hQ1
  have cc := hC2.cells
  have cd := hD2.cells
  have cv := hX2.cells
  have cr := hR2.cells
  have f0 := hR2.frozen 0
  have f1 := hR2.frozen 1
  have f2 := hR2.frozen 2
  have f3 := hR2.frozen 3
  dsimp only at cc cd cv cr
  rw [h2] at hQ2
  go_wp2_with fail
  refine (hQ2.out _).mono ?_
  rintro e w3 ⟨rfl, g2⟩
  clear cc cd cv cr f0 f1 f2 f3
  have hlt := hR2.lt
  have hC3 := hC2.below g2 (by omega)
  have hD3 := hD2.below g2 (by omega)
  have hX3 := hX2.below g2 (by omega)
  have hR3 := hR2.below g2 (by omega)
  have hb3 := gr hb2 g2
  clear hlt hC2 hD2 hX2 hR2 hb2
  clear g2 hQ2
  have cc := hC3.cells
  have cd := hD3.cells
  have cv := hX3.cells
  have cr := hR3.cells
  have f0 := hR3.frozen 0
  have f1 := hR3.frozen 1
  have f2 := hR3.frozen 2
  have f3 := hR3.frozen 3
  dsimp only at cc cd cv cr
  rw [hf] at hQ3
  go_wp2_with fail
  refine (hQ3.out _).mono ?_
  rintro e w4 ⟨rfl, g2⟩
  clear cc cd cv cr f0 f1 f2 f3
  have hlt := hR3.lt
  have hC4 := hC3.below g2 (by omega)
  have hD4 := hD3.below g2 (by omega)
  have hX4 := hX3.below g2 (by omega)
  have hR4 := hR3.below g2 (by omega)
  have hb4 := gr hb3 g2
  clear hlt hC3 hD3 hX3 hR3 hb3
  clear g2 hQ3
  have cc := hC4.cells
  have cd := hD4.cells
  have cv := hX4.cells
  have cr := hR4.cells
  have f0 := hR4.frozen 0
  have f1 := hR4.frozen 1
  have f2 := hR4.frozen 2
  have f3 := hR4.frozen 3
  dsimp only at cc cd cv cr
  clear h1 h2 hf
  rw [hw] at hQ4
  go_wp2_with fail
  refine (hQ4.out _).mono ?_
  rintro e w5 ⟨rfl, rfl⟩
  clear hQ4
  clear hw
  have hE4 := hE.below hb4
  go_wp2_with fail
  refine (hT.out _ hE4).mono ?_
  rintro e w6 ⟨⟨yk, yi, yu, ys⟩, b, rfl, hy1, hy2, g2⟩
  clear cc cd cv cr f0 f1 f2 f3
  simp only [Vl.val, valV]
  have g3 := gr_alloc g2 (.cells #[.int .i64 yk, .int .i64 yi, .int .u64 yu, .string (strL ys)] 28)
  have hY7 := VBox.new w6 yk yi yu (strL ys)
  have hYlt := hY7.lt
  have hlt := hR4.lt
  have hC7 := hC4.below g3 (by omega)
  have hD7 := hD4.below g3 (by omega)
  have hX7 := hX4.below g3 (by omega)
  have hR7 := hR4.below g3 (by omega)
  have hb7 := gr hb4 g3
  clear hlt hC4 hD4 hX4 hR4 hb4
  clear hT g2 g3 hE4
  cases b
  · have hcv : convV ⟨cn, ct, cz, cl⟩ ⟨dn, dt, dz, dl⟩ ⟨xk, xi, xu, xs⟩ = (zeroT, 161) := by rw [hcn.out, hy2 rfl]
    replace hcv := Lib.hid hcv
    clear hcn hy1 hy2 hx
    have cc := hC7.cells
    have cd := hD7.cells
    have cv := hX7.cells
    have cr := hR7.cells
    have f0 := hR7.frozen 0
    have f1 := hR7.frozen 1
    have f2 := hR7.frozen 2
    have f3 := hR7.frozen 3
    dsimp only at cc cd cv cr
    go_wp2
    have hP := hR7.put 0 0 0 ⟨#[]⟩
    refine bodyPost_ret (results_cellV rfl _ _ rfl hP) rfl ?_
    exact ⟨by rw [hcv.out]; rfl, below_put hb7 (by omega) _ _ _ _⟩
  · have hty := hy1 rfl
    replace hty := Lib.hid hty
    clear hy1 hy2 hx
    have hG := Lib.hid (fun W => rFits_any ⟨dn, dt, dz, dl⟩ ⟨yk, yi, yu, ys⟩ W hl2)
    simp only [Cl.val, Vl.val, valV] at hG
    obtain ⟨G, hge⟩ : ∃ G, fitV ⟨dn, dt, dz, dl⟩ ⟨yk, yi, yu, ys⟩ = G := ⟨_, rfl⟩
    rw [hge] at hG
    replace hge := Lib.hid hge
    have cy := hY7.cells
    have cc := hC7.cells
    have cd := hD7.cells
    have cv := hX7.cells
    have cr := hR7.cells
    have f0 := hR7.frozen 0
    have f1 := hR7.frozen 1
    have f2 := hR7.frozen 2
    have f3 := hR7.frozen 3
    dsimp only at cc cd cv cr
    go_wp2_with fail
    refine (hG.out _).mono ?_
    rintro e w8 ⟨rfl, g4⟩
    clear cc cd cv cr f0 f1 f2 f3
    clear cy
    have hY8 := hY7.below g4 hYlt
    have hlt := hR7.lt
    have hC8 := hC7.below g4 (by omega)
    have hD8 := hD7.below g4 (by omega)
    have hX8 := hX7.below g4 (by omega)
    have hR8 := hR7.below g4 (by omega)
    have hb8 := gr hb7 g4
    clear hlt hC7 hD7 hX7 hR7 hb7
    clear hG g4 hY7 hYlt
    have cy := hY8.cells
    by_cases hG0 : G = 0
    · subst hG0
      have hcv : convV ⟨cn, ct, cz, cl⟩ ⟨dn, dt, dz, dl⟩ ⟨xk, xi, xu, xs⟩ = (⟨yk, yi, yu, ys⟩, 0) := by rw [hcn.out, hty.out]; dsimp only; rw [if_pos hge.out]
      replace hcv := Lib.hid hcv
      clear hcn hty hge
      have cc := hC8.cells
      have cd := hD8.cells
      have cv := hX8.cells
      have cr := hR8.cells
      have f0 := hR8.frozen 0
      have f1 := hR8.frozen 1
      have f2 := hR8.frozen 2
      have f3 := hR8.frozen 3
      dsimp only at cc cd cv cr
      go_wp2
      have hP := hR8.put yk yi yu (strL ys)
      refine bodyPost_ret (results_cellV rfl _ _ rfl hP) rfl ?_
      exact ⟨by rw [hcv.out]; rfl, below_put hb8 (by omega) _ _ _ _⟩
    · have hcv : convV ⟨cn, ct, cz, cl⟩ ⟨dn, dt, dz, dl⟩ ⟨xk, xi, xu, xs⟩ = (zeroT, 161) := by rw [hcn.out, hty.out]; dsimp only; rw [if_neg (by rw [hge.out]; exact hG0)]
      replace hcv := Lib.hid hcv
      have hd2 : ((G : Int) != 0) = true := by simp; omega
      clear hcn hty hge hG0
      have cc := hC8.cells
      have cd := hD8.cells
      have cv := hX8.cells
      have cr := hR8.cells
      have f0 := hR8.frozen 0
      have f1 := hR8.frozen 1
      have f2 := hR8.frozen 2
      have f3 := hR8.frozen 3
      dsimp only at cc cd cv cr
      go_wp2
      have hP := hR8.put 0 0 0 ⟨#[]⟩
      refine bodyPost_ret (results_cellV rfl _ _ rfl hP) rfl ?_
      exact ⟨by rw [hcv.out]; rfl, below_put hb8 (by omega) _ _ _ _⟩
theorem conv_unfit {c d : Cl} {x : Vl} (h1 : colV c = true) (h2 : colV d = true) (hf : fitV c x ≠ 0) : convV c d x = (zeroT, fitV c x) := by
  unfold convV
  rw [if_neg (by simp [h1, h2]), if_pos hf]
theorem rconv_any (c d : Cl) (x : Vl) (w : World) (hE : Env w) (hl : c.n.length ≤ 100000) (hl2 : d.n.length ≤ 100000) (hx : x.Wf) (hlx : x.s.length ≤ 90000) : Calls Tryz.prog 11 #[c.val, d.val, x.val] w (ConvP w (convV c d x).1 ((convV c d x).2 : Int)) := by
  cases h1 : colV c with
  | false => rw [conv_bad (by rw [h1]; rfl)]; exact rconv_bad1 c d x w hl hl2 h1
  | true =>
    cases h2 : colV d with
    | false => rw [conv_bad (by rw [h1, h2]; rfl)]; exact rconv_bad2 c d x w hl hl2 h1 h2
    | true =>
      by_cases hf : fitV c x = 0
      · cases hw : wayV c.t d.t with
        | false => rw [conv_way h1 h2 hf hw]; exact rconv_noway c d x w hl hl2 h1 h2 hf hw
        | true =>
          by_cases hk : x.k = 0
          · rw [conv_null h1 h2 hf hw hk, fit_null h2 hk (fit_zero hf).2.1]
            cases hn : d.nl with
            | false => exact rconv_null0 c d x w hl hl2 h1 h2 hf hw (by simpa using hk) hn
            | true => exact rconv_null1 c d x w hl hl2 h1 h2 hf hw (by simpa using hk) hn
          · exact rconv_turn c d x w hE hl hl2 hx hlx h1 h2 hf hw hk
      · rw [conv_unfit h1 h2 hf]; exact rconv_unfit c d x w hl hl2 h1 h2 rfl hf
end Go.Proofs.YtagoooclfcbdeaaGreatDoor
