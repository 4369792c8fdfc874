/- The law's act: releases, ticks, copies; all of it. -/
import Derived.Test.YtnjhhibjcfjhnaaDoorActB
namespace Go.Proofs.YtnjhhibjcfjhnaaDoor
open Go.RowKit
set_option linter.unusedVariables false

theorem Ov.kbLB {w w' : World} {base base' B' : Nat} {r' : Option Nat} {now' : Int} {zs' : List Ak} {e : TypeId} {size n c : Nat} {A : Option Addr} {us : List Value} (h' : LB w base' B' r' now' zs') (hk : Kb w w' B' r') (h : Ov w base e size A n c us) (h1 : e ≠ 69) (h2 : e ≠ 74) : Ov w' base e size A n c us := by
  obtain ⟨A', n', c', xs', h', rfl, -⟩ := h'
  exact h.kb hk (h'.apart h h1 h2)
section
variable {w : World} {base B : Nat} {r : Option Nat} {now : Int} {zs : List Ak} {v : Value}
set_option maxRecDepth 100000 in
set_option maxHeartbeats 8000000 in
theorem ActRel_any (hL : LB w base B r now zs) (hR : RB w base v now zs) (hE : Env w) (hz : IZ zs) (x : Ac) (hx : Rv w 2 x.A x.n x.c (wcells x.W)) (hw : x.what = 4 ∨ x.what = 5) :
    Calls Tryd.prog 16 #[.pointer (some ⟨B, 0, none⟩), v, .agg x.cells.toArray] w (ActPost w base B r now now (relF x.s zs).1) := by
  have hRs := hR
  obtain ⟨A, n, c, xs, rfl, -, -⟩ := hRs
  have hB := hL.lt.2
  have hrr : ∀ g, r = some g → g < w.heap.size := fun g hg => (hL.row g hg).2
  have hbs : base ≤ w.heap.size := Nat.le_of_lt (Nat.lt_of_le_of_lt hL.lt.1 hB)
  have hX0 : XA w (((w.alloc (.cells #[.int .i64 now, .slice A n c] 45)).alloc (.cells x.cells.toArray 31)).alloc (.cells #[.int .i64 0, .slice none 0 0] 45)) x ∧ (((w.alloc (.cells #[.int .i64 now, .slice A n c] 45)).alloc (.cells x.cells.toArray 31)).alloc (.cells #[.int .i64 0, .slice none 0 0] 45)).heap[w.heap.size]? = some (.cells #[.int .i64 now, .slice A n c] 45 (0, 0)) := by
    have h1 := World.alloc_heap_new w (.cells #[.int .i64 now, .slice A n c] 45)
    have h2 := World.alloc_heap_new (w.alloc (.cells #[.int .i64 now, .slice A n c] 45)) (.cells x.cells.toArray 31)
    have h3 := World.alloc_heap_new ((w.alloc (.cells #[.int .i64 now, .slice A n c] 45)).alloc (.cells x.cells.toArray 31)) (.cells #[.int .i64 0, .slice none 0 0] 45)
    have b2 : Below (w.alloc (.cells #[.int .i64 now, .slice A n c] 45)).heap.size (w.alloc (.cells #[.int .i64 now, .slice A n c] 45)) ((w.alloc (.cells #[.int .i64 now, .slice A n c] 45)).alloc (.cells x.cells.toArray 31)) := (Below.refl _ _).alloc (Nat.le_refl _) _
    have b3 : Below ((w.alloc (.cells #[.int .i64 now, .slice A n c] 45)).alloc (.cells x.cells.toArray 31)).heap.size ((w.alloc (.cells #[.int .i64 now, .slice A n c] 45)).alloc (.cells x.cells.toArray 31)) (((w.alloc (.cells #[.int .i64 now, .slice A n c] 45)).alloc (.cells x.cells.toArray 31)).alloc (.cells #[.int .i64 0, .slice none 0 0] 45)) := (Below.refl _ _).alloc (Nat.le_refl _) _
    rw [World.size_alloc] at h2
    rw [World.size_alloc, World.size_alloc] at h3
    refine ⟨⟨(b3.block _ (by simp)).trans h2, h3, by simp⟩, (b3.block _ (by simp; omega)).trans ((b2.block _ (by simp)).trans h1)⟩
  have hb2 : Below w.heap.size w (((w.alloc (.cells #[.int .i64 now, .slice A n c] 45)).alloc (.cells x.cells.toArray 31)).alloc (.cells #[.int .i64 0, .slice none 0 0] 45)) := gr_alloc (gr_alloc (gr_alloc (Below.refl _ _) _) _) _
  obtain ⟨hX, k4⟩ := hX0
  replace hL := hL.below hb2
  replace hR := hR.below hb2
  replace hE := hE.below hb2
  replace hx := Rv.below hx hb2
  obtain ⟨x0, x1, x2, x3, x5, x6, x7, x8⟩ := x
  simp only at hw hx ⊢
  have hra := Lib.hid (fun W (h : RB W base (.agg #[.int .i64 now, .slice A n c]) now zs) (h1 : base ≤ W.heap.size) => RRel_B h h1 hz x1)
  have hask := Lib.hid (fun W (h : LB W base B r now zs) (e : Env W) => Rel_B h e hz x1)
  generalize relF x1 zs = q at *
  obtain ⟨zs', is, e1⟩ := q
  simp only at hra hask ⊢
  have hnum := Lib.hid (fun k W => Num_any k W)
  rcases hw with rfl | rfl
  · skip
    simp only [Ac.cells] at hX k4 hb2 hL hR hE hx ⊢
    go_enter Tryd.func16, Tryd.ntmps16
    go_upto_region 1 with fail
    generalize (((w.alloc (.cells #[.int .i64 now, .slice A n c] 45)).alloc (.cells [.int .i64 4, .int .i64 x1, .int .i64 x2, .bool x3, .slice x6 x7 x8].toArray 31)).alloc (.cells #[.int .i64 0, .slice none 0 0] 45)) = w2 at *
    have cx := hX.cells
    have c4 := (box_cells k4).1
    go_wp2_with fail
    refine (hra.out _ hR (by have := hb2.size; omega)).mono ?_
    rintro e w3 ⟨v', R1, m1, d1, rfl, hO, hR3, hb3⟩
    clear hra hR k4 c4 cx
    replace hL := hL.below hb3
    replace hE := hE.below hb3
    replace hX := hX.more hb3
    replace hb2 := gr hb2 hb3
    clear hb3
    have hR3s := hR3
    obtain ⟨A', n', c', xs', rfl, -, -⟩ := hR3s
    go_upto_region 12 with fail
    have hba : Below w3.heap.size w3 (w3.alloc (.cells #[.int .i64 now, .slice A' n' c'] 45)) := (Below.refl _ _).alloc (Nat.le_refl _) _
    have k9 := World.alloc_heap_new w3 (.cells #[.int .i64 now, .slice A' n' c'] 45)
    have hz9 : w3.heap.size < (w3.alloc (.cells #[.int .i64 now, .slice A' n' c'] 45)).heap.size := by simp
    have hX3 := hX.size
    replace hR3 := hR3.below hba
    replace hL := hL.below hba
    replace hE := hE.below hba
    replace hX := hX.more hba
    replace hO := hO.below hba
    skip
    replace hb2 := gr hb2 hba
    clear hba
    generalize (w3.alloc (.cells #[.int .i64 now, .slice A' n' c'] 45)) = w4 at *
    generalize w3.heap.size = b9 at *
    have cx := hX.cells
    go_wp2_with fail
    refine (hask.out _ hL hE).mono ?_
    rintro e w5 ⟨R2, m2, d2, rfl, hO2, r', hL5, hN5, hk5⟩
    clear hask cx
    replace hR3 := hR3.kb hL hk5
    replace hX := hX.kb hk5 hB hrr
    replace k9 := (hk5.block b9 (by omega) (by omega) (fun e => by have := hrr _ e.symm; omega)).trans k9
    have hkf : Kb w w5 B r := (Kb.ofBelow hb2).trans hk5
    have hnf : Nw w r r' := fun g hg => by
      rcases hN5 g hg with h | h
      · exact .inl (Nat.le_trans hb2.size h)
      · exact .inr h
    have hO5 := Ov.kbLB hL hk5 hO (by decide) (by decide)
    clear hk5 hN5 hL hb2 hE hz9 hO
    go_upto_region 13 with fail
    refine wp_region_noPanic ?_
    have hd : Below w5.heap.size w5 w5.drew := (Below.refl _ _).drew
    have c9 := (box_cells k9).1
    have hints := Lib.hid (RInts_any R2 m2 d2 is R1 m1 d1 is w5.drew (hO2.rv.below hd) (hO5.rv.below hd))
    clear hO2 hO5
    refine wp_region_held_drew (S := fun W => W.cell? ⟨b9, 0, none⟩ = some (.int .i64 now) ∧ W.cell? ⟨b9, 1, none⟩ = some (.slice A' n' c')) (by kernel_rfl) c9 (fun hHeld => ?_)
    have hii : decide (is = is) = true := by simp
    have hee : (e1 == e1) = true := by simp
    refine wpAnyH_takeL (i := 0) (v := ?vhy1) rfl (by kernel_rfl) (by kernel_rfl) (by kernel_rfl) (fun _ _ _ h => h) (Or.inl ⟨by rfl, ?hy1⟩) (by assumption) ?rhy1
    case hy1 => ((intro w hSw; (try dsimp only at hSw); go_simp); try with_reducible rfl)
    try simp only [Act.put, List.setIfInBounds_toArray, List.set_cons_zero, List.set_cons_succ]
    refine wpAnyH_takeL (i := 1) (v := ?vhy2) rfl (by kernel_rfl) (by kernel_rfl) (by kernel_rfl) (fun _ _ _ h => h) (Or.inl ⟨by rfl, ?hy2⟩) (by assumption) ?rhy2
    case hy2 => ((intro w hSw; (try dsimp only at hSw); go_simp); try with_reducible rfl)
    try simp only [Act.put, List.setIfInBounds_toArray, List.set_cons_zero, List.set_cons_succ]
    refine wpAnyH_takeL (i := 2) (v := ?vhy3) rfl (by kernel_rfl) (by kernel_rfl) (by kernel_rfl) (fun _ _ _ h => h) (Or.inl ⟨by rfl, ?hy3⟩) (by assumption) ?rhy3
    case hy3 => ((intro w hSw; (try dsimp only at hSw); go_simp); try with_reducible rfl)
    try simp only [Act.put, List.setIfInBounds_toArray, List.set_cons_zero, List.set_cons_succ]
    refine wpAnyH_takeL (i := 3) (v := ?vhy4) rfl (by kernel_rfl) (by kernel_rfl) (by kernel_rfl) (fun _ _ _ h => h) (Or.inl ⟨by rfl, ?hy4⟩) (by assumption) ?rhy4
    case hy4 => ((intro w hSw; (try dsimp only at hSw); go_simp); try with_reducible rfl)
    try simp only [Act.put, List.setIfInBounds_toArray, List.set_cons_zero, List.set_cons_succ]
    refine wpAnyH_ready (rs := [4]) (by kernel_rfl) (by simp) ?_
    refine AllReadyH.consL (i := 4) rfl (fun K hK => ?_) AllReadyH.nil
    go_simp
    refine hints.out.mono ?_
    rintro e w6 ⟨rfl, hb6⟩
    replace hb6 := gr hd hb6
    replace k9 := (hb6.block b9 (Array.getElem?_eq_some_iff.1 k9).1).trans k9
    refine hK.out _ _ (box_cells k9).1 (fun hHeld => ?_)
    clear hK hints c9
    have hpost := Lib.hid (ActPost.mk (base := base) (now := now) (hX.more hb6) (hL5.below hb6) (hR3.below hb6) (hkf.trans (Kb.ofBelow hb6)) hnf (.inl rfl))
    have h7 := (hX.more hb6).k7
    have cc := box_cells (heap_set1 (v' := .slice A' n' c') (heap_set0 (u' := .int .i64 now) h7))
    have cc1 := Lib.hid cc.1
    have cf := (box_cells h7).2
    have cf0 := (box_cells h7).1
    have c9' := Lib.hid (show (((w6.setCell ⟨w.heap.size + 2, 0, none⟩ (.int .i64 now)).setCell ⟨w.heap.size + 2, 1, none⟩ (.slice A' n' c')).cell? ⟨b9, 0, none⟩ = some (.int .i64 now) ∧ ((w6.setCell ⟨w.heap.size + 2, 0, none⟩ (.int .i64 now)).setCell ⟨w.heap.size + 2, 1, none⟩ (.slice A' n' c')).cell? ⟨b9, 1, none⟩ = some (.slice A' n' c')) from by
      have hne : b9 ≠ w.heap.size + 2 := by omega
      have g1 := (grownBy_at w6 (w.heap.size + 2) 0 (.int .i64 now)).block b9 (Array.getElem?_eq_some_iff.1 k9).1 (fun e => by injection e with e; exact hne e)
      have g2 := (grownBy_at (w6.setCell ⟨w.heap.size + 2, 0, none⟩ (.int .i64 now)) (w.heap.size + 2) 1 (.slice A' n' c')).block b9 (by have := (Array.getElem?_eq_some_iff.1 k9).1; simpa using this) (fun e => by injection e with e; exact hne e)
      exact (box_cells (g2.trans (g1.trans k9))).1)
    clear cc h7
    clear hX hL5 hR3 hkf hnf hd hb6
    refine wpAnyH_takeL (i := 5) (v := ?vhy5) rfl (by kernel_rfl) (by kernel_rfl) (by kernel_rfl) (fun _ _ _ h => h) (Or.inl ⟨by rfl, ?hy5⟩) (by assumption) ?rhy5
    case hy5 => ((intro w hSw; (try dsimp only at hSw); go_simp); try with_reducible rfl)
    try simp only [Act.put, List.setIfInBounds_toArray, List.set_cons_zero, List.set_cons_succ]
    refine wpAnyH_takeL (i := 6) (v := ?vhy6) rfl (by kernel_rfl) (by kernel_rfl) (by kernel_rfl) (fun _ _ _ h => h) (Or.inl ⟨by rfl, ?hy6⟩) (by assumption) ?rhy6
    case hy6 => ((intro w hSw; (try dsimp only at hSw); go_simp); try with_reducible rfl)
    try simp only [Act.put, List.setIfInBounds_toArray, List.set_cons_zero, List.set_cons_succ]
    refine wpAnyH_takeL (i := 8) (v := ?vhy7) rfl (by kernel_rfl) (by kernel_rfl) (by kernel_rfl) (fun _ _ _ h => h) (Or.inl ⟨by rfl, ?hy7⟩) (by assumption) ?rhy7
    case hy7 => ((intro w hSw; (try dsimp only at hSw); go_simp); try with_reducible rfl)
    try simp only [Act.put, List.setIfInBounds_toArray, List.set_cons_zero, List.set_cons_succ]
    refine wpAnyH_ready (rs := [7]) (by kernel_rfl) (by simp) ?_
    refine AllReadyH.consL (i := 7) rfl (fun K hK => ?_) AllReadyH.nil
    go_simp
    refine (hnum.out _ _).mono ?_
    rintro e wx ⟨rfl, rfl⟩
    refine hK.out _ _ hHeld (fun hHeld => ?_)
    clear hK
    try simp only [Act.put, List.setIfInBounds_toArray, List.set_cons_zero, List.set_cons_succ]
    refine wpAnyH_takeL (i := 9) (v := ?vhy8) rfl (by kernel_rfl) (by kernel_rfl) (by kernel_rfl) (fun _ _ _ h => h) (Or.inl ⟨by rfl, ?hy8⟩) (by assumption) ?rhy8
    case hy8 => ((intro w hSw; (try dsimp only at hSw); go_simp); try with_reducible rfl)
    try simp only [Act.put, List.setIfInBounds_toArray, List.set_cons_zero, List.set_cons_succ]
    refine wpAnyH_takeL (i := 10) (v := ?vhy9) rfl (by kernel_rfl) (by kernel_rfl) (by kernel_rfl) (fun _ _ _ h => h) (Or.inl ⟨by rfl, ?hy9⟩) (by assumption) ?rhy9
    case hy9 => ((intro w hSw; (try dsimp only at hSw); go_simp); try with_reducible rfl)
    try simp only [Act.put, List.setIfInBounds_toArray, List.set_cons_zero, List.set_cons_succ]
    refine wpAnyH_takeL (i := 11) (v := ?vhy10) rfl (by kernel_rfl) (by kernel_rfl) (by kernel_rfl) (fun _ _ _ h => h) (Or.inl ⟨by rfl, ?hy10⟩) (by assumption) ?rhy10
    case hy10 => ((intro w hSw; (try dsimp only at hSw); go_simp); try with_reducible rfl)
    try simp only [Act.put, List.setIfInBounds_toArray, List.set_cons_zero, List.set_cons_succ]
    refine wpAnyH_ready (rs := [12]) (by kernel_rfl) (by simp) ?_
    refine AllReadyH.consL (i := 12) rfl (fun K hK => ?_) AllReadyH.nil
    go_simp
    refine hK.out _ _ c9'.out (fun hHeld => ?_)
    clear hK
    try simp only [Act.put, List.setIfInBounds_toArray, List.set_cons_zero, List.set_cons_succ]
    refine wpAnyH_takeL (i := 13) (v := ?vhy11) rfl (by kernel_rfl) (by kernel_rfl) (by kernel_rfl) (fun _ _ _ h => h) (Or.inl ⟨by rfl, ?hy11⟩) (by assumption) ?rhy11
    case hy11 => ((intro w hSw; (try dsimp only at hSw); go_simp); try with_reducible rfl)
    try simp only [Act.put, List.setIfInBounds_toArray, List.set_cons_zero, List.set_cons_succ]
    refine wpAnyH_done (by kernel_rfl) ?_ _
    refine NoPanic.normal ?_
    clear hHeld cf cf0
    go_wp2
    refine bodyPost_ret (results_a rfl _ _ rfl rfl rfl cc1.out.1 cc1.out.2) rfl ?_
    exact hpost.out
  · skip
    simp only [Ac.cells] at hX k4 hb2 hL hR hE hx ⊢
    go_enter Tryd.func16, Tryd.ntmps16
    go_upto_region 1 with fail
    generalize (((w.alloc (.cells #[.int .i64 now, .slice A n c] 45)).alloc (.cells [.int .i64 5, .int .i64 x1, .int .i64 x2, .bool x3, .slice x6 x7 x8].toArray 31)).alloc (.cells #[.int .i64 0, .slice none 0 0] 45)) = w2 at *
    have cx := hX.cells
    have c4 := (box_cells k4).1
    go_wp2_with fail
    refine (hra.out _ hR (by have := hb2.size; omega)).mono ?_
    rintro e w3 ⟨v', R1, m1, d1, rfl, hO, hR3, hb3⟩
    clear hra hR k4 c4 cx
    replace hL := hL.below hb3
    replace hE := hE.below hb3
    replace hX := hX.more hb3
    replace hb2 := gr hb2 hb3
    clear hb3
    have hR3s := hR3
    obtain ⟨A', n', c', xs', rfl, -, -⟩ := hR3s
    go_upto_region 12 with fail
    have hba : Below w3.heap.size w3 (w3.alloc (.cells #[.int .i64 now, .slice A' n' c'] 45)) := (Below.refl _ _).alloc (Nat.le_refl _) _
    have k9 := World.alloc_heap_new w3 (.cells #[.int .i64 now, .slice A' n' c'] 45)
    have hz9 : w3.heap.size < (w3.alloc (.cells #[.int .i64 now, .slice A' n' c'] 45)).heap.size := by simp
    have hX3 := hX.size
    replace hR3 := hR3.below hba
    replace hL := hL.below hba
    replace hE := hE.below hba
    replace hX := hX.more hba
    replace hO := hO.below hba
    skip
    replace hb2 := gr hb2 hba
    clear hba
    generalize (w3.alloc (.cells #[.int .i64 now, .slice A' n' c'] 45)) = w4 at *
    generalize w3.heap.size = b9 at *
    have cx := hX.cells
    go_wp2_with fail
    refine (hask.out _ hL hE).mono ?_
    rintro e w5 ⟨R2, m2, d2, rfl, hO2, r', hL5, hN5, hk5⟩
    clear hask cx
    replace hR3 := hR3.kb hL hk5
    replace hX := hX.kb hk5 hB hrr
    replace k9 := (hk5.block b9 (by omega) (by omega) (fun e => by have := hrr _ e.symm; omega)).trans k9
    have hkf : Kb w w5 B r := (Kb.ofBelow hb2).trans hk5
    have hnf : Nw w r r' := fun g hg => by
      rcases hN5 g hg with h | h
      · exact .inl (Nat.le_trans hb2.size h)
      · exact .inr h
    have hO5 := Ov.kbLB hL hk5 hO (by decide) (by decide)
    clear hk5 hN5 hL hb2 hE hz9 hO
    go_upto_region 13 with fail
    refine wp_region_noPanic ?_
    have hd : Below w5.heap.size w5 w5.drew := (Below.refl _ _).drew
    have c9 := (box_cells k9).1
    have hints := Lib.hid (RInts_any R2 m2 d2 is R1 m1 d1 is w5.drew (hO2.rv.below hd) (hO5.rv.below hd))
    clear hO2 hO5
    refine wp_region_held_drew (S := fun W => W.cell? ⟨b9, 0, none⟩ = some (.int .i64 now) ∧ W.cell? ⟨b9, 1, none⟩ = some (.slice A' n' c')) (by kernel_rfl) c9 (fun hHeld => ?_)
    have hii : decide (is = is) = true := by simp
    have hee : (e1 == e1) = true := by simp
    refine wpAnyH_takeL (i := 0) (v := ?vhy12) rfl (by kernel_rfl) (by kernel_rfl) (by kernel_rfl) (fun _ _ _ h => h) (Or.inl ⟨by rfl, ?hy12⟩) (by assumption) ?rhy12
    case hy12 => ((intro w hSw; (try dsimp only at hSw); go_simp); try with_reducible rfl)
    try simp only [Act.put, List.setIfInBounds_toArray, List.set_cons_zero, List.set_cons_succ]
    refine wpAnyH_takeL (i := 1) (v := ?vhy13) rfl (by kernel_rfl) (by kernel_rfl) (by kernel_rfl) (fun _ _ _ h => h) (Or.inl ⟨by rfl, ?hy13⟩) (by assumption) ?rhy13
    case hy13 => ((intro w hSw; (try dsimp only at hSw); go_simp); try with_reducible rfl)
    try simp only [Act.put, List.setIfInBounds_toArray, List.set_cons_zero, List.set_cons_succ]
    refine wpAnyH_takeL (i := 2) (v := ?vhy14) rfl (by kernel_rfl) (by kernel_rfl) (by kernel_rfl) (fun _ _ _ h => h) (Or.inl ⟨by rfl, ?hy14⟩) (by assumption) ?rhy14
    case hy14 => ((intro w hSw; (try dsimp only at hSw); go_simp); try with_reducible rfl)
    try simp only [Act.put, List.setIfInBounds_toArray, List.set_cons_zero, List.set_cons_succ]
    refine wpAnyH_takeL (i := 3) (v := ?vhy15) rfl (by kernel_rfl) (by kernel_rfl) (by kernel_rfl) (fun _ _ _ h => h) (Or.inl ⟨by rfl, ?hy15⟩) (by assumption) ?rhy15
    case hy15 => ((intro w hSw; (try dsimp only at hSw); go_simp); try with_reducible rfl)
    try simp only [Act.put, List.setIfInBounds_toArray, List.set_cons_zero, List.set_cons_succ]
    refine wpAnyH_ready (rs := [4]) (by kernel_rfl) (by simp) ?_
    refine AllReadyH.consL (i := 4) rfl (fun K hK => ?_) AllReadyH.nil
    go_simp
    refine hints.out.mono ?_
    rintro e w6 ⟨rfl, hb6⟩
    replace hb6 := gr hd hb6
    replace k9 := (hb6.block b9 (Array.getElem?_eq_some_iff.1 k9).1).trans k9
    refine hK.out _ _ (box_cells k9).1 (fun hHeld => ?_)
    clear hK hints c9
    have hpost := Lib.hid (ActPost.mk (base := base) (now := now) (hX.more hb6) (hL5.below hb6) (hR3.below hb6) (hkf.trans (Kb.ofBelow hb6)) hnf (.inl rfl))
    have h7 := (hX.more hb6).k7
    have cc := box_cells (heap_set1 (v' := .slice A' n' c') (heap_set0 (u' := .int .i64 now) h7))
    have cc1 := Lib.hid cc.1
    have cf := (box_cells h7).2
    have cf0 := (box_cells h7).1
    have c9' := Lib.hid (show (((w6.setCell ⟨w.heap.size + 2, 0, none⟩ (.int .i64 now)).setCell ⟨w.heap.size + 2, 1, none⟩ (.slice A' n' c')).cell? ⟨b9, 0, none⟩ = some (.int .i64 now) ∧ ((w6.setCell ⟨w.heap.size + 2, 0, none⟩ (.int .i64 now)).setCell ⟨w.heap.size + 2, 1, none⟩ (.slice A' n' c')).cell? ⟨b9, 1, none⟩ = some (.slice A' n' c')) from by
      have hne : b9 ≠ w.heap.size + 2 := by omega
      have g1 := (grownBy_at w6 (w.heap.size + 2) 0 (.int .i64 now)).block b9 (Array.getElem?_eq_some_iff.1 k9).1 (fun e => by injection e with e; exact hne e)
      have g2 := (grownBy_at (w6.setCell ⟨w.heap.size + 2, 0, none⟩ (.int .i64 now)) (w.heap.size + 2) 1 (.slice A' n' c')).block b9 (by have := (Array.getElem?_eq_some_iff.1 k9).1; simpa using this) (fun e => by injection e with e; exact hne e)
      exact (box_cells (g2.trans (g1.trans k9))).1)
    clear cc h7
    clear hX hL5 hR3 hkf hnf hd hb6
    refine wpAnyH_takeL (i := 5) (v := ?vhy16) rfl (by kernel_rfl) (by kernel_rfl) (by kernel_rfl) (fun _ _ _ h => h) (Or.inl ⟨by rfl, ?hy16⟩) (by assumption) ?rhy16
    case hy16 => ((intro w hSw; (try dsimp only at hSw); go_simp); try with_reducible rfl)
    try simp only [Act.put, List.setIfInBounds_toArray, List.set_cons_zero, List.set_cons_succ]
    refine wpAnyH_takeL (i := 6) (v := ?vhy17) rfl (by kernel_rfl) (by kernel_rfl) (by kernel_rfl) (fun _ _ _ h => h) (Or.inl ⟨by rfl, ?hy17⟩) (by assumption) ?rhy17
    case hy17 => ((intro w hSw; (try dsimp only at hSw); go_simp); try with_reducible rfl)
    try simp only [Act.put, List.setIfInBounds_toArray, List.set_cons_zero, List.set_cons_succ]
    refine wpAnyH_takeL (i := 8) (v := ?vhy18) rfl (by kernel_rfl) (by kernel_rfl) (by kernel_rfl) (fun _ _ _ h => h) (Or.inl ⟨by rfl, ?hy18⟩) (by assumption) ?rhy18
    case hy18 => ((intro w hSw; (try dsimp only at hSw); go_simp); try with_reducible rfl)
    try simp only [Act.put, List.setIfInBounds_toArray, List.set_cons_zero, List.set_cons_succ]
    refine wpAnyH_ready (rs := [7]) (by kernel_rfl) (by simp) ?_
    refine AllReadyH.consL (i := 7) rfl (fun K hK => ?_) AllReadyH.nil
    go_simp
    refine (hnum.out _ _).mono ?_
    rintro e wx ⟨rfl, rfl⟩
    refine hK.out _ _ hHeld (fun hHeld => ?_)
    clear hK
    try simp only [Act.put, List.setIfInBounds_toArray, List.set_cons_zero, List.set_cons_succ]
    refine wpAnyH_takeL (i := 9) (v := ?vhy19) rfl (by kernel_rfl) (by kernel_rfl) (by kernel_rfl) (fun _ _ _ h => h) (Or.inl ⟨by rfl, ?hy19⟩) (by assumption) ?rhy19
    case hy19 => ((intro w hSw; (try dsimp only at hSw); go_simp); try with_reducible rfl)
    try simp only [Act.put, List.setIfInBounds_toArray, List.set_cons_zero, List.set_cons_succ]
    refine wpAnyH_takeL (i := 10) (v := ?vhy20) rfl (by kernel_rfl) (by kernel_rfl) (by kernel_rfl) (fun _ _ _ h => h) (Or.inl ⟨by rfl, ?hy20⟩) (by assumption) ?rhy20
    case hy20 => ((intro w hSw; (try dsimp only at hSw); go_simp); try with_reducible rfl)
    try simp only [Act.put, List.setIfInBounds_toArray, List.set_cons_zero, List.set_cons_succ]
    refine wpAnyH_takeL (i := 11) (v := ?vhy21) rfl (by kernel_rfl) (by kernel_rfl) (by kernel_rfl) (fun _ _ _ h => h) (Or.inl ⟨by rfl, ?hy21⟩) (by assumption) ?rhy21
    case hy21 => ((intro w hSw; (try dsimp only at hSw); go_simp); try with_reducible rfl)
    try simp only [Act.put, List.setIfInBounds_toArray, List.set_cons_zero, List.set_cons_succ]
    refine wpAnyH_ready (rs := [12]) (by kernel_rfl) (by simp) ?_
    refine AllReadyH.consL (i := 12) rfl (fun K hK => ?_) AllReadyH.nil
    go_simp
    refine hK.out _ _ c9'.out (fun hHeld => ?_)
    clear hK
    try simp only [Act.put, List.setIfInBounds_toArray, List.set_cons_zero, List.set_cons_succ]
    refine wpAnyH_takeL (i := 13) (v := ?vhy22) rfl (by kernel_rfl) (by kernel_rfl) (by kernel_rfl) (fun _ _ _ h => h) (Or.inl ⟨by rfl, ?hy22⟩) (by assumption) ?rhy22
    case hy22 => ((intro w hSw; (try dsimp only at hSw); go_simp); try with_reducible rfl)
    try simp only [Act.put, List.setIfInBounds_toArray, List.set_cons_zero, List.set_cons_succ]
    refine wpAnyH_done (by kernel_rfl) ?_ _
    refine NoPanic.normal ?_
    clear hHeld cf cf0
    go_wp2
    refine bodyPost_ret (results_a rfl _ _ rfl rfl rfl cc1.out.1 cc1.out.2) rfl ?_
    exact hpost.out
set_option maxRecDepth 100000 in
set_option maxHeartbeats 8000000 in
theorem ActTick_any (hL : LB w base B r now zs) (hR : RB w base v now zs) (hE : Env w) (hz : IZ zs) (h0 : 0 ≤ now) (h1 : now < 1000000) (x : Ac) (hx : Rv w 2 x.A x.n x.c (wcells x.W)) (hw : x.what = 6 ∨ x.what = 7) :
    Calls Tryd.prog 16 #[.pointer (some ⟨B, 0, none⟩), v, .agg x.cells.toArray] w (ActPost w base B r now (now + 1) (tickF now zs).1) := by
  have hRs := hR
  obtain ⟨A, n, c, xs, rfl, -, -⟩ := hRs
  have hB := hL.lt.2
  have hrr : ∀ g, r = some g → g < w.heap.size := fun g hg => (hL.row g hg).2
  have hbs : base ≤ w.heap.size := Nat.le_of_lt (Nat.lt_of_le_of_lt hL.lt.1 hB)
  have hX0 : XA w (((w.alloc (.cells #[.int .i64 now, .slice A n c] 45)).alloc (.cells x.cells.toArray 31)).alloc (.cells #[.int .i64 0, .slice none 0 0] 45)) x ∧ (((w.alloc (.cells #[.int .i64 now, .slice A n c] 45)).alloc (.cells x.cells.toArray 31)).alloc (.cells #[.int .i64 0, .slice none 0 0] 45)).heap[w.heap.size]? = some (.cells #[.int .i64 now, .slice A n c] 45 (0, 0)) := by
    have h1 := World.alloc_heap_new w (.cells #[.int .i64 now, .slice A n c] 45)
    have h2 := World.alloc_heap_new (w.alloc (.cells #[.int .i64 now, .slice A n c] 45)) (.cells x.cells.toArray 31)
    have h3 := World.alloc_heap_new ((w.alloc (.cells #[.int .i64 now, .slice A n c] 45)).alloc (.cells x.cells.toArray 31)) (.cells #[.int .i64 0, .slice none 0 0] 45)
    have b2 : Below (w.alloc (.cells #[.int .i64 now, .slice A n c] 45)).heap.size (w.alloc (.cells #[.int .i64 now, .slice A n c] 45)) ((w.alloc (.cells #[.int .i64 now, .slice A n c] 45)).alloc (.cells x.cells.toArray 31)) := (Below.refl _ _).alloc (Nat.le_refl _) _
    have b3 : Below ((w.alloc (.cells #[.int .i64 now, .slice A n c] 45)).alloc (.cells x.cells.toArray 31)).heap.size ((w.alloc (.cells #[.int .i64 now, .slice A n c] 45)).alloc (.cells x.cells.toArray 31)) (((w.alloc (.cells #[.int .i64 now, .slice A n c] 45)).alloc (.cells x.cells.toArray 31)).alloc (.cells #[.int .i64 0, .slice none 0 0] 45)) := (Below.refl _ _).alloc (Nat.le_refl _) _
    rw [World.size_alloc] at h2
    rw [World.size_alloc, World.size_alloc] at h3
    refine ⟨⟨(b3.block _ (by simp)).trans h2, h3, by simp⟩, (b3.block _ (by simp; omega)).trans ((b2.block _ (by simp)).trans h1)⟩
  have hb2 : Below w.heap.size w (((w.alloc (.cells #[.int .i64 now, .slice A n c] 45)).alloc (.cells x.cells.toArray 31)).alloc (.cells #[.int .i64 0, .slice none 0 0] 45)) := gr_alloc (gr_alloc (gr_alloc (Below.refl _ _) _) _) _
  obtain ⟨hX, k4⟩ := hX0
  replace hL := hL.below hb2
  replace hR := hR.below hb2
  replace hE := hE.below hb2
  replace hx := Rv.below hx hb2
  obtain ⟨x0, x1, x2, x3, x5, x6, x7, x8⟩ := x
  simp only at hw hx ⊢
  have hra := Lib.hid (fun W (h : RB W base (.agg #[.int .i64 now, .slice A n c]) now zs) (h2 : base ≤ W.heap.size) => RTick_B h h2 hz h0 h1)
  have hask := Lib.hid (fun W (h : LB W base B r now zs) => Tick_B h hz h0 h1)
  generalize tickF now zs = q at *
  obtain ⟨zs', is, js⟩ := q
  simp only at hra hask ⊢
  clear h0 h1
  rcases hw with rfl | rfl
  · skip
    simp only [Ac.cells] at hX k4 hb2 hL hR hE hx ⊢
    go_enter Tryd.func16, Tryd.ntmps16
    go_upto_region 1 with fail
    generalize (((w.alloc (.cells #[.int .i64 now, .slice A n c] 45)).alloc (.cells [.int .i64 6, .int .i64 x1, .int .i64 x2, .bool x3, .slice x6 x7 x8].toArray 31)).alloc (.cells #[.int .i64 0, .slice none 0 0] 45)) = w2 at *
    have cx := hX.cells
    have c4 := (box_cells k4).1
    go_wp2_with fail
    refine (hra.out _ hR (by have := hb2.size; omega)).mono ?_
    rintro e w3 ⟨v', R1, m1, d1, R3, m3, d3, rfl, hO, hO3, hR3, hb3⟩
    clear hra hR k4 c4 cx
    replace hL := hL.below hb3
    replace hE := hE.below hb3
    replace hX := hX.more hb3
    replace hb2 := gr hb2 hb3
    clear hb3
    have hR3s := hR3
    obtain ⟨A', n', c', xs', rfl, -, -⟩ := hR3s
    go_upto_region 17 with fail
    have hba : Below w3.heap.size w3 (w3.alloc (.cells #[.int .i64 (now + 1), .slice A' n' c'] 45)) := (Below.refl _ _).alloc (Nat.le_refl _) _
    have k9 := World.alloc_heap_new w3 (.cells #[.int .i64 (now + 1), .slice A' n' c'] 45)
    have hz9 : w3.heap.size < (w3.alloc (.cells #[.int .i64 (now + 1), .slice A' n' c'] 45)).heap.size := by simp
    have hX3 := hX.size
    replace hR3 := hR3.below hba
    replace hL := hL.below hba
    replace hE := hE.below hba
    replace hX := hX.more hba
    replace hO := hO.below hba
    replace hO3 := hO3.below hba
    replace hb2 := gr hb2 hba
    clear hba
    generalize (w3.alloc (.cells #[.int .i64 (now + 1), .slice A' n' c'] 45)) = w4 at *
    generalize w3.heap.size = b9 at *
    have cx := hX.cells
    go_wp2_with fail
    refine (hask.out _ hL).mono ?_
    rintro e w5 ⟨R2, m2, d2, R4, m4, d4, rfl, hO2, hO4, r', hL5, hN5, hk5⟩
    clear hask cx
    replace hR3 := hR3.kb hL hk5
    replace hX := hX.kb hk5 hB hrr
    replace k9 := (hk5.block b9 (by omega) (by omega) (fun e => by have := hrr _ e.symm; omega)).trans k9
    have hkf : Kb w w5 B r := (Kb.ofBelow hb2).trans hk5
    have hnf : Nw w r r' := fun g hg => by
      rcases hN5 g hg with h | h
      · exact .inl (Nat.le_trans hb2.size h)
      · exact .inr h
    have hO5 := Ov.kbLB hL hk5 hO (by decide) (by decide)
    have hO6 := Ov.kbLB hL hk5 hO3 (by decide) (by decide)
    clear hk5 hN5 hL hb2 hE hz9 hO hO3
    go_upto_region 18 with fail
    refine wp_region_noPanic ?_
    have hd : Below w5.heap.size w5 w5.drew := (Below.refl _ _).drew
    have c9 := (box_cells k9).1
    have hints := Lib.hid (fun W (hW : Below w5.heap.size w5 W) => RInts_any R2 m2 d2 is R1 m1 d1 is W (hO2.below hW) (hO5.rv.below hW))
    have hints2 := Lib.hid (fun W (hW : Below w5.heap.size w5 W) => RInts_any R4 m4 d4 js R3 m3 d3 js W (hO4.below hW) (hO6.rv.below hW))
    clear hO2 hO5 hO4 hO6
    refine wp_region_held_drew (S := fun W => W.cell? ⟨b9, 0, none⟩ = some (.int .i64 (now + 1)) ∧ W.cell? ⟨b9, 1, none⟩ = some (.slice A' n' c')) (by kernel_rfl) c9 (fun hHeld => ?_)
    have hii : decide (is = is) = true := by simp
    have hjj : decide (js = js) = true := by simp
    refine wpAnyH_takeL (i := 0) (v := ?vhy23) rfl (by kernel_rfl) (by kernel_rfl) (by kernel_rfl) (fun _ _ _ h => h) (Or.inl ⟨by rfl, ?hy23⟩) (by assumption) ?rhy23
    case hy23 => ((intro w hSw; (try dsimp only at hSw); go_simp); try with_reducible rfl)
    try simp only [Act.put, List.setIfInBounds_toArray, List.set_cons_zero, List.set_cons_succ]
    refine wpAnyH_takeL (i := 1) (v := ?vhy24) rfl (by kernel_rfl) (by kernel_rfl) (by kernel_rfl) (fun _ _ _ h => h) (Or.inl ⟨by rfl, ?hy24⟩) (by assumption) ?rhy24
    case hy24 => ((intro w hSw; (try dsimp only at hSw); go_simp); try with_reducible rfl)
    try simp only [Act.put, List.setIfInBounds_toArray, List.set_cons_zero, List.set_cons_succ]
    refine wpAnyH_takeL (i := 2) (v := ?vhy25) rfl (by kernel_rfl) (by kernel_rfl) (by kernel_rfl) (fun _ _ _ h => h) (Or.inl ⟨by rfl, ?hy25⟩) (by assumption) ?rhy25
    case hy25 => ((intro w hSw; (try dsimp only at hSw); go_simp); try with_reducible rfl)
    try simp only [Act.put, List.setIfInBounds_toArray, List.set_cons_zero, List.set_cons_succ]
    refine wpAnyH_takeL (i := 3) (v := ?vhy26) rfl (by kernel_rfl) (by kernel_rfl) (by kernel_rfl) (fun _ _ _ h => h) (Or.inl ⟨by rfl, ?hy26⟩) (by assumption) ?rhy26
    case hy26 => ((intro w hSw; (try dsimp only at hSw); go_simp); try with_reducible rfl)
    try simp only [Act.put, List.setIfInBounds_toArray, List.set_cons_zero, List.set_cons_succ]
    refine wpAnyH_ready (rs := [4]) (by kernel_rfl) (by simp) ?_
    refine AllReadyH.consL (i := 4) rfl (fun K hK => ?_) AllReadyH.nil
    go_simp
    refine (hints.out _ hd).mono ?_
    rintro e w6 ⟨rfl, hb6⟩
    replace hb6 := gr hd hb6
    replace k9 := (hb6.block b9 (Array.getElem?_eq_some_iff.1 k9).1).trans k9
    refine hK.out _ _ (box_cells k9).1 (fun hHeld => ?_)
    clear hK hints c9
    refine wpAnyH_takeL (i := 5) (v := ?vhy27) rfl (by kernel_rfl) (by kernel_rfl) (by kernel_rfl) (fun _ _ _ h => h) (Or.inl ⟨by rfl, ?hy27⟩) (by assumption) ?rhy27
    case hy27 => ((intro w hSw; (try dsimp only at hSw); go_simp); try with_reducible rfl)
    try simp only [Act.put, List.setIfInBounds_toArray, List.set_cons_zero, List.set_cons_succ]
    refine wpAnyH_takeL (i := 6) (v := ?vhy28) rfl (by kernel_rfl) (by kernel_rfl) (by kernel_rfl) (fun _ _ _ h => h) (Or.inl ⟨by rfl, ?hy28⟩) (by assumption) ?rhy28
    case hy28 => ((intro w hSw; (try dsimp only at hSw); go_simp); try with_reducible rfl)
    try simp only [Act.put, List.setIfInBounds_toArray, List.set_cons_zero, List.set_cons_succ]
    refine wpAnyH_takeL (i := 7) (v := ?vhy29) rfl (by kernel_rfl) (by kernel_rfl) (by kernel_rfl) (fun _ _ _ h => h) (Or.inl ⟨by rfl, ?hy29⟩) (by assumption) ?rhy29
    case hy29 => ((intro w hSw; (try dsimp only at hSw); go_simp); try with_reducible rfl)
    try simp only [Act.put, List.setIfInBounds_toArray, List.set_cons_zero, List.set_cons_succ]
    refine wpAnyH_ready (rs := [8]) (by kernel_rfl) (by simp) ?_
    refine AllReadyH.consL (i := 8) rfl (fun K hK => ?_) AllReadyH.nil
    go_simp
    refine (hints2.out _ hb6).mono ?_
    rintro e w7 ⟨rfl, hb7⟩
    replace k9 := (hb7.block b9 (Array.getElem?_eq_some_iff.1 k9).1).trans k9
    replace hb7 := gr hb6 hb7
    refine hK.out _ _ (box_cells k9).1 (fun hHeld => ?_)
    clear hK hints2 hb6
    have hpost := Lib.hid (ActPost.mk (base := base) (now := now) (hX.more hb7) (hL5.below hb7) (hR3.below hb7) (hkf.trans (Kb.ofBelow hb7)) hnf (.inl rfl))
    have h7 := (hX.more hb7).k7
    have cc := box_cells (heap_set1 (v' := .slice A' n' c') (heap_set0 (u' := .int .i64 (now + 1)) h7))
    have cc1 := Lib.hid cc.1
    have cf := (box_cells h7).2
    have cf0 := (box_cells h7).1
    have c9' := Lib.hid (show (((w7.setCell ⟨w.heap.size + 2, 0, none⟩ (.int .i64 (now + 1))).setCell ⟨w.heap.size + 2, 1, none⟩ (.slice A' n' c')).cell? ⟨b9, 0, none⟩ = some (.int .i64 (now + 1)) ∧ ((w7.setCell ⟨w.heap.size + 2, 0, none⟩ (.int .i64 (now + 1))).setCell ⟨w.heap.size + 2, 1, none⟩ (.slice A' n' c')).cell? ⟨b9, 1, none⟩ = some (.slice A' n' c')) from by
      have hne : b9 ≠ w.heap.size + 2 := by omega
      have g1 := (grownBy_at w7 (w.heap.size + 2) 0 (.int .i64 (now + 1))).block b9 (Array.getElem?_eq_some_iff.1 k9).1 (fun e => by injection e with e; exact hne e)
      have g2 := (grownBy_at (w7.setCell ⟨w.heap.size + 2, 0, none⟩ (.int .i64 (now + 1))) (w.heap.size + 2) 1 (.slice A' n' c')).block b9 (by have := (Array.getElem?_eq_some_iff.1 k9).1; simpa using this) (fun e => by injection e with e; exact hne e)
      exact (box_cells (g2.trans (g1.trans k9))).1)
    clear cc h7
    clear hX hL5 hR3 hkf hnf hd hb7
    refine wpAnyH_takeL (i := 9) (v := ?vhy30) rfl (by kernel_rfl) (by kernel_rfl) (by kernel_rfl) (fun _ _ _ h => h) (Or.inl ⟨by rfl, ?hy30⟩) (by assumption) ?rhy30
    case hy30 => ((intro w hSw; (try dsimp only at hSw); go_simp); try with_reducible rfl)
    try simp only [Act.put, List.setIfInBounds_toArray, List.set_cons_zero, List.set_cons_succ]
    refine wpAnyH_takeL (i := 10) (v := ?vhy31) rfl (by kernel_rfl) (by kernel_rfl) (by kernel_rfl) (fun _ _ _ h => h) (Or.inl ⟨by rfl, ?hy31⟩) (by assumption) ?rhy31
    case hy31 => ((intro w hSw; (try dsimp only at hSw); go_simp); try with_reducible rfl)
    try simp only [Act.put, List.setIfInBounds_toArray, List.set_cons_zero, List.set_cons_succ]
    refine wpAnyH_ready (rs := [11]) (by kernel_rfl) (by simp) ?_
    refine AllReadyH.consL (i := 11) rfl (fun K hK => ?_) AllReadyH.nil
    go_simp
    refine hK.out _ _ c9'.out (fun hHeld => ?_)
    clear hK
    try simp only [Act.put, List.setIfInBounds_toArray, List.set_cons_zero, List.set_cons_succ]
    refine wpAnyH_takeL (i := 12) (v := ?vhy32) rfl (by kernel_rfl) (by kernel_rfl) (by kernel_rfl) (fun _ _ _ h => h) (Or.inl ⟨by rfl, ?hy32⟩) (by assumption) ?rhy32
    case hy32 => ((intro w hSw; (try dsimp only at hSw); go_simp); try with_reducible rfl)
    try simp only [Act.put, List.setIfInBounds_toArray, List.set_cons_zero, List.set_cons_succ]
    refine wpAnyH_done (by kernel_rfl) ?_ _
    refine NoPanic.normal ?_
    clear hHeld cf cf0
    go_wp2
    refine bodyPost_ret (results_a rfl _ _ rfl rfl rfl cc1.out.1 cc1.out.2) rfl ?_
    exact hpost.out
  · skip
    simp only [Ac.cells] at hX k4 hb2 hL hR hE hx ⊢
    go_enter Tryd.func16, Tryd.ntmps16
    go_upto_region 1 with fail
    generalize (((w.alloc (.cells #[.int .i64 now, .slice A n c] 45)).alloc (.cells [.int .i64 7, .int .i64 x1, .int .i64 x2, .bool x3, .slice x6 x7 x8].toArray 31)).alloc (.cells #[.int .i64 0, .slice none 0 0] 45)) = w2 at *
    have cx := hX.cells
    have c4 := (box_cells k4).1
    go_wp2_with fail
    refine (hra.out _ hR (by have := hb2.size; omega)).mono ?_
    rintro e w3 ⟨v', R1, m1, d1, R3, m3, d3, rfl, hO, hO3, hR3, hb3⟩
    clear hra hR k4 c4 cx
    replace hL := hL.below hb3
    replace hE := hE.below hb3
    replace hX := hX.more hb3
    replace hb2 := gr hb2 hb3
    clear hb3
    have hR3s := hR3
    obtain ⟨A', n', c', xs', rfl, -, -⟩ := hR3s
    go_upto_region 17 with fail
    have hba : Below w3.heap.size w3 (w3.alloc (.cells #[.int .i64 (now + 1), .slice A' n' c'] 45)) := (Below.refl _ _).alloc (Nat.le_refl _) _
    have k9 := World.alloc_heap_new w3 (.cells #[.int .i64 (now + 1), .slice A' n' c'] 45)
    have hz9 : w3.heap.size < (w3.alloc (.cells #[.int .i64 (now + 1), .slice A' n' c'] 45)).heap.size := by simp
    have hX3 := hX.size
    replace hR3 := hR3.below hba
    replace hL := hL.below hba
    replace hE := hE.below hba
    replace hX := hX.more hba
    replace hO := hO.below hba
    replace hO3 := hO3.below hba
    replace hb2 := gr hb2 hba
    clear hba
    generalize (w3.alloc (.cells #[.int .i64 (now + 1), .slice A' n' c'] 45)) = w4 at *
    generalize w3.heap.size = b9 at *
    have cx := hX.cells
    go_wp2_with fail
    refine (hask.out _ hL).mono ?_
    rintro e w5 ⟨R2, m2, d2, R4, m4, d4, rfl, hO2, hO4, r', hL5, hN5, hk5⟩
    clear hask cx
    replace hR3 := hR3.kb hL hk5
    replace hX := hX.kb hk5 hB hrr
    replace k9 := (hk5.block b9 (by omega) (by omega) (fun e => by have := hrr _ e.symm; omega)).trans k9
    have hkf : Kb w w5 B r := (Kb.ofBelow hb2).trans hk5
    have hnf : Nw w r r' := fun g hg => by
      rcases hN5 g hg with h | h
      · exact .inl (Nat.le_trans hb2.size h)
      · exact .inr h
    have hO5 := Ov.kbLB hL hk5 hO (by decide) (by decide)
    have hO6 := Ov.kbLB hL hk5 hO3 (by decide) (by decide)
    clear hk5 hN5 hL hb2 hE hz9 hO hO3
    go_upto_region 18 with fail
    refine wp_region_noPanic ?_
    have hd : Below w5.heap.size w5 w5.drew := (Below.refl _ _).drew
    have c9 := (box_cells k9).1
    have hints := Lib.hid (fun W (hW : Below w5.heap.size w5 W) => RInts_any R2 m2 d2 is R1 m1 d1 is W (hO2.below hW) (hO5.rv.below hW))
    have hints2 := Lib.hid (fun W (hW : Below w5.heap.size w5 W) => RInts_any R4 m4 d4 js R3 m3 d3 js W (hO4.below hW) (hO6.rv.below hW))
    clear hO2 hO5 hO4 hO6
    refine wp_region_held_drew (S := fun W => W.cell? ⟨b9, 0, none⟩ = some (.int .i64 (now + 1)) ∧ W.cell? ⟨b9, 1, none⟩ = some (.slice A' n' c')) (by kernel_rfl) c9 (fun hHeld => ?_)
    have hii : decide (is = is) = true := by simp
    have hjj : decide (js = js) = true := by simp
    refine wpAnyH_takeL (i := 0) (v := ?vhy33) rfl (by kernel_rfl) (by kernel_rfl) (by kernel_rfl) (fun _ _ _ h => h) (Or.inl ⟨by rfl, ?hy33⟩) (by assumption) ?rhy33
    case hy33 => ((intro w hSw; (try dsimp only at hSw); go_simp); try with_reducible rfl)
    try simp only [Act.put, List.setIfInBounds_toArray, List.set_cons_zero, List.set_cons_succ]
    refine wpAnyH_takeL (i := 1) (v := ?vhy34) rfl (by kernel_rfl) (by kernel_rfl) (by kernel_rfl) (fun _ _ _ h => h) (Or.inl ⟨by rfl, ?hy34⟩) (by assumption) ?rhy34
    case hy34 => ((intro w hSw; (try dsimp only at hSw); go_simp); try with_reducible rfl)
    try simp only [Act.put, List.setIfInBounds_toArray, List.set_cons_zero, List.set_cons_succ]
    refine wpAnyH_takeL (i := 2) (v := ?vhy35) rfl (by kernel_rfl) (by kernel_rfl) (by kernel_rfl) (fun _ _ _ h => h) (Or.inl ⟨by rfl, ?hy35⟩) (by assumption) ?rhy35
    case hy35 => ((intro w hSw; (try dsimp only at hSw); go_simp); try with_reducible rfl)
    try simp only [Act.put, List.setIfInBounds_toArray, List.set_cons_zero, List.set_cons_succ]
    refine wpAnyH_takeL (i := 3) (v := ?vhy36) rfl (by kernel_rfl) (by kernel_rfl) (by kernel_rfl) (fun _ _ _ h => h) (Or.inl ⟨by rfl, ?hy36⟩) (by assumption) ?rhy36
    case hy36 => ((intro w hSw; (try dsimp only at hSw); go_simp); try with_reducible rfl)
    try simp only [Act.put, List.setIfInBounds_toArray, List.set_cons_zero, List.set_cons_succ]
    refine wpAnyH_ready (rs := [4]) (by kernel_rfl) (by simp) ?_
    refine AllReadyH.consL (i := 4) rfl (fun K hK => ?_) AllReadyH.nil
    go_simp
    refine (hints.out _ hd).mono ?_
    rintro e w6 ⟨rfl, hb6⟩
    replace hb6 := gr hd hb6
    replace k9 := (hb6.block b9 (Array.getElem?_eq_some_iff.1 k9).1).trans k9
    refine hK.out _ _ (box_cells k9).1 (fun hHeld => ?_)
    clear hK hints c9
    refine wpAnyH_takeL (i := 5) (v := ?vhy37) rfl (by kernel_rfl) (by kernel_rfl) (by kernel_rfl) (fun _ _ _ h => h) (Or.inl ⟨by rfl, ?hy37⟩) (by assumption) ?rhy37
    case hy37 => ((intro w hSw; (try dsimp only at hSw); go_simp); try with_reducible rfl)
    try simp only [Act.put, List.setIfInBounds_toArray, List.set_cons_zero, List.set_cons_succ]
    refine wpAnyH_takeL (i := 6) (v := ?vhy38) rfl (by kernel_rfl) (by kernel_rfl) (by kernel_rfl) (fun _ _ _ h => h) (Or.inl ⟨by rfl, ?hy38⟩) (by assumption) ?rhy38
    case hy38 => ((intro w hSw; (try dsimp only at hSw); go_simp); try with_reducible rfl)
    try simp only [Act.put, List.setIfInBounds_toArray, List.set_cons_zero, List.set_cons_succ]
    refine wpAnyH_takeL (i := 7) (v := ?vhy39) rfl (by kernel_rfl) (by kernel_rfl) (by kernel_rfl) (fun _ _ _ h => h) (Or.inl ⟨by rfl, ?hy39⟩) (by assumption) ?rhy39
    case hy39 => ((intro w hSw; (try dsimp only at hSw); go_simp); try with_reducible rfl)
    try simp only [Act.put, List.setIfInBounds_toArray, List.set_cons_zero, List.set_cons_succ]
    refine wpAnyH_ready (rs := [8]) (by kernel_rfl) (by simp) ?_
    refine AllReadyH.consL (i := 8) rfl (fun K hK => ?_) AllReadyH.nil
    go_simp
    refine (hints2.out _ hb6).mono ?_
    rintro e w7 ⟨rfl, hb7⟩
    replace k9 := (hb7.block b9 (Array.getElem?_eq_some_iff.1 k9).1).trans k9
    replace hb7 := gr hb6 hb7
    refine hK.out _ _ (box_cells k9).1 (fun hHeld => ?_)
    clear hK hints2 hb6
    have hpost := Lib.hid (ActPost.mk (base := base) (now := now) (hX.more hb7) (hL5.below hb7) (hR3.below hb7) (hkf.trans (Kb.ofBelow hb7)) hnf (.inl rfl))
    have h7 := (hX.more hb7).k7
    have cc := box_cells (heap_set1 (v' := .slice A' n' c') (heap_set0 (u' := .int .i64 (now + 1)) h7))
    have cc1 := Lib.hid cc.1
    have cf := (box_cells h7).2
    have cf0 := (box_cells h7).1
    have c9' := Lib.hid (show (((w7.setCell ⟨w.heap.size + 2, 0, none⟩ (.int .i64 (now + 1))).setCell ⟨w.heap.size + 2, 1, none⟩ (.slice A' n' c')).cell? ⟨b9, 0, none⟩ = some (.int .i64 (now + 1)) ∧ ((w7.setCell ⟨w.heap.size + 2, 0, none⟩ (.int .i64 (now + 1))).setCell ⟨w.heap.size + 2, 1, none⟩ (.slice A' n' c')).cell? ⟨b9, 1, none⟩ = some (.slice A' n' c')) from by
      have hne : b9 ≠ w.heap.size + 2 := by omega
      have g1 := (grownBy_at w7 (w.heap.size + 2) 0 (.int .i64 (now + 1))).block b9 (Array.getElem?_eq_some_iff.1 k9).1 (fun e => by injection e with e; exact hne e)
      have g2 := (grownBy_at (w7.setCell ⟨w.heap.size + 2, 0, none⟩ (.int .i64 (now + 1))) (w.heap.size + 2) 1 (.slice A' n' c')).block b9 (by have := (Array.getElem?_eq_some_iff.1 k9).1; simpa using this) (fun e => by injection e with e; exact hne e)
      exact (box_cells (g2.trans (g1.trans k9))).1)
    clear cc h7
    clear hX hL5 hR3 hkf hnf hd hb7
    refine wpAnyH_takeL (i := 9) (v := ?vhy40) rfl (by kernel_rfl) (by kernel_rfl) (by kernel_rfl) (fun _ _ _ h => h) (Or.inl ⟨by rfl, ?hy40⟩) (by assumption) ?rhy40
    case hy40 => ((intro w hSw; (try dsimp only at hSw); go_simp); try with_reducible rfl)
    try simp only [Act.put, List.setIfInBounds_toArray, List.set_cons_zero, List.set_cons_succ]
    refine wpAnyH_takeL (i := 10) (v := ?vhy41) rfl (by kernel_rfl) (by kernel_rfl) (by kernel_rfl) (fun _ _ _ h => h) (Or.inl ⟨by rfl, ?hy41⟩) (by assumption) ?rhy41
    case hy41 => ((intro w hSw; (try dsimp only at hSw); go_simp); try with_reducible rfl)
    try simp only [Act.put, List.setIfInBounds_toArray, List.set_cons_zero, List.set_cons_succ]
    refine wpAnyH_ready (rs := [11]) (by kernel_rfl) (by simp) ?_
    refine AllReadyH.consL (i := 11) rfl (fun K hK => ?_) AllReadyH.nil
    go_simp
    refine hK.out _ _ c9'.out (fun hHeld => ?_)
    clear hK
    try simp only [Act.put, List.setIfInBounds_toArray, List.set_cons_zero, List.set_cons_succ]
    refine wpAnyH_takeL (i := 12) (v := ?vhy42) rfl (by kernel_rfl) (by kernel_rfl) (by kernel_rfl) (fun _ _ _ h => h) (Or.inl ⟨by rfl, ?hy42⟩) (by assumption) ?rhy42
    case hy42 => ((intro w hSw; (try dsimp only at hSw); go_simp); try with_reducible rfl)
    try simp only [Act.put, List.setIfInBounds_toArray, List.set_cons_zero, List.set_cons_succ]
    refine wpAnyH_done (by kernel_rfl) ?_ _
    refine NoPanic.normal ?_
    clear hHeld cf cf0
    go_wp2
    refine bodyPost_ret (results_a rfl _ _ rfl rfl rfl cc1.out.1 cc1.out.2) rfl ?_
    exact hpost.out
set_option maxRecDepth 100000 in
set_option maxHeartbeats 8000000 in
theorem ActCopy_any (hL : LB w base B r now zs) (hR : RB w base v now zs) (hE : Env w) (hz : IZ zs) (x : Ac) (hx : Rv w 2 x.A x.n x.c (wcells x.W)) (hw : ¬ (0 ≤ x.what ∧ x.what ≤ 7)) :
    Calls Tryd.prog 16 #[.pointer (some ⟨B, 0, none⟩), v, .agg x.cells.toArray] w (ActPost w base B r now now zs) := by
  have hRs := hR
  obtain ⟨A, n, c, xs, rfl, -, -⟩ := hRs
  have hB := hL.lt.2
  have hrr : ∀ g, r = some g → g < w.heap.size := fun g hg => (hL.row g hg).2
  have hbs : base ≤ w.heap.size := Nat.le_of_lt (Nat.lt_of_le_of_lt hL.lt.1 hB)
  have hX0 : XA w (((w.alloc (.cells #[.int .i64 now, .slice A n c] 45)).alloc (.cells x.cells.toArray 31)).alloc (.cells #[.int .i64 0, .slice none 0 0] 45)) x ∧ (((w.alloc (.cells #[.int .i64 now, .slice A n c] 45)).alloc (.cells x.cells.toArray 31)).alloc (.cells #[.int .i64 0, .slice none 0 0] 45)).heap[w.heap.size]? = some (.cells #[.int .i64 now, .slice A n c] 45 (0, 0)) := by
    have h1 := World.alloc_heap_new w (.cells #[.int .i64 now, .slice A n c] 45)
    have h2 := World.alloc_heap_new (w.alloc (.cells #[.int .i64 now, .slice A n c] 45)) (.cells x.cells.toArray 31)
    have h3 := World.alloc_heap_new ((w.alloc (.cells #[.int .i64 now, .slice A n c] 45)).alloc (.cells x.cells.toArray 31)) (.cells #[.int .i64 0, .slice none 0 0] 45)
    have b2 : Below (w.alloc (.cells #[.int .i64 now, .slice A n c] 45)).heap.size (w.alloc (.cells #[.int .i64 now, .slice A n c] 45)) ((w.alloc (.cells #[.int .i64 now, .slice A n c] 45)).alloc (.cells x.cells.toArray 31)) := (Below.refl _ _).alloc (Nat.le_refl _) _
    have b3 : Below ((w.alloc (.cells #[.int .i64 now, .slice A n c] 45)).alloc (.cells x.cells.toArray 31)).heap.size ((w.alloc (.cells #[.int .i64 now, .slice A n c] 45)).alloc (.cells x.cells.toArray 31)) (((w.alloc (.cells #[.int .i64 now, .slice A n c] 45)).alloc (.cells x.cells.toArray 31)).alloc (.cells #[.int .i64 0, .slice none 0 0] 45)) := (Below.refl _ _).alloc (Nat.le_refl _) _
    rw [World.size_alloc] at h2
    rw [World.size_alloc, World.size_alloc] at h3
    refine ⟨⟨(b3.block _ (by simp)).trans h2, h3, by simp⟩, (b3.block _ (by simp; omega)).trans ((b2.block _ (by simp)).trans h1)⟩
  have hb2 : Below w.heap.size w (((w.alloc (.cells #[.int .i64 now, .slice A n c] 45)).alloc (.cells x.cells.toArray 31)).alloc (.cells #[.int .i64 0, .slice none 0 0] 45)) := gr_alloc (gr_alloc (gr_alloc (Below.refl _ _) _) _) _
  obtain ⟨hX, k4⟩ := hX0
  replace hL := hL.below hb2
  replace hR := hR.below hb2
  replace hE := hE.below hb2
  replace hx := Rv.below hx hb2
  obtain ⟨x0, x1, x2, x3, x5, x6, x7, x8⟩ := x
  simp only at hw hx ⊢
  have hcp := Lib.hid (fun W (h : LB W base B r now zs) => Copy_B h hz)
  have d0 : (x0 == 0) = false := by simp; omega
  have d1 : (x0 == 1) = false := by simp; omega
  have d2 : (x0 == 2) = false := by simp; omega
  have d3 : (x0 == 3) = false := by simp; omega
  have d4 : (x0 == 4) = false := by simp; omega
  have d5 : (x0 == 5) = false := by simp; omega
  have d6 : (x0 == 6) = false := by simp; omega
  have d7 : (x0 == 7) = false := by simp; omega
  clear hw
  simp only [Ac.cells] at hX k4 hb2 hL hR hE hx ⊢
  go_enter Tryd.func16, Tryd.ntmps16
  go_upto_region 1 with fail
  generalize (((w.alloc (.cells #[.int .i64 now, .slice A n c] 45)).alloc (.cells [.int .i64 x0, .int .i64 x1, .int .i64 x2, .bool x3, .slice x6 x7 x8].toArray 31)).alloc (.cells #[.int .i64 0, .slice none 0 0] 45)) = w2 at *
  have cx := hX.cells
  go_upto_region 19 with fail
  refine wp_region_noPanic ?_
  have hd : Below w2.heap.size w2 w2.drew := (Below.refl _ _).drew
  have c4 := (box_cells k4).1
  refine wp_region_held_drew (S := fun W => W.cell? ⟨w.heap.size, 0, none⟩ = some (.int .i64 now) ∧ W.cell? ⟨w.heap.size, 1, none⟩ = some (.slice A n c)) (by kernel_rfl) c4 (fun hHeld => ?_)
  refine wpAnyH_takeL (i := 0) (v := ?vhy43) rfl (by kernel_rfl) (by kernel_rfl) (by kernel_rfl) (fun _ _ _ h => h) (Or.inl ⟨by rfl, ?hy43⟩) (by assumption) ?rhy43
  case hy43 => ((intro w hSw; (try dsimp only at hSw); go_simp); try with_reducible rfl)
  try simp only [Act.put, List.setIfInBounds_toArray, List.set_cons_zero, List.set_cons_succ]
  refine wpAnyH_takeL (i := 2) (v := ?vhy44) rfl (by kernel_rfl) (by kernel_rfl) (by kernel_rfl) (fun _ _ _ h => h) (Or.inl ⟨by rfl, ?hy44⟩) (by assumption) ?rhy44
  case hy44 => ((intro w hSw; (try dsimp only at hSw); go_simp); try with_reducible rfl)
  try simp only [Act.put, List.setIfInBounds_toArray, List.set_cons_zero, List.set_cons_succ]
  refine wpAnyH_ready (rs := [1]) (by kernel_rfl) (by simp) ?_
  refine AllReadyH.consL (i := 1) rfl (fun K hK => ?_) AllReadyH.nil
  go_simp
  refine (hcp.out _ (hL.below hd)).mono ?_
  rintro e w6 ⟨B', r', rfl, hL6, hB6, hr6, hb6⟩
  replace hb6 := gr hd hb6
  replace k4 := (hb6.block w.heap.size (by have := hX.size; omega)).trans k4
  refine hK.out _ _ (box_cells k4).1 (fun hHeld => ?_)
  clear hK c4
  try simp only [Act.put, List.setIfInBounds_toArray, List.set_cons_zero, List.set_cons_succ]
  have hB7 : B' = B ∨ w.heap.size ≤ B' := .inr (Nat.le_trans hb2.size hB6)
  have hN7 : Nw w r r' := fun g hg => .inl (Nat.le_trans hb2.size (hr6 g hg))
  have hk7 : Kb w w6 B r := Kb.ofBelow (gr hb2 hb6)
  have hpost := Lib.hid (ActPost.mk (base := base) (now := now) (hX.more hb6) hL6 (hR.below hb6) hk7 hN7 hB7)
  have h7 := (hX.more hb6).k7
  have cc := box_cells (heap_set1 (v' := .slice A n c) (heap_set0 (u' := .int .i64 now) h7))
  have cc1 := Lib.hid cc.1
  have cf := (box_cells h7).2
  have cf0 := (box_cells h7).1
  have c9' := Lib.hid (show (((w6.setCell ⟨w.heap.size + 2, 0, none⟩ (.int .i64 now)).setCell ⟨w.heap.size + 2, 1, none⟩ (.slice A n c)).cell? ⟨w.heap.size, 0, none⟩ = some (.int .i64 now) ∧ ((w6.setCell ⟨w.heap.size + 2, 0, none⟩ (.int .i64 now)).setCell ⟨w.heap.size + 2, 1, none⟩ (.slice A n c)).cell? ⟨w.heap.size, 1, none⟩ = some (.slice A n c)) from by
    have hne : w.heap.size ≠ w.heap.size + 2 := by omega
    have g1 := (grownBy_at w6 (w.heap.size + 2) 0 (.int .i64 now)).block w.heap.size (Array.getElem?_eq_some_iff.1 k4).1 (fun e => by injection e with e; exact hne e)
    have g2 := (grownBy_at (w6.setCell ⟨w.heap.size + 2, 0, none⟩ (.int .i64 now)) (w.heap.size + 2) 1 (.slice A n c)).block w.heap.size (by have := (Array.getElem?_eq_some_iff.1 k4).1; simpa using this) (fun e => by injection e with e; exact hne e)
    exact (box_cells (g2.trans (g1.trans k4))).1)
  clear cc h7
  clear hX hL6 hR hk7 hN7 hB7 hd hb6 hcp hL hE hb2
  refine wpAnyH_takeL (i := 3) (v := ?vhy45) rfl (by kernel_rfl) (by kernel_rfl) (by kernel_rfl) (fun _ _ _ h => h) (Or.inl ⟨by rfl, ?hy45⟩) (by assumption) ?rhy45
  case hy45 => ((intro w hSw; (try dsimp only at hSw); go_simp); try with_reducible rfl)
  try simp only [Act.put, List.setIfInBounds_toArray, List.set_cons_zero, List.set_cons_succ]
  refine wpAnyH_ready (rs := [4]) (by kernel_rfl) (by simp) ?_
  refine AllReadyH.consL (i := 4) rfl (fun K hK => ?_) AllReadyH.nil
  go_simp
  refine hK.out _ _ c9'.out (fun hHeld => ?_)
  clear hK
  try simp only [Act.put, List.setIfInBounds_toArray, List.set_cons_zero, List.set_cons_succ]
  refine wpAnyH_takeL (i := 5) (v := ?vhy46) rfl (by kernel_rfl) (by kernel_rfl) (by kernel_rfl) (fun _ _ _ h => h) (Or.inl ⟨by rfl, ?hy46⟩) (by assumption) ?rhy46
  case hy46 => ((intro w hSw; (try dsimp only at hSw); go_simp); try with_reducible rfl)
  try simp only [Act.put, List.setIfInBounds_toArray, List.set_cons_zero, List.set_cons_succ]
  refine wpAnyH_done (by kernel_rfl) ?_ _
  refine NoPanic.normal ?_
  clear hHeld cf cf0
  go_wp2
  refine bodyPost_ret (results_a rfl _ _ rfl rfl rfl cc1.out.1 cc1.out.2) rfl ?_
  exact hpost.out
theorem Act_any (hL : LB w base B r now zs) (hR : RB w base v now zs) (hE : Env w) (hz : IZ zs) (h0 : 0 ≤ now) (h1 : now < 1000000) (x : Ac) (hx : Rv w 2 x.A x.n x.c (wcells x.W)) (hm : x.n ≤ 100000) :
    Calls Tryd.prog 16 #[.pointer (some ⟨B, 0, none⟩), v, .agg x.cells.toArray] w (ActPost w base B r now (stepN x now) (stepZ x now zs)) := by
  unfold stepN stepZ
  by_cases hw : 0 ≤ x.what ∧ x.what ≤ 3
  · rw [if_pos hw, if_neg (by omega)]
    exact ActAsk_any hL hR hE hz x hx hm (by omega)
  · rw [if_neg hw]
    by_cases hw2 : x.what = 4 ∨ x.what = 5
    · rw [if_pos hw2, if_neg (by omega)]
      exact ActRel_any hL hR hE hz x hx hw2
    · rw [if_neg hw2]
      by_cases hw3 : x.what = 6 ∨ x.what = 7
      · rw [if_pos hw3, if_pos hw3]
        exact ActTick_any hL hR hE hz h0 h1 x hx hw3
      · rw [if_neg hw3, if_neg hw3]
        exact ActCopy_any hL hR hE hz x hx (by omega)
theorem IZ.step {zs : List Ak} (hz : IZ zs) (x : Ac) (now : Int) (h0 : 0 ≤ now) (h1 : now ≤ 1000000) : IZ (stepZ x now zs) := by
  unfold stepZ
  split
  · exact hz.ask now x.s x.wait x.first x.W h0 h1
  · split
    · exact hz.rel x.s
    · split
      · exact hz.tick now
      · exact hz
end
end Go.Proofs.YtnjhhibjcfjhnaaDoor
