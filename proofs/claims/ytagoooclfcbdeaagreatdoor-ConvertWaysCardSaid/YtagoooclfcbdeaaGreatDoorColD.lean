/- Which columns may be, asked by a schema of two (the reference). -/
import Derived.Test.YtagoooclfcbdeaaGreatDoorColC
import Derived.LoopNIn
import Derived.LoopIn
namespace Go.Proofs.YtagoooclfcbdeaaGreatDoor
open Go.RowKit
set_option linter.unusedVariables false

set_option maxRecDepth 100000 in
theorem set_one (h : Nat) (w : World) (hc : w.cell? ⟨h, 0, none⟩ = some (.int .i64 1)) : Calls Tryz.prog 64 #[.slice (some ⟨h, 0, none⟩) 1 1, .int .i64 2] w fun e w' => e = .returned (.bool true) ∧ w = w' := by
  go_enter Tryz.func64, Tryz.ntmps64
  go_wp2
  refine wp_loop_rounds 2 ?_
  rw [rounds_succ]
  go_wp2
  refine wp_loop_rounds 1 ?_
  rw [rounds_succ]
  go_wp2
  rw [rounds_succ]
  go_wp2
  go_ret
  exact ⟨rfl, rfl⟩

/-- Two columns, cell by cell, and a key. -/
def TwoC (W : World) (g h : Nat) (c d : Cl) : Prop :=
  (W.cell? ⟨g, 0, none⟩ = some (.string (strL c.n)) ∧ W.cell? ⟨g, 1, none⟩ = some (.int .i64 c.t) ∧ W.cell? ⟨g, 2, none⟩ = some (.int .i64 c.z) ∧ W.cell? ⟨g, 3, none⟩ = some (.bool c.nl)) ∧
  (W.cell? ⟨g, 4, none⟩ = some (.string (strL d.n)) ∧ W.cell? ⟨g, 5, none⟩ = some (.int .i64 d.t) ∧ W.cell? ⟨g, 6, none⟩ = some (.int .i64 d.z) ∧ W.cell? ⟨g, 7, none⟩ = some (.bool d.nl)) ∧ W.cell? ⟨h, 0, none⟩ = some (.int .i64 1)
theorem TwoC.below {W W' : World} {g h : Nat} {c d : Cl} (k : TwoC W g h c d) (hb : Below W.heap.size W W') : TwoC W' g h c d := by
  obtain ⟨⟨a0, a1, a2, a3⟩, ⟨b0, b1, b2, b3⟩, e⟩ := k
  have hg : g < W.heap.size := World.block_lt_of_cell? W _ a0
  have hh : h < W.heap.size := World.block_lt_of_cell? W _ e
  have e1 : ∀ o, W'.cell? ⟨g, o, none⟩ = W.cell? ⟨g, o, none⟩ := fun o => hb.cell (p := ⟨g, o, none⟩) hg
  have e2 : ∀ o, W'.cell? ⟨h, o, none⟩ = W.cell? ⟨h, o, none⟩ := fun o => hb.cell (p := ⟨h, o, none⟩) hh
  unfold TwoC
  simp only [e1, e2]
  exact ⟨⟨a0, a1, a2, a3⟩, ⟨b0, b1, b2, b3⟩, e⟩
attribute [local go_sem] strL_toList
set_option maxRecDepth 100000 in
set_option maxHeartbeats 2000000 in
theorem rRight_two (c d : Cl) (g h : Nat) (w : World) (hc : TwoC w g h c d) (hd : colV d = true) (hnl : d.nl = false) (hl : c.n.length ≤ 100000) (hl2 : d.n.length ≤ 100000) :
    Calls Tryz.prog 41 #[.agg #[.slice (some ⟨g, 0, none⟩) 2 2, .slice (some ⟨h, 0, none⟩) 1 1, .slice none 0 0]] w fun e w' => e = .returned (.bool (colV c && decide (c.n ≠ d.n))) ∧ Below w.heap.size w w' := by
  have k1 := fun W => column_any c W hl
  have k2 := fun W => column_any d W hl2
  rw [hd] at k2
  have hb1 : Below w.heap.size w (w.alloc (.cells #[.slice (some ⟨g, 0, none⟩) 2 2, .slice (some ⟨h, 0, none⟩) 1 1, .slice none 0 0] 91)) := (Below.refl _ w).alloc (Nat.le_refl _) _
  have hc1 := hc.below hb1
  have hs1 : (w.alloc (.cells #[.slice (some ⟨g, 0, none⟩) 2 2, .slice (some ⟨h, 0, none⟩) 1 1, .slice none 0 0] 91)).heap[w.heap.size]? = some (.cells #[.slice (some ⟨g, 0, none⟩) 2 2, .slice (some ⟨h, 0, none⟩) 1 1, .slice none 0 0] 91) := World.alloc_heap_new w _
  have hso := fun (W : World) (hW : W.heap[w.heap.size]? = some (.cells #[.slice (some ⟨g, 0, none⟩) 2 2, .slice (some ⟨h, 0, none⟩) 1 1, .slice none 0 0] 91)) =>
    (show W.cell? ⟨w.heap.size, 0, none⟩ = some (.slice (some ⟨g, 0, none⟩) 2 2) ∧ W.cell? ⟨w.heap.size, 1, none⟩ = some (.slice (some ⟨h, 0, none⟩) 1 1) ∧ W.cell? ⟨w.heap.size, 2, none⟩ = some (.slice none 0 0) from by simp [World.cell?, hW])
  have hlt : w.heap.size < (w.alloc (.cells #[.slice (some ⟨g, 0, none⟩) 2 2, .slice (some ⟨h, 0, none⟩) 1 1, .slice none 0 0] 91)).heap.size := by simp
  obtain ⟨n, t, z, nl⟩ := c
  obtain ⟨dn, dt, dz, dnl⟩ := d
  dsimp only at hnl
  subst hnl
  simp only [Cl.val] at k1 k2
  dsimp only
  obtain ⟨w1, hw1⟩ : ∃ w1, (w.alloc (.cells #[.slice (some ⟨g, 0, none⟩) 2 2, .slice (some ⟨h, 0, none⟩) 1 1, .slice none 0 0] 91)) = w1 := ⟨_, rfl⟩
  rw [hw1] at hb1 hc1 hs1 hlt
  replace hw1 := Lib.hid hw1
  replace hso := Lib.hid hso
  replace k1 := Lib.hid k1
  replace k2 := Lib.hid k2
  have cs1 := hso.out _ hs1
  have cc1 := hc1
  unfold TwoC at cc1
  dsimp only at cc1
  replace hs1 := Lib.hid hs1
  clear hc hd hl hl2
  cases hcv : colV ⟨n, t, z, nl⟩ with
  | false =>
    rw [hcv] at k1
    go_enter Tryz.func41, Tryz.ntmps41
    go_wp2_with fail
    rw [hw1.out]
    clear hw1
    refine (set_one h _ cc1.2.2).mono ?_
    rintro e w' ⟨rfl, rfl⟩
    go_wp2
    refine wp_loop_rounds 3 ?_
    rw [rounds_succ]
    go_wp2_with fail
    refine (k1.out _).mono ?_
    rintro e w2 ⟨rfl, g1⟩
    have hf := gr hb1 g1
    go_wp2
    go_ret
    exact ⟨rfl, hf⟩
  | true =>
    rw [hcv] at k1
    go_enter Tryz.func41, Tryz.ntmps41
    go_wp2_with fail
    rw [hw1.out]
    clear hw1
    refine (set_one h _ cc1.2.2).mono ?_
    rintro e w' ⟨rfl, rfl⟩
    go_wp2
    refine wp_loop_rounds 3 ?_
    rw [rounds_succ]
    go_wp2_with fail
    refine (k1.out _).mono ?_
    rintro e w2 ⟨rfl, g1⟩
    have b2 := gr hb1 g1
    have hs2 := (g1.block _ hlt).trans hs1.out
    have cs2 := hso.out _ hs2
    have hc2 := hc1.below g1
    have cc2 := hc2
    have hlt2 : w.heap.size < w2.heap.size := Nat.lt_of_lt_of_le hlt g1.size
    unfold TwoC at cc2
    dsimp only at cc2
    replace hs2 := Lib.hid hs2
    clear cs1 cc1 hs1 hc1 k1 g1 hb1
    go_wp2
    refine wp_loop_rounds 1 ?_
    rw [rounds_succ]
    go_wp2
    rw [rounds_succ]
    go_wp2_with fail
    refine (k2.out _).mono ?_
    rintro e w3 ⟨rfl, g2⟩
    have b3 := gr b2 g2
    have hs3 := (g2.block _ hlt2).trans hs2.out
    have cs3 := hso.out _ hs3
    have hc3 := hc2.below g2
    have cc3 := hc3
    unfold TwoC at cc3
    dsimp only at cc3
    replace hs3 := Lib.hid hs3
    clear cs2 cc2 hs2 hc2 k2 g2 b2
    go_wp2
    refine wp_loop_rounds 2 ?_
    rw [rounds_succ]
    by_cases hn : n = dn
    · have hq : (n == dn) = true := by simpa using hn
      have hr : (true && decide (n ≠ dn)) = false := by simp [hn]
      replace hr := Lib.hid hr
      clear hn
      go_wp2
      go_region
      go_wp2
      go_ret
      exact ⟨by rw [hr.out]; rfl, b3.drew⟩
    · have hq : (n == dn) = false := by simpa using hn
      have hr : (true && decide (n ≠ dn)) = true := by simp [hn]
      replace hr := Lib.hid hr
      clear hn
      go_wp2
      go_region
      go_wp2
      rw [rounds_succ]
      go_wp2
      rw [rounds_succ]
      go_wp2
      refine wp_loop_rounds 2 ?_
      rw [rounds_succ]
      go_wp2
      go_region
      go_wp2
      rw [rounds_succ]
      go_wp2
      refine wp_loop_rounds 1 ?_
      rw [rounds_succ]
      go_wp2
      go_ret
      exact ⟨by rw [hr.out]; rfl, b3.drew.drew⟩
end Go.Proofs.YtagoooclfcbdeaaGreatDoor
