/- convert.right: which two columns may be. -/
import Derived.Test.YtagoooclfcbdeaaGreatDoorColJ
import Derived.LoopNIn
import Derived.LoopIn
namespace Go.Proofs.YtagoooclfcbdeaaGreatDoor
open Go.RowKit
set_option linter.unusedVariables false

def zeroW : Vl := ⟨0, 0, 0, []⟩
theorem zeroW_wf : zeroW.Wf := ⟨by decide, by decide, by decide, by decide, by decide⟩
theorem fitV_zero (c : Cl) : ((fitV c zeroW : Int) == 2) = !colV c := by
  unfold fitV
  have h : zeroW.chk = 0 := by decide
  cases colV c
  · rfl
  · have hk : zeroW.k = 0 := rfl
    rw [if_neg (by simp), if_neg (by rw [h]; simp), if_pos hk]
    cases c.nl <;> rfl
set_option maxRecDepth 100000 in
theorem cright1_any (c : Cl) (w : World) (hE : Env w) (hl : c.n.length ≤ 100000) : Calls Tryz.prog 39 #[c.val] w fun e w' => e = .returned (.bool (!colV c)) ∧ Below w.heap.size w w' := by
  have hb : Below w.heap.size w (w.alloc (.cells #[.string (strL c.n), .int .i64 c.t, .int .i64 c.z, .bool c.nl] 24)) := (Below.refl _ w).alloc (Nat.le_refl _) _
  have hc := sFits_any c zeroW _ (hE.below hb) hl zeroW_wf
  have hz := fitV_zero c
  generalize fitV c zeroW = F at *
  generalize colV c = b at *
  obtain ⟨n, t, z, nl⟩ := c
  simp only [Cl.val, Vl.val, valV, zeroW] at *
  replace hc := Lib.hid hc
  clear hE hl
  go_enter Tryz.func39, Tryz.ntmps39
  go_wp2_with fail
  refine hc.out.mono ?_
  rintro e w2 ⟨rfl, g1⟩
  have hb2 := gr hb g1
  clear hc g1 hb
  go_wp2
  go_ret
  exact ⟨by rw [← hz]; rfl, hb2⟩
/-- Cols2 columns, cell by cell. -/
def Cols2 (W : World) (g : Nat) (c d : Cl) : Prop :=
  (W.cell? ⟨g, 0, none⟩ = some (.string (strL c.n)) ∧ W.cell? ⟨g, 1, none⟩ = some (.int .i64 c.t) ∧ W.cell? ⟨g, 2, none⟩ = some (.int .i64 c.z) ∧ W.cell? ⟨g, 3, none⟩ = some (.bool c.nl)) ∧
  (W.cell? ⟨g, 4, none⟩ = some (.string (strL d.n)) ∧ W.cell? ⟨g, 5, none⟩ = some (.int .i64 d.t) ∧ W.cell? ⟨g, 6, none⟩ = some (.int .i64 d.z) ∧ W.cell? ⟨g, 7, none⟩ = some (.bool d.nl))
theorem Cols2.below {W W' : World} {g : Nat} {c d : Cl} (k : Cols2 W g c d) (hb : Below W.heap.size W W') : Cols2 W' g c d := by
  obtain ⟨⟨a0, a1, a2, a3⟩, ⟨b0, b1, b2, b3⟩⟩ := k
  have hg : g < W.heap.size := World.block_lt_of_cell? W _ a0
  have e1 : ∀ o, W'.cell? ⟨g, o, none⟩ = W.cell? ⟨g, o, none⟩ := fun o => hb.cell (p := ⟨g, o, none⟩) hg
  unfold Cols2
  simp only [e1]
  exact ⟨⟨a0, a1, a2, a3⟩, ⟨b0, b1, b2, b3⟩⟩
set_option maxRecDepth 100000 in
set_option maxHeartbeats 2000000 in
theorem idx_two (c d : Cl) (g : Nat) (w : World) (hE : Env w) (hc : Cols2 w g c d) (hl : c.n.length ≤ 100000) (hl2 : d.n.length ≤ 100000) :
    Calls Tryz.prog 59 #[.slice (some ⟨g, 0, none⟩) 2 2, .func (.func 39) #[] #[]] w fun e w' => e = .returned (.int .i64 (if colV c = false then 0 else if colV d = false then 1 else -1)) ∧ Below w.heap.size w w' := by
  have k1 := fun W h => cright1_any c W h hl
  have k2 := fun W h => cright1_any d W h hl2
  have eF := enters_of Tryz.func39 (by kernel_rfl) rfl
  have cc := hc
  unfold Cols2 at cc
  generalize colV c = b1 at *
  generalize colV d = b2 at *
  simp only [Cl.val] at k1 k2
  replace k1 := Lib.hid k1
  replace k2 := Lib.hid k2
  clear hl hl2
  go_enter Tryz.func59, Tryz.ntmps59
  go_wp2
  refine wp_loop_rounds 3 ?_
  rw [rounds_succ]
  go_wp2_with fail
  refine (k1.out _ hE).mono ?_
  rintro e w2 ⟨rfl, g1⟩
  have hE2 := hE.below g1
  have cc2 := hc.below g1
  unfold Cols2 at cc2
  clear k1 cc hc
  cases b1
  · go_wp2
    go_ret
    exact ⟨rfl, g1⟩
  · go_wp2
    rw [rounds_succ]
    go_wp2_with fail
    refine (k2.out _ hE2).mono ?_
    rintro e w3 ⟨rfl, g2⟩
    have b3 := gr g1 g2
    clear k2 cc2 g1 g2
    cases b2
    · go_wp2
      go_ret
      exact ⟨rfl, b3⟩
    · go_wp2
      rw [rounds_succ]
      go_wp2
      go_ret
      exact ⟨rfl, b3⟩
theorem has_two (c d : Cl) (g : Nat) (w : World) (hE : Env w) (hc : Cols2 w g c d) (hl : c.n.length ≤ 100000) (hl2 : d.n.length ≤ 100000) :
    Calls Tryz.prog 38 #[.slice (some ⟨g, 0, none⟩) 2 2, .func (.func 39) #[] #[]] w fun e w' => e = .returned (.bool (!(colV c && colV d))) ∧ Below w.heap.size w w' := by
  have h := idx_two c d g w hE hc hl hl2
  generalize colV c = b1 at *
  generalize colV d = b2 at *
  replace h := Lib.hid h
  clear hc hl hl2
  cases b1
  · go_enter Tryz.func38, Tryz.ntmps38
    go_wp2_with fail
    refine h.out.mono ?_
    rintro e w2 ⟨rfl, g1⟩
    clear h
    go_wp2
    go_ret
    exact ⟨rfl, g1⟩
  · cases b2
    · go_enter Tryz.func38, Tryz.ntmps38
      go_wp2_with fail
      refine h.out.mono ?_
      rintro e w2 ⟨rfl, g1⟩
      clear h
      go_wp2
      go_ret
      exact ⟨rfl, g1⟩
    · go_enter Tryz.func38, Tryz.ntmps38
      go_wp2_with fail
      refine h.out.mono ?_
      rintro e w2 ⟨rfl, g1⟩
      clear h
      go_wp2
      go_ret
      exact ⟨rfl, g1⟩
theorem cright_two (c d : Cl) (g : Nat) (w : World) (hE : Env w) (hc : Cols2 w g c d) (hl : c.n.length ≤ 100000) (hl2 : d.n.length ≤ 100000) :
    Calls Tryz.prog 26 #[.slice (some ⟨g, 0, none⟩) 2 2] w fun e w' => e = .returned (.bool (colV c && colV d)) ∧ Below w.heap.size w w' := by
  have h := has_two c d g w hE hc hl hl2
  generalize (colV c && colV d) = b at *
  replace h := Lib.hid h
  clear hc hl hl2
  go_enter Tryz.func26, Tryz.ntmps26
  go_wp2_with fail
  refine h.out.mono ?_
  rintro e w2 ⟨rfl, g1⟩
  clear h
  go_wp2
  go_ret
  exact ⟨by simp, g1⟩
end Go.Proofs.YtagoooclfcbdeaaGreatDoor
