/- ValueTexts: true, whatever the value. -/
import Derived.Test.YtcicmeggbkhniaaGreatDoorWorks1
import Derived.Test.YtcicmeggbkhniaaGreatDoorRefTx
namespace Go.Proofs.YtcicmeggbkhniaaGreatDoor
open Go.RowKit
set_option linter.unusedVariables false
attribute [local go_sem] strL_toList strL_size

theorem eql_same (k i u : Int) (s : ByteArray) (w : World) : (binOp .eql 25 (.agg #[.int .i64 k, .int .i64 i, .int .u64 u, .string s]) (.agg #[.int .i64 k, .int .i64 i, .int .u64 u, .string s])).run Tryz.prog w = .ok (.bool true) w := by
  rw [eql_V]
  simp
set_option maxRecDepth 100000 in
set_option maxHeartbeats 4000000 in
theorem ValueTexts_walk (a : Vl) (w : World) (hE : Env w) (ha : a.Wf) : Calls Tryz.prog 3 #[a.val] w fun e w' => e = .returned (.bool true) ∧ Below w.heap.size w w' := by
  have ha2 := ha
  obtain ⟨ak, ai, au, aS⟩ := a
  simp only [Vl.val, valV]
  have hb1 : Below w.heap.size w ((w.alloc (.cells #[.int .i64 ak, .int .i64 ai, .int .u64 au, .string (strL aS)] 25)).alloc (.cells (vcells [⟨ak, ai, au, aS⟩]).toArray 25)) := ((Below.refl _ w).alloc (Nat.le_refl _) _).alloc (by simp) _
  have hvA := (VBox.new w ak ai au (strL aS)).below ((Below.refl _ _).alloc (Nat.le_refl _) (.cells (vcells [⟨ak, ai, au, aS⟩]).toArray 25)) (by simp)
  have hfew := few_any _ 1 1 [⟨ak, ai, au, aS⟩] 1 _ (lit_rv (w.alloc (.cells #[.int .i64 ak, .int .i64 ai, .int .u64 au, .string (strL aS)] 25)) 25 [⟨ak, ai, au, aS⟩] (by unfold maxLen; simp)) (by decide)
  rw [show (w.alloc (.cells #[.int .i64 ak, .int .i64 ai, .int .u64 au, .string (strL aS)] 25)).heap.size = w.heap.size + 1 from by simp] at hfew
  replace hfew := Lib.hid hfew
  have hE1 := hE.below hb1
  by_cases hf0 : fewV [⟨ak, ai, au, aS⟩] 1 = false
  · skip
    go_enter Tryz.func3, Tryz.ntmps3
    go_wp2_with fail
    refine hfew.out.mono ?_
    rw [hf0]
    rintro e w' ⟨rfl, rfl⟩
    generalize ((w.alloc (.cells #[.int .i64 ak, .int .i64 ai, .int .u64 au, .string (strL aS)] 25)).alloc (.cells (vcells [⟨ak, ai, au, aS⟩]).toArray 25)) = w1 at *
    clear hfew
    go_wp2_with (go_at_call 9; refine (works_any _ hE1).mono ?_; rintro e w' ⟨rfl, hb5⟩)
    go_ret
    exact ⟨rfl, gr hb1 hb5⟩
  replace hf0 : fewV [⟨ak, ai, au, aS⟩] 1 = true := by simpa using hf0
  have t1 := fun W h => Text_any ⟨ak, ai, au, aS⟩ W h ha2
  have t2 := fun W h => rText_any ⟨ak, ai, au, aS⟩ W h ha2
  unfold TextP at t1 t2
  simp only [Vl.val, valV] at t1 t2
  have hz : ∀ z, Vl.chk ⟨ak, ai, au, aS⟩ = z → z = 0 → (textV ⟨ak, ai, au, aS⟩).length ≤ 500 ∧ readT (textV ⟨ak, ai, au, aS⟩) = (⟨ak, ai, au, aS⟩, 0) := fun z h1 h2 => by
    subst h1
    exact ⟨textV_length ha2 h2, readT_textV ha2 h2⟩
  replace hz := hz _ rfl
  generalize Vl.chk ⟨ak, ai, au, aS⟩ = z at *
  generalize ht : textV ⟨ak, ai, au, aS⟩ = T at *
  by_cases h0 : z = 0
  · subst h0
    obtain ⟨hl, hR⟩ := hz rfl
    have hp := fun W h => VParse_any T W h (by omega)
    unfold ParsePost at hp
    rw [hR] at hp
    simp only [Vl.val, valV, if_true] at hp t1 t2
    replace t1 := Lib.hid t1
    replace t2 := Lib.hid t2
    replace hp := Lib.hid hp
    replace ht := Lib.hid ht
    have heq := eql_same ak ai au (strL aS)
    clear hR ha ha2 hz
    go_enter Tryz.func3, Tryz.ntmps3
    go_wp2_with fail
    refine hfew.out.mono ?_
    rw [hf0]
    rintro e w' ⟨rfl, rfl⟩
    generalize ((w.alloc (.cells #[.int .i64 ak, .int .i64 ai, .int .u64 au, .string (strL aS)] 25)).alloc (.cells (vcells [⟨ak, ai, au, aS⟩]).toArray 25)) = w1 at *
    clear hfew
    have hlt1 := hvA.lt
    have cv1 := hvA.cells
    go_wp2_with fail
    refine (t1.out _ hE1).mono ?_
    rintro e w2 ⟨rfl, g2⟩
    have hv2 := hvA.below g2 hlt1
    have hb2 := gr hb1 g2
    have cv2 := hv2.cells
    have hE2 := hE1.below g2
    clear t1 cv1 hvA g2
    go_wp2_with fail
    refine (t2.out _ hE2).mono ?_
    rintro e w3 ⟨rfl, g3⟩
    have hv3 := hv2.below g3 hv2.lt
    have hb3 := gr hb2 g3
    have hE3 := hE2.below g3
    have cv3 := hv3.cells
    clear t2 cv2 hv2 g3
    go_wp2_with (go_at_call 12; refine (lnum_any _ _).mono ?_; rintro e w' ⟨rfl, rfl⟩)
    refine (hp.out _ hE3).mono ?_
    rintro e w4 ⟨rfl, g4⟩
    have hv4 := hv3.below g4 hv3.lt
    have hb4 := gr hb3 g4
    have hE4 := hE3.below g4
    have hbA : Below w4.heap.size w4 (w4.alloc (.cells #[.int .i64 ak, .int .i64 ai, .int .u64 au, .string (strL aS)] 25)) := (Below.refl _ _).alloc (Nat.le_refl _) _
    have hv5 := hv4.below hbA hv4.lt
    have hb5 := gr hb4 hbA
    have hE5 := hE4.below hbA
    have cv5 := hv5.cells
    clear hp cv3 hv3 g4 hv4
    go_wp2_with (first | (go_at_call 12; refine (lnum_any _ _).mono ?_; rintro e w' ⟨rfl, rfl⟩) | (go_at_call 9; refine (works_any _ hE5).mono ?_; rintro e w' ⟨rfl, hb6⟩))
    go_ret
    exact ⟨rfl, gr hb5 hb6⟩
  · have hd : ((z : Int) != 0) = true := by simp; omega
    simp only [if_neg h0] at t1 t2
    replace t1 := Lib.hid t1
    replace t2 := Lib.hid t2
    clear hz ha ha2 h0
    go_enter Tryz.func3, Tryz.ntmps3
    go_wp2_with fail
    refine hfew.out.mono ?_
    rw [hf0]
    rintro e w' ⟨rfl, rfl⟩
    generalize ((w.alloc (.cells #[.int .i64 ak, .int .i64 ai, .int .u64 au, .string (strL aS)] 25)).alloc (.cells (vcells [⟨ak, ai, au, aS⟩]).toArray 25)) = w1 at *
    clear hfew
    have hlt1 := hvA.lt
    have cv1 := hvA.cells
    go_wp2_with fail
    refine (t1.out _ hE1).mono ?_
    rintro e w2 ⟨rfl, g2⟩
    have hv2 := hvA.below g2 hlt1
    have hb2 := gr hb1 g2
    have cv2 := hv2.cells
    have hE2 := hE1.below g2
    clear t1 cv1 hvA g2
    go_wp2_with fail
    refine (t2.out _ hE2).mono ?_
    rintro e w3 ⟨rfl, g3⟩
    have hb3 := gr hb2 g3
    have hE3 := hE2.below g3
    clear t2 cv2 hv2 g3
    go_wp2_with (first | (go_at_call 12; refine (lnum_any _ _).mono ?_; rintro e w' ⟨rfl, rfl⟩) | (go_at_call 9; refine (works_any _ hE3).mono ?_; rintro e w' ⟨rfl, hb5⟩))
    go_ret
    exact ⟨rfl, gr hb3 hb5⟩
end Go.Proofs.YtcicmeggbkhniaaGreatDoor
