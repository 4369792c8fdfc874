/- value.Parse. -/
import Derived.Test.YtcicmeggbkhniaaGreatDoorParseD
namespace Go.Proofs.YtcicmeggbkhniaaGreatDoor
open Go.RowKit
set_option linter.unusedVariables false

/-- What Parse tells. -/
def ParsePost (w : World) (l : List UInt8) (e : Ending) (w' : World) : Prop := e = .returned (.tuple #[(readT l).1.val, .int .i64 ((readT l).2 : Int)]) ∧ Below w.heap.size w w'
theorem readT_zero {l : List UInt8} (h : (readT l).2 ≠ 0) : (readT l).1 = zeroT := by
  unfold readT at *
  split
  · rfl
  · rename_i e1
    rw [if_neg e1] at h
    split
    · rename_i e; rw [if_pos e] at h; exact absurd rfl h
    · rename_i e2
      rw [if_neg e2] at h
      split
      · rename_i e; rw [if_pos e] at h; exact absurd rfl h
      · rename_i e3
        rw [if_neg e3] at h
        cases hq : quoted l with
        | some t =>
          rw [hq] at h
          dsimp only at h ⊢
          cases hu : unhex t with
          | none => rfl
          | some b =>
            rw [hu] at h
            dsimp only at h ⊢
            by_cases hb : 200 < b.length
            · rw [if_pos hb]
            · rw [if_neg hb] at h
              exact absurd rfl h
        | none =>
          rw [hq] at h
          dsimp only at h ⊢
          cases ht : tailed l with
          | some t =>
            rw [ht] at h
            dsimp only at h ⊢
            cases hu : unsD t with
            | none => rfl
            | some n => rw [hu] at h; exact absurd rfl h
          | none =>
            rw [ht] at h
            dsimp only at h ⊢
            cases hu : sigD l with
            | none => rfl
            | some n => rw [hu] at h; exact absurd rfl h

set_option maxRecDepth 100000 in
set_option maxHeartbeats 2000000 in
theorem VParse_any (l : List UInt8) (w : World) (hE : Env w) (hl : l.length ≤ 90000) : Calls Tryz.prog 13 #[.string (strL l)] w (ParsePost w l) := by
  have hb0 : Below w.heap.size w (w.alloc (.cells #[.int .i64 0, .int .i64 0, .int .u64 0, .string (strL [])] 25)) := (Below.refl _ w).alloc (Nat.le_refl _) _
  have hV0 := VBox.new w 0 0 0 (strL [])
  have hE0 := hE.alloc (.cells #[.int .i64 0, .int .i64 0, .int .u64 0, .string (strL [])] 25)
  have hrd := fun W h => read_any l W h hl
  replace hrd := Lib.hid hrd
  go_enter Tryz.func13, Tryz.ntmps13
  go_wp2_with fail
  refine (hrd.out _ hE0).mono ?_
  rintro e w1 ⟨x, t, rfl, hx, hb1⟩
  have hV1 := hV0.below hb1 (by simp)
  have hb01 := gr hb0 hb1
  have hE1 := hE0.below hb1
  have hlt1 := hV1.lt
  obtain ⟨xk, xi, xu, xs⟩ := x
  simp only [Vl.val, valV]
  have hb2 : Below w1.heap.size w1 (w1.alloc (.cells #[.int .i64 xk, .int .i64 xi, .int .u64 xu, .string (strL xs)] 25)) := (Below.refl _ w1).alloc (Nat.le_refl _) _
  have hW2 := VBox.new w1 xk xi xu (strL xs)
  have hV2 := hV1.below hb2 hlt1
  have hE2 := hE1.below hb2
  have hb02 := gr hb01 hb2
  replace hx := Lib.hid hx
  obtain ⟨n, hn⟩ : ∃ n, (readT l).2 = n := ⟨_, rfl⟩
  have hwhy := why_any t (readT l).2 _ hE2
  rw [hn] at hwhy ⊢
  replace hwhy := Lib.hid hwhy
  replace hn := Lib.hid hn
  clear hrd hV0 hE0 hb1 hb0 hE1 hb2
  go_wp2_with fail
  generalize (w1.alloc (.cells #[.int .i64 xk, .int .i64 xi, .int .u64 xu, .string (strL xs)] 25)) = w2 at *
  refine hwhy.out.mono ?_
  rintro e w3 ⟨rfl, hb3⟩
  have hV3 := hV2.below hb3 hV2.lt
  have hW3 := hW2.below hb3 hW2.lt
  have hb03 := gr hb02 hb3
  have cv := hV3.cells
  have cw := hW3.cells
  have f0 := hV3.frozen 0
  have f1 := hV3.frozen 1
  have f2 := hV3.frozen 2
  have f3 := hV3.frozen 3
  clear hwhy hb3 hV2 hW2 hb02 hE2 hb01 hV1
  by_cases h0 : n = 0
  · subst h0
    have hxx := hx.out hn.out
    replace hxx := Lib.hid hxx
    clear hx
    go_wp2
    refine bodyPost_ret (results_cellV rfl _ _ rfl (hV3.put xk xi xu (strL xs))) rfl ⟨?_, below_put hb03 (Nat.le_refl _) _ _ _ _⟩
    rw [← hxx.out, hn.out]
    rfl
  · have hd : ((n : Int) != 0) = true := by simp; omega
    have hz := readT_zero (l := l) (by rw [hn.out]; exact h0)
    replace hz := Lib.hid hz
    clear hx h0
    go_wp2
    refine bodyPost_ret (results_cellV rfl _ _ rfl (hV3.put 0 0 0 (strL []))) rfl ⟨?_, below_put hb03 (Nat.le_refl _) _ _ _ _⟩
    rw [hz.out, hn.out]
    rfl
end Go.Proofs.YtcicmeggbkhniaaGreatDoor
