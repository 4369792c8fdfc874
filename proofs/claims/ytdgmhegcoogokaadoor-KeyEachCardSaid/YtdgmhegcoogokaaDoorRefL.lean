/- The reference's Read: the value with whose key a text begins. -/
import Derived.Test.YtdgmhegcoogokaaDoorRefK
namespace Go.Proofs.YtdgmhegcoogokaaDoor
open Go.RowKit
set_option linter.unusedVariables false

theorem xor_ui (u : Int) (h0 : 0 ≤ u) (h1 : u ≤ 18446744073709551615) : wrap64 (bits .xor .u64 u 9223372036854775808) = u - 9223372036854775808 := by
  have hb := bits_xor_u64_nat u.toNat 9223372036854775808 (by omega) (by omega)
  rw [Int.toNat_of_nonneg (by omega)] at hb
  rw [show ((9223372036854775808 : Nat) : Int) = 9223372036854775808 from rfl] at hb
  rw [hb, xor_sign _ (by omega)]
  unfold wrap64
  split <;> omega
def rdV (l : List UInt8) : Vl × Nat := match readV l with
  | some r => r
  | none => (zeroV, 0)
/-- Two values in boxes of their own, one made behind the other. -/
theorem VBox.two (w : World) (k i u : Int) (s : ByteArray) (k' i' u' : Int) (s' : ByteArray) :
    VBox ((w.alloc (.cells #[.int .i64 k, .int .i64 i, .int .u64 u, .string s] 42)).alloc (.cells #[.int .i64 k', .int .i64 i', .int .u64 u', .string s'] 42)) w.heap.size k i u s ∧
    VBox ((w.alloc (.cells #[.int .i64 k, .int .i64 i, .int .u64 u, .string s] 42)).alloc (.cells #[.int .i64 k', .int .i64 i', .int .u64 u', .string s'] 42)) (w.heap.size + 1) k' i' u' s' := by
  refine ⟨(VBox.new w k i u s).below ((Below.refl _ _).alloc (Nat.le_refl _) _) (by simp), ?_⟩
  have h := VBox.new (w.alloc (.cells #[.int .i64 k, .int .i64 i, .int .u64 u, .string s] 42)) k' i' u' s'
  rw [show (w.alloc (.cells #[.int .i64 k, .int .i64 i, .int .u64 u, .string s] 42)).heap.size = w.heap.size + 1 from by simp] at h
  exact h
theorem below_two (w : World) (o1 o2 : Obj) : Below w.heap.size w ((w.alloc o1).alloc o2) := ((Below.refl _ w).alloc (Nat.le_refl _) o1).alloc (by simp) o2

attribute [local go_sem] strL_toList strL_size
set_option maxRecDepth 100000 in
set_option maxHeartbeats 2000000 in
theorem Read_any (l : List UInt8) (w : World) (hl : l.length ≤ 5000) :
    Calls Tryd.prog 16 #[.string (strL l)] w (ReadPV w (rdV l)) := by
  cases l with
  | nil =>
    go_enter Tryd.func16, Tryd.ntmps16
    go_wp2
    refine bodyPost_ret (results_cellV rfl _ _ rfl (VBox.new w 0 0 0 ByteArray.empty)) rfl ⟨rfl, (Below.refl _ w).alloc (Nat.le_refl _) _⟩
  | cons b t =>
    have hsz : (strL (b :: t)).size = t.length + 1 := strL_size _
    have h0 : ∀ h, (strL (b :: t))[0]'h = b := fun h => by rw [strL_get (b :: t) 0 h (by simp)]; rfl
    by_cases h4 : 4 < b.toNat
    · have hN : rdV (b :: t) = (zeroV, 0) := by
        unfold rdV
        rw [readV_cons, if_pos h4]
      have hd : decide ((4 : Int) < (b.toNat : Int)) = true := by simp; omega
      go_enter Tryd.func16, Tryd.ntmps16
      go_wp2
      refine bodyPost_ret (results_cellV rfl _ _ rfl (VBox.new w 0 0 0 ByteArray.empty)) rfl ⟨?_, (Below.refl _ w).alloc (Nat.le_refl _) _⟩
      try rw [hN]
      rfl
    have hrc := readV_cons b t
    rw [if_neg h4] at hrc
    replace hrc := Lib.hid hrc
    have hk : b = 0 ∨ b = 1 ∨ b = 2 ∨ b = 3 ∨ b = 4 := by
      have : b.toNat = 0 ∨ b.toNat = 1 ∨ b.toNat = 2 ∨ b.toNat = 3 ∨ b.toNat = 4 := by omega
      rcases this with h | h | h | h | h
      · exact .inl (UInt8.toNat_inj.1 h)
      · exact .inr (.inl (UInt8.toNat_inj.1 h))
      · exact .inr (.inr (.inl (UInt8.toNat_inj.1 h)))
      · exact .inr (.inr (.inr (.inl (UInt8.toNat_inj.1 h))))
      · exact .inr (.inr (.inr (.inr (UInt8.toNat_inj.1 h))))
    clear h4
    rcases hk with rfl | rfl | rfl | rfl | rfl
    · have hN : rdV (0 :: t) = (⟨0, 0, 0, []⟩, 1) := by
        unfold rdV
        rw [hrc.out]
        rfl
      go_enter Tryd.func16, Tryd.ntmps16
      go_wp2
      refine bodyPost_ret (results_cellV rfl _ _ rfl (VBox.two w _ _ _ _ _ _ _ _).1) rfl ⟨?_, below_two w _ _⟩
      try rw [hN]
      rfl
    · by_cases h8 : t.length < 8
      · have hd : decide ((t.length : Int) + 1 < 9) = true := by simp; omega
        have hN : rdV (1 :: t) = (zeroV, 0) := by
          have hq : readR (((1 : UInt8).toNat : Nat) : Int) t = none := by
            show readI t = none
            unfold readI
            rw [if_pos h8]
          unfold rdV
          rw [hrc.out, hq]
          rfl
        go_enter Tryd.func16, Tryd.ntmps16
        go_wp2
        refine bodyPost_ret (results_cellV rfl _ _ rfl (VBox.two w _ _ _ _ _ _ _ _).1) rfl ⟨?_, below_two w _ _⟩
        try rw [hN]
        rfl
      · have hd : decide ((t.length : Int) + 1 < 9) = false := by simp; omega
        have hN : rdV (1 :: t) = (⟨1, (rdN (t.take 8) : Int) - 9223372036854775808, 0, []⟩, 9) := by
          have hq : readR (((1 : UInt8).toNat : Nat) : Int) t = some ((rdN (t.take 8) : Int) - 9223372036854775808, 0, [], 8) := by
            show readI t = _
            unfold readI
            rw [if_neg h8]
          unfold rdV
          rw [hrc.out, hq]
          rfl
        have hsl : ∀ W, (Instr.slice 9 (.string (strL (1 :: t))) (some (.int .i64 1)) (some (.int .i64 9)) none).run Tryd.prog W = .ok (.string (strL (t.take 8))) W := fun W => by
          have h1 := strL_sub (1 :: t) 1 9
          unfold Instr.slice Instr.sliceBounds Instr.sliceBound
          simp [go_sem, Sem.run_bind, asIntOf]
          rw [if_pos (by omega), h1]
          rfl
        obtain ⟨c, w2, hcv, hrd, hb2, _⟩ := conv_str (P := Tryd.prog) 9 52 5 Tryd.underlying9 Tryd.underlying52 Tryd.underlying5 ((w.alloc (.cells #[.int .i64 0, .int .i64 0, .int .u64 0, .string { data := #[] }] 42)).alloc (.cells #[.int .i64 1, .int .i64 0, .int .u64 0, .string { data := #[] }] 42)) (t.take 8) (by simp; unfold maxLen; omega)
        have hl8 : (t.take 8).length = 8 := by simp; omega
        have hV2 := (VBox.two w 0 0 0 { data := #[] } 1 0 0 { data := #[] }).2.below hb2 (by simp)
        have hR2 := (VBox.two w 0 0 0 { data := #[] } 1 0 0 { data := #[] }).1.below hb2 (by simp; omega)
        have hB2 := gr (below_two w _ _) hb2
        rw [hl8] at hcv hrd
        simp only [World.size_alloc] at hcv hrd
        have hlt := rdN_lt (t.take 8)
        rw [hl8] at hlt
        have hRF : Calls Tryd.prog 26 #[.slice (some ⟨w.heap.size + 1 + 1, 0, none⟩) 8 c] w2 fun e w' => e = .returned (.tuple #[.int .u64 (rdN (t.take 8) : Int), .int .i64 0]) ∧ w2 = w' := by
          have h := refReadFixed_any _ _ _ _ w2 hrd
          have hrf : readFixN (t.take 8) = (rdN (t.take 8), 0) := by unfold readFixN; rw [if_neg (by omega)]
          rw [hrf] at h
          exact h
        have hlt2 : rdN (t.take 8) < 18446744073709551616 := hlt
        generalize rdN (t.take 8) = n at *
        have hx := xor_ui (n : Int) (by omega) (by omega)
        replace hRF := Lib.hid hRF
        have hV3 := hV2.setI ((n : Int) - 9223372036854775808)
        have hR3 := hR2.other (B' := w.heap.size + 1) (o := 1) (by omega) (.int .i64 ((n : Int) - 9223372036854775808))
        have hcv3 := hV2.cells
        have hcr3 := hR2.cells
        have hfv := hV2.frozen
        have hfr := hR2.frozen
        clear hlt
        replace hN := Lib.hid hN
        go_enter Tryd.func16, Tryd.ntmps16
        go_wp2_with fail
        refine hRF.out.mono ?_
        rintro e w' ⟨rfl, rfl⟩
        go_wp2
        refine bodyPost_ret (results_cellV rfl _ _ rfl (hR3.put _ _ _ _)) rfl ⟨?_, below_put (hB2.setCell (p := ⟨w.heap.size + 1, 1, none⟩) (by simp) _) (Nat.le_refl _) _ _ _ _⟩
        rw [hN.out]
        rfl
    · have hcv0 := conv_str (P := Tryd.prog) 9 52 5 Tryd.underlying9 Tryd.underlying52 Tryd.underlying5 ((w.alloc (.cells #[.int .i64 0, .int .i64 0, .int .u64 0, .string { data := #[] }] 42)).alloc (.cells #[.int .i64 2, .int .i64 0, .int .u64 0, .string { data := #[] }] 42)) t (by simp at hl; unfold maxLen; omega)
      obtain ⟨c, w2, hcv, hrd, hb2, _⟩ := hcv0
      have hsub : (strL (2 :: t)).extract 1 (t.length + 1) = strL t := by
        rw [strL_sub]
        simp
      have hV2 := (VBox.two w 0 0 0 { data := #[] } 2 0 0 { data := #[] }).2.below hb2 (by simp)
      have hR2 := (VBox.two w 0 0 0 { data := #[] } 2 0 0 { data := #[] }).1.below hb2 (by simp; omega)
      have hB2 := gr (below_two w _ _) hb2
      simp only [World.size_alloc] at hcv hrd
      have hRN := refReadNumber_any' _ _ _ _ w2 hrd
      unfold ReadPost at hRN
      have hq : readR (((2 : UInt8).toNat : Nat) : Int) t = if (readN t).2.2 ≠ 0 then none else some (0, ((readN t).1 : Int), [], (readN t).2.1) := rfl
      rcases readN_spec t with h | ⟨x, m, h, h1, h2, h3, h4⟩
      · have hN : rdV (2 :: t) = (zeroV, 0) := by
          unfold rdV
          rw [hrc.out, hq, h]
          rfl
        rw [h] at hRN
        replace hRN := Lib.hid hRN
        clear hq h
        go_enter Tryd.func16, Tryd.ntmps16
        go_wp2_with fail
        refine hRN.out.mono ?_
        rintro e w3 ⟨rfl, hb3⟩
        have hR3 := hR2.below hb3 hR2.lt
        have hcr := hR3.cells
        have hfr := hR3.frozen
        go_wp2
        refine bodyPost_ret (results_cellV rfl _ _ rfl (hR3.put _ _ _ _)) rfl ⟨?_, below_put (gr hB2 hb3) (Nat.le_refl _) _ _ _ _⟩
        try rw [hN]
        rfl
      · have hN : rdV (2 :: t) = (⟨2, 0, (x : Int), []⟩, 1 + m) := by
          unfold rdV
          rw [hrc.out, hq, h]
          rfl
        rw [h] at hRN
        replace hRN := Lib.hid hRN
        replace hN := Lib.hid hN
        clear hq h
        go_enter Tryd.func16, Tryd.ntmps16
        go_wp2_with fail
        refine hRN.out.mono ?_
        rintro e w3 ⟨rfl, hb3⟩
        have hR3 := hR2.below hb3 hR2.lt
        have hV3 := hV2.below hb3 hV2.lt
        have hcr := hR3.cells
        have hfr := hR3.frozen
        have hcv3 := hV3.cells
        have hfv3 := hV3.frozen
        go_wp2
        refine bodyPost_ret (results_cellV rfl _ _ rfl ((hR3.other (B' := w.heap.size + 1) (o := 2) (by omega) _).put _ _ _ _)) rfl ⟨?_, below_put ((gr hB2 hb3).setCell (p := ⟨w.heap.size + 1, 2, none⟩) (by simp) _) (Nat.le_refl _) _ _ _ _⟩
        rw [hN.out]
        rfl
    · cases t with
      | nil =>
        have hN : rdV [3] = (zeroV, 0) := by
          unfold rdV
          rw [hrc.out]
          rfl
        go_enter Tryd.func16, Tryd.ntmps16
        go_wp2
        refine bodyPost_ret (results_cellV rfl _ _ rfl (VBox.two w _ _ _ _ _ _ _ _).1) rfl ⟨?_, below_two w _ _⟩
        try rw [hN]
        rfl
      | cons c t =>
        have h1 : ∀ h, (strL (3 :: c :: t))[1]'h = c := fun h => by rw [strL_get (3 :: c :: t) 1 h (by simp)]; rfl
        by_cases hc : 1 < c.toNat
        · have hN : rdV (3 :: c :: t) = (zeroV, 0) := by
            have hq : readR (((3 : UInt8).toNat : Nat) : Int) (c :: t) = none := by
              show readB (c :: t) = none
              unfold readB
              simp only [if_pos hc]
            unfold rdV
            rw [hrc.out, hq]
            rfl
          have hd : decide ((1 : Int) < (c.toNat : Int)) = true := by simp; omega
          go_enter Tryd.func16, Tryd.ntmps16
          go_wp2
          refine bodyPost_ret (results_cellV rfl _ _ rfl (VBox.two w _ _ _ _ _ _ _ _).1) rfl ⟨?_, below_two w _ _⟩
          try rw [hN]
          rfl
        · have hN : rdV (3 :: c :: t) = (⟨3, (c.toNat : Int), 0, []⟩, 2) := by
            have hq : readR (((3 : UInt8).toNat : Nat) : Int) (c :: t) = some ((c.toNat : Int), 0, [], 1) := by
              show readB (c :: t) = _
              unfold readB
              simp only [if_neg hc]
            unfold rdV
            rw [hrc.out, hq]
            rfl
          have hc' : c = 0 ∨ c = 1 := by
            have : c.toNat = 0 ∨ c.toNat = 1 := by omega
            rcases this with h | h
            · exact .inl (UInt8.toNat_inj.1 h)
            · exact .inr (UInt8.toNat_inj.1 h)
          rcases hc' with rfl | rfl
          all_goals
            replace hN := Lib.hid hN
            go_enter Tryd.func16, Tryd.ntmps16
            go_wp2
            refine bodyPost_ret (results_cellV rfl _ _ rfl (VBox.two w _ _ _ _ _ _ _ _).1) rfl ⟨?_, below_two w _ _⟩
            rw [hN.out]
            rfl
    · have hN : rdV (4 :: t) = resG t := by
        unfold rdV resG
        rw [hrc.out]
        show (match ((readG [] t).map fun r => ((0 : Int), (0 : Int), r.1, r.2)).map _ with | some r => r | none => (zeroV, 0)) = _
        cases readG [] t <;> rfl
      go_enter Tryd.func16, Tryd.ntmps16
      go_wp2_with fail
      refine (rread_any 4 t _ (by simp at hl; omega)).mono ?_
      rintro e w2 ⟨rfl, hb2⟩
      replace hN := Lib.hid hN
      have hR2 := (VBox.two w 0 0 0 { data := #[] } 4 0 0 { data := #[] }).1.below hb2 (by simp; omega)
      have hB2 := gr (below_two w _ _) hb2
      generalize resG t = r at *
      obtain ⟨⟨rk, ri, ru, rs⟩, rn⟩ := r
      unfold Vl.val valV
      have hcr := hR2.cells
      have hfr := hR2.frozen
      go_wp2
      refine bodyPost_ret (results_cellV rfl _ _ rfl (hR2.put _ _ _ _)) rfl ⟨by first | rfl | (rw [hN.out]; rfl), below_put hB2 (Nat.le_refl _) _ _ _ _⟩
end Go.Proofs.YtdgmhegcoogokaaDoor
