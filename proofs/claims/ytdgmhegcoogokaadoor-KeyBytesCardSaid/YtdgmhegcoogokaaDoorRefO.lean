/- The reference's one: the key of a value that may be. -/
import Derived.Test.YtdgmhegcoogokaaDoorKeyC
import Derived.Test.YtdgmhegcoogokaaDoorZeros
import Derived.Test.YtdgmhegcoogokaaDoorOctB
import Derived.Test.YtdgmhegcoogokaaDoorKeyOrd
namespace Go.Proofs.YtdgmhegcoogokaaDoor
open Go.RowKit
set_option linter.unusedVariables false

theorem grpL_le' (l : List UInt8) (h : l.length ≤ 8) : grpL l = l ++ List.replicate (8 - l.length) 0 ++ [UInt8.ofNat l.length] := by
  unfold grpL
  rw [dif_neg (by omega)]
theorem grpL_gt' (l : List UInt8) (h : 8 < l.length) : grpL l = l.take 8 ++ 9 :: grpL (l.drop 8) := by
  conv => lhs; unfold grpL
  rw [dif_pos h]
theorem strL_sub' (l : List UInt8) (lo hi : Nat) : (strL l).extract lo hi = strL ((l.drop lo).take (hi - lo)) := by
  unfold strL
  apply ByteArray.ext
  rw [ByteArray.data_extract]
  simp

attribute [local go_sem] strL_toList strL_size
set_option maxRecDepth 100000 in
theorem refone_0 (w : World) : Calls Tryd.prog 24 #[valV 0 0 0 (strL [])] w (NewB w [0]) := by
  unfold valV
  go_enter Tryd.func24, Tryd.ntmps24
  go_wp2
  go_ret
  have hl := Ob.lit (w.alloc (.cells #[.int .i64 0, .int .i64 0, .int .u64 0, .string (strL [])] 42)) w.heap.size 5 [0] (by simp) (by simp [maxLen])
  exact ⟨_, _, _, rfl, by simpa [cb] using hl, ((Below.refl _ w).alloc (Nat.le_refl _) _).alloc (by simp) _⟩
set_option maxRecDepth 100000 in
theorem refone_3 (i : Int) (h : i = 0 ∨ i = 1) (w : World) : Calls Tryd.prog 24 #[valV 3 i 0 (strL [])] w (NewB w [3, UInt8.ofNat i.toNat]) := by
  unfold valV
  have hl : Ob ((w.alloc (.cells #[.int .i64 3, .int .i64 i, .int .u64 0, .string (strL [])] 42)).alloc (.cells #[.int .u8 3] 5)) w.heap.size 5 (some ⟨w.heap.size + 1, 0, none⟩) 1 1 [3] := by
    have h := Ob.one (w.alloc (.cells #[.int .i64 3, .int .i64 i, .int .u64 0, .string (strL [])] 42)) w.heap.size 3 5 (by decide) (by decide) (by simp)
    rw [World.size_alloc] at h
    exact h
  have hb := ((Below.refl _ w).alloc (Nat.le_refl _) (.cells #[.int .i64 3, .int .i64 i, .int .u64 0, .string (strL [])] 42)).alloc (by simp) (.cells #[.int .u8 3] 5)
  have h0 : 0 ≤ i := by omega
  have h1 : i ≤ 255 := by omega
  have hone : Rd (((w.alloc (.cells #[.int .i64 3, .int .i64 i, .int .u64 0, .string (strL [])] 42)).alloc (.cells #[.int .u8 3] 5)).alloc (.cells #[.int .u8 i] 5)) (some ⟨w.heap.size + 1 + 1, 0, none⟩) 1 1 [UInt8.ofNat i.toNat] := by
    have h := Rd.one ((w.alloc (.cells #[.int .i64 3, .int .i64 i, .int .u64 0, .string (strL [])] 42)).alloc (.cells #[.int .u8 3] 5)) i 5 h0 h1
    rw [World.size_alloc, World.size_alloc] at h
    exact h
  have hm : IntKind.u8.wrap i = i := by rw [IntKind.wrap_u8']; omega
  clear h
  go_enter Tryd.func24, Tryd.ntmps24
  go_wp2_with (at_builtin; refine wpList_append_b _ rfl _ _ 52 rfl 5 Tryd.underlying52 info_u8 w.heap.size _ 1 1 [3] rfl (hl.below ((Below.refl _ _).alloc (Nat.le_refl _) _)) _ 1 1 _ rfl hone (by omega) (by simp <;> omega) ?_; intro A2 c2 w2 hown2 hg2 hab2)
  go_ret
  exact ⟨A2, _, c2, rfl, hown2, (hb.alloc hb.size _).grown hg2 (by simp <;> omega) (fun q hq => (hl.ab q hq).1)⟩
set_option maxRecDepth 100000 in
theorem refone_2 (u : Int) (h0 : 0 ≤ u) (h1 : u ≤ 18446744073709551615) (w : World) : Calls Tryd.prog 24 #[valV 2 0 u (strL [])] w (NewB w (2 :: numL u.toNat)) := by
  unfold valV
  have hl : Ob ((w.alloc (.cells #[.int .i64 2, .int .i64 0, .int .u64 u, .string (strL [])] 42)).alloc (.cells #[.int .u8 2] 5)) w.heap.size 5 (some ⟨w.heap.size + 1, 0, none⟩) 1 1 [2] := by
    have h := Ob.one (w.alloc (.cells #[.int .i64 2, .int .i64 0, .int .u64 u, .string (strL [])] 42)) w.heap.size 2 5 (by decide) (by decide) (by simp)
    rw [World.size_alloc] at h
    exact h
  have hb := ((Below.refl _ w).alloc (Nat.le_refl _) (.cells #[.int .i64 2, .int .i64 0, .int .u64 u, .string (strL [])] 42)).alloc (by simp) (.cells #[.int .u8 2] 5)
  have hn := fun W => refNumber_any u W h0 h1
  rw [refNum_eq u.toNat (by omega)] at hn
  go_enter Tryd.func24, Tryd.ntmps24
  go_wp2_with fail
  refine (hn _).mono ?_
  rintro e w1 ⟨A, m, c, rfl, hown, hb1⟩
  have hl1 := hl.below hb1
  have hb2 := gr hb hb1
  have hm := hown.len
  rw [numL_length] at hm
  have hn8 := needN_le u.toNat (by omega)
  go_wp2_with (at_builtin; refine wpList_append_b _ rfl _ _ 52 rfl 5 Tryd.underlying52 info_u8 w.heap.size _ 1 1 [2] rfl hl1 A m c _ rfl hown.rd (by omega) hb2.size ?_; intro A2 c2 w2 hown2 hg2 hab2)
  go_ret
  exact ⟨A2, _, c2, rfl, hown2, hb2.grown hg2 hb2.size (fun q hq => (hl1.ab q hq).1)⟩
set_option maxRecDepth 100000 in
theorem refone_1 (i : Int) (h0 : -9223372036854775808 ≤ i) (h1 : i ≤ 9223372036854775807) (w : World) : Calls Tryd.prog 24 #[valV 1 i 0 (strL [])] w (NewB w (1 :: beB (i + 9223372036854775808).toNat 8)) := by
  unfold valV
  have hl : Ob ((w.alloc (.cells #[.int .i64 1, .int .i64 i, .int .u64 0, .string (strL [])] 42)).alloc (.cells #[.int .u8 1] 5)) w.heap.size 5 (some ⟨w.heap.size + 1, 0, none⟩) 1 1 [1] := by
    have h := Ob.one (w.alloc (.cells #[.int .i64 1, .int .i64 i, .int .u64 0, .string (strL [])] 42)) w.heap.size 1 5 (by decide) (by decide) (by simp)
    rw [World.size_alloc] at h
    exact h
  have hb := ((Below.refl _ w).alloc (Nat.le_refl _) (.cells #[.int .i64 1, .int .i64 i, .int .u64 0, .string (strL [])] 42)).alloc (by simp) (.cells #[.int .u8 1] 5)
  have hx : bits .xor .u64 (IntKind.u64.wrap i) 9223372036854775808 = i + 9223372036854775808 := by
    rw [IntKind.wrap_u64]
    have hb := bits_xor_u64_nat (i % 18446744073709551616).toNat 9223372036854775808 (by omega) (by omega)
    rw [Int.toNat_of_nonneg (by omega)] at hb
    refine hb.trans ?_
    rw [xor_sign _ (by omega)]
    split <;> omega
  obtain ⟨N, hN⟩ : ∃ N : Nat, i + 9223372036854775808 = (N : Int) := ⟨(i + 9223372036854775808).toNat, by omega⟩
  have hNl : N < 18446744073709551616 := by omega
  rw [hN] at hx
  rw [hN, Int.toNat_natCast]
  go_enter Tryd.func24, Tryd.ntmps24
  go_wp2
  go_loopw [3, 5] (fun o p wr => ∃ (k : Nat) (A : Option Addr) (m c : Nat) (l : List UInt8), p = .int .i64 ((k : Int) - 1) ∧ k ≤ 8 ∧ o = .slice A m c ∧ Ob wr w.heap.size 5 A m c l ∧ m = 9 - k ∧ Hid (l ++ beB N k = 1 :: beB N 8) ∧ Below w.heap.size w wr)
    (fun o p wr => (intOf p + 1).toNat)
  case atStart => exact ⟨8, _, 1, 1, [1], rfl, by omega, rfl, hl, rfl, rfl, hb⟩
  case round =>
    obtain ⟨k, A, m, c, l, rfl, hk, rfl, hOb, rfl, HL, hB⟩ := hrel
    by_cases hk0 : 0 < k
    · obtain ⟨j, rfl⟩ : ∃ q, k = q + 1 := ⟨k - 1, by omega⟩
      have hB2 := hB.alloc hB.size (.cells #[.int .u8 ((N : Int) / 2 ^ (8 * j) % 256)] 5)
      have hml : 9 - (j + 1) + 1 = 9 - j := by omega
      go_wp2_with (at_builtin; refine wpList_append_br _ rfl _ _ 52 rfl 5 Tryd.underlying52 info_u8 w.heap.size A (9 - (j + 1)) c l rfl (hOb.below ((Below.refl _ _).alloc (Nat.le_refl _) _)) _ 1 1 _ rfl (Rd.one _ _ _ (by omega) (by omega)) (by omega) hB2.size (9 - j) hml ?_; intro A2 c2 w2 hown2 hg2 hab2)
      refine ⟨⟨j, A2, 9 - j, c2, _, rfl, by omega, rfl, hown2, rfl, ?_, hB2.grown hg2 hB2.size (fun q hq => (hOb.ab q hq).1)⟩, by simp [intOf]⟩
      refine Eq.trans ?_ HL.out
      simp only [beB, List.append_assoc, List.singleton_append]
      rw [ofNat_shift]
    · obtain rfl : k = 0 := by omega
      go_wp2
      go_ret
      have h : l ++ [] = 1 :: beB N 8 := HL.out
      rw [List.append_nil] at h
      exact ⟨A, _, c, rfl, by rw [← h]; exact hOb, hB⟩
set_option maxRecDepth 100000 in
set_option maxHeartbeats 2000000 in
theorem refone_4 (s : List UInt8) (h2 : s.length ≤ 200) (w : World) : Calls Tryd.prog 24 #[valV 4 0 0 (strL s)] w (NewB w (4 :: grpL s)) := by
  unfold valV
  have hl : Ob ((w.alloc (.cells #[.int .i64 4, .int .i64 0, .int .u64 0, .string (strL s)] 42)).alloc (.cells #[.int .u8 4] 5)) (w.heap.size + 1) 5 (some ⟨w.heap.size + 1, 0, none⟩) 1 1 [4] := by
    have h := Ob.one (w.alloc (.cells #[.int .i64 4, .int .i64 0, .int .u64 0, .string (strL s)] 42)) (w.heap.size + 1) 4 5 (by decide) (by decide) (by simp)
    rw [World.size_alloc] at h
    exact h
  have hb := ((Below.refl _ w).alloc (Nat.le_refl _) (.cells #[.int .i64 4, .int .i64 0, .int .u64 0, .string (strL s)] 42)).alloc (by simp) (.cells #[.int .u8 4] 5)
  have hV : VBox ((w.alloc (.cells #[.int .i64 4, .int .i64 0, .int .u64 0, .string (strL s)] 42)).alloc (.cells #[.int .u8 4] 5)) w.heap.size 4 0 0 (strL s) := (VBox.new w 4 0 0 (strL s)).below ((Below.refl _ _).alloc (Nat.le_refl _) _) (by simp)
  go_enter Tryd.func24, Tryd.ntmps24
  go_wp2
  go_loopw [3, 6] (fun o p wr => ∃ (j : Nat) (A : Option Addr) (m c : Nat) (l : List UInt8), p = .int .i64 (j : Int) ∧ j ≤ s.length ∧ o = .slice A m c ∧ Ob wr (w.heap.size + 1) 5 A m c l ∧ m ≤ 2 * j + 1 ∧ Hid (l ++ grpL (s.drop j) = 4 :: grpL s) ∧ VBox wr w.heap.size 4 0 0 (strL s) ∧ Below w.heap.size w wr)
    (fun o p wr => s.length - (intOf p).toNat)
  case atStart => exact ⟨0, _, 1, 1, [4], rfl, by omega, rfl, hl, by omega, rfl, hV, hb⟩
  case round =>
    obtain ⟨j, A, m, c, l, rfl, hj, rfl, hOb, hm2, HL, hV, hB⟩ := hrel
    have hVc := hV.cells
    have hVl := hV.lt
    obtain ⟨q, hq⟩ : ∃ q, min 8 (s.length - j) = q := ⟨_, rfl⟩
    have hmin : min (8 : Int) ((s.length : Int) - (j : Int)) = (q : Int) := by omega
    have hq8 : q ≤ 8 := by omega
    have hql : j + q ≤ s.length := by omega
    have hk8 : (8 : Int) - (q : Int) = ((8 - q : Nat) : Int) := by omega
    have hqm : (q : Int) % 256 = (q : Int) := by omega
    obtain ⟨tk, htk⟩ : ∃ tk, (s.drop j).take q = tk := ⟨_, rfl⟩
    have htl : tk.length = q := by rw [← htk]; simp; omega
    have hex : (strL s).extract j (j + q) = strL tk := by
      rw [strL_sub', show j + q - j = q from by omega, htk]
    have hsl : ∀ W, (Instr.slice 9 (.string (strL s)) (some (.int .i64 (j : Int))) (some (.int .i64 ((j : Int) + (q : Int)))) none).run Tryd.prog W = .ok (.string (strL tk)) W := fun W => by
      unfold Instr.slice Instr.sliceBounds Instr.sliceBound
      simp [go_sem, Sem.run_bind, asIntOf]
      rw [if_pos (by omega), if_pos (by omega), show ((j : Int) + (q : Int)).toNat = j + q from by omega, hex]
    replace htk := Lib.hid htk
    replace htl := Lib.hid htl
    clear hex
    have hwl : w.heap.size + 1 ≤ wr.heap.size := hVl
    have hdl : (s.drop j).length = s.length - j := List.length_drop
    by_cases hlt : 8 < s.length - j
    · have hd : decide ((j : Int) + (q : Int) < (s.length : Int)) = true := by simp; omega
      have hG := Lib.hid (grpL_gt' (s.drop j) (by omega))
      replace hq := Lib.hid hq
      go_wp2_with (first
        | (at_builtin; refine wpList_append_s _ rfl _ _ 52 9 rfl 5 Tryd.underlying52 Tryd.underlying9 info_u8 (w.heap.size + 1) A m c l rfl hOb (strL tk) rfl (by rw [strL_size, htl.out]; omega) hwl ?_; intro A1 c1 w1 hOb1 hg1; rw [strL_size, htl.out] at hOb1 ⊢; replace hOb1 : Ob w1 (w.heap.size + 1) 5 A1 (m + q) c1 (l ++ tk) := hOb1; have hz1 := hg1.size)
        | (at_builtin; refine wpList_append_z _ rfl _ _ 52 3 9 rfl 5 .i64 Tryd.underlying52 Tryd.underlying3 Tryd.underlying9 info_u8 (w.heap.size + 1) A1 (m + q) c1 (l ++ tk) rfl hOb1 (8 - q) rfl (by omega) (by omega) ?_; intro A2 c2 w2 hOb2 hg2; have hz2 := hg2.size; have hV2 : VBox w2 w.heap.size 4 0 0 (strL s) := (hg2.block _ (by omega) (fun e => by have := (hOb1.ab _ e.symm).1; omega)).trans ((hg1.block _ hVl (fun e => by have := (hOb.ab _ e.symm).1; omega)).trans hV); have hVc2 := hV2.cells)
        | (at_builtin; refine wpList_append_br _ rfl _ _ 52 rfl 5 Tryd.underlying52 info_u8 (w.heap.size + 1) A2 (m + q + (8 - q)) c2 (l ++ tk ++ List.replicate (8 - q) 0) rfl (hOb2.below ((Below.refl _ _).alloc (Nat.le_refl _) _)) _ 1 1 _ rfl (Rd.one _ 9 _ (by omega) (by omega)) (by omega) (by simp; omega) (m + 9) (by omega) ?_; intro A3 c3 w3 hOb3 hg3 hab3))
      have hBf : Below w.heap.size w w3 := (((hB.grown hg1 hB.size (fun p e => by have := (hOb.ab _ e).1; omega)).grown hg2 (by omega) (fun p e => by have := (hOb1.ab _ e).1; omega)).alloc (by omega) _).grown hg3 (by simp; omega) (fun p e => by have := (hOb2.ab _ e).1; omega)
      refine ⟨⟨j + 8, A3, m + 9, c3, _, rfl, by omega, rfl, hOb3, by omega, ?_, ?_, hBf⟩, by simp [intOf]; omega⟩
      · have h := HL.out
        have hq8 : q = 8 := by have := hq.out; omega
        rw [hG.out, List.drop_drop] at h
        have ht := htk.out
        rw [hq8] at ht ⊢
        rw [ht] at h
        refine Eq.trans ?_ h
        simp
      · exact (hg3.block _ (by simp; omega) (fun e => by have := (hOb2.ab _ e.symm).1; omega)).trans (hV2.below ((Below.refl _ _).alloc (Nat.le_refl _) _) hV2.lt)
    · have hd : decide ((j : Int) + (q : Int) < (s.length : Int)) = false := by simp; omega
      have hG := Lib.hid (grpL_le' (s.drop j) (by omega))
      replace hq := Lib.hid hq
      go_wp2_with (first
        | (at_builtin; refine wpList_append_s _ rfl _ _ 52 9 rfl 5 Tryd.underlying52 Tryd.underlying9 info_u8 (w.heap.size + 1) A m c l rfl hOb (strL tk) rfl (by rw [strL_size, htl.out]; omega) hwl ?_; intro A1 c1 w1 hOb1 hg1; rw [strL_size, htl.out] at hOb1 ⊢; replace hOb1 : Ob w1 (w.heap.size + 1) 5 A1 (m + q) c1 (l ++ tk) := hOb1; have hz1 := hg1.size)
        | (at_builtin; refine wpList_append_z _ rfl _ _ 52 3 9 rfl 5 .i64 Tryd.underlying52 Tryd.underlying3 Tryd.underlying9 info_u8 (w.heap.size + 1) A1 (m + q) c1 (l ++ tk) rfl hOb1 (8 - q) rfl (by omega) (by omega) ?_; intro A2 c2 w2 hOb2 hg2; have hz2 := hg2.size; have hV2 : VBox w2 w.heap.size 4 0 0 (strL s) := (hg2.block _ (by omega) (fun e => by have := (hOb1.ab _ e.symm).1; omega)).trans ((hg1.block _ hVl (fun e => by have := (hOb.ab _ e.symm).1; omega)).trans hV); have hVc2 := hV2.cells)
        | (at_builtin; refine wpList_append_br _ rfl _ _ 52 rfl 5 Tryd.underlying52 info_u8 (w.heap.size + 1) A2 (m + q + (8 - q)) c2 (l ++ tk ++ List.replicate (8 - q) 0) rfl (hOb2.below ((Below.refl _ _).alloc (Nat.le_refl _) _)) _ 1 1 _ rfl (Rd.one _ (q : Int) _ (by omega) (by omega)) (by omega) (by simp; omega) (m + 9) (by omega) ?_; intro A3 c3 w3 hOb3 hg3 hab3))
      have hBf : Below w.heap.size w w3 := (((hB.grown hg1 hB.size (fun p e => by have := (hOb.ab _ e).1; omega)).grown hg2 (by omega) (fun p e => by have := (hOb1.ab _ e).1; omega)).alloc (by omega) _).grown hg3 (by simp; omega) (fun p e => by have := (hOb2.ab _ e).1; omega)
      go_ret
      refine ⟨A3, _, c3, rfl, ?_, hBf⟩
      have h := HL.out
      have hqe : (s.drop j).length = q := by have := hq.out; omega
      rw [hG.out, hqe] at h
      have ht := htk.out
      rw [List.take_of_length_le (by omega)] at ht
      rw [ht] at h
      rw [← h]
      simpa using hOb3.ge (by omega)
theorem refone_any (x : Vl) (hw : x.Wf) (h : x.chk = 0) (w : World) : Calls Tryd.prog 24 #[x.val] w (NewB w (keyV x)) := by
  have h200 := (chk_ok h).2
  have hi0 := hw.i0
  have hi1 := hw.i1
  have hu0 := hw.u0
  have hu1 := hw.u1
  rcases ok_shape hw h with ⟨e1, e2, e3, e4⟩ | ⟨e1, e3, e4⟩ | ⟨e1, e2, e4⟩ | ⟨e1, e3, e4, e5⟩ | ⟨e1, e2, e3⟩
  · obtain ⟨k, i, u, s⟩ := x
    subst e1 e2 e3 e4
    exact refone_0 w
  · obtain ⟨k, i, u, s⟩ := x
    subst e1 e3 e4
    exact refone_1 i hi0 hi1 w
  · obtain ⟨k, i, u, s⟩ := x
    subst e1 e2 e4
    exact refone_2 u hu0 hu1 w
  · obtain ⟨k, i, u, s⟩ := x
    subst e1 e3 e4
    exact refone_3 i e5 w
  · obtain ⟨k, i, u, s⟩ := x
    subst e1 e2 e3
    exact refone_4 s h200 w
end Go.Proofs.YtdgmhegcoogokaaDoor
