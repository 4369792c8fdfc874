/- value.read: numbers. -/
import Derived.Test.YtcicmeggbkhniaaGreatDoorParseC
namespace Go.Proofs.YtcicmeggbkhniaaGreatDoor
open Go.RowKit
set_option linter.unusedVariables false
attribute [local go_sem] strL_size strL_toList

set_option maxRecDepth 100000 in
set_option maxHeartbeats 2000000 in
theorem read_uint_ok (t l : List UInt8) (u : Nat) (w : World) (hE : Env w) (hl : l.length ≤ 90000) (hlt : l = t ++ [117]) (n1 : (l == [110, 117, 108, 108]) = false) (n2 : (l == [116, 114, 117, 101]) = false) (n3 : (l == [102, 97, 108, 115, 101]) = false)
    (hquo : quoted l = none) (hu : Lib.parseUintB 64 t = .ok u) (hR : readT l = if Lib.decDigits u = t then (⟨2, 0, (u : Int), []⟩, 0) else (zeroT, 110)) : Calls Tryz.prog 31 #[.string (strL l)] w (ReadPost w l) := by
  have hc3 : ∀ W, Calls Tryz.prog 60 #[.string (strL l), .string (strL [117])] W fun e w' => e = .returned (.tuple #[.string (strL t), .bool true]) ∧ W = w' := fun W => by
    have h := cutS_at l [117] W (by omega)
    rw [hlt, (cutS_yes t 117).1, (cutS_yes t 117).2, ← hlt] at h
    exact h
  have htl : t.length ≤ 90000 := by rw [hlt] at hl; simp at hl; omega
  have hlt64 := parseUintB_lt hu
  have hpu := fun W => ParseU_ok t u W (by omega) hu
  replace hpu := Lib.hid hpu
  have hu0 : (0 : Int) ≤ (u : Int) := by omega
  replace hR := Lib.hid hR
  have hq := quoted_no hquo
  have hc1 := fun W => cutP_at l [120, 39] W
  have hml : (Lib.trimPrefix l [120, 39]).length ≤ 100000 := by
    unfold Lib.trimPrefix
    split
    · simp; omega
    · omega
  have hc2 := fun W => cutS_at (Lib.trimPrefix l [120, 39]) [39] W hml
  generalize Lib.hasPrefix l [120, 39] = p at *
  generalize Lib.hasSuffix (Lib.trimPrefix l [120, 39]) [39] = q at *
  generalize Lib.trimSuffix (Lib.trimPrefix l [120, 39]) [39] = m2 at *
  generalize Lib.trimPrefix l [120, 39] = m at *
  have hb0 : Below w.heap.size w (w.alloc (.cells #[.int .i64 0, .int .i64 0, .int .u64 0, .string (strL [])] 25)) := (Below.refl _ w).alloc (Nat.le_refl _) _
  have hV0 := VBox.new w 0 0 0 (strL [])
  have hE0 := hE.alloc (.cells #[.int .i64 0, .int .i64 0, .int .u64 0, .string (strL [])] 25)
  replace hc1 := Lib.hid hc1
  replace hc2 := Lib.hid hc2
  replace hc3 := Lib.hid hc3
  clear hml hquo
  clear hlt hu
  go_enter Tryz.func31, Tryz.ntmps31
  go_wp2_with fail
  refine (hc1.out _).mono ?_
  rintro e w' ⟨rfl, rfl⟩
  go_wp2_with fail
  refine (hc2.out _).mono ?_
  rintro e w' ⟨rfl, rfl⟩
  clear n1 n2 n3 hc1 hc2
  have hpq : p = false ∨ (p = true ∧ q = false) := by
    cases p
    · exact .inl rfl
    · exact .inr ⟨rfl, by simpa using hq⟩
  clear hq
  rcases hpq with rfl | ⟨rfl, rfl⟩
  all_goals
    go_wp2_with fail
    refine (hc3.out _).mono ?_
    rintro e w' ⟨rfl, rfl⟩
    go_wp2_with fail
    refine (hpu.out _).mono ?_
    rintro e w2 ⟨rfl, hb2⟩
    have hE2 := hE0.below hb2
    have hV2 := hV0.below hb2 (by simp)
    have hbw := gr hb0 hb2
    have cv := hV2.cells
    have f0 := hV2.frozen 0
    have f1 := hV2.frozen 1
    have f2 := hV2.frozen 2
    have f3 := hV2.frozen 3
    go_wp2_with fail
    refine (FmtU_any u _ hE2 hlt64).mono ?_
    rintro e w3 ⟨rfl, hb3⟩
    have hV3 := hV2.below hb3 hV2.lt
    have hbw3 := gr hbw hb3
    have cv3 := hV3.cells
    have g0 := hV3.frozen 0
    have g1 := hV3.frozen 1
    have g2 := hV3.frozen 2
    have g3 := hV3.frozen 3
    clear cv f0 f1 f2 f3 hb2 hb3 hV2 hV0 hE2 hb0 hE0 hbw
    by_cases hd : Lib.decDigits u = t
    · have e1 : (Lib.decDigits u != t) = false := by simpa using hd
      have e2 : (Lib.decDigits u == t) = true := by simpa using hd
      have hR2 := hR.out
      rw [if_pos hd] at hR2
      replace hR2 := Lib.hid hR2
      clear hd hR
      go_wp2
      refine bodyPost_ret (results_cellV rfl _ _ rfl (hV3.put 2 0 (u : Int) (strL []))) rfl ?_
      exact ReadPost.mk ⟨2, 0, (u : Int), []⟩ [] 0 _ hR2.out rfl (fun h => rfl) (below_put hbw3 (Nat.le_refl _) _ _ _ _)
    · have e1 : (Lib.decDigits u != t) = true := by simpa using hd
      have e2 : (Lib.decDigits u == t) = false := by simpa using hd
      have hR2 := hR.out
      rw [if_neg hd] at hR2
      replace hR2 := Lib.hid hR2
      clear hd hR
      go_wp2
      refine bodyPost_ret (results_cellV rfl _ _ rfl (hV3.put 0 0 0 (strL []))) rfl ?_
      exact ReadPost.mk zeroT l 110 _ hR2.out rfl (fun h => by cases h) (below_put hbw3 (Nat.le_refl _) _ _ _ _)
set_option maxRecDepth 100000 in
set_option maxHeartbeats 2000000 in
theorem read_uint_bad (t l : List UInt8) (w : World) (hE : Env w) (hl : l.length ≤ 90000) (hlt : l = t ++ [117]) (n1 : (l == [110, 117, 108, 108]) = false) (n2 : (l == [116, 114, 117, 101]) = false) (n3 : (l == [102, 97, 108, 115, 101]) = false)
    (hquo : quoted l = none) (hu : ∀ u, Lib.parseUintB 64 t ≠ .ok u) (hR : readT l = (zeroT, 110)) : Calls Tryz.prog 31 #[.string (strL l)] w (ReadPost w l) := by
  have hc3 : ∀ W, Calls Tryz.prog 60 #[.string (strL l), .string (strL [117])] W fun e w' => e = .returned (.tuple #[.string (strL t), .bool true]) ∧ W = w' := fun W => by
    have h := cutS_at l [117] W (by omega)
    rw [hlt, (cutS_yes t 117).1, (cutS_yes t 117).2, ← hlt] at h
    exact h
  have htl : t.length ≤ 90000 := by rw [hlt] at hl; simp at hl; omega
  have hpu := fun W h => ParseU_bad t W h (by omega) hu
  replace hpu := Lib.hid hpu
  replace hR := Lib.hid hR
  have hq := quoted_no hquo
  have hc1 := fun W => cutP_at l [120, 39] W
  have hml : (Lib.trimPrefix l [120, 39]).length ≤ 100000 := by
    unfold Lib.trimPrefix
    split
    · simp; omega
    · omega
  have hc2 := fun W => cutS_at (Lib.trimPrefix l [120, 39]) [39] W hml
  generalize Lib.hasPrefix l [120, 39] = p at *
  generalize Lib.hasSuffix (Lib.trimPrefix l [120, 39]) [39] = q at *
  generalize Lib.trimSuffix (Lib.trimPrefix l [120, 39]) [39] = m2 at *
  generalize Lib.trimPrefix l [120, 39] = m at *
  have hb0 : Below w.heap.size w (w.alloc (.cells #[.int .i64 0, .int .i64 0, .int .u64 0, .string (strL [])] 25)) := (Below.refl _ w).alloc (Nat.le_refl _) _
  have hV0 := VBox.new w 0 0 0 (strL [])
  have hE0 := hE.alloc (.cells #[.int .i64 0, .int .i64 0, .int .u64 0, .string (strL [])] 25)
  replace hc1 := Lib.hid hc1
  replace hc2 := Lib.hid hc2
  replace hc3 := Lib.hid hc3
  clear hml hquo
  clear hlt hu
  go_enter Tryz.func31, Tryz.ntmps31
  go_wp2_with fail
  refine (hc1.out _).mono ?_
  rintro e w' ⟨rfl, rfl⟩
  go_wp2_with fail
  refine (hc2.out _).mono ?_
  rintro e w' ⟨rfl, rfl⟩
  clear n1 n2 n3 hc1 hc2
  have hpq : p = false ∨ (p = true ∧ q = false) := by
    cases p
    · exact .inl rfl
    · exact .inr ⟨rfl, by simpa using hq⟩
  clear hq
  rcases hpq with rfl | ⟨rfl, rfl⟩
  all_goals
    go_wp2_with fail
    refine (hc3.out _).mono ?_
    rintro e w' ⟨rfl, rfl⟩
    go_wp2_with fail
    refine (hpu.out _ hE0).mono ?_
    rintro e w2 ⟨v, N, rfl, hb2⟩
    have hV2 := hV0.below hb2 (by simp)
    have hbw := gr hb0 hb2
    have cv := hV2.cells
    have f0 := hV2.frozen 0
    have f1 := hV2.frozen 1
    have f2 := hV2.frozen 2
    have f3 := hV2.frozen 3
    clear hb2 hV0 hE0 hb0
    go_wp2
    refine bodyPost_ret (results_cellV rfl _ _ rfl (hV2.put 0 0 0 (strL []))) rfl ?_
    exact ReadPost.mk zeroT l 110 _ hR.out rfl (fun h => by cases h) (below_put hbw (Nat.le_refl _) _ _ _ _)
set_option maxRecDepth 100000 in
set_option maxHeartbeats 2000000 in
theorem read_int_ok (l : List UInt8) (u : Int) (w : World) (hE : Env w) (hl : l.length ≤ 90000) (n1 : (l == [110, 117, 108, 108]) = false) (n2 : (l == [116, 114, 117, 101]) = false) (n3 : (l == [102, 97, 108, 115, 101]) = false)
    (hquo : quoted l = none) (hta : tailed l = none) (hu : Lib.parseIntB 64 l = .ok u) (hR : readT l = if Lib.itoa u = l then (⟨1, u, 0, []⟩, 0) else (zeroT, 110)) : Calls Tryz.prog 31 #[.string (strL l)] w (ReadPost w l) := by
  have hc3 := fun W => cutS_at l [117] W (by omega)
  rw [tailed_no hta] at hc3
  generalize Lib.trimSuffix l [117] = m3 at hc3
  have hlt64 := parseIntB_le hu
  have hpu := fun W => ParseI_ok l u W (by omega) hu
  replace hpu := Lib.hid hpu
  replace hR := Lib.hid hR
  have hq := quoted_no hquo
  have hc1 := fun W => cutP_at l [120, 39] W
  have hml : (Lib.trimPrefix l [120, 39]).length ≤ 100000 := by
    unfold Lib.trimPrefix
    split
    · simp; omega
    · omega
  have hc2 := fun W => cutS_at (Lib.trimPrefix l [120, 39]) [39] W hml
  generalize Lib.hasPrefix l [120, 39] = p at *
  generalize Lib.hasSuffix (Lib.trimPrefix l [120, 39]) [39] = q at *
  generalize Lib.trimSuffix (Lib.trimPrefix l [120, 39]) [39] = m2 at *
  generalize Lib.trimPrefix l [120, 39] = m at *
  have hb0 : Below w.heap.size w (w.alloc (.cells #[.int .i64 0, .int .i64 0, .int .u64 0, .string (strL [])] 25)) := (Below.refl _ w).alloc (Nat.le_refl _) _
  have hV0 := VBox.new w 0 0 0 (strL [])
  have hE0 := hE.alloc (.cells #[.int .i64 0, .int .i64 0, .int .u64 0, .string (strL [])] 25)
  replace hc1 := Lib.hid hc1
  replace hc2 := Lib.hid hc2
  replace hc3 := Lib.hid hc3
  clear hml hquo
  clear hta hu
  go_enter Tryz.func31, Tryz.ntmps31
  go_wp2_with fail
  refine (hc1.out _).mono ?_
  rintro e w' ⟨rfl, rfl⟩
  go_wp2_with fail
  refine (hc2.out _).mono ?_
  rintro e w' ⟨rfl, rfl⟩
  clear n1 n2 n3 hc1 hc2
  have hpq : p = false ∨ (p = true ∧ q = false) := by
    cases p
    · exact .inl rfl
    · exact .inr ⟨rfl, by simpa using hq⟩
  clear hq
  rcases hpq with rfl | ⟨rfl, rfl⟩
  all_goals
    go_wp2_with fail
    refine (hc3.out _).mono ?_
    rintro e w' ⟨rfl, rfl⟩
    go_wp2_with fail
    refine (hpu.out _).mono ?_
    rintro e w2 ⟨rfl, hb2⟩
    have hE2 := hE0.below hb2
    have hV2 := hV0.below hb2 (by simp)
    have hbw := gr hb0 hb2
    have cv := hV2.cells
    have f0 := hV2.frozen 0
    have f1 := hV2.frozen 1
    have f2 := hV2.frozen 2
    have f3 := hV2.frozen 3
    go_wp2_with fail
    refine (FmtI_any u _ hE2 hlt64.1 hlt64.2).mono ?_
    rintro e w3 ⟨rfl, hb3⟩
    have hV3 := hV2.below hb3 hV2.lt
    have hbw3 := gr hbw hb3
    have cv3 := hV3.cells
    have g0 := hV3.frozen 0
    have g1 := hV3.frozen 1
    have g2 := hV3.frozen 2
    have g3 := hV3.frozen 3
    clear cv f0 f1 f2 f3 hb2 hb3 hV2 hV0 hE2 hb0 hE0 hbw
    by_cases hd : Lib.itoa u = l
    · have e1 : (Lib.itoa u != l) = false := by simpa using hd
      have e2 : (Lib.itoa u == l) = true := by simpa using hd
      have hR2 := hR.out
      rw [if_pos hd] at hR2
      replace hR2 := Lib.hid hR2
      clear hd hR
      go_wp2
      refine bodyPost_ret (results_cellV rfl _ _ rfl (hV3.put 1 u 0 (strL []))) rfl ?_
      exact ReadPost.mk ⟨1, u, 0, []⟩ [] 0 _ hR2.out rfl (fun h => rfl) (below_put hbw3 (Nat.le_refl _) _ _ _ _)
    · have e1 : (Lib.itoa u != l) = true := by simpa using hd
      have e2 : (Lib.itoa u == l) = false := by simpa using hd
      have hR2 := hR.out
      rw [if_neg hd] at hR2
      replace hR2 := Lib.hid hR2
      clear hd hR
      go_wp2
      refine bodyPost_ret (results_cellV rfl _ _ rfl (hV3.put 0 0 0 (strL []))) rfl ?_
      exact ReadPost.mk zeroT l 110 _ hR2.out rfl (fun h => by cases h) (below_put hbw3 (Nat.le_refl _) _ _ _ _)
set_option maxRecDepth 100000 in
set_option maxHeartbeats 2000000 in
theorem read_int_bad (l : List UInt8) (w : World) (hE : Env w) (hl : l.length ≤ 90000) (n1 : (l == [110, 117, 108, 108]) = false) (n2 : (l == [116, 114, 117, 101]) = false) (n3 : (l == [102, 97, 108, 115, 101]) = false)
    (hquo : quoted l = none) (hta : tailed l = none) (hu : ∀ u, Lib.parseIntB 64 l ≠ .ok u) (hR : readT l = (zeroT, 110)) : Calls Tryz.prog 31 #[.string (strL l)] w (ReadPost w l) := by
  have hc3 := fun W => cutS_at l [117] W (by omega)
  rw [tailed_no hta] at hc3
  generalize Lib.trimSuffix l [117] = m3 at hc3
  have hpu := fun W h => ParseI_bad l W h (by omega) hu
  replace hpu := Lib.hid hpu
  replace hR := Lib.hid hR
  have hq := quoted_no hquo
  have hc1 := fun W => cutP_at l [120, 39] W
  have hml : (Lib.trimPrefix l [120, 39]).length ≤ 100000 := by
    unfold Lib.trimPrefix
    split
    · simp; omega
    · omega
  have hc2 := fun W => cutS_at (Lib.trimPrefix l [120, 39]) [39] W hml
  generalize Lib.hasPrefix l [120, 39] = p at *
  generalize Lib.hasSuffix (Lib.trimPrefix l [120, 39]) [39] = q at *
  generalize Lib.trimSuffix (Lib.trimPrefix l [120, 39]) [39] = m2 at *
  generalize Lib.trimPrefix l [120, 39] = m at *
  have hb0 : Below w.heap.size w (w.alloc (.cells #[.int .i64 0, .int .i64 0, .int .u64 0, .string (strL [])] 25)) := (Below.refl _ w).alloc (Nat.le_refl _) _
  have hV0 := VBox.new w 0 0 0 (strL [])
  have hE0 := hE.alloc (.cells #[.int .i64 0, .int .i64 0, .int .u64 0, .string (strL [])] 25)
  replace hc1 := Lib.hid hc1
  replace hc2 := Lib.hid hc2
  replace hc3 := Lib.hid hc3
  clear hml hquo
  clear hta hu
  go_enter Tryz.func31, Tryz.ntmps31
  go_wp2_with fail
  refine (hc1.out _).mono ?_
  rintro e w' ⟨rfl, rfl⟩
  go_wp2_with fail
  refine (hc2.out _).mono ?_
  rintro e w' ⟨rfl, rfl⟩
  clear n1 n2 n3 hc1 hc2
  have hpq : p = false ∨ (p = true ∧ q = false) := by
    cases p
    · exact .inl rfl
    · exact .inr ⟨rfl, by simpa using hq⟩
  clear hq
  rcases hpq with rfl | ⟨rfl, rfl⟩
  all_goals
    go_wp2_with fail
    refine (hc3.out _).mono ?_
    rintro e w' ⟨rfl, rfl⟩
    go_wp2_with fail
    refine (hpu.out _ hE0).mono ?_
    rintro e w2 ⟨v, N, rfl, hb2⟩
    have hV2 := hV0.below hb2 (by simp)
    have hbw := gr hb0 hb2
    have cv := hV2.cells
    have f0 := hV2.frozen 0
    have f1 := hV2.frozen 1
    have f2 := hV2.frozen 2
    have f3 := hV2.frozen 3
    clear hb2 hV0 hE0 hb0
    go_wp2
    refine bodyPost_ret (results_cellV rfl _ _ rfl (hV2.put 0 0 0 (strL []))) rfl ?_
    exact ReadPost.mk zeroT l 110 _ hR.out rfl (fun h => by cases h) (below_put hbw (Nat.le_refl _) _ _ _ _)

theorem read_any (l : List UInt8) (w : World) (hE : Env w) (hl : l.length ≤ 90000) : Calls Tryz.prog 31 #[.string (strL l)] w (ReadPost w l) := by
  by_cases h1 : l = nullL
  · subst h1
    exact read_null w
  by_cases h2 : l = trueL
  · subst h2
    exact read_true w
  by_cases h3 : l = falseL
  · subst h3
    exact read_false w
  have n1 : (l == [110, 117, 108, 108]) = false := by simpa [nullL] using h1
  have n2 : (l == [116, 114, 117, 101]) = false := by simpa [trueL] using h2
  have n3 : (l == [102, 97, 108, 115, 101]) = false := by simpa [falseL] using h3
  have hR0 : readT l = match quoted l with
    | some t => match unhex t with
      | some b => if 200 < b.length then (zeroT, 3) else (⟨4, 0, 0, b⟩, 0)
      | none => (zeroT, 110)
    | none => match tailed l with
      | some t => match unsD t with
        | some n => (⟨2, 0, (n : Int), []⟩, 0)
        | none => (zeroT, 110)
      | none => match sigD l with
        | some n => (⟨1, n, 0, []⟩, 0)
        | none => (zeroT, 110) := by
    unfold readT
    rw [if_neg h1, if_neg h2, if_neg h3]
    rfl
  cases hq : quoted l with
  | some t =>
    have e := quoted_some hq
    subst e
    exact read_quoted t w (by simp at hl; omega)
  | none =>
    rw [hq] at hR0
    dsimp only at hR0
    cases ht : tailed l with
    | some t =>
      rw [ht] at hR0
      dsimp only at hR0
      have e := tailed_some ht
      cases hp : Lib.parseUintB 64 t with
      | ok u =>
        refine read_uint_ok t l u w hE hl e n1 n2 n3 hq hp ?_
        rw [hR0]
        by_cases hd : Lib.decDigits u = t
        · rw [if_pos hd, (unsD_some t u).2 ⟨hp, hd⟩]
        · rw [if_neg hd]
          cases hu : unsD t with
          | none => rfl
          | some n =>
            obtain ⟨h5, h6⟩ := (unsD_some t n).1 hu
            rw [hp] at h5
            injection h5 with h5
            subst h5
            exact absurd h6 hd
      | range =>
        refine read_uint_bad t l w hE hl e n1 n2 n3 hq (fun u h => by rw [hp] at h; cases h) ?_
        rw [hR0]
        cases hu : unsD t with
        | none => rfl
        | some n => have h5 := ((unsD_some t n).1 hu).1; rw [hp] at h5; cases h5
      | _ =>
        refine read_uint_bad t l w hE hl e n1 n2 n3 hq (fun u h => by rw [hp] at h; cases h) ?_
        rw [hR0]
        cases hu : unsD t with
        | none => rfl
        | some n => have h5 := ((unsD_some t n).1 hu).1; rw [hp] at h5; cases h5
    | none =>
      rw [ht] at hR0
      dsimp only at hR0
      cases hp : Lib.parseIntB 64 l with
      | ok u =>
        refine read_int_ok l u w hE hl n1 n2 n3 hq ht hp ?_
        rw [hR0]
        by_cases hd : Lib.itoa u = l
        · rw [if_pos hd, (sigD_some l u).2 ⟨hp, hd⟩]
        · rw [if_neg hd]
          cases hu : sigD l with
          | none => rfl
          | some n =>
            obtain ⟨h5, h6⟩ := (sigD_some l n).1 hu
            rw [hp] at h5
            injection h5 with h5
            subst h5
            exact absurd h6 hd
      | range =>
        refine read_int_bad l w hE hl n1 n2 n3 hq ht (fun u h => by rw [hp] at h; cases h) ?_
        rw [hR0]
        cases hu : sigD l with
        | none => rfl
        | some n => have h5 := ((sigD_some l n).1 hu).1; rw [hp] at h5; cases h5
      | _ =>
        refine read_int_bad l w hE hl n1 n2 n3 hq ht (fun u h => by rw [hp] at h; cases h) ?_
        rw [hR0]
        cases hu : sigD l with
        | none => rfl
        | some n => have h5 := ((sigD_some l n).1 hu).1; rw [hp] at h5; cases h5
end Go.Proofs.YtcicmeggbkhniaaGreatDoor
