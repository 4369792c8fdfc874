/- The reference's Parse. -/
import Derived.Test.YtcicmeggbkhniaaGreatDoorRefPa
import Derived.Test.YtcicmeggbkhniaaGreatDoorRefPb
import Derived.Test.YtcicmeggbkhniaaGreatDoorParseE
namespace Go.Proofs.YtcicmeggbkhniaaGreatDoor
open Go.RowKit
set_option linter.unusedVariables false

theorem quoted_three {l : List UInt8} (h : quoted l = none) : l.length < 3 ∨ (3 ≤ l.length ∧ (l.take 2 == [120, 39]) = false) ∨ (3 ≤ l.length ∧ (l.take 2 == [120, 39]) = true ∧ l.getLast? ≠ some 39) := by
  unfold quoted at h
  split at h
  · cases h
  · rename_i hc
    by_cases h1 : l.length < 3
    · exact .inl h1
    · by_cases h2 : l.take 2 = [120, 39]
      · exact .inr (.inr ⟨by omega, by simpa using h2, fun e => hc ⟨by omega, h2, e⟩⟩)
      · exact .inr (.inl ⟨by omega, by simpa using h2⟩)
theorem last_at {l : List UInt8} {m : Nat} (h : l.length = m + 1) : ∃ c, l.getLast? = some c ∧ ∀ h, (strL l)[m]'h = c := by
  refine ⟨l[m]'(by omega), ?_, fun _ => rfl⟩
  have e : l.length - 1 = m := by omega
  rw [List.getLast?_eq_getElem?, e, List.getElem?_eq_getElem]

attribute [local go_sem] strL_toList
set_option maxRecDepth 100000 in
set_option maxHeartbeats 2000000 in
theorem rParse_quo (t : List UInt8) (w : World) (hl : t.length ≤ 80000) : Calls Tryz.prog 14 #[.string (strL (120 :: 39 :: (t ++ [39])))] w (ParsePost w (120 :: 39 :: (t ++ [39]))) := by
  have hu := fun W => rbytes_any t W (by omega)
  unfold rbV at hu
  have hR : readT (120 :: 39 :: (t ++ [39])) = match unhex t with
      | some b => if 200 < b.length then (zeroT, 3) else (⟨4, 0, 0, b⟩, 0)
      | none => (zeroT, 110) := by
    unfold readT
    rw [if_neg (by intro e; cases e), if_neg (by intro e; cases e), if_neg (by intro e; cases e), quoted_of]
    rfl
  have hsl2 : ∀ W, (Instr.slice 9 (.string (strL (120 :: 39 :: (t ++ [39])))) none (some (.int .i64 2)) none).run Tryz.prog W = .ok (.string (strL [120, 39])) W := fun W => sl_hi (120 :: 39 :: (t ++ [39])) 2 (by simp) W
  have hsl : ∀ W, (Instr.slice 9 (.string (strL (120 :: 39 :: (t ++ [39])))) (some (.int .i64 2)) (some (.int .i64 ((t.length : Int) + 2))) none).run Tryz.prog W = .ok (.string (strL t)) W := fun W => by
    have h := sl_both (120 :: 39 :: (t ++ [39])) 2 (t.length + 2) (by omega) (by simp) W
    have e : ((120 :: 39 :: (t ++ [39])).drop 2).take (t.length + 2 - 2) = t := by simp
    rw [e] at h
    exact h
  have n1 : ((120 :: 39 :: (t ++ [39])) == ([110, 117, 108, 108] : List UInt8)) = false := by simp
  have n2 : ((120 :: 39 :: (t ++ [39])) == ([116, 114, 117, 101] : List UInt8)) = false := by simp
  have n3 : ((120 :: 39 :: (t ++ [39])) == ([102, 97, 108, 115, 101] : List UInt8)) = false := by simp
  have hget : ∀ h, (strL (120 :: 39 :: (t ++ [39])))[t.length + 2]'h = 39 := fun h => (by simp : (120 :: 39 :: (t ++ [39]))[t.length + 2]'(by simp) = 39)
  have hsz : (strL (120 :: 39 :: (t ++ [39]))).size = t.length + 2 + 1 := by rw [strL_size]; simp
  have hw : ParsePost w (120 :: 39 :: (t ++ [39])) = ParsePost w (120 :: 39 :: (t ++ [39])) := rfl
  have d3 : decide ((3 : Int) ≤ (t.length : Int) + 2 + 1) = true := by simp; omega
  have hn : t.length < 80001 := by omega
  have hV0 := VBox.new w 0 0 0 ByteArray.empty
  have hb0 : Below w.heap.size w (w.alloc (.cells #[.int .i64 0, .int .i64 0, .int .u64 0, .string ByteArray.empty] 25)) := (Below.refl _ w).alloc (Nat.le_refl _) _
  generalize (120 :: 39 :: (t ++ [39])) = l at *
  generalize t.length = m at *
  cases hx : unhex t with
  | none =>
    rw [hx] at hu hR
    replace hu := Lib.hid hu
    replace hR := Lib.hid hR
    clear hx
    go_enter Tryz.func14, Tryz.ntmps14
    go_wp2_with fail
    refine (hu.out _).mono ?_
    rintro e w2 ⟨rfl, hb⟩
    have hV2 := hV0.below hb (by simp)
    have hb2 := gr hb0 hb
    have cv := hV2.cells
    have f0 := hV2.frozen 0
    have f1 := hV2.frozen 1
    have f2 := hV2.frozen 2
    have f3 := hV2.frozen 3
    clear hu hb hV0 hb0
    go_wp2
    refine bodyPost_ret (results_cellV rfl _ _ rfl (hV2.put 0 0 0 ByteArray.empty)) rfl ⟨by rw [hR.out]; rfl, below_put hb2 (Nat.le_refl _) _ _ _ _⟩
  | some b =>
    rw [hx] at hu hR
    dsimp only at hu hR
    have hbz : (strL b).size = b.length := strL_size b
    by_cases h200 : 200 < b.length
    · have d4 : decide ((200 : Int) < (b.length : Int)) = true := by simp; omega
      rw [if_pos h200] at hR
      replace hu := Lib.hid hu
      replace hR := Lib.hid hR
      clear hx h200
      go_enter Tryz.func14, Tryz.ntmps14
      go_wp2_with fail
      refine (hu.out _).mono ?_
      rintro e w2 ⟨rfl, hb⟩
      have hV2 := hV0.below hb (by simp)
      have hb2 := gr hb0 hb
      have cv := hV2.cells
      have f0 := hV2.frozen 0
      have f1 := hV2.frozen 1
      have f2 := hV2.frozen 2
      have f3 := hV2.frozen 3
      clear hu hb hV0 hb0
      go_wp2
      refine bodyPost_ret (results_cellV rfl _ _ rfl (hV2.put 0 0 0 ByteArray.empty)) rfl ⟨by rw [hR.out]; rfl, below_put hb2 (Nat.le_refl _) _ _ _ _⟩
    · have d4 : decide ((200 : Int) < (b.length : Int)) = false := by simp; omega
      rw [if_neg h200] at hR
      replace hu := Lib.hid hu
      replace hR := Lib.hid hR
      clear hx h200
      go_enter Tryz.func14, Tryz.ntmps14
      go_wp2_with fail
      refine (hu.out _).mono ?_
      rintro e w2 ⟨rfl, hb⟩
      have hV2 := hV0.below hb (by simp)
      have hb2 := gr hb0 hb
      have cv := hV2.cells
      have f0 := hV2.frozen 0
      have f1 := hV2.frozen 1
      have f2 := hV2.frozen 2
      have f3 := hV2.frozen 3
      clear hu hb hV0 hb0
      go_wp2
      refine bodyPost_ret (results_cellV rfl _ _ rfl (hV2.put 4 0 0 (strL b))) rfl ⟨by rw [hR.out]; rfl, below_put hb2 (Nat.le_refl _) _ _ _ _⟩
set_option maxRecDepth 100000 in
theorem rParse_null (w : World) : Calls Tryz.prog 14 #[.string (strL nullL)] w (ParsePost w nullL) := by
  unfold nullL
  go_enter Tryz.func14, Tryz.ntmps14
  go_wp2
  refine bodyPost_ret (results_cellV rfl _ _ rfl (VBox.new w 0 0 0 ByteArray.empty)) rfl ⟨rfl, (Below.refl _ w).alloc (Nat.le_refl _) _⟩
set_option maxRecDepth 100000 in
theorem rParse_false (w : World) : Calls Tryz.prog 14 #[.string (strL falseL)] w (ParsePost w falseL) := by
  unfold falseL
  go_enter Tryz.func14, Tryz.ntmps14
  go_wp2
  refine bodyPost_ret (results_cellV rfl _ _ rfl (VBox.new w 3 0 0 ByteArray.empty)) rfl ⟨rfl, (Below.refl _ w).alloc (Nat.le_refl _) _⟩
set_option maxRecDepth 100000 in
theorem rParse_true (w : World) : Calls Tryz.prog 14 #[.string (strL trueL)] w (ParsePost w trueL) := by
  unfold trueL
  go_enter Tryz.func14, Tryz.ntmps14
  go_wp2
  refine bodyPost_ret (results_cellV rfl _ _ rfl (VBox.new w 3 1 0 ByteArray.empty)) rfl ⟨rfl, (Below.refl _ w).alloc (Nat.le_refl _) _⟩

/-- What region 9 asks, where it is not so. -/
def NoQuo (l : List UInt8) (m : Nat) (c : UInt8) : Prop := decide ((3 : Int) ≤ (m : Int) + 1) = false ∨ (decide ((3 : Int) ≤ (m : Int) + 1) = true ∧ (l.take 2 == [120, 39]) = false) ∨ (decide ((3 : Int) ≤ (m : Int) + 1) = true ∧ (l.take 2 == [120, 39]) = true ∧ ((c.toNat : Int) == 39) = false)
theorem toNat_ne {c d : UInt8} (h : c ≠ d) : ((c.toNat : Int) == (d.toNat : Int)) = false := by
  simp only [beq_eq_false_iff_ne, ne_eq]
  intro e
  exact h (UInt8.toNat_inj.1 (by omega))
theorem noQuo {l : List UInt8} {m : Nat} {c : UInt8} (h : l.length = m + 1) (hc : l.getLast? = some c) (hq : quoted l = none) : NoQuo l m c := by
  rcases quoted_three hq with h1 | ⟨h1, h2⟩ | ⟨h1, h2, h3⟩
  · exact .inl (by simp; omega)
  · exact .inr (.inl ⟨by simp; omega, h2⟩)
  · exact .inr (.inr ⟨by simp; omega, h2, toNat_ne (d := 39) (fun e => h3 (by rw [hc, e]))⟩)
set_option maxRecDepth 100000 in
set_option maxHeartbeats 2000000 in
theorem rParse_u (t : List UInt8) (w : World) (hl : t.length ≤ 80000) (hq : quoted (t ++ [117]) = none) (n1 : ((t ++ [117]) == [110, 117, 108, 108]) = false) (n2 : ((t ++ [117]) == [116, 114, 117, 101]) = false) (n3 : ((t ++ [117]) == [102, 97, 108, 115, 101]) = false)
    (hR : readT (t ++ [117]) = match unsD t with | some n => (⟨2, 0, (n : Int), []⟩, 0) | none => (zeroT, 110)) : Calls Tryz.prog 14 #[.string (strL (t ++ [117]))] w (ParsePost w (t ++ [117])) := by
  have hu := fun W => unsigned_any t W (by omega)
  unfold uV at hu
  have hm : (t ++ [117]).length = t.length + 1 := by simp
  have hsl : ∀ W, (Instr.slice 9 (.string (strL (t ++ [117]))) none (some (.int .i64 (t.length : Int))) none).run Tryz.prog W = .ok (.string (strL t)) W := fun W => by
    have h := sl_hi (t ++ [117]) t.length (by simp) W
    have e : (t ++ [117]).take t.length = t := by simp
    rw [e] at h
    exact h
  have hget : ∀ h, (strL (t ++ [117]))[t.length]'h = 117 := fun h => (by simp : (t ++ [117])[t.length]'(by simp) = 117)
  have hlast : (t ++ [117]).getLast? = some 117 := by simp
  generalize hlt : (t ++ [117]) = l at *
  clear hlt
  generalize t.length = m at *
  have hsl2 : ∀ W, 3 ≤ m + 1 → (Instr.slice 9 (.string (strL l)) none (some (.int .i64 2)) none).run Tryz.prog W = .ok (.string (strL (l.take 2))) W := fun W h => sl_hi l 2 (by omega) W
  have hsz : (strL l).size = m + 1 := by rw [strL_size]; exact hm
  have hnq := noQuo hm hlast hq
  have hm2 : m < 90001 := by omega
  unfold NoQuo at hnq
  generalize l.take 2 = p at *
  cases hx : unsD t with
  | none =>
    rw [hx] at hu hR
    replace hu := Lib.hid hu
    replace hR := Lib.hid hR
    clear hx hq hlast hm
    rcases hnq with d1 | ⟨d1, d2⟩ | ⟨d1, d2, d3⟩
    · clear hsl2
      go_enter Tryz.func14, Tryz.ntmps14
      go_wp2_with fail
      refine (hu.out _).mono ?_
      rintro e w' ⟨rfl, rfl⟩
      clear hu
      go_wp2
      refine bodyPost_ret (results_cellV rfl _ _ rfl (VBox.new w 0 0 0 ByteArray.empty)) rfl ⟨by rw [hR.out]; rfl, (Below.refl _ w).alloc (Nat.le_refl _) _⟩
    · replace hsl2 := fun W => hsl2 W (by simp at d1; omega)
      go_enter Tryz.func14, Tryz.ntmps14
      go_wp2_with fail
      refine (hu.out _).mono ?_
      rintro e w' ⟨rfl, rfl⟩
      clear hu
      go_wp2
      refine bodyPost_ret (results_cellV rfl _ _ rfl (VBox.new w 0 0 0 ByteArray.empty)) rfl ⟨by rw [hR.out]; rfl, (Below.refl _ w).alloc (Nat.le_refl _) _⟩
    · replace hsl2 := fun W => hsl2 W (by simp at d1; omega)
      go_enter Tryz.func14, Tryz.ntmps14
      go_wp2_with fail
      refine (hu.out _).mono ?_
      rintro e w' ⟨rfl, rfl⟩
      clear hu
      go_wp2
      refine bodyPost_ret (results_cellV rfl _ _ rfl (VBox.new w 0 0 0 ByteArray.empty)) rfl ⟨by rw [hR.out]; rfl, (Below.refl _ w).alloc (Nat.le_refl _) _⟩
  | some n =>
    rw [hx] at hu hR
    dsimp only at hu
    replace hu := Lib.hid hu
    replace hR := Lib.hid hR
    clear hx hq hlast hm
    rcases hnq with d1 | ⟨d1, d2⟩ | ⟨d1, d2, d3⟩
    · clear hsl2
      go_enter Tryz.func14, Tryz.ntmps14
      go_wp2_with fail
      refine (hu.out _).mono ?_
      rintro e w' ⟨rfl, rfl⟩
      clear hu
      go_wp2
      refine bodyPost_ret (results_cellV rfl _ _ rfl (VBox.new w 2 0 (n : Int) ByteArray.empty)) rfl ⟨by rw [hR.out]; rfl, (Below.refl _ w).alloc (Nat.le_refl _) _⟩
    · replace hsl2 := fun W => hsl2 W (by simp at d1; omega)
      go_enter Tryz.func14, Tryz.ntmps14
      go_wp2_with fail
      refine (hu.out _).mono ?_
      rintro e w' ⟨rfl, rfl⟩
      clear hu
      go_wp2
      refine bodyPost_ret (results_cellV rfl _ _ rfl (VBox.new w 2 0 (n : Int) ByteArray.empty)) rfl ⟨by rw [hR.out]; rfl, (Below.refl _ w).alloc (Nat.le_refl _) _⟩
    · replace hsl2 := fun W => hsl2 W (by simp at d1; omega)
      go_enter Tryz.func14, Tryz.ntmps14
      go_wp2_with fail
      refine (hu.out _).mono ?_
      rintro e w' ⟨rfl, rfl⟩
      clear hu
      go_wp2
      refine bodyPost_ret (results_cellV rfl _ _ rfl (VBox.new w 2 0 (n : Int) ByteArray.empty)) rfl ⟨by rw [hR.out]; rfl, (Below.refl _ w).alloc (Nat.le_refl _) _⟩
set_option maxRecDepth 100000 in
set_option maxHeartbeats 2000000 in
theorem rParse_n (l : List UInt8) (m : Nat) (c : UInt8) (w : World) (hm : l.length = m + 1) (hl : l.length ≤ 80000) (hlast : l.getLast? = some c) (hget : ∀ h, (strL l)[m]'h = c) (hc : ((c.toNat : Int) == 117) = false) (hq : quoted l = none) (n1 : (l == [110, 117, 108, 108]) = false) (n2 : (l == [116, 114, 117, 101]) = false) (n3 : (l == [102, 97, 108, 115, 101]) = false)
    (hR : readT l = match sigD l with | some n => (⟨1, n, 0, []⟩, 0) | none => (zeroT, 110)) : Calls Tryz.prog 14 #[.string (strL l)] w (ParsePost w l) := by
  have hu := fun W => signed_any l W (by omega)
  unfold SgPost at hu
  have hsl2 : ∀ W, 3 ≤ m + 1 → (Instr.slice 9 (.string (strL l)) none (some (.int .i64 2)) none).run Tryz.prog W = .ok (.string (strL (l.take 2))) W := fun W h => sl_hi l 2 (by omega) W
  have hsz : (strL l).size = m + 1 := by rw [strL_size]; exact hm
  have hnq := noQuo hm hlast hq
  have hm2 : m < 90001 := by omega
  unfold NoQuo at hnq
  generalize l.take 2 = p at *
  clear hm hlast hq
  rcases hnq with d1 | ⟨d1, d2⟩ | ⟨d1, d2, d3⟩
  · clear hsl2
    cases hx : sigD l with
    | none =>
      rw [hx] at hu hR
      simp only [Option.isSome_none] at hu
      replace hu := Lib.hid hu
      replace hR := Lib.hid hR
      clear hx
      go_enter Tryz.func14, Tryz.ntmps14
      go_wp2_with fail
      refine (hu.out _).mono ?_
      rintro e w' ⟨v, rfl, hv, rfl⟩
      replace hv := Lib.hid hv
      clear hu
      go_wp2
      refine bodyPost_ret (results_cellV rfl _ _ rfl (VBox.new w 0 0 0 ByteArray.empty)) rfl ⟨by rw [hR.out]; rfl, (Below.refl _ w).alloc (Nat.le_refl _) _⟩
    | some n =>
      rw [hx] at hu hR
      simp only [Option.isSome_some] at hu
      replace hu := Lib.hid hu
      replace hR := Lib.hid hR
      clear hx
      go_enter Tryz.func14, Tryz.ntmps14
      go_wp2_with fail
      refine (hu.out _).mono ?_
      rintro e w' ⟨v, rfl, hv, rfl⟩
      replace hv := Lib.hid hv
      clear hu
      obtain rfl := hv.out _ rfl
      go_wp2
      refine bodyPost_ret (results_cellV rfl _ _ rfl (VBox.new w 1 v 0 ByteArray.empty)) rfl ⟨by rw [hR.out]; rfl, (Below.refl _ w).alloc (Nat.le_refl _) _⟩
  · replace hsl2 := fun W => hsl2 W (by simp at d1; omega)
    cases hx : sigD l with
    | none =>
      rw [hx] at hu hR
      simp only [Option.isSome_none] at hu
      replace hu := Lib.hid hu
      replace hR := Lib.hid hR
      clear hx
      go_enter Tryz.func14, Tryz.ntmps14
      go_wp2_with fail
      refine (hu.out _).mono ?_
      rintro e w' ⟨v, rfl, hv, rfl⟩
      replace hv := Lib.hid hv
      clear hu
      go_wp2
      refine bodyPost_ret (results_cellV rfl _ _ rfl (VBox.new w 0 0 0 ByteArray.empty)) rfl ⟨by rw [hR.out]; rfl, (Below.refl _ w).alloc (Nat.le_refl _) _⟩
    | some n =>
      rw [hx] at hu hR
      simp only [Option.isSome_some] at hu
      replace hu := Lib.hid hu
      replace hR := Lib.hid hR
      clear hx
      go_enter Tryz.func14, Tryz.ntmps14
      go_wp2_with fail
      refine (hu.out _).mono ?_
      rintro e w' ⟨v, rfl, hv, rfl⟩
      replace hv := Lib.hid hv
      clear hu
      obtain rfl := hv.out _ rfl
      go_wp2
      refine bodyPost_ret (results_cellV rfl _ _ rfl (VBox.new w 1 v 0 ByteArray.empty)) rfl ⟨by rw [hR.out]; rfl, (Below.refl _ w).alloc (Nat.le_refl _) _⟩
  · replace hsl2 := fun W => hsl2 W (by simp at d1; omega)
    cases hx : sigD l with
    | none =>
      rw [hx] at hu hR
      simp only [Option.isSome_none] at hu
      replace hu := Lib.hid hu
      replace hR := Lib.hid hR
      clear hx
      go_enter Tryz.func14, Tryz.ntmps14
      go_wp2_with fail
      refine (hu.out _).mono ?_
      rintro e w' ⟨v, rfl, hv, rfl⟩
      replace hv := Lib.hid hv
      clear hu
      go_wp2
      refine bodyPost_ret (results_cellV rfl _ _ rfl (VBox.new w 0 0 0 ByteArray.empty)) rfl ⟨by rw [hR.out]; rfl, (Below.refl _ w).alloc (Nat.le_refl _) _⟩
    | some n =>
      rw [hx] at hu hR
      simp only [Option.isSome_some] at hu
      replace hu := Lib.hid hu
      replace hR := Lib.hid hR
      clear hx
      go_enter Tryz.func14, Tryz.ntmps14
      go_wp2_with fail
      refine (hu.out _).mono ?_
      rintro e w' ⟨v, rfl, hv, rfl⟩
      replace hv := Lib.hid hv
      clear hu
      obtain rfl := hv.out _ rfl
      go_wp2
      refine bodyPost_ret (results_cellV rfl _ _ rfl (VBox.new w 1 v 0 ByteArray.empty)) rfl ⟨by rw [hR.out]; rfl, (Below.refl _ w).alloc (Nat.le_refl _) _⟩
set_option maxRecDepth 100000 in
theorem rParse_nil (w : World) : Calls Tryz.prog 14 #[.string (strL [])] w (ParsePost w []) := by
  have hu := fun W => signed_any [] W (by simp)
  unfold SgPost at hu
  have hR : readT [] = (zeroT, 110) := rfl
  replace hu := Lib.hid hu
  replace hR := Lib.hid hR
  have hsz : (strL []).size = 0 := rfl
  go_enter Tryz.func14, Tryz.ntmps14
  go_wp2_with fail
  refine (hu.out _).mono ?_
  rw [show (sigD []).isSome = false from rfl]
  rintro e w' ⟨v, rfl, hv, rfl⟩
  clear hu hv
  go_wp2
  refine bodyPost_ret (results_cellV rfl _ _ rfl (VBox.new w 0 0 0 ByteArray.empty)) rfl ⟨by rw [hR.out]; rfl, (Below.refl _ w).alloc (Nat.le_refl _) _⟩
theorem rParse_any (l : List UInt8) (w : World) (hl : l.length ≤ 80000) : Calls Tryz.prog 14 #[.string (strL l)] w (ParsePost w l) := by
  by_cases h1 : l = nullL
  · subst h1; exact rParse_null w
  by_cases h2 : l = trueL
  · subst h2; exact rParse_true w
  by_cases h3 : l = falseL
  · subst h3; exact rParse_false w
  have n1 : (l == [110, 117, 108, 108]) = false := by simpa [nullL] using h1
  have n2 : (l == [116, 114, 117, 101]) = false := by simpa [trueL] using h2
  have n3 : (l == [102, 97, 108, 115, 101]) = false := by simpa [falseL] using h3
  have hR : readT l = readT l := rfl
  conv at hR =>
    rhs
    unfold readT
    rw [if_neg h1, if_neg h2, if_neg h3]
  cases hq : quoted l with
  | some t =>
    have e := quoted_some hq
    rw [e]
    refine rParse_quo t w ?_
    rw [e] at hl
    simp at hl
    omega
  | none =>
    rw [hq] at hR
    dsimp only at hR
    cases ht : tailed l with
    | some t =>
      rw [ht] at hR
      have e := tailed_some ht
      rw [e] at hq n1 n2 n3 hR hl ⊢
      exact rParse_u t w (by simp at hl; omega) hq n1 n2 n3 hR
    | none =>
      rw [ht] at hR
      cases l with
      | nil => exact rParse_nil w
      | cons a r =>
        obtain ⟨c, hc1, hc2⟩ := last_at (l := a :: r) (m := r.length) (by simp)
        refine rParse_n (a :: r) r.length c w (by simp) hl hc1 hc2 (toNat_ne (d := 117) ?_) hq n1 n2 n3 hR
        intro e
        unfold tailed at ht
        rw [hc1, e, if_pos rfl] at ht
        cases ht
end Go.Proofs.YtcicmeggbkhniaaGreatDoor
