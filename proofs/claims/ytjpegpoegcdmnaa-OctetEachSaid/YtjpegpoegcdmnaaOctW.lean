/- Contract of the laws' works(): it answers true, and turns nothing that was there. -/
import Derived.Test.YtjpegpoegcdmnaaOctF
import Derived.Lib.SlBytesConst
namespace Go.Proofs.Ytjpegpoegcdmnaa
open Go.RowKit
set_option linter.unusedVariables false
attribute [local go_sem] strL_toList

theorem lit_rd (W : World) (e : TypeId) (l : List UInt8) (hl : l.length ≤ 1000) : Rd (W.alloc (.cells (l.map cb).toArray e)) (some ⟨W.heap.size, 0, none⟩) l.length l.length l :=
  (Ob.lit W 0 e l (Nat.zero_le _) (by simp only [maxLen]; omega)).rd

theorem lit_rd_mark (W : World) (e : TypeId) (l : List UInt8) (fr : Nat × Nat) (hl : l.length ≤ 1000) : Rd (W.alloc (.cells (l.map cb).toArray e fr)) (some ⟨W.heap.size, 0, none⟩) l.length l.length l := by
  refine ⟨by simp, Nat.le_refl _, by simp only [maxLen]; omega, fun _ => ⟨W.heap.size, 0, rfl, by simp, fun j u hu => ?_⟩⟩
  have h : (W.alloc (.cells (l.map cb).toArray e fr)).heap[W.heap.size]? = some (.cells (l.map cb).toArray e fr) := heap_alloc_new W _
  rw [cell_of_row _ W.heap.size (0 + j) _ e fr h]
  simpa using hu

/-- A slice of one slice of bytes. -/
theorem RdL.one (W : World) (H : Nat) (e : TypeId) (A : Option Addr) (n c : Nat) (l : List UInt8) (h : Rd W A n c l) (hH : W.heap.size = H) : RdL (W.alloc (.cells #[.slice A n c] e)) (some ⟨H, 0, none⟩) 1 1 [l] := by
  subst hH
  refine ⟨[(A, n, c)], ⟨rfl, Nat.le_refl _, by simp [maxLen], fun _ => ⟨W.heap.size, 0, rfl, by simp, fun j u hu => ?_⟩⟩, rfl, fun i h1 h2 => ?_⟩
  · match j with
    | 0 => simp at hu; subst hu; simp
    | j + 1 => simp at hu
  · match i with
    | 0 => exact h.below ((Below.refl _ W).alloc (Nat.le_refl _) _)
    | i + 1 => simp at h1
theorem RdL.none_ (W : World) : RdL W none 0 0 [] := ⟨[], Rv.nil W 1, rfl, fun i h => absurd h (Nat.not_lt_zero _)⟩

theorem Sum_below (A : Option Addr) (n c : Nat) (rows : List (List UInt8)) (w : World) (h : RdL w A n c rows) :
    Calls Try.prog 14 #[.slice A n c] w fun e w' => e = .returned (.int .u32 ((4294967295 - crc 4294967295 rows.flatten : Nat) : Int)) ∧ Below w.heap.size w w' :=
  (Sum_any A n c rows w h).mono fun _ _ ⟨h1, h2⟩ => ⟨h1, by subst h2; exact Below.refl _ _⟩

theorem crc_check : (4294967295 - crc 4294967295 [[49, 50, 51, 52, 53, 54, 55, 56, 57]].flatten) = 3808858755 := by decide +kernel
theorem crc_none : (4294967295 - crc 4294967295 ([] : List (List UInt8)).flatten) = 0 := by decide +kernel

set_option maxRecDepth 100000 in
set_option maxHeartbeats 2000000 in
theorem works_any (w : World) : Calls Try.prog 8 #[] w fun e w' => e = .returned (.bool true) ∧ Below w.heap.size w w' := by
  have f1 : readN [1, 0] = (0, 0, 120) := by decide
  have f2 : readN [2, 1, 2, 7] = (258, 3, 0) := by decide
  have f3 : fixedN 258 3 = ([0, 1, 2], 0) := by decide
  have f4 : fixedN 258 1 = ([], 4) := by decide
  have f5 : numL 0 = [0] := by decide
  have f6 : numL 258 = [2, 1, 2] := by decide
  have f7 : numL 2 ++ [97, 98] = [1, 2, 97, 98] := by decide
  have F1 := Lib.hid f1
  have F2 := Lib.hid f2
  have F3 := Lib.hid f3
  have F4 := Lib.hid f4
  have F5 := Lib.hid f5
  have F6 := Lib.hid f6
  have F7 := Lib.hid f7
  clear f1 f2 f3 f4 f5 f6 f7
  go_enter Try.func8, Try.ntmps8
  go_wp2_with fail
  refine (ReadNumber_any _ 2 2 [1, 0] _ (lit_rd w 5 [1, 0] (by decide))).mono ?_
  rw [F1.out]
  rintro e w1 ⟨rfl, hb1⟩
  have hb := gr (gr_alloc (Below.refl _ w) _) hb1
  clear hb1
  go_wp2_with fail
  refine (ReadNumber_any _ 4 4 [2, 1, 2, 7] _ (lit_rd w1 5 [2, 1, 2, 7] (by decide))).mono ?_
  rw [F2.out]
  rintro e w2 ⟨rfl, hb2⟩
  replace hb := gr (gr_alloc hb _) hb2
  clear hb2
  go_wp2_with fail
  refine (Fixed_any 258 3 w2 (by decide) (by decide) (by decide) (by decide)).mono ?_
  rintro e w3 ⟨A3, n3, c3, rfl, hown3, hb3⟩
  simp only [Int.reduceToNat, F3.out] at hown3 ⊢
  have hrd3 := hown3.rd
  have hn3 := hown3.len
  replace hb := gr hb hb3
  clear hb3 hown3
  go_wp2_with fail
  refine (Fixed_any 258 1 w3 (by decide) (by decide) (by decide) (by decide)).mono ?_
  rintro e w4 ⟨A4, n4, c4, rfl, hown4, hb4⟩
  simp only [Int.reduceToNat, F4.out] at hown4 ⊢
  replace hrd3 := hrd3.below hb4
  replace hb := gr hb hb4
  clear hb4 hown4
  go_wp2_with fail
  refine (Number_any 0 w4 (by decide) (by decide)).mono ?_
  rintro e w5 ⟨A5, n5, c5, rfl, hown5, hb5⟩
  simp only [Int.toNat_zero, F5.out] at hown5 
  have hcv := run_conv_b (P := Try.prog) w5 23 9 5 Try.underlying23 Try.underlying5 Try.underlying9 hown5.rd
  replace hrd3 := hrd3.below hb5
  replace hb := gr hb hb5
  clear hb5 hown5
  go_wp2_with fail
  clear hcv
  refine (Number_any 258 w5 (by decide) (by decide)).mono ?_
  rintro e w6 ⟨A6, n6, c6, rfl, hown6, hb6⟩
  simp only [Int.reduceToNat, F6.out] at hown6
  have hcv := run_conv_b (P := Try.prog) w6 23 9 5 Try.underlying23 Try.underlying5 Try.underlying9 hown6.rd
  replace hrd3 := hrd3.below hb6
  replace hb := gr hb hb6
  clear hb6 hown6
  go_wp2_with fail
  clear hcv
  refine (num_any 120 w6).mono ?_
  rintro e w7 ⟨rfl, rfl⟩
  go_wp2_with fail
  refine (num_any 0 w6).mono ?_
  rintro e w7 ⟨rfl, rfl⟩
  go_wp2_with fail
  refine (num_any 0 w6).mono ?_
  rintro e w7 ⟨rfl, rfl⟩
  go_wp2_with fail
  refine (Text_any _ w6 (by decide)).mono ?_
  rintro e w7 ⟨A7, n7, c7, rfl, hown7, hb7⟩
  replace hown7 : Ob w7 w6.heap.size 5 A7 n7 c7 (numL 2 ++ [97, 98]) := hown7
  rw [F7.out] at hown7
  have hcv := run_conv_b (P := Try.prog) w7 23 9 5 Try.underlying23 Try.underlying5 Try.underlying9 hown7.rd
  replace hrd3 := hrd3.below hb7
  replace hb := gr hb hb7
  have kc := fun (W : World) (C : Array Value) (n c : Nat) => Lib.run_convert_bytes_const (P := Try.prog) W 23 5 C n c Try.underlying23 Try.underlying5
  clear hb7 hown7
  go_wp2_with fail
  clear hcv kc
  refine (Sum_below _ 1 1 [[49, 50, 51, 52, 53, 54, 55, 56, 57]] _ (RdL.one _ (w7.heap.size + 1) 23 _ _ _ _ (lit_rd_mark w7 5 [49, 50, 51, 52, 53, 54, 55, 56, 57] (9, 10) (by decide)) (by simp))).mono ?_
  rintro e w8 ⟨rfl, hb8⟩
  replace hb8 := gr (gr_alloc (gr_alloc (Below.refl _ w7) _) _) hb8
  have F8 := Lib.hid crc_check
  rw [F8.out]
  go_wp2_with fail
  refine (Sum_any none 0 0 [] _ (RdL.none_ _)).mono ?_
  rintro e w9 ⟨rfl, rfl⟩
  have F9 := Lib.hid crc_none
  rw [F9.out]
  have hcv := run_conv_b (P := Try.prog) w8 23 9 5 Try.underlying23 Try.underlying5 Try.underlying9 (hrd3.below hb8)
  replace hb := gr hb hb8
  clear hb8 hrd3
  go_wp2_with fail
  refine (num_any 4 w8).mono ?_
  rintro e w9 ⟨rfl, rfl⟩
  go_wp2_with fail
  go_ret
  exact ⟨rfl, hb⟩
end Go.Proofs.Ytjpegpoegcdmnaa
