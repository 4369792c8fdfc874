/- key: must, take, turned, kinds, and the functions that lay what is no text. -/
import Derived.Test.YtdgmhegcoogokaaDoorVal
import Derived.Test.YtdgmhegcoogokaaDoorOctF
import Derived.Test.YtdgmhegcoogokaaDoorSlice
import Derived.WalkLawsBesides
import Derived.Laws.Bits64
namespace Go.Proofs.YtdgmhegcoogokaaDoor
open Go.RowKit
set_option linter.unusedVariables false

theorem xor_sign_lo (a : Nat) (ha : a < 2 ^ 63) : (2 ^ 63 + a) ^^^ 2 ^ 63 = a := by
  apply Nat.eq_of_testBit_eq
  intro j
  rw [Nat.testBit_xor]
  rcases Nat.lt_trichotomy j 63 with h | rfl | h
  · rw [Nat.testBit_two_pow_add_gt h, Nat.testBit_two_pow]
    have : (63 = j) = False := by simp; omega
    simp [this]
  · rw [Nat.testBit_two_pow_add_eq, Nat.testBit_two_pow]
    rw [Nat.testBit_lt_two_pow ha]
    simp
  · have hp : 2 ^ 64 ≤ 2 ^ j := Nat.pow_le_pow_right (by omega) (by omega)
    rw [Nat.testBit_lt_two_pow (show 2 ^ 63 + a < 2 ^ j by omega), Nat.testBit_two_pow, Nat.testBit_lt_two_pow (show a < 2 ^ j by omega)]
    have : (63 = j) = False := by simp; omega
    simp [this]
theorem xor_sign (a : Nat) (ha : a < 18446744073709551616) : a ^^^ 9223372036854775808 = if a < 9223372036854775808 then a + 9223372036854775808 else a - 9223372036854775808 := by
  split
  · have h := xor_sign_lo a (by omega)
    rw [show (9223372036854775808 : Nat) = 2 ^ 63 from rfl] at *
    have h2 : ((2 ^ 63 + a) ^^^ 2 ^ 63) ^^^ 2 ^ 63 = a ^^^ 2 ^ 63 := by rw [h]
    rw [Nat.xor_assoc, Nat.xor_self, Nat.xor_zero] at h2
    omega
  · have h := xor_sign_lo (a - 9223372036854775808) (by omega)
    rw [show 2 ^ 63 + (a - 9223372036854775808) = a by omega] at h
    exact h

/-- What must gives up with. -/
def keyPanic : List PanicEntry := [{ v := .iface 25 (.int .i64 150), recovered := false }]

theorem must_true (w : World) : Calls Tryd.prog 47 #[.bool true] w fun e w' => e = .returned (.tuple #[]) ∧ w = w' := by
  go_enter Tryd.func47, Tryd.ntmps47
  go_wp2
  go_end0
  exact ⟨rfl, rfl⟩
theorem must_false (w : World) : Calls Tryd.prog 47 #[.bool false] w fun e w' => e = .panicked keyPanic ∧ w = w' := by
  go_enter Tryd.func47, Tryd.ntmps47
  go_wp2
  exact ⟨rfl, rfl, rfl⟩

/-- A tape in its box. -/
def SBox (W : World) (B : Nat) (x : ByteArray) : Prop := W.heap[B]? = some (.cells #[.string x] 93 (0, 0))
theorem SBox.cells {W : World} {B : Nat} {x : ByteArray} (h : SBox W B x) : W.cell? ⟨B, 0, none⟩ = some (.string x) ∧ W.frozen? ⟨B, 0, none⟩ = false := by
  unfold SBox at h
  simp [World.cell?, World.frozen?, h]

theorem take_some (B : Nat) (x : ByteArray) (n : Nat) (w : World) (h : SBox w B x) (hn : n ≤ x.size) (hx : x.size ≤ maxLen) :
    Calls Tryd.prog 41 #[.pointer (some ⟨B, 0, none⟩), .int .i64 (n : Int)] w fun e w' => e = .returned (.string (x.extract 0 n)) ∧ w' = w.setCell ⟨B, 0, none⟩ (.string (x.extract n x.size)) := by
  have hc := h.cells
  have hd : decide (n ≤ x.size) = true := by simpa using hn
  go_enter Tryd.func41, Tryd.ntmps41
  go_wp2_with (go_at_call 47; refine (must_true _).mono ?_; rintro e w' ⟨rfl, rfl⟩)
  go_ret
  exact ⟨rfl, rfl⟩
theorem take_none (B : Nat) (x : ByteArray) (n : Nat) (w : World) (h : SBox w B x) (hn : x.size < n) (hx : n ≤ maxLen) :
    Calls Tryd.prog 41 #[.pointer (some ⟨B, 0, none⟩), .int .i64 (n : Int)] w fun e w' => e = .panicked keyPanic ∧ w = w' := by
  have hc := h.cells
  have hd : decide (n ≤ x.size) = false := by simp; omega
  go_enter Tryd.func41, Tryd.ntmps41
  go_wp2_with (go_at_call 47; refine (must_false _).mono ?_; rintro e w' ⟨rfl, rfl⟩)
  exact ⟨rfl, rfl, rfl⟩

theorem turned_iu (i : Int) (w : World) (h0 : -9223372036854775808 ≤ i) (h1 : i ≤ 9223372036854775807) :
    Calls Tryd.prog 38 #[.int .i64 i] w fun e w' => e = .returned (.int .u64 (i + 9223372036854775808)) ∧ w = w' := by
  have hb : bits .xor .u64 (IntKind.u64.wrap i) 9223372036854775808 = i + 9223372036854775808 := by
    rw [IntKind.wrap_u64]
    have hb := bits_xor_u64_nat (i % 18446744073709551616).toNat 9223372036854775808 (by omega) (by omega)
    rw [Int.toNat_of_nonneg (by omega)] at hb
    refine hb.trans ?_
    rw [xor_sign _ (by omega)]
    split <;> omega
  go_enter Tryd.func38, Tryd.ntmps38
  go_wp2
  go_ret
  exact ⟨rfl, rfl⟩
theorem turned_ui (u : Int) (w : World) (h0 : 0 ≤ u) (h1 : u ≤ 18446744073709551615) :
    Calls Tryd.prog 42 #[.int .u64 u] w fun e w' => e = .returned (.int .i64 (u - 9223372036854775808)) ∧ w = w' := by
  have hb : wrap64 (bits .xor .u64 u 9223372036854775808) = u - 9223372036854775808 := by
    have hb := bits_xor_u64_nat u.toNat 9223372036854775808 (by omega) (by omega)
    rw [Int.toNat_of_nonneg (by omega)] at hb
    rw [show ((9223372036854775808 : Nat) : Int) = 9223372036854775808 from rfl] at hb
    rw [hb, xor_sign _ (by omega)]
    unfold wrap64
    split <;> omega
  go_enter Tryd.func42, Tryd.ntmps42
  go_wp2
  go_ret
  exact ⟨ret_int hb, rfl⟩

def KKinds : List (Int × Value) := [(0, vk 34 35), (1, vk 36 39), (2, vk 43 45), (3, vk 48 49), (4, vk 50 51)]

theorem kkinds_any (w : World) : Calls Tryd.prog 22 #[] w fun e w' => ∃ r, e = .returned (.map (some r)) ∧ IMap w' r .i64 KKinds ∧ Below w.heap.size w w' ∧ w.heap.size ≤ r := by
  have m0 := IMap.new w .i64
  have hb0 : Below w.heap.size w (w.alloc (.map #[] 0)) := (Below.refl _ w).alloc (Nat.le_refl _) _
  obtain ⟨w1, e1, m1, g1⟩ := m0.insert (P := Tryd.prog) 58 39 57 Tryd.underlying58 Tryd.underlying39 0 (vk 34 35) rfl
  obtain ⟨w2, e2, m2, g2⟩ := m1.insert (P := Tryd.prog) 58 39 57 Tryd.underlying58 Tryd.underlying39 1 (vk 36 39) rfl
  obtain ⟨w3, e3, m3, g3⟩ := m2.insert (P := Tryd.prog) 58 39 57 Tryd.underlying58 Tryd.underlying39 2 (vk 43 45) rfl
  obtain ⟨w4, e4, m4, g4⟩ := m3.insert (P := Tryd.prog) 58 39 57 Tryd.underlying58 Tryd.underlying39 3 (vk 48 49) rfl
  obtain ⟨w5, e5, m5, g5⟩ := m4.insert (P := Tryd.prog) 58 39 57 Tryd.underlying58 Tryd.underlying39 4 (vk 50 51) rfl
  have hb1 := hb0.grown g1 hb0.size (fun k e => by cases e; exact Nat.le_refl _)
  have hb2 := hb1.grown g2 hb1.size (fun k e => by cases e; exact Nat.le_refl _)
  have hb3 := hb2.grown g3 hb2.size (fun k e => by cases e; exact Nat.le_refl _)
  have hb4 := hb3.grown g4 hb3.size (fun k e => by cases e; exact Nat.le_refl _)
  have hb5 := hb4.grown g5 hb4.size (fun k e => by cases e; exact Nat.le_refl _)
  unfold vk at e1 e2 e3 e4 e5
  clear g1 g2 g3 g4 g5 hb1 hb2 hb3 hb4 hb0 m0 m1 m2 m3 m4
  go_enter Tryd.func22, Tryd.ntmps22
  have hmm := @run_makeMap Tryd.prog
  go_wp2
  go_ret
  exact ⟨_, rfl, m5, hb5, Nat.le_refl _⟩

/-- What a Kind lays behind its own byte, but for texts. -/
theorem lay_0 (k i u : Int) (s : ByteArray) (w : World) : Calls Tryd.prog 34 #[valV k i u s] w (NewB w []) := by
  unfold valV
  go_enter Tryd.func34, Tryd.ntmps34
  go_wp2
  go_ret
  exact ⟨none, 0, 0, rfl, Ov.nil _ _ _ _, (Below.refl _ w).alloc (Nat.le_refl _) _⟩
theorem lay_1 (k i u : Int) (s : ByteArray) (w : World) (h0 : -9223372036854775808 ≤ i) (h1 : i ≤ 9223372036854775807) : Calls Tryd.prog 36 #[valV k i u s] w (NewB w (beB (i + 9223372036854775808).toNat 8)) := by
  unfold valV
  go_enter Tryd.func36, Tryd.ntmps36
  go_wp2_with (first
    | (go_at_call 38; refine (turned_iu _ _ h0 h1).mono ?_; rintro e w' ⟨rfl, rfl⟩)
    | (go_at_call 37; refine (Fixed_any _ _ _ (by omega) (by omega) (by omega) (by omega)).mono ?_; rintro e w' ⟨A, n, c, rfl, hown, hb⟩))
  go_ret
  have hf : fixedN (i + 9223372036854775808).toNat (Int.toNat 8) = (beB (i + 9223372036854775808).toNat 8, 0) := by
    have := needN_le (i + 9223372036854775808).toNat (by omega)
    unfold fixedN
    rw [if_neg (by decide), if_neg (by simp; omega)]
    rfl
  rw [hf] at hown
  exact ⟨A, n, c, rfl, hown.ge (by simp), ((Below.refl _ w).alloc (Nat.le_refl _) _).trans (hb.mono (by simp))⟩
theorem lay_2 (k i u : Int) (s : ByteArray) (w : World) (h0 : 0 ≤ u) (h1 : u ≤ 18446744073709551615) : Calls Tryd.prog 43 #[valV k i u s] w (NewB w (numL u.toNat)) := by
  unfold valV
  go_enter Tryd.func43, Tryd.ntmps43
  go_wp2_with (first
    | (go_at_call 44; refine (Number_any _ _ h0 h1).mono ?_; rintro e w' ⟨A, n, c, rfl, hown, hb⟩))
  go_ret
  exact ⟨A, n, c, rfl, hown.ge (by simp), ((Below.refl _ w).alloc (Nat.le_refl _) _).trans (hb.mono (by simp))⟩
theorem lay_3 (k i u : Int) (s : ByteArray) (w : World) (h0 : 0 ≤ i) (h1 : i ≤ 1) : Calls Tryd.prog 48 #[valV k i u s] w (NewB w [UInt8.ofNat i.toNat]) := by
  unfold valV
  go_enter Tryd.func48, Tryd.ntmps48
  go_wp2
  go_ret
  have hl := Ob.lit (w.alloc (.cells #[.int .i64 k, .int .i64 i, .int .u64 u, .string s] 42)) w.heap.size 5 [UInt8.ofNat i.toNat] (by simp) (by simp [maxLen])
  have he : (([UInt8.ofNat i.toNat].map cb).toArray : Array Value) = #[.int .u8 i] := by
    have : (UInt8.ofNat i.toNat).toNat = i.toNat := by simp; omega
    simp [cb]
    omega
  rw [he] at hl
  exact ⟨_, _, _, rfl, by simpa using hl, ((Below.refl _ w).alloc (Nat.le_refl _) _).alloc (by simp) _⟩
end Go.Proofs.YtdgmhegcoogokaaDoor
