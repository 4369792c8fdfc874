/- Contracts of the reference's ReadNumber, of octet's and the reference's Sum, Fixed, ReadFixed. -/
import Derived.Test.YtdgmhegcoogokaaDoorOctM
namespace Go.Proofs.YtdgmhegcoogokaaDoor
open Go.RowKit
set_option linter.unusedVariables false

theorem Rd.recap {w : World} {A : Option Addr} {n c c' : Nat} {l : List UInt8} (h : Rd w A n c l) (h1 : n ≤ c') (h2 : c' ≤ 9223372036854775807) : Rd w A n c' l :=
  ⟨h.1, h1, by simp only [maxLen]; omega, h.2.2.2⟩

theorem refReadNumber_any (A : Option Addr) (n c : Nat) (l : List UInt8) (w : World) (hr : Rd w A n c l) :
    Calls Tryd.prog 27 #[.slice A n c] w (ReadPost w (refReadN l)) := by
  have hcap := hr.cap
  have hle := hr.le
  have hlen := hr.len
  match l, hr, hlen with
  | [], hr, hlen =>
    obtain rfl : n = 0 := by simpa using hlen.symm
    go_enter Tryd.func27, Tryd.ntmps27
    go_wp2
    go_ret3
    exact ⟨rfl, Below.refl _ _⟩
  | h :: t, hr, hlen =>
    have hn : n = t.length + 1 := by simpa using hlen.symm
    have hn0 : ((n : Int) == 0) = false := by simp; omega
    obtain ⟨b, off, rfl, hb, hc⟩ := hr.open (by omega)
    have hc0 : w.cell? ⟨b, off, none⟩ = some (.int .u8 (h.toNat : Int)) := hc 0 (by simp)
    have hh := h.toNat_lt
    by_cases h8 : 8 < h.toNat
    · have e : refReadN (h :: t) = (0, 0, 120) := by unfold refReadN; simp only; rw [if_pos (.inl h8)]
      rw [e]
      have hd8 : decide ((8 : Int) < (h.toNat : Int)) = true := by simp; omega
      have hn2 : 0 < n := by omega
      clear hc hr hlen hn e
      go_enter Tryd.func27, Tryd.ntmps27
      go_wp2
      go_ret3
      exact ⟨rfl, Below.refl _ _⟩
    · have hd8 : decide ((8 : Int) < (h.toNat : Int)) = false := by simp; omega
      by_cases ht : t.length < h.toNat
      · have e : refReadN (h :: t) = (0, 0, 120) := by unfold refReadN; simp only; rw [if_pos (.inr ht)]
        rw [e]
        have hn1 : n - 1 < h.toNat := by omega
        have hn2 : 0 < n := by omega
        have hd9 : decide ((n : Int) - 1 < (h.toNat : Int)) = true := by simp; omega
        clear hc hr hlen hn e
        go_enter Tryd.func27, Tryd.ntmps27
        go_wp2
        go_ret3
        exact ⟨rfl, Below.refl _ _⟩
      · have e0 : refReadN (h :: t) = if 0 < h.toNat ∧ t.headD 1 = 0 then (0, 0, 120) else (rdN (t.take h.toNat), 1 + h.toNat, 0) := by unfold refReadN; simp only; rw [if_neg (by omega)]
        rw [e0]
        have htl := hr.tail_take h.toNat (by omega)
        have hd9 : decide ((n : Int) - 1 < (h.toNat : Int)) = false := by simp; omega
        by_cases hz : h.toNat = 0
        · have hz' : h = 0 := UInt8.toNat_inj.1 hz
          subst hz'
          have hn1 : 1 ≤ n := by omega
          rw [if_neg (by simp)]
          simp only [UInt8.toNat_zero, List.take_zero, Nat.add_zero]
          have hc00 : w.cell? ⟨b, off, none⟩ = some (.int .u8 0) := hc0
          clear hc hr hlen hn e0 htl hc0 hz hh h8 ht hd8
          have hd9 : decide ((n : Int) - 1 < (0 : Int)) = false := by simp; omega
          by_cases hc1 : c = 1
          all_goals
            go_enter Tryd.func27, Tryd.ntmps27
            go_wp2_with fail
            refine (read_any _ 0 _ [] _ (Rd.empty _ _ _ (by omega)) (by omega)).mono ?_
            rintro e w1 ⟨rfl, rfl⟩
            go_wp2
            go_ret3
            exact ⟨rfl, Below.refl _ _⟩
        · have hp : 0 < h.toNat := by omega
          have hl1 : 1 < (h :: t).length := by simp; omega
          have hc1 := hc 1 hl1
          have htt : t.headD 1 = (h :: t)[1] := by
            cases t with
            | nil => simp at hl1
            | cons b t => rfl
          rw [htt]
          generalize (h :: t)[1] = b1 at *
          have hb1 := b1.toNat_lt
          have hn3 : h.toNat < n := by omega
          clear hc hr hlen hn e0 hl1 htt ht hz
          generalize h.toNat = k at *
          generalize List.take k t = s at *
          by_cases hz : b1 = 0
          · subst hz
            have hc1' : w.cell? ⟨b, off + 1, none⟩ = some (.int .u8 0) := hc1
            rw [if_pos ⟨hp, rfl⟩]
            clear hc1 hb1
            go_enter Tryd.func27, Tryd.ntmps27
            go_wp2
            go_ret3
            exact ⟨rfl, Below.refl _ _⟩
          · rw [if_neg (fun h => hz h.2)]
            have hbz : ((b1.toNat : Int) == 0) = false := by
              simp
              exact fun h => hz (UInt8.toNat_inj.1 h)
            clear hz
            have hcn : ¬ c = 1 := by omega
            go_enter Tryd.func27, Tryd.ntmps27
            go_wp2_with fail
            refine (read_any _ k _ s _ (htl.recap (by omega) (by omega)) (by omega)).mono ?_
            rintro e w1 ⟨rfl, rfl⟩
            go_wp2
            go_ret3
            refine ⟨?_, Below.refl _ _⟩
            simp

/-! ### sums -/
def crcBit (s : Nat) : Nat := (s / 2) ^^^ (if s % 2 = 1 then 2197175160 else 0)
def crcBits : Nat → Nat → Nat
  | 0, s => s
  | k + 1, s => crcBit (crcBits k s)
def crcByte (s : Nat) (b : UInt8) : Nat := crcBits 8 (s ^^^ b.toNat)
def crc (s : Nat) (l : List UInt8) : Nat := l.foldl crcByte s

theorem crcBit_lt (s : Nat) (h : s < 4294967296) : crcBit s < 4294967296 := by
  unfold crcBit
  refine Nat.xor_lt_two_pow (n := 32) (by omega) ?_
  split <;> omega
theorem crcBits_lt : ∀ (k s : Nat), s < 4294967296 → crcBits k s < 4294967296
  | 0, _, h => h
  | k + 1, s, h => crcBit_lt _ (crcBits_lt k s h)
theorem crcXor_lt (s : Nat) (b : UInt8) (h : s < 4294967296) : s ^^^ b.toNat < 4294967296 :=
  Nat.xor_lt_two_pow (n := 32) (by omega) (by have := b.toNat_lt; omega)
theorem crcByte_lt (s : Nat) (b : UInt8) (h : s < 4294967296) : crcByte s b < 4294967296 := crcBits_lt 8 _ (crcXor_lt s b h)
theorem crc_lt : ∀ (l : List UInt8) (s : Nat), s < 4294967296 → crc s l < 4294967296
  | [], _, h => h
  | b :: l, s, h => crc_lt l _ (crcByte_lt s b h)
theorem crc_snoc (s : Nat) (l : List UInt8) (b : UInt8) : crc s (l ++ [b]) = crcByte (crc s l) b := by simp [crc]
theorem crc_append (s : Nat) (l k : List UInt8) : crc s (l ++ k) = crc (crc s l) k := by simp [crc]

theorem u32_not (x : Nat) (h : x < 4294967296) : bits .xor .u32 IntKind.u32.max (x : Int) = ((4294967295 - x : Nat) : Int) := by
  have e : IntKind.u32.max = ((4294967295 : Nat) : Int) := by decide
  rw [e, u32_xor_nat 4294967295 x (by omega) h]
  congr 1
  apply Nat.eq_of_testBit_eq
  intro i
  have h1 := Nat.testBit_two_pow_sub_succ (x := x) (n := 32) (by omega) i
  have h2 := Nat.testBit_two_pow_sub_one 32 i
  rw [show (2 ^ 32 - (x + 1) : Nat) = 4294967295 - x from by omega] at h1
  rw [show (2 ^ 32 - 1 : Nat) = 4294967295 from by omega] at h2
  rw [Nat.testBit_xor, h1, h2]
  by_cases hi : i < 32
  · simp [hi]
  · have h3 : x.testBit i = false := Nat.testBit_lt_two_pow (Nat.lt_of_lt_of_le h (by
      have : 2 ^ 32 ≤ 2 ^ i := Nat.pow_le_pow_right (by omega) (by omega)
      omega))
    simp [hi, h3]
theorem u32_xor8 (s : Nat) (b : UInt8) (h : s < 4294967296) : bits .xor .u32 (s : Int) (b.toNat : Int) = ((s ^^^ b.toNat : Nat) : Int) :=
  u32_xor_nat s b.toNat h (by have := b.toNat_lt; omega)
theorem crcBit_odd (s : Nat) (h : s < 4294967296) (ho : s % 2 = 1) : bits .xor .u32 ((s : Int) / 2) 2197175160 = (crcBit s : Int) := by
  have h1 := u32_xor_nat (s / 2) 2197175160 (by omega) (by omega)
  unfold crcBit
  rw [if_pos ho, ← h1]
  simp
theorem crcBit_even (s : Nat) (ho : s % 2 ≠ 1) : ((s : Int) / 2) = (crcBit s : Int) := by
  unfold crcBit
  rw [if_neg ho]
  simp

theorem crcBit_go (y : Nat) (h : y < 4294967296) : bits .xor .u32 ((y : Int) / 2) (2197175160 * bits .and .u32 (y : Int) 1 % 4294967296) = (crcBit y : Int) := by
  have h1 := u32_and_nat y 1 h (by omega)
  rw [Nat.and_one_is_mod] at h1
  have h2 : bits .and .u32 (y : Int) 1 = ((y % 2 : Nat) : Int) := h1
  rw [h2]
  by_cases ho : y % 2 = 1
  · rw [ho]
    exact crcBit_odd y h ho
  · have h0 : y % 2 = 0 := by omega
    rw [h0, ← crcBit_even y ho]
    have h3 := u32_xor_nat (y / 2) 0 (by omega) (by omega)
    simpa using h3

/-- A slice of slices of bytes that holds just these. -/
def RdL (w : World) (A : Option Addr) (n c : Nat) (rows : List (List UInt8)) : Prop :=
  ∃ hs : List (Option Addr × Nat × Nat), Rv w 1 A n c (hs.map fun h => .slice h.1 h.2.1 h.2.2) ∧ hs.length = rows.length ∧ ∀ i, (h1 : i < hs.length) → (h2 : i < rows.length) → Rd w hs[i].1 hs[i].2.1 hs[i].2.2 rows[i]

theorem crc_rows (rows : List (List UInt8)) (k : Nat) (h : k < rows.length) : (rows.take (k + 1)).flatten = (rows.take k).flatten ++ rows[k] := by
  rw [List.take_succ_eq_append_getElem h, List.flatten_append]; simp

/-! ### numbers of so many bytes -/
/-- What Fixed tells: the bytes, the error's number. -/
def fixedN (n many : Nat) : List UInt8 × Nat :=
  if many < 1 ∨ 8 < many then ([], 2) else if many < needN n then ([], 4) else (beB n many, 0)

def FixPost (w : World) (r : List UInt8 × Nat) (e : Ending) (w' : World) : Prop :=
  ∃ A n c, e = .returned (.tuple #[.slice A n c, .int .i64 (r.2 : Int)]) ∧ Ob w' w.heap.size 5 A n c r.1 ∧ Below w.heap.size w w'

theorem Fixed_any (x m : Int) (w : World) (h0 : 0 ≤ x) (h1 : x ≤ 18446744073709551615) (hm0 : -9223372036854775808 ≤ m) (hm1 : m ≤ 9223372036854775807) :
    Calls Tryd.prog 37 #[.int .u64 x, .int .i64 m] w (FixPost w (fixedN x.toNat m.toNat)) := by
  have hk := needN_le x.toNat (by omega)
  by_cases hlo : m < 1
  · have e : fixedN x.toNat m.toNat = ([], 2) := by unfold fixedN; rw [if_pos (by omega)]
    rw [e]
    clear e
    go_enter Tryd.func37, Tryd.ntmps37
    go_wp2
    go_ret2
    exact ⟨none, 0, 0, rfl, Ov.nil _ _ _ _, Below.refl _ _⟩
  · by_cases hhi : 8 < m
    · have e : fixedN x.toNat m.toNat = ([], 2) := by unfold fixedN; rw [if_pos (by omega)]
      rw [e]
      clear e
      go_enter Tryd.func37, Tryd.ntmps37
      go_wp2
      go_ret2
      exact ⟨none, 0, 0, rfl, Ov.nil _ _ _ _, Below.refl _ _⟩
    · obtain ⟨k, rfl⟩ := Int.eq_ofNat_of_zero_le (show 0 ≤ m by omega)
      rw [Int.toNat_natCast]
      have hl0 : decide ((k : Int) < 1) = false := by simp; omega
      have hl1 : decide ((8 : Int) < (k : Int)) = false := by simp; omega
      by_cases hr : k < needN x.toNat
      · have e : fixedN x.toNat k = ([], 4) := by unfold fixedN; rw [if_neg (by omega), if_pos hr]
        rw [e]
        clear e
        go_enter Tryd.func37, Tryd.ntmps37
        go_wp2_with (go_at_call 69; refine (need_any _ _ h0 h1).mono ?_; rintro e w' ⟨rfl, rfl⟩)
        go_ret2
        exact ⟨none, 0, 0, rfl, Ov.nil _ _ _ _, Below.refl _ _⟩
      · have e : fixedN x.toNat k = (beB x.toNat k, 0) := by unfold fixedN; rw [if_neg (by omega), if_neg hr]
        rw [e]
        clear e
        go_enter Tryd.func37, Tryd.ntmps37
        go_wp2_with (first
          | (go_at_call 69; refine (need_any _ _ h0 h1).mono ?_; rintro e w' ⟨rfl, rfl⟩)
          | (go_at_call 71; refine (of_any _ _).mono ?_; rintro e w' ⟨rfl, rfl⟩))
        refine (laid_any x w.heap.size k w.heap.size 0 0 none [] _ h0 h1 (by omega) (by omega) (Ov.nil _ _ _ _) (by simp) (by simp [ab]) (by simp) (by simp)).mono ?_
        rintro e w2 ⟨A2, c2, rfl, hown2, hbel2, _⟩
        go_wp2
        go_ret2
        rw [Nat.zero_add] at hown2
        exact ⟨A2, k, c2, by simp, hown2, ((Below.refl _ w).alloc (Nat.le_refl _) _).trans hbel2⟩
end Go.Proofs.YtdgmhegcoogokaaDoor
