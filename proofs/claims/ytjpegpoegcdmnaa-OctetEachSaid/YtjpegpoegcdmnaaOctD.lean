/- Contracts of the reference's ReadNumber, of octet's and the reference's Sum, Fixed, ReadFixed. -/
import Derived.Test.YtjpegpoegcdmnaaOctM
namespace Go.Proofs.Ytjpegpoegcdmnaa
open Go.RowKit
set_option linter.unusedVariables false

theorem Rd.recap {w : World} {A : Option Addr} {n c c' : Nat} {l : List UInt8} (h : Rd w A n c l) (h1 : n ≤ c') (h2 : c' ≤ 9223372036854775807) : Rd w A n c' l :=
  ⟨h.1, h1, by simp only [maxLen]; omega, h.2.2.2⟩

theorem refReadNumber_any (A : Option Addr) (n c : Nat) (l : List UInt8) (w : World) (hr : Rd w A n c l) :
    Calls Try.prog 11 #[.slice A n c] w (ReadPost w (refReadN l)) := by
  have hcap := hr.cap
  have hle := hr.le
  have hlen := hr.len
  match l, hr, hlen with
  | [], hr, hlen =>
    obtain rfl : n = 0 := by simpa using hlen.symm
    go_enter Try.func11, Try.ntmps11
    go_wp2
    go_ret3
    exact ⟨rfl, Below.refl _ _⟩
  | h :: t, hr, hlen =>
    have hn : n = t.length + 1 := by simpa using hlen.symm
    have hn0 : ((n : Int) == 0) = false := by simp; omega
    obtain ⟨b, off, rfl, hb, hc⟩ := hr.open (by omega)
    have hc0 : w.cell? ⟨b, off, none⟩ = some (.int .u8 (h.toNat : Int)) := hc 0 (by simp)
    have hh := h.toNat_lt
    by_cases h8 : 8 < h.toNat
    · have e : refReadN (h :: t) = (0, 0, 120) := by unfold refReadN; simp only; rw [if_pos (.inl h8)]
      rw [e]
      have hd8 : decide ((8 : Int) < (h.toNat : Int)) = true := by simp; omega
      have hn2 : 0 < n := by omega
      clear hc hr hlen hn e
      go_enter Try.func11, Try.ntmps11
      go_wp2
      go_ret3
      exact ⟨rfl, Below.refl _ _⟩
    · have hd8 : decide ((8 : Int) < (h.toNat : Int)) = false := by simp; omega
      by_cases ht : t.length < h.toNat
      · have e : refReadN (h :: t) = (0, 0, 120) := by unfold refReadN; simp only; rw [if_pos (.inr ht)]
        rw [e]
        have hn1 : n - 1 < h.toNat := by omega
        have hn2 : 0 < n := by omega
        have hd9 : decide ((n : Int) - 1 < (h.toNat : Int)) = true := by simp; omega
        clear hc hr hlen hn e
        go_enter Try.func11, Try.ntmps11
        go_wp2
        go_ret3
        exact ⟨rfl, Below.refl _ _⟩
      · have e0 : refReadN (h :: t) = if 0 < h.toNat ∧ t.headD 1 = 0 then (0, 0, 120) else (rdN (t.take h.toNat), 1 + h.toNat, 0) := by unfold refReadN; simp only; rw [if_neg (by omega)]
        rw [e0]
        have htl := hr.tail_take h.toNat (by omega)
        have hd9 : decide ((n : Int) - 1 < (h.toNat : Int)) = false := by simp; omega
        by_cases hz : h.toNat = 0
        · have hz' : h = 0 := UInt8.toNat_inj.1 hz
          subst hz'
          have hn1 : 1 ≤ n := by omega
          rw [if_neg (by simp)]
          simp only [UInt8.toNat_zero, List.take_zero, Nat.add_zero]
          have hc00 : w.cell? ⟨b, off, none⟩ = some (.int .u8 0) := hc0
          clear hc hr hlen hn e0 htl hc0 hz hh h8 ht hd8
          have hd9 : decide ((n : Int) - 1 < (0 : Int)) = false := by simp; omega
          by_cases hc1 : c = 1
          all_goals
            go_enter Try.func11, Try.ntmps11
            go_wp2_with fail
            refine (read_any _ 0 _ [] _ (Rd.empty _ _ _ (by omega)) (by omega)).mono ?_
            rintro e w1 ⟨rfl, rfl⟩
            go_wp2
            go_ret3
            exact ⟨rfl, Below.refl _ _⟩
        · have hp : 0 < h.toNat := by omega
          have hl1 : 1 < (h :: t).length := by simp; omega
          have hc1 := hc 1 hl1
          have htt : t.headD 1 = (h :: t)[1] := by
            cases t with
            | nil => simp at hl1
            | cons b t => rfl
          rw [htt]
          generalize (h :: t)[1] = b1 at *
          have hb1 := b1.toNat_lt
          have hn3 : h.toNat < n := by omega
          clear hc hr hlen hn e0 hl1 htt ht hz
          generalize h.toNat = k at *
          generalize List.take k t = s at *
          by_cases hz : b1 = 0
          · subst hz
            have hc1' : w.cell? ⟨b, off + 1, none⟩ = some (.int .u8 0) := hc1
            rw [if_pos ⟨hp, rfl⟩]
            clear hc1 hb1
            go_enter Try.func11, Try.ntmps11
            go_wp2
            go_ret3
            exact ⟨rfl, Below.refl _ _⟩
          · rw [if_neg (fun h => hz h.2)]
            have hbz : ((b1.toNat : Int) == 0) = false := by
              simp
              exact fun h => hz (UInt8.toNat_inj.1 h)
            clear hz
            have hcn : ¬ c = 1 := by omega
            go_enter Try.func11, Try.ntmps11
            go_wp2_with fail
            refine (read_any _ k _ s _ (htl.recap (by omega) (by omega)) (by omega)).mono ?_
            rintro e w1 ⟨rfl, rfl⟩
            go_wp2
            go_ret3
            refine ⟨?_, Below.refl _ _⟩
            simp

/-! ### sums -/
def crcBit (s : Nat) : Nat := (s / 2) ^^^ (if s % 2 = 1 then 2197175160 else 0)
def crcBits : Nat → Nat → Nat
  | 0, s => s
  | k + 1, s => crcBit (crcBits k s)
def crcByte (s : Nat) (b : UInt8) : Nat := crcBits 8 (s ^^^ b.toNat)
def crc (s : Nat) (l : List UInt8) : Nat := l.foldl crcByte s

theorem crcBit_lt (s : Nat) (h : s < 4294967296) : crcBit s < 4294967296 := by
  unfold crcBit
  refine Nat.xor_lt_two_pow (n := 32) (by omega) ?_
  split <;> omega
theorem crcBits_lt : ∀ (k s : Nat), s < 4294967296 → crcBits k s < 4294967296
  | 0, _, h => h
  | k + 1, s, h => crcBit_lt _ (crcBits_lt k s h)
theorem crcXor_lt (s : Nat) (b : UInt8) (h : s < 4294967296) : s ^^^ b.toNat < 4294967296 :=
  Nat.xor_lt_two_pow (n := 32) (by omega) (by have := b.toNat_lt; omega)
theorem crcByte_lt (s : Nat) (b : UInt8) (h : s < 4294967296) : crcByte s b < 4294967296 := crcBits_lt 8 _ (crcXor_lt s b h)
theorem crc_lt : ∀ (l : List UInt8) (s : Nat), s < 4294967296 → crc s l < 4294967296
  | [], _, h => h
  | b :: l, s, h => crc_lt l _ (crcByte_lt s b h)
theorem crc_snoc (s : Nat) (l : List UInt8) (b : UInt8) : crc s (l ++ [b]) = crcByte (crc s l) b := by simp [crc]
theorem crc_append (s : Nat) (l k : List UInt8) : crc s (l ++ k) = crc (crc s l) k := by simp [crc]

theorem u32_not (x : Nat) (h : x < 4294967296) : bits .xor .u32 IntKind.u32.max (x : Int) = ((4294967295 - x : Nat) : Int) := by
  have e : IntKind.u32.max = ((4294967295 : Nat) : Int) := by decide
  rw [e, u32_xor_nat 4294967295 x (by omega) h]
  congr 1
  apply Nat.eq_of_testBit_eq
  intro i
  have h1 := Nat.testBit_two_pow_sub_succ (x := x) (n := 32) (by omega) i
  have h2 := Nat.testBit_two_pow_sub_one 32 i
  rw [show (2 ^ 32 - (x + 1) : Nat) = 4294967295 - x from by omega] at h1
  rw [show (2 ^ 32 - 1 : Nat) = 4294967295 from by omega] at h2
  rw [Nat.testBit_xor, h1, h2]
  by_cases hi : i < 32
  · simp [hi]
  · have h3 : x.testBit i = false := Nat.testBit_lt_two_pow (Nat.lt_of_lt_of_le h (by
      have : 2 ^ 32 ≤ 2 ^ i := Nat.pow_le_pow_right (by omega) (by omega)
      omega))
    simp [hi, h3]
theorem u32_xor8 (s : Nat) (b : UInt8) (h : s < 4294967296) : bits .xor .u32 (s : Int) (b.toNat : Int) = ((s ^^^ b.toNat : Nat) : Int) :=
  u32_xor_nat s b.toNat h (by have := b.toNat_lt; omega)
theorem crcBit_odd (s : Nat) (h : s < 4294967296) (ho : s % 2 = 1) : bits .xor .u32 ((s : Int) / 2) 2197175160 = (crcBit s : Int) := by
  have h1 := u32_xor_nat (s / 2) 2197175160 (by omega) (by omega)
  unfold crcBit
  rw [if_pos ho, ← h1]
  simp
theorem crcBit_even (s : Nat) (ho : s % 2 ≠ 1) : ((s : Int) / 2) = (crcBit s : Int) := by
  unfold crcBit
  rw [if_neg ho]
  simp

theorem crcBit_go (y : Nat) (h : y < 4294967296) : bits .xor .u32 ((y : Int) / 2) (2197175160 * bits .and .u32 (y : Int) 1 % 4294967296) = (crcBit y : Int) := by
  have h1 := u32_and_nat y 1 h (by omega)
  rw [Nat.and_one_is_mod] at h1
  have h2 : bits .and .u32 (y : Int) 1 = ((y % 2 : Nat) : Int) := h1
  rw [h2]
  by_cases ho : y % 2 = 1
  · rw [ho]
    exact crcBit_odd y h ho
  · have h0 : y % 2 = 0 := by omega
    rw [h0, ← crcBit_even y ho]
    have h3 := u32_xor_nat (y / 2) 0 (by omega) (by omega)
    simpa using h3

theorem refSum_any (A : Option Addr) (n c : Nat) (l : List UInt8) (w : World) (h : Rd w A n c l) :
    Calls Try.prog 19 #[.slice A n c] w fun e w' => e = .returned (.int .u32 ((4294967295 - crc 4294967295 l : Nat) : Int)) ∧ w = w' := by
  have hl := h.len
  have hnc := h.le
  have hcm := h.cap
  go_enter Try.func19, Try.ntmps19
  go_wp2
  go_loop [3, 4, 5, 6] (fun s i _ _ => ∃ k : Nat, k ≤ n ∧ i = .int .i64 k ∧ s = .int .u32 (crc 4294967295 (l.take k))) (fun _ i _ _ => n - (intOf i).toNat)
  case atStart => exact ⟨0, Nat.zero_le _, rfl, rfl⟩
  case round =>
    obtain ⟨k, hk, rfl, rfl⟩ := hrel
    have hs := crc_lt (l.take k) 4294967295 (by omega)
    by_cases hlt : k < n
    · obtain ⟨b, off, rfl, hb, hc⟩ := h.open (by omega)
      have hck := hc k (by omega)
      have hby := l[k].toNat_lt
      have HS := Lib.hid (show crc 4294967295 (l.take (k + 1)) = crcByte (crc 4294967295 (l.take k)) l[k] by rw [List.take_succ_eq_append_getElem (by omega), crc_snoc])
      generalize crc 4294967295 (l.take k) = s at *
      clear hc h
      go_wp2
      go_loop [3, 5, 6] (fun s' j _ => ∃ m : Nat, m ≤ 8 ∧ j = .int .i64 m ∧ s' = .int .u32 (crcBits m (s ^^^ l[k].toNat))) (fun _ j _ => 8 - (intOf j).toNat)
      case atStart => 
        refine ⟨0, by omega, rfl, ?_⟩
        rw [u32_xor8 _ _ hs]
        rfl
      case round =>
        obtain ⟨m, hm, rfl, rfl⟩ := hrel
        have hx := crcBits_lt m _ (crcXor_lt s l[k] hs)
        have HX := Lib.hid (show crcBits (m + 1) (s ^^^ l[k].toNat) = crcBit (crcBits m (s ^^^ l[k].toNat)) from rfl)
        by_cases h8 : m < 8
        · generalize crcBits m (s ^^^ l[k].toNat) = y at *
          by_cases ho : y % 2 = 1
          · have hob : (((y : Int) % 2) == 1) = true := by simp; omega
            have HO := Lib.hid ho
            clear ho
            go_wp2
            refine ⟨⟨m + 1, by omega, by go_num, ?_⟩, by simp [intOf]; omega⟩
            rw [HX.out, ← crcBit_odd y hx HO.out]
          · have hob : (((y : Int) % 2) == 1) = false := by simp; omega
            have HO := Lib.hid ho
            clear ho
            go_wp2
            refine ⟨⟨m + 1, by omega, by go_num, ?_⟩, by simp [intOf]; omega⟩
            rw [HX.out, ← crcBit_even y HO.out]
        · obtain rfl : m = 8 := by omega
          go_wp2
          refine ⟨⟨k + 1, by omega, by go_num, ?_⟩, by simp [intOf]; omega⟩
          rw [HS.out]
          rfl
    · obtain rfl : k = n := by omega
      go_wp2
      go_ret
      refine ⟨ret_int ?_, rfl⟩
      rw [List.take_of_length_le (by omega)] at hs
      rw [List.take_of_length_le (by omega)]
      exact u32_not _ hs

/-- A slice of slices of bytes that holds just these. -/
def RdL (w : World) (A : Option Addr) (n c : Nat) (rows : List (List UInt8)) : Prop :=
  ∃ hs : List (Option Addr × Nat × Nat), Rv w 1 A n c (hs.map fun h => .slice h.1 h.2.1 h.2.2) ∧ hs.length = rows.length ∧ ∀ i, (h1 : i < hs.length) → (h2 : i < rows.length) → Rd w hs[i].1 hs[i].2.1 hs[i].2.2 rows[i]

theorem crc_rows (rows : List (List UInt8)) (k : Nat) (h : k < rows.length) : (rows.take (k + 1)).flatten = (rows.take k).flatten ++ rows[k] := by
  rw [List.take_succ_eq_append_getElem h, List.flatten_append]; simp

set_option maxHeartbeats 1000000 in
theorem Sum_any (A : Option Addr) (n c : Nat) (rows : List (List UInt8)) (w : World) (h : RdL w A n c rows) :
    Calls Try.prog 14 #[.slice A n c] w fun e w' => e = .returned (.int .u32 ((4294967295 - crc 4294967295 rows.flatten : Nat) : Int)) ∧ w = w' := by
  obtain ⟨hs, hrv, hsl, hrow⟩ := h
  have hlen : hs.length = n := by have := hrv.1; simpa using this
  have hnc : n ≤ c := hrv.2.1
  have hcm : c ≤ 9223372036854775807 := by have := hrv.2.2.1; unfold maxLen at this; omega
  go_enter Try.func14, Try.ntmps14
  go_wp2
  go_loop [3, 5, 7, 10, 14, 15, 16, 24] (fun s _ _ i _ _ _ _ => ∃ k : Nat, k ≤ n ∧ i = .int .i64 k ∧ s = .int .u32 (crc 4294967295 (rows.take k).flatten)) (fun _ _ _ i _ _ _ _ => n - (intOf i).toNat)
  case atStart => exact ⟨0, Nat.zero_le _, rfl, rfl⟩
  case round =>
    obtain ⟨k, hk, rfl, rfl⟩ := hrel
    have hcrc := crc_lt (rows.take k).flatten 4294967295 (by omega)
    by_cases hlt : k < n
    · obtain ⟨b, off, rfl, hb, hc⟩ := hrv.2.2.2 (by omega)
      have hR := hrow k (by omega) (by omega)
      have hck := hc k (.slice hs[k].1 hs[k].2.1 hs[k].2.2) (by simp [show k < hs.length from by omega])
      have HS := Lib.hid (show crc 4294967295 (rows.take (k + 1)).flatten = crc (crc 4294967295 (rows.take k).flatten) rows[k] by rw [crc_rows rows k (by omega), crc_append])
      generalize crc 4294967295 (rows.take k).flatten = s0 at *
      generalize rows[k] = l at *
      generalize hs[k] = hk3 at *
      obtain ⟨A1, n1, c1⟩ := hk3
      clear hc hrow
      dsimp only at hR hck
      have hnc1 := hR.le
      have hcm1 := hR.cap
      have hlen1 := hR.len
      go_wp2
      go_loop [3, 7, 16, 24] (fun s _ j _ => ∃ k1 : Nat, k1 ≤ n1 ∧ j = .int .i64 k1 ∧ s = .int .u32 (crc s0 (l.take k1))) (fun _ _ j _ => n1 - (intOf j).toNat)
      case atStart => exact ⟨0, Nat.zero_le _, rfl, rfl⟩
      case round =>
        obtain ⟨k1, hk1, rfl, rfl⟩ := hrel
        have hcrc1 := crc_lt (l.take k1) s0 hcrc
        by_cases hlt1 : k1 < n1
        · obtain ⟨b1, off1, rfl, hb1, hc1⟩ := hR.open (by omega)
          have hck1 := hc1 k1 (by omega)
          have hby := l[k1].toNat_lt
          have HS1 := Lib.hid (show crc s0 (l.take (k1 + 1)) = crcByte (crc s0 (l.take k1)) l[k1] by rw [List.take_succ_eq_append_getElem (by omega), crc_snoc])
          generalize crc s0 (l.take k1) = s1 at *
          clear hc1
          go_wp2
          go_loop [3, 24] (fun s j => ∃ m : Nat, m ≤ 8 ∧ j = .int .i64 m ∧ s = .int .u32 (crcBits m (s1 ^^^ l[k1].toNat))) (fun _ j => 8 - (intOf j).toNat)
          case atStart =>
            refine ⟨0, by omega, rfl, ?_⟩
            rw [u32_xor8 _ _ hcrc1]
            rfl
          case round =>
            obtain ⟨m, hm, rfl, rfl⟩ := hrel
            have hx := crcBits_lt m _ (crcXor_lt s1 l[k1] hcrc1)
            have HX := Lib.hid (show crcBits (m + 1) (s1 ^^^ l[k1].toNat) = crcBit (crcBits m (s1 ^^^ l[k1].toNat)) from rfl)
            by_cases h8 : m < 8
            · generalize crcBits m (s1 ^^^ l[k1].toNat) = y at *
              go_wp2
              refine ⟨⟨m + 1, by omega, by go_num, ?_⟩, by simp [intOf]; omega⟩
              rw [HX.out, crcBit_go y hx]
            · obtain rfl : m = 8 := by omega
              go_wp2
              refine ⟨⟨k1 + 1, by omega, by go_num, ?_⟩, by simp [intOf]; omega⟩
              rw [HS1.out]
              rfl
        · obtain rfl : k1 = n1 := by omega
          go_wp2
          refine ⟨⟨k + 1, by omega, by go_num, ?_⟩, by simp [intOf]; omega⟩
          rw [HS.out, List.take_of_length_le (by omega)]
    · obtain rfl : k = n := by omega
      go_wp2
      go_ret
      refine ⟨ret_int ?_, rfl⟩
      rw [List.take_of_length_le (by omega)] at hcrc
      rw [List.take_of_length_le (by omega)]
      exact u32_not _ hcrc

/-! ### numbers of so many bytes -/
/-- What Fixed tells: the bytes, the error's number. -/
def fixedN (n many : Nat) : List UInt8 × Nat :=
  if many < 1 ∨ 8 < many then ([], 2) else if many < needN n then ([], 4) else (beB n many, 0)

def FixPost (w : World) (r : List UInt8 × Nat) (e : Ending) (w' : World) : Prop :=
  ∃ A n c, e = .returned (.tuple #[.slice A n c, .int .i64 (r.2 : Int)]) ∧ Ob w' w.heap.size 5 A n c r.1 ∧ Below w.heap.size w w'

theorem Fixed_any (x m : Int) (w : World) (h0 : 0 ≤ x) (h1 : x ≤ 18446744073709551615) (hm0 : -9223372036854775808 ≤ m) (hm1 : m ≤ 9223372036854775807) :
    Calls Try.prog 15 #[.int .u64 x, .int .i64 m] w (FixPost w (fixedN x.toNat m.toNat)) := by
  have hk := needN_le x.toNat (by omega)
  by_cases hlo : m < 1
  · have e : fixedN x.toNat m.toNat = ([], 2) := by unfold fixedN; rw [if_pos (by omega)]
    rw [e]
    clear e
    go_enter Try.func15, Try.ntmps15
    go_wp2
    go_ret2
    exact ⟨none, 0, 0, rfl, Ov.nil _ _ _ _, Below.refl _ _⟩
  · by_cases hhi : 8 < m
    · have e : fixedN x.toNat m.toNat = ([], 2) := by unfold fixedN; rw [if_pos (by omega)]
      rw [e]
      clear e
      go_enter Try.func15, Try.ntmps15
      go_wp2
      go_ret2
      exact ⟨none, 0, 0, rfl, Ov.nil _ _ _ _, Below.refl _ _⟩
    · obtain ⟨k, rfl⟩ := Int.eq_ofNat_of_zero_le (show 0 ≤ m by omega)
      rw [Int.toNat_natCast]
      have hl0 : decide ((k : Int) < 1) = false := by simp; omega
      have hl1 : decide ((8 : Int) < (k : Int)) = false := by simp; omega
      by_cases hr : k < needN x.toNat
      · have e : fixedN x.toNat k = ([], 4) := by unfold fixedN; rw [if_neg (by omega), if_pos hr]
        rw [e]
        clear e
        go_enter Try.func15, Try.ntmps15
        go_wp2_with (go_at_call 26; refine (need_any _ _ h0 h1).mono ?_; rintro e w' ⟨rfl, rfl⟩)
        go_ret2
        exact ⟨none, 0, 0, rfl, Ov.nil _ _ _ _, Below.refl _ _⟩
      · have e : fixedN x.toNat k = (beB x.toNat k, 0) := by unfold fixedN; rw [if_neg (by omega), if_neg hr]
        rw [e]
        clear e
        go_enter Try.func15, Try.ntmps15
        go_wp2_with (first
          | (go_at_call 26; refine (need_any _ _ h0 h1).mono ?_; rintro e w' ⟨rfl, rfl⟩)
          | (go_at_call 27; refine (of_any _ _).mono ?_; rintro e w' ⟨rfl, rfl⟩))
        refine (laid_any x w.heap.size k w.heap.size 0 0 none [] _ h0 h1 (by omega) (by omega) (Ov.nil _ _ _ _) (by simp) (by simp [ab]) (by simp) (by simp)).mono ?_
        rintro e w2 ⟨A2, c2, rfl, hown2, hbel2, _⟩
        go_wp2
        go_ret2
        rw [Nat.zero_add] at hown2
        exact ⟨A2, k, c2, by simp, hown2, ((Below.refl _ w).alloc (Nat.le_refl _) _).trans hbel2⟩
end Go.Proofs.Ytjpegpoegcdmnaa
