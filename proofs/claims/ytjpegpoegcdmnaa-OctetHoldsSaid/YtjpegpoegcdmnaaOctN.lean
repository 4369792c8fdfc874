/- Plain laws: the order of numbers' bytes, and sums of bytes that differ. No program in sight. -/
import Derived.Test.YtjpegpoegcdmnaaOctM
import Derived.Test.YtjpegpoegcdmnaaOctD
namespace Go.Proofs.Ytjpegpoegcdmnaa
open Go.Op (bytesLess)
set_option linter.unusedVariables false

theorem beB_mod (n : Nat) : ∀ k, beB n k = beB (n % 256 ^ k) k := by
  have key : ∀ k n m : Nat, n % 256 ^ k = m % 256 ^ k → beB n k = beB m k := by
    intro k
    induction k with
    | zero => intro n m _; rfl
    | succ k ih =>
      intro n m h
      rw [beB, beB]
      have e1 : n % 256 ^ k = m % 256 ^ k := by
        have h2 : (256 ^ k) ∣ (256 ^ (k + 1)) := ⟨256, by rw [Nat.pow_succ]⟩
        rw [← Nat.mod_mod_of_dvd n h2, h, Nat.mod_mod_of_dvd m h2]
      have e2 : n / 256 ^ k % 256 = m / 256 ^ k % 256 := by
        rw [Nat.pow_succ, Nat.mod_mul, Nat.mod_mul, e1] at h
        exact Nat.eq_of_mul_eq_mul_left (Nat.pow_pos (n := k) (show 0 < 256 by decide)) (by omega)
      rw [ih n m e1, ← pow256]
      congr 1
      apply UInt8.toNat_inj.1
      simpa using e2
  intro k
  exact key k n _ (by rw [Nat.mod_mod])

theorem u8_lt (x y : Nat) (hx : x < 256) (hy : y < 256) : (UInt8.ofNat x < UInt8.ofNat y) = (x < y) := by
  rw [UInt8.lt_iff_toNat_lt]
  simp [Nat.mod_eq_of_lt hx, Nat.mod_eq_of_lt hy]
theorem u8_eq (x y : Nat) (hx : x < 256) (hy : y < 256) : (UInt8.ofNat x = UInt8.ofNat y) = (x = y) := by
  rw [← UInt8.toNat_inj]
  simp [Nat.mod_eq_of_lt hx, Nat.mod_eq_of_lt hy]

theorem less_cons (a b : UInt8) (x y : List UInt8) : bytesLess (a :: x) (b :: y) = (decide (a < b) || (a == b && bytesLess x y)) := rfl

theorem less_beB : ∀ (k m n : Nat), m < 256 ^ k → n < 256 ^ k → bytesLess (beB m k) (beB n k) = decide (m < n) := by
  intro k
  induction k with
  | zero =>
    intro m n hm hn
    obtain rfl : m = 0 := by simpa using hm
    obtain rfl : n = 0 := by simpa using hn
    rfl
  | succ k ih =>
    intro m n hm hn
    have hp : 0 < 256 ^ k := Nat.pow_pos (by decide)
    have hm1 : m / 256 ^ k < 256 := Nat.div_lt_of_lt_mul (by rw [Nat.pow_succ] at hm; exact hm)
    have hn1 : n / 256 ^ k < 256 := Nat.div_lt_of_lt_mul (by rw [Nat.pow_succ] at hn; exact hn)
    rw [beB, beB, less_cons, beB_mod m k, beB_mod n k, ih _ _ (Nat.mod_lt _ hp) (Nat.mod_lt _ hp), ← pow256]
    have e1 := u8_lt _ _ hm1 hn1
    have e2 := u8_eq _ _ hm1 hn1
    have dm := Nat.div_add_mod m (256 ^ k)
    have dn := Nat.div_add_mod n (256 ^ k)
    have lm := Nat.mod_lt m hp
    have ln := Nat.mod_lt n hp
    rw [Bool.eq_iff_iff]
    simp only [Bool.or_eq_true, Bool.and_eq_true, decide_eq_true_eq, beq_iff_eq, e1, e2]
    generalize m / 256 ^ k = p at *
    generalize n / 256 ^ k = q at *
    generalize m % 256 ^ k = r at *
    generalize n % 256 ^ k = s at *
    generalize 256 ^ k = t at *
    subst dm dn
    constructor
    · rintro (h | ⟨rfl, h⟩)
      · have h1 : t * (p + 1) ≤ t * q := Nat.mul_le_mul_left _ h
        rw [Nat.mul_add] at h1
        omega
      · omega
    · intro h
      rcases Nat.lt_trichotomy p q with h1 | h1 | h1
      · exact .inl h1
      · subst h1; exact .inr ⟨rfl, by omega⟩
      · have h2 : t * (q + 1) ≤ t * p := Nat.mul_le_mul_left _ h1
        rw [Nat.mul_add] at h2
        omega

/-- Numbers' bytes stand in the order of the numbers. -/
theorem less_numL (m n : Nat) (hm : m < 18446744073709551616) (hn : n < 18446744073709551616) : bytesLess (numL m) (numL n) = decide (m < n) := by
  have h8m := needN_le m hm
  have h8n := needN_le n hn
  have am := (needN_le_iff m (needN m) hm h8m).1 (Nat.le_refl _)
  have an := (needN_le_iff n (needN n) hn h8n).1 (Nat.le_refl _)
  rw [numL, numL, less_cons]
  have e1 := u8_lt (needN m) (needN n) (by omega) (by omega)
  have e2 := u8_eq (needN m) (needN n) (by omega) (by omega)
  rw [Bool.eq_iff_iff]
  simp only [Bool.or_eq_true, Bool.and_eq_true, decide_eq_true_eq, beq_iff_eq, e1, e2]
  have low : ∀ a b : Nat, a < 18446744073709551616 → b < 18446744073709551616 → needN a < needN b → a < b := by
    intro a b ha hb h
    have h1 := (needN_le_iff a (needN a) ha (needN_le a ha)).1 (Nat.le_refl _)
    have h2 : ¬ b < 256 ^ needN a := fun h2 => by
      have := (needN_le_iff b (needN a) hb (needN_le a ha)).2 h2
      omega
    omega
  constructor
  · rintro (h | ⟨h, h2⟩)
    · exact low m n hm hn h
    · rw [h, less_beB _ _ _ (by rw [← h]; exact am) an] at h2
      simpa using h2
  · intro h
    rcases Nat.lt_trichotomy (needN m) (needN n) with h1 | h1 | h1
    · exact .inl h1
    · refine .inr ⟨h1, ?_⟩
      rw [h1, less_beB _ _ _ (by rw [← h1]; exact am) an]
      simpa using h
    · have := low n m hn hm h1
      omega

theorem numL_prefix (m n : Nat) (hm : m < 18446744073709551616) (hn : n < 18446744073709551616) (b : List UInt8) (h : numL n = numL m ++ b) : m = n := by
  have h1 := readN_numL m b hm
  have h2 := readN_numL n [] hn
  rw [List.append_nil, h, h1] at h2
  exact congrArg Prod.fst h2
theorem numL_inj (m n : Nat) (hm : m < 18446744073709551616) (hn : n < 18446744073709551616) : (numL m == numL n) = decide (m = n) := by
  rw [Bool.eq_iff_iff]
  simp only [beq_iff_eq, decide_eq_true_eq]
  exact ⟨fun h => numL_prefix m n hm hn [] (by rw [h, List.append_nil]), fun h => by rw [h]⟩
theorem numL_begins (m n : Nat) (hm : m < 18446744073709551616) (hn : n < 18446744073709551616) (hne : m ≠ n) : ((numL n).take (numL m).length == numL m) = false := by
  rw [beq_eq_false_iff_ne]
  intro h
  exact hne (numL_prefix m n hm hn ((numL n).drop (numL m).length) (by
    conv => lhs; rw [← List.take_append_drop (numL m).length (numL n)]
    rw [h]))

/-! ### sums -/
theorem xor_right_cancel {a b c : Nat} (h : a ^^^ c = b ^^^ c) : a = b := by
  have h1 := congrArg (fun x => x ^^^ c) h
  simpa [Nat.xor_assoc] using h1
theorem xor_left_cancel {a b c : Nat} (h : c ^^^ a = c ^^^ b) : a = b := by
  rw [Nat.xor_comm c a, Nat.xor_comm c b] at h
  exact xor_right_cancel h
theorem crcBit_inj (s t : Nat) (hs : s < 4294967296) (ht : t < 4294967296) (h : crcBit s = crcBit t) : s = t := by
  have top : ∀ s : Nat, s < 4294967296 → (crcBit s).testBit 31 = decide (s % 2 = 1) := by
    intro s hs
    unfold crcBit
    rw [Nat.testBit_xor]
    have h1 : (s / 2).testBit 31 = false := Nat.testBit_lt_two_pow (by omega)
    rw [h1]
    split
    · rename_i h; rw [show (2197175160 : Nat).testBit 31 = true from by decide]; simp [h]
    · rename_i h; simp [h]
  have e := top s hs
  rw [h, top t ht] at e
  have hpar : (t % 2 = 1) ↔ (s % 2 = 1) := by simpa using e
  have hq : s / 2 = t / 2 := by
    unfold crcBit at h
    by_cases ho : s % 2 = 1
    · rw [if_pos ho, if_pos (hpar.2 ho)] at h
      exact xor_right_cancel h
    · rw [if_neg ho, if_neg (fun h2 => ho (hpar.1 h2))] at h
      exact xor_right_cancel h
  omega
theorem crcBits_inj : ∀ (k s t : Nat), s < 4294967296 → t < 4294967296 → crcBits k s = crcBits k t → s = t
  | 0, _, _, _, _, h => h
  | k + 1, s, t, hs, ht, h => crcBits_inj k s t hs ht (crcBit_inj _ _ (crcBits_lt k s hs) (crcBits_lt k t ht) h)
theorem crcByte_inj (s t : Nat) (b : UInt8) (hs : s < 4294967296) (ht : t < 4294967296) (h : crcByte s b = crcByte t b) : s = t :=
  xor_right_cancel (crcBits_inj 8 _ _ (crcXor_lt s b hs) (crcXor_lt t b ht) h)
theorem crcByte_inj' (s : Nat) (b c : UInt8) (hs : s < 4294967296) (h : crcByte s b = crcByte s c) : b = c :=
  UInt8.toNat_inj.1 (xor_left_cancel (crcBits_inj 8 _ _ (crcXor_lt s b hs) (crcXor_lt s c hs) h))
theorem crc_inj : ∀ (l : List UInt8) (s t : Nat), s < 4294967296 → t < 4294967296 → crc s l = crc t l → s = t
  | [], _, _, _, _, h => h
  | b :: l, s, t, hs, ht, h => crcByte_inj s t b hs ht (crc_inj l _ _ (crcByte_lt s b hs) (crcByte_lt t b ht) h)
/-- Bytes that differ in one place have unlike sums. -/
theorem crc_set (l : List UInt8) (i : Nat) (hi : i < l.length) (c : UInt8) (hc : c ≠ l[i]) (s : Nat) (hs : s < 4294967296) : crc s (l.set i c) ≠ crc s l := by
  have e1 : l = l.take i ++ l[i] :: l.drop (i + 1) := by rw [List.getElem_cons_drop, List.take_append_drop]
  have e2 : l.set i c = l.take i ++ c :: l.drop (i + 1) := List.set_eq_take_append_cons_drop .. |>.trans (by rw [if_pos hi])
  intro h
  rw [e2] at h
  conv at h => rhs; rw [e1]
  rw [crc_append, crc_append] at h
  have hs' := crc_lt (l.take i) s hs
  have h1 : crcByte (crc s (l.take i)) c = crcByte (crc s (l.take i)) l[i] := crc_inj (l.drop (i + 1)) _ _ (crcByte_lt _ _ hs') (crcByte_lt _ _ hs') h
  exact hc (crcByte_inj' _ _ _ hs' h1)
end Go.Proofs.Ytjpegpoegcdmnaa
