/- Numerals: which texts are read as a number and written the same. Plain laws; no program in sight; no condition. -/
import Derived.Lib.ParseIntB
import Derived.Lib.ItoaMem
namespace Go.Proofs.YtagoooclfcbdeaaGreatDoor
open Go.Lib
set_option linter.unusedVariables false

def isDig (c : UInt8) : Bool := decide (48 ≤ c.toNat ∧ c.toNat ≤ 57)
/-- The number that digits spell, behind those that spell n. -/
def valD (n : Nat) (l : List UInt8) : Nat := l.foldl (fun n c => 10 * n + (c.toNat - 48)) n
theorem valD_nil (n : Nat) : valD n [] = n := by unfold valD; rw [List.foldl_nil]
theorem valD_cons (n : Nat) (c : UInt8) (r : List UInt8) : valD n (c :: r) = valD (10 * n + (c.toNat - 48)) r := by unfold valD; rw [List.foldl_cons]
theorem head?_app {l : List UInt8} (m : List UInt8) (h : l ≠ []) : (l ++ m).head? = l.head? := by
  cases l with
  | nil => exact absurd rfl h
  | cons a t => rfl
/-- Digits as numbers are written. -/
def canon (l : List UInt8) : Bool := !l.isEmpty && l.all isDig && (l.length == 1 || l.head? != some 48)
/-- Digits as numbers are written, of 64 bits. -/
def unsD (l : List UInt8) : Option Nat := if canon l = true ∧ valD 0 l ≤ 18446744073709551615 then some (valD 0 l) else none
/-- Likewise, perhaps with a sign ahead. -/
def sigD (l : List UInt8) : Option Int :=
  if l.head? = some 45 then
    match unsD l.tail with
    | some n => if n = 0 ∨ 9223372036854775808 < n then none else some (-(n : Int))
    | none => none
  else
    match unsD l with
    | some n => if n < 9223372036854775808 then some (n : Int) else none
    | none => none

theorem valD_le : ∀ (l : List UInt8) (n : Nat), n ≤ valD n l
  | [], n => Nat.le_refl _
  | c :: r, n => by
    have := valD_le r (10 * n + (c.toNat - 48))
    rw [valD_cons]
    omega
theorem valD_snoc : ∀ (l : List UInt8) (n : Nat) (c : UInt8), valD n (l ++ [c]) = 10 * valD n l + (c.toNat - 48)
  | [], n, c => rfl
  | b :: r, n, c => by
    rw [List.cons_append, valD_cons, valD_cons, valD_snoc r]

theorem parseUintM_ok (l : List UInt8) : ∀ (acc n : Nat), acc ≤ 18446744073709551615 →
    (parseUintM (2 ^ 64 - 1) acc l = .ok n ↔ l.all isDig = true ∧ n = valD acc l ∧ valD acc l ≤ 18446744073709551615) := by
  induction l with
  | nil =>
    intro acc n h
    simp only [parseUintM, valD_nil, List.all_nil, true_and]
    constructor
    · intro e
      injection e with e
      exact ⟨e.symm, h⟩
    · rintro ⟨rfl, _⟩
      rfl
  | cons c r ih =>
    intro acc n h
    rw [parseUintM, valD_cons]
    have hM : 2 ^ 64 - 1 = 18446744073709551615 := rfl
    have hle := valD_le r (10 * acc + (c.toNat - 48))
    by_cases hd : 48 ≤ c.toNat ∧ c.toNat ≤ 57
    · have hdig : isDig c = true := by simp [isDig, hd]
      rw [if_pos hd, List.all_cons, hdig, Bool.true_and]
      by_cases h1 : 1844674407370955162 ≤ acc
      · rw [if_pos h1]
        constructor
        · intro e; cases e
        · rintro ⟨_, _, h3⟩; omega
      · rw [if_neg h1]
        by_cases h2 : 2 ^ 64 - 1 < acc * 10 + (c.toNat - 48)
        · rw [if_pos h2]
          constructor
          · intro e; cases e
          · rintro ⟨_, _, h3⟩; omega
        · rw [if_neg h2, Nat.mul_comm acc 10]
          exact ih _ n (by omega)
    · have hdig : isDig c = false := by simp [isDig]; omega
      rw [if_neg hd, List.all_cons, hdig]
      constructor
      · intro e; cases e
      · rintro ⟨h1, _⟩; cases h1

theorem parseUintB_ok (l : List UInt8) (n : Nat) : parseUintB 64 l = .ok n ↔ l ≠ [] ∧ l.all isDig = true ∧ n = valD 0 l ∧ valD 0 l ≤ 18446744073709551615 := by
  unfold parseUintB
  by_cases h : l = []
  · subst h
    simp
  · rw [if_neg h, parseUintM_ok l 0 n (by omega)]
    simp [h]

theorem dig_ofNat (d : Nat) (h : d < 10) : (UInt8.ofNat (48 + d)).toNat = 48 + d := by
  simp [UInt8.toNat_ofNat']
  omega

theorem decDigits_val (u : Nat) : valD 0 (decDigits u) = u ∧ (decDigits u).all isDig = true ∧ decDigits u ≠ [] := by
  induction u using Nat.strongRecOn with
  | _ u ih =>
    by_cases h : u < 10
    · rw [decDigits_one h]
      refine ⟨?_, ?_, by simp⟩
      · rw [valD_cons, valD_nil, dig_ofNat u h]
        omega
      · simp only [List.all_cons, List.all_nil, Bool.and_true, isDig]
        rw [dig_ofNat u h]
        simp; omega
    · rw [decDigits, dif_neg h]
      obtain ⟨h1, h2, h3⟩ := ih (u / 10) (by omega)
      have hd := dig_ofNat (u % 10) (by omega)
      refine ⟨?_, ?_, by simp⟩
      · rw [valD_snoc, h1, hd]
        omega
      · rw [List.all_append, h2]
        simp only [List.all_cons, List.all_nil, Bool.and_true, Bool.true_and, isDig]
        rw [hd]
        simp; omega

theorem valD_pos : ∀ (l : List UInt8) (n : Nat), 0 < n → 0 < valD n l := fun l n h => Nat.lt_of_lt_of_le h (valD_le l n)

/-- Digits whose first is not 0, or a lone one, are the numeral of their number. -/
theorem decDigits_of (l : List UInt8) (hd : l.all isDig = true) (h0 : l ≠ []) (hh : l.length = 1 ∨ l.head? ≠ some 48) : decDigits (valD 0 l) = l := by
  have key : ∀ k (l : List UInt8), l.length = k → l.all isDig = true → l ≠ [] → (l.length = 1 ∨ l.head? ≠ some 48) → decDigits (valD 0 l) = l := by
    intro k
    induction k with
    | zero => intro l hk hd h0 _; exact absurd (List.eq_nil_of_length_eq_zero hk) h0
    | succ k ih =>
      intro l hk hd h0 hh
      obtain ⟨t, c, rfl⟩ : ∃ t c, l = t ++ [c] := ⟨l.dropLast, l.getLast h0, (List.dropLast_concat_getLast h0).symm⟩
      rw [List.all_append, Bool.and_eq_true] at hd
      have hc : 48 ≤ c.toNat ∧ c.toNat ≤ 57 := by simpa [isDig] using hd.2
      have hcc : UInt8.ofNat (48 + (c.toNat - 48)) = c := by
        rw [show 48 + (c.toNat - 48) = c.toNat from by omega]
        simp
      rw [valD_snoc]
      by_cases ht : t = []
      · subst ht
        simp only [valD_nil, List.nil_append, Nat.mul_zero, Nat.zero_add]
        rw [decDigits_one (by omega), hcc]
      · have hne : t.head? ≠ some 48 := by
          rcases hh with hh | hh
          · simp at hh
            exact absurd hh ht
          · rw [head?_app _ ht] at hh
            exact hh
        have hpos : 0 < valD 0 t := by
          obtain ⟨b, r, rfl⟩ := List.exists_cons_of_ne_nil ht
          have hb : 48 ≤ b.toNat ∧ b.toNat ≤ 57 := by
            have := hd.1
            rw [List.all_cons, Bool.and_eq_true] at this
            simpa [isDig] using this.1
          have hb0 : b.toNat ≠ 48 := by
            intro e
            refine hne ?_
            rw [List.head?_cons]
            congr 1
            exact UInt8.toNat_inj.1 e
          rw [valD_cons]
          exact valD_pos _ _ (by omega)
        rw [decDigits, dif_neg (by omega), show (10 * valD 0 t + (c.toNat - 48)) / 10 = valD 0 t from by omega, show (10 * valD 0 t + (c.toNat - 48)) % 10 = c.toNat - 48 from by omega, hcc,
          ih t (by simpa using hk) hd.1 ht (.inr hne)]
  exact key _ l rfl hd h0 hh

theorem canon_iff (l : List UInt8) : canon l = true ↔ l ≠ [] ∧ l.all isDig = true ∧ (l.length = 1 ∨ l.head? ≠ some 48) := by
  unfold canon
  simp only [Bool.and_eq_true, Bool.not_eq_true', List.isEmpty_eq_false_iff, Bool.or_eq_true, beq_iff_eq, bne_iff_ne, and_assoc]

theorem canon_decDigits (u : Nat) : canon (decDigits u) = true := by
  obtain ⟨h1, h2, h3⟩ := decDigits_val u
  rw [canon_iff]
  refine ⟨h3, h2, ?_⟩
  by_cases hu : u < 10
  · left
    rw [decDigits_one hu]
    rfl
  · right
    have key : ∀ u, 0 < u → (decDigits u).head? ≠ some 48 := by
      intro u
      induction u using Nat.strongRecOn with
      | _ u ih =>
        intro hu
        by_cases h : u < 10
        · rw [decDigits_one h, List.head?_cons]
          intro e
          injection e with e
          have := congrArg UInt8.toNat e
          rw [dig_ofNat u h] at this
          have h48 : (48 : UInt8).toNat = 48 := rfl
          omega
        · rw [decDigits, dif_neg h, head?_app _ (decDigits_val (u / 10)).2.2]
          exact ih (u / 10) (by omega) (by omega)
    exact key u (by omega)

/-- What is read as a number without a sign, and written the same. -/
theorem unsD_some (l : List UInt8) (n : Nat) : unsD l = some n ↔ parseUintB 64 l = .ok n ∧ decDigits n = l := by
  rw [parseUintB_ok]
  unfold unsD
  constructor
  · intro h
    split at h
    · rename_i hc
      injection h with h
      obtain ⟨h1, h2⟩ := hc
      rw [canon_iff] at h1
      subst h
      exact ⟨⟨h1.1, h1.2.1, rfl, h2⟩, decDigits_of l h1.2.1 h1.1 h1.2.2⟩
    · cases h
  · rintro ⟨⟨h1, h2, rfl, h4⟩, h5⟩
    rw [if_pos]
    refine ⟨?_, h4⟩
    rw [← h5]
    exact canon_decDigits _

theorem unsD_le {l : List UInt8} {n : Nat} (h : unsD l = some n) : n ≤ 18446744073709551615 := by
  unfold unsD at h
  split at h
  · rename_i hc
    injection h with h
    omega
  · cases h

theorem unsD_decDigits (u : Nat) (h : u ≤ 18446744073709551615) : unsD (decDigits u) = some u := by
  rw [unsD_some, parseUintB_ok]
  obtain ⟨h1, h2, h3⟩ := decDigits_val u
  exact ⟨⟨h3, h2, h1.symm, by omega⟩, rfl⟩

theorem decDigits_head (u : Nat) : (decDigits u).head? ≠ some 45 ∧ (decDigits u).head? ≠ some 43 := by
  obtain ⟨h1, h2, h3⟩ := decDigits_val u
  obtain ⟨b, r, e⟩ := List.exists_cons_of_ne_nil h3
  rw [e] at h2 ⊢
  rw [List.all_cons, Bool.and_eq_true] at h2
  have hb : 48 ≤ b.toNat ∧ b.toNat ≤ 57 := by simpa [isDig] using h2.1
  constructor <;> (rw [List.head?_cons]; intro e2; injection e2 with e2; subst e2; revert hb; decide)

/-- Likewise with a sign. -/
theorem sigD_some (l : List UInt8) (v : Int) : sigD l = some v ↔ parseIntB 64 l = .ok v ∧ itoa v = l := by
  cases l with
  | nil =>
    constructor
    · intro h
      unfold sigD unsD canon at h
      simp at h
    · rintro ⟨h, _⟩
      cases h
  | cons c r =>
    have h63 : (2 : Nat) ^ (64 - 1) = 9223372036854775808 := rfl
    unfold sigD parseIntB
    simp only [h63, List.head?_cons, Option.some.injEq, List.tail_cons]
    by_cases hm : c = 45
    · subst hm
      have e45 : (45 : UInt8).toNat = 45 := rfl
      rw [if_pos rfl]
      simp only [e45, or_true, if_true]
      constructor
      · intro h
        split at h
        · rename_i n hn
          split at h
          · cases h
          · rename_i h0
            injection h with h
            obtain ⟨h1, h2⟩ := (unsD_some r n).1 hn
            rw [h1]
            simp only [not_true_eq_false, false_and, if_false, true_and]
            rw [if_neg (by omega)]
            refine ⟨by rw [← h], ?_⟩
            rw [← h, itoa_neg n (by omega), h2]
        · cases h
      · rintro ⟨h1, h2⟩
        split at h1
        · cases h1
        · cases h1
        · rename_i u hu
          simp only [not_true_eq_false, false_and, if_false, true_and] at h1
          split at h1
          · cases h1
          · rename_i h3
            injection h1 with h1
            subst h1
            by_cases hu0 : u = 0
            · subst hu0
              exfalso
              have : itoa (-((0 : Nat) : Int)) = decDigits 0 := itoa_nonneg 0
              rw [this] at h2
              have := (decDigits_head 0).1
              rw [h2] at this
              exact this rfl
            · rw [itoa_neg u (by omega)] at h2
              injection h2 with _ h2
              have hun : unsD r = some u := (unsD_some r u).2 ⟨hu, h2⟩
              rw [hun]
              simp only
              rw [if_neg (by omega)]
    · rw [if_neg hm]
      have hc45 : ¬ c.toNat = 45 := fun e => hm (UInt8.toNat_inj.1 e)
      constructor
      · intro h
        split at h
        · rename_i n hn
          split at h
          · rename_i h0
            injection h with h
            obtain ⟨h1, h2⟩ := (unsD_some (c :: r) n).1 hn
            have hc43 : ¬ c.toNat = 43 := by
              intro e
              have := (decDigits_head n).2
              rw [h2, List.head?_cons] at this
              exact this (by rw [show c = 43 from UInt8.toNat_inj.1 e])
            rw [if_neg (by omega), h1]
            simp only [hc45, not_false_eq_true, true_and, false_and, if_false]
            rw [if_neg (by omega)]
            refine ⟨by rw [← h], ?_⟩
            rw [← h, itoa_nonneg, h2]
          · cases h
        · cases h
      · rintro ⟨h1, h2⟩
        split at h1
        · cases h1
        · cases h1
        · rename_i u hu
          simp only [hc45, not_false_eq_true, true_and, false_and, if_false] at h1
          split at h1
          · cases h1
          · rename_i h3
            injection h1 with h1
            subst h1
            rw [itoa_nonneg] at h2
            have hc43 : ¬ c.toNat = 43 := by
              intro e
              have := (decDigits_head u).2
              rw [h2, List.head?_cons] at this
              exact this (by rw [show c = 43 from UInt8.toNat_inj.1 e])
            rw [if_neg (by omega)] at hu
            have hun : unsD (c :: r) = some u := (unsD_some _ u).2 ⟨hu, h2⟩
            rw [hun]
            simp only
            rw [if_pos (by omega)]

theorem sigD_bounds {l : List UInt8} {v : Int} (h : sigD l = some v) : -9223372036854775808 ≤ v ∧ v ≤ 9223372036854775807 := by
  unfold sigD at h
  split at h
  · split at h
    · split at h
      · cases h
      · injection h with h
        omega
    · cases h
  · split at h
    · split at h
      · injection h with h
        omega
      · cases h
    · cases h

theorem sigD_itoa (v : Int) (h0 : -9223372036854775808 ≤ v) (h1 : v ≤ 9223372036854775807) : sigD (itoa v) = some v := by
  by_cases hv : v < 0
  · obtain ⟨u, rfl⟩ : ∃ u : Nat, v = -(u : Int) := ⟨v.natAbs, by omega⟩
    rw [itoa_neg u (by omega)]
    unfold sigD
    rw [List.head?_cons, if_pos rfl, List.tail_cons, unsD_decDigits u (by omega)]
    simp only
    rw [if_neg (by omega)]
  · obtain ⟨u, rfl⟩ : ∃ u : Nat, v = (u : Int) := ⟨v.toNat, by omega⟩
    rw [itoa_nonneg]
    unfold sigD
    rw [if_neg (decDigits_head u).1, unsD_decDigits u (by omega)]
    simp only
    rw [if_pos (by omega)]
end Go.Proofs.YtagoooclfcbdeaaGreatDoor
