/- Plain laws on numbers' bytes: no program in sight. -/
import Derived.Test.YtdgmhegcoogokaaDoorOctC
namespace Go.Proofs.YtdgmhegcoogokaaDoor
set_option linter.unusedVariables false

theorem lt_bitLen : ∀ (m n : Nat), n < 2 ^ m → m ≤ 64 → n < 2 ^ Lib.bitLen n := by
  intro m
  induction m with
  | zero =>
    intro n h _
    obtain rfl : n = 0 := by simpa using h
    decide
  | succ m ih =>
    intro n h hm
    by_cases h0 : n = 0
    · subst h0; decide
    · have h64 : n < 2 ^ 64 := Nat.lt_of_lt_of_le h (Nat.pow_le_pow_right (by omega) hm)
      rw [Lib.bitLen_half n h0 h64, Nat.pow_add]
      have := ih (n / 2) (by rw [Nat.pow_succ] at h; omega) (by omega)
      omega

theorem pow256 (k : Nat) : 256 ^ k = 2 ^ (8 * k) := by rw [Nat.pow_mul]

/-- needN is the least k with n < 256 ^ k. -/
theorem needN_le_iff (n k : Nat) (h : n < 18446744073709551616) (hk : k ≤ 8) : needN n ≤ k ↔ n < 256 ^ k := by
  rw [pow256]
  constructor
  · intro hl
    have h1 := lt_bitLen 64 n (by omega) (by omega)
    unfold needN at hl
    exact Nat.lt_of_lt_of_le h1 (Nat.pow_le_pow_right (by omega) (by omega))
  · intro hl
    have h1 := Lib.bitLen_le n (8 * k) (by omega) hl
    unfold needN
    omega

theorem rdN_cons_aux (t : List UInt8) : ∀ n : Nat, t.foldl (fun n b => n * 256 + b.toNat) n = n * 256 ^ t.length + rdN t := by
  induction t with
  | nil => intro n; simp [rdN]
  | cons b t ih =>
    intro n
    have h1 := ih (n * 256 + b.toNat)
    have h2 := ih b.toNat
    simp only [List.foldl_cons, List.length_cons, rdN, Nat.pow_succ, Nat.zero_mul, Nat.zero_add] at *
    rw [h1, h2, Nat.add_mul, Nat.mul_assoc, Nat.mul_comm 256, Nat.add_assoc]
theorem rdN_cons (b : UInt8) (t : List UInt8) : rdN (b :: t) = b.toNat * 256 ^ t.length + rdN t := by
  have h := rdN_cons_aux t b.toNat
  simpa [rdN] using h

theorem needN_rdN (s : List UInt8) (hs : s.length ≤ 8) : needN (rdN s) = s.length ↔ (∀ b t, s = b :: t → b ≠ 0) := by
  have hlt := rdN_lt s
  have h64 : rdN s < 18446744073709551616 := by
    have h2 : 256 ^ s.length ≤ 256 ^ 8 := Nat.pow_le_pow_right (by omega) hs
    omega
  have hle := (needN_le_iff (rdN s) s.length h64 hs).2 hlt
  cases s with
  | nil => simp [rdN, needN_zero]
  | cons b t =>
    simp only [List.length_cons] at *
    have hk := needN_le_iff (rdN (b :: t)) t.length h64 (by omega)
    constructor
    · intro he b' t' e hb
      injection e with e1 e2
      subst e1 e2
      have h1 : rdN (b :: t) < 256 ^ t.length := by
        rw [rdN_cons, hb]
        have := rdN_lt t
        simpa using this
      have := hk.2 h1
      omega
    · intro hb
      have hb0 : 0 < b.toNat := by
        have h1 := hb b t rfl
        rcases Nat.eq_zero_or_pos b.toNat with h0 | h0
        · exact absurd (UInt8.toNat_inj.1 h0) h1
        · exact h0
      have h1 : ¬ rdN (b :: t) < 256 ^ t.length := by
        rw [rdN_cons]
        have : 1 * 256 ^ t.length ≤ b.toNat * 256 ^ t.length := Nat.mul_le_mul_right _ hb0
        omega
      have h2 : ¬ needN (rdN (b :: t)) ≤ t.length := fun h => h1 (hk.1 h)
      omega

/-- The reference's reading. -/
def refReadN (l : List UInt8) : Nat × Nat × Nat :=
  match l with
  | [] => (0, 0, 120)
  | h :: t => if 8 < h.toNat ∨ t.length < h.toNat then (0, 0, 120)
    else if 0 < h.toNat ∧ t.headD 1 = 0 then (0, 0, 120) else (rdN (t.take h.toNat), 1 + h.toNat, 0)

theorem readN_eq (l : List UInt8) : readN l = refReadN l := by
  cases l with
  | nil => rfl
  | cons h t =>
    unfold readN refReadN
    simp only
    by_cases hw : 8 < h.toNat ∨ t.length < h.toNat
    · rw [if_pos hw, if_pos hw]
    · rw [if_neg hw, if_neg hw]
      have hl : (t.take h.toNat).length = h.toNat := by rw [List.length_take]; omega
      have key := needN_rdN (t.take h.toNat) (by omega)
      rw [hl] at key
      by_cases hz : 0 < h.toNat ∧ t.headD 1 = 0
      · rw [if_pos hz, if_neg]
        intro he
        cases t with
        | nil => simp at hw; omega
        | cons b t' =>
          obtain ⟨k, hk⟩ : ∃ k, h.toNat = k + 1 := ⟨h.toNat - 1, by omega⟩
          exact key.1 he b (t'.take k) (by rw [hk]; rfl) (by simpa using hz.2)
      · rw [if_neg hz, if_pos]
        refine key.2 fun b t' e hb => hz ⟨?_, ?_⟩
        · rcases Nat.eq_zero_or_pos h.toNat with h0 | h0
          · rw [h0] at e; simp at e
          · exact h0
        · cases t with
          | nil => simp at e
          | cons c t'' =>
            obtain ⟨k, hk⟩ : ∃ k, h.toNat = k + 1 := by
              rcases Nat.eq_zero_or_pos h.toNat with h0 | h0
              · rw [h0] at e; simp at e
              · exact ⟨h.toNat - 1, by omega⟩
            rw [hk] at e
            simp at e
            simpa [e.1] using hb

theorem beB_snoc (n : Nat) : ∀ k, beB n (k + 1) = beB (n / 256) k ++ [UInt8.ofNat n] := by
  intro k
  induction k with
  | zero => simp [beB]
  | succ k ih =>
    rw [beB, ih, beB, List.cons_append]
    congr 1
    rw [Nat.div_div_eq_div_mul, Nat.mul_comm 8 k, Nat.mul_comm 8 (k + 1), show (256 : Nat) = 2 ^ 8 from rfl, ← Nat.pow_add]
    congr 3
    omega

theorem needN_step (n : Nat) (h : n < 18446744073709551616) (h0 : n ≠ 0) : needN n = needN (n / 256) + 1 := by
  have a := fun k hk => needN_le_iff n k h hk
  have b := fun k hk => needN_le_iff (n / 256) k (by omega) hk
  have h8 := needN_le n h
  have h8' := needN_le (n / 256) (by omega)
  have hq : ∀ k, n / 256 < 256 ^ k ↔ n < 256 ^ (k + 1) := fun k => by
    rw [Nat.pow_succ]
    exact Nat.div_lt_iff_lt_mul (by omega)
  have hpos : needN n ≠ 0 := by
    intro e
    have := (a 0 (by omega)).1 (by omega)
    simp at this
    exact h0 this
  obtain ⟨m, hm⟩ : ∃ m, needN n = m + 1 := ⟨needN n - 1, by omega⟩
  have h1 : needN (n / 256) ≤ m := (b m (by omega)).2 ((hq m).2 ((a (m + 1) (by omega)).1 (by omega)))
  have h2 : needN n ≤ needN (n / 256) + 1 := by
    by_cases h9 : needN (n / 256) = 8
    · omega
    · exact (a _ (by omega)).2 ((hq _).1 ((b _ h8').1 (Nat.le_refl _)))
  omega

theorem highF_eq : ∀ (f n : Nat), f ≤ 8 → n < 256 ^ f → highF f n = beB n (needN n) := by
  intro f
  induction f with
  | zero =>
    intro n _ hn
    obtain rfl : n = 0 := by simpa using hn
    rw [needN_zero]; rfl
  | succ f ih =>
    intro n hf hn
    by_cases h0 : n = 0
    · subst h0; rw [needN_zero]; simp [highF, beB]
    · have h64 : n < 18446744073709551616 := by
        have h2 : 256 ^ (f + 1) ≤ 256 ^ 8 := Nat.pow_le_pow_right (by omega) (by omega)
        omega
      rw [highF, if_neg h0, needN_step n h64 h0, beB_snoc, ih (n / 256) (by omega) (by rw [Nat.pow_succ] at hn; omega)]

theorem high8 (n : Nat) (h : n < 18446744073709551616) : highF 8 n = beB n (needN n) := highF_eq 8 n (Nat.le_refl _) (by omega)

theorem refNum_eq (n : Nat) (h : n < 18446744073709551616) : UInt8.ofNat (highF 8 n).length :: highF 8 n = numL n := by
  rw [high8 n h, beB_length]; rfl

/-- So many bytes of a number, read back. -/
theorem rdN_beB : ∀ (k n : Nat), n < 256 ^ k → rdN (beB n k) = n := by
  intro k
  induction k with
  | zero =>
    intro n h
    obtain rfl : n = 0 := by simpa using h
    rfl
  | succ k ih =>
    intro n h
    rw [beB_snoc, rdN_snoc, ih (n / 256) (by rw [Nat.pow_succ] at h; omega)]
    simp
    omega

theorem numL_length (n : Nat) : (numL n).length = 1 + needN n := by simp [numL, beB_length]; omega

/-- A number's bytes, with whatever behind them, are read back. -/
theorem readN_numL (n : Nat) (b : List UInt8) (h : n < 18446744073709551616) : readN (numL n ++ b) = (n, 1 + needN n, 0) := by
  have h8 := needN_le n h
  have e : (UInt8.ofNat (needN n)).toNat = needN n := by simp; omega
  have hl := beB_length n (needN n)
  have hn := (needN_le_iff n (needN n) h h8).1 (Nat.le_refl _)
  rw [numL, List.cons_append, readN_cons _ _ (by omega) (by rw [e, List.length_append]; omega), e]
  rw [List.take_append_of_le_length (by omega), List.take_of_length_le (by omega), rdN_beB _ _ hn, if_pos rfl]
end Go.Proofs.YtdgmhegcoogokaaDoor
