/- The answer of chapter 6: numbers of digits. The answer of chapter 6: Way, digits, number. The answer of chapter 6: turned. -/
import Derived.Test.YtagoooclfcbdeaaGreatDoorTextP
import Derived.Test.YtagoooclfcbdeaaGreatDoorReg
import Derived.Test.YtagoooclfcbdeaaGreatDoorStrS
import Derived.Test.YtagoooclfcbdeaaGreatDoorCvI
namespace Go.Proofs.YtagoooclfcbdeaaGreatDoor
open Go.RowKit
set_option linter.unusedVariables false

/-- What unsigned tells. -/
def uV (l : List UInt8) : Nat × Bool := match unsD l with
  | some n => (n, true)
  | none => (0, false)
theorem uV_none {l : List UInt8} (h : unsD l = none) : uV l = (0, false) := by unfold uV; rw [h]
theorem valD_append (n : Nat) (a b : List UInt8) : valD n (a ++ b) = valD (valD n a) b := by unfold valD; rw [List.foldl_append]
theorem valD_ge : ∀ (l : List UInt8) (n : Nat), n * 10 ^ l.length ≤ valD n l
  | [], n => by rw [valD_nil]; simp
  | c :: r, n => by
    rw [valD_cons]
    refine Nat.le_trans ?_ (valD_ge r _)
    rw [List.length_cons, Nat.pow_succ, Nat.add_mul]
    have : n * (10 ^ r.length * 10) = 10 * n * 10 ^ r.length := by rw [Nat.mul_comm (10 ^ r.length) 10, ← Nat.mul_assoc, Nat.mul_comm n 10]
    omega
theorem uV_bad {l : List UInt8} {x : UInt8} (h : x ∈ l) (hx : x.toNat < 48 ∨ 57 < x.toNat) : uV l = (0, false) := by
  refine uV_none ?_
  unfold unsD
  rw [if_neg]
  rintro ⟨hc, -⟩
  have := List.all_eq_true.1 ((canon_iff l).1 hc).2.1 x h
  unfold isDig at this
  simp at this
  omega
theorem uV_big {l : List UInt8} (h : 18446744073709551615 < valD 0 l) : uV l = (0, false) := by
  refine uV_none ?_
  unfold unsD
  rw [if_neg (by omega)]
theorem uV_notcanon {l : List UInt8} (h : ¬ (l ≠ [] ∧ (l.length = 1 ∨ l.head? ≠ some 48))) : uV l = (0, false) := by
  refine uV_none ?_
  unfold unsD
  rw [if_neg]
  rintro ⟨hc, -⟩
  exact h ⟨((canon_iff l).1 hc).1, ((canon_iff l).1 hc).2.2⟩
theorem uV_good {l : List UInt8} {n : Nat} (h : l ≠ [] ∧ (l.length = 1 ∨ l.head? ≠ some 48)) (hd : l.all isDig = true) (hn : n = valD 0 l) (hm : n ≤ 18446744073709551615) : uV l = (n, true) := by
  subst hn
  unfold uV unsD
  rw [if_pos ⟨(canon_iff l).2 ⟨h.1, hd, h.2⟩, hm⟩]
theorem uV_long {l : List UInt8} (h : 20 < l.length) : uV l = (0, false) := by
  by_cases hc : canon l = true
  · refine uV_big ?_
    obtain ⟨h1, h2, h3⟩ := (canon_iff l).1 hc
    obtain ⟨c, r, rfl⟩ := List.exists_cons_of_ne_nil h1
    have hr : 20 ≤ r.length := by simp at h; omega
    have hc1 : 1 ≤ c.toNat - 48 := by
      have hd := List.all_eq_true.1 h2 c (by simp)
      unfold isDig at hd
      simp at hd
      rcases h3 with h3 | h3
      · simp at h3; rw [h3] at h; simp at h
      · have hne : c ≠ 48 := by simpa using h3
        have : c.toNat ≠ 48 := fun e => hne (UInt8.toNat_inj.1 e)
        omega
    rw [valD_cons]
    have hp : (10 : Nat) ^ 20 ≤ 10 ^ r.length := Nat.pow_le_pow_right (by omega) hr
    have := valD_ge r (10 * 0 + (c.toNat - 48))
    have h4 : 1 * 10 ^ r.length ≤ (10 * 0 + (c.toNat - 48)) * 10 ^ r.length := Nat.mul_le_mul_right _ (by omega)
    have h5 : (18446744073709551615 : Nat) < 10 ^ 20 := by decide
    omega
  · refine uV_none ?_
    unfold unsD
    rw [if_neg (fun h => hc h.1)]

attribute [local go_sem] strL_size strL_toList
set_option maxRecDepth 100000 in
set_option maxHeartbeats 2000000 in
theorem unsigned_any (l : List UInt8) (w : World) (hl : l.length ≤ 100000) :
    Calls Tryz.prog 49 #[.string (strL l)] w fun e w' => e = .returned (.tuple #[.int .u64 ((uV l).1 : Int), .bool (uV l).2]) ∧ w = w' := by
  by_cases h0 : l = []
  · subst h0
    have hN : uV [] = (0, false) := rfl
    replace hN := Lib.hid hN
    go_enter Tryz.func49, Tryz.ntmps49
    go_wp2
    go_ret2
    exact ⟨by rw [hN.out]; rfl, rfl⟩
  have hne : ((l.length : Int) == 0) = false := by
    have := List.length_pos_iff.2 h0
    simp
    omega
  have hlen : 0 < l.length := List.length_pos_iff.2 h0
  have hh : l.head? = some l[0] := by rw [List.head?_eq_getElem?, List.getElem?_eq_getElem]
  by_cases hz : l[0] = 48
  · have hget0 : ∀ h, (strL l)[0]'h = 48 := fun h => hz
    rw [hz] at hh
    by_cases h1 : l.length = 1
    · have hcan : l ≠ [] ∧ (l.length = 1 ∨ l.head? ≠ some 48) := ⟨h0, .inl h1⟩
      have hfirst : decide ((1 : Int) < (l.length : Int)) = false := by simp; omega
      clear h1 hz hh
      go_enter Tryz.func49, Tryz.ntmps49
      go_wp2
      clear hget0
      go_loop [4, 5] (fun p q => ∃ k n : Nat, k ≤ l.length ∧ p = .int .u64 (n : Int) ∧ q = .int .i64 (k : Int) ∧ n = valD 0 (l.take k) ∧ (l.take k).all isDig = true ∧ n ≤ 18446744073709551615) (fun _ q => l.length - (intOf q).toNat)
      case atStart => exact ⟨0, 0, by omega, rfl, rfl, rfl, rfl, by omega⟩
      case round =>
        obtain ⟨k, n, hk, rfl, rfl, hn, hd, hmx⟩ := hrel
        clear hfirst
        by_cases hlt : k < l.length
        · have htk : l.take (k + 1) = l.take k ++ [l[k]] := List.take_succ_eq_append_getElem hlt
          have hmem : l[k] ∈ l := List.getElem_mem _
          have hbig : 18446744073709551615 < 10 * n + (l[k].toNat - 48) → 18446744073709551615 < valD 0 l := fun h => by
            have e : l = l.take (k + 1) ++ l.drop (k + 1) := (List.take_append_drop _ _).symm
            rw [e, valD_append, htk, valD_snoc, ← hn]
            exact Nat.lt_of_lt_of_le h (valD_le _ _)
          obtain ⟨x, ex⟩ : ∃ x, l[k]'hlt = x := ⟨_, rfl⟩
          have hget : ∀ h, (strL l)[k]'h = x := fun h => ex
          rw [ex] at hmem hbig htk
          clear ex
          have hx256 := x.toNat_lt
          have hlt1 : decide ((k : Int) < (l.length : Int)) = true := by simp; omega
          by_cases hx0 : x.toNat < 48
          · have hN : uV l = (0, false) := uV_bad hmem (Or.inl hx0)
            have d1 : decide ((x.toNat : Int) < 48) = true := by simp; omega
            replace hN := Lib.hid hN
            clear hbig htk hn hd hmx hx0 hmem hx256
            go_wp2
            go_ret2
            exact ⟨by rw [hN.out]; rfl, rfl⟩
          have d1 : decide ((x.toNat : Int) < 48) = false := by simp; omega
          by_cases hx1 : 57 < x.toNat
          · have hN : uV l = (0, false) := uV_bad hmem (Or.inr hx1)
            have d2 : decide ((57 : Int) < (x.toNat : Int)) = true := by simp; omega
            replace hN := Lib.hid hN
            clear hbig htk hn hd hmx hx0 hx1 hmem hx256
            go_wp2
            go_ret2
            exact ⟨by rw [hN.out]; rfl, rfl⟩
          have d2 : decide ((57 : Int) < (x.toNat : Int)) = false := by simp; omega
          obtain ⟨d, hd48⟩ : ∃ d : Nat, x.toNat = 48 + d := ⟨x.toNat - 48, by omega⟩
          have hd9 : d ≤ 9 := by omega
          have s1 : IntKind.u8.wrap ((x.toNat : Int) - 48) = (d : Int) := by rw [IntKind.wrap_u8]; omega
          have s2 : IntKind.u64.wrap (d : Int) = (d : Int) := by rw [IntKind.wrap_u64]; omega
          have s3 : IntKind.u64.wrap (18446744073709551615 - (d : Int)) = 18446744073709551615 - (d : Int) := by rw [IntKind.wrap_u64]; omega
          have hdig : isDig x = true := by unfold isDig; simp; omega
          have he48 : x.toNat - 48 = d := by omega
          rw [he48] at hbig
          by_cases hov : (18446744073709551615 - d) / 10 < n
          · have hN : uV l = (0, false) := uV_big (hbig (by omega))
            have d3 : decide ((18446744073709551615 - (d : Int)) / 10 < (n : Int)) = true := by simp; omega
            replace hN := Lib.hid hN
            clear hbig htk hn hd hmx hx0 hx1 hmem hdig he48 hov hx256
            replace hd48 := Lib.hid hd48
            go_wp2
            go_ret2
            exact ⟨by rw [hN.out]; rfl, rfl⟩
          · have d3 : decide ((18446744073709551615 - (d : Int)) / 10 < (n : Int)) = false := by simp; omega
            have m1 : IntKind.u64.wrap (10 * (n : Int)) = 10 * (n : Int) := by rw [IntKind.wrap_u64]; omega
            have m2 : IntKind.u64.wrap (10 * (n : Int) + (d : Int)) = ((10 * n + d : Nat) : Int) := by rw [IntKind.wrap_u64]; omega
            have q1 : 10 * n + d = valD 0 (l.take (k + 1)) := by rw [htk, valD_snoc, ← hn, he48]
            have q2 : (l.take (k + 1)).all isDig = true := by rw [htk, List.all_append, hd]; simp [hdig]
            have q3 : 10 * n + d ≤ 18446744073709551615 := by omega
            replace q1 := Lib.hid q1
            replace q2 := Lib.hid q2
            replace hd48 := Lib.hid hd48
            clear hbig htk hn hd hmx hx0 hx1 hmem hdig he48 hov hx256
            go_wp2
            go_round
            case rel => exact ⟨k + 1, 10 * n + d, by omega, rfl, by go_num, q1.out, q2.out, q3⟩
            case measure => simp [intOf]; omega
        · obtain rfl : k = l.length := by omega
          rw [List.take_length] at hn hd
          have hN : uV l = (n, true) := uV_good hcan hd hn hmx
          have hlt1 : decide ((l.length : Int) < (l.length : Int)) = false := by simp
          replace hN := Lib.hid hN
          clear hn hd hcan hmx hlt
          go_wp2
          go_ret2
          exact ⟨by rw [hN.out]; rfl, rfl⟩
    · have hN : uV l = (0, false) := uV_notcanon (by rintro ⟨-, h | h⟩; exact h1 h; exact h hh)
      have hfirst : decide ((1 : Int) < (l.length : Int)) = true := by simp; omega
      replace hN := Lib.hid hN
      clear h1 hz hh h0
      go_enter Tryz.func49, Tryz.ntmps49
      go_wp2
      go_ret2
      exact ⟨by rw [hN.out]; rfl, rfl⟩
  · have hcan : l ≠ [] ∧ (l.length = 1 ∨ l.head? ≠ some 48) := ⟨h0, .inr (by rw [hh]; simpa using hz)⟩
    have hfirst : ((l[0].toNat : Int) == 48) = false := by
      simp only [beq_eq_false_iff_ne, ne_eq]
      intro e
      exact hz (UInt8.toNat_inj.1 (by show l[0].toNat = 48; omega))
    obtain ⟨c, ec⟩ : ∃ c, l[0]'hlen = c := ⟨_, rfl⟩
    have hget0 : ∀ h, (strL l)[0]'h = c := fun h => ec
    rw [ec] at hfirst
    clear hz hh ec
    by_cases h1 : 1 < l.length
    · have d0 : decide ((1 : Int) < (l.length : Int)) = true := by simp; omega
      clear h1
      go_enter Tryz.func49, Tryz.ntmps49
      go_wp2
      clear hget0 d0
      go_loop [4, 5] (fun p q => ∃ k n : Nat, k ≤ l.length ∧ p = .int .u64 (n : Int) ∧ q = .int .i64 (k : Int) ∧ n = valD 0 (l.take k) ∧ (l.take k).all isDig = true ∧ n ≤ 18446744073709551615) (fun _ q => l.length - (intOf q).toNat)
      case atStart => exact ⟨0, 0, by omega, rfl, rfl, rfl, rfl, by omega⟩
      case round =>
        obtain ⟨k, n, hk, rfl, rfl, hn, hd, hmx⟩ := hrel
        clear hfirst
        by_cases hlt : k < l.length
        · have htk : l.take (k + 1) = l.take k ++ [l[k]] := List.take_succ_eq_append_getElem hlt
          have hmem : l[k] ∈ l := List.getElem_mem _
          have hbig : 18446744073709551615 < 10 * n + (l[k].toNat - 48) → 18446744073709551615 < valD 0 l := fun h => by
            have e : l = l.take (k + 1) ++ l.drop (k + 1) := (List.take_append_drop _ _).symm
            rw [e, valD_append, htk, valD_snoc, ← hn]
            exact Nat.lt_of_lt_of_le h (valD_le _ _)
          obtain ⟨x, ex⟩ : ∃ x, l[k]'hlt = x := ⟨_, rfl⟩
          have hget : ∀ h, (strL l)[k]'h = x := fun h => ex
          rw [ex] at hmem hbig htk
          clear ex
          have hx256 := x.toNat_lt
          have hlt1 : decide ((k : Int) < (l.length : Int)) = true := by simp; omega
          by_cases hx0 : x.toNat < 48
          · have hN : uV l = (0, false) := uV_bad hmem (Or.inl hx0)
            have d1 : decide ((x.toNat : Int) < 48) = true := by simp; omega
            replace hN := Lib.hid hN
            clear hbig htk hn hd hmx hx0 hmem hx256
            go_wp2
            go_ret2
            exact ⟨by rw [hN.out]; rfl, rfl⟩
          have d1 : decide ((x.toNat : Int) < 48) = false := by simp; omega
          by_cases hx1 : 57 < x.toNat
          · have hN : uV l = (0, false) := uV_bad hmem (Or.inr hx1)
            have d2 : decide ((57 : Int) < (x.toNat : Int)) = true := by simp; omega
            replace hN := Lib.hid hN
            clear hbig htk hn hd hmx hx0 hx1 hmem hx256
            go_wp2
            go_ret2
            exact ⟨by rw [hN.out]; rfl, rfl⟩
          have d2 : decide ((57 : Int) < (x.toNat : Int)) = false := by simp; omega
          obtain ⟨d, hd48⟩ : ∃ d : Nat, x.toNat = 48 + d := ⟨x.toNat - 48, by omega⟩
          have hd9 : d ≤ 9 := by omega
          have s1 : IntKind.u8.wrap ((x.toNat : Int) - 48) = (d : Int) := by rw [IntKind.wrap_u8]; omega
          have s2 : IntKind.u64.wrap (d : Int) = (d : Int) := by rw [IntKind.wrap_u64]; omega
          have s3 : IntKind.u64.wrap (18446744073709551615 - (d : Int)) = 18446744073709551615 - (d : Int) := by rw [IntKind.wrap_u64]; omega
          have hdig : isDig x = true := by unfold isDig; simp; omega
          have he48 : x.toNat - 48 = d := by omega
          rw [he48] at hbig
          by_cases hov : (18446744073709551615 - d) / 10 < n
          · have hN : uV l = (0, false) := uV_big (hbig (by omega))
            have d3 : decide ((18446744073709551615 - (d : Int)) / 10 < (n : Int)) = true := by simp; omega
            replace hN := Lib.hid hN
            clear hbig htk hn hd hmx hx0 hx1 hmem hdig he48 hov hx256
            replace hd48 := Lib.hid hd48
            go_wp2
            go_ret2
            exact ⟨by rw [hN.out]; rfl, rfl⟩
          · have d3 : decide ((18446744073709551615 - (d : Int)) / 10 < (n : Int)) = false := by simp; omega
            have m1 : IntKind.u64.wrap (10 * (n : Int)) = 10 * (n : Int) := by rw [IntKind.wrap_u64]; omega
            have m2 : IntKind.u64.wrap (10 * (n : Int) + (d : Int)) = ((10 * n + d : Nat) : Int) := by rw [IntKind.wrap_u64]; omega
            have q1 : 10 * n + d = valD 0 (l.take (k + 1)) := by rw [htk, valD_snoc, ← hn, he48]
            have q2 : (l.take (k + 1)).all isDig = true := by rw [htk, List.all_append, hd]; simp [hdig]
            have q3 : 10 * n + d ≤ 18446744073709551615 := by omega
            replace q1 := Lib.hid q1
            replace q2 := Lib.hid q2
            replace hd48 := Lib.hid hd48
            clear hbig htk hn hd hmx hx0 hx1 hmem hdig he48 hov hx256
            go_wp2
            go_round
            case rel => exact ⟨k + 1, 10 * n + d, by omega, rfl, by go_num, q1.out, q2.out, q3⟩
            case measure => simp [intOf]; omega
        · obtain rfl : k = l.length := by omega
          rw [List.take_length] at hn hd
          have hN : uV l = (n, true) := uV_good hcan hd hn hmx
          have hlt1 : decide ((l.length : Int) < (l.length : Int)) = false := by simp
          replace hN := Lib.hid hN
          clear hn hd hcan hmx hlt
          go_wp2
          go_ret2
          exact ⟨by rw [hN.out]; rfl, rfl⟩
    · have d0 : decide ((1 : Int) < (l.length : Int)) = false := by simp; omega
      clear h1
      go_enter Tryz.func49, Tryz.ntmps49
      go_wp2
      clear hget0 d0
      go_loop [4, 5] (fun p q => ∃ k n : Nat, k ≤ l.length ∧ p = .int .u64 (n : Int) ∧ q = .int .i64 (k : Int) ∧ n = valD 0 (l.take k) ∧ (l.take k).all isDig = true ∧ n ≤ 18446744073709551615) (fun _ q => l.length - (intOf q).toNat)
      case atStart => exact ⟨0, 0, by omega, rfl, rfl, rfl, rfl, by omega⟩
      case round =>
        obtain ⟨k, n, hk, rfl, rfl, hn, hd, hmx⟩ := hrel
        clear hfirst
        by_cases hlt : k < l.length
        · have htk : l.take (k + 1) = l.take k ++ [l[k]] := List.take_succ_eq_append_getElem hlt
          have hmem : l[k] ∈ l := List.getElem_mem _
          have hbig : 18446744073709551615 < 10 * n + (l[k].toNat - 48) → 18446744073709551615 < valD 0 l := fun h => by
            have e : l = l.take (k + 1) ++ l.drop (k + 1) := (List.take_append_drop _ _).symm
            rw [e, valD_append, htk, valD_snoc, ← hn]
            exact Nat.lt_of_lt_of_le h (valD_le _ _)
          obtain ⟨x, ex⟩ : ∃ x, l[k]'hlt = x := ⟨_, rfl⟩
          have hget : ∀ h, (strL l)[k]'h = x := fun h => ex
          rw [ex] at hmem hbig htk
          clear ex
          have hx256 := x.toNat_lt
          have hlt1 : decide ((k : Int) < (l.length : Int)) = true := by simp; omega
          by_cases hx0 : x.toNat < 48
          · have hN : uV l = (0, false) := uV_bad hmem (Or.inl hx0)
            have d1 : decide ((x.toNat : Int) < 48) = true := by simp; omega
            replace hN := Lib.hid hN
            clear hbig htk hn hd hmx hx0 hmem hx256
            go_wp2
            go_ret2
            exact ⟨by rw [hN.out]; rfl, rfl⟩
          have d1 : decide ((x.toNat : Int) < 48) = false := by simp; omega
          by_cases hx1 : 57 < x.toNat
          · have hN : uV l = (0, false) := uV_bad hmem (Or.inr hx1)
            have d2 : decide ((57 : Int) < (x.toNat : Int)) = true := by simp; omega
            replace hN := Lib.hid hN
            clear hbig htk hn hd hmx hx0 hx1 hmem hx256
            go_wp2
            go_ret2
            exact ⟨by rw [hN.out]; rfl, rfl⟩
          have d2 : decide ((57 : Int) < (x.toNat : Int)) = false := by simp; omega
          obtain ⟨d, hd48⟩ : ∃ d : Nat, x.toNat = 48 + d := ⟨x.toNat - 48, by omega⟩
          have hd9 : d ≤ 9 := by omega
          have s1 : IntKind.u8.wrap ((x.toNat : Int) - 48) = (d : Int) := by rw [IntKind.wrap_u8]; omega
          have s2 : IntKind.u64.wrap (d : Int) = (d : Int) := by rw [IntKind.wrap_u64]; omega
          have s3 : IntKind.u64.wrap (18446744073709551615 - (d : Int)) = 18446744073709551615 - (d : Int) := by rw [IntKind.wrap_u64]; omega
          have hdig : isDig x = true := by unfold isDig; simp; omega
          have he48 : x.toNat - 48 = d := by omega
          rw [he48] at hbig
          by_cases hov : (18446744073709551615 - d) / 10 < n
          · have hN : uV l = (0, false) := uV_big (hbig (by omega))
            have d3 : decide ((18446744073709551615 - (d : Int)) / 10 < (n : Int)) = true := by simp; omega
            replace hN := Lib.hid hN
            clear hbig htk hn hd hmx hx0 hx1 hmem hdig he48 hov hx256
            replace hd48 := Lib.hid hd48
            go_wp2
            go_ret2
            exact ⟨by rw [hN.out]; rfl, rfl⟩
          · have d3 : decide ((18446744073709551615 - (d : Int)) / 10 < (n : Int)) = false := by simp; omega
            have m1 : IntKind.u64.wrap (10 * (n : Int)) = 10 * (n : Int) := by rw [IntKind.wrap_u64]; omega
            have m2 : IntKind.u64.wrap (10 * (n : Int) + (d : Int)) = ((10 * n + d : Nat) : Int) := by rw [IntKind.wrap_u64]; omega
            have q1 : 10 * n + d = valD 0 (l.take (k + 1)) := by rw [htk, valD_snoc, ← hn, he48]
            have q2 : (l.take (k + 1)).all isDig = true := by rw [htk, List.all_append, hd]; simp [hdig]
            have q3 : 10 * n + d ≤ 18446744073709551615 := by omega
            replace q1 := Lib.hid q1
            replace q2 := Lib.hid q2
            replace hd48 := Lib.hid hd48
            clear hbig htk hn hd hmx hx0 hx1 hmem hdig he48 hov hx256
            go_wp2
            go_round
            case rel => exact ⟨k + 1, 10 * n + d, by omega, rfl, by go_num, q1.out, q2.out, q3⟩
            case measure => simp [intOf]; omega
        · obtain rfl : k = l.length := by omega
          rw [List.take_length] at hn hd
          have hN : uV l = (n, true) := uV_good hcan hd hn hmx
          have hlt1 : decide ((l.length : Int) < (l.length : Int)) = false := by simp
          replace hN := Lib.hid hN
          clear hn hd hcan hmx hlt
          go_wp2
          go_ret2
          exact ⟨by rw [hN.out]; rfl, rfl⟩

/-- What signed tells. -/
def SgPost (w : World) (l : List UInt8) (e : Ending) (w' : World) : Prop := ∃ v : Int, e = .returned (.tuple #[.int .i64 v, .bool (sigD l).isSome]) ∧ (∀ n, sigD l = some n → v = n) ∧ w = w'
theorem uV_le (l : List UInt8) : (uV l).1 ≤ 18446744073709551615 := by
  unfold uV
  cases h : unsD l with
  | none => exact Nat.zero_le _
  | some n => exact unsD_le h
theorem SgPost.mk (w : World) (l : List UInt8) (v : Int) (b : Bool) (h : ((sigD l).isSome = b) ∧ ∀ n, sigD l = some n → v = n) : SgPost w l (.returned (.tuple #[.int .i64 v, .bool b])) w := ⟨v, by rw [h.1], h.2, rfl⟩
set_option maxRecDepth 100000 in
theorem signed_nil (w : World) : Calls Tryz.prog 48 #[.string (strL [])] w (SgPost w []) := by
  have hu := fun W => unsigned_any [] W (by simp)
  rw [show uV [] = (0, false) from rfl] at hu
  replace hu := Lib.hid hu
  go_enter Tryz.func48, Tryz.ntmps48
  go_wp2_with fail
  refine (hu.out _).mono ?_
  rintro e w' ⟨rfl, rfl⟩
  clear hu
  go_wp2
  go_ret2
  exact SgPost.mk _ _ _ _ ⟨rfl, fun n h => by cases h⟩
set_option maxRecDepth 100000 in
theorem signed_pos (l : List UInt8) (w : World) (hl : l.length ≤ 90000) (hh : l.head? ≠ some 45) : Calls Tryz.prog 48 #[.string (strL l)] w (SgPost w l) := by
  have hu := fun W => unsigned_any l W (by omega)
  have hle := uV_le l
  have hs : sigD l = if (uV l).2 = true ∧ (uV l).1 < 9223372036854775808 then some ((uV l).1 : Int) else none := by
    unfold sigD uV
    rw [if_neg hh]
    cases unsD l with
    | none => rfl
    | some n => simp
  generalize (uV l).1 = n at *
  generalize (uV l).2 = b at *
  have hc : IntKind.i64.wrap ((n : Int) % 9223372036854775808) = (n : Int) % 9223372036854775808 := by rw [IntKind.wrap_i64]; omega
  have hk : (b = false ∨ (b = true ∧ decide ((n : Int) ≤ 9223372036854775807) = false)) ∧ sigD l = none ∨ ((b = true ∧ decide ((n : Int) ≤ 9223372036854775807) = true) ∧ sigD l = some (n : Int) ∧ (n : Int) % 9223372036854775808 = (n : Int)) := by
    cases b with
    | false => exact .inl ⟨.inl rfl, by rw [hs]; simp⟩
    | true =>
      by_cases h : n < 9223372036854775808
      · exact .inr ⟨⟨rfl, by simp; omega⟩, by rw [hs, if_pos ⟨rfl, h⟩], by omega⟩
      · exact .inl ⟨.inr ⟨rfl, by simp; omega⟩, by rw [hs, if_neg (fun e => h e.2)]⟩
  replace hu := Lib.hid hu
  clear hs hle
  cases l with
  | nil => exact signed_nil w
  | cons c r =>
    have hne : ((c.toNat : Int) == 45) = false := by
      simp only [beq_eq_false_iff_ne, ne_eq]
      intro e
      refine hh ?_
      rw [List.head?_cons, UInt8.toNat_inj.1 (show c.toNat = (45 : UInt8).toNat from by show c.toNat = 45; omega)]
    have hpos : 0 < (c :: r).length := by simp
    have hget : ∀ h, (strL (c :: r))[0]'h = c := fun h => rfl
    generalize c :: r = l at *
    clear hh
    rcases hk with ⟨rfl | ⟨rfl, hd⟩, hr⟩ | ⟨⟨rfl, hd⟩, hr, hm⟩
    rotate_left
    rotate_left
    replace hm := Lib.hid hm
    rotate_left
    all_goals
      replace hr := Lib.hid hr
      go_enter Tryz.func48, Tryz.ntmps48
      go_wp2_with fail
      refine (hu.out _).mono ?_
      rintro e w' ⟨rfl, rfl⟩
      clear hu
      go_wp2
      go_ret2
    · exact SgPost.mk _ _ _ _ (by rw [hr.out]; simp)
    · exact SgPost.mk _ _ _ _ (by rw [hr.out]; simp)
    · exact SgPost.mk _ _ _ _ (by rw [hr.out, hm.out]; simp)
set_option maxRecDepth 100000 in
theorem signed_neg (r : List UInt8) (w : World) (hl : r.length ≤ 90000) : Calls Tryz.prog 48 #[.string (strL (45 :: r))] w (SgPost w (45 :: r)) := by
  have hu := fun W => unsigned_any r W (by omega)
  have hle := uV_le r
  have hs : sigD (45 :: r) = if (uV r).2 = true ∧ ¬ ((uV r).1 = 0 ∨ 9223372036854775808 < (uV r).1) then some (-((uV r).1 : Int)) else none := by
    unfold sigD uV
    rw [List.head?_cons, if_pos rfl, List.tail_cons]
    cases unsD r with
    | none => rfl
    | some n =>
      dsimp only
      by_cases h : n = 0 ∨ 9223372036854775808 < n
      · rw [if_pos h, if_neg (fun e => e.2 h)]
      · rw [if_neg h, if_pos ⟨rfl, h⟩]
  generalize (uV r).1 = n at *
  generalize (uV r).2 = b at *
  have hsl : ∀ W, (Instr.slice 9 (.string (strL (45 :: r))) (some (.int .i64 1)) none none).run Tryz.prog W = .ok (.string (strL r)) W := fun W => sl_lo (45 :: r) 1 (by simp) W
  have hpos : 0 < (45 :: r).length := by simp
  have hget : ∀ h, (strL (45 :: r))[0]'h = 45 := fun h => rfl
  have hl2 : (45 :: r).length ≤ 90001 := by simp; omega
  generalize hl0 : (45 :: r) = l at *
  replace hu := Lib.hid hu
  cases b with
  | false =>
    have hr : sigD l = none := by rw [hs]; simp
    replace hr := Lib.hid hr
    clear hs hle
    go_enter Tryz.func48, Tryz.ntmps48
    go_wp2_with fail
    refine (hu.out _).mono ?_
    rintro e w' ⟨rfl, rfl⟩
    clear hu
    go_wp2
    go_ret2
    exact SgPost.mk _ _ _ _ (by rw [hr.out]; simp)
  | true =>
    by_cases h0 : n = 0
    · subst h0
      have hr : sigD l = none := by rw [hs]; simp
      replace hr := Lib.hid hr
      clear hs hle
      go_enter Tryz.func48, Tryz.ntmps48
      go_wp2_with fail
      refine (hu.out _).mono ?_
      rintro e w' ⟨rfl, rfl⟩
      clear hu
      go_wp2
      go_ret2
      exact SgPost.mk _ _ _ _ (by rw [hr.out]; simp)
    · have d0 : ((n : Int) == 0) = false := by simpa using h0
      by_cases h1 : 9223372036854775808 < n
      · have d1 : decide ((9223372036854775808 : Int) < (n : Int)) = true := by simp; omega
        have hr : sigD l = none := by rw [hs, if_neg]; rintro ⟨-, h⟩; exact h (.inr h1)
        replace hr := Lib.hid hr
        clear hs hle h0 h1
        go_enter Tryz.func48, Tryz.ntmps48
        go_wp2_with fail
        refine (hu.out _).mono ?_
        rintro e w' ⟨rfl, rfl⟩
        clear hu
        go_wp2
        go_ret2
        exact SgPost.mk _ _ _ _ (by rw [hr.out]; simp)
      · have d1 : decide ((9223372036854775808 : Int) < (n : Int)) = false := by simp; omega
        have hr : sigD l = some (-(n : Int)) := by rw [hs, if_pos]; exact ⟨rfl, by omega⟩
        have m1 : IntKind.u64.wrap ((n : Int) - 1) = (n : Int) - 1 := by rw [IntKind.wrap_u64]; omega
        have m2 : IntKind.i64.wrap ((n : Int) - 1) = (n : Int) - 1 := by rw [IntKind.wrap_i64]; omega
        have m3 : IntKind.i64.wrap (-1 - ((n : Int) - 1)) = -(n : Int) := by rw [IntKind.wrap_i64]; omega
        replace hr := Lib.hid hr
        clear hs hle h0 h1
        go_enter Tryz.func48, Tryz.ntmps48
        go_wp2_with fail
        refine (hu.out _).mono ?_
        rintro e w' ⟨rfl, rfl⟩
        clear hu
        go_wp2
        go_ret2
        exact SgPost.mk _ _ _ _ (by rw [hr.out]; simp; try omega)
theorem signed_any (l : List UInt8) (w : World) (hl : l.length ≤ 90000) : Calls Tryz.prog 48 #[.string (strL l)] w (SgPost w l) := by
  by_cases h : l.head? = some 45
  · cases l with
    | nil => cases h
    | cons c r =>
      rw [List.head?_cons] at h
      injection h with h
      subst h
      exact signed_neg r w (by simp at hl; omega)
  · exact signed_pos l w hl h
end Go.Proofs.YtagoooclfcbdeaaGreatDoor
namespace Go.Proofs.YtagoooclfcbdeaaGreatDoor
open Go.RowKit
set_option linter.unusedVariables false

set_option maxRecDepth 100000 in
theorem rway_any (a b : Int) (w : World) : Calls Tryz.prog 17 #[.int .i64 a, .int .i64 b] w fun e w' => e = .returned (.bool (wayV a b)) ∧ w = w' := by
  by_cases a1 : a < 1
  · have hR : wayV a b = false := by unfold wayV; simp; omega
    have d1 : decide (a < 1) = true := by simpa using a1
    replace hR := Lib.hid hR
    go_enter Tryz.func17, Tryz.ntmps17
    go_wp2
    go_ret
    exact ⟨by rw [hR.out]; rfl, rfl⟩
  have d1 : decide (a < 1) = false := by simpa using a1
  by_cases a4 : 4 < a
  · have hR : wayV a b = false := by unfold wayV; simp; omega
    have d2 : decide (4 < a) = true := by simpa using a4
    replace hR := Lib.hid hR
    go_enter Tryz.func17, Tryz.ntmps17
    go_wp2
    go_ret
    exact ⟨by rw [hR.out]; rfl, rfl⟩
  have ha : a = 1 ∨ a = 2 ∨ a = 3 ∨ a = 4 := by omega
  clear d1 a1 a4
  rcases ha with rfl | rfl | rfl | rfl
  · skip
    by_cases b1 : b < 1
    · have hR : wayV 1 b = false := by unfold wayV; simp; omega
      have d3 : decide (b < 1) = true := by simpa using b1
      replace hR := Lib.hid hR
      go_enter Tryz.func17, Tryz.ntmps17
      go_wp2
      go_ret
      exact ⟨by rw [hR.out]; rfl, rfl⟩
    have d3 : decide (b < 1) = false := by simpa using b1
    by_cases b4 : 4 < b
    · have hR : wayV 1 b = false := by unfold wayV; simp; omega
      have d4 : decide (4 < b) = true := by simpa using b4
      replace hR := Lib.hid hR
      go_enter Tryz.func17, Tryz.ntmps17
      go_wp2
      go_ret
      exact ⟨by rw [hR.out]; rfl, rfl⟩
    have hb : b = 1 ∨ b = 2 ∨ b = 3 ∨ b = 4 := by omega
    clear d3 b1 b4
    rcases hb with rfl | rfl | rfl | rfl
    · go_enter Tryz.func17, Tryz.ntmps17
      go_wp2
      go_ret
      exact ⟨rfl, rfl⟩
    · go_enter Tryz.func17, Tryz.ntmps17
      go_wp2
      go_ret
      exact ⟨rfl, rfl⟩
    · go_enter Tryz.func17, Tryz.ntmps17
      go_wp2
      go_ret
      exact ⟨rfl, rfl⟩
    · go_enter Tryz.func17, Tryz.ntmps17
      go_wp2
      go_ret
      exact ⟨rfl, rfl⟩
  · skip
    by_cases b1 : b < 1
    · have hR : wayV 2 b = false := by unfold wayV; simp; omega
      have d3 : decide (b < 1) = true := by simpa using b1
      replace hR := Lib.hid hR
      go_enter Tryz.func17, Tryz.ntmps17
      go_wp2
      go_ret
      exact ⟨by rw [hR.out]; rfl, rfl⟩
    have d3 : decide (b < 1) = false := by simpa using b1
    by_cases b4 : 4 < b
    · have hR : wayV 2 b = false := by unfold wayV; simp; omega
      have d4 : decide (4 < b) = true := by simpa using b4
      replace hR := Lib.hid hR
      go_enter Tryz.func17, Tryz.ntmps17
      go_wp2
      go_ret
      exact ⟨by rw [hR.out]; rfl, rfl⟩
    have hb : b = 1 ∨ b = 2 ∨ b = 3 ∨ b = 4 := by omega
    clear d3 b1 b4
    rcases hb with rfl | rfl | rfl | rfl
    · go_enter Tryz.func17, Tryz.ntmps17
      go_wp2
      go_ret
      exact ⟨rfl, rfl⟩
    · go_enter Tryz.func17, Tryz.ntmps17
      go_wp2
      go_ret
      exact ⟨rfl, rfl⟩
    · go_enter Tryz.func17, Tryz.ntmps17
      go_wp2
      go_ret
      exact ⟨rfl, rfl⟩
    · go_enter Tryz.func17, Tryz.ntmps17
      go_wp2
      go_ret
      exact ⟨rfl, rfl⟩
  · skip
    by_cases b1 : b < 1
    · have hR : wayV 3 b = false := by unfold wayV; simp; omega
      have d3 : decide (b < 1) = true := by simpa using b1
      replace hR := Lib.hid hR
      go_enter Tryz.func17, Tryz.ntmps17
      go_wp2
      go_ret
      exact ⟨by rw [hR.out]; rfl, rfl⟩
    have d3 : decide (b < 1) = false := by simpa using b1
    by_cases b4 : 4 < b
    · have hR : wayV 3 b = false := by unfold wayV; simp; omega
      have d4 : decide (4 < b) = true := by simpa using b4
      replace hR := Lib.hid hR
      go_enter Tryz.func17, Tryz.ntmps17
      go_wp2
      go_ret
      exact ⟨by rw [hR.out]; rfl, rfl⟩
    have hb : b = 1 ∨ b = 2 ∨ b = 3 ∨ b = 4 := by omega
    clear d3 b1 b4
    rcases hb with rfl | rfl | rfl | rfl
    · go_enter Tryz.func17, Tryz.ntmps17
      go_wp2
      go_ret
      exact ⟨rfl, rfl⟩
    · go_enter Tryz.func17, Tryz.ntmps17
      go_wp2
      go_ret
      exact ⟨rfl, rfl⟩
    · go_enter Tryz.func17, Tryz.ntmps17
      go_wp2
      go_ret
      exact ⟨rfl, rfl⟩
    · go_enter Tryz.func17, Tryz.ntmps17
      go_wp2
      go_ret
      exact ⟨rfl, rfl⟩
  · skip
    by_cases b1 : b < 1
    · have hR : wayV 4 b = false := by unfold wayV; simp; omega
      have d3 : decide (b < 1) = true := by simpa using b1
      replace hR := Lib.hid hR
      go_enter Tryz.func17, Tryz.ntmps17
      go_wp2
      go_ret
      exact ⟨by rw [hR.out]; rfl, rfl⟩
    have d3 : decide (b < 1) = false := by simpa using b1
    by_cases b4 : 4 < b
    · have hR : wayV 4 b = false := by unfold wayV; simp; omega
      have d4 : decide (4 < b) = true := by simpa using b4
      replace hR := Lib.hid hR
      go_enter Tryz.func17, Tryz.ntmps17
      go_wp2
      go_ret
      exact ⟨by rw [hR.out]; rfl, rfl⟩
    have hb : b = 1 ∨ b = 2 ∨ b = 3 ∨ b = 4 := by omega
    clear d3 b1 b4
    rcases hb with rfl | rfl | rfl | rfl
    · go_enter Tryz.func17, Tryz.ntmps17
      go_wp2
      go_ret
      exact ⟨rfl, rfl⟩
    · go_enter Tryz.func17, Tryz.ntmps17
      go_wp2
      go_ret
      exact ⟨rfl, rfl⟩
    · go_enter Tryz.func17, Tryz.ntmps17
      go_wp2
      go_ret
      exact ⟨rfl, rfl⟩
    · go_enter Tryz.func17, Tryz.ntmps17
      go_wp2
      go_ret
      exact ⟨rfl, rfl⟩
theorem below_two {w : World} (o1 o2 : Obj) : Below w.heap.size w ((w.alloc o1).alloc o2) := gr_alloc (gr_alloc (Below.refl _ w) _) _
set_option maxRecDepth 100000 in
set_option maxHeartbeats 2000000 in
theorem rdigits_any (c : Cl) (w : World) (hz : c.z = 1 ∨ c.z = 2 ∨ c.z = 4 ∨ c.z = 8) : Calls Tryz.prog 35 #[c.val] w fun e w' => e = .returned (.int .i64 (digV c)) ∧ Below w.heap.size w w' := by
  obtain ⟨cn, ct, cz, cl⟩ := c
  dsimp only at hz
  simp only [Cl.val]
  have hb2 := fun o1 o2 => below_two (w := w) o1 o2
  by_cases ht : ct = 1
  · subst ht
    rcases hz with rfl | rfl | rfl | rfl
    all_goals
      go_enter Tryz.func35, Tryz.ntmps35
      go_wp2
      go_ret
      exact ⟨rfl, hb2 _ _⟩
  · have h1 : (ct == 1) = false := by simpa using ht
    have hR : ∀ cz, digV ⟨cn, ct, cz, cl⟩ = if cz = 1 then 3 else if cz = 2 then 5 else if cz = 4 then 10 else 20 := fun cz => by unfold digV; rw [if_neg ht]
    replace hR := Lib.hid hR
    clear ht
    rcases hz with rfl | rfl | rfl | rfl
    all_goals
      go_enter Tryz.func35, Tryz.ntmps35
      go_wp2
      go_ret
      exact ⟨by rw [hR.out]; rfl, hb2 _ _⟩
/-- What number tells. -/
def NumP (w : World) (x : Vl) (e : Ending) (w' : World) : Prop := ∃ (n : Int) (b : Bool), e = .returned (.tuple #[.int .i64 n, .bool b]) ∧ (b = true → numV x = some n) ∧ (b = false → numV x = none) ∧ Below w.heap.size w w'
set_option maxRecDepth 100000 in
theorem rnumber_any (x : Vl) (hx : x.Wf) (w : World) : Calls Tryz.prog 50 #[x.val] w (NumP w x) := by
  have u0 := hx.u0
  have u1 := hx.u1
  have hV := VBox.new w x.k x.i x.u (strL x.s)
  have hb : Below w.heap.size w (w.alloc (.cells #[.int .i64 x.k, .int .i64 x.i, .int .u64 x.u, .string (strL x.s)] 28)) := gr_alloc (Below.refl _ w) _
  clear hx
  obtain ⟨xk, xi, xu, xs⟩ := x
  simp only [Vl.val, valV] at *
  have cv := hV.cells
  by_cases hk : xk = 2
  · subst hk
    have hm : wrap64 (xu % 9223372036854775808) = xu % 9223372036854775808 := by unfold wrap64; omega
    have hn : numV ⟨2, xi, xu, xs⟩ = if xu < 9223372036854775808 then some xu else none := rfl
    by_cases hu : xu < 9223372036854775808
    · have d1 : decide (xu < 9223372036854775808) = true := by simpa using hu
      have hme : xu % 9223372036854775808 = xu := by omega
      rw [if_pos hu] at hn
      replace hn := Lib.hid hn
      clear hu u0 u1 hm
      have hm : wrap64 xu = xu := by unfold wrap64; omega
      go_enter Tryz.func50, Tryz.ntmps50
      go_wp2
      generalize (w.alloc (.cells #[.int .i64 2, .int .i64 xi, .int .u64 xu, .string (strL xs)] 28)) = w2 at *
      go_region
      go_wp2
      go_ret2
      exact ⟨xu, true, rfl, fun _ => hn.out, (by intro h; cases h), hb.drew⟩
    · have d1 : decide (xu < 9223372036854775808) = false := by simpa using hu
      rw [if_neg hu] at hn
      replace hn := Lib.hid hn
      clear hu u0 u1
      go_enter Tryz.func50, Tryz.ntmps50
      go_wp2
      generalize (w.alloc (.cells #[.int .i64 2, .int .i64 xi, .int .u64 xu, .string (strL xs)] 28)) = w2 at *
      go_region
      go_wp2
      go_ret2
      exact ⟨_, false, rfl, (by intro h; cases h), fun _ => hn.out, hb.drew⟩
  · have h2 : (xk == 2) = false := by simpa using hk
    have hn : numV ⟨xk, xi, xu, xs⟩ = some xi := by unfold numV; rw [if_neg hk]
    replace hn := Lib.hid hn
    clear hk u0 u1
    go_enter Tryz.func50, Tryz.ntmps50
    go_wp2
    go_ret2
    exact ⟨xi, true, rfl, fun _ => hn.out, (by intro h; cases h), hb⟩
end Go.Proofs.YtagoooclfcbdeaaGreatDoor
namespace Go.Proofs.YtagoooclfcbdeaaGreatDoor
open Go.RowKit
set_option linter.unusedVariables false

set_option maxRecDepth 100000 in
theorem rturned_same (x : Vl) (w : World) : Calls Tryz.prog 31 #[x.val, .int .i64 x.k] w (TurnP w (turnV x x.k)) := by
  rw [tv_same]
  obtain ⟨xk, xi, xu, xs⟩ := x
  simp only [Vl.val, valV] at *
  go_enter Tryz.func31, Tryz.ntmps31
  go_wp2
  have hP := VBox.new (w.alloc (.cells #[.int .i64 xk, .int .i64 xi, .int .u64 xu, .string (strL xs)] 28)) xk xi xu (strL xs)
  rw [show (w.alloc (.cells #[.int .i64 xk, .int .i64 xi, .int .u64 xu, .string (strL xs)] 28)).heap.size = w.heap.size + 1 by simp] at hP
  refine bodyPost_ret (results_cellV rfl _ _ rfl hP) rfl ?_
  exact ⟨⟨xk, xi, xu, xs⟩, true, rfl, fun _ => rfl, (by intro h; cases h), gr_alloc (gr_alloc (Below.refl _ w) _) _⟩
set_option maxRecDepth 100000 in
theorem rturned_14 (x : Vl) (w : World) (hE : Env w) (hx : x.Wf) (hk : x.k = 1) : Calls Tryz.prog 31 #[x.val, .int .i64 4] w (TurnP w (turnV x 4)) := by
  rw [tv14 hk]
  have hF := Lib.hid (fun W h => FmtI_any x.i W h hx.i0 hx.i1)
  obtain ⟨xk, xi, xu, xs⟩ := x
  dsimp only at hk hF
  subst hk
  simp only [Vl.val, valV] at *
  generalize Lib.itoa xi = l at *
  clear hx
  have hb1 : Below w.heap.size w ((w.alloc (.cells #[.int .i64 1, .int .i64 xi, .int .u64 xu, .string (strL xs)] 28)).alloc (.cells #[.int .i64 0, .int .i64 0, .int .u64 0, .string { data := #[] }] 28)) := gr_alloc (gr_alloc (Below.refl _ w) _) _
  have hX1 := (VBox.new w 1 xi xu (strL xs)).below ((Below.refl _ (w.alloc (.cells #[.int .i64 1, .int .i64 xi, .int .u64 xu, .string (strL xs)] 28))).alloc (Nat.le_refl _) (.cells #[.int .i64 0, .int .i64 0, .int .u64 0, .string { data := #[] }] 28)) (by simp)
  have hR1 := VBox.new (w.alloc (.cells #[.int .i64 1, .int .i64 xi, .int .u64 xu, .string (strL xs)] 28)) 0 0 0 { data := #[] }
  rw [show (w.alloc (.cells #[.int .i64 1, .int .i64 xi, .int .u64 xu, .string (strL xs)] 28)).heap.size = w.heap.size + 1 by simp] at hR1
  have hE1 := hE.below hb1
  go_enter Tryz.func31, Tryz.ntmps31
  go_wp2_with fail
  refine (hF.out _ hE1).mono ?_
  rintro e w2 ⟨rfl, g1⟩
  have hlt := hR1.lt
  have hX2 := hX1.below g1 (by omega)
  have hR2 := hR1.below g1 hlt
  have hb2 := gr hb1 g1
  clear hF g1 hlt hR1 hX1 hb1 hE1 hE
  have cr := hR2.cells
  have f0 := hR2.frozen 0
  have f1 := hR2.frozen 1
  have f2 := hR2.frozen 2
  have f3 := hR2.frozen 3
  go_wp2
  have hP := hR2.put 4 0 0 (strL l)
  refine bodyPost_ret (results_cellV rfl _ _ rfl hP) rfl ?_
  exact ⟨⟨4, 0, 0, l⟩, true, rfl, (fun _ => rfl), (by intro h; cases h), below_put hb2 (Nat.le_succ _) _ _ _ _⟩
set_option maxRecDepth 100000 in
theorem rturned_24 (x : Vl) (w : World) (hE : Env w) (hx : x.Wf) (hk : x.k = 2) : Calls Tryz.prog 31 #[x.val, .int .i64 4] w (TurnP w (turnV x 4)) := by
  rw [tv24 hk]
  have u0 := hx.u0
  have u1 := hx.u1
  have hF := fun W h => FmtU_any x.u.toNat W h (by omega)
  rw [show (x.u.toNat : Int) = x.u by omega] at hF
  replace hF := Lib.hid hF
  obtain ⟨xk, xi, xu, xs⟩ := x
  dsimp only at hk hF
  subst hk
  simp only [Vl.val, valV] at *
  generalize Lib.decDigits xu.toNat = l at *
  clear hx u0 u1
  have hb1 : Below w.heap.size w ((w.alloc (.cells #[.int .i64 2, .int .i64 xi, .int .u64 xu, .string (strL xs)] 28)).alloc (.cells #[.int .i64 0, .int .i64 0, .int .u64 0, .string { data := #[] }] 28)) := gr_alloc (gr_alloc (Below.refl _ w) _) _
  have hX1 := (VBox.new w 2 xi xu (strL xs)).below ((Below.refl _ (w.alloc (.cells #[.int .i64 2, .int .i64 xi, .int .u64 xu, .string (strL xs)] 28))).alloc (Nat.le_refl _) (.cells #[.int .i64 0, .int .i64 0, .int .u64 0, .string { data := #[] }] 28)) (by simp)
  have hR1 := VBox.new (w.alloc (.cells #[.int .i64 2, .int .i64 xi, .int .u64 xu, .string (strL xs)] 28)) 0 0 0 { data := #[] }
  rw [show (w.alloc (.cells #[.int .i64 2, .int .i64 xi, .int .u64 xu, .string (strL xs)] 28)).heap.size = w.heap.size + 1 by simp] at hR1
  have hE1 := hE.below hb1
  go_enter Tryz.func31, Tryz.ntmps31
  go_wp2_with fail
  refine (hF.out _ hE1).mono ?_
  rintro e w2 ⟨rfl, g1⟩
  have hlt := hR1.lt
  have hX2 := hX1.below g1 (by omega)
  have hR2 := hR1.below g1 hlt
  have hb2 := gr hb1 g1
  clear hF g1 hlt hR1 hX1 hb1 hE1 hE
  have cr := hR2.cells
  have f0 := hR2.frozen 0
  have f1 := hR2.frozen 1
  have f2 := hR2.frozen 2
  have f3 := hR2.frozen 3
  go_wp2
  have hP := hR2.put 4 0 0 (strL l)
  refine bodyPost_ret (results_cellV rfl _ _ rfl hP) rfl ?_
  exact ⟨⟨4, 0, 0, l⟩, true, rfl, (fun _ => rfl), (by intro h; cases h), below_put hb2 (Nat.le_succ _) _ _ _ _⟩
set_option maxRecDepth 100000 in
theorem rturned_41 (x : Vl) (w : World) (hE : Env w) (hl : x.s.length ≤ 90000) (hk : x.k = 4) : Calls Tryz.prog 31 #[x.val, .int .i64 1] w (TurnP w (turnV x 1)) := by
  rw [tv41 hk]
  have hF := fun W => signed_any x.s W hl
  obtain ⟨xk, xi, xu, xs⟩ := x
  dsimp only at hk hF hl
  subst hk
  simp only [Vl.val, valV] at *
  unfold SgPost at hF
  generalize sigD xs = r at *
  replace hF := Lib.hid hF
  have hb1 : Below w.heap.size w ((w.alloc (.cells #[.int .i64 4, .int .i64 xi, .int .u64 xu, .string (strL xs)] 28)).alloc (.cells #[.int .i64 0, .int .i64 0, .int .u64 0, .string { data := #[] }] 28)) := gr_alloc (gr_alloc (Below.refl _ w) _) _
  have hX1 := (VBox.new w 4 xi xu (strL xs)).below ((Below.refl _ (w.alloc (.cells #[.int .i64 4, .int .i64 xi, .int .u64 xu, .string (strL xs)] 28))).alloc (Nat.le_refl _) (.cells #[.int .i64 0, .int .i64 0, .int .u64 0, .string { data := #[] }] 28)) (by simp)
  have hR1 := VBox.new (w.alloc (.cells #[.int .i64 4, .int .i64 xi, .int .u64 xu, .string (strL xs)] 28)) 0 0 0 { data := #[] }
  rw [show (w.alloc (.cells #[.int .i64 4, .int .i64 xi, .int .u64 xu, .string (strL xs)] 28)).heap.size = w.heap.size + 1 by simp] at hR1
  have hE1 := hE.below hb1
  go_enter Tryz.func31, Tryz.ntmps31
  go_wp2_with fail
  refine (hF.out _).mono ?_
  rintro e w2 ⟨v, rfl, hv, rfl⟩
  have g1 := Below.refl w.heap.size ((w.alloc (.cells #[.int .i64 4, .int .i64 xi, .int .u64 xu, .string (strL xs)] 28)).alloc (.cells #[.int .i64 0, .int .i64 0, .int .u64 0, .string { data := #[] }] 28))
  replace hv := Lib.hid hv
  generalize ((w.alloc (.cells #[.int .i64 4, .int .i64 xi, .int .u64 xu, .string (strL xs)] 28)).alloc (.cells #[.int .i64 0, .int .i64 0, .int .u64 0, .string { data := #[] }] 28)) = w2 at *
  have hR2 := hR1
  have hb2 := hb1
  clear hF g1 hR1 hX1 hb1 hE1 hE
  have cr := hR2.cells
  have f0 := hR2.frozen 0
  have f1 := hR2.frozen 1
  have f2 := hR2.frozen 2
  have f3 := hR2.frozen 3
  cases r with
  | none =>
    go_wp2
    have hP := hR2.put 1 v 0 (strL [])
    refine bodyPost_ret (results_cellV rfl _ _ rfl hP) rfl ?_
    exact ⟨⟨1, v, 0, []⟩, false, rfl, (by intro h; cases h), (fun _ => rfl), below_put hb2 (Nat.le_succ _) _ _ _ _⟩
  | some n =>
    obtain rfl := hv.out n rfl
    go_wp2
    have hP := hR2.put 1 v 0 (strL [])
    refine bodyPost_ret (results_cellV rfl _ _ rfl hP) rfl ?_
    exact ⟨⟨1, v, 0, []⟩, true, rfl, (fun _ => rfl), (by intro h; cases h), below_put hb2 (Nat.le_succ _) _ _ _ _⟩
set_option maxRecDepth 100000 in
theorem rturned_42 (x : Vl) (w : World) (hE : Env w) (hl : x.s.length ≤ 90000) (hk : x.k = 4) : Calls Tryz.prog 31 #[x.val, .int .i64 2] w (TurnP w (turnV x 2)) := by
  rw [tv42 hk]
  have hF := fun W => unsigned_any x.s W (by omega)
  obtain ⟨xk, xi, xu, xs⟩ := x
  dsimp only at hk hF hl
  subst hk
  simp only [Vl.val, valV] at *
  unfold uV at hF
  generalize unsD xs = r at *
  replace hF := Lib.hid hF
  have hb1 : Below w.heap.size w ((w.alloc (.cells #[.int .i64 4, .int .i64 xi, .int .u64 xu, .string (strL xs)] 28)).alloc (.cells #[.int .i64 0, .int .i64 0, .int .u64 0, .string { data := #[] }] 28)) := gr_alloc (gr_alloc (Below.refl _ w) _) _
  have hX1 := (VBox.new w 4 xi xu (strL xs)).below ((Below.refl _ (w.alloc (.cells #[.int .i64 4, .int .i64 xi, .int .u64 xu, .string (strL xs)] 28))).alloc (Nat.le_refl _) (.cells #[.int .i64 0, .int .i64 0, .int .u64 0, .string { data := #[] }] 28)) (by simp)
  have hR1 := VBox.new (w.alloc (.cells #[.int .i64 4, .int .i64 xi, .int .u64 xu, .string (strL xs)] 28)) 0 0 0 { data := #[] }
  rw [show (w.alloc (.cells #[.int .i64 4, .int .i64 xi, .int .u64 xu, .string (strL xs)] 28)).heap.size = w.heap.size + 1 by simp] at hR1
  have hE1 := hE.below hb1
  go_enter Tryz.func31, Tryz.ntmps31
  go_wp2_with fail
  refine (hF.out _).mono ?_
  rintro e w2 ⟨rfl, rfl⟩
  generalize ((w.alloc (.cells #[.int .i64 4, .int .i64 xi, .int .u64 xu, .string (strL xs)] 28)).alloc (.cells #[.int .i64 0, .int .i64 0, .int .u64 0, .string { data := #[] }] 28)) = w2 at *
  have hR2 := hR1
  have hb2 := hb1
  clear hF hR1 hX1 hb1 hE1 hE
  have cr := hR2.cells
  have f0 := hR2.frozen 0
  have f1 := hR2.frozen 1
  have f2 := hR2.frozen 2
  have f3 := hR2.frozen 3
  cases r with
  | none =>
    dsimp only
    go_wp2
    have hP := hR2.put 2 0 0 (strL [])
    refine bodyPost_ret (results_cellV rfl _ _ rfl hP) rfl ?_
    exact ⟨⟨2, 0, 0, []⟩, false, rfl, (by intro h; cases h), (fun _ => rfl), below_put hb2 (Nat.le_succ _) _ _ _ _⟩
  | some n =>
    dsimp only
    go_wp2
    have hP := hR2.put 2 0 (n : Int) (strL [])
    refine bodyPost_ret (results_cellV rfl _ _ rfl hP) rfl ?_
    exact ⟨⟨2, 0, (n : Int), []⟩, true, rfl, (fun _ => rfl), (by intro h; cases h), below_put hb2 (Nat.le_succ _) _ _ _ _⟩
theorem tv_num {x : Vl} {t : Int} (h1 : x.k ≠ t) (h2 : t ≠ 4) (h3 : x.k ≠ 4) : turnV x t = (numV x).bind fun n => if t = 1 then some ⟨1, n, 0, []⟩ else if t = 2 then (if 0 ≤ n then some ⟨2, 0, n, []⟩ else none) else (if n = 0 ∨ n = 1 then some ⟨3, n, 0, []⟩ else none) := by
  unfold turnV
  rw [if_neg h1, if_neg h2, if_neg h3]
set_option maxRecDepth 100000 in
set_option maxHeartbeats 2000000 in
theorem rturned_12 (x : Vl) (w : World) (hE : Env w) (hx : x.Wf) (hk : x.k = 1) : Calls Tryz.prog 31 #[x.val, .int .i64 2] w (TurnP w (turnV x 2)) := by
  have hi1 := hx.i1
  have htv := tv_num (x := x) (t := 2) (by rw [hk]; decide) (by decide) (by rw [hk]; decide)
  obtain ⟨xk, xi, xu, xs⟩ := x
  dsimp only at hk
  subst hk
  simp only [Vl.val, valV] at *
  replace htv := Lib.hid htv
  have hF := Lib.hid (fun W => rnumber_any ⟨1, xi, xu, xs⟩ hx W)
  simp only [Vl.val, valV] at hF
  have hb1 : Below w.heap.size w ((w.alloc (.cells #[.int .i64 1, .int .i64 xi, .int .u64 xu, .string (strL xs)] 28)).alloc (.cells #[.int .i64 0, .int .i64 0, .int .u64 0, .string { data := #[] }] 28)) := gr_alloc (gr_alloc (Below.refl _ w) _) _
  have hX1 := (VBox.new w 1 xi xu (strL xs)).below ((Below.refl _ (w.alloc (.cells #[.int .i64 1, .int .i64 xi, .int .u64 xu, .string (strL xs)] 28))).alloc (Nat.le_refl _) (.cells #[.int .i64 0, .int .i64 0, .int .u64 0, .string { data := #[] }] 28)) (by simp)
  have hR1 := VBox.new (w.alloc (.cells #[.int .i64 1, .int .i64 xi, .int .u64 xu, .string (strL xs)] 28)) 0 0 0 { data := #[] }
  rw [show (w.alloc (.cells #[.int .i64 1, .int .i64 xi, .int .u64 xu, .string (strL xs)] 28)).heap.size = w.heap.size + 1 by simp] at hR1
  have hE1 := hE.below hb1
  go_enter Tryz.func31, Tryz.ntmps31
  go_wp2_with fail
  refine (hF.out _).mono ?_
  rintro e w2 ⟨n, b, rfl, hn1, hn2, g1⟩
  have hlt := hR1.lt
  have hX2 := hX1.below g1 (by omega)
  have hR2 := hR1.below g1 hlt
  have hb2 := gr hb1 g1
  clear hF g1 hlt hR1 hX1 hb1 hE1 hE
  have cr := hR2.cells
  have f0 := hR2.frozen 0
  have f1 := hR2.frozen 1
  have f2 := hR2.frozen 2
  have f3 := hR2.frozen 3
  replace hn1 := Lib.hid hn1
  replace hn2 := Lib.hid hn2
  have hnx : numV ⟨1, xi, xu, xs⟩ = some xi := rfl
  cases b with
  | false => have h := hn2.out rfl; rw [hnx] at h; cases h
  | true =>
    have h := hn1.out rfl
    rw [hnx] at h
    obtain rfl := Option.some.inj h
    clear h hn1 hn2
    replace hnx := Lib.hid hnx
    by_cases h0 : 0 ≤ xi
    · have d0 : decide (0 ≤ xi) = true := by simpa using h0
      have hmax : max 0 xi = xi := by omega
      have hwu : xi % 18446744073709551616 = xi := by omega
      have hv := Lib.hid (htv.out.trans (by rw [hnx.out, Option.bind_some, if_neg (by decide), if_pos (by decide), if_pos h0] : _ = some (⟨2, 0, xi, []⟩ : Vl)))
      clear htv h0 hi1 hnx
      go_wp2
      have hP := hR2.put 2 0 xi (strL [])
      refine bodyPost_ret (results_cellV rfl _ _ rfl hP) rfl ?_
      exact ⟨⟨2, 0, xi, []⟩, true, rfl, (fun _ => hv.out), (by intro h; cases h), below_put hb2 (Nat.le_succ _) _ _ _ _⟩
    · have d0 : decide (0 ≤ xi) = false := by simpa using h0
      have hmax : max 0 xi = 0 := by omega
      have hv := Lib.hid (htv.out.trans (by rw [hnx.out, Option.bind_some, if_neg (by decide), if_pos (by decide), if_neg h0] : _ = (none : Option Vl)))
      clear htv h0 hi1 hnx
      go_wp2
      have hP := hR2.put 2 0 0 (strL [])
      refine bodyPost_ret (results_cellV rfl _ _ rfl hP) rfl ?_
      exact ⟨⟨2, 0, 0, []⟩, false, rfl, (by intro h; cases h), (fun _ => hv.out), below_put hb2 (Nat.le_succ _) _ _ _ _⟩
set_option maxRecDepth 100000 in
set_option maxHeartbeats 2000000 in
theorem rturned_13 (x : Vl) (w : World) (hE : Env w) (hx : x.Wf) (hk : x.k = 1) : Calls Tryz.prog 31 #[x.val, .int .i64 3] w (TurnP w (turnV x 3)) := by
  have htv := tv_num (x := x) (t := 3) (by rw [hk]; decide) (by decide) (by rw [hk]; decide)
  obtain ⟨xk, xi, xu, xs⟩ := x
  dsimp only at hk
  subst hk
  simp only [Vl.val, valV] at *
  replace htv := Lib.hid htv
  have hF := Lib.hid (fun W => rnumber_any ⟨1, xi, xu, xs⟩ hx W)
  simp only [Vl.val, valV] at hF
  have hb1 : Below w.heap.size w ((w.alloc (.cells #[.int .i64 1, .int .i64 xi, .int .u64 xu, .string (strL xs)] 28)).alloc (.cells #[.int .i64 0, .int .i64 0, .int .u64 0, .string { data := #[] }] 28)) := gr_alloc (gr_alloc (Below.refl _ w) _) _
  have hX1 := (VBox.new w 1 xi xu (strL xs)).below ((Below.refl _ (w.alloc (.cells #[.int .i64 1, .int .i64 xi, .int .u64 xu, .string (strL xs)] 28))).alloc (Nat.le_refl _) (.cells #[.int .i64 0, .int .i64 0, .int .u64 0, .string { data := #[] }] 28)) (by simp)
  have hR1 := VBox.new (w.alloc (.cells #[.int .i64 1, .int .i64 xi, .int .u64 xu, .string (strL xs)] 28)) 0 0 0 { data := #[] }
  rw [show (w.alloc (.cells #[.int .i64 1, .int .i64 xi, .int .u64 xu, .string (strL xs)] 28)).heap.size = w.heap.size + 1 by simp] at hR1
  have hE1 := hE.below hb1
  go_enter Tryz.func31, Tryz.ntmps31
  go_wp2_with fail
  refine (hF.out _).mono ?_
  rintro e w2 ⟨n, b, rfl, hn1, hn2, g1⟩
  have hlt := hR1.lt
  have hX2 := hX1.below g1 (by omega)
  have hR2 := hR1.below g1 hlt
  have hb2 := gr hb1 g1
  clear hF g1 hlt hR1 hX1 hb1 hE1 hE
  have cr := hR2.cells
  have f0 := hR2.frozen 0
  have f1 := hR2.frozen 1
  have f2 := hR2.frozen 2
  have f3 := hR2.frozen 3
  replace hn1 := Lib.hid hn1
  replace hn2 := Lib.hid hn2
  cases b
  · have hv := Lib.hid (htv.out.trans (by rw [hn2.out rfl]; rfl : _ = (none : Option Vl)))
    clear hn1 hn2 htv
    go_wp2
    have hP := hR2.put 3 n 0 (strL [])
    refine bodyPost_ret (results_cellV rfl _ _ rfl hP) rfl ?_
    exact ⟨⟨3, n, 0, []⟩, false, rfl, (by intro h; cases h), (fun _ => hv.out), below_put hb2 (Nat.le_succ _) _ _ _ _⟩
  · by_cases h0 : n = 0
    · have d0 : (n == 0) = true := by simpa using h0
      replace h0 := Lib.hid h0
      have hv := Lib.hid (htv.out.trans (by rw [hn1.out rfl, Option.bind_some, if_neg (by decide), if_neg (by decide), if_pos (.inl h0.out)] : _ = some (⟨3, n, 0, []⟩ : Vl)))
      clear hn1 hn2 htv
      go_wp2
      have hP := hR2.put 3 n 0 (strL [])
      refine bodyPost_ret (results_cellV rfl _ _ rfl hP) rfl ?_
      exact ⟨⟨3, n, 0, []⟩, true, rfl, (fun _ => hv.out), (by intro h; cases h), below_put hb2 (Nat.le_succ _) _ _ _ _⟩
    · have d0 : (n == 0) = false := by simpa using h0
      by_cases h1 : n = 1
      · have d1 : (n == 1) = true := by simpa using h1
        replace h1 := Lib.hid h1
        clear h0
        have hv := Lib.hid (htv.out.trans (by rw [hn1.out rfl, Option.bind_some, if_neg (by decide), if_neg (by decide), if_pos (.inr h1.out)] : _ = some (⟨3, n, 0, []⟩ : Vl)))
        clear hn1 hn2 htv
        go_wp2
        have hP := hR2.put 3 n 0 (strL [])
        refine bodyPost_ret (results_cellV rfl _ _ rfl hP) rfl ?_
        exact ⟨⟨3, n, 0, []⟩, true, rfl, (fun _ => hv.out), (by intro h; cases h), below_put hb2 (Nat.le_succ _) _ _ _ _⟩
      · have d1 : (n == 1) = false := by simpa using h1
        have hno : ¬ (n = 0 ∨ n = 1) := by omega
        replace hno := Lib.hid hno
        clear h0 h1
        have hv := Lib.hid (htv.out.trans (by rw [hn1.out rfl, Option.bind_some, if_neg (by decide), if_neg (by decide), if_neg hno.out] : _ = (none : Option Vl)))
        clear hn1 hn2 htv
        go_wp2
        have hP := hR2.put 3 n 0 (strL [])
        refine bodyPost_ret (results_cellV rfl _ _ rfl hP) rfl ?_
        exact ⟨⟨3, n, 0, []⟩, false, rfl, (by intro h; cases h), (fun _ => hv.out), below_put hb2 (Nat.le_succ _) _ _ _ _⟩
set_option maxRecDepth 100000 in
set_option maxHeartbeats 2000000 in
theorem rturned_21 (x : Vl) (w : World) (hE : Env w) (hx : x.Wf) (hk : x.k = 2) : Calls Tryz.prog 31 #[x.val, .int .i64 1] w (TurnP w (turnV x 1)) := by
  have htv := tv_num (x := x) (t := 1) (by rw [hk]; decide) (by decide) (by rw [hk]; decide)
  obtain ⟨xk, xi, xu, xs⟩ := x
  dsimp only at hk
  subst hk
  simp only [Vl.val, valV] at *
  replace htv := Lib.hid htv
  have hF := Lib.hid (fun W => rnumber_any ⟨2, xi, xu, xs⟩ hx W)
  simp only [Vl.val, valV] at hF
  have hb1 : Below w.heap.size w ((w.alloc (.cells #[.int .i64 2, .int .i64 xi, .int .u64 xu, .string (strL xs)] 28)).alloc (.cells #[.int .i64 0, .int .i64 0, .int .u64 0, .string { data := #[] }] 28)) := gr_alloc (gr_alloc (Below.refl _ w) _) _
  have hX1 := (VBox.new w 2 xi xu (strL xs)).below ((Below.refl _ (w.alloc (.cells #[.int .i64 2, .int .i64 xi, .int .u64 xu, .string (strL xs)] 28))).alloc (Nat.le_refl _) (.cells #[.int .i64 0, .int .i64 0, .int .u64 0, .string { data := #[] }] 28)) (by simp)
  have hR1 := VBox.new (w.alloc (.cells #[.int .i64 2, .int .i64 xi, .int .u64 xu, .string (strL xs)] 28)) 0 0 0 { data := #[] }
  rw [show (w.alloc (.cells #[.int .i64 2, .int .i64 xi, .int .u64 xu, .string (strL xs)] 28)).heap.size = w.heap.size + 1 by simp] at hR1
  have hE1 := hE.below hb1
  go_enter Tryz.func31, Tryz.ntmps31
  go_wp2_with fail
  refine (hF.out _).mono ?_
  rintro e w2 ⟨n, b, rfl, hn1, hn2, g1⟩
  have hlt := hR1.lt
  have hX2 := hX1.below g1 (by omega)
  have hR2 := hR1.below g1 hlt
  have hb2 := gr hb1 g1
  clear hF g1 hlt hR1 hX1 hb1 hE1 hE
  have cr := hR2.cells
  have f0 := hR2.frozen 0
  have f1 := hR2.frozen 1
  have f2 := hR2.frozen 2
  have f3 := hR2.frozen 3
  replace hn1 := Lib.hid hn1
  replace hn2 := Lib.hid hn2
  go_wp2
  have hP := hR2.put 1 n 0 (strL [])
  refine bodyPost_ret (results_cellV rfl _ _ rfl hP) rfl ?_
  exact ⟨⟨1, n, 0, []⟩, b, rfl, (fun h => by rw [htv.out, hn1.out h]; rfl), (fun h => by rw [htv.out, hn2.out h]; rfl), below_put hb2 (Nat.le_succ _) _ _ _ _⟩
set_option maxRecDepth 100000 in
set_option maxHeartbeats 2000000 in
theorem rturned_23 (x : Vl) (w : World) (hE : Env w) (hx : x.Wf) (hk : x.k = 2) : Calls Tryz.prog 31 #[x.val, .int .i64 3] w (TurnP w (turnV x 3)) := by
  have htv := tv_num (x := x) (t := 3) (by rw [hk]; decide) (by decide) (by rw [hk]; decide)
  obtain ⟨xk, xi, xu, xs⟩ := x
  dsimp only at hk
  subst hk
  simp only [Vl.val, valV] at *
  replace htv := Lib.hid htv
  have hF := Lib.hid (fun W => rnumber_any ⟨2, xi, xu, xs⟩ hx W)
  simp only [Vl.val, valV] at hF
  have hb1 : Below w.heap.size w ((w.alloc (.cells #[.int .i64 2, .int .i64 xi, .int .u64 xu, .string (strL xs)] 28)).alloc (.cells #[.int .i64 0, .int .i64 0, .int .u64 0, .string { data := #[] }] 28)) := gr_alloc (gr_alloc (Below.refl _ w) _) _
  have hX1 := (VBox.new w 2 xi xu (strL xs)).below ((Below.refl _ (w.alloc (.cells #[.int .i64 2, .int .i64 xi, .int .u64 xu, .string (strL xs)] 28))).alloc (Nat.le_refl _) (.cells #[.int .i64 0, .int .i64 0, .int .u64 0, .string { data := #[] }] 28)) (by simp)
  have hR1 := VBox.new (w.alloc (.cells #[.int .i64 2, .int .i64 xi, .int .u64 xu, .string (strL xs)] 28)) 0 0 0 { data := #[] }
  rw [show (w.alloc (.cells #[.int .i64 2, .int .i64 xi, .int .u64 xu, .string (strL xs)] 28)).heap.size = w.heap.size + 1 by simp] at hR1
  have hE1 := hE.below hb1
  go_enter Tryz.func31, Tryz.ntmps31
  go_wp2_with fail
  refine (hF.out _).mono ?_
  rintro e w2 ⟨n, b, rfl, hn1, hn2, g1⟩
  have hlt := hR1.lt
  have hX2 := hX1.below g1 (by omega)
  have hR2 := hR1.below g1 hlt
  have hb2 := gr hb1 g1
  clear hF g1 hlt hR1 hX1 hb1 hE1 hE
  have cr := hR2.cells
  have f0 := hR2.frozen 0
  have f1 := hR2.frozen 1
  have f2 := hR2.frozen 2
  have f3 := hR2.frozen 3
  replace hn1 := Lib.hid hn1
  replace hn2 := Lib.hid hn2
  cases b
  · have hv := Lib.hid (htv.out.trans (by rw [hn2.out rfl]; rfl : _ = (none : Option Vl)))
    clear hn1 hn2 htv
    go_wp2
    have hP := hR2.put 3 n 0 (strL [])
    refine bodyPost_ret (results_cellV rfl _ _ rfl hP) rfl ?_
    exact ⟨⟨3, n, 0, []⟩, false, rfl, (by intro h; cases h), (fun _ => hv.out), below_put hb2 (Nat.le_succ _) _ _ _ _⟩
  · by_cases h0 : n = 0
    · have d0 : (n == 0) = true := by simpa using h0
      replace h0 := Lib.hid h0
      have hv := Lib.hid (htv.out.trans (by rw [hn1.out rfl, Option.bind_some, if_neg (by decide), if_neg (by decide), if_pos (.inl h0.out)] : _ = some (⟨3, n, 0, []⟩ : Vl)))
      clear hn1 hn2 htv
      go_wp2
      have hP := hR2.put 3 n 0 (strL [])
      refine bodyPost_ret (results_cellV rfl _ _ rfl hP) rfl ?_
      exact ⟨⟨3, n, 0, []⟩, true, rfl, (fun _ => hv.out), (by intro h; cases h), below_put hb2 (Nat.le_succ _) _ _ _ _⟩
    · have d0 : (n == 0) = false := by simpa using h0
      by_cases h1 : n = 1
      · have d1 : (n == 1) = true := by simpa using h1
        replace h1 := Lib.hid h1
        clear h0
        have hv := Lib.hid (htv.out.trans (by rw [hn1.out rfl, Option.bind_some, if_neg (by decide), if_neg (by decide), if_pos (.inr h1.out)] : _ = some (⟨3, n, 0, []⟩ : Vl)))
        clear hn1 hn2 htv
        go_wp2
        have hP := hR2.put 3 n 0 (strL [])
        refine bodyPost_ret (results_cellV rfl _ _ rfl hP) rfl ?_
        exact ⟨⟨3, n, 0, []⟩, true, rfl, (fun _ => hv.out), (by intro h; cases h), below_put hb2 (Nat.le_succ _) _ _ _ _⟩
      · have d1 : (n == 1) = false := by simpa using h1
        have hno : ¬ (n = 0 ∨ n = 1) := by omega
        replace hno := Lib.hid hno
        clear h0 h1
        have hv := Lib.hid (htv.out.trans (by rw [hn1.out rfl, Option.bind_some, if_neg (by decide), if_neg (by decide), if_neg hno.out] : _ = (none : Option Vl)))
        clear hn1 hn2 htv
        go_wp2
        have hP := hR2.put 3 n 0 (strL [])
        refine bodyPost_ret (results_cellV rfl _ _ rfl hP) rfl ?_
        exact ⟨⟨3, n, 0, []⟩, false, rfl, (by intro h; cases h), (fun _ => hv.out), below_put hb2 (Nat.le_succ _) _ _ _ _⟩
set_option maxRecDepth 100000 in
set_option maxHeartbeats 2000000 in
theorem rturned_31 (x : Vl) (w : World) (hE : Env w) (hx : x.Wf) (hk : x.k = 3) : Calls Tryz.prog 31 #[x.val, .int .i64 1] w (TurnP w (turnV x 1)) := by
  have htv := tv_num (x := x) (t := 1) (by rw [hk]; decide) (by decide) (by rw [hk]; decide)
  obtain ⟨xk, xi, xu, xs⟩ := x
  dsimp only at hk
  subst hk
  simp only [Vl.val, valV] at *
  replace htv := Lib.hid htv
  have hF := Lib.hid (fun W => rnumber_any ⟨3, xi, xu, xs⟩ hx W)
  simp only [Vl.val, valV] at hF
  have hb1 : Below w.heap.size w ((w.alloc (.cells #[.int .i64 3, .int .i64 xi, .int .u64 xu, .string (strL xs)] 28)).alloc (.cells #[.int .i64 0, .int .i64 0, .int .u64 0, .string { data := #[] }] 28)) := gr_alloc (gr_alloc (Below.refl _ w) _) _
  have hX1 := (VBox.new w 3 xi xu (strL xs)).below ((Below.refl _ (w.alloc (.cells #[.int .i64 3, .int .i64 xi, .int .u64 xu, .string (strL xs)] 28))).alloc (Nat.le_refl _) (.cells #[.int .i64 0, .int .i64 0, .int .u64 0, .string { data := #[] }] 28)) (by simp)
  have hR1 := VBox.new (w.alloc (.cells #[.int .i64 3, .int .i64 xi, .int .u64 xu, .string (strL xs)] 28)) 0 0 0 { data := #[] }
  rw [show (w.alloc (.cells #[.int .i64 3, .int .i64 xi, .int .u64 xu, .string (strL xs)] 28)).heap.size = w.heap.size + 1 by simp] at hR1
  have hE1 := hE.below hb1
  go_enter Tryz.func31, Tryz.ntmps31
  go_wp2_with fail
  refine (hF.out _).mono ?_
  rintro e w2 ⟨n, b, rfl, hn1, hn2, g1⟩
  have hlt := hR1.lt
  have hX2 := hX1.below g1 (by omega)
  have hR2 := hR1.below g1 hlt
  have hb2 := gr hb1 g1
  clear hF g1 hlt hR1 hX1 hb1 hE1 hE
  have cr := hR2.cells
  have f0 := hR2.frozen 0
  have f1 := hR2.frozen 1
  have f2 := hR2.frozen 2
  have f3 := hR2.frozen 3
  replace hn1 := Lib.hid hn1
  replace hn2 := Lib.hid hn2
  go_wp2
  have hP := hR2.put 1 n 0 (strL [])
  refine bodyPost_ret (results_cellV rfl _ _ rfl hP) rfl ?_
  exact ⟨⟨1, n, 0, []⟩, b, rfl, (fun h => by rw [htv.out, hn1.out h]; rfl), (fun h => by rw [htv.out, hn2.out h]; rfl), below_put hb2 (Nat.le_succ _) _ _ _ _⟩
set_option maxRecDepth 100000 in
set_option maxHeartbeats 2000000 in
theorem rturned_32 (x : Vl) (w : World) (hE : Env w) (hx : x.Wf) (hk : x.k = 3) : Calls Tryz.prog 31 #[x.val, .int .i64 2] w (TurnP w (turnV x 2)) := by
  have hi1 := hx.i1
  have htv := tv_num (x := x) (t := 2) (by rw [hk]; decide) (by decide) (by rw [hk]; decide)
  obtain ⟨xk, xi, xu, xs⟩ := x
  dsimp only at hk
  subst hk
  simp only [Vl.val, valV] at *
  replace htv := Lib.hid htv
  have hF := Lib.hid (fun W => rnumber_any ⟨3, xi, xu, xs⟩ hx W)
  simp only [Vl.val, valV] at hF
  have hb1 : Below w.heap.size w ((w.alloc (.cells #[.int .i64 3, .int .i64 xi, .int .u64 xu, .string (strL xs)] 28)).alloc (.cells #[.int .i64 0, .int .i64 0, .int .u64 0, .string { data := #[] }] 28)) := gr_alloc (gr_alloc (Below.refl _ w) _) _
  have hX1 := (VBox.new w 3 xi xu (strL xs)).below ((Below.refl _ (w.alloc (.cells #[.int .i64 3, .int .i64 xi, .int .u64 xu, .string (strL xs)] 28))).alloc (Nat.le_refl _) (.cells #[.int .i64 0, .int .i64 0, .int .u64 0, .string { data := #[] }] 28)) (by simp)
  have hR1 := VBox.new (w.alloc (.cells #[.int .i64 3, .int .i64 xi, .int .u64 xu, .string (strL xs)] 28)) 0 0 0 { data := #[] }
  rw [show (w.alloc (.cells #[.int .i64 3, .int .i64 xi, .int .u64 xu, .string (strL xs)] 28)).heap.size = w.heap.size + 1 by simp] at hR1
  have hE1 := hE.below hb1
  go_enter Tryz.func31, Tryz.ntmps31
  go_wp2_with fail
  refine (hF.out _).mono ?_
  rintro e w2 ⟨n, b, rfl, hn1, hn2, g1⟩
  have hlt := hR1.lt
  have hX2 := hX1.below g1 (by omega)
  have hR2 := hR1.below g1 hlt
  have hb2 := gr hb1 g1
  clear hF g1 hlt hR1 hX1 hb1 hE1 hE
  have cr := hR2.cells
  have f0 := hR2.frozen 0
  have f1 := hR2.frozen 1
  have f2 := hR2.frozen 2
  have f3 := hR2.frozen 3
  replace hn1 := Lib.hid hn1
  replace hn2 := Lib.hid hn2
  have hnx : numV ⟨3, xi, xu, xs⟩ = some xi := rfl
  cases b with
  | false => have h := hn2.out rfl; rw [hnx] at h; cases h
  | true =>
    have h := hn1.out rfl
    rw [hnx] at h
    obtain rfl := Option.some.inj h
    clear h hn1 hn2
    replace hnx := Lib.hid hnx
    by_cases h0 : 0 ≤ xi
    · have d0 : decide (0 ≤ xi) = true := by simpa using h0
      have hmax : max 0 xi = xi := by omega
      have hwu : xi % 18446744073709551616 = xi := by omega
      have hv := Lib.hid (htv.out.trans (by rw [hnx.out, Option.bind_some, if_neg (by decide), if_pos (by decide), if_pos h0] : _ = some (⟨2, 0, xi, []⟩ : Vl)))
      clear htv h0 hi1 hnx
      go_wp2
      have hP := hR2.put 2 0 xi (strL [])
      refine bodyPost_ret (results_cellV rfl _ _ rfl hP) rfl ?_
      exact ⟨⟨2, 0, xi, []⟩, true, rfl, (fun _ => hv.out), (by intro h; cases h), below_put hb2 (Nat.le_succ _) _ _ _ _⟩
    · have d0 : decide (0 ≤ xi) = false := by simpa using h0
      have hmax : max 0 xi = 0 := by omega
      have hv := Lib.hid (htv.out.trans (by rw [hnx.out, Option.bind_some, if_neg (by decide), if_pos (by decide), if_neg h0] : _ = (none : Option Vl)))
      clear htv h0 hi1 hnx
      go_wp2
      have hP := hR2.put 2 0 0 (strL [])
      refine bodyPost_ret (results_cellV rfl _ _ rfl hP) rfl ?_
      exact ⟨⟨2, 0, 0, []⟩, false, rfl, (by intro h; cases h), (fun _ => hv.out), below_put hb2 (Nat.le_succ _) _ _ _ _⟩
/-- What is turned. -/
theorem rturned_any (x : Vl) (b : Int) (w : World) (hE : Env w) (hx : x.Wf) (hl : x.s.length ≤ 90000) (hw : wayV x.k b = true) : Calls Tryz.prog 31 #[x.val, .int .i64 b] w (TurnP w (turnV x b)) := by
  rw [wayV_iff] at hw
  by_cases hkb : x.k = b
  · subst hkb; exact rturned_same x w
  have hk : x.k = 1 ∨ x.k = 2 ∨ x.k = 3 ∨ x.k = 4 := by omega
  have hb : b = 1 ∨ b = 2 ∨ b = 3 ∨ b = 4 := by omega
  rcases hk with hk | hk | hk | hk <;> rcases hb with rfl | rfl | rfl | rfl <;> first
    | exact absurd hk hkb
    | exact rturned_12 x w hE hx hk
    | exact rturned_13 x w hE hx hk
    | exact rturned_14 x w hE hx hk
    | exact rturned_21 x w hE hx hk
    | exact rturned_23 x w hE hx hk
    | exact rturned_24 x w hE hx hk
    | exact rturned_31 x w hE hx hk
    | exact rturned_32 x w hE hx hk
    | exact rturned_41 x w hE hl hk
    | exact rturned_42 x w hE hl hk
    | (exfalso; omega)
end Go.Proofs.YtagoooclfcbdeaaGreatDoor
