/- The reference's numbers of digits. -/
import Derived.Test.YtcicmeggbkhniaaGreatDoorTextP
import Derived.Test.YtcicmeggbkhniaaGreatDoorReg
import Derived.Test.YtcicmeggbkhniaaGreatDoorStrS
namespace Go.Proofs.YtcicmeggbkhniaaGreatDoor
open Go.RowKit
set_option linter.unusedVariables false

/-- What unsigned tells. -/
def uV (l : List UInt8) : Nat × Bool := match unsD l with
  | some n => (n, true)
  | none => (0, false)
theorem uV_none {l : List UInt8} (h : unsD l = none) : uV l = (0, false) := by unfold uV; rw [h]
theorem valD_append (n : Nat) (a b : List UInt8) : valD n (a ++ b) = valD (valD n a) b := by unfold valD; rw [List.foldl_append]
theorem valD_ge : ∀ (l : List UInt8) (n : Nat), n * 10 ^ l.length ≤ valD n l
  | [], n => by rw [valD_nil]; simp
  | c :: r, n => by
    rw [valD_cons]
    refine Nat.le_trans ?_ (valD_ge r _)
    rw [List.length_cons, Nat.pow_succ, Nat.add_mul]
    have : n * (10 ^ r.length * 10) = 10 * n * 10 ^ r.length := by rw [Nat.mul_comm (10 ^ r.length) 10, ← Nat.mul_assoc, Nat.mul_comm n 10]
    omega
theorem uV_bad {l : List UInt8} {x : UInt8} (h : x ∈ l) (hx : x.toNat < 48 ∨ 57 < x.toNat) : uV l = (0, false) := by
  refine uV_none ?_
  unfold unsD
  rw [if_neg]
  rintro ⟨hc, -⟩
  have := List.all_eq_true.1 ((canon_iff l).1 hc).2.1 x h
  unfold isDig at this
  simp at this
  omega
theorem uV_big {l : List UInt8} (h : 18446744073709551615 < valD 0 l) : uV l = (0, false) := by
  refine uV_none ?_
  unfold unsD
  rw [if_neg (by omega)]
theorem uV_notcanon {l : List UInt8} (h : ¬ (l ≠ [] ∧ (l.length = 1 ∨ l.head? ≠ some 48))) : uV l = (0, false) := by
  refine uV_none ?_
  unfold unsD
  rw [if_neg]
  rintro ⟨hc, -⟩
  exact h ⟨((canon_iff l).1 hc).1, ((canon_iff l).1 hc).2.2⟩
theorem uV_good {l : List UInt8} {n : Nat} (h : l ≠ [] ∧ (l.length = 1 ∨ l.head? ≠ some 48)) (hd : l.all isDig = true) (hn : n = valD 0 l) (hm : n ≤ 18446744073709551615) : uV l = (n, true) := by
  subst hn
  unfold uV unsD
  rw [if_pos ⟨(canon_iff l).2 ⟨h.1, hd, h.2⟩, hm⟩]
theorem uV_long {l : List UInt8} (h : 20 < l.length) : uV l = (0, false) := by
  by_cases hc : canon l = true
  · refine uV_big ?_
    obtain ⟨h1, h2, h3⟩ := (canon_iff l).1 hc
    obtain ⟨c, r, rfl⟩ := List.exists_cons_of_ne_nil h1
    have hr : 20 ≤ r.length := by simp at h; omega
    have hc1 : 1 ≤ c.toNat - 48 := by
      have hd := List.all_eq_true.1 h2 c (by simp)
      unfold isDig at hd
      simp at hd
      rcases h3 with h3 | h3
      · simp at h3; rw [h3] at h; simp at h
      · have hne : c ≠ 48 := by simpa using h3
        have : c.toNat ≠ 48 := fun e => hne (UInt8.toNat_inj.1 e)
        omega
    rw [valD_cons]
    have hp : (10 : Nat) ^ 20 ≤ 10 ^ r.length := Nat.pow_le_pow_right (by omega) hr
    have := valD_ge r (10 * 0 + (c.toNat - 48))
    have h4 : 1 * 10 ^ r.length ≤ (10 * 0 + (c.toNat - 48)) * 10 ^ r.length := Nat.mul_le_mul_right _ (by omega)
    have h5 : (18446744073709551615 : Nat) < 10 ^ 20 := by decide
    omega
  · refine uV_none ?_
    unfold unsD
    rw [if_neg (fun h => hc h.1)]

attribute [local go_sem] strL_size strL_toList
set_option maxRecDepth 100000 in
set_option maxHeartbeats 2000000 in
theorem unsigned_any (l : List UInt8) (w : World) (hl : l.length ≤ 100000) :
    Calls Tryz.prog 34 #[.string (strL l)] w fun e w' => e = .returned (.tuple #[.int .u64 ((uV l).1 : Int), .bool (uV l).2]) ∧ w = w' := by
  by_cases h0 : l = []
  · subst h0
    have hN : uV [] = (0, false) := rfl
    replace hN := Lib.hid hN
    go_enter Tryz.func34, Tryz.ntmps34
    go_wp2
    go_ret2
    exact ⟨by rw [hN.out]; rfl, rfl⟩
  have hne : (l == []) = false := by simpa using h0
  by_cases h20 : 20 < l.length
  · have hN : uV l = (0, false) := uV_long h20
    replace hN := Lib.hid hN
    have d1 : decide ((20 : Int) < (l.length : Int)) = true := by simp; omega
    clear h0 h20
    go_enter Tryz.func34, Tryz.ntmps34
    go_wp2
    go_ret2
    exact ⟨by rw [hN.out]; rfl, rfl⟩
  have d1 : decide ((20 : Int) < (l.length : Int)) = false := by simp; omega
  have hlen : 0 < l.length := List.length_pos_iff.2 h0
  have hh : l.head? = some l[0] := by rw [List.head?_eq_getElem?, List.getElem?_eq_getElem]
  by_cases hz : l[0] = 48
  · have hget0 : ∀ h, (strL l)[0]'h = 48 := fun h => hz
    rw [hz] at hh
    by_cases h1 : l.length = 1
    · have hcan : l ≠ [] ∧ (l.length = 1 ∨ l.head? ≠ some 48) := ⟨h0, .inl h1⟩
      have hfirst : decide ((1 : Int) < (l.length : Int)) = false := by simp; omega
      clear h1 hz hh
      go_enter Tryz.func34, Tryz.ntmps34
      go_wp2
      clear hget0
      go_loop [4, 5] (fun p q => ∃ k n : Nat, k ≤ l.length ∧ p = .int .u64 (n : Int) ∧ q = .int .i64 (k : Int) ∧ n = valD 0 (l.take k) ∧ (l.take k).all isDig = true ∧ n ≤ 18446744073709551615) (fun _ q => l.length - (intOf q).toNat)
      case atStart => exact ⟨0, 0, by omega, rfl, rfl, rfl, rfl, by omega⟩
      case round =>
        obtain ⟨k, n, hk, rfl, rfl, hn, hd, hmx⟩ := hrel
        clear hfirst
        by_cases hlt : k < l.length
        · have htk : l.take (k + 1) = l.take k ++ [l[k]] := List.take_succ_eq_append_getElem hlt
          have hmem : l[k] ∈ l := List.getElem_mem _
          have hbig : 18446744073709551615 < 10 * n + (l[k].toNat - 48) → 18446744073709551615 < valD 0 l := fun h => by
            have e : l = l.take (k + 1) ++ l.drop (k + 1) := (List.take_append_drop _ _).symm
            rw [e, valD_append, htk, valD_snoc, ← hn]
            exact Nat.lt_of_lt_of_le h (valD_le _ _)
          obtain ⟨x, ex⟩ : ∃ x, l[k]'hlt = x := ⟨_, rfl⟩
          have hget : ∀ h, (strL l)[k]'h = x := fun h => ex
          rw [ex] at hmem hbig htk
          clear ex
          have hx256 := x.toNat_lt
          have hlt1 : decide ((k : Int) < (l.length : Int)) = true := by simp; omega
          by_cases hx0 : x.toNat < 48
          · have hN : uV l = (0, false) := uV_bad hmem (Or.inl hx0)
            have d1 : decide ((x.toNat : Int) < 48) = true := by simp; omega
            replace hN := Lib.hid hN
            clear hbig htk hn hd hmx hx0 hmem hx256
            go_wp2
            go_ret2
            exact ⟨by rw [hN.out]; rfl, rfl⟩
          have d1 : decide ((x.toNat : Int) < 48) = false := by simp; omega
          by_cases hx1 : 57 < x.toNat
          · have hN : uV l = (0, false) := uV_bad hmem (Or.inr hx1)
            have d2 : decide ((57 : Int) < (x.toNat : Int)) = true := by simp; omega
            replace hN := Lib.hid hN
            clear hbig htk hn hd hmx hx0 hx1 hmem hx256
            go_wp2
            go_ret2
            exact ⟨by rw [hN.out]; rfl, rfl⟩
          have d2 : decide ((57 : Int) < (x.toNat : Int)) = false := by simp; omega
          obtain ⟨d, hd48⟩ : ∃ d : Nat, x.toNat = 48 + d := ⟨x.toNat - 48, by omega⟩
          have hd9 : d ≤ 9 := by omega
          have s1 : IntKind.u8.wrap ((x.toNat : Int) - 48) = (d : Int) := by rw [IntKind.wrap_u8]; omega
          have s2 : IntKind.u64.wrap (d : Int) = (d : Int) := by rw [IntKind.wrap_u64]; omega
          have s3 : IntKind.u64.wrap (18446744073709551615 - (d : Int)) = 18446744073709551615 - (d : Int) := by rw [IntKind.wrap_u64]; omega
          have hdig : isDig x = true := by unfold isDig; simp; omega
          have he48 : x.toNat - 48 = d := by omega
          rw [he48] at hbig
          by_cases hov : (18446744073709551615 - d) / 10 < n
          · have hN : uV l = (0, false) := uV_big (hbig (by omega))
            have d3 : decide ((18446744073709551615 - (d : Int)) / 10 < (n : Int)) = true := by simp; omega
            replace hN := Lib.hid hN
            clear hbig htk hn hd hmx hx0 hx1 hmem hdig he48 hov hx256
            replace hd48 := Lib.hid hd48
            go_wp2
            go_ret2
            exact ⟨by rw [hN.out]; rfl, rfl⟩
          · have d3 : decide ((18446744073709551615 - (d : Int)) / 10 < (n : Int)) = false := by simp; omega
            have m1 : IntKind.u64.wrap (10 * (n : Int)) = 10 * (n : Int) := by rw [IntKind.wrap_u64]; omega
            have m2 : IntKind.u64.wrap (10 * (n : Int) + (d : Int)) = ((10 * n + d : Nat) : Int) := by rw [IntKind.wrap_u64]; omega
            have q1 : 10 * n + d = valD 0 (l.take (k + 1)) := by rw [htk, valD_snoc, ← hn, he48]
            have q2 : (l.take (k + 1)).all isDig = true := by rw [htk, List.all_append, hd]; simp [hdig]
            have q3 : 10 * n + d ≤ 18446744073709551615 := by omega
            replace q1 := Lib.hid q1
            replace q2 := Lib.hid q2
            replace hd48 := Lib.hid hd48
            clear hbig htk hn hd hmx hx0 hx1 hmem hdig he48 hov hx256
            go_wp2
            go_round
            case rel => exact ⟨k + 1, 10 * n + d, by omega, rfl, by go_num, q1.out, q2.out, q3⟩
            case measure => simp [intOf]; omega
        · obtain rfl : k = l.length := by omega
          rw [List.take_length] at hn hd
          have hN : uV l = (n, true) := uV_good hcan hd hn hmx
          have hlt1 : decide ((l.length : Int) < (l.length : Int)) = false := by simp
          replace hN := Lib.hid hN
          clear hn hd hcan hmx hlt
          go_wp2
          go_ret2
          exact ⟨by rw [hN.out]; rfl, rfl⟩
    · have hN : uV l = (0, false) := uV_notcanon (by rintro ⟨-, h | h⟩; exact h1 h; exact h hh)
      have hfirst : decide ((1 : Int) < (l.length : Int)) = true := by simp; omega
      replace hN := Lib.hid hN
      clear h1 hz hh h0
      go_enter Tryz.func34, Tryz.ntmps34
      go_wp2
      go_ret2
      exact ⟨by rw [hN.out]; rfl, rfl⟩
  · have hcan : l ≠ [] ∧ (l.length = 1 ∨ l.head? ≠ some 48) := ⟨h0, .inr (by rw [hh]; simpa using hz)⟩
    have hfirst : ((l[0].toNat : Int) == 48) = false := by
      simp only [beq_eq_false_iff_ne, ne_eq]
      intro e
      exact hz (UInt8.toNat_inj.1 (by show l[0].toNat = 48; omega))
    obtain ⟨c, ec⟩ : ∃ c, l[0]'hlen = c := ⟨_, rfl⟩
    have hget0 : ∀ h, (strL l)[0]'h = c := fun h => ec
    rw [ec] at hfirst
    clear hz hh ec
    go_enter Tryz.func34, Tryz.ntmps34
    go_wp2
    clear hget0
    go_loop [4, 5] (fun p q => ∃ k n : Nat, k ≤ l.length ∧ p = .int .u64 (n : Int) ∧ q = .int .i64 (k : Int) ∧ n = valD 0 (l.take k) ∧ (l.take k).all isDig = true ∧ n ≤ 18446744073709551615) (fun _ q => l.length - (intOf q).toNat)
    case atStart => exact ⟨0, 0, by omega, rfl, rfl, rfl, rfl, by omega⟩
    case round =>
      obtain ⟨k, n, hk, rfl, rfl, hn, hd, hmx⟩ := hrel
      clear hfirst
      by_cases hlt : k < l.length
      · have htk : l.take (k + 1) = l.take k ++ [l[k]] := List.take_succ_eq_append_getElem hlt
        have hmem : l[k] ∈ l := List.getElem_mem _
        have hbig : 18446744073709551615 < 10 * n + (l[k].toNat - 48) → 18446744073709551615 < valD 0 l := fun h => by
          have e : l = l.take (k + 1) ++ l.drop (k + 1) := (List.take_append_drop _ _).symm
          rw [e, valD_append, htk, valD_snoc, ← hn]
          exact Nat.lt_of_lt_of_le h (valD_le _ _)
        obtain ⟨x, ex⟩ : ∃ x, l[k]'hlt = x := ⟨_, rfl⟩
        have hget : ∀ h, (strL l)[k]'h = x := fun h => ex
        rw [ex] at hmem hbig htk
        clear ex
        have hx256 := x.toNat_lt
        have hlt1 : decide ((k : Int) < (l.length : Int)) = true := by simp; omega
        by_cases hx0 : x.toNat < 48
        · have hN : uV l = (0, false) := uV_bad hmem (Or.inl hx0)
          have d1 : decide ((x.toNat : Int) < 48) = true := by simp; omega
          replace hN := Lib.hid hN
          clear hbig htk hn hd hmx hx0 hmem hx256
          go_wp2
          go_ret2
          exact ⟨by rw [hN.out]; rfl, rfl⟩
        have d1 : decide ((x.toNat : Int) < 48) = false := by simp; omega
        by_cases hx1 : 57 < x.toNat
        · have hN : uV l = (0, false) := uV_bad hmem (Or.inr hx1)
          have d2 : decide ((57 : Int) < (x.toNat : Int)) = true := by simp; omega
          replace hN := Lib.hid hN
          clear hbig htk hn hd hmx hx0 hx1 hmem hx256
          go_wp2
          go_ret2
          exact ⟨by rw [hN.out]; rfl, rfl⟩
        have d2 : decide ((57 : Int) < (x.toNat : Int)) = false := by simp; omega
        obtain ⟨d, hd48⟩ : ∃ d : Nat, x.toNat = 48 + d := ⟨x.toNat - 48, by omega⟩
        have hd9 : d ≤ 9 := by omega
        have s1 : IntKind.u8.wrap ((x.toNat : Int) - 48) = (d : Int) := by rw [IntKind.wrap_u8]; omega
        have s2 : IntKind.u64.wrap (d : Int) = (d : Int) := by rw [IntKind.wrap_u64]; omega
        have s3 : IntKind.u64.wrap (18446744073709551615 - (d : Int)) = 18446744073709551615 - (d : Int) := by rw [IntKind.wrap_u64]; omega
        have hdig : isDig x = true := by unfold isDig; simp; omega
        have he48 : x.toNat - 48 = d := by omega
        rw [he48] at hbig
        by_cases hov : (18446744073709551615 - d) / 10 < n
        · have hN : uV l = (0, false) := uV_big (hbig (by omega))
          have d3 : decide ((18446744073709551615 - (d : Int)) / 10 < (n : Int)) = true := by simp; omega
          replace hN := Lib.hid hN
          clear hbig htk hn hd hmx hx0 hx1 hmem hdig he48 hov hx256
          replace hd48 := Lib.hid hd48
          go_wp2
          go_ret2
          exact ⟨by rw [hN.out]; rfl, rfl⟩
        · have d3 : decide ((18446744073709551615 - (d : Int)) / 10 < (n : Int)) = false := by simp; omega
          have m1 : IntKind.u64.wrap (10 * (n : Int)) = 10 * (n : Int) := by rw [IntKind.wrap_u64]; omega
          have m2 : IntKind.u64.wrap (10 * (n : Int) + (d : Int)) = ((10 * n + d : Nat) : Int) := by rw [IntKind.wrap_u64]; omega
          have q1 : 10 * n + d = valD 0 (l.take (k + 1)) := by rw [htk, valD_snoc, ← hn, he48]
          have q2 : (l.take (k + 1)).all isDig = true := by rw [htk, List.all_append, hd]; simp [hdig]
          have q3 : 10 * n + d ≤ 18446744073709551615 := by omega
          replace q1 := Lib.hid q1
          replace q2 := Lib.hid q2
          replace hd48 := Lib.hid hd48
          clear hbig htk hn hd hmx hx0 hx1 hmem hdig he48 hov hx256
          go_wp2
          go_round
          case rel => exact ⟨k + 1, 10 * n + d, by omega, rfl, by go_num, q1.out, q2.out, q3⟩
          case measure => simp [intOf]; omega
      · obtain rfl : k = l.length := by omega
        rw [List.take_length] at hn hd
        have hN : uV l = (n, true) := uV_good hcan hd hn hmx
        have hlt1 : decide ((l.length : Int) < (l.length : Int)) = false := by simp
        replace hN := Lib.hid hN
        clear hn hd hcan hmx hlt
        go_wp2
        go_ret2
        exact ⟨by rw [hN.out]; rfl, rfl⟩

/-- What signed tells. -/
def SgPost (w : World) (l : List UInt8) (e : Ending) (w' : World) : Prop := ∃ v : Int, e = .returned (.tuple #[.int .i64 v, .bool (sigD l).isSome]) ∧ (∀ n, sigD l = some n → v = n) ∧ w = w'
theorem uV_le (l : List UInt8) : (uV l).1 ≤ 18446744073709551615 := by
  unfold uV
  cases h : unsD l with
  | none => exact Nat.zero_le _
  | some n => exact unsD_le h
theorem SgPost.mk (w : World) (l : List UInt8) (v : Int) (b : Bool) (h : ((sigD l).isSome = b) ∧ ∀ n, sigD l = some n → v = n) : SgPost w l (.returned (.tuple #[.int .i64 v, .bool b])) w := ⟨v, by rw [h.1], h.2, rfl⟩
set_option maxRecDepth 100000 in
theorem signed_nil (w : World) : Calls Tryz.prog 35 #[.string (strL [])] w (SgPost w []) := by
  have hu := fun W => unsigned_any [] W (by simp)
  rw [show uV [] = (0, false) from rfl] at hu
  replace hu := Lib.hid hu
  go_enter Tryz.func35, Tryz.ntmps35
  go_wp2_with fail
  refine (hu.out _).mono ?_
  rintro e w' ⟨rfl, rfl⟩
  clear hu
  go_wp2
  go_ret2
  exact SgPost.mk _ _ _ _ ⟨rfl, fun n h => by cases h⟩
set_option maxRecDepth 100000 in
theorem signed_pos (l : List UInt8) (w : World) (hl : l.length ≤ 90000) (hh : l.head? ≠ some 45) : Calls Tryz.prog 35 #[.string (strL l)] w (SgPost w l) := by
  have hu := fun W => unsigned_any l W (by omega)
  have hle := uV_le l
  have hs : sigD l = if (uV l).2 = true ∧ (uV l).1 < 9223372036854775808 then some ((uV l).1 : Int) else none := by
    unfold sigD uV
    rw [if_neg hh]
    cases unsD l with
    | none => rfl
    | some n => simp
  generalize (uV l).1 = n at *
  generalize (uV l).2 = b at *
  have hc : IntKind.i64.wrap ((n : Int) % 9223372036854775808) = (n : Int) % 9223372036854775808 := by rw [IntKind.wrap_i64]; omega
  have hk : (b = false ∨ (b = true ∧ decide ((n : Int) < 9223372036854775808) = false)) ∧ sigD l = none ∨ ((b = true ∧ decide ((n : Int) < 9223372036854775808) = true) ∧ sigD l = some (n : Int) ∧ (n : Int) % 9223372036854775808 = (n : Int)) := by
    cases b with
    | false => exact .inl ⟨.inl rfl, by rw [hs]; simp⟩
    | true =>
      by_cases h : n < 9223372036854775808
      · exact .inr ⟨⟨rfl, by simp; omega⟩, by rw [hs, if_pos ⟨rfl, h⟩], by omega⟩
      · exact .inl ⟨.inr ⟨rfl, by simp; omega⟩, by rw [hs, if_neg (fun e => h e.2)]⟩
  replace hu := Lib.hid hu
  clear hs hle
  cases l with
  | nil => exact signed_nil w
  | cons c r =>
    have hne : ((c.toNat : Int) == 45) = false := by
      simp only [beq_eq_false_iff_ne, ne_eq]
      intro e
      refine hh ?_
      rw [List.head?_cons, UInt8.toNat_inj.1 (show c.toNat = (45 : UInt8).toNat from by show c.toNat = 45; omega)]
    have hpos : 0 < (c :: r).length := by simp
    have hget : ∀ h, (strL (c :: r))[0]'h = c := fun h => rfl
    generalize c :: r = l at *
    clear hh
    rcases hk with ⟨rfl | ⟨rfl, hd⟩, hr⟩ | ⟨⟨rfl, hd⟩, hr, hm⟩
    rotate_left
    rotate_left
    replace hm := Lib.hid hm
    rotate_left
    all_goals
      replace hr := Lib.hid hr
      go_enter Tryz.func35, Tryz.ntmps35
      go_wp2_with fail
      refine (hu.out _).mono ?_
      rintro e w' ⟨rfl, rfl⟩
      clear hu
      go_wp2
      go_ret2
    · exact SgPost.mk _ _ _ _ (by rw [hr.out]; simp)
    · exact SgPost.mk _ _ _ _ (by rw [hr.out]; simp)
    · exact SgPost.mk _ _ _ _ (by rw [hr.out, hm.out]; simp)
set_option maxRecDepth 100000 in
theorem signed_neg (r : List UInt8) (w : World) (hl : r.length ≤ 90000) : Calls Tryz.prog 35 #[.string (strL (45 :: r))] w (SgPost w (45 :: r)) := by
  have hu := fun W => unsigned_any r W (by omega)
  have hle := uV_le r
  have hs : sigD (45 :: r) = if (uV r).2 = true ∧ ¬ ((uV r).1 = 0 ∨ 9223372036854775808 < (uV r).1) then some (-((uV r).1 : Int)) else none := by
    unfold sigD uV
    rw [List.head?_cons, if_pos rfl, List.tail_cons]
    cases unsD r with
    | none => rfl
    | some n =>
      dsimp only
      by_cases h : n = 0 ∨ 9223372036854775808 < n
      · rw [if_pos h, if_neg (fun e => e.2 h)]
      · rw [if_neg h, if_pos ⟨rfl, h⟩]
  generalize (uV r).1 = n at *
  generalize (uV r).2 = b at *
  have hsl : ∀ W, (Instr.slice 9 (.string (strL (45 :: r))) (some (.int .i64 1)) none none).run Tryz.prog W = .ok (.string (strL r)) W := fun W => sl_lo (45 :: r) 1 (by simp) W
  have hpos : 0 < (45 :: r).length := by simp
  have hget : ∀ h, (strL (45 :: r))[0]'h = 45 := fun h => rfl
  have hl2 : (45 :: r).length ≤ 90001 := by simp; omega
  generalize hl0 : (45 :: r) = l at *
  replace hu := Lib.hid hu
  cases b with
  | false =>
    have hr : sigD l = none := by rw [hs]; simp
    replace hr := Lib.hid hr
    clear hs hle
    go_enter Tryz.func35, Tryz.ntmps35
    go_wp2_with fail
    refine (hu.out _).mono ?_
    rintro e w' ⟨rfl, rfl⟩
    clear hu
    go_wp2
    go_ret2
    exact SgPost.mk _ _ _ _ (by rw [hr.out]; simp)
  | true =>
    by_cases h0 : n = 0
    · subst h0
      have hr : sigD l = none := by rw [hs]; simp
      replace hr := Lib.hid hr
      clear hs hle
      go_enter Tryz.func35, Tryz.ntmps35
      go_wp2_with fail
      refine (hu.out _).mono ?_
      rintro e w' ⟨rfl, rfl⟩
      clear hu
      go_wp2
      go_ret2
      exact SgPost.mk _ _ _ _ (by rw [hr.out]; simp)
    · have d0 : ((n : Int) == 0) = false := by simpa using h0
      by_cases h1 : 9223372036854775808 < n
      · have d1 : decide ((9223372036854775808 : Int) < (n : Int)) = true := by simp; omega
        have hr : sigD l = none := by rw [hs, if_neg]; rintro ⟨-, h⟩; exact h (.inr h1)
        replace hr := Lib.hid hr
        clear hs hle h0 h1
        go_enter Tryz.func35, Tryz.ntmps35
        go_wp2_with fail
        refine (hu.out _).mono ?_
        rintro e w' ⟨rfl, rfl⟩
        clear hu
        go_wp2
        go_ret2
        exact SgPost.mk _ _ _ _ (by rw [hr.out]; simp)
      · have d1 : decide ((9223372036854775808 : Int) < (n : Int)) = false := by simp; omega
        have hr : sigD l = some (-(n : Int)) := by rw [hs, if_pos]; exact ⟨rfl, by omega⟩
        have m1 : IntKind.u64.wrap ((n : Int) - 1) = (n : Int) - 1 := by rw [IntKind.wrap_u64]; omega
        have m2 : IntKind.i64.wrap ((n : Int) - 1) = (n : Int) - 1 := by rw [IntKind.wrap_i64]; omega
        have m3 : IntKind.i64.wrap (-((n : Int) - 1)) = -((n : Int) - 1) := by rw [IntKind.wrap_i64]; omega
        have m4 : IntKind.i64.wrap (-((n : Int) - 1) - 1) = -(n : Int) := by rw [IntKind.wrap_i64]; omega
        replace hr := Lib.hid hr
        clear hs hle h0 h1
        go_enter Tryz.func35, Tryz.ntmps35
        go_wp2_with fail
        refine (hu.out _).mono ?_
        rintro e w' ⟨rfl, rfl⟩
        clear hu
        go_wp2
        go_ret2
        exact SgPost.mk _ _ _ _ (by rw [hr.out]; simp; try omega)
theorem signed_any (l : List UInt8) (w : World) (hl : l.length ≤ 90000) : Calls Tryz.prog 35 #[.string (strL l)] w (SgPost w l) := by
  by_cases h : l.head? = some 45
  · cases l with
    | nil => cases h
    | cons c r =>
      rw [List.head?_cons] at h
      injection h with h
      subst h
      exact signed_neg r w (by simp at hl; omega)
  · exact signed_pos l w hl h
end Go.Proofs.YtcicmeggbkhniaaGreatDoor
