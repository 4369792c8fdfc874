/- What a value is converted to, which conversions are sure, and that what is converted back is what it was: plain laws; no program in sight; no condition. -/
import Derived.Test.YtagoooclfcbdeaaGreatDoorColC
import Derived.Test.YtagoooclfcbdeaaGreatDoorTextP
namespace Go.Proofs.YtagoooclfcbdeaaGreatDoor
open Go.Lib
set_option linter.unusedVariables false

/-- Is there a way between types? -/
def wayV (a b : Int) : Bool := decide ((1 ≤ a ∧ a ≤ 4) ∧ (1 ≤ b ∧ b ≤ 4)) && !(decide (a = 3 ∧ b = 4) || decide (a = 4 ∧ b = 3))
theorem wayV_iff (a b : Int) : wayV a b = true ↔ (1 ≤ a ∧ a ≤ 4) ∧ (1 ≤ b ∧ b ≤ 4) ∧ ¬ (a = 3 ∧ b = 4) ∧ ¬ (a = 4 ∧ b = 3) := by
  unfold wayV
  simp
  omega
theorem wayV_comm {a b : Int} (h : wayV a b = true) : wayV b a = true := by
  rw [wayV_iff] at *
  omega
/-- A value that is a number, or a truth, as one with a sign. -/
def numV (x : Vl) : Option Int := if x.k = 2 then (if x.u < 9223372036854775808 then some x.u else none) else some x.i
/-- A value, not null, as one of another type. -/
def turnV (x : Vl) (b : Int) : Option Vl :=
  if x.k = b then some x
  else if b = 4 then some ⟨4, 0, 0, if x.k = 1 then itoa x.i else decDigits x.u.toNat⟩
  else if x.k = 4 then (if b = 1 then (sigD x.s).map fun n => ⟨1, n, 0, []⟩ else (unsD x.s).map fun (n : Nat) => ⟨2, 0, (n : Int), []⟩)
  else (numV x).bind fun n => if b = 1 then some ⟨1, n, 0, []⟩ else if b = 2 then (if 0 ≤ n then some ⟨2, 0, n, []⟩ else none) else (if n = 0 ∨ n = 1 then some ⟨3, n, 0, []⟩ else none)
/-- What a value is converted to, and an error's number. -/
def convV (f t : Cl) (x : Vl) : Vl × Nat :=
  if colV f = false ∨ colV t = false then (zeroT, 2) else if fitV f x ≠ 0 then (zeroT, fitV f x) else if wayV f.t t.t = false then (zeroT, 160)
  else if x.k = 0 then (if t.nl then (x, 0) else (zeroT, 161))
  else match turnV x t.t with
    | none => (zeroT, 161)
    | some y => if fitV t y = 0 then (y, 0) else (zeroT, 161)
/-- How many bytes the digits of a number of a column have, at most. -/
def digV (c : Cl) : Int := if c.t = 1 then (if c.z = 1 then 4 else if c.z = 2 then 6 else if c.z = 4 then 11 else 20) else (if c.z = 1 then 3 else if c.z = 2 then 5 else if c.z = 4 then 10 else 20)
/-- Is it sure by types and sizes? -/
def sizeB (f t : Cl) : Bool := if f.t = t.t then decide (f.z ≤ t.z) else if f.t = 2 ∧ t.t = 1 then decide (f.z < t.z) else if f.t = 3 then true else if t.t = 4 then decide (digV f ≤ t.z) else false
/-- Which conversions are sure. -/
def sureV (f t : Cl) : Bool × Nat := if colV f = false ∨ colV t = false then (false, 2) else (wayV f.t t.t && (t.nl || !f.nl) && sizeB f t, 0)

theorem wf_k {k i : Int} (h0 : -9223372036854775808 ≤ i) (h1 : i ≤ 9223372036854775807) : Vl.Wf ⟨k, i, 0, []⟩ := ⟨h0, h1, by simp, by simp, by simp [maxLen]⟩
theorem wf_u {k u : Int} (h0 : 0 ≤ u) (h1 : u ≤ 18446744073709551615) : Vl.Wf ⟨k, 0, u, []⟩ := ⟨by simp, by simp, h0, h1, by simp [maxLen]⟩
theorem wf_s {k : Int} {s : List UInt8} (h : s.length ≤ maxLen) : Vl.Wf ⟨k, 0, 0, s⟩ := ⟨by simp, by simp, by simp, by simp, h⟩
theorem digits_short {u : Nat} (h : u < 18446744073709551616) : (decDigits u).length ≤ 20 := by
  rw [decDigits_length]
  by_cases h0 : u = 0
  · subst h0
    rw [nDigits_small (by omega)]
    omega
  · have := numDigits_eq u (by omega) h
    split at this <;> omega
theorem itoa_short {i : Int} (h0 : -9223372036854775808 ≤ i) (h1 : i ≤ 9223372036854775807) : (itoa i).length ≤ 21 := by
  by_cases hv : i < 0
  · obtain ⟨u, rfl⟩ : ∃ u : Nat, i = -(u : Int) := ⟨i.natAbs, by omega⟩
    rw [itoa_neg u (by omega), List.length_cons]
    have := digits_short (u := u) (by omega)
    omega
  · obtain ⟨u, rfl⟩ : ∃ u : Nat, i = (u : Int) := ⟨i.toNat, by omega⟩
    rw [itoa_nonneg]
    have := digits_short (u := u) (by omega)
    omega
theorem turn_wf {x y : Vl} {b : Int} (hw : x.Wf) (h : turnV x b = some y) : y.Wf := by
  have i0 := hw.i0
  have i1 := hw.i1
  have u0 := hw.u0
  have u1 := hw.u1
  unfold turnV at h
  split at h
  · injection h with h; rw [← h]; exact hw
  split at h
  · injection h with h
    subst h
    refine wf_s ?_
    split
    · have := itoa_short i0 i1
      unfold maxLen; omega
    · have := digits_short (u := x.u.toNat) (by omega)
      unfold maxLen; omega
  split at h
  · split at h
    · cases hs : sigD x.s with
      | none => rw [hs] at h; cases h
      | some n =>
        rw [hs] at h
        injection h with h
        subst h
        exact wf_k (sigD_bounds hs).1 (sigD_bounds hs).2
    · cases hs : unsD x.s with
      | none => rw [hs] at h; cases h
      | some n =>
        rw [hs] at h
        injection h with h
        subst h
        have := unsD_le hs
        exact wf_u (by omega) (by omega)
  · have hn : ∀ n, numV x = some n → -9223372036854775808 ≤ n ∧ n ≤ 9223372036854775807 := by
      intro n hn
      unfold numV at hn
      split at hn
      · split at hn
        · injection hn with hn; omega
        · cases hn
      · injection hn with hn; omega
    cases hx : numV x with
    | none => rw [hx] at h; cases h
    | some n =>
      obtain ⟨n0, n1⟩ := hn n hx
      rw [hx, Option.bind_some] at h
      split at h
      · injection h with h; subst h; exact wf_k n0 n1
      split at h
      · split at h
        · injection h with h; subst h; exact wf_u (by omega) (by omega)
        · cases h
      · split at h
        · injection h with h; subst h; exact wf_k n0 n1
        · cases h
theorem turn_k {x y : Vl} {b : Int} (hb : 1 ≤ b ∧ b ≤ 4) (h : turnV x b = some y) : x.k = 4 ∧ b = 3 ∨ y.k = b := by
  unfold turnV at h
  split at h
  · rename_i e; injection h with h; right; rw [← h]; exact e
  split at h
  · rename_i e; injection h with h; right; rw [← h]; exact e.symm
  split at h
  · split at h
    · rename_i e
      cases hs : sigD x.s with
      | none => rw [hs] at h; cases h
      | some n => rw [hs] at h; injection h with h; right; rw [← h]; exact e.symm
    · cases hs : unsD x.s with
      | none => rw [hs] at h; cases h
      | some n =>
        rw [hs] at h; injection h with h
        by_cases h3 : b = 3
        · left; exact ⟨by assumption, h3⟩
        · right; rw [← h]; show (2 : Int) = b; omega
  · cases hx : numV x with
    | none => rw [hx] at h; cases h
    | some n =>
      rw [hx, Option.bind_some] at h
      split at h
      · injection h with h; right; rw [← h]; exact Eq.symm (by assumption)
      split at h
      · split at h
        · injection h with h; right; rw [← h]; exact Eq.symm (by assumption)
        · cases h
      · split at h
        · injection h with h; right; rw [← h]; show (3 : Int) = b; omega
        · cases h
theorem tv_same (x : Vl) : turnV x x.k = some x := by simp [turnV]
theorem tv12 {x : Vl} (h : x.k = 1) : turnV x 2 = if 0 ≤ x.i then some ⟨2, 0, x.i, []⟩ else none := by simp [turnV, numV, h]
theorem tv13 {x : Vl} (h : x.k = 1) : turnV x 3 = if x.i = 0 ∨ x.i = 1 then some ⟨3, x.i, 0, []⟩ else none := by simp [turnV, numV, h]
theorem tv14 {x : Vl} (h : x.k = 1) : turnV x 4 = some ⟨4, 0, 0, itoa x.i⟩ := by simp [turnV, h]
theorem tv21 {x : Vl} (h : x.k = 2) : turnV x 1 = if x.u < 9223372036854775808 then some ⟨1, x.u, 0, []⟩ else none := by
  unfold turnV numV
  rw [h]
  by_cases hu : x.u < 9223372036854775808 <;> simp [hu]
theorem tv23 {x : Vl} (h : x.k = 2) : turnV x 3 = if x.u = 0 ∨ x.u = 1 then some ⟨3, x.u, 0, []⟩ else none := by
  unfold turnV numV
  rw [h]
  by_cases hu : x.u < 9223372036854775808
  · simp [hu]
  · simp [hu]
    omega
theorem tv24 {x : Vl} (h : x.k = 2) : turnV x 4 = some ⟨4, 0, 0, decDigits x.u.toNat⟩ := by simp [turnV, h]
theorem tv31 {x : Vl} (h : x.k = 3) : turnV x 1 = some ⟨1, x.i, 0, []⟩ := by simp [turnV, numV, h]
theorem tv32 {x : Vl} (h : x.k = 3) : turnV x 2 = if 0 ≤ x.i then some ⟨2, 0, x.i, []⟩ else none := by simp [turnV, numV, h]
theorem tv41 {x : Vl} (h : x.k = 4) : turnV x 1 = (sigD x.s).map fun n => ⟨1, n, 0, []⟩ := by simp [turnV, h]
theorem tv42 {x : Vl} (h : x.k = 4) : turnV x 2 = (unsD x.s).map fun (n : Nat) => ⟨2, 0, (n : Int), []⟩ := by simp [turnV, h]
theorem some_if {c : Prop} [Decidable c] {x y : Vl} (h : (if c then some x else none) = some y) : c ∧ y = x := by
  split at h
  · rename_i hc; exact ⟨hc, (Option.some.inj h).symm⟩
  · cases h
/-- What is turned, turned back, is what it was. -/
theorem turn_back {x y : Vl} {b : Int} (hw : x.Wf) (hc : x.chk = 0) (hk : x.k ≠ 0) (hb : wayV x.k b = true) (h : turnV x b = some y) : turnV y x.k = some x := by
  rw [wayV_iff] at hb
  have i0 := hw.i0
  have i1 := hw.i1
  have u0 := hw.u0
  have u1 := hw.u1
  by_cases hkb : x.k = b
  · rw [← hkb, tv_same] at h
    rw [← Option.some.inj h, tv_same]
  rcases chk_ways hc with rfl | ⟨i, rfl⟩ | ⟨u, rfl⟩ | rfl | rfl | ⟨s, rfl, hs⟩
  · exact absurd rfl hk
  · have hb4 : b = 2 ∨ b = 3 ∨ b = 4 := by dsimp only at hkb hb; omega
    rcases hb4 with rfl | rfl | rfl
    · rw [tv12 rfl] at h
      obtain ⟨h0, rfl⟩ := some_if h
      refine (tv21 rfl).trans (if_pos ?_)
      dsimp only at *
      omega
    · rw [tv13 rfl] at h
      obtain ⟨h0, rfl⟩ := some_if h
      exact tv31 rfl
    · rw [tv14 rfl] at h
      obtain rfl := Option.some.inj h
      refine (tv41 rfl).trans ?_
      dsimp only at *
      rw [sigD_itoa i i0 i1]
      rfl
  · have hb4 : b = 1 ∨ b = 3 ∨ b = 4 := by dsimp only at hkb hb; omega
    rcases hb4 with rfl | rfl | rfl
    · rw [tv21 rfl] at h
      obtain ⟨h0, rfl⟩ := some_if h
      exact (tv12 rfl).trans (if_pos u0)
    · rw [tv23 rfl] at h
      obtain ⟨h0, rfl⟩ := some_if h
      exact (tv32 rfl).trans (if_pos u0)
    · rw [tv24 rfl] at h
      obtain rfl := Option.some.inj h
      refine (tv42 rfl).trans ?_
      dsimp only at *
      rw [unsD_decDigits u.toNat (by omega)]
      show some (⟨2, 0, (u.toNat : Int), []⟩ : Vl) = _
      rw [show (u.toNat : Int) = u by omega]
  · have hb4 : b = 1 ∨ b = 2 := by dsimp only at hkb hb; omega
    rcases hb4 with rfl | rfl
    · rw [tv31 rfl] at h
      obtain rfl := Option.some.inj h
      exact (tv13 rfl).trans (if_pos (.inl rfl))
    · rw [tv32 rfl] at h
      obtain ⟨h0, rfl⟩ := some_if h
      exact (tv23 rfl).trans (if_pos (.inl rfl))
  · have hb4 : b = 1 ∨ b = 2 := by dsimp only at hkb hb; omega
    rcases hb4 with rfl | rfl
    · rw [tv31 rfl] at h
      obtain rfl := Option.some.inj h
      exact (tv13 rfl).trans (if_pos (.inr rfl))
    · rw [tv32 rfl] at h
      obtain ⟨h0, rfl⟩ := some_if h
      exact (tv23 rfl).trans (if_pos (.inr rfl))
  · have hb4 : b = 1 ∨ b = 2 := by dsimp only at hkb hb; omega
    rcases hb4 with rfl | rfl
    · rw [tv41 rfl] at h
      cases hd : sigD s with
      | none => dsimp only at h; rw [hd] at h; cases h
      | some n =>
        dsimp only at h
        rw [hd] at h
        obtain rfl := Option.some.inj h
        refine (tv14 rfl).trans ?_
        dsimp only
        rw [((sigD_some s n).1 hd).2]
    · rw [tv42 rfl] at h
      cases hd : unsD s with
      | none => dsimp only at h; rw [hd] at h; cases h
      | some n =>
        dsimp only at h
        rw [hd] at h
        obtain rfl := Option.some.inj h
        refine (tv24 rfl).trans ?_
        dsimp only
        rw [show ((n : Int).toNat) = n by omega, ((unsD_some s n).1 hd).2]
theorem fit_zero {c : Cl} {x : Vl} (h : fitV c x = 0) : colV c = true ∧ x.chk = 0 ∧ (x.k = 0 → c.nl = true) ∧ (x.k ≠ 0 → x.k = c.t ∧ roomV c.z x = true) := by
  unfold fitV at h
  split at h
  · cases h
  split at h
  · contradiction
  rename_i h1 h2
  refine ⟨by simpa using h1, by simpa using h2, ?_, ?_⟩
  · intro h0
    rw [if_pos h0] at h
    split at h
    · assumption
    · cases h
  · intro h0
    rw [if_neg h0] at h
    split at h
    · cases h
    split at h
    · rename_i h3 h4
      exact ⟨by simpa using h3, h4⟩
    · cases h
theorem fit_null {c : Cl} {x : Vl} (h : colV c = true) (hk : x.k = 0) (hx : x.chk = 0) : fitV c x = if c.nl then 0 else 131 := by
  unfold fitV
  rw [if_neg (by simp [h]), if_neg (by simp [hx]), if_pos hk]
theorem fit_of {c : Cl} {x : Vl} (h : colV c = true) (hx : x.chk = 0) (hk : x.k ≠ 0) (ht : x.k = c.t) (hr : roomV c.z x = true) : fitV c x = 0 := by
  unfold fitV
  rw [if_neg (by simp [h]), if_neg (by simp [hx]), if_neg hk, if_neg (by simp [ht]), if_pos hr]

theorem conv_wf (f t : Cl) {x : Vl} (hw : x.Wf) : (convV f t x).1.Wf := by
  have hz : zeroT.Wf := ⟨by decide, by decide, by decide, by decide, by decide⟩
  unfold convV
  split
  · exact hz
  split
  · exact hz
  split
  · exact hz
  split
  · split
    · exact hw
    · exact hz
  cases h : turnV x t.t with
  | none => exact hz
  | some y =>
    dsimp only
    split
    · exact turn_wf hw h
    · exact hz
theorem conv_ok {f t : Cl} {x : Vl} (h : (convV f t x).2 = 0) : colV f = true ∧ colV t = true ∧ fitV f x = 0 ∧ wayV f.t t.t = true ∧ ((x.k = 0 ∧ t.nl = true ∧ (convV f t x).1 = x) ∨ (x.k ≠ 0 ∧ turnV x t.t = some (convV f t x).1 ∧ fitV t (convV f t x).1 = 0)) := by
  unfold convV at *
  split at h
  · cases h
  split at h
  · contradiction
  split at h
  · cases h
  rename_i h1 h2 h3
  rw [if_neg h1, if_neg h2, if_neg h3]
  refine ⟨?_, ?_, by simpa using h2, by simpa using h3, ?_⟩
  · cases e : colV f
    · exact absurd (.inl e) h1
    · rfl
  · cases e : colV t
    · exact absurd (.inr e) h1
    · rfl
  split at h
  · rename_i hk
    rw [if_pos hk]
    split at h
    · rename_i hn; left; exact ⟨hk, hn, by rw [if_pos hn]⟩
    · cases h
  · rename_i hk
    rw [if_neg hk]
    right
    refine ⟨hk, ?_⟩
    cases ht : turnV x t.t with
    | none => rw [ht] at h; cases h
    | some y =>
      rw [ht] at h
      dsimp only at h ⊢
      split at h
      · rename_i hf; rw [if_pos hf]; exact ⟨rfl, hf⟩
      · cases h
/-- What is converted, converted back, is what it was. -/
theorem conv_back {f t : Cl} {x : Vl} (hw : x.Wf) (h : (convV f t x).2 = 0) : convV t f (convV f t x).1 = (x, 0) := by
  obtain ⟨c1, c2, hf, hway, hr⟩ := conv_ok h
  obtain ⟨-, hx, hn, hk⟩ := fit_zero hf
  generalize (convV f t x).1 = y at *
  unfold convV
  rw [if_neg (by simp [c1, c2])]
  rcases hr with ⟨h0, htn, rfl⟩ | ⟨h0, ht, hft⟩
  · rw [fit_null c2 h0 hx, htn, if_neg (by simp), wayV_comm hway, if_neg (by simp), if_pos h0, hn h0]
    rfl
  · have hyk : y.k = t.t := by
      rw [wayV_iff] at hway
      have h2 := turn_k (by omega) ht
      have h3 := (hk h0).1
      omega
    have hy0 : y.k ≠ 0 := by
      rw [wayV_iff] at hway
      omega
    rw [if_neg (by simp [hft]), wayV_comm hway, if_neg (by simp), if_neg hy0]
    have hb := turn_back hw hx h0 (by rw [(hk h0).1]; exact hway) ht
    rw [(hk h0).1] at hb
    rw [hb]
    dsimp only
    rw [if_pos hf]
/-- Unlike values stay unlike. -/
theorem conv_inj {f t : Cl} {x y : Vl} (hx : x.Wf) (hy : y.Wf) (h1 : (convV f t x).2 = 0) (h2 : (convV f t y).2 = 0) : (convV f t x).1 = (convV f t y).1 ↔ x = y := by
  constructor
  · intro e
    have b1 := conv_back hx h1
    have b2 := conv_back hy h2
    rw [e, b2] at b1
    exact (Prod.mk.inj b1).1.symm
  · rintro rfl; rfl

theorem digits_le : ∀ (k u : Nat), u < 10 ^ (k + 1) → (decDigits u).length ≤ k + 1
  | 0, u, h => by
    rw [decDigits_one (by simpa using h)]
    simp
  | k + 1, u, h => by
    by_cases hu : u < 10
    · rw [decDigits_one hu]
      simp
    · rw [decDigits, dif_neg hu, List.length_append]
      have := digits_le k (u / 10) (by rw [Nat.pow_succ] at h; omega)
      simp
      omega
theorem chk_i (i : Int) : Vl.chk ⟨1, i, 0, []⟩ = 0 := by
  have h : strL [] = ByteArray.empty := rfl
  simp [Vl.chk, chkV, okV, h]
theorem chk_u (u : Int) : Vl.chk ⟨2, 0, u, []⟩ = 0 := by
  have h : strL [] = ByteArray.empty := rfl
  simp [Vl.chk, chkV, okV, h]
theorem chk_s {s : List UInt8} (h : s.length ≤ 200) : Vl.chk ⟨4, 0, 0, s⟩ = 0 := by
  simp [Vl.chk, chkV, okV, strL_size]
  omega
theorem itoa_le {k : Nat} {i : Int} (h : i.natAbs < 10 ^ (k + 1)) : (itoa i).length ≤ k + 2 ∧ (0 ≤ i → (itoa i).length ≤ k + 1) := by
  by_cases hv : i < 0
  · obtain ⟨u, rfl⟩ : ∃ u : Nat, i = -(u : Int) := ⟨i.natAbs, by omega⟩
    have hu : u < 10 ^ (k + 1) := by simpa using h
    rw [itoa_neg u (by omega), List.length_cons]
    have := digits_le k u hu
    exact ⟨by omega, fun h => by omega⟩
  · obtain ⟨u, rfl⟩ : ∃ u : Nat, i = (u : Int) := ⟨i.toNat, by omega⟩
    have hu : u < 10 ^ (k + 1) := by simpa using h
    rw [itoa_nonneg]
    have := digits_le k u hu
    exact ⟨by omega, fun h => by omega⟩
theorem dig_int {c : Cl} {i : Int} (ht : c.t = 1) (hz : c.z = 1 ∨ c.z = 2 ∨ c.z = 4 ∨ c.z = 8) (h0 : leastV c.z ≤ i) (h1 : i ≤ -(leastV c.z + 1)) : ((itoa i).length : Int) ≤ digV c := by
  have p3 : (10 : Nat) ^ (2 + 1) = 1000 := by decide
  have p5 : (10 : Nat) ^ (4 + 1) = 100000 := by decide
  have p10 : (10 : Nat) ^ (9 + 1) = 10000000000 := by decide
  have p19 : (10 : Nat) ^ (18 + 1) = 10000000000000000000 := by decide
  rcases hz with hz | hz | hz | hz
  · rw [hz] at h0 h1
    have l1 : leastV 1 = -128 := rfl
    have := (itoa_le (k := 2) (i := i) (by omega)).1
    simp [digV, ht, hz]
    omega
  · rw [hz] at h0 h1
    have l1 : leastV 2 = -32768 := rfl
    have := (itoa_le (k := 4) (i := i) (by omega)).1
    simp [digV, ht, hz]
    omega
  · rw [hz] at h0 h1
    have l1 : leastV 4 = -2147483648 := rfl
    have := (itoa_le (k := 9) (i := i) (by omega)).1
    simp [digV, ht, hz]
    omega
  · rw [hz] at h0 h1
    have l1 : leastV 8 = -9223372036854775808 := rfl
    have := (itoa_le (k := 18) (i := i) (by omega)).1
    simp [digV, ht, hz]
    omega
theorem dig_uint {c : Cl} {u : Int} (ht : c.t = 2) (hz : c.z = 1 ∨ c.z = 2 ∨ c.z = 4 ∨ c.z = 8) (h0 : 0 ≤ u) (h1 : u ≤ mostV c.z) : ((decDigits u.toNat).length : Int) ≤ digV c := by
  have p3 : (10 : Nat) ^ (2 + 1) = 1000 := by decide
  have p5 : (10 : Nat) ^ (4 + 1) = 100000 := by decide
  have p10 : (10 : Nat) ^ (9 + 1) = 10000000000 := by decide
  have p20 : (10 : Nat) ^ (19 + 1) = 100000000000000000000 := by decide
  rcases hz with hz | hz | hz | hz
  · rw [hz] at h1
    have l1 : mostV 1 = 255 := rfl
    have := digits_le 2 u.toNat (by omega)
    simp [digV, ht, hz]
    omega
  · rw [hz] at h1
    have l1 : mostV 2 = 65535 := rfl
    have := digits_le 4 u.toNat (by omega)
    simp [digV, ht, hz]
    omega
  · rw [hz] at h1
    have l1 : mostV 4 = 4294967295 := rfl
    have := digits_le 9 u.toNat (by omega)
    simp [digV, ht, hz]
    omega
  · rw [hz] at h1
    have l1 : mostV 8 = 18446744073709551615 := rfl
    have := digits_le 19 u.toNat (by omega)
    simp [digV, ht, hz]
    omega
theorem least_mono {a b : Int} (ha : a = 1 ∨ a = 2 ∨ a = 4 ∨ a = 8) (hb : b = 1 ∨ b = 2 ∨ b = 4 ∨ b = 8) (h : a ≤ b) : leastV b ≤ leastV a ∧ mostV a ≤ mostV b ∧ (a < b → mostV a ≤ -(leastV b + 1) ∧ mostV a < 9223372036854775808) := by
  rcases ha with rfl | rfl | rfl | rfl <;> rcases hb with rfl | rfl | rfl | rfl <;> first | decide | (exfalso; omega)
/-- A conversion that is sure refuses nothing that fits. -/
theorem sure_ok {f t : Cl} {x : Vl} (hw : x.Wf) (hs : sureV f t = (true, 0)) (hf : fitV f x = 0) : (convV f t x).2 = 0 := by
  unfold sureV at hs
  split at hs
  · cases hs
  rename_i hc
  have c1 : colV f = true := by
    cases e : colV f
    · exact absurd (.inl e) hc
    · rfl
  have c2 : colV t = true := by
    cases e : colV t
    · exact absurd (.inr e) hc
    · rfl
  injection hs with hs
  simp only [Bool.and_eq_true, Bool.or_eq_true, Bool.not_eq_true'] at hs
  obtain ⟨⟨hway, hnl⟩, hsz⟩ := hs
  obtain ⟨-, hx, hn, hk⟩ := fit_zero hf
  unfold convV
  rw [if_neg hc, if_neg (by simp [hf]), hway, if_neg (by simp)]
  by_cases h0 : x.k = 0
  · rw [if_pos h0]
    have : t.nl = true := by
      rcases hnl with h | h
      · exact h
      · rw [hn h0] at h; cases h
    rw [this]
    rfl
  rw [if_neg h0]
  obtain ⟨hkt, hr⟩ := hk h0
  have key : ∃ y, turnV x t.t = some y ∧ fitV t y = 0 := by
    have sf := fun h => size_num (c := f) c1 h
    have st := fun h => size_num (c := t) c2 h
    have u0 := hw.u0
    have u1 := hw.u1
    rw [wayV_iff] at hway
    have ht4 : t.t = 1 ∨ t.t = 2 ∨ t.t = 3 ∨ t.t = 4 := by omega
    rcases chk_ways hx with rfl | ⟨i, rfl⟩ | ⟨u, rfl⟩ | rfl | rfl | ⟨s, rfl, hs⟩
    · exact absurd rfl h0
    · simp only at hkt hr
      have sf1 := sf (by omega)
      unfold roomV at hr
      simp at hr
      unfold sizeB at hsz
      rw [← hkt] at hsz
      rcases ht4 with ht | ht | ht | ht
      · have st1 := st (.inl ht)
        rw [ht] at hsz
        simp at hsz
        have hm := least_mono sf1 st1 hsz
        refine ⟨_, by simp [turnV, ht], fit_of c2 hx h0 ht.symm ?_⟩
        unfold roomV
        simp
        omega
      · rw [ht] at hsz; simp at hsz
      · rw [ht] at hsz; simp at hsz
      · rw [ht] at hsz
        simp at hsz
        have hd := dig_int hkt.symm sf1 hr.1 hr.2
        have hl : (itoa i).length ≤ 21 := itoa_short (by simpa using hw.i0) (by simpa using hw.i1)
        refine ⟨⟨4, 0, 0, itoa i⟩, by simp [turnV, ht], fit_of c2 (chk_s (by omega)) (by simp) ht.symm ?_⟩
        unfold roomV
        simp
        omega
    · simp only at hkt hr u0 u1
      have sf1 := sf (by omega)
      unfold roomV at hr
      simp at hr
      unfold sizeB at hsz
      rw [← hkt] at hsz
      rcases ht4 with ht | ht | ht | ht
      · have st1 := st (.inl ht)
        rw [ht] at hsz
        simp at hsz
        have hm := least_mono sf1 st1 (by omega)
        have hm2 := hm.2.2 hsz
        have hm3 := least_b st1
        refine ⟨⟨1, u, 0, []⟩, by rw [ht]; exact (tv21 rfl).trans (if_pos (show u < 9223372036854775808 by omega)), fit_of c2 (chk_i u) (by simp) ht.symm ?_⟩
        unfold roomV
        simp
        omega
      · have st1 := st (.inr ht)
        rw [ht] at hsz
        simp at hsz
        have hm := least_mono sf1 st1 (by omega)
        refine ⟨_, by simp [turnV, ht], fit_of c2 hx h0 ht.symm ?_⟩
        unfold roomV
        simp
        omega
      · rw [ht] at hsz; simp at hsz
      · rw [ht] at hsz
        simp at hsz
        have hd := dig_uint hkt.symm sf1 u0 hr
        have hl : (decDigits u.toNat).length ≤ 20 := digits_short (by omega)
        refine ⟨⟨4, 0, 0, decDigits u.toNat⟩, by simp [turnV, ht], fit_of c2 (chk_s (by omega)) (by simp) ht.symm ?_⟩
        unfold roomV
        simp
        omega
    · simp only at hkt hway
      rcases ht4 with ht | ht | ht | ht
      · have st1 := st (.inl ht)
        have hm3 := least_b st1
        refine ⟨⟨1, 0, 0, []⟩, by simp [turnV, numV, ht], fit_of c2 (chk_i 0) (by simp) ht.symm ?_⟩
        unfold roomV
        simp
        omega
      · have st1 := st (.inr ht)
        refine ⟨⟨2, 0, 0, []⟩, by simp [turnV, numV, ht], fit_of c2 (chk_u 0) (by simp) ht.symm ?_⟩
        unfold roomV
        rcases st1 with h | h | h | h <;> (rw [h]; decide)
      · exact ⟨_, by simp [turnV, ht], fit_of c2 hx h0 ht.symm rfl⟩
      · omega
    · simp only at hkt hway
      rcases ht4 with ht | ht | ht | ht
      · have st1 := st (.inl ht)
        have hm3 := least_b st1
        refine ⟨⟨1, 1, 0, []⟩, by simp [turnV, numV, ht], fit_of c2 (chk_i 1) (by simp) ht.symm ?_⟩
        unfold roomV
        simp
        omega
      · have st1 := st (.inr ht)
        refine ⟨⟨2, 0, 1, []⟩, by simp [turnV, numV, ht], fit_of c2 (chk_u 1) (by simp) ht.symm ?_⟩
        unfold roomV
        rcases st1 with h | h | h | h <;> (rw [h]; decide)
      · exact ⟨_, by simp [turnV, ht], fit_of c2 hx h0 ht.symm rfl⟩
      · omega
    · simp only at hkt hr
      unfold roomV at hr
      simp at hr
      unfold sizeB at hsz
      rw [← hkt] at hsz
      rcases ht4 with ht | ht | ht | ht
      · rw [ht] at hsz; simp at hsz
      · rw [ht] at hsz; simp at hsz
      · rw [ht] at hsz; simp at hsz
      · rw [ht] at hsz
        simp at hsz
        refine ⟨_, by simp [turnV, ht], fit_of c2 hx h0 ht.symm ?_⟩
        unfold roomV
        simp
        omega
  obtain ⟨y, h1, h2⟩ := key
  rw [h1]
  dsimp only
  rw [if_pos h2]
end Go.Proofs.YtagoooclfcbdeaaGreatDoor
