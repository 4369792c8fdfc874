/- The order of keys is that of lists: plain laws, no program in sight. -/
import Derived.Test.YtdgmhegcoogokaaDoorRefV
namespace Go.Proofs.YtdgmhegcoogokaaDoor
open Go.RowKit
set_option linter.unusedVariables false

/-- Two texts part at a byte, and which is the less. -/
inductive Dif : List UInt8 → List UInt8 → Bool → Prop
  | here (a b : UInt8) (l m : List UInt8) : a ≠ b → Dif (a :: l) (b :: m) (decide (a < b))
  | there (a : UInt8) {l m : List UInt8} {t : Bool} : Dif l m t → Dif (a :: l) (a :: m) t
theorem Dif.less {l m : List UInt8} {t : Bool} (h : Dif l m t) (p q : List UInt8) : Op.bytesLess (l ++ p) (m ++ q) = t := by
  induction h with
  | here a b l m hne =>
    simp [Op.bytesLess, hne]
  | there a h ih =>
    simp [Op.bytesLess, ih]
theorem Dif.ne {l m : List UInt8} {t : Bool} (h : Dif l m t) (p q : List UInt8) : l ++ p ≠ m ++ q := by
  induction h with
  | here a b l m hne => simp [hne]
  | there a h ih => simpa using ih
theorem Dif.app {l m : List UInt8} {t : Bool} (h : Dif l m t) (p q : List UInt8) : Dif (l ++ p) (m ++ q) t := by
  induction h with
  | here a b l m hne => exact .here a b _ _ hne
  | there a h ih => exact .there a ih
theorem Dif.of {l m : List UInt8} {t t' : Bool} (h : Dif l m t) (e : t = t') : Dif l m t' := e ▸ h

theorem u8_lt (a b : Nat) (ha : a < 256) (hb : b < 256) : decide (UInt8.ofNat a < UInt8.ofNat b) = decide (a < b) := by
  rw [decide_eq_decide, UInt8.lt_iff_toNat_lt]
  simp
  omega
theorem u8_ne (a b : Nat) (ha : a < 256) (hb : b < 256) (h : a ≠ b) : UInt8.ofNat a ≠ UInt8.ofNat b := by
  intro e
  have := congrArg UInt8.toNat e
  simp at this
  omega
theorem ofNat_mod (a : Nat) : UInt8.ofNat a = UInt8.ofNat (a % 256) := by
  apply UInt8.toNat_inj.1
  simp

theorem beB_dif : ∀ (k n m : Nat), n % 256 ^ k ≠ m % 256 ^ k → Dif (beB n k) (beB m k) (decide (n % 256 ^ k < m % 256 ^ k))
  | 0, n, m, h => by simp at h; omega
  | k + 1, n, m, h => by
    have hk : 0 < 256 ^ k := Nat.pow_pos (by omega)
    have en := Nat.mod_pow_succ (b := 256) (k := k) (x := n)
    have em := Nat.mod_pow_succ (b := 256) (k := k) (x := m)
    have ln := Nat.mod_lt n hk
    have lm := Nat.mod_lt m hk
    rw [beB, beB, ← pow256, ofNat_mod (n / 256 ^ k), ofNat_mod (m / 256 ^ k)]
    have hn2 := Nat.mod_lt (n / 256 ^ k) (show 0 < 256 by omega)
    have hm2 := Nat.mod_lt (m / 256 ^ k) (show 0 < 256 by omega)
    rw [en, em] at h ⊢
    generalize n / 256 ^ k % 256 = a at *
    generalize m / 256 ^ k % 256 = b at *
    by_cases hab : a = b
    · subst hab
      refine Dif.of (.there _ (beB_dif k n m (by omega))) ?_
      rw [decide_eq_decide]
      omega
    · refine Dif.of (.here _ _ _ _ (u8_ne a b hn2 hm2 hab)) ?_
      rw [u8_lt a b hn2 hm2, decide_eq_decide]
      constructor
      · intro hlt
        have := Nat.mul_le_mul_left (256 ^ k) (show a + 1 ≤ b by omega)
        rw [Nat.mul_add, Nat.mul_one] at this
        omega
      · intro hlt
        rcases Nat.lt_or_ge a b with h1 | h1
        · exact h1
        · have := Nat.mul_le_mul_left (256 ^ k) (show b + 1 ≤ a by omega)
          rw [Nat.mul_add, Nat.mul_one] at this
          omega

theorem numL_dif (n m : Nat) (hn : n < 18446744073709551616) (hm : m < 18446744073709551616) (h : n ≠ m) : Dif (numL n) (numL m) (decide (n < m)) := by
  have h8n := needN_le n hn
  have h8m := needN_le m hm
  unfold numL
  by_cases hab : needN n = needN m
  · have b1 := (needN_le_iff n (needN n) hn h8n).1 (Nat.le_refl _)
    have b2 := (needN_le_iff m (needN n) hm h8n).1 (by omega)
    have hd := beB_dif (needN n) n m (by rw [Nat.mod_eq_of_lt b1, Nat.mod_eq_of_lt b2]; exact h)
    rw [Nat.mod_eq_of_lt b1, Nat.mod_eq_of_lt b2] at hd
    rw [← hab]
    exact .there _ hd
  · refine Dif.of (.here _ _ _ _ (u8_ne _ _ (by omega) (by omega) hab)) ?_
    rw [u8_lt _ _ (by omega) (by omega), decide_eq_decide]
    constructor
    · intro hlt
      have h1 := (needN_le_iff n (needN n) hn h8n).1 (Nat.le_refl _)
      have h2 := mt (needN_le_iff m (needN n) hm h8n).2 (by omega)
      omega
    · intro hlt
      rcases Nat.lt_or_ge (needN n) (needN m) with h1 | h1
      · exact h1
      · have h3 := (needN_le_iff m (needN m) hm h8m).1 (Nat.le_refl _)
        have h4 := mt (needN_le_iff n (needN m) hn h8m).2 (by omega)
        omega

/-- Groups, byte by byte. -/
def encG8 : List UInt8 → Nat → List UInt8
  | [], n => List.replicate n 0 ++ [UInt8.ofNat (8 - n)]
  | b :: t, 0 => 9 :: b :: encG8 t 7
  | b :: t, n + 1 => b :: encG8 t n
theorem encG8_eq : ∀ (n : Nat) (t : List UInt8), n ≤ 8 → encG8 t n = if t.length ≤ n then t ++ List.replicate (n - t.length) 0 ++ [UInt8.ofNat (8 - n + t.length)] else t.take n ++ encG8 (t.drop n) 0
  | 0, [], _ => by simp [encG8]
  | 0, b :: t, _ => by simp
  | n + 1, [], h => by simp [encG8]
  | n + 1, b :: t, h => by
    rw [encG8, encG8_eq n t (by omega)]
    by_cases hl : t.length ≤ n
    · rw [if_pos hl, if_pos (by simp; omega)]
      have e : 8 - (n + 1) + (t.length + 1) = 8 - n + t.length := by omega
      have e2 : n + 1 - (t.length + 1) = n - t.length := by omega
      simp only [List.length_cons, e, e2, List.cons_append]
    · rw [if_neg hl, if_neg (by simp; omega)]
      simp
theorem grpL_encG8 : ∀ (d : Nat) (t : List UInt8), t.length ≤ d → grpL t = encG8 t 8
  | 0, t, h => by
    obtain rfl : t = [] := List.eq_nil_of_length_eq_zero (by omega)
    unfold grpL
    rfl
  | d + 1, t, h => by
    rw [encG8_eq 8 t (Nat.le_refl _)]
    unfold grpL
    by_cases h8 : 8 < t.length
    · rw [dif_pos h8, if_neg (by omega), grpL_encG8 d (t.drop 8) (by simp; omega)]
      congr 1
      cases hd : t.drop 8 with
      | nil =>
        have := congrArg List.length hd
        simp at this
        omega
      | cons b r => rfl
    · rw [dif_neg h8, if_pos (by omega)]
      simp

/-- Zeros, then a number, against more. -/
theorem zeros_dif : ∀ (t : List UInt8) (n v : Nat), n ≤ 8 → v < 8 - n → Dif (List.replicate n 0 ++ [UInt8.ofNat v]) (encG8 t n) true
  | [], n, v, hn, hv => by
    have hb : ∀ (k : Nat), Dif (List.replicate k (0 : UInt8) ++ [UInt8.ofNat v]) (List.replicate k 0 ++ [UInt8.ofNat (8 - n)]) true := by
      intro k
      induction k with
      | zero =>
        refine Dif.of (.here _ _ _ _ (u8_ne _ _ (by omega) (by omega) (by omega))) ?_
        rw [u8_lt _ _ (by omega) (by omega)]
        simpa using hv
      | succ k ih =>
        rw [List.replicate_succ, List.cons_append, List.cons_append]
        exact .there _ ih
    exact hb n
  | c :: t, 0, v, hn, hv => by
    rw [encG8]
    refine Dif.of (.here _ _ _ _ ?_) ?_
    · exact u8_ne v 9 (by omega) (by omega) (by omega)
    · exact (u8_lt v 9 (by omega) (by omega)).trans (by simp; omega)
  | c :: t, n + 1, v, hn, hv => by
    rw [encG8, List.replicate_succ, List.cons_append]
    by_cases hc : c = 0
    · subst hc
      exact .there _ (zeros_dif t n v (by omega) (by omega))
    · refine Dif.of (.here _ _ _ _ (fun e => hc e.symm)) ?_
      have : 0 < c.toNat := by
        rcases Nat.eq_zero_or_pos c.toNat with h0 | h0
        · exact absurd (UInt8.toNat_inj.1 h0) hc
        · exact h0
      rw [decide_eq_true_iff, UInt8.lt_iff_toNat_lt]
      exact this
theorem Dif.swap {l m : List UInt8} {t : Bool} (h : Dif l m t) : Dif m l (!t) := by
  induction h with
  | here a b l m hne =>
    refine Dif.of (.here b a m l (Ne.symm hne)) ?_
    have : ¬ a.toNat = b.toNat := fun e => hne (UInt8.toNat_inj.1 e)
    rw [Bool.eq_iff_iff]
    simp [UInt8.lt_iff_toNat_lt]
    omega
  | there a h ih => exact .there a ih

theorem enc_dif : ∀ (s t : List UInt8) (n : Nat), n ≤ 8 → s ≠ t → Dif (encG8 s n) (encG8 t n) (Op.bytesLess s t)
  | [], [], n, _, h => absurd rfl h
  | [], c :: t, 0, _, _ => Dif.of (.here _ _ _ _ (by decide)) rfl
  | [], c :: t, n + 1, hn, _ => by
    have hz := zeros_dif (c :: t) (n + 1) (8 - (n + 1)) hn
    rw [encG8, encG8, List.replicate_succ, List.cons_append]
    by_cases hc : c = 0
    · subst hc
      exact .there _ (zeros_dif t n (8 - (n + 1)) (by omega) (by omega))
    · refine Dif.of (.here _ _ _ _ (fun e => hc e.symm)) ?_
      have : 0 < c.toNat := by
        rcases Nat.eq_zero_or_pos c.toNat with h0 | h0
        · exact absurd (UInt8.toNat_inj.1 h0) hc
        · exact h0
      have h2 : decide ((0 : UInt8) < c) = true := by rw [decide_eq_true_iff, UInt8.lt_iff_toNat_lt]; exact this
      rw [h2]
      rfl
  | b :: s, [], n, hn, h => by
    have h1 := (enc_dif [] (b :: s) n hn (by simp)).swap
    exact h1.of (by simp [Op.bytesLess])
  | b :: s, c :: t, 0, hn, h => by
    rw [encG8, encG8]
    refine .there _ ?_
    by_cases hbc : b = c
    · subst hbc
      refine Dif.of (.there _ (enc_dif s t 7 (by omega) (by simpa using h))) (by simp [Op.bytesLess])
    · exact Dif.of (.here _ _ _ _ hbc) (by simp [Op.bytesLess, hbc])
  | b :: s, c :: t, n + 1, hn, h => by
    rw [encG8, encG8]
    by_cases hbc : b = c
    · subst hbc
      refine Dif.of (.there _ (enc_dif s t n (by omega) (by simpa using h))) (by simp [Op.bytesLess])
    · exact Dif.of (.here _ _ _ _ hbc) (by simp [Op.bytesLess, hbc])
termination_by s t n => (s.length + t.length, s.length)

theorem ordV_zero {x y : Vl} : ordV x y = 0 ↔ x = y := by
  obtain ⟨a1, a2, a3, a4⟩ := x
  obtain ⟨b1, b2, b3, b4⟩ := y
  unfold ordV byV
  dsimp only
  simp only [Vl.mk.injEq]
  repeat' split
  all_goals simp_all
theorem bytesLess_swap {s t : List UInt8} (h : s ≠ t) : Op.bytesLess t s = !Op.bytesLess s t := by
  have a := (enc_dif s t 8 (Nat.le_refl _) h).swap.less [] []
  have b := (enc_dif t s 8 (Nat.le_refl _) (Ne.symm h)).less [] []
  exact b.symm.trans a
theorem byV_neg (b : Bool) : decide (byV b < 0) = b := by cases b <;> rfl
theorem byV_pos (b : Bool) : decide (0 < byV b) = !b := by cases b <;> rfl
theorem lt_swap {a b : Int} (h : a ≠ b) : decide (b < a) = !decide (a < b) := by
  rw [Bool.eq_iff_iff]
  simp
  omega
theorem ordV_swap {x y : Vl} (h : x ≠ y) : decide (ordV y x < 0) = decide (0 < ordV x y) := by
  obtain ⟨a1, a2, a3, a4⟩ := x
  obtain ⟨b1, b2, b3, b4⟩ := y
  unfold ordV
  dsimp only
  by_cases h1 : a1 = b1
  · subst h1
    by_cases h2 : a2 = b2
    · subst h2
      by_cases h3 : a3 = b3
      · subst h3
        by_cases h4 : a4 = b4
        · exact absurd (by rw [h4]) h
        · simp only [ne_eq, not_true_eq_false, if_false]
          rw [if_pos (show ¬ b4 = a4 from fun e => h4 e.symm), if_pos (show ¬ a4 = b4 from h4), byV_neg, byV_pos, bytesLess_swap h4]
      · simp only [ne_eq, not_true_eq_false, if_false]
        rw [if_pos (show ¬ b3 = a3 from fun e => h3 e.symm), if_pos (show ¬ a3 = b3 from h3), byV_neg, byV_pos, lt_swap h3]
    · simp only [ne_eq, not_true_eq_false, if_false]
      rw [if_pos (show ¬ b2 = a2 from fun e => h2 e.symm), if_pos (show ¬ a2 = b2 from h2), byV_neg, byV_pos, lt_swap h2]
  · rw [if_pos (show b1 ≠ a1 from fun e => h1 e.symm), if_pos (show a1 ≠ b1 from h1), byV_neg, byV_pos, lt_swap h1]

/-- What may be, by its Kind. -/
theorem ok_shape {x : Vl} (w : x.Wf) (h : x.chk = 0) : (x.k = 0 ∧ x.i = 0 ∧ x.u = 0 ∧ x.s = []) ∨ (x.k = 1 ∧ x.u = 0 ∧ x.s = []) ∨ (x.k = 2 ∧ x.i = 0 ∧ x.s = []) ∨ (x.k = 3 ∧ x.u = 0 ∧ x.s = [] ∧ (x.i = 0 ∨ x.i = 1)) ∨ (x.k = 4 ∧ x.i = 0 ∧ x.u = 0) := by
  have h1 := (chk_ok h).1
  have he : strL x.s = ByteArray.empty ↔ x.s = [] := by
    constructor
    · intro e
      have := congrArg ByteArray.data e
      have := congrArg Array.toList this
      simpa [strL] using this
    · intro e
      rw [e]
      rfl
  unfold Vl.ok okV at h1
  rw [decide_eq_true_iff] at h1
  simp only [he] at h1
  exact h1

theorem keyV_dif {x y : Vl} (wx : x.Wf) (wy : y.Wf) (hx : x.chk = 0) (hy : y.chk = 0) (h : x ≠ y) : Dif (keyV x) (keyV y) (decide (ordV x y < 0)) := by
  have sx := ok_shape wx hx
  have sy := ok_shape wy hy
  have x0 := wx.i0; have x1 := wx.i1; have x2 := wx.u0; have x3 := wx.u1
  have y0 := wy.i0; have y1 := wy.i1; have y2 := wy.u0; have y3 := wy.u1
  obtain ⟨a1, a2, a3, a4⟩ := x
  obtain ⟨b1, b2, b3, b4⟩ := y
  dsimp only at *
  unfold keyV
  dsimp only
  by_cases hk : a1 = b1
  · subst hk
    refine .there _ ?_
    unfold restV
    dsimp only
    rcases sx with ⟨rfl, rfl, rfl, rfl⟩ | ⟨rfl, rfl, rfl⟩ | ⟨rfl, rfl, rfl⟩ | ⟨rfl, rfl, rfl, sx⟩ | ⟨rfl, rfl, rfl⟩
    · simp at sy
      obtain ⟨rfl, rfl, rfl⟩ := sy
      exact absurd rfl h
    · simp at sy
      obtain ⟨rfl, rfl⟩ := sy
      have hne : a2 ≠ b2 := fun e => h (by rw [e])
      rw [if_neg (by decide), if_pos rfl, if_neg (by decide), if_pos rfl]
      have e1 : (a2 + 9223372036854775808).toNat % 256 ^ 8 = (a2 + 9223372036854775808).toNat := Nat.mod_eq_of_lt (by omega)
      have e2 : (b2 + 9223372036854775808).toNat % 256 ^ 8 = (b2 + 9223372036854775808).toNat := Nat.mod_eq_of_lt (by omega)
      have hd := beB_dif 8 (a2 + 9223372036854775808).toNat (b2 + 9223372036854775808).toNat (by rw [e1, e2]; omega)
      rw [e1, e2] at hd
      refine hd.of ?_
      unfold ordV
      dsimp only
      rw [if_neg (by simp), if_pos hne, byV_neg, decide_eq_decide]
      omega
    · simp at sy
      obtain ⟨rfl, rfl⟩ := sy
      have hne : a3 ≠ b3 := fun e => h (by rw [e])
      rw [if_neg (by decide), if_neg (by decide), if_pos rfl, if_neg (by decide), if_neg (by decide), if_pos rfl]
      refine (numL_dif a3.toNat b3.toNat (by omega) (by omega) (by omega)).of ?_
      unfold ordV
      dsimp only
      rw [if_neg (by simp), if_neg (by simp), if_pos hne, byV_neg, decide_eq_decide]
      omega
    · simp at sy
      obtain ⟨rfl, rfl, sy⟩ := sy
      have hne : a2 ≠ b2 := fun e => h (by rw [e])
      rw [if_neg (by decide), if_neg (by decide), if_neg (by decide), if_pos rfl, if_neg (by decide), if_neg (by decide), if_neg (by decide), if_pos rfl]
      refine Dif.of (.here _ _ _ _ (u8_ne _ _ (by omega) (by omega) (by omega))) ?_
      rw [u8_lt _ _ (by omega) (by omega)]
      unfold ordV
      dsimp only
      rw [if_neg (by simp), if_pos hne, byV_neg, decide_eq_decide]
      omega
    · simp at sy
      obtain ⟨rfl, rfl⟩ := sy
      have hne : a4 ≠ b4 := fun e => h (by rw [e])
      rw [if_neg (by decide), if_neg (by decide), if_neg (by decide), if_neg (by decide), if_neg (by decide), if_neg (by decide), if_neg (by decide), if_neg (by decide)]
      rw [grpL_encG8 _ a4 (Nat.le_refl _), grpL_encG8 _ b4 (Nat.le_refl _)]
      refine (enc_dif a4 b4 8 (Nat.le_refl _) hne).of ?_
      unfold ordV
      dsimp only
      rw [if_neg (by simp), if_neg (by simp), if_neg (by simp), if_pos hne, byV_neg]
  · refine Dif.of (.here _ _ _ _ (u8_ne _ _ (by omega) (by omega) (by omega))) ?_
    rw [u8_lt _ _ (by omega) (by omega)]
    unfold ordV
    dsimp only
    rw [if_pos hk, byV_neg, decide_eq_decide]
    omega

theorem less_common (c p q : List UInt8) : Op.bytesLess (c ++ p) (c ++ q) = Op.bytesLess p q := by
  induction c with
  | nil => rfl
  | cons a c ih => simp [Op.bytesLess, ih]
theorem keysV_cons (x : Vl) (xs : List Vl) : keysV (x :: xs) = keyV x ++ keysV xs := rfl
theorem first_key {x : Vl} (w : x.Wf) (h : x.chk = 0) : ∃ b r, keyV x = b :: r ∧ b.toNat ≤ 4 := by
  have := ok_kinds (chk_ok h).1
  refine ⟨_, _, rfl, ?_⟩
  simp
  omega

/-- The order of keys. -/
theorem keys_order : ∀ (xs ys : List Vl), (∀ x ∈ xs, x.Wf ∧ x.chk = 0) → (∀ y ∈ ys, y.Wf ∧ y.chk = 0) →
    Op.bytesLess (keysV xs) (keysV ys) = decide (listsV xs ys < 0) ∧ (keysV xs = keysV ys ↔ listsV xs ys = 0) ∧
    Op.bytesLess (keysV ys) (keysV xs ++ [255]) = (decide (0 < listsV xs ys) || (decide (xs.length ≤ ys.length) && (listsV (ys.take xs.length) xs == 0)))
  | [], [], _, _ => by decide
  | [], y :: ys, _, hy => by
    obtain ⟨b, r, hb, h4⟩ := first_key (hy y (by simp)).1 (hy y (by simp)).2
    rw [keysV_cons, hb]
    refine ⟨rfl, by simp [keysV, listsV], ?_⟩
    have h1 : b < 255 := by
      rw [UInt8.lt_iff_toNat_lt]
      exact Nat.lt_of_le_of_lt h4 (by decide)
    simp [keysV, listsV, Op.bytesLess, h1]
  | x :: xs, [], hx, _ => by
    obtain ⟨b, r, hb, h4⟩ := first_key (hx x (by simp)).1 (hx x (by simp)).2
    rw [keysV_cons, hb]
    refine ⟨rfl, by simp [keysV, listsV], rfl⟩
  | x :: xs, y :: ys, hx, hy => by
    have hx1 := hx x (by simp)
    have hy1 := hy y (by simp)
    rw [keysV_cons, keysV_cons]
    by_cases hxy : x = y
    · subst hxy
      have h0 : ordV x x = 0 := ordV_zero.2 rfl
      obtain ⟨i1, i2, i3⟩ := keys_order xs ys (fun z hz => hx z (by simp [hz])) (fun z hz => hy z (by simp [hz]))
      have hl : listsV (x :: xs) (x :: ys) = listsV xs ys := by rw [listsV, if_neg (by simp [h0])]
      rw [hl, less_common]
      refine ⟨i1, ?_, ?_⟩
      · rw [← i2]
        exact List.append_right_inj _
      · rw [List.append_assoc, less_common, i3]
        simp [listsV, h0]
    · have h0 : ordV x y ≠ 0 := fun e => hxy (ordV_zero.1 e)
      have h0' : ordV y x ≠ 0 := fun e => hxy (ordV_zero.1 e).symm
      have hl : listsV (x :: xs) (y :: ys) = ordV x y := by rw [listsV, if_pos h0]
      have hd := keyV_dif hx1.1 hy1.1 hx1.2 hy1.2 hxy
      have hd2 := keyV_dif hy1.1 hx1.1 hy1.2 hx1.2 (Ne.symm hxy)
      rw [hl]
      refine ⟨hd.less _ _, ⟨fun e => absurd e (hd.ne _ _), fun e => absurd e h0⟩, ?_⟩
      rw [List.append_assoc, hd2.less, ordV_swap hxy]
      have : (listsV ((y :: ys).take (x :: xs).length) (x :: xs) == 0) = false := by
        rw [List.length_cons, List.take_succ_cons, listsV, if_pos h0']
        simpa using h0'
      rw [this]
      simp
end Go.Proofs.YtdgmhegcoogokaaDoor
