/- A value's text, and the value of a text: plain laws; no program in sight. -/
import Derived.Test.YtagoooclfcbdeaaGreatDoorNum
import Derived.Test.YtagoooclfcbdeaaGreatDoorVl
namespace Go.Proofs.YtagoooclfcbdeaaGreatDoor
open Go.Lib
set_option linter.unusedVariables false

def hexDig (n : Nat) : UInt8 := if n < 10 then UInt8.ofNat (48 + n) else UInt8.ofNat (87 + n)
def hexL : List UInt8 → List UInt8
  | [] => []
  | b :: r => hexDig (b.toNat / 16) :: hexDig (b.toNat % 16) :: hexL r
def dig16 (c : UInt8) : Option Nat := if 48 ≤ c.toNat ∧ c.toNat ≤ 57 then some (c.toNat - 48) else if 97 ≤ c.toNat ∧ c.toNat ≤ 102 then some (c.toNat - 87) else none
def unhex : List UInt8 → Option (List UInt8)
  | [] => some []
  | [_] => none
  | a :: b :: r =>
    match dig16 a, dig16 b with
    | some x, some y => (unhex r).map fun t => UInt8.ofNat (16 * x + y) :: t
    | _, _ => none

theorem dig16_hexDig : ∀ n, n < 16 → dig16 (hexDig n) = some n := by decide
theorem hexDig_dig16 : ∀ c : UInt8, ∀ x, dig16 c = some x → hexDig x = c ∧ x < 16 := by
  have h : ∀ c : UInt8, (match dig16 c with | some x => decide (hexDig x = c ∧ x < 16) | none => true) = true := by
    intro c
    have hall : ∀ n : Fin 256, (match dig16 (UInt8.ofNat n.val) with | some x => decide (hexDig x = UInt8.ofNat n.val ∧ x < 16) | none => true) = true := by decide +kernel
    have := hall ⟨c.toNat, c.toNat_lt⟩
    simpa using this
  intro c x hx
  have := h c
  rw [hx] at this
  simpa using this

theorem unhex_hexL : ∀ s : List UInt8, unhex (hexL s) = some s
  | [] => rfl
  | b :: r => by
    have hb := b.toNat_lt
    rw [hexL, unhex, dig16_hexDig _ (by omega), dig16_hexDig _ (by omega), unhex_hexL r]
    simp only [Option.map_some, Option.some.injEq, List.cons.injEq, and_true]
    rw [show 16 * (b.toNat / 16) + b.toNat % 16 = b.toNat from by omega]
    simp
theorem hexL_length : ∀ s : List UInt8, (hexL s).length = 2 * s.length
  | [] => rfl
  | b :: r => by simp [hexL, hexL_length r]; omega
theorem hexL_unhex : ∀ (l s : List UInt8), unhex l = some s → hexL s = l
  | [], s, h => by
    injection h with h
    subst h
    rfl
  | [_], s, h => by cases h
  | a :: b :: r, s, h => by
    rw [unhex] at h
    split at h
    · rename_i x y hx hy
      cases hr : unhex r with
      | none => rw [hr] at h; cases h
      | some t =>
        rw [hr] at h
        simp only [Option.map_some, Option.some.injEq] at h
        subst h
        obtain ⟨h1, h2⟩ := hexDig_dig16 a x hx
        obtain ⟨h3, h4⟩ := hexDig_dig16 b y hy
        have e : (UInt8.ofNat (16 * x + y)).toNat = 16 * x + y := by
          simp [UInt8.toNat_ofNat']
          omega
        rw [hexL, e, hexL_unhex r t hr, show (16 * x + y) / 16 = x from by omega, show (16 * x + y) % 16 = y from by omega, h1, h3]
    · cases h

def nullL : List UInt8 := [110, 117, 108, 108]
def trueL : List UInt8 := [116, 114, 117, 101]
def falseL : List UInt8 := [102, 97, 108, 115, 101]
/-- A value's text. -/
def textV (x : Vl) : List UInt8 :=
  if x.k = 0 then nullL else if x.k = 1 then itoa x.i else if x.k = 2 then decDigits x.u.toNat ++ [117] else if x.k = 3 then (if x.i = 1 then trueL else falseL) else 120 :: 39 :: (hexL x.s ++ [39])
/-- What stands between the marks of bytes. -/
def quoted (l : List UInt8) : Option (List UInt8) := if 3 ≤ l.length ∧ l.take 2 = [120, 39] ∧ l.getLast? = some 39 then some (l.drop 2).dropLast else none
/-- What stands ahead of a u at the end. -/
def tailed (l : List UInt8) : Option (List UInt8) := if l.getLast? = some 117 then some l.dropLast else none
def zeroT : Vl := ⟨0, 0, 0, []⟩
/-- The value of a text, and an error's number. -/
def readT (l : List UInt8) : Vl × Nat :=
  if l = nullL then (zeroT, 0) else if l = trueL then (⟨3, 1, 0, []⟩, 0) else if l = falseL then (⟨3, 0, 0, []⟩, 0)
  else match quoted l with
    | some t => match unhex t with
      | some b => if 200 < b.length then (zeroT, 3) else (⟨4, 0, 0, b⟩, 0)
      | none => (zeroT, 110)
    | none => match tailed l with
      | some t => match unsD t with
        | some n => (⟨2, 0, (n : Int), []⟩, 0)
        | none => (zeroT, 110)
      | none => match sigD l with
        | some n => (⟨1, n, 0, []⟩, 0)
        | none => (zeroT, 110)

theorem decDigits_all (u : Nat) : ∀ c ∈ decDigits u, 48 ≤ c.toNat ∧ c.toNat ≤ 57 := by
  intro c hc
  have := List.all_eq_true.1 (decDigits_val u).2.1 c hc
  simpa [isDig] using this
theorem itoa_all (v : Int) : ∀ c ∈ itoa v, (48 ≤ c.toNat ∧ c.toNat ≤ 57) ∨ c.toNat = 45 := by
  intro c hc
  unfold itoa at hc
  split at hc
  · rcases List.mem_cons.1 hc with rfl | hc
    · exact .inr rfl
    · exact .inl (decDigits_all _ c hc)
  · exact .inl (decDigits_all _ c hc)
theorem not_in {P : UInt8 → Prop} {l m : List UInt8} (h : ∀ c ∈ l, P c) (c : UInt8) (hc : c ∈ m) (hn : ¬ P c) : l ≠ m := fun e => hn (h c (by rw [e]; exact hc))
theorem last_not {P : UInt8 → Prop} {l : List UInt8} (h : ∀ c ∈ l, P c) {c : UInt8} (hn : ¬ P c) : l.getLast? ≠ some c := fun e => hn (h c (List.mem_of_getLast? e))
theorem take2_not {P : UInt8 → Prop} {l : List UInt8} {a b : UInt8} (h : ∀ c ∈ l.take 1, P c) (hn : ¬ P a) : l.take 2 ≠ [a, b] := fun e => by
  refine hn (h a ?_)
  cases l with
  | nil => cases e
  | cons x t =>
    have : (x :: t).take 2 = x :: t.take 1 := rfl
    rw [this] at e
    injection e with e
    subst e
    simp

theorem chk_zero {x : Vl} (h : x.chk = 0) : okV x.k x.i x.u (strL x.s) = true ∧ x.s.length ≤ 200 := by
  unfold Vl.chk chkV at h
  split at h
  · rename_i h1
    split at h
    · cases h
    · rename_i h2
      rw [strL_size] at h2
      exact ⟨h1, by omega⟩
  · cases h
theorem strL_empty {s : List UInt8} (h : strL s = ByteArray.empty) : s = [] := by
  have := congrArg ByteArray.size h
  rw [strL_size] at this
  exact List.eq_nil_of_length_eq_zero this
/-- The five ways of a value that may be. -/
theorem chk_ways {x : Vl} (h : x.chk = 0) : (x = ⟨0, 0, 0, []⟩) ∨ (∃ i, x = ⟨1, i, 0, []⟩) ∨ (∃ u, x = ⟨2, 0, u, []⟩) ∨ (x = ⟨3, 0, 0, []⟩) ∨ (x = ⟨3, 1, 0, []⟩) ∨ (∃ s, x = ⟨4, 0, 0, s⟩ ∧ s.length ≤ 200) := by
  obtain ⟨h1, h2⟩ := chk_zero h
  obtain ⟨k, i, u, s⟩ := x
  simp only [okV, decide_eq_true_eq] at h1 h2
  rcases h1 with ⟨rfl, rfl, rfl, hs⟩ | ⟨rfl, rfl, hs⟩ | ⟨rfl, rfl, hs⟩ | ⟨rfl, rfl, hs, rfl | rfl⟩ | ⟨rfl, rfl, rfl⟩
  · rw [strL_empty hs]; simp
  · rw [strL_empty hs]; simp
  · rw [strL_empty hs]; simp
  · rw [strL_empty hs]; simp
  · rw [strL_empty hs]; simp
  · simp; exact h2

theorem quoted_of (t : List UInt8) : quoted (120 :: 39 :: (t ++ [39])) = some t := by
  unfold quoted
  rw [if_pos]
  · simp
  · refine ⟨by simp, rfl, ?_⟩
    rw [List.getLast?_cons_cons, List.getLast?_cons]
    simp
theorem quoted_some {l t : List UInt8} (h : quoted l = some t) : l = 120 :: 39 :: (t ++ [39]) := by
  unfold quoted at h
  split at h
  · rename_i hc
    obtain ⟨h1, h2, h3⟩ := hc
    injection h with h
    match l, h1, h2, h3, h with
    | a :: b :: c :: r, _, h2, h3, h =>
      simp only [List.take_succ_cons, List.take_zero, List.cons.injEq, and_true] at h2
      obtain ⟨rfl, rfl⟩ := h2
      rw [List.getLast?_cons_cons, List.getLast?_cons_cons] at h3
      have hne : c :: r ≠ [] := by simp
      have h4 : (c :: r).getLast hne = 39 := by
        rw [List.getLast?_eq_some_getLast hne] at h3
        injection h3
      have h5 := List.dropLast_concat_getLast hne
      rw [h4] at h5
      have h6 : (c :: r).dropLast = t := h
      rw [h6] at h5
      rw [h5]
  · cases h
theorem tailed_some {l t : List UInt8} (h : tailed l = some t) : l = t ++ [117] := by
  unfold tailed at h
  split at h
  · rename_i hc
    injection h with h
    have hne : l ≠ [] := by
      rintro rfl
      cases hc
    rw [List.getLast?_eq_some_getLast hne] at hc
    injection hc with hc
    have h5 := List.dropLast_concat_getLast hne
    rw [hc, h] at h5
    exact h5.symm
  · cases h

/-- A value's text is read as the value. -/
theorem readT_textV {x : Vl} (hw : x.Wf) (h : x.chk = 0) : readT (textV x) = (x, 0) := by
  have key : ∀ l : List UInt8, (∀ c ∈ l.take 1, (48 ≤ c.toNat ∧ c.toNat ≤ 57) ∨ c.toNat = 45) → l ≠ nullL ∧ l ≠ trueL ∧ l ≠ falseL ∧ quoted l = none := by
    intro l hl
    refine ⟨?_, ?_, ?_, ?_⟩
    · rintro rfl
      have := hl 110 (by simp [nullL])
      revert this; decide
    · rintro rfl
      have := hl 116 (by simp [trueL])
      revert this; decide
    · rintro rfl
      have := hl 102 (by simp [falseL])
      revert this; decide
    · unfold quoted
      rw [if_neg]
      rintro ⟨_, h2, _⟩
      exact take2_not hl (by decide) h2
  rcases chk_ways h with rfl | ⟨i, rfl⟩ | ⟨u, rfl⟩ | rfl | rfl | ⟨s, rfl, hs⟩
  · rfl
  · have hi0 := hw.i0
    have hi1 := hw.i1
    simp only at hi0 hi1
    have ht : textV ⟨1, i, 0, []⟩ = itoa i := rfl
    rw [ht]
    have hall := itoa_all i
    obtain ⟨k1, k2, k3, k4⟩ := key (itoa i) (fun c hc => hall c (List.mem_of_mem_take hc))
    unfold readT
    rw [if_neg k1, if_neg k2, if_neg k3, k4]
    have : tailed (itoa i) = none := by
      unfold tailed
      rw [if_neg (last_not hall (by decide))]
    simp only [this]
    rw [sigD_itoa i hi0 hi1]
  · have hu0 := hw.u0
    have hu1 := hw.u1
    simp only at hu0 hu1
    have ht : textV ⟨2, 0, u, []⟩ = decDigits u.toNat ++ [117] := rfl
    rw [ht]
    have hall := decDigits_all u.toNat
    have hne := (decDigits_val u.toNat).2.2
    obtain ⟨k1, k2, k3, k4⟩ := key (decDigits u.toNat ++ [117]) (fun c hc => .inl (hall c (by
      obtain ⟨b, r, e⟩ := List.exists_cons_of_ne_nil hne
      rw [e] at hc ⊢
      simp at hc
      simp [hc])))
    unfold readT
    rw [if_neg k1, if_neg k2, if_neg k3, k4]
    have : tailed (decDigits u.toNat ++ [117]) = some (decDigits u.toNat) := by
      unfold tailed
      rw [if_pos (by simp)]
      simp
    simp only [this]
    rw [unsD_decDigits u.toNat (by omega)]
    simp only [Prod.mk.injEq, and_true, Vl.mk.injEq, true_and]
    omega
  · rfl
  · rfl
  · have ht : textV ⟨4, 0, 0, s⟩ = 120 :: 39 :: (hexL s ++ [39]) := rfl
    rw [ht]
    unfold readT
    rw [if_neg (by intro e; cases e), if_neg (by intro e; cases e), if_neg (by intro e; cases e), quoted_of]
    simp only [unhex_hexL]
    rw [if_neg (by omega)]

/-- The value of a text has that text, and may be. -/
theorem textV_readT {l : List UInt8} {x : Vl} (h : readT l = (x, 0)) : textV x = l ∧ x.chk = 0 ∧ x.Wf := by
  unfold readT at h
  split at h
  · rename_i e
    injection h with h
    subst h e
    exact ⟨rfl, rfl, ⟨by decide, by decide, by decide, by decide, by decide⟩⟩
  split at h
  · rename_i _ e
    injection h with h
    subst h e
    exact ⟨rfl, rfl, ⟨by decide, by decide, by decide, by decide, by decide⟩⟩
  split at h
  · rename_i _ _ e
    injection h with h
    subst h e
    exact ⟨rfl, rfl, ⟨by decide, by decide, by decide, by decide, by decide⟩⟩
  split at h
  · rename_i t hq
    split at h
    · rename_i b hb
      split at h
      · injection h with _ h
        cases h
      · rename_i h200
        injection h with h
        subst h
        refine ⟨?_, ?_, ⟨by dsimp only; decide, by dsimp only; decide, by dsimp only; decide, by dsimp only; decide, ?_⟩⟩
        · rw [quoted_some hq, ← hexL_unhex t b hb]
          rfl
        · simp [Vl.chk, chkV, okV, strL_size, h200]
        · show b.length ≤ maxLen
          unfold maxLen
          omega
    · injection h with _ h
      cases h
  · split at h
    · rename_i t ht
      split at h
      · rename_i n hn
        injection h with h
        subst h
        have hle := unsD_le hn
        refine ⟨?_, ?_, ⟨by dsimp only; decide, by dsimp only; decide, ?_, ?_, by dsimp only; decide⟩⟩
        · rw [tailed_some ht]
          show decDigits ((n : Int)).toNat ++ [117] = _
          rw [Int.toNat_natCast, ((unsD_some t n).1 hn).2]
        · simp [Vl.chk, chkV, okV, strL]
          rfl
        · show (0 : Int) ≤ (n : Int)
          omega
        · show (n : Int) ≤ _
          omega
      · injection h with _ h
        cases h
    · split at h
      · rename_i n hn
        injection h with h
        subst h
        have hb := sigD_bounds hn
        refine ⟨((sigD_some l n).1 hn).2, ?_, ⟨hb.1, hb.2, by dsimp only; decide, by dsimp only; decide, by dsimp only; decide⟩⟩
        simp [Vl.chk, chkV, okV, strL]
        rfl
      · injection h with _ h
        cases h
end Go.Proofs.YtagoooclfcbdeaaGreatDoor
