/- Contracts of octet.Number, and of the reference's high and Number: the bytes that they make. For every uint64. -/
import Derived.Test.YtdgmhegcoogokaaDoorOctA
namespace Go.Proofs.YtdgmhegcoogokaaDoor
open Go.RowKit
set_option linter.unusedVariables false

/-- A call that hands back a new slice of bytes, and turns nothing that was there. -/
def NewB (w : World) (l : List UInt8) (e : Ending) (w' : World) : Prop :=
  ∃ A n c, e = .returned (.slice A n c) ∧ Ob w' w.heap.size 5 A n c l ∧ Below w.heap.size w w'

/-- A number's bytes. -/
def numL (n : Nat) : List UInt8 := UInt8.ofNat (needN n) :: beB n (needN n)
theorem needN_le (n : Nat) (h : n < 18446744073709551616) : needN n ≤ 8 := by
  have := bitLen_le64 n h
  unfold needN
  omega

theorem Number_any (x : Int) (w : World) (h0 : 0 ≤ x) (h1 : x ≤ 18446744073709551615) :
    Calls Tryd.prog 44 #[.int .u64 x] w (NewB w (numL x.toNat)) := by
  have hk := needN_le x.toNat (by omega)
  go_enter Tryd.func44, Tryd.ntmps44
  go_wp2_with (first
    | (go_at_call 69; refine (need_any _ _ h0 h1).mono ?_; rintro e w' ⟨rfl, rfl⟩)
    | (go_at_call 71; refine (of_any _ _).mono ?_; rintro e w' ⟨rfl, rfl⟩))
  have hown := (Ob.one w w.heap.size (needN x.toNat : Int) 5 (by omega) (by omega) (Nat.le_refl _)).below ((Below.refl _ _).alloc (Nat.le_refl _) (.cells #[.int .u64 x] 40))
  refine (laid_any x (w.heap.size + 1) (needN x.toNat) w.heap.size 1 1 _ _ _ h0 h1 hk (by omega) hown (by simp; omega) (by simp [ab]) (by simp) (by simp)).mono ?_
  rintro e w2 ⟨A2, c2, rfl, hown2, hbel2, _⟩
  go_wp2
  go_ret
  exact ⟨A2, _, c2, rfl, hown2, (((Below.refl _ w).alloc (Nat.le_refl _) _).alloc (by simp) _).trans hbel2⟩

/-- The reference's own bytes: n less than 256 to the f. -/
def highF : Nat → Nat → List UInt8
  | 0, _ => []
  | f + 1, n => if n = 0 then [] else highF f (n / 256) ++ [UInt8.ofNat n]
theorem highF_len : ∀ f n, (highF f n).length ≤ f
  | 0, _ => Nat.le_refl _
  | f + 1, n => by
    unfold highF
    split
    · simp
    · have := highF_len f (n / 256)
      simp; omega

theorem high_any : ∀ (f : Nat), f ≤ 8 → ∀ (x : Int) (w : World), 0 ≤ x → x.toNat < 256 ^ f →
    Calls Tryd.prog 74 #[.int .u64 x] w (NewB w (highF f x.toNat)) := by
  intro f
  induction f with
  | zero =>
    intro _ x w h0 hn
    obtain rfl : x = 0 := by simp at hn; omega
    go_enter Tryd.func74, Tryd.ntmps74
    go_wp2
    go_ret
    exact ⟨none, 0, 0, rfl, Ov.nil _ _ _ _, Below.refl _ _⟩
  | succ f ih =>
    intro hf x w hx hn
    have hn8 : x ≤ 18446744073709551615 := by
      have h2 : 256 ^ (f + 1) ≤ 256 ^ 8 := Nat.pow_le_pow_right (by omega) (by omega)
      omega
    have hq : (x / 256).toNat < 256 ^ f := by rw [Nat.pow_succ] at hn; omega
    have hl := highF_len f (x / 256).toNat
    have ih' := Lib.hid (ih (by omega) (x / 256))
    clear ih
    by_cases h0 : x = 0
    · subst h0
      go_enter Tryd.func74, Tryd.ntmps74
      go_wp2
      go_ret
      exact ⟨none, 0, 0, rfl, Ov.nil _ _ _ _, Below.refl _ _⟩
    · have HE : Hid (highF f (x / 256).toNat ++ [UInt8.ofNat (x % 256).toNat] = highF (f + 1) x.toNat) := by
        have e1 : (x / 256).toNat = x.toNat / 256 := by omega
        have e2 : UInt8.ofNat (x % 256).toNat = UInt8.ofNat x.toNat := by
          have e3 : (x % 256).toNat = x.toNat % 256 := by omega
          rw [e3]
          apply UInt8.toNat_inj.1
          simp
        show _ = _
        rw [e1, e2, highF, if_neg (by omega)]
      go_enter Tryd.func74, Tryd.ntmps74
      go_wp2_with fail
      refine (ih'.out _ (by omega) hq).mono ?_
      rintro e w1 ⟨A, m, c, rfl, hown, hbel⟩
      have hm := hown.len
      have hsz := hbel.size
      go_wp2_with (at_builtin; refine wpList_append_b _ rfl _ _ 52 rfl 5 Tryd.underlying52 info_u8 w.heap.size A m c _ rfl (hown.below ((Below.refl _ _).alloc (Nat.le_refl _) _)) _ 1 1 _ rfl (Rd.one _ _ _ (by omega) (by omega)) (by omega) (by simp; omega) ?_; intro A2 c2 w2 hown2 hgrow2 hab2)
      go_ret
      refine ⟨A2, _, c2, rfl, ?_, (hbel.alloc hsz _).grown hgrow2 (by simp; omega) (fun q hq => (hown.ab q hq).1)⟩
      rw [← HE.out]
      exact hown2

theorem refNumber_any (x : Int) (w : World) (h0 : 0 ≤ x) (h1 : x ≤ 18446744073709551615) :
    Calls Tryd.prog 52 #[.int .u64 x] w (NewB w (UInt8.ofNat (highF 8 x.toNat).length :: highF 8 x.toNat)) := by
  go_enter Tryd.func52, Tryd.ntmps52
  go_wp2_with fail
  refine (high_any 8 (by omega) x _ h0 (by omega)).mono ?_
  rintro e w1 ⟨A, m, c, rfl, hown, hbel⟩
  have hsz := hbel.size
  have hl := highF_len 8 x.toNat
  have HL := Lib.hid hown.len
  have hm : m ≤ 8 := by rw [← HL.out]; exact hl
  have HM := Lib.hid hm
  have hone := Ob.one w1 w.heap.size (m : Int) 5 (by omega) (by omega) hsz
  go_wp2_with (at_builtin; refine wpList_append_b _ rfl _ _ 52 rfl 5 Tryd.underlying52 info_u8 w.heap.size _ 1 1 _ rfl hone A m c _ rfl (hown.rd.below ((Below.refl _ _).alloc (Nat.le_refl _) _)) (by omega) (by simp; omega) ?_; intro A2 c2 w2 hown2 hgrow2 hab2)
  go_ret
  refine ⟨A2, _, c2, rfl, ?_, (hbel.alloc hsz _).grown hgrow2 (by simp; omega) (fun q hq => (hone.ab q hq).1)⟩
  rw [HL.out]
  exact hown2
end Go.Proofs.YtdgmhegcoogokaaDoor
