/- Contracts of octet's and the reference's ReadText. -/
import Derived.Test.YtdgmhegcoogokaaDoorOctE
namespace Go.Proofs.YtdgmhegcoogokaaDoor
open Go.RowKit
set_option linter.unusedVariables false

theorem readN_spec (l : List UInt8) : readN l = (0, 0, 120) ∨ ∃ n at_, readN l = (n, at_, 0) ∧ 1 ≤ at_ ∧ at_ ≤ l.length ∧ at_ ≤ 9 ∧ n < 18446744073709551616 := by
  cases l with
  | nil => exact .inl rfl
  | cons h t =>
    by_cases hw : 8 < h.toNat ∨ t.length < h.toNat
    · left; unfold readN; simp only; rw [if_pos hw]
    · rw [readN_cons h t (by omega) (by omega)]
      by_cases hq : needN (rdN (t.take h.toNat)) = h.toNat
      · rw [if_pos hq]
        refine .inr ⟨_, _, rfl, by omega, by simp; omega, by omega, ?_⟩
        have h1 := rdN_lt (t.take h.toNat)
        have h2 : 256 ^ (t.take h.toNat).length ≤ 256 ^ 8 := Nat.pow_le_pow_right (by omega) (by have := List.length_take_le h.toNat t; omega)
        omega
      · rw [if_neg hq]; exact .inl rfl

/-- What ReadText tells of bytes. -/
def readT (l : List UInt8) : List UInt8 × Nat × Nat :=
  if (readN l).2.2 ≠ 0 ∨ l.length - (readN l).2.1 < (readN l).1 then ([], 0, 120)
  else ((l.drop (readN l).2.1).take (readN l).1, (readN l).2.1 + (readN l).1, 0)

def ReadTPost (w : World) (r : List UInt8 × Nat × Nat) (e : Ending) (w' : World) : Prop :=
  e = .returned (.tuple #[.string (strL r.1), .int .i64 (r.2.1 : Int), .int .i64 (r.2.2 : Int)]) ∧ Below w.heap.size w w'

theorem Rd.sub {w : World} {b off n c : Nat} {l : List UInt8} (h : Rd w (some ⟨b, off, none⟩) n c l) (lo k d : Nat) (hk : lo + k ≤ n) (hd : k ≤ d) (hdc : lo + d ≤ c) : Rd w (some ⟨b, off + lo, none⟩) k d ((l.drop lo).take k) := by
  have hl := h.len
  have hcap := h.2.2.1
  refine ⟨by simp; omega, hd, by omega, fun hn => ?_⟩
  obtain ⟨b', off', hA, hb, hc⟩ := h.2.2.2 (by omega)
  simp at hA
  obtain ⟨rfl, rfl⟩ := hA
  refine ⟨_, _, rfl, hb, fun j u hu => ?_⟩
  have h3 := hc (lo + j) u (by
    simp only [List.map_take, List.map_drop, List.getElem?_take, List.getElem?_drop] at hu
    split at hu
    · exact hu
    · cases hu)
  rw [show off + lo + j = off + (lo + j) from by omega]
  exact h3

theorem refReadNumber_any' (A : Option Addr) (n c : Nat) (l : List UInt8) (w : World) (hr : Rd w A n c l) :
    Calls Tryd.prog 27 #[.slice A n c] w (ReadPost w (readN l)) := by
  rw [readN_eq]
  exact refReadNumber_any A n c l w hr

end Go.Proofs.YtdgmhegcoogokaaDoor
