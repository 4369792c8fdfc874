/- x[lo:hi] of a slice of bytes, whatever it points to. -/
import Derived.Test.YtdgmhegcoogokaaDoorBase
import Derived.ChangeKeysEq
namespace Go.Proofs.YtdgmhegcoogokaaDoor
set_option linter.unusedVariables false

/-- Where x[lo:] points to. -/
def cutA (A : Option Addr) (c lo : Nat) : Option Addr := if c = lo then A else A.map (·.add lo)

theorem Rd.cut {w : World} {A : Option Addr} {n c : Nat} {l : List UInt8} (h : Rd w A n c l) (lo : Nat) (hlo : lo ≤ n) : Rd w (cutA A c lo) (n - lo) (c - lo) (l.drop lo) := by
  have hl := h.len
  have hcap := h.2.2.1
  have hle := h.2.1
  refine ⟨by simp; omega, by omega, by omega, fun hn => ?_⟩
  obtain ⟨b', off', hA, hb, hc⟩ := h.2.2.2 (by omega)
  subst hA
  refine ⟨b', off' + lo, ?_, hb, fun j u hu => ?_⟩
  · unfold cutA
    rw [if_neg (by omega)]
    simp [Addr.add]
  · have h3 := hc (lo + j) u (by
      rw [List.map_drop, List.getElem?_drop] at hu
      exact hu)
    rw [show off' + lo + j = off' + (lo + j) from by omega]
    exact h3

theorem Rd.begin {w : World} {A : Option Addr} {n c : Nat} {l : List UInt8} (h : Rd w A n c l) (hi : Nat) (hh : hi ≤ n) : Rd w (cutA A c 0) hi c (l.take hi) := by
  have hl := h.len
  have hcap := h.2.2.1
  have hle := h.2.1
  refine ⟨by simp; omega, by omega, by omega, fun hn => ?_⟩
  obtain ⟨b', off', hA, hb, hc⟩ := h.2.2.2 (by omega)
  subst hA
  refine ⟨b', off', ?_, hb, fun j u hu => ?_⟩
  · unfold cutA
    split <;> simp [Addr.add]
  · refine hc j u ?_
    rw [List.map_take, List.getElem?_take] at hu
    split at hu
    · exact hu
    · cases hu

section
variable {P : Program} (t e : TypeId) (ht : P.underlying t = some (.slice e)) (he : (P.info? e).map (fun i => (i.zero, i.size, i.bytes)) = some (some (.int .u8 0), 1, 1))
include ht he
omit ht in
theorem cells1 : ∃ i, P.info? e = some i ∧ P.cellsOf e = 1 := by
  match hi : P.info? e with
  | none => rw [hi] at he; cases he
  | some i =>
    rw [hi] at he
    simp at he
    refine ⟨i, rfl, ?_⟩
    unfold Program.cellsOf
    simp [hi, he]
theorem run_slice_lo (A : Option Addr) (n c lo : Nat) (h : lo ≤ n) (hn : n ≤ c) (w : World) :
    (Instr.slice t (.slice A n c) (some (.int .i64 (lo : Int))) none none).run P w = .ok (.slice (cutA A c lo) (n - lo) (c - lo)) w := by
  obtain ⟨i, hi, hc⟩ := cells1 e he
  unfold Instr.slice Instr.sliceBounds Instr.sliceBound
  simp [Sem.run_bind, run_underlying ht, asIntOf, run_sizeOf w hi, hc, h, cutA]
theorem run_slice_hi (A : Option Addr) (n c hi_ : Nat) (h : hi_ ≤ n) (hn : n ≤ c) (w : World) :
    (Instr.slice t (.slice A n c) none (some (.int .i64 (hi_ : Int))) none).run P w = .ok (.slice (cutA A c 0) hi_ c) w := by
  obtain ⟨i, hi, hc⟩ := cells1 e he
  have : hi_ ≤ c := by omega
  unfold Instr.slice Instr.sliceBounds Instr.sliceBound
  simp [Sem.run_bind, run_underlying ht, asIntOf, run_sizeOf w hi, hc, this, cutA]
end
end Go.Proofs.YtdgmhegcoogokaaDoor
