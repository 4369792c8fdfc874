/- []byte(s); copy into an array of one's own. -/
import Derived.Test.YtagoooclfcbdeaaGreatDoorBase
import Derived.Lib.ConvBytes
import Derived.Laws.CopyOwn
import Derived.Laws.CopyRow
import Derived.RangeFuncOwn
namespace Go.Proofs.YtagoooclfcbdeaaGreatDoor
open Go.RowKit
set_option linter.unusedVariables false

section
variable {P : Program} (src dst e : TypeId) {u : TypeDesc} (hs : P.underlying src = some u) (hd : P.underlying dst = some (.slice e)) (he : P.underlying e = some (.int .u8))
include hs hd he
theorem conv_str (w : World) (l : List UInt8) (hl : l.length ≤ maxLen) :
    ∃ c w', (convert src dst (.string (strL l))).run P w = .ok (.slice (some ⟨w.heap.size, 0, none⟩) l.length c) w' ∧ Rd w' (some ⟨w.heap.size, 0, none⟩) l.length c l ∧ Below w.heap.size w w' ∧ w'.heap.size = w.heap.size + 1 := by
  have h := Lib.run_convert_string_bytes (P := P) w src dst e (strL l) hs hd he
  rw [strL_size] at h
  refine ⟨_, _, h, ⟨by simp, grownCap_ge _ _ _ _, grownCap_le_maxLen _ _ _ _ hl, fun _ => ⟨w.heap.size, 0, rfl, ?_, fun j x hx => ?_⟩⟩, ⟨?_, ?_, ?_, ?_, fun k hk => Lib.bytesWorld_at_old w e (strL l) k hk⟩, Lib.bytesWorld_size w e (strL l)⟩
  · rw [Lib.bytesWorld_size]; omega
  · rw [List.getElem?_map] at hx
    cases hj : l[j]? with
    | none => rw [hj] at hx; cases hx
    | some y =>
      rw [hj] at hx
      injection hx with hx
      subst hx
      have hlt : j < l.length := (List.getElem?_eq_some_iff.1 hj).1
      rw [Nat.zero_add, Lib.bytesWorld_cell w e (strL l) j (by rw [strL_size]; exact hlt), strL_list, List.getD_eq_getElem?_getD, hj]
      rfl
  · rfl
  · rfl
  · rfl
  · rw [Lib.bytesWorld_size]; omega
end

/-- copy to the beginning of a block of bytes. -/
theorem copy_to {P : Program} (W : World) (dT sT ty e : TypeId) (hu : P.underlying dT = some (.slice e)) (hz : (P.info? e).map (·.size) = some 1) (g dl dc : Nat) (A : Option Addr) (n c : Nat) (cur : List UInt8) (t : TypeId) (l : List UInt8)
    (hg : W.heap[g]? = some (.cells (cur.map cb).toArray t (0, 0))) (hd : n ≤ dl) (hc : dl ≤ cur.length) (hr : Rd W A n c l) :
    ∃ W2, (Builtin.copy_ #[dT, sT] ty #[.slice (some ⟨g, 0, none⟩) dl dc, .slice A n c]).run P W = .ok (goInt n) W2 ∧ W2.heap[g]? = some (.cells ((l ++ cur.drop n).map cb).toArray t (0, 0)) ∧ W.grownBy W2 (some g) := by
  have hlen := hr.len
  by_cases h0 : n = 0
  · subst h0
    obtain rfl : l = [] := List.eq_nil_of_length_eq_zero hlen
    refine ⟨W, run_copy_none W dT sT ty e _ A dl dc 0 c hu hz (by simp), by simpa using hg, World.grownBy.refl W _⟩
  · obtain ⟨b, off, rfl, hb, hcell⟩ := hr.2.2.2 (by omega)
    have h := run_copy_row (P := P) W dT sT ty e g 0 dl dc ⟨b, off, none⟩ n c (cur.map cb).toArray t (l.map cb) hu hz hg (by rw [List.length_map, hlen]; exact (Nat.min_eq_left hd).symm) (fun j v hv => by rw [Addr.add_lit]; exact hcell j v hv) (by simp [hlen]; omega) (cb_one l)
    have hn : (l.map cb).length = n := by simpa using hlen
    rw [hn] at h
    refine ⟨_, h, ?_, ⟨rfl, rfl, rfl, by simp [World.setRow], fun k _ hk => setRow_other W g k _ (fun e => hk (by rw [e]))⟩⟩
    rw [setRow_heap W g _ _ t _ hg]
    simp
/-- append of bytes, as an equation. -/
theorem run_append_bs {P : Program} (w : World) (t ty e : TypeId) (ht : P.underlying t = some (.slice e)) (hi : (P.info? e).map (fun i => (i.zero, i.size, i.bytes)) = some (some (.int .u8 0), 1, 1))
    (base : Nat) (A : Option Addr) (n c : Nat) (l : List UInt8) (hown : Ob w base e A n c l) (B : Option Addr) (m d : Nat) (ys : List UInt8) (hr : Rd w B m d ys) (h63 : n + m ≤ 1000000) (hbase : base ≤ w.heap.size) :
    ∃ A' c' w', (Builtin.append_ #[t, t] ty #[.slice A n c, .slice B m d]).run P w = .ok (.slice A' (n + m) c') w' ∧ Ob w' base e A' (n + m) c' (l ++ ys) ∧ w.grownBy w' (ab A) ∧ (ab A' = ab A ∨ ab A' = some w.heap.size) := by
  obtain ⟨i, hi1, hi2, hi3, hi4⟩ : ∃ i, P.info? e = some i ∧ i.zero = some (.int .u8 0) ∧ i.size = 1 ∧ i.bytes = 1 := by
    match h : P.info? e with
    | none => rw [h] at hi; cases hi
    | some i =>
      rw [h] at hi
      simp only [Option.map_some, Option.some.injEq, Prod.mk.injEq] at hi
      exact ⟨i, rfl, hi.1, hi.2.1, hi.2.2⟩
  obtain ⟨A', c', w', h1, h2, h3, h4⟩ := run_append_v (P := P) (ty := ty) w t e i (.int .u8 0) 1 1 ht hi1 hi2 hi3 hi4 rfl (by decide) base A n c _ hown B m d _ hr (cb_one _) (by unfold maxLen; omega) (by omega) hbase
  exact ⟨A', c', w', h1, by unfold Ob; rw [List.map_append]; exact h2, h3, h4⟩

/-- A block of bytes. -/
def Arr (W : World) (g : Nat) (t : TypeId) (cur : List UInt8) : Prop := W.heap[g]? = some (.cells (cur.map cb).toArray t (0, 0))
section
variable {W W' : World} {g : Nat} {t : TypeId} {cur : List UInt8}
theorem Arr.lt (h : Arr W g t cur) : g < W.heap.size := (Array.getElem?_eq_some_iff.1 h).1
theorem Arr.cell (h : Arr W g t cur) {j : Nat} (hj : j < cur.length) : W.cell? ⟨g, j, none⟩ = some (.int .u8 (cur[j].toNat : Int)) := by
  unfold Arr at h
  simp [World.cell?, h, hj, cb]
theorem Arr.frozen (h : Arr W g t cur) (j : Nat) : W.frozen? ⟨g, j, none⟩ = false := by
  unfold Arr at h
  simp [World.frozen?, h]
theorem Arr.set (h : Arr W g t cur) (j : Nat) {v : Value} {b : UInt8} (hv : v = cb b) : Arr (W.setCell ⟨g, j, none⟩ v) g t (cur.set j b) := by
  unfold Arr at *
  show (W.heap.modify g _)[g]? = _
  obtain ⟨hlt, hk⟩ := Array.getElem?_eq_some_iff.1 h
  rw [Array.getElem?_eq_getElem (by rw [Array.size_modify]; exact hlt), Array.getElem_modify_self, hk, hv]
  simp
theorem Arr.kept {row : Option Nat} (h : Arr W g t cur) (hg : W.grownBy W' row) (hne : some g ≠ row) : Arr W' g t cur := (hg.block g h.lt hne).trans h
theorem Arr.below (h : Arr W g t cur) (hb : Below W.heap.size W W') : Arr W' g t cur := (hb.block g h.lt).trans h
theorem Arr.rd (h : Arr W g t cur) (c : Nat) (hc : cur.length ≤ c) (hm : c ≤ maxLen) : Rd W (some ⟨g, 0, none⟩) cur.length c cur := by
  refine ⟨by simp, hc, hm, fun _ => ⟨g, 0, rfl, h.lt, fun j y hy => ?_⟩⟩
  rw [List.getElem?_map] at hy
  cases hj : cur[j]? with
  | none => rw [hj] at hy; cases hy
  | some b =>
    rw [hj] at hy
    injection hy with hy
    subst hy
    obtain ⟨h1, h2⟩ := List.getElem?_eq_some_iff.1 hj
    rw [Nat.zero_add, h.cell h1, h2]
    rfl
theorem Arr.rdn (h : Arr W g t cur) (n c : Nat) (hn : n ≤ cur.length) (hc : n ≤ c) (hm : c ≤ maxLen) : Rd W (some ⟨g, 0, none⟩) n c (cur.take n) := by
  refine ⟨by simp; omega, hc, hm, fun _ => ⟨g, 0, rfl, h.lt, fun j y hy => ?_⟩⟩
  rw [List.getElem?_map] at hy
  cases hj : (cur.take n)[j]? with
  | none => rw [hj] at hy; cases hy
  | some b =>
    rw [hj] at hy
    injection hy with hy
    subst hy
    obtain ⟨h1, h2⟩ := List.getElem?_eq_some_iff.1 hj
    rw [List.length_take] at h1
    rw [Nat.zero_add, h.cell (j := j) (by omega), ← h2, List.getElem_take]
    rfl
theorem Arr.rd' (h : Arr W g t cur) (n c : Nat) (hn : cur.length = n) (hc : n ≤ c) (hm : c ≤ maxLen) : Rd W (some ⟨g, 0, none⟩) n c cur := by
  subst hn
  exact h.rd c hc hm
end
end Go.Proofs.YtagoooclfcbdeaaGreatDoor
