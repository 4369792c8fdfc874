/- append(b, make([]byte, k)...). -/
import Derived.Test.YtdgmhegcoogokaaDoorBase
import Derived.Room.Entries
namespace Go.Proofs.YtdgmhegcoogokaaDoor
open Go.RowKit
set_option linter.unusedVariables false

def zeroB (k : Nat) : ByteArray := ⟨(List.replicate k (0 : UInt8)).toArray⟩
theorem zeroB_size (k : Nat) : (zeroB k).size = k := by simp [zeroB, ByteArray.size]
theorem append_zeros_eq {P : Program} (w : World) (t u ti ty e : TypeId) (i : TypeInfo) (q : IntKind) (ht : P.underlying t = some (.slice e)) (hu : P.underlying u = some .string) (hti : P.underlying ti = some (.int q)) (hi : P.info? e = some i) (hz : i.zero = some (.int .u8 0)) (hs : i.size = 1) (hb : i.bytes = 1)
    (A : Option Addr) (n c k : Nat) (hnc : n ≤ c) (hk : n + k ≤ 1000000) :
    (Builtin.append_ #[t, ti] ty #[.slice A n c, .int .i64 (k : Int)]).run P w = (Builtin.append_ #[t, u] ty #[.slice A n c, .string (zeroB k)]).run P w := by
  have hw : IntKind.i64.wrap (k : Int) = (k : Int) := by rw [IntKind.wrap_i64]; omega
  have hf : ∀ W, (Builtin.firstCells 1 k (.string (zeroB k))).run P W = .ok (Builtin.zeroCells #[.int .u8 0] k) W := fun W => by
    have h := Lib.run_firstCells_string (P := P) W 1 (zeroB k)
    rw [zeroB_size] at h
    rw [h]
    congr 1
    unfold Lib.strCells Builtin.zeroCells zeroB
    apply Array.ext'
    simp
    apply List.ext_getElem
    · simp
    · intro j h1 h2
      have : j % 1 = 0 := Nat.mod_one j
      simp [this]
  have hai : ∀ W, (asIntOf (.int .i64 (k : Int))).run P W = .ok (.i64, (k : Int)) W := fun _ => rfl
  have h0 : ¬ (k : Int) < 0 := by omega
  have h48 : ¬ (281474976710656 < (k : Int)) := by omega
  by_cases hk0 : k = 0
  · subst hk0
    have hz0 : Builtin.zeroCells #[Value.int .u8 0] 0 = #[] := by simp [Builtin.zeroCells]
    rw [hz0] at hf
    have hw0 : IntKind.i64.wrap 0 = 0 := rfl
    have hf0 : ∀ W, (Builtin.firstCells 1 0 (.string (zeroB 0))).run P W = .ok #[] W := hf
    have hai0 : ∀ W, (asIntOf (.int .i64 0)).run P W = .ok (.i64, 0) W := fun _ => rfl
    simp [Builtin.append_, Sem.run_bind, run_underlying ht, run_underlying hu, run_underlying hti, sizeOf, typeInfo, hi, hs, hb, Builtin.lenOf, zeroB_size, asInt, hai0, hw0, hnc, hf0]
  · by_cases hr : n + k ≤ c
    · simp [Builtin.append_, Sem.run_bind, run_underlying ht, run_underlying hu, run_underlying hti, sizeOf, typeInfo, zeroValue, hi, hs, hb, hz, Builtin.lenOf, zeroB_size, asInt, hai, hw, hr, hf, h48, hk0]
      rw [if_neg h0]
      rfl
    · have h63 : ¬ (9223372036854775807 < (n : Int) + (k : Int)) := by omega
      have hnx : ¬ (281474976710656 < Builtin.nextslicecap (n + k) c) := by
        have := Room.nextslicecap_le' (need := n + k) (old := c) (by omega)
        omega
      simp [Builtin.append_, Sem.run_bind, run_underlying ht, run_underlying hu, run_underlying hti, sizeOf, typeInfo, zeroValue, hi, hs, hb, hz, Builtin.lenOf, zeroB_size, asInt, hai, hw, hr, hf, h48, hk0, h63, hnx]
      rw [if_neg h0]
      rfl

/-- append(b, make([]byte, k)...) of bytes of one's own. -/
theorem wpList_append_z {P : Program} (w : World) {ops : Array Oper} {rest : List Oper} {o : Oper} {a : Act} {Q : Exit → Act → World → Prop} (hgd : o.guard = none) (sl x : Operand) (t ti u : TypeId)
    (ho : o.op = .call { callee := .builtin .append, args := #[sl, x], argTypes := #[t, ti] })
    (e : TypeId) (q : IntKind) (ht : P.underlying t = some (.slice e)) (hti : P.underlying ti = some (.int q)) (hu : P.underlying u = some .string) (hi : (P.info? e).map (fun i => (i.zero, i.size, i.bytes)) = some (some (.int .u8 0), 1, 1))
    (base : Nat) (A : Option Addr) (n c : Nat) (l : List UInt8) (hs : a.eval sl = .slice A n c) (hown : Ob w base e A n c l) (k : Nat) (hx : a.eval x = .int .i64 (k : Int))
    (hlen : n + k ≤ 1000000) (hbase : base ≤ w.heap.size)
    (h : ∀ A' c' w', Ob w' base e A' (n + k) c' (l ++ List.replicate k 0) → w.grownBy w' (ab A) → wpList P ops Q rest (a.put o.dst (.slice A' (n + k) c')) w') : wpList P ops Q (o :: rest) a w := by
  obtain ⟨i, hi0, hz, hsz, hby⟩ := info_parts hi
  refine wpList_plain hgd fun K hK => ?_
  have heq := append_zeros_eq (P := P) w t u ti o.type e i q ht hu hti hi0 hz hsz hby A n c k hown.rd.le hlen
  obtain ⟨v', w', hr, h2, h3, h4⟩ := Lib.run_append_own_string (P := P) w base t u o.type e i ht hu hi0 hz hsz hby (.slice A n c) n (l.map cb) hown (zeroB k) (by rw [zeroB_size]; unfold maxLen; omega) (by rw [zeroB_size]; omega) hbase
  rw [← heq] at hr
  rw [zeroB_size] at h2
  have hzl : (zeroB k).data.toList = List.replicate k 0 := by simp [zeroB]
  have h2' : w'.ownsRow base e 1 v' (n + k) ((l ++ List.replicate k 0).map cb) := by
    rw [List.map_append, ← hzl]
    exact h2
  rw [ownBlock_slice] at h3
  unfold Oper.wp execOp
  simp only [ho, resolve, invoke, builtin, Sem.run_bind, Sem.run_pure, Result.andThen_ok, List.map_toArray, List.map_cons, List.map_nil, hs, hx, hr]
  refine hK _ _ ?_
  rcases h2'.2 with ⟨hv, hn⟩ | ⟨g, cap, cur, hv, _⟩
  · rw [hv]
    have := h none 0 w' (by rw [hv] at h2'; rw [hn] at h2' ⊢; exact h2') h3
    rw [hn] at this
    exact this
  · rw [hv]
    exact h _ _ w' (by rw [hv] at h2'; exact h2') h3
end Go.Proofs.YtdgmhegcoogokaaDoor
