/- octet.Each: what it goes over, and its contract as an iterator. -/
import Derived.RangeFuncFrom
import Derived.RangeFuncBound
import Derived.RangeFuncCalls
import Derived.RangeFuncLeaves
import Derived.Shelf.Abstract
import Derived.Shelf.RegionOpen
import Derived.WalkKit
import Derived.OwnWalkIn
import Derived.TacticsInMore
import Derived.LoopNIn
import Derived.LoopIn
import Derived.Scope
import Derived.Test.YtjpegpoegcdmnaaOctF
import Derived.Test.YtjpegpoegcdmnaaSlice
namespace Go.Proofs.Ytjpegpoegcdmnaa
open Go.RowKit Go.Shelf
set_option linter.unusedVariables false

/-- The numbers from a place on: their places, and they. -/
inductive Chain (l : List UInt8) : Nat → List (Nat × Nat) → Prop
  | stop (i : Nat) : (readN (l.drop i)).2.2 ≠ 0 → Chain l i []
  | more (i x k : Nat) (rest : List (Nat × Nat)) : readN (l.drop i) = (x, k, 0) → 1 ≤ k → i + k ≤ l.length → x < 18446744073709551616 → Chain l (i + k) rest → Chain l i ((i, x) :: rest)

theorem Chain.all (l : List UInt8) : ∀ d i, i ≤ l.length → l.length - i ≤ d → ∃ xs, Chain l i xs := by
  intro d
  induction d with
  | zero =>
    intro i h1 h2
    refine ⟨[], .stop i ?_⟩
    rw [List.drop_eq_nil_of_le (by omega)]
    decide
  | succ d ih =>
    intro i h1 h2
    rcases readN_spec (l.drop i) with h | ⟨x, k, h, hk1, hk2, _, hx⟩
    · exact ⟨[], .stop i (by rw [h]; decide)⟩
    · rw [List.length_drop] at hk2
      obtain ⟨xs, hxs⟩ := ih (i + k) (by omega) (by omega)
      exact ⟨_, .more i x k xs h hk1 (by omega) hx hxs⟩
theorem Chain.length {l : List UInt8} {i : Nat} {xs : List (Nat × Nat)} (h : Chain l i xs) (hi : i ≤ l.length) : xs.length ≤ l.length - i := by
  induction h with
  | stop => simp
  | more i x k rest _ h1 h2 _ _ ih =>
    have := ih (by omega)
    simp; omega

theorem Each_any (A : Option Addr) (n c : Nat) (w : World) :
    Calls Try.prog 24 #[.slice A n c] w fun e w' => e = .returned (.func (.func 31) #[] #[.pointer (some ⟨w.heap.size, 0, none⟩)]) ∧ w' = w.alloc (.cells #[.slice A n c] 23) := by
  go_enter Try.func24, Try.ntmps24
  go_wp2
  go_ret
  exact ⟨rfl, rfl⟩

/-- A function is not nil. -/
theorem eql_func {P : Program} (t : TypeId) {a b : Array TypeId} {v : Bool} (ht : P.underlying t = some (.func a b v)) (f : Fn) (fs cs : Array Value) (w : World) : (binOp .eql t (.func f fs cs) .nilFunc).run P w = .ok (.bool false) w := by
  unfold binOp
  simp [go_sem]
  have : Op.maxDepth = 9999 + 1 := rfl
  rw [Op.equal, this, Op.equalIn]
  simp [go_sem, Sem.run_bind, run_underlying ht]

/-- How the iterator hands over a number. -/
def encN (x : Nat × Nat) : Array Value := #[.int .i64 (x.1 : Int), .int .u64 (x.2 : Int)]

theorem grown_of_below {w w' : World} (h : Below w.heap.size w w') : w.grownBy w' none := ⟨h.os, h.tape, h.output, h.size, fun k hk _ => h.block k hk⟩

attribute [local go_sem] Oper.semAt_some

set_option maxRecDepth 100000 in
set_option maxHeartbeats 2000000 in
theorem Each1_stops (V : World) (Bn : Nat) (A : Option Addr) (n c : Nat) (l : List UInt8) (xs : List (Nat × Nat)) (hB : V.cell? ⟨Bn, 0, none⟩ = some (.slice A n c)) (hr : Rd V A n c l) (hx : Chain l 0 xs)
    (m : Nat) (w : World) (hw : Below V.heap.size V w) :
    SeqStopsK Fence.wide m Try.prog 31 #[.pointer (some ⟨Bn, 0, none⟩)] encN (Below V.heap.size) (fun ys => ys = xs) (fun pre => pre <+: xs) xs.length w := fun L J Jx W hW hJ hJx hY h0 => by
  have hlen := hr.len
  have hcap := hr.cap
  have hle := hr.le
  have hBl : Bn < V.heap.size := World.block_lt_of_cell? V _ hB
  refine callsIn_of_wp Try.func31 rfl trivial ?_ rfl
  simp only [Try.ntmps31, List.size_toArray, List.length_cons, List.length_nil, Nat.reduceAdd, Nat.reduceSub, Array.replicate_succ, Array.replicate_zero, List.push_toArray, List.append_toArray, List.nil_append, List.cons_append]
  refine wpIn_wide.2 (wp_scope_straight (wpIn_wide (n := m).1 ?_))
  gi_wp2
  refine wpIn_label ?_
  gi_wp2
  gi_loopw [3] (fun p wr => ∃ (pre rest : List (Nat × Nat)) (i : Nat), p = .int .i64 (i : Int) ∧ i ≤ n ∧ xs = pre ++ rest ∧ Chain l i rest ∧ J pre wr ∧ Below V.heap.size V wr ∧ W.heap.size ≤ wr.heap.size)
    (fun p wr => n - (intOf p).toNat)
  case atStart => exact ⟨[], xs, 0, rfl, by omega, rfl, hx, h0, hw.trans (hW.mono hw.size), Nat.le_refl _⟩
  case round =>
    obtain ⟨pre, rest, i, rfl, hi, hxs, hch, hJs, hbw, hsz⟩ := hrel
    have SA := fun w' => run_slice_lo (P := Try.prog) 23 5 Try.underlying23 info_u8 A n c i hi hle w'
    have hc := (hbw.cell (p := ⟨Bn, 0, none⟩) hBl).trans hB
    have hrd := (hr.below hbw).cut i hi
    gi_wp2_with fail
    refine ⟨trivial, fun h => (by cases h), callsIn_wide.2 ?_⟩
    refine (ReadNumber_any _ _ _ _ _ hrd).mono ?_
    rintro e W1 ⟨rfl, hb1⟩
    have hJ1 := hJ pre wr W1 none hJs (grown_of_below hb1) (fun r e => by cases e)
    have hbw1 := hbw.trans (hb1.mono hbw.size)
    have hsz1 := Nat.le_trans hsz hb1.size
    cases hch with
    | stop _ hno =>
      have hd : (((readN (List.drop i l)).2.2 : Int) != 0) = true := by simp; omega
      gi_wp2
      refine ⟨fun _ h => (by cases h), ?_⟩
      gi_wp2
      simp only [Exit.noGoto]
      go_end0
      exact ⟨⟨_, rfl⟩, .inl ⟨pre, by simp [hxs], hJ1⟩⟩
    | more _ x k rest hre hk1 hk2 hx2 hch =>
      rw [hre]
      obtain ⟨fn, tmps, assign, body, hy, hR⟩ := hY pre (i, x) W1 hJ1 (by rw [hxs]; simp)
      dsimp only [encN] at hy
      gi_wp2
      refine ⟨fun h => (by cases h), ?_⟩
      refine hR.mono ?_
      rintro e W3 (⟨rfl, hJ3, hk3⟩ | ⟨rfl, hJx3⟩)
      · gi_wp2
        exact ⟨⟨pre ++ [(i, x)], rest, i + k, by simp, by omega, by simp [hxs], hch, hJ3, hbw1.trans hk3, Nat.le_trans hsz1 hk3.size⟩, by simp [intOf]; omega⟩
      · gi_wp2
        simp only [Exit.noGoto]
        go_end0
        exact ⟨⟨_, rfl⟩, .inr ⟨pre ++ [(i, x)], ⟨rest, by simp [hxs]⟩, hJx3⟩⟩
end Go.Proofs.Ytjpegpoegcdmnaa
