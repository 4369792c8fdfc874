/- convert.Ways: all ways, in order: the contract of the iterator. -/
import Derived.RangeFuncFrom
import Derived.RangeFuncBound
import Derived.RangeFuncCalls
import Derived.RangeFuncLeaves
import Derived.Shelf.Abstract
import Derived.Shelf.RegionOpen
import Derived.WalkKit
import Derived.OwnWalkIn
import Derived.TacticsInMore
import Derived.LoopNIn
import Derived.LoopIn
import Derived.Scope
import Derived.RangeFuncNested
import Derived.RangeFuncBox
import Derived.Test.YtagoooclfcbdeaaGreatDoorCvI
import Derived.Test.YtagoooclfcbdeaaGreatDoorRange
namespace Go.Proofs.YtagoooclfcbdeaaGreatDoor
open Go.RowKit Go.Shelf
set_option linter.unusedVariables false

/-- All ways. -/
def prsW : List (Int × Int) := [(1, 1), (1, 2), (1, 3), (1, 4), (2, 1), (2, 2), (2, 3), (2, 4), (3, 1), (3, 2), (3, 3), (4, 1), (4, 2), (4, 4)]
/-- Those from a place on. -/
def fromP (a b : Nat) : List (Int × Int) := prsW.filter fun p => decide ((a : Int) + 1 < p.1 ∨ (p.1 = (a : Int) + 1 ∧ (b : Int) < p.2))
theorem fromP_next : ∀ a, a < 4 → ∀ b, b < 4 → fromP a b = if wayV ((a : Int) + 1) ((b : Int) + 1) then ((a : Int) + 1, (b : Int) + 1) :: fromP a (b + 1) else fromP a (b + 1) := by decide
theorem fromP_row : ∀ a, a < 4 → fromP a 4 = fromP (a + 1) 0 := by decide
theorem fromP_all : fromP 0 0 = prsW := by decide
theorem fromP_none : fromP 4 0 = [] := by decide
/-- How the iterator hands over a way. -/
def encP (p : Int × Int) : Array Value := #[.int .i64 p.1, .int .i64 p.2]
theorem cWays_any (w : World) : Calls Tryz.prog 21 #[] w fun e w' => e = .returned (.func (.func 37) #[] #[]) ∧ w' = w := by
  go_enter Tryz.func21, Tryz.ntmps21
  go_wp2
  go_ret
  exact ⟨rfl, rfl⟩
theorem eql_func {P : Program} (t : TypeId) {a b : Array TypeId} {v : Bool} (ht : P.underlying t = some (.func a b v)) (f : Fn) (fs cs : Array Value) (w : World) : (binOp .eql t (.func f fs cs) .nilFunc).run P w = .ok (.bool false) w := by
  unfold binOp
  simp [go_sem]
  have : Op.maxDepth = 9999 + 1 := rfl
  rw [Op.equal, this, Op.equalIn]
  simp [go_sem, Sem.run_bind, run_underlying ht]
theorem grown_of_below {w w' : World} (h : Below w.heap.size w w') : w.grownBy w' none := ⟨h.os, h.tape, h.output, h.size, fun k hk _ => h.block k hk⟩

attribute [local go_sem] Oper.semAt_some
set_option maxRecDepth 100000 in
set_option maxHeartbeats 2000000 in
theorem Ways1_stops (V : World) (m : Nat) (w : World) (hw : Below V.heap.size V w) :
    SeqStopsK Fence.wide m Tryz.prog 37 #[] encP (Below V.heap.size) (fun ys => ys = prsW) (fun pre => pre <+: prsW) prsW.length w := fun L J Jx W hW hJ hJx hY h0 => by
  have hVW := hw.trans (hW.mono hw.size)
  refine callsIn_of_wp Tryz.func37 rfl trivial ?_ rfl
  simp only [Tryz.ntmps37, List.size_toArray, List.length_cons, List.length_nil, Nat.reduceAdd, Nat.reduceSub, Array.replicate_succ, Array.replicate_zero, List.push_toArray, List.append_toArray, List.nil_append, List.cons_append]
  refine wpIn_wide.2 (wp_scope_straight (wpIn_wide (n := m).1 ?_))
  gi_wp2
  refine wpIn_label ?_
  gi_wp2
  gi_loopw [4] (fun p wr => ∃ (pre : List (Int × Int)) (a : Nat), p = .int .i64 (a : Int) ∧ a ≤ 4 ∧ prsW = pre ++ fromP a 0 ∧ J pre wr ∧ Below V.heap.size V wr)
    (fun p wr => 4 - (intOf p).toNat)
  case atStart => exact ⟨[], 0, rfl, by omega, by rw [fromP_all]; rfl, h0, hVW⟩
  case round =>
    obtain ⟨pre, a, rfl, ha, hxs, hJs, hbw⟩ := hrel
    by_cases hlt : a < 4
    · have hq : decide ((a : Int) < 4) = true := by simp; omega
      have hrow := fromP_row a hlt
      have hnx := fun b hb => fromP_next a hlt b hb
      have hwr : IntKind.i64.wrap ((a : Int) + 1) = (a : Int) + 1 := by rw [IntKind.wrap_i64]; omega
      replace hrow := Lib.hid hrow
      replace hnx := Lib.hid hnx
      gi_wp2
      gi_loopw [7] (fun p wr => ∃ (pre : List (Int × Int)) (b : Nat), p = .int .i64 (b : Int) ∧ b ≤ 4 ∧ prsW = pre ++ fromP a b ∧ J pre wr ∧ Below V.heap.size V wr)
        (fun p wr => 4 - (intOf p).toNat)
      case atStart => exact ⟨pre, 0, rfl, by omega, hxs, hJs, hbw⟩
      case round =>
        clear hxs hJs hbw
        obtain ⟨pre, b, rfl, hb, hxs, hJs, hbw⟩ := hrel
        by_cases hlt2 : b < 4
        · have hq2 : decide ((b : Int) < 4) = true := by simp; omega
          have hn := hnx.out b hlt2
          have hWy := Lib.hid (fun W => way_any ((a : Int) + 1) ((b : Int) + 1) W)
          gi_wp2_with fail
          refine ⟨trivial, fun h => (by cases h), callsIn_wide.2 ?_⟩
          refine (hWy.out _).mono ?_
          rintro e W1 ⟨rfl, hb1⟩
          have hJ1 := hJ pre _ W1 none hJs (grown_of_below hb1) (fun r e => by cases e)
          have hbw1 := hbw.trans (hb1.mono hbw.size)
          clear hWy hb1
          cases hy : wayV ((a : Int) + 1) ((b : Int) + 1) with
          | false =>
            rw [hy, if_neg (by decide)] at hn
            rw [hn] at hxs
            replace hxs := Lib.hid hxs
            clear hn hy
            gi_wp2
            refine ⟨fun _ h => (by cases h), ?_⟩
            gi_wp2
            exact ⟨⟨pre, b + 1, by simp, by omega, hxs.out, hJ1, hbw1⟩, by simp [intOf]; omega⟩
          | true =>
            rw [hy, if_pos rfl] at hn
            rw [hn] at hxs
            obtain ⟨fn, tmps, assign, body, hyy, hR⟩ := hY pre ((a : Int) + 1, (b : Int) + 1) W1 hJ1 (by rw [hxs]; simp)
            dsimp only [encP] at hyy
            replace hxs := Lib.hid hxs
            clear hn hy
            gi_wp2
            refine ⟨fun h => (by cases h), ?_⟩
            refine hR.mono ?_
            rintro e W3 (⟨rfl, hJ3, hk3⟩ | ⟨rfl, hJx3⟩)
            · gi_wp2
              exact ⟨⟨pre ++ [((a : Int) + 1, (b : Int) + 1)], b + 1, by simp, by omega, by rw [hxs.out]; simp, hJ3, hbw1.trans hk3⟩, by simp [intOf]; omega⟩
            · gi_wp2
              simp only [Exit.noGoto]
              go_end0
              exact ⟨⟨_, rfl⟩, .inr ⟨pre ++ [((a : Int) + 1, (b : Int) + 1)], ⟨fromP a (b + 1), by rw [hxs.out]; simp⟩, hJx3⟩⟩
        · obtain rfl : b = 4 := by omega
          rw [hrow.out] at hxs
          replace hxs := Lib.hid hxs
          gi_wp2
          exact ⟨⟨pre, a + 1, by simp, by omega, hxs.out, hJs, hbw⟩, by simp [intOf]; omega⟩
    · obtain rfl : a = 4 := by omega
      rw [fromP_none, List.append_nil] at hxs
      replace hxs := Lib.hid hxs
      gi_wp2
      simp only [Exit.noGoto]
      go_end0
      exact ⟨⟨_, rfl⟩, .inl ⟨pre, hxs.out.symm, hJs⟩⟩
end Go.Proofs.YtagoooclfcbdeaaGreatDoor
