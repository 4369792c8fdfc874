/- Locks: what is refused; Ask. -/
import Derived.Test.YtnjhhibjcfjhnaaDoorLkE
import Derived.Test.YtnjhhibjcfjhnaaDoorRegC
namespace Go.Proofs.YtnjhhibjcfjhnaaDoor
open Go.RowKit
set_option linter.unusedVariables false

def faultV (s k : Int) : Value := if k = 0 then .nilIface else .iface 83 (.agg #[.int .i64 s, .int .i64 k])
set_option maxRecDepth 100000 in
theorem Unwrap_any (s k : Int) (w : World) : Calls Tryd.prog 103 #[.agg #[.int .i64 s, .int .i64 k]] w fun e w' => e = .returned (.iface 32 (.int .i64 k)) ∧ Below w.heap.size w w' := by
  go_enter Tryd.func103, Tryd.ntmps103
  go_wp2
  go_ret
  exact ⟨rfl, gr_alloc (Below.refl _ _) _⟩
theorem Number_any (s k : Int) (w : World) (hE : Env w) (hk : k ≠ 0) : Calls Tryd.prog 30 #[faultV s k] w fun e w' => e = .returned (.int .i64 k) ∧ Below w.heap.size w w' := by
  unfold faultV
  rw [if_neg hk]
  exact number_fault #[.int .i64 s, .int .i64 k] k w hE (Unwrap_any s k)

/-- Why an ask is refused; 0: it is not. -/
def askedK (s wait : Int) (ws : List Wt) (xs : List Ak) : Int :=
  if !(thereK s) || decide (wait < 1) || decide (1000 < wait) || !(rightK ws) then 2 else if xs.any (isS s) then 260 else 0
set_option maxRecDepth 100000 in
set_option maxHeartbeats 2000000 in
theorem Asked_any {w : World} {base B : Nat} {now : Int} {A : Option Addr} {n c : Nat} {xs : List Ak} (h : LK w base B now A n c xs) (s wait : Int) (D : Option Addr) (m d : Nat) (ws : List Wt) (hr : Rv w 2 D m d (wcells ws)) :
    Calls Tryd.prog 29 #[.pointer (some ⟨B, 0, none⟩), .int .i64 s, .int .i64 wait, .slice D m d] w fun e w' => e = .returned (faultV s (askedK s wait ws xs)) ∧ Below w.heap.size w w' := by
  have hth := Lib.hid (There_any s)
  have hri := Lib.hid (Right_any D m d ws w hr)
  have hat := Lib.hid (fun W (hW : Below w.heap.size w W) => At_any (h.below hW) s)
  have hge := idxL_any (isS s) xs
  unfold askedK
  clear hr h
  generalize idxL (isS s) xs = z at *
  generalize xs.any (isS s) = y at *
  generalize thereK s = t at *
  generalize rightK ws = r at *
  cases t with
  | false =>
    simp only [Bool.not_false, Bool.true_or, if_true]
    go_enter Tryd.func29, Tryd.ntmps29
    go_wp2_with (go_at_call 34; refine (hth.out _).mono ?_; rintro e w1 ⟨rfl, rfl⟩)
    go_ret
    exact ⟨rfl, Below.refl _ _⟩
  | true =>
    simp only [Bool.not_true, Bool.false_or]
    by_cases h1 : wait < 1
    · have d1 : decide (wait < 1) = true := decide_eq_true h1
      rw [d1]
      simp only [Bool.true_or, if_true]
      go_enter Tryd.func29, Tryd.ntmps29
      go_wp2_with (go_at_call 34; refine (hth.out _).mono ?_; rintro e w1 ⟨rfl, rfl⟩)
      go_ret
      exact ⟨rfl, Below.refl _ _⟩
    · have d1 : decide (wait < 1) = false := decide_eq_false h1
      rw [d1, Bool.false_or]
      by_cases h2 : 1000 < wait
      · have d2 : decide (1000 < wait) = true := decide_eq_true h2
        rw [d2]
        simp only [Bool.true_or, if_true]
        go_enter Tryd.func29, Tryd.ntmps29
        go_wp2_with (go_at_call 34; refine (hth.out _).mono ?_; rintro e w1 ⟨rfl, rfl⟩)
        go_ret
        exact ⟨rfl, Below.refl _ _⟩
      · have d2 : decide (1000 < wait) = false := decide_eq_false h2
        rw [d2, Bool.false_or]
        cases r with
        | false =>
          simp only [Bool.not_false, if_true]
          go_enter Tryd.func29, Tryd.ntmps29
          go_wp2_with (first | (go_at_call 34; refine (hth.out _).mono ?_; rintro e w1 ⟨rfl, rfl⟩) | (go_at_call 50; refine hri.out.mono ?_; rintro e w1 ⟨rfl, hb1⟩))
          go_ret
          exact ⟨rfl, hb1⟩
        | true =>
          simp only [Bool.not_true, Bool.false_eq_true, if_false]
          cases y with
          | true =>
            simp only [if_true]
            go_enter Tryd.func29, Tryd.ntmps29
            go_wp2_with (first | (go_at_call 34; refine (hth.out _).mono ?_; rintro e w1 ⟨rfl, rfl⟩) | (go_at_call 50; refine hri.out.mono ?_; rintro e w1 ⟨rfl, hb1⟩) | (go_at_call 33; refine (hat.out _ hb1).mono ?_; rintro e w2 ⟨rfl, hb2⟩))
            go_ret
            exact ⟨rfl, gr hb1 hb2⟩
          | false =>
            simp only [Bool.false_eq_true, if_false]
            go_enter Tryd.func29, Tryd.ntmps29
            go_wp2_with (first | (go_at_call 34; refine (hth.out _).mono ?_; rintro e w1 ⟨rfl, rfl⟩) | (go_at_call 50; refine hri.out.mono ?_; rintro e w1 ⟨rfl, hb1⟩) | (go_at_call 33; refine (hat.out _ hb1).mono ?_; rintro e w2 ⟨rfl, hb2⟩))
            go_ret
            exact ⟨rfl, gr hb1 hb2⟩
end Go.Proofs.YtnjhhibjcfjhnaaDoor
