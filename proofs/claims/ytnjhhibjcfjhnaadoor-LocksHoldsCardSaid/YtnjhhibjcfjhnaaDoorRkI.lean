/- The reference's Ask: all of it. -/
import Derived.Test.YtnjhhibjcfjhnaaDoorRkH
namespace Go.Proofs.YtnjhhibjcfjhnaaDoor
open Go.RowKit
set_option linter.unusedVariables false

set_option maxRecDepth 100000 in
set_option maxHeartbeats 8000000 in
theorem RAskNo_any {w : World} {base : Nat} {now : Int} {A : Option Addr} {n c : Nat} {xs : List Ak} (h : RK w base A n c xs) (s wait : Int) (first : Bool) (D : Option Addr) (m d : Nat) (ws : List Wt) (hr : Rv w 2 D m d (wcells ws)) (hk : askedK s wait ws xs ≠ 0) :
    Calls Tryd.prog 40 #[.agg #[.int .i64 now, .slice A n c], .int .i64 s, .bool first, .int .i64 wait, .slice D m d] w fun e w' =>
      e = .returned (.tuple #[.agg #[.int .i64 now, .slice A n c], .bool false, .int .i64 (askedK s wait ws xs)]) ∧ Below w.heap.size w w' := by
  have hb0 : Below w.heap.size w (w.alloc (.cells #[.int .i64 now, .slice A n c] 45)) := (Below.refl _ _).alloc (Nat.le_refl _) _
  have hb1 : Below (w.alloc (.cells #[.int .i64 now, .slice A n c] 45)).heap.size (w.alloc (.cells #[.int .i64 now, .slice A n c] 45)) ((w.alloc (.cells #[.int .i64 now, .slice A n c] 45)).alloc (.cells #[.int .i64 0, .slice none 0 0] 45)) := (Below.refl _ _).alloc (Nat.le_refl _) _
  have kx := (hb1.block w.heap.size (by simp)).trans (World.alloc_heap_new w (.cells #[.int .i64 now, .slice A n c] 45))
  have kr := World.alloc_heap_new (w.alloc (.cells #[.int .i64 now, .slice A n c] 45)) (.cells #[.int .i64 0, .slice none 0 0] 45)
  rw [World.size_alloc] at kr
  have hQ2 : QA w _ now A n c := ⟨gr hb0 hb1, kx, kr, by simp⟩
  clear hb0 hb1 kx kr
  have hat := Lib.hid (fun W (hW : Below w.heap.size w W) => RAt_any A n c xs now s W (h.own.rv.below hW))
  have hri := (fun W (hW : Below w.heap.size w W) => RRight_any D m d ws W (hr.below hW))
  clear h hr
  cases q1 : decide (s < 1) with
  | true =>
    have hth : thereK s = false := by unfold thereK; simp at q1 ⊢; omega
    clear hk
    rw [show askedK s wait ws xs = 2 from by unfold askedK; rw [hth]; simp]
    clear hat
    go_enter Tryd.func40, Tryd.ntmps40
    go_upto_region 1 with fail
    generalize ((w.alloc (.cells #[.int .i64 now, .slice A n c] 45)).alloc (.cells #[.int .i64 0, .slice none 0 0] 45)) = w2 at *
    have ⟨cx, fx⟩ := box_cells hQ2.kx
    have ⟨cr3, fr3⟩ := box_cells hQ2.kr
    have q2 := heap_set1 (v' := .slice A n c) (heap_set0 (u' := .int .i64 now) hQ2.kr)
    have c3 := (box_cells q2).1
    have hB7 := (hQ2.bel.setCell (p := ⟨w.heap.size + 1, 0, none⟩) (Nat.le_succ _) (.int .i64 now)).setCell (p := ⟨w.heap.size + 1, 1, none⟩) (Nat.le_succ _) (.slice A n c)
    clear q2 hQ2
    replace hB7 := Lib.hid hB7
    replace hri := Lib.hid hri
    go_wp2
    refine bodyPost_ret (results_l2 rfl _ _ rfl rfl rfl c3.1 c3.2) rfl ?_
    exact ⟨rfl, hB7.out⟩
  | false =>
    cases q2 : decide (16 < s) with
    | true =>
      have hth : thereK s = false := by unfold thereK; simp at q2 ⊢; omega
      clear hk
      rw [show askedK s wait ws xs = 2 from by unfold askedK; rw [hth]; simp]
      clear hat
      go_enter Tryd.func40, Tryd.ntmps40
      go_upto_region 1 with fail
      generalize ((w.alloc (.cells #[.int .i64 now, .slice A n c] 45)).alloc (.cells #[.int .i64 0, .slice none 0 0] 45)) = w2 at *
      have ⟨cx, fx⟩ := box_cells hQ2.kx
      have ⟨cr3, fr3⟩ := box_cells hQ2.kr
      have q2 := heap_set1 (v' := .slice A n c) (heap_set0 (u' := .int .i64 now) hQ2.kr)
      have c3 := (box_cells q2).1
      have hB7 := (hQ2.bel.setCell (p := ⟨w.heap.size + 1, 0, none⟩) (Nat.le_succ _) (.int .i64 now)).setCell (p := ⟨w.heap.size + 1, 1, none⟩) (Nat.le_succ _) (.slice A n c)
      clear q2 hQ2
      replace hB7 := Lib.hid hB7
      replace hri := Lib.hid hri
      go_wp2
      refine bodyPost_ret (results_l2 rfl _ _ rfl rfl rfl c3.1 c3.2) rfl ?_
      exact ⟨rfl, hB7.out⟩
    | false =>
      have hth : thereK s = true := by unfold thereK; simp at q1 q2 ⊢; omega
      cases q3 : decide (wait < 1) with
      | true =>
        clear hk
        rw [show askedK s wait ws xs = 2 from by unfold askedK; rw [q3, Bool.or_true]; simp]
        clear hat
        go_enter Tryd.func40, Tryd.ntmps40
        go_upto_region 1 with fail
        generalize ((w.alloc (.cells #[.int .i64 now, .slice A n c] 45)).alloc (.cells #[.int .i64 0, .slice none 0 0] 45)) = w2 at *
        have ⟨cx, fx⟩ := box_cells hQ2.kx
        have ⟨cr3, fr3⟩ := box_cells hQ2.kr
        have q2 := heap_set1 (v' := .slice A n c) (heap_set0 (u' := .int .i64 now) hQ2.kr)
        have c3 := (box_cells q2).1
        have hB7 := (hQ2.bel.setCell (p := ⟨w.heap.size + 1, 0, none⟩) (Nat.le_succ _) (.int .i64 now)).setCell (p := ⟨w.heap.size + 1, 1, none⟩) (Nat.le_succ _) (.slice A n c)
        clear q2 hQ2
        replace hB7 := Lib.hid hB7
        replace hri := Lib.hid hri
        go_wp2
        refine bodyPost_ret (results_l2 rfl _ _ rfl rfl rfl c3.1 c3.2) rfl ?_
        exact ⟨rfl, hB7.out⟩
      | false =>
        cases q4 : decide (1000 < wait) with
        | true =>
          clear hk
          rw [show askedK s wait ws xs = 2 from by unfold askedK; rw [q4, Bool.or_true]; simp]
          clear hat
          go_enter Tryd.func40, Tryd.ntmps40
          go_upto_region 1 with fail
          generalize ((w.alloc (.cells #[.int .i64 now, .slice A n c] 45)).alloc (.cells #[.int .i64 0, .slice none 0 0] 45)) = w2 at *
          have ⟨cx, fx⟩ := box_cells hQ2.kx
          have ⟨cr3, fr3⟩ := box_cells hQ2.kr
          have q2 := heap_set1 (v' := .slice A n c) (heap_set0 (u' := .int .i64 now) hQ2.kr)
          have c3 := (box_cells q2).1
          have hB7 := (hQ2.bel.setCell (p := ⟨w.heap.size + 1, 0, none⟩) (Nat.le_succ _) (.int .i64 now)).setCell (p := ⟨w.heap.size + 1, 1, none⟩) (Nat.le_succ _) (.slice A n c)
          clear q2 hQ2
          replace hB7 := Lib.hid hB7
          replace hri := Lib.hid hri
          go_wp2
          refine bodyPost_ret (results_l2 rfl _ _ rfl rfl rfl c3.1 c3.2) rfl ?_
          exact ⟨rfl, hB7.out⟩
        | false =>
          cases q5 : rightK ws with
          | false =>
            rw [show askedK s wait ws xs = 2 from by unfold askedK; rw [q5]; simp]
            rw [q5] at hri
            clear hk hat q5 hth
            replace hri := Lib.hid hri
            go_enter Tryd.func40, Tryd.ntmps40
            go_upto_region 1 with fail
            generalize ((w.alloc (.cells #[.int .i64 now, .slice A n c] 45)).alloc (.cells #[.int .i64 0, .slice none 0 0] 45)) = w2 at *
            go_wp2_with fail
            refine (hri.out w2 hQ2.bel).mono ?_
            rintro e w3 ⟨rfl, hb3⟩
            have hQ3 := hQ2.more hb3
            clear hri hQ2 hb3
            have ⟨cx3, fx3⟩ := box_cells hQ3.kx
            have ⟨cr3, fr3⟩ := box_cells hQ3.kr
            have q2 := heap_set1 (v' := .slice A n c) (heap_set0 (u' := .int .i64 now) hQ3.kr)
            have c3 := (box_cells q2).1
            have hB7 := (hQ3.bel.setCell (p := ⟨w.heap.size + 1, 0, none⟩) (Nat.le_succ _) (.int .i64 now)).setCell (p := ⟨w.heap.size + 1, 1, none⟩) (Nat.le_succ _) (.slice A n c)
            clear q2 hQ3
            replace hB7 := Lib.hid hB7
            go_wp2
            refine bodyPost_ret (results_l2 rfl _ _ rfl rfl rfl c3.1 c3.2) rfl ?_
            exact ⟨rfl, hB7.out⟩
          | true =>
            have hany : xs.any (isS s) = true := by
              cases e : xs.any (isS s) with
              | true => rfl
              | false =>
                exfalso
                apply hk
                unfold askedK
                rw [q5, q4, q3, hth, e]
                rfl
            have hix := idxL_any (isS s) xs
            rw [hany] at hix
            rw [show askedK s wait ws xs = 260 from by unfold askedK; rw [q5, q4, q3, hth, hany]; rfl]
            rw [q5] at hri
            clear hk q5 hth hany
            replace hri := Lib.hid hri
            generalize idxL (isS s) xs = z at *
            go_enter Tryd.func40, Tryd.ntmps40
            go_upto_region 1 with fail
            generalize ((w.alloc (.cells #[.int .i64 now, .slice A n c] 45)).alloc (.cells #[.int .i64 0, .slice none 0 0] 45)) = w2 at *
            go_wp2_with fail
            refine (hri.out w2 hQ2.bel).mono ?_
            rintro e w3 ⟨rfl, hb3⟩
            have hQ3 := hQ2.more hb3
            clear hri hQ2 hb3
            have ⟨cx, fx⟩ := box_cells hQ3.kx
            go_wp2_with fail
            refine (hat.out w3 hQ3.bel).mono ?_
            rintro e w4 ⟨rfl, hb4⟩
            have hQ4 := hQ3.more hb4
            clear hat hQ3 hb4 cx fx
            have ⟨cx3, fx3⟩ := box_cells hQ4.kx
            have ⟨cr3, fr3⟩ := box_cells hQ4.kr
            have q2 := heap_set1 (v' := .slice A n c) (heap_set0 (u' := .int .i64 now) hQ4.kr)
            have c3 := (box_cells q2).1
            have hB7 := (hQ4.bel.setCell (p := ⟨w.heap.size + 1, 0, none⟩) (Nat.le_succ _) (.int .i64 now)).setCell (p := ⟨w.heap.size + 1, 1, none⟩) (Nat.le_succ _) (.slice A n c)
            clear q2 hQ4
            replace hB7 := Lib.hid hB7
            go_wp2
            refine bodyPost_ret (results_l2 rfl _ _ rfl rfl rfl c3.1 c3.2) rfl ?_
            exact ⟨rfl, hB7.out⟩
theorem RAsk_any {w : World} {base : Nat} {now : Int} {A : Option Addr} {n c : Nat} {xs : List Ak} (h : RK w base A n c xs) (hbs : base ≤ w.heap.size) (s wait : Int) (first : Bool) (D : Option Addr) (m d : Nat) (ws : List Wt) (hr : Rv w 2 D m d (wcells ws)) (hn : n < 19) :
    Calls Tryd.prog 40 #[.agg #[.int .i64 now, .slice A n c], .int .i64 s, .bool first, .int .i64 wait, .slice D m d] w fun e w' =>
      (askedK s wait ws xs ≠ 0 ∧ e = .returned (.tuple #[.agg #[.int .i64 now, .slice A n c], .bool false, .int .i64 (askedK s wait ws xs)]) ∧ Below w.heap.size w w') ∨
      (askedK s wait ws xs = 0 ∧ ∃ A' c' D' d', e = .returned (.tuple #[.agg #[.int .i64 now, .slice A' (n + 1) c'], .bool (heldK s (settleK (xs ++ [newAk s now wait first ws D' m d'])).1), .int .i64 0]) ∧
        RK w' base A' (n + 1) c' (settleK (xs ++ [newAk s now wait first ws D' m d'])).1 ∧ Below w.heap.size w w') := by
  by_cases hk : askedK s wait ws xs = 0
  · exact (RAskGo_any h hbs s wait first D m d ws hr hn hk).mono fun e w' q => .inr ⟨hk, q⟩
  · exact (RAskNo_any h s wait first D m d ws hr hk).mono fun e w' q => .inl ⟨hk, q⟩
end Go.Proofs.YtnjhhibjcfjhnaaDoor
