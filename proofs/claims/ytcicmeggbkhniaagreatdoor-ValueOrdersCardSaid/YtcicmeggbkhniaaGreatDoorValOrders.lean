/- ValueOrders: true, whatever the two values and the two lists. -/
import Derived.Test.YtcicmeggbkhniaaGreatDoorWorks1
import Derived.Test.YtcicmeggbkhniaaGreatDoorRefC
namespace Go.Proofs.YtcicmeggbkhniaaGreatDoor
open Go.RowKit
set_option linter.unusedVariables false
attribute [local go_sem] strL_toList strL_size

set_option maxRecDepth 100000 in
set_option maxHeartbeats 4000000 in
theorem ValueOrders_walk (a b : Vl) (A : Option Addr) (n c : Nat) (xs : List Vl) (B : Option Addr) (m d : Nat) (ys : List Vl) (w : World) (hE : Env w) (ha : a.Wf) (hb : b.Wf) (hr : Rv w 4 A n c (vcells xs)) (hq : Rv w 4 B m d (vcells ys)) :
    Calls Tryz.prog 6 #[a.val, b.val, .slice A n c, .slice B m d] w fun e w' => e = .returned (.bool true) ∧ Below w.heap.size w w' := by
  have hal := ha.sl
  have hbl := hb.sl
  obtain ⟨ak, ai, au, aS⟩ := a
  obtain ⟨bk, bi, bu, bS⟩ := b
  simp only at hal hbl
  simp only [Vl.val, valV]
  have hb1 : Below w.heap.size w (((w.alloc (.cells #[.int .i64 ak, .int .i64 ai, .int .u64 au, .string (strL aS)] 25)).alloc (.cells #[.int .i64 bk, .int .i64 bi, .int .u64 bu, .string (strL bS)] 25)).alloc (.cells (vcells [⟨ak, ai, au, aS⟩, ⟨bk, bi, bu, bS⟩]).toArray 25)) := (((Below.refl _ w).alloc (Nat.le_refl _) _).alloc (by simp) _).alloc (by simp; omega) _
  have hvA := ((VBox.new w ak ai au (strL aS)).below ((Below.refl _ _).alloc (Nat.le_refl _) (.cells #[.int .i64 bk, .int .i64 bi, .int .u64 bu, .string (strL bS)] 25)) (by simp)).below ((Below.refl _ _).alloc (Nat.le_refl _) (.cells (vcells [⟨ak, ai, au, aS⟩, ⟨bk, bi, bu, bS⟩]).toArray 25)) (by simp; omega)
  have hvB := (VBox.new (w.alloc (.cells #[.int .i64 ak, .int .i64 ai, .int .u64 au, .string (strL aS)] 25)) bk bi bu (strL bS)).below ((Below.refl _ _).alloc (Nat.le_refl _) (.cells (vcells [⟨ak, ai, au, aS⟩, ⟨bk, bi, bu, bS⟩]).toArray 25)) (by simp)
  rw [show (w.alloc (.cells #[.int .i64 ak, .int .i64 ai, .int .u64 au, .string (strL aS)] 25)).heap.size = w.heap.size + 1 from by simp] at hvB
  have hfew := few_any _ 2 2 [⟨ak, ai, au, aS⟩, ⟨bk, bi, bu, bS⟩] 2 _ (lit_rv ((w.alloc (.cells #[.int .i64 ak, .int .i64 ai, .int .u64 au, .string (strL aS)] 25)).alloc (.cells #[.int .i64 bk, .int .i64 bi, .int .u64 bu, .string (strL bS)] 25)) 25 [⟨ak, ai, au, aS⟩, ⟨bk, bi, bu, bS⟩] (by unfold maxLen; simp)) (by decide)
  rw [show ((w.alloc (.cells #[.int .i64 ak, .int .i64 ai, .int .u64 au, .string (strL aS)] 25)).alloc (.cells #[.int .i64 bk, .int .i64 bi, .int .u64 bu, .string (strL bS)] 25)).heap.size = w.heap.size + 1 + 1 from by simp] at hfew
  replace hfew := Lib.hid hfew
  have hE1 := hE.below hb1
  have hr1 := hr.below hb1
  have hq1 := hq.below hb1
  by_cases hf0 : fewV [⟨ak, ai, au, aS⟩, ⟨bk, bi, bu, bS⟩] 2 = false
  · skip
    go_enter Tryz.func6, Tryz.ntmps6
    go_wp2_with fail
    refine hfew.out.mono ?_
    rw [hf0]
    rintro e w' ⟨rfl, rfl⟩
    generalize (((w.alloc (.cells #[.int .i64 ak, .int .i64 ai, .int .u64 au, .string (strL aS)] 25)).alloc (.cells #[.int .i64 bk, .int .i64 bi, .int .u64 bu, .string (strL bS)] 25)).alloc (.cells (vcells [⟨ak, ai, au, aS⟩, ⟨bk, bi, bu, bS⟩]).toArray 25)) = w1 at *
    clear hfew
    go_wp2_with (go_at_call 9; refine (works_any _ hE1).mono ?_; rintro e w' ⟨rfl, hb5⟩)
    go_ret
    exact ⟨rfl, gr hb1 hb5⟩
  replace hf0 : fewV [⟨ak, ai, au, aS⟩, ⟨bk, bi, bu, bS⟩] 2 = true := by simpa using hf0
  by_cases hf1 : fewV xs 10 = false
  · skip
    go_enter Tryz.func6, Tryz.ntmps6
    go_wp2_with fail
    refine hfew.out.mono ?_
    rw [hf0]
    rintro e w' ⟨rfl, rfl⟩
    generalize (((w.alloc (.cells #[.int .i64 ak, .int .i64 ai, .int .u64 au, .string (strL aS)] 25)).alloc (.cells #[.int .i64 bk, .int .i64 bi, .int .u64 bu, .string (strL bS)] 25)).alloc (.cells (vcells [⟨ak, ai, au, aS⟩, ⟨bk, bi, bu, bS⟩]).toArray 25)) = w1 at *
    clear hfew
    go_wp2_with fail
    refine (few_any A n c xs 10 _ hr1 (by decide)).mono ?_
    rw [hf1]
    rintro e w' ⟨rfl, rfl⟩
    go_wp2_with (go_at_call 9; refine (works_any _ hE1).mono ?_; rintro e w' ⟨rfl, hb5⟩)
    go_ret
    exact ⟨rfl, gr hb1 hb5⟩
  replace hf1 : fewV xs 10 = true := by simpa using hf1
  by_cases hf2 : fewV ys 10 = false
  · skip
    go_enter Tryz.func6, Tryz.ntmps6
    go_wp2_with fail
    refine hfew.out.mono ?_
    rw [hf0]
    rintro e w' ⟨rfl, rfl⟩
    generalize (((w.alloc (.cells #[.int .i64 ak, .int .i64 ai, .int .u64 au, .string (strL aS)] 25)).alloc (.cells #[.int .i64 bk, .int .i64 bi, .int .u64 bu, .string (strL bS)] 25)).alloc (.cells (vcells [⟨ak, ai, au, aS⟩, ⟨bk, bi, bu, bS⟩]).toArray 25)) = w1 at *
    clear hfew
    go_wp2_with fail
    refine (few_any A n c xs 10 _ hr1 (by decide)).mono ?_
    rw [hf1]
    rintro e w' ⟨rfl, rfl⟩
    go_wp2_with fail
    refine (few_any B m d ys 10 _ hq1 (by decide)).mono ?_
    rw [hf2]
    rintro e w' ⟨rfl, rfl⟩
    go_wp2_with (go_at_call 9; refine (works_any _ hE1).mono ?_; rintro e w' ⟨rfl, hb5⟩)
    go_ret
    exact ⟨rfl, gr hb1 hb5⟩
  replace hf2 : fewV ys 10 = true := by simpa using hf2
  go_enter Tryz.func6, Tryz.ntmps6
  go_wp2_with fail
  refine hfew.out.mono ?_
  rw [hf0]
  rintro e w' ⟨rfl, rfl⟩
  generalize (((w.alloc (.cells #[.int .i64 ak, .int .i64 ai, .int .u64 au, .string (strL aS)] 25)).alloc (.cells #[.int .i64 bk, .int .i64 bi, .int .u64 bu, .string (strL bS)] 25)).alloc (.cells (vcells [⟨ak, ai, au, aS⟩, ⟨bk, bi, bu, bS⟩]).toArray 25)) = w1 at *
  clear hfew
  go_wp2_with fail
  refine (few_any A n c xs 10 _ hr1 (by decide)).mono ?_
  rw [hf1]
  rintro e w' ⟨rfl, rfl⟩
  go_wp2_with fail
  refine (few_any B m d ys 10 _ hq1 (by decide)).mono ?_
  rw [hf2]
  rintro e w' ⟨rfl, rfl⟩
  clear hf0 hf1 hf2 hr hq
  go_wp2_with fail
  have hS : ∀ W, Below w1.heap.size w1 W → (W.cell? ⟨w.heap.size, 0, none⟩ = some (.int .i64 ak) ∧ W.cell? ⟨w.heap.size, 1, none⟩ = some (.int .i64 ai) ∧ W.cell? ⟨w.heap.size, 2, none⟩ = some (.int .u64 au) ∧ W.cell? ⟨w.heap.size, 3, none⟩ = some (.string (strL aS))) ∧ (W.cell? ⟨w.heap.size + 1, 0, none⟩ = some (.int .i64 bk) ∧ W.cell? ⟨w.heap.size + 1, 1, none⟩ = some (.int .i64 bi) ∧ W.cell? ⟨w.heap.size + 1, 2, none⟩ = some (.int .u64 bu) ∧ W.cell? ⟨w.heap.size + 1, 3, none⟩ = some (.string (strL bS))) :=
    fun W h => ⟨(hvA.below h hvA.lt).cells, (hvB.below h hvB.lt).cells⟩
  have k1 := fun W => Check_any ak ai au (strL aS) W (by rw [strL_size]; exact hal)
  have k2 := fun W => refCheck_any ak ai au aS W
  have k3 := fun W => VOrder_any ⟨ak, ai, au, aS⟩ ⟨bk, bi, bu, bS⟩ W
  have k4 := fun W => Order_any ⟨ak, ai, au, aS⟩ ⟨bk, bi, bu, bS⟩ W
  simp only [Vl.val, valV] at k1 k2 k3 k4
  generalize chkV ak ai au (strL aS) = z1 at *
  generalize ordV ⟨ak, ai, au, aS⟩ ⟨bk, bi, bu, bS⟩ = z2 at *
  generalize hz3 : listsV xs ys = z3 at *
  have k5 : ∀ W, Below w1.heap.size w1 W → Calls Tryz.prog 19 #[.slice A n c, .slice B m d] W fun e w' => e = .returned (.int .i64 z3) ∧ Below W.heap.size W w' := fun W h => by
    rw [← hz3]
    exact VLists_any A n c xs B m d ys W (hr1.below h) (hq1.below h)
  have k6 : ∀ W, Below w1.heap.size w1 W → Calls Tryz.prog 20 #[.slice A n c, .slice B m d] W fun e w' => e = .returned (.int .i64 z3) ∧ Below W.heap.size W w' := fun W h => by
    rw [← hz3]
    exact Lists_any A n c xs B m d ys W (hr1.below h) (hq1.below h)
  replace hS := Lib.hid hS
  replace k1 := Lib.hid k1
  replace k2 := Lib.hid k2
  replace k3 := Lib.hid k3
  replace k4 := Lib.hid k4
  replace k5 := Lib.hid k5
  replace k6 := Lib.hid k6
  clear hz3 hr1 hq1 hvA hvB
  replace hS := hS.out
  have b0 : Below w1.heap.size w1 w1.drew := (Below.refl _ w1).drew
  refine wp_region_noPanic ?_
  refine wp_region_held_drew (S := fun W => (W.cell? ⟨w.heap.size, 0, none⟩ = some (.int .i64 ak) ∧ W.cell? ⟨w.heap.size, 1, none⟩ = some (.int .i64 ai) ∧ W.cell? ⟨w.heap.size, 2, none⟩ = some (.int .u64 au) ∧ W.cell? ⟨w.heap.size, 3, none⟩ = some (.string (strL aS))) ∧ (W.cell? ⟨w.heap.size + 1, 0, none⟩ = some (.int .i64 bk) ∧ W.cell? ⟨w.heap.size + 1, 1, none⟩ = some (.int .i64 bi) ∧ W.cell? ⟨w.heap.size + 1, 2, none⟩ = some (.int .u64 bu) ∧ W.cell? ⟨w.heap.size + 1, 3, none⟩ = some (.string (strL bS)))) (by kernel_rfl) (hS _ b0) (fun hHeld => ?_)
  refine wpAnyH_takeL (i := 0) (v := ?vhy1) rfl (by kernel_rfl) (by kernel_rfl) (by kernel_rfl) (fun _ _ _ h => h) (Or.inl ⟨by rfl, ?hy1⟩) (by assumption) ?rhy1
  case hy1 => ((intro w hSw; (try dsimp only at hSw); go_simp); try with_reducible rfl)
  try simp only [Act.put, List.setIfInBounds_toArray, List.set_cons_zero, List.set_cons_succ]
  refine wpAnyH_takeL (i := 3) (v := ?vhy2) rfl (by kernel_rfl) (by kernel_rfl) (by kernel_rfl) (fun _ _ _ h => h) (Or.inl ⟨by rfl, ?hy2⟩) (by assumption) ?rhy2
  case hy2 => ((intro w hSw; (try dsimp only at hSw); go_simp); try with_reducible rfl)
  try simp only [Act.put, List.setIfInBounds_toArray, List.set_cons_zero, List.set_cons_succ]
  refine wpAnyH_ready (rs := [1]) (by kernel_rfl) (by simp) ?_
  refine AllReadyH.consL (i := 1) rfl (fun K hK => ?_) AllReadyH.nil
  go_simp
  refine (k1.out _).mono ?_
  rintro e w2 ⟨rfl, g1⟩
  have b1 := gr b0 g1
  refine hK.out _ _ (hS _ b1) (fun hHeld => ?_)
  clear hK
  try simp only [Act.put, List.setIfInBounds_toArray, List.set_cons_zero, List.set_cons_succ]
  refine wpAnyH_ready (rs := [2]) (by kernel_rfl) (by simp) ?_
  refine AllReadyH.consL (i := 2) rfl (fun K hK => ?_) AllReadyH.nil
  go_simp
  refine (lnum_any _ _).mono ?_
  rintro e w' ⟨rfl, rfl⟩
  refine hK.out _ _ (hS _ b1) (fun hHeld => ?_)
  clear hK
  try simp only [Act.put, List.setIfInBounds_toArray, List.set_cons_zero, List.set_cons_succ]
  refine wpAnyH_ready (rs := [4]) (by kernel_rfl) (by simp) ?_
  refine AllReadyH.consL (i := 4) rfl (fun K hK => ?_) AllReadyH.nil
  go_simp
  refine (k2.out _).mono ?_
  rintro e w3 ⟨rfl, g2⟩
  have b2 := gr b1 g2
  refine hK.out _ _ (hS _ b2) (fun hHeld => ?_)
  clear hK
  try simp only [Act.put, List.setIfInBounds_toArray, List.set_cons_zero, List.set_cons_succ]
  refine wpAnyH_takeL (i := 5) (v := ?vhy3) rfl (by kernel_rfl) (by kernel_rfl) (by kernel_rfl) (fun _ _ _ h => h) (Or.inl ⟨by rfl, ?hy3⟩) (by assumption) ?rhy3
  case hy3 => ((intro w hSw; (try dsimp only at hSw); go_simp); try with_reducible rfl)
  try simp only [Act.put, List.setIfInBounds_toArray, List.set_cons_zero, List.set_cons_succ]
  refine wpAnyH_takeL (i := 6) (v := ?vhy4) rfl (by kernel_rfl) (by kernel_rfl) (by kernel_rfl) (fun _ _ _ h => h) (Or.inl ⟨by rfl, ?hy4⟩) (by assumption) ?rhy4
  case hy4 => ((intro w hSw; (try dsimp only at hSw); go_simp); try with_reducible rfl)
  try simp only [Act.put, List.setIfInBounds_toArray, List.set_cons_zero, List.set_cons_succ]
  refine wpAnyH_takeL (i := 7) (v := ?vhy5) rfl (by kernel_rfl) (by kernel_rfl) (by kernel_rfl) (fun _ _ _ h => h) (Or.inl ⟨by rfl, ?hy5⟩) (by assumption) ?rhy5
  case hy5 => ((intro w hSw; (try dsimp only at hSw); go_simp); try with_reducible rfl)
  try simp only [Act.put, List.setIfInBounds_toArray, List.set_cons_zero, List.set_cons_succ]
  refine wpAnyH_takeL (i := 8) (v := ?vhy6) rfl (by kernel_rfl) (by kernel_rfl) (by kernel_rfl) (fun _ _ _ h => h) (Or.inl ⟨by rfl, ?hy6⟩) (by assumption) ?rhy6
  case hy6 => ((intro w hSw; (try dsimp only at hSw); go_simp); try with_reducible rfl)
  try simp only [Act.put, List.setIfInBounds_toArray, List.set_cons_zero, List.set_cons_succ]
  refine wpAnyH_takeL (i := 10) (v := ?vhy7) rfl (by kernel_rfl) (by kernel_rfl) (by kernel_rfl) (fun _ _ _ h => h) (Or.inl ⟨by rfl, ?hy7⟩) (by assumption) ?rhy7
  case hy7 => ((intro w hSw; (try dsimp only at hSw); go_simp); try with_reducible rfl)
  try simp only [Act.put, List.setIfInBounds_toArray, List.set_cons_zero, List.set_cons_succ]
  refine wpAnyH_takeL (i := 11) (v := ?vhy8) rfl (by kernel_rfl) (by kernel_rfl) (by kernel_rfl) (fun _ _ _ h => h) (Or.inl ⟨by rfl, ?hy8⟩) (by assumption) ?rhy8
  case hy8 => ((intro w hSw; (try dsimp only at hSw); go_simp); try with_reducible rfl)
  try simp only [Act.put, List.setIfInBounds_toArray, List.set_cons_zero, List.set_cons_succ]
  refine wpAnyH_ready (rs := [9]) (by kernel_rfl) (by simp) ?_
  refine AllReadyH.consL (i := 9) rfl (fun K hK => ?_) AllReadyH.nil
  go_simp
  refine (k3.out _).mono ?_
  rintro e w4 ⟨rfl, g3⟩
  have b3 := gr b2 g3
  refine hK.out _ _ (hS _ b3) (fun hHeld => ?_)
  clear hK
  try simp only [Act.put, List.setIfInBounds_toArray, List.set_cons_zero, List.set_cons_succ]
  refine wpAnyH_ready (rs := [12]) (by kernel_rfl) (by simp) ?_
  refine AllReadyH.consL (i := 12) rfl (fun K hK => ?_) AllReadyH.nil
  go_simp
  refine (k4.out _).mono ?_
  rintro e w5 ⟨rfl, g4⟩
  have b4 := gr b3 g4
  refine hK.out _ _ (hS _ b4) (fun hHeld => ?_)
  clear hK
  try simp only [Act.put, List.setIfInBounds_toArray, List.set_cons_zero, List.set_cons_succ]
  refine wpAnyH_takeL (i := 13) (v := ?vhy9) rfl (by kernel_rfl) (by kernel_rfl) (by kernel_rfl) (fun _ _ _ h => h) (Or.inl ⟨by rfl, ?hy9⟩) (by assumption) ?rhy9
  case hy9 => ((intro w hSw; (try dsimp only at hSw); go_simp); try with_reducible rfl)
  try simp only [Act.put, List.setIfInBounds_toArray, List.set_cons_zero, List.set_cons_succ]
  refine wpAnyH_takeL (i := 14) (v := ?vhy10) rfl (by kernel_rfl) (by kernel_rfl) (by kernel_rfl) (fun _ _ _ h => h) (Or.inl ⟨by rfl, ?hy10⟩) (by assumption) ?rhy10
  case hy10 => ((intro w hSw; (try dsimp only at hSw); go_simp); try with_reducible rfl)
  try simp only [Act.put, List.setIfInBounds_toArray, List.set_cons_zero, List.set_cons_succ]
  refine wpAnyH_takeL (i := 15) (v := ?vhy11) rfl (by kernel_rfl) (by kernel_rfl) (by kernel_rfl) (fun _ _ _ h => h) (Or.inl ⟨by rfl, ?hy11⟩) (by assumption) ?rhy11
  case hy11 => ((intro w hSw; (try dsimp only at hSw); go_simp); try with_reducible rfl)
  try simp only [Act.put, List.setIfInBounds_toArray, List.set_cons_zero, List.set_cons_succ]
  refine wpAnyH_takeL (i := 16) (v := ?vhy12) rfl (by kernel_rfl) (by kernel_rfl) (by kernel_rfl) (fun _ _ _ h => h) (Or.inl ⟨by rfl, ?hy12⟩) (by assumption) ?rhy12
  case hy12 => ((intro w hSw; (try dsimp only at hSw); go_simp); try with_reducible rfl)
  try simp only [Act.put, List.setIfInBounds_toArray, List.set_cons_zero, List.set_cons_succ]
  refine wpAnyH_takeL (i := 17) (v := ?vhy13) rfl (by kernel_rfl) (by kernel_rfl) (by kernel_rfl) (fun _ _ _ h => h) (Or.inl ⟨by rfl, ?hy13⟩) (by assumption) ?rhy13
  case hy13 => ((intro w hSw; (try dsimp only at hSw); go_simp); try with_reducible rfl)
  try simp only [Act.put, List.setIfInBounds_toArray, List.set_cons_zero, List.set_cons_succ]
  refine wpAnyH_takeL (i := 19) (v := ?vhy14) rfl (by kernel_rfl) (by kernel_rfl) (by kernel_rfl) (fun _ _ _ h => h) (Or.inl ⟨by rfl, ?hy14⟩) (by assumption) ?rhy14
  case hy14 => ((intro w hSw; (try dsimp only at hSw); go_simp); try with_reducible rfl)
  try simp only [Act.put, List.setIfInBounds_toArray, List.set_cons_zero, List.set_cons_succ]
  refine wpAnyH_takeL (i := 20) (v := ?vhy15) rfl (by kernel_rfl) (by kernel_rfl) (by kernel_rfl) (fun _ _ _ h => h) (Or.inl ⟨by rfl, ?hy15⟩) (by assumption) ?rhy15
  case hy15 => ((intro w hSw; (try dsimp only at hSw); go_simp); try with_reducible rfl)
  try simp only [Act.put, List.setIfInBounds_toArray, List.set_cons_zero, List.set_cons_succ]
  refine wpAnyH_ready (rs := [18]) (by kernel_rfl) (by simp) ?_
  refine AllReadyH.consL (i := 18) rfl (fun K hK => ?_) AllReadyH.nil
  go_simp
  refine (k5.out _ b4).mono ?_
  rintro e w6 ⟨rfl, g5⟩
  have b5 := gr b4 g5
  refine hK.out _ _ (hS _ b5) (fun hHeld => ?_)
  clear hK
  try simp only [Act.put, List.setIfInBounds_toArray, List.set_cons_zero, List.set_cons_succ]
  refine wpAnyH_ready (rs := [21]) (by kernel_rfl) (by simp) ?_
  refine AllReadyH.consL (i := 21) rfl (fun K hK => ?_) AllReadyH.nil
  go_simp
  refine (k6.out _ b5).mono ?_
  rintro e w7 ⟨rfl, g6⟩
  have b6 := gr b5 g6
  refine hK.out _ _ (hS _ b6) (fun hHeld => ?_)
  clear hK
  try simp only [Act.put, List.setIfInBounds_toArray, List.set_cons_zero, List.set_cons_succ]
  refine wpAnyH_takeL (i := 22) (v := ?vhy16) rfl (by kernel_rfl) (by kernel_rfl) (by kernel_rfl) (fun _ _ _ h => h) (Or.inl ⟨by rfl, ?hy16⟩) (by assumption) ?rhy16
  case hy16 => ((intro w hSw; (try dsimp only at hSw); go_simp); try with_reducible rfl)
  try simp only [Act.put, List.setIfInBounds_toArray, List.set_cons_zero, List.set_cons_succ]
  refine wpAnyH_takeL (i := 23) (v := ?vhy17) rfl (by kernel_rfl) (by kernel_rfl) (by kernel_rfl) (fun _ _ _ h => h) (Or.inl ⟨by rfl, ?hy17⟩) (by assumption) ?rhy17
  case hy17 => ((intro w hSw; (try dsimp only at hSw); go_simp); try with_reducible rfl)
  try simp only [Act.put, List.setIfInBounds_toArray, List.set_cons_zero, List.set_cons_succ]
  refine wpAnyH_takeL (i := 24) (v := ?vhy18) rfl (by kernel_rfl) (by kernel_rfl) (by kernel_rfl) (fun _ _ _ h => h) (Or.inl ⟨by rfl, ?hy18⟩) (by assumption) ?rhy18
  case hy18 => ((intro w hSw; (try dsimp only at hSw); go_simp); try with_reducible rfl)
  try simp only [Act.put, List.setIfInBounds_toArray, List.set_cons_zero, List.set_cons_succ]
  refine wpAnyH_ready (rs := [25]) (by kernel_rfl) (by simp) ?_
  refine AllReadyH.consL (i := 25) rfl (fun K hK => ?_) AllReadyH.nil
  go_simp
  refine (works_any _ (hE1.below b6)).mono ?_
  rintro e w8 ⟨rfl, g7⟩
  have b7 := gr b6 g7
  refine hK.out _ _ (hS _ b7) (fun hHeld => ?_)
  clear hK
  try simp only [Act.put, List.setIfInBounds_toArray, List.set_cons_zero, List.set_cons_succ]
  refine wpAnyH_takeL (i := 26) (v := ?vhy19) rfl (by kernel_rfl) (by kernel_rfl) (by kernel_rfl) (fun _ _ _ h => h) (Or.inl ⟨by rfl, ?hy19⟩) (by assumption) ?rhy19
  case hy19 => ((intro w hSw; (try dsimp only at hSw); go_simp); try with_reducible rfl)
  try simp only [Act.put, List.setIfInBounds_toArray, List.set_cons_zero, List.set_cons_succ]
  refine wpAnyH_takeL (i := 27) (v := ?vhy20) rfl (by kernel_rfl) (by kernel_rfl) (by kernel_rfl) (fun _ _ _ h => h) (Or.inl ⟨by rfl, ?hy20⟩) (by assumption) ?rhy20
  case hy20 => ((intro w hSw; (try dsimp only at hSw); go_simp); try with_reducible rfl)
  try simp only [Act.put, List.setIfInBounds_toArray, List.set_cons_zero, List.set_cons_succ]
  refine wpAnyH_done (by kernel_rfl) ?_ _
  refine NoPanic.normal ?_
  have hfin := gr hb1 b7
  clear hHeld hS k1 k2 k3 k4 k5 k6 b0 b1 b2 b3 b4 b5 b6 b7 g1 g2 g3 g4 g5 g6 g7
  go_wp2
  go_ret
  exact ⟨rfl, hfin⟩
end Go.Proofs.YtcicmeggbkhniaaGreatDoor
