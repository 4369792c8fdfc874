/- value's order of values and of lists. -/
import Derived.Test.YtcicmeggbkhniaaGreatDoorRefV
import Derived.Test.YtcicmeggbkhniaaGreatDoorShelf
namespace Go.Proofs.YtcicmeggbkhniaaGreatDoor
open Go.RowKit
set_option linter.unusedVariables false

theorem cmp_K (x y : Int) (w : World) : Calls Tryz.prog 37 #[.int .i64 x, .int .i64 y] w fun e w' => e = .returned (.int .i64 (Lib.compareInt x y)) ∧ w = w' := by
  unfold Lib.compareInt
  by_cases h1 : x < y
  · have d1 : decide (x < y) = true := by simpa using h1
    rw [if_pos h1]
    clear h1
    go_enter Tryz.func37, Tryz.ntmps37
    go_wp2
    go_ret
    exact ⟨rfl, rfl⟩
  · have d1 : decide (x < y) = false := by simpa using h1
    rw [if_neg h1]
    by_cases h2 : y < x
    · have d2 : decide (y < x) = true := by simpa using h2
      rw [if_pos h2]
      clear h1 h2
      go_enter Tryz.func37, Tryz.ntmps37
      go_wp2
      go_ret
      exact ⟨rfl, rfl⟩
    · have d2 : decide (y < x) = false := by simpa using h2
      rw [if_neg h2]
      clear h1 h2
      go_enter Tryz.func37, Tryz.ntmps37
      go_wp2
      go_ret
      exact ⟨rfl, rfl⟩
theorem cmp_I (x y : Int) (w : World) : Calls Tryz.prog 38 #[.int .i64 x, .int .i64 y] w fun e w' => e = .returned (.int .i64 (Lib.compareInt x y)) ∧ w = w' := by
  unfold Lib.compareInt
  by_cases h1 : x < y
  · have d1 : decide (x < y) = true := by simpa using h1
    rw [if_pos h1]
    clear h1
    go_enter Tryz.func38, Tryz.ntmps38
    go_wp2
    go_ret
    exact ⟨rfl, rfl⟩
  · have d1 : decide (x < y) = false := by simpa using h1
    rw [if_neg h1]
    by_cases h2 : y < x
    · have d2 : decide (y < x) = true := by simpa using h2
      rw [if_pos h2]
      clear h1 h2
      go_enter Tryz.func38, Tryz.ntmps38
      go_wp2
      go_ret
      exact ⟨rfl, rfl⟩
    · have d2 : decide (y < x) = false := by simpa using h2
      rw [if_neg h2]
      clear h1 h2
      go_enter Tryz.func38, Tryz.ntmps38
      go_wp2
      go_ret
      exact ⟨rfl, rfl⟩
theorem cmp_U (x y : Int) (w : World) : Calls Tryz.prog 39 #[.int .u64 x, .int .u64 y] w fun e w' => e = .returned (.int .i64 (Lib.compareInt x y)) ∧ w = w' := by
  unfold Lib.compareInt
  by_cases h1 : x < y
  · have d1 : decide (x < y) = true := by simpa using h1
    rw [if_pos h1]
    clear h1
    go_enter Tryz.func39, Tryz.ntmps39
    go_wp2
    go_ret
    exact ⟨rfl, rfl⟩
  · have d1 : decide (x < y) = false := by simpa using h1
    rw [if_neg h1]
    by_cases h2 : y < x
    · have d2 : decide (y < x) = true := by simpa using h2
      rw [if_pos h2]
      clear h1 h2
      go_enter Tryz.func39, Tryz.ntmps39
      go_wp2
      go_ret
      exact ⟨rfl, rfl⟩
    · have d2 : decide (y < x) = false := by simpa using h2
      rw [if_neg h2]
      clear h1 h2
      go_enter Tryz.func39, Tryz.ntmps39
      go_wp2
      go_ret
      exact ⟨rfl, rfl⟩
theorem cmp_N (x y : Int) (w : World) : Calls Tryz.prog 70 #[.int .i64 x, .int .i64 y] w fun e w' => e = .returned (.int .i64 (Lib.compareInt x y)) ∧ w = w' := by
  unfold Lib.compareInt
  by_cases h1 : x < y
  · have d1 : decide (x < y) = true := by simpa using h1
    rw [if_pos h1]
    clear h1
    go_enter Tryz.func70, Tryz.ntmps70
    go_wp2
    go_ret
    exact ⟨rfl, rfl⟩
  · have d1 : decide (x < y) = false := by simpa using h1
    rw [if_neg h1]
    by_cases h2 : y < x
    · have d2 : decide (y < x) = true := by simpa using h2
      rw [if_pos h2]
      clear h1 h2
      go_enter Tryz.func70, Tryz.ntmps70
      go_wp2
      go_ret
      exact ⟨rfl, rfl⟩
    · have d2 : decide (y < x) = false := by simpa using h2
      rw [if_neg h2]
      clear h1 h2
      go_enter Tryz.func70, Tryz.ntmps70
      go_wp2
      go_ret
      exact ⟨rfl, rfl⟩

/-- The first that is not 0. -/
def orI : List Int → Int
  | [] => 0
  | x :: l => if x = 0 then orI l else x

set_option maxRecDepth 100000 in
theorem Or_any (A : Option Addr) (n c : Nat) (zs : List Int) (w : World) (hr : Rv w 1 A n c (zs.map (Value.int .i64))) :
    Calls Tryz.prog 36 #[.slice A n c] w fun e w' => e = .returned (.int .i64 (orI zs)) ∧ w = w' := by
  have hln : zs.length = n := by have := hr.1; simpa using this
  have hcap : c ≤ 9223372036854775807 := hr.2.2.1
  have hle := hr.2.1
  go_enter Tryz.func36, Tryz.ntmps36
  go_wp2
  go_loop [8] (fun p => ∃ k : Nat, k ≤ n ∧ p = .int .i64 (k : Int) ∧ orI (zs.drop k) = orI zs) (fun p => n - (intOf p).toNat)
  case atStart => exact ⟨0, by omega, rfl, rfl⟩
  case round =>
    obtain ⟨k, hk, rfl, ho⟩ := hrel
    by_cases hlt : k < n
    · obtain ⟨b, off, rfl, hb, hc⟩ := hr.2.2.2 (by omega)
      have hcell := hc k (.int .i64 (zs[k]'(by omega))) (by simp [show k < zs.length by omega])
      rw [List.drop_eq_getElem_cons (show k < zs.length by omega), orI] at ho
      generalize zs[k]'(by omega) = z at *
      by_cases hz : z = 0
      · rw [if_pos hz] at ho
        subst hz
        replace ho := Lib.hid ho
        clear hr hc
        go_wp2
        go_round
        case rel => exact ⟨k + 1, by omega, by go_num, ho.out⟩
        case measure => simp [intOf]; omega
      · rw [if_neg hz] at ho
        have hd : (z != 0) = true := by simpa using hz
        replace ho := Lib.hid ho
        clear hr hc hz
        go_wp2
        go_ret
        exact ⟨ret_int ho.out, rfl⟩
    · rw [List.drop_eq_nil_of_le (by omega)] at ho
      replace ho := Lib.hid ho
      clear hr
      go_wp2
      go_ret
      exact ⟨ret_int ho.out, rfl⟩

theorem Rv.new (w : World) (t : TypeId) (xs : List Value) (h : xs.length ≤ maxLen) : Rv (w.alloc (.cells xs.toArray t)) 1 (some ⟨w.heap.size, 0, none⟩) xs.length xs.length xs :=
  ⟨by simp, Nat.le_refl _, h, fun _ => ⟨w.heap.size, 0, rfl, by simp, fun j u hu => by
    rw [World.cell?, World.alloc_heap_new]
    simpa using hu⟩⟩
/-- How the program holds two values. -/
def ordP (a b : Vl) : Int := orI [Lib.compareInt a.k b.k, Lib.compareInt a.i b.i, Lib.compareInt a.u b.u, Lib.compareBytes a.s b.s]

attribute [local go_sem] strL_toList strL_size
set_option maxRecDepth 100000 in
set_option maxHeartbeats 1000000 in
theorem POrder_any (a b : Vl) (w : World) : Calls Tryz.prog 15 #[a.val, b.val] w fun e w' => e = .returned (.int .i64 (ordP a b)) ∧ Below w.heap.size w w' := by
  obtain ⟨ak, ai, au, aS⟩ := a
  obtain ⟨bk, bi, bu, bS⟩ := b
  unfold Vl.val valV ordP
  dsimp only
  have c1 := fun W => cmp_K ak bk W
  have c2 := fun W => cmp_I ai bi W
  have c3 := fun W => cmp_U au bu W
  have c4 := fun W => Tryz.strings_Compare (strL aS) (strL bS) W
  rw [strL_list, strL_list] at c4
  generalize Lib.compareInt ak bk = z1 at c1 ⊢
  generalize Lib.compareInt ai bi = z2 at c2 ⊢
  generalize Lib.compareInt au bu = z3 at c3 ⊢
  generalize Lib.compareBytes aS bS = z4 at c4 ⊢
  have hb0 : Below w.heap.size w ((w.alloc (.cells #[.int .i64 ak, .int .i64 ai, .int .u64 au, .string (strL aS)] 25)).alloc (.cells #[.int .i64 bk, .int .i64 bi, .int .u64 bu, .string (strL bS)] 25)) := ((Below.refl _ w).alloc (Nat.le_refl _) _).alloc (by simp) _
  have hv1 := (VBox.new w ak ai au (strL aS)).below ((Below.refl _ _).alloc (Nat.le_refl _) (.cells #[.int .i64 bk, .int .i64 bi, .int .u64 bu, .string (strL bS)] 25)) (by simp)
  have hv2 := VBox.new (w.alloc (.cells #[.int .i64 ak, .int .i64 ai, .int .u64 au, .string (strL aS)] 25)) bk bi bu (strL bS)
  rw [show (w.alloc (.cells #[.int .i64 ak, .int .i64 ai, .int .u64 au, .string (strL aS)] 25)).heap.size = w.heap.size + 1 from by simp] at hv2
  go_enter Tryz.func15, Tryz.ntmps15
  go_wp2_with fail
  generalize ((w.alloc (.cells #[.int .i64 ak, .int .i64 ai, .int .u64 au, .string (strL aS)] 25)).alloc (.cells #[.int .i64 bk, .int .i64 bi, .int .u64 bu, .string (strL bS)] 25)) = w1 at *
  have cv1 := hv1.cells
  have cv2 := hv2.cells
  refine wp_region_noPanic ?_
  refine wp_region_held_drew (S := fun w' => (w'.cell? ⟨w.heap.size, 0, none⟩ = some (.int .i64 ak) ∧ w'.cell? ⟨w.heap.size, 1, none⟩ = some (.int .i64 ai) ∧ w'.cell? ⟨w.heap.size, 2, none⟩ = some (.int .u64 au) ∧ w'.cell? ⟨w.heap.size, 3, none⟩ = some (.string (strL aS))) ∧ (w'.cell? ⟨w.heap.size + 1, 0, none⟩ = some (.int .i64 bk) ∧ w'.cell? ⟨w.heap.size + 1, 1, none⟩ = some (.int .i64 bi) ∧ w'.cell? ⟨w.heap.size + 1, 2, none⟩ = some (.int .u64 bu) ∧ w'.cell? ⟨w.heap.size + 1, 3, none⟩ = some (.string (strL bS)))) (by kernel_rfl) ⟨cv1, cv2⟩ (fun hHeld => ?_)
  refine wpAnyH_takeL (i := 0) (v := ?vhy1) rfl (by kernel_rfl) (by kernel_rfl) (by kernel_rfl) (fun _ _ _ h => h) (Or.inl ⟨by rfl, ?hy1⟩) (by assumption) ?rhy1
  case hy1 => ((intro w hSw; (try dsimp only at hSw); go_simp); try with_reducible rfl)
  try simp only [Act.put, List.setIfInBounds_toArray, List.set_cons_zero, List.set_cons_succ]
  refine wpAnyH_takeL (i := 1) (v := ?vhy2) rfl (by kernel_rfl) (by kernel_rfl) (by kernel_rfl) (fun _ _ _ h => h) (Or.inl ⟨by rfl, ?hy2⟩) (by assumption) ?rhy2
  case hy2 => ((intro w hSw; (try dsimp only at hSw); go_simp); try with_reducible rfl)
  try simp only [Act.put, List.setIfInBounds_toArray, List.set_cons_zero, List.set_cons_succ]
  refine wpAnyH_takeL (i := 2) (v := ?vhy3) rfl (by kernel_rfl) (by kernel_rfl) (by kernel_rfl) (fun _ _ _ h => h) (Or.inl ⟨by rfl, ?hy3⟩) (by assumption) ?rhy3
  case hy3 => ((intro w hSw; (try dsimp only at hSw); go_simp); try with_reducible rfl)
  try simp only [Act.put, List.setIfInBounds_toArray, List.set_cons_zero, List.set_cons_succ]
  refine wpAnyH_takeL (i := 3) (v := ?vhy4) rfl (by kernel_rfl) (by kernel_rfl) (by kernel_rfl) (fun _ _ _ h => h) (Or.inl ⟨by rfl, ?hy4⟩) (by assumption) ?rhy4
  case hy4 => ((intro w hSw; (try dsimp only at hSw); go_simp); try with_reducible rfl)
  try simp only [Act.put, List.setIfInBounds_toArray, List.set_cons_zero, List.set_cons_succ]
  refine wpAnyH_takeL (i := 5) (v := ?vhy5) rfl (by kernel_rfl) (by kernel_rfl) (by kernel_rfl) (fun _ _ _ h => h) (Or.inl ⟨by rfl, ?hy5⟩) (by assumption) ?rhy5
  case hy5 => ((intro w hSw; (try dsimp only at hSw); go_simp); try with_reducible rfl)
  try simp only [Act.put, List.setIfInBounds_toArray, List.set_cons_zero, List.set_cons_succ]
  refine wpAnyH_takeL (i := 6) (v := ?vhy6) rfl (by kernel_rfl) (by kernel_rfl) (by kernel_rfl) (fun _ _ _ h => h) (Or.inl ⟨by rfl, ?hy6⟩) (by assumption) ?rhy6
  case hy6 => ((intro w hSw; (try dsimp only at hSw); go_simp); try with_reducible rfl)
  try simp only [Act.put, List.setIfInBounds_toArray, List.set_cons_zero, List.set_cons_succ]
  refine wpAnyH_takeL (i := 7) (v := ?vhy7) rfl (by kernel_rfl) (by kernel_rfl) (by kernel_rfl) (fun _ _ _ h => h) (Or.inl ⟨by rfl, ?hy7⟩) (by assumption) ?rhy7
  case hy7 => ((intro w hSw; (try dsimp only at hSw); go_simp); try with_reducible rfl)
  try simp only [Act.put, List.setIfInBounds_toArray, List.set_cons_zero, List.set_cons_succ]
  refine wpAnyH_takeL (i := 8) (v := ?vhy8) rfl (by kernel_rfl) (by kernel_rfl) (by kernel_rfl) (fun _ _ _ h => h) (Or.inl ⟨by rfl, ?hy8⟩) (by assumption) ?rhy8
  case hy8 => ((intro w hSw; (try dsimp only at hSw); go_simp); try with_reducible rfl)
  try simp only [Act.put, List.setIfInBounds_toArray, List.set_cons_zero, List.set_cons_succ]
  refine wpAnyH_takeL (i := 10) (v := ?vhy9) rfl (by kernel_rfl) (by kernel_rfl) (by kernel_rfl) (fun _ _ _ h => h) (Or.inl ⟨by rfl, ?hy9⟩) (by assumption) ?rhy9
  case hy9 => ((intro w hSw; (try dsimp only at hSw); go_simp); try with_reducible rfl)
  try simp only [Act.put, List.setIfInBounds_toArray, List.set_cons_zero, List.set_cons_succ]
  refine wpAnyH_takeL (i := 11) (v := ?vhy10) rfl (by kernel_rfl) (by kernel_rfl) (by kernel_rfl) (fun _ _ _ h => h) (Or.inl ⟨by rfl, ?hy10⟩) (by assumption) ?rhy10
  case hy10 => ((intro w hSw; (try dsimp only at hSw); go_simp); try with_reducible rfl)
  try simp only [Act.put, List.setIfInBounds_toArray, List.set_cons_zero, List.set_cons_succ]
  refine wpAnyH_takeL (i := 12) (v := ?vhy11) rfl (by kernel_rfl) (by kernel_rfl) (by kernel_rfl) (fun _ _ _ h => h) (Or.inl ⟨by rfl, ?hy11⟩) (by assumption) ?rhy11
  case hy11 => ((intro w hSw; (try dsimp only at hSw); go_simp); try with_reducible rfl)
  try simp only [Act.put, List.setIfInBounds_toArray, List.set_cons_zero, List.set_cons_succ]
  refine wpAnyH_takeL (i := 13) (v := ?vhy12) rfl (by kernel_rfl) (by kernel_rfl) (by kernel_rfl) (fun _ _ _ h => h) (Or.inl ⟨by rfl, ?hy12⟩) (by assumption) ?rhy12
  case hy12 => ((intro w hSw; (try dsimp only at hSw); go_simp); try with_reducible rfl)
  try simp only [Act.put, List.setIfInBounds_toArray, List.set_cons_zero, List.set_cons_succ]
  refine wpAnyH_takeL (i := 15) (v := ?vhy13) rfl (by kernel_rfl) (by kernel_rfl) (by kernel_rfl) (fun _ _ _ h => h) (Or.inl ⟨by rfl, ?hy13⟩) (by assumption) ?rhy13
  case hy13 => ((intro w hSw; (try dsimp only at hSw); go_simp); try with_reducible rfl)
  try simp only [Act.put, List.setIfInBounds_toArray, List.set_cons_zero, List.set_cons_succ]
  refine wpAnyH_takeL (i := 16) (v := ?vhy14) rfl (by kernel_rfl) (by kernel_rfl) (by kernel_rfl) (fun _ _ _ h => h) (Or.inl ⟨by rfl, ?hy14⟩) (by assumption) ?rhy14
  case hy14 => ((intro w hSw; (try dsimp only at hSw); go_simp); try with_reducible rfl)
  try simp only [Act.put, List.setIfInBounds_toArray, List.set_cons_zero, List.set_cons_succ]
  refine wpAnyH_takeL (i := 17) (v := ?vhy15) rfl (by kernel_rfl) (by kernel_rfl) (by kernel_rfl) (fun _ _ _ h => h) (Or.inl ⟨by rfl, ?hy15⟩) (by assumption) ?rhy15
  case hy15 => ((intro w hSw; (try dsimp only at hSw); go_simp); try with_reducible rfl)
  try simp only [Act.put, List.setIfInBounds_toArray, List.set_cons_zero, List.set_cons_succ]
  refine wpAnyH_takeL (i := 18) (v := ?vhy16) rfl (by kernel_rfl) (by kernel_rfl) (by kernel_rfl) (fun _ _ _ h => h) (Or.inl ⟨by rfl, ?hy16⟩) (by assumption) ?rhy16
  case hy16 => ((intro w hSw; (try dsimp only at hSw); go_simp); try with_reducible rfl)
  try simp only [Act.put, List.setIfInBounds_toArray, List.set_cons_zero, List.set_cons_succ]
  refine wpAnyH_ready (rs := [4]) (by kernel_rfl) (by simp) ?_
  refine AllReadyH.consL (i := 4) rfl (fun K hK => ?_) AllReadyH.nil
  go_simp
  refine (c1 _).mono ?_
  rintro e w' ⟨rfl, rfl⟩
  refine hK.out _ _ hHeld (fun hHeld => ?_)
  clear hK
  try simp only [Act.put, List.setIfInBounds_toArray, List.set_cons_zero, List.set_cons_succ]
  refine wpAnyH_ready (rs := [9]) (by kernel_rfl) (by simp) ?_
  refine AllReadyH.consL (i := 9) rfl (fun K hK => ?_) AllReadyH.nil
  go_simp
  refine (c2 _).mono ?_
  rintro e w' ⟨rfl, rfl⟩
  refine hK.out _ _ hHeld (fun hHeld => ?_)
  clear hK
  try simp only [Act.put, List.setIfInBounds_toArray, List.set_cons_zero, List.set_cons_succ]
  refine wpAnyH_ready (rs := [14]) (by kernel_rfl) (by simp) ?_
  refine AllReadyH.consL (i := 14) rfl (fun K hK => ?_) AllReadyH.nil
  go_simp
  refine (c3 _).mono ?_
  rintro e w' ⟨rfl, rfl⟩
  refine hK.out _ _ hHeld (fun hHeld => ?_)
  clear hK
  try simp only [Act.put, List.setIfInBounds_toArray, List.set_cons_zero, List.set_cons_succ]
  refine wpAnyH_ready (rs := [19]) (by kernel_rfl) (by simp) ?_
  refine AllReadyH.consL (i := 19) rfl (fun K hK => ?_) AllReadyH.nil
  go_simp
  refine (c4 _).mono ?_
  rintro e w' ⟨rfl, rfl⟩
  refine hK.out _ _ hHeld (fun hHeld => ?_)
  clear hK
  try simp only [Act.put, List.setIfInBounds_toArray, List.set_cons_zero, List.set_cons_succ]
  refine wpAnyH_ready (rs := [20]) (by kernel_rfl) (by simp) ?_
  refine AllReadyH.consL (i := 20) rfl (fun K hK => ?_) AllReadyH.nil
  go_simp
  have hRow := Rv.new w1.drew 3 [.int .i64 z1, .int .i64 z2, .int .i64 z3, .int .i64 z4] (by unfold maxLen; simp)
  have hb1 : Below w.heap.size w (w1.drew.alloc (.cells #[.int .i64 z1, .int .i64 z2, .int .i64 z3, .int .i64 z4] 3)) := hb0.drew.alloc (by have := hb0.size; simpa using this) _
  have hs : w1.heap.size ≤ (w1.drew.alloc (.cells #[.int .i64 z1, .int .i64 z2, .int .i64 z3, .int .i64 z4] 3)).heap.size := by simp
  have hv1' := hv1.below ((Below.refl _ _).drew.alloc (by simp) (.cells #[.int .i64 z1, .int .i64 z2, .int .i64 z3, .int .i64 z4] 3)) hv1.lt
  have hv2' := hv2.below ((Below.refl _ _).drew.alloc (by simp) (.cells #[.int .i64 z1, .int .i64 z2, .int .i64 z3, .int .i64 z4] 3)) hv2.lt
  refine hK.out _ _ ⟨hv1'.cells, hv2'.cells⟩ (fun hHeld => ?_)
  clear hK
  try simp only [Act.put, List.setIfInBounds_toArray, List.set_cons_zero, List.set_cons_succ]
  refine wpAnyH_ready (rs := [21]) (by kernel_rfl) (by simp) ?_
  refine AllReadyH.consL (i := 21) rfl (fun K hK => ?_) AllReadyH.nil
  go_simp
  refine (Or_any _ _ _ [z1, z2, z3, z4] _ hRow).mono ?_
  rintro e w' ⟨rfl, rfl⟩
  refine hK.out _ _ hHeld (fun hHeld => ?_)
  clear hK
  try simp only [Act.put, List.setIfInBounds_toArray, List.set_cons_zero, List.set_cons_succ]
  refine wpAnyH_takeL (i := 22) (v := ?vhy17) rfl (by kernel_rfl) (by kernel_rfl) (by kernel_rfl) (fun _ _ _ h => h) (Or.inl ⟨by rfl, ?hy17⟩) (by assumption) ?rhy17
  case hy17 => ((intro w hSw; (try dsimp only at hSw); go_simp); try with_reducible rfl)
  try simp only [Act.put, List.setIfInBounds_toArray, List.set_cons_zero, List.set_cons_succ]
  refine wpAnyH_done (by kernel_rfl) ?_ _
  refine NoPanic.normal ?_
  clear hHeld hv1' hv2' hRow cv1 cv2 hv1 hv2
  go_wp2
  go_ret
  exact ⟨rfl, hb1⟩

theorem compareBytes_eq : ∀ a b : List UInt8, Lib.compareBytes a b = if a = b then 0 else byV (Op.bytesLess a b)
  | [], [] => rfl
  | [], b :: t => by simp [Lib.compareBytes, Op.bytesLess, byV]
  | a :: t, [] => by simp [Lib.compareBytes, Op.bytesLess, byV]
  | a :: t, b :: r => by
    rw [Lib.compareBytes, Op.bytesLess, compareBytes_eq t r]
    by_cases h1 : a < b
    · have hne : a ≠ b := fun e => by subst e; exact absurd h1 (by simp [UInt8.lt_irrefl])
      simp [h1, hne, byV]
    · by_cases h2 : b < a
      · have hne : a ≠ b := fun e => by subst e; exact absurd h2 (by simp [UInt8.lt_irrefl])
        simp [h1, h2, hne, byV]
      · have he : a = b := by
          rw [UInt8.lt_iff_toNat_lt] at h1 h2
          exact UInt8.toNat_inj.1 (by omega)
        subst he
        simp [h1]
theorem compareInt_eq (a b : Int) : Lib.compareInt a b = if a = b then 0 else byV (decide (a < b)) := by
  unfold Lib.compareInt byV
  by_cases h : a = b
  · subst h
    simp
  · rw [if_neg h]
    by_cases h1 : a < b
    · simp [h1]
    · have h2 : a > b := by omega
      simp [h1, h2]
theorem byV_ne (b : Bool) : byV b ≠ 0 := by cases b <;> decide
theorem ordP_eq (a b : Vl) : ordP a b = ordV a b := by
  unfold ordP ordV orI
  simp only [compareInt_eq, compareBytes_eq, orI]
  by_cases h1 : a.k = b.k <;> by_cases h2 : a.i = b.i <;> by_cases h3 : a.u = b.u <;> by_cases h4 : a.s = b.s <;> simp [h1, h2, h3, h4, byV_ne]
theorem VOrder_any (a b : Vl) (w : World) : Calls Tryz.prog 15 #[a.val, b.val] w fun e w' => e = .returned (.int .i64 (ordV a b)) ∧ Below w.heap.size w w' := by
  rw [← ordP_eq]
  exact POrder_any a b w

set_option maxRecDepth 100000 in
set_option maxHeartbeats 1000000 in
theorem VHeld_any (A : Option Addr) (n c : Nat) (xs : List Vl) (B : Option Addr) (m d : Nat) (ys : List Vl) (w : World) (hr : Rv w 4 A n c (vcells xs)) (hq : Rv w 4 B m d (vcells ys)) :
    Calls Tryz.prog 43 #[.slice A n c, .slice B m d, .func (.func 15) #[] #[]] w fun e w' => e = .returned (.int .i64 (listsV xs ys)) ∧ Below w.heap.size w w' := by
  have hxn : xs.length = n := by
    have := hr.1
    rw [vcells_length] at this
    omega
  have hym : ys.length = m := by
    have := hq.1
    rw [vcells_length] at this
    omega
  have hcap : c ≤ 9223372036854775807 := hr.2.2.1
  have hle := hr.2.1
  have hcap2 : d ≤ 9223372036854775807 := hq.2.2.1
  have hle2 := hq.2.1
  have eO := enters_of Tryz.func15 (by kernel_rfl) rfl
  go_enter Tryz.func43, Tryz.ntmps43
  go_wp2
  go_loopw [14] (fun p wr => ∃ i : Nat, p = .int .i64 (i : Int) ∧ i ≤ n ∧ i ≤ m ∧ Below w.heap.size w wr ∧ listsV (xs.drop i) (ys.drop i) = listsV xs ys)
    (fun p wr => n - (intOf p).toNat)
  case atStart => exact ⟨0, rfl, by omega, by omega, Below.refl _ _, rfl⟩
  case round =>
    obtain ⟨i, rfl, hi, hi2, hB, hL⟩ := hrel
    by_cases h1 : i < n ∧ i < m
    · have hmin : decide ((i : Int) < min (n : Int) (m : Int)) = true := by simp; omega
      obtain ⟨b1, o1, rfl, hb1, hc1⟩ := hr.2.2.2 (by omega)
      obtain ⟨b2, o2, rfl, hb2, hc2⟩ := hq.2.2.2 (by omega)
      have e1 := vcells_cell hc1 (fun o => hB.cell (p := ⟨b1, o, none⟩) hb1) i (by omega)
      have e2 := vcells_cell hc2 (fun o => hB.cell (p := ⟨b2, o, none⟩) hb2) i (by omega)
      rw [List.drop_eq_getElem_cons (show i < xs.length by omega), List.drop_eq_getElem_cons (show i < ys.length by omega), listsV] at hL
      generalize xs[i] = x at *
      generalize ys[i] = y at *
      replace hL := Lib.hid hL
      have hlt1 : (i : Int) < (n : Int) := by omega
      have hlt2 : (i : Int) < (m : Int) := by omega
      go_wp2
      refine wp_region_noPanic ?_
      refine wp_region_held_drew (S := fun w' => (w'.cell? ⟨b1, o1 + i * 4, none⟩ = some (.int .i64 x.k) ∧ w'.cell? ⟨b1, o1 + i * 4 + 1, none⟩ = some (.int .i64 x.i) ∧ w'.cell? ⟨b1, o1 + i * 4 + 2, none⟩ = some (.int .u64 x.u) ∧ w'.cell? ⟨b1, o1 + i * 4 + 3, none⟩ = some (.string (strL x.s))) ∧ (w'.cell? ⟨b2, o2 + i * 4, none⟩ = some (.int .i64 y.k) ∧ w'.cell? ⟨b2, o2 + i * 4 + 1, none⟩ = some (.int .i64 y.i) ∧ w'.cell? ⟨b2, o2 + i * 4 + 2, none⟩ = some (.int .u64 y.u) ∧ w'.cell? ⟨b2, o2 + i * 4 + 3, none⟩ = some (.string (strL y.s)))) (by kernel_rfl) ⟨e1, e2⟩ (fun hHeld => ?_)
      refine wpAnyH_takeL (i := 0) (v := ?vhy18) rfl (by kernel_rfl) (by kernel_rfl) (by kernel_rfl) (fun _ _ _ h => h) (Or.inl ⟨by rfl, ?hy18⟩) (by assumption) ?rhy18
      case hy18 => ((intro w hSw; (try dsimp only at hSw); go_simp); try with_reducible rfl)
      try simp only [Act.put, List.setIfInBounds_toArray, List.set_cons_zero, List.set_cons_succ]
      refine wpAnyH_takeL (i := 1) (v := ?vhy19) rfl (by kernel_rfl) (by kernel_rfl) (by kernel_rfl) (fun _ _ _ h => h) (Or.inl ⟨by rfl, ?hy19⟩) (by assumption) ?rhy19
      case hy19 => ((intro w hSw; (try dsimp only at hSw); go_simp); try with_reducible rfl)
      try simp only [Act.put, List.setIfInBounds_toArray, List.set_cons_zero, List.set_cons_succ]
      refine wpAnyH_takeL (i := 2) (v := ?vhy20) rfl (by kernel_rfl) (by kernel_rfl) (by kernel_rfl) (fun _ _ _ h => h) (Or.inl ⟨by rfl, ?hy20⟩) (by assumption) ?rhy20
      case hy20 => ((intro w hSw; (try dsimp only at hSw); go_simp); try with_reducible rfl)
      try simp only [Act.put, List.setIfInBounds_toArray, List.set_cons_zero, List.set_cons_succ]
      refine wpAnyH_takeL (i := 3) (v := ?vhy21) rfl (by kernel_rfl) (by kernel_rfl) (by kernel_rfl) (fun _ _ _ h => h) (Or.inl ⟨by rfl, ?hy21⟩) (by assumption) ?rhy21
      case hy21 => ((intro w hSw; (try dsimp only at hSw); go_simp); try with_reducible rfl)
      try simp only [Act.put, List.setIfInBounds_toArray, List.set_cons_zero, List.set_cons_succ]
      refine wpAnyH_takeL (i := 4) (v := ?vhy22) rfl (by kernel_rfl) (by kernel_rfl) (by kernel_rfl) (fun _ _ _ h => h) (Or.inl ⟨by rfl, ?hy22⟩) (by assumption) ?rhy22
      case hy22 => ((intro w hSw; (try dsimp only at hSw); go_simp); try with_reducible rfl)
      try simp only [Act.put, List.setIfInBounds_toArray, List.set_cons_zero, List.set_cons_succ]
      refine wpAnyH_takeL (i := 5) (v := ?vhy23) rfl (by kernel_rfl) (by kernel_rfl) (by kernel_rfl) (fun _ _ _ h => h) (Or.inl ⟨by rfl, ?hy23⟩) (by assumption) ?rhy23
      case hy23 => ((intro w hSw; (try dsimp only at hSw); go_simp); try with_reducible rfl)
      try simp only [Act.put, List.setIfInBounds_toArray, List.set_cons_zero, List.set_cons_succ]
      refine wpAnyH_takeL (i := 6) (v := ?vhy24) rfl (by kernel_rfl) (by kernel_rfl) (by kernel_rfl) (fun _ _ _ h => h) (Or.inl ⟨by rfl, ?hy24⟩) (by assumption) ?rhy24
      case hy24 => ((intro w hSw; (try dsimp only at hSw); go_simp); try with_reducible rfl)
      try simp only [Act.put, List.setIfInBounds_toArray, List.set_cons_zero, List.set_cons_succ]
      refine wpAnyH_takeL (i := 7) (v := ?vhy25) rfl (by kernel_rfl) (by kernel_rfl) (by kernel_rfl) (fun _ _ _ h => h) (Or.inl ⟨by rfl, ?hy25⟩) (by assumption) ?rhy25
      case hy25 => ((intro w hSw; (try dsimp only at hSw); go_simp); try with_reducible rfl)
      try simp only [Act.put, List.setIfInBounds_toArray, List.set_cons_zero, List.set_cons_succ]
      refine wpAnyH_takeL (i := 8) (v := ?vhy26) rfl (by kernel_rfl) (by kernel_rfl) (by kernel_rfl) (fun _ _ _ h => h) (Or.inl ⟨by rfl, ?hy26⟩) (by assumption) ?rhy26
      case hy26 => ((intro w hSw; (try dsimp only at hSw); go_simp); try with_reducible rfl)
      try simp only [Act.put, List.setIfInBounds_toArray, List.set_cons_zero, List.set_cons_succ]
      refine wpAnyH_ready (rs := [9]) (by kernel_rfl) (by simp) ?_
      refine AllReadyH.consL (i := 9) rfl (fun K hK => ?_) AllReadyH.nil
      go_simp
      refine (VOrder_any x y _).mono ?_
      rintro e W2 ⟨rfl, hb3⟩
      replace hb3 := gr ((Below.refl _ wr).drew) hb3
      have hB2 := gr hB hb3
      refine hK.out _ _ ⟨⟨?_, ?_, ?_, ?_⟩, ⟨?_, ?_, ?_, ?_⟩⟩ (fun hHeld => ?_)
      · exact (hb3.cell (p := ⟨b1, o1 + i * 4, none⟩) (Nat.lt_of_lt_of_le hb1 hB.size)).trans e1.1
      · exact (hb3.cell (p := ⟨b1, o1 + i * 4 + 1, none⟩) (Nat.lt_of_lt_of_le hb1 hB.size)).trans e1.2.1
      · exact (hb3.cell (p := ⟨b1, o1 + i * 4 + 2, none⟩) (Nat.lt_of_lt_of_le hb1 hB.size)).trans e1.2.2.1
      · exact (hb3.cell (p := ⟨b1, o1 + i * 4 + 3, none⟩) (Nat.lt_of_lt_of_le hb1 hB.size)).trans e1.2.2.2
      · exact (hb3.cell (p := ⟨b2, o2 + i * 4, none⟩) (Nat.lt_of_lt_of_le hb2 hB.size)).trans e2.1
      · exact (hb3.cell (p := ⟨b2, o2 + i * 4 + 1, none⟩) (Nat.lt_of_lt_of_le hb2 hB.size)).trans e2.2.1
      · exact (hb3.cell (p := ⟨b2, o2 + i * 4 + 2, none⟩) (Nat.lt_of_lt_of_le hb2 hB.size)).trans e2.2.2.1
      · exact (hb3.cell (p := ⟨b2, o2 + i * 4 + 3, none⟩) (Nat.lt_of_lt_of_le hb2 hB.size)).trans e2.2.2.2
      clear hK
      try simp only [Act.put, List.setIfInBounds_toArray, List.set_cons_zero, List.set_cons_succ]
      refine wpAnyH_takeL (i := 10) (v := ?vhy27) rfl (by kernel_rfl) (by kernel_rfl) (by kernel_rfl) (fun _ _ _ h => h) (Or.inl ⟨by rfl, ?hy27⟩) (by assumption) ?rhy27
      case hy27 => ((intro w hSw; (try dsimp only at hSw); go_simp); try with_reducible rfl)
      try simp only [Act.put, List.setIfInBounds_toArray, List.set_cons_zero, List.set_cons_succ]
      refine wpAnyH_done (by kernel_rfl) ?_ _
      refine NoPanic.normal ?_
      clear hHeld e1 e2 hc1 hc2 hmin
      by_cases h0 : ordV x y = 0
      · have hd : (ordV x y != 0) = false := by simpa using h0
        have hL2 := hL.out
        rw [if_neg (by simpa using h0)] at hL2
        clear hL h0
        generalize ordV x y = z at *
        go_wp2
        exact ⟨⟨i + 1, rfl, by omega, by omega, hB2, hL2⟩, by simp [intOf]; omega⟩
      · have hd : (ordV x y != 0) = true := by simpa using h0
        have hL2 := hL.out
        rw [if_pos h0] at hL2
        clear hL h0
        replace hL2 := Lib.hid hL2
        generalize hz : ordV x y = z at *
        clear hz
        go_wp2
        go_ret
        exact ⟨ret_int hL2.out, hB2⟩
    · have hmin : decide ((i : Int) < min (n : Int) (m : Int)) = false := by simp; omega
      have hL2 : listsV xs ys = Lib.compareInt (n : Int) (m : Int) := by
        rw [← hL, compareInt_eq]
        by_cases hn : i < n
        · rw [List.drop_eq_getElem_cons (show i < xs.length by omega), List.drop_eq_nil_of_le (show ys.length ≤ i by omega), if_neg (by omega)]
          simp [listsV, byV]
          omega
        · by_cases hm : i < m
          · rw [List.drop_eq_getElem_cons (show i < ys.length by omega), List.drop_eq_nil_of_le (show xs.length ≤ i by omega), if_neg (by omega)]
            simp [listsV, byV]
            omega
          · rw [List.drop_eq_nil_of_le (show ys.length ≤ i by omega), List.drop_eq_nil_of_le (show xs.length ≤ i by omega), if_pos (by omega)]
            rfl
      replace hL2 := Lib.hid hL2
      clear hL
      go_wp2_with (go_at_call 70; refine (cmp_N _ _ _).mono ?_; rintro e w' ⟨rfl, rfl⟩)
      go_ret
      exact ⟨ret_int hL2.out.symm, hB⟩
theorem VLists_any (A : Option Addr) (n c : Nat) (xs : List Vl) (B : Option Addr) (m d : Nat) (ys : List Vl) (w : World) (hr : Rv w 4 A n c (vcells xs)) (hq : Rv w 4 B m d (vcells ys)) :
    Calls Tryz.prog 19 #[.slice A n c, .slice B m d] w fun e w' => e = .returned (.int .i64 (listsV xs ys)) ∧ Below w.heap.size w w' := by
  go_enter Tryz.func19, Tryz.ntmps19
  go_wp2_with (go_at_call 43; refine (VHeld_any _ _ _ _ _ _ _ _ _ hr hq).mono ?_; rintro e w' ⟨rfl, hb⟩)
  go_ret
  exact ⟨rfl, hb⟩
end Go.Proofs.YtcicmeggbkhniaaGreatDoor
