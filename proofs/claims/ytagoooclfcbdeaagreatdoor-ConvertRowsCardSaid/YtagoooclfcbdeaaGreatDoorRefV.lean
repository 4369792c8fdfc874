/- The reference's order of values and of lists; few. -/
import Derived.Test.YtagoooclfcbdeaaGreatDoorVl
import Derived.Test.YtagoooclfcbdeaaGreatDoorReg
namespace Go.Proofs.YtagoooclfcbdeaaGreatDoor
open Go.RowKit
set_option linter.unusedVariables false

def byV (b : Bool) : Int := if b then -1 else 1
def ordV (a b : Vl) : Int := if a.k ≠ b.k then byV (decide (a.k < b.k)) else if a.i ≠ b.i then byV (decide (a.i < b.i)) else if a.u ≠ b.u then byV (decide (a.u < b.u)) else if a.s ≠ b.s then byV (Op.bytesLess a.s b.s) else 0
def listsV : List Vl → List Vl → Int
  | [], [] => 0
  | [], _ :: _ => -1
  | _ :: _, [] => 1
  | a :: l, b :: m => if ordV a b ≠ 0 then ordV a b else listsV l m

theorem by_any (b : Bool) (w : World) : Calls Tryz.prog 58 #[.bool b] w fun e w' => e = .returned (.int .i64 (byV b)) ∧ w = w' := by
  cases b
  · go_enter Tryz.func58, Tryz.ntmps58
    go_wp2
    go_ret
    exact ⟨rfl, rfl⟩
  · go_enter Tryz.func58, Tryz.ntmps58
    go_wp2
    go_ret
    exact ⟨rfl, rfl⟩

attribute [local go_sem] strL_toList strL_size
set_option maxRecDepth 100000 in
theorem Order_any (a b : Vl) (w : World) : Calls Tryz.prog 57 #[a.val, b.val] w fun e w' => e = .returned (.int .i64 (ordV a b)) ∧ Below w.heap.size w w' := by
  obtain ⟨ak, ai, au, aS⟩ := a
  obtain ⟨bk, bi, bu, bS⟩ := b
  unfold Vl.val valV ordV
  dsimp only
  have hb : ∀ o1 o2, Below w.heap.size w ((w.alloc o1).alloc o2) := fun o1 o2 => ((Below.refl _ w).alloc (Nat.le_refl _) o1).alloc (by simp) o2
  by_cases hk : ak = bk
  · have dk : (ak != bk) = false := by simpa using hk
    rw [if_neg (by simpa using hk)]
    by_cases hi : ai = bi
    · have di : (ai != bi) = false := by simpa using hi
      rw [if_neg (by simpa using hi)]
      by_cases hu : au = bu
      · have du : (au != bu) = false := by simpa using hu
        rw [if_neg (by simpa using hu)]
        by_cases hs : aS = bS
        · rw [if_neg (by simpa using hs)]
          subst hs
          clear hk hi hu
          go_enter Tryz.func57, Tryz.ntmps57
          go_wp2_with (go_at_call 58; refine (by_any _ _).mono ?_; rintro e w' ⟨rfl, rfl⟩)
          go_ret
          exact ⟨rfl, hb _ _⟩
        · have ds : (aS == bS) = false := by simpa using hs
          rw [if_pos (by simpa using hs)]
          clear hk hi hu hs
          go_enter Tryz.func57, Tryz.ntmps57
          go_wp2_with (go_at_call 58; refine (by_any _ _).mono ?_; rintro e w' ⟨rfl, rfl⟩)
          go_ret
          exact ⟨rfl, hb _ _⟩
      · have du : (au != bu) = true := by simpa using hu
        rw [if_pos (by simpa using hu)]
        clear hk hi hu
        go_enter Tryz.func57, Tryz.ntmps57
        go_wp2_with (go_at_call 58; refine (by_any _ _).mono ?_; rintro e w' ⟨rfl, rfl⟩)
        go_ret
        exact ⟨rfl, hb _ _⟩
    · have di : (ai != bi) = true := by simpa using hi
      rw [if_pos (by simpa using hi)]
      clear hk hi
      go_enter Tryz.func57, Tryz.ntmps57
      go_wp2_with (go_at_call 58; refine (by_any _ _).mono ?_; rintro e w' ⟨rfl, rfl⟩)
      go_ret
      exact ⟨rfl, hb _ _⟩
  · have dk : (ak != bk) = true := by simpa using hk
    rw [if_pos (by simpa using hk)]
    clear hk
    go_enter Tryz.func57, Tryz.ntmps57
    go_wp2_with (go_at_call 58; refine (by_any _ _).mono ?_; rintro e w' ⟨rfl, rfl⟩)
    go_ret
    exact ⟨rfl, hb _ _⟩

def fewV (xs : List Vl) (many : Nat) : Bool := decide (xs.length ≤ many ∧ ∀ x ∈ xs, x.s.length ≤ 300)

/-- A value of a slice, cell by cell. -/
theorem vcells_cell {w W : World} {b off : Nat} {xs : List Vl} (hcell : ∀ j u, (vcells xs)[j]? = some u → w.cell? ⟨b, off + j, none⟩ = some u) (hW : ∀ o, W.cell? ⟨b, o, none⟩ = w.cell? ⟨b, o, none⟩) (i : Nat) (h : i < xs.length) :
    W.cell? ⟨b, off + i * 4, none⟩ = some (.int .i64 xs[i].k) ∧ W.cell? ⟨b, off + i * 4 + 1, none⟩ = some (.int .i64 xs[i].i) ∧ W.cell? ⟨b, off + i * 4 + 2, none⟩ = some (.int .u64 xs[i].u) ∧ W.cell? ⟨b, off + i * 4 + 3, none⟩ = some (.string (strL xs[i].s)) := by
  have hca : ∀ j v, j < 4 → (xs[i].cells)[j]? = some v → W.cell? ⟨b, off + (4 * i + j), none⟩ = some v := fun j v hj hv => (hW _).trans (hcell (4 * i + j) v ((vcells_at xs i h j hj).trans hv))
  have c0 := hca 0 _ (by omega) rfl
  have c1 := hca 1 _ (by omega) rfl
  have c2 := hca 2 _ (by omega) rfl
  have c3 := hca 3 _ (by omega) rfl
  rw [Nat.add_zero] at c0
  simp only [← Nat.add_assoc, Nat.mul_comm 4 i] at c0 c1 c2 c3
  exact ⟨c0, c1, c2, c3⟩

set_option maxRecDepth 100000 in
set_option maxHeartbeats 2000000 in
theorem Lists_any (A : Option Addr) (n c : Nat) (xs : List Vl) (B : Option Addr) (m d : Nat) (ys : List Vl) (w : World) (hr : Rv w 4 A n c (vcells xs)) (hq : Rv w 4 B m d (vcells ys)) :
    Calls Tryz.prog 36 #[.slice A n c, .slice B m d] w fun e w' => e = .returned (.int .i64 (listsV xs ys)) ∧ Below w.heap.size w w' := by
  have hxn : xs.length = n := by
    have := hr.1
    rw [vcells_length] at this
    omega
  have hym : ys.length = m := by
    have := hq.1
    rw [vcells_length] at this
    omega
  have hcap : c ≤ 9223372036854775807 := hr.2.2.1
  have hle := hr.2.1
  have hcap2 : d ≤ 9223372036854775807 := hq.2.2.1
  have hle2 := hq.2.1
  go_enter Tryz.func36, Tryz.ntmps36
  go_wp2
  go_loopw [5] (fun p wr => ∃ i : Nat, p = .int .i64 (i : Int) ∧ i ≤ n ∧ i ≤ m ∧ Below w.heap.size w wr ∧ listsV (xs.drop i) (ys.drop i) = listsV xs ys)
    (fun p wr => n - (intOf p).toNat)
  case atStart => exact ⟨0, rfl, by omega, by omega, Below.refl _ _, rfl⟩
  case round =>
    obtain ⟨i, rfl, hi, hi2, hB, hL⟩ := hrel
    by_cases h1 : i < n
    · by_cases h2 : i < m
      · obtain ⟨b1, o1, rfl, hb1, hc1⟩ := hr.2.2.2 (by omega)
        obtain ⟨b2, o2, rfl, hb2, hc2⟩ := hq.2.2.2 (by omega)
        have e1 := vcells_cell hc1 (fun o => hB.cell (p := ⟨b1, o, none⟩) hb1) i (by omega)
        have e2 := vcells_cell hc2 (fun o => hB.cell (p := ⟨b2, o, none⟩) hb2) i (by omega)
        rw [List.drop_eq_getElem_cons (show i < xs.length by omega), List.drop_eq_getElem_cons (show i < ys.length by omega), listsV] at hL
        generalize xs[i] = x at *
        generalize ys[i] = y at *
        replace hL := Lib.hid hL
        go_wp2
        refine wp_region_noPanic ?_
        refine wp_region_held_drew (S := fun w' => (w'.cell? ⟨b1, o1 + i * 4, none⟩ = some (.int .i64 x.k) ∧ w'.cell? ⟨b1, o1 + i * 4 + 1, none⟩ = some (.int .i64 x.i) ∧ w'.cell? ⟨b1, o1 + i * 4 + 2, none⟩ = some (.int .u64 x.u) ∧ w'.cell? ⟨b1, o1 + i * 4 + 3, none⟩ = some (.string (strL x.s))) ∧ (w'.cell? ⟨b2, o2 + i * 4, none⟩ = some (.int .i64 y.k) ∧ w'.cell? ⟨b2, o2 + i * 4 + 1, none⟩ = some (.int .i64 y.i) ∧ w'.cell? ⟨b2, o2 + i * 4 + 2, none⟩ = some (.int .u64 y.u) ∧ w'.cell? ⟨b2, o2 + i * 4 + 3, none⟩ = some (.string (strL y.s)))) (by kernel_rfl) ⟨e1, e2⟩ (fun hHeld => ?_)
        refine wpAnyH_takeL (i := 0) (v := ?vhy1) rfl (by kernel_rfl) (by kernel_rfl) (by kernel_rfl) (fun _ _ _ h => h) (Or.inl ⟨by rfl, ?hy1⟩) (by assumption) ?rhy1
        case hy1 => ((intro w hSw; (try dsimp only at hSw); go_simp); try with_reducible rfl)
        try simp only [Act.put, List.setIfInBounds_toArray, List.set_cons_zero, List.set_cons_succ]
        refine wpAnyH_takeL (i := 1) (v := ?vhy2) rfl (by kernel_rfl) (by kernel_rfl) (by kernel_rfl) (fun _ _ _ h => h) (Or.inl ⟨by rfl, ?hy2⟩) (by assumption) ?rhy2
        case hy2 => ((intro w hSw; (try dsimp only at hSw); go_simp); try with_reducible rfl)
        try simp only [Act.put, List.setIfInBounds_toArray, List.set_cons_zero, List.set_cons_succ]
        refine wpAnyH_takeL (i := 2) (v := ?vhy3) rfl (by kernel_rfl) (by kernel_rfl) (by kernel_rfl) (fun _ _ _ h => h) (Or.inl ⟨by rfl, ?hy3⟩) (by assumption) ?rhy3
        case hy3 => ((intro w hSw; (try dsimp only at hSw); go_simp); try with_reducible rfl)
        try simp only [Act.put, List.setIfInBounds_toArray, List.set_cons_zero, List.set_cons_succ]
        refine wpAnyH_takeL (i := 3) (v := ?vhy4) rfl (by kernel_rfl) (by kernel_rfl) (by kernel_rfl) (fun _ _ _ h => h) (Or.inl ⟨by rfl, ?hy4⟩) (by assumption) ?rhy4
        case hy4 => ((intro w hSw; (try dsimp only at hSw); go_simp); try with_reducible rfl)
        try simp only [Act.put, List.setIfInBounds_toArray, List.set_cons_zero, List.set_cons_succ]
        refine wpAnyH_takeL (i := 4) (v := ?vhy5) rfl (by kernel_rfl) (by kernel_rfl) (by kernel_rfl) (fun _ _ _ h => h) (Or.inl ⟨by rfl, ?hy5⟩) (by assumption) ?rhy5
        case hy5 => ((intro w hSw; (try dsimp only at hSw); go_simp); try with_reducible rfl)
        try simp only [Act.put, List.setIfInBounds_toArray, List.set_cons_zero, List.set_cons_succ]
        refine wpAnyH_takeL (i := 5) (v := ?vhy6) rfl (by kernel_rfl) (by kernel_rfl) (by kernel_rfl) (fun _ _ _ h => h) (Or.inl ⟨by rfl, ?hy6⟩) (by assumption) ?rhy6
        case hy6 => ((intro w hSw; (try dsimp only at hSw); go_simp); try with_reducible rfl)
        try simp only [Act.put, List.setIfInBounds_toArray, List.set_cons_zero, List.set_cons_succ]
        refine wpAnyH_takeL (i := 6) (v := ?vhy7) rfl (by kernel_rfl) (by kernel_rfl) (by kernel_rfl) (fun _ _ _ h => h) (Or.inl ⟨by rfl, ?hy7⟩) (by assumption) ?rhy7
        case hy7 => ((intro w hSw; (try dsimp only at hSw); go_simp); try with_reducible rfl)
        try simp only [Act.put, List.setIfInBounds_toArray, List.set_cons_zero, List.set_cons_succ]
        refine wpAnyH_takeL (i := 7) (v := ?vhy8) rfl (by kernel_rfl) (by kernel_rfl) (by kernel_rfl) (fun _ _ _ h => h) (Or.inl ⟨by rfl, ?hy8⟩) (by assumption) ?rhy8
        case hy8 => ((intro w hSw; (try dsimp only at hSw); go_simp); try with_reducible rfl)
        try simp only [Act.put, List.setIfInBounds_toArray, List.set_cons_zero, List.set_cons_succ]
        refine wpAnyH_ready (rs := [8]) (by kernel_rfl) (by simp) ?_
        refine AllReadyH.consL (i := 8) rfl (fun K hK => ?_) AllReadyH.nil
        go_simp
        refine (Order_any x y _).mono ?_
        rintro e W2 ⟨rfl, hb3⟩
        replace hb3 := gr ((Below.refl _ wr).drew) hb3
        have hB2 := gr hB hb3
        refine hK.out _ _ ⟨⟨?_, ?_, ?_, ?_⟩, ⟨?_, ?_, ?_, ?_⟩⟩ (fun hHeld => ?_)
        · exact (hb3.cell (p := ⟨b1, o1 + i * 4, none⟩) (Nat.lt_of_lt_of_le hb1 hB.size)).trans e1.1
        · exact (hb3.cell (p := ⟨b1, o1 + i * 4 + 1, none⟩) (Nat.lt_of_lt_of_le hb1 hB.size)).trans e1.2.1
        · exact (hb3.cell (p := ⟨b1, o1 + i * 4 + 2, none⟩) (Nat.lt_of_lt_of_le hb1 hB.size)).trans e1.2.2.1
        · exact (hb3.cell (p := ⟨b1, o1 + i * 4 + 3, none⟩) (Nat.lt_of_lt_of_le hb1 hB.size)).trans e1.2.2.2
        · exact (hb3.cell (p := ⟨b2, o2 + i * 4, none⟩) (Nat.lt_of_lt_of_le hb2 hB.size)).trans e2.1
        · exact (hb3.cell (p := ⟨b2, o2 + i * 4 + 1, none⟩) (Nat.lt_of_lt_of_le hb2 hB.size)).trans e2.2.1
        · exact (hb3.cell (p := ⟨b2, o2 + i * 4 + 2, none⟩) (Nat.lt_of_lt_of_le hb2 hB.size)).trans e2.2.2.1
        · exact (hb3.cell (p := ⟨b2, o2 + i * 4 + 3, none⟩) (Nat.lt_of_lt_of_le hb2 hB.size)).trans e2.2.2.2
        clear hK
        try simp only [Act.put, List.setIfInBounds_toArray, List.set_cons_zero, List.set_cons_succ]
        refine wpAnyH_takeL (i := 9) (v := ?vhy9) rfl (by kernel_rfl) (by kernel_rfl) (by kernel_rfl) (fun _ _ _ h => h) (Or.inl ⟨by rfl, ?hy9⟩) (by assumption) ?rhy9
        case hy9 => ((intro w hSw; (try dsimp only at hSw); go_simp); try with_reducible rfl)
        try simp only [Act.put, List.setIfInBounds_toArray, List.set_cons_zero, List.set_cons_succ]
        refine wpAnyH_done (by kernel_rfl) ?_ _
        refine NoPanic.normal ?_
        clear hHeld e1 e2 hc1 hc2
        by_cases h0 : ordV x y = 0
        · have hd : (ordV x y != 0) = false := by simpa using h0
          have hL2 := hL.out
          rw [if_neg (by simpa using h0)] at hL2
          clear hL h0
          generalize ordV x y = z at *
          go_wp2
          exact ⟨⟨i + 1, rfl, by omega, by omega, hB2, hL2⟩, by simp [intOf]; omega⟩
        · have hd : (ordV x y != 0) = true := by simpa using h0
          have hL2 := hL.out
          rw [if_pos h0] at hL2
          clear hL h0
          replace hL2 := Lib.hid hL2
          generalize hz : ordV x y = z at *
          clear hz
          go_wp2
          go_ret
          exact ⟨ret_int hL2.out, hB2⟩
      · have hd2 : decide ((n : Int) < (m : Int)) = false := by simp; omega
        have hd3 : ((n : Int) == (m : Int)) = false := by simp; omega
        have hL2 : listsV xs ys = 1 := by
          rw [← hL, List.drop_eq_getElem_cons (show i < xs.length by omega), List.drop_eq_nil_of_le (show ys.length ≤ i by omega)]
          rfl
        replace hL2 := Lib.hid hL2
        clear hL
        go_wp2_with (go_at_call 58; refine (by_any _ _).mono ?_; rintro e w' ⟨rfl, rfl⟩)
        go_ret
        exact ⟨by rw [hL2.out]; simp [byV]; omega, hB⟩
    · by_cases h2 : i < m
      · have hd2 : decide ((n : Int) < (m : Int)) = true := by simp; omega
        have hd3 : ((n : Int) == (m : Int)) = false := by simp; omega
        have hL2 : listsV xs ys = -1 := by
          rw [← hL, List.drop_eq_getElem_cons (show i < ys.length by omega), List.drop_eq_nil_of_le (show xs.length ≤ i by omega)]
          rfl
        replace hL2 := Lib.hid hL2
        clear hL
        go_wp2_with (go_at_call 58; refine (by_any _ _).mono ?_; rintro e w' ⟨rfl, rfl⟩)
        go_ret
        exact ⟨by rw [hL2.out]; simp [byV]; omega, hB⟩
      · have hd3 : ((n : Int) == (m : Int)) = true := by simp; omega
        have hL2 : listsV xs ys = 0 := by
          rw [← hL, List.drop_eq_nil_of_le (show ys.length ≤ i by omega), List.drop_eq_nil_of_le (show xs.length ≤ i by omega)]
          rfl
        replace hL2 := Lib.hid hL2
        clear hL
        go_wp2
        go_ret
        exact ⟨by rw [hL2.out]; rfl, hB⟩
theorem Same_any (A : Option Addr) (n c : Nat) (xs : List Vl) (B : Option Addr) (m d : Nat) (ys : List Vl) (w : World) (hr : Rv w 4 A n c (vcells xs)) (hq : Rv w 4 B m d (vcells ys)) :
    Calls Tryz.prog 20 #[.slice A n c, .slice B m d] w fun e w' => e = .returned (.bool (listsV xs ys == 0)) ∧ Below w.heap.size w w' := by
  go_enter Tryz.func20, Tryz.ntmps20
  go_wp2_with (go_at_call 36; refine (Lists_any _ _ _ _ _ _ _ _ _ hr hq).mono ?_; rintro e w' ⟨rfl, hb⟩)
  go_ret
  exact ⟨rfl, hb⟩
end Go.Proofs.YtagoooclfcbdeaaGreatDoor
