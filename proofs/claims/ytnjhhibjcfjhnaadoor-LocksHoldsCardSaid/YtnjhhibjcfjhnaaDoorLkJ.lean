/- Locks: Release. -/
import Derived.Test.YtnjhhibjcfjhnaaDoorLkI
namespace Go.Proofs.YtnjhhibjcfjhnaaDoor
open Go.RowKit
set_option linter.unusedVariables false

def relK (s : Int) (xs : List Ak) : Int := if !(thereK s) then 2 else if xs.any (isS s) then 0 else 5
theorem idxL_erase {α : Type} (p : α → Bool) : ∀ (l : List α) (i : Nat), idxL p l = (i : Int) → l.eraseIdx i = l.eraseP p
  | [], i, h => by simp [idxL] at h
  | x :: r, i, h => by
    cases hq : p x with
    | true =>
      simp [idxL, hq] at h
      obtain rfl : i = 0 := by omega
      simp [hq]
    | false =>
      by_cases e : idxL p r = -1
      · simp [idxL, hq, e] at h
      · have hg := idxL_ge p r
        simp [idxL, hq, e] at h
        obtain ⟨j, rfl⟩ : ∃ j, i = j + 1 := ⟨i - 1, by omega⟩
        have := idxL_erase p r j (by omega)
        simp [hq, this]
set_option maxRecDepth 100000 in
set_option maxHeartbeats 4000000 in
theorem Release_any {w : World} {base B : Nat} {now : Int} {A : Option Addr} {n c : Nat} {xs : List Ak} (h : LK w base B now A n c xs) (hE : Env w) (s : Int) (hn : n < 20) :
    Calls Tryd.prog 13 #[.pointer (some ⟨B, 0, none⟩), .int .i64 s] w fun e w' =>
      (relK s xs ≠ 0 ∧ e = .returned (.tuple #[.slice none 0 0, .int .i64 (relK s xs)]) ∧ Below w.heap.size w w') ∨
      (relK s xs = 0 ∧ ∃ A' c' R d, e = .returned (.tuple #[.slice R (settleK (xs.eraseP (isS s))).2.length d, .int .i64 0]) ∧ LK w' base B now A' (n - 1) c' (settleK (xs.eraseP (isS s))).1 ∧
        Ov w' w.heap.size 3 1 R (settleK (xs.eraseP (isS s))).2.length d (icells (settleK (xs.eraseP (isS s))).2) ∧ (∀ g, ab A' = some g → w.heap.size ≤ g) ∧ w.grownBy w' (some B)) := by
  have hat := Lib.hid (At_any h s)
  have hth := Lib.hid (There_any s)
  have hL := Lib.hid (fun W (hW : Below w.heap.size w W) => h.below hW)
  have hbw : base ≤ w.heap.size := Nat.le_of_lt (Nat.lt_of_le_of_lt h.ge h.lt)
  have hbl := h.lt
  have hln := h.len
  clear h
  cases ht : thereK s with
  | false =>
    have hk : relK s xs = 2 := by unfold relK; rw [ht]; rfl
    rw [hk]
    rw [ht] at hth
    refine Calls.mono (R := fun e w' => e = .returned (.tuple #[.slice none 0 0, .int .i64 2]) ∧ Below w.heap.size w w') ?_ (fun e w' q => .inl ⟨by decide, q⟩)
    have hnu := Lib.hid (fun W (hW : Below w.heap.size w W) => Number_any s 2 W (hE.below hW) (by decide))
    have his := Lib.hid (fun W => is_fault s 2 W (by decide))
    have eF : faultV s 2 = .iface 83 (.agg #[.int .i64 s, .int .i64 2]) := if_neg (by decide)
    rw [eF] at hnu
    clear eF hk ht
    generalize idxL (isS s) xs = z at *
    go_enter Tryd.func13, Tryd.ntmps13
    go_wp2_with fail
    refine hat.out.mono ?_
    rintro e w1 ⟨rfl, hb1⟩
    clear hat
    go_wp2_with (go_at_call 34; refine (hth.out _).mono ?_; rintro e w1 ⟨rfl, rfl⟩)
    refine (his.out _).mono ?_
    rintro e w2 ⟨rfl, hb2⟩
    clear his
    go_wp2_with fail
    refine (hnu.out _ (gr hb1 hb2)).mono ?_
    rintro e w3 ⟨rfl, hb3⟩
    clear hnu
    go_wp2
    go_ret2
    exact ⟨rfl, gr (gr hb1 hb2) hb3⟩
  | true =>
    rw [ht] at hth
    rcases idxL_cases (isS s) xs with ⟨h1, h2⟩ | ⟨i, hi, h1, h2, h3, h4⟩
    · have hany := idxL_any (isS s) xs
      rw [h1] at hany
      have hk : relK s xs = 5 := by unfold relK; rw [ht, ← hany]; rfl
      rw [hk]
      refine Calls.mono (R := fun e w' => e = .returned (.tuple #[.slice none 0 0, .int .i64 5]) ∧ Below w.heap.size w w') ?_ (fun e w' q => .inl ⟨by decide, q⟩)
      have hnu := Lib.hid (fun W (hW : Below w.heap.size w W) => Number_any s 5 W (hE.below hW) (by decide))
      have his := Lib.hid (fun W => is_fault s 5 W (by decide))
      have eF : faultV s 5 = .iface 83 (.agg #[.int .i64 s, .int .i64 5]) := if_neg (by decide)
      rw [eF] at hnu
      rw [h1] at hat
      clear eF hk ht hany h1 h2
      go_enter Tryd.func13, Tryd.ntmps13
      go_wp2_with fail
      refine hat.out.mono ?_
      rintro e w1 ⟨rfl, hb1⟩
      clear hat
      go_wp2_with (go_at_call 34; refine (hth.out _).mono ?_; rintro e w1 ⟨rfl, rfl⟩)
      refine (his.out _).mono ?_
      rintro e w2 ⟨rfl, hb2⟩
      clear his
      go_wp2_with fail
      refine (hnu.out _ (gr hb1 hb2)).mono ?_
      rintro e w3 ⟨rfl, hb3⟩
      clear hnu
      go_wp2
      go_ret2
      exact ⟨rfl, gr (gr hb1 hb2) hb3⟩
    · have hk : relK s xs = 0 := by unfold relK; rw [ht, h3]; rfl
      have her := idxL_erase _ _ _ h1
      rw [hk]
      refine Calls.mono (R := fun e w' => ∃ A' c' R d, e = .returned (.tuple #[.slice R (settleK (xs.eraseP (isS s))).2.length d, .int .i64 0]) ∧ LK w' base B now A' (n - 1) c' (settleK (xs.eraseP (isS s))).1 ∧
        Ov w' w.heap.size 3 1 R (settleK (xs.eraseP (isS s))).2.length d (icells (settleK (xs.eraseP (isS s))).2) ∧ (∀ g, ab A' = some g → w.heap.size ≤ g) ∧ w.grownBy w' (some B)) ?_ (fun e w' q => .inr ⟨rfl, q⟩)
      rw [h1] at hat
      have hge : decide ((i : Int) < 0) = false := by simp
      have hwr : IntKind.i64.wrap ((i : Int) + 1) = (i : Int) + 1 := by rw [IntKind.wrap_i64]; omega
      rw [← her]
      have hmem : ∀ x ∈ xs.eraseIdx i, x ∈ xs := fun x hx => List.mem_of_mem_eraseIdx hx
      clear hk ht h1 h2 h3 h4 her
      go_enter Tryd.func13, Tryd.ntmps13
      go_wp2_with fail
      refine hat.out.mono ?_
      rintro e w1 ⟨rfl, hb1⟩
      have h1 := hL.out w1 hb1
      have hcs := h1.cells
      have hcl := Lib.hid (CloneA_any A n c xs w1 h1.own.rv (by omega))
      clear hat
      go_wp2_with (go_at_call 34; refine (hth.out _).mono ?_; rintro e w1 ⟨rfl, rfl⟩)
      refine hcl.out.mono ?_
      rintro e w2 ⟨A2, c2, rfl, hO2, hb2⟩
      have h2 := h1.below hb2
      have hde := Lib.hid (Delete_any hO2 i (by omega) (by omega))
      clear hcl hcs h1
      go_wp2_with fail
      refine hde.out.mono ?_
      rintro e w3 ⟨rfl, hO3, hg3⟩
      have hs1 := hb1.size
      have hb3 : Below w2.heap.size w2 w2 := Below.refl _ _
      have hbb : Below w1.heap.size w2 w3 := (Below.refl _ _).grown hg3 hb2.size (fun k e => (hO2.ab k e).1)
      have h3 : LK w3 base B now A n c xs := by
        have hB1 : B < w1.heap.size := by omega
        have hx := hL.out w1 hb1
        have hy := hx.below (show Below w1.heap.size w1 w3 from hb2.trans hbb)
        exact hy
      have h4 := h3.setAsks (ys := xs.eraseIdx i) (hO3.ge (by omega)) (fun x hx => h3.tabs x (hmem x hx))
      have cB := h3.cells
      have fB := h3.frozen 1
      have hg4 : w.grownBy (w3.setCell ⟨B, 1, none⟩ (.slice A2 (n - 1) c2)) (some B) := grown_tr (grown_wk (gr hb1 (show Below w1.heap.size w1 w3 from hb2.trans hbb)) _) (grownBy_at w3 B 1 _)
      have hse := Lib.hid (Settle_any h4 (by omega))
      clear hde h2 h3 h4 hO2 hO3 hg3 hbb hb3
      go_wp2_with fail
      refine hse.out.mono ?_
      rintro e w5 ⟨A5, c5, R, d, rfl, h5, hR5, hA5, hg5⟩
      clear hse cB fB
      have hz := hg4.size
      go_wp2
      go_ret2
      exact ⟨A5, c5, R, d, rfl, h5, hR5.ge hz, fun g hg => Nat.le_trans hz (hA5 g hg), grown_tr hg4 hg5⟩
end Go.Proofs.YtnjhhibjcfjhnaaDoor
