/- KeyHolds: true, whatever the two lists. -/
import Derived.Test.YtdgmhegcoogokaaDoorKeyW
import Derived.Test.YtdgmhegcoogokaaDoorRefV
import Derived.Test.YtdgmhegcoogokaaDoorKeyOrd
namespace Go.Proofs.YtdgmhegcoogokaaDoor
open Go.RowKit
set_option linter.unusedVariables false
attribute [local go_sem] strL_toList strL_size

theorem Rv.beginV {w : World} {A : Option Addr} {n c : Nat} {xs : List Vl} (h : Rv w 4 A n c (vcells xs)) (m : Nat) (hm : m ≤ n) : Rv w 4 A m c (vcells (xs.take m)) := by
  have hxn : xs.length = n := by
    have := h.1
    rw [vcells_length] at this
    omega
  refine ⟨by rw [vcells_length, List.length_take, Nat.min_eq_left (by omega)], Nat.le_trans hm h.2.1, h.2.2.1, fun h0 => ?_⟩
  obtain ⟨b, off, rfl, hb, hc⟩ := h.2.2.2 (by omega)
  refine ⟨b, off, rfl, hb, fun j u hu => hc j u ?_⟩
  · have e : vcells xs = vcells (xs.take m) ++ vcells (xs.drop m) := by
      unfold vcells
      rw [← List.flatMap_append, List.take_append_drop]
    rw [e, List.getElem?_append_left]
    · exact hu
    · exact (List.getElem?_eq_some_iff.1 hu).1
theorem encV_zero {xs : List Vl} (h : (encV xs).2 = 0) : (∀ x ∈ xs, x.chk = 0) ∧ (encV xs).1 = keysV xs := by
  unfold encV at *
  cases hf : xs.find? (fun x => decide (x.chk ≠ 0)) with
  | some x =>
    rw [hf] at h
    have := List.find?_some hf
    simp at this
    exact absurd h this
  | none =>
    rw [hf] at h
    simp only at h ⊢
    by_cases hz : 2000 < (keysV xs).length
    · rw [if_pos hz] at h
      cases h
    · rw [if_neg hz]
      refine ⟨fun x hx => ?_, rfl⟩
      have := List.find?_eq_none.1 hf x hx
      simpa using this
theorem encV_no (xs : List Vl) : (encV xs).2 ≤ 1000 := by
  unfold encV
  cases hf : xs.find? (fun x => decide (x.chk ≠ 0)) with
  | some x =>
    simp only
    unfold Vl.chk chkV
    split
    · split <;> omega
    · omega
  | none =>
    simp only
    split <;> simp
theorem fewV_len {xs : List Vl} {m : Nat} (h : fewV xs m = true) : xs.length ≤ m := by
  unfold fewV at h
  exact (of_decide_eq_true h).1

set_option maxRecDepth 100000 in
set_option maxHeartbeats 2000000 in
theorem KeyHolds_walk (A : Option Addr) (n c : Nat) (xs : List Vl) (B : Option Addr) (m d : Nat) (ys : List Vl) (w : World) (hr : Rv w 4 A n c (vcells xs)) (hq : Rv w 4 B m d (vcells ys)) (hx : ∀ x ∈ xs, x.Wf) (hy : ∀ y ∈ ys, y.Wf) :
    Calls Tryd.prog 6 #[.slice A n c, .slice B m d] w fun e w' => e = .returned (.bool true) ∧ Below w.heap.size w w' := by
  have hxn : xs.length = n := by
    have := hr.1
    rw [vcells_length] at this
    omega
  have hym : ys.length = m := by
    have := hq.1
    rw [vcells_length] at this
    omega
  by_cases hf1 : fewV xs 5 = false
  · go_enter Tryd.func6, Tryd.ntmps6
    go_wp2_with (first
      | (go_at_call 8; refine (few_any A n c xs 5 _ hr (by decide)).mono ?_; rw [hf1]; rintro e w' ⟨rfl, rfl⟩)
      | (go_at_call 9; refine (works_any _).mono ?_; rintro e w' ⟨rfl, hb⟩))
    go_ret
    exact ⟨rfl, hb⟩
  replace hf1 : fewV xs 5 = true := by simpa using hf1
  by_cases hf2 : fewV ys 5 = false
  · go_enter Tryd.func6, Tryd.ntmps6
    go_wp2_with fail
    refine (few_any A n c xs 5 _ hr (by decide)).mono ?_
    rw [hf1]
    rintro e w' ⟨rfl, rfl⟩
    go_wp2_with fail
    refine (few_any B m d ys 5 _ hq (by decide)).mono ?_
    rw [hf2]
    rintro e w' ⟨rfl, rfl⟩
    go_wp2_with (go_at_call 9; refine (works_any _).mono ?_; rintro e w' ⟨rfl, hb⟩)
    go_ret
    exact ⟨rfl, hb⟩
  replace hf2 : fewV ys 5 = true := by simpa using hf2
  have hn5 := fewV_len hf1
  have hm5 := fewV_len hf2
  go_enter Tryd.func6, Tryd.ntmps6
  go_wp2_with fail
  refine (few_any A n c xs 5 _ hr (by decide)).mono ?_
  rw [hf1]
  rintro e w' ⟨rfl, rfl⟩
  go_wp2_with fail
  refine (few_any B m d ys 5 _ hq (by decide)).mono ?_
  rw [hf2]
  rintro e w' ⟨rfl, rfl⟩
  go_wp2_with fail
  refine (Encode_any A n c xs _ hr hx (by omega)).mono ?_
  rintro e w1 ⟨rfl, hb1⟩
  have hr1 := hr.below hb1
  have hq1 := hq.below hb1
  go_wp2_with fail
  refine (Encode_any B m d ys _ hq1 hy (by omega)).mono ?_
  rintro e w2 ⟨rfl, hb2⟩
  have hr2 := hr1.below hb2
  have hq2 := hq1.below hb2
  have hb := gr hb1 hb2
  clear hr hq hr1 hq1 hb1 hb2
  by_cases hz : (encV xs).2 = 0 ∧ (encV ys).2 = 0
  · obtain ⟨hz1, hz2⟩ := hz
    obtain ⟨hc1, hk1⟩ := encV_zero hz1
    obtain ⟨hc2, hk2⟩ := encV_zero hz2
    rw [hz1, hz2, hk1, hk2]
    have hkl := keysV_length xs hx hc1
    obtain ⟨o1, o2, o3⟩ := keys_order xs ys (fun x h => ⟨hx x h, hc1 x h⟩) (fun y h => ⟨hy y h, hc2 y h⟩)
    clear hz1 hz2 hk1 hk2
    have o2' : (keysV xs == keysV ys) = (listsV xs ys == 0) := by
      rw [Bool.eq_iff_iff]
      simpa using o2
    have hnd : m ≤ d := hq2.2.1
    have hd9 : d ≤ 9223372036854775807 := hq2.2.2.1
    generalize hzz : listsV xs ys = z at *
    by_cases hnm : n ≤ m
    · have hnm2 : n ≤ d := by omega
      have hqt := hq2.beginV n hnm
      have o3' : Op.bytesLess (keysV ys) (keysV xs ++ [255]) = (decide (0 < z) || (listsV (ys.take n) xs == 0)) := by
        rw [o3, hxn, hym, decide_eq_true hnm]
        rfl
      generalize hgg : (listsV (ys.take n) xs == 0) = gg at *
      clear o2 o3
      go_wp2_with (first
        | (go_at_call 12; refine (lnum_any _ _).mono ?_; rintro e w' ⟨rfl, rfl⟩)
        | (go_at_call 18; refine (Lists_any _ _ _ _ _ _ _ _ _ hr2 hq2).mono ?_; rw [hzz]; rintro e w3 ⟨rfl, hb3⟩)
        | (go_at_call 14; refine (Same_any _ _ _ _ _ _ _ _ _ (hqt.below hb3) (hr2.below hb3)).mono ?_; rw [hgg]; rintro e w4 ⟨rfl, hb4⟩)
        | (go_at_call 19; refine (All_any _ _ (by omega)).mono ?_; rintro e w' ⟨rfl, rfl⟩)
        | (go_at_call 9; refine (works_any _).mono ?_; rintro e w5 ⟨rfl, hb5⟩))
      all_goals (go_ret; exact ⟨rfl, gr (gr (gr hb hb3) hb4) hb5⟩)
    · have o3' : Op.bytesLess (keysV ys) (keysV xs ++ [255]) = decide (0 < z) := by
        rw [o3, hxn, hym, decide_eq_false hnm]
        simp
      clear o2 o3
      go_wp2_with (first
        | (go_at_call 12; refine (lnum_any _ _).mono ?_; rintro e w' ⟨rfl, rfl⟩)
        | (go_at_call 18; refine (Lists_any _ _ _ _ _ _ _ _ _ hr2 hq2).mono ?_; rw [hzz]; rintro e w3 ⟨rfl, hb3⟩)
        | (go_at_call 19; refine (All_any _ _ (by omega)).mono ?_; rintro e w' ⟨rfl, rfl⟩)
        | (go_at_call 9; refine (works_any _).mono ?_; rintro e w5 ⟨rfl, hb5⟩))
      all_goals (go_ret; exact ⟨rfl, gr (gr hb hb3) hb5⟩)
  · have hsum : (((encV xs).2 : Int) + ((encV ys).2 : Int) != 0) = true := by simp; omega
    have hsm : (encV xs).2 ≤ 1000 ∧ (encV ys).2 ≤ 1000 := ⟨encV_no _, encV_no _⟩
    generalize (encV xs).2 = e1 at *
    generalize (encV ys).2 = e2 at *
    go_wp2_with (first
      | (go_at_call 12; refine (lnum_any _ _).mono ?_; rintro e w' ⟨rfl, rfl⟩)
      | (go_at_call 9; refine (works_any _).mono ?_; rintro e w5 ⟨rfl, hb5⟩))
    go_ret
    exact ⟨rfl, gr hb hb5⟩
end Go.Proofs.YtdgmhegcoogokaaDoor
