/- KeyBytes: the walk. -/
import Derived.Test.YtdgmhegcoogokaaDoorRefE
import Derived.Test.YtdgmhegcoogokaaDoorRefP
import Derived.Test.YtdgmhegcoogokaaDoorKeyJ
namespace Go.Proofs.YtdgmhegcoogokaaDoor
open Go.RowKit
set_option linter.unusedVariables false
attribute [local go_sem] strL_toList strL_size

theorem encV_zero' {xs : List Vl} (h : (encV xs).2 = 0) : (∀ x ∈ xs, x.chk = 0) ∧ (encV xs).1 = keysV xs ∧ (keysV xs).length ≤ 2000 := by
  unfold encV at *
  cases hf : xs.find? (fun x => decide (x.chk ≠ 0)) with
  | some x =>
    rw [hf] at h
    have := List.find?_some hf
    simp at this
    exact absurd h this
  | none =>
    rw [hf] at h
    simp only at h ⊢
    by_cases hz : 2000 < (keysV xs).length
    · rw [if_pos hz] at h
      cases h
    · rw [if_neg hz]
      refine ⟨fun x hx => ?_, rfl, by omega⟩
      have := List.find?_eq_none.1 hf x hx
      simpa using this
theorem fewV_len' {xs : List Vl} {m : Nat} (h : fewV xs m = true) : xs.length ≤ m := by
  unfold fewV at h
  exact (of_decide_eq_true h).1

set_option maxRecDepth 100000 in
set_option maxHeartbeats 2000000 in
theorem KeyBytes_walk (A : Option Addr) (n c : Nat) (xs : List Vl) (w : World) (hr : Rv w 4 A n c (vcells xs)) (hwf : ∀ x ∈ xs, x.Wf) :
    Calls Tryd.prog 3 #[.slice A n c] w fun e w' => e = .returned (.bool true) ∧ Below w.heap.size w w' := by
  have hxn : xs.length = n := by
    have := hr.1
    rw [vcells_length] at this
    omega
  by_cases hf : fewV xs 8 = false
  · go_enter Tryd.func3, Tryd.ntmps3
    go_wp2_with (first
      | (go_at_call 8; refine (few_any A n c xs 8 _ hr (by decide)).mono ?_; rw [hf]; rintro e w' ⟨rfl, rfl⟩)
      | (go_at_call 9; refine (works_any _).mono ?_; rintro e w' ⟨rfl, hb⟩))
    go_ret
    exact ⟨rfl, hb⟩
  replace hf : fewV xs 8 = true := by simpa using hf
  have hn8 := fewV_len' hf
  go_enter Tryd.func3, Tryd.ntmps3
  go_wp2_with fail
  refine (few_any A n c xs 8 _ hr (by decide)).mono ?_
  rw [hf]
  rintro e w' ⟨rfl, rfl⟩
  go_wp2_with fail
  refine (Encode_any A n c xs w hr hwf (by omega)).mono ?_
  rintro e w1 ⟨rfl, hb1⟩
  have hr1 := hr.below hb1
  go_wp2_with fail
  refine (refEncode_any A n c xs w1 hr1 hwf (by omega)).mono ?_
  rintro e w2 ⟨rfl, hb2⟩
  have hr2 := hr1.below hb2
  have hb := gr hb1 hb2
  clear hr hr1 hb1 hb2
  by_cases hz : (encV xs).2 = 0
  · obtain ⟨hc, hk, hl⟩ := encV_zero' hz
    rw [hz, hk]
    obtain ⟨ps, hps⟩ := KChain.all (keysV xs) (keysV xs).length 0 (Nat.zero_le _) (by omega)
    have hdec := dec_keys (fun x hx => ⟨hwf x hx, hc x hx⟩) hps hl
    have hD := fun W => Decode_any (keysV xs) ps hps W (by omega)
    rw [hdec] at hD
    unfold DecPost at hD
    replace hD := Lib.hid hD
    clear hz hk hdec
    go_wp2_with (first
      | (go_at_call 12; refine (lnum_any _ _).mono ?_; rintro e w' ⟨rfl, rfl⟩)
      | fail)
    refine (hD.out _).mono ?_
    rintro e w3 ⟨B, m, d, rfl, hov, hb3⟩
    have hsame := Same_any B m d xs A n c xs w3 (Ov.rv hov) (hr2.below hb3)
    rw [listsV_refl] at hsame
    replace hsame := Lib.hid hsame
    go_wp2_with (first
      | (go_at_call 12; refine (lnum_any _ _).mono ?_; rintro e w' ⟨rfl, rfl⟩)
      | (go_at_call 14; refine hsame.out.mono ?_; rintro e w4 ⟨rfl, hb4⟩)
      | (go_at_call 9; refine (works_any _).mono ?_; rintro e w5 ⟨rfl, hb5⟩))
    go_ret
    exact ⟨rfl, gr (gr (gr hb hb3) hb4) hb5⟩
  · have hq : (((encV xs).2 : Int) != 0) = true := by simpa using hz
    generalize (encV xs).2 = e1 at *
    go_wp2_with (first
      | (go_at_call 12; refine (lnum_any _ _).mono ?_; rintro e w' ⟨rfl, rfl⟩)
      | (go_at_call 9; refine (works_any _).mono ?_; rintro e w5 ⟨rfl, hb5⟩))
    go_ret
    exact ⟨rfl, gr hb hb5⟩
end Go.Proofs.YtdgmhegcoogokaaDoor
