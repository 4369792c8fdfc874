/- KeyReads: the walk. -/
import Derived.Test.YtdgmhegcoogokaaDoorRefD
import Derived.Test.YtdgmhegcoogokaaDoorRefP
import Derived.Test.YtdgmhegcoogokaaDoorRefV
namespace Go.Proofs.YtdgmhegcoogokaaDoor
open Go.RowKit
set_option linter.unusedVariables false
attribute [local go_sem] strL_toList strL_size

theorem decV_cases {l : List UInt8} (xs : List (Place l)) : decV xs = ([], 150) ∨ (decV xs = (xs.map Place.x, 0) ∧ pos xs = l.length ∧ l.length ≤ 2000) := by
  unfold decV
  by_cases h : pos xs ≠ l.length ∨ 2000 < l.length
  · rw [if_pos h]
    exact .inl rfl
  · rw [if_neg h]
    exact .inr ⟨rfl, by omega, by omega⟩

set_option maxRecDepth 100000 in
set_option maxHeartbeats 2000000 in
theorem KeyReads_walk (l : List UInt8) (w : World) (hl : l.length ≤ maxLen) :
    Calls Tryd.prog 4 #[.string (strL l)] w fun e w' => e = .returned (.bool true) ∧ Below w.heap.size w w' := by
  by_cases h24 : 2400 < l.length
  · have hd : decide ((2400 : Int) < (l.length : Int)) = true := by simp; omega
    go_enter Tryd.func4, Tryd.ntmps4
    go_wp2_with (go_at_call 9; refine (works_any _).mono ?_; rintro e w' ⟨rfl, hb⟩)
    go_ret
    exact ⟨rfl, hb⟩
  have hd : decide ((2400 : Int) < (l.length : Int)) = false := by simp; omega
  obtain ⟨xs, hxs⟩ := KChain.all l l.length 0 (Nat.zero_le _) (by omega)
  go_enter Tryd.func4, Tryd.ntmps4
  go_wp2_with fail
  refine (Decode_any l xs hxs w (by omega)).mono ?_
  rintro e w1 ⟨A, n, c, rfl, hov1, hb1⟩
  go_wp2_with fail
  refine (refDecode_any l xs hxs w1 (by omega)).mono ?_
  rintro e w2 ⟨B, m, d, rfl, hov2, hb2⟩
  have hr1 := (Ov.rv hov1).below hb2
  have hr2 := Ov.rv hov2
  have hb := gr hb1 hb2
  have hsame := Same_any A n c (decV xs).1 B m d (decV xs).1 w2 hr1 hr2
  rw [listsV_refl] at hsame
  replace hsame := Lib.hid hsame
  clear hov1 hov2 hb1 hb2
  rcases decV_cases xs with h | ⟨h, hp, h20⟩
  · rw [h] at hr1 hr2 ⊢
    go_wp2_with (first
      | (go_at_call 12; refine (lnum_any _ _).mono ?_; rintro e w' ⟨rfl, rfl⟩)
      | (go_at_call 14; refine hsame.out.mono ?_; rintro e w3 ⟨rfl, hb3⟩)
      | (go_at_call 9; refine (works_any _).mono ?_; rintro e w5 ⟨rfl, hb5⟩))
    go_ret
    exact ⟨rfl, gr (gr hb hb3) hb5⟩
  · have hk := keys_of_dec hxs hp
    have hf := KChain.fine xs
    rw [h] at hr1 hr2 ⊢
    have hen := encV_of (fun x hx => (hf x hx).1) hk h20
    have hlen : (xs.map Place.x).length = n := by
      have : (vcells (xs.map Place.x)).length = n * 4 := hr1.1
      rw [vcells_length] at this
      omega
    have hxl := hxs.length (Nat.zero_le _)
    have hn24 : n ≤ 2400 := by
      rw [← hlen, List.length_map]
      omega
    have henc := fun W (hr : Rv W 4 A n c (vcells (xs.map Place.x))) => Encode_any A n c (xs.map Place.x) W hr (fun x hx => (hf x hx).2) hn24
    rw [hen] at henc
    unfold EncPost at henc
    replace henc := Lib.hid henc
    clear hen hlen hxl hk
    go_wp2_with (first
      | (go_at_call 12; refine (lnum_any _ _).mono ?_; rintro e w' ⟨rfl, rfl⟩)
      | (go_at_call 14; refine hsame.out.mono ?_; rintro e w3 ⟨rfl, hb3⟩)
      | (go_at_call 10; refine (henc.out _ (hr1.below hb3)).mono ?_; rintro e w4 ⟨rfl, hb4⟩)
      | (go_at_call 9; refine (works_any _).mono ?_; rintro e w5 ⟨rfl, hb5⟩))
    go_ret
    exact ⟨rfl, gr (gr (gr hb hb3) hb4) hb5⟩
end Go.Proofs.YtdgmhegcoogokaaDoor
