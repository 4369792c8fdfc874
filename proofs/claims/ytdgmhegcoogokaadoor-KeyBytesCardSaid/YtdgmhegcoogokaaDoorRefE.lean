/- The reference's Encode. -/
import Derived.Test.YtdgmhegcoogokaaDoorRefO
import Derived.Test.YtdgmhegcoogokaaDoorRefC
import Derived.Test.YtdgmhegcoogokaaDoorRefV
import Derived.Test.YtdgmhegcoogokaaDoorKeyW
namespace Go.Proofs.YtdgmhegcoogokaaDoor
open Go.RowKit
set_option linter.unusedVariables false

theorem keysV_snoc (xs : List Vl) (x : Vl) : keysV (xs ++ [x]) = keysV xs ++ keyV x := by simp [keysV]
attribute [local go_sem] strL_toList strL_size
set_option maxRecDepth 100000 in
set_option maxHeartbeats 2000000 in
theorem refEncode_any (A : Option Addr) (n c : Nat) (xs : List Vl) (w : World) (hr : Rv w 4 A n c (vcells xs)) (hwf : ∀ x ∈ xs, x.Wf) (hn : n ≤ 2400) : Calls Tryd.prog 11 #[.slice A n c] w (EncPost w (encV xs)) := by
  have hxn : xs.length = n := by
    have := hr.1
    rw [vcells_length] at this
    omega
  have hcap : c ≤ 9223372036854775807 := hr.2.2.1
  have hle := hr.2.1
  go_enter Tryd.func11, Tryd.ntmps11
  go_wp2
  go_loopw [4, 5] (fun o p wr => ∃ (i : Nat) (out : List UInt8), p = .int .i64 (i : Int) ∧ i ≤ n ∧ o = .string (strL out) ∧ out.length ≤ 2500 ∧ Hid (out = keysV (xs.take i) ∨ (2000 < out.length ∧ 2000 < (keysV (xs.take i)).length)) ∧ (∀ x ∈ xs.take i, x.chk = 0) ∧ Below w.heap.size w wr)
    (fun o p wr => n - (intOf p).toNat)
  case atStart => exact ⟨0, [], rfl, by omega, rfl, by simp, .inl (by simp [keysV]), by simp, Below.refl _ w⟩
  case round =>
    obtain ⟨i, out, rfl, hi, rfl, ho, hout, hall, hB⟩ := hrel
    by_cases hlt : i < n
    · obtain ⟨b, off, rfl, hb, hcell⟩ := hr.2.2.2 (by omega)
      have hx : xs[i] ∈ xs := List.getElem_mem _
      have hxw := hwf _ hx
      have hcs := fun W (hW : Below w.heap.size w W) => vcells_cell hcell (fun o => hW.cell (p := ⟨b, o, none⟩) hb) i (by omega)
      have htk : xs.take (i + 1) = xs.take i ++ [xs[i]] := by rw [List.take_succ_eq_append_getElem (by omega)]
      have hdr : xs.drop i = xs[i] :: xs.drop (i + 1) := List.drop_eq_getElem_cons (by omega)
      generalize hxe : xs[i] = x at *
      have hc0 := hcs wr hB
      go_wp2_with fail
      refine (refCheck_any x.k x.i x.u x.s _).mono ?_
      rintro e w1 ⟨rfl, hb1⟩
      have hB1 := gr hB hb1
      have hc1 := hcs w1 hB1
      clear hc0
      by_cases hck : chkV x.k x.i x.u (strL x.s) = 0
      · have hq : ((chkV x.k x.i x.u (strL x.s) : Int) != 0) = false := by simp [hck]
        have hkl := (keyV_length hxw hck).1
        have hone := fun W => refone_any x hxw hck W
        unfold Vl.val valV at hone
        replace hone := Lib.hid hone
        have hall2 : ∀ y ∈ xs.take (i + 1), y.chk = 0 := by
          intro y hy
          rw [htk] at hy
          rcases List.mem_append.1 hy with hy | hy
          · exact hall y hy
          · rw [List.mem_singleton.1 hy]
            exact hck
        generalize chkV x.k x.i x.u (strL x.s) = cz at *
        by_cases hl : out.length ≤ 2000
        · have hd : decide ((out.length : Int) ≤ 2000) = true := by simp; omega
          go_wp2_with fail
          refine (hone.out _).mono ?_
          rintro e w2 ⟨A2, m2, c2, rfl, hOb, hb2⟩
          have hm2 := hOb.len
          have hsc := run_conv_b (P := Tryd.prog) w2 52 9 5 Tryd.underlying52 Tryd.underlying5 Tryd.underlying9 hOb.rd
          have hap : strL out ++ strL (keyV x) = strL (out ++ keyV x) := strL_app _ _
          have hnn : ¬ 9223372036854775807 < out.length + (keyV x).length := by omega
          go_wp2
          refine ⟨⟨i + 1, out ++ keyV x, by simp, by omega, rfl, by rw [List.length_append]; omega, ?_, hall2, gr hB1 hb2⟩, by simp [intOf]; omega⟩
          rcases hout.out with h | h
          · refine .inl ?_
            rw [htk, keysV_snoc, ← h]
          · omega
        · have hd : decide ((out.length : Int) ≤ 2000) = false := by simp; omega
          go_wp2
          refine ⟨⟨i + 1, out, rfl, by omega, rfl, ho, ?_, hall2, hB1⟩, by simp [intOf]; omega⟩
          refine .inr ⟨by omega, ?_⟩
          rw [htk, keysV_snoc, List.length_append]
          rcases hout.out with h | h
          · rw [← h]; omega
          · omega
      · have hq : ((chkV x.k x.i x.u (strL x.s) : Int) != 0) = true := by simp [hck]
        have hen : encV xs = ([], chkV x.k x.i x.u (strL x.s)) := by
          have hf : xs.find? (fun x => decide (x.chk ≠ 0)) = some x := by
            rw [← List.take_append_drop i xs, List.find?_append, (by simpa using hall : (xs.take i).find? (fun x => decide (x.chk ≠ 0)) = none)]
            rw [hdr]
            have : Vl.chk x ≠ 0 := hck
            simp [this]
          unfold encV
          rw [hf]
          rfl
        replace hen := Lib.hid hen
        generalize hcz : chkV x.k x.i x.u (strL x.s) = cz at *
        go_wp2
        go_ret2
        rw [hen.out]
        exact ⟨rfl, hB1⟩
    · have hti : xs.take i = xs := List.take_of_length_le (by omega)
      rw [hti] at hout hall
      have hf : xs.find? (fun x => decide (x.chk ≠ 0)) = none := by simpa using hall
      have hen : encV xs = if 2000 < (keysV xs).length then ([], 3) else (keysV xs, 0) := by
        unfold encV
        rw [hf]
      by_cases hm : 2000 < out.length
      · have hk : 2000 < (keysV xs).length := by
          rcases hout.out with h | h
          · rw [← h]; exact hm
          · exact h.2
        rw [if_pos hk] at hen
        replace hen := Lib.hid hen
        have hd : decide ((2000 : Int) < (out.length : Int)) = true := by simp; omega
        go_wp2
        go_ret2
        rw [hen.out]
        exact ⟨rfl, hB⟩
      · have hk : out = keysV xs := by
          rcases hout.out with h | h
          · exact h
          · omega
        rw [← hk, if_neg hm] at hen
        replace hen := Lib.hid hen
        have hd : decide ((2000 : Int) < (out.length : Int)) = false := by simp; omega
        clear hk
        go_wp2
        go_ret2
        rw [hen.out]
        exact ⟨rfl, hB⟩
end Go.Proofs.YtdgmhegcoogokaaDoor
