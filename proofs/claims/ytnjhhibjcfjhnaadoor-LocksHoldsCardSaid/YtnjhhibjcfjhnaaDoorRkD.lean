/- The reference's right. -/
import Derived.Test.YtnjhhibjcfjhnaaDoorRkC
namespace Go.Proofs.YtnjhhibjcfjhnaaDoor
open Go.RowKit
set_option linter.unusedVariables false

theorem not_any_snoc {l : List Wt} {f : Wt → Bool} {x : Wt} (h : l.any f = false) (hx : f x = false) : (l ++ [x]).any f = false := by simp [h, hx]
set_option maxRecDepth 100000 in
set_option maxHeartbeats 4000000 in
theorem RRight_any (A : Option Addr) (n c : Nat) (xs : List Wt) (w : World) (hr : Rv w 2 A n c (wcells xs)) :
    Calls Tryd.prog 61 #[.slice A n c] w fun e w' => e = .returned (.bool (rightK xs)) ∧ Below w.heap.size w w' := by
  have hxn : xs.length = n := by have := hr.1; rw [wcells_length] at this; omega
  have hcap : c ≤ 9223372036854775807 := hr.2.2.1
  have hle := hr.2.1
  have hrk : rightK xs = (decide (1 ≤ n ∧ n ≤ 8) && okW [] xs) := by rw [← hxn]; rfl
  replace hrk := Lib.hid hrk
  go_enter Tryd.func61, Tryd.ntmps61
  go_wp2
  go_loopw [3] (fun q wr => ∃ i : Nat, q = .int .i64 (i : Int) ∧ i ≤ n ∧ i ≤ 9 ∧ okW [] xs = okW (xs.take i) (xs.drop i) ∧ Below w.heap.size w wr)
    (fun q wr => n - (intOf q).toNat)
  case atStart => exact ⟨0, rfl, by omega, by omega, by simp, Below.refl _ _⟩
  case round =>
    obtain ⟨i, rfl, hi, hi9, h0, hbw⟩ := hrel
    by_cases hlt : i < n
    · have hlt2 : decide ((i : Int) < (n : Int)) = true := by simp; omega
      have hlt1 : (i : Int) < (n : Int) := by omega
      by_cases h9 : i < 9
      · have d9 : decide ((i : Int) < 9) = true := by simp; omega
        obtain ⟨b1, o1, rfl, hb1, hc1⟩ := hr.2.2.2 (by omega)
        have E := fun (W : World) (hW : Below w.heap.size w W) (k : Nat) (hk : k < xs.length) => wcells_cell hc1 (fun o => hW.cell (p := ⟨b1, o, none⟩) hb1) k hk
        have e1 := E wr hbw i (by omega)
        have htk : xs.take (i + 1) = xs.take i ++ [xs[i]'(by omega)] := List.take_succ_eq_append_getElem (by omega)
        have hdr : xs.drop i = xs[i]'(by omega) :: xs.drop (i + 1) := List.drop_eq_getElem_cons (by omega)
        have hcx := fun W hW => E W hW i (by omega)
        rw [hdr, okW, ← htk] at h0
        clear hdr htk
        generalize xs[i]'(by omega) = x at *
        obtain ⟨x0, x1⟩ := x
        simp only at e1 h0 hcx
        clear hc1
        have hsz : (strL x0).size = x0.length := strL_size x0
        by_cases s1 : 1 ≤ x0.length
        · have q1 : decide ((x0.length : Int) < 1) = false := by simp; omega
          by_cases s2 : x0.length ≤ 24
          · have q2 : decide (24 < (x0.length : Int)) = false := by simp; omega
            have q3 : decide (1 ≤ x0.length ∧ x0.length ≤ 24) = true := by simp; omega
            rw [q3, Bool.true_and] at h0
            clear s1 s2 q3
            replace h0 := Lib.hid h0
            replace E := Lib.hid E
            replace hcx := Lib.hid hcx
            obtain ⟨wo, hwo⟩ : ∃ wo, wo = wr := ⟨_, rfl⟩
            subst hwo
            go_wp2
            clear e1
            go_loopw [4] (fun p wr => ∃ k : Nat, p = .int .i64 (k : Int) ∧ k ≤ i ∧ ((xs.take k).any fun y => sameT y ⟨x0, x1⟩) = false ∧ Below w.heap.size w wr)
              (fun p wr => i - (intOf p).toNat)
            case atStart => exact ⟨0, rfl, by omega, by simp, hbw⟩
            case round =>
              clear hbw
              obtain ⟨k, rfl, hk, hf, hbw⟩ := hrel
              by_cases hltk : k < i
              · have hltk1 : decide ((k : Int) < (i : Int)) = true := by simp; omega
                have hltk2 : (k : Int) < (n : Int) := by omega
                have e2 := E.out wr hbw k (by omega)
                have e1 := hcx.out wr hbw
                have hkl : k < xs.length := by omega
                have htk : xs.take (k + 1) = xs.take k ++ [xs[k]'hkl] := List.take_succ_eq_append_getElem hkl
                have hin : sameT (xs[k]'hkl) ⟨x0, x1⟩ = true → (xs.take i).any (fun y => sameT y ⟨x0, x1⟩) = true := fun h =>
                  List.any_eq_true.2 ⟨xs[k]'hkl, by rw [List.mem_take_iff_getElem]; exact ⟨k, by omega, rfl⟩, h⟩
                generalize xs[k]'(by omega) = y at *
                obtain ⟨y0, y1⟩ := y
                simp only [sameT] at e2 hin
                have hsn := any_snoc (fun y => sameT y ⟨x0, x1⟩) (xs.take k) ⟨y0, y1⟩
                rw [← htk, hf, Bool.false_or] at hsn
                have hdr : Below w.heap.size w wr.drew := hbw.drew
                clear htk hf
                replace hin := Lib.hid hin
                replace hsn := Lib.hid hsn
                go_wp2_with fail
                refine wp_region_noPanic ?_
                refine wp_region_held_drew (S := fun W => (W.cell? ⟨b1, o1 + i * 2, none⟩ = some (.string (strL x0)) ∧ W.cell? ⟨b1, o1 + i * 2 + 1, none⟩ = some (.bool x1)) ∧ (W.cell? ⟨b1, o1 + k * 2, none⟩ = some (.string (strL y0)) ∧ W.cell? ⟨b1, o1 + k * 2 + 1, none⟩ = some (.bool y1))) (by kernel_rfl) ⟨e1, e2⟩ (fun hHeld => ?_)
                replace hin := hin.out
                by_cases hst : y0 = x0
                · have hb : ((strL y0).toList == (strL x0).toList) = true := by rw [strL_toList, strL_toList]; simpa using hst
                  have hq : (xs.take i).any (fun y => sameT y ⟨x0, x1⟩) = true := hin (by simpa using hst)
                  have hN : okW [] xs = false := by rw [h0.out, hq]; rfl
                  replace hN := Lib.hid hN
                  clear hst hin hsn hq
                  refine wpAnyH_takeL (i := 0) (v := ?vhy1) rfl (by kernel_rfl) (by kernel_rfl) (by kernel_rfl) (fun _ _ _ h => h) (Or.inl ⟨by rfl, ?hy1⟩) (by assumption) ?rhy1
                  case hy1 => ((intro w hSw; (try dsimp only at hSw); go_simp); try with_reducible rfl)
                  try simp only [Act.put, List.setIfInBounds_toArray, List.set_cons_zero, List.set_cons_succ]
                  refine wpAnyH_takeL (i := 1) (v := ?vhy2) rfl (by kernel_rfl) (by kernel_rfl) (by kernel_rfl) (fun _ _ _ h => h) (Or.inl ⟨by rfl, ?hy2⟩) (by assumption) ?rhy2
                  case hy2 => ((intro w hSw; (try dsimp only at hSw); go_simp); try with_reducible rfl)
                  try simp only [Act.put, List.setIfInBounds_toArray, List.set_cons_zero, List.set_cons_succ]
                  refine wpAnyH_takeL (i := 2) (v := ?vhy3) rfl (by kernel_rfl) (by kernel_rfl) (by kernel_rfl) (fun _ _ _ h => h) (Or.inl ⟨by rfl, ?hy3⟩) (by assumption) ?rhy3
                  case hy3 => ((intro w hSw; (try dsimp only at hSw); go_simp); try with_reducible rfl)
                  try simp only [Act.put, List.setIfInBounds_toArray, List.set_cons_zero, List.set_cons_succ]
                  refine wpAnyH_takeL (i := 3) (v := ?vhy4) rfl (by kernel_rfl) (by kernel_rfl) (by kernel_rfl) (fun _ _ _ h => h) (Or.inl ⟨by rfl, ?hy4⟩) (by assumption) ?rhy4
                  case hy4 => ((intro w hSw; (try dsimp only at hSw); go_simp); try with_reducible rfl)
                  try simp only [Act.put, List.setIfInBounds_toArray, List.set_cons_zero, List.set_cons_succ]
                  refine wpAnyH_takeL (i := 4) (v := ?vhy5) rfl (by kernel_rfl) (by kernel_rfl) (by kernel_rfl) (fun _ _ _ h => h) (Or.inl ⟨by rfl, ?hy5⟩) (by assumption) ?rhy5
                  case hy5 => ((intro w hSw; (try dsimp only at hSw); go_simp); try with_reducible rfl)
                  try simp only [Act.put, List.setIfInBounds_toArray, List.set_cons_zero, List.set_cons_succ]
                  refine wpAnyH_takeL (i := 5) (v := ?vhy6) rfl (by kernel_rfl) (by kernel_rfl) (by kernel_rfl) (fun _ _ _ h => h) (Or.inl ⟨by rfl, ?hy6⟩) (by assumption) ?rhy6
                  case hy6 => ((intro w hSw; (try dsimp only at hSw); go_simp); try with_reducible rfl)
                  try simp only [Act.put, List.setIfInBounds_toArray, List.set_cons_zero, List.set_cons_succ]
                  refine wpAnyH_takeL (i := 6) (v := ?vhy7) rfl (by kernel_rfl) (by kernel_rfl) (by kernel_rfl) (fun _ _ _ h => h) (Or.inl ⟨by rfl, ?hy7⟩) (by assumption) ?rhy7
                  case hy7 => ((intro w hSw; (try dsimp only at hSw); go_simp); try with_reducible rfl)
                  try simp only [Act.put, List.setIfInBounds_toArray, List.set_cons_zero, List.set_cons_succ]
                  refine wpAnyH_takeL (i := 7) (v := ?vhy8) rfl (by kernel_rfl) (by kernel_rfl) (by kernel_rfl) (fun _ _ _ h => h) (Or.inl ⟨by rfl, ?hy8⟩) (by assumption) ?rhy8
                  case hy8 => ((intro w hSw; (try dsimp only at hSw); go_simp); try with_reducible rfl)
                  try simp only [Act.put, List.setIfInBounds_toArray, List.set_cons_zero, List.set_cons_succ]
                  refine wpAnyH_takeL (i := 8) (v := ?vhy9) rfl (by kernel_rfl) (by kernel_rfl) (by kernel_rfl) (fun _ _ _ h => h) (Or.inl ⟨by rfl, ?hy9⟩) (by assumption) ?rhy9
                  case hy9 => ((intro w hSw; (try dsimp only at hSw); go_simp); try with_reducible rfl)
                  try simp only [Act.put, List.setIfInBounds_toArray, List.set_cons_zero, List.set_cons_succ]
                  refine wpAnyH_takeL (i := 9) (v := ?vhy10) rfl (by kernel_rfl) (by kernel_rfl) (by kernel_rfl) (fun _ _ _ h => h) (Or.inl ⟨by rfl, ?hy10⟩) (by assumption) ?rhy10
                  case hy10 => ((intro w hSw; (try dsimp only at hSw); go_simp); try with_reducible rfl)
                  try simp only [Act.put, List.setIfInBounds_toArray, List.set_cons_zero, List.set_cons_succ]
                  refine wpAnyH_takeL (i := 10) (v := ?vhy11) rfl (by kernel_rfl) (by kernel_rfl) (by kernel_rfl) (fun _ _ _ h => h) (Or.inl ⟨by rfl, ?hy11⟩) (by assumption) ?rhy11
                  case hy11 => ((intro w hSw; (try dsimp only at hSw); go_simp); try with_reducible rfl)
                  try simp only [Act.put, List.setIfInBounds_toArray, List.set_cons_zero, List.set_cons_succ]
                  refine wpAnyH_done (by kernel_rfl) ?_ _
                  refine NoPanic.normal ?_
                  clear hHeld e1 e2
                  go_wp2
                  go_ret
                  exact ⟨by rw [hrk.out, hN.out, Bool.and_false]; rfl, hdr⟩
                · have hb : ((strL y0).toList == (strL x0).toList) = false := by rw [strL_toList, strL_toList]; simpa using hst
                  have hN : ((xs.take (k + 1)).any fun y => sameT y ⟨x0, x1⟩) = false := by rw [hsn.out]; simpa [sameT] using hst
                  replace hN := Lib.hid hN
                  clear hst hin hsn
                  refine wpAnyH_takeL (i := 0) (v := ?vhy12) rfl (by kernel_rfl) (by kernel_rfl) (by kernel_rfl) (fun _ _ _ h => h) (Or.inl ⟨by rfl, ?hy12⟩) (by assumption) ?rhy12
                  case hy12 => ((intro w hSw; (try dsimp only at hSw); go_simp); try with_reducible rfl)
                  try simp only [Act.put, List.setIfInBounds_toArray, List.set_cons_zero, List.set_cons_succ]
                  refine wpAnyH_takeL (i := 1) (v := ?vhy13) rfl (by kernel_rfl) (by kernel_rfl) (by kernel_rfl) (fun _ _ _ h => h) (Or.inl ⟨by rfl, ?hy13⟩) (by assumption) ?rhy13
                  case hy13 => ((intro w hSw; (try dsimp only at hSw); go_simp); try with_reducible rfl)
                  try simp only [Act.put, List.setIfInBounds_toArray, List.set_cons_zero, List.set_cons_succ]
                  refine wpAnyH_takeL (i := 2) (v := ?vhy14) rfl (by kernel_rfl) (by kernel_rfl) (by kernel_rfl) (fun _ _ _ h => h) (Or.inl ⟨by rfl, ?hy14⟩) (by assumption) ?rhy14
                  case hy14 => ((intro w hSw; (try dsimp only at hSw); go_simp); try with_reducible rfl)
                  try simp only [Act.put, List.setIfInBounds_toArray, List.set_cons_zero, List.set_cons_succ]
                  refine wpAnyH_takeL (i := 3) (v := ?vhy15) rfl (by kernel_rfl) (by kernel_rfl) (by kernel_rfl) (fun _ _ _ h => h) (Or.inl ⟨by rfl, ?hy15⟩) (by assumption) ?rhy15
                  case hy15 => ((intro w hSw; (try dsimp only at hSw); go_simp); try with_reducible rfl)
                  try simp only [Act.put, List.setIfInBounds_toArray, List.set_cons_zero, List.set_cons_succ]
                  refine wpAnyH_takeL (i := 4) (v := ?vhy16) rfl (by kernel_rfl) (by kernel_rfl) (by kernel_rfl) (fun _ _ _ h => h) (Or.inl ⟨by rfl, ?hy16⟩) (by assumption) ?rhy16
                  case hy16 => ((intro w hSw; (try dsimp only at hSw); go_simp); try with_reducible rfl)
                  try simp only [Act.put, List.setIfInBounds_toArray, List.set_cons_zero, List.set_cons_succ]
                  refine wpAnyH_takeL (i := 5) (v := ?vhy17) rfl (by kernel_rfl) (by kernel_rfl) (by kernel_rfl) (fun _ _ _ h => h) (Or.inl ⟨by rfl, ?hy17⟩) (by assumption) ?rhy17
                  case hy17 => ((intro w hSw; (try dsimp only at hSw); go_simp); try with_reducible rfl)
                  try simp only [Act.put, List.setIfInBounds_toArray, List.set_cons_zero, List.set_cons_succ]
                  refine wpAnyH_takeL (i := 6) (v := ?vhy18) rfl (by kernel_rfl) (by kernel_rfl) (by kernel_rfl) (fun _ _ _ h => h) (Or.inl ⟨by rfl, ?hy18⟩) (by assumption) ?rhy18
                  case hy18 => ((intro w hSw; (try dsimp only at hSw); go_simp); try with_reducible rfl)
                  try simp only [Act.put, List.setIfInBounds_toArray, List.set_cons_zero, List.set_cons_succ]
                  refine wpAnyH_takeL (i := 7) (v := ?vhy19) rfl (by kernel_rfl) (by kernel_rfl) (by kernel_rfl) (fun _ _ _ h => h) (Or.inl ⟨by rfl, ?hy19⟩) (by assumption) ?rhy19
                  case hy19 => ((intro w hSw; (try dsimp only at hSw); go_simp); try with_reducible rfl)
                  try simp only [Act.put, List.setIfInBounds_toArray, List.set_cons_zero, List.set_cons_succ]
                  refine wpAnyH_takeL (i := 8) (v := ?vhy20) rfl (by kernel_rfl) (by kernel_rfl) (by kernel_rfl) (fun _ _ _ h => h) (Or.inl ⟨by rfl, ?hy20⟩) (by assumption) ?rhy20
                  case hy20 => ((intro w hSw; (try dsimp only at hSw); go_simp); try with_reducible rfl)
                  try simp only [Act.put, List.setIfInBounds_toArray, List.set_cons_zero, List.set_cons_succ]
                  refine wpAnyH_takeL (i := 9) (v := ?vhy21) rfl (by kernel_rfl) (by kernel_rfl) (by kernel_rfl) (fun _ _ _ h => h) (Or.inl ⟨by rfl, ?hy21⟩) (by assumption) ?rhy21
                  case hy21 => ((intro w hSw; (try dsimp only at hSw); go_simp); try with_reducible rfl)
                  try simp only [Act.put, List.setIfInBounds_toArray, List.set_cons_zero, List.set_cons_succ]
                  refine wpAnyH_takeL (i := 10) (v := ?vhy22) rfl (by kernel_rfl) (by kernel_rfl) (by kernel_rfl) (fun _ _ _ h => h) (Or.inl ⟨by rfl, ?hy22⟩) (by assumption) ?rhy22
                  case hy22 => ((intro w hSw; (try dsimp only at hSw); go_simp); try with_reducible rfl)
                  try simp only [Act.put, List.setIfInBounds_toArray, List.set_cons_zero, List.set_cons_succ]
                  refine wpAnyH_done (by kernel_rfl) ?_ _
                  refine NoPanic.normal ?_
                  clear hHeld e1 e2
                  go_wp2
                  exact ⟨⟨k + 1, by simp, by omega, hN.out, hdr⟩, by simp [intOf]; omega⟩
              · obtain rfl : k = i := by omega
                have hltk1 : decide ((k : Int) < (k : Int)) = false := by simp
                have hN : okW [] xs = okW (xs.take (k + 1)) (xs.drop (k + 1)) := by rw [h0.out, hf]; rfl
                replace hN := Lib.hid hN
                clear hf
                go_wp2
                exact ⟨⟨k + 1, by simp, by omega, by omega, hN.out, hbw⟩, by simp [intOf]; omega⟩
          · have q2 : decide (24 < (x0.length : Int)) = true := by simp; omega
            have hN : okW [] xs = false := by rw [h0]; simp; omega
            clear h0
            replace hN := Lib.hid hN
            replace E := Lib.hid E
            replace hcx := Lib.hid hcx
            go_wp2
            go_ret
            exact ⟨by rw [hrk.out, hN.out, Bool.and_false]; rfl, hbw⟩
        · have q1 : decide ((x0.length : Int) < 1) = true := by simp; omega
          have hN : okW [] xs = false := by rw [h0]; simp; omega
          clear h0
          replace hN := Lib.hid hN
          replace E := Lib.hid E
          replace hcx := Lib.hid hcx
          go_wp2
          go_ret
          exact ⟨by rw [hrk.out, hN.out, Bool.and_false]; rfl, hbw⟩
      · have d9 : decide ((i : Int) < 9) = false := by simp; omega
        have d1 : decide (1 ≤ (n : Int)) = true := by simp; omega
        have d8 : decide ((n : Int) ≤ 8) = false := by simp; omega
        have hN : rightK xs = false := by rw [hrk.out]; have : decide (1 ≤ n ∧ n ≤ 8) = false := by simp; omega
                                          rw [this]; rfl
        replace hN := Lib.hid hN
        clear h0
        go_wp2
        go_ret
        exact ⟨by rw [hN.out]; rfl, hbw⟩
    · obtain rfl : i = n := by omega
      have hlt2 : decide ((i : Int) < (i : Int)) = false := by simp
      have hN : okW [] xs = true := by rw [h0, List.drop_of_length_le (by omega)]; rfl
      replace hN := Lib.hid hN
      clear h0
      by_cases h1 : 1 ≤ i
      · have d1 : decide (1 ≤ (i : Int)) = true := by simp; omega
        by_cases h8 : i ≤ 8
        · have d8 : decide ((i : Int) ≤ 8) = true := by simp; omega
          go_wp2
          go_ret
          exact ⟨by rw [hrk.out, hN.out, show decide (1 ≤ i ∧ i ≤ 8) = decide (i ≤ 8) from by simp [h1]]; simp [h8], hbw⟩
        · have d8 : decide ((i : Int) ≤ 8) = false := by simp; omega
          go_wp2
          go_ret
          exact ⟨by rw [hrk.out, hN.out, show decide (1 ≤ i ∧ i ≤ 8) = decide (i ≤ 8) from by simp [h1]]; simp [h8], hbw⟩
      · have d1 : decide (1 ≤ (i : Int)) = false := by simp; omega
        go_wp2
        go_ret
        exact ⟨by rw [hrk.out, hN.out, show decide (1 ≤ i ∧ i ≤ 8) = false from by simp [h1]]; rfl, hbw⟩
end Go.Proofs.YtnjhhibjcfjhnaaDoor
