/- ValueRows: true, whatever the values, the text and the count. -/
import Derived.Test.YtcicmeggbkhniaaGreatDoorWorks1
import Derived.Test.YtcicmeggbkhniaaGreatDoorGone
import Derived.Test.YtcicmeggbkhniaaGreatDoorHoldsP
namespace Go.Proofs.YtcicmeggbkhniaaGreatDoor
open Go.RowKit
set_option linter.unusedVariables false

theorem listsV_same : ∀ xs : List Vl, listsV xs xs = 0
  | [] => rfl
  | x :: xs => by
    rw [listsV, if_neg (by rw [(ordV_zero x x).2 rfl]; simp), listsV_same xs]

attribute [local go_sem] strL_toList strL_size
set_option maxRecDepth 100000 in
set_option maxHeartbeats 4000000 in
theorem ValueRows_walk (A : Option Addr) (n c : Nat) (xs : List Vl) (s : List UInt8) (many : Int) (w : World) (hE : Env w) (hr : Rv w 4 A n c (vcells xs)) (hw : ∀ v ∈ xs, v.Wf) (hl : s.length ≤ maxLen) (hm : (Lit.int .i64 many).wf = true) :
    Calls Tryz.prog 7 #[.slice A n c, .string (strL s), .int .i64 many] w fun e w' => e = .returned (.bool true) ∧ Below w.heap.size w w' := by
  have hm0 : -9223372036854775808 ≤ many := by simp [Lit.wf, IntKind.min, IntKind.max, IntKind.signed, IntKind.bits] at hm; omega
  have hm1 : many ≤ 9223372036854775807 := by simp [Lit.wf, IntKind.min, IntKind.max, IntKind.signed, IntKind.bits] at hm; omega
  have hxn : xs.length = n := by
    have := hr.1
    rw [vcells_length] at this
    omega
  have hfew := few_any A n c xs 10 w hr (by decide)
  replace hfew := Lib.hid hfew
  clear hm
  by_cases hf0 : fewV xs 10 = false
  · skip
    go_enter Tryz.func7, Tryz.ntmps7
    go_wp2_with fail
    refine hfew.out.mono ?_
    rw [hf0]
    rintro e w' ⟨rfl, rfl⟩
    clear hfew
    go_wp2_with (go_at_call 9; refine (works_any _ hE).mono ?_; rintro e w' ⟨rfl, hbf⟩)
    go_ret
    exact ⟨rfl, hbf⟩
  replace hf0 : fewV xs 10 = true := by simpa using hf0
  by_cases h8 : 800 < s.length
  · have d8 : decide ((800 : Int) < (s.length : Int)) = true := by simp; omega
    clear h8 hl
    go_enter Tryz.func7, Tryz.ntmps7
    go_wp2_with fail
    refine hfew.out.mono ?_
    rw [hf0]
    rintro e w' ⟨rfl, rfl⟩
    clear hfew
    go_wp2_with (go_at_call 9; refine (works_any _ hE).mono ?_; rintro e w' ⟨rfl, hbf⟩)
    go_ret
    exact ⟨rfl, hbf⟩
  have d8 : decide ((800 : Int) < (s.length : Int)) = false := by simp; omega
  have hn10 : n ≤ 10 := by
    unfold fewV at hf0
    simp at hf0
    omega
  have hrow := Row_any A n c xs w hE hr hw (by omega)
  have hrr := fun W h h2 => rRow_any A n c xs W h h2 hw (by omega)
  have htl := rowV_fst_length hw
  rw [hxn] at htl
  have hg1 := fun W h => gone_any s many W h (by omega) hm0 hm1
  have hg2 := fun W h => gone_any (rowV xs).1 many W h (by omega) hm0 hm1
  have hpt := fun W => rParts_any (rowV xs).1 W (by omega)
  have hpr := partsV_row hw
  have hss := fun B m d W h1 h2 => rSame_any B m d xs A n c xs W h1 h2
  rw [listsV_same] at hss
  unfold PartsPost at hpt
  generalize (rowV xs).1 = t at *
  generalize (rowV xs).2 = no at *
  clear htl h8 hl hm0 hm1
  replace hrow := Lib.hid hrow
  replace hrr := Lib.hid hrr
  replace hg1 := Lib.hid hg1
  replace hg2 := Lib.hid hg2
  replace hss := Lib.hid hss
  by_cases h0 : no = 0
  · subst h0
    rw [hpr rfl] at hpt
    replace hpt := Lib.hid hpt
    clear hpr
    go_enter Tryz.func7, Tryz.ntmps7
    go_wp2_with fail
    refine hfew.out.mono ?_
    rw [hf0]
    rintro e w' ⟨rfl, rfl⟩
    clear hfew
    go_wp2_with fail
    refine hrow.out.mono ?_
    rintro e w1 ⟨rfl, g1⟩
    have hE1 := hE.below g1
    go_wp2_with fail
    refine (hrr.out _ hE1 (hr.below g1)).mono ?_
    rintro e w2 ⟨rfl, g2⟩
    have hE2 := hE1.below g2
    have b2 := gr g1 g2
    clear hrow hrr g1 g2 hE1
    go_wp2_with (go_at_call 12; refine (lnum_any _ _).mono ?_; rintro e w' ⟨rfl, rfl⟩)
    refine (hg1.out _ hE2).mono ?_
    rintro e w3 ⟨rfl, g3⟩
    have hE3 := hE2.below g3
    have b3 := gr b2 g3
    clear hg1 g3 hE2 b2
    go_wp2_with fail
    refine (hg2.out _ hE3).mono ?_
    rintro e w4 ⟨rfl, g4⟩
    have hE4 := hE3.below g4
    have b4 := gr b3 g4
    clear hg2 g4 hE3 b3
    go_wp2_with fail
    refine (hpt.out _).mono ?_
    rintro e w5 ⟨B, m, d, rfl, hO, g5⟩
    have hE5 := hE4.below g5
    have b5 := gr b4 g5
    go_wp2_with fail
    refine (hss.out B m d _ hO.rv (hr.below b5)).mono ?_
    rintro e w6 ⟨rfl, g6⟩
    have hE6 := hE5.below g6
    have b6 := gr b5 g6
    clear hpt hss hO g5 g6
    go_wp2_with (go_at_call 9; refine (works_any _ hE6).mono ?_; rintro e w' ⟨rfl, hbf⟩)
    go_ret
    exact ⟨rfl, (gr b6 hbf)⟩
  · have hd : ((no : Int) != 0) = true := by simp; omega
    clear hpr hpt hss h0
    go_enter Tryz.func7, Tryz.ntmps7
    go_wp2_with fail
    refine hfew.out.mono ?_
    rw [hf0]
    rintro e w' ⟨rfl, rfl⟩
    clear hfew
    go_wp2_with fail
    refine hrow.out.mono ?_
    rintro e w1 ⟨rfl, g1⟩
    have hE1 := hE.below g1
    go_wp2_with fail
    refine (hrr.out _ hE1 (hr.below g1)).mono ?_
    rintro e w2 ⟨rfl, g2⟩
    have hE2 := hE1.below g2
    have b2 := gr g1 g2
    clear hrow hrr g1 g2 hE1
    go_wp2_with (go_at_call 12; refine (lnum_any _ _).mono ?_; rintro e w' ⟨rfl, rfl⟩)
    refine (hg1.out _ hE2).mono ?_
    rintro e w3 ⟨rfl, g3⟩
    have hE3 := hE2.below g3
    have b3 := gr b2 g3
    clear hg1 g3 hE2 b2
    go_wp2_with fail
    refine (hg2.out _ hE3).mono ?_
    rintro e w4 ⟨rfl, g4⟩
    have hE4 := hE3.below g4
    have b4 := gr b3 g4
    clear hg2 g4 hE3 b3
    go_wp2_with (go_at_call 9; refine (works_any _ hE4).mono ?_; rintro e w' ⟨rfl, hbf⟩)
    go_ret
    exact ⟨rfl, (gr b4 hbf)⟩
end Go.Proofs.YtcicmeggbkhniaaGreatDoor
