/- OctetTexts answers true for every text and every bytes. -/
import Derived.Test.YtjpegpoegcdmnaaOctW
import Derived.Test.YtjpegpoegcdmnaaRow
import Derived.Test.YtjpegpoegcdmnaaReg
namespace Go.Proofs.Ytjpegpoegcdmnaa
open Go.RowKit
set_option linter.unusedVariables false
attribute [local go_sem] strL_toList strL_size

theorem Text_l (l : List UInt8) (w : World) (hs : l.length ≤ 1000) : Calls Try.prog 20 #[.string (strL l)] w (NewB w (numL l.length ++ l)) := by
  have h := Text_any (strL l) w (by rw [strL_size]; omega)
  rw [strL_size, strL_list] at h
  exact h
theorem refText_l (l : List UInt8) (w : World) (hs : l.length ≤ 1000) : Calls Try.prog 23 #[.string (strL l)] w (NewB w (numL l.length ++ l)) := by
  have h := refText_any (strL l) w (by rw [strL_size]; omega)
  rw [strL_size, strL_list] at h
  exact h
/-- A text's bytes, with whatever behind them, are read back. -/
theorem readT_text (l b : List UInt8) (h : l.length < 18446744073709551616) : readT (numL l.length ++ l ++ b) = (l, 1 + needN l.length + l.length, 0) := by
  have h1 := readN_numL l.length (l ++ b) h
  have h2 := numL_length l.length
  unfold readT
  rw [List.append_assoc, h1, if_neg (by simp; omega)]
  simp only
  rw [← h2, List.drop_left, List.take_left]

set_option maxRecDepth 100000 in
set_option maxHeartbeats 2000000 in
theorem OctetTexts_walk (l : List UInt8) (A : Option Addr) (n c : Nat) (b : List UInt8) (w : World) (h1 : (strL l).size ≤ maxLen) (h : Rd w A n c b) :
    Calls Try.prog 6 #[.string (strL l), .slice A n c] w fun e w' => e = .returned (.bool true) ∧ Below w.heap.size w w' := by
  have hcap := h.cap
  have hle := h.le
  by_cases hout : 300 < l.length ∨ 300 < n
  · by_cases hbig : 300 < l.length
    · have hd1 : decide (300 < l.length) = true := by simp; omega
      clear hout
      go_enter Try.func6, Try.ntmps6
      go_wp2_with (go_at_call 8; refine (works_any _).mono ?_; rintro e w1 ⟨rfl, hb⟩)
      go_ret
      exact ⟨rfl, hb⟩
    · have hd1 : decide (300 < l.length) = false := by simp; omega
      have hd2 : 300 < n := by omega
      clear hout
      go_enter Try.func6, Try.ntmps6
      go_wp2_with (go_at_call 8; refine (works_any _).mono ?_; rintro e w1 ⟨rfl, hb⟩)
      go_ret
      exact ⟨rfl, hb⟩
  · have hd1 : decide (300 < l.length) = false := by simp; omega
    have hd2 : ¬ 300 < n := by omega
    have hl3 : l.length ≤ 300 := by omega
    clear hout
    have hE := Lib.hid (readT_text l b (by omega))
    have hL := Lib.hid (numL_length l.length)
    have hN := Lib.hid (needN_le l.length (by omega))
    go_enter Try.func6, Try.ntmps6
    go_wp2_with fail
    refine (Text_l l _ (by omega)).mono ?_
    rintro e w1 ⟨A1, n1, c1, rfl, hown1, hb1⟩
    have hN1 : (((1 : Int) + (needN l.length : Int) + (l.length : Int)) == (n1 : Int)) = true := by
      have := hown1.len
      rw [List.length_append, hL.out] at this
      simp; omega
    have hrd1 := hown1.rd
    have hn1 : n1 ≤ 400 := by
      have := hown1.len
      rw [List.length_append, hL.out] at this
      have := hN.out
      omega
    replace h := h.below hb1
    clear hown1
    have hlit := Ob.lit w1 w1.heap.size 5 [] (Nat.le_refl _) (by decide)
    go_wp2_with (first
      | (at_builtin; refine wpList_append_br _ rfl (.tmp 27) (.tmp 28) 23 rfl 5 Try.underlying23 info_u8 w1.heap.size _ 0 0 [] rfl hlit A1 n1 c1 _ rfl (hrd1.below (gr_alloc (Below.refl _ _) _)) (by omega) (by simp) n1 (by omega) ?_; intro A2 c2 w2 hown2 hgrow2 hab2; have hb2 := ((Below.refl _ w1).alloc (Nat.le_refl _) _).grown hgrow2 (by simp) (fun q hq => (hlit.ab q hq).1))
      | (at_builtin; refine wpList_append_br _ rfl (.tmp 29) (.tmp 30) 23 rfl 5 Try.underlying23 info_u8 w1.heap.size _ _ _ _ rfl hown2 A n c b rfl (h.below hb2) (by omega) hb2.size (n1 + n) rfl ?_; intro A3 c3 w3 hown3 hgrow3 hab3; have hb3 := hb2.grown hgrow3 hb2.size (fun q hq => (hown2.ab q hq).1)))
    clear hgrow2 hgrow3 hab2 hab3 hown2 hlit hb2
    replace h := h.below hb3
    replace hrd1 := hrd1.below hb3
    have hb := gr hb1 hb3
    have hrd3 := hown3.rd
    simp only [List.nil_append] at hrd3
    clear hb1 hb3 hown3
    refine (ReadText_any A3 (n1 + n) c3 _ w3 hrd3).mono ?_
    rw [hE.out]
    rintro e w4 ⟨rfl, hb4⟩
    replace h := h.below hb4
    replace hrd1 := hrd1.below hb4
    replace hb := gr hb hb4
    clear hb4 hrd3
    go_wp2_with fail
    refine (ReadText_any A n c b w4 h).mono ?_
    rintro e w5 ⟨rfl, hb5⟩
    replace h := h.below hb5
    replace hrd1 := hrd1.below hb5
    replace hb := gr hb hb5
    clear hb5
    go_wp2_with fail
    refine (refReadText_any A n c b w5 h).mono ?_
    rintro e w6 ⟨rfl, hb6⟩
    replace hrd1 := hrd1.below hb6
    replace hb := gr hb hb6
    clear hb6 h
    go_wp2_with fail
    have CV1 := fun w' (hb : Below w6.heap.size w6 w') => run_conv_b (P := Try.prog) w' 23 9 5 Try.underlying23 Try.underlying5 Try.underlying9 (hrd1.below hb)
    clear hrd1
    refine wp_region_noPanic ?_
    refine wp_region_held_drew (S := fun w' => Below w6.heap.size w6 w') (by kernel_rfl) ((Below.refl _ w6).drew) (fun hHeld => ?_)
    refine wpAnyH_takeL (i := 0) (v := ?vhy1) rfl (by kernel_rfl) (by kernel_rfl) (by kernel_rfl) (fun _ _ _ h => h) (Or.inl ⟨by rfl, ?hy1⟩) (by assumption) ?rhy1
    case hy1 => ((intro w hSw; (try dsimp only at hSw); go_simp); try with_reducible rfl)
    try simp only [Act.put, List.setIfInBounds_toArray, List.set_cons_zero, List.set_cons_succ]
    refine wpAnyH_takeL (i := 1) (v := ?vhy2) rfl (by kernel_rfl) (by kernel_rfl) (by kernel_rfl) (fun _ _ _ h => h) (Or.inl ⟨by rfl, ?hy2⟩) (by assumption) ?rhy2
    case hy2 => ((intro w hSw; (try dsimp only at hSw); go_simp); try with_reducible rfl)
    try simp only [Act.put, List.setIfInBounds_toArray, List.set_cons_zero, List.set_cons_succ]
    refine wpAnyH_takeL (i := 2) (v := ?vhy3) rfl (by kernel_rfl) (by kernel_rfl) (by kernel_rfl) (fun _ _ _ h => h) (Or.inl ⟨by rfl, ?hy3⟩) (by assumption) ?rhy3
    case hy3 => ((intro w hSw; (try dsimp only at hSw); go_simp); try with_reducible rfl)
    try simp only [Act.put, List.setIfInBounds_toArray, List.set_cons_zero, List.set_cons_succ]
    refine wpAnyH_ready (rs := [3]) (by kernel_rfl) (by simp) ?_
    refine AllReadyH.consL (i := 3) rfl (fun K hK => ?_) AllReadyH.nil
    go_simp
    refine (refText_l l _ (by omega)).mono ?_
    rintro e w7 ⟨A7, n7, c7, rfl, hown7, hb7⟩
    have hb67 := gr hHeld hb7
    refine hK.out _ _ hb67 (fun hHeld => ?_)
    have CV7 := fun w' (hb : Below w7.heap.size w7 w') => run_conv_b (P := Try.prog) w' 23 9 5 Try.underlying23 Try.underlying5 Try.underlying9 (hown7.rd.below hb)
    clear hK hHeld hown7
    refine wpAnyH_more (S' := fun w' => Below w7.heap.size w7 w') (fun w' h => gr hb67 h) ?_
    have hHeld := Below.refl w7.heap.size w7
    clear CV1
    try simp only [Act.put, List.setIfInBounds_toArray, List.set_cons_zero, List.set_cons_succ]
    refine wpAnyH_takeL (i := 4) (v := ?vhy4) rfl (by kernel_rfl) (by kernel_rfl) (by kernel_rfl) (fun _ _ _ h => h) (Or.inl ⟨by rfl, ?hy4⟩) (by assumption) ?rhy4
    case hy4 => ((intro w hSw; (try dsimp only at hSw); go_simp); try with_reducible rfl)
    try simp only [Act.put, List.setIfInBounds_toArray, List.set_cons_zero, List.set_cons_succ]
    refine wpAnyH_takeL (i := 5) (v := ?vhy5) rfl (by kernel_rfl) (by kernel_rfl) (by kernel_rfl) (fun _ _ _ h => h) (Or.inl ⟨by rfl, ?hy5⟩) (by assumption) ?rhy5
    case hy5 => ((intro w hSw; (try dsimp only at hSw); go_simp); try with_reducible rfl)
    try simp only [Act.put, List.setIfInBounds_toArray, List.set_cons_zero, List.set_cons_succ]
    refine wpAnyH_takeL (i := 6) (v := ?vhy6) rfl (by kernel_rfl) (by kernel_rfl) (by kernel_rfl) (fun _ _ _ h => h) (Or.inl ⟨by rfl, ?hy6⟩) (by assumption) ?rhy6
    case hy6 => ((intro w hSw; (try dsimp only at hSw); go_simp); try with_reducible rfl)
    try simp only [Act.put, List.setIfInBounds_toArray, List.set_cons_zero, List.set_cons_succ]
    refine wpAnyH_takeL (i := 7) (v := ?vhy7) rfl (by kernel_rfl) (by kernel_rfl) (by kernel_rfl) (fun _ _ _ h => h) (Or.inl ⟨by rfl, ?hy7⟩) (by assumption) ?rhy7
    case hy7 => ((intro w hSw; (try dsimp only at hSw); go_simp); try with_reducible rfl)
    try simp only [Act.put, List.setIfInBounds_toArray, List.set_cons_zero, List.set_cons_succ]
    refine wpAnyH_takeL (i := 8) (v := ?vhy8) rfl (by kernel_rfl) (by kernel_rfl) (by kernel_rfl) (fun _ _ _ h => h) (Or.inl ⟨by rfl, ?hy8⟩) (by assumption) ?rhy8
    case hy8 => ((intro w hSw; (try dsimp only at hSw); go_simp); try with_reducible rfl)
    try simp only [Act.put, List.setIfInBounds_toArray, List.set_cons_zero, List.set_cons_succ]
    refine wpAnyH_takeL (i := 9) (v := ?vhy9) rfl (by kernel_rfl) (by kernel_rfl) (by kernel_rfl) (fun _ _ _ h => h) (Or.inl ⟨by rfl, ?hy9⟩) (by assumption) ?rhy9
    case hy9 => ((intro w hSw; (try dsimp only at hSw); go_simp); try with_reducible rfl)
    try simp only [Act.put, List.setIfInBounds_toArray, List.set_cons_zero, List.set_cons_succ]
    refine wpAnyH_takeL (i := 10) (v := ?vhy10) rfl (by kernel_rfl) (by kernel_rfl) (by kernel_rfl) (fun _ _ _ h => h) (Or.inl ⟨by rfl, ?hy10⟩) (by assumption) ?rhy10
    case hy10 => ((intro w hSw; (try dsimp only at hSw); go_simp); try with_reducible rfl)
    try simp only [Act.put, List.setIfInBounds_toArray, List.set_cons_zero, List.set_cons_succ]
    refine wpAnyH_takeL (i := 11) (v := ?vhy11) rfl (by kernel_rfl) (by kernel_rfl) (by kernel_rfl) (fun _ _ _ h => h) (Or.inl ⟨by rfl, ?hy11⟩) (by assumption) ?rhy11
    case hy11 => ((intro w hSw; (try dsimp only at hSw); go_simp); try with_reducible rfl)
    try simp only [Act.put, List.setIfInBounds_toArray, List.set_cons_zero, List.set_cons_succ]
    refine wpAnyH_takeL (i := 12) (v := ?vhy12) rfl (by kernel_rfl) (by kernel_rfl) (by kernel_rfl) (fun _ _ _ h => h) (Or.inl ⟨by rfl, ?hy12⟩) (by assumption) ?rhy12
    case hy12 => ((intro w hSw; (try dsimp only at hSw); go_simp); try with_reducible rfl)
    try simp only [Act.put, List.setIfInBounds_toArray, List.set_cons_zero, List.set_cons_succ]
    refine wpAnyH_takeL (i := 13) (v := ?vhy13) rfl (by kernel_rfl) (by kernel_rfl) (by kernel_rfl) (fun _ _ _ h => h) (Or.inl ⟨by rfl, ?hy13⟩) (by assumption) ?rhy13
    case hy13 => ((intro w hSw; (try dsimp only at hSw); go_simp); try with_reducible rfl)
    try simp only [Act.put, List.setIfInBounds_toArray, List.set_cons_zero, List.set_cons_succ]
    refine wpAnyH_takeL (i := 14) (v := ?vhy14) rfl (by kernel_rfl) (by kernel_rfl) (by kernel_rfl) (fun _ _ _ h => h) (Or.inl ⟨by rfl, ?hy14⟩) (by assumption) ?rhy14
    case hy14 => ((intro w hSw; (try dsimp only at hSw); go_simp); try with_reducible rfl)
    try simp only [Act.put, List.setIfInBounds_toArray, List.set_cons_zero, List.set_cons_succ]
    refine wpAnyH_takeL (i := 15) (v := ?vhy15) rfl (by kernel_rfl) (by kernel_rfl) (by kernel_rfl) (fun _ _ _ h => h) (Or.inl ⟨by rfl, ?hy15⟩) (by assumption) ?rhy15
    case hy15 => ((intro w hSw; (try dsimp only at hSw); go_simp); try with_reducible rfl)
    try simp only [Act.put, List.setIfInBounds_toArray, List.set_cons_zero, List.set_cons_succ]
    refine wpAnyH_takeL (i := 16) (v := ?vhy16) rfl (by kernel_rfl) (by kernel_rfl) (by kernel_rfl) (fun _ _ _ h => h) (Or.inl ⟨by rfl, ?hy16⟩) (by assumption) ?rhy16
    case hy16 => ((intro w hSw; (try dsimp only at hSw); go_simp); try with_reducible rfl)
    try simp only [Act.put, List.setIfInBounds_toArray, List.set_cons_zero, List.set_cons_succ]
    refine wpAnyH_takeL (i := 17) (v := ?vhy17) rfl (by kernel_rfl) (by kernel_rfl) (by kernel_rfl) (fun _ _ _ h => h) (Or.inl ⟨by rfl, ?hy17⟩) (by assumption) ?rhy17
    case hy17 => ((intro w hSw; (try dsimp only at hSw); go_simp); try with_reducible rfl)
    try simp only [Act.put, List.setIfInBounds_toArray, List.set_cons_zero, List.set_cons_succ]
    refine wpAnyH_takeL (i := 18) (v := ?vhy18) rfl (by kernel_rfl) (by kernel_rfl) (by kernel_rfl) (fun _ _ _ h => h) (Or.inl ⟨by rfl, ?hy18⟩) (by assumption) ?rhy18
    case hy18 => ((intro w hSw; (try dsimp only at hSw); go_simp); try with_reducible rfl)
    try simp only [Act.put, List.setIfInBounds_toArray, List.set_cons_zero, List.set_cons_succ]
    refine wpAnyH_ready (rs := [19]) (by kernel_rfl) (by simp) ?_
    refine AllReadyH.consL (i := 19) rfl (fun K hK => ?_) AllReadyH.nil
    go_simp
    refine (num_any _ _).mono ?_
    rintro e w8 ⟨rfl, rfl⟩
    refine hK.out _ _ hHeld (fun hHeld => ?_)
    clear hK
    try simp only [Act.put, List.setIfInBounds_toArray, List.set_cons_zero, List.set_cons_succ]
    refine wpAnyH_takeL (i := 20) (v := ?vhy19) rfl (by kernel_rfl) (by kernel_rfl) (by kernel_rfl) (fun _ _ _ h => h) (Or.inl ⟨by rfl, ?hy19⟩) (by assumption) ?rhy19
    case hy19 => ((intro w hSw; (try dsimp only at hSw); go_simp); try with_reducible rfl)
    try simp only [Act.put, List.setIfInBounds_toArray, List.set_cons_zero, List.set_cons_succ]
    refine wpAnyH_takeL (i := 21) (v := ?vhy20) rfl (by kernel_rfl) (by kernel_rfl) (by kernel_rfl) (fun _ _ _ h => h) (Or.inl ⟨by rfl, ?hy20⟩) (by assumption) ?rhy20
    case hy20 => ((intro w hSw; (try dsimp only at hSw); go_simp); try with_reducible rfl)
    try simp only [Act.put, List.setIfInBounds_toArray, List.set_cons_zero, List.set_cons_succ]
    refine wpAnyH_takeL (i := 22) (v := ?vhy21) rfl (by kernel_rfl) (by kernel_rfl) (by kernel_rfl) (fun _ _ _ h => h) (Or.inl ⟨by rfl, ?hy21⟩) (by assumption) ?rhy21
    case hy21 => ((intro w hSw; (try dsimp only at hSw); go_simp); try with_reducible rfl)
    try simp only [Act.put, List.setIfInBounds_toArray, List.set_cons_zero, List.set_cons_succ]
    refine wpAnyH_takeL (i := 23) (v := ?vhy22) rfl (by kernel_rfl) (by kernel_rfl) (by kernel_rfl) (fun _ _ _ h => h) (Or.inl ⟨by rfl, ?hy22⟩) (by assumption) ?rhy22
    case hy22 => ((intro w hSw; (try dsimp only at hSw); go_simp); try with_reducible rfl)
    try simp only [Act.put, List.setIfInBounds_toArray, List.set_cons_zero, List.set_cons_succ]
    refine wpAnyH_takeL (i := 24) (v := ?vhy23) rfl (by kernel_rfl) (by kernel_rfl) (by kernel_rfl) (fun _ _ _ h => h) (Or.inl ⟨by rfl, ?hy23⟩) (by assumption) ?rhy23
    case hy23 => ((intro w hSw; (try dsimp only at hSw); go_simp); try with_reducible rfl)
    try simp only [Act.put, List.setIfInBounds_toArray, List.set_cons_zero, List.set_cons_succ]
    refine wpAnyH_takeL (i := 25) (v := ?vhy24) rfl (by kernel_rfl) (by kernel_rfl) (by kernel_rfl) (fun _ _ _ h => h) (Or.inl ⟨by rfl, ?hy24⟩) (by assumption) ?rhy24
    case hy24 => ((intro w hSw; (try dsimp only at hSw); go_simp); try with_reducible rfl)
    try simp only [Act.put, List.setIfInBounds_toArray, List.set_cons_zero, List.set_cons_succ]
    refine wpAnyH_takeL (i := 26) (v := ?vhy25) rfl (by kernel_rfl) (by kernel_rfl) (by kernel_rfl) (fun _ _ _ h => h) (Or.inl ⟨by rfl, ?hy25⟩) (by assumption) ?rhy25
    case hy25 => ((intro w hSw; (try dsimp only at hSw); go_simp); try with_reducible rfl)
    try simp only [Act.put, List.setIfInBounds_toArray, List.set_cons_zero, List.set_cons_succ]
    refine wpAnyH_takeL (i := 27) (v := ?vhy26) rfl (by kernel_rfl) (by kernel_rfl) (by kernel_rfl) (fun _ _ _ h => h) (Or.inl ⟨by rfl, ?hy26⟩) (by assumption) ?rhy26
    case hy26 => ((intro w hSw; (try dsimp only at hSw); go_simp); try with_reducible rfl)
    try simp only [Act.put, List.setIfInBounds_toArray, List.set_cons_zero, List.set_cons_succ]
    refine wpAnyH_takeL (i := 28) (v := ?vhy27) rfl (by kernel_rfl) (by kernel_rfl) (by kernel_rfl) (fun _ _ _ h => h) (Or.inl ⟨by rfl, ?hy27⟩) (by assumption) ?rhy27
    case hy27 => ((intro w hSw; (try dsimp only at hSw); go_simp); try with_reducible rfl)
    try simp only [Act.put, List.setIfInBounds_toArray, List.set_cons_zero, List.set_cons_succ]
    refine wpAnyH_takeL (i := 29) (v := ?vhy28) rfl (by kernel_rfl) (by kernel_rfl) (by kernel_rfl) (fun _ _ _ h => h) (Or.inl ⟨by rfl, ?hy28⟩) (by assumption) ?rhy28
    case hy28 => ((intro w hSw; (try dsimp only at hSw); go_simp); try with_reducible rfl)
    try simp only [Act.put, List.setIfInBounds_toArray, List.set_cons_zero, List.set_cons_succ]
    refine wpAnyH_takeL (i := 30) (v := ?vhy29) rfl (by kernel_rfl) (by kernel_rfl) (by kernel_rfl) (fun _ _ _ h => h) (Or.inl ⟨by rfl, ?hy29⟩) (by assumption) ?rhy29
    case hy29 => ((intro w hSw; (try dsimp only at hSw); go_simp); try with_reducible rfl)
    try simp only [Act.put, List.setIfInBounds_toArray, List.set_cons_zero, List.set_cons_succ]
    refine wpAnyH_takeL (i := 31) (v := ?vhy30) rfl (by kernel_rfl) (by kernel_rfl) (by kernel_rfl) (fun _ _ _ h => h) (Or.inl ⟨by rfl, ?hy30⟩) (by assumption) ?rhy30
    case hy30 => ((intro w hSw; (try dsimp only at hSw); go_simp); try with_reducible rfl)
    try simp only [Act.put, List.setIfInBounds_toArray, List.set_cons_zero, List.set_cons_succ]
    refine wpAnyH_takeL (i := 32) (v := ?vhy31) rfl (by kernel_rfl) (by kernel_rfl) (by kernel_rfl) (fun _ _ _ h => h) (Or.inl ⟨by rfl, ?hy31⟩) (by assumption) ?rhy31
    case hy31 => ((intro w hSw; (try dsimp only at hSw); go_simp); try with_reducible rfl)
    try simp only [Act.put, List.setIfInBounds_toArray, List.set_cons_zero, List.set_cons_succ]
    refine wpAnyH_takeL (i := 33) (v := ?vhy32) rfl (by kernel_rfl) (by kernel_rfl) (by kernel_rfl) (fun _ _ _ h => h) (Or.inl ⟨by rfl, ?hy32⟩) (by assumption) ?rhy32
    case hy32 => ((intro w hSw; (try dsimp only at hSw); go_simp); try with_reducible rfl)
    try simp only [Act.put, List.setIfInBounds_toArray, List.set_cons_zero, List.set_cons_succ]
    refine wpAnyH_takeL (i := 35) (v := ?vhy33) rfl (by kernel_rfl) (by kernel_rfl) (by kernel_rfl) (fun _ _ _ h => h) (Or.inl ⟨by rfl, ?hy33⟩) (by assumption) ?rhy33
    case hy33 => ((intro w hSw; (try dsimp only at hSw); go_simp); try with_reducible rfl)
    try simp only [Act.put, List.setIfInBounds_toArray, List.set_cons_zero, List.set_cons_succ]
    refine wpAnyH_ready (rs := [34]) (by kernel_rfl) (by simp) ?_
    refine AllReadyH.consL (i := 34) rfl (fun K hK => ?_) AllReadyH.nil
    go_simp
    refine (num_any _ _).mono ?_
    rintro e w8 ⟨rfl, rfl⟩
    refine hK.out _ _ hHeld (fun hHeld => ?_)
    clear hK
    try simp only [Act.put, List.setIfInBounds_toArray, List.set_cons_zero, List.set_cons_succ]
    refine wpAnyH_takeL (i := 36) (v := ?vhy34) rfl (by kernel_rfl) (by kernel_rfl) (by kernel_rfl) (fun _ _ _ h => h) (Or.inl ⟨by rfl, ?hy34⟩) (by assumption) ?rhy34
    case hy34 => ((intro w hSw; (try dsimp only at hSw); go_simp); try with_reducible rfl)
    try simp only [Act.put, List.setIfInBounds_toArray, List.set_cons_zero, List.set_cons_succ]
    refine wpAnyH_takeL (i := 37) (v := ?vhy35) rfl (by kernel_rfl) (by kernel_rfl) (by kernel_rfl) (fun _ _ _ h => h) (Or.inl ⟨by rfl, ?hy35⟩) (by assumption) ?rhy35
    case hy35 => ((intro w hSw; (try dsimp only at hSw); go_simp); try with_reducible rfl)
    try simp only [Act.put, List.setIfInBounds_toArray, List.set_cons_zero, List.set_cons_succ]
    refine wpAnyH_takeL (i := 38) (v := ?vhy36) rfl (by kernel_rfl) (by kernel_rfl) (by kernel_rfl) (fun _ _ _ h => h) (Or.inl ⟨by rfl, ?hy36⟩) (by assumption) ?rhy36
    case hy36 => ((intro w hSw; (try dsimp only at hSw); go_simp); try with_reducible rfl)
    try simp only [Act.put, List.setIfInBounds_toArray, List.set_cons_zero, List.set_cons_succ]
    refine wpAnyH_ready (rs := [39]) (by kernel_rfl) (by simp) ?_
    refine AllReadyH.consL (i := 39) rfl (fun K hK => ?_) AllReadyH.nil
    go_simp
    refine (works_any _).mono ?_
    rintro e w8 ⟨rfl, hb8⟩
    refine hK.out _ _ hb8 (fun hHeld => ?_)
    clear hK
    try simp only [Act.put, List.setIfInBounds_toArray, List.set_cons_zero, List.set_cons_succ]
    refine wpAnyH_takeL (i := 40) (v := ?vhy37) rfl (by kernel_rfl) (by kernel_rfl) (by kernel_rfl) (fun _ _ _ h => h) (Or.inl ⟨by rfl, ?hy37⟩) (by assumption) ?rhy37
    case hy37 => ((intro w hSw; (try dsimp only at hSw); go_simp); try with_reducible rfl)
    try simp only [Act.put, List.setIfInBounds_toArray, List.set_cons_zero, List.set_cons_succ]
    refine wpAnyH_takeL (i := 41) (v := ?vhy38) rfl (by kernel_rfl) (by kernel_rfl) (by kernel_rfl) (fun _ _ _ h => h) (Or.inl ⟨by rfl, ?hy38⟩) (by assumption) ?rhy38
    case hy38 => ((intro w hSw; (try dsimp only at hSw); go_simp); try with_reducible rfl)
    try simp only [Act.put, List.setIfInBounds_toArray, List.set_cons_zero, List.set_cons_succ]
    refine wpAnyH_done (by kernel_rfl) ?_ _
    refine NoPanic.normal ?_
    have hfin := gr hb (gr hb67 hHeld)
    go_wp2
    go_ret
    exact ⟨rfl, hfin⟩
end Go.Proofs.Ytjpegpoegcdmnaa
