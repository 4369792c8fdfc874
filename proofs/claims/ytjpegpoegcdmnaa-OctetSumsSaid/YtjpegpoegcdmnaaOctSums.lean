/- OctetSums answers true for every number, every count of bytes, every bytes and every cut. -/
import Derived.Test.YtjpegpoegcdmnaaOctW
import Derived.Test.YtjpegpoegcdmnaaRow
import Derived.Test.YtjpegpoegcdmnaaReg
import Derived.Test.YtjpegpoegcdmnaaSlice
namespace Go.Proofs.Ytjpegpoegcdmnaa
open Go.RowKit
set_option linter.unusedVariables false
attribute [local go_sem] strL_toList strL_size

/-- A slice of two slices of bytes. -/
theorem RdL.two (W : World) (H : Nat) (e : TypeId) (A B : Option Addr) (n c m d : Nat) (l k : List UInt8) (h : Rd W A n c l) (h2 : Rd W B m d k) (hH : W.heap.size = H) : RdL (W.alloc (.cells #[.slice A n c, .slice B m d] e)) (some ⟨H, 0, none⟩) 2 2 [l, k] := by
  subst hH
  refine ⟨[(A, n, c), (B, m, d)], ⟨rfl, Nat.le_refl _, by simp [maxLen], fun _ => ⟨W.heap.size, 0, rfl, by simp, fun j u hu => ?_⟩⟩, rfl, fun i h1 h2 => ?_⟩
  · match j with
    | 0 => simp at hu; subst hu; simp
    | 1 => simp at hu; subst hu; simp
    | j + 2 => simp at hu
  · match i with
    | 0 => exact h.below ((Below.refl _ W).alloc (Nat.le_refl _) _)
    | 1 => exact (by assumption : Rd W B m d k).below ((Below.refl _ W).alloc (Nat.le_refl _) _)
    | i + 2 => exact absurd h1 (by simp)

theorem RdL.below {w w' : World} {A : Option Addr} {n c : Nat} {rows : List (List UInt8)} (h : RdL w A n c rows) (hb : Below w.heap.size w w') : RdL w' A n c rows := by
  obtain ⟨hs, h1, h2, h3⟩ := h
  exact ⟨hs, h1.below hb, h2, fun i a b => (h3 i a b).below hb⟩

theorem fixed_back (x k : Nat) (h : (fixedN x k).2 = 0) (hx : x < 18446744073709551616) : readFixN (fixedN x k).1 = (x, 0) := by
  unfold fixedN at *
  by_cases h1 : k < 1 ∨ 8 < k
  · rw [if_pos h1] at h; simp at h
  · rw [if_neg h1] at h ⊢
    by_cases h2 : k < needN x
    · rw [if_pos h2] at h; simp at h
    · rw [if_neg h2]
      have hb := (needN_le_iff x k hx (by omega)).1 (by omega)
      unfold readFixN
      simp only
      rw [beB_length, if_neg (by omega), rdN_beB k x hb]

set_option maxRecDepth 100000 in
set_option maxHeartbeats 2000000 in
theorem OctetSums_walk (x : Nat) (many : Int) (A : Option Addr) (n c : Nat) (b : List UInt8) (cut : Int) (w : World) (hx : x < 18446744073709551616) (hm0 : -9223372036854775808 ≤ many) (hm1 : many ≤ 9223372036854775807) (h : Rd w A n c b)
    (hc0 : -9223372036854775808 ≤ cut) (hc1 : cut ≤ 9223372036854775807) :
    Calls Try.prog 5 #[.int .u64 (x : Int), .int .i64 many, .slice A n c, .int .i64 cut] w fun e w' => e = .returned (.bool true) ∧ Below w.heap.size w w' := by
  have hcap := h.cap
  have hle := h.le
  have hlen := h.len
  by_cases hbig : 300 < n
  · clear hm0 hm1 hc0 hc1
    go_enter Try.func5, Try.ntmps5
    go_wp2_with (go_at_call 8; refine (works_any _).mono ?_; rintro e w1 ⟨rfl, hb⟩)
    go_ret
    exact ⟨rfl, hb⟩
  · have HF := Lib.hid (Fixed_any (x : Int) many w (by omega) (by omega) hm0 hm1)
    have HG := fun W => Lib.hid (refFixed_any (x : Int) many W (by omega) (by omega) hm0 hm1)
    have HB := Lib.hid (fixed_back x many.toNat)
    clear hm0 hm1
    simp only [Int.toNat_natCast] at HF HG
    generalize hfx : fixedN x many.toNat = fx at *
    obtain ⟨fl, fe⟩ := fx
    clear hfx
    go_enter Try.func5, Try.ntmps5
    go_wp2_with fail
    refine HF.out.mono ?_
    rintro e w1 ⟨A1, n1, c1, rfl, hown1, hb1⟩
    have hrd1 := hown1.rd
    replace h := h.below hb1
    clear HF hown1
    go_wp2_with fail
    refine (HG _).out.mono ?_
    rintro e w2 ⟨A2, n2, c2, rfl, hown2, hb2⟩
    have hrd2 := hown2.rd
    replace h := h.below hb2
    replace hrd1 := hrd1.below hb2
    have hb := gr hb1 hb2
    clear HG hown2 hb1 hb2
    go_wp2_with fail
    refine (ReadFixed_any A n c b w2 h).mono ?_
    rintro e w3 ⟨rfl, rfl⟩
    go_wp2_with fail
    refine (refReadFixed_any A n c b w2 h).mono ?_
    rintro e w3 ⟨rfl, rfl⟩
    have CV1 := run_conv_b (P := Try.prog) w2 23 9 5 Try.underlying23 Try.underlying5 Try.underlying9 hrd1
    have CV2 := run_conv_b (P := Try.prog) w2 23 9 5 Try.underlying23 Try.underlying5 Try.underlying9 hrd2
    go_wp2_with fail
    refine (num_any _ _).mono ?_
    rintro e w3 ⟨rfl, rfl⟩
    go_wp2_with fail
    refine (num_any _ _).mono ?_
    rintro e w3 ⟨rfl, rfl⟩
    have at0 : ∃ at_ : Nat, at_ ≤ n ∧ (min (n : Int) (max 0 cut)) = at_ := ⟨(min (n : Int) (max 0 cut)).toNat, by omega, by omega⟩
    obtain ⟨at_, hat, hate⟩ := at0
    have SA := fun w' => run_slice_lo (P := Try.prog) 23 5 Try.underlying23 info_u8 A n c at_ hat hle w'
    have SB := fun w' => run_slice_hi (P := Try.prog) 23 5 Try.underlying23 info_u8 A n c at_ hat hle w'
    rcases Nat.eq_zero_or_pos fe with hfe | hfe
    · have hz : ((fe : Int) == 0) = true := by simp [hfe]
      have hrf := HB.out hfe hx
      have hz2 : ((x : Int) == (x : Int)) = true := by simp
      clear HB
      go_wp2_with fail
      refine (ReadFixed_any A1 n1 c1 _ w2 hrd1).mono ?_
      rintro e w3 ⟨rfl, rfl⟩
      rw [hrf]
      go_wp2_with fail
      refine (num_any 0 _).mono ?_
      rintro e w3 ⟨rfl, rfl⟩
      clear hrf hrd1 hrd2 CV1 CV2
      go_wp2_with fail
      refine wp_region_noPanic ?_
      refine wp_region_held_drew (S := fun w' => Below w2.heap.size w2 w') (by kernel_rfl) ((Below.refl _ w2).drew) (fun hHeld => ?_)
      refine wpAnyH_takeL (i := 0) (v := ?vhy1) rfl (by kernel_rfl) (by kernel_rfl) (by kernel_rfl) (fun _ _ _ h => h) (Or.inl ⟨by rfl, ?hy1⟩) (by assumption) ?rhy1
      case hy1 => ((intro w hSw; (try dsimp only at hSw); go_simp); try with_reducible rfl)
      try simp only [Act.put, List.setIfInBounds_toArray, List.set_cons_zero, List.set_cons_succ]
      refine wpAnyH_takeL (i := 1) (v := ?vhy2) rfl (by kernel_rfl) (by kernel_rfl) (by kernel_rfl) (fun _ _ _ h => h) (Or.inl ⟨by rfl, ?hy2⟩) (by assumption) ?rhy2
      case hy2 => ((intro w hSw; (try dsimp only at hSw); go_simp); try with_reducible rfl)
      try simp only [Act.put, List.setIfInBounds_toArray, List.set_cons_zero, List.set_cons_succ]
      refine wpAnyH_takeL (i := 3) (v := ?vhy3) rfl (by kernel_rfl) (by kernel_rfl) (by kernel_rfl) (fun _ _ _ h => h) (Or.inl ⟨by rfl, ?hy3⟩) (by assumption) ?rhy3
      case hy3 => ((intro w hSw; (try dsimp only at hSw); go_simp); try with_reducible rfl)
      try simp only [Act.put, List.setIfInBounds_toArray, List.set_cons_zero, List.set_cons_succ]
      refine wpAnyH_takeL (i := 4) (v := ?vhy4) rfl (by kernel_rfl) (by kernel_rfl) (by kernel_rfl) (fun _ _ _ h => h) (Or.inl ⟨by rfl, ?hy4⟩) (by assumption) ?rhy4
      case hy4 => ((intro w hSw; (try dsimp only at hSw); go_simp); try with_reducible rfl)
      try simp only [Act.put, List.setIfInBounds_toArray, List.set_cons_zero, List.set_cons_succ]
      refine wpAnyH_takeL (i := 8) (v := ?vhy5) rfl (by kernel_rfl) (by kernel_rfl) (by kernel_rfl) (fun _ _ _ h => h) (Or.inl ⟨by rfl, ?hy5⟩) (by assumption) ?rhy5
      case hy5 => ((intro w hSw; (try dsimp only at hSw); go_simp); try with_reducible rfl)
      try simp only [Act.put, List.setIfInBounds_toArray, List.set_cons_zero, List.set_cons_succ]
      refine wpAnyH_takeL (i := 2) (v := ?vhy6) rfl (by kernel_rfl) (by kernel_rfl) (by kernel_rfl) (fun _ _ _ h => h) (Or.inl ⟨by rfl, ?hy6⟩) (by assumption) ?rhy6
      case hy6 => ((intro w hSw; (try dsimp only at hSw); go_simp); try with_reducible rfl)
      try simp only [Act.put, List.setIfInBounds_toArray, List.set_cons_zero, List.set_cons_succ]
      refine wpAnyH_takeL (i := 5) (v := ?vhy7) rfl (by kernel_rfl) (by kernel_rfl) (by kernel_rfl) (fun _ _ _ h => h) (Or.inl ⟨by rfl, ?hy7⟩) (by assumption) ?rhy7
      case hy7 => ((intro w hSw; (try dsimp only at hSw); go_simp); try with_reducible rfl)
      try simp only [Act.put, List.setIfInBounds_toArray, List.set_cons_zero, List.set_cons_succ]
      refine wpAnyH_ready (rs := [6]) (by kernel_rfl) (by simp) ?_
      refine AllReadyH.consL (i := 6) rfl (fun K hK => ?_) AllReadyH.nil
      go_simp
      have H2 := (RdL.two w2 w2.heap.size 23 _ _ _ _ _ _ _ _ (h.begin at_ hat) (h.cut at_ hat) rfl).below (Below.refl _ _).drew
      refine hK.out _ _ ((Below.refl _ w2).alloc (Nat.le_refl _) _).drew (fun hHeld => ?_)
      clear hK
      try simp only [Act.put, List.setIfInBounds_toArray, List.set_cons_zero, List.set_cons_succ]
      refine wpAnyH_ready (rs := [7]) (by kernel_rfl) (by simp) ?_
      refine AllReadyH.consL (i := 7) rfl (fun K hK => ?_) AllReadyH.nil
      go_simp
      refine (Sum_below _ 2 2 [b.take at_, b.drop at_] _ H2).mono ?_
      rintro e w3 ⟨rfl, hb3⟩
      have hb23 := gr ((Below.refl _ w2).alloc (Nat.le_refl _) _).drew hb3
      refine hK.out _ _ hb23 (fun hHeld => ?_)
      simp only [List.flatten_cons, List.flatten_nil, List.append_nil, List.take_append_drop]
      clear hK H2 hb3
      try simp only [Act.put, List.setIfInBounds_toArray, List.set_cons_zero, List.set_cons_succ]
      refine wpAnyH_ready (rs := [9]) (by kernel_rfl) (by simp) ?_
      refine AllReadyH.consL (i := 9) rfl (fun K hK => ?_) AllReadyH.nil
      go_simp
      refine (refSum_any A n c b w3 (h.below hHeld)).mono ?_
      rintro e w4 ⟨rfl, rfl⟩
      refine hK.out _ _ hHeld (fun hHeld => ?_)
      clear hK
      try simp only [Act.put, List.setIfInBounds_toArray, List.set_cons_zero, List.set_cons_succ]
      refine wpAnyH_takeL (i := 10) (v := ?vhy8) rfl (by kernel_rfl) (by kernel_rfl) (by kernel_rfl) (fun _ _ _ h => h) (Or.inl ⟨by rfl, ?hy8⟩) (by assumption) ?rhy8
      case hy8 => ((intro w hSw; (try dsimp only at hSw); go_simp); try with_reducible rfl)
      try simp only [Act.put, List.setIfInBounds_toArray, List.set_cons_zero, List.set_cons_succ]
      refine wpAnyH_takeL (i := 11) (v := ?vhy9) rfl (by kernel_rfl) (by kernel_rfl) (by kernel_rfl) (fun _ _ _ h => h) (Or.inl ⟨by rfl, ?hy9⟩) (by assumption) ?rhy9
      case hy9 => ((intro w hSw; (try dsimp only at hSw); go_simp); try with_reducible rfl)
      try simp only [Act.put, List.setIfInBounds_toArray, List.set_cons_zero, List.set_cons_succ]
      refine wpAnyH_takeL (i := 12) (v := ?vhy10) rfl (by kernel_rfl) (by kernel_rfl) (by kernel_rfl) (fun _ _ _ h => h) (Or.inl ⟨by rfl, ?hy10⟩) (by assumption) ?rhy10
      case hy10 => ((intro w hSw; (try dsimp only at hSw); go_simp); try with_reducible rfl)
      try simp only [Act.put, List.setIfInBounds_toArray, List.set_cons_zero, List.set_cons_succ]
      refine wpAnyH_takeL (i := 15) (v := ?vhy11) rfl (by kernel_rfl) (by kernel_rfl) (by kernel_rfl) (fun _ _ _ h => h) (Or.inl ⟨by rfl, ?hy11⟩) (by assumption) ?rhy11
      case hy11 => ((intro w hSw; (try dsimp only at hSw); go_simp); try with_reducible rfl)
      try simp only [Act.put, List.setIfInBounds_toArray, List.set_cons_zero, List.set_cons_succ]
      refine wpAnyH_ready (rs := [13]) (by kernel_rfl) (by simp) ?_
      refine AllReadyH.consL (i := 13) rfl (fun K hK => ?_) AllReadyH.nil
      go_simp
      have H1 := RdL.one w3 w3.heap.size 23 A n c b (h.below hb23) rfl
      refine hK.out _ _ (hb23.alloc hb23.size _) (fun hHeld => ?_)
      clear hK
      try simp only [Act.put, List.setIfInBounds_toArray, List.set_cons_zero, List.set_cons_succ]
      refine wpAnyH_ready (rs := [14]) (by kernel_rfl) (by simp) ?_
      refine AllReadyH.consL (i := 14) rfl (fun K hK => ?_) AllReadyH.nil
      go_simp
      refine (Sum_below _ 1 1 [b] _ H1).mono ?_
      rintro e w4 ⟨rfl, hb4⟩
      have hb24 := gr (hb23.alloc hb23.size _) hb4
      refine hK.out _ _ hb24 (fun hHeld => ?_)
      simp only [List.flatten_cons, List.flatten_nil, List.append_nil]
      clear hK H1 hb4
      try simp only [Act.put, List.setIfInBounds_toArray, List.set_cons_zero, List.set_cons_succ]
      refine wpAnyH_ready (rs := [16]) (by kernel_rfl) (by simp) ?_
      refine AllReadyH.consL (i := 16) rfl (fun K hK => ?_) AllReadyH.nil
      go_simp
      refine (refSum_any A n c b w4 (h.below hHeld)).mono ?_
      rintro e w5 ⟨rfl, rfl⟩
      refine hK.out _ _ hHeld (fun hHeld => ?_)
      clear hK
      try simp only [Act.put, List.setIfInBounds_toArray, List.set_cons_zero, List.set_cons_succ]
      refine wpAnyH_takeL (i := 17) (v := ?vhy12) rfl (by kernel_rfl) (by kernel_rfl) (by kernel_rfl) (fun _ _ _ h => h) (Or.inl ⟨by rfl, ?hy12⟩) (by assumption) ?rhy12
      case hy12 => ((intro w hSw; (try dsimp only at hSw); go_simp); try with_reducible rfl)
      try simp only [Act.put, List.setIfInBounds_toArray, List.set_cons_zero, List.set_cons_succ]
      refine wpAnyH_takeL (i := 18) (v := ?vhy13) rfl (by kernel_rfl) (by kernel_rfl) (by kernel_rfl) (fun _ _ _ h => h) (Or.inl ⟨by rfl, ?hy13⟩) (by assumption) ?rhy13
      case hy13 => ((intro w hSw; (try dsimp only at hSw); go_simp); try with_reducible rfl)
      try simp only [Act.put, List.setIfInBounds_toArray, List.set_cons_zero, List.set_cons_succ]
      refine wpAnyH_takeL (i := 19) (v := ?vhy14) rfl (by kernel_rfl) (by kernel_rfl) (by kernel_rfl) (fun _ _ _ h => h) (Or.inl ⟨by rfl, ?hy14⟩) (by assumption) ?rhy14
      case hy14 => ((intro w hSw; (try dsimp only at hSw); go_simp); try with_reducible rfl)
      try simp only [Act.put, List.setIfInBounds_toArray, List.set_cons_zero, List.set_cons_succ]
      refine wpAnyH_ready (rs := [20]) (by kernel_rfl) (by simp) ?_
      refine AllReadyH.consL (i := 20) rfl (fun K hK => ?_) AllReadyH.nil
      go_simp
      refine (works_any _).mono ?_
      rintro e w5 ⟨rfl, hb5⟩
      have hb25 := gr hb24 hb5
      refine hK.out _ _ hb25 (fun hHeld => ?_)
      clear hK
      try simp only [Act.put, List.setIfInBounds_toArray, List.set_cons_zero, List.set_cons_succ]
      refine wpAnyH_takeL (i := 21) (v := ?vhy15) rfl (by kernel_rfl) (by kernel_rfl) (by kernel_rfl) (fun _ _ _ h => h) (Or.inl ⟨by rfl, ?hy15⟩) (by assumption) ?rhy15
      case hy15 => ((intro w hSw; (try dsimp only at hSw); go_simp); try with_reducible rfl)
      try simp only [Act.put, List.setIfInBounds_toArray, List.set_cons_zero, List.set_cons_succ]
      refine wpAnyH_takeL (i := 22) (v := ?vhy16) rfl (by kernel_rfl) (by kernel_rfl) (by kernel_rfl) (fun _ _ _ h => h) (Or.inl ⟨by rfl, ?hy16⟩) (by assumption) ?rhy16
      case hy16 => ((intro w hSw; (try dsimp only at hSw); go_simp); try with_reducible rfl)
      try simp only [Act.put, List.setIfInBounds_toArray, List.set_cons_zero, List.set_cons_succ]
      refine wpAnyH_done (by kernel_rfl) ?_ _
      refine NoPanic.normal ?_
      have hfin := gr hb hb25
      go_wp2
      go_ret
      exact ⟨rfl, hfin⟩
    · have hz : ((fe : Int) == 0) = false := by simp; omega
      clear HB hrd1 hrd2
      go_wp2_with fail
      clear CV1 CV2
      refine wp_region_noPanic ?_
      refine wp_region_held_drew (S := fun w' => Below w2.heap.size w2 w') (by kernel_rfl) ((Below.refl _ w2).drew) (fun hHeld => ?_)
      refine wpAnyH_takeL (i := 0) (v := ?vhy17) rfl (by kernel_rfl) (by kernel_rfl) (by kernel_rfl) (fun _ _ _ h => h) (Or.inl ⟨by rfl, ?hy17⟩) (by assumption) ?rhy17
      case hy17 => ((intro w hSw; (try dsimp only at hSw); go_simp); try with_reducible rfl)
      try simp only [Act.put, List.setIfInBounds_toArray, List.set_cons_zero, List.set_cons_succ]
      refine wpAnyH_takeL (i := 1) (v := ?vhy18) rfl (by kernel_rfl) (by kernel_rfl) (by kernel_rfl) (fun _ _ _ h => h) (Or.inl ⟨by rfl, ?hy18⟩) (by assumption) ?rhy18
      case hy18 => ((intro w hSw; (try dsimp only at hSw); go_simp); try with_reducible rfl)
      try simp only [Act.put, List.setIfInBounds_toArray, List.set_cons_zero, List.set_cons_succ]
      refine wpAnyH_takeL (i := 3) (v := ?vhy19) rfl (by kernel_rfl) (by kernel_rfl) (by kernel_rfl) (fun _ _ _ h => h) (Or.inl ⟨by rfl, ?hy19⟩) (by assumption) ?rhy19
      case hy19 => ((intro w hSw; (try dsimp only at hSw); go_simp); try with_reducible rfl)
      try simp only [Act.put, List.setIfInBounds_toArray, List.set_cons_zero, List.set_cons_succ]
      refine wpAnyH_takeL (i := 4) (v := ?vhy20) rfl (by kernel_rfl) (by kernel_rfl) (by kernel_rfl) (fun _ _ _ h => h) (Or.inl ⟨by rfl, ?hy20⟩) (by assumption) ?rhy20
      case hy20 => ((intro w hSw; (try dsimp only at hSw); go_simp); try with_reducible rfl)
      try simp only [Act.put, List.setIfInBounds_toArray, List.set_cons_zero, List.set_cons_succ]
      refine wpAnyH_takeL (i := 8) (v := ?vhy21) rfl (by kernel_rfl) (by kernel_rfl) (by kernel_rfl) (fun _ _ _ h => h) (Or.inl ⟨by rfl, ?hy21⟩) (by assumption) ?rhy21
      case hy21 => ((intro w hSw; (try dsimp only at hSw); go_simp); try with_reducible rfl)
      try simp only [Act.put, List.setIfInBounds_toArray, List.set_cons_zero, List.set_cons_succ]
      refine wpAnyH_takeL (i := 2) (v := ?vhy22) rfl (by kernel_rfl) (by kernel_rfl) (by kernel_rfl) (fun _ _ _ h => h) (Or.inl ⟨by rfl, ?hy22⟩) (by assumption) ?rhy22
      case hy22 => ((intro w hSw; (try dsimp only at hSw); go_simp); try with_reducible rfl)
      try simp only [Act.put, List.setIfInBounds_toArray, List.set_cons_zero, List.set_cons_succ]
      refine wpAnyH_takeL (i := 5) (v := ?vhy23) rfl (by kernel_rfl) (by kernel_rfl) (by kernel_rfl) (fun _ _ _ h => h) (Or.inl ⟨by rfl, ?hy23⟩) (by assumption) ?rhy23
      case hy23 => ((intro w hSw; (try dsimp only at hSw); go_simp); try with_reducible rfl)
      try simp only [Act.put, List.setIfInBounds_toArray, List.set_cons_zero, List.set_cons_succ]
      refine wpAnyH_ready (rs := [6]) (by kernel_rfl) (by simp) ?_
      refine AllReadyH.consL (i := 6) rfl (fun K hK => ?_) AllReadyH.nil
      go_simp
      have H2 := (RdL.two w2 w2.heap.size 23 _ _ _ _ _ _ _ _ (h.begin at_ hat) (h.cut at_ hat) rfl).below (Below.refl _ _).drew
      refine hK.out _ _ ((Below.refl _ w2).alloc (Nat.le_refl _) _).drew (fun hHeld => ?_)
      clear hK
      try simp only [Act.put, List.setIfInBounds_toArray, List.set_cons_zero, List.set_cons_succ]
      refine wpAnyH_ready (rs := [7]) (by kernel_rfl) (by simp) ?_
      refine AllReadyH.consL (i := 7) rfl (fun K hK => ?_) AllReadyH.nil
      go_simp
      refine (Sum_below _ 2 2 [b.take at_, b.drop at_] _ H2).mono ?_
      rintro e w3 ⟨rfl, hb3⟩
      have hb23 := gr ((Below.refl _ w2).alloc (Nat.le_refl _) _).drew hb3
      refine hK.out _ _ hb23 (fun hHeld => ?_)
      simp only [List.flatten_cons, List.flatten_nil, List.append_nil, List.take_append_drop]
      clear hK H2 hb3
      try simp only [Act.put, List.setIfInBounds_toArray, List.set_cons_zero, List.set_cons_succ]
      refine wpAnyH_ready (rs := [9]) (by kernel_rfl) (by simp) ?_
      refine AllReadyH.consL (i := 9) rfl (fun K hK => ?_) AllReadyH.nil
      go_simp
      refine (refSum_any A n c b w3 (h.below hHeld)).mono ?_
      rintro e w4 ⟨rfl, rfl⟩
      refine hK.out _ _ hHeld (fun hHeld => ?_)
      clear hK
      try simp only [Act.put, List.setIfInBounds_toArray, List.set_cons_zero, List.set_cons_succ]
      refine wpAnyH_takeL (i := 10) (v := ?vhy24) rfl (by kernel_rfl) (by kernel_rfl) (by kernel_rfl) (fun _ _ _ h => h) (Or.inl ⟨by rfl, ?hy24⟩) (by assumption) ?rhy24
      case hy24 => ((intro w hSw; (try dsimp only at hSw); go_simp); try with_reducible rfl)
      try simp only [Act.put, List.setIfInBounds_toArray, List.set_cons_zero, List.set_cons_succ]
      refine wpAnyH_takeL (i := 11) (v := ?vhy25) rfl (by kernel_rfl) (by kernel_rfl) (by kernel_rfl) (fun _ _ _ h => h) (Or.inl ⟨by rfl, ?hy25⟩) (by assumption) ?rhy25
      case hy25 => ((intro w hSw; (try dsimp only at hSw); go_simp); try with_reducible rfl)
      try simp only [Act.put, List.setIfInBounds_toArray, List.set_cons_zero, List.set_cons_succ]
      refine wpAnyH_takeL (i := 12) (v := ?vhy26) rfl (by kernel_rfl) (by kernel_rfl) (by kernel_rfl) (fun _ _ _ h => h) (Or.inl ⟨by rfl, ?hy26⟩) (by assumption) ?rhy26
      case hy26 => ((intro w hSw; (try dsimp only at hSw); go_simp); try with_reducible rfl)
      try simp only [Act.put, List.setIfInBounds_toArray, List.set_cons_zero, List.set_cons_succ]
      refine wpAnyH_takeL (i := 15) (v := ?vhy27) rfl (by kernel_rfl) (by kernel_rfl) (by kernel_rfl) (fun _ _ _ h => h) (Or.inl ⟨by rfl, ?hy27⟩) (by assumption) ?rhy27
      case hy27 => ((intro w hSw; (try dsimp only at hSw); go_simp); try with_reducible rfl)
      try simp only [Act.put, List.setIfInBounds_toArray, List.set_cons_zero, List.set_cons_succ]
      refine wpAnyH_ready (rs := [13]) (by kernel_rfl) (by simp) ?_
      refine AllReadyH.consL (i := 13) rfl (fun K hK => ?_) AllReadyH.nil
      go_simp
      have H1 := RdL.one w3 w3.heap.size 23 A n c b (h.below hb23) rfl
      refine hK.out _ _ (hb23.alloc hb23.size _) (fun hHeld => ?_)
      clear hK
      try simp only [Act.put, List.setIfInBounds_toArray, List.set_cons_zero, List.set_cons_succ]
      refine wpAnyH_ready (rs := [14]) (by kernel_rfl) (by simp) ?_
      refine AllReadyH.consL (i := 14) rfl (fun K hK => ?_) AllReadyH.nil
      go_simp
      refine (Sum_below _ 1 1 [b] _ H1).mono ?_
      rintro e w4 ⟨rfl, hb4⟩
      have hb24 := gr (hb23.alloc hb23.size _) hb4
      refine hK.out _ _ hb24 (fun hHeld => ?_)
      simp only [List.flatten_cons, List.flatten_nil, List.append_nil]
      clear hK H1 hb4
      try simp only [Act.put, List.setIfInBounds_toArray, List.set_cons_zero, List.set_cons_succ]
      refine wpAnyH_ready (rs := [16]) (by kernel_rfl) (by simp) ?_
      refine AllReadyH.consL (i := 16) rfl (fun K hK => ?_) AllReadyH.nil
      go_simp
      refine (refSum_any A n c b w4 (h.below hHeld)).mono ?_
      rintro e w5 ⟨rfl, rfl⟩
      refine hK.out _ _ hHeld (fun hHeld => ?_)
      clear hK
      try simp only [Act.put, List.setIfInBounds_toArray, List.set_cons_zero, List.set_cons_succ]
      refine wpAnyH_takeL (i := 17) (v := ?vhy28) rfl (by kernel_rfl) (by kernel_rfl) (by kernel_rfl) (fun _ _ _ h => h) (Or.inl ⟨by rfl, ?hy28⟩) (by assumption) ?rhy28
      case hy28 => ((intro w hSw; (try dsimp only at hSw); go_simp); try with_reducible rfl)
      try simp only [Act.put, List.setIfInBounds_toArray, List.set_cons_zero, List.set_cons_succ]
      refine wpAnyH_takeL (i := 18) (v := ?vhy29) rfl (by kernel_rfl) (by kernel_rfl) (by kernel_rfl) (fun _ _ _ h => h) (Or.inl ⟨by rfl, ?hy29⟩) (by assumption) ?rhy29
      case hy29 => ((intro w hSw; (try dsimp only at hSw); go_simp); try with_reducible rfl)
      try simp only [Act.put, List.setIfInBounds_toArray, List.set_cons_zero, List.set_cons_succ]
      refine wpAnyH_takeL (i := 19) (v := ?vhy30) rfl (by kernel_rfl) (by kernel_rfl) (by kernel_rfl) (fun _ _ _ h => h) (Or.inl ⟨by rfl, ?hy30⟩) (by assumption) ?rhy30
      case hy30 => ((intro w hSw; (try dsimp only at hSw); go_simp); try with_reducible rfl)
      try simp only [Act.put, List.setIfInBounds_toArray, List.set_cons_zero, List.set_cons_succ]
      refine wpAnyH_ready (rs := [20]) (by kernel_rfl) (by simp) ?_
      refine AllReadyH.consL (i := 20) rfl (fun K hK => ?_) AllReadyH.nil
      go_simp
      refine (works_any _).mono ?_
      rintro e w5 ⟨rfl, hb5⟩
      have hb25 := gr hb24 hb5
      refine hK.out _ _ hb25 (fun hHeld => ?_)
      clear hK
      try simp only [Act.put, List.setIfInBounds_toArray, List.set_cons_zero, List.set_cons_succ]
      refine wpAnyH_takeL (i := 21) (v := ?vhy31) rfl (by kernel_rfl) (by kernel_rfl) (by kernel_rfl) (fun _ _ _ h => h) (Or.inl ⟨by rfl, ?hy31⟩) (by assumption) ?rhy31
      case hy31 => ((intro w hSw; (try dsimp only at hSw); go_simp); try with_reducible rfl)
      try simp only [Act.put, List.setIfInBounds_toArray, List.set_cons_zero, List.set_cons_succ]
      refine wpAnyH_takeL (i := 22) (v := ?vhy32) rfl (by kernel_rfl) (by kernel_rfl) (by kernel_rfl) (fun _ _ _ h => h) (Or.inl ⟨by rfl, ?hy32⟩) (by assumption) ?rhy32
      case hy32 => ((intro w hSw; (try dsimp only at hSw); go_simp); try with_reducible rfl)
      try simp only [Act.put, List.setIfInBounds_toArray, List.set_cons_zero, List.set_cons_succ]
      refine wpAnyH_done (by kernel_rfl) ?_ _
      refine NoPanic.normal ?_
      have hfin := gr hb hb25
      go_wp2
      go_ret
      exact ⟨rfl, hfin⟩
end Go.Proofs.Ytjpegpoegcdmnaa
