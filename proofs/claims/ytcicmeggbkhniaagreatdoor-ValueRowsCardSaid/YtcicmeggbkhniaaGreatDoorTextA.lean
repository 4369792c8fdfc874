/- value: the text of each Kind; hex. -/
import Derived.Test.YtcicmeggbkhniaaGreatDoorFmt
import Derived.Test.YtcicmeggbkhniaaGreatDoorBld
import Derived.Test.YtcicmeggbkhniaaGreatDoorConv
import Derived.Test.YtcicmeggbkhniaaGreatDoorTextP
import Derived.Test.YtcicmeggbkhniaaGreatDoorReg
namespace Go.Proofs.YtcicmeggbkhniaaGreatDoor
open Go.RowKit
set_option linter.unusedVariables false

theorem append_strs (a b : List UInt8) : (strL a ++ strL b) = strL (a ++ b) := by
  apply ByteArray.ext
  simp [strL, ByteArray.data_append]

theorem add_strs (a b : List UInt8) (h : a.length + b.length ≤ 1000000) (w : World) : (binOp .add 9 (.string (strL a)) (.string (strL b))).run Tryz.prog w = .ok (.string (strL (a ++ b))) w := by
  have h1 := strL_size a
  have h2 := strL_size b
  unfold binOp
  simp [go_sem, Op.stringOp, h1, h2, append_strs]
  omega

theorem text_null (k i u : Int) (s : ByteArray) (w : World) : Calls Tryz.prog 47 #[.agg #[.int .i64 k, .int .i64 i, .int .u64 u, .string s]] w fun e w' => e = .returned (.string (strL nullL)) ∧ Below w.heap.size w w' := by
  go_enter Tryz.func47, Tryz.ntmps47
  go_wp2
  go_ret
  exact ⟨rfl, (Below.refl _ w).alloc (Nat.le_refl _) _⟩
theorem text_int (k i u : Int) (s : ByteArray) (w : World) (hE : Env w) (h0 : -9223372036854775808 ≤ i) (h1 : i ≤ 9223372036854775807) : Calls Tryz.prog 49 #[.agg #[.int .i64 k, .int .i64 i, .int .u64 u, .string s]] w fun e w' => e = .returned (.string (strL (Lib.itoa i))) ∧ Below w.heap.size w w' := by
  have hb0 : Below w.heap.size w (w.alloc (.cells #[.int .i64 k, .int .i64 i, .int .u64 u, .string s] 25)) := (Below.refl _ w).alloc (Nat.le_refl _) _
  have hc := FmtI_any i _ (hE.alloc (.cells #[.int .i64 k, .int .i64 i, .int .u64 u, .string s] 25)) h0 h1
  replace hc := Lib.hid hc
  clear h0 h1 hE
  go_enter Tryz.func49, Tryz.ntmps49
  go_wp2_with fail
  refine hc.out.mono ?_
  rintro e w1 ⟨rfl, hb1⟩
  clear hc
  go_wp2
  go_ret
  exact ⟨rfl, gr hb0 hb1⟩
theorem text_uint (k i : Int) (u : Nat) (s : ByteArray) (w : World) (hE : Env w) (h1 : u < 18446744073709551616) : Calls Tryz.prog 51 #[.agg #[.int .i64 k, .int .i64 i, .int .u64 (u : Int), .string s]] w fun e w' => e = .returned (.string (strL (Lib.decDigits u ++ [117]))) ∧ Below w.heap.size w w' := by
  have hb0 : Below w.heap.size w (w.alloc (.cells #[.int .i64 k, .int .i64 i, .int .u64 (u : Int), .string s] 25)) := (Below.refl _ w).alloc (Nat.le_refl _) _
  have hc := FmtU_any u _ (hE.alloc (.cells #[.int .i64 k, .int .i64 i, .int .u64 (u : Int), .string s] 25)) h1
  replace hc := Lib.hid hc
  have hlen : (Lib.decDigits u).length ≤ 25 := by
    rw [Lib.decDigits_length]
    by_cases h0 : u = 0
    · subst h0
      rw [Lib.nDigits_small (by omega)]
      omega
    · have := Lib.numDigits_eq u (by omega) h1
      split at this <;> omega
  have hsz : ¬ 9223372036854775807 < (strL (Lib.decDigits u)).size + 1 := by rw [strL_size]; omega
  clear h1 hE hlen
  go_enter Tryz.func51, Tryz.ntmps51
  go_wp2_with fail
  refine hc.out.mono ?_
  rintro e w1 ⟨rfl, hb1⟩
  clear hc
  go_wp2
  go_ret
  exact ⟨by rw [← append_strs]; rfl, gr hb0 hb1⟩
theorem text_bool (k i u : Int) (s : ByteArray) (w : World) : Calls Tryz.prog 53 #[.agg #[.int .i64 k, .int .i64 i, .int .u64 u, .string s]] w fun e w' => e = .returned (.string (strL (if i = 1 then trueL else falseL))) ∧ Below w.heap.size w w' := by
  have hb0 : Below w.heap.size w (w.alloc (.cells #[.int .i64 k, .int .i64 i, .int .u64 u, .string s] 25)) := (Below.refl _ w).alloc (Nat.le_refl _) _
  by_cases hi : i = 1
  · subst hi
    rw [if_pos rfl]
    go_enter Tryz.func53, Tryz.ntmps53
    go_wp2_with (go_at_call 54; refine (Tryz.strconv_FormatBool _ _).mono ?_; rintro e w' ⟨rfl, rfl⟩)
    go_ret
    exact ⟨rfl, hb0⟩
  · have hd : (i == 1) = false := by simpa using hi
    rw [if_neg hi]
    clear hi
    go_enter Tryz.func53, Tryz.ntmps53
    go_wp2_with (go_at_call 54; refine (Tryz.strconv_FormatBool _ _).mono ?_; rintro e w' ⟨rfl, rfl⟩)
    go_ret
    exact ⟨rfl, hb0⟩

theorem strL_cut (l : List UInt8) (a b : Nat) : (strL l).extract a b = strL ((l.take b).drop a) := by
  apply ByteArray.ext
  simp [strL, List.drop_take]
theorem slice_one (d : List UInt8) (i : Nat) (h : i < d.length) (hd : d.length ≤ 200) (w : World) : (Instr.slice 9 (.string (strL d)) (some (.int .u8 (i : Int))) (some (.int .u8 ((i : Int) + 1))) none).run Tryz.prog w = .ok (.string (strL [d[i]])) w := by
  have h1 := strL_cut d i (i + 1)
  have hs := strL_size d
  have h2 : (d.take (i + 1)).drop i = [d[i]] := by
    rw [List.take_succ_eq_append_getElem h, List.drop_append_of_le_length (by simp; omega), List.drop_eq_nil_of_le (by simp; omega)]
    rfl
  rw [h2] at h1
  unfold Instr.slice Instr.sliceBounds Instr.sliceBound
  simp [go_sem, Sem.run_bind, asIntOf, run_underlying Tryz.underlying9]
  rw [if_pos (by omega)]
  simp [h1]
/-- digits[i:i+1]. -/
theorem slice_dig (i : Nat) (h : i < 16) (w : World) : (Instr.slice 9 (.string { data := #[48, 49, 50, 51, 52, 53, 54, 55, 56, 57, 97, 98, 99, 100, 101, 102] }) (some (.int .u8 (i : Int))) (some (.int .u8 ((i : Int) + 1))) none).run Tryz.prog w = .ok (.string (strL [hexDig i])) w := by
  have h1 := slice_one [48, 49, 50, 51, 52, 53, 54, 55, 56, 57, 97, 98, 99, 100, 101, 102] i h (by decide) w
  have h2 : ∀ i : Fin 16, [48, 49, 50, 51, 52, 53, 54, 55, 56, 57, 97, 98, 99, 100, 101, 102][i.val] = hexDig i.val := by decide
  have h3 := h2 ⟨i, h⟩
  simp only at h3
  rw [h3] at h1
  exact h1
theorem hexL_take (l : List UInt8) (k : Nat) (h : k < l.length) : hexL (l.take (k + 1)) = hexL (l.take k) ++ [hexDig (l[k].toNat / 16), hexDig (l[k].toNat % 16)] := by
  have app : ∀ a b : List UInt8, hexL (a ++ b) = hexL a ++ hexL b := by
    intro a b
    induction a with
    | nil => rfl
    | cons x t ih => simp [hexL, ih]
  rw [List.take_succ_eq_append_getElem h, app]
  rfl

attribute [local go_sem] strL_size
set_option maxRecDepth 100000 in
set_option maxHeartbeats 1000000 in
theorem hex_any (k i u : Int) (l : List UInt8) (w : World) (hl : l.length ≤ 100000) : Calls Tryz.prog 56 #[.agg #[.int .i64 k, .int .i64 i, .int .u64 u, .string (strL l)]] w fun e w' => e = .returned (.string (strL (120 :: 39 :: (hexL l ++ [39])))) ∧ Below w.heap.size w w' := by
  have hb1 : Below w.heap.size w ((w.alloc (.cells #[.int .i64 k, .int .i64 i, .int .u64 u, .string (strL l)] 25)).alloc (.cells #[.pointer none, .slice none 0 0] 107)) := ((Below.refl _ w).alloc (Nat.le_refl _) _).alloc (by simp) _
  have hv1 := (VBox.new w k i u (strL l)).below ((Below.refl _ _).alloc (Nat.le_refl _) (.cells #[.pointer none, .slice none 0 0] 107)) (by simp)
  have hB1 := Bld.new (w.alloc (.cells #[.int .i64 k, .int .i64 i, .int .u64 u, .string (strL l)] 25))
  rw [show (w.alloc (.cells #[.int .i64 k, .int .i64 i, .int .u64 u, .string (strL l)] 25)).heap.size = w.heap.size + 1 from by simp] at hB1
  go_enter Tryz.func56, Tryz.ntmps56
  go_wp2_with fail
  generalize ((w.alloc (.cells #[.int .i64 k, .int .i64 i, .int .u64 u, .string (strL l)] 25)).alloc (.cells #[.pointer none, .slice none 0 0] 107)) = w1 at *
  have hws := WriteString_any (w.heap.size + 1) none [] [120, 39] w1 hB1 (by simp)
  refine hws.mono ?_
  rintro e w2 ⟨rfl, A2, hB2, hbut2, hn2⟩
  have hbl2 := hbut2.below (l := []) (fun g hg => by cases hg) (Nat.le_of_lt hB1.lt)
  have hv2 : VBox w2 w.heap.size k i u (strL l) := (hbl2.block _ (Nat.lt_succ_self _)).trans hv1
  have cv2 := hv2.cells
  obtain ⟨c, w3, hcv, hrd, hb3, hz3⟩ := conv_str (P := Tryz.prog) 9 61 5 Tryz.underlying9 Tryz.underlying61 Tryz.underlying5 w2 l (by unfold maxLen; omega)
  have hB3 := hB2.keep hb3
  have hA2 := hB2.ab
  have hb0 : Below w.heap.size w w3 := (hb1.trans (hbl2.mono (Nat.le_succ _))).trans (hb3.mono (by have := hB2.lt; omega))
  have hR : w2.heap.size < w3.heap.size := by omega
  have hRb := hB2.lt
  generalize hRr : w2.heap.size = R at *
  clear hRr hz3 hb3 hws hv1 hB1 hbut2 hv2
  clear hB2
  go_wp2
  go_loopw [11] (fun p wr => ∃ (j : Nat) (A : Option Addr), p = .int .i64 (j : Int) ∧ j ≤ l.length ∧ Bld wr (w.heap.size + 1) A (120 :: 39 :: hexL (l.take j)) ∧ (∀ g, ab A = some g → g ≠ R) ∧ wr.heap[R]? = w3.heap[R]? ∧ Below w.heap.size w wr ∧ R < wr.heap.size)
    (fun p wr => l.length - (intOf p).toNat)
  case atStart => exact ⟨0, A2, rfl, by omega, hB3, fun g hg => by have := (hA2 g hg).2; omega, rfl, hb0, hR⟩
  case round =>
    obtain ⟨j, A, rfl, hj, hB, hAR, hRc, hbw, hRs⟩ := hrel
    by_cases hlt : j < l.length
    · have hcell : wr.cell? ⟨R, j, none⟩ = some (.int .u8 (l[j].toNat : Int)) := by
        obtain ⟨b0, o0, e0, _, hc0⟩ := hrd.2.2.2 (by omega)
        injection e0 with e0
        injection e0 with e1 e2
        subst e1 e2
        have := hc0 j (cb l[j]) (by simp [hlt])
        rw [Nat.zero_add] at this
        rw [World.cell?, hRc]
        exact this
      have hht := hexL_take l j hlt
      have hbt := l[j].toNat_lt
      generalize hx : l[j].toNat = x at *
      have hx0 : (0 : Int) ≤ (x : Int) := by omega
      have hx1 : (x : Int) ≤ 255 := by omega
      have s1 := slice_dig (x / 16) (by omega)
      have s2 := slice_dig (x % 16) (by omega)
      rw [Int.natCast_ediv] at s1
      rw [Int.natCast_emod] at s2
      have e16 : ((16 : Nat) : Int) = 16 := rfl
      rw [e16] at s1 s2
      clear e16
      have hw1 : IntKind.u8.wrap ((x : Int) / 16 + 1) = (x : Int) / 16 + 1 := by rw [IntKind.wrap_u8]; omega
      have hw2 : IntKind.u8.wrap ((x : Int) % 16 + 1) = (x : Int) % 16 + 1 := by rw [IntKind.wrap_u8]; omega
      have hand : bits .and .u8 (x : Int) 15 = (x : Int) % 16 := u8_and15 _ hx0 (by omega)
      have happ : strL [hexDig (x / 16)] ++ strL [hexDig (x % 16)] = strL [hexDig (x / 16), hexDig (x % 16)] := append_strs _ _
      have hlen : (hexL (l.take j)).length ≤ 200000 := by rw [hexL_length]; simp; omega
      have hws := fun W (h : Bld W (w.heap.size + 1) A (120 :: 39 :: hexL (l.take j))) => WriteString_any (w.heap.size + 1) A _ [hexDig (x / 16), hexDig (x % 16)] W h (by simp; omega)
      replace hht := Lib.hid hht
      replace hws := Lib.hid hws
      clear hlen hbt hx
      go_wp2_with fail
      refine wp_region_noPanic ?_
      refine wp_region_held_drew (S := fun w' => True) (by kernel_rfl) trivial (fun hHeld => ?_)
      refine wpAnyH_takeL (i := 0) (v := ?vhy1) rfl (by kernel_rfl) (by kernel_rfl) (by kernel_rfl) (fun _ _ _ h => h) (Or.inl ⟨by rfl, ?hy1⟩) (by assumption) ?rhy1
      case hy1 => ((intro w hSw; (try dsimp only at hSw); go_simp); try with_reducible rfl)
      try simp only [Act.put, List.setIfInBounds_toArray, List.set_cons_zero, List.set_cons_succ]
      refine wpAnyH_takeL (i := 1) (v := ?vhy2) rfl (by kernel_rfl) (by kernel_rfl) (by kernel_rfl) (fun _ _ _ h => h) (Or.inl ⟨by rfl, ?hy2⟩) (by assumption) ?rhy2
      case hy2 => ((intro w hSw; (try dsimp only at hSw); go_simp); try with_reducible rfl)
      try simp only [Act.put, List.setIfInBounds_toArray, List.set_cons_zero, List.set_cons_succ]
      refine wpAnyH_takeL (i := 2) (v := ?vhy3) rfl (by kernel_rfl) (by kernel_rfl) (by kernel_rfl) (fun _ _ _ h => h) (Or.inl ⟨by rfl, ?hy3⟩) (by assumption) ?rhy3
      case hy3 => ((intro w hSw; (try dsimp only at hSw); go_simp); try with_reducible rfl)
      try simp only [Act.put, List.setIfInBounds_toArray, List.set_cons_zero, List.set_cons_succ]
      refine wpAnyH_takeL (i := 3) (v := ?vhy4) rfl (by kernel_rfl) (by kernel_rfl) (by kernel_rfl) (fun _ _ _ h => h) (Or.inl ⟨by rfl, ?hy4⟩) (by assumption) ?rhy4
      case hy4 => ((intro w hSw; (try dsimp only at hSw); go_simp); try with_reducible rfl)
      try simp only [Act.put, List.setIfInBounds_toArray, List.set_cons_zero, List.set_cons_succ]
      refine wpAnyH_takeL (i := 4) (v := ?vhy5) rfl (by kernel_rfl) (by kernel_rfl) (by kernel_rfl) (fun _ _ _ h => h) (Or.inl ⟨by rfl, ?hy5⟩) (by assumption) ?rhy5
      case hy5 => ((intro w hSw; (try dsimp only at hSw); go_simp); try with_reducible rfl)
      try simp only [Act.put, List.setIfInBounds_toArray, List.set_cons_zero, List.set_cons_succ]
      refine wpAnyH_takeL (i := 5) (v := ?vhy6) rfl (by kernel_rfl) (by kernel_rfl) (by kernel_rfl) (fun _ _ _ h => h) (Or.inl ⟨by rfl, ?hy6⟩) (by assumption) ?rhy6
      case hy6 => ((intro w hSw; (try dsimp only at hSw); go_simp); try with_reducible rfl)
      try simp only [Act.put, List.setIfInBounds_toArray, List.set_cons_zero, List.set_cons_succ]
      refine wpAnyH_takeL (i := 6) (v := ?vhy7) rfl (by kernel_rfl) (by kernel_rfl) (by kernel_rfl) (fun _ _ _ h => h) (Or.inl ⟨by rfl, ?hy7⟩) (by assumption) ?rhy7
      case hy7 => ((intro w hSw; (try dsimp only at hSw); go_simp); try with_reducible rfl)
      try simp only [Act.put, List.setIfInBounds_toArray, List.set_cons_zero, List.set_cons_succ]
      refine wpAnyH_takeL (i := 7) (v := ?vhy8) rfl (by kernel_rfl) (by kernel_rfl) (by kernel_rfl) (fun _ _ _ h => h) (Or.inl ⟨by rfl, ?hy8⟩) (by assumption) ?rhy8
      case hy8 => ((intro w hSw; (try dsimp only at hSw); go_simp); try with_reducible rfl)
      try simp only [Act.put, List.setIfInBounds_toArray, List.set_cons_zero, List.set_cons_succ]
      refine wpAnyH_takeL (i := 8) (v := ?vhy9) rfl (by kernel_rfl) (by kernel_rfl) (by kernel_rfl) (fun _ _ _ h => h) (Or.inl ⟨by rfl, ?hy9⟩) (by assumption) ?rhy9
      case hy9 => ((intro w hSw; (try dsimp only at hSw); go_simp); try with_reducible rfl)
      try simp only [Act.put, List.setIfInBounds_toArray, List.set_cons_zero, List.set_cons_succ]
      refine wpAnyH_takeL (i := 9) (v := ?vhy10) rfl (by kernel_rfl) (by kernel_rfl) (by kernel_rfl) (fun _ _ _ h => h) (Or.inl ⟨by rfl, ?hy10⟩) (by assumption) ?rhy10
      case hy10 => ((intro w hSw; (try dsimp only at hSw); go_simp); try with_reducible rfl)
      try simp only [Act.put, List.setIfInBounds_toArray, List.set_cons_zero, List.set_cons_succ]
      refine wpAnyH_takeL (i := 10) (v := ?vhy11) rfl (by kernel_rfl) (by kernel_rfl) (by kernel_rfl) (fun _ _ _ h => h) (Or.inl ⟨by rfl, ?hy11⟩) (by assumption) ?rhy11
      case hy11 => ((intro w hSw; (try dsimp only at hSw); go_simp); try with_reducible rfl)
      try simp only [Act.put, List.setIfInBounds_toArray, List.set_cons_zero, List.set_cons_succ]
      refine wpAnyH_takeL (i := 11) (v := ?vhy12) rfl (by kernel_rfl) (by kernel_rfl) (by kernel_rfl) (fun _ _ _ h => h) (Or.inl ⟨by rfl, ?hy12⟩) (by assumption) ?rhy12
      case hy12 => ((intro w hSw; (try dsimp only at hSw); go_simp); try with_reducible rfl)
      try simp only [Act.put, List.setIfInBounds_toArray, List.set_cons_zero, List.set_cons_succ]
      refine wpAnyH_takeL (i := 12) (v := ?vhy13) rfl (by kernel_rfl) (by kernel_rfl) (by kernel_rfl) (fun _ _ _ h => h) (Or.inl ⟨by rfl, ?hy13⟩) (by assumption) ?rhy13
      case hy13 => ((intro w hSw; (try dsimp only at hSw); go_simp); try with_reducible rfl)
      try simp only [Act.put, List.setIfInBounds_toArray, List.set_cons_zero, List.set_cons_succ]
      refine wpAnyH_ready (rs := [13]) (by kernel_rfl) (by simp) ?_
      refine AllReadyH.consL (i := 13) rfl (fun K hK => ?_) AllReadyH.nil
      go_simp
      refine (hws.out _ (hB.keep (Below.refl _ wr).drew)).mono ?_
      rintro e W2 ⟨rfl, A', hB2, hbut, hnew⟩
      refine hK.out _ _ trivial (fun hHeld => ?_)
      clear hK
      try simp only [Act.put, List.setIfInBounds_toArray, List.set_cons_zero, List.set_cons_succ]
      refine wpAnyH_done (by kernel_rfl) ?_ _
      refine NoPanic.normal ?_
      have hbelow := hbut.below (l := []) (fun g hg => (hB.ab g hg).1) (Nat.le_of_lt hB.lt)
      have hRc2 := (hbut.block R hRs (by omega) (fun e => hAR _ e rfl)).trans hRc
      have hAR2 : ∀ g, ab A' = some g → g ≠ R := fun g hg => by
        rcases hnew g hg with h | h
        · exact hAR g h
        · have : wr.heap.size ≤ g := h
          omega
      have hbw2 : Below w.heap.size w W2 := (hbw.drew).trans (hbelow.mono (Nat.le_succ _))
      have hRs2 : R < W2.heap.size := Nat.lt_of_lt_of_le hRs hbut.size
      clear hHeld hws s1 s2 happ hand hw1 hw2 hbut hbelow hcell
      go_wp2
      refine ⟨⟨j + 1, A', by simp, by omega, ?_, hAR2, hRc2, hbw2, hRs2⟩, by simp [intOf]; omega⟩
      rw [hht.out]
      simpa using hB2
    · obtain rfl : j = l.length := by omega
      rw [List.take_length] at hB
      have hst := BString_any (w.heap.size + 1) A _ wr hB
      have hlen : (hexL l).length ≤ 200000 := by rw [hexL_length]; omega
      have hsz : ¬ 9223372036854775807 < (strL (120 :: 39 :: hexL l)).size + 1 := by rw [strL_size]; simp; omega
      replace hst := Lib.hid hst
      clear hB hlen
      go_wp2_with fail
      refine hst.out.mono ?_
      rintro e W2 ⟨rfl, hb2⟩
      have hbw2 : Below w.heap.size w W2 := hbw.trans (hb2.mono (Nat.le_succ _))
      clear hst
      go_wp2
      go_ret
      exact ⟨by rw [show 120 :: 39 :: (hexL l ++ [39]) = (120 :: 39 :: hexL l) ++ [39] from rfl, ← append_strs]; rfl, hbw2⟩
end Go.Proofs.YtcicmeggbkhniaaGreatDoor
