/- Contracts of the reference's Fixed, of both ReadFixed, of both Text and ReadText. -/
import Derived.Test.YtjpegpoegcdmnaaOctD
import Derived.Laws.BytesArg
namespace Go.Proofs.Ytjpegpoegcdmnaa
open Go.RowKit
set_option linter.unusedVariables false

theorem beB_zeros (n : Nat) : ∀ (d k : Nat), n < 256 ^ k → beB n (d + k) = List.replicate d 0 ++ beB n k := by
  intro d
  induction d with
  | zero => intro k _; simp
  | succ d ih =>
    intro k h
    rw [show d + 1 + k = (d + k) + 1 from by omega, beB, ih k h, List.replicate_succ, List.cons_append]
    congr 1
    have h1 : n / 2 ^ (8 * (d + k)) = 0 := by
      refine Nat.div_eq_of_lt (Nat.lt_of_lt_of_le h ?_)
      rw [pow256]
      exact Nat.pow_le_pow_right (by omega) (by omega)
    rw [h1]
    rfl

theorem refFixed_any (x m : Int) (w : World) (h0 : 0 ≤ x) (h1 : x ≤ 18446744073709551615) (hm0 : -9223372036854775808 ≤ m) (hm1 : m ≤ 9223372036854775807) :
    Calls Try.prog 16 #[.int .u64 x, .int .i64 m] w (FixPost w (fixedN x.toNat m.toNat)) := by
  have hk := needN_le x.toNat (by omega)
  have H8 := Lib.hid (high8 x.toNat (by omega))
  by_cases hlo : m < 1
  · have e : fixedN x.toNat m.toNat = ([], 2) := by unfold fixedN; rw [if_pos (by omega)]
    rw [e]
    clear e
    go_enter Try.func16, Try.ntmps16
    go_wp2
    go_ret2
    exact ⟨none, 0, 0, rfl, Ov.nil _ _ _ _, Below.refl _ _⟩
  · by_cases hhi : 8 < m
    · have e : fixedN x.toNat m.toNat = ([], 2) := by unfold fixedN; rw [if_pos (by omega)]
      rw [e]
      clear e
      go_enter Try.func16, Try.ntmps16
      go_wp2
      go_ret2
      exact ⟨none, 0, 0, rfl, Ov.nil _ _ _ _, Below.refl _ _⟩
    · obtain ⟨k, rfl⟩ := Int.eq_ofNat_of_zero_le (show 0 ≤ m by omega)
      rw [Int.toNat_natCast]
      have hl0 : decide ((k : Int) < 1) = false := by simp; omega
      have hl1 : decide ((8 : Int) < (k : Int)) = false := by simp; omega
      have hcall : ∀ W : World, Calls Try.prog 30 #[.int .u64 x] W (NewB W (beB x.toNat (needN x.toNat))) := fun W => by
        have h := high_any 8 (by omega) x W h0 (by omega)
        rw [H8.out] at h
        exact h
      have HC := Lib.hid hcall
      clear hcall
      go_enter Try.func16, Try.ntmps16
      go_wp2_with fail
      refine (HC.out _).mono ?_
      rintro e w1 ⟨A, n, c, rfl, hown, hbel⟩
      have hn : n = needN x.toNat := by rw [← hown.len, beB_length]
      by_cases hr : k < needN x.toNat
      · have HE := Lib.hid (show fixedN x.toNat k = ([], 4) by unfold fixedN; rw [if_neg (by omega), if_pos hr])
        have hr2 : k < n := by omega
        clear hn
        go_wp2
        go_ret2
        rw [HE.out]
        exact ⟨none, 0, 0, rfl, Ov.nil _ _ _ _, hbel⟩
      · have HE := Lib.hid (show fixedN x.toNat k = (beB x.toNat k, 0) by unfold fixedN; rw [if_neg (by omega), if_neg hr])
        have hr2 : n ≤ k := by omega
        have HZ := Lib.hid (show beB x.toNat k = List.replicate (k - n) 0 ++ beB x.toNat (needN x.toNat) by
          have h := beB_zeros x.toNat (k - needN x.toNat) (needN x.toNat) ((needN_le_iff x.toNat _ (by omega) hk).1 (Nat.le_refl _))
          rw [show k - needN x.toNat + needN x.toNat = k from by omega] at h
          rw [h, hn])
        clear hn
        have hsz := hbel.size
        go_wp2_with (first
          | (at_make; refine wpList_make_b _ rfl _ _ 23 rfl 5 Try.underlying23 info_u8 w.heap.size .i64 .i64 _ _ (k - n) rfl rfl (by omega) (by omega) (by omega) hsz ?_; intro w2 hown2 hgrow2)
          | (at_builtin; refine wpList_append_b _ rfl _ _ 23 rfl 5 Try.underlying23 info_u8 w.heap.size _ _ _ _ rfl hown2 A n c _ rfl (hown.rd.below (Below.of_grown_none hgrow2)) (by omega) (Nat.le_trans hsz hgrow2.size) ?_; intro A2 c2 w3 hown3 hgrow3 hab3))
        go_ret2
        have hsz2 := hgrow2.size
        rw [Nat.sub_add_cancel hr2] at hown3
        rw [HE.out]
        refine ⟨A2, _, c2, rfl, ?_, ((hbel.grown hgrow2 hsz (fun _ h => by cases h))).grown hgrow3 (by omega) (fun q hq => (hown2.ab q hq).1)⟩
        rw [HZ.out]
        exact hown3

def readFixN (l : List UInt8) : Nat × Nat := if l.length < 1 ∨ 8 < l.length then (0, 2) else (rdN l, 0)

theorem ReadFixed_any (A : Option Addr) (n c : Nat) (l : List UInt8) (w : World) (h : Rd w A n c l) :
    Calls Try.prog 17 #[.slice A n c] w fun e w' => e = .returned (.tuple #[.int .u64 ((readFixN l).1 : Int), .int .i64 ((readFixN l).2 : Int)]) ∧ w = w' := by
  have hl := h.len
  have hcap := h.cap
  have hle := h.le
  by_cases hlo : n < 1
  · have e : readFixN l = (0, 2) := by unfold readFixN; rw [if_pos (by omega)]
    rw [e]
    clear e h hl
    go_enter Try.func17, Try.ntmps17
    go_wp2
    go_ret2
    exact ⟨rfl, rfl⟩
  · have hd0 : decide (n < 1) = false := by simp; omega
    by_cases hhi : 8 < n
    · have e : readFixN l = (0, 2) := by unfold readFixN; rw [if_pos (by omega)]
      rw [e]
      have hd1 : decide (8 < n) = true := by simp; omega
      clear e h hl
      go_enter Try.func17, Try.ntmps17
      go_wp2
      go_ret2
      exact ⟨rfl, rfl⟩
    · have e : readFixN l = (rdN l, 0) := by unfold readFixN; rw [if_neg (by omega)]
      rw [e]
      have hd1 : decide (8 < n) = false := by simp; omega
      clear e hl
      have H := Lib.hid h
      clear h
      go_enter Try.func17, Try.ntmps17
      go_wp2_with (go_at_call 28; refine (number_any A n c l _ H.out (by omega)).mono ?_; rintro e w' ⟨rfl, rfl⟩)
      go_ret2
      exact ⟨rfl, rfl⟩

theorem refReadFixed_any (A : Option Addr) (n c : Nat) (l : List UInt8) (w : World) (h : Rd w A n c l) :
    Calls Try.prog 18 #[.slice A n c] w fun e w' => e = .returned (.tuple #[.int .u64 ((readFixN l).1 : Int), .int .i64 ((readFixN l).2 : Int)]) ∧ w = w' := by
  have hl := h.len
  have hcap := h.cap
  have hle := h.le
  by_cases hlo : n < 1
  · have e : readFixN l = (0, 2) := by unfold readFixN; rw [if_pos (by omega)]
    rw [e]
    clear e h hl
    go_enter Try.func18, Try.ntmps18
    go_wp2
    go_ret2
    exact ⟨rfl, rfl⟩
  · have hd0 : decide (n < 1) = false := by simp; omega
    by_cases hhi : 8 < n
    · have e : readFixN l = (0, 2) := by unfold readFixN; rw [if_pos (by omega)]
      rw [e]
      have hd1 : decide (8 < n) = true := by simp; omega
      clear e h hl
      go_enter Try.func18, Try.ntmps18
      go_wp2
      go_ret2
      exact ⟨rfl, rfl⟩
    · have e : readFixN l = (rdN l, 0) := by unfold readFixN; rw [if_neg (by omega)]
      rw [e]
      have hd1 : decide (8 < n) = false := by simp; omega
      clear e hl
      have H := Lib.hid h
      clear h
      go_enter Try.func18, Try.ntmps18
      go_wp2_with (go_at_call 29; refine (read_any A n c l _ H.out (by omega)).mono ?_; rintro e w' ⟨rfl, rfl⟩)
      go_ret2
      exact ⟨rfl, rfl⟩

theorem numL_size (n : Nat) (h : n < 18446744073709551616) : (numL n).length ≤ 9 := by
  rw [numL_length]
  have := needN_le n h
  omega

theorem Text_any (s : ByteArray) (w : World) (hs : s.size ≤ 140737488355000) :
    Calls Try.prog 20 #[.string s] w (NewB w (numL s.size ++ s.data.toList)) := by
  have hN := fun W => Lib.hid (Number_any (s.size : Int) W (by omega) (by omega))
  have hsz9 := numL_size s.size (by omega)
  go_enter Try.func20, Try.ntmps20
  go_wp2_with fail
  refine (hN _).out.mono ?_
  rintro e w1 ⟨A, n, c, rfl, hown, hbel⟩
  rw [Int.toNat_natCast] at hown
  have hn := hown.len
  have hn9 : n ≤ 9 := by omega
  have hsz := hbel.size
  have HO := Lib.hid hown
  clear hn hN hown
  go_wp2_with (at_builtin; refine wpList_append_s _ rfl _ _ 23 9 rfl 5 Try.underlying23 Try.underlying9 info_u8 w.heap.size A n c _ rfl HO.out s rfl (by omega) hsz ?_; intro A2 c2 w2 hown2 hgrow2)
  go_ret
  exact ⟨A2, _, c2, rfl, hown2, hbel.grown hgrow2 hsz (fun q hq => (HO.out.ab q hq).1)⟩

theorem refText_any (s : ByteArray) (w : World) (hs : s.size ≤ 140737488355000) :
    Calls Try.prog 23 #[.string s] w (NewB w (numL s.size ++ s.data.toList)) := by
  have hN : ∀ W, Hid (Calls Try.prog 12 #[.int .u64 (s.size : Int)] W (NewB W (numL s.size))) := fun W => by
    have h := refNumber_any (s.size : Int) W (by omega) (by omega)
    rw [Int.toNat_natCast, refNum_eq s.size (by omega)] at h
    exact h
  have hsz9 := numL_size s.size (by omega)
  go_enter Try.func23, Try.ntmps23
  go_wp2_with fail
  refine (hN _).out.mono ?_
  rintro e w1 ⟨A, n, c, rfl, hown, hbel⟩
  have hn := hown.len
  have hn9 : n ≤ 9 := by omega
  have hsz := hbel.size
  have HO := Lib.hid hown
  clear hn hN hown
  go_wp2_with (at_builtin; refine wpList_append_s _ rfl _ _ 23 9 rfl 5 Try.underlying23 Try.underlying9 info_u8 w.heap.size A n c _ rfl HO.out s rfl (by omega) hsz ?_; intro A2 c2 w2 hown2 hgrow2)
  go_ret
  exact ⟨A2, _, c2, rfl, hown2, hbel.grown hgrow2 hsz (fun q hq => (HO.out.ab q hq).1)⟩
end Go.Proofs.Ytjpegpoegcdmnaa
