/- OctetHolds answers true for every two numbers, every bytes and every bit. -/
import Derived.Test.YtjpegpoegcdmnaaOctW
import Derived.Test.YtjpegpoegcdmnaaOctN
import Derived.Test.YtjpegpoegcdmnaaRow
import Derived.Test.YtjpegpoegcdmnaaReg
namespace Go.Proofs.Ytjpegpoegcdmnaa
open Go.RowKit
set_option linter.unusedVariables false
attribute [local go_sem] strL_toList strL_size

theorem strL_extract (l : List UInt8) (k : Nat) : ((strL l).extract 0 k).toList = l.take k := by
  rw [ByteArray.toList_eq, ByteArray.data_extract]
  simp [strL]
attribute [local go_sem] strL_extract

theorem Ob.open {w : World} {base e : Nat} {A : Option Addr} {n c : Nat} {l : List UInt8} (h : Ob w base e A n c l) (hn : 0 < n) :
    ∃ g, A = some ⟨g, 0, none⟩ ∧ base ≤ g ∧ g < w.heap.size ∧ (∀ i, (hi : i < l.length) → w.cell? ⟨g, i, none⟩ = some (.int .u8 (l[i].toNat : Int))) ∧ ∀ i, w.frozen? ⟨g, i, none⟩ = false := by
  have h0 := h
  rcases h.2 with ⟨hv, hz⟩ | ⟨g, cap, cur, hv, hb, hg, _⟩
  · omega
  · injection hv with h1 h2 h3
    subst h1 h3
    refine ⟨g, rfl, hb, (Array.getElem?_eq_some_iff.1 hg).1, fun i hi => ?_, fun i => World.ownsRow.frozenAt h0 i⟩
    have h4 := World.ownsRow.cellAt h0 i (by have := h.len; omega)
    rw [h4]
    simp [hi, cb]
/-- A store into a row of the call's own. -/
theorem Ob.set {w : World} {base e g n c : Nat} {l : List UInt8} (h : Ob w base e (some ⟨g, 0, none⟩) n c l) (i : Nat) (b : UInt8) :
    Ob (w.setCell ⟨g, i, none⟩ (.int .u8 (b.toNat : Int))) base e (some ⟨g, 0, none⟩) n c (l.set i b) := by
  have h1 := (World.ownsRow.stored h i (cb b)).1
  unfold Ob Ov
  rw [List.map_set]
  exact h1

theorem flip (y : UInt8) (r : Nat) (hr : r < 8) : ∃ z : UInt8, z ≠ y ∧ bits .xor .u8 (y.toNat : Int) ((2 : Int) ^ r % 256) = (z.toNat : Int) := by
  have hp : 2 ^ r < 2 ^ 8 := Nat.pow_lt_pow_right (by decide) hr
  have hpos : 0 < 2 ^ r := Nat.pow_pos (by decide)
  have e0 : ((2 : Int) ^ r % 256) = ((2 ^ r : Nat) : Int) := by
    have e1 : ((2 : Int) ^ r) = ((2 ^ r : Nat) : Int) := by simp
    rw [e1]
    generalize 2 ^ r = p at *
    omega
  rw [e0]
  clear e0
  generalize 2 ^ r = p at *
  have hy := y.toNat_lt
  have h1 := u8_xor_nat y.toNat p (by omega) (by omega)
  have hlt : y.toNat ^^^ p < 256 := Nat.xor_lt_two_pow (n := 8) (by omega) (by omega)
  have hz : (UInt8.ofNat (y.toNat ^^^ p)).toNat = y.toNat ^^^ p := by
    rw [UInt8.toNat_ofNat']
    exact Nat.mod_eq_of_lt hlt
  refine ⟨UInt8.ofNat (y.toNat ^^^ p), fun h => ?_, by rw [h1, hz]⟩
  have h2 := congrArg UInt8.toNat h
  rw [hz] at h2
  have h3 : y.toNat ^^^ p = y.toNat ^^^ 0 := by rw [h2]; simp
  have := xor_left_cancel h3
  omega
theorem sum_ne (b : List UInt8) (i : Nat) (hi : i < b.length) (z : UInt8) (hz : z ≠ b[i]) :
    ((((4294967295 - crc 4294967295 b : Nat) : Int)) != ((4294967295 - crc 4294967295 (b.set i z) : Nat) : Int)) = true := by
  have h1 := crc_lt b 4294967295 (by decide)
  have h2 := crc_lt (b.set i z) 4294967295 (by decide)
  have h3 := crc_set b i hi z hz 4294967295 (by decide)
  simp
  omega

theorem Number_nat (x : Nat) (w : World) (h1 : x < 18446744073709551616) :
    Calls Try.prog 9 #[.int .u64 (x : Int)] w (NewB w (numL x)) := by
  have h := Number_any (x : Int) w (by omega) (by omega)
  rw [Int.toNat_natCast] at h
  exact h

set_option maxRecDepth 100000 in
set_option maxHeartbeats 2000000 in
theorem OctetHolds_walk (m x : Nat) (A : Option Addr) (n c : Nat) (b : List UInt8) (bit : Int) (w : World) (hm : m < 18446744073709551616) (hx : x < 18446744073709551616) (h : Rd w A n c b) 
    (hb0 : -9223372036854775808 ≤ bit) (hb1 : bit ≤ 9223372036854775807) :
    Calls Try.prog 4 #[.int .u64 (m : Int), .int .u64 (x : Int), .slice A n c, .int .i64 bit] w fun e w' => e = .returned (.bool true) ∧ Below w.heap.size w w' := by
  have hcap := h.cap
  have hle := h.le
  have hlen := h.len
  have htest : ∀ (f1 : 300 < n ∨ bit < 0 ∨ 8 * (n : Int) ≤ bit), Calls Try.prog 4 #[.int .u64 (m : Int), .int .u64 (x : Int), .slice A n c, .int .i64 bit] w fun e w' => e = .returned (.bool true) ∧ Below w.heap.size w w' := by
    intro f1
    by_cases hbig : 300 < n
    · have hd1 : decide (300 < n) = true := by simp; omega
      clear f1 h
      go_enter Try.func4, Try.ntmps4
      go_wp2_with (go_at_call 8; refine (works_any _).mono ?_; rintro e w1 ⟨rfl, hb⟩)
      go_ret
      exact ⟨rfl, hb⟩
    · have hd1 : decide (300 < n) = false := by simp; omega
      by_cases hneg : bit < 0
      · have hd2 : decide (bit < 0) = true := by simp; omega
        clear f1 h
        go_enter Try.func4, Try.ntmps4
        go_wp2_with (go_at_call 8; refine (works_any _).mono ?_; rintro e w1 ⟨rfl, hb⟩)
        go_ret
        exact ⟨rfl, hb⟩
      · have hd2 : decide (bit < 0) = false := by simp; omega
        have hd3 : 8 * (n : Int) ≤ bit := by omega
        clear f1 h
        go_enter Try.func4, Try.ntmps4
        go_wp2_with (go_at_call 8; refine (works_any _).mono ?_; rintro e w1 ⟨rfl, hb⟩)
        go_ret
        exact ⟨rfl, hb⟩
  by_cases hout : 300 < n ∨ bit < 0 ∨ 8 * (n : Int) ≤ bit
  · exact htest hout
  · clear htest
    have hd1 : decide (300 < n) = false := by simp; omega
    have hd2 : decide (bit < 0) = false := by simp; omega
    have hd3 : bit < 8 * (n : Int) := by omega
    have hd4 : 0 ≤ bit := by omega
    have hd5 : n ≤ 300 := by omega
    clear hout hb0 hb1
    obtain ⟨k, rfl⟩ := Int.eq_ofNat_of_zero_le hd4
    have hk8 : k / 8 < n := by omega
    go_enter Try.func4, Try.ntmps4
    go_wp2_with fail
    refine wp_region_noPanic ?_
    refine wp_region_held_drew (S := fun w' => Below w.heap.size w w') (by kernel_rfl) ((Below.refl _ w).drew) (fun hHeld => ?_)
    refine wpAnyH_takeL (i := 0) (v := ?vhy1) rfl (by kernel_rfl) (by kernel_rfl) (by kernel_rfl) (fun _ _ _ h => h) (Or.inl ⟨by rfl, ?hy1⟩) (by assumption) ?rhy1
    case hy1 => ((intro w hSw; (try dsimp only at hSw); go_simp); try with_reducible rfl)
    try simp only [Act.put, List.setIfInBounds_toArray, List.set_cons_zero, List.set_cons_succ]
    refine wpAnyH_takeL (i := 3) (v := ?vhy2) rfl (by kernel_rfl) (by kernel_rfl) (by kernel_rfl) (fun _ _ _ h => h) (Or.inl ⟨by rfl, ?hy2⟩) (by assumption) ?rhy2
    case hy2 => ((intro w hSw; (try dsimp only at hSw); go_simp); try with_reducible rfl)
    try simp only [Act.put, List.setIfInBounds_toArray, List.set_cons_zero, List.set_cons_succ]
    refine wpAnyH_ready (rs := [1]) (by kernel_rfl) (by simp) ?_
    refine AllReadyH.consL (i := 1) rfl (fun K hK => ?_) AllReadyH.nil
    go_simp
    refine (Number_nat m _ hm).mono ?_
    rintro e w1 ⟨A1, n1, c1, rfl, hown1, hb1⟩
    have hb01 := gr hHeld hb1
    refine hK.out _ _ hb01 (fun hHeld => ?_)
    have CV1 := fun w' (hb : Below w1.heap.size w1 w') => run_conv_b (P := Try.prog) w' 23 9 5 Try.underlying23 Try.underlying5 Try.underlying9 (hown1.rd.below hb)
    clear hK hHeld hown1
    refine wpAnyH_more (S' := fun w' => Below w1.heap.size w1 w') (fun w' h => gr hb01 h) ?_
    have hHeld := Below.refl w1.heap.size w1
    try simp only [Act.put, List.setIfInBounds_toArray, List.set_cons_zero, List.set_cons_succ]
    refine wpAnyH_takeL (i := 2) (v := ?vhy3) rfl (by kernel_rfl) (by kernel_rfl) (by kernel_rfl) (fun _ _ _ h => h) (Or.inl ⟨by rfl, ?hy3⟩) (by assumption) ?rhy3
    case hy3 => ((intro w hSw; (try dsimp only at hSw); go_simp); try with_reducible rfl)
    try simp only [Act.put, List.setIfInBounds_toArray, List.set_cons_zero, List.set_cons_succ]
    refine wpAnyH_ready (rs := [4]) (by kernel_rfl) (by simp) ?_
    refine AllReadyH.consL (i := 4) rfl (fun K hK => ?_) AllReadyH.nil
    go_simp
    refine (Number_nat x _ hx).mono ?_
    rintro e w2 ⟨A2, n2, c2, rfl, hown2, hb2⟩
    refine hK.out _ _ hb2 (fun hHeld => ?_)
    have CV2 := fun w' (hb : Below w2.heap.size w2 w') => run_conv_b (P := Try.prog) w' 23 9 5 Try.underlying23 Try.underlying5 Try.underlying9 (hown2.rd.below hb)
    clear hK hHeld hown2 CV1
    refine wpAnyH_more (S' := fun w' => Below w2.heap.size w2 w') (fun w' h => gr hb2 h) ?_
    have hHeld := Below.refl w2.heap.size w2
    try simp only [Act.put, List.setIfInBounds_toArray, List.set_cons_zero, List.set_cons_succ]
    refine wpAnyH_takeL (i := 5) (v := ?vhy4) rfl (by kernel_rfl) (by kernel_rfl) (by kernel_rfl) (fun _ _ _ h => h) (Or.inl ⟨by rfl, ?hy4⟩) (by assumption) ?rhy4
    case hy4 => ((intro w hSw; (try dsimp only at hSw); go_simp); try with_reducible rfl)
    try simp only [Act.put, List.setIfInBounds_toArray, List.set_cons_zero, List.set_cons_succ]
    refine wpAnyH_takeL (i := 6) (v := ?vhy5) rfl (by kernel_rfl) (by kernel_rfl) (by kernel_rfl) (fun _ _ _ h => h) (Or.inl ⟨by rfl, ?hy5⟩) (by assumption) ?rhy5
    case hy5 => ((intro w hSw; (try dsimp only at hSw); go_simp); try with_reducible rfl)
    try simp only [Act.put, List.setIfInBounds_toArray, List.set_cons_zero, List.set_cons_succ]
    refine wpAnyH_takeL (i := 7) (v := ?vhy6) rfl (by kernel_rfl) (by kernel_rfl) (by kernel_rfl) (fun _ _ _ h => h) (Or.inl ⟨by rfl, ?hy6⟩) (by assumption) ?rhy6
    case hy6 => ((intro w hSw; (try dsimp only at hSw); go_simp); try with_reducible rfl)
    try simp only [Act.put, List.setIfInBounds_toArray, List.set_cons_zero, List.set_cons_succ]
    refine wpAnyH_done (by kernel_rfl) ?_ _
    refine NoPanic.normal ?_
    have hb := gr hb01 hb2
    replace h := h.below hb
    clear hb01 hb1 hb2 hHeld CV2
    have HL := less_numL m x hm hx
    have HE := numL_inj m x hm hx
    have HP := numL_begins m x hm hx
    have hlit := Ob.lit w2 w2.heap.size 5 [] (Nat.le_refl _) (by decide)
    by_cases hmn : m = x
    all_goals
      first
        | (subst hmn; have HE2 : (numL m == numL m) = true := (by simp); have HL2 : Op.bytesLess (numL m) (numL m) = false := (by simpa using HL); have hmm : ((m : Int) == (m : Int)) = true := (by simp))
        | (have HE2 : (numL m == numL x) = false := (by rw [HE]; simp [hmn]); have HP2 := HP hmn; have HL2 := HL; have hmm : ((m : Int) == (x : Int)) = false := (by simp; omega); have hmi : ¬ (m : Int) = (x : Int) := (by omega); clear hmn)
      clear HP HE HL hm hx
      go_wp2_with (at_builtin; refine wpList_append_br _ rfl (.tmp 69) (.tmp 70) 23 rfl 5 Try.underlying23 info_u8 w2.heap.size _ 0 0 [] rfl hlit A n c _ rfl (h.below (gr_alloc (Below.refl _ _) _)) (by omega) (by simp) n (by omega) ?_; intro A3 c3 w3 hown3 hgrow3 hab3; have hb3 := ((Below.refl _ w2).alloc (Nat.le_refl _) _).grown hgrow3 (by simp) (fun q hq => (hlit.ab q hq).1); simp only [List.nil_append] at hown3; obtain ⟨g, rfl, hg1, hg2, hgc, hgf⟩ := hown3.open (by omega); have hck := hgc (k / 8) (by omega); have hcf := hgf (k / 8); clear hgc hgf)
      all_goals
        obtain ⟨z, hz, ez⟩ := flip b[k / 8] (k % 8) (by omega)
        rw [ez]
        clear ez
        have h4 := h.below (hb3.setCell (p := ⟨g, k / 8, none⟩) hg1 (.int .u8 (z.toNat : Int)))
        have hb4 := gr hb (hb3.setCell (p := ⟨g, k / 8, none⟩) hg1 (.int .u8 (z.toNat : Int)))
        have hown4 := (hown3.set (k / 8) z).rd
        have HS := Lib.hid (sum_ne b (k / 8) (by omega) z hz)
        clear hown3 h hb hb3 hgrow3 hab3 hck hcf hlit
        refine (Sum_below _ 1 1 [b] _ (RdL.one (w3.setCell ⟨g, k / 8, none⟩ (.int .u8 (z.toNat : Int))) w3.heap.size 23 A n c b h4 (by simp [World.setCell]))).mono ?_
        rintro e w5 ⟨rfl, hb5⟩
        replace hb5 := gr (gr_alloc (Below.refl _ _) _) hb5
        replace hown4 := hown4.below hb5
        replace hb4 := gr hb4 hb5
        clear hb5 h4
        simp only [List.flatten_cons, List.flatten_nil, List.append_nil]
        go_wp2_with fail
        refine (Sum_below _ 1 1 [b.set (k / 8) z] _ (RdL.one w5 w5.heap.size 23 _ n c3 (b.set (k / 8) z) hown4 rfl)).mono ?_
        rintro e w6 ⟨rfl, hb6⟩
        replace hb4 := gr hb4 (gr (gr_alloc (Below.refl _ _) _) hb6)
        clear hb6
        simp only [List.flatten_cons, List.flatten_nil, List.append_nil]
        have hs := HS.out
        go_wp2_with fail
        refine (works_any _).mono ?_
        rintro e w7 ⟨rfl, hb7⟩
        replace hb4 := gr hb4 hb7
        go_wp2
        go_ret
        exact ⟨rfl, hb4⟩
end Go.Proofs.Ytjpegpoegcdmnaa
