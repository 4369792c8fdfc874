/- value.read: a value's text. -/
import Derived.Test.YtcicmeggbkhniaaGreatDoorParseB
import Derived.Test.YtcicmeggbkhniaaGreatDoorFmt
import Derived.Test.YtcicmeggbkhniaaGreatDoorVBox
import Derived.Lib.AtoiErrMem
import Derived.Lib.ParseIntBTie
namespace Go.Proofs.YtcicmeggbkhniaaGreatDoor
open Go.RowKit
set_option linter.unusedVariables false

/-- What read tells: a value where no error is told. -/
def ReadPost (w : World) (l : List UInt8) (e : Ending) (w' : World) : Prop :=
  ∃ (x : Vl) (t : List UInt8), e = .returned (.tuple #[x.val, errF t (readT l).2]) ∧ ((readT l).2 = 0 → x = (readT l).1) ∧ Below w.heap.size w w'
theorem ReadPost.mk {w : World} {l : List UInt8} {e : Ending} {w' : World} (x : Vl) (t : List UInt8) (n : Nat) (y : Vl) (h : readT l = (y, n)) (he : e = .returned (.tuple #[x.val, errF t n])) (hx : n = 0 → x = y) (hb : Below w.heap.size w w') : ReadPost w l e w' := by
  refine ⟨x, t, ?_, ?_, hb⟩
  · rw [h]; exact he
  · rw [h]; exact hx

theorem cutP_yes (r : List UInt8) : Lib.trimPrefix (120 :: 39 :: r) [120, 39] = r ∧ Lib.hasPrefix (120 :: 39 :: r) [120, 39] = true := by
  have h : Lib.hasPrefix (120 :: 39 :: r) [120, 39] = true := by simp [Lib.hasPrefix, List.isPrefixOf]
  refine ⟨?_, h⟩
  unfold Lib.trimPrefix
  rw [if_pos h]
  rfl
theorem cutS_yes (t : List UInt8) (c : UInt8) : Lib.trimSuffix (t ++ [c]) [c] = t ∧ Lib.hasSuffix (t ++ [c]) [c] = true := by
  have h : Lib.hasSuffix (t ++ [c]) [c] = true := by
    unfold Lib.hasSuffix
    rw [List.isSuffixOf_iff_suffix]
    exact List.suffix_append _ _
  refine ⟨?_, h⟩
  unfold Lib.trimSuffix
  rw [if_pos h]
  simp
theorem suffix_one {l : List UInt8} {c : UInt8} (h : Lib.hasSuffix l [c] = true) : ∃ t, l = t ++ [c] := by
  unfold Lib.hasSuffix at h
  rw [List.isSuffixOf_iff_suffix] at h
  obtain ⟨t, h⟩ := h
  exact ⟨t, h.symm⟩
theorem quoted_no {l : List UInt8} (h : quoted l = none) : (Lib.hasPrefix l [120, 39] && Lib.hasSuffix (Lib.trimPrefix l [120, 39]) [39]) = false := by
  cases hp : Lib.hasPrefix l [120, 39] with
  | false => rfl
  | true =>
    have hp' := hp
    unfold Lib.hasPrefix at hp'
    rw [List.isPrefixOf_iff_prefix] at hp'
    obtain ⟨r, rfl⟩ := hp'
    have e : [120, 39] ++ r = 120 :: 39 :: r := rfl
    rw [e] at h ⊢
    rw [(cutP_yes r).1]
    cases hs : Lib.hasSuffix r [39] with
    | false => rfl
    | true =>
      obtain ⟨t, rfl⟩ := suffix_one hs
      rw [quoted_of] at h
      cases h
theorem tailed_no {l : List UInt8} (h : tailed l = none) : Lib.hasSuffix l [117] = false := by
  cases hs : Lib.hasSuffix l [117] with
  | false => rfl
  | true =>
    obtain ⟨t, rfl⟩ := suffix_one hs
    unfold tailed at h
    rw [if_pos (by simp)] at h
    cases h

attribute [local go_sem] strL_size strL_toList
set_option maxRecDepth 100000 in
set_option maxHeartbeats 2000000 in
theorem read_null (w : World) : Calls Tryz.prog 31 #[.string (strL [110, 117, 108, 108])] w (ReadPost w nullL) := by
  go_enter Tryz.func31, Tryz.ntmps31
  go_wp2
  refine bodyPost_ret (results_cellV rfl _ _ rfl (VBox.new w 0 0 0 (strL []))) rfl ?_
  exact ReadPost.mk zeroT [] 0 zeroT rfl rfl (fun _ => rfl) ((Below.refl _ w).alloc (Nat.le_refl _) _)
set_option maxRecDepth 100000 in
set_option maxHeartbeats 2000000 in
theorem read_true (w : World) : Calls Tryz.prog 31 #[.string (strL [116, 114, 117, 101])] w (ReadPost w trueL) := by
  go_enter Tryz.func31, Tryz.ntmps31
  go_wp2
  refine bodyPost_ret (results_cellV rfl _ _ rfl (VBox.new w 3 1 0 (strL []))) rfl ?_
  exact ReadPost.mk ⟨3, 1, 0, []⟩ [] 0 ⟨3, 1, 0, []⟩ rfl rfl (fun _ => rfl) ((Below.refl _ w).alloc (Nat.le_refl _) _)
set_option maxRecDepth 100000 in
set_option maxHeartbeats 2000000 in
theorem read_false (w : World) : Calls Tryz.prog 31 #[.string (strL [102, 97, 108, 115, 101])] w (ReadPost w falseL) := by
  go_enter Tryz.func31, Tryz.ntmps31
  go_wp2
  refine bodyPost_ret (results_cellV rfl _ _ rfl (VBox.new w 3 0 0 (strL []))) rfl ?_
  exact ReadPost.mk ⟨3, 0, 0, []⟩ [] 0 ⟨3, 0, 0, []⟩ rfl rfl (fun _ => rfl) ((Below.refl _ w).alloc (Nat.le_refl _) _)

theorem cutP_at (l p : List UInt8) (w : World) : Calls Tryz.prog 59 #[.string (strL l), .string (strL p)] w fun e w' => e = .returned (.tuple #[.string (strL (Lib.trimPrefix l p)), .bool (Lib.hasPrefix l p)]) ∧ w = w' :=
  (Tryz.strings_CutPrefix (strL l) (strL p) w).mono fun e w' ⟨he, hw⟩ => ⟨he, hw.symm⟩
theorem cutS_at (l p : List UInt8) (w : World) (hl : l.length ≤ 100000) : Calls Tryz.prog 60 #[.string (strL l), .string (strL p)] w fun e w' => e = .returned (.tuple #[.string (strL (Lib.trimSuffix l p)), .bool (Lib.hasSuffix l p)]) ∧ w = w' :=
  (Tryz.strings_CutSuffix (strL l) (strL p) w (by rw [strL_size]; omega)).mono fun e w' ⟨he, hw⟩ => ⟨he, hw.symm⟩

set_option maxRecDepth 100000 in
set_option maxHeartbeats 2000000 in
theorem read_quoted (t : List UInt8) (w : World) (ht : t.length ≤ 90000) : Calls Tryz.prog 31 #[.string (strL (120 :: 39 :: (t ++ [39])))] w (ReadPost w (120 :: 39 :: (t ++ [39]))) := by
  have hc1 := fun W => cutP_at (120 :: 39 :: (t ++ [39])) [120, 39] W
  rw [(cutP_yes (t ++ [39])).1, (cutP_yes (t ++ [39])).2] at hc1
  have hc2 := fun W => cutS_at (t ++ [39]) [39] W (by simp; omega)
  rw [(cutS_yes t 39).1, (cutS_yes t 39).2] at hc2
  have hby := fun W => bytes_any t W (by omega)
  have hR : readT (120 :: 39 :: (t ++ [39])) = (if (bytesV t).2 = 0 then ⟨4, 0, 0, (bytesV t).1⟩ else zeroT, (bytesV t).2) := by
    unfold readT
    rw [if_neg (by intro e; cases e), if_neg (by intro e; cases e), if_neg (by intro e; cases e), quoted_of]
    unfold bytesV
    dsimp only
    cases unhex t with
    | none => rfl
    | some b =>
      dsimp only
      by_cases h : 200 < b.length <;> simp [h]
  generalize hl : 120 :: 39 :: (t ++ [39]) = l at *
  have n1 : (l == [110, 117, 108, 108]) = false := by rw [← hl]; rfl
  have n2 : (l == [116, 114, 117, 101]) = false := by rw [← hl]; rfl
  have n3 : (l == [102, 97, 108, 115, 101]) = false := by rw [← hl]; rfl
  have hb0 : Below w.heap.size w (w.alloc (.cells #[.int .i64 4, .int .i64 0, .int .u64 0, .string (strL [])] 25)) := (Below.refl _ w).alloc (Nat.le_refl _) _
  have hV0 := VBox.new w 4 0 0 (strL [])
  replace hc1 := Lib.hid hc1
  replace hc2 := Lib.hid hc2
  replace hby := Lib.hid hby
  replace hR := Lib.hid hR
  clear hl
  go_enter Tryz.func31, Tryz.ntmps31
  go_wp2_with fail
  refine (hc1.out _).mono ?_
  rintro e w' ⟨rfl, rfl⟩
  go_wp2_with fail
  refine (hc2.out _).mono ?_
  rintro e w' ⟨rfl, rfl⟩
  clear n1 n2 n3
  go_wp2_with fail
  refine (hby.out _).mono ?_
  rintro e w2 ⟨rfl, hb2⟩
  have hV2 := hV0.below hb2 (by simp)
  have hbw := gr hb0 hb2
  have cv := hV2.cells
  have fv := fun j => hV2.frozen j
  have f0 := fv 0
  have f1 := fv 1
  have f2 := fv 2
  have f3 := fv 3
  have hV3 := hV2.setS (strL (bytesV t).1)
  have hbw3 := hbw.setCell (p := ⟨w.heap.size, 3, none⟩) (Nat.le_refl _) (.string (strL (bytesV t).1))
  generalize (bytesV t).1 = b at *
  generalize (bytesV t).2 = n at *
  clear hc1 hc2 hby hV0 hb0 hb2 fv hbw
  go_wp2
  refine bodyPost_ret (results_cellV rfl _ _ rfl (hV3.put 4 0 0 (strL b))) rfl ?_
  exact ReadPost.mk ⟨4, 0, 0, b⟩ t n _ hR.out rfl (fun h => by rw [if_pos h]) (below_put hbw3 (Nat.le_refl _) _ _ _ _)

theorem ParseU_ok (t : List UInt8) (u : Nat) (w : World) (ht : t.length ≤ 100000) (h : Lib.parseUintB 64 t = .ok u) :
    Calls Tryz.prog 62 #[.string (strL t), .int .i64 10, .int .i64 64] w fun e w' => e = .returned (.tuple #[.int .u64 (u : Int), .nilIface]) ∧ Below w.heap.size w w' :=
  (Tryz.strconv_ParseUint_10_at64_ok (strL t) (by rw [strL_size]; omega) u h w).mono fun e w' ⟨he, hw⟩ => ⟨he, by
    rcases hw with rfl | rfl
    · exact Below.refl _ _
    · exact Lib.bytesWorld_below _ _ _⟩
theorem ParseU_bad (t : List UInt8) (w : World) (hE : Env w) (ht : t.length ≤ 100000) (h : ∀ u, Lib.parseUintB 64 t ≠ .ok u) :
    Calls Tryz.prog 62 #[.string (strL t), .int .i64 10, .int .i64 64] w fun e w' => ∃ (v : Int) (N : Nat), e = .returned (.tuple #[.int .u64 v, .iface 146 (.pointer (some ⟨N, 0, none⟩))]) ∧ Below w.heap.size w w' := by
  obtain ⟨t1, p1, hs⟩ := hE.syn
  obtain ⟨t2, p2, hr⟩ := hE.ran
  cases hp : Lib.parseUintB 64 t with
  | ok u => exact absurd hp (h u)
  | range => exact (Tryz.strconv_ParseUint_10_at64_range_var (strL t) (by rw [strL_size]; omega) hp t2 p2 w hr).mono fun e w' ⟨N, he, _, _, hb⟩ => ⟨_, N, he, hb⟩
  | _ => exact (Tryz.strconv_ParseUint_10_at64_syntax_var (strL t) (by rw [strL_size]; omega) (fun v e => by have z := hp.symm.trans e; cases z) (fun e => by have z := hp.symm.trans e; cases z) t1 p1 w hs).mono fun e w' ⟨N, he, _, _, hb⟩ => ⟨_, N, he, hb⟩
theorem ParseI_ok (t : List UInt8) (v : Int) (w : World) (ht : t.length ≤ 100000) (h : Lib.parseIntB 64 t = .ok v) :
    Calls Tryz.prog 63 #[.string (strL t), .int .i64 10, .int .i64 64] w fun e w' => e = .returned (.tuple #[.int .i64 v, .nilIface]) ∧ Below w.heap.size w w' :=
  (Tryz.strconv_ParseInt_10_at64_ok (strL t) (by rw [strL_size]; omega) v h w).mono fun e w' ⟨he, hw⟩ => ⟨he, by
    rcases hw with rfl | ⟨t, rfl⟩
    · exact Below.refl _ _
    · exact Lib.bytesWorld_below _ _ _⟩
theorem ParseI_bad (t : List UInt8) (w : World) (hE : Env w) (ht : t.length ≤ 100000) (h : ∀ u, Lib.parseIntB 64 t ≠ .ok u) :
    Calls Tryz.prog 63 #[.string (strL t), .int .i64 10, .int .i64 64] w fun e w' => ∃ (v : Int) (N : Nat), e = .returned (.tuple #[.int .i64 v, .iface 146 (.pointer (some ⟨N, 0, none⟩))]) ∧ Below w.heap.size w w' := by
  obtain ⟨t1, p1, hs⟩ := hE.syn
  obtain ⟨t2, p2, hr⟩ := hE.ran
  cases hp : Lib.parseIntB 64 t with
  | ok u => exact absurd hp (h u)
  | range => exact (Tryz.strconv_ParseInt_10_at64_range_var (strL t) (by rw [strL_size]; omega) hp t2 p2 w hr).mono fun e w' ⟨N, he, _, _, hb⟩ => ⟨_, N, he, hb⟩
  | _ => exact (Tryz.strconv_ParseInt_10_at64_syntax_var (strL t) (by rw [strL_size]; omega) (fun v e => by have z := hp.symm.trans e; cases z) (fun e => by have z := hp.symm.trans e; cases z) t1 p1 w hs).mono fun e w' ⟨N, he, _, _, hb⟩ => ⟨_, N, he, hb⟩
theorem parseIntB_le {t : List UInt8} {v : Int} (h : Lib.parseIntB 64 t = .ok v) : -9223372036854775808 ≤ v ∧ v ≤ 9223372036854775807 := by
  have h1 := Lib.parseIntB_bounds h
  have h2 : (2 ^ (64 - 1) : Nat) = 9223372036854775808 := rfl
  rw [h2] at h1
  omega
theorem parseUintB_lt {t : List UInt8} {u : Nat} (h : Lib.parseUintB 64 t = .ok u) : u < 18446744073709551616 := by
  have := ((parseUintB_ok t u).1 h)
  omega
end Go.Proofs.YtcicmeggbkhniaaGreatDoor
