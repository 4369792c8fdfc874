/- The chapter's rows of law 01 (works). -/
import Derived.Test.YtcicmeggbkhniaaGreatDoorRowV
import Derived.Test.YtcicmeggbkhniaaGreatDoorParseE
import Derived.Test.YtcicmeggbkhniaaGreatDoorOrdA
namespace Go.Proofs.YtcicmeggbkhniaaGreatDoor
open Go.RowKit
set_option linter.unusedVariables false
attribute [local go_sem] strL_toList strL_size

theorem lit_rv (w : World) (e : TypeId) (xs : List Vl) (h : xs.length ≤ maxLen) : Rv (w.alloc (.cells (vcells xs).toArray e)) 4 (some ⟨w.heap.size, 0, none⟩) xs.length xs.length (vcells xs) :=
  ⟨vcells_length xs, Nat.le_refl _, h, fun _ => ⟨w.heap.size, 0, rfl, by simp, fun j u hu => by
    have h := World.alloc_heap_new w (.cells (vcells xs).toArray e)
    simp only [World.cell?, h, Nat.zero_add]
    simpa using hu⟩⟩
theorem lnum_any (x : Int) (w : World) : Calls Tryz.prog 12 #[.int .i64 x] w fun e w' => e = .returned (.int .i64 x) ∧ w = w' := by
  go_enter Tryz.func12, Tryz.ntmps12
  go_wp2
  go_ret
  exact ⟨rfl, rfl⟩
set_option maxRecDepth 100000 in
theorem ltext_any (x : Vl) (w : World) (hE : Env w) (hw : x.Wf) (h : x.chk = 0) : Calls Tryz.prog 26 #[x.val] w fun e w' => e = .returned (.string (strL (textV x))) ∧ Below w.heap.size w w' := by
  obtain ⟨xk, xi, xu, xs⟩ := x
  have hb0 : Below w.heap.size w (w.alloc (.cells #[.int .i64 xk, .int .i64 xi, .int .u64 xu, .string (strL xs)] 25)) := (Below.refl _ w).alloc (Nat.le_refl _) _
  have htx := Text_any ⟨xk, xi, xu, xs⟩ _ (hE.below hb0) hw
  unfold TextP at htx
  rw [if_pos h, h] at htx
  simp only [Vl.val, valV] at htx ⊢
  replace htx := Lib.hid htx
  go_enter Tryz.func26, Tryz.ntmps26
  go_wp2_with fail
  refine htx.out.mono ?_
  rintro e w1 ⟨rfl, hb1⟩
  have hb := gr hb0 hb1
  clear htx hb0 hb1
  go_wp2_with (go_at_call 12; refine (lnum_any _ _).mono ?_; rintro e w' ⟨rfl, rfl⟩)
  go_ret
  exact ⟨rfl, hb⟩
set_option maxRecDepth 100000 in
theorem lnone_any (l : List UInt8) (w : World) (hE : Env w) (hl : l.length ≤ 90000) : Calls Tryz.prog 27 #[.string (strL l)] w fun e w' => e = .returned (.bool (((readT l).2 : Int) == 110)) ∧ Below w.heap.size w w' := by
  have hp := VParse_any l w hE hl
  unfold ParsePost at hp
  generalize (readT l).2 = n at *
  generalize (readT l).1 = x at *
  obtain ⟨xk, xi, xu, xs⟩ := x
  simp only [Vl.val, valV] at hp
  replace hp := Lib.hid hp
  go_enter Tryz.func27, Tryz.ntmps27
  go_wp2_with fail
  refine hp.out.mono ?_
  rintro e w1 ⟨rfl, hb1⟩
  have hb2 := gr_alloc hb1 (.cells #[.int .i64 xk, .int .i64 xi, .int .u64 xu, .string (strL xs)] 25)
  clear hp hb1
  go_wp2_with (go_at_call 12; refine (lnum_any _ _).mono ?_; rintro e w' ⟨rfl, rfl⟩)
  go_ret
  exact ⟨rfl, hb2⟩

theorem wf0 : Vl.Wf ⟨0, 0, 0, []⟩ := ⟨by decide, by decide, by decide, by decide, by decide⟩
theorem wf1 : Vl.Wf ⟨1, -5, 0, []⟩ := ⟨by decide, by decide, by decide, by decide, by decide⟩
theorem wf2 : Vl.Wf ⟨2, 0, 5, []⟩ := ⟨by decide, by decide, by decide, by decide, by decide⟩
theorem wf3 : Vl.Wf ⟨3, 1, 0, []⟩ := ⟨by decide, by decide, by decide, by decide, by decide⟩
theorem wf4 : Vl.Wf ⟨4, 0, 0, [0, 255]⟩ := ⟨by decide, by decide, by decide, by decide, by decide⟩
theorem tx1 : textV ⟨1, -5, 0, []⟩ = [45, 53] := by
  show Lib.itoa (-5) = _
  have : Lib.itoa (-((5 : Nat) : Int)) = 45 :: Lib.decDigits 5 := Lib.itoa_neg 5 (by decide)
  rw [Lib.decDigits_one (by decide)] at this
  exact this
theorem tx2 : textV ⟨2, 0, 5, []⟩ = [53, 117] := by
  show Lib.decDigits 5 ++ [117] = _
  rw [Lib.decDigits_one (by decide)]
  rfl
theorem tx4 : textV ⟨4, 0, 0, [0, 255]⟩ = [120, 39, 48, 48, 102, 102, 39] := by decide
theorem rd1 : (readT [45, 48]).2 = 110 := by decide
theorem rd2 : (readT [48, 53, 117]).2 = 110 := by decide
theorem rd3 : (readT [120, 39, 48, 39]).2 = 110 := by decide
theorem rd4 : (readT [45, 49, 117]).2 = 110 := by decide
theorem or1 : ordV ⟨0, 0, 0, []⟩ ⟨1, -1, 0, []⟩ = -1 := by decide
theorem or2 : ordV ⟨1, 2, 0, []⟩ ⟨2, 0, 1, []⟩ = -1 := by decide
theorem row1 : rowV [⟨0, 0, 0, []⟩, ⟨3, 1, 0, []⟩] = ([110, 117, 108, 108, 44, 32, 116, 114, 117, 101], 0) := by decide

set_option maxRecDepth 100000 in
set_option maxHeartbeats 2000000 in
theorem works_any (w : World) (hE : Env w) : Calls Tryz.prog 9 #[] w fun e w' => e = .returned (.bool true) ∧ Below w.heap.size w w' := by
  have hb0 : Below w.heap.size w (w.alloc (.cells (vcells [⟨0, 0, 0, []⟩, ⟨3, 1, 0, []⟩]).toArray 25)) := (Below.refl _ w).alloc (Nat.le_refl _) _
  have hrow := Row_any _ 2 2 [⟨0, 0, 0, []⟩, ⟨3, 1, 0, []⟩] _ (hE.below hb0) (lit_rv w 25 _ (by decide)) (by
    intro x hx
    rcases List.mem_cons.1 hx with rfl | hx
    · exact wf0
    · rw [List.mem_singleton.1 hx]
      exact wf3) (by decide)
  rw [row1] at hrow
  replace hrow := Lib.hid hrow
  go_enter Tryz.func9, Tryz.ntmps9
  go_wp2_with fail
  refine hrow.out.mono ?_
  rintro e w1 ⟨rfl, hb1⟩
  have hbw := gr hb0 hb1
  have hE1 := hE.below hbw
  clear hrow hb1 hb0
  have t1 := fun W h => ltext_any ⟨1, -5, 0, []⟩ W h wf1 (by decide)
  have t2 := fun W h => ltext_any ⟨2, 0, 5, []⟩ W h wf2 (by decide)
  have t3 := fun W h => ltext_any ⟨4, 0, 0, [0, 255]⟩ W h wf4 (by decide)
  have t4 := fun W h => ltext_any ⟨3, 1, 0, []⟩ W h wf3 (by decide)
  rw [tx1] at t1
  rw [tx2] at t2
  rw [tx4] at t3
  have n1 := fun W h => lnone_any [45, 48] W h (by decide)
  have n2 := fun W h => lnone_any [48, 53, 117] W h (by decide)
  have n3 := fun W h => lnone_any [120, 39, 48, 39] W h (by decide)
  have n4 := fun W h => lnone_any [45, 49, 117] W h (by decide)
  rw [rd1] at n1
  rw [rd2] at n2
  rw [rd3] at n3
  rw [rd4] at n4
  have o1 := fun W => VOrder_any ⟨0, 0, 0, []⟩ ⟨1, -1, 0, []⟩ W
  have o2 := fun W => VOrder_any ⟨1, 2, 0, []⟩ ⟨2, 0, 1, []⟩ W
  rw [or1] at o1
  rw [or2] at o2
  replace t1 := Lib.hid t1
  replace t2 := Lib.hid t2
  replace t3 := Lib.hid t3
  replace t4 := Lib.hid t4
  replace n1 := Lib.hid n1
  replace n2 := Lib.hid n2
  replace n3 := Lib.hid n3
  replace n4 := Lib.hid n4
  replace o1 := Lib.hid o1
  replace o2 := Lib.hid o2
  go_wp2_with fail
  refine (t1.out _ hE1).mono ?_
  rintro e w2 ⟨rfl, hb2⟩
  have hE2 := hE1.below hb2
  go_wp2_with fail
  refine (t2.out _ hE2).mono ?_
  rintro e w3 ⟨rfl, hb3⟩
  have hE3 := hE2.below hb3
  go_wp2_with fail
  refine (t3.out _ hE3).mono ?_
  rintro e w4 ⟨rfl, hb4⟩
  have hE4 := hE3.below hb4
  go_wp2_with fail
  refine (t4.out _ hE4).mono ?_
  rintro e w5 ⟨rfl, hb5⟩
  have hE5 := hE4.below hb5
  go_wp2_with fail
  refine (n1.out _ hE5).mono ?_
  rintro e w6 ⟨rfl, hb6⟩
  have hE6 := hE5.below hb6
  go_wp2_with fail
  refine (n2.out _ hE6).mono ?_
  rintro e w7 ⟨rfl, hb7⟩
  have hE7 := hE6.below hb7
  go_wp2_with fail
  refine (n3.out _ hE7).mono ?_
  rintro e w8 ⟨rfl, hb8⟩
  have hE8 := hE7.below hb8
  go_wp2_with fail
  refine (n4.out _ hE8).mono ?_
  rintro e w9 ⟨rfl, hb9⟩
  go_wp2_with fail
  refine (o1.out _).mono ?_
  rintro e w10 ⟨rfl, hb10⟩
  go_wp2_with fail
  refine (o2.out _).mono ?_
  rintro e w11 ⟨rfl, hb11⟩
  have hfin := gr (gr (gr (gr (gr (gr (gr (gr (gr (gr hbw hb2) hb3) hb4) hb5) hb6) hb7) hb8) hb9) hb10) hb11
  clear t1 t2 t3 t4 n1 n2 n3 n4 o1 o2 hb2 hb3 hb4 hb5 hb6 hb7 hb8 hb9 hb10 hb11 hbw
  go_wp2_with (go_at_call 12; refine (lnum_any _ _).mono ?_; rintro e w' ⟨rfl, rfl⟩)
  go_ret
  exact ⟨rfl, hfin⟩
end Go.Proofs.YtcicmeggbkhniaaGreatDoor
