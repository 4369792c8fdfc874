/- value.Text. -/
import Derived.Test.YtcicmeggbkhniaaGreatDoorTextA
namespace Go.Proofs.YtcicmeggbkhniaaGreatDoor
open Go.RowKit
set_option linter.unusedVariables false

theorem chk_null : chkV 0 0 0 (strL []) = 0 := by decide
theorem chk_int (i : Int) : chkV 1 i 0 (strL []) = 0 := by simp [chkV, okV]; decide
theorem chk_uint (u : Int) : chkV 2 0 u (strL []) = 0 := by simp [chkV, okV]; decide
theorem chk_b0 : chkV 3 0 0 (strL []) = 0 := by decide
theorem chk_b1 : chkV 3 1 0 (strL []) = 0 := by decide
theorem chk_bytes {s : List UInt8} (h : s.length ≤ 200) : chkV 4 0 0 (strL s) = 0 := by
  simp [chkV, okV, strL_size]
  omega

theorem text_t (s : ByteArray) (w : World) : Calls Tryz.prog 53 #[.agg #[.int .i64 3, .int .i64 1, .int .u64 0, .string s]] w fun e w' => e = .returned (.string (strL trueL)) ∧ Below w.heap.size w w' := by
  have h := text_bool 3 1 0 s w
  rw [if_pos rfl] at h
  exact h
theorem text_f (s : ByteArray) (w : World) : Calls Tryz.prog 53 #[.agg #[.int .i64 3, .int .i64 0, .int .u64 0, .string s]] w fun e w' => e = .returned (.string (strL falseL)) ∧ Below w.heap.size w w' := by
  have h := text_bool 3 0 0 s w
  rw [if_neg (by decide)] at h
  exact h
/-- What Text tells. -/
def TextP (w : World) (x : Vl) (e : Ending) (w' : World) : Prop := e = .returned (.tuple #[.string (strL (if x.chk = 0 then textV x else [])), .int .i64 (x.chk : Int)]) ∧ Below w.heap.size w w'

set_option maxRecDepth 100000 in
set_option maxHeartbeats 1000000 in
theorem Text_null (w : World) (hE : Env w) : Calls Tryz.prog 10 #[.agg #[.int .i64 0, .int .i64 0, .int .u64 0, .string (strL [])]] w fun e w' => e = .returned (.tuple #[.string (strL nullL), .int .i64 0]) ∧ Below w.heap.size w w' := by
  have hlk : ∀ w' r, IMap w' r .i64 VKinds → (Instr.lookup 57 (.map (some r)) (.int .i64 0) false).run Tryz.prog w' = .ok (.agg #[.func (.func 46) #[] #[], .func (.func 47) #[] #[]]) w' := fun w' r hm =>
    hm.look1 _ _ _ Tryz.underlying57 Tryz.underlying22 0 0 _ rfl
  have hfld : ∀ w, (Instr.field 56 (.agg #[.func (.func 46) #[] #[], .func (.func 47) #[] #[]]) 1).run Tryz.prog w = .ok (.func (.func 47) #[] #[]) w := fun w => by kernel_rfl
  have eF := enters_of Tryz.func47 (by kernel_rfl) rfl
  have hbox := VBox.new w 0 0 0 (strL [])
  have hb0 : Below w.heap.size w (w.alloc (.cells #[.int .i64 0, .int .i64 0, .int .u64 0, .string (strL [])] 25)) := (Below.refl _ w).alloc (Nat.le_refl _) _
  have hchk := fun W => Check_any 0 0 0 (strL []) W (by simp [strL_size])
  unfold valV at hchk
  rw [chk_null] at hchk
  replace hchk := Lib.hid hchk
  go_enter Tryz.func10, Tryz.ntmps10
  go_wp2_with fail
  refine (hchk.out _).mono ?_
  rintro e w0 ⟨rfl, hbc⟩
  have hbox0 := hbox.below hbc (by simp)
  have hbw0 := gr hb0 hbc
  have hE0 := hE.below hbw0
  clear hchk hbox hbc hb0
  have hlt : w.heap.size < w0.heap.size := hbox0.lt
  go_wp2_with fail
  refine wp_region_noPanic ?_
  have cv0 := hbox0.cells
  refine wp_region_held_drew (S := fun w' => (w'.cell? ⟨w.heap.size, 0, none⟩ = some (.int .i64 0) ∧ w'.cell? ⟨w.heap.size, 1, none⟩ = some (.int .i64 0) ∧ w'.cell? ⟨w.heap.size, 2, none⟩ = some (.int .u64 0) ∧ w'.cell? ⟨w.heap.size, 3, none⟩ = some (.string (strL [])))) (by kernel_rfl) cv0 (fun hHeld => ?_)
  refine wpAnyH_takeL (i := 1) (v := ?vhy1) rfl (by kernel_rfl) (by kernel_rfl) (by kernel_rfl) (fun _ _ _ h => h) (Or.inl ⟨by rfl, ?hy1⟩) (by assumption) ?rhy1
  case hy1 => ((intro w hSw; (try dsimp only at hSw); go_simp); try with_reducible rfl)
  try simp only [Act.put, List.setIfInBounds_toArray, List.set_cons_zero, List.set_cons_succ]
  refine wpAnyH_takeL (i := 2) (v := ?vhy2) rfl (by kernel_rfl) (by kernel_rfl) (by kernel_rfl) (fun _ _ _ h => h) (Or.inl ⟨by rfl, ?hy2⟩) (by assumption) ?rhy2
  case hy2 => ((intro w hSw; (try dsimp only at hSw); go_simp); try with_reducible rfl)
  try simp only [Act.put, List.setIfInBounds_toArray, List.set_cons_zero, List.set_cons_succ]
  refine wpAnyH_takeL (i := 5) (v := ?vhy3) rfl (by kernel_rfl) (by kernel_rfl) (by kernel_rfl) (fun _ _ _ h => h) (Or.inl ⟨by rfl, ?hy3⟩) (by assumption) ?rhy3
  case hy3 => ((intro w hSw; (try dsimp only at hSw); go_simp); try with_reducible rfl)
  try simp only [Act.put, List.setIfInBounds_toArray, List.set_cons_zero, List.set_cons_succ]
  refine wpAnyH_ready (rs := [0]) (by kernel_rfl) (by simp) ?_
  refine AllReadyH.consL (i := 0) rfl (fun K hK => ?_) AllReadyH.nil
  go_simp
  refine (vkinds_any _).mono ?_
  rintro e w1 ⟨r, rfl, hm, hb1, hr1⟩
  replace hb1 := gr ((Below.refl _ w0).drew) hb1
  refine hK.out _ _ (hbox0.below hb1 hlt).cells (fun hHeld => ?_)
  clear hK hHeld cv0
  refine wpAnyH_more (S' := fun w' => IMap w' r .i64 VKinds ∧ Below w0.heap.size w0 w') (fun w' h => (hbox0.below h.2 hlt).cells) ?_
  have hHeld : IMap w1 r .i64 VKinds ∧ Below w0.heap.size w0 w1 := ⟨hm, hb1⟩
  try simp only [Act.put, List.setIfInBounds_toArray, List.set_cons_zero, List.set_cons_succ]
  refine wpAnyH_takeL (i := 3) (v := ?vhy4) rfl (by kernel_rfl) (by kernel_rfl) (by kernel_rfl) (fun _ _ _ h => h) (Or.inl ⟨by rfl, ?hy4⟩) (by assumption) ?rhy4
  case hy4 => ((intro w hSw; (try dsimp only at hSw); go_simp); try with_reducible rfl)
  try simp only [Act.put, List.setIfInBounds_toArray, List.set_cons_zero, List.set_cons_succ]
  refine wpAnyH_takeL (i := 4) (v := ?vhy5) rfl (by kernel_rfl) (by kernel_rfl) (by kernel_rfl) (fun _ _ _ h => h) (Or.inl ⟨by rfl, ?hy5⟩) (by assumption) ?rhy5
  case hy5 => ((intro w hSw; (try dsimp only at hSw); go_simp); try with_reducible rfl)
  try simp only [Act.put, List.setIfInBounds_toArray, List.set_cons_zero, List.set_cons_succ]
  refine wpAnyH_ready (rs := [6]) (by kernel_rfl) (by simp) ?_
  refine AllReadyH.consL (i := 6) rfl (fun K hK => ?_) AllReadyH.nil
  go_simp
  refine ((text_null 0 0 0 (strL [])) _ ).mono ?_
  rintro e w2 ⟨rfl, hb2⟩
  refine hK.out _ _ ⟨hm.below hb2, gr hb1 hb2⟩ (fun hHeld => ?_)
  clear hK
  try simp only [Act.put, List.setIfInBounds_toArray, List.set_cons_zero, List.set_cons_succ]
  refine wpAnyH_takeL (i := 7) (v := ?vhy6) rfl (by kernel_rfl) (by kernel_rfl) (by kernel_rfl) (fun _ _ _ h => h) (Or.inl ⟨by rfl, ?hy6⟩) (by assumption) ?rhy6
  case hy6 => ((intro w hSw; (try dsimp only at hSw); go_simp); try with_reducible rfl)
  try simp only [Act.put, List.setIfInBounds_toArray, List.set_cons_zero, List.set_cons_succ]
  refine wpAnyH_takeL (i := 8) (v := ?vhy7) rfl (by kernel_rfl) (by kernel_rfl) (by kernel_rfl) (fun _ _ _ h => h) (Or.inl ⟨by rfl, ?hy7⟩) (by assumption) ?rhy7
  case hy7 => ((intro w hSw; (try dsimp only at hSw); go_simp); try with_reducible rfl)
  try simp only [Act.put, List.setIfInBounds_toArray, List.set_cons_zero, List.set_cons_succ]
  refine wpAnyH_done (by kernel_rfl) ?_ _
  refine NoPanic.normal ?_
  have hfin := gr hbw0 (gr hb1 hb2)
  clear hHeld hm hb1 hb2 hlk
  go_wp2
  go_ret2
  exact ⟨rfl, hfin⟩
set_option maxRecDepth 100000 in
set_option maxHeartbeats 1000000 in
theorem Text_int (i : Int) (w : World) (hE : Env w) (h0 : -9223372036854775808 ≤ i) (h1 : i ≤ 9223372036854775807) : Calls Tryz.prog 10 #[.agg #[.int .i64 1, .int .i64 i, .int .u64 0, .string (strL [])]] w fun e w' => e = .returned (.tuple #[.string (strL (Lib.itoa i)), .int .i64 0]) ∧ Below w.heap.size w w' := by
  have hlk : ∀ w' r, IMap w' r .i64 VKinds → (Instr.lookup 57 (.map (some r)) (.int .i64 1) false).run Tryz.prog w' = .ok (.agg #[.func (.func 48) #[] #[], .func (.func 49) #[] #[]]) w' := fun w' r hm =>
    hm.look1 _ _ _ Tryz.underlying57 Tryz.underlying22 1 1 _ rfl
  have hfld : ∀ w, (Instr.field 56 (.agg #[.func (.func 48) #[] #[], .func (.func 49) #[] #[]]) 1).run Tryz.prog w = .ok (.func (.func 49) #[] #[]) w := fun w => by kernel_rfl
  have eF := enters_of Tryz.func49 (by kernel_rfl) rfl
  have hbox := VBox.new w 1 i 0 (strL [])
  have hb0 : Below w.heap.size w (w.alloc (.cells #[.int .i64 1, .int .i64 i, .int .u64 0, .string (strL [])] 25)) := (Below.refl _ w).alloc (Nat.le_refl _) _
  have hchk := fun W => Check_any 1 i 0 (strL []) W (by simp [strL_size])
  unfold valV at hchk
  rw [chk_int] at hchk
  replace hchk := Lib.hid hchk
  go_enter Tryz.func10, Tryz.ntmps10
  go_wp2_with fail
  refine (hchk.out _).mono ?_
  rintro e w0 ⟨rfl, hbc⟩
  have hbox0 := hbox.below hbc (by simp)
  have hbw0 := gr hb0 hbc
  have hE0 := hE.below hbw0
  clear hchk hbox hbc hb0
  have hlt : w.heap.size < w0.heap.size := hbox0.lt
  go_wp2_with fail
  refine wp_region_noPanic ?_
  have cv0 := hbox0.cells
  refine wp_region_held_drew (S := fun w' => (w'.cell? ⟨w.heap.size, 0, none⟩ = some (.int .i64 1) ∧ w'.cell? ⟨w.heap.size, 1, none⟩ = some (.int .i64 i) ∧ w'.cell? ⟨w.heap.size, 2, none⟩ = some (.int .u64 0) ∧ w'.cell? ⟨w.heap.size, 3, none⟩ = some (.string (strL [])))) (by kernel_rfl) cv0 (fun hHeld => ?_)
  refine wpAnyH_takeL (i := 1) (v := ?vhy8) rfl (by kernel_rfl) (by kernel_rfl) (by kernel_rfl) (fun _ _ _ h => h) (Or.inl ⟨by rfl, ?hy8⟩) (by assumption) ?rhy8
  case hy8 => ((intro w hSw; (try dsimp only at hSw); go_simp); try with_reducible rfl)
  try simp only [Act.put, List.setIfInBounds_toArray, List.set_cons_zero, List.set_cons_succ]
  refine wpAnyH_takeL (i := 2) (v := ?vhy9) rfl (by kernel_rfl) (by kernel_rfl) (by kernel_rfl) (fun _ _ _ h => h) (Or.inl ⟨by rfl, ?hy9⟩) (by assumption) ?rhy9
  case hy9 => ((intro w hSw; (try dsimp only at hSw); go_simp); try with_reducible rfl)
  try simp only [Act.put, List.setIfInBounds_toArray, List.set_cons_zero, List.set_cons_succ]
  refine wpAnyH_takeL (i := 5) (v := ?vhy10) rfl (by kernel_rfl) (by kernel_rfl) (by kernel_rfl) (fun _ _ _ h => h) (Or.inl ⟨by rfl, ?hy10⟩) (by assumption) ?rhy10
  case hy10 => ((intro w hSw; (try dsimp only at hSw); go_simp); try with_reducible rfl)
  try simp only [Act.put, List.setIfInBounds_toArray, List.set_cons_zero, List.set_cons_succ]
  refine wpAnyH_ready (rs := [0]) (by kernel_rfl) (by simp) ?_
  refine AllReadyH.consL (i := 0) rfl (fun K hK => ?_) AllReadyH.nil
  go_simp
  refine (vkinds_any _).mono ?_
  rintro e w1 ⟨r, rfl, hm, hb1, hr1⟩
  replace hb1 := gr ((Below.refl _ w0).drew) hb1
  refine hK.out _ _ (hbox0.below hb1 hlt).cells (fun hHeld => ?_)
  clear hK hHeld cv0
  refine wpAnyH_more (S' := fun w' => IMap w' r .i64 VKinds ∧ Below w0.heap.size w0 w') (fun w' h => (hbox0.below h.2 hlt).cells) ?_
  have hHeld : IMap w1 r .i64 VKinds ∧ Below w0.heap.size w0 w1 := ⟨hm, hb1⟩
  try simp only [Act.put, List.setIfInBounds_toArray, List.set_cons_zero, List.set_cons_succ]
  refine wpAnyH_takeL (i := 3) (v := ?vhy11) rfl (by kernel_rfl) (by kernel_rfl) (by kernel_rfl) (fun _ _ _ h => h) (Or.inl ⟨by rfl, ?hy11⟩) (by assumption) ?rhy11
  case hy11 => ((intro w hSw; (try dsimp only at hSw); go_simp); try with_reducible rfl)
  try simp only [Act.put, List.setIfInBounds_toArray, List.set_cons_zero, List.set_cons_succ]
  refine wpAnyH_takeL (i := 4) (v := ?vhy12) rfl (by kernel_rfl) (by kernel_rfl) (by kernel_rfl) (fun _ _ _ h => h) (Or.inl ⟨by rfl, ?hy12⟩) (by assumption) ?rhy12
  case hy12 => ((intro w hSw; (try dsimp only at hSw); go_simp); try with_reducible rfl)
  try simp only [Act.put, List.setIfInBounds_toArray, List.set_cons_zero, List.set_cons_succ]
  refine wpAnyH_ready (rs := [6]) (by kernel_rfl) (by simp) ?_
  refine AllReadyH.consL (i := 6) rfl (fun K hK => ?_) AllReadyH.nil
  go_simp
  refine ((text_int 1 i 0 (strL [])) _ (hE0.below hb1) h0 h1).mono ?_
  rintro e w2 ⟨rfl, hb2⟩
  refine hK.out _ _ ⟨hm.below hb2, gr hb1 hb2⟩ (fun hHeld => ?_)
  clear hK
  try simp only [Act.put, List.setIfInBounds_toArray, List.set_cons_zero, List.set_cons_succ]
  refine wpAnyH_takeL (i := 7) (v := ?vhy13) rfl (by kernel_rfl) (by kernel_rfl) (by kernel_rfl) (fun _ _ _ h => h) (Or.inl ⟨by rfl, ?hy13⟩) (by assumption) ?rhy13
  case hy13 => ((intro w hSw; (try dsimp only at hSw); go_simp); try with_reducible rfl)
  try simp only [Act.put, List.setIfInBounds_toArray, List.set_cons_zero, List.set_cons_succ]
  refine wpAnyH_takeL (i := 8) (v := ?vhy14) rfl (by kernel_rfl) (by kernel_rfl) (by kernel_rfl) (fun _ _ _ h => h) (Or.inl ⟨by rfl, ?hy14⟩) (by assumption) ?rhy14
  case hy14 => ((intro w hSw; (try dsimp only at hSw); go_simp); try with_reducible rfl)
  try simp only [Act.put, List.setIfInBounds_toArray, List.set_cons_zero, List.set_cons_succ]
  refine wpAnyH_done (by kernel_rfl) ?_ _
  refine NoPanic.normal ?_
  have hfin := gr hbw0 (gr hb1 hb2)
  clear hHeld hm hb1 hb2 hlk
  go_wp2
  go_ret2
  exact ⟨rfl, hfin⟩
set_option maxRecDepth 100000 in
set_option maxHeartbeats 1000000 in
theorem Text_uint (u : Nat) (w : World) (hE : Env w) (h1 : u < 18446744073709551616) : Calls Tryz.prog 10 #[.agg #[.int .i64 2, .int .i64 0, .int .u64 (u : Int), .string (strL [])]] w fun e w' => e = .returned (.tuple #[.string (strL (Lib.decDigits u ++ [117])), .int .i64 0]) ∧ Below w.heap.size w w' := by
  have hlk : ∀ w' r, IMap w' r .i64 VKinds → (Instr.lookup 57 (.map (some r)) (.int .i64 2) false).run Tryz.prog w' = .ok (.agg #[.func (.func 50) #[] #[], .func (.func 51) #[] #[]]) w' := fun w' r hm =>
    hm.look1 _ _ _ Tryz.underlying57 Tryz.underlying22 2 2 _ rfl
  have hfld : ∀ w, (Instr.field 56 (.agg #[.func (.func 50) #[] #[], .func (.func 51) #[] #[]]) 1).run Tryz.prog w = .ok (.func (.func 51) #[] #[]) w := fun w => by kernel_rfl
  have eF := enters_of Tryz.func51 (by kernel_rfl) rfl
  have hbox := VBox.new w 2 0 (u : Int) (strL [])
  have hb0 : Below w.heap.size w (w.alloc (.cells #[.int .i64 2, .int .i64 0, .int .u64 (u : Int), .string (strL [])] 25)) := (Below.refl _ w).alloc (Nat.le_refl _) _
  have hchk := fun W => Check_any 2 0 (u : Int) (strL []) W (by simp [strL_size])
  unfold valV at hchk
  rw [chk_uint] at hchk
  replace hchk := Lib.hid hchk
  go_enter Tryz.func10, Tryz.ntmps10
  go_wp2_with fail
  refine (hchk.out _).mono ?_
  rintro e w0 ⟨rfl, hbc⟩
  have hbox0 := hbox.below hbc (by simp)
  have hbw0 := gr hb0 hbc
  have hE0 := hE.below hbw0
  clear hchk hbox hbc hb0
  have hlt : w.heap.size < w0.heap.size := hbox0.lt
  go_wp2_with fail
  refine wp_region_noPanic ?_
  have cv0 := hbox0.cells
  refine wp_region_held_drew (S := fun w' => (w'.cell? ⟨w.heap.size, 0, none⟩ = some (.int .i64 2) ∧ w'.cell? ⟨w.heap.size, 1, none⟩ = some (.int .i64 0) ∧ w'.cell? ⟨w.heap.size, 2, none⟩ = some (.int .u64 (u : Int)) ∧ w'.cell? ⟨w.heap.size, 3, none⟩ = some (.string (strL [])))) (by kernel_rfl) cv0 (fun hHeld => ?_)
  refine wpAnyH_takeL (i := 1) (v := ?vhy15) rfl (by kernel_rfl) (by kernel_rfl) (by kernel_rfl) (fun _ _ _ h => h) (Or.inl ⟨by rfl, ?hy15⟩) (by assumption) ?rhy15
  case hy15 => ((intro w hSw; (try dsimp only at hSw); go_simp); try with_reducible rfl)
  try simp only [Act.put, List.setIfInBounds_toArray, List.set_cons_zero, List.set_cons_succ]
  refine wpAnyH_takeL (i := 2) (v := ?vhy16) rfl (by kernel_rfl) (by kernel_rfl) (by kernel_rfl) (fun _ _ _ h => h) (Or.inl ⟨by rfl, ?hy16⟩) (by assumption) ?rhy16
  case hy16 => ((intro w hSw; (try dsimp only at hSw); go_simp); try with_reducible rfl)
  try simp only [Act.put, List.setIfInBounds_toArray, List.set_cons_zero, List.set_cons_succ]
  refine wpAnyH_takeL (i := 5) (v := ?vhy17) rfl (by kernel_rfl) (by kernel_rfl) (by kernel_rfl) (fun _ _ _ h => h) (Or.inl ⟨by rfl, ?hy17⟩) (by assumption) ?rhy17
  case hy17 => ((intro w hSw; (try dsimp only at hSw); go_simp); try with_reducible rfl)
  try simp only [Act.put, List.setIfInBounds_toArray, List.set_cons_zero, List.set_cons_succ]
  refine wpAnyH_ready (rs := [0]) (by kernel_rfl) (by simp) ?_
  refine AllReadyH.consL (i := 0) rfl (fun K hK => ?_) AllReadyH.nil
  go_simp
  refine (vkinds_any _).mono ?_
  rintro e w1 ⟨r, rfl, hm, hb1, hr1⟩
  replace hb1 := gr ((Below.refl _ w0).drew) hb1
  refine hK.out _ _ (hbox0.below hb1 hlt).cells (fun hHeld => ?_)
  clear hK hHeld cv0
  refine wpAnyH_more (S' := fun w' => IMap w' r .i64 VKinds ∧ Below w0.heap.size w0 w') (fun w' h => (hbox0.below h.2 hlt).cells) ?_
  have hHeld : IMap w1 r .i64 VKinds ∧ Below w0.heap.size w0 w1 := ⟨hm, hb1⟩
  try simp only [Act.put, List.setIfInBounds_toArray, List.set_cons_zero, List.set_cons_succ]
  refine wpAnyH_takeL (i := 3) (v := ?vhy18) rfl (by kernel_rfl) (by kernel_rfl) (by kernel_rfl) (fun _ _ _ h => h) (Or.inl ⟨by rfl, ?hy18⟩) (by assumption) ?rhy18
  case hy18 => ((intro w hSw; (try dsimp only at hSw); go_simp); try with_reducible rfl)
  try simp only [Act.put, List.setIfInBounds_toArray, List.set_cons_zero, List.set_cons_succ]
  refine wpAnyH_takeL (i := 4) (v := ?vhy19) rfl (by kernel_rfl) (by kernel_rfl) (by kernel_rfl) (fun _ _ _ h => h) (Or.inl ⟨by rfl, ?hy19⟩) (by assumption) ?rhy19
  case hy19 => ((intro w hSw; (try dsimp only at hSw); go_simp); try with_reducible rfl)
  try simp only [Act.put, List.setIfInBounds_toArray, List.set_cons_zero, List.set_cons_succ]
  refine wpAnyH_ready (rs := [6]) (by kernel_rfl) (by simp) ?_
  refine AllReadyH.consL (i := 6) rfl (fun K hK => ?_) AllReadyH.nil
  go_simp
  refine ((text_uint 2 0 u (strL [])) _ (hE0.below hb1) h1).mono ?_
  rintro e w2 ⟨rfl, hb2⟩
  refine hK.out _ _ ⟨hm.below hb2, gr hb1 hb2⟩ (fun hHeld => ?_)
  clear hK
  try simp only [Act.put, List.setIfInBounds_toArray, List.set_cons_zero, List.set_cons_succ]
  refine wpAnyH_takeL (i := 7) (v := ?vhy20) rfl (by kernel_rfl) (by kernel_rfl) (by kernel_rfl) (fun _ _ _ h => h) (Or.inl ⟨by rfl, ?hy20⟩) (by assumption) ?rhy20
  case hy20 => ((intro w hSw; (try dsimp only at hSw); go_simp); try with_reducible rfl)
  try simp only [Act.put, List.setIfInBounds_toArray, List.set_cons_zero, List.set_cons_succ]
  refine wpAnyH_takeL (i := 8) (v := ?vhy21) rfl (by kernel_rfl) (by kernel_rfl) (by kernel_rfl) (fun _ _ _ h => h) (Or.inl ⟨by rfl, ?hy21⟩) (by assumption) ?rhy21
  case hy21 => ((intro w hSw; (try dsimp only at hSw); go_simp); try with_reducible rfl)
  try simp only [Act.put, List.setIfInBounds_toArray, List.set_cons_zero, List.set_cons_succ]
  refine wpAnyH_done (by kernel_rfl) ?_ _
  refine NoPanic.normal ?_
  have hfin := gr hbw0 (gr hb1 hb2)
  clear hHeld hm hb1 hb2 hlk
  go_wp2
  go_ret2
  exact ⟨rfl, hfin⟩
set_option maxRecDepth 100000 in
set_option maxHeartbeats 1000000 in
theorem Text_b0 (w : World) (hE : Env w) : Calls Tryz.prog 10 #[.agg #[.int .i64 3, .int .i64 0, .int .u64 0, .string (strL [])]] w fun e w' => e = .returned (.tuple #[.string (strL falseL), .int .i64 0]) ∧ Below w.heap.size w w' := by
  have hlk : ∀ w' r, IMap w' r .i64 VKinds → (Instr.lookup 57 (.map (some r)) (.int .i64 3) false).run Tryz.prog w' = .ok (.agg #[.func (.func 52) #[] #[], .func (.func 53) #[] #[]]) w' := fun w' r hm =>
    hm.look1 _ _ _ Tryz.underlying57 Tryz.underlying22 3 3 _ rfl
  have hfld : ∀ w, (Instr.field 56 (.agg #[.func (.func 52) #[] #[], .func (.func 53) #[] #[]]) 1).run Tryz.prog w = .ok (.func (.func 53) #[] #[]) w := fun w => by kernel_rfl
  have eF := enters_of Tryz.func53 (by kernel_rfl) rfl
  have hbox := VBox.new w 3 0 0 (strL [])
  have hb0 : Below w.heap.size w (w.alloc (.cells #[.int .i64 3, .int .i64 0, .int .u64 0, .string (strL [])] 25)) := (Below.refl _ w).alloc (Nat.le_refl _) _
  have hchk := fun W => Check_any 3 0 0 (strL []) W (by simp [strL_size])
  unfold valV at hchk
  rw [chk_b0] at hchk
  replace hchk := Lib.hid hchk
  go_enter Tryz.func10, Tryz.ntmps10
  go_wp2_with fail
  refine (hchk.out _).mono ?_
  rintro e w0 ⟨rfl, hbc⟩
  have hbox0 := hbox.below hbc (by simp)
  have hbw0 := gr hb0 hbc
  have hE0 := hE.below hbw0
  clear hchk hbox hbc hb0
  have hlt : w.heap.size < w0.heap.size := hbox0.lt
  go_wp2_with fail
  refine wp_region_noPanic ?_
  have cv0 := hbox0.cells
  refine wp_region_held_drew (S := fun w' => (w'.cell? ⟨w.heap.size, 0, none⟩ = some (.int .i64 3) ∧ w'.cell? ⟨w.heap.size, 1, none⟩ = some (.int .i64 0) ∧ w'.cell? ⟨w.heap.size, 2, none⟩ = some (.int .u64 0) ∧ w'.cell? ⟨w.heap.size, 3, none⟩ = some (.string (strL [])))) (by kernel_rfl) cv0 (fun hHeld => ?_)
  refine wpAnyH_takeL (i := 1) (v := ?vhy22) rfl (by kernel_rfl) (by kernel_rfl) (by kernel_rfl) (fun _ _ _ h => h) (Or.inl ⟨by rfl, ?hy22⟩) (by assumption) ?rhy22
  case hy22 => ((intro w hSw; (try dsimp only at hSw); go_simp); try with_reducible rfl)
  try simp only [Act.put, List.setIfInBounds_toArray, List.set_cons_zero, List.set_cons_succ]
  refine wpAnyH_takeL (i := 2) (v := ?vhy23) rfl (by kernel_rfl) (by kernel_rfl) (by kernel_rfl) (fun _ _ _ h => h) (Or.inl ⟨by rfl, ?hy23⟩) (by assumption) ?rhy23
  case hy23 => ((intro w hSw; (try dsimp only at hSw); go_simp); try with_reducible rfl)
  try simp only [Act.put, List.setIfInBounds_toArray, List.set_cons_zero, List.set_cons_succ]
  refine wpAnyH_takeL (i := 5) (v := ?vhy24) rfl (by kernel_rfl) (by kernel_rfl) (by kernel_rfl) (fun _ _ _ h => h) (Or.inl ⟨by rfl, ?hy24⟩) (by assumption) ?rhy24
  case hy24 => ((intro w hSw; (try dsimp only at hSw); go_simp); try with_reducible rfl)
  try simp only [Act.put, List.setIfInBounds_toArray, List.set_cons_zero, List.set_cons_succ]
  refine wpAnyH_ready (rs := [0]) (by kernel_rfl) (by simp) ?_
  refine AllReadyH.consL (i := 0) rfl (fun K hK => ?_) AllReadyH.nil
  go_simp
  refine (vkinds_any _).mono ?_
  rintro e w1 ⟨r, rfl, hm, hb1, hr1⟩
  replace hb1 := gr ((Below.refl _ w0).drew) hb1
  refine hK.out _ _ (hbox0.below hb1 hlt).cells (fun hHeld => ?_)
  clear hK hHeld cv0
  refine wpAnyH_more (S' := fun w' => IMap w' r .i64 VKinds ∧ Below w0.heap.size w0 w') (fun w' h => (hbox0.below h.2 hlt).cells) ?_
  have hHeld : IMap w1 r .i64 VKinds ∧ Below w0.heap.size w0 w1 := ⟨hm, hb1⟩
  try simp only [Act.put, List.setIfInBounds_toArray, List.set_cons_zero, List.set_cons_succ]
  refine wpAnyH_takeL (i := 3) (v := ?vhy25) rfl (by kernel_rfl) (by kernel_rfl) (by kernel_rfl) (fun _ _ _ h => h) (Or.inl ⟨by rfl, ?hy25⟩) (by assumption) ?rhy25
  case hy25 => ((intro w hSw; (try dsimp only at hSw); go_simp); try with_reducible rfl)
  try simp only [Act.put, List.setIfInBounds_toArray, List.set_cons_zero, List.set_cons_succ]
  refine wpAnyH_takeL (i := 4) (v := ?vhy26) rfl (by kernel_rfl) (by kernel_rfl) (by kernel_rfl) (fun _ _ _ h => h) (Or.inl ⟨by rfl, ?hy26⟩) (by assumption) ?rhy26
  case hy26 => ((intro w hSw; (try dsimp only at hSw); go_simp); try with_reducible rfl)
  try simp only [Act.put, List.setIfInBounds_toArray, List.set_cons_zero, List.set_cons_succ]
  refine wpAnyH_ready (rs := [6]) (by kernel_rfl) (by simp) ?_
  refine AllReadyH.consL (i := 6) rfl (fun K hK => ?_) AllReadyH.nil
  go_simp
  refine ((text_f (strL [])) _ ).mono ?_
  rintro e w2 ⟨rfl, hb2⟩
  refine hK.out _ _ ⟨hm.below hb2, gr hb1 hb2⟩ (fun hHeld => ?_)
  clear hK
  try simp only [Act.put, List.setIfInBounds_toArray, List.set_cons_zero, List.set_cons_succ]
  refine wpAnyH_takeL (i := 7) (v := ?vhy27) rfl (by kernel_rfl) (by kernel_rfl) (by kernel_rfl) (fun _ _ _ h => h) (Or.inl ⟨by rfl, ?hy27⟩) (by assumption) ?rhy27
  case hy27 => ((intro w hSw; (try dsimp only at hSw); go_simp); try with_reducible rfl)
  try simp only [Act.put, List.setIfInBounds_toArray, List.set_cons_zero, List.set_cons_succ]
  refine wpAnyH_takeL (i := 8) (v := ?vhy28) rfl (by kernel_rfl) (by kernel_rfl) (by kernel_rfl) (fun _ _ _ h => h) (Or.inl ⟨by rfl, ?hy28⟩) (by assumption) ?rhy28
  case hy28 => ((intro w hSw; (try dsimp only at hSw); go_simp); try with_reducible rfl)
  try simp only [Act.put, List.setIfInBounds_toArray, List.set_cons_zero, List.set_cons_succ]
  refine wpAnyH_done (by kernel_rfl) ?_ _
  refine NoPanic.normal ?_
  have hfin := gr hbw0 (gr hb1 hb2)
  clear hHeld hm hb1 hb2 hlk
  go_wp2
  go_ret2
  exact ⟨rfl, hfin⟩
set_option maxRecDepth 100000 in
set_option maxHeartbeats 1000000 in
theorem Text_b1 (w : World) (hE : Env w) : Calls Tryz.prog 10 #[.agg #[.int .i64 3, .int .i64 1, .int .u64 0, .string (strL [])]] w fun e w' => e = .returned (.tuple #[.string (strL trueL), .int .i64 0]) ∧ Below w.heap.size w w' := by
  have hlk : ∀ w' r, IMap w' r .i64 VKinds → (Instr.lookup 57 (.map (some r)) (.int .i64 3) false).run Tryz.prog w' = .ok (.agg #[.func (.func 52) #[] #[], .func (.func 53) #[] #[]]) w' := fun w' r hm =>
    hm.look1 _ _ _ Tryz.underlying57 Tryz.underlying22 3 3 _ rfl
  have hfld : ∀ w, (Instr.field 56 (.agg #[.func (.func 52) #[] #[], .func (.func 53) #[] #[]]) 1).run Tryz.prog w = .ok (.func (.func 53) #[] #[]) w := fun w => by kernel_rfl
  have eF := enters_of Tryz.func53 (by kernel_rfl) rfl
  have hbox := VBox.new w 3 1 0 (strL [])
  have hb0 : Below w.heap.size w (w.alloc (.cells #[.int .i64 3, .int .i64 1, .int .u64 0, .string (strL [])] 25)) := (Below.refl _ w).alloc (Nat.le_refl _) _
  have hchk := fun W => Check_any 3 1 0 (strL []) W (by simp [strL_size])
  unfold valV at hchk
  rw [chk_b1] at hchk
  replace hchk := Lib.hid hchk
  go_enter Tryz.func10, Tryz.ntmps10
  go_wp2_with fail
  refine (hchk.out _).mono ?_
  rintro e w0 ⟨rfl, hbc⟩
  have hbox0 := hbox.below hbc (by simp)
  have hbw0 := gr hb0 hbc
  have hE0 := hE.below hbw0
  clear hchk hbox hbc hb0
  have hlt : w.heap.size < w0.heap.size := hbox0.lt
  go_wp2_with fail
  refine wp_region_noPanic ?_
  have cv0 := hbox0.cells
  refine wp_region_held_drew (S := fun w' => (w'.cell? ⟨w.heap.size, 0, none⟩ = some (.int .i64 3) ∧ w'.cell? ⟨w.heap.size, 1, none⟩ = some (.int .i64 1) ∧ w'.cell? ⟨w.heap.size, 2, none⟩ = some (.int .u64 0) ∧ w'.cell? ⟨w.heap.size, 3, none⟩ = some (.string (strL [])))) (by kernel_rfl) cv0 (fun hHeld => ?_)
  refine wpAnyH_takeL (i := 1) (v := ?vhy29) rfl (by kernel_rfl) (by kernel_rfl) (by kernel_rfl) (fun _ _ _ h => h) (Or.inl ⟨by rfl, ?hy29⟩) (by assumption) ?rhy29
  case hy29 => ((intro w hSw; (try dsimp only at hSw); go_simp); try with_reducible rfl)
  try simp only [Act.put, List.setIfInBounds_toArray, List.set_cons_zero, List.set_cons_succ]
  refine wpAnyH_takeL (i := 2) (v := ?vhy30) rfl (by kernel_rfl) (by kernel_rfl) (by kernel_rfl) (fun _ _ _ h => h) (Or.inl ⟨by rfl, ?hy30⟩) (by assumption) ?rhy30
  case hy30 => ((intro w hSw; (try dsimp only at hSw); go_simp); try with_reducible rfl)
  try simp only [Act.put, List.setIfInBounds_toArray, List.set_cons_zero, List.set_cons_succ]
  refine wpAnyH_takeL (i := 5) (v := ?vhy31) rfl (by kernel_rfl) (by kernel_rfl) (by kernel_rfl) (fun _ _ _ h => h) (Or.inl ⟨by rfl, ?hy31⟩) (by assumption) ?rhy31
  case hy31 => ((intro w hSw; (try dsimp only at hSw); go_simp); try with_reducible rfl)
  try simp only [Act.put, List.setIfInBounds_toArray, List.set_cons_zero, List.set_cons_succ]
  refine wpAnyH_ready (rs := [0]) (by kernel_rfl) (by simp) ?_
  refine AllReadyH.consL (i := 0) rfl (fun K hK => ?_) AllReadyH.nil
  go_simp
  refine (vkinds_any _).mono ?_
  rintro e w1 ⟨r, rfl, hm, hb1, hr1⟩
  replace hb1 := gr ((Below.refl _ w0).drew) hb1
  refine hK.out _ _ (hbox0.below hb1 hlt).cells (fun hHeld => ?_)
  clear hK hHeld cv0
  refine wpAnyH_more (S' := fun w' => IMap w' r .i64 VKinds ∧ Below w0.heap.size w0 w') (fun w' h => (hbox0.below h.2 hlt).cells) ?_
  have hHeld : IMap w1 r .i64 VKinds ∧ Below w0.heap.size w0 w1 := ⟨hm, hb1⟩
  try simp only [Act.put, List.setIfInBounds_toArray, List.set_cons_zero, List.set_cons_succ]
  refine wpAnyH_takeL (i := 3) (v := ?vhy32) rfl (by kernel_rfl) (by kernel_rfl) (by kernel_rfl) (fun _ _ _ h => h) (Or.inl ⟨by rfl, ?hy32⟩) (by assumption) ?rhy32
  case hy32 => ((intro w hSw; (try dsimp only at hSw); go_simp); try with_reducible rfl)
  try simp only [Act.put, List.setIfInBounds_toArray, List.set_cons_zero, List.set_cons_succ]
  refine wpAnyH_takeL (i := 4) (v := ?vhy33) rfl (by kernel_rfl) (by kernel_rfl) (by kernel_rfl) (fun _ _ _ h => h) (Or.inl ⟨by rfl, ?hy33⟩) (by assumption) ?rhy33
  case hy33 => ((intro w hSw; (try dsimp only at hSw); go_simp); try with_reducible rfl)
  try simp only [Act.put, List.setIfInBounds_toArray, List.set_cons_zero, List.set_cons_succ]
  refine wpAnyH_ready (rs := [6]) (by kernel_rfl) (by simp) ?_
  refine AllReadyH.consL (i := 6) rfl (fun K hK => ?_) AllReadyH.nil
  go_simp
  refine ((text_t (strL [])) _ ).mono ?_
  rintro e w2 ⟨rfl, hb2⟩
  refine hK.out _ _ ⟨hm.below hb2, gr hb1 hb2⟩ (fun hHeld => ?_)
  clear hK
  try simp only [Act.put, List.setIfInBounds_toArray, List.set_cons_zero, List.set_cons_succ]
  refine wpAnyH_takeL (i := 7) (v := ?vhy34) rfl (by kernel_rfl) (by kernel_rfl) (by kernel_rfl) (fun _ _ _ h => h) (Or.inl ⟨by rfl, ?hy34⟩) (by assumption) ?rhy34
  case hy34 => ((intro w hSw; (try dsimp only at hSw); go_simp); try with_reducible rfl)
  try simp only [Act.put, List.setIfInBounds_toArray, List.set_cons_zero, List.set_cons_succ]
  refine wpAnyH_takeL (i := 8) (v := ?vhy35) rfl (by kernel_rfl) (by kernel_rfl) (by kernel_rfl) (fun _ _ _ h => h) (Or.inl ⟨by rfl, ?hy35⟩) (by assumption) ?rhy35
  case hy35 => ((intro w hSw; (try dsimp only at hSw); go_simp); try with_reducible rfl)
  try simp only [Act.put, List.setIfInBounds_toArray, List.set_cons_zero, List.set_cons_succ]
  refine wpAnyH_done (by kernel_rfl) ?_ _
  refine NoPanic.normal ?_
  have hfin := gr hbw0 (gr hb1 hb2)
  clear hHeld hm hb1 hb2 hlk
  go_wp2
  go_ret2
  exact ⟨rfl, hfin⟩
set_option maxRecDepth 100000 in
set_option maxHeartbeats 1000000 in
theorem Text_bytes (s : List UInt8) (w : World) (hE : Env w) (hs : s.length ≤ 200) : Calls Tryz.prog 10 #[.agg #[.int .i64 4, .int .i64 0, .int .u64 0, .string (strL s)]] w fun e w' => e = .returned (.tuple #[.string (strL (120 :: 39 :: (hexL s ++ [39]))), .int .i64 0]) ∧ Below w.heap.size w w' := by
  have hlk : ∀ w' r, IMap w' r .i64 VKinds → (Instr.lookup 57 (.map (some r)) (.int .i64 4) false).run Tryz.prog w' = .ok (.agg #[.func (.func 55) #[] #[], .func (.func 56) #[] #[]]) w' := fun w' r hm =>
    hm.look1 _ _ _ Tryz.underlying57 Tryz.underlying22 4 4 _ rfl
  have hfld : ∀ w, (Instr.field 56 (.agg #[.func (.func 55) #[] #[], .func (.func 56) #[] #[]]) 1).run Tryz.prog w = .ok (.func (.func 56) #[] #[]) w := fun w => by kernel_rfl
  have eF := enters_of Tryz.func56 (by kernel_rfl) rfl
  have hbox := VBox.new w 4 0 0 (strL s)
  have hb0 : Below w.heap.size w (w.alloc (.cells #[.int .i64 4, .int .i64 0, .int .u64 0, .string (strL s)] 25)) := (Below.refl _ w).alloc (Nat.le_refl _) _
  have hchk := fun W => Check_any 4 0 0 (strL s) W (by rw [strL_size]; unfold maxLen; omega)
  unfold valV at hchk
  rw [(chk_bytes hs)] at hchk
  replace hchk := Lib.hid hchk
  go_enter Tryz.func10, Tryz.ntmps10
  go_wp2_with fail
  refine (hchk.out _).mono ?_
  rintro e w0 ⟨rfl, hbc⟩
  have hbox0 := hbox.below hbc (by simp)
  have hbw0 := gr hb0 hbc
  have hE0 := hE.below hbw0
  clear hchk hbox hbc hb0
  have hlt : w.heap.size < w0.heap.size := hbox0.lt
  go_wp2_with fail
  refine wp_region_noPanic ?_
  have cv0 := hbox0.cells
  refine wp_region_held_drew (S := fun w' => (w'.cell? ⟨w.heap.size, 0, none⟩ = some (.int .i64 4) ∧ w'.cell? ⟨w.heap.size, 1, none⟩ = some (.int .i64 0) ∧ w'.cell? ⟨w.heap.size, 2, none⟩ = some (.int .u64 0) ∧ w'.cell? ⟨w.heap.size, 3, none⟩ = some (.string (strL s)))) (by kernel_rfl) cv0 (fun hHeld => ?_)
  refine wpAnyH_takeL (i := 1) (v := ?vhy36) rfl (by kernel_rfl) (by kernel_rfl) (by kernel_rfl) (fun _ _ _ h => h) (Or.inl ⟨by rfl, ?hy36⟩) (by assumption) ?rhy36
  case hy36 => ((intro w hSw; (try dsimp only at hSw); go_simp); try with_reducible rfl)
  try simp only [Act.put, List.setIfInBounds_toArray, List.set_cons_zero, List.set_cons_succ]
  refine wpAnyH_takeL (i := 2) (v := ?vhy37) rfl (by kernel_rfl) (by kernel_rfl) (by kernel_rfl) (fun _ _ _ h => h) (Or.inl ⟨by rfl, ?hy37⟩) (by assumption) ?rhy37
  case hy37 => ((intro w hSw; (try dsimp only at hSw); go_simp); try with_reducible rfl)
  try simp only [Act.put, List.setIfInBounds_toArray, List.set_cons_zero, List.set_cons_succ]
  refine wpAnyH_takeL (i := 5) (v := ?vhy38) rfl (by kernel_rfl) (by kernel_rfl) (by kernel_rfl) (fun _ _ _ h => h) (Or.inl ⟨by rfl, ?hy38⟩) (by assumption) ?rhy38
  case hy38 => ((intro w hSw; (try dsimp only at hSw); go_simp); try with_reducible rfl)
  try simp only [Act.put, List.setIfInBounds_toArray, List.set_cons_zero, List.set_cons_succ]
  refine wpAnyH_ready (rs := [0]) (by kernel_rfl) (by simp) ?_
  refine AllReadyH.consL (i := 0) rfl (fun K hK => ?_) AllReadyH.nil
  go_simp
  refine (vkinds_any _).mono ?_
  rintro e w1 ⟨r, rfl, hm, hb1, hr1⟩
  replace hb1 := gr ((Below.refl _ w0).drew) hb1
  refine hK.out _ _ (hbox0.below hb1 hlt).cells (fun hHeld => ?_)
  clear hK hHeld cv0
  refine wpAnyH_more (S' := fun w' => IMap w' r .i64 VKinds ∧ Below w0.heap.size w0 w') (fun w' h => (hbox0.below h.2 hlt).cells) ?_
  have hHeld : IMap w1 r .i64 VKinds ∧ Below w0.heap.size w0 w1 := ⟨hm, hb1⟩
  try simp only [Act.put, List.setIfInBounds_toArray, List.set_cons_zero, List.set_cons_succ]
  refine wpAnyH_takeL (i := 3) (v := ?vhy39) rfl (by kernel_rfl) (by kernel_rfl) (by kernel_rfl) (fun _ _ _ h => h) (Or.inl ⟨by rfl, ?hy39⟩) (by assumption) ?rhy39
  case hy39 => ((intro w hSw; (try dsimp only at hSw); go_simp); try with_reducible rfl)
  try simp only [Act.put, List.setIfInBounds_toArray, List.set_cons_zero, List.set_cons_succ]
  refine wpAnyH_takeL (i := 4) (v := ?vhy40) rfl (by kernel_rfl) (by kernel_rfl) (by kernel_rfl) (fun _ _ _ h => h) (Or.inl ⟨by rfl, ?hy40⟩) (by assumption) ?rhy40
  case hy40 => ((intro w hSw; (try dsimp only at hSw); go_simp); try with_reducible rfl)
  try simp only [Act.put, List.setIfInBounds_toArray, List.set_cons_zero, List.set_cons_succ]
  refine wpAnyH_ready (rs := [6]) (by kernel_rfl) (by simp) ?_
  refine AllReadyH.consL (i := 6) rfl (fun K hK => ?_) AllReadyH.nil
  go_simp
  refine ((hex_any 4 0 0 s) _ (by omega)).mono ?_
  rintro e w2 ⟨rfl, hb2⟩
  refine hK.out _ _ ⟨hm.below hb2, gr hb1 hb2⟩ (fun hHeld => ?_)
  clear hK
  try simp only [Act.put, List.setIfInBounds_toArray, List.set_cons_zero, List.set_cons_succ]
  refine wpAnyH_takeL (i := 7) (v := ?vhy41) rfl (by kernel_rfl) (by kernel_rfl) (by kernel_rfl) (fun _ _ _ h => h) (Or.inl ⟨by rfl, ?hy41⟩) (by assumption) ?rhy41
  case hy41 => ((intro w hSw; (try dsimp only at hSw); go_simp); try with_reducible rfl)
  try simp only [Act.put, List.setIfInBounds_toArray, List.set_cons_zero, List.set_cons_succ]
  refine wpAnyH_takeL (i := 8) (v := ?vhy42) rfl (by kernel_rfl) (by kernel_rfl) (by kernel_rfl) (fun _ _ _ h => h) (Or.inl ⟨by rfl, ?hy42⟩) (by assumption) ?rhy42
  case hy42 => ((intro w hSw; (try dsimp only at hSw); go_simp); try with_reducible rfl)
  try simp only [Act.put, List.setIfInBounds_toArray, List.set_cons_zero, List.set_cons_succ]
  refine wpAnyH_done (by kernel_rfl) ?_ _
  refine NoPanic.normal ?_
  have hfin := gr hbw0 (gr hb1 hb2)
  clear hHeld hm hb1 hb2 hlk
  go_wp2
  go_ret2
  exact ⟨rfl, hfin⟩
set_option maxRecDepth 100000 in
theorem Text_no (k i u : Int) (s : ByteArray) (w : World) (hs : s.size ≤ maxLen) (h : chkV k i u s ≠ 0) : Calls Tryz.prog 10 #[.agg #[.int .i64 k, .int .i64 i, .int .u64 u, .string s]] w fun e w' => e = .returned (.tuple #[.string (strL []), .int .i64 (chkV k i u s : Int)]) ∧ Below w.heap.size w w' := by
  have hb0 : Below w.heap.size w (w.alloc (.cells #[.int .i64 k, .int .i64 i, .int .u64 u, .string s] 25)) := (Below.refl _ w).alloc (Nat.le_refl _) _
  have hchk := fun W => Check_any k i u s W hs
  unfold valV at hchk
  generalize chkV k i u s = n at *
  have hd : ((n : Int) != 0) = true := by simp; omega
  replace hchk := Lib.hid hchk
  clear h
  go_enter Tryz.func10, Tryz.ntmps10
  go_wp2_with fail
  refine (hchk.out _).mono ?_
  rintro e w0 ⟨rfl, hbc⟩
  have hfin := gr hb0 hbc
  clear hchk hb0 hbc
  go_wp2
  go_ret2
  exact ⟨rfl, hfin⟩
theorem Text_any (x : Vl) (w : World) (hE : Env w) (hw : x.Wf) : Calls Tryz.prog 10 #[x.val] w (TextP w x) := by
  unfold TextP
  by_cases h : x.chk = 0
  · rw [if_pos h, h]
    rcases chk_ways h with rfl | ⟨i, rfl⟩ | ⟨u, rfl⟩ | rfl | rfl | ⟨s, rfl, hs⟩
    · exact Text_null w hE
    · exact Text_int i w hE hw.i0 hw.i1
    · have hu0 := hw.u0
      have hu1 := hw.u1
      simp only at hu0 hu1
      obtain ⟨n, rfl⟩ : ∃ n : Nat, u = n := ⟨u.toNat, by omega⟩
      have := Text_uint n w hE (by omega)
      have e : textV ⟨2, 0, (n : Int), []⟩ = Lib.decDigits n ++ [117] := by simp [textV]
      rw [e]
      exact this
    · exact Text_b0 w hE
    · exact Text_b1 w hE
    · exact Text_bytes s w hE hs
  · rw [if_neg h]
    exact Text_no x.k x.i x.u (strL x.s) w (by rw [strL_size]; exact hw.sl) h
end Go.Proofs.YtcicmeggbkhniaaGreatDoor
