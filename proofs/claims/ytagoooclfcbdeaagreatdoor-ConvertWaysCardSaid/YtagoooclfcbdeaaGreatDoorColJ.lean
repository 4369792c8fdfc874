/- schema.fits, Fits: what fits a column. -/
import Derived.Test.YtagoooclfcbdeaaGreatDoorColI
namespace Go.Proofs.YtagoooclfcbdeaaGreatDoor
open Go.RowKit
set_option linter.unusedVariables false

/-- What fits tells. -/
def FitsP (w : World) (n : Nat) (e : Ending) (w' : World) : Prop := ∃ v, e = .returned v ∧ SErr w' n v ∧ Below w.heap.size w w'
set_option maxRecDepth 100000 in
set_option maxHeartbeats 8000000 in
theorem fits_1 (n : List UInt8) (z : Int) (nl : Bool) (xk xi xu : Int) (xs : List UInt8) (w : World) (hl : n.length ≤ 100000) (hsl : xs.length ≤ maxLen) (hcv : colV ⟨n, 1, z, nl⟩ = true) (hu0 : 0 ≤ xu) (hu1 : xu ≤ 18446744073709551615) :
    Calls Tryz.prog 34 #[.agg #[.string (strL n), .int .i64 1, .int .i64 z, .bool nl], .agg #[.int .i64 xk, .int .i64 xi, .int .u64 xu, .string (strL xs)]] w (FitsP w (fitV ⟨n, 1, z, nl⟩ ⟨xk, xi, xu, xs⟩)) := by
  have hcl := fun W => sright_any ⟨n, 1, z, nl⟩ W hl
  have hck := fun W => Check_any xk xi xu (strL xs) W (by rw [strL_size]; exact hsl)
  have hC := (CBox.new w ⟨n, 1, z, nl⟩).below ((Below.refl _ _).alloc (Nat.le_refl _) (.cells #[.int .i64 xk, .int .i64 xi, .int .u64 xu, .string (strL xs)] 28)) (by simp)
  have hV := VBox.new (w.alloc (.cells #[.string (strL n), .int .i64 1, .int .i64 z, .bool nl] 24)) xk xi xu (strL xs)
  rw [World.size_alloc] at hV
  have hb : Below w.heap.size w ((w.alloc (.cells #[.string (strL n), .int .i64 1, .int .i64 z, .bool nl] 24)).alloc (.cells #[.int .i64 xk, .int .i64 xi, .int .u64 xu, .string (strL xs)] 28)) := ((Below.refl _ w).alloc (Nat.le_refl _) _).alloc (by simp) _
  simp only [Cl.val, valV] at hcl hck
  obtain ⟨w1, hw1⟩ : ∃ w1, ((w.alloc (.cells #[.string (strL n), .int .i64 1, .int .i64 z, .bool nl] 24)).alloc (.cells #[.int .i64 xk, .int .i64 xi, .int .u64 xu, .string (strL xs)] 28)) = w1 := ⟨_, rfl⟩
  rw [hw1] at hC hV hb
  replace hw1 := Lib.hid hw1
  rw [hcv] at hcl
  have hF : fitV ⟨n, 1, z, nl⟩ ⟨xk, xi, xu, xs⟩ = if chkV xk xi xu (strL xs) ≠ 0 then chkV xk xi xu (strL xs) else if xk = 0 then (if nl then 0 else 131) else if xk ≠ 1 then 132 else if roomV z ⟨xk, xi, xu, xs⟩ then 0 else 133 := by
    unfold fitV
    rw [hcv, if_neg (by simp)]
    rfl
  have hrm : xk = 1 → ∀ W, Calls Tryz.prog 87 #[.int .i64 z, .agg #[.int .i64 xk, .int .i64 xi, .int .u64 xu, .string (strL xs)]] W fun e W' => e = .returned (.bool (roomV z ⟨xk, xi, xu, xs⟩)) ∧ Below W.heap.size W W' := fun hk W => by
    subst hk
    exact by
      have h := room1_any z ⟨1, xi, xu, xs⟩ W (size_num hcv (.inl rfl))
      exact h
  have hlk : ∀ w' r, IMap w' r .i64 SKinds → (Instr.lookup 113 (.map (some r)) (.int .i64 1) false).run Tryz.prog w' = .ok (.agg #[.func (.func 86) #[] #[], .int .i64 1, .func (.func 87) #[] #[]]) w' := fun w' r hm =>
    hm.look1 _ _ _ Tryz.underlying113 Tryz.underlying22 1 0 _ rfl
  generalize chkV xk xi xu (strL xs) = z1 at *
  generalize roomV z ⟨xk, xi, xu, xs⟩ = rm at *
  generalize fitV ⟨n, 1, z, nl⟩ ⟨xk, xi, xu, xs⟩ = F at *
  replace hcl := Lib.hid hcl
  replace hck := Lib.hid hck
  replace hrm := Lib.hid hrm
  clear hcv hl hsl hu0 hu1
  by_cases h1 : z1 = 0
  · subst h1
    rw [if_neg (by simp)] at hF
    by_cases hk0 : xk = 0
    · subst hk0
      rw [if_pos rfl] at hF
      clear hrm
      cases nl
      · obtain rfl : F = 131 := hF
        go_enter Tryz.func34, Tryz.ntmps34
        go_wp2_with fail
        rw [hw1.out]
        clear hw1
        refine (hcl.out _).mono ?_
        rintro e w2 ⟨rfl, g1⟩
        have b1 := gr hb g1
        have hC1 := hC.below g1 hC.lt
        have hV1 := hV.below g1 hV.lt
        have cc1 := hC1.cells
        have cv1 := hV1.cells
        clear g1 hcl hC hV hb
        go_wp2_with fail
        refine (hck.out _).mono ?_
        rintro e w3 ⟨rfl, g2⟩
        have b2 := gr b1 g2
        have hC2 := hC1.below g2 hC1.lt
        have hV2 := hV1.below g2 hV1.lt
        have cc2 := hC2.cells
        have cv2 := hV2.cells
        clear g2 hck hC1 hV1 b1 cc1 cv1
        go_upto_region 6 with fail
        go_cut [6] from 27 to 30 (fun s6 wx => ∃ B : Nat, s6 = .pointer (some ⟨B, 0, none⟩) ∧ KB wx B (.func (.func 86) #[] #[]) 1 (.func (.func 87) #[] #[]) ∧ Below w3.heap.size w3 wx)
        case first =>
          refine wp_region_noPanic ?_
          refine wp_region_held_drew (S := fun w' => w'.cell? ⟨w.heap.size, 1, none⟩ = some (.int .i64 1)) (by kernel_rfl) (hC2.below ((Below.refl _ w3).drew) hC2.lt).cells.2.1 (fun hHeld => ?_)
          refine wpAnyH_takeL (i := 1) (v := ?vhy1) rfl (by kernel_rfl) (by kernel_rfl) (by kernel_rfl) (fun _ _ _ h => h) (Or.inl ⟨by rfl, ?hy1⟩) (by assumption) ?rhy1
          case hy1 => ((intro w hSw; (try dsimp only at hSw); go_simp); try with_reducible rfl)
          try simp only [Act.put, List.setIfInBounds_toArray, List.set_cons_zero, List.set_cons_succ]
          refine wpAnyH_takeL (i := 2) (v := ?vhy2) rfl (by kernel_rfl) (by kernel_rfl) (by kernel_rfl) (fun _ _ _ h => h) (Or.inl ⟨by rfl, ?hy2⟩) (by assumption) ?rhy2
          case hy2 => ((intro w hSw; (try dsimp only at hSw); go_simp); try with_reducible rfl)
          try simp only [Act.put, List.setIfInBounds_toArray, List.set_cons_zero, List.set_cons_succ]
          refine wpAnyH_ready (rs := [0, 4]) (by kernel_rfl) (by simp) ?_
          refine AllReadyH.consL (i := 0) rfl (fun K hK => ?_) (AllReadyH.consL (i := 4) rfl (fun K hK => ?_) AllReadyH.nil)
          · go_simp
            refine (skinds_any _).mono ?_
            rintro e w4 ⟨r, rfl, hm, hb1, hr1⟩
            replace hb1 := gr ((Below.refl _ w3).drew) hb1
            refine hK.out _ _ (hC2.below hb1 hC2.lt).cells.2.1 (fun hHeld => ?_)
            clear hK hHeld
            refine wpAnyH_more (S' := fun w' => IMap w' r .i64 SKinds ∧ Below w3.heap.size w3 w') (fun w' h => (hC2.below h.2 hC2.lt).cells.2.1) ?_
            have hHeld : IMap w4 r .i64 SKinds ∧ Below w3.heap.size w3 w4 := ⟨hm, hb1⟩
            try simp only [Act.put, List.setIfInBounds_toArray, List.set_cons_zero, List.set_cons_succ]
            refine wpAnyH_takeL (i := 3) (v := ?vhy3) rfl (by kernel_rfl) (by kernel_rfl) (by kernel_rfl) (fun _ _ _ h => h) (Or.inl ⟨by rfl, ?hy3⟩) (by assumption) ?rhy3
            case hy3 => ((intro w hSw; (try dsimp only at hSw); go_simp); try with_reducible rfl)
            try simp only [Act.put, List.setIfInBounds_toArray, List.set_cons_zero, List.set_cons_succ]
            refine wpAnyH_ready (rs := [4]) (by kernel_rfl) (by simp) ?_
            refine AllReadyH.consL (i := 4) rfl (fun K hK => ?_) AllReadyH.nil
            go_simp
            have hs2 := (Below.refl w4.heap.size w4).alloc (Nat.le_refl _) (.cells #[.nilFunc, .int .i64 0, .nilFunc] 112)
            refine hK.out _ _ ⟨hm.below hs2, gr hb1 hs2⟩ (fun hHeld => ?_)
            clear hK
            try simp only [Act.put, List.setIfInBounds_toArray, List.set_cons_zero, List.set_cons_succ]
            refine wpAnyH_ready (rs := [5]) (by kernel_rfl) (by simp) ?_
            refine AllReadyH.consL (i := 5) rfl (fun K hK => ?_) AllReadyH.nil
            go_simp
            have hs3 := (Below.refl w4.heap.size w4).alloc (Nat.le_refl _) (.cells #[(.func (.func 86) #[] #[]), .int .i64 1, (.func (.func 87) #[] #[])] 112)
            have hkb : KB (w4.alloc (.cells #[(.func (.func 86) #[] #[]), .int .i64 1, (.func (.func 87) #[] #[])] 112)) w4.heap.size (.func (.func 86) #[] #[]) 1 (.func (.func 87) #[] #[]) := World.alloc_heap_new w4 _
            refine hK.out _ _ ⟨hm.below hs3, gr hb1 hs3⟩ (fun hHeld => ?_)
            clear hK
            try simp only [Act.put, List.setIfInBounds_toArray, List.set_cons_zero, List.set_cons_succ]
            refine wpAnyH_done (by kernel_rfl) ?_ _
            refine NoPanic.normal ?_
            clear hHeld hlk
            go_wp2_with fail
            go_meet
            exact ⟨_, rfl, hkb, gr hb1 hs3⟩
          · go_simp
            have hs2 := (Below.refl w3.heap.size w3).alloc (Nat.le_refl _) (.cells #[.nilFunc, .int .i64 0, .nilFunc] 112)
            have hkn : KB (w3.alloc (.cells #[.nilFunc, .int .i64 0, .nilFunc] 112)) w3.heap.size .nilFunc 0 .nilFunc := World.alloc_heap_new w3 _
            have hln : w3.heap.size < (w3.alloc (.cells #[.nilFunc, .int .i64 0, .nilFunc] 112)).heap.size := by simp
            refine hK.out _ _ (hC2.below hs2.drew hC2.lt).cells.2.1 (fun hHeld => ?_)
            clear hK
            try simp only [Act.put, List.setIfInBounds_toArray, List.set_cons_zero, List.set_cons_succ]
            refine wpAnyH_ready (rs := [0]) (by kernel_rfl) (by simp) ?_
            refine AllReadyH.consL (i := 0) rfl (fun K hK => ?_) AllReadyH.nil
            go_simp
            refine (skinds_any _).mono ?_
            rintro e w4 ⟨r, rfl, hm, hb1, hr1⟩
            replace hr1 : w3.heap.size < r := Nat.lt_of_lt_of_le hln hr1
            replace hkn : KB w4 w3.heap.size .nilFunc 0 .nilFunc := (hb1.block _ hln).trans hkn
            replace hb1 := gr hs2.drew hb1
            refine hK.out _ _ (hC2.below hb1 hC2.lt).cells.2.1 (fun hHeld => ?_)
            clear hK hHeld
            refine wpAnyH_more (S' := fun w' => IMap w' r .i64 SKinds ∧ Below w3.heap.size w3 w') (fun w' h => (hC2.below h.2 hC2.lt).cells.2.1) ?_
            have hHeld : IMap w4 r .i64 SKinds ∧ Below w3.heap.size w3 w4 := ⟨hm, hb1⟩
            try simp only [Act.put, List.setIfInBounds_toArray, List.set_cons_zero, List.set_cons_succ]
            refine wpAnyH_takeL (i := 3) (v := ?vhy4) rfl (by kernel_rfl) (by kernel_rfl) (by kernel_rfl) (fun _ _ _ h => h) (Or.inl ⟨by rfl, ?hy4⟩) (by assumption) ?rhy4
            case hy4 => ((intro w hSw; (try dsimp only at hSw); go_simp); try with_reducible rfl)
            try simp only [Act.put, List.setIfInBounds_toArray, List.set_cons_zero, List.set_cons_succ]
            have hkc := hkn.cells
            have hf0 := hkn.frozen 0
            have hf1 := hkn.frozen 1
            have hf2 := hkn.frozen 2
            refine wpAnyH_ready (rs := [5]) (by kernel_rfl) (by simp) ?_
            refine AllReadyH.consL (i := 5) rfl (fun K hK => ?_) AllReadyH.nil
            go_simp
            have hkb := hkn.put (.func (.func 86) #[] #[]) 1 (.func (.func 87) #[] #[])
            have hb2 := ((hb1.setCell (p := ⟨w3.heap.size, 0, none⟩) (Nat.le_refl _) (.func (.func 86) #[] #[])).setCell (p := ⟨w3.heap.size, 1, none⟩) (Nat.le_refl _) (.int .i64 1)).setCell (p := ⟨w3.heap.size, 2, none⟩) (Nat.le_refl _) (.func (.func 87) #[] #[])
            have hm1 := ((hm.kept (grownBy_setCell_at w4 ⟨w3.heap.size, 0, none⟩ (.func (.func 86) #[] #[])) (by simp; omega)).kept (grownBy_setCell_at _ ⟨w3.heap.size, 1, none⟩ (.int .i64 1)) (by simp; omega)).kept (grownBy_setCell_at _ ⟨w3.heap.size, 2, none⟩ (.func (.func 87) #[] #[])) (by simp; omega)
            refine hK.out _ _ ⟨hm1, hb2⟩ (fun hHeld => ?_)
            clear hK
            try simp only [Act.put, List.setIfInBounds_toArray, List.set_cons_zero, List.set_cons_succ]
            refine wpAnyH_done (by kernel_rfl) ?_ _
            refine NoPanic.normal ?_
            clear hHeld hlk hf0 hf1 hf2 hkc
            go_wp2_with fail
            go_meet
            exact ⟨_, rfl, hkb, hb2⟩
        case rest =>
          obtain ⟨B, rfl, hk, hbx⟩ := hcut
          have hb3 := gr b2 hbx
          have hC3 := hC2.below hbx hC2.lt
          have hV3 := hV2.below hbx hV2.lt
          have cc3 := hC3.cells
          have cv3 := hV3.cells
          have ck3 := hk.cells
          clear hbx hC2 hV2 hlk cc2 cv2
          generalize wc = w4 at *
          go_wp2
          go_ret
          exact ⟨_, rfl, .inr ⟨by decide, _, rfl, by simp⟩, gr_alloc hb3 _⟩
      · obtain rfl : F = 0 := hF
        go_enter Tryz.func34, Tryz.ntmps34
        go_wp2_with fail
        rw [hw1.out]
        clear hw1
        refine (hcl.out _).mono ?_
        rintro e w2 ⟨rfl, g1⟩
        have b1 := gr hb g1
        have hC1 := hC.below g1 hC.lt
        have hV1 := hV.below g1 hV.lt
        have cc1 := hC1.cells
        have cv1 := hV1.cells
        clear g1 hcl hC hV hb
        go_wp2_with fail
        refine (hck.out _).mono ?_
        rintro e w3 ⟨rfl, g2⟩
        have b2 := gr b1 g2
        have hC2 := hC1.below g2 hC1.lt
        have hV2 := hV1.below g2 hV1.lt
        have cc2 := hC2.cells
        have cv2 := hV2.cells
        clear g2 hck hC1 hV1 b1 cc1 cv1
        go_upto_region 6 with fail
        go_cut [6] from 27 to 30 (fun s6 wx => ∃ B : Nat, s6 = .pointer (some ⟨B, 0, none⟩) ∧ KB wx B (.func (.func 86) #[] #[]) 1 (.func (.func 87) #[] #[]) ∧ Below w3.heap.size w3 wx)
        case first =>
          refine wp_region_noPanic ?_
          refine wp_region_held_drew (S := fun w' => w'.cell? ⟨w.heap.size, 1, none⟩ = some (.int .i64 1)) (by kernel_rfl) (hC2.below ((Below.refl _ w3).drew) hC2.lt).cells.2.1 (fun hHeld => ?_)
          refine wpAnyH_takeL (i := 1) (v := ?vhy5) rfl (by kernel_rfl) (by kernel_rfl) (by kernel_rfl) (fun _ _ _ h => h) (Or.inl ⟨by rfl, ?hy5⟩) (by assumption) ?rhy5
          case hy5 => ((intro w hSw; (try dsimp only at hSw); go_simp); try with_reducible rfl)
          try simp only [Act.put, List.setIfInBounds_toArray, List.set_cons_zero, List.set_cons_succ]
          refine wpAnyH_takeL (i := 2) (v := ?vhy6) rfl (by kernel_rfl) (by kernel_rfl) (by kernel_rfl) (fun _ _ _ h => h) (Or.inl ⟨by rfl, ?hy6⟩) (by assumption) ?rhy6
          case hy6 => ((intro w hSw; (try dsimp only at hSw); go_simp); try with_reducible rfl)
          try simp only [Act.put, List.setIfInBounds_toArray, List.set_cons_zero, List.set_cons_succ]
          refine wpAnyH_ready (rs := [0, 4]) (by kernel_rfl) (by simp) ?_
          refine AllReadyH.consL (i := 0) rfl (fun K hK => ?_) (AllReadyH.consL (i := 4) rfl (fun K hK => ?_) AllReadyH.nil)
          · go_simp
            refine (skinds_any _).mono ?_
            rintro e w4 ⟨r, rfl, hm, hb1, hr1⟩
            replace hb1 := gr ((Below.refl _ w3).drew) hb1
            refine hK.out _ _ (hC2.below hb1 hC2.lt).cells.2.1 (fun hHeld => ?_)
            clear hK hHeld
            refine wpAnyH_more (S' := fun w' => IMap w' r .i64 SKinds ∧ Below w3.heap.size w3 w') (fun w' h => (hC2.below h.2 hC2.lt).cells.2.1) ?_
            have hHeld : IMap w4 r .i64 SKinds ∧ Below w3.heap.size w3 w4 := ⟨hm, hb1⟩
            try simp only [Act.put, List.setIfInBounds_toArray, List.set_cons_zero, List.set_cons_succ]
            refine wpAnyH_takeL (i := 3) (v := ?vhy7) rfl (by kernel_rfl) (by kernel_rfl) (by kernel_rfl) (fun _ _ _ h => h) (Or.inl ⟨by rfl, ?hy7⟩) (by assumption) ?rhy7
            case hy7 => ((intro w hSw; (try dsimp only at hSw); go_simp); try with_reducible rfl)
            try simp only [Act.put, List.setIfInBounds_toArray, List.set_cons_zero, List.set_cons_succ]
            refine wpAnyH_ready (rs := [4]) (by kernel_rfl) (by simp) ?_
            refine AllReadyH.consL (i := 4) rfl (fun K hK => ?_) AllReadyH.nil
            go_simp
            have hs2 := (Below.refl w4.heap.size w4).alloc (Nat.le_refl _) (.cells #[.nilFunc, .int .i64 0, .nilFunc] 112)
            refine hK.out _ _ ⟨hm.below hs2, gr hb1 hs2⟩ (fun hHeld => ?_)
            clear hK
            try simp only [Act.put, List.setIfInBounds_toArray, List.set_cons_zero, List.set_cons_succ]
            refine wpAnyH_ready (rs := [5]) (by kernel_rfl) (by simp) ?_
            refine AllReadyH.consL (i := 5) rfl (fun K hK => ?_) AllReadyH.nil
            go_simp
            have hs3 := (Below.refl w4.heap.size w4).alloc (Nat.le_refl _) (.cells #[(.func (.func 86) #[] #[]), .int .i64 1, (.func (.func 87) #[] #[])] 112)
            have hkb : KB (w4.alloc (.cells #[(.func (.func 86) #[] #[]), .int .i64 1, (.func (.func 87) #[] #[])] 112)) w4.heap.size (.func (.func 86) #[] #[]) 1 (.func (.func 87) #[] #[]) := World.alloc_heap_new w4 _
            refine hK.out _ _ ⟨hm.below hs3, gr hb1 hs3⟩ (fun hHeld => ?_)
            clear hK
            try simp only [Act.put, List.setIfInBounds_toArray, List.set_cons_zero, List.set_cons_succ]
            refine wpAnyH_done (by kernel_rfl) ?_ _
            refine NoPanic.normal ?_
            clear hHeld hlk
            go_wp2_with fail
            go_meet
            exact ⟨_, rfl, hkb, gr hb1 hs3⟩
          · go_simp
            have hs2 := (Below.refl w3.heap.size w3).alloc (Nat.le_refl _) (.cells #[.nilFunc, .int .i64 0, .nilFunc] 112)
            have hkn : KB (w3.alloc (.cells #[.nilFunc, .int .i64 0, .nilFunc] 112)) w3.heap.size .nilFunc 0 .nilFunc := World.alloc_heap_new w3 _
            have hln : w3.heap.size < (w3.alloc (.cells #[.nilFunc, .int .i64 0, .nilFunc] 112)).heap.size := by simp
            refine hK.out _ _ (hC2.below hs2.drew hC2.lt).cells.2.1 (fun hHeld => ?_)
            clear hK
            try simp only [Act.put, List.setIfInBounds_toArray, List.set_cons_zero, List.set_cons_succ]
            refine wpAnyH_ready (rs := [0]) (by kernel_rfl) (by simp) ?_
            refine AllReadyH.consL (i := 0) rfl (fun K hK => ?_) AllReadyH.nil
            go_simp
            refine (skinds_any _).mono ?_
            rintro e w4 ⟨r, rfl, hm, hb1, hr1⟩
            replace hr1 : w3.heap.size < r := Nat.lt_of_lt_of_le hln hr1
            replace hkn : KB w4 w3.heap.size .nilFunc 0 .nilFunc := (hb1.block _ hln).trans hkn
            replace hb1 := gr hs2.drew hb1
            refine hK.out _ _ (hC2.below hb1 hC2.lt).cells.2.1 (fun hHeld => ?_)
            clear hK hHeld
            refine wpAnyH_more (S' := fun w' => IMap w' r .i64 SKinds ∧ Below w3.heap.size w3 w') (fun w' h => (hC2.below h.2 hC2.lt).cells.2.1) ?_
            have hHeld : IMap w4 r .i64 SKinds ∧ Below w3.heap.size w3 w4 := ⟨hm, hb1⟩
            try simp only [Act.put, List.setIfInBounds_toArray, List.set_cons_zero, List.set_cons_succ]
            refine wpAnyH_takeL (i := 3) (v := ?vhy8) rfl (by kernel_rfl) (by kernel_rfl) (by kernel_rfl) (fun _ _ _ h => h) (Or.inl ⟨by rfl, ?hy8⟩) (by assumption) ?rhy8
            case hy8 => ((intro w hSw; (try dsimp only at hSw); go_simp); try with_reducible rfl)
            try simp only [Act.put, List.setIfInBounds_toArray, List.set_cons_zero, List.set_cons_succ]
            have hkc := hkn.cells
            have hf0 := hkn.frozen 0
            have hf1 := hkn.frozen 1
            have hf2 := hkn.frozen 2
            refine wpAnyH_ready (rs := [5]) (by kernel_rfl) (by simp) ?_
            refine AllReadyH.consL (i := 5) rfl (fun K hK => ?_) AllReadyH.nil
            go_simp
            have hkb := hkn.put (.func (.func 86) #[] #[]) 1 (.func (.func 87) #[] #[])
            have hb2 := ((hb1.setCell (p := ⟨w3.heap.size, 0, none⟩) (Nat.le_refl _) (.func (.func 86) #[] #[])).setCell (p := ⟨w3.heap.size, 1, none⟩) (Nat.le_refl _) (.int .i64 1)).setCell (p := ⟨w3.heap.size, 2, none⟩) (Nat.le_refl _) (.func (.func 87) #[] #[])
            have hm1 := ((hm.kept (grownBy_setCell_at w4 ⟨w3.heap.size, 0, none⟩ (.func (.func 86) #[] #[])) (by simp; omega)).kept (grownBy_setCell_at _ ⟨w3.heap.size, 1, none⟩ (.int .i64 1)) (by simp; omega)).kept (grownBy_setCell_at _ ⟨w3.heap.size, 2, none⟩ (.func (.func 87) #[] #[])) (by simp; omega)
            refine hK.out _ _ ⟨hm1, hb2⟩ (fun hHeld => ?_)
            clear hK
            try simp only [Act.put, List.setIfInBounds_toArray, List.set_cons_zero, List.set_cons_succ]
            refine wpAnyH_done (by kernel_rfl) ?_ _
            refine NoPanic.normal ?_
            clear hHeld hlk hf0 hf1 hf2 hkc
            go_wp2_with fail
            go_meet
            exact ⟨_, rfl, hkb, hb2⟩
        case rest =>
          obtain ⟨B, rfl, hk, hbx⟩ := hcut
          have hb3 := gr b2 hbx
          have hC3 := hC2.below hbx hC2.lt
          have hV3 := hV2.below hbx hV2.lt
          have cc3 := hC3.cells
          have cv3 := hV3.cells
          have ck3 := hk.cells
          clear hbx hC2 hV2 hlk cc2 cv2
          generalize wc = w4 at *
          go_wp2
          go_ret
          exact ⟨_, rfl, .inl ⟨rfl, rfl⟩, hb3⟩
    · rw [if_neg hk0] at hF
      have e0 : (xk == 0) = false := by simpa using hk0
      clear hk0
      by_cases hkt : xk = 1
      · subst hkt
        rw [if_neg (by simp)] at hF
        replace hrm := Lib.hid (hrm.out rfl)
        cases rm
        · obtain rfl : F = 133 := hF
          go_enter Tryz.func34, Tryz.ntmps34
          go_wp2_with fail
          rw [hw1.out]
          clear hw1
          refine (hcl.out _).mono ?_
          rintro e w2 ⟨rfl, g1⟩
          have b1 := gr hb g1
          have hC1 := hC.below g1 hC.lt
          have hV1 := hV.below g1 hV.lt
          have cc1 := hC1.cells
          have cv1 := hV1.cells
          clear g1 hcl hC hV hb
          go_wp2_with fail
          refine (hck.out _).mono ?_
          rintro e w3 ⟨rfl, g2⟩
          have b2 := gr b1 g2
          have hC2 := hC1.below g2 hC1.lt
          have hV2 := hV1.below g2 hV1.lt
          have cc2 := hC2.cells
          have cv2 := hV2.cells
          clear g2 hck hC1 hV1 b1 cc1 cv1
          go_upto_region 6 with fail
          go_cut [6] from 27 to 30 (fun s6 wx => ∃ B : Nat, s6 = .pointer (some ⟨B, 0, none⟩) ∧ KB wx B (.func (.func 86) #[] #[]) 1 (.func (.func 87) #[] #[]) ∧ Below w3.heap.size w3 wx)
          case first =>
            refine wp_region_noPanic ?_
            refine wp_region_held_drew (S := fun w' => w'.cell? ⟨w.heap.size, 1, none⟩ = some (.int .i64 1)) (by kernel_rfl) (hC2.below ((Below.refl _ w3).drew) hC2.lt).cells.2.1 (fun hHeld => ?_)
            refine wpAnyH_takeL (i := 1) (v := ?vhy9) rfl (by kernel_rfl) (by kernel_rfl) (by kernel_rfl) (fun _ _ _ h => h) (Or.inl ⟨by rfl, ?hy9⟩) (by assumption) ?rhy9
            case hy9 => ((intro w hSw; (try dsimp only at hSw); go_simp); try with_reducible rfl)
            try simp only [Act.put, List.setIfInBounds_toArray, List.set_cons_zero, List.set_cons_succ]
            refine wpAnyH_takeL (i := 2) (v := ?vhy10) rfl (by kernel_rfl) (by kernel_rfl) (by kernel_rfl) (fun _ _ _ h => h) (Or.inl ⟨by rfl, ?hy10⟩) (by assumption) ?rhy10
            case hy10 => ((intro w hSw; (try dsimp only at hSw); go_simp); try with_reducible rfl)
            try simp only [Act.put, List.setIfInBounds_toArray, List.set_cons_zero, List.set_cons_succ]
            refine wpAnyH_ready (rs := [0, 4]) (by kernel_rfl) (by simp) ?_
            refine AllReadyH.consL (i := 0) rfl (fun K hK => ?_) (AllReadyH.consL (i := 4) rfl (fun K hK => ?_) AllReadyH.nil)
            · go_simp
              refine (skinds_any _).mono ?_
              rintro e w4 ⟨r, rfl, hm, hb1, hr1⟩
              replace hb1 := gr ((Below.refl _ w3).drew) hb1
              refine hK.out _ _ (hC2.below hb1 hC2.lt).cells.2.1 (fun hHeld => ?_)
              clear hK hHeld
              refine wpAnyH_more (S' := fun w' => IMap w' r .i64 SKinds ∧ Below w3.heap.size w3 w') (fun w' h => (hC2.below h.2 hC2.lt).cells.2.1) ?_
              have hHeld : IMap w4 r .i64 SKinds ∧ Below w3.heap.size w3 w4 := ⟨hm, hb1⟩
              try simp only [Act.put, List.setIfInBounds_toArray, List.set_cons_zero, List.set_cons_succ]
              refine wpAnyH_takeL (i := 3) (v := ?vhy11) rfl (by kernel_rfl) (by kernel_rfl) (by kernel_rfl) (fun _ _ _ h => h) (Or.inl ⟨by rfl, ?hy11⟩) (by assumption) ?rhy11
              case hy11 => ((intro w hSw; (try dsimp only at hSw); go_simp); try with_reducible rfl)
              try simp only [Act.put, List.setIfInBounds_toArray, List.set_cons_zero, List.set_cons_succ]
              refine wpAnyH_ready (rs := [4]) (by kernel_rfl) (by simp) ?_
              refine AllReadyH.consL (i := 4) rfl (fun K hK => ?_) AllReadyH.nil
              go_simp
              have hs2 := (Below.refl w4.heap.size w4).alloc (Nat.le_refl _) (.cells #[.nilFunc, .int .i64 0, .nilFunc] 112)
              refine hK.out _ _ ⟨hm.below hs2, gr hb1 hs2⟩ (fun hHeld => ?_)
              clear hK
              try simp only [Act.put, List.setIfInBounds_toArray, List.set_cons_zero, List.set_cons_succ]
              refine wpAnyH_ready (rs := [5]) (by kernel_rfl) (by simp) ?_
              refine AllReadyH.consL (i := 5) rfl (fun K hK => ?_) AllReadyH.nil
              go_simp
              have hs3 := (Below.refl w4.heap.size w4).alloc (Nat.le_refl _) (.cells #[(.func (.func 86) #[] #[]), .int .i64 1, (.func (.func 87) #[] #[])] 112)
              have hkb : KB (w4.alloc (.cells #[(.func (.func 86) #[] #[]), .int .i64 1, (.func (.func 87) #[] #[])] 112)) w4.heap.size (.func (.func 86) #[] #[]) 1 (.func (.func 87) #[] #[]) := World.alloc_heap_new w4 _
              refine hK.out _ _ ⟨hm.below hs3, gr hb1 hs3⟩ (fun hHeld => ?_)
              clear hK
              try simp only [Act.put, List.setIfInBounds_toArray, List.set_cons_zero, List.set_cons_succ]
              refine wpAnyH_done (by kernel_rfl) ?_ _
              refine NoPanic.normal ?_
              clear hHeld hlk
              go_wp2_with fail
              go_meet
              exact ⟨_, rfl, hkb, gr hb1 hs3⟩
            · go_simp
              have hs2 := (Below.refl w3.heap.size w3).alloc (Nat.le_refl _) (.cells #[.nilFunc, .int .i64 0, .nilFunc] 112)
              have hkn : KB (w3.alloc (.cells #[.nilFunc, .int .i64 0, .nilFunc] 112)) w3.heap.size .nilFunc 0 .nilFunc := World.alloc_heap_new w3 _
              have hln : w3.heap.size < (w3.alloc (.cells #[.nilFunc, .int .i64 0, .nilFunc] 112)).heap.size := by simp
              refine hK.out _ _ (hC2.below hs2.drew hC2.lt).cells.2.1 (fun hHeld => ?_)
              clear hK
              try simp only [Act.put, List.setIfInBounds_toArray, List.set_cons_zero, List.set_cons_succ]
              refine wpAnyH_ready (rs := [0]) (by kernel_rfl) (by simp) ?_
              refine AllReadyH.consL (i := 0) rfl (fun K hK => ?_) AllReadyH.nil
              go_simp
              refine (skinds_any _).mono ?_
              rintro e w4 ⟨r, rfl, hm, hb1, hr1⟩
              replace hr1 : w3.heap.size < r := Nat.lt_of_lt_of_le hln hr1
              replace hkn : KB w4 w3.heap.size .nilFunc 0 .nilFunc := (hb1.block _ hln).trans hkn
              replace hb1 := gr hs2.drew hb1
              refine hK.out _ _ (hC2.below hb1 hC2.lt).cells.2.1 (fun hHeld => ?_)
              clear hK hHeld
              refine wpAnyH_more (S' := fun w' => IMap w' r .i64 SKinds ∧ Below w3.heap.size w3 w') (fun w' h => (hC2.below h.2 hC2.lt).cells.2.1) ?_
              have hHeld : IMap w4 r .i64 SKinds ∧ Below w3.heap.size w3 w4 := ⟨hm, hb1⟩
              try simp only [Act.put, List.setIfInBounds_toArray, List.set_cons_zero, List.set_cons_succ]
              refine wpAnyH_takeL (i := 3) (v := ?vhy12) rfl (by kernel_rfl) (by kernel_rfl) (by kernel_rfl) (fun _ _ _ h => h) (Or.inl ⟨by rfl, ?hy12⟩) (by assumption) ?rhy12
              case hy12 => ((intro w hSw; (try dsimp only at hSw); go_simp); try with_reducible rfl)
              try simp only [Act.put, List.setIfInBounds_toArray, List.set_cons_zero, List.set_cons_succ]
              have hkc := hkn.cells
              have hf0 := hkn.frozen 0
              have hf1 := hkn.frozen 1
              have hf2 := hkn.frozen 2
              refine wpAnyH_ready (rs := [5]) (by kernel_rfl) (by simp) ?_
              refine AllReadyH.consL (i := 5) rfl (fun K hK => ?_) AllReadyH.nil
              go_simp
              have hkb := hkn.put (.func (.func 86) #[] #[]) 1 (.func (.func 87) #[] #[])
              have hb2 := ((hb1.setCell (p := ⟨w3.heap.size, 0, none⟩) (Nat.le_refl _) (.func (.func 86) #[] #[])).setCell (p := ⟨w3.heap.size, 1, none⟩) (Nat.le_refl _) (.int .i64 1)).setCell (p := ⟨w3.heap.size, 2, none⟩) (Nat.le_refl _) (.func (.func 87) #[] #[])
              have hm1 := ((hm.kept (grownBy_setCell_at w4 ⟨w3.heap.size, 0, none⟩ (.func (.func 86) #[] #[])) (by simp; omega)).kept (grownBy_setCell_at _ ⟨w3.heap.size, 1, none⟩ (.int .i64 1)) (by simp; omega)).kept (grownBy_setCell_at _ ⟨w3.heap.size, 2, none⟩ (.func (.func 87) #[] #[])) (by simp; omega)
              refine hK.out _ _ ⟨hm1, hb2⟩ (fun hHeld => ?_)
              clear hK
              try simp only [Act.put, List.setIfInBounds_toArray, List.set_cons_zero, List.set_cons_succ]
              refine wpAnyH_done (by kernel_rfl) ?_ _
              refine NoPanic.normal ?_
              clear hHeld hlk hf0 hf1 hf2 hkc
              go_wp2_with fail
              go_meet
              exact ⟨_, rfl, hkb, hb2⟩
          case rest =>
            obtain ⟨B, rfl, hk, hbx⟩ := hcut
            have hb3 := gr b2 hbx
            have hC3 := hC2.below hbx hC2.lt
            have hV3 := hV2.below hbx hV2.lt
            have cc3 := hC3.cells
            have cv3 := hV3.cells
            have ck3 := hk.cells
            clear hbx hC2 hV2 hlk cc2 cv2
            generalize wc = w4 at *
            have eF := enters_of Tryz.func87 (by kernel_rfl) rfl
            go_wp2_with fail
            refine (hrm.out _).mono ?_
            rintro e w5 ⟨rfl, g5⟩
            have hb5 := gr hb3 g5
            have hC5 := hC3.below g5 hC3.lt
            have cc5 := hC5.cells
            clear hrm g5 cc3 cv3 ck3
            go_wp2
            go_ret
            exact ⟨_, rfl, .inr ⟨by decide, _, rfl, by simp⟩, gr_alloc hb5 _⟩
        · obtain rfl : F = 0 := hF
          go_enter Tryz.func34, Tryz.ntmps34
          go_wp2_with fail
          rw [hw1.out]
          clear hw1
          refine (hcl.out _).mono ?_
          rintro e w2 ⟨rfl, g1⟩
          have b1 := gr hb g1
          have hC1 := hC.below g1 hC.lt
          have hV1 := hV.below g1 hV.lt
          have cc1 := hC1.cells
          have cv1 := hV1.cells
          clear g1 hcl hC hV hb
          go_wp2_with fail
          refine (hck.out _).mono ?_
          rintro e w3 ⟨rfl, g2⟩
          have b2 := gr b1 g2
          have hC2 := hC1.below g2 hC1.lt
          have hV2 := hV1.below g2 hV1.lt
          have cc2 := hC2.cells
          have cv2 := hV2.cells
          clear g2 hck hC1 hV1 b1 cc1 cv1
          go_upto_region 6 with fail
          go_cut [6] from 27 to 30 (fun s6 wx => ∃ B : Nat, s6 = .pointer (some ⟨B, 0, none⟩) ∧ KB wx B (.func (.func 86) #[] #[]) 1 (.func (.func 87) #[] #[]) ∧ Below w3.heap.size w3 wx)
          case first =>
            refine wp_region_noPanic ?_
            refine wp_region_held_drew (S := fun w' => w'.cell? ⟨w.heap.size, 1, none⟩ = some (.int .i64 1)) (by kernel_rfl) (hC2.below ((Below.refl _ w3).drew) hC2.lt).cells.2.1 (fun hHeld => ?_)
            refine wpAnyH_takeL (i := 1) (v := ?vhy13) rfl (by kernel_rfl) (by kernel_rfl) (by kernel_rfl) (fun _ _ _ h => h) (Or.inl ⟨by rfl, ?hy13⟩) (by assumption) ?rhy13
            case hy13 => ((intro w hSw; (try dsimp only at hSw); go_simp); try with_reducible rfl)
            try simp only [Act.put, List.setIfInBounds_toArray, List.set_cons_zero, List.set_cons_succ]
            refine wpAnyH_takeL (i := 2) (v := ?vhy14) rfl (by kernel_rfl) (by kernel_rfl) (by kernel_rfl) (fun _ _ _ h => h) (Or.inl ⟨by rfl, ?hy14⟩) (by assumption) ?rhy14
            case hy14 => ((intro w hSw; (try dsimp only at hSw); go_simp); try with_reducible rfl)
            try simp only [Act.put, List.setIfInBounds_toArray, List.set_cons_zero, List.set_cons_succ]
            refine wpAnyH_ready (rs := [0, 4]) (by kernel_rfl) (by simp) ?_
            refine AllReadyH.consL (i := 0) rfl (fun K hK => ?_) (AllReadyH.consL (i := 4) rfl (fun K hK => ?_) AllReadyH.nil)
            · go_simp
              refine (skinds_any _).mono ?_
              rintro e w4 ⟨r, rfl, hm, hb1, hr1⟩
              replace hb1 := gr ((Below.refl _ w3).drew) hb1
              refine hK.out _ _ (hC2.below hb1 hC2.lt).cells.2.1 (fun hHeld => ?_)
              clear hK hHeld
              refine wpAnyH_more (S' := fun w' => IMap w' r .i64 SKinds ∧ Below w3.heap.size w3 w') (fun w' h => (hC2.below h.2 hC2.lt).cells.2.1) ?_
              have hHeld : IMap w4 r .i64 SKinds ∧ Below w3.heap.size w3 w4 := ⟨hm, hb1⟩
              try simp only [Act.put, List.setIfInBounds_toArray, List.set_cons_zero, List.set_cons_succ]
              refine wpAnyH_takeL (i := 3) (v := ?vhy15) rfl (by kernel_rfl) (by kernel_rfl) (by kernel_rfl) (fun _ _ _ h => h) (Or.inl ⟨by rfl, ?hy15⟩) (by assumption) ?rhy15
              case hy15 => ((intro w hSw; (try dsimp only at hSw); go_simp); try with_reducible rfl)
              try simp only [Act.put, List.setIfInBounds_toArray, List.set_cons_zero, List.set_cons_succ]
              refine wpAnyH_ready (rs := [4]) (by kernel_rfl) (by simp) ?_
              refine AllReadyH.consL (i := 4) rfl (fun K hK => ?_) AllReadyH.nil
              go_simp
              have hs2 := (Below.refl w4.heap.size w4).alloc (Nat.le_refl _) (.cells #[.nilFunc, .int .i64 0, .nilFunc] 112)
              refine hK.out _ _ ⟨hm.below hs2, gr hb1 hs2⟩ (fun hHeld => ?_)
              clear hK
              try simp only [Act.put, List.setIfInBounds_toArray, List.set_cons_zero, List.set_cons_succ]
              refine wpAnyH_ready (rs := [5]) (by kernel_rfl) (by simp) ?_
              refine AllReadyH.consL (i := 5) rfl (fun K hK => ?_) AllReadyH.nil
              go_simp
              have hs3 := (Below.refl w4.heap.size w4).alloc (Nat.le_refl _) (.cells #[(.func (.func 86) #[] #[]), .int .i64 1, (.func (.func 87) #[] #[])] 112)
              have hkb : KB (w4.alloc (.cells #[(.func (.func 86) #[] #[]), .int .i64 1, (.func (.func 87) #[] #[])] 112)) w4.heap.size (.func (.func 86) #[] #[]) 1 (.func (.func 87) #[] #[]) := World.alloc_heap_new w4 _
              refine hK.out _ _ ⟨hm.below hs3, gr hb1 hs3⟩ (fun hHeld => ?_)
              clear hK
              try simp only [Act.put, List.setIfInBounds_toArray, List.set_cons_zero, List.set_cons_succ]
              refine wpAnyH_done (by kernel_rfl) ?_ _
              refine NoPanic.normal ?_
              clear hHeld hlk
              go_wp2_with fail
              go_meet
              exact ⟨_, rfl, hkb, gr hb1 hs3⟩
            · go_simp
              have hs2 := (Below.refl w3.heap.size w3).alloc (Nat.le_refl _) (.cells #[.nilFunc, .int .i64 0, .nilFunc] 112)
              have hkn : KB (w3.alloc (.cells #[.nilFunc, .int .i64 0, .nilFunc] 112)) w3.heap.size .nilFunc 0 .nilFunc := World.alloc_heap_new w3 _
              have hln : w3.heap.size < (w3.alloc (.cells #[.nilFunc, .int .i64 0, .nilFunc] 112)).heap.size := by simp
              refine hK.out _ _ (hC2.below hs2.drew hC2.lt).cells.2.1 (fun hHeld => ?_)
              clear hK
              try simp only [Act.put, List.setIfInBounds_toArray, List.set_cons_zero, List.set_cons_succ]
              refine wpAnyH_ready (rs := [0]) (by kernel_rfl) (by simp) ?_
              refine AllReadyH.consL (i := 0) rfl (fun K hK => ?_) AllReadyH.nil
              go_simp
              refine (skinds_any _).mono ?_
              rintro e w4 ⟨r, rfl, hm, hb1, hr1⟩
              replace hr1 : w3.heap.size < r := Nat.lt_of_lt_of_le hln hr1
              replace hkn : KB w4 w3.heap.size .nilFunc 0 .nilFunc := (hb1.block _ hln).trans hkn
              replace hb1 := gr hs2.drew hb1
              refine hK.out _ _ (hC2.below hb1 hC2.lt).cells.2.1 (fun hHeld => ?_)
              clear hK hHeld
              refine wpAnyH_more (S' := fun w' => IMap w' r .i64 SKinds ∧ Below w3.heap.size w3 w') (fun w' h => (hC2.below h.2 hC2.lt).cells.2.1) ?_
              have hHeld : IMap w4 r .i64 SKinds ∧ Below w3.heap.size w3 w4 := ⟨hm, hb1⟩
              try simp only [Act.put, List.setIfInBounds_toArray, List.set_cons_zero, List.set_cons_succ]
              refine wpAnyH_takeL (i := 3) (v := ?vhy16) rfl (by kernel_rfl) (by kernel_rfl) (by kernel_rfl) (fun _ _ _ h => h) (Or.inl ⟨by rfl, ?hy16⟩) (by assumption) ?rhy16
              case hy16 => ((intro w hSw; (try dsimp only at hSw); go_simp); try with_reducible rfl)
              try simp only [Act.put, List.setIfInBounds_toArray, List.set_cons_zero, List.set_cons_succ]
              have hkc := hkn.cells
              have hf0 := hkn.frozen 0
              have hf1 := hkn.frozen 1
              have hf2 := hkn.frozen 2
              refine wpAnyH_ready (rs := [5]) (by kernel_rfl) (by simp) ?_
              refine AllReadyH.consL (i := 5) rfl (fun K hK => ?_) AllReadyH.nil
              go_simp
              have hkb := hkn.put (.func (.func 86) #[] #[]) 1 (.func (.func 87) #[] #[])
              have hb2 := ((hb1.setCell (p := ⟨w3.heap.size, 0, none⟩) (Nat.le_refl _) (.func (.func 86) #[] #[])).setCell (p := ⟨w3.heap.size, 1, none⟩) (Nat.le_refl _) (.int .i64 1)).setCell (p := ⟨w3.heap.size, 2, none⟩) (Nat.le_refl _) (.func (.func 87) #[] #[])
              have hm1 := ((hm.kept (grownBy_setCell_at w4 ⟨w3.heap.size, 0, none⟩ (.func (.func 86) #[] #[])) (by simp; omega)).kept (grownBy_setCell_at _ ⟨w3.heap.size, 1, none⟩ (.int .i64 1)) (by simp; omega)).kept (grownBy_setCell_at _ ⟨w3.heap.size, 2, none⟩ (.func (.func 87) #[] #[])) (by simp; omega)
              refine hK.out _ _ ⟨hm1, hb2⟩ (fun hHeld => ?_)
              clear hK
              try simp only [Act.put, List.setIfInBounds_toArray, List.set_cons_zero, List.set_cons_succ]
              refine wpAnyH_done (by kernel_rfl) ?_ _
              refine NoPanic.normal ?_
              clear hHeld hlk hf0 hf1 hf2 hkc
              go_wp2_with fail
              go_meet
              exact ⟨_, rfl, hkb, hb2⟩
          case rest =>
            obtain ⟨B, rfl, hk, hbx⟩ := hcut
            have hb3 := gr b2 hbx
            have hC3 := hC2.below hbx hC2.lt
            have hV3 := hV2.below hbx hV2.lt
            have cc3 := hC3.cells
            have cv3 := hV3.cells
            have ck3 := hk.cells
            clear hbx hC2 hV2 hlk cc2 cv2
            generalize wc = w4 at *
            have eF := enters_of Tryz.func87 (by kernel_rfl) rfl
            go_wp2_with fail
            refine (hrm.out _).mono ?_
            rintro e w5 ⟨rfl, g5⟩
            have hb5 := gr hb3 g5
            clear hrm g5 cc3 cv3 ck3
            go_wp2
            go_ret
            exact ⟨_, rfl, .inl ⟨rfl, rfl⟩, hb5⟩
      · rw [if_pos hkt] at hF
        subst hF
        have et : (xk != 1) = true := by simpa using hkt
        clear hrm hkt
        go_enter Tryz.func34, Tryz.ntmps34
        go_wp2_with fail
        rw [hw1.out]
        clear hw1
        refine (hcl.out _).mono ?_
        rintro e w2 ⟨rfl, g1⟩
        have b1 := gr hb g1
        have hC1 := hC.below g1 hC.lt
        have hV1 := hV.below g1 hV.lt
        have cc1 := hC1.cells
        have cv1 := hV1.cells
        clear g1 hcl hC hV hb
        go_wp2_with fail
        refine (hck.out _).mono ?_
        rintro e w3 ⟨rfl, g2⟩
        have b2 := gr b1 g2
        have hC2 := hC1.below g2 hC1.lt
        have hV2 := hV1.below g2 hV1.lt
        have cc2 := hC2.cells
        have cv2 := hV2.cells
        clear g2 hck hC1 hV1 b1 cc1 cv1
        go_upto_region 6 with fail
        go_cut [6] from 27 to 30 (fun s6 wx => ∃ B : Nat, s6 = .pointer (some ⟨B, 0, none⟩) ∧ KB wx B (.func (.func 86) #[] #[]) 1 (.func (.func 87) #[] #[]) ∧ Below w3.heap.size w3 wx)
        case first =>
          refine wp_region_noPanic ?_
          refine wp_region_held_drew (S := fun w' => w'.cell? ⟨w.heap.size, 1, none⟩ = some (.int .i64 1)) (by kernel_rfl) (hC2.below ((Below.refl _ w3).drew) hC2.lt).cells.2.1 (fun hHeld => ?_)
          refine wpAnyH_takeL (i := 1) (v := ?vhy17) rfl (by kernel_rfl) (by kernel_rfl) (by kernel_rfl) (fun _ _ _ h => h) (Or.inl ⟨by rfl, ?hy17⟩) (by assumption) ?rhy17
          case hy17 => ((intro w hSw; (try dsimp only at hSw); go_simp); try with_reducible rfl)
          try simp only [Act.put, List.setIfInBounds_toArray, List.set_cons_zero, List.set_cons_succ]
          refine wpAnyH_takeL (i := 2) (v := ?vhy18) rfl (by kernel_rfl) (by kernel_rfl) (by kernel_rfl) (fun _ _ _ h => h) (Or.inl ⟨by rfl, ?hy18⟩) (by assumption) ?rhy18
          case hy18 => ((intro w hSw; (try dsimp only at hSw); go_simp); try with_reducible rfl)
          try simp only [Act.put, List.setIfInBounds_toArray, List.set_cons_zero, List.set_cons_succ]
          refine wpAnyH_ready (rs := [0, 4]) (by kernel_rfl) (by simp) ?_
          refine AllReadyH.consL (i := 0) rfl (fun K hK => ?_) (AllReadyH.consL (i := 4) rfl (fun K hK => ?_) AllReadyH.nil)
          · go_simp
            refine (skinds_any _).mono ?_
            rintro e w4 ⟨r, rfl, hm, hb1, hr1⟩
            replace hb1 := gr ((Below.refl _ w3).drew) hb1
            refine hK.out _ _ (hC2.below hb1 hC2.lt).cells.2.1 (fun hHeld => ?_)
            clear hK hHeld
            refine wpAnyH_more (S' := fun w' => IMap w' r .i64 SKinds ∧ Below w3.heap.size w3 w') (fun w' h => (hC2.below h.2 hC2.lt).cells.2.1) ?_
            have hHeld : IMap w4 r .i64 SKinds ∧ Below w3.heap.size w3 w4 := ⟨hm, hb1⟩
            try simp only [Act.put, List.setIfInBounds_toArray, List.set_cons_zero, List.set_cons_succ]
            refine wpAnyH_takeL (i := 3) (v := ?vhy19) rfl (by kernel_rfl) (by kernel_rfl) (by kernel_rfl) (fun _ _ _ h => h) (Or.inl ⟨by rfl, ?hy19⟩) (by assumption) ?rhy19
            case hy19 => ((intro w hSw; (try dsimp only at hSw); go_simp); try with_reducible rfl)
            try simp only [Act.put, List.setIfInBounds_toArray, List.set_cons_zero, List.set_cons_succ]
            refine wpAnyH_ready (rs := [4]) (by kernel_rfl) (by simp) ?_
            refine AllReadyH.consL (i := 4) rfl (fun K hK => ?_) AllReadyH.nil
            go_simp
            have hs2 := (Below.refl w4.heap.size w4).alloc (Nat.le_refl _) (.cells #[.nilFunc, .int .i64 0, .nilFunc] 112)
            refine hK.out _ _ ⟨hm.below hs2, gr hb1 hs2⟩ (fun hHeld => ?_)
            clear hK
            try simp only [Act.put, List.setIfInBounds_toArray, List.set_cons_zero, List.set_cons_succ]
            refine wpAnyH_ready (rs := [5]) (by kernel_rfl) (by simp) ?_
            refine AllReadyH.consL (i := 5) rfl (fun K hK => ?_) AllReadyH.nil
            go_simp
            have hs3 := (Below.refl w4.heap.size w4).alloc (Nat.le_refl _) (.cells #[(.func (.func 86) #[] #[]), .int .i64 1, (.func (.func 87) #[] #[])] 112)
            have hkb : KB (w4.alloc (.cells #[(.func (.func 86) #[] #[]), .int .i64 1, (.func (.func 87) #[] #[])] 112)) w4.heap.size (.func (.func 86) #[] #[]) 1 (.func (.func 87) #[] #[]) := World.alloc_heap_new w4 _
            refine hK.out _ _ ⟨hm.below hs3, gr hb1 hs3⟩ (fun hHeld => ?_)
            clear hK
            try simp only [Act.put, List.setIfInBounds_toArray, List.set_cons_zero, List.set_cons_succ]
            refine wpAnyH_done (by kernel_rfl) ?_ _
            refine NoPanic.normal ?_
            clear hHeld hlk
            go_wp2_with fail
            go_meet
            exact ⟨_, rfl, hkb, gr hb1 hs3⟩
          · go_simp
            have hs2 := (Below.refl w3.heap.size w3).alloc (Nat.le_refl _) (.cells #[.nilFunc, .int .i64 0, .nilFunc] 112)
            have hkn : KB (w3.alloc (.cells #[.nilFunc, .int .i64 0, .nilFunc] 112)) w3.heap.size .nilFunc 0 .nilFunc := World.alloc_heap_new w3 _
            have hln : w3.heap.size < (w3.alloc (.cells #[.nilFunc, .int .i64 0, .nilFunc] 112)).heap.size := by simp
            refine hK.out _ _ (hC2.below hs2.drew hC2.lt).cells.2.1 (fun hHeld => ?_)
            clear hK
            try simp only [Act.put, List.setIfInBounds_toArray, List.set_cons_zero, List.set_cons_succ]
            refine wpAnyH_ready (rs := [0]) (by kernel_rfl) (by simp) ?_
            refine AllReadyH.consL (i := 0) rfl (fun K hK => ?_) AllReadyH.nil
            go_simp
            refine (skinds_any _).mono ?_
            rintro e w4 ⟨r, rfl, hm, hb1, hr1⟩
            replace hr1 : w3.heap.size < r := Nat.lt_of_lt_of_le hln hr1
            replace hkn : KB w4 w3.heap.size .nilFunc 0 .nilFunc := (hb1.block _ hln).trans hkn
            replace hb1 := gr hs2.drew hb1
            refine hK.out _ _ (hC2.below hb1 hC2.lt).cells.2.1 (fun hHeld => ?_)
            clear hK hHeld
            refine wpAnyH_more (S' := fun w' => IMap w' r .i64 SKinds ∧ Below w3.heap.size w3 w') (fun w' h => (hC2.below h.2 hC2.lt).cells.2.1) ?_
            have hHeld : IMap w4 r .i64 SKinds ∧ Below w3.heap.size w3 w4 := ⟨hm, hb1⟩
            try simp only [Act.put, List.setIfInBounds_toArray, List.set_cons_zero, List.set_cons_succ]
            refine wpAnyH_takeL (i := 3) (v := ?vhy20) rfl (by kernel_rfl) (by kernel_rfl) (by kernel_rfl) (fun _ _ _ h => h) (Or.inl ⟨by rfl, ?hy20⟩) (by assumption) ?rhy20
            case hy20 => ((intro w hSw; (try dsimp only at hSw); go_simp); try with_reducible rfl)
            try simp only [Act.put, List.setIfInBounds_toArray, List.set_cons_zero, List.set_cons_succ]
            have hkc := hkn.cells
            have hf0 := hkn.frozen 0
            have hf1 := hkn.frozen 1
            have hf2 := hkn.frozen 2
            refine wpAnyH_ready (rs := [5]) (by kernel_rfl) (by simp) ?_
            refine AllReadyH.consL (i := 5) rfl (fun K hK => ?_) AllReadyH.nil
            go_simp
            have hkb := hkn.put (.func (.func 86) #[] #[]) 1 (.func (.func 87) #[] #[])
            have hb2 := ((hb1.setCell (p := ⟨w3.heap.size, 0, none⟩) (Nat.le_refl _) (.func (.func 86) #[] #[])).setCell (p := ⟨w3.heap.size, 1, none⟩) (Nat.le_refl _) (.int .i64 1)).setCell (p := ⟨w3.heap.size, 2, none⟩) (Nat.le_refl _) (.func (.func 87) #[] #[])
            have hm1 := ((hm.kept (grownBy_setCell_at w4 ⟨w3.heap.size, 0, none⟩ (.func (.func 86) #[] #[])) (by simp; omega)).kept (grownBy_setCell_at _ ⟨w3.heap.size, 1, none⟩ (.int .i64 1)) (by simp; omega)).kept (grownBy_setCell_at _ ⟨w3.heap.size, 2, none⟩ (.func (.func 87) #[] #[])) (by simp; omega)
            refine hK.out _ _ ⟨hm1, hb2⟩ (fun hHeld => ?_)
            clear hK
            try simp only [Act.put, List.setIfInBounds_toArray, List.set_cons_zero, List.set_cons_succ]
            refine wpAnyH_done (by kernel_rfl) ?_ _
            refine NoPanic.normal ?_
            clear hHeld hlk hf0 hf1 hf2 hkc
            go_wp2_with fail
            go_meet
            exact ⟨_, rfl, hkb, hb2⟩
        case rest =>
          obtain ⟨B, rfl, hk, hbx⟩ := hcut
          have hb3 := gr b2 hbx
          have hC3 := hC2.below hbx hC2.lt
          have hV3 := hV2.below hbx hV2.lt
          have cc3 := hC3.cells
          have cv3 := hV3.cells
          have ck3 := hk.cells
          clear hbx hC2 hV2 hlk cc2 cv2
          generalize wc = w4 at *
          go_wp2
          go_ret
          exact ⟨_, rfl, .inr ⟨by decide, _, rfl, by simp⟩, gr_alloc hb3 _⟩
  · rw [if_pos h1] at hF
    subst hF
    have hd : ((F : Int) != 0) = true := by simp; omega
    clear hrm hlk
    go_enter Tryz.func34, Tryz.ntmps34
    go_wp2_with fail
    rw [hw1.out]
    clear hw1
    refine (hcl.out _).mono ?_
    rintro e w2 ⟨rfl, g1⟩
    have b1 := gr hb g1
    have hC1 := hC.below g1 hC.lt
    have hV1 := hV.below g1 hV.lt
    have cc1 := hC1.cells
    have cv1 := hV1.cells
    clear g1 hcl hC hV hb
    go_wp2_with fail
    refine (hck.out _).mono ?_
    rintro e w3 ⟨rfl, g2⟩
    have b2 := gr b1 g2
    have hC2 := hC1.below g2 hC1.lt
    have hV2 := hV1.below g2 hV1.lt
    have cc2 := hC2.cells
    have cv2 := hV2.cells
    clear g2 hck hC1 hV1 b1 cc1 cv1
    go_wp2
    go_ret
    exact ⟨_, rfl, .inr ⟨h1, _, rfl, by simp⟩, gr_alloc b2 _⟩
set_option maxRecDepth 100000 in
set_option maxHeartbeats 8000000 in
theorem fits_2 (n : List UInt8) (z : Int) (nl : Bool) (xk xi xu : Int) (xs : List UInt8) (w : World) (hl : n.length ≤ 100000) (hsl : xs.length ≤ maxLen) (hcv : colV ⟨n, 2, z, nl⟩ = true) (hu0 : 0 ≤ xu) (hu1 : xu ≤ 18446744073709551615) :
    Calls Tryz.prog 34 #[.agg #[.string (strL n), .int .i64 2, .int .i64 z, .bool nl], .agg #[.int .i64 xk, .int .i64 xi, .int .u64 xu, .string (strL xs)]] w (FitsP w (fitV ⟨n, 2, z, nl⟩ ⟨xk, xi, xu, xs⟩)) := by
  have hcl := fun W => sright_any ⟨n, 2, z, nl⟩ W hl
  have hck := fun W => Check_any xk xi xu (strL xs) W (by rw [strL_size]; exact hsl)
  have hC := (CBox.new w ⟨n, 2, z, nl⟩).below ((Below.refl _ _).alloc (Nat.le_refl _) (.cells #[.int .i64 xk, .int .i64 xi, .int .u64 xu, .string (strL xs)] 28)) (by simp)
  have hV := VBox.new (w.alloc (.cells #[.string (strL n), .int .i64 2, .int .i64 z, .bool nl] 24)) xk xi xu (strL xs)
  rw [World.size_alloc] at hV
  have hb : Below w.heap.size w ((w.alloc (.cells #[.string (strL n), .int .i64 2, .int .i64 z, .bool nl] 24)).alloc (.cells #[.int .i64 xk, .int .i64 xi, .int .u64 xu, .string (strL xs)] 28)) := ((Below.refl _ w).alloc (Nat.le_refl _) _).alloc (by simp) _
  simp only [Cl.val, valV] at hcl hck
  obtain ⟨w1, hw1⟩ : ∃ w1, ((w.alloc (.cells #[.string (strL n), .int .i64 2, .int .i64 z, .bool nl] 24)).alloc (.cells #[.int .i64 xk, .int .i64 xi, .int .u64 xu, .string (strL xs)] 28)) = w1 := ⟨_, rfl⟩
  rw [hw1] at hC hV hb
  replace hw1 := Lib.hid hw1
  rw [hcv] at hcl
  have hF : fitV ⟨n, 2, z, nl⟩ ⟨xk, xi, xu, xs⟩ = if chkV xk xi xu (strL xs) ≠ 0 then chkV xk xi xu (strL xs) else if xk = 0 then (if nl then 0 else 131) else if xk ≠ 2 then 132 else if roomV z ⟨xk, xi, xu, xs⟩ then 0 else 133 := by
    unfold fitV
    rw [hcv, if_neg (by simp)]
    rfl
  have hrm : xk = 2 → ∀ W, Calls Tryz.prog 88 #[.int .i64 z, .agg #[.int .i64 xk, .int .i64 xi, .int .u64 xu, .string (strL xs)]] W fun e W' => e = .returned (.bool (roomV z ⟨xk, xi, xu, xs⟩)) ∧ Below W.heap.size W W' := fun hk W => by
    subst hk
    exact by
      have h := room2_any z ⟨2, xi, xu, xs⟩ W hu0 hu1 (size_num hcv (.inr rfl))
      exact h
  have hlk : ∀ w' r, IMap w' r .i64 SKinds → (Instr.lookup 113 (.map (some r)) (.int .i64 2) false).run Tryz.prog w' = .ok (.agg #[.func (.func 86) #[] #[], .int .i64 2, .func (.func 88) #[] #[]]) w' := fun w' r hm =>
    hm.look1 _ _ _ Tryz.underlying113 Tryz.underlying22 2 1 _ rfl
  generalize chkV xk xi xu (strL xs) = z1 at *
  generalize roomV z ⟨xk, xi, xu, xs⟩ = rm at *
  generalize fitV ⟨n, 2, z, nl⟩ ⟨xk, xi, xu, xs⟩ = F at *
  replace hcl := Lib.hid hcl
  replace hck := Lib.hid hck
  replace hrm := Lib.hid hrm
  clear hcv hl hsl hu0 hu1
  by_cases h1 : z1 = 0
  · subst h1
    rw [if_neg (by simp)] at hF
    by_cases hk0 : xk = 0
    · subst hk0
      rw [if_pos rfl] at hF
      clear hrm
      cases nl
      · obtain rfl : F = 131 := hF
        go_enter Tryz.func34, Tryz.ntmps34
        go_wp2_with fail
        rw [hw1.out]
        clear hw1
        refine (hcl.out _).mono ?_
        rintro e w2 ⟨rfl, g1⟩
        have b1 := gr hb g1
        have hC1 := hC.below g1 hC.lt
        have hV1 := hV.below g1 hV.lt
        have cc1 := hC1.cells
        have cv1 := hV1.cells
        clear g1 hcl hC hV hb
        go_wp2_with fail
        refine (hck.out _).mono ?_
        rintro e w3 ⟨rfl, g2⟩
        have b2 := gr b1 g2
        have hC2 := hC1.below g2 hC1.lt
        have hV2 := hV1.below g2 hV1.lt
        have cc2 := hC2.cells
        have cv2 := hV2.cells
        clear g2 hck hC1 hV1 b1 cc1 cv1
        go_upto_region 6 with fail
        go_cut [6] from 27 to 30 (fun s6 wx => ∃ B : Nat, s6 = .pointer (some ⟨B, 0, none⟩) ∧ KB wx B (.func (.func 86) #[] #[]) 2 (.func (.func 88) #[] #[]) ∧ Below w3.heap.size w3 wx)
        case first =>
          refine wp_region_noPanic ?_
          refine wp_region_held_drew (S := fun w' => w'.cell? ⟨w.heap.size, 1, none⟩ = some (.int .i64 2)) (by kernel_rfl) (hC2.below ((Below.refl _ w3).drew) hC2.lt).cells.2.1 (fun hHeld => ?_)
          refine wpAnyH_takeL (i := 1) (v := ?vhy21) rfl (by kernel_rfl) (by kernel_rfl) (by kernel_rfl) (fun _ _ _ h => h) (Or.inl ⟨by rfl, ?hy21⟩) (by assumption) ?rhy21
          case hy21 => ((intro w hSw; (try dsimp only at hSw); go_simp); try with_reducible rfl)
          try simp only [Act.put, List.setIfInBounds_toArray, List.set_cons_zero, List.set_cons_succ]
          refine wpAnyH_takeL (i := 2) (v := ?vhy22) rfl (by kernel_rfl) (by kernel_rfl) (by kernel_rfl) (fun _ _ _ h => h) (Or.inl ⟨by rfl, ?hy22⟩) (by assumption) ?rhy22
          case hy22 => ((intro w hSw; (try dsimp only at hSw); go_simp); try with_reducible rfl)
          try simp only [Act.put, List.setIfInBounds_toArray, List.set_cons_zero, List.set_cons_succ]
          refine wpAnyH_ready (rs := [0, 4]) (by kernel_rfl) (by simp) ?_
          refine AllReadyH.consL (i := 0) rfl (fun K hK => ?_) (AllReadyH.consL (i := 4) rfl (fun K hK => ?_) AllReadyH.nil)
          · go_simp
            refine (skinds_any _).mono ?_
            rintro e w4 ⟨r, rfl, hm, hb1, hr1⟩
            replace hb1 := gr ((Below.refl _ w3).drew) hb1
            refine hK.out _ _ (hC2.below hb1 hC2.lt).cells.2.1 (fun hHeld => ?_)
            clear hK hHeld
            refine wpAnyH_more (S' := fun w' => IMap w' r .i64 SKinds ∧ Below w3.heap.size w3 w') (fun w' h => (hC2.below h.2 hC2.lt).cells.2.1) ?_
            have hHeld : IMap w4 r .i64 SKinds ∧ Below w3.heap.size w3 w4 := ⟨hm, hb1⟩
            try simp only [Act.put, List.setIfInBounds_toArray, List.set_cons_zero, List.set_cons_succ]
            refine wpAnyH_takeL (i := 3) (v := ?vhy23) rfl (by kernel_rfl) (by kernel_rfl) (by kernel_rfl) (fun _ _ _ h => h) (Or.inl ⟨by rfl, ?hy23⟩) (by assumption) ?rhy23
            case hy23 => ((intro w hSw; (try dsimp only at hSw); go_simp); try with_reducible rfl)
            try simp only [Act.put, List.setIfInBounds_toArray, List.set_cons_zero, List.set_cons_succ]
            refine wpAnyH_ready (rs := [4]) (by kernel_rfl) (by simp) ?_
            refine AllReadyH.consL (i := 4) rfl (fun K hK => ?_) AllReadyH.nil
            go_simp
            have hs2 := (Below.refl w4.heap.size w4).alloc (Nat.le_refl _) (.cells #[.nilFunc, .int .i64 0, .nilFunc] 112)
            refine hK.out _ _ ⟨hm.below hs2, gr hb1 hs2⟩ (fun hHeld => ?_)
            clear hK
            try simp only [Act.put, List.setIfInBounds_toArray, List.set_cons_zero, List.set_cons_succ]
            refine wpAnyH_ready (rs := [5]) (by kernel_rfl) (by simp) ?_
            refine AllReadyH.consL (i := 5) rfl (fun K hK => ?_) AllReadyH.nil
            go_simp
            have hs3 := (Below.refl w4.heap.size w4).alloc (Nat.le_refl _) (.cells #[(.func (.func 86) #[] #[]), .int .i64 2, (.func (.func 88) #[] #[])] 112)
            have hkb : KB (w4.alloc (.cells #[(.func (.func 86) #[] #[]), .int .i64 2, (.func (.func 88) #[] #[])] 112)) w4.heap.size (.func (.func 86) #[] #[]) 2 (.func (.func 88) #[] #[]) := World.alloc_heap_new w4 _
            refine hK.out _ _ ⟨hm.below hs3, gr hb1 hs3⟩ (fun hHeld => ?_)
            clear hK
            try simp only [Act.put, List.setIfInBounds_toArray, List.set_cons_zero, List.set_cons_succ]
            refine wpAnyH_done (by kernel_rfl) ?_ _
            refine NoPanic.normal ?_
            clear hHeld hlk
            go_wp2_with fail
            go_meet
            exact ⟨_, rfl, hkb, gr hb1 hs3⟩
          · go_simp
            have hs2 := (Below.refl w3.heap.size w3).alloc (Nat.le_refl _) (.cells #[.nilFunc, .int .i64 0, .nilFunc] 112)
            have hkn : KB (w3.alloc (.cells #[.nilFunc, .int .i64 0, .nilFunc] 112)) w3.heap.size .nilFunc 0 .nilFunc := World.alloc_heap_new w3 _
            have hln : w3.heap.size < (w3.alloc (.cells #[.nilFunc, .int .i64 0, .nilFunc] 112)).heap.size := by simp
            refine hK.out _ _ (hC2.below hs2.drew hC2.lt).cells.2.1 (fun hHeld => ?_)
            clear hK
            try simp only [Act.put, List.setIfInBounds_toArray, List.set_cons_zero, List.set_cons_succ]
            refine wpAnyH_ready (rs := [0]) (by kernel_rfl) (by simp) ?_
            refine AllReadyH.consL (i := 0) rfl (fun K hK => ?_) AllReadyH.nil
            go_simp
            refine (skinds_any _).mono ?_
            rintro e w4 ⟨r, rfl, hm, hb1, hr1⟩
            replace hr1 : w3.heap.size < r := Nat.lt_of_lt_of_le hln hr1
            replace hkn : KB w4 w3.heap.size .nilFunc 0 .nilFunc := (hb1.block _ hln).trans hkn
            replace hb1 := gr hs2.drew hb1
            refine hK.out _ _ (hC2.below hb1 hC2.lt).cells.2.1 (fun hHeld => ?_)
            clear hK hHeld
            refine wpAnyH_more (S' := fun w' => IMap w' r .i64 SKinds ∧ Below w3.heap.size w3 w') (fun w' h => (hC2.below h.2 hC2.lt).cells.2.1) ?_
            have hHeld : IMap w4 r .i64 SKinds ∧ Below w3.heap.size w3 w4 := ⟨hm, hb1⟩
            try simp only [Act.put, List.setIfInBounds_toArray, List.set_cons_zero, List.set_cons_succ]
            refine wpAnyH_takeL (i := 3) (v := ?vhy24) rfl (by kernel_rfl) (by kernel_rfl) (by kernel_rfl) (fun _ _ _ h => h) (Or.inl ⟨by rfl, ?hy24⟩) (by assumption) ?rhy24
            case hy24 => ((intro w hSw; (try dsimp only at hSw); go_simp); try with_reducible rfl)
            try simp only [Act.put, List.setIfInBounds_toArray, List.set_cons_zero, List.set_cons_succ]
            have hkc := hkn.cells
            have hf0 := hkn.frozen 0
            have hf1 := hkn.frozen 1
            have hf2 := hkn.frozen 2
            refine wpAnyH_ready (rs := [5]) (by kernel_rfl) (by simp) ?_
            refine AllReadyH.consL (i := 5) rfl (fun K hK => ?_) AllReadyH.nil
            go_simp
            have hkb := hkn.put (.func (.func 86) #[] #[]) 2 (.func (.func 88) #[] #[])
            have hb2 := ((hb1.setCell (p := ⟨w3.heap.size, 0, none⟩) (Nat.le_refl _) (.func (.func 86) #[] #[])).setCell (p := ⟨w3.heap.size, 1, none⟩) (Nat.le_refl _) (.int .i64 2)).setCell (p := ⟨w3.heap.size, 2, none⟩) (Nat.le_refl _) (.func (.func 88) #[] #[])
            have hm1 := ((hm.kept (grownBy_setCell_at w4 ⟨w3.heap.size, 0, none⟩ (.func (.func 86) #[] #[])) (by simp; omega)).kept (grownBy_setCell_at _ ⟨w3.heap.size, 1, none⟩ (.int .i64 2)) (by simp; omega)).kept (grownBy_setCell_at _ ⟨w3.heap.size, 2, none⟩ (.func (.func 88) #[] #[])) (by simp; omega)
            refine hK.out _ _ ⟨hm1, hb2⟩ (fun hHeld => ?_)
            clear hK
            try simp only [Act.put, List.setIfInBounds_toArray, List.set_cons_zero, List.set_cons_succ]
            refine wpAnyH_done (by kernel_rfl) ?_ _
            refine NoPanic.normal ?_
            clear hHeld hlk hf0 hf1 hf2 hkc
            go_wp2_with fail
            go_meet
            exact ⟨_, rfl, hkb, hb2⟩
        case rest =>
          obtain ⟨B, rfl, hk, hbx⟩ := hcut
          have hb3 := gr b2 hbx
          have hC3 := hC2.below hbx hC2.lt
          have hV3 := hV2.below hbx hV2.lt
          have cc3 := hC3.cells
          have cv3 := hV3.cells
          have ck3 := hk.cells
          clear hbx hC2 hV2 hlk cc2 cv2
          generalize wc = w4 at *
          go_wp2
          go_ret
          exact ⟨_, rfl, .inr ⟨by decide, _, rfl, by simp⟩, gr_alloc hb3 _⟩
      · obtain rfl : F = 0 := hF
        go_enter Tryz.func34, Tryz.ntmps34
        go_wp2_with fail
        rw [hw1.out]
        clear hw1
        refine (hcl.out _).mono ?_
        rintro e w2 ⟨rfl, g1⟩
        have b1 := gr hb g1
        have hC1 := hC.below g1 hC.lt
        have hV1 := hV.below g1 hV.lt
        have cc1 := hC1.cells
        have cv1 := hV1.cells
        clear g1 hcl hC hV hb
        go_wp2_with fail
        refine (hck.out _).mono ?_
        rintro e w3 ⟨rfl, g2⟩
        have b2 := gr b1 g2
        have hC2 := hC1.below g2 hC1.lt
        have hV2 := hV1.below g2 hV1.lt
        have cc2 := hC2.cells
        have cv2 := hV2.cells
        clear g2 hck hC1 hV1 b1 cc1 cv1
        go_upto_region 6 with fail
        go_cut [6] from 27 to 30 (fun s6 wx => ∃ B : Nat, s6 = .pointer (some ⟨B, 0, none⟩) ∧ KB wx B (.func (.func 86) #[] #[]) 2 (.func (.func 88) #[] #[]) ∧ Below w3.heap.size w3 wx)
        case first =>
          refine wp_region_noPanic ?_
          refine wp_region_held_drew (S := fun w' => w'.cell? ⟨w.heap.size, 1, none⟩ = some (.int .i64 2)) (by kernel_rfl) (hC2.below ((Below.refl _ w3).drew) hC2.lt).cells.2.1 (fun hHeld => ?_)
          refine wpAnyH_takeL (i := 1) (v := ?vhy25) rfl (by kernel_rfl) (by kernel_rfl) (by kernel_rfl) (fun _ _ _ h => h) (Or.inl ⟨by rfl, ?hy25⟩) (by assumption) ?rhy25
          case hy25 => ((intro w hSw; (try dsimp only at hSw); go_simp); try with_reducible rfl)
          try simp only [Act.put, List.setIfInBounds_toArray, List.set_cons_zero, List.set_cons_succ]
          refine wpAnyH_takeL (i := 2) (v := ?vhy26) rfl (by kernel_rfl) (by kernel_rfl) (by kernel_rfl) (fun _ _ _ h => h) (Or.inl ⟨by rfl, ?hy26⟩) (by assumption) ?rhy26
          case hy26 => ((intro w hSw; (try dsimp only at hSw); go_simp); try with_reducible rfl)
          try simp only [Act.put, List.setIfInBounds_toArray, List.set_cons_zero, List.set_cons_succ]
          refine wpAnyH_ready (rs := [0, 4]) (by kernel_rfl) (by simp) ?_
          refine AllReadyH.consL (i := 0) rfl (fun K hK => ?_) (AllReadyH.consL (i := 4) rfl (fun K hK => ?_) AllReadyH.nil)
          · go_simp
            refine (skinds_any _).mono ?_
            rintro e w4 ⟨r, rfl, hm, hb1, hr1⟩
            replace hb1 := gr ((Below.refl _ w3).drew) hb1
            refine hK.out _ _ (hC2.below hb1 hC2.lt).cells.2.1 (fun hHeld => ?_)
            clear hK hHeld
            refine wpAnyH_more (S' := fun w' => IMap w' r .i64 SKinds ∧ Below w3.heap.size w3 w') (fun w' h => (hC2.below h.2 hC2.lt).cells.2.1) ?_
            have hHeld : IMap w4 r .i64 SKinds ∧ Below w3.heap.size w3 w4 := ⟨hm, hb1⟩
            try simp only [Act.put, List.setIfInBounds_toArray, List.set_cons_zero, List.set_cons_succ]
            refine wpAnyH_takeL (i := 3) (v := ?vhy27) rfl (by kernel_rfl) (by kernel_rfl) (by kernel_rfl) (fun _ _ _ h => h) (Or.inl ⟨by rfl, ?hy27⟩) (by assumption) ?rhy27
            case hy27 => ((intro w hSw; (try dsimp only at hSw); go_simp); try with_reducible rfl)
            try simp only [Act.put, List.setIfInBounds_toArray, List.set_cons_zero, List.set_cons_succ]
            refine wpAnyH_ready (rs := [4]) (by kernel_rfl) (by simp) ?_
            refine AllReadyH.consL (i := 4) rfl (fun K hK => ?_) AllReadyH.nil
            go_simp
            have hs2 := (Below.refl w4.heap.size w4).alloc (Nat.le_refl _) (.cells #[.nilFunc, .int .i64 0, .nilFunc] 112)
            refine hK.out _ _ ⟨hm.below hs2, gr hb1 hs2⟩ (fun hHeld => ?_)
            clear hK
            try simp only [Act.put, List.setIfInBounds_toArray, List.set_cons_zero, List.set_cons_succ]
            refine wpAnyH_ready (rs := [5]) (by kernel_rfl) (by simp) ?_
            refine AllReadyH.consL (i := 5) rfl (fun K hK => ?_) AllReadyH.nil
            go_simp
            have hs3 := (Below.refl w4.heap.size w4).alloc (Nat.le_refl _) (.cells #[(.func (.func 86) #[] #[]), .int .i64 2, (.func (.func 88) #[] #[])] 112)
            have hkb : KB (w4.alloc (.cells #[(.func (.func 86) #[] #[]), .int .i64 2, (.func (.func 88) #[] #[])] 112)) w4.heap.size (.func (.func 86) #[] #[]) 2 (.func (.func 88) #[] #[]) := World.alloc_heap_new w4 _
            refine hK.out _ _ ⟨hm.below hs3, gr hb1 hs3⟩ (fun hHeld => ?_)
            clear hK
            try simp only [Act.put, List.setIfInBounds_toArray, List.set_cons_zero, List.set_cons_succ]
            refine wpAnyH_done (by kernel_rfl) ?_ _
            refine NoPanic.normal ?_
            clear hHeld hlk
            go_wp2_with fail
            go_meet
            exact ⟨_, rfl, hkb, gr hb1 hs3⟩
          · go_simp
            have hs2 := (Below.refl w3.heap.size w3).alloc (Nat.le_refl _) (.cells #[.nilFunc, .int .i64 0, .nilFunc] 112)
            have hkn : KB (w3.alloc (.cells #[.nilFunc, .int .i64 0, .nilFunc] 112)) w3.heap.size .nilFunc 0 .nilFunc := World.alloc_heap_new w3 _
            have hln : w3.heap.size < (w3.alloc (.cells #[.nilFunc, .int .i64 0, .nilFunc] 112)).heap.size := by simp
            refine hK.out _ _ (hC2.below hs2.drew hC2.lt).cells.2.1 (fun hHeld => ?_)
            clear hK
            try simp only [Act.put, List.setIfInBounds_toArray, List.set_cons_zero, List.set_cons_succ]
            refine wpAnyH_ready (rs := [0]) (by kernel_rfl) (by simp) ?_
            refine AllReadyH.consL (i := 0) rfl (fun K hK => ?_) AllReadyH.nil
            go_simp
            refine (skinds_any _).mono ?_
            rintro e w4 ⟨r, rfl, hm, hb1, hr1⟩
            replace hr1 : w3.heap.size < r := Nat.lt_of_lt_of_le hln hr1
            replace hkn : KB w4 w3.heap.size .nilFunc 0 .nilFunc := (hb1.block _ hln).trans hkn
            replace hb1 := gr hs2.drew hb1
            refine hK.out _ _ (hC2.below hb1 hC2.lt).cells.2.1 (fun hHeld => ?_)
            clear hK hHeld
            refine wpAnyH_more (S' := fun w' => IMap w' r .i64 SKinds ∧ Below w3.heap.size w3 w') (fun w' h => (hC2.below h.2 hC2.lt).cells.2.1) ?_
            have hHeld : IMap w4 r .i64 SKinds ∧ Below w3.heap.size w3 w4 := ⟨hm, hb1⟩
            try simp only [Act.put, List.setIfInBounds_toArray, List.set_cons_zero, List.set_cons_succ]
            refine wpAnyH_takeL (i := 3) (v := ?vhy28) rfl (by kernel_rfl) (by kernel_rfl) (by kernel_rfl) (fun _ _ _ h => h) (Or.inl ⟨by rfl, ?hy28⟩) (by assumption) ?rhy28
            case hy28 => ((intro w hSw; (try dsimp only at hSw); go_simp); try with_reducible rfl)
            try simp only [Act.put, List.setIfInBounds_toArray, List.set_cons_zero, List.set_cons_succ]
            have hkc := hkn.cells
            have hf0 := hkn.frozen 0
            have hf1 := hkn.frozen 1
            have hf2 := hkn.frozen 2
            refine wpAnyH_ready (rs := [5]) (by kernel_rfl) (by simp) ?_
            refine AllReadyH.consL (i := 5) rfl (fun K hK => ?_) AllReadyH.nil
            go_simp
            have hkb := hkn.put (.func (.func 86) #[] #[]) 2 (.func (.func 88) #[] #[])
            have hb2 := ((hb1.setCell (p := ⟨w3.heap.size, 0, none⟩) (Nat.le_refl _) (.func (.func 86) #[] #[])).setCell (p := ⟨w3.heap.size, 1, none⟩) (Nat.le_refl _) (.int .i64 2)).setCell (p := ⟨w3.heap.size, 2, none⟩) (Nat.le_refl _) (.func (.func 88) #[] #[])
            have hm1 := ((hm.kept (grownBy_setCell_at w4 ⟨w3.heap.size, 0, none⟩ (.func (.func 86) #[] #[])) (by simp; omega)).kept (grownBy_setCell_at _ ⟨w3.heap.size, 1, none⟩ (.int .i64 2)) (by simp; omega)).kept (grownBy_setCell_at _ ⟨w3.heap.size, 2, none⟩ (.func (.func 88) #[] #[])) (by simp; omega)
            refine hK.out _ _ ⟨hm1, hb2⟩ (fun hHeld => ?_)
            clear hK
            try simp only [Act.put, List.setIfInBounds_toArray, List.set_cons_zero, List.set_cons_succ]
            refine wpAnyH_done (by kernel_rfl) ?_ _
            refine NoPanic.normal ?_
            clear hHeld hlk hf0 hf1 hf2 hkc
            go_wp2_with fail
            go_meet
            exact ⟨_, rfl, hkb, hb2⟩
        case rest =>
          obtain ⟨B, rfl, hk, hbx⟩ := hcut
          have hb3 := gr b2 hbx
          have hC3 := hC2.below hbx hC2.lt
          have hV3 := hV2.below hbx hV2.lt
          have cc3 := hC3.cells
          have cv3 := hV3.cells
          have ck3 := hk.cells
          clear hbx hC2 hV2 hlk cc2 cv2
          generalize wc = w4 at *
          go_wp2
          go_ret
          exact ⟨_, rfl, .inl ⟨rfl, rfl⟩, hb3⟩
    · rw [if_neg hk0] at hF
      have e0 : (xk == 0) = false := by simpa using hk0
      clear hk0
      by_cases hkt : xk = 2
      · subst hkt
        rw [if_neg (by simp)] at hF
        replace hrm := Lib.hid (hrm.out rfl)
        cases rm
        · obtain rfl : F = 133 := hF
          go_enter Tryz.func34, Tryz.ntmps34
          go_wp2_with fail
          rw [hw1.out]
          clear hw1
          refine (hcl.out _).mono ?_
          rintro e w2 ⟨rfl, g1⟩
          have b1 := gr hb g1
          have hC1 := hC.below g1 hC.lt
          have hV1 := hV.below g1 hV.lt
          have cc1 := hC1.cells
          have cv1 := hV1.cells
          clear g1 hcl hC hV hb
          go_wp2_with fail
          refine (hck.out _).mono ?_
          rintro e w3 ⟨rfl, g2⟩
          have b2 := gr b1 g2
          have hC2 := hC1.below g2 hC1.lt
          have hV2 := hV1.below g2 hV1.lt
          have cc2 := hC2.cells
          have cv2 := hV2.cells
          clear g2 hck hC1 hV1 b1 cc1 cv1
          go_upto_region 6 with fail
          go_cut [6] from 27 to 30 (fun s6 wx => ∃ B : Nat, s6 = .pointer (some ⟨B, 0, none⟩) ∧ KB wx B (.func (.func 86) #[] #[]) 2 (.func (.func 88) #[] #[]) ∧ Below w3.heap.size w3 wx)
          case first =>
            refine wp_region_noPanic ?_
            refine wp_region_held_drew (S := fun w' => w'.cell? ⟨w.heap.size, 1, none⟩ = some (.int .i64 2)) (by kernel_rfl) (hC2.below ((Below.refl _ w3).drew) hC2.lt).cells.2.1 (fun hHeld => ?_)
            refine wpAnyH_takeL (i := 1) (v := ?vhy29) rfl (by kernel_rfl) (by kernel_rfl) (by kernel_rfl) (fun _ _ _ h => h) (Or.inl ⟨by rfl, ?hy29⟩) (by assumption) ?rhy29
            case hy29 => ((intro w hSw; (try dsimp only at hSw); go_simp); try with_reducible rfl)
            try simp only [Act.put, List.setIfInBounds_toArray, List.set_cons_zero, List.set_cons_succ]
            refine wpAnyH_takeL (i := 2) (v := ?vhy30) rfl (by kernel_rfl) (by kernel_rfl) (by kernel_rfl) (fun _ _ _ h => h) (Or.inl ⟨by rfl, ?hy30⟩) (by assumption) ?rhy30
            case hy30 => ((intro w hSw; (try dsimp only at hSw); go_simp); try with_reducible rfl)
            try simp only [Act.put, List.setIfInBounds_toArray, List.set_cons_zero, List.set_cons_succ]
            refine wpAnyH_ready (rs := [0, 4]) (by kernel_rfl) (by simp) ?_
            refine AllReadyH.consL (i := 0) rfl (fun K hK => ?_) (AllReadyH.consL (i := 4) rfl (fun K hK => ?_) AllReadyH.nil)
            · go_simp
              refine (skinds_any _).mono ?_
              rintro e w4 ⟨r, rfl, hm, hb1, hr1⟩
              replace hb1 := gr ((Below.refl _ w3).drew) hb1
              refine hK.out _ _ (hC2.below hb1 hC2.lt).cells.2.1 (fun hHeld => ?_)
              clear hK hHeld
              refine wpAnyH_more (S' := fun w' => IMap w' r .i64 SKinds ∧ Below w3.heap.size w3 w') (fun w' h => (hC2.below h.2 hC2.lt).cells.2.1) ?_
              have hHeld : IMap w4 r .i64 SKinds ∧ Below w3.heap.size w3 w4 := ⟨hm, hb1⟩
              try simp only [Act.put, List.setIfInBounds_toArray, List.set_cons_zero, List.set_cons_succ]
              refine wpAnyH_takeL (i := 3) (v := ?vhy31) rfl (by kernel_rfl) (by kernel_rfl) (by kernel_rfl) (fun _ _ _ h => h) (Or.inl ⟨by rfl, ?hy31⟩) (by assumption) ?rhy31
              case hy31 => ((intro w hSw; (try dsimp only at hSw); go_simp); try with_reducible rfl)
              try simp only [Act.put, List.setIfInBounds_toArray, List.set_cons_zero, List.set_cons_succ]
              refine wpAnyH_ready (rs := [4]) (by kernel_rfl) (by simp) ?_
              refine AllReadyH.consL (i := 4) rfl (fun K hK => ?_) AllReadyH.nil
              go_simp
              have hs2 := (Below.refl w4.heap.size w4).alloc (Nat.le_refl _) (.cells #[.nilFunc, .int .i64 0, .nilFunc] 112)
              refine hK.out _ _ ⟨hm.below hs2, gr hb1 hs2⟩ (fun hHeld => ?_)
              clear hK
              try simp only [Act.put, List.setIfInBounds_toArray, List.set_cons_zero, List.set_cons_succ]
              refine wpAnyH_ready (rs := [5]) (by kernel_rfl) (by simp) ?_
              refine AllReadyH.consL (i := 5) rfl (fun K hK => ?_) AllReadyH.nil
              go_simp
              have hs3 := (Below.refl w4.heap.size w4).alloc (Nat.le_refl _) (.cells #[(.func (.func 86) #[] #[]), .int .i64 2, (.func (.func 88) #[] #[])] 112)
              have hkb : KB (w4.alloc (.cells #[(.func (.func 86) #[] #[]), .int .i64 2, (.func (.func 88) #[] #[])] 112)) w4.heap.size (.func (.func 86) #[] #[]) 2 (.func (.func 88) #[] #[]) := World.alloc_heap_new w4 _
              refine hK.out _ _ ⟨hm.below hs3, gr hb1 hs3⟩ (fun hHeld => ?_)
              clear hK
              try simp only [Act.put, List.setIfInBounds_toArray, List.set_cons_zero, List.set_cons_succ]
              refine wpAnyH_done (by kernel_rfl) ?_ _
              refine NoPanic.normal ?_
              clear hHeld hlk
              go_wp2_with fail
              go_meet
              exact ⟨_, rfl, hkb, gr hb1 hs3⟩
            · go_simp
              have hs2 := (Below.refl w3.heap.size w3).alloc (Nat.le_refl _) (.cells #[.nilFunc, .int .i64 0, .nilFunc] 112)
              have hkn : KB (w3.alloc (.cells #[.nilFunc, .int .i64 0, .nilFunc] 112)) w3.heap.size .nilFunc 0 .nilFunc := World.alloc_heap_new w3 _
              have hln : w3.heap.size < (w3.alloc (.cells #[.nilFunc, .int .i64 0, .nilFunc] 112)).heap.size := by simp
              refine hK.out _ _ (hC2.below hs2.drew hC2.lt).cells.2.1 (fun hHeld => ?_)
              clear hK
              try simp only [Act.put, List.setIfInBounds_toArray, List.set_cons_zero, List.set_cons_succ]
              refine wpAnyH_ready (rs := [0]) (by kernel_rfl) (by simp) ?_
              refine AllReadyH.consL (i := 0) rfl (fun K hK => ?_) AllReadyH.nil
              go_simp
              refine (skinds_any _).mono ?_
              rintro e w4 ⟨r, rfl, hm, hb1, hr1⟩
              replace hr1 : w3.heap.size < r := Nat.lt_of_lt_of_le hln hr1
              replace hkn : KB w4 w3.heap.size .nilFunc 0 .nilFunc := (hb1.block _ hln).trans hkn
              replace hb1 := gr hs2.drew hb1
              refine hK.out _ _ (hC2.below hb1 hC2.lt).cells.2.1 (fun hHeld => ?_)
              clear hK hHeld
              refine wpAnyH_more (S' := fun w' => IMap w' r .i64 SKinds ∧ Below w3.heap.size w3 w') (fun w' h => (hC2.below h.2 hC2.lt).cells.2.1) ?_
              have hHeld : IMap w4 r .i64 SKinds ∧ Below w3.heap.size w3 w4 := ⟨hm, hb1⟩
              try simp only [Act.put, List.setIfInBounds_toArray, List.set_cons_zero, List.set_cons_succ]
              refine wpAnyH_takeL (i := 3) (v := ?vhy32) rfl (by kernel_rfl) (by kernel_rfl) (by kernel_rfl) (fun _ _ _ h => h) (Or.inl ⟨by rfl, ?hy32⟩) (by assumption) ?rhy32
              case hy32 => ((intro w hSw; (try dsimp only at hSw); go_simp); try with_reducible rfl)
              try simp only [Act.put, List.setIfInBounds_toArray, List.set_cons_zero, List.set_cons_succ]
              have hkc := hkn.cells
              have hf0 := hkn.frozen 0
              have hf1 := hkn.frozen 1
              have hf2 := hkn.frozen 2
              refine wpAnyH_ready (rs := [5]) (by kernel_rfl) (by simp) ?_
              refine AllReadyH.consL (i := 5) rfl (fun K hK => ?_) AllReadyH.nil
              go_simp
              have hkb := hkn.put (.func (.func 86) #[] #[]) 2 (.func (.func 88) #[] #[])
              have hb2 := ((hb1.setCell (p := ⟨w3.heap.size, 0, none⟩) (Nat.le_refl _) (.func (.func 86) #[] #[])).setCell (p := ⟨w3.heap.size, 1, none⟩) (Nat.le_refl _) (.int .i64 2)).setCell (p := ⟨w3.heap.size, 2, none⟩) (Nat.le_refl _) (.func (.func 88) #[] #[])
              have hm1 := ((hm.kept (grownBy_setCell_at w4 ⟨w3.heap.size, 0, none⟩ (.func (.func 86) #[] #[])) (by simp; omega)).kept (grownBy_setCell_at _ ⟨w3.heap.size, 1, none⟩ (.int .i64 2)) (by simp; omega)).kept (grownBy_setCell_at _ ⟨w3.heap.size, 2, none⟩ (.func (.func 88) #[] #[])) (by simp; omega)
              refine hK.out _ _ ⟨hm1, hb2⟩ (fun hHeld => ?_)
              clear hK
              try simp only [Act.put, List.setIfInBounds_toArray, List.set_cons_zero, List.set_cons_succ]
              refine wpAnyH_done (by kernel_rfl) ?_ _
              refine NoPanic.normal ?_
              clear hHeld hlk hf0 hf1 hf2 hkc
              go_wp2_with fail
              go_meet
              exact ⟨_, rfl, hkb, hb2⟩
          case rest =>
            obtain ⟨B, rfl, hk, hbx⟩ := hcut
            have hb3 := gr b2 hbx
            have hC3 := hC2.below hbx hC2.lt
            have hV3 := hV2.below hbx hV2.lt
            have cc3 := hC3.cells
            have cv3 := hV3.cells
            have ck3 := hk.cells
            clear hbx hC2 hV2 hlk cc2 cv2
            generalize wc = w4 at *
            have eF := enters_of Tryz.func88 (by kernel_rfl) rfl
            go_wp2_with fail
            refine (hrm.out _).mono ?_
            rintro e w5 ⟨rfl, g5⟩
            have hb5 := gr hb3 g5
            have hC5 := hC3.below g5 hC3.lt
            have cc5 := hC5.cells
            clear hrm g5 cc3 cv3 ck3
            go_wp2
            go_ret
            exact ⟨_, rfl, .inr ⟨by decide, _, rfl, by simp⟩, gr_alloc hb5 _⟩
        · obtain rfl : F = 0 := hF
          go_enter Tryz.func34, Tryz.ntmps34
          go_wp2_with fail
          rw [hw1.out]
          clear hw1
          refine (hcl.out _).mono ?_
          rintro e w2 ⟨rfl, g1⟩
          have b1 := gr hb g1
          have hC1 := hC.below g1 hC.lt
          have hV1 := hV.below g1 hV.lt
          have cc1 := hC1.cells
          have cv1 := hV1.cells
          clear g1 hcl hC hV hb
          go_wp2_with fail
          refine (hck.out _).mono ?_
          rintro e w3 ⟨rfl, g2⟩
          have b2 := gr b1 g2
          have hC2 := hC1.below g2 hC1.lt
          have hV2 := hV1.below g2 hV1.lt
          have cc2 := hC2.cells
          have cv2 := hV2.cells
          clear g2 hck hC1 hV1 b1 cc1 cv1
          go_upto_region 6 with fail
          go_cut [6] from 27 to 30 (fun s6 wx => ∃ B : Nat, s6 = .pointer (some ⟨B, 0, none⟩) ∧ KB wx B (.func (.func 86) #[] #[]) 2 (.func (.func 88) #[] #[]) ∧ Below w3.heap.size w3 wx)
          case first =>
            refine wp_region_noPanic ?_
            refine wp_region_held_drew (S := fun w' => w'.cell? ⟨w.heap.size, 1, none⟩ = some (.int .i64 2)) (by kernel_rfl) (hC2.below ((Below.refl _ w3).drew) hC2.lt).cells.2.1 (fun hHeld => ?_)
            refine wpAnyH_takeL (i := 1) (v := ?vhy33) rfl (by kernel_rfl) (by kernel_rfl) (by kernel_rfl) (fun _ _ _ h => h) (Or.inl ⟨by rfl, ?hy33⟩) (by assumption) ?rhy33
            case hy33 => ((intro w hSw; (try dsimp only at hSw); go_simp); try with_reducible rfl)
            try simp only [Act.put, List.setIfInBounds_toArray, List.set_cons_zero, List.set_cons_succ]
            refine wpAnyH_takeL (i := 2) (v := ?vhy34) rfl (by kernel_rfl) (by kernel_rfl) (by kernel_rfl) (fun _ _ _ h => h) (Or.inl ⟨by rfl, ?hy34⟩) (by assumption) ?rhy34
            case hy34 => ((intro w hSw; (try dsimp only at hSw); go_simp); try with_reducible rfl)
            try simp only [Act.put, List.setIfInBounds_toArray, List.set_cons_zero, List.set_cons_succ]
            refine wpAnyH_ready (rs := [0, 4]) (by kernel_rfl) (by simp) ?_
            refine AllReadyH.consL (i := 0) rfl (fun K hK => ?_) (AllReadyH.consL (i := 4) rfl (fun K hK => ?_) AllReadyH.nil)
            · go_simp
              refine (skinds_any _).mono ?_
              rintro e w4 ⟨r, rfl, hm, hb1, hr1⟩
              replace hb1 := gr ((Below.refl _ w3).drew) hb1
              refine hK.out _ _ (hC2.below hb1 hC2.lt).cells.2.1 (fun hHeld => ?_)
              clear hK hHeld
              refine wpAnyH_more (S' := fun w' => IMap w' r .i64 SKinds ∧ Below w3.heap.size w3 w') (fun w' h => (hC2.below h.2 hC2.lt).cells.2.1) ?_
              have hHeld : IMap w4 r .i64 SKinds ∧ Below w3.heap.size w3 w4 := ⟨hm, hb1⟩
              try simp only [Act.put, List.setIfInBounds_toArray, List.set_cons_zero, List.set_cons_succ]
              refine wpAnyH_takeL (i := 3) (v := ?vhy35) rfl (by kernel_rfl) (by kernel_rfl) (by kernel_rfl) (fun _ _ _ h => h) (Or.inl ⟨by rfl, ?hy35⟩) (by assumption) ?rhy35
              case hy35 => ((intro w hSw; (try dsimp only at hSw); go_simp); try with_reducible rfl)
              try simp only [Act.put, List.setIfInBounds_toArray, List.set_cons_zero, List.set_cons_succ]
              refine wpAnyH_ready (rs := [4]) (by kernel_rfl) (by simp) ?_
              refine AllReadyH.consL (i := 4) rfl (fun K hK => ?_) AllReadyH.nil
              go_simp
              have hs2 := (Below.refl w4.heap.size w4).alloc (Nat.le_refl _) (.cells #[.nilFunc, .int .i64 0, .nilFunc] 112)
              refine hK.out _ _ ⟨hm.below hs2, gr hb1 hs2⟩ (fun hHeld => ?_)
              clear hK
              try simp only [Act.put, List.setIfInBounds_toArray, List.set_cons_zero, List.set_cons_succ]
              refine wpAnyH_ready (rs := [5]) (by kernel_rfl) (by simp) ?_
              refine AllReadyH.consL (i := 5) rfl (fun K hK => ?_) AllReadyH.nil
              go_simp
              have hs3 := (Below.refl w4.heap.size w4).alloc (Nat.le_refl _) (.cells #[(.func (.func 86) #[] #[]), .int .i64 2, (.func (.func 88) #[] #[])] 112)
              have hkb : KB (w4.alloc (.cells #[(.func (.func 86) #[] #[]), .int .i64 2, (.func (.func 88) #[] #[])] 112)) w4.heap.size (.func (.func 86) #[] #[]) 2 (.func (.func 88) #[] #[]) := World.alloc_heap_new w4 _
              refine hK.out _ _ ⟨hm.below hs3, gr hb1 hs3⟩ (fun hHeld => ?_)
              clear hK
              try simp only [Act.put, List.setIfInBounds_toArray, List.set_cons_zero, List.set_cons_succ]
              refine wpAnyH_done (by kernel_rfl) ?_ _
              refine NoPanic.normal ?_
              clear hHeld hlk
              go_wp2_with fail
              go_meet
              exact ⟨_, rfl, hkb, gr hb1 hs3⟩
            · go_simp
              have hs2 := (Below.refl w3.heap.size w3).alloc (Nat.le_refl _) (.cells #[.nilFunc, .int .i64 0, .nilFunc] 112)
              have hkn : KB (w3.alloc (.cells #[.nilFunc, .int .i64 0, .nilFunc] 112)) w3.heap.size .nilFunc 0 .nilFunc := World.alloc_heap_new w3 _
              have hln : w3.heap.size < (w3.alloc (.cells #[.nilFunc, .int .i64 0, .nilFunc] 112)).heap.size := by simp
              refine hK.out _ _ (hC2.below hs2.drew hC2.lt).cells.2.1 (fun hHeld => ?_)
              clear hK
              try simp only [Act.put, List.setIfInBounds_toArray, List.set_cons_zero, List.set_cons_succ]
              refine wpAnyH_ready (rs := [0]) (by kernel_rfl) (by simp) ?_
              refine AllReadyH.consL (i := 0) rfl (fun K hK => ?_) AllReadyH.nil
              go_simp
              refine (skinds_any _).mono ?_
              rintro e w4 ⟨r, rfl, hm, hb1, hr1⟩
              replace hr1 : w3.heap.size < r := Nat.lt_of_lt_of_le hln hr1
              replace hkn : KB w4 w3.heap.size .nilFunc 0 .nilFunc := (hb1.block _ hln).trans hkn
              replace hb1 := gr hs2.drew hb1
              refine hK.out _ _ (hC2.below hb1 hC2.lt).cells.2.1 (fun hHeld => ?_)
              clear hK hHeld
              refine wpAnyH_more (S' := fun w' => IMap w' r .i64 SKinds ∧ Below w3.heap.size w3 w') (fun w' h => (hC2.below h.2 hC2.lt).cells.2.1) ?_
              have hHeld : IMap w4 r .i64 SKinds ∧ Below w3.heap.size w3 w4 := ⟨hm, hb1⟩
              try simp only [Act.put, List.setIfInBounds_toArray, List.set_cons_zero, List.set_cons_succ]
              refine wpAnyH_takeL (i := 3) (v := ?vhy36) rfl (by kernel_rfl) (by kernel_rfl) (by kernel_rfl) (fun _ _ _ h => h) (Or.inl ⟨by rfl, ?hy36⟩) (by assumption) ?rhy36
              case hy36 => ((intro w hSw; (try dsimp only at hSw); go_simp); try with_reducible rfl)
              try simp only [Act.put, List.setIfInBounds_toArray, List.set_cons_zero, List.set_cons_succ]
              have hkc := hkn.cells
              have hf0 := hkn.frozen 0
              have hf1 := hkn.frozen 1
              have hf2 := hkn.frozen 2
              refine wpAnyH_ready (rs := [5]) (by kernel_rfl) (by simp) ?_
              refine AllReadyH.consL (i := 5) rfl (fun K hK => ?_) AllReadyH.nil
              go_simp
              have hkb := hkn.put (.func (.func 86) #[] #[]) 2 (.func (.func 88) #[] #[])
              have hb2 := ((hb1.setCell (p := ⟨w3.heap.size, 0, none⟩) (Nat.le_refl _) (.func (.func 86) #[] #[])).setCell (p := ⟨w3.heap.size, 1, none⟩) (Nat.le_refl _) (.int .i64 2)).setCell (p := ⟨w3.heap.size, 2, none⟩) (Nat.le_refl _) (.func (.func 88) #[] #[])
              have hm1 := ((hm.kept (grownBy_setCell_at w4 ⟨w3.heap.size, 0, none⟩ (.func (.func 86) #[] #[])) (by simp; omega)).kept (grownBy_setCell_at _ ⟨w3.heap.size, 1, none⟩ (.int .i64 2)) (by simp; omega)).kept (grownBy_setCell_at _ ⟨w3.heap.size, 2, none⟩ (.func (.func 88) #[] #[])) (by simp; omega)
              refine hK.out _ _ ⟨hm1, hb2⟩ (fun hHeld => ?_)
              clear hK
              try simp only [Act.put, List.setIfInBounds_toArray, List.set_cons_zero, List.set_cons_succ]
              refine wpAnyH_done (by kernel_rfl) ?_ _
              refine NoPanic.normal ?_
              clear hHeld hlk hf0 hf1 hf2 hkc
              go_wp2_with fail
              go_meet
              exact ⟨_, rfl, hkb, hb2⟩
          case rest =>
            obtain ⟨B, rfl, hk, hbx⟩ := hcut
            have hb3 := gr b2 hbx
            have hC3 := hC2.below hbx hC2.lt
            have hV3 := hV2.below hbx hV2.lt
            have cc3 := hC3.cells
            have cv3 := hV3.cells
            have ck3 := hk.cells
            clear hbx hC2 hV2 hlk cc2 cv2
            generalize wc = w4 at *
            have eF := enters_of Tryz.func88 (by kernel_rfl) rfl
            go_wp2_with fail
            refine (hrm.out _).mono ?_
            rintro e w5 ⟨rfl, g5⟩
            have hb5 := gr hb3 g5
            clear hrm g5 cc3 cv3 ck3
            go_wp2
            go_ret
            exact ⟨_, rfl, .inl ⟨rfl, rfl⟩, hb5⟩
      · rw [if_pos hkt] at hF
        subst hF
        have et : (xk != 2) = true := by simpa using hkt
        clear hrm hkt
        go_enter Tryz.func34, Tryz.ntmps34
        go_wp2_with fail
        rw [hw1.out]
        clear hw1
        refine (hcl.out _).mono ?_
        rintro e w2 ⟨rfl, g1⟩
        have b1 := gr hb g1
        have hC1 := hC.below g1 hC.lt
        have hV1 := hV.below g1 hV.lt
        have cc1 := hC1.cells
        have cv1 := hV1.cells
        clear g1 hcl hC hV hb
        go_wp2_with fail
        refine (hck.out _).mono ?_
        rintro e w3 ⟨rfl, g2⟩
        have b2 := gr b1 g2
        have hC2 := hC1.below g2 hC1.lt
        have hV2 := hV1.below g2 hV1.lt
        have cc2 := hC2.cells
        have cv2 := hV2.cells
        clear g2 hck hC1 hV1 b1 cc1 cv1
        go_upto_region 6 with fail
        go_cut [6] from 27 to 30 (fun s6 wx => ∃ B : Nat, s6 = .pointer (some ⟨B, 0, none⟩) ∧ KB wx B (.func (.func 86) #[] #[]) 2 (.func (.func 88) #[] #[]) ∧ Below w3.heap.size w3 wx)
        case first =>
          refine wp_region_noPanic ?_
          refine wp_region_held_drew (S := fun w' => w'.cell? ⟨w.heap.size, 1, none⟩ = some (.int .i64 2)) (by kernel_rfl) (hC2.below ((Below.refl _ w3).drew) hC2.lt).cells.2.1 (fun hHeld => ?_)
          refine wpAnyH_takeL (i := 1) (v := ?vhy37) rfl (by kernel_rfl) (by kernel_rfl) (by kernel_rfl) (fun _ _ _ h => h) (Or.inl ⟨by rfl, ?hy37⟩) (by assumption) ?rhy37
          case hy37 => ((intro w hSw; (try dsimp only at hSw); go_simp); try with_reducible rfl)
          try simp only [Act.put, List.setIfInBounds_toArray, List.set_cons_zero, List.set_cons_succ]
          refine wpAnyH_takeL (i := 2) (v := ?vhy38) rfl (by kernel_rfl) (by kernel_rfl) (by kernel_rfl) (fun _ _ _ h => h) (Or.inl ⟨by rfl, ?hy38⟩) (by assumption) ?rhy38
          case hy38 => ((intro w hSw; (try dsimp only at hSw); go_simp); try with_reducible rfl)
          try simp only [Act.put, List.setIfInBounds_toArray, List.set_cons_zero, List.set_cons_succ]
          refine wpAnyH_ready (rs := [0, 4]) (by kernel_rfl) (by simp) ?_
          refine AllReadyH.consL (i := 0) rfl (fun K hK => ?_) (AllReadyH.consL (i := 4) rfl (fun K hK => ?_) AllReadyH.nil)
          · go_simp
            refine (skinds_any _).mono ?_
            rintro e w4 ⟨r, rfl, hm, hb1, hr1⟩
            replace hb1 := gr ((Below.refl _ w3).drew) hb1
            refine hK.out _ _ (hC2.below hb1 hC2.lt).cells.2.1 (fun hHeld => ?_)
            clear hK hHeld
            refine wpAnyH_more (S' := fun w' => IMap w' r .i64 SKinds ∧ Below w3.heap.size w3 w') (fun w' h => (hC2.below h.2 hC2.lt).cells.2.1) ?_
            have hHeld : IMap w4 r .i64 SKinds ∧ Below w3.heap.size w3 w4 := ⟨hm, hb1⟩
            try simp only [Act.put, List.setIfInBounds_toArray, List.set_cons_zero, List.set_cons_succ]
            refine wpAnyH_takeL (i := 3) (v := ?vhy39) rfl (by kernel_rfl) (by kernel_rfl) (by kernel_rfl) (fun _ _ _ h => h) (Or.inl ⟨by rfl, ?hy39⟩) (by assumption) ?rhy39
            case hy39 => ((intro w hSw; (try dsimp only at hSw); go_simp); try with_reducible rfl)
            try simp only [Act.put, List.setIfInBounds_toArray, List.set_cons_zero, List.set_cons_succ]
            refine wpAnyH_ready (rs := [4]) (by kernel_rfl) (by simp) ?_
            refine AllReadyH.consL (i := 4) rfl (fun K hK => ?_) AllReadyH.nil
            go_simp
            have hs2 := (Below.refl w4.heap.size w4).alloc (Nat.le_refl _) (.cells #[.nilFunc, .int .i64 0, .nilFunc] 112)
            refine hK.out _ _ ⟨hm.below hs2, gr hb1 hs2⟩ (fun hHeld => ?_)
            clear hK
            try simp only [Act.put, List.setIfInBounds_toArray, List.set_cons_zero, List.set_cons_succ]
            refine wpAnyH_ready (rs := [5]) (by kernel_rfl) (by simp) ?_
            refine AllReadyH.consL (i := 5) rfl (fun K hK => ?_) AllReadyH.nil
            go_simp
            have hs3 := (Below.refl w4.heap.size w4).alloc (Nat.le_refl _) (.cells #[(.func (.func 86) #[] #[]), .int .i64 2, (.func (.func 88) #[] #[])] 112)
            have hkb : KB (w4.alloc (.cells #[(.func (.func 86) #[] #[]), .int .i64 2, (.func (.func 88) #[] #[])] 112)) w4.heap.size (.func (.func 86) #[] #[]) 2 (.func (.func 88) #[] #[]) := World.alloc_heap_new w4 _
            refine hK.out _ _ ⟨hm.below hs3, gr hb1 hs3⟩ (fun hHeld => ?_)
            clear hK
            try simp only [Act.put, List.setIfInBounds_toArray, List.set_cons_zero, List.set_cons_succ]
            refine wpAnyH_done (by kernel_rfl) ?_ _
            refine NoPanic.normal ?_
            clear hHeld hlk
            go_wp2_with fail
            go_meet
            exact ⟨_, rfl, hkb, gr hb1 hs3⟩
          · go_simp
            have hs2 := (Below.refl w3.heap.size w3).alloc (Nat.le_refl _) (.cells #[.nilFunc, .int .i64 0, .nilFunc] 112)
            have hkn : KB (w3.alloc (.cells #[.nilFunc, .int .i64 0, .nilFunc] 112)) w3.heap.size .nilFunc 0 .nilFunc := World.alloc_heap_new w3 _
            have hln : w3.heap.size < (w3.alloc (.cells #[.nilFunc, .int .i64 0, .nilFunc] 112)).heap.size := by simp
            refine hK.out _ _ (hC2.below hs2.drew hC2.lt).cells.2.1 (fun hHeld => ?_)
            clear hK
            try simp only [Act.put, List.setIfInBounds_toArray, List.set_cons_zero, List.set_cons_succ]
            refine wpAnyH_ready (rs := [0]) (by kernel_rfl) (by simp) ?_
            refine AllReadyH.consL (i := 0) rfl (fun K hK => ?_) AllReadyH.nil
            go_simp
            refine (skinds_any _).mono ?_
            rintro e w4 ⟨r, rfl, hm, hb1, hr1⟩
            replace hr1 : w3.heap.size < r := Nat.lt_of_lt_of_le hln hr1
            replace hkn : KB w4 w3.heap.size .nilFunc 0 .nilFunc := (hb1.block _ hln).trans hkn
            replace hb1 := gr hs2.drew hb1
            refine hK.out _ _ (hC2.below hb1 hC2.lt).cells.2.1 (fun hHeld => ?_)
            clear hK hHeld
            refine wpAnyH_more (S' := fun w' => IMap w' r .i64 SKinds ∧ Below w3.heap.size w3 w') (fun w' h => (hC2.below h.2 hC2.lt).cells.2.1) ?_
            have hHeld : IMap w4 r .i64 SKinds ∧ Below w3.heap.size w3 w4 := ⟨hm, hb1⟩
            try simp only [Act.put, List.setIfInBounds_toArray, List.set_cons_zero, List.set_cons_succ]
            refine wpAnyH_takeL (i := 3) (v := ?vhy40) rfl (by kernel_rfl) (by kernel_rfl) (by kernel_rfl) (fun _ _ _ h => h) (Or.inl ⟨by rfl, ?hy40⟩) (by assumption) ?rhy40
            case hy40 => ((intro w hSw; (try dsimp only at hSw); go_simp); try with_reducible rfl)
            try simp only [Act.put, List.setIfInBounds_toArray, List.set_cons_zero, List.set_cons_succ]
            have hkc := hkn.cells
            have hf0 := hkn.frozen 0
            have hf1 := hkn.frozen 1
            have hf2 := hkn.frozen 2
            refine wpAnyH_ready (rs := [5]) (by kernel_rfl) (by simp) ?_
            refine AllReadyH.consL (i := 5) rfl (fun K hK => ?_) AllReadyH.nil
            go_simp
            have hkb := hkn.put (.func (.func 86) #[] #[]) 2 (.func (.func 88) #[] #[])
            have hb2 := ((hb1.setCell (p := ⟨w3.heap.size, 0, none⟩) (Nat.le_refl _) (.func (.func 86) #[] #[])).setCell (p := ⟨w3.heap.size, 1, none⟩) (Nat.le_refl _) (.int .i64 2)).setCell (p := ⟨w3.heap.size, 2, none⟩) (Nat.le_refl _) (.func (.func 88) #[] #[])
            have hm1 := ((hm.kept (grownBy_setCell_at w4 ⟨w3.heap.size, 0, none⟩ (.func (.func 86) #[] #[])) (by simp; omega)).kept (grownBy_setCell_at _ ⟨w3.heap.size, 1, none⟩ (.int .i64 2)) (by simp; omega)).kept (grownBy_setCell_at _ ⟨w3.heap.size, 2, none⟩ (.func (.func 88) #[] #[])) (by simp; omega)
            refine hK.out _ _ ⟨hm1, hb2⟩ (fun hHeld => ?_)
            clear hK
            try simp only [Act.put, List.setIfInBounds_toArray, List.set_cons_zero, List.set_cons_succ]
            refine wpAnyH_done (by kernel_rfl) ?_ _
            refine NoPanic.normal ?_
            clear hHeld hlk hf0 hf1 hf2 hkc
            go_wp2_with fail
            go_meet
            exact ⟨_, rfl, hkb, hb2⟩
        case rest =>
          obtain ⟨B, rfl, hk, hbx⟩ := hcut
          have hb3 := gr b2 hbx
          have hC3 := hC2.below hbx hC2.lt
          have hV3 := hV2.below hbx hV2.lt
          have cc3 := hC3.cells
          have cv3 := hV3.cells
          have ck3 := hk.cells
          clear hbx hC2 hV2 hlk cc2 cv2
          generalize wc = w4 at *
          go_wp2
          go_ret
          exact ⟨_, rfl, .inr ⟨by decide, _, rfl, by simp⟩, gr_alloc hb3 _⟩
  · rw [if_pos h1] at hF
    subst hF
    have hd : ((F : Int) != 0) = true := by simp; omega
    clear hrm hlk
    go_enter Tryz.func34, Tryz.ntmps34
    go_wp2_with fail
    rw [hw1.out]
    clear hw1
    refine (hcl.out _).mono ?_
    rintro e w2 ⟨rfl, g1⟩
    have b1 := gr hb g1
    have hC1 := hC.below g1 hC.lt
    have hV1 := hV.below g1 hV.lt
    have cc1 := hC1.cells
    have cv1 := hV1.cells
    clear g1 hcl hC hV hb
    go_wp2_with fail
    refine (hck.out _).mono ?_
    rintro e w3 ⟨rfl, g2⟩
    have b2 := gr b1 g2
    have hC2 := hC1.below g2 hC1.lt
    have hV2 := hV1.below g2 hV1.lt
    have cc2 := hC2.cells
    have cv2 := hV2.cells
    clear g2 hck hC1 hV1 b1 cc1 cv1
    go_wp2
    go_ret
    exact ⟨_, rfl, .inr ⟨h1, _, rfl, by simp⟩, gr_alloc b2 _⟩
set_option maxRecDepth 100000 in
set_option maxHeartbeats 8000000 in
theorem fits_3 (n : List UInt8) (z : Int) (nl : Bool) (xk xi xu : Int) (xs : List UInt8) (w : World) (hl : n.length ≤ 100000) (hsl : xs.length ≤ maxLen) (hcv : colV ⟨n, 3, z, nl⟩ = true) (hu0 : 0 ≤ xu) (hu1 : xu ≤ 18446744073709551615) :
    Calls Tryz.prog 34 #[.agg #[.string (strL n), .int .i64 3, .int .i64 z, .bool nl], .agg #[.int .i64 xk, .int .i64 xi, .int .u64 xu, .string (strL xs)]] w (FitsP w (fitV ⟨n, 3, z, nl⟩ ⟨xk, xi, xu, xs⟩)) := by
  have hcl := fun W => sright_any ⟨n, 3, z, nl⟩ W hl
  have hck := fun W => Check_any xk xi xu (strL xs) W (by rw [strL_size]; exact hsl)
  have hC := (CBox.new w ⟨n, 3, z, nl⟩).below ((Below.refl _ _).alloc (Nat.le_refl _) (.cells #[.int .i64 xk, .int .i64 xi, .int .u64 xu, .string (strL xs)] 28)) (by simp)
  have hV := VBox.new (w.alloc (.cells #[.string (strL n), .int .i64 3, .int .i64 z, .bool nl] 24)) xk xi xu (strL xs)
  rw [World.size_alloc] at hV
  have hb : Below w.heap.size w ((w.alloc (.cells #[.string (strL n), .int .i64 3, .int .i64 z, .bool nl] 24)).alloc (.cells #[.int .i64 xk, .int .i64 xi, .int .u64 xu, .string (strL xs)] 28)) := ((Below.refl _ w).alloc (Nat.le_refl _) _).alloc (by simp) _
  simp only [Cl.val, valV] at hcl hck
  obtain ⟨w1, hw1⟩ : ∃ w1, ((w.alloc (.cells #[.string (strL n), .int .i64 3, .int .i64 z, .bool nl] 24)).alloc (.cells #[.int .i64 xk, .int .i64 xi, .int .u64 xu, .string (strL xs)] 28)) = w1 := ⟨_, rfl⟩
  rw [hw1] at hC hV hb
  replace hw1 := Lib.hid hw1
  rw [hcv] at hcl
  have hF : fitV ⟨n, 3, z, nl⟩ ⟨xk, xi, xu, xs⟩ = if chkV xk xi xu (strL xs) ≠ 0 then chkV xk xi xu (strL xs) else if xk = 0 then (if nl then 0 else 131) else if xk ≠ 3 then 132 else if roomV z ⟨xk, xi, xu, xs⟩ then 0 else 133 := by
    unfold fitV
    rw [hcv, if_neg (by simp)]
    rfl
  have hrm : xk = 3 → ∀ W, Calls Tryz.prog 90 #[.int .i64 z, .agg #[.int .i64 xk, .int .i64 xi, .int .u64 xu, .string (strL xs)]] W fun e W' => e = .returned (.bool (roomV z ⟨xk, xi, xu, xs⟩)) ∧ Below W.heap.size W W' := fun hk W => by
    subst hk
    exact room4_any z ⟨3, xi, xu, xs⟩ W
  have hlk : ∀ w' r, IMap w' r .i64 SKinds → (Instr.lookup 113 (.map (some r)) (.int .i64 3) false).run Tryz.prog w' = .ok (.agg #[.func (.func 89) #[] #[], .int .i64 3, .func (.func 90) #[] #[]]) w' := fun w' r hm =>
    hm.look1 _ _ _ Tryz.underlying113 Tryz.underlying22 3 2 _ rfl
  generalize chkV xk xi xu (strL xs) = z1 at *
  generalize roomV z ⟨xk, xi, xu, xs⟩ = rm at *
  generalize fitV ⟨n, 3, z, nl⟩ ⟨xk, xi, xu, xs⟩ = F at *
  replace hcl := Lib.hid hcl
  replace hck := Lib.hid hck
  replace hrm := Lib.hid hrm
  clear hcv hl hsl hu0 hu1
  by_cases h1 : z1 = 0
  · subst h1
    rw [if_neg (by simp)] at hF
    by_cases hk0 : xk = 0
    · subst hk0
      rw [if_pos rfl] at hF
      clear hrm
      cases nl
      · obtain rfl : F = 131 := hF
        go_enter Tryz.func34, Tryz.ntmps34
        go_wp2_with fail
        rw [hw1.out]
        clear hw1
        refine (hcl.out _).mono ?_
        rintro e w2 ⟨rfl, g1⟩
        have b1 := gr hb g1
        have hC1 := hC.below g1 hC.lt
        have hV1 := hV.below g1 hV.lt
        have cc1 := hC1.cells
        have cv1 := hV1.cells
        clear g1 hcl hC hV hb
        go_wp2_with fail
        refine (hck.out _).mono ?_
        rintro e w3 ⟨rfl, g2⟩
        have b2 := gr b1 g2
        have hC2 := hC1.below g2 hC1.lt
        have hV2 := hV1.below g2 hV1.lt
        have cc2 := hC2.cells
        have cv2 := hV2.cells
        clear g2 hck hC1 hV1 b1 cc1 cv1
        go_upto_region 6 with fail
        go_cut [6] from 27 to 30 (fun s6 wx => ∃ B : Nat, s6 = .pointer (some ⟨B, 0, none⟩) ∧ KB wx B (.func (.func 89) #[] #[]) 3 (.func (.func 90) #[] #[]) ∧ Below w3.heap.size w3 wx)
        case first =>
          refine wp_region_noPanic ?_
          refine wp_region_held_drew (S := fun w' => w'.cell? ⟨w.heap.size, 1, none⟩ = some (.int .i64 3)) (by kernel_rfl) (hC2.below ((Below.refl _ w3).drew) hC2.lt).cells.2.1 (fun hHeld => ?_)
          refine wpAnyH_takeL (i := 1) (v := ?vhy41) rfl (by kernel_rfl) (by kernel_rfl) (by kernel_rfl) (fun _ _ _ h => h) (Or.inl ⟨by rfl, ?hy41⟩) (by assumption) ?rhy41
          case hy41 => ((intro w hSw; (try dsimp only at hSw); go_simp); try with_reducible rfl)
          try simp only [Act.put, List.setIfInBounds_toArray, List.set_cons_zero, List.set_cons_succ]
          refine wpAnyH_takeL (i := 2) (v := ?vhy42) rfl (by kernel_rfl) (by kernel_rfl) (by kernel_rfl) (fun _ _ _ h => h) (Or.inl ⟨by rfl, ?hy42⟩) (by assumption) ?rhy42
          case hy42 => ((intro w hSw; (try dsimp only at hSw); go_simp); try with_reducible rfl)
          try simp only [Act.put, List.setIfInBounds_toArray, List.set_cons_zero, List.set_cons_succ]
          refine wpAnyH_ready (rs := [0, 4]) (by kernel_rfl) (by simp) ?_
          refine AllReadyH.consL (i := 0) rfl (fun K hK => ?_) (AllReadyH.consL (i := 4) rfl (fun K hK => ?_) AllReadyH.nil)
          · go_simp
            refine (skinds_any _).mono ?_
            rintro e w4 ⟨r, rfl, hm, hb1, hr1⟩
            replace hb1 := gr ((Below.refl _ w3).drew) hb1
            refine hK.out _ _ (hC2.below hb1 hC2.lt).cells.2.1 (fun hHeld => ?_)
            clear hK hHeld
            refine wpAnyH_more (S' := fun w' => IMap w' r .i64 SKinds ∧ Below w3.heap.size w3 w') (fun w' h => (hC2.below h.2 hC2.lt).cells.2.1) ?_
            have hHeld : IMap w4 r .i64 SKinds ∧ Below w3.heap.size w3 w4 := ⟨hm, hb1⟩
            try simp only [Act.put, List.setIfInBounds_toArray, List.set_cons_zero, List.set_cons_succ]
            refine wpAnyH_takeL (i := 3) (v := ?vhy43) rfl (by kernel_rfl) (by kernel_rfl) (by kernel_rfl) (fun _ _ _ h => h) (Or.inl ⟨by rfl, ?hy43⟩) (by assumption) ?rhy43
            case hy43 => ((intro w hSw; (try dsimp only at hSw); go_simp); try with_reducible rfl)
            try simp only [Act.put, List.setIfInBounds_toArray, List.set_cons_zero, List.set_cons_succ]
            refine wpAnyH_ready (rs := [4]) (by kernel_rfl) (by simp) ?_
            refine AllReadyH.consL (i := 4) rfl (fun K hK => ?_) AllReadyH.nil
            go_simp
            have hs2 := (Below.refl w4.heap.size w4).alloc (Nat.le_refl _) (.cells #[.nilFunc, .int .i64 0, .nilFunc] 112)
            refine hK.out _ _ ⟨hm.below hs2, gr hb1 hs2⟩ (fun hHeld => ?_)
            clear hK
            try simp only [Act.put, List.setIfInBounds_toArray, List.set_cons_zero, List.set_cons_succ]
            refine wpAnyH_ready (rs := [5]) (by kernel_rfl) (by simp) ?_
            refine AllReadyH.consL (i := 5) rfl (fun K hK => ?_) AllReadyH.nil
            go_simp
            have hs3 := (Below.refl w4.heap.size w4).alloc (Nat.le_refl _) (.cells #[(.func (.func 89) #[] #[]), .int .i64 3, (.func (.func 90) #[] #[])] 112)
            have hkb : KB (w4.alloc (.cells #[(.func (.func 89) #[] #[]), .int .i64 3, (.func (.func 90) #[] #[])] 112)) w4.heap.size (.func (.func 89) #[] #[]) 3 (.func (.func 90) #[] #[]) := World.alloc_heap_new w4 _
            refine hK.out _ _ ⟨hm.below hs3, gr hb1 hs3⟩ (fun hHeld => ?_)
            clear hK
            try simp only [Act.put, List.setIfInBounds_toArray, List.set_cons_zero, List.set_cons_succ]
            refine wpAnyH_done (by kernel_rfl) ?_ _
            refine NoPanic.normal ?_
            clear hHeld hlk
            go_wp2_with fail
            go_meet
            exact ⟨_, rfl, hkb, gr hb1 hs3⟩
          · go_simp
            have hs2 := (Below.refl w3.heap.size w3).alloc (Nat.le_refl _) (.cells #[.nilFunc, .int .i64 0, .nilFunc] 112)
            have hkn : KB (w3.alloc (.cells #[.nilFunc, .int .i64 0, .nilFunc] 112)) w3.heap.size .nilFunc 0 .nilFunc := World.alloc_heap_new w3 _
            have hln : w3.heap.size < (w3.alloc (.cells #[.nilFunc, .int .i64 0, .nilFunc] 112)).heap.size := by simp
            refine hK.out _ _ (hC2.below hs2.drew hC2.lt).cells.2.1 (fun hHeld => ?_)
            clear hK
            try simp only [Act.put, List.setIfInBounds_toArray, List.set_cons_zero, List.set_cons_succ]
            refine wpAnyH_ready (rs := [0]) (by kernel_rfl) (by simp) ?_
            refine AllReadyH.consL (i := 0) rfl (fun K hK => ?_) AllReadyH.nil
            go_simp
            refine (skinds_any _).mono ?_
            rintro e w4 ⟨r, rfl, hm, hb1, hr1⟩
            replace hr1 : w3.heap.size < r := Nat.lt_of_lt_of_le hln hr1
            replace hkn : KB w4 w3.heap.size .nilFunc 0 .nilFunc := (hb1.block _ hln).trans hkn
            replace hb1 := gr hs2.drew hb1
            refine hK.out _ _ (hC2.below hb1 hC2.lt).cells.2.1 (fun hHeld => ?_)
            clear hK hHeld
            refine wpAnyH_more (S' := fun w' => IMap w' r .i64 SKinds ∧ Below w3.heap.size w3 w') (fun w' h => (hC2.below h.2 hC2.lt).cells.2.1) ?_
            have hHeld : IMap w4 r .i64 SKinds ∧ Below w3.heap.size w3 w4 := ⟨hm, hb1⟩
            try simp only [Act.put, List.setIfInBounds_toArray, List.set_cons_zero, List.set_cons_succ]
            refine wpAnyH_takeL (i := 3) (v := ?vhy44) rfl (by kernel_rfl) (by kernel_rfl) (by kernel_rfl) (fun _ _ _ h => h) (Or.inl ⟨by rfl, ?hy44⟩) (by assumption) ?rhy44
            case hy44 => ((intro w hSw; (try dsimp only at hSw); go_simp); try with_reducible rfl)
            try simp only [Act.put, List.setIfInBounds_toArray, List.set_cons_zero, List.set_cons_succ]
            have hkc := hkn.cells
            have hf0 := hkn.frozen 0
            have hf1 := hkn.frozen 1
            have hf2 := hkn.frozen 2
            refine wpAnyH_ready (rs := [5]) (by kernel_rfl) (by simp) ?_
            refine AllReadyH.consL (i := 5) rfl (fun K hK => ?_) AllReadyH.nil
            go_simp
            have hkb := hkn.put (.func (.func 89) #[] #[]) 3 (.func (.func 90) #[] #[])
            have hb2 := ((hb1.setCell (p := ⟨w3.heap.size, 0, none⟩) (Nat.le_refl _) (.func (.func 89) #[] #[])).setCell (p := ⟨w3.heap.size, 1, none⟩) (Nat.le_refl _) (.int .i64 3)).setCell (p := ⟨w3.heap.size, 2, none⟩) (Nat.le_refl _) (.func (.func 90) #[] #[])
            have hm1 := ((hm.kept (grownBy_setCell_at w4 ⟨w3.heap.size, 0, none⟩ (.func (.func 89) #[] #[])) (by simp; omega)).kept (grownBy_setCell_at _ ⟨w3.heap.size, 1, none⟩ (.int .i64 3)) (by simp; omega)).kept (grownBy_setCell_at _ ⟨w3.heap.size, 2, none⟩ (.func (.func 90) #[] #[])) (by simp; omega)
            refine hK.out _ _ ⟨hm1, hb2⟩ (fun hHeld => ?_)
            clear hK
            try simp only [Act.put, List.setIfInBounds_toArray, List.set_cons_zero, List.set_cons_succ]
            refine wpAnyH_done (by kernel_rfl) ?_ _
            refine NoPanic.normal ?_
            clear hHeld hlk hf0 hf1 hf2 hkc
            go_wp2_with fail
            go_meet
            exact ⟨_, rfl, hkb, hb2⟩
        case rest =>
          obtain ⟨B, rfl, hk, hbx⟩ := hcut
          have hb3 := gr b2 hbx
          have hC3 := hC2.below hbx hC2.lt
          have hV3 := hV2.below hbx hV2.lt
          have cc3 := hC3.cells
          have cv3 := hV3.cells
          have ck3 := hk.cells
          clear hbx hC2 hV2 hlk cc2 cv2
          generalize wc = w4 at *
          go_wp2
          go_ret
          exact ⟨_, rfl, .inr ⟨by decide, _, rfl, by simp⟩, gr_alloc hb3 _⟩
      · obtain rfl : F = 0 := hF
        go_enter Tryz.func34, Tryz.ntmps34
        go_wp2_with fail
        rw [hw1.out]
        clear hw1
        refine (hcl.out _).mono ?_
        rintro e w2 ⟨rfl, g1⟩
        have b1 := gr hb g1
        have hC1 := hC.below g1 hC.lt
        have hV1 := hV.below g1 hV.lt
        have cc1 := hC1.cells
        have cv1 := hV1.cells
        clear g1 hcl hC hV hb
        go_wp2_with fail
        refine (hck.out _).mono ?_
        rintro e w3 ⟨rfl, g2⟩
        have b2 := gr b1 g2
        have hC2 := hC1.below g2 hC1.lt
        have hV2 := hV1.below g2 hV1.lt
        have cc2 := hC2.cells
        have cv2 := hV2.cells
        clear g2 hck hC1 hV1 b1 cc1 cv1
        go_upto_region 6 with fail
        go_cut [6] from 27 to 30 (fun s6 wx => ∃ B : Nat, s6 = .pointer (some ⟨B, 0, none⟩) ∧ KB wx B (.func (.func 89) #[] #[]) 3 (.func (.func 90) #[] #[]) ∧ Below w3.heap.size w3 wx)
        case first =>
          refine wp_region_noPanic ?_
          refine wp_region_held_drew (S := fun w' => w'.cell? ⟨w.heap.size, 1, none⟩ = some (.int .i64 3)) (by kernel_rfl) (hC2.below ((Below.refl _ w3).drew) hC2.lt).cells.2.1 (fun hHeld => ?_)
          refine wpAnyH_takeL (i := 1) (v := ?vhy45) rfl (by kernel_rfl) (by kernel_rfl) (by kernel_rfl) (fun _ _ _ h => h) (Or.inl ⟨by rfl, ?hy45⟩) (by assumption) ?rhy45
          case hy45 => ((intro w hSw; (try dsimp only at hSw); go_simp); try with_reducible rfl)
          try simp only [Act.put, List.setIfInBounds_toArray, List.set_cons_zero, List.set_cons_succ]
          refine wpAnyH_takeL (i := 2) (v := ?vhy46) rfl (by kernel_rfl) (by kernel_rfl) (by kernel_rfl) (fun _ _ _ h => h) (Or.inl ⟨by rfl, ?hy46⟩) (by assumption) ?rhy46
          case hy46 => ((intro w hSw; (try dsimp only at hSw); go_simp); try with_reducible rfl)
          try simp only [Act.put, List.setIfInBounds_toArray, List.set_cons_zero, List.set_cons_succ]
          refine wpAnyH_ready (rs := [0, 4]) (by kernel_rfl) (by simp) ?_
          refine AllReadyH.consL (i := 0) rfl (fun K hK => ?_) (AllReadyH.consL (i := 4) rfl (fun K hK => ?_) AllReadyH.nil)
          · go_simp
            refine (skinds_any _).mono ?_
            rintro e w4 ⟨r, rfl, hm, hb1, hr1⟩
            replace hb1 := gr ((Below.refl _ w3).drew) hb1
            refine hK.out _ _ (hC2.below hb1 hC2.lt).cells.2.1 (fun hHeld => ?_)
            clear hK hHeld
            refine wpAnyH_more (S' := fun w' => IMap w' r .i64 SKinds ∧ Below w3.heap.size w3 w') (fun w' h => (hC2.below h.2 hC2.lt).cells.2.1) ?_
            have hHeld : IMap w4 r .i64 SKinds ∧ Below w3.heap.size w3 w4 := ⟨hm, hb1⟩
            try simp only [Act.put, List.setIfInBounds_toArray, List.set_cons_zero, List.set_cons_succ]
            refine wpAnyH_takeL (i := 3) (v := ?vhy47) rfl (by kernel_rfl) (by kernel_rfl) (by kernel_rfl) (fun _ _ _ h => h) (Or.inl ⟨by rfl, ?hy47⟩) (by assumption) ?rhy47
            case hy47 => ((intro w hSw; (try dsimp only at hSw); go_simp); try with_reducible rfl)
            try simp only [Act.put, List.setIfInBounds_toArray, List.set_cons_zero, List.set_cons_succ]
            refine wpAnyH_ready (rs := [4]) (by kernel_rfl) (by simp) ?_
            refine AllReadyH.consL (i := 4) rfl (fun K hK => ?_) AllReadyH.nil
            go_simp
            have hs2 := (Below.refl w4.heap.size w4).alloc (Nat.le_refl _) (.cells #[.nilFunc, .int .i64 0, .nilFunc] 112)
            refine hK.out _ _ ⟨hm.below hs2, gr hb1 hs2⟩ (fun hHeld => ?_)
            clear hK
            try simp only [Act.put, List.setIfInBounds_toArray, List.set_cons_zero, List.set_cons_succ]
            refine wpAnyH_ready (rs := [5]) (by kernel_rfl) (by simp) ?_
            refine AllReadyH.consL (i := 5) rfl (fun K hK => ?_) AllReadyH.nil
            go_simp
            have hs3 := (Below.refl w4.heap.size w4).alloc (Nat.le_refl _) (.cells #[(.func (.func 89) #[] #[]), .int .i64 3, (.func (.func 90) #[] #[])] 112)
            have hkb : KB (w4.alloc (.cells #[(.func (.func 89) #[] #[]), .int .i64 3, (.func (.func 90) #[] #[])] 112)) w4.heap.size (.func (.func 89) #[] #[]) 3 (.func (.func 90) #[] #[]) := World.alloc_heap_new w4 _
            refine hK.out _ _ ⟨hm.below hs3, gr hb1 hs3⟩ (fun hHeld => ?_)
            clear hK
            try simp only [Act.put, List.setIfInBounds_toArray, List.set_cons_zero, List.set_cons_succ]
            refine wpAnyH_done (by kernel_rfl) ?_ _
            refine NoPanic.normal ?_
            clear hHeld hlk
            go_wp2_with fail
            go_meet
            exact ⟨_, rfl, hkb, gr hb1 hs3⟩
          · go_simp
            have hs2 := (Below.refl w3.heap.size w3).alloc (Nat.le_refl _) (.cells #[.nilFunc, .int .i64 0, .nilFunc] 112)
            have hkn : KB (w3.alloc (.cells #[.nilFunc, .int .i64 0, .nilFunc] 112)) w3.heap.size .nilFunc 0 .nilFunc := World.alloc_heap_new w3 _
            have hln : w3.heap.size < (w3.alloc (.cells #[.nilFunc, .int .i64 0, .nilFunc] 112)).heap.size := by simp
            refine hK.out _ _ (hC2.below hs2.drew hC2.lt).cells.2.1 (fun hHeld => ?_)
            clear hK
            try simp only [Act.put, List.setIfInBounds_toArray, List.set_cons_zero, List.set_cons_succ]
            refine wpAnyH_ready (rs := [0]) (by kernel_rfl) (by simp) ?_
            refine AllReadyH.consL (i := 0) rfl (fun K hK => ?_) AllReadyH.nil
            go_simp
            refine (skinds_any _).mono ?_
            rintro e w4 ⟨r, rfl, hm, hb1, hr1⟩
            replace hr1 : w3.heap.size < r := Nat.lt_of_lt_of_le hln hr1
            replace hkn : KB w4 w3.heap.size .nilFunc 0 .nilFunc := (hb1.block _ hln).trans hkn
            replace hb1 := gr hs2.drew hb1
            refine hK.out _ _ (hC2.below hb1 hC2.lt).cells.2.1 (fun hHeld => ?_)
            clear hK hHeld
            refine wpAnyH_more (S' := fun w' => IMap w' r .i64 SKinds ∧ Below w3.heap.size w3 w') (fun w' h => (hC2.below h.2 hC2.lt).cells.2.1) ?_
            have hHeld : IMap w4 r .i64 SKinds ∧ Below w3.heap.size w3 w4 := ⟨hm, hb1⟩
            try simp only [Act.put, List.setIfInBounds_toArray, List.set_cons_zero, List.set_cons_succ]
            refine wpAnyH_takeL (i := 3) (v := ?vhy48) rfl (by kernel_rfl) (by kernel_rfl) (by kernel_rfl) (fun _ _ _ h => h) (Or.inl ⟨by rfl, ?hy48⟩) (by assumption) ?rhy48
            case hy48 => ((intro w hSw; (try dsimp only at hSw); go_simp); try with_reducible rfl)
            try simp only [Act.put, List.setIfInBounds_toArray, List.set_cons_zero, List.set_cons_succ]
            have hkc := hkn.cells
            have hf0 := hkn.frozen 0
            have hf1 := hkn.frozen 1
            have hf2 := hkn.frozen 2
            refine wpAnyH_ready (rs := [5]) (by kernel_rfl) (by simp) ?_
            refine AllReadyH.consL (i := 5) rfl (fun K hK => ?_) AllReadyH.nil
            go_simp
            have hkb := hkn.put (.func (.func 89) #[] #[]) 3 (.func (.func 90) #[] #[])
            have hb2 := ((hb1.setCell (p := ⟨w3.heap.size, 0, none⟩) (Nat.le_refl _) (.func (.func 89) #[] #[])).setCell (p := ⟨w3.heap.size, 1, none⟩) (Nat.le_refl _) (.int .i64 3)).setCell (p := ⟨w3.heap.size, 2, none⟩) (Nat.le_refl _) (.func (.func 90) #[] #[])
            have hm1 := ((hm.kept (grownBy_setCell_at w4 ⟨w3.heap.size, 0, none⟩ (.func (.func 89) #[] #[])) (by simp; omega)).kept (grownBy_setCell_at _ ⟨w3.heap.size, 1, none⟩ (.int .i64 3)) (by simp; omega)).kept (grownBy_setCell_at _ ⟨w3.heap.size, 2, none⟩ (.func (.func 90) #[] #[])) (by simp; omega)
            refine hK.out _ _ ⟨hm1, hb2⟩ (fun hHeld => ?_)
            clear hK
            try simp only [Act.put, List.setIfInBounds_toArray, List.set_cons_zero, List.set_cons_succ]
            refine wpAnyH_done (by kernel_rfl) ?_ _
            refine NoPanic.normal ?_
            clear hHeld hlk hf0 hf1 hf2 hkc
            go_wp2_with fail
            go_meet
            exact ⟨_, rfl, hkb, hb2⟩
        case rest =>
          obtain ⟨B, rfl, hk, hbx⟩ := hcut
          have hb3 := gr b2 hbx
          have hC3 := hC2.below hbx hC2.lt
          have hV3 := hV2.below hbx hV2.lt
          have cc3 := hC3.cells
          have cv3 := hV3.cells
          have ck3 := hk.cells
          clear hbx hC2 hV2 hlk cc2 cv2
          generalize wc = w4 at *
          go_wp2
          go_ret
          exact ⟨_, rfl, .inl ⟨rfl, rfl⟩, hb3⟩
    · rw [if_neg hk0] at hF
      have e0 : (xk == 0) = false := by simpa using hk0
      clear hk0
      by_cases hkt : xk = 3
      · subst hkt
        rw [if_neg (by simp)] at hF
        replace hrm := Lib.hid (hrm.out rfl)
        cases rm
        · obtain rfl : F = 133 := hF
          go_enter Tryz.func34, Tryz.ntmps34
          go_wp2_with fail
          rw [hw1.out]
          clear hw1
          refine (hcl.out _).mono ?_
          rintro e w2 ⟨rfl, g1⟩
          have b1 := gr hb g1
          have hC1 := hC.below g1 hC.lt
          have hV1 := hV.below g1 hV.lt
          have cc1 := hC1.cells
          have cv1 := hV1.cells
          clear g1 hcl hC hV hb
          go_wp2_with fail
          refine (hck.out _).mono ?_
          rintro e w3 ⟨rfl, g2⟩
          have b2 := gr b1 g2
          have hC2 := hC1.below g2 hC1.lt
          have hV2 := hV1.below g2 hV1.lt
          have cc2 := hC2.cells
          have cv2 := hV2.cells
          clear g2 hck hC1 hV1 b1 cc1 cv1
          go_upto_region 6 with fail
          go_cut [6] from 27 to 30 (fun s6 wx => ∃ B : Nat, s6 = .pointer (some ⟨B, 0, none⟩) ∧ KB wx B (.func (.func 89) #[] #[]) 3 (.func (.func 90) #[] #[]) ∧ Below w3.heap.size w3 wx)
          case first =>
            refine wp_region_noPanic ?_
            refine wp_region_held_drew (S := fun w' => w'.cell? ⟨w.heap.size, 1, none⟩ = some (.int .i64 3)) (by kernel_rfl) (hC2.below ((Below.refl _ w3).drew) hC2.lt).cells.2.1 (fun hHeld => ?_)
            refine wpAnyH_takeL (i := 1) (v := ?vhy49) rfl (by kernel_rfl) (by kernel_rfl) (by kernel_rfl) (fun _ _ _ h => h) (Or.inl ⟨by rfl, ?hy49⟩) (by assumption) ?rhy49
            case hy49 => ((intro w hSw; (try dsimp only at hSw); go_simp); try with_reducible rfl)
            try simp only [Act.put, List.setIfInBounds_toArray, List.set_cons_zero, List.set_cons_succ]
            refine wpAnyH_takeL (i := 2) (v := ?vhy50) rfl (by kernel_rfl) (by kernel_rfl) (by kernel_rfl) (fun _ _ _ h => h) (Or.inl ⟨by rfl, ?hy50⟩) (by assumption) ?rhy50
            case hy50 => ((intro w hSw; (try dsimp only at hSw); go_simp); try with_reducible rfl)
            try simp only [Act.put, List.setIfInBounds_toArray, List.set_cons_zero, List.set_cons_succ]
            refine wpAnyH_ready (rs := [0, 4]) (by kernel_rfl) (by simp) ?_
            refine AllReadyH.consL (i := 0) rfl (fun K hK => ?_) (AllReadyH.consL (i := 4) rfl (fun K hK => ?_) AllReadyH.nil)
            · go_simp
              refine (skinds_any _).mono ?_
              rintro e w4 ⟨r, rfl, hm, hb1, hr1⟩
              replace hb1 := gr ((Below.refl _ w3).drew) hb1
              refine hK.out _ _ (hC2.below hb1 hC2.lt).cells.2.1 (fun hHeld => ?_)
              clear hK hHeld
              refine wpAnyH_more (S' := fun w' => IMap w' r .i64 SKinds ∧ Below w3.heap.size w3 w') (fun w' h => (hC2.below h.2 hC2.lt).cells.2.1) ?_
              have hHeld : IMap w4 r .i64 SKinds ∧ Below w3.heap.size w3 w4 := ⟨hm, hb1⟩
              try simp only [Act.put, List.setIfInBounds_toArray, List.set_cons_zero, List.set_cons_succ]
              refine wpAnyH_takeL (i := 3) (v := ?vhy51) rfl (by kernel_rfl) (by kernel_rfl) (by kernel_rfl) (fun _ _ _ h => h) (Or.inl ⟨by rfl, ?hy51⟩) (by assumption) ?rhy51
              case hy51 => ((intro w hSw; (try dsimp only at hSw); go_simp); try with_reducible rfl)
              try simp only [Act.put, List.setIfInBounds_toArray, List.set_cons_zero, List.set_cons_succ]
              refine wpAnyH_ready (rs := [4]) (by kernel_rfl) (by simp) ?_
              refine AllReadyH.consL (i := 4) rfl (fun K hK => ?_) AllReadyH.nil
              go_simp
              have hs2 := (Below.refl w4.heap.size w4).alloc (Nat.le_refl _) (.cells #[.nilFunc, .int .i64 0, .nilFunc] 112)
              refine hK.out _ _ ⟨hm.below hs2, gr hb1 hs2⟩ (fun hHeld => ?_)
              clear hK
              try simp only [Act.put, List.setIfInBounds_toArray, List.set_cons_zero, List.set_cons_succ]
              refine wpAnyH_ready (rs := [5]) (by kernel_rfl) (by simp) ?_
              refine AllReadyH.consL (i := 5) rfl (fun K hK => ?_) AllReadyH.nil
              go_simp
              have hs3 := (Below.refl w4.heap.size w4).alloc (Nat.le_refl _) (.cells #[(.func (.func 89) #[] #[]), .int .i64 3, (.func (.func 90) #[] #[])] 112)
              have hkb : KB (w4.alloc (.cells #[(.func (.func 89) #[] #[]), .int .i64 3, (.func (.func 90) #[] #[])] 112)) w4.heap.size (.func (.func 89) #[] #[]) 3 (.func (.func 90) #[] #[]) := World.alloc_heap_new w4 _
              refine hK.out _ _ ⟨hm.below hs3, gr hb1 hs3⟩ (fun hHeld => ?_)
              clear hK
              try simp only [Act.put, List.setIfInBounds_toArray, List.set_cons_zero, List.set_cons_succ]
              refine wpAnyH_done (by kernel_rfl) ?_ _
              refine NoPanic.normal ?_
              clear hHeld hlk
              go_wp2_with fail
              go_meet
              exact ⟨_, rfl, hkb, gr hb1 hs3⟩
            · go_simp
              have hs2 := (Below.refl w3.heap.size w3).alloc (Nat.le_refl _) (.cells #[.nilFunc, .int .i64 0, .nilFunc] 112)
              have hkn : KB (w3.alloc (.cells #[.nilFunc, .int .i64 0, .nilFunc] 112)) w3.heap.size .nilFunc 0 .nilFunc := World.alloc_heap_new w3 _
              have hln : w3.heap.size < (w3.alloc (.cells #[.nilFunc, .int .i64 0, .nilFunc] 112)).heap.size := by simp
              refine hK.out _ _ (hC2.below hs2.drew hC2.lt).cells.2.1 (fun hHeld => ?_)
              clear hK
              try simp only [Act.put, List.setIfInBounds_toArray, List.set_cons_zero, List.set_cons_succ]
              refine wpAnyH_ready (rs := [0]) (by kernel_rfl) (by simp) ?_
              refine AllReadyH.consL (i := 0) rfl (fun K hK => ?_) AllReadyH.nil
              go_simp
              refine (skinds_any _).mono ?_
              rintro e w4 ⟨r, rfl, hm, hb1, hr1⟩
              replace hr1 : w3.heap.size < r := Nat.lt_of_lt_of_le hln hr1
              replace hkn : KB w4 w3.heap.size .nilFunc 0 .nilFunc := (hb1.block _ hln).trans hkn
              replace hb1 := gr hs2.drew hb1
              refine hK.out _ _ (hC2.below hb1 hC2.lt).cells.2.1 (fun hHeld => ?_)
              clear hK hHeld
              refine wpAnyH_more (S' := fun w' => IMap w' r .i64 SKinds ∧ Below w3.heap.size w3 w') (fun w' h => (hC2.below h.2 hC2.lt).cells.2.1) ?_
              have hHeld : IMap w4 r .i64 SKinds ∧ Below w3.heap.size w3 w4 := ⟨hm, hb1⟩
              try simp only [Act.put, List.setIfInBounds_toArray, List.set_cons_zero, List.set_cons_succ]
              refine wpAnyH_takeL (i := 3) (v := ?vhy52) rfl (by kernel_rfl) (by kernel_rfl) (by kernel_rfl) (fun _ _ _ h => h) (Or.inl ⟨by rfl, ?hy52⟩) (by assumption) ?rhy52
              case hy52 => ((intro w hSw; (try dsimp only at hSw); go_simp); try with_reducible rfl)
              try simp only [Act.put, List.setIfInBounds_toArray, List.set_cons_zero, List.set_cons_succ]
              have hkc := hkn.cells
              have hf0 := hkn.frozen 0
              have hf1 := hkn.frozen 1
              have hf2 := hkn.frozen 2
              refine wpAnyH_ready (rs := [5]) (by kernel_rfl) (by simp) ?_
              refine AllReadyH.consL (i := 5) rfl (fun K hK => ?_) AllReadyH.nil
              go_simp
              have hkb := hkn.put (.func (.func 89) #[] #[]) 3 (.func (.func 90) #[] #[])
              have hb2 := ((hb1.setCell (p := ⟨w3.heap.size, 0, none⟩) (Nat.le_refl _) (.func (.func 89) #[] #[])).setCell (p := ⟨w3.heap.size, 1, none⟩) (Nat.le_refl _) (.int .i64 3)).setCell (p := ⟨w3.heap.size, 2, none⟩) (Nat.le_refl _) (.func (.func 90) #[] #[])
              have hm1 := ((hm.kept (grownBy_setCell_at w4 ⟨w3.heap.size, 0, none⟩ (.func (.func 89) #[] #[])) (by simp; omega)).kept (grownBy_setCell_at _ ⟨w3.heap.size, 1, none⟩ (.int .i64 3)) (by simp; omega)).kept (grownBy_setCell_at _ ⟨w3.heap.size, 2, none⟩ (.func (.func 90) #[] #[])) (by simp; omega)
              refine hK.out _ _ ⟨hm1, hb2⟩ (fun hHeld => ?_)
              clear hK
              try simp only [Act.put, List.setIfInBounds_toArray, List.set_cons_zero, List.set_cons_succ]
              refine wpAnyH_done (by kernel_rfl) ?_ _
              refine NoPanic.normal ?_
              clear hHeld hlk hf0 hf1 hf2 hkc
              go_wp2_with fail
              go_meet
              exact ⟨_, rfl, hkb, hb2⟩
          case rest =>
            obtain ⟨B, rfl, hk, hbx⟩ := hcut
            have hb3 := gr b2 hbx
            have hC3 := hC2.below hbx hC2.lt
            have hV3 := hV2.below hbx hV2.lt
            have cc3 := hC3.cells
            have cv3 := hV3.cells
            have ck3 := hk.cells
            clear hbx hC2 hV2 hlk cc2 cv2
            generalize wc = w4 at *
            have eF := enters_of Tryz.func90 (by kernel_rfl) rfl
            go_wp2_with fail
            refine (hrm.out _).mono ?_
            rintro e w5 ⟨rfl, g5⟩
            have hb5 := gr hb3 g5
            have hC5 := hC3.below g5 hC3.lt
            have cc5 := hC5.cells
            clear hrm g5 cc3 cv3 ck3
            go_wp2
            go_ret
            exact ⟨_, rfl, .inr ⟨by decide, _, rfl, by simp⟩, gr_alloc hb5 _⟩
        · obtain rfl : F = 0 := hF
          go_enter Tryz.func34, Tryz.ntmps34
          go_wp2_with fail
          rw [hw1.out]
          clear hw1
          refine (hcl.out _).mono ?_
          rintro e w2 ⟨rfl, g1⟩
          have b1 := gr hb g1
          have hC1 := hC.below g1 hC.lt
          have hV1 := hV.below g1 hV.lt
          have cc1 := hC1.cells
          have cv1 := hV1.cells
          clear g1 hcl hC hV hb
          go_wp2_with fail
          refine (hck.out _).mono ?_
          rintro e w3 ⟨rfl, g2⟩
          have b2 := gr b1 g2
          have hC2 := hC1.below g2 hC1.lt
          have hV2 := hV1.below g2 hV1.lt
          have cc2 := hC2.cells
          have cv2 := hV2.cells
          clear g2 hck hC1 hV1 b1 cc1 cv1
          go_upto_region 6 with fail
          go_cut [6] from 27 to 30 (fun s6 wx => ∃ B : Nat, s6 = .pointer (some ⟨B, 0, none⟩) ∧ KB wx B (.func (.func 89) #[] #[]) 3 (.func (.func 90) #[] #[]) ∧ Below w3.heap.size w3 wx)
          case first =>
            refine wp_region_noPanic ?_
            refine wp_region_held_drew (S := fun w' => w'.cell? ⟨w.heap.size, 1, none⟩ = some (.int .i64 3)) (by kernel_rfl) (hC2.below ((Below.refl _ w3).drew) hC2.lt).cells.2.1 (fun hHeld => ?_)
            refine wpAnyH_takeL (i := 1) (v := ?vhy53) rfl (by kernel_rfl) (by kernel_rfl) (by kernel_rfl) (fun _ _ _ h => h) (Or.inl ⟨by rfl, ?hy53⟩) (by assumption) ?rhy53
            case hy53 => ((intro w hSw; (try dsimp only at hSw); go_simp); try with_reducible rfl)
            try simp only [Act.put, List.setIfInBounds_toArray, List.set_cons_zero, List.set_cons_succ]
            refine wpAnyH_takeL (i := 2) (v := ?vhy54) rfl (by kernel_rfl) (by kernel_rfl) (by kernel_rfl) (fun _ _ _ h => h) (Or.inl ⟨by rfl, ?hy54⟩) (by assumption) ?rhy54
            case hy54 => ((intro w hSw; (try dsimp only at hSw); go_simp); try with_reducible rfl)
            try simp only [Act.put, List.setIfInBounds_toArray, List.set_cons_zero, List.set_cons_succ]
            refine wpAnyH_ready (rs := [0, 4]) (by kernel_rfl) (by simp) ?_
            refine AllReadyH.consL (i := 0) rfl (fun K hK => ?_) (AllReadyH.consL (i := 4) rfl (fun K hK => ?_) AllReadyH.nil)
            · go_simp
              refine (skinds_any _).mono ?_
              rintro e w4 ⟨r, rfl, hm, hb1, hr1⟩
              replace hb1 := gr ((Below.refl _ w3).drew) hb1
              refine hK.out _ _ (hC2.below hb1 hC2.lt).cells.2.1 (fun hHeld => ?_)
              clear hK hHeld
              refine wpAnyH_more (S' := fun w' => IMap w' r .i64 SKinds ∧ Below w3.heap.size w3 w') (fun w' h => (hC2.below h.2 hC2.lt).cells.2.1) ?_
              have hHeld : IMap w4 r .i64 SKinds ∧ Below w3.heap.size w3 w4 := ⟨hm, hb1⟩
              try simp only [Act.put, List.setIfInBounds_toArray, List.set_cons_zero, List.set_cons_succ]
              refine wpAnyH_takeL (i := 3) (v := ?vhy55) rfl (by kernel_rfl) (by kernel_rfl) (by kernel_rfl) (fun _ _ _ h => h) (Or.inl ⟨by rfl, ?hy55⟩) (by assumption) ?rhy55
              case hy55 => ((intro w hSw; (try dsimp only at hSw); go_simp); try with_reducible rfl)
              try simp only [Act.put, List.setIfInBounds_toArray, List.set_cons_zero, List.set_cons_succ]
              refine wpAnyH_ready (rs := [4]) (by kernel_rfl) (by simp) ?_
              refine AllReadyH.consL (i := 4) rfl (fun K hK => ?_) AllReadyH.nil
              go_simp
              have hs2 := (Below.refl w4.heap.size w4).alloc (Nat.le_refl _) (.cells #[.nilFunc, .int .i64 0, .nilFunc] 112)
              refine hK.out _ _ ⟨hm.below hs2, gr hb1 hs2⟩ (fun hHeld => ?_)
              clear hK
              try simp only [Act.put, List.setIfInBounds_toArray, List.set_cons_zero, List.set_cons_succ]
              refine wpAnyH_ready (rs := [5]) (by kernel_rfl) (by simp) ?_
              refine AllReadyH.consL (i := 5) rfl (fun K hK => ?_) AllReadyH.nil
              go_simp
              have hs3 := (Below.refl w4.heap.size w4).alloc (Nat.le_refl _) (.cells #[(.func (.func 89) #[] #[]), .int .i64 3, (.func (.func 90) #[] #[])] 112)
              have hkb : KB (w4.alloc (.cells #[(.func (.func 89) #[] #[]), .int .i64 3, (.func (.func 90) #[] #[])] 112)) w4.heap.size (.func (.func 89) #[] #[]) 3 (.func (.func 90) #[] #[]) := World.alloc_heap_new w4 _
              refine hK.out _ _ ⟨hm.below hs3, gr hb1 hs3⟩ (fun hHeld => ?_)
              clear hK
              try simp only [Act.put, List.setIfInBounds_toArray, List.set_cons_zero, List.set_cons_succ]
              refine wpAnyH_done (by kernel_rfl) ?_ _
              refine NoPanic.normal ?_
              clear hHeld hlk
              go_wp2_with fail
              go_meet
              exact ⟨_, rfl, hkb, gr hb1 hs3⟩
            · go_simp
              have hs2 := (Below.refl w3.heap.size w3).alloc (Nat.le_refl _) (.cells #[.nilFunc, .int .i64 0, .nilFunc] 112)
              have hkn : KB (w3.alloc (.cells #[.nilFunc, .int .i64 0, .nilFunc] 112)) w3.heap.size .nilFunc 0 .nilFunc := World.alloc_heap_new w3 _
              have hln : w3.heap.size < (w3.alloc (.cells #[.nilFunc, .int .i64 0, .nilFunc] 112)).heap.size := by simp
              refine hK.out _ _ (hC2.below hs2.drew hC2.lt).cells.2.1 (fun hHeld => ?_)
              clear hK
              try simp only [Act.put, List.setIfInBounds_toArray, List.set_cons_zero, List.set_cons_succ]
              refine wpAnyH_ready (rs := [0]) (by kernel_rfl) (by simp) ?_
              refine AllReadyH.consL (i := 0) rfl (fun K hK => ?_) AllReadyH.nil
              go_simp
              refine (skinds_any _).mono ?_
              rintro e w4 ⟨r, rfl, hm, hb1, hr1⟩
              replace hr1 : w3.heap.size < r := Nat.lt_of_lt_of_le hln hr1
              replace hkn : KB w4 w3.heap.size .nilFunc 0 .nilFunc := (hb1.block _ hln).trans hkn
              replace hb1 := gr hs2.drew hb1
              refine hK.out _ _ (hC2.below hb1 hC2.lt).cells.2.1 (fun hHeld => ?_)
              clear hK hHeld
              refine wpAnyH_more (S' := fun w' => IMap w' r .i64 SKinds ∧ Below w3.heap.size w3 w') (fun w' h => (hC2.below h.2 hC2.lt).cells.2.1) ?_
              have hHeld : IMap w4 r .i64 SKinds ∧ Below w3.heap.size w3 w4 := ⟨hm, hb1⟩
              try simp only [Act.put, List.setIfInBounds_toArray, List.set_cons_zero, List.set_cons_succ]
              refine wpAnyH_takeL (i := 3) (v := ?vhy56) rfl (by kernel_rfl) (by kernel_rfl) (by kernel_rfl) (fun _ _ _ h => h) (Or.inl ⟨by rfl, ?hy56⟩) (by assumption) ?rhy56
              case hy56 => ((intro w hSw; (try dsimp only at hSw); go_simp); try with_reducible rfl)
              try simp only [Act.put, List.setIfInBounds_toArray, List.set_cons_zero, List.set_cons_succ]
              have hkc := hkn.cells
              have hf0 := hkn.frozen 0
              have hf1 := hkn.frozen 1
              have hf2 := hkn.frozen 2
              refine wpAnyH_ready (rs := [5]) (by kernel_rfl) (by simp) ?_
              refine AllReadyH.consL (i := 5) rfl (fun K hK => ?_) AllReadyH.nil
              go_simp
              have hkb := hkn.put (.func (.func 89) #[] #[]) 3 (.func (.func 90) #[] #[])
              have hb2 := ((hb1.setCell (p := ⟨w3.heap.size, 0, none⟩) (Nat.le_refl _) (.func (.func 89) #[] #[])).setCell (p := ⟨w3.heap.size, 1, none⟩) (Nat.le_refl _) (.int .i64 3)).setCell (p := ⟨w3.heap.size, 2, none⟩) (Nat.le_refl _) (.func (.func 90) #[] #[])
              have hm1 := ((hm.kept (grownBy_setCell_at w4 ⟨w3.heap.size, 0, none⟩ (.func (.func 89) #[] #[])) (by simp; omega)).kept (grownBy_setCell_at _ ⟨w3.heap.size, 1, none⟩ (.int .i64 3)) (by simp; omega)).kept (grownBy_setCell_at _ ⟨w3.heap.size, 2, none⟩ (.func (.func 90) #[] #[])) (by simp; omega)
              refine hK.out _ _ ⟨hm1, hb2⟩ (fun hHeld => ?_)
              clear hK
              try simp only [Act.put, List.setIfInBounds_toArray, List.set_cons_zero, List.set_cons_succ]
              refine wpAnyH_done (by kernel_rfl) ?_ _
              refine NoPanic.normal ?_
              clear hHeld hlk hf0 hf1 hf2 hkc
              go_wp2_with fail
              go_meet
              exact ⟨_, rfl, hkb, hb2⟩
          case rest =>
            obtain ⟨B, rfl, hk, hbx⟩ := hcut
            have hb3 := gr b2 hbx
            have hC3 := hC2.below hbx hC2.lt
            have hV3 := hV2.below hbx hV2.lt
            have cc3 := hC3.cells
            have cv3 := hV3.cells
            have ck3 := hk.cells
            clear hbx hC2 hV2 hlk cc2 cv2
            generalize wc = w4 at *
            have eF := enters_of Tryz.func90 (by kernel_rfl) rfl
            go_wp2_with fail
            refine (hrm.out _).mono ?_
            rintro e w5 ⟨rfl, g5⟩
            have hb5 := gr hb3 g5
            clear hrm g5 cc3 cv3 ck3
            go_wp2
            go_ret
            exact ⟨_, rfl, .inl ⟨rfl, rfl⟩, hb5⟩
      · rw [if_pos hkt] at hF
        subst hF
        have et : (xk != 3) = true := by simpa using hkt
        clear hrm hkt
        go_enter Tryz.func34, Tryz.ntmps34
        go_wp2_with fail
        rw [hw1.out]
        clear hw1
        refine (hcl.out _).mono ?_
        rintro e w2 ⟨rfl, g1⟩
        have b1 := gr hb g1
        have hC1 := hC.below g1 hC.lt
        have hV1 := hV.below g1 hV.lt
        have cc1 := hC1.cells
        have cv1 := hV1.cells
        clear g1 hcl hC hV hb
        go_wp2_with fail
        refine (hck.out _).mono ?_
        rintro e w3 ⟨rfl, g2⟩
        have b2 := gr b1 g2
        have hC2 := hC1.below g2 hC1.lt
        have hV2 := hV1.below g2 hV1.lt
        have cc2 := hC2.cells
        have cv2 := hV2.cells
        clear g2 hck hC1 hV1 b1 cc1 cv1
        go_upto_region 6 with fail
        go_cut [6] from 27 to 30 (fun s6 wx => ∃ B : Nat, s6 = .pointer (some ⟨B, 0, none⟩) ∧ KB wx B (.func (.func 89) #[] #[]) 3 (.func (.func 90) #[] #[]) ∧ Below w3.heap.size w3 wx)
        case first =>
          refine wp_region_noPanic ?_
          refine wp_region_held_drew (S := fun w' => w'.cell? ⟨w.heap.size, 1, none⟩ = some (.int .i64 3)) (by kernel_rfl) (hC2.below ((Below.refl _ w3).drew) hC2.lt).cells.2.1 (fun hHeld => ?_)
          refine wpAnyH_takeL (i := 1) (v := ?vhy57) rfl (by kernel_rfl) (by kernel_rfl) (by kernel_rfl) (fun _ _ _ h => h) (Or.inl ⟨by rfl, ?hy57⟩) (by assumption) ?rhy57
          case hy57 => ((intro w hSw; (try dsimp only at hSw); go_simp); try with_reducible rfl)
          try simp only [Act.put, List.setIfInBounds_toArray, List.set_cons_zero, List.set_cons_succ]
          refine wpAnyH_takeL (i := 2) (v := ?vhy58) rfl (by kernel_rfl) (by kernel_rfl) (by kernel_rfl) (fun _ _ _ h => h) (Or.inl ⟨by rfl, ?hy58⟩) (by assumption) ?rhy58
          case hy58 => ((intro w hSw; (try dsimp only at hSw); go_simp); try with_reducible rfl)
          try simp only [Act.put, List.setIfInBounds_toArray, List.set_cons_zero, List.set_cons_succ]
          refine wpAnyH_ready (rs := [0, 4]) (by kernel_rfl) (by simp) ?_
          refine AllReadyH.consL (i := 0) rfl (fun K hK => ?_) (AllReadyH.consL (i := 4) rfl (fun K hK => ?_) AllReadyH.nil)
          · go_simp
            refine (skinds_any _).mono ?_
            rintro e w4 ⟨r, rfl, hm, hb1, hr1⟩
            replace hb1 := gr ((Below.refl _ w3).drew) hb1
            refine hK.out _ _ (hC2.below hb1 hC2.lt).cells.2.1 (fun hHeld => ?_)
            clear hK hHeld
            refine wpAnyH_more (S' := fun w' => IMap w' r .i64 SKinds ∧ Below w3.heap.size w3 w') (fun w' h => (hC2.below h.2 hC2.lt).cells.2.1) ?_
            have hHeld : IMap w4 r .i64 SKinds ∧ Below w3.heap.size w3 w4 := ⟨hm, hb1⟩
            try simp only [Act.put, List.setIfInBounds_toArray, List.set_cons_zero, List.set_cons_succ]
            refine wpAnyH_takeL (i := 3) (v := ?vhy59) rfl (by kernel_rfl) (by kernel_rfl) (by kernel_rfl) (fun _ _ _ h => h) (Or.inl ⟨by rfl, ?hy59⟩) (by assumption) ?rhy59
            case hy59 => ((intro w hSw; (try dsimp only at hSw); go_simp); try with_reducible rfl)
            try simp only [Act.put, List.setIfInBounds_toArray, List.set_cons_zero, List.set_cons_succ]
            refine wpAnyH_ready (rs := [4]) (by kernel_rfl) (by simp) ?_
            refine AllReadyH.consL (i := 4) rfl (fun K hK => ?_) AllReadyH.nil
            go_simp
            have hs2 := (Below.refl w4.heap.size w4).alloc (Nat.le_refl _) (.cells #[.nilFunc, .int .i64 0, .nilFunc] 112)
            refine hK.out _ _ ⟨hm.below hs2, gr hb1 hs2⟩ (fun hHeld => ?_)
            clear hK
            try simp only [Act.put, List.setIfInBounds_toArray, List.set_cons_zero, List.set_cons_succ]
            refine wpAnyH_ready (rs := [5]) (by kernel_rfl) (by simp) ?_
            refine AllReadyH.consL (i := 5) rfl (fun K hK => ?_) AllReadyH.nil
            go_simp
            have hs3 := (Below.refl w4.heap.size w4).alloc (Nat.le_refl _) (.cells #[(.func (.func 89) #[] #[]), .int .i64 3, (.func (.func 90) #[] #[])] 112)
            have hkb : KB (w4.alloc (.cells #[(.func (.func 89) #[] #[]), .int .i64 3, (.func (.func 90) #[] #[])] 112)) w4.heap.size (.func (.func 89) #[] #[]) 3 (.func (.func 90) #[] #[]) := World.alloc_heap_new w4 _
            refine hK.out _ _ ⟨hm.below hs3, gr hb1 hs3⟩ (fun hHeld => ?_)
            clear hK
            try simp only [Act.put, List.setIfInBounds_toArray, List.set_cons_zero, List.set_cons_succ]
            refine wpAnyH_done (by kernel_rfl) ?_ _
            refine NoPanic.normal ?_
            clear hHeld hlk
            go_wp2_with fail
            go_meet
            exact ⟨_, rfl, hkb, gr hb1 hs3⟩
          · go_simp
            have hs2 := (Below.refl w3.heap.size w3).alloc (Nat.le_refl _) (.cells #[.nilFunc, .int .i64 0, .nilFunc] 112)
            have hkn : KB (w3.alloc (.cells #[.nilFunc, .int .i64 0, .nilFunc] 112)) w3.heap.size .nilFunc 0 .nilFunc := World.alloc_heap_new w3 _
            have hln : w3.heap.size < (w3.alloc (.cells #[.nilFunc, .int .i64 0, .nilFunc] 112)).heap.size := by simp
            refine hK.out _ _ (hC2.below hs2.drew hC2.lt).cells.2.1 (fun hHeld => ?_)
            clear hK
            try simp only [Act.put, List.setIfInBounds_toArray, List.set_cons_zero, List.set_cons_succ]
            refine wpAnyH_ready (rs := [0]) (by kernel_rfl) (by simp) ?_
            refine AllReadyH.consL (i := 0) rfl (fun K hK => ?_) AllReadyH.nil
            go_simp
            refine (skinds_any _).mono ?_
            rintro e w4 ⟨r, rfl, hm, hb1, hr1⟩
            replace hr1 : w3.heap.size < r := Nat.lt_of_lt_of_le hln hr1
            replace hkn : KB w4 w3.heap.size .nilFunc 0 .nilFunc := (hb1.block _ hln).trans hkn
            replace hb1 := gr hs2.drew hb1
            refine hK.out _ _ (hC2.below hb1 hC2.lt).cells.2.1 (fun hHeld => ?_)
            clear hK hHeld
            refine wpAnyH_more (S' := fun w' => IMap w' r .i64 SKinds ∧ Below w3.heap.size w3 w') (fun w' h => (hC2.below h.2 hC2.lt).cells.2.1) ?_
            have hHeld : IMap w4 r .i64 SKinds ∧ Below w3.heap.size w3 w4 := ⟨hm, hb1⟩
            try simp only [Act.put, List.setIfInBounds_toArray, List.set_cons_zero, List.set_cons_succ]
            refine wpAnyH_takeL (i := 3) (v := ?vhy60) rfl (by kernel_rfl) (by kernel_rfl) (by kernel_rfl) (fun _ _ _ h => h) (Or.inl ⟨by rfl, ?hy60⟩) (by assumption) ?rhy60
            case hy60 => ((intro w hSw; (try dsimp only at hSw); go_simp); try with_reducible rfl)
            try simp only [Act.put, List.setIfInBounds_toArray, List.set_cons_zero, List.set_cons_succ]
            have hkc := hkn.cells
            have hf0 := hkn.frozen 0
            have hf1 := hkn.frozen 1
            have hf2 := hkn.frozen 2
            refine wpAnyH_ready (rs := [5]) (by kernel_rfl) (by simp) ?_
            refine AllReadyH.consL (i := 5) rfl (fun K hK => ?_) AllReadyH.nil
            go_simp
            have hkb := hkn.put (.func (.func 89) #[] #[]) 3 (.func (.func 90) #[] #[])
            have hb2 := ((hb1.setCell (p := ⟨w3.heap.size, 0, none⟩) (Nat.le_refl _) (.func (.func 89) #[] #[])).setCell (p := ⟨w3.heap.size, 1, none⟩) (Nat.le_refl _) (.int .i64 3)).setCell (p := ⟨w3.heap.size, 2, none⟩) (Nat.le_refl _) (.func (.func 90) #[] #[])
            have hm1 := ((hm.kept (grownBy_setCell_at w4 ⟨w3.heap.size, 0, none⟩ (.func (.func 89) #[] #[])) (by simp; omega)).kept (grownBy_setCell_at _ ⟨w3.heap.size, 1, none⟩ (.int .i64 3)) (by simp; omega)).kept (grownBy_setCell_at _ ⟨w3.heap.size, 2, none⟩ (.func (.func 90) #[] #[])) (by simp; omega)
            refine hK.out _ _ ⟨hm1, hb2⟩ (fun hHeld => ?_)
            clear hK
            try simp only [Act.put, List.setIfInBounds_toArray, List.set_cons_zero, List.set_cons_succ]
            refine wpAnyH_done (by kernel_rfl) ?_ _
            refine NoPanic.normal ?_
            clear hHeld hlk hf0 hf1 hf2 hkc
            go_wp2_with fail
            go_meet
            exact ⟨_, rfl, hkb, hb2⟩
        case rest =>
          obtain ⟨B, rfl, hk, hbx⟩ := hcut
          have hb3 := gr b2 hbx
          have hC3 := hC2.below hbx hC2.lt
          have hV3 := hV2.below hbx hV2.lt
          have cc3 := hC3.cells
          have cv3 := hV3.cells
          have ck3 := hk.cells
          clear hbx hC2 hV2 hlk cc2 cv2
          generalize wc = w4 at *
          go_wp2
          go_ret
          exact ⟨_, rfl, .inr ⟨by decide, _, rfl, by simp⟩, gr_alloc hb3 _⟩
  · rw [if_pos h1] at hF
    subst hF
    have hd : ((F : Int) != 0) = true := by simp; omega
    clear hrm hlk
    go_enter Tryz.func34, Tryz.ntmps34
    go_wp2_with fail
    rw [hw1.out]
    clear hw1
    refine (hcl.out _).mono ?_
    rintro e w2 ⟨rfl, g1⟩
    have b1 := gr hb g1
    have hC1 := hC.below g1 hC.lt
    have hV1 := hV.below g1 hV.lt
    have cc1 := hC1.cells
    have cv1 := hV1.cells
    clear g1 hcl hC hV hb
    go_wp2_with fail
    refine (hck.out _).mono ?_
    rintro e w3 ⟨rfl, g2⟩
    have b2 := gr b1 g2
    have hC2 := hC1.below g2 hC1.lt
    have hV2 := hV1.below g2 hV1.lt
    have cc2 := hC2.cells
    have cv2 := hV2.cells
    clear g2 hck hC1 hV1 b1 cc1 cv1
    go_wp2
    go_ret
    exact ⟨_, rfl, .inr ⟨h1, _, rfl, by simp⟩, gr_alloc b2 _⟩
set_option maxRecDepth 100000 in
set_option maxHeartbeats 8000000 in
theorem fits_4 (n : List UInt8) (z : Int) (nl : Bool) (xk xi xu : Int) (xs : List UInt8) (w : World) (hl : n.length ≤ 100000) (hsl : xs.length ≤ maxLen) (hcv : colV ⟨n, 4, z, nl⟩ = true) (hu0 : 0 ≤ xu) (hu1 : xu ≤ 18446744073709551615) :
    Calls Tryz.prog 34 #[.agg #[.string (strL n), .int .i64 4, .int .i64 z, .bool nl], .agg #[.int .i64 xk, .int .i64 xi, .int .u64 xu, .string (strL xs)]] w (FitsP w (fitV ⟨n, 4, z, nl⟩ ⟨xk, xi, xu, xs⟩)) := by
  have hcl := fun W => sright_any ⟨n, 4, z, nl⟩ W hl
  have hck := fun W => Check_any xk xi xu (strL xs) W (by rw [strL_size]; exact hsl)
  have hC := (CBox.new w ⟨n, 4, z, nl⟩).below ((Below.refl _ _).alloc (Nat.le_refl _) (.cells #[.int .i64 xk, .int .i64 xi, .int .u64 xu, .string (strL xs)] 28)) (by simp)
  have hV := VBox.new (w.alloc (.cells #[.string (strL n), .int .i64 4, .int .i64 z, .bool nl] 24)) xk xi xu (strL xs)
  rw [World.size_alloc] at hV
  have hb : Below w.heap.size w ((w.alloc (.cells #[.string (strL n), .int .i64 4, .int .i64 z, .bool nl] 24)).alloc (.cells #[.int .i64 xk, .int .i64 xi, .int .u64 xu, .string (strL xs)] 28)) := ((Below.refl _ w).alloc (Nat.le_refl _) _).alloc (by simp) _
  simp only [Cl.val, valV] at hcl hck
  obtain ⟨w1, hw1⟩ : ∃ w1, ((w.alloc (.cells #[.string (strL n), .int .i64 4, .int .i64 z, .bool nl] 24)).alloc (.cells #[.int .i64 xk, .int .i64 xi, .int .u64 xu, .string (strL xs)] 28)) = w1 := ⟨_, rfl⟩
  rw [hw1] at hC hV hb
  replace hw1 := Lib.hid hw1
  rw [hcv] at hcl
  have hF : fitV ⟨n, 4, z, nl⟩ ⟨xk, xi, xu, xs⟩ = if chkV xk xi xu (strL xs) ≠ 0 then chkV xk xi xu (strL xs) else if xk = 0 then (if nl then 0 else 131) else if xk ≠ 4 then 132 else if roomV z ⟨xk, xi, xu, xs⟩ then 0 else 133 := by
    unfold fitV
    rw [hcv, if_neg (by simp)]
    rfl
  have hrm : xk = 4 → ∀ W, Calls Tryz.prog 92 #[.int .i64 z, .agg #[.int .i64 xk, .int .i64 xi, .int .u64 xu, .string (strL xs)]] W fun e W' => e = .returned (.bool (roomV z ⟨xk, xi, xu, xs⟩)) ∧ Below W.heap.size W W' := fun hk W => by
    subst hk
    exact room6_any z ⟨4, xi, xu, xs⟩ W
  have hlk : ∀ w' r, IMap w' r .i64 SKinds → (Instr.lookup 113 (.map (some r)) (.int .i64 4) false).run Tryz.prog w' = .ok (.agg #[.func (.func 91) #[] #[], .int .i64 4, .func (.func 92) #[] #[]]) w' := fun w' r hm =>
    hm.look1 _ _ _ Tryz.underlying113 Tryz.underlying22 4 3 _ rfl
  generalize chkV xk xi xu (strL xs) = z1 at *
  generalize roomV z ⟨xk, xi, xu, xs⟩ = rm at *
  generalize fitV ⟨n, 4, z, nl⟩ ⟨xk, xi, xu, xs⟩ = F at *
  replace hcl := Lib.hid hcl
  replace hck := Lib.hid hck
  replace hrm := Lib.hid hrm
  clear hcv hl hsl hu0 hu1
  by_cases h1 : z1 = 0
  · subst h1
    rw [if_neg (by simp)] at hF
    by_cases hk0 : xk = 0
    · subst hk0
      rw [if_pos rfl] at hF
      clear hrm
      cases nl
      · obtain rfl : F = 131 := hF
        go_enter Tryz.func34, Tryz.ntmps34
        go_wp2_with fail
        rw [hw1.out]
        clear hw1
        refine (hcl.out _).mono ?_
        rintro e w2 ⟨rfl, g1⟩
        have b1 := gr hb g1
        have hC1 := hC.below g1 hC.lt
        have hV1 := hV.below g1 hV.lt
        have cc1 := hC1.cells
        have cv1 := hV1.cells
        clear g1 hcl hC hV hb
        go_wp2_with fail
        refine (hck.out _).mono ?_
        rintro e w3 ⟨rfl, g2⟩
        have b2 := gr b1 g2
        have hC2 := hC1.below g2 hC1.lt
        have hV2 := hV1.below g2 hV1.lt
        have cc2 := hC2.cells
        have cv2 := hV2.cells
        clear g2 hck hC1 hV1 b1 cc1 cv1
        go_upto_region 6 with fail
        go_cut [6] from 27 to 30 (fun s6 wx => ∃ B : Nat, s6 = .pointer (some ⟨B, 0, none⟩) ∧ KB wx B (.func (.func 91) #[] #[]) 4 (.func (.func 92) #[] #[]) ∧ Below w3.heap.size w3 wx)
        case first =>
          refine wp_region_noPanic ?_
          refine wp_region_held_drew (S := fun w' => w'.cell? ⟨w.heap.size, 1, none⟩ = some (.int .i64 4)) (by kernel_rfl) (hC2.below ((Below.refl _ w3).drew) hC2.lt).cells.2.1 (fun hHeld => ?_)
          refine wpAnyH_takeL (i := 1) (v := ?vhy61) rfl (by kernel_rfl) (by kernel_rfl) (by kernel_rfl) (fun _ _ _ h => h) (Or.inl ⟨by rfl, ?hy61⟩) (by assumption) ?rhy61
          case hy61 => ((intro w hSw; (try dsimp only at hSw); go_simp); try with_reducible rfl)
          try simp only [Act.put, List.setIfInBounds_toArray, List.set_cons_zero, List.set_cons_succ]
          refine wpAnyH_takeL (i := 2) (v := ?vhy62) rfl (by kernel_rfl) (by kernel_rfl) (by kernel_rfl) (fun _ _ _ h => h) (Or.inl ⟨by rfl, ?hy62⟩) (by assumption) ?rhy62
          case hy62 => ((intro w hSw; (try dsimp only at hSw); go_simp); try with_reducible rfl)
          try simp only [Act.put, List.setIfInBounds_toArray, List.set_cons_zero, List.set_cons_succ]
          refine wpAnyH_ready (rs := [0, 4]) (by kernel_rfl) (by simp) ?_
          refine AllReadyH.consL (i := 0) rfl (fun K hK => ?_) (AllReadyH.consL (i := 4) rfl (fun K hK => ?_) AllReadyH.nil)
          · go_simp
            refine (skinds_any _).mono ?_
            rintro e w4 ⟨r, rfl, hm, hb1, hr1⟩
            replace hb1 := gr ((Below.refl _ w3).drew) hb1
            refine hK.out _ _ (hC2.below hb1 hC2.lt).cells.2.1 (fun hHeld => ?_)
            clear hK hHeld
            refine wpAnyH_more (S' := fun w' => IMap w' r .i64 SKinds ∧ Below w3.heap.size w3 w') (fun w' h => (hC2.below h.2 hC2.lt).cells.2.1) ?_
            have hHeld : IMap w4 r .i64 SKinds ∧ Below w3.heap.size w3 w4 := ⟨hm, hb1⟩
            try simp only [Act.put, List.setIfInBounds_toArray, List.set_cons_zero, List.set_cons_succ]
            refine wpAnyH_takeL (i := 3) (v := ?vhy63) rfl (by kernel_rfl) (by kernel_rfl) (by kernel_rfl) (fun _ _ _ h => h) (Or.inl ⟨by rfl, ?hy63⟩) (by assumption) ?rhy63
            case hy63 => ((intro w hSw; (try dsimp only at hSw); go_simp); try with_reducible rfl)
            try simp only [Act.put, List.setIfInBounds_toArray, List.set_cons_zero, List.set_cons_succ]
            refine wpAnyH_ready (rs := [4]) (by kernel_rfl) (by simp) ?_
            refine AllReadyH.consL (i := 4) rfl (fun K hK => ?_) AllReadyH.nil
            go_simp
            have hs2 := (Below.refl w4.heap.size w4).alloc (Nat.le_refl _) (.cells #[.nilFunc, .int .i64 0, .nilFunc] 112)
            refine hK.out _ _ ⟨hm.below hs2, gr hb1 hs2⟩ (fun hHeld => ?_)
            clear hK
            try simp only [Act.put, List.setIfInBounds_toArray, List.set_cons_zero, List.set_cons_succ]
            refine wpAnyH_ready (rs := [5]) (by kernel_rfl) (by simp) ?_
            refine AllReadyH.consL (i := 5) rfl (fun K hK => ?_) AllReadyH.nil
            go_simp
            have hs3 := (Below.refl w4.heap.size w4).alloc (Nat.le_refl _) (.cells #[(.func (.func 91) #[] #[]), .int .i64 4, (.func (.func 92) #[] #[])] 112)
            have hkb : KB (w4.alloc (.cells #[(.func (.func 91) #[] #[]), .int .i64 4, (.func (.func 92) #[] #[])] 112)) w4.heap.size (.func (.func 91) #[] #[]) 4 (.func (.func 92) #[] #[]) := World.alloc_heap_new w4 _
            refine hK.out _ _ ⟨hm.below hs3, gr hb1 hs3⟩ (fun hHeld => ?_)
            clear hK
            try simp only [Act.put, List.setIfInBounds_toArray, List.set_cons_zero, List.set_cons_succ]
            refine wpAnyH_done (by kernel_rfl) ?_ _
            refine NoPanic.normal ?_
            clear hHeld hlk
            go_wp2_with fail
            go_meet
            exact ⟨_, rfl, hkb, gr hb1 hs3⟩
          · go_simp
            have hs2 := (Below.refl w3.heap.size w3).alloc (Nat.le_refl _) (.cells #[.nilFunc, .int .i64 0, .nilFunc] 112)
            have hkn : KB (w3.alloc (.cells #[.nilFunc, .int .i64 0, .nilFunc] 112)) w3.heap.size .nilFunc 0 .nilFunc := World.alloc_heap_new w3 _
            have hln : w3.heap.size < (w3.alloc (.cells #[.nilFunc, .int .i64 0, .nilFunc] 112)).heap.size := by simp
            refine hK.out _ _ (hC2.below hs2.drew hC2.lt).cells.2.1 (fun hHeld => ?_)
            clear hK
            try simp only [Act.put, List.setIfInBounds_toArray, List.set_cons_zero, List.set_cons_succ]
            refine wpAnyH_ready (rs := [0]) (by kernel_rfl) (by simp) ?_
            refine AllReadyH.consL (i := 0) rfl (fun K hK => ?_) AllReadyH.nil
            go_simp
            refine (skinds_any _).mono ?_
            rintro e w4 ⟨r, rfl, hm, hb1, hr1⟩
            replace hr1 : w3.heap.size < r := Nat.lt_of_lt_of_le hln hr1
            replace hkn : KB w4 w3.heap.size .nilFunc 0 .nilFunc := (hb1.block _ hln).trans hkn
            replace hb1 := gr hs2.drew hb1
            refine hK.out _ _ (hC2.below hb1 hC2.lt).cells.2.1 (fun hHeld => ?_)
            clear hK hHeld
            refine wpAnyH_more (S' := fun w' => IMap w' r .i64 SKinds ∧ Below w3.heap.size w3 w') (fun w' h => (hC2.below h.2 hC2.lt).cells.2.1) ?_
            have hHeld : IMap w4 r .i64 SKinds ∧ Below w3.heap.size w3 w4 := ⟨hm, hb1⟩
            try simp only [Act.put, List.setIfInBounds_toArray, List.set_cons_zero, List.set_cons_succ]
            refine wpAnyH_takeL (i := 3) (v := ?vhy64) rfl (by kernel_rfl) (by kernel_rfl) (by kernel_rfl) (fun _ _ _ h => h) (Or.inl ⟨by rfl, ?hy64⟩) (by assumption) ?rhy64
            case hy64 => ((intro w hSw; (try dsimp only at hSw); go_simp); try with_reducible rfl)
            try simp only [Act.put, List.setIfInBounds_toArray, List.set_cons_zero, List.set_cons_succ]
            have hkc := hkn.cells
            have hf0 := hkn.frozen 0
            have hf1 := hkn.frozen 1
            have hf2 := hkn.frozen 2
            refine wpAnyH_ready (rs := [5]) (by kernel_rfl) (by simp) ?_
            refine AllReadyH.consL (i := 5) rfl (fun K hK => ?_) AllReadyH.nil
            go_simp
            have hkb := hkn.put (.func (.func 91) #[] #[]) 4 (.func (.func 92) #[] #[])
            have hb2 := ((hb1.setCell (p := ⟨w3.heap.size, 0, none⟩) (Nat.le_refl _) (.func (.func 91) #[] #[])).setCell (p := ⟨w3.heap.size, 1, none⟩) (Nat.le_refl _) (.int .i64 4)).setCell (p := ⟨w3.heap.size, 2, none⟩) (Nat.le_refl _) (.func (.func 92) #[] #[])
            have hm1 := ((hm.kept (grownBy_setCell_at w4 ⟨w3.heap.size, 0, none⟩ (.func (.func 91) #[] #[])) (by simp; omega)).kept (grownBy_setCell_at _ ⟨w3.heap.size, 1, none⟩ (.int .i64 4)) (by simp; omega)).kept (grownBy_setCell_at _ ⟨w3.heap.size, 2, none⟩ (.func (.func 92) #[] #[])) (by simp; omega)
            refine hK.out _ _ ⟨hm1, hb2⟩ (fun hHeld => ?_)
            clear hK
            try simp only [Act.put, List.setIfInBounds_toArray, List.set_cons_zero, List.set_cons_succ]
            refine wpAnyH_done (by kernel_rfl) ?_ _
            refine NoPanic.normal ?_
            clear hHeld hlk hf0 hf1 hf2 hkc
            go_wp2_with fail
            go_meet
            exact ⟨_, rfl, hkb, hb2⟩
        case rest =>
          obtain ⟨B, rfl, hk, hbx⟩ := hcut
          have hb3 := gr b2 hbx
          have hC3 := hC2.below hbx hC2.lt
          have hV3 := hV2.below hbx hV2.lt
          have cc3 := hC3.cells
          have cv3 := hV3.cells
          have ck3 := hk.cells
          clear hbx hC2 hV2 hlk cc2 cv2
          generalize wc = w4 at *
          go_wp2
          go_ret
          exact ⟨_, rfl, .inr ⟨by decide, _, rfl, by simp⟩, gr_alloc hb3 _⟩
      · obtain rfl : F = 0 := hF
        go_enter Tryz.func34, Tryz.ntmps34
        go_wp2_with fail
        rw [hw1.out]
        clear hw1
        refine (hcl.out _).mono ?_
        rintro e w2 ⟨rfl, g1⟩
        have b1 := gr hb g1
        have hC1 := hC.below g1 hC.lt
        have hV1 := hV.below g1 hV.lt
        have cc1 := hC1.cells
        have cv1 := hV1.cells
        clear g1 hcl hC hV hb
        go_wp2_with fail
        refine (hck.out _).mono ?_
        rintro e w3 ⟨rfl, g2⟩
        have b2 := gr b1 g2
        have hC2 := hC1.below g2 hC1.lt
        have hV2 := hV1.below g2 hV1.lt
        have cc2 := hC2.cells
        have cv2 := hV2.cells
        clear g2 hck hC1 hV1 b1 cc1 cv1
        go_upto_region 6 with fail
        go_cut [6] from 27 to 30 (fun s6 wx => ∃ B : Nat, s6 = .pointer (some ⟨B, 0, none⟩) ∧ KB wx B (.func (.func 91) #[] #[]) 4 (.func (.func 92) #[] #[]) ∧ Below w3.heap.size w3 wx)
        case first =>
          refine wp_region_noPanic ?_
          refine wp_region_held_drew (S := fun w' => w'.cell? ⟨w.heap.size, 1, none⟩ = some (.int .i64 4)) (by kernel_rfl) (hC2.below ((Below.refl _ w3).drew) hC2.lt).cells.2.1 (fun hHeld => ?_)
          refine wpAnyH_takeL (i := 1) (v := ?vhy65) rfl (by kernel_rfl) (by kernel_rfl) (by kernel_rfl) (fun _ _ _ h => h) (Or.inl ⟨by rfl, ?hy65⟩) (by assumption) ?rhy65
          case hy65 => ((intro w hSw; (try dsimp only at hSw); go_simp); try with_reducible rfl)
          try simp only [Act.put, List.setIfInBounds_toArray, List.set_cons_zero, List.set_cons_succ]
          refine wpAnyH_takeL (i := 2) (v := ?vhy66) rfl (by kernel_rfl) (by kernel_rfl) (by kernel_rfl) (fun _ _ _ h => h) (Or.inl ⟨by rfl, ?hy66⟩) (by assumption) ?rhy66
          case hy66 => ((intro w hSw; (try dsimp only at hSw); go_simp); try with_reducible rfl)
          try simp only [Act.put, List.setIfInBounds_toArray, List.set_cons_zero, List.set_cons_succ]
          refine wpAnyH_ready (rs := [0, 4]) (by kernel_rfl) (by simp) ?_
          refine AllReadyH.consL (i := 0) rfl (fun K hK => ?_) (AllReadyH.consL (i := 4) rfl (fun K hK => ?_) AllReadyH.nil)
          · go_simp
            refine (skinds_any _).mono ?_
            rintro e w4 ⟨r, rfl, hm, hb1, hr1⟩
            replace hb1 := gr ((Below.refl _ w3).drew) hb1
            refine hK.out _ _ (hC2.below hb1 hC2.lt).cells.2.1 (fun hHeld => ?_)
            clear hK hHeld
            refine wpAnyH_more (S' := fun w' => IMap w' r .i64 SKinds ∧ Below w3.heap.size w3 w') (fun w' h => (hC2.below h.2 hC2.lt).cells.2.1) ?_
            have hHeld : IMap w4 r .i64 SKinds ∧ Below w3.heap.size w3 w4 := ⟨hm, hb1⟩
            try simp only [Act.put, List.setIfInBounds_toArray, List.set_cons_zero, List.set_cons_succ]
            refine wpAnyH_takeL (i := 3) (v := ?vhy67) rfl (by kernel_rfl) (by kernel_rfl) (by kernel_rfl) (fun _ _ _ h => h) (Or.inl ⟨by rfl, ?hy67⟩) (by assumption) ?rhy67
            case hy67 => ((intro w hSw; (try dsimp only at hSw); go_simp); try with_reducible rfl)
            try simp only [Act.put, List.setIfInBounds_toArray, List.set_cons_zero, List.set_cons_succ]
            refine wpAnyH_ready (rs := [4]) (by kernel_rfl) (by simp) ?_
            refine AllReadyH.consL (i := 4) rfl (fun K hK => ?_) AllReadyH.nil
            go_simp
            have hs2 := (Below.refl w4.heap.size w4).alloc (Nat.le_refl _) (.cells #[.nilFunc, .int .i64 0, .nilFunc] 112)
            refine hK.out _ _ ⟨hm.below hs2, gr hb1 hs2⟩ (fun hHeld => ?_)
            clear hK
            try simp only [Act.put, List.setIfInBounds_toArray, List.set_cons_zero, List.set_cons_succ]
            refine wpAnyH_ready (rs := [5]) (by kernel_rfl) (by simp) ?_
            refine AllReadyH.consL (i := 5) rfl (fun K hK => ?_) AllReadyH.nil
            go_simp
            have hs3 := (Below.refl w4.heap.size w4).alloc (Nat.le_refl _) (.cells #[(.func (.func 91) #[] #[]), .int .i64 4, (.func (.func 92) #[] #[])] 112)
            have hkb : KB (w4.alloc (.cells #[(.func (.func 91) #[] #[]), .int .i64 4, (.func (.func 92) #[] #[])] 112)) w4.heap.size (.func (.func 91) #[] #[]) 4 (.func (.func 92) #[] #[]) := World.alloc_heap_new w4 _
            refine hK.out _ _ ⟨hm.below hs3, gr hb1 hs3⟩ (fun hHeld => ?_)
            clear hK
            try simp only [Act.put, List.setIfInBounds_toArray, List.set_cons_zero, List.set_cons_succ]
            refine wpAnyH_done (by kernel_rfl) ?_ _
            refine NoPanic.normal ?_
            clear hHeld hlk
            go_wp2_with fail
            go_meet
            exact ⟨_, rfl, hkb, gr hb1 hs3⟩
          · go_simp
            have hs2 := (Below.refl w3.heap.size w3).alloc (Nat.le_refl _) (.cells #[.nilFunc, .int .i64 0, .nilFunc] 112)
            have hkn : KB (w3.alloc (.cells #[.nilFunc, .int .i64 0, .nilFunc] 112)) w3.heap.size .nilFunc 0 .nilFunc := World.alloc_heap_new w3 _
            have hln : w3.heap.size < (w3.alloc (.cells #[.nilFunc, .int .i64 0, .nilFunc] 112)).heap.size := by simp
            refine hK.out _ _ (hC2.below hs2.drew hC2.lt).cells.2.1 (fun hHeld => ?_)
            clear hK
            try simp only [Act.put, List.setIfInBounds_toArray, List.set_cons_zero, List.set_cons_succ]
            refine wpAnyH_ready (rs := [0]) (by kernel_rfl) (by simp) ?_
            refine AllReadyH.consL (i := 0) rfl (fun K hK => ?_) AllReadyH.nil
            go_simp
            refine (skinds_any _).mono ?_
            rintro e w4 ⟨r, rfl, hm, hb1, hr1⟩
            replace hr1 : w3.heap.size < r := Nat.lt_of_lt_of_le hln hr1
            replace hkn : KB w4 w3.heap.size .nilFunc 0 .nilFunc := (hb1.block _ hln).trans hkn
            replace hb1 := gr hs2.drew hb1
            refine hK.out _ _ (hC2.below hb1 hC2.lt).cells.2.1 (fun hHeld => ?_)
            clear hK hHeld
            refine wpAnyH_more (S' := fun w' => IMap w' r .i64 SKinds ∧ Below w3.heap.size w3 w') (fun w' h => (hC2.below h.2 hC2.lt).cells.2.1) ?_
            have hHeld : IMap w4 r .i64 SKinds ∧ Below w3.heap.size w3 w4 := ⟨hm, hb1⟩
            try simp only [Act.put, List.setIfInBounds_toArray, List.set_cons_zero, List.set_cons_succ]
            refine wpAnyH_takeL (i := 3) (v := ?vhy68) rfl (by kernel_rfl) (by kernel_rfl) (by kernel_rfl) (fun _ _ _ h => h) (Or.inl ⟨by rfl, ?hy68⟩) (by assumption) ?rhy68
            case hy68 => ((intro w hSw; (try dsimp only at hSw); go_simp); try with_reducible rfl)
            try simp only [Act.put, List.setIfInBounds_toArray, List.set_cons_zero, List.set_cons_succ]
            have hkc := hkn.cells
            have hf0 := hkn.frozen 0
            have hf1 := hkn.frozen 1
            have hf2 := hkn.frozen 2
            refine wpAnyH_ready (rs := [5]) (by kernel_rfl) (by simp) ?_
            refine AllReadyH.consL (i := 5) rfl (fun K hK => ?_) AllReadyH.nil
            go_simp
            have hkb := hkn.put (.func (.func 91) #[] #[]) 4 (.func (.func 92) #[] #[])
            have hb2 := ((hb1.setCell (p := ⟨w3.heap.size, 0, none⟩) (Nat.le_refl _) (.func (.func 91) #[] #[])).setCell (p := ⟨w3.heap.size, 1, none⟩) (Nat.le_refl _) (.int .i64 4)).setCell (p := ⟨w3.heap.size, 2, none⟩) (Nat.le_refl _) (.func (.func 92) #[] #[])
            have hm1 := ((hm.kept (grownBy_setCell_at w4 ⟨w3.heap.size, 0, none⟩ (.func (.func 91) #[] #[])) (by simp; omega)).kept (grownBy_setCell_at _ ⟨w3.heap.size, 1, none⟩ (.int .i64 4)) (by simp; omega)).kept (grownBy_setCell_at _ ⟨w3.heap.size, 2, none⟩ (.func (.func 92) #[] #[])) (by simp; omega)
            refine hK.out _ _ ⟨hm1, hb2⟩ (fun hHeld => ?_)
            clear hK
            try simp only [Act.put, List.setIfInBounds_toArray, List.set_cons_zero, List.set_cons_succ]
            refine wpAnyH_done (by kernel_rfl) ?_ _
            refine NoPanic.normal ?_
            clear hHeld hlk hf0 hf1 hf2 hkc
            go_wp2_with fail
            go_meet
            exact ⟨_, rfl, hkb, hb2⟩
        case rest =>
          obtain ⟨B, rfl, hk, hbx⟩ := hcut
          have hb3 := gr b2 hbx
          have hC3 := hC2.below hbx hC2.lt
          have hV3 := hV2.below hbx hV2.lt
          have cc3 := hC3.cells
          have cv3 := hV3.cells
          have ck3 := hk.cells
          clear hbx hC2 hV2 hlk cc2 cv2
          generalize wc = w4 at *
          go_wp2
          go_ret
          exact ⟨_, rfl, .inl ⟨rfl, rfl⟩, hb3⟩
    · rw [if_neg hk0] at hF
      have e0 : (xk == 0) = false := by simpa using hk0
      clear hk0
      by_cases hkt : xk = 4
      · subst hkt
        rw [if_neg (by simp)] at hF
        replace hrm := Lib.hid (hrm.out rfl)
        cases rm
        · obtain rfl : F = 133 := hF
          go_enter Tryz.func34, Tryz.ntmps34
          go_wp2_with fail
          rw [hw1.out]
          clear hw1
          refine (hcl.out _).mono ?_
          rintro e w2 ⟨rfl, g1⟩
          have b1 := gr hb g1
          have hC1 := hC.below g1 hC.lt
          have hV1 := hV.below g1 hV.lt
          have cc1 := hC1.cells
          have cv1 := hV1.cells
          clear g1 hcl hC hV hb
          go_wp2_with fail
          refine (hck.out _).mono ?_
          rintro e w3 ⟨rfl, g2⟩
          have b2 := gr b1 g2
          have hC2 := hC1.below g2 hC1.lt
          have hV2 := hV1.below g2 hV1.lt
          have cc2 := hC2.cells
          have cv2 := hV2.cells
          clear g2 hck hC1 hV1 b1 cc1 cv1
          go_upto_region 6 with fail
          go_cut [6] from 27 to 30 (fun s6 wx => ∃ B : Nat, s6 = .pointer (some ⟨B, 0, none⟩) ∧ KB wx B (.func (.func 91) #[] #[]) 4 (.func (.func 92) #[] #[]) ∧ Below w3.heap.size w3 wx)
          case first =>
            refine wp_region_noPanic ?_
            refine wp_region_held_drew (S := fun w' => w'.cell? ⟨w.heap.size, 1, none⟩ = some (.int .i64 4)) (by kernel_rfl) (hC2.below ((Below.refl _ w3).drew) hC2.lt).cells.2.1 (fun hHeld => ?_)
            refine wpAnyH_takeL (i := 1) (v := ?vhy69) rfl (by kernel_rfl) (by kernel_rfl) (by kernel_rfl) (fun _ _ _ h => h) (Or.inl ⟨by rfl, ?hy69⟩) (by assumption) ?rhy69
            case hy69 => ((intro w hSw; (try dsimp only at hSw); go_simp); try with_reducible rfl)
            try simp only [Act.put, List.setIfInBounds_toArray, List.set_cons_zero, List.set_cons_succ]
            refine wpAnyH_takeL (i := 2) (v := ?vhy70) rfl (by kernel_rfl) (by kernel_rfl) (by kernel_rfl) (fun _ _ _ h => h) (Or.inl ⟨by rfl, ?hy70⟩) (by assumption) ?rhy70
            case hy70 => ((intro w hSw; (try dsimp only at hSw); go_simp); try with_reducible rfl)
            try simp only [Act.put, List.setIfInBounds_toArray, List.set_cons_zero, List.set_cons_succ]
            refine wpAnyH_ready (rs := [0, 4]) (by kernel_rfl) (by simp) ?_
            refine AllReadyH.consL (i := 0) rfl (fun K hK => ?_) (AllReadyH.consL (i := 4) rfl (fun K hK => ?_) AllReadyH.nil)
            · go_simp
              refine (skinds_any _).mono ?_
              rintro e w4 ⟨r, rfl, hm, hb1, hr1⟩
              replace hb1 := gr ((Below.refl _ w3).drew) hb1
              refine hK.out _ _ (hC2.below hb1 hC2.lt).cells.2.1 (fun hHeld => ?_)
              clear hK hHeld
              refine wpAnyH_more (S' := fun w' => IMap w' r .i64 SKinds ∧ Below w3.heap.size w3 w') (fun w' h => (hC2.below h.2 hC2.lt).cells.2.1) ?_
              have hHeld : IMap w4 r .i64 SKinds ∧ Below w3.heap.size w3 w4 := ⟨hm, hb1⟩
              try simp only [Act.put, List.setIfInBounds_toArray, List.set_cons_zero, List.set_cons_succ]
              refine wpAnyH_takeL (i := 3) (v := ?vhy71) rfl (by kernel_rfl) (by kernel_rfl) (by kernel_rfl) (fun _ _ _ h => h) (Or.inl ⟨by rfl, ?hy71⟩) (by assumption) ?rhy71
              case hy71 => ((intro w hSw; (try dsimp only at hSw); go_simp); try with_reducible rfl)
              try simp only [Act.put, List.setIfInBounds_toArray, List.set_cons_zero, List.set_cons_succ]
              refine wpAnyH_ready (rs := [4]) (by kernel_rfl) (by simp) ?_
              refine AllReadyH.consL (i := 4) rfl (fun K hK => ?_) AllReadyH.nil
              go_simp
              have hs2 := (Below.refl w4.heap.size w4).alloc (Nat.le_refl _) (.cells #[.nilFunc, .int .i64 0, .nilFunc] 112)
              refine hK.out _ _ ⟨hm.below hs2, gr hb1 hs2⟩ (fun hHeld => ?_)
              clear hK
              try simp only [Act.put, List.setIfInBounds_toArray, List.set_cons_zero, List.set_cons_succ]
              refine wpAnyH_ready (rs := [5]) (by kernel_rfl) (by simp) ?_
              refine AllReadyH.consL (i := 5) rfl (fun K hK => ?_) AllReadyH.nil
              go_simp
              have hs3 := (Below.refl w4.heap.size w4).alloc (Nat.le_refl _) (.cells #[(.func (.func 91) #[] #[]), .int .i64 4, (.func (.func 92) #[] #[])] 112)
              have hkb : KB (w4.alloc (.cells #[(.func (.func 91) #[] #[]), .int .i64 4, (.func (.func 92) #[] #[])] 112)) w4.heap.size (.func (.func 91) #[] #[]) 4 (.func (.func 92) #[] #[]) := World.alloc_heap_new w4 _
              refine hK.out _ _ ⟨hm.below hs3, gr hb1 hs3⟩ (fun hHeld => ?_)
              clear hK
              try simp only [Act.put, List.setIfInBounds_toArray, List.set_cons_zero, List.set_cons_succ]
              refine wpAnyH_done (by kernel_rfl) ?_ _
              refine NoPanic.normal ?_
              clear hHeld hlk
              go_wp2_with fail
              go_meet
              exact ⟨_, rfl, hkb, gr hb1 hs3⟩
            · go_simp
              have hs2 := (Below.refl w3.heap.size w3).alloc (Nat.le_refl _) (.cells #[.nilFunc, .int .i64 0, .nilFunc] 112)
              have hkn : KB (w3.alloc (.cells #[.nilFunc, .int .i64 0, .nilFunc] 112)) w3.heap.size .nilFunc 0 .nilFunc := World.alloc_heap_new w3 _
              have hln : w3.heap.size < (w3.alloc (.cells #[.nilFunc, .int .i64 0, .nilFunc] 112)).heap.size := by simp
              refine hK.out _ _ (hC2.below hs2.drew hC2.lt).cells.2.1 (fun hHeld => ?_)
              clear hK
              try simp only [Act.put, List.setIfInBounds_toArray, List.set_cons_zero, List.set_cons_succ]
              refine wpAnyH_ready (rs := [0]) (by kernel_rfl) (by simp) ?_
              refine AllReadyH.consL (i := 0) rfl (fun K hK => ?_) AllReadyH.nil
              go_simp
              refine (skinds_any _).mono ?_
              rintro e w4 ⟨r, rfl, hm, hb1, hr1⟩
              replace hr1 : w3.heap.size < r := Nat.lt_of_lt_of_le hln hr1
              replace hkn : KB w4 w3.heap.size .nilFunc 0 .nilFunc := (hb1.block _ hln).trans hkn
              replace hb1 := gr hs2.drew hb1
              refine hK.out _ _ (hC2.below hb1 hC2.lt).cells.2.1 (fun hHeld => ?_)
              clear hK hHeld
              refine wpAnyH_more (S' := fun w' => IMap w' r .i64 SKinds ∧ Below w3.heap.size w3 w') (fun w' h => (hC2.below h.2 hC2.lt).cells.2.1) ?_
              have hHeld : IMap w4 r .i64 SKinds ∧ Below w3.heap.size w3 w4 := ⟨hm, hb1⟩
              try simp only [Act.put, List.setIfInBounds_toArray, List.set_cons_zero, List.set_cons_succ]
              refine wpAnyH_takeL (i := 3) (v := ?vhy72) rfl (by kernel_rfl) (by kernel_rfl) (by kernel_rfl) (fun _ _ _ h => h) (Or.inl ⟨by rfl, ?hy72⟩) (by assumption) ?rhy72
              case hy72 => ((intro w hSw; (try dsimp only at hSw); go_simp); try with_reducible rfl)
              try simp only [Act.put, List.setIfInBounds_toArray, List.set_cons_zero, List.set_cons_succ]
              have hkc := hkn.cells
              have hf0 := hkn.frozen 0
              have hf1 := hkn.frozen 1
              have hf2 := hkn.frozen 2
              refine wpAnyH_ready (rs := [5]) (by kernel_rfl) (by simp) ?_
              refine AllReadyH.consL (i := 5) rfl (fun K hK => ?_) AllReadyH.nil
              go_simp
              have hkb := hkn.put (.func (.func 91) #[] #[]) 4 (.func (.func 92) #[] #[])
              have hb2 := ((hb1.setCell (p := ⟨w3.heap.size, 0, none⟩) (Nat.le_refl _) (.func (.func 91) #[] #[])).setCell (p := ⟨w3.heap.size, 1, none⟩) (Nat.le_refl _) (.int .i64 4)).setCell (p := ⟨w3.heap.size, 2, none⟩) (Nat.le_refl _) (.func (.func 92) #[] #[])
              have hm1 := ((hm.kept (grownBy_setCell_at w4 ⟨w3.heap.size, 0, none⟩ (.func (.func 91) #[] #[])) (by simp; omega)).kept (grownBy_setCell_at _ ⟨w3.heap.size, 1, none⟩ (.int .i64 4)) (by simp; omega)).kept (grownBy_setCell_at _ ⟨w3.heap.size, 2, none⟩ (.func (.func 92) #[] #[])) (by simp; omega)
              refine hK.out _ _ ⟨hm1, hb2⟩ (fun hHeld => ?_)
              clear hK
              try simp only [Act.put, List.setIfInBounds_toArray, List.set_cons_zero, List.set_cons_succ]
              refine wpAnyH_done (by kernel_rfl) ?_ _
              refine NoPanic.normal ?_
              clear hHeld hlk hf0 hf1 hf2 hkc
              go_wp2_with fail
              go_meet
              exact ⟨_, rfl, hkb, hb2⟩
          case rest =>
            obtain ⟨B, rfl, hk, hbx⟩ := hcut
            have hb3 := gr b2 hbx
            have hC3 := hC2.below hbx hC2.lt
            have hV3 := hV2.below hbx hV2.lt
            have cc3 := hC3.cells
            have cv3 := hV3.cells
            have ck3 := hk.cells
            clear hbx hC2 hV2 hlk cc2 cv2
            generalize wc = w4 at *
            have eF := enters_of Tryz.func92 (by kernel_rfl) rfl
            go_wp2_with fail
            refine (hrm.out _).mono ?_
            rintro e w5 ⟨rfl, g5⟩
            have hb5 := gr hb3 g5
            have hC5 := hC3.below g5 hC3.lt
            have cc5 := hC5.cells
            clear hrm g5 cc3 cv3 ck3
            go_wp2
            go_ret
            exact ⟨_, rfl, .inr ⟨by decide, _, rfl, by simp⟩, gr_alloc hb5 _⟩
        · obtain rfl : F = 0 := hF
          go_enter Tryz.func34, Tryz.ntmps34
          go_wp2_with fail
          rw [hw1.out]
          clear hw1
          refine (hcl.out _).mono ?_
          rintro e w2 ⟨rfl, g1⟩
          have b1 := gr hb g1
          have hC1 := hC.below g1 hC.lt
          have hV1 := hV.below g1 hV.lt
          have cc1 := hC1.cells
          have cv1 := hV1.cells
          clear g1 hcl hC hV hb
          go_wp2_with fail
          refine (hck.out _).mono ?_
          rintro e w3 ⟨rfl, g2⟩
          have b2 := gr b1 g2
          have hC2 := hC1.below g2 hC1.lt
          have hV2 := hV1.below g2 hV1.lt
          have cc2 := hC2.cells
          have cv2 := hV2.cells
          clear g2 hck hC1 hV1 b1 cc1 cv1
          go_upto_region 6 with fail
          go_cut [6] from 27 to 30 (fun s6 wx => ∃ B : Nat, s6 = .pointer (some ⟨B, 0, none⟩) ∧ KB wx B (.func (.func 91) #[] #[]) 4 (.func (.func 92) #[] #[]) ∧ Below w3.heap.size w3 wx)
          case first =>
            refine wp_region_noPanic ?_
            refine wp_region_held_drew (S := fun w' => w'.cell? ⟨w.heap.size, 1, none⟩ = some (.int .i64 4)) (by kernel_rfl) (hC2.below ((Below.refl _ w3).drew) hC2.lt).cells.2.1 (fun hHeld => ?_)
            refine wpAnyH_takeL (i := 1) (v := ?vhy73) rfl (by kernel_rfl) (by kernel_rfl) (by kernel_rfl) (fun _ _ _ h => h) (Or.inl ⟨by rfl, ?hy73⟩) (by assumption) ?rhy73
            case hy73 => ((intro w hSw; (try dsimp only at hSw); go_simp); try with_reducible rfl)
            try simp only [Act.put, List.setIfInBounds_toArray, List.set_cons_zero, List.set_cons_succ]
            refine wpAnyH_takeL (i := 2) (v := ?vhy74) rfl (by kernel_rfl) (by kernel_rfl) (by kernel_rfl) (fun _ _ _ h => h) (Or.inl ⟨by rfl, ?hy74⟩) (by assumption) ?rhy74
            case hy74 => ((intro w hSw; (try dsimp only at hSw); go_simp); try with_reducible rfl)
            try simp only [Act.put, List.setIfInBounds_toArray, List.set_cons_zero, List.set_cons_succ]
            refine wpAnyH_ready (rs := [0, 4]) (by kernel_rfl) (by simp) ?_
            refine AllReadyH.consL (i := 0) rfl (fun K hK => ?_) (AllReadyH.consL (i := 4) rfl (fun K hK => ?_) AllReadyH.nil)
            · go_simp
              refine (skinds_any _).mono ?_
              rintro e w4 ⟨r, rfl, hm, hb1, hr1⟩
              replace hb1 := gr ((Below.refl _ w3).drew) hb1
              refine hK.out _ _ (hC2.below hb1 hC2.lt).cells.2.1 (fun hHeld => ?_)
              clear hK hHeld
              refine wpAnyH_more (S' := fun w' => IMap w' r .i64 SKinds ∧ Below w3.heap.size w3 w') (fun w' h => (hC2.below h.2 hC2.lt).cells.2.1) ?_
              have hHeld : IMap w4 r .i64 SKinds ∧ Below w3.heap.size w3 w4 := ⟨hm, hb1⟩
              try simp only [Act.put, List.setIfInBounds_toArray, List.set_cons_zero, List.set_cons_succ]
              refine wpAnyH_takeL (i := 3) (v := ?vhy75) rfl (by kernel_rfl) (by kernel_rfl) (by kernel_rfl) (fun _ _ _ h => h) (Or.inl ⟨by rfl, ?hy75⟩) (by assumption) ?rhy75
              case hy75 => ((intro w hSw; (try dsimp only at hSw); go_simp); try with_reducible rfl)
              try simp only [Act.put, List.setIfInBounds_toArray, List.set_cons_zero, List.set_cons_succ]
              refine wpAnyH_ready (rs := [4]) (by kernel_rfl) (by simp) ?_
              refine AllReadyH.consL (i := 4) rfl (fun K hK => ?_) AllReadyH.nil
              go_simp
              have hs2 := (Below.refl w4.heap.size w4).alloc (Nat.le_refl _) (.cells #[.nilFunc, .int .i64 0, .nilFunc] 112)
              refine hK.out _ _ ⟨hm.below hs2, gr hb1 hs2⟩ (fun hHeld => ?_)
              clear hK
              try simp only [Act.put, List.setIfInBounds_toArray, List.set_cons_zero, List.set_cons_succ]
              refine wpAnyH_ready (rs := [5]) (by kernel_rfl) (by simp) ?_
              refine AllReadyH.consL (i := 5) rfl (fun K hK => ?_) AllReadyH.nil
              go_simp
              have hs3 := (Below.refl w4.heap.size w4).alloc (Nat.le_refl _) (.cells #[(.func (.func 91) #[] #[]), .int .i64 4, (.func (.func 92) #[] #[])] 112)
              have hkb : KB (w4.alloc (.cells #[(.func (.func 91) #[] #[]), .int .i64 4, (.func (.func 92) #[] #[])] 112)) w4.heap.size (.func (.func 91) #[] #[]) 4 (.func (.func 92) #[] #[]) := World.alloc_heap_new w4 _
              refine hK.out _ _ ⟨hm.below hs3, gr hb1 hs3⟩ (fun hHeld => ?_)
              clear hK
              try simp only [Act.put, List.setIfInBounds_toArray, List.set_cons_zero, List.set_cons_succ]
              refine wpAnyH_done (by kernel_rfl) ?_ _
              refine NoPanic.normal ?_
              clear hHeld hlk
              go_wp2_with fail
              go_meet
              exact ⟨_, rfl, hkb, gr hb1 hs3⟩
            · go_simp
              have hs2 := (Below.refl w3.heap.size w3).alloc (Nat.le_refl _) (.cells #[.nilFunc, .int .i64 0, .nilFunc] 112)
              have hkn : KB (w3.alloc (.cells #[.nilFunc, .int .i64 0, .nilFunc] 112)) w3.heap.size .nilFunc 0 .nilFunc := World.alloc_heap_new w3 _
              have hln : w3.heap.size < (w3.alloc (.cells #[.nilFunc, .int .i64 0, .nilFunc] 112)).heap.size := by simp
              refine hK.out _ _ (hC2.below hs2.drew hC2.lt).cells.2.1 (fun hHeld => ?_)
              clear hK
              try simp only [Act.put, List.setIfInBounds_toArray, List.set_cons_zero, List.set_cons_succ]
              refine wpAnyH_ready (rs := [0]) (by kernel_rfl) (by simp) ?_
              refine AllReadyH.consL (i := 0) rfl (fun K hK => ?_) AllReadyH.nil
              go_simp
              refine (skinds_any _).mono ?_
              rintro e w4 ⟨r, rfl, hm, hb1, hr1⟩
              replace hr1 : w3.heap.size < r := Nat.lt_of_lt_of_le hln hr1
              replace hkn : KB w4 w3.heap.size .nilFunc 0 .nilFunc := (hb1.block _ hln).trans hkn
              replace hb1 := gr hs2.drew hb1
              refine hK.out _ _ (hC2.below hb1 hC2.lt).cells.2.1 (fun hHeld => ?_)
              clear hK hHeld
              refine wpAnyH_more (S' := fun w' => IMap w' r .i64 SKinds ∧ Below w3.heap.size w3 w') (fun w' h => (hC2.below h.2 hC2.lt).cells.2.1) ?_
              have hHeld : IMap w4 r .i64 SKinds ∧ Below w3.heap.size w3 w4 := ⟨hm, hb1⟩
              try simp only [Act.put, List.setIfInBounds_toArray, List.set_cons_zero, List.set_cons_succ]
              refine wpAnyH_takeL (i := 3) (v := ?vhy76) rfl (by kernel_rfl) (by kernel_rfl) (by kernel_rfl) (fun _ _ _ h => h) (Or.inl ⟨by rfl, ?hy76⟩) (by assumption) ?rhy76
              case hy76 => ((intro w hSw; (try dsimp only at hSw); go_simp); try with_reducible rfl)
              try simp only [Act.put, List.setIfInBounds_toArray, List.set_cons_zero, List.set_cons_succ]
              have hkc := hkn.cells
              have hf0 := hkn.frozen 0
              have hf1 := hkn.frozen 1
              have hf2 := hkn.frozen 2
              refine wpAnyH_ready (rs := [5]) (by kernel_rfl) (by simp) ?_
              refine AllReadyH.consL (i := 5) rfl (fun K hK => ?_) AllReadyH.nil
              go_simp
              have hkb := hkn.put (.func (.func 91) #[] #[]) 4 (.func (.func 92) #[] #[])
              have hb2 := ((hb1.setCell (p := ⟨w3.heap.size, 0, none⟩) (Nat.le_refl _) (.func (.func 91) #[] #[])).setCell (p := ⟨w3.heap.size, 1, none⟩) (Nat.le_refl _) (.int .i64 4)).setCell (p := ⟨w3.heap.size, 2, none⟩) (Nat.le_refl _) (.func (.func 92) #[] #[])
              have hm1 := ((hm.kept (grownBy_setCell_at w4 ⟨w3.heap.size, 0, none⟩ (.func (.func 91) #[] #[])) (by simp; omega)).kept (grownBy_setCell_at _ ⟨w3.heap.size, 1, none⟩ (.int .i64 4)) (by simp; omega)).kept (grownBy_setCell_at _ ⟨w3.heap.size, 2, none⟩ (.func (.func 92) #[] #[])) (by simp; omega)
              refine hK.out _ _ ⟨hm1, hb2⟩ (fun hHeld => ?_)
              clear hK
              try simp only [Act.put, List.setIfInBounds_toArray, List.set_cons_zero, List.set_cons_succ]
              refine wpAnyH_done (by kernel_rfl) ?_ _
              refine NoPanic.normal ?_
              clear hHeld hlk hf0 hf1 hf2 hkc
              go_wp2_with fail
              go_meet
              exact ⟨_, rfl, hkb, hb2⟩
          case rest =>
            obtain ⟨B, rfl, hk, hbx⟩ := hcut
            have hb3 := gr b2 hbx
            have hC3 := hC2.below hbx hC2.lt
            have hV3 := hV2.below hbx hV2.lt
            have cc3 := hC3.cells
            have cv3 := hV3.cells
            have ck3 := hk.cells
            clear hbx hC2 hV2 hlk cc2 cv2
            generalize wc = w4 at *
            have eF := enters_of Tryz.func92 (by kernel_rfl) rfl
            go_wp2_with fail
            refine (hrm.out _).mono ?_
            rintro e w5 ⟨rfl, g5⟩
            have hb5 := gr hb3 g5
            clear hrm g5 cc3 cv3 ck3
            go_wp2
            go_ret
            exact ⟨_, rfl, .inl ⟨rfl, rfl⟩, hb5⟩
      · rw [if_pos hkt] at hF
        subst hF
        have et : (xk != 4) = true := by simpa using hkt
        clear hrm hkt
        go_enter Tryz.func34, Tryz.ntmps34
        go_wp2_with fail
        rw [hw1.out]
        clear hw1
        refine (hcl.out _).mono ?_
        rintro e w2 ⟨rfl, g1⟩
        have b1 := gr hb g1
        have hC1 := hC.below g1 hC.lt
        have hV1 := hV.below g1 hV.lt
        have cc1 := hC1.cells
        have cv1 := hV1.cells
        clear g1 hcl hC hV hb
        go_wp2_with fail
        refine (hck.out _).mono ?_
        rintro e w3 ⟨rfl, g2⟩
        have b2 := gr b1 g2
        have hC2 := hC1.below g2 hC1.lt
        have hV2 := hV1.below g2 hV1.lt
        have cc2 := hC2.cells
        have cv2 := hV2.cells
        clear g2 hck hC1 hV1 b1 cc1 cv1
        go_upto_region 6 with fail
        go_cut [6] from 27 to 30 (fun s6 wx => ∃ B : Nat, s6 = .pointer (some ⟨B, 0, none⟩) ∧ KB wx B (.func (.func 91) #[] #[]) 4 (.func (.func 92) #[] #[]) ∧ Below w3.heap.size w3 wx)
        case first =>
          refine wp_region_noPanic ?_
          refine wp_region_held_drew (S := fun w' => w'.cell? ⟨w.heap.size, 1, none⟩ = some (.int .i64 4)) (by kernel_rfl) (hC2.below ((Below.refl _ w3).drew) hC2.lt).cells.2.1 (fun hHeld => ?_)
          refine wpAnyH_takeL (i := 1) (v := ?vhy77) rfl (by kernel_rfl) (by kernel_rfl) (by kernel_rfl) (fun _ _ _ h => h) (Or.inl ⟨by rfl, ?hy77⟩) (by assumption) ?rhy77
          case hy77 => ((intro w hSw; (try dsimp only at hSw); go_simp); try with_reducible rfl)
          try simp only [Act.put, List.setIfInBounds_toArray, List.set_cons_zero, List.set_cons_succ]
          refine wpAnyH_takeL (i := 2) (v := ?vhy78) rfl (by kernel_rfl) (by kernel_rfl) (by kernel_rfl) (fun _ _ _ h => h) (Or.inl ⟨by rfl, ?hy78⟩) (by assumption) ?rhy78
          case hy78 => ((intro w hSw; (try dsimp only at hSw); go_simp); try with_reducible rfl)
          try simp only [Act.put, List.setIfInBounds_toArray, List.set_cons_zero, List.set_cons_succ]
          refine wpAnyH_ready (rs := [0, 4]) (by kernel_rfl) (by simp) ?_
          refine AllReadyH.consL (i := 0) rfl (fun K hK => ?_) (AllReadyH.consL (i := 4) rfl (fun K hK => ?_) AllReadyH.nil)
          · go_simp
            refine (skinds_any _).mono ?_
            rintro e w4 ⟨r, rfl, hm, hb1, hr1⟩
            replace hb1 := gr ((Below.refl _ w3).drew) hb1
            refine hK.out _ _ (hC2.below hb1 hC2.lt).cells.2.1 (fun hHeld => ?_)
            clear hK hHeld
            refine wpAnyH_more (S' := fun w' => IMap w' r .i64 SKinds ∧ Below w3.heap.size w3 w') (fun w' h => (hC2.below h.2 hC2.lt).cells.2.1) ?_
            have hHeld : IMap w4 r .i64 SKinds ∧ Below w3.heap.size w3 w4 := ⟨hm, hb1⟩
            try simp only [Act.put, List.setIfInBounds_toArray, List.set_cons_zero, List.set_cons_succ]
            refine wpAnyH_takeL (i := 3) (v := ?vhy79) rfl (by kernel_rfl) (by kernel_rfl) (by kernel_rfl) (fun _ _ _ h => h) (Or.inl ⟨by rfl, ?hy79⟩) (by assumption) ?rhy79
            case hy79 => ((intro w hSw; (try dsimp only at hSw); go_simp); try with_reducible rfl)
            try simp only [Act.put, List.setIfInBounds_toArray, List.set_cons_zero, List.set_cons_succ]
            refine wpAnyH_ready (rs := [4]) (by kernel_rfl) (by simp) ?_
            refine AllReadyH.consL (i := 4) rfl (fun K hK => ?_) AllReadyH.nil
            go_simp
            have hs2 := (Below.refl w4.heap.size w4).alloc (Nat.le_refl _) (.cells #[.nilFunc, .int .i64 0, .nilFunc] 112)
            refine hK.out _ _ ⟨hm.below hs2, gr hb1 hs2⟩ (fun hHeld => ?_)
            clear hK
            try simp only [Act.put, List.setIfInBounds_toArray, List.set_cons_zero, List.set_cons_succ]
            refine wpAnyH_ready (rs := [5]) (by kernel_rfl) (by simp) ?_
            refine AllReadyH.consL (i := 5) rfl (fun K hK => ?_) AllReadyH.nil
            go_simp
            have hs3 := (Below.refl w4.heap.size w4).alloc (Nat.le_refl _) (.cells #[(.func (.func 91) #[] #[]), .int .i64 4, (.func (.func 92) #[] #[])] 112)
            have hkb : KB (w4.alloc (.cells #[(.func (.func 91) #[] #[]), .int .i64 4, (.func (.func 92) #[] #[])] 112)) w4.heap.size (.func (.func 91) #[] #[]) 4 (.func (.func 92) #[] #[]) := World.alloc_heap_new w4 _
            refine hK.out _ _ ⟨hm.below hs3, gr hb1 hs3⟩ (fun hHeld => ?_)
            clear hK
            try simp only [Act.put, List.setIfInBounds_toArray, List.set_cons_zero, List.set_cons_succ]
            refine wpAnyH_done (by kernel_rfl) ?_ _
            refine NoPanic.normal ?_
            clear hHeld hlk
            go_wp2_with fail
            go_meet
            exact ⟨_, rfl, hkb, gr hb1 hs3⟩
          · go_simp
            have hs2 := (Below.refl w3.heap.size w3).alloc (Nat.le_refl _) (.cells #[.nilFunc, .int .i64 0, .nilFunc] 112)
            have hkn : KB (w3.alloc (.cells #[.nilFunc, .int .i64 0, .nilFunc] 112)) w3.heap.size .nilFunc 0 .nilFunc := World.alloc_heap_new w3 _
            have hln : w3.heap.size < (w3.alloc (.cells #[.nilFunc, .int .i64 0, .nilFunc] 112)).heap.size := by simp
            refine hK.out _ _ (hC2.below hs2.drew hC2.lt).cells.2.1 (fun hHeld => ?_)
            clear hK
            try simp only [Act.put, List.setIfInBounds_toArray, List.set_cons_zero, List.set_cons_succ]
            refine wpAnyH_ready (rs := [0]) (by kernel_rfl) (by simp) ?_
            refine AllReadyH.consL (i := 0) rfl (fun K hK => ?_) AllReadyH.nil
            go_simp
            refine (skinds_any _).mono ?_
            rintro e w4 ⟨r, rfl, hm, hb1, hr1⟩
            replace hr1 : w3.heap.size < r := Nat.lt_of_lt_of_le hln hr1
            replace hkn : KB w4 w3.heap.size .nilFunc 0 .nilFunc := (hb1.block _ hln).trans hkn
            replace hb1 := gr hs2.drew hb1
            refine hK.out _ _ (hC2.below hb1 hC2.lt).cells.2.1 (fun hHeld => ?_)
            clear hK hHeld
            refine wpAnyH_more (S' := fun w' => IMap w' r .i64 SKinds ∧ Below w3.heap.size w3 w') (fun w' h => (hC2.below h.2 hC2.lt).cells.2.1) ?_
            have hHeld : IMap w4 r .i64 SKinds ∧ Below w3.heap.size w3 w4 := ⟨hm, hb1⟩
            try simp only [Act.put, List.setIfInBounds_toArray, List.set_cons_zero, List.set_cons_succ]
            refine wpAnyH_takeL (i := 3) (v := ?vhy80) rfl (by kernel_rfl) (by kernel_rfl) (by kernel_rfl) (fun _ _ _ h => h) (Or.inl ⟨by rfl, ?hy80⟩) (by assumption) ?rhy80
            case hy80 => ((intro w hSw; (try dsimp only at hSw); go_simp); try with_reducible rfl)
            try simp only [Act.put, List.setIfInBounds_toArray, List.set_cons_zero, List.set_cons_succ]
            have hkc := hkn.cells
            have hf0 := hkn.frozen 0
            have hf1 := hkn.frozen 1
            have hf2 := hkn.frozen 2
            refine wpAnyH_ready (rs := [5]) (by kernel_rfl) (by simp) ?_
            refine AllReadyH.consL (i := 5) rfl (fun K hK => ?_) AllReadyH.nil
            go_simp
            have hkb := hkn.put (.func (.func 91) #[] #[]) 4 (.func (.func 92) #[] #[])
            have hb2 := ((hb1.setCell (p := ⟨w3.heap.size, 0, none⟩) (Nat.le_refl _) (.func (.func 91) #[] #[])).setCell (p := ⟨w3.heap.size, 1, none⟩) (Nat.le_refl _) (.int .i64 4)).setCell (p := ⟨w3.heap.size, 2, none⟩) (Nat.le_refl _) (.func (.func 92) #[] #[])
            have hm1 := ((hm.kept (grownBy_setCell_at w4 ⟨w3.heap.size, 0, none⟩ (.func (.func 91) #[] #[])) (by simp; omega)).kept (grownBy_setCell_at _ ⟨w3.heap.size, 1, none⟩ (.int .i64 4)) (by simp; omega)).kept (grownBy_setCell_at _ ⟨w3.heap.size, 2, none⟩ (.func (.func 92) #[] #[])) (by simp; omega)
            refine hK.out _ _ ⟨hm1, hb2⟩ (fun hHeld => ?_)
            clear hK
            try simp only [Act.put, List.setIfInBounds_toArray, List.set_cons_zero, List.set_cons_succ]
            refine wpAnyH_done (by kernel_rfl) ?_ _
            refine NoPanic.normal ?_
            clear hHeld hlk hf0 hf1 hf2 hkc
            go_wp2_with fail
            go_meet
            exact ⟨_, rfl, hkb, hb2⟩
        case rest =>
          obtain ⟨B, rfl, hk, hbx⟩ := hcut
          have hb3 := gr b2 hbx
          have hC3 := hC2.below hbx hC2.lt
          have hV3 := hV2.below hbx hV2.lt
          have cc3 := hC3.cells
          have cv3 := hV3.cells
          have ck3 := hk.cells
          clear hbx hC2 hV2 hlk cc2 cv2
          generalize wc = w4 at *
          go_wp2
          go_ret
          exact ⟨_, rfl, .inr ⟨by decide, _, rfl, by simp⟩, gr_alloc hb3 _⟩
  · rw [if_pos h1] at hF
    subst hF
    have hd : ((F : Int) != 0) = true := by simp; omega
    clear hrm hlk
    go_enter Tryz.func34, Tryz.ntmps34
    go_wp2_with fail
    rw [hw1.out]
    clear hw1
    refine (hcl.out _).mono ?_
    rintro e w2 ⟨rfl, g1⟩
    have b1 := gr hb g1
    have hC1 := hC.below g1 hC.lt
    have hV1 := hV.below g1 hV.lt
    have cc1 := hC1.cells
    have cv1 := hV1.cells
    clear g1 hcl hC hV hb
    go_wp2_with fail
    refine (hck.out _).mono ?_
    rintro e w3 ⟨rfl, g2⟩
    have b2 := gr b1 g2
    have hC2 := hC1.below g2 hC1.lt
    have hV2 := hV1.below g2 hV1.lt
    have cc2 := hC2.cells
    have cv2 := hV2.cells
    clear g2 hck hC1 hV1 b1 cc1 cv1
    go_wp2
    go_ret
    exact ⟨_, rfl, .inr ⟨h1, _, rfl, by simp⟩, gr_alloc b2 _⟩
set_option maxRecDepth 100000 in
theorem fits_bad (n : List UInt8) (t z : Int) (nl : Bool) (xk xi xu : Int) (xs : List UInt8) (w : World) (hl : n.length ≤ 100000) (hcv : colV ⟨n, t, z, nl⟩ = false) :
    Calls Tryz.prog 34 #[.agg #[.string (strL n), .int .i64 t, .int .i64 z, .bool nl], .agg #[.int .i64 xk, .int .i64 xi, .int .u64 xu, .string (strL xs)]] w (FitsP w 2) := by
  have hcl := fun W => sright_any ⟨n, t, z, nl⟩ W hl
  have hC := (CBox.new w ⟨n, t, z, nl⟩).below ((Below.refl _ _).alloc (Nat.le_refl _) (.cells #[.int .i64 xk, .int .i64 xi, .int .u64 xu, .string (strL xs)] 28)) (by simp)
  have hV := VBox.new (w.alloc (.cells #[.string (strL n), .int .i64 t, .int .i64 z, .bool nl] 24)) xk xi xu (strL xs)
  rw [World.size_alloc] at hV
  have hb : Below w.heap.size w ((w.alloc (.cells #[.string (strL n), .int .i64 t, .int .i64 z, .bool nl] 24)).alloc (.cells #[.int .i64 xk, .int .i64 xi, .int .u64 xu, .string (strL xs)] 28)) := ((Below.refl _ w).alloc (Nat.le_refl _) _).alloc (by simp) _
  simp only [Cl.val] at hcl
  obtain ⟨w1, hw1⟩ : ∃ w1, ((w.alloc (.cells #[.string (strL n), .int .i64 t, .int .i64 z, .bool nl] 24)).alloc (.cells #[.int .i64 xk, .int .i64 xi, .int .u64 xu, .string (strL xs)] 28)) = w1 := ⟨_, rfl⟩
  rw [hw1] at hC hV hb
  replace hw1 := Lib.hid hw1
  rw [hcv] at hcl
  replace hcl := Lib.hid hcl
  clear hcv hl
  go_enter Tryz.func34, Tryz.ntmps34
  go_wp2_with fail
  rw [hw1.out]
  clear hw1
  refine (hcl.out _).mono ?_
  rintro e w2 ⟨rfl, g1⟩
  have b1 := gr hb g1
  have hC1 := hC.below g1 hC.lt
  have hV1 := hV.below g1 hV.lt
  have cc1 := hC1.cells
  have cv1 := hV1.cells
  clear g1 hcl hC hV hb
  go_wp2
  go_ret
  exact ⟨_, rfl, .inr ⟨by decide, _, rfl, by simp⟩, gr_alloc b1 _⟩
theorem sfits_any (c : Cl) (x : Vl) (w : World) (hl : c.n.length ≤ 100000) (hx : x.Wf) : Calls Tryz.prog 34 #[c.val, x.val] w (FitsP w (fitV c x)) := by
  have h1 := hx.sl
  have h2 := hx.u0
  have h3 := hx.u1
  obtain ⟨n, t, z, nl⟩ := c
  obtain ⟨xk, xi, xu, xs⟩ := x
  dsimp only at *
  cases hcv : colV ⟨n, t, z, nl⟩ with
  | false =>
    have e : fitV ⟨n, t, z, nl⟩ ⟨xk, xi, xu, xs⟩ = 2 := by unfold fitV; rw [hcv, if_pos rfl]
    rw [e]
    exact fits_bad n t z nl xk xi xu xs w hl hcv
  | true =>
    rcases type_four hcv with h | h | h | h
    all_goals
      dsimp only at h
      subst h
    · exact fits_1 n z nl xk xi xu xs w hl h1 hcv h2 h3
    · exact fits_2 n z nl xk xi xu xs w hl h1 hcv h2 h3
    · exact fits_3 n z nl xk xi xu xs w hl h1 hcv h2 h3
    · exact fits_4 n z nl xk xi xu xs w hl h1 hcv h2 h3
set_option maxRecDepth 100000 in
theorem sFits_any (c : Cl) (x : Vl) (w : World) (hE : Env w) (hl : c.n.length ≤ 100000) (hx : x.Wf) : Calls Tryz.prog 14 #[c.val, x.val] w fun e w' => e = .returned (.int .i64 (fitV c x : Int)) ∧ Below w.heap.size w w' := by
  have hc := fun W => sfits_any c x W hl hx
  have hb : Below w.heap.size w ((w.alloc (.cells #[.string (strL c.n), .int .i64 c.t, .int .i64 c.z, .bool c.nl] 24)).alloc (.cells #[.int .i64 x.k, .int .i64 x.i, .int .u64 x.u, .string (strL x.s)] 28)) := ((Below.refl _ w).alloc (Nat.le_refl _) _).alloc (by simp) _
  generalize fitV c x = F at *
  obtain ⟨n, t, z, nl⟩ := c
  obtain ⟨xk, xi, xu, xs⟩ := x
  simp only [Cl.val, Vl.val, valV] at *
  replace hc := Lib.hid hc
  clear hx hl
  go_enter Tryz.func14, Tryz.ntmps14
  go_wp2_with fail
  refine (hc.out _).mono ?_
  rintro e w2 ⟨v, rfl, hv, g1⟩
  have hb2 := gr hb g1
  clear hc g1 hb
  go_wp2_with fail
  refine (snumber_any F v _ (hE.below hb2) hv).mono ?_
  rintro e w3 ⟨rfl, g2⟩
  have hb3 := gr hb2 g2
  clear g2 hv hE
  go_wp2
  go_ret
  exact ⟨rfl, hb3⟩
end Go.Proofs.YtagoooclfcbdeaaGreatDoor
