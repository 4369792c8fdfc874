/- schema.right: which columns may be. -/
import Derived.Test.YtagoooclfcbdeaaGreatDoorColG
import Derived.Laws.EntriesVeiled
import Derived.Deep.CutRange
namespace Go.Proofs.YtagoooclfcbdeaaGreatDoor
open Go.RowKit
set_option linter.unusedVariables false

/-- A type's functions in a box of their own. -/
def KB (W : World) (B : Nat) (f : Value) (k : Int) (g : Value) : Prop := W.heap[B]? = some (.cells #[f, .int .i64 k, g] 112 (0, 0))
theorem KB.lt {W : World} {B : Nat} {f : Value} {k : Int} {g : Value} (h : KB W B f k g) : B < W.heap.size := (Array.getElem?_eq_some_iff.1 h).1
theorem KB.below {W W' : World} {B base : Nat} {f : Value} {k : Int} {g : Value} (h : KB W B f k g) (hb : Below base W W') (hB : B < base) : KB W' B f k g := (hb.block B hB).trans h
theorem KB.cells {W : World} {B : Nat} {f : Value} {k : Int} {g : Value} (h : KB W B f k g) : W.cell? ⟨B, 0, none⟩ = some f ∧ W.cell? ⟨B, 1, none⟩ = some (.int .i64 k) ∧ W.cell? ⟨B, 2, none⟩ = some g := by
  unfold KB at h
  simp [World.cell?, h]
theorem KB.frozen {W : World} {B : Nat} {f : Value} {k : Int} {g : Value} (h : KB W B f k g) (j : Nat) : W.frozen? ⟨B, j, none⟩ = false := by
  unfold KB at h
  simp [World.frozen?, h]
theorem KB.put {W : World} {B : Nat} {f : Value} {k : Int} {g : Value} (h : KB W B f k g) (f' : Value) (k' : Int) (g' : Value) : KB (((W.setCell ⟨B, 0, none⟩ f').setCell ⟨B, 1, none⟩ (.int .i64 k')).setCell ⟨B, 2, none⟩ g') B f' k' g' := by
  unfold KB at *
  obtain ⟨hlt, hk⟩ := Array.getElem?_eq_some_iff.1 h
  have e1 : (W.setCell ⟨B, 0, none⟩ f').heap[B]? = some (.cells #[f', .int .i64 k, g] 112 (0, 0)) := by
    show (W.heap.modify B _)[B]? = _
    rw [Array.getElem?_eq_getElem (by rw [Array.size_modify]; exact hlt), Array.getElem_modify_self, hk]
    rfl
  obtain ⟨hlt1, hk1⟩ := Array.getElem?_eq_some_iff.1 e1
  have e2 : ((W.setCell ⟨B, 0, none⟩ f').setCell ⟨B, 1, none⟩ (.int .i64 k')).heap[B]? = some (.cells #[f', .int .i64 k', g] 112 (0, 0)) := by
    show ((W.setCell ⟨B, 0, none⟩ f').heap.modify B _)[B]? = _
    rw [Array.getElem?_eq_getElem (by rw [Array.size_modify]; exact hlt1), Array.getElem_modify_self, hk1]
    rfl
  obtain ⟨hlt2, hk2⟩ := Array.getElem?_eq_some_iff.1 e2
  show (((W.setCell ⟨B, 0, none⟩ f').setCell ⟨B, 1, none⟩ (.int .i64 k')).heap.modify B _)[B]? = _
  rw [Array.getElem?_eq_getElem (by rw [Array.size_modify]; exact hlt2), Array.getElem_modify_self, hk2]
  rfl

set_option maxRecDepth 100000 in
set_option maxHeartbeats 4000000 in
theorem sright_1 (n : List UInt8) (z : Int) (nl : Bool) (w : World) (hl : n.length ≤ 100000) : Calls Tryz.prog 54 #[.agg #[.string (strL n), .int .i64 1, .int .i64 z, .bool nl]] w fun e w' => e = .returned (.bool (nameV n && (decide (z = 1 ∨ z = 2 ∨ z = 4 ∨ z = 8)))) ∧ Below w.heap.size w w' := by
  have hb0 : Below w.heap.size w (w.alloc (.cells #[.string (strL n), .int .i64 1, .int .i64 z, .bool nl] 24)) := (Below.refl _ w).alloc (Nat.le_refl _) _
  have hC := CBox.new w ⟨n, 1, z, nl⟩
  obtain ⟨w1, hw1⟩ : ∃ w1, (w.alloc (.cells #[.string (strL n), .int .i64 1, .int .i64 z, .bool nl] 24)) = w1 := ⟨_, rfl⟩
  rw [hw1] at hb0 hC
  replace hw1 := Lib.hid hw1
  have hlk : ∀ w' r, IMap w' r .i64 SKinds → (Instr.lookup 113 (.map (some r)) (.int .i64 1) true).run Tryz.prog w' = .ok (.tuple #[.agg #[.func (.func 86) #[] #[], .int .i64 1, .func (.func 87) #[] #[]], .bool true]) w' := fun w' r hm =>
    hm.look _ _ _ Tryz.underlying113 Tryz.underlying22 1 0 _ rfl
  have hnm := fun W => named_any n W hl
  have hsz := fun W => whole_any z W
  generalize nameV n = nb at *
  generalize (decide (z = 1 ∨ z = 2 ∨ z = 4 ∨ z = 8)) = R at *
  replace hnm := Lib.hid hnm
  replace hsz := Lib.hid hsz
  go_enter Tryz.func54, Tryz.ntmps54
  go_upto_region 1 with fail
  rw [hw1.out]
  clear hw1
  go_cut [3, 4] from 5 to 11 (fun s3 s4 wx => ∃ B : Nat, s3 = .pointer (some ⟨B, 0, none⟩) ∧ s4 = .bool true ∧ KB wx B (.func (.func 86) #[] #[]) 1 (.func (.func 87) #[] #[]) ∧ w1.heap.size ≤ B ∧ Below w1.heap.size w1 wx)
  case first =>
    refine wp_region_noPanic ?_
    refine wp_region_held_drew (S := fun w' => w'.cell? ⟨w.heap.size, 1, none⟩ = some (.int .i64 1)) (by kernel_rfl) (hC.below ((Below.refl _ w1).drew) hC.lt).cells.2.1 (fun hHeld => ?_)
    refine wpAnyH_takeL (i := 1) (v := ?vhy1) rfl (by kernel_rfl) (by kernel_rfl) (by kernel_rfl) (fun _ _ _ h => h) (Or.inl ⟨by rfl, ?hy1⟩) (by assumption) ?rhy1
    case hy1 => ((intro w hSw; (try dsimp only at hSw); go_simp); try with_reducible rfl)
    try simp only [Act.put, List.setIfInBounds_toArray, List.set_cons_zero, List.set_cons_succ]
    refine wpAnyH_takeL (i := 2) (v := ?vhy2) rfl (by kernel_rfl) (by kernel_rfl) (by kernel_rfl) (fun _ _ _ h => h) (Or.inl ⟨by rfl, ?hy2⟩) (by assumption) ?rhy2
    case hy2 => ((intro w hSw; (try dsimp only at hSw); go_simp); try with_reducible rfl)
    try simp only [Act.put, List.setIfInBounds_toArray, List.set_cons_zero, List.set_cons_succ]
    refine wpAnyH_ready (rs := [0, 7]) (by kernel_rfl) (by simp) ?_
    refine AllReadyH.consL (i := 0) rfl (fun K hK => ?_) (AllReadyH.consL (i := 7) rfl (fun K hK => ?_) AllReadyH.nil)
    · go_simp
      refine (skinds_any _).mono ?_
      rintro e w2 ⟨r, rfl, hm, hb1, hr1⟩
      replace hb1 := gr ((Below.refl _ w1).drew) hb1
      refine hK.out _ _ (hC.below hb1 hC.lt).cells.2.1 (fun hHeld => ?_)
      clear hK hHeld
      refine wpAnyH_more (S' := fun w' => IMap w' r .i64 SKinds ∧ Below w1.heap.size w1 w') (fun w' h => (hC.below h.2 hC.lt).cells.2.1) ?_
      have hHeld : IMap w2 r .i64 SKinds ∧ Below w1.heap.size w1 w2 := ⟨hm, hb1⟩
      try simp only [Act.put, List.setIfInBounds_toArray, List.set_cons_zero, List.set_cons_succ]
      refine wpAnyH_takeL (i := 3) (v := ?vhy3) rfl (by kernel_rfl) (by kernel_rfl) (by kernel_rfl) (fun _ _ _ h => h) (Or.inl ⟨by rfl, ?hy3⟩) (by assumption) ?rhy3
      case hy3 => ((intro w hSw; (try dsimp only at hSw); go_simp); try with_reducible rfl)
      try simp only [Act.put, List.setIfInBounds_toArray, List.set_cons_zero, List.set_cons_succ]
      refine wpAnyH_takeL (i := 4) (v := ?vhy4) rfl (by kernel_rfl) (by kernel_rfl) (by kernel_rfl) (fun _ _ _ h => h) (Or.inl ⟨by rfl, ?hy4⟩) (by assumption) ?rhy4
      case hy4 => ((intro w hSw; (try dsimp only at hSw); go_simp); try with_reducible rfl)
      try simp only [Act.put, List.setIfInBounds_toArray, List.set_cons_zero, List.set_cons_succ]
      refine wpAnyH_takeL (i := 5) (v := ?vhy5) rfl (by kernel_rfl) (by kernel_rfl) (by kernel_rfl) (fun _ _ _ h => h) (Or.inl ⟨by rfl, ?hy5⟩) (by assumption) ?rhy5
      case hy5 => ((intro w hSw; (try dsimp only at hSw); go_simp); try with_reducible rfl)
      try simp only [Act.put, List.setIfInBounds_toArray, List.set_cons_zero, List.set_cons_succ]
      refine wpAnyH_takeL (i := 6) (v := ?vhy6) rfl (by kernel_rfl) (by kernel_rfl) (by kernel_rfl) (fun _ _ _ h => h) (Or.inl ⟨by rfl, ?hy6⟩) (by assumption) ?rhy6
      case hy6 => ((intro w hSw; (try dsimp only at hSw); go_simp); try with_reducible rfl)
      try simp only [Act.put, List.setIfInBounds_toArray, List.set_cons_zero, List.set_cons_succ]
      refine wpAnyH_ready (rs := [7]) (by kernel_rfl) (by simp) ?_
      refine AllReadyH.consL (i := 7) rfl (fun K hK => ?_) AllReadyH.nil
      go_simp
      have hs2 := (Below.refl w2.heap.size w2).alloc (Nat.le_refl _) (.cells #[.nilFunc, .int .i64 0, .nilFunc] 112)
      refine hK.out _ _ ⟨hm.below hs2, gr hb1 hs2⟩ (fun hHeld => ?_)
      clear hK
      try simp only [Act.put, List.setIfInBounds_toArray, List.set_cons_zero, List.set_cons_succ]
      refine wpAnyH_ready (rs := [8]) (by kernel_rfl) (by simp) ?_
      refine AllReadyH.consL (i := 8) rfl (fun K hK => ?_) AllReadyH.nil
      go_simp
      have hs3 := (Below.refl w2.heap.size w2).alloc (Nat.le_refl _) (.cells #[(.func (.func 86) #[] #[]), .int .i64 1, (.func (.func 87) #[] #[])] 112)
      have hkb : KB (w2.alloc (.cells #[(.func (.func 86) #[] #[]), .int .i64 1, (.func (.func 87) #[] #[])] 112)) w2.heap.size (.func (.func 86) #[] #[]) 1 (.func (.func 87) #[] #[]) := World.alloc_heap_new w2 _
      refine hK.out _ _ ⟨hm.below hs3, gr hb1 hs3⟩ (fun hHeld => ?_)
      clear hK
      try simp only [Act.put, List.setIfInBounds_toArray, List.set_cons_zero, List.set_cons_succ]
      refine wpAnyH_takeL (i := 9) (v := ?vhy7) rfl (by kernel_rfl) (by kernel_rfl) (by kernel_rfl) (fun _ _ _ h => h) (Or.inl ⟨by rfl, ?hy7⟩) (by assumption) ?rhy7
      case hy7 => ((intro w hSw; (try dsimp only at hSw); go_simp); try with_reducible rfl)
      try simp only [Act.put, List.setIfInBounds_toArray, List.set_cons_zero, List.set_cons_succ]
      refine wpAnyH_done (by kernel_rfl) ?_ _
      refine NoPanic.normal ?_
      clear hHeld hlk
      go_wp2_with fail
      go_meet
      exact ⟨_, rfl, rfl, hkb, hb1.size, gr hb1 hs3⟩
    · go_simp
      have hs2 := (Below.refl w1.heap.size w1).alloc (Nat.le_refl _) (.cells #[.nilFunc, .int .i64 0, .nilFunc] 112)
      have hkn : KB (w1.alloc (.cells #[.nilFunc, .int .i64 0, .nilFunc] 112)) w1.heap.size .nilFunc 0 .nilFunc := World.alloc_heap_new w1 _
      have hln : w1.heap.size < (w1.alloc (.cells #[.nilFunc, .int .i64 0, .nilFunc] 112)).heap.size := by simp
      refine hK.out _ _ (hC.below hs2.drew hC.lt).cells.2.1 (fun hHeld => ?_)
      clear hK
      try simp only [Act.put, List.setIfInBounds_toArray, List.set_cons_zero, List.set_cons_succ]
      refine wpAnyH_ready (rs := [0]) (by kernel_rfl) (by simp) ?_
      refine AllReadyH.consL (i := 0) rfl (fun K hK => ?_) AllReadyH.nil
      go_simp
      refine (skinds_any _).mono ?_
      rintro e w2 ⟨r, rfl, hm, hb1, hr1⟩
      replace hr1 : w1.heap.size < r := Nat.lt_of_lt_of_le hln hr1
      replace hkn : KB w2 w1.heap.size .nilFunc 0 .nilFunc := (hb1.block _ hln).trans hkn
      replace hb1 := gr hs2.drew hb1
      refine hK.out _ _ (hC.below hb1 hC.lt).cells.2.1 (fun hHeld => ?_)
      clear hK hHeld
      refine wpAnyH_more (S' := fun w' => IMap w' r .i64 SKinds ∧ Below w1.heap.size w1 w') (fun w' h => (hC.below h.2 hC.lt).cells.2.1) ?_
      have hHeld : IMap w2 r .i64 SKinds ∧ Below w1.heap.size w1 w2 := ⟨hm, hb1⟩
      try simp only [Act.put, List.setIfInBounds_toArray, List.set_cons_zero, List.set_cons_succ]
      refine wpAnyH_takeL (i := 3) (v := ?vhy8) rfl (by kernel_rfl) (by kernel_rfl) (by kernel_rfl) (fun _ _ _ h => h) (Or.inl ⟨by rfl, ?hy8⟩) (by assumption) ?rhy8
      case hy8 => ((intro w hSw; (try dsimp only at hSw); go_simp); try with_reducible rfl)
      try simp only [Act.put, List.setIfInBounds_toArray, List.set_cons_zero, List.set_cons_succ]
      refine wpAnyH_takeL (i := 4) (v := ?vhy9) rfl (by kernel_rfl) (by kernel_rfl) (by kernel_rfl) (fun _ _ _ h => h) (Or.inl ⟨by rfl, ?hy9⟩) (by assumption) ?rhy9
      case hy9 => ((intro w hSw; (try dsimp only at hSw); go_simp); try with_reducible rfl)
      try simp only [Act.put, List.setIfInBounds_toArray, List.set_cons_zero, List.set_cons_succ]
      refine wpAnyH_takeL (i := 5) (v := ?vhy10) rfl (by kernel_rfl) (by kernel_rfl) (by kernel_rfl) (fun _ _ _ h => h) (Or.inl ⟨by rfl, ?hy10⟩) (by assumption) ?rhy10
      case hy10 => ((intro w hSw; (try dsimp only at hSw); go_simp); try with_reducible rfl)
      try simp only [Act.put, List.setIfInBounds_toArray, List.set_cons_zero, List.set_cons_succ]
      refine wpAnyH_takeL (i := 6) (v := ?vhy11) rfl (by kernel_rfl) (by kernel_rfl) (by kernel_rfl) (fun _ _ _ h => h) (Or.inl ⟨by rfl, ?hy11⟩) (by assumption) ?rhy11
      case hy11 => ((intro w hSw; (try dsimp only at hSw); go_simp); try with_reducible rfl)
      try simp only [Act.put, List.setIfInBounds_toArray, List.set_cons_zero, List.set_cons_succ]
      have hkc := hkn.cells
      have hf0 := hkn.frozen 0
      have hf1 := hkn.frozen 1
      have hf2 := hkn.frozen 2
      refine wpAnyH_ready (rs := [8]) (by kernel_rfl) (by simp) ?_
      refine AllReadyH.consL (i := 8) rfl (fun K hK => ?_) AllReadyH.nil
      go_simp
      have hkb := hkn.put (.func (.func 86) #[] #[]) 1 (.func (.func 87) #[] #[])
      have hb2 := ((hb1.setCell (p := ⟨w1.heap.size, 0, none⟩) (Nat.le_refl _) (.func (.func 86) #[] #[])).setCell (p := ⟨w1.heap.size, 1, none⟩) (Nat.le_refl _) (.int .i64 1)).setCell (p := ⟨w1.heap.size, 2, none⟩) (Nat.le_refl _) (.func (.func 87) #[] #[])
      have hm1 := ((hm.kept (grownBy_setCell_at w2 ⟨w1.heap.size, 0, none⟩ (.func (.func 86) #[] #[])) (by simp; omega)).kept (grownBy_setCell_at _ ⟨w1.heap.size, 1, none⟩ (.int .i64 1)) (by simp; omega)).kept (grownBy_setCell_at _ ⟨w1.heap.size, 2, none⟩ (.func (.func 87) #[] #[])) (by simp; omega)
      refine hK.out _ _ ⟨hm1, hb2⟩ (fun hHeld => ?_)
      clear hK
      try simp only [Act.put, List.setIfInBounds_toArray, List.set_cons_zero, List.set_cons_succ]
      refine wpAnyH_takeL (i := 9) (v := ?vhy12) rfl (by kernel_rfl) (by kernel_rfl) (by kernel_rfl) (fun _ _ _ h => h) (Or.inl ⟨by rfl, ?hy12⟩) (by assumption) ?rhy12
      case hy12 => ((intro w hSw; (try dsimp only at hSw); go_simp); try with_reducible rfl)
      try simp only [Act.put, List.setIfInBounds_toArray, List.set_cons_zero, List.set_cons_succ]
      refine wpAnyH_done (by kernel_rfl) ?_ _
      refine NoPanic.normal ?_
      clear hHeld hlk hf0 hf1 hf2 hkc
      go_wp2_with fail
      go_meet
      exact ⟨_, rfl, rfl, hkb, Nat.le_refl _, hb2⟩
  case rest =>
    obtain ⟨B, rfl, rfl, hk, hBw, hbx⟩ := hcut
    have hb1 := gr hb0 hbx
    have hC1 := hC.below hbx hC.lt
    have cc := hC1.cells
    have ck := hk.cells
    clear hC hbx hb0 hlk
    generalize wc = w2 at *
    cases nb
    · go_wp2_with fail
      refine (hnm.out _).mono ?_
      rintro e w3 ⟨rfl, g1⟩
      have hf := gr hb1 g1
      clear hnm hsz g1
      go_wp2
      go_ret
      exact ⟨rfl, hf⟩
    · go_wp2_with fail
      refine (hnm.out _).mono ?_
      rintro e w3 ⟨rfl, g1⟩
      have hf := gr hb1 g1
      have hC2 := hC1.below g1 hC1.lt
      have hk2 := hk.below g1 hk.lt
      have cc2 := hC2.cells
      have ck2 := hk2.cells
      have eF := enters_of Tryz.func86 (by kernel_rfl) rfl
      clear hnm g1 cc ck hC1 hk
      go_wp2_with fail
      refine (hsz.out _).mono ?_
      rintro e w' ⟨rfl, rfl⟩
      clear hsz
      go_wp2
      go_ret
      exact ⟨rfl, hf⟩
set_option maxRecDepth 100000 in
set_option maxHeartbeats 4000000 in
theorem sright_2 (n : List UInt8) (z : Int) (nl : Bool) (w : World) (hl : n.length ≤ 100000) : Calls Tryz.prog 54 #[.agg #[.string (strL n), .int .i64 2, .int .i64 z, .bool nl]] w fun e w' => e = .returned (.bool (nameV n && (decide (z = 1 ∨ z = 2 ∨ z = 4 ∨ z = 8)))) ∧ Below w.heap.size w w' := by
  have hb0 : Below w.heap.size w (w.alloc (.cells #[.string (strL n), .int .i64 2, .int .i64 z, .bool nl] 24)) := (Below.refl _ w).alloc (Nat.le_refl _) _
  have hC := CBox.new w ⟨n, 2, z, nl⟩
  obtain ⟨w1, hw1⟩ : ∃ w1, (w.alloc (.cells #[.string (strL n), .int .i64 2, .int .i64 z, .bool nl] 24)) = w1 := ⟨_, rfl⟩
  rw [hw1] at hb0 hC
  replace hw1 := Lib.hid hw1
  have hlk : ∀ w' r, IMap w' r .i64 SKinds → (Instr.lookup 113 (.map (some r)) (.int .i64 2) true).run Tryz.prog w' = .ok (.tuple #[.agg #[.func (.func 86) #[] #[], .int .i64 2, .func (.func 88) #[] #[]], .bool true]) w' := fun w' r hm =>
    hm.look _ _ _ Tryz.underlying113 Tryz.underlying22 2 1 _ rfl
  have hnm := fun W => named_any n W hl
  have hsz := fun W => whole_any z W
  generalize nameV n = nb at *
  generalize (decide (z = 1 ∨ z = 2 ∨ z = 4 ∨ z = 8)) = R at *
  replace hnm := Lib.hid hnm
  replace hsz := Lib.hid hsz
  go_enter Tryz.func54, Tryz.ntmps54
  go_upto_region 1 with fail
  rw [hw1.out]
  clear hw1
  go_cut [3, 4] from 5 to 11 (fun s3 s4 wx => ∃ B : Nat, s3 = .pointer (some ⟨B, 0, none⟩) ∧ s4 = .bool true ∧ KB wx B (.func (.func 86) #[] #[]) 2 (.func (.func 88) #[] #[]) ∧ w1.heap.size ≤ B ∧ Below w1.heap.size w1 wx)
  case first =>
    refine wp_region_noPanic ?_
    refine wp_region_held_drew (S := fun w' => w'.cell? ⟨w.heap.size, 1, none⟩ = some (.int .i64 2)) (by kernel_rfl) (hC.below ((Below.refl _ w1).drew) hC.lt).cells.2.1 (fun hHeld => ?_)
    refine wpAnyH_takeL (i := 1) (v := ?vhy13) rfl (by kernel_rfl) (by kernel_rfl) (by kernel_rfl) (fun _ _ _ h => h) (Or.inl ⟨by rfl, ?hy13⟩) (by assumption) ?rhy13
    case hy13 => ((intro w hSw; (try dsimp only at hSw); go_simp); try with_reducible rfl)
    try simp only [Act.put, List.setIfInBounds_toArray, List.set_cons_zero, List.set_cons_succ]
    refine wpAnyH_takeL (i := 2) (v := ?vhy14) rfl (by kernel_rfl) (by kernel_rfl) (by kernel_rfl) (fun _ _ _ h => h) (Or.inl ⟨by rfl, ?hy14⟩) (by assumption) ?rhy14
    case hy14 => ((intro w hSw; (try dsimp only at hSw); go_simp); try with_reducible rfl)
    try simp only [Act.put, List.setIfInBounds_toArray, List.set_cons_zero, List.set_cons_succ]
    refine wpAnyH_ready (rs := [0, 7]) (by kernel_rfl) (by simp) ?_
    refine AllReadyH.consL (i := 0) rfl (fun K hK => ?_) (AllReadyH.consL (i := 7) rfl (fun K hK => ?_) AllReadyH.nil)
    · go_simp
      refine (skinds_any _).mono ?_
      rintro e w2 ⟨r, rfl, hm, hb1, hr1⟩
      replace hb1 := gr ((Below.refl _ w1).drew) hb1
      refine hK.out _ _ (hC.below hb1 hC.lt).cells.2.1 (fun hHeld => ?_)
      clear hK hHeld
      refine wpAnyH_more (S' := fun w' => IMap w' r .i64 SKinds ∧ Below w1.heap.size w1 w') (fun w' h => (hC.below h.2 hC.lt).cells.2.1) ?_
      have hHeld : IMap w2 r .i64 SKinds ∧ Below w1.heap.size w1 w2 := ⟨hm, hb1⟩
      try simp only [Act.put, List.setIfInBounds_toArray, List.set_cons_zero, List.set_cons_succ]
      refine wpAnyH_takeL (i := 3) (v := ?vhy15) rfl (by kernel_rfl) (by kernel_rfl) (by kernel_rfl) (fun _ _ _ h => h) (Or.inl ⟨by rfl, ?hy15⟩) (by assumption) ?rhy15
      case hy15 => ((intro w hSw; (try dsimp only at hSw); go_simp); try with_reducible rfl)
      try simp only [Act.put, List.setIfInBounds_toArray, List.set_cons_zero, List.set_cons_succ]
      refine wpAnyH_takeL (i := 4) (v := ?vhy16) rfl (by kernel_rfl) (by kernel_rfl) (by kernel_rfl) (fun _ _ _ h => h) (Or.inl ⟨by rfl, ?hy16⟩) (by assumption) ?rhy16
      case hy16 => ((intro w hSw; (try dsimp only at hSw); go_simp); try with_reducible rfl)
      try simp only [Act.put, List.setIfInBounds_toArray, List.set_cons_zero, List.set_cons_succ]
      refine wpAnyH_takeL (i := 5) (v := ?vhy17) rfl (by kernel_rfl) (by kernel_rfl) (by kernel_rfl) (fun _ _ _ h => h) (Or.inl ⟨by rfl, ?hy17⟩) (by assumption) ?rhy17
      case hy17 => ((intro w hSw; (try dsimp only at hSw); go_simp); try with_reducible rfl)
      try simp only [Act.put, List.setIfInBounds_toArray, List.set_cons_zero, List.set_cons_succ]
      refine wpAnyH_takeL (i := 6) (v := ?vhy18) rfl (by kernel_rfl) (by kernel_rfl) (by kernel_rfl) (fun _ _ _ h => h) (Or.inl ⟨by rfl, ?hy18⟩) (by assumption) ?rhy18
      case hy18 => ((intro w hSw; (try dsimp only at hSw); go_simp); try with_reducible rfl)
      try simp only [Act.put, List.setIfInBounds_toArray, List.set_cons_zero, List.set_cons_succ]
      refine wpAnyH_ready (rs := [7]) (by kernel_rfl) (by simp) ?_
      refine AllReadyH.consL (i := 7) rfl (fun K hK => ?_) AllReadyH.nil
      go_simp
      have hs2 := (Below.refl w2.heap.size w2).alloc (Nat.le_refl _) (.cells #[.nilFunc, .int .i64 0, .nilFunc] 112)
      refine hK.out _ _ ⟨hm.below hs2, gr hb1 hs2⟩ (fun hHeld => ?_)
      clear hK
      try simp only [Act.put, List.setIfInBounds_toArray, List.set_cons_zero, List.set_cons_succ]
      refine wpAnyH_ready (rs := [8]) (by kernel_rfl) (by simp) ?_
      refine AllReadyH.consL (i := 8) rfl (fun K hK => ?_) AllReadyH.nil
      go_simp
      have hs3 := (Below.refl w2.heap.size w2).alloc (Nat.le_refl _) (.cells #[(.func (.func 86) #[] #[]), .int .i64 2, (.func (.func 88) #[] #[])] 112)
      have hkb : KB (w2.alloc (.cells #[(.func (.func 86) #[] #[]), .int .i64 2, (.func (.func 88) #[] #[])] 112)) w2.heap.size (.func (.func 86) #[] #[]) 2 (.func (.func 88) #[] #[]) := World.alloc_heap_new w2 _
      refine hK.out _ _ ⟨hm.below hs3, gr hb1 hs3⟩ (fun hHeld => ?_)
      clear hK
      try simp only [Act.put, List.setIfInBounds_toArray, List.set_cons_zero, List.set_cons_succ]
      refine wpAnyH_takeL (i := 9) (v := ?vhy19) rfl (by kernel_rfl) (by kernel_rfl) (by kernel_rfl) (fun _ _ _ h => h) (Or.inl ⟨by rfl, ?hy19⟩) (by assumption) ?rhy19
      case hy19 => ((intro w hSw; (try dsimp only at hSw); go_simp); try with_reducible rfl)
      try simp only [Act.put, List.setIfInBounds_toArray, List.set_cons_zero, List.set_cons_succ]
      refine wpAnyH_done (by kernel_rfl) ?_ _
      refine NoPanic.normal ?_
      clear hHeld hlk
      go_wp2_with fail
      go_meet
      exact ⟨_, rfl, rfl, hkb, hb1.size, gr hb1 hs3⟩
    · go_simp
      have hs2 := (Below.refl w1.heap.size w1).alloc (Nat.le_refl _) (.cells #[.nilFunc, .int .i64 0, .nilFunc] 112)
      have hkn : KB (w1.alloc (.cells #[.nilFunc, .int .i64 0, .nilFunc] 112)) w1.heap.size .nilFunc 0 .nilFunc := World.alloc_heap_new w1 _
      have hln : w1.heap.size < (w1.alloc (.cells #[.nilFunc, .int .i64 0, .nilFunc] 112)).heap.size := by simp
      refine hK.out _ _ (hC.below hs2.drew hC.lt).cells.2.1 (fun hHeld => ?_)
      clear hK
      try simp only [Act.put, List.setIfInBounds_toArray, List.set_cons_zero, List.set_cons_succ]
      refine wpAnyH_ready (rs := [0]) (by kernel_rfl) (by simp) ?_
      refine AllReadyH.consL (i := 0) rfl (fun K hK => ?_) AllReadyH.nil
      go_simp
      refine (skinds_any _).mono ?_
      rintro e w2 ⟨r, rfl, hm, hb1, hr1⟩
      replace hr1 : w1.heap.size < r := Nat.lt_of_lt_of_le hln hr1
      replace hkn : KB w2 w1.heap.size .nilFunc 0 .nilFunc := (hb1.block _ hln).trans hkn
      replace hb1 := gr hs2.drew hb1
      refine hK.out _ _ (hC.below hb1 hC.lt).cells.2.1 (fun hHeld => ?_)
      clear hK hHeld
      refine wpAnyH_more (S' := fun w' => IMap w' r .i64 SKinds ∧ Below w1.heap.size w1 w') (fun w' h => (hC.below h.2 hC.lt).cells.2.1) ?_
      have hHeld : IMap w2 r .i64 SKinds ∧ Below w1.heap.size w1 w2 := ⟨hm, hb1⟩
      try simp only [Act.put, List.setIfInBounds_toArray, List.set_cons_zero, List.set_cons_succ]
      refine wpAnyH_takeL (i := 3) (v := ?vhy20) rfl (by kernel_rfl) (by kernel_rfl) (by kernel_rfl) (fun _ _ _ h => h) (Or.inl ⟨by rfl, ?hy20⟩) (by assumption) ?rhy20
      case hy20 => ((intro w hSw; (try dsimp only at hSw); go_simp); try with_reducible rfl)
      try simp only [Act.put, List.setIfInBounds_toArray, List.set_cons_zero, List.set_cons_succ]
      refine wpAnyH_takeL (i := 4) (v := ?vhy21) rfl (by kernel_rfl) (by kernel_rfl) (by kernel_rfl) (fun _ _ _ h => h) (Or.inl ⟨by rfl, ?hy21⟩) (by assumption) ?rhy21
      case hy21 => ((intro w hSw; (try dsimp only at hSw); go_simp); try with_reducible rfl)
      try simp only [Act.put, List.setIfInBounds_toArray, List.set_cons_zero, List.set_cons_succ]
      refine wpAnyH_takeL (i := 5) (v := ?vhy22) rfl (by kernel_rfl) (by kernel_rfl) (by kernel_rfl) (fun _ _ _ h => h) (Or.inl ⟨by rfl, ?hy22⟩) (by assumption) ?rhy22
      case hy22 => ((intro w hSw; (try dsimp only at hSw); go_simp); try with_reducible rfl)
      try simp only [Act.put, List.setIfInBounds_toArray, List.set_cons_zero, List.set_cons_succ]
      refine wpAnyH_takeL (i := 6) (v := ?vhy23) rfl (by kernel_rfl) (by kernel_rfl) (by kernel_rfl) (fun _ _ _ h => h) (Or.inl ⟨by rfl, ?hy23⟩) (by assumption) ?rhy23
      case hy23 => ((intro w hSw; (try dsimp only at hSw); go_simp); try with_reducible rfl)
      try simp only [Act.put, List.setIfInBounds_toArray, List.set_cons_zero, List.set_cons_succ]
      have hkc := hkn.cells
      have hf0 := hkn.frozen 0
      have hf1 := hkn.frozen 1
      have hf2 := hkn.frozen 2
      refine wpAnyH_ready (rs := [8]) (by kernel_rfl) (by simp) ?_
      refine AllReadyH.consL (i := 8) rfl (fun K hK => ?_) AllReadyH.nil
      go_simp
      have hkb := hkn.put (.func (.func 86) #[] #[]) 2 (.func (.func 88) #[] #[])
      have hb2 := ((hb1.setCell (p := ⟨w1.heap.size, 0, none⟩) (Nat.le_refl _) (.func (.func 86) #[] #[])).setCell (p := ⟨w1.heap.size, 1, none⟩) (Nat.le_refl _) (.int .i64 2)).setCell (p := ⟨w1.heap.size, 2, none⟩) (Nat.le_refl _) (.func (.func 88) #[] #[])
      have hm1 := ((hm.kept (grownBy_setCell_at w2 ⟨w1.heap.size, 0, none⟩ (.func (.func 86) #[] #[])) (by simp; omega)).kept (grownBy_setCell_at _ ⟨w1.heap.size, 1, none⟩ (.int .i64 2)) (by simp; omega)).kept (grownBy_setCell_at _ ⟨w1.heap.size, 2, none⟩ (.func (.func 88) #[] #[])) (by simp; omega)
      refine hK.out _ _ ⟨hm1, hb2⟩ (fun hHeld => ?_)
      clear hK
      try simp only [Act.put, List.setIfInBounds_toArray, List.set_cons_zero, List.set_cons_succ]
      refine wpAnyH_takeL (i := 9) (v := ?vhy24) rfl (by kernel_rfl) (by kernel_rfl) (by kernel_rfl) (fun _ _ _ h => h) (Or.inl ⟨by rfl, ?hy24⟩) (by assumption) ?rhy24
      case hy24 => ((intro w hSw; (try dsimp only at hSw); go_simp); try with_reducible rfl)
      try simp only [Act.put, List.setIfInBounds_toArray, List.set_cons_zero, List.set_cons_succ]
      refine wpAnyH_done (by kernel_rfl) ?_ _
      refine NoPanic.normal ?_
      clear hHeld hlk hf0 hf1 hf2 hkc
      go_wp2_with fail
      go_meet
      exact ⟨_, rfl, rfl, hkb, Nat.le_refl _, hb2⟩
  case rest =>
    obtain ⟨B, rfl, rfl, hk, hBw, hbx⟩ := hcut
    have hb1 := gr hb0 hbx
    have hC1 := hC.below hbx hC.lt
    have cc := hC1.cells
    have ck := hk.cells
    clear hC hbx hb0 hlk
    generalize wc = w2 at *
    cases nb
    · go_wp2_with fail
      refine (hnm.out _).mono ?_
      rintro e w3 ⟨rfl, g1⟩
      have hf := gr hb1 g1
      clear hnm hsz g1
      go_wp2
      go_ret
      exact ⟨rfl, hf⟩
    · go_wp2_with fail
      refine (hnm.out _).mono ?_
      rintro e w3 ⟨rfl, g1⟩
      have hf := gr hb1 g1
      have hC2 := hC1.below g1 hC1.lt
      have hk2 := hk.below g1 hk.lt
      have cc2 := hC2.cells
      have ck2 := hk2.cells
      have eF := enters_of Tryz.func86 (by kernel_rfl) rfl
      clear hnm g1 cc ck hC1 hk
      go_wp2_with fail
      refine (hsz.out _).mono ?_
      rintro e w' ⟨rfl, rfl⟩
      clear hsz
      go_wp2
      go_ret
      exact ⟨rfl, hf⟩
set_option maxRecDepth 100000 in
set_option maxHeartbeats 4000000 in
theorem sright_3 (n : List UInt8) (z : Int) (nl : Bool) (w : World) (hl : n.length ≤ 100000) : Calls Tryz.prog 54 #[.agg #[.string (strL n), .int .i64 3, .int .i64 z, .bool nl]] w fun e w' => e = .returned (.bool (nameV n && (z == 0))) ∧ Below w.heap.size w w' := by
  have hb0 : Below w.heap.size w (w.alloc (.cells #[.string (strL n), .int .i64 3, .int .i64 z, .bool nl] 24)) := (Below.refl _ w).alloc (Nat.le_refl _) _
  have hC := CBox.new w ⟨n, 3, z, nl⟩
  obtain ⟨w1, hw1⟩ : ∃ w1, (w.alloc (.cells #[.string (strL n), .int .i64 3, .int .i64 z, .bool nl] 24)) = w1 := ⟨_, rfl⟩
  rw [hw1] at hb0 hC
  replace hw1 := Lib.hid hw1
  have hlk : ∀ w' r, IMap w' r .i64 SKinds → (Instr.lookup 113 (.map (some r)) (.int .i64 3) true).run Tryz.prog w' = .ok (.tuple #[.agg #[.func (.func 89) #[] #[], .int .i64 3, .func (.func 90) #[] #[]], .bool true]) w' := fun w' r hm =>
    hm.look _ _ _ Tryz.underlying113 Tryz.underlying22 3 2 _ rfl
  have hnm := fun W => named_any n W hl
  have hsz := fun W => size3_any z W
  generalize nameV n = nb at *
  generalize (z == 0) = R at *
  replace hnm := Lib.hid hnm
  replace hsz := Lib.hid hsz
  go_enter Tryz.func54, Tryz.ntmps54
  go_upto_region 1 with fail
  rw [hw1.out]
  clear hw1
  go_cut [3, 4] from 5 to 11 (fun s3 s4 wx => ∃ B : Nat, s3 = .pointer (some ⟨B, 0, none⟩) ∧ s4 = .bool true ∧ KB wx B (.func (.func 89) #[] #[]) 3 (.func (.func 90) #[] #[]) ∧ w1.heap.size ≤ B ∧ Below w1.heap.size w1 wx)
  case first =>
    refine wp_region_noPanic ?_
    refine wp_region_held_drew (S := fun w' => w'.cell? ⟨w.heap.size, 1, none⟩ = some (.int .i64 3)) (by kernel_rfl) (hC.below ((Below.refl _ w1).drew) hC.lt).cells.2.1 (fun hHeld => ?_)
    refine wpAnyH_takeL (i := 1) (v := ?vhy25) rfl (by kernel_rfl) (by kernel_rfl) (by kernel_rfl) (fun _ _ _ h => h) (Or.inl ⟨by rfl, ?hy25⟩) (by assumption) ?rhy25
    case hy25 => ((intro w hSw; (try dsimp only at hSw); go_simp); try with_reducible rfl)
    try simp only [Act.put, List.setIfInBounds_toArray, List.set_cons_zero, List.set_cons_succ]
    refine wpAnyH_takeL (i := 2) (v := ?vhy26) rfl (by kernel_rfl) (by kernel_rfl) (by kernel_rfl) (fun _ _ _ h => h) (Or.inl ⟨by rfl, ?hy26⟩) (by assumption) ?rhy26
    case hy26 => ((intro w hSw; (try dsimp only at hSw); go_simp); try with_reducible rfl)
    try simp only [Act.put, List.setIfInBounds_toArray, List.set_cons_zero, List.set_cons_succ]
    refine wpAnyH_ready (rs := [0, 7]) (by kernel_rfl) (by simp) ?_
    refine AllReadyH.consL (i := 0) rfl (fun K hK => ?_) (AllReadyH.consL (i := 7) rfl (fun K hK => ?_) AllReadyH.nil)
    · go_simp
      refine (skinds_any _).mono ?_
      rintro e w2 ⟨r, rfl, hm, hb1, hr1⟩
      replace hb1 := gr ((Below.refl _ w1).drew) hb1
      refine hK.out _ _ (hC.below hb1 hC.lt).cells.2.1 (fun hHeld => ?_)
      clear hK hHeld
      refine wpAnyH_more (S' := fun w' => IMap w' r .i64 SKinds ∧ Below w1.heap.size w1 w') (fun w' h => (hC.below h.2 hC.lt).cells.2.1) ?_
      have hHeld : IMap w2 r .i64 SKinds ∧ Below w1.heap.size w1 w2 := ⟨hm, hb1⟩
      try simp only [Act.put, List.setIfInBounds_toArray, List.set_cons_zero, List.set_cons_succ]
      refine wpAnyH_takeL (i := 3) (v := ?vhy27) rfl (by kernel_rfl) (by kernel_rfl) (by kernel_rfl) (fun _ _ _ h => h) (Or.inl ⟨by rfl, ?hy27⟩) (by assumption) ?rhy27
      case hy27 => ((intro w hSw; (try dsimp only at hSw); go_simp); try with_reducible rfl)
      try simp only [Act.put, List.setIfInBounds_toArray, List.set_cons_zero, List.set_cons_succ]
      refine wpAnyH_takeL (i := 4) (v := ?vhy28) rfl (by kernel_rfl) (by kernel_rfl) (by kernel_rfl) (fun _ _ _ h => h) (Or.inl ⟨by rfl, ?hy28⟩) (by assumption) ?rhy28
      case hy28 => ((intro w hSw; (try dsimp only at hSw); go_simp); try with_reducible rfl)
      try simp only [Act.put, List.setIfInBounds_toArray, List.set_cons_zero, List.set_cons_succ]
      refine wpAnyH_takeL (i := 5) (v := ?vhy29) rfl (by kernel_rfl) (by kernel_rfl) (by kernel_rfl) (fun _ _ _ h => h) (Or.inl ⟨by rfl, ?hy29⟩) (by assumption) ?rhy29
      case hy29 => ((intro w hSw; (try dsimp only at hSw); go_simp); try with_reducible rfl)
      try simp only [Act.put, List.setIfInBounds_toArray, List.set_cons_zero, List.set_cons_succ]
      refine wpAnyH_takeL (i := 6) (v := ?vhy30) rfl (by kernel_rfl) (by kernel_rfl) (by kernel_rfl) (fun _ _ _ h => h) (Or.inl ⟨by rfl, ?hy30⟩) (by assumption) ?rhy30
      case hy30 => ((intro w hSw; (try dsimp only at hSw); go_simp); try with_reducible rfl)
      try simp only [Act.put, List.setIfInBounds_toArray, List.set_cons_zero, List.set_cons_succ]
      refine wpAnyH_ready (rs := [7]) (by kernel_rfl) (by simp) ?_
      refine AllReadyH.consL (i := 7) rfl (fun K hK => ?_) AllReadyH.nil
      go_simp
      have hs2 := (Below.refl w2.heap.size w2).alloc (Nat.le_refl _) (.cells #[.nilFunc, .int .i64 0, .nilFunc] 112)
      refine hK.out _ _ ⟨hm.below hs2, gr hb1 hs2⟩ (fun hHeld => ?_)
      clear hK
      try simp only [Act.put, List.setIfInBounds_toArray, List.set_cons_zero, List.set_cons_succ]
      refine wpAnyH_ready (rs := [8]) (by kernel_rfl) (by simp) ?_
      refine AllReadyH.consL (i := 8) rfl (fun K hK => ?_) AllReadyH.nil
      go_simp
      have hs3 := (Below.refl w2.heap.size w2).alloc (Nat.le_refl _) (.cells #[(.func (.func 89) #[] #[]), .int .i64 3, (.func (.func 90) #[] #[])] 112)
      have hkb : KB (w2.alloc (.cells #[(.func (.func 89) #[] #[]), .int .i64 3, (.func (.func 90) #[] #[])] 112)) w2.heap.size (.func (.func 89) #[] #[]) 3 (.func (.func 90) #[] #[]) := World.alloc_heap_new w2 _
      refine hK.out _ _ ⟨hm.below hs3, gr hb1 hs3⟩ (fun hHeld => ?_)
      clear hK
      try simp only [Act.put, List.setIfInBounds_toArray, List.set_cons_zero, List.set_cons_succ]
      refine wpAnyH_takeL (i := 9) (v := ?vhy31) rfl (by kernel_rfl) (by kernel_rfl) (by kernel_rfl) (fun _ _ _ h => h) (Or.inl ⟨by rfl, ?hy31⟩) (by assumption) ?rhy31
      case hy31 => ((intro w hSw; (try dsimp only at hSw); go_simp); try with_reducible rfl)
      try simp only [Act.put, List.setIfInBounds_toArray, List.set_cons_zero, List.set_cons_succ]
      refine wpAnyH_done (by kernel_rfl) ?_ _
      refine NoPanic.normal ?_
      clear hHeld hlk
      go_wp2_with fail
      go_meet
      exact ⟨_, rfl, rfl, hkb, hb1.size, gr hb1 hs3⟩
    · go_simp
      have hs2 := (Below.refl w1.heap.size w1).alloc (Nat.le_refl _) (.cells #[.nilFunc, .int .i64 0, .nilFunc] 112)
      have hkn : KB (w1.alloc (.cells #[.nilFunc, .int .i64 0, .nilFunc] 112)) w1.heap.size .nilFunc 0 .nilFunc := World.alloc_heap_new w1 _
      have hln : w1.heap.size < (w1.alloc (.cells #[.nilFunc, .int .i64 0, .nilFunc] 112)).heap.size := by simp
      refine hK.out _ _ (hC.below hs2.drew hC.lt).cells.2.1 (fun hHeld => ?_)
      clear hK
      try simp only [Act.put, List.setIfInBounds_toArray, List.set_cons_zero, List.set_cons_succ]
      refine wpAnyH_ready (rs := [0]) (by kernel_rfl) (by simp) ?_
      refine AllReadyH.consL (i := 0) rfl (fun K hK => ?_) AllReadyH.nil
      go_simp
      refine (skinds_any _).mono ?_
      rintro e w2 ⟨r, rfl, hm, hb1, hr1⟩
      replace hr1 : w1.heap.size < r := Nat.lt_of_lt_of_le hln hr1
      replace hkn : KB w2 w1.heap.size .nilFunc 0 .nilFunc := (hb1.block _ hln).trans hkn
      replace hb1 := gr hs2.drew hb1
      refine hK.out _ _ (hC.below hb1 hC.lt).cells.2.1 (fun hHeld => ?_)
      clear hK hHeld
      refine wpAnyH_more (S' := fun w' => IMap w' r .i64 SKinds ∧ Below w1.heap.size w1 w') (fun w' h => (hC.below h.2 hC.lt).cells.2.1) ?_
      have hHeld : IMap w2 r .i64 SKinds ∧ Below w1.heap.size w1 w2 := ⟨hm, hb1⟩
      try simp only [Act.put, List.setIfInBounds_toArray, List.set_cons_zero, List.set_cons_succ]
      refine wpAnyH_takeL (i := 3) (v := ?vhy32) rfl (by kernel_rfl) (by kernel_rfl) (by kernel_rfl) (fun _ _ _ h => h) (Or.inl ⟨by rfl, ?hy32⟩) (by assumption) ?rhy32
      case hy32 => ((intro w hSw; (try dsimp only at hSw); go_simp); try with_reducible rfl)
      try simp only [Act.put, List.setIfInBounds_toArray, List.set_cons_zero, List.set_cons_succ]
      refine wpAnyH_takeL (i := 4) (v := ?vhy33) rfl (by kernel_rfl) (by kernel_rfl) (by kernel_rfl) (fun _ _ _ h => h) (Or.inl ⟨by rfl, ?hy33⟩) (by assumption) ?rhy33
      case hy33 => ((intro w hSw; (try dsimp only at hSw); go_simp); try with_reducible rfl)
      try simp only [Act.put, List.setIfInBounds_toArray, List.set_cons_zero, List.set_cons_succ]
      refine wpAnyH_takeL (i := 5) (v := ?vhy34) rfl (by kernel_rfl) (by kernel_rfl) (by kernel_rfl) (fun _ _ _ h => h) (Or.inl ⟨by rfl, ?hy34⟩) (by assumption) ?rhy34
      case hy34 => ((intro w hSw; (try dsimp only at hSw); go_simp); try with_reducible rfl)
      try simp only [Act.put, List.setIfInBounds_toArray, List.set_cons_zero, List.set_cons_succ]
      refine wpAnyH_takeL (i := 6) (v := ?vhy35) rfl (by kernel_rfl) (by kernel_rfl) (by kernel_rfl) (fun _ _ _ h => h) (Or.inl ⟨by rfl, ?hy35⟩) (by assumption) ?rhy35
      case hy35 => ((intro w hSw; (try dsimp only at hSw); go_simp); try with_reducible rfl)
      try simp only [Act.put, List.setIfInBounds_toArray, List.set_cons_zero, List.set_cons_succ]
      have hkc := hkn.cells
      have hf0 := hkn.frozen 0
      have hf1 := hkn.frozen 1
      have hf2 := hkn.frozen 2
      refine wpAnyH_ready (rs := [8]) (by kernel_rfl) (by simp) ?_
      refine AllReadyH.consL (i := 8) rfl (fun K hK => ?_) AllReadyH.nil
      go_simp
      have hkb := hkn.put (.func (.func 89) #[] #[]) 3 (.func (.func 90) #[] #[])
      have hb2 := ((hb1.setCell (p := ⟨w1.heap.size, 0, none⟩) (Nat.le_refl _) (.func (.func 89) #[] #[])).setCell (p := ⟨w1.heap.size, 1, none⟩) (Nat.le_refl _) (.int .i64 3)).setCell (p := ⟨w1.heap.size, 2, none⟩) (Nat.le_refl _) (.func (.func 90) #[] #[])
      have hm1 := ((hm.kept (grownBy_setCell_at w2 ⟨w1.heap.size, 0, none⟩ (.func (.func 89) #[] #[])) (by simp; omega)).kept (grownBy_setCell_at _ ⟨w1.heap.size, 1, none⟩ (.int .i64 3)) (by simp; omega)).kept (grownBy_setCell_at _ ⟨w1.heap.size, 2, none⟩ (.func (.func 90) #[] #[])) (by simp; omega)
      refine hK.out _ _ ⟨hm1, hb2⟩ (fun hHeld => ?_)
      clear hK
      try simp only [Act.put, List.setIfInBounds_toArray, List.set_cons_zero, List.set_cons_succ]
      refine wpAnyH_takeL (i := 9) (v := ?vhy36) rfl (by kernel_rfl) (by kernel_rfl) (by kernel_rfl) (fun _ _ _ h => h) (Or.inl ⟨by rfl, ?hy36⟩) (by assumption) ?rhy36
      case hy36 => ((intro w hSw; (try dsimp only at hSw); go_simp); try with_reducible rfl)
      try simp only [Act.put, List.setIfInBounds_toArray, List.set_cons_zero, List.set_cons_succ]
      refine wpAnyH_done (by kernel_rfl) ?_ _
      refine NoPanic.normal ?_
      clear hHeld hlk hf0 hf1 hf2 hkc
      go_wp2_with fail
      go_meet
      exact ⟨_, rfl, rfl, hkb, Nat.le_refl _, hb2⟩
  case rest =>
    obtain ⟨B, rfl, rfl, hk, hBw, hbx⟩ := hcut
    have hb1 := gr hb0 hbx
    have hC1 := hC.below hbx hC.lt
    have cc := hC1.cells
    have ck := hk.cells
    clear hC hbx hb0 hlk
    generalize wc = w2 at *
    cases nb
    · go_wp2_with fail
      refine (hnm.out _).mono ?_
      rintro e w3 ⟨rfl, g1⟩
      have hf := gr hb1 g1
      clear hnm hsz g1
      go_wp2
      go_ret
      exact ⟨rfl, hf⟩
    · go_wp2_with fail
      refine (hnm.out _).mono ?_
      rintro e w3 ⟨rfl, g1⟩
      have hf := gr hb1 g1
      have hC2 := hC1.below g1 hC1.lt
      have hk2 := hk.below g1 hk.lt
      have cc2 := hC2.cells
      have ck2 := hk2.cells
      have eF := enters_of Tryz.func89 (by kernel_rfl) rfl
      clear hnm g1 cc ck hC1 hk
      go_wp2_with fail
      refine (hsz.out _).mono ?_
      rintro e w' ⟨rfl, rfl⟩
      clear hsz
      go_wp2
      go_ret
      exact ⟨rfl, hf⟩
set_option maxRecDepth 100000 in
set_option maxHeartbeats 4000000 in
theorem sright_4 (n : List UInt8) (z : Int) (nl : Bool) (w : World) (hl : n.length ≤ 100000) : Calls Tryz.prog 54 #[.agg #[.string (strL n), .int .i64 4, .int .i64 z, .bool nl]] w fun e w' => e = .returned (.bool (nameV n && (decide (1 ≤ z ∧ z ≤ 200)))) ∧ Below w.heap.size w w' := by
  have hb0 : Below w.heap.size w (w.alloc (.cells #[.string (strL n), .int .i64 4, .int .i64 z, .bool nl] 24)) := (Below.refl _ w).alloc (Nat.le_refl _) _
  have hC := CBox.new w ⟨n, 4, z, nl⟩
  obtain ⟨w1, hw1⟩ : ∃ w1, (w.alloc (.cells #[.string (strL n), .int .i64 4, .int .i64 z, .bool nl] 24)) = w1 := ⟨_, rfl⟩
  rw [hw1] at hb0 hC
  replace hw1 := Lib.hid hw1
  have hlk : ∀ w' r, IMap w' r .i64 SKinds → (Instr.lookup 113 (.map (some r)) (.int .i64 4) true).run Tryz.prog w' = .ok (.tuple #[.agg #[.func (.func 91) #[] #[], .int .i64 4, .func (.func 92) #[] #[]], .bool true]) w' := fun w' r hm =>
    hm.look _ _ _ Tryz.underlying113 Tryz.underlying22 4 3 _ rfl
  have hnm := fun W => named_any n W hl
  have hsz := fun W => size5_any z W
  generalize nameV n = nb at *
  generalize (decide (1 ≤ z ∧ z ≤ 200)) = R at *
  replace hnm := Lib.hid hnm
  replace hsz := Lib.hid hsz
  go_enter Tryz.func54, Tryz.ntmps54
  go_upto_region 1 with fail
  rw [hw1.out]
  clear hw1
  go_cut [3, 4] from 5 to 11 (fun s3 s4 wx => ∃ B : Nat, s3 = .pointer (some ⟨B, 0, none⟩) ∧ s4 = .bool true ∧ KB wx B (.func (.func 91) #[] #[]) 4 (.func (.func 92) #[] #[]) ∧ w1.heap.size ≤ B ∧ Below w1.heap.size w1 wx)
  case first =>
    refine wp_region_noPanic ?_
    refine wp_region_held_drew (S := fun w' => w'.cell? ⟨w.heap.size, 1, none⟩ = some (.int .i64 4)) (by kernel_rfl) (hC.below ((Below.refl _ w1).drew) hC.lt).cells.2.1 (fun hHeld => ?_)
    refine wpAnyH_takeL (i := 1) (v := ?vhy37) rfl (by kernel_rfl) (by kernel_rfl) (by kernel_rfl) (fun _ _ _ h => h) (Or.inl ⟨by rfl, ?hy37⟩) (by assumption) ?rhy37
    case hy37 => ((intro w hSw; (try dsimp only at hSw); go_simp); try with_reducible rfl)
    try simp only [Act.put, List.setIfInBounds_toArray, List.set_cons_zero, List.set_cons_succ]
    refine wpAnyH_takeL (i := 2) (v := ?vhy38) rfl (by kernel_rfl) (by kernel_rfl) (by kernel_rfl) (fun _ _ _ h => h) (Or.inl ⟨by rfl, ?hy38⟩) (by assumption) ?rhy38
    case hy38 => ((intro w hSw; (try dsimp only at hSw); go_simp); try with_reducible rfl)
    try simp only [Act.put, List.setIfInBounds_toArray, List.set_cons_zero, List.set_cons_succ]
    refine wpAnyH_ready (rs := [0, 7]) (by kernel_rfl) (by simp) ?_
    refine AllReadyH.consL (i := 0) rfl (fun K hK => ?_) (AllReadyH.consL (i := 7) rfl (fun K hK => ?_) AllReadyH.nil)
    · go_simp
      refine (skinds_any _).mono ?_
      rintro e w2 ⟨r, rfl, hm, hb1, hr1⟩
      replace hb1 := gr ((Below.refl _ w1).drew) hb1
      refine hK.out _ _ (hC.below hb1 hC.lt).cells.2.1 (fun hHeld => ?_)
      clear hK hHeld
      refine wpAnyH_more (S' := fun w' => IMap w' r .i64 SKinds ∧ Below w1.heap.size w1 w') (fun w' h => (hC.below h.2 hC.lt).cells.2.1) ?_
      have hHeld : IMap w2 r .i64 SKinds ∧ Below w1.heap.size w1 w2 := ⟨hm, hb1⟩
      try simp only [Act.put, List.setIfInBounds_toArray, List.set_cons_zero, List.set_cons_succ]
      refine wpAnyH_takeL (i := 3) (v := ?vhy39) rfl (by kernel_rfl) (by kernel_rfl) (by kernel_rfl) (fun _ _ _ h => h) (Or.inl ⟨by rfl, ?hy39⟩) (by assumption) ?rhy39
      case hy39 => ((intro w hSw; (try dsimp only at hSw); go_simp); try with_reducible rfl)
      try simp only [Act.put, List.setIfInBounds_toArray, List.set_cons_zero, List.set_cons_succ]
      refine wpAnyH_takeL (i := 4) (v := ?vhy40) rfl (by kernel_rfl) (by kernel_rfl) (by kernel_rfl) (fun _ _ _ h => h) (Or.inl ⟨by rfl, ?hy40⟩) (by assumption) ?rhy40
      case hy40 => ((intro w hSw; (try dsimp only at hSw); go_simp); try with_reducible rfl)
      try simp only [Act.put, List.setIfInBounds_toArray, List.set_cons_zero, List.set_cons_succ]
      refine wpAnyH_takeL (i := 5) (v := ?vhy41) rfl (by kernel_rfl) (by kernel_rfl) (by kernel_rfl) (fun _ _ _ h => h) (Or.inl ⟨by rfl, ?hy41⟩) (by assumption) ?rhy41
      case hy41 => ((intro w hSw; (try dsimp only at hSw); go_simp); try with_reducible rfl)
      try simp only [Act.put, List.setIfInBounds_toArray, List.set_cons_zero, List.set_cons_succ]
      refine wpAnyH_takeL (i := 6) (v := ?vhy42) rfl (by kernel_rfl) (by kernel_rfl) (by kernel_rfl) (fun _ _ _ h => h) (Or.inl ⟨by rfl, ?hy42⟩) (by assumption) ?rhy42
      case hy42 => ((intro w hSw; (try dsimp only at hSw); go_simp); try with_reducible rfl)
      try simp only [Act.put, List.setIfInBounds_toArray, List.set_cons_zero, List.set_cons_succ]
      refine wpAnyH_ready (rs := [7]) (by kernel_rfl) (by simp) ?_
      refine AllReadyH.consL (i := 7) rfl (fun K hK => ?_) AllReadyH.nil
      go_simp
      have hs2 := (Below.refl w2.heap.size w2).alloc (Nat.le_refl _) (.cells #[.nilFunc, .int .i64 0, .nilFunc] 112)
      refine hK.out _ _ ⟨hm.below hs2, gr hb1 hs2⟩ (fun hHeld => ?_)
      clear hK
      try simp only [Act.put, List.setIfInBounds_toArray, List.set_cons_zero, List.set_cons_succ]
      refine wpAnyH_ready (rs := [8]) (by kernel_rfl) (by simp) ?_
      refine AllReadyH.consL (i := 8) rfl (fun K hK => ?_) AllReadyH.nil
      go_simp
      have hs3 := (Below.refl w2.heap.size w2).alloc (Nat.le_refl _) (.cells #[(.func (.func 91) #[] #[]), .int .i64 4, (.func (.func 92) #[] #[])] 112)
      have hkb : KB (w2.alloc (.cells #[(.func (.func 91) #[] #[]), .int .i64 4, (.func (.func 92) #[] #[])] 112)) w2.heap.size (.func (.func 91) #[] #[]) 4 (.func (.func 92) #[] #[]) := World.alloc_heap_new w2 _
      refine hK.out _ _ ⟨hm.below hs3, gr hb1 hs3⟩ (fun hHeld => ?_)
      clear hK
      try simp only [Act.put, List.setIfInBounds_toArray, List.set_cons_zero, List.set_cons_succ]
      refine wpAnyH_takeL (i := 9) (v := ?vhy43) rfl (by kernel_rfl) (by kernel_rfl) (by kernel_rfl) (fun _ _ _ h => h) (Or.inl ⟨by rfl, ?hy43⟩) (by assumption) ?rhy43
      case hy43 => ((intro w hSw; (try dsimp only at hSw); go_simp); try with_reducible rfl)
      try simp only [Act.put, List.setIfInBounds_toArray, List.set_cons_zero, List.set_cons_succ]
      refine wpAnyH_done (by kernel_rfl) ?_ _
      refine NoPanic.normal ?_
      clear hHeld hlk
      go_wp2_with fail
      go_meet
      exact ⟨_, rfl, rfl, hkb, hb1.size, gr hb1 hs3⟩
    · go_simp
      have hs2 := (Below.refl w1.heap.size w1).alloc (Nat.le_refl _) (.cells #[.nilFunc, .int .i64 0, .nilFunc] 112)
      have hkn : KB (w1.alloc (.cells #[.nilFunc, .int .i64 0, .nilFunc] 112)) w1.heap.size .nilFunc 0 .nilFunc := World.alloc_heap_new w1 _
      have hln : w1.heap.size < (w1.alloc (.cells #[.nilFunc, .int .i64 0, .nilFunc] 112)).heap.size := by simp
      refine hK.out _ _ (hC.below hs2.drew hC.lt).cells.2.1 (fun hHeld => ?_)
      clear hK
      try simp only [Act.put, List.setIfInBounds_toArray, List.set_cons_zero, List.set_cons_succ]
      refine wpAnyH_ready (rs := [0]) (by kernel_rfl) (by simp) ?_
      refine AllReadyH.consL (i := 0) rfl (fun K hK => ?_) AllReadyH.nil
      go_simp
      refine (skinds_any _).mono ?_
      rintro e w2 ⟨r, rfl, hm, hb1, hr1⟩
      replace hr1 : w1.heap.size < r := Nat.lt_of_lt_of_le hln hr1
      replace hkn : KB w2 w1.heap.size .nilFunc 0 .nilFunc := (hb1.block _ hln).trans hkn
      replace hb1 := gr hs2.drew hb1
      refine hK.out _ _ (hC.below hb1 hC.lt).cells.2.1 (fun hHeld => ?_)
      clear hK hHeld
      refine wpAnyH_more (S' := fun w' => IMap w' r .i64 SKinds ∧ Below w1.heap.size w1 w') (fun w' h => (hC.below h.2 hC.lt).cells.2.1) ?_
      have hHeld : IMap w2 r .i64 SKinds ∧ Below w1.heap.size w1 w2 := ⟨hm, hb1⟩
      try simp only [Act.put, List.setIfInBounds_toArray, List.set_cons_zero, List.set_cons_succ]
      refine wpAnyH_takeL (i := 3) (v := ?vhy44) rfl (by kernel_rfl) (by kernel_rfl) (by kernel_rfl) (fun _ _ _ h => h) (Or.inl ⟨by rfl, ?hy44⟩) (by assumption) ?rhy44
      case hy44 => ((intro w hSw; (try dsimp only at hSw); go_simp); try with_reducible rfl)
      try simp only [Act.put, List.setIfInBounds_toArray, List.set_cons_zero, List.set_cons_succ]
      refine wpAnyH_takeL (i := 4) (v := ?vhy45) rfl (by kernel_rfl) (by kernel_rfl) (by kernel_rfl) (fun _ _ _ h => h) (Or.inl ⟨by rfl, ?hy45⟩) (by assumption) ?rhy45
      case hy45 => ((intro w hSw; (try dsimp only at hSw); go_simp); try with_reducible rfl)
      try simp only [Act.put, List.setIfInBounds_toArray, List.set_cons_zero, List.set_cons_succ]
      refine wpAnyH_takeL (i := 5) (v := ?vhy46) rfl (by kernel_rfl) (by kernel_rfl) (by kernel_rfl) (fun _ _ _ h => h) (Or.inl ⟨by rfl, ?hy46⟩) (by assumption) ?rhy46
      case hy46 => ((intro w hSw; (try dsimp only at hSw); go_simp); try with_reducible rfl)
      try simp only [Act.put, List.setIfInBounds_toArray, List.set_cons_zero, List.set_cons_succ]
      refine wpAnyH_takeL (i := 6) (v := ?vhy47) rfl (by kernel_rfl) (by kernel_rfl) (by kernel_rfl) (fun _ _ _ h => h) (Or.inl ⟨by rfl, ?hy47⟩) (by assumption) ?rhy47
      case hy47 => ((intro w hSw; (try dsimp only at hSw); go_simp); try with_reducible rfl)
      try simp only [Act.put, List.setIfInBounds_toArray, List.set_cons_zero, List.set_cons_succ]
      have hkc := hkn.cells
      have hf0 := hkn.frozen 0
      have hf1 := hkn.frozen 1
      have hf2 := hkn.frozen 2
      refine wpAnyH_ready (rs := [8]) (by kernel_rfl) (by simp) ?_
      refine AllReadyH.consL (i := 8) rfl (fun K hK => ?_) AllReadyH.nil
      go_simp
      have hkb := hkn.put (.func (.func 91) #[] #[]) 4 (.func (.func 92) #[] #[])
      have hb2 := ((hb1.setCell (p := ⟨w1.heap.size, 0, none⟩) (Nat.le_refl _) (.func (.func 91) #[] #[])).setCell (p := ⟨w1.heap.size, 1, none⟩) (Nat.le_refl _) (.int .i64 4)).setCell (p := ⟨w1.heap.size, 2, none⟩) (Nat.le_refl _) (.func (.func 92) #[] #[])
      have hm1 := ((hm.kept (grownBy_setCell_at w2 ⟨w1.heap.size, 0, none⟩ (.func (.func 91) #[] #[])) (by simp; omega)).kept (grownBy_setCell_at _ ⟨w1.heap.size, 1, none⟩ (.int .i64 4)) (by simp; omega)).kept (grownBy_setCell_at _ ⟨w1.heap.size, 2, none⟩ (.func (.func 92) #[] #[])) (by simp; omega)
      refine hK.out _ _ ⟨hm1, hb2⟩ (fun hHeld => ?_)
      clear hK
      try simp only [Act.put, List.setIfInBounds_toArray, List.set_cons_zero, List.set_cons_succ]
      refine wpAnyH_takeL (i := 9) (v := ?vhy48) rfl (by kernel_rfl) (by kernel_rfl) (by kernel_rfl) (fun _ _ _ h => h) (Or.inl ⟨by rfl, ?hy48⟩) (by assumption) ?rhy48
      case hy48 => ((intro w hSw; (try dsimp only at hSw); go_simp); try with_reducible rfl)
      try simp only [Act.put, List.setIfInBounds_toArray, List.set_cons_zero, List.set_cons_succ]
      refine wpAnyH_done (by kernel_rfl) ?_ _
      refine NoPanic.normal ?_
      clear hHeld hlk hf0 hf1 hf2 hkc
      go_wp2_with fail
      go_meet
      exact ⟨_, rfl, rfl, hkb, Nat.le_refl _, hb2⟩
  case rest =>
    obtain ⟨B, rfl, rfl, hk, hBw, hbx⟩ := hcut
    have hb1 := gr hb0 hbx
    have hC1 := hC.below hbx hC.lt
    have cc := hC1.cells
    have ck := hk.cells
    clear hC hbx hb0 hlk
    generalize wc = w2 at *
    cases nb
    · go_wp2_with fail
      refine (hnm.out _).mono ?_
      rintro e w3 ⟨rfl, g1⟩
      have hf := gr hb1 g1
      clear hnm hsz g1
      go_wp2
      go_ret
      exact ⟨rfl, hf⟩
    · go_wp2_with fail
      refine (hnm.out _).mono ?_
      rintro e w3 ⟨rfl, g1⟩
      have hf := gr hb1 g1
      have hC2 := hC1.below g1 hC1.lt
      have hk2 := hk.below g1 hk.lt
      have cc2 := hC2.cells
      have ck2 := hk2.cells
      have eF := enters_of Tryz.func91 (by kernel_rfl) rfl
      clear hnm g1 cc ck hC1 hk
      go_wp2_with fail
      refine (hsz.out _).mono ?_
      rintro e w' ⟨rfl, rfl⟩
      clear hsz
      go_wp2
      go_ret
      exact ⟨rfl, hf⟩
set_option maxRecDepth 100000 in
set_option maxHeartbeats 4000000 in
theorem sright_no (n : List UInt8) (t z : Int) (nl : Bool) (w : World) (h1 : t ≠ 1) (h2 : t ≠ 2) (h3 : t ≠ 3) (h4 : t ≠ 4) : Calls Tryz.prog 54 #[.agg #[.string (strL n), .int .i64 t, .int .i64 z, .bool nl]] w fun e w' => e = .returned (.bool false) ∧ Below w.heap.size w w' := by
  have hb0 : Below w.heap.size w (w.alloc (.cells #[.string (strL n), .int .i64 t, .int .i64 z, .bool nl] 24)) := (Below.refl _ w).alloc (Nat.le_refl _) _
  have hC := CBox.new w ⟨n, t, z, nl⟩
  obtain ⟨w1, hw1⟩ : ∃ w1, (w.alloc (.cells #[.string (strL n), .int .i64 t, .int .i64 z, .bool nl] 24)) = w1 := ⟨_, rfl⟩
  rw [hw1] at hb0 hC
  replace hw1 := Lib.hid hw1
  have hlk : ∀ w' r, IMap w' r .i64 SKinds → (Instr.lookup 113 (.map (some r)) (.int .i64 t) true).run Tryz.prog w' = .ok (.tuple #[.agg #[.nilFunc, .int .i64 0, .nilFunc], .bool false]) w' := fun w' r hm =>
    hm.lookNot _ _ _ Tryz.underlying113 Tryz.underlying22 t _ (fun w => by kernel_rfl) (by simp [SKinds, seek, h1, h2, h3, h4])
  clear h1 h2 h3 h4
  go_enter Tryz.func54, Tryz.ntmps54
  go_upto_region 1 with fail
  rw [hw1.out]
  clear hw1
  go_cut [3, 4] from 5 to 11 (fun s3 s4 wx => ∃ B : Nat, s3 = .pointer (some ⟨B, 0, none⟩) ∧ s4 = .bool false ∧ KB wx B .nilFunc 0 .nilFunc ∧ w1.heap.size ≤ B ∧ Below w1.heap.size w1 wx)
  case first =>
    refine wp_region_noPanic ?_
    refine wp_region_held_drew (S := fun w' => w'.cell? ⟨w.heap.size, 1, none⟩ = some (.int .i64 t)) (by kernel_rfl) (hC.below ((Below.refl _ w1).drew) hC.lt).cells.2.1 (fun hHeld => ?_)
    refine wpAnyH_takeL (i := 1) (v := ?vhy49) rfl (by kernel_rfl) (by kernel_rfl) (by kernel_rfl) (fun _ _ _ h => h) (Or.inl ⟨by rfl, ?hy49⟩) (by assumption) ?rhy49
    case hy49 => ((intro w hSw; (try dsimp only at hSw); go_simp); try with_reducible rfl)
    try simp only [Act.put, List.setIfInBounds_toArray, List.set_cons_zero, List.set_cons_succ]
    refine wpAnyH_takeL (i := 2) (v := ?vhy50) rfl (by kernel_rfl) (by kernel_rfl) (by kernel_rfl) (fun _ _ _ h => h) (Or.inl ⟨by rfl, ?hy50⟩) (by assumption) ?rhy50
    case hy50 => ((intro w hSw; (try dsimp only at hSw); go_simp); try with_reducible rfl)
    try simp only [Act.put, List.setIfInBounds_toArray, List.set_cons_zero, List.set_cons_succ]
    refine wpAnyH_ready (rs := [0, 7]) (by kernel_rfl) (by simp) ?_
    refine AllReadyH.consL (i := 0) rfl (fun K hK => ?_) (AllReadyH.consL (i := 7) rfl (fun K hK => ?_) AllReadyH.nil)
    · go_simp
      refine (skinds_any _).mono ?_
      rintro e w2 ⟨r, rfl, hm, hb1, hr1⟩
      replace hb1 := gr ((Below.refl _ w1).drew) hb1
      refine hK.out _ _ (hC.below hb1 hC.lt).cells.2.1 (fun hHeld => ?_)
      clear hK hHeld
      refine wpAnyH_more (S' := fun w' => IMap w' r .i64 SKinds ∧ Below w1.heap.size w1 w') (fun w' h => (hC.below h.2 hC.lt).cells.2.1) ?_
      have hHeld : IMap w2 r .i64 SKinds ∧ Below w1.heap.size w1 w2 := ⟨hm, hb1⟩
      try simp only [Act.put, List.setIfInBounds_toArray, List.set_cons_zero, List.set_cons_succ]
      refine wpAnyH_takeL (i := 3) (v := ?vhy51) rfl (by kernel_rfl) (by kernel_rfl) (by kernel_rfl) (fun _ _ _ h => h) (Or.inl ⟨by rfl, ?hy51⟩) (by assumption) ?rhy51
      case hy51 => ((intro w hSw; (try dsimp only at hSw); go_simp); try with_reducible rfl)
      try simp only [Act.put, List.setIfInBounds_toArray, List.set_cons_zero, List.set_cons_succ]
      refine wpAnyH_takeL (i := 4) (v := ?vhy52) rfl (by kernel_rfl) (by kernel_rfl) (by kernel_rfl) (fun _ _ _ h => h) (Or.inl ⟨by rfl, ?hy52⟩) (by assumption) ?rhy52
      case hy52 => ((intro w hSw; (try dsimp only at hSw); go_simp); try with_reducible rfl)
      try simp only [Act.put, List.setIfInBounds_toArray, List.set_cons_zero, List.set_cons_succ]
      refine wpAnyH_takeL (i := 5) (v := ?vhy53) rfl (by kernel_rfl) (by kernel_rfl) (by kernel_rfl) (fun _ _ _ h => h) (Or.inl ⟨by rfl, ?hy53⟩) (by assumption) ?rhy53
      case hy53 => ((intro w hSw; (try dsimp only at hSw); go_simp); try with_reducible rfl)
      try simp only [Act.put, List.setIfInBounds_toArray, List.set_cons_zero, List.set_cons_succ]
      refine wpAnyH_takeL (i := 6) (v := ?vhy54) rfl (by kernel_rfl) (by kernel_rfl) (by kernel_rfl) (fun _ _ _ h => h) (Or.inl ⟨by rfl, ?hy54⟩) (by assumption) ?rhy54
      case hy54 => ((intro w hSw; (try dsimp only at hSw); go_simp); try with_reducible rfl)
      try simp only [Act.put, List.setIfInBounds_toArray, List.set_cons_zero, List.set_cons_succ]
      refine wpAnyH_ready (rs := [7]) (by kernel_rfl) (by simp) ?_
      refine AllReadyH.consL (i := 7) rfl (fun K hK => ?_) AllReadyH.nil
      go_simp
      have hs2 := (Below.refl w2.heap.size w2).alloc (Nat.le_refl _) (.cells #[.nilFunc, .int .i64 0, .nilFunc] 112)
      refine hK.out _ _ ⟨hm.below hs2, gr hb1 hs2⟩ (fun hHeld => ?_)
      clear hK
      try simp only [Act.put, List.setIfInBounds_toArray, List.set_cons_zero, List.set_cons_succ]
      refine wpAnyH_ready (rs := [8]) (by kernel_rfl) (by simp) ?_
      refine AllReadyH.consL (i := 8) rfl (fun K hK => ?_) AllReadyH.nil
      go_simp
      have hs3 := (Below.refl w2.heap.size w2).alloc (Nat.le_refl _) (.cells #[.nilFunc, .int .i64 0, .nilFunc] 112)
      have hkb : KB (w2.alloc (.cells #[.nilFunc, .int .i64 0, .nilFunc] 112)) w2.heap.size .nilFunc 0 .nilFunc := World.alloc_heap_new w2 _
      refine hK.out _ _ ⟨hm.below hs3, gr hb1 hs3⟩ (fun hHeld => ?_)
      clear hK
      try simp only [Act.put, List.setIfInBounds_toArray, List.set_cons_zero, List.set_cons_succ]
      refine wpAnyH_takeL (i := 9) (v := ?vhy55) rfl (by kernel_rfl) (by kernel_rfl) (by kernel_rfl) (fun _ _ _ h => h) (Or.inl ⟨by rfl, ?hy55⟩) (by assumption) ?rhy55
      case hy55 => ((intro w hSw; (try dsimp only at hSw); go_simp); try with_reducible rfl)
      try simp only [Act.put, List.setIfInBounds_toArray, List.set_cons_zero, List.set_cons_succ]
      refine wpAnyH_done (by kernel_rfl) ?_ _
      refine NoPanic.normal ?_
      clear hHeld hlk
      go_wp2_with fail
      go_meet
      exact ⟨_, rfl, rfl, hkb, hb1.size, gr hb1 hs3⟩
    · go_simp
      have hs2 := (Below.refl w1.heap.size w1).alloc (Nat.le_refl _) (.cells #[.nilFunc, .int .i64 0, .nilFunc] 112)
      have hkn : KB (w1.alloc (.cells #[.nilFunc, .int .i64 0, .nilFunc] 112)) w1.heap.size .nilFunc 0 .nilFunc := World.alloc_heap_new w1 _
      have hln : w1.heap.size < (w1.alloc (.cells #[.nilFunc, .int .i64 0, .nilFunc] 112)).heap.size := by simp
      refine hK.out _ _ (hC.below hs2.drew hC.lt).cells.2.1 (fun hHeld => ?_)
      clear hK
      try simp only [Act.put, List.setIfInBounds_toArray, List.set_cons_zero, List.set_cons_succ]
      refine wpAnyH_ready (rs := [0]) (by kernel_rfl) (by simp) ?_
      refine AllReadyH.consL (i := 0) rfl (fun K hK => ?_) AllReadyH.nil
      go_simp
      refine (skinds_any _).mono ?_
      rintro e w2 ⟨r, rfl, hm, hb1, hr1⟩
      replace hr1 : w1.heap.size < r := Nat.lt_of_lt_of_le hln hr1
      replace hkn : KB w2 w1.heap.size .nilFunc 0 .nilFunc := (hb1.block _ hln).trans hkn
      replace hb1 := gr hs2.drew hb1
      refine hK.out _ _ (hC.below hb1 hC.lt).cells.2.1 (fun hHeld => ?_)
      clear hK hHeld
      refine wpAnyH_more (S' := fun w' => IMap w' r .i64 SKinds ∧ Below w1.heap.size w1 w') (fun w' h => (hC.below h.2 hC.lt).cells.2.1) ?_
      have hHeld : IMap w2 r .i64 SKinds ∧ Below w1.heap.size w1 w2 := ⟨hm, hb1⟩
      try simp only [Act.put, List.setIfInBounds_toArray, List.set_cons_zero, List.set_cons_succ]
      refine wpAnyH_takeL (i := 3) (v := ?vhy56) rfl (by kernel_rfl) (by kernel_rfl) (by kernel_rfl) (fun _ _ _ h => h) (Or.inl ⟨by rfl, ?hy56⟩) (by assumption) ?rhy56
      case hy56 => ((intro w hSw; (try dsimp only at hSw); go_simp); try with_reducible rfl)
      try simp only [Act.put, List.setIfInBounds_toArray, List.set_cons_zero, List.set_cons_succ]
      refine wpAnyH_takeL (i := 4) (v := ?vhy57) rfl (by kernel_rfl) (by kernel_rfl) (by kernel_rfl) (fun _ _ _ h => h) (Or.inl ⟨by rfl, ?hy57⟩) (by assumption) ?rhy57
      case hy57 => ((intro w hSw; (try dsimp only at hSw); go_simp); try with_reducible rfl)
      try simp only [Act.put, List.setIfInBounds_toArray, List.set_cons_zero, List.set_cons_succ]
      refine wpAnyH_takeL (i := 5) (v := ?vhy58) rfl (by kernel_rfl) (by kernel_rfl) (by kernel_rfl) (fun _ _ _ h => h) (Or.inl ⟨by rfl, ?hy58⟩) (by assumption) ?rhy58
      case hy58 => ((intro w hSw; (try dsimp only at hSw); go_simp); try with_reducible rfl)
      try simp only [Act.put, List.setIfInBounds_toArray, List.set_cons_zero, List.set_cons_succ]
      refine wpAnyH_takeL (i := 6) (v := ?vhy59) rfl (by kernel_rfl) (by kernel_rfl) (by kernel_rfl) (fun _ _ _ h => h) (Or.inl ⟨by rfl, ?hy59⟩) (by assumption) ?rhy59
      case hy59 => ((intro w hSw; (try dsimp only at hSw); go_simp); try with_reducible rfl)
      try simp only [Act.put, List.setIfInBounds_toArray, List.set_cons_zero, List.set_cons_succ]
      have hkc := hkn.cells
      have hf0 := hkn.frozen 0
      have hf1 := hkn.frozen 1
      have hf2 := hkn.frozen 2
      refine wpAnyH_ready (rs := [8]) (by kernel_rfl) (by simp) ?_
      refine AllReadyH.consL (i := 8) rfl (fun K hK => ?_) AllReadyH.nil
      go_simp
      have hkb := hkn.put .nilFunc 0 .nilFunc
      have hb2 := ((hb1.setCell (p := ⟨w1.heap.size, 0, none⟩) (Nat.le_refl _) .nilFunc).setCell (p := ⟨w1.heap.size, 1, none⟩) (Nat.le_refl _) (.int .i64 0)).setCell (p := ⟨w1.heap.size, 2, none⟩) (Nat.le_refl _) .nilFunc
      have hm1 := ((hm.kept (grownBy_setCell_at w2 ⟨w1.heap.size, 0, none⟩ .nilFunc) (by simp; omega)).kept (grownBy_setCell_at _ ⟨w1.heap.size, 1, none⟩ (.int .i64 0)) (by simp; omega)).kept (grownBy_setCell_at _ ⟨w1.heap.size, 2, none⟩ .nilFunc) (by simp; omega)
      refine hK.out _ _ ⟨hm1, hb2⟩ (fun hHeld => ?_)
      clear hK
      try simp only [Act.put, List.setIfInBounds_toArray, List.set_cons_zero, List.set_cons_succ]
      refine wpAnyH_takeL (i := 9) (v := ?vhy60) rfl (by kernel_rfl) (by kernel_rfl) (by kernel_rfl) (fun _ _ _ h => h) (Or.inl ⟨by rfl, ?hy60⟩) (by assumption) ?rhy60
      case hy60 => ((intro w hSw; (try dsimp only at hSw); go_simp); try with_reducible rfl)
      try simp only [Act.put, List.setIfInBounds_toArray, List.set_cons_zero, List.set_cons_succ]
      refine wpAnyH_done (by kernel_rfl) ?_ _
      refine NoPanic.normal ?_
      clear hHeld hlk hf0 hf1 hf2 hkc
      go_wp2_with fail
      go_meet
      exact ⟨_, rfl, rfl, hkb, Nat.le_refl _, hb2⟩
  case rest =>
    obtain ⟨B, rfl, rfl, hk, hBw, hbx⟩ := hcut
    have hb1 := gr hb0 hbx
    clear hC hbx hb0 hlk hk
    go_wp2
    go_ret
    exact ⟨rfl, hb1⟩
theorem sright_any (c : Cl) (w : World) (hl : c.n.length ≤ 100000) : Calls Tryz.prog 54 #[c.val] w fun e w' => e = .returned (.bool (colV c)) ∧ Below w.heap.size w w' := by
  obtain ⟨n, t, z, nl⟩ := c
  unfold colV Cl.val
  dsimp only at hl ⊢
  by_cases h1 : t = 1
  · subst h1
    exact sright_1 n z nl w hl
  by_cases h2 : t = 2
  · subst h2
    exact sright_2 n z nl w hl
  by_cases h3 : t = 3
  · subst h3
    have h := sright_3 n z nl w hl
    have e : (z == 0) = sizeV 3 z := by unfold sizeV; rw [Bool.eq_iff_iff]; simp
    rw [e] at h
    exact h
  by_cases h4 : t = 4
  · subst h4
    exact sright_4 n z nl w hl
  have e : sizeV t z = false := by unfold sizeV; rw [if_neg (by omega), if_neg h3, if_neg h4]
  rw [e, Bool.and_false]
  exact sright_no n t z nl w h1 h2 h3 h4
end Go.Proofs.YtagoooclfcbdeaaGreatDoor
