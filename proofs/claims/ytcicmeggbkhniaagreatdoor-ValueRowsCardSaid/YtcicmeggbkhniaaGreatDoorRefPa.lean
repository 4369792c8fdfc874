/- The reference's digit and bytes. -/
import Derived.Test.YtcicmeggbkhniaaGreatDoorParseB
namespace Go.Proofs.YtcicmeggbkhniaaGreatDoor
open Go.RowKit
set_option linter.unusedVariables false

theorem dig_at : ∀ k, k < 16 → digI (hexDig k) = (k : Int) := by decide
theorem dig_none (c : UInt8) (h : ∀ j, j < 16 → hexDig j ≠ c) : digI c = -1 := by
  unfold digI
  cases e : dig16 c with
  | none => rfl
  | some x =>
    obtain ⟨h1, h2⟩ := hexDig_dig16 c x e
    exact absurd h1 (h x h2)

set_option maxRecDepth 100000 in
theorem digit_any (c : UInt8) (w : World) : Calls Tryz.prog 65 #[.int .u8 (c.toNat : Int)] w fun e w' => e = .returned (.int .i64 (digI c)) ∧ w = w' := by
  have hsz : ({ data := #[48, 49, 50, 51, 52, 53, 54, 55, 56, 57, 97, 98, 99, 100, 101, 102] } : ByteArray).size = 16 := rfl
  have hc := c.toNat_lt
  go_enter Tryz.func65, Tryz.ntmps65
  go_wp2
  go_loop [3] (fun p => ∃ k : Nat, k ≤ 16 ∧ p = .int .i64 (k : Int) ∧ ∀ j, j < k → hexDig j ≠ c) (fun p => 16 - (intOf p).toNat)
  case atStart => exact ⟨0, by omega, rfl, by omega⟩
  case round =>
    obtain ⟨k, hk, rfl, hne⟩ := hrel
    by_cases hlt : k < 16
    · have hget : ∀ h, ({ data := #[48, 49, 50, 51, 52, 53, 54, 55, 56, 57, 97, 98, 99, 100, 101, 102] } : ByteArray)[k]'h = hexDig k := fun h => by
        have hall : ∀ i : Fin 16, ([48, 49, 50, 51, 52, 53, 54, 55, 56, 57, 97, 98, 99, 100, 101, 102] : List UInt8)[i.val] = hexDig i.val := by decide
        exact hall ⟨k, hlt⟩
      by_cases e : hexDig k = c
      · have hd : (((hexDig k).toNat : Int) == (c.toNat : Int)) = true := by rw [e]; simp
        have hr : (k : Int) = digI c := by rw [← e, dig_at k hlt]
        replace hr := Lib.hid hr
        clear e hne
        go_wp2
        go_ret
        exact ⟨ret_int hr.out, rfl⟩
      · have hd : (((hexDig k).toNat : Int) == (c.toNat : Int)) = false := by
          simp only [beq_eq_false_iff_ne, ne_eq]
          intro e2
          exact e (UInt8.toNat_inj.1 (by omega))
        have hn2 : ∀ j, j < k + 1 → hexDig j ≠ c := fun j hj => by
          by_cases h : j = k
          · rw [h]; exact e
          · exact hne j (by omega)
        replace hn2 := Lib.hid hn2
        clear e hne
        go_wp2
        go_round
        case rel => exact ⟨k + 1, by omega, by go_num, hn2.out⟩
        case measure => simp [intOf]; omega
    · obtain rfl : k = 16 := by omega
      have hr := dig_none c hne
      replace hr := Lib.hid hr
      clear hne
      go_wp2
      go_ret
      exact ⟨ret_int hr.out.symm, rfl⟩

theorem Ob.arr {w : World} {base : Nat} {e : TypeId} {g n : Nat} {l : List UInt8} (h : Ob w base e (some ⟨g, 0, none⟩) n n l) : Arr w g e l := by
  obtain ⟨h1, h2⟩ := h
  rcases h2 with ⟨h2, _⟩ | ⟨g', cap, cur, h2, _, h4, h5, h6, h7, h8⟩
  · cases h2
  · injection h2 with e1 e2 e3
    injection e1 with e1
    injection e1 with e1
    subst e1 e3
    unfold Arr
    rw [h4, ← h8, List.take_of_length_le (by simp [h7])]
/-- What the reference's bytes tells. -/
def rbV (l : List UInt8) : List UInt8 × Bool := match unhex l with
  | some b => (b, true)
  | none => ([], false)

attribute [local go_sem] strL_size
set_option maxRecDepth 100000 in
set_option maxHeartbeats 2000000 in
theorem rbytes_any (l : List UInt8) (w : World) (hl : l.length ≤ 100000) :
    Calls Tryz.prog 33 #[.string (strL l)] w fun e w' => e = .returned (.tuple #[.string (strL (rbV l).1), .bool (rbV l).2]) ∧ Below w.heap.size w w' := by
  have hsz : (strL l).size = l.length := strL_size l
  by_cases hodd : l.length % 2 = 1
  · have hN : rbV l = ([], false) := by unfold rbV; rw [unhex_odd l hodd]
    rw [hN]
    have hd : (((l.length : Int) % 2) == 1) = true := by simp; omega
    clear hN hodd
    go_enter Tryz.func33, Tryz.ntmps33
    go_wp2
    go_ret2
    exact ⟨rfl, Below.refl _ _⟩
  · have hd : (((l.length : Int) % 2) == 1) = false := by simp; omega
    obtain ⟨n, hn⟩ : ∃ n, l.length = 2 * n := ⟨l.length / 2, by omega⟩
    have hq : (l.length : Int) / 2 = (n : Int) := by omega
    clear hodd
    go_enter Tryz.func33, Tryz.ntmps33
    go_wp2_with (at_make; refine wpList_make_b _ rfl _ _ 61 rfl 5 Tryz.underlying61 info_p8 w.heap.size .i64 .i64 _ _ n rfl rfl (by omega) (by omega) (by omega) (Nat.le_refl _) ?_; intro w1 hown1 hgrow1)
    have hA1 := hown1.arr
    have hb1 : Below w.heap.size w w1 := Below.of_grown_none hgrow1
    clear hown1 hgrow1 hd
    go_loopw [5] (fun p wr => ∃ out : List UInt8, p = .int .i64 (out.length : Int) ∧ out.length ≤ n ∧ unhex l = (unhex (l.drop (2 * out.length))).map (out ++ ·) ∧ Arr wr w.heap.size 5 (out ++ List.replicate (n - out.length) 0) ∧ Below w.heap.size w wr)
      (fun p wr => n - (intOf p).toNat)
    case atStart => exact ⟨[], rfl, by simp, by simp, by simpa using hA1, hb1⟩
    case round =>
      obtain ⟨out, rfl, hj, hun, hO, hbw⟩ := hrel
      by_cases hlt : out.length < n
      · rw [List.drop_eq_getElem_cons (show 2 * out.length < l.length by omega), List.drop_eq_getElem_cons (show 2 * out.length + 1 < l.length by omega), unhex] at hun
        obtain ⟨x, ex⟩ : ∃ x, l[2 * out.length]'(by omega) = x := ⟨_, rfl⟩
        obtain ⟨y, ey⟩ : ∃ y, l[2 * out.length + 1]'(by omega) = y := ⟨_, rfl⟩
        rw [ex, ey] at hun
        have g1 : ∀ h, (strL l)[2 * out.length]'h = x := fun h => ex
        have g2 : ∀ h, (strL l)[2 * out.length + 1]'h = y := fun h => ey
        clear ex ey
        have hA1 := fun W => digit_any x W
        have hA2 := fun W => digit_any y W
        unfold digI at hA1
        have hfr := hO.frozen out.length
        have hcl := hO.cell (j := out.length) (by simp; omega)
        rw [List.getElem_append_right (Nat.le_refl _), List.getElem_replicate] at hcl
        have htail : ∀ v : UInt8, (out ++ List.replicate (n - out.length) 0).set out.length v = (out ++ [v]) ++ List.replicate (n - (out ++ [v]).length) 0 := fun v => by
          rw [List.set_append_right _ _ (Nat.le_refl _), Nat.sub_self]
          obtain ⟨m, hm⟩ : ∃ m, n - out.length = m + 1 := ⟨n - out.length - 1, by omega⟩
          rw [hm, List.replicate_succ, List.set_cons_zero, List.append_assoc, show n - (out ++ [v]).length = m from by simp; omega]
          rfl
        have hlt2 : decide ((out.length : Int) < (n : Int)) = true := by simp; omega
        have v1 : IntKind.i64.wrap (2 * (out.length : Int)) = 2 * (out.length : Int) := by rw [IntKind.wrap_i64]; omega
        have v2 : IntKind.i64.wrap (2 * (out.length : Int) + 1) = 2 * (out.length : Int) + 1 := by rw [IntKind.wrap_i64]; omega
        have t1 : (2 * (out.length : Int)).toNat = 2 * out.length := by omega
        have t2 : (2 * (out.length : Int) + 1).toNat = 2 * out.length + 1 := by omega
        have n1 : (0 : Int) ≤ 2 * (out.length : Int) := by omega
        have n2 : (0 : Int) ≤ 2 * (out.length : Int) + 1 := by omega
        have l1 : 2 * (out.length : Int) < 2 * (n : Int) := by omega
        have l2 : 2 * (out.length : Int) + 1 < 2 * (n : Int) := by omega
        generalize hi : out.length = i at *
        cases hx : dig16 x with
        | none =>
          rw [hx] at hun hA1
          have hN : rbV l = ([], false) := by unfold rbV; rw [hun]; rfl
          generalize digI y = z at hA2
          replace hA1 := Lib.hid hA1
          replace hA2 := Lib.hid hA2
          replace hN := Lib.hid hN
          replace hO := Lib.hid hO
          clear hx hun hi htail hfr hcl
          go_wp2_with fail
          refine wp_region_noPanic ?_
          refine wp_region_held_drew (S := fun _ => True) (by kernel_rfl) trivial (fun hHeld => ?_)
          refine wpAnyH_takeL (i := 0) (v := ?vhy1) rfl (by kernel_rfl) (by kernel_rfl) (by kernel_rfl) (fun _ _ _ h => h) (Or.inl ⟨by rfl, ?hy1⟩) (by assumption) ?rhy1
          case hy1 => ((intro w hSw; (try dsimp only at hSw); go_simp); try with_reducible rfl)
          try simp only [Act.put, List.setIfInBounds_toArray, List.set_cons_zero, List.set_cons_succ]
          refine wpAnyH_takeL (i := 1) (v := ?vhy2) rfl (by kernel_rfl) (by kernel_rfl) (by kernel_rfl) (fun _ _ _ h => h) (Or.inl ⟨by rfl, ?hy2⟩) (by assumption) ?rhy2
          case hy2 => ((intro w hSw; (try dsimp only at hSw); go_simp); try with_reducible rfl)
          try simp only [Act.put, List.setIfInBounds_toArray, List.set_cons_zero, List.set_cons_succ]
          refine wpAnyH_takeL (i := 2) (v := ?vhy3) rfl (by kernel_rfl) (by kernel_rfl) (by kernel_rfl) (fun _ _ _ h => h) (Or.inl ⟨by rfl, ?hy3⟩) (by assumption) ?rhy3
          case hy3 => ((intro w hSw; (try dsimp only at hSw); go_simp); try with_reducible rfl)
          try simp only [Act.put, List.setIfInBounds_toArray, List.set_cons_zero, List.set_cons_succ]
          refine wpAnyH_takeL (i := 3) (v := ?vhy4) rfl (by kernel_rfl) (by kernel_rfl) (by kernel_rfl) (fun _ _ _ h => h) (Or.inl ⟨by rfl, ?hy4⟩) (by assumption) ?rhy4
          case hy4 => ((intro w hSw; (try dsimp only at hSw); go_simp); try with_reducible rfl)
          try simp only [Act.put, List.setIfInBounds_toArray, List.set_cons_zero, List.set_cons_succ]
          refine wpAnyH_takeL (i := 5) (v := ?vhy5) rfl (by kernel_rfl) (by kernel_rfl) (by kernel_rfl) (fun _ _ _ h => h) (Or.inl ⟨by rfl, ?hy5⟩) (by assumption) ?rhy5
          case hy5 => ((intro w hSw; (try dsimp only at hSw); go_simp); try with_reducible rfl)
          try simp only [Act.put, List.setIfInBounds_toArray, List.set_cons_zero, List.set_cons_succ]
          refine wpAnyH_takeL (i := 6) (v := ?vhy6) rfl (by kernel_rfl) (by kernel_rfl) (by kernel_rfl) (fun _ _ _ h => h) (Or.inl ⟨by rfl, ?hy6⟩) (by assumption) ?rhy6
          case hy6 => ((intro w hSw; (try dsimp only at hSw); go_simp); try with_reducible rfl)
          try simp only [Act.put, List.setIfInBounds_toArray, List.set_cons_zero, List.set_cons_succ]
          refine wpAnyH_takeL (i := 7) (v := ?vhy7) rfl (by kernel_rfl) (by kernel_rfl) (by kernel_rfl) (fun _ _ _ h => h) (Or.inl ⟨by rfl, ?hy7⟩) (by assumption) ?rhy7
          case hy7 => ((intro w hSw; (try dsimp only at hSw); go_simp); try with_reducible rfl)
          try simp only [Act.put, List.setIfInBounds_toArray, List.set_cons_zero, List.set_cons_succ]
          refine wpAnyH_takeL (i := 8) (v := ?vhy8) rfl (by kernel_rfl) (by kernel_rfl) (by kernel_rfl) (fun _ _ _ h => h) (Or.inl ⟨by rfl, ?hy8⟩) (by assumption) ?rhy8
          case hy8 => ((intro w hSw; (try dsimp only at hSw); go_simp); try with_reducible rfl)
          try simp only [Act.put, List.setIfInBounds_toArray, List.set_cons_zero, List.set_cons_succ]
          refine wpAnyH_takeL (i := 9) (v := ?vhy9) rfl (by kernel_rfl) (by kernel_rfl) (by kernel_rfl) (fun _ _ _ h => h) (Or.inl ⟨by rfl, ?hy9⟩) (by assumption) ?rhy9
          case hy9 => ((intro w hSw; (try dsimp only at hSw); go_simp); try with_reducible rfl)
          try simp only [Act.put, List.setIfInBounds_toArray, List.set_cons_zero, List.set_cons_succ]
          refine wpAnyH_ready (rs := [4]) (by kernel_rfl) (by simp) ?_
          refine AllReadyH.consL (i := 4) rfl (fun K hK => ?_) AllReadyH.nil
          go_simp
          refine (hA1.out _).mono ?_
          rintro e w' ⟨rfl, rfl⟩
          refine hK.out _ _ trivial (fun hHeld => ?_)
          clear hK
          try simp only [Act.put, List.setIfInBounds_toArray, List.set_cons_zero, List.set_cons_succ]
          refine wpAnyH_ready (rs := [10]) (by kernel_rfl) (by simp) ?_
          refine AllReadyH.consL (i := 10) rfl (fun K hK => ?_) AllReadyH.nil
          go_simp
          refine (hA2.out _).mono ?_
          rintro e w' ⟨rfl, rfl⟩
          refine hK.out _ _ trivial (fun hHeld => ?_)
          clear hK
          try simp only [Act.put, List.setIfInBounds_toArray, List.set_cons_zero, List.set_cons_succ]
          refine wpAnyH_takeL (i := 11) (v := ?vhy10) rfl (by kernel_rfl) (by kernel_rfl) (by kernel_rfl) (fun _ _ _ h => h) (Or.inl ⟨by rfl, ?hy10⟩) (by assumption) ?rhy10
          case hy10 => ((intro w hSw; (try dsimp only at hSw); go_simp); try with_reducible rfl)
          try simp only [Act.put, List.setIfInBounds_toArray, List.set_cons_zero, List.set_cons_succ]
          refine wpAnyH_takeL (i := 12) (v := ?vhy11) rfl (by kernel_rfl) (by kernel_rfl) (by kernel_rfl) (fun _ _ _ h => h) (Or.inl ⟨by rfl, ?hy11⟩) (by assumption) ?rhy11
          case hy11 => ((intro w hSw; (try dsimp only at hSw); go_simp); try with_reducible rfl)
          try simp only [Act.put, List.setIfInBounds_toArray, List.set_cons_zero, List.set_cons_succ]
          refine wpAnyH_done (by kernel_rfl) ?_ _
          refine NoPanic.normal ?_
          clear hHeld hA1 hA2
          go_wp2
          go_ret2
          exact ⟨by rw [hN.out]; rfl, hbw.drew⟩
        | some a =>
          have ha := dig16_lt hx
          rw [hx] at hun hA1
          unfold digI at hA2
          have hda : decide ((a : Int) < 0) = false := by simp
          cases hy : dig16 y with
          | none =>
            rw [hy] at hun hA2
            have hN : rbV l = ([], false) := by unfold rbV; rw [hun]; rfl
            replace hA1 := Lib.hid hA1
            replace hA2 := Lib.hid hA2
            replace hN := Lib.hid hN
            replace hO := Lib.hid hO
            clear hx hy hun hi htail hfr hcl
            go_wp2_with fail
            refine wp_region_noPanic ?_
            refine wp_region_held_drew (S := fun _ => True) (by kernel_rfl) trivial (fun hHeld => ?_)
            refine wpAnyH_takeL (i := 0) (v := ?vhy12) rfl (by kernel_rfl) (by kernel_rfl) (by kernel_rfl) (fun _ _ _ h => h) (Or.inl ⟨by rfl, ?hy12⟩) (by assumption) ?rhy12
            case hy12 => ((intro w hSw; (try dsimp only at hSw); go_simp); try with_reducible rfl)
            try simp only [Act.put, List.setIfInBounds_toArray, List.set_cons_zero, List.set_cons_succ]
            refine wpAnyH_takeL (i := 1) (v := ?vhy13) rfl (by kernel_rfl) (by kernel_rfl) (by kernel_rfl) (fun _ _ _ h => h) (Or.inl ⟨by rfl, ?hy13⟩) (by assumption) ?rhy13
            case hy13 => ((intro w hSw; (try dsimp only at hSw); go_simp); try with_reducible rfl)
            try simp only [Act.put, List.setIfInBounds_toArray, List.set_cons_zero, List.set_cons_succ]
            refine wpAnyH_takeL (i := 2) (v := ?vhy14) rfl (by kernel_rfl) (by kernel_rfl) (by kernel_rfl) (fun _ _ _ h => h) (Or.inl ⟨by rfl, ?hy14⟩) (by assumption) ?rhy14
            case hy14 => ((intro w hSw; (try dsimp only at hSw); go_simp); try with_reducible rfl)
            try simp only [Act.put, List.setIfInBounds_toArray, List.set_cons_zero, List.set_cons_succ]
            refine wpAnyH_takeL (i := 3) (v := ?vhy15) rfl (by kernel_rfl) (by kernel_rfl) (by kernel_rfl) (fun _ _ _ h => h) (Or.inl ⟨by rfl, ?hy15⟩) (by assumption) ?rhy15
            case hy15 => ((intro w hSw; (try dsimp only at hSw); go_simp); try with_reducible rfl)
            try simp only [Act.put, List.setIfInBounds_toArray, List.set_cons_zero, List.set_cons_succ]
            refine wpAnyH_takeL (i := 5) (v := ?vhy16) rfl (by kernel_rfl) (by kernel_rfl) (by kernel_rfl) (fun _ _ _ h => h) (Or.inl ⟨by rfl, ?hy16⟩) (by assumption) ?rhy16
            case hy16 => ((intro w hSw; (try dsimp only at hSw); go_simp); try with_reducible rfl)
            try simp only [Act.put, List.setIfInBounds_toArray, List.set_cons_zero, List.set_cons_succ]
            refine wpAnyH_takeL (i := 6) (v := ?vhy17) rfl (by kernel_rfl) (by kernel_rfl) (by kernel_rfl) (fun _ _ _ h => h) (Or.inl ⟨by rfl, ?hy17⟩) (by assumption) ?rhy17
            case hy17 => ((intro w hSw; (try dsimp only at hSw); go_simp); try with_reducible rfl)
            try simp only [Act.put, List.setIfInBounds_toArray, List.set_cons_zero, List.set_cons_succ]
            refine wpAnyH_takeL (i := 7) (v := ?vhy18) rfl (by kernel_rfl) (by kernel_rfl) (by kernel_rfl) (fun _ _ _ h => h) (Or.inl ⟨by rfl, ?hy18⟩) (by assumption) ?rhy18
            case hy18 => ((intro w hSw; (try dsimp only at hSw); go_simp); try with_reducible rfl)
            try simp only [Act.put, List.setIfInBounds_toArray, List.set_cons_zero, List.set_cons_succ]
            refine wpAnyH_takeL (i := 8) (v := ?vhy19) rfl (by kernel_rfl) (by kernel_rfl) (by kernel_rfl) (fun _ _ _ h => h) (Or.inl ⟨by rfl, ?hy19⟩) (by assumption) ?rhy19
            case hy19 => ((intro w hSw; (try dsimp only at hSw); go_simp); try with_reducible rfl)
            try simp only [Act.put, List.setIfInBounds_toArray, List.set_cons_zero, List.set_cons_succ]
            refine wpAnyH_takeL (i := 9) (v := ?vhy20) rfl (by kernel_rfl) (by kernel_rfl) (by kernel_rfl) (fun _ _ _ h => h) (Or.inl ⟨by rfl, ?hy20⟩) (by assumption) ?rhy20
            case hy20 => ((intro w hSw; (try dsimp only at hSw); go_simp); try with_reducible rfl)
            try simp only [Act.put, List.setIfInBounds_toArray, List.set_cons_zero, List.set_cons_succ]
            refine wpAnyH_ready (rs := [4]) (by kernel_rfl) (by simp) ?_
            refine AllReadyH.consL (i := 4) rfl (fun K hK => ?_) AllReadyH.nil
            go_simp
            refine (hA1.out _).mono ?_
            rintro e w' ⟨rfl, rfl⟩
            refine hK.out _ _ trivial (fun hHeld => ?_)
            clear hK
            try simp only [Act.put, List.setIfInBounds_toArray, List.set_cons_zero, List.set_cons_succ]
            refine wpAnyH_ready (rs := [10]) (by kernel_rfl) (by simp) ?_
            refine AllReadyH.consL (i := 10) rfl (fun K hK => ?_) AllReadyH.nil
            go_simp
            refine (hA2.out _).mono ?_
            rintro e w' ⟨rfl, rfl⟩
            refine hK.out _ _ trivial (fun hHeld => ?_)
            clear hK
            try simp only [Act.put, List.setIfInBounds_toArray, List.set_cons_zero, List.set_cons_succ]
            refine wpAnyH_takeL (i := 11) (v := ?vhy21) rfl (by kernel_rfl) (by kernel_rfl) (by kernel_rfl) (fun _ _ _ h => h) (Or.inl ⟨by rfl, ?hy21⟩) (by assumption) ?rhy21
            case hy21 => ((intro w hSw; (try dsimp only at hSw); go_simp); try with_reducible rfl)
            try simp only [Act.put, List.setIfInBounds_toArray, List.set_cons_zero, List.set_cons_succ]
            refine wpAnyH_takeL (i := 12) (v := ?vhy22) rfl (by kernel_rfl) (by kernel_rfl) (by kernel_rfl) (fun _ _ _ h => h) (Or.inl ⟨by rfl, ?hy22⟩) (by assumption) ?rhy22
            case hy22 => ((intro w hSw; (try dsimp only at hSw); go_simp); try with_reducible rfl)
            try simp only [Act.put, List.setIfInBounds_toArray, List.set_cons_zero, List.set_cons_succ]
            refine wpAnyH_done (by kernel_rfl) ?_ _
            refine NoPanic.normal ?_
            clear hHeld hA1 hA2
            go_wp2
            go_ret2
            exact ⟨by rw [hN.out]; rfl, hbw.drew⟩
          | some b =>
            have hb := dig16_lt hy
            rw [hy] at hun hA2
            dsimp only at hun
            have hdb : decide ((b : Int) < 0) = false := by simp
            have hw1 : IntKind.i64.wrap (16 * (a : Int)) = 16 * (a : Int) := by rw [IntKind.wrap_i64]; omega
            have hw2 : IntKind.i64.wrap (16 * (a : Int) + (b : Int)) = 16 * (a : Int) + (b : Int) := by rw [IntKind.wrap_i64]; omega
            have hvn : 16 * a + b = (UInt8.ofNat (16 * a + b)).toNat := by simp [UInt8.toNat_ofNat']; omega
            have hwr : IntKind.u8.wrap (16 * (a : Int) + (b : Int)) = ((UInt8.ofNat (16 * a + b)).toNat : Int) := by rw [IntKind.wrap_u8, ← hvn]; omega
            clear hvn
            generalize UInt8.ofNat (16 * a + b) = v at *
            have hO2 := (show Arr wr.drew w.heap.size 5 _ from hO).set i (v := .int .u8 (v.toNat : Int)) (b := v) rfl
            rw [htail v] at hO2
            have hb2 := (hbw.drew).setCell (p := ⟨w.heap.size, i, none⟩) (Nat.le_refl _) (.int .u8 (v.toNat : Int))
            replace hA1 := Lib.hid hA1
            replace hA2 := Lib.hid hA2
            replace hun := Lib.hid hun
            replace hO := Lib.hid hO
            replace hO2 := Lib.hid hO2
            clear hx hy htail
            go_wp2_with fail
            refine wp_region_noPanic ?_
            refine wp_region_held_drew (S := fun _ => True) (by kernel_rfl) trivial (fun hHeld => ?_)
            refine wpAnyH_takeL (i := 0) (v := ?vhy23) rfl (by kernel_rfl) (by kernel_rfl) (by kernel_rfl) (fun _ _ _ h => h) (Or.inl ⟨by rfl, ?hy23⟩) (by assumption) ?rhy23
            case hy23 => ((intro w hSw; (try dsimp only at hSw); go_simp); try with_reducible rfl)
            try simp only [Act.put, List.setIfInBounds_toArray, List.set_cons_zero, List.set_cons_succ]
            refine wpAnyH_takeL (i := 1) (v := ?vhy24) rfl (by kernel_rfl) (by kernel_rfl) (by kernel_rfl) (fun _ _ _ h => h) (Or.inl ⟨by rfl, ?hy24⟩) (by assumption) ?rhy24
            case hy24 => ((intro w hSw; (try dsimp only at hSw); go_simp); try with_reducible rfl)
            try simp only [Act.put, List.setIfInBounds_toArray, List.set_cons_zero, List.set_cons_succ]
            refine wpAnyH_takeL (i := 2) (v := ?vhy25) rfl (by kernel_rfl) (by kernel_rfl) (by kernel_rfl) (fun _ _ _ h => h) (Or.inl ⟨by rfl, ?hy25⟩) (by assumption) ?rhy25
            case hy25 => ((intro w hSw; (try dsimp only at hSw); go_simp); try with_reducible rfl)
            try simp only [Act.put, List.setIfInBounds_toArray, List.set_cons_zero, List.set_cons_succ]
            refine wpAnyH_takeL (i := 3) (v := ?vhy26) rfl (by kernel_rfl) (by kernel_rfl) (by kernel_rfl) (fun _ _ _ h => h) (Or.inl ⟨by rfl, ?hy26⟩) (by assumption) ?rhy26
            case hy26 => ((intro w hSw; (try dsimp only at hSw); go_simp); try with_reducible rfl)
            try simp only [Act.put, List.setIfInBounds_toArray, List.set_cons_zero, List.set_cons_succ]
            refine wpAnyH_takeL (i := 5) (v := ?vhy27) rfl (by kernel_rfl) (by kernel_rfl) (by kernel_rfl) (fun _ _ _ h => h) (Or.inl ⟨by rfl, ?hy27⟩) (by assumption) ?rhy27
            case hy27 => ((intro w hSw; (try dsimp only at hSw); go_simp); try with_reducible rfl)
            try simp only [Act.put, List.setIfInBounds_toArray, List.set_cons_zero, List.set_cons_succ]
            refine wpAnyH_takeL (i := 6) (v := ?vhy28) rfl (by kernel_rfl) (by kernel_rfl) (by kernel_rfl) (fun _ _ _ h => h) (Or.inl ⟨by rfl, ?hy28⟩) (by assumption) ?rhy28
            case hy28 => ((intro w hSw; (try dsimp only at hSw); go_simp); try with_reducible rfl)
            try simp only [Act.put, List.setIfInBounds_toArray, List.set_cons_zero, List.set_cons_succ]
            refine wpAnyH_takeL (i := 7) (v := ?vhy29) rfl (by kernel_rfl) (by kernel_rfl) (by kernel_rfl) (fun _ _ _ h => h) (Or.inl ⟨by rfl, ?hy29⟩) (by assumption) ?rhy29
            case hy29 => ((intro w hSw; (try dsimp only at hSw); go_simp); try with_reducible rfl)
            try simp only [Act.put, List.setIfInBounds_toArray, List.set_cons_zero, List.set_cons_succ]
            refine wpAnyH_takeL (i := 8) (v := ?vhy30) rfl (by kernel_rfl) (by kernel_rfl) (by kernel_rfl) (fun _ _ _ h => h) (Or.inl ⟨by rfl, ?hy30⟩) (by assumption) ?rhy30
            case hy30 => ((intro w hSw; (try dsimp only at hSw); go_simp); try with_reducible rfl)
            try simp only [Act.put, List.setIfInBounds_toArray, List.set_cons_zero, List.set_cons_succ]
            refine wpAnyH_takeL (i := 9) (v := ?vhy31) rfl (by kernel_rfl) (by kernel_rfl) (by kernel_rfl) (fun _ _ _ h => h) (Or.inl ⟨by rfl, ?hy31⟩) (by assumption) ?rhy31
            case hy31 => ((intro w hSw; (try dsimp only at hSw); go_simp); try with_reducible rfl)
            try simp only [Act.put, List.setIfInBounds_toArray, List.set_cons_zero, List.set_cons_succ]
            refine wpAnyH_ready (rs := [4]) (by kernel_rfl) (by simp) ?_
            refine AllReadyH.consL (i := 4) rfl (fun K hK => ?_) AllReadyH.nil
            go_simp
            refine (hA1.out _).mono ?_
            rintro e w' ⟨rfl, rfl⟩
            refine hK.out _ _ trivial (fun hHeld => ?_)
            clear hK
            try simp only [Act.put, List.setIfInBounds_toArray, List.set_cons_zero, List.set_cons_succ]
            refine wpAnyH_ready (rs := [10]) (by kernel_rfl) (by simp) ?_
            refine AllReadyH.consL (i := 10) rfl (fun K hK => ?_) AllReadyH.nil
            go_simp
            refine (hA2.out _).mono ?_
            rintro e w' ⟨rfl, rfl⟩
            refine hK.out _ _ trivial (fun hHeld => ?_)
            clear hK
            try simp only [Act.put, List.setIfInBounds_toArray, List.set_cons_zero, List.set_cons_succ]
            refine wpAnyH_takeL (i := 11) (v := ?vhy32) rfl (by kernel_rfl) (by kernel_rfl) (by kernel_rfl) (fun _ _ _ h => h) (Or.inl ⟨by rfl, ?hy32⟩) (by assumption) ?rhy32
            case hy32 => ((intro w hSw; (try dsimp only at hSw); go_simp); try with_reducible rfl)
            try simp only [Act.put, List.setIfInBounds_toArray, List.set_cons_zero, List.set_cons_succ]
            refine wpAnyH_takeL (i := 12) (v := ?vhy33) rfl (by kernel_rfl) (by kernel_rfl) (by kernel_rfl) (fun _ _ _ h => h) (Or.inl ⟨by rfl, ?hy33⟩) (by assumption) ?rhy33
            case hy33 => ((intro w hSw; (try dsimp only at hSw); go_simp); try with_reducible rfl)
            try simp only [Act.put, List.setIfInBounds_toArray, List.set_cons_zero, List.set_cons_succ]
            refine wpAnyH_done (by kernel_rfl) ?_ _
            refine NoPanic.normal ?_
            clear hHeld hA1 hA2
            go_wp2
            refine ⟨⟨out ++ [v], by simp [hi], by simp [hi]; omega, ?_, hO2.out, hb2⟩, by simp [intOf]; omega⟩
            rw [hun.out]
            have e3 : 2 * (out ++ [v]).length = 2 * i + 1 + 1 := by simp [hi]; omega
            rw [e3]
            cases unhex (l.drop (2 * i + 1 + 1)) with
            | none => rfl
            | some t => simp
      · obtain e : out.length = n := by omega
        have hN0 : unhex l = some out := by
          rw [hun, List.drop_eq_nil_of_le (by omega)]
          simp [unhex]
        have hN : rbV l = (out, true) := by unfold rbV; rw [hN0]
        rw [e, Nat.sub_self, List.replicate_zero, List.append_nil] at hO
        have hlt2 : decide ((out.length : Int) < (n : Int)) = false := by simp; omega
        have hrd := hO.rd out.length (Nat.le_refl _) (by unfold maxLen; omega)
        have hcv := run_conv_b (P := Tryz.prog) wr 61 9 5 Tryz.underlying61 Tryz.underlying5 Tryz.underlying9 hrd
        rw [e] at hcv
        replace hN := Lib.hid hN
        clear hun hN0 hO hrd hj hlt
        go_wp2
        go_ret2
        exact ⟨by rw [hN.out]; rfl, hbw⟩
end Go.Proofs.YtcicmeggbkhniaaGreatDoor
