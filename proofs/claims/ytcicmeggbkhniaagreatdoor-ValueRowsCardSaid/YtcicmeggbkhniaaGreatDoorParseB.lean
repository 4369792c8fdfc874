/- value.bytes: bytes of two digits each. -/
import Derived.Test.YtcicmeggbkhniaaGreatDoorParseA
namespace Go.Proofs.YtcicmeggbkhniaaGreatDoor
open Go.RowKit
set_option linter.unusedVariables false

theorem info_p8 : (Tryz.prog.info? 5).map (fun i => (i.zero, i.size, i.bytes)) = some (some (.int .u8 0), 1, 1) := by kernel_rfl
/-- What bytes tells. -/
def bytesV (l : List UInt8) : List UInt8 × Nat := match unhex l with
  | some b => if 200 < b.length then ([], 3) else (b, 0)
  | none => ([], 110)
theorem unhex_odd : ∀ l : List UInt8, l.length % 2 = 1 → unhex l = none
  | [], h => by simp at h
  | [_], h => rfl
  | a :: b :: r, h => by
    rw [unhex, unhex_odd r (by simp at h; omega)]
    cases dig16 a <;> cases dig16 b <;> rfl
theorem join16 (a b : Nat) (ha : a < 16) (hb : b < 16) : bits .or .i64 ((a : Int) * 16) (b : Int) = ((16 * a + b : Nat) : Int) := by
  have hall : ∀ p : Fin 16, ∀ q : Fin 16, bits .or .i64 ((p.val : Int) * 16) (q.val : Int) = ((16 * p.val + q.val : Nat) : Int) := by decide +kernel
  exact hall ⟨a, ha⟩ ⟨b, hb⟩
theorem dig16_lt {c : UInt8} {x : Nat} (h : dig16 c = some x) : x < 16 := (hexDig_dig16 c x h).2

attribute [local go_sem] strL_size
set_option maxRecDepth 100000 in
set_option maxHeartbeats 2000000 in
theorem bytes_any (l : List UInt8) (w : World) (hl : l.length ≤ 100000) :
    Calls Tryz.prog 61 #[.string (strL l)] w fun e w' => e = .returned (.tuple #[.string (strL (bytesV l).1), errF l (bytesV l).2]) ∧ Below w.heap.size w w' := by
  have hb0 : Below w.heap.size w (w.alloc (.cells #[.string (strL l)] 9)) := (Below.refl _ w).alloc (Nat.le_refl _) _
  have hB0 := Boxed.new w 9 (.string (strL l))
  have hsz : (strL l).size = l.length := strL_size l
  by_cases hodd : l.length % 2 = 1
  · have hN : bytesV l = ([], 110) := by unfold bytesV; rw [unhex_odd l hodd]
    replace hN := Lib.hid hN
    have hd : (((l.length : Int) % 2) == 1) = true := by simp; omega
    go_enter Tryz.func61, Tryz.ntmps61
    go_wp2_with fail
    have c0 := hB0.cell
    generalize (w.alloc (.cells #[.string (strL l)] 9)) = w1 at *
    refine wp_region_noPanic ?_
    refine wp_region_held_drew (S := fun w' => w'.cell? ⟨w.heap.size, 0, none⟩ = some (.string (strL l))) (by kernel_rfl) c0 (fun hHeld => ?_)
    refine wpAnyH_takeL (i := 0) (v := ?vhy1) rfl (by kernel_rfl) (by kernel_rfl) (by kernel_rfl) (fun _ _ _ h => h) (Or.inl ⟨by rfl, ?hy1⟩) (by assumption) ?rhy1
    case hy1 => ((intro w hSw; (try dsimp only at hSw); go_simp); try with_reducible rfl)
    try simp only [Act.put, List.setIfInBounds_toArray, List.set_cons_zero, List.set_cons_succ]
    refine wpAnyH_takeL (i := 1) (v := ?vhy2) rfl (by kernel_rfl) (by kernel_rfl) (by kernel_rfl) (fun _ _ _ h => h) (Or.inl ⟨by rfl, ?hy2⟩) (by assumption) ?rhy2
    case hy2 => ((intro w hSw; (try dsimp only at hSw); go_simp); try with_reducible rfl)
    try simp only [Act.put, List.setIfInBounds_toArray, List.set_cons_zero, List.set_cons_succ]
    refine wpAnyH_takeL (i := 2) (v := ?vhy3) rfl (by kernel_rfl) (by kernel_rfl) (by kernel_rfl) (fun _ _ _ h => h) (Or.inl ⟨by rfl, ?hy3⟩) (by assumption) ?rhy3
    case hy3 => ((intro w hSw; (try dsimp only at hSw); go_simp); try with_reducible rfl)
    try simp only [Act.put, List.setIfInBounds_toArray, List.set_cons_zero, List.set_cons_succ]
    refine wpAnyH_takeL (i := 3) (v := ?vhy4) rfl (by kernel_rfl) (by kernel_rfl) (by kernel_rfl) (fun _ _ _ h => h) (Or.inl ⟨by rfl, ?hy4⟩) (by assumption) ?rhy4
    case hy4 => ((intro w hSw; (try dsimp only at hSw); go_simp); try with_reducible rfl)
    try simp only [Act.put, List.setIfInBounds_toArray, List.set_cons_zero, List.set_cons_succ]
    refine wpAnyH_takeL (i := 4) (v := ?vhy5) rfl (by kernel_rfl) (by kernel_rfl) (by kernel_rfl) (fun _ _ _ h => h) (Or.inl ⟨by rfl, ?hy5⟩) (by assumption) ?rhy5
    case hy5 => ((intro w hSw; (try dsimp only at hSw); go_simp); try with_reducible rfl)
    try simp only [Act.put, List.setIfInBounds_toArray, List.set_cons_zero, List.set_cons_succ]
    refine wpAnyH_done (by kernel_rfl) ?_ _
    refine NoPanic.normal ?_
    clear hHeld
    go_wp2
    go_ret2
    exact ⟨by rw [hN.out]; rfl, hb0.drew⟩
  · have hd : (((l.length : Int) % 2) == 1) = false := by simp; omega
    have hlt0 := hB0.lt
    go_enter Tryz.func61, Tryz.ntmps61
    go_wp2
    generalize (w.alloc (.cells #[.string (strL l)] 9)) = w1 at *
    clear hd
    go_loopw [4, 6] (fun o p wr => ∃ (A : Option Addr) (c : Nat) (out : List UInt8), o = .slice A out.length c ∧ p = .int .i64 ((2 * out.length : Nat) : Int) ∧ 2 * out.length ≤ l.length ∧ unhex l = (unhex (l.drop (2 * out.length))).map (out ++ ·) ∧ Ob wr w1.heap.size 5 A out.length c out ∧ Below w1.heap.size w1 wr)
      (fun _ p wr => l.length - (intOf p).toNat)
    case atStart => exact ⟨none, 0, [], rfl, rfl, by simp, by simp, Ov.nil _ _ _ _, Below.refl _ _⟩
    case round =>
      obtain ⟨A, c, out, rfl, rfl, hj, hun, hO, hbw⟩ := hrel
      have hBw := box_below hB0 hbw hlt0
      have cw := hBw.cell
      have hbb := hb0.trans (hbw.mono (Nat.le_of_lt hlt0))
      by_cases hlt : 2 * out.length < l.length
      · have h1 : 2 * out.length + 1 < l.length := by omega
        have hlt' : decide (((2 * out.length : Nat) : Int) < (l.length : Int)) = true := by simp; omega
        rw [List.drop_eq_getElem_cons (show 2 * out.length < l.length by omega), List.drop_eq_getElem_cons (show 2 * out.length + 1 < l.length by omega), unhex] at hun
        have hA1 := fun W h => at_any w.heap.size l (2 * out.length) (by omega) hl W h
        have hA2 := fun W h => at_any w.heap.size l (2 * out.length + 1) (by omega) hl W h
        have e2 : ((2 * out.length + 1 : Nat) : Int) = ((2 * out.length : Nat) : Int) + 1 := by omega
        rw [e2] at hA2
        clear e2
        unfold digI at hA1
        generalize hi : 2 * out.length = i at *
        generalize l[i] = x at *
        generalize l[i + 1] = y at *
        cases hx : dig16 x with
        | none =>
          rw [hx] at hun hA1
          have hN : bytesV l = ([], 110) := by unfold bytesV; rw [hun]; rfl
          generalize digI y = z at hA2
          replace hA1 := Lib.hid hA1
          replace hA2 := Lib.hid hA2
          replace hN := Lib.hid hN
          clear hx hun hi hsz
          go_wp2_with fail
          refine (hA1.out _ cw).mono ?_
          rintro e w' ⟨rfl, rfl⟩
          go_wp2_with fail
          refine (hA2.out _ cw).mono ?_
          rintro e w' ⟨rfl, rfl⟩
          clear hA1 hA2
          go_wp2_with fail
          refine wp_region_noPanic ?_
          refine wp_region_held_drew (S := fun w' => w'.cell? ⟨w.heap.size, 0, none⟩ = some (.string (strL l))) (by kernel_rfl) cw (fun hHeld => ?_)
          refine wpAnyH_takeL (i := 0) (v := ?vhy6) rfl (by kernel_rfl) (by kernel_rfl) (by kernel_rfl) (fun _ _ _ h => h) (Or.inl ⟨by rfl, ?hy6⟩) (by assumption) ?rhy6
          case hy6 => ((intro w hSw; (try dsimp only at hSw); go_simp); try with_reducible rfl)
          try simp only [Act.put, List.setIfInBounds_toArray, List.set_cons_zero, List.set_cons_succ]
          refine wpAnyH_takeL (i := 1) (v := ?vhy7) rfl (by kernel_rfl) (by kernel_rfl) (by kernel_rfl) (fun _ _ _ h => h) (Or.inl ⟨by rfl, ?hy7⟩) (by assumption) ?rhy7
          case hy7 => ((intro w hSw; (try dsimp only at hSw); go_simp); try with_reducible rfl)
          try simp only [Act.put, List.setIfInBounds_toArray, List.set_cons_zero, List.set_cons_succ]
          refine wpAnyH_takeL (i := 2) (v := ?vhy8) rfl (by kernel_rfl) (by kernel_rfl) (by kernel_rfl) (fun _ _ _ h => h) (Or.inl ⟨by rfl, ?hy8⟩) (by assumption) ?rhy8
          case hy8 => ((intro w hSw; (try dsimp only at hSw); go_simp); try with_reducible rfl)
          try simp only [Act.put, List.setIfInBounds_toArray, List.set_cons_zero, List.set_cons_succ]
          refine wpAnyH_takeL (i := 3) (v := ?vhy9) rfl (by kernel_rfl) (by kernel_rfl) (by kernel_rfl) (fun _ _ _ h => h) (Or.inl ⟨by rfl, ?hy9⟩) (by assumption) ?rhy9
          case hy9 => ((intro w hSw; (try dsimp only at hSw); go_simp); try with_reducible rfl)
          try simp only [Act.put, List.setIfInBounds_toArray, List.set_cons_zero, List.set_cons_succ]
          refine wpAnyH_takeL (i := 4) (v := ?vhy10) rfl (by kernel_rfl) (by kernel_rfl) (by kernel_rfl) (fun _ _ _ h => h) (Or.inl ⟨by rfl, ?hy10⟩) (by assumption) ?rhy10
          case hy10 => ((intro w hSw; (try dsimp only at hSw); go_simp); try with_reducible rfl)
          try simp only [Act.put, List.setIfInBounds_toArray, List.set_cons_zero, List.set_cons_succ]
          refine wpAnyH_done (by kernel_rfl) ?_ _
          refine NoPanic.normal ?_
          clear hHeld
          go_wp2
          go_ret2
          exact ⟨by rw [hN.out]; rfl, hbb.drew⟩
        | some a =>
          have ha := dig16_lt hx
          rw [hx] at hun hA1
          unfold digI at hA2
          cases hy : dig16 y with
          | none =>
            rw [hy] at hun hA2
            have hN : bytesV l = ([], 110) := by unfold bytesV; rw [hun]; rfl
            have hda : decide ((a : Int) < 0) = false := by simp
            replace hA1 := Lib.hid hA1
            replace hA2 := Lib.hid hA2
            replace hN := Lib.hid hN
            clear hx hy hun hi hsz
            go_wp2_with fail
            refine (hA1.out _ cw).mono ?_
            rintro e w' ⟨rfl, rfl⟩
            go_wp2_with fail
            refine (hA2.out _ cw).mono ?_
            rintro e w' ⟨rfl, rfl⟩
            clear hA1 hA2
            go_wp2_with fail
            refine wp_region_noPanic ?_
            refine wp_region_held_drew (S := fun w' => w'.cell? ⟨w.heap.size, 0, none⟩ = some (.string (strL l))) (by kernel_rfl) cw (fun hHeld => ?_)
            refine wpAnyH_takeL (i := 0) (v := ?vhy11) rfl (by kernel_rfl) (by kernel_rfl) (by kernel_rfl) (fun _ _ _ h => h) (Or.inl ⟨by rfl, ?hy11⟩) (by assumption) ?rhy11
            case hy11 => ((intro w hSw; (try dsimp only at hSw); go_simp); try with_reducible rfl)
            try simp only [Act.put, List.setIfInBounds_toArray, List.set_cons_zero, List.set_cons_succ]
            refine wpAnyH_takeL (i := 1) (v := ?vhy12) rfl (by kernel_rfl) (by kernel_rfl) (by kernel_rfl) (fun _ _ _ h => h) (Or.inl ⟨by rfl, ?hy12⟩) (by assumption) ?rhy12
            case hy12 => ((intro w hSw; (try dsimp only at hSw); go_simp); try with_reducible rfl)
            try simp only [Act.put, List.setIfInBounds_toArray, List.set_cons_zero, List.set_cons_succ]
            refine wpAnyH_takeL (i := 2) (v := ?vhy13) rfl (by kernel_rfl) (by kernel_rfl) (by kernel_rfl) (fun _ _ _ h => h) (Or.inl ⟨by rfl, ?hy13⟩) (by assumption) ?rhy13
            case hy13 => ((intro w hSw; (try dsimp only at hSw); go_simp); try with_reducible rfl)
            try simp only [Act.put, List.setIfInBounds_toArray, List.set_cons_zero, List.set_cons_succ]
            refine wpAnyH_takeL (i := 3) (v := ?vhy14) rfl (by kernel_rfl) (by kernel_rfl) (by kernel_rfl) (fun _ _ _ h => h) (Or.inl ⟨by rfl, ?hy14⟩) (by assumption) ?rhy14
            case hy14 => ((intro w hSw; (try dsimp only at hSw); go_simp); try with_reducible rfl)
            try simp only [Act.put, List.setIfInBounds_toArray, List.set_cons_zero, List.set_cons_succ]
            refine wpAnyH_takeL (i := 4) (v := ?vhy15) rfl (by kernel_rfl) (by kernel_rfl) (by kernel_rfl) (fun _ _ _ h => h) (Or.inl ⟨by rfl, ?hy15⟩) (by assumption) ?rhy15
            case hy15 => ((intro w hSw; (try dsimp only at hSw); go_simp); try with_reducible rfl)
            try simp only [Act.put, List.setIfInBounds_toArray, List.set_cons_zero, List.set_cons_succ]
            refine wpAnyH_done (by kernel_rfl) ?_ _
            refine NoPanic.normal ?_
            clear hHeld
            go_wp2
            go_ret2
            exact ⟨by rw [hN.out]; rfl, hbb.drew⟩
          | some b =>
            have hb := dig16_lt hy
            rw [hy] at hun hA2
            dsimp only at hun
            have hda : decide ((a : Int) < 0) = false := by simp
            have hdb : decide ((b : Int) < 0) = false := by simp
            have hjn := join16 a b ha hb
            have ha0 : (0 : Int) ≤ (a : Int) := by omega
            have ha1 : (a : Int) ≤ 15 := by omega
            have hwr : IntKind.u8.wrap ((16 * a + b : Nat) : Int) = ((16 * a + b : Nat) : Int) := by rw [IntKind.wrap_u8]; omega
            have hvn : 16 * a + b = (UInt8.ofNat (16 * a + b)).toNat := by simp [UInt8.toNat_ofNat']; omega
            rw [hvn] at hjn hwr
            clear hvn
            generalize UInt8.ofNat (16 * a + b) = v at *
            have hv256 := v.toNat_lt
            have hr : Rd (wr.alloc (.cells #[.int .u8 (v.toNat : Int)] 5)) (some ⟨wr.heap.size, 0, none⟩) 1 1 [v] := (Ob.lit wr 0 5 [v] (Nat.zero_le _) (by unfold maxLen; simp)).rd
            have hba : Below wr.heap.size wr (wr.alloc (.cells #[.int .u8 (v.toNat : Int)] 5)) := (Below.refl _ wr).alloc (Nat.le_refl _) _
            have hO2 := Ob.below hO hba
            have hbs := hbw.size
            have hol : out.length ≤ 60000 := by omega
            replace hA1 := Lib.hid hA1
            replace hA2 := Lib.hid hA2
            replace hun := Lib.hid hun
            replace hi := Lib.hid hi
            clear hx hy
            go_wp2_with fail
            refine (hA1.out _ cw).mono ?_
            rintro e w' ⟨rfl, rfl⟩
            go_wp2_with fail
            refine (hA2.out _ cw).mono ?_
            rintro e w' ⟨rfl, rfl⟩
            clear hA1 hA2
            go_wp2_with (at_builtin; refine wpList_append_b _ rfl _ _ 61 rfl 5 Tryz.underlying61 info_p8 w1.heap.size A out.length c out rfl hO2 (some ⟨wr.heap.size, 0, none⟩) 1 1 [v] rfl hr (by omega) (by simp; omega) ?_; intro A' c' w2 hown hgrow _)
            have hbw2 : Below w1.heap.size w1 w2 := (hbw.trans (hba.mono hbs)).grown hgrow (by have := hba.size; omega) (fun k e => (hO.ab k e).1)
            have hi2 := hi.out
            refine ⟨⟨A', c', out ++ [v], by simp, by rw [← hi2]; simp; omega, by simp; omega, ?_, by simpa using hown, hbw2⟩, by simp [intOf]; omega⟩
            rw [hun.out]
            have e3 : 2 * (out ++ [v]).length = i + 1 + 1 := by simp; omega
            rw [e3]
            cases unhex (l.drop (i + 1 + 1)) with
            | none => rfl
            | some t => simp
      · have hle : 2 * out.length = l.length := by omega
        have hN0 : unhex l = some out := by
          rw [hun, List.drop_eq_nil_of_le (by omega)]
          simp [unhex]
        have hlt' : decide (((2 * out.length : Nat) : Int) < (l.length : Int)) = false := by simp; omega
        by_cases h200 : 200 < out.length
        · have hN : bytesV l = ([], 3) := by unfold bytesV; rw [hN0]; simp [h200]
          have hd2 : decide ((200 : Int) < (out.length : Int)) = true := by simp; omega
          replace hN := Lib.hid hN
          clear hun hN0 hle hj
          go_wp2_with fail
          refine wp_region_noPanic ?_
          refine wp_region_held_drew (S := fun w' => w'.cell? ⟨w.heap.size, 0, none⟩ = some (.string (strL l))) (by kernel_rfl) cw (fun hHeld => ?_)
          refine wpAnyH_takeL (i := 0) (v := ?vhy16) rfl (by kernel_rfl) (by kernel_rfl) (by kernel_rfl) (fun _ _ _ h => h) (Or.inl ⟨by rfl, ?hy16⟩) (by assumption) ?rhy16
          case hy16 => ((intro w hSw; (try dsimp only at hSw); go_simp); try with_reducible rfl)
          try simp only [Act.put, List.setIfInBounds_toArray, List.set_cons_zero, List.set_cons_succ]
          refine wpAnyH_takeL (i := 1) (v := ?vhy17) rfl (by kernel_rfl) (by kernel_rfl) (by kernel_rfl) (fun _ _ _ h => h) (Or.inl ⟨by rfl, ?hy17⟩) (by assumption) ?rhy17
          case hy17 => ((intro w hSw; (try dsimp only at hSw); go_simp); try with_reducible rfl)
          try simp only [Act.put, List.setIfInBounds_toArray, List.set_cons_zero, List.set_cons_succ]
          refine wpAnyH_takeL (i := 2) (v := ?vhy18) rfl (by kernel_rfl) (by kernel_rfl) (by kernel_rfl) (fun _ _ _ h => h) (Or.inl ⟨by rfl, ?hy18⟩) (by assumption) ?rhy18
          case hy18 => ((intro w hSw; (try dsimp only at hSw); go_simp); try with_reducible rfl)
          try simp only [Act.put, List.setIfInBounds_toArray, List.set_cons_zero, List.set_cons_succ]
          refine wpAnyH_takeL (i := 3) (v := ?vhy19) rfl (by kernel_rfl) (by kernel_rfl) (by kernel_rfl) (fun _ _ _ h => h) (Or.inl ⟨by rfl, ?hy19⟩) (by assumption) ?rhy19
          case hy19 => ((intro w hSw; (try dsimp only at hSw); go_simp); try with_reducible rfl)
          try simp only [Act.put, List.setIfInBounds_toArray, List.set_cons_zero, List.set_cons_succ]
          refine wpAnyH_takeL (i := 4) (v := ?vhy20) rfl (by kernel_rfl) (by kernel_rfl) (by kernel_rfl) (fun _ _ _ h => h) (Or.inl ⟨by rfl, ?hy20⟩) (by assumption) ?rhy20
          case hy20 => ((intro w hSw; (try dsimp only at hSw); go_simp); try with_reducible rfl)
          try simp only [Act.put, List.setIfInBounds_toArray, List.set_cons_zero, List.set_cons_succ]
          refine wpAnyH_done (by kernel_rfl) ?_ _
          refine NoPanic.normal ?_
          clear hHeld
          go_wp2
          go_ret2
          exact ⟨by rw [hN.out]; rfl, hbb.drew⟩
        · have hN : bytesV l = (out, 0) := by unfold bytesV; rw [hN0]; simp [h200]
          have hd2 : decide ((200 : Int) < (out.length : Int)) = false := by simp; omega
          have hrd := Ob.rd hO
          have hcv := fun W (h : Rd W A out.length c out) => run_conv_b (P := Tryz.prog) W 61 9 5 Tryz.underlying61 Tryz.underlying5 Tryz.underlying9 h
          have hcv0 := hcv wr hrd
          replace hN := Lib.hid hN
          clear hun hN0 hle hj hcv
          go_wp2
          go_ret2
          exact ⟨by rw [hN.out]; rfl, hbb⟩
end Go.Proofs.YtcicmeggbkhniaaGreatDoor
