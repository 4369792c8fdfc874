/- Locks: pieces of a row, Delete. -/
import Derived.Test.YtnjhhibjcfjhnaaDoorLkH
import Derived.Deep.RegionLaw
namespace Go.Proofs.YtnjhhibjcfjhnaaDoor
open Go.RowKit
set_option linter.unusedVariables false

section
variable {P : Program} (t e : TypeId) (k : Nat) (ht : P.underlying t = some (.slice e)) (i : TypeInfo) (hi : P.info? e = some i) (hc : P.cellsOf e = k)
include ht hi hc
theorem run_slice_loK (A : Option Addr) (n c lo : Nat) (h : lo ≤ n) (hn : n ≤ c) (w : World) :
    (Instr.slice t (.slice A n c) (some (.int .i64 (lo : Int))) none none).run P w = .ok (.slice (cutK A c lo k) (n - lo) (c - lo)) w := by
  unfold Instr.slice Instr.sliceBounds Instr.sliceBound
  simp [Sem.run_bind, run_underlying ht, asIntOf, run_sizeOf w hi, hc, h, cutK]
theorem run_slice_lohiK (A : Option Addr) (n c lo hh : Nat) (h : lo ≤ hh) (hn : hh ≤ c) (w : World) :
    (Instr.slice t (.slice A n c) (some (.int .i64 (lo : Int))) (some (.int .i64 (hh : Int))) none).run P w = .ok (.slice (cutK A c lo k) (hh - lo) (c - lo)) w := by
  unfold Instr.slice Instr.sliceBounds Instr.sliceBound
  simp [Sem.run_bind, run_underlying ht, asIntOf, run_sizeOf w hi, hc, h, hn, cutK]
theorem run_slice_3K (A : Option Addr) (n c lo hh mx : Nat) (h : lo ≤ hh) (h2 : hh ≤ mx) (hn : mx ≤ c) (w : World) :
    (Instr.slice t (.slice A n c) (some (.int .i64 (lo : Int))) (some (.int .i64 (hh : Int))) (some (.int .i64 (mx : Int)))).run P w = .ok (.slice (cutK A mx lo k) (hh - lo) (mx - lo)) w := by
  unfold Instr.slice Instr.sliceBounds Instr.sliceBound
  simp [Sem.run_bind, run_underlying ht, asIntOf, run_sizeOf w hi, hc, h, h2, hn, cutK]
end
/-- A run of stores into a list. -/
def setL : List Value → Nat → List Value → List Value
  | xs, _, [] => xs
  | xs, o, v :: r => setL (xs.set o v) (o + 1) r
theorem setL_eq : ∀ (vs xs : List Value) (o : Nat), o + vs.length ≤ xs.length → setL xs o vs = xs.take o ++ vs ++ xs.drop (o + vs.length)
  | [], xs, o, _ => by simp [setL]
  | v :: r, xs, o, h => by
    simp only [List.length_cons] at h
    rw [setL, setL_eq r (xs.set o v) (o + 1) (by rw [List.length_set]; omega)]
    rw [List.take_succ_eq_append_getElem (by rw [List.length_set]; omega), List.getElem_set_self, List.take_set_of_le (Nat.le_refl _), List.drop_set_of_lt (by omega)]
    simp [Nat.add_assoc, Nat.add_comm 1]
theorem setL_ge : ∀ (vs xs : List Value) (o : Nat), xs.length ≤ o → setL xs o vs = xs
  | [], xs, o, _ => rfl
  | v :: r, xs, o, h => by
    rw [setL, List.set_eq_of_length_le h, setL_ge r xs (o + 1) (by omega)]
theorem Ov.setCells {base g : Nat} {e : TypeId} {size n c : Nat} : ∀ (vs : List Value) (o : Nat) {w : World} {xs : List Value}, Ov w base e size (some ⟨g, 0, none⟩) n c xs →
    Ov (w.setCells g o vs) base e size (some ⟨g, 0, none⟩) n c (setL xs o vs) ∧ w.grownBy (w.setCells g o vs) (some g)
  | [], o, w, xs, h => ⟨h, World.grownBy.refl w _⟩
  | v :: r, o, w, xs, h => by
    obtain ⟨h1, h2⟩ := World.ownsRow.stored h o v
    obtain ⟨h3, h4⟩ := Ov.setCells r (o + 1) h1
    exact ⟨h3, grown_tr h2 h4⟩
theorem Ov.takeN {w : World} {base : Nat} {e : TypeId} {size n c : Nat} {A : Option Addr} {xs : List Value} (h : Ov w base e size A n c xs) (i : Nat) (hi : i ≤ n) (hA : A ≠ none) : Ov w base e size A i c (xs.take (i * size)) := by
  have hm : i * size ≤ n * size := Nat.mul_le_mul_right size hi
  obtain ⟨h1, h2⟩ := h
  rcases h2 with ⟨hv, _⟩ | ⟨g, cap, cur, hv, hb, hg, hnc, hcm, hsz, htake⟩
  · injection hv with h5
    exact absurd h5 hA
  · injection hv with h5 h6 h7
    subst h5 h7
    exact ⟨by rw [List.length_take]; omega, .inr ⟨g, c, cur, rfl, hb, hg, by omega, hcm, hsz, by rw [← htake, List.take_take, Nat.min_eq_left hm]⟩⟩
theorem zero_len (m : Nat) : (Builtin.zeroCells zeroA.cells m).toList.length = m * 6 := by simp [Builtin.zeroCells, zeroA, Value.cells]
theorem zero_one (m : Nat) : ∀ u ∈ (Builtin.zeroCells zeroA.cells m).toList, u.oneCell' = true := by
  intro u hu
  simp only [Builtin.zeroCells, zeroA, Value.cells, Array.toList_map, List.mem_map] at hu
  obtain ⟨j, _, rfl⟩ := hu
  have hj : j % 6 < 6 := Nat.mod_lt _ (by decide)
  show (#[Value.slice none 0 0, .int .i64 0, .int .i64 0, .int .i64 0, .bool false, .bool false] : Array Value)[j % 6]!.oneCell' = true
  generalize j % 6 = q at hj
  rcases (show q = 0 ∨ q = 1 ∨ q = 2 ∨ q = 3 ∨ q = 4 ∨ q = 5 by omega) with rfl | rfl | rfl | rfl | rfl | rfl <;> rfl
/-- clear of a piece of an owned row. -/
theorem run_clear_A {w : World} {base g n c o m d : Nat} {xs : List Value} (h : Ov w base 74 6 (some ⟨g, 0, none⟩) n c xs) (ho : o + m * 6 ≤ n * 6) (hm : 0 < m) (ty : TypeId) :
    (Builtin.clear_ #[67] ty #[.slice (some ⟨g, o, none⟩) m d]).run Tryd.prog w = .ok (.tuple #[]) (w.setCells g o (Builtin.zeroCells zeroA.cells m).toList) := by
  have hv : ∀ w, (zeroValue 74).run Tryd.prog w = .ok zeroA w := Tryd.zeroValue74
  have hl := zero_len m
  have hxl := h.1
  have hst := run_storeCells_cells (P := Tryd.prog) g o (Builtin.zeroCells zeroA.cells m).toList 0 w (fun j hj => by
      rw [World.ownsRow.cellAt h _ (by omega), List.getElem?_eq_getElem (by omega)]; rfl)
    (fun j hj => World.ownsRow.frozenAt h _) (zero_one m)
  simp only [Nat.add_zero] at hst
  obtain ⟨q, rfl⟩ : ∃ q, m = q + 1 := ⟨m - 1, by omega⟩
  simp [Builtin.clear_, run_underlying Tryd.underlying67, hv, hst]
theorem acells_take (xs : List Ak) (i : Nat) : acells (xs.take i) = (acells xs).take (i * 6) := flat_take (f := Ak.cells) (k := 6) (fun _ => rfl) xs i
theorem acells_drop (xs : List Ak) (i : Nat) : acells (xs.drop i) = (acells xs).drop (i * 6) := by
  by_cases h : i ≤ xs.length
  · have e := congrArg acells (List.take_append_drop i xs)
    rw [acells_app, acells_take] at e
    have e2 := List.take_append_drop (i * 6) (acells xs)
    rw [← e2] at e
    have hl := acells_length xs
    rw [List.take_append_drop] at e
    have := congrArg (List.drop (i * 6)) e
    rw [List.drop_append_of_le_length (by rw [List.length_take]; omega), List.drop_take, Nat.sub_self] at this
    simpa using this
  · rw [List.drop_of_length_le (by omega), List.drop_of_length_le (by rw [acells_length]; omega)]
    rfl
theorem acells_nil : acells [] = [] := rfl

set_option maxRecDepth 100000 in
set_option maxHeartbeats 4000000 in
theorem Delete_any {w : World} {base : Nat} {A : Option Addr} {n c : Nat} {xs : List Ak} (h : Ov w base 74 6 A n c (acells xs)) (i : Nat) (hi : i < n) (hn : n ≤ 100000) :
    Calls Tryd.prog 36 #[.slice A n c, .int .i64 (i : Int), .int .i64 ((i : Int) + 1)] w fun e w' => e = .returned (.slice A (n - 1) c) ∧ Ov w' base 74 6 A (n - 1) c (acells (xs.eraseIdx i)) ∧ w.grownBy w' (ab A) := by
  obtain ⟨iA, hiA, hzA, hsA, hbA⟩ := info_parts info_A
  have hxl := h.1
  rw [acells_length] at hxl
  have hxn : xs.length = n := by omega
  have hle := h.rv.2.1
  have hcap : c ≤ 9223372036854775807 := h.rv.2.2.1
  rcases h.first with ⟨_, h0, _⟩ | ⟨g, rfl⟩
  · omega
  obtain ⟨m, rfl⟩ : ∃ m, n = m + 1 := ⟨n - 1, by omega⟩
  have hmi : i + (m - i) = m := by omega
  -- what is moved
  obtain ⟨ad, had, hsrc⟩ : ∃ ad : Addr, cutK (some ⟨g, 0, none⟩) c (i + 1) 6 = some ad ∧ ∀ t u, (acells (xs.drop (i + 1)))[t]? = some u → w.drew.cell? (ad.add t) = some u := by
    by_cases hc : c = i + 1
    · refine ⟨⟨g, 0, none⟩, by unfold cutK; rw [if_pos hc], fun t u hu => ?_⟩
      rw [List.drop_of_length_le (by omega)] at hu
      simp [acells] at hu
    · refine ⟨⟨g, (i + 1) * 6, none⟩, by unfold cutK; rw [if_neg hc]; simp [Addr.add], fun t u hu => ?_⟩
      rw [acells_drop, List.getElem?_drop] at hu
      have hlt := (List.getElem?_eq_some_iff.1 hu).1
      rw [acells_length] at hlt
      rw [Addr.add_lit]
      have := World.ownsRow.cellAt h ((i + 1) * 6 + t) (by omega)
      exact this.trans hu
  have SA := fun w' => run_slice_hiK (P := Tryd.prog) 67 74 6 Tryd.underlying67 iA hiA info_Ac (some ⟨g, 0, none⟩) (m + 1) c i (by omega) w'
  rw [cutK_zero] at SA
  have SB := fun w' => run_slice_loK (P := Tryd.prog) 67 74 6 Tryd.underlying67 iA hiA info_Ac (some ⟨g, 0, none⟩) (m + 1) c (i + 1) (by omega) (by omega) w'
  rw [had, show m + 1 - (i + 1) = m - i by omega] at SB
  have SC := fun w' => run_slice_3K (P := Tryd.prog) 67 74 6 Tryd.underlying67 iA hiA info_Ac (some ⟨g, 0, none⟩) (m + 1) c i (i + 1) (m + 1) (by omega) (by omega) (by omega) w'
  have SD := fun w' => run_slice_lohiK (P := Tryd.prog) 67 74 6 Tryd.underlying67 iA hiA info_Ac (some ⟨g, 0, none⟩) m c m (m + 1) (by omega) (by omega) w'
  have hcD : cutK (some ⟨g, 0, none⟩) c m 6 = some ⟨g, m * 6, none⟩ := by
    unfold cutK
    rw [if_neg (by omega), Option.map_some, Addr.add_lit, Nat.zero_add]
  rw [hcD, show m + 1 - m = 1 by omega] at SD
  -- the rows
  have hnl : (acells (xs.drop (i + 1))).length = (m - i) * 6 := by rw [acells_length, List.length_drop]; omega
  obtain ⟨hO1, hG1⟩ := Ov.setCells (acells (xs.drop (i + 1))) (i * 6) (show Ov w.drew base 74 6 (some ⟨g, 0, none⟩) (m + 1) c (acells xs) from h)
  have hxs : setL (acells xs) (i * 6) (acells (xs.drop (i + 1))) = acells (xs.eraseIdx i) ++ (acells xs).drop (m * 6) := by
    rw [setL_eq _ _ _ (by rw [hnl, acells_length]; omega), hnl, ← acells_take, ← acells_app, List.eraseIdx_eq_take_drop_succ]
    rw [show i * 6 + (m - i) * 6 = m * 6 by omega]
  rw [hxs] at hO1
  have hel : (xs.eraseIdx i).length = m := by rw [List.length_eraseIdx_of_lt (by omega)]; omega
  have hspare : ∀ j, j < (acells (xs.drop (i + 1))).length → (w.drew.cell? ⟨g, 0 + i * 6 + j, none⟩).isSome = true ∧ w.drew.frozen? ⟨g, 0 + i * 6 + j, none⟩ = false := fun j hj => by
    rw [hnl] at hj
    rw [Nat.zero_add]
    refine ⟨?_, World.ownsRow.frozenAt h _⟩
    have := World.ownsRow.cellAt h (i * 6 + j) (by omega)
    rw [show w.drew.cell? ⟨g, i * 6 + j, none⟩ = _ from this, List.getElem?_eq_getElem (by rw [acells_length]; omega)]
    rfl
  have hone := acells_one (xs.drop (i + 1))
  obtain ⟨W1, hW1⟩ : ∃ W1, W1 = w.drew.setCells g (i * 6) (acells (xs.drop (i + 1))) := ⟨_, rfl⟩
  rw [← hW1] at hO1 hG1
  have hcl := fun ty => run_clear_A (o := m * 6) (m := 1) (d := c - m) hO1 (by omega) (by omega) ty
  have hO2' := hO1.takeN m (by omega) (by simp)
  rw [List.take_append_of_le_length (by rw [acells_length]; omega), List.take_of_length_le (by rw [acells_length]; omega)] at hO2'
  obtain ⟨hO2, hG2⟩ := Ov.setCells (Builtin.zeroCells zeroA.cells 1).toList (m * 6) hO2'
  rw [setL_ge _ _ _ (by rw [acells_length]; omega)] at hO2
  have hfr : w.grownBy (W1.setCells g (m * 6) (Builtin.zeroCells zeroA.cells 1).toList) (some g) := grown_tr ⟨hG1.os, hG1.tape, hG1.output, hG1.size, hG1.block⟩ hG2
  replace hO2 := Lib.hid hO2
  replace hfr := Lib.hid hfr
  replace hsrc := Lib.hid hsrc
  replace hspare := Lib.hid hspare
  replace hone := Lib.hid hone
  replace hnl := Lib.hid hnl
  replace hW1 := Lib.hid hW1
  have hne : ((i : Int) == (i : Int) + 1) = false := beq_false_of_ne (by omega)
  generalize (W1.setCells g (m * 6) (Builtin.zeroCells zeroA.cells 1).toList) = W2 at *
  clear hO2' hG2 hO1 hG1 hxs hcD had h
  simp only [Int.natCast_add, Int.natCast_one] at SB SC SD
  go_enter Tryd.func36, Tryd.ntmps36
  go_wp2_with fail
  refine wp_region_noPanic ?_
  refine wp_region_held_drew (S := fun _ => True) (by kernel_rfl) trivial (fun hHeld => ?_)
  refine wpAnyH_takeL (i := 0) (v := ?vhy1) rfl (by kernel_rfl) (by kernel_rfl) (by kernel_rfl) (fun _ _ _ h => h) (Or.inl ⟨by rfl, ?hy1⟩) (by assumption) ?rhy1
  case hy1 => ((intro w hSw; (try dsimp only at hSw); go_simp); try with_reducible rfl)
  try simp only [Act.put, List.setIfInBounds_toArray, List.set_cons_zero, List.set_cons_succ]
  refine wpAnyH_takeL (i := 1) (v := ?vhy2) rfl (by kernel_rfl) (by kernel_rfl) (by kernel_rfl) (fun _ _ _ h => h) (Or.inl ⟨by rfl, ?hy2⟩) (by assumption) ?rhy2
  case hy2 => ((intro w hSw; (try dsimp only at hSw); go_simp); try with_reducible rfl)
  try simp only [Act.put, List.setIfInBounds_toArray, List.set_cons_zero, List.set_cons_succ]
  refine wpAnyH_takeL (i := 2) (v := ?vhy3) rfl (by kernel_rfl) (by kernel_rfl) (by kernel_rfl) (fun _ _ _ h => h) (Or.inl ⟨by rfl, ?hy3⟩) (by assumption) ?rhy3
  case hy3 => ((intro w hSw; (try dsimp only at hSw); go_simp); try with_reducible rfl)
  try simp only [Act.put, List.setIfInBounds_toArray, List.set_cons_zero, List.set_cons_succ]
  refine wpAnyH_takeL (i := 3) (v := ?vhy4) rfl (by kernel_rfl) (by kernel_rfl) (by kernel_rfl) (fun _ _ _ h => h) (Or.inl ⟨by rfl, ?hy4⟩) (by assumption) ?rhy4
  case hy4 => ((intro w hSw; (try dsimp only at hSw); go_simp); try with_reducible rfl)
  try simp only [Act.put, List.setIfInBounds_toArray, List.set_cons_zero, List.set_cons_succ]
  refine wpAnyH_takeL (i := 4) (v := ?vhy5) rfl (by kernel_rfl) (by kernel_rfl) (by kernel_rfl) (fun _ _ _ h => h) (Or.inl ⟨by rfl, ?hy5⟩) (by assumption) ?rhy5
  case hy5 => ((intro w hSw; (try dsimp only at hSw); go_simp); try with_reducible rfl)
  try simp only [Act.put, List.setIfInBounds_toArray, List.set_cons_zero, List.set_cons_succ]
  refine wpAnyH_takeL (i := 5) (v := ?vhy6) rfl (by kernel_rfl) (by kernel_rfl) (by kernel_rfl) (fun _ _ _ h => h) (Or.inl ⟨by rfl, ?hy6⟩) (by assumption) ?rhy6
  case hy6 => ((intro w hSw; (try dsimp only at hSw); go_simp); try with_reducible rfl)
  try simp only [Act.put, List.setIfInBounds_toArray, List.set_cons_zero, List.set_cons_succ]
  refine wpAnyH_ready (rs := [6]) (by kernel_rfl) (by simp) ?_
  refine AllReadyH.consL (i := 6) rfl (fun K hK => ?_) AllReadyH.nil
  refine step_append_room rfl (.tmp 22) (.tmp 25) 67 rfl 74 iA 6 Tryd.underlying67 hiA hsA g 0 i c rfl ad (m - i) (c - (i + 1)) (acells (xs.drop (i + 1))) rfl hnl.out hsrc.out hone.out (by omega) hspare.out ?_
  rw [hmi, Nat.zero_add, ← hW1.out]
  refine hK.out _ _ trivial (fun _ => ?_)
  clear hK
  try simp only [Act.put, List.setIfInBounds_toArray, List.set_cons_zero, List.set_cons_succ]
  refine wpAnyH_takeL (i := 7) (v := ?vhy7) rfl (by kernel_rfl) (by kernel_rfl) (by kernel_rfl) (fun _ _ _ h => h) (Or.inl ⟨by rfl, ?hy7⟩) (by assumption) ?rhy7
  case hy7 => ((intro w hSw; (try dsimp only at hSw); go_simp); try with_reducible rfl)
  try simp only [Act.put, List.setIfInBounds_toArray, List.set_cons_zero]
  refine wpAnyH_done (by kernel_rfl) ?_ _
  refine NoPanic.normal ?_
  go_wp2
  go_ret
  exact ⟨rfl, hO2.out, hfr.out⟩
end Go.Proofs.YtnjhhibjcfjhnaaDoor
