/- key.one: a value that is read, or given up. -/
import Derived.Test.YtdgmhegcoogokaaDoorKeyG
import Derived.Test.YtdgmhegcoogokaaDoorReg
namespace Go.Proofs.YtdgmhegcoogokaaDoor
open Go.RowKit
set_option linter.unusedVariables false

/-- The value with whose key bytes begin, and how many these are. -/
def readV : List UInt8 → Option (Vl × Nat)
  | [] => none
  | b :: t => if 4 < b.toNat then none else (readR (b.toNat : Int) t).map fun r => (⟨(b.toNat : Int), r.1, r.2.1, r.2.2.1⟩, 1 + r.2.2.2)
theorem readV_cons (b : UInt8) (t : List UInt8) : readV (b :: t) = if 4 < b.toNat then none else (readR (b.toNat : Int) t).map fun r => (⟨(b.toNat : Int), r.1, r.2.1, r.2.2.1⟩, 1 + r.2.2.2) := rfl
theorem readG_le : ∀ (d : Nat) (out t : List UInt8) (r : List UInt8 × Nat), t.length ≤ d → readG out t = some r → r.2 ≤ t.length
  | 0, out, t, r, hd, h => by
    rw [readG, dif_pos (by omega)] at h
    cases h
  | d + 1, out, t, r, hd, h => by
    rw [readG] at h
    by_cases h9 : t.length < 9
    · rw [dif_pos h9] at h
      cases h
    rw [dif_neg h9] at h
    split at h
    · cases h
    split at h
    · cases h
    split at h
    · rw [Option.map_eq_some_iff] at h
      obtain ⟨r', h1, rfl⟩ := h
      have := readG_le d _ _ r' (by simp; omega) h1
      simp at this ⊢
      omega
    split at h
    · injection h with h
      subst h
      simp
      omega
    · cases h
theorem readR_le {k : Int} {t s : List UInt8} {i u : Int} {n : Nat} (h : readR k t = some (i, u, s, n)) : n ≤ t.length := by
  unfold readR at h
  split at h
  · injection h with h; injection h with _ h; injection h with _ h; injection h with _ h; omega
  split at h
  · unfold readI at h
    split at h
    · cases h
    · injection h with h; injection h with _ h; injection h with _ h; injection h with _ h; omega
  split at h
  · unfold readU at h
    split at h
    · cases h
    · rename_i h0
      injection h with h; injection h with _ h; injection h with _ h; injection h with _ h
      rcases readN_spec t with h1 | ⟨x, m, h1, _, h2, _⟩
      · rw [h1] at h0; exact absurd (by decide) h0
      · rw [h1] at h; simp only at h; omega
  split at h
  · unfold readB at h
    split at h
    · cases h
    · split at h
      · cases h
      · injection h with h; injection h with _ h; injection h with _ h; injection h with _ h; simp; omega
  · rw [Option.map_eq_some_iff] at h
    obtain ⟨r, h1, h2⟩ := h
    have := readG_le t.length [] t r (Nat.le_refl _) h1
    injection h2 with _ h2; injection h2 with _ h2; injection h2 with _ h2
    omega

def zeroV : Vl := ⟨0, 0, 0, []⟩
/-- What one tells. -/
def oneV (l : List UInt8) : Vl × Nat × Nat := match readV l with
  | some (x, n) => (x, n, 0)
  | none => (zeroV, 0, 150)
def OnePost (w : World) (l : List UInt8) (e : Ending) (w' : World) : Prop :=
  e = .returned (.tuple #[(oneV l).1.val, .int .i64 ((oneV l).2.1 : Int), .int .i64 ((oneV l).2.2 : Int)]) ∧ Below w.heap.size w w'

theorem VBox.drew {W : World} {B : Nat} {k i u : Int} {s : ByteArray} (h : VBox W B k i u s) : VBox W.drew B k i u s := h
theorem SBox.drew {W : World} {B : Nat} {s : ByteArray} (h : SBox W B s) : SBox W.drew B s := h
/-- The two functions of a kind in a box of their own. -/
def KKBox (W : World) (B : Nat) (f g : Value) : Prop := W.heap[B]? = some (.cells #[f, g] 57 (0, 0))
theorem KKBox.set {W : World} {B : Nat} {f g : Value} (h : KKBox W B f g) (f' g' : Value) : KKBox ((W.setCell ⟨B, 0, none⟩ f').setCell ⟨B, 1, none⟩ g') B f' g' := by
  unfold KKBox at *
  show ((W.setCell ⟨B, 0, none⟩ f').heap.modify B _)[B]? = _
  have h2 : (W.setCell ⟨B, 0, none⟩ f').heap[B]? = some (.cells #[f', g] 57 (0, 0)) := by
    show (W.heap.modify B _)[B]? = _
    obtain ⟨hlt, hk⟩ := Array.getElem?_eq_some_iff.1 h
    rw [Array.getElem?_eq_getElem (by rw [Array.size_modify]; exact hlt), Array.getElem_modify_self, hk]
    rfl
  obtain ⟨hlt, hk⟩ := Array.getElem?_eq_some_iff.1 h2
  rw [Array.getElem?_eq_getElem (by rw [Array.size_modify]; exact hlt), Array.getElem_modify_self, hk]
  rfl
theorem KKBox.cells {W : World} {B : Nat} {f g : Value} (h : KKBox W B f g) : (W.cell? ⟨B, 0, none⟩ = some f ∧ W.cell? ⟨B, 1, none⟩ = some g) ∧ (W.frozen? ⟨B, 0, none⟩ = false ∧ W.frozen? ⟨B, 1, none⟩ = false) := by
  unfold KKBox at h
  simp [World.cell?, World.frozen?, h]

set_option maxRecDepth 100000 in
set_option maxHeartbeats 4000000 in
theorem one_any (l : List UInt8) (w : World) (hl : l.length ≤ maxLen) : Calls Tryd.prog 25 #[.string (strL l)] w (OnePost w l) := by
  have hmf : ∀ (fn : Fn) (first cap : Array Value) (w : World), (Instr.makeFunc fn first cap).run Tryd.prog w = .ok (.func fn first cap) w := fun _ _ _ _ => rfl
  have hV0 : VBox (((w.alloc (.cells #[.int .i64 0, .int .i64 0, .int .u64 0, .string { data := #[] }] 42)).alloc (.cells #[.int .i64 0] 3)).alloc (.cells #[.int .i64 0] 25) |>.alloc (.cells #[.string (strL l)] 93)) w.heap.size 0 0 0 (strL []) := by
    refine VBox.below (W := w.alloc (.cells #[.int .i64 0, .int .i64 0, .int .u64 0, .string { data := #[] }] 42)) (VBox.new w 0 0 0 ByteArray.empty) ((((Below.refl _ _).alloc (Nat.le_refl _) _).alloc (by simp) _).alloc (by simp) _) (by simp)
  have hM0 : Boxed (((w.alloc (.cells #[.int .i64 0, .int .i64 0, .int .u64 0, .string { data := #[] }] 42)).alloc (.cells #[.int .i64 0] 3)).alloc (.cells #[.int .i64 0] 25) |>.alloc (.cells #[.string (strL l)] 93)) (w.heap.size + 1) 3 (.int .i64 0) := by
    have h := ((Boxed.new (w.alloc (.cells #[.int .i64 0, .int .i64 0, .int .u64 0, .string { data := #[] }] 42)) 3 (.int .i64 0)).alloc (.cells #[.int .i64 0] 25)).alloc (.cells #[.string (strL l)] 93)
    simpa using h
  have hE0 : Boxed (((w.alloc (.cells #[.int .i64 0, .int .i64 0, .int .u64 0, .string { data := #[] }] 42)).alloc (.cells #[.int .i64 0] 3)).alloc (.cells #[.int .i64 0] 25) |>.alloc (.cells #[.string (strL l)] 93)) (w.heap.size + 1 + 1) 25 (.int .i64 0) := by
    have h := (Boxed.new ((w.alloc (.cells #[.int .i64 0, .int .i64 0, .int .u64 0, .string { data := #[] }] 42)).alloc (.cells #[.int .i64 0] 3)) 25 (.int .i64 0)).alloc (.cells #[.string (strL l)] 93)
    simpa using h
  have hT0 : SBox (((w.alloc (.cells #[.int .i64 0, .int .i64 0, .int .u64 0, .string { data := #[] }] 42)).alloc (.cells #[.int .i64 0] 3)).alloc (.cells #[.int .i64 0] 25) |>.alloc (.cells #[.string (strL l)] 93)) (w.heap.size + 1 + 1 + 1) (strL l) := by
    have h := World.alloc_heap_new (((w.alloc (.cells #[.int .i64 0, .int .i64 0, .int .u64 0, .string { data := #[] }] 42)).alloc (.cells #[.int .i64 0] 3)).alloc (.cells #[.int .i64 0] 25)) (.cells #[.string (strL l)] 93)
    simpa [SBox] using h
  have hb0 : Below w.heap.size w (((w.alloc (.cells #[.int .i64 0, .int .i64 0, .int .u64 0, .string { data := #[] }] 42)).alloc (.cells #[.int .i64 0] 3)).alloc (.cells #[.int .i64 0] 25) |>.alloc (.cells #[.string (strL l)] 93)) := ((((Below.refl _ w).alloc (Nat.le_refl _) _).alloc (by simp) _).alloc (by simp; omega) _).alloc (by simp; omega) _
  go_enter_defers Tryd.func25, Tryd.ntmps25
  go_wp2_with fail
  generalize ((((w.alloc (.cells #[.int .i64 0, .int .i64 0, .int .u64 0, .string { data := #[] }] 42)).alloc (.cells #[.int .i64 0] 3)).alloc (.cells #[.int .i64 0] 25)).alloc (.cells #[.string (strL l)] 93)) = wq at *
  have hTl := hT0.lt
  cases l with
  | nil =>
    refine (take_no _ [] 1 _ hT0 (by decide) (by decide)).mono ?_
    rintro e w' ⟨rfl, rfl⟩
    have hNo : readV [] = none := rfl
    go_wp2
    refine leaves_cons (f := 53) (args := #[.pointer (some ⟨w.heap.size + 1 + 1, 0, none⟩), .func (.func 54) #[] #[.pointer (some ⟨w.heap.size, 0, none⟩), .pointer (some ⟨w.heap.size + 1, 0, none⟩)]]) (by simp) (by simp [go_sem]) ?_
    refine (caught_panic _ _ _ _ _ _ _ _ _ _ hV0 hM0 hE0 (by omega) (by omega) (by omega)).mono ?_
    rintro e u' w'' ⟨rfl, rfl, hV9, hM9, hE9, hb9⟩
    have hfin := hb0.trans (hb9 w.heap.size (by omega) (by omega) (by omega))
    have hc9 := hV9.cells
    have hm9 := hM9.cell
    have he9 := hE9.cell
    have hone : oneV [] = (zeroV, 0, 150) := by unfold oneV; rw [hNo]
    simp [Leaves, settle, results, Tryd.f25, go_sem, hc9, hm9, he9]
    refine ⟨?_, hfin⟩
    rw [hone]
    rfl
  | cons b t =>
    have hw64 : wrap64 (b.toNat : Int) = (b.toNat : Int) := by have := b.toNat_lt; unfold wrap64; omega
    have hbi : ∀ h, (strL [b])[0]'h = b := fun _ => rfl
    have hbs : (strL [b]).size = 1 := rfl
    have hV1 := hV0.other (B' := w.heap.size + 1 + 1 + 1) (o := 0) (by omega) (.string (strL t))
    have hM1 := box_other (B' := w.heap.size + 1 + 1 + 1) (v' := .string (strL t)) hM0 (by omega)
    have hE1 := box_other (B' := w.heap.size + 1 + 1 + 1) (v' := .string (strL t)) hE0 (by omega)
    have hT1 := hT0.set (strL t)
    have hb1 := hb0.setCell (p := ⟨w.heap.size + 1 + 1 + 1, 0, none⟩) (by simp; omega) (.string (strL t))
    have hc1 := hV1.cells
    have hf1 := hV1.frozen 0
    refine (take_l _ (b :: t) 1 _ hT0 (by simp) hl).mono ?_
    rintro e w' ⟨rfl, rfl⟩
    go_wp2_with fail
    have hV := hV1.setK (b.toNat : Int)
    have hM := box_other (B' := w.heap.size) (v' := .int .i64 (b.toNat : Int)) hM1 (by omega)
    have hE := box_other (B' := w.heap.size) (v' := .int .i64 (b.toNat : Int)) hE1 (by omega)
    have hT := hT1.other (B' := w.heap.size) (o := 0) (by omega) (.int .i64 (b.toNat : Int))
    have hb := hb1.setCell (p := ⟨w.heap.size, 0, none⟩) (by simp) (.int .i64 (b.toNat : Int))
    have hlt := hV.lt
    replace hb0 := hb
    clear hc1 hf1 hV1 hM1 hE1 hT1 hb1 hTl hT0 hM0 hE0 hV0 hb
    generalize ((wq.setCell ⟨w.heap.size + 1 + 1 + 1, 0, none⟩ (.string (strL t))).setCell ⟨w.heap.size, 0, none⟩ (.int .i64 (b.toNat : Int))) = w0 at *
    simp only [hw64]
    by_cases hk4 : 4 < b.toNat
    · have hlk : ∀ w' r, IMap w' r .i64 KKinds → (Instr.lookup 58 (.map (some r)) (.int .i64 (b.toNat : Int)) true).run Tryd.prog w' = .ok (.tuple #[.agg #[.nilFunc, .nilFunc], .bool false]) w' := fun w' r hm =>
        hm.lookNot _ _ _ Tryd.underlying58 Tryd.underlying39 (b.toNat : Int) _ (fun w => Tryd.zeroValue57 w) (by
          unfold KKinds
          simp only [seek]
          rw [if_neg (by omega), if_neg (by omega), if_neg (by omega), if_neg (by omega), if_neg (by omega)])
      have hsf := fun (a : Addr) (w : World) (m : Mode) => (run_store Tryd.prog w a Value.nilFunc m rfl : _ = stored Tryd.prog w a Value.nilFunc m)
      have hsg := fun (a : Addr) (w : World) (m : Mode) => (run_store Tryd.prog w a Value.nilFunc m rfl : _ = stored Tryd.prog w a Value.nilFunc m)
      refine wp_region_noPanic ?_
      refine wp_region_held_drew (S := fun w' => w'.cell? ⟨w.heap.size, 0, none⟩ = some (.int .i64 (b.toNat : Int))) (by kernel_rfl) (VBox.cells (W := w0.drew) hV).1 (fun hHeld => ?_)
      refine wpAnyH_takeL (i := 1) (v := ?vhy1) rfl (by kernel_rfl) (by kernel_rfl) (by kernel_rfl) (fun _ _ _ h => h) (Or.inl ⟨by rfl, ?hy1⟩) (by assumption) ?rhy1
      case hy1 => ((intro w hSw; (try dsimp only at hSw); go_simp); try with_reducible rfl)
      try simp only [Act.put, List.setIfInBounds_toArray, List.set_cons_zero, List.set_cons_succ]
      refine wpAnyH_takeL (i := 2) (v := ?vhy2) rfl (by kernel_rfl) (by kernel_rfl) (by kernel_rfl) (fun _ _ _ h => h) (Or.inl ⟨by rfl, ?hy2⟩) (by assumption) ?rhy2
      case hy2 => ((intro w hSw; (try dsimp only at hSw); go_simp); try with_reducible rfl)
      try simp only [Act.put, List.setIfInBounds_toArray, List.set_cons_zero, List.set_cons_succ]
      refine wpAnyH_ready (rs := [0, 7]) (by kernel_rfl) (by simp) ?_
      refine AllReadyH.consL (i := 0) rfl (fun K hK => ?_) (AllReadyH.consL (i := 7) rfl (fun K hK => ?_) AllReadyH.nil)
      · go_simp
        refine (kkinds_any _).mono ?_
        rintro e w1 ⟨r, rfl, hm, hb1, hr1⟩
        replace hb1 := gr ((Below.refl _ w0).drew) hb1
        refine hK.out _ _ (hV.below hb1 hlt).cells.1 (fun hHeld => ?_)
        clear hK hHeld
        refine wpAnyH_more (S' := fun w' => IMap w' r .i64 KKinds ∧ Below w0.heap.size w0 w') (fun w' h => (hV.below h.2 hlt).cells.1) ?_
        have hHeld : IMap w1 r .i64 KKinds ∧ Below w0.heap.size w0 w1 := ⟨hm, hb1⟩
        try simp only [Act.put, List.setIfInBounds_toArray, List.set_cons_zero, List.set_cons_succ]
        refine wpAnyH_takeL (i := 3) (v := ?vhy3) rfl (by kernel_rfl) (by kernel_rfl) (by kernel_rfl) (fun _ _ _ h => h) (Or.inl ⟨by rfl, ?hy3⟩) (by assumption) ?rhy3
        case hy3 => ((intro w hSw; (try dsimp only at hSw); go_simp); try with_reducible rfl)
        try simp only [Act.put, List.setIfInBounds_toArray, List.set_cons_zero, List.set_cons_succ]
        refine wpAnyH_takeL (i := 4) (v := ?vhy4) rfl (by kernel_rfl) (by kernel_rfl) (by kernel_rfl) (fun _ _ _ h => h) (Or.inl ⟨by rfl, ?hy4⟩) (by assumption) ?rhy4
        case hy4 => ((intro w hSw; (try dsimp only at hSw); go_simp); try with_reducible rfl)
        try simp only [Act.put, List.setIfInBounds_toArray, List.set_cons_zero, List.set_cons_succ]
        refine wpAnyH_takeL (i := 5) (v := ?vhy5) rfl (by kernel_rfl) (by kernel_rfl) (by kernel_rfl) (fun _ _ _ h => h) (Or.inl ⟨by rfl, ?hy5⟩) (by assumption) ?rhy5
        case hy5 => ((intro w hSw; (try dsimp only at hSw); go_simp); try with_reducible rfl)
        try simp only [Act.put, List.setIfInBounds_toArray, List.set_cons_zero, List.set_cons_succ]
        refine wpAnyH_takeL (i := 6) (v := ?vhy6) rfl (by kernel_rfl) (by kernel_rfl) (by kernel_rfl) (fun _ _ _ h => h) (Or.inl ⟨by rfl, ?hy6⟩) (by assumption) ?rhy6
        case hy6 => ((intro w hSw; (try dsimp only at hSw); go_simp); try with_reducible rfl)
        try simp only [Act.put, List.setIfInBounds_toArray, List.set_cons_zero, List.set_cons_succ]
        refine wpAnyH_ready (rs := [7]) (by kernel_rfl) (by simp) ?_
        refine AllReadyH.consL (i := 7) rfl (fun K hK => ?_) AllReadyH.nil
        go_simp
        have hs2 := (Below.refl w1.heap.size w1).alloc (Nat.le_refl _) (.cells #[.nilFunc, .nilFunc] 57)
        refine hK.out _ _ ⟨hm.below hs2, gr hb1 hs2⟩ (fun hHeld => ?_)
        clear hK
        try simp only [Act.put, List.setIfInBounds_toArray, List.set_cons_zero, List.set_cons_succ]
        refine wpAnyH_ready (rs := [8]) (by kernel_rfl) (by simp) ?_
        refine AllReadyH.consL (i := 8) rfl (fun K hK => ?_) AllReadyH.nil
        go_simp
        have hs3 := (Below.refl w1.heap.size w1).alloc (Nat.le_refl _) (.cells #[Value.nilFunc, Value.nilFunc] 57)
        have hkb : KKBox (w1.alloc (.cells #[Value.nilFunc, Value.nilFunc] 57)) w1.heap.size Value.nilFunc Value.nilFunc := World.alloc_heap_new w1 _
        refine hK.out _ _ ⟨hm.below hs3, gr hb1 hs3⟩ (fun hHeld => ?_)
        clear hK
        replace hb1 := gr hb1 hs3
        generalize (w1.alloc (.cells #[Value.nilFunc, Value.nilFunc] 57)) = W at *
        try simp only [Act.put, List.setIfInBounds_toArray, List.set_cons_zero, List.set_cons_succ]
        refine wpAnyH_takeL (i := 9) (v := ?vhy7) rfl (by kernel_rfl) (by kernel_rfl) (by kernel_rfl) (fun _ _ _ h => h) (Or.inl ⟨by rfl, ?hy7⟩) (by assumption) ?rhy7
        case hy7 => ((intro w hSw; (try dsimp only at hSw); go_simp); try with_reducible rfl)
        try simp only [Act.put, List.setIfInBounds_toArray, List.set_cons_zero, List.set_cons_succ]
        refine wpAnyH_done (by kernel_rfl) ?_ _
        refine NoPanic.normal ?_
        clear hHeld hm hlk
        replace hV := hV.below hb1 hlt
        replace hM := box_below hM hb1 hM.lt
        replace hE := box_below hE hb1 hE.lt
        replace hT := hT.below hb1
        replace hb0 := gr hb0 hb1
        clear hb1 hsf hsg
        have hNo : readV (b :: t) = none := by rw [readV_cons, if_pos hk4]
        go_wp2_with (go_at_call 47; refine (must_false _).mono ?_; rintro e w' ⟨rfl, rfl⟩)
        refine leaves_cons (f := 53) (args := #[.pointer (some ⟨w.heap.size + 1 + 1, 0, none⟩), .func (.func 54) #[] #[.pointer (some ⟨w.heap.size, 0, none⟩), .pointer (some ⟨w.heap.size + 1, 0, none⟩)]]) (by simp) (by simp [go_sem]) ?_
        refine (caught_panic _ _ _ _ _ _ _ _ _ _ hV hM hE (by omega) (by omega) (by omega)).mono ?_
        rintro e u' w'' ⟨rfl, rfl, hV9, hM9, hE9, hb9⟩
        have hfin := hb0.trans (hb9 w.heap.size (by omega) (by omega) (by omega))
        have hc9 := hV9.cells
        have hm9 := hM9.cell
        have he9 := hE9.cell
        have hone : oneV (b :: t) = (zeroV, 0, 150) := by unfold oneV; rw [hNo]
        simp [Leaves, settle, results, Tryd.f25, go_sem, hc9, hm9, he9]
        refine ⟨?_, hfin⟩
        rw [hone]
        rfl
      · go_simp
        have hs2 := (Below.refl w0.heap.size w0).alloc (Nat.le_refl _) (.cells #[.nilFunc, .nilFunc] 57)
        have hkn : KKBox (w0.alloc (.cells #[.nilFunc, .nilFunc] 57)) w0.heap.size .nilFunc .nilFunc := World.alloc_heap_new w0 _
        have hln : w0.heap.size < (w0.alloc (.cells #[.nilFunc, .nilFunc] 57)).heap.size := by simp
        refine hK.out _ _ (VBox.cells (W := (w0.alloc (.cells #[.nilFunc, .nilFunc] 57)).drew) (hV.below hs2.drew hlt)).1 (fun hHeld => ?_)
        clear hK
        try simp only [Act.put, List.setIfInBounds_toArray, List.set_cons_zero, List.set_cons_succ]
        refine wpAnyH_ready (rs := [0]) (by kernel_rfl) (by simp) ?_
        refine AllReadyH.consL (i := 0) rfl (fun K hK => ?_) AllReadyH.nil
        go_simp
        refine (kkinds_any _).mono ?_
        rintro e w1 ⟨r, rfl, hm, hb1, hr1⟩
        replace hr1 : w0.heap.size < r := Nat.lt_of_lt_of_le hln hr1
        replace hkn : KKBox w1 w0.heap.size .nilFunc .nilFunc := (hb1.block _ hln).trans hkn
        replace hb1 := gr hs2.drew hb1
        refine hK.out _ _ (hV.below hb1 hlt).cells.1 (fun hHeld => ?_)
        clear hK hHeld
        refine wpAnyH_more (S' := fun w' => IMap w' r .i64 KKinds ∧ Below w0.heap.size w0 w') (fun w' h => (hV.below h.2 hlt).cells.1) ?_
        have hHeld : IMap w1 r .i64 KKinds ∧ Below w0.heap.size w0 w1 := ⟨hm, hb1⟩
        try simp only [Act.put, List.setIfInBounds_toArray, List.set_cons_zero, List.set_cons_succ]
        refine wpAnyH_takeL (i := 3) (v := ?vhy8) rfl (by kernel_rfl) (by kernel_rfl) (by kernel_rfl) (fun _ _ _ h => h) (Or.inl ⟨by rfl, ?hy8⟩) (by assumption) ?rhy8
        case hy8 => ((intro w hSw; (try dsimp only at hSw); go_simp); try with_reducible rfl)
        try simp only [Act.put, List.setIfInBounds_toArray, List.set_cons_zero, List.set_cons_succ]
        refine wpAnyH_takeL (i := 4) (v := ?vhy9) rfl (by kernel_rfl) (by kernel_rfl) (by kernel_rfl) (fun _ _ _ h => h) (Or.inl ⟨by rfl, ?hy9⟩) (by assumption) ?rhy9
        case hy9 => ((intro w hSw; (try dsimp only at hSw); go_simp); try with_reducible rfl)
        try simp only [Act.put, List.setIfInBounds_toArray, List.set_cons_zero, List.set_cons_succ]
        refine wpAnyH_takeL (i := 5) (v := ?vhy10) rfl (by kernel_rfl) (by kernel_rfl) (by kernel_rfl) (fun _ _ _ h => h) (Or.inl ⟨by rfl, ?hy10⟩) (by assumption) ?rhy10
        case hy10 => ((intro w hSw; (try dsimp only at hSw); go_simp); try with_reducible rfl)
        try simp only [Act.put, List.setIfInBounds_toArray, List.set_cons_zero, List.set_cons_succ]
        refine wpAnyH_takeL (i := 6) (v := ?vhy11) rfl (by kernel_rfl) (by kernel_rfl) (by kernel_rfl) (fun _ _ _ h => h) (Or.inl ⟨by rfl, ?hy11⟩) (by assumption) ?rhy11
        case hy11 => ((intro w hSw; (try dsimp only at hSw); go_simp); try with_reducible rfl)
        try simp only [Act.put, List.setIfInBounds_toArray, List.set_cons_zero, List.set_cons_succ]
        have hkc := hkn.cells
        refine wpAnyH_ready (rs := [8]) (by kernel_rfl) (by simp) ?_
        refine AllReadyH.consL (i := 8) rfl (fun K hK => ?_) AllReadyH.nil
        go_simp
        have hkb := hkn.set Value.nilFunc Value.nilFunc
        have hg1' := (grownBy_setCell_at w1 ⟨w0.heap.size, 0, none⟩ Value.nilFunc)
        have hg2' := (grownBy_setCell_at (w1.setCell ⟨w0.heap.size, 0, none⟩ Value.nilFunc) ⟨w0.heap.size, 1, none⟩ Value.nilFunc)
        have hm2 := (hm.kept hg1' (by simp; omega)).kept hg2' (by simp; omega)
        have hb2 := (hb1.setCell (p := ⟨w0.heap.size, 0, none⟩) (Nat.le_refl _) Value.nilFunc).setCell (p := ⟨w0.heap.size, 1, none⟩) (Nat.le_refl _) Value.nilFunc
        refine hK.out _ _ ⟨hm2, hb2⟩ (fun hHeld => ?_)
        clear hK hg1' hg2' hm2 hkc hkn
        replace hb1 := hb2
        clear hb2
        generalize ((w1.setCell ⟨w0.heap.size, 0, none⟩ Value.nilFunc).setCell ⟨w0.heap.size, 1, none⟩ Value.nilFunc) = W at *
        try simp only [Act.put, List.setIfInBounds_toArray, List.set_cons_zero, List.set_cons_succ]
        refine wpAnyH_takeL (i := 9) (v := ?vhy12) rfl (by kernel_rfl) (by kernel_rfl) (by kernel_rfl) (fun _ _ _ h => h) (Or.inl ⟨by rfl, ?hy12⟩) (by assumption) ?rhy12
        case hy12 => ((intro w hSw; (try dsimp only at hSw); go_simp); try with_reducible rfl)
        try simp only [Act.put, List.setIfInBounds_toArray, List.set_cons_zero, List.set_cons_succ]
        refine wpAnyH_done (by kernel_rfl) ?_ _
        refine NoPanic.normal ?_
        clear hHeld hm hlk
        replace hV := hV.below hb1 hlt
        replace hM := box_below hM hb1 hM.lt
        replace hE := box_below hE hb1 hE.lt
        replace hT := hT.below hb1
        replace hb0 := gr hb0 hb1
        clear hb1 hsf hsg
        have hNo : readV (b :: t) = none := by rw [readV_cons, if_pos hk4]
        go_wp2_with (go_at_call 47; refine (must_false _).mono ?_; rintro e w' ⟨rfl, rfl⟩)
        refine leaves_cons (f := 53) (args := #[.pointer (some ⟨w.heap.size + 1 + 1, 0, none⟩), .func (.func 54) #[] #[.pointer (some ⟨w.heap.size, 0, none⟩), .pointer (some ⟨w.heap.size + 1, 0, none⟩)]]) (by simp) (by simp [go_sem]) ?_
        refine (caught_panic _ _ _ _ _ _ _ _ _ _ hV hM hE (by omega) (by omega) (by omega)).mono ?_
        rintro e u' w'' ⟨rfl, rfl, hV9, hM9, hE9, hb9⟩
        have hfin := hb0.trans (hb9 w.heap.size (by omega) (by omega) (by omega))
        have hc9 := hV9.cells
        have hm9 := hM9.cell
        have he9 := hE9.cell
        have hone : oneV (b :: t) = (zeroV, 0, 150) := by unfold oneV; rw [hNo]
        simp [Leaves, settle, results, Tryd.f25, go_sem, hc9, hm9, he9]
        refine ⟨?_, hfin⟩
        rw [hone]
        rfl
    · have hlk : ∀ w' r, IMap w' r .i64 KKinds → (Instr.lookup 58 (.map (some r)) (.int .i64 (b.toNat : Int)) true).run Tryd.prog w' = .ok (.tuple #[.agg #[.func (.func (layF (b.toNat : Int))) #[] #[], .func (.func (readF (b.toNat : Int))) #[] #[]], .bool true]) w' := fun w' r hm =>
        hm.look _ _ _ Tryd.underlying58 Tryd.underlying39 (b.toNat : Int) _ _ (seek_K _ (by omega) (by omega))
      have hsf := fun (a : Addr) (w : World) (m : Mode) => (run_store Tryd.prog w a (.func (.func (layF (b.toNat : Int))) #[] #[]) m rfl : _ = stored Tryd.prog w a (.func (.func (layF (b.toNat : Int))) #[] #[]) m)
      have hsg := fun (a : Addr) (w : World) (m : Mode) => (run_store Tryd.prog w a (.func (.func (readF (b.toNat : Int))) #[] #[]) m rfl : _ = stored Tryd.prog w a (.func (.func (readF (b.toNat : Int))) #[] #[]) m)
      refine wp_region_noPanic ?_
      refine wp_region_held_drew (S := fun w' => w'.cell? ⟨w.heap.size, 0, none⟩ = some (.int .i64 (b.toNat : Int))) (by kernel_rfl) (VBox.cells (W := w0.drew) hV).1 (fun hHeld => ?_)
      refine wpAnyH_takeL (i := 1) (v := ?vhy13) rfl (by kernel_rfl) (by kernel_rfl) (by kernel_rfl) (fun _ _ _ h => h) (Or.inl ⟨by rfl, ?hy13⟩) (by assumption) ?rhy13
      case hy13 => ((intro w hSw; (try dsimp only at hSw); go_simp); try with_reducible rfl)
      try simp only [Act.put, List.setIfInBounds_toArray, List.set_cons_zero, List.set_cons_succ]
      refine wpAnyH_takeL (i := 2) (v := ?vhy14) rfl (by kernel_rfl) (by kernel_rfl) (by kernel_rfl) (fun _ _ _ h => h) (Or.inl ⟨by rfl, ?hy14⟩) (by assumption) ?rhy14
      case hy14 => ((intro w hSw; (try dsimp only at hSw); go_simp); try with_reducible rfl)
      try simp only [Act.put, List.setIfInBounds_toArray, List.set_cons_zero, List.set_cons_succ]
      refine wpAnyH_ready (rs := [0, 7]) (by kernel_rfl) (by simp) ?_
      refine AllReadyH.consL (i := 0) rfl (fun K hK => ?_) (AllReadyH.consL (i := 7) rfl (fun K hK => ?_) AllReadyH.nil)
      · go_simp
        refine (kkinds_any _).mono ?_
        rintro e w1 ⟨r, rfl, hm, hb1, hr1⟩
        replace hb1 := gr ((Below.refl _ w0).drew) hb1
        refine hK.out _ _ (hV.below hb1 hlt).cells.1 (fun hHeld => ?_)
        clear hK hHeld
        refine wpAnyH_more (S' := fun w' => IMap w' r .i64 KKinds ∧ Below w0.heap.size w0 w') (fun w' h => (hV.below h.2 hlt).cells.1) ?_
        have hHeld : IMap w1 r .i64 KKinds ∧ Below w0.heap.size w0 w1 := ⟨hm, hb1⟩
        try simp only [Act.put, List.setIfInBounds_toArray, List.set_cons_zero, List.set_cons_succ]
        refine wpAnyH_takeL (i := 3) (v := ?vhy15) rfl (by kernel_rfl) (by kernel_rfl) (by kernel_rfl) (fun _ _ _ h => h) (Or.inl ⟨by rfl, ?hy15⟩) (by assumption) ?rhy15
        case hy15 => ((intro w hSw; (try dsimp only at hSw); go_simp); try with_reducible rfl)
        try simp only [Act.put, List.setIfInBounds_toArray, List.set_cons_zero, List.set_cons_succ]
        refine wpAnyH_takeL (i := 4) (v := ?vhy16) rfl (by kernel_rfl) (by kernel_rfl) (by kernel_rfl) (fun _ _ _ h => h) (Or.inl ⟨by rfl, ?hy16⟩) (by assumption) ?rhy16
        case hy16 => ((intro w hSw; (try dsimp only at hSw); go_simp); try with_reducible rfl)
        try simp only [Act.put, List.setIfInBounds_toArray, List.set_cons_zero, List.set_cons_succ]
        refine wpAnyH_takeL (i := 5) (v := ?vhy17) rfl (by kernel_rfl) (by kernel_rfl) (by kernel_rfl) (fun _ _ _ h => h) (Or.inl ⟨by rfl, ?hy17⟩) (by assumption) ?rhy17
        case hy17 => ((intro w hSw; (try dsimp only at hSw); go_simp); try with_reducible rfl)
        try simp only [Act.put, List.setIfInBounds_toArray, List.set_cons_zero, List.set_cons_succ]
        refine wpAnyH_takeL (i := 6) (v := ?vhy18) rfl (by kernel_rfl) (by kernel_rfl) (by kernel_rfl) (fun _ _ _ h => h) (Or.inl ⟨by rfl, ?hy18⟩) (by assumption) ?rhy18
        case hy18 => ((intro w hSw; (try dsimp only at hSw); go_simp); try with_reducible rfl)
        try simp only [Act.put, List.setIfInBounds_toArray, List.set_cons_zero, List.set_cons_succ]
        refine wpAnyH_ready (rs := [7]) (by kernel_rfl) (by simp) ?_
        refine AllReadyH.consL (i := 7) rfl (fun K hK => ?_) AllReadyH.nil
        go_simp
        have hs2 := (Below.refl w1.heap.size w1).alloc (Nat.le_refl _) (.cells #[.nilFunc, .nilFunc] 57)
        refine hK.out _ _ ⟨hm.below hs2, gr hb1 hs2⟩ (fun hHeld => ?_)
        clear hK
        try simp only [Act.put, List.setIfInBounds_toArray, List.set_cons_zero, List.set_cons_succ]
        refine wpAnyH_ready (rs := [8]) (by kernel_rfl) (by simp) ?_
        refine AllReadyH.consL (i := 8) rfl (fun K hK => ?_) AllReadyH.nil
        go_simp
        have hs3 := (Below.refl w1.heap.size w1).alloc (Nat.le_refl _) (.cells #[(.func (.func (layF (b.toNat : Int))) #[] #[]), (.func (.func (readF (b.toNat : Int))) #[] #[])] 57)
        have hkb : KKBox (w1.alloc (.cells #[(.func (.func (layF (b.toNat : Int))) #[] #[]), (.func (.func (readF (b.toNat : Int))) #[] #[])] 57)) w1.heap.size (.func (.func (layF (b.toNat : Int))) #[] #[]) (.func (.func (readF (b.toNat : Int))) #[] #[]) := World.alloc_heap_new w1 _
        refine hK.out _ _ ⟨hm.below hs3, gr hb1 hs3⟩ (fun hHeld => ?_)
        clear hK
        replace hb1 := gr hb1 hs3
        generalize (w1.alloc (.cells #[(.func (.func (layF (b.toNat : Int))) #[] #[]), (.func (.func (readF (b.toNat : Int))) #[] #[])] 57)) = W at *
        try simp only [Act.put, List.setIfInBounds_toArray, List.set_cons_zero, List.set_cons_succ]
        refine wpAnyH_takeL (i := 9) (v := ?vhy19) rfl (by kernel_rfl) (by kernel_rfl) (by kernel_rfl) (fun _ _ _ h => h) (Or.inl ⟨by rfl, ?hy19⟩) (by assumption) ?rhy19
        case hy19 => ((intro w hSw; (try dsimp only at hSw); go_simp); try with_reducible rfl)
        try simp only [Act.put, List.setIfInBounds_toArray, List.set_cons_zero, List.set_cons_succ]
        refine wpAnyH_done (by kernel_rfl) ?_ _
        refine NoPanic.normal ?_
        clear hHeld hm hlk
        replace hV := hV.below hb1 hlt
        replace hM := box_below hM hb1 hM.lt
        replace hE := box_below hE hb1 hE.lt
        replace hT := hT.below hb1
        replace hb0 := gr hb0 hb1
        clear hb1 hsf hsg
        have hkc := hkb.cells.1
        have hent := readF_enters (b.toNat : Int)
        have hrd := readK_any (w.heap.size + 1 + 1 + 1) w.heap.size (b.toNat : Int) t W (by omega) (by omega) (by omega) hT hV (by have := hl; simp at this; omega)
        replace hrd := Lib.hid hrd
        go_wp2_with (first
          | (go_at_call 47; refine (must_true _).mono ?_; rintro e w' ⟨rfl, rfl⟩)
          | fail)
        refine hrd.out.mono ?_
        rintro e W2 ⟨hbu, hR⟩
        have hMl := hM.lt
        have hEl := hE.lt
        have hM2 : Boxed W2 (w.heap.size + 1) 3 (.int .i64 0) := (hbu.block _ hMl (by omega) (by omega)).trans hM
        have hE2 : Boxed W2 (w.heap.size + 1 + 1) 25 (.int .i64 0) := (hbu.block _ hEl (by omega) (by omega)).trans hE
        have hb2 := hb0.trans (hbu.below (base := w.heap.size) (by omega) (by omega) (by have := hb0.size; omega))
        clear hrd hkc hkb hM hE hV hT hb0
        cases hrr : readR (b.toNat : Int) t with
        | none =>
          rw [hrr] at hR
          obtain ⟨rfl, i', u', s', hV2⟩ := hR
          have hNo : readV (b :: t) = none := by rw [readV_cons, if_neg hk4, hrr]; rfl
          go_wp2
          refine leaves_cons (f := 53) (args := #[.pointer (some ⟨w.heap.size + 1 + 1, 0, none⟩), .func (.func 54) #[] #[.pointer (some ⟨w.heap.size, 0, none⟩), .pointer (some ⟨w.heap.size + 1, 0, none⟩)]]) (by simp) (by simp [go_sem]) ?_
          refine (caught_panic _ _ _ _ _ _ _ _ _ _ hV2 hM2 hE2 (by omega) (by omega) (by omega)).mono ?_
          rintro e u' w'' ⟨rfl, rfl, hV9, hM9, hE9, hb9⟩
          have hfin := hb2.trans (hb9 w.heap.size (by omega) (by omega) (by omega))
          have hc9 := hV9.cells
          have hm9 := hM9.cell
          have he9 := hE9.cell
          have hone : oneV (b :: t) = (zeroV, 0, 150) := by unfold oneV; rw [hNo]
          simp [Leaves, settle, results, Tryd.f25, go_sem, hc9, hm9, he9]
          refine ⟨?_, hfin⟩
          rw [hone]
          rfl
        | some r =>
          obtain ⟨i', u', s', n⟩ := r
          rw [hrr] at hR
          obtain ⟨rfl, hT2, hV2⟩ := hR
          have hYes : oneV (b :: t) = (⟨(b.toNat : Int), i', u', s'⟩, 1 + n, 0) := by unfold oneV; rw [readV_cons, if_neg hk4, hrr]; rfl
          have hnl := readR_le hrr
          replace hYes := Lib.hid hYes
          clear hrr
          have hsz1 : (strL (b :: t)).size = t.length + 1 := strL_size _
          have hsz2 : (strL (t.drop n)).size = t.length - n := by rw [strL_size]; simp
          go_wp2
          refine wp_region_noPanic ?_
          refine wp_region_held_drew (S := fun w' => (w'.cell? ⟨w.heap.size, 0, none⟩ = some (.int .i64 (b.toNat : Int)) ∧ w'.cell? ⟨w.heap.size, 1, none⟩ = some (.int .i64 i') ∧ w'.cell? ⟨w.heap.size, 2, none⟩ = some (.int .u64 u') ∧ w'.cell? ⟨w.heap.size, 3, none⟩ = some (.string (strL s'))) ∧ w'.cell? ⟨w.heap.size + 1 + 1 + 1, 0, none⟩ = some (.string (strL (t.drop n)))) (by kernel_rfl) ⟨hV2.cells, hT2.cells.1⟩ (fun hHeld => ?_)
          refine wpAnyH_takeL (i := 0) (v := ?vhy20) rfl (by kernel_rfl) (by kernel_rfl) (by kernel_rfl) (fun _ _ _ h => h) (Or.inl ⟨by rfl, ?hy20⟩) (by assumption) ?rhy20
          case hy20 => ((intro w hSw; (try dsimp only at hSw); go_simp); try with_reducible rfl)
          try simp only [Act.put, List.setIfInBounds_toArray, List.set_cons_zero, List.set_cons_succ]
          refine wpAnyH_takeL (i := 1) (v := ?vhy21) rfl (by kernel_rfl) (by kernel_rfl) (by kernel_rfl) (fun _ _ _ h => h) (Or.inl ⟨by rfl, ?hy21⟩) (by assumption) ?rhy21
          case hy21 => ((intro w hSw; (try dsimp only at hSw); go_simp); try with_reducible rfl)
          try simp only [Act.put, List.setIfInBounds_toArray, List.set_cons_zero, List.set_cons_succ]
          refine wpAnyH_takeL (i := 2) (v := ?vhy22) rfl (by kernel_rfl) (by kernel_rfl) (by kernel_rfl) (fun _ _ _ h => h) (Or.inl ⟨by rfl, ?hy22⟩) (by assumption) ?rhy22
          case hy22 => ((intro w hSw; (try dsimp only at hSw); go_simp); try with_reducible rfl)
          try simp only [Act.put, List.setIfInBounds_toArray, List.set_cons_zero, List.set_cons_succ]
          refine wpAnyH_takeL (i := 3) (v := ?vhy23) rfl (by kernel_rfl) (by kernel_rfl) (by kernel_rfl) (fun _ _ _ h => h) (Or.inl ⟨by rfl, ?hy23⟩) (by assumption) ?rhy23
          case hy23 => ((intro w hSw; (try dsimp only at hSw); go_simp); try with_reducible rfl)
          try simp only [Act.put, List.setIfInBounds_toArray, List.set_cons_zero, List.set_cons_succ]
          refine wpAnyH_takeL (i := 4) (v := ?vhy24) rfl (by kernel_rfl) (by kernel_rfl) (by kernel_rfl) (fun _ _ _ h => h) (Or.inl ⟨by rfl, ?hy24⟩) (by assumption) ?rhy24
          case hy24 => ((intro w hSw; (try dsimp only at hSw); go_simp); try with_reducible rfl)
          try simp only [Act.put, List.setIfInBounds_toArray, List.set_cons_zero, List.set_cons_succ]
          refine wpAnyH_takeL (i := 5) (v := ?vhy25) rfl (by kernel_rfl) (by kernel_rfl) (by kernel_rfl) (fun _ _ _ h => h) (Or.inl ⟨by rfl, ?hy25⟩) (by assumption) ?rhy25
          case hy25 => ((intro w hSw; (try dsimp only at hSw); go_simp); try with_reducible rfl)
          try simp only [Act.put, List.setIfInBounds_toArray, List.set_cons_zero, List.set_cons_succ]
          refine wpAnyH_takeL (i := 6) (v := ?vhy26) rfl (by kernel_rfl) (by kernel_rfl) (by kernel_rfl) (fun _ _ _ h => h) (Or.inl ⟨by rfl, ?hy26⟩) (by assumption) ?rhy26
          case hy26 => ((intro w hSw; (try dsimp only at hSw); go_simp); try with_reducible rfl)
          try simp only [Act.put, List.setIfInBounds_toArray, List.set_cons_zero, List.set_cons_succ]
          refine wpAnyH_takeL (i := 7) (v := ?vhy27) rfl (by kernel_rfl) (by kernel_rfl) (by kernel_rfl) (fun _ _ _ h => h) (Or.inl ⟨by rfl, ?hy27⟩) (by assumption) ?rhy27
          case hy27 => ((intro w hSw; (try dsimp only at hSw); go_simp); try with_reducible rfl)
          try simp only [Act.put, List.setIfInBounds_toArray, List.set_cons_zero, List.set_cons_succ]
          refine wpAnyH_takeL (i := 8) (v := ?vhy28) rfl (by kernel_rfl) (by kernel_rfl) (by kernel_rfl) (fun _ _ _ h => h) (Or.inl ⟨by rfl, ?hy28⟩) (by assumption) ?rhy28
          case hy28 => ((intro w hSw; (try dsimp only at hSw); go_simp); try with_reducible rfl)
          try simp only [Act.put, List.setIfInBounds_toArray, List.set_cons_zero, List.set_cons_succ]
          have hwr : IntKind.i64.wrap ((t.length : Int) + 1 - ((t.length - n : Nat) : Int)) = 1 + (n : Int) := by
            rw [IntKind.wrap_i64]
            have := hl
            simp [maxLen] at this
            omega
          simp only [hwr]
          have hVd := hV2
          have hcv := hVd.cells
          have hf0 := hVd.frozen 0
          have hf1 := hVd.frozen 1
          have hf2 := hVd.frozen 2
          have hf3 := hVd.frozen 3
          refine wpAnyH_ready (rs := [9]) (by kernel_rfl) (by simp) ?_
          refine AllReadyH.consL (i := 9) rfl (fun K hK => ?_) AllReadyH.nil
          go_simp
          have hV3 := (((hVd.setK (b.toNat : Int)).setI i').setU u').setS (strL s')
          have hT3 := (((hT2.other (B' := w.heap.size) (o := 0) (by omega) (.int .i64 (b.toNat : Int))).other (B' := w.heap.size) (o := 1) (by omega) (.int .i64 i')).other (B' := w.heap.size) (o := 2) (by omega) (.int .u64 u')).other (B' := w.heap.size) (o := 3) (by omega) (.string (strL s'))
          have hM3 := (((hM2.kept (grownBy_setCell_at W2 ⟨w.heap.size, 0, none⟩ (.int .i64 (b.toNat : Int))) (by simp)).kept (grownBy_setCell_at _ ⟨w.heap.size, 1, none⟩ (.int .i64 i')) (by simp)).kept (grownBy_setCell_at _ ⟨w.heap.size, 2, none⟩ (.int .u64 u')) (by simp)).kept (grownBy_setCell_at _ ⟨w.heap.size, 3, none⟩ (.string (strL s'))) (by simp)
          have hE3 := (((hE2.kept (grownBy_setCell_at W2 ⟨w.heap.size, 0, none⟩ (.int .i64 (b.toNat : Int))) (by simp; omega)).kept (grownBy_setCell_at _ ⟨w.heap.size, 1, none⟩ (.int .i64 i')) (by simp; omega)).kept (grownBy_setCell_at _ ⟨w.heap.size, 2, none⟩ (.int .u64 u')) (by simp; omega)).kept (grownBy_setCell_at _ ⟨w.heap.size, 3, none⟩ (.string (strL s'))) (by simp; omega)
          have hb3 := (((hb2.setCell (p := ⟨w.heap.size, 0, none⟩) (Nat.le_refl _) (.int .i64 (b.toNat : Int))).setCell (p := ⟨w.heap.size, 1, none⟩) (Nat.le_refl _) (.int .i64 i')).setCell (p := ⟨w.heap.size, 2, none⟩) (Nat.le_refl _) (.int .u64 u')).setCell (p := ⟨w.heap.size, 3, none⟩) (Nat.le_refl _) (.string (strL s'))
          replace hV3 := hV3.drew
          replace hT3 := hT3.drew
          replace hM3 := box_drew hM3
          replace hE3 := box_drew hE3
          replace hb3 := hb3.drew
          refine hK.out _ _ ⟨hV3.cells, hT3.cells.1⟩ (fun hHeld => ?_)
          clear hK hf0 hf1 hf2 hf3 hVd hHeld hcv
          try simp only [Act.put, List.setIfInBounds_toArray, List.set_cons_zero, List.set_cons_succ]
          generalize ((((W2.setCell ⟨w.heap.size, 0, none⟩ (.int .i64 (b.toNat : Int))).setCell ⟨w.heap.size, 1, none⟩ (.int .i64 i')).setCell ⟨w.heap.size, 2, none⟩ (.int .u64 u')).setCell ⟨w.heap.size, 3, none⟩ (.string (strL s'))).drew = W3 at *
          have hcM := hM3.cell
          have hfM := hM3.frozen
          refine wpAnyH_ready (rs := [10]) (by kernel_rfl) (by simp) ?_
          refine AllReadyH.consL (i := 10) rfl (fun K hK => ?_) AllReadyH.nil
          go_simp
          have hV4 := hV3.other (B' := w.heap.size + 1) (o := 0) (by omega) (.int .i64 (1 + (n : Int)))
          have hT4 := hT3.other (B' := w.heap.size + 1) (o := 0) (by omega) (.int .i64 (1 + (n : Int)))
          have hM4 := hM3.set (.int .i64 (1 + (n : Int)))
          have hE4 := box_other (B' := w.heap.size + 1) (v' := .int .i64 (1 + (n : Int))) hE3 (by omega)
          refine hK.out _ _ ⟨hV4.cells, hT4.cells.1⟩ (fun hHeld => ?_)
          clear hK
          try simp only [Act.put, List.setIfInBounds_toArray, List.set_cons_zero, List.set_cons_succ]
          have hcE := hE4.cell
          have hfE := hE4.frozen
          refine wpAnyH_ready (rs := [11]) (by kernel_rfl) (by simp) ?_
          refine AllReadyH.consL (i := 11) rfl (fun K hK => ?_) AllReadyH.nil
          go_simp
          have hV5 := hV4.other (B' := w.heap.size + 1 + 1) (o := 0) (by omega) (.int .i64 0)
          have hT5 := hT4.other (B' := w.heap.size + 1 + 1) (o := 0) (by omega) (.int .i64 0)
          have hM5 := box_other (B' := w.heap.size + 1 + 1) (v' := .int .i64 0) hM4 (by omega)
          have hE5 := hE4.set (.int .i64 0)
          refine hK.out _ _ ⟨hV5.cells, hT5.cells.1⟩ (fun hHeld => ?_)
          clear hK
          try simp only [Act.put, List.setIfInBounds_toArray, List.set_cons_zero, List.set_cons_succ]
          refine wpAnyH_done (by kernel_rfl) ?_ _
          refine NoPanic.normal ?_
          have hfin := (hb3.setCell (p := ⟨w.heap.size + 1, 0, none⟩) (by simp) (.int .i64 (1 + (n : Int)))).setCell (p := ⟨w.heap.size + 1 + 1, 0, none⟩) (by simp; omega) (.int .i64 0)
          have hc5 := hV5.cells
          have hm5 := hM5.cell
          have he5 := hE5.cell
          generalize ((W3.setCell ⟨w.heap.size + 1, 0, none⟩ (.int .i64 (1 + (n : Int)))).setCell ⟨w.heap.size + 1 + 1, 0, none⟩ (.int .i64 0)) = W5 at *
          go_wp2
          refine leaves_cons (f := 53) (args := #[.pointer (some ⟨w.heap.size + 1 + 1, 0, none⟩), .func (.func 54) #[] #[.pointer (some ⟨w.heap.size, 0, none⟩), .pointer (some ⟨w.heap.size + 1, 0, none⟩)]]) (by simp) (by simp [go_sem]) ?_
          refine (caught_idle _ _ _).mono ?_
          rintro e u' w'' ⟨rfl, rfl, rfl⟩
          simp [Leaves, settle, results, Tryd.f25, go_sem, hc5, hm5, he5]
          refine ⟨?_, hfin⟩
          rw [hYes.out]
          rfl
      · go_simp
        have hs2 := (Below.refl w0.heap.size w0).alloc (Nat.le_refl _) (.cells #[.nilFunc, .nilFunc] 57)
        have hkn : KKBox (w0.alloc (.cells #[.nilFunc, .nilFunc] 57)) w0.heap.size .nilFunc .nilFunc := World.alloc_heap_new w0 _
        have hln : w0.heap.size < (w0.alloc (.cells #[.nilFunc, .nilFunc] 57)).heap.size := by simp
        refine hK.out _ _ (VBox.cells (W := (w0.alloc (.cells #[.nilFunc, .nilFunc] 57)).drew) (hV.below hs2.drew hlt)).1 (fun hHeld => ?_)
        clear hK
        try simp only [Act.put, List.setIfInBounds_toArray, List.set_cons_zero, List.set_cons_succ]
        refine wpAnyH_ready (rs := [0]) (by kernel_rfl) (by simp) ?_
        refine AllReadyH.consL (i := 0) rfl (fun K hK => ?_) AllReadyH.nil
        go_simp
        refine (kkinds_any _).mono ?_
        rintro e w1 ⟨r, rfl, hm, hb1, hr1⟩
        replace hr1 : w0.heap.size < r := Nat.lt_of_lt_of_le hln hr1
        replace hkn : KKBox w1 w0.heap.size .nilFunc .nilFunc := (hb1.block _ hln).trans hkn
        replace hb1 := gr hs2.drew hb1
        refine hK.out _ _ (hV.below hb1 hlt).cells.1 (fun hHeld => ?_)
        clear hK hHeld
        refine wpAnyH_more (S' := fun w' => IMap w' r .i64 KKinds ∧ Below w0.heap.size w0 w') (fun w' h => (hV.below h.2 hlt).cells.1) ?_
        have hHeld : IMap w1 r .i64 KKinds ∧ Below w0.heap.size w0 w1 := ⟨hm, hb1⟩
        try simp only [Act.put, List.setIfInBounds_toArray, List.set_cons_zero, List.set_cons_succ]
        refine wpAnyH_takeL (i := 3) (v := ?vhy29) rfl (by kernel_rfl) (by kernel_rfl) (by kernel_rfl) (fun _ _ _ h => h) (Or.inl ⟨by rfl, ?hy29⟩) (by assumption) ?rhy29
        case hy29 => ((intro w hSw; (try dsimp only at hSw); go_simp); try with_reducible rfl)
        try simp only [Act.put, List.setIfInBounds_toArray, List.set_cons_zero, List.set_cons_succ]
        refine wpAnyH_takeL (i := 4) (v := ?vhy30) rfl (by kernel_rfl) (by kernel_rfl) (by kernel_rfl) (fun _ _ _ h => h) (Or.inl ⟨by rfl, ?hy30⟩) (by assumption) ?rhy30
        case hy30 => ((intro w hSw; (try dsimp only at hSw); go_simp); try with_reducible rfl)
        try simp only [Act.put, List.setIfInBounds_toArray, List.set_cons_zero, List.set_cons_succ]
        refine wpAnyH_takeL (i := 5) (v := ?vhy31) rfl (by kernel_rfl) (by kernel_rfl) (by kernel_rfl) (fun _ _ _ h => h) (Or.inl ⟨by rfl, ?hy31⟩) (by assumption) ?rhy31
        case hy31 => ((intro w hSw; (try dsimp only at hSw); go_simp); try with_reducible rfl)
        try simp only [Act.put, List.setIfInBounds_toArray, List.set_cons_zero, List.set_cons_succ]
        refine wpAnyH_takeL (i := 6) (v := ?vhy32) rfl (by kernel_rfl) (by kernel_rfl) (by kernel_rfl) (fun _ _ _ h => h) (Or.inl ⟨by rfl, ?hy32⟩) (by assumption) ?rhy32
        case hy32 => ((intro w hSw; (try dsimp only at hSw); go_simp); try with_reducible rfl)
        try simp only [Act.put, List.setIfInBounds_toArray, List.set_cons_zero, List.set_cons_succ]
        have hkc := hkn.cells
        refine wpAnyH_ready (rs := [8]) (by kernel_rfl) (by simp) ?_
        refine AllReadyH.consL (i := 8) rfl (fun K hK => ?_) AllReadyH.nil
        go_simp
        have hkb := hkn.set (.func (.func (layF (b.toNat : Int))) #[] #[]) (.func (.func (readF (b.toNat : Int))) #[] #[])
        have hg1' := (grownBy_setCell_at w1 ⟨w0.heap.size, 0, none⟩ (.func (.func (layF (b.toNat : Int))) #[] #[]))
        have hg2' := (grownBy_setCell_at (w1.setCell ⟨w0.heap.size, 0, none⟩ (.func (.func (layF (b.toNat : Int))) #[] #[])) ⟨w0.heap.size, 1, none⟩ (.func (.func (readF (b.toNat : Int))) #[] #[]))
        have hm2 := (hm.kept hg1' (by simp; omega)).kept hg2' (by simp; omega)
        have hb2 := (hb1.setCell (p := ⟨w0.heap.size, 0, none⟩) (Nat.le_refl _) (.func (.func (layF (b.toNat : Int))) #[] #[])).setCell (p := ⟨w0.heap.size, 1, none⟩) (Nat.le_refl _) (.func (.func (readF (b.toNat : Int))) #[] #[])
        refine hK.out _ _ ⟨hm2, hb2⟩ (fun hHeld => ?_)
        clear hK hg1' hg2' hm2 hkc hkn
        replace hb1 := hb2
        clear hb2
        generalize ((w1.setCell ⟨w0.heap.size, 0, none⟩ (.func (.func (layF (b.toNat : Int))) #[] #[])).setCell ⟨w0.heap.size, 1, none⟩ (.func (.func (readF (b.toNat : Int))) #[] #[])) = W at *
        try simp only [Act.put, List.setIfInBounds_toArray, List.set_cons_zero, List.set_cons_succ]
        refine wpAnyH_takeL (i := 9) (v := ?vhy33) rfl (by kernel_rfl) (by kernel_rfl) (by kernel_rfl) (fun _ _ _ h => h) (Or.inl ⟨by rfl, ?hy33⟩) (by assumption) ?rhy33
        case hy33 => ((intro w hSw; (try dsimp only at hSw); go_simp); try with_reducible rfl)
        try simp only [Act.put, List.setIfInBounds_toArray, List.set_cons_zero, List.set_cons_succ]
        refine wpAnyH_done (by kernel_rfl) ?_ _
        refine NoPanic.normal ?_
        clear hHeld hm hlk
        replace hV := hV.below hb1 hlt
        replace hM := box_below hM hb1 hM.lt
        replace hE := box_below hE hb1 hE.lt
        replace hT := hT.below hb1
        replace hb0 := gr hb0 hb1
        clear hb1 hsf hsg
        have hkc := hkb.cells.1
        have hent := readF_enters (b.toNat : Int)
        have hrd := readK_any (w.heap.size + 1 + 1 + 1) w.heap.size (b.toNat : Int) t W (by omega) (by omega) (by omega) hT hV (by have := hl; simp at this; omega)
        replace hrd := Lib.hid hrd
        go_wp2_with (first
          | (go_at_call 47; refine (must_true _).mono ?_; rintro e w' ⟨rfl, rfl⟩)
          | fail)
        refine hrd.out.mono ?_
        rintro e W2 ⟨hbu, hR⟩
        have hMl := hM.lt
        have hEl := hE.lt
        have hM2 : Boxed W2 (w.heap.size + 1) 3 (.int .i64 0) := (hbu.block _ hMl (by omega) (by omega)).trans hM
        have hE2 : Boxed W2 (w.heap.size + 1 + 1) 25 (.int .i64 0) := (hbu.block _ hEl (by omega) (by omega)).trans hE
        have hb2 := hb0.trans (hbu.below (base := w.heap.size) (by omega) (by omega) (by have := hb0.size; omega))
        clear hrd hkc hkb hM hE hV hT hb0
        cases hrr : readR (b.toNat : Int) t with
        | none =>
          rw [hrr] at hR
          obtain ⟨rfl, i', u', s', hV2⟩ := hR
          have hNo : readV (b :: t) = none := by rw [readV_cons, if_neg hk4, hrr]; rfl
          go_wp2
          refine leaves_cons (f := 53) (args := #[.pointer (some ⟨w.heap.size + 1 + 1, 0, none⟩), .func (.func 54) #[] #[.pointer (some ⟨w.heap.size, 0, none⟩), .pointer (some ⟨w.heap.size + 1, 0, none⟩)]]) (by simp) (by simp [go_sem]) ?_
          refine (caught_panic _ _ _ _ _ _ _ _ _ _ hV2 hM2 hE2 (by omega) (by omega) (by omega)).mono ?_
          rintro e u' w'' ⟨rfl, rfl, hV9, hM9, hE9, hb9⟩
          have hfin := hb2.trans (hb9 w.heap.size (by omega) (by omega) (by omega))
          have hc9 := hV9.cells
          have hm9 := hM9.cell
          have he9 := hE9.cell
          have hone : oneV (b :: t) = (zeroV, 0, 150) := by unfold oneV; rw [hNo]
          simp [Leaves, settle, results, Tryd.f25, go_sem, hc9, hm9, he9]
          refine ⟨?_, hfin⟩
          rw [hone]
          rfl
        | some r =>
          obtain ⟨i', u', s', n⟩ := r
          rw [hrr] at hR
          obtain ⟨rfl, hT2, hV2⟩ := hR
          have hYes : oneV (b :: t) = (⟨(b.toNat : Int), i', u', s'⟩, 1 + n, 0) := by unfold oneV; rw [readV_cons, if_neg hk4, hrr]; rfl
          have hnl := readR_le hrr
          replace hYes := Lib.hid hYes
          clear hrr
          have hsz1 : (strL (b :: t)).size = t.length + 1 := strL_size _
          have hsz2 : (strL (t.drop n)).size = t.length - n := by rw [strL_size]; simp
          go_wp2
          refine wp_region_noPanic ?_
          refine wp_region_held_drew (S := fun w' => (w'.cell? ⟨w.heap.size, 0, none⟩ = some (.int .i64 (b.toNat : Int)) ∧ w'.cell? ⟨w.heap.size, 1, none⟩ = some (.int .i64 i') ∧ w'.cell? ⟨w.heap.size, 2, none⟩ = some (.int .u64 u') ∧ w'.cell? ⟨w.heap.size, 3, none⟩ = some (.string (strL s'))) ∧ w'.cell? ⟨w.heap.size + 1 + 1 + 1, 0, none⟩ = some (.string (strL (t.drop n)))) (by kernel_rfl) ⟨hV2.cells, hT2.cells.1⟩ (fun hHeld => ?_)
          refine wpAnyH_takeL (i := 0) (v := ?vhy34) rfl (by kernel_rfl) (by kernel_rfl) (by kernel_rfl) (fun _ _ _ h => h) (Or.inl ⟨by rfl, ?hy34⟩) (by assumption) ?rhy34
          case hy34 => ((intro w hSw; (try dsimp only at hSw); go_simp); try with_reducible rfl)
          try simp only [Act.put, List.setIfInBounds_toArray, List.set_cons_zero, List.set_cons_succ]
          refine wpAnyH_takeL (i := 1) (v := ?vhy35) rfl (by kernel_rfl) (by kernel_rfl) (by kernel_rfl) (fun _ _ _ h => h) (Or.inl ⟨by rfl, ?hy35⟩) (by assumption) ?rhy35
          case hy35 => ((intro w hSw; (try dsimp only at hSw); go_simp); try with_reducible rfl)
          try simp only [Act.put, List.setIfInBounds_toArray, List.set_cons_zero, List.set_cons_succ]
          refine wpAnyH_takeL (i := 2) (v := ?vhy36) rfl (by kernel_rfl) (by kernel_rfl) (by kernel_rfl) (fun _ _ _ h => h) (Or.inl ⟨by rfl, ?hy36⟩) (by assumption) ?rhy36
          case hy36 => ((intro w hSw; (try dsimp only at hSw); go_simp); try with_reducible rfl)
          try simp only [Act.put, List.setIfInBounds_toArray, List.set_cons_zero, List.set_cons_succ]
          refine wpAnyH_takeL (i := 3) (v := ?vhy37) rfl (by kernel_rfl) (by kernel_rfl) (by kernel_rfl) (fun _ _ _ h => h) (Or.inl ⟨by rfl, ?hy37⟩) (by assumption) ?rhy37
          case hy37 => ((intro w hSw; (try dsimp only at hSw); go_simp); try with_reducible rfl)
          try simp only [Act.put, List.setIfInBounds_toArray, List.set_cons_zero, List.set_cons_succ]
          refine wpAnyH_takeL (i := 4) (v := ?vhy38) rfl (by kernel_rfl) (by kernel_rfl) (by kernel_rfl) (fun _ _ _ h => h) (Or.inl ⟨by rfl, ?hy38⟩) (by assumption) ?rhy38
          case hy38 => ((intro w hSw; (try dsimp only at hSw); go_simp); try with_reducible rfl)
          try simp only [Act.put, List.setIfInBounds_toArray, List.set_cons_zero, List.set_cons_succ]
          refine wpAnyH_takeL (i := 5) (v := ?vhy39) rfl (by kernel_rfl) (by kernel_rfl) (by kernel_rfl) (fun _ _ _ h => h) (Or.inl ⟨by rfl, ?hy39⟩) (by assumption) ?rhy39
          case hy39 => ((intro w hSw; (try dsimp only at hSw); go_simp); try with_reducible rfl)
          try simp only [Act.put, List.setIfInBounds_toArray, List.set_cons_zero, List.set_cons_succ]
          refine wpAnyH_takeL (i := 6) (v := ?vhy40) rfl (by kernel_rfl) (by kernel_rfl) (by kernel_rfl) (fun _ _ _ h => h) (Or.inl ⟨by rfl, ?hy40⟩) (by assumption) ?rhy40
          case hy40 => ((intro w hSw; (try dsimp only at hSw); go_simp); try with_reducible rfl)
          try simp only [Act.put, List.setIfInBounds_toArray, List.set_cons_zero, List.set_cons_succ]
          refine wpAnyH_takeL (i := 7) (v := ?vhy41) rfl (by kernel_rfl) (by kernel_rfl) (by kernel_rfl) (fun _ _ _ h => h) (Or.inl ⟨by rfl, ?hy41⟩) (by assumption) ?rhy41
          case hy41 => ((intro w hSw; (try dsimp only at hSw); go_simp); try with_reducible rfl)
          try simp only [Act.put, List.setIfInBounds_toArray, List.set_cons_zero, List.set_cons_succ]
          refine wpAnyH_takeL (i := 8) (v := ?vhy42) rfl (by kernel_rfl) (by kernel_rfl) (by kernel_rfl) (fun _ _ _ h => h) (Or.inl ⟨by rfl, ?hy42⟩) (by assumption) ?rhy42
          case hy42 => ((intro w hSw; (try dsimp only at hSw); go_simp); try with_reducible rfl)
          try simp only [Act.put, List.setIfInBounds_toArray, List.set_cons_zero, List.set_cons_succ]
          have hwr : IntKind.i64.wrap ((t.length : Int) + 1 - ((t.length - n : Nat) : Int)) = 1 + (n : Int) := by
            rw [IntKind.wrap_i64]
            have := hl
            simp [maxLen] at this
            omega
          simp only [hwr]
          have hVd := hV2
          have hcv := hVd.cells
          have hf0 := hVd.frozen 0
          have hf1 := hVd.frozen 1
          have hf2 := hVd.frozen 2
          have hf3 := hVd.frozen 3
          refine wpAnyH_ready (rs := [9]) (by kernel_rfl) (by simp) ?_
          refine AllReadyH.consL (i := 9) rfl (fun K hK => ?_) AllReadyH.nil
          go_simp
          have hV3 := (((hVd.setK (b.toNat : Int)).setI i').setU u').setS (strL s')
          have hT3 := (((hT2.other (B' := w.heap.size) (o := 0) (by omega) (.int .i64 (b.toNat : Int))).other (B' := w.heap.size) (o := 1) (by omega) (.int .i64 i')).other (B' := w.heap.size) (o := 2) (by omega) (.int .u64 u')).other (B' := w.heap.size) (o := 3) (by omega) (.string (strL s'))
          have hM3 := (((hM2.kept (grownBy_setCell_at W2 ⟨w.heap.size, 0, none⟩ (.int .i64 (b.toNat : Int))) (by simp)).kept (grownBy_setCell_at _ ⟨w.heap.size, 1, none⟩ (.int .i64 i')) (by simp)).kept (grownBy_setCell_at _ ⟨w.heap.size, 2, none⟩ (.int .u64 u')) (by simp)).kept (grownBy_setCell_at _ ⟨w.heap.size, 3, none⟩ (.string (strL s'))) (by simp)
          have hE3 := (((hE2.kept (grownBy_setCell_at W2 ⟨w.heap.size, 0, none⟩ (.int .i64 (b.toNat : Int))) (by simp; omega)).kept (grownBy_setCell_at _ ⟨w.heap.size, 1, none⟩ (.int .i64 i')) (by simp; omega)).kept (grownBy_setCell_at _ ⟨w.heap.size, 2, none⟩ (.int .u64 u')) (by simp; omega)).kept (grownBy_setCell_at _ ⟨w.heap.size, 3, none⟩ (.string (strL s'))) (by simp; omega)
          have hb3 := (((hb2.setCell (p := ⟨w.heap.size, 0, none⟩) (Nat.le_refl _) (.int .i64 (b.toNat : Int))).setCell (p := ⟨w.heap.size, 1, none⟩) (Nat.le_refl _) (.int .i64 i')).setCell (p := ⟨w.heap.size, 2, none⟩) (Nat.le_refl _) (.int .u64 u')).setCell (p := ⟨w.heap.size, 3, none⟩) (Nat.le_refl _) (.string (strL s'))
          replace hV3 := hV3.drew
          replace hT3 := hT3.drew
          replace hM3 := box_drew hM3
          replace hE3 := box_drew hE3
          replace hb3 := hb3.drew
          refine hK.out _ _ ⟨hV3.cells, hT3.cells.1⟩ (fun hHeld => ?_)
          clear hK hf0 hf1 hf2 hf3 hVd hHeld hcv
          try simp only [Act.put, List.setIfInBounds_toArray, List.set_cons_zero, List.set_cons_succ]
          generalize ((((W2.setCell ⟨w.heap.size, 0, none⟩ (.int .i64 (b.toNat : Int))).setCell ⟨w.heap.size, 1, none⟩ (.int .i64 i')).setCell ⟨w.heap.size, 2, none⟩ (.int .u64 u')).setCell ⟨w.heap.size, 3, none⟩ (.string (strL s'))).drew = W3 at *
          have hcM := hM3.cell
          have hfM := hM3.frozen
          refine wpAnyH_ready (rs := [10]) (by kernel_rfl) (by simp) ?_
          refine AllReadyH.consL (i := 10) rfl (fun K hK => ?_) AllReadyH.nil
          go_simp
          have hV4 := hV3.other (B' := w.heap.size + 1) (o := 0) (by omega) (.int .i64 (1 + (n : Int)))
          have hT4 := hT3.other (B' := w.heap.size + 1) (o := 0) (by omega) (.int .i64 (1 + (n : Int)))
          have hM4 := hM3.set (.int .i64 (1 + (n : Int)))
          have hE4 := box_other (B' := w.heap.size + 1) (v' := .int .i64 (1 + (n : Int))) hE3 (by omega)
          refine hK.out _ _ ⟨hV4.cells, hT4.cells.1⟩ (fun hHeld => ?_)
          clear hK
          try simp only [Act.put, List.setIfInBounds_toArray, List.set_cons_zero, List.set_cons_succ]
          have hcE := hE4.cell
          have hfE := hE4.frozen
          refine wpAnyH_ready (rs := [11]) (by kernel_rfl) (by simp) ?_
          refine AllReadyH.consL (i := 11) rfl (fun K hK => ?_) AllReadyH.nil
          go_simp
          have hV5 := hV4.other (B' := w.heap.size + 1 + 1) (o := 0) (by omega) (.int .i64 0)
          have hT5 := hT4.other (B' := w.heap.size + 1 + 1) (o := 0) (by omega) (.int .i64 0)
          have hM5 := box_other (B' := w.heap.size + 1 + 1) (v' := .int .i64 0) hM4 (by omega)
          have hE5 := hE4.set (.int .i64 0)
          refine hK.out _ _ ⟨hV5.cells, hT5.cells.1⟩ (fun hHeld => ?_)
          clear hK
          try simp only [Act.put, List.setIfInBounds_toArray, List.set_cons_zero, List.set_cons_succ]
          refine wpAnyH_done (by kernel_rfl) ?_ _
          refine NoPanic.normal ?_
          have hfin := (hb3.setCell (p := ⟨w.heap.size + 1, 0, none⟩) (by simp) (.int .i64 (1 + (n : Int)))).setCell (p := ⟨w.heap.size + 1 + 1, 0, none⟩) (by simp; omega) (.int .i64 0)
          have hc5 := hV5.cells
          have hm5 := hM5.cell
          have he5 := hE5.cell
          generalize ((W3.setCell ⟨w.heap.size + 1, 0, none⟩ (.int .i64 (1 + (n : Int)))).setCell ⟨w.heap.size + 1 + 1, 0, none⟩ (.int .i64 0)) = W5 at *
          go_wp2
          refine leaves_cons (f := 53) (args := #[.pointer (some ⟨w.heap.size + 1 + 1, 0, none⟩), .func (.func 54) #[] #[.pointer (some ⟨w.heap.size, 0, none⟩), .pointer (some ⟨w.heap.size + 1, 0, none⟩)]]) (by simp) (by simp [go_sem]) ?_
          refine (caught_idle _ _ _).mono ?_
          rintro e u' w'' ⟨rfl, rfl, rfl⟩
          simp [Leaves, settle, results, Tryd.f25, go_sem, hc5, hm5, he5]
          refine ⟨?_, hfin⟩
          rw [hYes.out]
          rfl
end Go.Proofs.YtdgmhegcoogokaaDoor
