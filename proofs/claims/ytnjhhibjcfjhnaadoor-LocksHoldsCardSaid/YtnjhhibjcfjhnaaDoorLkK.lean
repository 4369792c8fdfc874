/- Locks: the closure of Tick; the library's DeleteFunc with it. -/
import Derived.Test.YtnjhhibjcfjhnaaDoorLkJ
namespace Go.Proofs.YtnjhhibjcfjhnaaDoor
open Go.RowKit
set_option linter.unusedVariables false

/-- Whose ask goes. -/
def lateK (now : Int) (x : Ak) : Bool := !x.held && decide (x.since ≤ now - x.wait)
def Ak.Wf (x : Ak) : Prop := 0 ≤ x.since ∧ x.since ≤ 1000000 ∧ 0 ≤ x.wait ∧ x.wait ≤ 1000000
/-- What Tick has of its own: the boxes of l and of those that are over, and their row. -/
structure TJ (w0 W : World) (H B Bl Bo : Nat) (hs : List Int) : Prop where
  bel : Below H w0 W
  lo : H ≤ Bo
  bl : W.heap[Bl]? = some (.cells #[.pointer (some ⟨B, 0, none⟩)] 25 (0, 0))
  ex : ∃ R d, Boxed W Bo 36 (.slice R hs.length d) ∧ Ov W H 3 1 R hs.length d (icells hs)
theorem TJ.more {w0 W W' : World} {H B Bl Bo : Nat} {hs : List Int} (h : TJ w0 W H B Bl Bo hs) (hb : Below W.heap.size W W') (hH : H ≤ W.heap.size) : TJ w0 W' H B Bl Bo hs := by
  obtain ⟨R, d, h1, h2⟩ := h.ex
  exact ⟨h.bel.trans (hb.mono hH), h.lo, (hb.block _ (Array.getElem?_eq_some_iff.1 h.bl).1).trans h.bl, R, d, box_in h1 hb, h2.below hb⟩
theorem TJ.size {w0 W : World} {H B Bl Bo : Nat} {hs : List Int} (h : TJ w0 W H B Bl Bo hs) : Bo < W.heap.size := by
  obtain ⟨R, d, h1, h2⟩ := h.ex
  exact h1.lt
/-- A write into a row of asks of Tick's own. -/
theorem TJ.row {w0 W W' : World} {H B Bl Bo g : Nat} {hs : List Int} {cs : Array Value} (h : TJ w0 W H B Bl Bo hs) (hg : W.grownBy W' (some g)) (ht : W.heap[g]? = some (.cells cs 74 (0, 0))) (hgH : H ≤ g) (hH : H ≤ W.heap.size) : TJ w0 W' H B Bl Bo hs := by
  obtain ⟨R, d, h1, h2⟩ := h.ex
  have key : ∀ {k : Nat} {cs' : Array Value} {e : TypeId}, W.heap[k]? = some (.cells cs' e (0, 0)) → e ≠ 74 → W'.heap[k]? = some (.cells cs' e (0, 0)) := fun {k cs' e} hk hne =>
    (hg.block k (Array.getElem?_eq_some_iff.1 hk).1 (fun q => by
      injection q with q
      subst q
      rw [ht] at hk
      injection hk with hk
      injection hk with _ hk
      exact hne hk.symm)).trans hk
  exact ⟨h.bel.trans ((Below.refl H W).grown hg hH (fun k e => by cases e; exact hgH)), h.lo, key h.bl (by decide), R, d, key h1 (by decide), h2.grown hg (fun b hb e => h2.ne ht (by decide) (by rw [hb, e]))⟩

set_option maxRecDepth 100000 in
set_option maxHeartbeats 4000000 in
theorem Tick1_any {w0 W : World} {H B Bl Bo : Nat} {hs : List Int} (x : Ak) (now : Int) (h : TJ w0 W H B Bl Bo hs) (hH : H ≤ W.heap.size) (hn : W.cell? ⟨B, 0, none⟩ = some (.int .i64 now)) (hw : x.Wf) (h0 : 0 ≤ now) (h1 : now ≤ 1000000) (hl : hs.length ≤ 100) :
    Calls Tryd.prog 38 #[.agg x.cells.toArray, .pointer (some ⟨Bl, 0, none⟩), .pointer (some ⟨Bo, 0, none⟩)] W fun e w' => e = .returned (.bool (lateK now x)) ∧ TJ w0 w' H B Bl Bo (if lateK now x then hs ++ [x.s] else hs) ∧
      (∀ A n c ys, Ov W H 74 6 A n c ys → Ov w' H 74 6 A n c ys) ∧ W.heap.size ≤ w'.heap.size := by
  obtain ⟨iS, hiS, hzS, hsS, hbS⟩ := info_parts info_I
  have hba : Below W.heap.size W (W.alloc (.cells x.cells.toArray 74)) := (Below.refl _ _).alloc (Nat.le_refl _) _
  have ha := h.more hba hH
  have hka := KA.new W x
  have hka := hka.cells
  have hnl := World.block_lt_of_cell? _ _ hn
  have hna := (hba.cell (p := ⟨B, 0, none⟩) hnl).trans hn
  have hbl : (W.alloc (.cells x.cells.toArray 74)).cell? ⟨Bl, 0, none⟩ = some (.pointer (some ⟨B, 0, none⟩)) := by
    have := ha.bl
    simp [World.cell?, this]
  have hz : H ≤ (W.alloc (.cells x.cells.toArray 74)).heap.size := by simp; omega
  have hrow : ∀ A n c ys, Ov W H 74 6 A n c ys → Ov (W.alloc (.cells x.cells.toArray 74)) H 74 6 A n c ys := fun A n c ys q => q.below hba
  have hsz : W.heap.size ≤ (W.alloc (.cells x.cells.toArray 74)).heap.size := by simp
  obtain ⟨w1, w2, w3, w4⟩ := hw
  obtain ⟨x0, x1, x2, x3, x4, x5, x6, x7, x8⟩ := x
  simp only [Ak.cells, KAc, lateK] at *
  replace hrow := Lib.hid hrow
  cases x4 with
  | true =>
    simp only [Bool.not_true, Bool.false_and, Bool.false_eq_true, if_false]
    go_enter Tryd.func38, Tryd.ntmps38
    go_wp2_with fail
    generalize (W.alloc (.cells #[.slice x6 x7 x8, .int .i64 x0, .int .i64 x1, .int .i64 x2, .bool x3, .bool true] 74)) = Wa at *
    refine wp_region_noPanic ?_
    refine wp_region_held_drew (S := fun w' => w'.cell? ⟨W.heap.size, 5, none⟩ = some (.bool true)) (by kernel_rfl) hka.2.2.2.2.2 (fun hHeld => ?_)
    refine wpAnyH_takeL (i := 0) (v := ?vhy1) rfl (by kernel_rfl) (by kernel_rfl) (by kernel_rfl) (fun _ _ _ h => h) (Or.inl ⟨by rfl, ?hy1⟩) (by assumption) ?rhy1
    case hy1 => ((intro w hSw; (try dsimp only at hSw); go_simp); try with_reducible rfl)
    try simp only [Act.put, List.setIfInBounds_toArray, List.set_cons_zero, List.set_cons_succ]
    refine wpAnyH_takeL (i := 1) (v := ?vhy2) rfl (by kernel_rfl) (by kernel_rfl) (by kernel_rfl) (fun _ _ _ h => h) (Or.inl ⟨by rfl, ?hy2⟩) (by assumption) ?rhy2
    case hy2 => ((intro w hSw; (try dsimp only at hSw); go_simp); try with_reducible rfl)
    try simp only [Act.put, List.setIfInBounds_toArray, List.set_cons_zero, List.set_cons_succ]
    refine wpAnyH_takeL (i := 2) (v := ?vhy3) rfl (by kernel_rfl) (by kernel_rfl) (by kernel_rfl) (fun _ _ _ h => h) (Or.inl ⟨by rfl, ?hy3⟩) (by assumption) ?rhy3
    case hy3 => ((intro w hSw; (try dsimp only at hSw); go_simp); try with_reducible rfl)
    try simp only [Act.put, List.setIfInBounds_toArray, List.set_cons_zero, List.set_cons_succ]
    refine wpAnyH_takeL (i := 3) (v := ?vhy4) rfl (by kernel_rfl) (by kernel_rfl) (by kernel_rfl) (fun _ _ _ h => h) (Or.inl ⟨by rfl, ?hy4⟩) (by assumption) ?rhy4
    case hy4 => ((intro w hSw; (try dsimp only at hSw); go_simp); try with_reducible rfl)
    try simp only [Act.put, List.setIfInBounds_toArray, List.set_cons_zero, List.set_cons_succ]
    refine wpAnyH_takeL (i := 4) (v := undef) rfl (by kernel_rfl) (by kernel_rfl) (by kernel_rfl) (fun _ _ _ h => h) (Or.inr ⟨by rfl, rfl⟩) (by assumption) ?_
    try simp only [Act.put, List.setIfInBounds_toArray, List.set_cons_zero, List.set_cons_succ]
    refine wpAnyH_takeL (i := 5) (v := undef) rfl (by kernel_rfl) (by kernel_rfl) (by kernel_rfl) (fun _ _ _ h => h) (Or.inr ⟨by rfl, rfl⟩) (by assumption) ?_
    try simp only [Act.put, List.setIfInBounds_toArray, List.set_cons_zero, List.set_cons_succ]
    refine wpAnyH_takeL (i := 6) (v := undef) rfl (by kernel_rfl) (by kernel_rfl) (by kernel_rfl) (fun _ _ _ h => h) (Or.inr ⟨by rfl, rfl⟩) (by assumption) ?_
    try simp only [Act.put, List.setIfInBounds_toArray, List.set_cons_zero, List.set_cons_succ]
    refine wpAnyH_takeL (i := 7) (v := undef) rfl (by kernel_rfl) (by kernel_rfl) (by kernel_rfl) (fun _ _ _ h => h) (Or.inr ⟨by rfl, rfl⟩) (by assumption) ?_
    try simp only [Act.put, List.setIfInBounds_toArray, List.set_cons_zero, List.set_cons_succ]
    refine wpAnyH_takeL (i := 8) (v := undef) rfl (by kernel_rfl) (by kernel_rfl) (by kernel_rfl) (fun _ _ _ h => h) (Or.inr ⟨by rfl, rfl⟩) (by assumption) ?_
    try simp only [Act.put, List.setIfInBounds_toArray, List.set_cons_zero, List.set_cons_succ]
    refine wpAnyH_takeL (i := 9) (v := undef) rfl (by kernel_rfl) (by kernel_rfl) (by kernel_rfl) (fun _ _ _ h => h) (Or.inr ⟨by rfl, rfl⟩) (by assumption) ?_
    try simp only [Act.put, List.setIfInBounds_toArray, List.set_cons_zero, List.set_cons_succ]
    refine wpAnyH_takeL (i := 10) (v := undef) rfl (by kernel_rfl) (by kernel_rfl) (by kernel_rfl) (fun _ _ _ h => h) (Or.inr ⟨by rfl, rfl⟩) (by assumption) ?_
    try simp only [Act.put, List.setIfInBounds_toArray, List.set_cons_zero, List.set_cons_succ]
    refine wpAnyH_takeL (i := 11) (v := undef) rfl (by kernel_rfl) (by kernel_rfl) (by kernel_rfl) (fun _ _ _ h => h) (Or.inr ⟨by rfl, rfl⟩) (by assumption) ?_
    try simp only [Act.put, List.setIfInBounds_toArray, List.set_cons_zero, List.set_cons_succ]
    refine wpAnyH_takeL (i := 12) (v := undef) rfl (by kernel_rfl) (by kernel_rfl) (by kernel_rfl) (fun _ _ _ h => h) (Or.inr ⟨by rfl, rfl⟩) (by assumption) ?_
    try simp only [Act.put, List.setIfInBounds_toArray, List.set_cons_zero, List.set_cons_succ]
    refine wpAnyH_takeL (i := 13) (v := undef) rfl (by kernel_rfl) (by kernel_rfl) (by kernel_rfl) (fun _ _ _ h => h) (Or.inr ⟨by rfl, rfl⟩) (by assumption) ?_
    try simp only [Act.put, List.setIfInBounds_toArray, List.set_cons_zero, List.set_cons_succ]
    refine wpAnyH_takeL (i := 14) (v := ?vhy5) rfl (by kernel_rfl) (by kernel_rfl) (by kernel_rfl) (fun _ _ _ h => h) (Or.inl ⟨by rfl, ?hy5⟩) (by assumption) ?rhy5
    case hy5 => ((intro w hSw; (try dsimp only at hSw); go_simp); try with_reducible rfl)
    try simp only [Act.put, List.setIfInBounds_toArray, List.set_cons_zero, List.set_cons_succ]
    refine wpAnyH_takeL (i := 15) (v := ?vhy6) rfl (by kernel_rfl) (by kernel_rfl) (by kernel_rfl) (fun _ _ _ h => h) (Or.inl ⟨by rfl, ?hy6⟩) (by assumption) ?rhy6
    case hy6 => ((intro w hSw; (try dsimp only at hSw); go_simp); try with_reducible rfl)
    try simp only [Act.put, List.setIfInBounds_toArray, List.set_cons_zero, List.set_cons_succ]
    refine wpAnyH_done (by kernel_rfl) ?_ _
    refine NoPanic.normal ?_
    go_wp2
    go_ret
    exact ⟨rfl, ha.more (Below.refl _ _).drew hz, hrow.out, hsz⟩
  | false =>
    simp only [Bool.not_false, Bool.true_and]
    have hwr : IntKind.i64.wrap (now - x2) = now - x2 := by rw [IntKind.wrap_i64]; omega
    go_enter Tryd.func38, Tryd.ntmps38
    go_wp2_with fail
    generalize (W.alloc (.cells #[.slice x6 x7 x8, .int .i64 x0, .int .i64 x1, .int .i64 x2, .bool x3, .bool false] 74)) = Wa at *
    refine wp_region_noPanic ?_
    refine wp_region_held_drew (S := fun w' => (w'.cell? ⟨W.heap.size, 5, none⟩ = some (.bool false) ∧ w'.cell? ⟨W.heap.size, 2, none⟩ = some (.int .i64 x1) ∧ w'.cell? ⟨W.heap.size, 3, none⟩ = some (.int .i64 x2)) ∧ w'.cell? ⟨Bl, 0, none⟩ = some (.pointer (some ⟨B, 0, none⟩)) ∧ w'.cell? ⟨B, 0, none⟩ = some (.int .i64 now)) (by kernel_rfl) ⟨⟨hka.2.2.2.2.2, hka.2.2.1, hka.2.2.2.1⟩, hbl, hna⟩ (fun hHeld => ?_)
    refine wpAnyH_takeL (i := 0) (v := ?vhy7) rfl (by kernel_rfl) (by kernel_rfl) (by kernel_rfl) (fun _ _ _ h => h) (Or.inl ⟨by rfl, ?hy7⟩) (by assumption) ?rhy7
    case hy7 => ((intro w hSw; (try dsimp only at hSw); go_simp); try with_reducible rfl)
    try simp only [Act.put, List.setIfInBounds_toArray, List.set_cons_zero, List.set_cons_succ]
    refine wpAnyH_takeL (i := 1) (v := ?vhy8) rfl (by kernel_rfl) (by kernel_rfl) (by kernel_rfl) (fun _ _ _ h => h) (Or.inl ⟨by rfl, ?hy8⟩) (by assumption) ?rhy8
    case hy8 => ((intro w hSw; (try dsimp only at hSw); go_simp); try with_reducible rfl)
    try simp only [Act.put, List.setIfInBounds_toArray, List.set_cons_zero, List.set_cons_succ]
    refine wpAnyH_takeL (i := 2) (v := ?vhy9) rfl (by kernel_rfl) (by kernel_rfl) (by kernel_rfl) (fun _ _ _ h => h) (Or.inl ⟨by rfl, ?hy9⟩) (by assumption) ?rhy9
    case hy9 => ((intro w hSw; (try dsimp only at hSw); go_simp); try with_reducible rfl)
    try simp only [Act.put, List.setIfInBounds_toArray, List.set_cons_zero, List.set_cons_succ]
    refine wpAnyH_takeL (i := 3) (v := ?vhy10) rfl (by kernel_rfl) (by kernel_rfl) (by kernel_rfl) (fun _ _ _ h => h) (Or.inl ⟨by rfl, ?hy10⟩) (by assumption) ?rhy10
    case hy10 => ((intro w hSw; (try dsimp only at hSw); go_simp); try with_reducible rfl)
    try simp only [Act.put, List.setIfInBounds_toArray, List.set_cons_zero, List.set_cons_succ]
    refine wpAnyH_takeL (i := 4) (v := ?vhy11) rfl (by kernel_rfl) (by kernel_rfl) (by kernel_rfl) (fun _ _ _ h => h) (Or.inl ⟨by rfl, ?hy11⟩) (by assumption) ?rhy11
    case hy11 => ((intro w hSw; (try dsimp only at hSw); go_simp); try with_reducible rfl)
    try simp only [Act.put, List.setIfInBounds_toArray, List.set_cons_zero, List.set_cons_succ]
    refine wpAnyH_takeL (i := 5) (v := ?vhy12) rfl (by kernel_rfl) (by kernel_rfl) (by kernel_rfl) (fun _ _ _ h => h) (Or.inl ⟨by rfl, ?hy12⟩) (by assumption) ?rhy12
    case hy12 => ((intro w hSw; (try dsimp only at hSw); go_simp); try with_reducible rfl)
    try simp only [Act.put, List.setIfInBounds_toArray, List.set_cons_zero, List.set_cons_succ]
    refine wpAnyH_takeL (i := 6) (v := ?vhy13) rfl (by kernel_rfl) (by kernel_rfl) (by kernel_rfl) (fun _ _ _ h => h) (Or.inl ⟨by rfl, ?hy13⟩) (by assumption) ?rhy13
    case hy13 => ((intro w hSw; (try dsimp only at hSw); go_simp); try with_reducible rfl)
    try simp only [Act.put, List.setIfInBounds_toArray, List.set_cons_zero, List.set_cons_succ]
    refine wpAnyH_takeL (i := 7) (v := ?vhy14) rfl (by kernel_rfl) (by kernel_rfl) (by kernel_rfl) (fun _ _ _ h => h) (Or.inl ⟨by rfl, ?hy14⟩) (by assumption) ?rhy14
    case hy14 => ((intro w hSw; (try dsimp only at hSw); go_simp); try with_reducible rfl)
    try simp only [Act.put, List.setIfInBounds_toArray, List.set_cons_zero, List.set_cons_succ]
    refine wpAnyH_takeL (i := 8) (v := ?vhy15) rfl (by kernel_rfl) (by kernel_rfl) (by kernel_rfl) (fun _ _ _ h => h) (Or.inl ⟨by rfl, ?hy15⟩) (by assumption) ?rhy15
    case hy15 => ((intro w hSw; (try dsimp only at hSw); go_simp); try with_reducible rfl)
    try simp only [Act.put, List.setIfInBounds_toArray, List.set_cons_zero, List.set_cons_succ]
    refine wpAnyH_takeL (i := 9) (v := ?vhy16) rfl (by kernel_rfl) (by kernel_rfl) (by kernel_rfl) (fun _ _ _ h => h) (Or.inl ⟨by rfl, ?hy16⟩) (by assumption) ?rhy16
    case hy16 => ((intro w hSw; (try dsimp only at hSw); go_simp); try with_reducible rfl)
    try simp only [Act.put, List.setIfInBounds_toArray, List.set_cons_zero, List.set_cons_succ]
    refine wpAnyH_takeL (i := 10) (v := ?vhy17) rfl (by kernel_rfl) (by kernel_rfl) (by kernel_rfl) (fun _ _ _ h => h) (Or.inl ⟨by rfl, ?hy17⟩) (by assumption) ?rhy17
    case hy17 => ((intro w hSw; (try dsimp only at hSw); go_simp); try with_reducible rfl)
    try simp only [Act.put, List.setIfInBounds_toArray, List.set_cons_zero, List.set_cons_succ]
    refine wpAnyH_takeL (i := 11) (v := ?vhy18) rfl (by kernel_rfl) (by kernel_rfl) (by kernel_rfl) (fun _ _ _ h => h) (Or.inl ⟨by rfl, ?hy18⟩) (by assumption) ?rhy18
    case hy18 => ((intro w hSw; (try dsimp only at hSw); go_simp); try with_reducible rfl)
    try simp only [Act.put, List.setIfInBounds_toArray, List.set_cons_zero, List.set_cons_succ]
    refine wpAnyH_takeL (i := 12) (v := ?vhy19) rfl (by kernel_rfl) (by kernel_rfl) (by kernel_rfl) (fun _ _ _ h => h) (Or.inl ⟨by rfl, ?hy19⟩) (by assumption) ?rhy19
    case hy19 => ((intro w hSw; (try dsimp only at hSw); go_simp); try with_reducible rfl)
    try simp only [Act.put, List.setIfInBounds_toArray, List.set_cons_zero, List.set_cons_succ]
    refine wpAnyH_takeL (i := 13) (v := ?vhy20) rfl (by kernel_rfl) (by kernel_rfl) (by kernel_rfl) (fun _ _ _ h => h) (Or.inl ⟨by rfl, ?hy20⟩) (by assumption) ?rhy20
    case hy20 => ((intro w hSw; (try dsimp only at hSw); go_simp); try with_reducible rfl)
    try simp only [Act.put, List.setIfInBounds_toArray, List.set_cons_zero, List.set_cons_succ]
    refine wpAnyH_takeL (i := 14) (v := ?vhy21) rfl (by kernel_rfl) (by kernel_rfl) (by kernel_rfl) (fun _ _ _ h => h) (Or.inl ⟨by rfl, ?hy21⟩) (by assumption) ?rhy21
    case hy21 => ((intro w hSw; (try dsimp only at hSw); go_simp); try with_reducible rfl)
    try simp only [Act.put, List.setIfInBounds_toArray, List.set_cons_zero, List.set_cons_succ]
    refine wpAnyH_takeL (i := 15) (v := ?vhy22) rfl (by kernel_rfl) (by kernel_rfl) (by kernel_rfl) (fun _ _ _ h => h) (Or.inl ⟨by rfl, ?hy22⟩) (by assumption) ?rhy22
    case hy22 => ((intro w hSw; (try dsimp only at hSw); go_simp); try with_reducible rfl)
    try simp only [Act.put, List.setIfInBounds_toArray, List.set_cons_zero, List.set_cons_succ]
    refine wpAnyH_done (by kernel_rfl) ?_ _
    refine NoPanic.normal ?_
    clear hwr
    have hdr : Below Wa.heap.size Wa Wa.drew := (Below.refl _ _).drew
    have hz2 : H ≤ Wa.drew.heap.size := hz
    have hb := ha.more hdr hz
    have hkd : Wa.drew.cell? ⟨W.heap.size, 1, none⟩ = some (.int .i64 x0) := hka.2.1
    have hrow2 : ∀ A n c ys, Ov W H 74 6 A n c ys → Ov Wa.drew H 74 6 A n c ys := fun A n c ys q => (hrow.out A n c ys q).below hdr
    have hsz2 : W.heap.size ≤ Wa.drew.heap.size := hsz
    replace hrow2 := Lib.hid hrow2
    clear ha hka hna hbl hz hrow hdr hHeld hba hsz
    generalize Wa.drew = Wd at *
    have hbA : Below Wd.heap.size Wd (Wd.alloc (.cells #[.int .i64 x0] 3)) := (Below.refl _ _).alloc (Nat.le_refl _) _
    obtain ⟨R, d, hB, hR⟩ := hb.ex
    have cB := hB.cell
    have hB1 := box_in hB hbA
    have hR1 := hR.below hbA
    have hb1 := hb.more hbA hz2
    have hr5 := Rv.lit (w := Wd) 3 1 [.int .i64 x0] 1 rfl (by decide)
    have hlo := hb.lo
    have hblt := hB.lt
    by_cases hd : x1 ≤ now - x2
    case neg =>
      have hdd : decide (x1 ≤ now - x2) = false := decide_eq_false hd
      rw [hdd]
      go_wp2
      all_goals first | (exfalso; omega) | skip
      go_ret
      exact ⟨rfl, hb, hrow2.out, hsz2⟩
    have hdd : decide (x1 ≤ now - x2) = true := decide_eq_true hd
    rw [hdd]
    go_wp2_with (at_builtin; refine wpList_append_v _ rfl _ _ 36 rfl 3 iS (.int .i64 0) 1 8 Tryd.underlying36 hiS hzS hsS hbS rfl (by decide) H R hs.length d (icells hs) rfl hR1 (some ⟨Wd.heap.size, 0, none⟩) 1 1 [.int .i64 x0] rfl hr5 (by simp [Value.oneCell']) (by unfold maxLen; omega) (by omega) (by simp; omega) ?_; intro R' d' w3 hO3 hg3 hab3; have hBx : Boxed w3 Bo 36 (.slice R hs.length d) := (hg3.block Bo hB1.lt (fun e => hR1.ne hB1 (by decide) e.symm)).trans hB1; have c3 := hBx.cell; have f3 := hBx.frozen)
    all_goals first | (exfalso; omega) | skip
    go_ret
    have e : icells (hs ++ [x0]) = icells hs ++ [.int .i64 x0] := by simp [icells]
    have hl2 : (hs ++ [x0]).length = hs.length + 1 := by simp
    have hRx : ∀ k, ab R = some k → H ≤ k := fun k hk => (hR.ab k hk).1
    have hg4 := grownBy_at w3 Bo 0 (.slice R' (hs.length + 1) d')
    have hBl1 := (hg3.block Bl (Array.getElem?_eq_some_iff.1 hb1.bl).1 (fun q => hR1.ne hb1.bl (by decide) q.symm)).trans hb1.bl
    refine ⟨rfl, ⟨?_, hlo, ?_, R', d', ?_, ?_⟩, fun A n c ys q => ?_, ?_⟩
    · exact (hb1.bel.grown hg3 (by simp; omega) hRx).setCell (p := ⟨Bo, 0, none⟩) hlo _
    · exact (hg4.block Bl (Array.getElem?_eq_some_iff.1 hBl1).1 (fun q => by
        injection q with q
        rw [q, hBx] at hBl1
        injection hBl1 with hBl1
        injection hBl1 with _ q2
        exact absurd q2 (by decide))).trans hBl1
    · rw [hl2]; exact hBx.set _
    · rw [hl2, e]
      exact hO3.grown hg4 (fun b hb' q => hO3.ne hBx (by decide) (by rw [hb', q]))
    · have q1 := (hrow2.out A n c ys q).below hbA
      have q2 := q1.grown hg3 (q1.neOv hR1 (by decide))
      exact q2.grown hg4 (fun b hb' qq => q2.ne hBx (by decide) (by rw [hb', qq]))
    · have := hg3.size
      simp at this ⊢
      omega
end Go.Proofs.YtnjhhibjcfjhnaaDoor
