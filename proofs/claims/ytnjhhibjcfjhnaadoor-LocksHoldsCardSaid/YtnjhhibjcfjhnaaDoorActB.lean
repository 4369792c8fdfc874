/- The law's act: a call by both. -/
import Derived.Test.YtnjhhibjcfjhnaaDoorActA
namespace Go.Proofs.YtnjhhibjcfjhnaaDoor
open Go.RowKit
set_option linter.unusedVariables false

def stepN (x : Ac) (now : Int) : Int := if x.what = 6 ∨ x.what = 7 then now + 1 else now
def stepZ (x : Ac) (now : Int) (zs : List Ak) : List Ak :=
  if 0 ≤ x.what ∧ x.what ≤ 3 then (askF now x.s x.wait x.first x.W zs).1 else if x.what = 4 ∨ x.what = 5 then (relF x.s zs).1 else if x.what = 6 ∨ x.what = 7 then (tickF now zs).1 else zs
theorem results_a {fn : Func} {s t u : Tmp} (h : fn.results = #[.tmp t, .cell s 45, .tmp u]) (tmps : Array Value) (w : World) {B : Nat} {v v' a b : Value} (hs : tmps.getD s undef = .pointer (some ⟨B, 0, none⟩)) (hv : tmps.getD t undef = v) (hv' : tmps.getD u undef = v')
    (h0 : w.cell? ⟨B, 0, none⟩ = some a) (h1 : w.cell? ⟨B, 1, none⟩ = some b) :
    (results fn tmps).run Tryd.prog w = .ok (.tuple #[v, .agg #[a, b], v']) w := by
  rw [Array.getD_eq_getD_getElem?] at hs hv hv'
  simp [results, h, hs, hv, hv', go_sem, h0, h1]
section
variable {W : World} {base B b : Nat} {r : Option Nat} {now : Int} {zs : List Ak} {v : Value} {cs : Array Value} {e : TypeId} {fr : Nat × Nat}
theorem RB.boxSet (h : RB W base v now zs) (hk : W.heap[b]? = some (.cells cs e fr)) (h1 : 96 ≠ e) (h2 : 64 ≠ e) (j : Nat) (u : Value) : RB (W.setCell ⟨b, j, none⟩ u) base v now zs := by
  obtain ⟨A, n, c, xs, e1, h, e2⟩ := h
  exact ⟨A, n, c, xs, e1, ⟨h.own.boxSet hk h1 j u, fun x hx => (h.tabs x hx).boxSet hk h2 j u⟩, e2⟩
theorem LB.boxSet (h : LB W base B r now zs) (hk : W.heap[b]? = some (.cells cs e fr)) (h1 : 74 ≠ e) (h2 : 64 ≠ e) (h3 : 69 ≠ e) (j : Nat) (u : Value) : LB (W.setCell ⟨b, j, none⟩ u) base B r now zs := by
  obtain ⟨A, n, c, xs, h, e1, e2⟩ := h
  refine ⟨A, n, c, xs, ⟨h.ge, ((grownBy_at W b j u).block B h.lt fun e' => ?_).trans h.box, h.own.boxSet hk h1 j u, fun x hx => (h.tabs x hx).boxSet hk h2 j u⟩, e1, e2⟩
  injection e' with e'
  subst e'
  rw [h.box] at hk
  injection hk with hk
  injection hk with _ hk
  exact h3 hk
end
/-- The act's own boxes. -/
structure XA (w W : World) (x : Ac) : Prop where
  k5 : W.heap[w.heap.size + 1]? = some (.cells x.cells.toArray 31 (0, 0))
  k7 : W.heap[w.heap.size + 2]? = some (.cells #[.int .i64 0, .slice none 0 0] 45 (0, 0))
  size : w.heap.size + 3 ≤ W.heap.size
theorem XA.more {w W W' : World} {x : Ac} (h : XA w W x) (hb : Below W.heap.size W W') : XA w W' x :=
  ⟨(hb.block _ (by have := h.size; omega)).trans h.k5, (hb.block _ (by have := h.size; omega)).trans h.k7, Nat.le_trans h.size hb.size⟩
theorem XA.kb {w W W' : World} {x : Ac} {B : Nat} {r : Option Nat} (h : XA w W x) (hk : Kb W W' B r) (hB : B < w.heap.size) (hr : ∀ g, r = some g → g < w.heap.size) : XA w W' x :=
  ⟨(hk.block _ (by have := h.size; omega) (by omega) (fun e => by have := hr _ e.symm; omega)).trans h.k5, (hk.block _ (by have := h.size; omega) (by omega) (fun e => by have := hr _ e.symm; omega)).trans h.k7, Nat.le_trans h.size hk.size⟩
theorem XA.cells {w W : World} {x0 x1 x2 : Int} {x3 : Bool} {x5 : List Wt} {x6 : Option Addr} {x7 x8 : Nat} (h : XA w W ⟨x0, x1, x2, x3, x5, x6, x7, x8⟩) : W.cell? ⟨w.heap.size + 1, 0, none⟩ = some (.int .i64 x0) ∧ W.cell? ⟨w.heap.size + 1, 1, none⟩ = some (.int .i64 x1) ∧ W.cell? ⟨w.heap.size + 1, 2, none⟩ = some (.int .i64 x2) ∧ W.cell? ⟨w.heap.size + 1, 3, none⟩ = some (.bool x3) ∧ W.cell? ⟨w.heap.size + 1, 4, none⟩ = some (.slice x6 x7 x8) := by
  have := h.k5
  simp [World.cell?, this, Ac.cells]
/-- What an act leaves. -/
def ActPost (w : World) (base B : Nat) (r : Option Nat) (now now' : Int) (zs' : List Ak) (e : Ending) (w' : World) : Prop :=
  ∃ B' r' v', e = .returned (.tuple #[.pointer (some ⟨B', 0, none⟩), v', .bool true]) ∧ LB w' base B' r' now' zs' ∧ RB w' base v' now' zs' ∧ Kb w w' B r ∧ Nw w r r' ∧ (B' = B ∨ w.heap.size ≤ B')
theorem ActPost.mk {w W : World} {base B : Nat} {r : Option Nat} {now now' nw : Int} {zs' : List Ak} {A : Option Addr} {n c : Nat} {x : Ac} (hX : XA w W x) {B' : Nat} {r' : Option Nat} (hL : LB W base B' r' now' zs') (hR : RB W base (.agg #[.int .i64 nw, .slice A n c]) now' zs') (hk : Kb w W B r) (hn : Nw w r r') (hB : B' = B ∨ w.heap.size ≤ B') :
    ActPost w base B r now now' zs' (.returned (.tuple #[.pointer (some ⟨B', 0, none⟩), .agg #[.int .i64 nw, .slice A n c], .bool true])) ((W.setCell ⟨w.heap.size + 2, 0, none⟩ (.int .i64 nw)).setCell ⟨w.heap.size + 2, 1, none⟩ (.slice A n c)) := by
  have r1 := heap_set0 (u' := .int .i64 nw) hX.k7
  exact ⟨B', r', _, rfl, (hL.boxSet hX.k7 (by decide) (by decide) (by decide) 0 _).boxSet r1 (by decide) (by decide) (by decide) 1 _, (hR.boxSet hX.k7 (by decide) (by decide) 0 _).boxSet r1 (by decide) (by decide) 1 _,
    (hk.transNew (Kb.ofRow (B := B) (grownBy_at _ _ _ _)) (fun x hx => by injection hx with hx; omega)).transNew (Kb.ofRow (B := B) (grownBy_at _ _ _ _)) (fun x hx => by injection hx with hx; omega), hn, hB⟩
section
variable {w : World} {base B : Nat} {r : Option Nat} {now : Int} {zs : List Ak} {v : Value}
set_option maxRecDepth 100000 in
set_option maxHeartbeats 8000000 in
theorem ActAsk_any (hL : LB w base B r now zs) (hR : RB w base v now zs) (hE : Env w) (hz : IZ zs) (x : Ac) (hx : Rv w 2 x.A x.n x.c (wcells x.W)) (hm : x.n ≤ 100000) (hw : x.what = 0 ∨ x.what = 1 ∨ x.what = 2 ∨ x.what = 3) :
    Calls Tryd.prog 16 #[.pointer (some ⟨B, 0, none⟩), v, .agg x.cells.toArray] w (ActPost w base B r now now (askF now x.s x.wait x.first x.W zs).1) := by
  have hRs := hR
  obtain ⟨A, n, c, xs, rfl, -, -⟩ := hRs
  have hB := hL.lt.2
  have hrr : ∀ g, r = some g → g < w.heap.size := fun g hg => (hL.row g hg).2
  have hbs : base ≤ w.heap.size := Nat.le_of_lt (Nat.lt_of_le_of_lt hL.lt.1 hB)
  have hX0 : XA w (((w.alloc (.cells #[.int .i64 now, .slice A n c] 45)).alloc (.cells x.cells.toArray 31)).alloc (.cells #[.int .i64 0, .slice none 0 0] 45)) x ∧ (((w.alloc (.cells #[.int .i64 now, .slice A n c] 45)).alloc (.cells x.cells.toArray 31)).alloc (.cells #[.int .i64 0, .slice none 0 0] 45)).heap[w.heap.size]? = some (.cells #[.int .i64 now, .slice A n c] 45 (0, 0)) := by
    have h1 := World.alloc_heap_new w (.cells #[.int .i64 now, .slice A n c] 45)
    have h2 := World.alloc_heap_new (w.alloc (.cells #[.int .i64 now, .slice A n c] 45)) (.cells x.cells.toArray 31)
    have h3 := World.alloc_heap_new ((w.alloc (.cells #[.int .i64 now, .slice A n c] 45)).alloc (.cells x.cells.toArray 31)) (.cells #[.int .i64 0, .slice none 0 0] 45)
    have b2 : Below (w.alloc (.cells #[.int .i64 now, .slice A n c] 45)).heap.size (w.alloc (.cells #[.int .i64 now, .slice A n c] 45)) ((w.alloc (.cells #[.int .i64 now, .slice A n c] 45)).alloc (.cells x.cells.toArray 31)) := (Below.refl _ _).alloc (Nat.le_refl _) _
    have b3 : Below ((w.alloc (.cells #[.int .i64 now, .slice A n c] 45)).alloc (.cells x.cells.toArray 31)).heap.size ((w.alloc (.cells #[.int .i64 now, .slice A n c] 45)).alloc (.cells x.cells.toArray 31)) (((w.alloc (.cells #[.int .i64 now, .slice A n c] 45)).alloc (.cells x.cells.toArray 31)).alloc (.cells #[.int .i64 0, .slice none 0 0] 45)) := (Below.refl _ _).alloc (Nat.le_refl _) _
    rw [World.size_alloc] at h2
    rw [World.size_alloc, World.size_alloc] at h3
    refine ⟨⟨(b3.block _ (by simp)).trans h2, h3, by simp⟩, (b3.block _ (by simp; omega)).trans ((b2.block _ (by simp)).trans h1)⟩
  have hb2 : Below w.heap.size w (((w.alloc (.cells #[.int .i64 now, .slice A n c] 45)).alloc (.cells x.cells.toArray 31)).alloc (.cells #[.int .i64 0, .slice none 0 0] 45)) := gr_alloc (gr_alloc (gr_alloc (Below.refl _ _) _) _) _
  obtain ⟨hX, k4⟩ := hX0
  replace hL := hL.below hb2
  replace hR := hR.below hb2
  replace hE := hE.below hb2
  replace hx := Rv.below hx hb2
  obtain ⟨x0, x1, x2, x3, x5, x6, x7, x8⟩ := x
  simp only at hw hm hx ⊢
  have hra := Lib.hid (fun W (h : RB W base (.agg #[.int .i64 now, .slice A n c]) now zs) (h1 : base ≤ W.heap.size) (h2 : Rv W 2 x6 x7 x8 (wcells x5)) => RAsk_B h h1 hz x1 x2 x3 x6 x7 x8 x5 h2)
  have hask := Lib.hid (fun W (h : LB W base B r now zs) (e : Env W) (h2 : Rv W 2 x6 x7 x8 (wcells x5)) => Ask_B h e hz x1 x2 x3 x6 x7 x8 x5 h2 hm)
  generalize askF now x1 x2 x3 x5 zs = q at *
  obtain ⟨zs', b1, e1⟩ := q
  simp only at hra hask ⊢
  have hnum := Lib.hid (fun k W => Num_any k W)
  rcases hw with rfl | rfl | rfl | rfl
  · skip
    simp only [Ac.cells] at hX k4 hb2 hL hR hE hx ⊢
    go_enter Tryd.func16, Tryd.ntmps16
    go_upto_region 1 with fail
    generalize (((w.alloc (.cells #[.int .i64 now, .slice A n c] 45)).alloc (.cells [.int .i64 0, .int .i64 x1, .int .i64 x2, .bool x3, .slice x6 x7 x8].toArray 31)).alloc (.cells #[.int .i64 0, .slice none 0 0] 45)) = w2 at *
    have cx := hX.cells
    have c4 := (box_cells k4).1
    go_wp2_with fail
    refine (hra.out _ hR (by have := hb2.size; omega) hx).mono ?_
    rintro e w3 ⟨v', rfl, hR3, hb3⟩
    clear hra hR k4 c4 cx
    replace hL := hL.below hb3
    replace hE := hE.below hb3
    replace hX := hX.more hb3
    replace hx := Rv.below hx hb3
    replace hb2 := gr hb2 hb3
    clear hb3
    have hR3s := hR3
    obtain ⟨A', n', c', xs', rfl, -, -⟩ := hR3s
    go_upto_region 7 with fail
    have hba : Below w3.heap.size w3 (w3.alloc (.cells #[.int .i64 now, .slice A' n' c'] 45)) := (Below.refl _ _).alloc (Nat.le_refl _) _
    have k9 := World.alloc_heap_new w3 (.cells #[.int .i64 now, .slice A' n' c'] 45)
    have hz9 : w3.heap.size < (w3.alloc (.cells #[.int .i64 now, .slice A' n' c'] 45)).heap.size := by simp
    have hX3 := hX.size
    replace hR3 := hR3.below hba
    replace hL := hL.below hba
    replace hE := hE.below hba
    replace hX := hX.more hba
    replace hx := Rv.below hx hba
    replace hb2 := gr hb2 hba
    clear hba
    generalize (w3.alloc (.cells #[.int .i64 now, .slice A' n' c'] 45)) = w4 at *
    generalize w3.heap.size = b9 at *
    have cx := hX.cells
    go_wp2_with fail
    refine (hask.out _ hL hE hx).mono ?_
    rintro e w5 ⟨rfl, r', hL5, hN5, hk5⟩
    clear hask cx hx
    replace hR3 := hR3.kb hL hk5
    replace hX := hX.kb hk5 hB hrr
    replace k9 := (hk5.block b9 (by omega) (by omega) (fun e => by have := hrr _ e.symm; omega)).trans k9
    have hkf : Kb w w5 B r := (Kb.ofBelow hb2).trans hk5
    have hnf : Nw w r r' := fun g hg => by
      rcases hN5 g hg with h | h
      · exact .inl (Nat.le_trans hb2.size h)
      · exact .inr h
    clear hk5 hN5 hL hb2 hE hz9
    go_upto_region 8 with fail
    refine wp_region_noPanic ?_
    have c9 := (box_cells k9).1
    have hd : Below w5.heap.size w5 w5.drew := (Below.refl _ _).drew
    refine wp_region_held_drew (S := fun W => W.cell? ⟨b9, 0, none⟩ = some (.int .i64 now) ∧ W.cell? ⟨b9, 1, none⟩ = some (.slice A' n' c')) (by kernel_rfl) c9 (fun hHeld => ?_)
    have hbb : (b1 == b1) = true := by simp
    have hee : (e1 == e1) = true := by simp
    have hpost := Lib.hid (ActPost.mk (base := base) (now := now) (hX.more hd) (hL5.below hd) (hR3.below hd) (hkf.trans (Kb.ofBelow hd)) hnf (.inl rfl))
    have h7 := hX.k7
    have cc := box_cells (heap_set1 (v' := .slice A' n' c') (heap_set0 (u' := .int .i64 now) (show w5.drew.heap[w.heap.size + 2]? = _ from h7)))
    have cc1 := Lib.hid cc.1
    have cf := (box_cells h7).2
    have cf0 := (box_cells h7).1
    have c9' := Lib.hid (show (((w5.drew.setCell ⟨w.heap.size + 2, 0, none⟩ (.int .i64 now)).setCell ⟨w.heap.size + 2, 1, none⟩ (.slice A' n' c')).cell? ⟨b9, 0, none⟩ = some (.int .i64 now) ∧ ((w5.drew.setCell ⟨w.heap.size + 2, 0, none⟩ (.int .i64 now)).setCell ⟨w.heap.size + 2, 1, none⟩ (.slice A' n' c')).cell? ⟨b9, 1, none⟩ = some (.slice A' n' c')) from by
      have hne : b9 ≠ w.heap.size + 2 := by omega
      have g1 := (grownBy_at w5.drew (w.heap.size + 2) 0 (.int .i64 now)).block b9 (Array.getElem?_eq_some_iff.1 k9).1 (fun e => by injection e with e; exact hne e)
      have g2 := (grownBy_at (w5.drew.setCell ⟨w.heap.size + 2, 0, none⟩ (.int .i64 now)) (w.heap.size + 2) 1 (.slice A' n' c')).block b9 (by have := (Array.getElem?_eq_some_iff.1 k9).1; simpa using this) (fun e => by injection e with e; exact hne e)
      exact (box_cells (g2.trans (g1.trans k9))).1)
    clear cc hX hL5 hR3 hkf hnf h7 hd
    refine wpAnyH_takeL (i := 0) (v := ?vhy1) rfl (by kernel_rfl) (by kernel_rfl) (by kernel_rfl) (fun _ _ _ h => h) (Or.inl ⟨by rfl, ?hy1⟩) (by assumption) ?rhy1
    case hy1 => ((intro w hSw; (try dsimp only at hSw); go_simp); try with_reducible rfl)
    try simp only [Act.put, List.setIfInBounds_toArray, List.set_cons_zero, List.set_cons_succ]
    refine wpAnyH_takeL (i := 1) (v := ?vhy2) rfl (by kernel_rfl) (by kernel_rfl) (by kernel_rfl) (fun _ _ _ h => h) (Or.inl ⟨by rfl, ?hy2⟩) (by assumption) ?rhy2
    case hy2 => ((intro w hSw; (try dsimp only at hSw); go_simp); try with_reducible rfl)
    try simp only [Act.put, List.setIfInBounds_toArray, List.set_cons_zero, List.set_cons_succ]
    refine wpAnyH_takeL (i := 2) (v := ?vhy3) rfl (by kernel_rfl) (by kernel_rfl) (by kernel_rfl) (fun _ _ _ h => h) (Or.inl ⟨by rfl, ?hy3⟩) (by assumption) ?rhy3
    case hy3 => ((intro w hSw; (try dsimp only at hSw); go_simp); try with_reducible rfl)
    try simp only [Act.put, List.setIfInBounds_toArray, List.set_cons_zero, List.set_cons_succ]
    refine wpAnyH_takeL (i := 3) (v := ?vhy4) rfl (by kernel_rfl) (by kernel_rfl) (by kernel_rfl) (fun _ _ _ h => h) (Or.inl ⟨by rfl, ?hy4⟩) (by assumption) ?rhy4
    case hy4 => ((intro w hSw; (try dsimp only at hSw); go_simp); try with_reducible rfl)
    try simp only [Act.put, List.setIfInBounds_toArray, List.set_cons_zero, List.set_cons_succ]
    refine wpAnyH_takeL (i := 4) (v := ?vhy5) rfl (by kernel_rfl) (by kernel_rfl) (by kernel_rfl) (fun _ _ _ h => h) (Or.inl ⟨by rfl, ?hy5⟩) (by assumption) ?rhy5
    case hy5 => ((intro w hSw; (try dsimp only at hSw); go_simp); try with_reducible rfl)
    try simp only [Act.put, List.setIfInBounds_toArray, List.set_cons_zero, List.set_cons_succ]
    refine wpAnyH_takeL (i := 5) (v := ?vhy6) rfl (by kernel_rfl) (by kernel_rfl) (by kernel_rfl) (fun _ _ _ h => h) (Or.inl ⟨by rfl, ?hy6⟩) (by assumption) ?rhy6
    case hy6 => ((intro w hSw; (try dsimp only at hSw); go_simp); try with_reducible rfl)
    try simp only [Act.put, List.setIfInBounds_toArray, List.set_cons_zero, List.set_cons_succ]
    refine wpAnyH_takeL (i := 6) (v := ?vhy7) rfl (by kernel_rfl) (by kernel_rfl) (by kernel_rfl) (fun _ _ _ h => h) (Or.inl ⟨by rfl, ?hy7⟩) (by assumption) ?rhy7
    case hy7 => ((intro w hSw; (try dsimp only at hSw); go_simp); try with_reducible rfl)
    try simp only [Act.put, List.setIfInBounds_toArray, List.set_cons_zero, List.set_cons_succ]
    refine wpAnyH_takeL (i := 8) (v := ?vhy8) rfl (by kernel_rfl) (by kernel_rfl) (by kernel_rfl) (fun _ _ _ h => h) (Or.inl ⟨by rfl, ?hy8⟩) (by assumption) ?rhy8
    case hy8 => ((intro w hSw; (try dsimp only at hSw); go_simp); try with_reducible rfl)
    try simp only [Act.put, List.setIfInBounds_toArray, List.set_cons_zero, List.set_cons_succ]
    refine wpAnyH_ready (rs := [7]) (by kernel_rfl) (by simp) ?_
    refine AllReadyH.consL (i := 7) rfl (fun K hK => ?_) AllReadyH.nil
    go_simp
    refine (hnum.out _ _).mono ?_
    rintro e wx ⟨rfl, rfl⟩
    refine hK.out _ _ hHeld (fun hHeld => ?_)
    clear hK
    try simp only [Act.put, List.setIfInBounds_toArray, List.set_cons_zero, List.set_cons_succ]
    refine wpAnyH_takeL (i := 9) (v := ?vhy9) rfl (by kernel_rfl) (by kernel_rfl) (by kernel_rfl) (fun _ _ _ h => h) (Or.inl ⟨by rfl, ?hy9⟩) (by assumption) ?rhy9
    case hy9 => ((intro w hSw; (try dsimp only at hSw); go_simp); try with_reducible rfl)
    try simp only [Act.put, List.setIfInBounds_toArray, List.set_cons_zero, List.set_cons_succ]
    refine wpAnyH_takeL (i := 10) (v := ?vhy10) rfl (by kernel_rfl) (by kernel_rfl) (by kernel_rfl) (fun _ _ _ h => h) (Or.inl ⟨by rfl, ?hy10⟩) (by assumption) ?rhy10
    case hy10 => ((intro w hSw; (try dsimp only at hSw); go_simp); try with_reducible rfl)
    try simp only [Act.put, List.setIfInBounds_toArray, List.set_cons_zero, List.set_cons_succ]
    refine wpAnyH_takeL (i := 11) (v := ?vhy11) rfl (by kernel_rfl) (by kernel_rfl) (by kernel_rfl) (fun _ _ _ h => h) (Or.inl ⟨by rfl, ?hy11⟩) (by assumption) ?rhy11
    case hy11 => ((intro w hSw; (try dsimp only at hSw); go_simp); try with_reducible rfl)
    try simp only [Act.put, List.setIfInBounds_toArray, List.set_cons_zero, List.set_cons_succ]
    refine wpAnyH_ready (rs := [12]) (by kernel_rfl) (by simp) ?_
    refine AllReadyH.consL (i := 12) rfl (fun K hK => ?_) AllReadyH.nil
    go_simp
    refine hK.out _ _ c9'.out (fun hHeld => ?_)
    clear hK
    try simp only [Act.put, List.setIfInBounds_toArray, List.set_cons_zero, List.set_cons_succ]
    refine wpAnyH_takeL (i := 13) (v := ?vhy12) rfl (by kernel_rfl) (by kernel_rfl) (by kernel_rfl) (fun _ _ _ h => h) (Or.inl ⟨by rfl, ?hy12⟩) (by assumption) ?rhy12
    case hy12 => ((intro w hSw; (try dsimp only at hSw); go_simp); try with_reducible rfl)
    try simp only [Act.put, List.setIfInBounds_toArray, List.set_cons_zero, List.set_cons_succ]
    refine wpAnyH_done (by kernel_rfl) ?_ _
    refine NoPanic.normal ?_
    clear hHeld c9 cf cf0
    go_wp2
    refine bodyPost_ret (results_a rfl _ _ rfl rfl rfl cc1.out.1 cc1.out.2) rfl ?_
    exact hpost.out
  · skip
    simp only [Ac.cells] at hX k4 hb2 hL hR hE hx ⊢
    go_enter Tryd.func16, Tryd.ntmps16
    go_upto_region 1 with fail
    generalize (((w.alloc (.cells #[.int .i64 now, .slice A n c] 45)).alloc (.cells [.int .i64 1, .int .i64 x1, .int .i64 x2, .bool x3, .slice x6 x7 x8].toArray 31)).alloc (.cells #[.int .i64 0, .slice none 0 0] 45)) = w2 at *
    have cx := hX.cells
    have c4 := (box_cells k4).1
    go_wp2_with fail
    refine (hra.out _ hR (by have := hb2.size; omega) hx).mono ?_
    rintro e w3 ⟨v', rfl, hR3, hb3⟩
    clear hra hR k4 c4 cx
    replace hL := hL.below hb3
    replace hE := hE.below hb3
    replace hX := hX.more hb3
    replace hx := Rv.below hx hb3
    replace hb2 := gr hb2 hb3
    clear hb3
    have hR3s := hR3
    obtain ⟨A', n', c', xs', rfl, -, -⟩ := hR3s
    go_upto_region 7 with fail
    have hba : Below w3.heap.size w3 (w3.alloc (.cells #[.int .i64 now, .slice A' n' c'] 45)) := (Below.refl _ _).alloc (Nat.le_refl _) _
    have k9 := World.alloc_heap_new w3 (.cells #[.int .i64 now, .slice A' n' c'] 45)
    have hz9 : w3.heap.size < (w3.alloc (.cells #[.int .i64 now, .slice A' n' c'] 45)).heap.size := by simp
    have hX3 := hX.size
    replace hR3 := hR3.below hba
    replace hL := hL.below hba
    replace hE := hE.below hba
    replace hX := hX.more hba
    replace hx := Rv.below hx hba
    replace hb2 := gr hb2 hba
    clear hba
    generalize (w3.alloc (.cells #[.int .i64 now, .slice A' n' c'] 45)) = w4 at *
    generalize w3.heap.size = b9 at *
    have cx := hX.cells
    go_wp2_with fail
    refine (hask.out _ hL hE hx).mono ?_
    rintro e w5 ⟨rfl, r', hL5, hN5, hk5⟩
    clear hask cx hx
    replace hR3 := hR3.kb hL hk5
    replace hX := hX.kb hk5 hB hrr
    replace k9 := (hk5.block b9 (by omega) (by omega) (fun e => by have := hrr _ e.symm; omega)).trans k9
    have hkf : Kb w w5 B r := (Kb.ofBelow hb2).trans hk5
    have hnf : Nw w r r' := fun g hg => by
      rcases hN5 g hg with h | h
      · exact .inl (Nat.le_trans hb2.size h)
      · exact .inr h
    clear hk5 hN5 hL hb2 hE hz9
    go_upto_region 8 with fail
    refine wp_region_noPanic ?_
    have c9 := (box_cells k9).1
    have hd : Below w5.heap.size w5 w5.drew := (Below.refl _ _).drew
    refine wp_region_held_drew (S := fun W => W.cell? ⟨b9, 0, none⟩ = some (.int .i64 now) ∧ W.cell? ⟨b9, 1, none⟩ = some (.slice A' n' c')) (by kernel_rfl) c9 (fun hHeld => ?_)
    have hbb : (b1 == b1) = true := by simp
    have hee : (e1 == e1) = true := by simp
    have hpost := Lib.hid (ActPost.mk (base := base) (now := now) (hX.more hd) (hL5.below hd) (hR3.below hd) (hkf.trans (Kb.ofBelow hd)) hnf (.inl rfl))
    have h7 := hX.k7
    have cc := box_cells (heap_set1 (v' := .slice A' n' c') (heap_set0 (u' := .int .i64 now) (show w5.drew.heap[w.heap.size + 2]? = _ from h7)))
    have cc1 := Lib.hid cc.1
    have cf := (box_cells h7).2
    have cf0 := (box_cells h7).1
    have c9' := Lib.hid (show (((w5.drew.setCell ⟨w.heap.size + 2, 0, none⟩ (.int .i64 now)).setCell ⟨w.heap.size + 2, 1, none⟩ (.slice A' n' c')).cell? ⟨b9, 0, none⟩ = some (.int .i64 now) ∧ ((w5.drew.setCell ⟨w.heap.size + 2, 0, none⟩ (.int .i64 now)).setCell ⟨w.heap.size + 2, 1, none⟩ (.slice A' n' c')).cell? ⟨b9, 1, none⟩ = some (.slice A' n' c')) from by
      have hne : b9 ≠ w.heap.size + 2 := by omega
      have g1 := (grownBy_at w5.drew (w.heap.size + 2) 0 (.int .i64 now)).block b9 (Array.getElem?_eq_some_iff.1 k9).1 (fun e => by injection e with e; exact hne e)
      have g2 := (grownBy_at (w5.drew.setCell ⟨w.heap.size + 2, 0, none⟩ (.int .i64 now)) (w.heap.size + 2) 1 (.slice A' n' c')).block b9 (by have := (Array.getElem?_eq_some_iff.1 k9).1; simpa using this) (fun e => by injection e with e; exact hne e)
      exact (box_cells (g2.trans (g1.trans k9))).1)
    clear cc hX hL5 hR3 hkf hnf h7 hd
    refine wpAnyH_takeL (i := 0) (v := ?vhy13) rfl (by kernel_rfl) (by kernel_rfl) (by kernel_rfl) (fun _ _ _ h => h) (Or.inl ⟨by rfl, ?hy13⟩) (by assumption) ?rhy13
    case hy13 => ((intro w hSw; (try dsimp only at hSw); go_simp); try with_reducible rfl)
    try simp only [Act.put, List.setIfInBounds_toArray, List.set_cons_zero, List.set_cons_succ]
    refine wpAnyH_takeL (i := 1) (v := ?vhy14) rfl (by kernel_rfl) (by kernel_rfl) (by kernel_rfl) (fun _ _ _ h => h) (Or.inl ⟨by rfl, ?hy14⟩) (by assumption) ?rhy14
    case hy14 => ((intro w hSw; (try dsimp only at hSw); go_simp); try with_reducible rfl)
    try simp only [Act.put, List.setIfInBounds_toArray, List.set_cons_zero, List.set_cons_succ]
    refine wpAnyH_takeL (i := 2) (v := ?vhy15) rfl (by kernel_rfl) (by kernel_rfl) (by kernel_rfl) (fun _ _ _ h => h) (Or.inl ⟨by rfl, ?hy15⟩) (by assumption) ?rhy15
    case hy15 => ((intro w hSw; (try dsimp only at hSw); go_simp); try with_reducible rfl)
    try simp only [Act.put, List.setIfInBounds_toArray, List.set_cons_zero, List.set_cons_succ]
    refine wpAnyH_takeL (i := 3) (v := ?vhy16) rfl (by kernel_rfl) (by kernel_rfl) (by kernel_rfl) (fun _ _ _ h => h) (Or.inl ⟨by rfl, ?hy16⟩) (by assumption) ?rhy16
    case hy16 => ((intro w hSw; (try dsimp only at hSw); go_simp); try with_reducible rfl)
    try simp only [Act.put, List.setIfInBounds_toArray, List.set_cons_zero, List.set_cons_succ]
    refine wpAnyH_takeL (i := 4) (v := ?vhy17) rfl (by kernel_rfl) (by kernel_rfl) (by kernel_rfl) (fun _ _ _ h => h) (Or.inl ⟨by rfl, ?hy17⟩) (by assumption) ?rhy17
    case hy17 => ((intro w hSw; (try dsimp only at hSw); go_simp); try with_reducible rfl)
    try simp only [Act.put, List.setIfInBounds_toArray, List.set_cons_zero, List.set_cons_succ]
    refine wpAnyH_takeL (i := 5) (v := ?vhy18) rfl (by kernel_rfl) (by kernel_rfl) (by kernel_rfl) (fun _ _ _ h => h) (Or.inl ⟨by rfl, ?hy18⟩) (by assumption) ?rhy18
    case hy18 => ((intro w hSw; (try dsimp only at hSw); go_simp); try with_reducible rfl)
    try simp only [Act.put, List.setIfInBounds_toArray, List.set_cons_zero, List.set_cons_succ]
    refine wpAnyH_takeL (i := 6) (v := ?vhy19) rfl (by kernel_rfl) (by kernel_rfl) (by kernel_rfl) (fun _ _ _ h => h) (Or.inl ⟨by rfl, ?hy19⟩) (by assumption) ?rhy19
    case hy19 => ((intro w hSw; (try dsimp only at hSw); go_simp); try with_reducible rfl)
    try simp only [Act.put, List.setIfInBounds_toArray, List.set_cons_zero, List.set_cons_succ]
    refine wpAnyH_takeL (i := 8) (v := ?vhy20) rfl (by kernel_rfl) (by kernel_rfl) (by kernel_rfl) (fun _ _ _ h => h) (Or.inl ⟨by rfl, ?hy20⟩) (by assumption) ?rhy20
    case hy20 => ((intro w hSw; (try dsimp only at hSw); go_simp); try with_reducible rfl)
    try simp only [Act.put, List.setIfInBounds_toArray, List.set_cons_zero, List.set_cons_succ]
    refine wpAnyH_ready (rs := [7]) (by kernel_rfl) (by simp) ?_
    refine AllReadyH.consL (i := 7) rfl (fun K hK => ?_) AllReadyH.nil
    go_simp
    refine (hnum.out _ _).mono ?_
    rintro e wx ⟨rfl, rfl⟩
    refine hK.out _ _ hHeld (fun hHeld => ?_)
    clear hK
    try simp only [Act.put, List.setIfInBounds_toArray, List.set_cons_zero, List.set_cons_succ]
    refine wpAnyH_takeL (i := 9) (v := ?vhy21) rfl (by kernel_rfl) (by kernel_rfl) (by kernel_rfl) (fun _ _ _ h => h) (Or.inl ⟨by rfl, ?hy21⟩) (by assumption) ?rhy21
    case hy21 => ((intro w hSw; (try dsimp only at hSw); go_simp); try with_reducible rfl)
    try simp only [Act.put, List.setIfInBounds_toArray, List.set_cons_zero, List.set_cons_succ]
    refine wpAnyH_takeL (i := 10) (v := ?vhy22) rfl (by kernel_rfl) (by kernel_rfl) (by kernel_rfl) (fun _ _ _ h => h) (Or.inl ⟨by rfl, ?hy22⟩) (by assumption) ?rhy22
    case hy22 => ((intro w hSw; (try dsimp only at hSw); go_simp); try with_reducible rfl)
    try simp only [Act.put, List.setIfInBounds_toArray, List.set_cons_zero, List.set_cons_succ]
    refine wpAnyH_takeL (i := 11) (v := ?vhy23) rfl (by kernel_rfl) (by kernel_rfl) (by kernel_rfl) (fun _ _ _ h => h) (Or.inl ⟨by rfl, ?hy23⟩) (by assumption) ?rhy23
    case hy23 => ((intro w hSw; (try dsimp only at hSw); go_simp); try with_reducible rfl)
    try simp only [Act.put, List.setIfInBounds_toArray, List.set_cons_zero, List.set_cons_succ]
    refine wpAnyH_ready (rs := [12]) (by kernel_rfl) (by simp) ?_
    refine AllReadyH.consL (i := 12) rfl (fun K hK => ?_) AllReadyH.nil
    go_simp
    refine hK.out _ _ c9'.out (fun hHeld => ?_)
    clear hK
    try simp only [Act.put, List.setIfInBounds_toArray, List.set_cons_zero, List.set_cons_succ]
    refine wpAnyH_takeL (i := 13) (v := ?vhy24) rfl (by kernel_rfl) (by kernel_rfl) (by kernel_rfl) (fun _ _ _ h => h) (Or.inl ⟨by rfl, ?hy24⟩) (by assumption) ?rhy24
    case hy24 => ((intro w hSw; (try dsimp only at hSw); go_simp); try with_reducible rfl)
    try simp only [Act.put, List.setIfInBounds_toArray, List.set_cons_zero, List.set_cons_succ]
    refine wpAnyH_done (by kernel_rfl) ?_ _
    refine NoPanic.normal ?_
    clear hHeld c9 cf cf0
    go_wp2
    refine bodyPost_ret (results_a rfl _ _ rfl rfl rfl cc1.out.1 cc1.out.2) rfl ?_
    exact hpost.out
  · skip
    simp only [Ac.cells] at hX k4 hb2 hL hR hE hx ⊢
    go_enter Tryd.func16, Tryd.ntmps16
    go_upto_region 1 with fail
    generalize (((w.alloc (.cells #[.int .i64 now, .slice A n c] 45)).alloc (.cells [.int .i64 2, .int .i64 x1, .int .i64 x2, .bool x3, .slice x6 x7 x8].toArray 31)).alloc (.cells #[.int .i64 0, .slice none 0 0] 45)) = w2 at *
    have cx := hX.cells
    have c4 := (box_cells k4).1
    go_wp2_with fail
    refine (hra.out _ hR (by have := hb2.size; omega) hx).mono ?_
    rintro e w3 ⟨v', rfl, hR3, hb3⟩
    clear hra hR k4 c4 cx
    replace hL := hL.below hb3
    replace hE := hE.below hb3
    replace hX := hX.more hb3
    replace hx := Rv.below hx hb3
    replace hb2 := gr hb2 hb3
    clear hb3
    have hR3s := hR3
    obtain ⟨A', n', c', xs', rfl, -, -⟩ := hR3s
    go_upto_region 7 with fail
    have hba : Below w3.heap.size w3 (w3.alloc (.cells #[.int .i64 now, .slice A' n' c'] 45)) := (Below.refl _ _).alloc (Nat.le_refl _) _
    have k9 := World.alloc_heap_new w3 (.cells #[.int .i64 now, .slice A' n' c'] 45)
    have hz9 : w3.heap.size < (w3.alloc (.cells #[.int .i64 now, .slice A' n' c'] 45)).heap.size := by simp
    have hX3 := hX.size
    replace hR3 := hR3.below hba
    replace hL := hL.below hba
    replace hE := hE.below hba
    replace hX := hX.more hba
    replace hx := Rv.below hx hba
    replace hb2 := gr hb2 hba
    clear hba
    generalize (w3.alloc (.cells #[.int .i64 now, .slice A' n' c'] 45)) = w4 at *
    generalize w3.heap.size = b9 at *
    have cx := hX.cells
    go_wp2_with fail
    refine (hask.out _ hL hE hx).mono ?_
    rintro e w5 ⟨rfl, r', hL5, hN5, hk5⟩
    clear hask cx hx
    replace hR3 := hR3.kb hL hk5
    replace hX := hX.kb hk5 hB hrr
    replace k9 := (hk5.block b9 (by omega) (by omega) (fun e => by have := hrr _ e.symm; omega)).trans k9
    have hkf : Kb w w5 B r := (Kb.ofBelow hb2).trans hk5
    have hnf : Nw w r r' := fun g hg => by
      rcases hN5 g hg with h | h
      · exact .inl (Nat.le_trans hb2.size h)
      · exact .inr h
    clear hk5 hN5 hL hb2 hE hz9
    go_upto_region 8 with fail
    refine wp_region_noPanic ?_
    have c9 := (box_cells k9).1
    have hd : Below w5.heap.size w5 w5.drew := (Below.refl _ _).drew
    refine wp_region_held_drew (S := fun W => W.cell? ⟨b9, 0, none⟩ = some (.int .i64 now) ∧ W.cell? ⟨b9, 1, none⟩ = some (.slice A' n' c')) (by kernel_rfl) c9 (fun hHeld => ?_)
    have hbb : (b1 == b1) = true := by simp
    have hee : (e1 == e1) = true := by simp
    have hpost := Lib.hid (ActPost.mk (base := base) (now := now) (hX.more hd) (hL5.below hd) (hR3.below hd) (hkf.trans (Kb.ofBelow hd)) hnf (.inl rfl))
    have h7 := hX.k7
    have cc := box_cells (heap_set1 (v' := .slice A' n' c') (heap_set0 (u' := .int .i64 now) (show w5.drew.heap[w.heap.size + 2]? = _ from h7)))
    have cc1 := Lib.hid cc.1
    have cf := (box_cells h7).2
    have cf0 := (box_cells h7).1
    have c9' := Lib.hid (show (((w5.drew.setCell ⟨w.heap.size + 2, 0, none⟩ (.int .i64 now)).setCell ⟨w.heap.size + 2, 1, none⟩ (.slice A' n' c')).cell? ⟨b9, 0, none⟩ = some (.int .i64 now) ∧ ((w5.drew.setCell ⟨w.heap.size + 2, 0, none⟩ (.int .i64 now)).setCell ⟨w.heap.size + 2, 1, none⟩ (.slice A' n' c')).cell? ⟨b9, 1, none⟩ = some (.slice A' n' c')) from by
      have hne : b9 ≠ w.heap.size + 2 := by omega
      have g1 := (grownBy_at w5.drew (w.heap.size + 2) 0 (.int .i64 now)).block b9 (Array.getElem?_eq_some_iff.1 k9).1 (fun e => by injection e with e; exact hne e)
      have g2 := (grownBy_at (w5.drew.setCell ⟨w.heap.size + 2, 0, none⟩ (.int .i64 now)) (w.heap.size + 2) 1 (.slice A' n' c')).block b9 (by have := (Array.getElem?_eq_some_iff.1 k9).1; simpa using this) (fun e => by injection e with e; exact hne e)
      exact (box_cells (g2.trans (g1.trans k9))).1)
    clear cc hX hL5 hR3 hkf hnf h7 hd
    refine wpAnyH_takeL (i := 0) (v := ?vhy25) rfl (by kernel_rfl) (by kernel_rfl) (by kernel_rfl) (fun _ _ _ h => h) (Or.inl ⟨by rfl, ?hy25⟩) (by assumption) ?rhy25
    case hy25 => ((intro w hSw; (try dsimp only at hSw); go_simp); try with_reducible rfl)
    try simp only [Act.put, List.setIfInBounds_toArray, List.set_cons_zero, List.set_cons_succ]
    refine wpAnyH_takeL (i := 1) (v := ?vhy26) rfl (by kernel_rfl) (by kernel_rfl) (by kernel_rfl) (fun _ _ _ h => h) (Or.inl ⟨by rfl, ?hy26⟩) (by assumption) ?rhy26
    case hy26 => ((intro w hSw; (try dsimp only at hSw); go_simp); try with_reducible rfl)
    try simp only [Act.put, List.setIfInBounds_toArray, List.set_cons_zero, List.set_cons_succ]
    refine wpAnyH_takeL (i := 2) (v := ?vhy27) rfl (by kernel_rfl) (by kernel_rfl) (by kernel_rfl) (fun _ _ _ h => h) (Or.inl ⟨by rfl, ?hy27⟩) (by assumption) ?rhy27
    case hy27 => ((intro w hSw; (try dsimp only at hSw); go_simp); try with_reducible rfl)
    try simp only [Act.put, List.setIfInBounds_toArray, List.set_cons_zero, List.set_cons_succ]
    refine wpAnyH_takeL (i := 3) (v := ?vhy28) rfl (by kernel_rfl) (by kernel_rfl) (by kernel_rfl) (fun _ _ _ h => h) (Or.inl ⟨by rfl, ?hy28⟩) (by assumption) ?rhy28
    case hy28 => ((intro w hSw; (try dsimp only at hSw); go_simp); try with_reducible rfl)
    try simp only [Act.put, List.setIfInBounds_toArray, List.set_cons_zero, List.set_cons_succ]
    refine wpAnyH_takeL (i := 4) (v := ?vhy29) rfl (by kernel_rfl) (by kernel_rfl) (by kernel_rfl) (fun _ _ _ h => h) (Or.inl ⟨by rfl, ?hy29⟩) (by assumption) ?rhy29
    case hy29 => ((intro w hSw; (try dsimp only at hSw); go_simp); try with_reducible rfl)
    try simp only [Act.put, List.setIfInBounds_toArray, List.set_cons_zero, List.set_cons_succ]
    refine wpAnyH_takeL (i := 5) (v := ?vhy30) rfl (by kernel_rfl) (by kernel_rfl) (by kernel_rfl) (fun _ _ _ h => h) (Or.inl ⟨by rfl, ?hy30⟩) (by assumption) ?rhy30
    case hy30 => ((intro w hSw; (try dsimp only at hSw); go_simp); try with_reducible rfl)
    try simp only [Act.put, List.setIfInBounds_toArray, List.set_cons_zero, List.set_cons_succ]
    refine wpAnyH_takeL (i := 6) (v := ?vhy31) rfl (by kernel_rfl) (by kernel_rfl) (by kernel_rfl) (fun _ _ _ h => h) (Or.inl ⟨by rfl, ?hy31⟩) (by assumption) ?rhy31
    case hy31 => ((intro w hSw; (try dsimp only at hSw); go_simp); try with_reducible rfl)
    try simp only [Act.put, List.setIfInBounds_toArray, List.set_cons_zero, List.set_cons_succ]
    refine wpAnyH_takeL (i := 8) (v := ?vhy32) rfl (by kernel_rfl) (by kernel_rfl) (by kernel_rfl) (fun _ _ _ h => h) (Or.inl ⟨by rfl, ?hy32⟩) (by assumption) ?rhy32
    case hy32 => ((intro w hSw; (try dsimp only at hSw); go_simp); try with_reducible rfl)
    try simp only [Act.put, List.setIfInBounds_toArray, List.set_cons_zero, List.set_cons_succ]
    refine wpAnyH_ready (rs := [7]) (by kernel_rfl) (by simp) ?_
    refine AllReadyH.consL (i := 7) rfl (fun K hK => ?_) AllReadyH.nil
    go_simp
    refine (hnum.out _ _).mono ?_
    rintro e wx ⟨rfl, rfl⟩
    refine hK.out _ _ hHeld (fun hHeld => ?_)
    clear hK
    try simp only [Act.put, List.setIfInBounds_toArray, List.set_cons_zero, List.set_cons_succ]
    refine wpAnyH_takeL (i := 9) (v := ?vhy33) rfl (by kernel_rfl) (by kernel_rfl) (by kernel_rfl) (fun _ _ _ h => h) (Or.inl ⟨by rfl, ?hy33⟩) (by assumption) ?rhy33
    case hy33 => ((intro w hSw; (try dsimp only at hSw); go_simp); try with_reducible rfl)
    try simp only [Act.put, List.setIfInBounds_toArray, List.set_cons_zero, List.set_cons_succ]
    refine wpAnyH_takeL (i := 10) (v := ?vhy34) rfl (by kernel_rfl) (by kernel_rfl) (by kernel_rfl) (fun _ _ _ h => h) (Or.inl ⟨by rfl, ?hy34⟩) (by assumption) ?rhy34
    case hy34 => ((intro w hSw; (try dsimp only at hSw); go_simp); try with_reducible rfl)
    try simp only [Act.put, List.setIfInBounds_toArray, List.set_cons_zero, List.set_cons_succ]
    refine wpAnyH_takeL (i := 11) (v := ?vhy35) rfl (by kernel_rfl) (by kernel_rfl) (by kernel_rfl) (fun _ _ _ h => h) (Or.inl ⟨by rfl, ?hy35⟩) (by assumption) ?rhy35
    case hy35 => ((intro w hSw; (try dsimp only at hSw); go_simp); try with_reducible rfl)
    try simp only [Act.put, List.setIfInBounds_toArray, List.set_cons_zero, List.set_cons_succ]
    refine wpAnyH_ready (rs := [12]) (by kernel_rfl) (by simp) ?_
    refine AllReadyH.consL (i := 12) rfl (fun K hK => ?_) AllReadyH.nil
    go_simp
    refine hK.out _ _ c9'.out (fun hHeld => ?_)
    clear hK
    try simp only [Act.put, List.setIfInBounds_toArray, List.set_cons_zero, List.set_cons_succ]
    refine wpAnyH_takeL (i := 13) (v := ?vhy36) rfl (by kernel_rfl) (by kernel_rfl) (by kernel_rfl) (fun _ _ _ h => h) (Or.inl ⟨by rfl, ?hy36⟩) (by assumption) ?rhy36
    case hy36 => ((intro w hSw; (try dsimp only at hSw); go_simp); try with_reducible rfl)
    try simp only [Act.put, List.setIfInBounds_toArray, List.set_cons_zero, List.set_cons_succ]
    refine wpAnyH_done (by kernel_rfl) ?_ _
    refine NoPanic.normal ?_
    clear hHeld c9 cf cf0
    go_wp2
    refine bodyPost_ret (results_a rfl _ _ rfl rfl rfl cc1.out.1 cc1.out.2) rfl ?_
    exact hpost.out
  · skip
    simp only [Ac.cells] at hX k4 hb2 hL hR hE hx ⊢
    go_enter Tryd.func16, Tryd.ntmps16
    go_upto_region 1 with fail
    generalize (((w.alloc (.cells #[.int .i64 now, .slice A n c] 45)).alloc (.cells [.int .i64 3, .int .i64 x1, .int .i64 x2, .bool x3, .slice x6 x7 x8].toArray 31)).alloc (.cells #[.int .i64 0, .slice none 0 0] 45)) = w2 at *
    have cx := hX.cells
    have c4 := (box_cells k4).1
    go_wp2_with fail
    refine (hra.out _ hR (by have := hb2.size; omega) hx).mono ?_
    rintro e w3 ⟨v', rfl, hR3, hb3⟩
    clear hra hR k4 c4 cx
    replace hL := hL.below hb3
    replace hE := hE.below hb3
    replace hX := hX.more hb3
    replace hx := Rv.below hx hb3
    replace hb2 := gr hb2 hb3
    clear hb3
    have hR3s := hR3
    obtain ⟨A', n', c', xs', rfl, -, -⟩ := hR3s
    go_upto_region 7 with fail
    have hba : Below w3.heap.size w3 (w3.alloc (.cells #[.int .i64 now, .slice A' n' c'] 45)) := (Below.refl _ _).alloc (Nat.le_refl _) _
    have k9 := World.alloc_heap_new w3 (.cells #[.int .i64 now, .slice A' n' c'] 45)
    have hz9 : w3.heap.size < (w3.alloc (.cells #[.int .i64 now, .slice A' n' c'] 45)).heap.size := by simp
    have hX3 := hX.size
    replace hR3 := hR3.below hba
    replace hL := hL.below hba
    replace hE := hE.below hba
    replace hX := hX.more hba
    replace hx := Rv.below hx hba
    replace hb2 := gr hb2 hba
    clear hba
    generalize (w3.alloc (.cells #[.int .i64 now, .slice A' n' c'] 45)) = w4 at *
    generalize w3.heap.size = b9 at *
    have cx := hX.cells
    go_wp2_with fail
    refine (hask.out _ hL hE hx).mono ?_
    rintro e w5 ⟨rfl, r', hL5, hN5, hk5⟩
    clear hask cx hx
    replace hR3 := hR3.kb hL hk5
    replace hX := hX.kb hk5 hB hrr
    replace k9 := (hk5.block b9 (by omega) (by omega) (fun e => by have := hrr _ e.symm; omega)).trans k9
    have hkf : Kb w w5 B r := (Kb.ofBelow hb2).trans hk5
    have hnf : Nw w r r' := fun g hg => by
      rcases hN5 g hg with h | h
      · exact .inl (Nat.le_trans hb2.size h)
      · exact .inr h
    clear hk5 hN5 hL hb2 hE hz9
    go_upto_region 8 with fail
    refine wp_region_noPanic ?_
    have c9 := (box_cells k9).1
    have hd : Below w5.heap.size w5 w5.drew := (Below.refl _ _).drew
    refine wp_region_held_drew (S := fun W => W.cell? ⟨b9, 0, none⟩ = some (.int .i64 now) ∧ W.cell? ⟨b9, 1, none⟩ = some (.slice A' n' c')) (by kernel_rfl) c9 (fun hHeld => ?_)
    have hbb : (b1 == b1) = true := by simp
    have hee : (e1 == e1) = true := by simp
    have hpost := Lib.hid (ActPost.mk (base := base) (now := now) (hX.more hd) (hL5.below hd) (hR3.below hd) (hkf.trans (Kb.ofBelow hd)) hnf (.inl rfl))
    have h7 := hX.k7
    have cc := box_cells (heap_set1 (v' := .slice A' n' c') (heap_set0 (u' := .int .i64 now) (show w5.drew.heap[w.heap.size + 2]? = _ from h7)))
    have cc1 := Lib.hid cc.1
    have cf := (box_cells h7).2
    have cf0 := (box_cells h7).1
    have c9' := Lib.hid (show (((w5.drew.setCell ⟨w.heap.size + 2, 0, none⟩ (.int .i64 now)).setCell ⟨w.heap.size + 2, 1, none⟩ (.slice A' n' c')).cell? ⟨b9, 0, none⟩ = some (.int .i64 now) ∧ ((w5.drew.setCell ⟨w.heap.size + 2, 0, none⟩ (.int .i64 now)).setCell ⟨w.heap.size + 2, 1, none⟩ (.slice A' n' c')).cell? ⟨b9, 1, none⟩ = some (.slice A' n' c')) from by
      have hne : b9 ≠ w.heap.size + 2 := by omega
      have g1 := (grownBy_at w5.drew (w.heap.size + 2) 0 (.int .i64 now)).block b9 (Array.getElem?_eq_some_iff.1 k9).1 (fun e => by injection e with e; exact hne e)
      have g2 := (grownBy_at (w5.drew.setCell ⟨w.heap.size + 2, 0, none⟩ (.int .i64 now)) (w.heap.size + 2) 1 (.slice A' n' c')).block b9 (by have := (Array.getElem?_eq_some_iff.1 k9).1; simpa using this) (fun e => by injection e with e; exact hne e)
      exact (box_cells (g2.trans (g1.trans k9))).1)
    clear cc hX hL5 hR3 hkf hnf h7 hd
    refine wpAnyH_takeL (i := 0) (v := ?vhy37) rfl (by kernel_rfl) (by kernel_rfl) (by kernel_rfl) (fun _ _ _ h => h) (Or.inl ⟨by rfl, ?hy37⟩) (by assumption) ?rhy37
    case hy37 => ((intro w hSw; (try dsimp only at hSw); go_simp); try with_reducible rfl)
    try simp only [Act.put, List.setIfInBounds_toArray, List.set_cons_zero, List.set_cons_succ]
    refine wpAnyH_takeL (i := 1) (v := ?vhy38) rfl (by kernel_rfl) (by kernel_rfl) (by kernel_rfl) (fun _ _ _ h => h) (Or.inl ⟨by rfl, ?hy38⟩) (by assumption) ?rhy38
    case hy38 => ((intro w hSw; (try dsimp only at hSw); go_simp); try with_reducible rfl)
    try simp only [Act.put, List.setIfInBounds_toArray, List.set_cons_zero, List.set_cons_succ]
    refine wpAnyH_takeL (i := 2) (v := ?vhy39) rfl (by kernel_rfl) (by kernel_rfl) (by kernel_rfl) (fun _ _ _ h => h) (Or.inl ⟨by rfl, ?hy39⟩) (by assumption) ?rhy39
    case hy39 => ((intro w hSw; (try dsimp only at hSw); go_simp); try with_reducible rfl)
    try simp only [Act.put, List.setIfInBounds_toArray, List.set_cons_zero, List.set_cons_succ]
    refine wpAnyH_takeL (i := 3) (v := ?vhy40) rfl (by kernel_rfl) (by kernel_rfl) (by kernel_rfl) (fun _ _ _ h => h) (Or.inl ⟨by rfl, ?hy40⟩) (by assumption) ?rhy40
    case hy40 => ((intro w hSw; (try dsimp only at hSw); go_simp); try with_reducible rfl)
    try simp only [Act.put, List.setIfInBounds_toArray, List.set_cons_zero, List.set_cons_succ]
    refine wpAnyH_takeL (i := 4) (v := ?vhy41) rfl (by kernel_rfl) (by kernel_rfl) (by kernel_rfl) (fun _ _ _ h => h) (Or.inl ⟨by rfl, ?hy41⟩) (by assumption) ?rhy41
    case hy41 => ((intro w hSw; (try dsimp only at hSw); go_simp); try with_reducible rfl)
    try simp only [Act.put, List.setIfInBounds_toArray, List.set_cons_zero, List.set_cons_succ]
    refine wpAnyH_takeL (i := 5) (v := ?vhy42) rfl (by kernel_rfl) (by kernel_rfl) (by kernel_rfl) (fun _ _ _ h => h) (Or.inl ⟨by rfl, ?hy42⟩) (by assumption) ?rhy42
    case hy42 => ((intro w hSw; (try dsimp only at hSw); go_simp); try with_reducible rfl)
    try simp only [Act.put, List.setIfInBounds_toArray, List.set_cons_zero, List.set_cons_succ]
    refine wpAnyH_takeL (i := 6) (v := ?vhy43) rfl (by kernel_rfl) (by kernel_rfl) (by kernel_rfl) (fun _ _ _ h => h) (Or.inl ⟨by rfl, ?hy43⟩) (by assumption) ?rhy43
    case hy43 => ((intro w hSw; (try dsimp only at hSw); go_simp); try with_reducible rfl)
    try simp only [Act.put, List.setIfInBounds_toArray, List.set_cons_zero, List.set_cons_succ]
    refine wpAnyH_takeL (i := 8) (v := ?vhy44) rfl (by kernel_rfl) (by kernel_rfl) (by kernel_rfl) (fun _ _ _ h => h) (Or.inl ⟨by rfl, ?hy44⟩) (by assumption) ?rhy44
    case hy44 => ((intro w hSw; (try dsimp only at hSw); go_simp); try with_reducible rfl)
    try simp only [Act.put, List.setIfInBounds_toArray, List.set_cons_zero, List.set_cons_succ]
    refine wpAnyH_ready (rs := [7]) (by kernel_rfl) (by simp) ?_
    refine AllReadyH.consL (i := 7) rfl (fun K hK => ?_) AllReadyH.nil
    go_simp
    refine (hnum.out _ _).mono ?_
    rintro e wx ⟨rfl, rfl⟩
    refine hK.out _ _ hHeld (fun hHeld => ?_)
    clear hK
    try simp only [Act.put, List.setIfInBounds_toArray, List.set_cons_zero, List.set_cons_succ]
    refine wpAnyH_takeL (i := 9) (v := ?vhy45) rfl (by kernel_rfl) (by kernel_rfl) (by kernel_rfl) (fun _ _ _ h => h) (Or.inl ⟨by rfl, ?hy45⟩) (by assumption) ?rhy45
    case hy45 => ((intro w hSw; (try dsimp only at hSw); go_simp); try with_reducible rfl)
    try simp only [Act.put, List.setIfInBounds_toArray, List.set_cons_zero, List.set_cons_succ]
    refine wpAnyH_takeL (i := 10) (v := ?vhy46) rfl (by kernel_rfl) (by kernel_rfl) (by kernel_rfl) (fun _ _ _ h => h) (Or.inl ⟨by rfl, ?hy46⟩) (by assumption) ?rhy46
    case hy46 => ((intro w hSw; (try dsimp only at hSw); go_simp); try with_reducible rfl)
    try simp only [Act.put, List.setIfInBounds_toArray, List.set_cons_zero, List.set_cons_succ]
    refine wpAnyH_takeL (i := 11) (v := ?vhy47) rfl (by kernel_rfl) (by kernel_rfl) (by kernel_rfl) (fun _ _ _ h => h) (Or.inl ⟨by rfl, ?hy47⟩) (by assumption) ?rhy47
    case hy47 => ((intro w hSw; (try dsimp only at hSw); go_simp); try with_reducible rfl)
    try simp only [Act.put, List.setIfInBounds_toArray, List.set_cons_zero, List.set_cons_succ]
    refine wpAnyH_ready (rs := [12]) (by kernel_rfl) (by simp) ?_
    refine AllReadyH.consL (i := 12) rfl (fun K hK => ?_) AllReadyH.nil
    go_simp
    refine hK.out _ _ c9'.out (fun hHeld => ?_)
    clear hK
    try simp only [Act.put, List.setIfInBounds_toArray, List.set_cons_zero, List.set_cons_succ]
    refine wpAnyH_takeL (i := 13) (v := ?vhy48) rfl (by kernel_rfl) (by kernel_rfl) (by kernel_rfl) (fun _ _ _ h => h) (Or.inl ⟨by rfl, ?hy48⟩) (by assumption) ?rhy48
    case hy48 => ((intro w hSw; (try dsimp only at hSw); go_simp); try with_reducible rfl)
    try simp only [Act.put, List.setIfInBounds_toArray, List.set_cons_zero, List.set_cons_succ]
    refine wpAnyH_done (by kernel_rfl) ?_ _
    refine NoPanic.normal ?_
    clear hHeld c9 cf cf0
    go_wp2
    refine bodyPost_ret (results_a rfl _ _ rfl rfl rfl cc1.out.1 cc1.out.2) rfl ?_
    exact hpost.out
end
end Go.Proofs.YtnjhhibjcfjhnaaDoor
