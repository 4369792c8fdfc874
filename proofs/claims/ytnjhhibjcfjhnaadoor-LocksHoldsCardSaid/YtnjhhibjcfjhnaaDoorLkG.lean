/- Locks: Ask. -/
import Derived.Test.YtnjhhibjcfjhnaaDoorLkF
namespace Go.Proofs.YtnjhhibjcfjhnaaDoor
open Go.RowKit
set_option linter.unusedVariables false

/-- All that lay, lies, but for a block and a row's block. -/
structure Kb (w w' : World) (B : Nat) (r : Option Nat) : Prop where
  os : w'.os = w.os
  tape : w'.tape = w.tape
  output : w'.output = w.output
  size : w.heap.size ≤ w'.heap.size
  block : ∀ k, k < w.heap.size → k ≠ B → some k ≠ r → w'.heap[k]? = w.heap[k]?
theorem Kb.ofGrown {w w' : World} {B : Nat} {r : Option Nat} (h : w.grownBy w' (some B)) : Kb w w' B r := ⟨h.os, h.tape, h.output, h.size, fun k hk h1 _ => h.block k hk (fun e => h1 (by injection e))⟩
theorem Kb.ofRow {w w' : World} {B : Nat} {r : Option Nat} (h : w.grownBy w' r) : Kb w w' B r := ⟨h.os, h.tape, h.output, h.size, fun k hk _ h2 => h.block k hk h2⟩
theorem Kb.ofBelow {w w' : World} {B : Nat} {r : Option Nat} (h : Below w.heap.size w w') : Kb w w' B r := ⟨h.os, h.tape, h.output, h.size, fun k hk _ _ => h.block k hk⟩
theorem Kb.trans {a b c : World} {B : Nat} {r : Option Nat} (h : Kb a b B r) (k : Kb b c B r) : Kb a c B r :=
  ⟨k.os.trans h.os, k.tape.trans h.tape, k.output.trans h.output, Nat.le_trans h.size k.size, fun j hj h1 h2 => (k.block j (Nat.lt_of_lt_of_le hj h.size) h1 h2).trans (h.block j hj h1 h2)⟩
theorem Kb.transNew {a b c : World} {B : Nat} {r q : Option Nat} (h : Kb a b B r) (k : Kb b c B q) (hq : ∀ x, q = some x → a.heap.size ≤ x) : Kb a c B r :=
  ⟨k.os.trans h.os, k.tape.trans h.tape, k.output.trans h.output, Nat.le_trans h.size k.size, fun j hj h1 h2 => (k.block j (Nat.lt_of_lt_of_le hj h.size) h1 (fun e => by have := hq j e.symm; omega)).trans (h.block j hj h1 h2)⟩
theorem Kb.below {w w' : World} {B H : Nat} {r : Option Nat} (h : Kb w w' B r) (hH : H ≤ w.heap.size) (hB : H ≤ B) (hr : ∀ x, r = some x → H ≤ x) : Below H w w' :=
  ⟨h.os, h.tape, h.output, h.size, fun k hk => h.block k (by omega) (by omega) (fun e => by have := hr k e.symm; omega)⟩
theorem acells_one_of (x : Ak) : acells [x] = x.cells := by simp [acells]
/-- The ask that comes. -/
def newAk (s now wait : Int) (first : Bool) (ws : List Wt) (D : Option Addr) (m d : Nat) : Ak := ⟨s, now, wait, first, false, ws, D, m, d⟩

theorem LK.app {w w' : World} {base B : Nat} {now : Int} {A A' : Option Addr} {n c c' : Nat} {xs : List Ak} {x : Ak} (h : LK w base B now A n c xs) (hO : Ov w' base 74 6 A' (n + 1) c' (acells xs ++ x.cells)) (hg : w.grownBy w' (ab A))
    (hx : Ov w base 64 2 x.A x.n x.c (wcells x.W)) : w'.heap[B]? = some (.cells #[.int .i64 now, .slice A n c] 69 (0, 0)) ∧ LK (w'.setCell ⟨B, 1, none⟩ (.slice A' (n + 1) c')) base B now A' (n + 1) c' (xs ++ [x]) := by
  have hbox := (hg.block B h.lt (fun e => h.own.ne h.box (by decide) e.symm)).trans h.box
  have hO' : Ov w' base 74 6 A' (n + 1) c' (acells (xs ++ [x])) := by rw [acells_app, acells_one_of]; exact hO
  have ht : ∀ y ∈ xs ++ [x], Ov w' base 64 2 y.A y.n y.c (wcells y.W) := fun y hy => by
    have hy' : Ov w base 64 2 y.A y.n y.c (wcells y.W) := by
      rcases List.mem_append.1 hy with hy | hy
      · exact h.tabs y hy
      · rw [List.mem_singleton.1 hy]; exact hx
    exact hy'.grown hg (hy'.neOv h.own (by decide))
  exact ⟨hbox, h.ge, heap_set1 hbox, hO'.grown (grownBy_at w' B 1 _) (fun b hb e => hO'.ne hbox (by decide) (by rw [hb, e])), fun y hy => (ht y hy).grown (grownBy_at w' B 1 _) (fun b hb e => (ht y hy).ne hbox (by decide) (by rw [hb, e]))⟩
theorem box_cells {w : World} {B : Nat} {u v : Value} {t : TypeId} (h : w.heap[B]? = some (.cells #[u, v] t (0, 0))) : (w.cell? ⟨B, 0, none⟩ = some u ∧ w.cell? ⟨B, 1, none⟩ = some v) ∧ ∀ j, w.frozen? ⟨B, j, none⟩ = false := by
  simp [World.cell?, World.frozen?, h]

set_option maxRecDepth 100000 in
set_option maxHeartbeats 4000000 in
theorem Ask_any {w : World} {base B : Nat} {now : Int} {A : Option Addr} {n c : Nat} {xs : List Ak} (h : LK w base B now A n c xs) (hE : Env w) (s wait : Int) (first : Bool) (D : Option Addr) (m d : Nat) (ws : List Wt) (hr : Rv w 2 D m d (wcells ws)) (hn : n < 19) (hm : m ≤ 100000) :
    Calls Tryd.prog 11 #[.pointer (some ⟨B, 0, none⟩), .int .i64 s, .bool first, .int .i64 wait, .slice D m d] w fun e w' =>
      (askedK s wait ws xs ≠ 0 ∧ e = .returned (.tuple #[.bool false, .int .i64 (askedK s wait ws xs)]) ∧ Below w.heap.size w w') ∨
      (askedK s wait ws xs = 0 ∧ ∃ A' c' D' d', e = .returned (.tuple #[.bool (heldK s (settleK (xs ++ [newAk s now wait first ws D' m d'])).1), .int .i64 0]) ∧ LK w' base B now A' (n + 1) c' (settleK (xs ++ [newAk s now wait first ws D' m d'])).1 ∧
        (∀ g, ab A' = some g → w.heap.size ≤ g) ∧ Kb w w' B (ab A)) := by
  have hak := Lib.hid (Asked_any h s wait D m d ws hr)
  have hL := Lib.hid (fun W (hW : Below w.heap.size w W) => h.below hW)
  have hbw : base ≤ w.heap.size := Nat.le_of_lt (Nat.lt_of_le_of_lt h.ge h.lt)
  by_cases hk : askedK s wait ws xs = 0
  · rw [hk] at hak ⊢
    refine Calls.mono (R := fun e w' => ∃ A' c' D' d', e = .returned (.tuple #[.bool (heldK s (settleK (xs ++ [newAk s now wait first ws D' m d'])).1), .int .i64 0]) ∧ LK w' base B now A' (n + 1) c' (settleK (xs ++ [newAk s now wait first ws D' m d'])).1 ∧
        (∀ g, ab A' = some g → w.heap.size ≤ g) ∧ Kb w w' B (ab A)) ?_ (fun e w' q => .inr ⟨rfl, q⟩)
    have eF : faultV s 0 = .nilIface := if_pos rfl
    rw [eF] at hak
    clear eF
    have hrh := Lib.hid (fun W (hW : Below w.heap.size w W) => hr.below hW)
    clear hr h
    go_enter Tryd.func11, Tryd.ntmps11
    go_wp2_with fail
    refine hak.out.mono ?_
    rintro e w1 ⟨rfl, hb1⟩
    clear hak
    go_wp2_with fail
    refine wp_region_noPanic ?_
    have h1 := hL.out w1 hb1
    have hS := h1.cells
    refine wp_region_C (C := fun j w' => (j = 18 ∨ j = 19 ∨ j = 20) ∨ (w'.cell? ⟨B, 0, none⟩ = some (.int .i64 now) ∧ w'.cell? ⟨B, 1, none⟩ = some (.slice A n c))) (by kernel_rfl) ?_
    replace hS : w1.drew.cell? ⟨B, 0, none⟩ = some (.int .i64 now) ∧ w1.drew.cell? ⟨B, 1, none⟩ = some (.slice A n c) := hS
    refine wpAnyC_takeL (S := (fun w' => w'.cell? ⟨B, 0, none⟩ = some (.int .i64 now) ∧ w'.cell? ⟨B, 1, none⟩ = some (.slice A n c))) (i := 0) (v := ?vhw1) rfl (by kernel_rfl) (by kernel_rfl) (by kernel_rfl) (fun _ _ _ h => h) (Or.inl ⟨by rfl, ?hw1⟩) ?shw1 ?chw1 ?ihw1 ?rhw1
    case hw1 => ((intro w hSw; (try dsimp only at hSw); (try obtain ⟨hSw1, hSw2⟩ := hSw); go_simp); try with_reducible rfl)
    case shw1 => assumption
    case chw1 => exact fun j w _ _ hw hc => hc.elim (fun e => by rcases e with rfl | rfl | rfl <;> exact (Bool.false_ne_true (hw.symm.trans (by kernel_rfl))).elim) id
    case ihw1 => exact fun w h => .inr h
    try simp only [Act.put, List.setIfInBounds_toArray, List.set_cons_zero, List.set_cons_succ]
    refine wpAnyC_takeL (S := (fun w' => w'.cell? ⟨B, 0, none⟩ = some (.int .i64 now) ∧ w'.cell? ⟨B, 1, none⟩ = some (.slice A n c))) (i := 1) (v := ?vhw2) rfl (by kernel_rfl) (by kernel_rfl) (by kernel_rfl) (fun _ _ _ h => h) (Or.inl ⟨by rfl, ?hw2⟩) ?shw2 ?chw2 ?ihw2 ?rhw2
    case hw2 => ((intro w hSw; (try dsimp only at hSw); (try obtain ⟨hSw1, hSw2⟩ := hSw); go_simp); try with_reducible rfl)
    case shw2 => assumption
    case chw2 => exact fun j w _ _ hw hc => hc.elim (fun e => by rcases e with rfl | rfl | rfl <;> exact (Bool.false_ne_true (hw.symm.trans (by kernel_rfl))).elim) id
    case ihw2 => exact fun w h => .inr h
    try simp only [Act.put, List.setIfInBounds_toArray, List.set_cons_zero, List.set_cons_succ]
    refine wpAnyC_takeL (S := (fun w' => w'.cell? ⟨B, 0, none⟩ = some (.int .i64 now) ∧ w'.cell? ⟨B, 1, none⟩ = some (.slice A n c))) (i := 2) (v := ?vhw3) rfl (by kernel_rfl) (by kernel_rfl) (by kernel_rfl) (fun _ _ _ h => h) (Or.inl ⟨by rfl, ?hw3⟩) ?shw3 ?chw3 ?ihw3 ?rhw3
    case hw3 => ((intro w hSw; (try dsimp only at hSw); (try obtain ⟨hSw1, hSw2⟩ := hSw); go_simp); try with_reducible rfl)
    case shw3 => assumption
    case chw3 => exact fun j w _ _ hw hc => hc.elim (fun e => by rcases e with rfl | rfl | rfl <;> exact (Bool.false_ne_true (hw.symm.trans (by kernel_rfl))).elim) id
    case ihw3 => exact fun w h => .inr h
    try simp only [Act.put, List.setIfInBounds_toArray, List.set_cons_zero, List.set_cons_succ]
    refine wpAnyC_takeL (S := (fun w' => w'.cell? ⟨B, 0, none⟩ = some (.int .i64 now) ∧ w'.cell? ⟨B, 1, none⟩ = some (.slice A n c))) (i := 3) (v := ?vhw4) rfl (by kernel_rfl) (by kernel_rfl) (by kernel_rfl) (fun _ _ _ h => h) (Or.inl ⟨by rfl, ?hw4⟩) ?shw4 ?chw4 ?ihw4 ?rhw4
    case hw4 => ((intro w hSw; (try dsimp only at hSw); (try obtain ⟨hSw1, hSw2⟩ := hSw); go_simp); try with_reducible rfl)
    case shw4 => assumption
    case chw4 => exact fun j w _ _ hw hc => hc.elim (fun e => by rcases e with rfl | rfl | rfl <;> exact (Bool.false_ne_true (hw.symm.trans (by kernel_rfl))).elim) id
    case ihw4 => exact fun w h => .inr h
    try simp only [Act.put, List.setIfInBounds_toArray, List.set_cons_zero, List.set_cons_succ]
    refine wpAnyC_takeL (S := (fun w' => w'.cell? ⟨B, 0, none⟩ = some (.int .i64 now) ∧ w'.cell? ⟨B, 1, none⟩ = some (.slice A n c))) (i := 4) (v := ?vhw5) rfl (by kernel_rfl) (by kernel_rfl) (by kernel_rfl) (fun _ _ _ h => h) (Or.inl ⟨by rfl, ?hw5⟩) ?shw5 ?chw5 ?ihw5 ?rhw5
    case hw5 => ((intro w hSw; (try dsimp only at hSw); (try obtain ⟨hSw1, hSw2⟩ := hSw); go_simp); try with_reducible rfl)
    case shw5 => assumption
    case chw5 => exact fun j w _ _ hw hc => hc.elim (fun e => by rcases e with rfl | rfl | rfl <;> exact (Bool.false_ne_true (hw.symm.trans (by kernel_rfl))).elim) id
    case ihw5 => exact fun w h => .inr h
    try simp only [Act.put, List.setIfInBounds_toArray, List.set_cons_zero, List.set_cons_succ]
    refine wpAnyC_takeL (S := (fun w' => w'.cell? ⟨B, 0, none⟩ = some (.int .i64 now) ∧ w'.cell? ⟨B, 1, none⟩ = some (.slice A n c))) (i := 5) (v := ?vhw6) rfl (by kernel_rfl) (by kernel_rfl) (by kernel_rfl) (fun _ _ _ h => h) (Or.inl ⟨by rfl, ?hw6⟩) ?shw6 ?chw6 ?ihw6 ?rhw6
    case hw6 => ((intro w hSw; (try dsimp only at hSw); (try obtain ⟨hSw1, hSw2⟩ := hSw); go_simp); try with_reducible rfl)
    case shw6 => assumption
    case chw6 => exact fun j w _ _ hw hc => hc.elim (fun e => by rcases e with rfl | rfl | rfl <;> exact (Bool.false_ne_true (hw.symm.trans (by kernel_rfl))).elim) id
    case ihw6 => exact fun w h => .inr h
    try simp only [Act.put, List.setIfInBounds_toArray, List.set_cons_zero, List.set_cons_succ]
    refine wpAnyC_takeL (S := (fun w' => w'.cell? ⟨B, 0, none⟩ = some (.int .i64 now) ∧ w'.cell? ⟨B, 1, none⟩ = some (.slice A n c))) (i := 8) (v := ?vhw7) rfl (by kernel_rfl) (by kernel_rfl) (by kernel_rfl) (fun _ _ _ h => h) (Or.inl ⟨by rfl, ?hw7⟩) ?shw7 ?chw7 ?ihw7 ?rhw7
    case hw7 => ((intro w hSw; (try dsimp only at hSw); (try obtain ⟨hSw1, hSw2⟩ := hSw); go_simp); try with_reducible rfl)
    case shw7 => assumption
    case chw7 => exact fun j w _ _ hw hc => hc.elim (fun e => by rcases e with rfl | rfl | rfl <;> exact (Bool.false_ne_true (hw.symm.trans (by kernel_rfl))).elim) id
    case ihw7 => exact fun w h => .inr h
    try simp only [Act.put, List.setIfInBounds_toArray, List.set_cons_zero, List.set_cons_succ]
    refine wpAnyC_takeL (S := (fun w' => w'.cell? ⟨B, 0, none⟩ = some (.int .i64 now) ∧ w'.cell? ⟨B, 1, none⟩ = some (.slice A n c))) (i := 9) (v := ?vhw8) rfl (by kernel_rfl) (by kernel_rfl) (by kernel_rfl) (fun _ _ _ h => h) (Or.inl ⟨by rfl, ?hw8⟩) ?shw8 ?chw8 ?ihw8 ?rhw8
    case hw8 => ((intro w hSw; (try dsimp only at hSw); (try obtain ⟨hSw1, hSw2⟩ := hSw); go_simp); try with_reducible rfl)
    case shw8 => assumption
    case chw8 => exact fun j w _ _ hw hc => hc.elim (fun e => by rcases e with rfl | rfl | rfl <;> exact (Bool.false_ne_true (hw.symm.trans (by kernel_rfl))).elim) id
    case ihw8 => exact fun w h => .inr h
    try simp only [Act.put, List.setIfInBounds_toArray, List.set_cons_zero, List.set_cons_succ]
    refine wpAnyC_takeL (S := (fun w' => w'.cell? ⟨B, 0, none⟩ = some (.int .i64 now) ∧ w'.cell? ⟨B, 1, none⟩ = some (.slice A n c))) (i := 10) (v := ?vhw9) rfl (by kernel_rfl) (by kernel_rfl) (by kernel_rfl) (fun _ _ _ h => h) (Or.inl ⟨by rfl, ?hw9⟩) ?shw9 ?chw9 ?ihw9 ?rhw9
    case hw9 => ((intro w hSw; (try dsimp only at hSw); (try obtain ⟨hSw1, hSw2⟩ := hSw); go_simp); try with_reducible rfl)
    case shw9 => assumption
    case chw9 => exact fun j w _ _ hw hc => hc.elim (fun e => by rcases e with rfl | rfl | rfl <;> exact (Bool.false_ne_true (hw.symm.trans (by kernel_rfl))).elim) id
    case ihw9 => exact fun w h => .inr h
    try simp only [Act.put, List.setIfInBounds_toArray, List.set_cons_zero, List.set_cons_succ]
    refine wpAnyC_takeL (S := (fun w' => w'.cell? ⟨B, 0, none⟩ = some (.int .i64 now) ∧ w'.cell? ⟨B, 1, none⟩ = some (.slice A n c))) (i := 11) (v := ?vhw10) rfl (by kernel_rfl) (by kernel_rfl) (by kernel_rfl) (fun _ _ _ h => h) (Or.inl ⟨by rfl, ?hw10⟩) ?shw10 ?chw10 ?ihw10 ?rhw10
    case hw10 => ((intro w hSw; (try dsimp only at hSw); (try obtain ⟨hSw1, hSw2⟩ := hSw); go_simp); try with_reducible rfl)
    case shw10 => assumption
    case chw10 => exact fun j w _ _ hw hc => hc.elim (fun e => by rcases e with rfl | rfl | rfl <;> exact (Bool.false_ne_true (hw.symm.trans (by kernel_rfl))).elim) id
    case ihw10 => exact fun w h => .inr h
    try simp only [Act.put, List.setIfInBounds_toArray, List.set_cons_zero, List.set_cons_succ]
    refine wpAnyC_takeL (S := (fun w' => w'.cell? ⟨B, 0, none⟩ = some (.int .i64 now) ∧ w'.cell? ⟨B, 1, none⟩ = some (.slice A n c))) (i := 12) (v := ?vhw11) rfl (by kernel_rfl) (by kernel_rfl) (by kernel_rfl) (fun _ _ _ h => h) (Or.inl ⟨by rfl, ?hw11⟩) ?shw11 ?chw11 ?ihw11 ?rhw11
    case hw11 => ((intro w hSw; (try dsimp only at hSw); (try obtain ⟨hSw1, hSw2⟩ := hSw); go_simp); try with_reducible rfl)
    case shw11 => assumption
    case chw11 => exact fun j w _ _ hw hc => hc.elim (fun e => by rcases e with rfl | rfl | rfl <;> exact (Bool.false_ne_true (hw.symm.trans (by kernel_rfl))).elim) id
    case ihw11 => exact fun w h => .inr h
    try simp only [Act.put, List.setIfInBounds_toArray, List.set_cons_zero, List.set_cons_succ]
    refine wpAnyC_takeL (S := (fun w' => w'.cell? ⟨B, 0, none⟩ = some (.int .i64 now) ∧ w'.cell? ⟨B, 1, none⟩ = some (.slice A n c))) (i := 13) (v := ?vhw12) rfl (by kernel_rfl) (by kernel_rfl) (by kernel_rfl) (fun _ _ _ h => h) (Or.inl ⟨by rfl, ?hw12⟩) ?shw12 ?chw12 ?ihw12 ?rhw12
    case hw12 => ((intro w hSw; (try dsimp only at hSw); (try obtain ⟨hSw1, hSw2⟩ := hSw); go_simp); try with_reducible rfl)
    case shw12 => assumption
    case chw12 => exact fun j w _ _ hw hc => hc.elim (fun e => by rcases e with rfl | rfl | rfl <;> exact (Bool.false_ne_true (hw.symm.trans (by kernel_rfl))).elim) id
    case ihw12 => exact fun w h => .inr h
    try simp only [Act.put, List.setIfInBounds_toArray, List.set_cons_zero, List.set_cons_succ]
    refine wpAnyC_takeL (S := (fun w' => w'.cell? ⟨B, 0, none⟩ = some (.int .i64 now) ∧ w'.cell? ⟨B, 1, none⟩ = some (.slice A n c))) (i := 14) (v := ?vhw13) rfl (by kernel_rfl) (by kernel_rfl) (by kernel_rfl) (fun _ _ _ h => h) (Or.inl ⟨by rfl, ?hw13⟩) ?shw13 ?chw13 ?ihw13 ?rhw13
    case hw13 => ((intro w hSw; (try dsimp only at hSw); (try obtain ⟨hSw1, hSw2⟩ := hSw); go_simp); try with_reducible rfl)
    case shw13 => assumption
    case chw13 => exact fun j w _ _ hw hc => hc.elim (fun e => by rcases e with rfl | rfl | rfl <;> exact (Bool.false_ne_true (hw.symm.trans (by kernel_rfl))).elim) id
    case ihw13 => exact fun w h => .inr h
    try simp only [Act.put, List.setIfInBounds_toArray, List.set_cons_zero, List.set_cons_succ]
    refine wpAnyC_ready (rs := [6]) (by kernel_rfl) (by simp) ?_
    refine (AllReadyC.consL (i := 6) rfl (fun K hK => ?_) AllReadyC.nil)
    go_simp
    refine (CloneW_any D m d ws w1.drew (hrh.out _ hb1.drew) hm).mono ?_
    rintro e w2 ⟨D', d', rfl, hD, hb2⟩
    have hbb := hb1.size
    have hb2' : Below w.heap.size w w2 := gr hb1.drew hb2
    have h2 := hL.out w2 hb2'
    replace hS := h2.cells
    have hD1 : Ov w2 base 64 2 D' m d' (wcells ws) := hD.ge (by show base ≤ w1.heap.size; omega)
    refine hK.out _ _ (.inr hS) ?_
    clear hK h1
    try simp only [Act.put, List.setIfInBounds_toArray, List.set_cons_zero, List.set_cons_succ]
    refine wpAnyC_takeL (S := (fun w' => w'.cell? ⟨B, 0, none⟩ = some (.int .i64 now) ∧ w'.cell? ⟨B, 1, none⟩ = some (.slice A n c))) (i := 7) (v := ?vhw14) rfl (by kernel_rfl) (by kernel_rfl) (by kernel_rfl) (fun _ _ _ h => h) (Or.inl ⟨by rfl, ?hw14⟩) ?shw14 ?chw14 ?ihw14 ?rhw14
    case hw14 => ((intro w hSw; (try dsimp only at hSw); (try obtain ⟨hSw1, hSw2⟩ := hSw); go_simp); try with_reducible rfl)
    case shw14 => assumption
    case chw14 => exact fun j w _ _ hw hc => hc.elim (fun e => by rcases e with rfl | rfl | rfl <;> exact (Bool.false_ne_true (hw.symm.trans (by kernel_rfl))).elim) id
    case ihw14 => exact fun w h => .inr h
    try simp only [Act.put, List.setIfInBounds_toArray, List.set_cons_zero, List.set_cons_succ]
    refine wpAnyC_takeL (S := (fun w' => w'.cell? ⟨B, 0, none⟩ = some (.int .i64 now) ∧ w'.cell? ⟨B, 1, none⟩ = some (.slice A n c))) (i := 15) (v := ?vhw15) rfl (by kernel_rfl) (by kernel_rfl) (by kernel_rfl) (fun _ _ _ h => h) (Or.inl ⟨by rfl, ?hw15⟩) ?shw15 ?chw15 ?ihw15 ?rhw15
    case hw15 => ((intro w hSw; (try dsimp only at hSw); (try obtain ⟨hSw1, hSw2⟩ := hSw); go_simp); try with_reducible rfl)
    case shw15 => assumption
    case chw15 => exact fun j w _ _ hw hc => hc.elim (fun e => by rcases e with rfl | rfl | rfl <;> exact (Bool.false_ne_true (hw.symm.trans (by kernel_rfl))).elim) id
    case ihw15 => exact fun w h => .inr h
    try simp only [Act.put, List.setIfInBounds_toArray, List.set_cons_zero, List.set_cons_succ]
    refine wpAnyC_ready (rs := [16]) (by kernel_rfl) (by simp) ?_
    refine (AllReadyC.consL (i := 16) rfl (fun K hK => ?_) AllReadyC.nil)
    go_simp
    have hb3 : Below w2.heap.size w2 (w2.alloc (.cells #[.slice D' m d', .int .i64 s, .int .i64 now, .int .i64 wait, .bool first, .bool false] 74)) := (Below.refl _ _).alloc (Nat.le_refl _) _
    have h3 := h2.below hb3
    have hr3 := Rv.lit (w := w2) 74 6 [.slice D' m d', .int .i64 s, .int .i64 now, .int .i64 wait, .bool first, .bool false] 1 rfl (by decide)
    have hD3 := hD1.below hb3
    have hb3' : Below w.heap.size w (w2.alloc (.cells #[.slice D' m d', .int .i64 s, .int .i64 now, .int .i64 wait, .bool first, .bool false] 74)) := gr hb2' hb3
    replace hS := h3.cells
    refine hK.out _ _ (.inr hS) ?_
    clear hK h2 hD1 hD hb2 hb3
    generalize (w2.alloc (.cells #[.slice D' m d', .int .i64 s, .int .i64 now, .int .i64 wait, .bool first, .bool false] 74)) = w3 at *
    try simp only [Act.put, List.setIfInBounds_toArray, List.set_cons_zero, List.set_cons_succ]
    refine wpAnyC_ready (rs := [17]) (by kernel_rfl) (by simp) ?_
    refine (AllReadyC.consL (i := 17) rfl (fun K hK => ?_) AllReadyC.nil)
    refine step_append_1 _ rfl (.tmp 26) (.tmp 38) 67 rfl 74 zeroA 6 56 Tryd.underlying67 (by kernel_rfl) rfl (by decide) base A n c (acells xs) rfl h3.own _ 1 _ rfl hr3 (by simp [Value.oneCell']) (by omega) (by decide) (by have := hb3'.size; omega) ?_
    intro A' c' w4 hO4 hg4 hab4
    obtain ⟨hbox, h5⟩ := LK.app (x := newAk s now wait first ws D' m d') h3 hO4 hg4 hD3
    obtain ⟨cB, fB⟩ := box_cells hbox
    have fB1 := fB 1
    have hA' : ∀ g, ab A' = some g → (ab A = some g ∨ w.heap.size ≤ g) := fun g hg => by
      rcases hab4 with e | e
      · exact .inl (by rw [← e]; exact hg)
      · rw [e] at hg
        injection hg with hg
        exact .inr (by have := hb3'.size; omega)
    replace hS := cB
    refine hK.out _ _ (.inr hS) ?_
    clear hK
    try simp only [Act.put, List.setIfInBounds_toArray, List.set_cons_zero, List.set_cons_succ]
    refine wpAnyC_takeL (S := (fun _ => True)) (i := 18) (v := ?vhw16) rfl (by kernel_rfl) (by kernel_rfl) (by kernel_rfl) (fun _ _ _ h => h) (Or.inl ⟨by rfl, ?hw16⟩) ?shw16 ?chw16 ?ihw16 ?rhw16
    case hw16 => ((intro w hSw; (try dsimp only at hSw); (try obtain ⟨hSw1, hSw2⟩ := hSw); go_simp); try with_reducible rfl)
    case shw16 => trivial
    case chw16 => exact fun _ _ _ _ _ _ => trivial
    case ihw16 => exact fun w h => .inl (by decide)
    try simp only [Act.put, List.setIfInBounds_toArray, List.set_cons_zero, List.set_cons_succ]
    refine wpAnyC_takeL (S := (fun _ => True)) (i := 19) (v := ?vhw17) rfl (by kernel_rfl) (by kernel_rfl) (by kernel_rfl) (fun _ _ _ h => h) (Or.inl ⟨by rfl, ?hw17⟩) ?shw17 ?chw17 ?ihw17 ?rhw17
    case hw17 => ((intro w hSw; (try dsimp only at hSw); (try obtain ⟨hSw1, hSw2⟩ := hSw); go_simp); try with_reducible rfl)
    case shw17 => trivial
    case chw17 => exact fun _ _ _ _ _ _ => trivial
    case ihw17 => exact fun w h => .inl (by decide)
    try simp only [Act.put, List.setIfInBounds_toArray, List.set_cons_zero, List.set_cons_succ]
    refine wpAnyC_ready (rs := [20]) (by kernel_rfl) (by simp) ?_
    refine (AllReadyC.consL (i := 20) rfl (fun K hK => ?_) AllReadyC.nil)
    go_simp
    refine hK.out _ _ (.inl (by decide)) ?_
    clear hK
    try simp only [Act.put, List.setIfInBounds_toArray, List.set_cons_zero, List.set_cons_succ]
    refine wpAnyC_done (by kernel_rfl) ?_ _
    refine NoPanic.normal ?_
    have hkb : Kb w (w4.setCell ⟨B, 1, none⟩ (.slice A' (n + 1) c')) B (ab A) := ((Kb.ofBelow hb3').trans (Kb.ofRow hg4)).trans (Kb.ofGrown (grownBy_at w4 B 1 _))
    clear hS cB fB fB1 hbox hO4 hg4 hab4 h3 hD3 hr3 hb3' hb2'
    generalize (w4.setCell ⟨B, 1, none⟩ (.slice A' (n + 1) c')) = w5 at *
    have hse := Lib.hid (Settle_any h5 (by omega))
    go_wp2_with fail
    refine hse.out.mono ?_
    rintro e w6 ⟨A6, c6, R, d6, rfl, h6, -, hA6, hg6⟩
    have hhe := Lib.hid (Held_any h6 s (by omega))
    clear hse h5
    go_wp2_with fail
    refine hhe.out.mono ?_
    rintro e w7 ⟨rfl, hb7⟩
    clear hhe
    go_wp2
    go_ret2
    have hz := hkb.size
    exact ⟨A6, c6, D', d', rfl, h6.below hb7, fun g hg => Nat.le_trans hz (hA6 g hg), (hkb.trans (Kb.ofGrown hg6)).trans (Kb.ofBelow hb7)⟩
  · have hnu := Lib.hid (fun W (hW : Below w.heap.size w W) => Number_any s (askedK s wait ws xs) W (hE.below hW) hk)
    refine Calls.mono (R := fun e w' => e = .returned (.tuple #[.bool false, .int .i64 (askedK s wait ws xs)]) ∧ Below w.heap.size w w') ?_ (fun e w' q => .inl ⟨hk, q⟩)
    clear hr h
    generalize askedK s wait ws xs = k at *
    have eF : faultV s k = .iface 83 (.agg #[.int .i64 s, .int .i64 k]) := if_neg hk
    rw [eF] at hak hnu
    clear eF
    go_enter Tryd.func11, Tryd.ntmps11
    go_wp2_with fail
    refine hak.out.mono ?_
    rintro e w1 ⟨rfl, hb1⟩
    clear hak
    go_wp2_with fail
    refine (hnu.out _ hb1).mono ?_
    rintro e w2 ⟨rfl, hb2⟩
    clear hnu
    go_wp2
    go_ret2
    exact ⟨rfl, gr hb1 hb2⟩
end Go.Proofs.YtnjhhibjcfjhnaaDoor
