/- convert.ways: the ways between unlike types, in a map: what is kept while its entries are laid, in whatever order. convert.ways: the ways between unlike types, in a map: the walk. -/
import Derived.Test.YtagoooclfcbdeaaGreatDoorCvC
namespace Go.Proofs.YtagoooclfcbdeaaGreatDoor
open Go.RowKit
set_option linter.unusedVariables false
def OKp (v : Value) : Prop := ∃ a b, v = pr2 a b
def fnV (f : FuncId) : Value := .func (.func f) #[] #[]
def wv (f : FuncId) (s : Value) : Value := .agg #[fnV f, s]
def closV (B : Nat) : Value := .func (.func 100) #[] #[.pointer (some ⟨B, 0, none⟩)]
/-- The entries of the map, each with the number of the operation that lays it. -/
def TA (a b : Value) : List (Nat × Value × Value) :=
  [(3, pr2 1 2, wv 68 (fnV 69)), (6, pr2 2 1, wv 70 (fnV 71)), (9, pr2 1 3, wv 72 (fnV 69)), (12, pr2 2 3, wv 73 (fnV 69)), (15, pr2 3 1, wv 74 (fnV 75)), (18, pr2 3 2, wv 76 (fnV 75)), (28, pr2 1 4, a), (38, pr2 2 4, b), (41, pr2 4 1, wv 81 (fnV 69)), (44, pr2 4 2, wv 82 (fnV 69))]
def TB : List (Nat × Value × Value) := [(21, .int .i64 1, .int .i64 4), (22, .int .i64 2, .int .i64 6), (23, .int .i64 4, .int .i64 11), (24, .int .i64 8, .int .i64 20)]
def TC : List (Nat × Value × Value) := [(31, .int .i64 1, .int .i64 3), (32, .int .i64 2, .int .i64 5), (33, .int .i64 4, .int .i64 10), (34, .int .i64 8, .int .i64 20)]
theorem apart_of : ∀ {T : List (Nat × Value × Value)}, (T.Pairwise fun p q => p.1 ≠ q.1 ∧ p.2.1 ≠ q.2.1) → Apart T
  | [], _ => by intro p hp; cases hp
  | x :: T, h => by
    obtain ⟨h1, h2⟩ := List.pairwise_cons.1 h
    have ih := apart_of h2
    intro p hp q hq
    rcases List.mem_cons.1 hp with rfl | hp2
    · rcases List.mem_cons.1 hq with rfl | hq2
      · exact ⟨⟨fun _ => rfl, fun _ => rfl⟩, ⟨fun _ => rfl, fun _ => rfl⟩⟩
      · have k := h1 q hq2
        exact ⟨⟨fun e => absurd e k.1, fun e => by rw [e]⟩, ⟨fun e => absurd e k.2, fun e => by rw [e]⟩⟩
    · rcases List.mem_cons.1 hq with rfl | hq2
      · have k := h1 p hp2
        exact ⟨⟨fun e => absurd e.symm k.1, fun e => by rw [e]⟩, ⟨fun e => absurd e.symm k.2, fun e => by rw [e]⟩⟩
      · exact ih p hp2 q hq2
theorem TA_apart (a b : Value) : Apart (TA a b) := by
  refine apart_of ?_
  simp [TA, pr2_inj]
theorem TB_apart : Apart TB := by
  refine apart_of ?_
  simp [TB]
theorem TC_apart : Apart TC := by
  refine apart_of ?_
  simp [TC]
theorem Tab.retab {OK : Value → Prop} {w : World} {r : Nat} {T T' : List (Nat × Value × Value)} {g g' : Nat → Bool} (h : Tab OK w r T g) (e : ∀ n k v, ((n, k, v) ∈ T ∧ g n = true) ↔ ((n, k, v) ∈ T' ∧ g' n = true)) : Tab OK w r T' g' := by
  obtain ⟨es, clock, h1, h2, h3⟩ := h
  refine ⟨es, clock, h1, h2, fun k v => (h3 k v).trans ?_⟩
  constructor
  · rintro ⟨n, hn⟩; exact ⟨n, (e n k v).1 hn⟩
  · rintro ⟨n, hn⟩; exact ⟨n, (e n k v).2 hn⟩
theorem Tab.reA27 {w : World} {r : Nat} {a b c : Value} {g : Nat → Bool} (h : Tab OKp w r (TA a b) g) (h0 : g 27 = false) (h1 : g 28 = false) : Tab OKp w r (TA c b) (upd g 27) := by
  refine h.retab fun n k v => ?_
  by_cases e : n = 28
  · subst e; simp [upd, h1]
  by_cases e2 : n = 27
  · subst e2; simp [h0, TA]
  · simp [TA, upd, e, e2]
theorem Tab.reA37 {w : World} {r : Nat} {a b c : Value} {g : Nat → Bool} (h : Tab OKp w r (TA a b) g) (h0 : g 37 = false) (h1 : g 38 = false) : Tab OKp w r (TA a c) (upd g 37) := by
  refine h.retab fun n k v => ?_
  by_cases e : n = 38
  · subst e; simp [upd, h1]
  by_cases e2 : n = 37
  · subst e2; simp [h0, TA]
  · simp [TA, upd, e, e2]
theorem cell_ins {OK : Value → Prop} {w w' : World} {r B : Nat} {T : List (Nat × Value × Value)} {g : Nat → Bool} {v : Value} (h : Tab OK w r T g) (hw : w.grownBy w' (some r)) (hc : w.cell? ⟨B, 0, none⟩ = some v) : w'.cell? ⟨B, 0, none⟩ = some v := by
  have hB := World.block_lt_of_cell? _ _ hc
  have hne : B ≠ r := by
    rintro rfl
    obtain ⟨es, clock, h1, -⟩ := h
    simp [World.cell?, h1] at hc
  have hk := hw.block B hB (by intro q; injection q with q; exact hne q)
  unfold World.cell? at *
  rw [hk]
  exact hc
--W
structure WI (w0 : World) (g : Nat → Bool) (w : World) (x0 x1 x15 x16 x17 x18 x20 x21 x22 x23 x28 : Value) : Prop where
  below : Below w0.heap.size w0 w
  cst : ∀ k, k ∈ [1, 2, 4, 5, 7, 8, 10, 11, 13, 14, 16, 17, 19, 29, 39, 40, 42, 43] → g k = true
  m0 : g 0 = true → ∃ r, x1 = .map (some r) ∧ w0.heap.size ≤ r ∧ Tab OKp w r (TA x18 x23) g
  m1 : g 20 = true → ∃ r, x15 = .map (some r) ∧ w0.heap.size ≤ r ∧ Tab OKi w r TB g
  m2 : g 30 = true → ∃ r, x20 = .map (some r) ∧ w0.heap.size ≤ r ∧ Tab OKi w r TC g
  d01 : g 0 = true → g 20 = true → x1 ≠ x15
  d02 : g 0 = true → g 30 = true → x1 ≠ x20
  d12 : g 20 = true → g 30 = true → x15 ≠ x20
  v25 : g 25 = true → x16 = x15
  c26 : g 26 = true → ∃ B, x17 = closV B ∧ w0.heap.size ≤ B ∧ w.cell? ⟨B, 0, none⟩ = some x15
  v27 : g 27 = true → x18 = wv 77 x17
  v35 : g 35 = true → x21 = x20
  c36 : g 36 = true → ∃ B, x22 = closV B ∧ w0.heap.size ≤ B ∧ w.cell? ⟨B, 0, none⟩ = some x20
  v37 : g 37 = true → x23 = wv 80 x22
  o0 : g 0 = false → g 3 = false ∧ g 6 = false ∧ g 9 = false ∧ g 12 = false ∧ g 15 = false ∧ g 18 = false ∧ g 28 = false ∧ g 38 = false ∧ g 41 = false ∧ g 44 = false ∧ g 45 = false
  o20 : g 20 = false → g 21 = false ∧ g 22 = false ∧ g 23 = false ∧ g 24 = false ∧ g 25 = false ∧ g 26 = false
  o30 : g 30 = false → g 31 = false ∧ g 32 = false ∧ g 33 = false ∧ g 34 = false ∧ g 35 = false ∧ g 36 = false
  o26 : g 25 = false → g 26 = false
  o27 : g 26 = false → g 27 = false
  o28 : g 27 = false → g 28 = false
  o36 : g 35 = false → g 36 = false
  o37 : g 36 = false → g 37 = false
  o38 : g 37 = false → g 38 = false
  v45 : g 45 = true → x28 = x1
  v46 : g 46 = true → x0 = x28
  o46 : g 45 = false → g 46 = false
theorem WI.make0 {w0 w w' : World} {g : Nat → Bool} {x0 x1 x15 x16 x17 x18 x20 x21 x22 x23 x28 : Value} (h : WI w0 g w x0 x1 x15 x16 x17 x18 x20 x21 x22 x23 x28) (h0 : g 0 = false)  (hb : Below w.heap.size w w') (hl : w0.heap.size ≤ w.heap.size) (ht : Tab OKp w' w.heap.size (TA x18 x23) (upd g 0)) : WI w0 (upd g 0) w' x0 (.map (some w.heap.size)) x15 x16 x17 x18 x20 x21 x22 x23 x28 :=
  ⟨gr h.below hb,
   fun j hj => upd_old _ (h.cst j hj),
   fun _ => ⟨w.heap.size, rfl, hl, ht⟩,
   fun e => by obtain ⟨r, a, b, c⟩ := h.m1 e; exact ⟨r, a, b, (c.below hb).more (by simp [TB])⟩,
   fun e => by obtain ⟨r, a, b, c⟩ := h.m2 e; exact ⟨r, a, b, (c.below hb).more (by simp [TC])⟩,
   fun _ e2 => by obtain ⟨r, a, b, c⟩ := h.m1 e2; have := c.lt; rw [a]; simp; omega,
   fun _ e2 => by obtain ⟨r, a, b, c⟩ := h.m2 e2; have := c.lt; rw [a]; simp; omega,
   h.d12,
   h.v25,
   fun e => by obtain ⟨B, a, l, b⟩ := h.c26 e; exact ⟨B, a, l, (hb.cell (p := ⟨B, 0, none⟩) (World.block_lt_of_cell? _ _ b)).trans b⟩,
   h.v27,
   h.v35,
   fun e => by obtain ⟨B, a, l, b⟩ := h.c36 e; exact ⟨B, a, l, (hb.cell (p := ⟨B, 0, none⟩) (World.block_lt_of_cell? _ _ b)).trans b⟩,
   h.v37,
   fun e => absurd e (by simp [upd]),
   h.o20,
   h.o30,
   h.o26,
   h.o27,
   h.o28,
   h.o36,
   h.o37,
   h.o38,
   fun e => absurd (e.symm.trans (h.o0 h0).2.2.2.2.2.2.2.2.2.2) (by decide),
   h.v46,
   h.o46⟩
theorem WI.make20 {w0 w w' : World} {g : Nat → Bool} {x0 x1 x15 x16 x17 x18 x20 x21 x22 x23 x28 : Value} (h : WI w0 g w x0 x1 x15 x16 x17 x18 x20 x21 x22 x23 x28) (h0 : g 20 = false)  (hb : Below w.heap.size w w') (hl : w0.heap.size ≤ w.heap.size) (ht : Tab OKi w' w.heap.size TB (upd g 20)) : WI w0 (upd g 20) w' x0 x1 (.map (some w.heap.size)) x16 x17 x18 x20 x21 x22 x23 x28 :=
  ⟨gr h.below hb,
   fun j hj => upd_old _ (h.cst j hj),
   fun e => by obtain ⟨r, a, b, c⟩ := h.m0 e; exact ⟨r, a, b, (c.below hb).more (by simp [TA])⟩,
   fun _ => ⟨w.heap.size, rfl, hl, ht⟩,
   fun e => by obtain ⟨r, a, b, c⟩ := h.m2 e; exact ⟨r, a, b, (c.below hb).more (by simp [TC])⟩,
   fun e2 _ => by obtain ⟨r, a, b, c⟩ := h.m0 e2; have := c.lt; rw [a]; simp; omega,
   h.d02,
   fun _ e2 => by obtain ⟨r, a, b, c⟩ := h.m2 e2; have := c.lt; rw [a]; simp; omega,
   fun e => absurd (e.symm.trans (h.o20 h0).2.2.2.2.1) (by decide),
   fun e => absurd (e.symm.trans (h.o20 h0).2.2.2.2.2) (by decide),
   h.v27,
   h.v35,
   fun e => by obtain ⟨B, a, l, b⟩ := h.c36 e; exact ⟨B, a, l, (hb.cell (p := ⟨B, 0, none⟩) (World.block_lt_of_cell? _ _ b)).trans b⟩,
   h.v37,
   h.o0,
   fun e => absurd e (by simp [upd]),
   h.o30,
   h.o26,
   h.o27,
   h.o28,
   h.o36,
   h.o37,
   h.o38,
   h.v45,
   h.v46,
   h.o46⟩
theorem WI.make30 {w0 w w' : World} {g : Nat → Bool} {x0 x1 x15 x16 x17 x18 x20 x21 x22 x23 x28 : Value} (h : WI w0 g w x0 x1 x15 x16 x17 x18 x20 x21 x22 x23 x28) (h0 : g 30 = false)  (hb : Below w.heap.size w w') (hl : w0.heap.size ≤ w.heap.size) (ht : Tab OKi w' w.heap.size TC (upd g 30)) : WI w0 (upd g 30) w' x0 x1 x15 x16 x17 x18 (.map (some w.heap.size)) x21 x22 x23 x28 :=
  ⟨gr h.below hb,
   fun j hj => upd_old _ (h.cst j hj),
   fun e => by obtain ⟨r, a, b, c⟩ := h.m0 e; exact ⟨r, a, b, (c.below hb).more (by simp [TA])⟩,
   fun e => by obtain ⟨r, a, b, c⟩ := h.m1 e; exact ⟨r, a, b, (c.below hb).more (by simp [TB])⟩,
   fun _ => ⟨w.heap.size, rfl, hl, ht⟩,
   h.d01,
   fun e2 _ => by obtain ⟨r, a, b, c⟩ := h.m0 e2; have := c.lt; rw [a]; simp; omega,
   fun e2 _ => by obtain ⟨r, a, b, c⟩ := h.m1 e2; have := c.lt; rw [a]; simp; omega,
   h.v25,
   fun e => by obtain ⟨B, a, l, b⟩ := h.c26 e; exact ⟨B, a, l, (hb.cell (p := ⟨B, 0, none⟩) (World.block_lt_of_cell? _ _ b)).trans b⟩,
   h.v27,
   fun e => absurd (e.symm.trans (h.o30 h0).2.2.2.2.1) (by decide),
   fun e => absurd (e.symm.trans (h.o30 h0).2.2.2.2.2) (by decide),
   h.v37,
   h.o0,
   h.o20,
   fun e => absurd e (by simp [upd]),
   h.o26,
   h.o27,
   h.o28,
   h.o36,
   h.o37,
   h.o38,
   h.v45,
   h.v46,
   h.o46⟩
theorem WI.move25 {w0 w : World} {g : Nat → Bool} {x0 x1 x15 x16 x17 x18 x20 x21 x22 x23 x28 : Value} (h : WI w0 g w x0 x1 x15 x16 x17 x18 x20 x21 x22 x23 x28) (h0 : g 25 = false) (hg20 : g 20 = true) : WI w0 (upd g 25) w x0 x1 x15 x15 x17 x18 x20 x21 x22 x23 x28 :=
  ⟨h.below,
   fun j hj => upd_old _ (h.cst j hj),
   fun e => by obtain ⟨r, a, b, c⟩ := h.m0 e; exact ⟨r, a, b, c.more (by simp [TA])⟩,
   fun e => by obtain ⟨r, a, b, c⟩ := h.m1 e; exact ⟨r, a, b, c.more (by simp [TB])⟩,
   fun e => by obtain ⟨r, a, b, c⟩ := h.m2 e; exact ⟨r, a, b, c.more (by simp [TC])⟩,
   h.d01,
   h.d02,
   h.d12,
   fun _ => rfl,
   h.c26,
   h.v27,
   h.v35,
   h.c36,
   h.v37,
   h.o0,
   fun e => absurd (e.symm.trans hg20) (by decide),
   h.o30,
   fun e => absurd e (by simp [upd]),
   h.o27,
   h.o28,
   h.o36,
   h.o37,
   h.o38,
   h.v45,
   h.v46,
   h.o46⟩
theorem WI.move35 {w0 w : World} {g : Nat → Bool} {x0 x1 x15 x16 x17 x18 x20 x21 x22 x23 x28 : Value} (h : WI w0 g w x0 x1 x15 x16 x17 x18 x20 x21 x22 x23 x28) (h0 : g 35 = false) (hg30 : g 30 = true) : WI w0 (upd g 35) w x0 x1 x15 x16 x17 x18 x20 x20 x22 x23 x28 :=
  ⟨h.below,
   fun j hj => upd_old _ (h.cst j hj),
   fun e => by obtain ⟨r, a, b, c⟩ := h.m0 e; exact ⟨r, a, b, c.more (by simp [TA])⟩,
   fun e => by obtain ⟨r, a, b, c⟩ := h.m1 e; exact ⟨r, a, b, c.more (by simp [TB])⟩,
   fun e => by obtain ⟨r, a, b, c⟩ := h.m2 e; exact ⟨r, a, b, c.more (by simp [TC])⟩,
   h.d01,
   h.d02,
   h.d12,
   h.v25,
   h.c26,
   h.v27,
   fun _ => rfl,
   h.c36,
   h.v37,
   h.o0,
   h.o20,
   fun e => absurd (e.symm.trans hg30) (by decide),
   h.o26,
   h.o27,
   h.o28,
   fun e => absurd e (by simp [upd]),
   h.o37,
   h.o38,
   h.v45,
   h.v46,
   h.o46⟩
theorem WI.call26 {w0 w w' : World} {g : Nat → Bool} {x0 x1 x15 x16 x17 x18 x20 x21 x22 x23 x28 : Value} (h : WI w0 g w x0 x1 x15 x16 x17 x18 x20 x21 x22 x23 x28) (h0 : g 26 = false) (hg20 : g 20 = true) (hg25 : g 25 = true) (hb : Below w.heap.size w w') (hc : w'.cell? ⟨w.heap.size, 0, none⟩ = some x15) : WI w0 (upd g 26) w' x0 x1 x15 x16 (closV w.heap.size) x18 x20 x21 x22 x23 x28 :=
  ⟨gr h.below hb,
   fun j hj => upd_old _ (h.cst j hj),
   fun e => by obtain ⟨r, a, b, c⟩ := h.m0 e; exact ⟨r, a, b, (c.below hb).more (by simp [TA])⟩,
   fun e => by obtain ⟨r, a, b, c⟩ := h.m1 e; exact ⟨r, a, b, (c.below hb).more (by simp [TB])⟩,
   fun e => by obtain ⟨r, a, b, c⟩ := h.m2 e; exact ⟨r, a, b, (c.below hb).more (by simp [TC])⟩,
   h.d01,
   h.d02,
   h.d12,
   h.v25,
   fun _ => ⟨_, rfl, h.below.size, hc⟩,
   fun e => absurd (e.symm.trans (h.o27 h0)) (by decide),
   h.v35,
   fun e => by obtain ⟨B, a, l, b⟩ := h.c36 e; exact ⟨B, a, l, (hb.cell (p := ⟨B, 0, none⟩) (World.block_lt_of_cell? _ _ b)).trans b⟩,
   h.v37,
   h.o0,
   fun e => absurd (e.symm.trans hg20) (by decide),
   h.o30,
   fun e => absurd (e.symm.trans hg25) (by decide),
   fun e => absurd e (by simp [upd]),
   h.o28,
   h.o36,
   h.o37,
   h.o38,
   h.v45,
   h.v46,
   h.o46⟩
theorem WI.call36 {w0 w w' : World} {g : Nat → Bool} {x0 x1 x15 x16 x17 x18 x20 x21 x22 x23 x28 : Value} (h : WI w0 g w x0 x1 x15 x16 x17 x18 x20 x21 x22 x23 x28) (h0 : g 36 = false) (hg30 : g 30 = true) (hg35 : g 35 = true) (hb : Below w.heap.size w w') (hc : w'.cell? ⟨w.heap.size, 0, none⟩ = some x20) : WI w0 (upd g 36) w' x0 x1 x15 x16 x17 x18 x20 x21 (closV w.heap.size) x23 x28 :=
  ⟨gr h.below hb,
   fun j hj => upd_old _ (h.cst j hj),
   fun e => by obtain ⟨r, a, b, c⟩ := h.m0 e; exact ⟨r, a, b, (c.below hb).more (by simp [TA])⟩,
   fun e => by obtain ⟨r, a, b, c⟩ := h.m1 e; exact ⟨r, a, b, (c.below hb).more (by simp [TB])⟩,
   fun e => by obtain ⟨r, a, b, c⟩ := h.m2 e; exact ⟨r, a, b, (c.below hb).more (by simp [TC])⟩,
   h.d01,
   h.d02,
   h.d12,
   h.v25,
   fun e => by obtain ⟨B, a, l, b⟩ := h.c26 e; exact ⟨B, a, l, (hb.cell (p := ⟨B, 0, none⟩) (World.block_lt_of_cell? _ _ b)).trans b⟩,
   h.v27,
   h.v35,
   fun _ => ⟨_, rfl, h.below.size, hc⟩,
   fun e => absurd (e.symm.trans (h.o37 h0)) (by decide),
   h.o0,
   h.o20,
   fun e => absurd (e.symm.trans hg30) (by decide),
   h.o26,
   h.o27,
   h.o28,
   fun e => absurd (e.symm.trans hg35) (by decide),
   fun e => absurd e (by simp [upd]),
   h.o38,
   h.v45,
   h.v46,
   h.o46⟩
theorem WI.build27 {w0 w : World} {g : Nat → Bool} {x0 x1 x15 x16 x17 x18 x20 x21 x22 x23 x28 : Value} (h : WI w0 g w x0 x1 x15 x16 x17 x18 x20 x21 x22 x23 x28) (h0 : g 27 = false) (hg26 : g 26 = true) : WI w0 (upd g 27) w x0 x1 x15 x16 x17 (wv 77 x17) x20 x21 x22 x23 x28 :=
  ⟨h.below,
   fun j hj => upd_old _ (h.cst j hj),
   fun e => by obtain ⟨r, a, b, c⟩ := h.m0 e; exact ⟨r, a, b, c.reA27 h0 (h.o28 h0)⟩,
   fun e => by obtain ⟨r, a, b, c⟩ := h.m1 e; exact ⟨r, a, b, c.more (by simp [TB])⟩,
   fun e => by obtain ⟨r, a, b, c⟩ := h.m2 e; exact ⟨r, a, b, c.more (by simp [TC])⟩,
   h.d01,
   h.d02,
   h.d12,
   h.v25,
   h.c26,
   fun _ => rfl,
   h.v35,
   h.c36,
   h.v37,
   h.o0,
   h.o20,
   h.o30,
   h.o26,
   fun e => absurd (e.symm.trans hg26) (by decide),
   fun e => absurd e (by simp [upd]),
   h.o36,
   h.o37,
   h.o38,
   h.v45,
   h.v46,
   h.o46⟩
theorem WI.build37 {w0 w : World} {g : Nat → Bool} {x0 x1 x15 x16 x17 x18 x20 x21 x22 x23 x28 : Value} (h : WI w0 g w x0 x1 x15 x16 x17 x18 x20 x21 x22 x23 x28) (h0 : g 37 = false) (hg36 : g 36 = true) : WI w0 (upd g 37) w x0 x1 x15 x16 x17 x18 x20 x21 x22 (wv 80 x22) x28 :=
  ⟨h.below,
   fun j hj => upd_old _ (h.cst j hj),
   fun e => by obtain ⟨r, a, b, c⟩ := h.m0 e; exact ⟨r, a, b, c.reA37 h0 (h.o38 h0)⟩,
   fun e => by obtain ⟨r, a, b, c⟩ := h.m1 e; exact ⟨r, a, b, c.more (by simp [TB])⟩,
   fun e => by obtain ⟨r, a, b, c⟩ := h.m2 e; exact ⟨r, a, b, c.more (by simp [TC])⟩,
   h.d01,
   h.d02,
   h.d12,
   h.v25,
   h.c26,
   h.v27,
   h.v35,
   h.c36,
   fun _ => rfl,
   h.o0,
   h.o20,
   h.o30,
   h.o26,
   h.o27,
   h.o28,
   h.o36,
   fun e => absurd (e.symm.trans hg36) (by decide),
   fun e => absurd e (by simp [upd]),
   h.v45,
   h.v46,
   h.o46⟩
theorem WI.move45 {w0 w : World} {g : Nat → Bool} {x0 x1 x15 x16 x17 x18 x20 x21 x22 x23 x28 : Value} (h : WI w0 g w x0 x1 x15 x16 x17 x18 x20 x21 x22 x23 x28) (h0 : g 45 = false) (hg0 : g 0 = true) : WI w0 (upd g 45) w x0 x1 x15 x16 x17 x18 x20 x21 x22 x23 x1 :=
  ⟨h.below,
   fun j hj => upd_old _ (h.cst j hj),
   fun e => by obtain ⟨r, a, b, c⟩ := h.m0 e; exact ⟨r, a, b, c.more (by simp [TA])⟩,
   fun e => by obtain ⟨r, a, b, c⟩ := h.m1 e; exact ⟨r, a, b, c.more (by simp [TB])⟩,
   fun e => by obtain ⟨r, a, b, c⟩ := h.m2 e; exact ⟨r, a, b, c.more (by simp [TC])⟩,
   h.d01,
   h.d02,
   h.d12,
   h.v25,
   h.c26,
   h.v27,
   h.v35,
   h.c36,
   h.v37,
   fun e => absurd (e.symm.trans hg0) (by decide),
   h.o20,
   h.o30,
   h.o26,
   h.o27,
   h.o28,
   h.o36,
   h.o37,
   h.o38,
   fun _ => rfl,
   fun e => absurd (e.symm.trans (h.o46 h0)) (by decide),
   fun e => absurd e (by simp [upd])⟩
theorem WI.move46 {w0 w : World} {g : Nat → Bool} {x0 x1 x15 x16 x17 x18 x20 x21 x22 x23 x28 : Value} (h : WI w0 g w x0 x1 x15 x16 x17 x18 x20 x21 x22 x23 x28) (h0 : g 46 = false) (hg45 : g 45 = true) : WI w0 (upd g 46) w x28 x1 x15 x16 x17 x18 x20 x21 x22 x23 x28 :=
  ⟨h.below,
   fun j hj => upd_old _ (h.cst j hj),
   fun e => by obtain ⟨r, a, b, c⟩ := h.m0 e; exact ⟨r, a, b, c.more (by simp [TA])⟩,
   fun e => by obtain ⟨r, a, b, c⟩ := h.m1 e; exact ⟨r, a, b, c.more (by simp [TB])⟩,
   fun e => by obtain ⟨r, a, b, c⟩ := h.m2 e; exact ⟨r, a, b, c.more (by simp [TC])⟩,
   h.d01,
   h.d02,
   h.d12,
   h.v25,
   h.c26,
   h.v27,
   h.v35,
   h.c36,
   h.v37,
   h.o0,
   h.o20,
   h.o30,
   h.o26,
   h.o27,
   h.o28,
   h.o36,
   h.o37,
   h.o38,
   h.v45,
   fun _ => rfl,
   fun e => absurd (e.symm.trans hg45) (by decide)⟩
theorem WI.ins3 {w0 w w' : World} {g : Nat → Bool} {x0 x1 x15 x16 x17 x18 x20 x21 x22 x23 x28 : Value} (h : WI w0 g w x0 x1 x15 x16 x17 x18 x20 x21 x22 x23 x28) (h0 : g 3 = false) (hg0 : g 0 = true) {r : Nat} (hx : x1 = .map (some r)) (hr : w0.heap.size ≤ r) (hb0 : Below w0.heap.size w0 w) (ho : Tab OKp w r (TA x18 x23) g) (hw : w.grownBy w' (some r)) (hbw : Below w0.heap.size w0 w') (ht : Tab OKp w' r (TA x18 x23) (upd g 3)) : WI w0 (upd g 3) w' x0 x1 x15 x16 x17 x18 x20 x21 x22 x23 x28 :=
  ⟨hbw,
   fun j hj => upd_old _ (h.cst j hj),
   fun _ => ⟨r, hx, hr, ht⟩,
   fun e => by obtain ⟨r2, a2, b2, c2⟩ := h.m1 e; exact ⟨r2, a2, b2, (c2.kept hw (by intro q; injection q with q; subst q; exact h.d01 hg0 e (by rw [hx, a2]))).more (by simp [TB])⟩,
   fun e => by obtain ⟨r2, a2, b2, c2⟩ := h.m2 e; exact ⟨r2, a2, b2, (c2.kept hw (by intro q; injection q with q; subst q; exact h.d02 hg0 e (by rw [hx, a2]))).more (by simp [TC])⟩,
   h.d01,
   h.d02,
   h.d12,
   h.v25,
   fun e => by obtain ⟨B, a, l, b⟩ := h.c26 e; exact ⟨B, a, l, cell_ins ho hw b⟩,
   h.v27,
   h.v35,
   fun e => by obtain ⟨B, a, l, b⟩ := h.c36 e; exact ⟨B, a, l, cell_ins ho hw b⟩,
   h.v37,
   fun e => absurd (e.symm.trans hg0) (by decide),
   h.o20,
   h.o30,
   h.o26,
   h.o27,
   h.o28,
   h.o36,
   h.o37,
   h.o38,
   h.v45,
   h.v46,
   h.o46⟩
theorem WI.ins6 {w0 w w' : World} {g : Nat → Bool} {x0 x1 x15 x16 x17 x18 x20 x21 x22 x23 x28 : Value} (h : WI w0 g w x0 x1 x15 x16 x17 x18 x20 x21 x22 x23 x28) (h0 : g 6 = false) (hg0 : g 0 = true) {r : Nat} (hx : x1 = .map (some r)) (hr : w0.heap.size ≤ r) (hb0 : Below w0.heap.size w0 w) (ho : Tab OKp w r (TA x18 x23) g) (hw : w.grownBy w' (some r)) (hbw : Below w0.heap.size w0 w') (ht : Tab OKp w' r (TA x18 x23) (upd g 6)) : WI w0 (upd g 6) w' x0 x1 x15 x16 x17 x18 x20 x21 x22 x23 x28 :=
  ⟨hbw,
   fun j hj => upd_old _ (h.cst j hj),
   fun _ => ⟨r, hx, hr, ht⟩,
   fun e => by obtain ⟨r2, a2, b2, c2⟩ := h.m1 e; exact ⟨r2, a2, b2, (c2.kept hw (by intro q; injection q with q; subst q; exact h.d01 hg0 e (by rw [hx, a2]))).more (by simp [TB])⟩,
   fun e => by obtain ⟨r2, a2, b2, c2⟩ := h.m2 e; exact ⟨r2, a2, b2, (c2.kept hw (by intro q; injection q with q; subst q; exact h.d02 hg0 e (by rw [hx, a2]))).more (by simp [TC])⟩,
   h.d01,
   h.d02,
   h.d12,
   h.v25,
   fun e => by obtain ⟨B, a, l, b⟩ := h.c26 e; exact ⟨B, a, l, cell_ins ho hw b⟩,
   h.v27,
   h.v35,
   fun e => by obtain ⟨B, a, l, b⟩ := h.c36 e; exact ⟨B, a, l, cell_ins ho hw b⟩,
   h.v37,
   fun e => absurd (e.symm.trans hg0) (by decide),
   h.o20,
   h.o30,
   h.o26,
   h.o27,
   h.o28,
   h.o36,
   h.o37,
   h.o38,
   h.v45,
   h.v46,
   h.o46⟩
theorem WI.ins9 {w0 w w' : World} {g : Nat → Bool} {x0 x1 x15 x16 x17 x18 x20 x21 x22 x23 x28 : Value} (h : WI w0 g w x0 x1 x15 x16 x17 x18 x20 x21 x22 x23 x28) (h0 : g 9 = false) (hg0 : g 0 = true) {r : Nat} (hx : x1 = .map (some r)) (hr : w0.heap.size ≤ r) (hb0 : Below w0.heap.size w0 w) (ho : Tab OKp w r (TA x18 x23) g) (hw : w.grownBy w' (some r)) (hbw : Below w0.heap.size w0 w') (ht : Tab OKp w' r (TA x18 x23) (upd g 9)) : WI w0 (upd g 9) w' x0 x1 x15 x16 x17 x18 x20 x21 x22 x23 x28 :=
  ⟨hbw,
   fun j hj => upd_old _ (h.cst j hj),
   fun _ => ⟨r, hx, hr, ht⟩,
   fun e => by obtain ⟨r2, a2, b2, c2⟩ := h.m1 e; exact ⟨r2, a2, b2, (c2.kept hw (by intro q; injection q with q; subst q; exact h.d01 hg0 e (by rw [hx, a2]))).more (by simp [TB])⟩,
   fun e => by obtain ⟨r2, a2, b2, c2⟩ := h.m2 e; exact ⟨r2, a2, b2, (c2.kept hw (by intro q; injection q with q; subst q; exact h.d02 hg0 e (by rw [hx, a2]))).more (by simp [TC])⟩,
   h.d01,
   h.d02,
   h.d12,
   h.v25,
   fun e => by obtain ⟨B, a, l, b⟩ := h.c26 e; exact ⟨B, a, l, cell_ins ho hw b⟩,
   h.v27,
   h.v35,
   fun e => by obtain ⟨B, a, l, b⟩ := h.c36 e; exact ⟨B, a, l, cell_ins ho hw b⟩,
   h.v37,
   fun e => absurd (e.symm.trans hg0) (by decide),
   h.o20,
   h.o30,
   h.o26,
   h.o27,
   h.o28,
   h.o36,
   h.o37,
   h.o38,
   h.v45,
   h.v46,
   h.o46⟩
theorem WI.ins12 {w0 w w' : World} {g : Nat → Bool} {x0 x1 x15 x16 x17 x18 x20 x21 x22 x23 x28 : Value} (h : WI w0 g w x0 x1 x15 x16 x17 x18 x20 x21 x22 x23 x28) (h0 : g 12 = false) (hg0 : g 0 = true) {r : Nat} (hx : x1 = .map (some r)) (hr : w0.heap.size ≤ r) (hb0 : Below w0.heap.size w0 w) (ho : Tab OKp w r (TA x18 x23) g) (hw : w.grownBy w' (some r)) (hbw : Below w0.heap.size w0 w') (ht : Tab OKp w' r (TA x18 x23) (upd g 12)) : WI w0 (upd g 12) w' x0 x1 x15 x16 x17 x18 x20 x21 x22 x23 x28 :=
  ⟨hbw,
   fun j hj => upd_old _ (h.cst j hj),
   fun _ => ⟨r, hx, hr, ht⟩,
   fun e => by obtain ⟨r2, a2, b2, c2⟩ := h.m1 e; exact ⟨r2, a2, b2, (c2.kept hw (by intro q; injection q with q; subst q; exact h.d01 hg0 e (by rw [hx, a2]))).more (by simp [TB])⟩,
   fun e => by obtain ⟨r2, a2, b2, c2⟩ := h.m2 e; exact ⟨r2, a2, b2, (c2.kept hw (by intro q; injection q with q; subst q; exact h.d02 hg0 e (by rw [hx, a2]))).more (by simp [TC])⟩,
   h.d01,
   h.d02,
   h.d12,
   h.v25,
   fun e => by obtain ⟨B, a, l, b⟩ := h.c26 e; exact ⟨B, a, l, cell_ins ho hw b⟩,
   h.v27,
   h.v35,
   fun e => by obtain ⟨B, a, l, b⟩ := h.c36 e; exact ⟨B, a, l, cell_ins ho hw b⟩,
   h.v37,
   fun e => absurd (e.symm.trans hg0) (by decide),
   h.o20,
   h.o30,
   h.o26,
   h.o27,
   h.o28,
   h.o36,
   h.o37,
   h.o38,
   h.v45,
   h.v46,
   h.o46⟩
theorem WI.ins15 {w0 w w' : World} {g : Nat → Bool} {x0 x1 x15 x16 x17 x18 x20 x21 x22 x23 x28 : Value} (h : WI w0 g w x0 x1 x15 x16 x17 x18 x20 x21 x22 x23 x28) (h0 : g 15 = false) (hg0 : g 0 = true) {r : Nat} (hx : x1 = .map (some r)) (hr : w0.heap.size ≤ r) (hb0 : Below w0.heap.size w0 w) (ho : Tab OKp w r (TA x18 x23) g) (hw : w.grownBy w' (some r)) (hbw : Below w0.heap.size w0 w') (ht : Tab OKp w' r (TA x18 x23) (upd g 15)) : WI w0 (upd g 15) w' x0 x1 x15 x16 x17 x18 x20 x21 x22 x23 x28 :=
  ⟨hbw,
   fun j hj => upd_old _ (h.cst j hj),
   fun _ => ⟨r, hx, hr, ht⟩,
   fun e => by obtain ⟨r2, a2, b2, c2⟩ := h.m1 e; exact ⟨r2, a2, b2, (c2.kept hw (by intro q; injection q with q; subst q; exact h.d01 hg0 e (by rw [hx, a2]))).more (by simp [TB])⟩,
   fun e => by obtain ⟨r2, a2, b2, c2⟩ := h.m2 e; exact ⟨r2, a2, b2, (c2.kept hw (by intro q; injection q with q; subst q; exact h.d02 hg0 e (by rw [hx, a2]))).more (by simp [TC])⟩,
   h.d01,
   h.d02,
   h.d12,
   h.v25,
   fun e => by obtain ⟨B, a, l, b⟩ := h.c26 e; exact ⟨B, a, l, cell_ins ho hw b⟩,
   h.v27,
   h.v35,
   fun e => by obtain ⟨B, a, l, b⟩ := h.c36 e; exact ⟨B, a, l, cell_ins ho hw b⟩,
   h.v37,
   fun e => absurd (e.symm.trans hg0) (by decide),
   h.o20,
   h.o30,
   h.o26,
   h.o27,
   h.o28,
   h.o36,
   h.o37,
   h.o38,
   h.v45,
   h.v46,
   h.o46⟩
theorem WI.ins18 {w0 w w' : World} {g : Nat → Bool} {x0 x1 x15 x16 x17 x18 x20 x21 x22 x23 x28 : Value} (h : WI w0 g w x0 x1 x15 x16 x17 x18 x20 x21 x22 x23 x28) (h0 : g 18 = false) (hg0 : g 0 = true) {r : Nat} (hx : x1 = .map (some r)) (hr : w0.heap.size ≤ r) (hb0 : Below w0.heap.size w0 w) (ho : Tab OKp w r (TA x18 x23) g) (hw : w.grownBy w' (some r)) (hbw : Below w0.heap.size w0 w') (ht : Tab OKp w' r (TA x18 x23) (upd g 18)) : WI w0 (upd g 18) w' x0 x1 x15 x16 x17 x18 x20 x21 x22 x23 x28 :=
  ⟨hbw,
   fun j hj => upd_old _ (h.cst j hj),
   fun _ => ⟨r, hx, hr, ht⟩,
   fun e => by obtain ⟨r2, a2, b2, c2⟩ := h.m1 e; exact ⟨r2, a2, b2, (c2.kept hw (by intro q; injection q with q; subst q; exact h.d01 hg0 e (by rw [hx, a2]))).more (by simp [TB])⟩,
   fun e => by obtain ⟨r2, a2, b2, c2⟩ := h.m2 e; exact ⟨r2, a2, b2, (c2.kept hw (by intro q; injection q with q; subst q; exact h.d02 hg0 e (by rw [hx, a2]))).more (by simp [TC])⟩,
   h.d01,
   h.d02,
   h.d12,
   h.v25,
   fun e => by obtain ⟨B, a, l, b⟩ := h.c26 e; exact ⟨B, a, l, cell_ins ho hw b⟩,
   h.v27,
   h.v35,
   fun e => by obtain ⟨B, a, l, b⟩ := h.c36 e; exact ⟨B, a, l, cell_ins ho hw b⟩,
   h.v37,
   fun e => absurd (e.symm.trans hg0) (by decide),
   h.o20,
   h.o30,
   h.o26,
   h.o27,
   h.o28,
   h.o36,
   h.o37,
   h.o38,
   h.v45,
   h.v46,
   h.o46⟩
theorem WI.ins28 {w0 w w' : World} {g : Nat → Bool} {x0 x1 x15 x16 x17 x18 x20 x21 x22 x23 x28 : Value} (h : WI w0 g w x0 x1 x15 x16 x17 x18 x20 x21 x22 x23 x28) (h0 : g 28 = false) (hg0 : g 0 = true) (hg27 : g 27 = true) {r : Nat} (hx : x1 = .map (some r)) (hr : w0.heap.size ≤ r) (hb0 : Below w0.heap.size w0 w) (ho : Tab OKp w r (TA x18 x23) g) (hw : w.grownBy w' (some r)) (hbw : Below w0.heap.size w0 w') (ht : Tab OKp w' r (TA x18 x23) (upd g 28)) : WI w0 (upd g 28) w' x0 x1 x15 x16 x17 x18 x20 x21 x22 x23 x28 :=
  ⟨hbw,
   fun j hj => upd_old _ (h.cst j hj),
   fun _ => ⟨r, hx, hr, ht⟩,
   fun e => by obtain ⟨r2, a2, b2, c2⟩ := h.m1 e; exact ⟨r2, a2, b2, (c2.kept hw (by intro q; injection q with q; subst q; exact h.d01 hg0 e (by rw [hx, a2]))).more (by simp [TB])⟩,
   fun e => by obtain ⟨r2, a2, b2, c2⟩ := h.m2 e; exact ⟨r2, a2, b2, (c2.kept hw (by intro q; injection q with q; subst q; exact h.d02 hg0 e (by rw [hx, a2]))).more (by simp [TC])⟩,
   h.d01,
   h.d02,
   h.d12,
   h.v25,
   fun e => by obtain ⟨B, a, l, b⟩ := h.c26 e; exact ⟨B, a, l, cell_ins ho hw b⟩,
   h.v27,
   h.v35,
   fun e => by obtain ⟨B, a, l, b⟩ := h.c36 e; exact ⟨B, a, l, cell_ins ho hw b⟩,
   h.v37,
   fun e => absurd (e.symm.trans hg0) (by decide),
   h.o20,
   h.o30,
   h.o26,
   h.o27,
   fun e => absurd (e.symm.trans hg27) (by decide),
   h.o36,
   h.o37,
   h.o38,
   h.v45,
   h.v46,
   h.o46⟩
theorem WI.ins38 {w0 w w' : World} {g : Nat → Bool} {x0 x1 x15 x16 x17 x18 x20 x21 x22 x23 x28 : Value} (h : WI w0 g w x0 x1 x15 x16 x17 x18 x20 x21 x22 x23 x28) (h0 : g 38 = false) (hg0 : g 0 = true) (hg37 : g 37 = true) {r : Nat} (hx : x1 = .map (some r)) (hr : w0.heap.size ≤ r) (hb0 : Below w0.heap.size w0 w) (ho : Tab OKp w r (TA x18 x23) g) (hw : w.grownBy w' (some r)) (hbw : Below w0.heap.size w0 w') (ht : Tab OKp w' r (TA x18 x23) (upd g 38)) : WI w0 (upd g 38) w' x0 x1 x15 x16 x17 x18 x20 x21 x22 x23 x28 :=
  ⟨hbw,
   fun j hj => upd_old _ (h.cst j hj),
   fun _ => ⟨r, hx, hr, ht⟩,
   fun e => by obtain ⟨r2, a2, b2, c2⟩ := h.m1 e; exact ⟨r2, a2, b2, (c2.kept hw (by intro q; injection q with q; subst q; exact h.d01 hg0 e (by rw [hx, a2]))).more (by simp [TB])⟩,
   fun e => by obtain ⟨r2, a2, b2, c2⟩ := h.m2 e; exact ⟨r2, a2, b2, (c2.kept hw (by intro q; injection q with q; subst q; exact h.d02 hg0 e (by rw [hx, a2]))).more (by simp [TC])⟩,
   h.d01,
   h.d02,
   h.d12,
   h.v25,
   fun e => by obtain ⟨B, a, l, b⟩ := h.c26 e; exact ⟨B, a, l, cell_ins ho hw b⟩,
   h.v27,
   h.v35,
   fun e => by obtain ⟨B, a, l, b⟩ := h.c36 e; exact ⟨B, a, l, cell_ins ho hw b⟩,
   h.v37,
   fun e => absurd (e.symm.trans hg0) (by decide),
   h.o20,
   h.o30,
   h.o26,
   h.o27,
   h.o28,
   h.o36,
   h.o37,
   fun e => absurd (e.symm.trans hg37) (by decide),
   h.v45,
   h.v46,
   h.o46⟩
theorem WI.ins41 {w0 w w' : World} {g : Nat → Bool} {x0 x1 x15 x16 x17 x18 x20 x21 x22 x23 x28 : Value} (h : WI w0 g w x0 x1 x15 x16 x17 x18 x20 x21 x22 x23 x28) (h0 : g 41 = false) (hg0 : g 0 = true) {r : Nat} (hx : x1 = .map (some r)) (hr : w0.heap.size ≤ r) (hb0 : Below w0.heap.size w0 w) (ho : Tab OKp w r (TA x18 x23) g) (hw : w.grownBy w' (some r)) (hbw : Below w0.heap.size w0 w') (ht : Tab OKp w' r (TA x18 x23) (upd g 41)) : WI w0 (upd g 41) w' x0 x1 x15 x16 x17 x18 x20 x21 x22 x23 x28 :=
  ⟨hbw,
   fun j hj => upd_old _ (h.cst j hj),
   fun _ => ⟨r, hx, hr, ht⟩,
   fun e => by obtain ⟨r2, a2, b2, c2⟩ := h.m1 e; exact ⟨r2, a2, b2, (c2.kept hw (by intro q; injection q with q; subst q; exact h.d01 hg0 e (by rw [hx, a2]))).more (by simp [TB])⟩,
   fun e => by obtain ⟨r2, a2, b2, c2⟩ := h.m2 e; exact ⟨r2, a2, b2, (c2.kept hw (by intro q; injection q with q; subst q; exact h.d02 hg0 e (by rw [hx, a2]))).more (by simp [TC])⟩,
   h.d01,
   h.d02,
   h.d12,
   h.v25,
   fun e => by obtain ⟨B, a, l, b⟩ := h.c26 e; exact ⟨B, a, l, cell_ins ho hw b⟩,
   h.v27,
   h.v35,
   fun e => by obtain ⟨B, a, l, b⟩ := h.c36 e; exact ⟨B, a, l, cell_ins ho hw b⟩,
   h.v37,
   fun e => absurd (e.symm.trans hg0) (by decide),
   h.o20,
   h.o30,
   h.o26,
   h.o27,
   h.o28,
   h.o36,
   h.o37,
   h.o38,
   h.v45,
   h.v46,
   h.o46⟩
theorem WI.ins44 {w0 w w' : World} {g : Nat → Bool} {x0 x1 x15 x16 x17 x18 x20 x21 x22 x23 x28 : Value} (h : WI w0 g w x0 x1 x15 x16 x17 x18 x20 x21 x22 x23 x28) (h0 : g 44 = false) (hg0 : g 0 = true) {r : Nat} (hx : x1 = .map (some r)) (hr : w0.heap.size ≤ r) (hb0 : Below w0.heap.size w0 w) (ho : Tab OKp w r (TA x18 x23) g) (hw : w.grownBy w' (some r)) (hbw : Below w0.heap.size w0 w') (ht : Tab OKp w' r (TA x18 x23) (upd g 44)) : WI w0 (upd g 44) w' x0 x1 x15 x16 x17 x18 x20 x21 x22 x23 x28 :=
  ⟨hbw,
   fun j hj => upd_old _ (h.cst j hj),
   fun _ => ⟨r, hx, hr, ht⟩,
   fun e => by obtain ⟨r2, a2, b2, c2⟩ := h.m1 e; exact ⟨r2, a2, b2, (c2.kept hw (by intro q; injection q with q; subst q; exact h.d01 hg0 e (by rw [hx, a2]))).more (by simp [TB])⟩,
   fun e => by obtain ⟨r2, a2, b2, c2⟩ := h.m2 e; exact ⟨r2, a2, b2, (c2.kept hw (by intro q; injection q with q; subst q; exact h.d02 hg0 e (by rw [hx, a2]))).more (by simp [TC])⟩,
   h.d01,
   h.d02,
   h.d12,
   h.v25,
   fun e => by obtain ⟨B, a, l, b⟩ := h.c26 e; exact ⟨B, a, l, cell_ins ho hw b⟩,
   h.v27,
   h.v35,
   fun e => by obtain ⟨B, a, l, b⟩ := h.c36 e; exact ⟨B, a, l, cell_ins ho hw b⟩,
   h.v37,
   fun e => absurd (e.symm.trans hg0) (by decide),
   h.o20,
   h.o30,
   h.o26,
   h.o27,
   h.o28,
   h.o36,
   h.o37,
   h.o38,
   h.v45,
   h.v46,
   h.o46⟩
theorem WI.ins21 {w0 w w' : World} {g : Nat → Bool} {x0 x1 x15 x16 x17 x18 x20 x21 x22 x23 x28 : Value} (h : WI w0 g w x0 x1 x15 x16 x17 x18 x20 x21 x22 x23 x28) (h0 : g 21 = false) (hg20 : g 20 = true) {r : Nat} (hx : x15 = .map (some r)) (hr : w0.heap.size ≤ r) (hb0 : Below w0.heap.size w0 w) (ho : Tab OKi w r TB g) (hw : w.grownBy w' (some r)) (hbw : Below w0.heap.size w0 w') (ht : Tab OKi w' r TB (upd g 21)) : WI w0 (upd g 21) w' x0 x1 x15 x16 x17 x18 x20 x21 x22 x23 x28 :=
  ⟨hbw,
   fun j hj => upd_old _ (h.cst j hj),
   fun e => by obtain ⟨r2, a2, b2, c2⟩ := h.m0 e; exact ⟨r2, a2, b2, (c2.kept hw (by intro q; injection q with q; subst q; exact h.d01 e hg20 (by rw [hx, a2]))).more (by simp [TA])⟩,
   fun _ => ⟨r, hx, hr, ht⟩,
   fun e => by obtain ⟨r2, a2, b2, c2⟩ := h.m2 e; exact ⟨r2, a2, b2, (c2.kept hw (by intro q; injection q with q; subst q; exact h.d12 hg20 e (by rw [hx, a2]))).more (by simp [TC])⟩,
   h.d01,
   h.d02,
   h.d12,
   h.v25,
   fun e => by obtain ⟨B, a, l, b⟩ := h.c26 e; exact ⟨B, a, l, cell_ins ho hw b⟩,
   h.v27,
   h.v35,
   fun e => by obtain ⟨B, a, l, b⟩ := h.c36 e; exact ⟨B, a, l, cell_ins ho hw b⟩,
   h.v37,
   h.o0,
   fun e => absurd (e.symm.trans hg20) (by decide),
   h.o30,
   h.o26,
   h.o27,
   h.o28,
   h.o36,
   h.o37,
   h.o38,
   h.v45,
   h.v46,
   h.o46⟩
theorem WI.ins22 {w0 w w' : World} {g : Nat → Bool} {x0 x1 x15 x16 x17 x18 x20 x21 x22 x23 x28 : Value} (h : WI w0 g w x0 x1 x15 x16 x17 x18 x20 x21 x22 x23 x28) (h0 : g 22 = false) (hg20 : g 20 = true) {r : Nat} (hx : x15 = .map (some r)) (hr : w0.heap.size ≤ r) (hb0 : Below w0.heap.size w0 w) (ho : Tab OKi w r TB g) (hw : w.grownBy w' (some r)) (hbw : Below w0.heap.size w0 w') (ht : Tab OKi w' r TB (upd g 22)) : WI w0 (upd g 22) w' x0 x1 x15 x16 x17 x18 x20 x21 x22 x23 x28 :=
  ⟨hbw,
   fun j hj => upd_old _ (h.cst j hj),
   fun e => by obtain ⟨r2, a2, b2, c2⟩ := h.m0 e; exact ⟨r2, a2, b2, (c2.kept hw (by intro q; injection q with q; subst q; exact h.d01 e hg20 (by rw [hx, a2]))).more (by simp [TA])⟩,
   fun _ => ⟨r, hx, hr, ht⟩,
   fun e => by obtain ⟨r2, a2, b2, c2⟩ := h.m2 e; exact ⟨r2, a2, b2, (c2.kept hw (by intro q; injection q with q; subst q; exact h.d12 hg20 e (by rw [hx, a2]))).more (by simp [TC])⟩,
   h.d01,
   h.d02,
   h.d12,
   h.v25,
   fun e => by obtain ⟨B, a, l, b⟩ := h.c26 e; exact ⟨B, a, l, cell_ins ho hw b⟩,
   h.v27,
   h.v35,
   fun e => by obtain ⟨B, a, l, b⟩ := h.c36 e; exact ⟨B, a, l, cell_ins ho hw b⟩,
   h.v37,
   h.o0,
   fun e => absurd (e.symm.trans hg20) (by decide),
   h.o30,
   h.o26,
   h.o27,
   h.o28,
   h.o36,
   h.o37,
   h.o38,
   h.v45,
   h.v46,
   h.o46⟩
theorem WI.ins23 {w0 w w' : World} {g : Nat → Bool} {x0 x1 x15 x16 x17 x18 x20 x21 x22 x23 x28 : Value} (h : WI w0 g w x0 x1 x15 x16 x17 x18 x20 x21 x22 x23 x28) (h0 : g 23 = false) (hg20 : g 20 = true) {r : Nat} (hx : x15 = .map (some r)) (hr : w0.heap.size ≤ r) (hb0 : Below w0.heap.size w0 w) (ho : Tab OKi w r TB g) (hw : w.grownBy w' (some r)) (hbw : Below w0.heap.size w0 w') (ht : Tab OKi w' r TB (upd g 23)) : WI w0 (upd g 23) w' x0 x1 x15 x16 x17 x18 x20 x21 x22 x23 x28 :=
  ⟨hbw,
   fun j hj => upd_old _ (h.cst j hj),
   fun e => by obtain ⟨r2, a2, b2, c2⟩ := h.m0 e; exact ⟨r2, a2, b2, (c2.kept hw (by intro q; injection q with q; subst q; exact h.d01 e hg20 (by rw [hx, a2]))).more (by simp [TA])⟩,
   fun _ => ⟨r, hx, hr, ht⟩,
   fun e => by obtain ⟨r2, a2, b2, c2⟩ := h.m2 e; exact ⟨r2, a2, b2, (c2.kept hw (by intro q; injection q with q; subst q; exact h.d12 hg20 e (by rw [hx, a2]))).more (by simp [TC])⟩,
   h.d01,
   h.d02,
   h.d12,
   h.v25,
   fun e => by obtain ⟨B, a, l, b⟩ := h.c26 e; exact ⟨B, a, l, cell_ins ho hw b⟩,
   h.v27,
   h.v35,
   fun e => by obtain ⟨B, a, l, b⟩ := h.c36 e; exact ⟨B, a, l, cell_ins ho hw b⟩,
   h.v37,
   h.o0,
   fun e => absurd (e.symm.trans hg20) (by decide),
   h.o30,
   h.o26,
   h.o27,
   h.o28,
   h.o36,
   h.o37,
   h.o38,
   h.v45,
   h.v46,
   h.o46⟩
theorem WI.ins24 {w0 w w' : World} {g : Nat → Bool} {x0 x1 x15 x16 x17 x18 x20 x21 x22 x23 x28 : Value} (h : WI w0 g w x0 x1 x15 x16 x17 x18 x20 x21 x22 x23 x28) (h0 : g 24 = false) (hg20 : g 20 = true) {r : Nat} (hx : x15 = .map (some r)) (hr : w0.heap.size ≤ r) (hb0 : Below w0.heap.size w0 w) (ho : Tab OKi w r TB g) (hw : w.grownBy w' (some r)) (hbw : Below w0.heap.size w0 w') (ht : Tab OKi w' r TB (upd g 24)) : WI w0 (upd g 24) w' x0 x1 x15 x16 x17 x18 x20 x21 x22 x23 x28 :=
  ⟨hbw,
   fun j hj => upd_old _ (h.cst j hj),
   fun e => by obtain ⟨r2, a2, b2, c2⟩ := h.m0 e; exact ⟨r2, a2, b2, (c2.kept hw (by intro q; injection q with q; subst q; exact h.d01 e hg20 (by rw [hx, a2]))).more (by simp [TA])⟩,
   fun _ => ⟨r, hx, hr, ht⟩,
   fun e => by obtain ⟨r2, a2, b2, c2⟩ := h.m2 e; exact ⟨r2, a2, b2, (c2.kept hw (by intro q; injection q with q; subst q; exact h.d12 hg20 e (by rw [hx, a2]))).more (by simp [TC])⟩,
   h.d01,
   h.d02,
   h.d12,
   h.v25,
   fun e => by obtain ⟨B, a, l, b⟩ := h.c26 e; exact ⟨B, a, l, cell_ins ho hw b⟩,
   h.v27,
   h.v35,
   fun e => by obtain ⟨B, a, l, b⟩ := h.c36 e; exact ⟨B, a, l, cell_ins ho hw b⟩,
   h.v37,
   h.o0,
   fun e => absurd (e.symm.trans hg20) (by decide),
   h.o30,
   h.o26,
   h.o27,
   h.o28,
   h.o36,
   h.o37,
   h.o38,
   h.v45,
   h.v46,
   h.o46⟩
theorem WI.ins31 {w0 w w' : World} {g : Nat → Bool} {x0 x1 x15 x16 x17 x18 x20 x21 x22 x23 x28 : Value} (h : WI w0 g w x0 x1 x15 x16 x17 x18 x20 x21 x22 x23 x28) (h0 : g 31 = false) (hg30 : g 30 = true) {r : Nat} (hx : x20 = .map (some r)) (hr : w0.heap.size ≤ r) (hb0 : Below w0.heap.size w0 w) (ho : Tab OKi w r TC g) (hw : w.grownBy w' (some r)) (hbw : Below w0.heap.size w0 w') (ht : Tab OKi w' r TC (upd g 31)) : WI w0 (upd g 31) w' x0 x1 x15 x16 x17 x18 x20 x21 x22 x23 x28 :=
  ⟨hbw,
   fun j hj => upd_old _ (h.cst j hj),
   fun e => by obtain ⟨r2, a2, b2, c2⟩ := h.m0 e; exact ⟨r2, a2, b2, (c2.kept hw (by intro q; injection q with q; subst q; exact h.d02 e hg30 (by rw [hx, a2]))).more (by simp [TA])⟩,
   fun e => by obtain ⟨r2, a2, b2, c2⟩ := h.m1 e; exact ⟨r2, a2, b2, (c2.kept hw (by intro q; injection q with q; subst q; exact h.d12 e hg30 (by rw [hx, a2]))).more (by simp [TB])⟩,
   fun _ => ⟨r, hx, hr, ht⟩,
   h.d01,
   h.d02,
   h.d12,
   h.v25,
   fun e => by obtain ⟨B, a, l, b⟩ := h.c26 e; exact ⟨B, a, l, cell_ins ho hw b⟩,
   h.v27,
   h.v35,
   fun e => by obtain ⟨B, a, l, b⟩ := h.c36 e; exact ⟨B, a, l, cell_ins ho hw b⟩,
   h.v37,
   h.o0,
   h.o20,
   fun e => absurd (e.symm.trans hg30) (by decide),
   h.o26,
   h.o27,
   h.o28,
   h.o36,
   h.o37,
   h.o38,
   h.v45,
   h.v46,
   h.o46⟩
theorem WI.ins32 {w0 w w' : World} {g : Nat → Bool} {x0 x1 x15 x16 x17 x18 x20 x21 x22 x23 x28 : Value} (h : WI w0 g w x0 x1 x15 x16 x17 x18 x20 x21 x22 x23 x28) (h0 : g 32 = false) (hg30 : g 30 = true) {r : Nat} (hx : x20 = .map (some r)) (hr : w0.heap.size ≤ r) (hb0 : Below w0.heap.size w0 w) (ho : Tab OKi w r TC g) (hw : w.grownBy w' (some r)) (hbw : Below w0.heap.size w0 w') (ht : Tab OKi w' r TC (upd g 32)) : WI w0 (upd g 32) w' x0 x1 x15 x16 x17 x18 x20 x21 x22 x23 x28 :=
  ⟨hbw,
   fun j hj => upd_old _ (h.cst j hj),
   fun e => by obtain ⟨r2, a2, b2, c2⟩ := h.m0 e; exact ⟨r2, a2, b2, (c2.kept hw (by intro q; injection q with q; subst q; exact h.d02 e hg30 (by rw [hx, a2]))).more (by simp [TA])⟩,
   fun e => by obtain ⟨r2, a2, b2, c2⟩ := h.m1 e; exact ⟨r2, a2, b2, (c2.kept hw (by intro q; injection q with q; subst q; exact h.d12 e hg30 (by rw [hx, a2]))).more (by simp [TB])⟩,
   fun _ => ⟨r, hx, hr, ht⟩,
   h.d01,
   h.d02,
   h.d12,
   h.v25,
   fun e => by obtain ⟨B, a, l, b⟩ := h.c26 e; exact ⟨B, a, l, cell_ins ho hw b⟩,
   h.v27,
   h.v35,
   fun e => by obtain ⟨B, a, l, b⟩ := h.c36 e; exact ⟨B, a, l, cell_ins ho hw b⟩,
   h.v37,
   h.o0,
   h.o20,
   fun e => absurd (e.symm.trans hg30) (by decide),
   h.o26,
   h.o27,
   h.o28,
   h.o36,
   h.o37,
   h.o38,
   h.v45,
   h.v46,
   h.o46⟩
theorem WI.ins33 {w0 w w' : World} {g : Nat → Bool} {x0 x1 x15 x16 x17 x18 x20 x21 x22 x23 x28 : Value} (h : WI w0 g w x0 x1 x15 x16 x17 x18 x20 x21 x22 x23 x28) (h0 : g 33 = false) (hg30 : g 30 = true) {r : Nat} (hx : x20 = .map (some r)) (hr : w0.heap.size ≤ r) (hb0 : Below w0.heap.size w0 w) (ho : Tab OKi w r TC g) (hw : w.grownBy w' (some r)) (hbw : Below w0.heap.size w0 w') (ht : Tab OKi w' r TC (upd g 33)) : WI w0 (upd g 33) w' x0 x1 x15 x16 x17 x18 x20 x21 x22 x23 x28 :=
  ⟨hbw,
   fun j hj => upd_old _ (h.cst j hj),
   fun e => by obtain ⟨r2, a2, b2, c2⟩ := h.m0 e; exact ⟨r2, a2, b2, (c2.kept hw (by intro q; injection q with q; subst q; exact h.d02 e hg30 (by rw [hx, a2]))).more (by simp [TA])⟩,
   fun e => by obtain ⟨r2, a2, b2, c2⟩ := h.m1 e; exact ⟨r2, a2, b2, (c2.kept hw (by intro q; injection q with q; subst q; exact h.d12 e hg30 (by rw [hx, a2]))).more (by simp [TB])⟩,
   fun _ => ⟨r, hx, hr, ht⟩,
   h.d01,
   h.d02,
   h.d12,
   h.v25,
   fun e => by obtain ⟨B, a, l, b⟩ := h.c26 e; exact ⟨B, a, l, cell_ins ho hw b⟩,
   h.v27,
   h.v35,
   fun e => by obtain ⟨B, a, l, b⟩ := h.c36 e; exact ⟨B, a, l, cell_ins ho hw b⟩,
   h.v37,
   h.o0,
   h.o20,
   fun e => absurd (e.symm.trans hg30) (by decide),
   h.o26,
   h.o27,
   h.o28,
   h.o36,
   h.o37,
   h.o38,
   h.v45,
   h.v46,
   h.o46⟩
theorem WI.ins34 {w0 w w' : World} {g : Nat → Bool} {x0 x1 x15 x16 x17 x18 x20 x21 x22 x23 x28 : Value} (h : WI w0 g w x0 x1 x15 x16 x17 x18 x20 x21 x22 x23 x28) (h0 : g 34 = false) (hg30 : g 30 = true) {r : Nat} (hx : x20 = .map (some r)) (hr : w0.heap.size ≤ r) (hb0 : Below w0.heap.size w0 w) (ho : Tab OKi w r TC g) (hw : w.grownBy w' (some r)) (hbw : Below w0.heap.size w0 w') (ht : Tab OKi w' r TC (upd g 34)) : WI w0 (upd g 34) w' x0 x1 x15 x16 x17 x18 x20 x21 x22 x23 x28 :=
  ⟨hbw,
   fun j hj => upd_old _ (h.cst j hj),
   fun e => by obtain ⟨r2, a2, b2, c2⟩ := h.m0 e; exact ⟨r2, a2, b2, (c2.kept hw (by intro q; injection q with q; subst q; exact h.d02 e hg30 (by rw [hx, a2]))).more (by simp [TA])⟩,
   fun e => by obtain ⟨r2, a2, b2, c2⟩ := h.m1 e; exact ⟨r2, a2, b2, (c2.kept hw (by intro q; injection q with q; subst q; exact h.d12 e hg30 (by rw [hx, a2]))).more (by simp [TB])⟩,
   fun _ => ⟨r, hx, hr, ht⟩,
   h.d01,
   h.d02,
   h.d12,
   h.v25,
   fun e => by obtain ⟨B, a, l, b⟩ := h.c26 e; exact ⟨B, a, l, cell_ins ho hw b⟩,
   h.v27,
   h.v35,
   fun e => by obtain ⟨B, a, l, b⟩ := h.c36 e; exact ⟨B, a, l, cell_ins ho hw b⟩,
   h.v37,
   h.o0,
   h.o20,
   fun e => absurd (e.symm.trans hg30) (by decide),
   h.o26,
   h.o27,
   h.o28,
   h.o36,
   h.o37,
   h.o38,
   h.v45,
   h.v46,
   h.o46⟩
--/W
section
variable {P : Program} {Q : Exit → Act → World → Prop} {md : Region.Mode} {I : (Nat → Bool) → Act → World → Prop} {ops : Array Oper}
theorem StepsI.cons {k : Nat} {o : Oper} {l : List Oper} (h : StepI P ops Q md I k o) (t : StepsI P ops Q md I (k + 1) l) : StepsI P ops Q md I k (o :: l) := ⟨h, t⟩
theorem StepsI.nil {k : Nat} : StepsI P ops Q md I k [] := trivial
theorem StepI.void {k : Nat} {o : Oper} (hI : ∀ g a w, I g a w → g k = true) : StepI P ops Q md I k o := fun g a w h0 _ h => absurd (h0.symm.trans (hI g a w h)) (by decide)
end
/-- The invariant, with the temporaries. -/
def WIA (w0 : World) (g : Nat → Bool) (a : Act) (w : World) : Prop := ∃ x0 x1 x15 x16 x17 x18 x20 x21 x22 x23 x28,
  a = ⟨#[x0, x1, pr2 1 2, wv 68 (fnV 69), pr2 2 1, wv 70 (fnV 71), pr2 1 3, wv 72 (fnV 69), pr2 2 3, wv 73 (fnV 69), pr2 3 1, wv 74 (fnV 75), pr2 3 2, wv 76 (fnV 75), pr2 1 4, x15, x16, x17, x18, pr2 2 4, x20, x21, x22, x23, pr2 4 1, wv 81 (fnV 69), pr2 4 2, wv 82 (fnV 69), x28], []⟩ ∧ WI w0 g w x0 x1 x15 x16 x17 x18 x20 x21 x22 x23 x28
theorem WIA.cst {w0 : World} {k : Nat} (hk : k ∈ [1, 2, 4, 5, 7, 8, 10, 11, 13, 14, 16, 17, 19, 29, 39, 40, 42, 43]) : ∀ g a w, WIA w0 g a w → g k = true := by
  rintro g a w ⟨x0, x1, x15, x16, x17, x18, x20, x21, x22, x23, x28, rfl, h⟩
  exact h.cst k hk
theorem WI.init {w0 w : World} {g : Nat → Bool} {x0 x1 x15 x16 x17 x18 x20 x21 x22 x23 x28 : Value} (hb : Below w0.heap.size w0 w) (h1 : ∀ k, k ∈ [1, 2, 4, 5, 7, 8, 10, 11, 13, 14, 16, 17, 19, 29, 39, 40, 42, 43] → g k = true) (h0 : ∀ k, k ∈ [0, 3, 6, 9, 12, 15, 18, 20, 21, 22, 23, 24, 25, 26, 27, 28, 30, 31, 32, 33, 34, 35, 36, 37, 38, 41, 44, 45, 46] → g k = false) :
    WI w0 g w x0 x1 x15 x16 x17 x18 x20 x21 x22 x23 x28 := by
  constructor
  case below => exact hb
  case cst => exact h1
  all_goals simp [h0]
/-- The map of the ways. -/
def WaysM (lo : Nat) (w : World) (r : Nat) : Prop := ∃ B1 r1 B2 r2 g, (lo ≤ B1 ∧ lo ≤ r1 ∧ lo ≤ B2 ∧ lo ≤ r2) ∧ (∀ j, j < 47 → g j = true) ∧ w.cell? ⟨B1, 0, none⟩ = some (.map (some r1)) ∧ Tab OKi w r1 TB g ∧ w.cell? ⟨B2, 0, none⟩ = some (.map (some r2)) ∧ Tab OKi w r2 TC g ∧ Tab OKp w r (TA (wv 77 (closV B1)) (wv 80 (closV B2))) g
end Go.Proofs.YtagoooclfcbdeaaGreatDoor
namespace Go.Proofs.YtagoooclfcbdeaaGreatDoor
open Go.RowKit
set_option linter.unusedVariables false
set_option maxRecDepth 100000 in
set_option maxHeartbeats 20000000 in
theorem cways_any (w : World) : Calls Tryz.prog 53 #[] w fun e w' => ∃ r, e = .returned (.map (some r)) ∧ WaysM w.heap.size w' r ∧ Below w.heap.size w w' := by
  have hmm := @run_makeMap Tryz.prog
  go_enter Tryz.func53, Tryz.ntmps53
  go_wp2_with fail
  refine wp_region_held_drew (S := fun _ => True) (by kernel_rfl) trivial (fun _ => ?_)
  have hTr : True := trivial
  refine wpAnyH_takeL (i := 1) (v := ?vhy1) rfl (by kernel_rfl) (by kernel_rfl) (by kernel_rfl) (fun _ _ _ h => h) (Or.inl ⟨by rfl, ?hy1⟩) (by assumption) ?rhy1
  case hy1 => ((intro w hSw; (try dsimp only at hSw); go_simp); try with_reducible rfl)
  try simp only [Act.put, List.setIfInBounds_toArray, List.set_cons_zero, List.set_cons_succ]
  refine wpAnyH_takeL (i := 2) (v := ?vhy2) rfl (by kernel_rfl) (by kernel_rfl) (by kernel_rfl) (fun _ _ _ h => h) (Or.inl ⟨by rfl, ?hy2⟩) (by assumption) ?rhy2
  case hy2 => ((intro w hSw; (try dsimp only at hSw); go_simp); try with_reducible rfl)
  try simp only [Act.put, List.setIfInBounds_toArray, List.set_cons_zero, List.set_cons_succ]
  refine wpAnyH_takeL (i := 4) (v := ?vhy3) rfl (by kernel_rfl) (by kernel_rfl) (by kernel_rfl) (fun _ _ _ h => h) (Or.inl ⟨by rfl, ?hy3⟩) (by assumption) ?rhy3
  case hy3 => ((intro w hSw; (try dsimp only at hSw); go_simp); try with_reducible rfl)
  try simp only [Act.put, List.setIfInBounds_toArray, List.set_cons_zero, List.set_cons_succ]
  refine wpAnyH_takeL (i := 5) (v := ?vhy4) rfl (by kernel_rfl) (by kernel_rfl) (by kernel_rfl) (fun _ _ _ h => h) (Or.inl ⟨by rfl, ?hy4⟩) (by assumption) ?rhy4
  case hy4 => ((intro w hSw; (try dsimp only at hSw); go_simp); try with_reducible rfl)
  try simp only [Act.put, List.setIfInBounds_toArray, List.set_cons_zero, List.set_cons_succ]
  refine wpAnyH_takeL (i := 7) (v := ?vhy5) rfl (by kernel_rfl) (by kernel_rfl) (by kernel_rfl) (fun _ _ _ h => h) (Or.inl ⟨by rfl, ?hy5⟩) (by assumption) ?rhy5
  case hy5 => ((intro w hSw; (try dsimp only at hSw); go_simp); try with_reducible rfl)
  try simp only [Act.put, List.setIfInBounds_toArray, List.set_cons_zero, List.set_cons_succ]
  refine wpAnyH_takeL (i := 8) (v := ?vhy6) rfl (by kernel_rfl) (by kernel_rfl) (by kernel_rfl) (fun _ _ _ h => h) (Or.inl ⟨by rfl, ?hy6⟩) (by assumption) ?rhy6
  case hy6 => ((intro w hSw; (try dsimp only at hSw); go_simp); try with_reducible rfl)
  try simp only [Act.put, List.setIfInBounds_toArray, List.set_cons_zero, List.set_cons_succ]
  refine wpAnyH_takeL (i := 10) (v := ?vhy7) rfl (by kernel_rfl) (by kernel_rfl) (by kernel_rfl) (fun _ _ _ h => h) (Or.inl ⟨by rfl, ?hy7⟩) (by assumption) ?rhy7
  case hy7 => ((intro w hSw; (try dsimp only at hSw); go_simp); try with_reducible rfl)
  try simp only [Act.put, List.setIfInBounds_toArray, List.set_cons_zero, List.set_cons_succ]
  refine wpAnyH_takeL (i := 11) (v := ?vhy8) rfl (by kernel_rfl) (by kernel_rfl) (by kernel_rfl) (fun _ _ _ h => h) (Or.inl ⟨by rfl, ?hy8⟩) (by assumption) ?rhy8
  case hy8 => ((intro w hSw; (try dsimp only at hSw); go_simp); try with_reducible rfl)
  try simp only [Act.put, List.setIfInBounds_toArray, List.set_cons_zero, List.set_cons_succ]
  refine wpAnyH_takeL (i := 13) (v := ?vhy9) rfl (by kernel_rfl) (by kernel_rfl) (by kernel_rfl) (fun _ _ _ h => h) (Or.inl ⟨by rfl, ?hy9⟩) (by assumption) ?rhy9
  case hy9 => ((intro w hSw; (try dsimp only at hSw); go_simp); try with_reducible rfl)
  try simp only [Act.put, List.setIfInBounds_toArray, List.set_cons_zero, List.set_cons_succ]
  refine wpAnyH_takeL (i := 14) (v := ?vhy10) rfl (by kernel_rfl) (by kernel_rfl) (by kernel_rfl) (fun _ _ _ h => h) (Or.inl ⟨by rfl, ?hy10⟩) (by assumption) ?rhy10
  case hy10 => ((intro w hSw; (try dsimp only at hSw); go_simp); try with_reducible rfl)
  try simp only [Act.put, List.setIfInBounds_toArray, List.set_cons_zero, List.set_cons_succ]
  refine wpAnyH_takeL (i := 16) (v := ?vhy11) rfl (by kernel_rfl) (by kernel_rfl) (by kernel_rfl) (fun _ _ _ h => h) (Or.inl ⟨by rfl, ?hy11⟩) (by assumption) ?rhy11
  case hy11 => ((intro w hSw; (try dsimp only at hSw); go_simp); try with_reducible rfl)
  try simp only [Act.put, List.setIfInBounds_toArray, List.set_cons_zero, List.set_cons_succ]
  refine wpAnyH_takeL (i := 17) (v := ?vhy12) rfl (by kernel_rfl) (by kernel_rfl) (by kernel_rfl) (fun _ _ _ h => h) (Or.inl ⟨by rfl, ?hy12⟩) (by assumption) ?rhy12
  case hy12 => ((intro w hSw; (try dsimp only at hSw); go_simp); try with_reducible rfl)
  try simp only [Act.put, List.setIfInBounds_toArray, List.set_cons_zero, List.set_cons_succ]
  refine wpAnyH_takeL (i := 19) (v := ?vhy13) rfl (by kernel_rfl) (by kernel_rfl) (by kernel_rfl) (fun _ _ _ h => h) (Or.inl ⟨by rfl, ?hy13⟩) (by assumption) ?rhy13
  case hy13 => ((intro w hSw; (try dsimp only at hSw); go_simp); try with_reducible rfl)
  try simp only [Act.put, List.setIfInBounds_toArray, List.set_cons_zero, List.set_cons_succ]
  refine wpAnyH_takeL (i := 29) (v := ?vhy14) rfl (by kernel_rfl) (by kernel_rfl) (by kernel_rfl) (fun _ _ _ h => h) (Or.inl ⟨by rfl, ?hy14⟩) (by assumption) ?rhy14
  case hy14 => ((intro w hSw; (try dsimp only at hSw); go_simp); try with_reducible rfl)
  try simp only [Act.put, List.setIfInBounds_toArray, List.set_cons_zero, List.set_cons_succ]
  refine wpAnyH_takeL (i := 39) (v := ?vhy15) rfl (by kernel_rfl) (by kernel_rfl) (by kernel_rfl) (fun _ _ _ h => h) (Or.inl ⟨by rfl, ?hy15⟩) (by assumption) ?rhy15
  case hy15 => ((intro w hSw; (try dsimp only at hSw); go_simp); try with_reducible rfl)
  try simp only [Act.put, List.setIfInBounds_toArray, List.set_cons_zero, List.set_cons_succ]
  refine wpAnyH_takeL (i := 40) (v := ?vhy16) rfl (by kernel_rfl) (by kernel_rfl) (by kernel_rfl) (fun _ _ _ h => h) (Or.inl ⟨by rfl, ?hy16⟩) (by assumption) ?rhy16
  case hy16 => ((intro w hSw; (try dsimp only at hSw); go_simp); try with_reducible rfl)
  try simp only [Act.put, List.setIfInBounds_toArray, List.set_cons_zero, List.set_cons_succ]
  refine wpAnyH_takeL (i := 42) (v := ?vhy17) rfl (by kernel_rfl) (by kernel_rfl) (by kernel_rfl) (fun _ _ _ h => h) (Or.inl ⟨by rfl, ?hy17⟩) (by assumption) ?rhy17
  case hy17 => ((intro w hSw; (try dsimp only at hSw); go_simp); try with_reducible rfl)
  try simp only [Act.put, List.setIfInBounds_toArray, List.set_cons_zero, List.set_cons_succ]
  refine wpAnyH_takeL (i := 43) (v := ?vhy18) rfl (by kernel_rfl) (by kernel_rfl) (by kernel_rfl) (fun _ _ _ h => h) (Or.inl ⟨by rfl, ?hy18⟩) (by assumption) ?rhy18
  case hy18 => ((intro w hSw; (try dsimp only at hSw); go_simp); try with_reducible rfl)
  try simp only [Act.put, List.setIfInBounds_toArray, List.set_cons_zero, List.set_cons_succ]
  refine wpAnyH_inv (I := WIA w) (by kernel_rfl) ?steps ?done _ _ _ _ rfl (by decide) ⟨_, _, _, _, _, _, _, _, _, _, _, rfl, WI.init (Below.refl _ w).drew (by decide) (by decide)⟩
  case done =>
    rintro g a w1 hall ⟨x0, x1, x15, x16, x17, x18, x20, x21, x22, x23, x28, rfl, h⟩
    have e46 := h.v46 (hall 46 (by decide))
    have e45 := h.v45 (hall 45 (by decide))
    obtain ⟨r, rfl, hr, ht⟩ := h.m0 (hall 0 (by decide))
    obtain ⟨r1, rfl, hr1, ht1⟩ := h.m1 (hall 20 (by decide))
    obtain ⟨r2, rfl, hr2, ht2⟩ := h.m2 (hall 30 (by decide))
    obtain ⟨B1, rfl, l1, c1⟩ := h.c26 (hall 26 (by decide))
    obtain ⟨B2, rfl, l2, c2⟩ := h.c36 (hall 36 (by decide))
    obtain rfl := h.v27 (hall 27 (by decide))
    obtain rfl := h.v37 (hall 37 (by decide))
    subst e45
    subst e46
    have hW : WaysM w.heap.size w1 r := ⟨B1, r1, B2, r2, g, ⟨l1, hr1, l2, hr2⟩, hall, c1, ht1, c2, ht2, ht⟩
    have hb := h.below
    replace hW := Lib.hid hW
    clear hall h ht ht1 ht2 c1 c2 hr hr1 hr2 l1 l2
    go_wp2
    go_ret
    exact ⟨r, rfl, hW.out, hb⟩
  refine StepsI.cons ?_ (StepsI.cons ?_ (StepsI.cons ?_ (StepsI.cons ?_ (StepsI.cons ?_ (StepsI.cons ?_ (StepsI.cons ?_ (StepsI.cons ?_ (StepsI.cons ?_ (StepsI.cons ?_ (StepsI.cons ?_ (StepsI.cons ?_ (StepsI.cons ?_ (StepsI.cons ?_ (StepsI.cons ?_ (StepsI.cons ?_ (StepsI.cons ?_ (StepsI.cons ?_ (StepsI.cons ?_ (StepsI.cons ?_ (StepsI.cons ?_ (StepsI.cons ?_ (StepsI.cons ?_ (StepsI.cons ?_ (StepsI.cons ?_ (StepsI.cons ?_ (StepsI.cons ?_ (StepsI.cons ?_ (StepsI.cons ?_ (StepsI.cons ?_ (StepsI.cons ?_ (StepsI.cons ?_ (StepsI.cons ?_ (StepsI.cons ?_ (StepsI.cons ?_ (StepsI.cons ?_ (StepsI.cons ?_ (StepsI.cons ?_ (StepsI.cons ?_ (StepsI.cons ?_ (StepsI.cons ?_ (StepsI.cons ?_ (StepsI.cons ?_ (StepsI.cons ?_ (StepsI.cons ?_ (StepsI.cons ?_ (StepsI.cons ?_ StepsI.nil))))))))))))))))))))))))))))))))))))))))))))))
  · intro g a w h0 h1 hI K' hK
    obtain ⟨x0, x1, x15, x16, x17, x18, x20, x21, x22, x23, x28, rfl, h⟩ := hI
    have ho := h.o0 h0
    have ht : Tab OKp (w.alloc (.map #[] 0)) w.heap.size (TA x18 x23) (upd g 0) := Tab.new (by simp [TA, upd, ho])
    have hI := h.make0 h0 (gr_alloc (Below.refl _ w) _) h.below.size ht
    replace hI := Lib.hid hI
    clear h1 h ht ho
    go_simp
    refine hK.out _ _ ?_
    exact ⟨_, _, _, _, _, _, _, _, _, _, _, rfl, hI.out⟩
  · exact StepI.void (WIA.cst (by decide))
  · exact StepI.void (WIA.cst (by decide))
  · intro g a w h0 h1 hI K' hK
    obtain ⟨x0, x1, x15, x16, x17, x18, x20, x21, x22, x23, x28, rfl, h⟩ := hI
    have hg0 : g 0 = true := h1 _ (List.Mem.head _) rfl
    obtain ⟨r, rfl, hr, ht⟩ := h.m0 hg0
    obtain ⟨w', hrun, ht', hw⟩ := Tab.insert 102 105 76 Tryz.underlying102 klaw_pair ht (TA_apart _ _) (n := 3) (k := pr2 1 2) (v := (wv 68 (fnV 69))) ⟨1, 2, rfl⟩ (by simp [TA]) h0
    have hbw := h.below.grown hw h.below.size (fun k e => by cases e; exact hr)
    have hI := h.ins3 h0 hg0 rfl hr h.below ht hw hbw ht'
    replace hI := Lib.hid hI
    clear h1 h ht ht' hbw hw hr
    go_simp
    refine hK.out _ _ ?_
    exact ⟨_, _, _, _, _, _, _, _, _, _, _, rfl, hI.out⟩
  · exact StepI.void (WIA.cst (by decide))
  · exact StepI.void (WIA.cst (by decide))
  · intro g a w h0 h1 hI K' hK
    obtain ⟨x0, x1, x15, x16, x17, x18, x20, x21, x22, x23, x28, rfl, h⟩ := hI
    have hg0 : g 0 = true := h1 _ (List.Mem.head _) rfl
    obtain ⟨r, rfl, hr, ht⟩ := h.m0 hg0
    obtain ⟨w', hrun, ht', hw⟩ := Tab.insert 102 105 76 Tryz.underlying102 klaw_pair ht (TA_apart _ _) (n := 6) (k := pr2 2 1) (v := (wv 70 (fnV 71))) ⟨2, 1, rfl⟩ (by simp [TA]) h0
    have hbw := h.below.grown hw h.below.size (fun k e => by cases e; exact hr)
    have hI := h.ins6 h0 hg0 rfl hr h.below ht hw hbw ht'
    replace hI := Lib.hid hI
    clear h1 h ht ht' hbw hw hr
    go_simp
    refine hK.out _ _ ?_
    exact ⟨_, _, _, _, _, _, _, _, _, _, _, rfl, hI.out⟩
  · exact StepI.void (WIA.cst (by decide))
  · exact StepI.void (WIA.cst (by decide))
  · intro g a w h0 h1 hI K' hK
    obtain ⟨x0, x1, x15, x16, x17, x18, x20, x21, x22, x23, x28, rfl, h⟩ := hI
    have hg0 : g 0 = true := h1 _ (List.Mem.head _) rfl
    obtain ⟨r, rfl, hr, ht⟩ := h.m0 hg0
    obtain ⟨w', hrun, ht', hw⟩ := Tab.insert 102 105 76 Tryz.underlying102 klaw_pair ht (TA_apart _ _) (n := 9) (k := pr2 1 3) (v := (wv 72 (fnV 69))) ⟨1, 3, rfl⟩ (by simp [TA]) h0
    have hbw := h.below.grown hw h.below.size (fun k e => by cases e; exact hr)
    have hI := h.ins9 h0 hg0 rfl hr h.below ht hw hbw ht'
    replace hI := Lib.hid hI
    clear h1 h ht ht' hbw hw hr
    go_simp
    refine hK.out _ _ ?_
    exact ⟨_, _, _, _, _, _, _, _, _, _, _, rfl, hI.out⟩
  · exact StepI.void (WIA.cst (by decide))
  · exact StepI.void (WIA.cst (by decide))
  · intro g a w h0 h1 hI K' hK
    obtain ⟨x0, x1, x15, x16, x17, x18, x20, x21, x22, x23, x28, rfl, h⟩ := hI
    have hg0 : g 0 = true := h1 _ (List.Mem.head _) rfl
    obtain ⟨r, rfl, hr, ht⟩ := h.m0 hg0
    obtain ⟨w', hrun, ht', hw⟩ := Tab.insert 102 105 76 Tryz.underlying102 klaw_pair ht (TA_apart _ _) (n := 12) (k := pr2 2 3) (v := (wv 73 (fnV 69))) ⟨2, 3, rfl⟩ (by simp [TA]) h0
    have hbw := h.below.grown hw h.below.size (fun k e => by cases e; exact hr)
    have hI := h.ins12 h0 hg0 rfl hr h.below ht hw hbw ht'
    replace hI := Lib.hid hI
    clear h1 h ht ht' hbw hw hr
    go_simp
    refine hK.out _ _ ?_
    exact ⟨_, _, _, _, _, _, _, _, _, _, _, rfl, hI.out⟩
  · exact StepI.void (WIA.cst (by decide))
  · exact StepI.void (WIA.cst (by decide))
  · intro g a w h0 h1 hI K' hK
    obtain ⟨x0, x1, x15, x16, x17, x18, x20, x21, x22, x23, x28, rfl, h⟩ := hI
    have hg0 : g 0 = true := h1 _ (List.Mem.head _) rfl
    obtain ⟨r, rfl, hr, ht⟩ := h.m0 hg0
    obtain ⟨w', hrun, ht', hw⟩ := Tab.insert 102 105 76 Tryz.underlying102 klaw_pair ht (TA_apart _ _) (n := 15) (k := pr2 3 1) (v := (wv 74 (fnV 75))) ⟨3, 1, rfl⟩ (by simp [TA]) h0
    have hbw := h.below.grown hw h.below.size (fun k e => by cases e; exact hr)
    have hI := h.ins15 h0 hg0 rfl hr h.below ht hw hbw ht'
    replace hI := Lib.hid hI
    clear h1 h ht ht' hbw hw hr
    go_simp
    refine hK.out _ _ ?_
    exact ⟨_, _, _, _, _, _, _, _, _, _, _, rfl, hI.out⟩
  · exact StepI.void (WIA.cst (by decide))
  · exact StepI.void (WIA.cst (by decide))
  · intro g a w h0 h1 hI K' hK
    obtain ⟨x0, x1, x15, x16, x17, x18, x20, x21, x22, x23, x28, rfl, h⟩ := hI
    have hg0 : g 0 = true := h1 _ (List.Mem.head _) rfl
    obtain ⟨r, rfl, hr, ht⟩ := h.m0 hg0
    obtain ⟨w', hrun, ht', hw⟩ := Tab.insert 102 105 76 Tryz.underlying102 klaw_pair ht (TA_apart _ _) (n := 18) (k := pr2 3 2) (v := (wv 76 (fnV 75))) ⟨3, 2, rfl⟩ (by simp [TA]) h0
    have hbw := h.below.grown hw h.below.size (fun k e => by cases e; exact hr)
    have hI := h.ins18 h0 hg0 rfl hr h.below ht hw hbw ht'
    replace hI := Lib.hid hI
    clear h1 h ht ht' hbw hw hr
    go_simp
    refine hK.out _ _ ?_
    exact ⟨_, _, _, _, _, _, _, _, _, _, _, rfl, hI.out⟩
  · exact StepI.void (WIA.cst (by decide))
  · intro g a w h0 h1 hI K' hK
    obtain ⟨x0, x1, x15, x16, x17, x18, x20, x21, x22, x23, x28, rfl, h⟩ := hI
    have ho := h.o20 h0
    have ht : Tab OKi (w.alloc (.map #[] 0)) w.heap.size TB (upd g 20) := Tab.new (by simp [TB, upd, ho])
    have hI := h.make20 h0 (gr_alloc (Below.refl _ w) _) h.below.size ht
    replace hI := Lib.hid hI
    clear h1 h ht ho
    go_simp
    refine hK.out _ _ ?_
    exact ⟨_, _, _, _, _, _, _, _, _, _, _, rfl, hI.out⟩
  · intro g a w h0 h1 hI K' hK
    obtain ⟨x0, x1, x15, x16, x17, x18, x20, x21, x22, x23, x28, rfl, h⟩ := hI
    have hgd : g 20 = true := h1 _ (List.Mem.head _) rfl
    obtain ⟨r, rfl, hr, ht⟩ := h.m1 hgd
    obtain ⟨w', hrun, ht', hw⟩ := Tab.insert 135 3 3 Tryz.underlying135 (klaw_int Tryz.underlying3) ht TB_apart (n := 21) (k := .int .i64 1) (v := .int .i64 4) ⟨1, rfl⟩ (by simp [TB]) h0
    have hbw := h.below.grown hw h.below.size (fun k e => by cases e; exact hr)
    have hI := h.ins21 h0 hgd rfl hr h.below ht hw hbw ht'
    replace hI := Lib.hid hI
    clear h1 h ht ht' hbw hw hr
    go_simp
    refine hK.out _ _ ?_
    exact ⟨_, _, _, _, _, _, _, _, _, _, _, rfl, hI.out⟩
  · intro g a w h0 h1 hI K' hK
    obtain ⟨x0, x1, x15, x16, x17, x18, x20, x21, x22, x23, x28, rfl, h⟩ := hI
    have hgd : g 20 = true := h1 _ (List.Mem.head _) rfl
    obtain ⟨r, rfl, hr, ht⟩ := h.m1 hgd
    obtain ⟨w', hrun, ht', hw⟩ := Tab.insert 135 3 3 Tryz.underlying135 (klaw_int Tryz.underlying3) ht TB_apart (n := 22) (k := .int .i64 2) (v := .int .i64 6) ⟨2, rfl⟩ (by simp [TB]) h0
    have hbw := h.below.grown hw h.below.size (fun k e => by cases e; exact hr)
    have hI := h.ins22 h0 hgd rfl hr h.below ht hw hbw ht'
    replace hI := Lib.hid hI
    clear h1 h ht ht' hbw hw hr
    go_simp
    refine hK.out _ _ ?_
    exact ⟨_, _, _, _, _, _, _, _, _, _, _, rfl, hI.out⟩
  · intro g a w h0 h1 hI K' hK
    obtain ⟨x0, x1, x15, x16, x17, x18, x20, x21, x22, x23, x28, rfl, h⟩ := hI
    have hgd : g 20 = true := h1 _ (List.Mem.head _) rfl
    obtain ⟨r, rfl, hr, ht⟩ := h.m1 hgd
    obtain ⟨w', hrun, ht', hw⟩ := Tab.insert 135 3 3 Tryz.underlying135 (klaw_int Tryz.underlying3) ht TB_apart (n := 23) (k := .int .i64 4) (v := .int .i64 11) ⟨4, rfl⟩ (by simp [TB]) h0
    have hbw := h.below.grown hw h.below.size (fun k e => by cases e; exact hr)
    have hI := h.ins23 h0 hgd rfl hr h.below ht hw hbw ht'
    replace hI := Lib.hid hI
    clear h1 h ht ht' hbw hw hr
    go_simp
    refine hK.out _ _ ?_
    exact ⟨_, _, _, _, _, _, _, _, _, _, _, rfl, hI.out⟩
  · intro g a w h0 h1 hI K' hK
    obtain ⟨x0, x1, x15, x16, x17, x18, x20, x21, x22, x23, x28, rfl, h⟩ := hI
    have hgd : g 20 = true := h1 _ (List.Mem.head _) rfl
    obtain ⟨r, rfl, hr, ht⟩ := h.m1 hgd
    obtain ⟨w', hrun, ht', hw⟩ := Tab.insert 135 3 3 Tryz.underlying135 (klaw_int Tryz.underlying3) ht TB_apart (n := 24) (k := .int .i64 8) (v := .int .i64 20) ⟨8, rfl⟩ (by simp [TB]) h0
    have hbw := h.below.grown hw h.below.size (fun k e => by cases e; exact hr)
    have hI := h.ins24 h0 hgd rfl hr h.below ht hw hbw ht'
    replace hI := Lib.hid hI
    clear h1 h ht ht' hbw hw hr
    go_simp
    refine hK.out _ _ ?_
    exact ⟨_, _, _, _, _, _, _, _, _, _, _, rfl, hI.out⟩
  · intro g a w h0 h1 hI K' hK
    obtain ⟨x0, x1, x15, x16, x17, x18, x20, x21, x22, x23, x28, rfl, h⟩ := hI
    have hgd : g 20 = true := h1 _ (List.Mem.head _) rfl
    have hI := h.move25 h0 hgd
    replace hI := Lib.hid hI
    clear h1 h
    go_simp
    refine hK.out _ _ ?_
    exact ⟨_, _, _, _, _, _, _, _, _, _, _, rfl, hI.out⟩
  · intro g a w h0 h1 hI K' hK
    obtain ⟨x0, x1, x15, x16, x17, x18, x20, x21, x22, x23, x28, rfl, h⟩ := hI
    have hgd : g 25 = true := h1 _ (List.Mem.head _) rfl
    have hg2 : g 20 = true := by
      cases e : g 20 with
      | true => rfl
      | false => exact absurd ((h.o20 e).2.2.2.2.1.symm.trans hgd) (by decide)
    obtain ⟨r, rfl, hr, ht⟩ := h.m1 hg2
    obtain rfl := h.v25 hgd
    have hI := fun w' => h.call26 (w' := w') h0 hg2 hgd
    have hWd := Lib.hid (wide_any r w)
    replace hI := Lib.hid hI
    clear h1 h ht hg2 hgd
    go_simp
    refine hWd.out.mono ?_
    rintro e w' ⟨rfl, hc, hz, hb⟩
    refine hK.out _ _ ?_
    refine ⟨_, _, _, _, _, _, _, _, _, _, _, rfl, hI.out w' hb hc⟩
  · intro g a w h0 h1 hI K' hK
    obtain ⟨x0, x1, x15, x16, x17, x18, x20, x21, x22, x23, x28, rfl, h⟩ := hI
    have hgd : g 26 = true := h1 _ (List.Mem.head _) rfl
    obtain ⟨B, rfl, -, -⟩ := h.c26 hgd
    have hI := h.build27 h0 hgd
    replace hI := Lib.hid hI
    clear h1 h
    unfold closV
    go_simp
    refine hK.out _ _ ?_
    exact ⟨_, _, _, _, _, _, _, _, _, _, _, rfl, hI.out⟩
  · intro g a w h0 h1 hI K' hK
    obtain ⟨x0, x1, x15, x16, x17, x18, x20, x21, x22, x23, x28, rfl, h⟩ := hI
    have hg0 : g 0 = true := h1 _ (List.Mem.head _) rfl
    have hg27 : g 27 = true := h1 _ (List.Mem.tail _ (List.Mem.tail _ (List.Mem.head _))) rfl
    obtain ⟨r, rfl, hr, ht⟩ := h.m0 hg0
    obtain ⟨w', hrun, ht', hw⟩ := Tab.insert 102 105 76 Tryz.underlying102 klaw_pair ht (TA_apart _ _) (n := 28) (k := pr2 1 4) (v := x18) ⟨1, 4, rfl⟩ (by simp [TA]) h0
    have hbw := h.below.grown hw h.below.size (fun k e => by cases e; exact hr)
    have hI := h.ins28 h0 hg0 hg27 rfl hr h.below ht hw hbw ht'
    replace hI := Lib.hid hI
    clear h1 h ht ht' hbw hw hr
    go_simp
    refine hK.out _ _ ?_
    exact ⟨_, _, _, _, _, _, _, _, _, _, _, rfl, hI.out⟩
  · exact StepI.void (WIA.cst (by decide))
  · intro g a w h0 h1 hI K' hK
    obtain ⟨x0, x1, x15, x16, x17, x18, x20, x21, x22, x23, x28, rfl, h⟩ := hI
    have ho := h.o30 h0
    have ht : Tab OKi (w.alloc (.map #[] 0)) w.heap.size TC (upd g 30) := Tab.new (by simp [TC, upd, ho])
    have hI := h.make30 h0 (gr_alloc (Below.refl _ w) _) h.below.size ht
    replace hI := Lib.hid hI
    clear h1 h ht ho
    go_simp
    refine hK.out _ _ ?_
    exact ⟨_, _, _, _, _, _, _, _, _, _, _, rfl, hI.out⟩
  · intro g a w h0 h1 hI K' hK
    obtain ⟨x0, x1, x15, x16, x17, x18, x20, x21, x22, x23, x28, rfl, h⟩ := hI
    have hgd : g 30 = true := h1 _ (List.Mem.head _) rfl
    obtain ⟨r, rfl, hr, ht⟩ := h.m2 hgd
    obtain ⟨w', hrun, ht', hw⟩ := Tab.insert 135 3 3 Tryz.underlying135 (klaw_int Tryz.underlying3) ht TC_apart (n := 31) (k := .int .i64 1) (v := .int .i64 3) ⟨1, rfl⟩ (by simp [TC]) h0
    have hbw := h.below.grown hw h.below.size (fun k e => by cases e; exact hr)
    have hI := h.ins31 h0 hgd rfl hr h.below ht hw hbw ht'
    replace hI := Lib.hid hI
    clear h1 h ht ht' hbw hw hr
    go_simp
    refine hK.out _ _ ?_
    exact ⟨_, _, _, _, _, _, _, _, _, _, _, rfl, hI.out⟩
  · intro g a w h0 h1 hI K' hK
    obtain ⟨x0, x1, x15, x16, x17, x18, x20, x21, x22, x23, x28, rfl, h⟩ := hI
    have hgd : g 30 = true := h1 _ (List.Mem.head _) rfl
    obtain ⟨r, rfl, hr, ht⟩ := h.m2 hgd
    obtain ⟨w', hrun, ht', hw⟩ := Tab.insert 135 3 3 Tryz.underlying135 (klaw_int Tryz.underlying3) ht TC_apart (n := 32) (k := .int .i64 2) (v := .int .i64 5) ⟨2, rfl⟩ (by simp [TC]) h0
    have hbw := h.below.grown hw h.below.size (fun k e => by cases e; exact hr)
    have hI := h.ins32 h0 hgd rfl hr h.below ht hw hbw ht'
    replace hI := Lib.hid hI
    clear h1 h ht ht' hbw hw hr
    go_simp
    refine hK.out _ _ ?_
    exact ⟨_, _, _, _, _, _, _, _, _, _, _, rfl, hI.out⟩
  · intro g a w h0 h1 hI K' hK
    obtain ⟨x0, x1, x15, x16, x17, x18, x20, x21, x22, x23, x28, rfl, h⟩ := hI
    have hgd : g 30 = true := h1 _ (List.Mem.head _) rfl
    obtain ⟨r, rfl, hr, ht⟩ := h.m2 hgd
    obtain ⟨w', hrun, ht', hw⟩ := Tab.insert 135 3 3 Tryz.underlying135 (klaw_int Tryz.underlying3) ht TC_apart (n := 33) (k := .int .i64 4) (v := .int .i64 10) ⟨4, rfl⟩ (by simp [TC]) h0
    have hbw := h.below.grown hw h.below.size (fun k e => by cases e; exact hr)
    have hI := h.ins33 h0 hgd rfl hr h.below ht hw hbw ht'
    replace hI := Lib.hid hI
    clear h1 h ht ht' hbw hw hr
    go_simp
    refine hK.out _ _ ?_
    exact ⟨_, _, _, _, _, _, _, _, _, _, _, rfl, hI.out⟩
  · intro g a w h0 h1 hI K' hK
    obtain ⟨x0, x1, x15, x16, x17, x18, x20, x21, x22, x23, x28, rfl, h⟩ := hI
    have hgd : g 30 = true := h1 _ (List.Mem.head _) rfl
    obtain ⟨r, rfl, hr, ht⟩ := h.m2 hgd
    obtain ⟨w', hrun, ht', hw⟩ := Tab.insert 135 3 3 Tryz.underlying135 (klaw_int Tryz.underlying3) ht TC_apart (n := 34) (k := .int .i64 8) (v := .int .i64 20) ⟨8, rfl⟩ (by simp [TC]) h0
    have hbw := h.below.grown hw h.below.size (fun k e => by cases e; exact hr)
    have hI := h.ins34 h0 hgd rfl hr h.below ht hw hbw ht'
    replace hI := Lib.hid hI
    clear h1 h ht ht' hbw hw hr
    go_simp
    refine hK.out _ _ ?_
    exact ⟨_, _, _, _, _, _, _, _, _, _, _, rfl, hI.out⟩
  · intro g a w h0 h1 hI K' hK
    obtain ⟨x0, x1, x15, x16, x17, x18, x20, x21, x22, x23, x28, rfl, h⟩ := hI
    have hgd : g 30 = true := h1 _ (List.Mem.head _) rfl
    have hI := h.move35 h0 hgd
    replace hI := Lib.hid hI
    clear h1 h
    go_simp
    refine hK.out _ _ ?_
    exact ⟨_, _, _, _, _, _, _, _, _, _, _, rfl, hI.out⟩
  · intro g a w h0 h1 hI K' hK
    obtain ⟨x0, x1, x15, x16, x17, x18, x20, x21, x22, x23, x28, rfl, h⟩ := hI
    have hgd : g 35 = true := h1 _ (List.Mem.head _) rfl
    have hg2 : g 30 = true := by
      cases e : g 30 with
      | true => rfl
      | false => exact absurd ((h.o30 e).2.2.2.2.1.symm.trans hgd) (by decide)
    obtain ⟨r, rfl, hr, ht⟩ := h.m2 hg2
    obtain rfl := h.v35 hgd
    have hI := fun w' => h.call36 (w' := w') h0 hg2 hgd
    have hWd := Lib.hid (wide_any r w)
    replace hI := Lib.hid hI
    clear h1 h ht hg2 hgd
    go_simp
    refine hWd.out.mono ?_
    rintro e w' ⟨rfl, hc, hz, hb⟩
    refine hK.out _ _ ?_
    refine ⟨_, _, _, _, _, _, _, _, _, _, _, rfl, hI.out w' hb hc⟩
  · intro g a w h0 h1 hI K' hK
    obtain ⟨x0, x1, x15, x16, x17, x18, x20, x21, x22, x23, x28, rfl, h⟩ := hI
    have hgd : g 36 = true := h1 _ (List.Mem.head _) rfl
    obtain ⟨B, rfl, -, -⟩ := h.c36 hgd
    have hI := h.build37 h0 hgd
    replace hI := Lib.hid hI
    clear h1 h
    unfold closV
    go_simp
    refine hK.out _ _ ?_
    exact ⟨_, _, _, _, _, _, _, _, _, _, _, rfl, hI.out⟩
  · intro g a w h0 h1 hI K' hK
    obtain ⟨x0, x1, x15, x16, x17, x18, x20, x21, x22, x23, x28, rfl, h⟩ := hI
    have hg0 : g 0 = true := h1 _ (List.Mem.head _) rfl
    have hg37 : g 37 = true := h1 _ (List.Mem.tail _ (List.Mem.tail _ (List.Mem.head _))) rfl
    obtain ⟨r, rfl, hr, ht⟩ := h.m0 hg0
    obtain ⟨w', hrun, ht', hw⟩ := Tab.insert 102 105 76 Tryz.underlying102 klaw_pair ht (TA_apart _ _) (n := 38) (k := pr2 2 4) (v := x23) ⟨2, 4, rfl⟩ (by simp [TA]) h0
    have hbw := h.below.grown hw h.below.size (fun k e => by cases e; exact hr)
    have hI := h.ins38 h0 hg0 hg37 rfl hr h.below ht hw hbw ht'
    replace hI := Lib.hid hI
    clear h1 h ht ht' hbw hw hr
    go_simp
    refine hK.out _ _ ?_
    exact ⟨_, _, _, _, _, _, _, _, _, _, _, rfl, hI.out⟩
  · exact StepI.void (WIA.cst (by decide))
  · exact StepI.void (WIA.cst (by decide))
  · intro g a w h0 h1 hI K' hK
    obtain ⟨x0, x1, x15, x16, x17, x18, x20, x21, x22, x23, x28, rfl, h⟩ := hI
    have hg0 : g 0 = true := h1 _ (List.Mem.head _) rfl
    obtain ⟨r, rfl, hr, ht⟩ := h.m0 hg0
    obtain ⟨w', hrun, ht', hw⟩ := Tab.insert 102 105 76 Tryz.underlying102 klaw_pair ht (TA_apart _ _) (n := 41) (k := pr2 4 1) (v := (wv 81 (fnV 69))) ⟨4, 1, rfl⟩ (by simp [TA]) h0
    have hbw := h.below.grown hw h.below.size (fun k e => by cases e; exact hr)
    have hI := h.ins41 h0 hg0 rfl hr h.below ht hw hbw ht'
    replace hI := Lib.hid hI
    clear h1 h ht ht' hbw hw hr
    go_simp
    refine hK.out _ _ ?_
    exact ⟨_, _, _, _, _, _, _, _, _, _, _, rfl, hI.out⟩
  · exact StepI.void (WIA.cst (by decide))
  · exact StepI.void (WIA.cst (by decide))
  · intro g a w h0 h1 hI K' hK
    obtain ⟨x0, x1, x15, x16, x17, x18, x20, x21, x22, x23, x28, rfl, h⟩ := hI
    have hg0 : g 0 = true := h1 _ (List.Mem.head _) rfl
    obtain ⟨r, rfl, hr, ht⟩ := h.m0 hg0
    obtain ⟨w', hrun, ht', hw⟩ := Tab.insert 102 105 76 Tryz.underlying102 klaw_pair ht (TA_apart _ _) (n := 44) (k := pr2 4 2) (v := (wv 82 (fnV 69))) ⟨4, 2, rfl⟩ (by simp [TA]) h0
    have hbw := h.below.grown hw h.below.size (fun k e => by cases e; exact hr)
    have hI := h.ins44 h0 hg0 rfl hr h.below ht hw hbw ht'
    replace hI := Lib.hid hI
    clear h1 h ht ht' hbw hw hr
    go_simp
    refine hK.out _ _ ?_
    exact ⟨_, _, _, _, _, _, _, _, _, _, _, rfl, hI.out⟩
  · intro g a w h0 h1 hI K' hK
    obtain ⟨x0, x1, x15, x16, x17, x18, x20, x21, x22, x23, x28, rfl, h⟩ := hI
    have hgd : g 0 = true := h1 _ (List.Mem.head _) rfl
    have hI := h.move45 h0 hgd
    replace hI := Lib.hid hI
    clear h1 h
    go_simp
    refine hK.out _ _ ?_
    exact ⟨_, _, _, _, _, _, _, _, _, _, _, rfl, hI.out⟩
  · intro g a w h0 h1 hI K' hK
    obtain ⟨x0, x1, x15, x16, x17, x18, x20, x21, x22, x23, x28, rfl, h⟩ := hI
    have hgd : g 45 = true := h1 _ (List.Mem.head _) rfl
    have hI := h.move46 h0 hgd
    replace hI := Lib.hid hI
    clear h1 h
    go_simp
    refine hK.out _ _ ?_
    exact ⟨_, _, _, _, _, _, _, _, _, _, _, rfl, hI.out⟩
end Go.Proofs.YtagoooclfcbdeaaGreatDoor
