/- Locks as states without places: the program's in a block of its own, the reference's as a value; what turns one leaves the others. -/
import Derived.Test.YtnjhhibjcfjhnaaDoorLwZ
import Derived.Test.YtnjhhibjcfjhnaaDoorRkJ
import Derived.Test.YtnjhhibjcfjhnaaDoorLkNz
namespace Go.Proofs.YtnjhhibjcfjhnaaDoor
open Go.RowKit
set_option linter.unusedVariables false

/-- The program's locks: their block, their row's. -/
def LB (w : World) (base B : Nat) (r : Option Nat) (now : Int) (zs : List Ak) : Prop := ∃ A n c xs, LK w base B now A n c xs ∧ ab A = r ∧ xs.map Ak.bare = zs
/-- The reference's. -/
def RB (w : World) (base : Nat) (v : Value) (now : Int) (zs : List Ak) : Prop := ∃ A n c xs, v = .agg #[.int .i64 now, .slice A n c] ∧ RK w base A n c xs ∧ xs.map Ak.bare = zs
section
variable {w w' : World} {base base' B B' : Nat} {r r' : Option Nat} {now now' : Int} {zs zs' : List Ak} {v : Value}
theorem LB.lt (h : LB w base B r now zs) : base ≤ B ∧ B < w.heap.size := by
  obtain ⟨A, n, c, xs, h, -, -⟩ := h
  exact ⟨h.ge, h.lt⟩
theorem LB.row (h : LB w base B r now zs) : ∀ g, r = some g → base ≤ g ∧ g < w.heap.size := fun g hg => by
  obtain ⟨A, n, c, xs, h, rfl, -⟩ := h
  exact h.own.ab g hg
theorem LB.below (h : LB w base B r now zs) (hb : Below w.heap.size w w') : LB w' base B r now zs := by
  obtain ⟨A, n, c, xs, h, h1, h2⟩ := h
  exact ⟨A, n, c, xs, h.below hb, h1, h2⟩
theorem RB.below (h : RB w base v now zs) (hb : Below w.heap.size w w') : RB w' base v now zs := by
  obtain ⟨A, n, c, xs, h1, h, h2⟩ := h
  exact ⟨A, n, c, xs, h1, h.below hb, h2⟩
theorem LB.ge (h : LB w base B r now zs) (hb : base' ≤ base) : LB w base' B r now zs := by
  obtain ⟨A, n, c, xs, h, h1, h2⟩ := h
  exact ⟨A, n, c, xs, h.lessBase hb, h1, h2⟩
theorem Ov.kb {e : TypeId} {size n c : Nat} {A : Option Addr} {xs : List Value} (h : Ov w base e size A n c xs) (hk : Kb w w' B' r') (hn : ∀ g, Go.Proofs.YtnjhhibjcfjhnaaDoor.ab A = some g → g ≠ B' ∧ some g ≠ r') : Ov w' base e size A n c xs :=
  h.ofBlock fun g hg => hk.block g (h.ab g hg).2 (hn g hg).1 (hn g hg).2
/-- A row of another type is no part of locks. -/
theorem LK.apart {A : Option Addr} {n c : Nat} {xs : List Ak} (h' : LK w base' B' now' A n c xs) {e : TypeId} {size n' c' : Nat} {D : Option Addr} {us : List Value} (h : Ov w base e size D n' c' us) (h1 : e ≠ 69) (h2 : e ≠ 74) : ∀ g, ab D = some g → g ≠ B' ∧ some g ≠ ab A := fun g hg =>
  ⟨fun e' => h.ne h'.box h1 (e' ▸ hg), fun e' => by
    obtain ⟨cs, hc⟩ := h'.own.block g e'.symm
    exact h.ne hc h2 hg⟩
theorem RB.kb (h : RB w base v now zs) (h' : LB w base' B' r' now' zs') (hk : Kb w w' B' r') : RB w' base v now zs := by
  obtain ⟨A, n, c, xs, h1, h, h2⟩ := h
  obtain ⟨A', n', c', xs', h', rfl, -⟩ := h'
  exact ⟨A, n, c, xs, h1, ⟨h.own.kb hk (h'.apart h.own (by decide) (by decide)), fun x hx => (h.tabs x hx).kb hk (h'.apart (h.tabs x hx) (by decide) (by decide))⟩, h2⟩
theorem LB.kb (h : LB w base B r now zs) (h' : LB w base' B' r' now' zs') (hB : B ≠ B') (hr : ∀ g, r = some g → r' ≠ some g) (hk : Kb w w' B' r') : LB w' base B r now zs := by
  obtain ⟨A, n, c, xs, h, rfl, h2⟩ := h
  obtain ⟨A', n', c', xs', h', rfl, -⟩ := h'
  refine ⟨A, n, c, xs, ⟨h.ge, ?_, h.own.kb hk fun g hg => ⟨fun e => ?_, fun e => hr g hg e.symm⟩, fun x hx => (h.tabs x hx).kb hk (h'.apart (h.tabs x hx) (by decide) (by decide))⟩, rfl, h2⟩
  · refine (hk.block B h.lt hB fun e => ?_).trans h.box
    obtain ⟨cs, hc⟩ := h'.own.block B e.symm
    rw [h.box] at hc
    injection hc with hc
    injection hc with _ hc
    exact absurd hc (by decide)
  · subst e
    exact h.own.ne h'.box (by decide) hg
theorem Kb.toBase (hk : Kb w w' B r) (h : LB w base B r now zs) : Below base w w' := hk.below (Nat.le_of_lt (Nat.lt_of_le_of_lt h.lt.1 h.lt.2)) h.lt.1 (fun x hx => (h.row x hx).1)
end
theorem Ak.n_of {w : World} {base : Nat} {x : Ak} (h : Ov w base 64 2 x.A x.n x.c (wcells x.W)) : x.n = x.W.length := by
  have := h.1
  rw [wcells_length] at this
  omega
/-- Old or new: where a row went. -/
def Nw (w : World) (r r' : Option Nat) : Prop := ∀ g, r' = some g → w.heap.size ≤ g ∨ r = some g
section
variable {w : World} {base B : Nat} {r : Option Nat} {now : Int} {zs : List Ak} {v : Value}
theorem Ask_B (h : LB w base B r now zs) (hE : Env w) (hz : IZ zs) (s wait : Int) (first : Bool) (D : Option Addr) (m d : Nat) (ws : List Wt) (hr : Rv w 2 D m d (wcells ws)) (hm : m ≤ 100000) :
    Calls Tryd.prog 11 #[.pointer (some ⟨B, 0, none⟩), .int .i64 s, .bool first, .int .i64 wait, .slice D m d] w fun e w' =>
      e = .returned (.tuple #[.bool (askF now s wait first ws zs).2.1, .int .i64 (askF now s wait first ws zs).2.2]) ∧ ∃ r', LB w' base B r' now (askF now s wait first ws zs).1 ∧ Nw w r r' ∧ Kb w w' B r := by
  obtain ⟨A, n, c, xs, h, rfl, rfl⟩ := h
  have hl := hz.len
  rw [List.length_map, h.len] at hl
  refine (Ask_any h hE s wait first D m d ws hr (by omega) hm).mono ?_
  rintro e w' (⟨hk, rfl, hb⟩ | ⟨hk, A', c', D', d', rfl, hL, hA, hb⟩)
  · rw [askF_no hk]
    exact ⟨rfl, ab A, ⟨A, n, c, xs, h.below hb, rfl, rfl⟩, fun g hg => .inr hg, Kb.ofBelow hb⟩
  · rw [askF_ok D' m d' hk]
    exact ⟨rfl, ab A', ⟨A', n + 1, c', _, hL, rfl, rfl⟩, fun g hg => .inl (hA g hg), hb⟩
theorem Rel_B (h : LB w base B r now zs) (hE : Env w) (hz : IZ zs) (s : Int) :
    Calls Tryd.prog 13 #[.pointer (some ⟨B, 0, none⟩), .int .i64 s] w fun e w' => ∃ R m d, e = .returned (.tuple #[.slice R m d, .int .i64 (relF s zs).2.2]) ∧
      Ov w' base 3 1 R m d (icells (relF s zs).2.1) ∧ ∃ r', LB w' base B r' now (relF s zs).1 ∧ Nw w r r' ∧ Kb w w' B r := by
  obtain ⟨A, n, c, xs, h, rfl, rfl⟩ := h
  have hl := hz.len
  rw [List.length_map, h.len] at hl
  refine (Release_any h hE s (by omega)).mono ?_
  rintro e w' (⟨hk, rfl, hb⟩ | ⟨hk, A', c', R, d, rfl, hL, hR, hA, hb⟩)
  · rw [relF_no hk]
    exact ⟨none, 0, 0, rfl, Ov.nil _ _ _ _, ab A, ⟨A, n, c, xs, h.below hb, rfl, rfl⟩, fun g hg => .inr hg, Kb.ofBelow hb⟩
  · rw [relF_ok hk]
    exact ⟨R, _, d, rfl, hR.ge (Nat.le_of_lt (Nat.lt_of_le_of_lt h.ge h.lt)), ab A', ⟨A', n - 1, c', _, hL, rfl, rfl⟩, fun g hg => .inl (hA g hg), Kb.ofGrown hb⟩
theorem Tick_B (h : LB w base B r now zs) (hz : IZ zs) (h0 : 0 ≤ now) (h1 : now < 1000000) :
    Calls Tryd.prog 14 #[.pointer (some ⟨B, 0, none⟩)] w fun e w' => ∃ R m d R2 m2 d2, e = .returned (.tuple #[.slice R m d, .slice R2 m2 d2]) ∧
      Rv w' 1 R m d (icells (tickF now zs).2.1) ∧ Rv w' 1 R2 m2 d2 (icells (tickF now zs).2.2) ∧ ∃ r', LB w' base B r' (now + 1) (tickF now zs).1 ∧ Nw w r r' ∧ Kb w w' B r := by
  obtain ⟨A, n, c, xs, h, rfl, rfl⟩ := h
  have hl := hz.len
  rw [List.length_map, h.len] at hl
  refine (Tick_any h (by omega) hz.ofBare.wf h0 h1).mono ?_
  rintro e w' ⟨A', c', R, d, R2, d2, rfl, hL, hR, hR2, hA, hb⟩
  rw [tickF_eq]
  exact ⟨R, _, d, R2, _, d2, rfl, hR, hR2, ab A', ⟨A', _, c', _, hL, rfl, rfl⟩, fun g hg => .inl (hA g hg), Kb.ofGrown hb⟩
theorem Held_B (h : LB w base B r now zs) (hz : IZ zs) (s : Int) :
    Calls Tryd.prog 22 #[.pointer (some ⟨B, 0, none⟩), .int .i64 s] w fun e w' => e = .returned (.bool (heldK s zs)) ∧ Below w.heap.size w w' := by
  obtain ⟨A, n, c, xs, h, rfl, rfl⟩ := h
  have hl := hz.len
  rw [List.length_map, h.len] at hl
  rw [← (like_bare xs).held]
  exact Held_any h s (by omega)
theorem Waits_B (h : LB w base B r now zs) (hz : IZ zs) (s : Int) :
    Calls Tryd.prog 18 #[.pointer (some ⟨B, 0, none⟩), .int .i64 s] w fun e w' => e = .returned (.tuple #[.int .i64 (waitsK s zs).1, .bool (waitsK s zs).2]) ∧ Below w.heap.size w w' := by
  obtain ⟨A, n, c, xs, h, rfl, rfl⟩ := h
  have hl := hz.len
  rw [List.length_map, h.len] at hl
  rw [← (like_bare xs).waits]
  exact Waits_any h s (by omega)
theorem Wants_B (h : LB w base B r now zs) (hz : IZ zs) (s : Int) :
    Calls Tryd.prog 20 #[.pointer (some ⟨B, 0, none⟩), .int .i64 s] w fun e w' => ∃ A' m c', e = .returned (.slice A' m c') ∧ Rv w' 2 A' m c' (wcells (wantsK s zs)) ∧ Below w.heap.size w w' := by
  obtain ⟨A, n, c, xs, h, rfl, rfl⟩ := h
  have hl := hz.len
  rw [List.length_map, h.len] at hl
  rw [← (like_bare xs).wants s]
  exact Wants_any h s (by omega) (fun x hx => by rw [Ak.n_of (h.tabs x hx)]; have := hz.ofBare.w8 x hx; omega)
theorem Now_B (h : LB w base B r now zs) : Calls Tryd.prog 21 #[.pointer (some ⟨B, 0, none⟩)] w fun e w' => e = .returned (.int .i64 now) ∧ w = w' := by
  obtain ⟨A, n, c, xs, h, rfl, rfl⟩ := h
  exact Now_any h
theorem Copy_B (h : LB w base B r now zs) (hz : IZ zs) :
    Calls Tryd.prog 10 #[.pointer (some ⟨B, 0, none⟩)] w fun e w' => ∃ B' r', e = .returned (.pointer (some ⟨B', 0, none⟩)) ∧ LB w' base B' r' now zs ∧ w.heap.size ≤ B' ∧ (∀ g, r' = some g → w.heap.size ≤ g) ∧ Below w.heap.size w w' := by
  obtain ⟨A, n, c, xs, h, rfl, rfl⟩ := h
  have hl := hz.len
  rw [List.length_map, h.len] at hl
  refine (Copy_any h (by omega)).mono ?_
  rintro e w' ⟨B', A', c', rfl, hL, hB, hA, hb⟩
  exact ⟨B', ab A', rfl, ⟨A', n, c', xs, hL, rfl, rfl⟩, hB, hA, hb⟩
theorem Same_B (h : LB w base B r now zs) {base2 B2 : Nat} {r2 : Option Nat} {now2 : Int} {ys : List Ak} (h2 : LB w base2 B2 r2 now2 ys) :
    Calls Tryd.prog 23 #[.pointer (some ⟨B, 0, none⟩), .pointer (some ⟨B2, 0, none⟩)] w fun e w' => e = .returned (.bool (decide (now = now2 ∧ zs = ys))) ∧ Below w.heap.size w w' := by
  obtain ⟨A, n, c, xs, h, rfl, rfl⟩ := h
  obtain ⟨A2, n2, c2, xs2, h2, rfl, rfl⟩ := h2
  exact Same_any h h2
theorem New_B (w : World) : Calls Tryd.prog 9 #[] w fun e w' => e = .returned (.pointer (some ⟨w.heap.size, 0, none⟩)) ∧ LB w' w.heap.size w.heap.size none 0 [] ∧ Below w.heap.size w w' :=
  (New_any w).mono fun e w' q => ⟨q.1, ⟨none, 0, 0, [], q.2.1, rfl, rfl⟩, q.2.2⟩

theorem RAsk_B (h : RB w base v now zs) (hbs : base ≤ w.heap.size) (hz : IZ zs) (s wait : Int) (first : Bool) (D : Option Addr) (m d : Nat) (ws : List Wt) (hr : Rv w 2 D m d (wcells ws)) :
    Calls Tryd.prog 40 #[v, .int .i64 s, .bool first, .int .i64 wait, .slice D m d] w fun e w' => ∃ v',
      e = .returned (.tuple #[v', .bool (askF now s wait first ws zs).2.1, .int .i64 (askF now s wait first ws zs).2.2]) ∧ RB w' base v' now (askF now s wait first ws zs).1 ∧ Below w.heap.size w w' := by
  obtain ⟨A, n, c, xs, rfl, h, rfl⟩ := h
  have hl := hz.len
  rw [List.length_map, h.len] at hl
  refine (RAsk_any h hbs s wait first D m d ws hr (by omega)).mono ?_
  rintro e w' (⟨hk, rfl, hb⟩ | ⟨hk, A', c', D', d', rfl, hL, hb⟩)
  · rw [askF_no hk]
    exact ⟨_, rfl, ⟨A, n, c, xs, rfl, h.below hb, rfl⟩, hb⟩
  · rw [askF_ok D' m d' hk]
    exact ⟨_, rfl, ⟨A', n + 1, c', _, rfl, hL, rfl⟩, hb⟩
theorem RRel_B (h : RB w base v now zs) (hbs : base ≤ w.heap.size) (hz : IZ zs) (s : Int) :
    Calls Tryd.prog 41 #[v, .int .i64 s] w fun e w' => ∃ v' R m d, e = .returned (.tuple #[v', .slice R m d, .int .i64 (relF s zs).2.2]) ∧
      Ov w' base 3 1 R m d (icells (relF s zs).2.1) ∧ RB w' base v' now (relF s zs).1 ∧ Below w.heap.size w w' := by
  obtain ⟨A, n, c, xs, rfl, h, rfl⟩ := h
  have hl := hz.len
  rw [List.length_map, h.len] at hl
  refine (RRel_any h hbs s (by omega)).mono ?_
  rintro e w' (⟨hk, rfl, hb⟩ | ⟨hk, A', c', R, d, rfl, hL, hR, hb⟩)
  · rw [relF_no hk]
    exact ⟨_, none, 0, 0, rfl, Ov.nil _ _ _ _, ⟨A, n, c, xs, rfl, h.below hb, rfl⟩, hb⟩
  · rw [relF_ok hk]
    exact ⟨_, R, _, d, rfl, hR, ⟨A', n - 1, c', _, rfl, hL, rfl⟩, hb⟩
theorem RTick_B (h : RB w base v now zs) (hbs : base ≤ w.heap.size) (hz : IZ zs) (h0 : 0 ≤ now) (h1 : now < 1000000) :
    Calls Tryd.prog 42 #[v] w fun e w' => ∃ v' R m d R2 m2 d2, e = .returned (.tuple #[v', .slice R m d, .slice R2 m2 d2]) ∧
      Ov w' base 3 1 R m d (icells (tickF now zs).2.1) ∧ Ov w' base 3 1 R2 m2 d2 (icells (tickF now zs).2.2) ∧ RB w' base v' (now + 1) (tickF now zs).1 ∧ Below w.heap.size w w' := by
  obtain ⟨A, n, c, xs, rfl, h, rfl⟩ := h
  have hl := hz.len
  rw [List.length_map, h.len] at hl
  refine (RTick_any h hbs (by omega) hz.ofBare.wf h0 h1).mono ?_
  rintro e w' ⟨A', c', R, d, R2, d2, rfl, hL, hR, hR2, hb⟩
  rw [tickF_eq]
  exact ⟨_, R, _, d, R2, _, d2, rfl, hR, hR2, ⟨A', _, c', _, rfl, hL, rfl⟩, hb⟩
theorem RSm_B (h : RB w base v now zs) {base2 : Nat} {v2 : Value} {now2 : Int} {ys : List Ak} (h2 : RB w base2 v2 now2 ys) :
    Calls Tryd.prog 24 #[v, v2] w fun e w' => e = .returned (.bool (decide (now = now2 ∧ zs = ys))) ∧ Below w.heap.size w w' := by
  obtain ⟨A, n, c, xs, rfl, h, rfl⟩ := h
  obtain ⟨A2, n2, c2, xs2, rfl, h2, rfl⟩ := h2
  exact RSm_any A n c xs A2 n2 c2 xs2 now now2 w h.own.rv h2.own.rv (fun x hx => (h.tabs x hx).rv) (fun x hx => (h2.tabs x hx).rv)
end
theorem RB.nil (w : World) (base : Nat) : RB w base (.agg #[.int .i64 0, .slice none 0 0]) 0 [] := ⟨none, 0, 0, [], rfl, RK.nil w base, rfl⟩
end Go.Proofs.YtnjhhibjcfjhnaaDoor
