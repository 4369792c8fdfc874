/- Boxes (variables that live in a cell of their own), and two rows that grow beside each other. -/
import Derived.RangeFuncBox
import Derived.Test.YtnjhhibjcfjhnaaDoorBase
namespace Go.Proofs.YtnjhhibjcfjhnaaDoor
open Go.RowKit
set_option linter.unusedVariables false

theorem box_below {w w' : World} {B H : Nat} {t : TypeId} {v : Value} (h : Boxed w B t v) (hb : Below H w w') (hB : B < H) : Boxed w' B t v := (hb.block B hB).trans h
theorem box_in {w w' : World} {B : Nat} {t : TypeId} {v : Value} (h : Boxed w B t v) (hb : Below w.heap.size w w') : Boxed w' B t v := box_below h hb h.lt
theorem box_other {w : World} {B B' : Nat} {t : TypeId} {v v' : Value} (h : Boxed w B t v) (hne : B ≠ B') : Boxed (w.setCell ⟨B', 0, none⟩ v') B t v := by
  refine h.kept (row := some B') (grownBy_setCell' w B' v') ?_
  simp; exact hne
theorem box_drew {w : World} {B : Nat} {t : TypeId} {v : Value} (h : Boxed w B t v) : Boxed w.drew B t v := h

theorem Rv.of_cell {w : World} {H : Nat} {v : Value} (h : w.cell? ⟨H, 0, none⟩ = some v) : Rv w 1 (some ⟨H, 0, none⟩) 1 1 [v] :=
  ⟨rfl, Nat.le_refl _, by decide, fun _ => ⟨H, 0, rfl, World.block_lt_of_cell? w _ h, fun j u hu => by
    match j with
    | 0 => simp at hu; subst hu; exact h
    | j + 1 => simp at hu⟩⟩

/-- Two boxes, side by side, and the two rows that they tell of. -/
structure Two (w0 : World) (b : Nat) (eA eB tA tB : TypeId) (vA vB : Value) (A : Option Addr) (n c : Nat) (xs : List Value) (B : Option Addr) (m d : Nat) (ys : List Value) (w : World) : Prop where
  below : Below b w0 w
  size : b + 2 ≤ w.heap.size
  boxA : Boxed w b tA vA
  boxB : Boxed w (b + 1) tB vB
  rowA : Ov w (b + 2) eA 1 A n c xs
  rowB : Ov w (b + 2) eB 1 B m d ys
  apart : ∀ g, ab A = some g → ab B ≠ some g

section
variable {w0 w w' : World} {b : Nat} {eA eB tA tB : TypeId} {vA vB : Value} {A : Option Addr} {n c : Nat} {xs : List Value} {B : Option Addr} {m d : Nat} {ys : List Value}
theorem Two.drew (h : Two w0 b eA eB tA tB vA vB A n c xs B m d ys w) : Two w0 b eA eB tA tB vA vB A n c xs B m d ys w.drew := ⟨h.below.drew, h.size, h.boxA, h.boxB, h.rowA.below (Below.refl _ _).drew, h.rowB.below (Below.refl _ _).drew, h.apart⟩
theorem Two.more (h : Two w0 b eA eB tA tB vA vB A n c xs B m d ys w) (hb : Below w.heap.size w w') : Two w0 b eA eB tA tB vA vB A n c xs B m d ys w' :=
  ⟨h.below.trans (hb.mono (by have := h.size; omega)), Nat.le_trans h.size hb.size, box_in h.boxA hb, box_in h.boxB hb, h.rowA.below hb, h.rowB.below hb, h.apart⟩
theorem Two.alloc (h : Two w0 b eA eB tA tB vA vB A n c xs B m d ys w) (o : Obj) : Two w0 b eA eB tA tB vA vB A n c xs B m d ys (w.alloc o) := h.more ((Below.refl _ _).alloc (Nat.le_refl _) _)
theorem Two.setA (h : Two w0 b eA eB tA tB vA vB A n c xs B m d ys w) (v : Value) : Two w0 b eA eB tA tB v vB A n c xs B m d ys (w.setCell ⟨b, 0, none⟩ v) := by
  have hg : w.grownBy (w.setCell ⟨b, 0, none⟩ v) (some b) := grownBy_setCell' w b v
  exact ⟨h.below.setCell (p := ⟨b, 0, none⟩) (Nat.le_refl _) _, Nat.le_trans h.size hg.size, h.boxA.set v, box_other h.boxB (by omega), h.rowA.grown hg (fun q hq e => by injection e with e; have := (h.rowA.ab q hq).1; omega), h.rowB.grown hg (fun q hq e => by injection e with e; have := (h.rowB.ab q hq).1; omega), h.apart⟩
theorem Two.setB (h : Two w0 b eA eB tA tB vA vB A n c xs B m d ys w) (v : Value) : Two w0 b eA eB tA tB vA v A n c xs B m d ys (w.setCell ⟨b + 1, 0, none⟩ v) := by
  have hg : w.grownBy (w.setCell ⟨b + 1, 0, none⟩ v) (some (b + 1)) := grownBy_setCell' w (b + 1) v
  exact ⟨h.below.setCell (p := ⟨b + 1, 0, none⟩) (Nat.le_succ _) _, Nat.le_trans h.size hg.size, box_other h.boxA (by omega), h.boxB.set v, h.rowA.grown hg (fun q hq e => by injection e with e; have := (h.rowA.ab q hq).1; omega), h.rowB.grown hg (fun q hq e => by injection e with e; have := (h.rowB.ab q hq).1; omega), h.apart⟩
theorem Two.appA (h : Two w0 b eA eB tA tB vA vB A n c xs B m d ys w) {A' : Option Addr} {n' c' : Nat} {xs' : List Value} (ho : Ov w' (b + 2) eA 1 A' n' c' xs') (hg : w.grownBy w' (ab A)) (ha : ab A' = ab A ∨ ab A' = some w.heap.size) :
    Two w0 b eA eB tA tB vA vB A' n' c' xs' B m d ys w' := by
  have hA : ∀ q, ab A = some q → b + 2 ≤ q := fun q hq => (h.rowA.ab q hq).1
  refine ⟨h.below.grown hg (by have := h.size; omega) (fun k e => by have := hA k e; omega), Nat.le_trans h.size hg.size, h.boxA.kept hg (fun e => by have := hA b e.symm; omega), h.boxB.kept hg (fun e => by have := hA (b + 1) e.symm; omega), ho, h.rowB.grown hg (fun q hq e => h.apart q e.symm hq), fun g hg1 hg2 => ?_⟩
  rcases ha with ha | ha
  · exact h.apart g (by rw [← ha]; exact hg1) hg2
  · rw [ha] at hg1
    injection hg1 with hg1
    have := (h.rowB.ab g hg2).2
    omega
theorem Two.appB (h : Two w0 b eA eB tA tB vA vB A n c xs B m d ys w) {B' : Option Addr} {m' d' : Nat} {ys' : List Value} (ho : Ov w' (b + 2) eB 1 B' m' d' ys') (hg : w.grownBy w' (ab B)) (ha : ab B' = ab B ∨ ab B' = some w.heap.size) :
    Two w0 b eA eB tA tB vA vB A n c xs B' m' d' ys' w' := by
  have hB : ∀ q, ab B = some q → b + 2 ≤ q := fun q hq => (h.rowB.ab q hq).1
  refine ⟨h.below.grown hg (by have := h.size; omega) (fun k e => by have := hB k e; omega), Nat.le_trans h.size hg.size, h.boxA.kept hg (fun e => by have := hB b e.symm; omega), h.boxB.kept hg (fun e => by have := hB (b + 1) e.symm; omega), h.rowA.grown hg (fun q hq e => h.apart q hq e.symm), ho, fun g hg1 hg2 => ?_⟩
  rcases ha with ha | ha
  · exact h.apart g hg1 (by rw [← ha]; exact hg2)
  · rw [ha] at hg2
    injection hg2 with hg2
    have := (h.rowA.ab g hg1).2
    omega
end
/-- append of one new element, at a step of a region that draws its order. -/
theorem step_append_1 {P : Program} (w : World) {ops : Array Oper} {o : Oper} {a : Act} {K : Act → World → Prop} {Q : Exit → Act → World → Prop} {E : Prop} (hgd : o.guard = none) (s x : Operand) (t : TypeId)
    (ho : o.op = .call { callee := .builtin .append, args := #[s, x], argTypes := #[t, t] })
    (e : TypeId) (z : Value) (size bytes : Nat) (ht : P.underlying t = some (.slice e)) (hi : (P.info? e).map (fun i => (i.zero, i.size, i.bytes)) = some (some z, size, bytes)) (hzs : z.cells.size = size) (hsz : 0 < size)
    (base : Nat) (A : Option Addr) (n c : Nat) (xs : List Value) (hs : a.eval s = .slice A n c) (hown : Ov w base e size A n c xs)
    (B : Option Addr) (d : Nat) (ys : List Value) (hx : a.eval x = .slice B 1 d) (hr : Rv w size B 1 d ys) (h1 : ∀ u ∈ ys, u.oneCell' = true)
    (hlen : n ≤ 100000) (hby : bytes ≤ 100000) (hbase : base ≤ w.heap.size)
    (h : ∀ A' c' w', Ov w' base e size A' (n + 1) c' (xs ++ ys) → w.grownBy w' (ab A) → (ab A' = ab A ∨ ab A' = some w.heap.size) → K (a.put o.dst (.slice A' (n + 1) c')) w') :
    if Region.wanted o (yielded ops a.tmps) = true then Oper.wp P o a w K Q else E := by
  have hw : Region.wanted o (yielded ops a.tmps) = true := by simp [Region.wanted, hgd]
  rw [if_pos hw]
  obtain ⟨i, hi1, hi2, hi3, hi4⟩ : ∃ i, P.info? e = some i ∧ i.zero = some z ∧ i.size = size ∧ i.bytes = bytes := by
    match h : P.info? e with
    | none => rw [h] at hi; cases hi
    | some i =>
      rw [h] at hi
      simp only [Option.map_some, Option.some.injEq, Prod.mk.injEq] at hi
      exact ⟨i, rfl, hi.1, hi.2.1, hi.2.2⟩
  refine wp_append_v w s x t ho e i z size bytes ht hi1 hi2 hi3 hi4 hzs hsz base A n c xs hs hown B 1 d ys hx hr h1 ?_ ?_ hbase h
  · unfold maxLen
    omega
  · have := Nat.mul_le_mul (show n + 1 ≤ 100001 by omega) hby
    omega
end Go.Proofs.YtnjhhibjcfjhnaaDoor
