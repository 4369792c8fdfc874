/- Two rows beside each other, the second of values; a range over key.Each in a block that is broken out of. -/
import Derived.Test.YtdgmhegcoogokaaDoorKeyJ
import Derived.Test.YtdgmhegcoogokaaDoorRefV
namespace Go.Proofs.YtdgmhegcoogokaaDoor
open Go.RowKit Go.Shelf
set_option linter.unusedVariables false

/-- Two boxes, side by side, and the two rows that they tell of. -/
structure Two4 (w0 : World) (b : Nat) (eA eB tA tB : TypeId) (vA vB : Value) (A : Option Addr) (n c : Nat) (xs : List Value) (B : Option Addr) (m d : Nat) (ys : List Value) (w : World) : Prop where
  below : Below b w0 w
  size : b + 2 ≤ w.heap.size
  boxA : Boxed w b tA vA
  boxB : Boxed w (b + 1) tB vB
  rowA : Ov w (b + 2) eA 1 A n c xs
  rowB : Ov w (b + 2) eB 4 B m d ys
  apart : ∀ g, ab A = some g → ab B ≠ some g

section
variable {w0 w w' : World} {b : Nat} {eA eB tA tB : TypeId} {vA vB : Value} {A : Option Addr} {n c : Nat} {xs : List Value} {B : Option Addr} {m d : Nat} {ys : List Value}
theorem Two4.drew (h : Two4 w0 b eA eB tA tB vA vB A n c xs B m d ys w) : Two4 w0 b eA eB tA tB vA vB A n c xs B m d ys w.drew := ⟨h.below.drew, h.size, h.boxA, h.boxB, h.rowA.below (Below.refl _ _).drew, h.rowB.below (Below.refl _ _).drew, h.apart⟩
theorem Two4.more (h : Two4 w0 b eA eB tA tB vA vB A n c xs B m d ys w) (hb : Below w.heap.size w w') : Two4 w0 b eA eB tA tB vA vB A n c xs B m d ys w' :=
  ⟨h.below.trans (hb.mono (by have := h.size; omega)), Nat.le_trans h.size hb.size, box_in h.boxA hb, box_in h.boxB hb, h.rowA.below hb, h.rowB.below hb, h.apart⟩
theorem Two4.alloc (h : Two4 w0 b eA eB tA tB vA vB A n c xs B m d ys w) (o : Obj) : Two4 w0 b eA eB tA tB vA vB A n c xs B m d ys (w.alloc o) := h.more ((Below.refl _ _).alloc (Nat.le_refl _) _)
theorem Two4.setA (h : Two4 w0 b eA eB tA tB vA vB A n c xs B m d ys w) (v : Value) : Two4 w0 b eA eB tA tB v vB A n c xs B m d ys (w.setCell ⟨b, 0, none⟩ v) := by
  have hg : w.grownBy (w.setCell ⟨b, 0, none⟩ v) (some b) := grownBy_setCell' w b v
  exact ⟨h.below.setCell (p := ⟨b, 0, none⟩) (Nat.le_refl _) _, Nat.le_trans h.size hg.size, h.boxA.set v, box_other h.boxB (by omega), h.rowA.grown hg (fun q hq e => by injection e with e; have := (h.rowA.ab q hq).1; omega), h.rowB.grown hg (fun q hq e => by injection e with e; have := (h.rowB.ab q hq).1; omega), h.apart⟩
theorem Two4.setB (h : Two4 w0 b eA eB tA tB vA vB A n c xs B m d ys w) (v : Value) : Two4 w0 b eA eB tA tB vA v A n c xs B m d ys (w.setCell ⟨b + 1, 0, none⟩ v) := by
  have hg : w.grownBy (w.setCell ⟨b + 1, 0, none⟩ v) (some (b + 1)) := grownBy_setCell' w (b + 1) v
  exact ⟨h.below.setCell (p := ⟨b + 1, 0, none⟩) (Nat.le_succ _) _, Nat.le_trans h.size hg.size, box_other h.boxA (by omega), h.boxB.set v, h.rowA.grown hg (fun q hq e => by injection e with e; have := (h.rowA.ab q hq).1; omega), h.rowB.grown hg (fun q hq e => by injection e with e; have := (h.rowB.ab q hq).1; omega), h.apart⟩
theorem Two4.appA (h : Two4 w0 b eA eB tA tB vA vB A n c xs B m d ys w) {A' : Option Addr} {n' c' : Nat} {xs' : List Value} (ho : Ov w' (b + 2) eA 1 A' n' c' xs') (hg : w.grownBy w' (ab A)) (ha : ab A' = ab A ∨ ab A' = some w.heap.size) :
    Two4 w0 b eA eB tA tB vA vB A' n' c' xs' B m d ys w' := by
  have hA : ∀ q, ab A = some q → b + 2 ≤ q := fun q hq => (h.rowA.ab q hq).1
  refine ⟨h.below.grown hg (by have := h.size; omega) (fun k e => by have := hA k e; omega), Nat.le_trans h.size hg.size, h.boxA.kept hg (fun e => by have := hA b e.symm; omega), h.boxB.kept hg (fun e => by have := hA (b + 1) e.symm; omega), ho, h.rowB.grown hg (fun q hq e => h.apart q e.symm hq), fun g hg1 hg2 => ?_⟩
  rcases ha with ha | ha
  · exact h.apart g (by rw [← ha]; exact hg1) hg2
  · rw [ha] at hg1
    injection hg1 with hg1
    have := (h.rowB.ab g hg2).2
    omega
theorem Two4.appB (h : Two4 w0 b eA eB tA tB vA vB A n c xs B m d ys w) {B' : Option Addr} {m' d' : Nat} {ys' : List Value} (ho : Ov w' (b + 2) eB 4 B' m' d' ys') (hg : w.grownBy w' (ab B)) (ha : ab B' = ab B ∨ ab B' = some w.heap.size) :
    Two4 w0 b eA eB tA tB vA vB A n c xs B' m' d' ys' w' := by
  have hB : ∀ q, ab B = some q → b + 2 ≤ q := fun q hq => (h.rowB.ab q hq).1
  refine ⟨h.below.grown hg (by have := h.size; omega) (fun k e => by have := hB k e; omega), Nat.le_trans h.size hg.size, h.boxA.kept hg (fun e => by have := hB b e.symm; omega), h.boxB.kept hg (fun e => by have := hB (b + 1) e.symm; omega), h.rowA.grown hg (fun q hq e => h.apart q hq e.symm), ho, fun g hg1 hg2 => ?_⟩
  rcases ha with ha | ha
  · exact h.apart g hg1 (by rw [← ha]; exact hg2)
  · rw [ha] at hg2
    injection hg2 with hg2
    have := (h.rowA.ab g hg1).2
    omega
end

theorem Place.ext_at {l : List UInt8} {p q : Place l} (h : p.at_ = q.at_) : p = q := by
  obtain ⟨a, x, k, h1, h2⟩ := p
  obtain ⟨b, y, m, h3, h4⟩ := q
  simp only at h
  subst h
  rw [h2] at h4
  injection h4 with h4
  injection h4 with h5 h6
  subst h5 h6
  rfl

/-- A range over key.Each, whose value goes into a box of its own, in a block that the body breaks out of. -/
theorem wp_rangeFunc_brkV {l : List UInt8} {P : Program} {g : Operand} {t1 t2 : Tmp} (s1 s2 : Nat) {assign body : Code} {k : Nat} {Q : Exit → Act → World → Prop} {a : Act} {w : World} {gf : Nat} {lb : Array Value}
    (hg : a.eval g = .func (.func gf) #[] lb) (eg : ∀ args w, (callFunc gf args).run P w = .ok (.enter gf args) w)
    {n₀ : Nat} {S Sp : List (Place l) → Prop} {N : Nat} {w0 : World} (hseq : SeqStopsK Fence.wide 8 P gf lb encK (Below n₀) S Sp N w0)
    (hn : n₀ ≤ w.heap.size) (hb0 : Below w0.heap.size w0 w)
    (I : List (Place l) → World → Prop) (Ix : Code → List (Place l) → World → Prop) (E : List (Place l) → World → Prop) (hI : OwnFrom w.heap.size I) (hIx : ∀ c, OwnFrom w.heap.size (Ix c)) (h0 : I [] w)
    (hIs : ∀ pre W, I pre W → w.heap.size ≤ W.heap.size)
    (hE1 : ∀ xs W, S xs → I xs W → E xs W) (hE2 : ∀ c xs W, Sp xs → Ix c xs W → c = .exit k ∧ E xs W)
    (hassign : ∀ (L : Nat) (x : Place l) (W : World) (K : Act → World → Prop), K { tmps := ((((a.tmps.setIfInBounds t1 (.int .i64 (x.at_ : Int))).setIfInBounds t2 x.x.val).setIfInBounds s1 (.int .i64 (x.at_ : Int))).setIfInBounds s2 (.pointer (some ⟨W.heap.size, 0, none⟩))), defers := [] } (W.alloc (.cells #[.int .i64 x.x.k, .int .i64 x.x.i, .int .u64 x.x.u, .string (strL x.x.s)] 42)) →
      assign.wpIn (Fence.wide.inRound L) 7 P (Exit.then K (fun _ _ _ => False)) { tmps := (a.tmps.setIfInBounds t1 (.int .i64 (x.at_ : Int))).setIfInBounds t2 x.x.val, defers := [] } W)
    (hbody : ∀ (L : Nat) (pre : List (Place l)) (x : Place l) (Bv : Nat) (W : World), w.heap.size ≤ Bv → VBox W Bv x.x.k x.x.i x.x.u (strL x.x.s) → I pre W → pre.length < N → body.wpIn (Fence.wide.inRound L) 7 P (ownPostG w.heap.size (Below n₀) I Ix (pre ++ [x]) W) { tmps := ((((a.tmps.setIfInBounds t1 (.int .i64 (x.at_ : Int))).setIfInBounds t2 x.x.val).setIfInBounds s1 (.int .i64 (x.at_ : Int))).setIfInBounds s2 (.pointer (some ⟨Bv, 0, none⟩))), defers := [] } W)
    (hend : ∀ (D : Nat) (xs : List (Place l)) (W : World), w.heap.size ≤ D → E xs W → W.heap[D]? = some (.deferred (some [])) → Q .normal { a with defers := { target := .collected D, args := #[] } :: a.defers } W) :
    (Code.rangeFunc g #[t1, t2] assign body).wp P (Exit.inBlock k Q) a w := by
  refine wp_rangeFunc_H hg eg hseq belowK_t (belowK_b hn) hb0 (fun _ => rfl) I Ix hI hIx h0
    (fun x a' W => ∃ Bv, w.heap.size ≤ Bv ∧ VBox W Bv x.x.k x.x.i x.x.u (strL x.x.s) ∧ a' = { tmps := ((((a.tmps.setIfInBounds t1 (.int .i64 (x.at_ : Int))).setIfInBounds t2 x.x.val).setIfInBounds s1 (.int .i64 (x.at_ : Int))).setIfInBounds s2 (.pointer (some ⟨Bv, 0, none⟩))), defers := [] }) ?hAx ?ass ?bod ?don ?sto
  case hAx =>
    intro p a' s X Y row hs hg hr
    obtain ⟨Bv, h1, h2, h3⟩ := hs
    refine ⟨Bv, h1, (hg.block _ h2.lt (fun e => ?_)).trans h2, h3⟩
    obtain ⟨o, ho, hc⟩ := (hr Bv e.symm).2
    unfold VBox at h2
    rw [h2] at ho
    injection ho with ho
    subst ho
    cases hc
  case ass =>
    intro m pre p W K hI1 hK
    have hWs := hIs pre W hI1
    have hb : Below W.heap.size W (W.alloc (.cells #[.int .i64 p.x.k, .int .i64 p.x.i, .int .u64 p.x.u, .string (strL p.x.s)] 42)) := (Below.refl _ W).alloc (Nat.le_refl _) _
    have h := hassign m p W K (hK _ _ ((KeepsOthers.alloc W _).from _) (hb.mono (Nat.le_trans hn hWs)) (hI pre W _ none hI1 (grown_of_below' hb) (fun r e => by cases e)) ⟨W.heap.size, hWs, VBox.new W _ _ _ _, rfl⟩)
    simpa [encK] using h
  case bod =>
    rintro m pre p a' W hm hrec hI1 ⟨Bv, hBv, hvb, rfl⟩ hlt
    exact hbody m pre p Bv W hBv hvb hI1 hlt
  case don => exact fun D xs W h1 h2 h3 h4 => hend D xs W h1 (hE1 xs W h2 h3) h4
  case sto =>
    intro D c xs W h1 h2 h3 h4
    obtain ⟨rfl, h5⟩ := hE2 c xs W h2 h3
    refine wp_exit ?_
    simp only [Exit.inBlock]
    exact hend D xs W h1 h5 h4
end Go.Proofs.YtdgmhegcoogokaaDoor
