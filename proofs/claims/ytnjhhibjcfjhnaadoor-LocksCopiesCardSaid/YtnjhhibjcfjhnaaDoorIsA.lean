/- A range over the asks that want a table, whose want goes into a box of its own; Of by both. -/
import Derived.Test.YtnjhhibjcfjhnaaDoorActC
import Derived.Test.YtnjhhibjcfjhnaaDoorRegI
import Derived.Test.YtnjhhibjcfjhnaaDoorNone
namespace Go.Proofs.YtnjhhibjcfjhnaaDoor
open Go.RowKit Go.Shelf
set_option linter.unusedVariables false

def WBox (w : World) (B : Nat) (x : Wt) : Prop := w.heap[B]? = some (.cells #[.string (strL x.t), .bool x.wr] 64 (0, 0))
theorem WBox.lt {w : World} {B : Nat} {x : Wt} (h : WBox w B x) : B < w.heap.size := (Array.getElem?_eq_some_iff.1 h).1
theorem WBox.cells {w : World} {B : Nat} {x : Wt} (h : WBox w B x) : w.cell? ⟨B, 0, none⟩ = some (.string (strL x.t)) ∧ w.cell? ⟨B, 1, none⟩ = some (.bool x.wr) := (box_cells h).1
def sub2 (a : Act) (t1 t2 s1 s2 : Tmp) (p : Int × Wt) (B : Nat) : Act := { tmps := ((((a.tmps.setIfInBounds t1 (.int .i64 p.1)).setIfInBounds t2 (.agg #[.string (strL p.2.t), .bool p.2.wr])).setIfInBounds s1 (.int .i64 p.1)).setIfInBounds s2 (.pointer (some ⟨B, 0, none⟩))), defers := [] }
theorem wp_rangeFunc_brkO {P : Program} {g : Operand} {t1 t2 : Tmp} (s1 s2 : Nat) {assign body : Code} {k : Nat} {Q : Exit → Act → World → Prop} {a : Act} {w : World} {gf : Nat} {lb : Array Value}
    (hg : a.eval g = .func (.func gf) #[] lb) (eg : ∀ args w, (callFunc gf args).run P w = .ok (.enter gf args) w)
    {n₀ : Nat} {S Sp : List (Int × Wt) → Prop} {N : Nat} (hseq : SeqStopsK Fence.wide 8 P gf lb encO (KpV n₀ w.heap.size) S Sp N w)
    (hn : n₀ ≤ w.heap.size)
    (I : List (Int × Wt) → World → Prop) (Ix : Code → List (Int × Wt) → World → Prop) (E : List (Int × Wt) → World → Prop) (hI : OwnFrom w.heap.size I) (hIx : ∀ c, OwnFrom w.heap.size (Ix c)) (h0 : I [] w)
    (hIs : ∀ pre W, I pre W → w.heap.size ≤ W.heap.size)
    (hE1 : ∀ xs W, S xs → I xs W → E xs W) (hE2 : ∀ c xs W, Sp xs → Ix c xs W → c = .exit k ∧ E xs W)
    (hassign : ∀ (L : Nat) (p : Int × Wt) (W : World) (K : Act → World → Prop), K (sub2 a t1 t2 s1 s2 p W.heap.size) (W.alloc (.cells #[.string (strL p.2.t), .bool p.2.wr] 64)) →
      assign.wpIn (Fence.wide.inRound L) 7 P (Exit.then K (fun _ _ _ => False)) { tmps := (a.tmps.setIfInBounds t1 (.int .i64 p.1)).setIfInBounds t2 (.agg #[.string (strL p.2.t), .bool p.2.wr]), defers := [] } W)
    (hbody : ∀ (L : Nat) (pre : List (Int × Wt)) (p : Int × Wt) (Bv : Nat) (W : World), w.heap.size ≤ Bv → WBox W Bv p.2 → I pre W → pre.length < N → body.wpIn (Fence.wide.inRound L) 7 P (ownPostG w.heap.size (KpV n₀ w.heap.size) I Ix (pre ++ [p]) W) (sub2 a t1 t2 s1 s2 p Bv) W)
    (hend : ∀ (D : Nat) (xs : List (Int × Wt)) (W : World), w.heap.size ≤ D → E xs W → W.heap[D]? = some (.deferred (some [])) → Q .normal { a with defers := { target := .collected D, args := #[] } :: a.defers } W) :
    (Code.rangeFunc g #[t1, t2] assign body).wp P (Exit.inBlock k Q) a w := by
  refine wpIn_wide (n := 9).1 (wpIn_rangeFunc_ownH rfl (by decide) hg trivial eg hseq KpV.trans (KpV.putObj hn) (Below.refl _ _) (fun _ => rfl) I Ix hI hIx h0
    (fun p a' W => ∃ Bv, w.heap.size ≤ Bv ∧ WBox W Bv p.2 ∧ a' = sub2 a t1 t2 s1 s2 p Bv) ?hAx ?ass ?bod ?don ?sto)
  case hAx =>
    intro p a' s X Y row hs hg hr
    obtain ⟨Bv, h1, h2, h3⟩ := hs
    refine ⟨Bv, h1, (hg.block _ h2.lt (fun e => ?_)).trans h2, h3⟩
    obtain ⟨o, ho, hc⟩ := (hr Bv e.symm).2
    unfold WBox at h2
    rw [h2] at ho
    injection ho with ho
    subst ho
    cases hc
  case ass =>
    intro m pre p W K hI1 hK
    have hWs := hIs pre W hI1
    have hb : Below W.heap.size W (W.alloc (.cells #[.string (strL p.2.t), .bool p.2.wr] 64)) := (Below.refl _ W).alloc (Nat.le_refl _) _
    have h := hassign m p W K (hK _ _ ((KeepsOthers.alloc W _).from _) (KpV.of_below hb (Nat.le_trans hn hWs)) (hI pre W _ none hI1 (grown_of_belowO hb) (fun r e => by cases e)) ⟨W.heap.size, hWs, World.alloc_heap_new W _, rfl⟩)
    simpa [encO] using h
  case bod =>
    rintro m pre p a' W hm hrec hI1 ⟨Bv, hBv, hvb, rfl⟩ hlt
    exact hbody m pre p Bv W hBv hvb hI1 hlt
  case don => exact fun D xs W h1 h2 h3 h4 => hend D xs W h1 (hE1 xs W h2 h3) h4
  case sto =>
    intro D c xs W h1 h2 h3 h4
    obtain ⟨rfl, h5⟩ := hE2 c xs W h2 h3
    refine wpIn_wide.2 (wp_exit ?_)
    simp only [Exit.inBlock]
    exact hend D xs W h1 h5 h4
section
variable {w : World} {base B : Nat} {r : Option Nat} {now : Int} {zs : List Ak} {v : Value}
theorem Of_B (h : LB w base B r now zs) (hz : IZ zs) (t : List UInt8) :
    Calls Tryd.prog 19 #[.pointer (some ⟨B, 0, none⟩), .string (strL t)] w fun e w' => ∃ A' n c' xs, e = .returned (.func (.func 46) #[] #[.pointer (some ⟨w.heap.size + 1, 0, none⟩), .pointer (some ⟨w.heap.size, 0, none⟩)]) ∧
      w'.cell? ⟨w.heap.size + 1, 0, none⟩ = some (.slice A' n c') ∧ w'.cell? ⟨w.heap.size, 0, none⟩ = some (.string (strL t)) ∧ Rv w' 6 A' n c' (acells xs) ∧ (∀ x ∈ xs, Rv w' 2 x.A x.n x.c (wcells x.W)) ∧ ofK t xs = ofK t zs ∧ Below w.heap.size w w' := by
  obtain ⟨A, n, c, xs, h, rfl, rfl⟩ := h
  have hl := hz.len
  rw [List.length_map, h.len] at hl
  refine (Of_any h t (by omega)).mono ?_
  rintro e w' ⟨A', c', rfl, h1, h2, h3, hb⟩
  exact ⟨A', n, c', xs, rfl, h1, h2, h3, fun x hx => (h.tabs x hx).rv.below hb, (ofK_bare t xs).symm, hb⟩
theorem ROf_B (h : RB w base v now zs) (hbs : base ≤ w.heap.size) (hz : IZ zs) (t : List UInt8) :
    Calls Tryd.prog 45 #[v, .string (strL t)] w fun e w' => ∃ A' m c' ys, e = .returned (.slice A' m c') ∧ m = ys.length ∧ Rv w' 6 A' m c' (rcells ys) ∧ (∀ y ∈ ys, Rv w' 2 y.A y.n y.c (wcells y.W)) ∧ ozL ys (ofK t zs) ∧ Below w.heap.size w w' := by
  obtain ⟨A, n, c, xs, rfl, h, rfl⟩ := h
  have hl := hz.len
  rw [List.length_map, h.len] at hl
  refine (ROf_any h hbs (by omega) (fun x hx => by rw [Ak.n_of (h.tabs x hx)]; exact hz.ofBare.w8 x hx) t).mono ?_
  rintro e w' ⟨A', c', ys, rfl, h1, h2, h3, hb⟩
  exact ⟨A', _, c', ys, rfl, rfl, h1, h2, by rw [ofK_bare]; exact h3, hb⟩
/-- What the reference's At and the row at its place tell of a session's ask. -/
theorem RAt_B (h : RB w base v now zs) (s : Int) : ∃ A n c xs, v = .agg #[.int .i64 now, .slice A n c] ∧ RK w base A n c xs ∧ xs.length = n ∧ (∀ W, Below w.heap.size w W → Calls Tryd.prog 43 #[v, .int .i64 s] W fun e W' => e = .returned (.int .i64 (idxL (isS s) xs)) ∧ Below W.heap.size W W') ∧
    ((idxL (isS s) xs = -1 ∧ heldK s zs = false ∧ waitsK s zs = (0, false) ∧ wantsK s zs = []) ∨ ∃ (i : Nat) (hi : i < xs.length), idxL (isS s) xs = (i : Int) ∧ heldK s zs = xs[i].held ∧ waitsK s zs = (if xs[i].held then (0, false) else (xs[i].since, true)) ∧ wantsK s zs = xs[i].W) := by
  obtain ⟨A, n, c, xs, rfl, h, rfl⟩ := h
  refine ⟨A, n, c, xs, rfl, h, h.len, fun W hW => RAt_any A n c xs now s W (h.below hW).own.rv, ?_⟩
  rw [← (like_bare xs).held, ← (like_bare xs).waits, ← (like_bare xs).wants]
  rcases idxL_cases (isS s) xs with ⟨h1, h2⟩ | ⟨i, hi, h1, h2, h3, h4⟩
  · refine .inl ⟨h1, ?_, ?_, ?_⟩
    · unfold heldK findS; rw [h2]
    · unfold waitsK findS; rw [h2]
    · unfold wantsK findS; rw [h2]
  · refine .inr ⟨i, hi, h1, ?_, ?_, ?_⟩
    · unfold heldK findS; rw [h2]
    · unfold waitsK findS; rw [h2]
    · unfold wantsK findS; rw [h2]
end
end Go.Proofs.YtnjhhibjcfjhnaaDoor
