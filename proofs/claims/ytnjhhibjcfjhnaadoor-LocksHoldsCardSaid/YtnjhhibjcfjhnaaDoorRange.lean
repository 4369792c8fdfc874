/- A range over a function with two variables, in a walk without a fence. -/
import Derived.RangeFuncFrom
import Derived.RangeFuncNested
import Derived.RangeFuncBox
import Derived.Test.YtnjhhibjcfjhnaaDoorBox
namespace Go.Proofs.YtnjhhibjcfjhnaaDoor
open Go.RowKit
set_option linter.unusedVariables false

theorem wp_rangeFunc_two {α : Type} {P : Program} {g : Operand} {t1 t2 : Tmp} (s1 s2 : Nat) {assign body : Code} {Q : Exit → Act → World → Prop} {a : Act} {w : World} {gf : Nat} {lb : Array Value}
    (hg : a.eval g = .func (.func gf) #[] lb) (eg : ∀ args w, (callFunc gf args).run P w = .ok (.enter gf args) w)
    (v1 v2 : α → Value) {n₀ : Nat} {S Sp : List α → Prop} {N : Nat} {w0 : World} (hseq : SeqStopsK Fence.wide 8 P gf lb (fun x => #[v1 x, v2 x]) (Below n₀) S Sp N w0)
    (hn : n₀ ≤ w.heap.size) (hb0 : Below w0.heap.size w0 w)
    (I : List α → World → Prop) (Ix : Code → List α → World → Prop) (hI : OwnFrom w.heap.size I) (hIx : ∀ c, OwnFrom w.heap.size (Ix c)) (h0 : I [] w)
    (hassign : ∀ (l : Nat) (x : α) (W : World) (K : Act → World → Prop), K { tmps := ((((a.tmps.setIfInBounds t1 (v1 x)).setIfInBounds t2 (v2 x)).setIfInBounds s1 (v1 x)).setIfInBounds s2 (v2 x)), defers := [] } W →
      assign.wpIn (Fence.wide.inRound l) 7 P (Exit.then K (fun _ _ _ => False)) { tmps := (a.tmps.setIfInBounds t1 (v1 x)).setIfInBounds t2 (v2 x), defers := [] } W)
    (hbody : ∀ (l : Nat) (pre : List α) (x : α) (W : World), I pre W → pre.length < N → body.wpIn (Fence.wide.inRound l) 7 P (ownPostK (Below n₀) I Ix (pre ++ [x]) W) { tmps := ((((a.tmps.setIfInBounds t1 (v1 x)).setIfInBounds t2 (v2 x)).setIfInBounds s1 (v1 x)).setIfInBounds s2 (v2 x)), defers := [] } W)
    (hdone : ∀ (D : Nat) (xs : List α) (W : World), w.heap.size ≤ D → S xs → I xs W → W.heap[D]? = some (.deferred (some [])) → Q .normal { a with defers := { target := .collected D, args := #[] } :: a.defers } W)
    (hstop : ∀ (D : Nat) (c : Code) (pre : List α) (W : World), w.heap.size ≤ D → Sp pre → Ix c pre W → W.heap[D]? = some (.deferred (some [])) → c.wp P Q { a with defers := { target := .collected D, args := #[] } :: a.defers } W) :
    (Code.rangeFunc g #[t1, t2] assign body).wp P Q a w :=
  wpIn_wide (n := 9).1 (wpIn_rangeFunc_ownF rfl (by decide) hg trivial eg hseq belowK_t (belowK_b hn) hb0 (fun _ => rfl) I Ix hI hIx h0 _ (fun l x W K h => by simpa using hassign l x W K h) hbody hdone (fun D c pre W h1 h2 h3 h4 => wpIn_wide.2 (hstop D c pre W h1 h2 h3 h4)))

theorem wp_rangeFunc_one {α : Type} {P : Program} {g : Operand} {t1 : Tmp} (s1 : Nat) {assign body : Code} {Q : Exit → Act → World → Prop} {a : Act} {w : World} {gf : Nat} {lb : Array Value}
    (hg : a.eval g = .func (.func gf) #[] lb) (eg : ∀ args w, (callFunc gf args).run P w = .ok (.enter gf args) w)
    (v1 : α → Value) {Kp : World → World → Prop} {S Sp : List α → Prop} {N : Nat} {w0 : World} (hseq : SeqStopsK Fence.wide 8 P gf lb (fun x => #[v1 x]) Kp S Sp N w0)
    (hKt : ∀ {A B C : World}, Kp A B → Kp B C → Kp A C) (hKb : ∀ (W : World) (l : Nat) (o o' : Obj), w.heap.size ≤ l → W.heap[l]? = some o → o.isCells = false → o.isWalk = false → Kp W (W.putObj l o')) (hb0 : Below w0.heap.size w0 w)
    (I : List α → World → Prop) (Ix : Code → List α → World → Prop) (hI : OwnFrom w.heap.size I) (hIx : ∀ c, OwnFrom w.heap.size (Ix c)) (h0 : I [] w)
    (hassign : ∀ (l : Nat) (x : α) (W : World) (K : Act → World → Prop), K { tmps := (a.tmps.setIfInBounds t1 (v1 x)).setIfInBounds s1 (v1 x), defers := [] } W →
      assign.wpIn (Fence.wide.inRound l) 7 P (Exit.then K (fun _ _ _ => False)) { tmps := a.tmps.setIfInBounds t1 (v1 x), defers := [] } W)
    (hbody : ∀ (l : Nat) (pre : List α) (x : α) (W : World), I pre W → pre.length < N → body.wpIn (Fence.wide.inRound l) 7 P (ownPostK Kp I Ix (pre ++ [x]) W) { tmps := (a.tmps.setIfInBounds t1 (v1 x)).setIfInBounds s1 (v1 x), defers := [] } W)
    (hdone : ∀ (D : Nat) (xs : List α) (W : World), w.heap.size ≤ D → S xs → I xs W → W.heap[D]? = some (.deferred (some [])) → Q .normal { a with defers := { target := .collected D, args := #[] } :: a.defers } W)
    (hstop : ∀ (D : Nat) (c : Code) (pre : List α) (W : World), w.heap.size ≤ D → Sp pre → Ix c pre W → W.heap[D]? = some (.deferred (some [])) → c.wp P Q { a with defers := { target := .collected D, args := #[] } :: a.defers } W) :
    (Code.rangeFunc g #[t1] assign body).wp P Q a w :=
  wpIn_wide (n := 9).1 (wpIn_rangeFunc_ownF rfl (by decide) hg trivial eg hseq hKt hKb hb0 (fun _ => rfl) I Ix hI hIx h0 _ (fun l x W K h => by simpa using hassign l x W K h) hbody hdone (fun D c pre W h1 h2 h3 h4 => wpIn_wide.2 (hstop D c pre W h1 h2 h3 h4)))

/-- The same, in a block that the body breaks out of: behind the loop one word E, whether all have come or the body has broken off. -/
theorem wp_rangeFunc_brk {α : Type} {P : Program} {g : Operand} {t1 t2 : Tmp} (s1 s2 : Nat) {assign body : Code} {k : Nat} {Q : Exit → Act → World → Prop} {a : Act} {w : World} {gf : Nat} {lb : Array Value}
    (hg : a.eval g = .func (.func gf) #[] lb) (eg : ∀ args w, (callFunc gf args).run P w = .ok (.enter gf args) w)
    (v1 v2 : α → Value) {n₀ : Nat} {S Sp : List α → Prop} {N : Nat} {w0 : World} (hseq : SeqStopsK Fence.wide 8 P gf lb (fun x => #[v1 x, v2 x]) (Below n₀) S Sp N w0)
    (hn : n₀ ≤ w.heap.size) (hb0 : Below w0.heap.size w0 w)
    (I : List α → World → Prop) (Ix : Code → List α → World → Prop) (E : List α → World → Prop) (hI : OwnFrom w.heap.size I) (hIx : ∀ c, OwnFrom w.heap.size (Ix c)) (h0 : I [] w)
    (hE1 : ∀ xs W, S xs → I xs W → E xs W) (hE2 : ∀ c xs W, Sp xs → Ix c xs W → c = .exit k ∧ E xs W)
    (hassign : ∀ (l : Nat) (x : α) (W : World) (K : Act → World → Prop), K { tmps := ((((a.tmps.setIfInBounds t1 (v1 x)).setIfInBounds t2 (v2 x)).setIfInBounds s1 (v1 x)).setIfInBounds s2 (v2 x)), defers := [] } W →
      assign.wpIn (Fence.wide.inRound l) 7 P (Exit.then K (fun _ _ _ => False)) { tmps := (a.tmps.setIfInBounds t1 (v1 x)).setIfInBounds t2 (v2 x), defers := [] } W)
    (hbody : ∀ (l : Nat) (pre : List α) (x : α) (W : World), I pre W → pre.length < N → body.wpIn (Fence.wide.inRound l) 7 P (ownPostK (Below n₀) I Ix (pre ++ [x]) W) { tmps := ((((a.tmps.setIfInBounds t1 (v1 x)).setIfInBounds t2 (v2 x)).setIfInBounds s1 (v1 x)).setIfInBounds s2 (v2 x)), defers := [] } W)
    (hend : ∀ (D : Nat) (xs : List α) (W : World), w.heap.size ≤ D → E xs W → W.heap[D]? = some (.deferred (some [])) → Q .normal { a with defers := { target := .collected D, args := #[] } :: a.defers } W) :
    (Code.rangeFunc g #[t1, t2] assign body).wp P (Exit.inBlock k Q) a w :=
  wp_rangeFunc_two s1 s2 hg eg v1 v2 hseq hn hb0 I Ix hI hIx h0 hassign hbody (fun D xs W h1 h2 h3 h4 => hend D xs W h1 (hE1 xs W h2 h3) h4) (fun D c xs W h1 h2 h3 h4 => by
    obtain ⟨rfl, h5⟩ := hE2 c xs W h2 h3
    refine wp_exit ?_
    simp only [Exit.inBlock]
    exact hend D xs W h1 h5 h4)

theorem pre_next {α : Type} (pre xs : List α) (x : α) (hp : pre <+: xs) (h : pre.length < xs.length) : pre ++ [x] <+: xs ↔ xs[pre.length] = x := by
  obtain ⟨t, rfl⟩ := hp
  cases t with
  | nil => simp at h
  | cons y t =>
    simp only [List.prefix_append_right_inj, List.getElem_append_right (Nat.le_refl _), Nat.sub_self, List.getElem_cons_zero]
    constructor
    · intro h
      simpa [eq_comm] using h
    · rintro rfl
      simp

/-! ### A loop that counts, twice over: the first time it may break off behind 'many' of them. -/
section
variable {α : Type} (B : Nat) (t : TypeId) (V : World) (tv : Nat) (many : Int) (xs : List α)
def EachI (pre : List α) (W : World) : Prop := pre <+: xs ∧ (tv = 0 → pre = [] ∨ (pre.length : Int) < many) ∧ Boxed W B t (.int .i64 (pre.length : Int)) ∧ Below B V W
def EachX (k : Nat) (cd : Code) (pre : List α) (W : World) : Prop := (cd = .ret ∧ ¬ pre <+: xs) ∨ (cd = .exit k ∧ tv = 0 ∧ (pre.length : Int) = max 1 many ∧ Boxed W B t (.int .i64 (pre.length : Int)) ∧ Below B V W)
def EachE (pre : List α) (W : World) : Prop := (tv = 0 → (pre.length : Int) = min (xs.length : Int) (max 1 many)) ∧ (tv ≠ 0 → pre.length = xs.length) ∧ Boxed W B t (.int .i64 (pre.length : Int)) ∧ Below B V W

theorem EachI.own {H : Nat} (h : B ≤ H) (hV : B ≤ V.heap.size) : OwnFrom H (EachI B t V tv many xs) := fun s X Y row hs hg hr =>
  ⟨hs.1, hs.2.1, boxed_own B t (fun s : List α => .int .i64 (s.length : Int)) s X Y row hs.2.2.1 hg (fun r e => (hr r e).2), ownFrom_below (β := List α) hV h s X Y row hs.2.2.2 hg hr⟩
theorem EachX.own {k H : Nat} (h : B ≤ H) (hV : B ≤ V.heap.size) (cd : Code) : OwnFrom H (EachX B t V tv many xs k cd) := fun s X Y row hs hg hr =>
  hs.imp id fun q => ⟨q.1, q.2.1, q.2.2.1, boxed_own B t (fun s : List α => .int .i64 (s.length : Int)) s X Y row q.2.2.2.1 hg (fun r e => (hr r e).2), ownFrom_below (β := List α) hV h s X Y row q.2.2.2.2 hg hr⟩
variable {B t V tv many xs}
theorem EachI.start {W : World} (hb : Boxed W B t (.int .i64 0)) (hV : Below B V W) : EachI B t V tv many xs [] W := ⟨List.nil_prefix, fun _ => .inl rfl, hb, hV⟩
theorem EachI.all (ys : List α) (W : World) (e : ys = xs) (h : EachI B t V tv many xs ys W) : EachE B t V tv many xs ys W := by
  subst e
  refine ⟨fun h0 => ?_, fun _ => rfl, h.2.2.1, h.2.2.2⟩
  rcases h.2.1 h0 with e | e
  · subst e
    simp
    omega
  · omega
theorem EachX.brk {k : Nat} (cd : Code) (ys : List α) (W : World) (e : ys <+: xs) (h : EachX B t V tv many xs k cd ys W) : cd = .exit k ∧ EachE B t V tv many xs ys W := by
  rcases h with ⟨_, h⟩ | ⟨rfl, h0, hm, hb, hV⟩
  · exact absurd e h
  · have := e.length_le
    exact ⟨rfl, fun _ => by omega, fun h => absurd h0 h, hb, hV⟩
/-- The round goes on. -/
theorem EachI.next {pre : List α} {x : α} {W W' : World} (h : EachI B t V tv many xs pre W) (hx : pre ++ [x] <+: xs) (hm : tv = 0 → ((pre.length : Int) + 1 < many)) (hb : Boxed W' B t (.int .i64 ((pre.length : Int) + 1))) (hV : Below B W W') :
    EachI B t V tv many xs (pre ++ [x]) W' := ⟨hx, fun h0 => .inr (by simpa using hm h0), by simpa using hb, h.2.2.2.trans hV⟩
/-- The round breaks off. -/
theorem EachX.next {k : Nat} {pre : List α} {x : α} {W W' : World} (h : EachI B t V tv many xs pre W) (h0 : tv = 0) (hm : many ≤ (pre.length : Int) + 1) (hb : Boxed W' B t (.int .i64 ((pre.length : Int) + 1))) (hV : Below B W W') :
    EachX B t V tv many xs k (.exit k) (pre ++ [x]) W' := by
  refine .inr ⟨rfl, h0, ?_, by simpa using hb, h.2.2.2.trans hV⟩
  rcases h.2.1 h0 with e | e
  · subst e
    simp at hm ⊢
    omega
  · simp
    omega
theorem EachX.no {k : Nat} {pre : List α} {W' : World} (h : ¬ pre <+: xs) : EachX B t V tv many xs k .ret pre W' := .inl ⟨rfl, h⟩
end
end Go.Proofs.YtnjhhibjcfjhnaaDoor
