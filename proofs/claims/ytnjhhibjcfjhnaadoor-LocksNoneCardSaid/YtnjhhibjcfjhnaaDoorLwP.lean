/- Plain: two states of asks that are alike but for where their wants lie answer alike. -/
import Derived.Test.YtnjhhibjcfjhnaaDoorLkO
namespace Go.Proofs.YtnjhhibjcfjhnaaDoor
set_option linter.unusedVariables false

/-- The program's asks and the reference's, alike but for where their wants lie. -/
def likeK (xs ys : List Ak) : Prop := xs.map Ak.bare = ys.map Ak.bare
theorem likeK.len {xs ys : List Ak} (h : likeK xs ys) : xs.length = ys.length := by
  have := congrArg List.length h
  simpa using this
theorem likeK.settle {xs ys : List Ak} (h : likeK xs ys) : likeK (settleK xs).1 (settleK ys).1 ∧ (settleK xs).2 = (settleK ys).2 := by
  have h1 := settleK_bare xs
  have h2 := settleK_bare ys
  rw [show xs.map Ak.bare = ys.map Ak.bare from h, h2] at h1
  injection h1 with e1 e2
  exact ⟨e1.symm, e2.symm⟩
theorem likeK.snoc {xs ys : List Ak} (h : likeK xs ys) {x y : Ak} (hx : x.bare = y.bare) : likeK (xs ++ [x]) (ys ++ [y]) := by
  unfold likeK at *
  rw [List.map_append, List.map_append, h]
  simp [hx]
theorem any_bare (p : Ak → Bool) (hp : ∀ x, p x.bare = p x) (l : List Ak) : (l.map Ak.bare).any p = l.any p := by
  rw [List.any_map]
  congr 1
  funext x
  exact hp x
theorem filter_bare (p : Ak → Bool) (hp : ∀ x, p x.bare = p x) (l : List Ak) : (l.map Ak.bare).filter p = (l.filter p).map Ak.bare := by
  rw [List.filter_map]
  congr 2
  funext x
  exact hp x
theorem eraseP_bare (p : Ak → Bool) (hp : ∀ x, p x.bare = p x) : ∀ l : List Ak, (l.map Ak.bare).eraseP p = (l.eraseP p).map Ak.bare
  | [] => rfl
  | x :: r => by
    rw [List.map_cons, List.eraseP_cons, List.eraseP_cons, hp x]
    cases p x with
    | true => rfl
    | false => simp [eraseP_bare p hp r]
theorem isS_bare (s : Int) (x : Ak) : isS s x.bare = isS s x := rfl
theorem lateK_bare (now : Int) (x : Ak) : lateK now x.bare = lateK now x := rfl
theorem likeK.any {xs ys : List Ak} (h : likeK xs ys) (s : Int) : xs.any (isS s) = ys.any (isS s) := by
  rw [← any_bare _ (isS_bare s) xs, ← any_bare _ (isS_bare s) ys, show xs.map Ak.bare = ys.map Ak.bare from h]
theorem likeK.asked {xs ys : List Ak} (h : likeK xs ys) (s wait : Int) (ws : List Wt) : askedK s wait ws xs = askedK s wait ws ys := by
  unfold askedK
  rw [h.any s]
theorem likeK.rel {xs ys : List Ak} (h : likeK xs ys) (s : Int) : relK s xs = relK s ys := by
  unfold relK
  rw [h.any s]
theorem likeK.erase {xs ys : List Ak} (h : likeK xs ys) (s : Int) : likeK (xs.eraseP (isS s)) (ys.eraseP (isS s)) := by
  unfold likeK at *
  rw [← eraseP_bare _ (isS_bare s), ← eraseP_bare _ (isS_bare s), h]
theorem likeK.stay {xs ys : List Ak} (h : likeK xs ys) (now : Int) : likeK (stayK now xs) (stayK now ys) := by
  unfold likeK stayK at *
  rw [← filter_bare _ (fun x => by rw [lateK_bare]), ← filter_bare _ (fun x => by rw [lateK_bare]), h]
theorem map_s_bare (l : List Ak) : (l.map Ak.bare).map (·.s) = l.map (·.s) := by
  rw [List.map_map]
  rfl
theorem likeK.over {xs ys : List Ak} (h : likeK xs ys) (now : Int) : hsK now xs = hsK now ys := by
  unfold hsK
  rw [← map_s_bare (xs.filter _), ← map_s_bare (ys.filter _), ← filter_bare _ (lateK_bare now), ← filter_bare _ (lateK_bare now), show xs.map Ak.bare = ys.map Ak.bare from h]
theorem findS_bare (s : Int) (l : List Ak) : findS s (l.map Ak.bare) = (findS s l).map Ak.bare := by
  unfold findS
  rw [List.find?_map]
  rfl
theorem likeK.find {xs ys : List Ak} (h : likeK xs ys) (s : Int) : (findS s xs).map Ak.bare = (findS s ys).map Ak.bare := by
  rw [← findS_bare, ← findS_bare, show xs.map Ak.bare = ys.map Ak.bare from h]
theorem heldK_bare (s : Int) (l : List Ak) : heldK s l = match (findS s l).map Ak.bare with | some x => x.held | none => false := by
  unfold heldK
  cases findS s l <;> rfl
theorem likeK.held {xs ys : List Ak} (h : likeK xs ys) (s : Int) : heldK s xs = heldK s ys := by
  rw [heldK_bare, heldK_bare, h.find]
theorem waitsK_bare (s : Int) (l : List Ak) : waitsK s l = match (findS s l).map Ak.bare with | some x => if x.held then (0, false) else (x.since, true) | none => (0, false) := by
  unfold waitsK
  cases findS s l <;> rfl
theorem likeK.waits {xs ys : List Ak} (h : likeK xs ys) (s : Int) : waitsK s xs = waitsK s ys := by
  rw [waitsK_bare, waitsK_bare, h.find]
theorem wantsK_bare (s : Int) (l : List Ak) : wantsK s l = match (findS s l).map Ak.bare with | some x => x.W | none => [] := by
  unfold wantsK
  cases findS s l <;> rfl
theorem likeK.wants {xs ys : List Ak} (h : likeK xs ys) (s : Int) : wantsK s xs = wantsK s ys := by
  rw [wantsK_bare, wantsK_bare, h.find]
theorem ofK_bare (t : List UInt8) : ∀ l : List Ak, ofK t (l.map Ak.bare) = ofK t l
  | [] => rfl
  | x :: r => by
    rw [List.map_cons, ofK, ofK, ofK_bare t r]
    rfl
theorem likeK.of {xs ys : List Ak} (h : likeK xs ys) (t : List UInt8) : ofK t xs = ofK t ys := by
  rw [← ofK_bare, ← ofK_bare t ys, show xs.map Ak.bare = ys.map Ak.bare from h]
end Go.Proofs.YtnjhhibjcfjhnaaDoor
