/- Locks, plain: asks, their order, what settles; that the library's insertion sort puts asks in order. -/
import Derived.Test.YtnjhhibjcfjhnaaDoorBase
import Derived.Sort.WalkA
import Derived.Shelf.SlSortCmp.Insertion
namespace Go.Proofs.YtnjhhibjcfjhnaaDoor
open Go.RowKit Go.Sort
set_option linter.unusedVariables false

/-- A want. -/
structure Wt where
  t : List UInt8
  wr : Bool
theorem Wt.ext' {a b : Wt} (h : a.t = b.t) (k : a.wr = b.wr) : a = b := by cases a; cases b; simp_all
instance : DecidableEq Wt := fun a b => decidable_of_iff (a.t = b.t ∧ a.wr = b.wr) ⟨fun h => Wt.ext' h.1 h.2, fun h => by subst h; exact ⟨rfl, rfl⟩⟩
def Wt.cells (x : Wt) : List Value := [.string (strL x.t), .bool x.wr]
def Wt.val (x : Wt) : Value := .agg #[.string (strL x.t), .bool x.wr]
def wcells (l : List Wt) : List Value := l.flatMap Wt.cells
theorem wcells_length (xs : List Wt) : (wcells xs).length = xs.length * 2 := by
  induction xs with
  | nil => rfl
  | cons x xs ih =>
    unfold wcells at *
    rw [List.flatMap_cons, List.length_append, ih]
    simp [Wt.cells]
    omega
theorem wcells_at (xs : List Wt) (i : Nat) (h : i < xs.length) (j : Nat) (hj : j < 2) : (wcells xs)[2 * i + j]? = (xs[i].cells)[j]? := by
  induction xs generalizing i with
  | nil => simp at h
  | cons x xs ih =>
    unfold wcells at *
    rw [List.flatMap_cons]
    cases i with
    | zero =>
      rw [List.getElem?_append_left (by simp [Wt.cells]; omega)]
      simp
    | succ i =>
      rw [List.getElem?_append_right (by simp [Wt.cells]; omega)]
      have := ih i (by simpa using h)
      simp only [Wt.cells, List.length_cons, List.length_nil] at *
      rw [show 2 * (i + 1) + j - (0 + 1 + 1) = 2 * i + j from by omega]
      simpa using this
/-- Are two lists of wants against each other? -/
def hit (x y : Wt) : Bool := decide (x.t = y.t) && (x.wr || y.wr)
def ag (a b : List Wt) : Bool := a.any fun x => b.any fun y => hit x y

/-- An ask, and where its wants lie. -/
structure Ak where
  s : Int
  since : Int
  wait : Int
  first : Bool
  held : Bool
  W : List Wt
  A : Option Addr
  n : Nat
  c : Nat
instance : Inhabited Ak := ⟨⟨0, 0, 0, false, false, [], none, 0, 0⟩⟩
/-- An ask in the program's memory, and in the reference's. -/
def Ak.cells (x : Ak) : List Value := [.slice x.A x.n x.c, .int .i64 x.s, .int .i64 x.since, .int .i64 x.wait, .bool x.first, .bool x.held]
def Ak.rcells (x : Ak) : List Value := [.int .i64 x.s, .int .i64 x.since, .int .i64 x.wait, .bool x.first, .bool x.held, .slice x.A x.n x.c]
/-- Without the place. -/
def Ak.bare (x : Ak) : Ak := { x with A := none, n := 0, c := 0 }
def Ak.on (x : Ak) : Ak := { x with held := true }
def Ak.rank (x : Ak) : Nat := if x.held then 0 else if x.first then 1 else 2
theorem Ak.rank_bare (x : Ak) : x.bare.rank = x.rank := rfl
theorem Ak.rank_lt (x : Ak) : x.rank = 0 ∨ x.rank = 1 ∨ x.rank = 2 := by unfold Ak.rank; split <;> (try split) <;> simp
def isR (k : Nat) (x : Ak) : Bool := x.rank == k
/-- Asks in order. -/
def ordK (l : List Ak) : List Ak := l.filter (isR 0) ++ (l.filter (isR 1) ++ l.filter (isR 2))
theorem ordK_bare (l : List Ak) : (ordK l).map Ak.bare = ordK (l.map Ak.bare) := by
  unfold ordK
  simp only [List.map_append, List.filter_map]
  rfl
theorem ordK_length (l : List Ak) : (ordK l).length = l.length := by
  induction l with
  | nil => rfl
  | cons a l ih =>
    unfold ordK isR at *
    simp only [List.length_append, List.filter_cons] at *
    rcases a.rank_lt with h | h | h <;> simp [h] <;> omega
theorem mem_ordK {l : List Ak} {x : Ak} : x ∈ ordK l ↔ x ∈ l := by
  unfold ordK isR
  simp only [List.mem_append, List.mem_filter]
  rcases x.rank_lt with h | h | h <;> simp [h]
theorem ordK_perm (l : List Ak) : (ordK l).Perm l := by
  induction l with
  | nil => exact .refl _
  | cons a l ih =>
    unfold ordK isR at *
    simp only [List.filter_cons]
    rcases a.rank_lt with h | h | h
    · simpa [h] using ih
    · simp only [h]
      exact List.perm_middle.trans (ih.cons a)
    · simp only [h]
      refine (List.Perm.append_left _ List.perm_middle).trans ?_
      exact List.perm_middle.trans (ih.cons a)

/-- What settles: those ahead, those to come; whose became held. -/
def goK : List Ak → List Ak → List Ak × List Int
  | pre, [] => (pre, [])
  | pre, a :: r => if a.held || pre.any (fun o => ag a.W o.W) then goK (pre ++ [a]) r else ((goK (pre ++ [a.on]) r).1, a.s :: (goK (pre ++ [a.on]) r).2)
def settleK (l : List Ak) : List Ak × List Int := (ordK (goK [] (ordK l)).1, (goK [] (ordK l)).2)
theorem goK_bare : ∀ (r pre : List Ak), goK (pre.map Ak.bare) (r.map Ak.bare) = ((goK pre r).1.map Ak.bare, (goK pre r).2)
  | [], pre => rfl
  | a :: r, pre => by
    have h1 := goK_bare r (pre ++ [a])
    have h2 := goK_bare r (pre ++ [a.on])
    simp only [List.map_append, List.map_cons, List.map_nil] at h1 h2
    have e : (pre.map Ak.bare).any (fun o => ag a.bare.W o.W) = pre.any (fun o => ag a.W o.W) := by rw [List.any_map]; rfl
    have e2 : (a.bare.held || (pre.map Ak.bare).any (fun o => ag a.bare.W o.W)) = (a.held || pre.any (fun o => ag a.W o.W)) := by rw [e]; rfl
    simp only [List.map_cons, goK, e2]
    by_cases h : (a.held || pre.any (fun o => ag a.W o.W)) = true
    · rw [if_pos h, if_pos h, h1]
    · rw [if_neg h, if_neg h]
      have e3 : a.bare.on = a.on.bare := rfl
      rw [e3, h2]
      rfl
theorem settleK_bare (l : List Ak) : settleK (l.map Ak.bare) = ((settleK l).1.map Ak.bare, (settleK l).2) := by
  unfold settleK
  have h : goK [] ((ordK l).map Ak.bare) = _ := goK_bare (ordK l) []
  rw [← ordK_bare, h, ordK_bare]
theorem goK_length : ∀ (r pre : List Ak), (goK pre r).1.length = pre.length + r.length
  | [], pre => rfl
  | a :: r, pre => by
    rw [goK]
    split
    · rw [goK_length r (pre ++ [a])]; simp; omega
    · rw [goK_length r (pre ++ [a.on])]; simp; omega
theorem settleK_length (l : List Ak) : (settleK l).1.length = l.length := by
  unfold settleK
  rw [ordK_length, goK_length, ordK_length]
  simp

/-! ### the insertion sort -/
def rk (x y : Ak) : Int := (x.rank : Int) - (y.rank : Int)
theorem ltOf_rk (x y : Ak) : ltOf rk x y = decide (x.rank < y.rank) := by
  unfold ltOf rk
  by_cases h : x.rank < y.rank
  · rw [decide_eq_true h]; simp; omega
  · rw [decide_eq_false h]; simp; omega
theorem get_mid (p q : List Ak) (x : Ak) : (p ++ x :: q).toArray[p.length]! = x := by simp
theorem snoc_of {α : Type} (p : List α) (h : p.length ≠ 0) : ∃ p' y, p = p' ++ [y] := by
  cases e : p.reverse with
  | nil => rw [List.reverse_eq_nil_iff.1 e] at h; exact absurd rfl h
  | cons y r => exact ⟨r.reverse, y, by rw [← List.reverse_reverse p, e]; simp⟩
theorem swp_list (p t : List Ak) (y x : Ak) : swp (p ++ y :: x :: t).toArray (p.length + 1) p.length = (p ++ x :: y :: t).toArray := by
  have e1 : (p ++ y :: x :: t).toArray[p.length + 1]! = x := by simp
  have e2 : (p ++ y :: x :: t).toArray[p.length]! = y := get_mid p (x :: t) y
  unfold swp
  rw [e1, e2]
  simp only [List.setIfInBounds_toArray]
  rw [List.set_append_right _ _ (by omega)]
  simp only [Nat.add_sub_cancel_left, List.set_cons_succ, List.set_cons_zero]
  rw [List.set_append_right _ _ (by omega)]
  simp
theorem inner_list (p : List Ak) (x : Ak) (hp : ∀ y ∈ p, y.rank ≤ x.rank) : ∀ (m : Nat) (q t : List Ak), q.length = m → (∀ y ∈ q, x.rank < y.rank) →
    insInner (ltOf rk) 0 (p.length + m) (p ++ (q ++ x :: t)).toArray = (p ++ x :: (q ++ t)).toArray := by
  intro m
  induction m with
  | zero =>
    intro q t hq _
    obtain rfl := List.eq_nil_of_length_eq_zero hq
    simp only [List.nil_append, Nat.add_zero]
    refine insInner_stop _ _ _ _ ?_
    by_cases h0 : p.length = 0
    · exact .inl (by omega)
    · refine .inr ?_
      obtain ⟨p', y, rfl⟩ : ∃ p' y, p = p' ++ [y] := snoc_of p (by omega)
      have e1 : (p' ++ [y] ++ x :: t).toArray[(p' ++ [y]).length]! = x := get_mid (p' ++ [y]) t x
      have e2 : (p' ++ [y] ++ x :: t).toArray[(p' ++ [y]).length - 1]! = y := by simp
      rw [e1, e2, ltOf_rk]
      have := hp y (by simp)
      simp; omega
  | succ m ih =>
    intro q t hq hlt
    obtain ⟨q', y, rfl⟩ : ∃ q' y, q = q' ++ [y] := snoc_of q (by omega)
    have hq' : q'.length = m := by simpa using hq
    have e0 : (p ++ (q' ++ [y] ++ x :: t)) = (p ++ q') ++ y :: x :: t := by simp
    have hl : (p ++ q').length = p.length + m := by simp [hq']
    have e1 : ((p ++ q') ++ y :: x :: t).toArray[p.length + (m + 1)]! = x := by
      have := get_mid (p ++ q' ++ [y]) t x
      rw [show (p ++ q' ++ [y]).length = p.length + (m + 1) from by simp [hq']] at this
      simpa using this
    have e2 : ((p ++ q') ++ y :: x :: t).toArray[p.length + (m + 1) - 1]! = y := by
      have := get_mid (p ++ q') (x :: t) y
      rw [hl] at this
      exact this
    rw [e0, insInner_go _ _ _ _ (by omega) (by rw [e1, e2, ltOf_rk]; exact decide_eq_true (hlt y (by simp)))]
    rw [show p.length + (m + 1) - 1 = p.length + m from by omega, show p.length + (m + 1) = p.length + m + 1 from by omega, ← hl, swp_list, hl]
    have := ih q' (y :: t) hq' (fun z hz => hlt z (by simp [hz]))
    rw [show p ++ q' ++ x :: y :: t = p ++ (q' ++ x :: y :: t) from by simp, this]
    simp
theorem rank_of_filter {k : Nat} {l : List Ak} {y : Ak} (h : y ∈ l.filter (isR k)) : y.rank = k := by
  have := (List.mem_filter.1 h).2
  simpa [isR] using this
/-- One more. -/
theorem inner_ord (l : List Ak) (x : Ak) (t : List Ak) : insInner (ltOf rk) 0 l.length (ordK l ++ x :: t).toArray = (ordK (l ++ [x]) ++ t).toArray := by
  have hlen := ordK_length l
  unfold ordK at hlen ⊢
  simp only [List.filter_append]
  have r0 : ∀ y ∈ l.filter (isR 0), y.rank = 0 := fun y h => rank_of_filter h
  have r1 : ∀ y ∈ l.filter (isR 1), y.rank = 1 := fun y h => rank_of_filter h
  have r2 : ∀ y ∈ l.filter (isR 2), y.rank = 2 := fun y h => rank_of_filter h
  generalize l.filter (isR 0) = f0 at *
  generalize l.filter (isR 1) = f1 at *
  generalize l.filter (isR 2) = f2 at *
  simp only [List.length_append] at hlen
  rcases x.rank_lt with h | h | h
  · have e0 : [x].filter (isR 0) = [x] := by simp [isR, h]
    have e1 : [x].filter (isR 1) = [] := by simp [isR, h]
    have e2 : [x].filter (isR 2) = [] := by simp [isR, h]
    rw [e0, e1, e2]
    have := inner_list f0 x (fun y hy => by rw [r0 y hy]; omega) (f1 ++ f2).length (f1 ++ f2) t rfl (fun y hy => by
      rcases List.mem_append.1 hy with hy | hy
      · rw [r1 y hy]; omega
      · rw [r2 y hy]; omega)
    rw [show f0.length + (f1 ++ f2).length = l.length from by simp; omega] at this
    simpa using this
  · have e0 : [x].filter (isR 0) = [] := by simp [isR, h]
    have e1 : [x].filter (isR 1) = [x] := by simp [isR, h]
    have e2 : [x].filter (isR 2) = [] := by simp [isR, h]
    rw [e0, e1, e2]
    have := inner_list (f0 ++ f1) x (fun y hy => by
      rcases List.mem_append.1 hy with hy | hy
      · rw [r0 y hy]; omega
      · rw [r1 y hy]; omega) f2.length f2 t rfl (fun y hy => by rw [r2 y hy]; omega)
    rw [show (f0 ++ f1).length + f2.length = l.length from by simp; omega] at this
    simpa using this
  · have e0 : [x].filter (isR 0) = [] := by simp [isR, h]
    have e1 : [x].filter (isR 1) = [] := by simp [isR, h]
    have e2 : [x].filter (isR 2) = [x] := by simp [isR, h]
    rw [e0, e1, e2]
    have := inner_list (f0 ++ f1 ++ f2) x (fun y hy => by
      rcases List.mem_append.1 hy with hy | hy
      · rcases List.mem_append.1 hy with hy | hy
        · rw [r0 y hy]; omega
        · rw [r1 y hy]; omega
      · rw [r2 y hy]; omega) 0 [] t rfl (fun y hy => by simp at hy)
    rw [show (f0 ++ f1 ++ f2).length + 0 = l.length from by simp; omega] at this
    simpa using this
theorem outer_ord : ∀ (r l : List Ak), insOuter (ltOf rk) 0 (l.length + r.length) l.length (ordK l ++ r).toArray = (ordK (l ++ r)).toArray
  | [], l => by
    rw [insOuter_stop _ _ _ _ _ (by simp)]
    simp
  | x :: r, l => by
    rw [insOuter_go _ _ _ _ _ (by simp), inner_ord]
    have h := outer_ord r (l ++ [x])
    simp only [List.length_append, List.length_cons, List.length_nil, List.append_assoc, List.cons_append, List.nil_append] at h
    rw [show l.length + (x :: r).length = l.length + (0 + 1) + r.length from by simp; omega]
    exact h
theorem sort_ord (l : List Ak) : insertionSort (ltOf rk) l.toArray 0 l.length = (ordK l).toArray := by
  unfold insertionSort
  cases l with
  | nil => rw [insOuter_stop _ _ _ _ _ (by simp)]; rfl
  | cons x r =>
    have e : ordK [x] = [x] := by
      unfold ordK isR
      rcases x.rank_lt with h | h | h <;> simp [h]
    have h := outer_ord r [x]
    rw [e] at h
    simp only [List.length_cons, List.length_nil, List.cons_append, List.nil_append] at h
    rw [show (x :: r).length = 0 + 1 + r.length from by simp; omega]
    exact h
end Go.Proofs.YtnjhhibjcfjhnaaDoor
