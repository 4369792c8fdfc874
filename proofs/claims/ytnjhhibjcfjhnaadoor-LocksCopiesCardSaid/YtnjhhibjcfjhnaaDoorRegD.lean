/- A region that draws its order: an operation is taken first although some that cannot come ahead of it, at one remove or more, leave a world that breaks what it reads. -/
import Derived.Test.YtnjhhibjcfjhnaaDoorRegC
namespace Go.Proofs.YtnjhhibjcfjhnaaDoor
set_option linter.unusedVariables false

section
variable {P : Program} {ops : Array Oper} {Q : Exit → Act → World → Prop} {md : Region.Mode} {C : Nat → World → Prop}
theorem wpAnyC_firstD {S : World → Prop} {i : Nat} {oi : Oper} {v : Value} (D : Nat → Bool) (hi : ops[i]? = some oi) (hsel : ∀ (j : Nat) (o : Oper) cs b, ops[j]? = some o → o.op ≠ .select cs b)
    (hQ : ∀ c a w, Q (.panic c) (a.put oi.dst v) w → Q (.panic c) a w)
    (hDc : ∀ j oj, ops[j]? = some oj → D j = true → ∃ e ∈ oj.after, Region.binds md e = true ∧ (e.on = i ∨ D e.on = true)) :
    ∀ (n : Nat) (listed : Array Bool) (a : Act) (w : World), (∀ q, D q = true → listed.getD q true = false) →
      (∀ j oj w, ops[j]? = some oj → j ≠ i → listed.getD j true = false → D j = false → C j w → S w) →
      (∀ j oj, ops[j]? = some oj → j ≠ i → listed.getD j true = false → (∀ e ∈ oj.after, Region.binds md e = true → e.on ≠ i) → oi.apart ops oj = true) →
      (∀ w, S w → C i w) → i ∈ Region.ready md ops listed → YieldsIf P ops S oi v a → S w →
      wpAnyC P md ops Q C n (listed.setIfInBounds i true) (a.put oi.dst v) w → wpAnyC P md ops Q C (n + 1) listed a w := by
  intro n
  induction n with
  | zero =>
    intro listed a w _ _ _ hCi hr hy hS H
    refine ⟨fun h => absurd (h ▸ hr) List.not_mem_nil, fun j hj => ?_⟩
    by_cases e : j = i
    · subst e
      exact hy.wpOp hi hS ⟨hCi _ hS, H⟩
    · have := ready_mono hj e
      rw [H.1] at this
      exact absurd this List.not_mem_nil
  | succ n ih =>
    intro listed a w hDu hC hfree hCi hr hy hS H
    refine ⟨fun h => absurd (h ▸ hr) List.not_mem_nil, fun j hj => ?_⟩
    by_cases e : j = i
    · subst e
      exact hy.wpOp hi hS ⟨hCi _ hS, H⟩
    · obtain ⟨hjun, oj, hoj, hall⟩ := mem_ready.1 hj
      have hun : ∀ q, listed.getD q true = false → ∀ x ∈ oj.after, Region.binds md x = true → x.on ≠ q := fun q h0 x hx hb hxe => by
        have h1 := hall x hx hb
        rw [hxe] at h1
        by_cases hlt : q < listed.size
        · simp [hlt] at h0 h1
          rw [h0] at h1
          cases h1
        · simp [Array.getElem?_eq_none (Nat.le_of_not_lt hlt)] at h1
      have hwait := hun i (mem_ready.1 hr).1
      have hDj : D j = false := by
        cases hd : D j with
        | false => rfl
        | true =>
          obtain ⟨x, hx, hb, h⟩ := hDc j oj hoj hd
          rcases h with h | h
          · exact absurd h (hwait x hx hb)
          · exact absurd rfl (hun x.on (hDu _ h) x hx hb)
      have h2 := wpOp_putIf hoj (hfree j oj hoj e hjun hwait) (fun cs b => hsel i oi cs b hi) (fun cs b => hsel j oj cs b hoj) hQ hy (H.2 j (ready_mono hj e))
      refine wpOp_mono (fun a' w' h3 => ⟨h3.2.1, ih (listed.setIfInBounds j true) a' w' ?_ ?_ ?_ hCi (ready_mono hr (Ne.symm e)) h3.1 (hC j oj w' hoj e hjun hDj h3.2.1) ?_⟩) h2
      · intro q hq
        have hne : j ≠ q := fun e' => by rw [← e', hDj] at hq; cases hq
        rw [getD_set_ne true hne]
        exact hDu q hq
      · intro k ok wk hk hki hun2 hno
        refine hC k ok wk hk hki ?_ hno
        by_cases hjk : j = k
        · subst hjk
          exact hjun
        · rw [getD_set_ne true hjk] at hun2
          exact hun2
      · intro k ok hk hki hun2 hno
        refine hfree k ok hk hki ?_ hno
        by_cases hjk : j = k
        · subst hjk
          exact hjun
        · rw [getD_set_ne true hjk] at hun2
          exact hun2
      · rw [Array.setIfInBounds_comm _ _ e]
        exact h3.2.2
end
section
variable {P : Program} {l : List Oper} {Q : Exit → Act → World → Prop} {md : Region.Mode} {C : Nat → World → Prop}
/-- Is j one of these, by number? -/
def inN (D : List Nat) (j : Nat) : Bool := D.any fun q => Nat.beq q j
/-- Those that wait for i, at one remove or more. -/
def down (md : Region.Mode) (l : List Oper) (i : Nat) : List Nat :=
  (List.range l.length).foldl (fun D j => if ((l.drop j).head?.map fun o => o.after.any fun e => Region.binds md e && (Nat.beq e.on i || inN D e.on)).getD false then j :: D else D) []
def downOk (md : Region.Mode) (l : List Oper) (i : Nat) (listed : Array Bool) (D : List Nat) : Bool :=
  D.all fun j => (listed.getD j true == false) && ((l.drop j).head?.map fun o => o.after.any fun e => Region.binds md e && (Nat.beq e.on i || inN D e.on)).getD false
theorem wpAnyC_takeD {S : World → Prop} {i : Nat} {oi : Oper} {tl : List Oper} {v : Value} {n : Nat} {listed : Array Bool} {a : Act} {w : World} (hi : l.drop i = oi :: tl)
    (hs : Region.noSelect l.toArray = true) (hf : Region.free md l.toArray listed i = true) (hr : (Region.ready md l.toArray listed).contains i = true) (hd : downOk md l i listed (down md l i) = true)
    (hQ : ∀ c a w, Q (.panic c) (a.put oi.dst v) w → Q (.panic c) a w) (hy : YieldsIf P l.toArray S oi v a) (hS : S w)
    (hC : ∀ j w, j ≠ i → listed.getD j true = false → inN (down md l i) j = false → C j w → S w) (hCi : ∀ w, S w → C i w)
    (h : wpAnyC P md l.toArray Q C n (listed.setIfInBounds i true) (a.put oi.dst v) w) : wpAnyC P md l.toArray Q C (n + 1) listed a w := by
  have get : ∀ {j : Nat} {o : Oper}, l.toArray[j]? = some o → (l.drop j).head? = some o := fun {j o} h => by
    rw [List.head?_drop]
    simpa using h
  have hi' : l.toArray[i]? = some oi := by
    have h1 : (l.drop i)[0]? = some oi := by rw [hi]; rfl
    rw [List.getElem?_drop] at h1
    simpa using h1
  have hall := List.all_eq_true.1 hd
  have mem : ∀ j, inN (down md l i) j = true → j ∈ down md l i := fun j hj => by
    unfold inN at hj
    obtain ⟨q, hq, e⟩ := List.any_eq_true.1 hj
    rw [← Nat.eq_of_beq_eq_true e]
    exact hq
  refine wpAnyC_firstD (inN (down md l i)) hi' (Region.noSelect_spec hs) hQ ?_ n listed a w (fun q hq => ?_) (fun j oj w hj hne hun hw hc => hC j w hne hun hw hc) (Region.free_spec hi' hf) hCi (by simpa using hr) hy hS h
  · intro j oj hj hDj
    have h1 := hall j (mem j hDj)
    rw [get hj] at h1
    simp only [Option.map_some, Option.getD_some, Bool.and_eq_true, Array.any_eq_true'] at h1
    obtain ⟨-, e, he, hb, h2⟩ := h1
    refine ⟨e, he, hb, ?_⟩
    rw [Bool.or_eq_true] at h2
    exact h2.imp Nat.eq_of_beq_eq_true id
  · have h1 := hall q (mem q hq)
    simp only [Bool.and_eq_true, beq_iff_eq] at h1
    exact h1.1
end
end Go.Proofs.YtnjhhibjcfjhnaaDoor
