/- A region that draws its order: a load may come first although a later operation of the region, which waits for it, writes its cell: what holds behind an operation may differ from operation to operation. -/
import Derived.Deep.RegionHeld3
namespace Go.Proofs.YtnjhhibjcfjhnaaDoor
set_option linter.unusedVariables false

section
variable {P : Program} {ops : Array Oper} {Q : Exit → Act → World → Prop} {md : Region.Mode} {C : Nat → World → Prop}

/-- Whatever order is picked, C i holds behind operation i. -/
def wpAnyC (P : Program) (md : Region.Mode) (ops : Array Oper) (Q : Exit → Act → World → Prop) (C : Nat → World → Prop) : Nat → Array Bool → Act → World → Prop
  | 0, listed, a, w => Region.ready md ops listed = [] ∧ Q .normal a w
  | n + 1, listed, a, w => (Region.ready md ops listed = [] → Q .normal a w) ∧
      ∀ i ∈ Region.ready md ops listed, wpOp P ops Q i (fun a' w' => C i w' ∧ wpAnyC P md ops Q C n (listed.setIfInBounds i true) a' w') a w

theorem wpAny_of_C : ∀ {n : Nat} {listed : Array Bool} {a : Act} {w : World}, wpAnyC P md ops Q C n listed a w → wpAny P md ops Q n listed a w
  | 0, _, _, _, h => h
  | _ + 1, _, _, _, h => ⟨h.1, fun i hi => wpOp_mono (fun _ _ h' => wpAny_of_C h'.2) (h.2 i hi)⟩

theorem wpAnyC_mono {C' : Nat → World → Prop} (hC : ∀ i w, C' i w → C i w) : ∀ {n : Nat} {listed : Array Bool} {a : Act} {w : World}, wpAnyC P md ops Q C' n listed a w → wpAnyC P md ops Q C n listed a w
  | 0, _, _, _, h => h
  | _ + 1, _, _, _, h => ⟨h.1, fun i hi => wpOp_mono (fun _ _ h' => ⟨hC _ _ h'.1, wpAnyC_mono hC h'.2⟩) (h.2 i hi)⟩

/-- Operation i is taken first: each one that can come ahead of it leaves a world that meets S. -/
theorem wpAnyC_first {S : World → Prop} {i : Nat} {oi : Oper} {v : Value} (hi : ops[i]? = some oi) (hsel : ∀ (j : Nat) (o : Oper) cs b, ops[j]? = some o → o.op ≠ .select cs b)
    (hQ : ∀ c a w, Q (.panic c) (a.put oi.dst v) w → Q (.panic c) a w) :
    ∀ (n : Nat) (listed : Array Bool) (a : Act) (w : World),
      (∀ j oj w, ops[j]? = some oj → j ≠ i → listed.getD j true = false → (∀ e ∈ oj.after, Region.binds md e = true → e.on ≠ i) → C j w → S w) →
      (∀ j oj, ops[j]? = some oj → j ≠ i → listed.getD j true = false → (∀ e ∈ oj.after, Region.binds md e = true → e.on ≠ i) → oi.apart ops oj = true) →
      (∀ w, S w → C i w) → i ∈ Region.ready md ops listed → YieldsIf P ops S oi v a → S w →
      wpAnyC P md ops Q C n (listed.setIfInBounds i true) (a.put oi.dst v) w → wpAnyC P md ops Q C (n + 1) listed a w := by
  intro n
  induction n with
  | zero =>
    intro listed a w _ _ hCi hr hy hS H
    refine ⟨fun h => absurd (h ▸ hr) List.not_mem_nil, fun j hj => ?_⟩
    by_cases e : j = i
    · subst e
      exact hy.wpOp hi hS ⟨hCi _ hS, H⟩
    · have := ready_mono hj e
      rw [H.1] at this
      exact absurd this List.not_mem_nil
  | succ n ih =>
    intro listed a w hC hfree hCi hr hy hS H
    refine ⟨fun h => absurd (h ▸ hr) List.not_mem_nil, fun j hj => ?_⟩
    by_cases e : j = i
    · subst e
      exact hy.wpOp hi hS ⟨hCi _ hS, H⟩
    · obtain ⟨hjun, oj, hoj, hall⟩ := mem_ready.1 hj
      have hwait : ∀ x ∈ oj.after, Region.binds md x = true → x.on ≠ i := fun x hx hb hxe => by
        have h1 := hall x hx hb
        have h0 := (mem_ready.1 hr).1
        rw [hxe] at h1
        by_cases hlt : i < listed.size
        · simp [hlt] at h0 h1
          rw [h0] at h1
          cases h1
        · simp [Array.getElem?_eq_none (Nat.le_of_not_lt hlt)] at h1
      have h2 := wpOp_putIf hoj (hfree j oj hoj e hjun hwait) (fun cs b => hsel i oi cs b hi) (fun cs b => hsel j oj cs b hoj) hQ hy (H.2 j (ready_mono hj e))
      refine wpOp_mono (fun a' w' h3 => ⟨h3.2.1, ih (listed.setIfInBounds j true) a' w' ?_ ?_ hCi (ready_mono hr (Ne.symm e)) h3.1 (hC j oj w' hoj e hjun hwait h3.2.1) ?_⟩) h2
      · intro k ok wk hk hki hun hno
        refine hC k ok wk hk hki ?_ hno
        by_cases hjk : j = k
        · subst hjk
          exact hjun
        · rw [getD_set_ne true hjk] at hun
          exact hun
      · intro k ok hk hki hun hno
        refine hfree k ok hk hki ?_ hno
        by_cases hjk : j = k
        · subst hjk
          exact hjun
        · rw [getD_set_ne true hjk] at hun
          exact hun
      · rw [Array.setIfInBounds_comm _ _ e]
        exact h3.2.2

theorem wp_region_C {id : Nat} {a : Act} {w : World} (hm : P.follows .mixedOrders = true) (h : wpAnyC P .any ops Q C ops.size (Array.replicate ops.size false) a w.drew) : (Code.region id ops true).wp P Q a w :=
  wp_region_any hm (wpAny_of_C h)

theorem wpAnyC_done {listed : Array Bool} {a : Act} {w : World} (hr : Region.ready md ops listed = []) (h : Q .normal a w) : ∀ n, wpAnyC P md ops Q C n listed a w
  | 0 => ⟨hr, h⟩
  | _ + 1 => ⟨fun _ => h, by rw [hr]; simp⟩
end

section
variable {P : Program} {l : List Oper} {Q : Exit → Act → World → Prop} {md : Region.Mode} {C : Nat → World → Prop}
/-- Does operation j wait for i? -/
def waits (md : Region.Mode) (l : List Oper) (i j : Nat) : Bool := ((l.drop j).head?.map fun o => o.after.any fun e => Region.binds md e && e.on == i).getD true

theorem wpAnyC_takeL {S : World → Prop} {i : Nat} {oi : Oper} {tl : List Oper} {v : Value} {n : Nat} {listed : Array Bool} {a : Act} {w : World} (hi : l.drop i = oi :: tl)
    (hs : Region.noSelect l.toArray = true) (hf : Region.free md l.toArray listed i = true) (hr : (Region.ready md l.toArray listed).contains i = true)
    (hQ : ∀ c a w, Q (.panic c) (a.put oi.dst v) w → Q (.panic c) a w) (hy : YieldsIf P l.toArray S oi v a) (hS : S w)
    (hC : ∀ j w, j ≠ i → listed.getD j true = false → waits md l i j = false → C j w → S w) (hCi : ∀ w, S w → C i w)
    (h : wpAnyC P md l.toArray Q C n (listed.setIfInBounds i true) (a.put oi.dst v) w) : wpAnyC P md l.toArray Q C (n + 1) listed a w := by
  have get : ∀ {j : Nat} {o : Oper}, l.toArray[j]? = some o → (l.drop j).head? = some o := fun {j o} h => by
    rw [List.head?_drop]
    simpa using h
  have hi' : l.toArray[i]? = some oi := by
    have h1 : (l.drop i)[0]? = some oi := by rw [hi]; rfl
    rw [List.getElem?_drop] at h1
    simpa using h1
  refine wpAnyC_first hi' (Region.noSelect_spec hs) hQ n listed a w (fun j oj w hj hne hun hw hc => hC j w hne hun ?_ hc) (Region.free_spec hi' hf) hCi (by simpa using hr) hy hS h
  unfold waits
  rw [get hj]
  simp only [Option.map_some, Option.getD_some, Array.any_eq_false']
  intro e he
  cases hb : Region.binds md e
  · simp
  · simpa using hw e he hb

def AllReadyC (P : Program) (md : Region.Mode) (ops : Array Oper) (Q : Exit → Act → World → Prop) (C : Nat → World → Prop) (n : Nat) (listed : Array Bool) (a : Act) (w : World) (rs : List Nat) : Prop :=
  ∀ i ∈ rs, wpOp P ops Q i (fun a' w' => C i w' ∧ wpAnyC P md ops Q C n (listed.setIfInBounds i true) a' w') a w
theorem AllReadyC.nil {ops : Array Oper} {n : Nat} {listed : Array Bool} {a : Act} {w : World} : AllReadyC P md ops Q C n listed a w [] := fun _ h => by cases h
theorem AllReadyC.consL {n : Nat} {listed : Array Bool} {a : Act} {w : World} {i : Nat} {o : Oper} {tl : List Oper} {rs : List Nat} (ho : l.drop i = o :: tl)
    (h : ∀ K' : Act → World → Prop, Shut (∀ a w, C i w → wpAnyC P md l.toArray Q C n (listed.setIfInBounds i true) a w → K' a w) → if Region.wanted o (yielded l.toArray a.tmps) = true then Oper.wp P o a w K' Q else K' (a.put o.dst undef) w)
    (hs : AllReadyC P md l.toArray Q C n listed a w rs) : AllReadyC P md l.toArray Q C n listed a w (i :: rs) := fun j hj => by
  have hi' : l.toArray[i]? = some o := by
    have h1 : (l.drop i)[0]? = some o := by rw [ho]; rfl
    rw [List.getElem?_drop] at h1
    simpa using h1
  rcases List.mem_cons.1 hj with rfl | hj
  · exact wpOp_step hi' (fun K' hK => h K' (fun a w hS hW => hK a w ⟨hS, hW⟩))
  · exact hs j hj
theorem wpAnyC_ready {ops : Array Oper} {rs : List Nat} {n : Nat} {listed : Array Bool} {a : Act} {w : World} (hr : Region.ready md ops listed = rs) (hne : rs ≠ []) (h : AllReadyC P md ops Q C n listed a w rs) :
    wpAnyC P md ops Q C (n + 1) listed a w := ⟨fun h0 => absurd (hr ▸ h0) hne, hr ▸ h⟩
end
end Go.Proofs.YtnjhhibjcfjhnaaDoor
