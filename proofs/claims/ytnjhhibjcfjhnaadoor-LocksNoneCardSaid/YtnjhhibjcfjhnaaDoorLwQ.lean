/- Plain: settling keeps who asks, since when, for how long and for what. -/
import Derived.Test.YtnjhhibjcfjhnaaDoorLwP
namespace Go.Proofs.YtnjhhibjcfjhnaaDoor
set_option linter.unusedVariables false

/-- What settling cannot turn: an ask but for whether it is held. -/
theorem goK_map {β : Type} (f : Ak → β) (hf : ∀ x, f x.on = f x) : ∀ (r pre : List Ak), (goK pre r).1.map f = pre.map f ++ r.map f
  | [], pre => by simp [goK]
  | a :: r, pre => by
    rw [goK]
    split
    · rw [goK_map f hf r (pre ++ [a])]; simp
    · simp only [goK_map f hf r (pre ++ [a.on])]; simp [hf]
theorem settleK_map {β : Type} (f : Ak → β) (hf : ∀ x, f x.on = f x) (l : List Ak) : ((settleK l).1.map f).Perm (l.map f) := by
  unfold settleK
  have h1 := (ordK_perm (goK [] (ordK l)).1).map f
  rw [goK_map f hf] at h1
  exact h1.trans (by simpa using (ordK_perm l).map f)
theorem settleK_all (p : Ak → Prop) (hp : ∀ x, p x → p x.on) (l : List Ak) (h : ∀ x ∈ l, p x) : ∀ x ∈ (settleK l).1, p x := by
  have hg : ∀ (r pre : List Ak), (∀ x ∈ pre, p x) → (∀ x ∈ r, p x) → ∀ x ∈ (goK pre r).1, p x := by
    intro r
    induction r with
    | nil => intro pre h1 _; exact h1
    | cons a r ih =>
      intro pre h1 h2
      rw [goK]
      split
      · exact ih _ (fun x hx => by
          rcases List.mem_append.1 hx with hx | hx
          · exact h1 x hx
          · rw [List.mem_singleton.1 hx]; exact h2 a (by simp)) (fun x hx => h2 x (by simp [hx]))
      · exact ih _ (fun x hx => by
          rcases List.mem_append.1 hx with hx | hx
          · exact h1 x hx
          · rw [List.mem_singleton.1 hx]; exact hp a (h2 a (by simp))) (fun x hx => h2 x (by simp [hx]))
  intro x hx
  unfold settleK at hx
  exact hg (ordK l) [] (by simp) (fun y hy => h y (mem_ordK.1 hy)) x (mem_ordK.1 hx)
theorem settleK_s (l : List Ak) : ((settleK l).1.map (·.s)).Perm (l.map (·.s)) := settleK_map _ (fun _ => rfl) l
theorem settleK_nodup {l : List Ak} (h : (l.map (·.s)).Nodup) : ((settleK l).1.map (·.s)).Nodup := (settleK_s l).nodup_iff.2 h
theorem settleK_wf {l : List Ak} (h : ∀ x ∈ l, x.Wf) : ∀ x ∈ (settleK l).1, x.Wf := settleK_all Ak.Wf (fun x h => h) l h
end Go.Proofs.YtnjhhibjcfjhnaaDoor
