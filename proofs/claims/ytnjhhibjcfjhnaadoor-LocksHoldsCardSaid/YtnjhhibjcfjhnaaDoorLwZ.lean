/- Plain: states alike, what settling keeps, states without places. -/
import Derived.Test.YtnjhhibjcfjhnaaDoorLkO
namespace Go.Proofs.YtnjhhibjcfjhnaaDoor
open Go.RowKit
set_option linter.unusedVariables false


/-- The program's asks and the reference's, alike but for where their wants lie. -/
def likeK (xs ys : List Ak) : Prop := xs.map Ak.bare = ys.map Ak.bare
theorem likeK.len {xs ys : List Ak} (h : likeK xs ys) : xs.length = ys.length := by
  have := congrArg List.length h
  simpa using this
theorem likeK.settle {xs ys : List Ak} (h : likeK xs ys) : likeK (settleK xs).1 (settleK ys).1 ∧ (settleK xs).2 = (settleK ys).2 := by
  have h1 := settleK_bare xs
  have h2 := settleK_bare ys
  rw [show xs.map Ak.bare = ys.map Ak.bare from h, h2] at h1
  injection h1 with e1 e2
  exact ⟨e1.symm, e2.symm⟩
theorem likeK.snoc {xs ys : List Ak} (h : likeK xs ys) {x y : Ak} (hx : x.bare = y.bare) : likeK (xs ++ [x]) (ys ++ [y]) := by
  unfold likeK at *
  rw [List.map_append, List.map_append, h]
  simp [hx]
theorem any_bare (p : Ak → Bool) (hp : ∀ x, p x.bare = p x) (l : List Ak) : (l.map Ak.bare).any p = l.any p := by
  rw [List.any_map]
  congr 1
  funext x
  exact hp x
theorem filter_bare (p : Ak → Bool) (hp : ∀ x, p x.bare = p x) (l : List Ak) : (l.map Ak.bare).filter p = (l.filter p).map Ak.bare := by
  rw [List.filter_map]
  congr 2
  funext x
  exact hp x
theorem eraseP_bare (p : Ak → Bool) (hp : ∀ x, p x.bare = p x) : ∀ l : List Ak, (l.map Ak.bare).eraseP p = (l.eraseP p).map Ak.bare
  | [] => rfl
  | x :: r => by
    rw [List.map_cons, List.eraseP_cons, List.eraseP_cons, hp x]
    cases p x with
    | true => rfl
    | false => simp [eraseP_bare p hp r]
theorem isS_bare (s : Int) (x : Ak) : isS s x.bare = isS s x := rfl
theorem lateK_bare (now : Int) (x : Ak) : lateK now x.bare = lateK now x := rfl
theorem likeK.any {xs ys : List Ak} (h : likeK xs ys) (s : Int) : xs.any (isS s) = ys.any (isS s) := by
  rw [← any_bare _ (isS_bare s) xs, ← any_bare _ (isS_bare s) ys, show xs.map Ak.bare = ys.map Ak.bare from h]
theorem likeK.asked {xs ys : List Ak} (h : likeK xs ys) (s wait : Int) (ws : List Wt) : askedK s wait ws xs = askedK s wait ws ys := by
  unfold askedK
  rw [h.any s]
theorem likeK.rel {xs ys : List Ak} (h : likeK xs ys) (s : Int) : relK s xs = relK s ys := by
  unfold relK
  rw [h.any s]
theorem likeK.erase {xs ys : List Ak} (h : likeK xs ys) (s : Int) : likeK (xs.eraseP (isS s)) (ys.eraseP (isS s)) := by
  unfold likeK at *
  rw [← eraseP_bare _ (isS_bare s), ← eraseP_bare _ (isS_bare s), h]
theorem likeK.stay {xs ys : List Ak} (h : likeK xs ys) (now : Int) : likeK (stayK now xs) (stayK now ys) := by
  unfold likeK stayK at *
  rw [← filter_bare _ (fun x => by rw [lateK_bare]), ← filter_bare _ (fun x => by rw [lateK_bare]), h]
theorem map_s_bare (l : List Ak) : (l.map Ak.bare).map (·.s) = l.map (·.s) := by
  rw [List.map_map]
  rfl
theorem likeK.over {xs ys : List Ak} (h : likeK xs ys) (now : Int) : hsK now xs = hsK now ys := by
  unfold hsK
  rw [← map_s_bare (xs.filter _), ← map_s_bare (ys.filter _), ← filter_bare _ (lateK_bare now), ← filter_bare _ (lateK_bare now), show xs.map Ak.bare = ys.map Ak.bare from h]
theorem findS_bare (s : Int) (l : List Ak) : findS s (l.map Ak.bare) = (findS s l).map Ak.bare := by
  unfold findS
  rw [List.find?_map]
  rfl
theorem likeK.find {xs ys : List Ak} (h : likeK xs ys) (s : Int) : (findS s xs).map Ak.bare = (findS s ys).map Ak.bare := by
  rw [← findS_bare, ← findS_bare, show xs.map Ak.bare = ys.map Ak.bare from h]
theorem heldK_bare (s : Int) (l : List Ak) : heldK s l = match (findS s l).map Ak.bare with | some x => x.held | none => false := by
  unfold heldK
  cases findS s l <;> rfl
theorem likeK.held {xs ys : List Ak} (h : likeK xs ys) (s : Int) : heldK s xs = heldK s ys := by
  rw [heldK_bare, heldK_bare, h.find]
theorem waitsK_bare (s : Int) (l : List Ak) : waitsK s l = match (findS s l).map Ak.bare with | some x => if x.held then (0, false) else (x.since, true) | none => (0, false) := by
  unfold waitsK
  cases findS s l <;> rfl
theorem likeK.waits {xs ys : List Ak} (h : likeK xs ys) (s : Int) : waitsK s xs = waitsK s ys := by
  rw [waitsK_bare, waitsK_bare, h.find]
theorem wantsK_bare (s : Int) (l : List Ak) : wantsK s l = match (findS s l).map Ak.bare with | some x => x.W | none => [] := by
  unfold wantsK
  cases findS s l <;> rfl
theorem likeK.wants {xs ys : List Ak} (h : likeK xs ys) (s : Int) : wantsK s xs = wantsK s ys := by
  rw [wantsK_bare, wantsK_bare, h.find]
theorem ofK_bare (t : List UInt8) : ∀ l : List Ak, ofK t (l.map Ak.bare) = ofK t l
  | [] => rfl
  | x :: r => by
    rw [List.map_cons, ofK, ofK, ofK_bare t r]
    rfl
theorem likeK.of {xs ys : List Ak} (h : likeK xs ys) (t : List UInt8) : ofK t xs = ofK t ys := by
  rw [← ofK_bare, ← ofK_bare t ys, show xs.map Ak.bare = ys.map Ak.bare from h]


/-- What settling cannot turn: an ask but for whether it is held. -/
theorem goK_map {β : Type} (f : Ak → β) (hf : ∀ x, f x.on = f x) : ∀ (r pre : List Ak), (goK pre r).1.map f = pre.map f ++ r.map f
  | [], pre => by simp [goK]
  | a :: r, pre => by
    rw [goK]
    split
    · rw [goK_map f hf r (pre ++ [a])]; simp
    · simp only [goK_map f hf r (pre ++ [a.on])]; simp [hf]
theorem settleK_map {β : Type} (f : Ak → β) (hf : ∀ x, f x.on = f x) (l : List Ak) : ((settleK l).1.map f).Perm (l.map f) := by
  unfold settleK
  have h1 := (ordK_perm (goK [] (ordK l)).1).map f
  rw [goK_map f hf] at h1
  exact h1.trans (by simpa using (ordK_perm l).map f)
theorem settleK_all (p : Ak → Prop) (hp : ∀ x, p x → p x.on) (l : List Ak) (h : ∀ x ∈ l, p x) : ∀ x ∈ (settleK l).1, p x := by
  have hg : ∀ (r pre : List Ak), (∀ x ∈ pre, p x) → (∀ x ∈ r, p x) → ∀ x ∈ (goK pre r).1, p x := by
    intro r
    induction r with
    | nil => intro pre h1 _; exact h1
    | cons a r ih =>
      intro pre h1 h2
      rw [goK]
      split
      · exact ih _ (fun x hx => by
          rcases List.mem_append.1 hx with hx | hx
          · exact h1 x hx
          · rw [List.mem_singleton.1 hx]; exact h2 a (by simp)) (fun x hx => h2 x (by simp [hx]))
      · exact ih _ (fun x hx => by
          rcases List.mem_append.1 hx with hx | hx
          · exact h1 x hx
          · rw [List.mem_singleton.1 hx]; exact hp a (h2 a (by simp))) (fun x hx => h2 x (by simp [hx]))
  intro x hx
  unfold settleK at hx
  exact hg (ordK l) [] (by simp) (fun y hy => h y (mem_ordK.1 hy)) x (mem_ordK.1 hx)
theorem settleK_s (l : List Ak) : ((settleK l).1.map (·.s)).Perm (l.map (·.s)) := settleK_map _ (fun _ => rfl) l
theorem settleK_nodup {l : List Ak} (h : (l.map (·.s)).Nodup) : ((settleK l).1.map (·.s)).Nodup := (settleK_s l).nodup_iff.2 h
theorem settleK_wf {l : List Ak} (h : ∀ x ∈ l, x.Wf) : ∀ x ∈ (settleK l).1, x.Wf := settleK_all Ak.Wf (fun x h => h) l h


/-- The ask that comes, without a place. -/
def newZ (s now wait : Int) (first : Bool) (ws : List Wt) : Ak := ⟨s, now, wait, first, false, ws, none, 0, 0⟩
theorem newZ_bare (s now wait : Int) (first : Bool) (ws : List Wt) (D : Option Addr) (m d : Nat) : (newAk s now wait first ws D m d).bare = newZ s now wait first ws := rfl
def askF (now s wait : Int) (first : Bool) (ws : List Wt) (zs : List Ak) : List Ak × Bool × Int :=
  if askedK s wait ws zs = 0 then ((settleK (zs ++ [newZ s now wait first ws])).1, heldK s (settleK (zs ++ [newZ s now wait first ws])).1, 0) else (zs, false, askedK s wait ws zs)
def relF (s : Int) (zs : List Ak) : List Ak × List Int × Int :=
  if relK s zs = 0 then ((settleK (zs.eraseP (isS s))).1, (settleK (zs.eraseP (isS s))).2, 0) else (zs, [], relK s zs)
def tickF (now : Int) (zs : List Ak) : List Ak × List Int × List Int := ((settleK (stayK (now + 1) zs)).1, hsK (now + 1) zs, (settleK (stayK (now + 1) zs)).2)

theorem bare_bare (x : Ak) : x.bare.bare = x.bare := rfl
theorem like_bare (xs : List Ak) : likeK xs (xs.map Ak.bare) := by unfold likeK; rw [List.map_map]; rfl
/-- A list without places. -/
def bareL (zs : List Ak) : Prop := zs.map Ak.bare = zs
theorem bareL_map (xs : List Ak) : bareL (xs.map Ak.bare) := by unfold bareL; rw [List.map_map]; rfl
theorem settle_map (l : List Ak) : (settleK l).1.map Ak.bare = (settleK (l.map Ak.bare)).1 ∧ (settleK l).2 = (settleK (l.map Ak.bare)).2 := by rw [settleK_bare]; exact ⟨rfl, rfl⟩
theorem askF_ok {now s wait : Int} {first : Bool} {ws : List Wt} {xs : List Ak} (D : Option Addr) (m d : Nat) (h : askedK s wait ws xs = 0) :
    askF now s wait first ws (xs.map Ak.bare) = (((settleK (xs ++ [newAk s now wait first ws D m d])).1).map Ak.bare, heldK s (settleK (xs ++ [newAk s now wait first ws D m d])).1, 0) := by
  have h' : askedK s wait ws (xs.map Ak.bare) = 0 := by rw [← (like_bare xs).asked]; exact h
  unfold askF
  rw [if_pos h', (like_bare (settleK (xs ++ [newAk s now wait first ws D m d])).1).held s, (settle_map _).1, List.map_append]
  rfl
theorem askF_no {now s wait : Int} {first : Bool} {ws : List Wt} {xs : List Ak} (h : askedK s wait ws xs ≠ 0) :
    askF now s wait first ws (xs.map Ak.bare) = (xs.map Ak.bare, false, askedK s wait ws xs) := by
  have h' : askedK s wait ws (xs.map Ak.bare) = askedK s wait ws xs := ((like_bare xs).asked s wait ws).symm
  unfold askF
  rw [h', if_neg h]
theorem relF_ok {s : Int} {xs : List Ak} (h : relK s xs = 0) : relF s (xs.map Ak.bare) = ((settleK (xs.eraseP (isS s))).1.map Ak.bare, (settleK (xs.eraseP (isS s))).2, 0) := by
  have h' : relK s (xs.map Ak.bare) = 0 := by rw [← (like_bare xs).rel]; exact h
  unfold relF
  rw [if_pos h', eraseP_bare _ (fun _ => rfl), (settle_map _).1, (settle_map (xs.eraseP (isS s))).2]
theorem relF_no {s : Int} {xs : List Ak} (h : relK s xs ≠ 0) : relF s (xs.map Ak.bare) = (xs.map Ak.bare, [], relK s xs) := by
  have h' : relK s (xs.map Ak.bare) = relK s xs := ((like_bare xs).rel s).symm
  unfold relF
  rw [h', if_neg h]
theorem tickF_eq (now : Int) (xs : List Ak) : tickF now (xs.map Ak.bare) = ((settleK (stayK (now + 1) xs)).1.map Ak.bare, hsK (now + 1) xs, (settleK (stayK (now + 1) xs)).2) := by
  have e : stayK (now + 1) (xs.map Ak.bare) = (stayK (now + 1) xs).map Ak.bare := filter_bare _ (fun _ => rfl) xs
  unfold tickF
  rw [e, (settle_map _).1, (settle_map (stayK (now + 1) xs)).2, ((like_bare xs).over (now + 1))]

/-- What states keep. -/
structure IZ (zs : List Ak) : Prop where
  nd : (zs.map (·.s)).Nodup
  th : ∀ x ∈ zs, thereK x.s = true
  wf : ∀ x ∈ zs, x.Wf
  w8 : ∀ x ∈ zs, x.W.length ≤ 8
theorem IZ.nil : IZ [] := ⟨by simp, by simp, by simp, by simp⟩
theorem len_of_nodup : ∀ (k : Nat) (l : List Int), l.Nodup → (∀ x ∈ l, 1 ≤ x ∧ x ≤ k) → l.length ≤ k
  | 0, l, _, h => by
    cases l with
    | nil => simp
    | cons a r => have := h a (by simp); omega
  | k + 1, l, hn, h => by
    have h1 := len_of_nodup k (l.erase ((k : Int) + 1)) (hn.erase _) (fun x hx => by
      have h2 := h x (List.mem_of_mem_erase hx)
      have h3 : x ≠ (k : Int) + 1 := fun e => by
        subst e
        exact (List.Nodup.not_mem_erase hn) hx
      push_cast at h2
      omega)
    have h2 : l.length ≤ (l.erase ((k : Int) + 1)).length + 1 := by
      rw [List.length_erase]
      split <;> omega
    omega
theorem IZ.len {zs : List Ak} (h : IZ zs) : zs.length ≤ 16 := by
  have := len_of_nodup 16 (zs.map (·.s)) h.nd (fun x hx => by
    obtain ⟨y, hy, rfl⟩ := List.mem_map.1 hx
    have := h.th y hy
    unfold thereK at this
    simp at this
    exact this)
  simpa using this
theorem IZ.settle {zs : List Ak} (h : IZ zs) : IZ (settleK zs).1 :=
  ⟨settleK_nodup h.nd, settleK_all (fun x => thereK x.s = true) (fun _ h => h) zs h.th, settleK_wf h.wf, settleK_all (fun x => x.W.length ≤ 8) (fun _ h => h) zs h.w8⟩
theorem IZ.sub {zs ys : List Ak} (h : IZ zs) (hs : ys.Sublist zs) : IZ ys :=
  ⟨h.nd.sublist (hs.map _), fun x hx => h.th x (hs.subset hx), fun x hx => h.wf x (hs.subset hx), fun x hx => h.w8 x (hs.subset hx)⟩
theorem IZ.snoc {zs : List Ak} (h : IZ zs) {now s wait : Int} {first : Bool} {ws : List Wt} (hk : askedK s wait ws zs = 0) (h0 : 0 ≤ now) (h1 : now ≤ 1000000) : IZ (zs ++ [newZ s now wait first ws]) := by
  unfold askedK at hk
  have hth : thereK s = true := by cases e : thereK s <;> simp [e] at hk ⊢
  have hwa : ¬ wait < 1 := by intro e; simp [e] at hk
  have hwb : ¬ 1000 < wait := by intro e; simp [e] at hk
  have hrk : rightK ws = true := by cases e : rightK ws <;> simp [e] at hk ⊢
  have hno : zs.any (isS s) = false := by

    cases e : zs.any (isS s) <;> simp [hth, hwa, hwb, hrk, e] at hk ⊢
  have h8 : ws.length ≤ 8 := by unfold rightK at hrk; simp at hrk; omega
  refine ⟨?_, fun x hx => ?_, fun x hx => ?_, fun x hx => ?_⟩
  · rw [List.map_append, List.nodup_append]
    refine ⟨h.nd, by simp, fun a ha b hb e => ?_⟩
    simp [newZ] at hb
    subst hb
    subst e
    obtain ⟨y, hy, e⟩ := List.mem_map.1 ha
    have : zs.any (isS a) = true := List.any_eq_true.2 ⟨y, hy, by simp [isS, e]⟩

    rw [hno] at this
    cases this
  · rcases List.mem_append.1 hx with hx | hx
    · exact h.th x hx
    · rw [List.mem_singleton.1 hx]; exact hth
  · rcases List.mem_append.1 hx with hx | hx
    · exact h.wf x hx
    · rw [List.mem_singleton.1 hx]
      refine ⟨h0, h1, ?_, ?_⟩ <;> simp [newZ] <;> omega
  · rcases List.mem_append.1 hx with hx | hx
    · exact h.w8 x hx
    · rw [List.mem_singleton.1 hx]; exact h8
theorem IZ.ask {zs : List Ak} (h : IZ zs) (now s wait : Int) (first : Bool) (ws : List Wt) (h0 : 0 ≤ now) (h1 : now ≤ 1000000) : IZ (askF now s wait first ws zs).1 := by
  unfold askF
  split
  · rename_i hk
    exact (h.snoc hk h0 h1).settle
  · exact h
theorem IZ.rel {zs : List Ak} (h : IZ zs) (s : Int) : IZ (relF s zs).1 := by
  unfold relF
  split
  · exact (h.sub List.eraseP_sublist).settle
  · exact h
theorem IZ.tick {zs : List Ak} (h : IZ zs) (now : Int) : IZ (tickF now zs).1 := (h.sub List.filter_sublist).settle
theorem IZ.ofBare {xs : List Ak} (h : IZ (xs.map Ak.bare)) : IZ xs := by
  refine ⟨?_, fun x hx => h.th x.bare (List.mem_map_of_mem hx), fun x hx => h.wf x.bare (List.mem_map_of_mem hx), fun x hx => h.w8 x.bare (List.mem_map_of_mem hx)⟩
  have := h.nd
  rw [List.map_map] at this
  exact this
end Go.Proofs.YtnjhhibjcfjhnaaDoor
