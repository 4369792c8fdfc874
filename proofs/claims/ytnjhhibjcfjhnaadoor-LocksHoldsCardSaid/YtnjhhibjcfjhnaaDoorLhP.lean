/- Plain, the stage's theorem: what settling keeps of the order, of who is against whom, and of who became held. -/
import Derived.Test.YtnjhhibjcfjhnaaDoorLwZ
namespace Go.Proofs.YtnjhhibjcfjhnaaDoor
set_option linter.unusedVariables false

theorem hit_comm (x y : Wt) : hit x y = hit y x := by
  unfold hit
  rw [Bool.or_comm, show decide (x.t = y.t) = decide (y.t = x.t) from by simp [eq_comm]]
theorem ag_comm (a b : List Wt) : ag a b = ag b a := by
  rw [Bool.eq_iff_iff]
  unfold ag
  simp only [List.any_eq_true]
  constructor
  · rintro ⟨x, hx, y, hy, h⟩
    exact ⟨y, hy, x, hx, by rw [hit_comm]; exact h⟩
  · rintro ⟨x, hx, y, hy, h⟩
    exact ⟨y, hy, x, hx, by rw [hit_comm]; exact h⟩
section
variable (came : Int → Int) (N : Int → Bool)
/-- Is one that waits ahead of another one that waits? -/
def Ah (x y : Ak) : Prop := (x.first = true ∧ y.first = false) ∨ (x.first = y.first ∧ came x.s < came y.s)
theorem Ah.asymm {x y : Ak} (h : Ah came x y) (k : Ah came y x) : False := by
  rcases h with ⟨h1, h2⟩ | ⟨h1, h2⟩ <;> rcases k with ⟨k1, k2⟩ | ⟨k1, k2⟩
  · rw [h2] at k1; cases k1
  · rw [h2, h1] at k1; cases k1
  · rw [k1, k2] at h1; cases h1
  · omega
def Rp (x y : Ak) : Prop := x.held = false → y.held = false → x.first = y.first → came x.s < came y.s
def Rw (x y : Ak) : Prop := x.held = false → y.held = false → Ah came x y
def Rh (x y : Ak) : Prop := x.held = true → y.held = true → ag x.W y.W = false
def Rs (x y : Ak) : Prop := y.held = true → x.held = true
def Bk (M : List Ak) (y : Ak) : Prop := y.held = false → ∃ x ∈ M, ag y.W x.W = true ∧ x.s ≠ y.s ∧ (x.held = true ∨ (x.held = false ∧ Ah came x y))
def Nk (M : List Ak) (x : Ak) : Prop := x.held = true → N x.s = false → ∀ y ∈ M, y.held = false → Ah came y x → ag x.W y.W = false

structure GI (pre r : List Ak) : Prop where
  w : (pre ++ r).Pairwise (Rw came)
  h : (pre ++ r).Pairwise Rh
  s : r.Pairwise Rs
  b : ∀ y ∈ pre, Bk came pre y
  n : ∀ x ∈ pre, Nk came N (pre ++ r) x
  o : ∀ x ∈ r, x.held = true → N x.s = true
  nd : ((pre ++ r).map (·.s)).Nodup
variable {came N}
theorem pw_app {α : Type} {R : α → α → Prop} {l₁ l₂ : List α} : (l₁ ++ l₂).Pairwise R ↔ l₁.Pairwise R ∧ l₂.Pairwise R ∧ ∀ a ∈ l₁, ∀ b ∈ l₂, R a b := List.pairwise_append
theorem Bk.wider {M M' : List Ak} {y : Ak} (h : Bk came M y) (hs : ∀ x ∈ M, x ∈ M') : Bk came M' y := fun hy => by
  obtain ⟨x, hx, q⟩ := h hy
  exact ⟨x, hs x hx, q⟩
theorem GI.stay {pre r : List Ak} {a : Ak} (h : GI came N pre (a :: r)) (ha : a.held = true ∨ pre.any (fun o => ag a.W o.W) = true) : GI came N (pre ++ [a]) r := by
  have e : pre ++ [a] ++ r = pre ++ a :: r := by simp
  refine ⟨by rw [e]; exact h.w, by rw [e]; exact h.h, (List.pairwise_cons.1 h.s).2, fun y hy => ?_, fun x hx => ?_, fun x hx => h.o x (List.mem_cons_of_mem _ hx), by rw [e]; exact h.nd⟩
  · rcases List.mem_append.1 hy with hy | hy
    · exact (h.b y hy).wider fun x hx => List.mem_append_left _ hx
    · rw [List.mem_singleton.1 hy]
      intro hf
      rcases ha with ha | ha
      · rw [ha] at hf; cases hf
      · obtain ⟨o, ho, hag⟩ := List.any_eq_true.1 ha
        refine ⟨o, List.mem_append_left _ ho, hag, fun e => ?_, ?_⟩
        · have := h.nd
          rw [List.map_append, List.nodup_append] at this
          exact this.2.2 o.s (List.mem_map_of_mem ho) a.s (by simp) e
        · cases hoh : o.held with
          | true => exact .inl rfl
          | false => exact .inr ⟨rfl, (pw_app.1 h.w).2.2 o ho a (by simp) hoh hf⟩
  · rw [e]
    rcases List.mem_append.1 hx with hx | hx
    · exact h.n x hx
    · rw [List.mem_singleton.1 hx]
      intro ht hN
      rw [h.o a (by simp) ht] at hN
      cases hN
theorem GI.go {pre r : List Ak} {a : Ak} (h : GI came N pre (a :: r)) (ha : a.held = false) (hp : pre.any (fun o => ag a.W o.W) = false) : GI came N (pre ++ [a.on]) r := by
  have e : pre ++ [a.on] ++ r = pre ++ a.on :: r := by simp
  have hq : ∀ o ∈ pre, ag a.W o.W = false := fun o ho => by
    cases hh : ag a.W o.W with
    | false => rfl
    | true => rw [List.any_eq_true.2 ⟨o, ho, hh⟩] at hp; cases hp
  have hr : ∀ y ∈ r, y.held = false := fun y hy => by
    have := (List.pairwise_cons.1 h.s).1 y hy
    cases hh : y.held with
    | false => rfl
    | true => rw [this hh] at ha; cases ha
  have hw := pw_app.1 h.w
  have hh := pw_app.1 h.h
  refine ⟨?_, ?_, (List.pairwise_cons.1 h.s).2, fun y hy => ?_, fun x hx => ?_, fun x hx => h.o x (List.mem_cons_of_mem _ hx), ?_⟩
  · rw [e]
    refine pw_app.2 ⟨hw.1, List.pairwise_cons.2 ⟨fun y hy h1 => (by cases h1), (List.pairwise_cons.1 hw.2.1).2⟩, fun x hx y hy => ?_⟩
    rcases List.mem_cons.1 hy with rfl | hy
    · exact fun _ h2 => by cases h2
    · exact hw.2.2 x hx y (List.mem_cons_of_mem _ hy)
  · rw [e]
    refine pw_app.2 ⟨hh.1, List.pairwise_cons.2 ⟨fun y hy _ h2 => (by rw [hr y hy] at h2; cases h2), (List.pairwise_cons.1 hh.2.1).2⟩, fun x hx y hy => ?_⟩
    rcases List.mem_cons.1 hy with rfl | hy
    · exact fun _ _ => by rw [ag_comm]; exact hq x hx
    · exact hh.2.2 x hx y (List.mem_cons_of_mem _ hy)
  · rcases List.mem_append.1 hy with hy | hy
    · exact (h.b y hy).wider fun x hx => List.mem_append_left _ hx
    · rw [List.mem_singleton.1 hy]
      exact fun hf => by cases hf
  · rw [e]
    rcases List.mem_append.1 hx with hx | hx
    · intro h1 h2 y hy h3
      rcases List.mem_append.1 hy with hy | hy
      · exact h.n x hx h1 h2 y (List.mem_append_left _ hy) h3
      · rcases List.mem_cons.1 hy with rfl | hy
        · cases h3
        · exact h.n x hx h1 h2 y (List.mem_append_right _ (List.mem_cons_of_mem _ hy)) h3
    · rw [List.mem_singleton.1 hx]
      intro _ _ y hy h3 h4
      rcases List.mem_append.1 hy with hy | hy
      · exact hq y hy
      · rcases List.mem_cons.1 hy with rfl | hy
        · cases h3
        · exact (Ah.asymm came ((List.pairwise_cons.1 hw.2.1).1 y hy ha h3) h4).elim
  · have := h.nd
    rw [e]
    simpa [Ak.on] using this
theorem GI.run : ∀ (r pre : List Ak), GI came N pre r → GI came N (goK pre r).1 []
  | [], pre, h => by rw [goK]; exact h
  | a :: r, pre, h => by
    rw [goK]
    split
    · rename_i hc
      simp only [Bool.or_eq_true] at hc
      exact GI.run r _ (h.stay hc)
    · rename_i hc
      simp only [Bool.or_eq_true, not_or, Bool.not_eq_true] at hc
      exact GI.run r _ (h.go hc.1 hc.2)

theorem rank0 {x : Ak} : x.rank = 0 ↔ x.held = true := by
  unfold Ak.rank
  cases x.held <;> cases x.first <;> simp
theorem rank1 {x : Ak} : x.rank = 1 ↔ x.held = false ∧ x.first = true := by
  unfold Ak.rank
  cases x.held <;> cases x.first <;> simp
theorem rank2 {x : Ak} : x.rank = 2 ↔ x.held = false ∧ x.first = false := by
  unfold Ak.rank
  cases x.held <;> cases x.first <;> simp
theorem ordK_pw {R R' : Ak → Ak → Prop} {l : List Ak} (h : l.Pairwise R) (h0 : ∀ x y, x.held = true → y.held = true → R x y → R' x y) (h1 : ∀ x y, x.held = false → x.first = true → y.held = false → y.first = true → R x y → R' x y)
    (h2 : ∀ x y, x.held = false → x.first = false → y.held = false → y.first = false → R x y → R' x y) (h3 : ∀ x y, x.held = true → y.held = false → R' x y) (h4 : ∀ x y, x.held = false → x.first = true → y.held = false → y.first = false → R' x y) :
    (ordK l).Pairwise R' := by
  have m : ∀ k x, x ∈ l.filter (isR k) → x.rank = k := fun k x hx => rank_of_filter hx
  have sub : ∀ k, (∀ x y, x.rank = k → y.rank = k → R x y → R' x y) → (l.filter (isR k)).Pairwise R' := fun k hk =>
    List.Pairwise.imp_of_mem (fun hx hy => hk _ _ (m k _ hx) (m k _ hy)) (h.sublist List.filter_sublist)
  unfold ordK
  refine pw_app.2 ⟨sub 0 fun x y hx hy => h0 x y (rank0.1 hx) (rank0.1 hy), pw_app.2 ⟨sub 1 fun x y hx hy => h1 x y (rank1.1 hx).1 (rank1.1 hx).2 (rank1.1 hy).1 (rank1.1 hy).2, sub 2 fun x y hx hy => h2 x y (rank2.1 hx).1 (rank2.1 hx).2 (rank2.1 hy).1 (rank2.1 hy).2, fun x hx y hy => ?_⟩, fun x hx y hy => ?_⟩
  · exact h4 x y (rank1.1 (m 1 x hx)).1 (rank1.1 (m 1 x hx)).2 (rank2.1 (m 2 y hy)).1 (rank2.1 (m 2 y hy)).2
  · rcases List.mem_append.1 hy with hy | hy
    · exact h3 x y (rank0.1 (m 0 x hx)) (rank1.1 (m 1 y hy)).1
    · exact h3 x y (rank0.1 (m 0 x hx)) (rank2.1 (m 2 y hy)).1
theorem Rh_symm {x y : Ak} (h : Rh x y) : Rh y x := fun h1 h2 => by rw [ag_comm]; exact h h2 h1

variable (came) in
/-- What states keep, with the order of coming. -/
structure HZ (zs : List Ak) : Prop where
  p : zs.Pairwise (Rp came)
  h : zs.Pairwise Rh
  b : ∀ y ∈ zs, Bk came zs y
theorem settle_H {L : List Ak} (hp : L.Pairwise (Rp came)) (hh : L.Pairwise Rh) (hn : (L.map (·.s)).Nodup) (ho : ∀ x ∈ L, x.held = true → N x.s = true) :
    HZ came (settleK L).1 ∧ ∀ x ∈ (settleK L).1, Nk came N (settleK L).1 x := by
  have hgi : GI came N [] (ordK L) := by
    refine ⟨?_, ?_, ?_, by simp, by simp, fun x hx => ho x (mem_ordK.1 hx), ?_⟩
    · refine ordK_pw hp ?_ ?_ ?_ ?_ ?_
      · exact fun x y h1 h2 _ h3 => by rw [h1] at h3; cases h3
      · exact fun x y h1 h2 h3 h4 h5 _ _ => .inr ⟨by rw [h2, h4], h5 h1 h3 (by rw [h2, h4])⟩
      · exact fun x y h1 h2 h3 h4 h5 _ _ => .inr ⟨by rw [h2, h4], h5 h1 h3 (by rw [h2, h4])⟩
      · exact fun x y h1 h2 h3 => by rw [h1] at h3; cases h3
      · exact fun x y h1 h2 h3 h4 _ _ => .inl ⟨h2, h4⟩
    · exact ((ordK_perm L).pairwise_iff (fun {x y} => Rh_symm)).2 hh
    · refine ordK_pw (R := fun _ _ => True) (List.pairwise_of_forall fun _ _ => trivial) ?_ ?_ ?_ ?_ ?_
      · exact fun x y h1 h2 _ _ => h1
      · exact fun x y h1 h2 h3 h4 _ h5 => by rw [h3] at h5; cases h5
      · exact fun x y h1 h2 h3 h4 _ h5 => by rw [h3] at h5; cases h5
      · exact fun x y h1 h2 h3 => h1
      · exact fun x y h1 h2 h3 h4 h5 => by rw [h3] at h5; cases h5
    · exact ((ordK_perm L).map _).nodup_iff.2 hn
  have g := hgi.run (ordK L) []
  unfold settleK
  generalize (goK [] (ordK L)).1 = M at *
  have gw := g.w
  have gh := g.h
  rw [List.append_nil] at gw gh
  refine ⟨⟨?_, ((ordK_perm M).pairwise_iff (fun {x y} => Rh_symm)).2 gh, fun y hy => (g.b y (mem_ordK.1 hy)).wider fun x hx => mem_ordK.2 hx⟩, fun x hx h1 h2 y hy => ?_⟩
  · refine ordK_pw gw ?_ ?_ ?_ ?_ ?_
    · exact fun x y h1 h2 _ h3 => by rw [h1] at h3; cases h3
    · intro x y h1 h2 h3 h4 h5 _ _ _
      rcases h5 h1 h3 with ⟨_, q⟩ | ⟨_, q⟩
      · rw [h4] at q; cases q
      · exact q
    · intro x y h1 h2 h3 h4 h5 _ _ _
      rcases h5 h1 h3 with ⟨q, _⟩ | ⟨_, q⟩
      · rw [h2] at q; cases q
      · exact q
    · exact fun x y h1 h2 h3 => by rw [h1] at h3; cases h3
    · exact fun x y h1 h2 h3 h4 _ _ h5 => by rw [h2, h4] at h5; cases h5
  · exact g.n x (mem_ordK.1 hx) h1 h2 y (by simpa using mem_ordK.1 hy)
end
def icl (f : Nat → Int) : Array Value := ((List.range 17).map fun k => Value.int .i64 (f k)).toArray
def bcl (f : Nat → Bool) : Array Value := ((List.range 17).map fun k => Value.bool (f k)).toArray
theorem icl_at (f : Nat → Int) (k : Nat) (h : k < 17) : (icl f)[k]? = some (.int .i64 (f k)) := by simp [icl, h]
theorem bcl_at (f : Nat → Bool) (k : Nat) (h : k < 17) : (bcl f)[k]? = some (.bool (f k)) := by simp [bcl, h]
def aheadF (came : Nat → Int) (first : Nat → Bool) (zs : List Ak) (a b : Nat) : Bool := heldK b zs || ((waitsK b zs).2 && ((first b && !first a) || ((first a == first b) && decide (came b < came a))))
def condF (came : Nat → Int) (first : Nat → Bool) (zs : List Ak) (a b : Nat) : Bool := !(decide (a = b)) && (ag (wantsK a zs) (wantsK b zs) && aheadF came first zs a b)
def blkF (came : Nat → Int) (first : Nat → Bool) (zs : List Ak) (a m : Nat) : Bool := (List.range m).any fun j => condF came first zs a (j + 1)
theorem blkF_succ (came : Nat → Int) (first : Nat → Bool) (zs : List Ak) (a m : Nat) : blkF came first zs a (m + 1) = (blkF came first zs a m || condF came first zs a (m + 1)) := by
  unfold blkF
  rw [List.range_succ, List.any_append]
  simp
structure Good (now : Int) (came : Nat → Int) (first : Nat → Bool) (zs0 zs : List Ak) : Prop where
  hh : ∀ a b : Nat, 1 ≤ a → a ≤ 16 → 1 ≤ b → b ≤ 16 → a ≠ b → ag (wantsK a zs) (wantsK b zs) = true → heldK a zs = true → heldK b zs = false
  nw : ∀ a b : Nat, 1 ≤ a → a ≤ 16 → 1 ≤ b → b ≤ 16 → a ≠ b → ag (wantsK a zs) (wantsK b zs) = true → heldK a zs = true → heldK a zs0 = false → (waitsK b zs).2 = true → aheadF came first zs a b = false
  bl : ∀ a : Nat, 1 ≤ a → a ≤ 16 → (waitsK a zs).2 = true → blkF came first zs a 16 = true
  ti : ∀ a : Nat, 1 ≤ a → a ≤ 16 → (waitsK a zs).2 = true → 0 ≤ now ∧ now ≤ 1000000 ∧ 0 ≤ (waitsK a zs).1 ∧ (waitsK a zs).1 ≤ 1000000 ∧ now - (waitsK a zs).1 < 1000
end Go.Proofs.YtnjhhibjcfjhnaaDoor
