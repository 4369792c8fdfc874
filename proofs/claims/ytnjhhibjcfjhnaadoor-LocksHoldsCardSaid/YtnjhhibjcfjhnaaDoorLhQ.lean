/- Plain, the stage's theorem: what each act keeps, and that the law's test is met behind it. -/
import Derived.Test.YtnjhhibjcfjhnaaDoorLhP
namespace Go.Proofs.YtnjhhibjcfjhnaaDoor
set_option linter.unusedVariables false

def ci (came : Nat → Int) : Int → Int := fun s => came s.toNat
theorem find_mem {s : Int} {zs : List Ak} {x : Ak} (h : findS s zs = some x) : x ∈ zs ∧ x.s = s := by
  unfold findS at h
  have h1 := List.find?_some h
  exact ⟨List.mem_of_find?_eq_some h, by simpa [isS] using h1⟩
theorem find_of : ∀ {zs : List Ak} (hn : (zs.map (·.s)).Nodup) {x : Ak}, x ∈ zs → findS x.s zs = some x
  | [], _, x, h => by simp at h
  | a :: r, hn, x, h => by
    rw [List.map_cons, List.nodup_cons] at hn
    unfold findS
    rw [List.find?_cons]
    rcases List.mem_cons.1 h with rfl | h
    · simp [isS]
    · have hne : isS x.s a = false := by
        unfold isS
        simp
        intro e
        exact hn.1 (List.mem_map.2 ⟨x, h, e.symm⟩)
      rw [hne]
      exact find_of hn.2 h
theorem held_mem {s : Int} {zs : List Ak} (h : heldK s zs = true) : ∃ x ∈ zs, x.s = s ∧ x.held = true ∧ wantsK s zs = x.W := by
  unfold heldK at h
  cases e : findS s zs with
  | none => rw [e] at h; cases h
  | some x =>
    rw [e] at h
    exact ⟨x, (find_mem e).1, (find_mem e).2, h, by unfold wantsK; rw [e]⟩
theorem waits_mem {s : Int} {zs : List Ak} (h : (waitsK s zs).2 = true) : ∃ x ∈ zs, x.s = s ∧ x.held = false ∧ (waitsK s zs).1 = x.since ∧ wantsK s zs = x.W ∧ heldK s zs = false := by
  unfold waitsK at h ⊢
  cases e : findS s zs with
  | none => rw [e] at h; cases h
  | some x =>
    rw [e] at h
    simp only at h ⊢
    cases hh : x.held with
    | true => rw [hh] at h; simp at h
    | false => exact ⟨x, (find_mem e).1, (find_mem e).2, hh, by simp, by unfold wantsK; rw [e], by unfold heldK; rw [e]; exact hh⟩
theorem wants_mem {s : Int} {zs : List Ak} {l : List Wt} (h : ag (wantsK s zs) l = true) : ∃ x ∈ zs, x.s = s ∧ wantsK s zs = x.W ∧ heldK s zs = x.held := by
  unfold wantsK at h ⊢
  cases e : findS s zs with
  | none => rw [e] at h; simp [ag] at h
  | some x => exact ⟨x, (find_mem e).1, (find_mem e).2, rfl, by unfold heldK; rw [e]⟩
theorem held_of {zs : List Ak} (hn : (zs.map (·.s)).Nodup) {x : Ak} (hx : x ∈ zs) : heldK x.s zs = x.held ∧ wantsK x.s zs = x.W ∧ ((waitsK x.s zs).2 = !x.held) := by
  have e := find_of hn hx
  refine ⟨by unfold heldK; rw [e], by unfold wantsK; rw [e], ?_⟩
  unfold waitsK
  rw [e]
  cases hh : x.held <;> simp [hh]
theorem pw_sym {α : Type} {R : α → α → Prop} (hs : ∀ {x y}, R x y → R y x) : ∀ {l : List α}, l.Pairwise R → ∀ x ∈ l, ∀ y ∈ l, x ≠ y → R x y
  | [], _, x, hx, _, _, _ => by simp at hx
  | a :: r, h, x, hx, y, hy, hne => by
    obtain ⟨h1, h2⟩ := List.pairwise_cons.1 h
    rcases List.mem_cons.1 hx with rfl | hx'
    · rcases List.mem_cons.1 hy with rfl | hy'
      · exact absurd rfl hne
      · exact h1 y hy'
    · rcases List.mem_cons.1 hy with rfl | hy'
      · exact hs (h1 x hx')
      · exact pw_sym hs h2 x hx' y hy' hne
/-- What is kept, act by act. -/
structure HI (i : Nat) (now : Int) (came : Nat → Int) (first : Nat → Bool) (zs : List Ak) : Prop where
  iz : IZ zs
  hz : HZ (ci came) zs
  fst : ∀ x ∈ zs, first x.s.toNat = x.first
  lim : ∀ x ∈ zs, ci came x.s ≤ i
  tim : ∀ x ∈ zs, x.held = false → now - x.since < x.wait
  wai : ∀ x ∈ zs, x.wait ≤ 1000
  n0 : 0 ≤ now
  nk : now ≤ i
theorem thereK_iff {s : Int} : thereK s = true ↔ 1 ≤ s ∧ s ≤ 16 := by unfold thereK; simp
theorem HI.good {i : Nat} {now : Int} {came : Nat → Int} {first : Nat → Bool} {zs zs0 : List Ak} (h : HI i now came first zs) (hi : i ≤ 100) (hn : ∀ x ∈ zs, Nk (ci came) (fun s => heldK s zs0) zs x) : Good now came first zs0 zs := by
  have nd := h.iz.nd
  refine ⟨fun a b a1 a2 b1 b2 hab hag ha => ?_, fun a b a1 a2 b1 b2 hab hag ha ha0 hb => ?_, fun a a1 a2 ha => ?_, fun a a1 a2 ha => ?_⟩
  · obtain ⟨x, hx, ex, hxh, wx⟩ := held_mem ha
    rw [ag_comm] at hag
    obtain ⟨y, hy, ey, wy, hyh⟩ := wants_mem hag
    rw [hyh]
    cases hh : y.held with
    | false => rfl
    | true =>
      have hne : y ≠ x := fun e => by rw [e, ex] at ey; exact hab (by omega)
      have := pw_sym (fun h => Rh_symm h) h.hz.h y hy x hx hne hh hxh
      rw [wx, wy, this] at hag
      cases hag
  · obtain ⟨x, hx, ex, hxh, wx⟩ := held_mem ha
    obtain ⟨y, hy, ey, hyh, -, wy, hby⟩ := waits_mem hb
    have key := hn x hx hxh (by show heldK x.s zs0 = false; rw [ex]; exact ha0) y hy hyh
    have fx := h.fst x hx
    have fy := h.fst y hy
    rw [ex, Int.toNat_natCast] at fx
    rw [ey, Int.toNat_natCast] at fy
    unfold aheadF
    rw [hby, hb, Bool.false_or, Bool.true_and]
    cases hc : ((first b && !first a) || ((first a == first b) && decide (came b < came a))) with
    | false => rfl
    | true =>
      have hA : Ah (ci came) y x := by
        rw [Bool.or_eq_true] at hc
        rcases hc with hc | hc
        · left
          simp at hc
          exact ⟨by rw [← fy]; exact hc.1, by rw [← fx]; exact hc.2⟩
        · right
          simp at hc
          refine ⟨by rw [← fy, ← fx]; exact hc.1.symm, ?_⟩
          unfold ci
          rw [ex, ey, Int.toNat_natCast, Int.toNat_natCast]
          exact hc.2
      have := key hA
      rw [wx, wy, this] at hag
      cases hag
  · obtain ⟨y, hy, ey, hyh, -, wy, -⟩ := waits_mem ha
    obtain ⟨x, hx, hag, hne, hor⟩ := h.hz.b y hy hyh
    have hxt := thereK_iff.1 (h.iz.th x hx)
    have hxs := held_of nd hx
    have fx := h.fst x hx
    have fy := h.fst y hy
    rw [ey, Int.toNat_natCast] at fy
    refine List.any_eq_true.2 ⟨x.s.toNat - 1, by simp; omega, ?_⟩
    have e1 : x.s.toNat - 1 + 1 = x.s.toNat := by omega
    have e2 : ((x.s.toNat : Nat) : Int) = x.s := by omega
    rw [e1]
    unfold condF aheadF
    rw [e2, hxs.1, hxs.2.1, hxs.2.2, wy, hag]
    have hd : decide (a = x.s.toNat) = false := by
      simp
      intro e
      apply hne
      rw [ey]
      omega
    rw [hd]
    rcases hor with hh | ⟨hh, hA⟩
    · simp [hh]
    · rcases hA with ⟨h1, h2⟩ | ⟨h1, h2⟩
      · simp [hh, fx, fy, h1, h2]
      · unfold ci at h2
        rw [ey, Int.toNat_natCast] at h2
        simp [hh, fx, fy, h1, h2]
  · obtain ⟨y, hy, ey, hyh, es, -, -⟩ := waits_mem ha
    have h1 := h.tim y hy hyh
    have h2 := h.wai y hy
    have h3 := h.iz.wf y hy
    have h4 := h.n0
    have h5 := h.nk
    rw [es]
    refine ⟨h4, by omega, h3.1, h3.2.1, by omega⟩
/-- Nothing has become held. -/
theorem Nk_same {came : Int → Int} {zs : List Ak} (hn : (zs.map (·.s)).Nodup) : ∀ x ∈ zs, Nk came (fun s => heldK s zs) zs x := fun x hx h1 h2 => by
  have h2 : heldK x.s zs = false := h2
  rw [(held_of hn hx).1, h1] at h2
  cases h2
theorem HI.up {i : Nat} {now : Int} {came : Nat → Int} {first : Nat → Bool} {zs : List Ak} (h : HI i now came first zs) : HI (i + 1) now came first zs :=
  ⟨h.iz, h.hz, h.fst, fun x hx => by have := h.lim x hx; push_cast; omega, h.tim, h.wai, h.n0, by have := h.nk; push_cast; omega⟩
theorem HI.settle {i : Nat} {now now' : Int} {came came' : Nat → Int} {first first' : Nat → Bool} {zs0 L : List Ak} (h : HI i now came first zs0) (hi : IZ L) (hp : L.Pairwise (Rp (ci came'))) (hh : L.Pairwise Rh) (ho : ∀ x ∈ L, x.held = true → x ∈ zs0) (hf : ∀ x ∈ L, first' x.s.toNat = x.first) (hl : ∀ x ∈ L, ci came' x.s ≤ (i : Int) + 1)
    (ht : ∀ x ∈ L, x.held = false → now' - x.since < x.wait) (hw : ∀ x ∈ L, x.wait ≤ 1000) (h0 : 0 ≤ now') (h1 : now' ≤ (i : Int) + 1) :
    HI (i + 1) now' came' first' (settleK L).1 ∧ ∀ x ∈ (settleK L).1, Nk (ci came') (fun s => heldK s zs0) (settleK L).1 x := by
  obtain ⟨g1, g2⟩ := settle_H (N := fun s => heldK s zs0) hp hh hi.nd (fun x hx hx2 => by
    show heldK x.s zs0 = true
    rw [(held_of h.iz.nd (ho x hx hx2)).1]; exact hx2)
  exact ⟨⟨hi.settle, g1, settleK_all (fun x => first' x.s.toNat = x.first) (fun _ h => h) L hf, settleK_all (fun x => ci came' x.s ≤ ((i + 1 : Nat) : Int)) (fun _ h => h) L (by push_cast; exact hl),
    settleK_all (fun x => x.held = false → now' - x.since < x.wait) (fun x _ h => by cases h) L ht, settleK_all (fun x => x.wait ≤ 1000) (fun _ h => h) L hw, h0, by push_cast; exact h1⟩, g2⟩
def cameN (came : Nat → Int) (s : Int) (i : Nat) : Nat → Int := fun k => if k = s.toNat then (i : Int) + 1 else came k
def firstN (first : Nat → Bool) (s : Int) (f : Bool) : Nat → Bool := fun k => if k = s.toNat then f else first k
theorem HI.ask {i : Nat} {now : Int} {came : Nat → Int} {first : Nat → Bool} {zs : List Ak} (h : HI i now came first zs) (hi : i ≤ 60) (s wait : Int) (f : Bool) (ws : List Wt) :
    ((askF now s wait f ws zs).2.2 = 0 ∧ 1 ≤ s ∧ s ≤ 16 ∧ HI (i + 1) now (cameN came s i) (firstN first s f) (askF now s wait f ws zs).1 ∧ Good now (cameN came s i) (firstN first s f) zs (askF now s wait f ws zs).1) ∨
    ((askF now s wait f ws zs).2.2 ≠ 0 ∧ HI (i + 1) now came first (askF now s wait f ws zs).1 ∧ Good now came first zs (askF now s wait f ws zs).1) := by
  have h0 := h.n0
  have h1 := h.nk
  by_cases hk : askedK s wait ws zs = 0
  · left
    have hiz := h.iz.snoc (first := f) hk h0 (by omega)
    unfold askF
    rw [if_pos hk]
    have hk' := hk
    unfold askedK at hk'
    have hth : thereK s = true := by cases e : thereK s <;> simp [e] at hk' ⊢
    have hwb : ¬ 1000 < wait := by intro e; simp [e] at hk'
    have hwa : ¬ wait < 1 := by intro e; simp [e] at hk'
    have hs := thereK_iff.1 hth
    have hne : ∀ x ∈ zs, x.s.toNat ≠ s.toNat := fun x hx e => by
      have hxt := thereK_iff.1 (h.iz.th x hx)
      have hno := hiz.nd
      rw [List.map_append, List.nodup_append] at hno
      exact hno.2.2 x.s (List.mem_map_of_mem hx) s (by simp [newZ]) (by omega)
    have hc : ∀ x ∈ zs, ci (cameN came s i) x.s = ci came x.s := fun x hx => by
      unfold ci cameN
      rw [if_neg (hne x hx)]
    have hcs : ci (cameN came s i) s = (i : Int) + 1 := by unfold ci cameN; rw [if_pos rfl]
    have key := h.settle (now' := now) (came' := cameN came s i) (first' := firstN first s f) hiz ?_ ?_ ?_ ?_ ?_ ?_ ?_ h0 (by omega)
    · exact ⟨rfl, hs.1, hs.2, key.1, key.1.good (by omega) key.2⟩
    · refine pw_app.2 ⟨h.hz.p.imp_of_mem (fun {x y} hx hy q k1 k2 k3 => ?_), by simp, fun x hx y hy => ?_⟩
      · rw [hc x hx, hc y hy]
        exact q k1 k2 k3
      · rw [List.mem_singleton.1 hy]
        intro _ _ _
        show ci (cameN came s i) x.s < ci (cameN came s i) s
        rw [hc x hx, hcs]
        have := h.lim x hx
        omega
    · refine pw_app.2 ⟨h.hz.h, by simp, fun x hx y hy => ?_⟩
      rw [List.mem_singleton.1 hy]
      exact fun _ k => by cases k
    · intro x hx hxh
      rcases List.mem_append.1 hx with hx | hx
      · exact hx
      · rw [List.mem_singleton.1 hx] at hxh
        cases hxh
    · intro x hx
      rcases List.mem_append.1 hx with hx | hx
      · unfold firstN
        rw [if_neg (hne x hx)]
        exact h.fst x hx
      · rw [List.mem_singleton.1 hx]
        unfold firstN
        exact if_pos rfl
    · intro x hx
      rcases List.mem_append.1 hx with hx | hx
      · rw [hc x hx]
        have := h.lim x hx
        omega
      · rw [List.mem_singleton.1 hx]
        show ci (cameN came s i) s ≤ _
        rw [hcs]
        omega
    · intro x hx hxh
      rcases List.mem_append.1 hx with hx | hx
      · exact h.tim x hx hxh
      · rw [List.mem_singleton.1 hx]
        simp only [newZ]
        omega
    · intro x hx
      rcases List.mem_append.1 hx with hx | hx
      · exact h.wai x hx
      · rw [List.mem_singleton.1 hx]
        simp only [newZ]
        omega
  · right
    unfold askF
    rw [if_neg hk]
    exact ⟨hk, h.up, h.up.good (by omega) (Nk_same h.iz.nd)⟩
theorem HI.same {i : Nat} {now : Int} {came : Nat → Int} {first : Nat → Bool} {zs : List Ak} (h : HI i now came first zs) (hi : i ≤ 60) : HI (i + 1) now came first zs ∧ Good now came first zs zs := ⟨h.up, h.up.good (by omega) (Nk_same h.iz.nd)⟩
theorem HI.sub {i : Nat} {now now' : Int} {came : Nat → Int} {first : Nat → Bool} {zs L : List Ak} (h : HI i now came first zs) (hi : i ≤ 60) (hs : L.Sublist zs) (ht : ∀ x ∈ L, x.held = false → now' - x.since < x.wait) (h0 : 0 ≤ now') (h1 : now' ≤ (i : Int) + 1) :
    HI (i + 1) now' came first (settleK L).1 ∧ Good now' came first zs (settleK L).1 := by
  have key := h.settle (now' := now') (came' := came) (first' := first) (h.iz.sub hs) (h.hz.p.sublist hs) (h.hz.h.sublist hs) (fun x hx _ => hs.subset hx) (fun x hx => h.fst x (hs.subset hx)) (fun x hx => by have := h.lim x (hs.subset hx); omega) ht (fun x hx => h.wai x (hs.subset hx)) h0 h1
  exact ⟨key.1, key.1.good (by omega) key.2⟩
theorem HI.rel {i : Nat} {now : Int} {came : Nat → Int} {first : Nat → Bool} {zs : List Ak} (h : HI i now came first zs) (hi : i ≤ 60) (s : Int) : HI (i + 1) now came first (relF s zs).1 ∧ Good now came first zs (relF s zs).1 := by
  unfold relF
  split
  · exact h.sub hi List.eraseP_sublist (fun x hx => h.tim x (List.eraseP_sublist.subset hx)) h.n0 (by have := h.nk; omega)
  · exact h.same hi
theorem HI.tick {i : Nat} {now : Int} {came : Nat → Int} {first : Nat → Bool} {zs : List Ak} (h : HI i now came first zs) (hi : i ≤ 60) : HI (i + 1) (now + 1) came first (tickF now zs).1 ∧ Good (now + 1) came first zs (tickF now zs).1 := by
  refine h.sub hi List.filter_sublist (fun x hx hxh => ?_) (by have := h.n0; omega) (by have := h.nk; omega)
  have := (List.mem_filter.1 hx).2
  unfold lateK at this
  rw [hxh] at this
  simp at this
  omega
theorem HI.nil : HI 0 0 (fun _ => 0) (fun _ => false) [] := ⟨IZ.nil, ⟨by simp, by simp, by simp⟩, by simp, by simp, by simp, by simp, by decide, by decide⟩
end Go.Proofs.YtnjhhibjcfjhnaaDoor
