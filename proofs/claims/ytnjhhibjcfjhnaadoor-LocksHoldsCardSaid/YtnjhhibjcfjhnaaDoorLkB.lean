/- Locks in memory: the words for a table of asks; at, Held, Waits, Wants, Now, New, Copy. -/
import Derived.Test.YtnjhhibjcfjhnaaDoorLkA
import Derived.Test.YtnjhhibjcfjhnaaDoorReg
namespace Go.Proofs.YtnjhhibjcfjhnaaDoor
open Go.RowKit
set_option linter.unusedVariables false

/-- What locks lie in a block: their time and asks; the asks' row, and each ask's wants, are rows of their own. -/
structure LK (w : World) (base B : Nat) (now : Int) (A : Option Addr) (n c : Nat) (xs : List Ak) : Prop where
  ge : base ≤ B
  box : w.heap[B]? = some (.cells #[.int .i64 now, .slice A n c] 69 (0, 0))
  own : Ov w base 74 6 A n c (acells xs)
  tabs : ∀ x ∈ xs, Ov w base 64 2 x.A x.n x.c (wcells x.W)
section
variable {w w' : World} {base B : Nat} {now : Int} {A : Option Addr} {n c : Nat} {xs : List Ak}
theorem LK.lt (h : LK w base B now A n c xs) : B < w.heap.size := (Array.getElem?_eq_some_iff.1 h.box).1
theorem LK.len (h : LK w base B now A n c xs) : xs.length = n := by
  have := h.own.1
  rw [acells_length] at this
  omega
theorem LK.below (h : LK w base B now A n c xs) (hb : Below w.heap.size w w') : LK w' base B now A n c xs :=
  ⟨h.ge, (hb.block B h.lt).trans h.box, h.own.below hb, fun x hx => (h.tabs x hx).below hb⟩
theorem LK.cells (h : LK w base B now A n c xs) : w.cell? ⟨B, 0, none⟩ = some (.int .i64 now) ∧ w.cell? ⟨B, 1, none⟩ = some (.slice A n c) := by
  have := h.box
  simp [World.cell?, this]
end
theorem LK.lessBase {w : World} {base base' B : Nat} {now : Int} {A : Option Addr} {n c : Nat} {xs : List Ak} (h : LK w base B now A n c xs) (hb : base' ≤ base) : LK w base' B now A n c xs :=
  ⟨Nat.le_trans hb h.ge, h.box, h.own.ge hb, fun x hx => (h.tabs x hx).ge hb⟩
def isS (s : Int) (x : Ak) : Bool := x.s == s
def findS (s : Int) (xs : List Ak) : Option Ak := xs.find? (isS s)
def heldK (s : Int) (xs : List Ak) : Bool := match findS s xs with | some x => x.held | none => false
def waitsK (s : Int) (xs : List Ak) : Int × Bool := match findS s xs with | some x => if x.held then (0, false) else (x.since, true) | none => (0, false)
def wantsK (s : Int) (xs : List Ak) : List Wt := match findS s xs with | some x => x.W | none => []

set_option maxRecDepth 100000 in
theorem At1_any (x : Ak) (s : Int) (B : Nat) (w : World) (hc : w.cell? ⟨B, 0, none⟩ = some (.int .i64 s)) :
    Calls Tryd.prog 58 #[.agg x.cells.toArray, .pointer (some ⟨B, 0, none⟩)] w fun e w' => e = .returned (.bool (isS s x)) ∧ Below w.heap.size w w' := by
  have hlt := World.block_lt_of_cell? _ _ hc
  obtain ⟨x0, x1, x2, x3, x4, x5, x6, x7, x8⟩ := x
  simp only [Ak.cells]
  go_enter Tryd.func58, Tryd.ntmps58
  go_wp2
  go_ret
  exact ⟨rfl, gr_alloc (Below.refl _ _) _⟩
theorem eAt1 : ∀ args w, (callFunc 58 args).run Tryd.prog w = .ok (.enter 58 args) w := enters_of Tryd.func58 (by kernel_rfl) rfl
set_option maxRecDepth 100000 in
theorem At_any {w : World} {base B : Nat} {now : Int} {A : Option Addr} {n c : Nat} {xs : List Ak} (h : LK w base B now A n c xs) (s : Int) :
    Calls Tryd.prog 33 #[.pointer (some ⟨B, 0, none⟩), .int .i64 s] w fun e w' => e = .returned (.int .i64 (idxL (isS s) xs)) ∧ Below w.heap.size w w' := by
  have hb : Below w.heap.size w (w.alloc (.cells #[.int .i64 s] 3)) := gr_alloc (Below.refl _ _) _
  have hc0 : (w.alloc (.cells #[.int .i64 s] 3)).cell? ⟨w.heap.size, 0, none⟩ = some (.int .i64 s) := by simp
  have h1 := h.below hb
  have hi := IdxA_any (isS s) _ #[.pointer (some ⟨w.heap.size, 0, none⟩)] eAt1 A n c xs _ h1.own.rv (fun W x _ hW => by
    have := At1_any x s w.heap.size W ((hW.cell (p := ⟨w.heap.size, 0, none⟩) (by simp)).trans hc0)
    exact this.mono fun e w' q => ⟨q.1, gr hW q.2⟩)
  have hcs := h1.cells
  replace hi := Lib.hid hi
  clear h h1 hc0
  go_enter Tryd.func33, Tryd.ntmps33
  go_wp2_with fail
  refine hi.out.mono ?_
  rintro e w1 ⟨rfl, hb1⟩
  clear hi
  go_wp2
  go_ret
  exact ⟨rfl, gr hb hb1⟩
set_option maxRecDepth 100000 in
theorem Now_any {w : World} {base B : Nat} {now : Int} {A : Option Addr} {n c : Nat} {xs : List Ak} (h : LK w base B now A n c xs) :
    Calls Tryd.prog 21 #[.pointer (some ⟨B, 0, none⟩)] w fun e w' => e = .returned (.int .i64 now) ∧ w = w' := by
  have hcs := h.cells
  clear h
  go_enter Tryd.func21, Tryd.ntmps21
  go_wp2
  go_ret
  exact ⟨rfl, rfl⟩
set_option maxRecDepth 100000 in
theorem New_any (w : World) : Calls Tryd.prog 9 #[] w fun e w' => e = .returned (.pointer (some ⟨w.heap.size, 0, none⟩)) ∧ LK w' w.heap.size w.heap.size 0 none 0 0 [] ∧ Below w.heap.size w w' := by
  go_enter Tryd.func9, Tryd.ntmps9
  go_wp2
  go_ret
  exact ⟨rfl, ⟨Nat.le_refl _, World.alloc_heap_new w _, Ov.nil _ _ _ _, fun x hx => by simp at hx⟩, gr_alloc (Below.refl _ _) _⟩

set_option maxRecDepth 100000 in
set_option maxHeartbeats 2000000 in
theorem Held_any {w : World} {base B : Nat} {now : Int} {A : Option Addr} {n c : Nat} {xs : List Ak} (h : LK w base B now A n c xs) (s : Int) (hn : n ≤ 100000) :
    Calls Tryd.prog 22 #[.pointer (some ⟨B, 0, none⟩), .int .i64 s] w fun e w' => e = .returned (.bool (heldK s xs)) ∧ Below w.heap.size w w' := by
  have hat := Lib.hid (At_any h s)
  have hK := Lib.hid (fun W (hW : Below w.heap.size w W) => h.below hW)
  have hln := h.len
  clear h
  rcases idxL_cases (isS s) xs with ⟨h1, h2⟩ | ⟨i, hi, h1, h2, h3, h4⟩
  · have hN : heldK s xs = false := by unfold heldK findS; rw [h2]
    rw [h1] at hat
    clear h1 h2
    replace hN := Lib.hid hN
    go_enter Tryd.func22, Tryd.ntmps22
    go_wp2_with fail
    refine hat.out.mono ?_
    rintro e w1 ⟨rfl, hb1⟩
    clear hat
    go_wp2
    go_ret
    exact ⟨by rw [hN.out]; rfl, hb1⟩
  · have hN : heldK s xs = xs[i].held := by unfold heldK findS; rw [h2]
    rw [h1] at hat
    clear h1 h2 h3 h4
    replace hN := Lib.hid hN
    go_enter Tryd.func22, Tryd.ntmps22
    go_wp2_with fail
    refine hat.out.mono ?_
    rintro e w1 ⟨rfl, hb1⟩
    have h1 := hK.out w1 hb1
    have hcs := h1.cells
    obtain ⟨b1, o1, rfl, hb2, hc1⟩ := h1.own.rv.2.2.2 (by omega)
    have hcap : c ≤ 9223372036854775807 := h1.own.rv.2.2.1
    have hle := h1.own.rv.2.1
    have e1 := acells_cell hc1 (fun o => rfl) i hi
    have hlt : (i : Int) < (n : Int) := by omega
    have hd : decide (0 ≤ (i : Int)) = true := by simp
    clear hat h1 hc1
    go_wp2
    go_ret
    exact ⟨by rw [hN.out]; rfl, hb1⟩
set_option maxRecDepth 100000 in
set_option maxHeartbeats 2000000 in
theorem Waits_any {w : World} {base B : Nat} {now : Int} {A : Option Addr} {n c : Nat} {xs : List Ak} (h : LK w base B now A n c xs) (s : Int) (hn : n ≤ 100000) :
    Calls Tryd.prog 18 #[.pointer (some ⟨B, 0, none⟩), .int .i64 s] w fun e w' => e = .returned (.tuple #[.int .i64 (waitsK s xs).1, .bool (waitsK s xs).2]) ∧ Below w.heap.size w w' := by
  have hat := Lib.hid (At_any h s)
  have hK := Lib.hid (fun W (hW : Below w.heap.size w W) => h.below hW)
  have hln := h.len
  clear h
  rcases idxL_cases (isS s) xs with ⟨h1, h2⟩ | ⟨i, hi, h1, h2, h3, h4⟩
  · have hN : waitsK s xs = (0, false) := by unfold waitsK findS; rw [h2]
    rw [h1] at hat
    clear h1 h2
    replace hN := Lib.hid hN
    go_enter Tryd.func18, Tryd.ntmps18
    go_wp2_with fail
    refine hat.out.mono ?_
    rintro e w1 ⟨rfl, hb1⟩
    clear hat
    go_wp2
    go_ret2
    exact ⟨by rw [hN.out]; rfl, hb1⟩
  · have hN : waitsK s xs = if xs[i].held then (0, false) else (xs[i].since, true) := by unfold waitsK findS; rw [h2]
    rw [h1] at hat
    clear h1 h2 h3 h4
    replace hN := Lib.hid hN
    go_enter Tryd.func18, Tryd.ntmps18
    go_wp2_with fail
    refine hat.out.mono ?_
    rintro e w1 ⟨rfl, hb1⟩
    have h1 := hK.out w1 hb1
    have hcs := h1.cells
    obtain ⟨b1, o1, rfl, hb2, hc1⟩ := h1.own.rv.2.2.2 (by omega)
    have hcap : c ≤ 9223372036854775807 := h1.own.rv.2.2.1
    have hle := h1.own.rv.2.1
    have e1 := acells_cell hc1 (fun o => rfl) i hi
    have hlt : (i : Int) < (n : Int) := by omega
    have hd : decide ((i : Int) < 0) = false := by simp
    clear hat h1 hc1
    cases hq : xs[i].held with
    | true =>
      rw [hq] at e1
      rw [hq, if_pos rfl] at hN
      clear hq
      go_wp2
      go_ret2
      exact ⟨by rw [hN.out]; rfl, hb1⟩
    | false =>
      rw [hq] at e1
      rw [hq, if_neg (by decide)] at hN
      clear hq
      go_wp2
      go_ret2
      exact ⟨by rw [hN.out]; rfl, hb1⟩
set_option maxRecDepth 100000 in
set_option maxHeartbeats 2000000 in
theorem Wants_any {w : World} {base B : Nat} {now : Int} {A : Option Addr} {n c : Nat} {xs : List Ak} (h : LK w base B now A n c xs) (s : Int) (hn : n ≤ 100000) (hm : ∀ x ∈ xs, x.n ≤ 100000) :
    Calls Tryd.prog 20 #[.pointer (some ⟨B, 0, none⟩), .int .i64 s] w fun e w' => ∃ A' m c', e = .returned (.slice A' m c') ∧ Rv w' 2 A' m c' (wcells (wantsK s xs)) ∧ Below w.heap.size w w' := by
  have hat := Lib.hid (At_any h s)
  have hK := Lib.hid (fun W (hW : Below w.heap.size w W) => h.below hW)
  have hln := h.len
  clear h
  rcases idxL_cases (isS s) xs with ⟨h1, h2⟩ | ⟨i, hi, h1, h2, h3, h4⟩
  · have hN : wantsK s xs = [] := by unfold wantsK findS; rw [h2]
    rw [h1] at hat
    rw [hN]
    clear h1 h2 hN
    go_enter Tryd.func20, Tryd.ntmps20
    go_wp2_with fail
    refine hat.out.mono ?_
    rintro e w1 ⟨rfl, hb1⟩
    clear hat
    go_wp2
    go_ret
    exact ⟨none, 0, 0, rfl, Rv.nil _ _, hb1⟩
  · have hN : wantsK s xs = xs[i].W := by unfold wantsK findS; rw [h2]
    rw [h1] at hat
    rw [hN]
    clear h1 h2 h3 h4 hN
    go_enter Tryd.func20, Tryd.ntmps20
    go_wp2_with fail
    refine hat.out.mono ?_
    rintro e w1 ⟨rfl, hb1⟩
    have h1 := hK.out w1 hb1
    have hcs := h1.cells
    obtain ⟨b1, o1, rfl, hb2, hc1⟩ := h1.own.rv.2.2.2 (by omega)
    have hcap : c ≤ 9223372036854775807 := h1.own.rv.2.2.1
    have hle := h1.own.rv.2.1
    have e1 := acells_cell hc1 (fun o => rfl) i hi
    have hlt : (i : Int) < (n : Int) := by omega
    have hd : decide ((i : Int) < 0) = false := by simp
    have hcl := Lib.hid (CloneW_any xs[i].A xs[i].n xs[i].c xs[i].W w1 (h1.tabs _ (List.getElem_mem _)).rv (hm _ (List.getElem_mem _)))
    clear hat h1 hc1
    go_wp2_with fail
    refine hcl.out.mono ?_
    rintro e w2 ⟨A', c', rfl, hO, hb2⟩
    clear hcl
    go_wp2
    go_ret
    exact ⟨A', _, c', rfl, hO.rv, gr hb1 hb2⟩
set_option maxRecDepth 100000 in
set_option maxHeartbeats 2000000 in
theorem Copy_any {w : World} {base B : Nat} {now : Int} {A : Option Addr} {n c : Nat} {xs : List Ak} (h : LK w base B now A n c xs) (hn : n ≤ 100000) :
    Calls Tryd.prog 10 #[.pointer (some ⟨B, 0, none⟩)] w fun e w' => ∃ B' A' c', e = .returned (.pointer (some ⟨B', 0, none⟩)) ∧ LK w' base B' now A' n c' xs ∧ w.heap.size ≤ B' ∧ (∀ g, ab A' = some g → w.heap.size ≤ g) ∧ Below w.heap.size w w' := by
  have hcs := h.cells
  have hL := Lib.hid (fun W (hW : Below w.heap.size w W) => h.below hW)
  have hbs : base ≤ w.heap.size := Nat.le_of_lt (Nat.lt_of_le_of_lt h.ge h.lt)
  go_enter Tryd.func10, Tryd.ntmps10
  go_wp2_with fail
  refine wp_region_noPanic ?_
  refine wp_region_held_drew (S := fun w' => w'.cell? ⟨B, 0, none⟩ = some (.int .i64 now) ∧ w'.cell? ⟨B, 1, none⟩ = some (.slice A n c)) (by kernel_rfl) hcs (fun hHeld => ?_)
  have hcl := Lib.hid (CloneA_any A n c xs w.drew (hL.out _ (Below.refl _ _).drew).own.rv hn)
  refine wpAnyH_takeL (i := 0) (v := ?vhy1) rfl (by kernel_rfl) (by kernel_rfl) (by kernel_rfl) (fun _ _ _ h => h) (Or.inl ⟨by rfl, ?hy1⟩) (by assumption) ?rhy1
  case hy1 => ((intro w hSw; (try dsimp only at hSw); go_simp); try with_reducible rfl)
  try simp only [Act.put, List.setIfInBounds_toArray, List.set_cons_zero, List.set_cons_succ]
  refine wpAnyH_takeL (i := 1) (v := ?vhy2) rfl (by kernel_rfl) (by kernel_rfl) (by kernel_rfl) (fun _ _ _ h => h) (Or.inl ⟨by rfl, ?hy2⟩) (by assumption) ?rhy2
  case hy2 => ((intro w hSw; (try dsimp only at hSw); go_simp); try with_reducible rfl)
  try simp only [Act.put, List.setIfInBounds_toArray, List.set_cons_zero, List.set_cons_succ]
  refine wpAnyH_takeL (i := 2) (v := ?vhy3) rfl (by kernel_rfl) (by kernel_rfl) (by kernel_rfl) (fun _ _ _ h => h) (Or.inl ⟨by rfl, ?hy3⟩) (by assumption) ?rhy3
  case hy3 => ((intro w hSw; (try dsimp only at hSw); go_simp); try with_reducible rfl)
  try simp only [Act.put, List.setIfInBounds_toArray, List.set_cons_zero, List.set_cons_succ]
  refine wpAnyH_takeL (i := 3) (v := ?vhy4) rfl (by kernel_rfl) (by kernel_rfl) (by kernel_rfl) (fun _ _ _ h => h) (Or.inl ⟨by rfl, ?hy4⟩) (by assumption) ?rhy4
  case hy4 => ((intro w hSw; (try dsimp only at hSw); go_simp); try with_reducible rfl)
  try simp only [Act.put, List.setIfInBounds_toArray, List.set_cons_zero, List.set_cons_succ]
  refine wpAnyH_takeL (i := 4) (v := ?vhy5) rfl (by kernel_rfl) (by kernel_rfl) (by kernel_rfl) (fun _ _ _ h => h) (Or.inl ⟨by rfl, ?hy5⟩) (by assumption) ?rhy5
  case hy5 => ((intro w hSw; (try dsimp only at hSw); go_simp); try with_reducible rfl)
  try simp only [Act.put, List.setIfInBounds_toArray, List.set_cons_zero, List.set_cons_succ]
  refine wpAnyH_takeL (i := 5) (v := ?vhy6) rfl (by kernel_rfl) (by kernel_rfl) (by kernel_rfl) (fun _ _ _ h => h) (Or.inl ⟨by rfl, ?hy6⟩) (by assumption) ?rhy6
  case hy6 => ((intro w hSw; (try dsimp only at hSw); go_simp); try with_reducible rfl)
  try simp only [Act.put, List.setIfInBounds_toArray, List.set_cons_zero, List.set_cons_succ]
  refine wpAnyH_takeL (i := 6) (v := ?vhy7) rfl (by kernel_rfl) (by kernel_rfl) (by kernel_rfl) (fun _ _ _ h => h) (Or.inl ⟨by rfl, ?hy7⟩) (by assumption) ?rhy7
  case hy7 => ((intro w hSw; (try dsimp only at hSw); go_simp); try with_reducible rfl)
  try simp only [Act.put, List.setIfInBounds_toArray, List.set_cons_zero, List.set_cons_succ]
  refine wpAnyH_takeL (i := 7) (v := ?vhy8) rfl (by kernel_rfl) (by kernel_rfl) (by kernel_rfl) (fun _ _ _ h => h) (Or.inl ⟨by rfl, ?hy8⟩) (by assumption) ?rhy8
  case hy8 => ((intro w hSw; (try dsimp only at hSw); go_simp); try with_reducible rfl)
  try simp only [Act.put, List.setIfInBounds_toArray, List.set_cons_zero, List.set_cons_succ]
  refine wpAnyH_ready (rs := [8]) (by kernel_rfl) (by simp) ?_
  refine AllReadyH.consL (i := 8) rfl (fun K hK => ?_) AllReadyH.nil
  go_simp
  refine hcl.out.mono ?_
  rintro e w2 ⟨A', c', rfl, hO, hb2⟩
  have hb2' : Below w.heap.size w w2 := gr ((Below.refl _ w).drew) hb2
  have h2 := hL.out w2 hb2'
  refine hK.out _ _ h2.cells (fun hHeld => ?_)
  clear hK hcl
  try simp only [Act.put, List.setIfInBounds_toArray, List.set_cons_zero, List.set_cons_succ]
  refine wpAnyH_takeL (i := 9) (v := ?vhy9) rfl (by kernel_rfl) (by kernel_rfl) (by kernel_rfl) (fun _ _ _ h => h) (Or.inl ⟨by rfl, ?hy9⟩) (by assumption) ?rhy9
  case hy9 => ((intro w hSw; (try dsimp only at hSw); go_simp); try with_reducible rfl)
  try simp only [Act.put, List.setIfInBounds_toArray, List.set_cons_zero, List.set_cons_succ]
  refine wpAnyH_ready (rs := [10]) (by kernel_rfl) (by simp) ?_
  refine AllReadyH.consL (i := 10) rfl (fun K hK => ?_) AllReadyH.nil
  go_simp
  have hb3 : Below w2.heap.size w2 (w2.alloc (.cells #[.int .i64 now, .slice A' n c'] 69)) := (Below.refl _ _).alloc (Nat.le_refl _) _
  have h3 := h2.below hb3
  refine hK.out _ _ h3.cells (fun hHeld => ?_)
  clear hK
  try simp only [Act.put, List.setIfInBounds_toArray, List.set_cons_zero, List.set_cons_succ]
  refine wpAnyH_takeL (i := 11) (v := ?vhy10) rfl (by kernel_rfl) (by kernel_rfl) (by kernel_rfl) (fun _ _ _ h => h) (Or.inl ⟨by rfl, ?hy10⟩) (by assumption) ?rhy10
  case hy10 => ((intro w hSw; (try dsimp only at hSw); go_simp); try with_reducible rfl)
  try simp only [Act.put, List.setIfInBounds_toArray, List.set_cons_zero, List.set_cons_succ]
  refine wpAnyH_done (by kernel_rfl) ?_ _
  refine NoPanic.normal ?_
  go_wp2
  go_ret
  have hz := hb2'.size
  exact ⟨w2.heap.size, A', c', rfl, ⟨by omega, World.alloc_heap_new w2 _, (hO.below hb3).ge hbs, fun x hx => (h3.tabs x hx)⟩, by omega, fun g hg => (hO.ab g hg).1, gr hb2' hb3⟩
end Go.Proofs.YtnjhhibjcfjhnaaDoor
