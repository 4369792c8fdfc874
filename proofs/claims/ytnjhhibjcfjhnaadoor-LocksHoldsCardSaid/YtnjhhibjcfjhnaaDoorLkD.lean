/- Locks: rank, the closure of sorted, sorted itself. -/
import Derived.Test.YtnjhhibjcfjhnaaDoorLkC
import Derived.Shelf.SlSortCmp.InsertionK
namespace Go.Proofs.YtnjhhibjcfjhnaaDoor
open Go.RowKit Go.Shelf Go.Lib Go.Sort
set_option linter.unusedVariables false

set_option maxRecDepth 100000 in
set_option maxHeartbeats 2000000 in
theorem Rank_any (x : Ak) (w : World) : Calls Tryd.prog 53 #[.agg x.cells.toArray] w fun e w' => e = .returned (.int .i64 (x.rank : Int)) ∧ w' = w.alloc (.cells x.cells.toArray 74) := by
  obtain ⟨x0, x1, x2, x3, x4, x5, x6, x7, x8⟩ := x
  simp only [Ak.cells, Ak.rank]
  cases x4 with
  | true =>
    go_enter Tryd.func53, Tryd.ntmps53
    go_wp2
    go_ret
    exact ⟨rfl, rfl⟩
  | false =>
    cases x3 with
    | true =>
      go_enter Tryd.func53, Tryd.ntmps53
      go_wp2
      go_ret
      exact ⟨rfl, rfl⟩
    | false =>
      go_enter Tryd.func53, Tryd.ntmps53
      go_wp2
      go_ret
      exact ⟨rfl, rfl⟩
/-- An ask in a box of its own. -/
def KA (W : World) (B : Nat) (x : Ak) : Prop := W.heap[B]? = some (.cells #[.slice x.A x.n x.c, .int .i64 x.s, .int .i64 x.since, .int .i64 x.wait, .bool x.first, .bool x.held] 74 (0, 0))
def KAc (W : World) (B : Nat) (x : Ak) : Prop := W.cell? ⟨B, 0, none⟩ = some (.slice x.A x.n x.c) ∧ W.cell? ⟨B, 1, none⟩ = some (.int .i64 x.s) ∧ W.cell? ⟨B, 2, none⟩ = some (.int .i64 x.since) ∧ W.cell? ⟨B, 3, none⟩ = some (.int .i64 x.wait) ∧ W.cell? ⟨B, 4, none⟩ = some (.bool x.first) ∧ W.cell? ⟨B, 5, none⟩ = some (.bool x.held)
theorem KA.cells {W : World} {B : Nat} {x : Ak} (h : KA W B x) : KAc W B x := by
  unfold KA at h
  simp [KAc, World.cell?, h]
theorem KA.lt {W : World} {B : Nat} {x : Ak} (h : KA W B x) : B < W.heap.size := (Array.getElem?_eq_some_iff.1 h).1
theorem KA.below {W W' : World} {B : Nat} {x : Ak} {base : Nat} (h : KA W B x) (hb : Below base W W') (hB : B < base) : KA W' B x := (hb.block B hB).trans h
theorem KA.new (w : World) (x : Ak) : KA (w.alloc (.cells x.cells.toArray 74)) w.heap.size x := World.alloc_heap_new w _
theorem eSo : ∀ args w, (callFunc 71 args).run Tryd.prog w = .ok (.enter 71 args) w := enters_of Tryd.func71 (by kernel_rfl) rfl
theorem eRa : ∀ args w, (callFunc 53 args).run Tryd.prog w = .ok (.enter 53 args) w := enters_of Tryd.func53 (by kernel_rfl) rfl
set_option maxRecDepth 100000 in
set_option maxHeartbeats 2000000 in
theorem So1_any (x y : Ak) (B : Nat) (w : World) (h0 : w.cell? ⟨B, 0, none⟩ = some (.func (.func 53) #[] #[])) :
    Calls Tryd.prog 71 #[.agg x.cells.toArray, .agg y.cells.toArray, .pointer (some ⟨B, 0, none⟩)] w fun e w' => e = .returned (.int .i64 (rk x y)) ∧ ∃ q os', w' = grow (w.drewN q) os' := by
  have hlt := World.block_lt_of_cell? _ _ h0
  have hX := Rank_any x
  have hY := Rank_any y
  have hkx := x.rank_lt
  have hky := y.rank_lt
  have hrk : rk x y = (x.rank : Int) - (y.rank : Int) := rfl
  generalize rk x y = r at *
  generalize x.rank = rx at *
  generalize y.rank = ry at *
  have ka := (KA.new w x).below ((Below.refl _ _).alloc (Nat.le_refl _) (.cells y.cells.toArray 74)) (by simp)
  have kb := KA.new (w.alloc (.cells x.cells.toArray 74)) y
  rw [World.size_alloc] at kb
  have hb2 : Below w.heap.size w ((w.alloc (.cells x.cells.toArray 74)).alloc (.cells y.cells.toArray 74)) := gr_alloc (gr_alloc (Below.refl _ _) _) _
  have hc2 := (hb2.cell (p := ⟨B, 0, none⟩) hlt).trans h0
  have hgrow : ∃ os : Array Obj, ((((w.alloc (.cells x.cells.toArray 74)).alloc (.cells y.cells.toArray 74)).drew.alloc (.cells x.cells.toArray 74)).alloc (.cells y.cells.toArray 74)) = grow (w.drewN 1) os := by
    simp only [alloc_eq_grow]
    have e : ∀ (u : World) (os : Array Obj), (grow u os).drew = grow (u.drewN 1) os := fun u os => rfl
    have e2 : ∀ (u : World) (os : Array Obj) (n : Nat), (grow u os).drewN n = grow (u.drewN n) os := fun u os n => rfl
    rw [grow_grow, e, grow_grow, e2, grow_grow]
    exact ⟨_, rfl⟩
  obtain ⟨x0, x1, x2, x3, x4, x5, x6, x7, x8⟩ := x
  obtain ⟨y0, y1, y2, y3, y4, y5, y6, y7, y8⟩ := y
  have hsz : ((w.alloc (.cells (Ak.cells ⟨x0, x1, x2, x3, x4, x5, x6, x7, x8⟩).toArray 74)).alloc (.cells (Ak.cells ⟨y0, y1, y2, y3, y4, y5, y6, y7, y8⟩).toArray 74)).heap.size = w.heap.size + 1 + 1 := by simp
  simp only [Ak.cells] at hX hY hb2 hc2 hgrow hsz ka kb ⊢
  replace hX := Lib.hid hX
  replace hY := Lib.hid hY
  replace hgrow := Lib.hid hgrow
  have eR := eRa
  go_enter Tryd.func71, Tryd.ntmps71
  go_wp2_with fail
  generalize ((w.alloc (.cells #[.slice x6 x7 x8, .int .i64 x0, .int .i64 x1, .int .i64 x2, .bool x3, .bool x4] 74)).alloc (.cells #[.slice y6 y7 y8, .int .i64 y0, .int .i64 y1, .int .i64 y2, .bool y3, .bool y4] 74)) = w2 at *
  refine wp_region_noPanic ?_
  refine wp_region_held_drew (S := fun W => (W.cell? ⟨B, 0, none⟩ = some (.func (.func 53) #[] #[])) ∧ KAc W w.heap.size ⟨x0, x1, x2, x3, x4, x5, x6, x7, x8⟩ ∧ KAc W (w.heap.size + 1) ⟨y0, y1, y2, y3, y4, y5, y6, y7, y8⟩) (by kernel_rfl) ⟨hc2, ka.cells, kb.cells⟩ (fun hHeld => ?_)
  simp only [KAc] at hHeld
  have hS : ∀ W, Below w2.heap.size w2 W → (W.cell? ⟨B, 0, none⟩ = some (.func (.func 53) #[] #[])) ∧ KAc W w.heap.size ⟨x0, x1, x2, x3, x4, x5, x6, x7, x8⟩ ∧ KAc W (w.heap.size + 1) ⟨y0, y1, y2, y3, y4, y5, y6, y7, y8⟩ := fun W hW =>
    ⟨(hW.cell (p := ⟨B, 0, none⟩) (by show B < _; omega)).trans hc2, (ka.below hW (by omega)).cells, (kb.below hW (by omega)).cells⟩
  simp only [KAc] at hS ⊢
  replace hS := Lib.hid hS
  refine wpAnyH_takeL (i := 0) (v := ?vhy1) rfl (by kernel_rfl) (by kernel_rfl) (by kernel_rfl) (fun _ _ _ h => h) (Or.inl ⟨by rfl, ?hy1⟩) (by assumption) ?rhy1
  case hy1 => ((intro w hSw; (try dsimp only at hSw); go_simp); try with_reducible rfl)
  try simp only [Act.put, List.setIfInBounds_toArray, List.set_cons_zero, List.set_cons_succ]
  refine wpAnyH_takeL (i := 1) (v := ?vhy2) rfl (by kernel_rfl) (by kernel_rfl) (by kernel_rfl) (fun _ _ _ h => h) (Or.inl ⟨by rfl, ?hy2⟩) (by assumption) ?rhy2
  case hy2 => ((intro w hSw; (try dsimp only at hSw); go_simp); try with_reducible rfl)
  try simp only [Act.put, List.setIfInBounds_toArray, List.set_cons_zero, List.set_cons_succ]
  refine wpAnyH_takeL (i := 3) (v := ?vhy3) rfl (by kernel_rfl) (by kernel_rfl) (by kernel_rfl) (fun _ _ _ h => h) (Or.inl ⟨by rfl, ?hy3⟩) (by assumption) ?rhy3
  case hy3 => ((intro w hSw; (try dsimp only at hSw); go_simp); try with_reducible rfl)
  try simp only [Act.put, List.setIfInBounds_toArray, List.set_cons_zero, List.set_cons_succ]
  refine wpAnyH_takeL (i := 4) (v := ?vhy4) rfl (by kernel_rfl) (by kernel_rfl) (by kernel_rfl) (fun _ _ _ h => h) (Or.inl ⟨by rfl, ?hy4⟩) (by assumption) ?rhy4
  case hy4 => ((intro w hSw; (try dsimp only at hSw); go_simp); try with_reducible rfl)
  try simp only [Act.put, List.setIfInBounds_toArray, List.set_cons_zero, List.set_cons_succ]
  refine wpAnyH_ready (rs := [2]) (by kernel_rfl) (by simp) ?_
  refine AllReadyH.consL (i := 2) rfl (fun K hK => ?_) AllReadyH.nil
  go_simp
  refine (hX.out _).mono ?_
  rintro e w3 ⟨rfl, e3⟩
  have hb3 : Below w2.heap.size w2 w3 := by rw [e3]; exact (Below.refl _ _).drew.alloc (Nat.le_refl _) _
  refine hK.out _ _ (hS.out _ hb3) (fun hHeld => ?_)
  clear hK hX
  try simp only [Act.put, List.setIfInBounds_toArray, List.set_cons_zero, List.set_cons_succ]
  refine wpAnyH_ready (rs := [5]) (by kernel_rfl) (by simp) ?_
  refine AllReadyH.consL (i := 5) rfl (fun K hK => ?_) AllReadyH.nil
  go_simp
  refine (hY.out _).mono ?_
  rintro e w4 ⟨rfl, e4⟩
  have hb4 : Below w2.heap.size w2 w4 := by rw [e4]; exact ((Below.refl w2.heap.size w2).alloc (Nat.le_refl _) _).drew.alloc (by simp) _
  refine hK.out _ _ (hS.out _ hb4) (fun hHeld => ?_)
  clear hK hY
  try simp only [Act.put, List.setIfInBounds_toArray, List.set_cons_zero, List.set_cons_succ]
  refine wpAnyH_takeL (i := 6) (v := ?vhy5) rfl (by kernel_rfl) (by kernel_rfl) (by kernel_rfl) (fun _ _ _ h => h) (Or.inl ⟨by rfl, ?hy5⟩) (by assumption) ?rhy5
  case hy5 => ((intro w hSw; (try dsimp only at hSw); go_simp); try with_reducible rfl)
  try simp only [Act.put, List.setIfInBounds_toArray, List.set_cons_zero, List.set_cons_succ]
  refine wpAnyH_takeL (i := 7) (v := ?vhy6) rfl (by kernel_rfl) (by kernel_rfl) (by kernel_rfl) (fun _ _ _ h => h) (Or.inl ⟨by rfl, ?hy6⟩) (by assumption) ?rhy6
  case hy6 => ((intro w hSw; (try dsimp only at hSw); go_simp); try with_reducible rfl)
  try simp only [Act.put, List.setIfInBounds_toArray, List.set_cons_zero, List.set_cons_succ]
  refine wpAnyH_done (by kernel_rfl) ?_ _
  refine NoPanic.normal ?_
  go_wp2
  go_ret
  have hwr : IntKind.i64.wrap ((rx : Int) - (ry : Int)) = (rx : Int) - (ry : Int) := by rw [IntKind.wrap_i64]; omega
  obtain ⟨os, hos⟩ := hgrow.out
  refine ⟨by rw [hrk]; simp [hwr], 1, os, ?_⟩
  rw [e4]
  exact hos

/-! ### the library's insertion sort, laid at asks -/
def ins_ren : Go.Shelf.Ren := ⟨fun | 20 => 80 | n => n, fun | 0 => 0 | 3 => 3 | 4 => 4 | 22 => 67 | 24 => 74 | 25 => 129 | n => n, fun | n => n⟩
theorem ins_lays : Go.Proofs.SlLaysF0.n20 Tryd.prog ins_ren := {
  mixed := by kernel_rfl
  f20 := ⟨Tryd.f80.name, by decide, Tryd.func80.trans (congrArg some (by kernel_rfl))⟩
  t0 := Tryd.underlying0
  a0 := Tryd.isAgg0
  z0 := Tryd.sizeOf0
  v0 := Tryd.zeroValue0
  t3 := Tryd.underlying3
  a3 := Tryd.isAgg3
  z3 := Tryd.sizeOf3
  v3 := Tryd.zeroValue3
  t4 := Tryd.underlying4
  a4 := Tryd.isAgg4
  z4 := Tryd.sizeOf4
  v4 := Tryd.zeroValue4
  t22 := Tryd.underlying67
  a22 := Tryd.isAgg67
  z22 := Tryd.sizeOf67
  v22 := Tryd.zeroValue67
  t25 := Tryd.underlying129
  a25 := Tryd.isAgg129
  z25 := Tryd.sizeOf129
  v25 := Tryd.zeroValue129 }
theorem flatK_list (xs : List Ak) : flatK Ak.cells 6 xs.toArray = (acells xs).toArray := by
  have hl := acells_length xs
  refine Array.ext (by simp [hl]) fun t h1 h2 => ?_
  have ht : t < xs.length * 6 := by simpa using h1
  have hi : t / 6 < xs.length := by omega
  have h := get_flatK Ak.cells 6 xs.toArray t (by simpa using ht)
  have h3 := flat_at (f := Ak.cells) (k := 6) (fun _ => rfl) xs (t / 6) hi (t % 6) (by omega)
  rw [show 6 * (t / 6) + t % 6 = t from by omega] at h3
  have e1 : (flatK Ak.cells 6 xs.toArray)[t]! = (flatK Ak.cells 6 xs.toArray)[t] := by rw [getElem!_pos]
  rw [← e1, h]
  have e2 : xs.toArray[t / 6]! = xs[t / 6] := by simp [hi]
  rw [e2]
  have e3 : (acells xs).toArray[t] = (acells xs)[t]'(by simpa using h2) := by simp
  rw [e3]
  have h4 : (acells xs)[t]? = (Ak.cells xs[t / 6])[t % 6]? := h3
  have hlt : t % 6 < (Ak.cells xs[t / 6]).length := by show t % 6 < 6; omega
  rw [List.getElem?_eq_getElem (by omega), List.getElem?_eq_getElem hlt] at h4
  rw [getElem!_pos (Ak.cells xs[t / 6]) (t % 6) hlt]
  exact (Option.some.inj h4).symm
theorem Ov.holds {w : World} {base g : Nat} {e : TypeId} {size n c : Nat} {xs : List Value} (h : Ov w base e size (some ⟨g, 0, none⟩) n c xs) : Holds id w g 0 xs.toArray := by
  obtain ⟨h1, h2⟩ := h
  rcases h2 with ⟨hv, _⟩ | ⟨g', cap, cur, hv, hb, hg, hnc, hcm, hsz, htake⟩
  · cases hv
  cases hv
  intro j hj
  have hj' : j < xs.length := by simpa using hj
  refine ⟨?_, by simp [World.frozen?, hg]⟩
  have h5 : (cur.toList.take (n * size))[j]? = xs[j]? := by rw [htake]
  rw [List.getElem?_take_of_lt (by omega)] at h5
  simp only [World.cell?, hg, Nat.zero_add]
  simp only [Option.isSome_none, Bool.false_eq_true, if_false]
  rw [← Array.getElem?_toList, h5]
  simp [hj']
theorem Ov.laid {w : World} {base g : Nat} {e : TypeId} {size n c : Nat} {xs ys : List Value} (h : Ov w base e size (some ⟨g, 0, none⟩) n c xs) (hl : ys.length = xs.length) (m : Nat) (os : Array Obj) :
    Ov (grow (putRow id (Sort.ahead w m) g 0 ys.toArray) os) base e size (some ⟨g, 0, none⟩) n c ys ∧ w.grownBy (grow (putRow id (Sort.ahead w m) g 0 ys.toArray) os) (some g) := by
  obtain ⟨h1, h2⟩ := h
  rcases h2 with ⟨hv, _⟩ | ⟨g', cap, cur, hv, hb, hg, hnc, hcm, hsz, htake⟩
  · cases hv
  cases hv
  have hlt : g < w.heap.size := (Array.getElem?_eq_some_iff.1 hg).1
  have hcur : n * size ≤ cur.size := by rw [hsz]; exact Nat.mul_le_mul_right size hnc
  refine ⟨⟨by rw [hl]; exact h1, .inr ⟨g, c, putCells id 0 ys.toArray cur, rfl, hb, ?_, hnc, hcm, by simp [putCells, hsz], ?_⟩⟩, rfl, rfl, rfl, by simp, fun k hk hne => ?_⟩
  · rw [heap_grow_old _ _ (by simpa using hlt)]
    simp [putRow, mapBlock, Sort.ahead, Array.getElem?_modify, hg, onCells]
  · rw [← h1, ← hl]
    apply List.ext_getElem?
    intro j
    by_cases hj : j < ys.length
    · rw [List.getElem?_take_of_lt hj, Array.getElem?_toList]
      simp [putCells, hj, show j < cur.size by omega]
    · rw [List.getElem?_take_eq_none (by omega), List.getElem?_eq_none (by omega)]
  · rw [heap_grow_old _ _ (by simpa using hk)]
    have : g ≠ k := fun e => hne (by rw [e])
    simp [putRow, mapBlock, Sort.ahead, Array.getElem?_modify, this]
theorem Ov.first {w : World} {base : Nat} {e : TypeId} {size n c : Nat} {A : Option Addr} {xs : List Value} (h : Ov w base e size A n c xs) : (A = none ∧ n = 0 ∧ c = 0) ∨ ∃ g, A = some ⟨g, 0, none⟩ := by
  rcases h.2 with ⟨hv, hn⟩ | ⟨g', cap, cur, hv, _⟩
  · injection hv with h5 h6 h7
    exact .inl ⟨h5, hn, h7⟩
  · injection hv with h5 h6 h7
    exact .inr ⟨g', h5⟩

/-! ### sorted -/
set_option maxRecDepth 100000 in
theorem Ins_none (A : Option Addr) (c : Nat) (f : Value) (w : World) : Calls Tryd.prog 80 #[.slice A 0 c, .int .i64 0, .int .i64 0, f] w fun e w' => e = .returned (.tuple #[]) ∧ w = w' := by
  go_enter Tryd.func80, Tryd.ntmps80
  go_wp2
  refine wp_loop_rounds 1 ?_
  rw [rounds_succ]
  go_wp2
  go_end0
  exact ⟨rfl, rfl⟩
/-- What the sort says of an owned row of asks. -/
def SortedP (w : World) (base : Nat) (A : Option Addr) (n c : Nat) (xs : List Ak) (e : Ending) (w' : World) : Prop :=
  e = .returned (.tuple #[]) ∧ Ov w' base 74 6 A n c (acells (ordK xs)) ∧ w.grownBy w' (ab A)
set_option maxRecDepth 100000 in
theorem Ins_any (B : Nat) (base : Nat) (A : Option Addr) (n c : Nat) (xs : List Ak) (w : World) (h0 : w.cell? ⟨B, 0, none⟩ = some (.func (.func 53) #[] #[])) (hO : Ov w base 74 6 A n c (acells xs)) (hB : ab A ≠ some B) (hn : n ≤ 100000) :
    Calls Tryd.prog 80 #[.slice A n c, .int .i64 0, .int .i64 (n : Int), .func (.func 71) #[] #[.pointer (some ⟨B, 0, none⟩)]] w (SortedP w base A n c xs) := by
  have hlt := World.block_lt_of_cell? _ _ h0
  have hxl : xs.length = n := by
    have := hO.1
    rw [acells_length] at this
    omega
  rcases hO.first with ⟨rfl, rfl, rfl⟩ | ⟨g, rfl⟩
  · have hx : xs = [] := List.eq_nil_of_length_eq_zero hxl
    subst hx
    exact (Ins_none none 0 _ w).mono fun e w' ⟨he, hw⟩ => ⟨he, hw ▸ hO, hw ▸ World.grownBy.refl w _⟩
  · have hH : HoldsK Ak.cells 6 w g 0 xs.toArray := by
      unfold HoldsK
      rw [flatK_list]
      exact hO.holds
    have hgl : g < w.heap.size := (hO.ab g rfl).2
    have hc := AnyQ.insertionSortCmpFunc (α := Ak) ins_lays 6 Tryd.isAgg74 Tryd.sizeOf74 Ak.cells (fun _ => rfl) (fun x u hu => by
      simp [Ak.cells] at hu
      rcases hu with rfl | rfl | rfl | rfl | rfl | rfl <;> rfl) rk 71 #[.pointer (some ⟨B, 0, none⟩)] g 0 c 0 n xs.toArray w eSo (by
      intro m os dk hdk x y
      refine So1_any x y B _ ?_
      unfold sortWorldK
      rw [cell?_grow _ _ _ (by unfold putRowK; simpa using hlt), cell?_putRowK_other _ _ _ _ _ _ _ (by intro e; exact hB (by rw [show B = g from e]; rfl))]
      exact h0) hH hgl (Nat.zero_le _) (by simp; omega) (by simp; omega)
    rw [show xs.toArray.size = n from by simpa using hxl] at hc
    refine Calls.mono hc ?_
    rintro e w' ⟨he, m, os, rfl⟩
    have es : Sort.insertionSort (ltOf rk) xs.toArray 0 n = (ordK xs).toArray := by rw [← hxl]; exact sort_ord xs
    unfold sortWorldK putRowK
    rw [es, flatK_list]
    obtain ⟨h1, h2⟩ := hO.laid (ys := acells (ordK xs)) (by rw [acells_length, acells_length, ordK_length]) m os
    exact ⟨he, h1, h2⟩
set_option maxRecDepth 100000 in
theorem Stable_any (B : Nat) (base : Nat) (A : Option Addr) (n c : Nat) (xs : List Ak) (w : World) (h0 : w.cell? ⟨B, 0, none⟩ = some (.func (.func 53) #[] #[])) (hO : Ov w base 74 6 A n c (acells xs)) (hB : ab A ≠ some B) (hn : n < 20) :
    Calls Tryd.prog 79 #[.slice A n c, .int .i64 (n : Int), .func (.func 71) #[] #[.pointer (some ⟨B, 0, none⟩)]] w (SortedP w base A n c xs) := by
  have hc := Lib.hid (Ins_any B base A n c xs w h0 hO hB (by omega))
  have d1 : decide ((20 : Int) ≤ (n : Int)) = false := by simp; omega
  have d2 : decide ((20 : Int) < (n : Int)) = false := by simp; omega
  clear h0 hO hB
  go_enter Tryd.func79, Tryd.ntmps79
  go_wp2
  refine wp_loop_rounds 1 ?_
  rw [rounds_succ]
  go_wp2_with fail
  refine hc.out.mono ?_
  rintro e w1 ⟨rfl, hq⟩
  clear hc
  replace hq := Lib.hid hq
  go_wp2
  refine wp_loop_rounds 1 ?_
  rw [rounds_succ]
  go_wp2
  go_end0
  exact ⟨rfl, hq.out⟩
set_option maxRecDepth 100000 in
theorem SortStable_any (B : Nat) (base : Nat) (A : Option Addr) (n c : Nat) (xs : List Ak) (w : World) (h0 : w.cell? ⟨B, 0, none⟩ = some (.func (.func 53) #[] #[])) (hO : Ov w base 74 6 A n c (acells xs)) (hB : ab A ≠ some B) (hn : n < 20) :
    Calls Tryd.prog 70 #[.slice A n c, .func (.func 71) #[] #[.pointer (some ⟨B, 0, none⟩)]] w (SortedP w base A n c xs) := by
  have hc := Lib.hid (Stable_any B base A n c xs w h0 hO hB hn)
  clear h0 hO hB
  go_enter Tryd.func70, Tryd.ntmps70
  go_wp2_with fail
  refine hc.out.mono ?_
  rintro e w1 ⟨rfl, hq⟩
  clear hc
  replace hq := Lib.hid hq
  go_wp2
  go_end0
  exact ⟨rfl, hq.out⟩
set_option maxRecDepth 100000 in
set_option maxHeartbeats 2000000 in
theorem Sorted_any (A : Option Addr) (n c : Nat) (xs : List Ak) (w : World) (hr : Rv w 6 A n c (acells xs)) (hn : n < 20) :
    Calls Tryd.prog 52 #[.slice A n c, .func (.func 53) #[] #[]] w fun e w' => ∃ A' c', e = .returned (.slice A' n c') ∧ Ov w' w.heap.size 74 6 A' n c' (acells (ordK xs)) ∧ Below w.heap.size w w' := by
  have hb0 : Below w.heap.size w (w.alloc (.cells #[.func (.func 53) #[] #[]] 105)) := (Below.refl _ _).alloc (Nat.le_refl _) _
  have hcl := Lib.hid (CloneA_any A n c xs _ (hr.below hb0) (by omega))
  have hc0 : (w.alloc (.cells #[.func (.func 53) #[] #[]] 105)).cell? ⟨w.heap.size, 0, none⟩ = some (.func (.func 53) #[] #[]) := by simp
  have hsz : (w.alloc (.cells #[.func (.func 53) #[] #[]] 105)).heap.size = w.heap.size + 1 := by simp
  clear hr
  go_enter Tryd.func52, Tryd.ntmps52
  go_wp2_with fail
  generalize (w.alloc (.cells #[.func (.func 53) #[] #[]] 105)) = w0 at *
  refine hcl.out.mono ?_
  rintro e w1 ⟨A', c', rfl, hO, hb1⟩
  have hso := Lib.hid (SortStable_any w.heap.size w0.heap.size A' n c' xs w1 ((hb1.cell (p := ⟨w.heap.size, 0, none⟩) (by show w.heap.size < _; omega)).trans hc0) hO (fun e => by have := (hO.ab _ e).1; omega) hn)
  have hab := hO.ab
  clear hcl hc0
  go_wp2_with fail
  refine hso.out.mono ?_
  rintro e w2 ⟨rfl, hO2, hg⟩
  clear hso
  go_wp2
  go_ret
  have hbb : Below w.heap.size w w1 := gr hb0 hb1
  exact ⟨A', c', rfl, hO2.ge (by omega), hbb.grown hg hbb.size (fun k e => by have := (hab k e).1; omega)⟩
end Go.Proofs.YtnjhhibjcfjhnaaDoor
