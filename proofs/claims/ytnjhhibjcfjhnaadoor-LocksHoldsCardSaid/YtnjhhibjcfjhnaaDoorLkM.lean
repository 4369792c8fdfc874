/- Locks: Tick. -/
import Derived.Test.YtnjhhibjcfjhnaaDoorLkL
namespace Go.Proofs.YtnjhhibjcfjhnaaDoor
open Go.RowKit
set_option linter.unusedVariables false

theorem grown_of_belowT {w w' : World} (h : Below w.heap.size w w') (r : Option Nat) : w.grownBy w' r := ⟨h.os, h.tape, h.output, h.size, fun k hk _ => h.block k hk⟩
theorem Ov.ofBlock {w w' : World} {base : Nat} {e : TypeId} {size n c : Nat} {A : Option Addr} {xs : List Value} (h : Ov w base e size A n c xs) (hb : ∀ g, Go.Proofs.YtnjhhibjcfjhnaaDoor.ab A = some g → w'.heap[g]? = w.heap[g]?) : Ov w' base e size A n c xs := by
  obtain ⟨h1, h2⟩ := h
  rcases h2 with h2 | ⟨g, cap, cur, hv, hbs, hg, r⟩
  · exact ⟨h1, .inl h2⟩
  · injection hv with h5 h6 h7
    subst h5 h7
    exact ⟨h1, .inr ⟨g, c, cur, rfl, hbs, (hb g rfl).trans hg, r⟩⟩
theorem LK.belowH {w w' : World} {base B H : Nat} {now : Int} {A : Option Addr} {n c : Nat} {xs : List Ak} (h : LK w base B now A n c xs) (hb : Below H w w') (hB : B < H) (hA : ∀ g, ab A = some g → g < H) (ht : ∀ x ∈ xs, ∀ g, ab x.A = some g → g < H) : LK w' base B now A n c xs :=
  ⟨h.ge, (hb.block B hB).trans h.box, h.own.ofBlock fun g hg => hb.block g (hA g hg), fun x hx => (h.tabs x hx).ofBlock fun g hg => hb.block g (ht x hx g hg)⟩
set_option maxRecDepth 100000 in
set_option maxHeartbeats 8000000 in
theorem Tick_any {w : World} {base B : Nat} {now : Int} {A : Option Addr} {n c : Nat} {xs : List Ak} (h : LK w base B now A n c xs) (hn : n < 20) (hw : ∀ x ∈ xs, x.Wf) (h0 : 0 ≤ now) (h1 : now < 1000000) :
    Calls Tryd.prog 14 #[.pointer (some ⟨B, 0, none⟩)] w fun e w' => ∃ A' c' R d R2 d2, e = .returned (.tuple #[.slice R (hsK (now + 1) xs).length d, .slice R2 (settleK (stayK (now + 1) xs)).2.length d2]) ∧
      LK w' base B (now + 1) A' (stayK (now + 1) xs).length c' (settleK (stayK (now + 1) xs)).1 ∧ Rv w' 1 R (hsK (now + 1) xs).length d (icells (hsK (now + 1) xs)) ∧ Rv w' 1 R2 (settleK (stayK (now + 1) xs)).2.length d2 (icells (settleK (stayK (now + 1) xs)).2) ∧
      (∀ g, ab A' = some g → w.heap.size ≤ g) ∧ w.grownBy w' (some B) := by
  have hbl := h.lt
  have hbw : base ≤ w.heap.size := Nat.le_of_lt (Nat.lt_of_le_of_lt h.ge h.lt)
  have hln := h.len
  have hAo : ∀ g, ab A = some g → g < w.heap.size := fun g hg => (h.own.ab g hg).2
  have hto : ∀ x ∈ xs, ∀ g, ab x.A = some g → g < w.heap.size := fun x hx g hg => ((h.tabs x hx).ab g hg).2
  have hb0 : Below w.heap.size w (w.alloc (.cells #[.pointer (some ⟨B, 0, none⟩)] 25)) := (Below.refl _ _).alloc (Nat.le_refl _) _
  have hb1 : Below w.heap.size w ((w.alloc (.cells #[.pointer (some ⟨B, 0, none⟩)] 25)).alloc (.cells #[.slice none 0 0] 36)) := gr_alloc hb0 _
  have hbx : ((w.alloc (.cells #[.pointer (some ⟨B, 0, none⟩)] 25)).alloc (.cells #[.slice none 0 0] 36)).heap[w.heap.size]? = some (.cells #[.pointer (some ⟨B, 0, none⟩)] 25 (0, 0)) := by
    have e0 := World.alloc_heap_new w (.cells #[.pointer (some ⟨B, 0, none⟩)] 25)
    have := (Below.refl (w.alloc (.cells #[.pointer (some ⟨B, 0, none⟩)] 25)).heap.size (w.alloc (.cells #[.pointer (some ⟨B, 0, none⟩)] 25))).alloc (Nat.le_refl _) (.cells #[.slice none 0 0] 36)
    exact (this.block w.heap.size (by simp)).trans e0
  have hbo : Boxed ((w.alloc (.cells #[.pointer (some ⟨B, 0, none⟩)] 25)).alloc (.cells #[.slice none 0 0] 36)) (w.heap.size + 1) 36 (.slice none 0 0) := by
    have := Boxed.new (w.alloc (.cells #[.pointer (some ⟨B, 0, none⟩)] 25)) 36 (.slice none 0 0)
    rw [World.size_alloc] at this
    exact this
  have hL1 := h.below hb1
  have hsz1 : ((w.alloc (.cells #[.pointer (some ⟨B, 0, none⟩)] 25)).alloc (.cells #[.slice none 0 0] 36)).heap.size = w.heap.size + 2 := by simp
  go_enter Tryd.func14, Tryd.ntmps14
  go_upto_region 1 with fail
  generalize ((w.alloc (.cells #[.pointer (some ⟨B, 0, none⟩)] 25)).alloc (.cells #[.slice none 0 0] 36)) = w1 at *
  clear hb0 h
  have hcs := hL1.cells
  have cl : w1.cell? ⟨w.heap.size, 0, none⟩ = some (.pointer (some ⟨B, 0, none⟩)) := by simp [World.cell?, hbx]
  have fB := hL1.frozen 0
  have hL2 := hL1.setNow (now + 1)
  have hg2 := grownBy_at w1 B 0 (.int .i64 (now + 1))
  have hbx2 := (hg2.block w.heap.size (by omega) (fun e => by injection e with e; omega)).trans hbx
  have hbo2 : Boxed (w1.setCell ⟨B, 0, none⟩ (.int .i64 (now + 1))) (w.heap.size + 1) 36 (.slice none 0 0) := (hg2.block (w.heap.size + 1) (by omega) (fun e => by injection e with e; omega)).trans hbo
  have hg02 : w.grownBy (w1.setCell ⟨B, 0, none⟩ (.int .i64 (now + 1))) (some B) := grown_tr (grown_of_belowT hb1 _) hg2
  have hwr : IntKind.i64.wrap (now + 1) = now + 1 := by rw [IntKind.wrap_i64]; omega
  have hsz2 : (w1.setCell ⟨B, 0, none⟩ (.int .i64 (now + 1))).heap.size = w.heap.size + 2 := by simp [hsz1]
  go_wp2_with fail
  clear hcs cl fB hL1 hg2 hbx hbo hb1
  generalize (w1.setCell ⟨B, 0, none⟩ (.int .i64 (now + 1))) = w2 at *
  refine wp_region_noPanic ?_
  have hcs := hL2.cells
  have cl : w2.cell? ⟨w.heap.size, 0, none⟩ = some (.pointer (some ⟨B, 0, none⟩)) := by simp [World.cell?, hbx2]
  refine wp_region_C (C := fun j w' => (j = 8 ∨ j = 9 ∨ j = 10) ∨ (w'.cell? ⟨w.heap.size, 0, none⟩ = some (.pointer (some ⟨B, 0, none⟩)) ∧ w'.cell? ⟨B, 1, none⟩ = some (.slice A n c))) (by kernel_rfl) ?_
  have hS : w2.drew.cell? ⟨w.heap.size, 0, none⟩ = some (.pointer (some ⟨B, 0, none⟩)) ∧ w2.drew.cell? ⟨B, 1, none⟩ = some (.slice A n c) := ⟨cl, hcs.2⟩
  have hdr : Below w2.heap.size w2 w2.drew := (Below.refl _ _).drew
  have hcl := Lib.hid (CloneA_any A n c xs w2.drew (hL2.below hdr).own.rv (by omega))
  refine wpAnyC_takeL (S := (fun w' => w'.cell? ⟨w.heap.size, 0, none⟩ = some (.pointer (some ⟨B, 0, none⟩)) ∧ w'.cell? ⟨B, 1, none⟩ = some (.slice A n c))) (i := 0) (v := ?vhw1) rfl (by kernel_rfl) (by kernel_rfl) (by kernel_rfl) (fun _ _ _ h => h) (Or.inl ⟨by rfl, ?hw1⟩) ?shw1 ?chw1 ?ihw1 ?rhw1
  case hw1 => ((intro w hSw; (try dsimp only at hSw); (try obtain ⟨hSw1, hSw2⟩ := hSw); go_simp); try with_reducible rfl)
  case shw1 => assumption
  case chw1 => exact fun j w _ _ hw hc => hc.elim (fun e => by rcases e with rfl | rfl | rfl <;> exact (Bool.false_ne_true (hw.symm.trans (by kernel_rfl))).elim) id
  case ihw1 => exact fun w h => .inr h
  try simp only [Act.put, List.setIfInBounds_toArray, List.set_cons_zero, List.set_cons_succ]
  refine wpAnyC_takeL (S := (fun w' => w'.cell? ⟨w.heap.size, 0, none⟩ = some (.pointer (some ⟨B, 0, none⟩)) ∧ w'.cell? ⟨B, 1, none⟩ = some (.slice A n c))) (i := 1) (v := ?vhw2) rfl (by kernel_rfl) (by kernel_rfl) (by kernel_rfl) (fun _ _ _ h => h) (Or.inl ⟨by rfl, ?hw2⟩) ?shw2 ?chw2 ?ihw2 ?rhw2
  case hw2 => ((intro w hSw; (try dsimp only at hSw); (try obtain ⟨hSw1, hSw2⟩ := hSw); go_simp); try with_reducible rfl)
  case shw2 => assumption
  case chw2 => exact fun j w _ _ hw hc => hc.elim (fun e => by rcases e with rfl | rfl | rfl <;> exact (Bool.false_ne_true (hw.symm.trans (by kernel_rfl))).elim) id
  case ihw2 => exact fun w h => .inr h
  try simp only [Act.put, List.setIfInBounds_toArray, List.set_cons_zero, List.set_cons_succ]
  refine wpAnyC_takeL (S := (fun w' => w'.cell? ⟨w.heap.size, 0, none⟩ = some (.pointer (some ⟨B, 0, none⟩)) ∧ w'.cell? ⟨B, 1, none⟩ = some (.slice A n c))) (i := 2) (v := ?vhw3) rfl (by kernel_rfl) (by kernel_rfl) (by kernel_rfl) (fun _ _ _ h => h) (Or.inl ⟨by rfl, ?hw3⟩) ?shw3 ?chw3 ?ihw3 ?rhw3
  case hw3 => ((intro w hSw; (try dsimp only at hSw); (try obtain ⟨hSw1, hSw2⟩ := hSw); go_simp); try with_reducible rfl)
  case shw3 => assumption
  case chw3 => exact fun j w _ _ hw hc => hc.elim (fun e => by rcases e with rfl | rfl | rfl <;> exact (Bool.false_ne_true (hw.symm.trans (by kernel_rfl))).elim) id
  case ihw3 => exact fun w h => .inr h
  try simp only [Act.put, List.setIfInBounds_toArray, List.set_cons_zero, List.set_cons_succ]
  refine wpAnyC_takeL (S := (fun w' => w'.cell? ⟨w.heap.size, 0, none⟩ = some (.pointer (some ⟨B, 0, none⟩)) ∧ w'.cell? ⟨B, 1, none⟩ = some (.slice A n c))) (i := 3) (v := ?vhw4) rfl (by kernel_rfl) (by kernel_rfl) (by kernel_rfl) (fun _ _ _ h => h) (Or.inl ⟨by rfl, ?hw4⟩) ?shw4 ?chw4 ?ihw4 ?rhw4
  case hw4 => ((intro w hSw; (try dsimp only at hSw); (try obtain ⟨hSw1, hSw2⟩ := hSw); go_simp); try with_reducible rfl)
  case shw4 => assumption
  case chw4 => exact fun j w _ _ hw hc => hc.elim (fun e => by rcases e with rfl | rfl | rfl <;> exact (Bool.false_ne_true (hw.symm.trans (by kernel_rfl))).elim) id
  case ihw4 => exact fun w h => .inr h
  try simp only [Act.put, List.setIfInBounds_toArray, List.set_cons_zero, List.set_cons_succ]
  refine wpAnyC_takeL (S := (fun w' => w'.cell? ⟨w.heap.size, 0, none⟩ = some (.pointer (some ⟨B, 0, none⟩)) ∧ w'.cell? ⟨B, 1, none⟩ = some (.slice A n c))) (i := 4) (v := ?vhw5) rfl (by kernel_rfl) (by kernel_rfl) (by kernel_rfl) (fun _ _ _ h => h) (Or.inl ⟨by rfl, ?hw5⟩) ?shw5 ?chw5 ?ihw5 ?rhw5
  case hw5 => ((intro w hSw; (try dsimp only at hSw); (try obtain ⟨hSw1, hSw2⟩ := hSw); go_simp); try with_reducible rfl)
  case shw5 => assumption
  case chw5 => exact fun j w _ _ hw hc => hc.elim (fun e => by rcases e with rfl | rfl | rfl <;> exact (Bool.false_ne_true (hw.symm.trans (by kernel_rfl))).elim) id
  case ihw5 => exact fun w h => .inr h
  try simp only [Act.put, List.setIfInBounds_toArray, List.set_cons_zero, List.set_cons_succ]
  refine wpAnyC_takeL (S := (fun w' => w'.cell? ⟨w.heap.size, 0, none⟩ = some (.pointer (some ⟨B, 0, none⟩)) ∧ w'.cell? ⟨B, 1, none⟩ = some (.slice A n c))) (i := 6) (v := ?vhw6) rfl (by kernel_rfl) (by kernel_rfl) (by kernel_rfl) (fun _ _ _ h => h) (Or.inl ⟨by rfl, ?hw6⟩) ?shw6 ?chw6 ?ihw6 ?rhw6
  case hw6 => ((intro w hSw; (try dsimp only at hSw); (try obtain ⟨hSw1, hSw2⟩ := hSw); go_simp); try with_reducible rfl)
  case shw6 => assumption
  case chw6 => exact fun j w _ _ hw hc => hc.elim (fun e => by rcases e with rfl | rfl | rfl <;> exact (Bool.false_ne_true (hw.symm.trans (by kernel_rfl))).elim) id
  case ihw6 => exact fun w h => .inr h
  try simp only [Act.put, List.setIfInBounds_toArray, List.set_cons_zero, List.set_cons_succ]
  refine wpAnyC_ready (rs := [5]) (by kernel_rfl) (by simp) ?_
  refine (AllReadyC.consL (i := 5) rfl (fun K hK => ?_) AllReadyC.nil)
  go_simp
  refine hcl.out.mono ?_
  rintro e w3 ⟨A3, c3, rfl, hO3, hb3⟩
  have hb3' : Below w2.heap.size w2 w3 := gr hdr hb3
  have hL3 := hL2.below hb3'
  have hbx3 := (hb3'.block w.heap.size (by omega)).trans hbx2
  have hbo3 := box_in hbo2 hb3'
  have hS3 : w3.cell? ⟨w.heap.size, 0, none⟩ = some (.pointer (some ⟨B, 0, none⟩)) ∧ w3.cell? ⟨B, 1, none⟩ = some (.slice A n c) := ⟨by simp [World.cell?, hbx3], hL3.cells.2⟩
  have hz3 := hb3'.size
  refine hK.out _ _ (.inr hS3) ?_
  clear hK hcl hS cl
  try simp only [Act.put, List.setIfInBounds_toArray, List.set_cons_zero, List.set_cons_succ]
  have hTJ : TJ w2 w3 w.heap.size B w.heap.size (w.heap.size + 1) [] := ⟨hb3'.mono (by omega), by omega, hbx3, none, 0, hbo3, Ov.nil _ _ _ _⟩
  have hO3' : Ov w3 w.heap.size 74 6 A3 n c3 (acells xs) := hO3.ge (by show w.heap.size ≤ w2.heap.size; omega)
  have hdel := Lib.hid (DelT_any (now + 1) hTJ (by omega) hbl hcs.1 hO3' hw (by omega) (by omega) hn)
  refine wpAnyC_ready (rs := [7]) (by kernel_rfl) (by simp) ?_
  refine (AllReadyC.consL (i := 7) rfl (fun K hK => ?_) AllReadyC.nil)
  go_simp
  refine hdel.out.mono ?_
  rintro e w4 ⟨hz4, rfl, hO4, hT4⟩
  have hg04 : w.grownBy w4 (some B) := by
    have hb := hT4.bel
    exact ⟨hb.os.trans hg02.os, hb.tape.trans hg02.tape, hb.output.trans hg02.output, hz4, fun k hk hne => (hb.block k hk).trans (hg02.block k hk hne)⟩
  have hL4 : LK w4 base B (now + 1) A n c xs := hL2.belowH hT4.bel hbl hAo hto
  have hS4 : w4.cell? ⟨w.heap.size, 0, none⟩ = some (.pointer (some ⟨B, 0, none⟩)) ∧ w4.cell? ⟨B, 1, none⟩ = some (.slice A n c) := ⟨by have := hT4.bl; simp [World.cell?, this], hL4.cells.2⟩
  refine hK.out _ _ (.inr hS4) ?_
  clear hK hdel
  try simp only [Act.put, List.setIfInBounds_toArray, List.set_cons_zero, List.set_cons_succ]
  refine wpAnyC_takeL (S := (fun _ => True)) (i := 8) (v := ?vhw7) rfl (by kernel_rfl) (by kernel_rfl) (by kernel_rfl) (fun _ _ _ h => h) (Or.inl ⟨by rfl, ?hw7⟩) ?shw7 ?chw7 ?ihw7 ?rhw7
  case hw7 => ((intro w hSw; (try dsimp only at hSw); (try obtain ⟨hSw1, hSw2⟩ := hSw); go_simp); try with_reducible rfl)
  case shw7 => trivial
  case chw7 => exact fun _ _ _ _ _ _ => trivial
  case ihw7 => exact fun w h => .inl (by decide)
  try simp only [Act.put, List.setIfInBounds_toArray, List.set_cons_zero, List.set_cons_succ]
  refine wpAnyC_takeL (S := (fun _ => True)) (i := 9) (v := ?vhw8) rfl (by kernel_rfl) (by kernel_rfl) (by kernel_rfl) (fun _ _ _ h => h) (Or.inl ⟨by rfl, ?hw8⟩) ?shw8 ?chw8 ?ihw8 ?rhw8
  case hw8 => ((intro w hSw; (try dsimp only at hSw); (try obtain ⟨hSw1, hSw2⟩ := hSw); go_simp); try with_reducible rfl)
  case shw8 => trivial
  case chw8 => exact fun _ _ _ _ _ _ => trivial
  case ihw8 => exact fun w h => .inl (by decide)
  try simp only [Act.put, List.setIfInBounds_toArray, List.set_cons_zero, List.set_cons_succ]
  refine wpAnyC_ready (rs := [10]) (by kernel_rfl) (by simp) ?_
  refine (AllReadyC.consL (i := 10) rfl (fun K hK => ?_) AllReadyC.nil)
  have cB := hL4.cells
  have fB := hL4.frozen 1
  go_simp
  have hmem : ∀ x ∈ stayK (now + 1) xs, x ∈ xs := fun x hx => (List.mem_filter.1 hx).1
  have hL5 := hL4.setAsks (ys := stayK (now + 1) xs) (hO4.ge hbw) (fun x hx => hL4.tabs x (hmem x hx))
  have hg5 := grownBy_at w4 B 1 (.slice A3 (stayK (now + 1) xs).length c3)
  have hg05 := grown_tr hg04 hg5
  obtain ⟨R, d, hbo4, hR4⟩ := hT4.ex
  have hbl4 := (Array.getElem?_eq_some_iff.1 hT4.bl).1
  have hbx5 := (hg5.block w.heap.size hbl4 (fun e => by injection e with e; omega)).trans hT4.bl
  have hbo5 : Boxed (w4.setCell ⟨B, 1, none⟩ (.slice A3 (stayK (now + 1) xs).length c3)) (w.heap.size + 1) 36 (.slice R (hsK (now + 1) xs).length d) := (hg5.block (w.heap.size + 1) hbo4.lt (fun e => by injection e with e; omega)).trans hbo4
  have hR5 := hR4.grown hg5 (fun b hb e => hR4.ne hL4.box (by decide) (by rw [hb, e]))
  have hsl : (stayK (now + 1) xs).length < 20 := by
    have := List.length_filter_le (fun x => !(lateK (now + 1) x)) xs
    unfold stayK
    omega
  refine hK.out _ _ (.inl (by decide)) ?_
  clear hK cB fB
  try simp only [Act.put, List.setIfInBounds_toArray, List.set_cons_zero, List.set_cons_succ]
  refine wpAnyC_done (by kernel_rfl) ?_ _
  refine NoPanic.normal ?_
  clear hL4 hT4 hR4 hbo4 hO4 hg04 hg5 hL3 hL2 hbx2 hbo2 hbx3 hbo3 hTJ hO3 hO3' hS3 hS4 hcs hb3 hb3' hdr hbl4
  generalize (w4.setCell ⟨B, 1, none⟩ (.slice A3 (stayK (now + 1) xs).length c3)) = w5 at *
  obtain ⟨st, hst⟩ : ∃ st, stayK (now + 1) xs = st := ⟨_, rfl⟩
  obtain ⟨ov, hov⟩ : ∃ ov, hsK (now + 1) xs = ov := ⟨_, rfl⟩
  rw [hst] at hL5 hsl hmem ⊢
  rw [hov] at hbo5 hR5
  replace hst := Lib.hid hst
  replace hov := Lib.hid hov
  go_wp2_with fail
  refine wp_region_noPanic ?_
  have cl5 : w5.cell? ⟨w.heap.size, 0, none⟩ = some (.pointer (some ⟨B, 0, none⟩)) := by simp [World.cell?, hbx5]
  have co5 := hbo5.cell
  have hse := Lib.hid (Settle_any (w := w5.drew) (hL5.below (Below.refl _ _).drew) hsl)
  refine wp_region_held_drew (S := fun w' => w'.cell? ⟨w.heap.size, 0, none⟩ = some (.pointer (some ⟨B, 0, none⟩)) ∧ w'.cell? ⟨w.heap.size + 1, 0, none⟩ = some (.slice R ov.length d)) (by kernel_rfl) ⟨cl5, co5⟩ (fun hHeld => ?_)
  refine wpAnyH_takeL (i := 0) (v := ?vhy9) rfl (by kernel_rfl) (by kernel_rfl) (by kernel_rfl) (fun _ _ _ h => h) (Or.inl ⟨by rfl, ?hy9⟩) (by assumption) ?rhy9
  case hy9 => ((intro w hSw; (try dsimp only at hSw); go_simp); try with_reducible rfl)
  try simp only [Act.put, List.setIfInBounds_toArray, List.set_cons_zero, List.set_cons_succ]
  refine wpAnyH_takeL (i := 1) (v := ?vhy10) rfl (by kernel_rfl) (by kernel_rfl) (by kernel_rfl) (fun _ _ _ h => h) (Or.inl ⟨by rfl, ?hy10⟩) (by assumption) ?rhy10
  case hy10 => ((intro w hSw; (try dsimp only at hSw); go_simp); try with_reducible rfl)
  try simp only [Act.put, List.setIfInBounds_toArray, List.set_cons_zero, List.set_cons_succ]
  refine wpAnyH_ready (rs := [2]) (by kernel_rfl) (by simp) ?_
  refine AllReadyH.consL (i := 2) rfl (fun K hK => ?_) AllReadyH.nil
  go_simp
  refine hse.out.mono ?_
  rintro e w6 ⟨A6, c6, R2, d2, rfl, hL6, hR6, hA6, hg6⟩
  have hbl5 := (Array.getElem?_eq_some_iff.1 hbx5).1
  have hbx6 := (hg6.block w.heap.size hbl5 (fun e => by injection e with e; omega)).trans hbx5
  have hbo6 : Boxed w6 (w.heap.size + 1) 36 (.slice R ov.length d) := (hg6.block (w.heap.size + 1) hbo5.lt (fun e => by injection e with e; omega)).trans hbo5
  have hRb : ∀ g, ab R = some g → w6.heap[g]? = w5.heap[g]? := fun g hg => hg6.block g (hR5.ab g hg).2 (fun e => hR5.ne hL5.box (by decide) (by rw [hg, e]))
  have hR56 := hR5.ofBlock hRb
  have hS6 : w6.cell? ⟨w.heap.size, 0, none⟩ = some (.pointer (some ⟨B, 0, none⟩)) ∧ w6.cell? ⟨w.heap.size + 1, 0, none⟩ = some (.slice R ov.length d) := ⟨by simp [World.cell?, hbx6], hbo6.cell⟩
  have hg06 : w.grownBy w6 (some B) := ⟨hg6.os.trans hg05.os, hg6.tape.trans hg05.tape, hg6.output.trans hg05.output, Nat.le_trans hg05.size hg6.size, fun k hk hne => (hg6.block k (Nat.lt_of_lt_of_le hk hg05.size) hne).trans (hg05.block k hk hne)⟩
  have hz5 := hg05.size
  have hbo5l := hbo5.lt
  have hR6b : ∀ g, ab R2 = some g → g ≠ w.heap.size + 1 := fun g hg => by have := (hR6.ab g hg).1; have e : w5.drew.heap.size = w5.heap.size := rfl; omega
  refine hK.out _ _ hS6 (fun hHeld => ?_)
  clear hK hse hHeld
  try simp only [Act.put, List.setIfInBounds_toArray, List.set_cons_zero, List.set_cons_succ]
  have f6 := hbo6.frozen
  have c6' := hbo6.cell
  have hg7 := grownBy_at w6 (w.heap.size + 1) 0 (.slice R ov.length d)
  have hL7 : LK (w6.setCell ⟨w.heap.size + 1, 0, none⟩ (.slice R ov.length d)) base B (now + 1) A6 st.length c6 (settleK st).1 := hL6.grown hg7 (fun k e => by injection e with e; subst e; exact ⟨_, _, hbo6, by decide, by decide, by decide⟩)
  have hR7 := hR6.grown hg7 (fun b hb e => hR6b b hb (by injection e))
  have hR57 := hR56.grown hg7 (fun b hb e => hR56.ne hbo6 (by decide) (by rw [hb, e]))
  have hg07 : w.grownBy (w6.setCell ⟨w.heap.size + 1, 0, none⟩ (.slice R ov.length d)) (some B) := grownB hg06 hg7 (fun x e => by injection e with e; omega)
  have hbo7 : Boxed (w6.setCell ⟨w.heap.size + 1, 0, none⟩ (.slice R ov.length d)) (w.heap.size + 1) 36 (.slice R ov.length d) := hbo6.set _
  have hbx7 := (hg7.block w.heap.size (Array.getElem?_eq_some_iff.1 hbx6).1 (fun e => by injection e with e; omega)).trans hbx6
  refine wpAnyH_ready (rs := [3]) (by kernel_rfl) (by simp) ?_
  refine AllReadyH.consL (i := 3) rfl (fun K hK => ?_) AllReadyH.nil
  go_simp
  refine hK.out _ _ ⟨by simp [World.cell?, hbx7], hbo7.cell⟩ (fun hHeld => ?_)
  clear hK hHeld
  try simp only [Act.put, List.setIfInBounds_toArray, List.set_cons_zero, List.set_cons_succ]
  clear f6 c6' hg7 hL6 hR6 hR56 hbo6 hbx6 hS6 hg06
  generalize (w6.setCell ⟨w.heap.size + 1, 0, none⟩ (.slice R ov.length d)) = w7 at *
  have hHeld : w7.cell? ⟨w.heap.size, 0, none⟩ = some (.pointer (some ⟨B, 0, none⟩)) ∧ w7.cell? ⟨w.heap.size + 1, 0, none⟩ = some (.slice R ov.length d) := ⟨by simp [World.cell?, hbx7], hbo7.cell⟩
  refine wpAnyH_takeL (i := 4) (v := ?vhy11) rfl (by kernel_rfl) (by kernel_rfl) (by kernel_rfl) (fun _ _ _ h => h) (Or.inl ⟨by rfl, ?hy11⟩) (by assumption) ?rhy11
  case hy11 => ((intro w hSw; (try dsimp only at hSw); go_simp); try with_reducible rfl)
  try simp only [Act.put, List.setIfInBounds_toArray, List.set_cons_zero, List.set_cons_succ]
  refine wpAnyH_done (by kernel_rfl) ?_ _
  refine NoPanic.normal ?_
  have c7 := hbo7.cell
  go_wp2_with fail
  refine bodyPost_ret (v := .tuple #[.slice R ov.length d, .slice R2 (settleK st).2.length d2]) ?_ rfl ?_
  · simp [results, Tryd.f14, go_sem, c7]
  · rw [hst.out, hov.out]
    exact ⟨A6, c6, R, d, R2, d2, rfl, hL7, hR57.rv, hR7.rv, fun g hg => Nat.le_trans hz5 (hA6 g hg), hg07⟩
end Go.Proofs.YtnjhhibjcfjhnaaDoor
