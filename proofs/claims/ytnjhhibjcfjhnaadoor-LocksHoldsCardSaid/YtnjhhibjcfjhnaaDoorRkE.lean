/- The reference's without and Release. -/
import Derived.Test.YtnjhhibjcfjhnaaDoorRkD
namespace Go.Proofs.YtnjhhibjcfjhnaaDoor
open Go.RowKit
set_option linter.unusedVariables false

theorem step_append_m {P : Program} (w : World) {ops : Array Oper} {o : Oper} {a : Act} {K : Act → World → Prop} {Q : Exit → Act → World → Prop} {E : Prop} (hgd : o.guard = none) (s x : Operand) (t : TypeId)
    (ho : o.op = .call { callee := .builtin .append, args := #[s, x], argTypes := #[t, t] })
    (e : TypeId) (z : Value) (size bytes : Nat) (ht : P.underlying t = some (.slice e)) (hi : (P.info? e).map (fun i => (i.zero, i.size, i.bytes)) = some (some z, size, bytes)) (hzs : z.cells.size = size) (hsz : 0 < size)
    (base : Nat) (A : Option Addr) (n c : Nat) (xs : List Value) (hs : a.eval s = .slice A n c) (hown : Ov w base e size A n c xs)
    (B : Option Addr) (m d : Nat) (ys : List Value) (hx : a.eval x = .slice B m d) (hr : Rv w size B m d ys) (h1 : ∀ u ∈ ys, u.oneCell' = true)
    (hlen : n + m ≤ 100000) (hby : bytes ≤ 100000) (hbase : base ≤ w.heap.size)
    (h : ∀ A' c' w', Ov w' base e size A' (n + m) c' (xs ++ ys) → w.grownBy w' (ab A) → (ab A' = ab A ∨ ab A' = some w.heap.size) → K (a.put o.dst (.slice A' (n + m) c')) w') :
    if Region.wanted o (yielded ops a.tmps) = true then Oper.wp P o a w K Q else E := by
  have hw : Region.wanted o (yielded ops a.tmps) = true := by simp [Region.wanted, hgd]
  rw [if_pos hw]
  obtain ⟨i, hi1, hi2, hi3, hi4⟩ := info_parts hi
  refine wp_append_v w s x t ho e i z size bytes ht hi1 hi2 hi3 hi4 hzs hsz base A n c xs hs hown B m d ys hx hr h1 ?_ ?_ hbase h
  · unfold maxLen
    omega
  · have := Nat.mul_le_mul (show n + m ≤ 100000 by omega) hby
    omega
theorem rcells_take (xs : List Ak) (i : Nat) : rcells (xs.take i) = (rcells xs).take (i * 6) := flat_take (f := Ak.rcells) (k := 6) (fun _ => rfl) xs i
theorem rcells_drop (xs : List Ak) (i : Nat) : rcells (xs.drop i) = (rcells xs).drop (i * 6) := by
  by_cases h : i ≤ xs.length
  · have hl := rcells_length (xs.take i)
    rw [List.length_take, Nat.min_eq_left h] at hl
    rw [show rcells xs = rcells (xs.take i) ++ rcells (xs.drop i) from by rw [← rcells_app, List.take_append_drop], List.drop_append_of_le_length (by omega), show (rcells (xs.take i)).drop (i * 6) = [] from List.drop_of_length_le (by omega), List.nil_append]
  · rw [List.drop_of_length_le (by omega), List.drop_of_length_le (by rw [rcells_length]; omega)]
    rfl
theorem Rv.dropK {w : World} {k : Nat} {A : Option Addr} {n c : Nat} {xs : List Value} (h : Rv w k A n c xs) (lo : Nat) (hl : lo ≤ n) : Rv w k (cutK A c lo k) (n - lo) (c - lo) (xs.drop (lo * k)) := by
  obtain ⟨h1, h2, h3, h4⟩ := h
  refine ⟨?_, by omega, by omega, fun hp => ?_⟩
  · rw [List.length_drop, h1, Nat.sub_mul]
  · obtain ⟨b, o, rfl, hb, hc⟩ := h4 (by omega)
    refine ⟨b, o + lo * k, ?_, hb, fun j u hu => ?_⟩
    · unfold cutK
      rw [if_neg (by omega), Option.map_some, Addr.add_lit]
    · rw [List.getElem?_drop] at hu
      have := hc _ _ hu
      rw [Nat.add_assoc]
      exact this
theorem results_l1 {fn : Func} {s : Tmp} (h : fn.results = #[.cell s 45]) (tmps : Array Value) (w : World) {B : Nat} {now : Int} {A : Option Addr} {n c : Nat} (hs : tmps.getD s undef = .pointer (some ⟨B, 0, none⟩))
    (h0 : w.cell? ⟨B, 0, none⟩ = some (.int .i64 now)) (h1 : w.cell? ⟨B, 1, none⟩ = some (.slice A n c)) :
    (results fn tmps).run Tryd.prog w = .ok (.agg #[.int .i64 now, .slice A n c]) w := by
  rw [Array.getD_eq_getD_getElem?] at hs
  simp [results, h, hs, go_sem, h0, h1]
theorem info_Rc : Tryd.prog.cellsOf 96 = 6 := by kernel_rfl

set_option maxRecDepth 100000 in
set_option maxHeartbeats 8000000 in
theorem RWo_any (A : Option Addr) (n c : Nat) (xs : List Ak) (now : Int) (i : Nat) (w : World) (hr : Rv w 6 A n c (rcells xs)) (hi : i < n) (hn : n < 20) :
    Calls Tryd.prog 63 #[.agg #[.int .i64 now, .slice A n c], .int .i64 (i : Int)] w fun e w' => ∃ A' c', e = .returned (.agg #[.int .i64 now, .slice A' (n - 1) c']) ∧
      Ov w' w.heap.size 96 6 A' (n - 1) c' (rcells (xs.eraseIdx i)) ∧ Below w.heap.size w w' := by
  obtain ⟨iR, hiR, hzR, hsR, hbR⟩ := info_parts info_R
  have hxn : xs.length = n := by have := hr.1; rw [rcells_length] at this; omega
  have hle := hr.2.1
  have hcap : c ≤ 9223372036854775807 := hr.2.2.1
  have hb0 : Below w.heap.size w (w.alloc (.cells #[.int .i64 now, .slice A n c] 45)) := (Below.refl _ _).alloc (Nat.le_refl _) _
  have hb1 : Below (w.alloc (.cells #[.int .i64 now, .slice A n c] 45)).heap.size (w.alloc (.cells #[.int .i64 now, .slice A n c] 45)) ((w.alloc (.cells #[.int .i64 now, .slice A n c] 45)).alloc (.cells #[.int .i64 0, .slice none 0 0] 45)) := (Below.refl _ _).alloc (Nat.le_refl _) _
  have kx := (hb1.block w.heap.size (by simp)).trans (World.alloc_heap_new w (.cells #[.int .i64 now, .slice A n c] 45))
  have kr := World.alloc_heap_new (w.alloc (.cells #[.int .i64 now, .slice A n c] 45)) (.cells #[.int .i64 0, .slice none 0 0] 45)
  rw [World.size_alloc] at kr
  have hb2 := gr hb0 hb1
  have hsz : ((w.alloc (.cells #[.int .i64 now, .slice A n c] 45)).alloc (.cells #[.int .i64 0, .slice none 0 0] 45)).heap.size = w.heap.size + 1 + 1 := by simp
  clear hb0 hb1
  have SA := fun w' => run_slice_hiK (P := Tryd.prog) 43 96 6 Tryd.underlying43 iR hiR info_Rc A n c i (by omega) w'
  rw [cutK_zero] at SA
  have SB := fun w' => run_slice_loK (P := Tryd.prog) 43 96 6 Tryd.underlying43 iR hiR info_Rc A n c (i + 1) (by omega) (by omega) w'
  simp only [Int.natCast_add, Int.natCast_one] at SB
  have hr1 : Rv w 6 A i c (rcells (xs.take i)) := by rw [rcells_take]; exact hr.takeN i (by omega)
  have hr2 : Rv w 6 (cutK A c (i + 1) 6) (n - (i + 1)) (c - (i + 1)) (rcells (xs.drop (i + 1))) := by rw [rcells_drop]; exact hr.dropK (i + 1) (by omega)
  have ho1 := rcells_one (xs.take i)
  have ho2 := rcells_one (xs.drop (i + 1))
  have her : rcells (xs.take i) ++ rcells (xs.drop (i + 1)) = rcells (xs.eraseIdx i) := by rw [← rcells_app, List.eraseIdx_eq_take_drop_succ]
  replace her := Lib.hid her
  clear hr
  go_enter Tryd.func63, Tryd.ntmps63
  go_upto_region 1 with fail
  generalize ((w.alloc (.cells #[.int .i64 now, .slice A n c] 45)).alloc (.cells #[.int .i64 0, .slice none 0 0] 45)) = w2 at *
  refine wp_region_noPanic ?_
  have hS := (box_cells kx).1
  refine wp_region_C (C := fun j w' => (j = 12 ∨ j = 13) ∨ (w'.cell? ⟨w.heap.size, 0, none⟩ = some (.int .i64 now) ∧ w'.cell? ⟨w.heap.size, 1, none⟩ = some (.slice A n c))) (by kernel_rfl) ?_
  replace hS : w2.drew.cell? ⟨w.heap.size, 0, none⟩ = some (.int .i64 now) ∧ w2.drew.cell? ⟨w.heap.size, 1, none⟩ = some (.slice A n c) := hS
  have hcw : IntKind.i64.wrap ((i : Int) + 1) = (i : Int) + 1 := by rw [IntKind.wrap_i64]; omega
  refine wpAnyC_takeL (S := (fun w' => w'.cell? ⟨w.heap.size, 0, none⟩ = some (.int .i64 now) ∧ w'.cell? ⟨w.heap.size, 1, none⟩ = some (.slice A n c))) (i := 1) (v := ?vhw1) rfl (by kernel_rfl) (by kernel_rfl) (by kernel_rfl) (fun _ _ _ h => h) (Or.inl ⟨by rfl, ?hw1⟩) ?shw1 ?chw1 ?ihw1 ?rhw1
  case hw1 => ((intro w hSw; (try dsimp only at hSw); (try obtain ⟨hSw1, hSw2⟩ := hSw); go_simp); try with_reducible rfl)
  case shw1 => assumption
  case chw1 => exact fun j w _ _ hw hc => hc.elim (fun e => by rcases e with rfl | rfl <;> exact (Bool.false_ne_true (hw.symm.trans (by kernel_rfl))).elim) id
  case ihw1 => exact fun w h => .inr h
  try simp only [Act.put, List.setIfInBounds_toArray, List.set_cons_zero, List.set_cons_succ]
  refine wpAnyC_takeL (S := (fun w' => w'.cell? ⟨w.heap.size, 0, none⟩ = some (.int .i64 now) ∧ w'.cell? ⟨w.heap.size, 1, none⟩ = some (.slice A n c))) (i := 2) (v := ?vhw2) rfl (by kernel_rfl) (by kernel_rfl) (by kernel_rfl) (fun _ _ _ h => h) (Or.inl ⟨by rfl, ?hw2⟩) ?shw2 ?chw2 ?ihw2 ?rhw2
  case hw2 => ((intro w hSw; (try dsimp only at hSw); (try obtain ⟨hSw1, hSw2⟩ := hSw); go_simp); try with_reducible rfl)
  case shw2 => assumption
  case chw2 => exact fun j w _ _ hw hc => hc.elim (fun e => by rcases e with rfl | rfl <;> exact (Bool.false_ne_true (hw.symm.trans (by kernel_rfl))).elim) id
  case ihw2 => exact fun w h => .inr h
  try simp only [Act.put, List.setIfInBounds_toArray, List.set_cons_zero, List.set_cons_succ]
  refine wpAnyC_takeL (S := (fun w' => w'.cell? ⟨w.heap.size, 0, none⟩ = some (.int .i64 now) ∧ w'.cell? ⟨w.heap.size, 1, none⟩ = some (.slice A n c))) (i := 3) (v := ?vhw3) rfl (by kernel_rfl) (by kernel_rfl) (by kernel_rfl) (fun _ _ _ h => h) (Or.inl ⟨by rfl, ?hw3⟩) ?shw3 ?chw3 ?ihw3 ?rhw3
  case hw3 => ((intro w hSw; (try dsimp only at hSw); (try obtain ⟨hSw1, hSw2⟩ := hSw); go_simp); try with_reducible rfl)
  case shw3 => assumption
  case chw3 => exact fun j w _ _ hw hc => hc.elim (fun e => by rcases e with rfl | rfl <;> exact (Bool.false_ne_true (hw.symm.trans (by kernel_rfl))).elim) id
  case ihw3 => exact fun w h => .inr h
  try simp only [Act.put, List.setIfInBounds_toArray, List.set_cons_zero, List.set_cons_succ]
  refine wpAnyC_takeL (S := (fun w' => w'.cell? ⟨w.heap.size, 0, none⟩ = some (.int .i64 now) ∧ w'.cell? ⟨w.heap.size, 1, none⟩ = some (.slice A n c))) (i := 4) (v := ?vhw4) rfl (by kernel_rfl) (by kernel_rfl) (by kernel_rfl) (fun _ _ _ h => h) (Or.inl ⟨by rfl, ?hw4⟩) ?shw4 ?chw4 ?ihw4 ?rhw4
  case hw4 => ((intro w hSw; (try dsimp only at hSw); (try obtain ⟨hSw1, hSw2⟩ := hSw); go_simp); try with_reducible rfl)
  case shw4 => assumption
  case chw4 => exact fun j w _ _ hw hc => hc.elim (fun e => by rcases e with rfl | rfl <;> exact (Bool.false_ne_true (hw.symm.trans (by kernel_rfl))).elim) id
  case ihw4 => exact fun w h => .inr h
  try simp only [Act.put, List.setIfInBounds_toArray, List.set_cons_zero, List.set_cons_succ]
  refine wpAnyC_takeL (S := (fun w' => w'.cell? ⟨w.heap.size, 0, none⟩ = some (.int .i64 now) ∧ w'.cell? ⟨w.heap.size, 1, none⟩ = some (.slice A n c))) (i := 6) (v := ?vhw5) rfl (by kernel_rfl) (by kernel_rfl) (by kernel_rfl) (fun _ _ _ h => h) (Or.inl ⟨by rfl, ?hw5⟩) ?shw5 ?chw5 ?ihw5 ?rhw5
  case hw5 => ((intro w hSw; (try dsimp only at hSw); (try obtain ⟨hSw1, hSw2⟩ := hSw); go_simp); try with_reducible rfl)
  case shw5 => assumption
  case chw5 => exact fun j w _ _ hw hc => hc.elim (fun e => by rcases e with rfl | rfl <;> exact (Bool.false_ne_true (hw.symm.trans (by kernel_rfl))).elim) id
  case ihw5 => exact fun w h => .inr h
  try simp only [Act.put, List.setIfInBounds_toArray, List.set_cons_zero, List.set_cons_succ]
  refine wpAnyC_takeL (S := (fun w' => w'.cell? ⟨w.heap.size, 0, none⟩ = some (.int .i64 now) ∧ w'.cell? ⟨w.heap.size, 1, none⟩ = some (.slice A n c))) (i := 7) (v := ?vhw6) rfl (by kernel_rfl) (by kernel_rfl) (by kernel_rfl) (fun _ _ _ h => h) (Or.inl ⟨by rfl, ?hw6⟩) ?shw6 ?chw6 ?ihw6 ?rhw6
  case hw6 => ((intro w hSw; (try dsimp only at hSw); (try obtain ⟨hSw1, hSw2⟩ := hSw); go_simp); try with_reducible rfl)
  case shw6 => assumption
  case chw6 => exact fun j w _ _ hw hc => hc.elim (fun e => by rcases e with rfl | rfl <;> exact (Bool.false_ne_true (hw.symm.trans (by kernel_rfl))).elim) id
  case ihw6 => exact fun w h => .inr h
  try simp only [Act.put, List.setIfInBounds_toArray, List.set_cons_zero, List.set_cons_succ]
  refine wpAnyC_takeL (S := (fun w' => w'.cell? ⟨w.heap.size, 0, none⟩ = some (.int .i64 now) ∧ w'.cell? ⟨w.heap.size, 1, none⟩ = some (.slice A n c))) (i := 8) (v := ?vhw7) rfl (by kernel_rfl) (by kernel_rfl) (by kernel_rfl) (fun _ _ _ h => h) (Or.inl ⟨by rfl, ?hw7⟩) ?shw7 ?chw7 ?ihw7 ?rhw7
  case hw7 => ((intro w hSw; (try dsimp only at hSw); (try obtain ⟨hSw1, hSw2⟩ := hSw); go_simp); try with_reducible rfl)
  case shw7 => assumption
  case chw7 => exact fun j w _ _ hw hc => hc.elim (fun e => by rcases e with rfl | rfl <;> exact (Bool.false_ne_true (hw.symm.trans (by kernel_rfl))).elim) id
  case ihw7 => exact fun w h => .inr h
  try simp only [Act.put, List.setIfInBounds_toArray, List.set_cons_zero, List.set_cons_succ]
  refine wpAnyC_takeL (S := (fun w' => w'.cell? ⟨w.heap.size, 0, none⟩ = some (.int .i64 now) ∧ w'.cell? ⟨w.heap.size, 1, none⟩ = some (.slice A n c))) (i := 9) (v := ?vhw8) rfl (by kernel_rfl) (by kernel_rfl) (by kernel_rfl) (fun _ _ _ h => h) (Or.inl ⟨by rfl, ?hw8⟩) ?shw8 ?chw8 ?ihw8 ?rhw8
  case hw8 => ((intro w hSw; (try dsimp only at hSw); (try obtain ⟨hSw1, hSw2⟩ := hSw); go_simp); try with_reducible rfl)
  case shw8 => assumption
  case chw8 => exact fun j w _ _ hw hc => hc.elim (fun e => by rcases e with rfl | rfl <;> exact (Bool.false_ne_true (hw.symm.trans (by kernel_rfl))).elim) id
  case ihw8 => exact fun w h => .inr h
  try simp only [Act.put, List.setIfInBounds_toArray, List.set_cons_zero, List.set_cons_succ]
  refine wpAnyC_takeL (S := (fun w' => w'.cell? ⟨w.heap.size, 0, none⟩ = some (.int .i64 now) ∧ w'.cell? ⟨w.heap.size, 1, none⟩ = some (.slice A n c))) (i := 10) (v := ?vhw9) rfl (by kernel_rfl) (by kernel_rfl) (by kernel_rfl) (fun _ _ _ h => h) (Or.inl ⟨by rfl, ?hw9⟩) ?shw9 ?chw9 ?ihw9 ?rhw9
  case hw9 => ((intro w hSw; (try dsimp only at hSw); (try obtain ⟨hSw1, hSw2⟩ := hSw); go_simp); try with_reducible rfl)
  case shw9 => assumption
  case chw9 => exact fun j w _ _ hw hc => hc.elim (fun e => by rcases e with rfl | rfl <;> exact (Bool.false_ne_true (hw.symm.trans (by kernel_rfl))).elim) id
  case ihw9 => exact fun w h => .inr h
  try simp only [Act.put, List.setIfInBounds_toArray, List.set_cons_zero, List.set_cons_succ]
  have hba : Below w2.heap.size w2 (w2.alloc (.cells #[] 96)).drew := ((Below.refl _ _).alloc (Nat.le_refl _) _).drew
  have hOa : Ov (w2.alloc (.cells #[] 96)).drew w2.heap.size 96 6 (some ⟨w2.heap.size, 0, none⟩) 0 0 [] := by
    have h := World.ownsRow_lit (base := w2.heap.size) (e := 96) (size := 6) w2.drew #[] 0 (Nat.le_refl _) (by simp [maxLen]) (by simp)
    exact h
  have kx3 := (hba.block w.heap.size (by omega)).trans kx
  have kr3 := (hba.block (w.heap.size + 1) (by omega)).trans kr
  have hb3 := gr hb2 hba
  have hz3 : (w2.alloc (.cells #[] 96)).drew.heap.size = w.heap.size + 1 + 1 + 1 := by rw [← hsz]; simp
  rw [hsz] at hOa
  refine wpAnyC_ready (rs := [0]) (by kernel_rfl) (by simp) ?_
  refine (AllReadyC.consL (i := 0) rfl (fun K hK => ?_) AllReadyC.nil)
  go_simp
  replace hS := (box_cells kx3).1
  refine hK.out _ _ (.inr hS) ?_
  clear hK hba
  generalize (w2.alloc (.cells #[] 96)).drew = w3 at *
  try simp only [Act.put, List.setIfInBounds_toArray, List.set_cons_zero, List.set_cons_succ]
  refine wpAnyC_ready (rs := [5]) (by kernel_rfl) (by simp) ?_
  refine (AllReadyC.consL (i := 5) rfl (fun K hK => ?_) AllReadyC.nil)
  refine step_append_m _ rfl (.tmp 5) (.tmp 9) 43 rfl 96 zeroR 6 56 Tryd.underlying43 (by kernel_rfl) rfl (by decide) (w.heap.size + 1 + 1) (some ⟨w.heap.size + 1 + 1, 0, none⟩) 0 0 [] rfl hOa A i c (rcells (xs.take i)) rfl (hr1.below hb3) ho1 (by omega) (by decide) (by omega) ?_
  intro A4 c4 w4 hO4 hg4 hab4
  have hb4 := hb3.grown hg4 (by omega) (fun k e => by have e : w.heap.size + 1 + 1 = k := Option.some.inj e; omega)
  have kx4 := (hg4.block w.heap.size (by omega) (fun e => by have e : w.heap.size = w.heap.size + 1 + 1 := Option.some.inj e; omega)).trans kx3
  have kr4 := (hg4.block (w.heap.size + 1) (by omega) (fun e => by have e : w.heap.size + 1 = w.heap.size + 1 + 1 := Option.some.inj e; omega)).trans kr3
  have hz4 := hg4.size
  replace hS := (box_cells kx4).1
  refine hK.out _ _ (.inr hS) ?_
  clear hK hOa
  try simp only [Act.put, List.setIfInBounds_toArray, List.set_cons_zero, List.set_cons_succ]
  refine wpAnyC_ready (rs := [11]) (by kernel_rfl) (by simp) ?_
  refine (AllReadyC.consL (i := 11) rfl (fun K hK => ?_) AllReadyC.nil)
  refine step_append_m _ rfl (.tmp 10) (.tmp 15) 43 rfl 96 zeroR 6 56 Tryd.underlying43 (by kernel_rfl) rfl (by decide) (w.heap.size + 1 + 1) A4 (0 + i) c4 ([] ++ rcells (xs.take i)) rfl hO4 (cutK A c (i + 1) 6) (n - (i + 1)) (c - (i + 1)) (rcells (xs.drop (i + 1))) rfl (hr2.below hb4) ho2 (by omega) (by decide) (by omega) ?_
  intro A5 c5 w5 hO5 hg5 hab5
  have hab := hO4.ab
  have hb5 := hb4.grown hg5 (by omega) (fun k e => by have := (hab k e).1; omega)
  have kx5 := (hg5.block w.heap.size (by omega) (fun e => by have := (hab _ e.symm).1; omega)).trans kx4
  have kr5 := (hg5.block (w.heap.size + 1) (by omega) (fun e => by have := (hab _ e.symm).1; omega)).trans kr4
  rw [List.nil_append, her.out, show 0 + i + (n - (i + 1)) = n - 1 by omega] at hO5
  replace hS := (box_cells kx5).1
  refine hK.out _ _ (.inr hS) ?_
  clear hK
  try simp only [Act.put, List.setIfInBounds_toArray, List.set_cons_zero, List.set_cons_succ]
  rw [show 0 + i + (n - (i + 1)) = n - 1 by omega]
  have fB := (box_cells kx5).2 1
  have cB := (box_cells kx5).1
  refine wpAnyC_takeL (S := (fun _ => True)) (i := 12) (v := ?vhw10) rfl (by kernel_rfl) (by kernel_rfl) (by kernel_rfl) (fun _ _ _ h => h) (Or.inl ⟨by rfl, ?hw10⟩) ?shw10 ?chw10 ?ihw10 ?rhw10
  case hw10 => ((intro w hSw; (try dsimp only at hSw); (try obtain ⟨hSw1, hSw2⟩ := hSw); go_simp); try with_reducible rfl)
  case shw10 => trivial
  case chw10 => exact fun _ _ _ _ _ _ => trivial
  case ihw10 => exact fun w h => .inl (by decide)
  try simp only [Act.put, List.setIfInBounds_toArray, List.set_cons_zero, List.set_cons_succ]
  refine wpAnyC_ready (rs := [13]) (by kernel_rfl) (by simp) ?_
  refine (AllReadyC.consL (i := 13) rfl (fun K hK => ?_) AllReadyC.nil)
  go_simp
  refine hK.out _ _ (.inl (by decide)) ?_
  clear hK
  try simp only [Act.put, List.setIfInBounds_toArray, List.set_cons_zero, List.set_cons_succ]
  refine wpAnyC_done (by kernel_rfl) ?_ _
  refine NoPanic.normal ?_
  have k1 := heap_set1 (v' := .slice A5 (n - 1) c5) kx5
  have r1 := ((grownBy_at w5 w.heap.size 1 (.slice A5 (n - 1) c5)).block (w.heap.size + 1) (by have := hg5.size; omega) (fun e => by injection e; omega)).trans kr5
  have r2 := heap_set0 (u' := .int .i64 now) r1
  have r3 := heap_set1 (v' := .slice A5 (n - 1) c5) r2
  have hO7 := ((hO5.boxSet kx5 (by decide) 1 (.slice A5 (n - 1) c5)).boxSet r1 (by decide) 0 (.int .i64 now)).boxSet r2 (by decide) 1 (.slice A5 (n - 1) c5)
  have hB7 := ((hb5.setCell (p := ⟨w.heap.size, 1, none⟩) (Nat.le_refl _) (.slice A5 (n - 1) c5)).setCell (p := ⟨w.heap.size + 1, 0, none⟩) (Nat.le_succ _) (.int .i64 now)).setCell (p := ⟨w.heap.size + 1, 1, none⟩) (Nat.le_succ _) (.slice A5 (n - 1) c5)
  have cx6 := (box_cells k1).1
  have ⟨cr6, fr6⟩ := box_cells r1
  have c3 := (box_cells r3).1
  clear hS fB cB hO5 hg5 hO4 hg4 hb5 hb4 k1 r1 r2 r3
  go_wp2
  refine bodyPost_ret (results_l1 rfl _ _ rfl c3.1 c3.2) rfl ?_
  exact ⟨A5, c5, rfl, hO7.ge (by omega), hB7⟩

theorem results_l2 {fn : Func} {s t u : Tmp} (h : fn.results = #[.cell s 45, .tmp t, .tmp u]) (tmps : Array Value) (w : World) {B : Nat} {now : Int} {A : Option Addr} {n c : Nat} {v v' : Value} (hs : tmps.getD s undef = .pointer (some ⟨B, 0, none⟩)) (hv : tmps.getD t undef = v) (hv' : tmps.getD u undef = v')
    (h0 : w.cell? ⟨B, 0, none⟩ = some (.int .i64 now)) (h1 : w.cell? ⟨B, 1, none⟩ = some (.slice A n c)) :
    (results fn tmps).run Tryd.prog w = .ok (.tuple #[.agg #[.int .i64 now, .slice A n c], v, v']) w := by
  rw [Array.getD_eq_getD_getElem?] at hs hv hv'
  simp [results, h, hs, hv, hv', go_sem, h0, h1]

set_option maxRecDepth 100000 in
set_option maxHeartbeats 8000000 in
theorem RRel_any {w : World} {base : Nat} {now : Int} {A : Option Addr} {n c : Nat} {xs : List Ak} (h : RK w base A n c xs) (hbs : base ≤ w.heap.size) (s : Int) (hn : n < 20) :
    Calls Tryd.prog 41 #[.agg #[.int .i64 now, .slice A n c], .int .i64 s] w fun e w' =>
      (relK s xs ≠ 0 ∧ e = .returned (.tuple #[.agg #[.int .i64 now, .slice A n c], .slice none 0 0, .int .i64 (relK s xs)]) ∧ Below w.heap.size w w') ∨
      (relK s xs = 0 ∧ ∃ A' c' R d, e = .returned (.tuple #[.agg #[.int .i64 now, .slice A' (n - 1) c'], .slice R (settleK (xs.eraseP (isS s))).2.length d, .int .i64 0]) ∧
        RK w' base A' (n - 1) c' (settleK (xs.eraseP (isS s))).1 ∧ Ov w' base 3 1 R (settleK (xs.eraseP (isS s))).2.length d (icells (settleK (xs.eraseP (isS s))).2) ∧ Below w.heap.size w w') := by
  have hb0 : Below w.heap.size w (w.alloc (.cells #[.int .i64 now, .slice A n c] 45)) := (Below.refl _ _).alloc (Nat.le_refl _) _
  have hb1 : Below (w.alloc (.cells #[.int .i64 now, .slice A n c] 45)).heap.size (w.alloc (.cells #[.int .i64 now, .slice A n c] 45)) ((w.alloc (.cells #[.int .i64 now, .slice A n c] 45)).alloc (.cells #[.int .i64 0, .slice none 0 0] 45)) := (Below.refl _ _).alloc (Nat.le_refl _) _
  have kx := (hb1.block w.heap.size (by simp)).trans (World.alloc_heap_new w (.cells #[.int .i64 now, .slice A n c] 45))
  have kr := World.alloc_heap_new (w.alloc (.cells #[.int .i64 now, .slice A n c] 45)) (.cells #[.int .i64 0, .slice none 0 0] 45)
  rw [World.size_alloc] at kr
  have hb2 := gr hb0 hb1
  have hsz : ((w.alloc (.cells #[.int .i64 now, .slice A n c] 45)).alloc (.cells #[.int .i64 0, .slice none 0 0] 45)).heap.size = w.heap.size + 1 + 1 := by simp
  have hln := h.len
  have hK := Lib.hid (fun W (hW : Below w.heap.size w W) => h.below hW)
  have hat := Lib.hid (fun W (hW : Below w.heap.size w W) => RAt_any A n c xs now s W (h.own.rv.below hW))
  clear hb0 hb1 h
  by_cases t1 : 1 ≤ s
  · have d1 : decide (s < 1) = false := by simp; omega
    by_cases t2 : s ≤ 16
    · have d2 : decide (16 < s) = false := by simp; omega
      have ht : thereK s = true := by simp [thereK, t1, t2]
      rcases idxL_cases (isS s) xs with ⟨h1, h2⟩ | ⟨i, hi, h1, h2, h3, h4⟩
      · have hany := idxL_any (isS s) xs
        rw [h1] at hany
        have hk : relK s xs = 5 := by unfold relK; rw [ht, ← hany]; rfl
        rw [hk]
        refine Calls.mono (R := fun e w' => e = .returned (.tuple #[.agg #[.int .i64 now, .slice A n c], .slice none 0 0, .int .i64 5]) ∧ Below w.heap.size w w') ?_ (fun e w' q => .inl ⟨by decide, q⟩)
        rw [h1] at hat
        clear hk ht hany h1 h2 t1 t2
        go_enter Tryd.func41, Tryd.ntmps41
        go_upto_region 3 with fail
        generalize ((w.alloc (.cells #[.int .i64 now, .slice A n c] 45)).alloc (.cells #[.int .i64 0, .slice none 0 0] 45)) = w2 at *
        have ⟨cx, fx⟩ := box_cells kx
        go_wp2_with fail
        refine (hat.out w2 hb2).mono ?_
        rintro e w3 ⟨rfl, hb3⟩
        have hb3' := gr hb2 hb3
        have kx3 := (hb3.block w.heap.size (by omega)).trans kx
        have kr3 := (hb3.block (w.heap.size + 1) (by omega)).trans kr
        have ⟨cx3, fx3⟩ := box_cells kx3
        have ⟨cr3, fr3⟩ := box_cells kr3
        have q2 := heap_set1 (v' := .slice A n c) (heap_set0 (u' := .int .i64 now) kr3)
        have c3 := (box_cells q2).1
        have hB7 := (hb3'.setCell (p := ⟨w.heap.size + 1, 0, none⟩) (Nat.le_succ _) (.int .i64 now)).setCell (p := ⟨w.heap.size + 1, 1, none⟩) (Nat.le_succ _) (.slice A n c)
        clear hat hK q2 kx3 kr3 kx kr hb3 hb2 hb3'
        replace hB7 := Lib.hid hB7
        go_wp2
        refine bodyPost_ret (results_l2 rfl _ _ rfl rfl rfl c3.1 c3.2) rfl ?_
        exact ⟨rfl, hB7.out⟩
      · have hk : relK s xs = 0 := by unfold relK; rw [ht, h3]; rfl
        have her := idxL_erase _ _ _ h1
        rw [hk, ← her]
        refine Calls.mono (R := fun e w' => ∃ A' c' R d, e = .returned (.tuple #[.agg #[.int .i64 now, .slice A' (n - 1) c'], .slice R (settleK (xs.eraseIdx i)).2.length d, .int .i64 0]) ∧
          RK w' base A' (n - 1) c' (settleK (xs.eraseIdx i)).1 ∧ Ov w' base 3 1 R (settleK (xs.eraseIdx i)).2.length d (icells (settleK (xs.eraseIdx i)).2) ∧ Below w.heap.size w w') ?_ (fun e w' q => .inr ⟨rfl, q⟩)
        rw [h1] at hat
        have hmem : ∀ x ∈ xs.eraseIdx i, x ∈ xs := fun x hx => List.mem_of_mem_eraseIdx hx
        have hge : decide ((i : Int) < 0) = false := by simp
        clear hk ht h1 h2 h3 h4 her t1 t2
        go_enter Tryd.func41, Tryd.ntmps41
        go_upto_region 3 with fail
        generalize ((w.alloc (.cells #[.int .i64 now, .slice A n c] 45)).alloc (.cells #[.int .i64 0, .slice none 0 0] 45)) = w2 at *
        have ⟨cx, fx⟩ := box_cells kx
        go_wp2_with fail
        refine (hat.out w2 hb2).mono ?_
        rintro e w3 ⟨rfl, hb3⟩
        have hb3' := gr hb2 hb3
        have kx3 := (hb3.block w.heap.size (by omega)).trans kx
        have kr3 := (hb3.block (w.heap.size + 1) (by omega)).trans kr
        have ⟨cx3, fx3⟩ := box_cells kx3
        have hz3 := hb3.size
        have hwo := Lib.hid (RWo_any A n c xs now i w3 (hK.out _ hb3').own.rv (by omega) hn)
        clear hat cx fx
        go_wp2_with fail
        refine hwo.out.mono ?_
        rintro e w4 ⟨A4, c4, rfl, hO4, hb4⟩
        have hb4' := gr hb3' hb4
        have kr4 := (hb4.block (w.heap.size + 1) (by omega)).trans kr3
        have hz4 := hb4.size
        have hK4 : RK w4 base A4 (n - 1) c4 (xs.eraseIdx i) := ⟨hO4.ge (by omega), fun x hx => (hK.out _ hb4').tabs x (hmem x hx)⟩
        have hse := Lib.hid (RSet_any (now := now) hK4 (by omega) (by omega))
        clear hwo hK4 hO4
        go_wp2_with fail
        refine hse.out.mono ?_
        rintro e w5 ⟨A5, c5, R, d, rfl, hK5, hR5, hb5⟩
        have hb5' := gr hb4' hb5
        have hz5 := hb5.size
        have kr5 := (hb5.block (w.heap.size + 1) (by omega)).trans kr4
        clear hse cx3 fx3 kx3 kr3 kr4 kr kx hK
        replace hK5 := Lib.hid hK5
        replace hR5 := Lib.hid hR5
        go_upto_region 7 with fail
        have hba : Below w5.heap.size w5 (w5.alloc (.cells #[.int .i64 now, .slice A5 (n - 1) c5] 45)) := (Below.refl _ _).alloc (Nat.le_refl _) _
        have kn := World.alloc_heap_new w5 (.cells #[.int .i64 now, .slice A5 (n - 1) c5] 45)
        have kr6 := (hba.block (w.heap.size + 1) (by omega)).trans kr5
        have hK6 := hK5.out.below hba
        have hR6 := hR5.out.below hba
        have hb6 := gr hb5' hba
        have hne : w5.heap.size ≠ w.heap.size + 1 := by omega
        clear hba hK5 hR5 kr5
        generalize (w5.alloc (.cells #[.int .i64 now, .slice A5 (n - 1) c5] 45)) = w6 at *
        have ⟨cn, fn⟩ := box_cells kn
        have ⟨cr6, fr6⟩ := box_cells kr6
        have r1 := heap_set0 (u' := .int .i64 now) kr6
        have c3 := (box_cells (heap_set1 (v' := .slice A5 (n - 1) c5) r1)).1
        have hK7 : RK ((w6.setCell ⟨w.heap.size + 1, 0, none⟩ (.int .i64 now)).setCell ⟨w.heap.size + 1, 1, none⟩ (.slice A5 (n - 1) c5)) base A5 (n - 1) c5 (settleK (xs.eraseIdx i)).1 :=
          ⟨(hK6.own.boxSet kr6 (by decide) 0 _).boxSet r1 (by decide) 1 _, fun x hx => ((hK6.tabs x hx).boxSet kr6 (by decide) 0 _).boxSet r1 (by decide) 1 _⟩
        have hR7 := (hR6.boxSet kr6 (by decide) 0 (.int .i64 now)).boxSet r1 (by decide) 1 (.slice A5 (n - 1) c5)
        have hB7 := (hb6.setCell (p := ⟨w.heap.size + 1, 0, none⟩) (Nat.le_succ _) (.int .i64 now)).setCell (p := ⟨w.heap.size + 1, 1, none⟩) (Nat.le_succ _) (.slice A5 (n - 1) c5)
        clear hK6 hR6 r1 kr6 kn
        replace hK7 := Lib.hid hK7
        replace hR7 := Lib.hid hR7
        replace hB7 := Lib.hid hB7
        go_wp2
        refine bodyPost_ret (results_l2 rfl _ _ rfl rfl rfl c3.1 c3.2) rfl ?_
        exact ⟨A5, c5, R, d, rfl, hK7.out, hR7.out.ge (by omega), hB7.out⟩
    · have d2 : decide (16 < s) = true := by simp; omega
      have ht : thereK s = false := by simp [thereK, t2]
      have hk : relK s xs = 2 := by unfold relK; rw [ht]; rfl
      rw [hk]
      refine Calls.mono (R := fun e w' => e = .returned (.tuple #[.agg #[.int .i64 now, .slice A n c], .slice none 0 0, .int .i64 2]) ∧ Below w.heap.size w w') ?_ (fun e w' q => .inl ⟨by decide, q⟩)
      clear hk ht hat hK
      go_enter Tryd.func41, Tryd.ntmps41
      go_upto_region 1 with fail
      generalize ((w.alloc (.cells #[.int .i64 now, .slice A n c] 45)).alloc (.cells #[.int .i64 0, .slice none 0 0] 45)) = w2 at *
      have ⟨cx, fx⟩ := box_cells kx
      have ⟨cr3, fr3⟩ := box_cells kr
      have q2 := heap_set1 (v' := .slice A n c) (heap_set0 (u' := .int .i64 now) kr)
      have c3 := (box_cells q2).1
      have hB7 := (hb2.setCell (p := ⟨w.heap.size + 1, 0, none⟩) (Nat.le_succ _) (.int .i64 now)).setCell (p := ⟨w.heap.size + 1, 1, none⟩) (Nat.le_succ _) (.slice A n c)
      clear q2 kx kr hb2
      replace hB7 := Lib.hid hB7
      go_wp2
      refine bodyPost_ret (results_l2 rfl _ _ rfl rfl rfl c3.1 c3.2) rfl ?_
      exact ⟨rfl, hB7.out⟩
  · have d1 : decide (s < 1) = true := by simp; omega
    have ht : thereK s = false := by simp [thereK, t1]
    have hk : relK s xs = 2 := by unfold relK; rw [ht]; rfl
    rw [hk]
    refine Calls.mono (R := fun e w' => e = .returned (.tuple #[.agg #[.int .i64 now, .slice A n c], .slice none 0 0, .int .i64 2]) ∧ Below w.heap.size w w') ?_ (fun e w' q => .inl ⟨by decide, q⟩)
    clear hk ht hat hK
    go_enter Tryd.func41, Tryd.ntmps41
    go_upto_region 1 with fail
    generalize ((w.alloc (.cells #[.int .i64 now, .slice A n c] 45)).alloc (.cells #[.int .i64 0, .slice none 0 0] 45)) = w2 at *
    have ⟨cx, fx⟩ := box_cells kx
    have ⟨cr3, fr3⟩ := box_cells kr
    have q2 := heap_set1 (v' := .slice A n c) (heap_set0 (u' := .int .i64 now) kr)
    have c3 := (box_cells q2).1
    have hB7 := (hb2.setCell (p := ⟨w.heap.size + 1, 0, none⟩) (Nat.le_succ _) (.int .i64 now)).setCell (p := ⟨w.heap.size + 1, 1, none⟩) (Nat.le_succ _) (.slice A n c)
    clear q2 kx kr hb2
    replace hB7 := Lib.hid hB7
    go_wp2
    refine bodyPost_ret (results_l2 rfl _ _ rfl rfl rfl c3.1 c3.2) rfl ?_
    exact ⟨rfl, hB7.out⟩
end Go.Proofs.YtnjhhibjcfjhnaaDoor
