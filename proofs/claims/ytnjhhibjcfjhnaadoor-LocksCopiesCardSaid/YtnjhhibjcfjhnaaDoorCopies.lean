/- LocksCopies: the walk. -/
import Derived.Test.YtnjhhibjcfjhnaaDoorPlays
import Derived.Test.YtnjhhibjcfjhnaaDoorRegD
namespace Go.Proofs.YtnjhhibjcfjhnaaDoor
open Go.RowKit
set_option linter.unusedVariables false

/-- The other one's states, and a box, while one acts. -/
structure Oth (w W : World) (B k : Nat) (r : Option Nat) (now : Int) (zs : List Ak) (v : Value) (g : Option (Nat × Array Value)) : Prop where
  pd : PD w W B k r now zs v
  bx : ∀ p, g = some p → W.heap[p.1]? = some (.cells p.2 45 (0, 0))
section
variable {w W W' : World} {B k : Nat} {r : Option Nat} {now : Int} {zs : List Ak} {v : Value} {g : Option (Nat × Array Value)}
theorem Oth.more (h : Oth w W B k r now zs v g) (hb : Below W.heap.size W W') : Oth w W' B k r now zs v g :=
  ⟨h.pd.more hb, fun p hp => (hb.block _ (Array.getElem?_eq_some_iff.1 (h.bx p hp)).1).trans (h.bx p hp)⟩
theorem Oth.ne (h : Oth w W B k r now zs v g) : ∀ p, g = some p → p.1 ≠ W.heap.size := fun p hp e => by
  have := (Array.getElem?_eq_some_iff.1 (h.bx p hp)).1
  omega
theorem PD.kb (h : PD w W B k r now zs v) {base B' : Nat} {r' : Option Nat} {now' : Int} {zs' : List Ak} (h' : LB W base B' r' now' zs') (hlt : 0 < w.heap.size) (hbs : base = w.heap.size) (hk : Kb W W' B' r') (hs : B ≠ B' ∧ ∀ g, r = some g → r' ≠ some g) : PD w W' B k r now zs v := by
  subst hbs
  exact ⟨h.lb.kb h' hs.1 hs.2 hk, h.rb.kb h' hk, h.iz, h.n0, h.nk, h.env.belowB hlt (hk.toBase h'), h.bel.trans (hk.toBase h')⟩
theorem Oth.box (h : Oth w W B k r now zs v g) {b : Nat} {cs : Array Value} {fr : Nat × Nat} (hk : W.heap[b]? = some (.cells cs 45 fr)) (hb : w.heap.size ≤ b) (hlt : 0 < w.heap.size) (hne : ∀ p, g = some p → p.1 ≠ b) (j : Nat) (u : Value) : Oth w (W.setCell ⟨b, j, none⟩ u) B k r now zs v g :=
  ⟨h.pd.box hk hb hlt j u, fun p hp => ((grownBy_at W b j u).block p.1 (Array.getElem?_eq_some_iff.1 (h.bx p hp)).1 (fun e => by injection e with e; exact hne p hp e)).trans (h.bx p hp)⟩
end
theorem Oth.kb {w W W' : World} {B k : Nat} {r : Option Nat} {now : Int} {zs : List Ak} {v : Value} {g : Option (Nat × Array Value)} (h : Oth w W B k r now zs v g) {B' : Nat} {r' : Option Nat} {now' : Int} {zs' : List Ak} (h' : LB W w.heap.size B' r' now' zs') (hk : Kb W W' B' r') (hs : (0 < w.heap.size) ∧ B ≠ B' ∧ ∀ g, r = some g → r' ≠ some g) : Oth w W' B k r now zs v g :=
  ⟨h.pd.kb h' hs.1 rfl hk hs.2, fun p hp => h'.keeps hk (h.bx p hp) (by decide) (by decide)⟩
theorem two_cells {w W : World} {a b : Ac} (hW : Below (w.alloc (.cells (ccells [a, b]).toArray 60)).heap.size (w.alloc (.cells (ccells [a, b]).toArray 60)) W) :
    (W.cell? ⟨w.heap.size, 0, none⟩ = some (.int .i64 a.what) ∧ W.cell? ⟨w.heap.size, 1, none⟩ = some (.int .i64 a.s) ∧ W.cell? ⟨w.heap.size, 2, none⟩ = some (.int .i64 a.wait) ∧ W.cell? ⟨w.heap.size, 3, none⟩ = some (.bool a.first) ∧ W.cell? ⟨w.heap.size, 4, none⟩ = some (.slice a.A a.n a.c)) ∧
    (W.cell? ⟨w.heap.size, 5, none⟩ = some (.int .i64 b.what) ∧ W.cell? ⟨w.heap.size, 6, none⟩ = some (.int .i64 b.s) ∧ W.cell? ⟨w.heap.size, 7, none⟩ = some (.int .i64 b.wait) ∧ W.cell? ⟨w.heap.size, 8, none⟩ = some (.bool b.first) ∧ W.cell? ⟨w.heap.size, 9, none⟩ = some (.slice b.A b.n b.c)) := by
  have h := (hW.block w.heap.size (by simp)).trans (World.alloc_heap_new w (.cells (ccells [a, b]).toArray 60))
  simp [World.cell?, h, ccells, Ac.cells]
set_option maxRecDepth 100000 in
set_option maxHeartbeats 8000000 in
theorem LocksCopies_walk (A : Option Addr) (n c : Nat) (xs : List Ac) (a b : Ac) (w : World) (hE : Env w) (hx : Cv w A n c xs) (ha : Rv w 2 a.A a.n a.c (wcells a.W)) (hb : Rv w 2 b.A b.n b.c (wcells b.W)) :
    Calls Tryd.prog 6 #[.slice A n c, .agg (ccells [a, b]).toArray] w fun e w' => e = .returned (.bool true) ∧ Below w.heap.size w w' := by
  have hb0 : Below w.heap.size w (w.alloc (.cells (ccells [a, b]).toArray 60)) := (Below.refl _ _).alloc (Nat.le_refl _) _
  have hlq : w.heap.size < (w.alloc (.cells (ccells [a, b]).toArray 60)).heap.size := by simp
  have htwo := Lib.hid (fun W (hW : Below (w.alloc (.cells (ccells [a, b]).toArray 60)).heap.size (w.alloc (.cells (ccells [a, b]).toArray 60)) W) => two_cells hW)
  have hC2 : Cv (w.alloc (.cells (ccells [a, b]).toArray 60)) (some ⟨w.heap.size, 0, none⟩) 2 2 [a, b] :=
    ⟨Rv.lit (w := w) 60 5 (ccells [a, b]) 2 rfl (by decide), fun y hy => by
      rcases List.mem_cons.1 hy with rfl | hy
      · exact ha.below hb0
      · rw [List.mem_singleton.1 hy]
        exact hb.below hb0⟩
  replace hE := hE.below hb0
  replace hx := hx.below hb0
  go_enter Tryd.func6, Tryd.ntmps6
  go_upto_region 1 with fail
  generalize (w.alloc (.cells (ccells [a, b]).toArray 60)) = w0 at *
  generalize hqa : w.heap.size = qa at hlq htwo hC2 ⊢
  replace hqa := Lib.hid hqa
  have hlE := hE.lt
  have hxn := hx.len
  have hcap : c ≤ 9223372036854775807 := hx.rv.2.2.1
  have hle := hx.rv.2.1
  have hfw := Lib.hid (Few_any A n c xs 30 w0 hx (by decide))
  have hfw2 := Lib.hid (Few_any _ 2 2 [a, b] 2 w0 hC2 (by decide))
  have hwk := Lib.hid (Works_any w0 hE)
  replace hC2 := Lib.hid hC2
  go_wp2_with fail
  refine hfw.out.mono ?_
  rintro e w1 (⟨rfl, rfl⟩ | ⟨rfl, rfl, h30, h12⟩)
  · clear hfw hfw2
    go_wp2_with fail
    refine hwk.out.mono ?_
    rintro e w2 ⟨rfl, hb⟩
    replace hb := Lib.hid (gr hb0 hb)
    clear hwk
    go_wp2
    go_ret
    exact ⟨rfl, hb.out⟩
  clear hfw
  go_wp2_with fail
  refine hfw2.out.mono ?_
  rintro e w1 (⟨rfl, rfl⟩ | ⟨rfl, rfl, -, h12b⟩)
  · clear hfw2
    go_wp2_with fail
    refine hwk.out.mono ?_
    rintro e w2 ⟨rfl, hb⟩
    replace hb := Lib.hid (gr hb0 hb)
    clear hwk
    go_wp2
    go_ret
    exact ⟨rfl, hb.out⟩
  clear hfw2 hwk
  have h12a := h12b a (by simp)
  replace h12b := h12b b (by simp)
  go_wp2_with fail
  refine (New_B w0).mono ?_
  rintro e w1 ⟨rfl, hl1, hb1⟩
  go_upto_region 5 with fail
  have hba : Below w1.heap.size w1 (w1.alloc (.cells #[.int .i64 0, .slice none 0 0] 45)) := (Below.refl _ _).alloc (Nat.le_refl _) _
  have hq := World.alloc_heap_new w1 (.cells #[.int .i64 0, .slice none 0 0] 45)
  have hP : PD w0 (w1.alloc (.cells #[.int .i64 0, .slice none 0 0] 45)) w0.heap.size 0 none 0 [] (.agg #[.int .i64 0, .slice none 0 0]) :=
    ⟨hl1.below hba, RB.nil _ _, IZ.nil, by decide, by decide, (hE.below hb1).below hba, gr hb1 hba⟩
  have hq6 : w0.heap.size ≤ w1.heap.size := hb1.size
  clear hl1 hb1 hba
  generalize (w1.alloc (.cells #[.int .i64 0, .slice none 0 0] 45)) = w2 at *
  generalize w1.heap.size = q6 at *
  replace hq := Lib.hid hq
  replace hxs := Lib.hid hx
  clear hx hE
  go_wp2_with fail
  go_loopw [5, 7] (fun o q wr => ∃ (i B : Nat) (r : Option Nat) (now : Int) (zs : List Ak) (A' : Option Addr) (n' c' : Nat), q = .int .i64 (i : Int) ∧ i ≤ n ∧ o = .pointer (some ⟨B, 0, none⟩) ∧ wr.heap[q6]? = some (.cells #[.int .i64 now, .slice A' n' c'] 45 (0, 0)) ∧ PD w0 wr B i r now zs (.agg #[.int .i64 now, .slice A' n' c']))
    (fun o q wr => n - (intOf q).toNat)
  case atStart => exact ⟨0, w0.heap.size, none, 0, [], none, 0, 0, rfl, by omega, rfl, hq.out, hP⟩
  case round =>
    clear hP hq
    obtain ⟨i, B, r, now, zs, A', n', c', rfl, hi, rfl, hq, hP⟩ := hrel
    by_cases hlt : i < n
    · have hlt1 : (i : Int) < (n : Int) := by omega
      have hlt2 : decide ((i : Int) < (n : Int)) = true := by simp; omega
      obtain ⟨b1, o1, rfl, hb1, hc1⟩ := hxs.out.rv.2.2.2 (by omega)
      have E := fun (W : World) (hW : Below w0.heap.size w0 W) => ccells_cell hc1 (fun o => hW.cell (p := ⟨b1, o, none⟩) hb1) i (by omega)
      have hxx := fun (W : World) (hW : Below w0.heap.size w0 W) => Rv.below (hxs.out.tabs (xs[i]'(by omega)) (List.getElem_mem _)) hW
      have hx12 := h12 (xs[i]'(by omega)) (List.getElem_mem _)
      generalize xs[i]'(by omega) = x at *
      have hact := Lib.hid (fun (W : World) (h : PD w0 W B i r now zs (.agg #[.int .i64 now, .slice A' n' c'])) => PD.act h hlE x (hxx W h.bel) hx12 (by omega))
      generalize hnw : stepN x now = nw at *
      generalize hzs' : stepZ x now zs = zs' at *
      replace hnw := Lib.hid hnw
      replace hzs' := Lib.hid hzs'
      obtain ⟨x0, x1, x2, x3, x5, x6, x7, x8⟩ := x
      simp only [Ac.cells] at E hact
      have hS := Lib.hid (fun (W : World) (hW : Below w0.heap.size w0 W) (hk : W.heap[q6]? = some (.cells #[.int .i64 now, .slice A' n' c'] 45 (0, 0))) => show (W.cell? ⟨q6, 0, none⟩ = some (.int .i64 now) ∧ W.cell? ⟨q6, 1, none⟩ = some (.slice A' n' c')) ∧ (W.cell? ⟨b1, o1 + i * 5, none⟩ = some (.int .i64 x0) ∧ W.cell? ⟨b1, o1 + i * 5 + 1, none⟩ = some (.int .i64 x1) ∧ W.cell? ⟨b1, o1 + i * 5 + 2, none⟩ = some (.int .i64 x2) ∧ W.cell? ⟨b1, o1 + i * 5 + 3, none⟩ = some (.bool x3) ∧ W.cell? ⟨b1, o1 + i * 5 + 4, none⟩ = some (.slice x6 x7 x8)) from ⟨(box_cells hk).1, E W hW⟩)
      have hS0 := hS.out wr hP.bel hq
      clear hc1 hxx hx12
      go_wp2_with fail
      refine wp_region_noPanic ?_
      have hd : Below wr.heap.size wr wr.drew := (Below.refl _ _).drew
      refine wp_region_C (C := fun j W => (j = 7 ∨ j = 8 ∨ j = 9 ∨ j = 10 ∨ j = 11 ∨ j = 12) ∨ ((W.cell? ⟨q6, 0, none⟩ = some (.int .i64 now) ∧ W.cell? ⟨q6, 1, none⟩ = some (.slice A' n' c')) ∧ (W.cell? ⟨b1, o1 + i * 5, none⟩ = some (.int .i64 x0) ∧ W.cell? ⟨b1, o1 + i * 5 + 1, none⟩ = some (.int .i64 x1) ∧ W.cell? ⟨b1, o1 + i * 5 + 2, none⟩ = some (.int .i64 x2) ∧ W.cell? ⟨b1, o1 + i * 5 + 3, none⟩ = some (.bool x3) ∧ W.cell? ⟨b1, o1 + i * 5 + 4, none⟩ = some (.slice x6 x7 x8)))) (by kernel_rfl) ?_
      have hPd := hP.more hd
      have hqd : wr.drew.heap[q6]? = some (.cells #[.int .i64 now, .slice A' n' c'] 45 (0, 0)) := hq
      replace hS0 := hS.out wr.drew hPd.bel hqd
      clear hP hq hd E
      generalize wr.drew = w3 at *
      refine wpAnyC_takeD (S := (fun W => (W.cell? ⟨q6, 0, none⟩ = some (.int .i64 now) ∧ W.cell? ⟨q6, 1, none⟩ = some (.slice A' n' c')) ∧ (W.cell? ⟨b1, o1 + i * 5, none⟩ = some (.int .i64 x0) ∧ W.cell? ⟨b1, o1 + i * 5 + 1, none⟩ = some (.int .i64 x1) ∧ W.cell? ⟨b1, o1 + i * 5 + 2, none⟩ = some (.int .i64 x2) ∧ W.cell? ⟨b1, o1 + i * 5 + 3, none⟩ = some (.bool x3) ∧ W.cell? ⟨b1, o1 + i * 5 + 4, none⟩ = some (.slice x6 x7 x8)))) (i := 0) (v := ?vhw1) rfl (by kernel_rfl) (by kernel_rfl) (by kernel_rfl) (by kernel_rfl) (fun _ _ _ h => h) (Or.inl ⟨by rfl, ?hw1⟩) ?shw1 ?chw1 ?ihw1 ?rhw1
      case hw1 => ((intro w hSw; (try dsimp only at hSw); (try obtain ⟨hSw1, hSw2⟩ := hSw); go_simp); try with_reducible rfl)
      case shw1 => assumption
      case chw1 => exact fun j w _ _ hw hc => hc.elim (fun e => by rcases e with rfl | rfl | rfl | rfl | rfl | rfl <;> exact (Bool.false_ne_true (hw.symm.trans (by kernel_rfl))).elim) id
      case ihw1 => exact fun w h => .inr h
      try simp only [Act.put, List.setIfInBounds_toArray, List.set_cons_zero, List.set_cons_succ]
      refine wpAnyC_takeD (S := (fun W => (W.cell? ⟨q6, 0, none⟩ = some (.int .i64 now) ∧ W.cell? ⟨q6, 1, none⟩ = some (.slice A' n' c')) ∧ (W.cell? ⟨b1, o1 + i * 5, none⟩ = some (.int .i64 x0) ∧ W.cell? ⟨b1, o1 + i * 5 + 1, none⟩ = some (.int .i64 x1) ∧ W.cell? ⟨b1, o1 + i * 5 + 2, none⟩ = some (.int .i64 x2) ∧ W.cell? ⟨b1, o1 + i * 5 + 3, none⟩ = some (.bool x3) ∧ W.cell? ⟨b1, o1 + i * 5 + 4, none⟩ = some (.slice x6 x7 x8)))) (i := 1) (v := ?vhw2) rfl (by kernel_rfl) (by kernel_rfl) (by kernel_rfl) (by kernel_rfl) (fun _ _ _ h => h) (Or.inl ⟨by rfl, ?hw2⟩) ?shw2 ?chw2 ?ihw2 ?rhw2
      case hw2 => ((intro w hSw; (try dsimp only at hSw); (try obtain ⟨hSw1, hSw2⟩ := hSw); go_simp); try with_reducible rfl)
      case shw2 => assumption
      case chw2 => exact fun j w _ _ hw hc => hc.elim (fun e => by rcases e with rfl | rfl | rfl | rfl | rfl | rfl <;> exact (Bool.false_ne_true (hw.symm.trans (by kernel_rfl))).elim) id
      case ihw2 => exact fun w h => .inr h
      try simp only [Act.put, List.setIfInBounds_toArray, List.set_cons_zero, List.set_cons_succ]
      refine wpAnyC_takeD (S := (fun W => (W.cell? ⟨q6, 0, none⟩ = some (.int .i64 now) ∧ W.cell? ⟨q6, 1, none⟩ = some (.slice A' n' c')) ∧ (W.cell? ⟨b1, o1 + i * 5, none⟩ = some (.int .i64 x0) ∧ W.cell? ⟨b1, o1 + i * 5 + 1, none⟩ = some (.int .i64 x1) ∧ W.cell? ⟨b1, o1 + i * 5 + 2, none⟩ = some (.int .i64 x2) ∧ W.cell? ⟨b1, o1 + i * 5 + 3, none⟩ = some (.bool x3) ∧ W.cell? ⟨b1, o1 + i * 5 + 4, none⟩ = some (.slice x6 x7 x8)))) (i := 2) (v := ?vhw3) rfl (by kernel_rfl) (by kernel_rfl) (by kernel_rfl) (by kernel_rfl) (fun _ _ _ h => h) (Or.inl ⟨by rfl, ?hw3⟩) ?shw3 ?chw3 ?ihw3 ?rhw3
      case hw3 => ((intro w hSw; (try dsimp only at hSw); (try obtain ⟨hSw1, hSw2⟩ := hSw); go_simp); try with_reducible rfl)
      case shw3 => assumption
      case chw3 => exact fun j w _ _ hw hc => hc.elim (fun e => by rcases e with rfl | rfl | rfl | rfl | rfl | rfl <;> exact (Bool.false_ne_true (hw.symm.trans (by kernel_rfl))).elim) id
      case ihw3 => exact fun w h => .inr h
      try simp only [Act.put, List.setIfInBounds_toArray, List.set_cons_zero, List.set_cons_succ]
      refine wpAnyC_takeD (S := (fun W => (W.cell? ⟨q6, 0, none⟩ = some (.int .i64 now) ∧ W.cell? ⟨q6, 1, none⟩ = some (.slice A' n' c')) ∧ (W.cell? ⟨b1, o1 + i * 5, none⟩ = some (.int .i64 x0) ∧ W.cell? ⟨b1, o1 + i * 5 + 1, none⟩ = some (.int .i64 x1) ∧ W.cell? ⟨b1, o1 + i * 5 + 2, none⟩ = some (.int .i64 x2) ∧ W.cell? ⟨b1, o1 + i * 5 + 3, none⟩ = some (.bool x3) ∧ W.cell? ⟨b1, o1 + i * 5 + 4, none⟩ = some (.slice x6 x7 x8)))) (i := 3) (v := ?vhw4) rfl (by kernel_rfl) (by kernel_rfl) (by kernel_rfl) (by kernel_rfl) (fun _ _ _ h => h) (Or.inl ⟨by rfl, ?hw4⟩) ?shw4 ?chw4 ?ihw4 ?rhw4
      case hw4 => ((intro w hSw; (try dsimp only at hSw); (try obtain ⟨hSw1, hSw2⟩ := hSw); go_simp); try with_reducible rfl)
      case shw4 => assumption
      case chw4 => exact fun j w _ _ hw hc => hc.elim (fun e => by rcases e with rfl | rfl | rfl | rfl | rfl | rfl <;> exact (Bool.false_ne_true (hw.symm.trans (by kernel_rfl))).elim) id
      case ihw4 => exact fun w h => .inr h
      try simp only [Act.put, List.setIfInBounds_toArray, List.set_cons_zero, List.set_cons_succ]
      refine wpAnyC_takeD (S := (fun W => (W.cell? ⟨q6, 0, none⟩ = some (.int .i64 now) ∧ W.cell? ⟨q6, 1, none⟩ = some (.slice A' n' c')) ∧ (W.cell? ⟨b1, o1 + i * 5, none⟩ = some (.int .i64 x0) ∧ W.cell? ⟨b1, o1 + i * 5 + 1, none⟩ = some (.int .i64 x1) ∧ W.cell? ⟨b1, o1 + i * 5 + 2, none⟩ = some (.int .i64 x2) ∧ W.cell? ⟨b1, o1 + i * 5 + 3, none⟩ = some (.bool x3) ∧ W.cell? ⟨b1, o1 + i * 5 + 4, none⟩ = some (.slice x6 x7 x8)))) (i := 4) (v := ?vhw5) rfl (by kernel_rfl) (by kernel_rfl) (by kernel_rfl) (by kernel_rfl) (fun _ _ _ h => h) (Or.inl ⟨by rfl, ?hw5⟩) ?shw5 ?chw5 ?ihw5 ?rhw5
      case hw5 => ((intro w hSw; (try dsimp only at hSw); (try obtain ⟨hSw1, hSw2⟩ := hSw); go_simp); try with_reducible rfl)
      case shw5 => assumption
      case chw5 => exact fun j w _ _ hw hc => hc.elim (fun e => by rcases e with rfl | rfl | rfl | rfl | rfl | rfl <;> exact (Bool.false_ne_true (hw.symm.trans (by kernel_rfl))).elim) id
      case ihw5 => exact fun w h => .inr h
      try simp only [Act.put, List.setIfInBounds_toArray, List.set_cons_zero, List.set_cons_succ]
      refine wpAnyC_takeD (S := (fun W => (W.cell? ⟨q6, 0, none⟩ = some (.int .i64 now) ∧ W.cell? ⟨q6, 1, none⟩ = some (.slice A' n' c')) ∧ (W.cell? ⟨b1, o1 + i * 5, none⟩ = some (.int .i64 x0) ∧ W.cell? ⟨b1, o1 + i * 5 + 1, none⟩ = some (.int .i64 x1) ∧ W.cell? ⟨b1, o1 + i * 5 + 2, none⟩ = some (.int .i64 x2) ∧ W.cell? ⟨b1, o1 + i * 5 + 3, none⟩ = some (.bool x3) ∧ W.cell? ⟨b1, o1 + i * 5 + 4, none⟩ = some (.slice x6 x7 x8)))) (i := 5) (v := ?vhw6) rfl (by kernel_rfl) (by kernel_rfl) (by kernel_rfl) (by kernel_rfl) (fun _ _ _ h => h) (Or.inl ⟨by rfl, ?hw6⟩) ?shw6 ?chw6 ?ihw6 ?rhw6
      case hw6 => ((intro w hSw; (try dsimp only at hSw); (try obtain ⟨hSw1, hSw2⟩ := hSw); go_simp); try with_reducible rfl)
      case shw6 => assumption
      case chw6 => exact fun j w _ _ hw hc => hc.elim (fun e => by rcases e with rfl | rfl | rfl | rfl | rfl | rfl <;> exact (Bool.false_ne_true (hw.symm.trans (by kernel_rfl))).elim) id
      case ihw6 => exact fun w h => .inr h
      try simp only [Act.put, List.setIfInBounds_toArray, List.set_cons_zero, List.set_cons_succ]
      refine wpAnyC_ready (rs := [6]) (by kernel_rfl) (by simp) ?_
      refine (AllReadyC.consL (i := 6) rfl (fun K hK => ?_) AllReadyC.nil)
      go_simp
      refine (hact.out _ hPd).mono ?_
      rintro e w4 ⟨B', r', A'', n'', c'', rfl, hP4, hk4, -, -⟩
      have hq4 := hPd.lb.keeps hk4 hqd (by decide) (by decide)
      replace hS0 := hS.out _ hP4.bel hq4
      refine hK.out _ _ (.inr hS0) ?_
      clear hK hact hPd hk4 hqd
      try simp only [Act.put, List.setIfInBounds_toArray, List.set_cons_zero, List.set_cons_succ]
      refine wpAnyC_takeL (S := (fun _ => True)) (i := 7) (v := ?vhw7) rfl (by kernel_rfl) (by kernel_rfl) (by kernel_rfl) (fun _ _ _ h => h) (Or.inl ⟨by rfl, ?hw7⟩) ?shw7 ?chw7 ?ihw7 ?rhw7
      case hw7 => ((intro w hSw; (try dsimp only at hSw); (try obtain ⟨hSw1, hSw2⟩ := hSw); go_simp); try with_reducible rfl)
      case shw7 => trivial
      case chw7 => exact fun _ _ _ _ _ _ => trivial
      case ihw7 => exact fun w h => .inl (by decide)
      try simp only [Act.put, List.setIfInBounds_toArray, List.set_cons_zero, List.set_cons_succ]
      refine wpAnyC_takeL (S := (fun _ => True)) (i := 8) (v := ?vhw8) rfl (by kernel_rfl) (by kernel_rfl) (by kernel_rfl) (fun _ _ _ h => h) (Or.inl ⟨by rfl, ?hw8⟩) ?shw8 ?chw8 ?ihw8 ?rhw8
      case hw8 => ((intro w hSw; (try dsimp only at hSw); (try obtain ⟨hSw1, hSw2⟩ := hSw); go_simp); try with_reducible rfl)
      case shw8 => trivial
      case chw8 => exact fun _ _ _ _ _ _ => trivial
      case ihw8 => exact fun w h => .inl (by decide)
      try simp only [Act.put, List.setIfInBounds_toArray, List.set_cons_zero, List.set_cons_succ]
      refine wpAnyC_takeL (S := (fun _ => True)) (i := 9) (v := ?vhw9) rfl (by kernel_rfl) (by kernel_rfl) (by kernel_rfl) (fun _ _ _ h => h) (Or.inl ⟨by rfl, ?hw9⟩) ?shw9 ?chw9 ?ihw9 ?rhw9
      case hw9 => ((intro w hSw; (try dsimp only at hSw); (try obtain ⟨hSw1, hSw2⟩ := hSw); go_simp); try with_reducible rfl)
      case shw9 => trivial
      case chw9 => exact fun _ _ _ _ _ _ => trivial
      case ihw9 => exact fun w h => .inl (by decide)
      try simp only [Act.put, List.setIfInBounds_toArray, List.set_cons_zero, List.set_cons_succ]
      refine wpAnyC_takeL (S := (fun _ => True)) (i := 10) (v := ?vhw10) rfl (by kernel_rfl) (by kernel_rfl) (by kernel_rfl) (fun _ _ _ h => h) (Or.inl ⟨by rfl, ?hw10⟩) ?shw10 ?chw10 ?ihw10 ?rhw10
      case hw10 => ((intro w hSw; (try dsimp only at hSw); (try obtain ⟨hSw1, hSw2⟩ := hSw); go_simp); try with_reducible rfl)
      case shw10 => trivial
      case chw10 => exact fun _ _ _ _ _ _ => trivial
      case ihw10 => exact fun w h => .inl (by decide)
      try simp only [Act.put, List.setIfInBounds_toArray, List.set_cons_zero, List.set_cons_succ]
      refine wpAnyC_takeL (S := (fun _ => True)) (i := 11) (v := ?vhw11) rfl (by kernel_rfl) (by kernel_rfl) (by kernel_rfl) (fun _ _ _ h => h) (Or.inl ⟨by rfl, ?hw11⟩) ?shw11 ?chw11 ?ihw11 ?rhw11
      case hw11 => ((intro w hSw; (try dsimp only at hSw); (try obtain ⟨hSw1, hSw2⟩ := hSw); go_simp); try with_reducible rfl)
      case shw11 => trivial
      case chw11 => exact fun _ _ _ _ _ _ => trivial
      case ihw11 => exact fun w h => .inl (by decide)
      try simp only [Act.put, List.setIfInBounds_toArray, List.set_cons_zero, List.set_cons_succ]
      have hq0 := (box_cells hq4).1
      have hqf := (box_cells hq4).2
      have r1 := heap_set0 (u' := .int .i64 nw) hq4
      have r2 := heap_set1 (v' := .slice A'' n'' c'') r1
      have hP6 := (hP4.box hq4 hq6 hlE 0 (.int .i64 nw)).box r1 hq6 hlE 1 (.slice A'' n'' c'')
      clear hP4 r1 hS0
      refine wpAnyC_ready (rs := [12]) (by kernel_rfl) (by simp) ?_
      refine (AllReadyC.consL (i := 12) rfl (fun K hK => ?_) AllReadyC.nil)
      go_simp
      refine hK.out _ _ (.inl (by decide)) ?_
      clear hK
      try simp only [Act.put, List.setIfInBounds_toArray, List.set_cons_zero, List.set_cons_succ]
      refine wpAnyC_done (by kernel_rfl) ?_ _
      refine NoPanic.normal ?_
      clear hq0 hqf hq4
      generalize ((w4.setCell ⟨q6, 0, none⟩ (.int .i64 nw)).setCell ⟨q6, 1, none⟩ (.slice A'' n'' c'')) = w6 at *
      replace hP6 := Lib.hid hP6
      replace r2 := Lib.hid r2
      go_wp2
      exact ⟨⟨i + 1, B', r', nw, zs', A'', n'', c'', by simp, by omega, rfl, r2.out, hP6.out⟩, by simp [intOf]; omega⟩
    · obtain rfl : i = n := by omega
      have hlt2 : decide ((i : Int) < (i : Int)) = false := by simp
      have hcp := Lib.hid (Copy_B hP.lb hP.iz)
      go_wp2_with fail
      refine hcp.out.mono ?_
      rintro e w3 ⟨B2, r2, rfl, hl3, hB2, hr2, hb3⟩
      have hBl := hP.lb.lt.2
      have hrl : ∀ g, r = some g → g < wr.heap.size := fun g hg => (hP.lb.row g hg).2
      have hO : Oth w0 w3 B2 i r2 now zs (.agg #[.int .i64 now, .slice A' n' c']) none :=
        ⟨⟨hl3, (hP.more hb3).rb, hP.iz, hP.n0, hP.nk, (hP.more hb3).env, (hP.more hb3).bel⟩, fun p hp => by cases hp⟩
      have hr2l : ∀ g, r2 = some g → g < w3.heap.size := fun g hg => (hl3.row g hg).2
      have hB2l := hl3.lt.2
      replace hq := (hb3.block q6 (Array.getElem?_eq_some_iff.1 hq).1).trans hq
      replace hP := hP.more hb3
      have hq6l := (Array.getElem?_eq_some_iff.1 hq).1
      clear hcp hl3 hb3
      have hac := Lib.hid (fun (W : World) (hW : Below w0.heap.size w0 W) => Rv.below (hC2.out.tabs a (by simp)) hW)
      have hbc := Lib.hid (fun (W : World) (hW : Below w0.heap.size w0 W) => Rv.below (hC2.out.tabs b (by simp)) hW)
      obtain ⟨x0, x1, x2, x3, x5, x6, x7, x8⟩ := a
      obtain ⟨y0, y1, y2, y3, y5, y6, y7, y8⟩ := b
      have hact := Lib.hid (fun (W : World) (h : PD w0 W B i r now zs (.agg #[.int .i64 now, .slice A' n' c'])) => PD.act h hlE ⟨x0, x1, x2, x3, x5, x6, x7, x8⟩ (hac.out W h.bel) h12a (by omega))
      have hact2 := Lib.hid (fun (W : World) (h : PD w0 W B2 i r2 now zs (.agg #[.int .i64 now, .slice A' n' c'])) => PD.act h hlE ⟨y0, y1, y2, y3, y5, y6, y7, y8⟩ (hbc.out W h.bel) h12b (by omega))
      simp only [Ac.cells] at hact hact2
      generalize hnw : stepN ⟨x0, x1, x2, x3, x5, x6, x7, x8⟩ now = nw at *
      generalize hzs' : stepZ ⟨x0, x1, x2, x3, x5, x6, x7, x8⟩ now zs = zs1 at *
      generalize hnw2 : stepN ⟨y0, y1, y2, y3, y5, y6, y7, y8⟩ now = nv at *
      generalize hzs2 : stepZ ⟨y0, y1, y2, y3, y5, y6, y7, y8⟩ now zs = zs2 at *
      replace hnw := Lib.hid hnw
      replace hzs' := Lib.hid hzs'
      replace hnw2 := Lib.hid hnw2
      replace hzs2 := Lib.hid hzs2
      have hS := Lib.hid (fun (W : World) (hW : Below w0.heap.size w0 W) (hk : W.heap[q6]? = some (.cells #[.int .i64 now, .slice A' n' c'] 45 (0, 0))) => show (W.cell? ⟨q6, 0, none⟩ = some (.int .i64 now) ∧ W.cell? ⟨q6, 1, none⟩ = some (.slice A' n' c')) ∧ (W.cell? ⟨qa, 0, none⟩ = some (.int .i64 x0) ∧ W.cell? ⟨qa, 1, none⟩ = some (.int .i64 x1) ∧ W.cell? ⟨qa, 2, none⟩ = some (.int .i64 x2) ∧ W.cell? ⟨qa, 3, none⟩ = some (.bool x3) ∧ W.cell? ⟨qa, 4, none⟩ = some (.slice x6 x7 x8)) from ⟨(box_cells hk).1, (htwo.out W hW).1⟩)
      have hS2 := Lib.hid (fun (W : World) (hW : Below w0.heap.size w0 W) (hk : W.heap[q6]? = some (.cells #[.int .i64 now, .slice A' n' c'] 45 (0, 0))) => show (W.cell? ⟨q6, 0, none⟩ = some (.int .i64 now) ∧ W.cell? ⟨q6, 1, none⟩ = some (.slice A' n' c')) ∧ (W.cell? ⟨qa, 5, none⟩ = some (.int .i64 y0) ∧ W.cell? ⟨qa, 6, none⟩ = some (.int .i64 y1) ∧ W.cell? ⟨qa, 7, none⟩ = some (.int .i64 y2) ∧ W.cell? ⟨qa, 8, none⟩ = some (.bool y3) ∧ W.cell? ⟨qa, 9, none⟩ = some (.slice y6 y7 y8)) from ⟨(box_cells hk).1, (htwo.out W hW).2⟩)
      clear htwo hac hbc
      have hsep : (0 < w0.heap.size) ∧ B2 ≠ B ∧ ∀ g, r2 = some g → r ≠ some g := ⟨hlE, by omega, fun g hg e => by have := hr2 g hg; have := hrl g e; omega⟩
      generalize wr.heap.size = z0 at *
      have hO0 := Lib.hid hO
      clear hO
      have hO := hO0.out
      clear hO0
      have cS := hS.out _ hP.bel hq
      go_wp2_with fail
      refine (hact.out _ hP).mono ?_
      rintro e w4 ⟨B1, r1, A1, n1, c1, rfl, hP4, hk4, hN4, hB4⟩
      replace hq := hP.lb.keeps hk4 hq (by decide) (by decide)
      replace hO := hO.kb hP.lb hk4 hsep
      have hz4 := hk4.size
      clear hact hP hk4 cS hS
      go_upto_region 11 with fail
      have hba : Below w4.heap.size w4 (w4.alloc (.cells #[.int .i64 nw, .slice A1 n1 c1] 45)) := (Below.refl _ _).alloc (Nat.le_refl _) _
      have k9 := World.alloc_heap_new w4 (.cells #[.int .i64 nw, .slice A1 n1 c1] 45)
      replace hP4 := hP4.more hba
      replace hO := hO.more hba
      replace hq := (hba.block q6 (by omega)).trans hq
      clear hba
      have hsep2 : (0 < w0.heap.size) ∧ B1 ≠ B2 ∧ ∀ g, r1 = some g → r2 ≠ some g := ⟨hlE, by omega, fun g hg e => by
        have h1 := hr2 g e
        have h2 := hr2l g e
        rcases hN4 g hg with h | h
        · omega
        · have := hrl g h
          omega⟩
      have hO1 : Oth w0 (w4.alloc (.cells #[.int .i64 nw, .slice A1 n1 c1] 45)) B1 (i + 1) r1 nw zs1 (.agg #[.int .i64 nw, .slice A1 n1 c1]) (some (w4.heap.size, #[.int .i64 nw, .slice A1 n1 c1])) := ⟨hP4, fun p hp => by cases hp; exact k9⟩
      have hP5 := hO.pd
      clear hP4 hO k9 hsep
      generalize (w4.alloc (.cells #[.int .i64 nw, .slice A1 n1 c1] 45)) = w5 at *
      generalize w4.heap.size = g9 at *
      replace hO1 := Lib.hid hO1
      have cS := hS2.out _ hP5.bel hq
      go_wp2_with fail
      refine (hact2.out _ hP5).mono ?_
      rintro e w6 ⟨B4, r4, A4, n4, c4, rfl, hP6, hk6, -, -⟩
      have hO2 := hO1.out.kb hP5.lb hk6 hsep2
      clear hact2 hP5 hk6 cS hS2 hO1 hq
      go_upto_region 12 with fail
      have hba : Below w6.heap.size w6 (w6.alloc (.cells #[.int .i64 nv, .slice A4 n4 c4] 45)) := (Below.refl _ _).alloc (Nat.le_refl _) _
      have k11 := (box_cells (World.alloc_heap_new w6 (.cells #[.int .i64 nv, .slice A4 n4 c4] 45))).1
      replace hP6 := hP6.more hba
      replace hO2 := hO2.more hba
      clear hba
      have k9 := (box_cells (hO2.bx _ rfl)).1
      have hP2 := hO2.pd
      clear hO2
      generalize (w6.alloc (.cells #[.int .i64 nv, .slice A4 n4 c4] 45)) = w7 at *
      have hg11 : w6.heap.size < w7.heap.size := World.block_lt_of_cell? _ _ k11.1
      have hg9 : g9 < w7.heap.size := World.block_lt_of_cell? _ _ k9.1
      generalize w6.heap.size = g11 at *
      have hsm := Lib.hid (RSm_B hP2.rb hP6.rb)
      go_wp2_with fail
      refine hsm.out.mono ?_
      rintro e w8 ⟨rfl, hb8⟩
      have hk9 := fun (W : World) (hW : Below w7.heap.size w7 W) => show W.cell? ⟨g9, 0, none⟩ = some (.int .i64 nw) ∧ W.cell? ⟨g9, 1, none⟩ = some (.slice A1 n1 c1) from ⟨(hW.cell (p := ⟨g9, 0, none⟩) hg9).trans k9.1, (hW.cell (p := ⟨g9, 1, none⟩) hg9).trans k9.2⟩
      have hk11 := fun (W : World) (hW : Below w7.heap.size w7 W) => show W.cell? ⟨g11, 0, none⟩ = some (.int .i64 nv) ∧ W.cell? ⟨g11, 1, none⟩ = some (.slice A4 n4 c4) from ⟨(hW.cell (p := ⟨g11, 0, none⟩) hg11).trans k11.1, (hW.cell (p := ⟨g11, 1, none⟩) hg11).trans k11.2⟩
      replace hk9 := Lib.hid hk9
      replace hk11 := Lib.hid hk11
      clear hsm k9 k11
      have hsy : decide (nv = nw ∧ zs2 = zs1) = decide (nw = nv ∧ zs1 = zs2) := by simp [eq_comm]
      generalize hsv : decide (nw = nv ∧ zs1 = zs2) = sv at *
      replace hsv := Lib.hid hsv
      have hss : (sv == sv) = true := by simp
      have cS := hk9.out _ hb8
      have his1 := Lib.hid (Is_any (hP2.more hb8).lb (hP2.more hb8).rb hP2.iz [116] 9)
      go_wp2_with fail
      refine his1.out.mono ?_
      rintro e w9 ⟨rfl, hb9⟩
      replace hb8 := gr hb8 hb9
      clear his1 cS hb9
      have cS := hk11.out _ hb8
      have his2 := Lib.hid (Is_any (hP6.more hb8).lb (hP6.more hb8).rb hP6.iz [116] 9)
      go_wp2_with fail
      refine his2.out.mono ?_
      rintro e w10 ⟨rfl, hb9⟩
      replace hb8 := gr hb8 hb9
      clear his2 cS hb9
      have hsa := Lib.hid (Same_B (hP2.more hb8).lb (hP6.more hb8).lb)
      rw [hsv.out] at hsa
      go_wp2_with fail
      refine hsa.out.mono ?_
      rintro e w11 ⟨rfl, hb9⟩
      replace hb8 := gr hb8 hb9
      clear hsa hb9
      have hsb := Lib.hid (Same_B (hP6.more hb8).lb (hP2.more hb8).lb)
      rw [hsy] at hsb
      go_wp2_with fail
      refine hsb.out.mono ?_
      rintro e w12 ⟨rfl, hb9⟩
      replace hb8 := gr hb8 hb9
      have hP7 := hP2.more hb8
      have hwk := Lib.hid (Works_any w12 hP7.env)
      have hbf := hP7.bel
      clear hsb hb9 hP2 hP6 hP7 hsy
      go_wp2_with fail
      refine hwk.out.mono ?_
      rintro e w13 ⟨rfl, hb9⟩
      replace hbf := Lib.hid (gr hb0 (gr hbf hb9))
      clear hwk hb9
      go_wp2
      go_ret
      exact ⟨rfl, hbf.out⟩
end Go.Proofs.YtnjhhibjcfjhnaaDoor
