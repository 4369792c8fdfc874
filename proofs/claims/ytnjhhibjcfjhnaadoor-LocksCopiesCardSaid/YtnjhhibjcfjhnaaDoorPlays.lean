/- LocksPlays: the walk. -/
import Derived.Test.YtnjhhibjcfjhnaaDoorIsB
namespace Go.Proofs.YtnjhhibjcfjhnaaDoor
open Go.RowKit
set_option linter.unusedVariables false

/-- Both states, alike; k acts have come. -/
structure PD (w W : World) (B k : Nat) (r : Option Nat) (now : Int) (zs : List Ak) (v : Value) : Prop where
  lb : LB W w.heap.size B r now zs
  rb : RB W w.heap.size v now zs
  iz : IZ zs
  n0 : 0 ≤ now
  nk : now ≤ k
  env : Env W
  bel : Below w.heap.size w W
section
variable {w W W' : World} {B k : Nat} {r : Option Nat} {now : Int} {zs : List Ak} {v : Value}
theorem PD.more (h : PD w W B k r now zs v) (hb : Below W.heap.size W W') : PD w W' B k r now zs v := ⟨h.lb.below hb, h.rb.below hb, h.iz, h.n0, h.nk, h.env.below hb, gr h.bel hb⟩
theorem PD.box (h : PD w W B k r now zs v) {b : Nat} {cs : Array Value} {fr : Nat × Nat} (hk : W.heap[b]? = some (.cells cs 45 fr)) (hb : w.heap.size ≤ b) (hlt : 0 < w.heap.size) (j : Nat) (u : Value) : PD w (W.setCell ⟨b, j, none⟩ u) B k r now zs v :=
  ⟨h.lb.boxSet hk (by decide) (by decide) (by decide) j u, h.rb.boxSet hk (by decide) (by decide) j u, h.iz, h.n0, h.nk, h.env.belowB hlt ((Below.refl _ W).setCell (p := ⟨b, j, none⟩) hb u), h.bel.setCell (p := ⟨b, j, none⟩) hb u⟩
theorem LB.keeps {base : Nat} (h : LB W base B r now zs) (hk : Kb W W' B r) {b : Nat} {cs : Array Value} {e : TypeId} {fr : Nat × Nat} (hq : W.heap[b]? = some (.cells cs e fr)) (h1 : e ≠ 69) (h2 : e ≠ 74) : W'.heap[b]? = some (.cells cs e fr) := by
  obtain ⟨A, n, c, xs, hl, rfl, -⟩ := h
  refine (hk.block b (Array.getElem?_eq_some_iff.1 hq).1 (fun e' => ?_) (fun e' => ?_)).trans hq
  · subst e'
    rw [hl.box] at hq
    injection hq with hq
    injection hq with _ hq
    exact h1 hq.symm
  · obtain ⟨cs', hc⟩ := hl.own.block b e'.symm
    rw [hc] at hq
    injection hq with hq
    injection hq with _ hq
    exact h2 hq.symm
theorem PD.act (h : PD w W B k r now zs v) (hlt : 0 < w.heap.size) (x : Ac) (hx : Rv W 2 x.A x.n x.c (wcells x.W)) (hm : x.W.length ≤ 12) (hk : k < 1000) :
    Calls Tryd.prog 16 #[.pointer (some ⟨B, 0, none⟩), v, .agg x.cells.toArray] W fun e W' => ∃ B' r' A' n' c', e = .returned (.tuple #[.pointer (some ⟨B', 0, none⟩), .agg #[.int .i64 (stepN x now), .slice A' n' c'], .bool true]) ∧
      PD w W' B' (k + 1) r' (stepN x now) (stepZ x now zs) (.agg #[.int .i64 (stepN x now), .slice A' n' c']) ∧ Kb W W' B r ∧ Nw W r r' ∧ (B' = B ∨ W.heap.size ≤ B') := by
  have h0 := h.n0
  have h1 := h.nk
  have hxn : x.n = x.W.length := by have := hx.1; rw [wcells_length] at this; omega
  refine (Act_any h.lb h.rb h.env h.iz h.n0 (by omega) x hx (by omega)).mono ?_
  rintro e W' ⟨B', r', v', rfl, hL, hR, hkb, hN, hB⟩
  have hRs := hR
  obtain ⟨A', n', c', xs', rfl, -, -⟩ := hRs
  have hbel := hkb.toBase h.lb
  refine ⟨B', r', A', n', c', rfl, ⟨hL, hR, h.iz.step x now h.n0 (by omega), ?_, ?_, h.env.belowB hlt hbel, h.bel.trans hbel⟩, hkb, hN, hB⟩
  · unfold stepN
    split <;> omega
  · unfold stepN
    split <;> push_cast <;> omega
end
set_option maxRecDepth 100000 in
set_option maxHeartbeats 8000000 in
theorem LocksPlays_walk (A : Option Addr) (n c : Nat) (xs : List Ac) (t : List UInt8) (w : World) (hE : Env w) (hx : Cv w A n c xs) :
    Calls Tryd.prog 4 #[.slice A n c, .string (strL t)] w fun e w' => e = .returned (.bool true) ∧ Below w.heap.size w w' := by
  have hlE := hE.lt
  have hxn := hx.len
  have hcap : c ≤ 9223372036854775807 := hx.rv.2.2.1
  have hle := hx.rv.2.1
  have hsz : (strL t).size = t.length := strL_size t
  have hfw := Lib.hid (Few_any A n c xs 50 w hx (by decide))
  have hwk := Lib.hid (Works_any w hE)
  go_enter Tryd.func4, Tryd.ntmps4
  go_wp2_with fail
  refine hfw.out.mono ?_
  rintro e w1 (⟨rfl, rfl⟩ | ⟨rfl, rfl, h50, h12⟩)
  · clear hfw
    go_wp2_with fail
    refine hwk.out.mono ?_
    rintro e w2 ⟨rfl, hb⟩
    clear hwk
    go_wp2
    go_ret
    exact ⟨rfl, hb⟩
  clear hfw
  by_cases h40 : t.length ≤ 40
  case neg =>
    have d40 : decide (40 < (t.length : Int)) = true := by simp; omega
    go_wp2_with fail
    refine hwk.out.mono ?_
    rintro e w2 ⟨rfl, hb⟩
    clear hwk
    go_wp2
    go_ret
    exact ⟨rfl, hb⟩
  have d40 : decide (40 < (t.length : Int)) = false := by simp; omega
  replace hsz := hsz
  clear hwk
  go_wp2_with fail
  refine (New_B w).mono ?_
  rintro e w1 ⟨rfl, hl1, hb1⟩
  go_upto_region 5 with fail
  have hba : Below w1.heap.size w1 (w1.alloc (.cells #[.int .i64 0, .slice none 0 0] 45)) := (Below.refl _ _).alloc (Nat.le_refl _) _
  have hq := World.alloc_heap_new w1 (.cells #[.int .i64 0, .slice none 0 0] 45)
  have hP : PD w (w1.alloc (.cells #[.int .i64 0, .slice none 0 0] 45)) w.heap.size 0 none 0 [] (.agg #[.int .i64 0, .slice none 0 0]) :=
    ⟨hl1.below hba, RB.nil _ _, IZ.nil, by decide, by decide, (hE.below hb1).below hba, gr hb1 hba⟩
  have hq6 : w.heap.size ≤ w1.heap.size := hb1.size
  clear hl1 hb1 hba
  generalize (w1.alloc (.cells #[.int .i64 0, .slice none 0 0] 45)) = w2 at *
  generalize w1.heap.size = q6 at *
  replace hq := Lib.hid hq
  replace hxs := Lib.hid hx
  clear hx hE
  go_wp2_with fail
  go_loopw [5, 7] (fun o q wr => ∃ (i B : Nat) (r : Option Nat) (now : Int) (zs : List Ak) (A' : Option Addr) (n' c' : Nat), q = .int .i64 (i : Int) ∧ i ≤ n ∧ o = .pointer (some ⟨B, 0, none⟩) ∧ wr.heap[q6]? = some (.cells #[.int .i64 now, .slice A' n' c'] 45 (0, 0)) ∧ PD w wr B i r now zs (.agg #[.int .i64 now, .slice A' n' c']))
    (fun o q wr => n - (intOf q).toNat)
  case atStart => exact ⟨0, w.heap.size, none, 0, [], none, 0, 0, rfl, by omega, rfl, hq.out, hP⟩
  case round =>
    clear hP hq
    obtain ⟨i, B, r, now, zs, A', n', c', rfl, hi, rfl, hq, hP⟩ := hrel
    by_cases hlt : i < n
    · have hlt1 : (i : Int) < (n : Int) := by omega
      have hlt2 : decide ((i : Int) < (n : Int)) = true := by simp; omega
      obtain ⟨b1, o1, rfl, hb1, hc1⟩ := hxs.out.rv.2.2.2 (by omega)
      have E := fun (W : World) (hW : Below w.heap.size w W) => ccells_cell hc1 (fun o => hW.cell (p := ⟨b1, o, none⟩) hb1) i (by omega)
      have hxx := fun (W : World) (hW : Below w.heap.size w W) => Rv.below (hxs.out.tabs (xs[i]'(by omega)) (List.getElem_mem _)) hW
      have hx12 := h12 (xs[i]'(by omega)) (List.getElem_mem _)
      generalize xs[i]'(by omega) = x at *
      have hact := Lib.hid (fun (W : World) (h : PD w W B i r now zs (.agg #[.int .i64 now, .slice A' n' c'])) => PD.act h hlE x (hxx W h.bel) hx12 (by omega))
      generalize hnw : stepN x now = nw at *
      generalize hzs' : stepZ x now zs = zs' at *
      replace hnw := Lib.hid hnw
      replace hzs' := Lib.hid hzs'
      obtain ⟨x0, x1, x2, x3, x5, x6, x7, x8⟩ := x
      simp only [Ac.cells] at E hact
      have hS := Lib.hid (fun (W : World) (hW : Below w.heap.size w W) (hk : W.heap[q6]? = some (.cells #[.int .i64 now, .slice A' n' c'] 45 (0, 0))) => show (W.cell? ⟨q6, 0, none⟩ = some (.int .i64 now) ∧ W.cell? ⟨q6, 1, none⟩ = some (.slice A' n' c')) ∧ (W.cell? ⟨b1, o1 + i * 5, none⟩ = some (.int .i64 x0) ∧ W.cell? ⟨b1, o1 + i * 5 + 1, none⟩ = some (.int .i64 x1) ∧ W.cell? ⟨b1, o1 + i * 5 + 2, none⟩ = some (.int .i64 x2) ∧ W.cell? ⟨b1, o1 + i * 5 + 3, none⟩ = some (.bool x3) ∧ W.cell? ⟨b1, o1 + i * 5 + 4, none⟩ = some (.slice x6 x7 x8)) from ⟨(box_cells hk).1, E W hW⟩)
      have hS0 := hS.out wr hP.bel hq
      clear hc1 hxx hx12 E
      go_wp2_with fail
      refine wp_region_noPanic ?_
      have hd : Below wr.heap.size wr wr.drew := (Below.refl _ _).drew
      refine wp_region_held_drew (S := fun W => (W.cell? ⟨q6, 0, none⟩ = some (.int .i64 now) ∧ W.cell? ⟨q6, 1, none⟩ = some (.slice A' n' c')) ∧ (W.cell? ⟨b1, o1 + i * 5, none⟩ = some (.int .i64 x0) ∧ W.cell? ⟨b1, o1 + i * 5 + 1, none⟩ = some (.int .i64 x1) ∧ W.cell? ⟨b1, o1 + i * 5 + 2, none⟩ = some (.int .i64 x2) ∧ W.cell? ⟨b1, o1 + i * 5 + 3, none⟩ = some (.bool x3) ∧ W.cell? ⟨b1, o1 + i * 5 + 4, none⟩ = some (.slice x6 x7 x8))) (by kernel_rfl) hS0 (fun hHeld => ?_)
      have hPd := hP.more hd
      have hqd : wr.drew.heap[q6]? = some (.cells #[.int .i64 now, .slice A' n' c'] 45 (0, 0)) := hq
      have hq6l := (Array.getElem?_eq_some_iff.1 hqd).1
      clear hP hq hd hS0
      generalize wr.drew = w3 at *
      refine wpAnyH_takeL (i := 0) (v := ?vhy1) rfl (by kernel_rfl) (by kernel_rfl) (by kernel_rfl) (fun _ _ _ h => h) (Or.inl ⟨by rfl, ?hy1⟩) (by assumption) ?rhy1
      case hy1 => ((intro w hSw; (try dsimp only at hSw); go_simp); try with_reducible rfl)
      try simp only [Act.put, List.setIfInBounds_toArray, List.set_cons_zero, List.set_cons_succ]
      refine wpAnyH_takeL (i := 1) (v := ?vhy2) rfl (by kernel_rfl) (by kernel_rfl) (by kernel_rfl) (fun _ _ _ h => h) (Or.inl ⟨by rfl, ?hy2⟩) (by assumption) ?rhy2
      case hy2 => ((intro w hSw; (try dsimp only at hSw); go_simp); try with_reducible rfl)
      try simp only [Act.put, List.setIfInBounds_toArray, List.set_cons_zero, List.set_cons_succ]
      refine wpAnyH_takeL (i := 2) (v := ?vhy3) rfl (by kernel_rfl) (by kernel_rfl) (by kernel_rfl) (fun _ _ _ h => h) (Or.inl ⟨by rfl, ?hy3⟩) (by assumption) ?rhy3
      case hy3 => ((intro w hSw; (try dsimp only at hSw); go_simp); try with_reducible rfl)
      try simp only [Act.put, List.setIfInBounds_toArray, List.set_cons_zero, List.set_cons_succ]
      refine wpAnyH_takeL (i := 3) (v := ?vhy4) rfl (by kernel_rfl) (by kernel_rfl) (by kernel_rfl) (fun _ _ _ h => h) (Or.inl ⟨by rfl, ?hy4⟩) (by assumption) ?rhy4
      case hy4 => ((intro w hSw; (try dsimp only at hSw); go_simp); try with_reducible rfl)
      try simp only [Act.put, List.setIfInBounds_toArray, List.set_cons_zero, List.set_cons_succ]
      refine wpAnyH_takeL (i := 4) (v := ?vhy5) rfl (by kernel_rfl) (by kernel_rfl) (by kernel_rfl) (fun _ _ _ h => h) (Or.inl ⟨by rfl, ?hy5⟩) (by assumption) ?rhy5
      case hy5 => ((intro w hSw; (try dsimp only at hSw); go_simp); try with_reducible rfl)
      try simp only [Act.put, List.setIfInBounds_toArray, List.set_cons_zero, List.set_cons_succ]
      refine wpAnyH_takeL (i := 5) (v := ?vhy6) rfl (by kernel_rfl) (by kernel_rfl) (by kernel_rfl) (fun _ _ _ h => h) (Or.inl ⟨by rfl, ?hy6⟩) (by assumption) ?rhy6
      case hy6 => ((intro w hSw; (try dsimp only at hSw); go_simp); try with_reducible rfl)
      try simp only [Act.put, List.setIfInBounds_toArray, List.set_cons_zero, List.set_cons_succ]
      refine wpAnyH_ready (rs := [6, 11]) (by kernel_rfl) (by simp) ?_
      refine AllReadyH.consL (i := 6) rfl (fun K hK => ?_) (AllReadyH.consL (i := 11) rfl (fun K hK => ?_) AllReadyH.nil)
      · go_simp
        refine (hact.out _ hPd).mono ?_
        rintro e w4 ⟨B', r', A'', n'', c'', rfl, hP4, hk4, -, -⟩
        have hq4 := hPd.lb.keeps hk4 hqd (by decide) (by decide)
        have hz4 := hk4.size
        refine hK.out _ _ (hS.out _ hP4.bel hq4) (fun hHeld => ?_)
        clear hK hact hPd hk4 hqd
        refine wpAnyH_takeL (i := 7) (v := ?vhy7) rfl (by kernel_rfl) (by kernel_rfl) (by kernel_rfl) (fun _ _ _ h => h) (Or.inl ⟨by rfl, ?hy7⟩) (by assumption) ?rhy7
        case hy7 => ((intro w hSw; (try dsimp only at hSw); go_simp); try with_reducible rfl)
        try simp only [Act.put, List.setIfInBounds_toArray, List.set_cons_zero, List.set_cons_succ]
        refine wpAnyH_takeL (i := 8) (v := ?vhy8) rfl (by kernel_rfl) (by kernel_rfl) (by kernel_rfl) (fun _ _ _ h => h) (Or.inl ⟨by rfl, ?hy8⟩) (by assumption) ?rhy8
        case hy8 => ((intro w hSw; (try dsimp only at hSw); go_simp); try with_reducible rfl)
        try simp only [Act.put, List.setIfInBounds_toArray, List.set_cons_zero, List.set_cons_succ]
        refine wpAnyH_takeL (i := 9) (v := ?vhy9) rfl (by kernel_rfl) (by kernel_rfl) (by kernel_rfl) (fun _ _ _ h => h) (Or.inl ⟨by rfl, ?hy9⟩) (by assumption) ?rhy9
        case hy9 => ((intro w hSw; (try dsimp only at hSw); go_simp); try with_reducible rfl)
        try simp only [Act.put, List.setIfInBounds_toArray, List.set_cons_zero, List.set_cons_succ]
        refine wpAnyH_takeL (i := 10) (v := ?vhy10) rfl (by kernel_rfl) (by kernel_rfl) (by kernel_rfl) (fun _ _ _ h => h) (Or.inl ⟨by rfl, ?hy10⟩) (by assumption) ?rhy10
        case hy10 => ((intro w hSw; (try dsimp only at hSw); go_simp); try with_reducible rfl)
        try simp only [Act.put, List.setIfInBounds_toArray, List.set_cons_zero, List.set_cons_succ]
        refine wpAnyH_ready (rs := [11]) (by kernel_rfl) (by simp) ?_
        refine AllReadyH.consL (i := 11) rfl (fun K hK => ?_) AllReadyH.nil
        go_simp
        have hba : Below w4.heap.size w4 (w4.alloc (.cells #[.int .i64 0, .slice none 0 0] 45)) := (Below.refl _ _).alloc (Nat.le_refl _) _
        refine hK.out _ _ (hS.out _ (gr hP4.bel hba) ((hba.block q6 (by omega)).trans hq4)) (fun hHeld => ?_)
        clear hK hba
        refine wpAnyH_takeL (i := 12) (v := ?vhy11) rfl (by kernel_rfl) (by kernel_rfl) (by kernel_rfl) (fun _ _ _ h => h) (Or.inl ⟨by rfl, ?hy11⟩) (by assumption) ?rhy11
        case hy11 => ((intro w hSw; (try dsimp only at hSw); go_simp); try with_reducible rfl)
        try simp only [Act.put, List.setIfInBounds_toArray, List.set_cons_zero, List.set_cons_succ]
        refine wpAnyH_ready (rs := [13]) (by kernel_rfl) (by simp) ?_
        refine AllReadyH.consL (i := 13) rfl (fun K hK => ?_) AllReadyH.nil
        go_simp
        have hba : Below w4.heap.size w4 (w4.alloc (.cells #[.int .i64 nw, .slice A'' n'' c''] 45)) := (Below.refl _ _).alloc (Nat.le_refl _) _
        have hP5 := hP4.more hba
        have hq5 := (hba.block q6 (by omega)).trans hq4
        have k9 := World.alloc_heap_new w4 (.cells #[.int .i64 nw, .slice A'' n'' c''] 45)
        have hg9 : w4.heap.size ≠ q6 := by omega
        refine hK.out _ _ (hS.out _ hP5.bel hq5) (fun hHeld => ?_)
        clear hK hP4 hq4 hba
        generalize (w4.alloc (.cells #[.int .i64 nw, .slice A'' n'' c''] 45)) = w5 at *
        generalize w4.heap.size = g9 at *
        refine wpAnyH_takeL (i := 14) (v := ?vhy12) rfl (by kernel_rfl) (by kernel_rfl) (by kernel_rfl) (fun _ _ _ h => h) (Or.inl ⟨by rfl, ?hy12⟩) (by assumption) ?rhy12
        case hy12 => ((intro w hSw; (try dsimp only at hSw); go_simp); try with_reducible rfl)
        try simp only [Act.put, List.setIfInBounds_toArray, List.set_cons_zero, List.set_cons_succ]
        refine wpAnyH_done (by kernel_rfl) ?_ _
        refine NoPanic.normal ?_
        clear hHeld
        go_upto_region 9 with fail
        refine wp_region_noPanic ?_
        have hd : Below w5.heap.size w5 w5.drew := (Below.refl _ _).drew
        have c9 := (box_cells k9).1
        refine wp_region_held_drew (S := fun W => W.cell? ⟨g9, 0, none⟩ = some (.int .i64 nw) ∧ W.cell? ⟨g9, 1, none⟩ = some (.slice A'' n'' c'')) (by kernel_rfl) c9 (fun hHeld => ?_)
        have hq0 := (box_cells hq5).1
        have hqf := (box_cells hq5).2
        have r1 := heap_set0 (u' := .int .i64 nw) (show w5.drew.heap[q6]? = _ from hq5)
        have r2 := heap_set1 (v' := .slice A'' n'' c'') r1
        have hP6 := ((hP5.more hd).box (show w5.drew.heap[q6]? = _ from hq5) hq6 hlE 0 (.int .i64 nw)).box r1 hq6 hlE 1 (.slice A'' n'' c'')
        have c9' := Lib.hid (show (((w5.drew.setCell ⟨q6, 0, none⟩ (.int .i64 nw)).setCell ⟨q6, 1, none⟩ (.slice A'' n'' c'')).cell? ⟨g9, 0, none⟩ = some (.int .i64 nw) ∧ ((w5.drew.setCell ⟨q6, 0, none⟩ (.int .i64 nw)).setCell ⟨q6, 1, none⟩ (.slice A'' n'' c'')).cell? ⟨g9, 1, none⟩ = some (.slice A'' n'' c'')) from by
          have g1 := (grownBy_at w5.drew q6 0 (.int .i64 nw)).block g9 (Array.getElem?_eq_some_iff.1 k9).1 (fun e => by injection e with e; exact hg9 e)
          have g2 := (grownBy_at (w5.drew.setCell ⟨q6, 0, none⟩ (.int .i64 nw)) q6 1 (.slice A'' n'' c'')).block g9 (by have := (Array.getElem?_eq_some_iff.1 k9).1; simpa using this) (fun e => by injection e with e; exact hg9 e)
          exact (box_cells (g2.trans (g1.trans k9))).1)
        clear hP5 r1 hd
        refine wpAnyH_takeL (i := 0) (v := ?vhy13) rfl (by kernel_rfl) (by kernel_rfl) (by kernel_rfl) (fun _ _ _ h => h) (Or.inl ⟨by rfl, ?hy13⟩) (by assumption) ?rhy13
        case hy13 => ((intro w hSw; (try dsimp only at hSw); go_simp); try with_reducible rfl)
        try simp only [Act.put, List.setIfInBounds_toArray, List.set_cons_zero, List.set_cons_succ]
        refine wpAnyH_takeL (i := 1) (v := ?vhy14) rfl (by kernel_rfl) (by kernel_rfl) (by kernel_rfl) (fun _ _ _ h => h) (Or.inl ⟨by rfl, ?hy14⟩) (by assumption) ?rhy14
        case hy14 => ((intro w hSw; (try dsimp only at hSw); go_simp); try with_reducible rfl)
        try simp only [Act.put, List.setIfInBounds_toArray, List.set_cons_zero, List.set_cons_succ]
        refine wpAnyH_takeL (i := 2) (v := ?vhy15) rfl (by kernel_rfl) (by kernel_rfl) (by kernel_rfl) (fun _ _ _ h => h) (Or.inl ⟨by rfl, ?hy15⟩) (by assumption) ?rhy15
        case hy15 => ((intro w hSw; (try dsimp only at hSw); go_simp); try with_reducible rfl)
        try simp only [Act.put, List.setIfInBounds_toArray, List.set_cons_zero, List.set_cons_succ]
        refine wpAnyH_ready (rs := [3]) (by kernel_rfl) (by simp) ?_
        refine AllReadyH.consL (i := 3) rfl (fun K hK => ?_) AllReadyH.nil
        go_simp
        refine hK.out _ _ c9'.out (fun hHeld => ?_)
        clear hK
        refine wpAnyH_done (by kernel_rfl) ?_ _
        refine NoPanic.normal ?_
        clear hHeld hq0 hqf c9 c9' hq5 k9
        replace hP6 : PD w ((w5.setCell ⟨q6, 0, none⟩ (.int .i64 nw)).setCell ⟨q6, 1, none⟩ (.slice A'' n'' c'')).drew B' (i + 1) r' nw zs' (.agg #[.int .i64 nw, .slice A'' n'' c'']) := hP6
        replace r2 : ((w5.setCell ⟨q6, 0, none⟩ (.int .i64 nw)).setCell ⟨q6, 1, none⟩ (.slice A'' n'' c'')).drew.heap[q6]? = some (.cells #[.int .i64 nw, .slice A'' n'' c''] 45 (0, 0)) := r2
        generalize ((w5.setCell ⟨q6, 0, none⟩ (.int .i64 nw)).setCell ⟨q6, 1, none⟩ (.slice A'' n'' c'')).drew = w6 at *
        have hq0 := (box_cells r2).1
        go_wp2_with fail
        refine (Is_any hP6.lb hP6.rb hP6.iz t _).mono ?_
        rintro e w7 ⟨rfl, hb7⟩
        have hP7 := hP6.more hb7
        have hq7 := (hb7.block q6 (Array.getElem?_eq_some_iff.1 r2).1).trans r2
        clear hP6 hb7 r2 hq0
        replace hP7 := Lib.hid hP7
        replace hq7 := Lib.hid hq7
        go_wp2
        exact ⟨⟨i + 1, B', r', nw, zs', A'', n'', c'', by simp, by omega, rfl, hq7.out, hP7.out⟩, by simp [intOf]; omega⟩
      · go_simp
        have hba : Below w3.heap.size w3 (w3.alloc (.cells #[.int .i64 0, .slice none 0 0] 45)) := (Below.refl _ _).alloc (Nat.le_refl _) _
        have hPe := hPd.more hba
        have hqe := (hba.block q6 hq6l).trans hqd
        have kz := World.alloc_heap_new w3 (.cells #[.int .i64 0, .slice none 0 0] 45)
        have hg9 : w3.heap.size ≠ q6 := by omega
        have hgw : w.heap.size ≤ w3.heap.size := hPd.bel.size
        refine hK.out _ _ (hS.out _ hPe.bel hqe) (fun hHeld => ?_)
        clear hK hPd hqd hba
        generalize (w3.alloc (.cells #[.int .i64 0, .slice none 0 0] 45)) = w3a at *
        generalize w3.heap.size = g9 at *
        refine wpAnyH_ready (rs := [6]) (by kernel_rfl) (by simp) ?_
        refine AllReadyH.consL (i := 6) rfl (fun K hK => ?_) AllReadyH.nil
        go_simp
        refine (hact.out _ hPe).mono ?_
        rintro e w4 ⟨B', r', A'', n'', c'', rfl, hP4, hk4, -, -⟩
        have hq4 := hPe.lb.keeps hk4 hqe (by decide) (by decide)
        have kz4 := hPe.lb.keeps hk4 kz (by decide) (by decide)
        refine hK.out _ _ (hS.out _ hP4.bel hq4) (fun hHeld => ?_)
        clear hK hact hPe hk4 hqe kz
        have hz0 := (box_cells kz4).1
        have hzf := (box_cells kz4).2
        have z1 := heap_set0 (u' := .int .i64 nw) kz4
        have k9 := heap_set1 (v' := .slice A'' n'' c'') z1
        have hP5 := (hP4.box kz4 hgw hlE 0 (.int .i64 nw)).box z1 hgw hlE 1 (.slice A'' n'' c'')
        have hq5 := ((grownBy_at (w4.setCell ⟨g9, 0, none⟩ (.int .i64 nw)) g9 1 (.slice A'' n'' c'')).block q6 (by have := (Array.getElem?_eq_some_iff.1 hq4).1; simpa using this) (fun e => by injection e with e; exact hg9 e.symm)).trans (((grownBy_at w4 g9 0 (.int .i64 nw)).block q6 (Array.getElem?_eq_some_iff.1 hq4).1 (fun e => by injection e with e; exact hg9 e.symm)).trans hq4)
        clear z1
        refine wpAnyH_takeL (i := 7) (v := ?vhy16) rfl (by kernel_rfl) (by kernel_rfl) (by kernel_rfl) (fun _ _ _ h => h) (Or.inl ⟨by rfl, ?hy16⟩) (by assumption) ?rhy16
        case hy16 => ((intro w hSw; (try dsimp only at hSw); go_simp); try with_reducible rfl)
        try simp only [Act.put, List.setIfInBounds_toArray, List.set_cons_zero, List.set_cons_succ]
        refine wpAnyH_takeL (i := 8) (v := ?vhy17) rfl (by kernel_rfl) (by kernel_rfl) (by kernel_rfl) (fun _ _ _ h => h) (Or.inl ⟨by rfl, ?hy17⟩) (by assumption) ?rhy17
        case hy17 => ((intro w hSw; (try dsimp only at hSw); go_simp); try with_reducible rfl)
        try simp only [Act.put, List.setIfInBounds_toArray, List.set_cons_zero, List.set_cons_succ]
        refine wpAnyH_takeL (i := 9) (v := ?vhy18) rfl (by kernel_rfl) (by kernel_rfl) (by kernel_rfl) (fun _ _ _ h => h) (Or.inl ⟨by rfl, ?hy18⟩) (by assumption) ?rhy18
        case hy18 => ((intro w hSw; (try dsimp only at hSw); go_simp); try with_reducible rfl)
        try simp only [Act.put, List.setIfInBounds_toArray, List.set_cons_zero, List.set_cons_succ]
        refine wpAnyH_takeL (i := 10) (v := ?vhy19) rfl (by kernel_rfl) (by kernel_rfl) (by kernel_rfl) (fun _ _ _ h => h) (Or.inl ⟨by rfl, ?hy19⟩) (by assumption) ?rhy19
        case hy19 => ((intro w hSw; (try dsimp only at hSw); go_simp); try with_reducible rfl)
        try simp only [Act.put, List.setIfInBounds_toArray, List.set_cons_zero, List.set_cons_succ]
        refine wpAnyH_takeL (i := 12) (v := ?vhy20) rfl (by kernel_rfl) (by kernel_rfl) (by kernel_rfl) (fun _ _ _ h => h) (Or.inl ⟨by rfl, ?hy20⟩) (by assumption) ?rhy20
        case hy20 => ((intro w hSw; (try dsimp only at hSw); go_simp); try with_reducible rfl)
        try simp only [Act.put, List.setIfInBounds_toArray, List.set_cons_zero, List.set_cons_succ]
        refine wpAnyH_ready (rs := [13]) (by kernel_rfl) (by simp) ?_
        refine AllReadyH.consL (i := 13) rfl (fun K hK => ?_) AllReadyH.nil
        go_simp
        refine hK.out _ _ (hS.out _ hP5.bel hq5) (fun hHeld => ?_)
        clear hK hP4 hq4 hz0 hzf kz4
        generalize ((w4.setCell ⟨g9, 0, none⟩ (.int .i64 nw)).setCell ⟨g9, 1, none⟩ (.slice A'' n'' c'')) = w5 at *
        refine wpAnyH_takeL (i := 14) (v := ?vhy21) rfl (by kernel_rfl) (by kernel_rfl) (by kernel_rfl) (fun _ _ _ h => h) (Or.inl ⟨by rfl, ?hy21⟩) (by assumption) ?rhy21
        case hy21 => ((intro w hSw; (try dsimp only at hSw); go_simp); try with_reducible rfl)
        try simp only [Act.put, List.setIfInBounds_toArray, List.set_cons_zero, List.set_cons_succ]
        refine wpAnyH_done (by kernel_rfl) ?_ _
        refine NoPanic.normal ?_
        clear hHeld
        go_upto_region 9 with fail
        refine wp_region_noPanic ?_
        have hd : Below w5.heap.size w5 w5.drew := (Below.refl _ _).drew
        have c9 := (box_cells k9).1
        refine wp_region_held_drew (S := fun W => W.cell? ⟨g9, 0, none⟩ = some (.int .i64 nw) ∧ W.cell? ⟨g9, 1, none⟩ = some (.slice A'' n'' c'')) (by kernel_rfl) c9 (fun hHeld => ?_)
        have hq0 := (box_cells hq5).1
        have hqf := (box_cells hq5).2
        have r1 := heap_set0 (u' := .int .i64 nw) (show w5.drew.heap[q6]? = _ from hq5)
        have r2 := heap_set1 (v' := .slice A'' n'' c'') r1
        have hP6 := ((hP5.more hd).box (show w5.drew.heap[q6]? = _ from hq5) hq6 hlE 0 (.int .i64 nw)).box r1 hq6 hlE 1 (.slice A'' n'' c'')
        have c9' := Lib.hid (show (((w5.drew.setCell ⟨q6, 0, none⟩ (.int .i64 nw)).setCell ⟨q6, 1, none⟩ (.slice A'' n'' c'')).cell? ⟨g9, 0, none⟩ = some (.int .i64 nw) ∧ ((w5.drew.setCell ⟨q6, 0, none⟩ (.int .i64 nw)).setCell ⟨q6, 1, none⟩ (.slice A'' n'' c'')).cell? ⟨g9, 1, none⟩ = some (.slice A'' n'' c'')) from by
          have g1 := (grownBy_at w5.drew q6 0 (.int .i64 nw)).block g9 (Array.getElem?_eq_some_iff.1 k9).1 (fun e => by injection e with e; exact hg9 e)
          have g2 := (grownBy_at (w5.drew.setCell ⟨q6, 0, none⟩ (.int .i64 nw)) q6 1 (.slice A'' n'' c'')).block g9 (by have := (Array.getElem?_eq_some_iff.1 k9).1; simpa using this) (fun e => by injection e with e; exact hg9 e)
          exact (box_cells (g2.trans (g1.trans k9))).1)
        clear hP5 r1 hd
        refine wpAnyH_takeL (i := 0) (v := ?vhy22) rfl (by kernel_rfl) (by kernel_rfl) (by kernel_rfl) (fun _ _ _ h => h) (Or.inl ⟨by rfl, ?hy22⟩) (by assumption) ?rhy22
        case hy22 => ((intro w hSw; (try dsimp only at hSw); go_simp); try with_reducible rfl)
        try simp only [Act.put, List.setIfInBounds_toArray, List.set_cons_zero, List.set_cons_succ]
        refine wpAnyH_takeL (i := 1) (v := ?vhy23) rfl (by kernel_rfl) (by kernel_rfl) (by kernel_rfl) (fun _ _ _ h => h) (Or.inl ⟨by rfl, ?hy23⟩) (by assumption) ?rhy23
        case hy23 => ((intro w hSw; (try dsimp only at hSw); go_simp); try with_reducible rfl)
        try simp only [Act.put, List.setIfInBounds_toArray, List.set_cons_zero, List.set_cons_succ]
        refine wpAnyH_takeL (i := 2) (v := ?vhy24) rfl (by kernel_rfl) (by kernel_rfl) (by kernel_rfl) (fun _ _ _ h => h) (Or.inl ⟨by rfl, ?hy24⟩) (by assumption) ?rhy24
        case hy24 => ((intro w hSw; (try dsimp only at hSw); go_simp); try with_reducible rfl)
        try simp only [Act.put, List.setIfInBounds_toArray, List.set_cons_zero, List.set_cons_succ]
        refine wpAnyH_ready (rs := [3]) (by kernel_rfl) (by simp) ?_
        refine AllReadyH.consL (i := 3) rfl (fun K hK => ?_) AllReadyH.nil
        go_simp
        refine hK.out _ _ c9'.out (fun hHeld => ?_)
        clear hK
        refine wpAnyH_done (by kernel_rfl) ?_ _
        refine NoPanic.normal ?_
        clear hHeld hq0 hqf c9 c9' hq5 k9
        replace hP6 : PD w ((w5.setCell ⟨q6, 0, none⟩ (.int .i64 nw)).setCell ⟨q6, 1, none⟩ (.slice A'' n'' c'')).drew B' (i + 1) r' nw zs' (.agg #[.int .i64 nw, .slice A'' n'' c'']) := hP6
        replace r2 : ((w5.setCell ⟨q6, 0, none⟩ (.int .i64 nw)).setCell ⟨q6, 1, none⟩ (.slice A'' n'' c'')).drew.heap[q6]? = some (.cells #[.int .i64 nw, .slice A'' n'' c''] 45 (0, 0)) := r2
        generalize ((w5.setCell ⟨q6, 0, none⟩ (.int .i64 nw)).setCell ⟨q6, 1, none⟩ (.slice A'' n'' c'')).drew = w6 at *
        have hq0 := (box_cells r2).1
        go_wp2_with fail
        refine (Is_any hP6.lb hP6.rb hP6.iz t _).mono ?_
        rintro e w7 ⟨rfl, hb7⟩
        have hP7 := hP6.more hb7
        have hq7 := (hb7.block q6 (Array.getElem?_eq_some_iff.1 r2).1).trans r2
        clear hP6 hb7 r2 hq0
        replace hP7 := Lib.hid hP7
        replace hq7 := Lib.hid hq7
        go_wp2
        exact ⟨⟨i + 1, B', r', nw, zs', A'', n'', c'', by simp, by omega, rfl, hq7.out, hP7.out⟩, by simp [intOf]; omega⟩
    · obtain rfl : i = n := by omega
      have hlt2 : decide ((i : Int) < (i : Int)) = false := by simp
      have hq0 := (box_cells hq).1
      have his := Lib.hid (Is_any hP.lb hP.rb hP.iz t 99)
      go_wp2_with fail
      refine his.out.mono ?_
      rintro e w7 ⟨rfl, hb7⟩
      have hP7 := hP.more hb7
      have hwk := Lib.hid (Works_any w7 hP7.env)
      have hb8 := hP7.bel
      clear his hP hP7 hq hq0 hb7
      go_wp2_with fail
      refine hwk.out.mono ?_
      rintro e w8 ⟨rfl, hb9⟩
      replace hb8 := Lib.hid (gr hb8 hb9)
      clear hwk hb9
      go_wp2
      go_ret
      exact ⟨rfl, hb8.out⟩
end Go.Proofs.YtnjhhibjcfjhnaaDoor
