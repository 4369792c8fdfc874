/- The reference's Tick. -/
import Derived.Test.YtnjhhibjcfjhnaaDoorRkE
namespace Go.Proofs.YtnjhhibjcfjhnaaDoor
open Go.RowKit
set_option linter.unusedVariables false

structure TR (w wr : World) (now : Int) (A : Option Addr) (n c : Nat) (zs : List Ak) (A' : Option Addr) (c' : Nat) (hs : List Int) (R : Option Addr) (d : Nat) : Prop where
  bel : Below w.heap.size w wr
  kx : wr.heap[w.heap.size]? = some (.cells #[.int .i64 now, .slice A n c] 45 (0, 0))
  kr : wr.heap[w.heap.size + 1]? = some (.cells #[.int .i64 0, .slice none 0 0] 45 (0, 0))
  row : Ov wr (w.heap.size + 2) 96 6 A' zs.length c' (rcells zs)
  hold : Ov wr (w.heap.size + 2) 3 1 R hs.length d (icells hs)
  size : w.heap.size + 2 ≤ wr.heap.size
theorem TR.more {w wr w2 : World} {now : Int} {A : Option Addr} {n c : Nat} {zs : List Ak} {A' : Option Addr} {c' : Nat} {hs : List Int} {R : Option Addr} {d : Nat} (h : TR w wr now A n c zs A' c' hs R d) (hb : Below wr.heap.size wr w2) : TR w w2 now A n c zs A' c' hs R d :=
  ⟨gr h.bel hb, (hb.block _ (by have := h.size; omega)).trans h.kx, (hb.block _ (by have := h.size; omega)).trans h.kr, h.row.below hb, h.hold.below hb, Nat.le_trans h.size hb.size⟩
theorem TR.app {w wr w2 : World} {now : Int} {A : Option Addr} {n c : Nat} {zs : List Ak} {A' : Option Addr} {c' : Nat} {hs hs' : List Int} {R R' : Option Addr} {d d' : Nat} (h : TR w wr now A n c zs A' c' hs R d) (hg : wr.grownBy w2 (ab R)) (ho : Ov w2 (w.heap.size + 2) 3 1 R' hs'.length d' (icells hs')) : TR w w2 now A n c zs A' c' hs' R' d' :=
  ⟨h.bel.grown hg (by have := h.size; omega) (fun k e => by have := (h.hold.ab k e).1; omega), (hg.block _ (by have := h.size; omega) (fun e => by have := (h.hold.ab _ e.symm).1; omega)).trans h.kx, (hg.block _ (by have := h.size; omega) (fun e => by have := (h.hold.ab _ e.symm).1; omega)).trans h.kr,
    h.row.grown hg (h.row.neOv h.hold (by decide)), ho, Nat.le_trans h.size hg.size⟩
theorem TR.add {w wr w2 : World} {now : Int} {A : Option Addr} {n c : Nat} {zs zs' : List Ak} {A' A'' : Option Addr} {c' c'' : Nat} {hs : List Int} {R : Option Addr} {d : Nat} (h : TR w wr now A n c zs A' c' hs R d) (hg : wr.grownBy w2 (ab A')) (ho : Ov w2 (w.heap.size + 2) 96 6 A'' zs'.length c'' (rcells zs')) : TR w w2 now A n c zs' A'' c'' hs R d :=
  ⟨h.bel.grown hg (by have := h.size; omega) (fun k e => by have := (h.row.ab k e).1; omega), (hg.block _ (by have := h.size; omega) (fun e => by have := (h.row.ab _ e.symm).1; omega)).trans h.kx, (hg.block _ (by have := h.size; omega) (fun e => by have := (h.row.ab _ e.symm).1; omega)).trans h.kr,
    ho, h.hold.grown hg (h.hold.neOv h.row (by decide)), Nat.le_trans h.size hg.size⟩
theorem stay_len (now : Int) (l : List Ak) : (stayK now l).length ≤ l.length := List.length_filter_le _ _

set_option maxRecDepth 100000 in
set_option maxHeartbeats 8000000 in
theorem RTick_any {w : World} {base : Nat} {now : Int} {A : Option Addr} {n c : Nat} {xs : List Ak} (h : RK w base A n c xs) (hbs : base ≤ w.heap.size) (hn : n < 20) (hw : ∀ x ∈ xs, x.Wf) (h0 : 0 ≤ now) (h1 : now < 1000000) :
    Calls Tryd.prog 42 #[.agg #[.int .i64 now, .slice A n c]] w fun e w' => ∃ A' c' R d R2 d2, e = .returned (.tuple #[.agg #[.int .i64 (now + 1), .slice A' (stayK (now + 1) xs).length c'], .slice R (hsK (now + 1) xs).length d, .slice R2 (settleK (stayK (now + 1) xs)).2.length d2]) ∧
      RK w' base A' (stayK (now + 1) xs).length c' (settleK (stayK (now + 1) xs)).1 ∧ Ov w' base 3 1 R (hsK (now + 1) xs).length d (icells (hsK (now + 1) xs)) ∧ Ov w' base 3 1 R2 (settleK (stayK (now + 1) xs)).2.length d2 (icells (settleK (stayK (now + 1) xs)).2) ∧ Below w.heap.size w w' := by
  obtain ⟨iS, hiS, hzS, hsS, hbS⟩ := info_parts info_I
  obtain ⟨iR, hiR, hzR, hsR, hbR⟩ := info_parts info_R
  have hb0 : Below w.heap.size w (w.alloc (.cells #[.int .i64 now, .slice A n c] 45)) := (Below.refl _ _).alloc (Nat.le_refl _) _
  have hb1 : Below (w.alloc (.cells #[.int .i64 now, .slice A n c] 45)).heap.size (w.alloc (.cells #[.int .i64 now, .slice A n c] 45)) ((w.alloc (.cells #[.int .i64 now, .slice A n c] 45)).alloc (.cells #[.int .i64 0, .slice none 0 0] 45)) := (Below.refl _ _).alloc (Nat.le_refl _) _
  have kx := (hb1.block w.heap.size (by simp)).trans (World.alloc_heap_new w (.cells #[.int .i64 now, .slice A n c] 45))
  have kr := World.alloc_heap_new (w.alloc (.cells #[.int .i64 now, .slice A n c] 45)) (.cells #[.int .i64 0, .slice none 0 0] 45)
  rw [World.size_alloc] at kr
  have hb2 := gr hb0 hb1
  have hsz : ((w.alloc (.cells #[.int .i64 now, .slice A n c] 45)).alloc (.cells #[.int .i64 0, .slice none 0 0] 45)).heap.size = w.heap.size + 1 + 1 := by simp
  have hln := h.len
  have hrv := h.own.rv
  have hcap : c ≤ 9223372036854775807 := hrv.2.2.1
  have hle := hrv.2.1
  have hK := Lib.hid (fun W (hW : Below w.heap.size w W) => h.below hW)
  have hwr1 : IntKind.i64.wrap (now + 1) = now + 1 := by rw [IntKind.wrap_i64]; omega
  clear hb0 hb1 h
  go_enter Tryd.func42, Tryd.ntmps42
  go_upto_region 1 with fail
  generalize ((w.alloc (.cells #[.int .i64 now, .slice A n c] 45)).alloc (.cells #[.int .i64 0, .slice none 0 0] 45)) = w2 at *
  have ⟨cx, fx⟩ := box_cells kx
  have k1 := heap_set0 (u' := .int .i64 (now + 1)) kx
  have r1 := ((grownBy_at w2 w.heap.size 0 (.int .i64 (now + 1))).block (w.heap.size + 1) (by omega) (fun e => by injection e; omega)).trans kr
  have hB1 := hb2.setCell (p := ⟨w.heap.size, 0, none⟩) (Nat.le_refl _) (.int .i64 (now + 1))
  have hT0 : TR w (w2.setCell ⟨w.heap.size, 0, none⟩ (.int .i64 (now + 1))) (now + 1) A n c (stayK (now + 1) (xs.take 0)) none 0 (hsK (now + 1) (xs.take 0)) none 0 := ⟨hB1, k1, r1, Ov.nil _ _ _ _, Ov.nil _ _ _ _, by simp; omega⟩
  clear k1 r1 hB1
  go_upto_region 2 with fail
  generalize (w2.setCell ⟨w.heap.size, 0, none⟩ (.int .i64 (now + 1))) = w3 at *
  clear cx fx kx kr hb2 hsz
  generalize hnow : now + 1 = now1 at *
  go_wp2_with fail
  go_loopw [5, 6, 7] (fun o r p wr => ∃ (i : Nat) (A' : Option Addr) (c' : Nat) (R : Option Addr) (d : Nat), p = .int .i64 (i : Int) ∧ i ≤ n ∧ r = .slice A' (stayK now1 (xs.take i)).length c' ∧ o = .slice R (hsK now1 (xs.take i)).length d ∧ TR w wr now1 A n c (stayK now1 (xs.take i)) A' c' (hsK now1 (xs.take i)) R d)
    (fun o r p wr => n - (intOf p).toNat)
  case atStart => exact ⟨0, none, 0, none, 0, rfl, by omega, rfl, rfl, hT0⟩
  case round =>
    clear hT0
    obtain ⟨i, A', c', R, d, rfl, hi, rfl, rfl, hT⟩ := hrel
    have ⟨cx, fx⟩ := box_cells hT.kx
    by_cases hlt : i < n
    · have hlt2 : decide ((i : Int) < (n : Int)) = true := by simp; omega
      have hlt1 : (i : Int) < (n : Int) := by omega
      obtain ⟨b1, o1, rfl, hbq, hc1⟩ := hrv.2.2.2 (by omega)
      have e1 := rcells_cell hc1 (fun o => hT.bel.cell (p := ⟨b1, o, none⟩) hbq) i (by omega)
      have htk : xs.take (i + 1) = xs.take i ++ [xs[i]'(by omega)] := List.take_succ_eq_append_getElem (by omega)
      have hwf := hw (xs[i]'(by omega)) (List.getElem_mem _)
      have hsn := hsK_snoc now1 (xs.take i) (xs[i]'(by omega))
      have hss := stayK_snoc now1 (xs.take i) (xs[i]'(by omega))
      rw [← htk] at hsn hss
      have hsl := stay_len now1 (xs.take i)
      have hhl := hsK_len now1 (xs.take i)
      rw [List.length_take] at hsl hhl
      clear htk
      generalize hxe : xs[i]'(by omega) = x at *
      obtain ⟨x0, x1, x2, x3, x4, x5, x6, x7, x8⟩ := x
      simp only [Ak.Wf] at e1 hwf
      obtain ⟨w1, w2', w3', w4'⟩ := hwf
      have hsub : IntKind.i64.wrap (now1 - x2) = now1 - x2 := by rw [IntKind.wrap_i64]; omega
      have hdr : Below wr.heap.size wr wr.drew := (Below.refl _ _).drew
      have hTd := hT.more hdr
      replace hxe := Lib.hid hxe
      clear w1 w2' w3' w4' hw
      cases x4 with
      | true =>
        have hL : lateK now1 ⟨x0, x1, x2, x3, true, x5, x6, x7, x8⟩ = false := rfl
        rw [hL] at hsn hss
        replace hsn := Lib.hid hsn
        replace hss := Lib.hid hss
        go_wp2_with fail
        refine wp_region_noPanic ?_
        refine wp_region_held_drew (S := fun W => (W.cell? ⟨w.heap.size, 0, none⟩ = some (.int .i64 now1) ∧ W.cell? ⟨w.heap.size, 1, none⟩ = some (.slice (some ⟨b1, o1, none⟩) n c)) ∧ (W.cell? ⟨b1, o1 + i * 6, none⟩ = some (.int .i64 x0) ∧ W.cell? ⟨b1, o1 + i * 6 + 1, none⟩ = some (.int .i64 x1) ∧ W.cell? ⟨b1, o1 + i * 6 + 2, none⟩ = some (.int .i64 x2) ∧ W.cell? ⟨b1, o1 + i * 6 + 3, none⟩ = some (.bool x3) ∧ W.cell? ⟨b1, o1 + i * 6 + 4, none⟩ = some (.bool true) ∧ W.cell? ⟨b1, o1 + i * 6 + 5, none⟩ = some (.slice x6 x7 x8))) (by kernel_rfl) ⟨cx, e1⟩ (fun hHeld => ?_)
        refine wpAnyH_takeL (i := 0) (v := ?vhy1) rfl (by kernel_rfl) (by kernel_rfl) (by kernel_rfl) (fun _ _ _ h => h) (Or.inl ⟨by rfl, ?hy1⟩) (by assumption) ?rhy1
        case hy1 => ((intro w hSw; (try dsimp only at hSw); go_simp); try with_reducible rfl)
        try simp only [Act.put, List.setIfInBounds_toArray, List.set_cons_zero, List.set_cons_succ]
        refine wpAnyH_takeL (i := 1) (v := ?vhy2) rfl (by kernel_rfl) (by kernel_rfl) (by kernel_rfl) (fun _ _ _ h => h) (Or.inl ⟨by rfl, ?hy2⟩) (by assumption) ?rhy2
        case hy2 => ((intro w hSw; (try dsimp only at hSw); go_simp); try with_reducible rfl)
        try simp only [Act.put, List.setIfInBounds_toArray, List.set_cons_zero, List.set_cons_succ]
        refine wpAnyH_takeL (i := 2) (v := ?vhy3) rfl (by kernel_rfl) (by kernel_rfl) (by kernel_rfl) (fun _ _ _ h => h) (Or.inl ⟨by rfl, ?hy3⟩) (by assumption) ?rhy3
        case hy3 => ((intro w hSw; (try dsimp only at hSw); go_simp); try with_reducible rfl)
        try simp only [Act.put, List.setIfInBounds_toArray, List.set_cons_zero, List.set_cons_succ]
        refine wpAnyH_takeL (i := 3) (v := ?vhy4) rfl (by kernel_rfl) (by kernel_rfl) (by kernel_rfl) (fun _ _ _ h => h) (Or.inl ⟨by rfl, ?hy4⟩) (by assumption) ?rhy4
        case hy4 => ((intro w hSw; (try dsimp only at hSw); go_simp); try with_reducible rfl)
        try simp only [Act.put, List.setIfInBounds_toArray, List.set_cons_zero, List.set_cons_succ]
        refine wpAnyH_takeL (i := 4) (v := ?vhy5) rfl (by kernel_rfl) (by kernel_rfl) (by kernel_rfl) (fun _ _ _ h => h) (Or.inl ⟨by rfl, ?hy5⟩) (by assumption) ?rhy5
        case hy5 => ((intro w hSw; (try dsimp only at hSw); go_simp); try with_reducible rfl)
        try simp only [Act.put, List.setIfInBounds_toArray, List.set_cons_zero, List.set_cons_succ]
        refine wpAnyH_takeL (i := 5) (v := ?vhy6) rfl (by kernel_rfl) (by kernel_rfl) (by kernel_rfl) (fun _ _ _ h => h) (Or.inl ⟨by rfl, ?hy6⟩) (by assumption) ?rhy6
        case hy6 => ((intro w hSw; (try dsimp only at hSw); go_simp); try with_reducible rfl)
        try simp only [Act.put, List.setIfInBounds_toArray, List.set_cons_zero, List.set_cons_succ]
        refine wpAnyH_takeL (i := 6) (v := ?vhy7) rfl (by kernel_rfl) (by kernel_rfl) (by kernel_rfl) (fun _ _ _ h => h) (Or.inl ⟨by rfl, ?hy7⟩) (by assumption) ?rhy7
        case hy7 => ((intro w hSw; (try dsimp only at hSw); go_simp); try with_reducible rfl)
        try simp only [Act.put, List.setIfInBounds_toArray, List.set_cons_zero, List.set_cons_succ]
        refine wpAnyH_takeL (i := 7) (v := ?vhy8) rfl (by kernel_rfl) (by kernel_rfl) (by kernel_rfl) (fun _ _ _ h => h) (Or.inl ⟨by rfl, ?hy8⟩) (by assumption) ?rhy8
        case hy8 => ((intro w hSw; (try dsimp only at hSw); go_simp); try with_reducible rfl)
        try simp only [Act.put, List.setIfInBounds_toArray, List.set_cons_zero, List.set_cons_succ]
        refine wpAnyH_takeL (i := 8) (v := undef) rfl (by kernel_rfl) (by kernel_rfl) (by kernel_rfl) (fun _ _ _ h => h) (Or.inr ⟨by rfl, rfl⟩) (by assumption) ?_
        try simp only [Act.put, List.setIfInBounds_toArray, List.set_cons_zero, List.set_cons_succ]
        refine wpAnyH_takeL (i := 9) (v := undef) rfl (by kernel_rfl) (by kernel_rfl) (by kernel_rfl) (fun _ _ _ h => h) (Or.inr ⟨by rfl, rfl⟩) (by assumption) ?_
        try simp only [Act.put, List.setIfInBounds_toArray, List.set_cons_zero, List.set_cons_succ]
        refine wpAnyH_takeL (i := 10) (v := undef) rfl (by kernel_rfl) (by kernel_rfl) (by kernel_rfl) (fun _ _ _ h => h) (Or.inr ⟨by rfl, rfl⟩) (by assumption) ?_
        try simp only [Act.put, List.setIfInBounds_toArray, List.set_cons_zero, List.set_cons_succ]
        refine wpAnyH_takeL (i := 11) (v := undef) rfl (by kernel_rfl) (by kernel_rfl) (by kernel_rfl) (fun _ _ _ h => h) (Or.inr ⟨by rfl, rfl⟩) (by assumption) ?_
        try simp only [Act.put, List.setIfInBounds_toArray, List.set_cons_zero, List.set_cons_succ]
        refine wpAnyH_takeL (i := 12) (v := undef) rfl (by kernel_rfl) (by kernel_rfl) (by kernel_rfl) (fun _ _ _ h => h) (Or.inr ⟨by rfl, rfl⟩) (by assumption) ?_
        try simp only [Act.put, List.setIfInBounds_toArray, List.set_cons_zero, List.set_cons_succ]
        refine wpAnyH_takeL (i := 13) (v := undef) rfl (by kernel_rfl) (by kernel_rfl) (by kernel_rfl) (fun _ _ _ h => h) (Or.inr ⟨by rfl, rfl⟩) (by assumption) ?_
        try simp only [Act.put, List.setIfInBounds_toArray, List.set_cons_zero, List.set_cons_succ]
        refine wpAnyH_takeL (i := 14) (v := undef) rfl (by kernel_rfl) (by kernel_rfl) (by kernel_rfl) (fun _ _ _ h => h) (Or.inr ⟨by rfl, rfl⟩) (by assumption) ?_
        try simp only [Act.put, List.setIfInBounds_toArray, List.set_cons_zero, List.set_cons_succ]
        refine wpAnyH_takeL (i := 15) (v := undef) rfl (by kernel_rfl) (by kernel_rfl) (by kernel_rfl) (fun _ _ _ h => h) (Or.inr ⟨by rfl, rfl⟩) (by assumption) ?_
        try simp only [Act.put, List.setIfInBounds_toArray, List.set_cons_zero, List.set_cons_succ]
        refine wpAnyH_takeL (i := 16) (v := undef) rfl (by kernel_rfl) (by kernel_rfl) (by kernel_rfl) (fun _ _ _ h => h) (Or.inr ⟨by rfl, rfl⟩) (by assumption) ?_
        try simp only [Act.put, List.setIfInBounds_toArray, List.set_cons_zero, List.set_cons_succ]
        refine wpAnyH_takeL (i := 17) (v := undef) rfl (by kernel_rfl) (by kernel_rfl) (by kernel_rfl) (fun _ _ _ h => h) (Or.inr ⟨by rfl, rfl⟩) (by assumption) ?_
        try simp only [Act.put, List.setIfInBounds_toArray, List.set_cons_zero, List.set_cons_succ]
        refine wpAnyH_takeL (i := 18) (v := undef) rfl (by kernel_rfl) (by kernel_rfl) (by kernel_rfl) (fun _ _ _ h => h) (Or.inr ⟨by rfl, rfl⟩) (by assumption) ?_
        try simp only [Act.put, List.setIfInBounds_toArray, List.set_cons_zero, List.set_cons_succ]
        refine wpAnyH_takeL (i := 19) (v := undef) rfl (by kernel_rfl) (by kernel_rfl) (by kernel_rfl) (fun _ _ _ h => h) (Or.inr ⟨by rfl, rfl⟩) (by assumption) ?_
        try simp only [Act.put, List.setIfInBounds_toArray, List.set_cons_zero, List.set_cons_succ]
        refine wpAnyH_takeL (i := 20) (v := undef) rfl (by kernel_rfl) (by kernel_rfl) (by kernel_rfl) (fun _ _ _ h => h) (Or.inr ⟨by rfl, rfl⟩) (by assumption) ?_
        try simp only [Act.put, List.setIfInBounds_toArray, List.set_cons_zero, List.set_cons_succ]
        refine wpAnyH_takeL (i := 21) (v := undef) rfl (by kernel_rfl) (by kernel_rfl) (by kernel_rfl) (fun _ _ _ h => h) (Or.inr ⟨by rfl, rfl⟩) (by assumption) ?_
        try simp only [Act.put, List.setIfInBounds_toArray, List.set_cons_zero, List.set_cons_succ]
        refine wpAnyH_takeL (i := 22) (v := undef) rfl (by kernel_rfl) (by kernel_rfl) (by kernel_rfl) (fun _ _ _ h => h) (Or.inr ⟨by rfl, rfl⟩) (by assumption) ?_
        try simp only [Act.put, List.setIfInBounds_toArray, List.set_cons_zero, List.set_cons_succ]
        refine wpAnyH_takeL (i := 23) (v := undef) rfl (by kernel_rfl) (by kernel_rfl) (by kernel_rfl) (fun _ _ _ h => h) (Or.inr ⟨by rfl, rfl⟩) (by assumption) ?_
        try simp only [Act.put, List.setIfInBounds_toArray, List.set_cons_zero, List.set_cons_succ]
        refine wpAnyH_takeL (i := 24) (v := ?vhy9) rfl (by kernel_rfl) (by kernel_rfl) (by kernel_rfl) (fun _ _ _ h => h) (Or.inl ⟨by rfl, ?hy9⟩) (by assumption) ?rhy9
        case hy9 => ((intro w hSw; (try dsimp only at hSw); go_simp); try with_reducible rfl)
        try simp only [Act.put, List.setIfInBounds_toArray, List.set_cons_zero, List.set_cons_succ]
        refine wpAnyH_done (by kernel_rfl) ?_ _
        refine NoPanic.normal ?_
        clear hHeld e1 cx fx hT
        have e1 := rcells_cell hc1 (fun o => hTd.bel.cell (p := ⟨b1, o, none⟩) hbq) i (by omega)
        rw [hxe.out] at e1
        have ⟨cx, fx⟩ := box_cells hTd.kx
        have hba : Below wr.drew.heap.size wr.drew (wr.drew.alloc (.cells #[.int .i64 x0, .int .i64 x1, .int .i64 x2, .bool x3, .bool true, .slice x6 x7 x8] 96)) := (Below.refl _ _).alloc (Nat.le_refl _) _
        have hTa := hTd.more hba
        have hr5 := Rv.lit (w := wr.drew) 96 6 [.int .i64 x0, .int .i64 x1, .int .i64 x2, .bool x3, .bool true, .slice x6 x7 x8] 1 rfl (by decide)
        have hO5 := hTa.row
        have hz5 := hTa.size
        clear hba
        replace hTa := Lib.hid hTa
        replace hTd := Lib.hid hTd
        go_wp2_with (at_builtin; refine wpList_append_v _ rfl _ _ 43 rfl 96 iR zeroR 6 56 Tryd.underlying43 hiR hzR hsR hbR rfl (by decide) (w.heap.size + 2) A' (stayK now1 (xs.take i)).length c' (rcells (stayK now1 (xs.take i))) rfl hO5 (some ⟨wr.heap.size, 0, none⟩) 1 1 [.int .i64 x0, .int .i64 x1, .int .i64 x2, .bool x3, .bool true, .slice x6 x7 x8] rfl hr5 (by simp [Value.oneCell']) (by unfold maxLen; omega) (by omega) hz5 ?_; intro A6 c6 w6 hO6 hg6 hab6)
        have e6 : stayK now1 (xs.take (i + 1)) = stayK now1 (xs.take i) ++ [⟨x0, x1, x2, x3, true, x5, x6, x7, x8⟩] := hss.out
        have e7 : hsK now1 (xs.take (i + 1)) = hsK now1 (xs.take i) := hsn.out
        have hT8 := hTa.out.add (zs' := stayK now1 (xs.take (i + 1))) (A'' := A6) (c'' := c6) hg6 (by rw [e6, List.length_append, rcells_app]; exact hO6)
        refine ⟨⟨i + 1, A6, c6, R, d, by simp, by omega, by rw [e6, List.length_append]; rfl, by rw [e7], by rw [e7]; exact hT8⟩, by simp [intOf]; omega⟩
      | false =>
        by_cases hd : x1 ≤ now1 - x2
        · have hd1 : decide (x1 ≤ now1 - x2) = true := by simpa using hd
          have hL : lateK now1 ⟨x0, x1, x2, x3, false, x5, x6, x7, x8⟩ = true := by unfold lateK; simpa using hd
          rw [hL] at hsn hss
          replace hsn := Lib.hid hsn
          replace hss := Lib.hid hss
          go_wp2_with fail
          refine wp_region_noPanic ?_
          refine wp_region_held_drew (S := fun W => (W.cell? ⟨w.heap.size, 0, none⟩ = some (.int .i64 now1) ∧ W.cell? ⟨w.heap.size, 1, none⟩ = some (.slice (some ⟨b1, o1, none⟩) n c)) ∧ (W.cell? ⟨b1, o1 + i * 6, none⟩ = some (.int .i64 x0) ∧ W.cell? ⟨b1, o1 + i * 6 + 1, none⟩ = some (.int .i64 x1) ∧ W.cell? ⟨b1, o1 + i * 6 + 2, none⟩ = some (.int .i64 x2) ∧ W.cell? ⟨b1, o1 + i * 6 + 3, none⟩ = some (.bool x3) ∧ W.cell? ⟨b1, o1 + i * 6 + 4, none⟩ = some (.bool false) ∧ W.cell? ⟨b1, o1 + i * 6 + 5, none⟩ = some (.slice x6 x7 x8))) (by kernel_rfl) ⟨cx, e1⟩ (fun hHeld => ?_)
          refine wpAnyH_takeL (i := 0) (v := ?vhy10) rfl (by kernel_rfl) (by kernel_rfl) (by kernel_rfl) (fun _ _ _ h => h) (Or.inl ⟨by rfl, ?hy10⟩) (by assumption) ?rhy10
          case hy10 => ((intro w hSw; (try dsimp only at hSw); go_simp); try with_reducible rfl)
          try simp only [Act.put, List.setIfInBounds_toArray, List.set_cons_zero, List.set_cons_succ]
          refine wpAnyH_takeL (i := 1) (v := ?vhy11) rfl (by kernel_rfl) (by kernel_rfl) (by kernel_rfl) (fun _ _ _ h => h) (Or.inl ⟨by rfl, ?hy11⟩) (by assumption) ?rhy11
          case hy11 => ((intro w hSw; (try dsimp only at hSw); go_simp); try with_reducible rfl)
          try simp only [Act.put, List.setIfInBounds_toArray, List.set_cons_zero, List.set_cons_succ]
          refine wpAnyH_takeL (i := 2) (v := ?vhy12) rfl (by kernel_rfl) (by kernel_rfl) (by kernel_rfl) (fun _ _ _ h => h) (Or.inl ⟨by rfl, ?hy12⟩) (by assumption) ?rhy12
          case hy12 => ((intro w hSw; (try dsimp only at hSw); go_simp); try with_reducible rfl)
          try simp only [Act.put, List.setIfInBounds_toArray, List.set_cons_zero, List.set_cons_succ]
          refine wpAnyH_takeL (i := 3) (v := ?vhy13) rfl (by kernel_rfl) (by kernel_rfl) (by kernel_rfl) (fun _ _ _ h => h) (Or.inl ⟨by rfl, ?hy13⟩) (by assumption) ?rhy13
          case hy13 => ((intro w hSw; (try dsimp only at hSw); go_simp); try with_reducible rfl)
          try simp only [Act.put, List.setIfInBounds_toArray, List.set_cons_zero, List.set_cons_succ]
          refine wpAnyH_takeL (i := 4) (v := ?vhy14) rfl (by kernel_rfl) (by kernel_rfl) (by kernel_rfl) (fun _ _ _ h => h) (Or.inl ⟨by rfl, ?hy14⟩) (by assumption) ?rhy14
          case hy14 => ((intro w hSw; (try dsimp only at hSw); go_simp); try with_reducible rfl)
          try simp only [Act.put, List.setIfInBounds_toArray, List.set_cons_zero, List.set_cons_succ]
          refine wpAnyH_takeL (i := 5) (v := ?vhy15) rfl (by kernel_rfl) (by kernel_rfl) (by kernel_rfl) (fun _ _ _ h => h) (Or.inl ⟨by rfl, ?hy15⟩) (by assumption) ?rhy15
          case hy15 => ((intro w hSw; (try dsimp only at hSw); go_simp); try with_reducible rfl)
          try simp only [Act.put, List.setIfInBounds_toArray, List.set_cons_zero, List.set_cons_succ]
          refine wpAnyH_takeL (i := 6) (v := ?vhy16) rfl (by kernel_rfl) (by kernel_rfl) (by kernel_rfl) (fun _ _ _ h => h) (Or.inl ⟨by rfl, ?hy16⟩) (by assumption) ?rhy16
          case hy16 => ((intro w hSw; (try dsimp only at hSw); go_simp); try with_reducible rfl)
          try simp only [Act.put, List.setIfInBounds_toArray, List.set_cons_zero, List.set_cons_succ]
          refine wpAnyH_takeL (i := 7) (v := ?vhy17) rfl (by kernel_rfl) (by kernel_rfl) (by kernel_rfl) (fun _ _ _ h => h) (Or.inl ⟨by rfl, ?hy17⟩) (by assumption) ?rhy17
          case hy17 => ((intro w hSw; (try dsimp only at hSw); go_simp); try with_reducible rfl)
          try simp only [Act.put, List.setIfInBounds_toArray, List.set_cons_zero, List.set_cons_succ]
          refine wpAnyH_takeL (i := 8) (v := ?vhy18) rfl (by kernel_rfl) (by kernel_rfl) (by kernel_rfl) (fun _ _ _ h => h) (Or.inl ⟨by rfl, ?hy18⟩) (by assumption) ?rhy18
          case hy18 => ((intro w hSw; (try dsimp only at hSw); go_simp); try with_reducible rfl)
          try simp only [Act.put, List.setIfInBounds_toArray, List.set_cons_zero, List.set_cons_succ]
          refine wpAnyH_takeL (i := 9) (v := ?vhy19) rfl (by kernel_rfl) (by kernel_rfl) (by kernel_rfl) (fun _ _ _ h => h) (Or.inl ⟨by rfl, ?hy19⟩) (by assumption) ?rhy19
          case hy19 => ((intro w hSw; (try dsimp only at hSw); go_simp); try with_reducible rfl)
          try simp only [Act.put, List.setIfInBounds_toArray, List.set_cons_zero, List.set_cons_succ]
          refine wpAnyH_takeL (i := 10) (v := ?vhy20) rfl (by kernel_rfl) (by kernel_rfl) (by kernel_rfl) (fun _ _ _ h => h) (Or.inl ⟨by rfl, ?hy20⟩) (by assumption) ?rhy20
          case hy20 => ((intro w hSw; (try dsimp only at hSw); go_simp); try with_reducible rfl)
          try simp only [Act.put, List.setIfInBounds_toArray, List.set_cons_zero, List.set_cons_succ]
          refine wpAnyH_takeL (i := 11) (v := ?vhy21) rfl (by kernel_rfl) (by kernel_rfl) (by kernel_rfl) (fun _ _ _ h => h) (Or.inl ⟨by rfl, ?hy21⟩) (by assumption) ?rhy21
          case hy21 => ((intro w hSw; (try dsimp only at hSw); go_simp); try with_reducible rfl)
          try simp only [Act.put, List.setIfInBounds_toArray, List.set_cons_zero, List.set_cons_succ]
          refine wpAnyH_takeL (i := 12) (v := ?vhy22) rfl (by kernel_rfl) (by kernel_rfl) (by kernel_rfl) (fun _ _ _ h => h) (Or.inl ⟨by rfl, ?hy22⟩) (by assumption) ?rhy22
          case hy22 => ((intro w hSw; (try dsimp only at hSw); go_simp); try with_reducible rfl)
          try simp only [Act.put, List.setIfInBounds_toArray, List.set_cons_zero, List.set_cons_succ]
          refine wpAnyH_takeL (i := 13) (v := ?vhy23) rfl (by kernel_rfl) (by kernel_rfl) (by kernel_rfl) (fun _ _ _ h => h) (Or.inl ⟨by rfl, ?hy23⟩) (by assumption) ?rhy23
          case hy23 => ((intro w hSw; (try dsimp only at hSw); go_simp); try with_reducible rfl)
          try simp only [Act.put, List.setIfInBounds_toArray, List.set_cons_zero, List.set_cons_succ]
          refine wpAnyH_takeL (i := 14) (v := ?vhy24) rfl (by kernel_rfl) (by kernel_rfl) (by kernel_rfl) (fun _ _ _ h => h) (Or.inl ⟨by rfl, ?hy24⟩) (by assumption) ?rhy24
          case hy24 => ((intro w hSw; (try dsimp only at hSw); go_simp); try with_reducible rfl)
          try simp only [Act.put, List.setIfInBounds_toArray, List.set_cons_zero, List.set_cons_succ]
          refine wpAnyH_takeL (i := 15) (v := ?vhy25) rfl (by kernel_rfl) (by kernel_rfl) (by kernel_rfl) (fun _ _ _ h => h) (Or.inl ⟨by rfl, ?hy25⟩) (by assumption) ?rhy25
          case hy25 => ((intro w hSw; (try dsimp only at hSw); go_simp); try with_reducible rfl)
          try simp only [Act.put, List.setIfInBounds_toArray, List.set_cons_zero, List.set_cons_succ]
          refine wpAnyH_takeL (i := 16) (v := ?vhy26) rfl (by kernel_rfl) (by kernel_rfl) (by kernel_rfl) (fun _ _ _ h => h) (Or.inl ⟨by rfl, ?hy26⟩) (by assumption) ?rhy26
          case hy26 => ((intro w hSw; (try dsimp only at hSw); go_simp); try with_reducible rfl)
          try simp only [Act.put, List.setIfInBounds_toArray, List.set_cons_zero, List.set_cons_succ]
          refine wpAnyH_takeL (i := 17) (v := ?vhy27) rfl (by kernel_rfl) (by kernel_rfl) (by kernel_rfl) (fun _ _ _ h => h) (Or.inl ⟨by rfl, ?hy27⟩) (by assumption) ?rhy27
          case hy27 => ((intro w hSw; (try dsimp only at hSw); go_simp); try with_reducible rfl)
          try simp only [Act.put, List.setIfInBounds_toArray, List.set_cons_zero, List.set_cons_succ]
          refine wpAnyH_takeL (i := 18) (v := ?vhy28) rfl (by kernel_rfl) (by kernel_rfl) (by kernel_rfl) (fun _ _ _ h => h) (Or.inl ⟨by rfl, ?hy28⟩) (by assumption) ?rhy28
          case hy28 => ((intro w hSw; (try dsimp only at hSw); go_simp); try with_reducible rfl)
          try simp only [Act.put, List.setIfInBounds_toArray, List.set_cons_zero, List.set_cons_succ]
          refine wpAnyH_takeL (i := 19) (v := ?vhy29) rfl (by kernel_rfl) (by kernel_rfl) (by kernel_rfl) (fun _ _ _ h => h) (Or.inl ⟨by rfl, ?hy29⟩) (by assumption) ?rhy29
          case hy29 => ((intro w hSw; (try dsimp only at hSw); go_simp); try with_reducible rfl)
          try simp only [Act.put, List.setIfInBounds_toArray, List.set_cons_zero, List.set_cons_succ]
          refine wpAnyH_takeL (i := 20) (v := ?vhy30) rfl (by kernel_rfl) (by kernel_rfl) (by kernel_rfl) (fun _ _ _ h => h) (Or.inl ⟨by rfl, ?hy30⟩) (by assumption) ?rhy30
          case hy30 => ((intro w hSw; (try dsimp only at hSw); go_simp); try with_reducible rfl)
          try simp only [Act.put, List.setIfInBounds_toArray, List.set_cons_zero, List.set_cons_succ]
          refine wpAnyH_takeL (i := 21) (v := ?vhy31) rfl (by kernel_rfl) (by kernel_rfl) (by kernel_rfl) (fun _ _ _ h => h) (Or.inl ⟨by rfl, ?hy31⟩) (by assumption) ?rhy31
          case hy31 => ((intro w hSw; (try dsimp only at hSw); go_simp); try with_reducible rfl)
          try simp only [Act.put, List.setIfInBounds_toArray, List.set_cons_zero, List.set_cons_succ]
          refine wpAnyH_takeL (i := 22) (v := ?vhy32) rfl (by kernel_rfl) (by kernel_rfl) (by kernel_rfl) (fun _ _ _ h => h) (Or.inl ⟨by rfl, ?hy32⟩) (by assumption) ?rhy32
          case hy32 => ((intro w hSw; (try dsimp only at hSw); go_simp); try with_reducible rfl)
          try simp only [Act.put, List.setIfInBounds_toArray, List.set_cons_zero, List.set_cons_succ]
          refine wpAnyH_takeL (i := 23) (v := ?vhy33) rfl (by kernel_rfl) (by kernel_rfl) (by kernel_rfl) (fun _ _ _ h => h) (Or.inl ⟨by rfl, ?hy33⟩) (by assumption) ?rhy33
          case hy33 => ((intro w hSw; (try dsimp only at hSw); go_simp); try with_reducible rfl)
          try simp only [Act.put, List.setIfInBounds_toArray, List.set_cons_zero, List.set_cons_succ]
          refine wpAnyH_takeL (i := 24) (v := ?vhy34) rfl (by kernel_rfl) (by kernel_rfl) (by kernel_rfl) (fun _ _ _ h => h) (Or.inl ⟨by rfl, ?hy34⟩) (by assumption) ?rhy34
          case hy34 => ((intro w hSw; (try dsimp only at hSw); go_simp); try with_reducible rfl)
          try simp only [Act.put, List.setIfInBounds_toArray, List.set_cons_zero, List.set_cons_succ]
          refine wpAnyH_done (by kernel_rfl) ?_ _
          refine NoPanic.normal ?_
          clear hHeld e1 cx fx hT
          have e1 := rcells_cell hc1 (fun o => hTd.bel.cell (p := ⟨b1, o, none⟩) hbq) i (by omega)
          rw [hxe.out] at e1
          have ⟨cx, fx⟩ := box_cells hTd.kx
          have hba : Below wr.drew.heap.size wr.drew (wr.drew.alloc (.cells #[.int .i64 x0] 3)) := (Below.refl _ _).alloc (Nat.le_refl _) _
          have hTa := hTd.more hba
          have hr5 := Rv.lit (w := wr.drew) 3 1 [.int .i64 x0] 1 rfl (by decide)
          have hO5 := hTa.hold
          have hz5 := hTa.size
          clear hba
          replace hTa := Lib.hid hTa
          replace hTd := Lib.hid hTd
          go_wp2_with (at_builtin; refine wpList_append_v _ rfl _ _ 36 rfl 3 iS (.int .i64 0) 1 8 Tryd.underlying36 hiS hzS hsS hbS rfl (by decide) (w.heap.size + 2) R (hsK now1 (xs.take i)).length d (icells (hsK now1 (xs.take i))) rfl hO5 (some ⟨wr.heap.size, 0, none⟩) 1 1 [.int .i64 x0] rfl hr5 (by simp [Value.oneCell']) (by unfold maxLen; omega) (by omega) hz5 ?_; intro R6 d6 w6 hO6 hg6 hab6)
          have e6 : stayK now1 (xs.take (i + 1)) = stayK now1 (xs.take i) := hss.out
          have e7 : hsK now1 (xs.take (i + 1)) = hsK now1 (xs.take i) ++ [x0] := hsn.out
          have hT8 := hTa.out.app (hs' := hsK now1 (xs.take (i + 1))) (R' := R6) (d' := d6) hg6 (by rw [e7, List.length_append]; simpa [icells] using hO6)
          refine ⟨⟨i + 1, A', c', R6, d6, by simp, by omega, by rw [e6], by rw [e7, List.length_append]; rfl, by rw [e6]; exact hT8⟩, by simp [intOf]; omega⟩
        · have hd1 : decide (x1 ≤ now1 - x2) = false := by simpa using hd
          have hL : lateK now1 ⟨x0, x1, x2, x3, false, x5, x6, x7, x8⟩ = false := by unfold lateK; rw [hd1]; rfl
          rw [hL] at hsn hss
          replace hsn := Lib.hid hsn
          replace hss := Lib.hid hss
          go_wp2_with fail
          refine wp_region_noPanic ?_
          refine wp_region_held_drew (S := fun W => (W.cell? ⟨w.heap.size, 0, none⟩ = some (.int .i64 now1) ∧ W.cell? ⟨w.heap.size, 1, none⟩ = some (.slice (some ⟨b1, o1, none⟩) n c)) ∧ (W.cell? ⟨b1, o1 + i * 6, none⟩ = some (.int .i64 x0) ∧ W.cell? ⟨b1, o1 + i * 6 + 1, none⟩ = some (.int .i64 x1) ∧ W.cell? ⟨b1, o1 + i * 6 + 2, none⟩ = some (.int .i64 x2) ∧ W.cell? ⟨b1, o1 + i * 6 + 3, none⟩ = some (.bool x3) ∧ W.cell? ⟨b1, o1 + i * 6 + 4, none⟩ = some (.bool false) ∧ W.cell? ⟨b1, o1 + i * 6 + 5, none⟩ = some (.slice x6 x7 x8))) (by kernel_rfl) ⟨cx, e1⟩ (fun hHeld => ?_)
          refine wpAnyH_takeL (i := 0) (v := ?vhy35) rfl (by kernel_rfl) (by kernel_rfl) (by kernel_rfl) (fun _ _ _ h => h) (Or.inl ⟨by rfl, ?hy35⟩) (by assumption) ?rhy35
          case hy35 => ((intro w hSw; (try dsimp only at hSw); go_simp); try with_reducible rfl)
          try simp only [Act.put, List.setIfInBounds_toArray, List.set_cons_zero, List.set_cons_succ]
          refine wpAnyH_takeL (i := 1) (v := ?vhy36) rfl (by kernel_rfl) (by kernel_rfl) (by kernel_rfl) (fun _ _ _ h => h) (Or.inl ⟨by rfl, ?hy36⟩) (by assumption) ?rhy36
          case hy36 => ((intro w hSw; (try dsimp only at hSw); go_simp); try with_reducible rfl)
          try simp only [Act.put, List.setIfInBounds_toArray, List.set_cons_zero, List.set_cons_succ]
          refine wpAnyH_takeL (i := 2) (v := ?vhy37) rfl (by kernel_rfl) (by kernel_rfl) (by kernel_rfl) (fun _ _ _ h => h) (Or.inl ⟨by rfl, ?hy37⟩) (by assumption) ?rhy37
          case hy37 => ((intro w hSw; (try dsimp only at hSw); go_simp); try with_reducible rfl)
          try simp only [Act.put, List.setIfInBounds_toArray, List.set_cons_zero, List.set_cons_succ]
          refine wpAnyH_takeL (i := 3) (v := ?vhy38) rfl (by kernel_rfl) (by kernel_rfl) (by kernel_rfl) (fun _ _ _ h => h) (Or.inl ⟨by rfl, ?hy38⟩) (by assumption) ?rhy38
          case hy38 => ((intro w hSw; (try dsimp only at hSw); go_simp); try with_reducible rfl)
          try simp only [Act.put, List.setIfInBounds_toArray, List.set_cons_zero, List.set_cons_succ]
          refine wpAnyH_takeL (i := 4) (v := ?vhy39) rfl (by kernel_rfl) (by kernel_rfl) (by kernel_rfl) (fun _ _ _ h => h) (Or.inl ⟨by rfl, ?hy39⟩) (by assumption) ?rhy39
          case hy39 => ((intro w hSw; (try dsimp only at hSw); go_simp); try with_reducible rfl)
          try simp only [Act.put, List.setIfInBounds_toArray, List.set_cons_zero, List.set_cons_succ]
          refine wpAnyH_takeL (i := 5) (v := ?vhy40) rfl (by kernel_rfl) (by kernel_rfl) (by kernel_rfl) (fun _ _ _ h => h) (Or.inl ⟨by rfl, ?hy40⟩) (by assumption) ?rhy40
          case hy40 => ((intro w hSw; (try dsimp only at hSw); go_simp); try with_reducible rfl)
          try simp only [Act.put, List.setIfInBounds_toArray, List.set_cons_zero, List.set_cons_succ]
          refine wpAnyH_takeL (i := 6) (v := ?vhy41) rfl (by kernel_rfl) (by kernel_rfl) (by kernel_rfl) (fun _ _ _ h => h) (Or.inl ⟨by rfl, ?hy41⟩) (by assumption) ?rhy41
          case hy41 => ((intro w hSw; (try dsimp only at hSw); go_simp); try with_reducible rfl)
          try simp only [Act.put, List.setIfInBounds_toArray, List.set_cons_zero, List.set_cons_succ]
          refine wpAnyH_takeL (i := 7) (v := ?vhy42) rfl (by kernel_rfl) (by kernel_rfl) (by kernel_rfl) (fun _ _ _ h => h) (Or.inl ⟨by rfl, ?hy42⟩) (by assumption) ?rhy42
          case hy42 => ((intro w hSw; (try dsimp only at hSw); go_simp); try with_reducible rfl)
          try simp only [Act.put, List.setIfInBounds_toArray, List.set_cons_zero, List.set_cons_succ]
          refine wpAnyH_takeL (i := 8) (v := ?vhy43) rfl (by kernel_rfl) (by kernel_rfl) (by kernel_rfl) (fun _ _ _ h => h) (Or.inl ⟨by rfl, ?hy43⟩) (by assumption) ?rhy43
          case hy43 => ((intro w hSw; (try dsimp only at hSw); go_simp); try with_reducible rfl)
          try simp only [Act.put, List.setIfInBounds_toArray, List.set_cons_zero, List.set_cons_succ]
          refine wpAnyH_takeL (i := 9) (v := ?vhy44) rfl (by kernel_rfl) (by kernel_rfl) (by kernel_rfl) (fun _ _ _ h => h) (Or.inl ⟨by rfl, ?hy44⟩) (by assumption) ?rhy44
          case hy44 => ((intro w hSw; (try dsimp only at hSw); go_simp); try with_reducible rfl)
          try simp only [Act.put, List.setIfInBounds_toArray, List.set_cons_zero, List.set_cons_succ]
          refine wpAnyH_takeL (i := 10) (v := ?vhy45) rfl (by kernel_rfl) (by kernel_rfl) (by kernel_rfl) (fun _ _ _ h => h) (Or.inl ⟨by rfl, ?hy45⟩) (by assumption) ?rhy45
          case hy45 => ((intro w hSw; (try dsimp only at hSw); go_simp); try with_reducible rfl)
          try simp only [Act.put, List.setIfInBounds_toArray, List.set_cons_zero, List.set_cons_succ]
          refine wpAnyH_takeL (i := 11) (v := ?vhy46) rfl (by kernel_rfl) (by kernel_rfl) (by kernel_rfl) (fun _ _ _ h => h) (Or.inl ⟨by rfl, ?hy46⟩) (by assumption) ?rhy46
          case hy46 => ((intro w hSw; (try dsimp only at hSw); go_simp); try with_reducible rfl)
          try simp only [Act.put, List.setIfInBounds_toArray, List.set_cons_zero, List.set_cons_succ]
          refine wpAnyH_takeL (i := 12) (v := ?vhy47) rfl (by kernel_rfl) (by kernel_rfl) (by kernel_rfl) (fun _ _ _ h => h) (Or.inl ⟨by rfl, ?hy47⟩) (by assumption) ?rhy47
          case hy47 => ((intro w hSw; (try dsimp only at hSw); go_simp); try with_reducible rfl)
          try simp only [Act.put, List.setIfInBounds_toArray, List.set_cons_zero, List.set_cons_succ]
          refine wpAnyH_takeL (i := 13) (v := ?vhy48) rfl (by kernel_rfl) (by kernel_rfl) (by kernel_rfl) (fun _ _ _ h => h) (Or.inl ⟨by rfl, ?hy48⟩) (by assumption) ?rhy48
          case hy48 => ((intro w hSw; (try dsimp only at hSw); go_simp); try with_reducible rfl)
          try simp only [Act.put, List.setIfInBounds_toArray, List.set_cons_zero, List.set_cons_succ]
          refine wpAnyH_takeL (i := 14) (v := ?vhy49) rfl (by kernel_rfl) (by kernel_rfl) (by kernel_rfl) (fun _ _ _ h => h) (Or.inl ⟨by rfl, ?hy49⟩) (by assumption) ?rhy49
          case hy49 => ((intro w hSw; (try dsimp only at hSw); go_simp); try with_reducible rfl)
          try simp only [Act.put, List.setIfInBounds_toArray, List.set_cons_zero, List.set_cons_succ]
          refine wpAnyH_takeL (i := 15) (v := ?vhy50) rfl (by kernel_rfl) (by kernel_rfl) (by kernel_rfl) (fun _ _ _ h => h) (Or.inl ⟨by rfl, ?hy50⟩) (by assumption) ?rhy50
          case hy50 => ((intro w hSw; (try dsimp only at hSw); go_simp); try with_reducible rfl)
          try simp only [Act.put, List.setIfInBounds_toArray, List.set_cons_zero, List.set_cons_succ]
          refine wpAnyH_takeL (i := 16) (v := ?vhy51) rfl (by kernel_rfl) (by kernel_rfl) (by kernel_rfl) (fun _ _ _ h => h) (Or.inl ⟨by rfl, ?hy51⟩) (by assumption) ?rhy51
          case hy51 => ((intro w hSw; (try dsimp only at hSw); go_simp); try with_reducible rfl)
          try simp only [Act.put, List.setIfInBounds_toArray, List.set_cons_zero, List.set_cons_succ]
          refine wpAnyH_takeL (i := 17) (v := ?vhy52) rfl (by kernel_rfl) (by kernel_rfl) (by kernel_rfl) (fun _ _ _ h => h) (Or.inl ⟨by rfl, ?hy52⟩) (by assumption) ?rhy52
          case hy52 => ((intro w hSw; (try dsimp only at hSw); go_simp); try with_reducible rfl)
          try simp only [Act.put, List.setIfInBounds_toArray, List.set_cons_zero, List.set_cons_succ]
          refine wpAnyH_takeL (i := 18) (v := ?vhy53) rfl (by kernel_rfl) (by kernel_rfl) (by kernel_rfl) (fun _ _ _ h => h) (Or.inl ⟨by rfl, ?hy53⟩) (by assumption) ?rhy53
          case hy53 => ((intro w hSw; (try dsimp only at hSw); go_simp); try with_reducible rfl)
          try simp only [Act.put, List.setIfInBounds_toArray, List.set_cons_zero, List.set_cons_succ]
          refine wpAnyH_takeL (i := 19) (v := ?vhy54) rfl (by kernel_rfl) (by kernel_rfl) (by kernel_rfl) (fun _ _ _ h => h) (Or.inl ⟨by rfl, ?hy54⟩) (by assumption) ?rhy54
          case hy54 => ((intro w hSw; (try dsimp only at hSw); go_simp); try with_reducible rfl)
          try simp only [Act.put, List.setIfInBounds_toArray, List.set_cons_zero, List.set_cons_succ]
          refine wpAnyH_takeL (i := 20) (v := ?vhy55) rfl (by kernel_rfl) (by kernel_rfl) (by kernel_rfl) (fun _ _ _ h => h) (Or.inl ⟨by rfl, ?hy55⟩) (by assumption) ?rhy55
          case hy55 => ((intro w hSw; (try dsimp only at hSw); go_simp); try with_reducible rfl)
          try simp only [Act.put, List.setIfInBounds_toArray, List.set_cons_zero, List.set_cons_succ]
          refine wpAnyH_takeL (i := 21) (v := ?vhy56) rfl (by kernel_rfl) (by kernel_rfl) (by kernel_rfl) (fun _ _ _ h => h) (Or.inl ⟨by rfl, ?hy56⟩) (by assumption) ?rhy56
          case hy56 => ((intro w hSw; (try dsimp only at hSw); go_simp); try with_reducible rfl)
          try simp only [Act.put, List.setIfInBounds_toArray, List.set_cons_zero, List.set_cons_succ]
          refine wpAnyH_takeL (i := 22) (v := ?vhy57) rfl (by kernel_rfl) (by kernel_rfl) (by kernel_rfl) (fun _ _ _ h => h) (Or.inl ⟨by rfl, ?hy57⟩) (by assumption) ?rhy57
          case hy57 => ((intro w hSw; (try dsimp only at hSw); go_simp); try with_reducible rfl)
          try simp only [Act.put, List.setIfInBounds_toArray, List.set_cons_zero, List.set_cons_succ]
          refine wpAnyH_takeL (i := 23) (v := ?vhy58) rfl (by kernel_rfl) (by kernel_rfl) (by kernel_rfl) (fun _ _ _ h => h) (Or.inl ⟨by rfl, ?hy58⟩) (by assumption) ?rhy58
          case hy58 => ((intro w hSw; (try dsimp only at hSw); go_simp); try with_reducible rfl)
          try simp only [Act.put, List.setIfInBounds_toArray, List.set_cons_zero, List.set_cons_succ]
          refine wpAnyH_takeL (i := 24) (v := ?vhy59) rfl (by kernel_rfl) (by kernel_rfl) (by kernel_rfl) (fun _ _ _ h => h) (Or.inl ⟨by rfl, ?hy59⟩) (by assumption) ?rhy59
          case hy59 => ((intro w hSw; (try dsimp only at hSw); go_simp); try with_reducible rfl)
          try simp only [Act.put, List.setIfInBounds_toArray, List.set_cons_zero, List.set_cons_succ]
          refine wpAnyH_done (by kernel_rfl) ?_ _
          refine NoPanic.normal ?_
          clear hHeld e1 cx fx hT
          have e1 := rcells_cell hc1 (fun o => hTd.bel.cell (p := ⟨b1, o, none⟩) hbq) i (by omega)
          rw [hxe.out] at e1
          have ⟨cx, fx⟩ := box_cells hTd.kx
          have hba : Below wr.drew.heap.size wr.drew (wr.drew.alloc (.cells #[.int .i64 x0, .int .i64 x1, .int .i64 x2, .bool x3, .bool false, .slice x6 x7 x8] 96)) := (Below.refl _ _).alloc (Nat.le_refl _) _
          have hTa := hTd.more hba
          have hr5 := Rv.lit (w := wr.drew) 96 6 [.int .i64 x0, .int .i64 x1, .int .i64 x2, .bool x3, .bool false, .slice x6 x7 x8] 1 rfl (by decide)
          have hO5 := hTa.row
          have hz5 := hTa.size
          clear hba
          replace hTa := Lib.hid hTa
          replace hTd := Lib.hid hTd
          go_wp2_with (at_builtin; refine wpList_append_v _ rfl _ _ 43 rfl 96 iR zeroR 6 56 Tryd.underlying43 hiR hzR hsR hbR rfl (by decide) (w.heap.size + 2) A' (stayK now1 (xs.take i)).length c' (rcells (stayK now1 (xs.take i))) rfl hO5 (some ⟨wr.heap.size, 0, none⟩) 1 1 [.int .i64 x0, .int .i64 x1, .int .i64 x2, .bool x3, .bool false, .slice x6 x7 x8] rfl hr5 (by simp [Value.oneCell']) (by unfold maxLen; omega) (by omega) hz5 ?_; intro A6 c6 w6 hO6 hg6 hab6)
          have e6 : stayK now1 (xs.take (i + 1)) = stayK now1 (xs.take i) ++ [⟨x0, x1, x2, x3, false, x5, x6, x7, x8⟩] := hss.out
          have e7 : hsK now1 (xs.take (i + 1)) = hsK now1 (xs.take i) := hsn.out
          have hT8 := hTa.out.add (zs' := stayK now1 (xs.take (i + 1))) (A'' := A6) (c'' := c6) hg6 (by rw [e6, List.length_append, rcells_app]; exact hO6)
          refine ⟨⟨i + 1, A6, c6, R, d, by simp, by omega, by rw [e6, List.length_append]; rfl, by rw [e7], by rw [e7]; exact hT8⟩, by simp [intOf]; omega⟩
    · obtain rfl : i = n := by omega
      have hlt2 : decide ((i : Int) < (i : Int)) = false := by simp
      rw [List.take_of_length_le (by omega)] at hT
      have hti : xs.take i = xs := List.take_of_length_le (by omega)
      simp only [hti]
      have k1 := heap_set1 (v' := .slice A' (stayK now1 xs).length c') hT.kx
      have r1 := ((grownBy_at wr w.heap.size 1 (.slice A' (stayK now1 xs).length c')).block (w.heap.size + 1) (by have := hT.size; omega) (fun e => by injection e; omega)).trans hT.kr
      have hB1 := hT.bel.setCell (p := ⟨w.heap.size, 1, none⟩) (Nat.le_refl _) (.slice A' (stayK now1 xs).length c')
      have hO1 := hT.row.boxSet hT.kx (by decide) 1 (.slice A' (stayK now1 xs).length c')
      have hH1 := hT.hold.boxSet hT.kx (by decide) 1 (.slice A' (stayK now1 xs).length c')
      have hz1 : (wr.setCell ⟨w.heap.size, 1, none⟩ (.slice A' (stayK now1 xs).length c')).heap.size = wr.heap.size := by simp
      have hzz := hT.size
      clear hT
      go_upto_region 11 with fail
      generalize (wr.setCell ⟨w.heap.size, 1, none⟩ (.slice A' (stayK now1 xs).length c')) = w4 at *
      have hK4 : RK w4 base A' (stayK now1 xs).length c' (stayK now1 xs) := ⟨hO1.ge (by omega), fun x hx => (hK.out _ hB1).tabs x ((List.mem_filter.1 hx).1)⟩
      have hse := Lib.hid (RSet_any (now := now1) hK4 (by omega) (by have := stay_len now1 xs; omega))
      clear cx fx hK4 hO1
      have ⟨cx, fx⟩ := box_cells k1
      go_wp2_with fail
      refine hse.out.mono ?_
      rintro e w5 ⟨A5, c5, R5, d5, rfl, hK5, hR5, hb5⟩
      have hb5' := gr hB1 hb5
      have hz5 := hb5.size
      have kr5 := (hb5.block (w.heap.size + 1) (by omega)).trans r1
      have hH5 := hH1.below hb5
      clear hse cx fx k1 r1 hK hH1
      replace hK5 := Lib.hid hK5
      replace hR5 := Lib.hid hR5
      replace hH5 := Lib.hid hH5
      go_upto_region 12 with fail
      have hba : Below w5.heap.size w5 (w5.alloc (.cells #[.int .i64 now1, .slice A5 (stayK now1 xs).length c5] 45)) := (Below.refl _ _).alloc (Nat.le_refl _) _
      have kn := World.alloc_heap_new w5 (.cells #[.int .i64 now1, .slice A5 (stayK now1 xs).length c5] 45)
      have kr6 := (hba.block (w.heap.size + 1) (by omega)).trans kr5
      have hK6 := hK5.out.below hba
      have hR6 := hR5.out.below hba
      have hH6 := hH5.out.below hba
      have hb6 := gr hb5' hba
      have hne : w5.heap.size ≠ w.heap.size + 1 := by omega
      clear hba hK5 hR5 kr5 hH5
      generalize (w5.alloc (.cells #[.int .i64 now1, .slice A5 (stayK now1 xs).length c5] 45)) = w6 at *
      have ⟨cn, fn⟩ := box_cells kn
      have ⟨cr6, fr6⟩ := box_cells kr6
      have r1 := heap_set0 (u' := .int .i64 now1) kr6
      have c3 := (box_cells (heap_set1 (v' := .slice A5 (stayK now1 xs).length c5) r1)).1
      have hK7 : RK ((w6.setCell ⟨w.heap.size + 1, 0, none⟩ (.int .i64 now1)).setCell ⟨w.heap.size + 1, 1, none⟩ (.slice A5 (stayK now1 xs).length c5)) base A5 (stayK now1 xs).length c5 (settleK (stayK now1 xs)).1 :=
        ⟨(hK6.own.boxSet kr6 (by decide) 0 _).boxSet r1 (by decide) 1 _, fun x hx => ((hK6.tabs x hx).boxSet kr6 (by decide) 0 _).boxSet r1 (by decide) 1 _⟩
      have hR7 := (hR6.boxSet kr6 (by decide) 0 (.int .i64 now1)).boxSet r1 (by decide) 1 (.slice A5 (stayK now1 xs).length c5)
      have hH7 := (hH6.boxSet kr6 (by decide) 0 (.int .i64 now1)).boxSet r1 (by decide) 1 (.slice A5 (stayK now1 xs).length c5)
      have hB7 := (hb6.setCell (p := ⟨w.heap.size + 1, 0, none⟩) (Nat.le_succ _) (.int .i64 now1)).setCell (p := ⟨w.heap.size + 1, 1, none⟩) (Nat.le_succ _) (.slice A5 (stayK now1 xs).length c5)
      clear hK6 hR6 hH6 r1 kr6 kn
      replace hK7 := Lib.hid hK7
      replace hR7 := Lib.hid hR7
      replace hH7 := Lib.hid hH7
      replace hB7 := Lib.hid hB7
      go_wp2
      subst hnow
      refine bodyPost_ret (results_l2 rfl _ _ rfl rfl rfl c3.1 c3.2) rfl ?_
      exact ⟨A5, c5, R, d, R5, d5, rfl, hK7.out, hH7.out.ge (by omega), hR7.out.ge (by omega), hB7.out⟩
end Go.Proofs.YtnjhhibjcfjhnaaDoor
