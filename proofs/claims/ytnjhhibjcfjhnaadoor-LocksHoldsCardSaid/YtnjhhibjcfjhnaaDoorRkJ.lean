/- The reference's Same. -/
import Derived.Test.YtnjhhibjcfjhnaaDoorRkI
namespace Go.Proofs.YtnjhhibjcfjhnaaDoor
open Go.RowKit
set_option linter.unusedVariables false

theorem two_at (w : World) (o1 o2 : Obj) : ((w.alloc o1).alloc o2).drew.heap[w.heap.size]? = some o1 ∧ ((w.alloc o1).alloc o2).drew.heap[w.heap.size + 1]? = some o2 := by
  show ((w.heap.push o1).push o2)[_]? = _ ∧ ((w.heap.push o1).push o2)[_]? = _
  refine ⟨?_, ?_⟩
  · rw [Array.getElem?_push, if_neg (by simp), Array.getElem?_push, if_pos rfl]
  · rw [Array.getElem?_push, if_pos (by simp)]
set_option maxRecDepth 100000 in
set_option maxHeartbeats 8000000 in
theorem RSm_any (A : Option Addr) (n c : Nat) (xs : List Ak) (A2 : Option Addr) (m d : Nat) (ys : List Ak) (now now2 : Int) (w : World) (hx : Rv w 6 A n c (rcells xs)) (hy : Rv w 6 A2 m d (rcells ys)) (tx : ∀ x ∈ xs, Rv w 2 x.A x.n x.c (wcells x.W)) (ty : ∀ x ∈ ys, Rv w 2 x.A x.n x.c (wcells x.W)) :
    Calls Tryd.prog 24 #[.agg #[.int .i64 now, .slice A n c], .agg #[.int .i64 now2, .slice A2 m d]] w fun e w' => e = .returned (.bool (decide (now = now2 ∧ xs.map Ak.bare = ys.map Ak.bare))) ∧ Below w.heap.size w w' := by
  have hxn : xs.length = n := by have := hx.1; rw [rcells_length] at this; omega
  have hyn : ys.length = m := by have := hy.1; rw [rcells_length] at this; omega
  have hcx : c ≤ 9223372036854775807 := hx.2.2.1
  have hcy : d ≤ 9223372036854775807 := hy.2.2.1
  have hlx := hx.2.1
  have hly := hy.2.1
  have hb0 : Below w.heap.size w (w.alloc (.cells #[.int .i64 now, .slice A n c] 45)) := (Below.refl _ _).alloc (Nat.le_refl _) _
  have hb1 : Below (w.alloc (.cells #[.int .i64 now, .slice A n c] 45)).heap.size (w.alloc (.cells #[.int .i64 now, .slice A n c] 45)) ((w.alloc (.cells #[.int .i64 now, .slice A n c] 45)).alloc (.cells #[.int .i64 now2, .slice A2 m d] 45)) := (Below.refl _ _).alloc (Nat.le_refl _) _
  have kx := (hb1.block w.heap.size (by simp)).trans (World.alloc_heap_new w (.cells #[.int .i64 now, .slice A n c] 45))
  have ky := World.alloc_heap_new (w.alloc (.cells #[.int .i64 now, .slice A n c] 45)) (.cells #[.int .i64 now2, .slice A2 m d] 45)
  rw [World.size_alloc] at ky
  have hb2 := gr hb0 hb1
  have hsz : w.heap.size + 2 ≤ ((w.alloc (.cells #[.int .i64 now, .slice A n c] 45)).alloc (.cells #[.int .i64 now2, .slice A2 m d] 45)).heap.size := by simp
  clear hb0 hb1
  by_cases hnn : now = now2
  case neg =>
    have hN : decide (now = now2 ∧ xs.map Ak.bare = ys.map Ak.bare) = false := decide_eq_false (fun h => hnn h.1)
    rw [hN]
    have d0 : (now != now2) = true := by simpa using hnn
    clear hN hnn
    go_enter Tryd.func24, Tryd.ntmps24
    go_upto_region 1 with fail
    generalize ((w.alloc (.cells #[.int .i64 now, .slice A n c] 45)).alloc (.cells #[.int .i64 now2, .slice A2 m d] 45)) = w2 at *
    have cx := (box_cells kx).1
    have cy := (box_cells ky).1
    replace hb2 := Lib.hid hb2
    clear kx ky
    go_wp2
    go_ret
    exact ⟨rfl, hb2.out⟩
  subst hnn
  have hni : (now != now) = false := by simp
  rw [show decide (now = now ∧ xs.map Ak.bare = ys.map Ak.bare) = decide (xs.map Ak.bare = ys.map Ak.bare) from by simp]
  by_cases hnm : n = m
  case neg =>
    have hN : decide (xs.map Ak.bare = ys.map Ak.bare) = false := decide_eq_false (fun h => by have := congrArg List.length h; simp at this; omega)
    rw [hN]
    have d0 : ((n : Int) != (m : Int)) = true := by simp; omega
    clear hN
    go_enter Tryd.func24, Tryd.ntmps24
    go_upto_region 1 with fail
    generalize ((w.alloc (.cells #[.int .i64 now, .slice A n c] 45)).alloc (.cells #[.int .i64 now, .slice A2 m d] 45)) = w2 at *
    have cx := (box_cells kx).1
    have cy := (box_cells ky).1
    replace hb2 := Lib.hid hb2
    clear kx ky
    go_wp2
    go_ret
    exact ⟨rfl, hb2.out⟩
  obtain rfl : n = m := hnm
  have hne : ((n : Int) != (n : Int)) = false := by simp
  have hS := Lib.hid (fun W (hW : Below w.heap.size w W) x (h1 : x ∈ xs) y (h2 : y ∈ ys) => RWants_any x.A x.n x.c x.W y.A y.n y.c y.W W ((tx x h1).below hW) ((ty y h2).below hW))
  clear tx ty
  go_enter Tryd.func24, Tryd.ntmps24
  go_upto_region 1 with fail
  generalize ((w.alloc (.cells #[.int .i64 now, .slice A n c] 45)).alloc (.cells #[.int .i64 now, .slice A2 n d] 45)) = w2 at *
  have cx := (box_cells kx).1
  have cy := (box_cells ky).1
  have kx := Lib.hid kx
  have ky := Lib.hid ky
  go_wp2_with fail
  clear cx cy
  go_loopw [5] (fun q wr => ∃ i : Nat, q = .int .i64 (i : Int) ∧ i ≤ n ∧ (xs.take i).map Ak.bare = (ys.take i).map Ak.bare ∧ Below w2.heap.size w2 wr)
    (fun q wr => n - (intOf q).toNat)
  case atStart => exact ⟨0, rfl, by omega, by simp, Below.refl _ _⟩
  case round =>
    clear hne hni
    obtain ⟨i, rfl, hi, he, hbw⟩ := hrel
    have kxr := (hbw.block w.heap.size (by omega)).trans kx.out
    have kyr := (hbw.block (w.heap.size + 1) (by omega)).trans ky.out
    have cx := (box_cells kxr).1
    have cy := (box_cells kyr).1
    have hbr := gr hb2 hbw
    by_cases hlt : i < n
    · obtain ⟨b1, o1, rfl, hb1, hc1⟩ := hx.2.2.2 (by omega)
      obtain ⟨b2, o2, rfl, hb2', hc2⟩ := hy.2.2.2 (by omega)
      have e1 := fun W (hW : Below w.heap.size w W) => rcells_cell hc1 (fun o => hW.cell (p := ⟨b1, o, none⟩) hb1) i (by omega)
      have e2 := fun W (hW : Below w.heap.size w W) => rcells_cell hc2 (fun o => hW.cell (p := ⟨b2, o, none⟩) hb2') i (by omega)
      have t1 : xs.take (i + 1) = xs.take i ++ [xs[i]'(by omega)] := List.take_succ_eq_append_getElem (by omega)
      have t2 : ys.take (i + 1) = ys.take i ++ [ys[i]'(by omega)] := List.take_succ_eq_append_getElem (by omega)
      have hno : (xs[i]'(by omega)).bare ≠ (ys[i]'(by omega)).bare → xs.map Ak.bare ≠ ys.map Ak.bare := fun h e => by
        have e3 : (xs.map Ak.bare)[i]? = (ys.map Ak.bare)[i]? := by rw [e]
        rw [List.getElem?_map, List.getElem?_map, List.getElem?_eq_getElem (by omega), List.getElem?_eq_getElem (by omega)] at e3
        exact h (Option.some.inj e3)
      have hcall := fun W hW => hS.out W hW (xs[i]'(by omega)) (List.getElem_mem _) (ys[i]'(by omega)) (List.getElem_mem _)
      have hlt1 : (i : Int) < (n : Int) := by omega
      have hlt2 : decide ((i : Int) < (n : Int)) = true := by simp; omega
      generalize xs[i]'(by omega) = x at *
      generalize ys[i]'(by omega) = y at *
      have hsm := sameA_iff (x := x) (y := y)
      have hgo : sameA x y = true → (xs.take (i + 1)).map Ak.bare = (ys.take (i + 1)).map Ak.bare := fun h => by
        rw [t1, t2, List.map_append, List.map_append, he]
        simp only [List.map_cons, List.map_nil]
        rw [hsm.1 h]
      have hbad : sameA x y = false → decide (xs.map Ak.bare = ys.map Ak.bare) = false := fun h => decide_eq_false (hno (fun e => by rw [hsm.2 e] at h; cases h))
      have f1 := fun W (hW : Below wr.heap.size wr W) => e1 W (gr hbr hW)
      have f2 := fun W (hW : Below wr.heap.size wr W) => e2 W (gr hbr hW)
      replace e1 := e1 wr hbr
      replace e2 := e2 wr hbr
      obtain ⟨x0, x1, x2, x3, x4, x5, x6, x7, x8⟩ := x
      obtain ⟨y0, y1, y2, y3, y4, y5, y6, y7, y8⟩ := y
      simp only [sameA] at e1 e2 f1 f2 hcall hgo hbad
      replace hcall := Lib.hid hcall
      replace hgo := Lib.hid hgo
      replace hbad := Lib.hid hbad
      clear hc1 hc2 t1 t2 hno hsm he
      have hSS := Lib.hid (fun W (hW : Below wr.heap.size wr W) => show ((W.cell? ⟨w.heap.size, 0, none⟩ = some (.int .i64 now) ∧ W.cell? ⟨w.heap.size, 1, none⟩ = some (.slice (some ⟨b1, o1, none⟩) n c)) ∧ (W.cell? ⟨w.heap.size + 1, 0, none⟩ = some (.int .i64 now) ∧ W.cell? ⟨w.heap.size + 1, 1, none⟩ = some (.slice (some ⟨b2, o2, none⟩) n d))) ∧
          (W.cell? ⟨b1, o1 + i * 6, none⟩ = some (.int .i64 x0) ∧ W.cell? ⟨b1, o1 + i * 6 + 1, none⟩ = some (.int .i64 x1) ∧ W.cell? ⟨b1, o1 + i * 6 + 2, none⟩ = some (.int .i64 x2) ∧ W.cell? ⟨b1, o1 + i * 6 + 3, none⟩ = some (.bool x3) ∧ W.cell? ⟨b1, o1 + i * 6 + 4, none⟩ = some (.bool x4) ∧ W.cell? ⟨b1, o1 + i * 6 + 5, none⟩ = some (.slice x6 x7 x8)) ∧
          (W.cell? ⟨b2, o2 + i * 6, none⟩ = some (.int .i64 y0) ∧ W.cell? ⟨b2, o2 + i * 6 + 1, none⟩ = some (.int .i64 y1) ∧ W.cell? ⟨b2, o2 + i * 6 + 2, none⟩ = some (.int .i64 y2) ∧ W.cell? ⟨b2, o2 + i * 6 + 3, none⟩ = some (.bool y3) ∧ W.cell? ⟨b2, o2 + i * 6 + 4, none⟩ = some (.bool y4) ∧ W.cell? ⟨b2, o2 + i * 6 + 5, none⟩ = some (.slice y6 y7 y8)) from
        ⟨⟨(box_cells ((hW.block w.heap.size (by have := hbw.size; omega)).trans kxr)).1, (box_cells ((hW.block (w.heap.size + 1) (by have := hbw.size; omega)).trans kyr)).1⟩, f1 W hW, f2 W hW⟩)
      clear f1 f2
      go_wp2_with fail
      refine wp_region_noPanic ?_
      have hdr : Below wr.heap.size wr wr.drew := (Below.refl _ _).drew
      have hS0 := hSS.out wr (Below.refl _ _)
      refine wp_region_held_drew (S := fun W => ((W.cell? ⟨w.heap.size, 0, none⟩ = some (.int .i64 now) ∧ W.cell? ⟨w.heap.size, 1, none⟩ = some (.slice (some ⟨b1, o1, none⟩) n c)) ∧ (W.cell? ⟨w.heap.size + 1, 0, none⟩ = some (.int .i64 now) ∧ W.cell? ⟨w.heap.size + 1, 1, none⟩ = some (.slice (some ⟨b2, o2, none⟩) n d))) ∧
          (W.cell? ⟨b1, o1 + i * 6, none⟩ = some (.int .i64 x0) ∧ W.cell? ⟨b1, o1 + i * 6 + 1, none⟩ = some (.int .i64 x1) ∧ W.cell? ⟨b1, o1 + i * 6 + 2, none⟩ = some (.int .i64 x2) ∧ W.cell? ⟨b1, o1 + i * 6 + 3, none⟩ = some (.bool x3) ∧ W.cell? ⟨b1, o1 + i * 6 + 4, none⟩ = some (.bool x4) ∧ W.cell? ⟨b1, o1 + i * 6 + 5, none⟩ = some (.slice x6 x7 x8)) ∧
          (W.cell? ⟨b2, o2 + i * 6, none⟩ = some (.int .i64 y0) ∧ W.cell? ⟨b2, o2 + i * 6 + 1, none⟩ = some (.int .i64 y1) ∧ W.cell? ⟨b2, o2 + i * 6 + 2, none⟩ = some (.int .i64 y2) ∧ W.cell? ⟨b2, o2 + i * 6 + 3, none⟩ = some (.bool y3) ∧ W.cell? ⟨b2, o2 + i * 6 + 4, none⟩ = some (.bool y4) ∧ W.cell? ⟨b2, o2 + i * 6 + 5, none⟩ = some (.slice y6 y7 y8))) (by kernel_rfl) hS0 (fun hHeld => ?_)
      clear e1 e2 cx cy hS0
      refine wpAnyH_takeL (i := 0) (v := ?vhy1) rfl (by kernel_rfl) (by kernel_rfl) (by kernel_rfl) (fun _ _ _ h => h) (Or.inl ⟨by rfl, ?hy1⟩) (by assumption) ?rhy1
      case hy1 => ((intro w hSw; (try dsimp only at hSw); go_simp); try with_reducible rfl)
      try simp only [Act.put, List.setIfInBounds_toArray, List.set_cons_zero, List.set_cons_succ]
      refine wpAnyH_takeL (i := 1) (v := ?vhy2) rfl (by kernel_rfl) (by kernel_rfl) (by kernel_rfl) (fun _ _ _ h => h) (Or.inl ⟨by rfl, ?hy2⟩) (by assumption) ?rhy2
      case hy2 => ((intro w hSw; (try dsimp only at hSw); go_simp); try with_reducible rfl)
      try simp only [Act.put, List.setIfInBounds_toArray, List.set_cons_zero, List.set_cons_succ]
      refine wpAnyH_takeL (i := 2) (v := ?vhy3) rfl (by kernel_rfl) (by kernel_rfl) (by kernel_rfl) (fun _ _ _ h => h) (Or.inl ⟨by rfl, ?hy3⟩) (by assumption) ?rhy3
      case hy3 => ((intro w hSw; (try dsimp only at hSw); go_simp); try with_reducible rfl)
      try simp only [Act.put, List.setIfInBounds_toArray, List.set_cons_zero, List.set_cons_succ]
      refine wpAnyH_takeL (i := 3) (v := ?vhy4) rfl (by kernel_rfl) (by kernel_rfl) (by kernel_rfl) (fun _ _ _ h => h) (Or.inl ⟨by rfl, ?hy4⟩) (by assumption) ?rhy4
      case hy4 => ((intro w hSw; (try dsimp only at hSw); go_simp); try with_reducible rfl)
      try simp only [Act.put, List.setIfInBounds_toArray, List.set_cons_zero, List.set_cons_succ]
      refine wpAnyH_takeL (i := 4) (v := ?vhy5) rfl (by kernel_rfl) (by kernel_rfl) (by kernel_rfl) (fun _ _ _ h => h) (Or.inl ⟨by rfl, ?hy5⟩) (by assumption) ?rhy5
      case hy5 => ((intro w hSw; (try dsimp only at hSw); go_simp); try with_reducible rfl)
      try simp only [Act.put, List.setIfInBounds_toArray, List.set_cons_zero, List.set_cons_succ]
      refine wpAnyH_takeL (i := 5) (v := ?vhy6) rfl (by kernel_rfl) (by kernel_rfl) (by kernel_rfl) (fun _ _ _ h => h) (Or.inl ⟨by rfl, ?hy6⟩) (by assumption) ?rhy6
      case hy6 => ((intro w hSw; (try dsimp only at hSw); go_simp); try with_reducible rfl)
      try simp only [Act.put, List.setIfInBounds_toArray, List.set_cons_zero, List.set_cons_succ]
      refine wpAnyH_takeL (i := 6) (v := ?vhy7) rfl (by kernel_rfl) (by kernel_rfl) (by kernel_rfl) (fun _ _ _ h => h) (Or.inl ⟨by rfl, ?hy7⟩) (by assumption) ?rhy7
      case hy7 => ((intro w hSw; (try dsimp only at hSw); go_simp); try with_reducible rfl)
      try simp only [Act.put, List.setIfInBounds_toArray, List.set_cons_zero, List.set_cons_succ]
      refine wpAnyH_takeL (i := 7) (v := ?vhy8) rfl (by kernel_rfl) (by kernel_rfl) (by kernel_rfl) (fun _ _ _ h => h) (Or.inl ⟨by rfl, ?hy8⟩) (by assumption) ?rhy8
      case hy8 => ((intro w hSw; (try dsimp only at hSw); go_simp); try with_reducible rfl)
      try simp only [Act.put, List.setIfInBounds_toArray, List.set_cons_zero, List.set_cons_succ]
      refine wpAnyH_takeL (i := 8) (v := ?vhy9) rfl (by kernel_rfl) (by kernel_rfl) (by kernel_rfl) (fun _ _ _ h => h) (Or.inl ⟨by rfl, ?hy9⟩) (by assumption) ?rhy9
      case hy9 => ((intro w hSw; (try dsimp only at hSw); go_simp); try with_reducible rfl)
      try simp only [Act.put, List.setIfInBounds_toArray, List.set_cons_zero, List.set_cons_succ]
      refine wpAnyH_takeL (i := 9) (v := ?vhy10) rfl (by kernel_rfl) (by kernel_rfl) (by kernel_rfl) (fun _ _ _ h => h) (Or.inl ⟨by rfl, ?hy10⟩) (by assumption) ?rhy10
      case hy10 => ((intro w hSw; (try dsimp only at hSw); go_simp); try with_reducible rfl)
      try simp only [Act.put, List.setIfInBounds_toArray, List.set_cons_zero, List.set_cons_succ]
      refine wpAnyH_ready (rs := [10, 11]) (by kernel_rfl) (by simp) ?_
      refine AllReadyH.consL (i := 10) rfl (fun K hK => ?_) (AllReadyH.consL (i := 11) rfl (fun K hK => ?_) AllReadyH.nil)
      · go_simp
        refine hK.out _ _ (hSS.out _ (gr_alloc (Below.refl _ _) _).drew) (fun hHeld => ?_)
        clear hK hHeld
        try simp only [Act.put, List.setIfInBounds_toArray, List.set_cons_zero, List.set_cons_succ]
        refine wpAnyH_ready (rs := [11]) (by kernel_rfl) (by simp) ?_
        refine AllReadyH.consL (i := 11) rfl (fun K hK => ?_) AllReadyH.nil
        go_simp
        refine hK.out _ _ (hSS.out _ (gr_alloc (gr_alloc (Below.refl _ _) _) _).drew) (fun hHeld => ?_)
        clear hK hHeld
        try simp only [Act.put, List.setIfInBounds_toArray, List.set_cons_zero, List.set_cons_succ]
        refine wpAnyH_ready (rs := [12]) (by kernel_rfl) (by simp) ?_
        refine AllReadyH.consL (i := 12) rfl (fun K hK => ?_) AllReadyH.nil
        go_simp
        refine hK.out _ _ (hSS.out _ (gr_alloc (gr_alloc (Below.refl _ _) _) _).drew) (fun hHeld => ?_)
        clear hK hHeld
        try simp only [Act.put, List.setIfInBounds_toArray, List.set_cons_zero, List.set_cons_succ]
        refine wpAnyH_ready (rs := [13]) (by kernel_rfl) (by simp) ?_
        refine AllReadyH.consL (i := 13) rfl (fun K hK => ?_) AllReadyH.nil
        go_simp
        have hbz : Below wr.heap.size wr ((wr.alloc (.cells #[.int .i64 x0, .int .i64 x1, .int .i64 x2, .bool x3, .bool x4, .slice x6 x7 x8] 96)).alloc (.cells #[.int .i64 y0, .int .i64 y1, .int .i64 y2, .bool y3, .bool y4, .slice y6 y7 y8] 96)).drew := (gr_alloc (gr_alloc (Below.refl _ _) _) _).drew
        have gx := (two_at wr (.cells #[.int .i64 x0, .int .i64 x1, .int .i64 x2, .bool x3, .bool x4, .slice x6 x7 x8] 96) (.cells #[.int .i64 y0, .int .i64 y1, .int .i64 y2, .bool y3, .bool y4, .slice y6 y7 y8] 96)).1
        have gy := (two_at wr (.cells #[.int .i64 x0, .int .i64 x1, .int .i64 x2, .bool x3, .bool x4, .slice x6 x7 x8] 96) (.cells #[.int .i64 y0, .int .i64 y1, .int .i64 y2, .bool y3, .bool y4, .slice y6 y7 y8] 96)).2
        refine hK.out _ _ (hSS.out _ hbz) (fun hHeld => ?_)
        clear hK hHeld
        try simp only [Act.put, List.setIfInBounds_toArray, List.set_cons_zero, List.set_cons_succ]
        refine wpAnyH_done (by kernel_rfl) ?_ _
        refine NoPanic.normal ?_
        generalize ((wr.alloc (.cells #[.int .i64 x0, .int .i64 x1, .int .i64 x2, .bool x3, .bool x4, .slice x6 x7 x8] 96)).alloc (.cells #[.int .i64 y0, .int .i64 y1, .int .i64 y2, .bool y3, .bool y4, .slice y6 y7 y8] 96)).drew = wz at *
        replace gx := (box6 gx).1
        replace gy := (box6 gy).1
        have hbf := Lib.hid (gr hbr hbz)
        have hbo := Lib.hid (gr hbw hbz)
        have hcz := Lib.hid (hcall.out _ hbf.out)
        clear hbz hcall hdr hSS kxr kyr hbw hbr
        by_cases h0 : x0 = y0
        case neg =>
          have d0 : (x0 != y0) = true := by simpa using h0
          have hN := hbad.out (by simp [h0])
          replace hN := Lib.hid hN
          clear h0
          go_wp2
          go_ret
          exact ⟨by rw [hN.out]; rfl, hbf.out⟩
        have d0 : (x0 != y0) = false := by simpa using h0
        replace h0 := Lib.hid h0
        by_cases h1 : x1 = y1
        case neg =>
          have d1 : (x1 != y1) = true := by simpa using h1
          have hN := hbad.out (by simp [h1])
          replace hN := Lib.hid hN
          clear h1
          go_wp2
          go_ret
          exact ⟨by rw [hN.out]; rfl, hbf.out⟩
        have d1 : (x1 != y1) = false := by simpa using h1
        replace h1 := Lib.hid h1
        by_cases h2 : x2 = y2
        case neg =>
          have d2 : (x2 != y2) = true := by simpa using h2
          have hN := hbad.out (by simp [h2])
          replace hN := Lib.hid hN
          clear h2
          go_wp2
          go_ret
          exact ⟨by rw [hN.out]; rfl, hbf.out⟩
        have d2 : (x2 != y2) = false := by simpa using h2
        replace h2 := Lib.hid h2
        by_cases h3 : x3 = y3
        case neg =>
          have hN := hbad.out (by simp [h3])
          replace hN := Lib.hid hN
          cases x3 <;> cases y3 <;> first | exact absurd rfl h3 | skip
          all_goals
            clear h3
            go_wp2
            go_ret
            exact ⟨by rw [hN.out]; rfl, hbf.out⟩
        subst h3
        by_cases h4 : x4 = y4
        case neg =>
          have hN := hbad.out (by simp [h4])
          replace hN := Lib.hid hN
          cases x4 <;> cases y4 <;> first | exact absurd rfl h4 | skip
          all_goals
            clear h4
            go_wp2
            go_ret
            exact ⟨by rw [hN.out]; rfl, hbf.out⟩
        subst h4
        have hE5 : decide (x5 = y5) = (decide (x0 = y0) && (decide (x1 = y1) && (decide (x2 = y2) && (decide (x3 = x3) && (decide (x4 = x4) && decide (x5 = y5)))))) := by simp [h0.out, h1.out, h2.out]
        replace hE5 := Lib.hid hE5
        clear h0 h1 h2
        go_wp2_with fail
        refine hcz.out.mono ?_
        rintro e w5 ⟨rfl, hb5⟩
        clear hcz
        cases h5 : decide (x5 = y5) with
        | true =>
          have hN := hgo.out (by rw [← hE5.out, h5])
          have hbn := gr hbo.out hb5
          clear h5 hE5 hgo hbad hb5 gx gy
          replace hN := Lib.hid hN
          replace hbn := Lib.hid hbn
          go_wp2
          exact ⟨⟨i + 1, by simp, by omega, hN.out, hbn.out⟩, by simp [intOf]; omega⟩
        | false =>
          have hN := hbad.out (by rw [← hE5.out, h5])
          have hbn := gr hbf.out hb5
          clear h5 hE5 hgo hbad hb5 gx gy
          replace hN := Lib.hid hN
          replace hbn := Lib.hid hbn
          go_wp2
          go_ret
          exact ⟨by rw [hN.out]; rfl, hbn.out⟩
      · go_simp
        refine hK.out _ _ (hSS.out _ (gr_alloc (Below.refl _ _) _).drew) (fun hHeld => ?_)
        clear hK hHeld
        try simp only [Act.put, List.setIfInBounds_toArray, List.set_cons_zero, List.set_cons_succ]
        refine wpAnyH_ready (rs := [10]) (by kernel_rfl) (by simp) ?_
        refine AllReadyH.consL (i := 10) rfl (fun K hK => ?_) AllReadyH.nil
        go_simp
        refine hK.out _ _ (hSS.out _ (gr_alloc (gr_alloc (Below.refl _ _) _) _).drew) (fun hHeld => ?_)
        clear hK hHeld
        try simp only [Act.put, List.setIfInBounds_toArray, List.set_cons_zero, List.set_cons_succ]
        refine wpAnyH_ready (rs := [12]) (by kernel_rfl) (by simp) ?_
        refine AllReadyH.consL (i := 12) rfl (fun K hK => ?_) AllReadyH.nil
        go_simp
        refine hK.out _ _ (hSS.out _ (gr_alloc (gr_alloc (Below.refl _ _) _) _).drew) (fun hHeld => ?_)
        clear hK hHeld
        try simp only [Act.put, List.setIfInBounds_toArray, List.set_cons_zero, List.set_cons_succ]
        refine wpAnyH_ready (rs := [13]) (by kernel_rfl) (by simp) ?_
        refine AllReadyH.consL (i := 13) rfl (fun K hK => ?_) AllReadyH.nil
        go_simp
        have hbz : Below wr.heap.size wr ((wr.alloc (.cells #[.int .i64 y0, .int .i64 y1, .int .i64 y2, .bool y3, .bool y4, .slice y6 y7 y8] 96)).alloc (.cells #[.int .i64 x0, .int .i64 x1, .int .i64 x2, .bool x3, .bool x4, .slice x6 x7 x8] 96)).drew := (gr_alloc (gr_alloc (Below.refl _ _) _) _).drew
        have gx := (two_at wr (.cells #[.int .i64 y0, .int .i64 y1, .int .i64 y2, .bool y3, .bool y4, .slice y6 y7 y8] 96) (.cells #[.int .i64 x0, .int .i64 x1, .int .i64 x2, .bool x3, .bool x4, .slice x6 x7 x8] 96)).2
        have gy := (two_at wr (.cells #[.int .i64 y0, .int .i64 y1, .int .i64 y2, .bool y3, .bool y4, .slice y6 y7 y8] 96) (.cells #[.int .i64 x0, .int .i64 x1, .int .i64 x2, .bool x3, .bool x4, .slice x6 x7 x8] 96)).1
        refine hK.out _ _ (hSS.out _ hbz) (fun hHeld => ?_)
        clear hK hHeld
        try simp only [Act.put, List.setIfInBounds_toArray, List.set_cons_zero, List.set_cons_succ]
        refine wpAnyH_done (by kernel_rfl) ?_ _
        refine NoPanic.normal ?_
        generalize ((wr.alloc (.cells #[.int .i64 y0, .int .i64 y1, .int .i64 y2, .bool y3, .bool y4, .slice y6 y7 y8] 96)).alloc (.cells #[.int .i64 x0, .int .i64 x1, .int .i64 x2, .bool x3, .bool x4, .slice x6 x7 x8] 96)).drew = wz at *
        replace gx := (box6 gx).1
        replace gy := (box6 gy).1
        have hbf := Lib.hid (gr hbr hbz)
        have hbo := Lib.hid (gr hbw hbz)
        have hcz := Lib.hid (hcall.out _ hbf.out)
        clear hbz hcall hdr hSS kxr kyr hbw hbr
        by_cases h0 : x0 = y0
        case neg =>
          have d0 : (x0 != y0) = true := by simpa using h0
          have hN := hbad.out (by simp [h0])
          replace hN := Lib.hid hN
          clear h0
          go_wp2
          go_ret
          exact ⟨by rw [hN.out]; rfl, hbf.out⟩
        have d0 : (x0 != y0) = false := by simpa using h0
        replace h0 := Lib.hid h0
        by_cases h1 : x1 = y1
        case neg =>
          have d1 : (x1 != y1) = true := by simpa using h1
          have hN := hbad.out (by simp [h1])
          replace hN := Lib.hid hN
          clear h1
          go_wp2
          go_ret
          exact ⟨by rw [hN.out]; rfl, hbf.out⟩
        have d1 : (x1 != y1) = false := by simpa using h1
        replace h1 := Lib.hid h1
        by_cases h2 : x2 = y2
        case neg =>
          have d2 : (x2 != y2) = true := by simpa using h2
          have hN := hbad.out (by simp [h2])
          replace hN := Lib.hid hN
          clear h2
          go_wp2
          go_ret
          exact ⟨by rw [hN.out]; rfl, hbf.out⟩
        have d2 : (x2 != y2) = false := by simpa using h2
        replace h2 := Lib.hid h2
        by_cases h3 : x3 = y3
        case neg =>
          have hN := hbad.out (by simp [h3])
          replace hN := Lib.hid hN
          cases x3 <;> cases y3 <;> first | exact absurd rfl h3 | skip
          all_goals
            clear h3
            go_wp2
            go_ret
            exact ⟨by rw [hN.out]; rfl, hbf.out⟩
        subst h3
        by_cases h4 : x4 = y4
        case neg =>
          have hN := hbad.out (by simp [h4])
          replace hN := Lib.hid hN
          cases x4 <;> cases y4 <;> first | exact absurd rfl h4 | skip
          all_goals
            clear h4
            go_wp2
            go_ret
            exact ⟨by rw [hN.out]; rfl, hbf.out⟩
        subst h4
        have hE5 : decide (x5 = y5) = (decide (x0 = y0) && (decide (x1 = y1) && (decide (x2 = y2) && (decide (x3 = x3) && (decide (x4 = x4) && decide (x5 = y5)))))) := by simp [h0.out, h1.out, h2.out]
        replace hE5 := Lib.hid hE5
        clear h0 h1 h2
        go_wp2_with fail
        refine hcz.out.mono ?_
        rintro e w5 ⟨rfl, hb5⟩
        clear hcz
        cases h5 : decide (x5 = y5) with
        | true =>
          have hN := hgo.out (by rw [← hE5.out, h5])
          have hbn := gr hbo.out hb5
          clear h5 hE5 hgo hbad hb5 gx gy
          replace hN := Lib.hid hN
          replace hbn := Lib.hid hbn
          go_wp2
          exact ⟨⟨i + 1, by simp, by omega, hN.out, hbn.out⟩, by simp [intOf]; omega⟩
        | false =>
          have hN := hbad.out (by rw [← hE5.out, h5])
          have hbn := gr hbf.out hb5
          clear h5 hE5 hgo hbad hb5 gx gy
          replace hN := Lib.hid hN
          replace hbn := Lib.hid hbn
          go_wp2
          go_ret
          exact ⟨by rw [hN.out]; rfl, hbn.out⟩
    · obtain rfl : i = n := by omega
      have hN : decide (xs.map Ak.bare = ys.map Ak.bare) = true := decide_eq_true (by
        rw [List.take_of_length_le (by omega), List.take_of_length_le (by omega)] at he
        exact he)
      have hlt2 : decide ((i : Int) < (i : Int)) = false := by simp
      replace hN := Lib.hid hN
      replace hbr := Lib.hid hbr
      clear hbw kxr kyr
      go_wp2
      go_ret
      exact ⟨by rw [hN.out]; rfl, hbr.out⟩
end Go.Proofs.YtnjhhibjcfjhnaaDoor
