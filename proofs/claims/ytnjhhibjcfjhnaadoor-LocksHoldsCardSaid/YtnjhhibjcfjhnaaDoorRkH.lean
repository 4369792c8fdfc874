/- The reference's Ask. -/
import Derived.Test.YtnjhhibjcfjhnaaDoorRkG
import Derived.Test.YtnjhhibjcfjhnaaDoorLwZ
import Derived.Deep.CutRange
namespace Go.Proofs.YtnjhhibjcfjhnaaDoor
open Go.RowKit
set_option linter.unusedVariables false

/-- What the function's two boxes hold while the new asks are built. -/
structure QA (w wr : World) (now : Int) (A : Option Addr) (n c : Nat) : Prop where
  bel : Below w.heap.size w wr
  kx : wr.heap[w.heap.size]? = some (.cells #[.int .i64 now, .slice A n c] 45 (0, 0))
  kr : wr.heap[w.heap.size + 1]? = some (.cells #[.int .i64 0, .slice none 0 0] 45 (0, 0))
  size : w.heap.size + 2 ≤ wr.heap.size
theorem QA.more {w wr w2 : World} {now : Int} {A : Option Addr} {n c : Nat} (h : QA w wr now A n c) (hb : Below wr.heap.size wr w2) : QA w w2 now A n c :=
  ⟨gr h.bel hb, (hb.block _ (by have := h.size; omega)).trans h.kx, (hb.block _ (by have := h.size; omega)).trans h.kr, Nat.le_trans h.size hb.size⟩
theorem QA.grown {w wr w2 : World} {now : Int} {A : Option Addr} {n c : Nat} {r : Option Nat} (h : QA w wr now A n c) (hg : wr.grownBy w2 r) (hr : ∀ k, r = some k → w.heap.size + 2 ≤ k) : QA w w2 now A n c :=
  ⟨h.bel.grown hg (by have := h.size; omega) (fun k e => by have := hr k e; omega), (hg.block _ (by have := h.size; omega) (fun e => by have := hr _ e.symm; omega)).trans h.kx, (hg.block _ (by have := h.size; omega) (fun e => by have := hr _ e.symm; omega)).trans h.kr,
    Nat.le_trans h.size hg.size⟩
theorem QA.cells {w wr : World} {now : Int} {A : Option Addr} {n c : Nat} (h : QA w wr now A n c) : wr.cell? ⟨w.heap.size, 0, none⟩ = some (.int .i64 now) ∧ wr.cell? ⟨w.heap.size, 1, none⟩ = some (.slice A n c) := (box_cells h.kx).1
theorem wcells_one' (ws : List Wt) : ∀ u ∈ wcells ws, u.oneCell' = true := wcells_one ws
theorem settle_any (s : Int) {xs : List Ak} (h : xs.any (isS s) = true) : (settleK xs).1.any (isS s) = true := by
  obtain ⟨x, hx, he⟩ := List.any_eq_true.1 h
  have hm : x.s ∈ xs.map (·.s) := List.mem_map_of_mem hx
  have hm := (settleK_s xs).mem_iff.2 hm
  obtain ⟨y, hy, e⟩ := List.mem_map.1 hm
  refine List.any_eq_true.2 ⟨y, hy, ?_⟩
  unfold isS at *
  rw [e]
  exact he
theorem rightK_len {ws : List Wt} (h : rightK ws = true) : ws.length ≤ 8 := by
  unfold rightK at h
  simp at h
  omega

set_option maxRecDepth 100000 in
set_option maxHeartbeats 8000000 in
theorem RAskGo_any {w : World} {base : Nat} {now : Int} {A : Option Addr} {n c : Nat} {xs : List Ak} (h : RK w base A n c xs) (hbs : base ≤ w.heap.size) (s wait : Int) (first : Bool) (D : Option Addr) (m d : Nat) (ws : List Wt) (hr : Rv w 2 D m d (wcells ws)) (hn : n < 19) (hk : askedK s wait ws xs = 0) :
    Calls Tryd.prog 40 #[.agg #[.int .i64 now, .slice A n c], .int .i64 s, .bool first, .int .i64 wait, .slice D m d] w fun e w' =>
      ∃ A' c' D' d', e = .returned (.tuple #[.agg #[.int .i64 now, .slice A' (n + 1) c'], .bool (heldK s (settleK (xs ++ [newAk s now wait first ws D' m d'])).1), .int .i64 0]) ∧
        RK w' base A' (n + 1) c' (settleK (xs ++ [newAk s now wait first ws D' m d'])).1 ∧ Below w.heap.size w w' := by
  have hb0 : Below w.heap.size w (w.alloc (.cells #[.int .i64 now, .slice A n c] 45)) := (Below.refl _ _).alloc (Nat.le_refl _) _
  have hb1 : Below (w.alloc (.cells #[.int .i64 now, .slice A n c] 45)).heap.size (w.alloc (.cells #[.int .i64 now, .slice A n c] 45)) ((w.alloc (.cells #[.int .i64 now, .slice A n c] 45)).alloc (.cells #[.int .i64 0, .slice none 0 0] 45)) := (Below.refl _ _).alloc (Nat.le_refl _) _
  have kx := (hb1.block w.heap.size (by simp)).trans (World.alloc_heap_new w (.cells #[.int .i64 now, .slice A n c] 45))
  have kr := World.alloc_heap_new (w.alloc (.cells #[.int .i64 now, .slice A n c] 45)) (.cells #[.int .i64 0, .slice none 0 0] 45)
  rw [World.size_alloc] at kr
  have hQ2 : QA w _ now A n c := ⟨gr hb0 hb1, kx, kr, by simp⟩
  clear hb0 hb1 kx kr
  have hln := h.len
  have hr1 := rcells_one xs
  have hK := Lib.hid (fun W (hW : Below w.heap.size w W) => h.below hW)
  have hrx := Lib.hid (fun W (hW : Below w.heap.size w W) => h.own.rv.below hW)
  have hrw := Lib.hid (fun W (hW : Below w.heap.size w W) => hr.below hW)
  have hat := Lib.hid (fun W (hW : Below w.heap.size w W) => RAt_any A n c xs now s W (h.own.rv.below hW))
  have hri := Lib.hid (fun W (hW : Below w.heap.size w W) => RRight_any D m d ws W (hr.below hW))
  have hm : m = ws.length := by have := hr.1; rw [wcells_length] at this; omega
  unfold askedK at hk
  have hth : thereK s = true := by cases e : thereK s <;> simp [e] at hk ⊢
  have hwa : decide (wait < 1) = false := by cases e : decide (wait < 1) <;> simp [e] at hk ⊢
  have hwb : decide (1000 < wait) = false := by cases e : decide (1000 < wait) <;> simp [e] at hk ⊢
  have hrk : rightK ws = true := by cases e : rightK ws <;> simp [e] at hk ⊢
  have hno : xs.any (isS s) = false := by cases e : xs.any (isS s) <;> simp [hth, hwa, hwb, hrk, e] at hk ⊢
  clear hk
  have hm8 : m ≤ 8 := by rw [hm]; exact rightK_len hrk
  have hix := idxL_any (isS s) xs
  rw [hno] at hix
  rw [hrk] at hri
  have hta : decide (s < 1) = false := by unfold thereK at hth; simp at hth ⊢; omega
  have htb : decide (16 < s) = false := by unfold thereK at hth; simp at hth ⊢; omega
  clear hm hrk hno hth h hr
  generalize idxL (isS s) xs = z at *
  have hfin := Lib.hid (show ∀ (v3 : World) (A5 : Option Addr) (c5 : Nat) (D1 : Option Addr) (d1 : Nat), QA w v3 now A n c → Ov v3 (w.heap.size + 2) 96 6 A5 (n + 1) c5 (rcells xs ++ [.int .i64 s, .int .i64 now, .int .i64 wait, .bool first, .bool false, .slice D1 m d1]) →
      Ov v3 (w.heap.size + 2) 64 2 D1 m d1 (wcells ws) → QA w (v3.setCell ⟨w.heap.size, 1, none⟩ (.slice A5 (n + 1) c5)) now A5 (n + 1) c5 ∧ RK (v3.setCell ⟨w.heap.size, 1, none⟩ (.slice A5 (n + 1) c5)) base A5 (n + 1) c5 (xs ++ [newAk s now wait first ws D1 m d1]) from fun v3 A5 c5 D1 d1 hQ hO hD => by
    have hK3 := hK.out _ hQ.bel
    refine ⟨⟨hQ.bel.setCell (p := ⟨w.heap.size, 1, none⟩) (Nat.le_refl _) _, heap_set1 hQ.kx, ((grownBy_at v3 w.heap.size 1 _).block (w.heap.size + 1) (by have := hQ.size; omega) (fun e => by injection e; omega)).trans hQ.kr, ?_⟩, ?_, fun x hx => ?_⟩
    · have := hQ.size
      simpa using this
    · have e : rcells (xs ++ [newAk s now wait first ws D1 m d1]) = rcells xs ++ [.int .i64 s, .int .i64 now, .int .i64 wait, .bool first, .bool false, .slice D1 m d1] := by
        rw [rcells_app]; rfl
      rw [e]
      exact (hO.boxSet hQ.kx (by decide) 1 _).ge (by omega)
    · rcases List.mem_append.1 hx with hx | hx
      · exact (hK3.tabs x hx).boxSet hQ.kx (by decide) 1 _
      · rw [List.mem_singleton.1 hx]
        exact (hD.boxSet hQ.kx (by decide) 1 _).ge (by omega))
  go_enter Tryd.func40, Tryd.ntmps40
  go_upto_region 1 with fail
  generalize ((w.alloc (.cells #[.int .i64 now, .slice A n c] 45)).alloc (.cells #[.int .i64 0, .slice none 0 0] 45)) = w2 at *
  go_wp2_with fail
  refine (hri.out w2 hQ2.bel).mono ?_
  rintro e w3 ⟨rfl, hb3⟩
  have hQ3 := hQ2.more hb3
  clear hri hQ2 hb3
  have ⟨cx, fx⟩ := box_cells hQ3.kx
  go_wp2_with fail
  refine (hat.out w3 hQ3.bel).mono ?_
  rintro e w4 ⟨rfl, hb4⟩
  have hQ4 := hQ3.more hb4
  clear hat hQ3 hb4 cx fx
  have hge : decide (0 ≤ z) = false := hix
  go_upto_region 5 with fail
  go_cut [5] from 40 to 55 (fun s5 wx => s5 = .pointer (some ⟨w.heap.size, 0, none⟩) ∧ ∃ A5 c5 D1 d1, QA w wx now A5 (n + 1) c5 ∧ RK wx base A5 (n + 1) c5 (xs ++ [newAk s now wait first ws D1 m d1]))
  case first =>
    refine wp_region_noPanic ?_
    have hQd : QA w w4.drew now A n c := hQ4.more (Below.refl _ _).drew
    clear hQ4
    refine wp_region_C (C := fun j w' => (j = 15 ∨ j = 16) ∨ (w'.cell? ⟨w.heap.size, 0, none⟩ = some (.int .i64 now) ∧ w'.cell? ⟨w.heap.size, 1, none⟩ = some (.slice A n c))) (by kernel_rfl) ?_
    generalize w4.drew = v0 at *
    have hS := hQd.cells
    refine wpAnyC_takeL (S := (fun w' => w'.cell? ⟨w.heap.size, 0, none⟩ = some (.int .i64 now) ∧ w'.cell? ⟨w.heap.size, 1, none⟩ = some (.slice A n c))) (i := 1) (v := ?vhw1) rfl (by kernel_rfl) (by kernel_rfl) (by kernel_rfl) (fun _ _ _ h => h) (Or.inl ⟨by rfl, ?hw1⟩) ?shw1 ?chw1 ?ihw1 ?rhw1
    case hw1 => ((intro w hSw; (try dsimp only at hSw); (try obtain ⟨hSw1, hSw2⟩ := hSw); go_simp); try with_reducible rfl)
    case shw1 => assumption
    case chw1 => exact fun j w _ _ hw hc => hc.elim (fun e => by rcases e with rfl | rfl <;> exact (Bool.false_ne_true (hw.symm.trans (by kernel_rfl))).elim) id
    case ihw1 => exact fun w h => .inr h
    try simp only [Act.put, List.setIfInBounds_toArray, List.set_cons_zero, List.set_cons_succ]
    refine wpAnyC_takeL (S := (fun w' => w'.cell? ⟨w.heap.size, 0, none⟩ = some (.int .i64 now) ∧ w'.cell? ⟨w.heap.size, 1, none⟩ = some (.slice A n c))) (i := 2) (v := ?vhw2) rfl (by kernel_rfl) (by kernel_rfl) (by kernel_rfl) (fun _ _ _ h => h) (Or.inl ⟨by rfl, ?hw2⟩) ?shw2 ?chw2 ?ihw2 ?rhw2
    case hw2 => ((intro w hSw; (try dsimp only at hSw); (try obtain ⟨hSw1, hSw2⟩ := hSw); go_simp); try with_reducible rfl)
    case shw2 => assumption
    case chw2 => exact fun j w _ _ hw hc => hc.elim (fun e => by rcases e with rfl | rfl <;> exact (Bool.false_ne_true (hw.symm.trans (by kernel_rfl))).elim) id
    case ihw2 => exact fun w h => .inr h
    try simp only [Act.put, List.setIfInBounds_toArray, List.set_cons_zero, List.set_cons_succ]
    refine wpAnyC_takeL (S := (fun w' => w'.cell? ⟨w.heap.size, 0, none⟩ = some (.int .i64 now) ∧ w'.cell? ⟨w.heap.size, 1, none⟩ = some (.slice A n c))) (i := 4) (v := ?vhw3) rfl (by kernel_rfl) (by kernel_rfl) (by kernel_rfl) (fun _ _ _ h => h) (Or.inl ⟨by rfl, ?hw3⟩) ?shw3 ?chw3 ?ihw3 ?rhw3
    case hw3 => ((intro w hSw; (try dsimp only at hSw); (try obtain ⟨hSw1, hSw2⟩ := hSw); go_simp); try with_reducible rfl)
    case shw3 => assumption
    case chw3 => exact fun j w _ _ hw hc => hc.elim (fun e => by rcases e with rfl | rfl <;> exact (Bool.false_ne_true (hw.symm.trans (by kernel_rfl))).elim) id
    case ihw3 => exact fun w h => .inr h
    try simp only [Act.put, List.setIfInBounds_toArray, List.set_cons_zero, List.set_cons_succ]
    refine wpAnyC_takeL (S := (fun w' => w'.cell? ⟨w.heap.size, 0, none⟩ = some (.int .i64 now) ∧ w'.cell? ⟨w.heap.size, 1, none⟩ = some (.slice A n c))) (i := 5) (v := ?vhw4) rfl (by kernel_rfl) (by kernel_rfl) (by kernel_rfl) (fun _ _ _ h => h) (Or.inl ⟨by rfl, ?hw4⟩) ?shw4 ?chw4 ?ihw4 ?rhw4
    case hw4 => ((intro w hSw; (try dsimp only at hSw); (try obtain ⟨hSw1, hSw2⟩ := hSw); go_simp); try with_reducible rfl)
    case shw4 => assumption
    case chw4 => exact fun j w _ _ hw hc => hc.elim (fun e => by rcases e with rfl | rfl <;> exact (Bool.false_ne_true (hw.symm.trans (by kernel_rfl))).elim) id
    case ihw4 => exact fun w h => .inr h
    try simp only [Act.put, List.setIfInBounds_toArray, List.set_cons_zero, List.set_cons_succ]
    refine wpAnyC_takeL (S := (fun w' => w'.cell? ⟨w.heap.size, 0, none⟩ = some (.int .i64 now) ∧ w'.cell? ⟨w.heap.size, 1, none⟩ = some (.slice A n c))) (i := 6) (v := ?vhw5) rfl (by kernel_rfl) (by kernel_rfl) (by kernel_rfl) (fun _ _ _ h => h) (Or.inl ⟨by rfl, ?hw5⟩) ?shw5 ?chw5 ?ihw5 ?rhw5
    case hw5 => ((intro w hSw; (try dsimp only at hSw); (try obtain ⟨hSw1, hSw2⟩ := hSw); go_simp); try with_reducible rfl)
    case shw5 => assumption
    case chw5 => exact fun j w _ _ hw hc => hc.elim (fun e => by rcases e with rfl | rfl <;> exact (Bool.false_ne_true (hw.symm.trans (by kernel_rfl))).elim) id
    case ihw5 => exact fun w h => .inr h
    try simp only [Act.put, List.setIfInBounds_toArray, List.set_cons_zero, List.set_cons_succ]
    refine wpAnyC_takeL (S := (fun w' => w'.cell? ⟨w.heap.size, 0, none⟩ = some (.int .i64 now) ∧ w'.cell? ⟨w.heap.size, 1, none⟩ = some (.slice A n c))) (i := 7) (v := ?vhw6) rfl (by kernel_rfl) (by kernel_rfl) (by kernel_rfl) (fun _ _ _ h => h) (Or.inl ⟨by rfl, ?hw6⟩) ?shw6 ?chw6 ?ihw6 ?rhw6
    case hw6 => ((intro w hSw; (try dsimp only at hSw); (try obtain ⟨hSw1, hSw2⟩ := hSw); go_simp); try with_reducible rfl)
    case shw6 => assumption
    case chw6 => exact fun j w _ _ hw hc => hc.elim (fun e => by rcases e with rfl | rfl <;> exact (Bool.false_ne_true (hw.symm.trans (by kernel_rfl))).elim) id
    case ihw6 => exact fun w h => .inr h
    try simp only [Act.put, List.setIfInBounds_toArray, List.set_cons_zero, List.set_cons_succ]
    refine wpAnyC_takeL (S := (fun w' => w'.cell? ⟨w.heap.size, 0, none⟩ = some (.int .i64 now) ∧ w'.cell? ⟨w.heap.size, 1, none⟩ = some (.slice A n c))) (i := 8) (v := ?vhw7) rfl (by kernel_rfl) (by kernel_rfl) (by kernel_rfl) (fun _ _ _ h => h) (Or.inl ⟨by rfl, ?hw7⟩) ?shw7 ?chw7 ?ihw7 ?rhw7
    case hw7 => ((intro w hSw; (try dsimp only at hSw); (try obtain ⟨hSw1, hSw2⟩ := hSw); go_simp); try with_reducible rfl)
    case shw7 => assumption
    case chw7 => exact fun j w _ _ hw hc => hc.elim (fun e => by rcases e with rfl | rfl <;> exact (Bool.false_ne_true (hw.symm.trans (by kernel_rfl))).elim) id
    case ihw7 => exact fun w h => .inr h
    try simp only [Act.put, List.setIfInBounds_toArray, List.set_cons_zero, List.set_cons_succ]
    refine wpAnyC_takeL (S := (fun w' => w'.cell? ⟨w.heap.size, 0, none⟩ = some (.int .i64 now) ∧ w'.cell? ⟨w.heap.size, 1, none⟩ = some (.slice A n c))) (i := 10) (v := ?vhw8) rfl (by kernel_rfl) (by kernel_rfl) (by kernel_rfl) (fun _ _ _ h => h) (Or.inl ⟨by rfl, ?hw8⟩) ?shw8 ?chw8 ?ihw8 ?rhw8
    case hw8 => ((intro w hSw; (try dsimp only at hSw); (try obtain ⟨hSw1, hSw2⟩ := hSw); go_simp); try with_reducible rfl)
    case shw8 => assumption
    case chw8 => exact fun j w _ _ hw hc => hc.elim (fun e => by rcases e with rfl | rfl <;> exact (Bool.false_ne_true (hw.symm.trans (by kernel_rfl))).elim) id
    case ihw8 => exact fun w h => .inr h
    try simp only [Act.put, List.setIfInBounds_toArray, List.set_cons_zero, List.set_cons_succ]
    clear hS
    have hQv0 := hQd
    refine wpAnyC_ready (rs := [0, 9]) (by kernel_rfl) (by simp) ?_
    refine (AllReadyC.consL (i := 0) rfl (fun K hK => ?_) (AllReadyC.consL (i := 9) rfl (fun K hK => ?_) AllReadyC.nil))
    · skip
      go_simp
      have hbav1 : Below v0.heap.size v0 (v0.alloc (.cells #[] 96)) := (Below.refl _ _).alloc (Nat.le_refl _) _
      have hNv1 : Ov (v0.alloc (.cells #[] 96)) (w.heap.size + 2) 96 6 (some ⟨v0.heap.size, 0, none⟩) 0 0 [] := by
        have h := World.ownsRow_lit (base := w.heap.size + 2) (e := 96) (size := 6) v0 #[] 0 hQv0.size (by simp [maxLen]) (by simp)
        exact h
      have hQv1 := hQv0.more hbav1
      skip
      refine hK.out _ _ (.inr hQv1.cells) ?_
      clear hK hbav1
      generalize v0.heap.size = g0 at *
      generalize (v0.alloc (.cells #[] 96)) = v1 at *
      try simp only [Act.put, List.setIfInBounds_toArray, List.set_cons_zero, List.set_cons_succ]
      refine wpAnyC_ready (rs := [3, 9]) (by kernel_rfl) (by simp) ?_
      refine (AllReadyC.consL (i := 3) rfl (fun K hK => ?_) (AllReadyC.consL (i := 9) rfl (fun K hK => ?_) AllReadyC.nil))
      · skip
        refine step_append_m _ rfl (.tmp 40) (.tmp 42) 43 rfl 96 zeroR 6 56 Tryd.underlying43 (by kernel_rfl) rfl (by decide) (w.heap.size + 2) (some ⟨g0, 0, none⟩) 0 0 [] rfl hNv1 A n c (rcells xs) rfl (hrx.out _ hQv1.bel) hr1 (by omega) (by decide) hQv1.size ?_
        intro A4 c4 v2 hOv2 hgv2 habv2
        have hQv2 := hQv1.grown hgv2 (fun k e => (hNv1.ab k e).1)
        simp only [List.nil_append, Nat.zero_add] at hOv2 ⊢
        skip
        refine hK.out _ _ (.inr hQv2.cells) ?_
        clear hK hgv2 habv2
        try simp only [Act.put, List.setIfInBounds_toArray, List.set_cons_zero, List.set_cons_succ]
        refine wpAnyC_ready (rs := [9]) (by kernel_rfl) (by simp) ?_
        refine (AllReadyC.consL (i := 9) rfl (fun K hK => ?_) AllReadyC.nil)
        go_simp
        have hbav3 : Below v2.heap.size v2 (v2.alloc (.cells #[] 64)) := (Below.refl _ _).alloc (Nat.le_refl _) _
        have hNv3 : Ov (v2.alloc (.cells #[] 64)) (w.heap.size + 2) 64 2 (some ⟨v2.heap.size, 0, none⟩) 0 0 [] := by
          have h := World.ownsRow_lit (base := w.heap.size + 2) (e := 64) (size := 2) v2 #[] 0 hQv2.size (by simp [maxLen]) (by simp)
          exact h
        have hQv3 := hQv2.more hbav3
        have hOv3 := hOv2.below hbav3
        refine hK.out _ _ (.inr hQv3.cells) ?_
        clear hK hbav3
        generalize v2.heap.size = g1 at *
        generalize (v2.alloc (.cells #[] 64)) = v3 at *
        try simp only [Act.put, List.setIfInBounds_toArray, List.set_cons_zero, List.set_cons_succ]
        refine wpAnyC_ready (rs := [11]) (by kernel_rfl) (by simp) ?_
        refine (AllReadyC.consL (i := 11) rfl (fun K hK => ?_) AllReadyC.nil)
        refine step_append_m _ rfl (.tmp 49) (.tmp 50) 29 rfl 64 zeroW 2 24 Tryd.underlying29 (by kernel_rfl) rfl (by decide) (w.heap.size + 2) (some ⟨g1, 0, none⟩) 0 0 [] rfl hNv3 D m d (wcells ws) rfl (hrw.out _ hQv3.bel) (wcells_one' ws) (by omega) (by decide) hQv3.size ?_
        intro D1 d1 x1 hD1 hg1 hab1
        have hQ1 := hQv3.grown hg1 (fun k e => (hNv3.ab k e).1)
        have hE1 := hOv3.grown hg1 (hOv3.neOv hNv3 (by decide))
        simp only [List.nil_append, Nat.zero_add] at hD1 ⊢
        refine hK.out _ _ (.inr hQ1.cells) ?_
        clear hK hg1 hab1
        have hS1 := hQ1.cells
        try simp only [Act.put, List.setIfInBounds_toArray, List.set_cons_zero, List.set_cons_succ]
        refine wpAnyC_takeL (S := (fun w' => w'.cell? ⟨w.heap.size, 0, none⟩ = some (.int .i64 now) ∧ w'.cell? ⟨w.heap.size, 1, none⟩ = some (.slice A n c))) (i := 12) (v := ?vhw9) rfl (by kernel_rfl) (by kernel_rfl) (by kernel_rfl) (fun _ _ _ h => h) (Or.inl ⟨by rfl, ?hw9⟩) ?shw9 ?chw9 ?ihw9 ?rhw9
        case hw9 => ((intro w hSw; (try dsimp only at hSw); (try obtain ⟨hSw1, hSw2⟩ := hSw); go_simp); try with_reducible rfl)
        case shw9 => assumption
        case chw9 => exact fun j w _ _ hw hc => hc.elim (fun e => by rcases e with rfl | rfl <;> exact (Bool.false_ne_true (hw.symm.trans (by kernel_rfl))).elim) id
        case ihw9 => exact fun w h => .inr h
        try simp only [Act.put, List.setIfInBounds_toArray, List.set_cons_zero, List.set_cons_succ]
        refine wpAnyC_ready (rs := [13]) (by kernel_rfl) (by simp) ?_
        refine (AllReadyC.consL (i := 13) rfl (fun K hK => ?_) AllReadyC.nil)
        clear hS1
        go_simp
        have hb3 : Below x1.heap.size x1 (x1.alloc (.cells #[.int .i64 s, .int .i64 now, .int .i64 wait, .bool first, .bool false, .slice D1 m d1] 96)) := (Below.refl _ _).alloc (Nat.le_refl _) _
        have hQ2 := hQ1.more hb3
        have hE2 := hE1.below hb3
        have hD2 := hD1.below hb3
        have hr3 := Rv.lit (w := x1) 96 6 [.int .i64 s, .int .i64 now, .int .i64 wait, .bool first, .bool false, .slice D1 m d1] 1 rfl (by decide)
        refine hK.out _ _ (.inr hQ2.cells) ?_
        clear hK hb3 hE1 hD1 hQ1
        generalize (x1.alloc (.cells #[.int .i64 s, .int .i64 now, .int .i64 wait, .bool first, .bool false, .slice D1 m d1] 96)) = x2 at *
        try simp only [Act.put, List.setIfInBounds_toArray, List.set_cons_zero, List.set_cons_succ]
        refine wpAnyC_ready (rs := [14]) (by kernel_rfl) (by simp) ?_
        refine (AllReadyC.consL (i := 14) rfl (fun K hK => ?_) AllReadyC.nil)
        refine step_append_m _ rfl (.tmp 43) (.tmp 53) 43 rfl 96 zeroR 6 56 Tryd.underlying43 (by kernel_rfl) rfl (by decide) (w.heap.size + 2) A4 n c4 (rcells xs) rfl hE2 _ 1 _ _ rfl hr3 (by simp [Value.oneCell']) (by omega) (by decide) hQ2.size ?_
        intro A5 c5 x3 hO3 hg3 hab3
        have hQ3 := hQ2.grown hg3 (fun k e => (hE2.ab k e).1)
        have hD3 := hD2.grown hg3 (hD2.neOv hE2 (by decide))
        refine hK.out _ _ (.inr hQ3.cells) ?_
        clear hK hg3 hab3 hE2 hD2 hQ2 hr3
        try simp only [Act.put, List.setIfInBounds_toArray, List.set_cons_zero, List.set_cons_succ]
        have fB := (box_cells hQ3.kx).2 1
        have cB := (box_cells hQ3.kx).1
        refine wpAnyC_takeL (S := (fun _ => True)) (i := 15) (v := ?vhw10) rfl (by kernel_rfl) (by kernel_rfl) (by kernel_rfl) (fun _ _ _ h => h) (Or.inl ⟨by rfl, ?hw10⟩) ?shw10 ?chw10 ?ihw10 ?rhw10
        case hw10 => ((intro w hSw; (try dsimp only at hSw); (try obtain ⟨hSw1, hSw2⟩ := hSw); go_simp); try with_reducible rfl)
        case shw10 => trivial
        case chw10 => exact fun _ _ _ _ _ _ => trivial
        case ihw10 => exact fun w h => .inl (by decide)
        try simp only [Act.put, List.setIfInBounds_toArray, List.set_cons_zero, List.set_cons_succ]
        refine wpAnyC_ready (rs := [16]) (by kernel_rfl) (by simp) ?_
        refine (AllReadyC.consL (i := 16) rfl (fun K hK => ?_) AllReadyC.nil)
        go_simp
        refine hK.out _ _ (.inl (by decide)) ?_
        clear hK
        try simp only [Act.put, List.setIfInBounds_toArray, List.set_cons_zero, List.set_cons_succ]
        refine wpAnyC_done (by kernel_rfl) ?_ _
        refine NoPanic.normal ?_
        go_wp2_with fail
        go_meet
        refine ⟨rfl, A5, c5, D1, d1, ?_⟩
        exact hfin.out x3 A5 c5 D1 d1 hQ3 (by simpa using hO3) (by simpa using hD3)
      · skip
        go_simp
        have hbav2 : Below v1.heap.size v1 (v1.alloc (.cells #[] 64)) := (Below.refl _ _).alloc (Nat.le_refl _) _
        have hNv2 : Ov (v1.alloc (.cells #[] 64)) (w.heap.size + 2) 64 2 (some ⟨v1.heap.size, 0, none⟩) 0 0 [] := by
          have h := World.ownsRow_lit (base := w.heap.size + 2) (e := 64) (size := 2) v1 #[] 0 hQv1.size (by simp [maxLen]) (by simp)
          exact h
        have hQv2 := hQv1.more hbav2
        have hE2 := hNv1.below hbav2
        refine hK.out _ _ (.inr hQv2.cells) ?_
        clear hK hbav2
        generalize v1.heap.size = g1 at *
        generalize (v1.alloc (.cells #[] 64)) = v2 at *
        try simp only [Act.put, List.setIfInBounds_toArray, List.set_cons_zero, List.set_cons_succ]
        refine wpAnyC_ready (rs := [3]) (by kernel_rfl) (by simp) ?_
        refine (AllReadyC.consL (i := 3) rfl (fun K hK => ?_) AllReadyC.nil)
        refine step_append_m _ rfl (.tmp 40) (.tmp 42) 43 rfl 96 zeroR 6 56 Tryd.underlying43 (by kernel_rfl) rfl (by decide) (w.heap.size + 2) (some ⟨g0, 0, none⟩) 0 0 [] rfl hE2 A n c (rcells xs) rfl (hrx.out _ hQv2.bel) hr1 (by omega) (by decide) hQv2.size ?_
        intro A4 c4 v3 hOv3 hgv3 habv3
        have hQv3 := hQv2.grown hgv3 (fun k e => (hE2.ab k e).1)
        simp only [List.nil_append, Nat.zero_add] at hOv3 ⊢
        have hT3 := hNv2.grown hgv3 (hNv2.neOv hE2 (by decide))
        refine hK.out _ _ (.inr hQv3.cells) ?_
        clear hK hgv3 habv3
        try simp only [Act.put, List.setIfInBounds_toArray, List.set_cons_zero, List.set_cons_succ]
        refine wpAnyC_ready (rs := [11]) (by kernel_rfl) (by simp) ?_
        refine (AllReadyC.consL (i := 11) rfl (fun K hK => ?_) AllReadyC.nil)
        refine step_append_m _ rfl (.tmp 49) (.tmp 50) 29 rfl 64 zeroW 2 24 Tryd.underlying29 (by kernel_rfl) rfl (by decide) (w.heap.size + 2) (some ⟨g1, 0, none⟩) 0 0 [] rfl hT3 D m d (wcells ws) rfl (hrw.out _ hQv3.bel) (wcells_one' ws) (by omega) (by decide) hQv3.size ?_
        intro D1 d1 x1 hD1 hg1 hab1
        have hQ1 := hQv3.grown hg1 (fun k e => (hT3.ab k e).1)
        have hE1 := hOv3.grown hg1 (hOv3.neOv hT3 (by decide))
        simp only [List.nil_append, Nat.zero_add] at hD1 ⊢
        refine hK.out _ _ (.inr hQ1.cells) ?_
        clear hK hg1 hab1
        have hS1 := hQ1.cells
        try simp only [Act.put, List.setIfInBounds_toArray, List.set_cons_zero, List.set_cons_succ]
        refine wpAnyC_takeL (S := (fun w' => w'.cell? ⟨w.heap.size, 0, none⟩ = some (.int .i64 now) ∧ w'.cell? ⟨w.heap.size, 1, none⟩ = some (.slice A n c))) (i := 12) (v := ?vhw11) rfl (by kernel_rfl) (by kernel_rfl) (by kernel_rfl) (fun _ _ _ h => h) (Or.inl ⟨by rfl, ?hw11⟩) ?shw11 ?chw11 ?ihw11 ?rhw11
        case hw11 => ((intro w hSw; (try dsimp only at hSw); (try obtain ⟨hSw1, hSw2⟩ := hSw); go_simp); try with_reducible rfl)
        case shw11 => assumption
        case chw11 => exact fun j w _ _ hw hc => hc.elim (fun e => by rcases e with rfl | rfl <;> exact (Bool.false_ne_true (hw.symm.trans (by kernel_rfl))).elim) id
        case ihw11 => exact fun w h => .inr h
        try simp only [Act.put, List.setIfInBounds_toArray, List.set_cons_zero, List.set_cons_succ]
        refine wpAnyC_ready (rs := [13]) (by kernel_rfl) (by simp) ?_
        refine (AllReadyC.consL (i := 13) rfl (fun K hK => ?_) AllReadyC.nil)
        clear hS1
        go_simp
        have hb3 : Below x1.heap.size x1 (x1.alloc (.cells #[.int .i64 s, .int .i64 now, .int .i64 wait, .bool first, .bool false, .slice D1 m d1] 96)) := (Below.refl _ _).alloc (Nat.le_refl _) _
        have hQ2 := hQ1.more hb3
        have hE2 := hE1.below hb3
        have hD2 := hD1.below hb3
        have hr3 := Rv.lit (w := x1) 96 6 [.int .i64 s, .int .i64 now, .int .i64 wait, .bool first, .bool false, .slice D1 m d1] 1 rfl (by decide)
        refine hK.out _ _ (.inr hQ2.cells) ?_
        clear hK hb3 hE1 hD1 hQ1
        generalize (x1.alloc (.cells #[.int .i64 s, .int .i64 now, .int .i64 wait, .bool first, .bool false, .slice D1 m d1] 96)) = x2 at *
        try simp only [Act.put, List.setIfInBounds_toArray, List.set_cons_zero, List.set_cons_succ]
        refine wpAnyC_ready (rs := [14]) (by kernel_rfl) (by simp) ?_
        refine (AllReadyC.consL (i := 14) rfl (fun K hK => ?_) AllReadyC.nil)
        refine step_append_m _ rfl (.tmp 43) (.tmp 53) 43 rfl 96 zeroR 6 56 Tryd.underlying43 (by kernel_rfl) rfl (by decide) (w.heap.size + 2) A4 n c4 (rcells xs) rfl hE2 _ 1 _ _ rfl hr3 (by simp [Value.oneCell']) (by omega) (by decide) hQ2.size ?_
        intro A5 c5 x3 hO3 hg3 hab3
        have hQ3 := hQ2.grown hg3 (fun k e => (hE2.ab k e).1)
        have hD3 := hD2.grown hg3 (hD2.neOv hE2 (by decide))
        refine hK.out _ _ (.inr hQ3.cells) ?_
        clear hK hg3 hab3 hE2 hD2 hQ2 hr3
        try simp only [Act.put, List.setIfInBounds_toArray, List.set_cons_zero, List.set_cons_succ]
        have fB := (box_cells hQ3.kx).2 1
        have cB := (box_cells hQ3.kx).1
        refine wpAnyC_takeL (S := (fun _ => True)) (i := 15) (v := ?vhw12) rfl (by kernel_rfl) (by kernel_rfl) (by kernel_rfl) (fun _ _ _ h => h) (Or.inl ⟨by rfl, ?hw12⟩) ?shw12 ?chw12 ?ihw12 ?rhw12
        case hw12 => ((intro w hSw; (try dsimp only at hSw); (try obtain ⟨hSw1, hSw2⟩ := hSw); go_simp); try with_reducible rfl)
        case shw12 => trivial
        case chw12 => exact fun _ _ _ _ _ _ => trivial
        case ihw12 => exact fun w h => .inl (by decide)
        try simp only [Act.put, List.setIfInBounds_toArray, List.set_cons_zero, List.set_cons_succ]
        refine wpAnyC_ready (rs := [16]) (by kernel_rfl) (by simp) ?_
        refine (AllReadyC.consL (i := 16) rfl (fun K hK => ?_) AllReadyC.nil)
        go_simp
        refine hK.out _ _ (.inl (by decide)) ?_
        clear hK
        try simp only [Act.put, List.setIfInBounds_toArray, List.set_cons_zero, List.set_cons_succ]
        refine wpAnyC_done (by kernel_rfl) ?_ _
        refine NoPanic.normal ?_
        go_wp2_with fail
        go_meet
        refine ⟨rfl, A5, c5, D1, d1, ?_⟩
        exact hfin.out x3 A5 c5 D1 d1 hQ3 (by simpa using hO3) (by simpa using hD3)
    · skip
      go_simp
      have hbav1 : Below v0.heap.size v0 (v0.alloc (.cells #[] 64)) := (Below.refl _ _).alloc (Nat.le_refl _) _
      have hNv1 : Ov (v0.alloc (.cells #[] 64)) (w.heap.size + 2) 64 2 (some ⟨v0.heap.size, 0, none⟩) 0 0 [] := by
        have h := World.ownsRow_lit (base := w.heap.size + 2) (e := 64) (size := 2) v0 #[] 0 hQv0.size (by simp [maxLen]) (by simp)
        exact h
      have hQv1 := hQv0.more hbav1
      skip
      refine hK.out _ _ (.inr hQv1.cells) ?_
      clear hK hbav1
      generalize v0.heap.size = g1 at *
      generalize (v0.alloc (.cells #[] 64)) = v1 at *
      try simp only [Act.put, List.setIfInBounds_toArray, List.set_cons_zero, List.set_cons_succ]
      refine wpAnyC_ready (rs := [0]) (by kernel_rfl) (by simp) ?_
      refine (AllReadyC.consL (i := 0) rfl (fun K hK => ?_) AllReadyC.nil)
      go_simp
      have hbav2 : Below v1.heap.size v1 (v1.alloc (.cells #[] 96)) := (Below.refl _ _).alloc (Nat.le_refl _) _
      have hNv2 : Ov (v1.alloc (.cells #[] 96)) (w.heap.size + 2) 96 6 (some ⟨v1.heap.size, 0, none⟩) 0 0 [] := by
        have h := World.ownsRow_lit (base := w.heap.size + 2) (e := 96) (size := 6) v1 #[] 0 hQv1.size (by simp [maxLen]) (by simp)
        exact h
      have hQv2 := hQv1.more hbav2
      have hT2 := hNv1.below hbav2
      refine hK.out _ _ (.inr hQv2.cells) ?_
      clear hK hbav2
      generalize v1.heap.size = g0 at *
      generalize (v1.alloc (.cells #[] 96)) = v2 at *
      try simp only [Act.put, List.setIfInBounds_toArray, List.set_cons_zero, List.set_cons_succ]
      refine wpAnyC_ready (rs := [3]) (by kernel_rfl) (by simp) ?_
      refine (AllReadyC.consL (i := 3) rfl (fun K hK => ?_) AllReadyC.nil)
      refine step_append_m _ rfl (.tmp 40) (.tmp 42) 43 rfl 96 zeroR 6 56 Tryd.underlying43 (by kernel_rfl) rfl (by decide) (w.heap.size + 2) (some ⟨g0, 0, none⟩) 0 0 [] rfl hNv2 A n c (rcells xs) rfl (hrx.out _ hQv2.bel) hr1 (by omega) (by decide) hQv2.size ?_
      intro A4 c4 v3 hOv3 hgv3 habv3
      have hQv3 := hQv2.grown hgv3 (fun k e => (hNv2.ab k e).1)
      simp only [List.nil_append, Nat.zero_add] at hOv3 ⊢
      have hT3 := hT2.grown hgv3 (hT2.neOv hNv2 (by decide))
      refine hK.out _ _ (.inr hQv3.cells) ?_
      clear hK hgv3 habv3
      try simp only [Act.put, List.setIfInBounds_toArray, List.set_cons_zero, List.set_cons_succ]
      refine wpAnyC_ready (rs := [11]) (by kernel_rfl) (by simp) ?_
      refine (AllReadyC.consL (i := 11) rfl (fun K hK => ?_) AllReadyC.nil)
      refine step_append_m _ rfl (.tmp 49) (.tmp 50) 29 rfl 64 zeroW 2 24 Tryd.underlying29 (by kernel_rfl) rfl (by decide) (w.heap.size + 2) (some ⟨g1, 0, none⟩) 0 0 [] rfl hT3 D m d (wcells ws) rfl (hrw.out _ hQv3.bel) (wcells_one' ws) (by omega) (by decide) hQv3.size ?_
      intro D1 d1 x1 hD1 hg1 hab1
      have hQ1 := hQv3.grown hg1 (fun k e => (hT3.ab k e).1)
      have hE1 := hOv3.grown hg1 (hOv3.neOv hT3 (by decide))
      simp only [List.nil_append, Nat.zero_add] at hD1 ⊢
      refine hK.out _ _ (.inr hQ1.cells) ?_
      clear hK hg1 hab1
      have hS1 := hQ1.cells
      try simp only [Act.put, List.setIfInBounds_toArray, List.set_cons_zero, List.set_cons_succ]
      refine wpAnyC_takeL (S := (fun w' => w'.cell? ⟨w.heap.size, 0, none⟩ = some (.int .i64 now) ∧ w'.cell? ⟨w.heap.size, 1, none⟩ = some (.slice A n c))) (i := 12) (v := ?vhw13) rfl (by kernel_rfl) (by kernel_rfl) (by kernel_rfl) (fun _ _ _ h => h) (Or.inl ⟨by rfl, ?hw13⟩) ?shw13 ?chw13 ?ihw13 ?rhw13
      case hw13 => ((intro w hSw; (try dsimp only at hSw); (try obtain ⟨hSw1, hSw2⟩ := hSw); go_simp); try with_reducible rfl)
      case shw13 => assumption
      case chw13 => exact fun j w _ _ hw hc => hc.elim (fun e => by rcases e with rfl | rfl <;> exact (Bool.false_ne_true (hw.symm.trans (by kernel_rfl))).elim) id
      case ihw13 => exact fun w h => .inr h
      try simp only [Act.put, List.setIfInBounds_toArray, List.set_cons_zero, List.set_cons_succ]
      refine wpAnyC_ready (rs := [13]) (by kernel_rfl) (by simp) ?_
      refine (AllReadyC.consL (i := 13) rfl (fun K hK => ?_) AllReadyC.nil)
      clear hS1
      go_simp
      have hb3 : Below x1.heap.size x1 (x1.alloc (.cells #[.int .i64 s, .int .i64 now, .int .i64 wait, .bool first, .bool false, .slice D1 m d1] 96)) := (Below.refl _ _).alloc (Nat.le_refl _) _
      have hQ2 := hQ1.more hb3
      have hE2 := hE1.below hb3
      have hD2 := hD1.below hb3
      have hr3 := Rv.lit (w := x1) 96 6 [.int .i64 s, .int .i64 now, .int .i64 wait, .bool first, .bool false, .slice D1 m d1] 1 rfl (by decide)
      refine hK.out _ _ (.inr hQ2.cells) ?_
      clear hK hb3 hE1 hD1 hQ1
      generalize (x1.alloc (.cells #[.int .i64 s, .int .i64 now, .int .i64 wait, .bool first, .bool false, .slice D1 m d1] 96)) = x2 at *
      try simp only [Act.put, List.setIfInBounds_toArray, List.set_cons_zero, List.set_cons_succ]
      refine wpAnyC_ready (rs := [14]) (by kernel_rfl) (by simp) ?_
      refine (AllReadyC.consL (i := 14) rfl (fun K hK => ?_) AllReadyC.nil)
      refine step_append_m _ rfl (.tmp 43) (.tmp 53) 43 rfl 96 zeroR 6 56 Tryd.underlying43 (by kernel_rfl) rfl (by decide) (w.heap.size + 2) A4 n c4 (rcells xs) rfl hE2 _ 1 _ _ rfl hr3 (by simp [Value.oneCell']) (by omega) (by decide) hQ2.size ?_
      intro A5 c5 x3 hO3 hg3 hab3
      have hQ3 := hQ2.grown hg3 (fun k e => (hE2.ab k e).1)
      have hD3 := hD2.grown hg3 (hD2.neOv hE2 (by decide))
      refine hK.out _ _ (.inr hQ3.cells) ?_
      clear hK hg3 hab3 hE2 hD2 hQ2 hr3
      try simp only [Act.put, List.setIfInBounds_toArray, List.set_cons_zero, List.set_cons_succ]
      have fB := (box_cells hQ3.kx).2 1
      have cB := (box_cells hQ3.kx).1
      refine wpAnyC_takeL (S := (fun _ => True)) (i := 15) (v := ?vhw14) rfl (by kernel_rfl) (by kernel_rfl) (by kernel_rfl) (fun _ _ _ h => h) (Or.inl ⟨by rfl, ?hw14⟩) ?shw14 ?chw14 ?ihw14 ?rhw14
      case hw14 => ((intro w hSw; (try dsimp only at hSw); (try obtain ⟨hSw1, hSw2⟩ := hSw); go_simp); try with_reducible rfl)
      case shw14 => trivial
      case chw14 => exact fun _ _ _ _ _ _ => trivial
      case ihw14 => exact fun w h => .inl (by decide)
      try simp only [Act.put, List.setIfInBounds_toArray, List.set_cons_zero, List.set_cons_succ]
      refine wpAnyC_ready (rs := [16]) (by kernel_rfl) (by simp) ?_
      refine (AllReadyC.consL (i := 16) rfl (fun K hK => ?_) AllReadyC.nil)
      go_simp
      refine hK.out _ _ (.inl (by decide)) ?_
      clear hK
      try simp only [Act.put, List.setIfInBounds_toArray, List.set_cons_zero, List.set_cons_succ]
      refine wpAnyC_done (by kernel_rfl) ?_ _
      refine NoPanic.normal ?_
      go_wp2_with fail
      go_meet
      refine ⟨rfl, A5, c5, D1, d1, ?_⟩
      exact hfin.out x3 A5 c5 D1 d1 hQ3 (by simpa using hO3) (by simpa using hD3)
  case rest =>
    obtain ⟨rfl, A5, c5, D1, d1, hQ5, hK5⟩ := hcut
    clear hQ4 hfin hrx hrw
    generalize wc = w5 at *
    have hz5 := hQ5.size
    have hse := Lib.hid (RSet_any (now := now) hK5 (by omega) (by omega))
    have hany : (settleK (xs ++ [newAk s now wait first ws D1 m d1])).1.any (isS s) = true := settle_any s (by simp [isS, newAk])
    have hfn := Lib.hid (show ∀ (W : World) (A6 : Option Addr) (c6 : Nat), RK W base A6 (n + 1) c6 (settleK (xs ++ [newAk s now wait first ws D1 m d1])).1 → Below w.heap.size w W → (∃ A' c' D' d', Ending.returned (.tuple #[.agg #[.int .i64 now, .slice A6 (n + 1) c6], .bool (heldK s (settleK (xs ++ [newAk s now wait first ws D1 m d1])).1), .int .i64 0]) = Ending.returned (.tuple #[.agg #[.int .i64 now, .slice A' (n + 1) c'], .bool (heldK s (settleK (xs ++ [newAk s now wait first ws D' m d'])).1), .int .i64 0]) ∧
        RK W base A' (n + 1) c' (settleK (xs ++ [newAk s now wait first ws D' m d'])).1 ∧ Below w.heap.size w W) from fun W A6 c6 h1 h2 => ⟨A6, c6, D1, d1, rfl, h1, h2⟩)
    clear hK5
    generalize (settleK (xs ++ [newAk s now wait first ws D1 m d1])).1 = ys at *
    generalize (settleK (xs ++ [newAk s now wait first ws D1 m d1])).2 = hs at *
    generalize hn1 : n + 1 = n1 at *
    replace hn1 := Lib.hid hn1
    have ⟨cx5, fx5⟩ := box_cells hQ5.kx
    go_wp2_with fail
    refine hse.out.mono ?_
    rintro e w6 ⟨A6, c6, R, d6, rfl, hK6, -, hb6⟩
    have hQ6 := hQ5.more hb6
    clear hse hQ5 hb6 cx5 fx5
    have hl6 := hK6.len
    replace hK6 := Lib.hid hK6
    go_upto_region 7 with fail
    have hba : Below w6.heap.size w6 (w6.alloc (.cells #[.int .i64 now, .slice A6 n1 c6] 45)) := (Below.refl _ _).alloc (Nat.le_refl _) _
    have kn := World.alloc_heap_new w6 (.cells #[.int .i64 now, .slice A6 n1 c6] 45)
    have hQ7 := hQ6.more hba
    have hK7 := hK6.out.below hba
    have hz6 := hQ6.size
    have hz7 : w6.heap.size < (w6.alloc (.cells #[.int .i64 now, .slice A6 n1 c6] 45)).heap.size := by simp
    clear hba hQ6 hK6
    generalize (w6.alloc (.cells #[.int .i64 now, .slice A6 n1 c6] 45)) = w7 at *
    generalize w6.heap.size = B7 at *
    refine wp_region_noPanic ?_
    have hd7 : Below w7.heap.size w7 w7.drew := (Below.refl _ _).drew
    have hat2 := Lib.hid (RAt_any A6 n1 c6 ys now s w7.drew (hK7.below hd7).own.rv)
    rcases idxL_cases (isS s) ys with ⟨h1, h2⟩ | ⟨i, hi, h1, h2, h3, h4⟩
    · have := idxL_any (isS s) ys
      rw [h1, hany] at this
      simp at this
    have hN : heldK s ys = ys[i].held := by unfold heldK findS; rw [h2]
    rw [h1] at hat2
    rcases hK7.own.first with ⟨_, h0, _⟩ | ⟨g, rfl⟩
    · omega
    have hcap : c6 ≤ 9223372036854775807 := hK7.own.rv.2.2.1
    have hle := hK7.own.rv.2.1
    have hS := Lib.hid (fun W (hW : Below w7.heap.size w7 W) => show (W.cell? ⟨B7, 0, none⟩ = some (.int .i64 now) ∧ W.cell? ⟨B7, 1, none⟩ = some (.slice (some ⟨g, 0, none⟩) n1 c6)) ∧ W.cell? ⟨g, i * 6 + 4, none⟩ = some (.bool ys[i].held) from
      ⟨(box_cells ((hW.block B7 hz7).trans kn)).1, ((hK7.below hW).own.rcell (j := i) (x := ys[i]) (by simp)).2.2.2.2.1⟩)
    rw [hN] at hfn
    clear h1 h2 h3 h4 hN hany
    generalize hyl : ys[i].held = hl at *
    replace hyl := Lib.hid hyl
    have hlt : (i : Int) < (n1 : Int) := by omega
    have hS0 := hS.out _ (Below.refl _ _)
    refine wp_region_held_drew (S := fun W => (W.cell? ⟨B7, 0, none⟩ = some (.int .i64 now) ∧ W.cell? ⟨B7, 1, none⟩ = some (.slice (some ⟨g, 0, none⟩) n1 c6)) ∧ W.cell? ⟨g, i * 6 + 4, none⟩ = some (.bool hl)) (by kernel_rfl) hS0 (fun hHeld => ?_)
    clear hS0
    refine wpAnyH_takeL (i := 0) (v := ?vhy15) rfl (by kernel_rfl) (by kernel_rfl) (by kernel_rfl) (fun _ _ _ h => h) (Or.inl ⟨by rfl, ?hy15⟩) (by assumption) ?rhy15
    case hy15 => ((intro w hSw; (try dsimp only at hSw); go_simp); try with_reducible rfl)
    try simp only [Act.put, List.setIfInBounds_toArray, List.set_cons_zero, List.set_cons_succ]
    refine wpAnyH_takeL (i := 1) (v := ?vhy16) rfl (by kernel_rfl) (by kernel_rfl) (by kernel_rfl) (fun _ _ _ h => h) (Or.inl ⟨by rfl, ?hy16⟩) (by assumption) ?rhy16
    case hy16 => ((intro w hSw; (try dsimp only at hSw); go_simp); try with_reducible rfl)
    try simp only [Act.put, List.setIfInBounds_toArray, List.set_cons_zero, List.set_cons_succ]
    refine wpAnyH_takeL (i := 2) (v := ?vhy17) rfl (by kernel_rfl) (by kernel_rfl) (by kernel_rfl) (fun _ _ _ h => h) (Or.inl ⟨by rfl, ?hy17⟩) (by assumption) ?rhy17
    case hy17 => ((intro w hSw; (try dsimp only at hSw); go_simp); try with_reducible rfl)
    try simp only [Act.put, List.setIfInBounds_toArray, List.set_cons_zero, List.set_cons_succ]
    refine wpAnyH_takeL (i := 3) (v := ?vhy18) rfl (by kernel_rfl) (by kernel_rfl) (by kernel_rfl) (fun _ _ _ h => h) (Or.inl ⟨by rfl, ?hy18⟩) (by assumption) ?rhy18
    case hy18 => ((intro w hSw; (try dsimp only at hSw); go_simp); try with_reducible rfl)
    try simp only [Act.put, List.setIfInBounds_toArray, List.set_cons_zero, List.set_cons_succ]
    refine wpAnyH_takeL (i := 4) (v := ?vhy19) rfl (by kernel_rfl) (by kernel_rfl) (by kernel_rfl) (fun _ _ _ h => h) (Or.inl ⟨by rfl, ?hy19⟩) (by assumption) ?rhy19
    case hy19 => ((intro w hSw; (try dsimp only at hSw); go_simp); try with_reducible rfl)
    try simp only [Act.put, List.setIfInBounds_toArray, List.set_cons_zero, List.set_cons_succ]
    refine wpAnyH_ready (rs := [5]) (by kernel_rfl) (by simp) ?_
    refine AllReadyH.consL (i := 5) rfl (fun K hK => ?_) AllReadyH.nil
    go_simp
    refine hat2.out.mono ?_
    rintro e w8 ⟨rfl, hb8⟩
    have hb8' := gr hd7 hb8
    have hS1 := hS.out _ hb8'
    refine hK.out _ _ hS1 (fun hHeld => ?_)
    clear hK hHeld hat2
    try simp only [Act.put, List.setIfInBounds_toArray, List.set_cons_zero, List.set_cons_succ]
    have hQ8 := hQ7.more hb8'
    have hK8 := hK7.below hb8'
    have hb78 := hb8'
    clear hQ7 hK7 hb8 hb8' hd7
    have kn8 := (hb78.block B7 hz7).trans kn
    have ⟨cr8, fr8⟩ := box_cells hQ8.kr
    have r1 := heap_set0 (u' := .int .i64 now) hQ8.kr
    have r2 := heap_set1 (v' := .slice (some ⟨g, 0, none⟩) n1 c6) r1
    have c3 := (box_cells r2).1
    have hK9 : RK ((w8.setCell ⟨w.heap.size + 1, 0, none⟩ (.int .i64 now)).setCell ⟨w.heap.size + 1, 1, none⟩ (.slice (some ⟨g, 0, none⟩) n1 c6)) base (some ⟨g, 0, none⟩) n1 c6 ys :=
      ⟨(hK8.own.boxSet hQ8.kr (by decide) 0 _).boxSet r1 (by decide) 1 _, fun x hx => ((hK8.tabs x hx).boxSet hQ8.kr (by decide) 0 _).boxSet r1 (by decide) 1 _⟩
    have hB9 := (hQ8.bel.setCell (p := ⟨w.heap.size + 1, 0, none⟩) (Nat.le_succ _) (.int .i64 now)).setCell (p := ⟨w.heap.size + 1, 1, none⟩) (Nat.le_succ _) (.slice (some ⟨g, 0, none⟩) n1 c6)
    have kn9 := ((grownBy_at (w8.setCell ⟨w.heap.size + 1, 0, none⟩ (.int .i64 now)) (w.heap.size + 1) 1 (.slice (some ⟨g, 0, none⟩) n1 c6)).block B7 (by have := (Array.getElem?_eq_some_iff.1 kn8).1; simpa using this) (fun e => by injection e; omega)).trans (((grownBy_at w8 (w.heap.size + 1) 0 (.int .i64 now)).block B7 (Array.getElem?_eq_some_iff.1 kn8).1 (fun e => by injection e; omega)).trans kn8)
    have hS9 : (((w8.setCell ⟨w.heap.size + 1, 0, none⟩ (.int .i64 now)).setCell ⟨w.heap.size + 1, 1, none⟩ (.slice (some ⟨g, 0, none⟩) n1 c6)).cell? ⟨B7, 0, none⟩ = some (.int .i64 now) ∧ ((w8.setCell ⟨w.heap.size + 1, 0, none⟩ (.int .i64 now)).setCell ⟨w.heap.size + 1, 1, none⟩ (.slice (some ⟨g, 0, none⟩) n1 c6)).cell? ⟨B7, 1, none⟩ = some (.slice (some ⟨g, 0, none⟩) n1 c6)) ∧ ((w8.setCell ⟨w.heap.size + 1, 0, none⟩ (.int .i64 now)).setCell ⟨w.heap.size + 1, 1, none⟩ (.slice (some ⟨g, 0, none⟩) n1 c6)).cell? ⟨g, i * 6 + 4, none⟩ = some (.bool hl) :=
      ⟨(box_cells kn9).1, by rw [← hyl.out]; exact (hK9.own.rcell (j := i) (x := ys[i]) (by simp)).2.2.2.2.1⟩
    have hR9 := Lib.hid (hfn.out _ _ _ hK9 hB9)
    clear hK8 r1 r2 kn8 kn9 hK9 hB9 hQ8 hfn kn hb78
    replace hS9 := Lib.hid hS9
    refine wpAnyH_takeL (i := 6) (v := ?vhy20) rfl (by kernel_rfl) (by kernel_rfl) (by kernel_rfl) (fun _ _ _ h => h) (Or.inl ⟨by rfl, ?hy20⟩) (by assumption) ?rhy20
    case hy20 => ((intro w hSw; (try dsimp only at hSw); go_simp); try with_reducible rfl)
    try simp only [Act.put, List.setIfInBounds_toArray, List.set_cons_zero, List.set_cons_succ]
    refine wpAnyH_takeL (i := 7) (v := ?vhy21) rfl (by kernel_rfl) (by kernel_rfl) (by kernel_rfl) (fun _ _ _ h => h) (Or.inl ⟨by rfl, ?hy21⟩) (by assumption) ?rhy21
    case hy21 => ((intro w hSw; (try dsimp only at hSw); go_simp); try with_reducible rfl)
    try simp only [Act.put, List.setIfInBounds_toArray, List.set_cons_zero, List.set_cons_succ]
    refine wpAnyH_takeL (i := 8) (v := ?vhy22) rfl (by kernel_rfl) (by kernel_rfl) (by kernel_rfl) (fun _ _ _ h => h) (Or.inl ⟨by rfl, ?hy22⟩) (by assumption) ?rhy22
    case hy22 => ((intro w hSw; (try dsimp only at hSw); go_simp); try with_reducible rfl)
    try simp only [Act.put, List.setIfInBounds_toArray, List.set_cons_zero, List.set_cons_succ]
    refine wpAnyH_ready (rs := [9]) (by kernel_rfl) (by simp) ?_
    refine AllReadyH.consL (i := 9) rfl (fun K hK => ?_) AllReadyH.nil
    go_simp
    refine hK.out _ _ hS9.out (fun hHeld => ?_)
    have hS10 := hS9.out
    clear hK hHeld hS9 hS1
    try simp only [Act.put, List.setIfInBounds_toArray, List.set_cons_zero, List.set_cons_succ]
    refine wpAnyH_takeL (i := 10) (v := ?vhy23) rfl (by kernel_rfl) (by kernel_rfl) (by kernel_rfl) (fun _ _ _ h => h) (Or.inl ⟨by rfl, ?hy23⟩) (by assumption) ?rhy23
    case hy23 => ((intro w hSw; (try dsimp only at hSw); go_simp); try with_reducible rfl)
    try simp only [Act.put, List.setIfInBounds_toArray, List.set_cons_zero, List.set_cons_succ]
    refine wpAnyH_takeL (i := 11) (v := ?vhy24) rfl (by kernel_rfl) (by kernel_rfl) (by kernel_rfl) (fun _ _ _ h => h) (Or.inl ⟨by rfl, ?hy24⟩) (by assumption) ?rhy24
    case hy24 => ((intro w hSw; (try dsimp only at hSw); go_simp); try with_reducible rfl)
    try simp only [Act.put, List.setIfInBounds_toArray, List.set_cons_zero, List.set_cons_succ]
    refine wpAnyH_done (by kernel_rfl) ?_ _
    refine NoPanic.normal ?_
    clear hS10
    go_wp2
    have hn1 := hn1.out
    subst hn1
    refine bodyPost_ret (results_l2 rfl _ _ rfl rfl rfl c3.1 c3.2) rfl ?_
    exact hR9.out
end Go.Proofs.YtnjhhibjcfjhnaaDoor
