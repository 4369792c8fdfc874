/- LocksHolds: the walk. -/
import Derived.Test.YtnjhhibjcfjhnaaDoorSet
import Derived.Test.YtnjhhibjcfjhnaaDoorLhQ
import Derived.Test.YtnjhhibjcfjhnaaDoorWorks
import Derived.Test.YtnjhhibjcfjhnaaDoorActB
namespace Go.Proofs.YtnjhhibjcfjhnaaDoor
open Go.RowKit
set_option linter.unusedVariables false

theorem LB.keepsH {W W' : World} {base B : Nat} {r : Option Nat} {now : Int} {zs : List Ak} (h : LB W base B r now zs) (hk : Kb W W' B r) {b : Nat} {cs : Array Value} {e : TypeId} {fr : Nat × Nat} (hq : W.heap[b]? = some (.cells cs e fr)) (h1 : e ≠ 69) (h2 : e ≠ 74) : W'.heap[b]? = some (.cells cs e fr) := by
  obtain ⟨A, n, c, xs, hl, rfl, -⟩ := h
  refine (hk.block b (Array.getElem?_eq_some_iff.1 hq).1 (fun e' => ?_) (fun e' => ?_)).trans hq
  · subst e'
    rw [hl.box] at hq
    injection hq with hq
    injection hq with _ hq
    exact h1 hq.symm
  · obtain ⟨cs', hc⟩ := hl.own.block b e'.symm
    rw [hc] at hq
    injection hq with hq
    injection hq with _ hq
    exact h2 hq.symm
/-- The locks, and who came when. -/
structure PH (w W : World) (B i : Nat) (r : Option Nat) (now : Int) (zs : List Ak) (b4 b5 : Nat) (came : Nat → Int) (first : Nat → Bool) : Prop where
  lb : LB W w.heap.size B r now zs
  env : Env W
  bel : Below w.heap.size w W
  hi : HI i now came first zs
  k4 : W.heap[b4]? = some (.cells (icl came) 27 (0, 0))
  k5 : W.heap[b5]? = some (.cells (bcl first) 28 (0, 0))
section
variable {w W W' : World} {B i : Nat} {r : Option Nat} {now : Int} {zs : List Ak} {b4 b5 : Nat} {came : Nat → Int} {first : Nat → Bool}
theorem PH.more (h : PH w W B i r now zs b4 b5 came first) (hb : Below W.heap.size W W') : PH w W' B i r now zs b4 b5 came first :=
  ⟨h.lb.below hb, h.env.below hb, gr h.bel hb, h.hi, (hb.block _ (Array.getElem?_eq_some_iff.1 h.k4).1).trans h.k4, (hb.block _ (Array.getElem?_eq_some_iff.1 h.k5).1).trans h.k5⟩
theorem PH.kb (h : PH w W B i r now zs b4 b5 came first) (hlt : 0 < w.heap.size) (hk : Kb W W' B r) {B' : Nat} {r' : Option Nat} {now' : Int} {zs' : List Ak} (hl : LB W' w.heap.size B' r' now' zs') (hi : HI (i + 1) now' came first zs') : PH w W' B' (i + 1) r' now' zs' b4 b5 came first :=
  ⟨hl, h.env.belowB hlt (hk.toBase h.lb), h.bel.trans (hk.toBase h.lb), hi, h.lb.keepsH hk h.k4 (by decide) (by decide), h.lb.keepsH hk h.k5 (by decide) (by decide)⟩
/-- The copy, as the other one changes. -/
theorem LB.kbC (h : PH w W B i r now zs b4 b5 came first) (hk : Kb W W' B r) {B0 : Nat} {r0 : Option Nat} (h0 : LB W w.heap.size B0 r0 now zs) (hs : B0 ≠ B ∧ ∀ g, r0 = some g → r ≠ some g) : LB W' w.heap.size B0 r0 now zs := h0.kb h.lb hs.1 hs.2 hk
end
theorem box5 {w : World} {B : Nat} {u0 u1 u2 u3 u4 : Value} {t : TypeId} (h : w.heap[B]? = some (.cells #[u0, u1, u2, u3, u4] t (0, 0))) : w.cell? ⟨B, 0, none⟩ = some u0 ∧ w.cell? ⟨B, 1, none⟩ = some u1 ∧ w.cell? ⟨B, 2, none⟩ = some u2 ∧ w.cell? ⟨B, 3, none⟩ = some u3 ∧ w.cell? ⟨B, 4, none⟩ = some u4 := by
  simp [World.cell?, h]
theorem icl_set (came : Nat → Int) (k : Nat) (hk : k < 17) (v : Int) : (icl came).setIfInBounds k (.int .i64 v) = icl (fun j => if j = k then v else came j) := by
  apply Array.ext_getElem?
  intro j
  rw [Array.getElem?_setIfInBounds]
  unfold icl
  by_cases hj : k = j
  · subst hj
    simp [hk]
  · by_cases h17 : j < 17
    · simp [hj, h17, show ¬ j = k from fun e => hj e.symm]
    · simp [hj, h17]
theorem bcl_set (first : Nat → Bool) (k : Nat) (hk : k < 17) (v : Bool) : (bcl first).setIfInBounds k (.bool v) = bcl (fun j => if j = k then v else first j) := by
  apply Array.ext_getElem?
  intro j
  rw [Array.getElem?_setIfInBounds]
  unfold bcl
  by_cases hj : k = j
  · subst hj
    simp [hk]
  · by_cases h17 : j < 17
    · simp [hj, h17, show ¬ j = k from fun e => hj e.symm]
    · simp [hj, h17]
theorem heap_setC {w : World} {B j : Nat} {cs : Array Value} {t : TypeId} (v : Value) (h : w.heap[B]? = some (.cells cs t (0, 0))) : (w.setCell ⟨B, j, none⟩ v).heap[B]? = some (.cells (cs.setIfInBounds j v) t (0, 0)) := by
  obtain ⟨hlt, hk⟩ := Array.getElem?_eq_some_iff.1 h
  show (w.heap.modify B _)[B]? = _
  rw [Array.getElem?_eq_getElem (by rw [Array.size_modify]; exact hlt), Array.getElem_modify_self, hk]
  rfl
theorem icl_size (f : Nat → Int) : (icl f).size = 17 := by simp [icl]
theorem bcl_size (f : Nat → Bool) : (bcl f).size = 17 := by simp [bcl]
theorem icl_info (f : Nat → Int) : (Tryd.prog.info? 27).map (·.size) = some (icl f).size := by rw [icl_size]; kernel_rfl
theorem bcl_info (f : Nat → Bool) : (Tryd.prog.info? 28).map (·.size) = some (bcl f).size := by rw [bcl_size]; kernel_rfl
set_option maxRecDepth 100000 in
set_option maxHeartbeats 8000000 in
theorem LocksHolds_walk (A : Option Addr) (n c : Nat) (xs : List Ac) (w : World) (hE : Env w) (hx : Cv w A n c xs) :
    Calls Tryd.prog 3 #[.slice A n c] w fun e w' => e = .returned (.bool true) ∧ Below w.heap.size w w' := by
  have hlE := hE.lt
  have hxn := hx.len
  have hcap : c ≤ 9223372036854775807 := hx.rv.2.2.1
  have hle := hx.rv.2.1
  have hfw := Lib.hid (Few_any A n c xs 60 w hx (by decide))
  have hwk := Lib.hid (Works_any w hE)
  go_enter Tryd.func3, Tryd.ntmps3
  go_wp2_with fail
  refine hfw.out.mono ?_
  rintro e w1 (⟨rfl, rfl⟩ | ⟨rfl, rfl, h60, h12⟩)
  · clear hfw
    go_wp2_with fail
    refine hwk.out.mono ?_
    rintro e w2 ⟨rfl, hb⟩
    clear hwk
    go_wp2
    go_ret
    exact ⟨rfl, hb⟩
  clear hfw hwk
  go_wp2_with fail
  refine (New_B w).mono ?_
  rintro e w1 ⟨rfl, hl1, hb1⟩
  go_upto_region 6 with fail
  have hb2 : Below w1.heap.size w1 ((w1.alloc (.cells #[.int .i64 0, .int .i64 0, .int .i64 0, .int .i64 0, .int .i64 0, .int .i64 0, .int .i64 0, .int .i64 0, .int .i64 0, .int .i64 0, .int .i64 0, .int .i64 0, .int .i64 0, .int .i64 0, .int .i64 0, .int .i64 0, .int .i64 0] 27)).alloc (.cells #[.bool false, .bool false, .bool false, .bool false, .bool false, .bool false, .bool false, .bool false, .bool false, .bool false, .bool false, .bool false, .bool false, .bool false, .bool false, .bool false, .bool false] 28)) := gr_alloc (gr_alloc (Below.refl _ _) _) _
  have k45 := two_at w1 (.cells #[.int .i64 0, .int .i64 0, .int .i64 0, .int .i64 0, .int .i64 0, .int .i64 0, .int .i64 0, .int .i64 0, .int .i64 0, .int .i64 0, .int .i64 0, .int .i64 0, .int .i64 0, .int .i64 0, .int .i64 0, .int .i64 0, .int .i64 0] 27) (.cells #[.bool false, .bool false, .bool false, .bool false, .bool false, .bool false, .bool false, .bool false, .bool false, .bool false, .bool false, .bool false, .bool false, .bool false, .bool false, .bool false, .bool false] 28)
  have hP : PH w ((w1.alloc (.cells #[.int .i64 0, .int .i64 0, .int .i64 0, .int .i64 0, .int .i64 0, .int .i64 0, .int .i64 0, .int .i64 0, .int .i64 0, .int .i64 0, .int .i64 0, .int .i64 0, .int .i64 0, .int .i64 0, .int .i64 0, .int .i64 0, .int .i64 0] 27)).alloc (.cells #[.bool false, .bool false, .bool false, .bool false, .bool false, .bool false, .bool false, .bool false, .bool false, .bool false, .bool false, .bool false, .bool false, .bool false, .bool false, .bool false, .bool false] 28)) w.heap.size 0 none 0 [] w1.heap.size (w1.heap.size + 1) (fun _ => 0) (fun _ => false) :=
    ⟨hl1.below hb2, (hE.below hb1).below hb2, gr hb1 hb2, HI.nil, k45.1, k45.2⟩
  have hbb : w.heap.size < w1.heap.size := hl1.lt.2
  clear hl1 hb1 hb2 k45 hE
  generalize ((w1.alloc (.cells #[.int .i64 0, .int .i64 0, .int .i64 0, .int .i64 0, .int .i64 0, .int .i64 0, .int .i64 0, .int .i64 0, .int .i64 0, .int .i64 0, .int .i64 0, .int .i64 0, .int .i64 0, .int .i64 0, .int .i64 0, .int .i64 0, .int .i64 0] 27)).alloc (.cells #[.bool false, .bool false, .bool false, .bool false, .bool false, .bool false, .bool false, .bool false, .bool false, .bool false, .bool false, .bool false, .bool false, .bool false, .bool false, .bool false, .bool false] 28)) = w2 at *
  generalize hb5e : w1.heap.size + 1 = b5 at *
  replace hb5e := Lib.hid hb5e
  generalize w1.heap.size = b4 at *
  have hxs := Lib.hid hx
  have hnum := Lib.hid (fun k W => Num_any k W)
  clear hx
  go_wp2_with fail
  go_loopw [6] (fun q wr => ∃ (i : Nat) (r : Option Nat) (now : Int) (zs : List Ak) (came : Nat → Int) (first : Nat → Bool), q = .int .i64 (i : Int) ∧ i ≤ n ∧ PH w wr w.heap.size i r now zs b4 b5 came first)
    (fun q wr => n - (intOf q).toNat)
  case atStart => exact ⟨0, none, 0, [], _, _, rfl, by omega, hP⟩
  case round =>
    clear hP
    obtain ⟨i, r, now, zs, came, first, rfl, hi, hP⟩ := hrel
    by_cases hlt : i < n
    · have hlt1 : (i : Int) < (n : Int) := by omega
      have hlt2 : decide ((i : Int) < (n : Int)) = true := by simp; omega
      obtain ⟨b1, o1, rfl, hb1, hc1⟩ := hxs.out.rv.2.2.2 (by omega)
      have E := Lib.hid (fun (W : World) (hW : Below w.heap.size w W) => ccells_cell hc1 (fun o => hW.cell (p := ⟨b1, o, none⟩) hb1) i (by omega))
      have hxx := Lib.hid (fun (W : World) (hW : Below w.heap.size w W) => Rv.below (hxs.out.tabs (xs[i]'(by omega)) (List.getElem_mem _)) hW)
      have hx12 := h12 (xs[i]'(by omega)) (List.getElem_mem _)
      generalize xs[i]'(by omega) = x at *
      obtain ⟨x0, x1, x2, x3, x5, x6, x7, x8⟩ := x
      have hcp := Lib.hid (Copy_B hP.lb hP.hi.iz)
      go_wp2_with fail
      refine hcp.out.mono ?_
      rintro e w3 ⟨B2, r2, rfl, hl3, hB2, hr2, hb3⟩
      have hsep : B2 ≠ w.heap.size ∧ ∀ g, r2 = some g → r ≠ some g := ⟨by have := hP.lb.lt.2; omega, fun g hg e => by have := hr2 g hg; have := (hP.lb.row g e).2; omega⟩
      have hz0 := hP.hi.iz
      have hP3 := hP.more hb3
      clear hcp hP hb3 hc1
      have e1 := E.out _ hP3.bel
      go_upto_region 13 with fail
      have hba : Below w3.heap.size w3 (w3.alloc (.cells #[.int .i64 x0, .int .i64 x1, .int .i64 x2, .bool x3, .slice x6 x7 x8] 31)) := (Below.refl _ _).alloc (Nat.le_refl _) _
      have k8 := World.alloc_heap_new w3 (.cells #[.int .i64 x0, .int .i64 x1, .int .i64 x2, .bool x3, .slice x6 x7 x8] 31)
      have hP4 := hP3.more hba
      have h04 := hl3.below hba
      clear hba hP3 hl3 e1 E
      generalize (w3.alloc (.cells #[.int .i64 x0, .int .i64 x1, .int .i64 x2, .bool x3, .slice x6 x7 x8] 31)) = w4 at *
      generalize w3.heap.size = b8 at *
      have hx7 : x7 ≤ 100000 := by have := (hxx.out _ hP4.bel).1; rw [wcells_length] at this; have h' : x5.length ≤ 12 := hx12; have h'' : x5.length * 2 = x7 * 2 := this; omega
      have cx := box5 k8
      by_cases ha : 0 ≤ x0 ∧ x0 ≤ 3
      · have hw : x0 = 0 ∨ x0 = 1 ∨ x0 = 2 ∨ x0 = 3 := by omega
        clear ha
        rcases hw with rfl | rfl | rfl | rfl
        · skip
          have hca := Lib.hid (Ask_B hP4.lb hP4.env hP4.hi.iz x1 x2 x3 x6 x7 x8 x5 (hxx.out _ hP4.bel) (by omega))
          have hse := hP4.hi.ask (by omega) x1 x2 x3 x5
          generalize askF now x1 x2 x3 x5 zs = q at *
          obtain ⟨zs', bb, e1⟩ := q
          simp only at hca hse
          go_wp2_with fail
          refine hca.out.mono ?_
          rintro e w6 ⟨rfl, r6, hl6, -, hk6⟩
          clear hca
          replace k8 := hP4.lb.keepsH hk6 k8 (by decide) (by decide)
          rcases hse with ⟨rfl, hs1, hs2, hse, hgd⟩ | ⟨hne, hse, hgd⟩
          · obtain ⟨k, hk⟩ : ∃ k : Nat, x1 = (k : Int) := ⟨x1.toNat, by omega⟩
            subst hk
            have hk17 : (k : Int) < 17 := by omega
            have hkn : k < 17 := by omega
            have d1 : decide (1 ≤ (k : Int)) = true := by simp; omega
            have d2 : decide ((k : Int) ≤ 16) = true := by simp; omega
            have hwi : IntKind.i64.wrap ((i : Int) + 1) = (i : Int) + 1 := by rw [IntKind.wrap_i64]; omega
            have h0' := LB.kbC hP4 hk6 h04 hsep
            have k4 := hP4.lb.keepsH hk6 hP4.k4 (by decide) (by decide)
            have k5 := hP4.lb.keepsH hk6 hP4.k5 (by decide) (by decide)
            have hEw := hP4.env.belowB hlE (hk6.toBase hP4.lb)
            have hBw := hP4.bel.trans (hk6.toBase hP4.lb)
            have hne4 : b4 ≠ b5 := by have := hb5e.out; omega
            have hn84 : b8 ≠ b4 := fun e => by subst e; rw [k8] at k4; injection k4 with k4; injection k4 with _ k4; exact absurd k4 (by decide)
            have hn85 : b8 ≠ b5 := fun e => by subst e; rw [k8] at k5; injection k5 with k5; injection k5 with _ k5; exact absurd k5 (by decide)
            have hw5 : w.heap.size ≤ b5 := by have := hb5e.out; omega
            clear hP4 h04 hk6
            have cx := box5 k8
            go_upto_region 20 with (go_at_call 12; refine (hnum.out _ _).mono ?_; rintro e w1 ⟨rfl, rfl⟩)
            refine wp_region_noPanic ?_
            refine wp_region_held_drew (S := fun W => (W.cell? ⟨b8, 0, none⟩ = some (.int .i64 0) ∧ W.cell? ⟨b8, 1, none⟩ = some (.int .i64 (k : Int)) ∧ W.cell? ⟨b8, 2, none⟩ = some (.int .i64 x2) ∧ W.cell? ⟨b8, 3, none⟩ = some (.bool x3) ∧ W.cell? ⟨b8, 4, none⟩ = some (.slice x6 x7 x8))) (by kernel_rfl) cx (fun hHeld => ?_)
            have c4 : w6.drew.cell? ⟨b4, k, none⟩ = some (.int .i64 (came k)) := by
              rw [World.cell?, show w6.drew.heap[b4]? = _ from k4]
              simpa using icl_at came k hkn
            have f4 : w6.drew.frozen? ⟨b4, k, none⟩ = false := by simp [World.frozen?, show w6.drew.heap[b4]? = _ from k4]
            have j4 : (w6.drew.setCell ⟨b4, k, none⟩ (.int .i64 ((i : Int) + 1))).heap[b4]? = _ := heap_setC (.int .i64 ((i : Int) + 1)) (show w6.drew.heap[b4]? = _ from k4)
            have j5 := ((grownBy_at w6.drew b4 k (.int .i64 ((i : Int) + 1))).block b5 (Array.getElem?_eq_some_iff.1 k5).1 (fun e => by injection e with e; exact hne4 e.symm)).trans k5
            have j8 := ((grownBy_at w6.drew b4 k (.int .i64 ((i : Int) + 1))).block b8 (Array.getElem?_eq_some_iff.1 k8).1 (fun e => by injection e with e; exact hn84 e)).trans k8
            have hl7 := hl6.boxSet k4 (by decide) (by decide) (by decide) k (.int .i64 ((i : Int) + 1))
            have h07 := h0'.boxSet k4 (by decide) (by decide) (by decide) k (.int .i64 ((i : Int) + 1))
            have hE7 := hEw.belowB hlE ((Below.refl _ w6).setCell (p := ⟨b4, k, none⟩) (Nat.le_of_lt hbb) (.int .i64 ((i : Int) + 1)))
            have hB7 := hBw.setCell (p := ⟨b4, k, none⟩) (Nat.le_of_lt hbb) (.int .i64 ((i : Int) + 1))
            rw [icl_set came k hkn] at j4
            clear k4 k5 k8 cx hl6 h0' hEw hBw
            refine wpAnyH_takeL (i := 0) (v := ?vhy1) rfl (by kernel_rfl) (by kernel_rfl) (by kernel_rfl) (fun _ _ _ h => h) (Or.inl ⟨by rfl, ?hy1⟩) (by assumption) ?rhy1
            case hy1 => ((intro w hSw; (try dsimp only at hSw); go_simp); try with_reducible rfl)
            try simp only [Act.put, List.setIfInBounds_toArray, List.set_cons_zero, List.set_cons_succ]
            refine wpAnyH_takeL (i := 1) (v := ?vhy2) rfl (by kernel_rfl) (by kernel_rfl) (by kernel_rfl) (fun _ _ _ h => h) (Or.inl ⟨by rfl, ?hy2⟩) (by assumption) ?rhy2
            case hy2 => ((intro w hSw; (try dsimp only at hSw); go_simp); try with_reducible rfl)
            try simp only [Act.put, List.setIfInBounds_toArray, List.set_cons_zero, List.set_cons_succ]
            refine wpAnyH_takeL (i := 2) (v := ?vhy3) rfl (by kernel_rfl) (by kernel_rfl) (by kernel_rfl) (fun _ _ _ h => h) (Or.inl ⟨by rfl, ?hy3⟩) (by assumption) ?rhy3
            case hy3 => ((intro w hSw; (try dsimp only at hSw); go_simp); try with_reducible rfl)
            try simp only [Act.put, List.setIfInBounds_toArray, List.set_cons_zero, List.set_cons_succ]
            refine wpAnyH_takeL (i := 3) (v := ?vhy4) rfl (by kernel_rfl) (by kernel_rfl) (by kernel_rfl) (fun _ _ _ h => h) (Or.inl ⟨by rfl, ?hy4⟩) (by assumption) ?rhy4
            case hy4 => ((intro w hSw; (try dsimp only at hSw); go_simp); try with_reducible rfl)
            try simp only [Act.put, List.setIfInBounds_toArray, List.set_cons_zero, List.set_cons_succ]
            refine wpAnyH_takeL (i := 4) (v := ?vhy5) rfl (by kernel_rfl) (by kernel_rfl) (by kernel_rfl) (fun _ _ _ h => h) (Or.inl ⟨by rfl, ?hy5⟩) (by assumption) ?rhy5
            case hy5 => ((intro w hSw; (try dsimp only at hSw); go_simp); try with_reducible rfl)
            try simp only [Act.put, List.setIfInBounds_toArray, List.set_cons_zero, List.set_cons_succ]
            refine wpAnyH_takeL (i := 5) (v := ?vhy6) rfl (by kernel_rfl) (by kernel_rfl) (by kernel_rfl) (fun _ _ _ h => h) (Or.inl ⟨by rfl, ?hy6⟩) (by assumption) ?rhy6
            case hy6 => ((intro w hSw; (try dsimp only at hSw); go_simp); try with_reducible rfl)
            try simp only [Act.put, List.setIfInBounds_toArray, List.set_cons_zero, List.set_cons_succ]
            refine wpAnyH_takeL (i := 6) (v := ?vhy7) rfl (by kernel_rfl) (by kernel_rfl) (by kernel_rfl) (fun _ _ _ h => h) (Or.inl ⟨by rfl, ?hy7⟩) (by assumption) ?rhy7
            case hy7 => ((intro w hSw; (try dsimp only at hSw); go_simp); try with_reducible rfl)
            try simp only [Act.put, List.setIfInBounds_toArray, List.set_cons_zero, List.set_cons_succ]
            refine wpAnyH_takeL (i := 7) (v := ?vhy8) rfl (by kernel_rfl) (by kernel_rfl) (by kernel_rfl) (fun _ _ _ h => h) (Or.inl ⟨by rfl, ?hy8⟩) (by assumption) ?rhy8
            case hy8 => ((intro w hSw; (try dsimp only at hSw); go_simp); try with_reducible rfl)
            try simp only [Act.put, List.setIfInBounds_toArray, List.set_cons_zero, List.set_cons_succ]
            refine wpAnyH_takeL (i := 8) (v := ?vhy9) rfl (by kernel_rfl) (by kernel_rfl) (by kernel_rfl) (fun _ _ _ h => h) (Or.inl ⟨by rfl, ?hy9⟩) (by assumption) ?rhy9
            case hy9 => ((intro w hSw; (try dsimp only at hSw); go_simp); try with_reducible rfl)
            try simp only [Act.put, List.setIfInBounds_toArray, List.set_cons_zero, List.set_cons_succ]
            refine wpAnyH_ready (rs := [9]) (by kernel_rfl) (by simp) ?_
            refine AllReadyH.consL (i := 9) rfl (fun K hK => ?_) AllReadyH.nil
            go_simp
            replace hl7 : LB (w6.setCell ⟨b4, k, none⟩ (.int .i64 ((i : Int) + 1))).drew w.heap.size w.heap.size r6 now zs' := hl7.below (Below.refl _ _).drew
            replace h07 : LB (w6.setCell ⟨b4, k, none⟩ (.int .i64 ((i : Int) + 1))).drew w.heap.size B2 r2 now zs := h07.below (Below.refl _ _).drew
            replace hE7 : Env (w6.setCell ⟨b4, k, none⟩ (.int .i64 ((i : Int) + 1))).drew := hE7.below (Below.refl _ _).drew
            replace hB7 : Below w.heap.size w (w6.setCell ⟨b4, k, none⟩ (.int .i64 ((i : Int) + 1))).drew := hB7.drew
            replace j4 : (w6.setCell ⟨b4, k, none⟩ (.int .i64 ((i : Int) + 1))).drew.heap[b4]? = some (.cells (icl fun j => if j = k then ((i : Int) + 1) else came j) 27 (0, 0)) := j4
            replace j5 : (w6.setCell ⟨b4, k, none⟩ (.int .i64 ((i : Int) + 1))).drew.heap[b5]? = some (.cells (bcl first) 28 (0, 0)) := j5
            replace j8 : (w6.setCell ⟨b4, k, none⟩ (.int .i64 ((i : Int) + 1))).drew.heap[b8]? = some (.cells #[.int .i64 0, .int .i64 (k : Int), .int .i64 x2, .bool x3, .slice x6 x7 x8] 31 (0, 0)) := j8
            refine hK.out _ _ (box5 j8) (fun hHeld => ?_)
            clear hK c4 f4
            generalize (w6.setCell ⟨b4, k, none⟩ (.int .i64 ((i : Int) + 1))).drew = w7 at *
            have c5 : w7.cell? ⟨b5, k, none⟩ = some (.bool (first k)) := by
              rw [World.cell?, j5]
              simpa using bcl_at first k hkn
            have f5 : w7.frozen? ⟨b5, k, none⟩ = false := by simp [World.frozen?, j5]
            have i5 := heap_setC (j := k) (.bool x3) j5
            have i4 := ((grownBy_at w7 b5 k (.bool x3)).block b4 (Array.getElem?_eq_some_iff.1 j4).1 (fun e => by injection e with e; exact hne4 e)).trans j4
            have i8 := ((grownBy_at w7 b5 k (.bool x3)).block b8 (Array.getElem?_eq_some_iff.1 j8).1 (fun e => by injection e with e; exact hn85 e)).trans j8
            have hl8 := hl7.boxSet j5 (by decide) (by decide) (by decide) k (.bool x3)
            have h0' := h07.boxSet j5 (by decide) (by decide) (by decide) k (.bool x3)
            have hE8 := hE7.belowB hlE ((Below.refl _ w7).setCell (p := ⟨b5, k, none⟩) hw5 (.bool x3))
            have hB8 := hB7.setCell (p := ⟨b5, k, none⟩) hw5 (.bool x3)
            rw [bcl_set first k hkn] at i5
            clear j4 j5 j8 hl7 h07 hE7 hB7
            refine wpAnyH_takeL (i := 10) (v := ?vhy10) rfl (by kernel_rfl) (by kernel_rfl) (by kernel_rfl) (fun _ _ _ h => h) (Or.inl ⟨by rfl, ?hy10⟩) (by assumption) ?rhy10
            case hy10 => ((intro w hSw; (try dsimp only at hSw); go_simp); try with_reducible rfl)
            try simp only [Act.put, List.setIfInBounds_toArray, List.set_cons_zero, List.set_cons_succ]
            refine wpAnyH_ready (rs := [11]) (by kernel_rfl) (by simp) ?_
            refine AllReadyH.consL (i := 11) rfl (fun K hK => ?_) AllReadyH.nil
            go_simp
            refine hK.out _ _ (box5 i8) (fun hHeld => ?_)
            clear hK c5 f5
            refine wpAnyH_done (by kernel_rfl) ?_ _
            refine NoPanic.normal ?_
            clear hHeld i8
            have hP6 : PH w (w7.setCell ⟨b5, k, none⟩ (.bool x3)) w.heap.size (i + 1) r6 now zs' b4 b5 (cameN came (k : Int) i) (firstN first (k : Int) x3) := ⟨hl8, hE8, hB8, hse, i4, i5⟩
            clear hl8 hE8 hB8 hse i4 i5
            generalize (w7.setCell ⟨b5, k, none⟩ (.bool x3)) = w8 at *
            have hse := Lib.hid (Settled_any hP6.lb hP6.hi.iz h0' hz0 _ _ hgd)
            go_wp2_with (first | (go_at_call 12; refine (hnum.out _ _).mono ?_; rintro e w1 ⟨rfl, rfl⟩) | (refine wpList_load_row rfl 27 _ rfl b4 rfl 27 _ (0, 0) _ hP6.k4 Tryd.underlying27 rfl (icl_info _) ?_) | (refine wpList_load_row rfl 28 _ rfl b5 rfl 28 _ (0, 0) _ hP6.k5 Tryd.underlying28 rfl (bcl_info _) ?_))
            refine hse.out.mono ?_
            rintro e w9 ⟨rfl, hb9⟩
            have hP9 := Lib.hid (hP6.more hb9)
            clear hse hP6 h0' hgd hb9
            go_wp2
            exact ⟨⟨i + 1, _, _, _, _, _, by simp, by omega, hP9.out⟩, by simp [intOf]; omega⟩
          · have hP6 := hP4.kb hlE hk6 hl6 hse
            have h0' := LB.kbC hP4 hk6 h04 hsep
            have hqe : (e1 == 0) = false := beq_false_of_ne hne
            clear hse hP4 h04 hl6 hk6
            have cx := box5 k8
            have hse := Lib.hid (Settled_any hP6.lb hP6.hi.iz h0' hz0 _ _ hgd)
            go_wp2_with (first | (go_at_call 12; refine (hnum.out _ _).mono ?_; rintro e w1 ⟨rfl, rfl⟩) | (refine wpList_load_row rfl 27 _ rfl b4 rfl 27 _ (0, 0) _ hP6.k4 Tryd.underlying27 rfl (icl_info _) ?_) | (refine wpList_load_row rfl 28 _ rfl b5 rfl 28 _ (0, 0) _ hP6.k5 Tryd.underlying28 rfl (bcl_info _) ?_))
            refine hse.out.mono ?_
            rintro e w9 ⟨rfl, hb9⟩
            have hP9 := Lib.hid (hP6.more hb9)
            clear hse hP6 h0' hgd hb9
            go_wp2
            exact ⟨⟨i + 1, _, _, _, _, _, by simp, by omega, hP9.out⟩, by simp [intOf]; omega⟩
        · skip
          have hca := Lib.hid (Ask_B hP4.lb hP4.env hP4.hi.iz x1 x2 x3 x6 x7 x8 x5 (hxx.out _ hP4.bel) (by omega))
          have hse := hP4.hi.ask (by omega) x1 x2 x3 x5
          generalize askF now x1 x2 x3 x5 zs = q at *
          obtain ⟨zs', bb, e1⟩ := q
          simp only at hca hse
          go_wp2_with fail
          refine hca.out.mono ?_
          rintro e w6 ⟨rfl, r6, hl6, -, hk6⟩
          clear hca
          replace k8 := hP4.lb.keepsH hk6 k8 (by decide) (by decide)
          rcases hse with ⟨rfl, hs1, hs2, hse, hgd⟩ | ⟨hne, hse, hgd⟩
          · obtain ⟨k, hk⟩ : ∃ k : Nat, x1 = (k : Int) := ⟨x1.toNat, by omega⟩
            subst hk
            have hk17 : (k : Int) < 17 := by omega
            have hkn : k < 17 := by omega
            have d1 : decide (1 ≤ (k : Int)) = true := by simp; omega
            have d2 : decide ((k : Int) ≤ 16) = true := by simp; omega
            have hwi : IntKind.i64.wrap ((i : Int) + 1) = (i : Int) + 1 := by rw [IntKind.wrap_i64]; omega
            have h0' := LB.kbC hP4 hk6 h04 hsep
            have k4 := hP4.lb.keepsH hk6 hP4.k4 (by decide) (by decide)
            have k5 := hP4.lb.keepsH hk6 hP4.k5 (by decide) (by decide)
            have hEw := hP4.env.belowB hlE (hk6.toBase hP4.lb)
            have hBw := hP4.bel.trans (hk6.toBase hP4.lb)
            have hne4 : b4 ≠ b5 := by have := hb5e.out; omega
            have hn84 : b8 ≠ b4 := fun e => by subst e; rw [k8] at k4; injection k4 with k4; injection k4 with _ k4; exact absurd k4 (by decide)
            have hn85 : b8 ≠ b5 := fun e => by subst e; rw [k8] at k5; injection k5 with k5; injection k5 with _ k5; exact absurd k5 (by decide)
            have hw5 : w.heap.size ≤ b5 := by have := hb5e.out; omega
            clear hP4 h04 hk6
            have cx := box5 k8
            go_upto_region 20 with (go_at_call 12; refine (hnum.out _ _).mono ?_; rintro e w1 ⟨rfl, rfl⟩)
            refine wp_region_noPanic ?_
            refine wp_region_held_drew (S := fun W => (W.cell? ⟨b8, 0, none⟩ = some (.int .i64 1) ∧ W.cell? ⟨b8, 1, none⟩ = some (.int .i64 (k : Int)) ∧ W.cell? ⟨b8, 2, none⟩ = some (.int .i64 x2) ∧ W.cell? ⟨b8, 3, none⟩ = some (.bool x3) ∧ W.cell? ⟨b8, 4, none⟩ = some (.slice x6 x7 x8))) (by kernel_rfl) cx (fun hHeld => ?_)
            have c4 : w6.drew.cell? ⟨b4, k, none⟩ = some (.int .i64 (came k)) := by
              rw [World.cell?, show w6.drew.heap[b4]? = _ from k4]
              simpa using icl_at came k hkn
            have f4 : w6.drew.frozen? ⟨b4, k, none⟩ = false := by simp [World.frozen?, show w6.drew.heap[b4]? = _ from k4]
            have j4 : (w6.drew.setCell ⟨b4, k, none⟩ (.int .i64 ((i : Int) + 1))).heap[b4]? = _ := heap_setC (.int .i64 ((i : Int) + 1)) (show w6.drew.heap[b4]? = _ from k4)
            have j5 := ((grownBy_at w6.drew b4 k (.int .i64 ((i : Int) + 1))).block b5 (Array.getElem?_eq_some_iff.1 k5).1 (fun e => by injection e with e; exact hne4 e.symm)).trans k5
            have j8 := ((grownBy_at w6.drew b4 k (.int .i64 ((i : Int) + 1))).block b8 (Array.getElem?_eq_some_iff.1 k8).1 (fun e => by injection e with e; exact hn84 e)).trans k8
            have hl7 := hl6.boxSet k4 (by decide) (by decide) (by decide) k (.int .i64 ((i : Int) + 1))
            have h07 := h0'.boxSet k4 (by decide) (by decide) (by decide) k (.int .i64 ((i : Int) + 1))
            have hE7 := hEw.belowB hlE ((Below.refl _ w6).setCell (p := ⟨b4, k, none⟩) (Nat.le_of_lt hbb) (.int .i64 ((i : Int) + 1)))
            have hB7 := hBw.setCell (p := ⟨b4, k, none⟩) (Nat.le_of_lt hbb) (.int .i64 ((i : Int) + 1))
            rw [icl_set came k hkn] at j4
            clear k4 k5 k8 cx hl6 h0' hEw hBw
            refine wpAnyH_takeL (i := 0) (v := ?vhy11) rfl (by kernel_rfl) (by kernel_rfl) (by kernel_rfl) (fun _ _ _ h => h) (Or.inl ⟨by rfl, ?hy11⟩) (by assumption) ?rhy11
            case hy11 => ((intro w hSw; (try dsimp only at hSw); go_simp); try with_reducible rfl)
            try simp only [Act.put, List.setIfInBounds_toArray, List.set_cons_zero, List.set_cons_succ]
            refine wpAnyH_takeL (i := 1) (v := ?vhy12) rfl (by kernel_rfl) (by kernel_rfl) (by kernel_rfl) (fun _ _ _ h => h) (Or.inl ⟨by rfl, ?hy12⟩) (by assumption) ?rhy12
            case hy12 => ((intro w hSw; (try dsimp only at hSw); go_simp); try with_reducible rfl)
            try simp only [Act.put, List.setIfInBounds_toArray, List.set_cons_zero, List.set_cons_succ]
            refine wpAnyH_takeL (i := 2) (v := ?vhy13) rfl (by kernel_rfl) (by kernel_rfl) (by kernel_rfl) (fun _ _ _ h => h) (Or.inl ⟨by rfl, ?hy13⟩) (by assumption) ?rhy13
            case hy13 => ((intro w hSw; (try dsimp only at hSw); go_simp); try with_reducible rfl)
            try simp only [Act.put, List.setIfInBounds_toArray, List.set_cons_zero, List.set_cons_succ]
            refine wpAnyH_takeL (i := 3) (v := ?vhy14) rfl (by kernel_rfl) (by kernel_rfl) (by kernel_rfl) (fun _ _ _ h => h) (Or.inl ⟨by rfl, ?hy14⟩) (by assumption) ?rhy14
            case hy14 => ((intro w hSw; (try dsimp only at hSw); go_simp); try with_reducible rfl)
            try simp only [Act.put, List.setIfInBounds_toArray, List.set_cons_zero, List.set_cons_succ]
            refine wpAnyH_takeL (i := 4) (v := ?vhy15) rfl (by kernel_rfl) (by kernel_rfl) (by kernel_rfl) (fun _ _ _ h => h) (Or.inl ⟨by rfl, ?hy15⟩) (by assumption) ?rhy15
            case hy15 => ((intro w hSw; (try dsimp only at hSw); go_simp); try with_reducible rfl)
            try simp only [Act.put, List.setIfInBounds_toArray, List.set_cons_zero, List.set_cons_succ]
            refine wpAnyH_takeL (i := 5) (v := ?vhy16) rfl (by kernel_rfl) (by kernel_rfl) (by kernel_rfl) (fun _ _ _ h => h) (Or.inl ⟨by rfl, ?hy16⟩) (by assumption) ?rhy16
            case hy16 => ((intro w hSw; (try dsimp only at hSw); go_simp); try with_reducible rfl)
            try simp only [Act.put, List.setIfInBounds_toArray, List.set_cons_zero, List.set_cons_succ]
            refine wpAnyH_takeL (i := 6) (v := ?vhy17) rfl (by kernel_rfl) (by kernel_rfl) (by kernel_rfl) (fun _ _ _ h => h) (Or.inl ⟨by rfl, ?hy17⟩) (by assumption) ?rhy17
            case hy17 => ((intro w hSw; (try dsimp only at hSw); go_simp); try with_reducible rfl)
            try simp only [Act.put, List.setIfInBounds_toArray, List.set_cons_zero, List.set_cons_succ]
            refine wpAnyH_takeL (i := 7) (v := ?vhy18) rfl (by kernel_rfl) (by kernel_rfl) (by kernel_rfl) (fun _ _ _ h => h) (Or.inl ⟨by rfl, ?hy18⟩) (by assumption) ?rhy18
            case hy18 => ((intro w hSw; (try dsimp only at hSw); go_simp); try with_reducible rfl)
            try simp only [Act.put, List.setIfInBounds_toArray, List.set_cons_zero, List.set_cons_succ]
            refine wpAnyH_takeL (i := 8) (v := ?vhy19) rfl (by kernel_rfl) (by kernel_rfl) (by kernel_rfl) (fun _ _ _ h => h) (Or.inl ⟨by rfl, ?hy19⟩) (by assumption) ?rhy19
            case hy19 => ((intro w hSw; (try dsimp only at hSw); go_simp); try with_reducible rfl)
            try simp only [Act.put, List.setIfInBounds_toArray, List.set_cons_zero, List.set_cons_succ]
            refine wpAnyH_ready (rs := [9]) (by kernel_rfl) (by simp) ?_
            refine AllReadyH.consL (i := 9) rfl (fun K hK => ?_) AllReadyH.nil
            go_simp
            replace hl7 : LB (w6.setCell ⟨b4, k, none⟩ (.int .i64 ((i : Int) + 1))).drew w.heap.size w.heap.size r6 now zs' := hl7.below (Below.refl _ _).drew
            replace h07 : LB (w6.setCell ⟨b4, k, none⟩ (.int .i64 ((i : Int) + 1))).drew w.heap.size B2 r2 now zs := h07.below (Below.refl _ _).drew
            replace hE7 : Env (w6.setCell ⟨b4, k, none⟩ (.int .i64 ((i : Int) + 1))).drew := hE7.below (Below.refl _ _).drew
            replace hB7 : Below w.heap.size w (w6.setCell ⟨b4, k, none⟩ (.int .i64 ((i : Int) + 1))).drew := hB7.drew
            replace j4 : (w6.setCell ⟨b4, k, none⟩ (.int .i64 ((i : Int) + 1))).drew.heap[b4]? = some (.cells (icl fun j => if j = k then ((i : Int) + 1) else came j) 27 (0, 0)) := j4
            replace j5 : (w6.setCell ⟨b4, k, none⟩ (.int .i64 ((i : Int) + 1))).drew.heap[b5]? = some (.cells (bcl first) 28 (0, 0)) := j5
            replace j8 : (w6.setCell ⟨b4, k, none⟩ (.int .i64 ((i : Int) + 1))).drew.heap[b8]? = some (.cells #[.int .i64 1, .int .i64 (k : Int), .int .i64 x2, .bool x3, .slice x6 x7 x8] 31 (0, 0)) := j8
            refine hK.out _ _ (box5 j8) (fun hHeld => ?_)
            clear hK c4 f4
            generalize (w6.setCell ⟨b4, k, none⟩ (.int .i64 ((i : Int) + 1))).drew = w7 at *
            have c5 : w7.cell? ⟨b5, k, none⟩ = some (.bool (first k)) := by
              rw [World.cell?, j5]
              simpa using bcl_at first k hkn
            have f5 : w7.frozen? ⟨b5, k, none⟩ = false := by simp [World.frozen?, j5]
            have i5 := heap_setC (j := k) (.bool x3) j5
            have i4 := ((grownBy_at w7 b5 k (.bool x3)).block b4 (Array.getElem?_eq_some_iff.1 j4).1 (fun e => by injection e with e; exact hne4 e)).trans j4
            have i8 := ((grownBy_at w7 b5 k (.bool x3)).block b8 (Array.getElem?_eq_some_iff.1 j8).1 (fun e => by injection e with e; exact hn85 e)).trans j8
            have hl8 := hl7.boxSet j5 (by decide) (by decide) (by decide) k (.bool x3)
            have h0' := h07.boxSet j5 (by decide) (by decide) (by decide) k (.bool x3)
            have hE8 := hE7.belowB hlE ((Below.refl _ w7).setCell (p := ⟨b5, k, none⟩) hw5 (.bool x3))
            have hB8 := hB7.setCell (p := ⟨b5, k, none⟩) hw5 (.bool x3)
            rw [bcl_set first k hkn] at i5
            clear j4 j5 j8 hl7 h07 hE7 hB7
            refine wpAnyH_takeL (i := 10) (v := ?vhy20) rfl (by kernel_rfl) (by kernel_rfl) (by kernel_rfl) (fun _ _ _ h => h) (Or.inl ⟨by rfl, ?hy20⟩) (by assumption) ?rhy20
            case hy20 => ((intro w hSw; (try dsimp only at hSw); go_simp); try with_reducible rfl)
            try simp only [Act.put, List.setIfInBounds_toArray, List.set_cons_zero, List.set_cons_succ]
            refine wpAnyH_ready (rs := [11]) (by kernel_rfl) (by simp) ?_
            refine AllReadyH.consL (i := 11) rfl (fun K hK => ?_) AllReadyH.nil
            go_simp
            refine hK.out _ _ (box5 i8) (fun hHeld => ?_)
            clear hK c5 f5
            refine wpAnyH_done (by kernel_rfl) ?_ _
            refine NoPanic.normal ?_
            clear hHeld i8
            have hP6 : PH w (w7.setCell ⟨b5, k, none⟩ (.bool x3)) w.heap.size (i + 1) r6 now zs' b4 b5 (cameN came (k : Int) i) (firstN first (k : Int) x3) := ⟨hl8, hE8, hB8, hse, i4, i5⟩
            clear hl8 hE8 hB8 hse i4 i5
            generalize (w7.setCell ⟨b5, k, none⟩ (.bool x3)) = w8 at *
            have hse := Lib.hid (Settled_any hP6.lb hP6.hi.iz h0' hz0 _ _ hgd)
            go_wp2_with (first | (go_at_call 12; refine (hnum.out _ _).mono ?_; rintro e w1 ⟨rfl, rfl⟩) | (refine wpList_load_row rfl 27 _ rfl b4 rfl 27 _ (0, 0) _ hP6.k4 Tryd.underlying27 rfl (icl_info _) ?_) | (refine wpList_load_row rfl 28 _ rfl b5 rfl 28 _ (0, 0) _ hP6.k5 Tryd.underlying28 rfl (bcl_info _) ?_))
            refine hse.out.mono ?_
            rintro e w9 ⟨rfl, hb9⟩
            have hP9 := Lib.hid (hP6.more hb9)
            clear hse hP6 h0' hgd hb9
            go_wp2
            exact ⟨⟨i + 1, _, _, _, _, _, by simp, by omega, hP9.out⟩, by simp [intOf]; omega⟩
          · have hP6 := hP4.kb hlE hk6 hl6 hse
            have h0' := LB.kbC hP4 hk6 h04 hsep
            have hqe : (e1 == 0) = false := beq_false_of_ne hne
            clear hse hP4 h04 hl6 hk6
            have cx := box5 k8
            have hse := Lib.hid (Settled_any hP6.lb hP6.hi.iz h0' hz0 _ _ hgd)
            go_wp2_with (first | (go_at_call 12; refine (hnum.out _ _).mono ?_; rintro e w1 ⟨rfl, rfl⟩) | (refine wpList_load_row rfl 27 _ rfl b4 rfl 27 _ (0, 0) _ hP6.k4 Tryd.underlying27 rfl (icl_info _) ?_) | (refine wpList_load_row rfl 28 _ rfl b5 rfl 28 _ (0, 0) _ hP6.k5 Tryd.underlying28 rfl (bcl_info _) ?_))
            refine hse.out.mono ?_
            rintro e w9 ⟨rfl, hb9⟩
            have hP9 := Lib.hid (hP6.more hb9)
            clear hse hP6 h0' hgd hb9
            go_wp2
            exact ⟨⟨i + 1, _, _, _, _, _, by simp, by omega, hP9.out⟩, by simp [intOf]; omega⟩
        · skip
          have hca := Lib.hid (Ask_B hP4.lb hP4.env hP4.hi.iz x1 x2 x3 x6 x7 x8 x5 (hxx.out _ hP4.bel) (by omega))
          have hse := hP4.hi.ask (by omega) x1 x2 x3 x5
          generalize askF now x1 x2 x3 x5 zs = q at *
          obtain ⟨zs', bb, e1⟩ := q
          simp only at hca hse
          go_wp2_with fail
          refine hca.out.mono ?_
          rintro e w6 ⟨rfl, r6, hl6, -, hk6⟩
          clear hca
          replace k8 := hP4.lb.keepsH hk6 k8 (by decide) (by decide)
          rcases hse with ⟨rfl, hs1, hs2, hse, hgd⟩ | ⟨hne, hse, hgd⟩
          · obtain ⟨k, hk⟩ : ∃ k : Nat, x1 = (k : Int) := ⟨x1.toNat, by omega⟩
            subst hk
            have hk17 : (k : Int) < 17 := by omega
            have hkn : k < 17 := by omega
            have d1 : decide (1 ≤ (k : Int)) = true := by simp; omega
            have d2 : decide ((k : Int) ≤ 16) = true := by simp; omega
            have hwi : IntKind.i64.wrap ((i : Int) + 1) = (i : Int) + 1 := by rw [IntKind.wrap_i64]; omega
            have h0' := LB.kbC hP4 hk6 h04 hsep
            have k4 := hP4.lb.keepsH hk6 hP4.k4 (by decide) (by decide)
            have k5 := hP4.lb.keepsH hk6 hP4.k5 (by decide) (by decide)
            have hEw := hP4.env.belowB hlE (hk6.toBase hP4.lb)
            have hBw := hP4.bel.trans (hk6.toBase hP4.lb)
            have hne4 : b4 ≠ b5 := by have := hb5e.out; omega
            have hn84 : b8 ≠ b4 := fun e => by subst e; rw [k8] at k4; injection k4 with k4; injection k4 with _ k4; exact absurd k4 (by decide)
            have hn85 : b8 ≠ b5 := fun e => by subst e; rw [k8] at k5; injection k5 with k5; injection k5 with _ k5; exact absurd k5 (by decide)
            have hw5 : w.heap.size ≤ b5 := by have := hb5e.out; omega
            clear hP4 h04 hk6
            have cx := box5 k8
            go_upto_region 20 with (go_at_call 12; refine (hnum.out _ _).mono ?_; rintro e w1 ⟨rfl, rfl⟩)
            refine wp_region_noPanic ?_
            refine wp_region_held_drew (S := fun W => (W.cell? ⟨b8, 0, none⟩ = some (.int .i64 2) ∧ W.cell? ⟨b8, 1, none⟩ = some (.int .i64 (k : Int)) ∧ W.cell? ⟨b8, 2, none⟩ = some (.int .i64 x2) ∧ W.cell? ⟨b8, 3, none⟩ = some (.bool x3) ∧ W.cell? ⟨b8, 4, none⟩ = some (.slice x6 x7 x8))) (by kernel_rfl) cx (fun hHeld => ?_)
            have c4 : w6.drew.cell? ⟨b4, k, none⟩ = some (.int .i64 (came k)) := by
              rw [World.cell?, show w6.drew.heap[b4]? = _ from k4]
              simpa using icl_at came k hkn
            have f4 : w6.drew.frozen? ⟨b4, k, none⟩ = false := by simp [World.frozen?, show w6.drew.heap[b4]? = _ from k4]
            have j4 : (w6.drew.setCell ⟨b4, k, none⟩ (.int .i64 ((i : Int) + 1))).heap[b4]? = _ := heap_setC (.int .i64 ((i : Int) + 1)) (show w6.drew.heap[b4]? = _ from k4)
            have j5 := ((grownBy_at w6.drew b4 k (.int .i64 ((i : Int) + 1))).block b5 (Array.getElem?_eq_some_iff.1 k5).1 (fun e => by injection e with e; exact hne4 e.symm)).trans k5
            have j8 := ((grownBy_at w6.drew b4 k (.int .i64 ((i : Int) + 1))).block b8 (Array.getElem?_eq_some_iff.1 k8).1 (fun e => by injection e with e; exact hn84 e)).trans k8
            have hl7 := hl6.boxSet k4 (by decide) (by decide) (by decide) k (.int .i64 ((i : Int) + 1))
            have h07 := h0'.boxSet k4 (by decide) (by decide) (by decide) k (.int .i64 ((i : Int) + 1))
            have hE7 := hEw.belowB hlE ((Below.refl _ w6).setCell (p := ⟨b4, k, none⟩) (Nat.le_of_lt hbb) (.int .i64 ((i : Int) + 1)))
            have hB7 := hBw.setCell (p := ⟨b4, k, none⟩) (Nat.le_of_lt hbb) (.int .i64 ((i : Int) + 1))
            rw [icl_set came k hkn] at j4
            clear k4 k5 k8 cx hl6 h0' hEw hBw
            refine wpAnyH_takeL (i := 0) (v := ?vhy21) rfl (by kernel_rfl) (by kernel_rfl) (by kernel_rfl) (fun _ _ _ h => h) (Or.inl ⟨by rfl, ?hy21⟩) (by assumption) ?rhy21
            case hy21 => ((intro w hSw; (try dsimp only at hSw); go_simp); try with_reducible rfl)
            try simp only [Act.put, List.setIfInBounds_toArray, List.set_cons_zero, List.set_cons_succ]
            refine wpAnyH_takeL (i := 1) (v := ?vhy22) rfl (by kernel_rfl) (by kernel_rfl) (by kernel_rfl) (fun _ _ _ h => h) (Or.inl ⟨by rfl, ?hy22⟩) (by assumption) ?rhy22
            case hy22 => ((intro w hSw; (try dsimp only at hSw); go_simp); try with_reducible rfl)
            try simp only [Act.put, List.setIfInBounds_toArray, List.set_cons_zero, List.set_cons_succ]
            refine wpAnyH_takeL (i := 2) (v := ?vhy23) rfl (by kernel_rfl) (by kernel_rfl) (by kernel_rfl) (fun _ _ _ h => h) (Or.inl ⟨by rfl, ?hy23⟩) (by assumption) ?rhy23
            case hy23 => ((intro w hSw; (try dsimp only at hSw); go_simp); try with_reducible rfl)
            try simp only [Act.put, List.setIfInBounds_toArray, List.set_cons_zero, List.set_cons_succ]
            refine wpAnyH_takeL (i := 3) (v := ?vhy24) rfl (by kernel_rfl) (by kernel_rfl) (by kernel_rfl) (fun _ _ _ h => h) (Or.inl ⟨by rfl, ?hy24⟩) (by assumption) ?rhy24
            case hy24 => ((intro w hSw; (try dsimp only at hSw); go_simp); try with_reducible rfl)
            try simp only [Act.put, List.setIfInBounds_toArray, List.set_cons_zero, List.set_cons_succ]
            refine wpAnyH_takeL (i := 4) (v := ?vhy25) rfl (by kernel_rfl) (by kernel_rfl) (by kernel_rfl) (fun _ _ _ h => h) (Or.inl ⟨by rfl, ?hy25⟩) (by assumption) ?rhy25
            case hy25 => ((intro w hSw; (try dsimp only at hSw); go_simp); try with_reducible rfl)
            try simp only [Act.put, List.setIfInBounds_toArray, List.set_cons_zero, List.set_cons_succ]
            refine wpAnyH_takeL (i := 5) (v := ?vhy26) rfl (by kernel_rfl) (by kernel_rfl) (by kernel_rfl) (fun _ _ _ h => h) (Or.inl ⟨by rfl, ?hy26⟩) (by assumption) ?rhy26
            case hy26 => ((intro w hSw; (try dsimp only at hSw); go_simp); try with_reducible rfl)
            try simp only [Act.put, List.setIfInBounds_toArray, List.set_cons_zero, List.set_cons_succ]
            refine wpAnyH_takeL (i := 6) (v := ?vhy27) rfl (by kernel_rfl) (by kernel_rfl) (by kernel_rfl) (fun _ _ _ h => h) (Or.inl ⟨by rfl, ?hy27⟩) (by assumption) ?rhy27
            case hy27 => ((intro w hSw; (try dsimp only at hSw); go_simp); try with_reducible rfl)
            try simp only [Act.put, List.setIfInBounds_toArray, List.set_cons_zero, List.set_cons_succ]
            refine wpAnyH_takeL (i := 7) (v := ?vhy28) rfl (by kernel_rfl) (by kernel_rfl) (by kernel_rfl) (fun _ _ _ h => h) (Or.inl ⟨by rfl, ?hy28⟩) (by assumption) ?rhy28
            case hy28 => ((intro w hSw; (try dsimp only at hSw); go_simp); try with_reducible rfl)
            try simp only [Act.put, List.setIfInBounds_toArray, List.set_cons_zero, List.set_cons_succ]
            refine wpAnyH_takeL (i := 8) (v := ?vhy29) rfl (by kernel_rfl) (by kernel_rfl) (by kernel_rfl) (fun _ _ _ h => h) (Or.inl ⟨by rfl, ?hy29⟩) (by assumption) ?rhy29
            case hy29 => ((intro w hSw; (try dsimp only at hSw); go_simp); try with_reducible rfl)
            try simp only [Act.put, List.setIfInBounds_toArray, List.set_cons_zero, List.set_cons_succ]
            refine wpAnyH_ready (rs := [9]) (by kernel_rfl) (by simp) ?_
            refine AllReadyH.consL (i := 9) rfl (fun K hK => ?_) AllReadyH.nil
            go_simp
            replace hl7 : LB (w6.setCell ⟨b4, k, none⟩ (.int .i64 ((i : Int) + 1))).drew w.heap.size w.heap.size r6 now zs' := hl7.below (Below.refl _ _).drew
            replace h07 : LB (w6.setCell ⟨b4, k, none⟩ (.int .i64 ((i : Int) + 1))).drew w.heap.size B2 r2 now zs := h07.below (Below.refl _ _).drew
            replace hE7 : Env (w6.setCell ⟨b4, k, none⟩ (.int .i64 ((i : Int) + 1))).drew := hE7.below (Below.refl _ _).drew
            replace hB7 : Below w.heap.size w (w6.setCell ⟨b4, k, none⟩ (.int .i64 ((i : Int) + 1))).drew := hB7.drew
            replace j4 : (w6.setCell ⟨b4, k, none⟩ (.int .i64 ((i : Int) + 1))).drew.heap[b4]? = some (.cells (icl fun j => if j = k then ((i : Int) + 1) else came j) 27 (0, 0)) := j4
            replace j5 : (w6.setCell ⟨b4, k, none⟩ (.int .i64 ((i : Int) + 1))).drew.heap[b5]? = some (.cells (bcl first) 28 (0, 0)) := j5
            replace j8 : (w6.setCell ⟨b4, k, none⟩ (.int .i64 ((i : Int) + 1))).drew.heap[b8]? = some (.cells #[.int .i64 2, .int .i64 (k : Int), .int .i64 x2, .bool x3, .slice x6 x7 x8] 31 (0, 0)) := j8
            refine hK.out _ _ (box5 j8) (fun hHeld => ?_)
            clear hK c4 f4
            generalize (w6.setCell ⟨b4, k, none⟩ (.int .i64 ((i : Int) + 1))).drew = w7 at *
            have c5 : w7.cell? ⟨b5, k, none⟩ = some (.bool (first k)) := by
              rw [World.cell?, j5]
              simpa using bcl_at first k hkn
            have f5 : w7.frozen? ⟨b5, k, none⟩ = false := by simp [World.frozen?, j5]
            have i5 := heap_setC (j := k) (.bool x3) j5
            have i4 := ((grownBy_at w7 b5 k (.bool x3)).block b4 (Array.getElem?_eq_some_iff.1 j4).1 (fun e => by injection e with e; exact hne4 e)).trans j4
            have i8 := ((grownBy_at w7 b5 k (.bool x3)).block b8 (Array.getElem?_eq_some_iff.1 j8).1 (fun e => by injection e with e; exact hn85 e)).trans j8
            have hl8 := hl7.boxSet j5 (by decide) (by decide) (by decide) k (.bool x3)
            have h0' := h07.boxSet j5 (by decide) (by decide) (by decide) k (.bool x3)
            have hE8 := hE7.belowB hlE ((Below.refl _ w7).setCell (p := ⟨b5, k, none⟩) hw5 (.bool x3))
            have hB8 := hB7.setCell (p := ⟨b5, k, none⟩) hw5 (.bool x3)
            rw [bcl_set first k hkn] at i5
            clear j4 j5 j8 hl7 h07 hE7 hB7
            refine wpAnyH_takeL (i := 10) (v := ?vhy30) rfl (by kernel_rfl) (by kernel_rfl) (by kernel_rfl) (fun _ _ _ h => h) (Or.inl ⟨by rfl, ?hy30⟩) (by assumption) ?rhy30
            case hy30 => ((intro w hSw; (try dsimp only at hSw); go_simp); try with_reducible rfl)
            try simp only [Act.put, List.setIfInBounds_toArray, List.set_cons_zero, List.set_cons_succ]
            refine wpAnyH_ready (rs := [11]) (by kernel_rfl) (by simp) ?_
            refine AllReadyH.consL (i := 11) rfl (fun K hK => ?_) AllReadyH.nil
            go_simp
            refine hK.out _ _ (box5 i8) (fun hHeld => ?_)
            clear hK c5 f5
            refine wpAnyH_done (by kernel_rfl) ?_ _
            refine NoPanic.normal ?_
            clear hHeld i8
            have hP6 : PH w (w7.setCell ⟨b5, k, none⟩ (.bool x3)) w.heap.size (i + 1) r6 now zs' b4 b5 (cameN came (k : Int) i) (firstN first (k : Int) x3) := ⟨hl8, hE8, hB8, hse, i4, i5⟩
            clear hl8 hE8 hB8 hse i4 i5
            generalize (w7.setCell ⟨b5, k, none⟩ (.bool x3)) = w8 at *
            have hse := Lib.hid (Settled_any hP6.lb hP6.hi.iz h0' hz0 _ _ hgd)
            go_wp2_with (first | (go_at_call 12; refine (hnum.out _ _).mono ?_; rintro e w1 ⟨rfl, rfl⟩) | (refine wpList_load_row rfl 27 _ rfl b4 rfl 27 _ (0, 0) _ hP6.k4 Tryd.underlying27 rfl (icl_info _) ?_) | (refine wpList_load_row rfl 28 _ rfl b5 rfl 28 _ (0, 0) _ hP6.k5 Tryd.underlying28 rfl (bcl_info _) ?_))
            refine hse.out.mono ?_
            rintro e w9 ⟨rfl, hb9⟩
            have hP9 := Lib.hid (hP6.more hb9)
            clear hse hP6 h0' hgd hb9
            go_wp2
            exact ⟨⟨i + 1, _, _, _, _, _, by simp, by omega, hP9.out⟩, by simp [intOf]; omega⟩
          · have hP6 := hP4.kb hlE hk6 hl6 hse
            have h0' := LB.kbC hP4 hk6 h04 hsep
            have hqe : (e1 == 0) = false := beq_false_of_ne hne
            clear hse hP4 h04 hl6 hk6
            have cx := box5 k8
            have hse := Lib.hid (Settled_any hP6.lb hP6.hi.iz h0' hz0 _ _ hgd)
            go_wp2_with (first | (go_at_call 12; refine (hnum.out _ _).mono ?_; rintro e w1 ⟨rfl, rfl⟩) | (refine wpList_load_row rfl 27 _ rfl b4 rfl 27 _ (0, 0) _ hP6.k4 Tryd.underlying27 rfl (icl_info _) ?_) | (refine wpList_load_row rfl 28 _ rfl b5 rfl 28 _ (0, 0) _ hP6.k5 Tryd.underlying28 rfl (bcl_info _) ?_))
            refine hse.out.mono ?_
            rintro e w9 ⟨rfl, hb9⟩
            have hP9 := Lib.hid (hP6.more hb9)
            clear hse hP6 h0' hgd hb9
            go_wp2
            exact ⟨⟨i + 1, _, _, _, _, _, by simp, by omega, hP9.out⟩, by simp [intOf]; omega⟩
        · skip
          have hca := Lib.hid (Ask_B hP4.lb hP4.env hP4.hi.iz x1 x2 x3 x6 x7 x8 x5 (hxx.out _ hP4.bel) (by omega))
          have hse := hP4.hi.ask (by omega) x1 x2 x3 x5
          generalize askF now x1 x2 x3 x5 zs = q at *
          obtain ⟨zs', bb, e1⟩ := q
          simp only at hca hse
          go_wp2_with fail
          refine hca.out.mono ?_
          rintro e w6 ⟨rfl, r6, hl6, -, hk6⟩
          clear hca
          replace k8 := hP4.lb.keepsH hk6 k8 (by decide) (by decide)
          rcases hse with ⟨rfl, hs1, hs2, hse, hgd⟩ | ⟨hne, hse, hgd⟩
          · obtain ⟨k, hk⟩ : ∃ k : Nat, x1 = (k : Int) := ⟨x1.toNat, by omega⟩
            subst hk
            have hk17 : (k : Int) < 17 := by omega
            have hkn : k < 17 := by omega
            have d1 : decide (1 ≤ (k : Int)) = true := by simp; omega
            have d2 : decide ((k : Int) ≤ 16) = true := by simp; omega
            have hwi : IntKind.i64.wrap ((i : Int) + 1) = (i : Int) + 1 := by rw [IntKind.wrap_i64]; omega
            have h0' := LB.kbC hP4 hk6 h04 hsep
            have k4 := hP4.lb.keepsH hk6 hP4.k4 (by decide) (by decide)
            have k5 := hP4.lb.keepsH hk6 hP4.k5 (by decide) (by decide)
            have hEw := hP4.env.belowB hlE (hk6.toBase hP4.lb)
            have hBw := hP4.bel.trans (hk6.toBase hP4.lb)
            have hne4 : b4 ≠ b5 := by have := hb5e.out; omega
            have hn84 : b8 ≠ b4 := fun e => by subst e; rw [k8] at k4; injection k4 with k4; injection k4 with _ k4; exact absurd k4 (by decide)
            have hn85 : b8 ≠ b5 := fun e => by subst e; rw [k8] at k5; injection k5 with k5; injection k5 with _ k5; exact absurd k5 (by decide)
            have hw5 : w.heap.size ≤ b5 := by have := hb5e.out; omega
            clear hP4 h04 hk6
            have cx := box5 k8
            go_upto_region 20 with (go_at_call 12; refine (hnum.out _ _).mono ?_; rintro e w1 ⟨rfl, rfl⟩)
            refine wp_region_noPanic ?_
            refine wp_region_held_drew (S := fun W => (W.cell? ⟨b8, 0, none⟩ = some (.int .i64 3) ∧ W.cell? ⟨b8, 1, none⟩ = some (.int .i64 (k : Int)) ∧ W.cell? ⟨b8, 2, none⟩ = some (.int .i64 x2) ∧ W.cell? ⟨b8, 3, none⟩ = some (.bool x3) ∧ W.cell? ⟨b8, 4, none⟩ = some (.slice x6 x7 x8))) (by kernel_rfl) cx (fun hHeld => ?_)
            have c4 : w6.drew.cell? ⟨b4, k, none⟩ = some (.int .i64 (came k)) := by
              rw [World.cell?, show w6.drew.heap[b4]? = _ from k4]
              simpa using icl_at came k hkn
            have f4 : w6.drew.frozen? ⟨b4, k, none⟩ = false := by simp [World.frozen?, show w6.drew.heap[b4]? = _ from k4]
            have j4 : (w6.drew.setCell ⟨b4, k, none⟩ (.int .i64 ((i : Int) + 1))).heap[b4]? = _ := heap_setC (.int .i64 ((i : Int) + 1)) (show w6.drew.heap[b4]? = _ from k4)
            have j5 := ((grownBy_at w6.drew b4 k (.int .i64 ((i : Int) + 1))).block b5 (Array.getElem?_eq_some_iff.1 k5).1 (fun e => by injection e with e; exact hne4 e.symm)).trans k5
            have j8 := ((grownBy_at w6.drew b4 k (.int .i64 ((i : Int) + 1))).block b8 (Array.getElem?_eq_some_iff.1 k8).1 (fun e => by injection e with e; exact hn84 e)).trans k8
            have hl7 := hl6.boxSet k4 (by decide) (by decide) (by decide) k (.int .i64 ((i : Int) + 1))
            have h07 := h0'.boxSet k4 (by decide) (by decide) (by decide) k (.int .i64 ((i : Int) + 1))
            have hE7 := hEw.belowB hlE ((Below.refl _ w6).setCell (p := ⟨b4, k, none⟩) (Nat.le_of_lt hbb) (.int .i64 ((i : Int) + 1)))
            have hB7 := hBw.setCell (p := ⟨b4, k, none⟩) (Nat.le_of_lt hbb) (.int .i64 ((i : Int) + 1))
            rw [icl_set came k hkn] at j4
            clear k4 k5 k8 cx hl6 h0' hEw hBw
            refine wpAnyH_takeL (i := 0) (v := ?vhy31) rfl (by kernel_rfl) (by kernel_rfl) (by kernel_rfl) (fun _ _ _ h => h) (Or.inl ⟨by rfl, ?hy31⟩) (by assumption) ?rhy31
            case hy31 => ((intro w hSw; (try dsimp only at hSw); go_simp); try with_reducible rfl)
            try simp only [Act.put, List.setIfInBounds_toArray, List.set_cons_zero, List.set_cons_succ]
            refine wpAnyH_takeL (i := 1) (v := ?vhy32) rfl (by kernel_rfl) (by kernel_rfl) (by kernel_rfl) (fun _ _ _ h => h) (Or.inl ⟨by rfl, ?hy32⟩) (by assumption) ?rhy32
            case hy32 => ((intro w hSw; (try dsimp only at hSw); go_simp); try with_reducible rfl)
            try simp only [Act.put, List.setIfInBounds_toArray, List.set_cons_zero, List.set_cons_succ]
            refine wpAnyH_takeL (i := 2) (v := ?vhy33) rfl (by kernel_rfl) (by kernel_rfl) (by kernel_rfl) (fun _ _ _ h => h) (Or.inl ⟨by rfl, ?hy33⟩) (by assumption) ?rhy33
            case hy33 => ((intro w hSw; (try dsimp only at hSw); go_simp); try with_reducible rfl)
            try simp only [Act.put, List.setIfInBounds_toArray, List.set_cons_zero, List.set_cons_succ]
            refine wpAnyH_takeL (i := 3) (v := ?vhy34) rfl (by kernel_rfl) (by kernel_rfl) (by kernel_rfl) (fun _ _ _ h => h) (Or.inl ⟨by rfl, ?hy34⟩) (by assumption) ?rhy34
            case hy34 => ((intro w hSw; (try dsimp only at hSw); go_simp); try with_reducible rfl)
            try simp only [Act.put, List.setIfInBounds_toArray, List.set_cons_zero, List.set_cons_succ]
            refine wpAnyH_takeL (i := 4) (v := ?vhy35) rfl (by kernel_rfl) (by kernel_rfl) (by kernel_rfl) (fun _ _ _ h => h) (Or.inl ⟨by rfl, ?hy35⟩) (by assumption) ?rhy35
            case hy35 => ((intro w hSw; (try dsimp only at hSw); go_simp); try with_reducible rfl)
            try simp only [Act.put, List.setIfInBounds_toArray, List.set_cons_zero, List.set_cons_succ]
            refine wpAnyH_takeL (i := 5) (v := ?vhy36) rfl (by kernel_rfl) (by kernel_rfl) (by kernel_rfl) (fun _ _ _ h => h) (Or.inl ⟨by rfl, ?hy36⟩) (by assumption) ?rhy36
            case hy36 => ((intro w hSw; (try dsimp only at hSw); go_simp); try with_reducible rfl)
            try simp only [Act.put, List.setIfInBounds_toArray, List.set_cons_zero, List.set_cons_succ]
            refine wpAnyH_takeL (i := 6) (v := ?vhy37) rfl (by kernel_rfl) (by kernel_rfl) (by kernel_rfl) (fun _ _ _ h => h) (Or.inl ⟨by rfl, ?hy37⟩) (by assumption) ?rhy37
            case hy37 => ((intro w hSw; (try dsimp only at hSw); go_simp); try with_reducible rfl)
            try simp only [Act.put, List.setIfInBounds_toArray, List.set_cons_zero, List.set_cons_succ]
            refine wpAnyH_takeL (i := 7) (v := ?vhy38) rfl (by kernel_rfl) (by kernel_rfl) (by kernel_rfl) (fun _ _ _ h => h) (Or.inl ⟨by rfl, ?hy38⟩) (by assumption) ?rhy38
            case hy38 => ((intro w hSw; (try dsimp only at hSw); go_simp); try with_reducible rfl)
            try simp only [Act.put, List.setIfInBounds_toArray, List.set_cons_zero, List.set_cons_succ]
            refine wpAnyH_takeL (i := 8) (v := ?vhy39) rfl (by kernel_rfl) (by kernel_rfl) (by kernel_rfl) (fun _ _ _ h => h) (Or.inl ⟨by rfl, ?hy39⟩) (by assumption) ?rhy39
            case hy39 => ((intro w hSw; (try dsimp only at hSw); go_simp); try with_reducible rfl)
            try simp only [Act.put, List.setIfInBounds_toArray, List.set_cons_zero, List.set_cons_succ]
            refine wpAnyH_ready (rs := [9]) (by kernel_rfl) (by simp) ?_
            refine AllReadyH.consL (i := 9) rfl (fun K hK => ?_) AllReadyH.nil
            go_simp
            replace hl7 : LB (w6.setCell ⟨b4, k, none⟩ (.int .i64 ((i : Int) + 1))).drew w.heap.size w.heap.size r6 now zs' := hl7.below (Below.refl _ _).drew
            replace h07 : LB (w6.setCell ⟨b4, k, none⟩ (.int .i64 ((i : Int) + 1))).drew w.heap.size B2 r2 now zs := h07.below (Below.refl _ _).drew
            replace hE7 : Env (w6.setCell ⟨b4, k, none⟩ (.int .i64 ((i : Int) + 1))).drew := hE7.below (Below.refl _ _).drew
            replace hB7 : Below w.heap.size w (w6.setCell ⟨b4, k, none⟩ (.int .i64 ((i : Int) + 1))).drew := hB7.drew
            replace j4 : (w6.setCell ⟨b4, k, none⟩ (.int .i64 ((i : Int) + 1))).drew.heap[b4]? = some (.cells (icl fun j => if j = k then ((i : Int) + 1) else came j) 27 (0, 0)) := j4
            replace j5 : (w6.setCell ⟨b4, k, none⟩ (.int .i64 ((i : Int) + 1))).drew.heap[b5]? = some (.cells (bcl first) 28 (0, 0)) := j5
            replace j8 : (w6.setCell ⟨b4, k, none⟩ (.int .i64 ((i : Int) + 1))).drew.heap[b8]? = some (.cells #[.int .i64 3, .int .i64 (k : Int), .int .i64 x2, .bool x3, .slice x6 x7 x8] 31 (0, 0)) := j8
            refine hK.out _ _ (box5 j8) (fun hHeld => ?_)
            clear hK c4 f4
            generalize (w6.setCell ⟨b4, k, none⟩ (.int .i64 ((i : Int) + 1))).drew = w7 at *
            have c5 : w7.cell? ⟨b5, k, none⟩ = some (.bool (first k)) := by
              rw [World.cell?, j5]
              simpa using bcl_at first k hkn
            have f5 : w7.frozen? ⟨b5, k, none⟩ = false := by simp [World.frozen?, j5]
            have i5 := heap_setC (j := k) (.bool x3) j5
            have i4 := ((grownBy_at w7 b5 k (.bool x3)).block b4 (Array.getElem?_eq_some_iff.1 j4).1 (fun e => by injection e with e; exact hne4 e)).trans j4
            have i8 := ((grownBy_at w7 b5 k (.bool x3)).block b8 (Array.getElem?_eq_some_iff.1 j8).1 (fun e => by injection e with e; exact hn85 e)).trans j8
            have hl8 := hl7.boxSet j5 (by decide) (by decide) (by decide) k (.bool x3)
            have h0' := h07.boxSet j5 (by decide) (by decide) (by decide) k (.bool x3)
            have hE8 := hE7.belowB hlE ((Below.refl _ w7).setCell (p := ⟨b5, k, none⟩) hw5 (.bool x3))
            have hB8 := hB7.setCell (p := ⟨b5, k, none⟩) hw5 (.bool x3)
            rw [bcl_set first k hkn] at i5
            clear j4 j5 j8 hl7 h07 hE7 hB7
            refine wpAnyH_takeL (i := 10) (v := ?vhy40) rfl (by kernel_rfl) (by kernel_rfl) (by kernel_rfl) (fun _ _ _ h => h) (Or.inl ⟨by rfl, ?hy40⟩) (by assumption) ?rhy40
            case hy40 => ((intro w hSw; (try dsimp only at hSw); go_simp); try with_reducible rfl)
            try simp only [Act.put, List.setIfInBounds_toArray, List.set_cons_zero, List.set_cons_succ]
            refine wpAnyH_ready (rs := [11]) (by kernel_rfl) (by simp) ?_
            refine AllReadyH.consL (i := 11) rfl (fun K hK => ?_) AllReadyH.nil
            go_simp
            refine hK.out _ _ (box5 i8) (fun hHeld => ?_)
            clear hK c5 f5
            refine wpAnyH_done (by kernel_rfl) ?_ _
            refine NoPanic.normal ?_
            clear hHeld i8
            have hP6 : PH w (w7.setCell ⟨b5, k, none⟩ (.bool x3)) w.heap.size (i + 1) r6 now zs' b4 b5 (cameN came (k : Int) i) (firstN first (k : Int) x3) := ⟨hl8, hE8, hB8, hse, i4, i5⟩
            clear hl8 hE8 hB8 hse i4 i5
            generalize (w7.setCell ⟨b5, k, none⟩ (.bool x3)) = w8 at *
            have hse := Lib.hid (Settled_any hP6.lb hP6.hi.iz h0' hz0 _ _ hgd)
            go_wp2_with (first | (go_at_call 12; refine (hnum.out _ _).mono ?_; rintro e w1 ⟨rfl, rfl⟩) | (refine wpList_load_row rfl 27 _ rfl b4 rfl 27 _ (0, 0) _ hP6.k4 Tryd.underlying27 rfl (icl_info _) ?_) | (refine wpList_load_row rfl 28 _ rfl b5 rfl 28 _ (0, 0) _ hP6.k5 Tryd.underlying28 rfl (bcl_info _) ?_))
            refine hse.out.mono ?_
            rintro e w9 ⟨rfl, hb9⟩
            have hP9 := Lib.hid (hP6.more hb9)
            clear hse hP6 h0' hgd hb9
            go_wp2
            exact ⟨⟨i + 1, _, _, _, _, _, by simp, by omega, hP9.out⟩, by simp [intOf]; omega⟩
          · have hP6 := hP4.kb hlE hk6 hl6 hse
            have h0' := LB.kbC hP4 hk6 h04 hsep
            have hqe : (e1 == 0) = false := beq_false_of_ne hne
            clear hse hP4 h04 hl6 hk6
            have cx := box5 k8
            have hse := Lib.hid (Settled_any hP6.lb hP6.hi.iz h0' hz0 _ _ hgd)
            go_wp2_with (first | (go_at_call 12; refine (hnum.out _ _).mono ?_; rintro e w1 ⟨rfl, rfl⟩) | (refine wpList_load_row rfl 27 _ rfl b4 rfl 27 _ (0, 0) _ hP6.k4 Tryd.underlying27 rfl (icl_info _) ?_) | (refine wpList_load_row rfl 28 _ rfl b5 rfl 28 _ (0, 0) _ hP6.k5 Tryd.underlying28 rfl (bcl_info _) ?_))
            refine hse.out.mono ?_
            rintro e w9 ⟨rfl, hb9⟩
            have hP9 := Lib.hid (hP6.more hb9)
            clear hse hP6 h0' hgd hb9
            go_wp2
            exact ⟨⟨i + 1, _, _, _, _, _, by simp, by omega, hP9.out⟩, by simp [intOf]; omega⟩
      · by_cases hb : x0 = 4 ∨ x0 = 5
        · rcases hb with rfl | rfl
          · skip
            have hca := Lib.hid (Rel_B hP4.lb hP4.env hP4.hi.iz x1)
            go_wp2_with fail
            refine hca.out.mono ?_
            rintro e w6 ⟨R6, m6, d6, rfl, -, r6, hl6, -, hk6⟩
            have hse := hP4.hi.rel (by omega) x1
            have hP6 := hP4.kb hlE hk6 hl6 hse.1
            have h0' := LB.kbC hP4 hk6 h04 hsep
            have hgd := hse.2
            clear hse hP4 h04 hl6 hk6 hca
            have hse := Lib.hid (Settled_any hP6.lb hP6.hi.iz h0' hz0 _ _ hgd)
            go_wp2_with (first | (go_at_call 12; refine (hnum.out _ _).mono ?_; rintro e w1 ⟨rfl, rfl⟩) | (refine wpList_load_row rfl 27 _ rfl b4 rfl 27 _ (0, 0) _ hP6.k4 Tryd.underlying27 rfl (icl_info _) ?_) | (refine wpList_load_row rfl 28 _ rfl b5 rfl 28 _ (0, 0) _ hP6.k5 Tryd.underlying28 rfl (bcl_info _) ?_))
            refine hse.out.mono ?_
            rintro e w9 ⟨rfl, hb9⟩
            have hP9 := Lib.hid (hP6.more hb9)
            clear hse hP6 h0' hgd hb9
            go_wp2
            exact ⟨⟨i + 1, _, _, _, _, _, by simp, by omega, hP9.out⟩, by simp [intOf]; omega⟩
          · skip
            have hca := Lib.hid (Rel_B hP4.lb hP4.env hP4.hi.iz x1)
            go_wp2_with fail
            refine hca.out.mono ?_
            rintro e w6 ⟨R6, m6, d6, rfl, -, r6, hl6, -, hk6⟩
            have hse := hP4.hi.rel (by omega) x1
            have hP6 := hP4.kb hlE hk6 hl6 hse.1
            have h0' := LB.kbC hP4 hk6 h04 hsep
            have hgd := hse.2
            clear hse hP4 h04 hl6 hk6 hca
            have hse := Lib.hid (Settled_any hP6.lb hP6.hi.iz h0' hz0 _ _ hgd)
            go_wp2_with (first | (go_at_call 12; refine (hnum.out _ _).mono ?_; rintro e w1 ⟨rfl, rfl⟩) | (refine wpList_load_row rfl 27 _ rfl b4 rfl 27 _ (0, 0) _ hP6.k4 Tryd.underlying27 rfl (icl_info _) ?_) | (refine wpList_load_row rfl 28 _ rfl b5 rfl 28 _ (0, 0) _ hP6.k5 Tryd.underlying28 rfl (bcl_info _) ?_))
            refine hse.out.mono ?_
            rintro e w9 ⟨rfl, hb9⟩
            have hP9 := Lib.hid (hP6.more hb9)
            clear hse hP6 h0' hgd hb9
            go_wp2
            exact ⟨⟨i + 1, _, _, _, _, _, by simp, by omega, hP9.out⟩, by simp [intOf]; omega⟩
        · by_cases hc : x0 = 6 ∨ x0 = 7
          · rcases hc with rfl | rfl
            · skip
              have hca := Lib.hid (Tick_B hP4.lb hP4.hi.iz hP4.hi.n0 (by have := hP4.hi.nk; omega))
              go_wp2_with fail
              refine hca.out.mono ?_
              rintro e w6 ⟨R6, m6, d6, R7, m7, d7, rfl, -, -, r6, hl6, -, hk6⟩
              have hse := hP4.hi.tick (by omega)
              have hP6 := hP4.kb hlE hk6 hl6 hse.1
              have h0' := LB.kbC hP4 hk6 h04 hsep
              have hgd := hse.2
              clear hse hP4 h04 hl6 hk6 hca
              have hse := Lib.hid (Settled_any hP6.lb hP6.hi.iz h0' hz0 _ _ hgd)
              go_wp2_with (first | (go_at_call 12; refine (hnum.out _ _).mono ?_; rintro e w1 ⟨rfl, rfl⟩) | (refine wpList_load_row rfl 27 _ rfl b4 rfl 27 _ (0, 0) _ hP6.k4 Tryd.underlying27 rfl (icl_info _) ?_) | (refine wpList_load_row rfl 28 _ rfl b5 rfl 28 _ (0, 0) _ hP6.k5 Tryd.underlying28 rfl (bcl_info _) ?_))
              refine hse.out.mono ?_
              rintro e w9 ⟨rfl, hb9⟩
              have hP9 := Lib.hid (hP6.more hb9)
              clear hse hP6 h0' hgd hb9
              go_wp2
              exact ⟨⟨i + 1, _, _, _, _, _, by simp, by omega, hP9.out⟩, by simp [intOf]; omega⟩
            · skip
              have hca := Lib.hid (Tick_B hP4.lb hP4.hi.iz hP4.hi.n0 (by have := hP4.hi.nk; omega))
              go_wp2_with fail
              refine hca.out.mono ?_
              rintro e w6 ⟨R6, m6, d6, R7, m7, d7, rfl, -, -, r6, hl6, -, hk6⟩
              have hse := hP4.hi.tick (by omega)
              have hP6 := hP4.kb hlE hk6 hl6 hse.1
              have h0' := LB.kbC hP4 hk6 h04 hsep
              have hgd := hse.2
              clear hse hP4 h04 hl6 hk6 hca
              have hse := Lib.hid (Settled_any hP6.lb hP6.hi.iz h0' hz0 _ _ hgd)
              go_wp2_with (first | (go_at_call 12; refine (hnum.out _ _).mono ?_; rintro e w1 ⟨rfl, rfl⟩) | (refine wpList_load_row rfl 27 _ rfl b4 rfl 27 _ (0, 0) _ hP6.k4 Tryd.underlying27 rfl (icl_info _) ?_) | (refine wpList_load_row rfl 28 _ rfl b5 rfl 28 _ (0, 0) _ hP6.k5 Tryd.underlying28 rfl (bcl_info _) ?_))
              refine hse.out.mono ?_
              rintro e w9 ⟨rfl, hb9⟩
              have hP9 := Lib.hid (hP6.more hb9)
              clear hse hP6 h0' hgd hb9
              go_wp2
              exact ⟨⟨i + 1, _, _, _, _, _, by simp, by omega, hP9.out⟩, by simp [intOf]; omega⟩
          · have d0 : (x0 == 0) = false := by simp; omega
            have d1 : (x0 == 1) = false := by simp; omega
            have d2 : (x0 == 2) = false := by simp; omega
            have d3 : (x0 == 3) = false := by simp; omega
            have d4 : (x0 == 4) = false := by simp; omega
            have d5 : (x0 == 5) = false := by simp; omega
            have d6 : (x0 == 6) = false := by simp; omega
            have d7 : (x0 == 7) = false := by simp; omega
            clear ha hb hc
            have hse := hP4.hi.same (by omega)
            have hP6 : PH w w4 w.heap.size (i + 1) r now zs b4 b5 came first := ⟨hP4.lb, hP4.env, hP4.bel, hse.1, hP4.k4, hP4.k5⟩
            have hgd := hse.2
            have h0' := h04
            clear hse hP4 h04
            have hse := Lib.hid (Settled_any hP6.lb hP6.hi.iz h0' hz0 _ _ hgd)
            go_wp2_with (first | (go_at_call 12; refine (hnum.out _ _).mono ?_; rintro e w1 ⟨rfl, rfl⟩) | (refine wpList_load_row rfl 27 _ rfl b4 rfl 27 _ (0, 0) _ hP6.k4 Tryd.underlying27 rfl (icl_info _) ?_) | (refine wpList_load_row rfl 28 _ rfl b5 rfl 28 _ (0, 0) _ hP6.k5 Tryd.underlying28 rfl (bcl_info _) ?_))
            refine hse.out.mono ?_
            rintro e w9 ⟨rfl, hb9⟩
            have hP9 := Lib.hid (hP6.more hb9)
            clear hse hP6 h0' hgd hb9
            go_wp2
            exact ⟨⟨i + 1, _, _, _, _, _, by simp, by omega, hP9.out⟩, by simp [intOf]; omega⟩
    · have hlt2 : decide ((i : Int) < (n : Int)) = false := by simp; omega
      have hwk := Lib.hid (Works_any wr hP.env)
      have hbl := hP.bel
      go_wp2_with fail
      refine hwk.out.mono ?_
      rintro e w9 ⟨rfl, hb9⟩
      replace hbl := Lib.hid (gr hbl hb9)
      clear hwk hP hb9
      go_wp2
      go_ret
      exact ⟨rfl, hbl.out⟩
end Go.Proofs.YtnjhhibjcfjhnaaDoor
