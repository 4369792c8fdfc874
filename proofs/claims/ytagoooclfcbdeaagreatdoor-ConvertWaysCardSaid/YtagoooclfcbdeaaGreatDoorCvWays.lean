/- ConvertWays answers true for every count. -/
import Derived.Test.YtagoooclfcbdeaaGreatDoorCvB
import Derived.Test.YtagoooclfcbdeaaGreatDoorCvQ
import Derived.Test.YtagoooclfcbdeaaGreatDoorCvV
namespace Go.Proofs.YtagoooclfcbdeaaGreatDoor
open Go.RowKit Go.Shelf
set_option linter.unusedVariables false

attribute [local go_sem] Oper.semAt_some

def pcells (l : List (Int × Int)) : List Value := l.flatMap fun p => [.int .i64 p.1, .int .i64 p.2]
theorem pcells_length (xs : List (Int × Int)) : (pcells xs).length = xs.length * 2 := by
  induction xs with
  | nil => rfl
  | cons x xs ih =>
    unfold pcells at *
    rw [List.flatMap_cons, List.length_append, ih]
    simp
    omega
theorem pcells_at (xs : List (Int × Int)) (i : Nat) (h : i < xs.length) (j : Nat) (hj : j < 2) : (pcells xs)[2 * i + j]? = [Value.int .i64 xs[i].1, .int .i64 xs[i].2][j]? := by
  induction xs generalizing i with
  | nil => simp at h
  | cons x xs ih =>
    unfold pcells at *
    rw [List.flatMap_cons]
    cases i with
    | zero =>
      rw [List.getElem?_append_left (by simp; omega)]
      simp
    | succ i =>
      rw [List.getElem?_append_right (by simp; omega)]
      have := ih i (by simpa using h)
      simp only [List.length_cons, List.length_nil] at *
      rw [show 2 * (i + 1) + j - (0 + 1 + 1) = 2 * i + j from by omega]
      simpa using this
theorem pcells_cell {w W : World} {b off : Nat} {xs : List (Int × Int)} (hcell : ∀ j u, (pcells xs)[j]? = some u → w.cell? ⟨b, off + j, none⟩ = some u) (hW : ∀ o, W.cell? ⟨b, o, none⟩ = w.cell? ⟨b, o, none⟩) (i : Nat) (h : i < xs.length) :
    W.cell? ⟨b, off + i * 2, none⟩ = some (.int .i64 xs[i].1) ∧ W.cell? ⟨b, off + i * 2 + 1, none⟩ = some (.int .i64 xs[i].2) := by
  have hca : ∀ j v, j < 2 → [Value.int .i64 xs[i].1, .int .i64 xs[i].2][j]? = some v → W.cell? ⟨b, off + (2 * i + j), none⟩ = some v := fun j v hj hv => (hW _).trans (hcell (2 * i + j) v ((pcells_at xs i h j hj).trans hv))
  have c0 := hca 0 _ (by omega) rfl
  have c1 := hca 1 _ (by omega) rfl
  rw [Nat.add_zero] at c0
  simp only [← Nat.add_assoc, Nat.mul_comm 2 i] at c0 c1
  exact ⟨c0, c1⟩

structure OneW (many : Int) (w wr : World) (pre : List (Int × Int)) (A : Option Addr) (c : Nat) : Prop where
  m : Boxed wr w.heap.size 3 (.int .i64 many)
  r : Boxed wr (w.heap.size + 1) 4 (.bool false)
  b : Boxed wr (w.heap.size + 1 + 1) 55 (.slice A pre.length c)
  o : Ov wr (w.heap.size + 1 + 1 + 1) 56 2 A pre.length c (pcells pre)
  bel : Below w.heap.size w wr
  size : w.heap.size + 1 + 1 + 1 ≤ wr.heap.size
theorem OneW.more {many : Int} {w wr w2 : World} {pre : List (Int × Int)} {A : Option Addr} {c : Nat} (h : OneW many w wr pre A c) (hb : Below wr.heap.size wr w2) : OneW many w w2 pre A c :=
  ⟨box_in h.m hb, box_in h.r hb, box_in h.b hb, h.o.below hb, gr h.bel hb, Nat.le_trans h.size hb.size⟩
theorem OneW.app {many : Int} {w wr w2 : World} {pre : List (Int × Int)} {A A' : Option Addr} {c c' : Nat} {x : Int × Int} (h : OneW many w wr pre A c) (ho : Ov w2 (w.heap.size + 1 + 1 + 1) 56 2 A' (pre.length + 1) c' (pcells pre ++ [.int .i64 x.1, .int .i64 x.2])) (hg : wr.grownBy w2 (ab A)) :
    (Boxed w2 (w.heap.size + 1 + 1) 55 (.slice A pre.length c)) ∧ OneW many w (w2.setCell ⟨w.heap.size + 1 + 1, 0, none⟩ (.slice A' (pre.length + 1) c')) (pre ++ [x]) A' c' := by
  have hs := h.size
  have key : ∀ {B : Nat} {t : TypeId} {v : Value}, Boxed wr B t v → B < w.heap.size + 1 + 1 + 1 → Boxed w2 B t v := fun hb hB => (hg.block _ hb.lt (fun e => by have := (h.o.ab _ e.symm).1; omega)).trans hb
  have hbx := key h.b (by omega)
  have hb2 : Below w.heap.size w w2 := h.bel.grown hg (by omega) (fun k e => by have := (h.o.ab _ e).1; omega)
  refine ⟨hbx, ⟨(key h.m (by omega)).kept (grownBy_setCell' w2 (w.heap.size + 1 + 1) (.slice A' (pre.length + 1) c')) (fun e => by injection e with e; omega), (key h.r (by omega)).kept (grownBy_setCell' w2 (w.heap.size + 1 + 1) (.slice A' (pre.length + 1) c')) (fun e => by injection e with e; omega), ?_, ?_, hb2.setCell (p := ⟨w.heap.size + 1 + 1, 0, none⟩) (by simp; omega) _, ?_⟩⟩
  · simpa using hbx.set (.slice A' (pre.length + 1) c')
  · have e : pcells (pre ++ [x]) = pcells pre ++ [.int .i64 x.1, .int .i64 x.2] := by simp [pcells]
    rw [e]
    simp only [List.length_append, List.length_cons, List.length_nil, Nat.zero_add]
    exact ho.grown (grownBy_setCell' w2 (w.heap.size + 1 + 1) (.slice A' (pre.length + 1) c')) (fun b hb e => by have := (ho.ab _ hb).1; injection e with e; omega)
  · have := hg.size; simp; omega

theorem info_2 : (Tryz.prog.info? 56).map (fun i => (i.zero, i.size, i.bytes)) = some (some (.agg #[.int .i64 0, .int .i64 0]), 2, 16) := by kernel_rfl

set_option maxRecDepth 100000 in
set_option maxHeartbeats 4000000 in
theorem ways_walk (many : Int) (w : World) (hE : Env w) :
    Calls Tryz.prog 7 #[.int .i64 many] w fun e w' => e = .returned (.bool true) ∧ Below w.heap.size w w' := by
  obtain ⟨iS, hiS, hzS, hsS, hbS⟩ := info_parts info_2
  refine callsIn_wide.1 (callsIn_of_wp_marks (n := 9) Tryz.func7 rfl trivial ?_ rfl)
  simp only [Tryz.ntmps7, List.size_toArray, List.length_cons, List.length_nil, Nat.reduceAdd, Nat.reduceSub, Array.replicate_succ, Array.replicate_zero, List.push_toArray, List.append_toArray, List.nil_append, List.cons_append]
  refine wpIn_wide.2 ?_
  have hM := Boxed.new w 3 (.int .i64 many)
  have hB := Boxed.new (w.alloc (.cells #[.int .i64 many] 3)) 4 (.bool false)
  have hA := Boxed.new ((w.alloc (.cells #[.int .i64 many] 3)).alloc (.cells #[.bool false] 4)) 55 (.slice none 0 0)
  have hb4 : Below w.heap.size w (((w.alloc (.cells #[.int .i64 many] 3)).alloc (.cells #[.bool false] 4)).alloc (.cells #[.slice none 0 0] 55)) := (((Below.refl _ w).alloc (Nat.le_refl _) _).alloc (by simp) _).alloc (by simp; omega) _
  simp only [World.size_alloc] at hA hB
  replace hB := hB.alloc (.cells #[.slice none 0 0] 55)
  replace hM := (hM.alloc (.cells #[.bool false] 4)).alloc (.cells #[.slice none 0 0] 55)
  have hT0 : OneW many w (((w.alloc (.cells #[.int .i64 many] 3)).alloc (.cells #[.bool false] 4)).alloc (.cells #[.slice none 0 0] 55)) [] none 0 := ⟨hM, hB, hA, Ov.nil _ _ _ _, hb4, by simp⟩
  clear hM hB hA hb4
  go_wp2_with fail
  generalize (((w.alloc (.cells #[.int .i64 many] 3)).alloc (.cells #[.bool false] 4)).alloc (.cells #[.slice none 0 0] 55)) = w4 at *
  go_loopw [4] (fun p wr => ∃ (pre : List (Int × Int)) (a : Nat) (A : Option Addr) (c : Nat), p = .int .i64 ((a : Int) + 1) ∧ a ≤ 4 ∧ prsW = pre ++ fromP a 0 ∧ OneW many w wr pre A c)
    (fun p wr => 5 - (intOf p).toNat)
  case atStart => exact ⟨[], 0, none, 0, rfl, by omega, by rw [fromP_all]; rfl, hT0⟩
  case round =>
    obtain ⟨pre, a, A, c, rfl, ha, hxs, hT⟩ := hrel
    clear hT0
    by_cases hlt : a < 4
    · have hq : decide ((a : Int) + 1 ≤ 4) = true := by simp; omega
      have hrow := fromP_row a hlt
      have hnx := fun b hb => fromP_next a hlt b hb
      replace hrow := Lib.hid hrow
      replace hnx := Lib.hid hnx
      go_wp2
      go_loopw [5] (fun p wr => ∃ (pre : List (Int × Int)) (b : Nat) (A : Option Addr) (c : Nat), p = .int .i64 ((b : Int) + 1) ∧ b ≤ 4 ∧ prsW = pre ++ fromP a b ∧ OneW many w wr pre A c)
        (fun p wr => 5 - (intOf p).toNat)
      case atStart => exact ⟨pre, 0, A, c, rfl, by omega, hxs, hT⟩
      case round =>
        clear hxs hT
        obtain ⟨pre, b, A, c, rfl, hb, hxs, hT⟩ := hrel
        by_cases hlt2 : b < 4
        · have hq2 : decide ((b : Int) + 1 ≤ 4) = true := by simp; omega
          have hn := hnx.out b hlt2
          have hWy := Lib.hid (rway_any ((a : Int) + 1) ((b : Int) + 1) wr)
          have hpl : pre.length ≤ 14 := by
            have := congrArg List.length hxs
            rw [List.length_append] at this
            have e : prsW.length = 14 := rfl
            omega
          go_wp2_with fail
          refine hWy.out.mono ?_
          rintro e W1 ⟨rfl, rfl⟩
          clear hWy
          cases hy : wayV ((a : Int) + 1) ((b : Int) + 1) with
          | false =>
            rw [hy, if_neg (by decide)] at hn
            rw [hn] at hxs
            replace hxs := Lib.hid hxs
            clear hn hy
            go_wp2
            exact ⟨⟨pre, b + 1, A, c, by simp, by omega, hxs.out, hT⟩, by simp [intOf]; omega⟩
          | true =>
            rw [hy, if_pos rfl] at hn
            rw [hn] at hxs
            replace hxs := Lib.hid hxs
            have cB := hT.b.cell
            have hba : Below wr.heap.size wr (wr.alloc (.cells #[.int .i64 ((a : Int) + 1), .int .i64 ((b : Int) + 1)] 56)) := (Below.refl _ wr).alloc (Nat.le_refl _) _
            have hr3 : Rv (wr.alloc (.cells #[.int .i64 ((a : Int) + 1), .int .i64 ((b : Int) + 1)] 56)) 2 (some ⟨wr.heap.size, 0, none⟩) 1 1 [.int .i64 ((a : Int) + 1), .int .i64 ((b : Int) + 1)] :=
              ⟨rfl, Nat.le_refl _, by simp [maxLen], fun _ => ⟨wr.heap.size, 0, rfl, by simp, fun j u hu => by
                rw [World.cell?, World.alloc_heap_new]
                simpa using hu⟩⟩
            have hT1 := hT.more hba
            have hs := hT1.size
            clear hn hy
            go_wp2_with (at_builtin; refine wpList_append_v _ rfl _ _ 55 rfl 56 iS (.agg #[.int .i64 0, .int .i64 0]) 2 16 Tryz.underlying55 hiS hzS hsS hbS rfl (by decide) (w.heap.size + 1 + 1 + 1) A pre.length c (pcells pre) rfl hT1.o (some ⟨wr.heap.size, 0, none⟩) 1 1 _ rfl hr3 (by simp [Value.oneCell']) (by unfold maxLen; omega) (by omega) (by simpa using hs) ?_; intro A' c' w2 hO2 hg2 hab2; have hT2 := OneW.app (x := ((a : Int) + 1, (b : Int) + 1)) hT1 hO2 hg2; have cB2 := hT2.1.cell; have fB2 := hT2.1.frozen)
            exact ⟨⟨pre ++ [((a : Int) + 1, (b : Int) + 1)], b + 1, A', c', by simp, by omega, by rw [hxs.out]; simp, hT2.2⟩, by simp [intOf]; omega⟩
        · obtain rfl : b = 4 := by omega
          rw [hrow.out] at hxs
          replace hxs := Lib.hid hxs
          go_wp2
          exact ⟨⟨pre, a + 1, A, c, by simp, by omega, hxs.out, hT⟩, by simp [intOf]; omega⟩
    · obtain rfl : a = 4 := by omega
      rw [fromP_none, List.append_nil] at hxs
      subst hxs
      have hway := Lib.hid (cWays_any wr)
      go_wp2_with fail
      refine hway.out.mono ?_
      rintro e V ⟨rfl, hVe⟩
      subst hVe
      clear hway
      have hEq := fun W => eql_func (P := Tryz.prog) 58 Tryz.underlying58 (.func 37) #[] #[] W
      go_wp2_with fail
      refine wp_loop_rounds 3 ?_
      have hV2 : w.heap.size + 1 + 1 + 1 ≤ V.heap.size := hT.size
      have hVs : Below V.heap.size V (V.alloc (.cells #[.int .i64 0] 3)) := (Below.refl _ V).alloc (Nat.le_refl _) _
      have hTn := Boxed.new V 3 (.int .i64 0)
      replace hT := hT.more hVs
      generalize (V.alloc (.cells #[.int .i64 0] 3)) = V1 at *
      rw [rounds_succ]
      have hTtc := hTn.cell
      have hTtf := hTn.frozen
      go_wp2_with fail
      have hNn := Boxed.new V1 3 (.int .i64 0)
      have hVW : Below V1.heap.size V1 (V1.alloc (.cells #[.int .i64 0] 3)) := (Below.refl _ V1).alloc (Nat.le_refl _) _
      have hsz : V1.heap.size + 1 = (V1.alloc (.cells #[.int .i64 0] 3)).heap.size := by simp
      have hVV := hVs.size
      have hTlt := hTn.lt
      have hn1 : ¬ V.heap.size = V1.heap.size := by omega
      have hn2 : ¬ V1.heap.size = V.heap.size := by omega
      have hn3 : ¬ w.heap.size = V1.heap.size := by omega
      have hn4 : ¬ V1.heap.size = w.heap.size := by omega
      generalize (V1.alloc (.cells #[.int .i64 0] 3)) = W0 at *
      refine wp_rangeFunc_brk 9 10 rfl (enters_of Tryz.func37 (by kernel_rfl) rfl) (fun y : Int × Int => .int .i64 y.1) (fun y => .int .i64 y.2) (Ways1_stops V 8 V (Below.refl _ _)) (by omega) (hVs.trans (hVW.mono hVV))
        (EachI V1.heap.size 3 V1 0 many prsW) (EachX V1.heap.size 3 V1 0 many prsW 6) (EachE V1.heap.size 3 V1 0 many prsW) (EachI.own _ _ _ _ _ _ (by omega) (Nat.le_refl _)) (EachX.own _ _ _ _ _ _ (by omega) (Nat.le_refl _)) (EachI.start hNn hVW) EachI.all EachX.brk ?rassign0 ?rbody0 ?rend0
      case rassign0 =>
        intro l x W K hK
        simp only [List.setIfInBounds_toArray, List.set_cons_zero, List.set_cons_succ] at hK ⊢
        gi_wp2
        exact hK
      case rbody0 =>
        rintro l pre ⟨p, q⟩ W hEI hlt
        simp only [List.setIfInBounds_toArray, List.set_cons_zero, List.set_cons_succ]
        obtain ⟨hp, _, hbn, hBW⟩ := id hEI
        replace hEI := Lib.hid hEI
        have hTw := hT.more hBW
        have hMw := hTw.m.cell
        have hBwc := hTw.r.cell
        have hBwf := hTw.r.frozen
        have hTnw := (box_in hTn hBW).cell
        have cB := (show Boxed _ _ _ (.slice A 14 c) from hTw.b).cell
        have cn := hbn.cell
        have fn := hbn.frozen
        obtain ⟨g1, o1, hA1, hg1l, hc1⟩ := hTw.o.rv.2.2.2 (by decide)
        subst hA1
        have e1 := pcells_cell hc1 (fun o => rfl) pre.length hlt
        have hlt1 : (pre.length : Int) < (14 : Int) := by have : prsW.length = 14 := rfl; omega
        have hl0 : (0 : Int) ≤ (pre.length : Int) := by omega
        have hge : decide ((14 : Int) ≤ (pre.length : Int)) = false := by simp; omega
        have hnot := pre_next pre prsW (p, q) hp hlt
        generalize prsW[pre.length] = y at *
        obtain ⟨y1, y2⟩ := y
        dsimp only at e1
        have hKp : Below V.heap.size W (W.setCell ⟨V1.heap.size, 0, none⟩ (.int .i64 ((pre.length : Int) + 1))) := (Below.refl _ W).setCell (p := ⟨V1.heap.size, 0, none⟩) hVV _
        have hKq : Below V1.heap.size W (W.setCell ⟨V1.heap.size, 0, none⟩ (.int .i64 ((pre.length : Int) + 1))) := (Below.refl _ W).setCell (p := ⟨V1.heap.size, 0, none⟩) (Nat.le_refl _) _
        clear hc1 hTw
        by_cases hpy : p = y1
        · subst hpy
          by_cases hqy : q = y2
          · subst hqy
            have hyes := hnot.2 rfl
            have hE1 : ((p : Int) != (p : Int)) = false := by simp
            have hE2 : ((q : Int) != (q : Int)) = false := by simp
            clear hnot
            gi_wp2
            all_goals first
              | exact ⟨KeepsOthers.setCell _ _ _, EachX.next hEI.out rfl (by omega) (hbn.set _) hKq⟩
              | exact ⟨KeepsOthers.setCell _ _ _, hKp, EachI.next hEI.out hyes (by omega) (hbn.set _) hKq⟩
          · have hE1 : ((p : Int) != (p : Int)) = false := by simp
            have hE2 : ((q : Int) != (y2 : Int)) = true := by simp; omega
            have hno : ¬ (pre ++ [(p, q)] <+: prsW) := by rw [hnot]; simp; exact fun e => hqy e.symm
            gi_wp2
            exact ⟨KeepsOthers.setCell _ _ _, EachX.no hno⟩
        · have hE1 : ((p : Int) != (y1 : Int)) = true := by simp; omega
          have hno : ¬ (pre ++ [(p, q)] <+: prsW) := by rw [hnot]; simp; exact fun e _ => hpy e.symm
          gi_wp2
          exact ⟨KeepsOthers.setCell _ _ _, EachX.no hno⟩
      rintro D ys Wa hDD ⟨hE0, hE1, hbn, hBW⟩ hKD
      have hVs := hVs.trans (hBW.mono hVV)
      replace hT := hT.more hBW
      replace hTn := box_in hTn hBW
      have hMw := hT.m.cell
      have hTnw := hTn.cell
      have cB := (show Boxed _ _ _ (.slice A 14 c) from hT.b).cell
      have cn := hbn.cell
      have hmin : (((ys.length : Int)) != min 14 (max 1 many)) = false := by
        have := hE0 rfl
        rw [show prsW.length = 14 from rfl] at this
        simp; exact this
      have hDl : D < Wa.heap.size := (Array.getElem?_eq_some_iff.1 hKD).1
      have hq1 := hVV
      clear hE0 hE1 hVW hNn hVV hTlt hn1 hn2 hn3 hn4 hTtc hTtf
      go_wp2
      have hTs := (Below.refl Wa.heap.size Wa).alloc (Nat.le_refl _) (.cells #[.int .i64 1] 3)
      have hKD2 := (hTs.block D hDl).trans hKD
      have hVs := hVs.trans (hTs.mono hVs.size)
      have hDV : D < (Wa.alloc (.cells #[.int .i64 1] 3)).heap.size := by simp; omega
      replace hTn := Boxed.new Wa 3 (.int .i64 1)
      replace hT := hT.more hTs
      have hbel := hBW.size
      clear hMw hTnw cB cn hmin hbn hBW hTs
      generalize (Wa.alloc (.cells #[.int .i64 1] 3)) = V2 at *
      rw [rounds_succ]
      have hTtc := hTn.cell
      have hTtf := hTn.frozen
      go_wp2_with fail
      have hNn := Boxed.new V2 3 (.int .i64 0)
      have hVW : Below V2.heap.size V2 (V2.alloc (.cells #[.int .i64 0] 3)) := (Below.refl _ V2).alloc (Nat.le_refl _) _
      have hsz : V2.heap.size + 1 = (V2.alloc (.cells #[.int .i64 0] 3)).heap.size := by simp
      have hVV := hVs.size
      have hTlt := hTn.lt
      have hn1 : ¬ Wa.heap.size = V2.heap.size := by omega
      have hn2 : ¬ V2.heap.size = Wa.heap.size := by omega
      have hn3 : ¬ w.heap.size = V2.heap.size := by omega
      have hn4 : ¬ V2.heap.size = w.heap.size := by omega
      generalize (V2.alloc (.cells #[.int .i64 0] 3)) = W3 at *
      refine wp_rangeFunc_brk 9 10 rfl (enters_of Tryz.func37 (by kernel_rfl) rfl) (fun y : Int × Int => .int .i64 y.1) (fun y => .int .i64 y.2) (Ways1_stops V 8 V (Below.refl _ _)) (by omega) (hVs.trans (hVW.mono hVV))
        (EachI V2.heap.size 3 V2 1 many prsW) (EachX V2.heap.size 3 V2 1 many prsW 6) (EachE V2.heap.size 3 V2 1 many prsW) (EachI.own _ _ _ _ _ _ (by omega) (Nat.le_refl _)) (EachX.own _ _ _ _ _ _ (by omega) (Nat.le_refl _)) (EachI.start hNn hVW) EachI.all EachX.brk ?rassign1 ?rbody1 ?rend1
      case rassign1 =>
        intro l x W K hK
        simp only [List.setIfInBounds_toArray, List.set_cons_zero, List.set_cons_succ] at hK ⊢
        gi_wp2
        exact hK
      case rbody1 =>
        rintro l pre ⟨p, q⟩ W hEI hlt
        simp only [List.setIfInBounds_toArray, List.set_cons_zero, List.set_cons_succ]
        obtain ⟨hp, _, hbn, hBW⟩ := id hEI
        replace hEI := Lib.hid hEI
        have hTw := hT.more hBW
        have hMw := hTw.m.cell
        have hBwc := hTw.r.cell
        have hBwf := hTw.r.frozen
        have hTnw := (box_in hTn hBW).cell
        have cB := (show Boxed _ _ _ (.slice A 14 c) from hTw.b).cell
        have cn := hbn.cell
        have fn := hbn.frozen
        obtain ⟨g1, o1, hA1, hg1l, hc1⟩ := hTw.o.rv.2.2.2 (by decide)
        subst hA1
        have e1 := pcells_cell hc1 (fun o => rfl) pre.length hlt
        have hlt1 : (pre.length : Int) < (14 : Int) := by have : prsW.length = 14 := rfl; omega
        have hl0 : (0 : Int) ≤ (pre.length : Int) := by omega
        have hge : decide ((14 : Int) ≤ (pre.length : Int)) = false := by simp; omega
        have hnot := pre_next pre prsW (p, q) hp hlt
        generalize prsW[pre.length] = y at *
        obtain ⟨y1, y2⟩ := y
        dsimp only at e1
        have hKp : Below V.heap.size W (W.setCell ⟨V2.heap.size, 0, none⟩ (.int .i64 ((pre.length : Int) + 1))) := (Below.refl _ W).setCell (p := ⟨V2.heap.size, 0, none⟩) hVV _
        have hKq : Below V2.heap.size W (W.setCell ⟨V2.heap.size, 0, none⟩ (.int .i64 ((pre.length : Int) + 1))) := (Below.refl _ W).setCell (p := ⟨V2.heap.size, 0, none⟩) (Nat.le_refl _) _
        clear hc1 hTw
        by_cases hpy : p = y1
        · subst hpy
          by_cases hqy : q = y2
          · subst hqy
            have hyes := hnot.2 rfl
            have hE1 : ((p : Int) != (p : Int)) = false := by simp
            have hE2 : ((q : Int) != (q : Int)) = false := by simp
            clear hnot
            gi_wp2
            all_goals first
              | exact ⟨KeepsOthers.setCell _ _ _, EachX.next hEI.out rfl (by omega) (hbn.set _) hKq⟩
              | exact ⟨KeepsOthers.setCell _ _ _, hKp, EachI.next hEI.out hyes (by omega) (hbn.set _) hKq⟩
          · have hE1 : ((p : Int) != (p : Int)) = false := by simp
            have hE2 : ((q : Int) != (y2 : Int)) = true := by simp; omega
            have hno : ¬ (pre ++ [(p, q)] <+: prsW) := by rw [hnot]; simp; exact fun e => hqy e.symm
            gi_wp2
            exact ⟨KeepsOthers.setCell _ _ _, EachX.no hno⟩
        · have hE1 : ((p : Int) != (y1 : Int)) = true := by simp; omega
          have hno : ¬ (pre ++ [(p, q)] <+: prsW) := by rw [hnot]; simp; exact fun e _ => hpy e.symm
          gi_wp2
          exact ⟨KeepsOthers.setCell _ _ _, EachX.no hno⟩
      rintro E zs Wb hDE ⟨hE0, hE1, hbn, hBW⟩ hKE
      have hVs := hVs.trans (hBW.mono hVV)
      replace hT := hT.more hBW
      replace hTn := box_in hTn hBW
      have hMw := hT.m.cell
      have hTnw := hTn.cell
      have cB := (show Boxed _ _ _ (.slice A 14 c) from hT.b).cell
      have cn := hbn.cell
      have hmin : (((zs.length : Int)) != 14) = false := by
        have := hE1 (by decide)
        rw [show prsW.length = 14 from rfl] at this
        simp; omega
      have hEl : E < Wb.heap.size := (Array.getElem?_eq_some_iff.1 hKE).1
      replace hKD := (hBW.block D (by omega)).trans hKD2
      clear hE0 hE1 hVW hNn hVV hTlt hn1 hn2 hn3 hn4 hTtc hTtf
      go_wp2
      rw [rounds_succ]
      replace hTn := (Boxed.new Wb 3 (.int .i64 2)).cell
      have hTs := (Below.refl Wb.heap.size Wb).alloc (Nat.le_refl _) (.cells #[.int .i64 2] 3)
      replace hT := hT.more hTs
      replace hKD := (hTs.block D (by have := hBW.size; omega)).trans hKD
      replace hKE := (hTs.block E hEl).trans hKE
      have hTz := hTs.size
      have hbel2 := hBW.size
      clear hMw hTnw cB cn hmin hbn hBW hTs
      generalize (Wb.alloc (.cells #[.int .i64 2] 3)) = W5 at *
      have hw6 := Lib.hid (lworks_any W5 (hE.below hT.bel))
      go_wp2_with fail
      refine hw6.out.mono ?_
      rintro e W6 ⟨rfl, hb6⟩
      replace hT := hT.more hb6
      replace hKD := (hb6.block D (by omega)).trans hKD
      replace hKE := (hb6.block E (by omega)).trans hKE
      have hB1 := hT.r
      have hbase := hT.bel
      have cR := hB1.cell
      have fR := hB1.frozen
      have c1 := (hB1.set (.bool true)).cell
      clear hT hTn hb6 hVs hw6
      go_wp2
      have k1 := (KeepsOthers.setCell W6 ⟨w.heap.size + 1, 0, none⟩ (.bool true)).same E _ hKE rfl
      have k2 := (KeepsOthers.setCell W6 ⟨w.heap.size + 1, 0, none⟩ (.bool true)).same D _ hKD rfl
      have k3 : ((W6.setCell ⟨w.heap.size + 1, 0, none⟩ (.bool true)).putObj E (.deferred none)).heap[D]? = some (.deferred (some [])) := (World.putObj_heap_other (by omega)).trans k2
      refine ⟨by simp, .inl ⟨_, _, rfl, run_takeDeferred k1, ⟨by simp, .inl ⟨_, _, rfl, run_takeDeferred k3, ?_⟩⟩⟩⟩
      have c2 := cell_kept c1 (grownBy_putObj' _ E (.deferred none)) (fun r e => by cases e; exact ⟨_, k1, rfl⟩)
      have c3 := cell_kept c2 (grownBy_putObj' _ D (.deferred none)) (fun r e => by cases e; exact ⟨_, k3, rfl⟩)
      refine ⟨.bool true, ?_, rfl, ((hbase.setCell (p := ⟨w.heap.size + 1, 0, none⟩) (by simp) _).trans (belowK_b (w := w) (Nat.le_refl _) _ E _ _ (by omega) k1 rfl rfl)).trans (belowK_b (w := w) (Nat.le_refl _) _ D _ _ (by omega) k3 rfl rfl)⟩
      simp [results, Tryz.f7, go_sem, c3]
end Go.Proofs.YtagoooclfcbdeaaGreatDoor
