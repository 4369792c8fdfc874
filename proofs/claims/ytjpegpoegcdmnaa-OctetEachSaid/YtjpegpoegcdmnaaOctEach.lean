/- OctetEach answers true for every bytes and every count. -/
import Derived.Test.YtjpegpoegcdmnaaOctW
import Derived.Test.YtjpegpoegcdmnaaOctG
import Derived.Test.YtjpegpoegcdmnaaRow
import Derived.Test.YtjpegpoegcdmnaaReg
import Derived.Test.YtjpegpoegcdmnaaRegC
import Derived.Test.YtjpegpoegcdmnaaRange
namespace Go.Proofs.Ytjpegpoegcdmnaa
open Go.RowKit Go.Shelf
set_option linter.unusedVariables false

attribute [local go_sem] Oper.semAt_some

/-- What holds behind each operation of the region that appends to two boxed slices. -/
def TwoC (cA cB : World → Prop) (j : Nat) (w : World) : Prop :=
  match j with
  | 1 => True
  | 4 => True
  | 5 => True
  | 9 => True
  | 0 => cB w
  | 8 => cB w
  | _ => cA w ∧ cB w

set_option maxRecDepth 100000 in
set_option maxHeartbeats 2000000 in
theorem OctetEach_walk (A : Option Addr) (n c : Nat) (b : List UInt8) (many : Int) (w : World) (h : Rd w A n c b) (hm0 : -9223372036854775808 ≤ many) (hm1 : many ≤ 9223372036854775807) :
    Calls Try.prog 7 #[.slice A n c, .int .i64 many] w fun e w' => e = .returned (.bool true) ∧ Below w.heap.size w w' := by
  have hcap := h.cap
  have hle := h.le
  have hlen := h.len
  obtain ⟨xs, hxs⟩ := Chain.all b b.length 0 (Nat.zero_le _) (by omega)
  refine callsIn_wide.1 (callsIn_of_wp_marks (n := 9) Try.func7 rfl trivial ?_ rfl)
  simp only [Try.ntmps7, List.size_toArray, List.length_cons, List.length_nil, Nat.reduceAdd, Nat.reduceSub, Array.replicate_succ, Array.replicate_zero, List.push_toArray, List.append_toArray, List.nil_append, List.cons_append]
  refine wpIn_wide.2 ?_
  by_cases hbig : 300 < n
  · have hB := Boxed.new (w.alloc (.cells #[.int .i64 many] 3)) 4 (.bool false)
    rw [World.size_alloc] at hB
    go_wp2_with fail
    refine (works_any _).mono ?_
    rintro e w1 ⟨rfl, hb⟩
    have hB1 := box_in hB hb
    have hb1 := gr ((Below.refl _ w).alloc (Nat.le_refl _) _ |>.alloc (by simp) _) hb
    clear hb hB
    have hc := hB1.cell
    have hf := hB1.frozen
    have hB2 := (hB1.set (.bool true)).cell
    have hb2 := hb1.setCell (p := ⟨w.heap.size + 1, 0, none⟩) (by simp) (.bool true)
    go_wp2
    refine ⟨.bool true, ?_, rfl, hb2⟩
    simp [results, Try.f7, go_sem, hB2]
  · have hB := Boxed.new (w.alloc (.cells #[.int .i64 many] 3)) 4 (.bool false)
    have hM := Boxed.new w 3 (.int .i64 many)
    rw [World.size_alloc] at hB
    go_wp2_with fail
    have hA := Boxed.new ((w.alloc (.cells #[.int .i64 many] 3)).alloc (.cells #[.bool false] 4)) 53 (.slice none 0 0)
    have hW := Boxed.new (((w.alloc (.cells #[.int .i64 many] 3)).alloc (.cells #[.bool false] 4)).alloc (.cells #[.slice none 0 0] 53)) 54 (.slice none 0 0)
    have hb4 : Below w.heap.size w ((((w.alloc (.cells #[.int .i64 many] 3)).alloc (.cells #[.bool false] 4)).alloc (.cells #[.slice none 0 0] 53)).alloc (.cells #[.slice none 0 0] 54)) := ((((Below.refl _ w).alloc (Nat.le_refl _) _).alloc (by simp) _).alloc (by simp; omega) _).alloc (by simp; omega) _
    have hz4 : ((((w.alloc (.cells #[.int .i64 many] 3)).alloc (.cells #[.bool false] 4)).alloc (.cells #[.slice none 0 0] 53)).alloc (.cells #[.slice none 0 0] 54)).heap.size = w.heap.size + 1 + 1 + 2 := by simp
    simp only [World.size_alloc] at hA hW
    replace hA := hA.alloc (.cells #[.slice none 0 0] 54)
    replace hB := (hB.alloc (.cells #[.slice none 0 0] 53)).alloc (.cells #[.slice none 0 0] 54)
    replace hM := ((hM.alloc (.cells #[.bool false] 4)).alloc (.cells #[.slice none 0 0] 53)).alloc (.cells #[.slice none 0 0] 54)
    generalize ((((w.alloc (.cells #[.int .i64 many] 3)).alloc (.cells #[.bool false] 4)).alloc (.cells #[.slice none 0 0] 53)).alloc (.cells #[.slice none 0 0] 54)) = w4 at *
    have hT : Two w4 (w.heap.size + 1 + 1) 3 22 53 54 (.slice none 0 0) (.slice none 0 0) none 0 0 [] none 0 0 [] w4 :=
      ⟨Below.refl _ _, by omega, hA, hW, Ov.nil _ _ _ _, Ov.nil _ _ _ _, fun g hg => by cases hg⟩
    clear hA hW
    go_loopw [7] (fun p wr => ∃ (pre rest : List (Nat × Nat)) (i : Nat) (A1 A2 : Option Addr) (c1 c2 : Nat), p = .int .i64 (i : Int) ∧ i ≤ n ∧ xs = pre ++ rest ∧ Chain b i rest ∧
        Two w4 (w.heap.size + 1 + 1) 3 22 53 54 (.slice A1 pre.length c1) (.slice A2 pre.length c2) A1 pre.length c1 (pre.map fun p => .int .i64 (p.1 : Int)) A2 pre.length c2 (pre.map fun p => .int .u64 (p.2 : Int)) wr)
      (fun p wr => n - (intOf p).toNat)
    case atStart => exact ⟨[], xs, 0, none, none, 0, 0, rfl, by omega, rfl, hxs, hT⟩
    case round =>
      obtain ⟨pre, rest, i, A1, A2, c1, c2, rfl, hi, hpre, hch, hT⟩ := hrel
      have hbw : Below w.heap.size w wr := hb4.trans (hT.below.mono (by omega))
      have hpl : pre.length ≤ 300 := by have := hxs.length (Nat.zero_le _); rw [hpre] at this; simp at this; omega
      have SA := fun w' => run_slice_lo (P := Try.prog) 23 5 Try.underlying23 info_u8 A n c i hi hle w'
      have hrd := (h.below hbw).cut i hi
      go_wp2_with fail
      refine (refReadNumber_any' _ _ _ _ _ hrd).mono ?_
      rintro e W1 ⟨rfl, hb1⟩
      replace hT := hT.more hb1
      clear hrd SA hb1
      cases hch with
      | stop _ hno =>
        have hd : (((readN (List.drop i b)).2.2 : Int) != 0) = true := by simp; omega
        obtain rfl : xs = pre := by simpa using hpre
        clear hpre
        go_wp2_with fail
        refine (Each_any A n c W1).mono ?_
        rintro e V ⟨rfl, rfl⟩
        have hBn := (Boxed.new W1 23 (.slice A n c)).cell
        have hrV : Rd (W1.alloc (.cells #[.slice A n c] 23)) A n c b := h.below (hb4.trans (((hT.alloc (.cells #[.slice A n c] 23)).below).mono (by omega)))
        replace hT := hT.alloc (.cells #[.slice A n c] 23)
        generalize (W1.alloc (.cells #[.slice A n c] 23)) = V at *
        have hEq := fun W => eql_func (P := Try.prog) 56 Try.underlying56 (.func 31) #[] #[.pointer (some ⟨W1.heap.size, 0, none⟩)] W
        go_wp2_with fail
        refine wp_loop_rounds 3 ?_
        have hV2 : w.heap.size + 1 + 1 + 2 ≤ V.heap.size := hT.size
        have hVs : Below V.heap.size V (V.alloc (.cells #[.int .i64 0] 3)) := (Below.refl _ V).alloc (Nat.le_refl _) _
        have hTn := Boxed.new V 3 (.int .i64 0)
        have hM1 := box_below hM hT.below (by omega)
        have hB1 := box_below hB hT.below (by omega)
        replace hM1 := hM1.alloc (.cells #[.int .i64 0] 3)
        replace hB1 := hB1.alloc (.cells #[.int .i64 0] 3)
        replace hT := (hT.alloc (.cells #[.int .i64 0] 3))
        clear hM hB
        generalize (V.alloc (.cells #[.int .i64 0] 3)) = V1 at *
        rw [rounds_succ]
        have hTtc := hTn.cell
        have hTtf := hTn.frozen
        go_wp2_with fail
        have hNn := Boxed.new V1 3 (.int .i64 0)
        have hVW : Below V1.heap.size V1 (V1.alloc (.cells #[.int .i64 0] 3)) := (Below.refl _ V1).alloc (Nat.le_refl _) _
        have hsz : V1.heap.size + 1 = (V1.alloc (.cells #[.int .i64 0] 3)).heap.size := by simp
        have hVV := hVs.size
        have hTlt := hTn.lt
        have hn1 : ¬ V.heap.size = V1.heap.size := by omega
        have hn2 : ¬ V1.heap.size = V.heap.size := by omega
        have hn3 : ¬ w.heap.size = V1.heap.size := by omega
        have hn4 : ¬ V1.heap.size = w.heap.size := by omega
        generalize (V1.alloc (.cells #[.int .i64 0] 3)) = W0 at *
        refine wp_rangeFunc_brk 14 15 rfl (enters_of Try.func31 (by kernel_rfl) rfl) (fun y : Nat × Nat => .int .i64 (y.1 : Int)) (fun y => .int .u64 (y.2 : Int)) (Each1_stops V W1.heap.size A n c b xs hBn hrV hxs 8 V (Below.refl _ _)) (by omega) (hVs.trans (hVW.mono hVV))
          (EachI V1.heap.size 3 V1 0 many xs) (EachX V1.heap.size 3 V1 0 many xs 4) (EachE V1.heap.size 3 V1 0 many xs) (EachI.own _ _ _ _ _ _ (by omega) (Nat.le_refl _)) (EachX.own _ _ _ _ _ _ (by omega) (Nat.le_refl _)) (EachI.start hNn hVW) EachI.all EachX.brk ?rassign0 ?rbody0 ?rend0
        case rassign0 =>
          intro l x W K hK
          simp only [List.setIfInBounds_toArray, List.set_cons_zero, List.set_cons_succ] at hK ⊢
          gi_wp2
          exact hK
        case rbody0 =>
          rintro l pre ⟨p, q⟩ W hEI hlt
          simp only [List.setIfInBounds_toArray, List.set_cons_zero, List.set_cons_succ]
          obtain ⟨hp, _, hbn, hBW⟩ := id hEI
          replace hEI := Lib.hid hEI
          have hTw := hT.more hBW
          have hMw := (box_in hM1 hBW).cell
          have hBw := box_in hB1 hBW
          have hBwc := hBw.cell
          have hBwf := hBw.frozen
          have hTnw := (box_in hTn hBW).cell
          have cA := hTw.boxA.cell
          have cB := hTw.boxB.cell
          have cn := hbn.cell
          have fn := hbn.frozen
          obtain ⟨g1, o1, rfl, _, hc1⟩ := hTw.rowA.rv.2.2.2 (by omega)
          obtain ⟨g2, o2, rfl, _, hc2⟩ := hTw.rowB.rv.2.2.2 (by omega)
          have e1 := hc1 pre.length (.int .i64 (xs[pre.length].1 : Int)) (by simp [hlt])
          have e2 := hc2 pre.length (.int .u64 (xs[pre.length].2 : Int)) (by simp [hlt])
          have hlt1 : (pre.length : Int) < (xs.length : Int) := by omega
          have hl0 : (0 : Int) ≤ (pre.length : Int) := by omega
          have hnot := pre_next pre xs (p, q) hp hlt
          generalize xs[pre.length] = y at *
          obtain ⟨y1, y2⟩ := y
          dsimp only at e1 e2
          have hKp : Below V.heap.size W (W.setCell ⟨V1.heap.size, 0, none⟩ (.int .i64 ((pre.length : Int) + 1))) := (Below.refl _ W).setCell (p := ⟨V1.heap.size, 0, none⟩) hVV _
          have hKq : Below V1.heap.size W (W.setCell ⟨V1.heap.size, 0, none⟩ (.int .i64 ((pre.length : Int) + 1))) := (Below.refl _ W).setCell (p := ⟨V1.heap.size, 0, none⟩) (Nat.le_refl _) _
          clear hc1 hc2 hTw
          by_cases hpy : p = y1
          · subst hpy
            by_cases hqy : q = y2
            · subst hqy
              have hyes := hnot.2 rfl
              have hE1 : ((p : Int) != (p : Int)) = false := by simp
              have hE2 : ((q : Int) != (q : Int)) = false := by simp
              clear hnot
              gi_wp2
              all_goals first
                | exact ⟨KeepsOthers.setCell _ _ _, EachX.next hEI.out rfl (by omega) (hbn.set _) hKq⟩
                | exact ⟨KeepsOthers.setCell _ _ _, hKp, EachI.next hEI.out hyes (by omega) (hbn.set _) hKq⟩
            · have hE1 : ((p : Int) != (p : Int)) = false := by simp
              have hE2 : ((q : Int) != (y2 : Int)) = true := by simp; omega
              have hno : ¬ (pre ++ [(p, q)] <+: xs) := by rw [hnot]; simp; exact fun e => hqy e.symm
              gi_wp2
              exact ⟨KeepsOthers.setCell _ _ _, EachX.no hno⟩
          · have hE1 : ((p : Int) != (y1 : Int)) = true := by simp; omega
            have hno : ¬ (pre ++ [(p, q)] <+: xs) := by rw [hnot]; simp; exact fun e _ => hpy e.symm
            gi_wp2
            exact ⟨KeepsOthers.setCell _ _ _, EachX.no hno⟩
        rintro D ys Wa hDD ⟨hE0, hE1, hbn, hBW⟩ hKD
        replace hE0 := hE0
        have hVs := hVs.trans (hBW.mono hVV)
        replace hT := hT.more hBW
        replace hM1 := box_in hM1 hBW
        replace hB1 := box_in hB1 hBW
        replace hTn := box_in hTn hBW
        have hMw := hM1.cell
        have hTnw := hTn.cell
        have cB := hT.boxB.cell
        have cn := hbn.cell
        have hmin : (((ys.length : Int)) != min (xs.length : Int) (max 1 many)) = false := by simp; exact hE0 rfl
        have hDl : D < Wa.heap.size := (Array.getElem?_eq_some_iff.1 hKD).1
        have hq1 := hVV
        clear hE0 hE1 hVW hNn hVV hTlt hn1 hn2 hn3 hn4 hTtc hTtf
        go_wp2
        have hTs := (Below.refl Wa.heap.size Wa).alloc (Nat.le_refl _) (.cells #[.int .i64 1] 3)
        have hKD2 := (hTs.block D hDl).trans hKD
        have hVs := hVs.trans (hTs.mono hVs.size)
        have hDV : D < (Wa.alloc (.cells #[.int .i64 1] 3)).heap.size := by simp; omega
        replace hTn := Boxed.new Wa 3 (.int .i64 1)
        replace hM1 := hM1.alloc (.cells #[.int .i64 1] 3)
        replace hB1 := hB1.alloc (.cells #[.int .i64 1] 3)
        replace hT := (hT.alloc (.cells #[.int .i64 1] 3))
        have hbel := hBW.size
        clear hMw hTnw cB cn hmin hbn hBW hTs
        generalize (Wa.alloc (.cells #[.int .i64 1] 3)) = V2 at *
        rw [rounds_succ]
        have hTtc := hTn.cell
        have hTtf := hTn.frozen
        go_wp2_with fail
        have hNn := Boxed.new V2 3 (.int .i64 0)
        have hVW : Below V2.heap.size V2 (V2.alloc (.cells #[.int .i64 0] 3)) := (Below.refl _ V2).alloc (Nat.le_refl _) _
        have hsz : V2.heap.size + 1 = (V2.alloc (.cells #[.int .i64 0] 3)).heap.size := by simp
        have hVV := hVs.size
        have hTlt := hTn.lt
        have hn1 : ¬ Wa.heap.size = V2.heap.size := by omega
        have hn2 : ¬ V2.heap.size = Wa.heap.size := by omega
        have hn3 : ¬ w.heap.size = V2.heap.size := by omega
        have hn4 : ¬ V2.heap.size = w.heap.size := by omega
        generalize (V2.alloc (.cells #[.int .i64 0] 3)) = W3 at *
        refine wp_rangeFunc_brk 14 15 rfl (enters_of Try.func31 (by kernel_rfl) rfl) (fun y : Nat × Nat => .int .i64 (y.1 : Int)) (fun y => .int .u64 (y.2 : Int)) (Each1_stops V W1.heap.size A n c b xs hBn hrV hxs 8 V (Below.refl _ _)) (by omega) (hVs.trans (hVW.mono hVV))
          (EachI V2.heap.size 3 V2 1 many xs) (EachX V2.heap.size 3 V2 1 many xs 4) (EachE V2.heap.size 3 V2 1 many xs) (EachI.own _ _ _ _ _ _ (by omega) (Nat.le_refl _)) (EachX.own _ _ _ _ _ _ (by omega) (Nat.le_refl _)) (EachI.start hNn hVW) EachI.all EachX.brk ?rassign1 ?rbody1 ?rend1
        case rassign1 =>
          intro l x W K hK
          simp only [List.setIfInBounds_toArray, List.set_cons_zero, List.set_cons_succ] at hK ⊢
          gi_wp2
          exact hK
        case rbody1 =>
          rintro l pre ⟨p, q⟩ W hEI hlt
          simp only [List.setIfInBounds_toArray, List.set_cons_zero, List.set_cons_succ]
          obtain ⟨hp, _, hbn, hBW⟩ := id hEI
          replace hEI := Lib.hid hEI
          have hTw := hT.more hBW
          have hMw := (box_in hM1 hBW).cell
          have hBw := box_in hB1 hBW
          have hBwc := hBw.cell
          have hBwf := hBw.frozen
          have hTnw := (box_in hTn hBW).cell
          have cA := hTw.boxA.cell
          have cB := hTw.boxB.cell
          have cn := hbn.cell
          have fn := hbn.frozen
          obtain ⟨g1, o1, rfl, _, hc1⟩ := hTw.rowA.rv.2.2.2 (by omega)
          obtain ⟨g2, o2, rfl, _, hc2⟩ := hTw.rowB.rv.2.2.2 (by omega)
          have e1 := hc1 pre.length (.int .i64 (xs[pre.length].1 : Int)) (by simp [hlt])
          have e2 := hc2 pre.length (.int .u64 (xs[pre.length].2 : Int)) (by simp [hlt])
          have hlt1 : (pre.length : Int) < (xs.length : Int) := by omega
          have hl0 : (0 : Int) ≤ (pre.length : Int) := by omega
          have hnot := pre_next pre xs (p, q) hp hlt
          generalize xs[pre.length] = y at *
          obtain ⟨y1, y2⟩ := y
          dsimp only at e1 e2
          have hKp : Below V.heap.size W (W.setCell ⟨V2.heap.size, 0, none⟩ (.int .i64 ((pre.length : Int) + 1))) := (Below.refl _ W).setCell (p := ⟨V2.heap.size, 0, none⟩) hVV _
          have hKq : Below V2.heap.size W (W.setCell ⟨V2.heap.size, 0, none⟩ (.int .i64 ((pre.length : Int) + 1))) := (Below.refl _ W).setCell (p := ⟨V2.heap.size, 0, none⟩) (Nat.le_refl _) _
          clear hc1 hc2 hTw
          by_cases hpy : p = y1
          · subst hpy
            by_cases hqy : q = y2
            · subst hqy
              have hyes := hnot.2 rfl
              have hE1 : ((p : Int) != (p : Int)) = false := by simp
              have hE2 : ((q : Int) != (q : Int)) = false := by simp
              clear hnot
              gi_wp2
              all_goals first
                | exact ⟨KeepsOthers.setCell _ _ _, EachX.next hEI.out rfl (by omega) (hbn.set _) hKq⟩
                | exact ⟨KeepsOthers.setCell _ _ _, hKp, EachI.next hEI.out hyes (by omega) (hbn.set _) hKq⟩
            · have hE1 : ((p : Int) != (p : Int)) = false := by simp
              have hE2 : ((q : Int) != (y2 : Int)) = true := by simp; omega
              have hno : ¬ (pre ++ [(p, q)] <+: xs) := by rw [hnot]; simp; exact fun e => hqy e.symm
              gi_wp2
              exact ⟨KeepsOthers.setCell _ _ _, EachX.no hno⟩
          · have hE1 : ((p : Int) != (y1 : Int)) = true := by simp; omega
            have hno : ¬ (pre ++ [(p, q)] <+: xs) := by rw [hnot]; simp; exact fun e _ => hpy e.symm
            gi_wp2
            exact ⟨KeepsOthers.setCell _ _ _, EachX.no hno⟩
        rintro E zs Wb hDE ⟨hE0, hE1, hbn, hBW⟩ hKE
        replace hE0 := hE0
        have hVs := hVs.trans (hBW.mono hVV)
        replace hT := hT.more hBW
        replace hM1 := box_in hM1 hBW
        replace hB1 := box_in hB1 hBW
        replace hTn := box_in hTn hBW
        have hMw := hM1.cell
        have hTnw := hTn.cell
        have cB := hT.boxB.cell
        have cn := hbn.cell
        have hmin : (((zs.length : Int)) != (xs.length : Int)) = false := by simp [hE1 (by decide)]
        have hEl : E < Wb.heap.size := (Array.getElem?_eq_some_iff.1 hKE).1
        replace hKD := (hBW.block D (by omega)).trans hKD2
        clear hE0 hE1 hVW hNn hVV hTlt hn1 hn2 hn3 hn4 hTtc hTtf
        go_wp2
        rw [rounds_succ]
        replace hTn := (Boxed.new Wb 3 (.int .i64 2)).cell
        have hTs := (Below.refl Wb.heap.size Wb).alloc (Nat.le_refl _) (.cells #[.int .i64 2] 3)
        replace hB1 := hB1.alloc (.cells #[.int .i64 2] 3)
        replace hT := (hT.alloc (.cells #[.int .i64 2] 3))
        replace hKD := (hTs.block D (by have := hBW.size; omega)).trans hKD
        replace hKE := (hTs.block E hEl).trans hKE
        have hTz := hTs.size
        have hbel2 := hBW.size
        clear hMw hTnw cB cn hmin hbn hBW hTs
        generalize (Wb.alloc (.cells #[.int .i64 2] 3)) = W5 at *
        go_wp2_with fail
        refine (works_any _).mono ?_
        rintro e W6 ⟨rfl, hb6⟩
        replace hB1 := box_in hB1 hb6
        replace hKD := (hb6.block D (by omega)).trans hKD
        replace hKE := (hb6.block E (by omega)).trans hKE
        have hbase : Below w.heap.size w W6 := (hb4.trans (hT.below.mono (by omega))).trans (hb6.mono (by omega))
        have cR := hB1.cell
        have fR := hB1.frozen
        have c1 := (hB1.set (.bool true)).cell
        clear hT hM1 hTn hb6 hVs hrV hBn hEq
        go_wp2
        have k1 := (KeepsOthers.setCell W6 ⟨w.heap.size + 1, 0, none⟩ (.bool true)).same E _ hKE rfl
        have k2 := (KeepsOthers.setCell W6 ⟨w.heap.size + 1, 0, none⟩ (.bool true)).same D _ hKD rfl
        have k3 : ((W6.setCell ⟨w.heap.size + 1, 0, none⟩ (.bool true)).putObj E (.deferred none)).heap[D]? = some (.deferred (some [])) := (World.putObj_heap_other (by omega)).trans k2
        refine ⟨by simp, .inl ⟨_, _, rfl, run_takeDeferred k1, ⟨by simp, .inl ⟨_, _, rfl, run_takeDeferred k3, ?_⟩⟩⟩⟩
        have c2 := cell_kept c1 (grownBy_putObj' _ E (.deferred none)) (fun r e => by cases e; exact ⟨_, k1, rfl⟩)
        have c3 := cell_kept c2 (grownBy_putObj' _ D (.deferred none)) (fun r e => by cases e; exact ⟨_, k3, rfl⟩)
        refine ⟨.bool true, ?_, rfl, ((hbase.setCell (p := ⟨w.heap.size + 1, 0, none⟩) (by simp) _).trans (belowK_b (w := w) (Nat.le_refl _) _ E _ _ (by omega) k1 rfl rfl)).trans (belowK_b (w := w) (Nat.le_refl _) _ D _ _ (by omega) k3 rfl rfl)⟩
        simp [results, Try.f7, go_sem, c3]
      | more _ x k rest hre hk1 hk2 hx2 hch =>
        rw [hre]
        go_wp2_with fail
        refine wp_region_noPanic ?_
        have cA := hT.boxA.cell
        have cB := hT.boxB.cell
        refine wp_region_C (C := TwoC (fun w' => w'.cell? ⟨w.heap.size + 1 + 1, 0, none⟩ = some (.slice A1 pre.length c1)) (fun w' => w'.cell? ⟨w.heap.size + 1 + 1 + 1, 0, none⟩ = some (.slice A2 pre.length c2))) (by kernel_rfl) ?_
        refine wpAnyC_takeL (S := (fun _ => True)) (i := 1) (v := ?vhz1) rfl (by kernel_rfl) (by kernel_rfl) (by kernel_rfl) (fun _ _ _ h => h) (Or.inl ⟨by rfl, ?hz1⟩) ?shz1 ?chz1 ?ihz1 ?rhz1
        case hz1 => ((intro w hSw; (try dsimp only at hSw); (try obtain ⟨hSw1, hSw2⟩ := hSw); go_simp); try with_reducible rfl)
        case shz1 => first | trivial | assumption | exact ⟨by assumption, by assumption⟩
        case chz1 => (rintro (_|_|_|_|_|_|_|_|_|_|j) w hne hl hw hc <;> first | trivial | exact hc | exact hc.1 | exact hc.2 | exact absurd hl (by decide) | exact absurd rfl hne | exact (Bool.false_ne_true (hw.symm.trans (by kernel_rfl))).elim)
        case ihz1 => (intro w hc; first | trivial | exact hc | exact hc.1 | exact hc.2)
        try simp only [Act.put, List.setIfInBounds_toArray, List.set_cons_zero, List.set_cons_succ]
        refine wpAnyC_takeL (S := (fun _ => True)) (i := 5) (v := ?vhz2) rfl (by kernel_rfl) (by kernel_rfl) (by kernel_rfl) (fun _ _ _ h => h) (Or.inl ⟨by rfl, ?hz2⟩) ?shz2 ?chz2 ?ihz2 ?rhz2
        case hz2 => ((intro w hSw; (try dsimp only at hSw); (try obtain ⟨hSw1, hSw2⟩ := hSw); go_simp); try with_reducible rfl)
        case shz2 => first | trivial | assumption | exact ⟨by assumption, by assumption⟩
        case chz2 => (rintro (_|_|_|_|_|_|_|_|_|_|j) w hne hl hw hc <;> first | trivial | exact hc | exact hc.1 | exact hc.2 | exact absurd hl (by decide) | exact absurd rfl hne | exact (Bool.false_ne_true (hw.symm.trans (by kernel_rfl))).elim)
        case ihz2 => (intro w hc; first | trivial | exact hc | exact hc.1 | exact hc.2)
        try simp only [Act.put, List.setIfInBounds_toArray, List.set_cons_zero, List.set_cons_succ]
        refine wpAnyC_takeL (S := (fun w' => w'.cell? ⟨w.heap.size + 1 + 1 + 1, 0, none⟩ = some (.slice A2 pre.length c2))) (i := 4) (v := ?vhz3) rfl (by kernel_rfl) (by kernel_rfl) (by kernel_rfl) (fun _ _ _ h => h) (Or.inl ⟨by rfl, ?hz3⟩) ?shz3 ?chz3 ?ihz3 ?rhz3
        case hz3 => ((intro w hSw; (try dsimp only at hSw); (try obtain ⟨hSw1, hSw2⟩ := hSw); go_simp); try with_reducible rfl)
        case shz3 => first | trivial | assumption | exact ⟨by assumption, by assumption⟩
        case chz3 => (rintro (_|_|_|_|_|_|_|_|_|_|j) w hne hl hw hc <;> first | trivial | exact hc | exact hc.1 | exact hc.2 | exact absurd hl (by decide) | exact absurd rfl hne | exact (Bool.false_ne_true (hw.symm.trans (by kernel_rfl))).elim)
        case ihz3 => (intro w hc; first | trivial | exact hc | exact hc.1 | exact hc.2)
        try simp only [Act.put, List.setIfInBounds_toArray, List.set_cons_zero, List.set_cons_succ]
        refine wpAnyC_takeL (S := (fun w' => w'.cell? ⟨w.heap.size + 1 + 1, 0, none⟩ = some (.slice A1 pre.length c1) ∧ w'.cell? ⟨w.heap.size + 1 + 1 + 1, 0, none⟩ = some (.slice A2 pre.length c2))) (i := 0) (v := ?vhz4) rfl (by kernel_rfl) (by kernel_rfl) (by kernel_rfl) (fun _ _ _ h => h) (Or.inl ⟨by rfl, ?hz4⟩) ?shz4 ?chz4 ?ihz4 ?rhz4
        case hz4 => ((intro w hSw; (try dsimp only at hSw); (try obtain ⟨hSw1, hSw2⟩ := hSw); go_simp); try with_reducible rfl)
        case shz4 => first | trivial | assumption | exact ⟨by assumption, by assumption⟩
        case chz4 => (rintro (_|_|_|_|_|_|_|_|_|_|j) w hne hl hw hc <;> first | trivial | exact hc | exact hc.1 | exact hc.2 | exact absurd hl (by decide) | exact absurd rfl hne | exact (Bool.false_ne_true (hw.symm.trans (by kernel_rfl))).elim)
        case ihz4 => (intro w hc; first | trivial | exact hc | exact hc.1 | exact hc.2)
        try simp only [Act.put, List.setIfInBounds_toArray, List.set_cons_zero, List.set_cons_succ]
        have hfar : ∀ q, ab A1 = some q → q < W1.heap.size := fun q hq => (hT.rowA.ab q hq).2
        clear cA cB
        have hs : W1.heap.size ≤ W1.heap.size := Nat.le_refl _
        refine wpAnyC_ready (rs := [2, 6]) (by kernel_rfl) (by simp) ?_
        refine (AllReadyC.consL (i := 2) rfl (fun K hK => ?_) (AllReadyC.consL (i := 6) rfl (fun K hK => ?_) AllReadyC.nil))
        · skip
          go_simp
          replace hT := (hT.alloc (.cells #[.int .i64 (i : Int)] 3)).drew
          have hI : Boxed (W1.alloc (.cells #[.int .i64 (i : Int)] 3)).drew W1.heap.size 3 (.int .i64 (i : Int)) := Boxed.new W1 3 _
          --replace hJ := hJ.alloc (.cells #[.int .i64 (i : Int)] 3)
          have hs : W1.heap.size ≤ (W1.alloc (.cells #[.int .i64 (i : Int)] 3)).drew.heap.size := by (try simp); (try omega)
          refine hK.out _ _ ⟨hT.boxA.cell, hT.boxB.cell⟩ ?_
          generalize (W1.alloc (.cells #[.int .i64 (i : Int)] 3)).drew = W2 at *
          clear hK
          try simp only [Act.put, List.setIfInBounds_toArray, List.set_cons_zero, List.set_cons_succ]
          refine wpAnyC_ready (rs := [3, 6]) (by kernel_rfl) (by simp) ?_
          refine (AllReadyC.consL (i := 3) rfl (fun K hK => ?_) (AllReadyC.consL (i := 6) rfl (fun K hK => ?_) AllReadyC.nil))
          · skip
            refine step_append_1 _ rfl (.tmp 34) (.tmp 36) 53 rfl 3 (.int .i64 0) 1 8 Try.underlying53 (by kernel_rfl) rfl (by decide) (w.heap.size + 1 + 1 + 2) A1 pre.length c1 _ rfl hT.rowA _ 1 [.int .i64 (i : Int)] rfl (Rv.of_cell hI.cell) (by simp [Value.oneCell']) (by omega) (by decide) hT.size ?_
            intro A3 c3 W3 hown hgrow hab
            replace hT := hT.appA hown hgrow hab
            replace hs := Nat.le_trans hs hgrow.size
            --replace hJ := hJ.kept hgrow (fun e => by have := hfar _ e.symm; omega)
            refine hK.out _ _ ⟨hT.boxA.cell, hT.boxB.cell⟩ ?_
            clear hK hown hgrow hab hI
            try simp only [Act.put, List.setIfInBounds_toArray, List.set_cons_zero, List.set_cons_succ]
            refine wpAnyC_ready (rs := [6]) (by kernel_rfl) (by simp) ?_
            refine (AllReadyC.consL (i := 6) rfl (fun K hK => ?_) AllReadyC.nil)
            go_simp
            replace hT := (hT.alloc (.cells #[.int .u64 (x : Int)] 22))
            have hJ : Boxed (W3.alloc (.cells #[.int .u64 (x : Int)] 22)) W3.heap.size 22 (.int .u64 (x : Int)) := Boxed.new W3 22 _
            --replace hI := hI.alloc (.cells #[.int .u64 (x : Int)] 22)
            have hs : W1.heap.size ≤ (W3.alloc (.cells #[.int .u64 (x : Int)] 22)).heap.size := by (try simp); (try omega)
            refine hK.out _ _ ⟨hT.boxA.cell, hT.boxB.cell⟩ ?_
            generalize (W3.alloc (.cells #[.int .u64 (x : Int)] 22)) = W4 at *
            clear hK
            try simp only [Act.put, List.setIfInBounds_toArray, List.set_cons_zero, List.set_cons_succ]
            refine wpAnyC_ready (rs := [7]) (by kernel_rfl) (by simp) ?_
            refine (AllReadyC.consL (i := 7) rfl (fun K hK => ?_) AllReadyC.nil)
            refine step_append_1 _ rfl (.tmp 38) (.tmp 40) 54 rfl 22 (.int .u64 0) 1 8 Try.underlying54 (by kernel_rfl) rfl (by decide) (w.heap.size + 1 + 1 + 2) A2 pre.length c2 _ rfl hT.rowB _ 1 [.int .u64 (x : Int)] rfl (Rv.of_cell hJ.cell) (by simp [Value.oneCell']) (by omega) (by decide) hT.size ?_
            intro A4 c4 W5 hown hgrow hab
            replace hT := hT.appB hown hgrow hab
            refine hK.out _ _ ⟨hT.boxA.cell, hT.boxB.cell⟩ ?_
            clear hK hown hgrow hab hJ
            try simp only [Act.put, List.setIfInBounds_toArray, List.set_cons_zero, List.set_cons_succ]
            refine wpAnyC_ready (rs := [8]) (by kernel_rfl) (by simp) ?_
            refine (AllReadyC.consL (i := 8) rfl (fun K hK => ?_) AllReadyC.nil)
            have c8 := hT.boxA.cell
            have f8 := hT.boxA.frozen
            go_simp
            replace hT := hT.setA (.slice A3 (pre.length + 1) c3)
            refine hK.out _ _ hT.boxB.cell ?_
            clear hK c8 f8
            try simp only [Act.put, List.setIfInBounds_toArray, List.set_cons_zero, List.set_cons_succ]
            refine wpAnyC_ready (rs := [9]) (by kernel_rfl) (by simp) ?_
            refine (AllReadyC.consL (i := 9) rfl (fun K hK => ?_) AllReadyC.nil)
            have c8 := hT.boxB.cell
            have f8 := hT.boxB.frozen
            go_simp
            replace hT := hT.setB (.slice A4 (pre.length + 1) c4)
            refine hK.out _ _ trivial ?_
            clear hK c8 f8
            try simp only [Act.put, List.setIfInBounds_toArray, List.set_cons_zero, List.set_cons_succ]
            refine wpAnyC_done (by kernel_rfl) ?_ _
            refine NoPanic.normal ?_
            go_wp2
            exact ⟨⟨pre ++ [(i, x)], rest, i + k, A3, A4, c3, c4, by simp, by omega, by simp [hpre], hch, by simpa using hT⟩, by simp [intOf]; omega⟩
          · skip
            go_simp
            replace hT := (hT.alloc (.cells #[.int .u64 (x : Int)] 22))
            have hJ : Boxed (W2.alloc (.cells #[.int .u64 (x : Int)] 22)) W2.heap.size 22 (.int .u64 (x : Int)) := Boxed.new W2 22 _
            replace hI := hI.alloc (.cells #[.int .u64 (x : Int)] 22)
            have hs : W1.heap.size ≤ (W2.alloc (.cells #[.int .u64 (x : Int)] 22)).heap.size := by (try simp); (try omega)
            refine hK.out _ _ ⟨hT.boxA.cell, hT.boxB.cell⟩ ?_
            generalize (W2.alloc (.cells #[.int .u64 (x : Int)] 22)) = W3 at *
            clear hK
            try simp only [Act.put, List.setIfInBounds_toArray, List.set_cons_zero, List.set_cons_succ]
            refine wpAnyC_ready (rs := [3]) (by kernel_rfl) (by simp) ?_
            refine (AllReadyC.consL (i := 3) rfl (fun K hK => ?_) AllReadyC.nil)
            refine step_append_1 _ rfl (.tmp 34) (.tmp 36) 53 rfl 3 (.int .i64 0) 1 8 Try.underlying53 (by kernel_rfl) rfl (by decide) (w.heap.size + 1 + 1 + 2) A1 pre.length c1 _ rfl hT.rowA _ 1 [.int .i64 (i : Int)] rfl (Rv.of_cell hI.cell) (by simp [Value.oneCell']) (by omega) (by decide) hT.size ?_
            intro A3 c3 W4 hown hgrow hab
            replace hT := hT.appA hown hgrow hab
            replace hs := Nat.le_trans hs hgrow.size
            replace hJ := hJ.kept hgrow (fun e => by have := hfar _ e.symm; omega)
            refine hK.out _ _ ⟨hT.boxA.cell, hT.boxB.cell⟩ ?_
            clear hK hown hgrow hab hI
            try simp only [Act.put, List.setIfInBounds_toArray, List.set_cons_zero, List.set_cons_succ]
            refine wpAnyC_ready (rs := [7]) (by kernel_rfl) (by simp) ?_
            refine (AllReadyC.consL (i := 7) rfl (fun K hK => ?_) AllReadyC.nil)
            refine step_append_1 _ rfl (.tmp 38) (.tmp 40) 54 rfl 22 (.int .u64 0) 1 8 Try.underlying54 (by kernel_rfl) rfl (by decide) (w.heap.size + 1 + 1 + 2) A2 pre.length c2 _ rfl hT.rowB _ 1 [.int .u64 (x : Int)] rfl (Rv.of_cell hJ.cell) (by simp [Value.oneCell']) (by omega) (by decide) hT.size ?_
            intro A4 c4 W5 hown hgrow hab
            replace hT := hT.appB hown hgrow hab
            refine hK.out _ _ ⟨hT.boxA.cell, hT.boxB.cell⟩ ?_
            clear hK hown hgrow hab hJ
            try simp only [Act.put, List.setIfInBounds_toArray, List.set_cons_zero, List.set_cons_succ]
            refine wpAnyC_ready (rs := [8]) (by kernel_rfl) (by simp) ?_
            refine (AllReadyC.consL (i := 8) rfl (fun K hK => ?_) AllReadyC.nil)
            have c8 := hT.boxA.cell
            have f8 := hT.boxA.frozen
            go_simp
            replace hT := hT.setA (.slice A3 (pre.length + 1) c3)
            refine hK.out _ _ hT.boxB.cell ?_
            clear hK c8 f8
            try simp only [Act.put, List.setIfInBounds_toArray, List.set_cons_zero, List.set_cons_succ]
            refine wpAnyC_ready (rs := [9]) (by kernel_rfl) (by simp) ?_
            refine (AllReadyC.consL (i := 9) rfl (fun K hK => ?_) AllReadyC.nil)
            have c8 := hT.boxB.cell
            have f8 := hT.boxB.frozen
            go_simp
            replace hT := hT.setB (.slice A4 (pre.length + 1) c4)
            refine hK.out _ _ trivial ?_
            clear hK c8 f8
            try simp only [Act.put, List.setIfInBounds_toArray, List.set_cons_zero, List.set_cons_succ]
            refine wpAnyC_done (by kernel_rfl) ?_ _
            refine NoPanic.normal ?_
            go_wp2
            exact ⟨⟨pre ++ [(i, x)], rest, i + k, A3, A4, c3, c4, by simp, by omega, by simp [hpre], hch, by simpa using hT⟩, by simp [intOf]; omega⟩
        · skip
          go_simp
          replace hT := (hT.alloc (.cells #[.int .u64 (x : Int)] 22)).drew
          have hJ : Boxed (W1.alloc (.cells #[.int .u64 (x : Int)] 22)).drew W1.heap.size 22 (.int .u64 (x : Int)) := Boxed.new W1 22 _
          --replace hI := hI.alloc (.cells #[.int .u64 (x : Int)] 22)
          have hs : W1.heap.size ≤ (W1.alloc (.cells #[.int .u64 (x : Int)] 22)).drew.heap.size := by (try simp); (try omega)
          refine hK.out _ _ ⟨hT.boxA.cell, hT.boxB.cell⟩ ?_
          generalize (W1.alloc (.cells #[.int .u64 (x : Int)] 22)).drew = W2 at *
          clear hK
          try simp only [Act.put, List.setIfInBounds_toArray, List.set_cons_zero, List.set_cons_succ]
          refine wpAnyC_ready (rs := [2]) (by kernel_rfl) (by simp) ?_
          refine (AllReadyC.consL (i := 2) rfl (fun K hK => ?_) AllReadyC.nil)
          go_simp
          replace hT := (hT.alloc (.cells #[.int .i64 (i : Int)] 3))
          have hI : Boxed (W2.alloc (.cells #[.int .i64 (i : Int)] 3)) W2.heap.size 3 (.int .i64 (i : Int)) := Boxed.new W2 3 _
          replace hJ := hJ.alloc (.cells #[.int .i64 (i : Int)] 3)
          have hs : W1.heap.size ≤ (W2.alloc (.cells #[.int .i64 (i : Int)] 3)).heap.size := by (try simp); (try omega)
          refine hK.out _ _ ⟨hT.boxA.cell, hT.boxB.cell⟩ ?_
          generalize (W2.alloc (.cells #[.int .i64 (i : Int)] 3)) = W3 at *
          clear hK
          try simp only [Act.put, List.setIfInBounds_toArray, List.set_cons_zero, List.set_cons_succ]
          refine wpAnyC_ready (rs := [3]) (by kernel_rfl) (by simp) ?_
          refine (AllReadyC.consL (i := 3) rfl (fun K hK => ?_) AllReadyC.nil)
          refine step_append_1 _ rfl (.tmp 34) (.tmp 36) 53 rfl 3 (.int .i64 0) 1 8 Try.underlying53 (by kernel_rfl) rfl (by decide) (w.heap.size + 1 + 1 + 2) A1 pre.length c1 _ rfl hT.rowA _ 1 [.int .i64 (i : Int)] rfl (Rv.of_cell hI.cell) (by simp [Value.oneCell']) (by omega) (by decide) hT.size ?_
          intro A3 c3 W4 hown hgrow hab
          replace hT := hT.appA hown hgrow hab
          replace hs := Nat.le_trans hs hgrow.size
          replace hJ := hJ.kept hgrow (fun e => by have := hfar _ e.symm; omega)
          refine hK.out _ _ ⟨hT.boxA.cell, hT.boxB.cell⟩ ?_
          clear hK hown hgrow hab hI
          try simp only [Act.put, List.setIfInBounds_toArray, List.set_cons_zero, List.set_cons_succ]
          refine wpAnyC_ready (rs := [7]) (by kernel_rfl) (by simp) ?_
          refine (AllReadyC.consL (i := 7) rfl (fun K hK => ?_) AllReadyC.nil)
          refine step_append_1 _ rfl (.tmp 38) (.tmp 40) 54 rfl 22 (.int .u64 0) 1 8 Try.underlying54 (by kernel_rfl) rfl (by decide) (w.heap.size + 1 + 1 + 2) A2 pre.length c2 _ rfl hT.rowB _ 1 [.int .u64 (x : Int)] rfl (Rv.of_cell hJ.cell) (by simp [Value.oneCell']) (by omega) (by decide) hT.size ?_
          intro A4 c4 W5 hown hgrow hab
          replace hT := hT.appB hown hgrow hab
          refine hK.out _ _ ⟨hT.boxA.cell, hT.boxB.cell⟩ ?_
          clear hK hown hgrow hab hJ
          try simp only [Act.put, List.setIfInBounds_toArray, List.set_cons_zero, List.set_cons_succ]
          refine wpAnyC_ready (rs := [8]) (by kernel_rfl) (by simp) ?_
          refine (AllReadyC.consL (i := 8) rfl (fun K hK => ?_) AllReadyC.nil)
          have c8 := hT.boxA.cell
          have f8 := hT.boxA.frozen
          go_simp
          replace hT := hT.setA (.slice A3 (pre.length + 1) c3)
          refine hK.out _ _ hT.boxB.cell ?_
          clear hK c8 f8
          try simp only [Act.put, List.setIfInBounds_toArray, List.set_cons_zero, List.set_cons_succ]
          refine wpAnyC_ready (rs := [9]) (by kernel_rfl) (by simp) ?_
          refine (AllReadyC.consL (i := 9) rfl (fun K hK => ?_) AllReadyC.nil)
          have c8 := hT.boxB.cell
          have f8 := hT.boxB.frozen
          go_simp
          replace hT := hT.setB (.slice A4 (pre.length + 1) c4)
          refine hK.out _ _ trivial ?_
          clear hK c8 f8
          try simp only [Act.put, List.setIfInBounds_toArray, List.set_cons_zero, List.set_cons_succ]
          refine wpAnyC_done (by kernel_rfl) ?_ _
          refine NoPanic.normal ?_
          go_wp2
          exact ⟨⟨pre ++ [(i, x)], rest, i + k, A3, A4, c3, c4, by simp, by omega, by simp [hpre], hch, by simpa using hT⟩, by simp [intOf]; omega⟩
end Go.Proofs.Ytjpegpoegcdmnaa
