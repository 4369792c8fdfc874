/- KeyEach answers true for every text and every count. -/
import Derived.Test.YtdgmhegcoogokaaDoorKeyW
import Derived.Test.YtdgmhegcoogokaaDoorRefL
import Derived.Test.YtdgmhegcoogokaaDoorTwoV
import Derived.Test.YtdgmhegcoogokaaDoorReg
import Derived.Test.YtdgmhegcoogokaaDoorRegC
import Derived.Test.YtdgmhegcoogokaaDoorRegI
import Derived.Test.YtdgmhegcoogokaaDoorRange
namespace Go.Proofs.YtdgmhegcoogokaaDoor
open Go.RowKit Go.Shelf
set_option linter.unusedVariables false

attribute [local go_sem] Oper.semAt_some strL_toList strL_size

/-- What holds behind each operation of the region that appends to two boxed slices. -/
def TwoCV (VC cA cB : World → Prop) (j : Nat) (w : World) : Prop :=
  match j with
  | 4 => VC w ∧ cB w
  | 5 => VC w
  | 8 => VC w ∧ cB w
  | 9 => True
  | _ => VC w ∧ cA w ∧ cB w

theorem eql_func {P : Program} (t : TypeId) {a b : Array TypeId} {v : Bool} (ht : P.underlying t = some (.func a b v)) (f : Fn) (fs cs : Array Value) (w : World) : (binOp .eql t (.func f fs cs) .nilFunc).run P w = .ok (.bool false) w := by
  unfold binOp
  simp [go_sem]
  have : Op.maxDepth = 9999 + 1 := rfl
  rw [Op.equal, this, Op.equalIn]
  simp [go_sem, Sem.run_bind, run_underlying ht]

set_option maxRecDepth 100000 in
set_option maxHeartbeats 2000000 in
theorem KeyEach_walk (l : List UInt8) (many : Int) (w : World) (hl : l.length ≤ maxLen) (hm0 : -9223372036854775808 ≤ many) (hm1 : many ≤ 9223372036854775807) :
    Calls Tryd.prog 5 #[.string (strL l), .int .i64 many] w fun e w' => e = .returned (.bool true) ∧ Below w.heap.size w w' := by
  have hsz : (strL l).size = l.length := strL_size l
  obtain ⟨xs, hxs⟩ := KChain.all l l.length 0 (Nat.zero_le _) (by omega)
  refine callsIn_wide.1 (callsIn_of_wp_marks (n := 9) Tryd.func5 rfl trivial ?_ rfl)
  simp only [Tryd.ntmps5, List.size_toArray, List.length_cons, List.length_nil, Nat.reduceAdd, Nat.reduceSub, Array.replicate_succ, Array.replicate_zero, List.push_toArray, List.append_toArray, List.nil_append, List.cons_append]
  refine wpIn_wide.2 ?_
  by_cases hbig : 2400 < l.length
  · have hd : decide ((2400 : Int) < (l.length : Int)) = true := by simp; omega
    have hB := Boxed.new (w.alloc (.cells #[.int .i64 many] 3)) 4 (.bool false)
    rw [World.size_alloc] at hB
    go_wp2_with fail
    refine (works_any _).mono ?_
    rintro e w1 ⟨rfl, hb⟩
    have hB1 := box_in hB hb
    have hb1 := gr ((Below.refl _ w).alloc (Nat.le_refl _) _ |>.alloc (by simp) _) hb
    clear hb hB
    have hc := hB1.cell
    have hf := hB1.frozen
    have hB2 := (hB1.set (.bool true)).cell
    have hb2 := hb1.setCell (p := ⟨w.heap.size + 1, 0, none⟩) (by simp) (.bool true)
    go_wp2
    refine ⟨.bool true, ?_, rfl, hb2⟩
    simp [results, Tryd.f5, go_sem, hB2]
  · have hd : decide ((2400 : Int) < (l.length : Int)) = false := by simp; omega
    have hl63 : l.length ≤ 9223372036854775807 := hl
    have hB := Boxed.new (w.alloc (.cells #[.int .i64 many] 3)) 4 (.bool false)
    have hM := Boxed.new w 3 (.int .i64 many)
    rw [World.size_alloc] at hB
    go_wp2_with fail
    clear hd
    have hA := Boxed.new ((w.alloc (.cells #[.int .i64 many] 3)).alloc (.cells #[.bool false] 4)) 38 (.slice none 0 0)
    have hW := Boxed.new (((w.alloc (.cells #[.int .i64 many] 3)).alloc (.cells #[.bool false] 4)).alloc (.cells #[.slice none 0 0] 38)) 22 (.slice none 0 0)
    have hb4 : Below w.heap.size w ((((w.alloc (.cells #[.int .i64 many] 3)).alloc (.cells #[.bool false] 4)).alloc (.cells #[.slice none 0 0] 38)).alloc (.cells #[.slice none 0 0] 22)) := ((((Below.refl _ w).alloc (Nat.le_refl _) _).alloc (by simp) _).alloc (by simp; omega) _).alloc (by simp; omega) _
    have hz4 : ((((w.alloc (.cells #[.int .i64 many] 3)).alloc (.cells #[.bool false] 4)).alloc (.cells #[.slice none 0 0] 38)).alloc (.cells #[.slice none 0 0] 22)).heap.size = w.heap.size + 1 + 1 + 2 := by simp
    simp only [World.size_alloc] at hA hW
    replace hA := hA.alloc (.cells #[.slice none 0 0] 22)
    replace hB := (hB.alloc (.cells #[.slice none 0 0] 38)).alloc (.cells #[.slice none 0 0] 22)
    replace hM := ((hM.alloc (.cells #[.bool false] 4)).alloc (.cells #[.slice none 0 0] 38)).alloc (.cells #[.slice none 0 0] 22)
    generalize ((((w.alloc (.cells #[.int .i64 many] 3)).alloc (.cells #[.bool false] 4)).alloc (.cells #[.slice none 0 0] 38)).alloc (.cells #[.slice none 0 0] 22)) = w4 at *
    have hT : Two4 w4 (w.heap.size + 1 + 1) 3 42 38 22 (.slice none 0 0) (.slice none 0 0) none 0 0 [] none 0 0 [] w4 :=
      ⟨Below.refl _ _, by omega, hA, hW, Ov.nil _ _ _ _, Ov.nil _ _ _ _, fun g hg => by cases hg⟩
    clear hA hW
    go_loopw [7] (fun p wr => ∃ (pre rest : List (Place l)) (i : Nat) (A1 A2 : Option Addr) (c1 c2 : Nat), p = .int .i64 (i : Int) ∧ i ≤ l.length ∧ xs = pre ++ rest ∧ KChain l i rest ∧
        Two4 w4 (w.heap.size + 1 + 1) 3 42 38 22 (.slice A1 pre.length c1) (.slice A2 pre.length c2) A1 pre.length c1 (pre.map fun p => .int .i64 (p.at_ : Int)) A2 pre.length c2 (vcells (pre.map Place.x)) wr)
      (fun p wr => l.length - (intOf p).toNat)
    case atStart => exact ⟨[], xs, 0, none, none, 0, 0, rfl, by omega, rfl, hxs, hT⟩
    case round =>
      obtain ⟨pre, rest, i, A1, A2, c1, c2, rfl, hi, hpre, hch, hT⟩ := hrel
      have hbw : Below w.heap.size w wr := hb4.trans (hT.below.mono (by omega))
      have hpl : pre.length ≤ 2400 := by have := hxs.length (Nat.zero_le _); rw [hpre] at this; simp at this; omega
      have hex : (strL l).extract i (strL l).size = strL (l.drop i) := strL_hi l i
      rw [hsz] at hex
      have hRd := Read_any (l.drop i) wr (by simp; omega)
      replace hRd := Lib.hid hRd
      cases hch with
      | stop _ hno =>
        have hrd : rdV (l.drop i) = (zeroV, 0) := by unfold rdV; rw [hno]
        obtain rfl : xs = pre := by simpa using hpre
        clear hpre
        go_wp2_with fail
        refine hRd.out.mono ?_
        rw [hrd]
        unfold ReadPV
        simp only [Vl.val, valV, zeroV]
        rintro e W0 ⟨rfl, hb1⟩
        clear hRd hrd hno hex
        replace hT := (hT.more hb1).alloc (.cells #[.int .i64 0, .int .i64 0, .int .u64 0, .string (strL [])] 42)
        clear hb1
        go_wp2_with fail
        generalize (W0.alloc (.cells #[.int .i64 0, .int .i64 0, .int .u64 0, .string (strL [])] 42)) = W1 at *
        refine (KEach_any (strL l) W1).mono ?_
        rintro e V ⟨rfl, rfl⟩
        have hBn := (Boxed.new W1 9 (.string (strL l))).cell
        replace hT := hT.alloc (.cells #[.string (strL l)] 9)
        have hVz : W1.heap.size < (W1.alloc (.cells #[.string (strL l)] 9)).heap.size := by simp
        generalize (W1.alloc (.cells #[.string (strL l)] 9)) = V at *
        have hseq : SeqStopsK Fence.wide 8 Tryd.prog 29 #[.pointer (some ⟨W1.heap.size, 0, none⟩)] encK (Below V.heap.size) (fun ys => ys = xs) (fun pre => pre <+: xs) xs.length V :=
          SeqStopsK.weak (KEach1_stops V W1.heap.size l xs hBn hl hxs W1.heap.size V.heap.size (Nat.le_refl _) (by omega) (Nat.le_refl _) 8 V (Below.refl _ _)) (fun a b h => Rng.of_below h)
        have hEq := fun W => eql_func (P := Tryd.prog) 46 Tryd.underlying46 (.func 29) #[] #[.pointer (some ⟨W1.heap.size, 0, none⟩)] W
        go_wp2_with fail
        refine wp_loop_rounds 3 ?_
        have hV2 : w.heap.size + 1 + 1 + 2 ≤ V.heap.size := hT.size
        have hVs : Below V.heap.size V (V.alloc (.cells #[.int .i64 0] 3)) := (Below.refl _ V).alloc (Nat.le_refl _) _
        have hTn := Boxed.new V 3 (.int .i64 0)
        have hM1 := box_below hM hT.below (by omega)
        have hB1 := box_below hB hT.below (by omega)
        replace hM1 := hM1.alloc (.cells #[.int .i64 0] 3)
        replace hB1 := hB1.alloc (.cells #[.int .i64 0] 3)
        replace hT := (hT.alloc (.cells #[.int .i64 0] 3))
        clear hM hB
        generalize (V.alloc (.cells #[.int .i64 0] 3)) = V1 at *
        rw [rounds_succ]
        have hTtc := hTn.cell
        have hTtf := hTn.frozen
        go_wp2_with fail
        have hNn := Boxed.new V1 3 (.int .i64 0)
        have hVW : Below V1.heap.size V1 (V1.alloc (.cells #[.int .i64 0] 3)) := (Below.refl _ V1).alloc (Nat.le_refl _) _
        have hsz : V1.heap.size + 1 = (V1.alloc (.cells #[.int .i64 0] 3)).heap.size := by simp
        have hVV := hVs.size
        have hTlt := hTn.lt
        have hn1 : ¬ V.heap.size = V1.heap.size := by omega
        have hn2 : ¬ V1.heap.size = V.heap.size := by omega
        have hn3 : ¬ w.heap.size = V1.heap.size := by omega
        have hn4 : ¬ V1.heap.size = w.heap.size := by omega
        generalize (V1.alloc (.cells #[.int .i64 0] 3)) = W0 at *
        refine wp_rangeFunc_brkV 13 14 ?hg0 (enters_of Tryd.func29 (by kernel_rfl) rfl) hseq (by omega) (hVs.trans (hVW.mono hVV))
          (EachI V1.heap.size 3 V1 0 many xs) (EachX V1.heap.size 3 V1 0 many xs 4) (EachE V1.heap.size 3 V1 0 many xs) (EachI.own _ _ _ _ _ _ (by omega) (Nat.le_refl _)) (EachX.own _ _ _ _ _ _ (by omega) (Nat.le_refl _)) (EachI.start hNn hVW) (fun pre W h => by have := h.2.2.1.lt; omega) EachI.all EachX.brk ?rassign0 ?rbody0 ?rend0
        case hg0 => rfl
        case rassign0 =>
          intro L x W K hK
          simp only [Vl.val, valV, List.setIfInBounds_toArray, List.set_cons_zero, List.set_cons_succ] at hK ⊢
          gi_wp2
          exact hK
        case rbody0 =>
          rintro L pre p Bv W hBv hvb hEI hlt
          simp only [Vl.val, valV, List.setIfInBounds_toArray, List.set_cons_zero, List.set_cons_succ]
          obtain ⟨hp, _, hbn, hBW⟩ := id hEI
          replace hEI := Lib.hid hEI
          have hTw := hT.more hBW
          have hMw := (box_in hM1 hBW).cell
          have hBw := box_in hB1 hBW
          have hBwc := hBw.cell
          have hBwf := hBw.frozen
          have hTnw := (box_in hTn hBW).cell
          have cA := hTw.boxA.cell
          have cB := hTw.boxB.cell
          have cn := hbn.cell
          have fn := hbn.frozen
          have cv := hvb.cells
          obtain ⟨g1, o1, rfl, _, hc1⟩ := hTw.rowA.rv.2.2.2 (by omega)
          obtain ⟨g2, o2, rfl, _, hc2⟩ := (Ov.rv hTw.rowB).2.2.2 (by omega)
          have e1 := hc1 pre.length (.int .i64 (xs[pre.length].at_ : Int)) (by simp [hlt])
          have e2 := vcells_cell hc2 (fun _ => rfl) pre.length (by simpa using hlt)
          simp only [List.getElem_map] at e2
          have hlt1 : (pre.length : Int) < (xs.length : Int) := by omega
          have hl0 : (0 : Int) ≤ (pre.length : Int) := by omega
          have hnot := pre_next pre xs p hp hlt
          generalize xs[pre.length] = y at *
          have hKp : Below V.heap.size W (W.drew.setCell ⟨V1.heap.size, 0, none⟩ (.int .i64 ((pre.length : Int) + 1))) := ((Below.refl _ W).drew).setCell (p := ⟨V1.heap.size, 0, none⟩) hVV _
          have hKq : Below V1.heap.size W (W.drew.setCell ⟨V1.heap.size, 0, none⟩ (.int .i64 ((pre.length : Int) + 1))) := ((Below.refl _ W).drew).setCell (p := ⟨V1.heap.size, 0, none⟩) (Nat.le_refl _) _
          have hge : decide ((xs.length : Int) ≤ (pre.length : Int)) = false := by simp; omega
          have hge2 : decide (xs.length ≤ pre.length) = false := by simp; omega
          clear hc1 hc2 hTw
          gi_wp2_with fail
          refine wpIn_region_noPanic ?_
          refine wpIn_region_I (fun w' => (w'.cell? ⟨V1.heap.size, 0, none⟩ = some (.int .i64 (pre.length : Int)) ∧ w'.cell? ⟨w.heap.size + 1 + 1, 0, none⟩ = some (.slice (some ⟨g1, o1, none⟩) xs.length c1) ∧ w'.cell? ⟨w.heap.size + 1 + 1 + 1, 0, none⟩ = some (.slice (some ⟨g2, o2, none⟩) xs.length c2) ∧ w'.cell? ⟨g1, o1 + pre.length, none⟩ = some (.int .i64 (y.at_ : Int))) ∧
            (w'.cell? ⟨Bv, 0, none⟩ = some (.int .i64 p.x.k) ∧ w'.cell? ⟨Bv, 1, none⟩ = some (.int .i64 p.x.i) ∧ w'.cell? ⟨Bv, 2, none⟩ = some (.int .u64 p.x.u) ∧ w'.cell? ⟨Bv, 3, none⟩ = some (.string (strL p.x.s))) ∧
            (w'.cell? ⟨g2, o2 + pre.length * 4, none⟩ = some (.int .i64 y.x.k) ∧ w'.cell? ⟨g2, o2 + pre.length * 4 + 1, none⟩ = some (.int .i64 y.x.i) ∧ w'.cell? ⟨g2, o2 + pre.length * 4 + 2, none⟩ = some (.int .u64 y.x.u) ∧ w'.cell? ⟨g2, o2 + pre.length * 4 + 3, none⟩ = some (.string (strL y.x.s)))) (by kernel_rfl) ⟨⟨cn, cA, cB, e1⟩, cv, e2⟩ (fun hHeld => ?_)
          by_cases hpy : p.at_ = y.at_
          · obtain rfl := Place.ext_at hpy
            have hyes := hnot.2 rfl
            have hE1 : ((p.at_ : Int) != (p.at_ : Int)) = false := by simp
            have hE2 : ∀ W, (binOp .neq 42 (.agg #[.int .i64 p.x.k, .int .i64 p.x.i, .int .u64 p.x.u, .string (strL p.x.s)]) (.agg #[.int .i64 p.x.k, .int .i64 p.x.i, .int .u64 p.x.u, .string (strL p.x.s)])).run Tryd.prog W = .ok (.bool false) W := fun W => by
              rw [neq_V]
              simp
            clear hnot hpy
            refine wpAnyI_takeL (i := 0) (v := ?vhy1) (fun _ => trivial) (by kernel_rfl) rfl (by kernel_rfl) (by kernel_rfl) (by kernel_rfl) (fun _ _ _ h => h) (Or.inl ⟨by rfl, ?hy1⟩) (by assumption) ?rhy1
            case hy1 => ((intro w hSw; (try dsimp only at hSw); go_simp); try with_reducible rfl)
            try simp only [Act.put, List.setIfInBounds_toArray, List.set_cons_zero, List.set_cons_succ]
            refine wpAnyI_takeL (i := 1) (v := ?vhy2) (fun _ => trivial) (by kernel_rfl) rfl (by kernel_rfl) (by kernel_rfl) (by kernel_rfl) (fun _ _ _ h => h) (Or.inl ⟨by rfl, ?hy2⟩) (by assumption) ?rhy2
            case hy2 => ((intro w hSw; (try dsimp only at hSw); go_simp); try with_reducible rfl)
            try simp only [Act.put, List.setIfInBounds_toArray, List.set_cons_zero, List.set_cons_succ]
            refine wpAnyI_takeL (i := 2) (v := ?vhy3) (fun _ => trivial) (by kernel_rfl) rfl (by kernel_rfl) (by kernel_rfl) (by kernel_rfl) (fun _ _ _ h => h) (Or.inl ⟨by rfl, ?hy3⟩) (by assumption) ?rhy3
            case hy3 => ((intro w hSw; (try dsimp only at hSw); go_simp); try with_reducible rfl)
            try simp only [Act.put, List.setIfInBounds_toArray, List.set_cons_zero, List.set_cons_succ]
            refine wpAnyI_takeL (i := 3) (v := ?vhy4) (fun _ => trivial) (by kernel_rfl) rfl (by kernel_rfl) (by kernel_rfl) (by kernel_rfl) (fun _ _ _ h => h) (Or.inl ⟨by rfl, ?hy4⟩) (by assumption) ?rhy4
            case hy4 => ((intro w hSw; (try dsimp only at hSw); go_simp); try with_reducible rfl)
            try simp only [Act.put, List.setIfInBounds_toArray, List.set_cons_zero, List.set_cons_succ]
            refine wpAnyI_takeL (i := 4) (v := ?vhy5) (fun _ => trivial) (by kernel_rfl) rfl (by kernel_rfl) (by kernel_rfl) (by kernel_rfl) (fun _ _ _ h => h) (Or.inl ⟨by rfl, ?hy5⟩) (by assumption) ?rhy5
            case hy5 => ((intro w hSw; (try dsimp only at hSw); go_simp); try with_reducible rfl)
            try simp only [Act.put, List.setIfInBounds_toArray, List.set_cons_zero, List.set_cons_succ]
            refine wpAnyI_takeL (i := 5) (v := ?vhy6) (fun _ => trivial) (by kernel_rfl) rfl (by kernel_rfl) (by kernel_rfl) (by kernel_rfl) (fun _ _ _ h => h) (Or.inl ⟨by rfl, ?hy6⟩) (by assumption) ?rhy6
            case hy6 => ((intro w hSw; (try dsimp only at hSw); go_simp); try with_reducible rfl)
            try simp only [Act.put, List.setIfInBounds_toArray, List.set_cons_zero, List.set_cons_succ]
            refine wpAnyI_takeL (i := 6) (v := ?vhy7) (fun _ => trivial) (by kernel_rfl) rfl (by kernel_rfl) (by kernel_rfl) (by kernel_rfl) (fun _ _ _ h => h) (Or.inl ⟨by rfl, ?hy7⟩) (by assumption) ?rhy7
            case hy7 => ((intro w hSw; (try dsimp only at hSw); go_simp); try with_reducible rfl)
            try simp only [Act.put, List.setIfInBounds_toArray, List.set_cons_zero, List.set_cons_succ]
            refine wpAnyI_takeL (i := 7) (v := ?vhy8) (fun _ => trivial) (by kernel_rfl) rfl (by kernel_rfl) (by kernel_rfl) (by kernel_rfl) (fun _ _ _ h => h) (Or.inl ⟨by rfl, ?hy8⟩) (by assumption) ?rhy8
            case hy8 => ((intro w hSw; (try dsimp only at hSw); go_simp); try with_reducible rfl)
            try simp only [Act.put, List.setIfInBounds_toArray, List.set_cons_zero, List.set_cons_succ]
            refine wpAnyI_takeL (i := 8) (v := ?vhy9) (fun _ => trivial) (by kernel_rfl) rfl (by kernel_rfl) (by kernel_rfl) (by kernel_rfl) (fun _ _ _ h => h) (Or.inl ⟨by rfl, ?hy9⟩) (by assumption) ?rhy9
            case hy9 => ((intro w hSw; (try dsimp only at hSw); go_simp); try with_reducible rfl)
            try simp only [Act.put, List.setIfInBounds_toArray, List.set_cons_zero, List.set_cons_succ]
            refine wpAnyI_takeL (i := 9) (v := ?vhy10) (fun _ => trivial) (by kernel_rfl) rfl (by kernel_rfl) (by kernel_rfl) (by kernel_rfl) (fun _ _ _ h => h) (Or.inl ⟨by rfl, ?hy10⟩) (by assumption) ?rhy10
            case hy10 => ((intro w hSw; (try dsimp only at hSw); go_simp); try with_reducible rfl)
            try simp only [Act.put, List.setIfInBounds_toArray, List.set_cons_zero, List.set_cons_succ]
            refine wpAnyI_takeL (i := 10) (v := ?vhy11) (fun _ => trivial) (by kernel_rfl) rfl (by kernel_rfl) (by kernel_rfl) (by kernel_rfl) (fun _ _ _ h => h) (Or.inl ⟨by rfl, ?hy11⟩) (by assumption) ?rhy11
            case hy11 => ((intro w hSw; (try dsimp only at hSw); go_simp); try with_reducible rfl)
            try simp only [Act.put, List.setIfInBounds_toArray, List.set_cons_zero, List.set_cons_succ]
            refine wpAnyI_takeL (i := 11) (v := ?vhy12) (fun _ => trivial) (by kernel_rfl) rfl (by kernel_rfl) (by kernel_rfl) (by kernel_rfl) (fun _ _ _ h => h) (Or.inl ⟨by rfl, ?hy12⟩) (by assumption) ?rhy12
            case hy12 => ((intro w hSw; (try dsimp only at hSw); go_simp); try with_reducible rfl)
            try simp only [Act.put, List.setIfInBounds_toArray, List.set_cons_zero, List.set_cons_succ]
            refine wpAnyI_takeL (i := 12) (v := ?vhy13) (fun _ => trivial) (by kernel_rfl) rfl (by kernel_rfl) (by kernel_rfl) (by kernel_rfl) (fun _ _ _ h => h) (Or.inl ⟨by rfl, ?hy13⟩) (by assumption) ?rhy13
            case hy13 => ((intro w hSw; (try dsimp only at hSw); go_simp); try with_reducible rfl)
            try simp only [Act.put, List.setIfInBounds_toArray, List.set_cons_zero, List.set_cons_succ]
            refine wpAnyI_takeL (i := 13) (v := ?vhy14) (fun _ => trivial) (by kernel_rfl) rfl (by kernel_rfl) (by kernel_rfl) (by kernel_rfl) (fun _ _ _ h => h) (Or.inl ⟨by rfl, ?hy14⟩) (by assumption) ?rhy14
            case hy14 => ((intro w hSw; (try dsimp only at hSw); go_simp); try with_reducible rfl)
            try simp only [Act.put, List.setIfInBounds_toArray, List.set_cons_zero, List.set_cons_succ]
            refine wpAnyI_takeL (i := 14) (v := ?vhy15) (fun _ => trivial) (by kernel_rfl) rfl (by kernel_rfl) (by kernel_rfl) (by kernel_rfl) (fun _ _ _ h => h) (Or.inl ⟨by rfl, ?hy15⟩) (by assumption) ?rhy15
            case hy15 => ((intro w hSw; (try dsimp only at hSw); go_simp); try with_reducible rfl)
            try simp only [Act.put, List.setIfInBounds_toArray, List.set_cons_zero, List.set_cons_succ]
            refine wpAnyI_takeL (i := 15) (v := ?vhy16) (fun _ => trivial) (by kernel_rfl) rfl (by kernel_rfl) (by kernel_rfl) (by kernel_rfl) (fun _ _ _ h => h) (Or.inl ⟨by rfl, ?hy16⟩) (by assumption) ?rhy16
            case hy16 => ((intro w hSw; (try dsimp only at hSw); go_simp); try with_reducible rfl)
            try simp only [Act.put, List.setIfInBounds_toArray, List.set_cons_zero, List.set_cons_succ]
            refine wpAnyI_takeL (i := 16) (v := ?vhy17) (fun _ => trivial) (by kernel_rfl) rfl (by kernel_rfl) (by kernel_rfl) (by kernel_rfl) (fun _ _ _ h => h) (Or.inl ⟨by rfl, ?hy17⟩) (by assumption) ?rhy17
            case hy17 => ((intro w hSw; (try dsimp only at hSw); go_simp); try with_reducible rfl)
            try simp only [Act.put, List.setIfInBounds_toArray, List.set_cons_zero, List.set_cons_succ]
            refine wpAnyI_takeL (i := 17) (v := ?vhy18) (fun _ => trivial) (by kernel_rfl) rfl (by kernel_rfl) (by kernel_rfl) (by kernel_rfl) (fun _ _ _ h => h) (Or.inl ⟨by rfl, ?hy18⟩) (by assumption) ?rhy18
            case hy18 => ((intro w hSw; (try dsimp only at hSw); go_simp); try with_reducible rfl)
            try simp only [Act.put, List.setIfInBounds_toArray, List.set_cons_zero, List.set_cons_succ]
            refine wpAnyI_takeL (i := 18) (v := ?vhy19) (fun _ => trivial) (by kernel_rfl) rfl (by kernel_rfl) (by kernel_rfl) (by kernel_rfl) (fun _ _ _ h => h) (Or.inl ⟨by rfl, ?hy19⟩) (by assumption) ?rhy19
            case hy19 => ((intro w hSw; (try dsimp only at hSw); go_simp); try with_reducible rfl)
            try simp only [Act.put, List.setIfInBounds_toArray, List.set_cons_zero, List.set_cons_succ]
            refine wpAnyI_takeL (i := 19) (v := ?vhy20) (fun _ => trivial) (by kernel_rfl) rfl (by kernel_rfl) (by kernel_rfl) (by kernel_rfl) (fun _ _ _ h => h) (Or.inl ⟨by rfl, ?hy20⟩) (by assumption) ?rhy20
            case hy20 => ((intro w hSw; (try dsimp only at hSw); go_simp); try with_reducible rfl)
            try simp only [Act.put, List.setIfInBounds_toArray, List.set_cons_zero, List.set_cons_succ]
            refine wpAnyI_done (by kernel_rfl) ?_ _
            refine NoPanic.normal ?_
            clear hHeld e1 e2 cv hE1 hE2 hge hge2
            replace hbn := box_drew hbn
            gi_wp2
            all_goals first
              | exact ⟨((KeepsOthers.drew W).trans (KeepsOthers.setCell _ _ _)).from _, EachX.next hEI.out rfl (by omega) (hbn.set _) hKq⟩
              | exact ⟨((KeepsOthers.drew W).trans (KeepsOthers.setCell _ _ _)).from _, hKp, EachI.next hEI.out hyes (by omega) (hbn.set _) hKq⟩
          · have hE1 : ((p.at_ : Int) != (y.at_ : Int)) = true := by simp; omega
            have hno : ¬ (pre ++ [p] <+: xs) := by rw [hnot]; exact fun e => hpy (by rw [e])
            refine wpAnyI_takeL (i := 0) (v := ?vhy21) (fun _ => trivial) (by kernel_rfl) rfl (by kernel_rfl) (by kernel_rfl) (by kernel_rfl) (fun _ _ _ h => h) (Or.inl ⟨by rfl, ?hy21⟩) (by assumption) ?rhy21
            case hy21 => ((intro w hSw; (try dsimp only at hSw); go_simp); try with_reducible rfl)
            try simp only [Act.put, List.setIfInBounds_toArray, List.set_cons_zero, List.set_cons_succ]
            refine wpAnyI_takeL (i := 1) (v := ?vhy22) (fun _ => trivial) (by kernel_rfl) rfl (by kernel_rfl) (by kernel_rfl) (by kernel_rfl) (fun _ _ _ h => h) (Or.inl ⟨by rfl, ?hy22⟩) (by assumption) ?rhy22
            case hy22 => ((intro w hSw; (try dsimp only at hSw); go_simp); try with_reducible rfl)
            try simp only [Act.put, List.setIfInBounds_toArray, List.set_cons_zero, List.set_cons_succ]
            refine wpAnyI_takeL (i := 2) (v := ?vhy23) (fun _ => trivial) (by kernel_rfl) rfl (by kernel_rfl) (by kernel_rfl) (by kernel_rfl) (fun _ _ _ h => h) (Or.inl ⟨by rfl, ?hy23⟩) (by assumption) ?rhy23
            case hy23 => ((intro w hSw; (try dsimp only at hSw); go_simp); try with_reducible rfl)
            try simp only [Act.put, List.setIfInBounds_toArray, List.set_cons_zero, List.set_cons_succ]
            refine wpAnyI_takeL (i := 3) (v := ?vhy24) (fun _ => trivial) (by kernel_rfl) rfl (by kernel_rfl) (by kernel_rfl) (by kernel_rfl) (fun _ _ _ h => h) (Or.inl ⟨by rfl, ?hy24⟩) (by assumption) ?rhy24
            case hy24 => ((intro w hSw; (try dsimp only at hSw); go_simp); try with_reducible rfl)
            try simp only [Act.put, List.setIfInBounds_toArray, List.set_cons_zero, List.set_cons_succ]
            refine wpAnyI_takeL (i := 4) (v := ?vhy25) (fun _ => trivial) (by kernel_rfl) rfl (by kernel_rfl) (by kernel_rfl) (by kernel_rfl) (fun _ _ _ h => h) (Or.inl ⟨by rfl, ?hy25⟩) (by assumption) ?rhy25
            case hy25 => ((intro w hSw; (try dsimp only at hSw); go_simp); try with_reducible rfl)
            try simp only [Act.put, List.setIfInBounds_toArray, List.set_cons_zero, List.set_cons_succ]
            refine wpAnyI_takeL (i := 5) (v := ?vhy26) (fun _ => trivial) (by kernel_rfl) rfl (by kernel_rfl) (by kernel_rfl) (by kernel_rfl) (fun _ _ _ h => h) (Or.inl ⟨by rfl, ?hy26⟩) (by assumption) ?rhy26
            case hy26 => ((intro w hSw; (try dsimp only at hSw); go_simp); try with_reducible rfl)
            try simp only [Act.put, List.setIfInBounds_toArray, List.set_cons_zero, List.set_cons_succ]
            refine wpAnyI_takeL (i := 6) (v := ?vhy27) (fun _ => trivial) (by kernel_rfl) rfl (by kernel_rfl) (by kernel_rfl) (by kernel_rfl) (fun _ _ _ h => h) (Or.inl ⟨by rfl, ?hy27⟩) (by assumption) ?rhy27
            case hy27 => ((intro w hSw; (try dsimp only at hSw); go_simp); try with_reducible rfl)
            try simp only [Act.put, List.setIfInBounds_toArray, List.set_cons_zero, List.set_cons_succ]
            refine wpAnyI_takeL (i := 7) (v := ?vhy28) (fun _ => trivial) (by kernel_rfl) rfl (by kernel_rfl) (by kernel_rfl) (by kernel_rfl) (fun _ _ _ h => h) (Or.inl ⟨by rfl, ?hy28⟩) (by assumption) ?rhy28
            case hy28 => ((intro w hSw; (try dsimp only at hSw); go_simp); try with_reducible rfl)
            try simp only [Act.put, List.setIfInBounds_toArray, List.set_cons_zero, List.set_cons_succ]
            refine wpAnyI_takeL (i := 8) (v := ?vhy29) (fun _ => trivial) (by kernel_rfl) rfl (by kernel_rfl) (by kernel_rfl) (by kernel_rfl) (fun _ _ _ h => h) (Or.inl ⟨by rfl, ?hy29⟩) (by assumption) ?rhy29
            case hy29 => ((intro w hSw; (try dsimp only at hSw); go_simp); try with_reducible rfl)
            try simp only [Act.put, List.setIfInBounds_toArray, List.set_cons_zero, List.set_cons_succ]
            refine wpAnyI_takeL (i := 9) (v := ?vhy30) (fun _ => trivial) (by kernel_rfl) rfl (by kernel_rfl) (by kernel_rfl) (by kernel_rfl) (fun _ _ _ h => h) (Or.inl ⟨by rfl, ?hy30⟩) (by assumption) ?rhy30
            case hy30 => ((intro w hSw; (try dsimp only at hSw); go_simp); try with_reducible rfl)
            try simp only [Act.put, List.setIfInBounds_toArray, List.set_cons_zero, List.set_cons_succ]
            refine wpAnyI_takeL (i := 10) (v := ?vhy31) (fun _ => trivial) (by kernel_rfl) rfl (by kernel_rfl) (by kernel_rfl) (by kernel_rfl) (fun _ _ _ h => h) (Or.inl ⟨by rfl, ?hy31⟩) (by assumption) ?rhy31
            case hy31 => ((intro w hSw; (try dsimp only at hSw); go_simp); try with_reducible rfl)
            try simp only [Act.put, List.setIfInBounds_toArray, List.set_cons_zero, List.set_cons_succ]
            refine wpAnyI_takeL (i := 11) (v := ?vhy32) (fun _ => trivial) (by kernel_rfl) rfl (by kernel_rfl) (by kernel_rfl) (by kernel_rfl) (fun _ _ _ h => h) (Or.inl ⟨by rfl, ?hy32⟩) (by assumption) ?rhy32
            case hy32 => ((intro w hSw; (try dsimp only at hSw); go_simp); try with_reducible rfl)
            try simp only [Act.put, List.setIfInBounds_toArray, List.set_cons_zero, List.set_cons_succ]
            refine wpAnyI_takeL (i := 12) (v := ?vhy33) (fun _ => trivial) (by kernel_rfl) rfl (by kernel_rfl) (by kernel_rfl) (by kernel_rfl) (fun _ _ _ h => h) (Or.inl ⟨by rfl, ?hy33⟩) (by assumption) ?rhy33
            case hy33 => ((intro w hSw; (try dsimp only at hSw); go_simp); try with_reducible rfl)
            try simp only [Act.put, List.setIfInBounds_toArray, List.set_cons_zero, List.set_cons_succ]
            refine wpAnyI_takeL (i := 13) (v := undef) (fun _ => trivial) (by kernel_rfl) rfl (by kernel_rfl) (by kernel_rfl) (by kernel_rfl) (fun _ _ _ h => h) (Or.inr ⟨by rfl, rfl⟩) (by assumption) ?_
            try simp only [Act.put, List.setIfInBounds_toArray, List.set_cons_zero, List.set_cons_succ]
            refine wpAnyI_takeL (i := 14) (v := undef) (fun _ => trivial) (by kernel_rfl) rfl (by kernel_rfl) (by kernel_rfl) (by kernel_rfl) (fun _ _ _ h => h) (Or.inr ⟨by rfl, rfl⟩) (by assumption) ?_
            try simp only [Act.put, List.setIfInBounds_toArray, List.set_cons_zero, List.set_cons_succ]
            refine wpAnyI_takeL (i := 15) (v := undef) (fun _ => trivial) (by kernel_rfl) rfl (by kernel_rfl) (by kernel_rfl) (by kernel_rfl) (fun _ _ _ h => h) (Or.inr ⟨by rfl, rfl⟩) (by assumption) ?_
            try simp only [Act.put, List.setIfInBounds_toArray, List.set_cons_zero, List.set_cons_succ]
            refine wpAnyI_takeL (i := 16) (v := undef) (fun _ => trivial) (by kernel_rfl) rfl (by kernel_rfl) (by kernel_rfl) (by kernel_rfl) (fun _ _ _ h => h) (Or.inr ⟨by rfl, rfl⟩) (by assumption) ?_
            try simp only [Act.put, List.setIfInBounds_toArray, List.set_cons_zero, List.set_cons_succ]
            refine wpAnyI_takeL (i := 17) (v := undef) (fun _ => trivial) (by kernel_rfl) rfl (by kernel_rfl) (by kernel_rfl) (by kernel_rfl) (fun _ _ _ h => h) (Or.inr ⟨by rfl, rfl⟩) (by assumption) ?_
            try simp only [Act.put, List.setIfInBounds_toArray, List.set_cons_zero, List.set_cons_succ]
            refine wpAnyI_takeL (i := 18) (v := undef) (fun _ => trivial) (by kernel_rfl) rfl (by kernel_rfl) (by kernel_rfl) (by kernel_rfl) (fun _ _ _ h => h) (Or.inr ⟨by rfl, rfl⟩) (by assumption) ?_
            try simp only [Act.put, List.setIfInBounds_toArray, List.set_cons_zero, List.set_cons_succ]
            refine wpAnyI_takeL (i := 19) (v := ?vhy34) (fun _ => trivial) (by kernel_rfl) rfl (by kernel_rfl) (by kernel_rfl) (by kernel_rfl) (fun _ _ _ h => h) (Or.inl ⟨by rfl, ?hy34⟩) (by assumption) ?rhy34
            case hy34 => ((intro w hSw; (try dsimp only at hSw); go_simp); try with_reducible rfl)
            try simp only [Act.put, List.setIfInBounds_toArray, List.set_cons_zero, List.set_cons_succ]
            refine wpAnyI_done (by kernel_rfl) ?_ _
            refine NoPanic.normal ?_
            clear hHeld e1 e2 cv hE1 hge hge2
            gi_wp2
            exact ⟨((KeepsOthers.drew W).trans (KeepsOthers.setCell _ _ _)).from _, EachX.no hno⟩
        rintro D ys Wa hDD ⟨hE0, hE1, hbn, hBW⟩ hKD
        replace hE0 := hE0
        have hVs := hVs.trans (hBW.mono hVV)
        replace hT := hT.more hBW
        replace hM1 := box_in hM1 hBW
        replace hB1 := box_in hB1 hBW
        replace hTn := box_in hTn hBW
        have hMw := hM1.cell
        have hTnw := hTn.cell
        have cB := hT.boxB.cell
        have cn := hbn.cell
        have hmin : (((ys.length : Int)) != min (xs.length : Int) (max 1 many)) = false := by simp; exact hE0 rfl
        have hDl : D < Wa.heap.size := (Array.getElem?_eq_some_iff.1 hKD).1
        have hq1 := hVV
        clear hE0 hE1 hVW hNn hVV hTlt hn1 hn2 hn3 hn4 hTtc hTtf
        go_wp2
        have hTs := (Below.refl Wa.heap.size Wa).alloc (Nat.le_refl _) (.cells #[.int .i64 1] 3)
        have hKD2 := (hTs.block D hDl).trans hKD
        have hVs := hVs.trans (hTs.mono hVs.size)
        have hDV : D < (Wa.alloc (.cells #[.int .i64 1] 3)).heap.size := by simp; omega
        replace hTn := Boxed.new Wa 3 (.int .i64 1)
        replace hM1 := hM1.alloc (.cells #[.int .i64 1] 3)
        replace hB1 := hB1.alloc (.cells #[.int .i64 1] 3)
        replace hT := (hT.alloc (.cells #[.int .i64 1] 3))
        have hbel := hBW.size
        clear hMw hTnw cB cn hmin hbn hBW hTs
        generalize (Wa.alloc (.cells #[.int .i64 1] 3)) = V2 at *
        rw [rounds_succ]
        have hTtc := hTn.cell
        have hTtf := hTn.frozen
        go_wp2_with fail
        have hNn := Boxed.new V2 3 (.int .i64 0)
        have hVW : Below V2.heap.size V2 (V2.alloc (.cells #[.int .i64 0] 3)) := (Below.refl _ V2).alloc (Nat.le_refl _) _
        have hsz : V2.heap.size + 1 = (V2.alloc (.cells #[.int .i64 0] 3)).heap.size := by simp
        have hVV := hVs.size
        have hTlt := hTn.lt
        have hn1 : ¬ Wa.heap.size = V2.heap.size := by omega
        have hn2 : ¬ V2.heap.size = Wa.heap.size := by omega
        have hn3 : ¬ w.heap.size = V2.heap.size := by omega
        have hn4 : ¬ V2.heap.size = w.heap.size := by omega
        generalize (V2.alloc (.cells #[.int .i64 0] 3)) = W3 at *
        refine wp_rangeFunc_brkV 13 14 ?hg1 (enters_of Tryd.func29 (by kernel_rfl) rfl) hseq (by omega) (hVs.trans (hVW.mono hVV))
          (EachI V2.heap.size 3 V2 1 many xs) (EachX V2.heap.size 3 V2 1 many xs 4) (EachE V2.heap.size 3 V2 1 many xs) (EachI.own _ _ _ _ _ _ (by omega) (Nat.le_refl _)) (EachX.own _ _ _ _ _ _ (by omega) (Nat.le_refl _)) (EachI.start hNn hVW) (fun pre W h => by have := h.2.2.1.lt; omega) EachI.all EachX.brk ?rassign1 ?rbody1 ?rend1
        case hg1 => rfl
        case rassign1 =>
          intro L x W K hK
          simp only [Vl.val, valV, List.setIfInBounds_toArray, List.set_cons_zero, List.set_cons_succ] at hK ⊢
          gi_wp2
          exact hK
        case rbody1 =>
          rintro L pre p Bv W hBv hvb hEI hlt
          simp only [Vl.val, valV, List.setIfInBounds_toArray, List.set_cons_zero, List.set_cons_succ]
          obtain ⟨hp, _, hbn, hBW⟩ := id hEI
          replace hEI := Lib.hid hEI
          have hTw := hT.more hBW
          have hMw := (box_in hM1 hBW).cell
          have hBw := box_in hB1 hBW
          have hBwc := hBw.cell
          have hBwf := hBw.frozen
          have hTnw := (box_in hTn hBW).cell
          have cA := hTw.boxA.cell
          have cB := hTw.boxB.cell
          have cn := hbn.cell
          have fn := hbn.frozen
          have cv := hvb.cells
          obtain ⟨g1, o1, rfl, _, hc1⟩ := hTw.rowA.rv.2.2.2 (by omega)
          obtain ⟨g2, o2, rfl, _, hc2⟩ := (Ov.rv hTw.rowB).2.2.2 (by omega)
          have e1 := hc1 pre.length (.int .i64 (xs[pre.length].at_ : Int)) (by simp [hlt])
          have e2 := vcells_cell hc2 (fun _ => rfl) pre.length (by simpa using hlt)
          simp only [List.getElem_map] at e2
          have hlt1 : (pre.length : Int) < (xs.length : Int) := by omega
          have hl0 : (0 : Int) ≤ (pre.length : Int) := by omega
          have hnot := pre_next pre xs p hp hlt
          generalize xs[pre.length] = y at *
          have hKp : Below V.heap.size W (W.drew.setCell ⟨V2.heap.size, 0, none⟩ (.int .i64 ((pre.length : Int) + 1))) := ((Below.refl _ W).drew).setCell (p := ⟨V2.heap.size, 0, none⟩) hVV _
          have hKq : Below V2.heap.size W (W.drew.setCell ⟨V2.heap.size, 0, none⟩ (.int .i64 ((pre.length : Int) + 1))) := ((Below.refl _ W).drew).setCell (p := ⟨V2.heap.size, 0, none⟩) (Nat.le_refl _) _
          have hge : decide ((xs.length : Int) ≤ (pre.length : Int)) = false := by simp; omega
          have hge2 : decide (xs.length ≤ pre.length) = false := by simp; omega
          clear hc1 hc2 hTw
          gi_wp2_with fail
          refine wpIn_region_noPanic ?_
          refine wpIn_region_I (fun w' => (w'.cell? ⟨V2.heap.size, 0, none⟩ = some (.int .i64 (pre.length : Int)) ∧ w'.cell? ⟨w.heap.size + 1 + 1, 0, none⟩ = some (.slice (some ⟨g1, o1, none⟩) xs.length c1) ∧ w'.cell? ⟨w.heap.size + 1 + 1 + 1, 0, none⟩ = some (.slice (some ⟨g2, o2, none⟩) xs.length c2) ∧ w'.cell? ⟨g1, o1 + pre.length, none⟩ = some (.int .i64 (y.at_ : Int))) ∧
            (w'.cell? ⟨Bv, 0, none⟩ = some (.int .i64 p.x.k) ∧ w'.cell? ⟨Bv, 1, none⟩ = some (.int .i64 p.x.i) ∧ w'.cell? ⟨Bv, 2, none⟩ = some (.int .u64 p.x.u) ∧ w'.cell? ⟨Bv, 3, none⟩ = some (.string (strL p.x.s))) ∧
            (w'.cell? ⟨g2, o2 + pre.length * 4, none⟩ = some (.int .i64 y.x.k) ∧ w'.cell? ⟨g2, o2 + pre.length * 4 + 1, none⟩ = some (.int .i64 y.x.i) ∧ w'.cell? ⟨g2, o2 + pre.length * 4 + 2, none⟩ = some (.int .u64 y.x.u) ∧ w'.cell? ⟨g2, o2 + pre.length * 4 + 3, none⟩ = some (.string (strL y.x.s)))) (by kernel_rfl) ⟨⟨cn, cA, cB, e1⟩, cv, e2⟩ (fun hHeld => ?_)
          by_cases hpy : p.at_ = y.at_
          · obtain rfl := Place.ext_at hpy
            have hyes := hnot.2 rfl
            have hE1 : ((p.at_ : Int) != (p.at_ : Int)) = false := by simp
            have hE2 : ∀ W, (binOp .neq 42 (.agg #[.int .i64 p.x.k, .int .i64 p.x.i, .int .u64 p.x.u, .string (strL p.x.s)]) (.agg #[.int .i64 p.x.k, .int .i64 p.x.i, .int .u64 p.x.u, .string (strL p.x.s)])).run Tryd.prog W = .ok (.bool false) W := fun W => by
              rw [neq_V]
              simp
            clear hnot hpy
            refine wpAnyI_takeL (i := 0) (v := ?vhy35) (fun _ => trivial) (by kernel_rfl) rfl (by kernel_rfl) (by kernel_rfl) (by kernel_rfl) (fun _ _ _ h => h) (Or.inl ⟨by rfl, ?hy35⟩) (by assumption) ?rhy35
            case hy35 => ((intro w hSw; (try dsimp only at hSw); go_simp); try with_reducible rfl)
            try simp only [Act.put, List.setIfInBounds_toArray, List.set_cons_zero, List.set_cons_succ]
            refine wpAnyI_takeL (i := 1) (v := ?vhy36) (fun _ => trivial) (by kernel_rfl) rfl (by kernel_rfl) (by kernel_rfl) (by kernel_rfl) (fun _ _ _ h => h) (Or.inl ⟨by rfl, ?hy36⟩) (by assumption) ?rhy36
            case hy36 => ((intro w hSw; (try dsimp only at hSw); go_simp); try with_reducible rfl)
            try simp only [Act.put, List.setIfInBounds_toArray, List.set_cons_zero, List.set_cons_succ]
            refine wpAnyI_takeL (i := 2) (v := ?vhy37) (fun _ => trivial) (by kernel_rfl) rfl (by kernel_rfl) (by kernel_rfl) (by kernel_rfl) (fun _ _ _ h => h) (Or.inl ⟨by rfl, ?hy37⟩) (by assumption) ?rhy37
            case hy37 => ((intro w hSw; (try dsimp only at hSw); go_simp); try with_reducible rfl)
            try simp only [Act.put, List.setIfInBounds_toArray, List.set_cons_zero, List.set_cons_succ]
            refine wpAnyI_takeL (i := 3) (v := ?vhy38) (fun _ => trivial) (by kernel_rfl) rfl (by kernel_rfl) (by kernel_rfl) (by kernel_rfl) (fun _ _ _ h => h) (Or.inl ⟨by rfl, ?hy38⟩) (by assumption) ?rhy38
            case hy38 => ((intro w hSw; (try dsimp only at hSw); go_simp); try with_reducible rfl)
            try simp only [Act.put, List.setIfInBounds_toArray, List.set_cons_zero, List.set_cons_succ]
            refine wpAnyI_takeL (i := 4) (v := ?vhy39) (fun _ => trivial) (by kernel_rfl) rfl (by kernel_rfl) (by kernel_rfl) (by kernel_rfl) (fun _ _ _ h => h) (Or.inl ⟨by rfl, ?hy39⟩) (by assumption) ?rhy39
            case hy39 => ((intro w hSw; (try dsimp only at hSw); go_simp); try with_reducible rfl)
            try simp only [Act.put, List.setIfInBounds_toArray, List.set_cons_zero, List.set_cons_succ]
            refine wpAnyI_takeL (i := 5) (v := ?vhy40) (fun _ => trivial) (by kernel_rfl) rfl (by kernel_rfl) (by kernel_rfl) (by kernel_rfl) (fun _ _ _ h => h) (Or.inl ⟨by rfl, ?hy40⟩) (by assumption) ?rhy40
            case hy40 => ((intro w hSw; (try dsimp only at hSw); go_simp); try with_reducible rfl)
            try simp only [Act.put, List.setIfInBounds_toArray, List.set_cons_zero, List.set_cons_succ]
            refine wpAnyI_takeL (i := 6) (v := ?vhy41) (fun _ => trivial) (by kernel_rfl) rfl (by kernel_rfl) (by kernel_rfl) (by kernel_rfl) (fun _ _ _ h => h) (Or.inl ⟨by rfl, ?hy41⟩) (by assumption) ?rhy41
            case hy41 => ((intro w hSw; (try dsimp only at hSw); go_simp); try with_reducible rfl)
            try simp only [Act.put, List.setIfInBounds_toArray, List.set_cons_zero, List.set_cons_succ]
            refine wpAnyI_takeL (i := 7) (v := ?vhy42) (fun _ => trivial) (by kernel_rfl) rfl (by kernel_rfl) (by kernel_rfl) (by kernel_rfl) (fun _ _ _ h => h) (Or.inl ⟨by rfl, ?hy42⟩) (by assumption) ?rhy42
            case hy42 => ((intro w hSw; (try dsimp only at hSw); go_simp); try with_reducible rfl)
            try simp only [Act.put, List.setIfInBounds_toArray, List.set_cons_zero, List.set_cons_succ]
            refine wpAnyI_takeL (i := 8) (v := ?vhy43) (fun _ => trivial) (by kernel_rfl) rfl (by kernel_rfl) (by kernel_rfl) (by kernel_rfl) (fun _ _ _ h => h) (Or.inl ⟨by rfl, ?hy43⟩) (by assumption) ?rhy43
            case hy43 => ((intro w hSw; (try dsimp only at hSw); go_simp); try with_reducible rfl)
            try simp only [Act.put, List.setIfInBounds_toArray, List.set_cons_zero, List.set_cons_succ]
            refine wpAnyI_takeL (i := 9) (v := ?vhy44) (fun _ => trivial) (by kernel_rfl) rfl (by kernel_rfl) (by kernel_rfl) (by kernel_rfl) (fun _ _ _ h => h) (Or.inl ⟨by rfl, ?hy44⟩) (by assumption) ?rhy44
            case hy44 => ((intro w hSw; (try dsimp only at hSw); go_simp); try with_reducible rfl)
            try simp only [Act.put, List.setIfInBounds_toArray, List.set_cons_zero, List.set_cons_succ]
            refine wpAnyI_takeL (i := 10) (v := ?vhy45) (fun _ => trivial) (by kernel_rfl) rfl (by kernel_rfl) (by kernel_rfl) (by kernel_rfl) (fun _ _ _ h => h) (Or.inl ⟨by rfl, ?hy45⟩) (by assumption) ?rhy45
            case hy45 => ((intro w hSw; (try dsimp only at hSw); go_simp); try with_reducible rfl)
            try simp only [Act.put, List.setIfInBounds_toArray, List.set_cons_zero, List.set_cons_succ]
            refine wpAnyI_takeL (i := 11) (v := ?vhy46) (fun _ => trivial) (by kernel_rfl) rfl (by kernel_rfl) (by kernel_rfl) (by kernel_rfl) (fun _ _ _ h => h) (Or.inl ⟨by rfl, ?hy46⟩) (by assumption) ?rhy46
            case hy46 => ((intro w hSw; (try dsimp only at hSw); go_simp); try with_reducible rfl)
            try simp only [Act.put, List.setIfInBounds_toArray, List.set_cons_zero, List.set_cons_succ]
            refine wpAnyI_takeL (i := 12) (v := ?vhy47) (fun _ => trivial) (by kernel_rfl) rfl (by kernel_rfl) (by kernel_rfl) (by kernel_rfl) (fun _ _ _ h => h) (Or.inl ⟨by rfl, ?hy47⟩) (by assumption) ?rhy47
            case hy47 => ((intro w hSw; (try dsimp only at hSw); go_simp); try with_reducible rfl)
            try simp only [Act.put, List.setIfInBounds_toArray, List.set_cons_zero, List.set_cons_succ]
            refine wpAnyI_takeL (i := 13) (v := ?vhy48) (fun _ => trivial) (by kernel_rfl) rfl (by kernel_rfl) (by kernel_rfl) (by kernel_rfl) (fun _ _ _ h => h) (Or.inl ⟨by rfl, ?hy48⟩) (by assumption) ?rhy48
            case hy48 => ((intro w hSw; (try dsimp only at hSw); go_simp); try with_reducible rfl)
            try simp only [Act.put, List.setIfInBounds_toArray, List.set_cons_zero, List.set_cons_succ]
            refine wpAnyI_takeL (i := 14) (v := ?vhy49) (fun _ => trivial) (by kernel_rfl) rfl (by kernel_rfl) (by kernel_rfl) (by kernel_rfl) (fun _ _ _ h => h) (Or.inl ⟨by rfl, ?hy49⟩) (by assumption) ?rhy49
            case hy49 => ((intro w hSw; (try dsimp only at hSw); go_simp); try with_reducible rfl)
            try simp only [Act.put, List.setIfInBounds_toArray, List.set_cons_zero, List.set_cons_succ]
            refine wpAnyI_takeL (i := 15) (v := ?vhy50) (fun _ => trivial) (by kernel_rfl) rfl (by kernel_rfl) (by kernel_rfl) (by kernel_rfl) (fun _ _ _ h => h) (Or.inl ⟨by rfl, ?hy50⟩) (by assumption) ?rhy50
            case hy50 => ((intro w hSw; (try dsimp only at hSw); go_simp); try with_reducible rfl)
            try simp only [Act.put, List.setIfInBounds_toArray, List.set_cons_zero, List.set_cons_succ]
            refine wpAnyI_takeL (i := 16) (v := ?vhy51) (fun _ => trivial) (by kernel_rfl) rfl (by kernel_rfl) (by kernel_rfl) (by kernel_rfl) (fun _ _ _ h => h) (Or.inl ⟨by rfl, ?hy51⟩) (by assumption) ?rhy51
            case hy51 => ((intro w hSw; (try dsimp only at hSw); go_simp); try with_reducible rfl)
            try simp only [Act.put, List.setIfInBounds_toArray, List.set_cons_zero, List.set_cons_succ]
            refine wpAnyI_takeL (i := 17) (v := ?vhy52) (fun _ => trivial) (by kernel_rfl) rfl (by kernel_rfl) (by kernel_rfl) (by kernel_rfl) (fun _ _ _ h => h) (Or.inl ⟨by rfl, ?hy52⟩) (by assumption) ?rhy52
            case hy52 => ((intro w hSw; (try dsimp only at hSw); go_simp); try with_reducible rfl)
            try simp only [Act.put, List.setIfInBounds_toArray, List.set_cons_zero, List.set_cons_succ]
            refine wpAnyI_takeL (i := 18) (v := ?vhy53) (fun _ => trivial) (by kernel_rfl) rfl (by kernel_rfl) (by kernel_rfl) (by kernel_rfl) (fun _ _ _ h => h) (Or.inl ⟨by rfl, ?hy53⟩) (by assumption) ?rhy53
            case hy53 => ((intro w hSw; (try dsimp only at hSw); go_simp); try with_reducible rfl)
            try simp only [Act.put, List.setIfInBounds_toArray, List.set_cons_zero, List.set_cons_succ]
            refine wpAnyI_takeL (i := 19) (v := ?vhy54) (fun _ => trivial) (by kernel_rfl) rfl (by kernel_rfl) (by kernel_rfl) (by kernel_rfl) (fun _ _ _ h => h) (Or.inl ⟨by rfl, ?hy54⟩) (by assumption) ?rhy54
            case hy54 => ((intro w hSw; (try dsimp only at hSw); go_simp); try with_reducible rfl)
            try simp only [Act.put, List.setIfInBounds_toArray, List.set_cons_zero, List.set_cons_succ]
            refine wpAnyI_done (by kernel_rfl) ?_ _
            refine NoPanic.normal ?_
            clear hHeld e1 e2 cv hE1 hE2 hge hge2
            replace hbn := box_drew hbn
            gi_wp2
            all_goals first
              | exact ⟨((KeepsOthers.drew W).trans (KeepsOthers.setCell _ _ _)).from _, EachX.next hEI.out rfl (by omega) (hbn.set _) hKq⟩
              | exact ⟨((KeepsOthers.drew W).trans (KeepsOthers.setCell _ _ _)).from _, hKp, EachI.next hEI.out hyes (by omega) (hbn.set _) hKq⟩
          · have hE1 : ((p.at_ : Int) != (y.at_ : Int)) = true := by simp; omega
            have hno : ¬ (pre ++ [p] <+: xs) := by rw [hnot]; exact fun e => hpy (by rw [e])
            refine wpAnyI_takeL (i := 0) (v := ?vhy55) (fun _ => trivial) (by kernel_rfl) rfl (by kernel_rfl) (by kernel_rfl) (by kernel_rfl) (fun _ _ _ h => h) (Or.inl ⟨by rfl, ?hy55⟩) (by assumption) ?rhy55
            case hy55 => ((intro w hSw; (try dsimp only at hSw); go_simp); try with_reducible rfl)
            try simp only [Act.put, List.setIfInBounds_toArray, List.set_cons_zero, List.set_cons_succ]
            refine wpAnyI_takeL (i := 1) (v := ?vhy56) (fun _ => trivial) (by kernel_rfl) rfl (by kernel_rfl) (by kernel_rfl) (by kernel_rfl) (fun _ _ _ h => h) (Or.inl ⟨by rfl, ?hy56⟩) (by assumption) ?rhy56
            case hy56 => ((intro w hSw; (try dsimp only at hSw); go_simp); try with_reducible rfl)
            try simp only [Act.put, List.setIfInBounds_toArray, List.set_cons_zero, List.set_cons_succ]
            refine wpAnyI_takeL (i := 2) (v := ?vhy57) (fun _ => trivial) (by kernel_rfl) rfl (by kernel_rfl) (by kernel_rfl) (by kernel_rfl) (fun _ _ _ h => h) (Or.inl ⟨by rfl, ?hy57⟩) (by assumption) ?rhy57
            case hy57 => ((intro w hSw; (try dsimp only at hSw); go_simp); try with_reducible rfl)
            try simp only [Act.put, List.setIfInBounds_toArray, List.set_cons_zero, List.set_cons_succ]
            refine wpAnyI_takeL (i := 3) (v := ?vhy58) (fun _ => trivial) (by kernel_rfl) rfl (by kernel_rfl) (by kernel_rfl) (by kernel_rfl) (fun _ _ _ h => h) (Or.inl ⟨by rfl, ?hy58⟩) (by assumption) ?rhy58
            case hy58 => ((intro w hSw; (try dsimp only at hSw); go_simp); try with_reducible rfl)
            try simp only [Act.put, List.setIfInBounds_toArray, List.set_cons_zero, List.set_cons_succ]
            refine wpAnyI_takeL (i := 4) (v := ?vhy59) (fun _ => trivial) (by kernel_rfl) rfl (by kernel_rfl) (by kernel_rfl) (by kernel_rfl) (fun _ _ _ h => h) (Or.inl ⟨by rfl, ?hy59⟩) (by assumption) ?rhy59
            case hy59 => ((intro w hSw; (try dsimp only at hSw); go_simp); try with_reducible rfl)
            try simp only [Act.put, List.setIfInBounds_toArray, List.set_cons_zero, List.set_cons_succ]
            refine wpAnyI_takeL (i := 5) (v := ?vhy60) (fun _ => trivial) (by kernel_rfl) rfl (by kernel_rfl) (by kernel_rfl) (by kernel_rfl) (fun _ _ _ h => h) (Or.inl ⟨by rfl, ?hy60⟩) (by assumption) ?rhy60
            case hy60 => ((intro w hSw; (try dsimp only at hSw); go_simp); try with_reducible rfl)
            try simp only [Act.put, List.setIfInBounds_toArray, List.set_cons_zero, List.set_cons_succ]
            refine wpAnyI_takeL (i := 6) (v := ?vhy61) (fun _ => trivial) (by kernel_rfl) rfl (by kernel_rfl) (by kernel_rfl) (by kernel_rfl) (fun _ _ _ h => h) (Or.inl ⟨by rfl, ?hy61⟩) (by assumption) ?rhy61
            case hy61 => ((intro w hSw; (try dsimp only at hSw); go_simp); try with_reducible rfl)
            try simp only [Act.put, List.setIfInBounds_toArray, List.set_cons_zero, List.set_cons_succ]
            refine wpAnyI_takeL (i := 7) (v := ?vhy62) (fun _ => trivial) (by kernel_rfl) rfl (by kernel_rfl) (by kernel_rfl) (by kernel_rfl) (fun _ _ _ h => h) (Or.inl ⟨by rfl, ?hy62⟩) (by assumption) ?rhy62
            case hy62 => ((intro w hSw; (try dsimp only at hSw); go_simp); try with_reducible rfl)
            try simp only [Act.put, List.setIfInBounds_toArray, List.set_cons_zero, List.set_cons_succ]
            refine wpAnyI_takeL (i := 8) (v := ?vhy63) (fun _ => trivial) (by kernel_rfl) rfl (by kernel_rfl) (by kernel_rfl) (by kernel_rfl) (fun _ _ _ h => h) (Or.inl ⟨by rfl, ?hy63⟩) (by assumption) ?rhy63
            case hy63 => ((intro w hSw; (try dsimp only at hSw); go_simp); try with_reducible rfl)
            try simp only [Act.put, List.setIfInBounds_toArray, List.set_cons_zero, List.set_cons_succ]
            refine wpAnyI_takeL (i := 9) (v := ?vhy64) (fun _ => trivial) (by kernel_rfl) rfl (by kernel_rfl) (by kernel_rfl) (by kernel_rfl) (fun _ _ _ h => h) (Or.inl ⟨by rfl, ?hy64⟩) (by assumption) ?rhy64
            case hy64 => ((intro w hSw; (try dsimp only at hSw); go_simp); try with_reducible rfl)
            try simp only [Act.put, List.setIfInBounds_toArray, List.set_cons_zero, List.set_cons_succ]
            refine wpAnyI_takeL (i := 10) (v := ?vhy65) (fun _ => trivial) (by kernel_rfl) rfl (by kernel_rfl) (by kernel_rfl) (by kernel_rfl) (fun _ _ _ h => h) (Or.inl ⟨by rfl, ?hy65⟩) (by assumption) ?rhy65
            case hy65 => ((intro w hSw; (try dsimp only at hSw); go_simp); try with_reducible rfl)
            try simp only [Act.put, List.setIfInBounds_toArray, List.set_cons_zero, List.set_cons_succ]
            refine wpAnyI_takeL (i := 11) (v := ?vhy66) (fun _ => trivial) (by kernel_rfl) rfl (by kernel_rfl) (by kernel_rfl) (by kernel_rfl) (fun _ _ _ h => h) (Or.inl ⟨by rfl, ?hy66⟩) (by assumption) ?rhy66
            case hy66 => ((intro w hSw; (try dsimp only at hSw); go_simp); try with_reducible rfl)
            try simp only [Act.put, List.setIfInBounds_toArray, List.set_cons_zero, List.set_cons_succ]
            refine wpAnyI_takeL (i := 12) (v := ?vhy67) (fun _ => trivial) (by kernel_rfl) rfl (by kernel_rfl) (by kernel_rfl) (by kernel_rfl) (fun _ _ _ h => h) (Or.inl ⟨by rfl, ?hy67⟩) (by assumption) ?rhy67
            case hy67 => ((intro w hSw; (try dsimp only at hSw); go_simp); try with_reducible rfl)
            try simp only [Act.put, List.setIfInBounds_toArray, List.set_cons_zero, List.set_cons_succ]
            refine wpAnyI_takeL (i := 13) (v := undef) (fun _ => trivial) (by kernel_rfl) rfl (by kernel_rfl) (by kernel_rfl) (by kernel_rfl) (fun _ _ _ h => h) (Or.inr ⟨by rfl, rfl⟩) (by assumption) ?_
            try simp only [Act.put, List.setIfInBounds_toArray, List.set_cons_zero, List.set_cons_succ]
            refine wpAnyI_takeL (i := 14) (v := undef) (fun _ => trivial) (by kernel_rfl) rfl (by kernel_rfl) (by kernel_rfl) (by kernel_rfl) (fun _ _ _ h => h) (Or.inr ⟨by rfl, rfl⟩) (by assumption) ?_
            try simp only [Act.put, List.setIfInBounds_toArray, List.set_cons_zero, List.set_cons_succ]
            refine wpAnyI_takeL (i := 15) (v := undef) (fun _ => trivial) (by kernel_rfl) rfl (by kernel_rfl) (by kernel_rfl) (by kernel_rfl) (fun _ _ _ h => h) (Or.inr ⟨by rfl, rfl⟩) (by assumption) ?_
            try simp only [Act.put, List.setIfInBounds_toArray, List.set_cons_zero, List.set_cons_succ]
            refine wpAnyI_takeL (i := 16) (v := undef) (fun _ => trivial) (by kernel_rfl) rfl (by kernel_rfl) (by kernel_rfl) (by kernel_rfl) (fun _ _ _ h => h) (Or.inr ⟨by rfl, rfl⟩) (by assumption) ?_
            try simp only [Act.put, List.setIfInBounds_toArray, List.set_cons_zero, List.set_cons_succ]
            refine wpAnyI_takeL (i := 17) (v := undef) (fun _ => trivial) (by kernel_rfl) rfl (by kernel_rfl) (by kernel_rfl) (by kernel_rfl) (fun _ _ _ h => h) (Or.inr ⟨by rfl, rfl⟩) (by assumption) ?_
            try simp only [Act.put, List.setIfInBounds_toArray, List.set_cons_zero, List.set_cons_succ]
            refine wpAnyI_takeL (i := 18) (v := undef) (fun _ => trivial) (by kernel_rfl) rfl (by kernel_rfl) (by kernel_rfl) (by kernel_rfl) (fun _ _ _ h => h) (Or.inr ⟨by rfl, rfl⟩) (by assumption) ?_
            try simp only [Act.put, List.setIfInBounds_toArray, List.set_cons_zero, List.set_cons_succ]
            refine wpAnyI_takeL (i := 19) (v := ?vhy68) (fun _ => trivial) (by kernel_rfl) rfl (by kernel_rfl) (by kernel_rfl) (by kernel_rfl) (fun _ _ _ h => h) (Or.inl ⟨by rfl, ?hy68⟩) (by assumption) ?rhy68
            case hy68 => ((intro w hSw; (try dsimp only at hSw); go_simp); try with_reducible rfl)
            try simp only [Act.put, List.setIfInBounds_toArray, List.set_cons_zero, List.set_cons_succ]
            refine wpAnyI_done (by kernel_rfl) ?_ _
            refine NoPanic.normal ?_
            clear hHeld e1 e2 cv hE1 hge hge2
            gi_wp2
            exact ⟨((KeepsOthers.drew W).trans (KeepsOthers.setCell _ _ _)).from _, EachX.no hno⟩
        rintro E zs Wb hDE ⟨hE0, hE1, hbn, hBW⟩ hKE
        replace hE0 := hE0
        have hVs := hVs.trans (hBW.mono hVV)
        replace hT := hT.more hBW
        replace hM1 := box_in hM1 hBW
        replace hB1 := box_in hB1 hBW
        replace hTn := box_in hTn hBW
        have hMw := hM1.cell
        have hTnw := hTn.cell
        have cB := hT.boxB.cell
        have cn := hbn.cell
        have hmin : (((zs.length : Int)) != (xs.length : Int)) = false := by simp [hE1 (by decide)]
        have hEl : E < Wb.heap.size := (Array.getElem?_eq_some_iff.1 hKE).1
        replace hKD := (hBW.block D (by omega)).trans hKD2
        clear hE0 hE1 hVW hNn hVV hTlt hn1 hn2 hn3 hn4 hTtc hTtf
        go_wp2
        rw [rounds_succ]
        replace hTn := (Boxed.new Wb 3 (.int .i64 2)).cell
        have hTs := (Below.refl Wb.heap.size Wb).alloc (Nat.le_refl _) (.cells #[.int .i64 2] 3)
        replace hB1 := hB1.alloc (.cells #[.int .i64 2] 3)
        replace hT := (hT.alloc (.cells #[.int .i64 2] 3))
        replace hKD := (hTs.block D (by have := hBW.size; omega)).trans hKD
        replace hKE := (hTs.block E hEl).trans hKE
        have hTz := hTs.size
        have hbel2 := hBW.size
        clear hMw hTnw cB cn hmin hbn hBW hTs
        generalize (Wb.alloc (.cells #[.int .i64 2] 3)) = W5 at *
        go_wp2_with fail
        refine (works_any _).mono ?_
        rintro e W6 ⟨rfl, hb6⟩
        replace hB1 := box_in hB1 hb6
        replace hKD := (hb6.block D (by omega)).trans hKD
        replace hKE := (hb6.block E (by omega)).trans hKE
        have hbase : Below w.heap.size w W6 := (hb4.trans (hT.below.mono (by omega))).trans (hb6.mono (by omega))
        have cR := hB1.cell
        have fR := hB1.frozen
        have c1 := (hB1.set (.bool true)).cell
        clear hT hM1 hTn hb6 hVs hBn hEq
        go_wp2
        have k1 := (KeepsOthers.setCell W6 ⟨w.heap.size + 1, 0, none⟩ (.bool true)).same E _ hKE rfl
        have k2 := (KeepsOthers.setCell W6 ⟨w.heap.size + 1, 0, none⟩ (.bool true)).same D _ hKD rfl
        have k3 : ((W6.setCell ⟨w.heap.size + 1, 0, none⟩ (.bool true)).putObj E (.deferred none)).heap[D]? = some (.deferred (some [])) := (World.putObj_heap_other (by omega)).trans k2
        refine ⟨by simp, .inl ⟨_, _, rfl, run_takeDeferred k1, ⟨by simp, .inl ⟨_, _, rfl, run_takeDeferred k3, ?_⟩⟩⟩⟩
        have c2 := cell_kept c1 (grownBy_putObj' _ E (.deferred none)) (fun r e => by cases e; exact ⟨_, k1, rfl⟩)
        have c3 := cell_kept c2 (grownBy_putObj' _ D (.deferred none)) (fun r e => by cases e; exact ⟨_, k3, rfl⟩)
        refine ⟨.bool true, ?_, rfl, ((hbase.setCell (p := ⟨w.heap.size + 1, 0, none⟩) (by simp) _).trans (belowK_b (w := w) (Nat.le_refl _) _ E _ _ (by omega) k1 rfl rfl)).trans (belowK_b (w := w) (Nat.le_refl _) _ D _ _ (by omega) k3 rfl rfl)⟩
        simp [results, Tryd.f5, go_sem, c3]
      | more p rest hch =>
        have hkl := p.step
        have hrd : rdV (l.drop p.at_) = (p.x, p.k) := by unfold rdV; rw [p.reads]
        go_wp2_with fail
        refine hRd.out.mono ?_
        rw [hrd]
        unfold ReadPV
        simp only [Vl.val, valV]
        rintro e W1 ⟨rfl, hb1⟩
        clear hRd hrd hex
        replace hT := hT.more hb1
        clear hb1
        have hk0 : ((p.k : Int) == 0) = false := by simp; omega
        have hv := VBox.new W1 p.x.k p.x.i p.x.u (strL p.x.s)
        have hfar : ∀ q, ab A1 = some q → q < W1.heap.size := fun q hq => (hT.rowA.ab q hq).2
        have hfar2 : ∀ q, ab A2 = some q → q < W1.heap.size := fun q hq => (hT.rowB.ab q hq).2
        have hvge : w.heap.size + 1 + 1 + 2 ≤ W1.heap.size := hT.size
        replace hT := hT.alloc (.cells #[.int .i64 p.x.k, .int .i64 p.x.i, .int .u64 p.x.u, .string (strL p.x.s)] 42)
        go_wp2_with fail
        generalize (W1.alloc (.cells #[.int .i64 p.x.k, .int .i64 p.x.i, .int .u64 p.x.u, .string (strL p.x.s)] 42)) = Wv at *
        generalize W1.heap.size = vb at *
        have hvlt := hv.lt
        refine wp_region_noPanic ?_
        have cA := hT.boxA.cell
        have cB := hT.boxB.cell
        have cv := hv.cells
        refine wp_region_C (C := TwoCV (fun w' => w'.cell? ⟨vb, 0, none⟩ = some (.int .i64 p.x.k) ∧ w'.cell? ⟨vb, 1, none⟩ = some (.int .i64 p.x.i) ∧ w'.cell? ⟨vb, 2, none⟩ = some (.int .u64 p.x.u) ∧ w'.cell? ⟨vb, 3, none⟩ = some (.string (strL p.x.s))) (fun w' => w'.cell? ⟨w.heap.size + 1 + 1, 0, none⟩ = some (.slice A1 pre.length c1)) (fun w' => w'.cell? ⟨w.heap.size + 1 + 1 + 1, 0, none⟩ = some (.slice A2 pre.length c2))) (by kernel_rfl) ?_
        refine wpAnyC_takeL (S := (fun w' => w'.cell? ⟨vb, 0, none⟩ = some (.int .i64 p.x.k) ∧ w'.cell? ⟨vb, 1, none⟩ = some (.int .i64 p.x.i) ∧ w'.cell? ⟨vb, 2, none⟩ = some (.int .u64 p.x.u) ∧ w'.cell? ⟨vb, 3, none⟩ = some (.string (strL p.x.s)))) (i := 5) (v := ?vhz69) rfl (by kernel_rfl) (by kernel_rfl) (by kernel_rfl) (fun _ _ _ h => h) (Or.inl ⟨by rfl, ?hz69⟩) ?shz69 ?chz69 ?ihz69 ?rhz69
        case hz69 => ((intro w hSw; (try dsimp only at hSw); (try obtain ⟨hSw1, hSw2⟩ := hSw); go_simp); try with_reducible rfl)
        case shz69 => first | trivial | assumption | exact ⟨by assumption, by assumption⟩ | exact ⟨by assumption, by assumption, by assumption⟩
        case chz69 => (rintro (_|_|_|_|_|_|_|_|_|_|j) w hne hl hw hc <;> first | trivial | exact hc | exact hc.1 | exact hc.2 | exact ⟨hc.1, hc.2.2⟩ | exact absurd hl (by decide) | exact absurd rfl hne | exact (Bool.false_ne_true (hw.symm.trans (by kernel_rfl))).elim)
        case ihz69 => (intro w hc; first | trivial | exact hc | exact hc.1 | exact hc.2 | exact ⟨hc.1, hc.2.2⟩)
        try simp only [Act.put, List.setIfInBounds_toArray, List.set_cons_zero, List.set_cons_succ]
        refine wpAnyC_takeL (S := (fun w' => (w'.cell? ⟨vb, 0, none⟩ = some (.int .i64 p.x.k) ∧ w'.cell? ⟨vb, 1, none⟩ = some (.int .i64 p.x.i) ∧ w'.cell? ⟨vb, 2, none⟩ = some (.int .u64 p.x.u) ∧ w'.cell? ⟨vb, 3, none⟩ = some (.string (strL p.x.s))) ∧ w'.cell? ⟨w.heap.size + 1 + 1 + 1, 0, none⟩ = some (.slice A2 pre.length c2))) (i := 4) (v := ?vhz70) rfl (by kernel_rfl) (by kernel_rfl) (by kernel_rfl) (fun _ _ _ h => h) (Or.inl ⟨by rfl, ?hz70⟩) ?shz70 ?chz70 ?ihz70 ?rhz70
        case hz70 => ((intro w hSw; (try dsimp only at hSw); (try obtain ⟨hSw1, hSw2⟩ := hSw); go_simp); try with_reducible rfl)
        case shz70 => first | trivial | assumption | exact ⟨by assumption, by assumption⟩ | exact ⟨by assumption, by assumption, by assumption⟩
        case chz70 => (rintro (_|_|_|_|_|_|_|_|_|_|j) w hne hl hw hc <;> first | trivial | exact hc | exact hc.1 | exact hc.2 | exact ⟨hc.1, hc.2.2⟩ | exact absurd hl (by decide) | exact absurd rfl hne | exact (Bool.false_ne_true (hw.symm.trans (by kernel_rfl))).elim)
        case ihz70 => (intro w hc; first | trivial | exact hc | exact hc.1 | exact hc.2 | exact ⟨hc.1, hc.2.2⟩)
        try simp only [Act.put, List.setIfInBounds_toArray, List.set_cons_zero, List.set_cons_succ]
        refine wpAnyC_takeL (S := (fun w' => (w'.cell? ⟨vb, 0, none⟩ = some (.int .i64 p.x.k) ∧ w'.cell? ⟨vb, 1, none⟩ = some (.int .i64 p.x.i) ∧ w'.cell? ⟨vb, 2, none⟩ = some (.int .u64 p.x.u) ∧ w'.cell? ⟨vb, 3, none⟩ = some (.string (strL p.x.s))) ∧ w'.cell? ⟨w.heap.size + 1 + 1, 0, none⟩ = some (.slice A1 pre.length c1) ∧ w'.cell? ⟨w.heap.size + 1 + 1 + 1, 0, none⟩ = some (.slice A2 pre.length c2))) (i := 0) (v := ?vhz71) rfl (by kernel_rfl) (by kernel_rfl) (by kernel_rfl) (fun _ _ _ h => h) (Or.inl ⟨by rfl, ?hz71⟩) ?shz71 ?chz71 ?ihz71 ?rhz71
        case hz71 => ((intro w hSw; (try dsimp only at hSw); (try obtain ⟨hSw1, hSw2⟩ := hSw); go_simp); try with_reducible rfl)
        case shz71 => first | trivial | assumption | exact ⟨by assumption, by assumption⟩ | exact ⟨by assumption, by assumption, by assumption⟩
        case chz71 => (rintro (_|_|_|_|_|_|_|_|_|_|j) w hne hl hw hc <;> first | trivial | exact hc | exact hc.1 | exact hc.2 | exact ⟨hc.1, hc.2.2⟩ | exact absurd hl (by decide) | exact absurd rfl hne | exact (Bool.false_ne_true (hw.symm.trans (by kernel_rfl))).elim)
        case ihz71 => (intro w hc; first | trivial | exact hc | exact hc.1 | exact hc.2 | exact ⟨hc.1, hc.2.2⟩)
        try simp only [Act.put, List.setIfInBounds_toArray, List.set_cons_zero, List.set_cons_succ]
        refine wpAnyC_takeL (S := (fun w' => (w'.cell? ⟨vb, 0, none⟩ = some (.int .i64 p.x.k) ∧ w'.cell? ⟨vb, 1, none⟩ = some (.int .i64 p.x.i) ∧ w'.cell? ⟨vb, 2, none⟩ = some (.int .u64 p.x.u) ∧ w'.cell? ⟨vb, 3, none⟩ = some (.string (strL p.x.s))) ∧ w'.cell? ⟨w.heap.size + 1 + 1, 0, none⟩ = some (.slice A1 pre.length c1) ∧ w'.cell? ⟨w.heap.size + 1 + 1 + 1, 0, none⟩ = some (.slice A2 pre.length c2))) (i := 1) (v := ?vhz72) rfl (by kernel_rfl) (by kernel_rfl) (by kernel_rfl) (fun _ _ _ h => h) (Or.inl ⟨by rfl, ?hz72⟩) ?shz72 ?chz72 ?ihz72 ?rhz72
        case hz72 => ((intro w hSw; (try dsimp only at hSw); (try obtain ⟨hSw1, hSw2⟩ := hSw); go_simp); try with_reducible rfl)
        case shz72 => first | trivial | assumption | exact ⟨by assumption, by assumption⟩ | exact ⟨by assumption, by assumption, by assumption⟩
        case chz72 => (rintro (_|_|_|_|_|_|_|_|_|_|j) w hne hl hw hc <;> first | trivial | exact hc | exact hc.1 | exact hc.2 | exact ⟨hc.1, hc.2.2⟩ | exact absurd hl (by decide) | exact absurd rfl hne | exact (Bool.false_ne_true (hw.symm.trans (by kernel_rfl))).elim)
        case ihz72 => (intro w hc; first | trivial | exact hc | exact hc.1 | exact hc.2 | exact ⟨hc.1, hc.2.2⟩)
        try simp only [Act.put, List.setIfInBounds_toArray, List.set_cons_zero, List.set_cons_succ]
        clear cA cB cv
        have hs : Wv.heap.size ≤ Wv.heap.size := Nat.le_refl _
        refine wpAnyC_ready (rs := [2, 6]) (by kernel_rfl) (by simp) ?_
        refine (AllReadyC.consL (i := 2) rfl (fun K hK => ?_) (AllReadyC.consL (i := 6) rfl (fun K hK => ?_) AllReadyC.nil))
        · skip
          go_simp
          replace hT := (hT.alloc (.cells #[.int .i64 (p.at_ : Int)] 3)).drew
          have hI : Boxed (Wv.alloc (.cells #[.int .i64 (p.at_ : Int)] 3)).drew Wv.heap.size 3 (.int .i64 (p.at_ : Int)) := Boxed.new Wv 3 _
          --replace hJ := hJ.below ((Below.refl _ _).alloc (Nat.le_refl _) (.cells #[.int .i64 (p.at_ : Int)] 3)) hJ.lt
          replace hv := (hv.below ((Below.refl _ _).alloc (Nat.le_refl _) (.cells #[.int .i64 (p.at_ : Int)] 3)) hv.lt).drew
          have hs : Wv.heap.size ≤ (Wv.alloc (.cells #[.int .i64 (p.at_ : Int)] 3)).drew.heap.size := by (try simp); (try omega)
          refine hK.out _ _ ⟨hv.cells, hT.boxA.cell, hT.boxB.cell⟩ ?_
          generalize (Wv.alloc (.cells #[.int .i64 (p.at_ : Int)] 3)).drew = W2 at *
          clear hK
          try simp only [Act.put, List.setIfInBounds_toArray, List.set_cons_zero, List.set_cons_succ]
          refine wpAnyC_ready (rs := [3, 6]) (by kernel_rfl) (by simp) ?_
          refine (AllReadyC.consL (i := 3) rfl (fun K hK => ?_) (AllReadyC.consL (i := 6) rfl (fun K hK => ?_) AllReadyC.nil))
          · skip
            refine step_append_1 _ rfl (.tmp 32) (.tmp 34) 38 rfl 3 (.int .i64 0) 1 8 Tryd.underlying38 (by kernel_rfl) rfl (by decide) (w.heap.size + 1 + 1 + 2) A1 pre.length c1 _ rfl hT.rowA _ 1 [.int .i64 (p.at_ : Int)] rfl (Rv.of_cell hI.cell) (by simp [Value.oneCell']) (by omega) (by decide) hT.size ?_
            intro A3 c3 W3 hown hgrow hab
            replace hT := hT.appA hown hgrow hab
            replace hs := Nat.le_trans hs hgrow.size
            --replace hJ := (hgrow.block _ hJ.lt (fun e => by have := hfar _ e.symm; omega)).trans hJ
            replace hv : VBox W3 vb p.x.k p.x.i p.x.u (strL p.x.s) := (hgrow.block _ hv.lt (fun e => by have := hfar _ e.symm; omega)).trans hv
            refine hK.out _ _ ⟨hv.cells, hT.boxA.cell, hT.boxB.cell⟩ ?_
            clear hK hown hgrow hab hI
            try simp only [Act.put, List.setIfInBounds_toArray, List.set_cons_zero, List.set_cons_succ]
            refine wpAnyC_ready (rs := [6]) (by kernel_rfl) (by simp) ?_
            refine (AllReadyC.consL (i := 6) rfl (fun K hK => ?_) AllReadyC.nil)
            go_simp
            replace hT := (hT.alloc (.cells #[.int .i64 p.x.k, .int .i64 p.x.i, .int .u64 p.x.u, .string (strL p.x.s)] 42))
            have hJ : VBox (W3.alloc (.cells #[.int .i64 p.x.k, .int .i64 p.x.i, .int .u64 p.x.u, .string (strL p.x.s)] 42)) W3.heap.size p.x.k p.x.i p.x.u (strL p.x.s) := VBox.new W3 _ _ _ _
            --replace hI := hI.alloc (.cells #[.int .i64 p.x.k, .int .i64 p.x.i, .int .u64 p.x.u, .string (strL p.x.s)] 42)
            replace hv := (hv.below ((Below.refl _ _).alloc (Nat.le_refl _) (.cells #[.int .i64 p.x.k, .int .i64 p.x.i, .int .u64 p.x.u, .string (strL p.x.s)] 42)) hv.lt)
            have hs : Wv.heap.size ≤ (W3.alloc (.cells #[.int .i64 p.x.k, .int .i64 p.x.i, .int .u64 p.x.u, .string (strL p.x.s)] 42)).heap.size := by (try simp); (try omega)
            refine hK.out _ _ ⟨hv.cells, hT.boxA.cell, hT.boxB.cell⟩ ?_
            generalize (W3.alloc (.cells #[.int .i64 p.x.k, .int .i64 p.x.i, .int .u64 p.x.u, .string (strL p.x.s)] 42)) = W4 at *
            clear hK
            try simp only [Act.put, List.setIfInBounds_toArray, List.set_cons_zero, List.set_cons_succ]
            refine wpAnyC_ready (rs := [7]) (by kernel_rfl) (by simp) ?_
            refine (AllReadyC.consL (i := 7) rfl (fun K hK => ?_) AllReadyC.nil)
            refine step_append_1 _ rfl (.tmp 36) (.tmp 38) 22 rfl 42 (.agg #[.int .i64 0, .int .i64 0, .int .u64 0, .string ByteArray.empty]) 4 40 Tryd.underlying22 info_V rfl (by decide) (w.heap.size + 1 + 1 + 2) A2 pre.length c2 _ rfl hT.rowB _ 1 p.x.cells rfl (VBox.rv hJ) (by simp [Vl.cells, Value.oneCell']) (by omega) (by decide) hT.size ?_
            intro A4 c4 W5 hown hgrow hab
            replace hT := hT.appB hown hgrow hab
            replace hv : VBox W5 vb p.x.k p.x.i p.x.u (strL p.x.s) := (hgrow.block _ hv.lt (fun e => by have := hfar2 _ e.symm; omega)).trans hv
            refine hK.out _ _ ⟨hv.cells, hT.boxA.cell, hT.boxB.cell⟩ ?_
            clear hK hown hgrow hab hJ
            try simp only [Act.put, List.setIfInBounds_toArray, List.set_cons_zero, List.set_cons_succ]
            refine wpAnyC_ready (rs := [8]) (by kernel_rfl) (by simp) ?_
            refine (AllReadyC.consL (i := 8) rfl (fun K hK => ?_) AllReadyC.nil)
            have c8 := hT.boxA.cell
            have f8 := hT.boxA.frozen
            go_simp
            replace hT := hT.setA (.slice A3 (pre.length + 1) c3)
            replace hv := hv.other (B' := w.heap.size + 1 + 1) (o := 0) (by omega) (.slice A3 (pre.length + 1) c3)
            refine hK.out _ _ ⟨hv.cells, hT.boxB.cell⟩ ?_
            clear hK c8 f8
            try simp only [Act.put, List.setIfInBounds_toArray, List.set_cons_zero, List.set_cons_succ]
            refine wpAnyC_ready (rs := [9]) (by kernel_rfl) (by simp) ?_
            refine (AllReadyC.consL (i := 9) rfl (fun K hK => ?_) AllReadyC.nil)
            have c8 := hT.boxB.cell
            have f8 := hT.boxB.frozen
            go_simp
            replace hT := hT.setB (.slice A4 (pre.length + 1) c4)
            refine hK.out _ _ trivial ?_
            clear hK c8 f8
            try simp only [Act.put, List.setIfInBounds_toArray, List.set_cons_zero, List.set_cons_succ]
            refine wpAnyC_done (by kernel_rfl) ?_ _
            refine NoPanic.normal ?_
            go_wp2
            refine ⟨⟨pre ++ [p], rest, p.at_ + p.k, A3, A4, c3, c4, by simp, by omega, by simp [hpre], hch, ?_⟩, by simp [intOf]; omega⟩
            simpa [vcells] using hT
          · skip
            go_simp
            replace hT := (hT.alloc (.cells #[.int .i64 p.x.k, .int .i64 p.x.i, .int .u64 p.x.u, .string (strL p.x.s)] 42))
            have hJ : VBox (W2.alloc (.cells #[.int .i64 p.x.k, .int .i64 p.x.i, .int .u64 p.x.u, .string (strL p.x.s)] 42)) W2.heap.size p.x.k p.x.i p.x.u (strL p.x.s) := VBox.new W2 _ _ _ _
            replace hI := hI.alloc (.cells #[.int .i64 p.x.k, .int .i64 p.x.i, .int .u64 p.x.u, .string (strL p.x.s)] 42)
            replace hv := (hv.below ((Below.refl _ _).alloc (Nat.le_refl _) (.cells #[.int .i64 p.x.k, .int .i64 p.x.i, .int .u64 p.x.u, .string (strL p.x.s)] 42)) hv.lt)
            have hs : Wv.heap.size ≤ (W2.alloc (.cells #[.int .i64 p.x.k, .int .i64 p.x.i, .int .u64 p.x.u, .string (strL p.x.s)] 42)).heap.size := by (try simp); (try omega)
            refine hK.out _ _ ⟨hv.cells, hT.boxA.cell, hT.boxB.cell⟩ ?_
            generalize (W2.alloc (.cells #[.int .i64 p.x.k, .int .i64 p.x.i, .int .u64 p.x.u, .string (strL p.x.s)] 42)) = W3 at *
            clear hK
            try simp only [Act.put, List.setIfInBounds_toArray, List.set_cons_zero, List.set_cons_succ]
            refine wpAnyC_ready (rs := [3]) (by kernel_rfl) (by simp) ?_
            refine (AllReadyC.consL (i := 3) rfl (fun K hK => ?_) AllReadyC.nil)
            refine step_append_1 _ rfl (.tmp 32) (.tmp 34) 38 rfl 3 (.int .i64 0) 1 8 Tryd.underlying38 (by kernel_rfl) rfl (by decide) (w.heap.size + 1 + 1 + 2) A1 pre.length c1 _ rfl hT.rowA _ 1 [.int .i64 (p.at_ : Int)] rfl (Rv.of_cell hI.cell) (by simp [Value.oneCell']) (by omega) (by decide) hT.size ?_
            intro A3 c3 W4 hown hgrow hab
            replace hT := hT.appA hown hgrow hab
            replace hs := Nat.le_trans hs hgrow.size
            replace hJ := (hgrow.block _ hJ.lt (fun e => by have := hfar _ e.symm; omega)).trans hJ
            replace hv : VBox W4 vb p.x.k p.x.i p.x.u (strL p.x.s) := (hgrow.block _ hv.lt (fun e => by have := hfar _ e.symm; omega)).trans hv
            refine hK.out _ _ ⟨hv.cells, hT.boxA.cell, hT.boxB.cell⟩ ?_
            clear hK hown hgrow hab hI
            try simp only [Act.put, List.setIfInBounds_toArray, List.set_cons_zero, List.set_cons_succ]
            refine wpAnyC_ready (rs := [7]) (by kernel_rfl) (by simp) ?_
            refine (AllReadyC.consL (i := 7) rfl (fun K hK => ?_) AllReadyC.nil)
            refine step_append_1 _ rfl (.tmp 36) (.tmp 38) 22 rfl 42 (.agg #[.int .i64 0, .int .i64 0, .int .u64 0, .string ByteArray.empty]) 4 40 Tryd.underlying22 info_V rfl (by decide) (w.heap.size + 1 + 1 + 2) A2 pre.length c2 _ rfl hT.rowB _ 1 p.x.cells rfl (VBox.rv hJ) (by simp [Vl.cells, Value.oneCell']) (by omega) (by decide) hT.size ?_
            intro A4 c4 W5 hown hgrow hab
            replace hT := hT.appB hown hgrow hab
            replace hv : VBox W5 vb p.x.k p.x.i p.x.u (strL p.x.s) := (hgrow.block _ hv.lt (fun e => by have := hfar2 _ e.symm; omega)).trans hv
            refine hK.out _ _ ⟨hv.cells, hT.boxA.cell, hT.boxB.cell⟩ ?_
            clear hK hown hgrow hab hJ
            try simp only [Act.put, List.setIfInBounds_toArray, List.set_cons_zero, List.set_cons_succ]
            refine wpAnyC_ready (rs := [8]) (by kernel_rfl) (by simp) ?_
            refine (AllReadyC.consL (i := 8) rfl (fun K hK => ?_) AllReadyC.nil)
            have c8 := hT.boxA.cell
            have f8 := hT.boxA.frozen
            go_simp
            replace hT := hT.setA (.slice A3 (pre.length + 1) c3)
            replace hv := hv.other (B' := w.heap.size + 1 + 1) (o := 0) (by omega) (.slice A3 (pre.length + 1) c3)
            refine hK.out _ _ ⟨hv.cells, hT.boxB.cell⟩ ?_
            clear hK c8 f8
            try simp only [Act.put, List.setIfInBounds_toArray, List.set_cons_zero, List.set_cons_succ]
            refine wpAnyC_ready (rs := [9]) (by kernel_rfl) (by simp) ?_
            refine (AllReadyC.consL (i := 9) rfl (fun K hK => ?_) AllReadyC.nil)
            have c8 := hT.boxB.cell
            have f8 := hT.boxB.frozen
            go_simp
            replace hT := hT.setB (.slice A4 (pre.length + 1) c4)
            refine hK.out _ _ trivial ?_
            clear hK c8 f8
            try simp only [Act.put, List.setIfInBounds_toArray, List.set_cons_zero, List.set_cons_succ]
            refine wpAnyC_done (by kernel_rfl) ?_ _
            refine NoPanic.normal ?_
            go_wp2
            refine ⟨⟨pre ++ [p], rest, p.at_ + p.k, A3, A4, c3, c4, by simp, by omega, by simp [hpre], hch, ?_⟩, by simp [intOf]; omega⟩
            simpa [vcells] using hT
        · skip
          go_simp
          replace hT := (hT.alloc (.cells #[.int .i64 p.x.k, .int .i64 p.x.i, .int .u64 p.x.u, .string (strL p.x.s)] 42)).drew
          have hJ : VBox (Wv.alloc (.cells #[.int .i64 p.x.k, .int .i64 p.x.i, .int .u64 p.x.u, .string (strL p.x.s)] 42)).drew Wv.heap.size p.x.k p.x.i p.x.u (strL p.x.s) := VBox.new Wv _ _ _ _
          --replace hI := hI.alloc (.cells #[.int .i64 p.x.k, .int .i64 p.x.i, .int .u64 p.x.u, .string (strL p.x.s)] 42)
          replace hv := (hv.below ((Below.refl _ _).alloc (Nat.le_refl _) (.cells #[.int .i64 p.x.k, .int .i64 p.x.i, .int .u64 p.x.u, .string (strL p.x.s)] 42)) hv.lt).drew
          have hs : Wv.heap.size ≤ (Wv.alloc (.cells #[.int .i64 p.x.k, .int .i64 p.x.i, .int .u64 p.x.u, .string (strL p.x.s)] 42)).drew.heap.size := by (try simp); (try omega)
          refine hK.out _ _ ⟨hv.cells, hT.boxA.cell, hT.boxB.cell⟩ ?_
          generalize (Wv.alloc (.cells #[.int .i64 p.x.k, .int .i64 p.x.i, .int .u64 p.x.u, .string (strL p.x.s)] 42)).drew = W2 at *
          clear hK
          try simp only [Act.put, List.setIfInBounds_toArray, List.set_cons_zero, List.set_cons_succ]
          refine wpAnyC_ready (rs := [2]) (by kernel_rfl) (by simp) ?_
          refine (AllReadyC.consL (i := 2) rfl (fun K hK => ?_) AllReadyC.nil)
          go_simp
          replace hT := (hT.alloc (.cells #[.int .i64 (p.at_ : Int)] 3))
          have hI : Boxed (W2.alloc (.cells #[.int .i64 (p.at_ : Int)] 3)) W2.heap.size 3 (.int .i64 (p.at_ : Int)) := Boxed.new W2 3 _
          replace hJ := hJ.below ((Below.refl _ _).alloc (Nat.le_refl _) (.cells #[.int .i64 (p.at_ : Int)] 3)) hJ.lt
          replace hv := (hv.below ((Below.refl _ _).alloc (Nat.le_refl _) (.cells #[.int .i64 (p.at_ : Int)] 3)) hv.lt)
          have hs : Wv.heap.size ≤ (W2.alloc (.cells #[.int .i64 (p.at_ : Int)] 3)).heap.size := by (try simp); (try omega)
          refine hK.out _ _ ⟨hv.cells, hT.boxA.cell, hT.boxB.cell⟩ ?_
          generalize (W2.alloc (.cells #[.int .i64 (p.at_ : Int)] 3)) = W3 at *
          clear hK
          try simp only [Act.put, List.setIfInBounds_toArray, List.set_cons_zero, List.set_cons_succ]
          refine wpAnyC_ready (rs := [3]) (by kernel_rfl) (by simp) ?_
          refine (AllReadyC.consL (i := 3) rfl (fun K hK => ?_) AllReadyC.nil)
          refine step_append_1 _ rfl (.tmp 32) (.tmp 34) 38 rfl 3 (.int .i64 0) 1 8 Tryd.underlying38 (by kernel_rfl) rfl (by decide) (w.heap.size + 1 + 1 + 2) A1 pre.length c1 _ rfl hT.rowA _ 1 [.int .i64 (p.at_ : Int)] rfl (Rv.of_cell hI.cell) (by simp [Value.oneCell']) (by omega) (by decide) hT.size ?_
          intro A3 c3 W4 hown hgrow hab
          replace hT := hT.appA hown hgrow hab
          replace hs := Nat.le_trans hs hgrow.size
          replace hJ := (hgrow.block _ hJ.lt (fun e => by have := hfar _ e.symm; omega)).trans hJ
          replace hv : VBox W4 vb p.x.k p.x.i p.x.u (strL p.x.s) := (hgrow.block _ hv.lt (fun e => by have := hfar _ e.symm; omega)).trans hv
          refine hK.out _ _ ⟨hv.cells, hT.boxA.cell, hT.boxB.cell⟩ ?_
          clear hK hown hgrow hab hI
          try simp only [Act.put, List.setIfInBounds_toArray, List.set_cons_zero, List.set_cons_succ]
          refine wpAnyC_ready (rs := [7]) (by kernel_rfl) (by simp) ?_
          refine (AllReadyC.consL (i := 7) rfl (fun K hK => ?_) AllReadyC.nil)
          refine step_append_1 _ rfl (.tmp 36) (.tmp 38) 22 rfl 42 (.agg #[.int .i64 0, .int .i64 0, .int .u64 0, .string ByteArray.empty]) 4 40 Tryd.underlying22 info_V rfl (by decide) (w.heap.size + 1 + 1 + 2) A2 pre.length c2 _ rfl hT.rowB _ 1 p.x.cells rfl (VBox.rv hJ) (by simp [Vl.cells, Value.oneCell']) (by omega) (by decide) hT.size ?_
          intro A4 c4 W5 hown hgrow hab
          replace hT := hT.appB hown hgrow hab
          replace hv : VBox W5 vb p.x.k p.x.i p.x.u (strL p.x.s) := (hgrow.block _ hv.lt (fun e => by have := hfar2 _ e.symm; omega)).trans hv
          refine hK.out _ _ ⟨hv.cells, hT.boxA.cell, hT.boxB.cell⟩ ?_
          clear hK hown hgrow hab hJ
          try simp only [Act.put, List.setIfInBounds_toArray, List.set_cons_zero, List.set_cons_succ]
          refine wpAnyC_ready (rs := [8]) (by kernel_rfl) (by simp) ?_
          refine (AllReadyC.consL (i := 8) rfl (fun K hK => ?_) AllReadyC.nil)
          have c8 := hT.boxA.cell
          have f8 := hT.boxA.frozen
          go_simp
          replace hT := hT.setA (.slice A3 (pre.length + 1) c3)
          replace hv := hv.other (B' := w.heap.size + 1 + 1) (o := 0) (by omega) (.slice A3 (pre.length + 1) c3)
          refine hK.out _ _ ⟨hv.cells, hT.boxB.cell⟩ ?_
          clear hK c8 f8
          try simp only [Act.put, List.setIfInBounds_toArray, List.set_cons_zero, List.set_cons_succ]
          refine wpAnyC_ready (rs := [9]) (by kernel_rfl) (by simp) ?_
          refine (AllReadyC.consL (i := 9) rfl (fun K hK => ?_) AllReadyC.nil)
          have c8 := hT.boxB.cell
          have f8 := hT.boxB.frozen
          go_simp
          replace hT := hT.setB (.slice A4 (pre.length + 1) c4)
          refine hK.out _ _ trivial ?_
          clear hK c8 f8
          try simp only [Act.put, List.setIfInBounds_toArray, List.set_cons_zero, List.set_cons_succ]
          refine wpAnyC_done (by kernel_rfl) ?_ _
          refine NoPanic.normal ?_
          go_wp2
          refine ⟨⟨pre ++ [p], rest, p.at_ + p.k, A3, A4, c3, c4, by simp, by omega, by simp [hpre], hch, ?_⟩, by simp [intOf]; omega⟩
          simpa [vcells] using hT
end Go.Proofs.YtdgmhegcoogokaaDoor
