/- gone: a text's values, one by one, twice over. -/
import Derived.Test.YtcicmeggbkhniaaGreatDoorEachV
import Derived.Test.YtcicmeggbkhniaaGreatDoorRefPq
import Derived.Test.YtcicmeggbkhniaaGreatDoorRegI
namespace Go.Proofs.YtcicmeggbkhniaaGreatDoor
open Go.RowKit Go.Shelf
set_option linter.unusedVariables false

theorem eql_func {P : Program} (t : TypeId) {a b : Array TypeId} {v : Bool} (ht : P.underlying t = some (.func a b v)) (f : Fn) (fs cs : Array Value) (w : World) : (binOp .eql t (.func f fs cs) .nilFunc).run P w = .ok (.bool false) w := by
  unfold binOp
  simp [go_sem]
  have : Op.maxDepth = 9999 + 1 := rfl
  rw [Op.equal, this, Op.equalIn]
  simp [go_sem, Sem.run_bind, run_underlying ht]
theorem neq_Vsame (y : Vl) (W : World) : (binOp .neq 25 (.agg #[.int .i64 y.k, .int .i64 y.i, .int .u64 y.u, .string (strL y.s)]) (.agg #[.int .i64 y.k, .int .i64 y.i, .int .u64 y.u, .string (strL y.s)])).run Tryz.prog W = .ok (.bool false) W := by
  rw [neq_V]
  simp
theorem neq_Vno {x y : Vl} (hne : x ≠ y) (W : World) : (binOp .neq 25 (.agg #[.int .i64 x.k, .int .i64 x.i, .int .u64 x.u, .string (strL x.s)]) (.agg #[.int .i64 y.k, .int .i64 y.i, .int .u64 y.u, .string (strL y.s)])).run Tryz.prog W = .ok (.bool true) W := by
  rw [neq_V]
  have e : (!(x.k == y.k && x.i == y.i && x.u == y.u && decide (strL x.s = strL y.s))) = true := by
    obtain ⟨a, b, c, d⟩ := x
    obtain ⟨a', b', c', d'⟩ := y
    have h : strL d = strL d' ↔ d = d' := ⟨fun h => congrArg (fun s => s.data.toList) h, fun h => by rw [h]⟩
    by_cases h1 : a = a' <;> by_cases h2 : b = b' <;> by_cases h3 : c = c' <;> by_cases h4 : d = d' <;> simp_all
  rw [e]

attribute [local go_sem] Oper.semAt_some strL_toList
set_option maxRecDepth 100000 in
set_option maxHeartbeats 4000000 in
theorem gone_any (s : List UInt8) (many : Int) (w : World) (hE : Env w) (hl : s.length ≤ 20000) (hm0 : -9223372036854775808 ≤ many) (hm1 : many ≤ 9223372036854775807) :
    Calls Tryz.prog 23 #[.string (strL s), .int .i64 many] w fun e w' => e = .returned (.bool true) ∧ Below w.heap.size w w' := by
  refine callsIn_wide.1 (callsIn_of_wp_marks (n := 9) Tryz.func23 rfl trivial ?_ rfl)
  simp only [Tryz.ntmps23, List.size_toArray, List.length_cons, List.length_nil, Nat.reduceAdd, Nat.reduceSub, Array.replicate_succ, Array.replicate_zero, List.push_toArray, List.append_toArray, List.nil_append, List.cons_append]
  refine wpIn_wide.2 ?_
  have hB := Boxed.new (w.alloc (.cells #[.int .i64 many] 3)) 4 (.bool false)
  have hM := (Boxed.new w 3 (.int .i64 many)).alloc (.cells #[.bool false] 4)
  rw [World.size_alloc] at hB
  have hb2 : Below w.heap.size w ((w.alloc (.cells #[.int .i64 many] 3)).alloc (.cells #[.bool false] 4)) := ((Below.refl _ w).alloc (Nat.le_refl _) _).alloc (by simp) _
  have hz2 : ((w.alloc (.cells #[.int .i64 many] 3)).alloc (.cells #[.bool false] 4)).heap.size = w.heap.size + 2 := by simp
  have hPt := rParts_any s ((w.alloc (.cells #[.int .i64 many] 3)).alloc (.cells #[.bool false] 4)) hl
  have hpl := partsV_length s
  obtain ⟨xs, hxs⟩ : ∃ xs, partsV s = xs := ⟨_, rfl⟩
  obtain ⟨zs, hzs⟩ : ∃ zs, numV 0 xs = zs := ⟨_, rfl⟩
  have hzl : zs.length = xs.length := by rw [← hzs, numV_length]
  unfold PartsPost at hPt
  rw [hxs] at hPt hpl
  replace hPt := Lib.hid hPt
  go_wp2_with fail
  generalize ((w.alloc (.cells #[.int .i64 many] 3)).alloc (.cells #[.bool false] 4)) = w2 at *
  refine hPt.out.mono ?_
  rintro e W1 ⟨A, n, c, rfl, hO, hb⟩
  have hRv := Ov.rv hO
  have hxn : xs.length = n := by
    have := hRv.1
    rw [vcells_length] at this
    omega
  have hcap : c ≤ 9223372036854775807 := hRv.2.2.1
  have hle := hRv.2.1
  have hb1 := gr hb2 hb
  have hM1 := box_in hM hb
  have hB1 := box_in hB hb
  have hW1z := hb.size
  clear hPt hO hM hB hb
  have hWt := (Boxed.new W1 27 (.slice A n c)).alloc (.cells #[.string (strL s)] 9)
  have hBn := Boxed.new (W1.alloc (.cells #[.slice A n c] 27)) 9 (.string (strL s))
  rw [World.size_alloc] at hBn
  have hbA : Below W1.heap.size W1 ((W1.alloc (.cells #[.slice A n c] 27)).alloc (.cells #[.string (strL s)] 9)) := ((Below.refl _ _).alloc (Nat.le_refl _) _).alloc (by simp) _
  replace hRv := hRv.below hbA
  replace hM1 := box_in hM1 hbA
  replace hB1 := box_in hB1 hbA
  have hbV := gr hb1 hbA
  have hVz : ((W1.alloc (.cells #[.slice A n c] 27)).alloc (.cells #[.string (strL s)] 9)).heap.size = W1.heap.size + 2 := by simp
  have hEV := hE.below hbV
  clear hbA hb1
  have hEq := fun W => eql_func (P := Tryz.prog) 85 Tryz.underlying85 (.func 74) #[] #[.pointer (some ⟨W1.heap.size + 1, 0, none⟩)] W
  go_wp2_with (go_at_call 45; refine (VEach_any (strL s) _).mono ?_; rintro e V ⟨rfl, rfl⟩)
  generalize ((W1.alloc (.cells #[.slice A n c] 27)).alloc (.cells #[.string (strL s)] 9)) = V at *
  generalize W1.heap.size = wb at *
  replace hBn := hBn.cell
  have hwlt : wb < V.heap.size := by omega
  have hwge : w.heap.size + 2 ≤ wb := by omega
  clear hz2 hW1z
  have hzat : ∀ i (h : i < zs.length), zs[i] = (i, xs[i]'(by omega)) := fun i h => by
    subst hzs
    rw [numV_at, Nat.zero_add]
  have hseq : ∀ W, Below V.heap.size V W → SeqStopsK Fence.wide 8 Tryz.prog 74 #[.pointer (some ⟨wb + 1, 0, none⟩)] encV (KpV V.heap.size W.heap.size) (fun ys => ys = zs) (fun pre => pre <+: zs) zs.length W := fun W h => by
    have h := EachV1_stops V hEV (wb + 1) s hBn hl 8 W h
    rw [hxs, hzs] at h
    exact h
  refine wp_loop_rounds 3 ?_
  have hVs : Below V.heap.size V (V.alloc (.cells #[.int .i64 0] 3)) := (Below.refl _ V).alloc (Nat.le_refl _) _
  have hTn := Boxed.new V 3 (.int .i64 0)
  rw [hVz] at hTn
  replace hVz := Lib.hid hVz
  replace hM1 := hM1.alloc (.cells #[.int .i64 0] 3)
  replace hB1 := hB1.alloc (.cells #[.int .i64 0] 3)
  generalize (V.alloc (.cells #[.int .i64 0] 3)) = V1 at *
  rw [rounds_succ]
  have hTtc := hTn.cell
  have hTtf := hTn.frozen
  go_wp2_with fail
  have hNn := Boxed.new V1 3 (.int .i64 0)
  have hVW : Below V1.heap.size V1 (V1.alloc (.cells #[.int .i64 0] 3)) := (Below.refl _ V1).alloc (Nat.le_refl _) _
  have hsz : V1.heap.size + 1 = (V1.alloc (.cells #[.int .i64 0] 3)).heap.size := by simp
  have hVV := hVs.size
  have hTlt := hTn.lt
  have hn1 : ¬ (wb + 2) = V1.heap.size := by omega
  have hn2 : ¬ V1.heap.size = (wb + 2) := by omega
  have hn3 : ¬ w.heap.size = V1.heap.size := by omega
  have hn4 : ¬ V1.heap.size = w.heap.size := by omega
  generalize (V1.alloc (.cells #[.int .i64 0] 3)) = W0 at *
  have hVW0 := hVs.trans (hVW.mono hVV)
  have hnW0 : V1.heap.size < W0.heap.size := by omega
  refine wp_rangeFunc_brkN 9 10 ?hg0 (enters_of Tryz.func74 (by kernel_rfl) rfl) (hseq W0 hVW0) (by omega)
    (EachI V1.heap.size 3 V1 0 many zs) (EachX V1.heap.size 3 V1 0 many zs 2) (EachE V1.heap.size 3 V1 0 many zs) (EachI.own _ _ _ _ _ _ (by omega) (Nat.le_refl _)) (EachX.own _ _ _ _ _ _ (by omega) (Nat.le_refl _)) (EachI.start hNn hVW) (fun pre W h => by have := h.2.2.1.lt; omega) EachI.all EachX.brk ?rassign0 ?rbody0 ?rend0
  case hg0 => rfl
  case rassign0 =>
    intro L x W K hK
    simp only [Vl.val, valV, List.setIfInBounds_toArray, List.set_cons_zero, List.set_cons_succ] at hK ⊢
    gi_wp2
    exact hK
  case rbody0 =>
    rintro L pre p Bv W hBv hvb hEI hlt
    simp only [Vl.val, valV, List.setIfInBounds_toArray, List.set_cons_zero, List.set_cons_succ]
    obtain ⟨hp, _, hbn, hBW⟩ := id hEI
    replace hEI := Lib.hid hEI
    have hW0W := hVs.trans (hBW.mono hVV)
    have hMw := (box_in hM1 hBW).cell
    have hBw := box_in hB1 hBW
    have hBwc := hBw.cell
    have hBwf := hBw.frozen
    have hTnw := (box_in hTn hBW).cell
    have cW := (box_below hWt hW0W hwlt).cell
    have hrw := hRv.below hW0W
    have cn := hbn.cell
    have fn := hbn.frozen
    have cv := hvb.cells
    rw [hzl] at hlt
    obtain ⟨g2, o2, rfl, _, hc2⟩ := hrw.2.2.2 (by omega)
    have e2 := vcells_cell hc2 (fun _ => rfl) pre.length (by omega)
    have hlt1 : (pre.length : Int) < (n : Int) := by omega
    have hl0 : (0 : Int) ≤ (pre.length : Int) := by omega
    have hnot := pre_next pre zs p hp (by rw [hzl]; omega)
    rw [hzat] at hnot
    generalize xs[pre.length] = y at *
    have hKp : KpV V.heap.size W0.heap.size W (W.drew.setCell ⟨V1.heap.size, 0, none⟩ (.int .i64 ((pre.length : Int) + 1))) := (KpV.of_below ((Below.refl _ W).drew) (Nat.le_trans hVV hBW.size)).trans (KpV.setCell hVV hnW0 _ _)
    have hKq : Below V1.heap.size W (W.drew.setCell ⟨V1.heap.size, 0, none⟩ (.int .i64 ((pre.length : Int) + 1))) := ((Below.refl _ W).drew).setCell (p := ⟨V1.heap.size, 0, none⟩) (Nat.le_refl _) _
    have hge : decide ((n : Int) ≤ (pre.length : Int)) = false := by simp; omega
    have hge2 : decide (n ≤ pre.length) = false := by simp; omega
    clear hc2
    gi_wp2_with fail
    refine wpIn_region_noPanic ?_
    refine wpIn_region_I (fun w' => (w'.cell? ⟨V1.heap.size, 0, none⟩ = some (.int .i64 (pre.length : Int)) ∧ w'.cell? ⟨wb, 0, none⟩ = some (.slice (some ⟨g2, o2, none⟩) n c)) ∧
      (w'.cell? ⟨Bv, 0, none⟩ = some (.int .i64 p.2.k) ∧ w'.cell? ⟨Bv, 1, none⟩ = some (.int .i64 p.2.i) ∧ w'.cell? ⟨Bv, 2, none⟩ = some (.int .u64 p.2.u) ∧ w'.cell? ⟨Bv, 3, none⟩ = some (.string (strL p.2.s))) ∧
      (w'.cell? ⟨g2, o2 + pre.length * 4, none⟩ = some (.int .i64 y.k) ∧ w'.cell? ⟨g2, o2 + pre.length * 4 + 1, none⟩ = some (.int .i64 y.i) ∧ w'.cell? ⟨g2, o2 + pre.length * 4 + 2, none⟩ = some (.int .u64 y.u) ∧ w'.cell? ⟨g2, o2 + pre.length * 4 + 3, none⟩ = some (.string (strL y.s)))) (by kernel_rfl) ⟨⟨cn, cW⟩, cv, e2⟩ (fun hHeld => ?_)
    obtain ⟨p1, p2⟩ := p
    dsimp only at *
    by_cases hpy : p1 = pre.length
    · subst hpy
      have hE1 : ((pre.length : Int) != (pre.length : Int)) = false := by simp
      by_cases hxy : p2 = y
      · have hyes := hnot.2 (by rw [hxy])
        subst hxy
        have hE2 := neq_Vsame p2
        clear hnot
        refine wpAnyI_takeL (i := 0) (v := ?vhy1) (fun _ => trivial) (by kernel_rfl) rfl (by kernel_rfl) (by kernel_rfl) (by kernel_rfl) (fun _ _ _ h => h) (Or.inl ⟨by rfl, ?hy1⟩) (by assumption) ?rhy1
        case hy1 => ((intro w hSw; (try dsimp only at hSw); go_simp); try with_reducible rfl)
        try simp only [Act.put, List.setIfInBounds_toArray, List.set_cons_zero, List.set_cons_succ]
        refine wpAnyI_takeL (i := 1) (v := ?vhy2) (fun _ => trivial) (by kernel_rfl) rfl (by kernel_rfl) (by kernel_rfl) (by kernel_rfl) (fun _ _ _ h => h) (Or.inl ⟨by rfl, ?hy2⟩) (by assumption) ?rhy2
        case hy2 => ((intro w hSw; (try dsimp only at hSw); go_simp); try with_reducible rfl)
        try simp only [Act.put, List.setIfInBounds_toArray, List.set_cons_zero, List.set_cons_succ]
        refine wpAnyI_takeL (i := 2) (v := ?vhy3) (fun _ => trivial) (by kernel_rfl) rfl (by kernel_rfl) (by kernel_rfl) (by kernel_rfl) (fun _ _ _ h => h) (Or.inl ⟨by rfl, ?hy3⟩) (by assumption) ?rhy3
        case hy3 => ((intro w hSw; (try dsimp only at hSw); go_simp); try with_reducible rfl)
        try simp only [Act.put, List.setIfInBounds_toArray, List.set_cons_zero, List.set_cons_succ]
        refine wpAnyI_takeL (i := 3) (v := ?vhy4) (fun _ => trivial) (by kernel_rfl) rfl (by kernel_rfl) (by kernel_rfl) (by kernel_rfl) (fun _ _ _ h => h) (Or.inl ⟨by rfl, ?hy4⟩) (by assumption) ?rhy4
        case hy4 => ((intro w hSw; (try dsimp only at hSw); go_simp); try with_reducible rfl)
        try simp only [Act.put, List.setIfInBounds_toArray, List.set_cons_zero, List.set_cons_succ]
        refine wpAnyI_takeL (i := 4) (v := ?vhy5) (fun _ => trivial) (by kernel_rfl) rfl (by kernel_rfl) (by kernel_rfl) (by kernel_rfl) (fun _ _ _ h => h) (Or.inl ⟨by rfl, ?hy5⟩) (by assumption) ?rhy5
        case hy5 => ((intro w hSw; (try dsimp only at hSw); go_simp); try with_reducible rfl)
        try simp only [Act.put, List.setIfInBounds_toArray, List.set_cons_zero, List.set_cons_succ]
        refine wpAnyI_takeL (i := 5) (v := ?vhy6) (fun _ => trivial) (by kernel_rfl) rfl (by kernel_rfl) (by kernel_rfl) (by kernel_rfl) (fun _ _ _ h => h) (Or.inl ⟨by rfl, ?hy6⟩) (by assumption) ?rhy6
        case hy6 => ((intro w hSw; (try dsimp only at hSw); go_simp); try with_reducible rfl)
        try simp only [Act.put, List.setIfInBounds_toArray, List.set_cons_zero, List.set_cons_succ]
        refine wpAnyI_takeL (i := 6) (v := ?vhy7) (fun _ => trivial) (by kernel_rfl) rfl (by kernel_rfl) (by kernel_rfl) (by kernel_rfl) (fun _ _ _ h => h) (Or.inl ⟨by rfl, ?hy7⟩) (by assumption) ?rhy7
        case hy7 => ((intro w hSw; (try dsimp only at hSw); go_simp); try with_reducible rfl)
        try simp only [Act.put, List.setIfInBounds_toArray, List.set_cons_zero, List.set_cons_succ]
        refine wpAnyI_takeL (i := 7) (v := ?vhy8) (fun _ => trivial) (by kernel_rfl) rfl (by kernel_rfl) (by kernel_rfl) (by kernel_rfl) (fun _ _ _ h => h) (Or.inl ⟨by rfl, ?hy8⟩) (by assumption) ?rhy8
        case hy8 => ((intro w hSw; (try dsimp only at hSw); go_simp); try with_reducible rfl)
        try simp only [Act.put, List.setIfInBounds_toArray, List.set_cons_zero, List.set_cons_succ]
        refine wpAnyI_takeL (i := 8) (v := ?vhy9) (fun _ => trivial) (by kernel_rfl) rfl (by kernel_rfl) (by kernel_rfl) (by kernel_rfl) (fun _ _ _ h => h) (Or.inl ⟨by rfl, ?hy9⟩) (by assumption) ?rhy9
        case hy9 => ((intro w hSw; (try dsimp only at hSw); go_simp); try with_reducible rfl)
        try simp only [Act.put, List.setIfInBounds_toArray, List.set_cons_zero, List.set_cons_succ]
        refine wpAnyI_takeL (i := 9) (v := ?vhy10) (fun _ => trivial) (by kernel_rfl) rfl (by kernel_rfl) (by kernel_rfl) (by kernel_rfl) (fun _ _ _ h => h) (Or.inl ⟨by rfl, ?hy10⟩) (by assumption) ?rhy10
        case hy10 => ((intro w hSw; (try dsimp only at hSw); go_simp); try with_reducible rfl)
        try simp only [Act.put, List.setIfInBounds_toArray, List.set_cons_zero, List.set_cons_succ]
        refine wpAnyI_takeL (i := 10) (v := ?vhy11) (fun _ => trivial) (by kernel_rfl) rfl (by kernel_rfl) (by kernel_rfl) (by kernel_rfl) (fun _ _ _ h => h) (Or.inl ⟨by rfl, ?hy11⟩) (by assumption) ?rhy11
        case hy11 => ((intro w hSw; (try dsimp only at hSw); go_simp); try with_reducible rfl)
        try simp only [Act.put, List.setIfInBounds_toArray, List.set_cons_zero, List.set_cons_succ]
        refine wpAnyI_takeL (i := 11) (v := ?vhy12) (fun _ => trivial) (by kernel_rfl) rfl (by kernel_rfl) (by kernel_rfl) (by kernel_rfl) (fun _ _ _ h => h) (Or.inl ⟨by rfl, ?hy12⟩) (by assumption) ?rhy12
        case hy12 => ((intro w hSw; (try dsimp only at hSw); go_simp); try with_reducible rfl)
        try simp only [Act.put, List.setIfInBounds_toArray, List.set_cons_zero, List.set_cons_succ]
        refine wpAnyI_takeL (i := 12) (v := ?vhy13) (fun _ => trivial) (by kernel_rfl) rfl (by kernel_rfl) (by kernel_rfl) (by kernel_rfl) (fun _ _ _ h => h) (Or.inl ⟨by rfl, ?hy13⟩) (by assumption) ?rhy13
        case hy13 => ((intro w hSw; (try dsimp only at hSw); go_simp); try with_reducible rfl)
        try simp only [Act.put, List.setIfInBounds_toArray, List.set_cons_zero, List.set_cons_succ]
        refine wpAnyI_takeL (i := 13) (v := ?vhy14) (fun _ => trivial) (by kernel_rfl) rfl (by kernel_rfl) (by kernel_rfl) (by kernel_rfl) (fun _ _ _ h => h) (Or.inl ⟨by rfl, ?hy14⟩) (by assumption) ?rhy14
        case hy14 => ((intro w hSw; (try dsimp only at hSw); go_simp); try with_reducible rfl)
        try simp only [Act.put, List.setIfInBounds_toArray, List.set_cons_zero, List.set_cons_succ]
        refine wpAnyI_takeL (i := 14) (v := ?vhy15) (fun _ => trivial) (by kernel_rfl) rfl (by kernel_rfl) (by kernel_rfl) (by kernel_rfl) (fun _ _ _ h => h) (Or.inl ⟨by rfl, ?hy15⟩) (by assumption) ?rhy15
        case hy15 => ((intro w hSw; (try dsimp only at hSw); go_simp); try with_reducible rfl)
        try simp only [Act.put, List.setIfInBounds_toArray, List.set_cons_zero, List.set_cons_succ]
        refine wpAnyI_takeL (i := 15) (v := ?vhy16) (fun _ => trivial) (by kernel_rfl) rfl (by kernel_rfl) (by kernel_rfl) (by kernel_rfl) (fun _ _ _ h => h) (Or.inl ⟨by rfl, ?hy16⟩) (by assumption) ?rhy16
        case hy16 => ((intro w hSw; (try dsimp only at hSw); go_simp); try with_reducible rfl)
        try simp only [Act.put, List.setIfInBounds_toArray, List.set_cons_zero, List.set_cons_succ]
        refine wpAnyI_takeL (i := 16) (v := ?vhy17) (fun _ => trivial) (by kernel_rfl) rfl (by kernel_rfl) (by kernel_rfl) (by kernel_rfl) (fun _ _ _ h => h) (Or.inl ⟨by rfl, ?hy17⟩) (by assumption) ?rhy17
        case hy17 => ((intro w hSw; (try dsimp only at hSw); go_simp); try with_reducible rfl)
        try simp only [Act.put, List.setIfInBounds_toArray, List.set_cons_zero, List.set_cons_succ]
        refine wpAnyI_done (by kernel_rfl) ?_ _
        refine NoPanic.normal ?_
        clear hHeld e2 cv hE1 hE2 hge hge2
        replace hbn := box_drew hbn
        gi_wp2
        all_goals first
          | exact ⟨((KeepsOthers.drew W).trans (KeepsOthers.setCell _ _ _)).from _, EachX.next hEI.out rfl (by omega) (hbn.set _) hKq⟩
          | exact ⟨((KeepsOthers.drew W).trans (KeepsOthers.setCell _ _ _)).from _, hKp, EachI.next hEI.out hyes (by omega) (hbn.set _) hKq⟩
      · have hno : ¬ (pre ++ [(pre.length, p2)] <+: zs) := by rw [hnot]; intro e; injection e with _ e; exact hxy e.symm
        have hE2 := neq_Vno hxy
        clear hxy
        refine wpAnyI_takeL (i := 0) (v := ?vhy18) (fun _ => trivial) (by kernel_rfl) rfl (by kernel_rfl) (by kernel_rfl) (by kernel_rfl) (fun _ _ _ h => h) (Or.inl ⟨by rfl, ?hy18⟩) (by assumption) ?rhy18
        case hy18 => ((intro w hSw; (try dsimp only at hSw); go_simp); try with_reducible rfl)
        try simp only [Act.put, List.setIfInBounds_toArray, List.set_cons_zero, List.set_cons_succ]
        refine wpAnyI_takeL (i := 1) (v := ?vhy19) (fun _ => trivial) (by kernel_rfl) rfl (by kernel_rfl) (by kernel_rfl) (by kernel_rfl) (fun _ _ _ h => h) (Or.inl ⟨by rfl, ?hy19⟩) (by assumption) ?rhy19
        case hy19 => ((intro w hSw; (try dsimp only at hSw); go_simp); try with_reducible rfl)
        try simp only [Act.put, List.setIfInBounds_toArray, List.set_cons_zero, List.set_cons_succ]
        refine wpAnyI_takeL (i := 2) (v := ?vhy20) (fun _ => trivial) (by kernel_rfl) rfl (by kernel_rfl) (by kernel_rfl) (by kernel_rfl) (fun _ _ _ h => h) (Or.inl ⟨by rfl, ?hy20⟩) (by assumption) ?rhy20
        case hy20 => ((intro w hSw; (try dsimp only at hSw); go_simp); try with_reducible rfl)
        try simp only [Act.put, List.setIfInBounds_toArray, List.set_cons_zero, List.set_cons_succ]
        refine wpAnyI_takeL (i := 3) (v := ?vhy21) (fun _ => trivial) (by kernel_rfl) rfl (by kernel_rfl) (by kernel_rfl) (by kernel_rfl) (fun _ _ _ h => h) (Or.inl ⟨by rfl, ?hy21⟩) (by assumption) ?rhy21
        case hy21 => ((intro w hSw; (try dsimp only at hSw); go_simp); try with_reducible rfl)
        try simp only [Act.put, List.setIfInBounds_toArray, List.set_cons_zero, List.set_cons_succ]
        refine wpAnyI_takeL (i := 4) (v := ?vhy22) (fun _ => trivial) (by kernel_rfl) rfl (by kernel_rfl) (by kernel_rfl) (by kernel_rfl) (fun _ _ _ h => h) (Or.inl ⟨by rfl, ?hy22⟩) (by assumption) ?rhy22
        case hy22 => ((intro w hSw; (try dsimp only at hSw); go_simp); try with_reducible rfl)
        try simp only [Act.put, List.setIfInBounds_toArray, List.set_cons_zero, List.set_cons_succ]
        refine wpAnyI_takeL (i := 5) (v := ?vhy23) (fun _ => trivial) (by kernel_rfl) rfl (by kernel_rfl) (by kernel_rfl) (by kernel_rfl) (fun _ _ _ h => h) (Or.inl ⟨by rfl, ?hy23⟩) (by assumption) ?rhy23
        case hy23 => ((intro w hSw; (try dsimp only at hSw); go_simp); try with_reducible rfl)
        try simp only [Act.put, List.setIfInBounds_toArray, List.set_cons_zero, List.set_cons_succ]
        refine wpAnyI_takeL (i := 6) (v := ?vhy24) (fun _ => trivial) (by kernel_rfl) rfl (by kernel_rfl) (by kernel_rfl) (by kernel_rfl) (fun _ _ _ h => h) (Or.inl ⟨by rfl, ?hy24⟩) (by assumption) ?rhy24
        case hy24 => ((intro w hSw; (try dsimp only at hSw); go_simp); try with_reducible rfl)
        try simp only [Act.put, List.setIfInBounds_toArray, List.set_cons_zero, List.set_cons_succ]
        refine wpAnyI_takeL (i := 7) (v := ?vhy25) (fun _ => trivial) (by kernel_rfl) rfl (by kernel_rfl) (by kernel_rfl) (by kernel_rfl) (fun _ _ _ h => h) (Or.inl ⟨by rfl, ?hy25⟩) (by assumption) ?rhy25
        case hy25 => ((intro w hSw; (try dsimp only at hSw); go_simp); try with_reducible rfl)
        try simp only [Act.put, List.setIfInBounds_toArray, List.set_cons_zero, List.set_cons_succ]
        refine wpAnyI_takeL (i := 8) (v := ?vhy26) (fun _ => trivial) (by kernel_rfl) rfl (by kernel_rfl) (by kernel_rfl) (by kernel_rfl) (fun _ _ _ h => h) (Or.inl ⟨by rfl, ?hy26⟩) (by assumption) ?rhy26
        case hy26 => ((intro w hSw; (try dsimp only at hSw); go_simp); try with_reducible rfl)
        try simp only [Act.put, List.setIfInBounds_toArray, List.set_cons_zero, List.set_cons_succ]
        refine wpAnyI_takeL (i := 9) (v := ?vhy27) (fun _ => trivial) (by kernel_rfl) rfl (by kernel_rfl) (by kernel_rfl) (by kernel_rfl) (fun _ _ _ h => h) (Or.inl ⟨by rfl, ?hy27⟩) (by assumption) ?rhy27
        case hy27 => ((intro w hSw; (try dsimp only at hSw); go_simp); try with_reducible rfl)
        try simp only [Act.put, List.setIfInBounds_toArray, List.set_cons_zero, List.set_cons_succ]
        refine wpAnyI_takeL (i := 10) (v := ?vhy28) (fun _ => trivial) (by kernel_rfl) rfl (by kernel_rfl) (by kernel_rfl) (by kernel_rfl) (fun _ _ _ h => h) (Or.inl ⟨by rfl, ?hy28⟩) (by assumption) ?rhy28
        case hy28 => ((intro w hSw; (try dsimp only at hSw); go_simp); try with_reducible rfl)
        try simp only [Act.put, List.setIfInBounds_toArray, List.set_cons_zero, List.set_cons_succ]
        refine wpAnyI_takeL (i := 11) (v := ?vhy29) (fun _ => trivial) (by kernel_rfl) rfl (by kernel_rfl) (by kernel_rfl) (by kernel_rfl) (fun _ _ _ h => h) (Or.inl ⟨by rfl, ?hy29⟩) (by assumption) ?rhy29
        case hy29 => ((intro w hSw; (try dsimp only at hSw); go_simp); try with_reducible rfl)
        try simp only [Act.put, List.setIfInBounds_toArray, List.set_cons_zero, List.set_cons_succ]
        refine wpAnyI_takeL (i := 12) (v := ?vhy30) (fun _ => trivial) (by kernel_rfl) rfl (by kernel_rfl) (by kernel_rfl) (by kernel_rfl) (fun _ _ _ h => h) (Or.inl ⟨by rfl, ?hy30⟩) (by assumption) ?rhy30
        case hy30 => ((intro w hSw; (try dsimp only at hSw); go_simp); try with_reducible rfl)
        try simp only [Act.put, List.setIfInBounds_toArray, List.set_cons_zero, List.set_cons_succ]
        refine wpAnyI_takeL (i := 13) (v := ?vhy31) (fun _ => trivial) (by kernel_rfl) rfl (by kernel_rfl) (by kernel_rfl) (by kernel_rfl) (fun _ _ _ h => h) (Or.inl ⟨by rfl, ?hy31⟩) (by assumption) ?rhy31
        case hy31 => ((intro w hSw; (try dsimp only at hSw); go_simp); try with_reducible rfl)
        try simp only [Act.put, List.setIfInBounds_toArray, List.set_cons_zero, List.set_cons_succ]
        refine wpAnyI_takeL (i := 14) (v := ?vhy32) (fun _ => trivial) (by kernel_rfl) rfl (by kernel_rfl) (by kernel_rfl) (by kernel_rfl) (fun _ _ _ h => h) (Or.inl ⟨by rfl, ?hy32⟩) (by assumption) ?rhy32
        case hy32 => ((intro w hSw; (try dsimp only at hSw); go_simp); try with_reducible rfl)
        try simp only [Act.put, List.setIfInBounds_toArray, List.set_cons_zero, List.set_cons_succ]
        refine wpAnyI_takeL (i := 15) (v := ?vhy33) (fun _ => trivial) (by kernel_rfl) rfl (by kernel_rfl) (by kernel_rfl) (by kernel_rfl) (fun _ _ _ h => h) (Or.inl ⟨by rfl, ?hy33⟩) (by assumption) ?rhy33
        case hy33 => ((intro w hSw; (try dsimp only at hSw); go_simp); try with_reducible rfl)
        try simp only [Act.put, List.setIfInBounds_toArray, List.set_cons_zero, List.set_cons_succ]
        refine wpAnyI_takeL (i := 16) (v := ?vhy34) (fun _ => trivial) (by kernel_rfl) rfl (by kernel_rfl) (by kernel_rfl) (by kernel_rfl) (fun _ _ _ h => h) (Or.inl ⟨by rfl, ?hy34⟩) (by assumption) ?rhy34
        case hy34 => ((intro w hSw; (try dsimp only at hSw); go_simp); try with_reducible rfl)
        try simp only [Act.put, List.setIfInBounds_toArray, List.set_cons_zero, List.set_cons_succ]
        refine wpAnyI_done (by kernel_rfl) ?_ _
        refine NoPanic.normal ?_
        clear hHeld e2 cv hE1 hE2 hge hge2
        gi_wp2
        exact ⟨((KeepsOthers.drew W).trans (KeepsOthers.setCell _ _ _)).from _, EachX.no hno⟩
    · have hE1 : ((p1 : Int) != (pre.length : Int)) = true := by simp; omega
      have hno : ¬ (pre ++ [(p1, p2)] <+: zs) := by rw [hnot]; intro e; injection e with e _; exact hpy e.symm
      refine wpAnyI_takeL (i := 0) (v := ?vhy35) (fun _ => trivial) (by kernel_rfl) rfl (by kernel_rfl) (by kernel_rfl) (by kernel_rfl) (fun _ _ _ h => h) (Or.inl ⟨by rfl, ?hy35⟩) (by assumption) ?rhy35
      case hy35 => ((intro w hSw; (try dsimp only at hSw); go_simp); try with_reducible rfl)
      try simp only [Act.put, List.setIfInBounds_toArray, List.set_cons_zero, List.set_cons_succ]
      refine wpAnyI_takeL (i := 1) (v := ?vhy36) (fun _ => trivial) (by kernel_rfl) rfl (by kernel_rfl) (by kernel_rfl) (by kernel_rfl) (fun _ _ _ h => h) (Or.inl ⟨by rfl, ?hy36⟩) (by assumption) ?rhy36
      case hy36 => ((intro w hSw; (try dsimp only at hSw); go_simp); try with_reducible rfl)
      try simp only [Act.put, List.setIfInBounds_toArray, List.set_cons_zero, List.set_cons_succ]
      refine wpAnyI_takeL (i := 2) (v := ?vhy37) (fun _ => trivial) (by kernel_rfl) rfl (by kernel_rfl) (by kernel_rfl) (by kernel_rfl) (fun _ _ _ h => h) (Or.inl ⟨by rfl, ?hy37⟩) (by assumption) ?rhy37
      case hy37 => ((intro w hSw; (try dsimp only at hSw); go_simp); try with_reducible rfl)
      try simp only [Act.put, List.setIfInBounds_toArray, List.set_cons_zero, List.set_cons_succ]
      refine wpAnyI_takeL (i := 3) (v := ?vhy38) (fun _ => trivial) (by kernel_rfl) rfl (by kernel_rfl) (by kernel_rfl) (by kernel_rfl) (fun _ _ _ h => h) (Or.inl ⟨by rfl, ?hy38⟩) (by assumption) ?rhy38
      case hy38 => ((intro w hSw; (try dsimp only at hSw); go_simp); try with_reducible rfl)
      try simp only [Act.put, List.setIfInBounds_toArray, List.set_cons_zero, List.set_cons_succ]
      refine wpAnyI_takeL (i := 4) (v := undef) (fun _ => trivial) (by kernel_rfl) rfl (by kernel_rfl) (by kernel_rfl) (by kernel_rfl) (fun _ _ _ h => h) (Or.inr ⟨by rfl, rfl⟩) (by assumption) ?_
      try simp only [Act.put, List.setIfInBounds_toArray, List.set_cons_zero, List.set_cons_succ]
      refine wpAnyI_takeL (i := 5) (v := undef) (fun _ => trivial) (by kernel_rfl) rfl (by kernel_rfl) (by kernel_rfl) (by kernel_rfl) (fun _ _ _ h => h) (Or.inr ⟨by rfl, rfl⟩) (by assumption) ?_
      try simp only [Act.put, List.setIfInBounds_toArray, List.set_cons_zero, List.set_cons_succ]
      refine wpAnyI_takeL (i := 6) (v := undef) (fun _ => trivial) (by kernel_rfl) rfl (by kernel_rfl) (by kernel_rfl) (by kernel_rfl) (fun _ _ _ h => h) (Or.inr ⟨by rfl, rfl⟩) (by assumption) ?_
      try simp only [Act.put, List.setIfInBounds_toArray, List.set_cons_zero, List.set_cons_succ]
      refine wpAnyI_takeL (i := 7) (v := undef) (fun _ => trivial) (by kernel_rfl) rfl (by kernel_rfl) (by kernel_rfl) (by kernel_rfl) (fun _ _ _ h => h) (Or.inr ⟨by rfl, rfl⟩) (by assumption) ?_
      try simp only [Act.put, List.setIfInBounds_toArray, List.set_cons_zero, List.set_cons_succ]
      refine wpAnyI_takeL (i := 8) (v := ?vhy39) (fun _ => trivial) (by kernel_rfl) rfl (by kernel_rfl) (by kernel_rfl) (by kernel_rfl) (fun _ _ _ h => h) (Or.inl ⟨by rfl, ?hy39⟩) (by assumption) ?rhy39
      case hy39 => ((intro w hSw; (try dsimp only at hSw); go_simp); try with_reducible rfl)
      try simp only [Act.put, List.setIfInBounds_toArray, List.set_cons_zero, List.set_cons_succ]
      refine wpAnyI_takeL (i := 9) (v := ?vhy40) (fun _ => trivial) (by kernel_rfl) rfl (by kernel_rfl) (by kernel_rfl) (by kernel_rfl) (fun _ _ _ h => h) (Or.inl ⟨by rfl, ?hy40⟩) (by assumption) ?rhy40
      case hy40 => ((intro w hSw; (try dsimp only at hSw); go_simp); try with_reducible rfl)
      try simp only [Act.put, List.setIfInBounds_toArray, List.set_cons_zero, List.set_cons_succ]
      refine wpAnyI_takeL (i := 10) (v := undef) (fun _ => trivial) (by kernel_rfl) rfl (by kernel_rfl) (by kernel_rfl) (by kernel_rfl) (fun _ _ _ h => h) (Or.inr ⟨by rfl, rfl⟩) (by assumption) ?_
      try simp only [Act.put, List.setIfInBounds_toArray, List.set_cons_zero, List.set_cons_succ]
      refine wpAnyI_takeL (i := 11) (v := undef) (fun _ => trivial) (by kernel_rfl) rfl (by kernel_rfl) (by kernel_rfl) (by kernel_rfl) (fun _ _ _ h => h) (Or.inr ⟨by rfl, rfl⟩) (by assumption) ?_
      try simp only [Act.put, List.setIfInBounds_toArray, List.set_cons_zero, List.set_cons_succ]
      refine wpAnyI_takeL (i := 12) (v := undef) (fun _ => trivial) (by kernel_rfl) rfl (by kernel_rfl) (by kernel_rfl) (by kernel_rfl) (fun _ _ _ h => h) (Or.inr ⟨by rfl, rfl⟩) (by assumption) ?_
      try simp only [Act.put, List.setIfInBounds_toArray, List.set_cons_zero, List.set_cons_succ]
      refine wpAnyI_takeL (i := 13) (v := undef) (fun _ => trivial) (by kernel_rfl) rfl (by kernel_rfl) (by kernel_rfl) (by kernel_rfl) (fun _ _ _ h => h) (Or.inr ⟨by rfl, rfl⟩) (by assumption) ?_
      try simp only [Act.put, List.setIfInBounds_toArray, List.set_cons_zero, List.set_cons_succ]
      refine wpAnyI_takeL (i := 14) (v := undef) (fun _ => trivial) (by kernel_rfl) rfl (by kernel_rfl) (by kernel_rfl) (by kernel_rfl) (fun _ _ _ h => h) (Or.inr ⟨by rfl, rfl⟩) (by assumption) ?_
      try simp only [Act.put, List.setIfInBounds_toArray, List.set_cons_zero, List.set_cons_succ]
      refine wpAnyI_takeL (i := 15) (v := undef) (fun _ => trivial) (by kernel_rfl) rfl (by kernel_rfl) (by kernel_rfl) (by kernel_rfl) (fun _ _ _ h => h) (Or.inr ⟨by rfl, rfl⟩) (by assumption) ?_
      try simp only [Act.put, List.setIfInBounds_toArray, List.set_cons_zero, List.set_cons_succ]
      refine wpAnyI_takeL (i := 16) (v := ?vhy41) (fun _ => trivial) (by kernel_rfl) rfl (by kernel_rfl) (by kernel_rfl) (by kernel_rfl) (fun _ _ _ h => h) (Or.inl ⟨by rfl, ?hy41⟩) (by assumption) ?rhy41
      case hy41 => ((intro w hSw; (try dsimp only at hSw); go_simp); try with_reducible rfl)
      try simp only [Act.put, List.setIfInBounds_toArray, List.set_cons_zero, List.set_cons_succ]
      refine wpAnyI_done (by kernel_rfl) ?_ _
      refine NoPanic.normal ?_
      clear hHeld e2 cv hE1 hge hge2
      gi_wp2
      exact ⟨((KeepsOthers.drew W).trans (KeepsOthers.setCell _ _ _)).from _, EachX.no hno⟩
  rintro D ys Wa hDD ⟨hE0, hE1, hbn, hBW⟩ hKD
  rw [hzl, hxn] at hE0 hE1
  have hVs := hVs.trans (hBW.mono hVV)
  replace hM1 := box_in hM1 hBW
  replace hB1 := box_in hB1 hBW
  replace hTn := box_in hTn hBW
  have hMw := hM1.cell
  have hTnw := hTn.cell
  have cB := (box_below hWt hVs hwlt).cell
  have cn := hbn.cell
  have hmin : (((ys.length : Int)) != min (n : Int) (max 1 many)) = false := by simp; exact hE0 rfl
  have hDl : D < Wa.heap.size := (Array.getElem?_eq_some_iff.1 hKD).1
  have hq1 := hVV
  clear hE0 hE1 hVW hNn hVV hTlt hn1 hn2 hn3 hn4 hTtc hTtf
  go_wp2
  have hTs := (Below.refl Wa.heap.size Wa).alloc (Nat.le_refl _) (.cells #[.int .i64 1] 3)
  have hKD2 := (hTs.block D hDl).trans hKD
  have hVs := hVs.trans (hTs.mono hVs.size)
  have hDV : D < (Wa.alloc (.cells #[.int .i64 1] 3)).heap.size := by simp; omega
  replace hTn := Boxed.new Wa 3 (.int .i64 1)
  replace hM1 := hM1.alloc (.cells #[.int .i64 1] 3)
  replace hB1 := hB1.alloc (.cells #[.int .i64 1] 3)
  have hbel := hBW.size
  clear hMw hTnw cB cn hmin hbn hBW hTs
  generalize (Wa.alloc (.cells #[.int .i64 1] 3)) = V2 at *
  rw [rounds_succ]
  have hTtc := hTn.cell
  have hTtf := hTn.frozen
  go_wp2_with fail
  have hNn := Boxed.new V2 3 (.int .i64 0)
  have hVW : Below V2.heap.size V2 (V2.alloc (.cells #[.int .i64 0] 3)) := (Below.refl _ V2).alloc (Nat.le_refl _) _
  have hsz : V2.heap.size + 1 = (V2.alloc (.cells #[.int .i64 0] 3)).heap.size := by simp
  have hVV := hVs.size
  have hTlt := hTn.lt
  have hn1 : ¬ Wa.heap.size = V2.heap.size := by omega
  have hn2 : ¬ V2.heap.size = Wa.heap.size := by omega
  have hn3 : ¬ w.heap.size = V2.heap.size := by omega
  have hn4 : ¬ V2.heap.size = w.heap.size := by omega
  generalize (V2.alloc (.cells #[.int .i64 0] 3)) = W3 at *
  have hVW0 := hVs.trans (hVW.mono hVV)
  have hnW0 : V2.heap.size < W3.heap.size := by omega
  refine wp_rangeFunc_brkN 9 10 ?hg1 (enters_of Tryz.func74 (by kernel_rfl) rfl) (hseq W3 hVW0) (by omega)
    (EachI V2.heap.size 3 V2 1 many zs) (EachX V2.heap.size 3 V2 1 many zs 2) (EachE V2.heap.size 3 V2 1 many zs) (EachI.own _ _ _ _ _ _ (by omega) (Nat.le_refl _)) (EachX.own _ _ _ _ _ _ (by omega) (Nat.le_refl _)) (EachI.start hNn hVW) (fun pre W h => by have := h.2.2.1.lt; omega) EachI.all EachX.brk ?rassign1 ?rbody1 ?rend1
  case hg1 => rfl
  case rassign1 =>
    intro L x W K hK
    simp only [Vl.val, valV, List.setIfInBounds_toArray, List.set_cons_zero, List.set_cons_succ] at hK ⊢
    gi_wp2
    exact hK
  case rbody1 =>
    rintro L pre p Bv W hBv hvb hEI hlt
    simp only [Vl.val, valV, List.setIfInBounds_toArray, List.set_cons_zero, List.set_cons_succ]
    obtain ⟨hp, _, hbn, hBW⟩ := id hEI
    replace hEI := Lib.hid hEI
    have hW0W := hVs.trans (hBW.mono hVV)
    have hMw := (box_in hM1 hBW).cell
    have hBw := box_in hB1 hBW
    have hBwc := hBw.cell
    have hBwf := hBw.frozen
    have hTnw := (box_in hTn hBW).cell
    have cW := (box_below hWt hW0W hwlt).cell
    have hrw := hRv.below hW0W
    have cn := hbn.cell
    have fn := hbn.frozen
    have cv := hvb.cells
    rw [hzl] at hlt
    obtain ⟨g2, o2, rfl, _, hc2⟩ := hrw.2.2.2 (by omega)
    have e2 := vcells_cell hc2 (fun _ => rfl) pre.length (by omega)
    have hlt1 : (pre.length : Int) < (n : Int) := by omega
    have hl0 : (0 : Int) ≤ (pre.length : Int) := by omega
    have hnot := pre_next pre zs p hp (by rw [hzl]; omega)
    rw [hzat] at hnot
    generalize xs[pre.length] = y at *
    have hKp : KpV V.heap.size W3.heap.size W (W.drew.setCell ⟨V2.heap.size, 0, none⟩ (.int .i64 ((pre.length : Int) + 1))) := (KpV.of_below ((Below.refl _ W).drew) (Nat.le_trans hVV hBW.size)).trans (KpV.setCell hVV hnW0 _ _)
    have hKq : Below V2.heap.size W (W.drew.setCell ⟨V2.heap.size, 0, none⟩ (.int .i64 ((pre.length : Int) + 1))) := ((Below.refl _ W).drew).setCell (p := ⟨V2.heap.size, 0, none⟩) (Nat.le_refl _) _
    have hge : decide ((n : Int) ≤ (pre.length : Int)) = false := by simp; omega
    have hge2 : decide (n ≤ pre.length) = false := by simp; omega
    clear hc2
    gi_wp2_with fail
    refine wpIn_region_noPanic ?_
    refine wpIn_region_I (fun w' => (w'.cell? ⟨V2.heap.size, 0, none⟩ = some (.int .i64 (pre.length : Int)) ∧ w'.cell? ⟨wb, 0, none⟩ = some (.slice (some ⟨g2, o2, none⟩) n c)) ∧
      (w'.cell? ⟨Bv, 0, none⟩ = some (.int .i64 p.2.k) ∧ w'.cell? ⟨Bv, 1, none⟩ = some (.int .i64 p.2.i) ∧ w'.cell? ⟨Bv, 2, none⟩ = some (.int .u64 p.2.u) ∧ w'.cell? ⟨Bv, 3, none⟩ = some (.string (strL p.2.s))) ∧
      (w'.cell? ⟨g2, o2 + pre.length * 4, none⟩ = some (.int .i64 y.k) ∧ w'.cell? ⟨g2, o2 + pre.length * 4 + 1, none⟩ = some (.int .i64 y.i) ∧ w'.cell? ⟨g2, o2 + pre.length * 4 + 2, none⟩ = some (.int .u64 y.u) ∧ w'.cell? ⟨g2, o2 + pre.length * 4 + 3, none⟩ = some (.string (strL y.s)))) (by kernel_rfl) ⟨⟨cn, cW⟩, cv, e2⟩ (fun hHeld => ?_)
    obtain ⟨p1, p2⟩ := p
    dsimp only at *
    by_cases hpy : p1 = pre.length
    · subst hpy
      have hE1 : ((pre.length : Int) != (pre.length : Int)) = false := by simp
      by_cases hxy : p2 = y
      · have hyes := hnot.2 (by rw [hxy])
        subst hxy
        have hE2 := neq_Vsame p2
        clear hnot
        refine wpAnyI_takeL (i := 0) (v := ?vhy42) (fun _ => trivial) (by kernel_rfl) rfl (by kernel_rfl) (by kernel_rfl) (by kernel_rfl) (fun _ _ _ h => h) (Or.inl ⟨by rfl, ?hy42⟩) (by assumption) ?rhy42
        case hy42 => ((intro w hSw; (try dsimp only at hSw); go_simp); try with_reducible rfl)
        try simp only [Act.put, List.setIfInBounds_toArray, List.set_cons_zero, List.set_cons_succ]
        refine wpAnyI_takeL (i := 1) (v := ?vhy43) (fun _ => trivial) (by kernel_rfl) rfl (by kernel_rfl) (by kernel_rfl) (by kernel_rfl) (fun _ _ _ h => h) (Or.inl ⟨by rfl, ?hy43⟩) (by assumption) ?rhy43
        case hy43 => ((intro w hSw; (try dsimp only at hSw); go_simp); try with_reducible rfl)
        try simp only [Act.put, List.setIfInBounds_toArray, List.set_cons_zero, List.set_cons_succ]
        refine wpAnyI_takeL (i := 2) (v := ?vhy44) (fun _ => trivial) (by kernel_rfl) rfl (by kernel_rfl) (by kernel_rfl) (by kernel_rfl) (fun _ _ _ h => h) (Or.inl ⟨by rfl, ?hy44⟩) (by assumption) ?rhy44
        case hy44 => ((intro w hSw; (try dsimp only at hSw); go_simp); try with_reducible rfl)
        try simp only [Act.put, List.setIfInBounds_toArray, List.set_cons_zero, List.set_cons_succ]
        refine wpAnyI_takeL (i := 3) (v := ?vhy45) (fun _ => trivial) (by kernel_rfl) rfl (by kernel_rfl) (by kernel_rfl) (by kernel_rfl) (fun _ _ _ h => h) (Or.inl ⟨by rfl, ?hy45⟩) (by assumption) ?rhy45
        case hy45 => ((intro w hSw; (try dsimp only at hSw); go_simp); try with_reducible rfl)
        try simp only [Act.put, List.setIfInBounds_toArray, List.set_cons_zero, List.set_cons_succ]
        refine wpAnyI_takeL (i := 4) (v := ?vhy46) (fun _ => trivial) (by kernel_rfl) rfl (by kernel_rfl) (by kernel_rfl) (by kernel_rfl) (fun _ _ _ h => h) (Or.inl ⟨by rfl, ?hy46⟩) (by assumption) ?rhy46
        case hy46 => ((intro w hSw; (try dsimp only at hSw); go_simp); try with_reducible rfl)
        try simp only [Act.put, List.setIfInBounds_toArray, List.set_cons_zero, List.set_cons_succ]
        refine wpAnyI_takeL (i := 5) (v := ?vhy47) (fun _ => trivial) (by kernel_rfl) rfl (by kernel_rfl) (by kernel_rfl) (by kernel_rfl) (fun _ _ _ h => h) (Or.inl ⟨by rfl, ?hy47⟩) (by assumption) ?rhy47
        case hy47 => ((intro w hSw; (try dsimp only at hSw); go_simp); try with_reducible rfl)
        try simp only [Act.put, List.setIfInBounds_toArray, List.set_cons_zero, List.set_cons_succ]
        refine wpAnyI_takeL (i := 6) (v := ?vhy48) (fun _ => trivial) (by kernel_rfl) rfl (by kernel_rfl) (by kernel_rfl) (by kernel_rfl) (fun _ _ _ h => h) (Or.inl ⟨by rfl, ?hy48⟩) (by assumption) ?rhy48
        case hy48 => ((intro w hSw; (try dsimp only at hSw); go_simp); try with_reducible rfl)
        try simp only [Act.put, List.setIfInBounds_toArray, List.set_cons_zero, List.set_cons_succ]
        refine wpAnyI_takeL (i := 7) (v := ?vhy49) (fun _ => trivial) (by kernel_rfl) rfl (by kernel_rfl) (by kernel_rfl) (by kernel_rfl) (fun _ _ _ h => h) (Or.inl ⟨by rfl, ?hy49⟩) (by assumption) ?rhy49
        case hy49 => ((intro w hSw; (try dsimp only at hSw); go_simp); try with_reducible rfl)
        try simp only [Act.put, List.setIfInBounds_toArray, List.set_cons_zero, List.set_cons_succ]
        refine wpAnyI_takeL (i := 8) (v := ?vhy50) (fun _ => trivial) (by kernel_rfl) rfl (by kernel_rfl) (by kernel_rfl) (by kernel_rfl) (fun _ _ _ h => h) (Or.inl ⟨by rfl, ?hy50⟩) (by assumption) ?rhy50
        case hy50 => ((intro w hSw; (try dsimp only at hSw); go_simp); try with_reducible rfl)
        try simp only [Act.put, List.setIfInBounds_toArray, List.set_cons_zero, List.set_cons_succ]
        refine wpAnyI_takeL (i := 9) (v := ?vhy51) (fun _ => trivial) (by kernel_rfl) rfl (by kernel_rfl) (by kernel_rfl) (by kernel_rfl) (fun _ _ _ h => h) (Or.inl ⟨by rfl, ?hy51⟩) (by assumption) ?rhy51
        case hy51 => ((intro w hSw; (try dsimp only at hSw); go_simp); try with_reducible rfl)
        try simp only [Act.put, List.setIfInBounds_toArray, List.set_cons_zero, List.set_cons_succ]
        refine wpAnyI_takeL (i := 10) (v := ?vhy52) (fun _ => trivial) (by kernel_rfl) rfl (by kernel_rfl) (by kernel_rfl) (by kernel_rfl) (fun _ _ _ h => h) (Or.inl ⟨by rfl, ?hy52⟩) (by assumption) ?rhy52
        case hy52 => ((intro w hSw; (try dsimp only at hSw); go_simp); try with_reducible rfl)
        try simp only [Act.put, List.setIfInBounds_toArray, List.set_cons_zero, List.set_cons_succ]
        refine wpAnyI_takeL (i := 11) (v := ?vhy53) (fun _ => trivial) (by kernel_rfl) rfl (by kernel_rfl) (by kernel_rfl) (by kernel_rfl) (fun _ _ _ h => h) (Or.inl ⟨by rfl, ?hy53⟩) (by assumption) ?rhy53
        case hy53 => ((intro w hSw; (try dsimp only at hSw); go_simp); try with_reducible rfl)
        try simp only [Act.put, List.setIfInBounds_toArray, List.set_cons_zero, List.set_cons_succ]
        refine wpAnyI_takeL (i := 12) (v := ?vhy54) (fun _ => trivial) (by kernel_rfl) rfl (by kernel_rfl) (by kernel_rfl) (by kernel_rfl) (fun _ _ _ h => h) (Or.inl ⟨by rfl, ?hy54⟩) (by assumption) ?rhy54
        case hy54 => ((intro w hSw; (try dsimp only at hSw); go_simp); try with_reducible rfl)
        try simp only [Act.put, List.setIfInBounds_toArray, List.set_cons_zero, List.set_cons_succ]
        refine wpAnyI_takeL (i := 13) (v := ?vhy55) (fun _ => trivial) (by kernel_rfl) rfl (by kernel_rfl) (by kernel_rfl) (by kernel_rfl) (fun _ _ _ h => h) (Or.inl ⟨by rfl, ?hy55⟩) (by assumption) ?rhy55
        case hy55 => ((intro w hSw; (try dsimp only at hSw); go_simp); try with_reducible rfl)
        try simp only [Act.put, List.setIfInBounds_toArray, List.set_cons_zero, List.set_cons_succ]
        refine wpAnyI_takeL (i := 14) (v := ?vhy56) (fun _ => trivial) (by kernel_rfl) rfl (by kernel_rfl) (by kernel_rfl) (by kernel_rfl) (fun _ _ _ h => h) (Or.inl ⟨by rfl, ?hy56⟩) (by assumption) ?rhy56
        case hy56 => ((intro w hSw; (try dsimp only at hSw); go_simp); try with_reducible rfl)
        try simp only [Act.put, List.setIfInBounds_toArray, List.set_cons_zero, List.set_cons_succ]
        refine wpAnyI_takeL (i := 15) (v := ?vhy57) (fun _ => trivial) (by kernel_rfl) rfl (by kernel_rfl) (by kernel_rfl) (by kernel_rfl) (fun _ _ _ h => h) (Or.inl ⟨by rfl, ?hy57⟩) (by assumption) ?rhy57
        case hy57 => ((intro w hSw; (try dsimp only at hSw); go_simp); try with_reducible rfl)
        try simp only [Act.put, List.setIfInBounds_toArray, List.set_cons_zero, List.set_cons_succ]
        refine wpAnyI_takeL (i := 16) (v := ?vhy58) (fun _ => trivial) (by kernel_rfl) rfl (by kernel_rfl) (by kernel_rfl) (by kernel_rfl) (fun _ _ _ h => h) (Or.inl ⟨by rfl, ?hy58⟩) (by assumption) ?rhy58
        case hy58 => ((intro w hSw; (try dsimp only at hSw); go_simp); try with_reducible rfl)
        try simp only [Act.put, List.setIfInBounds_toArray, List.set_cons_zero, List.set_cons_succ]
        refine wpAnyI_done (by kernel_rfl) ?_ _
        refine NoPanic.normal ?_
        clear hHeld e2 cv hE1 hE2 hge hge2
        replace hbn := box_drew hbn
        gi_wp2
        all_goals first
          | exact ⟨((KeepsOthers.drew W).trans (KeepsOthers.setCell _ _ _)).from _, EachX.next hEI.out rfl (by omega) (hbn.set _) hKq⟩
          | exact ⟨((KeepsOthers.drew W).trans (KeepsOthers.setCell _ _ _)).from _, hKp, EachI.next hEI.out hyes (by omega) (hbn.set _) hKq⟩
      · have hno : ¬ (pre ++ [(pre.length, p2)] <+: zs) := by rw [hnot]; intro e; injection e with _ e; exact hxy e.symm
        have hE2 := neq_Vno hxy
        clear hxy
        refine wpAnyI_takeL (i := 0) (v := ?vhy59) (fun _ => trivial) (by kernel_rfl) rfl (by kernel_rfl) (by kernel_rfl) (by kernel_rfl) (fun _ _ _ h => h) (Or.inl ⟨by rfl, ?hy59⟩) (by assumption) ?rhy59
        case hy59 => ((intro w hSw; (try dsimp only at hSw); go_simp); try with_reducible rfl)
        try simp only [Act.put, List.setIfInBounds_toArray, List.set_cons_zero, List.set_cons_succ]
        refine wpAnyI_takeL (i := 1) (v := ?vhy60) (fun _ => trivial) (by kernel_rfl) rfl (by kernel_rfl) (by kernel_rfl) (by kernel_rfl) (fun _ _ _ h => h) (Or.inl ⟨by rfl, ?hy60⟩) (by assumption) ?rhy60
        case hy60 => ((intro w hSw; (try dsimp only at hSw); go_simp); try with_reducible rfl)
        try simp only [Act.put, List.setIfInBounds_toArray, List.set_cons_zero, List.set_cons_succ]
        refine wpAnyI_takeL (i := 2) (v := ?vhy61) (fun _ => trivial) (by kernel_rfl) rfl (by kernel_rfl) (by kernel_rfl) (by kernel_rfl) (fun _ _ _ h => h) (Or.inl ⟨by rfl, ?hy61⟩) (by assumption) ?rhy61
        case hy61 => ((intro w hSw; (try dsimp only at hSw); go_simp); try with_reducible rfl)
        try simp only [Act.put, List.setIfInBounds_toArray, List.set_cons_zero, List.set_cons_succ]
        refine wpAnyI_takeL (i := 3) (v := ?vhy62) (fun _ => trivial) (by kernel_rfl) rfl (by kernel_rfl) (by kernel_rfl) (by kernel_rfl) (fun _ _ _ h => h) (Or.inl ⟨by rfl, ?hy62⟩) (by assumption) ?rhy62
        case hy62 => ((intro w hSw; (try dsimp only at hSw); go_simp); try with_reducible rfl)
        try simp only [Act.put, List.setIfInBounds_toArray, List.set_cons_zero, List.set_cons_succ]
        refine wpAnyI_takeL (i := 4) (v := ?vhy63) (fun _ => trivial) (by kernel_rfl) rfl (by kernel_rfl) (by kernel_rfl) (by kernel_rfl) (fun _ _ _ h => h) (Or.inl ⟨by rfl, ?hy63⟩) (by assumption) ?rhy63
        case hy63 => ((intro w hSw; (try dsimp only at hSw); go_simp); try with_reducible rfl)
        try simp only [Act.put, List.setIfInBounds_toArray, List.set_cons_zero, List.set_cons_succ]
        refine wpAnyI_takeL (i := 5) (v := ?vhy64) (fun _ => trivial) (by kernel_rfl) rfl (by kernel_rfl) (by kernel_rfl) (by kernel_rfl) (fun _ _ _ h => h) (Or.inl ⟨by rfl, ?hy64⟩) (by assumption) ?rhy64
        case hy64 => ((intro w hSw; (try dsimp only at hSw); go_simp); try with_reducible rfl)
        try simp only [Act.put, List.setIfInBounds_toArray, List.set_cons_zero, List.set_cons_succ]
        refine wpAnyI_takeL (i := 6) (v := ?vhy65) (fun _ => trivial) (by kernel_rfl) rfl (by kernel_rfl) (by kernel_rfl) (by kernel_rfl) (fun _ _ _ h => h) (Or.inl ⟨by rfl, ?hy65⟩) (by assumption) ?rhy65
        case hy65 => ((intro w hSw; (try dsimp only at hSw); go_simp); try with_reducible rfl)
        try simp only [Act.put, List.setIfInBounds_toArray, List.set_cons_zero, List.set_cons_succ]
        refine wpAnyI_takeL (i := 7) (v := ?vhy66) (fun _ => trivial) (by kernel_rfl) rfl (by kernel_rfl) (by kernel_rfl) (by kernel_rfl) (fun _ _ _ h => h) (Or.inl ⟨by rfl, ?hy66⟩) (by assumption) ?rhy66
        case hy66 => ((intro w hSw; (try dsimp only at hSw); go_simp); try with_reducible rfl)
        try simp only [Act.put, List.setIfInBounds_toArray, List.set_cons_zero, List.set_cons_succ]
        refine wpAnyI_takeL (i := 8) (v := ?vhy67) (fun _ => trivial) (by kernel_rfl) rfl (by kernel_rfl) (by kernel_rfl) (by kernel_rfl) (fun _ _ _ h => h) (Or.inl ⟨by rfl, ?hy67⟩) (by assumption) ?rhy67
        case hy67 => ((intro w hSw; (try dsimp only at hSw); go_simp); try with_reducible rfl)
        try simp only [Act.put, List.setIfInBounds_toArray, List.set_cons_zero, List.set_cons_succ]
        refine wpAnyI_takeL (i := 9) (v := ?vhy68) (fun _ => trivial) (by kernel_rfl) rfl (by kernel_rfl) (by kernel_rfl) (by kernel_rfl) (fun _ _ _ h => h) (Or.inl ⟨by rfl, ?hy68⟩) (by assumption) ?rhy68
        case hy68 => ((intro w hSw; (try dsimp only at hSw); go_simp); try with_reducible rfl)
        try simp only [Act.put, List.setIfInBounds_toArray, List.set_cons_zero, List.set_cons_succ]
        refine wpAnyI_takeL (i := 10) (v := ?vhy69) (fun _ => trivial) (by kernel_rfl) rfl (by kernel_rfl) (by kernel_rfl) (by kernel_rfl) (fun _ _ _ h => h) (Or.inl ⟨by rfl, ?hy69⟩) (by assumption) ?rhy69
        case hy69 => ((intro w hSw; (try dsimp only at hSw); go_simp); try with_reducible rfl)
        try simp only [Act.put, List.setIfInBounds_toArray, List.set_cons_zero, List.set_cons_succ]
        refine wpAnyI_takeL (i := 11) (v := ?vhy70) (fun _ => trivial) (by kernel_rfl) rfl (by kernel_rfl) (by kernel_rfl) (by kernel_rfl) (fun _ _ _ h => h) (Or.inl ⟨by rfl, ?hy70⟩) (by assumption) ?rhy70
        case hy70 => ((intro w hSw; (try dsimp only at hSw); go_simp); try with_reducible rfl)
        try simp only [Act.put, List.setIfInBounds_toArray, List.set_cons_zero, List.set_cons_succ]
        refine wpAnyI_takeL (i := 12) (v := ?vhy71) (fun _ => trivial) (by kernel_rfl) rfl (by kernel_rfl) (by kernel_rfl) (by kernel_rfl) (fun _ _ _ h => h) (Or.inl ⟨by rfl, ?hy71⟩) (by assumption) ?rhy71
        case hy71 => ((intro w hSw; (try dsimp only at hSw); go_simp); try with_reducible rfl)
        try simp only [Act.put, List.setIfInBounds_toArray, List.set_cons_zero, List.set_cons_succ]
        refine wpAnyI_takeL (i := 13) (v := ?vhy72) (fun _ => trivial) (by kernel_rfl) rfl (by kernel_rfl) (by kernel_rfl) (by kernel_rfl) (fun _ _ _ h => h) (Or.inl ⟨by rfl, ?hy72⟩) (by assumption) ?rhy72
        case hy72 => ((intro w hSw; (try dsimp only at hSw); go_simp); try with_reducible rfl)
        try simp only [Act.put, List.setIfInBounds_toArray, List.set_cons_zero, List.set_cons_succ]
        refine wpAnyI_takeL (i := 14) (v := ?vhy73) (fun _ => trivial) (by kernel_rfl) rfl (by kernel_rfl) (by kernel_rfl) (by kernel_rfl) (fun _ _ _ h => h) (Or.inl ⟨by rfl, ?hy73⟩) (by assumption) ?rhy73
        case hy73 => ((intro w hSw; (try dsimp only at hSw); go_simp); try with_reducible rfl)
        try simp only [Act.put, List.setIfInBounds_toArray, List.set_cons_zero, List.set_cons_succ]
        refine wpAnyI_takeL (i := 15) (v := ?vhy74) (fun _ => trivial) (by kernel_rfl) rfl (by kernel_rfl) (by kernel_rfl) (by kernel_rfl) (fun _ _ _ h => h) (Or.inl ⟨by rfl, ?hy74⟩) (by assumption) ?rhy74
        case hy74 => ((intro w hSw; (try dsimp only at hSw); go_simp); try with_reducible rfl)
        try simp only [Act.put, List.setIfInBounds_toArray, List.set_cons_zero, List.set_cons_succ]
        refine wpAnyI_takeL (i := 16) (v := ?vhy75) (fun _ => trivial) (by kernel_rfl) rfl (by kernel_rfl) (by kernel_rfl) (by kernel_rfl) (fun _ _ _ h => h) (Or.inl ⟨by rfl, ?hy75⟩) (by assumption) ?rhy75
        case hy75 => ((intro w hSw; (try dsimp only at hSw); go_simp); try with_reducible rfl)
        try simp only [Act.put, List.setIfInBounds_toArray, List.set_cons_zero, List.set_cons_succ]
        refine wpAnyI_done (by kernel_rfl) ?_ _
        refine NoPanic.normal ?_
        clear hHeld e2 cv hE1 hE2 hge hge2
        gi_wp2
        exact ⟨((KeepsOthers.drew W).trans (KeepsOthers.setCell _ _ _)).from _, EachX.no hno⟩
    · have hE1 : ((p1 : Int) != (pre.length : Int)) = true := by simp; omega
      have hno : ¬ (pre ++ [(p1, p2)] <+: zs) := by rw [hnot]; intro e; injection e with e _; exact hpy e.symm
      refine wpAnyI_takeL (i := 0) (v := ?vhy76) (fun _ => trivial) (by kernel_rfl) rfl (by kernel_rfl) (by kernel_rfl) (by kernel_rfl) (fun _ _ _ h => h) (Or.inl ⟨by rfl, ?hy76⟩) (by assumption) ?rhy76
      case hy76 => ((intro w hSw; (try dsimp only at hSw); go_simp); try with_reducible rfl)
      try simp only [Act.put, List.setIfInBounds_toArray, List.set_cons_zero, List.set_cons_succ]
      refine wpAnyI_takeL (i := 1) (v := ?vhy77) (fun _ => trivial) (by kernel_rfl) rfl (by kernel_rfl) (by kernel_rfl) (by kernel_rfl) (fun _ _ _ h => h) (Or.inl ⟨by rfl, ?hy77⟩) (by assumption) ?rhy77
      case hy77 => ((intro w hSw; (try dsimp only at hSw); go_simp); try with_reducible rfl)
      try simp only [Act.put, List.setIfInBounds_toArray, List.set_cons_zero, List.set_cons_succ]
      refine wpAnyI_takeL (i := 2) (v := ?vhy78) (fun _ => trivial) (by kernel_rfl) rfl (by kernel_rfl) (by kernel_rfl) (by kernel_rfl) (fun _ _ _ h => h) (Or.inl ⟨by rfl, ?hy78⟩) (by assumption) ?rhy78
      case hy78 => ((intro w hSw; (try dsimp only at hSw); go_simp); try with_reducible rfl)
      try simp only [Act.put, List.setIfInBounds_toArray, List.set_cons_zero, List.set_cons_succ]
      refine wpAnyI_takeL (i := 3) (v := ?vhy79) (fun _ => trivial) (by kernel_rfl) rfl (by kernel_rfl) (by kernel_rfl) (by kernel_rfl) (fun _ _ _ h => h) (Or.inl ⟨by rfl, ?hy79⟩) (by assumption) ?rhy79
      case hy79 => ((intro w hSw; (try dsimp only at hSw); go_simp); try with_reducible rfl)
      try simp only [Act.put, List.setIfInBounds_toArray, List.set_cons_zero, List.set_cons_succ]
      refine wpAnyI_takeL (i := 4) (v := undef) (fun _ => trivial) (by kernel_rfl) rfl (by kernel_rfl) (by kernel_rfl) (by kernel_rfl) (fun _ _ _ h => h) (Or.inr ⟨by rfl, rfl⟩) (by assumption) ?_
      try simp only [Act.put, List.setIfInBounds_toArray, List.set_cons_zero, List.set_cons_succ]
      refine wpAnyI_takeL (i := 5) (v := undef) (fun _ => trivial) (by kernel_rfl) rfl (by kernel_rfl) (by kernel_rfl) (by kernel_rfl) (fun _ _ _ h => h) (Or.inr ⟨by rfl, rfl⟩) (by assumption) ?_
      try simp only [Act.put, List.setIfInBounds_toArray, List.set_cons_zero, List.set_cons_succ]
      refine wpAnyI_takeL (i := 6) (v := undef) (fun _ => trivial) (by kernel_rfl) rfl (by kernel_rfl) (by kernel_rfl) (by kernel_rfl) (fun _ _ _ h => h) (Or.inr ⟨by rfl, rfl⟩) (by assumption) ?_
      try simp only [Act.put, List.setIfInBounds_toArray, List.set_cons_zero, List.set_cons_succ]
      refine wpAnyI_takeL (i := 7) (v := undef) (fun _ => trivial) (by kernel_rfl) rfl (by kernel_rfl) (by kernel_rfl) (by kernel_rfl) (fun _ _ _ h => h) (Or.inr ⟨by rfl, rfl⟩) (by assumption) ?_
      try simp only [Act.put, List.setIfInBounds_toArray, List.set_cons_zero, List.set_cons_succ]
      refine wpAnyI_takeL (i := 8) (v := ?vhy80) (fun _ => trivial) (by kernel_rfl) rfl (by kernel_rfl) (by kernel_rfl) (by kernel_rfl) (fun _ _ _ h => h) (Or.inl ⟨by rfl, ?hy80⟩) (by assumption) ?rhy80
      case hy80 => ((intro w hSw; (try dsimp only at hSw); go_simp); try with_reducible rfl)
      try simp only [Act.put, List.setIfInBounds_toArray, List.set_cons_zero, List.set_cons_succ]
      refine wpAnyI_takeL (i := 9) (v := ?vhy81) (fun _ => trivial) (by kernel_rfl) rfl (by kernel_rfl) (by kernel_rfl) (by kernel_rfl) (fun _ _ _ h => h) (Or.inl ⟨by rfl, ?hy81⟩) (by assumption) ?rhy81
      case hy81 => ((intro w hSw; (try dsimp only at hSw); go_simp); try with_reducible rfl)
      try simp only [Act.put, List.setIfInBounds_toArray, List.set_cons_zero, List.set_cons_succ]
      refine wpAnyI_takeL (i := 10) (v := undef) (fun _ => trivial) (by kernel_rfl) rfl (by kernel_rfl) (by kernel_rfl) (by kernel_rfl) (fun _ _ _ h => h) (Or.inr ⟨by rfl, rfl⟩) (by assumption) ?_
      try simp only [Act.put, List.setIfInBounds_toArray, List.set_cons_zero, List.set_cons_succ]
      refine wpAnyI_takeL (i := 11) (v := undef) (fun _ => trivial) (by kernel_rfl) rfl (by kernel_rfl) (by kernel_rfl) (by kernel_rfl) (fun _ _ _ h => h) (Or.inr ⟨by rfl, rfl⟩) (by assumption) ?_
      try simp only [Act.put, List.setIfInBounds_toArray, List.set_cons_zero, List.set_cons_succ]
      refine wpAnyI_takeL (i := 12) (v := undef) (fun _ => trivial) (by kernel_rfl) rfl (by kernel_rfl) (by kernel_rfl) (by kernel_rfl) (fun _ _ _ h => h) (Or.inr ⟨by rfl, rfl⟩) (by assumption) ?_
      try simp only [Act.put, List.setIfInBounds_toArray, List.set_cons_zero, List.set_cons_succ]
      refine wpAnyI_takeL (i := 13) (v := undef) (fun _ => trivial) (by kernel_rfl) rfl (by kernel_rfl) (by kernel_rfl) (by kernel_rfl) (fun _ _ _ h => h) (Or.inr ⟨by rfl, rfl⟩) (by assumption) ?_
      try simp only [Act.put, List.setIfInBounds_toArray, List.set_cons_zero, List.set_cons_succ]
      refine wpAnyI_takeL (i := 14) (v := undef) (fun _ => trivial) (by kernel_rfl) rfl (by kernel_rfl) (by kernel_rfl) (by kernel_rfl) (fun _ _ _ h => h) (Or.inr ⟨by rfl, rfl⟩) (by assumption) ?_
      try simp only [Act.put, List.setIfInBounds_toArray, List.set_cons_zero, List.set_cons_succ]
      refine wpAnyI_takeL (i := 15) (v := undef) (fun _ => trivial) (by kernel_rfl) rfl (by kernel_rfl) (by kernel_rfl) (by kernel_rfl) (fun _ _ _ h => h) (Or.inr ⟨by rfl, rfl⟩) (by assumption) ?_
      try simp only [Act.put, List.setIfInBounds_toArray, List.set_cons_zero, List.set_cons_succ]
      refine wpAnyI_takeL (i := 16) (v := ?vhy82) (fun _ => trivial) (by kernel_rfl) rfl (by kernel_rfl) (by kernel_rfl) (by kernel_rfl) (fun _ _ _ h => h) (Or.inl ⟨by rfl, ?hy82⟩) (by assumption) ?rhy82
      case hy82 => ((intro w hSw; (try dsimp only at hSw); go_simp); try with_reducible rfl)
      try simp only [Act.put, List.setIfInBounds_toArray, List.set_cons_zero, List.set_cons_succ]
      refine wpAnyI_done (by kernel_rfl) ?_ _
      refine NoPanic.normal ?_
      clear hHeld e2 cv hE1 hge hge2
      gi_wp2
      exact ⟨((KeepsOthers.drew W).trans (KeepsOthers.setCell _ _ _)).from _, EachX.no hno⟩
  rintro E us Wb hDE ⟨hE0, hE1, hbn, hBW⟩ hKE
  rw [hzl, hxn] at hE0 hE1
  have hVs := hVs.trans (hBW.mono hVV)
  replace hM1 := box_in hM1 hBW
  replace hB1 := box_in hB1 hBW
  replace hTn := box_in hTn hBW
  have hMw := hM1.cell
  have hTnw := hTn.cell
  have cB := (box_below hWt hVs hwlt).cell
  have cn := hbn.cell
  have hmin : (((us.length : Int)) != (n : Int)) = false := by simp [hE1 (by decide)]
  have hEl : E < Wb.heap.size := (Array.getElem?_eq_some_iff.1 hKE).1
  replace hKD := (hBW.block D (by omega)).trans hKD2
  clear hE0 hE1 hVW hNn hVV hTlt hn1 hn2 hn3 hn4 hTtc hTtf
  go_wp2
  rw [rounds_succ]
  replace hTn := (Boxed.new Wb 3 (.int .i64 2)).cell
  have hTs := (Below.refl Wb.heap.size Wb).alloc (Nat.le_refl _) (.cells #[.int .i64 2] 3)
  replace hB1 := hB1.alloc (.cells #[.int .i64 2] 3)
  replace hKD := (hTs.block D (by have := hBW.size; omega)).trans hKD
  replace hKE := (hTs.block E hEl).trans hKE
  have hTz := hTs.size
  have hbel2 := hBW.size
  clear hMw hTnw cB cn hmin hbn hBW
  have hW5 := hVs.trans (hTs.mono hVs.size)
  generalize (Wb.alloc (.cells #[.int .i64 2] 3)) = W5 at *
  have hbase : Below w.heap.size w W5 := hbV.trans (hW5.mono (by omega))
  have cR := hB1.cell
  have fR := hB1.frozen
  have c1 := (hB1.set (.bool true)).cell
  clear hTs hM1 hVs hBn hEq
  go_wp2
  have k1 := (KeepsOthers.setCell W5 ⟨w.heap.size + 1, 0, none⟩ (.bool true)).same E _ hKE rfl
  have k2 := (KeepsOthers.setCell W5 ⟨w.heap.size + 1, 0, none⟩ (.bool true)).same D _ hKD rfl
  have k3 : ((W5.setCell ⟨w.heap.size + 1, 0, none⟩ (.bool true)).putObj E (.deferred none)).heap[D]? = some (.deferred (some [])) := (World.putObj_heap_other (by omega)).trans k2
  refine ⟨by simp, .inl ⟨_, _, rfl, run_takeDeferred k1, ⟨by simp, .inl ⟨_, _, rfl, run_takeDeferred k3, ?_⟩⟩⟩⟩
  have c2 := cell_kept c1 (grownBy_putObj' _ E (.deferred none)) (fun r e => by cases e; exact ⟨_, k1, rfl⟩)
  have c3 := cell_kept c2 (grownBy_putObj' _ D (.deferred none)) (fun r e => by cases e; exact ⟨_, k3, rfl⟩)
  refine ⟨.bool true, ?_, rfl, ((hbase.setCell (p := ⟨w.heap.size + 1, 0, none⟩) (by simp) _).trans (belowK_b (w := w) (Nat.le_refl _) _ E _ _ (by omega) k1 rfl rfl)).trans (belowK_b (w := w) (Nat.le_refl _) _ D _ _ (by omega) k3 rfl rfl)⟩
  simp [results, Tryz.f23, go_sem, c3]
end Go.Proofs.YtcicmeggbkhniaaGreatDoor
