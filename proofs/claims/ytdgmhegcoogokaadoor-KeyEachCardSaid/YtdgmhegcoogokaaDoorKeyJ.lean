/- key.Decode. -/
import Derived.Test.YtdgmhegcoogokaaDoorKeyI
import Derived.Test.YtdgmhegcoogokaaDoorKeyB
namespace Go.Proofs.YtdgmhegcoogokaaDoor
open Go.RowKit
set_option linter.unusedVariables false

theorem wp_rangeFunc_H {α : Type} {P : Program} {g : Operand} {ps : Array Tmp} {assign body : Code} {Q : Exit → Act → World → Prop} {a : Act} {w : World} {gf : Nat} {lb : Array Value}
    (hg : a.eval g = .func (.func gf) #[] lb) (eg : ∀ args w, (callFunc gf args).run P w = .ok (.enter gf args) w)
    {encs : α → Array Value} {Kp : World → World → Prop} {S Sp : List α → Prop} {N : Nat} {w0 : World} (hseq : SeqStopsK Fence.wide 8 P gf lb encs Kp S Sp N w0)
    (hKt : ∀ {A B C : World}, Kp A B → Kp B C → Kp A C) (hKb : ∀ (W : World) (l : Nat) (o o' : Obj), w.heap.size ≤ l → W.heap[l]? = some o → o.isCells = false → o.isWalk = false → Kp W (W.putObj l o')) (hb0 : Below w0.heap.size w0 w) (hps : ∀ x, (encs x).size = ps.size)
    (I : List α → World → Prop) (Ix : Code → List α → World → Prop) (hI : OwnFrom w.heap.size I) (hIx : ∀ c, OwnFrom w.heap.size (Ix c)) (h0 : I [] w) (Ax : α → Act → World → Prop) (hAx : ∀ x a', OwnFrom w.heap.size (fun (_ : Unit) W => Ax x a' W))
    (hassign : ∀ (l : Nat) (pre : List α) (x : α) (W : World) (K : Act → World → Prop), I pre W → (∀ a' W', KeepsFrom w.heap.size W W' → Kp W W' → I pre W' → Ax x a' W' → K a' W') →
      assign.wpIn (Fence.wide.inRound l) 7 P (Exit.then K (fun _ _ _ => False)) { tmps := (ps.zip (encs x)).foldl (fun t (p, v) => t.setIfInBounds p v) a.tmps, defers := [] } W)
    (hbody : ∀ (l : Nat) (pre : List α) (x : α) (a' : Act) (W : World), w.heap.size ≤ l → (∃ r, W.heap[l]? = some (.loop r)) → I pre W → Ax x a' W → pre.length < N → body.wpIn (Fence.wide.inRound l) 7 P (ownPostG w.heap.size Kp I Ix (pre ++ [x]) W) a' W)
    (hdone : ∀ (D : Nat) (xs : List α) (W : World), w.heap.size ≤ D → S xs → I xs W → W.heap[D]? = some (.deferred (some [])) → Q .normal { a with defers := { target := .collected D, args := #[] } :: a.defers } W)
    (hstop : ∀ (D : Nat) (c : Code) (pre : List α) (W : World), w.heap.size ≤ D → Sp pre → Ix c pre W → W.heap[D]? = some (.deferred (some [])) → c.wp P Q { a with defers := { target := .collected D, args := #[] } :: a.defers } W) :
    (Code.rangeFunc g ps assign body).wp P Q a w :=
  wpIn_wide (n := 9).1 (wpIn_rangeFunc_ownH rfl (by decide) hg trivial eg hseq hKt hKb hb0 hps I Ix hI hIx h0 Ax hAx hassign hbody hdone (fun D c pre W h1 h2 h3 h4 => wpIn_wide.2 (hstop D c pre W h1 h2 h3 h4)))

/-- append of values, in a walk inside a fence. -/
theorem wpListIn_append_v {F : Fence} {m' : Nat} {P : Program} (w : World) {ops : Array Oper} {rest : List Oper} {o : Oper} {a : Act} {Q : Exit → Act → World → Prop} (hgd : o.guard = none) (s x : Operand) (t : TypeId)
    (ho : o.op = .call { callee := .builtin .append, args := #[s, x], argTypes := #[t, t] })
    (e : TypeId) (z : Value) (size bytes : Nat) (ht : P.underlying t = some (.slice e)) (hi : (P.info? e).map (fun i => (i.zero, i.size, i.bytes)) = some (some z, size, bytes)) (hzs : z.cells.size = size) (hsz : 0 < size)
    (base : Nat) (A : Option Addr) (n c : Nat) (xs : List Value) (hs : a.eval s = .slice A n c) (hown : Ov w base e size A n c xs)
    (B : Option Addr) (m d : Nat) (ys : List Value) (hx : a.eval x = .slice B m d) (hr : Rv w size B m d ys) (h1 : ∀ u ∈ ys, u.oneCell' = true)
    (hlen : n + m ≤ 100000) (hby : bytes ≤ 100000) (hbase : base ≤ w.heap.size)
    (h : ∀ A' c' w', Ov w' base e size A' (n + m) c' (xs ++ ys) → w.grownBy w' (ab A) → (ab A' = ab A ∨ ab A' = some w.heap.size) → wpListIn F m' P ops Q rest (a.put o.dst (.slice A' (n + m) c')) w') :
    wpListIn F m' P ops Q (o :: rest) a w := by
  obtain ⟨i, hi1, hi2, hi3, hi4⟩ : ∃ i, P.info? e = some i ∧ i.zero = some z ∧ i.size = size ∧ i.bytes = bytes := by
    match h : P.info? e with
    | none => rw [h] at hi; cases hi
    | some i =>
      rw [h] at hi
      simp only [Option.map_some, Option.some.injEq, Prod.mk.injEq] at hi
      exact ⟨i, rfl, hi.1, hi.2.1, hi.2.2⟩
  obtain ⟨A', c', w', hrun, h2, h3, h4⟩ := run_append_v (P := P) (ty := o.type) w t e i z size bytes ht hi1 hi2 hi3 hi4 hzs hsz base A n c xs hown B m d ys hr h1 (by unfold maxLen; omega) (by have := Nat.mul_le_mul (show n + m ≤ 100000 by omega) hby; omega) hbase
  refine wpListIn_plain hgd fun K hK' => ?_
  unfold Oper.wpIn
  refine ⟨?_, ?_⟩
  · simp [Oper.about, ho, resolve, Target.leads, Sem.run_pure]
  · rw [Oper.semAt_plain F _ _ (by rw [ho]; intro c hc'; cases hc')]
    simp [execOp, ho, resolve, invoke, builtin, hs, hx, hrun, Result.andThen]
    exact hK' _ _ (h A' c' w' h2 h3 h4)

def pos {l : List UInt8} (pre : List (Place l)) : Nat := match pre.getLast? with
  | none => 0
  | some p => p.at_ + p.k
theorem pos_snoc {l : List UInt8} (pre : List (Place l)) (p : Place l) : pos (pre ++ [p]) = p.at_ + p.k := by simp [pos]
theorem pos_le {l : List UInt8} (pre : List (Place l)) : pos pre ≤ l.length := by
  unfold pos
  split
  · omega
  · rename_i p _
    exact p.step.2

theorem info_V : (Tryd.prog.info? 42).map (fun i => (i.zero, i.size, i.bytes)) = some (some (.agg #[.int .i64 0, .int .i64 0, .int .u64 0, .string ByteArray.empty]), 4, 40) := by kernel_rfl
theorem VBox.rv {W : World} {B : Nat} {x : Vl} (h : VBox W B x.k x.i x.u (strL x.s)) : Rv W 4 (some ⟨B, 0, none⟩) 1 1 x.cells :=
  ⟨rfl, Nat.le_refl _, by decide, fun _ => ⟨B, 0, rfl, h.lt, fun j u hu => by
    have hc := h.cells
    match j with
    | 0 => simp [Vl.cells] at hu; subst hu; exact hc.1
    | 1 => simp [Vl.cells] at hu; subst hu; exact hc.2.1
    | 2 => simp [Vl.cells] at hu; subst hu; exact hc.2.2.1
    | 3 => simp [Vl.cells] at hu; subst hu; exact hc.2.2.2
    | j + 4 => simp [Vl.cells] at hu⟩⟩
/-- What Decode has laid. -/
def DecI (w V : World) (l : List UInt8) (pre : List (Place l)) (W : World) : Prop :=
  ∃ A c, Boxed W (w.heap.size + 1) 22 (.slice A pre.length c) ∧ Ov W V.heap.size 42 4 A pre.length c (vcells (pre.map Place.x)) ∧ Boxed W (w.heap.size + 1 + 1) 3 (.int .i64 (pos pre : Int)) ∧
    Boxed W w.heap.size 9 (.string (strL l)) ∧ Rng (w.heap.size + 3) V.heap.size V W ∧ Below w.heap.size w W
theorem DecI.own (w V : World) (l : List UInt8) (H : Nat) (hH : V.heap.size ≤ H) (hV : w.heap.size + 3 ≤ V.heap.size) : OwnFrom H (DecI w V l) := fun s X Y row hs hg hr => by
  obtain ⟨A, c, h2, h3, h6, h9, h7, h8⟩ := hs
  have hlt : ∀ r, row = some r → V.heap.size ≤ r := fun r e => Nat.le_trans hH (hr r e).1
  refine ⟨A, c, ?_, ?_, ?_, ?_, ?_, ?_⟩
  · exact h2.kept hg (fun e => by have := hlt _ e.symm; omega)
  · refine Ov.grown h3 hg (fun b hb e => ?_)
    obtain ⟨o, ho, hc⟩ := (hr b e.symm).2
    rw [Ov.isCells h3 b o hb ho] at hc
    cases hc
  · exact h6.kept hg (fun e => by have := hlt _ e.symm; omega)
  · exact h9.kept hg (fun e => by have := hlt _ e.symm; omega)
  · exact Rng.own (β := Unit) V (Nat.le_refl _) hH () X Y row h7 hg hr
  · exact ownFrom_below (β := Unit) (Nat.le_refl _) (by omega) () X Y row h8 hg hr

/-- What Decode tells. -/
def decV {l : List UInt8} (xs : List (Place l)) : List Vl × Nat := if pos xs ≠ l.length ∨ 2000 < l.length then ([], 150) else (xs.map Place.x, 0)
def DecPost (w : World) (r : List Vl × Nat) (e : Ending) (w' : World) : Prop :=
  ∃ A n c, e = .returned (.tuple #[.slice A n c, .int .i64 (r.2 : Int)]) ∧ Ov w' w.heap.size 42 4 A n c (vcells r.1) ∧ Below w.heap.size w w'

attribute [local go_sem] Oper.semAt_some
set_option maxRecDepth 100000 in
set_option maxHeartbeats 2000000 in
theorem Decode_any (l : List UInt8) (xs : List (Place l)) (hx : KChain l 0 xs) (w : World) (hl : l.length ≤ 3000) : Calls Tryd.prog 13 #[.string (strL l)] w (DecPost w (decV xs)) := by
  have hsL := strL_size l
  refine callsIn_wide.1 (callsIn_of_wp_marks (n := 9) Tryd.func13 rfl trivial ?_ rfl)
  simp only [Tryd.ntmps13, List.size_toArray, List.length_cons, List.length_nil, Nat.reduceAdd, Nat.reduceSub, Array.replicate_succ, Array.replicate_zero, List.push_toArray, List.append_toArray, List.nil_append, List.cons_append]
  refine wpIn_wide.2 ?_
  go_wp2_with (go_at_call 17; refine (KEach_any _ _).mono ?_; rintro e w' ⟨rfl, rfl⟩)
  have hV1 := (((Boxed.new w 9 (.string (strL l))).alloc (.cells #[.slice none 0 0] 22)).alloc (.cells #[.int .i64 0] 3)).alloc (.cells #[.string (strL l)] 9)
  have hV2 := ((Boxed.new (w.alloc (.cells #[.string (strL l)] 9)) 22 (.slice none 0 0)).alloc (.cells #[.int .i64 0] 3)).alloc (.cells #[.string (strL l)] 9)
  have hV3 := (Boxed.new ((w.alloc (.cells #[.string (strL l)] 9)).alloc (.cells #[.slice none 0 0] 22)) 3 (.int .i64 0)).alloc (.cells #[.string (strL l)] 9)
  have hV4 := Boxed.new (((w.alloc (.cells #[.string (strL l)] 9)).alloc (.cells #[.slice none 0 0] 22)).alloc (.cells #[.int .i64 0] 3)) 9 (.string (strL l))
  have hbV : Below w.heap.size w ((((w.alloc (.cells #[.string (strL l)] 9)).alloc (.cells #[.slice none 0 0] 22)).alloc (.cells #[.int .i64 0] 3)).alloc (.cells #[.string (strL l)] 9)) := ((((Below.refl _ w).alloc (Nat.le_refl _) _).alloc (by simp) _).alloc (by simp; omega) _).alloc (by simp; omega) _
  have hsV : ((((w.alloc (.cells #[.string (strL l)] 9)).alloc (.cells #[.slice none 0 0] 22)).alloc (.cells #[.int .i64 0] 3)).alloc (.cells #[.string (strL l)] 9)).heap.size = w.heap.size + 4 := by simp
  simp only [World.size_alloc] at hV1 hV2 hV3 hV4
  generalize ((((w.alloc (.cells #[.string (strL l)] 9)).alloc (.cells #[.slice none 0 0] 22)).alloc (.cells #[.int .i64 0] 3)).alloc (.cells #[.string (strL l)] 9)) = V at *
  have hIV : DecI w V l [] V := ⟨none, 0, hV2, Ov.nil _ _ _ _, hV3, hV1, Rng.refl _ _ _, hbV⟩
  refine wp_rangeFunc_H rfl (enters_of Tryd.func29 (by kernel_rfl) rfl) (KEach1_stops V (w.heap.size + 1 + 1 + 1) l xs hV4.cell (by unfold maxLen; omega) hx (w.heap.size + 3) V.heap.size (by omega) (by omega) (Nat.le_refl _) 8 V (Below.refl _ _))
    Rng.trans (Rng.putObj (Nat.le_refl _)) (Below.refl _ _) (fun _ => rfl) (DecI w V l) (fun _ _ _ => False) (DecI.own w V l _ (Nat.le_refl _) (by omega)) (fun c => fun _ _ _ _ h _ _ => h) hIV
    (fun p a' W => ∃ Bv, V.heap.size ≤ Bv ∧ VBox W Bv p.x.k p.x.i p.x.u (strL p.x.s) ∧ a' = { tmps := #[.string (strL l), .pointer (some ⟨w.heap.size, 0, none⟩), .slice none 0 0, .int .i64 0, .pointer (some ⟨w.heap.size + 1, 0, none⟩), .pointer (some ⟨w.heap.size + 1 + 1, 0, none⟩), .int .i64 (p.at_ : Int), .pointer (some ⟨Bv, 0, none⟩), undef, undef, undef, .string (strL l), .func (.func 29) #[] #[.pointer (some ⟨w.heap.size + 1 + 1 + 1, 0, none⟩)], .int .i64 (p.at_ : Int), .agg #[.int .i64 p.x.k, .int .i64 p.x.i, .int .u64 p.x.u, .string (strL p.x.s)], undef, undef, undef, undef, undef, undef, undef, undef, undef, undef, undef, undef, undef, undef, undef, undef, undef, undef, undef, undef, undef, undef, undef, undef, undef], defers := [] }) ?hAx ?rassign ?rbody ?rdone ?rstop
  case rstop => exact fun _ _ _ _ _ _ h _ => h.elim
  case rassign =>
    intro m pre p W K hI hK
    simp only [encK, Vl.val, valV]
    simp only [List.zip_toArray, List.foldl_toArray, List.zip_cons_cons, List.zip_nil_right, List.foldl_cons, List.foldl_nil, List.setIfInBounds_toArray, List.set_cons_zero, List.set_cons_succ]
    have hb : Below W.heap.size W (W.alloc (.cells #[.int .i64 p.x.k, .int .i64 p.x.i, .int .u64 p.x.u, .string (strL p.x.s)] 42)) := (Below.refl _ W).alloc (Nat.le_refl _) _
    have hVW : V.heap.size ≤ W.heap.size := by
      obtain ⟨_, _, _, _, _, _, h, _⟩ := hI
      exact h.1
    have hI2 := DecI.own w V l V.heap.size (Nat.le_refl _) (by omega) pre W _ none hI (grown_of_below' hb) (fun r e => by cases e)
    gi_wp2
    exact hK _ _ ((KeepsOthers.alloc W _).from _) (Rng.of_below (hb.mono hVW)) hI2 ⟨W.heap.size, hVW, VBox.new W _ _ _ _, rfl⟩
  case hAx =>
    intro p a' s X Y row hs hg hr
    obtain ⟨Bv, h1, h2, h3⟩ := hs
    refine ⟨Bv, h1, (hg.block _ h2.lt (fun e => ?_)).trans h2, h3⟩
    obtain ⟨o, ho, hc⟩ := (hr Bv e.symm).2
    unfold VBox at h2
    rw [h2] at ho
    injection ho with ho
    subst ho
    cases hc
  case rbody =>
    rintro m pre p a' W hm hrec hI ⟨Bv, hBv, hvb, rfl⟩ hlt
    obtain ⟨A, c, hO, hOv, hP, hS, hR, hB⟩ := hI
    have hSc := hS.cell
    have hex : (strL l).extract p.at_ (strL l).size = strL (l.drop p.at_) := strL_hi l p.at_
    rw [hsL] at hex
    have hple := p.le
    have hone : oneV (l.drop p.at_) = (p.x, p.k, 0) := by unfold oneV; rw [p.reads]
    have hcall := one_any (l.drop p.at_) W (by simp; unfold maxLen; omega)
    unfold OnePost at hcall
    rw [hone] at hcall
    simp only [Vl.val, valV] at hcall
    replace hcall := Lib.hid hcall
    gi_wp2_with fail
    refine ⟨trivial, CallsIn.inRound m (callsIn_wide.2 ?_)⟩
    refine hcall.out.mono ?_
    rintro e W1 ⟨rfl, hb1⟩
    have hBl := hvb.lt
    have hVW := hR.1
    have hsz1 := hb1.size
    have hb2 : Below W.heap.size W (W1.alloc (.cells #[.int .i64 p.x.k, .int .i64 p.x.i, .int .u64 p.x.u, .string (strL p.x.s)] 42)) := gr_alloc hb1 _
    have hO2 := (box_in hO hb2).cell
    have hv2 := (hvb.below hb2 hBl).cells
    have hP2 := (box_in hP hb2).cell
    have hb3 : Below W.heap.size W ((W1.alloc (.cells #[.int .i64 p.x.k, .int .i64 p.x.i, .int .u64 p.x.u, .string (strL p.x.s)] 42)).alloc (.cells #[.int .i64 p.x.k, .int .i64 p.x.i, .int .u64 p.x.u, .string (strL p.x.s)] 42)) := gr_alloc hb2 _
    have hnew : VBox ((W1.alloc (.cells #[.int .i64 p.x.k, .int .i64 p.x.i, .int .u64 p.x.u, .string (strL p.x.s)] 42)).alloc (.cells #[.int .i64 p.x.k, .int .i64 p.x.i, .int .u64 p.x.u, .string (strL p.x.s)] 42)) (W1.heap.size + 1) p.x.k p.x.i p.x.u (strL p.x.s) := by
      have h := VBox.new (W1.alloc (.cells #[.int .i64 p.x.k, .int .i64 p.x.i, .int .u64 p.x.u, .string (strL p.x.s)] 42)) p.x.k p.x.i p.x.u (strL p.x.s)
      simpa using h
    have hKo3 : KeepsFrom V.heap.size W ((W1.alloc (.cells #[.int .i64 p.x.k, .int .i64 p.x.i, .int .u64 p.x.u, .string (strL p.x.s)] 42)).alloc (.cells #[.int .i64 p.x.k, .int .i64 p.x.i, .int .u64 p.x.u, .string (strL p.x.s)] 42)) := ⟨hb3.size, fun k o _ hk _ => (hb3.block k (Array.getElem?_eq_some_iff.1 hk).1).trans hk⟩
    have hlen := hx.length (Nat.zero_le _)
    have hst : wrap64 ((p.at_ : Int) + (p.k : Int)) = (p.at_ : Int) + (p.k : Int) := by have := p.step; unfold wrap64; omega
    gi_wp2_with (gi_at_builtin; refine wpListIn_append_v _ rfl _ _ 22 rfl 42 (.agg #[.int .i64 0, .int .i64 0, .int .u64 0, .string ByteArray.empty]) 4 40 Tryd.underlying22 info_V rfl (by decide) V.heap.size A pre.length c (vcells (pre.map Place.x)) rfl (hOv.below hb3) _ 1 1 p.x.cells rfl (VBox.rv hnew) (by simp [Vl.cells, Value.oneCell']) (by omega) (by decide) (Nat.le_trans hR.1 hb3.size) ?_; intro A' c' w5 hOv5 hg5 hab5; have hO5 := (box_in hO hb3).kept hg5 (fun e => by have := (hOv.ab _ e.symm).1; omega); have hP5 := (box_in hP hb3).kept hg5 (fun e => by have := (hOv.ab _ e.symm).1; omega); have hcO5 := hO5.cell; have hfO5 := hO5.frozen; have hcP5 := hP5.cell; have hfP5 := hP5.frozen; have hP6 := box_other (B' := w.heap.size + 1) (v' := .slice A' (pre.length + 1) c') hP5 (by omega); have hcP6 := hP6.cell; have hfP6 := hP6.frozen)
    have hA : ∀ b, ab A = some b → V.heap.size ≤ b := fun b hb => (hOv.ab b hb).1
    have hA' : ∀ b, ab A' = some b → V.heap.size ≤ b := fun b hb => (hOv5.ab b hb).1
    have hgc1 := grownBy_setCell' w5 (w.heap.size + 1) (.slice A' (pre.length + 1) c')
    have hgc2 := grownBy_setCell' (w5.setCell ⟨w.heap.size + 1, 0, none⟩ (.slice A' (pre.length + 1) c')) (w.heap.size + 1 + 1) (.int .i64 ((p.at_ : Int) + (p.k : Int)))
    have hS5 := (box_in hS hb3).kept hg5 (fun e => by have := hA _ e.symm; omega)
    have hRW : Rng (w.heap.size + 3) V.heap.size W ((w5.setCell ⟨w.heap.size + 1, 0, none⟩ (.slice A' (pre.length + 1) c')).setCell ⟨w.heap.size + 1 + 1, 0, none⟩ (.int .i64 ((p.at_ : Int) + (p.k : Int)))) :=
      (((Rng.of_below (hb3.mono hR.1)).trans (Rng.grown hg5 (Nat.le_trans hR.1 hb3.size) (fun r e => .inr (hA r e)))).trans (Rng.setCell _ _ _ _ (.inl (by omega)))).trans (Rng.setCell _ _ _ _ (.inl (by omega)))
    have hpl : (pre ++ [p]).length = pre.length + 1 := by simp
    refine ⟨((hKo3.trans ((KeepsOthers.of_grownBy hg5 (Ov.isCells (hOv.below hb3))).from _)).trans ((KeepsOthers.setCell _ _ _).from _)).trans ((KeepsOthers.setCell _ _ _).from _), hRW, A', c', ?_, ?_, ?_, ?_, hR.trans hRW, ?_⟩
    · rw [hpl]
      exact box_other (hO5.set _) (by omega)
    · rw [hpl]
      have h1 := Ov.grown (Ov.grown hOv5 hgc1 (fun b hb e => by have h1 := hA' b hb; have e : b = w.heap.size + 1 := Option.some.inj e; omega)) hgc2 (fun b hb e => by have h1 := hA' b hb; have e : b = w.heap.size + 1 + 1 := Option.some.inj e; omega)
      simpa [vcells] using h1
    · rw [pos_snoc]
      exact hP6.set _
    · exact box_other (box_other hS5 (by omega)) (by omega)
    · exact (((hB.trans (hb3.mono hB.size)).grown hg5 (Nat.le_trans hB.size hb3.size) (fun k e => by have := hA k e; omega)).setCell (p := ⟨w.heap.size + 1, 0, none⟩) (by simp) _).setCell (p := ⟨w.heap.size + 1 + 1, 0, none⟩) (by simp; omega) _
  case rdone =>
    intro D ys W hD hys hI hWD
    subst hys
    obtain ⟨A, c, hO, hOv, hP, hS, hR, hB⟩ := hI
    have hcO := hO.cell
    have hcP := hP.cell
    have hcS := hS.cell
    have hpl := pos_le ys
    have k1 := hWD
    have hfin : Below w.heap.size w (W.putObj D (.deferred none)) := hB.trans (belowK_b (w := w) (Nat.le_refl _) _ D _ _ (by omega) k1 rfl rfl)
    have hOvf : Ov (W.putObj D (.deferred none)) w.heap.size 42 4 A ys.length c (vcells (ys.map Place.x)) := (Ov.grown hOv (grownBy_putObj' W D (.deferred none)) (fun b hb e => by
      have e : b = D := Option.some.inj e
      subst e
      cases Ov.isCells hOv b _ hb k1)).ge (by omega)
    by_cases hp : pos ys = l.length
    · have hd1 : ((pos ys : Int) != (l.length : Int)) = false := by simp [hp]
      by_cases hz : 2000 < l.length
      · have hd2 : decide ((2000 : Int) < (l.length : Int)) = true := by simp; omega
        have hde : decV ys = ([], 150) := by unfold decV; rw [if_pos (.inr hz)]
        replace hde := Lib.hid hde
        go_wp2
        refine ⟨by simp, .inl ⟨_, _, rfl, run_takeDeferred k1, ?_⟩⟩
        refine ⟨.tuple #[.slice none 0 0, .int .i64 150], ?_, ?_⟩
        · simp [results, Tryd.f13, go_sem]
        · rw [hde.out]
          exact ⟨none, 0, 0, rfl, Ov.nil _ _ _ _, hfin⟩
      · have hd2 : decide ((2000 : Int) < (l.length : Int)) = false := by simp; omega
        have hde : decV ys = (ys.map Place.x, 0) := by unfold decV; rw [if_neg (by omega)]
        replace hde := Lib.hid hde
        go_wp2
        refine ⟨by simp, .inl ⟨_, _, rfl, run_takeDeferred k1, ?_⟩⟩
        refine ⟨.tuple #[.slice A ys.length c, .int .i64 0], ?_, ?_⟩
        · simp [results, Tryd.f13, go_sem]
        · rw [hde.out]
          exact ⟨A, ys.length, c, rfl, hOvf, hfin⟩
    · have hd1 : ((pos ys : Int) != (l.length : Int)) = true := by simp; omega
      have hde : decV ys = ([], 150) := by unfold decV; rw [if_pos (.inl hp)]
      replace hde := Lib.hid hde
      go_wp2
      refine ⟨by simp, .inl ⟨_, _, rfl, run_takeDeferred k1, ?_⟩⟩
      refine ⟨.tuple #[.slice none 0 0, .int .i64 150], ?_, ?_⟩
      · simp [results, Tryd.f13, go_sem]
      · rw [hde.out]
        exact ⟨none, 0, 0, rfl, Ov.nil _ _ _ _, hfin⟩
end Go.Proofs.YtdgmhegcoogokaaDoor
