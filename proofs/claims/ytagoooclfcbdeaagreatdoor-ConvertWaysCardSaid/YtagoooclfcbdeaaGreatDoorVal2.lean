/- value: two values held against each other; Check. -/
import Derived.Test.YtagoooclfcbdeaaGreatDoorVal
import Derived.Test.YtagoooclfcbdeaaGreatDoorReg
import Derived.Test.YtagoooclfcbdeaaGreatDoorRegC
namespace Go.Proofs.YtagoooclfcbdeaaGreatDoor
open Go.RowKit
set_option linter.unusedVariables false

theorem toList_inj (s t : ByteArray) : s.toList = t.toList ↔ s = t := by
  have h1 := strL_toList s.data.toList
  have h2 := strL_toList t.data.toList
  rw [strL_of] at h1 h2
  rw [h1, h2]
  constructor
  · intro h
    cases s; cases t
    simp at h
    simp [h]
  · rintro rfl
    rfl

theorem equal_V (k i u : Int) (s : ByteArray) (k' i' u' : Int) (s' : ByteArray) (w : World) : (Op.equal 28 (valV k i u s) (valV k' i' u' s')).run Tryz.prog w = .ok (k == k' && i == i' && u == u' && decide (s = s')) w := by
  have : Op.maxDepth = 9998 + 1 + 1 := rfl
  unfold valV
  rw [Op.equal, this, Op.equalIn]
  simp [go_sem, Sem.run_bind, run_underlying Tryz.underlying28, toList_inj]
  by_cases h1 : k = k' <;> by_cases h2 : i = i' <;> by_cases h3 : u = u' <;> by_cases h4 : s = s' <;> simp [h1, h2, h3, h4]
theorem eql_V (k i u : Int) (s : ByteArray) (k' i' u' : Int) (s' : ByteArray) (w : World) :
    (binOp .eql 28 (.agg #[.int .i64 k, .int .i64 i, .int .u64 u, .string s]) (.agg #[.int .i64 k', .int .i64 i', .int .u64 u', .string s'])).run Tryz.prog w = .ok (.bool (k == k' && i == i' && u == u' && decide (s = s'))) w := by
  have he := equal_V k i u s k' i' u' s' w
  unfold valV at he
  unfold binOp
  simp [go_sem, he]
theorem neq_V (k i u : Int) (s : ByteArray) (k' i' u' : Int) (s' : ByteArray) (w : World) :
    (binOp .neq 28 (.agg #[.int .i64 k, .int .i64 i, .int .u64 u, .string s]) (.agg #[.int .i64 k', .int .i64 i', .int .u64 u', .string s'])).run Tryz.prog w = .ok (.bool (!(k == k' && i == i' && u == u' && decide (s = s')))) w := by
  have he := equal_V k i u s k' i' u' s' w
  unfold valV at he
  unfold binOp
  simp [go_sem, he]

theorem neq_true {K i u I U : Int} {s S : ByteArray} (hq : ¬ (i = I ∧ u = U ∧ s = S)) : (!(K == K && i == I && u == U && decide (s = S))) = true := by
  by_cases a1 : i = I <;> by_cases a2 : u = U <;> by_cases a3 : s = S <;> simp_all

theorem grownBy_setCell_at (W : World) (p : Addr) (v : Value) : W.grownBy (W.setCell p v) (some p.block) :=
  ⟨rfl, rfl, rfl, (KeepsWalks.setCell W p v).size, fun k _ hk => Below.heap_setCell _ _ _ k (fun e => hk (by rw [e]))⟩

/-- A value that may be. -/
def okV (k i u : Int) (s : ByteArray) : Bool :=
  decide ((k = 0 ∧ i = 0 ∧ u = 0 ∧ s = ByteArray.empty) ∨ (k = 1 ∧ u = 0 ∧ s = ByteArray.empty) ∨ (k = 2 ∧ i = 0 ∧ s = ByteArray.empty) ∨ (k = 3 ∧ u = 0 ∧ s = ByteArray.empty ∧ (i = 0 ∨ i = 1)) ∨ (k = 4 ∧ i = 0 ∧ u = 0))
/-- What Check tells. -/
def chkV (k i u : Int) (s : ByteArray) : Nat := if okV k i u s then (if 200 < s.size then 3 else 0) else 2

theorem chk0_no {i u : Int} {s : ByteArray} (h : ¬ (i = 0 ∧ u = 0 ∧ s = ByteArray.empty)) : chkV 0 i u s = 2 := by
  unfold chkV
  rw [if_neg]
  simp [okV]
  exact fun a b c => h ⟨a, b, c⟩
theorem chk1_no {i u : Int} {s : ByteArray} (h : ¬ (i = i ∧ u = 0 ∧ s = ByteArray.empty)) : chkV 1 i u s = 2 := by
  unfold chkV
  rw [if_neg]
  simp [okV]
  exact fun b c => h ⟨rfl, b, c⟩
theorem chk2_no {i u : Int} {s : ByteArray} (h : ¬ (i = 0 ∧ u = u ∧ s = ByteArray.empty)) : chkV 2 i u s = 2 := by
  unfold chkV
  rw [if_neg]
  simp [okV]
  exact fun b c => h ⟨b, rfl, c⟩
theorem chk3_no {i u : Int} {s : ByteArray} (h : ¬ (i = i ∧ u = 0 ∧ s = ByteArray.empty)) : chkV 3 i u s = 2 := by
  unfold chkV
  rw [if_neg]
  simp [okV]
  exact fun b c => (h ⟨rfl, b, c⟩).elim
theorem chk4_no {i u : Int} {s : ByteArray} (h : ¬ (i = 0 ∧ u = 0 ∧ s = s)) : chkV 4 i u s = 2 := by
  unfold chkV
  rw [if_neg]
  simp [okV]
  exact fun b c => h ⟨b, c, rfl⟩

/-- A value in a box of its own. -/
def VBox (W : World) (B : Nat) (k i u : Int) (s : ByteArray) : Prop := W.heap[B]? = some (.cells #[.int .i64 k, .int .i64 i, .int .u64 u, .string s] 28 (0, 0))
theorem VBox.new (W : World) (k i u : Int) (s : ByteArray) : VBox (W.alloc (.cells #[.int .i64 k, .int .i64 i, .int .u64 u, .string s] 28)) W.heap.size k i u s := World.alloc_heap_new W _
theorem VBox.lt {W : World} {B : Nat} {k i u : Int} {s : ByteArray} (h : VBox W B k i u s) : B < W.heap.size := (Array.getElem?_eq_some_iff.1 h).1
theorem VBox.below {W W' : World} {B H : Nat} {k i u : Int} {s : ByteArray} (h : VBox W B k i u s) (hb : Below H W W') (hB : B < H) : VBox W' B k i u s := (hb.block B hB).trans h
theorem VBox.cells {W : World} {B : Nat} {k i u : Int} {s : ByteArray} (h : VBox W B k i u s) :
    W.cell? ⟨B, 0, none⟩ = some (.int .i64 k) ∧ W.cell? ⟨B, 1, none⟩ = some (.int .i64 i) ∧ W.cell? ⟨B, 2, none⟩ = some (.int .u64 u) ∧ W.cell? ⟨B, 3, none⟩ = some (.string s) := by
  unfold VBox at h
  simp [World.cell?, h]

theorem VBox.frozen {W : World} {B : Nat} {k i u : Int} {s : ByteArray} (h : VBox W B k i u s) (j : Nat) : W.frozen? ⟨B, j, none⟩ = false := by
  unfold VBox at h
  simp [World.frozen?, h]

/-- The two functions of a Kind in a box of their own. -/
def KBox (W : World) (B : Nat) (f g : Value) : Prop := W.heap[B]? = some (.cells #[f, g] 140 (0, 0))
theorem KBox.set {W : World} {B : Nat} {f g : Value} (h : KBox W B f g) (f' g' : Value) : KBox ((W.setCell ⟨B, 0, none⟩ f').setCell ⟨B, 1, none⟩ g') B f' g' := by
  unfold KBox at *
  show ((W.setCell ⟨B, 0, none⟩ f').heap.modify B _)[B]? = _
  have h2 : (W.setCell ⟨B, 0, none⟩ f').heap[B]? = some (.cells #[f', g] 140 (0, 0)) := by
    show (W.heap.modify B _)[B]? = _
    obtain ⟨hlt, hk⟩ := Array.getElem?_eq_some_iff.1 h
    rw [Array.getElem?_eq_getElem (by rw [Array.size_modify]; exact hlt), Array.getElem_modify_self, hk]
    rfl
  obtain ⟨hlt, hk⟩ := Array.getElem?_eq_some_iff.1 h2
  rw [Array.getElem?_eq_getElem (by rw [Array.size_modify]; exact hlt), Array.getElem_modify_self, hk]
  rfl
theorem KBox.cells {W : World} {B : Nat} {f g : Value} (h : KBox W B f g) : (W.cell? ⟨B, 0, none⟩ = some f ∧ W.cell? ⟨B, 1, none⟩ = some g) ∧ (W.frozen? ⟨B, 0, none⟩ = false ∧ W.frozen? ⟨B, 1, none⟩ = false) := by
  unfold KBox at h
  simp [World.cell?, World.frozen?, h]

set_option maxRecDepth 100000 in
set_option maxHeartbeats 2000000 in
theorem Check_other (k i u : Int) (s : ByteArray) (w : World) (hk : k < 0 ∨ 4 < k) : Calls Tryz.prog 55 #[.agg #[.int .i64 k, .int .i64 i, .int .u64 u, .string s]] w fun e w' => e = .returned (.int .i64 2) ∧ Below w.heap.size w w' := by
  have hlk : ∀ w' r, IMap w' r .i64 VKinds → (Instr.lookup 142 (.map (some r)) (.int .i64 k) true).run Tryz.prog w' = .ok (.tuple #[.agg #[.nilFunc, .nilFunc], .bool false]) w' := fun w' r hm =>
    hm.lookNot _ _ _ Tryz.underlying142 Tryz.underlying25 k _ (fun w => Tryz.zeroValue140 w) (by
      unfold VKinds
      simp only [seek]
      rw [if_neg (by omega), if_neg (by omega), if_neg (by omega), if_neg (by omega), if_neg (by omega)])
  have hsf := fun (a : Addr) (w : World) (m : Mode) => (run_store Tryz.prog w a Value.nilFunc m rfl : _ = stored Tryz.prog w a Value.nilFunc m)
  have hsg := fun (a : Addr) (w : World) (m : Mode) => (run_store Tryz.prog w a Value.nilFunc m rfl : _ = stored Tryz.prog w a Value.nilFunc m)
  have hbox := VBox.new w k i u s
  have hb0 : Below w.heap.size w (w.alloc (.cells #[.int .i64 k, .int .i64 i, .int .u64 u, .string s] 28)) := (Below.refl _ w).alloc (Nat.le_refl _) _
  go_enter Tryz.func55, Tryz.ntmps55
  go_wp2_with fail
  generalize (w.alloc (.cells #[.int .i64 k, .int .i64 i, .int .u64 u, .string s] 28)) = w0 at *
  have hlt : w.heap.size < w0.heap.size := hbox.lt
  refine wp_region_noPanic ?_
  refine wp_region_held_drew (S := fun w' => w'.cell? ⟨w.heap.size, 0, none⟩ = some (.int .i64 k)) (by kernel_rfl) (VBox.cells (W := w0.drew) hbox).1 (fun hHeld => ?_)
  refine wpAnyH_takeL (i := 1) (v := ?vhy1) rfl (by kernel_rfl) (by kernel_rfl) (by kernel_rfl) (fun _ _ _ h => h) (Or.inl ⟨by rfl, ?hy1⟩) (by assumption) ?rhy1
  case hy1 => ((intro w hSw; (try dsimp only at hSw); go_simp); try with_reducible rfl)
  try simp only [Act.put, List.setIfInBounds_toArray, List.set_cons_zero, List.set_cons_succ]
  refine wpAnyH_takeL (i := 2) (v := ?vhy2) rfl (by kernel_rfl) (by kernel_rfl) (by kernel_rfl) (fun _ _ _ h => h) (Or.inl ⟨by rfl, ?hy2⟩) (by assumption) ?rhy2
  case hy2 => ((intro w hSw; (try dsimp only at hSw); go_simp); try with_reducible rfl)
  try simp only [Act.put, List.setIfInBounds_toArray, List.set_cons_zero, List.set_cons_succ]
  refine wpAnyH_ready (rs := [0, 7]) (by kernel_rfl) (by simp) ?_
  refine AllReadyH.consL (i := 0) rfl (fun K hK => ?_) (AllReadyH.consL (i := 7) rfl (fun K hK => ?_) AllReadyH.nil)
  · go_simp
    refine (vkinds_any _).mono ?_
    rintro e w1 ⟨r, rfl, hm, hb1, hr1⟩
    replace hb1 := gr ((Below.refl _ w0).drew) hb1
    refine hK.out _ _ (hbox.below hb1 hlt).cells.1 (fun hHeld => ?_)
    clear hK hHeld
    refine wpAnyH_more (S' := fun w' => IMap w' r .i64 VKinds ∧ Below w0.heap.size w0 w') (fun w' h => (hbox.below h.2 hlt).cells.1) ?_
    have hHeld : IMap w1 r .i64 VKinds ∧ Below w0.heap.size w0 w1 := ⟨hm, hb1⟩
    try simp only [Act.put, List.setIfInBounds_toArray, List.set_cons_zero, List.set_cons_succ]
    refine wpAnyH_takeL (i := 3) (v := ?vhy3) rfl (by kernel_rfl) (by kernel_rfl) (by kernel_rfl) (fun _ _ _ h => h) (Or.inl ⟨by rfl, ?hy3⟩) (by assumption) ?rhy3
    case hy3 => ((intro w hSw; (try dsimp only at hSw); go_simp); try with_reducible rfl)
    try simp only [Act.put, List.setIfInBounds_toArray, List.set_cons_zero, List.set_cons_succ]
    refine wpAnyH_takeL (i := 4) (v := ?vhy4) rfl (by kernel_rfl) (by kernel_rfl) (by kernel_rfl) (fun _ _ _ h => h) (Or.inl ⟨by rfl, ?hy4⟩) (by assumption) ?rhy4
    case hy4 => ((intro w hSw; (try dsimp only at hSw); go_simp); try with_reducible rfl)
    try simp only [Act.put, List.setIfInBounds_toArray, List.set_cons_zero, List.set_cons_succ]
    refine wpAnyH_takeL (i := 5) (v := ?vhy5) rfl (by kernel_rfl) (by kernel_rfl) (by kernel_rfl) (fun _ _ _ h => h) (Or.inl ⟨by rfl, ?hy5⟩) (by assumption) ?rhy5
    case hy5 => ((intro w hSw; (try dsimp only at hSw); go_simp); try with_reducible rfl)
    try simp only [Act.put, List.setIfInBounds_toArray, List.set_cons_zero, List.set_cons_succ]
    refine wpAnyH_takeL (i := 6) (v := ?vhy6) rfl (by kernel_rfl) (by kernel_rfl) (by kernel_rfl) (fun _ _ _ h => h) (Or.inl ⟨by rfl, ?hy6⟩) (by assumption) ?rhy6
    case hy6 => ((intro w hSw; (try dsimp only at hSw); go_simp); try with_reducible rfl)
    try simp only [Act.put, List.setIfInBounds_toArray, List.set_cons_zero, List.set_cons_succ]
    refine wpAnyH_ready (rs := [7]) (by kernel_rfl) (by simp) ?_
    refine AllReadyH.consL (i := 7) rfl (fun K hK => ?_) AllReadyH.nil
    go_simp
    have hs2 := (Below.refl w1.heap.size w1).alloc (Nat.le_refl _) (.cells #[.nilFunc, .nilFunc] 140)
    refine hK.out _ _ ⟨hm.below hs2, gr hb1 hs2⟩ (fun hHeld => ?_)
    clear hK
    try simp only [Act.put, List.setIfInBounds_toArray, List.set_cons_zero, List.set_cons_succ]
    refine wpAnyH_ready (rs := [8]) (by kernel_rfl) (by simp) ?_
    refine AllReadyH.consL (i := 8) rfl (fun K hK => ?_) AllReadyH.nil
    go_simp
    have hs3 := (Below.refl w1.heap.size w1).alloc (Nat.le_refl _) (.cells #[Value.nilFunc, Value.nilFunc] 140)
    have hkb : KBox (w1.alloc (.cells #[Value.nilFunc, Value.nilFunc] 140)) w1.heap.size Value.nilFunc Value.nilFunc := World.alloc_heap_new w1 _
    refine hK.out _ _ ⟨hm.below hs3, gr hb1 hs3⟩ (fun hHeld => ?_)
    clear hK
    replace hb1 := gr hb1 hs3
    generalize (w1.alloc (.cells #[Value.nilFunc, Value.nilFunc] 140)) = W at *
    try simp only [Act.put, List.setIfInBounds_toArray, List.set_cons_zero, List.set_cons_succ]
    refine wpAnyH_takeL (i := 9) (v := ?vhy7) rfl (by kernel_rfl) (by kernel_rfl) (by kernel_rfl) (fun _ _ _ h => h) (Or.inl ⟨by rfl, ?hy7⟩) (by assumption) ?rhy7
    case hy7 => ((intro w hSw; (try dsimp only at hSw); go_simp); try with_reducible rfl)
    try simp only [Act.put, List.setIfInBounds_toArray, List.set_cons_zero, List.set_cons_succ]
    refine wpAnyH_done (by kernel_rfl) ?_ _
    refine NoPanic.normal ?_
    clear hHeld hm hlk
    have hvb := hbox.below hb1 hlt
    replace hb0 := gr hb0 hb1
    clear hb1 hbox
    go_wp2_with fail
    refine wp_region_noPanic ?_
    refine wp_region_held_drew (S := fun w' => True) (by kernel_rfl) trivial (fun hHeld => ?_)
    refine wpAnyH_takeL (i := 0) (v := ?vhy8) rfl (by kernel_rfl) (by kernel_rfl) (by kernel_rfl) (fun _ _ _ h => h) (Or.inl ⟨by rfl, ?hy8⟩) (by assumption) ?rhy8
    case hy8 => ((intro w hSw; (try dsimp only at hSw); go_simp); try with_reducible rfl)
    try simp only [Act.put, List.setIfInBounds_toArray, List.set_cons_zero, List.set_cons_succ]
    refine wpAnyH_takeL (i := 1) (v := ?vhy9) rfl (by kernel_rfl) (by kernel_rfl) (by kernel_rfl) (fun _ _ _ h => h) (Or.inl ⟨by rfl, ?hy9⟩) (by assumption) ?rhy9
    case hy9 => ((intro w hSw; (try dsimp only at hSw); go_simp); try with_reducible rfl)
    try simp only [Act.put, List.setIfInBounds_toArray, List.set_cons_zero, List.set_cons_succ]
    refine wpAnyH_takeL (i := 2) (v := ?vhy10) rfl (by kernel_rfl) (by kernel_rfl) (by kernel_rfl) (fun _ _ _ h => h) (Or.inl ⟨by rfl, ?hy10⟩) (by assumption) ?rhy10
    case hy10 => ((intro w hSw; (try dsimp only at hSw); go_simp); try with_reducible rfl)
    try simp only [Act.put, List.setIfInBounds_toArray, List.set_cons_zero, List.set_cons_succ]
    refine wpAnyH_takeL (i := 3) (v := undef) rfl (by kernel_rfl) (by kernel_rfl) (by kernel_rfl) (fun _ _ _ h => h) (Or.inr ⟨by rfl, rfl⟩) (by assumption) ?_
    try simp only [Act.put, List.setIfInBounds_toArray, List.set_cons_zero, List.set_cons_succ]
    refine wpAnyH_takeL (i := 4) (v := undef) rfl (by kernel_rfl) (by kernel_rfl) (by kernel_rfl) (fun _ _ _ h => h) (Or.inr ⟨by rfl, rfl⟩) (by assumption) ?_
    try simp only [Act.put, List.setIfInBounds_toArray, List.set_cons_zero, List.set_cons_succ]
    refine wpAnyH_takeL (i := 5) (v := undef) rfl (by kernel_rfl) (by kernel_rfl) (by kernel_rfl) (fun _ _ _ h => h) (Or.inr ⟨by rfl, rfl⟩) (by assumption) ?_
    try simp only [Act.put, List.setIfInBounds_toArray, List.set_cons_zero, List.set_cons_succ]
    refine wpAnyH_takeL (i := 6) (v := undef) rfl (by kernel_rfl) (by kernel_rfl) (by kernel_rfl) (fun _ _ _ h => h) (Or.inr ⟨by rfl, rfl⟩) (by assumption) ?_
    try simp only [Act.put, List.setIfInBounds_toArray, List.set_cons_zero, List.set_cons_succ]
    refine wpAnyH_takeL (i := 7) (v := ?vhy11) rfl (by kernel_rfl) (by kernel_rfl) (by kernel_rfl) (fun _ _ _ h => h) (Or.inl ⟨by rfl, ?hy11⟩) (by assumption) ?rhy11
    case hy11 => ((intro w hSw; (try dsimp only at hSw); go_simp); try with_reducible rfl)
    try simp only [Act.put, List.setIfInBounds_toArray, List.set_cons_zero, List.set_cons_succ]
    refine wpAnyH_takeL (i := 8) (v := ?vhy12) rfl (by kernel_rfl) (by kernel_rfl) (by kernel_rfl) (fun _ _ _ h => h) (Or.inl ⟨by rfl, ?hy12⟩) (by assumption) ?rhy12
    case hy12 => ((intro w hSw; (try dsimp only at hSw); go_simp); try with_reducible rfl)
    try simp only [Act.put, List.setIfInBounds_toArray, List.set_cons_zero, List.set_cons_succ]
    refine wpAnyH_takeL (i := 9) (v := undef) rfl (by kernel_rfl) (by kernel_rfl) (by kernel_rfl) (fun _ _ _ h => h) (Or.inr ⟨by rfl, rfl⟩) (by assumption) ?_
    try simp only [Act.put, List.setIfInBounds_toArray, List.set_cons_zero, List.set_cons_succ]
    refine wpAnyH_takeL (i := 10) (v := undef) rfl (by kernel_rfl) (by kernel_rfl) (by kernel_rfl) (fun _ _ _ h => h) (Or.inr ⟨by rfl, rfl⟩) (by assumption) ?_
    try simp only [Act.put, List.setIfInBounds_toArray, List.set_cons_zero, List.set_cons_succ]
    refine wpAnyH_takeL (i := 11) (v := undef) rfl (by kernel_rfl) (by kernel_rfl) (by kernel_rfl) (fun _ _ _ h => h) (Or.inr ⟨by rfl, rfl⟩) (by assumption) ?_
    try simp only [Act.put, List.setIfInBounds_toArray, List.set_cons_zero, List.set_cons_succ]
    refine wpAnyH_takeL (i := 12) (v := undef) rfl (by kernel_rfl) (by kernel_rfl) (by kernel_rfl) (fun _ _ _ h => h) (Or.inr ⟨by rfl, rfl⟩) (by assumption) ?_
    try simp only [Act.put, List.setIfInBounds_toArray, List.set_cons_zero, List.set_cons_succ]
    refine wpAnyH_takeL (i := 13) (v := undef) rfl (by kernel_rfl) (by kernel_rfl) (by kernel_rfl) (fun _ _ _ h => h) (Or.inr ⟨by rfl, rfl⟩) (by assumption) ?_
    try simp only [Act.put, List.setIfInBounds_toArray, List.set_cons_zero, List.set_cons_succ]
    refine wpAnyH_takeL (i := 14) (v := ?vhy13) rfl (by kernel_rfl) (by kernel_rfl) (by kernel_rfl) (fun _ _ _ h => h) (Or.inl ⟨by rfl, ?hy13⟩) (by assumption) ?rhy13
    case hy13 => ((intro w hSw; (try dsimp only at hSw); go_simp); try with_reducible rfl)
    try simp only [Act.put, List.setIfInBounds_toArray, List.set_cons_zero, List.set_cons_succ]
    refine wpAnyH_takeL (i := 15) (v := ?vhy14) rfl (by kernel_rfl) (by kernel_rfl) (by kernel_rfl) (fun _ _ _ h => h) (Or.inl ⟨by rfl, ?hy14⟩) (by assumption) ?rhy14
    case hy14 => ((intro w hSw; (try dsimp only at hSw); go_simp); try with_reducible rfl)
    try simp only [Act.put, List.setIfInBounds_toArray, List.set_cons_zero, List.set_cons_succ]
    refine wpAnyH_done (by kernel_rfl) ?_ _
    refine NoPanic.normal ?_
    have hfin := hb0.drew
    go_wp2
    go_ret
    exact ⟨rfl, hfin⟩
  · go_simp
    have hs2 := (Below.refl w0.heap.size w0).alloc (Nat.le_refl _) (.cells #[.nilFunc, .nilFunc] 140)
    have hkn : KBox (w0.alloc (.cells #[.nilFunc, .nilFunc] 140)) w0.heap.size .nilFunc .nilFunc := World.alloc_heap_new w0 _
    have hln : w0.heap.size < (w0.alloc (.cells #[.nilFunc, .nilFunc] 140)).heap.size := by simp
    refine hK.out _ _ (VBox.cells (W := (w0.alloc (.cells #[.nilFunc, .nilFunc] 140)).drew) (hbox.below hs2.drew hlt)).1 (fun hHeld => ?_)
    clear hK
    try simp only [Act.put, List.setIfInBounds_toArray, List.set_cons_zero, List.set_cons_succ]
    refine wpAnyH_ready (rs := [0]) (by kernel_rfl) (by simp) ?_
    refine AllReadyH.consL (i := 0) rfl (fun K hK => ?_) AllReadyH.nil
    go_simp
    refine (vkinds_any _).mono ?_
    rintro e w1 ⟨r, rfl, hm, hb1, hr1⟩
    replace hr1 : w0.heap.size < r := Nat.lt_of_lt_of_le hln hr1
    replace hkn : KBox w1 w0.heap.size .nilFunc .nilFunc := (hb1.block _ hln).trans hkn
    replace hb1 := gr hs2.drew hb1
    refine hK.out _ _ (hbox.below hb1 hlt).cells.1 (fun hHeld => ?_)
    clear hK hHeld
    refine wpAnyH_more (S' := fun w' => IMap w' r .i64 VKinds ∧ Below w0.heap.size w0 w') (fun w' h => (hbox.below h.2 hlt).cells.1) ?_
    have hHeld : IMap w1 r .i64 VKinds ∧ Below w0.heap.size w0 w1 := ⟨hm, hb1⟩
    try simp only [Act.put, List.setIfInBounds_toArray, List.set_cons_zero, List.set_cons_succ]
    refine wpAnyH_takeL (i := 3) (v := ?vhy15) rfl (by kernel_rfl) (by kernel_rfl) (by kernel_rfl) (fun _ _ _ h => h) (Or.inl ⟨by rfl, ?hy15⟩) (by assumption) ?rhy15
    case hy15 => ((intro w hSw; (try dsimp only at hSw); go_simp); try with_reducible rfl)
    try simp only [Act.put, List.setIfInBounds_toArray, List.set_cons_zero, List.set_cons_succ]
    refine wpAnyH_takeL (i := 4) (v := ?vhy16) rfl (by kernel_rfl) (by kernel_rfl) (by kernel_rfl) (fun _ _ _ h => h) (Or.inl ⟨by rfl, ?hy16⟩) (by assumption) ?rhy16
    case hy16 => ((intro w hSw; (try dsimp only at hSw); go_simp); try with_reducible rfl)
    try simp only [Act.put, List.setIfInBounds_toArray, List.set_cons_zero, List.set_cons_succ]
    refine wpAnyH_takeL (i := 5) (v := ?vhy17) rfl (by kernel_rfl) (by kernel_rfl) (by kernel_rfl) (fun _ _ _ h => h) (Or.inl ⟨by rfl, ?hy17⟩) (by assumption) ?rhy17
    case hy17 => ((intro w hSw; (try dsimp only at hSw); go_simp); try with_reducible rfl)
    try simp only [Act.put, List.setIfInBounds_toArray, List.set_cons_zero, List.set_cons_succ]
    refine wpAnyH_takeL (i := 6) (v := ?vhy18) rfl (by kernel_rfl) (by kernel_rfl) (by kernel_rfl) (fun _ _ _ h => h) (Or.inl ⟨by rfl, ?hy18⟩) (by assumption) ?rhy18
    case hy18 => ((intro w hSw; (try dsimp only at hSw); go_simp); try with_reducible rfl)
    try simp only [Act.put, List.setIfInBounds_toArray, List.set_cons_zero, List.set_cons_succ]
    have hkc := hkn.cells
    refine wpAnyH_ready (rs := [8]) (by kernel_rfl) (by simp) ?_
    refine AllReadyH.consL (i := 8) rfl (fun K hK => ?_) AllReadyH.nil
    go_simp
    have hkb := hkn.set Value.nilFunc Value.nilFunc
    have hg1' := (grownBy_setCell_at w1 ⟨w0.heap.size, 0, none⟩ Value.nilFunc)
    have hg2' := (grownBy_setCell_at (w1.setCell ⟨w0.heap.size, 0, none⟩ Value.nilFunc) ⟨w0.heap.size, 1, none⟩ Value.nilFunc)
    have hm2 := (hm.kept hg1' (by simp; omega)).kept hg2' (by simp; omega)
    have hb2 := (hb1.setCell (p := ⟨w0.heap.size, 0, none⟩) (Nat.le_refl _) Value.nilFunc).setCell (p := ⟨w0.heap.size, 1, none⟩) (Nat.le_refl _) Value.nilFunc
    refine hK.out _ _ ⟨hm2, hb2⟩ (fun hHeld => ?_)
    clear hK hg1' hg2' hm2 hkc hkn
    replace hb1 := hb2
    clear hb2
    generalize ((w1.setCell ⟨w0.heap.size, 0, none⟩ Value.nilFunc).setCell ⟨w0.heap.size, 1, none⟩ Value.nilFunc) = W at *
    try simp only [Act.put, List.setIfInBounds_toArray, List.set_cons_zero, List.set_cons_succ]
    refine wpAnyH_takeL (i := 9) (v := ?vhy19) rfl (by kernel_rfl) (by kernel_rfl) (by kernel_rfl) (fun _ _ _ h => h) (Or.inl ⟨by rfl, ?hy19⟩) (by assumption) ?rhy19
    case hy19 => ((intro w hSw; (try dsimp only at hSw); go_simp); try with_reducible rfl)
    try simp only [Act.put, List.setIfInBounds_toArray, List.set_cons_zero, List.set_cons_succ]
    refine wpAnyH_done (by kernel_rfl) ?_ _
    refine NoPanic.normal ?_
    clear hHeld hm hlk
    have hvb := hbox.below hb1 hlt
    replace hb0 := gr hb0 hb1
    clear hb1 hbox
    go_wp2_with fail
    refine wp_region_noPanic ?_
    refine wp_region_held_drew (S := fun w' => True) (by kernel_rfl) trivial (fun hHeld => ?_)
    refine wpAnyH_takeL (i := 0) (v := ?vhy20) rfl (by kernel_rfl) (by kernel_rfl) (by kernel_rfl) (fun _ _ _ h => h) (Or.inl ⟨by rfl, ?hy20⟩) (by assumption) ?rhy20
    case hy20 => ((intro w hSw; (try dsimp only at hSw); go_simp); try with_reducible rfl)
    try simp only [Act.put, List.setIfInBounds_toArray, List.set_cons_zero, List.set_cons_succ]
    refine wpAnyH_takeL (i := 1) (v := ?vhy21) rfl (by kernel_rfl) (by kernel_rfl) (by kernel_rfl) (fun _ _ _ h => h) (Or.inl ⟨by rfl, ?hy21⟩) (by assumption) ?rhy21
    case hy21 => ((intro w hSw; (try dsimp only at hSw); go_simp); try with_reducible rfl)
    try simp only [Act.put, List.setIfInBounds_toArray, List.set_cons_zero, List.set_cons_succ]
    refine wpAnyH_takeL (i := 2) (v := ?vhy22) rfl (by kernel_rfl) (by kernel_rfl) (by kernel_rfl) (fun _ _ _ h => h) (Or.inl ⟨by rfl, ?hy22⟩) (by assumption) ?rhy22
    case hy22 => ((intro w hSw; (try dsimp only at hSw); go_simp); try with_reducible rfl)
    try simp only [Act.put, List.setIfInBounds_toArray, List.set_cons_zero, List.set_cons_succ]
    refine wpAnyH_takeL (i := 3) (v := undef) rfl (by kernel_rfl) (by kernel_rfl) (by kernel_rfl) (fun _ _ _ h => h) (Or.inr ⟨by rfl, rfl⟩) (by assumption) ?_
    try simp only [Act.put, List.setIfInBounds_toArray, List.set_cons_zero, List.set_cons_succ]
    refine wpAnyH_takeL (i := 4) (v := undef) rfl (by kernel_rfl) (by kernel_rfl) (by kernel_rfl) (fun _ _ _ h => h) (Or.inr ⟨by rfl, rfl⟩) (by assumption) ?_
    try simp only [Act.put, List.setIfInBounds_toArray, List.set_cons_zero, List.set_cons_succ]
    refine wpAnyH_takeL (i := 5) (v := undef) rfl (by kernel_rfl) (by kernel_rfl) (by kernel_rfl) (fun _ _ _ h => h) (Or.inr ⟨by rfl, rfl⟩) (by assumption) ?_
    try simp only [Act.put, List.setIfInBounds_toArray, List.set_cons_zero, List.set_cons_succ]
    refine wpAnyH_takeL (i := 6) (v := undef) rfl (by kernel_rfl) (by kernel_rfl) (by kernel_rfl) (fun _ _ _ h => h) (Or.inr ⟨by rfl, rfl⟩) (by assumption) ?_
    try simp only [Act.put, List.setIfInBounds_toArray, List.set_cons_zero, List.set_cons_succ]
    refine wpAnyH_takeL (i := 7) (v := ?vhy23) rfl (by kernel_rfl) (by kernel_rfl) (by kernel_rfl) (fun _ _ _ h => h) (Or.inl ⟨by rfl, ?hy23⟩) (by assumption) ?rhy23
    case hy23 => ((intro w hSw; (try dsimp only at hSw); go_simp); try with_reducible rfl)
    try simp only [Act.put, List.setIfInBounds_toArray, List.set_cons_zero, List.set_cons_succ]
    refine wpAnyH_takeL (i := 8) (v := ?vhy24) rfl (by kernel_rfl) (by kernel_rfl) (by kernel_rfl) (fun _ _ _ h => h) (Or.inl ⟨by rfl, ?hy24⟩) (by assumption) ?rhy24
    case hy24 => ((intro w hSw; (try dsimp only at hSw); go_simp); try with_reducible rfl)
    try simp only [Act.put, List.setIfInBounds_toArray, List.set_cons_zero, List.set_cons_succ]
    refine wpAnyH_takeL (i := 9) (v := undef) rfl (by kernel_rfl) (by kernel_rfl) (by kernel_rfl) (fun _ _ _ h => h) (Or.inr ⟨by rfl, rfl⟩) (by assumption) ?_
    try simp only [Act.put, List.setIfInBounds_toArray, List.set_cons_zero, List.set_cons_succ]
    refine wpAnyH_takeL (i := 10) (v := undef) rfl (by kernel_rfl) (by kernel_rfl) (by kernel_rfl) (fun _ _ _ h => h) (Or.inr ⟨by rfl, rfl⟩) (by assumption) ?_
    try simp only [Act.put, List.setIfInBounds_toArray, List.set_cons_zero, List.set_cons_succ]
    refine wpAnyH_takeL (i := 11) (v := undef) rfl (by kernel_rfl) (by kernel_rfl) (by kernel_rfl) (fun _ _ _ h => h) (Or.inr ⟨by rfl, rfl⟩) (by assumption) ?_
    try simp only [Act.put, List.setIfInBounds_toArray, List.set_cons_zero, List.set_cons_succ]
    refine wpAnyH_takeL (i := 12) (v := undef) rfl (by kernel_rfl) (by kernel_rfl) (by kernel_rfl) (fun _ _ _ h => h) (Or.inr ⟨by rfl, rfl⟩) (by assumption) ?_
    try simp only [Act.put, List.setIfInBounds_toArray, List.set_cons_zero, List.set_cons_succ]
    refine wpAnyH_takeL (i := 13) (v := undef) rfl (by kernel_rfl) (by kernel_rfl) (by kernel_rfl) (fun _ _ _ h => h) (Or.inr ⟨by rfl, rfl⟩) (by assumption) ?_
    try simp only [Act.put, List.setIfInBounds_toArray, List.set_cons_zero, List.set_cons_succ]
    refine wpAnyH_takeL (i := 14) (v := ?vhy25) rfl (by kernel_rfl) (by kernel_rfl) (by kernel_rfl) (fun _ _ _ h => h) (Or.inl ⟨by rfl, ?hy25⟩) (by assumption) ?rhy25
    case hy25 => ((intro w hSw; (try dsimp only at hSw); go_simp); try with_reducible rfl)
    try simp only [Act.put, List.setIfInBounds_toArray, List.set_cons_zero, List.set_cons_succ]
    refine wpAnyH_takeL (i := 15) (v := ?vhy26) rfl (by kernel_rfl) (by kernel_rfl) (by kernel_rfl) (fun _ _ _ h => h) (Or.inl ⟨by rfl, ?hy26⟩) (by assumption) ?rhy26
    case hy26 => ((intro w hSw; (try dsimp only at hSw); go_simp); try with_reducible rfl)
    try simp only [Act.put, List.setIfInBounds_toArray, List.set_cons_zero, List.set_cons_succ]
    refine wpAnyH_done (by kernel_rfl) ?_ _
    refine NoPanic.normal ?_
    have hfin := hb0.drew
    go_wp2
    go_ret
    exact ⟨rfl, hfin⟩
set_option maxRecDepth 100000 in
set_option maxHeartbeats 2000000 in
theorem Check_0 (i u : Int) (s : ByteArray) (w : World) (hs : s.size ≤ maxLen) : Calls Tryz.prog 55 #[.agg #[.int .i64 0, .int .i64 i, .int .u64 u, .string s]] w fun e w' => e = .returned (.int .i64 (chkV 0 i u s : Int)) ∧ Below w.heap.size w w' := by
  have hlk : ∀ w' r, IMap w' r .i64 VKinds → (Instr.lookup 142 (.map (some r)) (.int .i64 0) true).run Tryz.prog w' = .ok (.tuple #[.agg #[.func (.func 112) #[] #[], .func (.func 113) #[] #[]], .bool true]) w' := fun w' r hm =>
    hm.look _ _ _ Tryz.underlying142 Tryz.underlying25 0 0 _ rfl
  have hsf := fun (a : Addr) (w : World) (m : Mode) => (run_store Tryz.prog w a (.func (.func 112) #[] #[]) m rfl : _ = stored Tryz.prog w a (.func (.func 112) #[] #[]) m)
  have hsg := fun (a : Addr) (w : World) (m : Mode) => (run_store Tryz.prog w a (.func (.func 113) #[] #[]) m rfl : _ = stored Tryz.prog w a (.func (.func 113) #[] #[]) m)
  have hbox := VBox.new w 0 i u s
  have hb0 : Below w.heap.size w (w.alloc (.cells #[.int .i64 0, .int .i64 i, .int .u64 u, .string s] 28)) := (Below.refl _ w).alloc (Nat.le_refl _) _
  go_enter Tryz.func55, Tryz.ntmps55
  go_wp2_with fail
  generalize (w.alloc (.cells #[.int .i64 0, .int .i64 i, .int .u64 u, .string s] 28)) = w0 at *
  have hlt : w.heap.size < w0.heap.size := hbox.lt
  refine wp_region_noPanic ?_
  refine wp_region_held_drew (S := fun w' => w'.cell? ⟨w.heap.size, 0, none⟩ = some (.int .i64 0)) (by kernel_rfl) (VBox.cells (W := w0.drew) hbox).1 (fun hHeld => ?_)
  refine wpAnyH_takeL (i := 1) (v := ?vhy27) rfl (by kernel_rfl) (by kernel_rfl) (by kernel_rfl) (fun _ _ _ h => h) (Or.inl ⟨by rfl, ?hy27⟩) (by assumption) ?rhy27
  case hy27 => ((intro w hSw; (try dsimp only at hSw); go_simp); try with_reducible rfl)
  try simp only [Act.put, List.setIfInBounds_toArray, List.set_cons_zero, List.set_cons_succ]
  refine wpAnyH_takeL (i := 2) (v := ?vhy28) rfl (by kernel_rfl) (by kernel_rfl) (by kernel_rfl) (fun _ _ _ h => h) (Or.inl ⟨by rfl, ?hy28⟩) (by assumption) ?rhy28
  case hy28 => ((intro w hSw; (try dsimp only at hSw); go_simp); try with_reducible rfl)
  try simp only [Act.put, List.setIfInBounds_toArray, List.set_cons_zero, List.set_cons_succ]
  refine wpAnyH_ready (rs := [0, 7]) (by kernel_rfl) (by simp) ?_
  refine AllReadyH.consL (i := 0) rfl (fun K hK => ?_) (AllReadyH.consL (i := 7) rfl (fun K hK => ?_) AllReadyH.nil)
  · go_simp
    refine (vkinds_any _).mono ?_
    rintro e w1 ⟨r, rfl, hm, hb1, hr1⟩
    replace hb1 := gr ((Below.refl _ w0).drew) hb1
    refine hK.out _ _ (hbox.below hb1 hlt).cells.1 (fun hHeld => ?_)
    clear hK hHeld
    refine wpAnyH_more (S' := fun w' => IMap w' r .i64 VKinds ∧ Below w0.heap.size w0 w') (fun w' h => (hbox.below h.2 hlt).cells.1) ?_
    have hHeld : IMap w1 r .i64 VKinds ∧ Below w0.heap.size w0 w1 := ⟨hm, hb1⟩
    try simp only [Act.put, List.setIfInBounds_toArray, List.set_cons_zero, List.set_cons_succ]
    refine wpAnyH_takeL (i := 3) (v := ?vhy29) rfl (by kernel_rfl) (by kernel_rfl) (by kernel_rfl) (fun _ _ _ h => h) (Or.inl ⟨by rfl, ?hy29⟩) (by assumption) ?rhy29
    case hy29 => ((intro w hSw; (try dsimp only at hSw); go_simp); try with_reducible rfl)
    try simp only [Act.put, List.setIfInBounds_toArray, List.set_cons_zero, List.set_cons_succ]
    refine wpAnyH_takeL (i := 4) (v := ?vhy30) rfl (by kernel_rfl) (by kernel_rfl) (by kernel_rfl) (fun _ _ _ h => h) (Or.inl ⟨by rfl, ?hy30⟩) (by assumption) ?rhy30
    case hy30 => ((intro w hSw; (try dsimp only at hSw); go_simp); try with_reducible rfl)
    try simp only [Act.put, List.setIfInBounds_toArray, List.set_cons_zero, List.set_cons_succ]
    refine wpAnyH_takeL (i := 5) (v := ?vhy31) rfl (by kernel_rfl) (by kernel_rfl) (by kernel_rfl) (fun _ _ _ h => h) (Or.inl ⟨by rfl, ?hy31⟩) (by assumption) ?rhy31
    case hy31 => ((intro w hSw; (try dsimp only at hSw); go_simp); try with_reducible rfl)
    try simp only [Act.put, List.setIfInBounds_toArray, List.set_cons_zero, List.set_cons_succ]
    refine wpAnyH_takeL (i := 6) (v := ?vhy32) rfl (by kernel_rfl) (by kernel_rfl) (by kernel_rfl) (fun _ _ _ h => h) (Or.inl ⟨by rfl, ?hy32⟩) (by assumption) ?rhy32
    case hy32 => ((intro w hSw; (try dsimp only at hSw); go_simp); try with_reducible rfl)
    try simp only [Act.put, List.setIfInBounds_toArray, List.set_cons_zero, List.set_cons_succ]
    refine wpAnyH_ready (rs := [7]) (by kernel_rfl) (by simp) ?_
    refine AllReadyH.consL (i := 7) rfl (fun K hK => ?_) AllReadyH.nil
    go_simp
    have hs2 := (Below.refl w1.heap.size w1).alloc (Nat.le_refl _) (.cells #[.nilFunc, .nilFunc] 140)
    refine hK.out _ _ ⟨hm.below hs2, gr hb1 hs2⟩ (fun hHeld => ?_)
    clear hK
    try simp only [Act.put, List.setIfInBounds_toArray, List.set_cons_zero, List.set_cons_succ]
    refine wpAnyH_ready (rs := [8]) (by kernel_rfl) (by simp) ?_
    refine AllReadyH.consL (i := 8) rfl (fun K hK => ?_) AllReadyH.nil
    go_simp
    have hs3 := (Below.refl w1.heap.size w1).alloc (Nat.le_refl _) (.cells #[(.func (.func 112) #[] #[]), (.func (.func 113) #[] #[])] 140)
    have hkb : KBox (w1.alloc (.cells #[(.func (.func 112) #[] #[]), (.func (.func 113) #[] #[])] 140)) w1.heap.size (.func (.func 112) #[] #[]) (.func (.func 113) #[] #[]) := World.alloc_heap_new w1 _
    refine hK.out _ _ ⟨hm.below hs3, gr hb1 hs3⟩ (fun hHeld => ?_)
    clear hK
    replace hb1 := gr hb1 hs3
    generalize (w1.alloc (.cells #[(.func (.func 112) #[] #[]), (.func (.func 113) #[] #[])] 140)) = W at *
    try simp only [Act.put, List.setIfInBounds_toArray, List.set_cons_zero, List.set_cons_succ]
    refine wpAnyH_takeL (i := 9) (v := ?vhy33) rfl (by kernel_rfl) (by kernel_rfl) (by kernel_rfl) (fun _ _ _ h => h) (Or.inl ⟨by rfl, ?hy33⟩) (by assumption) ?rhy33
    case hy33 => ((intro w hSw; (try dsimp only at hSw); go_simp); try with_reducible rfl)
    try simp only [Act.put, List.setIfInBounds_toArray, List.set_cons_zero, List.set_cons_succ]
    refine wpAnyH_done (by kernel_rfl) ?_ _
    refine NoPanic.normal ?_
    clear hHeld hm hlk
    have hvb := hbox.below hb1 hlt
    replace hb0 := gr hb0 hb1
    clear hb1 hbox
    go_wp2_with fail
    have hkc := hkb.cells.1.1
    have hvc := hvb.cells
    have hbe : bareV 0 i u s = .agg #[.int .i64 0, .int .i64 0, .int .u64 0, .string ByteArray.empty] := by simp [bareV, valV]
    refine wp_region_noPanic ?_
    refine wp_region_held_drew (S := fun w' => (w'.cell? ⟨w.heap.size, 0, none⟩ = some (.int .i64 0) ∧ w'.cell? ⟨w.heap.size, 1, none⟩ = some (.int .i64 i) ∧ w'.cell? ⟨w.heap.size, 2, none⟩ = some (.int .u64 u) ∧ w'.cell? ⟨w.heap.size, 3, none⟩ = some (.string s)) ∧ w'.cell? ⟨w1.heap.size, 0, none⟩ = some (.func (.func 112) #[] #[])) (by kernel_rfl) ⟨hvc, hkc⟩ (fun hHeld => ?_)
    refine wpAnyH_takeL (i := 0) (v := ?vhy34) rfl (by kernel_rfl) (by kernel_rfl) (by kernel_rfl) (fun _ _ _ h => h) (Or.inl ⟨by rfl, ?hy34⟩) (by assumption) ?rhy34
    case hy34 => ((intro w hSw; (try dsimp only at hSw); go_simp); try with_reducible rfl)
    try simp only [Act.put, List.setIfInBounds_toArray, List.set_cons_zero, List.set_cons_succ]
    refine wpAnyH_takeL (i := 1) (v := ?vhy35) rfl (by kernel_rfl) (by kernel_rfl) (by kernel_rfl) (fun _ _ _ h => h) (Or.inl ⟨by rfl, ?hy35⟩) (by assumption) ?rhy35
    case hy35 => ((intro w hSw; (try dsimp only at hSw); go_simp); try with_reducible rfl)
    try simp only [Act.put, List.setIfInBounds_toArray, List.set_cons_zero, List.set_cons_succ]
    refine wpAnyH_takeL (i := 2) (v := ?vhy36) rfl (by kernel_rfl) (by kernel_rfl) (by kernel_rfl) (fun _ _ _ h => h) (Or.inl ⟨by rfl, ?hy36⟩) (by assumption) ?rhy36
    case hy36 => ((intro w hSw; (try dsimp only at hSw); go_simp); try with_reducible rfl)
    try simp only [Act.put, List.setIfInBounds_toArray, List.set_cons_zero, List.set_cons_succ]
    refine wpAnyH_takeL (i := 3) (v := ?vhy37) rfl (by kernel_rfl) (by kernel_rfl) (by kernel_rfl) (fun _ _ _ h => h) (Or.inl ⟨by rfl, ?hy37⟩) (by assumption) ?rhy37
    case hy37 => ((intro w hSw; (try dsimp only at hSw); go_simp); try with_reducible rfl)
    try simp only [Act.put, List.setIfInBounds_toArray, List.set_cons_zero, List.set_cons_succ]
    refine wpAnyH_takeL (i := 4) (v := ?vhy38) rfl (by kernel_rfl) (by kernel_rfl) (by kernel_rfl) (fun _ _ _ h => h) (Or.inl ⟨by rfl, ?hy38⟩) (by assumption) ?rhy38
    case hy38 => ((intro w hSw; (try dsimp only at hSw); go_simp); try with_reducible rfl)
    try simp only [Act.put, List.setIfInBounds_toArray, List.set_cons_zero, List.set_cons_succ]
    refine wpAnyH_ready (rs := [5]) (by kernel_rfl) (by simp) ?_
    refine AllReadyH.consL (i := 5) rfl (fun K hK => ?_) AllReadyH.nil
    go_simp
    refine (bare_any 0 i u s _).mono ?_
    rw [hbe]
    rintro e W2 ⟨rfl, hb2⟩
    replace hb2 := gr ((Below.refl _ W).drew) hb2
    have hlW := hvb.lt
    have hlB : w1.heap.size < W.heap.size := (Array.getElem?_eq_some_iff.1 hkb).1
    have hvb2 := hvb.below hb2 hlW
    have hkb2 : KBox W2 w1.heap.size (.func (.func 112) #[] #[]) (.func (.func 113) #[] #[]) := (hb2.block _ hlB).trans hkb
    refine hK.out _ _ ⟨hvb2.cells, hkb2.cells.1.1⟩ (fun hHeld => ?_)
    clear hK
    try simp only [Act.put, List.setIfInBounds_toArray, List.set_cons_zero, List.set_cons_succ]
    by_cases hq : i = 0 ∧ u = 0 ∧ s = ByteArray.empty
    · obtain ⟨q1, q2, q3⟩ := hq
      try subst q1
      try subst q2
      try subst q3
      have hne : ∀ w', (binOp .neq 28 (.agg #[.int .i64 0, .int .i64 0, .int .u64 0, .string ByteArray.empty]) (.agg #[.int .i64 0, .int .i64 0, .int .u64 0, .string ByteArray.empty])).run Tryz.prog w' = .ok (.bool false) w' := fun w' => by
        rw [neq_V]
        simp
      refine wpAnyH_takeL (i := 6) (v := ?vhy39) rfl (by kernel_rfl) (by kernel_rfl) (by kernel_rfl) (fun _ _ _ h => h) (Or.inl ⟨by rfl, ?hy39⟩) (by assumption) ?rhy39
      case hy39 => ((intro w hSw; (try dsimp only at hSw); go_simp); try with_reducible rfl)
      try simp only [Act.put, List.setIfInBounds_toArray, List.set_cons_zero, List.set_cons_succ]
      refine wpAnyH_takeL (i := 7) (v := ?vhy40) rfl (by kernel_rfl) (by kernel_rfl) (by kernel_rfl) (fun _ _ _ h => h) (Or.inl ⟨by rfl, ?hy40⟩) (by assumption) ?rhy40
      case hy40 => ((intro w hSw; (try dsimp only at hSw); go_simp); try with_reducible rfl)
      try simp only [Act.put, List.setIfInBounds_toArray, List.set_cons_zero, List.set_cons_succ]
      refine wpAnyH_takeL (i := 8) (v := ?vhy41) rfl (by kernel_rfl) (by kernel_rfl) (by kernel_rfl) (fun _ _ _ h => h) (Or.inl ⟨by rfl, ?hy41⟩) (by assumption) ?rhy41
      case hy41 => ((intro w hSw; (try dsimp only at hSw); go_simp); try with_reducible rfl)
      try simp only [Act.put, List.setIfInBounds_toArray, List.set_cons_zero, List.set_cons_succ]
      refine wpAnyH_takeL (i := 9) (v := ?vhy42) rfl (by kernel_rfl) (by kernel_rfl) (by kernel_rfl) (fun _ _ _ h => h) (Or.inl ⟨by rfl, ?hy42⟩) (by assumption) ?rhy42
      case hy42 => ((intro w hSw; (try dsimp only at hSw); go_simp); try with_reducible rfl)
      try simp only [Act.put, List.setIfInBounds_toArray, List.set_cons_zero, List.set_cons_succ]
      refine wpAnyH_takeL (i := 10) (v := ?vhy43) rfl (by kernel_rfl) (by kernel_rfl) (by kernel_rfl) (fun _ _ _ h => h) (Or.inl ⟨by rfl, ?hy43⟩) (by assumption) ?rhy43
      case hy43 => ((intro w hSw; (try dsimp only at hSw); go_simp); try with_reducible rfl)
      try simp only [Act.put, List.setIfInBounds_toArray, List.set_cons_zero, List.set_cons_succ]
      refine wpAnyH_takeL (i := 11) (v := ?vhy44) rfl (by kernel_rfl) (by kernel_rfl) (by kernel_rfl) (fun _ _ _ h => h) (Or.inl ⟨by rfl, ?hy44⟩) (by assumption) ?rhy44
      case hy44 => ((intro w hSw; (try dsimp only at hSw); go_simp); try with_reducible rfl)
      try simp only [Act.put, List.setIfInBounds_toArray, List.set_cons_zero, List.set_cons_succ]
      refine wpAnyH_ready (rs := [12]) (by kernel_rfl) (by simp) ?_
      refine AllReadyH.consL (i := 12) rfl (fun K hK => ?_) AllReadyH.nil
      go_simp
      refine (may_null 0 0 0 ByteArray.empty _).mono ?_
      rintro e W3 ⟨rfl, hb3⟩
      try simp only [hdi]
      have hb23 := gr hb2 hb3
      have hvb3 := hvb.below hb23 hlW
      have hkb3 : KBox W3 w1.heap.size (.func (.func 112) #[] #[]) (.func (.func 113) #[] #[]) := (hb23.block _ hlB).trans hkb
      refine hK.out _ _ ⟨hvb3.cells, hkb3.cells.1.1⟩ (fun hHeld => ?_)
      clear hK
      try simp only [Act.put, List.setIfInBounds_toArray, List.set_cons_zero, List.set_cons_succ]
      refine wpAnyH_takeL (i := 13) (v := ?vhy45) rfl (by kernel_rfl) (by kernel_rfl) (by kernel_rfl) (fun _ _ _ h => h) (Or.inl ⟨by rfl, ?hy45⟩) (by assumption) ?rhy45
      case hy45 => ((intro w hSw; (try dsimp only at hSw); go_simp); try with_reducible rfl)
      try simp only [Act.put, List.setIfInBounds_toArray, List.set_cons_zero, List.set_cons_succ]
      refine wpAnyH_takeL (i := 14) (v := ?vhy46) rfl (by kernel_rfl) (by kernel_rfl) (by kernel_rfl) (fun _ _ _ h => h) (Or.inl ⟨by rfl, ?hy46⟩) (by assumption) ?rhy46
      case hy46 => ((intro w hSw; (try dsimp only at hSw); go_simp); try with_reducible rfl)
      try simp only [Act.put, List.setIfInBounds_toArray, List.set_cons_zero, List.set_cons_succ]
      refine wpAnyH_takeL (i := 15) (v := ?vhy47) rfl (by kernel_rfl) (by kernel_rfl) (by kernel_rfl) (fun _ _ _ h => h) (Or.inl ⟨by rfl, ?hy47⟩) (by assumption) ?rhy47
      case hy47 => ((intro w hSw; (try dsimp only at hSw); go_simp); try with_reducible rfl)
      try simp only [Act.put, List.setIfInBounds_toArray, List.set_cons_zero, List.set_cons_succ]
      refine wpAnyH_done (by kernel_rfl) ?_ _
      refine NoPanic.normal ?_
      have hfin := gr hb0 hb23
      have hc3 := hvb3.cells
      clear hkb3 hHeld hkb2 hvb2 hb2 hb3 hvb hvc hkc hkb hsf hsg
      go_wp2_with fail
      go_ret
      exact ⟨by first | rfl | simp [chkV, okV], hfin⟩
    · have hno := chk0_no hq
      have hne : ∀ w', (binOp .neq 28 (.agg #[.int .i64 0, .int .i64 i, .int .u64 u, .string s]) (.agg #[.int .i64 0, .int .i64 0, .int .u64 0, .string ByteArray.empty])).run Tryz.prog w' = .ok (.bool true) w' := fun w' => by
        rw [neq_V, neq_true hq]
      refine wpAnyH_takeL (i := 6) (v := ?vhy48) rfl (by kernel_rfl) (by kernel_rfl) (by kernel_rfl) (fun _ _ _ h => h) (Or.inl ⟨by rfl, ?hy48⟩) (by assumption) ?rhy48
      case hy48 => ((intro w hSw; (try dsimp only at hSw); go_simp); try with_reducible rfl)
      try simp only [Act.put, List.setIfInBounds_toArray, List.set_cons_zero, List.set_cons_succ]
      refine wpAnyH_takeL (i := 7) (v := ?vhy49) rfl (by kernel_rfl) (by kernel_rfl) (by kernel_rfl) (fun _ _ _ h => h) (Or.inl ⟨by rfl, ?hy49⟩) (by assumption) ?rhy49
      case hy49 => ((intro w hSw; (try dsimp only at hSw); go_simp); try with_reducible rfl)
      try simp only [Act.put, List.setIfInBounds_toArray, List.set_cons_zero, List.set_cons_succ]
      refine wpAnyH_takeL (i := 8) (v := ?vhy50) rfl (by kernel_rfl) (by kernel_rfl) (by kernel_rfl) (fun _ _ _ h => h) (Or.inl ⟨by rfl, ?hy50⟩) (by assumption) ?rhy50
      case hy50 => ((intro w hSw; (try dsimp only at hSw); go_simp); try with_reducible rfl)
      try simp only [Act.put, List.setIfInBounds_toArray, List.set_cons_zero, List.set_cons_succ]
      refine wpAnyH_takeL (i := 9) (v := undef) rfl (by kernel_rfl) (by kernel_rfl) (by kernel_rfl) (fun _ _ _ h => h) (Or.inr ⟨by rfl, rfl⟩) (by assumption) ?_
      try simp only [Act.put, List.setIfInBounds_toArray, List.set_cons_zero, List.set_cons_succ]
      refine wpAnyH_takeL (i := 10) (v := undef) rfl (by kernel_rfl) (by kernel_rfl) (by kernel_rfl) (fun _ _ _ h => h) (Or.inr ⟨by rfl, rfl⟩) (by assumption) ?_
      try simp only [Act.put, List.setIfInBounds_toArray, List.set_cons_zero, List.set_cons_succ]
      refine wpAnyH_takeL (i := 11) (v := undef) rfl (by kernel_rfl) (by kernel_rfl) (by kernel_rfl) (fun _ _ _ h => h) (Or.inr ⟨by rfl, rfl⟩) (by assumption) ?_
      try simp only [Act.put, List.setIfInBounds_toArray, List.set_cons_zero, List.set_cons_succ]
      refine wpAnyH_takeL (i := 12) (v := undef) rfl (by kernel_rfl) (by kernel_rfl) (by kernel_rfl) (fun _ _ _ h => h) (Or.inr ⟨by rfl, rfl⟩) (by assumption) ?_
      try simp only [Act.put, List.setIfInBounds_toArray, List.set_cons_zero, List.set_cons_succ]
      refine wpAnyH_takeL (i := 13) (v := undef) rfl (by kernel_rfl) (by kernel_rfl) (by kernel_rfl) (fun _ _ _ h => h) (Or.inr ⟨by rfl, rfl⟩) (by assumption) ?_
      try simp only [Act.put, List.setIfInBounds_toArray, List.set_cons_zero, List.set_cons_succ]
      refine wpAnyH_takeL (i := 14) (v := ?vhy51) rfl (by kernel_rfl) (by kernel_rfl) (by kernel_rfl) (fun _ _ _ h => h) (Or.inl ⟨by rfl, ?hy51⟩) (by assumption) ?rhy51
      case hy51 => ((intro w hSw; (try dsimp only at hSw); go_simp); try with_reducible rfl)
      try simp only [Act.put, List.setIfInBounds_toArray, List.set_cons_zero, List.set_cons_succ]
      refine wpAnyH_takeL (i := 15) (v := ?vhy52) rfl (by kernel_rfl) (by kernel_rfl) (by kernel_rfl) (fun _ _ _ h => h) (Or.inl ⟨by rfl, ?hy52⟩) (by assumption) ?rhy52
      case hy52 => ((intro w hSw; (try dsimp only at hSw); go_simp); try with_reducible rfl)
      try simp only [Act.put, List.setIfInBounds_toArray, List.set_cons_zero, List.set_cons_succ]
      refine wpAnyH_done (by kernel_rfl) ?_ _
      refine NoPanic.normal ?_
      have hfin := gr hb0 hb2
      go_wp2
      go_ret
      exact ⟨by first | (rw [hno]; rfl) | rfl, hfin⟩
  · go_simp
    have hs2 := (Below.refl w0.heap.size w0).alloc (Nat.le_refl _) (.cells #[.nilFunc, .nilFunc] 140)
    have hkn : KBox (w0.alloc (.cells #[.nilFunc, .nilFunc] 140)) w0.heap.size .nilFunc .nilFunc := World.alloc_heap_new w0 _
    have hln : w0.heap.size < (w0.alloc (.cells #[.nilFunc, .nilFunc] 140)).heap.size := by simp
    refine hK.out _ _ (VBox.cells (W := (w0.alloc (.cells #[.nilFunc, .nilFunc] 140)).drew) (hbox.below hs2.drew hlt)).1 (fun hHeld => ?_)
    clear hK
    try simp only [Act.put, List.setIfInBounds_toArray, List.set_cons_zero, List.set_cons_succ]
    refine wpAnyH_ready (rs := [0]) (by kernel_rfl) (by simp) ?_
    refine AllReadyH.consL (i := 0) rfl (fun K hK => ?_) AllReadyH.nil
    go_simp
    refine (vkinds_any _).mono ?_
    rintro e w1 ⟨r, rfl, hm, hb1, hr1⟩
    replace hr1 : w0.heap.size < r := Nat.lt_of_lt_of_le hln hr1
    replace hkn : KBox w1 w0.heap.size .nilFunc .nilFunc := (hb1.block _ hln).trans hkn
    replace hb1 := gr hs2.drew hb1
    refine hK.out _ _ (hbox.below hb1 hlt).cells.1 (fun hHeld => ?_)
    clear hK hHeld
    refine wpAnyH_more (S' := fun w' => IMap w' r .i64 VKinds ∧ Below w0.heap.size w0 w') (fun w' h => (hbox.below h.2 hlt).cells.1) ?_
    have hHeld : IMap w1 r .i64 VKinds ∧ Below w0.heap.size w0 w1 := ⟨hm, hb1⟩
    try simp only [Act.put, List.setIfInBounds_toArray, List.set_cons_zero, List.set_cons_succ]
    refine wpAnyH_takeL (i := 3) (v := ?vhy53) rfl (by kernel_rfl) (by kernel_rfl) (by kernel_rfl) (fun _ _ _ h => h) (Or.inl ⟨by rfl, ?hy53⟩) (by assumption) ?rhy53
    case hy53 => ((intro w hSw; (try dsimp only at hSw); go_simp); try with_reducible rfl)
    try simp only [Act.put, List.setIfInBounds_toArray, List.set_cons_zero, List.set_cons_succ]
    refine wpAnyH_takeL (i := 4) (v := ?vhy54) rfl (by kernel_rfl) (by kernel_rfl) (by kernel_rfl) (fun _ _ _ h => h) (Or.inl ⟨by rfl, ?hy54⟩) (by assumption) ?rhy54
    case hy54 => ((intro w hSw; (try dsimp only at hSw); go_simp); try with_reducible rfl)
    try simp only [Act.put, List.setIfInBounds_toArray, List.set_cons_zero, List.set_cons_succ]
    refine wpAnyH_takeL (i := 5) (v := ?vhy55) rfl (by kernel_rfl) (by kernel_rfl) (by kernel_rfl) (fun _ _ _ h => h) (Or.inl ⟨by rfl, ?hy55⟩) (by assumption) ?rhy55
    case hy55 => ((intro w hSw; (try dsimp only at hSw); go_simp); try with_reducible rfl)
    try simp only [Act.put, List.setIfInBounds_toArray, List.set_cons_zero, List.set_cons_succ]
    refine wpAnyH_takeL (i := 6) (v := ?vhy56) rfl (by kernel_rfl) (by kernel_rfl) (by kernel_rfl) (fun _ _ _ h => h) (Or.inl ⟨by rfl, ?hy56⟩) (by assumption) ?rhy56
    case hy56 => ((intro w hSw; (try dsimp only at hSw); go_simp); try with_reducible rfl)
    try simp only [Act.put, List.setIfInBounds_toArray, List.set_cons_zero, List.set_cons_succ]
    have hkc := hkn.cells
    refine wpAnyH_ready (rs := [8]) (by kernel_rfl) (by simp) ?_
    refine AllReadyH.consL (i := 8) rfl (fun K hK => ?_) AllReadyH.nil
    go_simp
    have hkb := hkn.set (.func (.func 112) #[] #[]) (.func (.func 113) #[] #[])
    have hg1' := (grownBy_setCell_at w1 ⟨w0.heap.size, 0, none⟩ (.func (.func 112) #[] #[]))
    have hg2' := (grownBy_setCell_at (w1.setCell ⟨w0.heap.size, 0, none⟩ (.func (.func 112) #[] #[])) ⟨w0.heap.size, 1, none⟩ (.func (.func 113) #[] #[]))
    have hm2 := (hm.kept hg1' (by simp; omega)).kept hg2' (by simp; omega)
    have hb2 := (hb1.setCell (p := ⟨w0.heap.size, 0, none⟩) (Nat.le_refl _) (.func (.func 112) #[] #[])).setCell (p := ⟨w0.heap.size, 1, none⟩) (Nat.le_refl _) (.func (.func 113) #[] #[])
    refine hK.out _ _ ⟨hm2, hb2⟩ (fun hHeld => ?_)
    clear hK hg1' hg2' hm2 hkc hkn
    replace hb1 := hb2
    clear hb2
    generalize ((w1.setCell ⟨w0.heap.size, 0, none⟩ (.func (.func 112) #[] #[])).setCell ⟨w0.heap.size, 1, none⟩ (.func (.func 113) #[] #[])) = W at *
    try simp only [Act.put, List.setIfInBounds_toArray, List.set_cons_zero, List.set_cons_succ]
    refine wpAnyH_takeL (i := 9) (v := ?vhy57) rfl (by kernel_rfl) (by kernel_rfl) (by kernel_rfl) (fun _ _ _ h => h) (Or.inl ⟨by rfl, ?hy57⟩) (by assumption) ?rhy57
    case hy57 => ((intro w hSw; (try dsimp only at hSw); go_simp); try with_reducible rfl)
    try simp only [Act.put, List.setIfInBounds_toArray, List.set_cons_zero, List.set_cons_succ]
    refine wpAnyH_done (by kernel_rfl) ?_ _
    refine NoPanic.normal ?_
    clear hHeld hm hlk
    have hvb := hbox.below hb1 hlt
    replace hb0 := gr hb0 hb1
    clear hb1 hbox
    go_wp2_with fail
    have hkc := hkb.cells.1.1
    have hvc := hvb.cells
    have hbe : bareV 0 i u s = .agg #[.int .i64 0, .int .i64 0, .int .u64 0, .string ByteArray.empty] := by simp [bareV, valV]
    refine wp_region_noPanic ?_
    refine wp_region_held_drew (S := fun w' => (w'.cell? ⟨w.heap.size, 0, none⟩ = some (.int .i64 0) ∧ w'.cell? ⟨w.heap.size, 1, none⟩ = some (.int .i64 i) ∧ w'.cell? ⟨w.heap.size, 2, none⟩ = some (.int .u64 u) ∧ w'.cell? ⟨w.heap.size, 3, none⟩ = some (.string s)) ∧ w'.cell? ⟨w0.heap.size, 0, none⟩ = some (.func (.func 112) #[] #[])) (by kernel_rfl) ⟨hvc, hkc⟩ (fun hHeld => ?_)
    refine wpAnyH_takeL (i := 0) (v := ?vhy58) rfl (by kernel_rfl) (by kernel_rfl) (by kernel_rfl) (fun _ _ _ h => h) (Or.inl ⟨by rfl, ?hy58⟩) (by assumption) ?rhy58
    case hy58 => ((intro w hSw; (try dsimp only at hSw); go_simp); try with_reducible rfl)
    try simp only [Act.put, List.setIfInBounds_toArray, List.set_cons_zero, List.set_cons_succ]
    refine wpAnyH_takeL (i := 1) (v := ?vhy59) rfl (by kernel_rfl) (by kernel_rfl) (by kernel_rfl) (fun _ _ _ h => h) (Or.inl ⟨by rfl, ?hy59⟩) (by assumption) ?rhy59
    case hy59 => ((intro w hSw; (try dsimp only at hSw); go_simp); try with_reducible rfl)
    try simp only [Act.put, List.setIfInBounds_toArray, List.set_cons_zero, List.set_cons_succ]
    refine wpAnyH_takeL (i := 2) (v := ?vhy60) rfl (by kernel_rfl) (by kernel_rfl) (by kernel_rfl) (fun _ _ _ h => h) (Or.inl ⟨by rfl, ?hy60⟩) (by assumption) ?rhy60
    case hy60 => ((intro w hSw; (try dsimp only at hSw); go_simp); try with_reducible rfl)
    try simp only [Act.put, List.setIfInBounds_toArray, List.set_cons_zero, List.set_cons_succ]
    refine wpAnyH_takeL (i := 3) (v := ?vhy61) rfl (by kernel_rfl) (by kernel_rfl) (by kernel_rfl) (fun _ _ _ h => h) (Or.inl ⟨by rfl, ?hy61⟩) (by assumption) ?rhy61
    case hy61 => ((intro w hSw; (try dsimp only at hSw); go_simp); try with_reducible rfl)
    try simp only [Act.put, List.setIfInBounds_toArray, List.set_cons_zero, List.set_cons_succ]
    refine wpAnyH_takeL (i := 4) (v := ?vhy62) rfl (by kernel_rfl) (by kernel_rfl) (by kernel_rfl) (fun _ _ _ h => h) (Or.inl ⟨by rfl, ?hy62⟩) (by assumption) ?rhy62
    case hy62 => ((intro w hSw; (try dsimp only at hSw); go_simp); try with_reducible rfl)
    try simp only [Act.put, List.setIfInBounds_toArray, List.set_cons_zero, List.set_cons_succ]
    refine wpAnyH_ready (rs := [5]) (by kernel_rfl) (by simp) ?_
    refine AllReadyH.consL (i := 5) rfl (fun K hK => ?_) AllReadyH.nil
    go_simp
    refine (bare_any 0 i u s _).mono ?_
    rw [hbe]
    rintro e W2 ⟨rfl, hb2⟩
    replace hb2 := gr ((Below.refl _ W).drew) hb2
    have hlW := hvb.lt
    have hlB : w0.heap.size < W.heap.size := (Array.getElem?_eq_some_iff.1 hkb).1
    have hvb2 := hvb.below hb2 hlW
    have hkb2 : KBox W2 w0.heap.size (.func (.func 112) #[] #[]) (.func (.func 113) #[] #[]) := (hb2.block _ hlB).trans hkb
    refine hK.out _ _ ⟨hvb2.cells, hkb2.cells.1.1⟩ (fun hHeld => ?_)
    clear hK
    try simp only [Act.put, List.setIfInBounds_toArray, List.set_cons_zero, List.set_cons_succ]
    by_cases hq : i = 0 ∧ u = 0 ∧ s = ByteArray.empty
    · obtain ⟨q1, q2, q3⟩ := hq
      try subst q1
      try subst q2
      try subst q3
      have hne : ∀ w', (binOp .neq 28 (.agg #[.int .i64 0, .int .i64 0, .int .u64 0, .string ByteArray.empty]) (.agg #[.int .i64 0, .int .i64 0, .int .u64 0, .string ByteArray.empty])).run Tryz.prog w' = .ok (.bool false) w' := fun w' => by
        rw [neq_V]
        simp
      refine wpAnyH_takeL (i := 6) (v := ?vhy63) rfl (by kernel_rfl) (by kernel_rfl) (by kernel_rfl) (fun _ _ _ h => h) (Or.inl ⟨by rfl, ?hy63⟩) (by assumption) ?rhy63
      case hy63 => ((intro w hSw; (try dsimp only at hSw); go_simp); try with_reducible rfl)
      try simp only [Act.put, List.setIfInBounds_toArray, List.set_cons_zero, List.set_cons_succ]
      refine wpAnyH_takeL (i := 7) (v := ?vhy64) rfl (by kernel_rfl) (by kernel_rfl) (by kernel_rfl) (fun _ _ _ h => h) (Or.inl ⟨by rfl, ?hy64⟩) (by assumption) ?rhy64
      case hy64 => ((intro w hSw; (try dsimp only at hSw); go_simp); try with_reducible rfl)
      try simp only [Act.put, List.setIfInBounds_toArray, List.set_cons_zero, List.set_cons_succ]
      refine wpAnyH_takeL (i := 8) (v := ?vhy65) rfl (by kernel_rfl) (by kernel_rfl) (by kernel_rfl) (fun _ _ _ h => h) (Or.inl ⟨by rfl, ?hy65⟩) (by assumption) ?rhy65
      case hy65 => ((intro w hSw; (try dsimp only at hSw); go_simp); try with_reducible rfl)
      try simp only [Act.put, List.setIfInBounds_toArray, List.set_cons_zero, List.set_cons_succ]
      refine wpAnyH_takeL (i := 9) (v := ?vhy66) rfl (by kernel_rfl) (by kernel_rfl) (by kernel_rfl) (fun _ _ _ h => h) (Or.inl ⟨by rfl, ?hy66⟩) (by assumption) ?rhy66
      case hy66 => ((intro w hSw; (try dsimp only at hSw); go_simp); try with_reducible rfl)
      try simp only [Act.put, List.setIfInBounds_toArray, List.set_cons_zero, List.set_cons_succ]
      refine wpAnyH_takeL (i := 10) (v := ?vhy67) rfl (by kernel_rfl) (by kernel_rfl) (by kernel_rfl) (fun _ _ _ h => h) (Or.inl ⟨by rfl, ?hy67⟩) (by assumption) ?rhy67
      case hy67 => ((intro w hSw; (try dsimp only at hSw); go_simp); try with_reducible rfl)
      try simp only [Act.put, List.setIfInBounds_toArray, List.set_cons_zero, List.set_cons_succ]
      refine wpAnyH_takeL (i := 11) (v := ?vhy68) rfl (by kernel_rfl) (by kernel_rfl) (by kernel_rfl) (fun _ _ _ h => h) (Or.inl ⟨by rfl, ?hy68⟩) (by assumption) ?rhy68
      case hy68 => ((intro w hSw; (try dsimp only at hSw); go_simp); try with_reducible rfl)
      try simp only [Act.put, List.setIfInBounds_toArray, List.set_cons_zero, List.set_cons_succ]
      refine wpAnyH_ready (rs := [12]) (by kernel_rfl) (by simp) ?_
      refine AllReadyH.consL (i := 12) rfl (fun K hK => ?_) AllReadyH.nil
      go_simp
      refine (may_null 0 0 0 ByteArray.empty _).mono ?_
      rintro e W3 ⟨rfl, hb3⟩
      try simp only [hdi]
      have hb23 := gr hb2 hb3
      have hvb3 := hvb.below hb23 hlW
      have hkb3 : KBox W3 w0.heap.size (.func (.func 112) #[] #[]) (.func (.func 113) #[] #[]) := (hb23.block _ hlB).trans hkb
      refine hK.out _ _ ⟨hvb3.cells, hkb3.cells.1.1⟩ (fun hHeld => ?_)
      clear hK
      try simp only [Act.put, List.setIfInBounds_toArray, List.set_cons_zero, List.set_cons_succ]
      refine wpAnyH_takeL (i := 13) (v := ?vhy69) rfl (by kernel_rfl) (by kernel_rfl) (by kernel_rfl) (fun _ _ _ h => h) (Or.inl ⟨by rfl, ?hy69⟩) (by assumption) ?rhy69
      case hy69 => ((intro w hSw; (try dsimp only at hSw); go_simp); try with_reducible rfl)
      try simp only [Act.put, List.setIfInBounds_toArray, List.set_cons_zero, List.set_cons_succ]
      refine wpAnyH_takeL (i := 14) (v := ?vhy70) rfl (by kernel_rfl) (by kernel_rfl) (by kernel_rfl) (fun _ _ _ h => h) (Or.inl ⟨by rfl, ?hy70⟩) (by assumption) ?rhy70
      case hy70 => ((intro w hSw; (try dsimp only at hSw); go_simp); try with_reducible rfl)
      try simp only [Act.put, List.setIfInBounds_toArray, List.set_cons_zero, List.set_cons_succ]
      refine wpAnyH_takeL (i := 15) (v := ?vhy71) rfl (by kernel_rfl) (by kernel_rfl) (by kernel_rfl) (fun _ _ _ h => h) (Or.inl ⟨by rfl, ?hy71⟩) (by assumption) ?rhy71
      case hy71 => ((intro w hSw; (try dsimp only at hSw); go_simp); try with_reducible rfl)
      try simp only [Act.put, List.setIfInBounds_toArray, List.set_cons_zero, List.set_cons_succ]
      refine wpAnyH_done (by kernel_rfl) ?_ _
      refine NoPanic.normal ?_
      have hfin := gr hb0 hb23
      have hc3 := hvb3.cells
      clear hkb3 hHeld hkb2 hvb2 hb2 hb3 hvb hvc hkc hkb hsf hsg
      go_wp2_with fail
      go_ret
      exact ⟨by first | rfl | simp [chkV, okV], hfin⟩
    · have hno := chk0_no hq
      have hne : ∀ w', (binOp .neq 28 (.agg #[.int .i64 0, .int .i64 i, .int .u64 u, .string s]) (.agg #[.int .i64 0, .int .i64 0, .int .u64 0, .string ByteArray.empty])).run Tryz.prog w' = .ok (.bool true) w' := fun w' => by
        rw [neq_V, neq_true hq]
      refine wpAnyH_takeL (i := 6) (v := ?vhy72) rfl (by kernel_rfl) (by kernel_rfl) (by kernel_rfl) (fun _ _ _ h => h) (Or.inl ⟨by rfl, ?hy72⟩) (by assumption) ?rhy72
      case hy72 => ((intro w hSw; (try dsimp only at hSw); go_simp); try with_reducible rfl)
      try simp only [Act.put, List.setIfInBounds_toArray, List.set_cons_zero, List.set_cons_succ]
      refine wpAnyH_takeL (i := 7) (v := ?vhy73) rfl (by kernel_rfl) (by kernel_rfl) (by kernel_rfl) (fun _ _ _ h => h) (Or.inl ⟨by rfl, ?hy73⟩) (by assumption) ?rhy73
      case hy73 => ((intro w hSw; (try dsimp only at hSw); go_simp); try with_reducible rfl)
      try simp only [Act.put, List.setIfInBounds_toArray, List.set_cons_zero, List.set_cons_succ]
      refine wpAnyH_takeL (i := 8) (v := ?vhy74) rfl (by kernel_rfl) (by kernel_rfl) (by kernel_rfl) (fun _ _ _ h => h) (Or.inl ⟨by rfl, ?hy74⟩) (by assumption) ?rhy74
      case hy74 => ((intro w hSw; (try dsimp only at hSw); go_simp); try with_reducible rfl)
      try simp only [Act.put, List.setIfInBounds_toArray, List.set_cons_zero, List.set_cons_succ]
      refine wpAnyH_takeL (i := 9) (v := undef) rfl (by kernel_rfl) (by kernel_rfl) (by kernel_rfl) (fun _ _ _ h => h) (Or.inr ⟨by rfl, rfl⟩) (by assumption) ?_
      try simp only [Act.put, List.setIfInBounds_toArray, List.set_cons_zero, List.set_cons_succ]
      refine wpAnyH_takeL (i := 10) (v := undef) rfl (by kernel_rfl) (by kernel_rfl) (by kernel_rfl) (fun _ _ _ h => h) (Or.inr ⟨by rfl, rfl⟩) (by assumption) ?_
      try simp only [Act.put, List.setIfInBounds_toArray, List.set_cons_zero, List.set_cons_succ]
      refine wpAnyH_takeL (i := 11) (v := undef) rfl (by kernel_rfl) (by kernel_rfl) (by kernel_rfl) (fun _ _ _ h => h) (Or.inr ⟨by rfl, rfl⟩) (by assumption) ?_
      try simp only [Act.put, List.setIfInBounds_toArray, List.set_cons_zero, List.set_cons_succ]
      refine wpAnyH_takeL (i := 12) (v := undef) rfl (by kernel_rfl) (by kernel_rfl) (by kernel_rfl) (fun _ _ _ h => h) (Or.inr ⟨by rfl, rfl⟩) (by assumption) ?_
      try simp only [Act.put, List.setIfInBounds_toArray, List.set_cons_zero, List.set_cons_succ]
      refine wpAnyH_takeL (i := 13) (v := undef) rfl (by kernel_rfl) (by kernel_rfl) (by kernel_rfl) (fun _ _ _ h => h) (Or.inr ⟨by rfl, rfl⟩) (by assumption) ?_
      try simp only [Act.put, List.setIfInBounds_toArray, List.set_cons_zero, List.set_cons_succ]
      refine wpAnyH_takeL (i := 14) (v := ?vhy75) rfl (by kernel_rfl) (by kernel_rfl) (by kernel_rfl) (fun _ _ _ h => h) (Or.inl ⟨by rfl, ?hy75⟩) (by assumption) ?rhy75
      case hy75 => ((intro w hSw; (try dsimp only at hSw); go_simp); try with_reducible rfl)
      try simp only [Act.put, List.setIfInBounds_toArray, List.set_cons_zero, List.set_cons_succ]
      refine wpAnyH_takeL (i := 15) (v := ?vhy76) rfl (by kernel_rfl) (by kernel_rfl) (by kernel_rfl) (fun _ _ _ h => h) (Or.inl ⟨by rfl, ?hy76⟩) (by assumption) ?rhy76
      case hy76 => ((intro w hSw; (try dsimp only at hSw); go_simp); try with_reducible rfl)
      try simp only [Act.put, List.setIfInBounds_toArray, List.set_cons_zero, List.set_cons_succ]
      refine wpAnyH_done (by kernel_rfl) ?_ _
      refine NoPanic.normal ?_
      have hfin := gr hb0 hb2
      go_wp2
      go_ret
      exact ⟨by first | (rw [hno]; rfl) | rfl, hfin⟩
set_option maxRecDepth 100000 in
set_option maxHeartbeats 2000000 in
theorem Check_1 (i u : Int) (s : ByteArray) (w : World) (hs : s.size ≤ maxLen) : Calls Tryz.prog 55 #[.agg #[.int .i64 1, .int .i64 i, .int .u64 u, .string s]] w fun e w' => e = .returned (.int .i64 (chkV 1 i u s : Int)) ∧ Below w.heap.size w w' := by
  have hlk : ∀ w' r, IMap w' r .i64 VKinds → (Instr.lookup 142 (.map (some r)) (.int .i64 1) true).run Tryz.prog w' = .ok (.tuple #[.agg #[.func (.func 114) #[] #[], .func (.func 115) #[] #[]], .bool true]) w' := fun w' r hm =>
    hm.look _ _ _ Tryz.underlying142 Tryz.underlying25 1 1 _ rfl
  have hsf := fun (a : Addr) (w : World) (m : Mode) => (run_store Tryz.prog w a (.func (.func 114) #[] #[]) m rfl : _ = stored Tryz.prog w a (.func (.func 114) #[] #[]) m)
  have hsg := fun (a : Addr) (w : World) (m : Mode) => (run_store Tryz.prog w a (.func (.func 115) #[] #[]) m rfl : _ = stored Tryz.prog w a (.func (.func 115) #[] #[]) m)
  have hbox := VBox.new w 1 i u s
  have hb0 : Below w.heap.size w (w.alloc (.cells #[.int .i64 1, .int .i64 i, .int .u64 u, .string s] 28)) := (Below.refl _ w).alloc (Nat.le_refl _) _
  go_enter Tryz.func55, Tryz.ntmps55
  go_wp2_with fail
  generalize (w.alloc (.cells #[.int .i64 1, .int .i64 i, .int .u64 u, .string s] 28)) = w0 at *
  have hlt : w.heap.size < w0.heap.size := hbox.lt
  refine wp_region_noPanic ?_
  refine wp_region_held_drew (S := fun w' => w'.cell? ⟨w.heap.size, 0, none⟩ = some (.int .i64 1)) (by kernel_rfl) (VBox.cells (W := w0.drew) hbox).1 (fun hHeld => ?_)
  refine wpAnyH_takeL (i := 1) (v := ?vhy77) rfl (by kernel_rfl) (by kernel_rfl) (by kernel_rfl) (fun _ _ _ h => h) (Or.inl ⟨by rfl, ?hy77⟩) (by assumption) ?rhy77
  case hy77 => ((intro w hSw; (try dsimp only at hSw); go_simp); try with_reducible rfl)
  try simp only [Act.put, List.setIfInBounds_toArray, List.set_cons_zero, List.set_cons_succ]
  refine wpAnyH_takeL (i := 2) (v := ?vhy78) rfl (by kernel_rfl) (by kernel_rfl) (by kernel_rfl) (fun _ _ _ h => h) (Or.inl ⟨by rfl, ?hy78⟩) (by assumption) ?rhy78
  case hy78 => ((intro w hSw; (try dsimp only at hSw); go_simp); try with_reducible rfl)
  try simp only [Act.put, List.setIfInBounds_toArray, List.set_cons_zero, List.set_cons_succ]
  refine wpAnyH_ready (rs := [0, 7]) (by kernel_rfl) (by simp) ?_
  refine AllReadyH.consL (i := 0) rfl (fun K hK => ?_) (AllReadyH.consL (i := 7) rfl (fun K hK => ?_) AllReadyH.nil)
  · go_simp
    refine (vkinds_any _).mono ?_
    rintro e w1 ⟨r, rfl, hm, hb1, hr1⟩
    replace hb1 := gr ((Below.refl _ w0).drew) hb1
    refine hK.out _ _ (hbox.below hb1 hlt).cells.1 (fun hHeld => ?_)
    clear hK hHeld
    refine wpAnyH_more (S' := fun w' => IMap w' r .i64 VKinds ∧ Below w0.heap.size w0 w') (fun w' h => (hbox.below h.2 hlt).cells.1) ?_
    have hHeld : IMap w1 r .i64 VKinds ∧ Below w0.heap.size w0 w1 := ⟨hm, hb1⟩
    try simp only [Act.put, List.setIfInBounds_toArray, List.set_cons_zero, List.set_cons_succ]
    refine wpAnyH_takeL (i := 3) (v := ?vhy79) rfl (by kernel_rfl) (by kernel_rfl) (by kernel_rfl) (fun _ _ _ h => h) (Or.inl ⟨by rfl, ?hy79⟩) (by assumption) ?rhy79
    case hy79 => ((intro w hSw; (try dsimp only at hSw); go_simp); try with_reducible rfl)
    try simp only [Act.put, List.setIfInBounds_toArray, List.set_cons_zero, List.set_cons_succ]
    refine wpAnyH_takeL (i := 4) (v := ?vhy80) rfl (by kernel_rfl) (by kernel_rfl) (by kernel_rfl) (fun _ _ _ h => h) (Or.inl ⟨by rfl, ?hy80⟩) (by assumption) ?rhy80
    case hy80 => ((intro w hSw; (try dsimp only at hSw); go_simp); try with_reducible rfl)
    try simp only [Act.put, List.setIfInBounds_toArray, List.set_cons_zero, List.set_cons_succ]
    refine wpAnyH_takeL (i := 5) (v := ?vhy81) rfl (by kernel_rfl) (by kernel_rfl) (by kernel_rfl) (fun _ _ _ h => h) (Or.inl ⟨by rfl, ?hy81⟩) (by assumption) ?rhy81
    case hy81 => ((intro w hSw; (try dsimp only at hSw); go_simp); try with_reducible rfl)
    try simp only [Act.put, List.setIfInBounds_toArray, List.set_cons_zero, List.set_cons_succ]
    refine wpAnyH_takeL (i := 6) (v := ?vhy82) rfl (by kernel_rfl) (by kernel_rfl) (by kernel_rfl) (fun _ _ _ h => h) (Or.inl ⟨by rfl, ?hy82⟩) (by assumption) ?rhy82
    case hy82 => ((intro w hSw; (try dsimp only at hSw); go_simp); try with_reducible rfl)
    try simp only [Act.put, List.setIfInBounds_toArray, List.set_cons_zero, List.set_cons_succ]
    refine wpAnyH_ready (rs := [7]) (by kernel_rfl) (by simp) ?_
    refine AllReadyH.consL (i := 7) rfl (fun K hK => ?_) AllReadyH.nil
    go_simp
    have hs2 := (Below.refl w1.heap.size w1).alloc (Nat.le_refl _) (.cells #[.nilFunc, .nilFunc] 140)
    refine hK.out _ _ ⟨hm.below hs2, gr hb1 hs2⟩ (fun hHeld => ?_)
    clear hK
    try simp only [Act.put, List.setIfInBounds_toArray, List.set_cons_zero, List.set_cons_succ]
    refine wpAnyH_ready (rs := [8]) (by kernel_rfl) (by simp) ?_
    refine AllReadyH.consL (i := 8) rfl (fun K hK => ?_) AllReadyH.nil
    go_simp
    have hs3 := (Below.refl w1.heap.size w1).alloc (Nat.le_refl _) (.cells #[(.func (.func 114) #[] #[]), (.func (.func 115) #[] #[])] 140)
    have hkb : KBox (w1.alloc (.cells #[(.func (.func 114) #[] #[]), (.func (.func 115) #[] #[])] 140)) w1.heap.size (.func (.func 114) #[] #[]) (.func (.func 115) #[] #[]) := World.alloc_heap_new w1 _
    refine hK.out _ _ ⟨hm.below hs3, gr hb1 hs3⟩ (fun hHeld => ?_)
    clear hK
    replace hb1 := gr hb1 hs3
    generalize (w1.alloc (.cells #[(.func (.func 114) #[] #[]), (.func (.func 115) #[] #[])] 140)) = W at *
    try simp only [Act.put, List.setIfInBounds_toArray, List.set_cons_zero, List.set_cons_succ]
    refine wpAnyH_takeL (i := 9) (v := ?vhy83) rfl (by kernel_rfl) (by kernel_rfl) (by kernel_rfl) (fun _ _ _ h => h) (Or.inl ⟨by rfl, ?hy83⟩) (by assumption) ?rhy83
    case hy83 => ((intro w hSw; (try dsimp only at hSw); go_simp); try with_reducible rfl)
    try simp only [Act.put, List.setIfInBounds_toArray, List.set_cons_zero, List.set_cons_succ]
    refine wpAnyH_done (by kernel_rfl) ?_ _
    refine NoPanic.normal ?_
    clear hHeld hm hlk
    have hvb := hbox.below hb1 hlt
    replace hb0 := gr hb0 hb1
    clear hb1 hbox
    go_wp2_with fail
    have hkc := hkb.cells.1.1
    have hvc := hvb.cells
    have hbe : bareV 1 i u s = .agg #[.int .i64 1, .int .i64 i, .int .u64 0, .string ByteArray.empty] := by simp [bareV, valV]
    refine wp_region_noPanic ?_
    refine wp_region_held_drew (S := fun w' => (w'.cell? ⟨w.heap.size, 0, none⟩ = some (.int .i64 1) ∧ w'.cell? ⟨w.heap.size, 1, none⟩ = some (.int .i64 i) ∧ w'.cell? ⟨w.heap.size, 2, none⟩ = some (.int .u64 u) ∧ w'.cell? ⟨w.heap.size, 3, none⟩ = some (.string s)) ∧ w'.cell? ⟨w1.heap.size, 0, none⟩ = some (.func (.func 114) #[] #[])) (by kernel_rfl) ⟨hvc, hkc⟩ (fun hHeld => ?_)
    refine wpAnyH_takeL (i := 0) (v := ?vhy84) rfl (by kernel_rfl) (by kernel_rfl) (by kernel_rfl) (fun _ _ _ h => h) (Or.inl ⟨by rfl, ?hy84⟩) (by assumption) ?rhy84
    case hy84 => ((intro w hSw; (try dsimp only at hSw); go_simp); try with_reducible rfl)
    try simp only [Act.put, List.setIfInBounds_toArray, List.set_cons_zero, List.set_cons_succ]
    refine wpAnyH_takeL (i := 1) (v := ?vhy85) rfl (by kernel_rfl) (by kernel_rfl) (by kernel_rfl) (fun _ _ _ h => h) (Or.inl ⟨by rfl, ?hy85⟩) (by assumption) ?rhy85
    case hy85 => ((intro w hSw; (try dsimp only at hSw); go_simp); try with_reducible rfl)
    try simp only [Act.put, List.setIfInBounds_toArray, List.set_cons_zero, List.set_cons_succ]
    refine wpAnyH_takeL (i := 2) (v := ?vhy86) rfl (by kernel_rfl) (by kernel_rfl) (by kernel_rfl) (fun _ _ _ h => h) (Or.inl ⟨by rfl, ?hy86⟩) (by assumption) ?rhy86
    case hy86 => ((intro w hSw; (try dsimp only at hSw); go_simp); try with_reducible rfl)
    try simp only [Act.put, List.setIfInBounds_toArray, List.set_cons_zero, List.set_cons_succ]
    refine wpAnyH_takeL (i := 3) (v := ?vhy87) rfl (by kernel_rfl) (by kernel_rfl) (by kernel_rfl) (fun _ _ _ h => h) (Or.inl ⟨by rfl, ?hy87⟩) (by assumption) ?rhy87
    case hy87 => ((intro w hSw; (try dsimp only at hSw); go_simp); try with_reducible rfl)
    try simp only [Act.put, List.setIfInBounds_toArray, List.set_cons_zero, List.set_cons_succ]
    refine wpAnyH_takeL (i := 4) (v := ?vhy88) rfl (by kernel_rfl) (by kernel_rfl) (by kernel_rfl) (fun _ _ _ h => h) (Or.inl ⟨by rfl, ?hy88⟩) (by assumption) ?rhy88
    case hy88 => ((intro w hSw; (try dsimp only at hSw); go_simp); try with_reducible rfl)
    try simp only [Act.put, List.setIfInBounds_toArray, List.set_cons_zero, List.set_cons_succ]
    refine wpAnyH_ready (rs := [5]) (by kernel_rfl) (by simp) ?_
    refine AllReadyH.consL (i := 5) rfl (fun K hK => ?_) AllReadyH.nil
    go_simp
    refine (bare_any 1 i u s _).mono ?_
    rw [hbe]
    rintro e W2 ⟨rfl, hb2⟩
    replace hb2 := gr ((Below.refl _ W).drew) hb2
    have hlW := hvb.lt
    have hlB : w1.heap.size < W.heap.size := (Array.getElem?_eq_some_iff.1 hkb).1
    have hvb2 := hvb.below hb2 hlW
    have hkb2 : KBox W2 w1.heap.size (.func (.func 114) #[] #[]) (.func (.func 115) #[] #[]) := (hb2.block _ hlB).trans hkb
    refine hK.out _ _ ⟨hvb2.cells, hkb2.cells.1.1⟩ (fun hHeld => ?_)
    clear hK
    try simp only [Act.put, List.setIfInBounds_toArray, List.set_cons_zero, List.set_cons_succ]
    by_cases hq : i = i ∧ u = 0 ∧ s = ByteArray.empty
    · obtain ⟨q1, q2, q3⟩ := hq
      try subst q1
      try subst q2
      try subst q3
      have hne : ∀ w', (binOp .neq 28 (.agg #[.int .i64 1, .int .i64 i, .int .u64 0, .string ByteArray.empty]) (.agg #[.int .i64 1, .int .i64 i, .int .u64 0, .string ByteArray.empty])).run Tryz.prog w' = .ok (.bool false) w' := fun w' => by
        rw [neq_V]
        simp
      refine wpAnyH_takeL (i := 6) (v := ?vhy89) rfl (by kernel_rfl) (by kernel_rfl) (by kernel_rfl) (fun _ _ _ h => h) (Or.inl ⟨by rfl, ?hy89⟩) (by assumption) ?rhy89
      case hy89 => ((intro w hSw; (try dsimp only at hSw); go_simp); try with_reducible rfl)
      try simp only [Act.put, List.setIfInBounds_toArray, List.set_cons_zero, List.set_cons_succ]
      refine wpAnyH_takeL (i := 7) (v := ?vhy90) rfl (by kernel_rfl) (by kernel_rfl) (by kernel_rfl) (fun _ _ _ h => h) (Or.inl ⟨by rfl, ?hy90⟩) (by assumption) ?rhy90
      case hy90 => ((intro w hSw; (try dsimp only at hSw); go_simp); try with_reducible rfl)
      try simp only [Act.put, List.setIfInBounds_toArray, List.set_cons_zero, List.set_cons_succ]
      refine wpAnyH_takeL (i := 8) (v := ?vhy91) rfl (by kernel_rfl) (by kernel_rfl) (by kernel_rfl) (fun _ _ _ h => h) (Or.inl ⟨by rfl, ?hy91⟩) (by assumption) ?rhy91
      case hy91 => ((intro w hSw; (try dsimp only at hSw); go_simp); try with_reducible rfl)
      try simp only [Act.put, List.setIfInBounds_toArray, List.set_cons_zero, List.set_cons_succ]
      refine wpAnyH_takeL (i := 9) (v := ?vhy92) rfl (by kernel_rfl) (by kernel_rfl) (by kernel_rfl) (fun _ _ _ h => h) (Or.inl ⟨by rfl, ?hy92⟩) (by assumption) ?rhy92
      case hy92 => ((intro w hSw; (try dsimp only at hSw); go_simp); try with_reducible rfl)
      try simp only [Act.put, List.setIfInBounds_toArray, List.set_cons_zero, List.set_cons_succ]
      refine wpAnyH_takeL (i := 10) (v := ?vhy93) rfl (by kernel_rfl) (by kernel_rfl) (by kernel_rfl) (fun _ _ _ h => h) (Or.inl ⟨by rfl, ?hy93⟩) (by assumption) ?rhy93
      case hy93 => ((intro w hSw; (try dsimp only at hSw); go_simp); try with_reducible rfl)
      try simp only [Act.put, List.setIfInBounds_toArray, List.set_cons_zero, List.set_cons_succ]
      refine wpAnyH_takeL (i := 11) (v := ?vhy94) rfl (by kernel_rfl) (by kernel_rfl) (by kernel_rfl) (fun _ _ _ h => h) (Or.inl ⟨by rfl, ?hy94⟩) (by assumption) ?rhy94
      case hy94 => ((intro w hSw; (try dsimp only at hSw); go_simp); try with_reducible rfl)
      try simp only [Act.put, List.setIfInBounds_toArray, List.set_cons_zero, List.set_cons_succ]
      refine wpAnyH_ready (rs := [12]) (by kernel_rfl) (by simp) ?_
      refine AllReadyH.consL (i := 12) rfl (fun K hK => ?_) AllReadyH.nil
      go_simp
      refine (may_int 1 i 0 ByteArray.empty _).mono ?_
      rintro e W3 ⟨rfl, hb3⟩
      try simp only [hdi]
      have hb23 := gr hb2 hb3
      have hvb3 := hvb.below hb23 hlW
      have hkb3 : KBox W3 w1.heap.size (.func (.func 114) #[] #[]) (.func (.func 115) #[] #[]) := (hb23.block _ hlB).trans hkb
      refine hK.out _ _ ⟨hvb3.cells, hkb3.cells.1.1⟩ (fun hHeld => ?_)
      clear hK
      try simp only [Act.put, List.setIfInBounds_toArray, List.set_cons_zero, List.set_cons_succ]
      refine wpAnyH_takeL (i := 13) (v := ?vhy95) rfl (by kernel_rfl) (by kernel_rfl) (by kernel_rfl) (fun _ _ _ h => h) (Or.inl ⟨by rfl, ?hy95⟩) (by assumption) ?rhy95
      case hy95 => ((intro w hSw; (try dsimp only at hSw); go_simp); try with_reducible rfl)
      try simp only [Act.put, List.setIfInBounds_toArray, List.set_cons_zero, List.set_cons_succ]
      refine wpAnyH_takeL (i := 14) (v := ?vhy96) rfl (by kernel_rfl) (by kernel_rfl) (by kernel_rfl) (fun _ _ _ h => h) (Or.inl ⟨by rfl, ?hy96⟩) (by assumption) ?rhy96
      case hy96 => ((intro w hSw; (try dsimp only at hSw); go_simp); try with_reducible rfl)
      try simp only [Act.put, List.setIfInBounds_toArray, List.set_cons_zero, List.set_cons_succ]
      refine wpAnyH_takeL (i := 15) (v := ?vhy97) rfl (by kernel_rfl) (by kernel_rfl) (by kernel_rfl) (fun _ _ _ h => h) (Or.inl ⟨by rfl, ?hy97⟩) (by assumption) ?rhy97
      case hy97 => ((intro w hSw; (try dsimp only at hSw); go_simp); try with_reducible rfl)
      try simp only [Act.put, List.setIfInBounds_toArray, List.set_cons_zero, List.set_cons_succ]
      refine wpAnyH_done (by kernel_rfl) ?_ _
      refine NoPanic.normal ?_
      have hfin := gr hb0 hb23
      have hc3 := hvb3.cells
      clear hkb3 hHeld hkb2 hvb2 hb2 hb3 hvb hvc hkc hkb hsf hsg
      go_wp2_with fail
      go_ret
      exact ⟨by first | rfl | simp [chkV, okV], hfin⟩
    · have hno := chk1_no hq
      have hne : ∀ w', (binOp .neq 28 (.agg #[.int .i64 1, .int .i64 i, .int .u64 u, .string s]) (.agg #[.int .i64 1, .int .i64 i, .int .u64 0, .string ByteArray.empty])).run Tryz.prog w' = .ok (.bool true) w' := fun w' => by
        rw [neq_V, neq_true hq]
      refine wpAnyH_takeL (i := 6) (v := ?vhy98) rfl (by kernel_rfl) (by kernel_rfl) (by kernel_rfl) (fun _ _ _ h => h) (Or.inl ⟨by rfl, ?hy98⟩) (by assumption) ?rhy98
      case hy98 => ((intro w hSw; (try dsimp only at hSw); go_simp); try with_reducible rfl)
      try simp only [Act.put, List.setIfInBounds_toArray, List.set_cons_zero, List.set_cons_succ]
      refine wpAnyH_takeL (i := 7) (v := ?vhy99) rfl (by kernel_rfl) (by kernel_rfl) (by kernel_rfl) (fun _ _ _ h => h) (Or.inl ⟨by rfl, ?hy99⟩) (by assumption) ?rhy99
      case hy99 => ((intro w hSw; (try dsimp only at hSw); go_simp); try with_reducible rfl)
      try simp only [Act.put, List.setIfInBounds_toArray, List.set_cons_zero, List.set_cons_succ]
      refine wpAnyH_takeL (i := 8) (v := ?vhy100) rfl (by kernel_rfl) (by kernel_rfl) (by kernel_rfl) (fun _ _ _ h => h) (Or.inl ⟨by rfl, ?hy100⟩) (by assumption) ?rhy100
      case hy100 => ((intro w hSw; (try dsimp only at hSw); go_simp); try with_reducible rfl)
      try simp only [Act.put, List.setIfInBounds_toArray, List.set_cons_zero, List.set_cons_succ]
      refine wpAnyH_takeL (i := 9) (v := undef) rfl (by kernel_rfl) (by kernel_rfl) (by kernel_rfl) (fun _ _ _ h => h) (Or.inr ⟨by rfl, rfl⟩) (by assumption) ?_
      try simp only [Act.put, List.setIfInBounds_toArray, List.set_cons_zero, List.set_cons_succ]
      refine wpAnyH_takeL (i := 10) (v := undef) rfl (by kernel_rfl) (by kernel_rfl) (by kernel_rfl) (fun _ _ _ h => h) (Or.inr ⟨by rfl, rfl⟩) (by assumption) ?_
      try simp only [Act.put, List.setIfInBounds_toArray, List.set_cons_zero, List.set_cons_succ]
      refine wpAnyH_takeL (i := 11) (v := undef) rfl (by kernel_rfl) (by kernel_rfl) (by kernel_rfl) (fun _ _ _ h => h) (Or.inr ⟨by rfl, rfl⟩) (by assumption) ?_
      try simp only [Act.put, List.setIfInBounds_toArray, List.set_cons_zero, List.set_cons_succ]
      refine wpAnyH_takeL (i := 12) (v := undef) rfl (by kernel_rfl) (by kernel_rfl) (by kernel_rfl) (fun _ _ _ h => h) (Or.inr ⟨by rfl, rfl⟩) (by assumption) ?_
      try simp only [Act.put, List.setIfInBounds_toArray, List.set_cons_zero, List.set_cons_succ]
      refine wpAnyH_takeL (i := 13) (v := undef) rfl (by kernel_rfl) (by kernel_rfl) (by kernel_rfl) (fun _ _ _ h => h) (Or.inr ⟨by rfl, rfl⟩) (by assumption) ?_
      try simp only [Act.put, List.setIfInBounds_toArray, List.set_cons_zero, List.set_cons_succ]
      refine wpAnyH_takeL (i := 14) (v := ?vhy101) rfl (by kernel_rfl) (by kernel_rfl) (by kernel_rfl) (fun _ _ _ h => h) (Or.inl ⟨by rfl, ?hy101⟩) (by assumption) ?rhy101
      case hy101 => ((intro w hSw; (try dsimp only at hSw); go_simp); try with_reducible rfl)
      try simp only [Act.put, List.setIfInBounds_toArray, List.set_cons_zero, List.set_cons_succ]
      refine wpAnyH_takeL (i := 15) (v := ?vhy102) rfl (by kernel_rfl) (by kernel_rfl) (by kernel_rfl) (fun _ _ _ h => h) (Or.inl ⟨by rfl, ?hy102⟩) (by assumption) ?rhy102
      case hy102 => ((intro w hSw; (try dsimp only at hSw); go_simp); try with_reducible rfl)
      try simp only [Act.put, List.setIfInBounds_toArray, List.set_cons_zero, List.set_cons_succ]
      refine wpAnyH_done (by kernel_rfl) ?_ _
      refine NoPanic.normal ?_
      have hfin := gr hb0 hb2
      go_wp2
      go_ret
      exact ⟨by first | (rw [hno]; rfl) | rfl, hfin⟩
  · go_simp
    have hs2 := (Below.refl w0.heap.size w0).alloc (Nat.le_refl _) (.cells #[.nilFunc, .nilFunc] 140)
    have hkn : KBox (w0.alloc (.cells #[.nilFunc, .nilFunc] 140)) w0.heap.size .nilFunc .nilFunc := World.alloc_heap_new w0 _
    have hln : w0.heap.size < (w0.alloc (.cells #[.nilFunc, .nilFunc] 140)).heap.size := by simp
    refine hK.out _ _ (VBox.cells (W := (w0.alloc (.cells #[.nilFunc, .nilFunc] 140)).drew) (hbox.below hs2.drew hlt)).1 (fun hHeld => ?_)
    clear hK
    try simp only [Act.put, List.setIfInBounds_toArray, List.set_cons_zero, List.set_cons_succ]
    refine wpAnyH_ready (rs := [0]) (by kernel_rfl) (by simp) ?_
    refine AllReadyH.consL (i := 0) rfl (fun K hK => ?_) AllReadyH.nil
    go_simp
    refine (vkinds_any _).mono ?_
    rintro e w1 ⟨r, rfl, hm, hb1, hr1⟩
    replace hr1 : w0.heap.size < r := Nat.lt_of_lt_of_le hln hr1
    replace hkn : KBox w1 w0.heap.size .nilFunc .nilFunc := (hb1.block _ hln).trans hkn
    replace hb1 := gr hs2.drew hb1
    refine hK.out _ _ (hbox.below hb1 hlt).cells.1 (fun hHeld => ?_)
    clear hK hHeld
    refine wpAnyH_more (S' := fun w' => IMap w' r .i64 VKinds ∧ Below w0.heap.size w0 w') (fun w' h => (hbox.below h.2 hlt).cells.1) ?_
    have hHeld : IMap w1 r .i64 VKinds ∧ Below w0.heap.size w0 w1 := ⟨hm, hb1⟩
    try simp only [Act.put, List.setIfInBounds_toArray, List.set_cons_zero, List.set_cons_succ]
    refine wpAnyH_takeL (i := 3) (v := ?vhy103) rfl (by kernel_rfl) (by kernel_rfl) (by kernel_rfl) (fun _ _ _ h => h) (Or.inl ⟨by rfl, ?hy103⟩) (by assumption) ?rhy103
    case hy103 => ((intro w hSw; (try dsimp only at hSw); go_simp); try with_reducible rfl)
    try simp only [Act.put, List.setIfInBounds_toArray, List.set_cons_zero, List.set_cons_succ]
    refine wpAnyH_takeL (i := 4) (v := ?vhy104) rfl (by kernel_rfl) (by kernel_rfl) (by kernel_rfl) (fun _ _ _ h => h) (Or.inl ⟨by rfl, ?hy104⟩) (by assumption) ?rhy104
    case hy104 => ((intro w hSw; (try dsimp only at hSw); go_simp); try with_reducible rfl)
    try simp only [Act.put, List.setIfInBounds_toArray, List.set_cons_zero, List.set_cons_succ]
    refine wpAnyH_takeL (i := 5) (v := ?vhy105) rfl (by kernel_rfl) (by kernel_rfl) (by kernel_rfl) (fun _ _ _ h => h) (Or.inl ⟨by rfl, ?hy105⟩) (by assumption) ?rhy105
    case hy105 => ((intro w hSw; (try dsimp only at hSw); go_simp); try with_reducible rfl)
    try simp only [Act.put, List.setIfInBounds_toArray, List.set_cons_zero, List.set_cons_succ]
    refine wpAnyH_takeL (i := 6) (v := ?vhy106) rfl (by kernel_rfl) (by kernel_rfl) (by kernel_rfl) (fun _ _ _ h => h) (Or.inl ⟨by rfl, ?hy106⟩) (by assumption) ?rhy106
    case hy106 => ((intro w hSw; (try dsimp only at hSw); go_simp); try with_reducible rfl)
    try simp only [Act.put, List.setIfInBounds_toArray, List.set_cons_zero, List.set_cons_succ]
    have hkc := hkn.cells
    refine wpAnyH_ready (rs := [8]) (by kernel_rfl) (by simp) ?_
    refine AllReadyH.consL (i := 8) rfl (fun K hK => ?_) AllReadyH.nil
    go_simp
    have hkb := hkn.set (.func (.func 114) #[] #[]) (.func (.func 115) #[] #[])
    have hg1' := (grownBy_setCell_at w1 ⟨w0.heap.size, 0, none⟩ (.func (.func 114) #[] #[]))
    have hg2' := (grownBy_setCell_at (w1.setCell ⟨w0.heap.size, 0, none⟩ (.func (.func 114) #[] #[])) ⟨w0.heap.size, 1, none⟩ (.func (.func 115) #[] #[]))
    have hm2 := (hm.kept hg1' (by simp; omega)).kept hg2' (by simp; omega)
    have hb2 := (hb1.setCell (p := ⟨w0.heap.size, 0, none⟩) (Nat.le_refl _) (.func (.func 114) #[] #[])).setCell (p := ⟨w0.heap.size, 1, none⟩) (Nat.le_refl _) (.func (.func 115) #[] #[])
    refine hK.out _ _ ⟨hm2, hb2⟩ (fun hHeld => ?_)
    clear hK hg1' hg2' hm2 hkc hkn
    replace hb1 := hb2
    clear hb2
    generalize ((w1.setCell ⟨w0.heap.size, 0, none⟩ (.func (.func 114) #[] #[])).setCell ⟨w0.heap.size, 1, none⟩ (.func (.func 115) #[] #[])) = W at *
    try simp only [Act.put, List.setIfInBounds_toArray, List.set_cons_zero, List.set_cons_succ]
    refine wpAnyH_takeL (i := 9) (v := ?vhy107) rfl (by kernel_rfl) (by kernel_rfl) (by kernel_rfl) (fun _ _ _ h => h) (Or.inl ⟨by rfl, ?hy107⟩) (by assumption) ?rhy107
    case hy107 => ((intro w hSw; (try dsimp only at hSw); go_simp); try with_reducible rfl)
    try simp only [Act.put, List.setIfInBounds_toArray, List.set_cons_zero, List.set_cons_succ]
    refine wpAnyH_done (by kernel_rfl) ?_ _
    refine NoPanic.normal ?_
    clear hHeld hm hlk
    have hvb := hbox.below hb1 hlt
    replace hb0 := gr hb0 hb1
    clear hb1 hbox
    go_wp2_with fail
    have hkc := hkb.cells.1.1
    have hvc := hvb.cells
    have hbe : bareV 1 i u s = .agg #[.int .i64 1, .int .i64 i, .int .u64 0, .string ByteArray.empty] := by simp [bareV, valV]
    refine wp_region_noPanic ?_
    refine wp_region_held_drew (S := fun w' => (w'.cell? ⟨w.heap.size, 0, none⟩ = some (.int .i64 1) ∧ w'.cell? ⟨w.heap.size, 1, none⟩ = some (.int .i64 i) ∧ w'.cell? ⟨w.heap.size, 2, none⟩ = some (.int .u64 u) ∧ w'.cell? ⟨w.heap.size, 3, none⟩ = some (.string s)) ∧ w'.cell? ⟨w0.heap.size, 0, none⟩ = some (.func (.func 114) #[] #[])) (by kernel_rfl) ⟨hvc, hkc⟩ (fun hHeld => ?_)
    refine wpAnyH_takeL (i := 0) (v := ?vhy108) rfl (by kernel_rfl) (by kernel_rfl) (by kernel_rfl) (fun _ _ _ h => h) (Or.inl ⟨by rfl, ?hy108⟩) (by assumption) ?rhy108
    case hy108 => ((intro w hSw; (try dsimp only at hSw); go_simp); try with_reducible rfl)
    try simp only [Act.put, List.setIfInBounds_toArray, List.set_cons_zero, List.set_cons_succ]
    refine wpAnyH_takeL (i := 1) (v := ?vhy109) rfl (by kernel_rfl) (by kernel_rfl) (by kernel_rfl) (fun _ _ _ h => h) (Or.inl ⟨by rfl, ?hy109⟩) (by assumption) ?rhy109
    case hy109 => ((intro w hSw; (try dsimp only at hSw); go_simp); try with_reducible rfl)
    try simp only [Act.put, List.setIfInBounds_toArray, List.set_cons_zero, List.set_cons_succ]
    refine wpAnyH_takeL (i := 2) (v := ?vhy110) rfl (by kernel_rfl) (by kernel_rfl) (by kernel_rfl) (fun _ _ _ h => h) (Or.inl ⟨by rfl, ?hy110⟩) (by assumption) ?rhy110
    case hy110 => ((intro w hSw; (try dsimp only at hSw); go_simp); try with_reducible rfl)
    try simp only [Act.put, List.setIfInBounds_toArray, List.set_cons_zero, List.set_cons_succ]
    refine wpAnyH_takeL (i := 3) (v := ?vhy111) rfl (by kernel_rfl) (by kernel_rfl) (by kernel_rfl) (fun _ _ _ h => h) (Or.inl ⟨by rfl, ?hy111⟩) (by assumption) ?rhy111
    case hy111 => ((intro w hSw; (try dsimp only at hSw); go_simp); try with_reducible rfl)
    try simp only [Act.put, List.setIfInBounds_toArray, List.set_cons_zero, List.set_cons_succ]
    refine wpAnyH_takeL (i := 4) (v := ?vhy112) rfl (by kernel_rfl) (by kernel_rfl) (by kernel_rfl) (fun _ _ _ h => h) (Or.inl ⟨by rfl, ?hy112⟩) (by assumption) ?rhy112
    case hy112 => ((intro w hSw; (try dsimp only at hSw); go_simp); try with_reducible rfl)
    try simp only [Act.put, List.setIfInBounds_toArray, List.set_cons_zero, List.set_cons_succ]
    refine wpAnyH_ready (rs := [5]) (by kernel_rfl) (by simp) ?_
    refine AllReadyH.consL (i := 5) rfl (fun K hK => ?_) AllReadyH.nil
    go_simp
    refine (bare_any 1 i u s _).mono ?_
    rw [hbe]
    rintro e W2 ⟨rfl, hb2⟩
    replace hb2 := gr ((Below.refl _ W).drew) hb2
    have hlW := hvb.lt
    have hlB : w0.heap.size < W.heap.size := (Array.getElem?_eq_some_iff.1 hkb).1
    have hvb2 := hvb.below hb2 hlW
    have hkb2 : KBox W2 w0.heap.size (.func (.func 114) #[] #[]) (.func (.func 115) #[] #[]) := (hb2.block _ hlB).trans hkb
    refine hK.out _ _ ⟨hvb2.cells, hkb2.cells.1.1⟩ (fun hHeld => ?_)
    clear hK
    try simp only [Act.put, List.setIfInBounds_toArray, List.set_cons_zero, List.set_cons_succ]
    by_cases hq : i = i ∧ u = 0 ∧ s = ByteArray.empty
    · obtain ⟨q1, q2, q3⟩ := hq
      try subst q1
      try subst q2
      try subst q3
      have hne : ∀ w', (binOp .neq 28 (.agg #[.int .i64 1, .int .i64 i, .int .u64 0, .string ByteArray.empty]) (.agg #[.int .i64 1, .int .i64 i, .int .u64 0, .string ByteArray.empty])).run Tryz.prog w' = .ok (.bool false) w' := fun w' => by
        rw [neq_V]
        simp
      refine wpAnyH_takeL (i := 6) (v := ?vhy113) rfl (by kernel_rfl) (by kernel_rfl) (by kernel_rfl) (fun _ _ _ h => h) (Or.inl ⟨by rfl, ?hy113⟩) (by assumption) ?rhy113
      case hy113 => ((intro w hSw; (try dsimp only at hSw); go_simp); try with_reducible rfl)
      try simp only [Act.put, List.setIfInBounds_toArray, List.set_cons_zero, List.set_cons_succ]
      refine wpAnyH_takeL (i := 7) (v := ?vhy114) rfl (by kernel_rfl) (by kernel_rfl) (by kernel_rfl) (fun _ _ _ h => h) (Or.inl ⟨by rfl, ?hy114⟩) (by assumption) ?rhy114
      case hy114 => ((intro w hSw; (try dsimp only at hSw); go_simp); try with_reducible rfl)
      try simp only [Act.put, List.setIfInBounds_toArray, List.set_cons_zero, List.set_cons_succ]
      refine wpAnyH_takeL (i := 8) (v := ?vhy115) rfl (by kernel_rfl) (by kernel_rfl) (by kernel_rfl) (fun _ _ _ h => h) (Or.inl ⟨by rfl, ?hy115⟩) (by assumption) ?rhy115
      case hy115 => ((intro w hSw; (try dsimp only at hSw); go_simp); try with_reducible rfl)
      try simp only [Act.put, List.setIfInBounds_toArray, List.set_cons_zero, List.set_cons_succ]
      refine wpAnyH_takeL (i := 9) (v := ?vhy116) rfl (by kernel_rfl) (by kernel_rfl) (by kernel_rfl) (fun _ _ _ h => h) (Or.inl ⟨by rfl, ?hy116⟩) (by assumption) ?rhy116
      case hy116 => ((intro w hSw; (try dsimp only at hSw); go_simp); try with_reducible rfl)
      try simp only [Act.put, List.setIfInBounds_toArray, List.set_cons_zero, List.set_cons_succ]
      refine wpAnyH_takeL (i := 10) (v := ?vhy117) rfl (by kernel_rfl) (by kernel_rfl) (by kernel_rfl) (fun _ _ _ h => h) (Or.inl ⟨by rfl, ?hy117⟩) (by assumption) ?rhy117
      case hy117 => ((intro w hSw; (try dsimp only at hSw); go_simp); try with_reducible rfl)
      try simp only [Act.put, List.setIfInBounds_toArray, List.set_cons_zero, List.set_cons_succ]
      refine wpAnyH_takeL (i := 11) (v := ?vhy118) rfl (by kernel_rfl) (by kernel_rfl) (by kernel_rfl) (fun _ _ _ h => h) (Or.inl ⟨by rfl, ?hy118⟩) (by assumption) ?rhy118
      case hy118 => ((intro w hSw; (try dsimp only at hSw); go_simp); try with_reducible rfl)
      try simp only [Act.put, List.setIfInBounds_toArray, List.set_cons_zero, List.set_cons_succ]
      refine wpAnyH_ready (rs := [12]) (by kernel_rfl) (by simp) ?_
      refine AllReadyH.consL (i := 12) rfl (fun K hK => ?_) AllReadyH.nil
      go_simp
      refine (may_int 1 i 0 ByteArray.empty _).mono ?_
      rintro e W3 ⟨rfl, hb3⟩
      try simp only [hdi]
      have hb23 := gr hb2 hb3
      have hvb3 := hvb.below hb23 hlW
      have hkb3 : KBox W3 w0.heap.size (.func (.func 114) #[] #[]) (.func (.func 115) #[] #[]) := (hb23.block _ hlB).trans hkb
      refine hK.out _ _ ⟨hvb3.cells, hkb3.cells.1.1⟩ (fun hHeld => ?_)
      clear hK
      try simp only [Act.put, List.setIfInBounds_toArray, List.set_cons_zero, List.set_cons_succ]
      refine wpAnyH_takeL (i := 13) (v := ?vhy119) rfl (by kernel_rfl) (by kernel_rfl) (by kernel_rfl) (fun _ _ _ h => h) (Or.inl ⟨by rfl, ?hy119⟩) (by assumption) ?rhy119
      case hy119 => ((intro w hSw; (try dsimp only at hSw); go_simp); try with_reducible rfl)
      try simp only [Act.put, List.setIfInBounds_toArray, List.set_cons_zero, List.set_cons_succ]
      refine wpAnyH_takeL (i := 14) (v := ?vhy120) rfl (by kernel_rfl) (by kernel_rfl) (by kernel_rfl) (fun _ _ _ h => h) (Or.inl ⟨by rfl, ?hy120⟩) (by assumption) ?rhy120
      case hy120 => ((intro w hSw; (try dsimp only at hSw); go_simp); try with_reducible rfl)
      try simp only [Act.put, List.setIfInBounds_toArray, List.set_cons_zero, List.set_cons_succ]
      refine wpAnyH_takeL (i := 15) (v := ?vhy121) rfl (by kernel_rfl) (by kernel_rfl) (by kernel_rfl) (fun _ _ _ h => h) (Or.inl ⟨by rfl, ?hy121⟩) (by assumption) ?rhy121
      case hy121 => ((intro w hSw; (try dsimp only at hSw); go_simp); try with_reducible rfl)
      try simp only [Act.put, List.setIfInBounds_toArray, List.set_cons_zero, List.set_cons_succ]
      refine wpAnyH_done (by kernel_rfl) ?_ _
      refine NoPanic.normal ?_
      have hfin := gr hb0 hb23
      have hc3 := hvb3.cells
      clear hkb3 hHeld hkb2 hvb2 hb2 hb3 hvb hvc hkc hkb hsf hsg
      go_wp2_with fail
      go_ret
      exact ⟨by first | rfl | simp [chkV, okV], hfin⟩
    · have hno := chk1_no hq
      have hne : ∀ w', (binOp .neq 28 (.agg #[.int .i64 1, .int .i64 i, .int .u64 u, .string s]) (.agg #[.int .i64 1, .int .i64 i, .int .u64 0, .string ByteArray.empty])).run Tryz.prog w' = .ok (.bool true) w' := fun w' => by
        rw [neq_V, neq_true hq]
      refine wpAnyH_takeL (i := 6) (v := ?vhy122) rfl (by kernel_rfl) (by kernel_rfl) (by kernel_rfl) (fun _ _ _ h => h) (Or.inl ⟨by rfl, ?hy122⟩) (by assumption) ?rhy122
      case hy122 => ((intro w hSw; (try dsimp only at hSw); go_simp); try with_reducible rfl)
      try simp only [Act.put, List.setIfInBounds_toArray, List.set_cons_zero, List.set_cons_succ]
      refine wpAnyH_takeL (i := 7) (v := ?vhy123) rfl (by kernel_rfl) (by kernel_rfl) (by kernel_rfl) (fun _ _ _ h => h) (Or.inl ⟨by rfl, ?hy123⟩) (by assumption) ?rhy123
      case hy123 => ((intro w hSw; (try dsimp only at hSw); go_simp); try with_reducible rfl)
      try simp only [Act.put, List.setIfInBounds_toArray, List.set_cons_zero, List.set_cons_succ]
      refine wpAnyH_takeL (i := 8) (v := ?vhy124) rfl (by kernel_rfl) (by kernel_rfl) (by kernel_rfl) (fun _ _ _ h => h) (Or.inl ⟨by rfl, ?hy124⟩) (by assumption) ?rhy124
      case hy124 => ((intro w hSw; (try dsimp only at hSw); go_simp); try with_reducible rfl)
      try simp only [Act.put, List.setIfInBounds_toArray, List.set_cons_zero, List.set_cons_succ]
      refine wpAnyH_takeL (i := 9) (v := undef) rfl (by kernel_rfl) (by kernel_rfl) (by kernel_rfl) (fun _ _ _ h => h) (Or.inr ⟨by rfl, rfl⟩) (by assumption) ?_
      try simp only [Act.put, List.setIfInBounds_toArray, List.set_cons_zero, List.set_cons_succ]
      refine wpAnyH_takeL (i := 10) (v := undef) rfl (by kernel_rfl) (by kernel_rfl) (by kernel_rfl) (fun _ _ _ h => h) (Or.inr ⟨by rfl, rfl⟩) (by assumption) ?_
      try simp only [Act.put, List.setIfInBounds_toArray, List.set_cons_zero, List.set_cons_succ]
      refine wpAnyH_takeL (i := 11) (v := undef) rfl (by kernel_rfl) (by kernel_rfl) (by kernel_rfl) (fun _ _ _ h => h) (Or.inr ⟨by rfl, rfl⟩) (by assumption) ?_
      try simp only [Act.put, List.setIfInBounds_toArray, List.set_cons_zero, List.set_cons_succ]
      refine wpAnyH_takeL (i := 12) (v := undef) rfl (by kernel_rfl) (by kernel_rfl) (by kernel_rfl) (fun _ _ _ h => h) (Or.inr ⟨by rfl, rfl⟩) (by assumption) ?_
      try simp only [Act.put, List.setIfInBounds_toArray, List.set_cons_zero, List.set_cons_succ]
      refine wpAnyH_takeL (i := 13) (v := undef) rfl (by kernel_rfl) (by kernel_rfl) (by kernel_rfl) (fun _ _ _ h => h) (Or.inr ⟨by rfl, rfl⟩) (by assumption) ?_
      try simp only [Act.put, List.setIfInBounds_toArray, List.set_cons_zero, List.set_cons_succ]
      refine wpAnyH_takeL (i := 14) (v := ?vhy125) rfl (by kernel_rfl) (by kernel_rfl) (by kernel_rfl) (fun _ _ _ h => h) (Or.inl ⟨by rfl, ?hy125⟩) (by assumption) ?rhy125
      case hy125 => ((intro w hSw; (try dsimp only at hSw); go_simp); try with_reducible rfl)
      try simp only [Act.put, List.setIfInBounds_toArray, List.set_cons_zero, List.set_cons_succ]
      refine wpAnyH_takeL (i := 15) (v := ?vhy126) rfl (by kernel_rfl) (by kernel_rfl) (by kernel_rfl) (fun _ _ _ h => h) (Or.inl ⟨by rfl, ?hy126⟩) (by assumption) ?rhy126
      case hy126 => ((intro w hSw; (try dsimp only at hSw); go_simp); try with_reducible rfl)
      try simp only [Act.put, List.setIfInBounds_toArray, List.set_cons_zero, List.set_cons_succ]
      refine wpAnyH_done (by kernel_rfl) ?_ _
      refine NoPanic.normal ?_
      have hfin := gr hb0 hb2
      go_wp2
      go_ret
      exact ⟨by first | (rw [hno]; rfl) | rfl, hfin⟩
set_option maxRecDepth 100000 in
set_option maxHeartbeats 2000000 in
theorem Check_2 (i u : Int) (s : ByteArray) (w : World) (hs : s.size ≤ maxLen) : Calls Tryz.prog 55 #[.agg #[.int .i64 2, .int .i64 i, .int .u64 u, .string s]] w fun e w' => e = .returned (.int .i64 (chkV 2 i u s : Int)) ∧ Below w.heap.size w w' := by
  have hlk : ∀ w' r, IMap w' r .i64 VKinds → (Instr.lookup 142 (.map (some r)) (.int .i64 2) true).run Tryz.prog w' = .ok (.tuple #[.agg #[.func (.func 116) #[] #[], .func (.func 117) #[] #[]], .bool true]) w' := fun w' r hm =>
    hm.look _ _ _ Tryz.underlying142 Tryz.underlying25 2 2 _ rfl
  have hsf := fun (a : Addr) (w : World) (m : Mode) => (run_store Tryz.prog w a (.func (.func 116) #[] #[]) m rfl : _ = stored Tryz.prog w a (.func (.func 116) #[] #[]) m)
  have hsg := fun (a : Addr) (w : World) (m : Mode) => (run_store Tryz.prog w a (.func (.func 117) #[] #[]) m rfl : _ = stored Tryz.prog w a (.func (.func 117) #[] #[]) m)
  have hbox := VBox.new w 2 i u s
  have hb0 : Below w.heap.size w (w.alloc (.cells #[.int .i64 2, .int .i64 i, .int .u64 u, .string s] 28)) := (Below.refl _ w).alloc (Nat.le_refl _) _
  go_enter Tryz.func55, Tryz.ntmps55
  go_wp2_with fail
  generalize (w.alloc (.cells #[.int .i64 2, .int .i64 i, .int .u64 u, .string s] 28)) = w0 at *
  have hlt : w.heap.size < w0.heap.size := hbox.lt
  refine wp_region_noPanic ?_
  refine wp_region_held_drew (S := fun w' => w'.cell? ⟨w.heap.size, 0, none⟩ = some (.int .i64 2)) (by kernel_rfl) (VBox.cells (W := w0.drew) hbox).1 (fun hHeld => ?_)
  refine wpAnyH_takeL (i := 1) (v := ?vhy127) rfl (by kernel_rfl) (by kernel_rfl) (by kernel_rfl) (fun _ _ _ h => h) (Or.inl ⟨by rfl, ?hy127⟩) (by assumption) ?rhy127
  case hy127 => ((intro w hSw; (try dsimp only at hSw); go_simp); try with_reducible rfl)
  try simp only [Act.put, List.setIfInBounds_toArray, List.set_cons_zero, List.set_cons_succ]
  refine wpAnyH_takeL (i := 2) (v := ?vhy128) rfl (by kernel_rfl) (by kernel_rfl) (by kernel_rfl) (fun _ _ _ h => h) (Or.inl ⟨by rfl, ?hy128⟩) (by assumption) ?rhy128
  case hy128 => ((intro w hSw; (try dsimp only at hSw); go_simp); try with_reducible rfl)
  try simp only [Act.put, List.setIfInBounds_toArray, List.set_cons_zero, List.set_cons_succ]
  refine wpAnyH_ready (rs := [0, 7]) (by kernel_rfl) (by simp) ?_
  refine AllReadyH.consL (i := 0) rfl (fun K hK => ?_) (AllReadyH.consL (i := 7) rfl (fun K hK => ?_) AllReadyH.nil)
  · go_simp
    refine (vkinds_any _).mono ?_
    rintro e w1 ⟨r, rfl, hm, hb1, hr1⟩
    replace hb1 := gr ((Below.refl _ w0).drew) hb1
    refine hK.out _ _ (hbox.below hb1 hlt).cells.1 (fun hHeld => ?_)
    clear hK hHeld
    refine wpAnyH_more (S' := fun w' => IMap w' r .i64 VKinds ∧ Below w0.heap.size w0 w') (fun w' h => (hbox.below h.2 hlt).cells.1) ?_
    have hHeld : IMap w1 r .i64 VKinds ∧ Below w0.heap.size w0 w1 := ⟨hm, hb1⟩
    try simp only [Act.put, List.setIfInBounds_toArray, List.set_cons_zero, List.set_cons_succ]
    refine wpAnyH_takeL (i := 3) (v := ?vhy129) rfl (by kernel_rfl) (by kernel_rfl) (by kernel_rfl) (fun _ _ _ h => h) (Or.inl ⟨by rfl, ?hy129⟩) (by assumption) ?rhy129
    case hy129 => ((intro w hSw; (try dsimp only at hSw); go_simp); try with_reducible rfl)
    try simp only [Act.put, List.setIfInBounds_toArray, List.set_cons_zero, List.set_cons_succ]
    refine wpAnyH_takeL (i := 4) (v := ?vhy130) rfl (by kernel_rfl) (by kernel_rfl) (by kernel_rfl) (fun _ _ _ h => h) (Or.inl ⟨by rfl, ?hy130⟩) (by assumption) ?rhy130
    case hy130 => ((intro w hSw; (try dsimp only at hSw); go_simp); try with_reducible rfl)
    try simp only [Act.put, List.setIfInBounds_toArray, List.set_cons_zero, List.set_cons_succ]
    refine wpAnyH_takeL (i := 5) (v := ?vhy131) rfl (by kernel_rfl) (by kernel_rfl) (by kernel_rfl) (fun _ _ _ h => h) (Or.inl ⟨by rfl, ?hy131⟩) (by assumption) ?rhy131
    case hy131 => ((intro w hSw; (try dsimp only at hSw); go_simp); try with_reducible rfl)
    try simp only [Act.put, List.setIfInBounds_toArray, List.set_cons_zero, List.set_cons_succ]
    refine wpAnyH_takeL (i := 6) (v := ?vhy132) rfl (by kernel_rfl) (by kernel_rfl) (by kernel_rfl) (fun _ _ _ h => h) (Or.inl ⟨by rfl, ?hy132⟩) (by assumption) ?rhy132
    case hy132 => ((intro w hSw; (try dsimp only at hSw); go_simp); try with_reducible rfl)
    try simp only [Act.put, List.setIfInBounds_toArray, List.set_cons_zero, List.set_cons_succ]
    refine wpAnyH_ready (rs := [7]) (by kernel_rfl) (by simp) ?_
    refine AllReadyH.consL (i := 7) rfl (fun K hK => ?_) AllReadyH.nil
    go_simp
    have hs2 := (Below.refl w1.heap.size w1).alloc (Nat.le_refl _) (.cells #[.nilFunc, .nilFunc] 140)
    refine hK.out _ _ ⟨hm.below hs2, gr hb1 hs2⟩ (fun hHeld => ?_)
    clear hK
    try simp only [Act.put, List.setIfInBounds_toArray, List.set_cons_zero, List.set_cons_succ]
    refine wpAnyH_ready (rs := [8]) (by kernel_rfl) (by simp) ?_
    refine AllReadyH.consL (i := 8) rfl (fun K hK => ?_) AllReadyH.nil
    go_simp
    have hs3 := (Below.refl w1.heap.size w1).alloc (Nat.le_refl _) (.cells #[(.func (.func 116) #[] #[]), (.func (.func 117) #[] #[])] 140)
    have hkb : KBox (w1.alloc (.cells #[(.func (.func 116) #[] #[]), (.func (.func 117) #[] #[])] 140)) w1.heap.size (.func (.func 116) #[] #[]) (.func (.func 117) #[] #[]) := World.alloc_heap_new w1 _
    refine hK.out _ _ ⟨hm.below hs3, gr hb1 hs3⟩ (fun hHeld => ?_)
    clear hK
    replace hb1 := gr hb1 hs3
    generalize (w1.alloc (.cells #[(.func (.func 116) #[] #[]), (.func (.func 117) #[] #[])] 140)) = W at *
    try simp only [Act.put, List.setIfInBounds_toArray, List.set_cons_zero, List.set_cons_succ]
    refine wpAnyH_takeL (i := 9) (v := ?vhy133) rfl (by kernel_rfl) (by kernel_rfl) (by kernel_rfl) (fun _ _ _ h => h) (Or.inl ⟨by rfl, ?hy133⟩) (by assumption) ?rhy133
    case hy133 => ((intro w hSw; (try dsimp only at hSw); go_simp); try with_reducible rfl)
    try simp only [Act.put, List.setIfInBounds_toArray, List.set_cons_zero, List.set_cons_succ]
    refine wpAnyH_done (by kernel_rfl) ?_ _
    refine NoPanic.normal ?_
    clear hHeld hm hlk
    have hvb := hbox.below hb1 hlt
    replace hb0 := gr hb0 hb1
    clear hb1 hbox
    go_wp2_with fail
    have hkc := hkb.cells.1.1
    have hvc := hvb.cells
    have hbe : bareV 2 i u s = .agg #[.int .i64 2, .int .i64 0, .int .u64 u, .string ByteArray.empty] := by simp [bareV, valV]
    refine wp_region_noPanic ?_
    refine wp_region_held_drew (S := fun w' => (w'.cell? ⟨w.heap.size, 0, none⟩ = some (.int .i64 2) ∧ w'.cell? ⟨w.heap.size, 1, none⟩ = some (.int .i64 i) ∧ w'.cell? ⟨w.heap.size, 2, none⟩ = some (.int .u64 u) ∧ w'.cell? ⟨w.heap.size, 3, none⟩ = some (.string s)) ∧ w'.cell? ⟨w1.heap.size, 0, none⟩ = some (.func (.func 116) #[] #[])) (by kernel_rfl) ⟨hvc, hkc⟩ (fun hHeld => ?_)
    refine wpAnyH_takeL (i := 0) (v := ?vhy134) rfl (by kernel_rfl) (by kernel_rfl) (by kernel_rfl) (fun _ _ _ h => h) (Or.inl ⟨by rfl, ?hy134⟩) (by assumption) ?rhy134
    case hy134 => ((intro w hSw; (try dsimp only at hSw); go_simp); try with_reducible rfl)
    try simp only [Act.put, List.setIfInBounds_toArray, List.set_cons_zero, List.set_cons_succ]
    refine wpAnyH_takeL (i := 1) (v := ?vhy135) rfl (by kernel_rfl) (by kernel_rfl) (by kernel_rfl) (fun _ _ _ h => h) (Or.inl ⟨by rfl, ?hy135⟩) (by assumption) ?rhy135
    case hy135 => ((intro w hSw; (try dsimp only at hSw); go_simp); try with_reducible rfl)
    try simp only [Act.put, List.setIfInBounds_toArray, List.set_cons_zero, List.set_cons_succ]
    refine wpAnyH_takeL (i := 2) (v := ?vhy136) rfl (by kernel_rfl) (by kernel_rfl) (by kernel_rfl) (fun _ _ _ h => h) (Or.inl ⟨by rfl, ?hy136⟩) (by assumption) ?rhy136
    case hy136 => ((intro w hSw; (try dsimp only at hSw); go_simp); try with_reducible rfl)
    try simp only [Act.put, List.setIfInBounds_toArray, List.set_cons_zero, List.set_cons_succ]
    refine wpAnyH_takeL (i := 3) (v := ?vhy137) rfl (by kernel_rfl) (by kernel_rfl) (by kernel_rfl) (fun _ _ _ h => h) (Or.inl ⟨by rfl, ?hy137⟩) (by assumption) ?rhy137
    case hy137 => ((intro w hSw; (try dsimp only at hSw); go_simp); try with_reducible rfl)
    try simp only [Act.put, List.setIfInBounds_toArray, List.set_cons_zero, List.set_cons_succ]
    refine wpAnyH_takeL (i := 4) (v := ?vhy138) rfl (by kernel_rfl) (by kernel_rfl) (by kernel_rfl) (fun _ _ _ h => h) (Or.inl ⟨by rfl, ?hy138⟩) (by assumption) ?rhy138
    case hy138 => ((intro w hSw; (try dsimp only at hSw); go_simp); try with_reducible rfl)
    try simp only [Act.put, List.setIfInBounds_toArray, List.set_cons_zero, List.set_cons_succ]
    refine wpAnyH_ready (rs := [5]) (by kernel_rfl) (by simp) ?_
    refine AllReadyH.consL (i := 5) rfl (fun K hK => ?_) AllReadyH.nil
    go_simp
    refine (bare_any 2 i u s _).mono ?_
    rw [hbe]
    rintro e W2 ⟨rfl, hb2⟩
    replace hb2 := gr ((Below.refl _ W).drew) hb2
    have hlW := hvb.lt
    have hlB : w1.heap.size < W.heap.size := (Array.getElem?_eq_some_iff.1 hkb).1
    have hvb2 := hvb.below hb2 hlW
    have hkb2 : KBox W2 w1.heap.size (.func (.func 116) #[] #[]) (.func (.func 117) #[] #[]) := (hb2.block _ hlB).trans hkb
    refine hK.out _ _ ⟨hvb2.cells, hkb2.cells.1.1⟩ (fun hHeld => ?_)
    clear hK
    try simp only [Act.put, List.setIfInBounds_toArray, List.set_cons_zero, List.set_cons_succ]
    by_cases hq : i = 0 ∧ u = u ∧ s = ByteArray.empty
    · obtain ⟨q1, q2, q3⟩ := hq
      try subst q1
      try subst q2
      try subst q3
      have hne : ∀ w', (binOp .neq 28 (.agg #[.int .i64 2, .int .i64 0, .int .u64 u, .string ByteArray.empty]) (.agg #[.int .i64 2, .int .i64 0, .int .u64 u, .string ByteArray.empty])).run Tryz.prog w' = .ok (.bool false) w' := fun w' => by
        rw [neq_V]
        simp
      refine wpAnyH_takeL (i := 6) (v := ?vhy139) rfl (by kernel_rfl) (by kernel_rfl) (by kernel_rfl) (fun _ _ _ h => h) (Or.inl ⟨by rfl, ?hy139⟩) (by assumption) ?rhy139
      case hy139 => ((intro w hSw; (try dsimp only at hSw); go_simp); try with_reducible rfl)
      try simp only [Act.put, List.setIfInBounds_toArray, List.set_cons_zero, List.set_cons_succ]
      refine wpAnyH_takeL (i := 7) (v := ?vhy140) rfl (by kernel_rfl) (by kernel_rfl) (by kernel_rfl) (fun _ _ _ h => h) (Or.inl ⟨by rfl, ?hy140⟩) (by assumption) ?rhy140
      case hy140 => ((intro w hSw; (try dsimp only at hSw); go_simp); try with_reducible rfl)
      try simp only [Act.put, List.setIfInBounds_toArray, List.set_cons_zero, List.set_cons_succ]
      refine wpAnyH_takeL (i := 8) (v := ?vhy141) rfl (by kernel_rfl) (by kernel_rfl) (by kernel_rfl) (fun _ _ _ h => h) (Or.inl ⟨by rfl, ?hy141⟩) (by assumption) ?rhy141
      case hy141 => ((intro w hSw; (try dsimp only at hSw); go_simp); try with_reducible rfl)
      try simp only [Act.put, List.setIfInBounds_toArray, List.set_cons_zero, List.set_cons_succ]
      refine wpAnyH_takeL (i := 9) (v := ?vhy142) rfl (by kernel_rfl) (by kernel_rfl) (by kernel_rfl) (fun _ _ _ h => h) (Or.inl ⟨by rfl, ?hy142⟩) (by assumption) ?rhy142
      case hy142 => ((intro w hSw; (try dsimp only at hSw); go_simp); try with_reducible rfl)
      try simp only [Act.put, List.setIfInBounds_toArray, List.set_cons_zero, List.set_cons_succ]
      refine wpAnyH_takeL (i := 10) (v := ?vhy143) rfl (by kernel_rfl) (by kernel_rfl) (by kernel_rfl) (fun _ _ _ h => h) (Or.inl ⟨by rfl, ?hy143⟩) (by assumption) ?rhy143
      case hy143 => ((intro w hSw; (try dsimp only at hSw); go_simp); try with_reducible rfl)
      try simp only [Act.put, List.setIfInBounds_toArray, List.set_cons_zero, List.set_cons_succ]
      refine wpAnyH_takeL (i := 11) (v := ?vhy144) rfl (by kernel_rfl) (by kernel_rfl) (by kernel_rfl) (fun _ _ _ h => h) (Or.inl ⟨by rfl, ?hy144⟩) (by assumption) ?rhy144
      case hy144 => ((intro w hSw; (try dsimp only at hSw); go_simp); try with_reducible rfl)
      try simp only [Act.put, List.setIfInBounds_toArray, List.set_cons_zero, List.set_cons_succ]
      refine wpAnyH_ready (rs := [12]) (by kernel_rfl) (by simp) ?_
      refine AllReadyH.consL (i := 12) rfl (fun K hK => ?_) AllReadyH.nil
      go_simp
      refine (may_uint 2 0 u ByteArray.empty _).mono ?_
      rintro e W3 ⟨rfl, hb3⟩
      try simp only [hdi]
      have hb23 := gr hb2 hb3
      have hvb3 := hvb.below hb23 hlW
      have hkb3 : KBox W3 w1.heap.size (.func (.func 116) #[] #[]) (.func (.func 117) #[] #[]) := (hb23.block _ hlB).trans hkb
      refine hK.out _ _ ⟨hvb3.cells, hkb3.cells.1.1⟩ (fun hHeld => ?_)
      clear hK
      try simp only [Act.put, List.setIfInBounds_toArray, List.set_cons_zero, List.set_cons_succ]
      refine wpAnyH_takeL (i := 13) (v := ?vhy145) rfl (by kernel_rfl) (by kernel_rfl) (by kernel_rfl) (fun _ _ _ h => h) (Or.inl ⟨by rfl, ?hy145⟩) (by assumption) ?rhy145
      case hy145 => ((intro w hSw; (try dsimp only at hSw); go_simp); try with_reducible rfl)
      try simp only [Act.put, List.setIfInBounds_toArray, List.set_cons_zero, List.set_cons_succ]
      refine wpAnyH_takeL (i := 14) (v := ?vhy146) rfl (by kernel_rfl) (by kernel_rfl) (by kernel_rfl) (fun _ _ _ h => h) (Or.inl ⟨by rfl, ?hy146⟩) (by assumption) ?rhy146
      case hy146 => ((intro w hSw; (try dsimp only at hSw); go_simp); try with_reducible rfl)
      try simp only [Act.put, List.setIfInBounds_toArray, List.set_cons_zero, List.set_cons_succ]
      refine wpAnyH_takeL (i := 15) (v := ?vhy147) rfl (by kernel_rfl) (by kernel_rfl) (by kernel_rfl) (fun _ _ _ h => h) (Or.inl ⟨by rfl, ?hy147⟩) (by assumption) ?rhy147
      case hy147 => ((intro w hSw; (try dsimp only at hSw); go_simp); try with_reducible rfl)
      try simp only [Act.put, List.setIfInBounds_toArray, List.set_cons_zero, List.set_cons_succ]
      refine wpAnyH_done (by kernel_rfl) ?_ _
      refine NoPanic.normal ?_
      have hfin := gr hb0 hb23
      have hc3 := hvb3.cells
      clear hkb3 hHeld hkb2 hvb2 hb2 hb3 hvb hvc hkc hkb hsf hsg
      go_wp2_with fail
      go_ret
      exact ⟨by first | rfl | simp [chkV, okV], hfin⟩
    · have hno := chk2_no hq
      have hne : ∀ w', (binOp .neq 28 (.agg #[.int .i64 2, .int .i64 i, .int .u64 u, .string s]) (.agg #[.int .i64 2, .int .i64 0, .int .u64 u, .string ByteArray.empty])).run Tryz.prog w' = .ok (.bool true) w' := fun w' => by
        rw [neq_V, neq_true hq]
      refine wpAnyH_takeL (i := 6) (v := ?vhy148) rfl (by kernel_rfl) (by kernel_rfl) (by kernel_rfl) (fun _ _ _ h => h) (Or.inl ⟨by rfl, ?hy148⟩) (by assumption) ?rhy148
      case hy148 => ((intro w hSw; (try dsimp only at hSw); go_simp); try with_reducible rfl)
      try simp only [Act.put, List.setIfInBounds_toArray, List.set_cons_zero, List.set_cons_succ]
      refine wpAnyH_takeL (i := 7) (v := ?vhy149) rfl (by kernel_rfl) (by kernel_rfl) (by kernel_rfl) (fun _ _ _ h => h) (Or.inl ⟨by rfl, ?hy149⟩) (by assumption) ?rhy149
      case hy149 => ((intro w hSw; (try dsimp only at hSw); go_simp); try with_reducible rfl)
      try simp only [Act.put, List.setIfInBounds_toArray, List.set_cons_zero, List.set_cons_succ]
      refine wpAnyH_takeL (i := 8) (v := ?vhy150) rfl (by kernel_rfl) (by kernel_rfl) (by kernel_rfl) (fun _ _ _ h => h) (Or.inl ⟨by rfl, ?hy150⟩) (by assumption) ?rhy150
      case hy150 => ((intro w hSw; (try dsimp only at hSw); go_simp); try with_reducible rfl)
      try simp only [Act.put, List.setIfInBounds_toArray, List.set_cons_zero, List.set_cons_succ]
      refine wpAnyH_takeL (i := 9) (v := undef) rfl (by kernel_rfl) (by kernel_rfl) (by kernel_rfl) (fun _ _ _ h => h) (Or.inr ⟨by rfl, rfl⟩) (by assumption) ?_
      try simp only [Act.put, List.setIfInBounds_toArray, List.set_cons_zero, List.set_cons_succ]
      refine wpAnyH_takeL (i := 10) (v := undef) rfl (by kernel_rfl) (by kernel_rfl) (by kernel_rfl) (fun _ _ _ h => h) (Or.inr ⟨by rfl, rfl⟩) (by assumption) ?_
      try simp only [Act.put, List.setIfInBounds_toArray, List.set_cons_zero, List.set_cons_succ]
      refine wpAnyH_takeL (i := 11) (v := undef) rfl (by kernel_rfl) (by kernel_rfl) (by kernel_rfl) (fun _ _ _ h => h) (Or.inr ⟨by rfl, rfl⟩) (by assumption) ?_
      try simp only [Act.put, List.setIfInBounds_toArray, List.set_cons_zero, List.set_cons_succ]
      refine wpAnyH_takeL (i := 12) (v := undef) rfl (by kernel_rfl) (by kernel_rfl) (by kernel_rfl) (fun _ _ _ h => h) (Or.inr ⟨by rfl, rfl⟩) (by assumption) ?_
      try simp only [Act.put, List.setIfInBounds_toArray, List.set_cons_zero, List.set_cons_succ]
      refine wpAnyH_takeL (i := 13) (v := undef) rfl (by kernel_rfl) (by kernel_rfl) (by kernel_rfl) (fun _ _ _ h => h) (Or.inr ⟨by rfl, rfl⟩) (by assumption) ?_
      try simp only [Act.put, List.setIfInBounds_toArray, List.set_cons_zero, List.set_cons_succ]
      refine wpAnyH_takeL (i := 14) (v := ?vhy151) rfl (by kernel_rfl) (by kernel_rfl) (by kernel_rfl) (fun _ _ _ h => h) (Or.inl ⟨by rfl, ?hy151⟩) (by assumption) ?rhy151
      case hy151 => ((intro w hSw; (try dsimp only at hSw); go_simp); try with_reducible rfl)
      try simp only [Act.put, List.setIfInBounds_toArray, List.set_cons_zero, List.set_cons_succ]
      refine wpAnyH_takeL (i := 15) (v := ?vhy152) rfl (by kernel_rfl) (by kernel_rfl) (by kernel_rfl) (fun _ _ _ h => h) (Or.inl ⟨by rfl, ?hy152⟩) (by assumption) ?rhy152
      case hy152 => ((intro w hSw; (try dsimp only at hSw); go_simp); try with_reducible rfl)
      try simp only [Act.put, List.setIfInBounds_toArray, List.set_cons_zero, List.set_cons_succ]
      refine wpAnyH_done (by kernel_rfl) ?_ _
      refine NoPanic.normal ?_
      have hfin := gr hb0 hb2
      go_wp2
      go_ret
      exact ⟨by first | (rw [hno]; rfl) | rfl, hfin⟩
  · go_simp
    have hs2 := (Below.refl w0.heap.size w0).alloc (Nat.le_refl _) (.cells #[.nilFunc, .nilFunc] 140)
    have hkn : KBox (w0.alloc (.cells #[.nilFunc, .nilFunc] 140)) w0.heap.size .nilFunc .nilFunc := World.alloc_heap_new w0 _
    have hln : w0.heap.size < (w0.alloc (.cells #[.nilFunc, .nilFunc] 140)).heap.size := by simp
    refine hK.out _ _ (VBox.cells (W := (w0.alloc (.cells #[.nilFunc, .nilFunc] 140)).drew) (hbox.below hs2.drew hlt)).1 (fun hHeld => ?_)
    clear hK
    try simp only [Act.put, List.setIfInBounds_toArray, List.set_cons_zero, List.set_cons_succ]
    refine wpAnyH_ready (rs := [0]) (by kernel_rfl) (by simp) ?_
    refine AllReadyH.consL (i := 0) rfl (fun K hK => ?_) AllReadyH.nil
    go_simp
    refine (vkinds_any _).mono ?_
    rintro e w1 ⟨r, rfl, hm, hb1, hr1⟩
    replace hr1 : w0.heap.size < r := Nat.lt_of_lt_of_le hln hr1
    replace hkn : KBox w1 w0.heap.size .nilFunc .nilFunc := (hb1.block _ hln).trans hkn
    replace hb1 := gr hs2.drew hb1
    refine hK.out _ _ (hbox.below hb1 hlt).cells.1 (fun hHeld => ?_)
    clear hK hHeld
    refine wpAnyH_more (S' := fun w' => IMap w' r .i64 VKinds ∧ Below w0.heap.size w0 w') (fun w' h => (hbox.below h.2 hlt).cells.1) ?_
    have hHeld : IMap w1 r .i64 VKinds ∧ Below w0.heap.size w0 w1 := ⟨hm, hb1⟩
    try simp only [Act.put, List.setIfInBounds_toArray, List.set_cons_zero, List.set_cons_succ]
    refine wpAnyH_takeL (i := 3) (v := ?vhy153) rfl (by kernel_rfl) (by kernel_rfl) (by kernel_rfl) (fun _ _ _ h => h) (Or.inl ⟨by rfl, ?hy153⟩) (by assumption) ?rhy153
    case hy153 => ((intro w hSw; (try dsimp only at hSw); go_simp); try with_reducible rfl)
    try simp only [Act.put, List.setIfInBounds_toArray, List.set_cons_zero, List.set_cons_succ]
    refine wpAnyH_takeL (i := 4) (v := ?vhy154) rfl (by kernel_rfl) (by kernel_rfl) (by kernel_rfl) (fun _ _ _ h => h) (Or.inl ⟨by rfl, ?hy154⟩) (by assumption) ?rhy154
    case hy154 => ((intro w hSw; (try dsimp only at hSw); go_simp); try with_reducible rfl)
    try simp only [Act.put, List.setIfInBounds_toArray, List.set_cons_zero, List.set_cons_succ]
    refine wpAnyH_takeL (i := 5) (v := ?vhy155) rfl (by kernel_rfl) (by kernel_rfl) (by kernel_rfl) (fun _ _ _ h => h) (Or.inl ⟨by rfl, ?hy155⟩) (by assumption) ?rhy155
    case hy155 => ((intro w hSw; (try dsimp only at hSw); go_simp); try with_reducible rfl)
    try simp only [Act.put, List.setIfInBounds_toArray, List.set_cons_zero, List.set_cons_succ]
    refine wpAnyH_takeL (i := 6) (v := ?vhy156) rfl (by kernel_rfl) (by kernel_rfl) (by kernel_rfl) (fun _ _ _ h => h) (Or.inl ⟨by rfl, ?hy156⟩) (by assumption) ?rhy156
    case hy156 => ((intro w hSw; (try dsimp only at hSw); go_simp); try with_reducible rfl)
    try simp only [Act.put, List.setIfInBounds_toArray, List.set_cons_zero, List.set_cons_succ]
    have hkc := hkn.cells
    refine wpAnyH_ready (rs := [8]) (by kernel_rfl) (by simp) ?_
    refine AllReadyH.consL (i := 8) rfl (fun K hK => ?_) AllReadyH.nil
    go_simp
    have hkb := hkn.set (.func (.func 116) #[] #[]) (.func (.func 117) #[] #[])
    have hg1' := (grownBy_setCell_at w1 ⟨w0.heap.size, 0, none⟩ (.func (.func 116) #[] #[]))
    have hg2' := (grownBy_setCell_at (w1.setCell ⟨w0.heap.size, 0, none⟩ (.func (.func 116) #[] #[])) ⟨w0.heap.size, 1, none⟩ (.func (.func 117) #[] #[]))
    have hm2 := (hm.kept hg1' (by simp; omega)).kept hg2' (by simp; omega)
    have hb2 := (hb1.setCell (p := ⟨w0.heap.size, 0, none⟩) (Nat.le_refl _) (.func (.func 116) #[] #[])).setCell (p := ⟨w0.heap.size, 1, none⟩) (Nat.le_refl _) (.func (.func 117) #[] #[])
    refine hK.out _ _ ⟨hm2, hb2⟩ (fun hHeld => ?_)
    clear hK hg1' hg2' hm2 hkc hkn
    replace hb1 := hb2
    clear hb2
    generalize ((w1.setCell ⟨w0.heap.size, 0, none⟩ (.func (.func 116) #[] #[])).setCell ⟨w0.heap.size, 1, none⟩ (.func (.func 117) #[] #[])) = W at *
    try simp only [Act.put, List.setIfInBounds_toArray, List.set_cons_zero, List.set_cons_succ]
    refine wpAnyH_takeL (i := 9) (v := ?vhy157) rfl (by kernel_rfl) (by kernel_rfl) (by kernel_rfl) (fun _ _ _ h => h) (Or.inl ⟨by rfl, ?hy157⟩) (by assumption) ?rhy157
    case hy157 => ((intro w hSw; (try dsimp only at hSw); go_simp); try with_reducible rfl)
    try simp only [Act.put, List.setIfInBounds_toArray, List.set_cons_zero, List.set_cons_succ]
    refine wpAnyH_done (by kernel_rfl) ?_ _
    refine NoPanic.normal ?_
    clear hHeld hm hlk
    have hvb := hbox.below hb1 hlt
    replace hb0 := gr hb0 hb1
    clear hb1 hbox
    go_wp2_with fail
    have hkc := hkb.cells.1.1
    have hvc := hvb.cells
    have hbe : bareV 2 i u s = .agg #[.int .i64 2, .int .i64 0, .int .u64 u, .string ByteArray.empty] := by simp [bareV, valV]
    refine wp_region_noPanic ?_
    refine wp_region_held_drew (S := fun w' => (w'.cell? ⟨w.heap.size, 0, none⟩ = some (.int .i64 2) ∧ w'.cell? ⟨w.heap.size, 1, none⟩ = some (.int .i64 i) ∧ w'.cell? ⟨w.heap.size, 2, none⟩ = some (.int .u64 u) ∧ w'.cell? ⟨w.heap.size, 3, none⟩ = some (.string s)) ∧ w'.cell? ⟨w0.heap.size, 0, none⟩ = some (.func (.func 116) #[] #[])) (by kernel_rfl) ⟨hvc, hkc⟩ (fun hHeld => ?_)
    refine wpAnyH_takeL (i := 0) (v := ?vhy158) rfl (by kernel_rfl) (by kernel_rfl) (by kernel_rfl) (fun _ _ _ h => h) (Or.inl ⟨by rfl, ?hy158⟩) (by assumption) ?rhy158
    case hy158 => ((intro w hSw; (try dsimp only at hSw); go_simp); try with_reducible rfl)
    try simp only [Act.put, List.setIfInBounds_toArray, List.set_cons_zero, List.set_cons_succ]
    refine wpAnyH_takeL (i := 1) (v := ?vhy159) rfl (by kernel_rfl) (by kernel_rfl) (by kernel_rfl) (fun _ _ _ h => h) (Or.inl ⟨by rfl, ?hy159⟩) (by assumption) ?rhy159
    case hy159 => ((intro w hSw; (try dsimp only at hSw); go_simp); try with_reducible rfl)
    try simp only [Act.put, List.setIfInBounds_toArray, List.set_cons_zero, List.set_cons_succ]
    refine wpAnyH_takeL (i := 2) (v := ?vhy160) rfl (by kernel_rfl) (by kernel_rfl) (by kernel_rfl) (fun _ _ _ h => h) (Or.inl ⟨by rfl, ?hy160⟩) (by assumption) ?rhy160
    case hy160 => ((intro w hSw; (try dsimp only at hSw); go_simp); try with_reducible rfl)
    try simp only [Act.put, List.setIfInBounds_toArray, List.set_cons_zero, List.set_cons_succ]
    refine wpAnyH_takeL (i := 3) (v := ?vhy161) rfl (by kernel_rfl) (by kernel_rfl) (by kernel_rfl) (fun _ _ _ h => h) (Or.inl ⟨by rfl, ?hy161⟩) (by assumption) ?rhy161
    case hy161 => ((intro w hSw; (try dsimp only at hSw); go_simp); try with_reducible rfl)
    try simp only [Act.put, List.setIfInBounds_toArray, List.set_cons_zero, List.set_cons_succ]
    refine wpAnyH_takeL (i := 4) (v := ?vhy162) rfl (by kernel_rfl) (by kernel_rfl) (by kernel_rfl) (fun _ _ _ h => h) (Or.inl ⟨by rfl, ?hy162⟩) (by assumption) ?rhy162
    case hy162 => ((intro w hSw; (try dsimp only at hSw); go_simp); try with_reducible rfl)
    try simp only [Act.put, List.setIfInBounds_toArray, List.set_cons_zero, List.set_cons_succ]
    refine wpAnyH_ready (rs := [5]) (by kernel_rfl) (by simp) ?_
    refine AllReadyH.consL (i := 5) rfl (fun K hK => ?_) AllReadyH.nil
    go_simp
    refine (bare_any 2 i u s _).mono ?_
    rw [hbe]
    rintro e W2 ⟨rfl, hb2⟩
    replace hb2 := gr ((Below.refl _ W).drew) hb2
    have hlW := hvb.lt
    have hlB : w0.heap.size < W.heap.size := (Array.getElem?_eq_some_iff.1 hkb).1
    have hvb2 := hvb.below hb2 hlW
    have hkb2 : KBox W2 w0.heap.size (.func (.func 116) #[] #[]) (.func (.func 117) #[] #[]) := (hb2.block _ hlB).trans hkb
    refine hK.out _ _ ⟨hvb2.cells, hkb2.cells.1.1⟩ (fun hHeld => ?_)
    clear hK
    try simp only [Act.put, List.setIfInBounds_toArray, List.set_cons_zero, List.set_cons_succ]
    by_cases hq : i = 0 ∧ u = u ∧ s = ByteArray.empty
    · obtain ⟨q1, q2, q3⟩ := hq
      try subst q1
      try subst q2
      try subst q3
      have hne : ∀ w', (binOp .neq 28 (.agg #[.int .i64 2, .int .i64 0, .int .u64 u, .string ByteArray.empty]) (.agg #[.int .i64 2, .int .i64 0, .int .u64 u, .string ByteArray.empty])).run Tryz.prog w' = .ok (.bool false) w' := fun w' => by
        rw [neq_V]
        simp
      refine wpAnyH_takeL (i := 6) (v := ?vhy163) rfl (by kernel_rfl) (by kernel_rfl) (by kernel_rfl) (fun _ _ _ h => h) (Or.inl ⟨by rfl, ?hy163⟩) (by assumption) ?rhy163
      case hy163 => ((intro w hSw; (try dsimp only at hSw); go_simp); try with_reducible rfl)
      try simp only [Act.put, List.setIfInBounds_toArray, List.set_cons_zero, List.set_cons_succ]
      refine wpAnyH_takeL (i := 7) (v := ?vhy164) rfl (by kernel_rfl) (by kernel_rfl) (by kernel_rfl) (fun _ _ _ h => h) (Or.inl ⟨by rfl, ?hy164⟩) (by assumption) ?rhy164
      case hy164 => ((intro w hSw; (try dsimp only at hSw); go_simp); try with_reducible rfl)
      try simp only [Act.put, List.setIfInBounds_toArray, List.set_cons_zero, List.set_cons_succ]
      refine wpAnyH_takeL (i := 8) (v := ?vhy165) rfl (by kernel_rfl) (by kernel_rfl) (by kernel_rfl) (fun _ _ _ h => h) (Or.inl ⟨by rfl, ?hy165⟩) (by assumption) ?rhy165
      case hy165 => ((intro w hSw; (try dsimp only at hSw); go_simp); try with_reducible rfl)
      try simp only [Act.put, List.setIfInBounds_toArray, List.set_cons_zero, List.set_cons_succ]
      refine wpAnyH_takeL (i := 9) (v := ?vhy166) rfl (by kernel_rfl) (by kernel_rfl) (by kernel_rfl) (fun _ _ _ h => h) (Or.inl ⟨by rfl, ?hy166⟩) (by assumption) ?rhy166
      case hy166 => ((intro w hSw; (try dsimp only at hSw); go_simp); try with_reducible rfl)
      try simp only [Act.put, List.setIfInBounds_toArray, List.set_cons_zero, List.set_cons_succ]
      refine wpAnyH_takeL (i := 10) (v := ?vhy167) rfl (by kernel_rfl) (by kernel_rfl) (by kernel_rfl) (fun _ _ _ h => h) (Or.inl ⟨by rfl, ?hy167⟩) (by assumption) ?rhy167
      case hy167 => ((intro w hSw; (try dsimp only at hSw); go_simp); try with_reducible rfl)
      try simp only [Act.put, List.setIfInBounds_toArray, List.set_cons_zero, List.set_cons_succ]
      refine wpAnyH_takeL (i := 11) (v := ?vhy168) rfl (by kernel_rfl) (by kernel_rfl) (by kernel_rfl) (fun _ _ _ h => h) (Or.inl ⟨by rfl, ?hy168⟩) (by assumption) ?rhy168
      case hy168 => ((intro w hSw; (try dsimp only at hSw); go_simp); try with_reducible rfl)
      try simp only [Act.put, List.setIfInBounds_toArray, List.set_cons_zero, List.set_cons_succ]
      refine wpAnyH_ready (rs := [12]) (by kernel_rfl) (by simp) ?_
      refine AllReadyH.consL (i := 12) rfl (fun K hK => ?_) AllReadyH.nil
      go_simp
      refine (may_uint 2 0 u ByteArray.empty _).mono ?_
      rintro e W3 ⟨rfl, hb3⟩
      try simp only [hdi]
      have hb23 := gr hb2 hb3
      have hvb3 := hvb.below hb23 hlW
      have hkb3 : KBox W3 w0.heap.size (.func (.func 116) #[] #[]) (.func (.func 117) #[] #[]) := (hb23.block _ hlB).trans hkb
      refine hK.out _ _ ⟨hvb3.cells, hkb3.cells.1.1⟩ (fun hHeld => ?_)
      clear hK
      try simp only [Act.put, List.setIfInBounds_toArray, List.set_cons_zero, List.set_cons_succ]
      refine wpAnyH_takeL (i := 13) (v := ?vhy169) rfl (by kernel_rfl) (by kernel_rfl) (by kernel_rfl) (fun _ _ _ h => h) (Or.inl ⟨by rfl, ?hy169⟩) (by assumption) ?rhy169
      case hy169 => ((intro w hSw; (try dsimp only at hSw); go_simp); try with_reducible rfl)
      try simp only [Act.put, List.setIfInBounds_toArray, List.set_cons_zero, List.set_cons_succ]
      refine wpAnyH_takeL (i := 14) (v := ?vhy170) rfl (by kernel_rfl) (by kernel_rfl) (by kernel_rfl) (fun _ _ _ h => h) (Or.inl ⟨by rfl, ?hy170⟩) (by assumption) ?rhy170
      case hy170 => ((intro w hSw; (try dsimp only at hSw); go_simp); try with_reducible rfl)
      try simp only [Act.put, List.setIfInBounds_toArray, List.set_cons_zero, List.set_cons_succ]
      refine wpAnyH_takeL (i := 15) (v := ?vhy171) rfl (by kernel_rfl) (by kernel_rfl) (by kernel_rfl) (fun _ _ _ h => h) (Or.inl ⟨by rfl, ?hy171⟩) (by assumption) ?rhy171
      case hy171 => ((intro w hSw; (try dsimp only at hSw); go_simp); try with_reducible rfl)
      try simp only [Act.put, List.setIfInBounds_toArray, List.set_cons_zero, List.set_cons_succ]
      refine wpAnyH_done (by kernel_rfl) ?_ _
      refine NoPanic.normal ?_
      have hfin := gr hb0 hb23
      have hc3 := hvb3.cells
      clear hkb3 hHeld hkb2 hvb2 hb2 hb3 hvb hvc hkc hkb hsf hsg
      go_wp2_with fail
      go_ret
      exact ⟨by first | rfl | simp [chkV, okV], hfin⟩
    · have hno := chk2_no hq
      have hne : ∀ w', (binOp .neq 28 (.agg #[.int .i64 2, .int .i64 i, .int .u64 u, .string s]) (.agg #[.int .i64 2, .int .i64 0, .int .u64 u, .string ByteArray.empty])).run Tryz.prog w' = .ok (.bool true) w' := fun w' => by
        rw [neq_V, neq_true hq]
      refine wpAnyH_takeL (i := 6) (v := ?vhy172) rfl (by kernel_rfl) (by kernel_rfl) (by kernel_rfl) (fun _ _ _ h => h) (Or.inl ⟨by rfl, ?hy172⟩) (by assumption) ?rhy172
      case hy172 => ((intro w hSw; (try dsimp only at hSw); go_simp); try with_reducible rfl)
      try simp only [Act.put, List.setIfInBounds_toArray, List.set_cons_zero, List.set_cons_succ]
      refine wpAnyH_takeL (i := 7) (v := ?vhy173) rfl (by kernel_rfl) (by kernel_rfl) (by kernel_rfl) (fun _ _ _ h => h) (Or.inl ⟨by rfl, ?hy173⟩) (by assumption) ?rhy173
      case hy173 => ((intro w hSw; (try dsimp only at hSw); go_simp); try with_reducible rfl)
      try simp only [Act.put, List.setIfInBounds_toArray, List.set_cons_zero, List.set_cons_succ]
      refine wpAnyH_takeL (i := 8) (v := ?vhy174) rfl (by kernel_rfl) (by kernel_rfl) (by kernel_rfl) (fun _ _ _ h => h) (Or.inl ⟨by rfl, ?hy174⟩) (by assumption) ?rhy174
      case hy174 => ((intro w hSw; (try dsimp only at hSw); go_simp); try with_reducible rfl)
      try simp only [Act.put, List.setIfInBounds_toArray, List.set_cons_zero, List.set_cons_succ]
      refine wpAnyH_takeL (i := 9) (v := undef) rfl (by kernel_rfl) (by kernel_rfl) (by kernel_rfl) (fun _ _ _ h => h) (Or.inr ⟨by rfl, rfl⟩) (by assumption) ?_
      try simp only [Act.put, List.setIfInBounds_toArray, List.set_cons_zero, List.set_cons_succ]
      refine wpAnyH_takeL (i := 10) (v := undef) rfl (by kernel_rfl) (by kernel_rfl) (by kernel_rfl) (fun _ _ _ h => h) (Or.inr ⟨by rfl, rfl⟩) (by assumption) ?_
      try simp only [Act.put, List.setIfInBounds_toArray, List.set_cons_zero, List.set_cons_succ]
      refine wpAnyH_takeL (i := 11) (v := undef) rfl (by kernel_rfl) (by kernel_rfl) (by kernel_rfl) (fun _ _ _ h => h) (Or.inr ⟨by rfl, rfl⟩) (by assumption) ?_
      try simp only [Act.put, List.setIfInBounds_toArray, List.set_cons_zero, List.set_cons_succ]
      refine wpAnyH_takeL (i := 12) (v := undef) rfl (by kernel_rfl) (by kernel_rfl) (by kernel_rfl) (fun _ _ _ h => h) (Or.inr ⟨by rfl, rfl⟩) (by assumption) ?_
      try simp only [Act.put, List.setIfInBounds_toArray, List.set_cons_zero, List.set_cons_succ]
      refine wpAnyH_takeL (i := 13) (v := undef) rfl (by kernel_rfl) (by kernel_rfl) (by kernel_rfl) (fun _ _ _ h => h) (Or.inr ⟨by rfl, rfl⟩) (by assumption) ?_
      try simp only [Act.put, List.setIfInBounds_toArray, List.set_cons_zero, List.set_cons_succ]
      refine wpAnyH_takeL (i := 14) (v := ?vhy175) rfl (by kernel_rfl) (by kernel_rfl) (by kernel_rfl) (fun _ _ _ h => h) (Or.inl ⟨by rfl, ?hy175⟩) (by assumption) ?rhy175
      case hy175 => ((intro w hSw; (try dsimp only at hSw); go_simp); try with_reducible rfl)
      try simp only [Act.put, List.setIfInBounds_toArray, List.set_cons_zero, List.set_cons_succ]
      refine wpAnyH_takeL (i := 15) (v := ?vhy176) rfl (by kernel_rfl) (by kernel_rfl) (by kernel_rfl) (fun _ _ _ h => h) (Or.inl ⟨by rfl, ?hy176⟩) (by assumption) ?rhy176
      case hy176 => ((intro w hSw; (try dsimp only at hSw); go_simp); try with_reducible rfl)
      try simp only [Act.put, List.setIfInBounds_toArray, List.set_cons_zero, List.set_cons_succ]
      refine wpAnyH_done (by kernel_rfl) ?_ _
      refine NoPanic.normal ?_
      have hfin := gr hb0 hb2
      go_wp2
      go_ret
      exact ⟨by first | (rw [hno]; rfl) | rfl, hfin⟩
set_option maxRecDepth 100000 in
set_option maxHeartbeats 2000000 in
theorem Check_3x (i u : Int) (s : ByteArray) (w : World) (hs : s.size ≤ maxLen) (hi3 : ¬ (i = 0 ∨ i = 1)) : Calls Tryz.prog 55 #[.agg #[.int .i64 3, .int .i64 i, .int .u64 u, .string s]] w fun e w' => e = .returned (.int .i64 (chkV 3 i u s : Int)) ∧ Below w.heap.size w w' := by
  have hdi : decide (i = 0 ∨ i = 1) = false := by simpa using hi3
  have hlk : ∀ w' r, IMap w' r .i64 VKinds → (Instr.lookup 142 (.map (some r)) (.int .i64 3) true).run Tryz.prog w' = .ok (.tuple #[.agg #[.func (.func 118) #[] #[], .func (.func 119) #[] #[]], .bool true]) w' := fun w' r hm =>
    hm.look _ _ _ Tryz.underlying142 Tryz.underlying25 3 3 _ rfl
  have hsf := fun (a : Addr) (w : World) (m : Mode) => (run_store Tryz.prog w a (.func (.func 118) #[] #[]) m rfl : _ = stored Tryz.prog w a (.func (.func 118) #[] #[]) m)
  have hsg := fun (a : Addr) (w : World) (m : Mode) => (run_store Tryz.prog w a (.func (.func 119) #[] #[]) m rfl : _ = stored Tryz.prog w a (.func (.func 119) #[] #[]) m)
  have hbox := VBox.new w 3 i u s
  have hb0 : Below w.heap.size w (w.alloc (.cells #[.int .i64 3, .int .i64 i, .int .u64 u, .string s] 28)) := (Below.refl _ w).alloc (Nat.le_refl _) _
  go_enter Tryz.func55, Tryz.ntmps55
  go_wp2_with fail
  generalize (w.alloc (.cells #[.int .i64 3, .int .i64 i, .int .u64 u, .string s] 28)) = w0 at *
  have hlt : w.heap.size < w0.heap.size := hbox.lt
  refine wp_region_noPanic ?_
  refine wp_region_held_drew (S := fun w' => w'.cell? ⟨w.heap.size, 0, none⟩ = some (.int .i64 3)) (by kernel_rfl) (VBox.cells (W := w0.drew) hbox).1 (fun hHeld => ?_)
  refine wpAnyH_takeL (i := 1) (v := ?vhy177) rfl (by kernel_rfl) (by kernel_rfl) (by kernel_rfl) (fun _ _ _ h => h) (Or.inl ⟨by rfl, ?hy177⟩) (by assumption) ?rhy177
  case hy177 => ((intro w hSw; (try dsimp only at hSw); go_simp); try with_reducible rfl)
  try simp only [Act.put, List.setIfInBounds_toArray, List.set_cons_zero, List.set_cons_succ]
  refine wpAnyH_takeL (i := 2) (v := ?vhy178) rfl (by kernel_rfl) (by kernel_rfl) (by kernel_rfl) (fun _ _ _ h => h) (Or.inl ⟨by rfl, ?hy178⟩) (by assumption) ?rhy178
  case hy178 => ((intro w hSw; (try dsimp only at hSw); go_simp); try with_reducible rfl)
  try simp only [Act.put, List.setIfInBounds_toArray, List.set_cons_zero, List.set_cons_succ]
  refine wpAnyH_ready (rs := [0, 7]) (by kernel_rfl) (by simp) ?_
  refine AllReadyH.consL (i := 0) rfl (fun K hK => ?_) (AllReadyH.consL (i := 7) rfl (fun K hK => ?_) AllReadyH.nil)
  · go_simp
    refine (vkinds_any _).mono ?_
    rintro e w1 ⟨r, rfl, hm, hb1, hr1⟩
    replace hb1 := gr ((Below.refl _ w0).drew) hb1
    refine hK.out _ _ (hbox.below hb1 hlt).cells.1 (fun hHeld => ?_)
    clear hK hHeld
    refine wpAnyH_more (S' := fun w' => IMap w' r .i64 VKinds ∧ Below w0.heap.size w0 w') (fun w' h => (hbox.below h.2 hlt).cells.1) ?_
    have hHeld : IMap w1 r .i64 VKinds ∧ Below w0.heap.size w0 w1 := ⟨hm, hb1⟩
    try simp only [Act.put, List.setIfInBounds_toArray, List.set_cons_zero, List.set_cons_succ]
    refine wpAnyH_takeL (i := 3) (v := ?vhy179) rfl (by kernel_rfl) (by kernel_rfl) (by kernel_rfl) (fun _ _ _ h => h) (Or.inl ⟨by rfl, ?hy179⟩) (by assumption) ?rhy179
    case hy179 => ((intro w hSw; (try dsimp only at hSw); go_simp); try with_reducible rfl)
    try simp only [Act.put, List.setIfInBounds_toArray, List.set_cons_zero, List.set_cons_succ]
    refine wpAnyH_takeL (i := 4) (v := ?vhy180) rfl (by kernel_rfl) (by kernel_rfl) (by kernel_rfl) (fun _ _ _ h => h) (Or.inl ⟨by rfl, ?hy180⟩) (by assumption) ?rhy180
    case hy180 => ((intro w hSw; (try dsimp only at hSw); go_simp); try with_reducible rfl)
    try simp only [Act.put, List.setIfInBounds_toArray, List.set_cons_zero, List.set_cons_succ]
    refine wpAnyH_takeL (i := 5) (v := ?vhy181) rfl (by kernel_rfl) (by kernel_rfl) (by kernel_rfl) (fun _ _ _ h => h) (Or.inl ⟨by rfl, ?hy181⟩) (by assumption) ?rhy181
    case hy181 => ((intro w hSw; (try dsimp only at hSw); go_simp); try with_reducible rfl)
    try simp only [Act.put, List.setIfInBounds_toArray, List.set_cons_zero, List.set_cons_succ]
    refine wpAnyH_takeL (i := 6) (v := ?vhy182) rfl (by kernel_rfl) (by kernel_rfl) (by kernel_rfl) (fun _ _ _ h => h) (Or.inl ⟨by rfl, ?hy182⟩) (by assumption) ?rhy182
    case hy182 => ((intro w hSw; (try dsimp only at hSw); go_simp); try with_reducible rfl)
    try simp only [Act.put, List.setIfInBounds_toArray, List.set_cons_zero, List.set_cons_succ]
    refine wpAnyH_ready (rs := [7]) (by kernel_rfl) (by simp) ?_
    refine AllReadyH.consL (i := 7) rfl (fun K hK => ?_) AllReadyH.nil
    go_simp
    have hs2 := (Below.refl w1.heap.size w1).alloc (Nat.le_refl _) (.cells #[.nilFunc, .nilFunc] 140)
    refine hK.out _ _ ⟨hm.below hs2, gr hb1 hs2⟩ (fun hHeld => ?_)
    clear hK
    try simp only [Act.put, List.setIfInBounds_toArray, List.set_cons_zero, List.set_cons_succ]
    refine wpAnyH_ready (rs := [8]) (by kernel_rfl) (by simp) ?_
    refine AllReadyH.consL (i := 8) rfl (fun K hK => ?_) AllReadyH.nil
    go_simp
    have hs3 := (Below.refl w1.heap.size w1).alloc (Nat.le_refl _) (.cells #[(.func (.func 118) #[] #[]), (.func (.func 119) #[] #[])] 140)
    have hkb : KBox (w1.alloc (.cells #[(.func (.func 118) #[] #[]), (.func (.func 119) #[] #[])] 140)) w1.heap.size (.func (.func 118) #[] #[]) (.func (.func 119) #[] #[]) := World.alloc_heap_new w1 _
    refine hK.out _ _ ⟨hm.below hs3, gr hb1 hs3⟩ (fun hHeld => ?_)
    clear hK
    replace hb1 := gr hb1 hs3
    generalize (w1.alloc (.cells #[(.func (.func 118) #[] #[]), (.func (.func 119) #[] #[])] 140)) = W at *
    try simp only [Act.put, List.setIfInBounds_toArray, List.set_cons_zero, List.set_cons_succ]
    refine wpAnyH_takeL (i := 9) (v := ?vhy183) rfl (by kernel_rfl) (by kernel_rfl) (by kernel_rfl) (fun _ _ _ h => h) (Or.inl ⟨by rfl, ?hy183⟩) (by assumption) ?rhy183
    case hy183 => ((intro w hSw; (try dsimp only at hSw); go_simp); try with_reducible rfl)
    try simp only [Act.put, List.setIfInBounds_toArray, List.set_cons_zero, List.set_cons_succ]
    refine wpAnyH_done (by kernel_rfl) ?_ _
    refine NoPanic.normal ?_
    clear hHeld hm hlk
    have hvb := hbox.below hb1 hlt
    replace hb0 := gr hb0 hb1
    clear hb1 hbox
    go_wp2_with fail
    have hkc := hkb.cells.1.1
    have hvc := hvb.cells
    have hbe : bareV 3 i u s = .agg #[.int .i64 3, .int .i64 i, .int .u64 0, .string ByteArray.empty] := by simp [bareV, valV]
    refine wp_region_noPanic ?_
    refine wp_region_held_drew (S := fun w' => (w'.cell? ⟨w.heap.size, 0, none⟩ = some (.int .i64 3) ∧ w'.cell? ⟨w.heap.size, 1, none⟩ = some (.int .i64 i) ∧ w'.cell? ⟨w.heap.size, 2, none⟩ = some (.int .u64 u) ∧ w'.cell? ⟨w.heap.size, 3, none⟩ = some (.string s)) ∧ w'.cell? ⟨w1.heap.size, 0, none⟩ = some (.func (.func 118) #[] #[])) (by kernel_rfl) ⟨hvc, hkc⟩ (fun hHeld => ?_)
    refine wpAnyH_takeL (i := 0) (v := ?vhy184) rfl (by kernel_rfl) (by kernel_rfl) (by kernel_rfl) (fun _ _ _ h => h) (Or.inl ⟨by rfl, ?hy184⟩) (by assumption) ?rhy184
    case hy184 => ((intro w hSw; (try dsimp only at hSw); go_simp); try with_reducible rfl)
    try simp only [Act.put, List.setIfInBounds_toArray, List.set_cons_zero, List.set_cons_succ]
    refine wpAnyH_takeL (i := 1) (v := ?vhy185) rfl (by kernel_rfl) (by kernel_rfl) (by kernel_rfl) (fun _ _ _ h => h) (Or.inl ⟨by rfl, ?hy185⟩) (by assumption) ?rhy185
    case hy185 => ((intro w hSw; (try dsimp only at hSw); go_simp); try with_reducible rfl)
    try simp only [Act.put, List.setIfInBounds_toArray, List.set_cons_zero, List.set_cons_succ]
    refine wpAnyH_takeL (i := 2) (v := ?vhy186) rfl (by kernel_rfl) (by kernel_rfl) (by kernel_rfl) (fun _ _ _ h => h) (Or.inl ⟨by rfl, ?hy186⟩) (by assumption) ?rhy186
    case hy186 => ((intro w hSw; (try dsimp only at hSw); go_simp); try with_reducible rfl)
    try simp only [Act.put, List.setIfInBounds_toArray, List.set_cons_zero, List.set_cons_succ]
    refine wpAnyH_takeL (i := 3) (v := ?vhy187) rfl (by kernel_rfl) (by kernel_rfl) (by kernel_rfl) (fun _ _ _ h => h) (Or.inl ⟨by rfl, ?hy187⟩) (by assumption) ?rhy187
    case hy187 => ((intro w hSw; (try dsimp only at hSw); go_simp); try with_reducible rfl)
    try simp only [Act.put, List.setIfInBounds_toArray, List.set_cons_zero, List.set_cons_succ]
    refine wpAnyH_takeL (i := 4) (v := ?vhy188) rfl (by kernel_rfl) (by kernel_rfl) (by kernel_rfl) (fun _ _ _ h => h) (Or.inl ⟨by rfl, ?hy188⟩) (by assumption) ?rhy188
    case hy188 => ((intro w hSw; (try dsimp only at hSw); go_simp); try with_reducible rfl)
    try simp only [Act.put, List.setIfInBounds_toArray, List.set_cons_zero, List.set_cons_succ]
    refine wpAnyH_ready (rs := [5]) (by kernel_rfl) (by simp) ?_
    refine AllReadyH.consL (i := 5) rfl (fun K hK => ?_) AllReadyH.nil
    go_simp
    refine (bare_any 3 i u s _).mono ?_
    rw [hbe]
    rintro e W2 ⟨rfl, hb2⟩
    replace hb2 := gr ((Below.refl _ W).drew) hb2
    have hlW := hvb.lt
    have hlB : w1.heap.size < W.heap.size := (Array.getElem?_eq_some_iff.1 hkb).1
    have hvb2 := hvb.below hb2 hlW
    have hkb2 : KBox W2 w1.heap.size (.func (.func 118) #[] #[]) (.func (.func 119) #[] #[]) := (hb2.block _ hlB).trans hkb
    refine hK.out _ _ ⟨hvb2.cells, hkb2.cells.1.1⟩ (fun hHeld => ?_)
    clear hK
    try simp only [Act.put, List.setIfInBounds_toArray, List.set_cons_zero, List.set_cons_succ]
    by_cases hq : i = i ∧ u = 0 ∧ s = ByteArray.empty
    · obtain ⟨q1, q2, q3⟩ := hq
      try subst q1
      try subst q2
      try subst q3
      have hne : ∀ w', (binOp .neq 28 (.agg #[.int .i64 3, .int .i64 i, .int .u64 0, .string ByteArray.empty]) (.agg #[.int .i64 3, .int .i64 i, .int .u64 0, .string ByteArray.empty])).run Tryz.prog w' = .ok (.bool false) w' := fun w' => by
        rw [neq_V]
        simp
      refine wpAnyH_takeL (i := 6) (v := ?vhy189) rfl (by kernel_rfl) (by kernel_rfl) (by kernel_rfl) (fun _ _ _ h => h) (Or.inl ⟨by rfl, ?hy189⟩) (by assumption) ?rhy189
      case hy189 => ((intro w hSw; (try dsimp only at hSw); go_simp); try with_reducible rfl)
      try simp only [Act.put, List.setIfInBounds_toArray, List.set_cons_zero, List.set_cons_succ]
      refine wpAnyH_takeL (i := 7) (v := ?vhy190) rfl (by kernel_rfl) (by kernel_rfl) (by kernel_rfl) (fun _ _ _ h => h) (Or.inl ⟨by rfl, ?hy190⟩) (by assumption) ?rhy190
      case hy190 => ((intro w hSw; (try dsimp only at hSw); go_simp); try with_reducible rfl)
      try simp only [Act.put, List.setIfInBounds_toArray, List.set_cons_zero, List.set_cons_succ]
      refine wpAnyH_takeL (i := 8) (v := ?vhy191) rfl (by kernel_rfl) (by kernel_rfl) (by kernel_rfl) (fun _ _ _ h => h) (Or.inl ⟨by rfl, ?hy191⟩) (by assumption) ?rhy191
      case hy191 => ((intro w hSw; (try dsimp only at hSw); go_simp); try with_reducible rfl)
      try simp only [Act.put, List.setIfInBounds_toArray, List.set_cons_zero, List.set_cons_succ]
      refine wpAnyH_takeL (i := 9) (v := ?vhy192) rfl (by kernel_rfl) (by kernel_rfl) (by kernel_rfl) (fun _ _ _ h => h) (Or.inl ⟨by rfl, ?hy192⟩) (by assumption) ?rhy192
      case hy192 => ((intro w hSw; (try dsimp only at hSw); go_simp); try with_reducible rfl)
      try simp only [Act.put, List.setIfInBounds_toArray, List.set_cons_zero, List.set_cons_succ]
      refine wpAnyH_takeL (i := 10) (v := ?vhy193) rfl (by kernel_rfl) (by kernel_rfl) (by kernel_rfl) (fun _ _ _ h => h) (Or.inl ⟨by rfl, ?hy193⟩) (by assumption) ?rhy193
      case hy193 => ((intro w hSw; (try dsimp only at hSw); go_simp); try with_reducible rfl)
      try simp only [Act.put, List.setIfInBounds_toArray, List.set_cons_zero, List.set_cons_succ]
      refine wpAnyH_takeL (i := 11) (v := ?vhy194) rfl (by kernel_rfl) (by kernel_rfl) (by kernel_rfl) (fun _ _ _ h => h) (Or.inl ⟨by rfl, ?hy194⟩) (by assumption) ?rhy194
      case hy194 => ((intro w hSw; (try dsimp only at hSw); go_simp); try with_reducible rfl)
      try simp only [Act.put, List.setIfInBounds_toArray, List.set_cons_zero, List.set_cons_succ]
      refine wpAnyH_ready (rs := [12]) (by kernel_rfl) (by simp) ?_
      refine AllReadyH.consL (i := 12) rfl (fun K hK => ?_) AllReadyH.nil
      go_simp
      refine (may_bool 3 i 0 ByteArray.empty _).mono ?_
      rintro e W3 ⟨rfl, hb3⟩
      try simp only [hdi]
      have hb23 := gr hb2 hb3
      have hvb3 := hvb.below hb23 hlW
      have hkb3 : KBox W3 w1.heap.size (.func (.func 118) #[] #[]) (.func (.func 119) #[] #[]) := (hb23.block _ hlB).trans hkb
      refine hK.out _ _ ⟨hvb3.cells, hkb3.cells.1.1⟩ (fun hHeld => ?_)
      clear hK
      try simp only [Act.put, List.setIfInBounds_toArray, List.set_cons_zero, List.set_cons_succ]
      refine wpAnyH_takeL (i := 13) (v := ?vhy195) rfl (by kernel_rfl) (by kernel_rfl) (by kernel_rfl) (fun _ _ _ h => h) (Or.inl ⟨by rfl, ?hy195⟩) (by assumption) ?rhy195
      case hy195 => ((intro w hSw; (try dsimp only at hSw); go_simp); try with_reducible rfl)
      try simp only [Act.put, List.setIfInBounds_toArray, List.set_cons_zero, List.set_cons_succ]
      refine wpAnyH_takeL (i := 14) (v := ?vhy196) rfl (by kernel_rfl) (by kernel_rfl) (by kernel_rfl) (fun _ _ _ h => h) (Or.inl ⟨by rfl, ?hy196⟩) (by assumption) ?rhy196
      case hy196 => ((intro w hSw; (try dsimp only at hSw); go_simp); try with_reducible rfl)
      try simp only [Act.put, List.setIfInBounds_toArray, List.set_cons_zero, List.set_cons_succ]
      refine wpAnyH_takeL (i := 15) (v := ?vhy197) rfl (by kernel_rfl) (by kernel_rfl) (by kernel_rfl) (fun _ _ _ h => h) (Or.inl ⟨by rfl, ?hy197⟩) (by assumption) ?rhy197
      case hy197 => ((intro w hSw; (try dsimp only at hSw); go_simp); try with_reducible rfl)
      try simp only [Act.put, List.setIfInBounds_toArray, List.set_cons_zero, List.set_cons_succ]
      refine wpAnyH_done (by kernel_rfl) ?_ _
      refine NoPanic.normal ?_
      have hfin := gr hb0 hb23
      have hc3 := hvb3.cells
      clear hkb3 hHeld hkb2 hvb2 hb2 hb3 hvb hvc hkc hkb hsf hsg
      go_wp2_with fail
      go_ret
      exact ⟨by simp [chkV, okV, hi3], hfin⟩
    · have hno := chk3_no hq
      have hne : ∀ w', (binOp .neq 28 (.agg #[.int .i64 3, .int .i64 i, .int .u64 u, .string s]) (.agg #[.int .i64 3, .int .i64 i, .int .u64 0, .string ByteArray.empty])).run Tryz.prog w' = .ok (.bool true) w' := fun w' => by
        rw [neq_V, neq_true hq]
      refine wpAnyH_takeL (i := 6) (v := ?vhy198) rfl (by kernel_rfl) (by kernel_rfl) (by kernel_rfl) (fun _ _ _ h => h) (Or.inl ⟨by rfl, ?hy198⟩) (by assumption) ?rhy198
      case hy198 => ((intro w hSw; (try dsimp only at hSw); go_simp); try with_reducible rfl)
      try simp only [Act.put, List.setIfInBounds_toArray, List.set_cons_zero, List.set_cons_succ]
      refine wpAnyH_takeL (i := 7) (v := ?vhy199) rfl (by kernel_rfl) (by kernel_rfl) (by kernel_rfl) (fun _ _ _ h => h) (Or.inl ⟨by rfl, ?hy199⟩) (by assumption) ?rhy199
      case hy199 => ((intro w hSw; (try dsimp only at hSw); go_simp); try with_reducible rfl)
      try simp only [Act.put, List.setIfInBounds_toArray, List.set_cons_zero, List.set_cons_succ]
      refine wpAnyH_takeL (i := 8) (v := ?vhy200) rfl (by kernel_rfl) (by kernel_rfl) (by kernel_rfl) (fun _ _ _ h => h) (Or.inl ⟨by rfl, ?hy200⟩) (by assumption) ?rhy200
      case hy200 => ((intro w hSw; (try dsimp only at hSw); go_simp); try with_reducible rfl)
      try simp only [Act.put, List.setIfInBounds_toArray, List.set_cons_zero, List.set_cons_succ]
      refine wpAnyH_takeL (i := 9) (v := undef) rfl (by kernel_rfl) (by kernel_rfl) (by kernel_rfl) (fun _ _ _ h => h) (Or.inr ⟨by rfl, rfl⟩) (by assumption) ?_
      try simp only [Act.put, List.setIfInBounds_toArray, List.set_cons_zero, List.set_cons_succ]
      refine wpAnyH_takeL (i := 10) (v := undef) rfl (by kernel_rfl) (by kernel_rfl) (by kernel_rfl) (fun _ _ _ h => h) (Or.inr ⟨by rfl, rfl⟩) (by assumption) ?_
      try simp only [Act.put, List.setIfInBounds_toArray, List.set_cons_zero, List.set_cons_succ]
      refine wpAnyH_takeL (i := 11) (v := undef) rfl (by kernel_rfl) (by kernel_rfl) (by kernel_rfl) (fun _ _ _ h => h) (Or.inr ⟨by rfl, rfl⟩) (by assumption) ?_
      try simp only [Act.put, List.setIfInBounds_toArray, List.set_cons_zero, List.set_cons_succ]
      refine wpAnyH_takeL (i := 12) (v := undef) rfl (by kernel_rfl) (by kernel_rfl) (by kernel_rfl) (fun _ _ _ h => h) (Or.inr ⟨by rfl, rfl⟩) (by assumption) ?_
      try simp only [Act.put, List.setIfInBounds_toArray, List.set_cons_zero, List.set_cons_succ]
      refine wpAnyH_takeL (i := 13) (v := undef) rfl (by kernel_rfl) (by kernel_rfl) (by kernel_rfl) (fun _ _ _ h => h) (Or.inr ⟨by rfl, rfl⟩) (by assumption) ?_
      try simp only [Act.put, List.setIfInBounds_toArray, List.set_cons_zero, List.set_cons_succ]
      refine wpAnyH_takeL (i := 14) (v := ?vhy201) rfl (by kernel_rfl) (by kernel_rfl) (by kernel_rfl) (fun _ _ _ h => h) (Or.inl ⟨by rfl, ?hy201⟩) (by assumption) ?rhy201
      case hy201 => ((intro w hSw; (try dsimp only at hSw); go_simp); try with_reducible rfl)
      try simp only [Act.put, List.setIfInBounds_toArray, List.set_cons_zero, List.set_cons_succ]
      refine wpAnyH_takeL (i := 15) (v := ?vhy202) rfl (by kernel_rfl) (by kernel_rfl) (by kernel_rfl) (fun _ _ _ h => h) (Or.inl ⟨by rfl, ?hy202⟩) (by assumption) ?rhy202
      case hy202 => ((intro w hSw; (try dsimp only at hSw); go_simp); try with_reducible rfl)
      try simp only [Act.put, List.setIfInBounds_toArray, List.set_cons_zero, List.set_cons_succ]
      refine wpAnyH_done (by kernel_rfl) ?_ _
      refine NoPanic.normal ?_
      have hfin := gr hb0 hb2
      go_wp2
      go_ret
      exact ⟨by first | (rw [hno]; rfl) | rfl, hfin⟩
  · go_simp
    have hs2 := (Below.refl w0.heap.size w0).alloc (Nat.le_refl _) (.cells #[.nilFunc, .nilFunc] 140)
    have hkn : KBox (w0.alloc (.cells #[.nilFunc, .nilFunc] 140)) w0.heap.size .nilFunc .nilFunc := World.alloc_heap_new w0 _
    have hln : w0.heap.size < (w0.alloc (.cells #[.nilFunc, .nilFunc] 140)).heap.size := by simp
    refine hK.out _ _ (VBox.cells (W := (w0.alloc (.cells #[.nilFunc, .nilFunc] 140)).drew) (hbox.below hs2.drew hlt)).1 (fun hHeld => ?_)
    clear hK
    try simp only [Act.put, List.setIfInBounds_toArray, List.set_cons_zero, List.set_cons_succ]
    refine wpAnyH_ready (rs := [0]) (by kernel_rfl) (by simp) ?_
    refine AllReadyH.consL (i := 0) rfl (fun K hK => ?_) AllReadyH.nil
    go_simp
    refine (vkinds_any _).mono ?_
    rintro e w1 ⟨r, rfl, hm, hb1, hr1⟩
    replace hr1 : w0.heap.size < r := Nat.lt_of_lt_of_le hln hr1
    replace hkn : KBox w1 w0.heap.size .nilFunc .nilFunc := (hb1.block _ hln).trans hkn
    replace hb1 := gr hs2.drew hb1
    refine hK.out _ _ (hbox.below hb1 hlt).cells.1 (fun hHeld => ?_)
    clear hK hHeld
    refine wpAnyH_more (S' := fun w' => IMap w' r .i64 VKinds ∧ Below w0.heap.size w0 w') (fun w' h => (hbox.below h.2 hlt).cells.1) ?_
    have hHeld : IMap w1 r .i64 VKinds ∧ Below w0.heap.size w0 w1 := ⟨hm, hb1⟩
    try simp only [Act.put, List.setIfInBounds_toArray, List.set_cons_zero, List.set_cons_succ]
    refine wpAnyH_takeL (i := 3) (v := ?vhy203) rfl (by kernel_rfl) (by kernel_rfl) (by kernel_rfl) (fun _ _ _ h => h) (Or.inl ⟨by rfl, ?hy203⟩) (by assumption) ?rhy203
    case hy203 => ((intro w hSw; (try dsimp only at hSw); go_simp); try with_reducible rfl)
    try simp only [Act.put, List.setIfInBounds_toArray, List.set_cons_zero, List.set_cons_succ]
    refine wpAnyH_takeL (i := 4) (v := ?vhy204) rfl (by kernel_rfl) (by kernel_rfl) (by kernel_rfl) (fun _ _ _ h => h) (Or.inl ⟨by rfl, ?hy204⟩) (by assumption) ?rhy204
    case hy204 => ((intro w hSw; (try dsimp only at hSw); go_simp); try with_reducible rfl)
    try simp only [Act.put, List.setIfInBounds_toArray, List.set_cons_zero, List.set_cons_succ]
    refine wpAnyH_takeL (i := 5) (v := ?vhy205) rfl (by kernel_rfl) (by kernel_rfl) (by kernel_rfl) (fun _ _ _ h => h) (Or.inl ⟨by rfl, ?hy205⟩) (by assumption) ?rhy205
    case hy205 => ((intro w hSw; (try dsimp only at hSw); go_simp); try with_reducible rfl)
    try simp only [Act.put, List.setIfInBounds_toArray, List.set_cons_zero, List.set_cons_succ]
    refine wpAnyH_takeL (i := 6) (v := ?vhy206) rfl (by kernel_rfl) (by kernel_rfl) (by kernel_rfl) (fun _ _ _ h => h) (Or.inl ⟨by rfl, ?hy206⟩) (by assumption) ?rhy206
    case hy206 => ((intro w hSw; (try dsimp only at hSw); go_simp); try with_reducible rfl)
    try simp only [Act.put, List.setIfInBounds_toArray, List.set_cons_zero, List.set_cons_succ]
    have hkc := hkn.cells
    refine wpAnyH_ready (rs := [8]) (by kernel_rfl) (by simp) ?_
    refine AllReadyH.consL (i := 8) rfl (fun K hK => ?_) AllReadyH.nil
    go_simp
    have hkb := hkn.set (.func (.func 118) #[] #[]) (.func (.func 119) #[] #[])
    have hg1' := (grownBy_setCell_at w1 ⟨w0.heap.size, 0, none⟩ (.func (.func 118) #[] #[]))
    have hg2' := (grownBy_setCell_at (w1.setCell ⟨w0.heap.size, 0, none⟩ (.func (.func 118) #[] #[])) ⟨w0.heap.size, 1, none⟩ (.func (.func 119) #[] #[]))
    have hm2 := (hm.kept hg1' (by simp; omega)).kept hg2' (by simp; omega)
    have hb2 := (hb1.setCell (p := ⟨w0.heap.size, 0, none⟩) (Nat.le_refl _) (.func (.func 118) #[] #[])).setCell (p := ⟨w0.heap.size, 1, none⟩) (Nat.le_refl _) (.func (.func 119) #[] #[])
    refine hK.out _ _ ⟨hm2, hb2⟩ (fun hHeld => ?_)
    clear hK hg1' hg2' hm2 hkc hkn
    replace hb1 := hb2
    clear hb2
    generalize ((w1.setCell ⟨w0.heap.size, 0, none⟩ (.func (.func 118) #[] #[])).setCell ⟨w0.heap.size, 1, none⟩ (.func (.func 119) #[] #[])) = W at *
    try simp only [Act.put, List.setIfInBounds_toArray, List.set_cons_zero, List.set_cons_succ]
    refine wpAnyH_takeL (i := 9) (v := ?vhy207) rfl (by kernel_rfl) (by kernel_rfl) (by kernel_rfl) (fun _ _ _ h => h) (Or.inl ⟨by rfl, ?hy207⟩) (by assumption) ?rhy207
    case hy207 => ((intro w hSw; (try dsimp only at hSw); go_simp); try with_reducible rfl)
    try simp only [Act.put, List.setIfInBounds_toArray, List.set_cons_zero, List.set_cons_succ]
    refine wpAnyH_done (by kernel_rfl) ?_ _
    refine NoPanic.normal ?_
    clear hHeld hm hlk
    have hvb := hbox.below hb1 hlt
    replace hb0 := gr hb0 hb1
    clear hb1 hbox
    go_wp2_with fail
    have hkc := hkb.cells.1.1
    have hvc := hvb.cells
    have hbe : bareV 3 i u s = .agg #[.int .i64 3, .int .i64 i, .int .u64 0, .string ByteArray.empty] := by simp [bareV, valV]
    refine wp_region_noPanic ?_
    refine wp_region_held_drew (S := fun w' => (w'.cell? ⟨w.heap.size, 0, none⟩ = some (.int .i64 3) ∧ w'.cell? ⟨w.heap.size, 1, none⟩ = some (.int .i64 i) ∧ w'.cell? ⟨w.heap.size, 2, none⟩ = some (.int .u64 u) ∧ w'.cell? ⟨w.heap.size, 3, none⟩ = some (.string s)) ∧ w'.cell? ⟨w0.heap.size, 0, none⟩ = some (.func (.func 118) #[] #[])) (by kernel_rfl) ⟨hvc, hkc⟩ (fun hHeld => ?_)
    refine wpAnyH_takeL (i := 0) (v := ?vhy208) rfl (by kernel_rfl) (by kernel_rfl) (by kernel_rfl) (fun _ _ _ h => h) (Or.inl ⟨by rfl, ?hy208⟩) (by assumption) ?rhy208
    case hy208 => ((intro w hSw; (try dsimp only at hSw); go_simp); try with_reducible rfl)
    try simp only [Act.put, List.setIfInBounds_toArray, List.set_cons_zero, List.set_cons_succ]
    refine wpAnyH_takeL (i := 1) (v := ?vhy209) rfl (by kernel_rfl) (by kernel_rfl) (by kernel_rfl) (fun _ _ _ h => h) (Or.inl ⟨by rfl, ?hy209⟩) (by assumption) ?rhy209
    case hy209 => ((intro w hSw; (try dsimp only at hSw); go_simp); try with_reducible rfl)
    try simp only [Act.put, List.setIfInBounds_toArray, List.set_cons_zero, List.set_cons_succ]
    refine wpAnyH_takeL (i := 2) (v := ?vhy210) rfl (by kernel_rfl) (by kernel_rfl) (by kernel_rfl) (fun _ _ _ h => h) (Or.inl ⟨by rfl, ?hy210⟩) (by assumption) ?rhy210
    case hy210 => ((intro w hSw; (try dsimp only at hSw); go_simp); try with_reducible rfl)
    try simp only [Act.put, List.setIfInBounds_toArray, List.set_cons_zero, List.set_cons_succ]
    refine wpAnyH_takeL (i := 3) (v := ?vhy211) rfl (by kernel_rfl) (by kernel_rfl) (by kernel_rfl) (fun _ _ _ h => h) (Or.inl ⟨by rfl, ?hy211⟩) (by assumption) ?rhy211
    case hy211 => ((intro w hSw; (try dsimp only at hSw); go_simp); try with_reducible rfl)
    try simp only [Act.put, List.setIfInBounds_toArray, List.set_cons_zero, List.set_cons_succ]
    refine wpAnyH_takeL (i := 4) (v := ?vhy212) rfl (by kernel_rfl) (by kernel_rfl) (by kernel_rfl) (fun _ _ _ h => h) (Or.inl ⟨by rfl, ?hy212⟩) (by assumption) ?rhy212
    case hy212 => ((intro w hSw; (try dsimp only at hSw); go_simp); try with_reducible rfl)
    try simp only [Act.put, List.setIfInBounds_toArray, List.set_cons_zero, List.set_cons_succ]
    refine wpAnyH_ready (rs := [5]) (by kernel_rfl) (by simp) ?_
    refine AllReadyH.consL (i := 5) rfl (fun K hK => ?_) AllReadyH.nil
    go_simp
    refine (bare_any 3 i u s _).mono ?_
    rw [hbe]
    rintro e W2 ⟨rfl, hb2⟩
    replace hb2 := gr ((Below.refl _ W).drew) hb2
    have hlW := hvb.lt
    have hlB : w0.heap.size < W.heap.size := (Array.getElem?_eq_some_iff.1 hkb).1
    have hvb2 := hvb.below hb2 hlW
    have hkb2 : KBox W2 w0.heap.size (.func (.func 118) #[] #[]) (.func (.func 119) #[] #[]) := (hb2.block _ hlB).trans hkb
    refine hK.out _ _ ⟨hvb2.cells, hkb2.cells.1.1⟩ (fun hHeld => ?_)
    clear hK
    try simp only [Act.put, List.setIfInBounds_toArray, List.set_cons_zero, List.set_cons_succ]
    by_cases hq : i = i ∧ u = 0 ∧ s = ByteArray.empty
    · obtain ⟨q1, q2, q3⟩ := hq
      try subst q1
      try subst q2
      try subst q3
      have hne : ∀ w', (binOp .neq 28 (.agg #[.int .i64 3, .int .i64 i, .int .u64 0, .string ByteArray.empty]) (.agg #[.int .i64 3, .int .i64 i, .int .u64 0, .string ByteArray.empty])).run Tryz.prog w' = .ok (.bool false) w' := fun w' => by
        rw [neq_V]
        simp
      refine wpAnyH_takeL (i := 6) (v := ?vhy213) rfl (by kernel_rfl) (by kernel_rfl) (by kernel_rfl) (fun _ _ _ h => h) (Or.inl ⟨by rfl, ?hy213⟩) (by assumption) ?rhy213
      case hy213 => ((intro w hSw; (try dsimp only at hSw); go_simp); try with_reducible rfl)
      try simp only [Act.put, List.setIfInBounds_toArray, List.set_cons_zero, List.set_cons_succ]
      refine wpAnyH_takeL (i := 7) (v := ?vhy214) rfl (by kernel_rfl) (by kernel_rfl) (by kernel_rfl) (fun _ _ _ h => h) (Or.inl ⟨by rfl, ?hy214⟩) (by assumption) ?rhy214
      case hy214 => ((intro w hSw; (try dsimp only at hSw); go_simp); try with_reducible rfl)
      try simp only [Act.put, List.setIfInBounds_toArray, List.set_cons_zero, List.set_cons_succ]
      refine wpAnyH_takeL (i := 8) (v := ?vhy215) rfl (by kernel_rfl) (by kernel_rfl) (by kernel_rfl) (fun _ _ _ h => h) (Or.inl ⟨by rfl, ?hy215⟩) (by assumption) ?rhy215
      case hy215 => ((intro w hSw; (try dsimp only at hSw); go_simp); try with_reducible rfl)
      try simp only [Act.put, List.setIfInBounds_toArray, List.set_cons_zero, List.set_cons_succ]
      refine wpAnyH_takeL (i := 9) (v := ?vhy216) rfl (by kernel_rfl) (by kernel_rfl) (by kernel_rfl) (fun _ _ _ h => h) (Or.inl ⟨by rfl, ?hy216⟩) (by assumption) ?rhy216
      case hy216 => ((intro w hSw; (try dsimp only at hSw); go_simp); try with_reducible rfl)
      try simp only [Act.put, List.setIfInBounds_toArray, List.set_cons_zero, List.set_cons_succ]
      refine wpAnyH_takeL (i := 10) (v := ?vhy217) rfl (by kernel_rfl) (by kernel_rfl) (by kernel_rfl) (fun _ _ _ h => h) (Or.inl ⟨by rfl, ?hy217⟩) (by assumption) ?rhy217
      case hy217 => ((intro w hSw; (try dsimp only at hSw); go_simp); try with_reducible rfl)
      try simp only [Act.put, List.setIfInBounds_toArray, List.set_cons_zero, List.set_cons_succ]
      refine wpAnyH_takeL (i := 11) (v := ?vhy218) rfl (by kernel_rfl) (by kernel_rfl) (by kernel_rfl) (fun _ _ _ h => h) (Or.inl ⟨by rfl, ?hy218⟩) (by assumption) ?rhy218
      case hy218 => ((intro w hSw; (try dsimp only at hSw); go_simp); try with_reducible rfl)
      try simp only [Act.put, List.setIfInBounds_toArray, List.set_cons_zero, List.set_cons_succ]
      refine wpAnyH_ready (rs := [12]) (by kernel_rfl) (by simp) ?_
      refine AllReadyH.consL (i := 12) rfl (fun K hK => ?_) AllReadyH.nil
      go_simp
      refine (may_bool 3 i 0 ByteArray.empty _).mono ?_
      rintro e W3 ⟨rfl, hb3⟩
      try simp only [hdi]
      have hb23 := gr hb2 hb3
      have hvb3 := hvb.below hb23 hlW
      have hkb3 : KBox W3 w0.heap.size (.func (.func 118) #[] #[]) (.func (.func 119) #[] #[]) := (hb23.block _ hlB).trans hkb
      refine hK.out _ _ ⟨hvb3.cells, hkb3.cells.1.1⟩ (fun hHeld => ?_)
      clear hK
      try simp only [Act.put, List.setIfInBounds_toArray, List.set_cons_zero, List.set_cons_succ]
      refine wpAnyH_takeL (i := 13) (v := ?vhy219) rfl (by kernel_rfl) (by kernel_rfl) (by kernel_rfl) (fun _ _ _ h => h) (Or.inl ⟨by rfl, ?hy219⟩) (by assumption) ?rhy219
      case hy219 => ((intro w hSw; (try dsimp only at hSw); go_simp); try with_reducible rfl)
      try simp only [Act.put, List.setIfInBounds_toArray, List.set_cons_zero, List.set_cons_succ]
      refine wpAnyH_takeL (i := 14) (v := ?vhy220) rfl (by kernel_rfl) (by kernel_rfl) (by kernel_rfl) (fun _ _ _ h => h) (Or.inl ⟨by rfl, ?hy220⟩) (by assumption) ?rhy220
      case hy220 => ((intro w hSw; (try dsimp only at hSw); go_simp); try with_reducible rfl)
      try simp only [Act.put, List.setIfInBounds_toArray, List.set_cons_zero, List.set_cons_succ]
      refine wpAnyH_takeL (i := 15) (v := ?vhy221) rfl (by kernel_rfl) (by kernel_rfl) (by kernel_rfl) (fun _ _ _ h => h) (Or.inl ⟨by rfl, ?hy221⟩) (by assumption) ?rhy221
      case hy221 => ((intro w hSw; (try dsimp only at hSw); go_simp); try with_reducible rfl)
      try simp only [Act.put, List.setIfInBounds_toArray, List.set_cons_zero, List.set_cons_succ]
      refine wpAnyH_done (by kernel_rfl) ?_ _
      refine NoPanic.normal ?_
      have hfin := gr hb0 hb23
      have hc3 := hvb3.cells
      clear hkb3 hHeld hkb2 hvb2 hb2 hb3 hvb hvc hkc hkb hsf hsg
      go_wp2_with fail
      go_ret
      exact ⟨by simp [chkV, okV, hi3], hfin⟩
    · have hno := chk3_no hq
      have hne : ∀ w', (binOp .neq 28 (.agg #[.int .i64 3, .int .i64 i, .int .u64 u, .string s]) (.agg #[.int .i64 3, .int .i64 i, .int .u64 0, .string ByteArray.empty])).run Tryz.prog w' = .ok (.bool true) w' := fun w' => by
        rw [neq_V, neq_true hq]
      refine wpAnyH_takeL (i := 6) (v := ?vhy222) rfl (by kernel_rfl) (by kernel_rfl) (by kernel_rfl) (fun _ _ _ h => h) (Or.inl ⟨by rfl, ?hy222⟩) (by assumption) ?rhy222
      case hy222 => ((intro w hSw; (try dsimp only at hSw); go_simp); try with_reducible rfl)
      try simp only [Act.put, List.setIfInBounds_toArray, List.set_cons_zero, List.set_cons_succ]
      refine wpAnyH_takeL (i := 7) (v := ?vhy223) rfl (by kernel_rfl) (by kernel_rfl) (by kernel_rfl) (fun _ _ _ h => h) (Or.inl ⟨by rfl, ?hy223⟩) (by assumption) ?rhy223
      case hy223 => ((intro w hSw; (try dsimp only at hSw); go_simp); try with_reducible rfl)
      try simp only [Act.put, List.setIfInBounds_toArray, List.set_cons_zero, List.set_cons_succ]
      refine wpAnyH_takeL (i := 8) (v := ?vhy224) rfl (by kernel_rfl) (by kernel_rfl) (by kernel_rfl) (fun _ _ _ h => h) (Or.inl ⟨by rfl, ?hy224⟩) (by assumption) ?rhy224
      case hy224 => ((intro w hSw; (try dsimp only at hSw); go_simp); try with_reducible rfl)
      try simp only [Act.put, List.setIfInBounds_toArray, List.set_cons_zero, List.set_cons_succ]
      refine wpAnyH_takeL (i := 9) (v := undef) rfl (by kernel_rfl) (by kernel_rfl) (by kernel_rfl) (fun _ _ _ h => h) (Or.inr ⟨by rfl, rfl⟩) (by assumption) ?_
      try simp only [Act.put, List.setIfInBounds_toArray, List.set_cons_zero, List.set_cons_succ]
      refine wpAnyH_takeL (i := 10) (v := undef) rfl (by kernel_rfl) (by kernel_rfl) (by kernel_rfl) (fun _ _ _ h => h) (Or.inr ⟨by rfl, rfl⟩) (by assumption) ?_
      try simp only [Act.put, List.setIfInBounds_toArray, List.set_cons_zero, List.set_cons_succ]
      refine wpAnyH_takeL (i := 11) (v := undef) rfl (by kernel_rfl) (by kernel_rfl) (by kernel_rfl) (fun _ _ _ h => h) (Or.inr ⟨by rfl, rfl⟩) (by assumption) ?_
      try simp only [Act.put, List.setIfInBounds_toArray, List.set_cons_zero, List.set_cons_succ]
      refine wpAnyH_takeL (i := 12) (v := undef) rfl (by kernel_rfl) (by kernel_rfl) (by kernel_rfl) (fun _ _ _ h => h) (Or.inr ⟨by rfl, rfl⟩) (by assumption) ?_
      try simp only [Act.put, List.setIfInBounds_toArray, List.set_cons_zero, List.set_cons_succ]
      refine wpAnyH_takeL (i := 13) (v := undef) rfl (by kernel_rfl) (by kernel_rfl) (by kernel_rfl) (fun _ _ _ h => h) (Or.inr ⟨by rfl, rfl⟩) (by assumption) ?_
      try simp only [Act.put, List.setIfInBounds_toArray, List.set_cons_zero, List.set_cons_succ]
      refine wpAnyH_takeL (i := 14) (v := ?vhy225) rfl (by kernel_rfl) (by kernel_rfl) (by kernel_rfl) (fun _ _ _ h => h) (Or.inl ⟨by rfl, ?hy225⟩) (by assumption) ?rhy225
      case hy225 => ((intro w hSw; (try dsimp only at hSw); go_simp); try with_reducible rfl)
      try simp only [Act.put, List.setIfInBounds_toArray, List.set_cons_zero, List.set_cons_succ]
      refine wpAnyH_takeL (i := 15) (v := ?vhy226) rfl (by kernel_rfl) (by kernel_rfl) (by kernel_rfl) (fun _ _ _ h => h) (Or.inl ⟨by rfl, ?hy226⟩) (by assumption) ?rhy226
      case hy226 => ((intro w hSw; (try dsimp only at hSw); go_simp); try with_reducible rfl)
      try simp only [Act.put, List.setIfInBounds_toArray, List.set_cons_zero, List.set_cons_succ]
      refine wpAnyH_done (by kernel_rfl) ?_ _
      refine NoPanic.normal ?_
      have hfin := gr hb0 hb2
      go_wp2
      go_ret
      exact ⟨by first | (rw [hno]; rfl) | rfl, hfin⟩
set_option maxRecDepth 100000 in
set_option maxHeartbeats 2000000 in
theorem Check_3y (i u : Int) (s : ByteArray) (w : World) (hs : s.size ≤ maxLen) (hi3 : (i = 0 ∨ i = 1)) : Calls Tryz.prog 55 #[.agg #[.int .i64 3, .int .i64 i, .int .u64 u, .string s]] w fun e w' => e = .returned (.int .i64 (chkV 3 i u s : Int)) ∧ Below w.heap.size w w' := by
  have hdi : decide (i = 0 ∨ i = 1) = true := by simpa using hi3
  have hlk : ∀ w' r, IMap w' r .i64 VKinds → (Instr.lookup 142 (.map (some r)) (.int .i64 3) true).run Tryz.prog w' = .ok (.tuple #[.agg #[.func (.func 118) #[] #[], .func (.func 119) #[] #[]], .bool true]) w' := fun w' r hm =>
    hm.look _ _ _ Tryz.underlying142 Tryz.underlying25 3 3 _ rfl
  have hsf := fun (a : Addr) (w : World) (m : Mode) => (run_store Tryz.prog w a (.func (.func 118) #[] #[]) m rfl : _ = stored Tryz.prog w a (.func (.func 118) #[] #[]) m)
  have hsg := fun (a : Addr) (w : World) (m : Mode) => (run_store Tryz.prog w a (.func (.func 119) #[] #[]) m rfl : _ = stored Tryz.prog w a (.func (.func 119) #[] #[]) m)
  have hbox := VBox.new w 3 i u s
  have hb0 : Below w.heap.size w (w.alloc (.cells #[.int .i64 3, .int .i64 i, .int .u64 u, .string s] 28)) := (Below.refl _ w).alloc (Nat.le_refl _) _
  go_enter Tryz.func55, Tryz.ntmps55
  go_wp2_with fail
  generalize (w.alloc (.cells #[.int .i64 3, .int .i64 i, .int .u64 u, .string s] 28)) = w0 at *
  have hlt : w.heap.size < w0.heap.size := hbox.lt
  refine wp_region_noPanic ?_
  refine wp_region_held_drew (S := fun w' => w'.cell? ⟨w.heap.size, 0, none⟩ = some (.int .i64 3)) (by kernel_rfl) (VBox.cells (W := w0.drew) hbox).1 (fun hHeld => ?_)
  refine wpAnyH_takeL (i := 1) (v := ?vhy227) rfl (by kernel_rfl) (by kernel_rfl) (by kernel_rfl) (fun _ _ _ h => h) (Or.inl ⟨by rfl, ?hy227⟩) (by assumption) ?rhy227
  case hy227 => ((intro w hSw; (try dsimp only at hSw); go_simp); try with_reducible rfl)
  try simp only [Act.put, List.setIfInBounds_toArray, List.set_cons_zero, List.set_cons_succ]
  refine wpAnyH_takeL (i := 2) (v := ?vhy228) rfl (by kernel_rfl) (by kernel_rfl) (by kernel_rfl) (fun _ _ _ h => h) (Or.inl ⟨by rfl, ?hy228⟩) (by assumption) ?rhy228
  case hy228 => ((intro w hSw; (try dsimp only at hSw); go_simp); try with_reducible rfl)
  try simp only [Act.put, List.setIfInBounds_toArray, List.set_cons_zero, List.set_cons_succ]
  refine wpAnyH_ready (rs := [0, 7]) (by kernel_rfl) (by simp) ?_
  refine AllReadyH.consL (i := 0) rfl (fun K hK => ?_) (AllReadyH.consL (i := 7) rfl (fun K hK => ?_) AllReadyH.nil)
  · go_simp
    refine (vkinds_any _).mono ?_
    rintro e w1 ⟨r, rfl, hm, hb1, hr1⟩
    replace hb1 := gr ((Below.refl _ w0).drew) hb1
    refine hK.out _ _ (hbox.below hb1 hlt).cells.1 (fun hHeld => ?_)
    clear hK hHeld
    refine wpAnyH_more (S' := fun w' => IMap w' r .i64 VKinds ∧ Below w0.heap.size w0 w') (fun w' h => (hbox.below h.2 hlt).cells.1) ?_
    have hHeld : IMap w1 r .i64 VKinds ∧ Below w0.heap.size w0 w1 := ⟨hm, hb1⟩
    try simp only [Act.put, List.setIfInBounds_toArray, List.set_cons_zero, List.set_cons_succ]
    refine wpAnyH_takeL (i := 3) (v := ?vhy229) rfl (by kernel_rfl) (by kernel_rfl) (by kernel_rfl) (fun _ _ _ h => h) (Or.inl ⟨by rfl, ?hy229⟩) (by assumption) ?rhy229
    case hy229 => ((intro w hSw; (try dsimp only at hSw); go_simp); try with_reducible rfl)
    try simp only [Act.put, List.setIfInBounds_toArray, List.set_cons_zero, List.set_cons_succ]
    refine wpAnyH_takeL (i := 4) (v := ?vhy230) rfl (by kernel_rfl) (by kernel_rfl) (by kernel_rfl) (fun _ _ _ h => h) (Or.inl ⟨by rfl, ?hy230⟩) (by assumption) ?rhy230
    case hy230 => ((intro w hSw; (try dsimp only at hSw); go_simp); try with_reducible rfl)
    try simp only [Act.put, List.setIfInBounds_toArray, List.set_cons_zero, List.set_cons_succ]
    refine wpAnyH_takeL (i := 5) (v := ?vhy231) rfl (by kernel_rfl) (by kernel_rfl) (by kernel_rfl) (fun _ _ _ h => h) (Or.inl ⟨by rfl, ?hy231⟩) (by assumption) ?rhy231
    case hy231 => ((intro w hSw; (try dsimp only at hSw); go_simp); try with_reducible rfl)
    try simp only [Act.put, List.setIfInBounds_toArray, List.set_cons_zero, List.set_cons_succ]
    refine wpAnyH_takeL (i := 6) (v := ?vhy232) rfl (by kernel_rfl) (by kernel_rfl) (by kernel_rfl) (fun _ _ _ h => h) (Or.inl ⟨by rfl, ?hy232⟩) (by assumption) ?rhy232
    case hy232 => ((intro w hSw; (try dsimp only at hSw); go_simp); try with_reducible rfl)
    try simp only [Act.put, List.setIfInBounds_toArray, List.set_cons_zero, List.set_cons_succ]
    refine wpAnyH_ready (rs := [7]) (by kernel_rfl) (by simp) ?_
    refine AllReadyH.consL (i := 7) rfl (fun K hK => ?_) AllReadyH.nil
    go_simp
    have hs2 := (Below.refl w1.heap.size w1).alloc (Nat.le_refl _) (.cells #[.nilFunc, .nilFunc] 140)
    refine hK.out _ _ ⟨hm.below hs2, gr hb1 hs2⟩ (fun hHeld => ?_)
    clear hK
    try simp only [Act.put, List.setIfInBounds_toArray, List.set_cons_zero, List.set_cons_succ]
    refine wpAnyH_ready (rs := [8]) (by kernel_rfl) (by simp) ?_
    refine AllReadyH.consL (i := 8) rfl (fun K hK => ?_) AllReadyH.nil
    go_simp
    have hs3 := (Below.refl w1.heap.size w1).alloc (Nat.le_refl _) (.cells #[(.func (.func 118) #[] #[]), (.func (.func 119) #[] #[])] 140)
    have hkb : KBox (w1.alloc (.cells #[(.func (.func 118) #[] #[]), (.func (.func 119) #[] #[])] 140)) w1.heap.size (.func (.func 118) #[] #[]) (.func (.func 119) #[] #[]) := World.alloc_heap_new w1 _
    refine hK.out _ _ ⟨hm.below hs3, gr hb1 hs3⟩ (fun hHeld => ?_)
    clear hK
    replace hb1 := gr hb1 hs3
    generalize (w1.alloc (.cells #[(.func (.func 118) #[] #[]), (.func (.func 119) #[] #[])] 140)) = W at *
    try simp only [Act.put, List.setIfInBounds_toArray, List.set_cons_zero, List.set_cons_succ]
    refine wpAnyH_takeL (i := 9) (v := ?vhy233) rfl (by kernel_rfl) (by kernel_rfl) (by kernel_rfl) (fun _ _ _ h => h) (Or.inl ⟨by rfl, ?hy233⟩) (by assumption) ?rhy233
    case hy233 => ((intro w hSw; (try dsimp only at hSw); go_simp); try with_reducible rfl)
    try simp only [Act.put, List.setIfInBounds_toArray, List.set_cons_zero, List.set_cons_succ]
    refine wpAnyH_done (by kernel_rfl) ?_ _
    refine NoPanic.normal ?_
    clear hHeld hm hlk
    have hvb := hbox.below hb1 hlt
    replace hb0 := gr hb0 hb1
    clear hb1 hbox
    go_wp2_with fail
    have hkc := hkb.cells.1.1
    have hvc := hvb.cells
    have hbe : bareV 3 i u s = .agg #[.int .i64 3, .int .i64 i, .int .u64 0, .string ByteArray.empty] := by simp [bareV, valV]
    refine wp_region_noPanic ?_
    refine wp_region_held_drew (S := fun w' => (w'.cell? ⟨w.heap.size, 0, none⟩ = some (.int .i64 3) ∧ w'.cell? ⟨w.heap.size, 1, none⟩ = some (.int .i64 i) ∧ w'.cell? ⟨w.heap.size, 2, none⟩ = some (.int .u64 u) ∧ w'.cell? ⟨w.heap.size, 3, none⟩ = some (.string s)) ∧ w'.cell? ⟨w1.heap.size, 0, none⟩ = some (.func (.func 118) #[] #[])) (by kernel_rfl) ⟨hvc, hkc⟩ (fun hHeld => ?_)
    refine wpAnyH_takeL (i := 0) (v := ?vhy234) rfl (by kernel_rfl) (by kernel_rfl) (by kernel_rfl) (fun _ _ _ h => h) (Or.inl ⟨by rfl, ?hy234⟩) (by assumption) ?rhy234
    case hy234 => ((intro w hSw; (try dsimp only at hSw); go_simp); try with_reducible rfl)
    try simp only [Act.put, List.setIfInBounds_toArray, List.set_cons_zero, List.set_cons_succ]
    refine wpAnyH_takeL (i := 1) (v := ?vhy235) rfl (by kernel_rfl) (by kernel_rfl) (by kernel_rfl) (fun _ _ _ h => h) (Or.inl ⟨by rfl, ?hy235⟩) (by assumption) ?rhy235
    case hy235 => ((intro w hSw; (try dsimp only at hSw); go_simp); try with_reducible rfl)
    try simp only [Act.put, List.setIfInBounds_toArray, List.set_cons_zero, List.set_cons_succ]
    refine wpAnyH_takeL (i := 2) (v := ?vhy236) rfl (by kernel_rfl) (by kernel_rfl) (by kernel_rfl) (fun _ _ _ h => h) (Or.inl ⟨by rfl, ?hy236⟩) (by assumption) ?rhy236
    case hy236 => ((intro w hSw; (try dsimp only at hSw); go_simp); try with_reducible rfl)
    try simp only [Act.put, List.setIfInBounds_toArray, List.set_cons_zero, List.set_cons_succ]
    refine wpAnyH_takeL (i := 3) (v := ?vhy237) rfl (by kernel_rfl) (by kernel_rfl) (by kernel_rfl) (fun _ _ _ h => h) (Or.inl ⟨by rfl, ?hy237⟩) (by assumption) ?rhy237
    case hy237 => ((intro w hSw; (try dsimp only at hSw); go_simp); try with_reducible rfl)
    try simp only [Act.put, List.setIfInBounds_toArray, List.set_cons_zero, List.set_cons_succ]
    refine wpAnyH_takeL (i := 4) (v := ?vhy238) rfl (by kernel_rfl) (by kernel_rfl) (by kernel_rfl) (fun _ _ _ h => h) (Or.inl ⟨by rfl, ?hy238⟩) (by assumption) ?rhy238
    case hy238 => ((intro w hSw; (try dsimp only at hSw); go_simp); try with_reducible rfl)
    try simp only [Act.put, List.setIfInBounds_toArray, List.set_cons_zero, List.set_cons_succ]
    refine wpAnyH_ready (rs := [5]) (by kernel_rfl) (by simp) ?_
    refine AllReadyH.consL (i := 5) rfl (fun K hK => ?_) AllReadyH.nil
    go_simp
    refine (bare_any 3 i u s _).mono ?_
    rw [hbe]
    rintro e W2 ⟨rfl, hb2⟩
    replace hb2 := gr ((Below.refl _ W).drew) hb2
    have hlW := hvb.lt
    have hlB : w1.heap.size < W.heap.size := (Array.getElem?_eq_some_iff.1 hkb).1
    have hvb2 := hvb.below hb2 hlW
    have hkb2 : KBox W2 w1.heap.size (.func (.func 118) #[] #[]) (.func (.func 119) #[] #[]) := (hb2.block _ hlB).trans hkb
    refine hK.out _ _ ⟨hvb2.cells, hkb2.cells.1.1⟩ (fun hHeld => ?_)
    clear hK
    try simp only [Act.put, List.setIfInBounds_toArray, List.set_cons_zero, List.set_cons_succ]
    by_cases hq : i = i ∧ u = 0 ∧ s = ByteArray.empty
    · obtain ⟨q1, q2, q3⟩ := hq
      try subst q1
      try subst q2
      try subst q3
      have hne : ∀ w', (binOp .neq 28 (.agg #[.int .i64 3, .int .i64 i, .int .u64 0, .string ByteArray.empty]) (.agg #[.int .i64 3, .int .i64 i, .int .u64 0, .string ByteArray.empty])).run Tryz.prog w' = .ok (.bool false) w' := fun w' => by
        rw [neq_V]
        simp
      refine wpAnyH_takeL (i := 6) (v := ?vhy239) rfl (by kernel_rfl) (by kernel_rfl) (by kernel_rfl) (fun _ _ _ h => h) (Or.inl ⟨by rfl, ?hy239⟩) (by assumption) ?rhy239
      case hy239 => ((intro w hSw; (try dsimp only at hSw); go_simp); try with_reducible rfl)
      try simp only [Act.put, List.setIfInBounds_toArray, List.set_cons_zero, List.set_cons_succ]
      refine wpAnyH_takeL (i := 7) (v := ?vhy240) rfl (by kernel_rfl) (by kernel_rfl) (by kernel_rfl) (fun _ _ _ h => h) (Or.inl ⟨by rfl, ?hy240⟩) (by assumption) ?rhy240
      case hy240 => ((intro w hSw; (try dsimp only at hSw); go_simp); try with_reducible rfl)
      try simp only [Act.put, List.setIfInBounds_toArray, List.set_cons_zero, List.set_cons_succ]
      refine wpAnyH_takeL (i := 8) (v := ?vhy241) rfl (by kernel_rfl) (by kernel_rfl) (by kernel_rfl) (fun _ _ _ h => h) (Or.inl ⟨by rfl, ?hy241⟩) (by assumption) ?rhy241
      case hy241 => ((intro w hSw; (try dsimp only at hSw); go_simp); try with_reducible rfl)
      try simp only [Act.put, List.setIfInBounds_toArray, List.set_cons_zero, List.set_cons_succ]
      refine wpAnyH_takeL (i := 9) (v := ?vhy242) rfl (by kernel_rfl) (by kernel_rfl) (by kernel_rfl) (fun _ _ _ h => h) (Or.inl ⟨by rfl, ?hy242⟩) (by assumption) ?rhy242
      case hy242 => ((intro w hSw; (try dsimp only at hSw); go_simp); try with_reducible rfl)
      try simp only [Act.put, List.setIfInBounds_toArray, List.set_cons_zero, List.set_cons_succ]
      refine wpAnyH_takeL (i := 10) (v := ?vhy243) rfl (by kernel_rfl) (by kernel_rfl) (by kernel_rfl) (fun _ _ _ h => h) (Or.inl ⟨by rfl, ?hy243⟩) (by assumption) ?rhy243
      case hy243 => ((intro w hSw; (try dsimp only at hSw); go_simp); try with_reducible rfl)
      try simp only [Act.put, List.setIfInBounds_toArray, List.set_cons_zero, List.set_cons_succ]
      refine wpAnyH_takeL (i := 11) (v := ?vhy244) rfl (by kernel_rfl) (by kernel_rfl) (by kernel_rfl) (fun _ _ _ h => h) (Or.inl ⟨by rfl, ?hy244⟩) (by assumption) ?rhy244
      case hy244 => ((intro w hSw; (try dsimp only at hSw); go_simp); try with_reducible rfl)
      try simp only [Act.put, List.setIfInBounds_toArray, List.set_cons_zero, List.set_cons_succ]
      refine wpAnyH_ready (rs := [12]) (by kernel_rfl) (by simp) ?_
      refine AllReadyH.consL (i := 12) rfl (fun K hK => ?_) AllReadyH.nil
      go_simp
      refine (may_bool 3 i 0 ByteArray.empty _).mono ?_
      rintro e W3 ⟨rfl, hb3⟩
      try simp only [hdi]
      have hb23 := gr hb2 hb3
      have hvb3 := hvb.below hb23 hlW
      have hkb3 : KBox W3 w1.heap.size (.func (.func 118) #[] #[]) (.func (.func 119) #[] #[]) := (hb23.block _ hlB).trans hkb
      refine hK.out _ _ ⟨hvb3.cells, hkb3.cells.1.1⟩ (fun hHeld => ?_)
      clear hK
      try simp only [Act.put, List.setIfInBounds_toArray, List.set_cons_zero, List.set_cons_succ]
      refine wpAnyH_takeL (i := 13) (v := ?vhy245) rfl (by kernel_rfl) (by kernel_rfl) (by kernel_rfl) (fun _ _ _ h => h) (Or.inl ⟨by rfl, ?hy245⟩) (by assumption) ?rhy245
      case hy245 => ((intro w hSw; (try dsimp only at hSw); go_simp); try with_reducible rfl)
      try simp only [Act.put, List.setIfInBounds_toArray, List.set_cons_zero, List.set_cons_succ]
      refine wpAnyH_takeL (i := 14) (v := ?vhy246) rfl (by kernel_rfl) (by kernel_rfl) (by kernel_rfl) (fun _ _ _ h => h) (Or.inl ⟨by rfl, ?hy246⟩) (by assumption) ?rhy246
      case hy246 => ((intro w hSw; (try dsimp only at hSw); go_simp); try with_reducible rfl)
      try simp only [Act.put, List.setIfInBounds_toArray, List.set_cons_zero, List.set_cons_succ]
      refine wpAnyH_takeL (i := 15) (v := ?vhy247) rfl (by kernel_rfl) (by kernel_rfl) (by kernel_rfl) (fun _ _ _ h => h) (Or.inl ⟨by rfl, ?hy247⟩) (by assumption) ?rhy247
      case hy247 => ((intro w hSw; (try dsimp only at hSw); go_simp); try with_reducible rfl)
      try simp only [Act.put, List.setIfInBounds_toArray, List.set_cons_zero, List.set_cons_succ]
      refine wpAnyH_done (by kernel_rfl) ?_ _
      refine NoPanic.normal ?_
      have hfin := gr hb0 hb23
      have hc3 := hvb3.cells
      clear hkb3 hHeld hkb2 hvb2 hb2 hb3 hvb hvc hkc hkb hsf hsg
      go_wp2_with fail
      go_ret
      exact ⟨by simp [chkV, okV, hi3], hfin⟩
    · have hno := chk3_no hq
      have hne : ∀ w', (binOp .neq 28 (.agg #[.int .i64 3, .int .i64 i, .int .u64 u, .string s]) (.agg #[.int .i64 3, .int .i64 i, .int .u64 0, .string ByteArray.empty])).run Tryz.prog w' = .ok (.bool true) w' := fun w' => by
        rw [neq_V, neq_true hq]
      refine wpAnyH_takeL (i := 6) (v := ?vhy248) rfl (by kernel_rfl) (by kernel_rfl) (by kernel_rfl) (fun _ _ _ h => h) (Or.inl ⟨by rfl, ?hy248⟩) (by assumption) ?rhy248
      case hy248 => ((intro w hSw; (try dsimp only at hSw); go_simp); try with_reducible rfl)
      try simp only [Act.put, List.setIfInBounds_toArray, List.set_cons_zero, List.set_cons_succ]
      refine wpAnyH_takeL (i := 7) (v := ?vhy249) rfl (by kernel_rfl) (by kernel_rfl) (by kernel_rfl) (fun _ _ _ h => h) (Or.inl ⟨by rfl, ?hy249⟩) (by assumption) ?rhy249
      case hy249 => ((intro w hSw; (try dsimp only at hSw); go_simp); try with_reducible rfl)
      try simp only [Act.put, List.setIfInBounds_toArray, List.set_cons_zero, List.set_cons_succ]
      refine wpAnyH_takeL (i := 8) (v := ?vhy250) rfl (by kernel_rfl) (by kernel_rfl) (by kernel_rfl) (fun _ _ _ h => h) (Or.inl ⟨by rfl, ?hy250⟩) (by assumption) ?rhy250
      case hy250 => ((intro w hSw; (try dsimp only at hSw); go_simp); try with_reducible rfl)
      try simp only [Act.put, List.setIfInBounds_toArray, List.set_cons_zero, List.set_cons_succ]
      refine wpAnyH_takeL (i := 9) (v := undef) rfl (by kernel_rfl) (by kernel_rfl) (by kernel_rfl) (fun _ _ _ h => h) (Or.inr ⟨by rfl, rfl⟩) (by assumption) ?_
      try simp only [Act.put, List.setIfInBounds_toArray, List.set_cons_zero, List.set_cons_succ]
      refine wpAnyH_takeL (i := 10) (v := undef) rfl (by kernel_rfl) (by kernel_rfl) (by kernel_rfl) (fun _ _ _ h => h) (Or.inr ⟨by rfl, rfl⟩) (by assumption) ?_
      try simp only [Act.put, List.setIfInBounds_toArray, List.set_cons_zero, List.set_cons_succ]
      refine wpAnyH_takeL (i := 11) (v := undef) rfl (by kernel_rfl) (by kernel_rfl) (by kernel_rfl) (fun _ _ _ h => h) (Or.inr ⟨by rfl, rfl⟩) (by assumption) ?_
      try simp only [Act.put, List.setIfInBounds_toArray, List.set_cons_zero, List.set_cons_succ]
      refine wpAnyH_takeL (i := 12) (v := undef) rfl (by kernel_rfl) (by kernel_rfl) (by kernel_rfl) (fun _ _ _ h => h) (Or.inr ⟨by rfl, rfl⟩) (by assumption) ?_
      try simp only [Act.put, List.setIfInBounds_toArray, List.set_cons_zero, List.set_cons_succ]
      refine wpAnyH_takeL (i := 13) (v := undef) rfl (by kernel_rfl) (by kernel_rfl) (by kernel_rfl) (fun _ _ _ h => h) (Or.inr ⟨by rfl, rfl⟩) (by assumption) ?_
      try simp only [Act.put, List.setIfInBounds_toArray, List.set_cons_zero, List.set_cons_succ]
      refine wpAnyH_takeL (i := 14) (v := ?vhy251) rfl (by kernel_rfl) (by kernel_rfl) (by kernel_rfl) (fun _ _ _ h => h) (Or.inl ⟨by rfl, ?hy251⟩) (by assumption) ?rhy251
      case hy251 => ((intro w hSw; (try dsimp only at hSw); go_simp); try with_reducible rfl)
      try simp only [Act.put, List.setIfInBounds_toArray, List.set_cons_zero, List.set_cons_succ]
      refine wpAnyH_takeL (i := 15) (v := ?vhy252) rfl (by kernel_rfl) (by kernel_rfl) (by kernel_rfl) (fun _ _ _ h => h) (Or.inl ⟨by rfl, ?hy252⟩) (by assumption) ?rhy252
      case hy252 => ((intro w hSw; (try dsimp only at hSw); go_simp); try with_reducible rfl)
      try simp only [Act.put, List.setIfInBounds_toArray, List.set_cons_zero, List.set_cons_succ]
      refine wpAnyH_done (by kernel_rfl) ?_ _
      refine NoPanic.normal ?_
      have hfin := gr hb0 hb2
      go_wp2
      go_ret
      exact ⟨by first | (rw [hno]; rfl) | rfl, hfin⟩
  · go_simp
    have hs2 := (Below.refl w0.heap.size w0).alloc (Nat.le_refl _) (.cells #[.nilFunc, .nilFunc] 140)
    have hkn : KBox (w0.alloc (.cells #[.nilFunc, .nilFunc] 140)) w0.heap.size .nilFunc .nilFunc := World.alloc_heap_new w0 _
    have hln : w0.heap.size < (w0.alloc (.cells #[.nilFunc, .nilFunc] 140)).heap.size := by simp
    refine hK.out _ _ (VBox.cells (W := (w0.alloc (.cells #[.nilFunc, .nilFunc] 140)).drew) (hbox.below hs2.drew hlt)).1 (fun hHeld => ?_)
    clear hK
    try simp only [Act.put, List.setIfInBounds_toArray, List.set_cons_zero, List.set_cons_succ]
    refine wpAnyH_ready (rs := [0]) (by kernel_rfl) (by simp) ?_
    refine AllReadyH.consL (i := 0) rfl (fun K hK => ?_) AllReadyH.nil
    go_simp
    refine (vkinds_any _).mono ?_
    rintro e w1 ⟨r, rfl, hm, hb1, hr1⟩
    replace hr1 : w0.heap.size < r := Nat.lt_of_lt_of_le hln hr1
    replace hkn : KBox w1 w0.heap.size .nilFunc .nilFunc := (hb1.block _ hln).trans hkn
    replace hb1 := gr hs2.drew hb1
    refine hK.out _ _ (hbox.below hb1 hlt).cells.1 (fun hHeld => ?_)
    clear hK hHeld
    refine wpAnyH_more (S' := fun w' => IMap w' r .i64 VKinds ∧ Below w0.heap.size w0 w') (fun w' h => (hbox.below h.2 hlt).cells.1) ?_
    have hHeld : IMap w1 r .i64 VKinds ∧ Below w0.heap.size w0 w1 := ⟨hm, hb1⟩
    try simp only [Act.put, List.setIfInBounds_toArray, List.set_cons_zero, List.set_cons_succ]
    refine wpAnyH_takeL (i := 3) (v := ?vhy253) rfl (by kernel_rfl) (by kernel_rfl) (by kernel_rfl) (fun _ _ _ h => h) (Or.inl ⟨by rfl, ?hy253⟩) (by assumption) ?rhy253
    case hy253 => ((intro w hSw; (try dsimp only at hSw); go_simp); try with_reducible rfl)
    try simp only [Act.put, List.setIfInBounds_toArray, List.set_cons_zero, List.set_cons_succ]
    refine wpAnyH_takeL (i := 4) (v := ?vhy254) rfl (by kernel_rfl) (by kernel_rfl) (by kernel_rfl) (fun _ _ _ h => h) (Or.inl ⟨by rfl, ?hy254⟩) (by assumption) ?rhy254
    case hy254 => ((intro w hSw; (try dsimp only at hSw); go_simp); try with_reducible rfl)
    try simp only [Act.put, List.setIfInBounds_toArray, List.set_cons_zero, List.set_cons_succ]
    refine wpAnyH_takeL (i := 5) (v := ?vhy255) rfl (by kernel_rfl) (by kernel_rfl) (by kernel_rfl) (fun _ _ _ h => h) (Or.inl ⟨by rfl, ?hy255⟩) (by assumption) ?rhy255
    case hy255 => ((intro w hSw; (try dsimp only at hSw); go_simp); try with_reducible rfl)
    try simp only [Act.put, List.setIfInBounds_toArray, List.set_cons_zero, List.set_cons_succ]
    refine wpAnyH_takeL (i := 6) (v := ?vhy256) rfl (by kernel_rfl) (by kernel_rfl) (by kernel_rfl) (fun _ _ _ h => h) (Or.inl ⟨by rfl, ?hy256⟩) (by assumption) ?rhy256
    case hy256 => ((intro w hSw; (try dsimp only at hSw); go_simp); try with_reducible rfl)
    try simp only [Act.put, List.setIfInBounds_toArray, List.set_cons_zero, List.set_cons_succ]
    have hkc := hkn.cells
    refine wpAnyH_ready (rs := [8]) (by kernel_rfl) (by simp) ?_
    refine AllReadyH.consL (i := 8) rfl (fun K hK => ?_) AllReadyH.nil
    go_simp
    have hkb := hkn.set (.func (.func 118) #[] #[]) (.func (.func 119) #[] #[])
    have hg1' := (grownBy_setCell_at w1 ⟨w0.heap.size, 0, none⟩ (.func (.func 118) #[] #[]))
    have hg2' := (grownBy_setCell_at (w1.setCell ⟨w0.heap.size, 0, none⟩ (.func (.func 118) #[] #[])) ⟨w0.heap.size, 1, none⟩ (.func (.func 119) #[] #[]))
    have hm2 := (hm.kept hg1' (by simp; omega)).kept hg2' (by simp; omega)
    have hb2 := (hb1.setCell (p := ⟨w0.heap.size, 0, none⟩) (Nat.le_refl _) (.func (.func 118) #[] #[])).setCell (p := ⟨w0.heap.size, 1, none⟩) (Nat.le_refl _) (.func (.func 119) #[] #[])
    refine hK.out _ _ ⟨hm2, hb2⟩ (fun hHeld => ?_)
    clear hK hg1' hg2' hm2 hkc hkn
    replace hb1 := hb2
    clear hb2
    generalize ((w1.setCell ⟨w0.heap.size, 0, none⟩ (.func (.func 118) #[] #[])).setCell ⟨w0.heap.size, 1, none⟩ (.func (.func 119) #[] #[])) = W at *
    try simp only [Act.put, List.setIfInBounds_toArray, List.set_cons_zero, List.set_cons_succ]
    refine wpAnyH_takeL (i := 9) (v := ?vhy257) rfl (by kernel_rfl) (by kernel_rfl) (by kernel_rfl) (fun _ _ _ h => h) (Or.inl ⟨by rfl, ?hy257⟩) (by assumption) ?rhy257
    case hy257 => ((intro w hSw; (try dsimp only at hSw); go_simp); try with_reducible rfl)
    try simp only [Act.put, List.setIfInBounds_toArray, List.set_cons_zero, List.set_cons_succ]
    refine wpAnyH_done (by kernel_rfl) ?_ _
    refine NoPanic.normal ?_
    clear hHeld hm hlk
    have hvb := hbox.below hb1 hlt
    replace hb0 := gr hb0 hb1
    clear hb1 hbox
    go_wp2_with fail
    have hkc := hkb.cells.1.1
    have hvc := hvb.cells
    have hbe : bareV 3 i u s = .agg #[.int .i64 3, .int .i64 i, .int .u64 0, .string ByteArray.empty] := by simp [bareV, valV]
    refine wp_region_noPanic ?_
    refine wp_region_held_drew (S := fun w' => (w'.cell? ⟨w.heap.size, 0, none⟩ = some (.int .i64 3) ∧ w'.cell? ⟨w.heap.size, 1, none⟩ = some (.int .i64 i) ∧ w'.cell? ⟨w.heap.size, 2, none⟩ = some (.int .u64 u) ∧ w'.cell? ⟨w.heap.size, 3, none⟩ = some (.string s)) ∧ w'.cell? ⟨w0.heap.size, 0, none⟩ = some (.func (.func 118) #[] #[])) (by kernel_rfl) ⟨hvc, hkc⟩ (fun hHeld => ?_)
    refine wpAnyH_takeL (i := 0) (v := ?vhy258) rfl (by kernel_rfl) (by kernel_rfl) (by kernel_rfl) (fun _ _ _ h => h) (Or.inl ⟨by rfl, ?hy258⟩) (by assumption) ?rhy258
    case hy258 => ((intro w hSw; (try dsimp only at hSw); go_simp); try with_reducible rfl)
    try simp only [Act.put, List.setIfInBounds_toArray, List.set_cons_zero, List.set_cons_succ]
    refine wpAnyH_takeL (i := 1) (v := ?vhy259) rfl (by kernel_rfl) (by kernel_rfl) (by kernel_rfl) (fun _ _ _ h => h) (Or.inl ⟨by rfl, ?hy259⟩) (by assumption) ?rhy259
    case hy259 => ((intro w hSw; (try dsimp only at hSw); go_simp); try with_reducible rfl)
    try simp only [Act.put, List.setIfInBounds_toArray, List.set_cons_zero, List.set_cons_succ]
    refine wpAnyH_takeL (i := 2) (v := ?vhy260) rfl (by kernel_rfl) (by kernel_rfl) (by kernel_rfl) (fun _ _ _ h => h) (Or.inl ⟨by rfl, ?hy260⟩) (by assumption) ?rhy260
    case hy260 => ((intro w hSw; (try dsimp only at hSw); go_simp); try with_reducible rfl)
    try simp only [Act.put, List.setIfInBounds_toArray, List.set_cons_zero, List.set_cons_succ]
    refine wpAnyH_takeL (i := 3) (v := ?vhy261) rfl (by kernel_rfl) (by kernel_rfl) (by kernel_rfl) (fun _ _ _ h => h) (Or.inl ⟨by rfl, ?hy261⟩) (by assumption) ?rhy261
    case hy261 => ((intro w hSw; (try dsimp only at hSw); go_simp); try with_reducible rfl)
    try simp only [Act.put, List.setIfInBounds_toArray, List.set_cons_zero, List.set_cons_succ]
    refine wpAnyH_takeL (i := 4) (v := ?vhy262) rfl (by kernel_rfl) (by kernel_rfl) (by kernel_rfl) (fun _ _ _ h => h) (Or.inl ⟨by rfl, ?hy262⟩) (by assumption) ?rhy262
    case hy262 => ((intro w hSw; (try dsimp only at hSw); go_simp); try with_reducible rfl)
    try simp only [Act.put, List.setIfInBounds_toArray, List.set_cons_zero, List.set_cons_succ]
    refine wpAnyH_ready (rs := [5]) (by kernel_rfl) (by simp) ?_
    refine AllReadyH.consL (i := 5) rfl (fun K hK => ?_) AllReadyH.nil
    go_simp
    refine (bare_any 3 i u s _).mono ?_
    rw [hbe]
    rintro e W2 ⟨rfl, hb2⟩
    replace hb2 := gr ((Below.refl _ W).drew) hb2
    have hlW := hvb.lt
    have hlB : w0.heap.size < W.heap.size := (Array.getElem?_eq_some_iff.1 hkb).1
    have hvb2 := hvb.below hb2 hlW
    have hkb2 : KBox W2 w0.heap.size (.func (.func 118) #[] #[]) (.func (.func 119) #[] #[]) := (hb2.block _ hlB).trans hkb
    refine hK.out _ _ ⟨hvb2.cells, hkb2.cells.1.1⟩ (fun hHeld => ?_)
    clear hK
    try simp only [Act.put, List.setIfInBounds_toArray, List.set_cons_zero, List.set_cons_succ]
    by_cases hq : i = i ∧ u = 0 ∧ s = ByteArray.empty
    · obtain ⟨q1, q2, q3⟩ := hq
      try subst q1
      try subst q2
      try subst q3
      have hne : ∀ w', (binOp .neq 28 (.agg #[.int .i64 3, .int .i64 i, .int .u64 0, .string ByteArray.empty]) (.agg #[.int .i64 3, .int .i64 i, .int .u64 0, .string ByteArray.empty])).run Tryz.prog w' = .ok (.bool false) w' := fun w' => by
        rw [neq_V]
        simp
      refine wpAnyH_takeL (i := 6) (v := ?vhy263) rfl (by kernel_rfl) (by kernel_rfl) (by kernel_rfl) (fun _ _ _ h => h) (Or.inl ⟨by rfl, ?hy263⟩) (by assumption) ?rhy263
      case hy263 => ((intro w hSw; (try dsimp only at hSw); go_simp); try with_reducible rfl)
      try simp only [Act.put, List.setIfInBounds_toArray, List.set_cons_zero, List.set_cons_succ]
      refine wpAnyH_takeL (i := 7) (v := ?vhy264) rfl (by kernel_rfl) (by kernel_rfl) (by kernel_rfl) (fun _ _ _ h => h) (Or.inl ⟨by rfl, ?hy264⟩) (by assumption) ?rhy264
      case hy264 => ((intro w hSw; (try dsimp only at hSw); go_simp); try with_reducible rfl)
      try simp only [Act.put, List.setIfInBounds_toArray, List.set_cons_zero, List.set_cons_succ]
      refine wpAnyH_takeL (i := 8) (v := ?vhy265) rfl (by kernel_rfl) (by kernel_rfl) (by kernel_rfl) (fun _ _ _ h => h) (Or.inl ⟨by rfl, ?hy265⟩) (by assumption) ?rhy265
      case hy265 => ((intro w hSw; (try dsimp only at hSw); go_simp); try with_reducible rfl)
      try simp only [Act.put, List.setIfInBounds_toArray, List.set_cons_zero, List.set_cons_succ]
      refine wpAnyH_takeL (i := 9) (v := ?vhy266) rfl (by kernel_rfl) (by kernel_rfl) (by kernel_rfl) (fun _ _ _ h => h) (Or.inl ⟨by rfl, ?hy266⟩) (by assumption) ?rhy266
      case hy266 => ((intro w hSw; (try dsimp only at hSw); go_simp); try with_reducible rfl)
      try simp only [Act.put, List.setIfInBounds_toArray, List.set_cons_zero, List.set_cons_succ]
      refine wpAnyH_takeL (i := 10) (v := ?vhy267) rfl (by kernel_rfl) (by kernel_rfl) (by kernel_rfl) (fun _ _ _ h => h) (Or.inl ⟨by rfl, ?hy267⟩) (by assumption) ?rhy267
      case hy267 => ((intro w hSw; (try dsimp only at hSw); go_simp); try with_reducible rfl)
      try simp only [Act.put, List.setIfInBounds_toArray, List.set_cons_zero, List.set_cons_succ]
      refine wpAnyH_takeL (i := 11) (v := ?vhy268) rfl (by kernel_rfl) (by kernel_rfl) (by kernel_rfl) (fun _ _ _ h => h) (Or.inl ⟨by rfl, ?hy268⟩) (by assumption) ?rhy268
      case hy268 => ((intro w hSw; (try dsimp only at hSw); go_simp); try with_reducible rfl)
      try simp only [Act.put, List.setIfInBounds_toArray, List.set_cons_zero, List.set_cons_succ]
      refine wpAnyH_ready (rs := [12]) (by kernel_rfl) (by simp) ?_
      refine AllReadyH.consL (i := 12) rfl (fun K hK => ?_) AllReadyH.nil
      go_simp
      refine (may_bool 3 i 0 ByteArray.empty _).mono ?_
      rintro e W3 ⟨rfl, hb3⟩
      try simp only [hdi]
      have hb23 := gr hb2 hb3
      have hvb3 := hvb.below hb23 hlW
      have hkb3 : KBox W3 w0.heap.size (.func (.func 118) #[] #[]) (.func (.func 119) #[] #[]) := (hb23.block _ hlB).trans hkb
      refine hK.out _ _ ⟨hvb3.cells, hkb3.cells.1.1⟩ (fun hHeld => ?_)
      clear hK
      try simp only [Act.put, List.setIfInBounds_toArray, List.set_cons_zero, List.set_cons_succ]
      refine wpAnyH_takeL (i := 13) (v := ?vhy269) rfl (by kernel_rfl) (by kernel_rfl) (by kernel_rfl) (fun _ _ _ h => h) (Or.inl ⟨by rfl, ?hy269⟩) (by assumption) ?rhy269
      case hy269 => ((intro w hSw; (try dsimp only at hSw); go_simp); try with_reducible rfl)
      try simp only [Act.put, List.setIfInBounds_toArray, List.set_cons_zero, List.set_cons_succ]
      refine wpAnyH_takeL (i := 14) (v := ?vhy270) rfl (by kernel_rfl) (by kernel_rfl) (by kernel_rfl) (fun _ _ _ h => h) (Or.inl ⟨by rfl, ?hy270⟩) (by assumption) ?rhy270
      case hy270 => ((intro w hSw; (try dsimp only at hSw); go_simp); try with_reducible rfl)
      try simp only [Act.put, List.setIfInBounds_toArray, List.set_cons_zero, List.set_cons_succ]
      refine wpAnyH_takeL (i := 15) (v := ?vhy271) rfl (by kernel_rfl) (by kernel_rfl) (by kernel_rfl) (fun _ _ _ h => h) (Or.inl ⟨by rfl, ?hy271⟩) (by assumption) ?rhy271
      case hy271 => ((intro w hSw; (try dsimp only at hSw); go_simp); try with_reducible rfl)
      try simp only [Act.put, List.setIfInBounds_toArray, List.set_cons_zero, List.set_cons_succ]
      refine wpAnyH_done (by kernel_rfl) ?_ _
      refine NoPanic.normal ?_
      have hfin := gr hb0 hb23
      have hc3 := hvb3.cells
      clear hkb3 hHeld hkb2 hvb2 hb2 hb3 hvb hvc hkc hkb hsf hsg
      go_wp2_with fail
      go_ret
      exact ⟨by simp [chkV, okV, hi3], hfin⟩
    · have hno := chk3_no hq
      have hne : ∀ w', (binOp .neq 28 (.agg #[.int .i64 3, .int .i64 i, .int .u64 u, .string s]) (.agg #[.int .i64 3, .int .i64 i, .int .u64 0, .string ByteArray.empty])).run Tryz.prog w' = .ok (.bool true) w' := fun w' => by
        rw [neq_V, neq_true hq]
      refine wpAnyH_takeL (i := 6) (v := ?vhy272) rfl (by kernel_rfl) (by kernel_rfl) (by kernel_rfl) (fun _ _ _ h => h) (Or.inl ⟨by rfl, ?hy272⟩) (by assumption) ?rhy272
      case hy272 => ((intro w hSw; (try dsimp only at hSw); go_simp); try with_reducible rfl)
      try simp only [Act.put, List.setIfInBounds_toArray, List.set_cons_zero, List.set_cons_succ]
      refine wpAnyH_takeL (i := 7) (v := ?vhy273) rfl (by kernel_rfl) (by kernel_rfl) (by kernel_rfl) (fun _ _ _ h => h) (Or.inl ⟨by rfl, ?hy273⟩) (by assumption) ?rhy273
      case hy273 => ((intro w hSw; (try dsimp only at hSw); go_simp); try with_reducible rfl)
      try simp only [Act.put, List.setIfInBounds_toArray, List.set_cons_zero, List.set_cons_succ]
      refine wpAnyH_takeL (i := 8) (v := ?vhy274) rfl (by kernel_rfl) (by kernel_rfl) (by kernel_rfl) (fun _ _ _ h => h) (Or.inl ⟨by rfl, ?hy274⟩) (by assumption) ?rhy274
      case hy274 => ((intro w hSw; (try dsimp only at hSw); go_simp); try with_reducible rfl)
      try simp only [Act.put, List.setIfInBounds_toArray, List.set_cons_zero, List.set_cons_succ]
      refine wpAnyH_takeL (i := 9) (v := undef) rfl (by kernel_rfl) (by kernel_rfl) (by kernel_rfl) (fun _ _ _ h => h) (Or.inr ⟨by rfl, rfl⟩) (by assumption) ?_
      try simp only [Act.put, List.setIfInBounds_toArray, List.set_cons_zero, List.set_cons_succ]
      refine wpAnyH_takeL (i := 10) (v := undef) rfl (by kernel_rfl) (by kernel_rfl) (by kernel_rfl) (fun _ _ _ h => h) (Or.inr ⟨by rfl, rfl⟩) (by assumption) ?_
      try simp only [Act.put, List.setIfInBounds_toArray, List.set_cons_zero, List.set_cons_succ]
      refine wpAnyH_takeL (i := 11) (v := undef) rfl (by kernel_rfl) (by kernel_rfl) (by kernel_rfl) (fun _ _ _ h => h) (Or.inr ⟨by rfl, rfl⟩) (by assumption) ?_
      try simp only [Act.put, List.setIfInBounds_toArray, List.set_cons_zero, List.set_cons_succ]
      refine wpAnyH_takeL (i := 12) (v := undef) rfl (by kernel_rfl) (by kernel_rfl) (by kernel_rfl) (fun _ _ _ h => h) (Or.inr ⟨by rfl, rfl⟩) (by assumption) ?_
      try simp only [Act.put, List.setIfInBounds_toArray, List.set_cons_zero, List.set_cons_succ]
      refine wpAnyH_takeL (i := 13) (v := undef) rfl (by kernel_rfl) (by kernel_rfl) (by kernel_rfl) (fun _ _ _ h => h) (Or.inr ⟨by rfl, rfl⟩) (by assumption) ?_
      try simp only [Act.put, List.setIfInBounds_toArray, List.set_cons_zero, List.set_cons_succ]
      refine wpAnyH_takeL (i := 14) (v := ?vhy275) rfl (by kernel_rfl) (by kernel_rfl) (by kernel_rfl) (fun _ _ _ h => h) (Or.inl ⟨by rfl, ?hy275⟩) (by assumption) ?rhy275
      case hy275 => ((intro w hSw; (try dsimp only at hSw); go_simp); try with_reducible rfl)
      try simp only [Act.put, List.setIfInBounds_toArray, List.set_cons_zero, List.set_cons_succ]
      refine wpAnyH_takeL (i := 15) (v := ?vhy276) rfl (by kernel_rfl) (by kernel_rfl) (by kernel_rfl) (fun _ _ _ h => h) (Or.inl ⟨by rfl, ?hy276⟩) (by assumption) ?rhy276
      case hy276 => ((intro w hSw; (try dsimp only at hSw); go_simp); try with_reducible rfl)
      try simp only [Act.put, List.setIfInBounds_toArray, List.set_cons_zero, List.set_cons_succ]
      refine wpAnyH_done (by kernel_rfl) ?_ _
      refine NoPanic.normal ?_
      have hfin := gr hb0 hb2
      go_wp2
      go_ret
      exact ⟨by first | (rw [hno]; rfl) | rfl, hfin⟩
set_option maxRecDepth 100000 in
set_option maxHeartbeats 2000000 in
theorem Check_4 (i u : Int) (s : ByteArray) (w : World) (hs : s.size ≤ maxLen) : Calls Tryz.prog 55 #[.agg #[.int .i64 4, .int .i64 i, .int .u64 u, .string s]] w fun e w' => e = .returned (.int .i64 (chkV 4 i u s : Int)) ∧ Below w.heap.size w w' := by
  have hlk : ∀ w' r, IMap w' r .i64 VKinds → (Instr.lookup 142 (.map (some r)) (.int .i64 4) true).run Tryz.prog w' = .ok (.tuple #[.agg #[.func (.func 121) #[] #[], .func (.func 122) #[] #[]], .bool true]) w' := fun w' r hm =>
    hm.look _ _ _ Tryz.underlying142 Tryz.underlying25 4 4 _ rfl
  have hsf := fun (a : Addr) (w : World) (m : Mode) => (run_store Tryz.prog w a (.func (.func 121) #[] #[]) m rfl : _ = stored Tryz.prog w a (.func (.func 121) #[] #[]) m)
  have hsg := fun (a : Addr) (w : World) (m : Mode) => (run_store Tryz.prog w a (.func (.func 122) #[] #[]) m rfl : _ = stored Tryz.prog w a (.func (.func 122) #[] #[]) m)
  have hbox := VBox.new w 4 i u s
  have hb0 : Below w.heap.size w (w.alloc (.cells #[.int .i64 4, .int .i64 i, .int .u64 u, .string s] 28)) := (Below.refl _ w).alloc (Nat.le_refl _) _
  go_enter Tryz.func55, Tryz.ntmps55
  go_wp2_with fail
  generalize (w.alloc (.cells #[.int .i64 4, .int .i64 i, .int .u64 u, .string s] 28)) = w0 at *
  have hlt : w.heap.size < w0.heap.size := hbox.lt
  refine wp_region_noPanic ?_
  refine wp_region_held_drew (S := fun w' => w'.cell? ⟨w.heap.size, 0, none⟩ = some (.int .i64 4)) (by kernel_rfl) (VBox.cells (W := w0.drew) hbox).1 (fun hHeld => ?_)
  refine wpAnyH_takeL (i := 1) (v := ?vhy277) rfl (by kernel_rfl) (by kernel_rfl) (by kernel_rfl) (fun _ _ _ h => h) (Or.inl ⟨by rfl, ?hy277⟩) (by assumption) ?rhy277
  case hy277 => ((intro w hSw; (try dsimp only at hSw); go_simp); try with_reducible rfl)
  try simp only [Act.put, List.setIfInBounds_toArray, List.set_cons_zero, List.set_cons_succ]
  refine wpAnyH_takeL (i := 2) (v := ?vhy278) rfl (by kernel_rfl) (by kernel_rfl) (by kernel_rfl) (fun _ _ _ h => h) (Or.inl ⟨by rfl, ?hy278⟩) (by assumption) ?rhy278
  case hy278 => ((intro w hSw; (try dsimp only at hSw); go_simp); try with_reducible rfl)
  try simp only [Act.put, List.setIfInBounds_toArray, List.set_cons_zero, List.set_cons_succ]
  refine wpAnyH_ready (rs := [0, 7]) (by kernel_rfl) (by simp) ?_
  refine AllReadyH.consL (i := 0) rfl (fun K hK => ?_) (AllReadyH.consL (i := 7) rfl (fun K hK => ?_) AllReadyH.nil)
  · go_simp
    refine (vkinds_any _).mono ?_
    rintro e w1 ⟨r, rfl, hm, hb1, hr1⟩
    replace hb1 := gr ((Below.refl _ w0).drew) hb1
    refine hK.out _ _ (hbox.below hb1 hlt).cells.1 (fun hHeld => ?_)
    clear hK hHeld
    refine wpAnyH_more (S' := fun w' => IMap w' r .i64 VKinds ∧ Below w0.heap.size w0 w') (fun w' h => (hbox.below h.2 hlt).cells.1) ?_
    have hHeld : IMap w1 r .i64 VKinds ∧ Below w0.heap.size w0 w1 := ⟨hm, hb1⟩
    try simp only [Act.put, List.setIfInBounds_toArray, List.set_cons_zero, List.set_cons_succ]
    refine wpAnyH_takeL (i := 3) (v := ?vhy279) rfl (by kernel_rfl) (by kernel_rfl) (by kernel_rfl) (fun _ _ _ h => h) (Or.inl ⟨by rfl, ?hy279⟩) (by assumption) ?rhy279
    case hy279 => ((intro w hSw; (try dsimp only at hSw); go_simp); try with_reducible rfl)
    try simp only [Act.put, List.setIfInBounds_toArray, List.set_cons_zero, List.set_cons_succ]
    refine wpAnyH_takeL (i := 4) (v := ?vhy280) rfl (by kernel_rfl) (by kernel_rfl) (by kernel_rfl) (fun _ _ _ h => h) (Or.inl ⟨by rfl, ?hy280⟩) (by assumption) ?rhy280
    case hy280 => ((intro w hSw; (try dsimp only at hSw); go_simp); try with_reducible rfl)
    try simp only [Act.put, List.setIfInBounds_toArray, List.set_cons_zero, List.set_cons_succ]
    refine wpAnyH_takeL (i := 5) (v := ?vhy281) rfl (by kernel_rfl) (by kernel_rfl) (by kernel_rfl) (fun _ _ _ h => h) (Or.inl ⟨by rfl, ?hy281⟩) (by assumption) ?rhy281
    case hy281 => ((intro w hSw; (try dsimp only at hSw); go_simp); try with_reducible rfl)
    try simp only [Act.put, List.setIfInBounds_toArray, List.set_cons_zero, List.set_cons_succ]
    refine wpAnyH_takeL (i := 6) (v := ?vhy282) rfl (by kernel_rfl) (by kernel_rfl) (by kernel_rfl) (fun _ _ _ h => h) (Or.inl ⟨by rfl, ?hy282⟩) (by assumption) ?rhy282
    case hy282 => ((intro w hSw; (try dsimp only at hSw); go_simp); try with_reducible rfl)
    try simp only [Act.put, List.setIfInBounds_toArray, List.set_cons_zero, List.set_cons_succ]
    refine wpAnyH_ready (rs := [7]) (by kernel_rfl) (by simp) ?_
    refine AllReadyH.consL (i := 7) rfl (fun K hK => ?_) AllReadyH.nil
    go_simp
    have hs2 := (Below.refl w1.heap.size w1).alloc (Nat.le_refl _) (.cells #[.nilFunc, .nilFunc] 140)
    refine hK.out _ _ ⟨hm.below hs2, gr hb1 hs2⟩ (fun hHeld => ?_)
    clear hK
    try simp only [Act.put, List.setIfInBounds_toArray, List.set_cons_zero, List.set_cons_succ]
    refine wpAnyH_ready (rs := [8]) (by kernel_rfl) (by simp) ?_
    refine AllReadyH.consL (i := 8) rfl (fun K hK => ?_) AllReadyH.nil
    go_simp
    have hs3 := (Below.refl w1.heap.size w1).alloc (Nat.le_refl _) (.cells #[(.func (.func 121) #[] #[]), (.func (.func 122) #[] #[])] 140)
    have hkb : KBox (w1.alloc (.cells #[(.func (.func 121) #[] #[]), (.func (.func 122) #[] #[])] 140)) w1.heap.size (.func (.func 121) #[] #[]) (.func (.func 122) #[] #[]) := World.alloc_heap_new w1 _
    refine hK.out _ _ ⟨hm.below hs3, gr hb1 hs3⟩ (fun hHeld => ?_)
    clear hK
    replace hb1 := gr hb1 hs3
    generalize (w1.alloc (.cells #[(.func (.func 121) #[] #[]), (.func (.func 122) #[] #[])] 140)) = W at *
    try simp only [Act.put, List.setIfInBounds_toArray, List.set_cons_zero, List.set_cons_succ]
    refine wpAnyH_takeL (i := 9) (v := ?vhy283) rfl (by kernel_rfl) (by kernel_rfl) (by kernel_rfl) (fun _ _ _ h => h) (Or.inl ⟨by rfl, ?hy283⟩) (by assumption) ?rhy283
    case hy283 => ((intro w hSw; (try dsimp only at hSw); go_simp); try with_reducible rfl)
    try simp only [Act.put, List.setIfInBounds_toArray, List.set_cons_zero, List.set_cons_succ]
    refine wpAnyH_done (by kernel_rfl) ?_ _
    refine NoPanic.normal ?_
    clear hHeld hm hlk
    have hvb := hbox.below hb1 hlt
    replace hb0 := gr hb0 hb1
    clear hb1 hbox
    go_wp2_with fail
    have hkc := hkb.cells.1.1
    have hvc := hvb.cells
    have hbe : bareV 4 i u s = .agg #[.int .i64 4, .int .i64 0, .int .u64 0, .string s] := by simp [bareV, valV]
    refine wp_region_noPanic ?_
    refine wp_region_held_drew (S := fun w' => (w'.cell? ⟨w.heap.size, 0, none⟩ = some (.int .i64 4) ∧ w'.cell? ⟨w.heap.size, 1, none⟩ = some (.int .i64 i) ∧ w'.cell? ⟨w.heap.size, 2, none⟩ = some (.int .u64 u) ∧ w'.cell? ⟨w.heap.size, 3, none⟩ = some (.string s)) ∧ w'.cell? ⟨w1.heap.size, 0, none⟩ = some (.func (.func 121) #[] #[])) (by kernel_rfl) ⟨hvc, hkc⟩ (fun hHeld => ?_)
    refine wpAnyH_takeL (i := 0) (v := ?vhy284) rfl (by kernel_rfl) (by kernel_rfl) (by kernel_rfl) (fun _ _ _ h => h) (Or.inl ⟨by rfl, ?hy284⟩) (by assumption) ?rhy284
    case hy284 => ((intro w hSw; (try dsimp only at hSw); go_simp); try with_reducible rfl)
    try simp only [Act.put, List.setIfInBounds_toArray, List.set_cons_zero, List.set_cons_succ]
    refine wpAnyH_takeL (i := 1) (v := ?vhy285) rfl (by kernel_rfl) (by kernel_rfl) (by kernel_rfl) (fun _ _ _ h => h) (Or.inl ⟨by rfl, ?hy285⟩) (by assumption) ?rhy285
    case hy285 => ((intro w hSw; (try dsimp only at hSw); go_simp); try with_reducible rfl)
    try simp only [Act.put, List.setIfInBounds_toArray, List.set_cons_zero, List.set_cons_succ]
    refine wpAnyH_takeL (i := 2) (v := ?vhy286) rfl (by kernel_rfl) (by kernel_rfl) (by kernel_rfl) (fun _ _ _ h => h) (Or.inl ⟨by rfl, ?hy286⟩) (by assumption) ?rhy286
    case hy286 => ((intro w hSw; (try dsimp only at hSw); go_simp); try with_reducible rfl)
    try simp only [Act.put, List.setIfInBounds_toArray, List.set_cons_zero, List.set_cons_succ]
    refine wpAnyH_takeL (i := 3) (v := ?vhy287) rfl (by kernel_rfl) (by kernel_rfl) (by kernel_rfl) (fun _ _ _ h => h) (Or.inl ⟨by rfl, ?hy287⟩) (by assumption) ?rhy287
    case hy287 => ((intro w hSw; (try dsimp only at hSw); go_simp); try with_reducible rfl)
    try simp only [Act.put, List.setIfInBounds_toArray, List.set_cons_zero, List.set_cons_succ]
    refine wpAnyH_takeL (i := 4) (v := ?vhy288) rfl (by kernel_rfl) (by kernel_rfl) (by kernel_rfl) (fun _ _ _ h => h) (Or.inl ⟨by rfl, ?hy288⟩) (by assumption) ?rhy288
    case hy288 => ((intro w hSw; (try dsimp only at hSw); go_simp); try with_reducible rfl)
    try simp only [Act.put, List.setIfInBounds_toArray, List.set_cons_zero, List.set_cons_succ]
    refine wpAnyH_ready (rs := [5]) (by kernel_rfl) (by simp) ?_
    refine AllReadyH.consL (i := 5) rfl (fun K hK => ?_) AllReadyH.nil
    go_simp
    refine (bare_any 4 i u s _).mono ?_
    rw [hbe]
    rintro e W2 ⟨rfl, hb2⟩
    replace hb2 := gr ((Below.refl _ W).drew) hb2
    have hlW := hvb.lt
    have hlB : w1.heap.size < W.heap.size := (Array.getElem?_eq_some_iff.1 hkb).1
    have hvb2 := hvb.below hb2 hlW
    have hkb2 : KBox W2 w1.heap.size (.func (.func 121) #[] #[]) (.func (.func 122) #[] #[]) := (hb2.block _ hlB).trans hkb
    refine hK.out _ _ ⟨hvb2.cells, hkb2.cells.1.1⟩ (fun hHeld => ?_)
    clear hK
    try simp only [Act.put, List.setIfInBounds_toArray, List.set_cons_zero, List.set_cons_succ]
    by_cases hq : i = 0 ∧ u = 0 ∧ s = s
    · obtain ⟨q1, q2, q3⟩ := hq
      try subst q1
      try subst q2
      try subst q3
      have hne : ∀ w', (binOp .neq 28 (.agg #[.int .i64 4, .int .i64 0, .int .u64 0, .string s]) (.agg #[.int .i64 4, .int .i64 0, .int .u64 0, .string s])).run Tryz.prog w' = .ok (.bool false) w' := fun w' => by
        rw [neq_V]
        simp
      refine wpAnyH_takeL (i := 6) (v := ?vhy289) rfl (by kernel_rfl) (by kernel_rfl) (by kernel_rfl) (fun _ _ _ h => h) (Or.inl ⟨by rfl, ?hy289⟩) (by assumption) ?rhy289
      case hy289 => ((intro w hSw; (try dsimp only at hSw); go_simp); try with_reducible rfl)
      try simp only [Act.put, List.setIfInBounds_toArray, List.set_cons_zero, List.set_cons_succ]
      refine wpAnyH_takeL (i := 7) (v := ?vhy290) rfl (by kernel_rfl) (by kernel_rfl) (by kernel_rfl) (fun _ _ _ h => h) (Or.inl ⟨by rfl, ?hy290⟩) (by assumption) ?rhy290
      case hy290 => ((intro w hSw; (try dsimp only at hSw); go_simp); try with_reducible rfl)
      try simp only [Act.put, List.setIfInBounds_toArray, List.set_cons_zero, List.set_cons_succ]
      refine wpAnyH_takeL (i := 8) (v := ?vhy291) rfl (by kernel_rfl) (by kernel_rfl) (by kernel_rfl) (fun _ _ _ h => h) (Or.inl ⟨by rfl, ?hy291⟩) (by assumption) ?rhy291
      case hy291 => ((intro w hSw; (try dsimp only at hSw); go_simp); try with_reducible rfl)
      try simp only [Act.put, List.setIfInBounds_toArray, List.set_cons_zero, List.set_cons_succ]
      refine wpAnyH_takeL (i := 9) (v := ?vhy292) rfl (by kernel_rfl) (by kernel_rfl) (by kernel_rfl) (fun _ _ _ h => h) (Or.inl ⟨by rfl, ?hy292⟩) (by assumption) ?rhy292
      case hy292 => ((intro w hSw; (try dsimp only at hSw); go_simp); try with_reducible rfl)
      try simp only [Act.put, List.setIfInBounds_toArray, List.set_cons_zero, List.set_cons_succ]
      refine wpAnyH_takeL (i := 10) (v := ?vhy293) rfl (by kernel_rfl) (by kernel_rfl) (by kernel_rfl) (fun _ _ _ h => h) (Or.inl ⟨by rfl, ?hy293⟩) (by assumption) ?rhy293
      case hy293 => ((intro w hSw; (try dsimp only at hSw); go_simp); try with_reducible rfl)
      try simp only [Act.put, List.setIfInBounds_toArray, List.set_cons_zero, List.set_cons_succ]
      refine wpAnyH_takeL (i := 11) (v := ?vhy294) rfl (by kernel_rfl) (by kernel_rfl) (by kernel_rfl) (fun _ _ _ h => h) (Or.inl ⟨by rfl, ?hy294⟩) (by assumption) ?rhy294
      case hy294 => ((intro w hSw; (try dsimp only at hSw); go_simp); try with_reducible rfl)
      try simp only [Act.put, List.setIfInBounds_toArray, List.set_cons_zero, List.set_cons_succ]
      refine wpAnyH_ready (rs := [12]) (by kernel_rfl) (by simp) ?_
      refine AllReadyH.consL (i := 12) rfl (fun K hK => ?_) AllReadyH.nil
      go_simp
      refine (may_bytes 4 0 0 s _).mono ?_
      rintro e W3 ⟨rfl, hb3⟩
      try simp only [hdi]
      have hb23 := gr hb2 hb3
      have hvb3 := hvb.below hb23 hlW
      have hkb3 : KBox W3 w1.heap.size (.func (.func 121) #[] #[]) (.func (.func 122) #[] #[]) := (hb23.block _ hlB).trans hkb
      refine hK.out _ _ ⟨hvb3.cells, hkb3.cells.1.1⟩ (fun hHeld => ?_)
      clear hK
      try simp only [Act.put, List.setIfInBounds_toArray, List.set_cons_zero, List.set_cons_succ]
      refine wpAnyH_takeL (i := 13) (v := ?vhy295) rfl (by kernel_rfl) (by kernel_rfl) (by kernel_rfl) (fun _ _ _ h => h) (Or.inl ⟨by rfl, ?hy295⟩) (by assumption) ?rhy295
      case hy295 => ((intro w hSw; (try dsimp only at hSw); go_simp); try with_reducible rfl)
      try simp only [Act.put, List.setIfInBounds_toArray, List.set_cons_zero, List.set_cons_succ]
      refine wpAnyH_takeL (i := 14) (v := ?vhy296) rfl (by kernel_rfl) (by kernel_rfl) (by kernel_rfl) (fun _ _ _ h => h) (Or.inl ⟨by rfl, ?hy296⟩) (by assumption) ?rhy296
      case hy296 => ((intro w hSw; (try dsimp only at hSw); go_simp); try with_reducible rfl)
      try simp only [Act.put, List.setIfInBounds_toArray, List.set_cons_zero, List.set_cons_succ]
      refine wpAnyH_takeL (i := 15) (v := ?vhy297) rfl (by kernel_rfl) (by kernel_rfl) (by kernel_rfl) (fun _ _ _ h => h) (Or.inl ⟨by rfl, ?hy297⟩) (by assumption) ?rhy297
      case hy297 => ((intro w hSw; (try dsimp only at hSw); go_simp); try with_reducible rfl)
      try simp only [Act.put, List.setIfInBounds_toArray, List.set_cons_zero, List.set_cons_succ]
      refine wpAnyH_done (by kernel_rfl) ?_ _
      refine NoPanic.normal ?_
      have hfin := gr hb0 hb23
      have hc3 := hvb3.cells
      clear hkb3 hHeld hkb2 hvb2 hb2 hb3 hvb hvc hkc hkb hsf hsg
      by_cases hl : 200 < (s).size
      · have hd : decide ((200:Int) < ((s).size:Int)) = true := by simp; omega
        go_wp2_with fail
        go_ret
        exact ⟨by simp [chkV, okV, hl], hfin⟩
      · have hd : decide ((200:Int) < ((s).size:Int)) = false := by simp; omega
        go_wp2_with fail
        go_ret
        exact ⟨by simp [chkV, okV, hl], hfin⟩
    · have hno := chk4_no hq
      have hne : ∀ w', (binOp .neq 28 (.agg #[.int .i64 4, .int .i64 i, .int .u64 u, .string s]) (.agg #[.int .i64 4, .int .i64 0, .int .u64 0, .string s])).run Tryz.prog w' = .ok (.bool true) w' := fun w' => by
        rw [neq_V, neq_true hq]
      refine wpAnyH_takeL (i := 6) (v := ?vhy298) rfl (by kernel_rfl) (by kernel_rfl) (by kernel_rfl) (fun _ _ _ h => h) (Or.inl ⟨by rfl, ?hy298⟩) (by assumption) ?rhy298
      case hy298 => ((intro w hSw; (try dsimp only at hSw); go_simp); try with_reducible rfl)
      try simp only [Act.put, List.setIfInBounds_toArray, List.set_cons_zero, List.set_cons_succ]
      refine wpAnyH_takeL (i := 7) (v := ?vhy299) rfl (by kernel_rfl) (by kernel_rfl) (by kernel_rfl) (fun _ _ _ h => h) (Or.inl ⟨by rfl, ?hy299⟩) (by assumption) ?rhy299
      case hy299 => ((intro w hSw; (try dsimp only at hSw); go_simp); try with_reducible rfl)
      try simp only [Act.put, List.setIfInBounds_toArray, List.set_cons_zero, List.set_cons_succ]
      refine wpAnyH_takeL (i := 8) (v := ?vhy300) rfl (by kernel_rfl) (by kernel_rfl) (by kernel_rfl) (fun _ _ _ h => h) (Or.inl ⟨by rfl, ?hy300⟩) (by assumption) ?rhy300
      case hy300 => ((intro w hSw; (try dsimp only at hSw); go_simp); try with_reducible rfl)
      try simp only [Act.put, List.setIfInBounds_toArray, List.set_cons_zero, List.set_cons_succ]
      refine wpAnyH_takeL (i := 9) (v := undef) rfl (by kernel_rfl) (by kernel_rfl) (by kernel_rfl) (fun _ _ _ h => h) (Or.inr ⟨by rfl, rfl⟩) (by assumption) ?_
      try simp only [Act.put, List.setIfInBounds_toArray, List.set_cons_zero, List.set_cons_succ]
      refine wpAnyH_takeL (i := 10) (v := undef) rfl (by kernel_rfl) (by kernel_rfl) (by kernel_rfl) (fun _ _ _ h => h) (Or.inr ⟨by rfl, rfl⟩) (by assumption) ?_
      try simp only [Act.put, List.setIfInBounds_toArray, List.set_cons_zero, List.set_cons_succ]
      refine wpAnyH_takeL (i := 11) (v := undef) rfl (by kernel_rfl) (by kernel_rfl) (by kernel_rfl) (fun _ _ _ h => h) (Or.inr ⟨by rfl, rfl⟩) (by assumption) ?_
      try simp only [Act.put, List.setIfInBounds_toArray, List.set_cons_zero, List.set_cons_succ]
      refine wpAnyH_takeL (i := 12) (v := undef) rfl (by kernel_rfl) (by kernel_rfl) (by kernel_rfl) (fun _ _ _ h => h) (Or.inr ⟨by rfl, rfl⟩) (by assumption) ?_
      try simp only [Act.put, List.setIfInBounds_toArray, List.set_cons_zero, List.set_cons_succ]
      refine wpAnyH_takeL (i := 13) (v := undef) rfl (by kernel_rfl) (by kernel_rfl) (by kernel_rfl) (fun _ _ _ h => h) (Or.inr ⟨by rfl, rfl⟩) (by assumption) ?_
      try simp only [Act.put, List.setIfInBounds_toArray, List.set_cons_zero, List.set_cons_succ]
      refine wpAnyH_takeL (i := 14) (v := ?vhy301) rfl (by kernel_rfl) (by kernel_rfl) (by kernel_rfl) (fun _ _ _ h => h) (Or.inl ⟨by rfl, ?hy301⟩) (by assumption) ?rhy301
      case hy301 => ((intro w hSw; (try dsimp only at hSw); go_simp); try with_reducible rfl)
      try simp only [Act.put, List.setIfInBounds_toArray, List.set_cons_zero, List.set_cons_succ]
      refine wpAnyH_takeL (i := 15) (v := ?vhy302) rfl (by kernel_rfl) (by kernel_rfl) (by kernel_rfl) (fun _ _ _ h => h) (Or.inl ⟨by rfl, ?hy302⟩) (by assumption) ?rhy302
      case hy302 => ((intro w hSw; (try dsimp only at hSw); go_simp); try with_reducible rfl)
      try simp only [Act.put, List.setIfInBounds_toArray, List.set_cons_zero, List.set_cons_succ]
      refine wpAnyH_done (by kernel_rfl) ?_ _
      refine NoPanic.normal ?_
      have hfin := gr hb0 hb2
      go_wp2
      go_ret
      exact ⟨by first | (rw [hno]; rfl) | rfl, hfin⟩
  · go_simp
    have hs2 := (Below.refl w0.heap.size w0).alloc (Nat.le_refl _) (.cells #[.nilFunc, .nilFunc] 140)
    have hkn : KBox (w0.alloc (.cells #[.nilFunc, .nilFunc] 140)) w0.heap.size .nilFunc .nilFunc := World.alloc_heap_new w0 _
    have hln : w0.heap.size < (w0.alloc (.cells #[.nilFunc, .nilFunc] 140)).heap.size := by simp
    refine hK.out _ _ (VBox.cells (W := (w0.alloc (.cells #[.nilFunc, .nilFunc] 140)).drew) (hbox.below hs2.drew hlt)).1 (fun hHeld => ?_)
    clear hK
    try simp only [Act.put, List.setIfInBounds_toArray, List.set_cons_zero, List.set_cons_succ]
    refine wpAnyH_ready (rs := [0]) (by kernel_rfl) (by simp) ?_
    refine AllReadyH.consL (i := 0) rfl (fun K hK => ?_) AllReadyH.nil
    go_simp
    refine (vkinds_any _).mono ?_
    rintro e w1 ⟨r, rfl, hm, hb1, hr1⟩
    replace hr1 : w0.heap.size < r := Nat.lt_of_lt_of_le hln hr1
    replace hkn : KBox w1 w0.heap.size .nilFunc .nilFunc := (hb1.block _ hln).trans hkn
    replace hb1 := gr hs2.drew hb1
    refine hK.out _ _ (hbox.below hb1 hlt).cells.1 (fun hHeld => ?_)
    clear hK hHeld
    refine wpAnyH_more (S' := fun w' => IMap w' r .i64 VKinds ∧ Below w0.heap.size w0 w') (fun w' h => (hbox.below h.2 hlt).cells.1) ?_
    have hHeld : IMap w1 r .i64 VKinds ∧ Below w0.heap.size w0 w1 := ⟨hm, hb1⟩
    try simp only [Act.put, List.setIfInBounds_toArray, List.set_cons_zero, List.set_cons_succ]
    refine wpAnyH_takeL (i := 3) (v := ?vhy303) rfl (by kernel_rfl) (by kernel_rfl) (by kernel_rfl) (fun _ _ _ h => h) (Or.inl ⟨by rfl, ?hy303⟩) (by assumption) ?rhy303
    case hy303 => ((intro w hSw; (try dsimp only at hSw); go_simp); try with_reducible rfl)
    try simp only [Act.put, List.setIfInBounds_toArray, List.set_cons_zero, List.set_cons_succ]
    refine wpAnyH_takeL (i := 4) (v := ?vhy304) rfl (by kernel_rfl) (by kernel_rfl) (by kernel_rfl) (fun _ _ _ h => h) (Or.inl ⟨by rfl, ?hy304⟩) (by assumption) ?rhy304
    case hy304 => ((intro w hSw; (try dsimp only at hSw); go_simp); try with_reducible rfl)
    try simp only [Act.put, List.setIfInBounds_toArray, List.set_cons_zero, List.set_cons_succ]
    refine wpAnyH_takeL (i := 5) (v := ?vhy305) rfl (by kernel_rfl) (by kernel_rfl) (by kernel_rfl) (fun _ _ _ h => h) (Or.inl ⟨by rfl, ?hy305⟩) (by assumption) ?rhy305
    case hy305 => ((intro w hSw; (try dsimp only at hSw); go_simp); try with_reducible rfl)
    try simp only [Act.put, List.setIfInBounds_toArray, List.set_cons_zero, List.set_cons_succ]
    refine wpAnyH_takeL (i := 6) (v := ?vhy306) rfl (by kernel_rfl) (by kernel_rfl) (by kernel_rfl) (fun _ _ _ h => h) (Or.inl ⟨by rfl, ?hy306⟩) (by assumption) ?rhy306
    case hy306 => ((intro w hSw; (try dsimp only at hSw); go_simp); try with_reducible rfl)
    try simp only [Act.put, List.setIfInBounds_toArray, List.set_cons_zero, List.set_cons_succ]
    have hkc := hkn.cells
    refine wpAnyH_ready (rs := [8]) (by kernel_rfl) (by simp) ?_
    refine AllReadyH.consL (i := 8) rfl (fun K hK => ?_) AllReadyH.nil
    go_simp
    have hkb := hkn.set (.func (.func 121) #[] #[]) (.func (.func 122) #[] #[])
    have hg1' := (grownBy_setCell_at w1 ⟨w0.heap.size, 0, none⟩ (.func (.func 121) #[] #[]))
    have hg2' := (grownBy_setCell_at (w1.setCell ⟨w0.heap.size, 0, none⟩ (.func (.func 121) #[] #[])) ⟨w0.heap.size, 1, none⟩ (.func (.func 122) #[] #[]))
    have hm2 := (hm.kept hg1' (by simp; omega)).kept hg2' (by simp; omega)
    have hb2 := (hb1.setCell (p := ⟨w0.heap.size, 0, none⟩) (Nat.le_refl _) (.func (.func 121) #[] #[])).setCell (p := ⟨w0.heap.size, 1, none⟩) (Nat.le_refl _) (.func (.func 122) #[] #[])
    refine hK.out _ _ ⟨hm2, hb2⟩ (fun hHeld => ?_)
    clear hK hg1' hg2' hm2 hkc hkn
    replace hb1 := hb2
    clear hb2
    generalize ((w1.setCell ⟨w0.heap.size, 0, none⟩ (.func (.func 121) #[] #[])).setCell ⟨w0.heap.size, 1, none⟩ (.func (.func 122) #[] #[])) = W at *
    try simp only [Act.put, List.setIfInBounds_toArray, List.set_cons_zero, List.set_cons_succ]
    refine wpAnyH_takeL (i := 9) (v := ?vhy307) rfl (by kernel_rfl) (by kernel_rfl) (by kernel_rfl) (fun _ _ _ h => h) (Or.inl ⟨by rfl, ?hy307⟩) (by assumption) ?rhy307
    case hy307 => ((intro w hSw; (try dsimp only at hSw); go_simp); try with_reducible rfl)
    try simp only [Act.put, List.setIfInBounds_toArray, List.set_cons_zero, List.set_cons_succ]
    refine wpAnyH_done (by kernel_rfl) ?_ _
    refine NoPanic.normal ?_
    clear hHeld hm hlk
    have hvb := hbox.below hb1 hlt
    replace hb0 := gr hb0 hb1
    clear hb1 hbox
    go_wp2_with fail
    have hkc := hkb.cells.1.1
    have hvc := hvb.cells
    have hbe : bareV 4 i u s = .agg #[.int .i64 4, .int .i64 0, .int .u64 0, .string s] := by simp [bareV, valV]
    refine wp_region_noPanic ?_
    refine wp_region_held_drew (S := fun w' => (w'.cell? ⟨w.heap.size, 0, none⟩ = some (.int .i64 4) ∧ w'.cell? ⟨w.heap.size, 1, none⟩ = some (.int .i64 i) ∧ w'.cell? ⟨w.heap.size, 2, none⟩ = some (.int .u64 u) ∧ w'.cell? ⟨w.heap.size, 3, none⟩ = some (.string s)) ∧ w'.cell? ⟨w0.heap.size, 0, none⟩ = some (.func (.func 121) #[] #[])) (by kernel_rfl) ⟨hvc, hkc⟩ (fun hHeld => ?_)
    refine wpAnyH_takeL (i := 0) (v := ?vhy308) rfl (by kernel_rfl) (by kernel_rfl) (by kernel_rfl) (fun _ _ _ h => h) (Or.inl ⟨by rfl, ?hy308⟩) (by assumption) ?rhy308
    case hy308 => ((intro w hSw; (try dsimp only at hSw); go_simp); try with_reducible rfl)
    try simp only [Act.put, List.setIfInBounds_toArray, List.set_cons_zero, List.set_cons_succ]
    refine wpAnyH_takeL (i := 1) (v := ?vhy309) rfl (by kernel_rfl) (by kernel_rfl) (by kernel_rfl) (fun _ _ _ h => h) (Or.inl ⟨by rfl, ?hy309⟩) (by assumption) ?rhy309
    case hy309 => ((intro w hSw; (try dsimp only at hSw); go_simp); try with_reducible rfl)
    try simp only [Act.put, List.setIfInBounds_toArray, List.set_cons_zero, List.set_cons_succ]
    refine wpAnyH_takeL (i := 2) (v := ?vhy310) rfl (by kernel_rfl) (by kernel_rfl) (by kernel_rfl) (fun _ _ _ h => h) (Or.inl ⟨by rfl, ?hy310⟩) (by assumption) ?rhy310
    case hy310 => ((intro w hSw; (try dsimp only at hSw); go_simp); try with_reducible rfl)
    try simp only [Act.put, List.setIfInBounds_toArray, List.set_cons_zero, List.set_cons_succ]
    refine wpAnyH_takeL (i := 3) (v := ?vhy311) rfl (by kernel_rfl) (by kernel_rfl) (by kernel_rfl) (fun _ _ _ h => h) (Or.inl ⟨by rfl, ?hy311⟩) (by assumption) ?rhy311
    case hy311 => ((intro w hSw; (try dsimp only at hSw); go_simp); try with_reducible rfl)
    try simp only [Act.put, List.setIfInBounds_toArray, List.set_cons_zero, List.set_cons_succ]
    refine wpAnyH_takeL (i := 4) (v := ?vhy312) rfl (by kernel_rfl) (by kernel_rfl) (by kernel_rfl) (fun _ _ _ h => h) (Or.inl ⟨by rfl, ?hy312⟩) (by assumption) ?rhy312
    case hy312 => ((intro w hSw; (try dsimp only at hSw); go_simp); try with_reducible rfl)
    try simp only [Act.put, List.setIfInBounds_toArray, List.set_cons_zero, List.set_cons_succ]
    refine wpAnyH_ready (rs := [5]) (by kernel_rfl) (by simp) ?_
    refine AllReadyH.consL (i := 5) rfl (fun K hK => ?_) AllReadyH.nil
    go_simp
    refine (bare_any 4 i u s _).mono ?_
    rw [hbe]
    rintro e W2 ⟨rfl, hb2⟩
    replace hb2 := gr ((Below.refl _ W).drew) hb2
    have hlW := hvb.lt
    have hlB : w0.heap.size < W.heap.size := (Array.getElem?_eq_some_iff.1 hkb).1
    have hvb2 := hvb.below hb2 hlW
    have hkb2 : KBox W2 w0.heap.size (.func (.func 121) #[] #[]) (.func (.func 122) #[] #[]) := (hb2.block _ hlB).trans hkb
    refine hK.out _ _ ⟨hvb2.cells, hkb2.cells.1.1⟩ (fun hHeld => ?_)
    clear hK
    try simp only [Act.put, List.setIfInBounds_toArray, List.set_cons_zero, List.set_cons_succ]
    by_cases hq : i = 0 ∧ u = 0 ∧ s = s
    · obtain ⟨q1, q2, q3⟩ := hq
      try subst q1
      try subst q2
      try subst q3
      have hne : ∀ w', (binOp .neq 28 (.agg #[.int .i64 4, .int .i64 0, .int .u64 0, .string s]) (.agg #[.int .i64 4, .int .i64 0, .int .u64 0, .string s])).run Tryz.prog w' = .ok (.bool false) w' := fun w' => by
        rw [neq_V]
        simp
      refine wpAnyH_takeL (i := 6) (v := ?vhy313) rfl (by kernel_rfl) (by kernel_rfl) (by kernel_rfl) (fun _ _ _ h => h) (Or.inl ⟨by rfl, ?hy313⟩) (by assumption) ?rhy313
      case hy313 => ((intro w hSw; (try dsimp only at hSw); go_simp); try with_reducible rfl)
      try simp only [Act.put, List.setIfInBounds_toArray, List.set_cons_zero, List.set_cons_succ]
      refine wpAnyH_takeL (i := 7) (v := ?vhy314) rfl (by kernel_rfl) (by kernel_rfl) (by kernel_rfl) (fun _ _ _ h => h) (Or.inl ⟨by rfl, ?hy314⟩) (by assumption) ?rhy314
      case hy314 => ((intro w hSw; (try dsimp only at hSw); go_simp); try with_reducible rfl)
      try simp only [Act.put, List.setIfInBounds_toArray, List.set_cons_zero, List.set_cons_succ]
      refine wpAnyH_takeL (i := 8) (v := ?vhy315) rfl (by kernel_rfl) (by kernel_rfl) (by kernel_rfl) (fun _ _ _ h => h) (Or.inl ⟨by rfl, ?hy315⟩) (by assumption) ?rhy315
      case hy315 => ((intro w hSw; (try dsimp only at hSw); go_simp); try with_reducible rfl)
      try simp only [Act.put, List.setIfInBounds_toArray, List.set_cons_zero, List.set_cons_succ]
      refine wpAnyH_takeL (i := 9) (v := ?vhy316) rfl (by kernel_rfl) (by kernel_rfl) (by kernel_rfl) (fun _ _ _ h => h) (Or.inl ⟨by rfl, ?hy316⟩) (by assumption) ?rhy316
      case hy316 => ((intro w hSw; (try dsimp only at hSw); go_simp); try with_reducible rfl)
      try simp only [Act.put, List.setIfInBounds_toArray, List.set_cons_zero, List.set_cons_succ]
      refine wpAnyH_takeL (i := 10) (v := ?vhy317) rfl (by kernel_rfl) (by kernel_rfl) (by kernel_rfl) (fun _ _ _ h => h) (Or.inl ⟨by rfl, ?hy317⟩) (by assumption) ?rhy317
      case hy317 => ((intro w hSw; (try dsimp only at hSw); go_simp); try with_reducible rfl)
      try simp only [Act.put, List.setIfInBounds_toArray, List.set_cons_zero, List.set_cons_succ]
      refine wpAnyH_takeL (i := 11) (v := ?vhy318) rfl (by kernel_rfl) (by kernel_rfl) (by kernel_rfl) (fun _ _ _ h => h) (Or.inl ⟨by rfl, ?hy318⟩) (by assumption) ?rhy318
      case hy318 => ((intro w hSw; (try dsimp only at hSw); go_simp); try with_reducible rfl)
      try simp only [Act.put, List.setIfInBounds_toArray, List.set_cons_zero, List.set_cons_succ]
      refine wpAnyH_ready (rs := [12]) (by kernel_rfl) (by simp) ?_
      refine AllReadyH.consL (i := 12) rfl (fun K hK => ?_) AllReadyH.nil
      go_simp
      refine (may_bytes 4 0 0 s _).mono ?_
      rintro e W3 ⟨rfl, hb3⟩
      try simp only [hdi]
      have hb23 := gr hb2 hb3
      have hvb3 := hvb.below hb23 hlW
      have hkb3 : KBox W3 w0.heap.size (.func (.func 121) #[] #[]) (.func (.func 122) #[] #[]) := (hb23.block _ hlB).trans hkb
      refine hK.out _ _ ⟨hvb3.cells, hkb3.cells.1.1⟩ (fun hHeld => ?_)
      clear hK
      try simp only [Act.put, List.setIfInBounds_toArray, List.set_cons_zero, List.set_cons_succ]
      refine wpAnyH_takeL (i := 13) (v := ?vhy319) rfl (by kernel_rfl) (by kernel_rfl) (by kernel_rfl) (fun _ _ _ h => h) (Or.inl ⟨by rfl, ?hy319⟩) (by assumption) ?rhy319
      case hy319 => ((intro w hSw; (try dsimp only at hSw); go_simp); try with_reducible rfl)
      try simp only [Act.put, List.setIfInBounds_toArray, List.set_cons_zero, List.set_cons_succ]
      refine wpAnyH_takeL (i := 14) (v := ?vhy320) rfl (by kernel_rfl) (by kernel_rfl) (by kernel_rfl) (fun _ _ _ h => h) (Or.inl ⟨by rfl, ?hy320⟩) (by assumption) ?rhy320
      case hy320 => ((intro w hSw; (try dsimp only at hSw); go_simp); try with_reducible rfl)
      try simp only [Act.put, List.setIfInBounds_toArray, List.set_cons_zero, List.set_cons_succ]
      refine wpAnyH_takeL (i := 15) (v := ?vhy321) rfl (by kernel_rfl) (by kernel_rfl) (by kernel_rfl) (fun _ _ _ h => h) (Or.inl ⟨by rfl, ?hy321⟩) (by assumption) ?rhy321
      case hy321 => ((intro w hSw; (try dsimp only at hSw); go_simp); try with_reducible rfl)
      try simp only [Act.put, List.setIfInBounds_toArray, List.set_cons_zero, List.set_cons_succ]
      refine wpAnyH_done (by kernel_rfl) ?_ _
      refine NoPanic.normal ?_
      have hfin := gr hb0 hb23
      have hc3 := hvb3.cells
      clear hkb3 hHeld hkb2 hvb2 hb2 hb3 hvb hvc hkc hkb hsf hsg
      by_cases hl : 200 < (s).size
      · have hd : decide ((200:Int) < ((s).size:Int)) = true := by simp; omega
        go_wp2_with fail
        go_ret
        exact ⟨by simp [chkV, okV, hl], hfin⟩
      · have hd : decide ((200:Int) < ((s).size:Int)) = false := by simp; omega
        go_wp2_with fail
        go_ret
        exact ⟨by simp [chkV, okV, hl], hfin⟩
    · have hno := chk4_no hq
      have hne : ∀ w', (binOp .neq 28 (.agg #[.int .i64 4, .int .i64 i, .int .u64 u, .string s]) (.agg #[.int .i64 4, .int .i64 0, .int .u64 0, .string s])).run Tryz.prog w' = .ok (.bool true) w' := fun w' => by
        rw [neq_V, neq_true hq]
      refine wpAnyH_takeL (i := 6) (v := ?vhy322) rfl (by kernel_rfl) (by kernel_rfl) (by kernel_rfl) (fun _ _ _ h => h) (Or.inl ⟨by rfl, ?hy322⟩) (by assumption) ?rhy322
      case hy322 => ((intro w hSw; (try dsimp only at hSw); go_simp); try with_reducible rfl)
      try simp only [Act.put, List.setIfInBounds_toArray, List.set_cons_zero, List.set_cons_succ]
      refine wpAnyH_takeL (i := 7) (v := ?vhy323) rfl (by kernel_rfl) (by kernel_rfl) (by kernel_rfl) (fun _ _ _ h => h) (Or.inl ⟨by rfl, ?hy323⟩) (by assumption) ?rhy323
      case hy323 => ((intro w hSw; (try dsimp only at hSw); go_simp); try with_reducible rfl)
      try simp only [Act.put, List.setIfInBounds_toArray, List.set_cons_zero, List.set_cons_succ]
      refine wpAnyH_takeL (i := 8) (v := ?vhy324) rfl (by kernel_rfl) (by kernel_rfl) (by kernel_rfl) (fun _ _ _ h => h) (Or.inl ⟨by rfl, ?hy324⟩) (by assumption) ?rhy324
      case hy324 => ((intro w hSw; (try dsimp only at hSw); go_simp); try with_reducible rfl)
      try simp only [Act.put, List.setIfInBounds_toArray, List.set_cons_zero, List.set_cons_succ]
      refine wpAnyH_takeL (i := 9) (v := undef) rfl (by kernel_rfl) (by kernel_rfl) (by kernel_rfl) (fun _ _ _ h => h) (Or.inr ⟨by rfl, rfl⟩) (by assumption) ?_
      try simp only [Act.put, List.setIfInBounds_toArray, List.set_cons_zero, List.set_cons_succ]
      refine wpAnyH_takeL (i := 10) (v := undef) rfl (by kernel_rfl) (by kernel_rfl) (by kernel_rfl) (fun _ _ _ h => h) (Or.inr ⟨by rfl, rfl⟩) (by assumption) ?_
      try simp only [Act.put, List.setIfInBounds_toArray, List.set_cons_zero, List.set_cons_succ]
      refine wpAnyH_takeL (i := 11) (v := undef) rfl (by kernel_rfl) (by kernel_rfl) (by kernel_rfl) (fun _ _ _ h => h) (Or.inr ⟨by rfl, rfl⟩) (by assumption) ?_
      try simp only [Act.put, List.setIfInBounds_toArray, List.set_cons_zero, List.set_cons_succ]
      refine wpAnyH_takeL (i := 12) (v := undef) rfl (by kernel_rfl) (by kernel_rfl) (by kernel_rfl) (fun _ _ _ h => h) (Or.inr ⟨by rfl, rfl⟩) (by assumption) ?_
      try simp only [Act.put, List.setIfInBounds_toArray, List.set_cons_zero, List.set_cons_succ]
      refine wpAnyH_takeL (i := 13) (v := undef) rfl (by kernel_rfl) (by kernel_rfl) (by kernel_rfl) (fun _ _ _ h => h) (Or.inr ⟨by rfl, rfl⟩) (by assumption) ?_
      try simp only [Act.put, List.setIfInBounds_toArray, List.set_cons_zero, List.set_cons_succ]
      refine wpAnyH_takeL (i := 14) (v := ?vhy325) rfl (by kernel_rfl) (by kernel_rfl) (by kernel_rfl) (fun _ _ _ h => h) (Or.inl ⟨by rfl, ?hy325⟩) (by assumption) ?rhy325
      case hy325 => ((intro w hSw; (try dsimp only at hSw); go_simp); try with_reducible rfl)
      try simp only [Act.put, List.setIfInBounds_toArray, List.set_cons_zero, List.set_cons_succ]
      refine wpAnyH_takeL (i := 15) (v := ?vhy326) rfl (by kernel_rfl) (by kernel_rfl) (by kernel_rfl) (fun _ _ _ h => h) (Or.inl ⟨by rfl, ?hy326⟩) (by assumption) ?rhy326
      case hy326 => ((intro w hSw; (try dsimp only at hSw); go_simp); try with_reducible rfl)
      try simp only [Act.put, List.setIfInBounds_toArray, List.set_cons_zero, List.set_cons_succ]
      refine wpAnyH_done (by kernel_rfl) ?_ _
      refine NoPanic.normal ?_
      have hfin := gr hb0 hb2
      go_wp2
      go_ret
      exact ⟨by first | (rw [hno]; rfl) | rfl, hfin⟩
theorem Check_any (k i u : Int) (s : ByteArray) (w : World) (hs : s.size ≤ maxLen) : Calls Tryz.prog 55 #[valV k i u s] w fun e w' => e = .returned (.int .i64 (chkV k i u s : Int)) ∧ Below w.heap.size w w' := by
  unfold valV
  by_cases hk : k < 0 ∨ 4 < k
  · refine (Check_other k i u s w hk).mono ?_
    rintro e w' ⟨rfl, hb⟩
    refine ⟨?_, hb⟩
    have : chkV k i u s = 2 := by
      unfold chkV
      rw [if_neg]
      simp [okV]
      omega
    rw [this]
    rfl
  · have : k = 0 ∨ k = 1 ∨ k = 2 ∨ k = 3 ∨ k = 4 := by omega
    rcases this with rfl | rfl | rfl | rfl | rfl
    · exact Check_0 i u s w hs
    · exact Check_1 i u s w hs
    · exact Check_2 i u s w hs
    · by_cases hi3 : i = 0 ∨ i = 1
      · exact Check_3y i u s w hs hi3
      · exact Check_3x i u s w hs hi3
    · exact Check_4 i u s w hs
end Go.Proofs.YtagoooclfcbdeaaGreatDoor
