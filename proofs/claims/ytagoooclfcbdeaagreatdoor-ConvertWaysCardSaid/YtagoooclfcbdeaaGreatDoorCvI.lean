/- convert.of, convert.Way: the way between two types. convert.Sure: which conversions are sure. convert.turned: a value is converted, or a fault. convert.Convert: a value is converted, or an error's number. -/
import Derived.Test.YtagoooclfcbdeaaGreatDoorCvE
import Derived.Test.YtagoooclfcbdeaaGreatDoorCvP
import Derived.Laws.EntriesVeiled
namespace Go.Proofs.YtagoooclfcbdeaaGreatDoor
open Go.RowKit
set_option linter.unusedVariables false

/-- A function that turns values of a type into another one's. -/
def TurnF (n : FuncId) (a b : Int) : Prop := Enters Tryz.prog n ∧ ∀ (x : Vl) (w : World), x.Wf → x.chk = 0 → x.k = a → Env w → Calls Tryz.prog n #[x.val] w (TurnP w (turnV x b))
/-- A function that tells whether it is sure. -/
def SureF (lo : Nat) (w : World) (n : FuncId) (cs : Array Value) (a b : Int) : Prop := Enters Tryz.prog n ∧ ∀ (c d : Cl) (w' : World), (∀ j, lo ≤ j → j < w.heap.size → w'.heap[j]? = w.heap[j]?) → colV c = true → colV d = true → c.t = a → d.t = b →
  Calls Tryz.prog n (#[c.val, d.val] ++ cs) w' fun e w2 => e = .returned (.bool (sizeB c d)) ∧ Below w'.heap.size w' w2
theorem SureF.keep {lo lo' : Nat} {w w2 : World} {n : FuncId} {cs : Array Value} {a b : Int} (h : SureF lo w n cs a b) (hlo : lo' ≤ lo) (hz : w.heap.size ≤ w2.heap.size) (k : ∀ j, lo ≤ j → j < w.heap.size → w2.heap[j]? = w.heap[j]?) : SureF lo' w2 n cs a b :=
  ⟨h.1, fun c d w' hb' => h.2 c d w' fun j h1 h2 => (hb' j (Nat.le_trans hlo h1) (Nat.lt_of_lt_of_le h2 hz)).trans (k j h1 h2)⟩
theorem SureF.below {lo : Nat} {w w2 : World} {n : FuncId} {cs : Array Value} {a b : Int} (h : SureF lo w n cs a b) (hb : Below w.heap.size w w2) : SureF lo w2 n cs a b := h.keep (Nat.le_refl _) hb.size (fun j _ h2 => hb.block j h2)
theorem turnF_0 {a b : Int} (h : a = b) : TurnF 51 a b := ⟨enters_of Tryz.func51 (by kernel_rfl) rfl, fun x w hx hc hk hE => by
  have := turn0 x w
  rw [← h, ← hk, tv_same]
  exact this⟩
theorem turnF_12 : TurnF 68 1 2 := ⟨enters_of Tryz.func68 (by kernel_rfl) rfl, fun x w hx hc hk hE => by rw [tv12 hk]; exact turn1 x hx w⟩
theorem turnF_21 : TurnF 70 2 1 := ⟨enters_of Tryz.func70 (by kernel_rfl) rfl, fun x w hx hc hk hE => by rw [tv21 hk]; exact turn2 x hx w⟩
theorem turnF_13 : TurnF 72 1 3 := ⟨enters_of Tryz.func72 (by kernel_rfl) rfl, fun x w hx hc hk hE => by rw [tv13 hk]; exact turn4 x w⟩
theorem turnF_23 : TurnF 73 2 3 := ⟨enters_of Tryz.func73 (by kernel_rfl) rfl, fun x w hx hc hk hE => by rw [tv23 hk]; exact turn5 x hx w⟩
theorem turnF_31 : TurnF 74 3 1 := ⟨enters_of Tryz.func74 (by kernel_rfl) rfl, fun x w hx hc hk hE => by rw [tv31 hk]; exact turn6 x w⟩
theorem turnF_32 : TurnF 76 3 2 := ⟨enters_of Tryz.func76 (by kernel_rfl) rfl, fun x w hx hc hk hE => by
  have h0 : 0 ≤ x.i := by rcases chk_ways hc with rfl | ⟨i, rfl⟩ | ⟨u, rfl⟩ | rfl | rfl | ⟨s, rfl, hs⟩ <;> first | decide | (exact absurd hk (by decide)) | (simp at hk)
  rw [tv32 hk, if_pos h0]; exact turn7 x w h0 hx.i1⟩
theorem turnF_14 : TurnF 77 1 4 := ⟨enters_of Tryz.func77 (by kernel_rfl) rfl, fun x w hx hc hk hE => by rw [tv14 hk]; exact turn8 x w hE hx.i0 hx.i1⟩
theorem turnF_24 : TurnF 80 2 4 := ⟨enters_of Tryz.func80 (by kernel_rfl) rfl, fun x w hx hc hk hE => by rw [tv24 hk]; exact turn9 x w hE hx.u0 hx.u1⟩
theorem chk_len {x : Vl} (hc : x.chk = 0) : x.s.length ≤ 100000 := by
  rcases chk_ways hc with rfl | ⟨i, rfl⟩ | ⟨u, rfl⟩ | rfl | rfl | ⟨s, rfl, hs⟩ <;> first | (simp; done) | (dsimp only; omega)
theorem turnF_41 : TurnF 81 4 1 := ⟨enters_of Tryz.func81 (by kernel_rfl) rfl, fun x w hx hc hk hE => by rw [tv41 hk]; exact turnS x w hE (chk_len hc)⟩
theorem turnF_42 : TurnF 82 4 2 := ⟨enters_of Tryz.func82 (by kernel_rfl) rfl, fun x w hx hc hk hE => by rw [tv42 hk]; exact turnU x w hE (chk_len hc)⟩
theorem sureF_never {lo : Nat} {w : World} {a b : Int} (h : ∀ c d : Cl, c.t = a → d.t = b → sizeB c d = false) : SureF lo w 69 #[] a b := ⟨enters_of Tryz.func69 (by kernel_rfl) rfl, fun c d w' _ _ _ h1 h2 => by
  rw [h c d h1 h2]; exact sure_never c d w'⟩
theorem sureF_always {lo : Nat} {w : World} {a b : Int} (h : ∀ c d : Cl, c.t = a → d.t = b → sizeB c d = true) : SureF lo w 75 #[] a b := ⟨enters_of Tryz.func75 (by kernel_rfl) rfl, fun c d w' _ _ _ h1 h2 => by
  rw [h c d h1 h2]; exact sure_always c d w'⟩
theorem sureF_21 {lo : Nat} {w : World} : SureF lo w 71 #[] 2 1 := ⟨enters_of Tryz.func71 (by kernel_rfl) rfl, fun c d w' _ _ _ h1 h2 => by
  have : sizeB c d = decide (c.z < d.z) := by simp [sizeB, h1, h2]
  rw [this]; exact sure_3 c d w'⟩
theorem sureF_0 {lo : Nat} {w : World} {a b : Int} (h : a = b) : SureF lo w 52 #[] a b := ⟨enters_of Tryz.func52 (by kernel_rfl) rfl, fun c d w' _ _ _ h1 h2 => by
  have : sizeB c d = decide (c.z ≤ d.z) := by simp [sizeB, h1, h2, h]
  rw [this]; exact sure_of2 c d w'⟩
theorem sureF_14 {lo : Nat} {w : World} {B r : Nat} {g : Nat → Bool} (lB : lo ≤ B) (lr : lo ≤ r) (hc : w.cell? ⟨B, 0, none⟩ = some (.map (some r))) (hr : Tab OKi w r TB g) (hg : ∀ j, j < 47 → g j = true) : SureF lo w 100 #[.pointer (some ⟨B, 0, none⟩)] 1 4 := ⟨enters_of Tryz.func100 (by kernel_rfl) rfl, fun c d w' hb hcc hcd h1 h2 => by
  have : sizeB c d = decide (digV c ≤ d.z) := by simp [sizeB, h1, h2]
  rw [this]
  have hc' : w'.cell? ⟨B, 0, none⟩ = some (.map (some r)) := by
    have hB := hb B lB (World.block_lt_of_cell? _ _ hc)
    unfold World.cell? at *
    rw [hB]
    exact hc
  have hr' := hr.same (hb r lr hr.lt)
  rcases size_num hcc (.inl h1) with hz | hz | hz | hz
  · exact wide1_any c d w' B r TB g TB_apart hc' hr' 21 (digV c) (by simp [TB, digV, h1, hz]) (hg _ (by decide))
  · exact wide1_any c d w' B r TB g TB_apart hc' hr' 22 (digV c) (by simp [TB, digV, h1, hz]) (hg _ (by decide))
  · exact wide1_any c d w' B r TB g TB_apart hc' hr' 23 (digV c) (by simp [TB, digV, h1, hz]) (hg _ (by decide))
  · exact wide1_any c d w' B r TB g TB_apart hc' hr' 24 (digV c) (by simp [TB, digV, h1, hz]) (hg _ (by decide))⟩
theorem sureF_24 {lo : Nat} {w : World} {B r : Nat} {g : Nat → Bool} (lB : lo ≤ B) (lr : lo ≤ r) (hc : w.cell? ⟨B, 0, none⟩ = some (.map (some r))) (hr : Tab OKi w r TC g) (hg : ∀ j, j < 47 → g j = true) : SureF lo w 100 #[.pointer (some ⟨B, 0, none⟩)] 2 4 := ⟨enters_of Tryz.func100 (by kernel_rfl) rfl, fun c d w' hb hcc hcd h1 h2 => by
  have : sizeB c d = decide (digV c ≤ d.z) := by simp [sizeB, h1, h2]
  rw [this]
  have hc' : w'.cell? ⟨B, 0, none⟩ = some (.map (some r)) := by
    have hB := hb B lB (World.block_lt_of_cell? _ _ hc)
    unfold World.cell? at *
    rw [hB]
    exact hc
  have hr' := hr.same (hb r lr hr.lt)
  rcases size_num hcc (.inr h1) with hz | hz | hz | hz
  · exact wide1_any c d w' B r TC g TC_apart hc' hr' 31 (digV c) (by simp [TC, digV, h1, hz]) (hg _ (by decide))
  · exact wide1_any c d w' B r TC g TC_apart hc' hr' 32 (digV c) (by simp [TC, digV, h1, hz]) (hg _ (by decide))
  · exact wide1_any c d w' B r TC g TC_apart hc' hr' 33 (digV c) (by simp [TC, digV, h1, hz]) (hg _ (by decide))
  · exact wide1_any c d w' B r TC g TC_apart hc' hr' 34 (digV c) (by simp [TC, digV, h1, hz]) (hg _ (by decide))⟩
def wyV (nt ns : FuncId) (cs : Array Value) : Value := .agg #[.func (.func nt) #[] #[], .func (.func ns) #[] cs]
theorem zero_way (w : World) : (zeroValue 76).run Tryz.prog w = .ok (.agg #[.nilFunc, .nilFunc]) w := by
  go_simp
theorem ways_look {lo : Nat} {w : World} {r : Nat} (h : WaysM lo w r) (a b : Int) :
    (wayV a b = true ∧ ∃ nt ns cs, (Instr.lookup 102 (.map (some r)) (pr2 a b) true).run Tryz.prog w = .ok (.tuple #[wyV nt ns cs, .bool true]) w ∧ TurnF nt a b ∧ SureF lo w ns cs a b) ∨
    ((wayV a b = true → a = b) ∧ (Instr.lookup 102 (.map (some r)) (pr2 a b) true).run Tryz.prog w = .ok (.tuple #[.agg #[.nilFunc, .nilFunc], .bool false]) w) := by
  obtain ⟨B1, r1, B2, r2, g, ⟨l1, l2, l3, l4⟩, hg, c1, t1, c2, t2, ht⟩ := h
  have hlk : ∀ (n : Nat) (v : Value), n < 47 → (n, pr2 a b, v) ∈ TA (wv 77 (closV B1)) (wv 80 (closV B2)) → (Instr.lookup 102 (.map (some r)) (pr2 a b) true).run Tryz.prog w = .ok (.tuple #[v, .bool true]) w := fun n v hn hm =>
    Tab.look 102 105 76 Tryz.underlying102 klaw_pair ht (TA_apart _ _) ⟨a, b, rfl⟩ hm (hg n hn) true
  by_cases h12 : a = 1 ∧ b = 2
  · obtain ⟨rfl, rfl⟩ := h12
    exact .inl ⟨rfl, _, _, _, hlk 3 _ (by decide) (by simp [TA]; rfl), turnF_12, sureF_never (fun c d h1 h2 => by simp [sizeB, h1, h2])⟩
  by_cases h21 : a = 2 ∧ b = 1
  · obtain ⟨rfl, rfl⟩ := h21
    exact .inl ⟨rfl, _, _, _, hlk 6 _ (by decide) (by simp [TA]; rfl), turnF_21, sureF_21⟩
  by_cases h13 : a = 1 ∧ b = 3
  · obtain ⟨rfl, rfl⟩ := h13
    exact .inl ⟨rfl, _, _, _, hlk 9 _ (by decide) (by simp [TA]; rfl), turnF_13, sureF_never (fun c d h1 h2 => by simp [sizeB, h1, h2])⟩
  by_cases h23 : a = 2 ∧ b = 3
  · obtain ⟨rfl, rfl⟩ := h23
    exact .inl ⟨rfl, _, _, _, hlk 12 _ (by decide) (by simp [TA]; rfl), turnF_23, sureF_never (fun c d h1 h2 => by simp [sizeB, h1, h2])⟩
  by_cases h31 : a = 3 ∧ b = 1
  · obtain ⟨rfl, rfl⟩ := h31
    exact .inl ⟨rfl, _, _, _, hlk 15 _ (by decide) (by simp [TA]; rfl), turnF_31, sureF_always (fun c d h1 h2 => by simp [sizeB, h1, h2])⟩
  by_cases h32 : a = 3 ∧ b = 2
  · obtain ⟨rfl, rfl⟩ := h32
    exact .inl ⟨rfl, _, _, _, hlk 18 _ (by decide) (by simp [TA]; rfl), turnF_32, sureF_always (fun c d h1 h2 => by simp [sizeB, h1, h2])⟩
  by_cases h14 : a = 1 ∧ b = 4
  · obtain ⟨rfl, rfl⟩ := h14
    exact .inl ⟨rfl, _, _, _, hlk 28 _ (by decide) (by simp [TA]; rfl), turnF_14, sureF_14 l1 l2 c1 t1 hg⟩
  by_cases h24 : a = 2 ∧ b = 4
  · obtain ⟨rfl, rfl⟩ := h24
    exact .inl ⟨rfl, _, _, _, hlk 38 _ (by decide) (by simp [TA]; rfl), turnF_24, sureF_24 l3 l4 c2 t2 hg⟩
  by_cases h41 : a = 4 ∧ b = 1
  · obtain ⟨rfl, rfl⟩ := h41
    exact .inl ⟨rfl, _, _, _, hlk 41 _ (by decide) (by simp [TA]; rfl), turnF_41, sureF_never (fun c d h1 h2 => by simp [sizeB, h1, h2])⟩
  by_cases h42 : a = 4 ∧ b = 2
  · obtain ⟨rfl, rfl⟩ := h42
    exact .inl ⟨rfl, _, _, _, hlk 44 _ (by decide) (by simp [TA]; rfl), turnF_42, sureF_never (fun c d h1 h2 => by simp [sizeB, h1, h2])⟩
  refine .inr ⟨fun hw => ?_, ?_⟩
  · rw [wayV_iff] at hw
    omega
  · refine Tab.lookNot 102 105 76 Tryz.underlying102 klaw_pair ht ⟨a, b, rfl⟩ ?_ _ zero_way true
    intro p hp e
    simp only [TA, List.mem_cons, List.not_mem_nil, or_false] at hp
    rcases hp with rfl | rfl | rfl | rfl | rfl | rfl | rfl | rfl | rfl | rfl <;> (have e2 := pr2_inj.1 e; omega)
/-- A way in a box of its own. -/
def WBox (W : World) (B : Nat) (f s : Value) : Prop := W.heap[B]? = some (.cells #[f, s] 76 (0, 0))
theorem WBox.new (W : World) (f s : Value) : WBox (W.alloc (.cells #[f, s] 76)) W.heap.size f s := World.alloc_heap_new W _
theorem WBox.lt {W : World} {B : Nat} {f s : Value} (h : WBox W B f s) : B < W.heap.size := (Array.getElem?_eq_some_iff.1 h).1
theorem WBox.below {W W' : World} {B H : Nat} {f s : Value} (h : WBox W B f s) (hb : Below H W W') (hB : B < H) : WBox W' B f s := (hb.block B hB).trans h
theorem WBox.cells {W : World} {B : Nat} {f s : Value} (h : WBox W B f s) : W.cell? ⟨B, 0, none⟩ = some f ∧ W.cell? ⟨B, 1, none⟩ = some s := by
  unfold WBox at h
  simp [World.cell?, h]
theorem putW_other {W : World} {B j : Nat} (o : Nat) (o' : Nat) {f : Value} (s : Value) (hne : j ≠ B) : ((W.setCell ⟨B, o, none⟩ f).setCell ⟨B, o', none⟩ s).heap[j]? = W.heap[j]? := by
  rw [Below.heap_setCell _ _ _ j hne, Below.heap_setCell _ _ _ j hne]
theorem WBox.frozen {W : World} {B : Nat} {f s : Value} (h : WBox W B f s) (j : Nat) : W.frozen? ⟨B, j, none⟩ = false := by
  unfold WBox at h
  simp [World.frozen?, h]
theorem WBox.set0 {W : World} {B : Nat} {f s : Value} (h : WBox W B f s) (y : Value) : WBox (W.setCell ⟨B, 0, none⟩ y) B y s := by
  unfold WBox at *
  show (W.heap.modify B _)[B]? = _
  obtain ⟨hlt, hk⟩ := Array.getElem?_eq_some_iff.1 h
  rw [Array.getElem?_eq_getElem (by rw [Array.size_modify]; exact hlt), Array.getElem_modify_self, hk]
  rfl
theorem WBox.set1 {W : World} {B : Nat} {f s : Value} (h : WBox W B f s) (y : Value) : WBox (W.setCell ⟨B, 1, none⟩ y) B f y := by
  unfold WBox at *
  show (W.heap.modify B _)[B]? = _
  obtain ⟨hlt, hk⟩ := Array.getElem?_eq_some_iff.1 h
  rw [Array.getElem?_eq_getElem (by rw [Array.size_modify]; exact hlt), Array.getElem_modify_self, hk]
  rfl
theorem WBox.put {W : World} {B : Nat} {f s : Value} (h : WBox W B f s) (f' s' : Value) : WBox ((W.setCell ⟨B, 0, none⟩ f').setCell ⟨B, 1, none⟩ s') B f' s' := (h.set0 f').set1 s'
theorem results_cellW {fn : Func} {s r : Tmp} (h : fn.results = #[.cell s 76, .tmp r]) (tmps : Array Value) (w : World) {B : Nat} {f g : Value} (hs : tmps.getD s undef = .pointer (some ⟨B, 0, none⟩)) (hV : WBox w B f g) :
    (results fn tmps).run Tryz.prog w = .ok (.tuple #[.agg #[f, g], tmps.getD r undef]) w := by
  have hc := hV.cells
  rw [Array.getD_eq_getD_getElem?] at hs
  simp [results, h, hs, go_sem, hc]
/-- What 'of' tells. -/
def OfP (w : World) (a b : Int) (e : Ending) (w' : World) : Prop :=
  (wayV a b = true ∧ ∃ nt ns cs, e = .returned (.tuple #[wyV nt ns cs, .bool true]) ∧ TurnF nt a b ∧ SureF w.heap.size w' ns cs a b ∧ Below w.heap.size w w') ∨
  (wayV a b = false ∧ e = .returned (.tuple #[.agg #[.nilFunc, .nilFunc], .bool false]) ∧ Below w.heap.size w w')
set_option maxRecDepth 100000 in
set_option maxHeartbeats 2000000 in
theorem of_any (a b : Int) (w : World) : Calls Tryz.prog 32 #[.int .i64 a, .int .i64 b] w (OfP w a b) := by
  by_cases hab : a = b
  · subst hab
    by_cases h1 : 1 ≤ a
    · have d1 : decide (1 ≤ a) = true := by simpa using h1
      by_cases h4 : a ≤ 4
      · have d4 : decide (a ≤ 4) = true := by simpa using h4
        have hway : wayV a a = true := by rw [wayV_iff]; omega
        replace hway := Lib.hid hway
        clear h1 h4
        go_enter Tryz.func32, Tryz.ntmps32
        go_wp2
        refine bodyPost_ret (results_cellW rfl _ _ rfl (WBox.new w (.func (.func 51) #[] #[]) (.func (.func 52) #[] #[]))) rfl ?_
        exact .inl ⟨hway.out, _, _, _, rfl, turnF_0 rfl, sureF_0 rfl, gr_alloc (Below.refl _ w) _⟩
      · have d4 : decide (a ≤ 4) = false := by simpa using h4
        have hq : True := trivial
        have hb0 : Below w.heap.size w (w.alloc (.cells #[.nilFunc, .nilFunc] 76)) := gr_alloc (Below.refl _ w) _
        have hW0 := WBox.new w .nilFunc .nilFunc
        have hM := Lib.hid (cways_any (w.alloc (.cells #[.nilFunc, .nilFunc] 76)))
        rw [show (w.alloc (.cells #[.nilFunc, .nilFunc] 76)).heap.size = w.heap.size + 1 by simp] at hM
        go_enter Tryz.func32, Tryz.ntmps32
        go_wp2_with fail
        refine hM.out.mono ?_
        rintro e w2 ⟨r, rfl, hr, g1⟩
        have hb2 := hb0.trans (g1.mono (by simp))
        have hW2 := hW0.below g1 (Nat.lt_succ_self _)
        clear hM hb0 hW0 g1
        rcases ways_look hr a a with ⟨hway, nt, ns, cs, hl, hT, hS⟩ | ⟨hway, hl⟩
        · unfold wyV pr2 at hl
          replace hT := Lib.hid hT
          have hS3 := hS.below ((Below.refl _ w2).alloc (Nat.le_refl _) (.cells #[.func (.func nt) #[] #[], .func (.func ns) #[] cs] 76))
          replace hS3 := Lib.hid hS3
          replace hway := Lib.hid hway
          have hW3 := hW2.below ((Below.refl _ w2).alloc (Nat.le_refl _) (.cells #[.func (.func nt) #[] #[], .func (.func ns) #[] cs] 76)) hW2.lt
          have hb3 := gr_alloc hb2 (.cells #[.func (.func nt) #[] #[], .func (.func ns) #[] cs] 76)
          have c3 := hW3.cells
          have f0 := hW3.frozen 0
          have f1 := hW3.frozen 1
          clear hr hS
          go_wp2
          have hW4 := hW3.put (.func (.func nt) #[] #[]) (.func (.func ns) #[] cs)
          refine bodyPost_ret (results_cellW rfl _ _ rfl hW4) rfl ?_
          exact .inl ⟨hway.out, nt, ns, cs, rfl, hT.out, hS3.out.keep (Nat.le_succ _) (by simp) (fun j h1 h2 => putW_other _ _ _ (by omega)), (hb3.setCell (p := ⟨w.heap.size, 0, none⟩) (Nat.le_refl _) _).setCell (p := ⟨w.heap.size, 1, none⟩) (Nat.le_refl _) _⟩
        · unfold pr2 at hl
          have hno : wayV a a = false := by
            (cases hw : wayV a a with | false => rfl | true => rw [wayV_iff] at hw; exfalso; omega)
          replace hno := Lib.hid hno
          have hW3 := hW2.below ((Below.refl _ w2).alloc (Nat.le_refl _) (.cells #[.nilFunc, .nilFunc] 76)) hW2.lt
          have hb3 := gr_alloc hb2 (.cells #[.nilFunc, .nilFunc] 76)
          have c3 := hW3.cells
          have f0 := hW3.frozen 0
          have f1 := hW3.frozen 1
          clear hr hway
          go_wp2
          have hW4 := hW3.put .nilFunc .nilFunc
          refine bodyPost_ret (results_cellW rfl _ _ rfl hW4) rfl ?_
          exact .inr ⟨hno.out, rfl, (hb3.setCell (p := ⟨w.heap.size, 0, none⟩) (Nat.le_refl _) _).setCell (p := ⟨w.heap.size, 1, none⟩) (Nat.le_refl _) _⟩
    · have d1 : decide (1 ≤ a) = false := by simpa using h1
      have hb0 : Below w.heap.size w (w.alloc (.cells #[.nilFunc, .nilFunc] 76)) := gr_alloc (Below.refl _ w) _
      have hW0 := WBox.new w .nilFunc .nilFunc
      have hM := Lib.hid (cways_any (w.alloc (.cells #[.nilFunc, .nilFunc] 76)))
      rw [show (w.alloc (.cells #[.nilFunc, .nilFunc] 76)).heap.size = w.heap.size + 1 by simp] at hM
      go_enter Tryz.func32, Tryz.ntmps32
      go_wp2_with fail
      refine hM.out.mono ?_
      rintro e w2 ⟨r, rfl, hr, g1⟩
      have hb2 := hb0.trans (g1.mono (by simp))
      have hW2 := hW0.below g1 (Nat.lt_succ_self _)
      clear hM hb0 hW0 g1
      rcases ways_look hr a a with ⟨hway, nt, ns, cs, hl, hT, hS⟩ | ⟨hway, hl⟩
      · unfold wyV pr2 at hl
        replace hT := Lib.hid hT
        have hS3 := hS.below ((Below.refl _ w2).alloc (Nat.le_refl _) (.cells #[.func (.func nt) #[] #[], .func (.func ns) #[] cs] 76))
        replace hS3 := Lib.hid hS3
        replace hway := Lib.hid hway
        have hW3 := hW2.below ((Below.refl _ w2).alloc (Nat.le_refl _) (.cells #[.func (.func nt) #[] #[], .func (.func ns) #[] cs] 76)) hW2.lt
        have hb3 := gr_alloc hb2 (.cells #[.func (.func nt) #[] #[], .func (.func ns) #[] cs] 76)
        have c3 := hW3.cells
        have f0 := hW3.frozen 0
        have f1 := hW3.frozen 1
        clear hr hS
        go_wp2
        have hW4 := hW3.put (.func (.func nt) #[] #[]) (.func (.func ns) #[] cs)
        refine bodyPost_ret (results_cellW rfl _ _ rfl hW4) rfl ?_
        exact .inl ⟨hway.out, nt, ns, cs, rfl, hT.out, hS3.out.keep (Nat.le_succ _) (by simp) (fun j h1 h2 => putW_other _ _ _ (by omega)), (hb3.setCell (p := ⟨w.heap.size, 0, none⟩) (Nat.le_refl _) _).setCell (p := ⟨w.heap.size, 1, none⟩) (Nat.le_refl _) _⟩
      · unfold pr2 at hl
        have hno : wayV a a = false := by
          (cases hw : wayV a a with | false => rfl | true => rw [wayV_iff] at hw; exfalso; omega)
        replace hno := Lib.hid hno
        have hW3 := hW2.below ((Below.refl _ w2).alloc (Nat.le_refl _) (.cells #[.nilFunc, .nilFunc] 76)) hW2.lt
        have hb3 := gr_alloc hb2 (.cells #[.nilFunc, .nilFunc] 76)
        have c3 := hW3.cells
        have f0 := hW3.frozen 0
        have f1 := hW3.frozen 1
        clear hr hway
        go_wp2
        have hW4 := hW3.put .nilFunc .nilFunc
        refine bodyPost_ret (results_cellW rfl _ _ rfl hW4) rfl ?_
        exact .inr ⟨hno.out, rfl, (hb3.setCell (p := ⟨w.heap.size, 0, none⟩) (Nat.le_refl _) _).setCell (p := ⟨w.heap.size, 1, none⟩) (Nat.le_refl _) _⟩
  · have hq : (a == b) = false := by simpa using hab
    have hb0 : Below w.heap.size w (w.alloc (.cells #[.nilFunc, .nilFunc] 76)) := gr_alloc (Below.refl _ w) _
    have hW0 := WBox.new w .nilFunc .nilFunc
    have hM := Lib.hid (cways_any (w.alloc (.cells #[.nilFunc, .nilFunc] 76)))
    rw [show (w.alloc (.cells #[.nilFunc, .nilFunc] 76)).heap.size = w.heap.size + 1 by simp] at hM
    go_enter Tryz.func32, Tryz.ntmps32
    go_wp2_with fail
    refine hM.out.mono ?_
    rintro e w2 ⟨r, rfl, hr, g1⟩
    have hb2 := hb0.trans (g1.mono (by simp))
    have hW2 := hW0.below g1 (Nat.lt_succ_self _)
    clear hM hb0 hW0 g1
    rcases ways_look hr a b with ⟨hway, nt, ns, cs, hl, hT, hS⟩ | ⟨hway, hl⟩
    · unfold wyV pr2 at hl
      replace hT := Lib.hid hT
      have hS3 := hS.below ((Below.refl _ w2).alloc (Nat.le_refl _) (.cells #[.func (.func nt) #[] #[], .func (.func ns) #[] cs] 76))
      replace hS3 := Lib.hid hS3
      replace hway := Lib.hid hway
      have hW3 := hW2.below ((Below.refl _ w2).alloc (Nat.le_refl _) (.cells #[.func (.func nt) #[] #[], .func (.func ns) #[] cs] 76)) hW2.lt
      have hb3 := gr_alloc hb2 (.cells #[.func (.func nt) #[] #[], .func (.func ns) #[] cs] 76)
      have c3 := hW3.cells
      have f0 := hW3.frozen 0
      have f1 := hW3.frozen 1
      clear hr hS
      go_wp2
      have hW4 := hW3.put (.func (.func nt) #[] #[]) (.func (.func ns) #[] cs)
      refine bodyPost_ret (results_cellW rfl _ _ rfl hW4) rfl ?_
      exact .inl ⟨hway.out, nt, ns, cs, rfl, hT.out, hS3.out.keep (Nat.le_succ _) (by simp) (fun j h1 h2 => putW_other _ _ _ (by omega)), (hb3.setCell (p := ⟨w.heap.size, 0, none⟩) (Nat.le_refl _) _).setCell (p := ⟨w.heap.size, 1, none⟩) (Nat.le_refl _) _⟩
    · unfold pr2 at hl
      have hno : wayV a b = false := by
        (cases hw : wayV a b with | false => rfl | true => exact absurd (hway hw) hab)
      replace hno := Lib.hid hno
      have hW3 := hW2.below ((Below.refl _ w2).alloc (Nat.le_refl _) (.cells #[.nilFunc, .nilFunc] 76)) hW2.lt
      have hb3 := gr_alloc hb2 (.cells #[.nilFunc, .nilFunc] 76)
      have c3 := hW3.cells
      have f0 := hW3.frozen 0
      have f1 := hW3.frozen 1
      clear hr hway
      go_wp2
      have hW4 := hW3.put .nilFunc .nilFunc
      refine bodyPost_ret (results_cellW rfl _ _ rfl hW4) rfl ?_
      exact .inr ⟨hno.out, rfl, (hb3.setCell (p := ⟨w.heap.size, 0, none⟩) (Nat.le_refl _) _).setCell (p := ⟨w.heap.size, 1, none⟩) (Nat.le_refl _) _⟩
    
set_option maxRecDepth 100000 in
theorem way_any (a b : Int) (w : World) : Calls Tryz.prog 16 #[.int .i64 a, .int .i64 b] w fun e w' => e = .returned (.bool (wayV a b)) ∧ Below w.heap.size w w' := by
  have hO := Lib.hid (of_any a b w)
  go_enter Tryz.func16, Tryz.ntmps16
  go_wp2_with fail
  refine hO.out.mono ?_
  rintro e w2 (⟨hway, nt, ns, cs, rfl, -, -, hb⟩ | ⟨hway, rfl, hb⟩)
  · replace hway := Lib.hid hway
    have hb2 := fun o => gr_alloc hb o
    clear hO hb
    unfold wyV
    go_wp2
    go_ret
    exact ⟨by rw [hway.out]; rfl, hb2 _⟩
  · replace hway := Lib.hid hway
    have hb2 := fun o => gr_alloc hb o
    clear hO hb
    go_wp2
    go_ret
    exact ⟨by rw [hway.out]; rfl, hb2 _⟩
end Go.Proofs.YtagoooclfcbdeaaGreatDoor
namespace Go.Proofs.YtagoooclfcbdeaaGreatDoor
open Go.RowKit
set_option linter.unusedVariables false

/-- Whichever goes: a conversion's columns. -/
theorem sureV_bad {c d : Cl} (h : (colV c && colV d) = false) : sureV c d = (false, 2) := by
  unfold sureV
  rw [if_pos]
  cases h1 : colV c <;> cases h2 : colV d <;> simp_all
theorem sureV_ok {c d : Cl} (h1 : colV c = true) (h2 : colV d = true) : sureV c d = (wayV c.t d.t && (d.nl || !c.nl) && sizeB c d, 0) := by
  unfold sureV
  rw [if_neg]
  simp [h1, h2]
set_option maxRecDepth 100000 in
set_option maxHeartbeats 2000000 in
theorem sure_bad (c d : Cl) (w : World) (hE : Env w) (hl : c.n.length ≤ 100000) (hl2 : d.n.length ≤ 100000) (hcd : (colV c && colV d) = false) : Calls Tryz.prog 13 #[c.val, d.val] w fun e w' => e = .returned (.tuple #[.bool false, .int .i64 2]) ∧ Below w.heap.size w w' := by
  obtain ⟨cn, ct, cz, cl⟩ := c
  obtain ⟨dn, dt, dz, dl⟩ := d
  simp only [Cl.val] at *
  have hR := Lib.hid (fun W g h1 h2 => cright_two ⟨cn, ct, cz, cl⟩ ⟨dn, dt, dz, dl⟩ g W h1 h2 hl hl2)
  rw [hcd] at hR
  have hO := Lib.hid (fun W => of_any ct dt W)
  have hC := CBox.new w ⟨cn, ct, cz, cl⟩
  have hD := CBox.new (w.alloc (.cells #[.string (strL cn), .int .i64 ct, .int .i64 cz, .bool cl] 24)) ⟨dn, dt, dz, dl⟩
  rw [show (w.alloc (.cells #[.string (strL cn), .int .i64 ct, .int .i64 cz, .bool cl] 24)).heap.size = w.heap.size + 1 by simp] at hD
  have hb0 : Below w.heap.size w ((w.alloc (.cells #[.string (strL cn), .int .i64 ct, .int .i64 cz, .bool cl] 24)).alloc (.cells #[.string (strL dn), .int .i64 dt, .int .i64 dz, .bool dl] 24)) := gr_alloc (gr_alloc (Below.refl _ w) _) _
  have hC1 := hC.below ((Below.refl _ _).alloc (Nat.le_refl _) (.cells #[.string (strL dn), .int .i64 dt, .int .i64 dz, .bool dl] 24)) hC.lt
  have hs1 : w.heap.size < ((w.alloc (.cells #[.string (strL cn), .int .i64 ct, .int .i64 cz, .bool cl] 24)).alloc (.cells #[.string (strL dn), .int .i64 dt, .int .i64 dz, .bool dl] 24)).heap.size := hC1.lt
  have hs2 : w.heap.size + 1 < ((w.alloc (.cells #[.string (strL cn), .int .i64 ct, .int .i64 cz, .bool cl] 24)).alloc (.cells #[.string (strL dn), .int .i64 dt, .int .i64 dz, .bool dl] 24)).heap.size := hD.lt
  go_enter Tryz.func13, Tryz.ntmps13
  go_wp2_with fail
  refine (hR.out _ _ (((hE.alloc _).alloc _).alloc _) (by unfold Cols2; simp [go_sem])).mono ?_
  rintro e w2 ⟨rfl, g1⟩
  have g2 := gr (gr_alloc (Below.refl _ _) _) g1
  have hC2 := hC1.below g2 hs1
  have hD2 := hD.below g2 hs2
  have hb2 := gr hb0 g2
  clear hR hC hD hb0 hC1 hs1 hs2 g1 g2 hE
  clear hO
  go_wp2
  go_ret2
  exact ⟨rfl, hb2⟩
set_option maxRecDepth 100000 in
set_option maxHeartbeats 4000000 in
theorem sure_ok2 (c d : Cl) (w : World) (hE : Env w) (hl : c.n.length ≤ 100000) (hl2 : d.n.length ≤ 100000) (h1 : colV c = true) (h2 : colV d = true) : Calls Tryz.prog 13 #[c.val, d.val] w fun e w' => e = .returned (.tuple #[.bool (wayV c.t d.t && (d.nl || !c.nl) && sizeB c d), .int .i64 0]) ∧ Below w.heap.size w w' := by
  have hcd : (colV c && colV d) = true := by rw [h1, h2]; rfl
  obtain ⟨cn, ct, cz, cl⟩ := c
  obtain ⟨dn, dt, dz, dl⟩ := d
  simp only [Cl.val] at *
  have hR := Lib.hid (fun W g h1 h2 => cright_two ⟨cn, ct, cz, cl⟩ ⟨dn, dt, dz, dl⟩ g W h1 h2 hl hl2)
  rw [hcd] at hR
  have hO := Lib.hid (fun W => of_any ct dt W)
  have hC := CBox.new w ⟨cn, ct, cz, cl⟩
  have hD := CBox.new (w.alloc (.cells #[.string (strL cn), .int .i64 ct, .int .i64 cz, .bool cl] 24)) ⟨dn, dt, dz, dl⟩
  rw [show (w.alloc (.cells #[.string (strL cn), .int .i64 ct, .int .i64 cz, .bool cl] 24)).heap.size = w.heap.size + 1 by simp] at hD
  have hb0 : Below w.heap.size w ((w.alloc (.cells #[.string (strL cn), .int .i64 ct, .int .i64 cz, .bool cl] 24)).alloc (.cells #[.string (strL dn), .int .i64 dt, .int .i64 dz, .bool dl] 24)) := gr_alloc (gr_alloc (Below.refl _ w) _) _
  have hC1 := hC.below ((Below.refl _ _).alloc (Nat.le_refl _) (.cells #[.string (strL dn), .int .i64 dt, .int .i64 dz, .bool dl] 24)) hC.lt
  have hs1 : w.heap.size < ((w.alloc (.cells #[.string (strL cn), .int .i64 ct, .int .i64 cz, .bool cl] 24)).alloc (.cells #[.string (strL dn), .int .i64 dt, .int .i64 dz, .bool dl] 24)).heap.size := hC1.lt
  have hs2 : w.heap.size + 1 < ((w.alloc (.cells #[.string (strL cn), .int .i64 ct, .int .i64 cz, .bool cl] 24)).alloc (.cells #[.string (strL dn), .int .i64 dt, .int .i64 dz, .bool dl] 24)).heap.size := hD.lt
  go_enter Tryz.func13, Tryz.ntmps13
  go_wp2_with fail
  refine (hR.out _ _ (((hE.alloc _).alloc _).alloc _) (by unfold Cols2; simp [go_sem])).mono ?_
  rintro e w2 ⟨rfl, g1⟩
  have g2 := gr (gr_alloc (Below.refl _ _) _) g1
  have hC2 := hC1.below g2 hs1
  have hD2 := hD.below g2 hs2
  have hb2 := gr hb0 g2
  clear hR hC hD hb0 hC1 hs1 hs2 g1 g2 hE
  have cc := hC2.cells
  have cd := hD2.cells
  dsimp only at cc cd
  go_wp2_with fail
  refine (hO.out _).mono ?_
  clear cc cd hO
  rintro e w3 (⟨hway, nt, ns, cs, rfl, -, hS, g3⟩ | ⟨hway, rfl, g3⟩)
  · replace hway := Lib.hid hway
    have hl1 := hC2.lt
    have hl3 := hD2.lt
    have hC3 := hC2.below g3 hl1
    have hD3 := hD2.below g3 hl3
    unfold wyV
    have hC4 := hC3.below ((Below.refl _ w3).alloc (Nat.le_refl _) (.cells #[.func (.func nt) #[] #[], .func (.func ns) #[] cs] 76)) hC3.lt
    have hD4 := hD3.below ((Below.refl _ w3).alloc (Nat.le_refl _) (.cells #[.func (.func nt) #[] #[], .func (.func ns) #[] cs] 76)) hD3.lt
    have hb4 := gr_alloc (gr hb2 g3) (.cells #[.func (.func nt) #[] #[], .func (.func ns) #[] cs] 76)
    have hS4 := hS.below ((Below.refl _ w3).alloc (Nat.le_refl _) (.cells #[.func (.func nt) #[] #[], .func (.func ns) #[] cs] 76))
    have cc := hC4.cells
    have cd := hD4.cells
    dsimp only at cc cd
    have eN := hS4.1
    unfold Enters at eN
    have hS5 := hS4.2 ⟨cn, ct, cz, cl⟩ ⟨dn, dt, dz, dl⟩ (w3.alloc (.cells #[.func (.func nt) #[] #[], .func (.func ns) #[] cs] 76)) (fun _ _ _ => rfl) h1 h2 rfl rfl
    simp only [Cl.val] at hS5
    obtain ⟨z, hz⟩ : ∃ z, sizeB ⟨cn, ct, cz, cl⟩ ⟨dn, dt, dz, dl⟩ = z := ⟨_, rfl⟩
    rw [hz] at hS5
    replace hz := Lib.hid hz
    replace hS5 := Lib.hid hS5
    clear hS hS4 hC2 hD2 hC3 hD3 hC4 hD4 hl1 hl3 g3 hb2
    cases dl
    · cases cl
      · go_wp2_with fail
        refine hS5.out.mono ?_
        rintro e w5 ⟨rfl, g5⟩
        have hb5 := gr hb4 g5
        clear hS5 hb4 g5 cc cd
        go_wp2
        go_ret2
        exact ⟨by rw [hway.out, hz.out]; simp, hb5⟩
      · clear hS5
        go_wp2
        go_ret2
        exact ⟨by rw [hway.out]; rfl, hb4⟩
    · go_wp2_with fail
      refine hS5.out.mono ?_
      rintro e w5 ⟨rfl, g5⟩
      have hb5 := gr hb4 g5
      clear hS5 hb4 g5 cc cd
      go_wp2
      go_ret2
      exact ⟨by rw [hway.out, hz.out]; simp, hb5⟩
  · replace hway := Lib.hid hway
    have hb3 := gr hb2 g3
    clear hb2
    have hb4 := fun o => gr_alloc hb3 o
    clear hC2 hD2 h1 h2
    go_wp2
    go_ret2
    exact ⟨by rw [hway.out]; rfl, hb4 _⟩
theorem sure_any (c d : Cl) (w : World) (hE : Env w) (hl : c.n.length ≤ 100000) (hl2 : d.n.length ≤ 100000) : Calls Tryz.prog 13 #[c.val, d.val] w fun e w' => e = .returned (.tuple #[.bool (sureV c d).1, .int .i64 ((sureV c d).2 : Int)]) ∧ Below w.heap.size w w' := by
  by_cases h : (colV c && colV d) = false
  · rw [sureV_bad h]; exact sure_bad c d w hE hl hl2 h
  · have h1 : colV c = true := by cases e : colV c <;> simp_all
    have h2 : colV d = true := by cases e : colV d <;> simp_all
    rw [sureV_ok h1 h2]; exact sure_ok2 c d w hE hl hl2 h1 h2
end Go.Proofs.YtagoooclfcbdeaaGreatDoor
namespace Go.Proofs.YtagoooclfcbdeaaGreatDoor
open Go.RowKit
set_option linter.unusedVariables false

def faultC (c : Cl) (n : Nat) : Value := .agg #[.string (strL c.n), .int .i64 c.t, .int .i64 c.z, .bool c.nl, .int .i64 (n : Int)]
/-- What turned tells. -/
def TurnedP (w : World) (f t : Cl) (x : Vl) (e : Ending) (w' : World) : Prop :=
  ∃ (y : Vl) (v : Value), e = .returned (.tuple #[y.val, v]) ∧ ((v = .nilIface ∧ convV f t x = (y, 0)) ∨ ∃ (c : Cl) (n : Nat), n ≠ 0 ∧ v = .iface 84 (faultC c n) ∧ convV f t x = (zeroT, n)) ∧ Below w.heap.size w w'
theorem four_boxes (w : World) (c d : Cl) (x : Vl) :
    CBox ((((w.alloc (.cells #[.string (strL c.n), .int .i64 c.t, .int .i64 c.z, .bool c.nl] 24)).alloc (.cells #[.string (strL d.n), .int .i64 d.t, .int .i64 d.z, .bool d.nl] 24)).alloc (.cells #[.int .i64 x.k, .int .i64 x.i, .int .u64 x.u, .string (strL x.s)] 28)).alloc (.cells #[.int .i64 0, .int .i64 0, .int .u64 0, .string { data := #[] }] 28)) w.heap.size c ∧
    CBox ((((w.alloc (.cells #[.string (strL c.n), .int .i64 c.t, .int .i64 c.z, .bool c.nl] 24)).alloc (.cells #[.string (strL d.n), .int .i64 d.t, .int .i64 d.z, .bool d.nl] 24)).alloc (.cells #[.int .i64 x.k, .int .i64 x.i, .int .u64 x.u, .string (strL x.s)] 28)).alloc (.cells #[.int .i64 0, .int .i64 0, .int .u64 0, .string { data := #[] }] 28)) (w.heap.size + 1) d ∧
    VBox ((((w.alloc (.cells #[.string (strL c.n), .int .i64 c.t, .int .i64 c.z, .bool c.nl] 24)).alloc (.cells #[.string (strL d.n), .int .i64 d.t, .int .i64 d.z, .bool d.nl] 24)).alloc (.cells #[.int .i64 x.k, .int .i64 x.i, .int .u64 x.u, .string (strL x.s)] 28)).alloc (.cells #[.int .i64 0, .int .i64 0, .int .u64 0, .string { data := #[] }] 28)) (w.heap.size + 1 + 1) x.k x.i x.u (strL x.s) ∧
    VBox ((((w.alloc (.cells #[.string (strL c.n), .int .i64 c.t, .int .i64 c.z, .bool c.nl] 24)).alloc (.cells #[.string (strL d.n), .int .i64 d.t, .int .i64 d.z, .bool d.nl] 24)).alloc (.cells #[.int .i64 x.k, .int .i64 x.i, .int .u64 x.u, .string (strL x.s)] 28)).alloc (.cells #[.int .i64 0, .int .i64 0, .int .u64 0, .string { data := #[] }] 28)) (w.heap.size + 1 + 1 + 1) 0 0 0 { data := #[] } ∧
    Below w.heap.size w ((((w.alloc (.cells #[.string (strL c.n), .int .i64 c.t, .int .i64 c.z, .bool c.nl] 24)).alloc (.cells #[.string (strL d.n), .int .i64 d.t, .int .i64 d.z, .bool d.nl] 24)).alloc (.cells #[.int .i64 x.k, .int .i64 x.i, .int .u64 x.u, .string (strL x.s)] 28)).alloc (.cells #[.int .i64 0, .int .i64 0, .int .u64 0, .string { data := #[] }] 28)) := by
  have e1 := CBox.new w c
  generalize h1 : (w.alloc (.cells #[.string (strL c.n), .int .i64 c.t, .int .i64 c.z, .bool c.nl] 24)) = w1 at *
  have z1 : w1.heap.size = w.heap.size + 1 := by rw [← h1]; simp
  have b1 : Below w.heap.size w w1 := by rw [← h1]; exact gr_alloc (Below.refl _ w) _
  have e2 := CBox.new w1 d
  have e1 := e1.below ((Below.refl _ w1).alloc (Nat.le_refl _) (.cells #[.string (strL d.n), .int .i64 d.t, .int .i64 d.z, .bool d.nl] 24)) (by omega)
  have b2 := gr_alloc b1 (.cells #[.string (strL d.n), .int .i64 d.t, .int .i64 d.z, .bool d.nl] 24)
  generalize h2 : (w1.alloc (.cells #[.string (strL d.n), .int .i64 d.t, .int .i64 d.z, .bool d.nl] 24)) = w2 at *
  have z2 : w2.heap.size = w.heap.size + 1 + 1 := by rw [← h2]; simp [z1]
  have e3 := VBox.new w2 x.k x.i x.u (strL x.s)
  have e2 := e2.below ((Below.refl _ w2).alloc (Nat.le_refl _) (.cells #[.int .i64 x.k, .int .i64 x.i, .int .u64 x.u, .string (strL x.s)] 28)) (by omega)
  have e1 := e1.below ((Below.refl _ w2).alloc (Nat.le_refl _) (.cells #[.int .i64 x.k, .int .i64 x.i, .int .u64 x.u, .string (strL x.s)] 28)) (by omega)
  have b3 := gr_alloc b2 (.cells #[.int .i64 x.k, .int .i64 x.i, .int .u64 x.u, .string (strL x.s)] 28)
  generalize h3 : (w2.alloc (.cells #[.int .i64 x.k, .int .i64 x.i, .int .u64 x.u, .string (strL x.s)] 28)) = w3 at *
  have z3 : w3.heap.size = w.heap.size + 1 + 1 + 1 := by rw [← h3]; simp [z2]
  have e4 := VBox.new w3 0 0 0 { data := #[] }
  have e3 := e3.below ((Below.refl _ w3).alloc (Nat.le_refl _) (.cells #[.int .i64 0, .int .i64 0, .int .u64 0, .string { data := #[] }] 28)) (by omega)
  have e2 := e2.below ((Below.refl _ w3).alloc (Nat.le_refl _) (.cells #[.int .i64 0, .int .i64 0, .int .u64 0, .string { data := #[] }] 28)) (by omega)
  have e1 := e1.below ((Below.refl _ w3).alloc (Nat.le_refl _) (.cells #[.int .i64 0, .int .i64 0, .int .u64 0, .string { data := #[] }] 28)) (by omega)
  have b4 := gr_alloc b3 (.cells #[.int .i64 0, .int .i64 0, .int .u64 0, .string { data := #[] }] 28)
  rw [z1] at e2
  rw [z2] at e3
  rw [z3] at e4
  exact ⟨e1, e2, e3, e4, b4⟩
set_option maxRecDepth 100000 in
set_option maxHeartbeats 4000000 in
theorem turned_unfit (c d : Cl) (x : Vl) (w : World) (hE : Env w) (hl : c.n.length ≤ 100000) (hx : x.Wf) (h1 : colV c = true) (h2 : colV d = true) {F : Nat} (hfe : fitV c x = F) (hF0 : F ≠ 0) : Calls Tryz.prog 27 #[c.val, d.val, x.val] w (TurnedP w c d x) := by
  have hcv : convV c d x = (zeroT, F) := by
    unfold convV
    rw [if_neg (by simp [h1, h2]), if_pos (by rw [hfe]; exact hF0), hfe]
  replace hcv := Lib.hid hcv
  have hd : ((F : Int) != 0) = true := by simp; omega
  replace hF0 := Lib.hid hF0
  obtain ⟨cn, ct, cz, cl⟩ := c
  obtain ⟨dn, dt, dz, dl⟩ := d
  obtain ⟨xk, xi, xu, xs⟩ := x
  simp only [Cl.val, Vl.val, valV] at *
  obtain ⟨hC1, hD1, hX1, hR1, hb1⟩ := four_boxes w ⟨cn, ct, cz, cl⟩ ⟨dn, dt, dz, dl⟩ ⟨xk, xi, xu, xs⟩
  dsimp only at hC1 hD1 hX1 hR1 hb1
  have hE1 := hE.below hb1
  have hF := Lib.hid (fun W h => sFits_any ⟨cn, ct, cz, cl⟩ ⟨xk, xi, xu, xs⟩ W h hl hx)
  simp only [Cl.val, Vl.val, valV] at hF
  rw [hfe] at hF
  go_enter Tryz.func27, Tryz.ntmps27
  go_wp2_with fail
  refine (hF.out _ hE1).mono ?_
  rintro e w2 ⟨rfl, g1⟩
  have hE2 := hE1.below g1
  have hlt := hR1.lt
  have hC2 := hC1.below g1 (by omega)
  have hD2 := hD1.below g1 (by omega)
  have hX2 := hX1.below g1 (by omega)
  have hR2 := hR1.below g1 (by omega)
  have hb2 := gr hb1 g1
  clear hlt hC1 hD1 hX1 hR1 hb1
  clear hF g1 hE1 hE
  have cc := hC2.cells
  have cd := hD2.cells
  have cv := hX2.cells
  have cr := hR2.cells
  have f0 := hR2.frozen 0
  have f1 := hR2.frozen 1
  have f2 := hR2.frozen 2
  have f3 := hR2.frozen 3
  dsimp only at cc cd cv cr
  clear hfe h1 h2 hx
  go_wp2
  go_region
  go_wp2
  have hP := vbox_drew (hR2.put xk xi xu (strL xs))
  refine bodyPost_ret (results_cellV rfl _ _ rfl hP) rfl ?_
  exact ⟨⟨xk, xi, xu, xs⟩, _, rfl, .inr ⟨⟨cn, ct, cz, cl⟩, F, hF0.out, rfl, hcv.out⟩, (below_put hb2 (by omega) _ _ _ _).drew⟩
/-- The plain answers, case by case. -/
theorem conv_way {c d : Cl} {x : Vl} (h1 : colV c = true) (h2 : colV d = true) (hf : fitV c x = 0) (hw : wayV c.t d.t = false) : convV c d x = (zeroT, 160) := by
  unfold convV
  rw [if_neg (by simp [h1, h2]), if_neg (by simp [hf]), if_pos hw]
theorem conv_turn {c d : Cl} {x : Vl} (h1 : colV c = true) (h2 : colV d = true) (hf : fitV c x = 0) (hw : wayV c.t d.t = true) (hk : x.k ≠ 0) : convV c d x = match turnV x d.t with
    | none => (zeroT, 161)
    | some y => if fitV d y = 0 then (y, 0) else (zeroT, 161) := by
  unfold convV
  rw [if_neg (by simp [h1, h2]), if_neg (by simp [hf]), if_neg (by simp [hw]), if_neg hk]
  cases turnV x d.t <;> rfl
theorem conv_null {c d : Cl} {x : Vl} (h1 : colV c = true) (h2 : colV d = true) (hf : fitV c x = 0) (hw : wayV c.t d.t = true) (hk : x.k = 0) : convV c d x = if fitV d x = 0 then (x, 0) else (zeroT, 161) := by
  unfold convV
  rw [if_neg (by simp [h1, h2]), if_neg (by simp [hf]), if_neg (by simp [hw]), if_pos hk, fit_null h2 hk (fit_zero hf).2.1]
  cases d.nl <;> rfl
theorem VBox.put_other {W : World} {B B' : Nat} {k i u : Int} {s : ByteArray} (h : VBox W B k i u s) (hne : B ≠ B') (k' i' u' : Int) (s' : ByteArray) : VBox ((((W.setCell ⟨B', 0, none⟩ (.int .i64 k')).setCell ⟨B', 1, none⟩ (.int .i64 i')).setCell ⟨B', 2, none⟩ (.int .u64 u')).setCell ⟨B', 3, none⟩ (.string s')) B k i u s :=
  (((h.other hne _).other hne _).other hne _).other hne _
set_option maxRecDepth 100000 in
set_option maxHeartbeats 4000000 in
theorem turned_noway (c d : Cl) (x : Vl) (w : World) (hE : Env w) (hl : c.n.length ≤ 100000) (hx : x.Wf) (h1 : colV c = true) (h2 : colV d = true) (hfe : fitV c x = 0) (hw : wayV c.t d.t = false) : Calls Tryz.prog 27 #[c.val, d.val, x.val] w (TurnedP w c d x) := by
  have hcv := conv_way h1 h2 hfe hw
  replace hcv := Lib.hid hcv
  obtain ⟨cn, ct, cz, cl⟩ := c
  obtain ⟨dn, dt, dz, dl⟩ := d
  obtain ⟨xk, xi, xu, xs⟩ := x
  simp only [Cl.val, Vl.val, valV] at *
  obtain ⟨hC1, hD1, hX1, hR1, hb1⟩ := four_boxes w ⟨cn, ct, cz, cl⟩ ⟨dn, dt, dz, dl⟩ ⟨xk, xi, xu, xs⟩
  dsimp only at hC1 hD1 hX1 hR1 hb1
  have hE1 := hE.below hb1
  have hF := Lib.hid (fun W h => sFits_any ⟨cn, ct, cz, cl⟩ ⟨xk, xi, xu, xs⟩ W h hl hx)
  simp only [Cl.val, Vl.val, valV] at hF
  rw [hfe] at hF
  go_enter Tryz.func27, Tryz.ntmps27
  go_wp2_with fail
  refine (hF.out _ hE1).mono ?_
  rintro e w2 ⟨rfl, g1⟩
  have hE2 := hE1.below g1
  have hlt := hR1.lt
  have hC2 := hC1.below g1 (by omega)
  have hD2 := hD1.below g1 (by omega)
  have hX2 := hX1.below g1 (by omega)
  have hR2 := hR1.below g1 (by omega)
  have hb2 := gr hb1 g1
  clear hlt hC1 hD1 hX1 hR1 hb1
  clear hF g1 hE1 hE
  clear hfe h1 h2 hx
  have hO := Lib.hid (fun W => of_any ct dt W)
  have cc := hC2.cells
  have cd := hD2.cells
  have cv := hX2.cells
  have cr := hR2.cells
  have f0 := hR2.frozen 0
  have f1 := hR2.frozen 1
  have f2 := hR2.frozen 2
  have f3 := hR2.frozen 3
  dsimp only at cc cd cv cr
  go_wp2_with fail
  refine (hO.out _).mono ?_
  clear hO cc cd cv cr f0 f1 f2 f3
  rintro e w3 (⟨hway, nt, ns, cs, rfl, hT, hS, g3⟩ | ⟨hway, rfl, g3⟩)
  · rw [hw] at hway; cases hway
  · clear hway hw
    have hE3 := hE2.below g3
    have hlt := hR2.lt
    have hC3 := hC2.below g3 (by omega)
    have hD3 := hD2.below g3 (by omega)
    have hX3 := hX2.below g3 (by omega)
    have hR3 := hR2.below g3 (by omega)
    have hb3 := gr hb2 g3
    clear hlt hC2 hD2 hX2 hR2 hb2
    have hal := (Below.refl _ w3).alloc (Nat.le_refl _) (.cells #[.nilFunc, .nilFunc] 76)
    have hWB := WBox.new w3 .nilFunc .nilFunc
    have hlt := hR3.lt
    have hC4 := hC3.below hal (by omega)
    have hD4 := hD3.below hal (by omega)
    have hX4 := hX3.below hal (by omega)
    have hR4 := hR3.below hal (by omega)
    have hb4 := gr hb3 hal
    clear hlt hC3 hD3 hX3 hR3 hb3
    have hE4 := hE3.below hal
    clear hal hE3
    have cw := hWB.cells
    clear hE4 g3 hE2 cw hWB
    have cc := hC4.cells
    have cd := hD4.cells
    have cv := hX4.cells
    have cr := hR4.cells
    have f0 := hR4.frozen 0
    have f1 := hR4.frozen 1
    have f2 := hR4.frozen 2
    have f3 := hR4.frozen 3
    dsimp only at cc cd cv cr
    go_wp2
    go_region
    go_wp2
    have hP := vbox_drew (hR4.put xk xi xu (strL xs))
    refine bodyPost_ret (results_cellV rfl _ _ rfl hP) rfl ?_
    exact ⟨⟨xk, xi, xu, xs⟩, _, rfl, .inr ⟨⟨dn, dt, dz, dl⟩, 160, (by decide), rfl, hcv.out⟩, (below_put hb4 (by omega) _ _ _ _).drew⟩
set_option maxRecDepth 100000 in
set_option maxHeartbeats 4000000 in
theorem turned_null (c d : Cl) (x : Vl) (w : World) (hE : Env w) (hl : c.n.length ≤ 100000) (hl2 : d.n.length ≤ 100000) (hx : x.Wf) (h1 : colV c = true) (h2 : colV d = true) (hfe : fitV c x = 0) (hw : wayV c.t d.t = true) (hk : x.k = 0) : Calls Tryz.prog 27 #[c.val, d.val, x.val] w (TurnedP w c d x) := by
  have hcn := conv_null h1 h2 hfe hw hk
  replace hcn := Lib.hid hcn
  have hk2 : (x.k != 0) = false := by simp [hk]
  clear hk
  obtain ⟨cn, ct, cz, cl⟩ := c
  obtain ⟨dn, dt, dz, dl⟩ := d
  obtain ⟨xk, xi, xu, xs⟩ := x
  simp only [Cl.val, Vl.val, valV] at *
  obtain ⟨hC1, hD1, hX1, hR1, hb1⟩ := four_boxes w ⟨cn, ct, cz, cl⟩ ⟨dn, dt, dz, dl⟩ ⟨xk, xi, xu, xs⟩
  dsimp only at hC1 hD1 hX1 hR1 hb1
  have hE1 := hE.below hb1
  have hF := Lib.hid (fun W h => sFits_any ⟨cn, ct, cz, cl⟩ ⟨xk, xi, xu, xs⟩ W h hl hx)
  simp only [Cl.val, Vl.val, valV] at hF
  rw [hfe] at hF
  go_enter Tryz.func27, Tryz.ntmps27
  go_wp2_with fail
  refine (hF.out _ hE1).mono ?_
  rintro e w2 ⟨rfl, g1⟩
  have hE2 := hE1.below g1
  have hlt := hR1.lt
  have hC2 := hC1.below g1 (by omega)
  have hD2 := hD1.below g1 (by omega)
  have hX2 := hX1.below g1 (by omega)
  have hR2 := hR1.below g1 (by omega)
  have hb2 := gr hb1 g1
  clear hlt hC1 hD1 hX1 hR1 hb1
  clear hF g1 hE1 hE
  clear hfe h1 h2
  have hO := Lib.hid (fun W => of_any ct dt W)
  have cc := hC2.cells
  have cd := hD2.cells
  have cv := hX2.cells
  have cr := hR2.cells
  have f0 := hR2.frozen 0
  have f1 := hR2.frozen 1
  have f2 := hR2.frozen 2
  have f3 := hR2.frozen 3
  dsimp only at cc cd cv cr
  go_wp2_with fail
  refine (hO.out _).mono ?_
  clear hO cc cd cv cr f0 f1 f2 f3
  rintro e w3 (⟨hway, nt, ns, cs, rfl, hT, hS, g3⟩ | ⟨hway, rfl, g3⟩)
  · clear hway hw hT hS
    have hE3 := hE2.below g3
    have hlt := hR2.lt
    have hC3 := hC2.below g3 (by omega)
    have hD3 := hD2.below g3 (by omega)
    have hX3 := hX2.below g3 (by omega)
    have hR3 := hR2.below g3 (by omega)
    have hb3 := gr hb2 g3
    clear hlt hC2 hD2 hX2 hR2 hb2
    unfold wyV
    have hal := (Below.refl _ w3).alloc (Nat.le_refl _) (.cells #[(.func (.func nt) #[] #[]), (.func (.func ns) #[] cs)] 76)
    have hWB := WBox.new w3 (.func (.func nt) #[] #[]) (.func (.func ns) #[] cs)
    have hlt := hR3.lt
    have hC4 := hC3.below hal (by omega)
    have hD4 := hD3.below hal (by omega)
    have hX4 := hX3.below hal (by omega)
    have hR4 := hR3.below hal (by omega)
    have hb4 := gr hb3 hal
    clear hlt hC3 hD3 hX3 hR3 hb3
    have hE4 := hE3.below hal
    clear hal hE3
    have cw := hWB.cells
    clear g3 hE2 cw hWB
    have cc := hC4.cells
    have cd := hD4.cells
    have cv := hX4.cells
    have cr := hR4.cells
    have f0 := hR4.frozen 0
    have f1 := hR4.frozen 1
    have f2 := hR4.frozen 2
    have f3 := hR4.frozen 3
    dsimp only at cc cd cv cr
    have hE6 := hE4
    have hG := Lib.hid (fun W h => sFits_any ⟨dn, dt, dz, dl⟩ ⟨xk, xi, xu, xs⟩ W h hl2 hx)
    simp only [Cl.val, Vl.val, valV] at hG
    obtain ⟨G, hge⟩ : ∃ G, fitV ⟨dn, dt, dz, dl⟩ ⟨xk, xi, xu, xs⟩ = G := ⟨_, rfl⟩
    rw [hge] at hG
    go_wp2_with fail
    refine (hG.out _ hE6).mono ?_
    rintro e w7 ⟨rfl, g6⟩
    clear cc cd cv cr f0 f1 f2 f3 hG hE6
    have hlt := hR4.lt
    have hC7 := hC4.below g6 (by omega)
    have hD7 := hD4.below g6 (by omega)
    have hX7 := hX4.below g6 (by omega)
    have hR7 := hR4.below g6 (by omega)
    have hb7 := gr hb4 g6
    clear hlt hC4 hD4 hX4 hR4 hb4
    clear g6
    by_cases hG0 : G = 0
    · subst hG0
      have hcv : convV ⟨cn, ct, cz, cl⟩ ⟨dn, dt, dz, dl⟩ ⟨xk, xi, xu, xs⟩ = (⟨xk, xi, xu, xs⟩, 0) := by rw [hcn.out]; rw [if_pos hge]
      replace hcv := Lib.hid hcv
      clear hge hcn
      have cc := hC7.cells
      have cd := hD7.cells
      have cv := hX7.cells
      have cr := hR7.cells
      have f0 := hR7.frozen 0
      have f1 := hR7.frozen 1
      have f2 := hR7.frozen 2
      have f3 := hR7.frozen 3
      dsimp only at cc cd cv cr
      go_wp2
      have hP := hR7.put xk xi xu (strL xs)
      refine bodyPost_ret (results_cellV rfl _ _ rfl hP) rfl ?_
      exact ⟨⟨xk, xi, xu, xs⟩, _, rfl, .inl ⟨rfl, hcv.out⟩, below_put hb7 (by omega) _ _ _ _⟩
    · have hcv : convV ⟨cn, ct, cz, cl⟩ ⟨dn, dt, dz, dl⟩ ⟨xk, xi, xu, xs⟩ = (zeroT, 161) := by rw [hcn.out]; rw [if_neg (by rw [hge]; exact hG0)]
      replace hcv := Lib.hid hcv
      have hd2 : ((G : Int) != 0) = true := by simp; omega
      clear hge hG0 hcn
      have cc := hC7.cells
      have cd := hD7.cells
      have cv := hX7.cells
      have cr := hR7.cells
      have f0 := hR7.frozen 0
      have f1 := hR7.frozen 1
      have f2 := hR7.frozen 2
      have f3 := hR7.frozen 3
      dsimp only at cc cd cv cr
      go_wp2
      go_region
      go_wp2
      have hP := vbox_drew (hR7.put xk xi xu (strL xs))
      refine bodyPost_ret (results_cellV rfl _ _ rfl hP) rfl ?_
      exact ⟨⟨xk, xi, xu, xs⟩, _, rfl, .inr ⟨⟨dn, dt, dz, dl⟩, 161, (by decide), rfl, hcv.out⟩, (below_put hb7 (by omega) _ _ _ _).drew⟩
  · rw [hw] at hway; cases hway
set_option maxRecDepth 100000 in
set_option maxHeartbeats 4000000 in
theorem turned_turn (c d : Cl) (x : Vl) (w : World) (hE : Env w) (hl : c.n.length ≤ 100000) (hl2 : d.n.length ≤ 100000) (hx : x.Wf) (h1 : colV c = true) (h2 : colV d = true) (hfe : fitV c x = 0) (hw : wayV c.t d.t = true) (hk : x.k ≠ 0) : Calls Tryz.prog 27 #[c.val, d.val, x.val] w (TurnedP w c d x) := by
  have hcn := conv_turn h1 h2 hfe hw hk
  replace hcn := Lib.hid hcn
  have hkt := ((fit_zero hfe).2.2.2 hk).1
  have hxc := (fit_zero hfe).2.1
  have hk2 : (x.k != 0) = true := by simpa using hk
  replace hkt := Lib.hid hkt
  have hEw := hE
  obtain ⟨cn, ct, cz, cl⟩ := c
  obtain ⟨dn, dt, dz, dl⟩ := d
  obtain ⟨xk, xi, xu, xs⟩ := x
  simp only [Cl.val, Vl.val, valV] at *
  obtain ⟨hC1, hD1, hX1, hR1, hb1⟩ := four_boxes w ⟨cn, ct, cz, cl⟩ ⟨dn, dt, dz, dl⟩ ⟨xk, xi, xu, xs⟩
  dsimp only at hC1 hD1 hX1 hR1 hb1
  have hE1 := hE.below hb1
  have hF := Lib.hid (fun W h => sFits_any ⟨cn, ct, cz, cl⟩ ⟨xk, xi, xu, xs⟩ W h hl hx)
  simp only [Cl.val, Vl.val, valV] at hF
  rw [hfe] at hF
  go_enter Tryz.func27, Tryz.ntmps27
  go_wp2_with fail
  refine (hF.out _ hE1).mono ?_
  rintro e w2 ⟨rfl, g1⟩
  have hE2 := hE1.below g1
  have hlt := hR1.lt
  have hC2 := hC1.below g1 (by omega)
  have hD2 := hD1.below g1 (by omega)
  have hX2 := hX1.below g1 (by omega)
  have hR2 := hR1.below g1 (by omega)
  have hb2 := gr hb1 g1
  clear hlt hC1 hD1 hX1 hR1 hb1
  clear hF g1 hE1 hE
  clear hfe h1 h2 hk
  have hO := Lib.hid (fun W => of_any ct dt W)
  have cc := hC2.cells
  have cd := hD2.cells
  have cv := hX2.cells
  have cr := hR2.cells
  have f0 := hR2.frozen 0
  have f1 := hR2.frozen 1
  have f2 := hR2.frozen 2
  have f3 := hR2.frozen 3
  dsimp only at cc cd cv cr
  go_wp2_with fail
  refine (hO.out _).mono ?_
  clear hO cc cd cv cr f0 f1 f2 f3
  rintro e w3 (⟨hway, nt, ns, cs, rfl, hT, hS, g3⟩ | ⟨hway, rfl, g3⟩)
  · replace hw := Lib.hid hw
    clear hway hS
    have hE3 := hE2.below g3
    have hlt := hR2.lt
    have hC3 := hC2.below g3 (by omega)
    have hD3 := hD2.below g3 (by omega)
    have hX3 := hX2.below g3 (by omega)
    have hR3 := hR2.below g3 (by omega)
    have hb3 := gr hb2 g3
    clear hlt hC2 hD2 hX2 hR2 hb2
    unfold wyV
    have hal := (Below.refl _ w3).alloc (Nat.le_refl _) (.cells #[(.func (.func nt) #[] #[]), (.func (.func ns) #[] cs)] 76)
    have hWB := WBox.new w3 (.func (.func nt) #[] #[]) (.func (.func ns) #[] cs)
    have hlt := hR3.lt
    have hC4 := hC3.below hal (by omega)
    have hD4 := hD3.below hal (by omega)
    have hX4 := hX3.below hal (by omega)
    have hR4 := hR3.below hal (by omega)
    have hb4 := gr hb3 hal
    clear hlt hC3 hD3 hX3 hR3 hb3
    have hE4 := hE3.below hal
    clear hal hE3
    have cw := hWB.cells
    clear g3 hE2
    have eN := hT.1
    unfold Enters at eN
    have hTT := Lib.hid (hT.2 ⟨xk, xi, xu, xs⟩ _ hx hxc hkt.out hE4)
    clear hT hxc
    have cc := hC4.cells
    have cd := hD4.cells
    have cv := hX4.cells
    have cr := hR4.cells
    have f0 := hR4.frozen 0
    have f1 := hR4.frozen 1
    have f2 := hR4.frozen 2
    have f3 := hR4.frozen 3
    dsimp only at cc cd cv cr
    go_wp2_with fail
    simp only [Vl.val, valV] at hTT
    refine hTT.out.mono ?_
    rintro e w5 ⟨⟨yk, yi, yu, ys⟩, b, rfl, hb1, hb2, g5⟩
    have hE5 := hE4.below g5
    clear cc cd cv cr f0 f1 f2 f3 hTT cw hWB eN
    have hlt := hR4.lt
    have hC5 := hC4.below g5 (by omega)
    have hD5 := hD4.below g5 (by omega)
    have hX5 := hX4.below g5 (by omega)
    have hR5 := hR4.below g5 (by omega)
    have hb5 := gr hb4 g5
    clear hlt hC4 hD4 hX4 hR4 hb4
    simp only [Vl.val, valV]
    have fx0 := hX5.frozen 0
    have fx1 := hX5.frozen 1
    have fx2 := hX5.frozen 2
    have fx3 := hX5.frozen 3
    have cx := hX5.cells
    have hX6 := hX5.put yk yi yu (strL ys)
    have hR6 := hR5.put_other (B' := w.heap.size + 1 + 1) (by omega) yk yi yu (strL ys)
    have g6 := below_put (Below.refl (w.heap.size + 1 + 1) w5) (Nat.le_refl _) yk yi yu (strL ys)
    have hb6 := below_put hb5 (by omega) yk yi yu (strL ys) (B := w.heap.size + 1 + 1)
    have hC6 := hC5.below g6 (by omega)
    have hD6 := hD5.below g6 (by omega)
    have hE6 := Lib.hid (hEw.below hb6)
    replace hb1 := Lib.hid hb1
    replace hb2 := Lib.hid hb2
    replace hX6 := Lib.hid hX6
    replace hR6 := Lib.hid hR6
    replace hC6 := Lib.hid hC6
    replace hD6 := Lib.hid hD6
    clear hEw hE5 hC5 hD5 hX5 hR5 hb5 g6 g5 hkt
    cases b
    · have hcv : convV ⟨cn, ct, cz, cl⟩ ⟨dn, dt, dz, dl⟩ ⟨xk, xi, xu, xs⟩ = (zeroT, 161) := by rw [hcn.out, hb2.out rfl]
      replace hcv := Lib.hid hcv
      clear hcn hb1 hb2
      go_upto_region 10 with fail
      obtain ⟨w6, hw6⟩ : ∃ w6, ((((w5.setCell ⟨w.heap.size + 1 + 1, 0, none⟩ (.int .i64 yk)).setCell ⟨w.heap.size + 1 + 1, 1, none⟩ (.int .i64 yi)).setCell ⟨w.heap.size + 1 + 1, 2, none⟩ (.int .u64 yu)).setCell ⟨w.heap.size + 1 + 1, 3, none⟩ (.string (strL ys))) = w6 := ⟨_, rfl⟩
      rw [hw6] at hX6 hR6 hC6 hD6 hb6 ⊢
      replace hX6 := hX6.out
      replace hR6 := hR6.out
      replace hC6 := hC6.out
      replace hD6 := hD6.out
      clear hw6 hE6 fx0 fx1 fx2 fx3 cx
      have cc := hC6.cells
      have cd := hD6.cells
      have cv := hX6.cells
      have cr := hR6.cells
      have f0 := hR6.frozen 0
      have f1 := hR6.frozen 1
      have f2 := hR6.frozen 2
      have f3 := hR6.frozen 3
      dsimp only at cc cd cv cr
      go_region
      go_wp2
      have hP := vbox_drew (hR6.put yk yi yu (strL ys))
      refine bodyPost_ret (results_cellV rfl _ _ rfl hP) rfl ?_
      exact ⟨⟨yk, yi, yu, ys⟩, _, rfl, .inr ⟨⟨dn, dt, dz, dl⟩, 161, (by decide), rfl, hcv.out⟩, (below_put hb6 (by omega) _ _ _ _).drew⟩
    · have hty := hb1.out rfl
      have hy := turn_wf hx hty
      replace hty := Lib.hid hty
      clear hb1 hb2
      go_upto_region 11 with fail
      obtain ⟨w6, hw6⟩ : ∃ w6, ((((w5.setCell ⟨w.heap.size + 1 + 1, 0, none⟩ (.int .i64 yk)).setCell ⟨w.heap.size + 1 + 1, 1, none⟩ (.int .i64 yi)).setCell ⟨w.heap.size + 1 + 1, 2, none⟩ (.int .u64 yu)).setCell ⟨w.heap.size + 1 + 1, 3, none⟩ (.string (strL ys))) = w6 := ⟨_, rfl⟩
      rw [hw6] at hX6 hR6 hC6 hD6 hb6 hE6 ⊢
      replace hX6 := hX6.out
      replace hR6 := hR6.out
      replace hC6 := hC6.out
      replace hD6 := hD6.out
      replace hE6 := hE6.out
      clear hw6 fx0 fx1 fx2 fx3 cx
      have cc := hC6.cells
      have cd := hD6.cells
      have cv := hX6.cells
      have cr := hR6.cells
      have f0 := hR6.frozen 0
      have f1 := hR6.frozen 1
      have f2 := hR6.frozen 2
      have f3 := hR6.frozen 3
      dsimp only at cc cd cv cr
      have hE6 := hE6
      have hG := Lib.hid (fun W h => sFits_any ⟨dn, dt, dz, dl⟩ ⟨yk, yi, yu, ys⟩ W h hl2 hy)
      simp only [Cl.val, Vl.val, valV] at hG
      obtain ⟨G, hge⟩ : ∃ G, fitV ⟨dn, dt, dz, dl⟩ ⟨yk, yi, yu, ys⟩ = G := ⟨_, rfl⟩
      rw [hge] at hG
      go_wp2_with fail
      refine (hG.out _ hE6).mono ?_
      rintro e w7 ⟨rfl, g6⟩
      clear cc cd cv cr f0 f1 f2 f3 hG hE6
      have hlt := hR6.lt
      have hC7 := hC6.below g6 (by omega)
      have hD7 := hD6.below g6 (by omega)
      have hX7 := hX6.below g6 (by omega)
      have hR7 := hR6.below g6 (by omega)
      have hb7 := gr hb6 g6
      clear hlt hC6 hD6 hX6 hR6 hb6
      clear g6
      by_cases hG0 : G = 0
      · subst hG0
        have hcv : convV ⟨cn, ct, cz, cl⟩ ⟨dn, dt, dz, dl⟩ ⟨xk, xi, xu, xs⟩ = (⟨yk, yi, yu, ys⟩, 0) := by rw [hcn.out, hty.out]; dsimp only; rw [if_pos hge]
        replace hcv := Lib.hid hcv
        clear hge hcn
        have cc := hC7.cells
        have cd := hD7.cells
        have cv := hX7.cells
        have cr := hR7.cells
        have f0 := hR7.frozen 0
        have f1 := hR7.frozen 1
        have f2 := hR7.frozen 2
        have f3 := hR7.frozen 3
        dsimp only at cc cd cv cr
        go_wp2
        have hP := hR7.put yk yi yu (strL ys)
        refine bodyPost_ret (results_cellV rfl _ _ rfl hP) rfl ?_
        exact ⟨⟨yk, yi, yu, ys⟩, _, rfl, .inl ⟨rfl, hcv.out⟩, below_put hb7 (by omega) _ _ _ _⟩
      · have hcv : convV ⟨cn, ct, cz, cl⟩ ⟨dn, dt, dz, dl⟩ ⟨xk, xi, xu, xs⟩ = (zeroT, 161) := by rw [hcn.out, hty.out]; dsimp only; rw [if_neg (by rw [hge]; exact hG0)]
        replace hcv := Lib.hid hcv
        have hd2 : ((G : Int) != 0) = true := by simp; omega
        clear hge hG0 hcn
        have cc := hC7.cells
        have cd := hD7.cells
        have cv := hX7.cells
        have cr := hR7.cells
        have f0 := hR7.frozen 0
        have f1 := hR7.frozen 1
        have f2 := hR7.frozen 2
        have f3 := hR7.frozen 3
        dsimp only at cc cd cv cr
        go_wp2
        go_region
        go_wp2
        have hP := vbox_drew (hR7.put yk yi yu (strL ys))
        refine bodyPost_ret (results_cellV rfl _ _ rfl hP) rfl ?_
        exact ⟨⟨yk, yi, yu, ys⟩, _, rfl, .inr ⟨⟨dn, dt, dz, dl⟩, 161, (by decide), rfl, hcv.out⟩, (below_put hb7 (by omega) _ _ _ _).drew⟩
  · rw [hw] at hway; cases hway
theorem turned_any (c d : Cl) (x : Vl) (w : World) (hE : Env w) (hl : c.n.length ≤ 100000) (hl2 : d.n.length ≤ 100000) (hx : x.Wf) (h1 : colV c = true) (h2 : colV d = true) : Calls Tryz.prog 27 #[c.val, d.val, x.val] w (TurnedP w c d x) := by
  by_cases hf : fitV c x = 0
  · cases hw : wayV c.t d.t with
    | false => exact turned_noway c d x w hE hl hx h1 h2 hf hw
    | true =>
      by_cases hk : x.k = 0
      · exact turned_null c d x w hE hl hl2 hx h1 h2 hf hw hk
      · exact turned_turn c d x w hE hl hl2 hx h1 h2 hf hw hk
  · exact turned_unfit c d x w hE hl hx h1 h2 rfl hf
end Go.Proofs.YtagoooclfcbdeaaGreatDoor
namespace Go.Proofs.YtagoooclfcbdeaaGreatDoor
open Go.RowKit
set_option linter.unusedVariables false

set_option maxRecDepth 100000 in
theorem unwrap_fault (c : Cl) (n : Nat) (w : World) : Calls Tryz.prog 170 #[faultC c n] w fun e w' => e = .returned (.iface 31 (.int .i64 (n : Int))) ∧ Below w.heap.size w w' := by
  unfold faultC
  go_enter Tryz.func170, Tryz.ntmps170
  go_wp2
  go_ret
  exact ⟨rfl, gr_alloc (Below.refl _ w) _⟩
/-- An error of convert. -/
def CErr (n : Nat) (v : Value) : Prop := (n = 0 ∧ v = .nilIface) ∨ ∃ c : Cl, v = .iface 84 (faultC c n)
theorem cnumber_any (n : Nat) (v : Value) (w : World) (hE : Env w) (h : CErr n v) : Calls Tryz.prog 28 #[v] w fun e w' => e = .returned (.int .i64 (n : Int)) ∧ Below w.heap.size w w' := by
  rcases h with ⟨rfl, rfl⟩ | ⟨c, rfl⟩
  · exact number_nil w
  · exact number_fault _ (n : Int) w hE (fun W => unwrap_fault c n W)
set_option maxRecDepth 100000 in
set_option maxHeartbeats 4000000 in
theorem convert_bad (c d : Cl) (x : Vl) (w : World) (hE : Env w) (hl : c.n.length ≤ 100000) (hl2 : d.n.length ≤ 100000) (hcd : (colV c && colV d) = false) : Calls Tryz.prog 10 #[c.val, d.val, x.val] w fun e w' => e = .returned (.tuple #[zeroT.val, .int .i64 2]) ∧ Below w.heap.size w w' := by
  obtain ⟨cn, ct, cz, cl⟩ := c
  obtain ⟨dn, dt, dz, dl⟩ := d
  obtain ⟨xk, xi, xu, xs⟩ := x
  simp only [Cl.val, Vl.val, valV] at *
  obtain ⟨hC1, hD1, hX1, hR1, hb1⟩ := four_boxes w ⟨cn, ct, cz, cl⟩ ⟨dn, dt, dz, dl⟩ ⟨xk, xi, xu, xs⟩
  dsimp only at hC1 hD1 hX1 hR1 hb1
  have hE1 := hE.below hb1
  have hRi := Lib.hid (fun W g h1 h2 => cright_two ⟨cn, ct, cz, cl⟩ ⟨dn, dt, dz, dl⟩ g W h1 h2 hl hl2)
  rw [hcd] at hRi
  go_enter Tryz.func10, Tryz.ntmps10
  go_wp2_with fail
  refine (hRi.out _ _ (hE1.alloc _) (by unfold Cols2; simp [go_sem])).mono ?_
  rintro e w2 ⟨rfl, g1⟩
  have g2 := gr (gr_alloc (Below.refl _ _) _) g1
  have hE2 := hE1.below g2
  have hlt := hR1.lt
  have hC2 := hC1.below g2 (by omega)
  have hD2 := hD1.below g2 (by omega)
  have hX2 := hX1.below g2 (by omega)
  have hR2 := hR1.below g2 (by omega)
  have hb2 := gr hb1 g2
  clear hlt hC1 hD1 hX1 hR1 hb1
  clear hRi g1 g2 hE1
  clear hE
  have cc := hC2.cells
  have cd := hD2.cells
  have cv := hX2.cells
  have cr := hR2.cells
  have f0 := hR2.frozen 0
  have f1 := hR2.frozen 1
  have f2 := hR2.frozen 2
  have f3 := hR2.frozen 3
  dsimp only at cc cd cv cr
  go_wp2
  have hP := hR2.put 0 0 0 { data := #[] }
  refine bodyPost_ret (results_cellV rfl _ _ rfl hP) rfl ?_
  exact ⟨rfl, below_put hb2 (by omega) _ _ _ _⟩
set_option maxRecDepth 100000 in
set_option maxHeartbeats 4000000 in
theorem convert_ok (c d : Cl) (x : Vl) (w : World) (hE : Env w) (hl : c.n.length ≤ 100000) (hl2 : d.n.length ≤ 100000) (hx : x.Wf) (h1 : colV c = true) (h2 : colV d = true) : Calls Tryz.prog 10 #[c.val, d.val, x.val] w fun e w' => e = .returned (.tuple #[(convV c d x).1.val, .int .i64 ((convV c d x).2 : Int)]) ∧ Below w.heap.size w w' := by
  have hcd : (colV c && colV d) = true := by rw [h1, h2]; rfl
  have hT := Lib.hid (fun W h => turned_any c d x W h hl hl2 hx h1 h2)
  obtain ⟨cn, ct, cz, cl⟩ := c
  obtain ⟨dn, dt, dz, dl⟩ := d
  obtain ⟨xk, xi, xu, xs⟩ := x
  simp only [Cl.val, Vl.val, valV] at *
  obtain ⟨hC1, hD1, hX1, hR1, hb1⟩ := four_boxes w ⟨cn, ct, cz, cl⟩ ⟨dn, dt, dz, dl⟩ ⟨xk, xi, xu, xs⟩
  dsimp only at hC1 hD1 hX1 hR1 hb1
  have hE1 := hE.below hb1
  have hRi := Lib.hid (fun W g h1 h2 => cright_two ⟨cn, ct, cz, cl⟩ ⟨dn, dt, dz, dl⟩ g W h1 h2 hl hl2)
  rw [hcd] at hRi
  go_enter Tryz.func10, Tryz.ntmps10
  go_wp2_with fail
  refine (hRi.out _ _ (hE1.alloc _) (by unfold Cols2; simp [go_sem])).mono ?_
  rintro e w2 ⟨rfl, g1⟩
  have g2 := gr (gr_alloc (Below.refl _ _) _) g1
  have hE2 := hE1.below g2
  have hlt := hR1.lt
  have hC2 := hC1.below g2 (by omega)
  have hD2 := hD1.below g2 (by omega)
  have hX2 := hX1.below g2 (by omega)
  have hR2 := hR1.below g2 (by omega)
  have hb2 := gr hb1 g2
  clear hlt hC1 hD1 hX1 hR1 hb1
  clear hRi g1 g2 hE1
  clear h1 h2 hx
  have cc := hC2.cells
  have cd := hD2.cells
  have cv := hX2.cells
  have cr := hR2.cells
  have f0 := hR2.frozen 0
  have f1 := hR2.frozen 1
  have f2 := hR2.frozen 2
  have f3 := hR2.frozen 3
  dsimp only at cc cd cv cr
  go_wp2_with fail
  refine (hT.out _ hE2).mono ?_
  rintro e w3 ⟨⟨yk, yi, yu, ys⟩, v, rfl, hv, g3⟩
  clear cc cd cv cr f0 f1 f2 f3 hT
  obtain ⟨n, hn, hcv⟩ : ∃ n, CErr n v ∧ ((n = 0 ∧ convV ⟨cn, ct, cz, cl⟩ ⟨dn, dt, dz, dl⟩ ⟨xk, xi, xu, xs⟩ = (⟨yk, yi, yu, ys⟩, 0)) ∨ (n ≠ 0 ∧ convV ⟨cn, ct, cz, cl⟩ ⟨dn, dt, dz, dl⟩ ⟨xk, xi, xu, xs⟩ = (zeroT, n))) := by
    rcases hv with ⟨rfl, h⟩ | ⟨c, n, hn, rfl, h⟩
    · exact ⟨0, .inl ⟨rfl, rfl⟩, .inl ⟨rfl, h⟩⟩
    · exact ⟨n, .inr ⟨c, rfl⟩, .inr ⟨hn, h⟩⟩
  clear hv
  have hE3 := hE2.below g3
  have hlt := hR2.lt
  have hC3 := hC2.below g3 (by omega)
  have hD3 := hD2.below g3 (by omega)
  have hX3 := hX2.below g3 (by omega)
  have hR3 := hR2.below g3 (by omega)
  have hb3 := gr hb2 g3
  clear hlt hC2 hD2 hX2 hR2 hb2
  have hal := (Below.refl _ w3).alloc (Nat.le_refl _) (.cells #[.int .i64 yk, .int .i64 yi, .int .u64 yu, .string (strL ys)] 28)
  have hY4 := VBox.new w3 yk yi yu (strL ys)
  have hlt := hR3.lt
  have hC4 := hC3.below hal (by omega)
  have hD4 := hD3.below hal (by omega)
  have hX4 := hX3.below hal (by omega)
  have hR4 := hR3.below hal (by omega)
  have hb4 := gr hb3 hal
  clear hlt hC3 hD3 hX3 hR3 hb3
  have hE4 := hE3.below hal
  have hY4lt := hY4.lt
  simp only [Vl.val, valV]
  clear hal hE3 hE2 g3
  have hN := Lib.hid (fun W h => cnumber_any n v W h hn)
  replace hcv := Lib.hid hcv
  go_wp2_with fail
  refine (hN.out _ hE4).mono ?_
  rintro e w5 ⟨rfl, g5⟩
  have hY5 := hY4.below g5 hY4lt
  have hlt := hR4.lt
  have hC5 := hC4.below g5 (by omega)
  have hD5 := hD4.below g5 (by omega)
  have hX5 := hX4.below g5 (by omega)
  have hR5 := hR4.below g5 (by omega)
  have hb5 := gr hb4 g5
  clear hlt hC4 hD4 hX4 hR4 hb4
  clear hN g5 hE4 hY4 hY4lt hn
  have cy := hY5.cells
  have cc := hC5.cells
  have cd := hD5.cells
  have cv := hX5.cells
  have cr := hR5.cells
  have f0 := hR5.frozen 0
  have f1 := hR5.frozen 1
  have f2 := hR5.frozen 2
  have f3 := hR5.frozen 3
  dsimp only at cc cd cv cr
  rcases hcv.out with ⟨rfl, hc⟩ | ⟨h0, hc⟩
  · replace hc := Lib.hid hc
    clear hcv
    go_wp2
    have hP := hR5.put yk yi yu (strL ys)
    refine bodyPost_ret (results_cellV rfl _ _ rfl hP) rfl ?_
    exact ⟨by rw [hc.out]; rfl, below_put hb5 (by omega) _ _ _ _⟩
  · have hd : ((n : Int) != 0) = true := by simp; omega
    replace hc := Lib.hid hc
    clear hcv h0
    go_wp2
    have hP := hR5.put 0 0 0 { data := #[] }
    refine bodyPost_ret (results_cellV rfl _ _ rfl hP) rfl ?_
    exact ⟨by rw [hc.out]; rfl, below_put hb5 (by omega) _ _ _ _⟩
theorem conv_bad {c d : Cl} {x : Vl} (h : (colV c && colV d) = false) : convV c d x = (zeroT, 2) := by
  unfold convV
  rw [if_pos]
  cases h1 : colV c <;> cases h2 : colV d <;> simp_all
theorem convert_any (c d : Cl) (x : Vl) (w : World) (hE : Env w) (hl : c.n.length ≤ 100000) (hl2 : d.n.length ≤ 100000) (hx : x.Wf) : Calls Tryz.prog 10 #[c.val, d.val, x.val] w fun e w' => e = .returned (.tuple #[(convV c d x).1.val, .int .i64 ((convV c d x).2 : Int)]) ∧ Below w.heap.size w w' := by
  by_cases h : (colV c && colV d) = false
  · rw [conv_bad h]; exact convert_bad c d x w hE hl hl2 h
  · have h1 : colV c = true := by cases e : colV c <;> simp_all
    have h2 : colV d = true := by cases e : colV d <;> simp_all
    exact convert_ok c d x w hE hl hl2 hx h1 h2
end Go.Proofs.YtagoooclfcbdeaaGreatDoor
