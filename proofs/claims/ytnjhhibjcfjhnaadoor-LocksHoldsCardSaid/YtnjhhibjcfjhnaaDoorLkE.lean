/- Locks: settle. -/
import Derived.Test.YtnjhhibjcfjhnaaDoorLkD
import Derived.Deep.CutRange
namespace Go.Proofs.YtnjhhibjcfjhnaaDoor
open Go.RowKit
set_option linter.unusedVariables false

theorem Ov.block {w : World} {base : Nat} {e : TypeId} {size n c : Nat} {A : Option Addr} {xs : List Value} (h : Ov w base e size A n c xs) : ∀ k, Go.Proofs.YtnjhhibjcfjhnaaDoor.ab A = some k → ∃ cs, w.heap[k]? = some (.cells cs e (0, 0)) := by
  intro k hk
  rcases h.2 with ⟨hv, _⟩ | ⟨g, cap, cur, hv, hb, hg, _⟩
  · injection hv with h5
    subst h5
    cases hk
  · injection hv with h5
    subst h5
    cases hk
    exact ⟨cur, hg⟩
theorem Ov.ne {w : World} {base : Nat} {e e' : TypeId} {size n c : Nat} {A : Option Addr} {xs : List Value} (h : Ov w base e size A n c xs) {k : Nat} {cs : Array Value} {fr : Nat × Nat} (hk : w.heap[k]? = some (.cells cs e' fr)) (hne : e ≠ e') : Go.Proofs.YtnjhhibjcfjhnaaDoor.ab A ≠ some k := by
  intro hA
  obtain ⟨cs', h1⟩ := h.block k hA
  rw [hk] at h1
  injection h1 with h1
  injection h1 with _ h2
  exact hne h2.symm
/-- Rows of unlike types are two. -/
theorem Ov.neOv {w : World} {base base' : Nat} {e e' : TypeId} {size n c size' n' c' : Nat} {A A' : Option Addr} {xs xs' : List Value} (h : Ov w base e size A n c xs) (h' : Ov w base' e' size' A' n' c' xs') (hne : e ≠ e') : ∀ b, Go.Proofs.YtnjhhibjcfjhnaaDoor.ab A = some b → some b ≠ Go.Proofs.YtnjhhibjcfjhnaaDoor.ab A' := by
  intro b hb hA
  obtain ⟨cs, h1⟩ := h'.block b hA.symm
  exact h.ne h1 hne hb
section
variable {w w' : World} {base B : Nat} {now : Int} {A : Option Addr} {n c : Nat} {xs : List Ak}
theorem LK.grown {row : Option Nat} (h : LK w base B now A n c xs) (hg : w.grownBy w' row) (hrow : ∀ k, row = some k → ∃ cs e, w.heap[k]? = some (.cells cs e (0, 0)) ∧ e ≠ 69 ∧ e ≠ 74 ∧ e ≠ 64) : LK w' base B now A n c xs := by
  refine ⟨h.ge, (hg.block B h.lt fun e => ?_).trans h.box, h.own.grown hg fun b hb e => ?_, fun x hx => (h.tabs x hx).grown hg fun b hb e => ?_⟩
  · obtain ⟨cs, e', h1, h2, _⟩ := hrow B e.symm
    rw [h.box] at h1
    injection h1 with h1
    injection h1 with _ h3
    exact h2 h3.symm
  · obtain ⟨cs, e', h1, _, h2, _⟩ := hrow b e.symm
    exact h.own.ne h1 (fun q => h2 q.symm) hb
  · obtain ⟨cs, e', h1, _, _, h2⟩ := hrow b e.symm
    exact (h.tabs x hx).ne h1 (fun q => h2 q.symm) hb
theorem heap_set1 {w : World} {B : Nat} {u v v' : Value} {t : TypeId} (h : w.heap[B]? = some (.cells #[u, v] t (0, 0))) : (w.setCell ⟨B, 1, none⟩ v').heap[B]? = some (.cells #[u, v'] t (0, 0)) := by
  obtain ⟨hlt, hk⟩ := Array.getElem?_eq_some_iff.1 h
  show (w.heap.modify B _)[B]? = _
  rw [Array.getElem?_eq_getElem (by rw [Array.size_modify]; exact hlt), Array.getElem_modify_self, hk]
  rfl
theorem heap_set0 {w : World} {B : Nat} {u v u' : Value} {t : TypeId} (h : w.heap[B]? = some (.cells #[u, v] t (0, 0))) : (w.setCell ⟨B, 0, none⟩ u').heap[B]? = some (.cells #[u', v] t (0, 0)) := by
  obtain ⟨hlt, hk⟩ := Array.getElem?_eq_some_iff.1 h
  show (w.heap.modify B _)[B]? = _
  rw [Array.getElem?_eq_getElem (by rw [Array.size_modify]; exact hlt), Array.getElem_modify_self, hk]
  rfl
theorem grownBy_at (W : World) (b j : Nat) (v : Value) : W.grownBy (W.setCell ⟨b, j, none⟩ v) (some b) :=
  ⟨rfl, rfl, rfl, by simp, fun k _ hk => heap_setCell_other W ⟨b, j, none⟩ k v (fun e => hk (by simp [e]))⟩
theorem LK.frozen (h : LK w base B now A n c xs) (j : Nat) : w.frozen? ⟨B, j, none⟩ = false := by
  have := h.box
  simp [World.frozen?, this]
/-- l.asks = .. -/
theorem LK.setAsks (h : LK w base B now A n c xs) {A' : Option Addr} {n' c' : Nat} {ys : List Ak} (hO : Ov w base 74 6 A' n' c' (acells ys)) (ht : ∀ x ∈ ys, Ov w base 64 2 x.A x.n x.c (wcells x.W)) :
    LK (w.setCell ⟨B, 1, none⟩ (.slice A' n' c')) base B now A' n' c' ys :=
  ⟨h.ge, heap_set1 h.box, hO.grown (grownBy_at w B 1 _) (fun b hb e => hO.ne h.box (by decide) (by rw [hb, e])), fun x hx => (ht x hx).grown (grownBy_at w B 1 _) (fun b hb e => (ht x hx).ne h.box (by decide) (by rw [hb, e]))⟩
theorem LK.setNow (h : LK w base B now A n c xs) (z : Int) : LK (w.setCell ⟨B, 0, none⟩ (.int .i64 z)) base B z A n c xs :=
  ⟨h.ge, heap_set0 h.box, h.own.grown (grownBy_at w B 0 _) (fun b hb e => h.own.ne h.box (by decide) (by rw [hb, e])), fun x hx => (h.tabs x hx).grown (grownBy_at w B 0 _) (fun b hb e => (h.tabs x hx).ne h.box (by decide) (by rw [hb, e]))⟩
theorem acells_on (pre r : List Ak) (a : Ak) : (acells (pre ++ a :: r)).set (pre.length * 6 + 5) (.bool true) = acells (pre ++ a.on :: r) := by
  have hl := acells_length pre
  unfold acells at *
  rw [List.flatMap_append, List.flatMap_append, List.flatMap_cons, List.flatMap_cons, List.set_append_right _ _ (by omega), hl]
  rw [show pre.length * 6 + 5 - pre.length * 6 = 5 from by omega]
  rfl
theorem LK.setOn {g : Nat} {pre r : List Ak} {a : Ak} (h : LK w base B now (some ⟨g, 0, none⟩) n c (pre ++ a :: r)) :
    LK (w.setCell ⟨g, pre.length * 6 + 5, none⟩ (.bool true)) base B now (some ⟨g, 0, none⟩) n c (pre ++ a.on :: r) := by
  obtain ⟨h1, h2⟩ := World.ownsRow.stored h.own (pre.length * 6 + 5) (.bool true)
  rw [acells_on] at h1
  refine ⟨h.ge, (h2.block B h.lt fun e => ?_).trans h.box, h1, fun x hx => ?_⟩
  · exact h.own.ne h.box (by decide) (by rw [e]; rfl)
  · have hx' : ∃ y ∈ pre ++ a :: r, x.A = y.A ∧ x.n = y.n ∧ x.c = y.c ∧ x.W = y.W := by
      rcases List.mem_append.1 hx with hx | hx
      · exact ⟨x, by simp [hx], rfl, rfl, rfl, rfl⟩
      · rcases List.mem_cons.1 hx with rfl | hx
        · exact ⟨a, by simp, rfl, rfl, rfl, rfl⟩
        · exact ⟨x, by simp [hx], rfl, rfl, rfl, rfl⟩
    obtain ⟨y, hy, e1, e2, e3, e4⟩ := hx'
    rw [e1, e2, e3, e4]
    exact (h.tabs y hy).grown h2 ((h.tabs y hy).neOv h.own (by decide))
end
theorem info_I : (Tryd.prog.info? 3).map (fun i => (i.zero, i.size, i.bytes)) = some (some (.int .i64 0), 1, 8) := by kernel_rfl
def icells (l : List Int) : List Value := l.map (Value.int .i64)
theorem icells_one (l : List Int) : ∀ u ∈ icells l, u.oneCell' = true := by
  intro u hu
  obtain ⟨b, _, rfl⟩ := List.mem_map.1 hu
  rfl
theorem Rv.lit {w : World} (t : TypeId) (k : Nat) (xs : List Value) (n : Nat) (h : xs.length = n * k) (hn : n ≤ maxLen) : Rv (w.alloc (.cells xs.toArray t)) k (some ⟨w.heap.size, 0, none⟩) n n xs :=
  ⟨h, Nat.le_refl _, hn, fun _ => ⟨w.heap.size, 0, rfl, by simp, fun j u hu => by
    rw [World.cell?, World.alloc_heap_new]
    simpa using hu⟩⟩
theorem acells_app (xs ys : List Ak) : acells (xs ++ ys) = acells xs ++ acells ys := by simp [acells]
theorem grown2 {a b c : World} {r : Option Nat} (h : a.grownBy b r) (k : b.grownBy c r) : a.grownBy c r := grown_tr h k
theorem grownB {a b c : World} {r q : Option Nat} (h : a.grownBy b r) (k : b.grownBy c q) (hq : ∀ x, q = some x → a.heap.size ≤ x) : a.grownBy c r :=
  ⟨k.os.trans h.os, k.tape.trans h.tape, k.output.trans h.output, Nat.le_trans h.size k.size, fun j hj hne => (k.block j (Nat.lt_of_lt_of_le hj h.size) (fun e => by have := hq j e.symm; omega)).trans (h.block j hj hne)⟩

set_option maxRecDepth 100000 in
set_option maxHeartbeats 4000000 in
theorem Settle_any {w : World} {base B : Nat} {now : Int} {A : Option Addr} {n c : Nat} {xs : List Ak} (h : LK w base B now A n c xs) (hn : n < 20) :
    Calls Tryd.prog 32 #[.pointer (some ⟨B, 0, none⟩)] w fun e w' => ∃ A' c' R d, e = .returned (.slice R (settleK xs).2.length d) ∧ LK w' base B now A' n c' (settleK xs).1 ∧
      Ov w' w.heap.size 3 1 R (settleK xs).2.length d (icells (settleK xs).2) ∧ (∀ g, ab A' = some g → w.heap.size ≤ g) ∧ w.grownBy w' (some B) := by
  obtain ⟨iS, hiS, hzS, hsS, hbS⟩ := info_parts info_I
  obtain ⟨iA, hiA, hzA, hsA, hbA⟩ := info_parts info_A
  have hbl := h.lt
  have hbw : base ≤ w.heap.size := Nat.le_of_lt (Nat.lt_of_le_of_lt h.ge h.lt)
  have hcs := h.cells
  have hso := Lib.hid (Sorted_any A n c xs w h.own.rv hn)
  have hst : settleK xs = (ordK (goK [] (ordK xs)).1, (goK [] (ordK xs)).2) := rfl
  rw [hst]
  have hmem : ∀ x ∈ ordK xs, x ∈ xs := fun x hx => mem_ordK.1 hx
  clear hst
  generalize ordK xs = ys at *
  go_enter Tryd.func32, Tryd.ntmps32
  go_wp2_with fail
  refine hso.out.mono ?_
  rintro e w1 ⟨A1, c1, rfl, hO1, hb1⟩
  clear hso
  have h1 := h.below hb1
  have hA1 : ∀ g, ab A1 = some g → w.heap.size ≤ g := fun g hg => (hO1.ab g hg).1
  have h2 := h1.setAsks (ys := ys) (hO1.ge hbw) (fun x hx => h1.tabs x (hmem x hx))
  have hg2 : w.grownBy (w1.setCell ⟨B, 1, none⟩ (.slice A1 n c1)) (some B) := grown_tr (grown_wk hb1 _) (grownBy_at w1 B 1 _)
  have cB := h1.cells
  have fB := h1.frozen 1
  have hln := h2.len
  have hbW : base ≤ (w1.setCell ⟨B, 1, none⟩ (.slice A1 n c1)).heap.size := Nat.le_trans hbw hg2.size
  clear h hcs hO1 hb1
  go_wp2_with fail
  clear cB fB
  generalize (w1.setCell ⟨B, 1, none⟩ (.slice A1 n c1)) = W at *
  have hcsW := h2.cells
  clear h1 hmem
  go_wp2_with fail
  clear hcsW
  go_loopw [2, 19] (fun o p wr => ∃ (pre r : List Ak) (hs : List Int) (R : Option Addr) (d : Nat), p = .int .i64 (pre.length : Int) ∧ pre.length + r.length = n ∧ goK [] ys = ((goK pre r).1, hs ++ (goK pre r).2) ∧ hs.length ≤ pre.length ∧ o = .slice R hs.length d ∧
      LK wr base B now A1 n c1 (pre ++ r) ∧ Ov wr w.heap.size 3 1 R hs.length d (icells hs) ∧ w.grownBy wr (some B))
    (fun _ p wr => n - (intOf p).toNat)
  case atStart => exact ⟨[], ys, [], none, 0, rfl, by simpa using hln, rfl, Nat.le_refl _, rfl, h2, Ov.nil _ _ _ _, hg2⟩
  case round =>
    clear h2 hg2 hln
    obtain ⟨pre, r, hs, R, d, rfl, hl, hgo, hsl, rfl, hK, hR, hg⟩ := hrel
    have hcs := hK.cells
    cases r with
    | cons a r =>
      have hl' : pre.length + (r.length + 1) = n := hl
      have hlt : decide ((pre.length : Int) < (n : Int)) = true := by simp; omega
      have hlt1 : (pre.length : Int) < (n : Int) := by omega
      rcases hK.own.first with ⟨_, h0, _⟩ | ⟨g, rfl⟩
      · omega
      obtain ⟨b1, o1, hA, hgl, hc⟩ := hK.own.rv.2.2.2 (by omega)
      injection hA with hA
      injection hA with hA1' hA2'
      subst hA1' hA2'
      have hcap : c1 ≤ 9223372036854775807 := hK.own.rv.2.2.1
      have hle := hK.own.rv.2.1
      have e1 := acells_cell hc (fun _ => rfl) pre.length (by simp)
      rw [show (pre ++ a :: r)[pre.length]'(by simp) = a by simp] at e1
      simp only [Nat.zero_add] at e1
      clear hc
      have hba : Below wr.heap.size wr (wr.alloc (.cells a.cells.toArray 74)) := (Below.refl _ _).alloc (Nat.le_refl _) _
      have hKa := hK.below hba
      have hka := KA.new wr a
      have hal : wr.heap.size < (wr.alloc (.cells a.cells.toArray 74)).heap.size := by simp
      have hgs := hg.size
      have hRa := hR.below hba
      have hga : w.grownBy (wr.alloc (.cells a.cells.toArray 74)) (some B) := grown_tr hg (grown_wk hba _)
      clear hba hK hR hg
      have hcsa := hKa.cells
      have SA := fun w' => run_slice_hiK (P := Tryd.prog) 67 74 6 Tryd.underlying67 iA hiA info_Ac (some ⟨g, 0, none⟩) n c1 pre.length (by omega) w'
      rw [cutK_zero] at SA
      have hca := hka.cells
      simp only [KAc] at hca
      have hrp : Rv (wr.alloc (.cells a.cells.toArray 74)) 6 (some ⟨g, 0, none⟩) pre.length c1 (acells pre) := by
        have := hKa.own.rv.takeN pre.length (by omega)
        rw [acells_app, List.take_append_of_le_length (by rw [acells_length]; omega), List.take_of_length_le (by rw [acells_length]; omega)] at this
        exact this
      have hcn := Lib.hid (ContA_any (fun x => ag a.W x.W) _ #[.pointer (some ⟨wr.heap.size, 0, none⟩)] eSt1 (some ⟨g, 0, none⟩) pre.length c1 pre _ hrp (fun W' x hx hW => by
        have hk2 := (hka.below hW hal).cells
        have := St1_any x a.A a.n a.c a.W wr.heap.size W' hk2.1 ((hKa.tabs a (by simp)).rv.below hW) ((hKa.tabs x (by simp [hx])).rv.below hW)
        exact this.mono fun e w' q => ⟨q.1, gr hW q.2⟩))
      clear hrp
      obtain ⟨x0, x1, x2, x3, x4, x5, x6, x7, x8⟩ := a
      simp only [Ak.cells] at *
      cases x4 with
      | true =>
        have hN : goK [] ys = ((goK (pre ++ [⟨x0, x1, x2, x3, true, x5, x6, x7, x8⟩]) r).1, hs ++ (goK (pre ++ [⟨x0, x1, x2, x3, true, x5, x6, x7, x8⟩]) r).2) := by rw [hgo, goK]; rfl
        have hK2 : LK (wr.alloc (.cells #[.slice x6 x7 x8, .int .i64 x0, .int .i64 x1, .int .i64 x2, .bool x3, .bool true] 74)) base B now (some ⟨g, 0, none⟩) n c1 ((pre ++ [⟨x0, x1, x2, x3, true, x5, x6, x7, x8⟩]) ++ r) := by simpa using hKa
        replace hN := Lib.hid hN
        clear hgo hKa hka hcn
        go_wp2
        refine ⟨⟨pre ++ [⟨x0, x1, x2, x3, true, x5, x6, x7, x8⟩], r, hs, R, d, by simp, by simp; omega, hN.out, by simp; omega, rfl, hK2, hRa, hga⟩, by simp [intOf]; omega⟩
      | false =>
        have hN1 : (pre.any fun x => ag x5 x.W) = true → goK [] ys = ((goK (pre ++ [⟨x0, x1, x2, x3, false, x5, x6, x7, x8⟩]) r).1, hs ++ (goK (pre ++ [⟨x0, x1, x2, x3, false, x5, x6, x7, x8⟩]) r).2) := fun hq => by rw [hgo, goK, hq]; rfl
        have hN2 : (pre.any fun x => ag x5 x.W) = false → goK [] ys = ((goK (pre ++ [⟨x0, x1, x2, x3, true, x5, x6, x7, x8⟩]) r).1, (hs ++ [x0]) ++ (goK (pre ++ [⟨x0, x1, x2, x3, true, x5, x6, x7, x8⟩]) r).2) := fun hq => by rw [hgo, goK, hq]; simp [Ak.on]
        replace hN1 := Lib.hid hN1
        replace hN2 := Lib.hid hN2
        clear hgo
        go_wp2_with fail
        refine hcn.out.mono ?_
        rintro e w3 ⟨rfl, hb3⟩
        clear hcn
        replace hKa := hKa.below hb3
        replace hRa := hRa.below hb3
        replace hga := grown_tr hga (grown_wk hb3 _)
        replace hka := hka.below hb3 hal
        have hal3 := hka.lt
        clear hb3 hcsa hca e1
        cases hq : pre.any fun x => ag x5 x.W with
        | true =>
          have hN := hN1.out hq
          have hK2 : LK w3 base B now (some ⟨g, 0, none⟩) n c1 ((pre ++ [⟨x0, x1, x2, x3, false, x5, x6, x7, x8⟩]) ++ r) := by simpa using hKa
          replace hN := Lib.hid hN
          clear hN1 hN2 hKa hq
          go_wp2
          refine ⟨⟨pre ++ [⟨x0, x1, x2, x3, false, x5, x6, x7, x8⟩], r, hs, R, d, by simp, by simp; omega, hN.out, by simp; omega, rfl, hK2, hRa, hga⟩, by simp [intOf]; omega⟩
        | false =>
          have hN := Lib.hid (hN2.out hq)
          have hcs3 := hKa.cells
          have ho3 : w3.cell? ⟨g, pre.length * 6 + 5, none⟩ = some (.bool false) := by
            obtain ⟨b1, o1, hA, hgl, hc⟩ := hKa.own.rv.2.2.2 (by omega)
            injection hA with hA
            injection hA with hA1' hA2'
            subst hA1' hA2'
            have e1 := acells_cell hc (fun _ => rfl) pre.length (by simp)
            rw [show (pre ++ (⟨x0, x1, x2, x3, false, x5, x6, x7, x8⟩ : Ak) :: r)[pre.length]'(by simp) = ⟨x0, x1, x2, x3, false, x5, x6, x7, x8⟩ by simp] at e1
            simpa only [Nat.zero_add] using e1.2.2.2.2.2
          have hf3 : w3.frozen? ⟨g, pre.length * 6 + 5, none⟩ = false := World.ownsRow.frozenAt hKa.own _
          have hgb := grownBy_at w3 g (pre.length * 6 + 5) (.bool true)
          have hK4 := hKa.setOn
          have hR4 : Ov (w3.setCell ⟨g, pre.length * 6 + 5, none⟩ (.bool true)) w.heap.size 3 1 R hs.length d (icells hs) := hRa.grown hgb (hRa.neOv hKa.own (by decide))
          have hg4 : w.grownBy (w3.setCell ⟨g, pre.length * 6 + 5, none⟩ (.bool true)) (some B) := grownB hga hgb (fun x e => by cases e; exact hA1 g rfl)
          have hwg : wr.heap.size ≠ g := by omega
          have hk4 : KA (w3.setCell ⟨g, pre.length * 6 + 5, none⟩ (.bool true)) wr.heap.size ⟨x0, x1, x2, x3, false, x5, x6, x7, x8⟩ := (hgb.block _ hal3 (fun e => hwg (by injection e))).trans hka
          have hk4c := hk4.cells
          simp only [KAc] at hk4c
          clear hka hKa hRa hga hgb hk4
          go_upto_region 8 with fail
          clear hcs3 ho3 hf3
          generalize (w3.setCell ⟨g, pre.length * 6 + 5, none⟩ (.bool true)) = w4 at *
          have hba : Below w4.heap.size w4 (w4.alloc (.cells #[.int .i64 x0] 3)) := (Below.refl _ _).alloc (Nat.le_refl _) _
          have hR5 := hR4.below hba
          have hK5 := hK4.below hba
          have hg5 := grown_tr hg4 (grown_wk hba _)
          have hr5 := Rv.lit (w := w4) 3 1 [.int .i64 x0] 1 rfl (by decide)
          have hg5s := hg5.size
          have hil : hs.length ≤ 20 := by omega
          clear hR4 hg4 hba
          have hKx : LK (w4.alloc (.cells #[.int .i64 x0] 3)) base B now (some ⟨g, 0, none⟩) n c1 ((pre ++ [⟨x0, x1, x2, x3, true, x5, x6, x7, x8⟩]) ++ r) := by simpa [Ak.on] using hK5
          go_wp2_with (at_builtin; refine wpList_append_v _ rfl _ _ 36 rfl 3 iS (.int .i64 0) 1 8 Tryd.underlying36 hiS hzS hsS hbS rfl (by decide) w.heap.size R hs.length d (icells hs) rfl hR5 (some ⟨w4.heap.size, 0, none⟩) 1 1 [.int .i64 x0] rfl hr5 (by simp [Value.oneCell']) (by unfold maxLen; omega) (by omega) (by simpa using hg5s) ?_; intro R' d' w6 hO6 hg6 hab6)
          refine ⟨⟨pre ++ [⟨x0, x1, x2, x3, true, x5, x6, x7, x8⟩], r, hs ++ [x0], R', d', by simp, by simp; omega, hN.out, by simp; omega, by simp, hKx.grown hg6 (fun k e => ?_), by simpa [icells] using hO6, grownB hg5 hg6 (fun x e => (hR5.ab x e).1)⟩, by simp [intOf]; omega⟩
          obtain ⟨cs, hcs⟩ := hR5.block k e
          exact ⟨cs, _, hcs, by decide, by decide, by decide⟩
    | nil =>
      have hln : pre.length = n := by simpa using hl
      have hlt : decide ((pre.length : Int) < (n : Int)) = false := by simp; omega
      have e1 : goK [] ys = (pre, hs) := by rw [hgo]; simp [goK]
      rw [List.append_nil] at hK
      have hso := Lib.hid (Sorted_any A1 n c1 pre wr hK.own.rv hn)
      replace e1 := Lib.hid e1
      have hgs := hg.size
      clear hgo
      go_wp2_with fail
      refine hso.out.mono ?_
      rintro e w2 ⟨A2, c2, rfl, hO2, hb2⟩
      clear hso hcs
      have hK2 := hK.below hb2
      have hK3 := hK2.setAsks (ys := ordK pre) (hO2.ge (by omega)) (fun x hx => hK2.tabs x (mem_ordK.1 hx))
      have cB := hK2.cells
      have fB := hK2.frozen 1
      have hR2 := hR.below hb2
      have hR3 := hR2.grown (grownBy_at w2 B 1 (.slice A2 n c2)) (fun b hb e => hR2.ne hK2.box (by decide) (by rw [hb, e]))
      have hg3 : w.grownBy (w2.setCell ⟨B, 1, none⟩ (.slice A2 n c2)) (some B) := grown_tr (grown_tr hg (grown_wk hb2 _)) (grownBy_at w2 B 1 _)
      have hab2 := hO2.ab
      clear hK hK2 hR hR2 hO2 hb2 hg
      go_wp2
      go_ret
      rw [e1.out]
      exact ⟨A2, c2, R, d, rfl, hK3, hR3, fun g hg => Nat.le_trans hgs (hab2 g hg).1, hg3⟩
end Go.Proofs.YtnjhhibjcfjhnaaDoor
