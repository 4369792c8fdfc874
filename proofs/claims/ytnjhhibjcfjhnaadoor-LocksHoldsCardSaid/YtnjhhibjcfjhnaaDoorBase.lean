/- Words for memory that the walks of this seat use: a slice that reads as a list of cells, a slice of bytes, what a call of one's own owns; and small laws on them. Plain theorems; no condition. -/
import Derived.WalkKit
import Derived.Deep.AppendLies
import Derived.Deep.Draws
import Derived.Maps.AppendAt
import Derived.Lib.Hide
import Derived.Lib.AppendStr
import Derived.Laws.BytesArg
import Derived.BigQuiet
import Derived.Deep.QuietTactic
namespace Go.Proofs.YtnjhhibjcfjhnaaDoor
open Go.RowKit
set_option linter.unusedVariables false

theorem ret_int {k : IntKind} {a b : Int} (h : a = b) : Ending.returned (.int k a) = .returned (.int k b) := by rw [h]
theorem ret_val {a b : Value} (h : a = b) : Ending.returned a = .returned b := by rw [h]

theorem quiet_left {P : Program} {f : FuncId} {args : Array Value} {w : World} {n : Nat} {v : Value}
    (h : Calls P f args (w.drewN n) fun e w' => e = .returned v ∧ w.drewN n = w') : Calls P f args (w.drewN n) fun e w'' => e = .returned v ∧ ∃ m, w'' = w.drewN m :=
  h.mono fun _ _ ⟨he, hm⟩ => ⟨he, n, hm.symm⟩
theorem quiet_add_left {P : Program} {f : FuncId} {args : Array Value} {w : World} {a n : Nat} {v : Value}
    (h : Calls P f args (w.drewN (a + n)) fun e w' => e = .returned v ∧ w.drewN (a + n) = w') :
    Calls P f args (w.drewN (a + n)) fun e w'' => e = .returned v ∧ ∃ m, w'' = w.drewN (a + m) :=
  h.mono fun _ _ ⟨he, hm⟩ => ⟨he, n, hm.symm⟩
theorem below_drewN {B : Nat} {a w : World} (h : Below B a w) (n : Nat) : Below B a (w.drewN n) := ⟨h.os, h.tape, h.output, h.size, h.block⟩

/-- A slice whose elements (of so many cells each) are just these cells: nil, or a row in a block that lies in the world. -/
def Rv (w : World) (size : Nat) (A : Option Addr) (n c : Nat) (xs : List Value) : Prop :=
  xs.length = n * size ∧ n ≤ c ∧ c ≤ maxLen ∧ (0 < n → ∃ b off, A = some ⟨b, off, none⟩ ∧ b < w.heap.size ∧ ∀ j u, xs[j]? = some u → w.cell? ⟨b, off + j, none⟩ = some u)

/-- A slice that the call owns: nil, or a whole block from 'base' on. -/
def Ov (w : World) (base : Nat) (e : TypeId) (size : Nat) (A : Option Addr) (n c : Nat) (xs : List Value) : Prop := w.ownsRow base e size (.slice A n c) n xs

/-- The block that a slice's address lies in. -/
def ab (A : Option Addr) : Option Nat := A.map (·.block)
theorem ab_none : ab none = none := rfl
theorem ab_some (g o : Nat) (s : Option Nat) : ab (some ⟨g, o, s⟩) = some g := rfl
theorem ownBlock_slice (A : Option Addr) (n c : Nat) : (Value.slice A n c).ownBlock = ab A := by cases A <;> rfl

section
variable {w w' : World} {size : Nat} {A : Option Addr} {n c : Nat} {xs : List Value} {base : Nat} {e : TypeId}

theorem Rv.keep (h : Rv w size A n c xs) (hs : w.heap.size ≤ w'.heap.size) (hk : ∀ b o, ab A = some b → b < w.heap.size → w'.cell? ⟨b, o, none⟩ = w.cell? ⟨b, o, none⟩) : Rv w' size A n c xs := by
  obtain ⟨h1, h2, h3, h4⟩ := h
  refine ⟨h1, h2, h3, fun hn => ?_⟩
  obtain ⟨b, off, rfl, hlt, hc⟩ := h4 hn
  exact ⟨b, off, rfl, Nat.lt_of_lt_of_le hlt hs, fun j u hu => (hk b _ rfl hlt).trans (hc j u hu)⟩
theorem Rv.below (h : Rv w size A n c xs) (hb : Below w.heap.size w w') : Rv w' size A n c xs :=
  h.keep hb.size fun b o _ hlt => hb.cell (p := ⟨b, o, none⟩) hlt
theorem Rv.belowB {B : Nat} (h : Rv w size A n c xs) (hA : ∀ b, ab A = some b → b < B) (hb : Below B w w') : Rv w' size A n c xs :=
  h.keep hb.size fun b o hab _ => hb.cell (p := ⟨b, o, none⟩) (hA b hab)
theorem Rv.grown {row : Option Nat} (h : Rv w size A n c xs) (hg : w.grownBy w' row) (hne : ∀ b, ab A = some b → some b ≠ row) : Rv w' size A n c xs :=
  h.keep hg.size fun b o hab hlt => World.cell?_of_block (hg.block b hlt (hne b hab))
theorem Rv.nil (w : World) (size : Nat) : Rv w size none 0 0 [] := ⟨by simp, Nat.le_refl _, Nat.zero_le _, fun h => absurd h (Nat.lt_irrefl _)⟩

theorem Ov.rv (h : Ov w base e size A n c xs) : Rv w size A n c xs := by
  obtain ⟨h1, h2⟩ := h
  rcases h2 with ⟨hv, hn⟩ | ⟨g, cap, cur, hv, hb, hg, hnc, hcm, hsz, htake⟩
  · injection hv with h5 h6 h7
    subst h5 h6 h7
    exact ⟨h1, Nat.le_refl _, Nat.zero_le _, fun h => absurd h (Nat.lt_irrefl _)⟩
  · injection hv with h5 h6 h7
    subst h5 h7
    refine ⟨h1, hnc, hcm, fun _ => ⟨g, 0, rfl, (Array.getElem?_eq_some_iff.1 hg).1, fun j u hu => ?_⟩⟩
    rw [cell_of_row w g (0 + j) cur e (0, 0) hg]
    rw [← htake, List.getElem?_take] at hu
    split at hu
    · simpa using hu
    · cases hu
theorem Ov.ab (h : Ov w base e size A n c xs) : ∀ g, ab A = some g → base ≤ g ∧ g < w.heap.size := by
  intro g hg
  exact World.ownsRow.lt h g (by rw [ownBlock_slice]; exact hg)
theorem Ov.ge (h : Ov w base e size A n c xs) {base' : Nat} (hb : base' ≤ base) : Ov w base' e size A n c xs := by
  obtain ⟨h1, h2⟩ := h
  refine ⟨h1, ?_⟩
  rcases h2 with h2 | ⟨g, cap, cur, hv, hb', r⟩
  · exact .inl h2
  · exact .inr ⟨g, cap, cur, hv, Nat.le_trans hb hb', r⟩
theorem Ov.grown {row : Option Nat} (h : Ov w base e size A n c xs) (hg : w.grownBy w' row) (hne : ∀ b, Go.Proofs.YtnjhhibjcfjhnaaDoor.ab A = some b → some b ≠ row) : Ov w' base e size A n c xs :=
  World.ownsRow.kept h hg (by
    rw [ownBlock_slice]
    cases hA : Go.Proofs.YtnjhhibjcfjhnaaDoor.ab A with
    | none => exact .inl rfl
    | some b => exact .inr (hne b hA))
theorem Ov.below (h : Ov w base e size A n c xs) (hb : Below w.heap.size w w') : Ov w' base e size A n c xs :=
  h.grown (row := none) ⟨hb.os, hb.tape, hb.output, hb.size, fun k hk _ => hb.block k hk⟩ (fun _ _ => by simp)
theorem Ov.nil (w : World) (base : Nat) (e : TypeId) (size : Nat) : Ov w base e size none 0 0 [] := World.ownsRow_nil w base e size
end

/-- Nothing that was there has turned: what 'grownBy' says where only a row of one's own is written. -/
theorem Below.of_grown {w w' : World} {B : Nat} {row : Option Nat} (hg : w.grownBy w' row) (hB : B ≤ w.heap.size) (hr : ∀ k, row = some k → B ≤ k) : Below B w w' :=
  (Below.refl B w).grown hg hB hr
theorem Below.of_grown_none {w w' : World} (hg : w.grownBy w' none) : Below w.heap.size w w' :=
  (Below.refl _ w).grown hg (Nat.le_refl _) (fun _ h => by cases h)

theorem gr {a b c : World} (h : Below a.heap.size a b) (k : Below b.heap.size b c) : Below a.heap.size a c := h.trans (k.mono h.size)
theorem gr_alloc {a b : World} (h : Below a.heap.size a b) (o : Obj) : Below a.heap.size a (b.alloc o) := h.alloc h.size o
theorem gr_drew {a b : World} (h : Below a.heap.size a b) : Below a.heap.size a b.drew := h.drew
theorem gr_drewN {a b : World} (h : Below a.heap.size a b) (n : Nat) : Below a.heap.size a (b.drewN n) := ⟨h.os, h.tape, h.output, h.size, h.block⟩

/-! ### append -/
section
variable {P : Program} (w : World)

theorem run_append_v (t ty e : TypeId) (i : TypeInfo) (z : Value) (size bytes : Nat) (ht : P.underlying t = some (.slice e)) (hi : P.info? e = some i) (hz : i.zero = some z)
    (hsize : i.size = size) (hby : i.bytes = bytes) (hzs : z.cells.size = size) (hsz : 0 < size)
    (base : Nat) (A : Option Addr) (n c : Nat) (xs : List Value) (hown : Ov w base e size A n c xs)
    (B : Option Addr) (m d : Nat) (ys : List Value) (hr : Rv w size B m d ys) (h1 : ∀ u ∈ ys, u.oneCell' = true)
    (h63 : n + m ≤ maxLen) (hbytes : (n + m) * bytes ≤ 140737488355328) (hbase : base ≤ w.heap.size) :
    ∃ A' c' w', (Builtin.append_ #[t, t] ty #[.slice A n c, .slice B m d]).run P w = .ok (.slice A' (n + m) c') w' ∧ Ov w' base e size A' (n + m) c' (xs ++ ys) ∧ w.grownBy w' (ab A) ∧
      (ab A' = ab A ∨ ab A' = some w.heap.size) := by
  have key : ∀ (v' : Value) (w' : World), (v'.ownBlock = (Value.slice A n c).ownBlock ∨ v'.ownBlock = some w.heap.size) → w'.ownsRow base e size v' (n + m) (xs ++ ys) →
      ∃ A' c', v' = .slice A' (n + m) c' ∧ (ab A' = ab A ∨ ab A' = some w.heap.size) := by
    intro v' w' hv ho
    rcases ho.2 with ⟨rfl, hn⟩ | ⟨g, cap, cur, rfl, _⟩
    · exact ⟨none, 0, by rw [hn], by simpa only [ownBlock_slice] using hv⟩
    · exact ⟨_, _, rfl, by simpa only [ownBlock_slice] using hv⟩
  by_cases hm : m = 0
  · subst hm
    have hn : ys = [] := List.eq_nil_of_length_eq_zero (by simpa using hr.1)
    subst hn
    refine ⟨A, c, w, ?_, by simpa using hown, World.grownBy.refl w _, .inl rfl⟩
    cases B with
    | none =>
      rcases hown.2 with ⟨hv, hn⟩ | ⟨g, cap, cur, hv, _, _, hnc, _⟩
      · injection hv with h5 h6 h7
        subst h5 h6 h7
        simp [Builtin.append_, run_underlying ht, sizeOf, typeInfo, hi, Builtin.lenOf, Builtin.firstCells]
      · injection hv with h5 h6 h7
        subst h5 h7
        simp [Builtin.append_, run_underlying ht, sizeOf, typeInfo, hi, Builtin.lenOf, Builtin.firstCells, hnc, storeCells]
    | some ad =>
      rcases hown.2 with ⟨hv, hn⟩ | ⟨g, cap, cur, hv, _, _, hnc, _⟩
      · injection hv with h5 h6 h7
        subst h5 h6 h7
        simp [Builtin.append_, run_underlying ht, sizeOf, typeInfo, hi, Builtin.lenOf, Builtin.firstCells, loadCells, loadCellsFrom]
      · injection hv with h5 h6 h7
        subst h5 h7
        simp [Builtin.append_, run_underlying ht, sizeOf, typeInfo, hi, Builtin.lenOf, Builtin.firstCells, hnc, storeCells, loadCells, loadCellsFrom]
  · obtain ⟨b, off, rfl, _, hc⟩ := hr.2.2.2 (by omega)
    obtain ⟨v', w', hrun, h2, h3, _, h5⟩ := run_append_own_at (P := P) (ty := ty) w base t e i z size bytes ht hi hz hsize hby hzs hsz (.slice A n c) n xs hown ⟨b, off, none⟩ m d ys hr.1
      (fun j u hu => by rw [Addr.add_lit]; exact hc j u hu) h1 h63 hbytes hbase
    obtain ⟨A', c', rfl, h6⟩ := key v' w' h5 h2
    exact ⟨A', c', w', hrun, h2, by rw [ownBlock_slice] at h3; exact h3, h6⟩

theorem wp_append_v {o : Oper} {a : Act} {K : Act → World → Prop} {Q : Exit → Act → World → Prop} (s x : Operand) (t : TypeId)
    (ho : o.op = .call { callee := .builtin .append, args := #[s, x], argTypes := #[t, t] })
    (e : TypeId) (i : TypeInfo) (z : Value) (size bytes : Nat) (ht : P.underlying t = some (.slice e)) (hi : P.info? e = some i) (hz : i.zero = some z)
    (hsize : i.size = size) (hby : i.bytes = bytes) (hzs : z.cells.size = size) (hsz : 0 < size)
    (base : Nat) (A : Option Addr) (n c : Nat) (xs : List Value) (hs : a.eval s = .slice A n c) (hown : Ov w base e size A n c xs)
    (B : Option Addr) (m d : Nat) (ys : List Value) (hx : a.eval x = .slice B m d) (hr : Rv w size B m d ys) (h1 : ∀ u ∈ ys, u.oneCell' = true)
    (h63 : n + m ≤ maxLen) (hbytes : (n + m) * bytes ≤ 140737488355328) (hbase : base ≤ w.heap.size)
    (h : ∀ A' c' w', Ov w' base e size A' (n + m) c' (xs ++ ys) → w.grownBy w' (ab A) → (ab A' = ab A ∨ ab A' = some w.heap.size) → K (a.put o.dst (.slice A' (n + m) c')) w') : o.wp P a w K Q := by
  obtain ⟨A', c', w', hrun, h2, h3, h4⟩ := run_append_v (P := P) (ty := o.type) w t e i z size bytes ht hi hz hsize hby hzs hsz base A n c xs hown B m d ys hr h1 h63 hbytes hbase
  unfold Oper.wp execOp
  simp only [ho, resolve, invoke, builtin, Sem.run_bind, Sem.run_pure, Result.andThen_ok, List.map_toArray, List.map_cons, List.map_nil, hs, hx, hrun]
  exact h A' c' w' h2 h3 h4

theorem wpList_append_v {ops : Array Oper} {rest : List Oper} {o : Oper} {a : Act} {Q : Exit → Act → World → Prop} (hgd : o.guard = none) (s x : Operand) (t : TypeId)
    (ho : o.op = .call { callee := .builtin .append, args := #[s, x], argTypes := #[t, t] })
    (e : TypeId) (i : TypeInfo) (z : Value) (size bytes : Nat) (ht : P.underlying t = some (.slice e)) (hi : P.info? e = some i) (hz : i.zero = some z)
    (hsize : i.size = size) (hby : i.bytes = bytes) (hzs : z.cells.size = size) (hsz : 0 < size)
    (base : Nat) (A : Option Addr) (n c : Nat) (xs : List Value) (hs : a.eval s = .slice A n c) (hown : Ov w base e size A n c xs)
    (B : Option Addr) (m d : Nat) (ys : List Value) (hx : a.eval x = .slice B m d) (hr : Rv w size B m d ys) (h1 : ∀ u ∈ ys, u.oneCell' = true)
    (h63 : n + m ≤ maxLen) (hbytes : (n + m) * bytes ≤ 140737488355328) (hbase : base ≤ w.heap.size)
    (h : ∀ A' c' w', Ov w' base e size A' (n + m) c' (xs ++ ys) → w.grownBy w' (ab A) → (ab A' = ab A ∨ ab A' = some w.heap.size) → wpList P ops Q rest (a.put o.dst (.slice A' (n + m) c')) w') :
    wpList P ops Q (o :: rest) a w :=
  wpList_plain hgd fun _ hK => wp_append_v w s x t ho e i z size bytes ht hi hz hsize hby hzs hsz base A n c xs hs hown B m d ys hx hr h1 h63 hbytes hbase fun A' c' w' h2 h3 h4 => hK _ _ (h A' c' w' h2 h3 h4)
end

/-! ### bytes -/
/-- A byte as a cell. -/
def cb (b : UInt8) : Value := .int .u8 (b.toNat : Int)
theorem cb_one (l : List UInt8) : ∀ u ∈ l.map cb, u.oneCell' = true := by
  intro u hu
  obtain ⟨b, _, rfl⟩ := List.mem_map.1 hu
  rfl

/-- A slice of bytes that holds just these. -/
def Rd (w : World) (A : Option Addr) (n c : Nat) (l : List UInt8) : Prop := Rv w 1 A n c (l.map cb)
/-- A slice of bytes of the call's own. -/
def Ob (w : World) (base : Nat) (e : TypeId) (A : Option Addr) (n c : Nat) (l : List UInt8) : Prop := Ov w base e 1 A n c (l.map cb)

section
variable {w w' : World} {A : Option Addr} {n c : Nat} {l : List UInt8} {base : Nat} {e : TypeId}
theorem Rd.len (h : Rd w A n c l) : l.length = n := by have := h.1; simpa using this
theorem Rd.le (h : Rd w A n c l) : n ≤ c := h.2.1
theorem Rd.cap (h : Rd w A n c l) : c ≤ 9223372036854775807 := by have := h.2.2.1; unfold maxLen at this; omega
theorem Rd.open (h : Rd w A n c l) (hn : 0 < n) : ∃ b off, A = some ⟨b, off, none⟩ ∧ b < w.heap.size ∧ ∀ i, (h : i < l.length) → w.cell? ⟨b, off + i, none⟩ = some (.int .u8 (l[i].toNat : Int)) := by
  obtain ⟨b, off, hA, hb, hc⟩ := h.2.2.2 hn
  exact ⟨b, off, hA, hb, fun i hi => hc i (cb l[i]) (by simp [hi])⟩
theorem Rd.below (h : Rd w A n c l) (hb : Below w.heap.size w w') : Rd w' A n c l := Rv.below h hb
theorem Rd.nil (w : World) : Rd w none 0 0 [] := Rv.nil w 1
theorem Rd.empty (w : World) (A : Option Addr) (c : Nat) (hc : c ≤ 9223372036854775807) : Rd w A 0 c [] := ⟨rfl, Nat.zero_le _, by simp only [maxLen]; omega, fun h => absurd h (Nat.lt_irrefl _)⟩
theorem Ob.rd (h : Ob w base e A n c l) : Rd w A n c l := Ov.rv h
theorem Ob.len (h : Ob w base e A n c l) : l.length = n := h.rd.len
theorem Ob.below (h : Ob w base e A n c l) (hb : Below w.heap.size w w') : Ob w' base e A n c l := Ov.below h hb
theorem Ob.ge (h : Ob w base e A n c l) {base' : Nat} (hb : base' ≤ base) : Ob w base' e A n c l := Ov.ge h hb
/-- A slice literal. -/
theorem Ob.lit (w : World) (base : Nat) (e : TypeId) (l : List UInt8) (hb : base ≤ w.heap.size) (hl : l.length ≤ maxLen) : Ob (w.alloc (.cells (l.map cb).toArray e)) base e (some ⟨w.heap.size, 0, none⟩) l.length l.length l := by
  have h := World.ownsRow_lit (base := base) (e := e) (size := 1) w (l.map cb).toArray l.length hb hl (by simp)
  simpa [Ob, Ov] using h
end

section
variable {P : Program} (w : World)
theorem wpList_append_b {ops : Array Oper} {rest : List Oper} {o : Oper} {a : Act} {Q : Exit → Act → World → Prop} (hgd : o.guard = none) (s x : Operand) (t : TypeId)
    (ho : o.op = .call { callee := .builtin .append, args := #[s, x], argTypes := #[t, t] })
    (e : TypeId) (ht : P.underlying t = some (.slice e)) (hi : (P.info? e).map (fun i => (i.zero, i.size, i.bytes)) = some (some (.int .u8 0), 1, 1))
    (base : Nat) (A : Option Addr) (n c : Nat) (l : List UInt8) (hs : a.eval s = .slice A n c) (hown : Ob w base e A n c l)
    (B : Option Addr) (m d : Nat) (k : List UInt8) (hx : a.eval x = .slice B m d) (hr : Rd w B m d k)
    (hlen : n + m ≤ 140737488355328) (hbase : base ≤ w.heap.size)
    (h : ∀ A' c' w', Ob w' base e A' (n + m) c' (l ++ k) → w.grownBy w' (ab A) → (ab A' = ab A ∨ ab A' = some w.heap.size) → wpList P ops Q rest (a.put o.dst (.slice A' (n + m) c')) w') :
    wpList P ops Q (o :: rest) a w := by
  obtain ⟨i, hi0, hz, hsz, hby⟩ := info_parts hi
  refine wpList_append_v w hgd s x t ho e i (.int .u8 0) 1 1 ht hi0 hz hsz hby rfl (by decide) base A n c (l.map cb) hs hown B m d (k.map cb) hx hr (cb_one k) (by simp only [maxLen]; omega) (by omega) hbase ?_
  intro A' c' w' h2 h3 h4
  exact h A' c' w' (by rw [Ob, List.map_append]; exact h2) h3 h4

theorem Ob.zeros (w : World) (base : Nat) (e : TypeId) (n : Nat) (A : Option Addr) (c : Nat) (h : w.ownsRow base e 1 (.slice A n c) n (madeCells (Value.int .u8 0).cells (n * 1)).toList) : Ob w base e A n c (List.replicate n 0) := by
  have e1 : (madeCells (Value.int .u8 0).cells (n * 1)).toList = (List.replicate n (0 : UInt8)).map cb := by
    rw [Nat.mul_one, List.map_replicate]
    exact toList_madeCells_one (.int .u8 0) n
  rw [e1] at h
  exact h

/-- make([]byte, n). -/
theorem wpList_make_b {ops : Array Oper} {rest : List Oper} {o : Oper} {a : Act} {Q : Exit → Act → World → Prop} (hgd : o.guard = none) (l c : Operand) (t : TypeId) (hop : o.op = Op.makeSlice t l c)
    (e : TypeId) (ht : P.underlying t = some (.slice e)) (hi : (P.info? e).map (fun i => (i.zero, i.size, i.bytes)) = some (some (.int .u8 0), 1, 1))
    (base : Nat) (kl kc : IntKind) (L C : Int) (n : Nat) (hl : a.eval l = .int kl L) (hc : a.eval c = .int kc C) (hL : L = (n : Int)) (hC : C = (n : Int)) (hn : n ≤ 281474976710656) (hbase : base ≤ w.heap.size)
    (hK : ∀ w', Ob w' base e (some ⟨w.heap.size, 0, none⟩) n n (List.replicate n 0) → w.grownBy w' none → wpList P ops Q rest (a.put o.dst (.slice (some ⟨w.heap.size, 0, none⟩) n n)) w') :
    wpList P ops Q (o :: rest) a w := by
  obtain ⟨i, hi0, hz, hsz, hby⟩ := info_parts hi
  refine wpList_make_full w hgd l c t hop base e i (.int .u8 0) 1 ht hi0 hz hsz kl kc L C n hl hc hL hC (by rw [hby]; omega) (by simp only [maxLen]; omega) hbase ?_
  intro w' h1 h2
  exact hK w' (Ob.zeros _ _ _ _ _ _ h1) h2

/-- append(b, s...), s a string. -/
theorem wpList_append_s {ops : Array Oper} {rest : List Oper} {o : Oper} {a : Act} {Q : Exit → Act → World → Prop} (hgd : o.guard = none) (sl x : Operand) (t u : TypeId)
    (ho : o.op = .call { callee := .builtin .append, args := #[sl, x], argTypes := #[t, u] })
    (e : TypeId) (ht : P.underlying t = some (.slice e)) (hu : P.underlying u = some .string) (hi : (P.info? e).map (fun i => (i.zero, i.size, i.bytes)) = some (some (.int .u8 0), 1, 1))
    (base : Nat) (A : Option Addr) (n c : Nat) (l : List UInt8) (hs : a.eval sl = .slice A n c) (hown : Ob w base e A n c l) (s : ByteArray) (hx : a.eval x = .string s)
    (hlen : n + s.size ≤ 140737488355328) (hbase : base ≤ w.heap.size)
    (h : ∀ A' c' w', Ob w' base e A' (n + s.size) c' (l ++ s.data.toList) → w.grownBy w' (ab A) → wpList P ops Q rest (a.put o.dst (.slice A' (n + s.size) c')) w') : wpList P ops Q (o :: rest) a w := by
  obtain ⟨i, hi0, hz, hsz, hby⟩ := info_parts hi
  refine Lib.wpList_append_own_string w hgd sl x t u ho base e i ht hu hi0 hz hsz hby (.slice A n c) n (l.map cb) hs hown s hx (by simp only [maxLen]; omega) hlen hbase ?_
  intro v' w' h2 h3 _
  have h2' : w'.ownsRow base e 1 v' (n + s.size) ((l ++ s.data.toList).map cb) := by rw [List.map_append]; exact h2
  rw [ownBlock_slice] at h3
  rcases h2'.2 with ⟨hv, hn⟩ | ⟨g, cap, cur, hv, _⟩
  · rw [hv]
    have := h none 0 w' (by rw [hv] at h2'; rw [hn] at h2' ⊢; exact h2') h3
    rw [hn] at this
    exact this
  · rw [hv]
    exact h _ _ w' (by rw [hv] at h2'; exact h2') h3

/-- A string of bytes. -/
def strL (l : List UInt8) : ByteArray := ⟨l.toArray⟩
theorem strL_size (l : List UInt8) : (strL l).size = l.length := by simp [strL, ByteArray.size]
theorem strL_toList (l : List UInt8) : (strL l).toList = l := by rw [ByteArray.toList_eq]; rfl
theorem strL_list (l : List UInt8) : (strL l).data.toList = l := rfl
theorem strL_of (s : ByteArray) : strL s.data.toList = s := rfl

/-- string(b). -/
theorem run_conv_b (src dst e : TypeId) (hs : P.underlying src = some (.slice e)) (he : P.underlying e = some (.int .u8)) (hd : P.underlying dst = some .string)
    {A : Option Addr} {n c : Nat} {l : List UInt8} (h : Rd w A n c l) : (convert src dst (.slice A n c)).run P w = .ok (.string (strL l)) w := by
  have hl := h.len
  cases A with
  | none =>
    have hn : n = 0 := by
      rcases Nat.eq_zero_or_pos n with h0 | h0
      · exact h0
      · obtain ⟨b, off, hA, _⟩ := h.open h0
        cases hA
    subst hn
    obtain rfl : l = [] := List.eq_nil_of_length_eq_zero hl
    exact run_convert_bytes_nil w src e hs he 0 c dst hd
  | some ad =>
    by_cases hn : n = 0
    · subst hn
      obtain rfl : l = [] := List.eq_nil_of_length_eq_zero hl
      rw [run_convert_bytes_string w src dst e _ 0 c hs he hd]
      have hl0 : (loadCells ad 0).run P w = .ok (([] : List Int).map (Value.int .u8)).toArray w := by simp [loadCells, loadCellsFrom, Sem.run_pure]
      rw [run_bytesToString w ad 0 c [] hl0]
      rfl
    · obtain ⟨b, off, hA, _, hc⟩ := h.open (by omega)
      injection hA with hA
      subst hA
      have h1 := run_convert_bytes_arg (P := P) w src e hs he b off n c (l.map fun b => (b.toNat : Int)) (by simpa using hl) (fun i hi => by
        rw [hc i (by omega)]
        simp [List.getD, show i < l.length from by omega]) dst hd
      rw [h1]
      have e1 : strOfNums (l.map fun b => (b.toNat : Int)) = strL l := by
        unfold strOfNums strL
        congr 2
        rw [List.map_map]
        exact (List.map_congr_left (fun b _ => by simp)).trans (List.map_id l)
      rw [e1]

theorem wpList_conv_b {ops : Array Oper} {rest : List Oper} {o : Oper} {a : Act} {Q : Exit → Act → World → Prop} (hgd : o.guard = none) (src dst : TypeId) (x : Operand) (ho : o.op = .convert src dst x)
    (e : TypeId) (hs : P.underlying src = some (.slice e)) (he : P.underlying e = some (.int .u8)) (hd : P.underlying dst = some .string)
    (A : Option Addr) (n c : Nat) (l : List UInt8) (hx : a.eval x = .slice A n c) (h : Rd w A n c l) (hK : wpList P ops Q rest (a.put o.dst (.string (strL l))) w) : wpList P ops Q (o :: rest) a w := by
  refine wpList_plain hgd fun K hK' => ?_
  unfold Oper.wp execOp
  simp only [ho, hx, Sem.run_bind, run_conv_b w src dst e hs he hd h, Result.andThen_ok]
  exact hK' _ _ hK

/-- append(b, c...), the new length by a name of its own. -/
theorem wpList_append_br {ops : Array Oper} {rest : List Oper} {o : Oper} {a : Act} {Q : Exit → Act → World → Prop} (hgd : o.guard = none) (s x : Operand) (t : TypeId)
    (ho : o.op = .call { callee := .builtin .append, args := #[s, x], argTypes := #[t, t] })
    (e : TypeId) (ht : P.underlying t = some (.slice e)) (hi : (P.info? e).map (fun i => (i.zero, i.size, i.bytes)) = some (some (.int .u8 0), 1, 1))
    (base : Nat) (A : Option Addr) (n c : Nat) (l : List UInt8) (hs : a.eval s = .slice A n c) (hown : Ob w base e A n c l)
    (B : Option Addr) (m d : Nat) (k : List UInt8) (hx : a.eval x = .slice B m d) (hr : Rd w B m d k)
    (hlen : n + m ≤ 140737488355328) (hbase : base ≤ w.heap.size) (r : Nat) (hrr : n + m = r)
    (h : ∀ A' c' w', Ob w' base e A' r c' (l ++ k) → w.grownBy w' (ab A) → (ab A' = ab A ∨ ab A' = some w.heap.size) → wpList P ops Q rest (a.put o.dst (.slice A' r c')) w') :
    wpList P ops Q (o :: rest) a w := by
  subst hrr
  exact wpList_append_b w hgd s x t ho e ht hi base A n c l hs hown B m d k hx hr hlen hbase h
end
end Go.Proofs.YtnjhhibjcfjhnaaDoor
