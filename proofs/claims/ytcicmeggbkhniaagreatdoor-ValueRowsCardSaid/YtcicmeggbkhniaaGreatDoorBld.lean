/- strings.Builder of the call's own: what it writes to, and that nothing else turns. -/
import Derived.Test.YtcicmeggbkhniaaGreatDoorVal2
import Derived.Test.YtcicmeggbkhniaaGreatDoorShelf
import Derived.Shelf.Strings.BuilderK
namespace Go.Proofs.YtcicmeggbkhniaaGreatDoor
open Go.RowKit
set_option linter.unusedVariables false

theorem ownBlock_ab (A : Option Addr) (n c g : Nat) (h : ab A = some g) : (Value.slice A n c).ownBlock = some g := by rw [ownBlock_slice]; exact h

/-- append(b, s...), and where the new row lies. -/
theorem run_append_s {P : Program} (w : World) (t u ty e : TypeId) (ht : P.underlying t = some (.slice e)) (hu : P.underlying u = some .string) (hi : (P.info? e).map (fun i => (i.zero, i.size, i.bytes)) = some (some (.int .u8 0), 1, 1))
    (base : Nat) (A : Option Addr) (n c : Nat) (l : List UInt8) (hown : Ob w base e A n c l) (s : ByteArray) (hlen : n + s.size ≤ 140737488355328) (hbase : base ≤ w.heap.size) :
    ∃ A' c' w', (Builtin.append_ #[t, u] ty #[.slice A n c, .string s]).run P w = .ok (.slice A' (n + s.size) c') w' ∧ Ob w' base e A' (n + s.size) c' (l ++ s.data.toList) ∧ w.grownBy w' (ab A) ∧
      (∀ g, ab A' = some g → ab A = some g ∨ w.heap.size ≤ g) := by
  obtain ⟨i, hi0, hz, hsz, hby⟩ := info_parts hi
  have key : ∀ (base' : Nat) (v' : Value) (w' : World), w'.ownsRow base' e 1 v' (n + s.size) (l.map cb ++ Lib.strCells s) → ∃ A' c', v' = .slice A' (n + s.size) c' ∧ Ob w' base' e A' (n + s.size) c' (l ++ s.data.toList) := by
    intro base' v' w' h
    have h' : w'.ownsRow base' e 1 v' (n + s.size) ((l ++ s.data.toList).map cb) := by rw [List.map_append]; exact h
    rcases h'.2 with ⟨hv, hn⟩ | ⟨g, cap, cur, hv, _⟩
    · exact ⟨none, 0, by rw [hv, hn], by rw [hn]; rw [hv, hn] at h'; exact h'⟩
    · exact ⟨_, _, hv, by rw [hv] at h'; exact h'⟩
  cases A with
  | none =>
    have h0 := hown.2
    rcases h0 with ⟨hv, hn⟩ | ⟨g, cap, cur, hv, _⟩
    · injection hv with _ h5 h6
      subst h5 h6
      have hl : l = [] := List.eq_nil_of_length_eq_zero hown.len
      subst hl
      obtain ⟨v', w', hr, h2, h3, _⟩ := Lib.run_append_own_string (P := P) w w.heap.size t u ty e i ht hu hi0 hz hsz hby (.slice none 0 0) 0 [] (World.ownsRow_nil w _ e 1) s (by simp only [maxLen]; omega) hlen (Nat.le_refl _)
      obtain ⟨A', c', rfl, h4⟩ := key _ v' w' h2
      exact ⟨A', c', w', hr, h4.ge hbase, h3, fun g hg => .inr (h4.ab g hg).1⟩
    · cases hv
  | some ad =>
    rcases hown.2 with ⟨hv, hn⟩ | ⟨g, cap, cur, hv, hbg, hg, hnc, hcm, hcs, htake⟩
    · cases hv
    · injection hv with h5 h6 h7
      injection h5 with h5
      subst h5 h7
      obtain ⟨v', w', hr, h2, h3, _⟩ := Lib.run_append_own_string (P := P) w base t u ty e i ht hu hi0 hz hsz hby (.slice (some ⟨g, 0, none⟩) n c) n (l.map cb) hown s (by simp only [maxLen]; omega) hlen hbase
      obtain ⟨A', c', rfl, h4⟩ := key _ v' w' h2
      rw [ownBlock_slice] at h3
      refine ⟨A', c', w', hr, h4, h3, ?_⟩
      by_cases hroom : n + s.size ≤ c
      · have hr2 := Lib.run_append_room_string (P := P) w t u ty e i ht hu hi0 hsz g n c cur hg s hroom (by omega)
        rw [hr] at hr2
        injection hr2 with hr2
        injection hr2 with hr2
        subst hr2
        exact fun g' hg' => .inl hg'
      · have holds : ∀ j u, (l.map cb)[j]? = some u → w.cell? ((⟨g, 0, none⟩ : Addr).add j) = some u := World.ownsRow.cells hown (g := g) rfl
        have hr2 := Lib.run_append_grow_string (P := P) w t u ty e i (.int .u8 0) ht hu hi0 hz ⟨g, 0, none⟩ n c (l.map cb) (by rw [hsz]; simpa using hown.len) holds s (by omega) (by omega) (by rw [hby]; exact growslice_fits (by omega) (by omega))
        rw [hr] at hr2
        injection hr2 with hr2
        injection hr2 with hr2
        subst hr2
        refine fun g' hg' => .inr ?_
        have : w.heap.size = g' := by injection hg'
        omega

/-- A builder: its block, its buffer, what it holds. -/
structure Bld (w : World) (b : Nat) (A : Option Addr) (l : List UInt8) : Prop where
  ex : ∃ ad n c, (ad = .pointer none ∨ ad = .pointer (some ⟨b, 0, none⟩)) ∧ w.heap[b]? = some (.cells #[ad, .slice A n c] 107 (0, 0)) ∧ Ob w (b + 1) 5 A n c l

theorem Bld.lt {w : World} {b : Nat} {A : Option Addr} {l : List UInt8} (h : Bld w b A l) : b < w.heap.size := by
  obtain ⟨ad, n, c, _, hb, _⟩ := h.ex
  exact (Array.getElem?_eq_some_iff.1 hb).1
theorem Bld.ab {w : World} {b : Nat} {A : Option Addr} {l : List UInt8} (h : Bld w b A l) : ∀ g, ab A = some g → b < g ∧ g < w.heap.size := by
  obtain ⟨ad, n, c, _, hb, ho⟩ := h.ex
  exact fun g hg => ho.ab g hg
theorem Bld.new (w : World) : Bld (w.alloc (.cells #[.pointer none, .slice none 0 0] 107)) w.heap.size none [] :=
  ⟨_, 0, 0, .inl rfl, World.alloc_heap_new w _, Ov.nil _ _ _ _⟩
theorem Bld.keep {w w' : World} {b : Nat} {A : Option Addr} {l : List UInt8} (h : Bld w b A l) (hb : Below w.heap.size w w') : Bld w' b A l := by
  obtain ⟨ad, n, c, h1, h2, h3⟩ := h.ex
  exact ⟨ad, n, c, h1, (hb.block b h.lt).trans h2, h3.below hb⟩
theorem Bld.is {w : World} {b : Nat} {A : Option Addr} {l : List UInt8} (h : Bld w b A l) : Lib.IsBuilder 107 5 b b (Lib.byteCells l) w := by
  obtain ⟨ad, n, c, h1, h2, h3⟩ := h.ex
  have hn : (Lib.byteCells l).length = n := by rw [← h3.len]; simp [Lib.byteCells]
  have ha : Lib.BuilderAt 107 5 b b ad (Lib.byteCells l) w :=
    ⟨Nat.le_refl _, .slice A n c, h2, by rw [hn]; exact Ov.ge h3 (Nat.le_succ _), by
      rw [ownBlock_slice]
      intro e
      have := (h3.ab b e).1
      omega⟩
  rcases h1 with rfl | rfl
  · exact .inl ha
  · exact .inr ha

/-- What a write turns: the builder's block, its buffer, new ones. -/
structure BldBut (b : Nat) (A : Option Addr) (w w' : World) : Prop where
  os : w'.os = w.os
  tape : w'.tape = w.tape
  output : w'.output = w.output
  size : w.heap.size ≤ w'.heap.size
  block : ∀ k, k < w.heap.size → k ≠ b → ab A ≠ some k → w'.heap[k]? = w.heap[k]?
theorem BldBut.below {b : Nat} {A : Option Addr} {l : List UInt8} {w w' : World} (h : BldBut b A w w') (hA : ∀ g, ab A = some g → b < g) (hb : b ≤ w.heap.size) : Below b w w' :=
  ⟨h.os, h.tape, h.output, h.size, fun k hk => h.block k (by omega) (by omega) (fun e => by have := hA k e; omega)⟩

theorem lays240 : Go.Proofs.Lays.n240 Tryz.prog Tryz.lays156_ren := { Tryz.lays156 with }
theorem info_b8 : (Tryz.prog.info? 5).map (fun i => (i.zero, i.size, i.bytes)) = some (some (.int .u8 0), 1, 1) := by kernel_rfl

theorem copyCheck_any (b : Nat) (A : Option Addr) (l : List UInt8) (w : World) (h : Bld w b A l) :
    Calls Tryz.prog 94 #[.pointer (some ⟨b, 0, none⟩)] w fun e w' => e = .returned (.tuple #[]) ∧ Bld w' b A l ∧ w.grownBy w' (some b) := by
  obtain ⟨ad, n, c, h1, h2, h3⟩ := h.ex
  have c0 : w.cell? ⟨b, 0, none⟩ = some ad := by simp [World.cell?, h2]
  rcases h1 with rfl | rfl
  · refine (Any.Builder_copyCheck_fresh lays240 Tryz.Builder_Extra_156.toX72 b w c0 (by simp [World.shape?, h2]; rfl) (by simp [World.frozen?, h2])).mono ?_
    rintro e w' ⟨rfl, rfl⟩
    have hg : w.grownBy (w.setCell ⟨b, 0, none⟩ (.pointer (some ⟨b, 0, none⟩))) (some b) := grownBy_setCell' w b _
    refine ⟨rfl, ⟨_, n, c, .inr rfl, ?_, Ov.grown h3 hg (fun g hg e => by have := (h3.ab g hg).1; injection e with e; omega)⟩, hg⟩
    simp [World.setCell, Array.getElem?_modify, h2]
  · refine (Any.Builder_copyCheck_used lays240 Tryz.Builder_Extra_156.toX72 b w c0).mono ?_
    rintro e w' ⟨rfl, rfl⟩
    exact ⟨rfl, h, World.grownBy.refl _ _⟩

theorem wpList_append_sb {P : Program} (w : World) {ops : Array Oper} {rest : List Oper} {o : Oper} {a : Act} {Q : Exit → Act → World → Prop} (hgd : o.guard = none) (sl x : Operand) (t u : TypeId)
    (ho : o.op = .call { callee := .builtin .append, args := #[sl, x], argTypes := #[t, u] })
    (e : TypeId) (ht : P.underlying t = some (.slice e)) (hu : P.underlying u = some .string) (hi : (P.info? e).map (fun i => (i.zero, i.size, i.bytes)) = some (some (.int .u8 0), 1, 1))
    (base : Nat) (A : Option Addr) (n c : Nat) (l : List UInt8) (hs : a.eval sl = .slice A n c) (hown : Ob w base e A n c l) (s : ByteArray) (hx : a.eval x = .string s)
    (hlen : n + s.size ≤ 140737488355328) (hbase : base ≤ w.heap.size)
    (h : ∀ A' c' w', Ob w' base e A' (n + s.size) c' (l ++ s.data.toList) → w.grownBy w' (ab A) → (∀ g, ab A' = some g → ab A = some g ∨ w.heap.size ≤ g) → wpList P ops Q rest (a.put o.dst (.slice A' (n + s.size) c')) w') : wpList P ops Q (o :: rest) a w := by
  refine wpList_plain hgd fun K hK => ?_
  obtain ⟨A', c', w', hr, h2, h3, h4⟩ := run_append_s (P := P) w t u o.type e ht hu hi base A n c l hown s hlen hbase
  unfold Oper.wp execOp
  simp only [ho, resolve, invoke, builtin, Sem.run_bind, Sem.run_pure, Result.andThen_ok, List.map_toArray, List.map_cons, List.map_nil, hs, hx, hr]
  exact hK _ _ (h A' c' w' h2 h3 h4)

attribute [local go_sem] strL_size
set_option maxRecDepth 100000 in
theorem WriteString_any (b : Nat) (A : Option Addr) (l s : List UInt8) (w : World) (h : Bld w b A l) (hlen : l.length + s.length ≤ 140737488355328) :
    Calls Tryz.prog 72 #[.pointer (some ⟨b, 0, none⟩), .string (strL s)] w fun e w' => e = .returned (.tuple #[.int .i64 (s.length : Int), .nilIface]) ∧
      ∃ A', Bld w' b A' (l ++ s) ∧ BldBut b A w w' ∧ (∀ g, ab A' = some g → ab A = some g ∨ w.heap.size ≤ g) := by
  have hcc := copyCheck_any b A l w h
  replace hcc := Lib.hid hcc
  go_enter Tryz.func72, Tryz.ntmps72
  go_wp2_with fail
  refine hcc.out.mono ?_
  rintro e w1 ⟨rfl, h1, hg1⟩
  clear hcc
  have hbl := h.lt
  obtain ⟨ad, n, c, hA, hb, hO⟩ := h1.ex
  have hn := hO.len
  have c1 : w1.cell? ⟨b, 1, none⟩ = some (.slice A n c) := by simp [World.cell?, hb]
  have hab1 := h1.ab
  have hb1 := h1.lt
  have hne : some b ≠ ab A := fun e => by have := (hab1 b e.symm).1; omega
  go_wp2_with (at_builtin; refine wpList_append_sb _ rfl _ _ 61 9 rfl 5 Tryz.underlying61 Tryz.underlying9 info_b8 (b + 1) A n c l rfl hO (strL s) rfl (by rw [strL_size]; omega) (by omega) ?_; intro A' c' w2 hO2 hg2 hab2; rw [strL_size, strL_list] at hO2; have hb2 := (hg2.block b hb1 hne).trans hb; have x1 : w2.cell? ⟨b, 1, none⟩ = some (.slice A n c) := (by simp [World.cell?, hb2]); have f1 : w2.frozen? ⟨b, 1, none⟩ = false := (by simp [World.frozen?, hb2]))
  have hg3 : w2.grownBy (w2.setCell ⟨b, 1, none⟩ (.slice A' (n + s.length) c')) (some b) := grownBy_setCell_at w2 ⟨b, 1, none⟩ _
  have hO3 := Ov.grown hO2 hg3 (fun g hg e => by have := (hO2.ab g hg).1; injection e with e; omega)
  have hb3 : (w2.setCell ⟨b, 1, none⟩ (.slice A' (n + s.length) c')).heap[b]? = some (.cells #[ad, .slice A' (n + s.length) c'] 107 (0, 0)) := by
    simp [World.setCell, Array.getElem?_modify, hb2]
  have hbut : BldBut b A w (w2.setCell ⟨b, 1, none⟩ (.slice A' (n + s.length) c')) := by
    refine ⟨(hg3.os.trans hg2.os).trans hg1.os, (hg3.tape.trans hg2.tape).trans hg1.tape, (hg3.output.trans hg2.output).trans hg1.output, Nat.le_trans hg1.size (Nat.le_trans hg2.size hg3.size), fun k hk hkb hkA => ?_⟩
    have k1 := Nat.lt_of_lt_of_le hk hg1.size
    have k2 := Nat.lt_of_lt_of_le k1 hg2.size
    exact ((hg3.block k k2 (fun e => hkb (Option.some.inj e))).trans (hg2.block k k1 (fun e => hkA e.symm))).trans (hg1.block k hk (fun e => hkb (Option.some.inj e)))
  have hnew : ∀ g, ab A' = some g → ab A = some g ∨ w.heap.size ≤ g := fun g hg => (hab2 g hg).imp id (fun h => Nat.le_trans hg1.size h)
  go_ret2
  exact ⟨rfl, A', ⟨ad, _, c', hA, hb3, hO3⟩, hbut, hnew⟩

/-- (*strings.Builder).String. -/
theorem BString_any (b : Nat) (A : Option Addr) (l : List UInt8) (w : World) (h : Bld w b A l) :
    Calls Tryz.prog 73 #[.pointer (some ⟨b, 0, none⟩)] w fun e w' => e = .returned (.string (strL l)) ∧ Below b w w' :=
  Any.Builder_String_any { Tryz.lays156 with } Tryz.Builder_Extra_156 b b l w h.is (Nat.le_of_lt h.lt)
end Go.Proofs.YtcicmeggbkhniaaGreatDoor
