/- A region that draws its order, by an invariant of what has come up; maps that are told by a table of what was put into them. Keys of a map that are pairs of numbers; no condition. -/
import Derived.Test.YtagoooclfcbdeaaGreatDoorReg
import Derived.Test.YtagoooclfcbdeaaGreatDoorMap
import Derived.Test.YtagoooclfcbdeaaGreatDoorVal
import Derived.Laws.StructEq
import Derived.DeepKeys3
namespace Go.Proofs.YtagoooclfcbdeaaGreatDoor
open Go.RowKit
set_option linter.unusedVariables false

/-- What has come up, and one more. -/
def upd (g : Nat → Bool) (k : Nat) : Nat → Bool := fun j => j == k || g j
theorem upd_self (g : Nat → Bool) (k : Nat) : upd g k k = true := by simp [upd]
theorem upd_ne (g : Nat → Bool) {k j : Nat} (h : j ≠ k) : upd g k j = g j := by simp [upd, h]
theorem upd_old {g : Nat → Bool} {j : Nat} (k : Nat) (h : g j = true) : upd g k j = true := by simp [upd, h]

section
variable {P : Program} {Q : Exit → Act → World → Prop} {md : Region.Mode} {I : (Nat → Bool) → Act → World → Prop}
/-- An operation keeps the invariant, whatever else has come up. -/
def StepI (P : Program) (ops : Array Oper) (Q : Exit → Act → World → Prop) (md : Region.Mode) (I : (Nat → Bool) → Act → World → Prop) (k : Nat) (o : Oper) : Prop :=
  ∀ g a w, g k = false → (∀ e ∈ o.after.toList, Region.binds md e = true → g e.on = true) → I g a w →
    ∀ K' : Act → World → Prop, Shut (∀ a w, I (upd g k) a w → K' a w) → if Region.wanted o (yielded ops a.tmps) = true then Oper.wp P o a w K' Q else K' (a.put o.dst undef) w
def StepsI (P : Program) (ops : Array Oper) (Q : Exit → Act → World → Prop) (md : Region.Mode) (I : (Nat → Bool) → Act → World → Prop) : Nat → List Oper → Prop
  | _, [] => True
  | k, o :: l => StepI P ops Q md I k o ∧ StepsI P ops Q md I (k + 1) l
/-- Each waits for earlier ones only. -/
def backB : Nat → List Oper → Bool
  | _, [] => true
  | k, o :: l => o.after.toList.all (fun e => decide (e.on < k)) && backB (k + 1) l
theorem backB_spec : ∀ (l : List Oper) (k : Nat), backB k l = true → ∀ i o, l[i]? = some o → ∀ e ∈ o.after, e.on < k + i
  | [], _, _, i, o, h => by simp at h
  | o :: l, k, hb, 0, o', h => by
    simp only [backB, Bool.and_eq_true] at hb
    simp at h
    subst h
    intro e he
    have := (List.all_eq_true.1 hb.1) e (by simpa using he)
    simpa using this
  | o :: l, k, hb, i + 1, o', h => by
    simp only [backB, Bool.and_eq_true] at hb
    intro e he
    have := backB_spec l (k + 1) hb.2 i o' (by simpa using h) e he
    omega
theorem StepsI_spec : ∀ (l : List Oper) (k : Nat) {ops : Array Oper}, StepsI P ops Q md I k l → ∀ i o, l[i]? = some o → StepI P ops Q md I (k + i) o
  | [], _, _, _, i, o, h => by simp at h
  | o :: l, k, ops, hs, 0, o', h => by simp at h; subst h; exact hs.1
  | o :: l, k, ops, hs, i + 1, o', h => by
    have := StepsI_spec l (k + 1) hs.2 i o' (by simpa using h)
    rwa [show k + 1 + i = k + (i + 1) by omega] at this
theorem count_put {listed : Array Bool} {i : Nat} (h : i < listed.size) (hf : listed[i] = false) : (listed.setIfInBounds i true).toList.count false + 1 = listed.toList.count false := by
  rw [Array.toList_setIfInBounds, List.count_set (by simpa using h)]
  have e : listed.toList[i]'(by simpa using h) = false := by simpa using hf
  have hp : 0 < listed.toList.count false := by
    rw [List.count_pos_iff]
    exact List.mem_iff_getElem.2 ⟨i, by simpa using h, e⟩
  have e2 : (listed.toList[i]'(by simpa using h) == false) = true := by rw [e]; rfl
  rw [if_pos e2, if_neg (by decide)]
  omega
/-- A region that draws its order, by what holds of each set of operations that has come up. -/
theorem wpAnyH_inv {l : List Oper} (hb : backB 0 l = true) (hs : StepsI P l.toArray Q md I 0 l) (hd : ∀ g a w, (∀ j, j < l.length → g j = true) → I g a w → Q .normal a w) :
    ∀ (fuel : Nat) (listed : Array Bool) (a : Act) (w : World), listed.size = l.length → listed.toList.count false ≤ fuel → I (fun j => listed.getD j false) a w → wpAnyH P md l.toArray Q (fun _ => True) fuel listed a w := by
  -- none may come up: all have
  have hall : ∀ (listed : Array Bool), listed.size = l.length → Region.ready md l.toArray listed = [] → ∀ j, j < l.length → listed.getD j false = true := by
    intro listed hz hr j
    induction j using Nat.strongRecOn with
    | ind j ih =>
      intro hj
      cases hg : listed.getD j false with
      | true => rfl
      | false =>
        exfalso
        have hm : j ∈ Region.ready md l.toArray listed := by
          rw [mem_ready]
          refine ⟨?_, l[j], by simp [hj], ?_⟩
          · have hj' : j < listed.size := by omega
            simp [Array.getD, hj'] at hg ⊢
            exact hg
          · intro e he _
            have h2 := backB_spec l 0 hb j l[j] (by simp [hj]) e he
            exact ih e.on (by omega) (by omega)
        rw [hr] at hm
        cases hm
  intro fuel
  induction fuel with
  | zero =>
    intro listed a w hz hc hI
    have hno : Region.ready md l.toArray listed = [] := by
      refine List.eq_nil_iff_forall_not_mem.2 fun i hi => ?_
      obtain ⟨hu, o, ho, -⟩ := mem_ready.1 hi
      have hil : i < l.length := by
        rcases Nat.lt_or_ge i l.length with h | h
        · exact h
        · simp [h] at ho
      have hi' : i < listed.size := by omega
      have hf : listed[i] = false := by simpa [Array.getD, hi'] using hu
      have := count_put hi' hf
      omega
    exact ⟨hno, hd _ a w (hall listed hz hno) hI⟩
  | succ fuel ih =>
    intro listed a w hz hc hI
    refine ⟨fun hno => hd _ a w (hall listed hz hno) hI, fun i hi => ?_⟩
    obtain ⟨hu, o, ho, haf⟩ := mem_ready.1 hi
    have hil : i < l.length := by
      rcases Nat.lt_or_ge i l.length with h | h
      · exact h
      · simp [h] at ho
    have hi' : i < listed.size := by omega
    have hf : listed[i] = false := by simpa [Array.getD, hi'] using hu
    have hst := StepsI_spec l 0 hs i o (by simpa using ho)
    rw [Nat.zero_add] at hst
    refine wpOp_step ho (fun K' hK => hst _ a w (by simp [Array.getD, hi', hf]) (fun e he hbi => haf e (by simpa using he) hbi) hI K' ?_)
    intro a' w' hI'
    refine hK a' w' ⟨trivial, ih _ a' w' (by simpa using hz) (by have := count_put hi' hf; omega) ?_⟩
    have : (fun j => (listed.setIfInBounds i true).getD j false) = upd (fun j => listed.getD j false) i := by
      funext j
      unfold upd
      by_cases hj : j = i
      · subst hj; simp [Array.getD, hi']
      · have hj2 : (j == i) = false := by simpa using hj
        rw [hj2, Bool.false_or]
        by_cases hjs : j < listed.size
        · simp [Array.getD, hjs, Ne.symm hj]
        · simp [Array.getD, hjs]
    rw [this]
    exact hI'
end

/-! ### Maps -/
/-- Keys of a map's type that are compared without more ado. -/
structure KLaw (P : Program) (kt : TypeId) (OK : Value → Prop) : Prop where
  check : ∀ (b : Bool) (v : Value) (w : World), OK v → (Instr.checkKey b 10000 kt v).run P w = .ok () w
  find : ∀ (k : Value) (es : List MapEntry) (w : World), OK k → (∀ e ∈ es, OK e.key) →
    ∃ r, (Instr.findKey kt k es).run P w = .ok r w ∧ ((r = none ∧ ∀ e ∈ es, e.key ≠ k) ∨ ∃ i e, r = some (i, e.val) ∧ e ∈ es ∧ e.key = k ∧ es[i]? = some e)

/-- A map that holds those rows of a table whose operations have come up. -/
def Tab (OK : Value → Prop) (w : World) (r : Nat) (T : List (Nat × Value × Value)) (g : Nat → Bool) : Prop :=
  ∃ es clock, w.heap[r]? = some (.map es clock) ∧ (∀ e ∈ es.toList, OK e.key) ∧ ∀ k v, (∃ e ∈ es.toList, e.key = k ∧ e.val = v) ↔ ∃ n, (n, k, v) ∈ T ∧ g n = true

section
variable {OK : Value → Prop} {w : World} {r : Nat} {T : List (Nat × Value × Value)} {g : Nat → Bool}
theorem Tab.lt (h : Tab OK w r T g) : r < w.heap.size := by
  obtain ⟨es, clock, h1, h2⟩ := h
  exact (Array.getElem?_eq_some_iff.1 h1).1
theorem Tab.new (hg : ∀ p ∈ T, g p.1 = false) : Tab OK (w.alloc (.map #[] 0)) w.heap.size T g := by
  refine ⟨#[], 0, heap_alloc_new w _, by simp, fun k v => ?_⟩
  constructor
  · rintro ⟨e, he, -⟩; simp at he
  · rintro ⟨n, hn, h⟩
    rw [hg _ hn] at h
    cases h
theorem Tab.same {w' : World} (h : Tab OK w r T g) (he : w'.heap[r]? = w.heap[r]?) : Tab OK w' r T g := by
  obtain ⟨es, clock, h1, h2⟩ := h
  exact ⟨es, clock, he.trans h1, h2⟩
theorem Tab.below {w' : World} (h : Tab OK w r T g) (hb : Below w.heap.size w w') : Tab OK w' r T g := h.same (hb.block r h.lt)
theorem Tab.kept {w' : World} {row : Option Nat} (h : Tab OK w r T g) (hg : w.grownBy w' row) (hne : some r ≠ row) : Tab OK w' r T g := h.same (hg.block r h.lt hne)
/-- The same rows have come up. -/
theorem Tab.swap {g' : Nat → Bool} (h : Tab OK w r T g) (hg : ∀ p ∈ T, g' p.1 = g p.1) : Tab OK w r T g' := by
  obtain ⟨es, clock, h1, h2, h3⟩ := h
  refine ⟨es, clock, h1, h2, fun k v => (h3 k v).trans ?_⟩
  constructor
  · rintro ⟨n, hn, h⟩; exact ⟨n, hn, (hg _ hn).trans h⟩
  · rintro ⟨n, hn, h⟩; exact ⟨n, hn, (hg _ hn).symm.trans h⟩
theorem Tab.more {k : Nat} (h : Tab OK w r T g) (hk : ∀ p ∈ T, p.1 ≠ k) : Tab OK w r T (upd g k) := h.swap fun p hp => upd_ne g (hk p hp)
end
/-- Rows are told apart by their numbers and by their keys. -/
def Apart (T : List (Nat × Value × Value)) : Prop := ∀ p ∈ T, ∀ q ∈ T, (p.1 = q.1 ↔ p = q) ∧ (p.2.1 = q.2.1 ↔ p = q)
section
variable {P : Program} {OK : Value → Prop} (t kt et : TypeId) (ht : P.underlying t = some (.map kt et)) (hk : KLaw P kt OK)
include ht hk
theorem Tab.look {w : World} {r : Nat} {T : List (Nat × Value × Value)} {g : Nat → Bool} (h : Tab OK w r T g) (hT : Apart T) {n : Nat} {k v : Value} (hok : OK k) (hm : (n, k, v) ∈ T) (hg : g n = true) :
    (∀ c, (Instr.lookup t (.map (some r)) k c).run P w = .ok (if c then .tuple #[v, .bool true] else v) w) := by
  obtain ⟨es, clock, h1, h2, h3⟩ := h
  obtain ⟨q, hq, h4⟩ := hk.find k es.toList w hok h2
  have hv : ∃ i, q = some (i, v) := by
    rcases h4 with ⟨-, h4⟩ | ⟨i, e, h4, h5, h6, -⟩
    · obtain ⟨e, h5, h6, -⟩ := (h3 k v).2 ⟨n, hm, hg⟩
      exact absurd h6 (h4 e h5)
    · obtain ⟨m, h7, -⟩ := (h3 k e.val).1 ⟨e, h5, h6, rfl⟩
      have h8 := ((hT _ hm _ h7).2).1 rfl
      injection h8 with _ h8
      injection h8 with _ h8
      exact ⟨i, by rw [h4, h8]⟩
  obtain ⟨i, rfl⟩ := hv
  intro c
  cases c <;> simp [Instr.lookup, run_underlying ht, MapKept.run_getObj_map h1, hk.check _ k w hok, hq, Result.andThen]
theorem Tab.lookNot {w : World} {r : Nat} {T : List (Nat × Value × Value)} {g : Nat → Bool} (h : Tab OK w r T g) {k : Value} (hok : OK k) (hm : ∀ p ∈ T, p.2.1 ≠ k) (z : Value) (hz : ∀ w, (zeroValue et).run P w = .ok z w) :
    (∀ c, (Instr.lookup t (.map (some r)) k c).run P w = .ok (if c then .tuple #[z, .bool false] else z) w) := by
  obtain ⟨es, clock, h1, h2, h3⟩ := h
  obtain ⟨q, hq, h4⟩ := hk.find k es.toList w hok h2
  have hv : q = none := by
    rcases h4 with ⟨h4, -⟩ | ⟨i, e, h4, h5, h6, -⟩
    · exact h4
    · obtain ⟨m, h7, -⟩ := (h3 k e.val).1 ⟨e, h5, h6, rfl⟩
      exact absurd rfl (hm _ h7)
  subst hv
  intro c
  cases c <;> simp [Instr.lookup, run_underlying ht, MapKept.run_getObj_map h1, hk.check _ k w hok, hq, hz, Result.andThen]
theorem Tab.insert {w : World} {r : Nat} {T : List (Nat × Value × Value)} {g : Nat → Bool} (h : Tab OK w r T g) (hT : Apart T) {n : Nat} {k v : Value} (hok : OK k) (hm : (n, k, v) ∈ T) (hg : g n = false) :
    ∃ w', (Instr.mapUpdate t (.map (some r)) k v).run P w = .ok () w' ∧ Tab OK w' r T (upd g n) ∧ w.grownBy w' (some r) := by
  obtain ⟨es, clock, h1, h2, h3⟩ := h
  obtain ⟨q, hq, h4⟩ := hk.find k es.toList w hok h2
  have hv : q = none := by
    rcases h4 with ⟨h4, -⟩ | ⟨i, e, h4, h5, h6, -⟩
    · exact h4
    · obtain ⟨m, h7, h8⟩ := (h3 k e.val).1 ⟨e, h5, h6, rfl⟩
      have h9 := ((hT _ hm _ h7).2).1 rfl
      injection h9 with h9 _
      subst h9
      rw [hg] at h8
      cases h8
  subst hv
  refine ⟨w.putObj r (.map (es.push ⟨k, v, clock⟩) (clock + 1)), ?_, ⟨es.push ⟨k, v, clock⟩, clock + 1, ?_, ?_, ?_⟩, ?_⟩
  · simp [Instr.mapUpdate, run_underlying ht, MapKept.run_getObj_map h1, hk.check _ k w hok, hq, MapKept.run_setObj_map _ h1, Result.andThen, World.putObj]
  · exact World.putObj_heap_same (Array.getElem?_eq_some_iff.1 h1).1
  · intro e he
    simp only [Array.toList_push, List.mem_append, List.mem_singleton] at he
    rcases he with he | rfl
    · exact h2 e he
    · exact hok
  · intro k' v'
    constructor
    · rintro ⟨e, he, he2⟩
      simp only [Array.toList_push, List.mem_append, List.mem_singleton] at he
      rcases he with he | rfl
      · obtain ⟨m, h5, h6⟩ := (h3 k' v').1 ⟨e, he, he2⟩
        exact ⟨m, h5, upd_old n h6⟩
      · obtain ⟨rfl, rfl⟩ := he2
        exact ⟨n, hm, upd_self g n⟩
    · rintro ⟨m, h5, h6⟩
      by_cases hmn : m = n
      · subst hmn
        have h9 := ((hT _ hm _ h5).1).1 rfl
        injection h9 with _ h9
        injection h9 with h9 h10
        subst h9 h10
        exact ⟨⟨k, v, clock⟩, by simp, rfl, rfl⟩
      · rw [upd_ne g hmn] at h6
        obtain ⟨e, he, he2⟩ := (h3 k' v').2 ⟨m, h5, h6⟩
        exact ⟨e, by simp [he], he2⟩
  · exact grownBy_putObj' _ _ _
end
theorem klaw_int {P : Program} {kt : TypeId} {q : IntKind} (hk : P.underlying kt = some (.int q)) : KLaw P kt (fun v => ∃ n, v = .int q n) where
  check := by
    rintro b v w ⟨n, rfl⟩
    exact run_checkKey kt hk n b w
  find := by
    rintro k es w ⟨n, rfl⟩ hes
    have key : ∀ (es : List MapEntry) (i : Nat), (∀ e ∈ es, ∃ n, e.key = .int q n) → ∃ r, Instr.findNow (.int q) (.int q n) es i = some r ∧ ((r = none ∧ ∀ e ∈ es, e.key ≠ .int q n) ∨ ∃ j e, r = some (i + j, e.val) ∧ e ∈ es ∧ e.key = .int q n ∧ es[j]? = some e) := by
      intro es
      induction es with
      | nil => intro i _; exact ⟨none, rfl, .inl ⟨rfl, by simp⟩⟩
      | cons e es ih =>
        intro i he
        obtain ⟨m, hm⟩ := he e (by simp)
        unfold Instr.findNow
        rw [hm]
        simp only [Instr.sameNow, if_true]
        by_cases hnm : n = m
        · subst hnm
          exact ⟨some (i, e.val), by simp, .inr ⟨0, e, rfl, by simp, hm, rfl⟩⟩
        · have : (n == m) = false := by simpa using hnm
          rw [this]
          obtain ⟨r, h1, h2⟩ := ih (i + 1) fun e' h' => he e' (by simp [h'])
          refine ⟨r, h1, ?_⟩
          rcases h2 with ⟨h2, h3⟩ | ⟨j, e', h2, h3, h4, h5⟩
          · refine .inl ⟨h2, ?_⟩
            intro e' h'
            rcases List.mem_cons.1 h' with rfl | h'
            · rw [hm]; simpa using Ne.symm hnm
            · exact h3 e' h'
          · exact .inr ⟨j + 1, e', by rw [h2]; congr 2; omega, by simp [h3], h4, by simpa using h5⟩
    obtain ⟨r, h1, h2⟩ := key es 0 hes
    refine ⟨r, ?_, by simpa using h2⟩
    unfold Instr.findKey
    simp [Sem.run_bind, run_underlying hk, h1]
end Go.Proofs.YtagoooclfcbdeaaGreatDoor
namespace Go.Proofs.YtagoooclfcbdeaaGreatDoor
open Go.RowKit
set_option linter.unusedVariables false

def pr2 (a b : Int) : Value := .agg #[.int .i64 a, .int .i64 b]
theorem pr2_inj {a b c d : Int} : pr2 a b = pr2 c d ↔ a = c ∧ b = d := by simp [pr2]
theorem run_check2 (m : Bool) (a b : Int) (w : World) : (Instr.checkKey m 10000 105 (pr2 a b)).run Tryz.prog w = .ok () w := by
  have u3 := Tryz.underlying22
  have a3 := Tryz.isAgg22
  have z3 := Tryz.sizeOf22
  rw [show (10000 : Nat) = 9999 + 1 from rfl, Instr.checkKey]
  unfold pr2
  simp only [Sem.run_bind, run_underlying Tryz.underlying105, Result.andThen_ok]
  simp only [Std.Legacy.Range.forIn_eq_forIn_range', Std.Legacy.Range.size, Nat.sub_zero, Nat.add_sub_cancel, Nat.div_one, List.range'_succ, List.range'_zero, List.forIn_cons, List.forIn_nil]
  have h1 : ∀ n w, (Instr.checkKey m 9999 22 (.int .i64 n)).run Tryz.prog w = .ok () w := by
    intro n w
    rw [show (9999 : Nat) = 9998 + 1 from rfl, Instr.checkKey]
    simp [Sem.run_bind, run_underlying u3]
  go_simp
theorem run_eq2 (a b c d : Int) (w : World) : (Op.equal 105 (pr2 a b) (pr2 c d)).run Tryz.prog w = .ok (a == c && b == d) w := by
  have u3 := Tryz.underlying22
  have a3 := Tryz.isAgg22
  have z3 := Tryz.sizeOf22
  unfold Op.equal pr2
  rw [show Op.maxDepth = 9999 + 1 from rfl, Op.equalIn]
  simp only [Sem.run_bind, run_underlying Tryz.underlying105, Result.andThen_ok]
  simp only [Std.Legacy.Range.forIn_eq_forIn_range', Std.Legacy.Range.size, Nat.sub_zero, Nat.add_sub_cancel, Nat.div_one, List.range'_succ, List.range'_zero, List.forIn_cons, List.forIn_nil]
  go_simp
  by_cases h1 : a = c <;> by_cases h2 : b = d <;> simp [h1, h2]
theorem klaw_pair : KLaw Tryz.prog 105 (fun v => ∃ a b, v = pr2 a b) where
  check := by
    rintro m v w ⟨a, b, rfl⟩
    exact run_check2 m a b w
  find := by
    rintro k es w ⟨a, b, rfl⟩ hes
    have key : ∀ (es : List MapEntry) (i : Nat) (w : World), (∀ e ∈ es, ∃ c d, e.key = pr2 c d) → ∃ r, (Instr.findAsking 105 (pr2 a b) es i).run Tryz.prog w = .ok r w ∧ ((r = none ∧ ∀ e ∈ es, e.key ≠ pr2 a b) ∨ ∃ j e, r = some (i + j, e.val) ∧ e ∈ es ∧ e.key = pr2 a b ∧ es[j]? = some e) := by
      intro es
      induction es with
      | nil => intro i w _; exact ⟨none, by simp [Instr.findAsking], .inl ⟨rfl, by simp⟩⟩
      | cons e es ih =>
        intro i w he
        obtain ⟨c, d, hm⟩ := he e (by simp)
        unfold Instr.findAsking
        rw [hm]
        simp only [Sem.run_bind, run_eq2, Result.andThen_ok]
        by_cases hnm : a = c ∧ b = d
        · obtain ⟨rfl, rfl⟩ := hnm
          exact ⟨some (i, e.val), by simp, .inr ⟨0, e, rfl, by simp, hm, rfl⟩⟩
        · have hf : (a == c && b == d) = false := by
            cases h : (a == c && b == d)
            · rfl
            · simp at h; exact absurd h hnm
          rw [hf]
          obtain ⟨r, h1, h2⟩ := ih (i + 1) w fun e' h' => he e' (by simp [h'])
          refine ⟨r, by simpa using h1, ?_⟩
          rcases h2 with ⟨h2, h3⟩ | ⟨j, e', h2, h3, h4, h5⟩
          · refine .inl ⟨h2, ?_⟩
            intro e' h'
            rcases List.mem_cons.1 h' with rfl | h'
            · rw [hm]; intro hh; exact hnm ⟨(pr2_inj.1 hh).1.symm, (pr2_inj.1 hh).2.symm⟩
            · exact h3 e' h'
          · exact .inr ⟨j + 1, e', by rw [h2]; congr 2; omega, by simp [h3], h4, by simpa using h5⟩
    have hu := Tryz.underlying105
    unfold Instr.findKey
    cases es with
    | nil => exact ⟨none, by simp [run_underlying hu, Instr.findNow], .inl ⟨rfl, by simp⟩⟩
    | cons e es =>
      obtain ⟨r, h1, h2⟩ := key (e :: es) 0 w hes
      refine ⟨r, ?_, by simpa using h2⟩
      simp [Sem.run_bind, run_underlying hu, Instr.findNow, Instr.sameNow, h1]
end Go.Proofs.YtagoooclfcbdeaaGreatDoor
