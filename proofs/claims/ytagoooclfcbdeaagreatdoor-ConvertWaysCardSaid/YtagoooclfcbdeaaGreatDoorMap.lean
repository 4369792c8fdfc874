/- Maps whose keys are numbers, by what they hold, in the order in which it came. -/
import Derived.Test.YtagoooclfcbdeaaGreatDoorBase
import Derived.Maps.Keyed
import Derived.RangeFuncOwn
namespace Go.Proofs.YtagoooclfcbdeaaGreatDoor
open Go.RowKit
set_option linter.unusedVariables false

/-- A map with these keys and values. -/
def IMap (w : World) (r : Nat) (q : IntKind) (l : List (Int × Value)) : Prop :=
  ∃ es clock, w.heap[r]? = some (.map es clock) ∧ es.toList.map (fun e => (e.key, e.val)) = l.map fun p => (Value.int q p.1, p.2)

theorem IMap.new (w : World) (q : IntKind) : IMap (w.alloc (.map #[] 0)) w.heap.size q [] := ⟨#[], 0, heap_alloc_new w _, rfl⟩
theorem IMap.below {w w' : World} {r : Nat} {q : IntKind} {l : List (Int × Value)} (h : IMap w r q l) (hb : Below w.heap.size w w') : IMap w' r q l := by
  obtain ⟨es, clock, h1, h2⟩ := h
  exact ⟨es, clock, (hb.block r (Array.getElem?_eq_some_iff.1 h1).1).trans h1, h2⟩
theorem IMap.lt {w : World} {r : Nat} {q : IntKind} {l : List (Int × Value)} (h : IMap w r q l) : r < w.heap.size := by
  obtain ⟨es, clock, h1, h2⟩ := h
  exact (Array.getElem?_eq_some_iff.1 h1).1

theorem IMap.kept {w w' : World} {r : Nat} {q : IntKind} {l : List (Int × Value)} {row : Option Nat} (h : IMap w r q l) (hg : w.grownBy w' row) (hne : some r ≠ row) : IMap w' r q l := by
  obtain ⟨es, clock, h1, h2⟩ := h
  exact ⟨es, clock, (hg.block r (Array.getElem?_eq_some_iff.1 h1).1 hne).trans h1, h2⟩

/-- What is found under a key: its place, and the value. -/
def seek (k : Int) : List (Int × Value) → Nat → Option (Nat × Value)
  | [], _ => none
  | p :: l, i => if k = p.1 then some (i, p.2) else seek k l (i + 1)

theorem findNow_seek (q : IntKind) (k : Int) : ∀ (es : List MapEntry) (l : List (Int × Value)) (i : Nat), es.map (fun e => (e.key, e.val)) = l.map (fun p => (Value.int q p.1, p.2)) →
    Instr.findNow (.int q) (.int q k) es i = some (seek k l i)
  | [], [], _, _ => rfl
  | [], _ :: _, _, h => by simp at h
  | _ :: _, [], _, h => by simp at h
  | e :: es, p :: l, i, h => by
    simp only [List.map_cons, List.cons.injEq, Prod.mk.injEq] at h
    obtain ⟨⟨h1, h2⟩, h3⟩ := h
    unfold Instr.findNow
    rw [h1]
    simp only [Instr.sameNow, if_true]
    by_cases hk : k = p.1
    · rw [seek, if_pos hk]
      simp [hk, h2]
    · rw [seek, if_neg hk]
      have : (k == p.1) = false := by simpa using hk
      rw [this]
      exact findNow_seek q k es l (i + 1) h3

section
variable {P : Program} {q : IntKind} (kt : TypeId) (hk : P.underlying kt = some (.int q))
include hk
theorem run_findKey (k : Int) (es : Array MapEntry) (l : List (Int × Value)) (h : es.toList.map (fun e => (e.key, e.val)) = l.map fun p => (Value.int q p.1, p.2)) (w : World) :
    (Instr.findKey kt (.int q k) es.toList).run P w = .ok (seek k l 0) w := by
  unfold Instr.findKey
  simp [Sem.run_bind, run_underlying hk, findNow_seek q k es.toList l 0 h]
theorem run_checkKey (k : Int) (b : Bool) (w : World) : (Instr.checkKey b 10000 kt (.int q k)).run P w = .ok () w := by
  unfold Instr.checkKey
  simp [Sem.run_bind, run_underlying hk]
end
section
variable {P : Program} {q : IntKind} (t kt et : TypeId) (ht : P.underlying t = some (.map kt et)) (hk : P.underlying kt = some (.int q))
include ht hk
theorem IMap.look {w : World} {r : Nat} {l : List (Int × Value)} (h : IMap w r q l) (k : Int) (i : Nat) (v : Value) (hv : seek k l 0 = some (i, v)) :
    (Instr.lookup t (.map (some r)) (.int q k) true).run P w = .ok (.tuple #[v, .bool true]) w := by
  obtain ⟨es, clock, h1, h2⟩ := h
  simp [Instr.lookup, run_underlying ht, MapKept.run_getObj_map h1, run_checkKey kt hk, run_findKey kt hk k es l h2, hv, Result.andThen]
theorem IMap.look1 {w : World} {r : Nat} {l : List (Int × Value)} (h : IMap w r q l) (k : Int) (i : Nat) (v : Value) (hv : seek k l 0 = some (i, v)) :
    (Instr.lookup t (.map (some r)) (.int q k) false).run P w = .ok v w := by
  obtain ⟨es, clock, h1, h2⟩ := h
  simp [Instr.lookup, run_underlying ht, MapKept.run_getObj_map h1, run_checkKey kt hk, run_findKey kt hk k es l h2, hv, Result.andThen]
theorem IMap.lookNot {w : World} {r : Nat} {l : List (Int × Value)} (h : IMap w r q l) (k : Int) (z : Value) (hz : ∀ w, (zeroValue et).run P w = .ok z w) (hv : seek k l 0 = none) :
    (Instr.lookup t (.map (some r)) (.int q k) true).run P w = .ok (.tuple #[z, .bool false]) w := by
  obtain ⟨es, clock, h1, h2⟩ := h
  simp [Instr.lookup, run_underlying ht, MapKept.run_getObj_map h1, run_checkKey kt hk, run_findKey kt hk k es l h2, hv, hz, Result.andThen]
theorem IMap.insert {w : World} {r : Nat} {l : List (Int × Value)} (h : IMap w r q l) (k : Int) (v : Value) (hv : seek k l 0 = none) :
    ∃ w', (Instr.mapUpdate t (.map (some r)) (.int q k) v).run P w = .ok () w' ∧ IMap w' r q (l ++ [(k, v)]) ∧ w.grownBy w' (some r) := by
  obtain ⟨es, clock, h1, h2⟩ := h
  refine ⟨w.putObj r (.map (es.push ⟨.int q k, v, clock⟩) (clock + 1)), ?_, ⟨es.push ⟨.int q k, v, clock⟩, clock + 1, ?_, ?_⟩, ?_⟩
  · simp [Instr.mapUpdate, run_underlying ht, MapKept.run_getObj_map h1, run_checkKey kt hk, run_findKey kt hk k es l h2, hv, MapKept.run_setObj_map _ h1, Result.andThen, World.putObj]
  · exact World.putObj_heap_same (Array.getElem?_eq_some_iff.1 h1).1
  · simp [h2]
  · exact grownBy_putObj' _ _ _
end
end Go.Proofs.YtagoooclfcbdeaaGreatDoor
