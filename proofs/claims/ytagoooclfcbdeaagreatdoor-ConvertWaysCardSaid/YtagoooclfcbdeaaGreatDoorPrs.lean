/- strconv.ParseUint and ParseInt at base 10 and 64 bits: a number, or an error. -/
import Derived.Test.YtagoooclfcbdeaaGreatDoorEnv
import Derived.Test.YtagoooclfcbdeaaGreatDoorShelf
import Derived.Test.YtagoooclfcbdeaaGreatDoorNum
import Derived.Lib.AtoiErrMem
import Derived.Lib.ParseIntBTie
namespace Go.Proofs.YtagoooclfcbdeaaGreatDoor
open Go.RowKit
set_option linter.unusedVariables false

theorem ParseU_ok (t : List UInt8) (u : Nat) (w : World) (ht : t.length ≤ 100000) (h : Lib.parseUintB 64 t = .ok u) :
    Calls Tryz.prog 107 #[.string (strL t), .int .i64 10, .int .i64 64] w fun e w' => e = .returned (.tuple #[.int .u64 (u : Int), .nilIface]) ∧ Below w.heap.size w w' :=
  (Tryz.strconv_ParseUint_10_at64_ok (strL t) (by rw [strL_size]; omega) u h w).mono fun e w' ⟨he, hw⟩ => ⟨he, by
    rcases hw with rfl | rfl
    · exact Below.refl _ _
    · exact Lib.bytesWorld_below _ _ _⟩
theorem ParseU_bad (t : List UInt8) (w : World) (hE : Env w) (ht : t.length ≤ 100000) (h : ∀ u, Lib.parseUintB 64 t ≠ .ok u) :
    Calls Tryz.prog 107 #[.string (strL t), .int .i64 10, .int .i64 64] w fun e w' => ∃ (v : Int) (N : Nat), e = .returned (.tuple #[.int .u64 v, .iface 196 (.pointer (some ⟨N, 0, none⟩))]) ∧ Below w.heap.size w w' := by
  obtain ⟨t1, p1, hs⟩ := hE.syn
  obtain ⟨t2, p2, hr⟩ := hE.ran
  cases hp : Lib.parseUintB 64 t with
  | ok u => exact absurd hp (h u)
  | range => exact (Tryz.strconv_ParseUint_10_at64_range_var (strL t) (by rw [strL_size]; omega) hp t2 p2 w hr).mono fun e w' ⟨N, he, _, _, hb⟩ => ⟨_, N, he, hb⟩
  | _ => exact (Tryz.strconv_ParseUint_10_at64_syntax_var (strL t) (by rw [strL_size]; omega) (fun v e => by have z := hp.symm.trans e; cases z) (fun e => by have z := hp.symm.trans e; cases z) t1 p1 w hs).mono fun e w' ⟨N, he, _, _, hb⟩ => ⟨_, N, he, hb⟩
theorem ParseI_ok (t : List UInt8) (v : Int) (w : World) (ht : t.length ≤ 100000) (h : Lib.parseIntB 64 t = .ok v) :
    Calls Tryz.prog 103 #[.string (strL t), .int .i64 10, .int .i64 64] w fun e w' => e = .returned (.tuple #[.int .i64 v, .nilIface]) ∧ Below w.heap.size w w' :=
  (Tryz.strconv_ParseInt_10_at64_ok (strL t) (by rw [strL_size]; omega) v h w).mono fun e w' ⟨he, hw⟩ => ⟨he, by
    rcases hw with rfl | ⟨t, rfl⟩
    · exact Below.refl _ _
    · exact Lib.bytesWorld_below _ _ _⟩
theorem ParseI_bad (t : List UInt8) (w : World) (hE : Env w) (ht : t.length ≤ 100000) (h : ∀ u, Lib.parseIntB 64 t ≠ .ok u) :
    Calls Tryz.prog 103 #[.string (strL t), .int .i64 10, .int .i64 64] w fun e w' => ∃ (v : Int) (N : Nat), e = .returned (.tuple #[.int .i64 v, .iface 196 (.pointer (some ⟨N, 0, none⟩))]) ∧ Below w.heap.size w w' := by
  obtain ⟨t1, p1, hs⟩ := hE.syn
  obtain ⟨t2, p2, hr⟩ := hE.ran
  cases hp : Lib.parseIntB 64 t with
  | ok u => exact absurd hp (h u)
  | range => exact (Tryz.strconv_ParseInt_10_at64_range_var (strL t) (by rw [strL_size]; omega) hp t2 p2 w hr).mono fun e w' ⟨N, he, _, _, hb⟩ => ⟨_, N, he, hb⟩
  | _ => exact (Tryz.strconv_ParseInt_10_at64_syntax_var (strL t) (by rw [strL_size]; omega) (fun v e => by have z := hp.symm.trans e; cases z) (fun e => by have z := hp.symm.trans e; cases z) t1 p1 w hs).mono fun e w' ⟨N, he, _, _, hb⟩ => ⟨_, N, he, hb⟩
theorem parseIntB_le {t : List UInt8} {v : Int} (h : Lib.parseIntB 64 t = .ok v) : -9223372036854775808 ≤ v ∧ v ≤ 9223372036854775807 := by
  have h1 := Lib.parseIntB_bounds h
  have h2 : (2 ^ (64 - 1) : Nat) = 9223372036854775808 := rfl
  rw [h2] at h1
  omega
theorem parseUintB_lt {t : List UInt8} {u : Nat} (h : Lib.parseUintB 64 t = .ok u) : u < 18446744073709551616 := by
  have := ((parseUintB_ok t u).1 h)
  omega
end Go.Proofs.YtagoooclfcbdeaaGreatDoor
