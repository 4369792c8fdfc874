/- value: bytes of two digits each. -/
import Derived.Test.YtcicmeggbkhniaaGreatDoorTextP
import Derived.Test.YtcicmeggbkhniaaGreatDoorEnv
import Derived.Test.YtcicmeggbkhniaaGreatDoorShelf
import Derived.Test.YtcicmeggbkhniaaGreatDoorReg
import Derived.Test.YtcicmeggbkhniaaGreatDoorConv
namespace Go.Proofs.YtcicmeggbkhniaaGreatDoor
open Go.RowKit
set_option linter.unusedVariables false

/-- The place of a digit; -1: it is none. -/
def digI (c : UInt8) : Int := match dig16 c with
  | some n => (n : Int)
  | none => -1
theorem digI_index (c : UInt8) : Lib.indexByte [48, 49, 50, 51, 52, 53, 54, 55, 56, 57, 97, 98, 99, 100, 101, 102] c = digI c := by
  have hall : ∀ n : Fin 256, Lib.indexByte [48, 49, 50, 51, 52, 53, 54, 55, 56, 57, 97, 98, 99, 100, 101, 102] (UInt8.ofNat n.val) = digI (UInt8.ofNat n.val) := by decide +kernel
  have := hall ⟨c.toNat, c.toNat_lt⟩
  simpa using this

/-- An error that is nil, or a fault of a text. -/
def errF (l : List UInt8) (n : Nat) : Value := if n = 0 then .nilIface else .iface 94 (.agg #[.string (strL l), .int .i64 (n : Int)])

theorem unwrap_any (l : ByteArray) (n : Int) (w : World) : Calls Tryz.prog 154 #[.agg #[.string l, .int .i64 n]] w fun e w' => e = .returned (.iface 29 (.int .i64 n)) ∧ Below w.heap.size w w' := by
  have hb : Below w.heap.size w (w.alloc (.cells #[.string l, .int .i64 n] 94)) := (Below.refl _ w).alloc (Nat.le_refl _) _
  go_enter Tryz.func154, Tryz.ntmps154
  go_wp2
  go_ret
  exact ⟨rfl, hb⟩
theorem why_any (l : List UInt8) (n : Nat) (w : World) (hE : Env w) : Calls Tryz.prog 32 #[errF l n] w fun e w' => e = .returned (.int .i64 (n : Int)) ∧ Below w.heap.size w w' := by
  unfold errF
  by_cases h : n = 0
  · subst h
    rw [if_pos rfl]
    exact number_nil w
  · rw [if_neg h]
    exact number_fault _ _ w hE (unwrap_any _ _)

theorem at_any (B : Nat) (l : List UInt8) (i : Nat) (hi : i < l.length) (hl : l.length ≤ 100000) (w : World) (hB : w.cell? ⟨B, 0, none⟩ = some (.string (strL l))) :
    Calls Tryz.prog 83 #[.int .i64 (i : Int), .pointer (some ⟨B, 0, none⟩)] w fun e w' => e = .returned (.int .i64 (digI l[i])) ∧ w = w' := by
  have hsz : (strL l).size = l.length := strL_size l
  have hget : ∀ h, (strL l)[i]'h = l[i] := fun h => rfl
  have hc := fun W => Tryz.strings_IndexByte { data := #[48, 49, 50, 51, 52, 53, 54, 55, 56, 57, 97, 98, 99, 100, 101, 102] } (l[i].toNat : Int) W
  have e1 : ((l[i].toNat : Int).toNat).toUInt8 = l[i] := by simp
  rw [e1, digI_index] at hc
  have hx := l[i].toNat_lt
  generalize digI l[i] = z at *
  replace hc := Lib.hid hc
  go_enter Tryz.func83, Tryz.ntmps83
  go_wp2_with fail
  refine (hc.out _).mono ?_
  rintro e w' ⟨rfl, rfl⟩
  clear hc
  go_wp2
  go_ret
  exact ⟨rfl, rfl⟩
end Go.Proofs.YtcicmeggbkhniaaGreatDoor
